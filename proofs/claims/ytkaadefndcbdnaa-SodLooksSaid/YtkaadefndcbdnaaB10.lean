/- Package sod: which spits are finished. -/
import Derived.Test.YtkaadefndcbdnaaB9
import Derived.Test.YtkaadefndcbdnaaBt
namespace Go.Proofs.Ytkaadefndcbdnaa
open Go.RowKit
def SureV (s : Sd) (day : Int) : Nat := if errE s (DayOk s day) = 0 then sureV s day.toNat else 0
def CanV (s : Sd) (day : Int) : Nat := if errE s (DayOk s day) = 0 then canV s day.toNat else 0
theorem bitsOf_lt (f : Nat → Bool) : ∀ n, bitsOf f n < 2 ^ n
  | 0 => by simp [bitsOf]
  | n + 1 => by
    have := bitsOf_lt f n
    unfold bitsOf
    rw [Nat.pow_succ]
    split <;> omega
theorem bitsOf_or {f : Nat → Bool} {n : Nat} (h : f n = true) : bitsOf f n ||| 2 ^ n = bitsOf f (n + 1) := by
  have h1 : bitsOf f (n + 1) = bitsOf f n + 2 ^ n := by show bitsOf f n + (if f n then 2 ^ n else 0) = _; rw [if_pos h]
  rw [h1, Nat.add_comm, Nat.or_comm]
  have := Nat.two_pow_add_eq_or_of_lt (bitsOf_lt f n) 1
  simp only [Nat.mul_one] at this
  exact this.symm
theorem bitsOf_no {f : Nat → Bool} {n : Nat} (h : f n = false) : bitsOf f (n + 1) = bitsOf f n := by
  show bitsOf f n + (if f n then 2 ^ n else 0) = _
  rw [if_neg (by rw [h]; simp)]; rfl
attribute [local irreducible] AnyO AnyB QAny QB EWalk AWalk Ev WP OPS QThen QBlock QScope QLoop QBody Val New Turn Tri Enters PostA Blk Ro
attribute [local irreducible] AnyC QC
section
variable (N : Nat) (w0 : World)
theorem Finished1_ret (g : Fg) (b3 : Nat) (day : Int) (b m : Nat) (L' : Hp) (hS : Sub ((b, Blk 128 (faceL { g with b := b, m := m })) :: [(b3, Blk 3 [.int .i64 day])]) L') (hv : VS g.s) :
    Ret Try.prog N w0 L' 70 (.pointer (some ⟨b, 0, none⟩) :: [.pointer (some ⟨b3, 0, none⟩)]).toArray (.bool (DayOk g.s day)) := by
  have hnd := hv.nd
  have m1 := hS.mem .here
  have m2 := hS.mem (.there .here)
  have hid := fun L hm => isDay_ret N w0 L { g with b := b, m := m } day hm (by show g.s.days.length ≤ 1000; omega)
  refine tri_of_WP Try.func70 rfl (n := 7) rfl (by simp) ?_
  repeat' (first | (refine GiP ?_; first | (refine Znh ?_) | (with_reducible refine Znl ?_)) | (refine GiW ?_; first | (refine Zsq fun K hK => ?_) | (refine ZrN 0 fun _ => ?_; refine Zv Zab ?_) | (refine ZrN 1 fun _ => ?_; refine Zv Zmv ?_; refine Zv Zld ?_; refine Zcl (Enters_fn rfl) (hid _ (by repeat (first | exact Mem.here | assumption | apply Mem.there | apply Mem.sv | apply Mem.app))) ?_; refine Zv Zab ?_) | (with_reducible apply WP_ret)) | (refine Zhn ?_) | (refine Zhr ?_))
  exact QBody_ret1 rfl (rfl : _ = Value.bool _) ⟨rfl, rfl⟩
theorem allB_tri2 (L : Hp) (g : Fg) (hS : Sub (Fk g) L) (hv : VS g.s) (hA : SodAt N w0 g) (q : FuncId) [HasBody Try.prog q] (cc : List Value) (mq : List Int → Bool × Bool) (nd : Hp) (hN : Sub nd L)
    (hq : ∀ x y z : Int, [x, y, z] ∈ toldC g.s → ∀ L', Sub nd L' → Ret Try.prog N w0 L' q (.agg [.int .i64 x, .int .i64 y, .int .i64 z].toArray :: .agg (logL g.s [x, y, z]).toArray :: cc).toArray (.agg (bbL (mq [x, y, z])).toArray)) :
    Tri Try.prog N w0 L 71 [.pointer (some ⟨g.b, 0, none⟩), .agg [.func (.func q) #[] cc.toArray].toArray].toArray fun x L' => ∃ v, x = .returned v ∧ ∃ A c s, v = .slice A ((toldC g.s).map mq).length c ∧ L' = svH 105 2 (toldC g.s).length (((toldC g.s).map mq).flatMap bbL) s L ∧ ∀ L1, Wk L1 (svH 105 2 (toldC g.s).length (((toldC g.s).map mq).flatMap bbL) s []) → RdRows N w0 L1 A 2 (((toldC g.s).map mq).map bbL) := by
  refine (allB_tri N w0 L g hS hv hA q cc mq nd hN hq).mono ?_
  rintro x L' ⟨v, rfl, s, rfl, hs, rfl⟩
  obtain ⟨A, c, h1, h2⟩ := RdRows.sv (E := 105) (by omega) hs
  exact ⟨_, rfl, A, c, s, by rw [h1, List.length_map], rfl, fun L1 hw => h2 N w0 L1 _ hw (by rw [List.flatMap_def]) (map_len (f := bbL) (fun _ => rfl) _)⟩
set_option maxHeartbeats 4000000 in
theorem Finished_ret (L : Hp) (g : Fg) (hA : SodAt N w0 g) (hb1 : g.s.days.length ≤ 1000) (day : Int) :
    Ret Try.prog N w0 L 22 [sodV g, .int .i64 day].toArray (.tuple [.int .i64 (SureV g.s day : Int), .int .i64 (CanV g.s day : Int), .int .i64 (errE g.s (DayOk g.s day))].toArray) := by
  refine Ret.fgt ?_
  refine tri_of_WPL Try.func22 rfl (n := _) rfl (by simp) ?_
  have hop : ∀ (b3 : Nat) (L : Hp), Sub [(b3, Blk 3 [.int .i64 day])] L → OpenR N w0 g (DayOk g.s day) 70 [.pointer (some ⟨b3, 0, none⟩)] L := fun b3 L h =>
    open_tri N w0 L g hA hb1 _ 70 _ _ h (fun b m L' h h2 => Finished1_ret N w0 g b3 day b m L' h h2)
  by_cases hok : vB g.s = true ∧ DayOk g.s day = true
  · obtain ⟨hvb, hdo⟩ := hok
    have hv := VS_of hvb
    obtain ⟨j, rfl, hj⟩ := DayOk_nat hdo
    have hop' := fun b3 L h => open_okc (hop b3 L h) hvb hdo
    have hA' : ∀ b m, SodAt N w0 { g with b := b, m := m } := fun b m => ⟨hA.spits, hA.days, hA.logs, hA.cap1, hA.cap3⟩
    cases h0 : someB g.s with
    | false =>
      have he : errE g.s (DayOk g.s j) = 10 := errE_10 hvb hdo h0
      have hz : SureV g.s j = 0 ∧ CanV g.s j = 0 := by unfold SureV CanV; rw [he, if_neg (by omega), if_neg (by omega)]; exact ⟨rfl, rfl⟩
      have htold := fun b m L hS => told_no N w0 L { g with b := b, m := m } hS hv (hA' b m) h0
      rw [he, hz.1, hz.2]
      unfold sodV sdL at hop' ⊢
      repeat' (first | (refine GiP ?_; first | (refine Znh ?_) | (with_reducible refine Znl ?_) | (refine Zatd 7 ?_; refine Zal 7 fun b7 => ?_; refine Zst ?_)) | (refine GiW ?_; first | (refine Zsq fun K hK => ?_) | (refine ZrN 0 fun _ => ?_; refine Zal 2 fun b2 => ?_; refine Zal 3 fun b3 => ?_; refine Zv Zai ?_; refine Zv Zai ?_; refine Zal 6 fun b6 => ?_) | (refine ZrN 1 fun _ => ?_; refine OPS_deferA rfl rfl ?_) | (refine ZrN 2 fun _ => ?_; refine Zv Zla ?_; refine Zv Val_makeFunc ?_; refine OPS_retKS (Enters_fn rfl) (hop' b3 _ (by repeat (first | exact Sub.refl _ | assumption | exact Sub.left | apply Sub.cons | apply Sub.sv | apply Sub.app))) rfl rfl rfl (fun v8 L8 h8 => ?_); obtain ⟨bb, mm, rfl, rfl⟩ := h8; refine OPS_pan (Enters_fn rfl) (htold bb mm _ (by repeat (first | exact Sub.refl _ | assumption | exact Sub.left | apply Sub.cons | apply Sub.sv | apply Sub.app))) rfl rfl ?_) | (refine WP_cond_true rfl ?_) | (refine WP_cond_false rfl ?_) | (refine Zcd (fun hc => ?_) (fun hc => ?_) <;> (try (exfalso; omega))) | (with_reducible apply WP_skip) | (with_reducible apply WP_block) | (with_reducible apply WP_exit) | (with_reducible apply WP_ret)) | (refine Zhn ?_) | (with_reducible apply QBlock_normal) | (refine Zhx ?_) | (with_reducible apply QBlock_hit) | (refine Zqb ?_) | (with_reducible apply QLoop_exit) | (refine Zhr ?_) | (with_reducible apply QBlock_ret) | (with_reducible apply QLoop_ret) | (refine Zhp ?_) | (with_reducible apply QBlock_panic) | (with_reducible apply QLoop_panic))
      all_goals ((try refine HThen.panic (by assumption) ?_); refine QLeave_panic ?_; refine Lv_ans1 N w0 (by repeat (first | exact Up.here | apply Up.there | apply Up.sv)) ?_; refine Lv_nil rfl (.tmp (rfl : _ = Value.int _ _) (.tmp (rfl : _ = Value.int _ _) (.cell1 rfl (by repeat (first | exact Mem.here | assumption | apply Mem.there | apply Mem.sv | apply Mem.app)) rfl .nil))) rfl ?_; exact ⟨rfl, (by repeat (first | exact Wk.refl _ | apply Wk.keep1 | apply Wk.drop | apply Wk.sv | apply Wk.svD | apply Wk.appD))⟩)
    | true =>
      have he : errE g.s (DayOk g.s j) = 0 := errE_1 hvb hdo h0
      have hz : SureV g.s j = sureV g.s j ∧ CanV g.s j = canV g.s j := by unfold SureV CanV; rw [he, if_pos rfl, if_pos rfl]; exact ⟨by simp, by simp⟩
      have htold := fun b m L hS => told_ret N w0 L { g with b := b, m := m } hS hv (hA' b m) h0
      have hall := fun p (hp : p < g.s.spits.length) b m b3 b7 b10 L hS hN => allB_tri2 N w0 L { g with b := b, m := m } hS hv (hA' b m) 72 [.pointer (some ⟨b7, 0, none⟩), .pointer (some ⟨b10, 0, none⟩), .pointer (some ⟨b3, 0, none⟩)] (finM g.s j p) (NdF b7 b10 b3 p j { g with b := b, m := m }) hN (fun x y z hm L' hS' => finM_ret N w0 { g with b := b, m := m } hv (hA' b m) j p hj hp b7 b10 b3 x y z hm L' hS')
      have hcnt := toldC_count hv
      have hnp := hv.np
      dsimp only [NdF] at hall
      rw [he, hz.1, hz.2]
      unfold sureV canV
      unfold sodV sdL at hop' ⊢
      repeat' (first | (refine GiP ?_; first | (refine Znh ?_) | (with_reducible refine Znl ?_)) | (refine GiW ?_; first | (refine Zsq fun K hK => ?_) | (refine ZrN 0 fun _ => ?_; refine Zal 2 fun b2 => ?_; refine Zal 3 fun b3 => ?_; refine Zv Zai ?_; refine Zv Zai ?_; refine Zal 6 fun b6 => ?_) | (refine ZrN 1 fun _ => ?_; refine OPS_deferA rfl rfl ?_) | (refine ZrN 2 fun _ => ?_; refine Zv Zla ?_; refine Zv Val_makeFunc ?_; refine OPS_retKS (Enters_fn rfl) (hop' b3 _ (by repeat (first | exact Sub.refl _ | assumption | exact Sub.left | apply Sub.cons | apply Sub.sv | apply Sub.app))) rfl rfl rfl (fun v8 L8 h8 => ?_); obtain ⟨bb, mm, rfl, rfl⟩ := h8; refine Zcl (Enters_fn rfl) (htold bb mm _ (by repeat (first | exact Sub.refl _ | assumption | exact Sub.left | apply Sub.cons | apply Sub.sv | apply Sub.app))) ?_; refine Zal 7 fun b7 => ?_; refine Zst ?_) | (refine ZrN 3 fun _ => ?_; refine Zv Zai ?_; refine Zv Zai ?_) | (refine ZrN 4 fun _ => ?_; refine Zv Zf0 ?_; refine Zv Zld ?_; refine Zv Zxlen ?_; refine Zv Zmi ?_) | (refine WP_cond_true rfl ?_) | (refine WP_cond_false rfl ?_) | (refine Zcd (fun hc => ?_) (fun hc => ?_) <;> (try (exfalso; omega))) | (with_reducible apply WP_skip) | (with_reducible apply WP_block) | (with_reducible apply WP_exit) | (with_reducible apply WP_ret)) | (refine Zhn ?_) | (with_reducible apply QBlock_normal) | (refine Zhx ?_) | (with_reducible apply QBlock_hit) | (refine Zqb ?_) | (with_reducible apply QLoop_exit) | (refine Zhr ?_) | (with_reducible apply QBlock_ret) | (with_reducible apply QLoop_ret))
      refine WP_loop [8, 9, 10, 11, 19, 20, 21, 22, 23, 24, 25, 26, 27, 28, 29, 30, 31, 32, 33, 34, 35, 36, 37, 38, 39] (fun p : Nat => [(8, .int .i64 (bitsOf (sureB g.s j) p : Int)), (9, .int .i64 (bitsOf (canB g.s j) p : Int)), (19, .int .i64 p)]) (fun _ => (b7, Blk 73 [.pointer (some ⟨bb, 0, none⟩)]) :: (bb, Blk 128 (faceL { g with b := bb, m := mm })) :: (mm, MapOf lks (keptF g.s)) :: (b6, Blk 31 [.int .i64 0]) :: (b3, Blk 3 [.int .i64 j]) :: (b2, Blk 26 [.slice g.A1 g.s.spits.length g.c1, .slice g.A2 g.s.days.length g.c2, .slice g.A3 g.s.logs.length g.c3]) :: L)
        (fun p => p ≤ g.s.spits.length) (fun p => g.s.spits.length - p) 0 (.cons rfl (.cons rfl (.cons rfl .nil))) (Wk.refl _) (Nat.zero_le _) ?_
      intro p j2 hp
      by_cases hlt : p < g.s.spits.length
      · have hall' := hall p hlt bb mm b3 b7
        obtain ⟨l, hl⟩ : ∃ l, (toldC g.s).map (finM g.s j p) = l := ⟨_, rfl⟩
        have hll : (toldC g.s).length = l.length := by rw [← hl, List.length_map]
        rw [hl, hll] at hall'
        rw [hll] at hcnt
        have hc3 := fun L A c hR => cntB_ret N w0 L A c l (by omega) hR 74 [] (fun u => !u.1) [] Sub.nil (fun u _ L' _ => fin3_ret N w0 L' u)
        have hc4 := fun L A c hR => cntB_ret N w0 L A c l (by omega) hR 75 [] (fun u => u.2) [] Sub.nil (fun u _ L' _ => fin4_ret N w0 L' u)
        have e1 : (!l.any fun u => !u.1) = sureB g.s j p := by rw [any_not_all, ← hl, List.all_map]; rfl
        have e2 : (l.any fun u => u.2) = canB g.s j p := by rw [← hl, List.any_map]; rfl
        obtain ⟨p1, hp1⟩ : ∃ p1, (l.any fun u => !u.1) = p1 := ⟨_, rfl⟩
        rw [hp1] at hc3 e1
        rw [e2] at hc4
        have hb1 := bitsOf_lt (sureB g.s j) p
        have hb2 := bitsOf_lt (canB g.s j) p
        have h2p : 2 ^ p ≤ 2 ^ 3 := Nat.pow_le_pow_right (by omega) (by omega)
        repeat' (first | (refine GiP ?_; first | (refine Znh ?_) | (with_reducible refine Znl ?_)) | (refine GiW ?_; first | (refine Zsq fun K hK => ?_) | (refine ZrN 5 fun _ => ?_; refine Zv Zxlss ?_) | (refine ZrN 6 fun _ => ?_; refine Zv Zmi ?_; refine Zal 10 fun b10 => ?_; refine Zst ?_) | (refine ZrN 7 fun _ => ?_; refine Zv Zld ?_; refine Zv Val_makeFunc ?_; refine Zv Zxbu ?_; refine OPS_retKS (Enters_fn rfl) (hall' b10 _ (by repeat (first | exact Sub.refl _ | assumption | exact Sub.left | apply Sub.cons | apply Sub.sv | apply Sub.app)) (by repeat (first | exact Sub.refl _ | assumption | exact Sub.left | (with_reducible refine Sub.pick (by repeat (first | exact Pick.here | apply Pick.there)) ?_) | apply Sub.cons | apply Sub.sv | apply Sub.app))) rfl rfl rfl (fun v25 L25 h25 => ?_); obtain ⟨A25, c25, s25, rfl, rfl, hR25⟩ := h25; refine Zv Zav ?_) | (refine ZrN 8 fun _ => ?_; refine Zv Zmv ?_; (first | (refine Zcl (Enters_fn rfl) (hc3 _ A25 c25 (hR25 _ (by repeat (first | exact Wk.sv0 | apply Wk.drop)))) ?_) | (refine Zcl (Enters_fn rfl) (hc4 _ A25 c25 (hR25 _ (by repeat (first | exact Wk.sv0 | apply Wk.drop)))) ?_)); refine Zv Zxnot ?_) | (refine ZrN 9 fun _ => ?_; refine Zv Zmi ?_; refine Zv Zld ?_; refine Zv (Val_shlS rfl rfl (by omega)) ?_; refine Zv (Val_orS rfl rfl (by omega) (by omega)) ?_; refine Zv Zai ?_) | (refine ZrN 10 fun _ => ?_; refine Zv Zmv ?_; (first | (refine Zcl (Enters_fn rfl) (hc3 _ A25 c25 (hR25 _ (by repeat (first | exact Wk.sv0 | apply Wk.drop)))) ?_) | (refine Zcl (Enters_fn rfl) (hc4 _ A25 c25 (hR25 _ (by repeat (first | exact Wk.sv0 | apply Wk.drop)))) ?_))) | (refine ZrN 11 fun _ => ?_; refine Zv Zmi ?_; refine Zv Zld ?_; refine Zv (Val_shlS rfl rfl (by omega)) ?_; refine Zv (Val_orS rfl rfl (by omega) (by omega)) ?_; refine Zv Zai ?_) | (refine ZrN 12 fun _ => ?_; refine Zv Zxadd ?_; refine Zv Zmi ?_) | (refine WP_cond_true rfl ?_) | (refine WP_cond_false rfl ?_) | (refine Zcd (fun hc => ?_) (fun hc => ?_) <;> (try (exfalso; omega))) | (with_reducible apply WP_skip) | (with_reducible apply WP_block) | (with_reducible apply WP_exit) | (with_reducible apply WP_ret)) | (refine Zhn ?_) | (with_reducible apply QBlock_normal) | (refine Zhx ?_) | (with_reducible apply QBlock_hit) | (refine Zqb ?_) | (with_reducible apply QLoop_exit) | (refine Zhr ?_) | (with_reducible apply QBlock_ret) | (with_reducible apply QLoop_ret))
        all_goals refine QLoop_normal (p + 1) (.cons ?_ (.cons ?_ (.cons rfl .nil))) (by repeat (first | exact Off.frame rfl | exact Off.refl _ _ | refine Off.frameT rfl rfl ?_ | refine Off.upd rfl ?_ | refine Off.updO rfl ?_)) (by repeat (first | exact Wk.refl _ | apply Wk.keep1 | apply Wk.drop | apply Wk.sv | apply Wk.svD | apply Wk.appD)) (by omega) (by omega)
        all_goals first
          | exact (rfl : _ = Value.int .i64 ((bitsOf (sureB g.s j) p ||| 2 ^ p : Nat) : Int)).trans (by rw [bitsOf_or (by rw [← e1]; simp [*])])
          | exact (rfl : _ = Value.int .i64 ((bitsOf (canB g.s j) p ||| 2 ^ p : Nat) : Int)).trans (by rw [bitsOf_or (by assumption)])
          | exact (rfl : _ = Value.int .i64 ((bitsOf (sureB g.s j) p : Nat) : Int)).trans (by rw [bitsOf_no (by rw [← e1]; simp [*])])
          | exact (rfl : _ = Value.int .i64 ((bitsOf (canB g.s j) p : Nat) : Int)).trans (by rw [bitsOf_no (by assumption)])
      · have hpe : p = g.s.spits.length := by omega
        subst hpe
        repeat' (first | (refine GiP ?_; first | (refine Znh ?_) | (with_reducible refine Znl ?_)) | (refine GiW ?_; first | (refine Zsq fun K hK => ?_) | (refine ZrN 5 fun _ => ?_; refine Zv Zxlss ?_) | (refine ZrN 13 fun _ => ?_; refine Zv Zmi ?_; refine Zv Zmi ?_; refine Zv Zai ?_; refine Zv Zai ?_; refine Zst ?_) | (refine WP_cond_true rfl ?_) | (refine WP_cond_false rfl ?_) | (refine Zcd (fun hc => ?_) (fun hc => ?_) <;> (try (exfalso; omega))) | (with_reducible apply WP_skip) | (with_reducible apply WP_block) | (with_reducible apply WP_exit) | (with_reducible apply WP_ret)) | (refine Zhn ?_) | (with_reducible apply QBlock_normal) | (refine Zhx ?_) | (with_reducible apply QBlock_hit) | (refine Zqb ?_) | (with_reducible apply QLoop_exit) | (refine Zhr ?_) | (with_reducible apply QBlock_ret) | (with_reducible apply QLoop_ret))
        refine QLeave_ret ?_; refine Lv_ans0 N w0 ?_; refine Lv_nil rfl (.tmp (rfl : _ = Value.int _ _) (.tmp (rfl : _ = Value.int _ _) (.cell1 rfl (by repeat (first | exact Mem.here | assumption | apply Mem.there | apply Mem.sv | apply Mem.app)) rfl .nil))) rfl ?_; exact ⟨rfl, (by repeat (first | exact Wk.refl _ | apply Wk.keep1 | apply Wk.drop | apply Wk.sv | apply Wk.svD | apply Wk.appD))⟩
  · have hno : vB g.s = false ∨ DayOk g.s day = false := by
      cases h1 : vB g.s <;> cases h2 : DayOk g.s day <;> simp_all
    have hz : SureV g.s day = 0 ∧ CanV g.s day = 0 := by unfold SureV CanV; rw [if_neg (errE_no hno), if_neg (errE_no hno)]; exact ⟨rfl, rfl⟩
    have hop' := fun b3 L h => open_no (hop b3 L h) hno
    rw [hz.1, hz.2]
    unfold sodV sdL at hop' ⊢
    repeat' (first | (refine GiP ?_; first | (refine Znh ?_) | (with_reducible refine Znl ?_) | (refine Zatd 7 ?_; refine Zal 7 fun b7 => ?_; refine Zst ?_)) | (refine GiW ?_; first | (refine Zsq fun K hK => ?_) | (refine ZrN 0 fun _ => ?_; refine Zal 2 fun b2 => ?_; refine Zal 3 fun b3 => ?_; refine Zv Zai ?_; refine Zv Zai ?_; refine Zal 6 fun b6 => ?_) | (refine ZrN 1 fun _ => ?_; refine OPS_deferA rfl rfl ?_) | (refine ZrN 2 fun _ => ?_; refine Zv Zla ?_; refine Zv Val_makeFunc ?_; refine OPS_pan (Enters_fn rfl) (hop' b3 _ (by repeat (first | exact Sub.refl _ | assumption | exact Sub.left | apply Sub.cons | apply Sub.sv | apply Sub.app))) rfl rfl ?_) | (refine WP_cond_true rfl ?_) | (refine WP_cond_false rfl ?_) | (refine Zcd (fun hc => ?_) (fun hc => ?_) <;> (try (exfalso; omega))) | (with_reducible apply WP_skip) | (with_reducible apply WP_block) | (with_reducible apply WP_exit) | (with_reducible apply WP_ret)) | (refine Zhn ?_) | (with_reducible apply QBlock_normal) | (refine Zhx ?_) | (with_reducible apply QBlock_hit) | (refine Zqb ?_) | (with_reducible apply QLoop_exit) | (refine Zhr ?_) | (with_reducible apply QBlock_ret) | (with_reducible apply QLoop_ret) | (refine Zhp ?_) | (with_reducible apply QBlock_panic) | (with_reducible apply QLoop_panic))
    all_goals ((try refine HThen.panic (by assumption) ?_); refine QLeave_panic ?_; refine Lv_ans1 N w0 (by repeat (first | exact Up.here | apply Up.there | apply Up.sv)) ?_; refine Lv_nil rfl (.tmp (rfl : _ = Value.int _ _) (.tmp (rfl : _ = Value.int _ _) (.cell1 rfl (by repeat (first | exact Mem.here | assumption | apply Mem.there | apply Mem.sv | apply Mem.app)) rfl .nil))) rfl ?_; exact ⟨rfl, (by repeat (first | exact Wk.refl _ | apply Wk.keep1 | apply Wk.drop | apply Wk.sv | apply Wk.svD | apply Wk.appD))⟩)
end
end Go.Proofs.Ytkaadefndcbdnaa
