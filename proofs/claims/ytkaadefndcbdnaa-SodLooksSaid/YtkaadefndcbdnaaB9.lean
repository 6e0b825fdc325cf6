/- Package sod: which counts clash. -/
import Derived.Test.YtkaadefndcbdnaaB8
namespace Go.Proofs.Ytkaadefndcbdnaa
open Go.RowKit
/-- The sets of counts, the smaller ones first. -/
def setsL (s : Sd) : List Nat := stab (2 ^ s.logs.length) (List.range (2 ^ s.logs.length))
def clashF (s : Sd) : Option Nat := (setsL s).find? fun x => !someB (only s x)
def ClashE (s : Sd) : Int := if vB s = false then 1 else if someB s = true then 4 else match clashF s with | some _ => 0 | none => 4
def ClashV (s : Sd) : Nat := if vB s = false then 0 else if someB s = true then 0 else (clashF s).getD 0
theorem pickL_sub {α : Type} (x : Nat) : ∀ (l : List α) (k : Nat), ∀ y ∈ pickL x l k, y ∈ l
  | [], _, y, h => by cases h
  | a :: l, k, y, h => by
    unfold pickL at h
    split at h
    · rcases List.mem_cons.1 h with rfl | h
      · exact .head _
      · exact .tail _ (pickL_sub x l (k + 1) y h)
    · exact .tail _ (pickL_sub x l (k + 1) y h)
theorem pickL_len {α : Type} (x : Nat) : ∀ (l : List α) (k : Nat), (pickL x l k).length ≤ l.length
  | [], _ => Nat.le_refl _
  | a :: l, k => by
    have := pickL_len x l (k + 1)
    unfold pickL
    split
    · simp only [List.length_cons]; omega
    · simp only [List.length_cons]; omega
theorem pickL_snoc {α : Type} (x : Nat) (a : α) : ∀ (l : List α) (k : Nat), pickL x (l ++ [a]) k = pickL x l k ++ if x / 2 ^ (k + l.length) % 2 = 1 then [a] else []
  | [], k => by
    simp only [List.nil_append, pickL, List.length_nil, Nat.add_zero]
  | b :: l, k => by
    have := pickL_snoc x a l (k + 1)
    simp only [List.cons_append, pickL, List.length_cons]
    rw [this, show k + 1 + l.length = k + (l.length + 1) by omega]
    split <;> rfl
theorem VS_only {s : Sd} (v : VS s) (x : Nat) : VS (only s x) :=
  ⟨v.np, v.nd, Nat.le_trans (pickL_len x s.logs 0) v.nl, v.sp, v.dy, fun l hl => v.lg l (pickL_sub x s.logs 0 l hl)⟩
theorem sets_lt {s : Sd} (v : VS s) : Lt32 (2 ^ s.logs.length) (setsL s) := by
  have h16 : 2 ^ s.logs.length ≤ 2 ^ 4 := Nat.pow_le_pow_right (by omega) v.nl
  have hpos := Nat.two_pow_pos s.logs.length
  unfold setsL stab
  refine insS_lt ⟨by simp, by intro x hx; simp at hx; omega⟩ _ ?_
  omega
section
variable {P : Program} {N : Nat} {w0 : World} {L : Hp} {e : Env} {d : Option Nat} {ty : TypeId} {pos : String} {af : Array Edge} {g : Option (Nat × Bool)}
theorem Val_sliceLo1 {x y : Operand} {t E : TypeId} [ha : SliceOf P t E] {g' : Bool} {sz bt : Nat} [TySz P E g' sz bt] {b o : Nat} {len cap lo l1 : Nat} {q : Int} (hl : len = lo + l1) (hx : ev e x = .slice (some ⟨b, o, none⟩) len cap) (hy : ev e y = .int .i64 q) (hq : q = (lo : Int)) (h2 : lo < cap) :
    Val P N w0 L e ⟨d, .slice t x (some y) none none, ty, pos, af, g⟩ (.slice (some ⟨b, o + lo * sz, none⟩) l1 (cap - lo)) := by
  subst hl
  have := Val_sliceLo (P := P) (N := N) (w0 := w0) (L := L) (d := d) (ty := ty) (pos := pos) (af := af) (g := g) (t := t) (sz := sz) hx hy hq (Nat.le_add_right _ _) h2
  rwa [Nat.add_sub_cancel_left] at this
theorem Val_sliceLH1 {x y z : Operand} {t E : TypeId} [ha : SliceOf P t E] {g' : Bool} {sz bt : Nat} [TySz P E g' sz bt] {b o : Nat} {len cap lo : Nat} {q q' : Int} {A : Option Addr} (hx : ev e x = .slice A len cap) (hA : A = some ⟨b, o, none⟩) (hy : ev e y = .int .i64 q) (hz : ev e z = .int .i64 q') (hq : q = (lo : Int)) (hq' : q' = (lo : Int) + 1) (h2 : lo + 1 ≤ cap) :
    Val P N w0 L e ⟨d, .slice t x (some y) (some z) none, ty, pos, af, g⟩ (.slice (some ⟨b, o + lo * sz, none⟩) 1 (cap - lo)) := by
  have := Val_sliceLH (P := P) (N := N) (w0 := w0) (L := L) (d := d) (ty := ty) (pos := pos) (af := af) (g := g) (t := t) (sz := sz) (lo := lo) (hi := lo + 1) (by rw [hx, hA]) hy hz hq (by omega) (Nat.le_add_right _ _) h2 (by omega)
  rwa [Nat.add_sub_cancel_left] at this
end
theorem ro_of {N : Nat} {w0 w : World} {L : Hp} {b T : Nat} {l : List Value} (hI : Inv N w0 L w) (hm : Mem b (Blk T l) L) : Ro w b 0 l := fun j v hj => by
  rw [Nat.zero_add, hI.cell hm]; simpa using hj
attribute [local irreducible] AnyO AnyB QAny QB EWalk AWalk Ev WP OPS QThen QBlock QScope QLoop QBody Val New Turn Tri Enters PostA Blk Ro
attribute [local irreducible] AnyC QC
section
variable (N : Nat) (w0 : World)
set_option maxHeartbeats 4000000 in
theorem Clash_ret (L : Hp) (g : Fg) (hA : SodAt N w0 g) (hb1 : g.s.days.length ≤ 1000) :
    Ret Try.prog N w0 L 26 [sodV g].toArray (.tuple [.int .i64 (ClashV g.s : Int), .int .i64 (ClashE g.s)].toArray) := by
  have hc3 := hA.cap3
  refine Ret.fgt ?_
  refine tri_of_WPL Try.func26 rfl (n := _) rfl (by simp) ?_
  have hop : ∀ (L : Hp), OpenR N w0 g true 77 [] L := fun L => open_tri N w0 L g hA hb1 _ 77 [] [] Sub.nil (fun b m L' _ _ => always_ret N w0 L' _)
  cases hvb : vB g.s with
  | false =>
    have hz : ClashV g.s = 0 := by simp [ClashV, hvb]
    have he : ClashE g.s = 1 := by simp [ClashE, hvb]
    have he1 : errE g.s true = 1 := by simp [errE, hvb]
    have hop' := fun L => open_no (hop L) (.inl hvb)
    rw [he1] at hop'
    rw [hz, he]
    unfold sodV sdL at hop' ⊢
    repeat' (first | (refine Znh ?_) | (refine GiW ?_; first | (refine Zsq fun K hK => ?_) | (refine ZrN 0 fun _ => ?_; refine Zal 1 fun b1 => ?_; refine Zv Zai ?_; refine Zal 3 fun b3 => ?_) | (refine ZrN 1 fun _ => ?_; refine OPS_deferA rfl rfl ?_) | (refine ZrN 2 fun _ => ?_; refine Zv Zla ?_; refine OPS_pan (Enters_fn rfl) (hop' _) rfl rfl ?_)) | (refine Zhp ?_))
    all_goals ((try refine HThen.panic (by assumption) ?_); refine QLeave_panic ?_; refine Lv_ans1 N w0 (by repeat (first | exact Up.here | apply Up.there | apply Up.sv)) ?_; refine Lv_nil rfl (.tmp (rfl : _ = Value.int _ _) (.cell1 rfl (by repeat (first | exact Mem.here | assumption | apply Mem.there | apply Mem.sv | apply Mem.app)) rfl .nil)) rfl ?_; exact ⟨rfl, (by repeat (first | exact Wk.refl _ | apply Wk.keep1 | apply Wk.drop | apply Wk.sv | apply Wk.svD | apply Wk.appD))⟩)
  | true =>
    have hv := VS_of hvb
    have hop' := fun L => open_okc (hop L) hvb rfl
    have hA' : ∀ b m, SodAt N w0 { g with b := b, m := m } := fun b m => ⟨hA.spits, hA.days, hA.logs, hA.cap1, hA.cap3⟩
    have hcan := fun b m L hS => can_ret N w0 L { g with b := b, m := m } hS hv (hA' b m)
    cases h0 : someB g.s with
    | true =>
      have hz : ClashV g.s = 0 := by simp [ClashV, h0]
      have he : ClashE g.s = 4 := by simp [ClashE, hvb, h0]
      dsimp only at hcan
      rw [h0] at hcan
      rw [hz, he]
      unfold sodV sdL at hop' ⊢
      repeat' (first | (refine Znh ?_) | (refine GiW ?_; first | (refine Zsq fun K hK => ?_) | (refine ZrN 0 fun _ => ?_; refine Zal 1 fun b1 => ?_; refine Zv Zai ?_; refine Zal 3 fun b3 => ?_) | (refine ZrN 1 fun _ => ?_; refine OPS_deferA rfl rfl ?_) | (refine ZrN 2 fun _ => ?_; refine Zv Zla ?_; refine OPS_retKS (Enters_fn rfl) (hop' _) rfl rfl rfl (fun v8 L8 h8 => ?_); obtain ⟨bb, mm, rfl, rfl⟩ := h8; refine Zcl (Enters_fn rfl) (hcan bb mm _ (by repeat (first | exact Sub.refl _ | assumption | exact Sub.left | apply Sub.cons | apply Sub.sv | apply Sub.app))) ?_; refine Zv Zxnot ?_; refine OPS_pan (Enters_fn rfl) (ask_no N w0 _ 4) rfl rfl ?_)) | (refine Zhp ?_))
      all_goals ((try refine HThen.panic (by assumption) ?_); refine QLeave_panic ?_; refine Lv_ans1 N w0 (by repeat (first | exact Up.here | apply Up.there | apply Up.sv)) ?_; refine Lv_nil rfl (.tmp (rfl : _ = Value.int _ _) (.cell1 rfl (by repeat (first | exact Mem.here | assumption | apply Mem.there | apply Mem.sv | apply Mem.app)) rfl .nil)) rfl ?_; exact ⟨rfl, (by repeat (first | exact Wk.refl _ | apply Wk.keep1 | apply Wk.drop | apply Wk.sv | apply Wk.svD | apply Wk.appD))⟩)
    | false =>
      obtain ⟨n, hn⟩ : ∃ n, 2 ^ g.s.logs.length = n := ⟨_, rfl⟩
      have hnl := hv.nl
      have h16 : 2 ^ g.s.logs.length ≤ 2 ^ 4 := Nat.pow_le_pow_right (by omega) hnl
      have hpos := Nat.two_pow_pos g.s.logs.length
      have hsl := sets_lt hv
      rw [hn] at h16 hpos hsl
      dsimp only at hcan
      rw [h0] at hcan
      unfold sodV sdL at hop' ⊢
      have hshl : ∀ {L e d ty pos af g' x y t t'} (hx : ev e x = .int .u64 1) (hy : ev e y = .int .i64 (g.s.logs.length : Int)), Val Try.prog N w0 L e ⟨d, .binOp .shl t x y t', ty, pos, af, g'⟩ (.int .u64 (n : Int)) := by
        intro L e d ty pos af g' x y t t' hx hy
        have := Val_shl1 (P := Try.prog) (N := N) (w0 := w0) (L := L) (d := d) (ty := ty) (pos := pos) (af := af) (g := g') (t := t) (t' := t') rfl hx hy (show g.s.logs.length < 64 by omega)
        rw [← hn]
        simpa using this
      repeat' (first | (refine Znh ?_) | (refine GiW ?_; first | (refine Zsq fun K hK => ?_) | (refine ZrN 0 fun _ => ?_; refine Zal 1 fun b1 => ?_; refine Zv Zai ?_; refine Zal 3 fun b3 => ?_) | (refine ZrN 1 fun _ => ?_; refine OPS_deferA rfl rfl ?_) | (refine ZrN 2 fun _ => ?_; refine Zv Zla ?_; refine OPS_retKS (Enters_fn rfl) (hop' _) rfl rfl rfl (fun v8 L8 h8 => ?_); obtain ⟨bb, mm, rfl, rfl⟩ := h8; refine Zcl (Enters_fn rfl) (hcan bb mm _ (by repeat (first | exact Sub.refl _ | assumption | exact Sub.left | apply Sub.cons | apply Sub.sv | apply Sub.app))) ?_; refine Zv Zxnot ?_; refine Zcl (Enters_fn rfl) (ask_ok N w0 _ 4) ?_) | (refine ZrN 3 fun _ => ?_; refine Zv Zav ?_) | (refine ZrN 4 fun _ => ?_; refine Zv Zfa ?_; refine Zv Zld ?_; refine Zv Zxlen ?_; refine Zv (hshl rfl rfl) ?_; refine Zv Zmi ?_) | (with_reducible apply WP_block)))
      refine WP_loop [4, 5, 20, 21, 22, 23, 24, 25, 26, 27] (fun q : Nat × Option (Nat × Nat) => [(4, svV q.2 q.1), (20, .int .u64 q.1)]) (fun q => svH 116 1 q.1 (us (List.range q.1)) q.2 ((bb, Blk 128 (faceL { g with b := bb, m := mm })) :: (mm, MapOf lks (keptF g.s)) :: (b3, Blk 31 [.int .i64 0]) :: (b1, Blk 26 [.slice g.A1 g.s.spits.length g.c1, .slice g.A2 g.s.days.length g.c2, .slice g.A3 g.s.logs.length g.c3]) :: L))
        (fun q => q.1 ≤ n ∧ svOk q.2 1 q.1 (us (List.range q.1))) (fun q => n - q.1) (0, none) (.cons rfl (.cons rfl .nil)) (Wk.refl _) ⟨Nat.zero_le _, svOk_nil 1⟩ ?_
      rintro ⟨k, s4⟩ j ⟨hk, hs4⟩
      dsimp only at hk hs4 ⊢
      by_cases hlt : k < n
      · have hadd : ∀ {L e d ty pos af g' x y t t'} (hx : ev e x = .int .u64 (k : Int)) (hy : ev e y = .int .u64 1), Val Try.prog N w0 L e ⟨d, .binOp .add t x y t', ty, pos, af, g'⟩ (.int .u64 ((k + 1 : Nat) : Int)) := fun hx hy => Val_addN hx hy (by omega)
        have hnext : us (List.range (k + 1)) = us (List.range k) ++ [.int .u64 (k : Int)] := by rw [List.range_succ]; simp [us]
        repeat' (first | (refine GiP ?_; first | (refine Znh ?_) | (with_reducible refine Znl ?_)) | (refine GiW ?_; first | (refine Zsq fun K hK => ?_) | (refine ZrN 5 fun _ => ?_; refine Zv Zxlss ?_) | (refine ZrN 6 fun _ => ?_; refine Zv Zmi ?_; refine Zv Zai ?_) | (refine ZrN 7 fun _ => ?_; refine Zv Zmv ?_; refine Zv Zmi ?_; refine Zal 25 fun b25 => ?_; refine OPS_append rfl rfl rfl (by repeat (first | exact Wk.refl _ | apply Wk.keep1 | apply Wk.drop | apply Wk.sv | apply Wk.svD | apply Wk.appD)) (by assumption) (blk_cells (by repeat (first | exact Mem.here | assumption | apply Mem.there | apply Mem.sv | apply Mem.app))) rfl rfl (by simp only [maxLen]; omega) (by omega) rfl rfl (fun s26 hs26 => ?_); refine Zv Zav ?_) | (refine ZrN 8 fun _ => ?_; refine Zv (hadd rfl rfl) ?_; refine Zv Zmi ?_) | (refine Zcd (fun hc => ?_) (fun hc => ?_) <;> (try (exfalso; omega))) | (with_reducible apply WP_skip) | (with_reducible apply WP_block)) | (refine Zhn ?_) | (with_reducible apply QBlock_normal))
        refine QLoop_normal (k + 1, s26) (.cons rfl (.cons rfl .nil)) (by repeat (first | exact Off.frame rfl | exact Off.refl _ _ | refine Off.frameT rfl rfl ?_ | refine Off.upd rfl ?_ | refine Off.updO rfl ?_)) ?_ ⟨by dsimp only; omega, by dsimp only; rw [hnext]; exact hs26⟩ (by dsimp only; omega)
        dsimp only
        rw [hnext]
        cases s26 <;> exact (by repeat (first | exact Wk.refl _ | apply Wk.keep1 | apply Wk.drop | apply Wk.sv | apply Wk.svD | apply Wk.appD))
      · have hkn : k = n := by omega
        subst hkn
        obtain ⟨⟨bS, cS⟩, rfl⟩ : ∃ p, s4 = some p := by
          cases s4 with
          | none => have := hs4.2 rfl; omega
          | some p => exact ⟨p, rfl⟩
        show WP _ _ _ _ _ _ _ _ _ ((bS, Row 116 1 k cS (us (List.range k))) :: _)
        refine WP_opnR fun tl => ?_
        have hsort := fun L => sort_tri N w0 tl L k (List.range k) ⟨by simp, by intro x hx; simp at hx; omega⟩ (by omega) bS cS
        unfold cmpV at hsort
        have hst : stab k (List.range k) = setsL g.s := by unfold setsL; rw [hn]
        rw [hst] at hsort
        obtain ⟨S, hS⟩ : ∃ S, setsL g.s = S := ⟨_, rfl⟩
        rw [hS] at hsort hsl
        have hut : us (List.range k) ++ tl = ut tl (List.range k) := rfl
        rw [hut]
        repeat' (first | (refine Znh ?_) | (refine GiW ?_; first | (refine Zsq fun K hK => ?_) | (refine ZrN 5 fun _ => ?_; refine Zv Zxlss ?_) | (refine ZrN 9 fun _ => ?_; refine Zv Zmv ?_; refine OPS_retKS (Enters_fn rfl) (hsort _) rfl rfl rfl (fun v28 L28 h28 => ?_); subst h28) | (refine ZrN 10 fun _ => ?_; refine Zv Zmv ?_; refine Zv Zxlen ?_; refine Zv Zmi ?_) | (refine Zcd (fun hc => ?_) (fun hc => ?_) <;> (try (exfalso; omega))) | (with_reducible apply WP_block) | (with_reducible apply WP_exit)) | (refine Zhn ?_) | (refine Zhx ?_) | (with_reducible apply QBlock_hit) | (with_reducible apply QLoop_exit))
        obtain ⟨m, hm⟩ : ∃ m, g.s.logs.length = m := ⟨_, rfl⟩
        rw [hm] at hc3 ⊢
        refine WP_loop [2, 7, 8, 9, 10, 32, 33, 34, 35, 36, 37, 38, 39, 40, 41, 42, 43, 44, 45, 46, 47, 48, 49, 50, 51, 52, 53, 54, 55, 56, 57, 58, 59, 60, 61, 62, 63, 64, 65, 66, 67, 68, 69, 70, 71, 72, 73, 74, 75, 76, 77, 78, 79, 80] (fun i : Nat => [(32, .int .i64 i)]) (fun _ => (bS, Blk 116 (ut tl S)) :: (bb, Blk 128 (faceL { g with b := bb, m := mm })) :: (mm, MapOf lks (keptF g.s)) :: (b3, Blk 31 [.int .i64 0]) :: (b1, Blk 26 [.slice g.A1 g.s.spits.length g.c1, .slice g.A2 g.s.days.length g.c2, .slice g.A3 m g.c3]) :: L)
          (fun i => i ≤ k ∧ ∀ j, j < i → someB (only g.s (gt S j)) = true) (fun i => k - i) 0 (.cons rfl .nil) (Wk.refl _) ⟨Nat.zero_le _, fun j hj => by omega⟩ ?_
        rintro i j2 ⟨hi, hall⟩
        by_cases hik : i < k
        · obtain ⟨x, hx⟩ : ∃ x, gt S i = x := ⟨_, rfl⟩
          have hx32 : x < 32 := by rw [← hx]; exact hsl.gt hik
          have hcell : (ut tl S)[0 + i]? = some (.int .u64 (x : Int)) := by rw [← hx]; exact ut_get (by rw [hsl.1]; exact hik)
          repeat' (first | (refine Znh ?_) | (refine GiW ?_; first | (refine Zsq fun K hK => ?_) | (refine ZrN 11 fun _ => ?_; refine Zv Zxlss ?_) | (refine ZrN 12 fun _ => ?_; refine Zv Zia ?_; (first | (refine Zv (Val_load1 rfl (by repeat (first | exact Mem.here | assumption | apply Mem.there | apply Mem.sv | apply Mem.app)) hcell) ?_) | (refine Zv Zld ?_)); refine Zv Zai ?_) | (refine ZrN 13 fun _ => ?_; (first | (refine Zv (Val_load1 rfl (by repeat (first | exact Mem.here | assumption | apply Mem.there | apply Mem.sv | apply Mem.app)) hcell) ?_) | (refine Zv Zla ?_)); refine Zal 8 fun b8 => ?_; refine Zst ?_) | (refine ZrN 14 fun _ => ?_; refine Zv Zfa ?_; (first | (refine Zv (Val_load1 rfl (by repeat (first | exact Mem.here | assumption | apply Mem.there | apply Mem.sv | apply Mem.app)) hcell) ?_) | (refine Zv Zld ?_)); refine Zv Zxlen ?_; refine OPS_make0 (m := m) rfl rfl rfl (by omega) (by unfold maxLen; omega) rfl rfl (fun b40 => ?_); refine Zv Zfa ?_; refine Zst ?_) | (refine ZrN 15 fun _ => ?_; refine Zv Zfa ?_; (first | (refine Zv (Val_load1 rfl (by repeat (first | exact Mem.here | assumption | apply Mem.there | apply Mem.sv | apply Mem.app)) hcell) ?_) | (refine Zv Zld ?_)); refine Zv Zxlen ?_; refine Zv Zmi ?_) | (refine Zcd (fun hc => ?_) (fun hc => ?_) <;> (try (exfalso; omega))) | (with_reducible apply WP_skip) | (with_reducible apply WP_block)) | (refine Zhn ?_))
          refine WP_loop [9, 10, 45, 46, 47, 48, 49, 50, 51, 52, 53, 54, 55, 56, 57, 58, 59, 60, 61, 62, 63, 64, 65, 66, 67, 68, 69, 70, 71, 72, 73] (fun q : Nat × List Lg => [(45, .int .i64 q.1)]) (fun q => (b40, Row 60 3 q.2.length m ((q.2.map lgL).flatten)) :: (b8, Blk 26 [.slice g.A1 g.s.spits.length g.c1, .slice g.A2 g.s.days.length g.c2, .slice (some ⟨b40, 0, none⟩) q.2.length m]) :: (bS, Blk 116 (ut tl S)) :: (bb, Blk 128 (faceL { g with b := bb, m := mm })) :: (mm, MapOf lks (keptF g.s)) :: (b3, Blk 31 [.int .i64 0]) :: (b1, Blk 26 [.slice g.A1 g.s.spits.length g.c1, .slice g.A2 g.s.days.length g.c2, .slice g.A3 m g.c3]) :: L)
            (fun q => q.1 ≤ m ∧ q.2 = pickL x (g.s.logs.take q.1) 0) (fun q => m - q.1) (0, []) (.cons rfl .nil) (Wk.refl _) ⟨Nat.zero_le _, rfl⟩ ?_
          rintro ⟨q, ys⟩ j3 ⟨hq, hys⟩
          dsimp only at hq hys ⊢
          have hyl : ys.length ≤ q := by rw [hys]; exact Nat.le_trans (pickL_len _ _ _) (by rw [List.length_take]; omega)
          by_cases hqm : q < m
          · have hqm' : q < g.s.logs.length := by omega
            obtain ⟨bA, oA, hA3, hbA, hcA⟩ := hA.logs.row q hqm'
            obtain ⟨l, hl⟩ : ∃ l, g.s.logs[q] = l := ⟨_, rfl⟩
            rw [hl] at hcA
            have hsn := pickL_snoc x l (g.s.logs.take q) 0
            rw [Nat.zero_add, List.length_take, Nat.min_eq_left (Nat.le_of_lt hqm'), ← hl, ← List.take_succ_eq_append_getElem hqm', ← hys, hl] at hsn
            have hdiv : x / 2 ^ q < 32 := Nat.lt_of_le_of_lt (Nat.div_le_self _ _) hx32
            have hb01 : x / 2 ^ q % 2 = 0 ∨ x / 2 ^ q % 2 = 1 := by omega
            obtain ⟨bt, hbt⟩ : ∃ bt, x / 2 ^ q % 2 = bt := ⟨_, rfl⟩
            rw [hbt] at hb01 hsn
            have hand : ∀ {L e d ty pos af g' x' y t t'} (hx : ev e x' = .int .u64 ((x / 2 ^ q : Nat) : Int)) (hy : ev e y = .int .u64 1), Val Try.prog N w0 L e ⟨d, .binOp .and t x' y t', ty, pos, af, g'⟩ (.int .u64 (bt : Int)) := by
              intro L e d ty pos af g' x' y t t' hx hy
              have := Val_and (P := Try.prog) (N := N) (w0 := w0) (L := L) (d := d) (ty := ty) (pos := pos) (af := af) (g := g') (t := t) (t' := t') (b := 1) rfl hx hy (Nat.lt_trans hdiv (by decide)) (by decide)
              rw [Nat.and_one_is_mod, hbt] at this
              exact this
            have hsrc : ∀ L2 w, Inv N w0 L2 w → ∀ j v, (lgL l)[j]? = some v → w.cell? ((⟨bA, oA + q * 3, none⟩ : Addr).add j) = some v := fun L2 w hI j v hj => by rw [addr_add]; exact hI.cellRo hbA (RoAt hcA j v hj)
            rcases hb01 with h01 | h01
            · rw [h01] at hsn
              have hand := @hand
              rw [h01] at hand
              rw [if_neg (by omega), List.append_nil] at hsn
              repeat' (first | (refine GiP ?_; first | (refine Znh ?_) | (with_reducible refine Znl ?_)) | (refine GiW ?_; first | (refine Zsq fun K hK => ?_) | (refine ZrN 16 fun _ => ?_; refine Zv Zxlss ?_) | (refine ZrN 17 fun _ => ?_; refine Zv Zmi ?_; refine Zv Zai ?_) | (refine ZrN 18 fun _ => ?_; refine Zv Zmi ?_; refine Zv Zmi ?_; refine Zv (Val_shr (i := q) rfl rfl (by show q ≤ 64; omega)) ?_; refine Zv (hand rfl rfl) ?_; refine Zv Zxeql ?_) | (refine ZrN 22 fun _ => ?_; refine Zv Zxadd ?_; refine Zv Zmi ?_) | (refine WP_cond_false rfl ?_) | (refine Zcd (fun hc => ?_) (fun hc => ?_) <;> (try (exfalso; omega))) | (with_reducible apply WP_skip) | (with_reducible apply WP_block)) | (refine Zhn ?_) | (with_reducible apply QBlock_normal))
              exact QLoop_normal (q + 1, ys) (.cons rfl .nil) (by repeat (first | exact Off.frame rfl | exact Off.refl _ _ | refine Off.frameT rfl rfl ?_ | refine Off.upd rfl ?_ | refine Off.updO rfl ?_)) (by repeat (first | exact Wk.refl _ | apply Wk.keep1 | apply Wk.drop | apply Wk.sv | apply Wk.svD | apply Wk.appD)) ⟨by dsimp only; omega, hsn.symm⟩ (by dsimp only; omega)
            · rw [h01] at hsn
              have hand := @hand
              rw [h01] at hand
              rw [if_pos rfl] at hsn
              repeat' (first | (refine GiP ?_; first | (refine Znh ?_) | (with_reducible refine Znl ?_) | (refine Zatd 72 ?_; refine OPS_copy1 rfl rfl rfl (by repeat (first | exact Up.here | apply Up.there | apply Up.sv)) (by omega) (hsrc _) rfl rfl rfl rfl ?_)) | (refine GiW ?_; first | (refine Zsq fun K hK => ?_) | (refine ZrN 16 fun _ => ?_; refine Zv Zxlss ?_) | (refine ZrN 17 fun _ => ?_; refine Zv Zmi ?_; refine Zv Zai ?_) | (refine ZrN 18 fun _ => ?_; refine Zv Zmi ?_; refine Zv Zmi ?_; refine Zv (Val_shr (i := q) rfl rfl (by show q ≤ 64; omega)) ?_; refine Zv (hand rfl rfl) ?_; refine Zv Zxeql ?_) | (refine ZrN 19 fun _ => ?_; refine Zv Zfa ?_; refine Zv Zld ?_; refine Zv Zxlen ?_; refine Zv Zai ?_) | (refine ZrN 20 fun _ => ?_; refine Zv Zfa ?_; refine Zv Zld ?_; refine Zv Zmi ?_; refine Zv Zxadd ?_; (first | (refine Zv (Val_sliceHi (hi := ys.length + 1) rfl rfl (by omega) (by omega)) ?_) | (refine Zv (Val_sliceLo1 (lo := ys.length) (l1 := 1) rfl rfl rfl rfl (by omega)) ?_) | (refine Zv (Val_sliceLH1 (lo := q) rfl hA3 rfl rfl rfl rfl (by omega)) ?_)); refine Zv Zfa ?_; refine Zst ?_) | (refine ZrN 22 fun _ => ?_; refine Zv Zxadd ?_; refine Zv Zmi ?_) | (refine WP_cond_true rfl ?_) | (refine Zcd (fun hc => ?_) (fun hc => ?_) <;> (try (exfalso; omega))) | (with_reducible apply WP_skip) | (with_reducible apply WP_block) | (refine WP_drawn (id := 21) [0, 1, 2, 3, 4, 5, 6, 7, 8, 9] [] (k := 1) prog_mixed (by kernel_rfl) rfl ?_; refine Zew rfl Zfa ?_; refine Zew rfl Zld ?_; refine Zew rfl Zmi ?_; (first | (refine Zew rfl (Val_sliceHi (hi := ys.length + 1) rfl rfl (by omega) (by omega)) ?_) | (refine Zew rfl (Val_sliceLo1 (lo := ys.length) (l1 := 1) rfl rfl rfl rfl (by omega)) ?_) | (refine Zew rfl (Val_sliceLH1 (lo := q) rfl hA3 rfl rfl rfl rfl (by omega)) ?_)); refine Zew rfl Zfa ?_; refine Zew rfl Zld ?_; refine Zew rfl Zmi ?_; refine Zew rfl Zmi ?_; refine Zew rfl Zxadd ?_; (first | (refine Zew rfl (Val_sliceHi (hi := ys.length + 1) rfl rfl (by omega) (by omega)) ?_) | (refine Zew rfl (Val_sliceLo1 (lo := ys.length) (l1 := 1) rfl rfl rfl rfl (by omega)) ?_) | (refine Zew rfl (Val_sliceLH1 (lo := q) rfl hA3 rfl rfl rfl rfl (by omega)) ?_)))) | (with_reducible apply EWalk_nil) | (refine GiO ?_; first | (refine AnyO_done (by kernel_rfl) ?_; (try with_reducible apply noP_normal); try with_reducible exact key.out) | (refine AnyO_1 10 (by decide +kernel) rfl ?_)) | (refine Zhn ?_) | (with_reducible apply QBlock_normal) | (refine AWalk_0 ?_; refine ZisO ?_) | (with_reducible apply QAny_normal))
              refine QLoop_normal (q + 1, ys ++ [l]) (.cons rfl .nil) (by repeat (first | exact Off.frame rfl | exact Off.refl _ _ | refine Off.frameT rfl rfl ?_ | refine Off.upd rfl ?_ | refine Off.updO rfl ?_)) ?_ ⟨by dsimp only; omega, hsn.symm⟩ (by dsimp only; omega)
              dsimp only
              rw [List.length_append, List.length_singleton, List.map_append, List.flatten_append]
              have hfl : ([l].map lgL).flatten = lgL l := by simp
              rw [hfl]
              exact (by repeat (first | exact Wk.refl _ | apply Wk.keep1 | apply Wk.drop | apply Wk.sv | apply Wk.svD | apply Wk.appD))
          · have hqe : q = g.s.logs.length := by omega
            rw [hqe, List.take_length] at hys
            have hgx : pickL x g.s.logs 0 = (only g.s x).logs := rfl
            rw [hgx] at hys
            have hvx := VS_only hv x
            repeat' (first | (refine Znh ?_) | (refine GiW ?_; first | (refine Zsq fun K hK => ?_) | (refine ZrN 16 fun _ => ?_; refine Zv Zxlss ?_) | (refine Zcd (fun hc => ?_) (fun hc => ?_) <;> (try (exfalso; omega))) | (with_reducible apply WP_exit)) | (refine Zhn ?_) | (refine Zhx ?_) | (with_reducible apply QBlock_hit) | (with_reducible apply QLoop_exit))
            refine WP_re fun w hI => ?_
            obtain ⟨gx, hgx2⟩ : ∃ gx : Fg, { g with s := only g.s x, A3 := some ⟨b40, 0, none⟩, c3 := m } = gx := ⟨_, rfl⟩
            have hAx : SodAt w.heap.size w gx := by
              rw [← hgx2]
              refine ⟨hA.spits.now hI, hA.days.now hI, ?_, hA.cap1, by show (pickL x g.s.logs 0).length ≤ m; rw [← hm]; exact pickL_len _ _ _⟩
              refine sl_row hI (b := b40) (k := ys.length) (cap := m) (E := 60) .here ?_ (map_len (f := lgL) (fun _ => rfl) _)
              rw [hys]
            have hlt8 := hI.lt (x := (b8, Blk 26 [.slice g.A1 g.s.spits.length g.c1, .slice g.A2 g.s.days.length g.c2, .slice (some ⟨b40, 0, none⟩) ys.length m])) (.tail _ (.head _))
            have hro8 := ro_of hI (b := b8) (T := 26) (l := [.slice g.A1 g.s.spits.length g.c1, .slice g.A2 g.s.days.length g.c2, .slice (some ⟨b40, 0, none⟩) ys.length m]) (.there .here)
            have hgxs : gx.s = only g.s x := by rw [← hgx2]
            have hopx := fun L => open_okc (open_tri w.heap.size w L gx hAx (by rw [hgxs]; exact hb1) true 77 [] [] Sub.nil (fun b m L' _ _ => always_ret w.heap.size w L' _)) (by rw [hgxs]; exact vB_of hvx) rfl
            have hcanx := fun b m L hS => can_ret w.heap.size w L { gx with b := b, m := m } hS (by show VS gx.s; rw [hgxs]; exact hvx) ⟨hAx.spits, hAx.days, hAx.logs, hAx.cap1, hAx.cap3⟩
            dsimp only at hcanx hlt8
            have hsv : sodV gx = .agg [.slice g.A1 g.s.spits.length g.c1, .slice g.A2 g.s.days.length g.c2, .slice (some ⟨b40, 0, none⟩) ys.length m].toArray := by
              rw [← hgx2, hys]; rfl
            rw [hsv] at hopx
            cases hsb : someB (only g.s x) with
            | true =>
              have hsb' : someB gx.s = true := by rw [hgxs]; exact hsb
              rw [hsb'] at hcanx
              repeat' (first | (with_reducible refine Znl ?_) | (refine GiW ?_; first | (refine ZrN 23 fun _ => ?_; (first | (refine Zv (Val_loadRN rfl hlt8 hro8 rfl) ?_) | (refine Zv Zla ?_)); refine OPS_retKS (Enters_fn rfl) (hopx _) rfl rfl rfl (fun v8 L8 h8 => ?_); obtain ⟨bx, mx, rfl, rfl⟩ := h8; refine Zcl (Enters_fn rfl) (hcanx bx mx _ (by repeat (first | exact Sub.refl _ | assumption | exact Sub.left | apply Sub.cons | apply Sub.sv | apply Sub.app))) ?_; refine Zv Zxnot ?_) | (refine ZrN 25 fun _ => ?_; refine Zv Zxadd ?_; refine Zv Zmi ?_) | (refine WP_cond_false rfl ?_) | (with_reducible apply WP_skip)) | (refine Zhn ?_) | (with_reducible apply QBlock_normal))
              exact QLoop_normal (i + 1) (.cons rfl .nil) (by repeat (first | exact Off.frame rfl | exact Off.refl _ _ | refine Off.frameT rfl rfl ?_ | refine Off.upd rfl ?_ | refine Off.updO rfl ?_)) (by repeat (first | exact Wk.refl _ | apply Wk.keep1 | apply Wk.drop | apply Wk.sv | apply Wk.svD | apply Wk.appD)) ⟨by omega, fun j hj => by
                rcases Nat.lt_succ_iff_lt_or_eq.1 hj with h | rfl
                · exact hall j h
                · rw [hx]; exact hsb⟩ (by omega)
            | false =>
              have hsb' : someB gx.s = false := by rw [hgxs]; exact hsb
              rw [hsb'] at hcanx
              repeat' (first | (refine GiP ?_; first | (refine Znh ?_) | (with_reducible refine Znl ?_)) | (refine GiW ?_; first | (refine Zsq fun K hK => ?_) | (refine ZrN 23 fun _ => ?_; (first | (refine Zv (Val_loadRN rfl hlt8 hro8 rfl) ?_) | (refine Zv Zla ?_)); refine OPS_retKS (Enters_fn rfl) (hopx _) rfl rfl rfl (fun v8 L8 h8 => ?_); obtain ⟨bx, mx, rfl, rfl⟩ := h8; refine Zcl (Enters_fn rfl) (hcanx bx mx _ (by repeat (first | exact Sub.refl _ | assumption | exact Sub.left | apply Sub.cons | apply Sub.sv | apply Sub.app))) ?_; refine Zv Zxnot ?_) | (refine ZrN 24 fun _ => ?_; refine Zv Zmi ?_; refine Zv Zxco ?_; refine Zv Zai ?_; refine Zst ?_) | (refine WP_cond_true rfl ?_) | (with_reducible apply WP_ret)) | (refine Zhn ?_) | (refine Zhr ?_) | (with_reducible apply QBlock_ret) | (with_reducible apply QLoop_ret))
              have hfind : clashF g.s = some x := by
                unfold clashF
                rw [hS, List.find?_eq_some_iff_getElem]
                have hlen := hsl.1
                have hg : ∀ j (h : j < S.length), gt S j = S[j] := fun j h => by simp [gt, h]
                refine ⟨by simp [hsb], i, by omega, by rw [← hx, hg i (by omega)], fun j hj => ?_⟩
                have := hall j hj
                rw [hg j (by omega)] at this
                simp [this]
              have hz : ClashV g.s = x := by simp [ClashV, hvb, h0, hfind]
              have he : ClashE g.s = 0 := by simp [ClashE, hvb, h0, hfind]
              (refine QLeave_ret ?_; refine Lv_ans0 N w0 ?_; refine Lv_nil rfl (.tmp (rfl : _ = Value.int _ _) (.cell1 rfl (by repeat (first | exact Mem.here | assumption | apply Mem.there | apply Mem.sv | apply Mem.app)) rfl .nil)) rfl ?_; exact ⟨by rw [hz, he]; rfl, (by repeat (first | exact Wk.refl _ | apply Wk.keep1 | apply Wk.drop | apply Wk.sv | apply Wk.svD | apply Wk.appD))⟩)
        · have hie : i = k := by omega
          subst hie
          have hnone : clashF g.s = none := by
            unfold clashF
            rw [hS, List.find?_eq_none]
            intro y hy
            obtain ⟨j, hj, rfl⟩ := List.mem_iff_getElem.1 hy
            have := hall j (by rw [← hsl.1]; exact hj)
            have hg : gt S j = S[j] := by simp [gt, hj]
            rw [hg] at this
            simp [this]
          have hz : ClashV g.s = 0 := by simp [ClashV, hvb, h0, hnone]
          have he : ClashE g.s = 4 := by simp [ClashE, hvb, h0, hnone]
          repeat' (first | (refine Znh ?_) | (refine GiW ?_; first | (refine Zsq fun K hK => ?_) | (refine ZrN 11 fun _ => ?_; refine Zv Zxlss ?_) | (refine ZrN 26 fun _ => ?_; refine Zv Zai ?_; refine Zst ?_) | (refine Zcd (fun hc => ?_) (fun hc => ?_) <;> (try (exfalso; omega))) | (with_reducible apply WP_exit) | (with_reducible apply WP_ret)) | (refine Zhn ?_) | (refine Zhx ?_) | (with_reducible apply QBlock_hit) | (with_reducible apply QLoop_exit))
          (refine QLeave_ret ?_; refine Lv_ans0 N w0 ?_; refine Lv_nil rfl (.tmp (rfl : _ = Value.int _ _) (.cell1 rfl (by repeat (first | exact Mem.here | assumption | apply Mem.there | apply Mem.sv | apply Mem.app)) rfl .nil)) rfl ?_; exact ⟨by rw [hz, he]; rfl, (by repeat (first | exact Wk.refl _ | apply Wk.keep1 | apply Wk.drop | apply Wk.sv | apply Wk.svD | apply Wk.appD))⟩)
end
end Go.Proofs.Ytkaadefndcbdnaa
