/- Package bank: its exported functions: Count, Whose. -/
import Derived.Test.YtakmopiceopcpaaB1
import Derived.Test.YtakmopiceopcpaaQv
section
namespace Go.Proofs.Ytakmopiceopcpaa
open Go.RowKit
theorem stopsCount : Stops 72 Try.f72 := ⟨Try.func72, ⟨_, _, _, _, _, rfl⟩, rfl, rfl⟩
theorem stopsWhose : Stops 49 Try.f49 := ⟨Try.func49, ⟨_, _, _, _, _, rfl⟩, rfl, rfl⟩
theorem CountE_no {d : Bn} (h : vB d = false) : errD d true = CountE d := by simp [errD, CountE, h]
attribute [local irreducible] AnyO AnyB QAny QB EWalk AWalk Ev WP OPS QThen QBlock QScope QLoop QBody Val New Turn Tri Enters PostA Blk Ro
attribute [local irreducible] AnyC QC
section
variable (N : Nat) (w0 : World)
theorem Count_ret (L : Hp) (g : Fg) (hA : BkAt N w0 g) : Ret Try.prog N w0 L 23 [bkV g].toArray (.tuple [.int .i64 ((CountV g.d : Nat) : Int), .int .i64 (CountE g.d)].toArray) := by
  have hop : ∀ (L : Hp), OpenR N w0 g true 73 [] L := fun L => open_tri N w0 L g hA true 73 [] [] ⟨L, List.Perm.refl _⟩ (fun L' _ _ => always_ret N w0 L' g)
  refine Ret.fgt ?_
  refine tri_of_WPL Try.func23 rfl (n := _) rfl (by simp) ?_
  cases hvb : vB g.d with
  | true =>
    have hv := VB_of hvb
    have hop' := fun L => open_ok (hop L) hvb rfl
    have hw := fun L => ways_in N w0 L g hv (BankIn.at_ hA)
    have he : CountE g.d = 0 := by simp [CountE, hvb]
    have hz : CountV g.d = (trL g.d).length := by simp [CountV, hvb]
    rw [he, hz]
    unfold bkV bkL at hop' hw ⊢
    repeat' (first | (refine GiP ?_; first | (refine Znh ?_) | (with_reducible refine Znl ?_)) | (refine GiW ?_; first | (refine Zsq fun K hK => ?_) | (refine ZrN 0 fun _ => ?_; refine Zal 1 fun b1 => ?_; refine Zv Zai ?_; refine Zal 3 fun b3 => ?_) | (refine ZrN 1 fun _ => ?_; refine Zv Val_makeFunc ?_; refine OPS_defer rfl ?_) | (refine ZrN 2 fun _ => ?_; refine Zv Zla ?_; refine Zcl (Enters_fn rfl) (hop' _) ?_; refine Zcl (Enters_fn rfl) (hw _) ?_; refine Zv Zai ?_; refine Zst ?_) | (with_reducible apply WP_ret)) | (refine Zhn ?_) | (refine Zhr ?_))
    all_goals (refine QLeave_ret ?_; refine Lv_stop0 N w0 stopsCount ?_; refine Lv_nil rfl (.tmp (rfl : _ = Value.int _ _) (.cell1 rfl (by repeat (first | exact Mem.here | assumption | apply Mem.there | apply Mem.sv | apply Mem.app)) rfl .nil)) rfl ?_; exact ⟨rfl, (by repeat (first | exact Wk.refl _ | apply Wk.keep1 | apply Wk.drop | apply Wk.sv | apply Wk.svD | apply Wk.appD))⟩)
  | false =>
    have hop' := fun L => open_no (hop L) (.inl hvb)
    have hz : CountV g.d = 0 := by simp [CountV, hvb]
    rw [CountE_no hvb] at hop'
    rw [hz]
    unfold bkV bkL at hop' ⊢
    repeat' (first | (refine GiP ?_; first | (refine Znh ?_) | (with_reducible refine Znl ?_) | (refine Zatd 2 ?_; refine Zv Zai ?_; refine Zst ?_)) | (refine GiW ?_; first | (refine Zsq fun K hK => ?_) | (refine ZrN 0 fun _ => ?_; refine Zal 1 fun b1 => ?_; refine Zv Zai ?_; refine Zal 3 fun b3 => ?_) | (refine ZrN 1 fun _ => ?_; refine Zv Val_makeFunc ?_; refine OPS_defer rfl ?_) | (refine ZrN 2 fun _ => ?_; refine Zv Zla ?_; refine OPS_pan (Enters_fn rfl) (hop' _) rfl rfl ?_) | (with_reducible apply WP_ret)) | (refine Zhn ?_) | (refine Zhr ?_) | (refine Zhp ?_))
    all_goals ((try refine HThen.panic (by assumption) ?_); refine QLeave_panic ?_; refine Lv_stop1 N w0 stopsCount (by repeat (first | exact Up.here | apply Up.there | apply Up.sv)) ?_; refine Lv_nil rfl (.tmp (rfl : _ = Value.int _ _) (.cell1 rfl (by repeat (first | exact Mem.here | assumption | apply Mem.there | apply Mem.sv | apply Mem.app)) rfl .nil)) rfl ?_; exact ⟨rfl, (by repeat (first | exact Wk.refl _ | apply Wk.keep1 | apply Wk.drop | apply Wk.sv | apply Wk.svD | apply Wk.appD))⟩)
theorem rd_one {L : Hp} {E : TypeId} {b : Nat} {v : Value} (hm : Mem b (Blk E [v]) L) : RdRows N w0 L (some ⟨b, 0, none⟩) 1 [[v]] := by
  intro k hk
  have hk0 : k = 0 := by simp at hk; exact hk
  subst hk0
  refine ⟨b, 0, rfl, fun j u hj w hI => ?_⟩
  have := blk_cells hm w hI j u hj
  simpa using this
/-- In how many ways, with one thing that is asked. -/
theorem ways_one (L : Hp) (g : Fg) (hv : VB g.d) (hA : BkAt N w0 g) (a : Ask) (b : Nat) (hm : Mem b (Blk 125 [askV a]) L) : Ret Try.prog N w0 L 55 [bkV g, .slice (some ⟨b, 0, none⟩) 1 1].toArray (.int .i64 (waysN g.d [a] : Int)) :=
  ways_ret N w0 L g hv hA (some ⟨b, 0, none⟩) 1 [a] (by simp) (rd_one N w0 hm)
theorem Whose2_ret (L : Hp) (g : Fg) (p : Int) (b3 : Nat) (hv : VB g.d) (hm : Mem b3 (Blk 3 [.int .i64 p]) L) : Ret Try.prog N w0 L 52 (bkV g :: [.pointer (some ⟨b3, 0, none⟩)]).toArray (.bool (inB p 0 (g.d.n - 1))) := by
  have hp := fun L => isPerch_ret N w0 L g hv.n p
  unfold bkV bkL at hp ⊢
  refine Ret.fgt ?_
  refine tri_of_WP Try.func52 rfl (n := _) rfl (by simp) ?_
  repeat' (first | (refine GiP ?_; first | (refine Znh ?_) | (with_reducible refine Znl ?_)) | (refine GiW ?_; first | (refine Zsq fun K hK => ?_) | (refine ZrN 0 fun _ => ?_; refine Zal 2 fun b2 => ?_; refine Zv Zab ?_) | (refine ZrN 1 fun _ => ?_; refine Zv Zla ?_; refine Zv Zld ?_; refine Zcl (Enters_fn rfl) (hp _) ?_; refine Zv Zab ?_) | (with_reducible apply WP_ret)) | (refine Zhn ?_) | (refine Zhr ?_))
  exact QBody_ret1 rfl (rfl : _ = Value.bool _) ⟨rfl, (by repeat (first | exact Wk.refl _ | apply Wk.keep1 | apply Wk.drop | apply Wk.sv | apply Wk.svD | apply Wk.appD))⟩
set_option maxHeartbeats 4000000 in
theorem Whose_ret (L : Hp) (g : Fg) (hA : BkAt N w0 g) (p : Int) : Ret Try.prog N w0 L 15 [bkV g, .int .i64 p].toArray (.tuple [.int .i64 ((WhoseV g.d p : Nat) : Int), .int .i64 (errT g.d (inB p 0 (g.d.n - 1)))].toArray) := by
  have hop : ∀ (b3 : Nat) (L : Hp), Sub [(b3, Blk 3 [.int .i64 p])] L → OpenR N w0 g (inB p 0 (g.d.n - 1)) 52 [.pointer (some ⟨b3, 0, none⟩)] L := fun b3 L h => open_tri N w0 L g hA _ 52 _ _ h (fun L' h2 hv => Whose2_ret N w0 L' g p b3 hv (h2.mem .here))
  refine Ret.fgt ?_
  refine tri_of_WPL Try.func15 rfl (n := _) rfl (by simp) ?_
  by_cases hok : vB g.d = true ∧ inB p 0 (g.d.n - 1) = true
  · obtain ⟨hvb, hdo⟩ := hok
    have hv := VB_of hvb
    have hop' := fun b3 L h => open_ok (hop b3 L h) hvb hdo
    have hn10 := hv.n
    have hm4 := hv.m
    by_cases h0 : (trL g.d).length = 0
    · have he := errT_10 hvb hdo h0
      have hz : WhoseV g.d p = 0 := by unfold WhoseV; rw [he]; rfl
      have htn := fun L => told_no N w0 L g hv hA h0
      rw [he, hz]
      unfold bkV bkL at hop' htn ⊢
      repeat' (first | (refine GiP ?_; first | (refine Znh ?_) | (with_reducible refine Znl ?_) | (refine Zatd 6 ?_; refine Zal 6 fun b6 => ?_; refine Zst ?_) | (refine Zatd 28 ?_; refine Zv Zxgtr ?_) | (refine Zatd 7 ?_; refine Zv Zai ?_)) | (refine GiW ?_; first | (refine Zsq fun K hK => ?_) | (refine ZrN 0 fun _ => ?_; refine Zal 2 fun b2 => ?_; refine Zal 3 fun b3 => ?_; refine Zv Zai ?_; refine Zal 5 fun b5 => ?_) | (refine ZrN 1 fun _ => ?_; refine Zv Val_makeFunc ?_; refine OPS_defer rfl ?_) | (refine ZrN 2 fun _ => ?_; refine Zv Zla ?_; refine Zv Val_makeFunc ?_; refine Zcl (Enters_fn rfl) (hop' b3 _ (by repeat (first | exact Sub.refl _ | assumption | exact Sub.left | apply Sub.cons | apply Sub.sv | apply Sub.app))) ?_; refine OPS_pan (Enters_fn rfl) (htn _) rfl rfl ?_) | (refine ZrN 3 fun _ => ?_; refine Zv Zai ?_) | (refine ZrN 4 fun _ => ?_; refine Zv Zf0 ?_; refine Zv Zfa ?_; refine Zv Zld ?_; refine Zv Zxadd ?_; refine Zv Zmi ?_) | (refine ZrN 5 fun _ => ?_; refine Zv Zxlss ?_) | (refine ZrN 6 fun _ => ?_; refine Zv Zmi ?_; refine Zv Zai ?_) | (refine ZrN 7 fun _ => ?_; refine Zv Zla ?_; refine Zv Zld ?_; refine Zv Zmi ?_; refine Zv Zxbu ?_; refine Zv Zxmi ?_; refine Zal 26 fun b26 => ?_) | (refine ZrN 8 fun _ => ?_; refine Zv Zmi ?_; refine Zv Zmi ?_) | (refine ZrN 9 fun _ => ?_; refine Zv Zxadd ?_; refine Zv Zmi ?_) | (refine ZrN 10 fun _ => ?_; refine Zv Zmi ?_; refine Zv Zai ?_; refine Zst ?_) | (refine WP_cond_true rfl ?_) | (refine WP_cond_false rfl ?_) | (refine Zcd (fun hc => ?_) (fun hc => ?_) <;> (try (exfalso; omega))) | (with_reducible apply WP_skip) | (with_reducible apply WP_block) | (with_reducible apply WP_exit) | (with_reducible apply WP_ret)) | (refine Zhn ?_) | (with_reducible apply QBlock_normal) | (refine Zhx ?_) | (with_reducible apply QBlock_hit) | (refine Zqb ?_) | (with_reducible apply QLoop_exit) | (refine Zhr ?_) | (with_reducible apply QBlock_ret) | (with_reducible apply QLoop_ret) | (refine Zhp ?_) | (with_reducible apply QBlock_panic) | (with_reducible apply QLoop_panic))
      all_goals ((try refine HThen.panic (by assumption) ?_); refine QLeave_panic ?_; refine Lv_stop1 N w0 stopsWhose (by repeat (first | exact Up.here | apply Up.there | apply Up.sv)) ?_; refine Lv_nil rfl (.tmp (rfl : _ = Value.int _ _) (.cell1 rfl (by repeat (first | exact Mem.here | assumption | apply Mem.there | apply Mem.sv | apply Mem.app)) rfl .nil)) rfl ?_; exact ⟨rfl, (by repeat (first | exact Wk.refl _ | apply Wk.keep1 | apply Wk.drop | apply Wk.sv | apply Wk.svD | apply Wk.appD))⟩)
    · have he := errT_0 hvb hdo (Nat.pos_of_ne_zero h0)
      have hz : WhoseV g.d p = whoS g.d p := by unfold WhoseV; rw [he]; rfl
      have hto := fun L => told_ok N w0 L g hv hA (Nat.pos_of_ne_zero h0)
      have hwy := fun L h b hm => ways_one N w0 L g hv hA (.mine p h) b hm
      unfold askV at hwy
      rw [he, hz]
      unfold whoS
      obtain ⟨f, hf⟩ : ∃ f : Nat → Bool, f = fun h : Nat => decide (0 < waysN g.d [.mine p h]) := ⟨_, rfl⟩
      rw [← hf]
      have hfh : ∀ h : Nat, f h = decide (0 < waysN g.d [.mine p h]) := fun h => by rw [hf]
      unfold bkV bkL at hop' hto hwy ⊢
      repeat' (first | (refine GiP ?_; first | (refine Znh ?_) | (with_reducible refine Znl ?_)) | (refine GiW ?_; first | (refine Zsq fun K hK => ?_) | (refine ZrN 0 fun _ => ?_; refine Zal 2 fun b2 => ?_; refine Zal 3 fun b3 => ?_; refine Zv Zai ?_; refine Zal 5 fun b5 => ?_) | (refine ZrN 1 fun _ => ?_; refine Zv Val_makeFunc ?_; refine OPS_defer rfl ?_) | (refine ZrN 2 fun _ => ?_; refine Zv Zla ?_; refine Zv Val_makeFunc ?_; refine Zcl (Enters_fn rfl) (hop' b3 _ (by repeat (first | exact Sub.refl _ | assumption | exact Sub.left | apply Sub.cons | apply Sub.sv | apply Sub.app))) ?_; refine Zcl (Enters_fn rfl) (hto _) ?_; refine Zal 6 fun b6 => ?_; refine Zst ?_) | (refine ZrN 3 fun _ => ?_; refine Zv Zai ?_) | (refine ZrN 4 fun _ => ?_; refine Zv Zf0 ?_; refine Zv Zfa ?_; refine Zv Zld ?_; refine Zv Zxadd ?_; refine Zv Zmi ?_) | (refine WP_cond_true rfl ?_) | (refine WP_cond_false rfl ?_) | (refine Zcd (fun hc => ?_) (fun hc => ?_) <;> (try (exfalso; omega))) | (with_reducible apply WP_skip) | (with_reducible apply WP_block) | (with_reducible apply WP_exit) | (with_reducible apply WP_ret)) | (refine Zhn ?_) | (with_reducible apply QBlock_normal) | (refine Zhx ?_) | (with_reducible apply QBlock_hit) | (refine Zqb ?_) | (with_reducible apply QLoop_exit) | (refine Zhr ?_) | (with_reducible apply QBlock_ret) | (with_reducible apply QLoop_ret))
      refine WP_loop [7, 8, 18, 19, 20, 21, 22, 23, 24, 25, 26, 27, 28, 29, 30, 31, 32, 33] (fun h : Nat => [(18, .int .i64 (h : Int)), (7, .int .i64 (bitsOf f h : Int))]) (fun _ => (b6, Blk 71 [.int .i64 g.d.n, .int .i64 g.d.m, .slice g.A1 g.d.ls.length g.c1, .slice g.A2 g.d.ms.length g.c2]) :: (b5, Blk 28 [.int .i64 0]) :: (b3, Blk 3 [.int .i64 p]) :: (b2, Blk 25 [.int .i64 g.d.n, .int .i64 g.d.m, .slice g.A1 g.d.ls.length g.c1, .slice g.A2 g.d.ms.length g.c2]) :: L) (fun h => h ≤ g.d.m.toNat + 1) (fun h => g.d.m.toNat + 1 - h) 0 (.cons rfl (.cons rfl .nil)) (Wk.refl _) (Nat.zero_le _) ?_
      intro h j hh
      have hbl := bitsOf_lt f h
      have hp5 : 2 ^ h ≤ 2 ^ 5 := Nat.pow_le_pow_right (by omega) (by omega)
      by_cases hlt : h < g.d.m.toNat + 1
      · have hfe := hfh h
        have hwh := fun L b hm => hwy L h b hm
        obtain ⟨z, hze⟩ : ∃ z, waysN g.d [.mine p h] = z := ⟨_, rfl⟩
        rw [hze] at hfe hwh
        by_cases hz0 : 0 < z
        · rw [decide_eq_true hz0] at hfe
          have hor := bitsOf_or hfe
          have hvo : ∀ {L e d ty pos af gg x y' t t'} (hx : ev e x = .int .i64 (bitsOf f h : Int)) (hy : ev e y' = .int .i64 ((2 ^ h : Nat) : Int)), Val Try.prog N w0 L e ⟨d, .binOp .or t x y' t', ty, pos, af, gg⟩ (.int .i64 (bitsOf f (h + 1) : Int)) := by
            intro L e d ty pos af gg x y' t t' hx hy
            have := Val_orS (P := Try.prog) (N := N) (w0 := w0) (L := L) (d := d) (ty := ty) (pos := pos) (af := af) (g := gg) (t := t) (t' := t') hx hy (by omega) (by omega)
            rw [hor] at this
            exact this
          repeat' (first | (refine GiP ?_; first | (refine Znh ?_) | (with_reducible refine Znl ?_)) | (refine GiW ?_; first | (refine Zsq fun K hK => ?_) | (refine ZrN 5 fun _ => ?_; refine Zv Zxlss ?_) | (refine ZrN 6 fun _ => ?_; refine Zv Zmi ?_; refine Zv Zai ?_) | (refine ZrN 7 fun _ => ?_; refine Zv Zla ?_; refine Zv Zld ?_; refine Zv Zmi ?_; refine Zv Zxbu ?_; refine Zv Zxmi ?_; refine Zal 26 fun b26 => ?_; refine Zcl (Enters_fn rfl) (hwh _ b26 (by repeat (first | exact Mem.here | assumption | apply Mem.there | apply Mem.sv | apply Mem.app))) ?_; refine Zv Zxgtr ?_) | (refine ZrN 8 fun _ => ?_; refine Zv Zmi ?_; refine Zv Zmi ?_; refine Zv (Val_shlS (i := h) rfl rfl (by omega)) ?_; refine Zv (hvo rfl rfl) ?_; refine Zv Zai ?_) | (refine ZrN 9 fun _ => ?_; refine Zv Zxadd ?_; refine Zv Zmi ?_) | (refine WP_cond_true rfl ?_) | (refine WP_cond_false rfl ?_) | (refine Zcd (fun hc => ?_) (fun hc => ?_) <;> (try (exfalso; omega))) | (with_reducible apply WP_skip) | (with_reducible apply WP_block) | (with_reducible apply WP_exit) | (with_reducible apply WP_ret)) | (refine Zhn ?_) | (with_reducible apply QBlock_normal) | (refine Zhx ?_) | (with_reducible apply QBlock_hit) | (refine Zqb ?_) | (with_reducible apply QLoop_exit) | (refine Zhr ?_) | (with_reducible apply QBlock_ret) | (with_reducible apply QLoop_ret))
          exact QLoop_normal (h + 1) (.cons rfl (.cons rfl .nil)) (by repeat (first | exact Off.frame rfl | exact Off.refl _ _ | refine Off.frameT rfl rfl ?_ | refine Off.upd rfl ?_ | refine Off.updO rfl ?_)) (by repeat (first | exact Wk.refl _ | apply Wk.keep1 | apply Wk.drop | apply Wk.sv | apply Wk.svD | apply Wk.appD)) (by omega) (by omega)
        · rw [decide_eq_false hz0] at hfe
          have hno := bitsOf_no hfe
          repeat' (first | (refine GiP ?_; first | (refine Znh ?_) | (with_reducible refine Znl ?_)) | (refine GiW ?_; first | (refine Zsq fun K hK => ?_) | (refine ZrN 5 fun _ => ?_; refine Zv Zxlss ?_) | (refine ZrN 6 fun _ => ?_; refine Zv Zmi ?_; refine Zv Zai ?_) | (refine ZrN 7 fun _ => ?_; refine Zv Zla ?_; refine Zv Zld ?_; refine Zv Zmi ?_; refine Zv Zxbu ?_; refine Zv Zxmi ?_; refine Zal 26 fun b26 => ?_; refine Zcl (Enters_fn rfl) (hwh _ b26 (by repeat (first | exact Mem.here | assumption | apply Mem.there | apply Mem.sv | apply Mem.app))) ?_; refine Zv Zxgtr ?_) | (refine ZrN 9 fun _ => ?_; refine Zv Zxadd ?_; refine Zv Zmi ?_) | (refine WP_cond_true rfl ?_) | (refine WP_cond_false rfl ?_) | (refine Zcd (fun hc => ?_) (fun hc => ?_) <;> (try (exfalso; omega))) | (with_reducible apply WP_skip) | (with_reducible apply WP_block) | (with_reducible apply WP_exit) | (with_reducible apply WP_ret)) | (refine Zhn ?_) | (with_reducible apply QBlock_normal) | (refine Zhx ?_) | (with_reducible apply QBlock_hit) | (refine Zqb ?_) | (with_reducible apply QLoop_exit) | (refine Zhr ?_) | (with_reducible apply QBlock_ret) | (with_reducible apply QLoop_ret))
          exact QLoop_normal (h + 1) (.cons rfl (.cons (by rw [hno]; rfl) .nil)) (by repeat (first | exact Off.frame rfl | exact Off.refl _ _ | refine Off.frameT rfl rfl ?_ | refine Off.upd rfl ?_ | refine Off.updO rfl ?_)) (by repeat (first | exact Wk.refl _ | apply Wk.keep1 | apply Wk.drop | apply Wk.sv | apply Wk.svD | apply Wk.appD)) (by omega) (by omega)
      · have hhe : h = g.d.m.toNat + 1 := by omega
        subst hhe
        repeat' (first | (refine GiP ?_; first | (refine Znh ?_) | (with_reducible refine Znl ?_)) | (refine GiW ?_; first | (refine Zsq fun K hK => ?_) | (refine ZrN 5 fun _ => ?_; refine Zv Zxlss ?_) | (refine ZrN 10 fun _ => ?_; refine Zv Zmi ?_; refine Zv Zai ?_; refine Zst ?_) | (refine WP_cond_true rfl ?_) | (refine WP_cond_false rfl ?_) | (refine Zcd (fun hc => ?_) (fun hc => ?_) <;> (try (exfalso; omega))) | (with_reducible apply WP_skip) | (with_reducible apply WP_block) | (with_reducible apply WP_exit) | (with_reducible apply WP_ret)) | (refine Zhn ?_) | (with_reducible apply QBlock_normal) | (refine Zhx ?_) | (with_reducible apply QBlock_hit) | (refine Zqb ?_) | (with_reducible apply QLoop_exit) | (refine Zhr ?_) | (with_reducible apply QBlock_ret) | (with_reducible apply QLoop_ret))
        all_goals (refine QLeave_ret ?_; refine Lv_stop0 N w0 stopsWhose ?_; refine Lv_nil rfl (.tmp (rfl : _ = Value.int _ _) (.cell1 rfl (by repeat (first | exact Mem.here | assumption | apply Mem.there | apply Mem.sv | apply Mem.app)) rfl .nil)) rfl ?_; exact ⟨rfl, (by repeat (first | exact Wk.refl _ | apply Wk.keep1 | apply Wk.drop | apply Wk.sv | apply Wk.svD | apply Wk.appD))⟩)
  · have hno : vB g.d = false ∨ inB p 0 (g.d.n - 1) = false := by
      cases h1 : vB g.d <;> cases h2 : inB p 0 (g.d.n - 1) <;> simp_all
    obtain ⟨hne, hee⟩ := errT_no (d := g.d) hno
    have hz : WhoseV g.d p = 0 := by unfold WhoseV; rw [if_neg hne]
    have hop' := fun b3 L h => open_no (hop b3 L h) hno
    unfold errD at hop'
    rw [← hee] at hop'
    rw [hz]
    unfold bkV bkL at hop' ⊢
    repeat' (first | (refine GiP ?_; first | (refine Znh ?_) | (with_reducible refine Znl ?_) | (refine Zatd 6 ?_; refine Zal 6 fun b6 => ?_; refine Zst ?_) | (refine Zatd 28 ?_; refine Zv Zxgtr ?_) | (refine Zatd 7 ?_; refine Zv Zai ?_)) | (refine GiW ?_; first | (refine Zsq fun K hK => ?_) | (refine ZrN 0 fun _ => ?_; refine Zal 2 fun b2 => ?_; refine Zal 3 fun b3 => ?_; refine Zv Zai ?_; refine Zal 5 fun b5 => ?_) | (refine ZrN 1 fun _ => ?_; refine Zv Val_makeFunc ?_; refine OPS_defer rfl ?_) | (refine ZrN 2 fun _ => ?_; refine Zv Zla ?_; refine Zv Val_makeFunc ?_; refine OPS_pan (Enters_fn rfl) (hop' b3 _ (by repeat (first | exact Sub.refl _ | assumption | exact Sub.left | apply Sub.cons | apply Sub.sv | apply Sub.app))) rfl rfl ?_) | (refine ZrN 3 fun _ => ?_; refine Zv Zai ?_) | (refine ZrN 4 fun _ => ?_; refine Zv Zf0 ?_; refine Zv Zfa ?_; refine Zv Zld ?_; refine Zv Zxadd ?_; refine Zv Zmi ?_) | (refine ZrN 5 fun _ => ?_; refine Zv Zxlss ?_) | (refine ZrN 6 fun _ => ?_; refine Zv Zmi ?_; refine Zv Zai ?_) | (refine ZrN 7 fun _ => ?_; refine Zv Zla ?_; refine Zv Zld ?_; refine Zv Zmi ?_; refine Zv Zxbu ?_; refine Zv Zxmi ?_; refine Zal 26 fun b26 => ?_) | (refine ZrN 8 fun _ => ?_; refine Zv Zmi ?_; refine Zv Zmi ?_) | (refine ZrN 9 fun _ => ?_; refine Zv Zxadd ?_; refine Zv Zmi ?_) | (refine ZrN 10 fun _ => ?_; refine Zv Zmi ?_; refine Zv Zai ?_; refine Zst ?_) | (refine WP_cond_true rfl ?_) | (refine WP_cond_false rfl ?_) | (refine Zcd (fun hc => ?_) (fun hc => ?_) <;> (try (exfalso; omega))) | (with_reducible apply WP_skip) | (with_reducible apply WP_block) | (with_reducible apply WP_exit) | (with_reducible apply WP_ret)) | (refine Zhn ?_) | (with_reducible apply QBlock_normal) | (refine Zhx ?_) | (with_reducible apply QBlock_hit) | (refine Zqb ?_) | (with_reducible apply QLoop_exit) | (refine Zhr ?_) | (with_reducible apply QBlock_ret) | (with_reducible apply QLoop_ret) | (refine Zhp ?_) | (with_reducible apply QBlock_panic) | (with_reducible apply QLoop_panic))
    all_goals ((try refine HThen.panic (by assumption) ?_); refine QLeave_panic ?_; refine Lv_stop1 N w0 stopsWhose (by repeat (first | exact Up.here | apply Up.there | apply Up.sv)) ?_; refine Lv_nil rfl (.tmp (rfl : _ = Value.int _ _) (.cell1 rfl (by repeat (first | exact Mem.here | assumption | apply Mem.there | apply Mem.sv | apply Mem.app)) rfl .nil)) rfl ?_; exact ⟨rfl, (by repeat (first | exact Wk.refl _ | apply Wk.keep1 | apply Wk.drop | apply Wk.sv | apply Wk.svD | apply Wk.appD))⟩)
end
end Go.Proofs.Ytakmopiceopcpaa
end
