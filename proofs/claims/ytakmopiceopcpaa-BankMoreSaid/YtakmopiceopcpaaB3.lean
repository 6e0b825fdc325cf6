/- Package bank: its exported functions: Has, Wide, Line. -/
import Derived.Test.YtakmopiceopcpaaB2
section
namespace Go.Proofs.Ytakmopiceopcpaa
open Go.RowKit
theorem stopsHas : Stops 60 Try.f60 := ⟨Try.func60, ⟨_, _, _, _, _, rfl⟩, rfl, rfl⟩
theorem stopsWide : Stops 64 Try.f64 := ⟨Try.func64, ⟨_, _, _, _, _, rfl⟩, rfl, rfl⟩
theorem stopsLine : Stops 69 Try.f69 := ⟨Try.func69, ⟨_, _, _, _, _, rfl⟩, rfl, rfl⟩
attribute [local irreducible] AnyO AnyB QAny QB EWalk AWalk Ev WP OPS QThen QBlock QScope QLoop QBody Val New Turn Tri Enters PostA Blk Ro
attribute [local irreducible] AnyC QC
section
variable (N : Nat) (w0 : World)
theorem Has2_ret (L : Hp) (g : Fg) (p : Int) (b3 : Nat) (hv : VB g.d) (hm : Mem b3 (Blk 3 [.int .i64 p]) L) : Ret Try.prog N w0 L 61 (bkV g :: [.pointer (some ⟨b3, 0, none⟩)]).toArray (.bool (inB p 0 g.d.m)) := by
  have hn10 := hv.n
  have hp := fun L => isHolder_ret N w0 L g p
  unfold bkV bkL at hp ⊢
  refine Ret.fgt ?_
  refine tri_of_WP Try.func61 rfl (n := _) rfl (by simp) ?_
  repeat' (first | (refine Znh ?_) | (refine GiW ?_; first | (refine Zsq fun K hK => ?_) | (refine ZrN 0 fun _ => ?_; refine Zal 2 fun b2 => ?_; refine Zv Zab ?_) | (refine ZrN 1 fun _ => ?_; refine Zv Zla ?_; refine Zv Zld ?_; refine Zcl (Enters_fn rfl) (hp _) ?_; refine Zv Zab ?_) | (with_reducible apply WP_ret)))
  exact QBody_ret1 rfl (rfl : _ = Value.bool _) ⟨rfl, (by repeat (first | exact Wk.refl _ | apply Wk.keep1 | apply Wk.drop | apply Wk.sv | apply Wk.svD | apply Wk.appD))⟩
theorem Wide2_ret (L : Hp) (g : Fg) (p : Int) (b3 : Nat) (hv : VB g.d) (hm : Mem b3 (Blk 3 [.int .i64 p]) L) : Ret Try.prog N w0 L 65 (bkV g :: [.pointer (some ⟨b3, 0, none⟩)]).toArray (.bool (inB p 0 g.d.m)) := by
  have hn10 := hv.n
  have hp := fun L => isHolder_ret N w0 L g p
  unfold bkV bkL at hp ⊢
  refine Ret.fgt ?_
  refine tri_of_WP Try.func65 rfl (n := _) rfl (by simp) ?_
  repeat' (first | (refine Znh ?_) | (refine GiW ?_; first | (refine Zsq fun K hK => ?_) | (refine ZrN 0 fun _ => ?_; refine Zal 2 fun b2 => ?_; refine Zv Zab ?_) | (refine ZrN 1 fun _ => ?_; refine Zv Zla ?_; refine Zv Zld ?_; refine Zcl (Enters_fn rfl) (hp _) ?_; refine Zv Zab ?_) | (with_reducible apply WP_ret)))
  exact QBody_ret1 rfl (rfl : _ = Value.bool _) ⟨rfl, (by repeat (first | exact Wk.refl _ | apply Wk.keep1 | apply Wk.drop | apply Wk.sv | apply Wk.svD | apply Wk.appD))⟩
theorem Line2_ret (L : Hp) (g : Fg) (p : Int) (b3 : Nat) (hv : VB g.d) (hm : Mem b3 (Blk 3 [.int .i64 p]) L) : Ret Try.prog N w0 L 70 (bkV g :: [.pointer (some ⟨b3, 0, none⟩)]).toArray (.bool (inB p 1 (g.d.n - 1))) := by
  have hn10 := hv.n
  have hp := fun L => within_i N w0 L p 1 (g.d.n - 1)
  unfold bkV bkL
  refine Ret.fgt ?_
  refine tri_of_WP Try.func70 rfl (n := _) rfl (by simp) ?_
  repeat' (first | (refine Znh ?_) | (refine GiW ?_; first | (refine Zsq fun K hK => ?_) | (refine ZrN 0 fun _ => ?_; refine Zal 2 fun b2 => ?_; refine Zv Zab ?_) | (refine ZrN 1 fun _ => ?_; refine Zv Zld ?_; refine Zv Zf0 ?_; refine Zv Zf0 ?_; refine Zv Zld ?_; refine Zv Zxsub ?_; refine Zcl (Enters_fn rfl) (hp _) ?_; refine Zv Zab ?_) | (with_reducible apply WP_ret)))
  exact QBody_ret1 rfl (rfl : _ = Value.bool _) ⟨rfl, (by repeat (first | exact Wk.refl _ | apply Wk.keep1 | apply Wk.drop | apply Wk.sv | apply Wk.svD | apply Wk.appD))⟩
set_option maxHeartbeats 4000000 in
theorem Has_ret (L : Hp) (g : Fg) (hA : BkAt N w0 g) (h : Int) : Ret Try.prog N w0 L 17 [bkV g, .int .i64 h].toArray (.tuple [.int .i64 ((SureV g.d h : Nat) : Int), .int .i64 ((PerhV g.d h : Nat) : Int), .int .i64 (errT g.d (inB h 0 g.d.m))].toArray) := by
  have hop : ∀ (b3 : Nat) (L : Hp), Sub [(b3, Blk 3 [.int .i64 h])] L → OpenR N w0 g (inB h 0 g.d.m) 61 [.pointer (some ⟨b3, 0, none⟩)] L := fun b3 L hS => open_tri N w0 L g hA _ 61 _ _ hS (fun L' h2 hv => Has2_ret N w0 L' g h b3 hv (h2.mem .here))
  refine Ret.fgt ?_
  refine tri_of_WPL Try.func17 rfl (n := _) rfl (by simp) ?_
  by_cases hok : vB g.d = true ∧ inB h 0 g.d.m = true
  · obtain ⟨hvb, hdo⟩ := hok
    have hv := VB_of hvb
    have hop' := fun b3 L hS => open_ok (hop b3 L hS) hvb hdo
    have hn10 := hv.n
    have hm4 := hv.m
    by_cases h0 : (trL g.d).length = 0
    · have he := errT_10 hvb hdo h0
      have htn := fun L => told_no N w0 L g hv hA h0
      have hz : SureV g.d h = 0 := by unfold SureV; rw [he]; rfl
      have hy : PerhV g.d h = 0 := by unfold PerhV; rw [he]; rfl
      rw [he, hz, hy]
      unfold bkV bkL at hop' htn ⊢
      repeat' (first | (refine Znh ?_) | (refine GiW ?_; first | (refine Zsq fun K hK => ?_) | (refine ZrN 0 fun _ => ?_; refine Zal 2 fun b2 => ?_; refine Zal 3 fun b3 => ?_; refine Zv Zai ?_; refine Zv Zai ?_; refine Zal 6 fun b6 => ?_) | (refine ZrN 1 fun _ => ?_; refine Zv Val_makeFunc ?_; refine OPS_defer rfl ?_) | (refine ZrN 2 fun _ => ?_; refine Zv Zla ?_; refine Zv Val_makeFunc ?_; refine Zcl (Enters_fn rfl) (hop' b3 _ (by repeat (first | exact Sub.refl _ | assumption | exact Sub.left | apply Sub.cons | apply Sub.sv | apply Sub.app))) ?_; refine OPS_pan (Enters_fn rfl) (htn _) rfl rfl ?_)) | (refine Zhp ?_))
      all_goals ((try refine HThen.panic (by assumption) ?_); refine QLeave_panic ?_; refine Lv_stop1 N w0 stopsHas (by repeat (first | exact Up.here | apply Up.there | apply Up.sv)) ?_; refine Lv_nil rfl (.tmp (rfl : _ = Value.int _ _) (.tmp (rfl : _ = Value.int _ _) (.cell1 rfl (by repeat (first | exact Mem.here | assumption | apply Mem.there | apply Mem.sv | apply Mem.app)) rfl .nil))) rfl ?_; exact ⟨rfl, (by repeat (first | exact Wk.refl _ | apply Wk.keep1 | apply Wk.drop | apply Wk.sv | apply Wk.svD | apply Wk.appD))⟩)
    · have hpos := Nat.pos_of_ne_zero h0
      have he := errT_0 hvb hdo hpos
      have hz : SureV g.d h = surS g.d h := by unfold SureV; rw [he]; rfl
      have hy : PerhV g.d h = perS g.d h := by unfold PerhV; rw [he]; rfl
      have hto := fun L => told_ok N w0 L g hv hA hpos
      have hw0 := fun L => ways_in N w0 L g hv (BankIn.at_ hA)
      have hwy := fun L p b hm => ways_one N w0 L g hv hA (.mine p h) b hm
      unfold askV at hwy
      rw [he, hz, hy]
      unfold surS perS
      obtain ⟨f, hf⟩ : ∃ f : Nat → Bool, f = fun p : Nat => decide (waysN g.d [.mine p h] = (trL g.d).length) := ⟨_, rfl⟩
      obtain ⟨f2, hf2⟩ : ∃ f : Nat → Bool, f = fun p : Nat => decide (0 < waysN g.d [.mine p h]) := ⟨_, rfl⟩
      rw [← hf, ← hf2]
      have hfh : ∀ p : Nat, f p = decide (waysN g.d [.mine p h] = (trL g.d).length) := fun p => by rw [hf]
      have hfh2 : ∀ p : Nat, f2 p = decide (0 < waysN g.d [.mine p h]) := fun p => by rw [hf2]
      obtain ⟨tn, htn⟩ : ∃ tn, (trL g.d).length = tn := ⟨_, rfl⟩
      rw [htn] at hw0 hfh hpos
      unfold bkV bkL at hop' hto hw0 hwy ⊢
      repeat' (first | (refine Znh ?_) | (refine GiW ?_; first | (refine Zsq fun K hK => ?_) | (refine ZrN 0 fun _ => ?_; refine Zal 2 fun b2 => ?_; refine Zal 3 fun b3 => ?_; refine Zv Zai ?_; refine Zv Zai ?_; refine Zal 6 fun b6 => ?_) | (refine ZrN 1 fun _ => ?_; refine Zv Val_makeFunc ?_; refine OPS_defer rfl ?_) | (refine ZrN 2 fun _ => ?_; refine Zv Zla ?_; refine Zv Val_makeFunc ?_; refine Zcl (Enters_fn rfl) (hop' b3 _ (by repeat (first | exact Sub.refl _ | assumption | exact Sub.left | apply Sub.cons | apply Sub.sv | apply Sub.app))) ?_; refine Zcl (Enters_fn rfl) (hto _) ?_; refine Zal 7 fun b7 => ?_; refine Zst ?_) | (refine ZrN 3 fun _ => ?_; refine Zv Zla ?_; refine Zv Val_makeFunc ?_; refine Zv Zav ?_) | (refine ZrN 4 fun _ => ?_; refine Zv Zai ?_; refine Zv Zai ?_) | (refine ZrN 5 fun _ => ?_; refine Zv Zf0 ?_; refine Zv Zf0 ?_; refine Zv Zld ?_; refine Zv Zmi ?_) | (with_reducible apply WP_block)))
      refine WP_loop [9, 10, 11, 12, 23, 24, 25, 26, 27, 28, 29, 30, 31, 32, 33, 34, 35, 36, 37, 38, 39, 40, 41, 42, 43, 44, 45, 46, 47] (fun p : Nat => [(23, .int .i64 (p : Int)), (9, .int .i64 (bitsOf f p : Int)), (10, .int .i64 (bitsOf f2 p : Int))]) (fun _ => (b7, Blk 71 [.int .i64 g.d.n, .int .i64 g.d.m, .slice g.A1 g.d.ls.length g.c1, .slice g.A2 g.d.ms.length g.c2]) :: (b6, Blk 28 [.int .i64 0]) :: (b3, Blk 3 [.int .i64 h]) :: (b2, Blk 25 [.int .i64 g.d.n, .int .i64 g.d.m, .slice g.A1 g.d.ls.length g.c1, .slice g.A2 g.d.ms.length g.c2]) :: L) (fun p => p ≤ g.d.n.toNat) (fun p => g.d.n.toNat - p) 0 (.cons rfl (.cons rfl (.cons rfl .nil))) (Wk.refl _) (Nat.zero_le _) ?_
      intro p j hh
      have hbl := bitsOf_lt f p
      have hbl2 := bitsOf_lt f2 p
      have hp5 : 2 ^ p ≤ 2 ^ 10 := Nat.pow_le_pow_right (by omega) (by omega)
      by_cases hlt : p < g.d.n.toNat
      · have hfe := hfh p
        have hfe2 := hfh2 p
        have hwh := fun L b hm => hwy L p b hm
        obtain ⟨z, hze⟩ : ∃ z, waysN g.d [.mine p h] = z := ⟨_, rfl⟩
        rw [hze] at hfe hfe2 hwh
        have hor := fun hfe => bitsOf_or (f := f) (n := p) hfe
        have hvo : f p = true → ∀ {L e d ty pos af gg x y' t t'} (hx : ev e x = .int .i64 (bitsOf f p : Int)) (hy : ev e y' = .int .i64 ((2 ^ p : Nat) : Int)), Val Try.prog N w0 L e ⟨d, .binOp .or t x y' t', ty, pos, af, gg⟩ (.int .i64 (bitsOf f (p + 1) : Int)) := by
          intro hfe L e d ty pos af gg x y' t t' hx hy
          have := Val_orS (P := Try.prog) (N := N) (w0 := w0) (L := L) (d := d) (ty := ty) (pos := pos) (af := af) (g := gg) (t := t) (t' := t') hx hy (by omega) (by omega)
          rw [bitsOf_or hfe] at this
          exact this
        have hvo2 : f2 p = true → ∀ {L e d ty pos af gg x y' t t'} (hx : ev e x = .int .i64 (bitsOf f2 p : Int)) (hy : ev e y' = .int .i64 ((2 ^ p : Nat) : Int)), Val Try.prog N w0 L e ⟨d, .binOp .or t x y' t', ty, pos, af, gg⟩ (.int .i64 (bitsOf f2 (p + 1) : Int)) := by
          intro hfe L e d ty pos af gg x y' t t' hx hy
          have := Val_orS (P := Try.prog) (N := N) (w0 := w0) (L := L) (d := d) (ty := ty) (pos := pos) (af := af) (g := gg) (t := t) (t' := t') hx hy (by omega) (by omega)
          rw [bitsOf_or hfe] at this
          exact this
        by_cases hzn : z = tn
        · rw [decide_eq_true hzn] at hfe
          rw [decide_eq_true (by omega)] at hfe2
          have hv1 := @hvo hfe
          have hv2 := @hvo2 hfe2
          repeat' (first | (refine Znh ?_) | (refine GiW ?_; first | (refine Zsq fun K hK => ?_) | (refine ZrN 6 fun _ => ?_; refine Zv Zxlss ?_) | (refine ZrN 7 fun _ => ?_; refine Zv Zmi ?_; refine Zv Zai ?_) | (refine ZrN 8 fun _ => ?_; refine Zv Zmv ?_; refine Zv Zmi ?_; refine Zv Zld ?_; refine Zv Zxbu ?_; refine Zv Zxmi ?_; refine Zal 31 fun b31 => ?_; (first | (refine Zcl (Enters_val rfl rfl) (hwh _ b31 (by repeat (first | exact Mem.here | assumption | apply Mem.there | apply Mem.sv | apply Mem.app))) ?_) | (refine Zcl (Enters_val rfl rfl) (hw0 _) ?_)); refine Zv Zai ?_) | (refine ZrN 9 fun _ => ?_; refine Zv Zmi ?_; refine Zv Zmv ?_; (first | (refine Zcl (Enters_val rfl rfl) (hwh _ b31 (by repeat (first | exact Mem.here | assumption | apply Mem.there | apply Mem.sv | apply Mem.app))) ?_) | (refine Zcl (Enters_val rfl rfl) (hw0 _) ?_)); refine Zv Zxeql ?_) | (refine Zcd (fun hc => ?_) (fun hc => ?_) <;> (try (exfalso; omega))) | (with_reducible apply WP_skip) | (with_reducible apply WP_block)) | (refine Zhn ?_))
          repeat' (first | (refine Znh ?_) | (refine GiW ?_; first | (refine Zsq fun K hK => ?_) | (refine ZrN 10 fun _ => ?_; refine Zv Zmi ?_; refine Zv Zmi ?_; refine Zv (Val_shlS (i := p) rfl rfl (by omega)) ?_; refine Zv (hv1 rfl rfl) ?_; refine Zv Zai ?_)))
          repeat' (first | (refine Znh ?_) | (refine GiW ?_; first | (refine ZrN 11 fun _ => ?_; refine Zv Zmi ?_; refine Zv Zxgtr ?_) | (refine Zcd (fun hc => ?_) (fun hc => ?_) <;> (try (exfalso; omega)))))
          repeat' (first | (with_reducible refine Znl ?_) | (refine GiW ?_; first | (refine ZrN 12 fun _ => ?_; refine Zv Zmi ?_; refine Zv Zmi ?_; refine Zv (Val_shlS (i := p) rfl rfl (by omega)) ?_; refine Zv (hv2 rfl rfl) ?_; refine Zv Zai ?_) | (refine ZrN 13 fun _ => ?_; refine Zv Zxadd ?_; refine Zv Zmi ?_)) | (refine Zhn ?_) | (with_reducible apply QBlock_normal))
          exact QLoop_normal (p + 1) (.cons rfl (.cons rfl (.cons rfl .nil))) (by repeat (first | exact Off.frame rfl | exact Off.refl _ _ | refine Off.frameT rfl rfl ?_ | refine Off.upd rfl ?_ | refine Off.updO rfl ?_)) (by repeat (first | exact Wk.refl _ | apply Wk.keep1 | apply Wk.drop | apply Wk.sv | apply Wk.svD | apply Wk.appD)) (by omega) (by omega)
        · rw [decide_eq_false hzn] at hfe
          have hno := bitsOf_no hfe
          by_cases hz0 : 0 < z
          · rw [decide_eq_true hz0] at hfe2
            have hv2 := @hvo2 hfe2
            repeat' (first | (refine Znh ?_) | (refine GiW ?_; first | (refine Zsq fun K hK => ?_) | (refine ZrN 6 fun _ => ?_; refine Zv Zxlss ?_) | (refine ZrN 7 fun _ => ?_; refine Zv Zmi ?_; refine Zv Zai ?_) | (refine ZrN 8 fun _ => ?_; refine Zv Zmv ?_; refine Zv Zmi ?_; refine Zv Zld ?_; refine Zv Zxbu ?_; refine Zv Zxmi ?_; refine Zal 31 fun b31 => ?_; (first | (refine Zcl (Enters_val rfl rfl) (hwh _ b31 (by repeat (first | exact Mem.here | assumption | apply Mem.there | apply Mem.sv | apply Mem.app))) ?_) | (refine Zcl (Enters_val rfl rfl) (hw0 _) ?_)); refine Zv Zai ?_) | (refine ZrN 9 fun _ => ?_; refine Zv Zmi ?_; refine Zv Zmv ?_; (first | (refine Zcl (Enters_val rfl rfl) (hwh _ b31 (by repeat (first | exact Mem.here | assumption | apply Mem.there | apply Mem.sv | apply Mem.app))) ?_) | (refine Zcl (Enters_val rfl rfl) (hw0 _) ?_)); refine Zv Zxeql ?_) | (refine ZrN 11 fun _ => ?_; refine Zv Zmi ?_; refine Zv Zxgtr ?_) | (refine Zcd (fun hc => ?_) (fun hc => ?_) <;> (try (exfalso; omega))) | (with_reducible apply WP_skip) | (with_reducible apply WP_block)) | (refine Zhn ?_))
            repeat' (first | (with_reducible refine Znl ?_) | (refine GiW ?_; first | (refine ZrN 12 fun _ => ?_; refine Zv Zmi ?_; refine Zv Zmi ?_; refine Zv (Val_shlS (i := p) rfl rfl (by omega)) ?_; refine Zv (hv2 rfl rfl) ?_; refine Zv Zai ?_) | (refine ZrN 13 fun _ => ?_; refine Zv Zxadd ?_; refine Zv Zmi ?_)) | (refine Zhn ?_) | (with_reducible apply QBlock_normal))
            exact QLoop_normal (p + 1) (.cons rfl (.cons (by rw [hno]; rfl) (.cons rfl .nil))) (by repeat (first | exact Off.frame rfl | exact Off.refl _ _ | refine Off.frameT rfl rfl ?_ | refine Off.upd rfl ?_ | refine Off.updO rfl ?_)) (by repeat (first | exact Wk.refl _ | apply Wk.keep1 | apply Wk.drop | apply Wk.sv | apply Wk.svD | apply Wk.appD)) (by omega) (by omega)
          · rw [decide_eq_false hz0] at hfe2
            have hno2 := bitsOf_no hfe2
            repeat' (first | (refine GiP ?_; first | (refine Znh ?_) | (with_reducible refine Znl ?_)) | (refine GiW ?_; first | (refine Zsq fun K hK => ?_) | (refine ZrN 6 fun _ => ?_; refine Zv Zxlss ?_) | (refine ZrN 7 fun _ => ?_; refine Zv Zmi ?_; refine Zv Zai ?_) | (refine ZrN 8 fun _ => ?_; refine Zv Zmv ?_; refine Zv Zmi ?_; refine Zv Zld ?_; refine Zv Zxbu ?_; refine Zv Zxmi ?_; refine Zal 31 fun b31 => ?_; (first | (refine Zcl (Enters_val rfl rfl) (hwh _ b31 (by repeat (first | exact Mem.here | assumption | apply Mem.there | apply Mem.sv | apply Mem.app))) ?_) | (refine Zcl (Enters_val rfl rfl) (hw0 _) ?_)); refine Zv Zai ?_) | (refine ZrN 9 fun _ => ?_; refine Zv Zmi ?_; refine Zv Zmv ?_; (first | (refine Zcl (Enters_val rfl rfl) (hwh _ b31 (by repeat (first | exact Mem.here | assumption | apply Mem.there | apply Mem.sv | apply Mem.app))) ?_) | (refine Zcl (Enters_val rfl rfl) (hw0 _) ?_)); refine Zv Zxeql ?_) | (refine ZrN 11 fun _ => ?_; refine Zv Zmi ?_; refine Zv Zxgtr ?_) | (refine ZrN 13 fun _ => ?_; refine Zv Zxadd ?_; refine Zv Zmi ?_) | (refine Zcd (fun hc => ?_) (fun hc => ?_) <;> (try (exfalso; omega))) | (with_reducible apply WP_skip) | (with_reducible apply WP_block)) | (refine Zhn ?_) | (with_reducible apply QBlock_normal))
            exact QLoop_normal (p + 1) (.cons rfl (.cons (by rw [hno]; rfl) (.cons (by rw [hno2]; rfl) .nil))) (by repeat (first | exact Off.frame rfl | exact Off.refl _ _ | refine Off.frameT rfl rfl ?_ | refine Off.upd rfl ?_ | refine Off.updO rfl ?_)) (by repeat (first | exact Wk.refl _ | apply Wk.keep1 | apply Wk.drop | apply Wk.sv | apply Wk.svD | apply Wk.appD)) (by omega) (by omega)
      · have hhe : p = g.d.n.toNat := by omega
        subst hhe
        repeat' (first | (refine Znh ?_) | (refine GiW ?_; first | (refine Zsq fun K hK => ?_) | (refine ZrN 6 fun _ => ?_; refine Zv Zxlss ?_) | (refine ZrN 14 fun _ => ?_; refine Zv Zmi ?_; refine Zv Zmi ?_; refine Zv Zai ?_; refine Zv Zai ?_; refine Zst ?_) | (refine Zcd (fun hc => ?_) (fun hc => ?_) <;> (try (exfalso; omega))) | (with_reducible apply WP_exit) | (with_reducible apply WP_ret)) | (refine Zhn ?_) | (refine Zhx ?_) | (with_reducible apply QBlock_hit) | (with_reducible apply QLoop_exit))
        all_goals (refine QLeave_ret ?_; refine Lv_stop0 N w0 stopsHas ?_; refine Lv_nil rfl (.tmp (rfl : _ = Value.int _ _) (.tmp (rfl : _ = Value.int _ _) (.cell1 rfl (by repeat (first | exact Mem.here | assumption | apply Mem.there | apply Mem.sv | apply Mem.app)) rfl .nil))) rfl ?_; exact ⟨rfl, (by repeat (first | exact Wk.refl _ | apply Wk.keep1 | apply Wk.drop | apply Wk.sv | apply Wk.svD | apply Wk.appD))⟩)
  · have hno : vB g.d = false ∨ inB h 0 g.d.m = false := by
      cases h1 : vB g.d <;> cases h2 : inB h 0 g.d.m <;> simp_all
    obtain ⟨hne, hee⟩ := errT_no (d := g.d) hno
    have hz : SureV g.d h = 0 := by unfold SureV; rw [if_neg hne]
    have hy : PerhV g.d h = 0 := by unfold PerhV; rw [if_neg hne]
    have hop' := fun b3 L hS => open_no (hop b3 L hS) hno
    unfold errD at hop'
    rw [← hee] at hop'
    rw [hz, hy]
    unfold bkV bkL at hop' ⊢
    repeat' (first | (refine Znh ?_) | (refine GiW ?_; first | (refine Zsq fun K hK => ?_) | (refine ZrN 0 fun _ => ?_; refine Zal 2 fun b2 => ?_; refine Zal 3 fun b3 => ?_; refine Zv Zai ?_; refine Zv Zai ?_; refine Zal 6 fun b6 => ?_) | (refine ZrN 1 fun _ => ?_; refine Zv Val_makeFunc ?_; refine OPS_defer rfl ?_) | (refine ZrN 2 fun _ => ?_; refine Zv Zla ?_; refine Zv Val_makeFunc ?_; refine OPS_pan (Enters_fn rfl) (hop' b3 _ (by repeat (first | exact Sub.refl _ | assumption | exact Sub.left | apply Sub.cons | apply Sub.sv | apply Sub.app))) rfl rfl ?_)) | (refine Zhp ?_))
    all_goals ((try refine HThen.panic (by assumption) ?_); refine QLeave_panic ?_; refine Lv_stop1 N w0 stopsHas (by repeat (first | exact Up.here | apply Up.there | apply Up.sv)) ?_; refine Lv_nil rfl (.tmp (rfl : _ = Value.int _ _) (.tmp (rfl : _ = Value.int _ _) (.cell1 rfl (by repeat (first | exact Mem.here | assumption | apply Mem.there | apply Mem.sv | apply Mem.app)) rfl .nil))) rfl ?_; exact ⟨rfl, (by repeat (first | exact Wk.refl _ | apply Wk.keep1 | apply Wk.drop | apply Wk.sv | apply Wk.svD | apply Wk.appD))⟩)
set_option maxHeartbeats 4000000 in
theorem Wide_ret (L : Hp) (g : Fg) (hA : BkAt N w0 g) (h : Int) : Ret Try.prog N w0 L 19 [bkV g, .int .i64 h].toArray (.tuple [.agg [.int .i64 (WideV g.d h).1, .int .i64 (WideV g.d h).2].toArray, .int .i64 (errT g.d (inB h 0 g.d.m))].toArray) := by
  have hop : ∀ (b3 : Nat) (L : Hp), Sub [(b3, Blk 3 [.int .i64 h])] L → OpenR N w0 g (inB h 0 g.d.m) 65 [.pointer (some ⟨b3, 0, none⟩)] L := fun b3 L hS => open_tri N w0 L g hA _ 65 _ _ hS (fun L' h2 hv => Wide2_ret N w0 L' g h b3 hv (h2.mem .here))
  refine Ret.fgt ?_
  refine tri_of_WPL Try.func19 rfl (n := _) rfl (by simp) ?_
  by_cases hok : vB g.d = true ∧ inB h 0 g.d.m = true
  · obtain ⟨hvb, hdo⟩ := hok
    have hv := VB_of hvb
    have hop' := fun b3 L hS => open_ok (hop b3 L hS) hvb hdo
    have hn10 := hv.n
    have hm4 := hv.m
    by_cases h0 : (trL g.d).length = 0
    · have he := errT_10 hvb hdo h0
      have htn := fun L => told_no N w0 L g hv hA h0
      have hz : WideV g.d h = (0, 0) := by unfold WideV; rw [he]; rfl
      rw [he, hz]
      unfold bkV bkL at hop' htn ⊢
      repeat' (first | (refine Znh ?_) | (refine GiW ?_; first | (refine Zsq fun K hK => ?_) | (refine ZrN 0 fun _ => ?_; refine Zal 2 fun b2 => ?_; refine Zal 3 fun b3 => ?_; refine Zal 4 fun b4 => ?_; refine Zal 5 fun b5 => ?_) | (refine ZrN 1 fun _ => ?_; refine Zv Val_makeFunc ?_; refine OPS_defer rfl ?_) | (refine ZrN 2 fun _ => ?_; refine Zv Zla ?_; refine Zv Val_makeFunc ?_; refine Zcl (Enters_fn rfl) (hop' b3 _ (by repeat (first | exact Sub.refl _ | assumption | exact Sub.left | apply Sub.cons | apply Sub.sv | apply Sub.app))) ?_; refine OPS_pan (Enters_fn rfl) (htn _) rfl rfl ?_)) | (refine Zhp ?_))
      all_goals ((try refine HThen.panic (by assumption) ?_); refine QLeave_panic ?_; refine Lv_stop1 N w0 stopsWide (by repeat (first | exact Up.here | apply Up.there | apply Up.sv)) ?_; refine Lv_nil rfl (.cellN rfl (by repeat (first | exact Mem.here | assumption | apply Mem.there | apply Mem.sv | apply Mem.app)) (.here (.cons (.cons .nil))) (.cell1 rfl (by repeat (first | exact Mem.here | assumption | apply Mem.there | apply Mem.sv | apply Mem.app)) rfl .nil)) rfl ?_; exact ⟨rfl, (by repeat (first | exact Wk.refl _ | apply Wk.keep1 | apply Wk.drop | apply Wk.sv | apply Wk.svD | apply Wk.appD))⟩)
    · have hpos := Nat.pos_of_ne_zero h0
      have he := errT_0 hvb hdo hpos
      have hz : WideV g.d h = wideS g.d h := by unfold WideV; rw [he]; rfl
      have hto := fun L => told_ok N w0 L g hv hA hpos
      have hnm := hv.nm
      have hml : (marksA g.d).length = g.d.ms.length + 1 := by simp [marksA]
      have hev := fun L => every_ret N w0 L g hnm
      have hmk := fun L => marks_tri N w0 L g hv hA
      have htl := fun L A' c' hr => tally_ret N w0 L g hv hA h A' c' (marksA g.d) (by rw [hml]; omega) hr
      have htt := tally_truths hv [] h
      have hfn : (trL g.d).filter (okX g.d []) = trL g.d := List.filter_eq_self.2 fun x _ => okX_nil g.d x
      rw [List.append_nil, hfn] at htt
      rw [hml, htt] at htl
      rw [he, hz]
      unfold wideS
      obtain ⟨t, ht⟩ : ∃ t, tl ((trL g.d).map (cntX g.d h)) = t := ⟨_, rfl⟩
      rw [ht] at htl ⊢
      obtain ⟨t1, t2, t3⟩ := t
      unfold tlV at htl
      unfold bkV bkL at hop' hto hev hmk htl ⊢
      repeat' (first | (refine Znh ?_) | (refine GiW ?_; first | (refine Zsq fun K hK => ?_) | (refine ZrN 0 fun _ => ?_; refine Zal 2 fun b2 => ?_; refine Zal 3 fun b3 => ?_; refine Zal 4 fun b4 => ?_; refine Zal 5 fun b5 => ?_) | (refine ZrN 1 fun _ => ?_; refine Zv Val_makeFunc ?_; refine OPS_defer rfl ?_) | (refine ZrN 2 fun _ => ?_; refine Zv Zla ?_; refine Zv Val_makeFunc ?_; refine Zcl (Enters_fn rfl) (hop' b3 _ (by repeat (first | exact Sub.refl _ | assumption | exact Sub.left | apply Sub.cons | apply Sub.sv | apply Sub.app))) ?_; refine Zcl (Enters_fn rfl) (hto _) ?_; refine Zal 6 fun b6 => ?_; refine Zst ?_)))
      repeat' (first | (refine GiP ?_; first | (with_reducible refine Znl ?_) | (refine Zatd 17 ?_; refine OPS_retKS (Enters_fn rfl) (hmk _) rfl rfl rfl (fun v9 L9 h9 => ?_); obtain ⟨s9, rfl, hs9, rfl⟩ := h9; obtain ⟨A11, c11, h11, hrd11⟩ := RdRows.sv (E := 125) (by omega) hs9; rw [h11]) | (refine Zatd 18 ?_; refine Zcl (Enters_fn rfl) (htl _ A11 c11 (hrd11 _ _ _ _ Wk.sv0 rfl (map_len (f := askL) (fun _ => rfl) _))) ?_) | (refine Zatd 19 ?_; refine Zv Zxfi ?_) | (refine Zatn ?_; refine Zst ?_)) | (refine GiW ?_; first | (with_reducible apply WP_ret) | (refine WP_drawnS (id := 3) [0, 1] [0, 1, 2, 3, 4] [] [12, 13] (k := 1) (k2 := 4) (by repeat (first | apply Sub.sv | apply Sub.keep | apply Sub.appK | exact Sub.refl _)) (by kernel_rfl) prog_mixed (by kernel_rfl) (by kernel_rfl) rfl ?_; refine Zew rfl Zla ?_; refine Zew rfl Zld ?_; refine Zew rfl Zla ?_; refine Zew rfl Zla ?_; refine Zec rfl (Enters_fn rfl) (fun X => hev _) ?_)) | (with_reducible apply EWalk_nil) | (refine GiC ?_; first | (refine ZgC [0, 1, 2, 3, 4] ?_; refine ZC1 _ 5 [0, 1, 2, 3, 4, 5] ?_) | (refine ZgC [0, 1, 2, 3, 4, 5] ?_; refine ZCl _ ?_)) | (refine GiO ?_; first | (refine ZgO [0, 1, 2, 3, 4, 5] ?_; refine ZO1 _ 6 [0, 1, 2, 3, 4, 5, 6] ?_) | (refine ZgO [0, 1, 2, 3, 4, 5, 6] ?_; refine ZO1 _ 7 [0, 1, 2, 3, 4, 5, 6, 7] ?_) | (refine ZgO [0, 1, 2, 3, 4, 5, 6, 7] ?_; refine ZO1 _ 8 [0, 1, 2, 3, 4, 5, 6, 7, 8] ?_) | (refine ZgO [0, 1, 2, 3, 4, 5, 6, 7, 8] ?_; refine ZO1 _ 9 [0, 1, 2, 3, 4, 5, 6, 7, 8, 9] ?_) | (refine ZgO [0, 1, 2, 3, 4, 5, 6, 7, 8, 9] ?_; refine ZOd _ ?_; (try with_reducible apply noP_normal); (try with_reducible exact key.out))) | (refine Zhn ?_) | (refine AWalk_0 ?_) | (with_reducible apply QAny_normal) | (with_reducible apply QC_normal))
      all_goals (refine QLeave_ret ?_; refine Lv_stop0 N w0 stopsWide ?_; refine Lv_nil rfl (.cellN rfl (by repeat (first | exact Mem.here | assumption | apply Mem.there | apply Mem.sv | apply Mem.app)) (.here (.cons (.cons .nil))) (.cell1 rfl (by repeat (first | exact Mem.here | assumption | apply Mem.there | apply Mem.sv | apply Mem.app)) rfl .nil)) rfl ?_; exact ⟨rfl, (by repeat (first | exact Wk.refl _ | apply Wk.keep1 | apply Wk.drop | apply Wk.sv | apply Wk.svD | apply Wk.appD))⟩)
  · have hno : vB g.d = false ∨ inB h 0 g.d.m = false := by
      cases h1 : vB g.d <;> cases h2 : inB h 0 g.d.m <;> simp_all
    obtain ⟨hne, hee⟩ := errT_no (d := g.d) hno
    have hz : WideV g.d h = (0, 0) := by unfold WideV; rw [if_neg hne]
    have hop' := fun b3 L hS => open_no (hop b3 L hS) hno
    unfold errD at hop'
    rw [← hee] at hop'
    rw [hz]
    unfold bkV bkL at hop' ⊢
    repeat' (first | (refine Znh ?_) | (refine GiW ?_; first | (refine Zsq fun K hK => ?_) | (refine ZrN 0 fun _ => ?_; refine Zal 2 fun b2 => ?_; refine Zal 3 fun b3 => ?_; refine Zal 4 fun b4 => ?_; refine Zal 5 fun b5 => ?_) | (refine ZrN 1 fun _ => ?_; refine Zv Val_makeFunc ?_; refine OPS_defer rfl ?_) | (refine ZrN 2 fun _ => ?_; refine Zv Zla ?_; refine Zv Val_makeFunc ?_; refine OPS_pan (Enters_fn rfl) (hop' b3 _ (by repeat (first | exact Sub.refl _ | assumption | exact Sub.left | apply Sub.cons | apply Sub.sv | apply Sub.app))) rfl rfl ?_)) | (refine Zhp ?_))
    all_goals ((try refine HThen.panic (by assumption) ?_); refine QLeave_panic ?_; refine Lv_stop1 N w0 stopsWide (by repeat (first | exact Up.here | apply Up.there | apply Up.sv)) ?_; refine Lv_nil rfl (.cellN rfl (by repeat (first | exact Mem.here | assumption | apply Mem.there | apply Mem.sv | apply Mem.app)) (.here (.cons (.cons .nil))) (.cell1 rfl (by repeat (first | exact Mem.here | assumption | apply Mem.there | apply Mem.sv | apply Mem.app)) rfl .nil)) rfl ?_; exact ⟨rfl, (by repeat (first | exact Wk.refl _ | apply Wk.keep1 | apply Wk.drop | apply Wk.sv | apply Wk.svD | apply Wk.appD))⟩)
set_option maxHeartbeats 4000000 in
theorem Line_ret (L : Hp) (g : Fg) (hA : BkAt N w0 g) (p : Int) : Ret Try.prog N w0 L 21 [bkV g, .int .i64 p].toArray (.tuple [.int .i64 (LineV g.d p), .int .i64 (errT g.d (inB p 1 (g.d.n - 1)))].toArray) := by
  have hop : ∀ (b3 : Nat) (L : Hp), Sub [(b3, Blk 3 [.int .i64 p])] L → OpenR N w0 g (inB p 1 (g.d.n - 1)) 70 [.pointer (some ⟨b3, 0, none⟩)] L := fun b3 L hS => open_tri N w0 L g hA _ 70 _ _ hS (fun L' h2 hv => Line2_ret N w0 L' g p b3 hv (h2.mem .here))
  refine Ret.fgt ?_
  refine tri_of_WPL Try.func21 rfl (n := _) rfl (by simp) ?_
  by_cases hok : vB g.d = true ∧ inB p 1 (g.d.n - 1) = true
  · obtain ⟨hvb, hdo⟩ := hok
    have hv := VB_of hvb
    have hop' := fun b3 L hS => open_ok (hop b3 L hS) hvb hdo
    have hn10 := hv.n
    have hm4 := hv.m
    by_cases h0 : (trL g.d).length = 0
    · have he := errT_10 hvb hdo h0
      have htn := fun L => told_no N w0 L g hv hA h0
      have hz : LineV g.d p = 0 := by unfold LineV; rw [he]; rfl
      rw [he, hz]
      unfold bkV bkL at hop' htn ⊢
      repeat' (first | (refine Znh ?_) | (refine GiW ?_; first | (refine Zsq fun K hK => ?_) | (refine ZrN 0 fun _ => ?_; refine Zal 2 fun b2 => ?_; refine Zal 3 fun b3 => ?_; refine Zv Zai ?_; refine Zal 5 fun b5 => ?_) | (refine ZrN 1 fun _ => ?_; refine Zv Val_makeFunc ?_; refine OPS_defer rfl ?_) | (refine ZrN 2 fun _ => ?_; refine Zv Zla ?_; refine Zv Val_makeFunc ?_; refine Zcl (Enters_fn rfl) (hop' b3 _ (by repeat (first | exact Sub.refl _ | assumption | exact Sub.left | apply Sub.cons | apply Sub.sv | apply Sub.app))) ?_; refine OPS_pan (Enters_fn rfl) (htn _) rfl rfl ?_)) | (refine Zhp ?_))
      all_goals ((try refine HThen.panic (by assumption) ?_); refine QLeave_panic ?_; refine Lv_stop1 N w0 stopsLine (by repeat (first | exact Up.here | apply Up.there | apply Up.sv)) ?_; refine Lv_nil rfl (.tmp (rfl : _ = Value.int _ _) (.cell1 rfl (by repeat (first | exact Mem.here | assumption | apply Mem.there | apply Mem.sv | apply Mem.app)) rfl .nil)) rfl ?_; exact ⟨rfl, (by repeat (first | exact Wk.refl _ | apply Wk.keep1 | apply Wk.drop | apply Wk.sv | apply Wk.svD | apply Wk.appD))⟩)
    · have hpos := Nat.pos_of_ne_zero h0
      have he := errT_0 hvb hdo hpos
      have hz : LineV g.d p = lineS g.d p := by unfold LineV; rw [he]; rfl
      have hto := fun L => told_ok N w0 L g hv hA hpos
      have hwf := fun L b hm => ways_one N w0 L g hv hA (.line p false) b hm
      have hwt := fun L b hm => ways_one N w0 L g hv hA (.line p true) b hm
      unfold askV at hwf hwt
      rw [he, hz]
      unfold lineS
      obtain ⟨zf, hzf⟩ : ∃ z, waysN g.d [.line p false] = z := ⟨_, rfl⟩
      obtain ⟨zt, hzt⟩ : ∃ z, waysN g.d [.line p true] = z := ⟨_, rfl⟩
      rw [hzf] at hwf ⊢
      rw [hzt] at hwt ⊢
      unfold bkV bkL at hop' hto hwf hwt ⊢
      repeat' (first | (refine Znh ?_) | (refine GiW ?_; first | (refine Zsq fun K hK => ?_) | (refine ZrN 0 fun _ => ?_; refine Zal 2 fun b2 => ?_; refine Zal 3 fun b3 => ?_; refine Zv Zai ?_; refine Zal 5 fun b5 => ?_) | (refine ZrN 1 fun _ => ?_; refine Zv Val_makeFunc ?_; refine OPS_defer rfl ?_) | (refine ZrN 2 fun _ => ?_; refine Zv Zla ?_; refine Zv Val_makeFunc ?_; refine Zcl (Enters_fn rfl) (hop' b3 _ (by repeat (first | exact Sub.refl _ | assumption | exact Sub.left | apply Sub.cons | apply Sub.sv | apply Sub.app))) ?_; refine Zcl (Enters_fn rfl) (hto _) ?_; refine Zal 6 fun b6 => ?_; refine Zst ?_) | (with_reducible apply WP_block)))
      by_cases hf0 : zf = 0
      · repeat' (first | (refine Znh ?_) | (refine GiW ?_; first | (refine Zsq fun K hK => ?_) | (refine ZrN 3 fun _ => ?_; refine Zv Zla ?_; refine Zv Zld ?_; refine Zv Zxbu ?_; refine Zv Zxmi ?_; refine Zal 17 fun b17 => ?_; refine Zcl (Enters_fn rfl) (hwf _ b17 (by repeat (first | exact Mem.here | assumption | apply Mem.there | apply Mem.sv | apply Mem.app))) ?_; refine Zv Zxeql ?_; refine Zv Zab ?_) | (refine ZrN 4 fun _ => ?_; refine Zv Zai ?_; refine Zst ?_) | (refine Zcd (fun hc => ?_) (fun hc => ?_) <;> (try (exfalso; omega))) | (with_reducible apply WP_ret)) | (refine Zhr ?_) | (with_reducible apply QBlock_ret))
        all_goals (refine QLeave_ret ?_; refine Lv_stop0 N w0 stopsLine ?_; refine Lv_nil rfl (.tmp (rfl : _ = Value.int _ _) (.cell1 rfl (by repeat (first | exact Mem.here | assumption | apply Mem.there | apply Mem.sv | apply Mem.app)) rfl .nil)) rfl ?_; exact ⟨by rw [if_pos hf0]; rfl, (by repeat (first | exact Wk.refl _ | apply Wk.keep1 | apply Wk.drop | apply Wk.sv | apply Wk.svD | apply Wk.appD))⟩)
      · by_cases ht0 : zt = 0
        · repeat' (first | (refine Znh ?_) | (refine GiW ?_; first | (refine Zsq fun K hK => ?_) | (refine ZrN 3 fun _ => ?_; refine Zv Zla ?_; refine Zv Zld ?_; refine Zv Zxbu ?_; refine Zv Zxmi ?_; refine Zal 17 fun b17 => ?_; (first | (refine Zcl (Enters_fn rfl) (hwf _ b17 (by repeat (first | exact Mem.here | assumption | apply Mem.there | apply Mem.sv | apply Mem.app))) ?_) | (refine Zcl (Enters_fn rfl) (hwt _ b25 (by repeat (first | exact Mem.here | assumption | apply Mem.there | apply Mem.sv | apply Mem.app))) ?_)); refine Zv Zxeql ?_; refine Zv Zab ?_) | (refine ZrN 5 fun _ => ?_; refine Zv Zla ?_; refine Zv Zld ?_; refine Zv Zxbu ?_; refine Zv Zxmi ?_; refine Zal 25 fun b25 => ?_; (first | (refine Zcl (Enters_fn rfl) (hwf _ b17 (by repeat (first | exact Mem.here | assumption | apply Mem.there | apply Mem.sv | apply Mem.app))) ?_) | (refine Zcl (Enters_fn rfl) (hwt _ b25 (by repeat (first | exact Mem.here | assumption | apply Mem.there | apply Mem.sv | apply Mem.app))) ?_)); refine Zv Zxeql ?_; refine Zv Zab ?_) | (refine ZrN 6 fun _ => ?_; refine Zv Zai ?_; refine Zst ?_) | (refine Zcd (fun hc => ?_) (fun hc => ?_) <;> (try (exfalso; omega))) | (with_reducible apply WP_ret)) | (refine Zhr ?_) | (with_reducible apply QBlock_ret))
          all_goals (refine QLeave_ret ?_; refine Lv_stop0 N w0 stopsLine ?_; refine Lv_nil rfl (.tmp (rfl : _ = Value.int _ _) (.cell1 rfl (by repeat (first | exact Mem.here | assumption | apply Mem.there | apply Mem.sv | apply Mem.app)) rfl .nil)) rfl ?_; exact ⟨by rw [if_neg hf0, if_pos ht0]; rfl, (by repeat (first | exact Wk.refl _ | apply Wk.keep1 | apply Wk.drop | apply Wk.sv | apply Wk.svD | apply Wk.appD))⟩)
        · repeat' (first | (refine Znh ?_) | (refine GiW ?_; first | (refine Zsq fun K hK => ?_) | (refine ZrN 3 fun _ => ?_; refine Zv Zla ?_; refine Zv Zld ?_; refine Zv Zxbu ?_; refine Zv Zxmi ?_; refine Zal 17 fun b17 => ?_; (first | (refine Zcl (Enters_fn rfl) (hwf _ b17 (by repeat (first | exact Mem.here | assumption | apply Mem.there | apply Mem.sv | apply Mem.app))) ?_) | (refine Zcl (Enters_fn rfl) (hwt _ b25 (by repeat (first | exact Mem.here | assumption | apply Mem.there | apply Mem.sv | apply Mem.app))) ?_)); refine Zv Zxeql ?_; refine Zv Zab ?_) | (refine ZrN 5 fun _ => ?_; refine Zv Zla ?_; refine Zv Zld ?_; refine Zv Zxbu ?_; refine Zv Zxmi ?_; refine Zal 25 fun b25 => ?_; (first | (refine Zcl (Enters_fn rfl) (hwf _ b17 (by repeat (first | exact Mem.here | assumption | apply Mem.there | apply Mem.sv | apply Mem.app))) ?_) | (refine Zcl (Enters_fn rfl) (hwt _ b25 (by repeat (first | exact Mem.here | assumption | apply Mem.there | apply Mem.sv | apply Mem.app))) ?_)); refine Zv Zxeql ?_; refine Zv Zab ?_) | (refine ZrN 7 fun _ => ?_; refine Zv Zai ?_; refine Zst ?_) | (refine Zcd (fun hc => ?_) (fun hc => ?_) <;> (try (exfalso; omega))) | (with_reducible apply WP_skip) | (with_reducible apply WP_ret)) | (refine Zhn ?_) | (with_reducible apply QBlock_normal))
          all_goals (refine QLeave_ret ?_; refine Lv_stop0 N w0 stopsLine ?_; refine Lv_nil rfl (.tmp (rfl : _ = Value.int _ _) (.cell1 rfl (by repeat (first | exact Mem.here | assumption | apply Mem.there | apply Mem.sv | apply Mem.app)) rfl .nil)) rfl ?_; exact ⟨by rw [if_neg hf0, if_neg ht0]; rfl, (by repeat (first | exact Wk.refl _ | apply Wk.keep1 | apply Wk.drop | apply Wk.sv | apply Wk.svD | apply Wk.appD))⟩)
  · have hno : vB g.d = false ∨ inB p 1 (g.d.n - 1) = false := by
      cases h1 : vB g.d <;> cases h2 : inB p 1 (g.d.n - 1) <;> simp_all
    obtain ⟨hne, hee⟩ := errT_no (d := g.d) hno
    have hz : LineV g.d p = 0 := by unfold LineV; rw [if_neg hne]
    have hop' := fun b3 L hS => open_no (hop b3 L hS) hno
    unfold errD at hop'
    rw [← hee] at hop'
    rw [hz]
    unfold bkV bkL at hop' ⊢
    repeat' (first | (refine Znh ?_) | (refine GiW ?_; first | (refine Zsq fun K hK => ?_) | (refine ZrN 0 fun _ => ?_; refine Zal 2 fun b2 => ?_; refine Zal 3 fun b3 => ?_; refine Zv Zai ?_; refine Zal 5 fun b5 => ?_) | (refine ZrN 1 fun _ => ?_; refine Zv Val_makeFunc ?_; refine OPS_defer rfl ?_) | (refine ZrN 2 fun _ => ?_; refine Zv Zla ?_; refine Zv Val_makeFunc ?_; refine OPS_pan (Enters_fn rfl) (hop' b3 _ (by repeat (first | exact Sub.refl _ | assumption | exact Sub.left | apply Sub.cons | apply Sub.sv | apply Sub.app))) rfl rfl ?_)) | (refine Zhp ?_))
    all_goals ((try refine HThen.panic (by assumption) ?_); refine QLeave_panic ?_; refine Lv_stop1 N w0 stopsLine (by repeat (first | exact Up.here | apply Up.there | apply Up.sv)) ?_; refine Lv_nil rfl (.tmp (rfl : _ = Value.int _ _) (.cell1 rfl (by repeat (first | exact Mem.here | assumption | apply Mem.there | apply Mem.sv | apply Mem.app)) rfl .nil)) rfl ?_; exact ⟨rfl, (by repeat (first | exact Wk.refl _ | apply Wk.keep1 | apply Wk.drop | apply Wk.sv | apply Wk.svD | apply Wk.appD))⟩)
end
end Go.Proofs.Ytakmopiceopcpaa
end
