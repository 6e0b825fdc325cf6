/- Package sod: what is measured of all costs with which there is a truth. -/
import Derived.Test.YtkaadefndcbdnaaA8
namespace Go.Proofs.Ytkaadefndcbdnaa
open Go.RowKit
/-- Those of the first k costs with which there is a truth. -/
def tkC (s : Sd) (k : Nat) : List (List Int) := ((rowsC s).take k).filter (canS s)
theorem tkC_all (s : Sd) : tkC s (rowsC s).length = toldC s := by unfold tkC toldC; rw [List.take_length]
theorem tkC_yes {s : Sd} {k : Nat} (hk : k < (rowsC s).length) (h : canS s (rowsC s)[k] = true) : tkC s (k + 1) = tkC s k ++ [(rowsC s)[k]] := by
  unfold tkC
  rw [List.take_succ_eq_append_getElem hk, List.filter_append, List.filter_cons, if_pos h]; rfl
theorem tkC_no {s : Sd} {k : Nat} (hk : k < (rowsC s).length) (h : canS s (rowsC s)[k] = false) : tkC s (k + 1) = tkC s k := by
  unfold tkC
  rw [List.take_succ_eq_append_getElem hk, List.filter_append, List.filter_cons, if_neg (by rw [h]; simp)]; simp
theorem vals_len3 {s : Sp} (h : s.2 - s.1 ≤ 2) : (vals s).length ≤ 3 := by rw [vals_length]; omega
theorem allR_count : ∀ (l : List Sp), (∀ s ∈ l, s.2 - s.1 ≤ 2) → (allR l).length ≤ 3 ^ l.length
  | [], _ => by simp [allR]
  | s :: l, h => by
    have ih := allR_count l (fun x hx => h x (.tail _ hx))
    have h1 := vals_len3 (h s (.head _))
    have h2 : (allR (s :: l)).length = (vals s).length * (allR l).length := by simp [allR, List.length_flatMap, List.map_const']
    rw [h2, List.length_cons, Nat.pow_succ, Nat.mul_comm]
    exact Nat.mul_le_mul ih h1
theorem rowsC_count {s : Sd} (v : VS s) : (rowsC s).length ≤ 27 := by
  have h1 := allR_count (s.spits.map costR) (fun x hx => by
    obtain ⟨p, hp, rfl⟩ := List.mem_map.1 hx
    have := v.sp p hp
    unfold costR; dsimp only; omega)
  have h2 : 3 ^ (s.spits.map costR).length ≤ 3 ^ 3 := Nat.pow_le_pow_right (by omega) (by rw [List.length_map]; exact v.np.2)
  unfold rowsC
  rw [List.length_map]
  omega
theorem toldC_count {s : Sd} (v : VS s) : (toldC s).length ≤ 27 := Nat.le_trans (List.length_filter_le _ _) (rowsC_count v)
theorem tkC_le (s : Sd) (k : Nat) : (tkC s k).length ≤ (rowsC s).length := Nat.le_trans (List.length_filter_le _ _) (by rw [List.length_take]; omega)
theorem logL_cell {s : Sd} (v : VS s) (c : List Int) : (logL s c)[0 + 12]? = some (.bool (canS s c)) := by
  have hl := logL_len v c
  unfold logL cellsD at hl ⊢
  rw [List.length_append] at hl
  have : (List.flatMap spL (pad6 (daysS s c))).length = 12 := by simpa using hl
  rw [List.getElem?_append_right (by omega), this]; rfl
def bbL (x : Bool × Bool) : List Value := [.bool x.1, .bool x.2]
attribute [local irreducible] AnyO AnyB QAny QB EWalk AWalk Ev WP OPS QThen QBlock QScope QLoop QBody Val New Turn Tri Enters PostA Blk Ro
attribute [local irreducible] AnyC QC
section
variable (N : Nat) (w0 : World)
set_option maxHeartbeats 4000000 in
theorem allS_tri (L : Hp) (g : Fg) (hS : Sub (Fk g) L) (hv : VS g.s) (hA : SodAt N w0 g) (q : FuncId) [HasBody Try.prog q] (cc : List Value) (mq : List Int → Sp) (nd : Hp) (hN : Sub nd L)
    (hq : ∀ x y z : Int, [x, y, z] ∈ toldC g.s → ∀ L', Sub nd L' → Ret Try.prog N w0 L' q (.agg [.int .i64 x, .int .i64 y, .int .i64 z].toArray :: .agg (logL g.s [x, y, z]).toArray :: cc).toArray (.agg (spL (mq [x, y, z])).toArray)) :
    Tri Try.prog N w0 L 56 [.pointer (some ⟨g.b, 0, none⟩), .agg [.func (.func q) #[] cc.toArray].toArray].toArray fun x L' => ∃ v, x = .returned v ∧ ∃ s, v = svV s (toldC g.s).length ∧ svOk s 2 (toldC g.s).length (((toldC g.s).map mq).flatMap spL) ∧ L' = svH 28 2 (toldC g.s).length (((toldC g.s).map mq).flatMap spL) s L := by
  have hcnt := rowsC_count hv
  refine Tri.fgt ?_
  refine tri_of_WPL Try.func56 rfl (n := _) rfl (by simp) ?_
  repeat' (first | (refine Znh ?_) | (refine GiW ?_; first | (refine Zsq fun K hK => ?_) | (refine ZrN 0 fun _ => ?_; refine Zal 2 fun b2 => ?_; refine Zal 3 fun b3 => ?_; refine Zal 4 fun b4 => ?_) | (refine ZrN 1 fun _ => ?_; refine Zv Zld ?_; refine OPS_retKS (Enters_fn rfl) (costs_tri N w0 _ g) rfl rfl rfl (fun v8 L8 h8 => ?_); obtain ⟨pr, rfl, rfl⟩ := h8) | (with_reducible apply WP_block)))
  refine WP_rangeFunc (cc := [.pointer (some ⟨pr, 0, none⟩)]) (xs := argC (rowsC g.s)) (nd := NdR pr g) rfl (by rw [← seg_rows]; exact costs_iter N w0 g hv hA pr)
    (fun k F => ∃ s, F = svH 28 2 (tkC g.s k).length (((tkC g.s k).map mq).flatMap spL) s ((pr, Blk 73 [.pointer (some ⟨g.b, 0, none⟩)]) :: (b4, Blk 23 [svV s (tkC g.s k).length]) :: (b3, Blk 94 [.func (.func q) #[] cc.toArray]) :: (b2, Blk 73 [.pointer (some ⟨g.b, 0, none⟩)]) :: L) ∧ svOk s 2 (tkC g.s k).length (((tkC g.s k).map mq).flatMap spL))
    (fun _ _ => False)
    ((pr, Blk 73 [.pointer (some ⟨g.b, 0, none⟩)]) :: (b4, Blk 23 [svV none 0]) :: (b3, Blk 94 [.func (.func q) #[] cc.toArray]) :: (b2, Blk 73 [.pointer (some ⟨g.b, 0, none⟩)]) :: L) [] (by rw [List.append_nil]; exact Wk.refl _) ⟨none, rfl, svOk_nil 2⟩ ?_ (by simp [argC]) rfl ?_ ?_ ?_
  · rintro k _ ⟨s, rfl, -⟩
    refine Sub.sv ?_
    obtain ⟨L0, hp⟩ := hS
    exact ⟨(b4, Blk 23 [svV s (tkC g.s k).length]) :: (b3, Blk 94 [.func (.func q) #[] cc.toArray]) :: (b2, Blk 73 [.pointer (some ⟨g.b, 0, none⟩)]) :: (g.m, MapOf lks (keptF g.s)) :: L0, .cons _ ((((hp.cons _).cons _).cons _).trans (List.perm_middle (l₁ := [_, _, _])))⟩
  · rintro l X0 k hk _ ⟨s, rfl, hs⟩
    have hk' : k < (rowsC g.s).length := by simpa [argC] using hk
    have hx : (argC (rowsC g.s))[k] = [.agg (ints (rowsC g.s)[k]).toArray] := by simp [argC]
    rw [hx]
    have hmem := List.getElem_mem hk'
    obtain ⟨x, y, z, hrow, -⟩ := rowsC_three hv hmem
    have hle := tkC_le g.s k
    rw [hrow] at hmem ⊢
    repeat' (first | (with_reducible refine Znl ?_) | (refine ZrN 2 fun _ => ?_; refine Zal 5 fun b5 => ?_; refine Zst ?_))
    refine ⟨rfl, (b5, Blk 86 (ints [x, y, z])) :: svH 28 2 (tkC g.s k).length (((tkC g.s k).map mq).flatMap spL) s ((pr, Blk 73 [.pointer (some ⟨g.b, 0, none⟩)]) :: (b4, Blk 23 [svV s (tkC g.s k).length]) :: (b3, Blk 94 [.func (.func q) #[] cc.toArray]) :: (b2, Blk 73 [.pointer (some ⟨g.b, 0, none⟩)]) :: L), rfl, fun X1 => ?_⟩
    have hfk : Sub (Fk g) (L ++ X1) := .appR X1 hS
    have hndX : Sub nd (L ++ X1) := hN.appR X1
    have happ : ∀ (S : Hp), svH 28 2 (tkC g.s k).length (((tkC g.s k).map mq).flatMap spL) s S ++ X1 = svH 28 2 (tkC g.s k).length (((tkC g.s k).map mq).flatMap spL) s (S ++ X1) := by intro S; cases s <;> rfl
    rw [List.cons_append, happ]
    simp only [List.cons_append]
    obtain ⟨lv, hlv⟩ : ∃ lv, logL g.s [x, y, z] = lv := ⟨_, rfl⟩
    have hcf := logL_field hv [x, y, z]
    have hlen := logL_len hv [x, y, z]
    have hones : ones (logL g.s [x, y, z]) = true := cellsD_ones _ _
    have hlog := fun L h => log_sub N w0 L g h hv hA x y z hmem
    have hcell : (logL g.s [x, y, z])[0 + 12]? = some (.bool (canS g.s [x, y, z])) := logL_cell hv _
    by_cases hcan : canS g.s [x, y, z] = true
    · have hmt : [x, y, z] ∈ toldC g.s := List.mem_filter.2 ⟨hmem, hcan⟩
      have hq' := hq x y z hmt
      unfold spL at hq'
      rw [hlv] at hlen hones hlog hq' hcell
      rw [hcan] at hcell
      have hcut : Cut lv 0 13 lv := Cut.whole hlen
      have hnext : tkC g.s (k + 1) = tkC g.s k ++ [[x, y, z]] := by rw [← hrow]; exact tkC_yes hk' (by rw [hrow]; exact hcan)
      have hfl : ((tkC g.s (k + 1)).map mq).flatMap spL = ((tkC g.s k).map mq).flatMap spL ++ [[Value.int .i64 (mq [x, y, z]).1, .int .i64 (mq [x, y, z]).2]].flatten := by rw [hnext, List.map_append, List.flatMap_append]; rfl
      have hln : (tkC g.s (k + 1)).length = (tkC g.s k).length + 1 := by rw [hnext, List.length_append]; rfl
      repeat' (first | (refine GiP ?_; first | (refine Znh ?_) | (with_reducible refine Znl ?_) | (refine Zatd 22 ?_; refine OPS_append rfl rfl rfl (by repeat (first | exact Wk.refl _ | apply Wk.keep1 | apply Wk.drop | apply Wk.sv | apply Wk.svD | apply Wk.appD)) (by assumption) (blk_cells (by repeat (first | exact Mem.here | assumption | apply Mem.there | apply Mem.sv | apply Mem.app))) rfl rfl (by simp only [maxLen]; omega) (by omega) rfl rfl (fun s22 hs22 => ?_)) | (refine Zatn ?_; refine Zst ?_)) | (refine GiW ?_; first | (refine Zsq fun K hK => ?_) | (refine ZrN 3 fun _ => ?_; (first | (refine Zv (Val_loadN rfl (by repeat (first | exact Mem.here | assumption | apply Mem.there | apply Mem.sv | apply Mem.app)) hcut) ?_) | (refine Zv (Val_load1 rfl (by repeat (first | exact Mem.here | assumption | apply Mem.there | apply Mem.sv | apply Mem.app)) hcell) ?_) | (refine Zv Zld ?_)); (first | (refine Zv (Val_loadN rfl (by repeat (first | exact Mem.here | assumption | apply Mem.there | apply Mem.sv | apply Mem.app)) hcut) ?_) | (refine Zv (Val_load1 rfl (by repeat (first | exact Mem.here | assumption | apply Mem.there | apply Mem.sv | apply Mem.app)) hcell) ?_) | (refine Zv Zla ?_)); refine Zcl (Enters_fn rfl) (hlog _ (by repeat (first | exact Sub.refl _ | assumption | exact Sub.left | apply Sub.cons | apply Sub.sv | apply Sub.app))) ?_; refine Zal 6 fun b6 => ?_; (first | (refine Zst ?_) | (refine OPS_turnN (Turn_storeG rfl rfl (by repeat (first | exact Up.here | apply Up.there | apply Up.sv)) rfl (by simp [hlen]) (setL_whole (by rw [hlen]; rfl)) hlen hones) rfl rfl ?_))) | (refine ZrN 4 fun _ => ?_; refine Zv Zfa ?_; (first | (refine Zv (Val_loadN rfl (by repeat (first | exact Mem.here | assumption | apply Mem.there | apply Mem.sv | apply Mem.app)) hcut) ?_) | (refine Zv (Val_load1 rfl (by repeat (first | exact Mem.here | assumption | apply Mem.there | apply Mem.sv | apply Mem.app)) hcell) ?_) | (refine Zv Zld ?_))) | (refine WP_cond_true rfl ?_) | (with_reducible apply WP_block) | (refine WP_drawn (id := 5) [0, 1, 2, 3, 4, 5] [6] (k := 2) prog_mixed (by kernel_rfl) rfl ?_; (first | (refine Zew rfl (Val_loadN rfl (by repeat (first | exact Mem.here | assumption | apply Mem.there | apply Mem.sv | apply Mem.app)) hcut) ?_) | (refine Zew rfl (Val_load1 rfl (by repeat (first | exact Mem.here | assumption | apply Mem.there | apply Mem.sv | apply Mem.app)) hcell) ?_) | (refine Zew rfl Zld ?_)); refine Zew rfl Zf0 ?_; (first | (refine Zew rfl (Val_loadN rfl (by repeat (first | exact Mem.here | assumption | apply Mem.there | apply Mem.sv | apply Mem.app)) hcut) ?_) | (refine Zew rfl (Val_load1 rfl (by repeat (first | exact Mem.here | assumption | apply Mem.there | apply Mem.sv | apply Mem.app)) hcell) ?_) | (refine Zew rfl Zld ?_)); (first | (refine Zew rfl (Val_loadN rfl (by repeat (first | exact Mem.here | assumption | apply Mem.there | apply Mem.sv | apply Mem.app)) hcut) ?_) | (refine Zew rfl (Val_load1 rfl (by repeat (first | exact Mem.here | assumption | apply Mem.there | apply Mem.sv | apply Mem.app)) hcell) ?_) | (refine Zew rfl Zla ?_)); (first | (refine Zew rfl (Val_loadN rfl (by repeat (first | exact Mem.here | assumption | apply Mem.there | apply Mem.sv | apply Mem.app)) hcut) ?_) | (refine Zew rfl (Val_load1 rfl (by repeat (first | exact Mem.here | assumption | apply Mem.there | apply Mem.sv | apply Mem.app)) hcell) ?_) | (refine Zew rfl Zla ?_)); refine Zec rfl (Enters_val rfl rfl) (fun X => hq' _ (by repeat (first | exact Sub.refl _ | assumption | exact Sub.left | apply Sub.cons | apply Sub.sv | apply Sub.app))) ?_)) | (with_reducible apply EWalk_nil) | (refine GiO ?_; first | (refine AnyO_done (by kernel_rfl) ?_; (try with_reducible apply noP_normal); try with_reducible exact key.out) | (refine AnyO_1 7 (by decide +kernel) rfl ?_) | (refine AnyO_1 8 (by decide +kernel) rfl ?_)) | (with_reducible apply QBlock_normal) | (refine AWalk_1S (d := 21) rfl rfl rfl rfl blk_is (New_buildSliceR rfl rfl (by repeat (first | exact CellsR.nil | (apply CellsR.cA rfl) | (apply CellsR.c1S (by constructor) rfl))) rfl (by decide) rfl (by decide)) (fun b21 => ?_); refine ZisO ?_) | (with_reducible apply QAny_normal))
      refine ⟨svH 28 2 (tkC g.s (k + 1)).length (((tkC g.s (k + 1)).map mq).flatMap spL) s22 ((pr, Blk 73 [.pointer (some ⟨g.b, 0, none⟩)]) :: (b4, Blk 23 [svV s22 (tkC g.s (k + 1)).length]) :: (b3, Blk 94 [.func (.func q) #[] cc.toArray]) :: (b2, Blk 73 [.pointer (some ⟨g.b, 0, none⟩)]) :: L), ?_, s22, rfl, ?_⟩
      · rw [hfl, hln]
        cases s22 <;> exact (by repeat (first | exact Wk.refl _ | apply Wk.keep1 | apply Wk.drop | apply Wk.sv | apply Wk.svD | apply Wk.appD))
      · rw [hfl, hln]; exact hs22
    · have hcan' : canS g.s [x, y, z] = false := by simpa using hcan
      rw [hlv] at hlen hones hlog hcell
      rw [hcan'] at hcell
      have hcut : Cut lv 0 13 lv := Cut.whole hlen
      have hnext : tkC g.s (k + 1) = tkC g.s k := tkC_no hk' (by rw [hrow]; exact hcan')
      repeat' (first | (refine Znh ?_) | (refine GiW ?_; first | (refine Zsq fun K hK => ?_) | (refine ZrN 3 fun _ => ?_; (first | (refine Zv (Val_load1 rfl (by repeat (first | exact Mem.here | assumption | apply Mem.there | apply Mem.sv | apply Mem.app)) hcell) ?_) | (refine Zv Zld ?_)); (first | (refine Zv (Val_load1 rfl (by repeat (first | exact Mem.here | assumption | apply Mem.there | apply Mem.sv | apply Mem.app)) hcell) ?_) | (refine Zv Zla ?_)); refine Zcl (Enters_fn rfl) (hlog _ (by repeat (first | exact Sub.refl _ | assumption | exact Sub.left | apply Sub.cons | apply Sub.sv | apply Sub.app))) ?_; refine Zal 6 fun b6 => ?_; (first | (refine Zst ?_) | (refine OPS_turnN (Turn_storeG rfl rfl (by repeat (first | exact Up.here | apply Up.there | apply Up.sv)) rfl (by simp [hlen]) (setL_whole (by rw [hlen]; rfl)) hlen hones) rfl rfl ?_))) | (refine ZrN 4 fun _ => ?_; refine Zv Zfa ?_; (first | (refine Zv (Val_load1 rfl (by repeat (first | exact Mem.here | assumption | apply Mem.there | apply Mem.sv | apply Mem.app)) hcell) ?_) | (refine Zv Zld ?_))) | (refine WP_cond_false rfl ?_) | (with_reducible apply WP_skip) | (with_reducible apply WP_block)) | (with_reducible apply QBlock_normal))
      refine ⟨svH 28 2 (tkC g.s k).length (((tkC g.s k).map mq).flatMap spL) s ((pr, Blk 73 [.pointer (some ⟨g.b, 0, none⟩)]) :: (b4, Blk 23 [svV s (tkC g.s k).length]) :: (b3, Blk 94 [.func (.func q) #[] cc.toArray]) :: (b2, Blk 73 [.pointer (some ⟨g.b, 0, none⟩)]) :: L), ?_, s, by rw [hnext], by rw [hnext]; exact hs⟩
      cases s <;> exact (by repeat (first | exact Wk.refl _ | apply Wk.keep1 | apply Wk.drop | apply Wk.sv | apply Wk.svD | apply Wk.appD))
  · rintro D _ ⟨s, rfl, hs⟩
    have hal : (argC (rowsC g.s)).length = (rowsC g.s).length := by simp [argC]
    rw [hal, tkC_all] at hs
    rw [List.append_nil, hal, tkC_all]
    repeat' (first | (refine Znh ?_) | (refine GiW ?_; first | (refine Zsq fun K hK => ?_) | (refine ZrN 6 fun _ => ?_; refine Zv Zld ?_; refine Zst ?_) | (with_reducible apply WP_ret)) | (refine Zhn ?_) | (with_reducible apply QBlock_normal))
    refine QLeave_ret ?_; refine Lv_mark (by simp) .here ?_; refine Lv_nil rfl (.cell1 rfl (by repeat (first | exact Mem.here | assumption | apply Mem.there | apply Mem.sv | apply Mem.app)) rfl .nil) rfl ⟨svH 28 2 (toldC g.s).length (((toldC g.s).map mq).flatMap spL) s L, ?_, _, rfl, s, rfl, hs, rfl⟩
    cases s <;> exact (by repeat (first | exact Wk.refl _ | apply Wk.keep1 | apply Wk.drop | apply Wk.sv | apply Wk.svD | apply Wk.appD))
  · rintro D x _ h
    exact h.elim
set_option maxHeartbeats 4000000 in
theorem allB_tri (L : Hp) (g : Fg) (hS : Sub (Fk g) L) (hv : VS g.s) (hA : SodAt N w0 g) (q : FuncId) [HasBody Try.prog q] (cc : List Value) (mq : List Int → Bool × Bool) (nd : Hp) (hN : Sub nd L)
    (hq : ∀ x y z : Int, [x, y, z] ∈ toldC g.s → ∀ L', Sub nd L' → Ret Try.prog N w0 L' q (.agg [.int .i64 x, .int .i64 y, .int .i64 z].toArray :: .agg (logL g.s [x, y, z]).toArray :: cc).toArray (.agg (bbL (mq [x, y, z])).toArray)) :
    Tri Try.prog N w0 L 71 [.pointer (some ⟨g.b, 0, none⟩), .agg [.func (.func q) #[] cc.toArray].toArray].toArray fun x L' => ∃ v, x = .returned v ∧ ∃ s, v = svV s (toldC g.s).length ∧ svOk s 2 (toldC g.s).length (((toldC g.s).map mq).flatMap bbL) ∧ L' = svH 105 2 (toldC g.s).length (((toldC g.s).map mq).flatMap bbL) s L := by
  have hcnt := rowsC_count hv
  refine Tri.fgt ?_
  refine tri_of_WPL Try.func71 rfl (n := _) rfl (by simp) ?_
  repeat' (first | (refine Znh ?_) | (refine GiW ?_; first | (refine Zsq fun K hK => ?_) | (refine ZrN 0 fun _ => ?_; refine Zal 2 fun b2 => ?_; refine Zal 3 fun b3 => ?_; refine Zal 4 fun b4 => ?_) | (refine ZrN 1 fun _ => ?_; refine Zv Zld ?_; refine OPS_retKS (Enters_fn rfl) (costs_tri N w0 _ g) rfl rfl rfl (fun v8 L8 h8 => ?_); obtain ⟨pr, rfl, rfl⟩ := h8) | (with_reducible apply WP_block)))
  refine WP_rangeFunc (cc := [.pointer (some ⟨pr, 0, none⟩)]) (xs := argC (rowsC g.s)) (nd := NdR pr g) rfl (by rw [← seg_rows]; exact costs_iter N w0 g hv hA pr)
    (fun k F => ∃ s, F = svH 105 2 (tkC g.s k).length (((tkC g.s k).map mq).flatMap bbL) s ((pr, Blk 73 [.pointer (some ⟨g.b, 0, none⟩)]) :: (b4, Blk 103 [svV s (tkC g.s k).length]) :: (b3, Blk 108 [.func (.func q) #[] cc.toArray]) :: (b2, Blk 73 [.pointer (some ⟨g.b, 0, none⟩)]) :: L) ∧ svOk s 2 (tkC g.s k).length (((tkC g.s k).map mq).flatMap bbL))
    (fun _ _ => False)
    ((pr, Blk 73 [.pointer (some ⟨g.b, 0, none⟩)]) :: (b4, Blk 103 [svV none 0]) :: (b3, Blk 108 [.func (.func q) #[] cc.toArray]) :: (b2, Blk 73 [.pointer (some ⟨g.b, 0, none⟩)]) :: L) [] (by rw [List.append_nil]; exact Wk.refl _) ⟨none, rfl, svOk_nil 2⟩ ?_ (by simp [argC]) rfl ?_ ?_ ?_
  · rintro k _ ⟨s, rfl, -⟩
    refine Sub.sv ?_
    obtain ⟨L0, hp⟩ := hS
    exact ⟨(b4, Blk 103 [svV s (tkC g.s k).length]) :: (b3, Blk 108 [.func (.func q) #[] cc.toArray]) :: (b2, Blk 73 [.pointer (some ⟨g.b, 0, none⟩)]) :: (g.m, MapOf lks (keptF g.s)) :: L0, .cons _ ((((hp.cons _).cons _).cons _).trans (List.perm_middle (l₁ := [_, _, _])))⟩
  · rintro l X0 k hk _ ⟨s, rfl, hs⟩
    have hk' : k < (rowsC g.s).length := by simpa [argC] using hk
    have hx : (argC (rowsC g.s))[k] = [.agg (ints (rowsC g.s)[k]).toArray] := by simp [argC]
    rw [hx]
    have hmem := List.getElem_mem hk'
    obtain ⟨x, y, z, hrow, -⟩ := rowsC_three hv hmem
    have hle := tkC_le g.s k
    rw [hrow] at hmem ⊢
    repeat' (first | (with_reducible refine Znl ?_) | (refine ZrN 2 fun _ => ?_; refine Zal 5 fun b5 => ?_; refine Zst ?_))
    refine ⟨rfl, (b5, Blk 86 (ints [x, y, z])) :: svH 105 2 (tkC g.s k).length (((tkC g.s k).map mq).flatMap bbL) s ((pr, Blk 73 [.pointer (some ⟨g.b, 0, none⟩)]) :: (b4, Blk 103 [svV s (tkC g.s k).length]) :: (b3, Blk 108 [.func (.func q) #[] cc.toArray]) :: (b2, Blk 73 [.pointer (some ⟨g.b, 0, none⟩)]) :: L), rfl, fun X1 => ?_⟩
    have hfk : Sub (Fk g) (L ++ X1) := .appR X1 hS
    have hndX : Sub nd (L ++ X1) := hN.appR X1
    have happ : ∀ (S : Hp), svH 105 2 (tkC g.s k).length (((tkC g.s k).map mq).flatMap bbL) s S ++ X1 = svH 105 2 (tkC g.s k).length (((tkC g.s k).map mq).flatMap bbL) s (S ++ X1) := by intro S; cases s <;> rfl
    rw [List.cons_append, happ]
    simp only [List.cons_append]
    obtain ⟨lv, hlv⟩ : ∃ lv, logL g.s [x, y, z] = lv := ⟨_, rfl⟩
    have hcf := logL_field hv [x, y, z]
    have hlen := logL_len hv [x, y, z]
    have hones : ones (logL g.s [x, y, z]) = true := cellsD_ones _ _
    have hlog := fun L h => log_sub N w0 L g h hv hA x y z hmem
    have hcell : (logL g.s [x, y, z])[0 + 12]? = some (.bool (canS g.s [x, y, z])) := logL_cell hv _
    by_cases hcan : canS g.s [x, y, z] = true
    · have hmt : [x, y, z] ∈ toldC g.s := List.mem_filter.2 ⟨hmem, hcan⟩
      have hq' := hq x y z hmt
      unfold bbL at hq'
      rw [hlv] at hlen hones hlog hq' hcell
      rw [hcan] at hcell
      have hcut : Cut lv 0 13 lv := Cut.whole hlen
      have hnext : tkC g.s (k + 1) = tkC g.s k ++ [[x, y, z]] := by rw [← hrow]; exact tkC_yes hk' (by rw [hrow]; exact hcan)
      have hfl : ((tkC g.s (k + 1)).map mq).flatMap bbL = ((tkC g.s k).map mq).flatMap bbL ++ [[Value.bool (mq [x, y, z]).1, .bool (mq [x, y, z]).2]].flatten := by rw [hnext, List.map_append, List.flatMap_append]; rfl
      have hln : (tkC g.s (k + 1)).length = (tkC g.s k).length + 1 := by rw [hnext, List.length_append]; rfl
      repeat' (first | (refine GiP ?_; first | (refine Znh ?_) | (with_reducible refine Znl ?_) | (refine Zatd 22 ?_; refine OPS_append rfl rfl rfl (by repeat (first | exact Wk.refl _ | apply Wk.keep1 | apply Wk.drop | apply Wk.sv | apply Wk.svD | apply Wk.appD)) (by assumption) (blk_cells (by repeat (first | exact Mem.here | assumption | apply Mem.there | apply Mem.sv | apply Mem.app))) rfl rfl (by simp only [maxLen]; omega) (by omega) rfl rfl (fun s22 hs22 => ?_)) | (refine Zatn ?_; refine Zst ?_)) | (refine GiW ?_; first | (refine Zsq fun K hK => ?_) | (refine ZrN 3 fun _ => ?_; (first | (refine Zv (Val_loadN rfl (by repeat (first | exact Mem.here | assumption | apply Mem.there | apply Mem.sv | apply Mem.app)) hcut) ?_) | (refine Zv (Val_load1 rfl (by repeat (first | exact Mem.here | assumption | apply Mem.there | apply Mem.sv | apply Mem.app)) hcell) ?_) | (refine Zv Zld ?_)); (first | (refine Zv (Val_loadN rfl (by repeat (first | exact Mem.here | assumption | apply Mem.there | apply Mem.sv | apply Mem.app)) hcut) ?_) | (refine Zv (Val_load1 rfl (by repeat (first | exact Mem.here | assumption | apply Mem.there | apply Mem.sv | apply Mem.app)) hcell) ?_) | (refine Zv Zla ?_)); refine Zcl (Enters_fn rfl) (hlog _ (by repeat (first | exact Sub.refl _ | assumption | exact Sub.left | apply Sub.cons | apply Sub.sv | apply Sub.app))) ?_; refine Zal 6 fun b6 => ?_; (first | (refine Zst ?_) | (refine OPS_turnN (Turn_storeG rfl rfl (by repeat (first | exact Up.here | apply Up.there | apply Up.sv)) rfl (by simp [hlen]) (setL_whole (by rw [hlen]; rfl)) hlen hones) rfl rfl ?_))) | (refine ZrN 4 fun _ => ?_; refine Zv Zfa ?_; (first | (refine Zv (Val_loadN rfl (by repeat (first | exact Mem.here | assumption | apply Mem.there | apply Mem.sv | apply Mem.app)) hcut) ?_) | (refine Zv (Val_load1 rfl (by repeat (first | exact Mem.here | assumption | apply Mem.there | apply Mem.sv | apply Mem.app)) hcell) ?_) | (refine Zv Zld ?_))) | (refine WP_cond_true rfl ?_) | (with_reducible apply WP_block) | (refine WP_drawn (id := 5) [0, 1, 2, 3, 4, 5] [6] (k := 2) prog_mixed (by kernel_rfl) rfl ?_; (first | (refine Zew rfl (Val_loadN rfl (by repeat (first | exact Mem.here | assumption | apply Mem.there | apply Mem.sv | apply Mem.app)) hcut) ?_) | (refine Zew rfl (Val_load1 rfl (by repeat (first | exact Mem.here | assumption | apply Mem.there | apply Mem.sv | apply Mem.app)) hcell) ?_) | (refine Zew rfl Zld ?_)); refine Zew rfl Zf0 ?_; (first | (refine Zew rfl (Val_loadN rfl (by repeat (first | exact Mem.here | assumption | apply Mem.there | apply Mem.sv | apply Mem.app)) hcut) ?_) | (refine Zew rfl (Val_load1 rfl (by repeat (first | exact Mem.here | assumption | apply Mem.there | apply Mem.sv | apply Mem.app)) hcell) ?_) | (refine Zew rfl Zld ?_)); (first | (refine Zew rfl (Val_loadN rfl (by repeat (first | exact Mem.here | assumption | apply Mem.there | apply Mem.sv | apply Mem.app)) hcut) ?_) | (refine Zew rfl (Val_load1 rfl (by repeat (first | exact Mem.here | assumption | apply Mem.there | apply Mem.sv | apply Mem.app)) hcell) ?_) | (refine Zew rfl Zla ?_)); (first | (refine Zew rfl (Val_loadN rfl (by repeat (first | exact Mem.here | assumption | apply Mem.there | apply Mem.sv | apply Mem.app)) hcut) ?_) | (refine Zew rfl (Val_load1 rfl (by repeat (first | exact Mem.here | assumption | apply Mem.there | apply Mem.sv | apply Mem.app)) hcell) ?_) | (refine Zew rfl Zla ?_)); refine Zec rfl (Enters_val rfl rfl) (fun X => hq' _ (by repeat (first | exact Sub.refl _ | assumption | exact Sub.left | apply Sub.cons | apply Sub.sv | apply Sub.app))) ?_)) | (with_reducible apply EWalk_nil) | (refine GiO ?_; first | (refine AnyO_done (by kernel_rfl) ?_; (try with_reducible apply noP_normal); try with_reducible exact key.out) | (refine AnyO_1 7 (by decide +kernel) rfl ?_) | (refine AnyO_1 8 (by decide +kernel) rfl ?_)) | (with_reducible apply QBlock_normal) | (refine AWalk_1S (d := 21) rfl rfl rfl rfl blk_is (New_buildSliceR rfl rfl (by repeat (first | exact CellsR.nil | (apply CellsR.cA rfl) | (apply CellsR.c1S (by constructor) rfl))) rfl (by decide) rfl (by decide)) (fun b21 => ?_); refine ZisO ?_) | (with_reducible apply QAny_normal))
      refine ⟨svH 105 2 (tkC g.s (k + 1)).length (((tkC g.s (k + 1)).map mq).flatMap bbL) s22 ((pr, Blk 73 [.pointer (some ⟨g.b, 0, none⟩)]) :: (b4, Blk 103 [svV s22 (tkC g.s (k + 1)).length]) :: (b3, Blk 108 [.func (.func q) #[] cc.toArray]) :: (b2, Blk 73 [.pointer (some ⟨g.b, 0, none⟩)]) :: L), ?_, s22, rfl, ?_⟩
      · rw [hfl, hln]
        cases s22 <;> exact (by repeat (first | exact Wk.refl _ | apply Wk.keep1 | apply Wk.drop | apply Wk.sv | apply Wk.svD | apply Wk.appD))
      · rw [hfl, hln]; exact hs22
    · have hcan' : canS g.s [x, y, z] = false := by simpa using hcan
      rw [hlv] at hlen hones hlog hcell
      rw [hcan'] at hcell
      have hcut : Cut lv 0 13 lv := Cut.whole hlen
      have hnext : tkC g.s (k + 1) = tkC g.s k := tkC_no hk' (by rw [hrow]; exact hcan')
      repeat' (first | (refine Znh ?_) | (refine GiW ?_; first | (refine Zsq fun K hK => ?_) | (refine ZrN 3 fun _ => ?_; (first | (refine Zv (Val_load1 rfl (by repeat (first | exact Mem.here | assumption | apply Mem.there | apply Mem.sv | apply Mem.app)) hcell) ?_) | (refine Zv Zld ?_)); (first | (refine Zv (Val_load1 rfl (by repeat (first | exact Mem.here | assumption | apply Mem.there | apply Mem.sv | apply Mem.app)) hcell) ?_) | (refine Zv Zla ?_)); refine Zcl (Enters_fn rfl) (hlog _ (by repeat (first | exact Sub.refl _ | assumption | exact Sub.left | apply Sub.cons | apply Sub.sv | apply Sub.app))) ?_; refine Zal 6 fun b6 => ?_; (first | (refine Zst ?_) | (refine OPS_turnN (Turn_storeG rfl rfl (by repeat (first | exact Up.here | apply Up.there | apply Up.sv)) rfl (by simp [hlen]) (setL_whole (by rw [hlen]; rfl)) hlen hones) rfl rfl ?_))) | (refine ZrN 4 fun _ => ?_; refine Zv Zfa ?_; (first | (refine Zv (Val_load1 rfl (by repeat (first | exact Mem.here | assumption | apply Mem.there | apply Mem.sv | apply Mem.app)) hcell) ?_) | (refine Zv Zld ?_))) | (refine WP_cond_false rfl ?_) | (with_reducible apply WP_skip) | (with_reducible apply WP_block)) | (with_reducible apply QBlock_normal))
      refine ⟨svH 105 2 (tkC g.s k).length (((tkC g.s k).map mq).flatMap bbL) s ((pr, Blk 73 [.pointer (some ⟨g.b, 0, none⟩)]) :: (b4, Blk 103 [svV s (tkC g.s k).length]) :: (b3, Blk 108 [.func (.func q) #[] cc.toArray]) :: (b2, Blk 73 [.pointer (some ⟨g.b, 0, none⟩)]) :: L), ?_, s, by rw [hnext], by rw [hnext]; exact hs⟩
      cases s <;> exact (by repeat (first | exact Wk.refl _ | apply Wk.keep1 | apply Wk.drop | apply Wk.sv | apply Wk.svD | apply Wk.appD))
  · rintro D _ ⟨s, rfl, hs⟩
    have hal : (argC (rowsC g.s)).length = (rowsC g.s).length := by simp [argC]
    rw [hal, tkC_all] at hs
    rw [List.append_nil, hal, tkC_all]
    repeat' (first | (refine Znh ?_) | (refine GiW ?_; first | (refine Zsq fun K hK => ?_) | (refine ZrN 6 fun _ => ?_; refine Zv Zld ?_; refine Zst ?_) | (with_reducible apply WP_ret)) | (refine Zhn ?_) | (with_reducible apply QBlock_normal))
    refine QLeave_ret ?_; refine Lv_mark (by simp) .here ?_; refine Lv_nil rfl (.cell1 rfl (by repeat (first | exact Mem.here | assumption | apply Mem.there | apply Mem.sv | apply Mem.app)) rfl .nil) rfl ⟨svH 105 2 (toldC g.s).length (((toldC g.s).map mq).flatMap bbL) s L, ?_, _, rfl, s, rfl, hs, rfl⟩
    cases s <;> exact (by repeat (first | exact Wk.refl _ | apply Wk.keep1 | apply Wk.drop | apply Wk.sv | apply Wk.svD | apply Wk.appD))
  · rintro D x _ h
    exact h.elim
end
end Go.Proofs.Ytkaadefndcbdnaa
