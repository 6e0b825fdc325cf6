/- Package heap: the span of what is so with all rains that can be. · Package heap: the span of what is so with all rains that can be, or why there is none; the wetness of a heap; the day by which heaps are dry. · Package heap: how wet a heap can be in the evening of a day. · Package heap: the first day in whose evening heaps surely are dry. · How many bits are set, of numbers below 32. · A stable sort of numbers below 32 by how many bits are set: the walks of slices' functions, as plain functions of a list. · A stable sort, continued: rotations. · A stable sort, continued: merges. -/
import Derived.Test.YtlpahkmfjpjheaaM3
section
namespace Go.Proofs.Ytlpahkmfjpjheaa
open Go.RowKit
theorem flatMap_sp (l : List Sp) : ∀ (k j : Nat) (hk : k < l.length), j < 2 → (l.flatMap spL)[k * 2 + j]? = (spL l[k])[j]? := by
  induction l with
  | nil => intro k j hk; simp at hk
  | cons x l ih =>
    intro k j hk hj
    cases k with
    | zero =>
      rw [List.flatMap_cons, List.getElem?_append_left (by simp [spL]; omega)]
      simp
    | succ k =>
      rw [List.flatMap_cons, List.getElem?_append_right (by simp [spL]; omega)]
      have := ih k j (by simpa using hk) hj
      simp only [spL, List.length_cons, List.length_nil, List.getElem_cons_succ] at this ⊢
      rw [← this]
      congr 1
      omega
theorem SlAt.mk2 {N : Nat} {w : World} {A : Option Addr} (l : List Sp) (h : ∀ j u, (l.flatMap spL)[j]? = some u → ∃ b, A = some ⟨b, 0, none⟩ ∧ b < N ∧ w.cell? ⟨b, j, none⟩ = some u) : SlAt N w A 2 (l.map spL) := by
  intro k hk
  have hk' : k < l.length := by simpa using hk
  have h0 := h (k * 2 + 0) (.int .i64 l[k].1) (by rw [flatMap_sp l k 0 hk' (by omega)]; rfl)
  obtain ⟨b, rfl, hb, -⟩ := h0
  refine ⟨b, 0, rfl, hb, ?_⟩
  intro j u hj
  rw [List.getElem_map] at hj
  have hj2 : j < 2 := by
    have := (List.getElem?_eq_some_iff.1 hj).1
    simpa [spL] using this
  obtain ⟨b', h1, -, h3⟩ := h (k * 2 + j) u (by rw [flatMap_sp l k j hk' hj2]; exact hj)
  injection h1 with h1; injection h1 with h1; subst h1
  rw [Nat.zero_add]; exact h3
theorem vals_len {s : Sp} (h : s.2 - s.1 ≤ 3) : (vals s).length ≤ 4 := by rw [vals_length]; omega
theorem allR_count : ∀ (l : List Sp), (∀ s ∈ l, s.2 - s.1 ≤ 3) → (allR l).length ≤ 4 ^ l.length
  | [], _ => by simp [allR]
  | s :: l, h => by
    have ih := allR_count l (fun x hx => h x (.tail _ hx))
    have h1 := vals_len (h s (.head _))
    have h2 : (allR (s :: l)).length = (vals s).length * (allR l).length := by simp [allR, List.length_flatMap, List.map_const']
    rw [h2, List.length_cons, Nat.pow_succ, Nat.mul_comm]
    exact Nat.mul_le_mul ih h1
theorem rowsL_count {h : Hv} (hv : VH h) : (rowsL h).length ≤ 4096 := by
  have h1 := allR_count h.rains (fun s hs => (hv.rn s hs).2.2.2)
  have h2 : 4 ^ h.rains.length ≤ 4 ^ 6 := Nat.pow_le_pow_right (by omega) hv.nr.2
  simp only [rowsL, List.length_map]
  omega
theorem toldL_count {h : Hv} (hv : VH h) : (toldL h).length ≤ 4096 := Nat.le_trans (List.length_filter_le _ _) (rowsL_count hv)
attribute [local irreducible] AnyO AnyB QAny QB EWalk AWalk Ev WP OPS QThen QBlock QScope QLoop QBody Val New Turn Tri Enters PostA Blk Ro
section
variable (N : Nat) (w0 : World)
theorem joined_sv (l : List Sp) (hl : l.length ≤ 1000000) {s : Option (Nat × Nat)} (hs : svOk s 2 l.length (l.flatMap spL)) {L1 L : Hp} (hk : Wk L1 (svH 31 2 l.length (l.flatMap spL) s L)) :
    Ret Try.prog N w0 L1 105 [svV s l.length].toArray (.agg [.int .i64 (jn l).1, .int .i64 (jn l).2].toArray) := by
  obtain ⟨A, c, hv, hA⟩ := sv_slice hs
  rw [hv]
  exact Ret.re fun w hI => joined_ret _ _ _ A c l hl (SlAt.mk2 l fun j u hj => hA (hI.wk hk) j u hj)
theorem hull_ret (L : Hp) (g : Bg) (pt : Nat) (hS : Sub (NdT pt g) L) (hv : VH g.h) (hA : HeapAt N w0 g) (q : FuncId) [HasBody Try.prog q] (cc : List Value) (mq : List Int → Sp) (nd : Hp) (hN : Sub nd L)
    (hq : ∀ r0 r1 r2 r3 r4 r5 : Int, [r0, r1, r2, r3, r4, r5] ∈ toldL g.h → ∀ L', Sub nd L' → Ret Try.prog N w0 L' q (.agg [.int .i64 r0, .int .i64 r1, .int .i64 r2, .int .i64 r3, .int .i64 r4, .int .i64 r5].toArray :: cc).toArray (.agg [.int .i64 (mq [r0, r1, r2, r3, r4, r5]).1, .int .i64 (mq [r0, r1, r2, r3, r4, r5]).2].toArray)) :
    Ret Try.prog N w0 L 94 [.func (.func 106) #[] #[.pointer (some ⟨pt, 0, none⟩)], .agg [.func (.func q) #[] cc.toArray].toArray].toArray (.tuple [.agg [.int .i64 (jn ((toldL g.h).map mq)).1, .int .i64 (jn ((toldL g.h).map mq)).2].toArray, .bool (decide (0 < (toldL g.h).length))].toArray) := by
  have hcnt := toldL_count hv
  refine Ret.fgt ?_
  refine tri_of_WPL Try.func94 rfl (n := 22) rfl (by simp) ?_
  repeat' (first | ((with_reducible refine WP_seqK (fun K hK => ?_)); (with_reducible refine WP_regionN (id := 0) (fun _ => ?_)); refine OPS_newS blk_is (New_box (rfl : _ = Value.agg _) (by first | (exact svV_cells) | (rfl))) rfl rfl rfl (fun b3 => ?_); refine OPS_newS blk_is New_alloc rfl rfl rfl (fun b4 => ?_); refine OPS_valS (Val_assign (rfl : _ = Value.bool _)) rfl rfl rfl ?_; (with_reducible apply OPS_nil); refine HThen.normal (by assumption) ?_; (with_reducible refine WP_seqK (fun K hK => ?_)); (with_reducible refine WP_regionN (id := 1) (fun _ => ?_)); refine OPS_newS blk_is New_alloc rfl rfl rfl (fun b6 => ?_); (with_reducible apply OPS_nil); refine HThen.normal (by assumption) ?_; (with_reducible refine WP_seqK (fun K hK => ?_)); (with_reducible refine WP_seqK (fun K hK => ?_)); (with_reducible refine WP_regionN (id := 2) (fun _ => ?_)); refine OPS_valS (Val_move (by exact (rfl : _ = Value.func _ _ _))) rfl rfl rfl ?_; (with_reducible apply OPS_nil); refine HThen.normal (by assumption) ?_; (with_reducible apply WP_block)))
  refine WP_rangeFunc (cc := [.pointer (some ⟨pt, 0, none⟩)]) (xs := argL (toldL g.h)) (nd := NdT pt g) rfl (told_iter N w0 g hv hA pt)
    (fun k F => ∃ s, F = svH 31 2 k (((toldL g.h).take k).map mq |>.flatMap spL) s ((b6, Blk 23 [svV s k]) :: (b4, Blk 31 [.int .i64 0, .int .i64 0]) :: (b3, Blk 128 [.func (.func q) #[] cc.toArray]) :: L) ∧ svOk s 2 k (((toldL g.h).take k).map mq |>.flatMap spL))
    (fun x F => False)
    ((b6, Blk 23 [svV none 0]) :: (b4, Blk 31 [.int .i64 0, .int .i64 0]) :: (b3, Blk 128 [.func (.func q) #[] cc.toArray]) :: L) [] (by rw [List.append_nil]; exact Wk.refl _) ⟨none, rfl, svOk_nil 2⟩ ?_ (by simp [argL]) rfl ?_ ?_ ?_
  · rintro k _ ⟨s, rfl, -⟩
    exact (by repeat (first | exact Sub.refl _ | assumption | exact Sub.left | apply Sub.cons | apply Sub.sv | apply Sub.app))
  · rintro l X0 k hk _ ⟨s, rfl, hs⟩
    have hk' : k < (toldL g.h).length := by simpa [argL] using hk
    have hx : (argL (toldL g.h))[k] = [.agg (ints (toldL g.h)[k]).toArray] := by simp [argL]
    rw [hx]
    have hmt : (toldL g.h)[k] ∈ toldL g.h := List.getElem_mem hk'
    obtain ⟨r0, r1, r2, r3, r4, r5, hrow, hb⟩ := rowsL_six hv (List.mem_filter.1 hmt).1
    rw [hrow] at hmt ⊢
    repeat' (first | ((with_reducible refine WP_regionN (id := 3) (fun _ => ?_)); refine OPS_newS blk_is New_alloc rfl rfl rfl (fun b7 => ?_); refine OPS_turnN (Turn_store rfl (rfl : _ = Value.agg _) (by repeat (first | exact Up.here | apply Up.there | apply Up.sv)) (by first | (exact svV_cells) | (rfl)) (by repeat (first | exact Over.nil | apply Over.cons | apply PutAt.there | apply PutAt.here)) (by rfl) (by rfl)) rfl rfl ?_; (with_reducible apply OPS_nil)))
    refine ⟨rfl, (b7, Blk 86 (ints [r0, r1, r2, r3, r4, r5])) :: svH 31 2 k (((toldL g.h).take k).map mq |>.flatMap spL) s ((b6, Blk 23 [svV s k]) :: (b4, Blk 31 [.int .i64 0, .int .i64 0]) :: (b3, Blk 128 [.func (.func q) #[] cc.toArray]) :: L), rfl, fun X1 => ?_⟩
    have happ : ∀ (S : Hp), svH 31 2 k (((toldL g.h).take k).map mq |>.flatMap spL) s S ++ X1 = svH 31 2 k (((toldL g.h).take k).map mq |>.flatMap spL) s (S ++ X1) := by intro S; cases s <;> rfl
    rw [List.cons_append, happ]
    simp only [List.cons_append]
    have hndX : Sub nd (L ++ X1) := hN.appR X1
    repeat' (first | ((with_reducible apply WP_block); refine WP_drawn (id := 4) [0, 1, 2, 3, 4] [5] (k := 2) prog_mixed (by kernel_rfl) rfl ?_; ((refine EWalk_evS rfl rfl rfl rfl rfl (Ev_val (Val_load1 rfl (by repeat (first | exact Mem.here | assumption | apply Mem.there | apply Mem.sv | apply Mem.app)) (by rfl))) ?_)); ((refine EWalk_evS rfl rfl rfl rfl rfl (Ev_val (Val_fieldAddr0 rfl)) ?_)); ((refine EWalk_evS rfl rfl rfl rfl rfl (Ev_val (Val_load1 rfl (by repeat (first | exact Mem.here | assumption | apply Mem.there | apply Mem.sv | apply Mem.app)) (by rfl))) ?_)); ((refine EWalk_evS rfl rfl rfl rfl rfl (Ev_val (Val_loadN rfl (by repeat (first | exact Mem.here | assumption | apply Mem.there | apply Mem.sv | apply Mem.app)) (by repeat (first | exact Pre.nil | apply Pre.cons | apply Cut.there | apply Cut.here)))) ?_)); refine EWalk_evS rfl rfl rfl rfl rfl (Ev_ret (Enters_val rfl rfl) (fun X => (hq r0 r1 r2 r3 r4 r5 hmt _ (by repeat (first | exact Sub.refl _ | assumption | exact Sub.left | apply Sub.cons | apply Sub.sv | apply Sub.app))))) ?_; (with_reducible apply EWalk_nil); refine AWalk_1S rfl rfl rfl rfl blk_is (New_buildSliceR rfl rfl (by repeat (first | exact CellsR.nil | (apply CellsR.cA rfl) | (apply CellsR.c1 (by first | exact (rfl : _ = Value.int _ _) | exact (rfl : _ = Value.bool _) | exact (rfl : _ = Value.slice _ _ _) | exact (rfl : _ = svV _ _) | exact (rfl : _ = Value.pointer (some ⟨_, _, none⟩)) | exact (rfl : _ = Value.func _ _ _) | exact (rfl : _ = Value.iface _ _) | exact (rfl : _ = Value.nilIface) | exact (rfl : _ = Value.nilFunc) | exact (rfl : _ = Value.map _) | exact (rfl : _ = Value.string _)) rfl))) rfl (by decide) rfl (by decide)) (fun b15 => ?_); any_goals (refine AnyO_1 6 (by kernel_rfl) rfl ?_; (refine OPS_append rfl rfl rfl (by repeat (first | exact Wk.refl _ | apply Wk.keep1 | apply Wk.drop | apply Wk.sv | apply Wk.svD | apply Wk.appD)) (by assumption) (blk_cells (by repeat (first | exact Mem.here | assumption | apply Mem.there | apply Mem.sv | apply Mem.app))) rfl rfl (by simp only [maxLen]; omega) (by omega) rfl rfl (fun s16 hs16 => ?_); (with_reducible apply OPS_nil); (with_reducible apply QAny_normal); (refine AnyO_1 7 (by kernel_rfl) rfl ?_; (refine OPS_turnN (Turn_store rfl (by first | (exact (rfl : _ = Value.slice _ _ _)) | (exact (rfl : _ = svV _ _))) (by repeat (first | exact Up.here | apply Up.there | apply Up.sv)) (by exact svV_cells) (by repeat (first | exact Over.nil | apply Over.cons | apply PutAt.there | apply PutAt.here)) (by rfl) (by first | (rfl) | (exact svV_ones))) rfl rfl ?_; (with_reducible apply OPS_nil); (with_reducible apply QAny_normal); (refine AnyO_done (by kernel_rfl) ?_))))); any_goals (with_reducible apply QBlock_normal)))
    have hnext : ((toldL g.h).take (k + 1)).map mq = ((toldL g.h).take k).map mq ++ [mq [r0, r1, r2, r3, r4, r5]] := by
      rw [List.take_succ_eq_append_getElem hk', hrow]; simp
    have hfl : (((toldL g.h).take (k + 1)).map mq).flatMap spL = (((toldL g.h).take k).map mq).flatMap spL ++ [[Value.int .i64 (mq [r0, r1, r2, r3, r4, r5]).1, .int .i64 (mq [r0, r1, r2, r3, r4, r5]).2]].flatten := by
      rw [hnext, List.flatMap_append]; rfl
    refine ⟨svH 31 2 (k + 1) (((toldL g.h).take (k + 1)).map mq |>.flatMap spL) s16 ((b6, Blk 23 [svV s16 (k + 1)]) :: (b4, Blk 31 [.int .i64 0, .int .i64 0]) :: (b3, Blk 128 [.func (.func q) #[] cc.toArray]) :: L), ?_, s16, rfl, ?_⟩
    · rw [hfl]
      cases s16 <;> exact Wk.refl _
    · rw [hfl]; exact hs16
  · rintro D _ ⟨s, rfl, hs⟩
    have hal : (argL (toldL g.h)).length = (toldL g.h).length := by simp [argL]
    rw [hal, List.take_length] at hs
    rw [List.append_nil, hal, List.take_length]
    obtain ⟨l, hl⟩ : ∃ l, l = (toldL g.h).map mq := ⟨_, rfl⟩
    have hll : (toldL g.h).length = l.length := by simp [hl]
    have hlc : l.length ≤ 4096 := by omega
    rw [← hl, hll] at hs ⊢
    have hd0 : decide (0 < (toldL g.h).length) = decide ((0 : Int) < (l.length : Int)) := by rw [hll]; simp
    have hj := fun L1 L hk => joined_sv N w0 l (by omega) hs (L1 := L1) (L := L) hk
    obtain ⟨A, c, hv', -⟩ := sv_slice (E := 31) hs
    rw [hv'] at hj ⊢
    repeat' (first | ((with_reducible apply QBlock_normal); refine HThen.normal (by assumption) ?_; (with_reducible refine WP_seqK (fun K hK => ?_)); refine WP_drawn (id := 5) [] [] (k := 7) prog_mixed (by kernel_rfl) rfl ?_; (with_reducible apply EWalk_nil); refine AWalk_0 ?_; any_goals (apply shr; intro key; (refine AnyO_2 0 2 (by kernel_rfl) rfl rfl ?_ ?_ <;> first | (((refine OPS_valS (Val_load1 rfl (by repeat (first | exact Mem.here | assumption | apply Mem.there | apply Mem.sv | apply Mem.app)) (by rfl)) rfl rfl rfl ?_)); (with_reducible apply OPS_nil); (with_reducible apply QAny_normal); (refine AnyO_2 1 2 (by kernel_rfl) rfl rfl ?_ ?_ <;> first | (refine OPS_retS (Enters_fn rfl) (hj _ _ (by repeat (first | exact Wk.refl _ | apply Wk.keep1 | apply Wk.drop | apply Wk.sv | apply Wk.svD | apply Wk.appD))) rfl rfl rfl ?_; (with_reducible apply OPS_nil); (with_reducible apply QAny_normal); (refine AnyO_2 2 5 (by kernel_rfl) rfl rfl ?_ ?_ <;> first | ((first | (refine OPS_valS (Val_load1 rfl (by repeat (first | exact Mem.here | assumption | apply Mem.there | apply Mem.sv | apply Mem.app)) (by first | (rfl) | (assumption))) rfl rfl rfl ?_) | (refine OPS_valS (Val_loadR1 rfl (by assumption) (by assumption)) rfl rfl rfl ?_)); (with_reducible apply OPS_nil); (with_reducible apply QAny_normal); (refine AnyO_2 3 5 (by kernel_rfl) rfl rfl ?_ ?_ <;> first | (refine OPS_valS (Val_len rfl) rfl rfl rfl ?_; (with_reducible apply OPS_nil); (with_reducible apply QAny_normal); (refine AnyO_2 4 5 (by kernel_rfl) rfl rfl ?_ ?_ <;> first | (refine OPS_valS (Val_gtr rfl rfl) rfl rfl rfl ?_; (with_reducible apply OPS_nil); (with_reducible apply QAny_normal); (refine AnyO_1 5 (by kernel_rfl) rfl ?_; (refine OPS_turnN (Turn_store rfl (rfl : _ = Value.agg _) (by repeat (first | exact Up.here | apply Up.there | apply Up.sv)) (by first | (exact svV_cells) | (rfl)) (by repeat (first | exact Over.nil | apply Over.cons | apply PutAt.there | apply PutAt.here)) (by rfl) (by rfl)) rfl rfl ?_; (with_reducible apply OPS_nil); (with_reducible apply QAny_normal); (refine AnyO_1 6 (by kernel_rfl) rfl ?_; (refine OPS_valS (Val_assign (rfl : _ = Value.bool _)) rfl rfl rfl ?_; (with_reducible apply OPS_nil); (with_reducible apply QAny_normal); (refine AnyO_done (by kernel_rfl) ?_; try with_reducible exact key.out)))))) | (refine OPS_turnN (Turn_store rfl (rfl : _ = Value.agg _) (by repeat (first | exact Up.here | apply Up.there | apply Up.sv)) (by first | (exact svV_cells) | (rfl)) (by repeat (first | exact Over.nil | apply Over.cons | apply PutAt.there | apply PutAt.here)) (by rfl) (by rfl)) rfl rfl ?_; (with_reducible apply OPS_nil); (with_reducible apply QAny_normal); (refine AnyO_1 4 (by kernel_rfl) rfl ?_; (refine OPS_valS (Val_gtr rfl rfl) rfl rfl rfl ?_; (with_reducible apply OPS_nil); (with_reducible apply QAny_normal); (refine AnyO_1 6 (by kernel_rfl) rfl ?_; (refine OPS_valS (Val_assign (rfl : _ = Value.bool _)) rfl rfl rfl ?_; (with_reducible apply OPS_nil); (with_reducible apply QAny_normal); (refine AnyO_done (by kernel_rfl) ?_; try with_reducible exact key.out)))))))) | (refine OPS_turnN (Turn_store rfl (rfl : _ = Value.agg _) (by repeat (first | exact Up.here | apply Up.there | apply Up.sv)) (by first | (exact svV_cells) | (rfl)) (by repeat (first | exact Over.nil | apply Over.cons | apply PutAt.there | apply PutAt.here)) (by rfl) (by rfl)) rfl rfl ?_; (with_reducible apply OPS_nil); (with_reducible apply QAny_normal); (refine AnyO_1 3 (by kernel_rfl) rfl ?_; (refine OPS_valS (Val_len rfl) rfl rfl rfl ?_; (with_reducible apply OPS_nil); (with_reducible apply QAny_normal); (refine AnyO_1 4 (by kernel_rfl) rfl ?_; (refine OPS_valS (Val_gtr rfl rfl) rfl rfl rfl ?_; (with_reducible apply OPS_nil); (with_reducible apply QAny_normal); (refine AnyO_1 6 (by kernel_rfl) rfl ?_; (refine OPS_valS (Val_assign (rfl : _ = Value.bool _)) rfl rfl rfl ?_; (with_reducible apply OPS_nil); (with_reducible apply QAny_normal); (refine AnyO_done (by kernel_rfl) ?_; try with_reducible exact key.out)))))))))) | (refine OPS_turnN (Turn_store rfl (rfl : _ = Value.agg _) (by repeat (first | exact Up.here | apply Up.there | apply Up.sv)) (by first | (exact svV_cells) | (rfl)) (by repeat (first | exact Over.nil | apply Over.cons | apply PutAt.there | apply PutAt.here)) (by rfl) (by rfl)) rfl rfl ?_; (with_reducible apply OPS_nil); (with_reducible apply QAny_normal); (refine AnyO_1 2 (by kernel_rfl) rfl ?_; (((refine OPS_valS (Val_load1 rfl (by repeat (first | exact Mem.here | assumption | apply Mem.there | apply Mem.sv | apply Mem.app)) (by rfl)) rfl rfl rfl ?_)); (with_reducible apply OPS_nil); (with_reducible apply QAny_normal); (refine AnyO_1 3 (by kernel_rfl) rfl ?_; (refine OPS_valS (Val_len rfl) rfl rfl rfl ?_; (with_reducible apply OPS_nil); (with_reducible apply QAny_normal); (refine AnyO_1 4 (by kernel_rfl) rfl ?_; (refine OPS_valS (Val_gtr rfl rfl) rfl rfl rfl ?_; (with_reducible apply OPS_nil); (with_reducible apply QAny_normal); (refine AnyO_1 6 (by kernel_rfl) rfl ?_; (refine OPS_valS (Val_assign (rfl : _ = Value.bool _)) rfl rfl rfl ?_; (with_reducible apply OPS_nil); (with_reducible apply QAny_normal); (refine AnyO_done (by kernel_rfl) ?_; try with_reducible exact key.out)))))))))))) | ((first | (refine OPS_valS (Val_load1 rfl (by repeat (first | exact Mem.here | assumption | apply Mem.there | apply Mem.sv | apply Mem.app)) (by first | (rfl) | (assumption))) rfl rfl rfl ?_) | (refine OPS_valS (Val_loadR1 rfl (by assumption) (by assumption)) rfl rfl rfl ?_)); (with_reducible apply OPS_nil); (with_reducible apply QAny_normal); (refine AnyO_2 1 3 (by kernel_rfl) rfl rfl ?_ ?_ <;> first | (refine OPS_retS (Enters_fn rfl) (hj _ _ (by repeat (first | exact Wk.refl _ | apply Wk.keep1 | apply Wk.drop | apply Wk.sv | apply Wk.svD | apply Wk.appD))) rfl rfl rfl ?_; (with_reducible apply OPS_nil); (with_reducible apply QAny_normal); (refine AnyO_2 3 5 (by kernel_rfl) rfl rfl ?_ ?_ <;> first | (refine OPS_valS (Val_len rfl) rfl rfl rfl ?_; (with_reducible apply OPS_nil); (with_reducible apply QAny_normal); (refine AnyO_2 4 5 (by kernel_rfl) rfl rfl ?_ ?_ <;> first | (refine OPS_valS (Val_gtr rfl rfl) rfl rfl rfl ?_; (with_reducible apply OPS_nil); (with_reducible apply QAny_normal); (refine AnyO_1 5 (by kernel_rfl) rfl ?_; (refine OPS_turnN (Turn_store rfl (rfl : _ = Value.agg _) (by repeat (first | exact Up.here | apply Up.there | apply Up.sv)) (by first | (exact svV_cells) | (rfl)) (by repeat (first | exact Over.nil | apply Over.cons | apply PutAt.there | apply PutAt.here)) (by rfl) (by rfl)) rfl rfl ?_; (with_reducible apply OPS_nil); (with_reducible apply QAny_normal); (refine AnyO_1 6 (by kernel_rfl) rfl ?_; (refine OPS_valS (Val_assign (rfl : _ = Value.bool _)) rfl rfl rfl ?_; (with_reducible apply OPS_nil); (with_reducible apply QAny_normal); (refine AnyO_done (by kernel_rfl) ?_; try with_reducible exact key.out)))))) | (refine OPS_turnN (Turn_store rfl (rfl : _ = Value.agg _) (by repeat (first | exact Up.here | apply Up.there | apply Up.sv)) (by first | (exact svV_cells) | (rfl)) (by repeat (first | exact Over.nil | apply Over.cons | apply PutAt.there | apply PutAt.here)) (by rfl) (by rfl)) rfl rfl ?_; (with_reducible apply OPS_nil); (with_reducible apply QAny_normal); (refine AnyO_1 4 (by kernel_rfl) rfl ?_; (refine OPS_valS (Val_gtr rfl rfl) rfl rfl rfl ?_; (with_reducible apply OPS_nil); (with_reducible apply QAny_normal); (refine AnyO_1 6 (by kernel_rfl) rfl ?_; (refine OPS_valS (Val_assign (rfl : _ = Value.bool _)) rfl rfl rfl ?_; (with_reducible apply OPS_nil); (with_reducible apply QAny_normal); (refine AnyO_done (by kernel_rfl) ?_; try with_reducible exact key.out)))))))) | (refine OPS_turnN (Turn_store rfl (rfl : _ = Value.agg _) (by repeat (first | exact Up.here | apply Up.there | apply Up.sv)) (by first | (exact svV_cells) | (rfl)) (by repeat (first | exact Over.nil | apply Over.cons | apply PutAt.there | apply PutAt.here)) (by rfl) (by rfl)) rfl rfl ?_; (with_reducible apply OPS_nil); (with_reducible apply QAny_normal); (refine AnyO_1 3 (by kernel_rfl) rfl ?_; (refine OPS_valS (Val_len rfl) rfl rfl rfl ?_; (with_reducible apply OPS_nil); (with_reducible apply QAny_normal); (refine AnyO_1 4 (by kernel_rfl) rfl ?_; (refine OPS_valS (Val_gtr rfl rfl) rfl rfl rfl ?_; (with_reducible apply OPS_nil); (with_reducible apply QAny_normal); (refine AnyO_1 6 (by kernel_rfl) rfl ?_; (refine OPS_valS (Val_assign (rfl : _ = Value.bool _)) rfl rfl rfl ?_; (with_reducible apply OPS_nil); (with_reducible apply QAny_normal); (refine AnyO_done (by kernel_rfl) ?_; try with_reducible exact key.out)))))))))) | (refine OPS_valS (Val_len rfl) rfl rfl rfl ?_; (with_reducible apply OPS_nil); (with_reducible apply QAny_normal); (refine AnyO_2 1 4 (by kernel_rfl) rfl rfl ?_ ?_ <;> first | (refine OPS_retS (Enters_fn rfl) (hj _ _ (by repeat (first | exact Wk.refl _ | apply Wk.keep1 | apply Wk.drop | apply Wk.sv | apply Wk.svD | apply Wk.appD))) rfl rfl rfl ?_; (with_reducible apply OPS_nil); (with_reducible apply QAny_normal); (refine AnyO_2 4 5 (by kernel_rfl) rfl rfl ?_ ?_ <;> first | (refine OPS_valS (Val_gtr rfl rfl) rfl rfl rfl ?_; (with_reducible apply OPS_nil); (with_reducible apply QAny_normal); (refine AnyO_1 5 (by kernel_rfl) rfl ?_; (refine OPS_turnN (Turn_store rfl (rfl : _ = Value.agg _) (by repeat (first | exact Up.here | apply Up.there | apply Up.sv)) (by first | (exact svV_cells) | (rfl)) (by repeat (first | exact Over.nil | apply Over.cons | apply PutAt.there | apply PutAt.here)) (by rfl) (by rfl)) rfl rfl ?_; (with_reducible apply OPS_nil); (with_reducible apply QAny_normal); (refine AnyO_1 6 (by kernel_rfl) rfl ?_; (refine OPS_valS (Val_assign (rfl : _ = Value.bool _)) rfl rfl rfl ?_; (with_reducible apply OPS_nil); (with_reducible apply QAny_normal); (refine AnyO_done (by kernel_rfl) ?_; try with_reducible exact key.out)))))) | (refine OPS_turnN (Turn_store rfl (rfl : _ = Value.agg _) (by repeat (first | exact Up.here | apply Up.there | apply Up.sv)) (by first | (exact svV_cells) | (rfl)) (by repeat (first | exact Over.nil | apply Over.cons | apply PutAt.there | apply PutAt.here)) (by rfl) (by rfl)) rfl rfl ?_; (with_reducible apply OPS_nil); (with_reducible apply QAny_normal); (refine AnyO_1 4 (by kernel_rfl) rfl ?_; (refine OPS_valS (Val_gtr rfl rfl) rfl rfl rfl ?_; (with_reducible apply OPS_nil); (with_reducible apply QAny_normal); (refine AnyO_1 6 (by kernel_rfl) rfl ?_; (refine OPS_valS (Val_assign (rfl : _ = Value.bool _)) rfl rfl rfl ?_; (with_reducible apply OPS_nil); (with_reducible apply QAny_normal); (refine AnyO_done (by kernel_rfl) ?_; try with_reducible exact key.out)))))))) | (refine OPS_valS (Val_gtr rfl rfl) rfl rfl rfl ?_; (with_reducible apply OPS_nil); (with_reducible apply QAny_normal); (refine AnyO_1 1 (by kernel_rfl) rfl ?_; (refine OPS_retS (Enters_fn rfl) (hj _ _ (by repeat (first | exact Wk.refl _ | apply Wk.keep1 | apply Wk.drop | apply Wk.sv | apply Wk.svD | apply Wk.appD))) rfl rfl rfl ?_; (with_reducible apply OPS_nil); (with_reducible apply QAny_normal); (refine AnyO_1 5 (by kernel_rfl) rfl ?_; (refine OPS_turnN (Turn_store rfl (rfl : _ = Value.agg _) (by repeat (first | exact Up.here | apply Up.there | apply Up.sv)) (by first | (exact svV_cells) | (rfl)) (by repeat (first | exact Over.nil | apply Over.cons | apply PutAt.there | apply PutAt.here)) (by rfl) (by rfl)) rfl rfl ?_; (with_reducible apply OPS_nil); (with_reducible apply QAny_normal); (refine AnyO_1 6 (by kernel_rfl) rfl ?_; (refine OPS_valS (Val_assign (rfl : _ = Value.bool _)) rfl rfl rfl ?_; (with_reducible apply OPS_nil); (with_reducible apply QAny_normal); (refine AnyO_done (by kernel_rfl) ?_; try with_reducible exact key.out)))))))))))))) | (((refine OPS_valS (Val_load1 rfl (by repeat (first | exact Mem.here | assumption | apply Mem.there | apply Mem.sv | apply Mem.app)) (by rfl)) rfl rfl rfl ?_)); (with_reducible apply OPS_nil); (with_reducible apply QAny_normal); (refine AnyO_2 0 3 (by kernel_rfl) rfl rfl ?_ ?_ <;> first | ((first | (refine OPS_valS (Val_load1 rfl (by repeat (first | exact Mem.here | assumption | apply Mem.there | apply Mem.sv | apply Mem.app)) (by first | (rfl) | (assumption))) rfl rfl rfl ?_) | (refine OPS_valS (Val_loadR1 rfl (by assumption) (by assumption)) rfl rfl rfl ?_)); (with_reducible apply OPS_nil); (with_reducible apply QAny_normal); (refine AnyO_2 1 3 (by kernel_rfl) rfl rfl ?_ ?_ <;> first | (refine OPS_retS (Enters_fn rfl) (hj _ _ (by repeat (first | exact Wk.refl _ | apply Wk.keep1 | apply Wk.drop | apply Wk.sv | apply Wk.svD | apply Wk.appD))) rfl rfl rfl ?_; (with_reducible apply OPS_nil); (with_reducible apply QAny_normal); (refine AnyO_2 3 5 (by kernel_rfl) rfl rfl ?_ ?_ <;> first | (refine OPS_valS (Val_len rfl) rfl rfl rfl ?_; (with_reducible apply OPS_nil); (with_reducible apply QAny_normal); (refine AnyO_2 4 5 (by kernel_rfl) rfl rfl ?_ ?_ <;> first | (refine OPS_valS (Val_gtr rfl rfl) rfl rfl rfl ?_; (with_reducible apply OPS_nil); (with_reducible apply QAny_normal); (refine AnyO_1 5 (by kernel_rfl) rfl ?_; (refine OPS_turnN (Turn_store rfl (rfl : _ = Value.agg _) (by repeat (first | exact Up.here | apply Up.there | apply Up.sv)) (by first | (exact svV_cells) | (rfl)) (by repeat (first | exact Over.nil | apply Over.cons | apply PutAt.there | apply PutAt.here)) (by rfl) (by rfl)) rfl rfl ?_; (with_reducible apply OPS_nil); (with_reducible apply QAny_normal); (refine AnyO_1 6 (by kernel_rfl) rfl ?_; (refine OPS_valS (Val_assign (rfl : _ = Value.bool _)) rfl rfl rfl ?_; (with_reducible apply OPS_nil); (with_reducible apply QAny_normal); (refine AnyO_done (by kernel_rfl) ?_; try with_reducible exact key.out)))))) | (refine OPS_turnN (Turn_store rfl (rfl : _ = Value.agg _) (by repeat (first | exact Up.here | apply Up.there | apply Up.sv)) (by first | (exact svV_cells) | (rfl)) (by repeat (first | exact Over.nil | apply Over.cons | apply PutAt.there | apply PutAt.here)) (by rfl) (by rfl)) rfl rfl ?_; (with_reducible apply OPS_nil); (with_reducible apply QAny_normal); (refine AnyO_1 4 (by kernel_rfl) rfl ?_; (refine OPS_valS (Val_gtr rfl rfl) rfl rfl rfl ?_; (with_reducible apply OPS_nil); (with_reducible apply QAny_normal); (refine AnyO_1 6 (by kernel_rfl) rfl ?_; (refine OPS_valS (Val_assign (rfl : _ = Value.bool _)) rfl rfl rfl ?_; (with_reducible apply OPS_nil); (with_reducible apply QAny_normal); (refine AnyO_done (by kernel_rfl) ?_; try with_reducible exact key.out)))))))) | (refine OPS_turnN (Turn_store rfl (rfl : _ = Value.agg _) (by repeat (first | exact Up.here | apply Up.there | apply Up.sv)) (by first | (exact svV_cells) | (rfl)) (by repeat (first | exact Over.nil | apply Over.cons | apply PutAt.there | apply PutAt.here)) (by rfl) (by rfl)) rfl rfl ?_; (with_reducible apply OPS_nil); (with_reducible apply QAny_normal); (refine AnyO_1 3 (by kernel_rfl) rfl ?_; (refine OPS_valS (Val_len rfl) rfl rfl rfl ?_; (with_reducible apply OPS_nil); (with_reducible apply QAny_normal); (refine AnyO_1 4 (by kernel_rfl) rfl ?_; (refine OPS_valS (Val_gtr rfl rfl) rfl rfl rfl ?_; (with_reducible apply OPS_nil); (with_reducible apply QAny_normal); (refine AnyO_1 6 (by kernel_rfl) rfl ?_; (refine OPS_valS (Val_assign (rfl : _ = Value.bool _)) rfl rfl rfl ?_; (with_reducible apply OPS_nil); (with_reducible apply QAny_normal); (refine AnyO_done (by kernel_rfl) ?_; try with_reducible exact key.out)))))))))) | (refine OPS_valS (Val_len rfl) rfl rfl rfl ?_; (with_reducible apply OPS_nil); (with_reducible apply QAny_normal); (refine AnyO_2 1 4 (by kernel_rfl) rfl rfl ?_ ?_ <;> first | (refine OPS_retS (Enters_fn rfl) (hj _ _ (by repeat (first | exact Wk.refl _ | apply Wk.keep1 | apply Wk.drop | apply Wk.sv | apply Wk.svD | apply Wk.appD))) rfl rfl rfl ?_; (with_reducible apply OPS_nil); (with_reducible apply QAny_normal); (refine AnyO_2 4 5 (by kernel_rfl) rfl rfl ?_ ?_ <;> first | (refine OPS_valS (Val_gtr rfl rfl) rfl rfl rfl ?_; (with_reducible apply OPS_nil); (with_reducible apply QAny_normal); (refine AnyO_1 5 (by kernel_rfl) rfl ?_; (refine OPS_turnN (Turn_store rfl (rfl : _ = Value.agg _) (by repeat (first | exact Up.here | apply Up.there | apply Up.sv)) (by first | (exact svV_cells) | (rfl)) (by repeat (first | exact Over.nil | apply Over.cons | apply PutAt.there | apply PutAt.here)) (by rfl) (by rfl)) rfl rfl ?_; (with_reducible apply OPS_nil); (with_reducible apply QAny_normal); (refine AnyO_1 6 (by kernel_rfl) rfl ?_; (refine OPS_valS (Val_assign (rfl : _ = Value.bool _)) rfl rfl rfl ?_; (with_reducible apply OPS_nil); (with_reducible apply QAny_normal); (refine AnyO_done (by kernel_rfl) ?_; try with_reducible exact key.out)))))) | (refine OPS_turnN (Turn_store rfl (rfl : _ = Value.agg _) (by repeat (first | exact Up.here | apply Up.there | apply Up.sv)) (by first | (exact svV_cells) | (rfl)) (by repeat (first | exact Over.nil | apply Over.cons | apply PutAt.there | apply PutAt.here)) (by rfl) (by rfl)) rfl rfl ?_; (with_reducible apply OPS_nil); (with_reducible apply QAny_normal); (refine AnyO_1 4 (by kernel_rfl) rfl ?_; (refine OPS_valS (Val_gtr rfl rfl) rfl rfl rfl ?_; (with_reducible apply OPS_nil); (with_reducible apply QAny_normal); (refine AnyO_1 6 (by kernel_rfl) rfl ?_; (refine OPS_valS (Val_assign (rfl : _ = Value.bool _)) rfl rfl rfl ?_; (with_reducible apply OPS_nil); (with_reducible apply QAny_normal); (refine AnyO_done (by kernel_rfl) ?_; try with_reducible exact key.out)))))))) | (refine OPS_valS (Val_gtr rfl rfl) rfl rfl rfl ?_; (with_reducible apply OPS_nil); (with_reducible apply QAny_normal); (refine AnyO_1 1 (by kernel_rfl) rfl ?_; (refine OPS_retS (Enters_fn rfl) (hj _ _ (by repeat (first | exact Wk.refl _ | apply Wk.keep1 | apply Wk.drop | apply Wk.sv | apply Wk.svD | apply Wk.appD))) rfl rfl rfl ?_; (with_reducible apply OPS_nil); (with_reducible apply QAny_normal); (refine AnyO_1 5 (by kernel_rfl) rfl ?_; (refine OPS_turnN (Turn_store rfl (rfl : _ = Value.agg _) (by repeat (first | exact Up.here | apply Up.there | apply Up.sv)) (by first | (exact svV_cells) | (rfl)) (by repeat (first | exact Over.nil | apply Over.cons | apply PutAt.there | apply PutAt.here)) (by rfl) (by rfl)) rfl rfl ?_; (with_reducible apply OPS_nil); (with_reducible apply QAny_normal); (refine AnyO_1 6 (by kernel_rfl) rfl ?_; (refine OPS_valS (Val_assign (rfl : _ = Value.bool _)) rfl rfl rfl ?_; (with_reducible apply OPS_nil); (with_reducible apply QAny_normal); (refine AnyO_done (by kernel_rfl) ?_; try with_reducible exact key.out)))))))))))) | (refine OPS_valS (Val_len rfl) rfl rfl rfl ?_; (with_reducible apply OPS_nil); (with_reducible apply QAny_normal); (refine AnyO_2 0 4 (by kernel_rfl) rfl rfl ?_ ?_ <;> first | ((first | (refine OPS_valS (Val_load1 rfl (by repeat (first | exact Mem.here | assumption | apply Mem.there | apply Mem.sv | apply Mem.app)) (by first | (rfl) | (assumption))) rfl rfl rfl ?_) | (refine OPS_valS (Val_loadR1 rfl (by assumption) (by assumption)) rfl rfl rfl ?_)); (with_reducible apply OPS_nil); (with_reducible apply QAny_normal); (refine AnyO_2 1 4 (by kernel_rfl) rfl rfl ?_ ?_ <;> first | (refine OPS_retS (Enters_fn rfl) (hj _ _ (by repeat (first | exact Wk.refl _ | apply Wk.keep1 | apply Wk.drop | apply Wk.sv | apply Wk.svD | apply Wk.appD))) rfl rfl rfl ?_; (with_reducible apply OPS_nil); (with_reducible apply QAny_normal); (refine AnyO_2 4 5 (by kernel_rfl) rfl rfl ?_ ?_ <;> first | (refine OPS_valS (Val_gtr rfl rfl) rfl rfl rfl ?_; (with_reducible apply OPS_nil); (with_reducible apply QAny_normal); (refine AnyO_1 5 (by kernel_rfl) rfl ?_; (refine OPS_turnN (Turn_store rfl (rfl : _ = Value.agg _) (by repeat (first | exact Up.here | apply Up.there | apply Up.sv)) (by first | (exact svV_cells) | (rfl)) (by repeat (first | exact Over.nil | apply Over.cons | apply PutAt.there | apply PutAt.here)) (by rfl) (by rfl)) rfl rfl ?_; (with_reducible apply OPS_nil); (with_reducible apply QAny_normal); (refine AnyO_1 6 (by kernel_rfl) rfl ?_; (refine OPS_valS (Val_assign (rfl : _ = Value.bool _)) rfl rfl rfl ?_; (with_reducible apply OPS_nil); (with_reducible apply QAny_normal); (refine AnyO_done (by kernel_rfl) ?_; try with_reducible exact key.out)))))) | (refine OPS_turnN (Turn_store rfl (rfl : _ = Value.agg _) (by repeat (first | exact Up.here | apply Up.there | apply Up.sv)) (by first | (exact svV_cells) | (rfl)) (by repeat (first | exact Over.nil | apply Over.cons | apply PutAt.there | apply PutAt.here)) (by rfl) (by rfl)) rfl rfl ?_; (with_reducible apply OPS_nil); (with_reducible apply QAny_normal); (refine AnyO_1 4 (by kernel_rfl) rfl ?_; (refine OPS_valS (Val_gtr rfl rfl) rfl rfl rfl ?_; (with_reducible apply OPS_nil); (with_reducible apply QAny_normal); (refine AnyO_1 6 (by kernel_rfl) rfl ?_; (refine OPS_valS (Val_assign (rfl : _ = Value.bool _)) rfl rfl rfl ?_; (with_reducible apply OPS_nil); (with_reducible apply QAny_normal); (refine AnyO_done (by kernel_rfl) ?_; try with_reducible exact key.out)))))))) | (refine OPS_valS (Val_gtr rfl rfl) rfl rfl rfl ?_; (with_reducible apply OPS_nil); (with_reducible apply QAny_normal); (refine AnyO_1 1 (by kernel_rfl) rfl ?_; (refine OPS_retS (Enters_fn rfl) (hj _ _ (by repeat (first | exact Wk.refl _ | apply Wk.keep1 | apply Wk.drop | apply Wk.sv | apply Wk.svD | apply Wk.appD))) rfl rfl rfl ?_; (with_reducible apply OPS_nil); (with_reducible apply QAny_normal); (refine AnyO_1 5 (by kernel_rfl) rfl ?_; (refine OPS_turnN (Turn_store rfl (rfl : _ = Value.agg _) (by repeat (first | exact Up.here | apply Up.there | apply Up.sv)) (by first | (exact svV_cells) | (rfl)) (by repeat (first | exact Over.nil | apply Over.cons | apply PutAt.there | apply PutAt.here)) (by rfl) (by rfl)) rfl rfl ?_; (with_reducible apply OPS_nil); (with_reducible apply QAny_normal); (refine AnyO_1 6 (by kernel_rfl) rfl ?_; (refine OPS_valS (Val_assign (rfl : _ = Value.bool _)) rfl rfl rfl ?_; (with_reducible apply OPS_nil); (with_reducible apply QAny_normal); (refine AnyO_done (by kernel_rfl) ?_; try with_reducible exact key.out)))))))))) | (refine OPS_valS (Val_gtr rfl rfl) rfl rfl rfl ?_; (with_reducible apply OPS_nil); (with_reducible apply QAny_normal); (refine AnyO_1 0 (by kernel_rfl) rfl ?_; (((refine OPS_valS (Val_load1 rfl (by repeat (first | exact Mem.here | assumption | apply Mem.there | apply Mem.sv | apply Mem.app)) (by rfl)) rfl rfl rfl ?_)); (with_reducible apply OPS_nil); (with_reducible apply QAny_normal); (refine AnyO_1 1 (by kernel_rfl) rfl ?_; (refine OPS_retS (Enters_fn rfl) (hj _ _ (by repeat (first | exact Wk.refl _ | apply Wk.keep1 | apply Wk.drop | apply Wk.sv | apply Wk.svD | apply Wk.appD))) rfl rfl rfl ?_; (with_reducible apply OPS_nil); (with_reducible apply QAny_normal); (refine AnyO_1 5 (by kernel_rfl) rfl ?_; (refine OPS_turnN (Turn_store rfl (rfl : _ = Value.agg _) (by repeat (first | exact Up.here | apply Up.there | apply Up.sv)) (by first | (exact svV_cells) | (rfl)) (by repeat (first | exact Over.nil | apply Over.cons | apply PutAt.there | apply PutAt.here)) (by rfl) (by rfl)) rfl rfl ?_; (with_reducible apply OPS_nil); (with_reducible apply QAny_normal); (refine AnyO_1 6 (by kernel_rfl) rfl ?_; (refine OPS_valS (Val_assign (rfl : _ = Value.bool _)) rfl rfl rfl ?_; (with_reducible apply OPS_nil); (with_reducible apply QAny_normal); (refine AnyO_done (by kernel_rfl) ?_; try with_reducible exact key.out)))))))))))))))); any_goals (refine HThen.normal (by assumption) ?_); any_goals (with_reducible apply WP_ret)))
    all_goals (refine QLeave_ret ?_; refine Lv_mark (by simp) .here ?_; refine Lv_nil rfl (.cellN rfl (by repeat (first | exact Mem.here | assumption | apply Mem.there | apply Mem.sv | apply Mem.app)) (.here (.cons (.cons .nil))) (.tmp (rfl : _ = Value.bool _) .nil)) rfl ⟨?_, (by repeat (first | exact Wk.refl _ | apply Wk.keep1 | apply Wk.drop | apply Wk.sv | apply Wk.svD | apply Wk.appD))⟩; rw [← hl, hd0]; rfl)
  · rintro D x _ h
    exact h.elim
end
end Go.Proofs.Ytlpahkmfjpjheaa
end

section
namespace Go.Proofs.Ytlpahkmfjpjheaa
open Go.RowKit
theorem Tri.pan {P : Program} {N : Nat} {w0 : World} {L : Hp} {f : FuncId} {args : Array Value} {ch : List PanicEntry} (h : Tri P N w0 L f args fun x L' => x = .panicked ch ∧ Wk L' L) : Tri P N w0 L f args fun x L' => x = .panicked ch ∧ L' = L :=
  Tri.fgt (h.mono fun _ _ ⟨h1, h2⟩ => ⟨L, h2, h1, rfl⟩)
attribute [local irreducible] AnyO AnyB QAny QB EWalk AWalk Ev WP OPS QThen QBlock QScope QLoop QBody Val New Turn Tri Enters PostA Blk Ro
section
variable (N : Nat) (w0 : World)
/-- What a measure is: for all rains that can be it returns a span. -/
def Meas (N : Nat) (w0 : World) (h : Hv) (q : FuncId) (cc : List Value) (mq : List Int → Sp) (nd : Hp) : Prop :=
  ∀ r0 r1 r2 r3 r4 r5 : Int, [r0, r1, r2, r3, r4, r5] ∈ toldL h → ∀ L', Sub nd L' → Ret Try.prog N w0 L' q (.agg [.int .i64 r0, .int .i64 r1, .int .i64 r2, .int .i64 r3, .int .i64 r4, .int .i64 r5].toArray :: cc).toArray (.agg [.int .i64 (mq [r0, r1, r2, r3, r4, r5]).1, .int .i64 (mq [r0, r1, r2, r3, r4, r5]).2].toArray)
theorem span_ret (L : Hp) (g : Bg) (hS : Sub (Bk g) L) (hv : VH g.h) (hA : HeapAt N w0 g) (q : FuncId) [HasBody Try.prog q] (cc : List Value) (mq : List Int → Sp) (nd : Hp) (hN : Sub nd L) (hq : Meas N w0 g.h q cc mq nd) (h0 : toldL g.h ≠ []) :
    Ret Try.prog N w0 L 58 [.pointer (some ⟨g.b, 0, none⟩), .func (.func q) #[] cc.toArray].toArray (.agg [.int .i64 (jn ((toldL g.h).map mq)).1, .int .i64 (jn ((toldL g.h).map mq)).2].toArray) := by
  have hln : 0 < (toldL g.h).length := List.length_pos_iff.2 h0
  refine Ret.fgt ?_
  refine tri_of_WP Try.func58 rfl (n := 18) rfl (by simp) ?_
  have hhull := fun L pt hS hN => hull_ret N w0 L g pt hS hv hA q cc mq nd hN hq
  rw [decide_eq_true hln] at hhull
  have hsub : ∀ pt A, Sub (NdT pt g) ((pt, Blk 77 [.pointer (some ⟨g.b, 0, none⟩)]) :: (A :: L)) := by
    intro pt A
    obtain ⟨L0, hp⟩ := hS
    exact ⟨A :: L0, .cons _ ((hp.cons A).trans (List.perm_middle (l₁ := Bk g)).symm)⟩
  repeat' (first | (refine Znh ?_) | (refine GiW ?_; first | (refine Zsq fun K hK => ?_) | (refine ZrN 0 fun _ => ?_; refine Zal 4 fun b4 => ?_) | (refine ZrN 1 fun _ => ?_; refine Zv Zmv ?_; refine OPS_retKS (Enters_fn rfl) (told_tri N w0 _ g) rfl rfl rfl (fun v9 L9 h9 => ?_); obtain ⟨pt, rfl, rfl⟩ := h9; refine Zv Zmv ?_; refine Zv Zxbu ?_; refine Zcl (Enters_fn rfl) (hhull _ pt (hsub _ _) (by repeat (first | exact Sub.refl _ | assumption | exact Sub.left | apply Sub.cons | apply Sub.sv | apply Sub.app))) ?_; refine Zv Zmv ?_; refine Zv Zxex ?_; refine Zv Zxex ?_; refine Zal 5 fun b5 => ?_; refine Zst ?_; refine Zv Zab ?_) | (refine ZrN 2 fun _ => ?_; refine Zv Zmb ?_; refine Zcl (Enters_fn rfl) (must_ok N w0 _ _) ?_) | (refine ZrN 3 fun _ => ?_; refine Zv Zla ?_; refine Zst ?_) | (with_reducible apply WP_ret)))
  exact QBody_res rfl (.cellN rfl (by repeat (first | exact Mem.here | assumption | apply Mem.there | apply Mem.sv | apply Mem.app)) (.here (.cons (.cons .nil))) .nil) rfl ⟨rfl, (by repeat (first | exact Wk.refl _ | apply Wk.keep1 | apply Wk.drop | apply Wk.sv | apply Wk.svD | apply Wk.appD))⟩
theorem span_no (L : Hp) (g : Bg) (hS : Sub (Bk g) L) (hv : VH g.h) (hA : HeapAt N w0 g) (q : FuncId) [HasBody Try.prog q] (cc : List Value) (mq : List Int → Sp) (nd : Hp) (hN : Sub nd L) (hq : Meas N w0 g.h q cc mq nd) (h0 : toldL g.h = []) :
    Tri Try.prog N w0 L 58 [.pointer (some ⟨g.b, 0, none⟩), .func (.func q) #[] cc.toArray].toArray fun x L' => x = .panicked (stopE 10) ∧ L' = L := by
  refine Tri.pan ?_
  refine tri_of_WP Try.func58 rfl (n := 18) rfl (by simp) ?_
  have hhull := fun L pt hS hN => hull_ret N w0 L g pt hS hv hA q cc mq nd hN hq
  have hsub : ∀ pt A, Sub (NdT pt g) ((pt, Blk 77 [.pointer (some ⟨g.b, 0, none⟩)]) :: (A :: L)) := by
    intro pt A
    obtain ⟨L0, hp⟩ := hS
    exact ⟨A :: L0, .cons _ ((hp.cons A).trans (List.perm_middle (l₁ := Bk g)).symm)⟩
  rw [decide_eq_false (by rw [h0]; simp)] at hhull
  repeat' (first | (refine Znh ?_) | (refine GiW ?_; first | (refine Zsq fun K hK => ?_) | (refine ZrN 0 fun _ => ?_; refine Zal 4 fun b4 => ?_) | (refine ZrN 1 fun _ => ?_; refine Zv Zmv ?_; refine OPS_retKS (Enters_fn rfl) (told_tri N w0 _ g) rfl rfl rfl (fun v9 L9 h9 => ?_); obtain ⟨pt, rfl, rfl⟩ := h9; refine Zv Zmv ?_; refine Zv Zxbu ?_; refine Zcl (Enters_fn rfl) (hhull _ pt (hsub _ _) (by repeat (first | exact Sub.refl _ | assumption | exact Sub.left | apply Sub.cons | apply Sub.sv | apply Sub.app))) ?_; refine Zv Zmv ?_; refine Zv Zxex ?_; refine Zv Zxex ?_; refine Zal 5 fun b5 => ?_; refine Zst ?_; refine Zv Zab ?_) | (refine ZrN 2 fun _ => ?_; refine Zv Zmb ?_; refine OPS_pan (Enters_fn rfl) (must_no N w0 _ _) rfl rfl ?_)) | (refine Zhp ?_))
  exact QBody_panic ⟨rfl, (by repeat (first | exact Wk.refl _ | apply Wk.keep1 | apply Wk.drop | apply Wk.sv | apply Wk.svD | apply Wk.appD))⟩
end
end Go.Proofs.Ytlpahkmfjpjheaa
end

section
namespace Go.Proofs.Ytlpahkmfjpjheaa
open Go.RowKit
theorem outer_sm (h : Hv) (r : List Int) (i : Int) (looks : Nat) (t : Tf) (ht : 0 ≤ t.lo ∧ t.lo ≤ 200) : ∀ (m : Nat) (s : Sp), m ≤ 200 → (-1000 ≤ s.1 ∧ s.1 ≤ 1000) → (-1000 ≤ s.2 ∧ s.2 ≤ 1000) → (-1000 ≤ (outer h r i looks t m s).1 ∧ (outer h r i looks t m s).1 ≤ 1000) ∧ (-1000 ≤ (outer h r i looks t m s).2 ∧ (outer h r i looks t m s).2 ≤ 1000)
  | 0, s, _, h1, h2 => ⟨h1, h2⟩
  | m + 1, s, hm, h1, h2 => by
    unfold outer
    split
    · exact outer_sm h r i looks t ht m _ (by omega) h1 (by dsimp only; omega)
    · split
      · exact ⟨h1, h2⟩
      · exact outer_sm h r i looks t ht m _ (by omega) (by dsimp only; omega) h2
theorem firstS_sm {h : Hv} (hv : VH h) (r : List Int) (i looks : Nat) : (-1000 ≤ (firstS h r i looks).1 ∧ (firstS h r i looks).1 ≤ 1000) ∧ (-1000 ≤ (firstS h r i looks).2 ∧ (firstS h r i looks).2 ≤ 1000) := by
  unfold firstS
  cases hg : h.heaps[i]? with
  | none => dsimp only; omega
  | some t =>
    dsimp only
    have htv := hv.tf t (List.mem_of_getElem? hg)
    unfold firstT
    dsimp only
    split
    · dsimp only; omega
    · exact outer_sm h r i looks t (by omega) _ _ (by omega) (by dsimp only; omega) (by dsimp only; omega)
/-- How wet it can be in the evening of a day, under rains. -/
def wetT (h : Hv) (i : Nat) (t : Tf) (day : Nat) (r : List Int) : Sp := (evening h t.place (firstS h r i (evL h)).1 (r.take (day + 1)), evening h t.place (firstS h r i (evL h)).2 (r.take (day + 1)))
def wetR (h : Hv) (i day : Nat) (r : List Int) : Sp := match h.heaps[i]? with
  | some t => wetT h i t day r
  | none => (0, 0)
attribute [local irreducible] AnyO AnyB QAny QB EWalk AWalk Ev WP OPS QThen QBlock QScope QLoop QBody Val New Turn Tri Enters PostA Blk Ro
section
variable (N : Nat) (w0 : World)
def WetNd (b1 b2 b3 b4 : Nat) (g : Bg) (heap day : Nat) : Hp := (b1, Blk 77 [.pointer (some ⟨g.b, 0, none⟩)]) :: (b2, Blk 3 [.int .i64 heap]) :: (b3, Blk 3 [.int .i64 day]) :: (b4, Blk 113 [.func (.func 89) #[] #[]]) :: Bk g
theorem wetNd_sub (g : Bg) (heap day : Nat) (L : Hp) (hS : Sub (Bk g) L) (b3 b4 b5 b6 b7 : Nat) (φ : Obj → Prop) : Sub (WetNd b3 b4 b5 b7 g heap day) ((b7, Blk 113 [.func (.func 89) #[] #[]]) :: (b6, φ) :: (b5, Blk 3 [.int .i64 day]) :: (b4, Blk 3 [.int .i64 heap]) :: (b3, Blk 77 [.pointer (some ⟨g.b, 0, none⟩)]) :: L) := by
  unfold WetNd
  exact (by repeat (first | exact Sub.refl _ | assumption | exact Sub.left | (with_reducible refine Sub.pick (by repeat (first | exact Pick.here | apply Pick.there)) ?_) | apply Sub.cons | apply Sub.sv | apply Sub.app))
set_option maxHeartbeats 4000000 in
theorem wet_meas (g : Bg) (hv : VH g.h) (hA : HeapAt N w0 g) (heap day : Nat) (hh : heap < g.h.heaps.length) (hd : day < g.h.rains.length) (b1 b2 b3 b4 : Nat) :
    Meas N w0 g.h 90 [.pointer (some ⟨b1, 0, none⟩), .pointer (some ⟨b2, 0, none⟩), .pointer (some ⟨b3, 0, none⟩), .pointer (some ⟨b4, 0, none⟩)] (wetR g.h heap day) (WetNd b1 b2 b3 b4 g heap day) := by
  intro r0 r1 r2 r3 r4 r5 hr L hS
  obtain ⟨q0, q1, q2, q3, q4, q5, hq, hb⟩ := rowsL_six hv (List.mem_filter.1 hr).1
  injection hq with e0 hq; injection hq with e1 hq; injection hq with e2 hq; injection hq with e3 hq; injection hq with e4 hq; injection hq with e5 hq
  subst e0 e1 e2 e3 e4 e5
  obtain ⟨t, ht⟩ : ∃ t, g.h.heaps[heap] = t := ⟨_, rfl⟩
  have htv := hv.tf t (by rw [← ht]; exact List.getElem_mem hh)
  obtain ⟨bA, oA, hA1, hbA, hcA⟩ := hA.heaps.row heap hh
  rw [ht] at hcA
  have hwr : wetR g.h heap day [r0, r1, r2, r3, r4, r5] = wetT g.h heap t day [r0, r1, r2, r3, r4, r5] := by
    unfold wetR; rw [List.getElem?_eq_getElem hh, ht]
  rw [hwr]
  unfold wetT
  obtain ⟨rs, hrs⟩ : ∃ rs, [r0, r1, r2, r3, r4, r5].take (day + 1) = rs := ⟨_, rfl⟩
  obtain ⟨s, hs⟩ : ∃ s, firstS g.h [r0, r1, r2, r3, r4, r5] heap (evL g.h) = s := ⟨_, rfl⟩
  have hsm := firstS_sm hv [r0, r1, r2, r3, r4, r5] heap (evL g.h)
  have hnr := hv.nr
  have hnl := hv.nl
  have hnh := hv.nh
  have hev : evL g.h ≤ 31 := by unfold evL; have := Nat.pow_le_pow_right (n := 2) (by omega) hnl; omega
  have hrl : rs.length ≤ 100 := by rw [← hrs, List.length_take]; simp; omega
  have hrb : ∀ r ∈ rs, 0 ≤ r ∧ r ≤ 100 := by
    intro r hr'
    rw [← hrs] at hr'
    have := List.mem_of_mem_take hr'
    simp only [List.mem_cons, List.not_mem_nil, or_false] at this
    rcases this with rfl | rfl | rfl | rfl | rfl | rfl <;> omega
  have hfst := fun L hS => Ret.sub (B := Bk g) (L := L) hS (fun L0 => first_ret N w0 L0 g hv hA r0 r1 r2 r3 r4 r5 hb heap (evL g.h) hh hev)
  rw [hs] at hfst hsm
  dsimp only
  rw [hs, hrs]
  refine Ret.sub hS fun L0 => ?_
  refine Ret.fgt ?_
  refine tri_of_WP Try.func90 rfl (n := 42) rfl (by simp) ?_
  simp only [WetNd, List.cons_append]
  repeat' (first | (refine GiP ?_; first | (refine Znh ?_) | (with_reducible refine Znl ?_) | (refine Zatd 28 ?_; refine OPS_retKS (Enters_fn rfl) (days_ret' N w0 _ g (by repeat (first | exact Mem.here | assumption | apply Mem.there | apply Mem.sv | apply Mem.app)) r0 r1 r2 r3 r4 r5 day (by omega) (by omega) rs hrs) rfl rfl rfl (fun v28 L28 hK28 => ?_); obtain ⟨s28, rfl, hs28, rfl⟩ := hK28) | (refine Zatd 7 ?_; refine Zal 7 fun b7 => ?_) | (refine Zatd 8 ?_; refine Zal 8 fun b8 => ?_) | (refine Zatn ?_; refine Zst ?_) | (refine Zatd 9 ?_; refine Zv Zav ?_)) | (refine GiW ?_; first | (refine Zsq fun K hK => ?_) | (refine ZrN 0 fun _ => ?_; refine Zal 5 fun b5 => ?_; refine Zal 6 fun b6 => ?_) | (with_reducible apply WP_ret) | (refine WP_drawnF (id := 1) [0, 1, 2, 3, 4, 5, 6, 7, 8, 9, 10, 11, 12, 13, 14, 15, 16, 17] [0, 1, 2, 3, 4, 5, 6, 7, 8, 9, 10, 11, 12, 13, 14, 15, 16, 17] [] (k := 6) prog_mixed (by kernel_rfl) (by kernel_rfl) rfl ?_; refine Zew rfl Zld ?_; (first | (refine Zew rfl Zxnp ?_) | (refine Zew rfl Zxnf ?_)); refine Zew rfl Zf0 ?_; refine Zew rfl Zf0 ?_; refine Zew rfl Zld ?_; refine Zew rfl Zld ?_; refine Zew rfl Zia ?_; refine Zew rfl Zla ?_; refine Zew rfl Zld ?_; refine Zew rfl Zla ?_; refine Zew rfl Zld ?_; refine Zew rfl Zld ?_; refine Zec rfl (Enters_fn rfl) (fun X => every_ret N w0 _ g (by repeat (first | exact Mem.here | assumption | apply Mem.there | apply Mem.sv | apply Mem.app)) hnl) ?_; refine Zew rfl Zxbu ?_; refine Zec rfl (Enters_fn rfl) (fun X => hfst _ (by repeat (first | exact Sub.refl _ | assumption | exact Sub.left | apply Sub.cons | apply Sub.sv | apply Sub.app))) ?_; refine Zew rfl Zld ?_; refine Zew rfl Zla ?_; refine Zew rfl Zld ?_) | (refine WP_drawn (id := 2) [0, 1, 2, 3, 4, 5, 6, 7, 8, 9, 10, 11, 12] [] (k := 1) prog_mixed (by kernel_rfl) rfl ?_; refine Zew rfl Zld ?_; refine Zew rfl Zla ?_; refine Zew rfl Zf0 ?_; refine Zew rfl Zld ?_; refine Zew rfl Zmv ?_; refine Zec rfl (Enters_val rfl rfl) (fun X => evening_sv N w0 g.h hv.dries t.place t.lo t.hi _ rs htv.1 (by omega) hrb hrl hs28 (by repeat (first | exact Wk.refl _ | apply Wk.keep1 | apply Wk.drop | apply Wk.sv | apply Wk.svD | apply Wk.appD))) ?_; refine Zew rfl Zld ?_; refine Zew rfl Zla ?_; refine Zew rfl Zfa ?_; refine Zew rfl Zld ?_; refine Zew rfl Zmv ?_; refine Zec rfl (Enters_val rfl rfl) (fun X => evening_sv N w0 g.h hv.dries t.place t.lo t.hi _ rs htv.1 (by omega) hrb hrl hs28 (by repeat (first | exact Wk.refl _ | apply Wk.keep1 | apply Wk.drop | apply Wk.sv | apply Wk.svD | apply Wk.appD))) ?_; refine Zew rfl Zxbu ?_)) | (with_reducible apply EWalk_nil) | (refine GiB ?_; first | (refine AnyB_done (by repeat (first | exact Sub.refl _ | assumption | exact Sub.left | apply Sub.sv | apply Sub.cons | apply Sub.app)) (by kernel_rfl) ?_) | (refine AnyB_1 18 (by repeat (first | exact Sub.refl _ | assumption | exact Sub.left | apply Sub.sv | apply Sub.cons | apply Sub.app)) (by decide +kernel) rfl ?_) | (refine AnyB_2 18 19 (by repeat (first | exact Sub.refl _ | assumption | exact Sub.left | apply Sub.sv | apply Sub.cons | apply Sub.app)) (by decide +kernel) rfl rfl ?_ ?_) | (refine AnyB_3 18 19 20 (by repeat (first | exact Sub.refl _ | assumption | exact Sub.left | apply Sub.sv | apply Sub.cons | apply Sub.app)) (by decide +kernel) rfl rfl rfl ?_ ?_ ?_) | (refine AnyB_2 18 20 (by repeat (first | exact Sub.refl _ | assumption | exact Sub.left | apply Sub.sv | apply Sub.cons | apply Sub.app)) (by decide +kernel) rfl rfl ?_ ?_) | (refine AnyB_1 19 (by repeat (first | exact Sub.refl _ | assumption | exact Sub.left | apply Sub.sv | apply Sub.cons | apply Sub.app)) (by decide +kernel) rfl ?_) | (refine AnyB_2 19 20 (by repeat (first | exact Sub.refl _ | assumption | exact Sub.left | apply Sub.sv | apply Sub.cons | apply Sub.app)) (by decide +kernel) rfl rfl ?_ ?_) | (refine AnyB_1 20 (by repeat (first | exact Sub.refl _ | assumption | exact Sub.left | apply Sub.sv | apply Sub.cons | apply Sub.app)) (by decide +kernel) rfl ?_) | (refine AnyB_1 21 (by repeat (first | exact Sub.refl _ | assumption | exact Sub.left | apply Sub.sv | apply Sub.cons | apply Sub.app)) (by decide +kernel) rfl ?_) | (refine AnyB_1 22 (by repeat (first | exact Sub.refl _ | assumption | exact Sub.left | apply Sub.sv | apply Sub.cons | apply Sub.app)) (by decide +kernel) rfl ?_) | (refine AnyB_1 23 (by repeat (first | exact Sub.refl _ | assumption | exact Sub.left | apply Sub.sv | apply Sub.cons | apply Sub.app)) (by decide +kernel) rfl ?_)) | (refine GiO ?_; first | (refine AnyO_done (by kernel_rfl) ?_; (try with_reducible apply noP_normal); try with_reducible exact key.out) | (refine AnyO_1 13 (by decide +kernel) rfl ?_)) | (refine Zhn ?_) | (refine AWalk_0 ?_) | (with_reducible apply QB_normal) | (with_reducible apply QAny_normal))
  all_goals exact QBody_res rfl (.cellN rfl (by repeat (first | exact Mem.here | assumption | apply Mem.there | apply Mem.sv | apply Mem.app)) (.here (.cons (.cons .nil))) .nil) rfl ⟨rfl, (by repeat (first | exact Wk.refl _ | apply Wk.keep1 | apply Wk.drop | apply Wk.sv | apply Wk.svD | apply Wk.appD))⟩
theorem wet_ret (L : Hp) (g : Bg) (hS : Sub (Bk g) L) (hv : VH g.h) (hA : HeapAt N w0 g) (heap day : Nat) (hh : heap < g.h.heaps.length) (hd : day < g.h.rains.length) (h0 : toldL g.h ≠ []) :
    Ret Try.prog N w0 L 51 [.pointer (some ⟨g.b, 0, none⟩), .int .i64 heap, .int .i64 day].toArray (.agg [.int .i64 (jn ((toldL g.h).map (wetR g.h heap day))).1, .int .i64 (jn ((toldL g.h).map (wetR g.h heap day))).2].toArray) := by
  refine Ret.fgt ?_
  refine tri_of_WP Try.func51 rfl (n := 11) rfl (by simp) ?_
  have hsp := fun b1 b2 b3 b4 L hS hN => span_ret N w0 L g hS hv hA 90 _ _ (WetNd b1 b2 b3 b4 g heap day) hN (wet_meas N w0 g hv hA heap day hh hd b1 b2 b3 b4) h0
  have hsub : ∀ b3 b4 b5 b6 b7 : Nat, ∀ φ, Sub (WetNd b3 b4 b5 b7 g heap day) ((b7, Blk 113 [.func (.func 89) #[] #[]]) :: (b6, φ) :: (b5, Blk 3 [.int .i64 day]) :: (b4, Blk 3 [.int .i64 heap]) :: (b3, Blk 77 [.pointer (some ⟨g.b, 0, none⟩)]) :: L) := wetNd_sub g heap day L hS
  repeat' (first | (refine Znh ?_) | (refine GiW ?_; first | (refine Zsq fun K hK => ?_) | (refine ZrN 0 fun _ => ?_; refine Zal 3 fun b3 => ?_; refine Zal 4 fun b4 => ?_; refine Zal 5 fun b5 => ?_; refine Zal 6 fun b6 => ?_) | (refine ZrN 1 fun _ => ?_; refine Zal 7 fun b7 => ?_; refine Zst ?_) | (refine ZrN 2 fun _ => ?_; refine Zv Zld ?_; refine Zv Val_makeFunc ?_; refine Zcl (Enters_fn rfl) (hsp b3 b4 b5 b7 _ (by repeat (first | exact Sub.refl _ | assumption | exact Sub.left | apply Sub.cons | apply Sub.sv | apply Sub.app)) (hsub _ _ _ _ _ _)) ?_; refine Zst ?_) | (with_reducible apply WP_ret)))
  exact QBody_res rfl (.cellN rfl (by repeat (first | exact Mem.here | assumption | apply Mem.there | apply Mem.sv | apply Mem.app)) (.here (.cons (.cons .nil))) .nil) rfl ⟨rfl, (by repeat (first | exact Wk.refl _ | apply Wk.keep1 | apply Wk.drop | apply Wk.sv | apply Wk.svD | apply Wk.appD))⟩
theorem wet_no (L : Hp) (g : Bg) (hS : Sub (Bk g) L) (hv : VH g.h) (hA : HeapAt N w0 g) (heap day : Nat) (hh : heap < g.h.heaps.length) (hd : day < g.h.rains.length) (h0 : toldL g.h = []) :
    Tri Try.prog N w0 L 51 [.pointer (some ⟨g.b, 0, none⟩), .int .i64 heap, .int .i64 day].toArray fun x L' => x = .panicked (stopE 10) ∧ L' = L := by
  refine Tri.pan ?_
  refine tri_of_WP Try.func51 rfl (n := 11) rfl (by simp) ?_
  have hsp := fun b1 b2 b3 b4 L hS hN => span_no N w0 L g hS hv hA 90 _ _ (WetNd b1 b2 b3 b4 g heap day) hN (wet_meas N w0 g hv hA heap day hh hd b1 b2 b3 b4) h0
  have hsub : ∀ b3 b4 b5 b6 b7 : Nat, ∀ φ, Sub (WetNd b3 b4 b5 b7 g heap day) ((b7, Blk 113 [.func (.func 89) #[] #[]]) :: (b6, φ) :: (b5, Blk 3 [.int .i64 day]) :: (b4, Blk 3 [.int .i64 heap]) :: (b3, Blk 77 [.pointer (some ⟨g.b, 0, none⟩)]) :: L) := wetNd_sub g heap day L hS
  repeat' (first | (refine Znh ?_) | (refine GiW ?_; first | (refine Zsq fun K hK => ?_) | (refine ZrN 0 fun _ => ?_; refine Zal 3 fun b3 => ?_; refine Zal 4 fun b4 => ?_; refine Zal 5 fun b5 => ?_; refine Zal 6 fun b6 => ?_) | (refine ZrN 1 fun _ => ?_; refine Zal 7 fun b7 => ?_; refine Zst ?_) | (refine ZrN 2 fun _ => ?_; refine Zv Zld ?_; refine Zv Val_makeFunc ?_; refine OPS_pan (Enters_fn rfl) (hsp b3 b4 b5 b7 _ (by repeat (first | exact Sub.refl _ | assumption | exact Sub.left | apply Sub.cons | apply Sub.sv | apply Sub.app)) (hsub _ _ _ _ _ _)) rfl rfl ?_)) | (refine Zhp ?_))
  exact QBody_panic ⟨rfl, (by repeat (first | exact Wk.refl _ | apply Wk.keep1 | apply Wk.drop | apply Wk.sv | apply Wk.svD | apply Wk.appD))⟩
end
end Go.Proofs.Ytlpahkmfjpjheaa
end

section
namespace Go.Proofs.Ytlpahkmfjpjheaa
open Go.RowKit
/-- How wet a heap can be in the evening of a day. -/
def wetS (h : Hv) (i day : Nat) : Sp := jn ((toldL h).map (wetR h i day))
/-- The wettest of some heaps. -/
def wettest (h : Hv) (day : Nat) (xs : List Nat) : Int := xs.foldl (fun m i => max m (wetS h i day).2) 0
theorem wettest_snoc (h : Hv) (day : Nat) (xs : List Nat) (k : Nat) (hk : k < xs.length) : wettest h day (xs.take (k + 1)) = max (wettest h day (xs.take k)) (wetS h xs[k] day).2 := by
  unfold wettest
  rw [List.take_succ_eq_append_getElem hk, List.foldl_append]
  rfl
def dryDay (h : Hv) (xs : List Nat) (d : Nat) : Bool := decide (wettest h d xs ≤ h.limit)
/-- The first day, if there is one. -/
def whenD (h : Hv) (xs : List Nat) : Option Nat := (List.range h.rains.length).find? (dryDay h xs)
theorem whenD_some {h : Hv} {xs : List Nat} {d : Nat} (hd : d < h.rains.length) (h1 : dryDay h xs d = true) (h2 : ∀ k, k < d → dryDay h xs k = false) : whenD h xs = some d := by
  unfold whenD
  rw [List.find?_eq_some_iff_append]
  refine ⟨h1, List.range d, (List.range (h.rains.length - d - 1)).map (d + 1 + ·), ?_, ?_⟩
  · apply List.ext_getElem
    · simp; omega
    · intro k hk hk2
      simp only [List.getElem_range]
      by_cases hlt : k < d
      · rw [List.getElem_append_left (by simpa using hlt)]; simp
      · rw [List.getElem_append_right (by simp; omega)]
        simp only [List.length_range]
        by_cases he : k = d
        · subst he; simp
        · rw [List.getElem_cons, dif_neg (by omega)]
          simp; omega
  · intro x hx
    have := h2 x (by simpa using hx)
    simp [this]
theorem whenD_none {h : Hv} {xs : List Nat} (h2 : ∀ k, k < h.rains.length → dryDay h xs k = false) : whenD h xs = none := by
  unfold whenD
  rw [List.find?_eq_none]
  intro x hx
  have := h2 x (by simpa using hx)
  simp [this]
attribute [local irreducible] AnyO AnyB QAny QB EWalk AWalk Ev WP OPS QThen QBlock QScope QLoop QBody Val New Turn Tri Enters PostA Blk Ro
section
variable (N : Nat) (w0 : World)
theorem when_tri (L : Hp) (g : Bg) (hS : Sub (Bk g) L) (hv : VH g.h) (hA : HeapAt N w0 g) (h0 : toldL g.h ≠ []) (xs : List Nat) (hx : ∀ i ∈ xs, i < g.h.heaps.length) (hxl : xs.length ≤ 100) (b c : Nat) (cells : List Value) (hb : Mem b (Blk 3 cells) L) (hcl : ∀ k (h : k < xs.length), cells[k]? = some (.int .i64 xs[k])) :
    Tri Try.prog N w0 L 65 [.pointer (some ⟨g.b, 0, none⟩), .slice (some ⟨b, 0, none⟩) xs.length c].toArray fun x L' => L' = L ∧ x = match whenD g.h xs with
      | some d => .returned (.int .i64 d)
      | none => .panicked (stopE 4) := by
  have hnr := hv.nr
  refine Tri.fgt ?_
  refine tri_of_WP Try.func65 rfl (n := 49) rfl (by simp) ?_
  have hmb : Mem g.b (Blk 94 (bogL g)) L := hS.mem .here
  repeat' (first | (refine Znh ?_) | (refine GiW ?_; first | (refine Zsq fun K hK => ?_) | (refine ZrN 0 fun _ => ?_; refine Zv Zai ?_) | (refine ZrN 1 fun _ => ?_; refine Zv Zai ?_) | (refine ZrN 2 fun _ => ?_; refine Zv Zmv ?_; (first | (refine Zv Zxnp ?_) | (refine Zv Zxnf ?_)); refine Zv Zf0 ?_; refine Zv Zfa ?_; refine Zv Zld ?_; refine Zv Zxlen ?_; refine Zv Zmi ?_) | (with_reducible apply WP_block)))
  refine WP_loop [4, 5, 6, 8, 15, 16, 17, 18, 19, 20, 21, 22, 23, 24, 25, 26, 27, 28, 29, 30, 31, 32, 33, 34, 35, 36, 37, 38, 39, 40] (fun st : Nat × Int => [(15, .int .i64 st.1), (5, .int .i64 st.2)]) (fun _ => L) (fun st => st.1 ≤ g.h.rains.length ∧ (∀ k, k < st.1 → dryDay g.h xs k = false) ∧ (0 < st.1 → ¬ st.2 ≤ g.h.limit)) (fun st => g.h.rains.length - st.1) (0, 0) (.cons rfl (.cons rfl .nil)) (Wk.refl _) ⟨Nat.zero_le _, (fun k hk => by omega), (fun h => by omega)⟩ ?_
  rintro ⟨d, m⟩ j ⟨hd, hno, hlast⟩
  dsimp only at hd hno hlast ⊢
  by_cases hlt : d < g.h.rains.length
  · repeat' (first | (refine Znh ?_) | (refine GiW ?_; first | (refine Zsq fun K hK => ?_) | (refine ZrN 3 fun _ => ?_; refine Zv Zxlss ?_) | (refine ZrN 4 fun _ => ?_; refine Zv Zmi ?_; refine Zv Zai ?_) | (refine ZrN 5 fun _ => ?_; refine Zv Zai ?_) | (refine ZrN 6 fun _ => ?_; refine Zv Zmv ?_; refine Zv Zxlen ?_; refine Zv Zmi ?_) | (refine Zcd (fun hc => ?_) (fun hc => ?_) <;> (try (exfalso; omega))) | (with_reducible apply WP_skip) | (with_reducible apply WP_block)) | (refine Zhn ?_))
    refine WP_loop [5, 8, 20, 21, 22, 23, 24, 25, 26, 27, 28, 29, 30, 31] (fun k : Nat => [(20, .int .i64 k), (5, .int .i64 (wettest g.h d (xs.take k)))]) (fun _ => L) (fun k => k ≤ xs.length) (fun k => xs.length - k) 0 (.cons rfl (.cons rfl .nil)) (Wk.refl _) (Nat.zero_le _) ?_
    intro k j2 hk
    by_cases hkl : k < xs.length
    · have hcell : cells[0 + k]? = some (.int .i64 xs[k]) := by rw [Nat.zero_add]; exact hcl k hkl
      have hsn := wettest_snoc g.h d xs k hkl
      have hwet := fun L hS => wet_ret N w0 L g hS hv hA xs[k] d (hx _ (List.getElem_mem hkl)) hlt h0
      repeat' (first | (refine GiP ?_; first | (refine Znh ?_) | (with_reducible refine Znl ?_)) | (refine GiW ?_; first | (refine Zsq fun K hK => ?_) | (refine ZrN 7 fun _ => ?_; refine Zv Zxlss ?_) | (refine ZrN 8 fun _ => ?_; refine Zv Zia ?_; refine Zv Zld ?_; refine Zv Zai ?_) | (refine ZrN 9 fun _ => ?_; refine Zv Zmi ?_; refine Zv Zmv ?_; refine Zv Zmi ?_; refine Zv Zmi ?_; refine Zcl (Enters_fn rfl) (hwet _ (by repeat (first | exact Sub.refl _ | assumption | exact Sub.left | apply Sub.cons | apply Sub.sv | apply Sub.app))) ?_; refine Zv Zxfi ?_; refine Zv Zxmax ?_; refine Zv Zai ?_) | (refine ZrN 10 fun _ => ?_; refine Zv Zxadd ?_; refine Zv Zmi ?_) | (refine Zcd (fun hc => ?_) (fun hc => ?_) <;> (try (exfalso; omega))) | (with_reducible apply WP_skip) | (with_reducible apply WP_block)) | (refine Zhn ?_) | (with_reducible apply QBlock_normal))
      exact QLoop_normal (k + 1) (.cons rfl (.cons (by rw [hsn]; rfl) .nil)) (by repeat (first | exact Off.frame rfl | exact Off.refl _ _ | refine Off.frameT rfl rfl ?_ | refine Off.upd rfl ?_ | refine Off.updO rfl ?_)) (by repeat (first | exact Wk.refl _ | apply Wk.keep1 | apply Wk.drop | apply Wk.sv | apply Wk.svD | apply Wk.appD)) (by omega) (by omega)
    · have hke : k = xs.length := by omega
      subst hke
      repeat' (first | (refine GiP ?_; first | (refine Znh ?_) | (with_reducible refine Znl ?_)) | (refine GiW ?_; first | (refine Zsq fun K hK => ?_) | (refine ZrN 7 fun _ => ?_; refine Zv Zxlss ?_) | (refine ZrN 11 fun _ => ?_; refine Zv Zmi ?_; refine Zv Zmv ?_; (first | (refine Zv Zxnp ?_) | (refine Zv Zxnf ?_)); refine Zv Zf0 ?_; refine Zv Zfa ?_; refine Zv Zld ?_; refine Zv Zxleq ?_) | (refine ZrN 12 fun _ => ?_; refine Zv Zmi ?_; refine Zv Zai ?_) | (refine ZrN 13 fun _ => ?_; refine Zv Zxadd ?_; refine Zv Zmi ?_) | (refine Zcd (fun hc => ?_) (fun hc => ?_) <;> (try (exfalso; omega))) | (with_reducible apply WP_skip) | (with_reducible apply WP_exit) | (with_reducible apply WP_ret)) | (refine Zhn ?_) | (with_reducible apply QBlock_normal) | (refine Zhx ?_) | (with_reducible apply QBlock_hit) | (with_reducible apply QLoop_exit) | (refine Zhr ?_) | (with_reducible apply QBlock_ret) | (with_reducible apply QLoop_ret))
      · have hdd : dryDay g.h xs d = true := by rw [List.take_length] at hc; exact decide_eq_true hc
        refine QBody_ret1 rfl (rfl : _ = Value.int _ _) ⟨L, (by repeat (first | exact Wk.refl _ | apply Wk.keep1 | apply Wk.drop | apply Wk.sv | apply Wk.svD | apply Wk.appD)), rfl, ?_⟩
        rw [whenD_some hlt hdd hno]
      · rw [List.take_length] at hc ⊢
        refine QLoop_normal (d + 1, wettest g.h d xs) (.cons rfl (.cons rfl .nil)) (by repeat (first | exact Off.frame rfl | exact Off.refl _ _ | refine Off.frameT rfl rfl ?_ | refine Off.upd rfl ?_ | refine Off.updO rfl ?_)) (by repeat (first | exact Wk.refl _ | apply Wk.keep1 | apply Wk.drop | apply Wk.sv | apply Wk.svD | apply Wk.appD)) ⟨by dsimp only; omega, ?_, fun _ => hc⟩ (by dsimp only; omega)
        intro k hk
        rcases Nat.lt_succ_iff_lt_or_eq.1 hk with h1 | rfl
        · exact hno k h1
        · exact decide_eq_false hc
  · have hdn : d = g.h.rains.length := by omega
    have hml : ¬ m ≤ g.h.limit := hlast (by omega)
    have hmn : ∀ L, Tri Try.prog N w0 L 82 [.bool (decide (m ≤ g.h.limit)), .int .i64 4].toArray fun x L' => x = .panicked (stopE 4) ∧ L' = L := by
      intro L; rw [decide_eq_false hml]; exact must_no N w0 L 4
    repeat' (first | (refine Znh ?_) | (refine GiW ?_; first | (refine Zsq fun K hK => ?_) | (refine ZrN 3 fun _ => ?_; refine Zv Zxlss ?_) | (refine ZrN 14 fun _ => ?_; refine Zv Zmi ?_; refine Zv Zmv ?_; (first | (refine Zv Zxnp ?_) | (refine Zv Zxnf ?_)); refine Zv Zf0 ?_; refine Zv Zfa ?_; refine Zv Zld ?_; refine Zv Zxleq ?_; refine OPS_pan (Enters_fn rfl) (hmn _) rfl rfl ?_) | (refine Zcd (fun hc => ?_) (fun hc => ?_) <;> (try (exfalso; omega))) | (with_reducible apply WP_exit)) | (refine Zhn ?_) | (refine Zhx ?_) | (with_reducible apply QBlock_hit) | (with_reducible apply QLoop_exit) | (refine Zhp ?_))
    refine QBody_panic ⟨L, (by repeat (first | exact Wk.refl _ | apply Wk.keep1 | apply Wk.drop | apply Wk.sv | apply Wk.svD | apply Wk.appD)), rfl, ?_⟩
    rw [whenD_none (fun k hk => hno k (by omega))]
theorem when_no (L : Hp) (g : Bg) (hS : Sub (Bk g) L) (hv : VH g.h) (hA : HeapAt N w0 g) (h0 : toldL g.h = []) (xs : List Nat) (hx : ∀ i ∈ xs, i < g.h.heaps.length) (hne : 0 < xs.length) (hxl : xs.length ≤ 100) (b c : Nat) (cells : List Value) (hb : Mem b (Blk 3 cells) L) (hcl : ∀ k (h : k < xs.length), cells[k]? = some (.int .i64 xs[k])) :
    Tri Try.prog N w0 L 65 [.pointer (some ⟨g.b, 0, none⟩), .slice (some ⟨b, 0, none⟩) xs.length c].toArray fun x L' => x = .panicked (stopE 10) ∧ L' = L := by
  have hnr := hv.nr
  refine Tri.pan ?_
  refine tri_of_WP Try.func65 rfl (n := 49) rfl (by simp) ?_
  have hmb : Mem g.b (Blk 94 (bogL g)) L := hS.mem .here
  repeat' (first | (refine Znh ?_) | (refine GiW ?_; first | (refine Zsq fun K hK => ?_) | (refine ZrN 0 fun _ => ?_; refine Zv Zai ?_) | (refine ZrN 1 fun _ => ?_; refine Zv Zai ?_) | (refine ZrN 2 fun _ => ?_; refine Zv Zmv ?_; (first | (refine Zv Zxnp ?_) | (refine Zv Zxnf ?_)); refine Zv Zf0 ?_; refine Zv Zfa ?_; refine Zv Zld ?_; refine Zv Zxlen ?_; refine Zv Zmi ?_) | (with_reducible apply WP_block)))
  refine WP_loop [4, 5, 6, 8, 15, 16, 17, 18, 19, 20, 21, 22, 23, 24, 25, 26, 27, 28, 29, 30, 31, 32, 33, 34, 35, 36, 37, 38, 39, 40] (fun _ : Unit => [(15, .int .i64 0), (5, .int .i64 0)]) (fun _ => L) (fun _ => True) (fun _ => 0) () (.cons rfl (.cons rfl .nil)) (Wk.refl _) trivial ?_
  rintro _ j -
  repeat' (first | (refine Znh ?_) | (refine GiW ?_; first | (refine Zsq fun K hK => ?_) | (refine ZrN 3 fun _ => ?_; refine Zv Zxlss ?_) | (refine ZrN 4 fun _ => ?_; refine Zv Zmi ?_; refine Zv Zai ?_) | (refine ZrN 5 fun _ => ?_; refine Zv Zai ?_) | (refine ZrN 6 fun _ => ?_; refine Zv Zmv ?_; refine Zv Zxlen ?_; refine Zv Zmi ?_) | (refine Zcd (fun hc => ?_) (fun hc => ?_) <;> (try (exfalso; omega))) | (with_reducible apply WP_skip) | (with_reducible apply WP_block)) | (refine Zhn ?_))
  refine WP_loop [5, 8, 20, 21, 22, 23, 24, 25, 26, 27, 28, 29, 30, 31] (fun _ : Unit => [(20, .int .i64 0), (5, .int .i64 0)]) (fun _ => L) (fun _ => True) (fun _ => 0) () (.cons rfl (.cons rfl .nil)) (Wk.refl _) trivial ?_
  rintro _ j2 -
  have hcell : cells[0 + 0]? = some (.int .i64 xs[0]) := hcl 0 hne
  have hwet := fun L hS => wet_no N w0 L g hS hv hA xs[0] 0 (hx _ (List.getElem_mem hne)) (by omega) h0
  repeat' (first | (refine Znh ?_) | (refine GiW ?_; first | (refine Zsq fun K hK => ?_) | (refine ZrN 7 fun _ => ?_; refine Zv Zxlss ?_) | (refine ZrN 8 fun _ => ?_; refine Zv Zia ?_; refine Zv Zld ?_; refine Zv Zai ?_) | (refine ZrN 9 fun _ => ?_; refine Zv Zmi ?_; refine Zv Zmv ?_; refine Zv Zmi ?_; refine Zv Zmi ?_; refine OPS_pan (Enters_fn rfl) (hwet _ (by repeat (first | exact Sub.refl _ | assumption | exact Sub.left | apply Sub.cons | apply Sub.sv | apply Sub.app))) rfl rfl ?_) | (refine Zcd (fun hc => ?_) (fun hc => ?_) <;> (try (exfalso; omega))) | (with_reducible apply WP_skip) | (with_reducible apply WP_block)) | (refine Zhn ?_) | (refine Zhp ?_) | (with_reducible apply QBlock_panic) | (with_reducible apply QLoop_panic))
  exact QBody_panic ⟨rfl, (by repeat (first | exact Wk.refl _ | apply Wk.keep1 | apply Wk.drop | apply Wk.sv | apply Wk.svD | apply Wk.appD))⟩
end
end Go.Proofs.Ytlpahkmfjpjheaa
end

section
namespace Go.Proofs.Ytlpahkmfjpjheaa
open Go.RowKit
section
variable {P : Program} {N : Nat} {w0 : World} {L : Hp} {e : Env} {d : Option Nat} {ty : TypeId} {pos : String} {af : Array Edge} {g : Option (Nat × Bool)}
theorem bv_and (n a b : Nat) (ha : a < 2 ^ n) (hb : b < 2 ^ n) : (BitVec.ofInt n (a : Int) &&& BitVec.ofInt n (b : Int)).toNat = a &&& b := by
  simp [BitVec.toNat_and, Nat.mod_eq_of_lt ha, Nat.mod_eq_of_lt hb]
theorem Val_addN {x y : Operand} {t t' : TypeId} {a b : Nat} (hx : ev e x = .int .u64 (a : Int)) (hy : ev e y = .int .u64 (b : Int)) (h : a + b < 2 ^ 64) : Val P N w0 L e ⟨d, .binOp .add t x y t', ty, pos, af, g⟩ (.int .u64 ((a + b : Nat) : Int)) := by
  rw [Int.natCast_add]
  refine Val_add hx hy ?_
  rw [← Int.natCast_add]
  exact wrap_nat rfl h
theorem Val_andS {x y : Operand} {t t' : TypeId} {a b : Nat} (hx : ev e x = .int .i64 (a : Int)) (hy : ev e y = .int .i64 (b : Int)) (ha : a < 2 ^ 63) (hb : b < 2 ^ 63) :
    Val P N w0 L e ⟨d, .binOp .and t x y t', ty, pos, af, g⟩ (.int .i64 ((a &&& b : Nat) : Int)) := by
  refine Val_bits hx hy rfl fun w => ?_
  have h1 : (BitVec.ofInt IntKind.i64.bits (a : Int) &&& BitVec.ofInt IntKind.i64.bits (b : Int)).toNat = a &&& b := bv_and _ a b (Nat.lt_trans ha (by decide)) (Nat.lt_trans hb (by decide))
  have h2 : a &&& b < 2 ^ 63 := Nat.and_lt_two_pow _ hb
  simp only [Op.intBits, h1, Sem.run_pure]
  have h3 : InK .i64 ((a &&& b : Nat) : Int) := InK_i64 (by omega) (by omega)
  unfold InK at h3
  rw [h3]
end
/-- How many of the lowest five bits are set. -/
def pc (x : Nat) : Nat := x % 2 + x / 2 % 2 + x / 4 % 2 + x / 8 % 2 + x / 16 % 2
namespace Ones
def M1 : Nat := 6148914691236517205
def M2 : Nat := 3689348814741910323
def M3 : Nat := 1085102592571150095
def g1 (x : Nat) : Nat := (x / 2 ^ 1 &&& 6148914691236517205) + (x &&& 6148914691236517205)
def g2 (x : Nat) : Nat := (x / 2 ^ 2 &&& 3689348814741910323) + (x &&& 3689348814741910323)
def g3 (x : Nat) : Nat := (x / 2 ^ 4 + x) &&& 1085102592571150095
def g4 (k x : Nat) : Nat := x + x / 2 ^ k
def all (x : Nat) : Nat := g4 32 (g4 16 (g4 8 (g3 (g2 (g1 x)))))
end Ones
open Ones in
theorem ones_sm {x : Nat} (hx : x < 32) : g1 x < 100 ∧ g2 (g1 x) < 100 ∧ g3 (g2 (g1 x)) < 100 ∧ g4 8 (g3 (g2 (g1 x))) < 100 ∧ g4 16 (g4 8 (g3 (g2 (g1 x)))) < 100 ∧ all x < 100 ∧ (all x &&& 127) = pc x :=
  (by decide : ∀ x : Nat, x < 32 → g1 x < 100 ∧ g2 (g1 x) < 100 ∧ g3 (g2 (g1 x)) < 100 ∧ g4 8 (g3 (g2 (g1 x))) < 100 ∧ g4 16 (g4 8 (g3 (g2 (g1 x)))) < 100 ∧ all x < 100 ∧ (all x &&& 127) = pc x) x hx
theorem div_sm {x y : Nat} (h : x < 100) : x / 2 ^ y < 100 := Nat.lt_of_le_of_lt (Nat.div_le_self _ _) h
attribute [local irreducible] AnyO AnyB QAny QB EWalk AWalk Ev WP OPS QThen QBlock QScope QLoop QBody Val New Turn Tri Enters PostA Blk Ro
section
variable (N : Nat) (w0 : World)
open Ones in
theorem ones64_ret (L : Hp) (x : Nat) (hx : x < 32) : Ret Try.prog N w0 L 101 [.int .u64 x].toArray (.int .i64 (pc x)) := by
  obtain ⟨h1, h2, h3, h4, h5, h6, h7⟩ := ones_sm hx
  have s : ∀ y : Nat, y < 100 → y < 2 ^ 64 := fun y h => by omega
  refine tri_of_WP Try.func101 rfl (n := 35) rfl (by simp) ?_
  rw [← h7]
  have h3a : g2 (g1 x) / 2 ^ 4 + g2 (g1 x) < 2 ^ 64 := Nat.lt_trans (Nat.add_lt_add (div_sm (y := 4) h2) h2) (by decide)
  have hc0 : InK .i64 ((all x : Nat) : Int) := InK_i64 (by omega) (by omega)
  have hx' : x < 100 := by omega
  have aL : ∀ a b : Nat, a < 100 → (a &&& b) < 100 := fun a b h => Nat.lt_of_le_of_lt Nat.and_le_left h
  repeat' (first | (refine Znh ?_) | (refine GiW ?_; first | (refine Zsq fun K hK => ?_) | (refine ZrN 0 fun _ => ?_; refine Zv Zai ?_) | (refine ZrN 1 fun _ => ?_; refine Zv Zmi ?_; refine Zv (Val_shr rfl rfl (by decide)) ?_; (first | (refine Zv (Val_and rfl rfl (rfl : _ = Value.int _ ((6148914691236517205 : Nat) : Int)) (s _ (by first | exact hx' | exact div_sm hx')) (by decide)) ?_) | (refine Zv (Val_and rfl rfl (rfl : _ = Value.int _ ((3689348814741910323 : Nat) : Int)) (s _ (by first | exact h1 | exact div_sm h1)) (by decide)) ?_) | (refine Zv (Val_and rfl rfl (rfl : _ = Value.int _ ((1085102592571150095 : Nat) : Int)) h3a (by decide)) ?_) | (refine Zv (Val_andS rfl (rfl : _ = Value.int _ ((127 : Nat) : Int)) (by exact Nat.lt_trans h6 (by decide)) (by decide)) ?_)); refine Zv Zmi ?_; (first | (refine Zv (Val_and rfl rfl (rfl : _ = Value.int _ ((6148914691236517205 : Nat) : Int)) (s _ (by first | exact hx' | exact div_sm hx')) (by decide)) ?_) | (refine Zv (Val_and rfl rfl (rfl : _ = Value.int _ ((3689348814741910323 : Nat) : Int)) (s _ (by first | exact h1 | exact div_sm h1)) (by decide)) ?_) | (refine Zv (Val_and rfl rfl (rfl : _ = Value.int _ ((1085102592571150095 : Nat) : Int)) h3a (by decide)) ?_) | (refine Zv (Val_andS rfl (rfl : _ = Value.int _ ((127 : Nat) : Int)) (by exact Nat.lt_trans h6 (by decide)) (by decide)) ?_)); refine Zv (Val_addN rfl rfl (by first | exact s _ h1 | exact s _ h2 | exact h3a | exact s _ h4 | exact s _ h5 | exact s _ h6)) ?_; refine Zv Zai ?_) | (refine ZrN 2 fun _ => ?_; refine Zv Zmi ?_; refine Zv (Val_shr rfl rfl (by decide)) ?_; (first | (refine Zv (Val_and rfl rfl (rfl : _ = Value.int _ ((6148914691236517205 : Nat) : Int)) (s _ (by first | exact hx' | exact div_sm hx')) (by decide)) ?_) | (refine Zv (Val_and rfl rfl (rfl : _ = Value.int _ ((3689348814741910323 : Nat) : Int)) (s _ (by first | exact h1 | exact div_sm h1)) (by decide)) ?_) | (refine Zv (Val_and rfl rfl (rfl : _ = Value.int _ ((1085102592571150095 : Nat) : Int)) h3a (by decide)) ?_) | (refine Zv (Val_andS rfl (rfl : _ = Value.int _ ((127 : Nat) : Int)) (by exact Nat.lt_trans h6 (by decide)) (by decide)) ?_)); refine Zv Zmi ?_; (first | (refine Zv (Val_and rfl rfl (rfl : _ = Value.int _ ((6148914691236517205 : Nat) : Int)) (s _ (by first | exact hx' | exact div_sm hx')) (by decide)) ?_) | (refine Zv (Val_and rfl rfl (rfl : _ = Value.int _ ((3689348814741910323 : Nat) : Int)) (s _ (by first | exact h1 | exact div_sm h1)) (by decide)) ?_) | (refine Zv (Val_and rfl rfl (rfl : _ = Value.int _ ((1085102592571150095 : Nat) : Int)) h3a (by decide)) ?_) | (refine Zv (Val_andS rfl (rfl : _ = Value.int _ ((127 : Nat) : Int)) (by exact Nat.lt_trans h6 (by decide)) (by decide)) ?_)); refine Zv (Val_addN rfl rfl (by first | exact s _ h1 | exact s _ h2 | exact h3a | exact s _ h4 | exact s _ h5 | exact s _ h6)) ?_; refine Zv Zai ?_) | (refine ZrN 3 fun _ => ?_; refine Zv Zmi ?_; refine Zv (Val_shr rfl rfl (by decide)) ?_; refine Zv Zmi ?_; refine Zv (Val_addN rfl rfl (by first | exact s _ h1 | exact s _ h2 | exact h3a | exact s _ h4 | exact s _ h5 | exact s _ h6)) ?_; (first | (refine Zv (Val_and rfl rfl (rfl : _ = Value.int _ ((6148914691236517205 : Nat) : Int)) (s _ (by first | exact hx' | exact div_sm hx')) (by decide)) ?_) | (refine Zv (Val_and rfl rfl (rfl : _ = Value.int _ ((3689348814741910323 : Nat) : Int)) (s _ (by first | exact h1 | exact div_sm h1)) (by decide)) ?_) | (refine Zv (Val_and rfl rfl (rfl : _ = Value.int _ ((1085102592571150095 : Nat) : Int)) h3a (by decide)) ?_) | (refine Zv (Val_andS rfl (rfl : _ = Value.int _ ((127 : Nat) : Int)) (by exact Nat.lt_trans h6 (by decide)) (by decide)) ?_)); refine Zv Zai ?_) | (refine ZrN 4 fun _ => ?_; refine Zv Zmi ?_; refine Zv Zmi ?_; refine Zv (Val_shr rfl rfl (by decide)) ?_; refine Zv (Val_addN rfl rfl (by first | exact s _ h1 | exact s _ h2 | exact h3a | exact s _ h4 | exact s _ h5 | exact s _ h6)) ?_; refine Zv Zai ?_) | (refine ZrN 5 fun _ => ?_; refine Zv Zmi ?_; refine Zv Zmi ?_; refine Zv (Val_shr rfl rfl (by decide)) ?_; refine Zv (Val_addN rfl rfl (by first | exact s _ h1 | exact s _ h2 | exact h3a | exact s _ h4 | exact s _ h5 | exact s _ h6)) ?_; refine Zv Zai ?_) | (refine ZrN 6 fun _ => ?_; refine Zv Zmi ?_; refine Zv Zmi ?_; refine Zv (Val_shr rfl rfl (by decide)) ?_; refine Zv (Val_addN rfl rfl (by first | exact s _ h1 | exact s _ h2 | exact h3a | exact s _ h4 | exact s _ h5 | exact s _ h6)) ?_; refine Zv Zai ?_) | (refine ZrN 7 fun _ => ?_; refine Zv Zmi ?_; (first | (refine Zv (Val_convert rfl hc0) ?_) | (refine Zv Zxco ?_)); (first | (refine Zv (Val_and rfl rfl (rfl : _ = Value.int _ ((6148914691236517205 : Nat) : Int)) (s _ (by first | exact hx' | exact div_sm hx')) (by decide)) ?_) | (refine Zv (Val_and rfl rfl (rfl : _ = Value.int _ ((3689348814741910323 : Nat) : Int)) (s _ (by first | exact h1 | exact div_sm h1)) (by decide)) ?_) | (refine Zv (Val_and rfl rfl (rfl : _ = Value.int _ ((1085102592571150095 : Nat) : Int)) h3a (by decide)) ?_) | (refine Zv (Val_andS rfl (rfl : _ = Value.int _ ((127 : Nat) : Int)) (by exact Nat.lt_trans h6 (by decide)) (by decide)) ?_)); refine Zv Zai ?_) | (with_reducible apply WP_ret)))
  exact QBody_ret1 rfl (rfl : _ = Value.int _ _) ⟨rfl, rfl⟩
theorem ones_ret (L : Hp) (x : Nat) (hx : x < 32) : Ret Try.prog N w0 L 76 [.int .u64 x].toArray (.int .i64 (pc x)) := by
  refine tri_of_WP Try.func76 rfl (n := 8) rfl (by simp) ?_
  repeat' (first | (refine Znh ?_) | (refine GiW ?_; first | (refine Zsq fun K hK => ?_) | (refine ZrN 0 fun _ => ?_; refine Zv Zai ?_) | (refine ZrN 2 fun _ => ?_; refine Zv Zmi ?_; refine Zcl (Enters_fn rfl) (ones64_ret N w0 _ x hx) ?_; refine Zv Zai ?_) | (refine WP_cond_false rfl ?_) | (with_reducible apply WP_skip) | (with_reducible apply WP_ret)) | (refine Zhn ?_))
  exact QBody_ret1 rfl (rfl : _ = Value.int _ _) ⟨rfl, rfl⟩
theorem cmp_ret (L : Hp) (x y : Nat) (hx : x < 32) (hy : y < 32) : Ret Try.prog N w0 L 97 [.int .u64 x, .int .u64 y].toArray (.int .i64 ((pc x : Int) - pc y)) := by
  have h1 : pc x ≤ 5 := by unfold pc; omega
  have h2 : pc y ≤ 5 := by unfold pc; omega
  refine tri_of_WP Try.func97 rfl (n := 10) rfl (by simp) ?_
  repeat' (first | (refine Znh ?_) | (refine GiW ?_; first | (refine Zsq fun K hK => ?_) | (refine ZrN 0 fun _ => ?_; refine Zv Zai ?_) | (refine ZrN 1 fun _ => ?_; refine Zv Zmi ?_; (first | (refine Zcl (Enters_fn rfl) (ones_ret N w0 _ x hx) ?_) | (refine Zcl (Enters_fn rfl) (ones_ret N w0 _ y hy) ?_)); refine Zv Zmi ?_; (first | (refine Zcl (Enters_fn rfl) (ones_ret N w0 _ x hx) ?_) | (refine Zcl (Enters_fn rfl) (ones_ret N w0 _ y hy) ?_)); refine Zv Zxsub ?_; refine Zv Zai ?_) | (with_reducible apply WP_ret)))
  exact QBody_ret1 rfl (rfl : _ = Value.int _ _) ⟨rfl, rfl⟩
end
end Go.Proofs.Ytlpahkmfjpjheaa
end

section
namespace Go.Proofs.Ytlpahkmfjpjheaa
open Go.RowKit
def us (l : List Nat) : List Value := l.map fun x : Nat => .int .u64 (x : Int)
def gt (l : List Nat) (i : Nat) : Nat := l.getD i 0
theorem us_get {l : List Nat} {i : Nat} (h : i < l.length) : (us l)[0 + i]? = some (.int .u64 (gt l i : Int)) := by
  simp [us, gt, h]
theorem us_set {l : List Nat} {i v : Nat} : setL (us l) (0 + i) [.int .u64 (v : Int)] = us (l.set i v) := by
  simp [setL, us, List.map_set]
theorem us_len (l : List Nat) : (us l).length = l.length := by simp [us]
def swp (l : List Nat) (i j : Nat) : List Nat := (l.set i (gt l j)).set j (gt l i)
theorem swp_len (l : List Nat) (i j : Nat) : (swp l i j).length = l.length := by simp [swp]
theorem gt_mem {l : List Nat} {i : Nat} (h : i < l.length) : gt l i ∈ l := by
  have : gt l i = l[i] := by simp [gt, h]
  rw [this]; exact List.getElem_mem h
theorem swp_mem {l : List Nat} {i j : Nat} (hi : i < l.length) (hj : j < l.length) {k : Nat} (h : ∀ x ∈ l, x < k) : ∀ x ∈ swp l i j, x < k := by
  intro x hx
  rcases List.mem_or_eq_of_mem_set hx with hx | rfl
  · rcases List.mem_or_eq_of_mem_set hx with hx | rfl
    · exact h x hx
    · exact h _ (gt_mem hj)
  · exact h _ (gt_mem hi)
/-- Lists of numbers below 32, of so many. -/
def Lt32 (n : Nat) (l : List Nat) : Prop := l.length = n ∧ ∀ x ∈ l, x < 32
theorem Lt32.swp {n : Nat} {l : List Nat} (h : Lt32 n l) {i j : Nat} (hi : i < n) (hj : j < n) : Lt32 n (swp l i j) :=
  ⟨by rw [swp_len]; exact h.1, swp_mem (by rw [h.1]; exact hi) (by rw [h.1]; exact hj) h.2⟩
theorem Lt32.gt {n : Nat} {l : List Nat} (h : Lt32 n l) {i : Nat} (hi : i < n) : gt l i < 32 := h.2 _ (gt_mem (by rw [h.1]; exact hi))
def swapR (l : List Nat) (a b : Nat) : Nat → List Nat
  | 0 => l
  | k + 1 => swp (swapR l a b k) (a + k) (b + k)
theorem swapR_lt {n : Nat} {l : List Nat} (h : Lt32 n l) {a b : Nat} : ∀ k, a + k ≤ n → b + k ≤ n → Lt32 n (swapR l a b k)
  | 0, _, _ => h
  | k + 1, h1, h2 => (swapR_lt h k (by omega) (by omega)).swp (by omega) (by omega)
/-- One is moved down. -/
def insJ (a : Nat) : Nat → List Nat → List Nat
  | 0, l => l
  | j + 1, l => if a < j + 1 ∧ pc (gt l (j + 1)) < pc (gt l j) then insJ a j (swp l (j + 1) j) else l
theorem insJ_stop {a j : Nat} {l : List Nat} (h : ¬ a < j) : insJ a j l = l := by
  cases j with
  | zero => rfl
  | succ j => show (if _ then _ else _) = _; rw [if_neg (fun hh => h hh.1)]
theorem insJ_lt {n a : Nat} : ∀ {j : Nat} {l : List Nat}, Lt32 n l → j < n → Lt32 n (insJ a j l)
  | 0, _, h, _ => h
  | j + 1, l, h, hj => by
    show Lt32 n (if _ then _ else _)
    split
    · exact insJ_lt (h.swp (by omega) (by omega)) (by omega)
    · exact h
def insS (l : List Nat) (a : Nat) : Nat → List Nat
  | 0 => l
  | k + 1 => insJ a (a + 1 + k) (insS l a k)
theorem insS_lt {n : Nat} {l : List Nat} (h : Lt32 n l) {a : Nat} : ∀ k, a + k < n ∨ k = 0 → Lt32 n (insS l a k)
  | 0, _ => h
  | k + 1, hk => insJ_lt (insS_lt h k (by omega)) (by omega)
attribute [local irreducible] AnyO AnyB QAny QB EWalk AWalk Ev WP OPS QThen QBlock QScope QLoop QBody Val New Turn Tri Enters PostA Blk Ro
section
variable (N : Nat) (w0 : World)
theorem swap_tri (L : Hp) (n : Nat) (l : List Nat) (hl : Lt32 n l) (hn : n ≤ 1000) (b c i j k : Nat) (hi : i + k ≤ n) (hj : j + k ≤ n) (cmp : Value) :
    Tri Try.prog N w0 ((b, Blk 97 (us l)) :: L) 114 [.slice (some ⟨b, 0, none⟩) n c, .int .i64 i, .int .i64 j, .int .i64 k, cmp].toArray fun x L' => ∃ v, x = .returned v ∧ L' = (b, Blk 97 (us (swapR l i j k))) :: L := by
  refine tri_of_WP Try.func114 rfl (n := 38) rfl (by simp) ?_
  repeat' (first | (refine Znh ?_) | (refine GiW ?_; first | (refine Zsq fun K hK => ?_) | (refine ZrN 0 fun _ => ?_; refine Zv Zai ?_) | (with_reducible apply WP_block)))
  refine WP_loop [10, 11, 12, 13, 14, 15, 16, 17, 18, 19, 20, 21, 22, 23, 24, 25, 26, 27, 28, 29, 30, 31, 32, 33, 34, 35, 36, 37] (fun q : Nat => [(10, .int .i64 q)]) (fun q => (b, Blk 97 (us (swapR l i j q))) :: L) (fun q => q ≤ k) (fun q => k - q) 0 (.cons rfl .nil) (Wk.refl _) (Nat.zero_le _) ?_
  intro q jj hq
  by_cases hlt : q < k
  · have hlq := swapR_lt hl q (a := i) (b := j) (by omega) (by omega)
    have h1 : (us (swapR l i j q))[0 + (i + q)]? = some (.int .u64 (gt (swapR l i j q) (i + q) : Int)) := us_get (by rw [hlq.1]; omega)
    have h2 : (us (swapR l i j q))[0 + (j + q)]? = some (.int .u64 (gt (swapR l i j q) (j + q) : Int)) := us_get (by rw [hlq.1]; omega)
    repeat' (first | (refine GiP ?_; first | (refine Znh ?_) | (with_reducible refine Znl ?_) | (refine Zatn ?_; refine OPS_turnN (Turn_storeG rfl (rfl : _ = Value.int _ _) (by repeat (first | exact Up.here | apply Up.there | apply Up.sv)) rfl (by rw [us_len]; first | (rw [hlq.1]; simp only [List.length_singleton]; omega) | (rw [List.length_set, hlq.1]; simp only [List.length_singleton]; omega)) us_set rfl rfl) rfl rfl ?_) | (refine Zatd 37 ?_; refine Zv (Val_indexAddr1 rfl rfl (show _ = ((j + q : Nat) : Int) by omega) (by omega)) ?_)) | (refine GiW ?_; first | (refine Zsq fun K hK => ?_) | (refine ZrN 1 fun _ => ?_; refine Zv Zmi ?_; refine Zv Zmi ?_; refine Zv Zxlss ?_) | (refine ZrN 2 fun _ => ?_; refine Zv Zmi ?_; refine Zv Zxadd ?_; refine Zv Zai ?_) | (refine Zcd (fun hc => ?_) (fun hc => ?_) <;> (try (exfalso; omega))) | (with_reducible apply WP_skip) | (with_reducible apply WP_block) | (refine WP_drawnT (id := 3) [4, 5, 6, 7] [0, 1, 2, 3, 4, 5, 6, 7, 8, 9, 10, 11, 12, 13, 14, 15, 16, 17, 18, 19, 20] [] (k := 3) prog_mixed (by kernel_rfl) (by kernel_rfl) rfl ?_; refine Zew rfl Zmv ?_; refine Zew rfl Zmi ?_; refine Zew rfl Zmi ?_; refine Zew rfl Zxadd ?_; refine Zep rfl (fun _ => Zmv) ?_; refine Zep rfl (fun _ => Zmi) ?_; refine Zep rfl (fun _ => Zmi) ?_; refine Zep rfl (fun _ => Zxadd) ?_; refine Zew rfl Zmv ?_; refine Zew rfl Zmi ?_; refine Zew rfl Zmi ?_; refine Zew rfl Zxadd ?_; (first | (refine Zew rfl (Val_indexAddr1 rfl rfl (show _ = ((i + q : Nat) : Int) by omega) (by omega)) ?_) | (refine Zew rfl (Val_indexAddr1 rfl rfl (show _ = ((j + q : Nat) : Int) by omega) (by omega)) ?_) | (refine Zew rfl Zia ?_)); refine Zew rfl Zld ?_; refine Zew rfl Zmv ?_; refine Zew rfl Zmi ?_; refine Zew rfl Zmi ?_; refine Zew rfl Zxadd ?_; (first | (refine Zew rfl (Val_indexAddr1 rfl rfl (show _ = ((i + q : Nat) : Int) by omega) (by omega)) ?_) | (refine Zew rfl (Val_indexAddr1 rfl rfl (show _ = ((j + q : Nat) : Int) by omega) (by omega)) ?_) | (refine Zew rfl Zia ?_)); refine Zew rfl Zld ?_; (first | (refine Zew rfl (Val_indexAddr1 rfl rfl (show _ = ((i + q : Nat) : Int) by omega) (by omega)) ?_) | (refine Zew rfl (Val_indexAddr1 rfl rfl (show _ = ((j + q : Nat) : Int) by omega) (by omega)) ?_) | (refine Zew rfl Zia ?_)))) | (with_reducible apply EWalk_nil) | (refine GiO ?_; first | (refine AnyO_done (by kernel_rfl) ?_; (try with_reducible apply noP_normal); try with_reducible exact key.out) | (refine AnyO_1 21 (by decide +kernel) rfl ?_) | (refine AnyO_1 22 (by decide +kernel) rfl ?_) | (refine AnyO_1 23 (by decide +kernel) rfl ?_)) | (refine Zhn ?_) | (with_reducible apply QBlock_normal) | (refine AWalk_0 ?_; refine ZisO ?_; apply shr; intro key) | (with_reducible apply QAny_normal))
    exact QLoop_normal (q + 1) (.cons rfl .nil) (by repeat (first | exact Off.frame rfl | exact Off.refl _ _ | refine Off.frameT rfl rfl ?_ | refine Off.upd rfl ?_ | refine Off.updO rfl ?_)) (by repeat (first | exact Wk.refl _ | apply Wk.keep1 | apply Wk.drop | apply Wk.sv | apply Wk.svD | apply Wk.appD)) (by omega) (by omega)
  · have : q = k := by omega
    subst this
    repeat' (first | (refine Znh ?_) | (refine GiW ?_; first | (refine Zsq fun K hK => ?_) | (refine ZrN 1 fun _ => ?_; refine Zv Zmi ?_; refine Zv Zmi ?_; refine Zv Zxlss ?_) | (refine Zcd (fun hc => ?_) (fun hc => ?_) <;> (try (exfalso; omega))) | (with_reducible apply WP_exit)) | (refine Zhx ?_) | (with_reducible apply QBlock_hit) | (with_reducible apply QLoop_exit))
    exact QBody_end0 rfl ⟨_, rfl, rfl⟩
def cmpV : Value := .func (.func 97) #[] #[]
theorem ins_tri (L : Hp) (n : Nat) (l : List Nat) (hl : Lt32 n l) (hn : n ≤ 1000) (b c x y : Nat) (hx : x ≤ y) (hy : y ≤ n) :
    Tri Try.prog N w0 ((b, Blk 97 (us l)) :: L) 111 [.slice (some ⟨b, 0, none⟩) n c, .int .i64 x, .int .i64 y, cmpV].toArray fun r L' => ∃ v, r = .returned v ∧ L' = (b, Blk 97 (us (insS l x (y - (x + 1))))) :: L := by
  unfold cmpV
  refine tri_of_WP Try.func111 rfl (n := 53) rfl (by simp) ?_
  repeat' (first | (refine Znh ?_) | (refine GiW ?_; first | (refine Zsq fun K hK => ?_) | (refine ZrN 0 fun _ => ?_; refine Zv Zmi ?_; refine Zv Zxadd ?_; refine Zv Zai ?_) | (with_reducible apply WP_block)))
  refine WP_loop [8, 9, 12, 13, 14, 15, 16, 17, 18, 19, 20, 21, 22, 23, 24, 25, 26, 27, 28, 29, 30, 31, 32, 33, 34, 35, 36, 37, 38, 39, 40, 41, 42, 43, 44, 45, 46, 47, 48, 49, 50, 51, 52] (fun q : Nat => [(8, .int .i64 ((x + 1 + q : Nat) : Int))]) (fun q => (b, Blk 97 (us (insS l x q))) :: L) (fun q => q ≤ y - (x + 1)) (fun q => y - (x + 1) - q) 0 (.cons rfl .nil) (Wk.refl _) (Nat.zero_le _) ?_
  intro q jj hq
  by_cases hlt : q < y - (x + 1)
  · have hlq := insS_lt hl (a := x) q (by omega)
    repeat' (first | (refine Znh ?_) | (refine GiW ?_; first | (refine Zsq fun K hK => ?_) | (refine ZrN 1 fun _ => ?_; refine Zv Zmi ?_; refine Zv Zmi ?_; refine Zv Zxlss ?_) | (refine ZrN 3 fun _ => ?_; refine Zv Zmi ?_; refine Zv Zai ?_) | (refine Zcd (fun hc => ?_) (fun hc => ?_) <;> (try (exfalso; omega))) | (with_reducible apply WP_skip) | (with_reducible apply WP_block)) | (refine Zhn ?_))
    refine WP_loop [9, 18, 19, 20, 21, 22, 23, 24, 25, 26, 27, 28, 29, 30, 31, 32, 33, 34, 35, 36, 37, 38, 39, 40, 41, 42, 43, 44, 45, 46, 47, 48, 49, 50, 51, 52] (fun st : Nat × List Nat => [(9, .int .i64 (st.1 : Int))]) (fun st => (b, Blk 97 (us st.2)) :: L) (fun st => insJ x st.1 st.2 = insS l x (q + 1) ∧ Lt32 n st.2 ∧ st.1 < n) (fun st => st.1) (x + 1 + q, insS l x q) (.cons rfl .nil) (Wk.refl _) ⟨rfl, hlq, by dsimp only; omega⟩ ?_
    rintro ⟨j, m⟩ j2 ⟨hF, hm, hj⟩
    dsimp only at hF hm hj ⊢
    by_cases hgt : x < j
    · obtain ⟨j', rfl⟩ : ∃ j', j = j' + 1 := ⟨j - 1, by omega⟩
      have h1 : (us m)[0 + (j' + 1)]? = some (.int .u64 (gt m (j' + 1) : Int)) := us_get (by rw [hm.1]; omega)
      have h2 : (us m)[0 + j']? = some (.int .u64 (gt m j' : Int)) := us_get (by rw [hm.1]; omega)
      have hc1 := fun L => cmp_ret N w0 L (gt m (j' + 1)) (gt m j') (hm.gt hj) (hm.gt (by omega))
      repeat' (first | (refine GiP ?_; first | (with_reducible refine Znl ?_) | (refine Zatn ?_; refine OPS_turnN (Turn_storeG rfl (rfl : _ = Value.int _ _) (by repeat (first | exact Up.here | apply Up.there | apply Up.sv)) rfl (by rw [us_len]; first | (rw [hm.1]; simp only [List.length_singleton]; omega) | (rw [List.length_set, hm.1]; simp only [List.length_singleton]; omega)) us_set rfl rfl) rfl rfl ?_) | (refine Zatd 52 ?_; refine Zv (Val_indexAddr1 rfl rfl (show _ = ((j' : Nat) : Int) by omega) (by omega)) ?_)) | (refine GiW ?_; first | (refine Zsq fun K hK => ?_) | (refine ZrN 5 fun _ => ?_; refine Zv Zmi ?_; refine Zv Zxsub ?_; refine Zv Zai ?_) | (refine ZrN 2 fun _ => ?_; refine Zv Zmi ?_; refine Zv Zxadd ?_; refine Zv Zai ?_) | (refine Zcd (fun hc => ?_) (fun hc => ?_) <;> (try (exfalso; omega))) | (with_reducible apply WP_skip) | (with_reducible apply WP_block) | (with_reducible apply WP_exit) | (refine WP_drawn (id := 4) [0, 1, 2, 3, 4, 5, 6, 7, 8, 9, 10, 11, 12, 13, 14, 15, 16] [] (k := 0) prog_mixed (by kernel_rfl) rfl ?_; refine Zew rfl Zmi ?_; refine Zew rfl Zmi ?_; refine Zew rfl Zxgtr ?_; refine Zew rfl Zmb ?_) | (refine WP_drawnT (id := 6) [2, 3, 4] [0, 1, 2, 3, 4, 5, 6, 7, 8, 9, 10, 11, 12, 13, 14] [] (k := 3) prog_mixed (by kernel_rfl) (by kernel_rfl) rfl ?_; refine Zew rfl Zmv ?_; refine Zew rfl Zmi ?_; refine Zep rfl (fun _ => Zmv) ?_; refine Zep rfl (fun _ => Zmi) ?_; refine Zep rfl (fun _ => Zxsub) ?_; refine Zew rfl Zmv ?_; refine Zew rfl Zmi ?_; refine Zew rfl Zxsub ?_; (first | (refine Zew rfl (Val_indexAddr1 rfl rfl (show _ = ((j' + 1 : Nat) : Int) by omega) (by omega)) ?_) | (refine Zew rfl (Val_indexAddr1 rfl rfl (show _ = ((j' : Nat) : Int) by omega) (by omega)) ?_) | (refine Zew rfl Zia ?_)); refine Zew rfl Zld ?_; refine Zew rfl Zmv ?_; refine Zew rfl Zmi ?_; (first | (refine Zew rfl (Val_indexAddr1 rfl rfl (show _ = ((j' + 1 : Nat) : Int) by omega) (by omega)) ?_) | (refine Zew rfl (Val_indexAddr1 rfl rfl (show _ = ((j' : Nat) : Int) by omega) (by omega)) ?_) | (refine Zew rfl Zia ?_)); refine Zew rfl Zld ?_; (first | (refine Zew rfl (Val_indexAddr1 rfl rfl (show _ = ((j' + 1 : Nat) : Int) by omega) (by omega)) ?_) | (refine Zew rfl (Val_indexAddr1 rfl rfl (show _ = ((j' : Nat) : Int) by omega) (by omega)) ?_) | (refine Zew rfl Zia ?_)))) | (refine GiE ?_; first | (refine Zati 16 ?_; (first | (refine Zew rfl Zxpt ?_) | (refine Zew rfl Zxpf ?_))) | (refine Zati 4 ?_; refine Zew rfl Zmv ?_) | (refine Zati 5 ?_; refine Zew rfl Zmv ?_) | (refine Zati 6 ?_; refine Zew rfl Zmi ?_) | (refine Zati 7 ?_; refine Zew rfl (Val_indexAddr1 rfl rfl (show _ = ((j' + 1 : Nat) : Int) by omega) (by omega)) ?_) | (refine Zati 8 ?_; refine Zew rfl Zld ?_) | (refine Zati 9 ?_; refine Zew rfl Zmv ?_) | (refine Zati 10 ?_; refine Zew rfl Zmi ?_) | (refine Zati 11 ?_; refine Zew rfl Zxsub ?_) | (refine Zati 12 ?_; refine Zew rfl (Val_indexAddr1 rfl rfl (show _ = ((j' : Nat) : Int) by omega) (by omega)) ?_) | (refine Zati 13 ?_; refine Zew rfl Zld ?_) | (refine Zati 14 ?_; refine Zec rfl (Enters_val rfl rfl) (fun X => hc1 _) ?_) | (refine Zati 15 ?_; refine Zew rfl Zxlss ?_) | (refine Zesp (fun hc => ?_) (fun hc => ?_) <;> (try (exfalso; omega))) | (with_reducible apply EWalk_nil)) | (refine GiO ?_; first | (refine AnyO_done (by kernel_rfl) ?_; (try with_reducible apply noP_normal); try with_reducible exact key.out) | (refine AnyO_1 15 (by decide +kernel) rfl ?_) | (refine AnyO_1 16 (by decide +kernel) rfl ?_) | (refine AnyO_1 17 (by decide +kernel) rfl ?_)) | (refine Zhn ?_) | (with_reducible apply QBlock_normal) | (refine Zhx ?_) | (with_reducible apply QBlock_hit) | (with_reducible apply QLoop_exit) | (refine AWalk_0 ?_; refine ZisO ?_; apply shr; intro key) | (with_reducible apply QAny_normal))
      · have hlt2 : pc (gt m (j' + 1)) < pc (gt m j') := by omega
        have hF' : insJ x j' (swp m (j' + 1) j') = insS l x (q + 1) := by
          rw [← hF]; show _ = (if _ then _ else _); rw [if_pos ⟨hgt, hlt2⟩]
        exact QLoop_normal (j', swp m (j' + 1) j') (.cons (by show Value.int .i64 _ = Value.int .i64 _; congr 1; omega) .nil) (by repeat (first | exact Off.frame rfl | exact Off.refl _ _ | refine Off.frameT rfl rfl ?_ | refine Off.upd rfl ?_ | refine Off.updO rfl ?_)) (by repeat (first | exact Wk.refl _ | apply Wk.keep1 | apply Wk.drop | apply Wk.sv | apply Wk.svD | apply Wk.appD)) ⟨hF', hm.swp (by omega) (by omega), by dsimp only; omega⟩ (by dsimp only; omega)
      · have hm' : m = insS l x (q + 1) := by
          rw [← hF]; show _ = (if _ then _ else _); rw [if_neg (by omega)]
        refine QLoop_normal (q + 1) (.cons rfl .nil) (by repeat (first | exact Off.frame rfl | exact Off.refl _ _ | refine Off.frameT rfl rfl ?_ | refine Off.upd rfl ?_ | refine Off.updO rfl ?_)) ?_ (by omega) (by omega)
        rw [← hm']; exact (by repeat (first | exact Wk.refl _ | apply Wk.keep1 | apply Wk.drop | apply Wk.sv | apply Wk.svD | apply Wk.appD))
    · repeat' (first | (with_reducible refine Znl ?_) | (refine GiW ?_; first | (refine Zsq fun K hK => ?_) | (refine ZrN 2 fun _ => ?_; refine Zv Zmi ?_; refine Zv Zxadd ?_; refine Zv Zai ?_) | (refine WP_cond_false rfl ?_) | (with_reducible apply WP_exit) | (refine WP_drawn (id := 4) [0, 1, 2, 3, 4, 5, 6, 7, 8, 9, 10, 11, 12, 13, 14, 15, 16] [] (k := 0) prog_mixed (by kernel_rfl) rfl ?_; refine Zew rfl Zmi ?_; refine Zew rfl Zmi ?_; refine Zew rfl Zxgtr ?_; refine Zew rfl Zmb ?_)) | (refine GiE ?_; first | (refine Zati 16 ?_; (first | (refine Zew rfl Zxpt ?_) | (refine Zew rfl Zxpf ?_))) | (refine Zes ?_) | (refine Zesp (fun hc => ?_) (fun hc => ?_) <;> (try (exfalso; omega))) | (with_reducible apply EWalk_nil)) | (refine AnyO_done (by kernel_rfl) ?_; (try with_reducible apply noP_normal); try with_reducible exact key.out) | (refine Zhn ?_) | (with_reducible apply QBlock_normal) | (refine Zhx ?_) | (with_reducible apply QBlock_hit) | (with_reducible apply QLoop_exit) | (refine AWalk_0 ?_; refine ZisO ?_; apply shr; intro key))
      have hm' : m = insS l x (q + 1) := by rw [← hF, insJ_stop hgt]
      refine QLoop_normal (q + 1) (.cons rfl .nil) (by repeat (first | exact Off.frame rfl | exact Off.refl _ _ | refine Off.frameT rfl rfl ?_ | refine Off.upd rfl ?_ | refine Off.updO rfl ?_)) ?_ (by omega) (by omega)
      rw [← hm']; exact (by repeat (first | exact Wk.refl _ | apply Wk.keep1 | apply Wk.drop | apply Wk.sv | apply Wk.svD | apply Wk.appD))
  · have : q = y - (x + 1) := by omega
    subst this
    repeat' (first | (refine Znh ?_) | (refine GiW ?_; first | (refine Zsq fun K hK => ?_) | (refine ZrN 1 fun _ => ?_; refine Zv Zmi ?_; refine Zv Zmi ?_; refine Zv Zxlss ?_) | (refine Zcd (fun hc => ?_) (fun hc => ?_) <;> (try (exfalso; omega))) | (with_reducible apply WP_exit)) | (refine Zhx ?_) | (with_reducible apply QBlock_hit) | (with_reducible apply QLoop_exit))
    exact QBody_end0 rfl ⟨_, rfl, rfl⟩
end
end Go.Proofs.Ytlpahkmfjpjheaa
end

section
namespace Go.Proofs.Ytlpahkmfjpjheaa
open Go.RowKit
def rotL (m : Nat) : Nat → Nat → Nat → List Nat → List Nat
  | 0, _, _, l => l
  | f + 1, i, j, l => if i = j then swapR l (m - i) m i else if j < i then rotL m f (i - j) j (swapR l (m - i) m j) else rotL m f i (j - i) (swapR l (m - i) (m + j - i) i)
theorem rotL_lt {n m : Nat} : ∀ (f : Nat) {i j : Nat} {l : List Nat}, Lt32 n l → i ≤ m → m + j ≤ n → Lt32 n (rotL m f i j l)
  | 0, _, _, _, h, _, _ => h
  | f + 1, i, j, l, h, hi, hj => by
    show Lt32 n (if _ then _ else _)
    split
    · exact swapR_lt h _ (by omega) (by omega)
    · split
      · exact rotL_lt f (swapR_lt h _ (by omega) (by omega)) (by omega) hj
      · exact rotL_lt f (swapR_lt h _ (by omega) (by omega)) hi (by omega)
attribute [local irreducible] AnyO AnyB QAny QB EWalk AWalk Ev WP OPS QThen QBlock QScope QLoop QBody Val New Turn Tri Enters PostA Blk Ro
section
variable (N : Nat) (w0 : World)
theorem swap_triI (L : Hp) (n : Nat) (l : List Nat) (hl : Lt32 n l) (hn : n ≤ 1000) (b c i j k : Nat) (I J K : Int) (hI : I = i) (hJ : J = j) (hK : K = k) (hi : i + k ≤ n) (hj : j + k ≤ n) (cmp : Value) :
    Tri Try.prog N w0 ((b, Blk 97 (us l)) :: L) 114 [.slice (some ⟨b, 0, none⟩) n c, .int .i64 I, .int .i64 J, .int .i64 K, cmp].toArray fun x L' => ∃ v, x = .returned v ∧ L' = (b, Blk 97 (us (swapR l i j k))) :: L := by
  subst hI hJ hK
  exact swap_tri N w0 L n l hl hn b c i j k hi hj cmp
theorem rot_tri (L : Hp) (n : Nat) (l : List Nat) (hl : Lt32 n l) (hn : n ≤ 1000) (b c x m y : Nat) (hx : x < m) (hm : m < y) (hy : y ≤ n):
    Tri Try.prog N w0 ((b, Blk 97 (us l)) :: L) 113 [.slice (some ⟨b, 0, none⟩) n c, .int .i64 x, .int .i64 m, .int .i64 y, cmpV].toArray fun r L' => ∃ v, r = .returned v ∧ L' = (b, Blk 97 (us (rotL m (m - x + (y - m)) (m - x) (y - m) l))) :: L := by
  unfold cmpV
  refine tri_of_WP Try.func113 rfl (n := 58) rfl (by simp) ?_
  have e1 : (m : Int) - x = ((m - x : Nat) : Int) := by omega
  have e2 : (y : Int) - m = ((y - m : Nat) : Int) := by omega
  repeat' (first | (refine Znh ?_) | (refine GiW ?_; first | (refine Zsq fun K hK => ?_) | (refine ZrN 0 fun _ => ?_; refine Zv Zmi ?_; refine Zv Zmi ?_; refine Zv Zxsub ?_; refine Zv Zai ?_) | (refine ZrN 1 fun _ => ?_; refine Zv Zmi ?_; refine Zv Zmi ?_; refine Zv Zxsub ?_; refine Zv Zai ?_) | (with_reducible apply WP_block)))
  refine WP_loop [10, 11, 18, 19, 20, 21, 22, 23, 24, 25, 26, 27, 28, 29, 30, 31, 32, 33, 34, 35, 36, 37, 38, 39, 40, 41, 42, 43, 44, 45, 46, 47, 48, 49] (fun st : Nat × Nat × Nat × List Nat => [(10, .int .i64 st.2.1), (11, .int .i64 st.2.2.1)]) (fun st => (b, Blk 97 (us st.2.2.2)) :: L)
    (fun st => rotL m st.1 st.2.1 st.2.2.1 st.2.2.2 = rotL m (m - x + (y - m)) (m - x) (y - m) l ∧ Lt32 n st.2.2.2 ∧ 1 ≤ st.2.1 ∧ 1 ≤ st.2.2.1 ∧ st.2.1 ≤ m ∧ m + st.2.2.1 ≤ n ∧ st.2.1 + st.2.2.1 ≤ st.1) (fun st => st.2.1 + st.2.2.1) (m - x + (y - m), m - x, y - m, l) (.cons (by rw [← e1]; rfl) (.cons (by rw [← e2]; rfl) .nil)) (Wk.refl _) ⟨rfl, hl, by dsimp only; omega, by dsimp only; omega, by dsimp only; omega, by dsimp only; omega, by dsimp only; omega⟩ ?_
  rintro ⟨f, i, j, q⟩ jj ⟨hF, hq, hi1, hj1, him, hjn, hf⟩
  dsimp only at hF hq hi1 hj1 him hjn hf ⊢
  obtain ⟨f, rfl⟩ : ∃ f', f = f' + 1 := ⟨f - 1, by omega⟩
  by_cases heq : i = j
  · have hF' : swapR q (m - i) m i = rotL m (m - x + (y - m)) (m - x) (y - m) l := by
      rw [← hF]; show _ = (if _ then _ else _); rw [if_pos heq]
    subst heq
    repeat' (first | (refine GiP ?_; first | (refine Znh ?_) | (with_reducible refine Znl ?_)) | (refine GiW ?_; first | (refine Zsq fun K hK => ?_) | (refine ZrN 2 fun _ => ?_; refine Zv Zmi ?_; refine Zv Zmi ?_; refine Zv Zxneq ?_) | (refine ZrN 8 fun _ => ?_; refine Zv Zmv ?_; refine Zv Zmi ?_; refine Zv Zmi ?_; refine Zv Zxsub ?_; refine Zv Zmi ?_; refine Zv Zmi ?_; refine Zv Zmv ?_; refine OPS_retKS (Enters_fn rfl) (swap_triI N w0 _ n q hq hn b c (m - i) m i _ _ _ (by omega) rfl rfl (by omega) (by omega) _) rfl rfl rfl (fun v31 L31 h31 => ?_); subst h31) | (refine Zcd (fun hc => ?_) (fun hc => ?_) <;> (try (exfalso; omega))) | (with_reducible apply WP_exit)) | (refine Zhn ?_) | (refine Zhx ?_) | (with_reducible apply QBlock_hit) | (with_reducible apply QLoop_exit))
    exact QBody_end0 rfl ⟨_, rfl, by rw [hF']⟩
  · by_cases hgt : j < i
    · have hF' : rotL m f (i - j) j (swapR q (m - i) m j) = rotL m (m - x + (y - m)) (m - x) (y - m) l := by
        rw [← hF]; show _ = (if _ then _ else _); rw [if_neg heq, if_pos hgt]
      repeat' (first | (refine GiP ?_; first | (refine Znh ?_) | (with_reducible refine Znl ?_)) | (refine GiW ?_; first | (refine Zsq fun K hK => ?_) | (refine ZrN 2 fun _ => ?_; refine Zv Zmi ?_; refine Zv Zmi ?_; refine Zv Zxneq ?_) | (refine ZrN 3 fun _ => ?_; refine Zv Zmi ?_; refine Zv Zmi ?_; refine Zv Zxgtr ?_) | (refine ZrN 4 fun _ => ?_; refine Zv Zmv ?_; refine Zv Zmi ?_; refine Zv Zmi ?_; refine Zv Zxsub ?_; refine Zv Zmi ?_; refine Zv Zmi ?_; refine Zv Zmv ?_; refine OPS_retKS (Enters_fn rfl) (swap_triI N w0 _ n q hq hn b c (m - i) m j _ _ _ (by omega) rfl rfl (by omega) (by omega) _) rfl rfl rfl (fun v31 L31 h31 => ?_); subst h31) | (refine ZrN 5 fun _ => ?_; refine Zv Zmi ?_; refine Zv Zmi ?_; refine Zv Zxsub ?_; refine Zv Zai ?_) | (refine Zcd (fun hc => ?_) (fun hc => ?_) <;> (try (exfalso; omega))) | (with_reducible apply WP_skip) | (with_reducible apply WP_block)) | (refine Zhn ?_) | (with_reducible apply QBlock_normal))
      exact QLoop_normal (f, i - j, j, swapR q (m - i) m j) (.cons (by show Value.int .i64 ((i : Int) - j) = Value.int .i64 ((i - j : Nat) : Int); congr 1; omega) (.cons rfl .nil)) (by repeat (first | exact Off.frame rfl | exact Off.refl _ _ | refine Off.frameT rfl rfl ?_ | refine Off.upd rfl ?_ | refine Off.updO rfl ?_)) (by repeat (first | exact Wk.refl _ | apply Wk.keep1 | apply Wk.drop | apply Wk.sv | apply Wk.svD | apply Wk.appD)) ⟨hF', swapR_lt hq _ (by omega) (by omega), by dsimp only; omega, hj1, by dsimp only; omega, hjn, by dsimp only; omega⟩ (by dsimp only; omega)
    · have hF' : rotL m f i (j - i) (swapR q (m - i) (m + j - i) i) = rotL m (m - x + (y - m)) (m - x) (y - m) l := by
        rw [← hF]; show _ = (if _ then _ else _); rw [if_neg heq, if_neg hgt]
      repeat' (first | (refine GiP ?_; first | (refine Znh ?_) | (with_reducible refine Znl ?_)) | (refine GiW ?_; first | (refine Zsq fun K hK => ?_) | (refine ZrN 2 fun _ => ?_; refine Zv Zmi ?_; refine Zv Zmi ?_; refine Zv Zxneq ?_) | (refine ZrN 3 fun _ => ?_; refine Zv Zmi ?_; refine Zv Zmi ?_; refine Zv Zxgtr ?_) | (refine ZrN 6 fun _ => ?_; refine Zv Zmv ?_; refine Zv Zmi ?_; refine Zv Zmi ?_; refine Zv Zxsub ?_; refine Zv Zmi ?_; refine Zv Zmi ?_; refine Zv Zxadd ?_; refine Zv Zmi ?_; refine Zv Zxsub ?_; refine Zv Zmi ?_; refine Zv Zmv ?_; refine OPS_retKS (Enters_fn rfl) (swap_triI N w0 _ n q hq hn b c (m - i) (m + j - i) i _ _ _ (by omega) (by omega) rfl (by omega) (by omega) _) rfl rfl rfl (fun v31 L31 h31 => ?_); subst h31) | (refine ZrN 7 fun _ => ?_; refine Zv Zmi ?_; refine Zv Zmi ?_; refine Zv Zxsub ?_; refine Zv Zai ?_) | (refine Zcd (fun hc => ?_) (fun hc => ?_) <;> (try (exfalso; omega))) | (with_reducible apply WP_skip) | (with_reducible apply WP_block)) | (refine Zhn ?_) | (with_reducible apply QBlock_normal))
      exact QLoop_normal (f, i, j - i, swapR q (m - i) (m + j - i) i) (.cons rfl (.cons (by show Value.int .i64 ((j : Int) - i) = Value.int .i64 ((j - i : Nat) : Int); congr 1; omega) .nil)) (by repeat (first | exact Off.frame rfl | exact Off.refl _ _ | refine Off.frameT rfl rfl ?_ | refine Off.upd rfl ?_ | refine Off.updO rfl ?_)) (by repeat (first | exact Wk.refl _ | apply Wk.keep1 | apply Wk.drop | apply Wk.sv | apply Wk.svD | apply Wk.appD)) ⟨hF', swapR_lt hq _ (by omega) (by omega), hi1, by dsimp only; omega, him, by dsimp only; omega, by dsimp only; omega⟩ (by dsimp only; omega)
end
end Go.Proofs.Ytlpahkmfjpjheaa
end

section
namespace Go.Proofs.Ytlpahkmfjpjheaa
open Go.RowKit
/-- The first place, from lo on, at which p no longer holds, as it is looked for. -/
def bsr (p : Nat → Bool) : Nat → Nat → Nat → Nat
  | 0, lo, _ => lo
  | f + 1, lo, hi => if lo < hi then (if p ((lo + hi) / 2 ^ 1) then bsr p f ((lo + hi) / 2 ^ 1 + 1) hi else bsr p f lo ((lo + hi) / 2 ^ 1)) else lo
theorem bsr_stop {p : Nat → Bool} {f lo hi : Nat} (h : ¬ lo < hi) : bsr p f lo hi = lo := by
  cases f with
  | zero => rfl
  | succ f => show (if _ then _ else _) = _; rw [if_neg h]
theorem bsr_in {p : Nat → Bool} : ∀ (f : Nat) {lo hi : Nat}, lo ≤ hi → lo ≤ bsr p f lo hi ∧ bsr p f lo hi ≤ hi
  | 0, lo, hi, h => ⟨Nat.le_refl _, h⟩
  | f + 1, lo, hi, h => by
    show _ ≤ (if _ then _ else _) ∧ (if _ then _ else _) ≤ _
    split
    · have hm : lo ≤ (lo + hi) / 2 ^ 1 ∧ (lo + hi) / 2 ^ 1 < hi := by omega
      split
      · have := bsr_in (p := p) f (lo := (lo + hi) / 2 ^ 1 + 1) (hi := hi) (by omega)
        omega
      · have := bsr_in (p := p) f (lo := lo) (hi := (lo + hi) / 2 ^ 1) (by omega)
        omega
    · omega
def shU (a : Nat) : Nat → List Nat → List Nat
  | 0, l => l
  | k + 1, l => swp (shU a k l) (a + k) (a + k + 1)
def shD (m : Nat) : Nat → List Nat → List Nat
  | 0, l => l
  | k + 1, l => swp (shD m k l) (m - k) (m - k - 1)
theorem shU_lt {n a : Nat} {l : List Nat} (h : Lt32 n l) : ∀ k, a + k < n → Lt32 n (shU a k l)
  | 0, _ => h
  | k + 1, hk => (shU_lt h k (by omega)).swp (by omega) (by omega)
theorem shD_lt {n m : Nat} {l : List Nat} (h : Lt32 n l) (hm : m < n) : ∀ k, Lt32 n (shD m k l)
  | 0 => h
  | k + 1 => (shD_lt h hm k).swp (by omega) (by omega)
def symR (l : List Nat) (a m b : Nat) : Nat :=
  let mid := (a + b) / 2 ^ 1
  let n := mid + m
  if mid < m then bsr (fun c => !decide (pc (gt l (n - 1 - c)) < pc (gt l c))) (mid - (n - b)) (n - b) mid else bsr (fun c => !decide (pc (gt l (n - 1 - c)) < pc (gt l c))) (m - a) a m
def sym : Nat → Nat → Nat → Nat → List Nat → List Nat
  | 0, _, _, _, l => l
  | f + 1, a, m, b, l =>
    if m - a = 1 then shU a (bsr (fun h => decide (pc (gt l h) < pc (gt l a))) (b - m) m b - 1 - a) l
    else if b - m = 1 then shD m (m - bsr (fun h => !decide (pc (gt l m) < pc (gt l h))) (m - a) a m) l
    else
      let mid := (a + b) / 2 ^ 1
      let s := symR l a m b
      let e := mid + m - s
      let l1 := if s < m ∧ m < e then rotL m (m - s + (e - m)) (m - s) (e - m) l else l
      let l2 := if a < s ∧ s < mid then sym f a s mid l1 else l1
      if mid < e ∧ e < b then sym f mid e b l2 else l2
theorem symR_in {l : List Nat} {a m b : Nat} (h1 : a < m) (h2 : m < b) : a ≤ symR l a m b ∧ symR l a m b ≤ m ∧ symR l a m b ≤ (a + b) / 2 ^ 1 ∧ (a + b) / 2 ^ 1 + m - symR l a m b ≤ b := by
  unfold symR
  dsimp only
  split
  · have := bsr_in (p := fun c => !decide (pc (gt l ((a + b) / 2 ^ 1 + m - 1 - c)) < pc (gt l c))) ((a + b) / 2 ^ 1 - ((a + b) / 2 ^ 1 + m - b)) (lo := (a + b) / 2 ^ 1 + m - b) (hi := (a + b) / 2 ^ 1) (by omega)
    omega
  · have := bsr_in (p := fun c => !decide (pc (gt l ((a + b) / 2 ^ 1 + m - 1 - c)) < pc (gt l c))) (m - a) (lo := a) (hi := m) (by omega)
    omega
theorem sym_lt {n : Nat} : ∀ (f : Nat) {a m b : Nat} {l : List Nat}, Lt32 n l → a < m → m < b → b ≤ n → Lt32 n (sym f a m b l)
  | 0, _, _, _, _, h, _, _, _ => h
  | f + 1, a, m, b, l, h, h1, h2, h3 => by
    show Lt32 n (if _ then _ else _)
    split
    · have := bsr_in (p := fun h => decide (pc (gt l h) < pc (gt l a))) (b - m) (lo := m) (hi := b) (by omega)
      exact shU_lt h _ (by omega)
    · split
      · exact shD_lt h (by omega) _
      · have hR := symR_in (l := l) h1 h2
        have hmid : a < (a + b) / 2 ^ 1 ∧ (a + b) / 2 ^ 1 < b := by omega
        dsimp only
        have k1 : Lt32 n (if symR l a m b < m ∧ m < (a + b) / 2 ^ 1 + m - symR l a m b then rotL m (m - symR l a m b + ((a + b) / 2 ^ 1 + m - symR l a m b - m)) (m - symR l a m b) ((a + b) / 2 ^ 1 + m - symR l a m b - m) l else l) := by
          split
          · exact rotL_lt _ h (by omega) (by omega)
          · exact h
        generalize (if symR l a m b < m ∧ m < (a + b) / 2 ^ 1 + m - symR l a m b then rotL m (m - symR l a m b + ((a + b) / 2 ^ 1 + m - symR l a m b - m)) (m - symR l a m b) ((a + b) / 2 ^ 1 + m - symR l a m b - m) l else l) = l1 at k1 ⊢
        have k2 : Lt32 n (if a < symR l a m b ∧ symR l a m b < (a + b) / 2 ^ 1 then sym f a (symR l a m b) ((a + b) / 2 ^ 1) l1 else l1) := by
          split
          · exact sym_lt f k1 (by omega) (by omega) (by omega)
          · exact k1
        generalize (if a < symR l a m b ∧ symR l a m b < (a + b) / 2 ^ 1 then sym f a (symR l a m b) ((a + b) / 2 ^ 1) l1 else l1) = l2 at k2 ⊢
        split
        · exact sym_lt f k2 (by omega) (by omega) (by omega)
        · exact k2
attribute [local irreducible] AnyO AnyB QAny QB EWalk AWalk Ev WP OPS QThen QBlock QScope QLoop QBody Val New Turn Tri Enters PostA Blk Ro
section
variable (N : Nat) (w0 : World)
theorem rot_triI (L : Hp) (n : Nat) (l : List Nat) (hl : Lt32 n l) (hn : n ≤ 1000) (b c x m y : Nat) (X M Y : Int) (hX : X = x) (hM : M = m) (hY : Y = y) (hx : x < m) (hm : m < y) (hy : y ≤ n) :
    Tri Try.prog N w0 ((b, Blk 97 (us l)) :: L) 113 [.slice (some ⟨b, 0, none⟩) n c, .int .i64 X, .int .i64 M, .int .i64 Y, cmpV].toArray fun r L' => ∃ v, r = .returned v ∧ L' = (b, Blk 97 (us (rotL m (m - x + (y - m)) (m - x) (y - m) l))) :: L := by
  subst hX hM hY
  exact rot_tri N w0 L n l hl hn b c x m y hx hm hy
end
end Go.Proofs.Ytlpahkmfjpjheaa
end
