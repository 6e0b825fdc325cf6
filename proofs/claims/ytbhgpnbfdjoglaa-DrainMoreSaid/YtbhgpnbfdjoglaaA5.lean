/- Package drain: how much water banks have, and what goes straight. · Package drain: the iterator of all levels. -/
import Derived.Test.YtbhgpnbfdjoglaaA3
import Derived.Test.YtbhgpnbfdjoglaaRg
section
namespace Go.Proofs.Ytbhgpnbfdjoglaa
open Go.RowKit
theorem RoDrop {w0 : World} {b o : Nat} {vs : List Value} (h : Ro w0 b o vs) (i : Nat) : Ro w0 b (o + i) (vs.drop i) := by
  intro j v hj
  rw [Nat.add_assoc]
  exact h (i + j) v (by rw [← hj, List.getElem?_drop])
theorem RoTake {w0 : World} {b o : Nat} {vs : List Value} (h : Ro w0 b o vs) (i : Nat) : Ro w0 b o (vs.take i) := by
  intro j v hj
  rw [List.getElem?_take] at hj
  split at hj
  · exact h j v hj
  · cases hj
theorem blk_row {E sz k : Nat} {xs : List Value} {o : Obj} (h : Blk E xs o) (hl : xs.length = k * sz) (hk : k ≤ maxLen) : Row E sz k k xs o := by
  unfold Blk Is at h
  subst h
  exact ⟨xs.toArray, rfl, Nat.le_refl _, hk, by simpa using hl, by simp [← hl]⟩
section
variable {n : Nat} {nx : Nat → Option Nat} {l : Nat → Int} (hd : ∀ x y, nx x = some y → y < n ∧ l y < l x)
include hd
theorem watF_un (y : Nat → Int) {k b : Nat} (hk : upR n l b ≤ k) : watF n nx y k b = y b + sumN n fun x => if nx x = some b then watF n nx y (k - 1) x else 0 := by
  cases k with
  | zero => rw [watF_fuel hd y 0 1 b hk (by omega)]; rfl
  | succ k => rfl
theorem watF_bd {y : Nat → Int} (h : ∀ z, z < n → 0 ≤ y z ∧ y z ≤ 20) {k b : Nat} (hb : b < n) (hk : upR n l b ≤ k) : 0 ≤ watF n nx y k b ∧ watF n nx y k b ≤ 20 * n := by
  rw [watF_sum hd y k b hb hk]
  refine sumN_bd (by omega) fun z hz => ?_
  have := h z hz
  split <;> omega
end
/-- The waters that come together in a bank: its own, and those of the first i banks whose next bank it is. -/
def lW (nx : Nat → Option Nat) (b : Nat) (own : Sp) (W : Nat → Sp) : Nat → List Sp
  | 0 => [own]
  | i + 1 => lW nx b own W i ++ if nx i = some b then [W i] else []
theorem lW_len (nx : Nat → Option Nat) (b : Nat) (own : Sp) (W : Nat → Sp) : ∀ i, (lW nx b own W i).length ≤ i + 1
  | 0 => Nat.le_refl _
  | i + 1 => by
    have := lW_len nx b own W i
    unfold lW
    rw [List.length_append]
    split <;> simp <;> omega
theorem lW_sum (nx : Nat → Option Nat) (b : Nat) (own : Sp) (W : Nat → Sp) : ∀ i, sumS (lW nx b own W i) = (own.1 + sumN i (fun x => if nx x = some b then (W x).1 else 0), own.2 + sumN i (fun x => if nx x = some b then (W x).2 else 0))
  | 0 => by simp [lW, sumS, sumN]
  | i + 1 => by
    have ih := lW_sum nx b own W i
    unfold lW
    by_cases h : nx i = some b
    · rw [if_pos h, sumS_snoc, ih]
      simp only [sumN, if_pos h]
      exact Prod.ext (by dsimp only; omega) (by dsimp only; omega)
    · rw [if_neg h, List.append_nil, ih]
      simp only [sumN, if_neg h, Int.add_zero]
theorem lW_mem {nx : Nat → Option Nat} {b : Nat} {own : Sp} {W : Nat → Sp} {x : Sp} : ∀ {i : Nat}, x ∈ lW nx b own W i → x = own ∨ ∃ j, j < i ∧ nx j = some b ∧ x = W j
  | 0, h => .inl (by simpa [lW] using h)
  | i + 1, h => by
    unfold lW at h
    rcases List.mem_append.1 h with h | h
    · rcases lW_mem h with h | ⟨j, h1, h2⟩
      · exact .inl h
      · exact .inr ⟨j, by omega, h2⟩
    · split at h
      · rename_i hn
        exact .inr ⟨i, by omega, hn, by simpa using h⟩
      · cases h
def toV (b1 b2 b3 : Nat) : Value := .func (.func 86) #[] #[.pointer (some ⟨b1, 0, none⟩), .pointer (some ⟨b2, 0, none⟩), .pointer (some ⟨b3, 0, none⟩)]
attribute [local irreducible] AnyO AnyB QAny QB EWalk AWalk Ev WP OPS QThen QBlock QScope QLoop QBody Val New Turn Tri Enters PostA Blk Ro
attribute [local irreducible] AnyC QC
section
variable (N : Nat) (w0 : World)
set_option maxHeartbeats 4000000 in
theorem wat1_ret (d : Dr) (hv : VD d) (A1 : Option Addr) (c1 : Nat) (hA : SlAt N w0 A1 4 (d.banks.map bkL)) (nx : Nat → Option Nat) (l : Nat → Int) (hd : ∀ x y, nx x = some y → y < d.banks.length ∧ l y < l x) (b1 b2 b3 bc : Nat) :
    ∀ (k bank : Nat), bank < d.banks.length → upR d.banks.length l bank ≤ k → ∀ (L : Hp), Mem b1 (Blk 25 [.slice A1 d.banks.length c1]) L → Mem b2 (Blk 76 [.slice (some ⟨bc, 0, none⟩) d.banks.length d.banks.length]) L → Mem b3 (Blk 118 [toV b1 b2 b3]) L → Mem bc (Blk 3 (crs d.banks.length nx)) L →
    Ret Try.prog N w0 L 86 [.int .i64 (bank : Int), .pointer (some ⟨b1, 0, none⟩), .pointer (some ⟨b2, 0, none⟩), .pointer (some ⟨b3, 0, none⟩)].toArray (.agg [.int .i64 (watF d.banks.length nx (loY d) k bank), .int .i64 (watF d.banks.length nx (hiY d) k bank)].toArray) := by
  intro k
  have hnb := hv.nb
  unfold toV
  induction k using Nat.strongRecOn with
  | _ k ih =>
    intro bank hbk hup L m1 m2 m3 m4
    obtain ⟨bA, oA, hA1, hbA, hcA⟩ := hA.row bank hbk
    have hro : Ro w0 bA (oA + bank * 4 + 2) [.int .i64 d.banks[bank].yd.1, .int .i64 d.banks[bank].yd.2] := RoDrop hcA 2
    have hy1 : loY d bank = d.banks[bank].yd.1 := by unfold loY; rw [List.getD_eq_getElem?_getD, List.getElem?_map, List.getElem?_eq_getElem hbk]; rfl
    have hy2 : hiY d bank = d.banks[bank].yd.2 := by unfold hiY; rw [List.getD_eq_getElem?_getD, List.getElem?_map, List.getElem?_eq_getElem hbk]; rfl
    obtain ⟨own, hown⟩ : ∃ own, d.banks[bank].yd = own := ⟨_, rfl⟩
    rw [hown] at hro hy1 hy2
    have hyb := fun z => yd_bd hv z
    obtain ⟨W, hW⟩ : ∃ W : Nat → Sp, W = fun x => (watF d.banks.length nx (loY d) (k - 1) x, watF d.banks.length nx (hiY d) (k - 1) x) := ⟨_, rfl⟩
    have hWx : ∀ x, W x = (watF d.banks.length nx (loY d) (k - 1) x, watF d.banks.length nx (hiY d) (k - 1) x) := fun x => by rw [hW]
    have hupx : ∀ x, x < d.banks.length → nx x = some bank → upR d.banks.length l x < upR d.banks.length l bank := fun x hx h => upR_lt hx (hd x bank h).2
    have hWb : ∀ x, x < d.banks.length → nx x = some bank → (0 ≤ (W x).1 ∧ (W x).1 ≤ 100) ∧ 0 ≤ (W x).2 ∧ (W x).2 ≤ 100 := by
      intro x hx h
      have h1 := hupx x hx h
      have h2 := watF_bd hd (y := loY d) (fun z _ => by have := hyb z; omega) (k := k - 1) hx (by omega)
      have h3 := watF_bd hd (y := hiY d) (fun z _ => by have := hyb z; omega) (k := k - 1) hx (by omega)
      rw [hWx]
      dsimp only
      omega
    have hun1 := watF_un hd (loY d) hup
    have hun2 := watF_un hd (hiY d) hup
    have hsum := lW_sum nx bank own W d.banks.length
    simp only [hWx, ← hy1, ← hy2] at hsum
    rw [← hun1, ← hun2] at hsum
    have hel : ∀ i, i ≤ d.banks.length → ∀ x ∈ lW nx bank own W i, (0 ≤ x.1 ∧ x.1 ≤ 1000000) ∧ 0 ≤ x.2 ∧ x.2 ≤ 1000000 := by
      intro i hi x hx
      rcases lW_mem hx with rfl | ⟨j, h1, h2, rfl⟩
      · have := hyb bank; omega
      · have := hWb j (by omega) h2; omega
    obtain ⟨r1, hr1⟩ : ∃ r, watF d.banks.length nx (loY d) k bank = r := ⟨_, rfl⟩
    obtain ⟨r2, hr2⟩ : ∃ r, watF d.banks.length nx (hiY d) k bank = r := ⟨_, rfl⟩
    rw [hr1, hr2] at hsum ⊢
    refine Ret.fgt ?_
    refine tri_of_WP Try.func86 rfl (n := _) rfl (by simp) ?_
    repeat' (first | (refine GiP ?_; first | (refine Znh ?_) | (with_reducible refine Znl ?_)) | (refine GiW ?_; first | (refine Zsq fun K hK => ?_) | (refine ZrN 0 fun _ => ?_; refine Zal 5 fun b5 => ?_) | (refine ZrN 1 fun _ => ?_; refine Zv Zld ?_; refine Zv Zmi ?_; refine Zv Zia ?_; refine Zv Zfa ?_; refine Zv Zla ?_; refine Zal 14 fun b14 => ?_; refine Zv Zav ?_) | (refine ZrN 2 fun _ => ?_; refine Zv Zld ?_; refine Zv Zxlen ?_; refine Zv Zmi ?_) | (refine WP_cond_true rfl ?_) | (refine WP_cond_false rfl ?_) | (refine Zcd (fun hc => ?_) (fun hc => ?_) <;> (try (exfalso; omega))) | (with_reducible apply WP_skip) | (with_reducible apply WP_block) | (with_reducible apply WP_exit) | (with_reducible apply WP_ret)) | (refine Zhn ?_) | (with_reducible apply QBlock_normal) | (refine Zhx ?_) | (with_reducible apply QBlock_hit) | (refine Zqb ?_) | (with_reducible apply QLoop_exit) | (refine Zhr ?_) | (with_reducible apply QBlock_ret) | (with_reducible apply QLoop_ret))
    refine WP_loop [6, 7, 8, 17, 18, 19, 20, 21, 22, 23, 24, 25, 26, 27, 28, 29, 30, 31] (fun q : Nat × Option (Nat × Nat) => [(17, .int .i64 (q.1 : Int)), (6, svV q.2 (lW nx bank own W q.1).length)]) (fun q => svH 35 2 (lW nx bank own W q.1).length ((lW nx bank own W q.1).map spL).flatten q.2 ((b5, Blk 35 [.int .i64 0, .int .i64 0]) :: L)) (fun q => q.1 ≤ d.banks.length ∧ svOk q.2 2 (lW nx bank own W q.1).length ((lW nx bank own W q.1).map spL).flatten) (fun q => d.banks.length - q.1) (0, some (b14, 1)) (.cons rfl (.cons rfl .nil)) (.keep (fun o ho => blk_row (k := 1) ho rfl (by unfold maxLen; omega)) (Wk.refl _)) ⟨Nat.zero_le _, rfl, fun h => by cases h⟩ ?_
    rintro ⟨i, s⟩ j ⟨hi, hs⟩
    dsimp only at hi hs ⊢
    have hll := lW_len nx bank own W i
    by_cases hlt : i < d.banks.length
    · have hcell := crs_get (nx := nx) hlt
      by_cases hn : nx i = some bank
      · have hnx2 : lW nx bank own W (i + 1) = lW nx bank own W i ++ [W i] := by show _ ++ (if _ then _ else _) = _; rw [if_pos hn]
        have hln : (lW nx bank own W (i + 1)).length = (lW nx bank own W i).length + 1 := by rw [hnx2, List.length_append]; rfl
        have hfl : ((lW nx bank own W (i + 1)).map spL).flatten = ((lW nx bank own W i).map spL).flatten ++ [[Value.int .i64 (W i).1, .int .i64 (W i).2]].flatten := by rw [hnx2, List.map_append, List.flatten_append]; rfl
        have hc1 : codeO (nx i) = (bank : Int) := by rw [hn]; rfl
        rw [hc1] at hcell
        have hu := hupx i hlt hn
        have ihc := fun L m1 m2 m3 m4 => ih (k - 1) (by omega) i hlt (by omega) L m1 m2 m3 m4
        rw [← show (W i).1 = watF d.banks.length nx (loY d) (k - 1) i by rw [hWx], ← show (W i).2 = watF d.banks.length nx (hiY d) (k - 1) i by rw [hWx]] at ihc
        repeat' (first | (refine GiP ?_; first | (refine Znh ?_) | (with_reducible refine Znl ?_)) | (refine GiW ?_; first | (refine Zsq fun K hK => ?_) | (refine ZrN 3 fun _ => ?_; refine Zv Zxlss ?_) | (refine ZrN 4 fun _ => ?_; refine Zv Zmi ?_; refine Zv Zia ?_; refine Zv Zld ?_; refine Zv Zai ?_; refine Zv Zai ?_) | (refine ZrN 5 fun _ => ?_; refine Zv Zmi ?_; refine Zv Zmi ?_; refine Zv Zxeql ?_) | (refine ZrN 6 fun _ => ?_; refine Zv Zmv ?_; refine Zv Zld ?_; refine Zv Zmi ?_; refine Zcl (Enters_val rfl rfl) (ihc _ (by repeat (first | exact Mem.here | assumption | apply Mem.there | apply Mem.sv | apply Mem.app)) (by repeat (first | exact Mem.here | assumption | apply Mem.there | apply Mem.sv | apply Mem.app)) (by repeat (first | exact Mem.here | assumption | apply Mem.there | apply Mem.sv | apply Mem.app)) (by repeat (first | exact Mem.here | assumption | apply Mem.there | apply Mem.sv | apply Mem.app))) ?_; refine Zal 29 fun b29 => ?_; refine OPS_append rfl rfl rfl (by repeat (first | exact Wk.refl _ | apply Wk.keep1 | apply Wk.drop | apply Wk.sv | apply Wk.svD | apply Wk.appD)) (by assumption) (blk_cells (by repeat (first | exact Mem.here | assumption | apply Mem.there | apply Mem.sv | apply Mem.app))) rfl rfl (by simp only [maxLen]; omega) (by omega) rfl rfl (fun s30 hs30 => ?_); refine Zv Zav ?_) | (refine ZrN 7 fun _ => ?_; refine Zv Zxadd ?_; refine Zv Zmi ?_) | (refine WP_cond_true rfl ?_) | (refine WP_cond_false rfl ?_) | (refine Zcd (fun hc => ?_) (fun hc => ?_) <;> (try (exfalso; omega))) | (with_reducible apply WP_skip) | (with_reducible apply WP_block) | (with_reducible apply WP_exit) | (with_reducible apply WP_ret)) | (refine Zhn ?_) | (with_reducible apply QBlock_normal) | (refine Zhx ?_) | (with_reducible apply QBlock_hit) | (refine Zqb ?_) | (with_reducible apply QLoop_exit) | (refine Zhr ?_) | (with_reducible apply QBlock_ret) | (with_reducible apply QLoop_ret))
        refine QLoop_normal (i + 1, s30) (.cons rfl (.cons (by dsimp only; rw [hln]; rfl) .nil)) (by repeat (first | exact Off.frame rfl | exact Off.refl _ _ | refine Off.frameT rfl rfl ?_ | refine Off.upd rfl ?_ | refine Off.updO rfl ?_)) (by dsimp only; rw [hln, hfl]; exact (by repeat (first | exact Wk.refl _ | apply Wk.keep1 | apply Wk.drop | apply Wk.sv | apply Wk.svD | apply Wk.appD))) ⟨by dsimp only; omega, by dsimp only; rw [hln, hfl]; exact hs30⟩ (by dsimp only; omega)
      · have hnx2 : lW nx bank own W (i + 1) = lW nx bank own W i := by show _ ++ (if _ then _ else _) = _; rw [if_neg hn, List.append_nil]
        have hc1 : codeO (nx i) ≠ (bank : Int) := by
          intro h
          apply hn
          cases hz : nx i with
          | none => rw [hz] at h; simp only [codeO] at h; omega
          | some z => rw [hz] at h; simp only [codeO] at h; congr 1; omega
        obtain ⟨cz, hcz⟩ : ∃ cz, codeO (nx i) = cz := ⟨_, rfl⟩
        rw [hcz] at hcell hc1
        repeat' (first | (refine GiP ?_; first | (refine Znh ?_) | (with_reducible refine Znl ?_)) | (refine GiW ?_; first | (refine Zsq fun K hK => ?_) | (refine ZrN 3 fun _ => ?_; refine Zv Zxlss ?_) | (refine ZrN 4 fun _ => ?_; refine Zv Zmi ?_; refine Zv Zia ?_; refine Zv Zld ?_; refine Zv Zai ?_; refine Zv Zai ?_) | (refine ZrN 5 fun _ => ?_; refine Zv Zmi ?_; refine Zv Zmi ?_; refine Zv Zxeql ?_) | (refine ZrN 7 fun _ => ?_; refine Zv Zxadd ?_; refine Zv Zmi ?_) | (refine WP_cond_true rfl ?_) | (refine WP_cond_false rfl ?_) | (refine Zcd (fun hc => ?_) (fun hc => ?_) <;> (try (exfalso; omega))) | (with_reducible apply WP_skip) | (with_reducible apply WP_block) | (with_reducible apply WP_exit) | (with_reducible apply WP_ret)) | (refine Zhn ?_) | (with_reducible apply QBlock_normal) | (refine Zhx ?_) | (with_reducible apply QBlock_hit) | (refine Zqb ?_) | (with_reducible apply QLoop_exit) | (refine Zhr ?_) | (with_reducible apply QBlock_ret) | (with_reducible apply QLoop_ret))
        refine QLoop_normal (i + 1, s) (.cons rfl (.cons (by dsimp only; rw [hnx2]; rfl) .nil)) (by repeat (first | exact Off.frame rfl | exact Off.refl _ _ | refine Off.frameT rfl rfl ?_ | refine Off.upd rfl ?_ | refine Off.updO rfl ?_)) (by dsimp only; rw [hnx2]; exact (by repeat (first | exact Wk.refl _ | apply Wk.keep1 | apply Wk.drop | apply Wk.sv | apply Wk.svD | apply Wk.appD))) ⟨by dsimp only; omega, by dsimp only; rw [hnx2]; exact hs⟩ (by dsimp only; omega)
    · have hie : i = d.banks.length := by omega
      obtain ⟨A6, c6, h6, hrd⟩ := RdRows.sv (E := 35) (by omega) hs
      have hsm := fun L' (hk : Wk L' (svH 35 2 (lW nx bank own W i).length ((lW nx bank own W i).map spL).flatten s [])) => sum_ret N w0 L' A6 c6 (lW nx bank own W i) (by omega) (hel i hi) (hrd N w0 L' _ hk rfl (map_len (f := spL) (fun _ => rfl) _))
      subst hie
      rw [hsum] at hsm
      rw [h6]
      repeat' (first | (refine GiP ?_; first | (refine Znh ?_) | (with_reducible refine Znl ?_)) | (refine GiW ?_; first | (refine Zsq fun K hK => ?_) | (refine ZrN 3 fun _ => ?_; refine Zv Zxlss ?_) | (refine ZrN 8 fun _ => ?_; refine Zv Zmv ?_; refine Zcl (Enters_fn rfl) (hsm _ Wk.sv0) ?_; refine Zst ?_) | (refine WP_cond_true rfl ?_) | (refine WP_cond_false rfl ?_) | (refine Zcd (fun hc => ?_) (fun hc => ?_) <;> (try (exfalso; omega))) | (with_reducible apply WP_skip) | (with_reducible apply WP_block) | (with_reducible apply WP_exit) | (with_reducible apply WP_ret)) | (refine Zhn ?_) | (with_reducible apply QBlock_normal) | (refine Zhx ?_) | (with_reducible apply QBlock_hit) | (refine Zqb ?_) | (with_reducible apply QLoop_exit) | (refine Zhr ?_) | (with_reducible apply QBlock_ret) | (with_reducible apply QLoop_ret))
      dsimp only
      exact QBody_res rfl (.cellN rfl (by repeat (first | exact Mem.here | assumption | apply Mem.there | apply Mem.sv | apply Mem.app)) (.here (.cons (.cons .nil))) .nil) rfl ⟨rfl, (by repeat (first | exact Wk.refl _ | apply Wk.keep1 | apply Wk.drop | apply Wk.sv | apply Wk.svD | apply Wk.appD))⟩
/-- All waters, as they lie. -/
def watL (d : Dr) (nx : Nat → Option Nat) (i : Nat) : List Value := (((List.range i).map (watS d nx)).map spL).flatten
theorem watL_len (d : Dr) (nx : Nat → Option Nat) (i : Nat) : (watL d nx i).length = i * 2 := by
  unfold watL
  rw [map_flat (f := spL) (sz := 2) (fun _ => rfl)]; simp
theorem watL_succ (d : Dr) (nx : Nat → Option Nat) (i : Nat) : watL d nx (i + 1) = watL d nx i ++ spL (watS d nx i) := by
  unfold watL
  rw [List.range_succ, List.map_append, List.map_append, List.flatten_append]; simp
theorem watL_get {d : Dr} {nx : Nat → Option Nat} : ∀ {n i : Nat}, i < n → ∀ (j : Nat) (v : Value), (spL (watS d nx i))[j]? = some v → (watL d nx n)[i * 2 + j]? = some v
  | 0, _, h, _, _, _ => by omega
  | n + 1, i, h, j, v, hj => by
    have hj2 : j < 2 := (List.getElem?_eq_some_iff.1 hj).1
    rw [watL_succ]
    by_cases hi : i = n
    · subst hi
      rw [List.getElem?_append_right (by rw [watL_len]; omega), watL_len, Nat.add_sub_cancel_left]; exact hj
    · rw [List.getElem?_append_left (by rw [watL_len]; omega)]
      exact watL_get (by omega) j v hj
theorem setL_fill : ∀ (vs xs : List Value) (o : Nat), o + vs.length ≤ xs.length → (setL xs o vs).take (o + vs.length) = xs.take o ++ vs
  | [], xs, o, _ => by simp [setL]
  | v :: vs, xs, o, h => by
    simp only [List.length_cons] at h
    have ih := setL_fill vs (xs.set o v) (o + 1) (by simp; omega)
    show (setL (xs.set o v) (o + 1) vs).take (o + (vs.length + 1)) = _
    rw [show o + (vs.length + 1) = o + 1 + vs.length by omega, ih, List.take_succ_eq_append_getElem (by simp; omega), List.take_set, List.set_eq_of_length_le (by simp; omega)]
    simp
set_option maxHeartbeats 4000000 in
theorem waters_tri (L : Hp) (d : Dr) (hv : VD d) (A1 : Option Addr) (c1 : Nat) (hA : SlAt N w0 A1 4 (d.banks.map bkL)) (nx : Nat → Option Nat) (l : Nat → Int) (hd : ∀ x y, nx x = some y → y < d.banks.length ∧ l y < l x) (bc : Nat) (hm : Mem bc (Blk 3 (crs d.banks.length nx)) L) :
    Tri Try.prog N w0 L 53 [.slice (some ⟨bc, 0, none⟩) d.banks.length d.banks.length, .slice A1 d.banks.length c1].toArray fun x L' => ∃ v, x = .returned v ∧ ∃ b, v = .slice (some ⟨b, 0, none⟩) d.banks.length d.banks.length ∧ L' = (b, Blk 35 (watL d nx d.banks.length)) :: L := by
  have hnb := hv.nb
  have hw := fun b1 b2 b3 bank hb => wat1_ret N w0 d hv A1 c1 hA nx l hd b1 b2 b3 bc d.banks.length bank hb (Nat.le_of_lt (upR_n hb))
  unfold toV at hw
  refine Tri.fgt ?_
  refine tri_of_WP Try.func53 rfl (n := _) rfl (by simp) ?_
  repeat' (first | (refine GiP ?_; first | (refine Znh ?_) | (with_reducible refine Znl ?_)) | (refine GiW ?_; first | (refine Zsq fun K hK => ?_) | (refine ZrN 0 fun _ => ?_; refine Zal 2 fun b2 => ?_; refine Zal 3 fun b3 => ?_; refine Zv Zav ?_) | (refine ZrN 1 fun _ => ?_; refine Zv Zld ?_; refine Zv Zxlen ?_; refine OPS_makeR (m := d.banks.length) rfl rfl rfl (Nat.le_refl _) (by omega) (by unfold maxLen; omega) rfl rfl (fun b10 xs10 h10 h10z => ?_); refine Zv Zav ?_) | (refine ZrN 2 fun _ => ?_; refine Zal 6 fun b6 => ?_) | (refine ZrN 3 fun _ => ?_; refine Zv Val_makeFunc ?_; refine Zst ?_) | (refine ZrN 4 fun _ => ?_; refine Zv Zld ?_; refine Zv Zxlen ?_; refine Zv Zmi ?_) | (refine WP_cond_true rfl ?_) | (refine WP_cond_false rfl ?_) | (refine Zcd (fun hc => ?_) (fun hc => ?_) <;> (try (exfalso; omega))) | (with_reducible apply WP_skip) | (with_reducible apply WP_block) | (with_reducible apply WP_exit) | (with_reducible apply WP_ret)) | (refine Zhn ?_) | (with_reducible apply QBlock_normal) | (refine Zhx ?_) | (with_reducible apply QBlock_hit) | (refine Zqb ?_) | (with_reducible apply QLoop_exit) | (refine Zhr ?_) | (with_reducible apply QBlock_ret) | (with_reducible apply QLoop_ret))
  refine WP_loop [7, 14, 15, 16, 17, 18, 19, 20, 21, 22, 23] (fun q : Nat × List Value => [(14, .int .i64 (q.1 : Int))]) (fun q => (b6, Blk 118 [.func (.func 86) #[] #[.pointer (some ⟨b3, 0, none⟩), .pointer (some ⟨b2, 0, none⟩), .pointer (some ⟨b6, 0, none⟩)]]) :: (b10, Blk 35 q.2) :: (b3, Blk 25 [.slice A1 d.banks.length c1]) :: (b2, Blk 76 [.slice (some ⟨bc, 0, none⟩) d.banks.length d.banks.length]) :: L) (fun q => q.1 ≤ d.banks.length ∧ q.2.length = d.banks.length * 2 ∧ q.2.take (q.1 * 2) = watL d nx q.1) (fun q => d.banks.length - q.1) (0, xs10) (.cons rfl .nil) (.keep1 (.keep (fun o ho => row_blk ho) (Wk.refl _))) ⟨Nat.zero_le _, h10, rfl⟩ ?_
  rintro ⟨i, xs⟩ j ⟨hi, hl, ht⟩
  dsimp only at hi hl ht ⊢
  by_cases hlt : i < d.banks.length
  · have hwc := fun L m1 m2 m3 m4 => hw b3 b2 b6 i hlt L m1 m2 m3 m4
    have hfill := setL_fill (spL (watS d nx i)) xs (i * 2) (by simp [spL]; omega)
    have hsp : spL (watS d nx i) = [.int .i64 (watF d.banks.length nx (loY d) d.banks.length i), .int .i64 (watF d.banks.length nx (hiY d) d.banks.length i)] := rfl
    obtain ⟨ys, hys⟩ : ∃ ys, setL xs (0 + i * 2) [.int .i64 (watF d.banks.length nx (loY d) d.banks.length i), .int .i64 (watF d.banks.length nx (hiY d) d.banks.length i)] = ys := ⟨_, rfl⟩
    have hyl : ys.length = d.banks.length * 2 := by rw [← hys, setL_length, hl]
    have hyt : ys.take ((i + 1) * 2) = watL d nx (i + 1) := by
      rw [watL_succ, ← ht, ← hfill, ← hys, Nat.zero_add, ← hsp]
      rw [show i * 2 + (spL (watS d nx i)).length = (i + 1) * 2 by simp [spL]; omega]
    repeat' (first | (refine GiP ?_; first | (refine Znh ?_) | (with_reducible refine Znl ?_)) | (refine GiW ?_; first | (refine Zsq fun K hK => ?_) | (refine ZrN 5 fun _ => ?_; refine Zv Zxlss ?_) | (refine ZrN 6 fun _ => ?_; refine Zv Zmi ?_; refine Zv Zai ?_) | (refine ZrN 7 fun _ => ?_; refine Zv Zmv ?_; refine Zv Zmi ?_; refine Zv Zld ?_; refine Zv Zmi ?_; refine Zcl (Enters_val rfl rfl) (hwc _ (by repeat (first | exact Mem.here | assumption | apply Mem.there | apply Mem.sv | apply Mem.app)) (by repeat (first | exact Mem.here | assumption | apply Mem.there | apply Mem.sv | apply Mem.app)) (by repeat (first | exact Mem.here | assumption | apply Mem.there | apply Mem.sv | apply Mem.app)) (by repeat (first | exact Mem.here | assumption | apply Mem.there | apply Mem.sv | apply Mem.app))) ?_; refine Zv Zia ?_; (first | (refine Zst ?_) | (refine OPS_turnN (Turn_storeG rfl rfl (by repeat (first | exact Up.here | apply Up.there | apply Up.sv)) rfl (by rw [hl]; simp only [List.length_cons, List.length_nil]; omega) hys rfl rfl) rfl rfl ?_))) | (refine ZrN 8 fun _ => ?_; refine Zv Zxadd ?_; refine Zv Zmi ?_) | (refine WP_cond_true rfl ?_) | (refine WP_cond_false rfl ?_) | (refine Zcd (fun hc => ?_) (fun hc => ?_) <;> (try (exfalso; omega))) | (with_reducible apply WP_skip) | (with_reducible apply WP_block) | (with_reducible apply WP_exit) | (with_reducible apply WP_ret)) | (refine Zhn ?_) | (with_reducible apply QBlock_normal) | (refine Zhx ?_) | (with_reducible apply QBlock_hit) | (refine Zqb ?_) | (with_reducible apply QLoop_exit) | (refine Zhr ?_) | (with_reducible apply QBlock_ret) | (with_reducible apply QLoop_ret))
    exact QLoop_normal (i + 1, ys) (.cons rfl .nil) (by repeat (first | exact Off.frame rfl | exact Off.refl _ _ | refine Off.frameT rfl rfl ?_ | refine Off.upd rfl ?_ | refine Off.updO rfl ?_)) (by repeat (first | exact Wk.refl _ | apply Wk.keep1 | apply Wk.drop | apply Wk.sv | apply Wk.svD | apply Wk.appD)) ⟨by dsimp only; omega, hyl, hyt⟩ (by dsimp only; omega)
  · have hie : i = d.banks.length := by omega
    subst hie
    rw [List.take_of_length_le (by rw [hl]; exact Nat.le_refl _)] at ht
    subst ht
    repeat' (first | (refine GiP ?_; first | (refine Znh ?_) | (with_reducible refine Znl ?_)) | (refine GiW ?_; first | (refine Zsq fun K hK => ?_) | (refine ZrN 5 fun _ => ?_; refine Zv Zxlss ?_) | (refine ZrN 9 fun _ => ?_; refine Zv Zmv ?_; refine Zv Zav ?_) | (refine WP_cond_true rfl ?_) | (refine WP_cond_false rfl ?_) | (refine Zcd (fun hc => ?_) (fun hc => ?_) <;> (try (exfalso; omega))) | (with_reducible apply WP_skip) | (with_reducible apply WP_block) | (with_reducible apply WP_exit) | (with_reducible apply WP_ret)) | (refine Zhn ?_) | (with_reducible apply QBlock_normal) | (refine Zhx ?_) | (with_reducible apply QBlock_hit) | (refine Zqb ?_) | (with_reducible apply QLoop_exit) | (refine Zhr ?_) | (with_reducible apply QBlock_ret) | (with_reducible apply QLoop_ret))
    exact QBody_ret1 rfl (rfl : _ = Value.slice _ _ _) ⟨_, (by repeat (first | exact Wk.refl _ | apply Wk.keep1 | apply Wk.drop | apply Wk.sv | apply Wk.svD | apply Wk.appD)), _, rfl, b10, rfl, rfl⟩
theorem flow_ret (L : Hp) (g : Fg) (hv : VD g.d) (hA : DrAt N w0 g) (nx : Nat → Option Nat) (l : Nat → Int) (hd : ∀ x y, nx x = some y → y < g.d.banks.length ∧ l y < l x) (bc : Nat) (hm : Mem bc (Blk 3 (crs g.d.banks.length nx)) L) (hb : Mem g.b (Blk 85 (bogL g)) L) (a b : Nat) (ha : a < g.d.banks.length) :
    Ret Try.prog N w0 L 58 [.pointer (some ⟨g.b, 0, none⟩), .slice (some ⟨bc, 0, none⟩) g.d.banks.length g.d.banks.length, .int .i64 (a : Int), .int .i64 (b : Int)].toArray (.agg [.int .i64 (flowS g.d nx a b).1, .int .i64 (flowS g.d nx a b).2].toArray) := by
  have hcell := crs_get (nx := nx) ha
  have hwt := fun L hm => waters_tri N w0 L g.d hv g.A1 g.c1 hA.banks nx l hd bc hm
  obtain ⟨cz, hcz⟩ : ∃ cz, codeO (nx a) = cz := ⟨_, rfl⟩
  rw [hcz] at hcell
  have hyes : cz = (b : Int) → nx a = some b := by
    intro h
    rw [← hcz] at h
    cases hz : nx a with
    | none => rw [hz] at h; simp only [codeO] at h; omega
    | some z => rw [hz] at h; simp only [codeO] at h; congr 1; omega
  have hno : cz ≠ (b : Int) → flowS g.d nx a b = (0, 0) := by
    intro h
    unfold flowS
    rw [if_neg (by intro h2; apply h; rw [← hcz, h2]; rfl)]
  have hfl : cz = (b : Int) → flowS g.d nx a b = watS g.d nx a := fun h => by unfold flowS; rw [if_pos (hyes h)]
  have hcut : Cut (watL g.d nx g.d.banks.length) (0 + a * 2) 2 (spL (watS g.d nx a)) := Cut.of rfl (by omega) (fun j v hj => by rw [Nat.zero_add]; exact watL_get ha j v hj)
  unfold spL at hcut
  refine Ret.fgt ?_
  refine tri_of_WP Try.func58 rfl (n := _) rfl (by simp) ?_
  unfold bogL at hb
  repeat' (first | (refine GiP ?_; first | (refine Znh ?_) | (with_reducible refine Znl ?_)) | (refine GiW ?_; first | (refine Zsq fun K hK => ?_) | (refine ZrN 0 fun _ => ?_; refine Zal 8 fun b8 => ?_) | (refine ZrN 1 fun _ => ?_; refine Zv Zmv ?_; refine Zv Zmi ?_; refine Zv Zia ?_; (first | (refine Zv (Val_loadN rfl (by repeat (first | exact Mem.here | assumption | apply Mem.there | apply Mem.sv | apply Mem.app)) hcut) ?_) | (refine Zv Zld ?_)); refine Zv Zmi ?_; refine Zv Zxneq ?_) | (refine ZrN 2 fun _ => ?_; refine Zv Zxbu ?_; refine Zst ?_) | (refine ZrN 3 fun _ => ?_; refine Zv Zmv ?_; refine Zv Zmv ?_; (first | (refine Zv Zxnp ?_) | (refine Zv Zxnf ?_)); refine Zv Zf0 ?_; refine Zv Zf0 ?_; (first | (refine Zv (Val_loadN rfl (by repeat (first | exact Mem.here | assumption | apply Mem.there | apply Mem.sv | apply Mem.app)) hcut) ?_) | (refine Zv Zld ?_)); refine OPS_retKS (Enters_fn rfl) (hwt _ (by repeat (first | exact Mem.here | assumption | apply Mem.there | apply Mem.sv | apply Mem.app))) rfl rfl rfl (fun v22 L22 h22 => ?_); obtain ⟨b22, rfl, rfl⟩ := h22; refine Zv Zmi ?_; refine Zv Zia ?_; (first | (refine Zv (Val_loadN rfl (by repeat (first | exact Mem.here | assumption | apply Mem.there | apply Mem.sv | apply Mem.app)) hcut) ?_) | (refine Zv Zla ?_)); refine Zst ?_) | (refine WP_cond_true rfl ?_) | (refine WP_cond_false rfl ?_) | (refine Zcd (fun hc => ?_) (fun hc => ?_) <;> (try (exfalso; omega))) | (with_reducible apply WP_skip) | (with_reducible apply WP_ret)) | (refine Zhn ?_) | (refine Zhr ?_))
  · exact QBody_res rfl (.cellN rfl (by repeat (first | exact Mem.here | assumption | apply Mem.there | apply Mem.sv | apply Mem.app)) (.here (.cons (.cons .nil))) .nil) rfl ⟨by rw [hno (by assumption)]; rfl, (by repeat (first | exact Wk.refl _ | apply Wk.keep1 | apply Wk.drop | apply Wk.sv | apply Wk.svD | apply Wk.appD))⟩
  · exact QBody_res rfl (.cellN rfl (by repeat (first | exact Mem.here | assumption | apply Mem.there | apply Mem.sv | apply Mem.app)) (.here (.cons (.cons .nil))) .nil) rfl ⟨by rw [hfl (by assumption)]; rfl, (by repeat (first | exact Wk.refl _ | apply Wk.keep1 | apply Wk.drop | apply Wk.sv | apply Wk.svD | apply Wk.appD))⟩
end
end Go.Proofs.Ytbhgpnbfdjoglaa
end

section
namespace Go.Proofs.Ytbhgpnbfdjoglaa
open Go.RowKit
def argL (l : List (List Int)) : List (List Value) := l.map fun r => [.agg (ints (pad5 r)).toArray]
/-- The levels that begin with p. -/
def seg (p : List Int) (bs : List Bk) : List (List Value) := argL ((allR (bs.map (·.lv))).map (p ++ ·))
theorem seg_nil (p : List Int) : seg p [] = [[.agg (ints (pad5 p)).toArray]] := by simp [seg, allR, argL]
theorem seg_cons (p : List Int) (s : Bk) (l : List Bk) : seg p (s :: l) = (vals s.lv).flatMap fun v => seg (p ++ [v]) l := by
  simp only [seg, List.map_cons, allR, argL, List.map_flatMap, List.map_map]
  congr 1
  funext v
  apply List.map_congr_left
  intro q _
  simp
theorem seg_rows (d : Dr) : seg [] d.banks = argL (rowsD d) := by simp [seg, rowsD]
theorem SegAt {xs pre post : List (List Value)} {p : List Int} (h : xs = pre ++ (seg p [] ++ post)) : ∃ hk : pre.length < xs.length, xs[pre.length] = [.agg (ints (pad5 p)).toArray] := by
  subst h
  rw [seg_nil]
  exact ⟨by simp, by simp⟩
/-- What the banks' own levels are while they are gone through: the first ones are p. -/
def Own (nb : Nat) (p q : List Int) : Prop := q.length = 5 ∧ q.take p.length = p ∧ q.drop nb = List.replicate (5 - nb) 0
theorem Own.whole {nb : Nat} {p q : List Int} (h : Own nb p q) (hp : p.length = nb) : q = pad5 p := by
  obtain ⟨h1, h2, h3⟩ := h
  rw [← List.take_append_drop nb q, h3]
  unfold pad5
  rw [hp] at h2 ⊢
  rw [h2]
theorem Own.set {nb : Nat} {p q : List Int} (h : Own nb p q) (hp : p.length < nb) (hb : nb ≤ 5) (v : Int) : Own nb (p ++ [v]) (q.set p.length v) := by
  obtain ⟨h1, h2, h3⟩ := h
  refine ⟨by simpa using h1, ?_, ?_⟩
  · rw [List.length_append, List.length_singleton, List.take_set, List.take_succ_eq_append_getElem (by omega), h2]
    rw [List.set_append_right _ _ (Nat.le_refl _), Nat.sub_self]; rfl
  · rw [List.drop_set, if_pos hp, h3]
theorem Own.less {nb : Nat} {p q : List Int} {v : Int} (h : Own nb (p ++ [v]) q) : Own nb p q := by
  obtain ⟨h1, h2, h3⟩ := h
  refine ⟨h1, ?_, h3⟩
  have := congrArg (List.take p.length) h2
  rw [List.take_take] at this
  simpa using this
theorem perm3 {α : Type} {a b c : α} {l : List α} : (a :: b :: c :: l).Perm (c :: b :: a :: l) := (List.Perm.swap b a (c :: l)).trans ((List.Perm.cons b (List.Perm.swap c a l)).trans (List.Perm.swap c b (a :: l)))
def onV (pb b2 b3 b4 : Nat) : Value := .func (.func 104) #[] #[.pointer (some ⟨pb, 0, none⟩), .pointer (some ⟨b2, 0, none⟩), .pointer (some ⟨b3, 0, none⟩), .pointer (some ⟨b4, 0, none⟩)]
/-- What the iterator leans on: the box of the bog's pointer, and the bog. -/
def NdR (pb : Nat) (g : Fg) : Hp := [(pb, Blk 72 [.pointer (some ⟨g.b, 0, none⟩)]), (g.b, Blk 85 (bogL g))]
theorem RoAt' {w0 : World} {b o : Nat} {vs : List Value} (h : Ro w0 b o vs) (j : Nat) (v : Value) (hj : vs[j]? = some v) : w0.cell? ⟨b, o + j, none⟩ = some v := h j v hj
attribute [local irreducible] AnyO AnyB QAny QB EWalk AWalk Ev WP OPS QThen QBlock QScope QLoop QBody Val New Turn Tri Enters PostA Blk Ro
attribute [local irreducible] AnyC QC
section
variable (N : Nat) (w0 : World)
set_option maxHeartbeats 4000000 in
/-- The recursion over the banks: from the state behind the levels pre to that behind those that begin with p. -/
theorem on_tri (g : Fg) (hv : VD g.d) (hA : DrAt N w0 g) (Y : Value) (xs : List (List Value)) (J : Nat → Hp → Prop) (Jx : Hp → Prop) (hY : YieldOK Try.prog N w0 J Jx xs Y) (pb b2 b3 b4 : Nat)
    (hnd : ∀ k Fr, J k Fr → Sub (NdR pb g) Fr) :
    ∀ (r : Nat) (p : List Int) (pre post : List (List Value)) (Fr X : Hp) (q : List Int), r + p.length = g.d.banks.length → xs = pre ++ (seg p (g.d.banks.drop p.length) ++ post) → J pre.length Fr → Own g.d.banks.length p q →
      Tri Try.prog N w0 ((b2, Blk 104 [Y]) :: (b3, Blk 93 (ints q)) :: (b4, Blk 64 [onV pb b2 b3 b4]) :: (Fr ++ X)) 104
        [.int .i64 p.length, .pointer (some ⟨pb, 0, none⟩), .pointer (some ⟨b2, 0, none⟩), .pointer (some ⟨b3, 0, none⟩), .pointer (some ⟨b4, 0, none⟩)].toArray
        fun x L' => ∃ v, x = .returned v ∧ ∃ (bv : Bool) (Fr' : Hp) (q' : List Int), v = .bool bv ∧ Own g.d.banks.length p q' ∧ L' = (b2, Blk 104 [Y]) :: (b3, Blk 93 (ints q')) :: (b4, Blk 64 [onV pb b2 b3 b4]) :: (Fr' ++ X) ∧
          ((bv = true ∧ J (pre ++ seg p (g.d.banks.drop p.length)).length Fr') ∨ (bv = false ∧ Jx Fr')) := by
  intro r
  have hnb := hv.nb
  unfold onV
  induction r with
  | zero =>
    intro p pre post Fr X q hr hxs hJ hq
    have hpl : p.length = g.d.banks.length := by omega
    rw [hpl, List.drop_length] at hxs
    have hnd' := hnd _ _ hJ
    have hmp : Mem pb (Blk 72 [.pointer (some ⟨g.b, 0, none⟩)]) (Fr ++ X) := (hnd'.appR X).mem .here
    have hmb : Mem g.b (Blk 85 (bogL g)) (Fr ++ X) := (hnd'.appR X).mem (.there .here)
    obtain ⟨hk, hxk⟩ := SegAt hxs
    have hqw := hq.whole hpl
    have hint : (ints q).length = 5 := by simp [ints, hq.1]
    have hcut : Cut (ints q) 0 5 (ints q) := Cut.whole hint
    have hcv := hY.at ((b2, Blk 104 [Y]) :: (b3, Blk 93 (ints q)) :: (b4, Blk 64 [.func (.func 104) #[] #[.pointer (some ⟨pb, 0, none⟩), .pointer (some ⟨b2, 0, none⟩), .pointer (some ⟨b3, 0, none⟩), .pointer (some ⟨b4, 0, none⟩)]]) :: []) X hk hJ
    rw [hxk, ← hqw] at hcv
    unfold bogL at hmb
    refine tri_of_WP Try.func104 rfl (n := _) rfl (by simp) ?_
    repeat' (first | (refine Znh ?_) | (refine GiW ?_; first | (refine Zsq fun K hK => ?_) | (refine ZrN 0 fun _ => ?_; refine Zv Zab ?_) | (refine ZrN 1 fun _ => ?_; refine Zv Zmi ?_; (first | (refine Zv (Val_loadN rfl (by repeat (first | exact Mem.here | assumption | apply Mem.there | apply Mem.sv | apply Mem.app)) hcut) ?_) | (refine Zv Zld ?_)); (first | (refine Zv Zxnp ?_) | (refine Zv Zxnf ?_)); refine Zv Zf0 ?_; refine Zv Zf0 ?_; (first | (refine Zv (Val_loadN rfl (by repeat (first | exact Mem.here | assumption | apply Mem.there | apply Mem.sv | apply Mem.app)) hcut) ?_) | (refine Zv Zld ?_)); refine Zv Zxlen ?_; refine Zv Zxeql ?_) | (refine ZrN 2 fun _ => ?_; (first | (refine Zv (Val_loadN rfl (by repeat (first | exact Mem.here | assumption | apply Mem.there | apply Mem.sv | apply Mem.app)) hcut) ?_) | (refine Zv Zld ?_)); (first | (refine Zv (Val_loadN rfl (by repeat (first | exact Mem.here | assumption | apply Mem.there | apply Mem.sv | apply Mem.app)) hcut) ?_) | (refine Zv Zla ?_)); refine OPS_callVS rfl rfl hcv rfl rfl (fun v19 L19 hK19 => ?_); obtain ⟨bv, Fr', rfl, rfl, hc19⟩ := hK19; refine Zv Zab ?_) | (refine Zcd (fun hc => ?_) (fun hc => ?_) <;> (try (exfalso; omega))) | (with_reducible apply WP_ret)) | (refine Zhr ?_))
    refine QBody_ret1 rfl (rfl : _ = Value.bool _) ⟨_, rfl, bv, Fr', q, rfl, hq, rfl, ?_⟩
    rw [hpl, List.drop_length, seg_nil]
    rcases hc19 with ⟨rfl, hc⟩ | ⟨rfl, hc⟩
    · exact .inl ⟨rfl, by simpa using hc⟩
    · exact .inr ⟨rfl, hc⟩
  | succ r ih =>
    intro p pre post Fr X q hr hxs hJ hq
    have hlt : p.length < g.d.banks.length := by omega
    have hnd' := hnd _ _ hJ
    have hmp : Mem pb (Blk 72 [.pointer (some ⟨g.b, 0, none⟩)]) (Fr ++ X) := (hnd'.appR X).mem .here
    have hmb : Mem g.b (Blk 85 (bogL g)) (Fr ++ X) := (hnd'.appR X).mem (.there .here)
    unfold bogL at hmb
    obtain ⟨bA, oA, hA1, hbA, hcA⟩ := hA.banks.row p.length hlt
    obtain ⟨s, hs⟩ : ∃ s, g.d.banks[p.length] = s := ⟨_, rfl⟩
    rw [hs] at hcA
    have hsv := hv.bk s (by rw [← hs]; exact List.getElem_mem hlt)
    have hc0 : w0.cell? ⟨bA, oA + p.length * 4, none⟩ = some (.int .i64 s.lv.1) := RoAt' hcA 0 _ rfl
    have hc1 : w0.cell? ⟨bA, oA + p.length * 4 + 1, none⟩ = some (.int .i64 s.lv.2) := RoAt' hcA 1 _ rfl
    have hdrop : g.d.banks.drop p.length = s :: g.d.banks.drop (p.length + 1) := by rw [List.drop_eq_getElem_cons hlt, hs]
    refine tri_of_WP Try.func104 rfl (n := _) rfl (by simp) ?_
    repeat' (first | (refine Znh ?_) | (refine GiW ?_; first | (refine Zsq fun K hK => ?_) | (refine ZrN 0 fun _ => ?_; refine Zv Zab ?_) | (refine ZrN 1 fun _ => ?_; refine Zv Zmi ?_; refine Zv Zld ?_; (first | (refine Zv Zxnp ?_) | (refine Zv Zxnf ?_)); refine Zv Zf0 ?_; refine Zv Zf0 ?_; refine Zv Zld ?_; refine Zv Zxlen ?_; refine Zv Zxeql ?_) | (refine ZrN 3 fun _ => ?_; refine Zv Zld ?_; (first | (refine Zv Zxnp ?_) | (refine Zv Zxnf ?_)); refine Zv Zf0 ?_; refine Zv Zf0 ?_; refine Zv Zld ?_; refine Zv Zmi ?_; refine Zv Zia ?_; refine Zv Zf0 ?_; refine Zv Zf0 ?_; refine Zv Zld ?_; refine Zv Zai ?_) | (refine Zcd (fun hc => ?_) (fun hc => ?_) <;> (try (exfalso; omega))) | (with_reducible apply WP_skip) | (with_reducible apply WP_block)) | (refine Zhn ?_))
    have hseg : seg p (g.d.banks.drop p.length) = (vals s.lv).flatMap fun v => seg (p ++ [v]) (g.d.banks.drop (p.length + 1)) := by rw [hdrop, seg_cons]
    refine WP_loop [6, 7, 29, 30, 31, 32, 33, 34, 35, 36, 37, 38, 39, 40, 41, 42, 43, 44, 45, 46, 47, 48, 49, 50] (fun st : Nat × Hp × List Int => [(7, .int .i64 (s.lv.1 + (st.1 : Int)))]) (fun st => (b2, Blk 104 [Y]) :: (b3, Blk 93 (ints st.2.2)) :: (b4, Blk 64 [.func (.func 104) #[] #[.pointer (some ⟨pb, 0, none⟩), .pointer (some ⟨b2, 0, none⟩), .pointer (some ⟨b3, 0, none⟩), .pointer (some ⟨b4, 0, none⟩)]]) :: (st.2.1 ++ X))
      (fun st => st.1 ≤ (vals s.lv).length ∧ Own g.d.banks.length p st.2.2 ∧ J (pre ++ ((vals s.lv).take st.1).flatMap fun v => seg (p ++ [v]) (g.d.banks.drop (p.length + 1))).length st.2.1) (fun st => (vals s.lv).length - st.1) (0, Fr, q) (.cons ((rfl : _ = Value.int .i64 s.lv.1).trans (by simp)) .nil) (by repeat (first | exact Wk.refl _ | apply Wk.keep1 | apply Wk.drop | apply Wk.sv | apply Wk.svD | apply Wk.appD)) ⟨Nat.zero_le _, hq, by simpa using hJ⟩ ?_
    rintro ⟨c, F, q1⟩ j ⟨hcl, hq1, hJc⟩
    dsimp only at hcl hq1 hJc ⊢
    have hvl := vals_length s.lv
    have hndc := hnd _ _ hJc
    have hmp' : Mem pb (Blk 72 [.pointer (some ⟨g.b, 0, none⟩)]) (F ++ X) := (hndc.appR X).mem .here
    have hmb' : Mem g.b (Blk 85 (bogL g)) (F ++ X) := (hndc.appR X).mem (.there .here)
    unfold bogL at hmb'
    by_cases hct : c < (vals s.lv).length
    · have hvc : (vals s.lv)[c] = s.lv.1 + (c : Int) := vals_get s.lv c hct
      have hlt2 : c < (s.lv.2 - s.lv.1 + 1).toNat := by rw [hvl] at hct; exact hct
      have hq2 := hq1.set hlt hnb.2 (s.lv.1 + (c : Int))
      have hset : setL (ints q1) (0 + p.length) [.int .i64 (s.lv.1 + (c : Int))] = ints (q1.set p.length (s.lv.1 + (c : Int))) := ints_set _ _ _
      have hlen : (ints q1).length = 5 := by simp [ints, hq1.1]
      have hsplit : (vals s.lv).flatMap (fun v => seg (p ++ [v]) (g.d.banks.drop (p.length + 1))) = ((vals s.lv).take c).flatMap (fun v => seg (p ++ [v]) (g.d.banks.drop (p.length + 1))) ++ (seg (p ++ [s.lv.1 + (c : Int)]) (g.d.banks.drop (p.length + 1)) ++ ((vals s.lv).drop (c + 1)).flatMap (fun v => seg (p ++ [v]) (g.d.banks.drop (p.length + 1)))) := by
        have h1 : vals s.lv = (vals s.lv).take c ++ ((vals s.lv)[c] :: (vals s.lv).drop (c + 1)) := by rw [← List.drop_eq_getElem_cons hct, List.take_append_drop]
        rw [hvc] at h1
        conv => lhs; rw [h1]
        simp [List.flatMap_append]
      have htake : ((vals s.lv).take (c + 1)).flatMap (fun v => seg (p ++ [v]) (g.d.banks.drop (p.length + 1))) = ((vals s.lv).take c).flatMap (fun v => seg (p ++ [v]) (g.d.banks.drop (p.length + 1))) ++ seg (p ++ [s.lv.1 + (c : Int)]) (g.d.banks.drop (p.length + 1)) := by
        rw [List.take_succ_eq_append_getElem hct, hvc]
        simp [List.flatMap_append]
      have hpl : (p ++ [s.lv.1 + (c : Int)]).length = p.length + 1 := by simp
      have ihc := ih (p ++ [s.lv.1 + (c : Int)]) (pre ++ ((vals s.lv).take c).flatMap fun v => seg (p ++ [v]) (g.d.banks.drop (p.length + 1))) (((vals s.lv).drop (c + 1)).flatMap (fun v => seg (p ++ [v]) (g.d.banks.drop (p.length + 1))) ++ post) F X (q1.set p.length (s.lv.1 + (c : Int))) (by rw [hpl]; omega)
        (by rw [hxs, hseg, hsplit, hpl]; simp only [List.append_assoc]) hJc hq2
      simp only [hpl, List.append_assoc, ← htake, Int.natCast_add, Int.natCast_one] at ihc
      repeat' (first | (refine GiP ?_; first | (refine Znh ?_) | (with_reducible refine Znl ?_)) | (refine GiW ?_; first | (refine Zsq fun K hK => ?_) | (refine ZrN 4 fun _ => ?_; refine Zv Zmi ?_; refine Zv Zld ?_; (first | (refine Zv Zxnp ?_) | (refine Zv Zxnf ?_)); refine Zv Zf0 ?_; refine Zv Zf0 ?_; refine Zv Zld ?_; refine Zv Zmi ?_; refine Zv Zia ?_; refine Zv Zf0 ?_; refine Zv Zfa ?_; refine Zv Zld ?_; refine Zv Zxleq ?_) | (refine ZrN 6 fun _ => ?_; refine Zv Zmi ?_; refine Zv Zmi ?_; refine Zv ZiA ?_; (first | (refine Zst ?_) | (refine OPS_turnN (Turn_storeG rfl rfl (by repeat (first | exact Up.here | apply Up.there | apply Up.sv)) rfl (by rw [hlen]; simp only [List.length_singleton]; omega) hset rfl rfl) rfl rfl ?_))) | (refine ZrN 7 fun _ => ?_; refine Zv Zld ?_; refine Zv Zmi ?_; refine Zv Zxadd ?_; refine OPS_retKS (Enters_val (cf := []) (cc := [.pointer (some ⟨pb, 0, none⟩), .pointer (some ⟨b2, 0, none⟩), .pointer (some ⟨b3, 0, none⟩), .pointer (some ⟨b4, 0, none⟩)]) rfl rfl) ihc rfl rfl rfl (fun v52 L52 h52 => ?_); obtain ⟨bv, F', q3, rfl, hq3, rfl, hc52⟩ := h52; refine Zv Zxnot ?_) | (refine ZrN 8 fun _ => ?_; refine Zv Zab ?_) | (refine ZrN 5 fun _ => ?_; refine Zv Zmi ?_; refine Zv Zxadd ?_; refine Zv Zai ?_) | (refine Zcd (fun hc => ?_) (fun hc => ?_) <;> (try (exfalso; omega))) | (with_reducible apply WP_skip) | (with_reducible apply WP_block) | (with_reducible apply WP_ret)) | (refine Zhn ?_) | (with_reducible apply QBlock_normal) | (refine Zhr ?_) | (with_reducible apply QBlock_ret) | (with_reducible apply QLoop_ret))
      · refine QBody_ret1 rfl (rfl : _ = Value.bool _) ⟨_, rfl, false, F', q3, rfl, hq3.less, rfl, .inr ⟨rfl, ?_⟩⟩
        rcases hc52 with ⟨h, _⟩ | ⟨_, h⟩
        · rw [h] at hc; cases hc
        · exact h
      · rcases hc52 with ⟨_, hJ'⟩ | ⟨h, _⟩
        · exact QLoop_normal (c + 1, F', q3) (.cons ((rfl : _ = Value.int .i64 (s.lv.1 + (c : Int) + 1)).trans (by congr 1; omega)) .nil) (by repeat (first | exact Off.frame rfl | exact Off.refl _ _ | refine Off.frameT rfl rfl ?_ | refine Off.upd rfl ?_ | refine Off.updO rfl ?_)) (by repeat (first | exact Wk.refl _ | apply Wk.keep1 | apply Wk.drop | apply Wk.sv | apply Wk.svD | apply Wk.appD)) ⟨by dsimp only; omega, hq3.less, hJ'⟩ (by dsimp only; omega)
        · rw [h] at hc; cases hc
    · have hce : c = (vals s.lv).length := by omega
      have hge : ¬ s.lv.1 + (c : Int) ≤ s.lv.2 := by rw [hce]; omega
      repeat' (first | (refine Znh ?_) | (refine GiW ?_; first | (refine Zsq fun K hK => ?_) | (refine ZrN 4 fun _ => ?_; refine Zv Zmi ?_; refine Zv Zld ?_; (first | (refine Zv Zxnp ?_) | (refine Zv Zxnf ?_)); refine Zv Zf0 ?_; refine Zv Zf0 ?_; refine Zv Zld ?_; refine Zv Zmi ?_; refine Zv Zia ?_; refine Zv Zf0 ?_; refine Zv Zfa ?_; refine Zv Zld ?_; refine Zv Zxleq ?_) | (refine ZrN 9 fun _ => ?_; refine Zv Zab ?_) | (refine Zcd (fun hc => ?_) (fun hc => ?_) <;> (try (exfalso; omega))) | (with_reducible apply WP_exit) | (with_reducible apply WP_ret)) | (refine Zhn ?_) | (refine Zhx ?_) | (with_reducible apply QBlock_hit) | (with_reducible apply QLoop_exit))
      refine QBody_ret1 rfl (rfl : _ = Value.bool _) ⟨_, rfl, true, F, q1, rfl, hq1, rfl, .inl ⟨rfl, ?_⟩⟩
      rw [hseg]
      rw [hce, List.take_length] at hJc
      exact hJc
theorem all_iter (g : Fg) (hv : VD g.d) (hA : DrAt N w0 g) (pb : Nat) : IterOK Try.prog N w0 103 [.pointer (some ⟨pb, 0, none⟩)] (seg [] g.d.banks) (NdR pb g) := by
  intro fy ya yb J Jx hY hnd Fr X h0
  have hnb := hv.nb
  refine Tri.fgt ?_
  refine tri_of_WP Try.func103 rfl (n := 8) rfl (by simp) ?_
  have hon := fun b2 b3 b4 => on_tri N w0 g hv hA (.func fy ya yb) (seg [] g.d.banks) J Jx hY pb b2 b3 b4 hnd g.d.banks.length [] [] [] Fr X [0, 0, 0, 0, 0] rfl (by simp) h0 ⟨rfl, rfl, by
    have : [(0 : Int), 0, 0, 0, 0] = List.replicate 5 0 := rfl
    rw [this, List.drop_replicate]⟩
  unfold onV ints at hon
  simp only [List.map_cons, List.map_nil] at hon
  repeat' (first | (refine GiP ?_; first | (refine Znh ?_) | (with_reducible refine Znl ?_)) | (refine GiW ?_; first | (refine Zsq fun K hK => ?_) | (refine ZrN 0 fun _ => ?_; refine Zal 2 fun b2 => ?_) | (refine ZrN 1 fun _ => ?_; refine Zal 3 fun b3 => ?_) | (refine ZrN 2 fun _ => ?_; refine Zal 4 fun b4 => ?_) | (refine ZrN 3 fun _ => ?_; refine Zv Val_makeFunc ?_; refine Zst ?_) | (refine ZrN 4 fun _ => ?_; refine Zv Zld ?_; refine OPS_retKS (Enters_val (cf := []) (cc := [.pointer (some ⟨pb, 0, none⟩), .pointer (some ⟨b2, 0, none⟩), .pointer (some ⟨b3, 0, none⟩), .pointer (some ⟨b4, 0, none⟩)]) rfl rfl) (Tri.perm (hon b2 b3 b4) perm3) rfl rfl rfl (fun v7 L7 h7 => ?_); obtain ⟨bv, F', q', rfl, hq7, rfl, hc7⟩ := h7)))
  refine QBody_end0 rfl ⟨F' ++ X, .drop (.drop (.drop (Wk.refl _))), ⟨_, rfl⟩, F', rfl, ?_⟩
  rcases hc7 with ⟨_, h⟩ | ⟨_, h⟩
  · exact .inl (by simpa using h)
  · exact .inr h
theorem all_tri (L : Hp) (g : Fg) : Tri Try.prog N w0 L 101 [.pointer (some ⟨g.b, 0, none⟩)].toArray fun x L' => ∃ v, x = .returned v ∧ ∃ pb, v = .func (.func 103) #[] #[.pointer (some ⟨pb, 0, none⟩)] ∧ L' = (pb, Blk 72 [.pointer (some ⟨g.b, 0, none⟩)]) :: L := by
  refine tri_of_WP Try.func101 rfl (n := 4) rfl (by simp) ?_
  repeat' (first | (refine Znh ?_) | (refine GiW ?_; first | (refine Zsq fun K hK => ?_) | (refine ZrN 0 fun _ => ?_; refine Zal 1 fun b1 => ?_; refine Zv Zav ?_) | (refine ZrN 1 fun _ => ?_; refine Zv Val_makeFunc ?_; refine Zv Zav ?_) | (with_reducible apply WP_ret)))
  exact QBody_ret1 rfl rfl ⟨_, rfl, _, rfl, rfl⟩
end
end Go.Proofs.Ytbhgpnbfdjoglaa
end
