/- Package sod: spans of several, and whether one of them is so. -/
import Derived.Test.YtkaadefndcbdnaaA9
namespace Go.Proofs.Ytkaadefndcbdnaa
open Go.RowKit
/-- Rows that can be read. -/
def RdRows (N : Nat) (w0 : World) (L : Hp) (A : Option Addr) (sz : Nat) (rows : List (List Value)) : Prop :=
  ∀ k (h : k < rows.length), ∃ b off, A = some ⟨b, off, none⟩ ∧ ∀ j v, rows[k][j]? = some v → Rd N w0 L b (off + k * sz + j) v
theorem RdRows.row {N : Nat} {w0 : World} {L : Hp} {A : Option Addr} {sz : Nat} {α : Type} {f : α → List Value} {l : List α} (h : RdRows N w0 L A sz (l.map f)) (k : Nat) (hk : k < l.length) : ∃ b off, A = some ⟨b, off, none⟩ ∧ ∀ j v, (f l[k])[j]? = some v → Rd N w0 L b (off + k * sz + j) v := by
  obtain ⟨b, off, h1, h2⟩ := h k (by simpa using hk)
  exact ⟨b, off, h1, fun j v hj => h2 j v (by simpa using hj)⟩
theorem RdRows.wk {N : Nat} {w0 : World} {L L' : Hp} {A : Option Addr} {sz : Nat} {rows : List (List Value)} (h : RdRows N w0 L A sz rows) (k : Wk L' L) : RdRows N w0 L' A sz rows := fun i hi => by
  obtain ⟨b, off, h1, h2⟩ := h i hi
  exact ⟨b, off, h1, fun j v hj => (h2 j v hj).wk k⟩
theorem RdRows.ofSl {N : Nat} {w0 : World} {L : Hp} {A : Option Addr} {sz : Nat} {rows : List (List Value)} (h : SlAt N w0 A sz rows) : RdRows N w0 L A sz rows := fun i hi => by
  obtain ⟨b, off, h1, h2, h3⟩ := h i hi
  exact ⟨b, off, h1, fun j v hj => Rd.ro h2 (h3 j v hj)⟩
/-- The rows of a slice that grew. -/
theorem RdRows.sv {E : TypeId} {sz k : Nat} {xs : List Value} {s : Option (Nat × Nat)} (hz : 0 < sz) (hs : svOk s sz k xs) : ∃ A c, svV s k = .slice A k c ∧ ∀ (N : Nat) (w0 : World) (L : Hp) (rows : List (List Value)), Wk L (svH E sz k xs s []) → xs = rows.flatten → (∀ r ∈ rows, r.length = sz) → RdRows N w0 L A sz rows := by
  obtain ⟨A, c, h1, h2⟩ := sv_slice (E := E) hs
  refine ⟨A, c, h1, fun N w0 L rows hw hx hr i hi => ?_⟩
  have hj : ∀ j v, rows[i][j]? = some v → xs[i * sz + j]? = some v := by
    intro j v hj
    have hj2 : j < sz := by
      have := (List.getElem?_eq_some_iff.1 hj).1
      rw [hr _ (List.getElem_mem hi)] at this
      exact this
    rw [hx, flat_get rows i j hi hr hj2]
    exact hj
  obtain ⟨v0, hv0⟩ : ∃ v, rows[i][0]? = some v := ⟨_, List.getElem?_eq_getElem (by rw [hr _ (List.getElem_mem hi)]; omega)⟩
  cases s with
  | none =>
    have h8 := hs.2 rfl
    have h9 := (List.getElem?_eq_some_iff.1 (hj 0 v0 hv0)).1
    have h10 := hs.1
    rw [h8] at h10
    simp at h10
    rw [h10] at h9
    simp at h9
  | some p =>
    have hA : A = some ⟨p.1, 0, none⟩ := by
      obtain ⟨p1, p2⟩ := p
      simp only [svV, Value.slice.injEq] at h1
      exact h1.1.symm
    refine ⟨p.1, 0, hA, fun j v hjv w hI => ?_⟩
    obtain ⟨b', hA', _, hc⟩ := h2 (hI.wk hw) _ _ (hj j v hjv)
    rw [hA] at hA'
    simp only [Option.some.injEq, Addr.mk.injEq, and_true] at hA'
    rw [Nat.zero_add, hA']; exact hc
def jk (l : List Sp) (k : Nat) : Sp := if k = 0 then l.headD (0, 0) else jn (l.take k)
theorem jk_step {l : List Sp} {k : Nat} (h : k < l.length) : jk l (k + 1) = (min (jk l k).1 l[k].1, max (jk l k).2 l[k].2) := by
  unfold jk
  rw [if_neg (by omega), jn_snoc l k h]
  cases k with
  | zero =>
    rw [if_pos rfl, if_pos rfl]
    cases l with
    | nil => simp at h
    | cons x l => exact Prod.ext (by simp) (by simp)
  | succ k => rw [if_neg (by omega), if_neg (by omega)]
theorem jk_all {l : List Sp} (h : l ≠ []) : jk l l.length = jn l := by
  unfold jk
  rw [if_neg (by intro h2; exact h (List.eq_nil_of_length_eq_zero h2)), List.take_length]
def idxP {α : Type} (p : α → Bool) (l : List α) : Int := match l.findIdx? p with
  | some i => i
  | none => -1
theorem idxP_some {α : Type} {p : α → Bool} {l : List α} {i : Nat} (hi : i < l.length) (h1 : p l[i] = true) (h2 : ∀ x ∈ l.take i, p x = false) : idxP p l = i := by
  have : l.findIdx? p = some i := by
    rw [List.findIdx?_eq_some_iff_getElem]
    refine ⟨hi, h1, fun j hj => ?_⟩
    rw [h2 _ (List.mem_take_iff_getElem.2 ⟨j, by omega, rfl⟩)]; simp
  unfold idxP; rw [this]
theorem idxP_none {α : Type} {p : α → Bool} {l : List α} (h : ∀ x ∈ l, p x = false) : idxP p l = -1 := by
  have : l.findIdx? p = none := by rw [List.findIdx?_eq_none_iff]; exact h
  unfold idxP; rw [this]
theorem idxP_any {α : Type} (p : α → Bool) (l : List α) : decide (0 ≤ idxP p l) = l.any p := by
  unfold idxP
  cases h : l.findIdx? p with
  | none =>
    rw [List.findIdx?_eq_none_iff] at h
    have : l.any p = false := List.any_eq_false.2 fun x hx => by rw [h x hx]; simp
    rw [this]; rfl
  | some i =>
    rw [List.findIdx?_eq_some_iff_getElem] at h
    obtain ⟨hi, h1, _⟩ := h
    have : l.any p = true := List.any_eq_true.2 ⟨_, List.getElem_mem hi, h1⟩
    rw [this, decide_eq_true_eq]; exact Int.natCast_nonneg i
attribute [local irreducible] AnyO AnyB QAny QB EWalk AWalk Ev WP OPS QThen QBlock QScope QLoop QBody Val New Turn Tri Enters PostA Blk Ro
attribute [local irreducible] AnyC QC
section
variable (N : Nat) (w0 : World)
theorem hull_ret (L : Hp) (A : Option Addr) (c : Nat) (l : List Sp) (h0 : l ≠ []) (hl : l.length ≤ 1000000) (hR : RdRows N w0 L A 2 (l.map spL)) :
    Ret Try.prog N w0 L 44 [.slice A l.length c].toArray (.agg [.int .i64 (jn l).1, .int .i64 (jn l).2].toArray) := by
  have hpos : 0 < l.length := List.length_pos_iff.2 h0
  refine Ret.fgt ?_
  refine tri_of_WP Try.func44 rfl (n := _) rfl (by simp) ?_
  obtain ⟨b, o, hA1, hrd⟩ := hR.row 0 hpos
  have hz : l[0] = jk l 0 := by cases l with | nil => exact absurd rfl h0 | cons x l => rfl
  rw [hz] at hrd
  unfold spL at hrd
  subst hA1
  have hrd0 : ∀ L', Wk L' L → ∀ j v, [Value.int .i64 (jk l 0).1, .int .i64 (jk l 0).2][j]? = some v → Rd N w0 L' b (o + 0 * 2 + j) v := fun L' k j v hj => (hrd j v hj).wk k
  repeat' (first | (refine Znh ?_) | (refine GiW ?_; first | (refine Zsq fun K hK => ?_) | (refine ZrN 0 fun _ => ?_; refine Zal 2 fun b2 => ?_) | (refine ZrN 1 fun _ => ?_; refine Zv Zmv ?_; (first | (refine Zv (Val_indexAddr (i := 0) rfl rfl rfl (by omega)) ?_) | (refine Zv Zia ?_)); (first | (refine Zv (Val_loadDN rfl (hrd0 _ (by repeat (first | exact Wk.refl _ | apply Wk.keep1 | apply Wk.drop | apply Wk.sv | apply Wk.svD | apply Wk.appD))) rfl) ?_) | (refine Zv Zla ?_)); refine Zal 3 fun b3 => ?_; refine Zst ?_) | (refine ZrN 2 fun _ => ?_; refine Zv Zmv ?_; refine Zv Zxlen ?_; refine Zv Zmi ?_) | (with_reducible apply WP_block)))
  refine WP_loop [5, 11, 12, 13, 14, 15, 16, 17, 18, 19, 20, 21, 22, 23, 24, 25, 26] (fun k : Nat => [(11, .int .i64 k)]) (fun k => (b3, Blk 28 [.int .i64 (jk l k).1, .int .i64 (jk l k).2]) :: (b2, Blk 28 [.int .i64 0, .int .i64 0]) :: L) (fun k => k ≤ l.length) (fun k => l.length - k) 0 (.cons rfl .nil) (Wk.refl _) (Nat.zero_le _) ?_
  intro k j hk
  by_cases hlt : k < l.length
  · obtain ⟨b', o', hA2, hrd2⟩ := hR.row k hlt
    injection hA2 with hA2
    injection hA2 with hA2 hA3
    subst hA2 hA3
    have hst := jk_step hlt
    obtain ⟨x, hx⟩ : ∃ x, l[k] = x := ⟨_, rfl⟩
    rw [hx] at hrd2 hst
    unfold spL at hrd2
    have hrd3 : ∀ L', Wk L' L → ∀ j v, [Value.int .i64 x.1, .int .i64 x.2][j]? = some v → Rd N w0 L' b (o + k * 2 + j) v := fun L' k' j v hj => (hrd2 j v hj).wk k'
    repeat' (first | (refine GiP ?_; first | (refine Znh ?_) | (with_reducible refine Znl ?_)) | (refine GiW ?_; first | (refine Zsq fun K hK => ?_) | (refine ZrN 3 fun _ => ?_; refine Zv Zxlss ?_) | (refine ZrN 4 fun _ => ?_; refine Zv Zia ?_; (first | (refine Zv (Val_loadDN rfl (hrd3 _ (by repeat (first | exact Wk.refl _ | apply Wk.keep1 | apply Wk.drop | apply Wk.sv | apply Wk.svD | apply Wk.appD))) rfl) ?_) | (refine Zv Zla ?_)); refine Zal 5 fun b5 => ?_; refine Zst ?_) | (refine ZrN 5 fun _ => ?_; refine Zv Zf0 ?_; (first | (refine Zv (Val_loadDN rfl (hrd3 _ (by repeat (first | exact Wk.refl _ | apply Wk.keep1 | apply Wk.drop | apply Wk.sv | apply Wk.svD | apply Wk.appD))) rfl) ?_) | (refine Zv Zld ?_)); refine Zv Zf0 ?_; (first | (refine Zv (Val_loadDN rfl (hrd3 _ (by repeat (first | exact Wk.refl _ | apply Wk.keep1 | apply Wk.drop | apply Wk.sv | apply Wk.svD | apply Wk.appD))) rfl) ?_) | (refine Zv Zld ?_)); refine Zv Zxmin ?_; refine Zv Zfa ?_; (first | (refine Zv (Val_loadDN rfl (hrd3 _ (by repeat (first | exact Wk.refl _ | apply Wk.keep1 | apply Wk.drop | apply Wk.sv | apply Wk.svD | apply Wk.appD))) rfl) ?_) | (refine Zv Zld ?_)); refine Zv Zfa ?_; (first | (refine Zv (Val_loadDN rfl (hrd3 _ (by repeat (first | exact Wk.refl _ | apply Wk.keep1 | apply Wk.drop | apply Wk.sv | apply Wk.svD | apply Wk.appD))) rfl) ?_) | (refine Zv Zld ?_)); refine Zv Zxmax ?_; refine Zv Zxbu ?_; refine Zst ?_) | (refine ZrN 6 fun _ => ?_; refine Zv Zxadd ?_; refine Zv Zmi ?_) | (refine Zcd (fun hc => ?_) (fun hc => ?_) <;> (try (exfalso; omega))) | (with_reducible apply WP_skip) | (with_reducible apply WP_block)) | (refine Zhn ?_) | (with_reducible apply QBlock_normal))
    exact QLoop_normal (k + 1) (.cons rfl .nil) (by repeat (first | exact Off.frame rfl | exact Off.refl _ _ | refine Off.frameT rfl rfl ?_ | refine Off.upd rfl ?_ | refine Off.updO rfl ?_)) (by rw [hst]; exact (by repeat (first | exact Wk.refl _ | apply Wk.keep1 | apply Wk.drop | apply Wk.sv | apply Wk.svD | apply Wk.appD))) (by omega) (by omega)
  · repeat' (first | (refine Znh ?_) | (refine GiW ?_; first | (refine Zsq fun K hK => ?_) | (refine ZrN 3 fun _ => ?_; refine Zv Zxlss ?_) | (refine ZrN 7 fun _ => ?_; refine Zv Zla ?_; refine Zst ?_) | (refine Zcd (fun hc => ?_) (fun hc => ?_) <;> (try (exfalso; omega))) | (with_reducible apply WP_exit) | (with_reducible apply WP_ret)) | (refine Zhn ?_) | (refine Zhx ?_) | (with_reducible apply QBlock_hit) | (with_reducible apply QLoop_exit))
    refine QBody_res rfl (.cellN rfl (by repeat (first | exact Mem.here | assumption | apply Mem.there | apply Mem.sv | apply Mem.app)) (.here (.cons (.cons .nil))) .nil) rfl ⟨?_, (by repeat (first | exact Wk.refl _ | apply Wk.keep1 | apply Wk.drop | apply Wk.sv | apply Wk.svD | apply Wk.appD))⟩
    rw [show k = l.length by omega, jk_all h0]; rfl
theorem idxS_ret (L : Hp) (A : Option Addr) (c : Nat) (l : List Sp) (hl : l.length ≤ 1000000) (hR : RdRows N w0 L A 2 (l.map spL)) (q : FuncId) [HasBody Try.prog q] (cc : List Value) (p : Sp → Bool) (nd : Hp) (hN : Sub nd L)
    (hq : ∀ x ∈ l, ∀ L', Sub nd L' → Ret Try.prog N w0 L' q (.agg (spL x).toArray :: cc).toArray (.bool (p x))) :
    Ret Try.prog N w0 L 100 [.slice A l.length c, .func (.func q) #[] cc.toArray].toArray (.int .i64 (idxP p l)) := by
  refine Ret.fgt ?_
  refine tri_of_WP Try.func100 rfl (n := 19) rfl (by simp) ?_
  repeat' (first | (refine Znh ?_) | (refine GiW ?_; first | (refine Zsq fun K hK => ?_) | (refine ZrN 0 fun _ => ?_; refine Zv Zai ?_) | (refine ZrN 1 fun _ => ?_; refine Zv Zmv ?_; refine Zv Zxlen ?_; refine Zv Zmi ?_) | (with_reducible apply WP_block)))
  refine WP_loop [4, 5, 8, 9, 10, 11, 12, 13, 14, 15, 16, 17, 18] (fun i : Nat => [(8, .int .i64 i)]) (fun _ => L) (fun i => i ≤ l.length ∧ ∀ x ∈ l.take i, p x = false) (fun i => l.length - i) 0 (.cons rfl .nil) (Wk.refl _) ⟨Nat.zero_le _, fun x hx => by simp at hx⟩ ?_
  rintro i j ⟨hi, hno⟩
  by_cases hlt : i < l.length
  · obtain ⟨b, o, hA1, hrd⟩ := hR.row i hlt
    have hcall := hq l[i] (List.getElem_mem hlt)
    obtain ⟨x, hx⟩ : ∃ x, l[i] = x := ⟨_, rfl⟩
    rw [hx] at hrd hcall
    unfold spL at hrd hcall
    repeat' (first | (refine GiP ?_; first | (refine Znh ?_) | (with_reducible refine Znl ?_)) | (refine GiW ?_; first | (refine Zsq fun K hK => ?_) | (refine ZrN 2 fun _ => ?_; refine Zv Zxlss ?_) | (refine ZrN 3 fun _ => ?_; refine Zv Zmi ?_; refine Zv Zai ?_) | (refine ZrN 4 fun _ => ?_; refine Zv Zmv ?_; refine Zv Zmv ?_; refine Zv Zmi ?_; refine Zv Zia ?_; (first | (refine Zv (Val_loadDN rfl hrd rfl) ?_) | (refine Zv Zla ?_)); refine Zcl (Enters_val rfl rfl) (hcall _ (by repeat (first | exact Sub.refl _ | assumption | exact Sub.left | apply Sub.cons | apply Sub.sv | apply Sub.app))) ?_) | (refine ZrN 5 fun _ => ?_; refine Zv Zmi ?_; refine Zv Zai ?_) | (refine ZrN 6 fun _ => ?_; refine Zv Zxadd ?_; refine Zv Zmi ?_) | (refine Zcd (fun hc => ?_) (fun hc => ?_) <;> (try (exfalso; omega))) | (with_reducible apply WP_skip) | (with_reducible apply WP_block) | (with_reducible apply WP_ret)) | (refine Zhn ?_) | (with_reducible apply QBlock_normal) | (refine Zhr ?_) | (with_reducible apply QBlock_ret) | (with_reducible apply QLoop_ret))
    · refine QBody_ret1 rfl (rfl : _ = Value.int _ _) ⟨?_, (by repeat (first | exact Wk.refl _ | apply Wk.keep1 | apply Wk.drop | apply Wk.sv | apply Wk.svD | apply Wk.appD))⟩
      rw [idxP_some hlt (by rw [hx]; assumption) hno]
    · refine QLoop_normal (i + 1) (.cons rfl .nil) (by repeat (first | exact Off.frame rfl | exact Off.refl _ _ | refine Off.frameT rfl rfl ?_ | refine Off.upd rfl ?_ | refine Off.updO rfl ?_)) (by repeat (first | exact Wk.refl _ | apply Wk.keep1 | apply Wk.drop | apply Wk.sv | apply Wk.svD | apply Wk.appD)) ⟨by omega, ?_⟩ (by omega)
      rw [List.take_succ_eq_append_getElem hlt]
      intro y hy
      rcases List.mem_append.1 hy with hy | hy
      · exact hno y hy
      · rw [List.mem_singleton.1 hy, hx]; assumption
  · repeat' (first | (refine Znh ?_) | (refine GiW ?_; first | (refine Zsq fun K hK => ?_) | (refine ZrN 2 fun _ => ?_; refine Zv Zxlss ?_) | (refine ZrN 7 fun _ => ?_; refine Zv Zai ?_) | (refine Zcd (fun hc => ?_) (fun hc => ?_) <;> (try (exfalso; omega))) | (with_reducible apply WP_exit) | (with_reducible apply WP_ret)) | (refine Zhn ?_) | (refine Zhx ?_) | (with_reducible apply QBlock_hit) | (with_reducible apply QLoop_exit))
    refine QBody_ret1 rfl (rfl : _ = Value.int _ _) ⟨?_, (by repeat (first | exact Wk.refl _ | apply Wk.keep1 | apply Wk.drop | apply Wk.sv | apply Wk.svD | apply Wk.appD))⟩
    rw [show i = l.length by omega, List.take_length] at hno
    rw [idxP_none hno]
theorem cntS_ret (L : Hp) (A : Option Addr) (c : Nat) (l : List Sp) (hl : l.length ≤ 1000000) (hR : RdRows N w0 L A 2 (l.map spL)) (q : FuncId) [HasBody Try.prog q] (cc : List Value) (p : Sp → Bool) (nd : Hp) (hN : Sub nd L)
    (hq : ∀ x ∈ l, ∀ L', Sub nd L' → Ret Try.prog N w0 L' q (.agg (spL x).toArray :: cc).toArray (.bool (p x))) :
    Ret Try.prog N w0 L 65 [.slice A l.length c, .func (.func q) #[] cc.toArray].toArray (.bool (l.any p)) := by
  refine tri_of_WP Try.func65 rfl (n := 9) rfl (by simp) ?_
  repeat' (first | (refine Znh ?_) | (refine GiW ?_; first | (refine Zsq fun K hK => ?_) | (refine ZrN 0 fun _ => ?_; refine Zv Zab ?_) | (refine ZrN 1 fun _ => ?_; refine Zv Zmv ?_; refine Zv Zmv ?_; refine Zcl (Enters_fn rfl) (idxS_ret N w0 _ A c l hl hR q cc p nd (by repeat (first | exact Sub.refl _ | assumption | exact Sub.left | apply Sub.cons | apply Sub.sv | apply Sub.app)) hq) ?_; refine Zv Zxgeq ?_; refine Zv Zab ?_) | (with_reducible apply WP_ret)))
  refine QBody_ret1 rfl (rfl : _ = Value.bool _) ⟨?_, rfl⟩
  rw [← idxP_any p l]
theorem idxB_ret (L : Hp) (A : Option Addr) (c : Nat) (l : List (Bool × Bool)) (hl : l.length ≤ 1000000) (hR : RdRows N w0 L A 2 (l.map bbL)) (q : FuncId) [HasBody Try.prog q] (cc : List Value) (p : (Bool × Bool) → Bool) (nd : Hp) (hN : Sub nd L)
    (hq : ∀ x ∈ l, ∀ L', Sub nd L' → Ret Try.prog N w0 L' q (.agg (bbL x).toArray :: cc).toArray (.bool (p x))) :
    Ret Try.prog N w0 L 101 [.slice A l.length c, .func (.func q) #[] cc.toArray].toArray (.int .i64 (idxP p l)) := by
  refine Ret.fgt ?_
  refine tri_of_WP Try.func101 rfl (n := 19) rfl (by simp) ?_
  repeat' (first | (refine Znh ?_) | (refine GiW ?_; first | (refine Zsq fun K hK => ?_) | (refine ZrN 0 fun _ => ?_; refine Zv Zai ?_) | (refine ZrN 1 fun _ => ?_; refine Zv Zmv ?_; refine Zv Zxlen ?_; refine Zv Zmi ?_) | (with_reducible apply WP_block)))
  refine WP_loop [4, 5, 8, 9, 10, 11, 12, 13, 14, 15, 16, 17, 18] (fun i : Nat => [(8, .int .i64 i)]) (fun _ => L) (fun i => i ≤ l.length ∧ ∀ x ∈ l.take i, p x = false) (fun i => l.length - i) 0 (.cons rfl .nil) (Wk.refl _) ⟨Nat.zero_le _, fun x hx => by simp at hx⟩ ?_
  rintro i j ⟨hi, hno⟩
  by_cases hlt : i < l.length
  · obtain ⟨b, o, hA1, hrd⟩ := hR.row i hlt
    have hcall := hq l[i] (List.getElem_mem hlt)
    obtain ⟨x, hx⟩ : ∃ x, l[i] = x := ⟨_, rfl⟩
    rw [hx] at hrd hcall
    unfold bbL at hrd hcall
    repeat' (first | (refine GiP ?_; first | (refine Znh ?_) | (with_reducible refine Znl ?_)) | (refine GiW ?_; first | (refine Zsq fun K hK => ?_) | (refine ZrN 2 fun _ => ?_; refine Zv Zxlss ?_) | (refine ZrN 3 fun _ => ?_; refine Zv Zmi ?_; refine Zv Zai ?_) | (refine ZrN 4 fun _ => ?_; refine Zv Zmv ?_; refine Zv Zmv ?_; refine Zv Zmi ?_; refine Zv Zia ?_; (first | (refine Zv (Val_loadDN rfl hrd rfl) ?_) | (refine Zv Zla ?_)); refine Zcl (Enters_val rfl rfl) (hcall _ (by repeat (first | exact Sub.refl _ | assumption | exact Sub.left | apply Sub.cons | apply Sub.sv | apply Sub.app))) ?_) | (refine ZrN 5 fun _ => ?_; refine Zv Zmi ?_; refine Zv Zai ?_) | (refine ZrN 6 fun _ => ?_; refine Zv Zxadd ?_; refine Zv Zmi ?_) | (refine Zcd (fun hc => ?_) (fun hc => ?_) <;> (try (exfalso; omega))) | (with_reducible apply WP_skip) | (with_reducible apply WP_block) | (with_reducible apply WP_ret)) | (refine Zhn ?_) | (with_reducible apply QBlock_normal) | (refine Zhr ?_) | (with_reducible apply QBlock_ret) | (with_reducible apply QLoop_ret))
    · refine QBody_ret1 rfl (rfl : _ = Value.int _ _) ⟨?_, (by repeat (first | exact Wk.refl _ | apply Wk.keep1 | apply Wk.drop | apply Wk.sv | apply Wk.svD | apply Wk.appD))⟩
      rw [idxP_some hlt (by rw [hx]; assumption) hno]
    · refine QLoop_normal (i + 1) (.cons rfl .nil) (by repeat (first | exact Off.frame rfl | exact Off.refl _ _ | refine Off.frameT rfl rfl ?_ | refine Off.upd rfl ?_ | refine Off.updO rfl ?_)) (by repeat (first | exact Wk.refl _ | apply Wk.keep1 | apply Wk.drop | apply Wk.sv | apply Wk.svD | apply Wk.appD)) ⟨by omega, ?_⟩ (by omega)
      rw [List.take_succ_eq_append_getElem hlt]
      intro y hy
      rcases List.mem_append.1 hy with hy | hy
      · exact hno y hy
      · rw [List.mem_singleton.1 hy, hx]; assumption
  · repeat' (first | (refine Znh ?_) | (refine GiW ?_; first | (refine Zsq fun K hK => ?_) | (refine ZrN 2 fun _ => ?_; refine Zv Zxlss ?_) | (refine ZrN 7 fun _ => ?_; refine Zv Zai ?_) | (refine Zcd (fun hc => ?_) (fun hc => ?_) <;> (try (exfalso; omega))) | (with_reducible apply WP_exit) | (with_reducible apply WP_ret)) | (refine Zhn ?_) | (refine Zhx ?_) | (with_reducible apply QBlock_hit) | (with_reducible apply QLoop_exit))
    refine QBody_ret1 rfl (rfl : _ = Value.int _ _) ⟨?_, (by repeat (first | exact Wk.refl _ | apply Wk.keep1 | apply Wk.drop | apply Wk.sv | apply Wk.svD | apply Wk.appD))⟩
    rw [show i = l.length by omega, List.take_length] at hno
    rw [idxP_none hno]
theorem cntB_ret (L : Hp) (A : Option Addr) (c : Nat) (l : List (Bool × Bool)) (hl : l.length ≤ 1000000) (hR : RdRows N w0 L A 2 (l.map bbL)) (q : FuncId) [HasBody Try.prog q] (cc : List Value) (p : (Bool × Bool) → Bool) (nd : Hp) (hN : Sub nd L)
    (hq : ∀ x ∈ l, ∀ L', Sub nd L' → Ret Try.prog N w0 L' q (.agg (bbL x).toArray :: cc).toArray (.bool (p x))) :
    Ret Try.prog N w0 L 73 [.slice A l.length c, .func (.func q) #[] cc.toArray].toArray (.bool (l.any p)) := by
  refine tri_of_WP Try.func73 rfl (n := 9) rfl (by simp) ?_
  repeat' (first | (refine Znh ?_) | (refine GiW ?_; first | (refine Zsq fun K hK => ?_) | (refine ZrN 0 fun _ => ?_; refine Zv Zab ?_) | (refine ZrN 1 fun _ => ?_; refine Zv Zmv ?_; refine Zv Zmv ?_; refine Zcl (Enters_fn rfl) (idxB_ret N w0 _ A c l hl hR q cc p nd (by repeat (first | exact Sub.refl _ | assumption | exact Sub.left | apply Sub.cons | apply Sub.sv | apply Sub.app)) hq) ?_; refine Zv Zxgeq ?_; refine Zv Zab ?_) | (with_reducible apply WP_ret)))
  refine QBody_ret1 rfl (rfl : _ = Value.bool _) ⟨?_, rfl⟩
  rw [← idxP_any p l]
end
end Go.Proofs.Ytkaadefndcbdnaa
