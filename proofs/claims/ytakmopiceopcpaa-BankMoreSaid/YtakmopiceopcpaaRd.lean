/- Rows that can be read; the first of them that is so. -/
import Derived.Test.YtakmopiceopcpaaSl
section
namespace Go.Proofs.Ytakmopiceopcpaa
open Go.RowKit
/-- Rows that can be read. -/
def RdRows (N : Nat) (w0 : World) (L : Hp) (A : Option Addr) (sz : Nat) (rows : List (List Value)) : Prop :=
  ∀ k (h : k < rows.length), ∃ b off, A = some ⟨b, off, none⟩ ∧ ∀ j v, rows[k][j]? = some v → Rd N w0 L b (off + k * sz + j) v
theorem RdRows.row {N : Nat} {w0 : World} {L : Hp} {A : Option Addr} {sz : Nat} {α : Type} {f : α → List Value} {l : List α} (h : RdRows N w0 L A sz (l.map f)) (k : Nat) (hk : k < l.length) : ∃ b off, A = some ⟨b, off, none⟩ ∧ ∀ j v, (f l[k])[j]? = some v → Rd N w0 L b (off + k * sz + j) v := by
  obtain ⟨b, off, h1, h2⟩ := h k (by simpa using hk)
  exact ⟨b, off, h1, fun j v hj => h2 j v (by simpa using hj)⟩
theorem RdRows.wk {N : Nat} {w0 : World} {L L' : Hp} {A : Option Addr} {sz : Nat} {rows : List (List Value)} (h : RdRows N w0 L A sz rows) (k : Wk L' L) : RdRows N w0 L' A sz rows := fun i hi => by
  obtain ⟨b, off, h1, h2⟩ := h i hi
  exact ⟨b, off, h1, fun j v hj => (h2 j v hj).wk k⟩
theorem RdRows.ofSl {N : Nat} {w0 : World} {L : Hp} {A : Option Addr} {sz : Nat} {rows : List (List Value)} (h : SlAt N w0 A sz rows) : RdRows N w0 L A sz rows := fun i hi => by
  obtain ⟨b, off, h1, h2, h3⟩ := h i hi
  exact ⟨b, off, h1, fun j v hj => Rd.ro h2 (h3 j v hj)⟩
/-- The rows of a slice that grew. -/
theorem RdRows.sv {E : TypeId} {sz k : Nat} {xs : List Value} {s : Option (Nat × Nat)} (hz : 0 < sz) (hs : svOk s sz k xs) : ∃ A c, svV s k = .slice A k c ∧ ∀ (N : Nat) (w0 : World) (L : Hp) (rows : List (List Value)), Wk L (svH E sz k xs s []) → xs = rows.flatten → (∀ r ∈ rows, r.length = sz) → RdRows N w0 L A sz rows := by
  obtain ⟨A, c, h1, h2⟩ := sv_slice (E := E) hs
  refine ⟨A, c, h1, fun N w0 L rows hw hx hr i hi => ?_⟩
  have hj : ∀ j v, rows[i][j]? = some v → xs[i * sz + j]? = some v := by
    intro j v hj
    have hj2 : j < sz := by
      have := (List.getElem?_eq_some_iff.1 hj).1
      rw [hr _ (List.getElem_mem hi)] at this
      exact this
    rw [hx, flat_get rows i j hi hr hj2]
    exact hj
  obtain ⟨v0, hv0⟩ : ∃ v, rows[i][0]? = some v := ⟨_, List.getElem?_eq_getElem (by rw [hr _ (List.getElem_mem hi)]; omega)⟩
  cases s with
  | none =>
    have h8 := hs.2 rfl
    have h9 := (List.getElem?_eq_some_iff.1 (hj 0 v0 hv0)).1
    have h10 := hs.1
    rw [h8] at h10
    simp at h10
    rw [h10] at h9
    simp at h9
  | some p =>
    have hA : A = some ⟨p.1, 0, none⟩ := by
      obtain ⟨p1, p2⟩ := p
      simp only [svV, Value.slice.injEq] at h1
      exact h1.1.symm
    refine ⟨p.1, 0, hA, fun j v hjv w hI => ?_⟩
    obtain ⟨b', hA', _, hc⟩ := h2 (hI.wk hw) _ _ (hj j v hjv)
    rw [hA] at hA'
    simp only [Option.some.injEq, Addr.mk.injEq, and_true] at hA'
    rw [Nat.zero_add, hA']; exact hc
def idxP {α : Type} (p : α → Bool) (l : List α) : Int := match l.findIdx? p with
  | some i => i
  | none => -1
theorem idxP_some {α : Type} {p : α → Bool} {l : List α} {i : Nat} (hi : i < l.length) (h1 : p l[i] = true) (h2 : ∀ x ∈ l.take i, p x = false) : idxP p l = i := by
  have : l.findIdx? p = some i := by
    rw [List.findIdx?_eq_some_iff_getElem]
    refine ⟨hi, h1, fun j hj => ?_⟩
    rw [h2 _ (List.mem_take_iff_getElem.2 ⟨j, by omega, rfl⟩)]; simp
  unfold idxP; rw [this]
theorem idxP_none {α : Type} {p : α → Bool} {l : List α} (h : ∀ x ∈ l, p x = false) : idxP p l = -1 := by
  have : l.findIdx? p = none := by rw [List.findIdx?_eq_none_iff]; exact h
  unfold idxP; rw [this]
theorem idxP_any {α : Type} (p : α → Bool) (l : List α) : decide (0 ≤ idxP p l) = l.any p := by
  unfold idxP
  cases h : l.findIdx? p with
  | none =>
    rw [List.findIdx?_eq_none_iff] at h
    have : l.any p = false := List.any_eq_false.2 fun x hx => by rw [h x hx]; simp
    rw [this]; rfl
  | some i =>
    rw [List.findIdx?_eq_some_iff_getElem] at h
    obtain ⟨hi, h1, _⟩ := h
    have : l.any p = true := List.any_eq_true.2 ⟨_, List.getElem_mem hi, h1⟩
    rw [this, decide_eq_true_eq]; exact Int.natCast_nonneg i
end Go.Proofs.Ytakmopiceopcpaa
end
