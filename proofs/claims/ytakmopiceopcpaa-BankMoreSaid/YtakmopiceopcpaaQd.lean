/- Sets in their order: the smaller ones first, of the same size the lesser ones. -/
import Derived.Test.YtakmopiceopcpaaSu
section
namespace Go.Proofs.Ytakmopiceopcpaa
open Go.RowKit
/-- Fewer, or as many and a lesser set. -/
def LexLt (a b : Nat) : Prop := pc a < pc b ∨ (pc a = pc b ∧ a < b)
def canon (m : Nat) : List Nat := (List.range 8).flatMap fun s => (List.range (2 ^ m)).filter fun x => pc x == s
def setsL (m : Nat) : List Nat := stab (2 ^ m) (List.range (2 ^ m))
set_option maxRecDepth 100000 in
theorem sets_canon : ∀ m, m < 8 → setsL m = canon m := by decide +kernel
theorem canon_mem {m x : Nat} : x ∈ canon m ↔ x < 2 ^ m := by
  unfold canon
  simp only [List.mem_flatMap, List.mem_range, List.mem_filter, beq_iff_eq]
  constructor
  · rintro ⟨_, _, h, _⟩; exact h
  · intro h
    exact ⟨pc x, by unfold pc; omega, h, rfl⟩
theorem canon_pw (m : Nat) : (canon m).Pairwise LexLt := by
  unfold canon
  rw [List.pairwise_flatMap]
  refine ⟨fun s _ => ?_, ?_⟩
  · have h1 : ((List.range (2 ^ m)).filter fun x => pc x == s).Pairwise (· < ·) := List.Pairwise.filter _ List.pairwise_lt_range
    refine List.Pairwise.imp_of_mem ?_ h1
    intro a b ha hb hab
    have h2 := (List.mem_filter.1 ha).2
    have h3 := (List.mem_filter.1 hb).2
    rw [beq_iff_eq] at h2 h3
    exact .inr ⟨by omega, hab⟩
  · refine List.Pairwise.imp ?_ (List.pairwise_lt_range (n := 8))
    intro s t hst x hx y hy
    have h2 := (List.mem_filter.1 hx).2
    have h3 := (List.mem_filter.1 hy).2
    rw [beq_iff_eq] at h2 h3
    exact .inl (by omega)
theorem find_pw {p : Nat → Bool} {x : Nat} : ∀ {l : List Nat}, l.Pairwise LexLt → l.find? p = some x → p x = true ∧ x ∈ l ∧ ∀ y ∈ l, p y = true → y = x ∨ LexLt x y
  | [], _, h => by simp at h
  | a :: l, hp, h => by
    rw [List.pairwise_cons] at hp
    rw [List.find?_cons] at h
    split at h
    · rename_i ha
      have : a = x := by simpa using h
      subst this
      refine ⟨ha, .head _, fun y hy _ => ?_⟩
      rcases List.mem_cons.1 hy with rfl | hy
      · exact .inl rfl
      · exact .inr (hp.1 y hy)
    · rename_i ha
      obtain ⟨h1, h2, h3⟩ := find_pw hp.2 h
      refine ⟨h1, .tail _ h2, fun y hy hpy => ?_⟩
      rcases List.mem_cons.1 hy with rfl | hy
      · rw [ha] at hpy; cases hpy
      · exact h3 y hy hpy
theorem sets_find {m : Nat} (hm : m < 8) {p : Nat → Bool} {x : Nat} (h : (setsL m).find? p = some x) : p x = true ∧ x < 2 ^ m ∧ ∀ y, y < 2 ^ m → p y = true → y = x ∨ LexLt x y := by
  rw [sets_canon m hm] at h
  obtain ⟨h1, h2, h3⟩ := find_pw (canon_pw m) h
  exact ⟨h1, canon_mem.1 h2, fun y hy => h3 y (canon_mem.2 hy)⟩
theorem sets_none {m : Nat} (hm : m < 8) {p : Nat → Bool} (h : (setsL m).find? p = none) : ∀ y, y < 2 ^ m → p y = false := by
  rw [sets_canon m hm, List.find?_eq_none] at h
  intro y hy
  simpa using h y (canon_mem.2 hy)
theorem sets_lt {m x : Nat} (hm : m < 8) : x ∈ setsL m ↔ x < 2 ^ m := by rw [sets_canon m hm, canon_mem]
end Go.Proofs.Ytakmopiceopcpaa
end
