/- Sets in their order: the smaller ones first, of the same size the lesser ones. -/
import Derived.Test.YtakmopiceopcpaaSu
section
namespace Go.Proofs.Ytakmopiceopcpaa
open Go.RowKit
def canon (m : Nat) : List Nat := (List.range 8).flatMap fun s => (List.range (2 ^ m)).filter fun x => pc x == s
def setsL (m : Nat) : List Nat := stab (2 ^ m) (List.range (2 ^ m))
set_option maxRecDepth 100000 in
theorem sets_canon : ∀ m, m < 8 → setsL m = canon m := by decide +kernel
theorem canon_mem {m x : Nat} : x ∈ canon m ↔ x < 2 ^ m := by
  unfold canon
  simp only [List.mem_flatMap, List.mem_range, List.mem_filter, beq_iff_eq]
  constructor
  · rintro ⟨_, _, h, _⟩; exact h
  · intro h
    exact ⟨pc x, by unfold pc; omega, h, rfl⟩
theorem sets_lt {m x : Nat} (hm : m < 8) : x ∈ setsL m ↔ x < 2 ^ m := by rw [sets_canon m hm, canon_mem]
end Go.Proofs.Ytakmopiceopcpaa
end
