/- Maps whose every entry is right, by keys of whole numbers; made slices, copies. -/
import Derived.Test.YtakmopiceopcpaaMore
section
namespace Go.Proofs.Ytakmopiceopcpaa
open Go.RowKit

class MapTy (P : Program) (t : TypeId) (k v : outParam TypeId) : Prop where
  und : P.underlying t = some (.map k v)
class ZeroV (P : Program) (t : TypeId) (v : outParam Value) : Prop where
  zero : (P.info? t).bind (·.zero) = some v

section
variable {P : Program}
theorem run_zeroV {t : TypeId} {v : Value} [h : ZeroV P t v] (w : World) : (zeroValue t).run P w = .ok v w := by
  have := h.zero
  cases hu : P.info? t with
  | none => rw [hu] at this; cases this
  | some i =>
    rw [hu] at this
    have : i.zero = some v := by simpa using this
    simp [zeroValue, typeInfo, hu, this]
theorem run_checkKey_ints {t : TypeId} {ks : List IntKind} [hk : KeyTy P t ks] {is : List Int} (hi : inKs ks is) (em : Bool) (w : World) : (Instr.checkKey em 10000 t (intsV ks is)).run P w = .ok () w :=
  run_checkKey_deep em 9994 6 t hk.dt w 6 (intsV ks is) _ (intsV_formed hi) (hk.ls is hi.1 hi.2)
theorem sameBits_ints (ks : List IntKind) (is : List Int) : Instr.sameBits 10000 (intsV ks is) (intsV ks is) = true := by
  show Instr.sameBits (9999 + 1) _ _ = true
  unfold intsV
  simp only [Instr.sameBits, beq_self_eq_true, Bool.true_and, List.all_eq_true]
  rintro ⟨x, y⟩ hxy
  have : x = y ∧ ∃ k n, x = .int k n := by
    rw [List.zip_eq_zipWith] at hxy
    obtain ⟨i, hi, he⟩ := List.getElem_of_mem hxy
    simp only [List.getElem_zipWith, Prod.mk.injEq] at he
    obtain ⟨rfl, rfl⟩ := he
    refine ⟨rfl, ?_⟩
    simp only [List.getElem_map]
    exact ⟨_, _, rfl⟩
  obtain ⟨rfl, k, n, rfl⟩ := this
  simp [Instr.sameBits]
end

section
variable {P : Program} {r : Option Nat} {n N : Nat} {w0 : World} {L : Hp} {e : Env} {d : Option Nat} {ty : TypeId} {pos : String} {af : Array Edge} {g : Option (Nat × Bool)}
end
end Go.Proofs.Ytakmopiceopcpaa
end
