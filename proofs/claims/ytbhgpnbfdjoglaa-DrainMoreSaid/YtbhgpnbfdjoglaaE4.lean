/- The law's own waters. · The law's each: all levels that are right, in order. · The law DrainStop: whether a set of stops keeps all rights. -/
import Derived.Test.YtbhgpnbfdjoglaaE1
section
namespace Go.Proofs.Ytbhgpnbfdjoglaa
open Go.RowKit
attribute [local irreducible] AnyO AnyB QAny QB EWalk AWalk Ev WP OPS QThen QBlock QScope QLoop QBody Val New Turn Tri Enters PostA Blk Ro
attribute [local irreducible] AnyC QC
section
variable (N : Nat) (w0 : World)
end
end Go.Proofs.Ytbhgpnbfdjoglaa
end

section
namespace Go.Proofs.Ytbhgpnbfdjoglaa
open Go.RowKit
/-- What a law's function does with each level: the heap goes from J k to J (k + 1). -/
structure OnOK (N : Nat) (w0 : World) (d : Dr) (J : Nat → Hp) (q : FuncId) (qc : List Value) : Prop where
  on : ∀ k (hk : k < (rowsD d).length), rightB d (rowsD d)[k] = true → ∀ (F : Hp) (A : Option Addr) (c : Nat), (∀ L', Sub F L' → RdI N w0 L' A (rowsD d)[k]) → Tri Try.prog N w0 (F ++ J k) q (.slice A d.banks.length c :: qc).toArray fun x L' => x = .returned (.tuple #[]) ∧ L' = F ++ J (k + 1)
  no : ∀ k (hk : k < (rowsD d).length), rightB d (rowsD d)[k] = false → J (k + 1) = J k
attribute [local irreducible] AnyO AnyB QAny QB EWalk AWalk Ev WP OPS QThen QBlock QScope QLoop QBody Val New Turn Tri Enters PostA Blk Ro
attribute [local irreducible] AnyC QC
section
variable (N : Nat) (w0 : World)
end
end Go.Proofs.Ytbhgpnbfdjoglaa
end

section
namespace Go.Proofs.Ytbhgpnbfdjoglaa
open Go.RowKit
attribute [local irreducible] AnyO AnyB QAny QB EWalk AWalk Ev WP OPS QThen QBlock QScope QLoop QBody Val New Turn Tri Enters PostA Blk Ro
attribute [local irreducible] AnyC QC
section
variable (N : Nat) (w0 : World)
end
end Go.Proofs.Ytbhgpnbfdjoglaa
end
