/- A law's argument of banks, and of marks: what they hold. -/
import Derived.Test.YtakmopiceopcpaaFr
import Derived.Test.YtakmopiceopcpaaC1
import Derived.Test.YtakmopiceopcpaaRows
section
namespace Go.Proofs.Ytakmopiceopcpaa
open Go.ChangeShapes Go.WideShapes Go.ChangeAt Go.RowKit
section
variable {H : Type} {enc : TypeId × Value → H} {W : World}
def WfI (n : Int) : Prop := (Lit.int .i64 n).wf = true
structure WfB (d : Bn) : Prop where
  n : WfI d.n
  m : WfI d.m
  ls : ∀ l ∈ d.ls, WfI l.h ∧ (WfI l.f.1 ∧ WfI l.f.2) ∧ WfI l.t.1 ∧ WfI l.t.2
  ms : ∀ k ∈ d.ms, WfI k.1 ∧ WfI k.2
end
theorem calls_of_ret {f : FuncId} {args : Array Value} {v : Value} {W : World} (h : Ret Try.prog W.heap.size W [] f args v) : Calls Try.prog f args W fun e w' => e = .returned v ∧ Below W.heap.size W w' :=
  (h W ⟨Below.refl _ W, Nat.le_refl _, .nil, fun _ h => by cases h⟩).mono fun _ _ ⟨_, hI, hx, _⟩ => ⟨hx, hI.below⟩
theorem try_own : ownKnob Try.prog.godebug = none := by kernel_rfl
theorem try_laid : laidOutB Try.prog = true := by kernel_rfl
end Go.Proofs.Ytakmopiceopcpaa
end
