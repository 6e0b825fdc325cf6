/-
  No cell of these rows narrows 'for every input' (looked for: loops, veiled, ifaces, maps, wideKeys, modest, calm, conditions, laid).
  DERIVED. THE GIVEN ROWS OF THIS SEAT. 9 by the template 'for every input the law returns true; each argument reads behind the call as it read before'; 0 by the template 'total and deterministic' (their statements: YtakmopiceopcpaaTotals.lean).
  GIVEN WITH THE SEED: the statements are not yours to turn. If you find one false, say at which input.
  Laid BY PROGRAM, IN A SANDBOX (cutbox-rows.mjs): the forced cells as the released guide's own fill.sh prints them over the translation c84e18c4c9c28f92… (all of the seat's roots in one cut). By AI agents, Wed Nov 11 2026. No macro, syntax, notation, axiom, sorry.
-/
import Derived.Test.YtakmopiceopcpaaChecked
import GoSem.Claim
import GoSem.ClaimJoined
import GoSem.ClaimMapViews
import Derived.JoinedTies
import Derived.KernelRfl
namespace Go.Proofs.Ytakmopiceopcpaa
/- THE CELL 'sum', in the pinned program and in every row, IS THE sha256 OF THE DUMP (.gsa) THAT YtakmopiceopcpaaProg.lean LOADS. Nothing in Lean hashes anything: it is a label: what it is worth is what the hold of that sum in a sandbox is worth. -/
noncomputable def Try.pinned : Pinned := { name := "ytakmopiceopcpaa", sum := "c84e18c4c9c28f92f8fac903d6bad38363cc50a261cc585677e38fe163c695ea", checked := Try.checked }
namespace Rows
def none {H : Type} : Left H := { results := [], args := [] }

/-- 'bogworkslaw01.BankTells': WHATEVER THE INPUT: true; the input reads as it did. -/
def bankTellsSpec : ChangeSpec := { name := "bankTells", fn := fun _ => fun
  | [d1, d2, d3] => { results := [.lit (.bool true)], args := [d1, d2, d3] }
  | _ => none }
def bankTellsRow : OpenClaim := { program := "ytakmopiceopcpaa", sum := "c84e18c4c9c28f92f8fac903d6bad38363cc50a261cc585677e38fe163c695ea", func := "bogworks/bogworkslaw01.BankTells", spec := "bankTells", unfollowed := true, recurses := true, plainKeys := false, apart := false }
def BankTellsSaid : Prop := bankTellsRow.holds Try.pinned (OpenSpec.ofChange bankTellsSpec)

/-- ITS FALSE NEIGHBOUR: 'it returns false'. Refute it at one input. -/
def bankTellsWrong : ChangeSpec := { name := "bankTells", fn := fun _ => fun
  | [d1, d2, d3] => { results := [.lit (.bool false)], args := [d1, d2, d3] }
  | _ => none }
def BankTellsWrongFalsely : Prop := bankTellsRow.holds Try.pinned (OpenSpec.ofChange bankTellsWrong)

/-- 'bogworkslaw01.BankMarks': WHATEVER THE INPUT: true; the input reads as it did. -/
def bankMarksSpec : ChangeSpec := { name := "bankMarks", fn := fun _ => fun
  | [d] => { results := [.lit (.bool true)], args := [d] }
  | _ => none }
def bankMarksRow : OpenClaim := { program := "ytakmopiceopcpaa", sum := "c84e18c4c9c28f92f8fac903d6bad38363cc50a261cc585677e38fe163c695ea", func := "bogworks/bogworkslaw01.BankMarks", spec := "bankMarks", unfollowed := true, recurses := true, plainKeys := false, apart := false }
def BankMarksSaid : Prop := bankMarksRow.holds Try.pinned (OpenSpec.ofChange bankMarksSpec)

/-- ITS FALSE NEIGHBOUR: 'it returns false'. Refute it at one input. -/
def bankMarksWrong : ChangeSpec := { name := "bankMarks", fn := fun _ => fun
  | [d] => { results := [.lit (.bool false)], args := [d] }
  | _ => none }
def BankMarksWrongFalsely : Prop := bankMarksRow.holds Try.pinned (OpenSpec.ofChange bankMarksWrong)

/-- 'bogworkslaw01.BankNames': WHATEVER THE INPUT: true; the input reads as it did. -/
def bankNamesSpec : ChangeSpec := { name := "bankNames", fn := fun _ => fun
  | [] => { results := [.lit (.bool true)], args := [] }
  | _ => none }
def bankNamesRow : OpenClaim := { program := "ytakmopiceopcpaa", sum := "c84e18c4c9c28f92f8fac903d6bad38363cc50a261cc585677e38fe163c695ea", func := "bogworks/bogworkslaw01.BankNames", spec := "bankNames", unfollowed := true, recurses := true, plainKeys := false, apart := false }
def BankNamesSaid : Prop := bankNamesRow.holds Try.pinned (OpenSpec.ofChange bankNamesSpec)

/-- ITS FALSE NEIGHBOUR: 'it returns false'. Refute it at one input. -/
def bankNamesWrong : ChangeSpec := { name := "bankNames", fn := fun _ => fun
  | [] => { results := [.lit (.bool false)], args := [] }
  | _ => none }
def BankNamesWrongFalsely : Prop := bankNamesRow.holds Try.pinned (OpenSpec.ofChange bankNamesWrong)

/-- 'bogworkslaw01.BankTrue': WHATEVER THE INPUT: true; the input reads as it did. -/
def bankTrueSpec : ChangeSpec := { name := "bankTrue", fn := fun _ => fun
  | [d1, d2] => { results := [.lit (.bool true)], args := [d1, d2] }
  | _ => none }
def bankTrueRow : OpenClaim := { program := "ytakmopiceopcpaa", sum := "c84e18c4c9c28f92f8fac903d6bad38363cc50a261cc585677e38fe163c695ea", func := "bogworks/bogworkslaw01.BankTrue", spec := "bankTrue", unfollowed := true, recurses := true, plainKeys := false, apart := false }
def BankTrueSaid : Prop := bankTrueRow.holds Try.pinned (OpenSpec.ofChange bankTrueSpec)

/-- ITS FALSE NEIGHBOUR: 'it returns false'. Refute it at one input. -/
def bankTrueWrong : ChangeSpec := { name := "bankTrue", fn := fun _ => fun
  | [d1, d2] => { results := [.lit (.bool false)], args := [d1, d2] }
  | _ => none }
def BankTrueWrongFalsely : Prop := bankTrueRow.holds Try.pinned (OpenSpec.ofChange bankTrueWrong)

/-- 'bogworkslaw01.BankWhose': WHATEVER THE INPUT: true; the input reads as it did. -/
def bankWhoseSpec : ChangeSpec := { name := "bankWhose", fn := fun _ => fun
  | [d1, d2, d3] => { results := [.lit (.bool true)], args := [d1, d2, d3] }
  | _ => none }
def bankWhoseRow : OpenClaim := { program := "ytakmopiceopcpaa", sum := "c84e18c4c9c28f92f8fac903d6bad38363cc50a261cc585677e38fe163c695ea", func := "bogworks/bogworkslaw01.BankWhose", spec := "bankWhose", unfollowed := true, recurses := true, plainKeys := false, apart := false }
def BankWhoseSaid : Prop := bankWhoseRow.holds Try.pinned (OpenSpec.ofChange bankWhoseSpec)

/-- ITS FALSE NEIGHBOUR: 'it returns false'. Refute it at one input. -/
def bankWhoseWrong : ChangeSpec := { name := "bankWhose", fn := fun _ => fun
  | [d1, d2, d3] => { results := [.lit (.bool false)], args := [d1, d2, d3] }
  | _ => none }
def BankWhoseWrongFalsely : Prop := bankWhoseRow.holds Try.pinned (OpenSpec.ofChange bankWhoseWrong)

/-- 'bogworkslaw01.BankCount': WHATEVER THE INPUT: true; the input reads as it did. -/
def bankCountSpec : ChangeSpec := { name := "bankCount", fn := fun _ => fun
  | [d1, d2, d3] => { results := [.lit (.bool true)], args := [d1, d2, d3] }
  | _ => none }
def bankCountRow : OpenClaim := { program := "ytakmopiceopcpaa", sum := "c84e18c4c9c28f92f8fac903d6bad38363cc50a261cc585677e38fe163c695ea", func := "bogworks/bogworkslaw01.BankCount", spec := "bankCount", unfollowed := true, recurses := true, plainKeys := false, apart := false }
def BankCountSaid : Prop := bankCountRow.holds Try.pinned (OpenSpec.ofChange bankCountSpec)

/-- ITS FALSE NEIGHBOUR: 'it returns false'. Refute it at one input. -/
def bankCountWrong : ChangeSpec := { name := "bankCount", fn := fun _ => fun
  | [d1, d2, d3] => { results := [.lit (.bool false)], args := [d1, d2, d3] }
  | _ => none }
def BankCountWrongFalsely : Prop := bankCountRow.holds Try.pinned (OpenSpec.ofChange bankCountWrong)

/-- 'bogworkslaw01.BankAsk': WHATEVER THE INPUT: true; the input reads as it did. -/
def bankAskSpec : ChangeSpec := { name := "bankAsk", fn := fun _ => fun
  | [d1, d2] => { results := [.lit (.bool true)], args := [d1, d2] }
  | _ => none }
def bankAskRow : OpenClaim := { program := "ytakmopiceopcpaa", sum := "c84e18c4c9c28f92f8fac903d6bad38363cc50a261cc585677e38fe163c695ea", func := "bogworks/bogworkslaw01.BankAsk", spec := "bankAsk", unfollowed := true, recurses := true, plainKeys := false, apart := false }
def BankAskSaid : Prop := bankAskRow.holds Try.pinned (OpenSpec.ofChange bankAskSpec)

/-- ITS FALSE NEIGHBOUR: 'it returns false'. Refute it at one input. -/
def bankAskWrong : ChangeSpec := { name := "bankAsk", fn := fun _ => fun
  | [d1, d2] => { results := [.lit (.bool false)], args := [d1, d2] }
  | _ => none }
def BankAskWrongFalsely : Prop := bankAskRow.holds Try.pinned (OpenSpec.ofChange bankAskWrong)

/-- 'bogworkslaw01.BankClash': WHATEVER THE INPUT: true; the input reads as it did. -/
def bankClashSpec : ChangeSpec := { name := "bankClash", fn := fun _ => fun
  | [d1, d2] => { results := [.lit (.bool true)], args := [d1, d2] }
  | _ => none }
def bankClashRow : OpenClaim := { program := "ytakmopiceopcpaa", sum := "c84e18c4c9c28f92f8fac903d6bad38363cc50a261cc585677e38fe163c695ea", func := "bogworks/bogworkslaw01.BankClash", spec := "bankClash", unfollowed := true, recurses := true, plainKeys := false, apart := false }
def BankClashSaid : Prop := bankClashRow.holds Try.pinned (OpenSpec.ofChange bankClashSpec)

/-- ITS FALSE NEIGHBOUR: 'it returns false'. Refute it at one input. -/
def bankClashWrong : ChangeSpec := { name := "bankClash", fn := fun _ => fun
  | [d1, d2] => { results := [.lit (.bool false)], args := [d1, d2] }
  | _ => none }
def BankClashWrongFalsely : Prop := bankClashRow.holds Try.pinned (OpenSpec.ofChange bankClashWrong)

/-- 'bogworkslaw01.BankMore': WHATEVER THE INPUT: true; the input reads as it did. -/
def bankMoreSpec : ChangeSpec := { name := "bankMore", fn := fun _ => fun
  | [d1, d2, d3, d4] => { results := [.lit (.bool true)], args := [d1, d2, d3, d4] }
  | _ => none }
def bankMoreRow : OpenClaim := { program := "ytakmopiceopcpaa", sum := "c84e18c4c9c28f92f8fac903d6bad38363cc50a261cc585677e38fe163c695ea", func := "bogworks/bogworkslaw01.BankMore", spec := "bankMore", unfollowed := true, recurses := true, plainKeys := false, apart := false }
def BankMoreSaid : Prop := bankMoreRow.holds Try.pinned (OpenSpec.ofChange bankMoreSpec)

/-- ITS FALSE NEIGHBOUR: 'it returns false'. Refute it at one input. -/
def bankMoreWrong : ChangeSpec := { name := "bankMore", fn := fun _ => fun
  | [d1, d2, d3, d4] => { results := [.lit (.bool false)], args := [d1, d2, d3, d4] }
  | _ => none }
def BankMoreWrongFalsely : Prop := bankMoreRow.holds Try.pinned (OpenSpec.ofChange bankMoreWrong)

/- THE SECOND FORM. 'bulk': how many values and letters a reading holds, each counted each time it is reached (what is shared counts as often as it is met; a slice's spare places count too). A statement '..UptoSaid' is the law's where the arguments, and the package variables that the reading takes, are together of bulk at most 1048576: NARROWER than '..Said'. Prove '..Said' where nothing that the law and all that it calls make is longer than what came in: it says more and counts as full. Else prove '..UptoSaid'. A law counts once. -/
mutual
def uptoBulk {H : Type} : DataW H → Nat
  | .lit (.string bytes) => bytes.length + 1
  | .lit _ => 1
  | .nil => 1
  | .ptr d => uptoBulk d + 1
  | .slice elems spare => uptoBulkAll elems + uptoBulkAll spare + 1
  | .agg parts => uptoBulkAll parts + 1
  | .iface _ d => uptoBulk d + 1
  | .map entries => uptoBulkEntries entries + 1
  | .held _ => 1
def uptoBulkAll {H : Type} : List (DataW H) → Nat
  | [] => 0
  | d :: r => uptoBulk d + uptoBulkAll r
def uptoBulkEntries {H : Type} : List (Lit × DataW H) → Nat
  | [] => 0
  | x :: r => uptoBulkEntry x + uptoBulkEntries r
def uptoBulkEntry {H : Type} : Lit × DataW H → Nat
  | (.string bytes, d) => bytes.length + uptoBulk d + 1
  | (_, d) => uptoBulk d + 1
 end
def uptoSmall : (H : Type) → List (DataW H) → Bool := fun _ ds => decide (uptoBulkAll ds ≤ 1048576)
def OpenSpec.upto (s : _root_.Go.ChangeSpec) : _root_.Go.OpenSpec := { _root_.Go.OpenSpec.ofChange s with cond := some uptoSmall }

/-- 'bogworkslaw01.BankTells', WHERE WHAT IT READS IS OF BULK AT MOST 1048576: true; the input reads as it did. -/
def bankTellsUptoRow : OpenClaim := { program := "ytakmopiceopcpaa", sum := "c84e18c4c9c28f92f8fac903d6bad38363cc50a261cc585677e38fe163c695ea", func := "bogworks/bogworkslaw01.BankTells", spec := "bankTells", unfollowed := true, recurses := true, plainKeys := false, apart := false, narrowed := true }
def BankTellsUptoSaid : Prop := bankTellsUptoRow.holds Try.pinned (OpenSpec.upto bankTellsSpec)

/-- 'bogworkslaw01.BankMarks', WHERE WHAT IT READS IS OF BULK AT MOST 1048576: true; the input reads as it did. -/
def bankMarksUptoRow : OpenClaim := { program := "ytakmopiceopcpaa", sum := "c84e18c4c9c28f92f8fac903d6bad38363cc50a261cc585677e38fe163c695ea", func := "bogworks/bogworkslaw01.BankMarks", spec := "bankMarks", unfollowed := true, recurses := true, plainKeys := false, apart := false, narrowed := true }
def BankMarksUptoSaid : Prop := bankMarksUptoRow.holds Try.pinned (OpenSpec.upto bankMarksSpec)

/-- 'bogworkslaw01.BankNames', WHERE WHAT IT READS IS OF BULK AT MOST 1048576: true; the input reads as it did. -/
def bankNamesUptoRow : OpenClaim := { program := "ytakmopiceopcpaa", sum := "c84e18c4c9c28f92f8fac903d6bad38363cc50a261cc585677e38fe163c695ea", func := "bogworks/bogworkslaw01.BankNames", spec := "bankNames", unfollowed := true, recurses := true, plainKeys := false, apart := false, narrowed := true }
def BankNamesUptoSaid : Prop := bankNamesUptoRow.holds Try.pinned (OpenSpec.upto bankNamesSpec)

/-- 'bogworkslaw01.BankTrue', WHERE WHAT IT READS IS OF BULK AT MOST 1048576: true; the input reads as it did. -/
def bankTrueUptoRow : OpenClaim := { program := "ytakmopiceopcpaa", sum := "c84e18c4c9c28f92f8fac903d6bad38363cc50a261cc585677e38fe163c695ea", func := "bogworks/bogworkslaw01.BankTrue", spec := "bankTrue", unfollowed := true, recurses := true, plainKeys := false, apart := false, narrowed := true }
def BankTrueUptoSaid : Prop := bankTrueUptoRow.holds Try.pinned (OpenSpec.upto bankTrueSpec)

/-- 'bogworkslaw01.BankWhose', WHERE WHAT IT READS IS OF BULK AT MOST 1048576: true; the input reads as it did. -/
def bankWhoseUptoRow : OpenClaim := { program := "ytakmopiceopcpaa", sum := "c84e18c4c9c28f92f8fac903d6bad38363cc50a261cc585677e38fe163c695ea", func := "bogworks/bogworkslaw01.BankWhose", spec := "bankWhose", unfollowed := true, recurses := true, plainKeys := false, apart := false, narrowed := true }
def BankWhoseUptoSaid : Prop := bankWhoseUptoRow.holds Try.pinned (OpenSpec.upto bankWhoseSpec)

/-- 'bogworkslaw01.BankCount', WHERE WHAT IT READS IS OF BULK AT MOST 1048576: true; the input reads as it did. -/
def bankCountUptoRow : OpenClaim := { program := "ytakmopiceopcpaa", sum := "c84e18c4c9c28f92f8fac903d6bad38363cc50a261cc585677e38fe163c695ea", func := "bogworks/bogworkslaw01.BankCount", spec := "bankCount", unfollowed := true, recurses := true, plainKeys := false, apart := false, narrowed := true }
def BankCountUptoSaid : Prop := bankCountUptoRow.holds Try.pinned (OpenSpec.upto bankCountSpec)

/-- 'bogworkslaw01.BankAsk', WHERE WHAT IT READS IS OF BULK AT MOST 1048576: true; the input reads as it did. -/
def bankAskUptoRow : OpenClaim := { program := "ytakmopiceopcpaa", sum := "c84e18c4c9c28f92f8fac903d6bad38363cc50a261cc585677e38fe163c695ea", func := "bogworks/bogworkslaw01.BankAsk", spec := "bankAsk", unfollowed := true, recurses := true, plainKeys := false, apart := false, narrowed := true }
def BankAskUptoSaid : Prop := bankAskUptoRow.holds Try.pinned (OpenSpec.upto bankAskSpec)

/-- 'bogworkslaw01.BankClash', WHERE WHAT IT READS IS OF BULK AT MOST 1048576: true; the input reads as it did. -/
def bankClashUptoRow : OpenClaim := { program := "ytakmopiceopcpaa", sum := "c84e18c4c9c28f92f8fac903d6bad38363cc50a261cc585677e38fe163c695ea", func := "bogworks/bogworkslaw01.BankClash", spec := "bankClash", unfollowed := true, recurses := true, plainKeys := false, apart := false, narrowed := true }
def BankClashUptoSaid : Prop := bankClashUptoRow.holds Try.pinned (OpenSpec.upto bankClashSpec)

/-- 'bogworkslaw01.BankMore', WHERE WHAT IT READS IS OF BULK AT MOST 1048576: true; the input reads as it did. -/
def bankMoreUptoRow : OpenClaim := { program := "ytakmopiceopcpaa", sum := "c84e18c4c9c28f92f8fac903d6bad38363cc50a261cc585677e38fe163c695ea", func := "bogworks/bogworkslaw01.BankMore", spec := "bankMore", unfollowed := true, recurses := true, plainKeys := false, apart := false, narrowed := true }
def BankMoreUptoSaid : Prop := bankMoreUptoRow.holds Try.pinned (OpenSpec.upto bankMoreSpec)

end Rows
end Go.Proofs.Ytakmopiceopcpaa
