/-
  No cell of these rows narrows 'for every input' (looked for: loops, veiled, ifaces, maps, wideKeys, modest, calm, conditions, laid).
  DERIVED. THE GIVEN ROWS OF THIS SEAT. 9 by the template 'for every input the law returns true; each argument reads behind the call as it read before'; 0 by the template 'total and deterministic' (their statements: YtlpahkmfjpjheaaTotals.lean).
  GIVEN WITH THE SEED: the statements are not yours to turn. If you find one false, say at which input.
  Laid BY PROGRAM, IN A SANDBOX (cutbox-rows.mjs): the forced cells as the released guide's own fill.sh prints them over the translation 23fb3a8d2a1e4a41… (all of the seat's roots in one cut). By AI agents, Wed Nov 11 2026. No macro, syntax, notation, axiom, sorry.
-/
import Derived.Test.YtlpahkmfjpjheaaChecked
import GoSem.Claim
import GoSem.ClaimJoined
import GoSem.ClaimMapViews
import Derived.JoinedTies
import Derived.KernelRfl
namespace Go.Proofs.Ytlpahkmfjpjheaa
/- THE CELL 'sum', in the pinned program and in every row, IS THE sha256 OF THE DUMP (.gsa) THAT YtlpahkmfjpjheaaProg.lean LOADS. Nothing in Lean hashes anything: it is a label: what it is worth is what the hold of that sum in a sandbox is worth. -/
noncomputable def Try.pinned : Pinned := { name := "ytlpahkmfjpjheaa", sum := "23fb3a8d2a1e4a4132ec047c3790052bfc5ff52d0cd10c669579fa224a19d986", checked := Try.checked }
namespace Rows
def none {H : Type} : Left H := { results := [], args := [] }

/-- 'bogworkslaw03.HeapTells': WHATEVER THE INPUT: true; the input reads as it did. -/
def heapTellsSpec : ChangeSpec := { name := "heapTells", fn := fun _ => fun
  | [d1, d2, d3] => { results := [.lit (.bool true)], args := [d1, d2, d3] }
  | _ => none }
def heapTellsRow : OpenClaim := { program := "ytlpahkmfjpjheaa", sum := "23fb3a8d2a1e4a4132ec047c3790052bfc5ff52d0cd10c669579fa224a19d986", func := "bogworks/bogworkslaw03.HeapTells", spec := "heapTells", unfollowed := true, recurses := true, plainKeys := false, apart := false }
def HeapTellsSaid : Prop := heapTellsRow.holds Try.pinned (OpenSpec.ofChange heapTellsSpec)

/-- ITS FALSE NEIGHBOUR: 'it returns false'. Refute it at one input. -/
def heapTellsWrong : ChangeSpec := { name := "heapTells", fn := fun _ => fun
  | [d1, d2, d3] => { results := [.lit (.bool false)], args := [d1, d2, d3] }
  | _ => none }
def HeapTellsWrongFalsely : Prop := heapTellsRow.holds Try.pinned (OpenSpec.ofChange heapTellsWrong)

/-- 'bogworkslaw03.HeapLooks': WHATEVER THE INPUT: true; the input reads as it did. -/
def heapLooksSpec : ChangeSpec := { name := "heapLooks", fn := fun _ => fun
  | [d] => { results := [.lit (.bool true)], args := [d] }
  | _ => none }
def heapLooksRow : OpenClaim := { program := "ytlpahkmfjpjheaa", sum := "23fb3a8d2a1e4a4132ec047c3790052bfc5ff52d0cd10c669579fa224a19d986", func := "bogworks/bogworkslaw03.HeapLooks", spec := "heapLooks", unfollowed := true, recurses := true, plainKeys := false, apart := false }
def HeapLooksSaid : Prop := heapLooksRow.holds Try.pinned (OpenSpec.ofChange heapLooksSpec)

/-- ITS FALSE NEIGHBOUR: 'it returns false'. Refute it at one input. -/
def heapLooksWrong : ChangeSpec := { name := "heapLooks", fn := fun _ => fun
  | [d] => { results := [.lit (.bool false)], args := [d] }
  | _ => none }
def HeapLooksWrongFalsely : Prop := heapLooksRow.holds Try.pinned (OpenSpec.ofChange heapLooksWrong)

/-- 'bogworkslaw03.HeapNames': WHATEVER THE INPUT: true; the input reads as it did. -/
def heapNamesSpec : ChangeSpec := { name := "heapNames", fn := fun _ => fun
  | [] => { results := [.lit (.bool true)], args := [] }
  | _ => none }
def heapNamesRow : OpenClaim := { program := "ytlpahkmfjpjheaa", sum := "23fb3a8d2a1e4a4132ec047c3790052bfc5ff52d0cd10c669579fa224a19d986", func := "bogworks/bogworkslaw03.HeapNames", spec := "heapNames", unfollowed := true, recurses := true, plainKeys := false, apart := false }
def HeapNamesSaid : Prop := heapNamesRow.holds Try.pinned (OpenSpec.ofChange heapNamesSpec)

/-- ITS FALSE NEIGHBOUR: 'it returns false'. Refute it at one input. -/
def heapNamesWrong : ChangeSpec := { name := "heapNames", fn := fun _ => fun
  | [] => { results := [.lit (.bool false)], args := [] }
  | _ => none }
def HeapNamesWrongFalsely : Prop := heapNamesRow.holds Try.pinned (OpenSpec.ofChange heapNamesWrong)

/-- 'bogworkslaw03.HeapTrue': WHATEVER THE INPUT: true; the input reads as it did. -/
def heapTrueSpec : ChangeSpec := { name := "heapTrue", fn := fun _ => fun
  | [d1, d2] => { results := [.lit (.bool true)], args := [d1, d2] }
  | _ => none }
def heapTrueRow : OpenClaim := { program := "ytlpahkmfjpjheaa", sum := "23fb3a8d2a1e4a4132ec047c3790052bfc5ff52d0cd10c669579fa224a19d986", func := "bogworks/bogworkslaw03.HeapTrue", spec := "heapTrue", unfollowed := true, recurses := true, plainKeys := false, apart := false }
def HeapTrueSaid : Prop := heapTrueRow.holds Try.pinned (OpenSpec.ofChange heapTrueSpec)

/-- ITS FALSE NEIGHBOUR: 'it returns false'. Refute it at one input. -/
def heapTrueWrong : ChangeSpec := { name := "heapTrue", fn := fun _ => fun
  | [d1, d2] => { results := [.lit (.bool false)], args := [d1, d2] }
  | _ => none }
def HeapTrueWrongFalsely : Prop := heapTrueRow.holds Try.pinned (OpenSpec.ofChange heapTrueWrong)

/-- 'bogworkslaw03.HeapEnds': WHATEVER THE INPUT: true; the input reads as it did. -/
def heapEndsSpec : ChangeSpec := { name := "heapEnds", fn := fun _ => fun
  | [d1, d2, d3] => { results := [.lit (.bool true)], args := [d1, d2, d3] }
  | _ => none }
def heapEndsRow : OpenClaim := { program := "ytlpahkmfjpjheaa", sum := "23fb3a8d2a1e4a4132ec047c3790052bfc5ff52d0cd10c669579fa224a19d986", func := "bogworks/bogworkslaw03.HeapEnds", spec := "heapEnds", unfollowed := true, recurses := true, plainKeys := false, apart := false }
def HeapEndsSaid : Prop := heapEndsRow.holds Try.pinned (OpenSpec.ofChange heapEndsSpec)

/-- ITS FALSE NEIGHBOUR: 'it returns false'. Refute it at one input. -/
def heapEndsWrong : ChangeSpec := { name := "heapEnds", fn := fun _ => fun
  | [d1, d2, d3] => { results := [.lit (.bool false)], args := [d1, d2, d3] }
  | _ => none }
def HeapEndsWrongFalsely : Prop := heapEndsRow.holds Try.pinned (OpenSpec.ofChange heapEndsWrong)

/-- 'bogworkslaw03.HeapDry': WHATEVER THE INPUT: true; the input reads as it did. -/
def heapDrySpec : ChangeSpec := { name := "heapDry", fn := fun _ => fun
  | [d1, d2, d3] => { results := [.lit (.bool true)], args := [d1, d2, d3] }
  | _ => none }
def heapDryRow : OpenClaim := { program := "ytlpahkmfjpjheaa", sum := "23fb3a8d2a1e4a4132ec047c3790052bfc5ff52d0cd10c669579fa224a19d986", func := "bogworks/bogworkslaw03.HeapDry", spec := "heapDry", unfollowed := true, recurses := true, plainKeys := false, apart := false }
def HeapDrySaid : Prop := heapDryRow.holds Try.pinned (OpenSpec.ofChange heapDrySpec)

/-- ITS FALSE NEIGHBOUR: 'it returns false'. Refute it at one input. -/
def heapDryWrong : ChangeSpec := { name := "heapDry", fn := fun _ => fun
  | [d1, d2, d3] => { results := [.lit (.bool false)], args := [d1, d2, d3] }
  | _ => none }
def HeapDryWrongFalsely : Prop := heapDryRow.holds Try.pinned (OpenSpec.ofChange heapDryWrong)

/-- 'bogworkslaw03.HeapHigh': WHATEVER THE INPUT: true; the input reads as it did. -/
def heapHighSpec : ChangeSpec := { name := "heapHigh", fn := fun _ => fun
  | [d1, d2, d3, d4] => { results := [.lit (.bool true)], args := [d1, d2, d3, d4] }
  | _ => none }
def heapHighRow : OpenClaim := { program := "ytlpahkmfjpjheaa", sum := "23fb3a8d2a1e4a4132ec047c3790052bfc5ff52d0cd10c669579fa224a19d986", func := "bogworks/bogworkslaw03.HeapHigh", spec := "heapHigh", unfollowed := true, recurses := true, plainKeys := false, apart := false }
def HeapHighSaid : Prop := heapHighRow.holds Try.pinned (OpenSpec.ofChange heapHighSpec)

/-- ITS FALSE NEIGHBOUR: 'it returns false'. Refute it at one input. -/
def heapHighWrong : ChangeSpec := { name := "heapHigh", fn := fun _ => fun
  | [d1, d2, d3, d4] => { results := [.lit (.bool false)], args := [d1, d2, d3, d4] }
  | _ => none }
def HeapHighWrongFalsely : Prop := heapHighRow.holds Try.pinned (OpenSpec.ofChange heapHighWrong)

/-- 'bogworkslaw03.HeapClash': WHATEVER THE INPUT: true; the input reads as it did. -/
def heapClashSpec : ChangeSpec := { name := "heapClash", fn := fun _ => fun
  | [d1, d2] => { results := [.lit (.bool true)], args := [d1, d2] }
  | _ => none }
def heapClashRow : OpenClaim := { program := "ytlpahkmfjpjheaa", sum := "23fb3a8d2a1e4a4132ec047c3790052bfc5ff52d0cd10c669579fa224a19d986", func := "bogworks/bogworkslaw03.HeapClash", spec := "heapClash", unfollowed := true, recurses := true, plainKeys := false, apart := false }
def HeapClashSaid : Prop := heapClashRow.holds Try.pinned (OpenSpec.ofChange heapClashSpec)

/-- ITS FALSE NEIGHBOUR: 'it returns false'. Refute it at one input. -/
def heapClashWrong : ChangeSpec := { name := "heapClash", fn := fun _ => fun
  | [d1, d2] => { results := [.lit (.bool false)], args := [d1, d2] }
  | _ => none }
def HeapClashWrongFalsely : Prop := heapClashRow.holds Try.pinned (OpenSpec.ofChange heapClashWrong)

/-- 'bogworkslaw03.HeapMore': WHATEVER THE INPUT: true; the input reads as it did. -/
def heapMoreSpec : ChangeSpec := { name := "heapMore", fn := fun _ => fun
  | [d1, d2, d3, d4, d5] => { results := [.lit (.bool true)], args := [d1, d2, d3, d4, d5] }
  | _ => none }
def heapMoreRow : OpenClaim := { program := "ytlpahkmfjpjheaa", sum := "23fb3a8d2a1e4a4132ec047c3790052bfc5ff52d0cd10c669579fa224a19d986", func := "bogworks/bogworkslaw03.HeapMore", spec := "heapMore", unfollowed := true, recurses := true, plainKeys := false, apart := false }
def HeapMoreSaid : Prop := heapMoreRow.holds Try.pinned (OpenSpec.ofChange heapMoreSpec)

/-- ITS FALSE NEIGHBOUR: 'it returns false'. Refute it at one input. -/
def heapMoreWrong : ChangeSpec := { name := "heapMore", fn := fun _ => fun
  | [d1, d2, d3, d4, d5] => { results := [.lit (.bool false)], args := [d1, d2, d3, d4, d5] }
  | _ => none }
def HeapMoreWrongFalsely : Prop := heapMoreRow.holds Try.pinned (OpenSpec.ofChange heapMoreWrong)

/- THE SECOND FORM. 'bulk': how many values and letters a reading holds, each counted each time it is reached (what is shared counts as often as it is met; a slice's spare places count too). A statement '..UptoSaid' is the law's where the arguments, and the package variables that the reading takes, are together of bulk at most 1048576: NARROWER than '..Said'. Prove '..Said' where nothing that the law and all that it calls make is longer than what came in: it says more and counts as full. Else prove '..UptoSaid'. A law counts once. -/
mutual
def uptoBulk {H : Type} : DataW H → Nat
  | .lit (.string bytes) => bytes.length + 1
  | .lit _ => 1
  | .nil => 1
  | .ptr d => uptoBulk d + 1
  | .slice elems spare => uptoBulkAll elems + uptoBulkAll spare + 1
  | .agg parts => uptoBulkAll parts + 1
  | .iface _ d => uptoBulk d + 1
  | .map entries => uptoBulkEntries entries + 1
  | .held _ => 1
def uptoBulkAll {H : Type} : List (DataW H) → Nat
  | [] => 0
  | d :: r => uptoBulk d + uptoBulkAll r
def uptoBulkEntries {H : Type} : List (Lit × DataW H) → Nat
  | [] => 0
  | x :: r => uptoBulkEntry x + uptoBulkEntries r
def uptoBulkEntry {H : Type} : Lit × DataW H → Nat
  | (.string bytes, d) => bytes.length + uptoBulk d + 1
  | (_, d) => uptoBulk d + 1
 end
def uptoSmall : (H : Type) → List (DataW H) → Bool := fun _ ds => decide (uptoBulkAll ds ≤ 1048576)
def OpenSpec.upto (s : _root_.Go.ChangeSpec) : _root_.Go.OpenSpec := { _root_.Go.OpenSpec.ofChange s with cond := some uptoSmall }

/-- 'bogworkslaw03.HeapTells', WHERE WHAT IT READS IS OF BULK AT MOST 1048576: true; the input reads as it did. -/
def heapTellsUptoRow : OpenClaim := { program := "ytlpahkmfjpjheaa", sum := "23fb3a8d2a1e4a4132ec047c3790052bfc5ff52d0cd10c669579fa224a19d986", func := "bogworks/bogworkslaw03.HeapTells", spec := "heapTells", unfollowed := true, recurses := true, plainKeys := false, apart := false, narrowed := true }
def HeapTellsUptoSaid : Prop := heapTellsUptoRow.holds Try.pinned (OpenSpec.upto heapTellsSpec)

/-- 'bogworkslaw03.HeapLooks', WHERE WHAT IT READS IS OF BULK AT MOST 1048576: true; the input reads as it did. -/
def heapLooksUptoRow : OpenClaim := { program := "ytlpahkmfjpjheaa", sum := "23fb3a8d2a1e4a4132ec047c3790052bfc5ff52d0cd10c669579fa224a19d986", func := "bogworks/bogworkslaw03.HeapLooks", spec := "heapLooks", unfollowed := true, recurses := true, plainKeys := false, apart := false, narrowed := true }
def HeapLooksUptoSaid : Prop := heapLooksUptoRow.holds Try.pinned (OpenSpec.upto heapLooksSpec)

/-- 'bogworkslaw03.HeapNames', WHERE WHAT IT READS IS OF BULK AT MOST 1048576: true; the input reads as it did. -/
def heapNamesUptoRow : OpenClaim := { program := "ytlpahkmfjpjheaa", sum := "23fb3a8d2a1e4a4132ec047c3790052bfc5ff52d0cd10c669579fa224a19d986", func := "bogworks/bogworkslaw03.HeapNames", spec := "heapNames", unfollowed := true, recurses := true, plainKeys := false, apart := false, narrowed := true }
def HeapNamesUptoSaid : Prop := heapNamesUptoRow.holds Try.pinned (OpenSpec.upto heapNamesSpec)

/-- 'bogworkslaw03.HeapTrue', WHERE WHAT IT READS IS OF BULK AT MOST 1048576: true; the input reads as it did. -/
def heapTrueUptoRow : OpenClaim := { program := "ytlpahkmfjpjheaa", sum := "23fb3a8d2a1e4a4132ec047c3790052bfc5ff52d0cd10c669579fa224a19d986", func := "bogworks/bogworkslaw03.HeapTrue", spec := "heapTrue", unfollowed := true, recurses := true, plainKeys := false, apart := false, narrowed := true }
def HeapTrueUptoSaid : Prop := heapTrueUptoRow.holds Try.pinned (OpenSpec.upto heapTrueSpec)

/-- 'bogworkslaw03.HeapEnds', WHERE WHAT IT READS IS OF BULK AT MOST 1048576: true; the input reads as it did. -/
def heapEndsUptoRow : OpenClaim := { program := "ytlpahkmfjpjheaa", sum := "23fb3a8d2a1e4a4132ec047c3790052bfc5ff52d0cd10c669579fa224a19d986", func := "bogworks/bogworkslaw03.HeapEnds", spec := "heapEnds", unfollowed := true, recurses := true, plainKeys := false, apart := false, narrowed := true }
def HeapEndsUptoSaid : Prop := heapEndsUptoRow.holds Try.pinned (OpenSpec.upto heapEndsSpec)

/-- 'bogworkslaw03.HeapDry', WHERE WHAT IT READS IS OF BULK AT MOST 1048576: true; the input reads as it did. -/
def heapDryUptoRow : OpenClaim := { program := "ytlpahkmfjpjheaa", sum := "23fb3a8d2a1e4a4132ec047c3790052bfc5ff52d0cd10c669579fa224a19d986", func := "bogworks/bogworkslaw03.HeapDry", spec := "heapDry", unfollowed := true, recurses := true, plainKeys := false, apart := false, narrowed := true }
def HeapDryUptoSaid : Prop := heapDryUptoRow.holds Try.pinned (OpenSpec.upto heapDrySpec)

/-- 'bogworkslaw03.HeapHigh', WHERE WHAT IT READS IS OF BULK AT MOST 1048576: true; the input reads as it did. -/
def heapHighUptoRow : OpenClaim := { program := "ytlpahkmfjpjheaa", sum := "23fb3a8d2a1e4a4132ec047c3790052bfc5ff52d0cd10c669579fa224a19d986", func := "bogworks/bogworkslaw03.HeapHigh", spec := "heapHigh", unfollowed := true, recurses := true, plainKeys := false, apart := false, narrowed := true }
def HeapHighUptoSaid : Prop := heapHighUptoRow.holds Try.pinned (OpenSpec.upto heapHighSpec)

/-- 'bogworkslaw03.HeapClash', WHERE WHAT IT READS IS OF BULK AT MOST 1048576: true; the input reads as it did. -/
def heapClashUptoRow : OpenClaim := { program := "ytlpahkmfjpjheaa", sum := "23fb3a8d2a1e4a4132ec047c3790052bfc5ff52d0cd10c669579fa224a19d986", func := "bogworks/bogworkslaw03.HeapClash", spec := "heapClash", unfollowed := true, recurses := true, plainKeys := false, apart := false, narrowed := true }
def HeapClashUptoSaid : Prop := heapClashUptoRow.holds Try.pinned (OpenSpec.upto heapClashSpec)

/-- 'bogworkslaw03.HeapMore', WHERE WHAT IT READS IS OF BULK AT MOST 1048576: true; the input reads as it did. -/
def heapMoreUptoRow : OpenClaim := { program := "ytlpahkmfjpjheaa", sum := "23fb3a8d2a1e4a4132ec047c3790052bfc5ff52d0cd10c669579fa224a19d986", func := "bogworks/bogworkslaw03.HeapMore", spec := "heapMore", unfollowed := true, recurses := true, plainKeys := false, apart := false, narrowed := true }
def HeapMoreUptoSaid : Prop := heapMoreUptoRow.holds Try.pinned (OpenSpec.upto heapMoreSpec)

end Rows
end Go.Proofs.Ytlpahkmfjpjheaa
