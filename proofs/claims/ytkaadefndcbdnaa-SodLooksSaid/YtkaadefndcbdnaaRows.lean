/-
  No cell of these rows narrows 'for every input' (looked for: loops, veiled, ifaces, maps, wideKeys, modest, calm, conditions, laid).
  DERIVED. THE GIVEN ROWS OF THIS SEAT. 9 by the template 'for every input the law returns true; each argument reads behind the call as it read before'; 0 by the template 'total and deterministic' (their statements: YtkaadefndcbdnaaTotals.lean).
  GIVEN WITH THE SEED: the statements are not yours to turn. If you find one false, say at which input.
  Laid BY PROGRAM, IN A SANDBOX (cutbox-rows.mjs): the forced cells as the released guide's own fill.sh prints them over the translation e53abde7aae66ecb… (all of the seat's roots in one cut). By AI agents, Wed Nov 11 2026. No macro, syntax, notation, axiom, sorry.
-/
import Derived.Test.YtkaadefndcbdnaaChecked
import GoSem.Claim
import GoSem.ClaimJoined
import GoSem.ClaimMapViews
import Derived.JoinedTies
import Derived.KernelRfl
namespace Go.Proofs.Ytkaadefndcbdnaa
/- THE CELL 'sum', in the pinned program and in every row, IS THE sha256 OF THE DUMP (.gsa) THAT YtkaadefndcbdnaaProg.lean LOADS. Nothing in Lean hashes anything: it is a label: what it is worth is what the hold of that sum in a sandbox is worth. -/
noncomputable def Try.pinned : Pinned := { name := "ytkaadefndcbdnaa", sum := "e53abde7aae66ecb43b4ec6c04f885c063ce5c0f8c44bac3d63f5bec9b2a1c3c", checked := Try.checked }
namespace Rows
def none {H : Type} : Left H := { results := [], args := [] }

/-- 'bogworkslaw02.SodReads': WHATEVER THE INPUT: true; the input reads as it did. -/
def sodReadsSpec : ChangeSpec := { name := "sodReads", fn := fun _ => fun
  | [d1, d2, d3, d4] => { results := [.lit (.bool true)], args := [d1, d2, d3, d4] }
  | _ => none }
def sodReadsRow : OpenClaim := { program := "ytkaadefndcbdnaa", sum := "e53abde7aae66ecb43b4ec6c04f885c063ce5c0f8c44bac3d63f5bec9b2a1c3c", func := "bogworks/bogworkslaw02.SodReads", spec := "sodReads", unfollowed := true, recurses := true, plainKeys := false, apart := false }
def SodReadsSaid : Prop := sodReadsRow.holds Try.pinned (OpenSpec.ofChange sodReadsSpec)

/-- ITS FALSE NEIGHBOUR: 'it returns false'. Refute it at one input. -/
def sodReadsWrong : ChangeSpec := { name := "sodReads", fn := fun _ => fun
  | [d1, d2, d3, d4] => { results := [.lit (.bool false)], args := [d1, d2, d3, d4] }
  | _ => none }
def SodReadsWrongFalsely : Prop := sodReadsRow.holds Try.pinned (OpenSpec.ofChange sodReadsWrong)

/-- 'bogworkslaw02.SodLooks': WHATEVER THE INPUT: true; the input reads as it did. -/
def sodLooksSpec : ChangeSpec := { name := "sodLooks", fn := fun _ => fun
  | [d1, d2] => { results := [.lit (.bool true)], args := [d1, d2] }
  | _ => none }
def sodLooksRow : OpenClaim := { program := "ytkaadefndcbdnaa", sum := "e53abde7aae66ecb43b4ec6c04f885c063ce5c0f8c44bac3d63f5bec9b2a1c3c", func := "bogworks/bogworkslaw02.SodLooks", spec := "sodLooks", unfollowed := true, recurses := true, plainKeys := false, apart := false }
def SodLooksSaid : Prop := sodLooksRow.holds Try.pinned (OpenSpec.ofChange sodLooksSpec)

/-- ITS FALSE NEIGHBOUR: 'it returns false'. Refute it at one input. -/
def sodLooksWrong : ChangeSpec := { name := "sodLooks", fn := fun _ => fun
  | [d1, d2] => { results := [.lit (.bool false)], args := [d1, d2] }
  | _ => none }
def SodLooksWrongFalsely : Prop := sodLooksRow.holds Try.pinned (OpenSpec.ofChange sodLooksWrong)

/-- 'bogworkslaw02.SodTrue': WHATEVER THE INPUT: true; the input reads as it did. -/
def sodTrueSpec : ChangeSpec := { name := "sodTrue", fn := fun _ => fun
  | [d1, d2] => { results := [.lit (.bool true)], args := [d1, d2] }
  | _ => none }
def sodTrueRow : OpenClaim := { program := "ytkaadefndcbdnaa", sum := "e53abde7aae66ecb43b4ec6c04f885c063ce5c0f8c44bac3d63f5bec9b2a1c3c", func := "bogworks/bogworkslaw02.SodTrue", spec := "sodTrue", unfollowed := true, recurses := true, plainKeys := false, apart := false }
def SodTrueSaid : Prop := sodTrueRow.holds Try.pinned (OpenSpec.ofChange sodTrueSpec)

/-- ITS FALSE NEIGHBOUR: 'it returns false'. Refute it at one input. -/
def sodTrueWrong : ChangeSpec := { name := "sodTrue", fn := fun _ => fun
  | [d1, d2] => { results := [.lit (.bool false)], args := [d1, d2] }
  | _ => none }
def SodTrueWrongFalsely : Prop := sodTrueRow.holds Try.pinned (OpenSpec.ofChange sodTrueWrong)

/-- 'bogworkslaw02.SodEnds': WHATEVER THE INPUT: true; the input reads as it did. -/
def sodEndsSpec : ChangeSpec := { name := "sodEnds", fn := fun _ => fun
  | [d1, d2] => { results := [.lit (.bool true)], args := [d1, d2] }
  | _ => none }
def sodEndsRow : OpenClaim := { program := "ytkaadefndcbdnaa", sum := "e53abde7aae66ecb43b4ec6c04f885c063ce5c0f8c44bac3d63f5bec9b2a1c3c", func := "bogworks/bogworkslaw02.SodEnds", spec := "sodEnds", unfollowed := true, recurses := true, plainKeys := false, apart := false }
def SodEndsSaid : Prop := sodEndsRow.holds Try.pinned (OpenSpec.ofChange sodEndsSpec)

/-- ITS FALSE NEIGHBOUR: 'it returns false'. Refute it at one input. -/
def sodEndsWrong : ChangeSpec := { name := "sodEnds", fn := fun _ => fun
  | [d1, d2] => { results := [.lit (.bool false)], args := [d1, d2] }
  | _ => none }
def SodEndsWrongFalsely : Prop := sodEndsRow.holds Try.pinned (OpenSpec.ofChange sodEndsWrong)

/-- 'bogworkslaw02.SodCosts': WHATEVER THE INPUT: true; the input reads as it did. -/
def sodCostsSpec : ChangeSpec := { name := "sodCosts", fn := fun _ => fun
  | [d1, d2, d3] => { results := [.lit (.bool true)], args := [d1, d2, d3] }
  | _ => none }
def sodCostsRow : OpenClaim := { program := "ytkaadefndcbdnaa", sum := "e53abde7aae66ecb43b4ec6c04f885c063ce5c0f8c44bac3d63f5bec9b2a1c3c", func := "bogworks/bogworkslaw02.SodCosts", spec := "sodCosts", unfollowed := true, recurses := true, plainKeys := false, apart := false }
def SodCostsSaid : Prop := sodCostsRow.holds Try.pinned (OpenSpec.ofChange sodCostsSpec)

/-- ITS FALSE NEIGHBOUR: 'it returns false'. Refute it at one input. -/
def sodCostsWrong : ChangeSpec := { name := "sodCosts", fn := fun _ => fun
  | [d1, d2, d3] => { results := [.lit (.bool false)], args := [d1, d2, d3] }
  | _ => none }
def SodCostsWrongFalsely : Prop := sodCostsRow.holds Try.pinned (OpenSpec.ofChange sodCostsWrong)

/-- 'bogworkslaw02.SodDone': WHATEVER THE INPUT: true; the input reads as it did. -/
def sodDoneSpec : ChangeSpec := { name := "sodDone", fn := fun _ => fun
  | [d] => { results := [.lit (.bool true)], args := [d] }
  | _ => none }
def sodDoneRow : OpenClaim := { program := "ytkaadefndcbdnaa", sum := "e53abde7aae66ecb43b4ec6c04f885c063ce5c0f8c44bac3d63f5bec9b2a1c3c", func := "bogworks/bogworkslaw02.SodDone", spec := "sodDone", unfollowed := true, recurses := true, plainKeys := false, apart := false }
def SodDoneSaid : Prop := sodDoneRow.holds Try.pinned (OpenSpec.ofChange sodDoneSpec)

/-- ITS FALSE NEIGHBOUR: 'it returns false'. Refute it at one input. -/
def sodDoneWrong : ChangeSpec := { name := "sodDone", fn := fun _ => fun
  | [d] => { results := [.lit (.bool false)], args := [d] }
  | _ => none }
def SodDoneWrongFalsely : Prop := sodDoneRow.holds Try.pinned (OpenSpec.ofChange sodDoneWrong)

/-- 'bogworkslaw02.SodFits': WHATEVER THE INPUT: true; the input reads as it did. -/
def sodFitsSpec : ChangeSpec := { name := "sodFits", fn := fun _ => fun
  | [d1, d2, d3, d4] => { results := [.lit (.bool true)], args := [d1, d2, d3, d4] }
  | _ => none }
def sodFitsRow : OpenClaim := { program := "ytkaadefndcbdnaa", sum := "e53abde7aae66ecb43b4ec6c04f885c063ce5c0f8c44bac3d63f5bec9b2a1c3c", func := "bogworks/bogworkslaw02.SodFits", spec := "sodFits", unfollowed := true, recurses := true, plainKeys := false, apart := false }
def SodFitsSaid : Prop := sodFitsRow.holds Try.pinned (OpenSpec.ofChange sodFitsSpec)

/-- ITS FALSE NEIGHBOUR: 'it returns false'. Refute it at one input. -/
def sodFitsWrong : ChangeSpec := { name := "sodFits", fn := fun _ => fun
  | [d1, d2, d3, d4] => { results := [.lit (.bool false)], args := [d1, d2, d3, d4] }
  | _ => none }
def SodFitsWrongFalsely : Prop := sodFitsRow.holds Try.pinned (OpenSpec.ofChange sodFitsWrong)

/-- 'bogworkslaw02.SodClash': WHATEVER THE INPUT: true; the input reads as it did. -/
def sodClashSpec : ChangeSpec := { name := "sodClash", fn := fun _ => fun
  | [d1, d2] => { results := [.lit (.bool true)], args := [d1, d2] }
  | _ => none }
def sodClashRow : OpenClaim := { program := "ytkaadefndcbdnaa", sum := "e53abde7aae66ecb43b4ec6c04f885c063ce5c0f8c44bac3d63f5bec9b2a1c3c", func := "bogworks/bogworkslaw02.SodClash", spec := "sodClash", unfollowed := true, recurses := true, plainKeys := false, apart := false }
def SodClashSaid : Prop := sodClashRow.holds Try.pinned (OpenSpec.ofChange sodClashSpec)

/-- ITS FALSE NEIGHBOUR: 'it returns false'. Refute it at one input. -/
def sodClashWrong : ChangeSpec := { name := "sodClash", fn := fun _ => fun
  | [d1, d2] => { results := [.lit (.bool false)], args := [d1, d2] }
  | _ => none }
def SodClashWrongFalsely : Prop := sodClashRow.holds Try.pinned (OpenSpec.ofChange sodClashWrong)

/-- 'bogworkslaw02.SodMore': WHATEVER THE INPUT: true; the input reads as it did. -/
def sodMoreSpec : ChangeSpec := { name := "sodMore", fn := fun _ => fun
  | [d1, d2, d3, d4] => { results := [.lit (.bool true)], args := [d1, d2, d3, d4] }
  | _ => none }
def sodMoreRow : OpenClaim := { program := "ytkaadefndcbdnaa", sum := "e53abde7aae66ecb43b4ec6c04f885c063ce5c0f8c44bac3d63f5bec9b2a1c3c", func := "bogworks/bogworkslaw02.SodMore", spec := "sodMore", unfollowed := true, recurses := true, plainKeys := false, apart := false }
def SodMoreSaid : Prop := sodMoreRow.holds Try.pinned (OpenSpec.ofChange sodMoreSpec)

/-- ITS FALSE NEIGHBOUR: 'it returns false'. Refute it at one input. -/
def sodMoreWrong : ChangeSpec := { name := "sodMore", fn := fun _ => fun
  | [d1, d2, d3, d4] => { results := [.lit (.bool false)], args := [d1, d2, d3, d4] }
  | _ => none }
def SodMoreWrongFalsely : Prop := sodMoreRow.holds Try.pinned (OpenSpec.ofChange sodMoreWrong)

/- THE SECOND FORM. 'bulk': how many values and letters a reading holds, each counted each time it is reached (what is shared counts as often as it is met; a slice's spare places count too). A statement '..UptoSaid' is the law's where the arguments, and the package variables that the reading takes, are together of bulk at most 1048576: NARROWER than '..Said'. Prove '..Said' where nothing that the law and all that it calls make is longer than what came in: it says more and counts as full. Else prove '..UptoSaid'. A law counts once. -/
mutual
def uptoBulk {H : Type} : DataW H → Nat
  | .lit (.string bytes) => bytes.length + 1
  | .lit _ => 1
  | .nil => 1
  | .ptr d => uptoBulk d + 1
  | .slice elems spare => uptoBulkAll elems + uptoBulkAll spare + 1
  | .agg parts => uptoBulkAll parts + 1
  | .iface _ d => uptoBulk d + 1
  | .map entries => uptoBulkEntries entries + 1
  | .held _ => 1
def uptoBulkAll {H : Type} : List (DataW H) → Nat
  | [] => 0
  | d :: r => uptoBulk d + uptoBulkAll r
def uptoBulkEntries {H : Type} : List (Lit × DataW H) → Nat
  | [] => 0
  | x :: r => uptoBulkEntry x + uptoBulkEntries r
def uptoBulkEntry {H : Type} : Lit × DataW H → Nat
  | (.string bytes, d) => bytes.length + uptoBulk d + 1
  | (_, d) => uptoBulk d + 1
 end
def uptoSmall : (H : Type) → List (DataW H) → Bool := fun _ ds => decide (uptoBulkAll ds ≤ 1048576)
def OpenSpec.upto (s : _root_.Go.ChangeSpec) : _root_.Go.OpenSpec := { _root_.Go.OpenSpec.ofChange s with cond := some uptoSmall }

/-- 'bogworkslaw02.SodReads', WHERE WHAT IT READS IS OF BULK AT MOST 1048576: true; the input reads as it did. -/
def sodReadsUptoRow : OpenClaim := { program := "ytkaadefndcbdnaa", sum := "e53abde7aae66ecb43b4ec6c04f885c063ce5c0f8c44bac3d63f5bec9b2a1c3c", func := "bogworks/bogworkslaw02.SodReads", spec := "sodReads", unfollowed := true, recurses := true, plainKeys := false, apart := false, narrowed := true }
def SodReadsUptoSaid : Prop := sodReadsUptoRow.holds Try.pinned (OpenSpec.upto sodReadsSpec)

/-- 'bogworkslaw02.SodLooks', WHERE WHAT IT READS IS OF BULK AT MOST 1048576: true; the input reads as it did. -/
def sodLooksUptoRow : OpenClaim := { program := "ytkaadefndcbdnaa", sum := "e53abde7aae66ecb43b4ec6c04f885c063ce5c0f8c44bac3d63f5bec9b2a1c3c", func := "bogworks/bogworkslaw02.SodLooks", spec := "sodLooks", unfollowed := true, recurses := true, plainKeys := false, apart := false, narrowed := true }
def SodLooksUptoSaid : Prop := sodLooksUptoRow.holds Try.pinned (OpenSpec.upto sodLooksSpec)

/-- 'bogworkslaw02.SodTrue', WHERE WHAT IT READS IS OF BULK AT MOST 1048576: true; the input reads as it did. -/
def sodTrueUptoRow : OpenClaim := { program := "ytkaadefndcbdnaa", sum := "e53abde7aae66ecb43b4ec6c04f885c063ce5c0f8c44bac3d63f5bec9b2a1c3c", func := "bogworks/bogworkslaw02.SodTrue", spec := "sodTrue", unfollowed := true, recurses := true, plainKeys := false, apart := false, narrowed := true }
def SodTrueUptoSaid : Prop := sodTrueUptoRow.holds Try.pinned (OpenSpec.upto sodTrueSpec)

/-- 'bogworkslaw02.SodEnds', WHERE WHAT IT READS IS OF BULK AT MOST 1048576: true; the input reads as it did. -/
def sodEndsUptoRow : OpenClaim := { program := "ytkaadefndcbdnaa", sum := "e53abde7aae66ecb43b4ec6c04f885c063ce5c0f8c44bac3d63f5bec9b2a1c3c", func := "bogworks/bogworkslaw02.SodEnds", spec := "sodEnds", unfollowed := true, recurses := true, plainKeys := false, apart := false, narrowed := true }
def SodEndsUptoSaid : Prop := sodEndsUptoRow.holds Try.pinned (OpenSpec.upto sodEndsSpec)

/-- 'bogworkslaw02.SodCosts', WHERE WHAT IT READS IS OF BULK AT MOST 1048576: true; the input reads as it did. -/
def sodCostsUptoRow : OpenClaim := { program := "ytkaadefndcbdnaa", sum := "e53abde7aae66ecb43b4ec6c04f885c063ce5c0f8c44bac3d63f5bec9b2a1c3c", func := "bogworks/bogworkslaw02.SodCosts", spec := "sodCosts", unfollowed := true, recurses := true, plainKeys := false, apart := false, narrowed := true }
def SodCostsUptoSaid : Prop := sodCostsUptoRow.holds Try.pinned (OpenSpec.upto sodCostsSpec)

/-- 'bogworkslaw02.SodDone', WHERE WHAT IT READS IS OF BULK AT MOST 1048576: true; the input reads as it did. -/
def sodDoneUptoRow : OpenClaim := { program := "ytkaadefndcbdnaa", sum := "e53abde7aae66ecb43b4ec6c04f885c063ce5c0f8c44bac3d63f5bec9b2a1c3c", func := "bogworks/bogworkslaw02.SodDone", spec := "sodDone", unfollowed := true, recurses := true, plainKeys := false, apart := false, narrowed := true }
def SodDoneUptoSaid : Prop := sodDoneUptoRow.holds Try.pinned (OpenSpec.upto sodDoneSpec)

/-- 'bogworkslaw02.SodFits', WHERE WHAT IT READS IS OF BULK AT MOST 1048576: true; the input reads as it did. -/
def sodFitsUptoRow : OpenClaim := { program := "ytkaadefndcbdnaa", sum := "e53abde7aae66ecb43b4ec6c04f885c063ce5c0f8c44bac3d63f5bec9b2a1c3c", func := "bogworks/bogworkslaw02.SodFits", spec := "sodFits", unfollowed := true, recurses := true, plainKeys := false, apart := false, narrowed := true }
def SodFitsUptoSaid : Prop := sodFitsUptoRow.holds Try.pinned (OpenSpec.upto sodFitsSpec)

/-- 'bogworkslaw02.SodClash', WHERE WHAT IT READS IS OF BULK AT MOST 1048576: true; the input reads as it did. -/
def sodClashUptoRow : OpenClaim := { program := "ytkaadefndcbdnaa", sum := "e53abde7aae66ecb43b4ec6c04f885c063ce5c0f8c44bac3d63f5bec9b2a1c3c", func := "bogworks/bogworkslaw02.SodClash", spec := "sodClash", unfollowed := true, recurses := true, plainKeys := false, apart := false, narrowed := true }
def SodClashUptoSaid : Prop := sodClashUptoRow.holds Try.pinned (OpenSpec.upto sodClashSpec)

/-- 'bogworkslaw02.SodMore', WHERE WHAT IT READS IS OF BULK AT MOST 1048576: true; the input reads as it did. -/
def sodMoreUptoRow : OpenClaim := { program := "ytkaadefndcbdnaa", sum := "e53abde7aae66ecb43b4ec6c04f885c063ce5c0f8c44bac3d63f5bec9b2a1c3c", func := "bogworks/bogworkslaw02.SodMore", spec := "sodMore", unfollowed := true, recurses := true, plainKeys := false, apart := false, narrowed := true }
def SodMoreUptoSaid : Prop := sodMoreUptoRow.holds Try.pinned (OpenSpec.upto sodMoreSpec)

end Rows
end Go.Proofs.Ytkaadefndcbdnaa
