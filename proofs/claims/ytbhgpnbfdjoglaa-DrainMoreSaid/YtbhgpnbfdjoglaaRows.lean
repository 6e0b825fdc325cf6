/-
  No cell of these rows narrows 'for every input' (looked for: loops, veiled, ifaces, maps, wideKeys, modest, calm, conditions, laid).
  DERIVED. THE GIVEN ROWS OF THIS SEAT. 7 by the template 'for every input the law returns true; each argument reads behind the call as it read before'; 0 by the template 'total and deterministic' (their statements: YtbhgpnbfdjoglaaTotals.lean).
  GIVEN WITH THE SEED: the statements are not yours to turn. If you find one false, say at which input.
  Laid BY PROGRAM, IN A SANDBOX (cutbox-rows.mjs): the forced cells as the released guide's own fill.sh prints them over the translation fcacd0391ee5edd0… (all of the seat's roots in one cut). By AI agents, Wed Nov 11 2026. No macro, syntax, notation, axiom, sorry.
-/
import Derived.Test.YtbhgpnbfdjoglaaChecked
import GoSem.Claim
import GoSem.ClaimJoined
import GoSem.ClaimMapViews
import Derived.JoinedTies
import Derived.KernelRfl
namespace Go.Proofs.Ytbhgpnbfdjoglaa
/- THE CELL 'sum', in the pinned program and in every row, IS THE sha256 OF THE DUMP (.gsa) THAT YtbhgpnbfdjoglaaProg.lean LOADS. Nothing in Lean hashes anything: it is a label: what it is worth is what the hold of that sum in a sandbox is worth. -/
noncomputable def Try.pinned : Pinned := { name := "ytbhgpnbfdjoglaa", sum := "fcacd0391ee5edd005e0e8eba07435b210cade2a8d5e31244c9868d53bb38840", checked := Try.checked }
namespace Rows
def none {H : Type} : Left H := { results := [], args := [] }

/-- 'bogworkslaw07.DrainNames': WHATEVER THE INPUT: true; the input reads as it did. -/
def drainNamesSpec : ChangeSpec := { name := "drainNames", fn := fun _ => fun
  | [] => { results := [.lit (.bool true)], args := [] }
  | _ => none }
def drainNamesRow : OpenClaim := { program := "ytbhgpnbfdjoglaa", sum := "fcacd0391ee5edd005e0e8eba07435b210cade2a8d5e31244c9868d53bb38840", func := "bogworks/bogworkslaw07.DrainNames", spec := "drainNames", unfollowed := true, recurses := true, plainKeys := false, apart := false }
def DrainNamesSaid : Prop := drainNamesRow.holds Try.pinned (OpenSpec.ofChange drainNamesSpec)

/-- ITS FALSE NEIGHBOUR: 'it returns false'. Refute it at one input. -/
def drainNamesWrong : ChangeSpec := { name := "drainNames", fn := fun _ => fun
  | [] => { results := [.lit (.bool false)], args := [] }
  | _ => none }
def DrainNamesWrongFalsely : Prop := drainNamesRow.holds Try.pinned (OpenSpec.ofChange drainNamesWrong)

/-- 'bogworkslaw07.DrainTrue': WHATEVER THE INPUT: true; the input reads as it did. -/
def drainTrueSpec : ChangeSpec := { name := "drainTrue", fn := fun _ => fun
  | [d1, d2] => { results := [.lit (.bool true)], args := [d1, d2] }
  | _ => none }
def drainTrueRow : OpenClaim := { program := "ytbhgpnbfdjoglaa", sum := "fcacd0391ee5edd005e0e8eba07435b210cade2a8d5e31244c9868d53bb38840", func := "bogworks/bogworkslaw07.DrainTrue", spec := "drainTrue", unfollowed := true, recurses := true, plainKeys := false, apart := false }
def DrainTrueSaid : Prop := drainTrueRow.holds Try.pinned (OpenSpec.ofChange drainTrueSpec)

/-- ITS FALSE NEIGHBOUR: 'it returns false'. Refute it at one input. -/
def drainTrueWrong : ChangeSpec := { name := "drainTrue", fn := fun _ => fun
  | [d1, d2] => { results := [.lit (.bool false)], args := [d1, d2] }
  | _ => none }
def DrainTrueWrongFalsely : Prop := drainTrueRow.holds Try.pinned (OpenSpec.ofChange drainTrueWrong)

/-- 'bogworkslaw07.DrainEnds': WHATEVER THE INPUT: true; the input reads as it did. -/
def drainEndsSpec : ChangeSpec := { name := "drainEnds", fn := fun _ => fun
  | [d1, d2, d3] => { results := [.lit (.bool true)], args := [d1, d2, d3] }
  | _ => none }
def drainEndsRow : OpenClaim := { program := "ytbhgpnbfdjoglaa", sum := "fcacd0391ee5edd005e0e8eba07435b210cade2a8d5e31244c9868d53bb38840", func := "bogworks/bogworkslaw07.DrainEnds", spec := "drainEnds", unfollowed := true, recurses := true, plainKeys := false, apart := false }
def DrainEndsSaid : Prop := drainEndsRow.holds Try.pinned (OpenSpec.ofChange drainEndsSpec)

/-- ITS FALSE NEIGHBOUR: 'it returns false'. Refute it at one input. -/
def drainEndsWrong : ChangeSpec := { name := "drainEnds", fn := fun _ => fun
  | [d1, d2, d3] => { results := [.lit (.bool false)], args := [d1, d2, d3] }
  | _ => none }
def DrainEndsWrongFalsely : Prop := drainEndsRow.holds Try.pinned (OpenSpec.ofChange drainEndsWrong)

/-- 'bogworkslaw07.DrainBreaks': WHATEVER THE INPUT: true; the input reads as it did. -/
def drainBreaksSpec : ChangeSpec := { name := "drainBreaks", fn := fun _ => fun
  | [d1, d2, d3] => { results := [.lit (.bool true)], args := [d1, d2, d3] }
  | _ => none }
def drainBreaksRow : OpenClaim := { program := "ytbhgpnbfdjoglaa", sum := "fcacd0391ee5edd005e0e8eba07435b210cade2a8d5e31244c9868d53bb38840", func := "bogworks/bogworkslaw07.DrainBreaks", spec := "drainBreaks", unfollowed := true, recurses := true, plainKeys := false, apart := false }
def DrainBreaksSaid : Prop := drainBreaksRow.holds Try.pinned (OpenSpec.ofChange drainBreaksSpec)

/-- ITS FALSE NEIGHBOUR: 'it returns false'. Refute it at one input. -/
def drainBreaksWrong : ChangeSpec := { name := "drainBreaks", fn := fun _ => fun
  | [d1, d2, d3] => { results := [.lit (.bool false)], args := [d1, d2, d3] }
  | _ => none }
def DrainBreaksWrongFalsely : Prop := drainBreaksRow.holds Try.pinned (OpenSpec.ofChange drainBreaksWrong)

/-- 'bogworkslaw07.DrainStop': WHATEVER THE INPUT: true; the input reads as it did. -/
def drainStopSpec : ChangeSpec := { name := "drainStop", fn := fun _ => fun
  | [d1, d2] => { results := [.lit (.bool true)], args := [d1, d2] }
  | _ => none }
def drainStopRow : OpenClaim := { program := "ytbhgpnbfdjoglaa", sum := "fcacd0391ee5edd005e0e8eba07435b210cade2a8d5e31244c9868d53bb38840", func := "bogworks/bogworkslaw07.DrainStop", spec := "drainStop", unfollowed := true, recurses := true, plainKeys := false, apart := false }
def DrainStopSaid : Prop := drainStopRow.holds Try.pinned (OpenSpec.ofChange drainStopSpec)

/-- ITS FALSE NEIGHBOUR: 'it returns false'. Refute it at one input. -/
def drainStopWrong : ChangeSpec := { name := "drainStop", fn := fun _ => fun
  | [d1, d2] => { results := [.lit (.bool false)], args := [d1, d2] }
  | _ => none }
def DrainStopWrongFalsely : Prop := drainStopRow.holds Try.pinned (OpenSpec.ofChange drainStopWrong)

/-- 'bogworkslaw07.DrainClash': WHATEVER THE INPUT: true; the input reads as it did. -/
def drainClashSpec : ChangeSpec := { name := "drainClash", fn := fun _ => fun
  | [d1, d2] => { results := [.lit (.bool true)], args := [d1, d2] }
  | _ => none }
def drainClashRow : OpenClaim := { program := "ytbhgpnbfdjoglaa", sum := "fcacd0391ee5edd005e0e8eba07435b210cade2a8d5e31244c9868d53bb38840", func := "bogworks/bogworkslaw07.DrainClash", spec := "drainClash", unfollowed := true, recurses := true, plainKeys := false, apart := false }
def DrainClashSaid : Prop := drainClashRow.holds Try.pinned (OpenSpec.ofChange drainClashSpec)

/-- ITS FALSE NEIGHBOUR: 'it returns false'. Refute it at one input. -/
def drainClashWrong : ChangeSpec := { name := "drainClash", fn := fun _ => fun
  | [d1, d2] => { results := [.lit (.bool false)], args := [d1, d2] }
  | _ => none }
def DrainClashWrongFalsely : Prop := drainClashRow.holds Try.pinned (OpenSpec.ofChange drainClashWrong)

/-- 'bogworkslaw07.DrainMore': WHATEVER THE INPUT: true; the input reads as it did. -/
def drainMoreSpec : ChangeSpec := { name := "drainMore", fn := fun _ => fun
  | [d1, d2, d3, d4, d5] => { results := [.lit (.bool true)], args := [d1, d2, d3, d4, d5] }
  | _ => none }
def drainMoreRow : OpenClaim := { program := "ytbhgpnbfdjoglaa", sum := "fcacd0391ee5edd005e0e8eba07435b210cade2a8d5e31244c9868d53bb38840", func := "bogworks/bogworkslaw07.DrainMore", spec := "drainMore", unfollowed := true, recurses := true, plainKeys := false, apart := false }
def DrainMoreSaid : Prop := drainMoreRow.holds Try.pinned (OpenSpec.ofChange drainMoreSpec)

/-- ITS FALSE NEIGHBOUR: 'it returns false'. Refute it at one input. -/
def drainMoreWrong : ChangeSpec := { name := "drainMore", fn := fun _ => fun
  | [d1, d2, d3, d4, d5] => { results := [.lit (.bool false)], args := [d1, d2, d3, d4, d5] }
  | _ => none }
def DrainMoreWrongFalsely : Prop := drainMoreRow.holds Try.pinned (OpenSpec.ofChange drainMoreWrong)

/- THE SECOND FORM. 'bulk': how many values and letters a reading holds, each counted each time it is reached (what is shared counts as often as it is met; a slice's spare places count too). A statement '..UptoSaid' is the law's where the arguments, and the package variables that the reading takes, are together of bulk at most 1048576: NARROWER than '..Said'. Prove '..Said' where nothing that the law and all that it calls make is longer than what came in: it says more and counts as full. Else prove '..UptoSaid'. A law counts once. -/
mutual
def uptoBulk {H : Type} : DataW H → Nat
  | .lit (.string bytes) => bytes.length + 1
  | .lit _ => 1
  | .nil => 1
  | .ptr d => uptoBulk d + 1
  | .slice elems spare => uptoBulkAll elems + uptoBulkAll spare + 1
  | .agg parts => uptoBulkAll parts + 1
  | .iface _ d => uptoBulk d + 1
  | .map entries => uptoBulkEntries entries + 1
  | .held _ => 1
def uptoBulkAll {H : Type} : List (DataW H) → Nat
  | [] => 0
  | d :: r => uptoBulk d + uptoBulkAll r
def uptoBulkEntries {H : Type} : List (Lit × DataW H) → Nat
  | [] => 0
  | x :: r => uptoBulkEntry x + uptoBulkEntries r
def uptoBulkEntry {H : Type} : Lit × DataW H → Nat
  | (.string bytes, d) => bytes.length + uptoBulk d + 1
  | (_, d) => uptoBulk d + 1
 end
def uptoSmall : (H : Type) → List (DataW H) → Bool := fun _ ds => decide (uptoBulkAll ds ≤ 1048576)
def OpenSpec.upto (s : _root_.Go.ChangeSpec) : _root_.Go.OpenSpec := { _root_.Go.OpenSpec.ofChange s with cond := some uptoSmall }

/-- 'bogworkslaw07.DrainNames', WHERE WHAT IT READS IS OF BULK AT MOST 1048576: true; the input reads as it did. -/
def drainNamesUptoRow : OpenClaim := { program := "ytbhgpnbfdjoglaa", sum := "fcacd0391ee5edd005e0e8eba07435b210cade2a8d5e31244c9868d53bb38840", func := "bogworks/bogworkslaw07.DrainNames", spec := "drainNames", unfollowed := true, recurses := true, plainKeys := false, apart := false, narrowed := true }
def DrainNamesUptoSaid : Prop := drainNamesUptoRow.holds Try.pinned (OpenSpec.upto drainNamesSpec)

/-- 'bogworkslaw07.DrainTrue', WHERE WHAT IT READS IS OF BULK AT MOST 1048576: true; the input reads as it did. -/
def drainTrueUptoRow : OpenClaim := { program := "ytbhgpnbfdjoglaa", sum := "fcacd0391ee5edd005e0e8eba07435b210cade2a8d5e31244c9868d53bb38840", func := "bogworks/bogworkslaw07.DrainTrue", spec := "drainTrue", unfollowed := true, recurses := true, plainKeys := false, apart := false, narrowed := true }
def DrainTrueUptoSaid : Prop := drainTrueUptoRow.holds Try.pinned (OpenSpec.upto drainTrueSpec)

/-- 'bogworkslaw07.DrainEnds', WHERE WHAT IT READS IS OF BULK AT MOST 1048576: true; the input reads as it did. -/
def drainEndsUptoRow : OpenClaim := { program := "ytbhgpnbfdjoglaa", sum := "fcacd0391ee5edd005e0e8eba07435b210cade2a8d5e31244c9868d53bb38840", func := "bogworks/bogworkslaw07.DrainEnds", spec := "drainEnds", unfollowed := true, recurses := true, plainKeys := false, apart := false, narrowed := true }
def DrainEndsUptoSaid : Prop := drainEndsUptoRow.holds Try.pinned (OpenSpec.upto drainEndsSpec)

/-- 'bogworkslaw07.DrainBreaks', WHERE WHAT IT READS IS OF BULK AT MOST 1048576: true; the input reads as it did. -/
def drainBreaksUptoRow : OpenClaim := { program := "ytbhgpnbfdjoglaa", sum := "fcacd0391ee5edd005e0e8eba07435b210cade2a8d5e31244c9868d53bb38840", func := "bogworks/bogworkslaw07.DrainBreaks", spec := "drainBreaks", unfollowed := true, recurses := true, plainKeys := false, apart := false, narrowed := true }
def DrainBreaksUptoSaid : Prop := drainBreaksUptoRow.holds Try.pinned (OpenSpec.upto drainBreaksSpec)

/-- 'bogworkslaw07.DrainStop', WHERE WHAT IT READS IS OF BULK AT MOST 1048576: true; the input reads as it did. -/
def drainStopUptoRow : OpenClaim := { program := "ytbhgpnbfdjoglaa", sum := "fcacd0391ee5edd005e0e8eba07435b210cade2a8d5e31244c9868d53bb38840", func := "bogworks/bogworkslaw07.DrainStop", spec := "drainStop", unfollowed := true, recurses := true, plainKeys := false, apart := false, narrowed := true }
def DrainStopUptoSaid : Prop := drainStopUptoRow.holds Try.pinned (OpenSpec.upto drainStopSpec)

/-- 'bogworkslaw07.DrainClash', WHERE WHAT IT READS IS OF BULK AT MOST 1048576: true; the input reads as it did. -/
def drainClashUptoRow : OpenClaim := { program := "ytbhgpnbfdjoglaa", sum := "fcacd0391ee5edd005e0e8eba07435b210cade2a8d5e31244c9868d53bb38840", func := "bogworks/bogworkslaw07.DrainClash", spec := "drainClash", unfollowed := true, recurses := true, plainKeys := false, apart := false, narrowed := true }
def DrainClashUptoSaid : Prop := drainClashUptoRow.holds Try.pinned (OpenSpec.upto drainClashSpec)

/-- 'bogworkslaw07.DrainMore', WHERE WHAT IT READS IS OF BULK AT MOST 1048576: true; the input reads as it did. -/
def drainMoreUptoRow : OpenClaim := { program := "ytbhgpnbfdjoglaa", sum := "fcacd0391ee5edd005e0e8eba07435b210cade2a8d5e31244c9868d53bb38840", func := "bogworks/bogworkslaw07.DrainMore", spec := "drainMore", unfollowed := true, recurses := true, plainKeys := false, apart := false, narrowed := true }
def DrainMoreUptoSaid : Prop := drainMoreUptoRow.holds Try.pinned (OpenSpec.upto drainMoreSpec)

end Rows
end Go.Proofs.Ytbhgpnbfdjoglaa
