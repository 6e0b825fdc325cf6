/- The law DrainTrue: numbers by remainders. · The law DrainTrue: drains of which what was seen is right. · The law DrainTrue in plain terms. -/
import Derived.Test.YtbhgpnbfdjoglaaC6
import Derived.Test.YtbhgpnbfdjoglaaE4
import Derived.Test.YtbhgpnbfdjoglaaQe
section
namespace Go.Proofs.Ytbhgpnbfdjoglaa
open Go.RowKit
attribute [local irreducible] AnyO AnyB QAny QB EWalk AWalk Ev WP OPS QThen QBlock QScope QLoop QBody Val New Turn Tri Enters PostA Blk Ro
attribute [local irreducible] AnyC QC
section
variable (N : Nat) (w0 : World)
end
end Go.Proofs.Ytbhgpnbfdjoglaa
end

section
namespace Go.Proofs.Ytbhgpnbfdjoglaa
open Go.RowKit
def GoodW (d : Dr) (lv : List Int) (w : Sp) : Prop := ∃ a y : Nat, w = ((a : Int), (y : Int)) ∧ a < d.banks.length ∧ nxt d.ways lv a = some y
attribute [local irreducible] AnyO AnyB QAny QB EWalk AWalk Ev WP OPS QThen QBlock QScope QLoop QBody Val New Turn Tri Enters PostA Blk Ro
attribute [local irreducible] AnyC QC
section
variable (N : Nat) (w0 : World)
end
end Go.Proofs.Ytbhgpnbfdjoglaa
end

section
namespace Go.Proofs.Ytbhgpnbfdjoglaa
open Go.RowKit
section
variable {d : Dr} (v : VD d) {lv ys : List Int} {ss : List Sp} (hl : InR (d.banks.map (·.lv)) lv) (hy : InR (d.banks.map (·.yd)) ys) (hs : ss.length ≤ 4) (hg : ∀ w ∈ ss, GoodW d lv w)
end
end Go.Proofs.Ytbhgpnbfdjoglaa
end
