/- What the bank laws share: marks that were laid anew, sets by bits. · The bank laws' owners: whose each perch is, by lines. -/
import Derived.Test.YtakmopiceopcpaaC2
section
namespace Go.Proofs.Ytakmopiceopcpaa
open Go.RowKit
section
variable {P : Program} {N : Nat} {w0 : World} {L : Hp} {e : Env} {d : Option Nat} {ty : TypeId} {pos : String} {af : Array Edge} {g : Option (Nat × Bool)}
end
theorem CountE_of {d : Bn} (v : VB d) : CountE d = 0 := by unfold CountE; rw [if_pos (vB_of v)]
section
variable {P : Program} {r : Option Nat} {n N : Nat} {w0 : World} {Q : Post} {e : Env} {L : Hp} {ds : List Deferred}
end
end Go.Proofs.Ytakmopiceopcpaa
end

section
namespace Go.Proofs.Ytakmopiceopcpaa
open Go.RowKit
def i1 (l : List Int) : List (List Value) := l.map fun x => [Value.int .i64 x]
/-- Numbers that can be read. -/
def RdI (N : Nat) (w0 : World) (L : Hp) (A : Option Addr) (l : List Int) : Prop := RdRows N w0 L A 1 (i1 l)
theorem RdI.row {N : Nat} {w0 : World} {L : Hp} {A : Option Addr} {l : List Int} (h : RdI N w0 L A l) (i : Nat) (hi : i < l.length) : ∃ b o, A = some ⟨b, o, none⟩ ∧ ∀ L', Wk L' L → Rd N w0 L' b (o + i) (.int .i64 l[i]) := by
  obtain ⟨b, o, h1, h2⟩ := RdRows.row h i hi
  refine ⟨b, o, h1, fun L' k => ?_⟩
  have := h2 0 (.int .i64 l[i]) rfl
  rw [Nat.mul_one, Nat.add_zero] at this
  exact this.wk k
theorem RdI.wkk {N : Nat} {w0 : World} {L L' : Hp} {A : Option Addr} {l : List Int} (h : RdI N w0 L A l) (k : Wk L' L) : RdI N w0 L' A l := RdRows.wk h k
theorem own_snoc : ∀ {ls : List Le} {x : List Sp} {p o : Int} {k : Nat} (h1 : k < ls.length) (h2 : k < x.length), own (ls.take (k + 1)) (x.take (k + 1)) p o = if x[k].1 ≤ p ∧ p < x[k].2 then ls[k].h else own (ls.take k) (x.take k) p o
  | l :: ls, y :: x, p, o, 0, _, _ => by simp [own]
  | l :: ls, y :: x, p, o, k + 1, h1, h2 => by
    have := own_snoc (ls := ls) (x := x) (p := p) (o := if y.1 ≤ p ∧ p < y.2 then l.h else o) (k := k) (by simpa using h1) (by simpa using h2)
    simpa [own] using this
attribute [local irreducible] AnyO AnyB QAny QB EWalk AWalk Ev WP OPS QThen QBlock QScope QLoop QBody Val New Turn Tri Enters PostA Blk Ro
attribute [local irreducible] AnyC QC
section
variable (N : Nat) (w0 : World)
end
end Go.Proofs.Ytakmopiceopcpaa
end
