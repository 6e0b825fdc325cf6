/- The law's own courses. -/
import Derived.Test.YtbhgpnbfdjoglaaC2
section
namespace Go.Proofs.Ytbhgpnbfdjoglaa
open Go.RowKit
def i1 (l : List Int) : List (List Value) := l.map fun x => [Value.int .i64 x]
/-- Numbers that can be read. -/
def RdI (N : Nat) (w0 : World) (L : Hp) (A : Option Addr) (l : List Int) : Prop := RdRows N w0 L A 1 (i1 l)
theorem RdI.at_ {N : Nat} {w0 : World} {L : Hp} {b o : Nat} {l : List Int} (h : RdI N w0 L (some ⟨b, o, none⟩) l) {i : Nat} (hi : i < l.length) : Rd N w0 L b (o + i) (.int .i64 (lvl l i)) := by
  obtain ⟨b', o', h1, h2⟩ := RdRows.row h i hi
  simp only [Option.some.injEq, Addr.mk.injEq, and_true] at h1
  obtain ⟨rfl, rfl⟩ := h1
  have hv : lvl l i = l[i] := by unfold lvl; rw [List.getD_eq_getElem?_getD, List.getElem?_eq_getElem hi]; rfl
  have := h2 0 (.int .i64 (lvl l i)) (by rw [hv]; rfl)
  simpa using this
theorem RdI.wk {N : Nat} {w0 : World} {L L' : Hp} {A : Option Addr} {l : List Int} (h : RdI N w0 L A l) (k : Sub L L') : RdI N w0 L' A l := RdRows.sub h k
section
variable {P : Program} {N : Nat} {w0 : World} {L : Hp} {e : Env} {d : Option Nat} {ty : TypeId} {pos : String} {af : Array Edge} {g : Option (Nat × Bool)}
theorem Val_andNotE {x y : Operand} {t t' : TypeId} {a b c : Nat} (hc : a &&& (2 ^ 64 - 1 - b) = c) (ha : a < 2 ^ 63) (hb : b < 2 ^ 63) (hx : ev e x = .int .i64 (a : Int)) (hy : ev e y = .int .i64 (b : Int)) : Val P N w0 L e ⟨d, .binOp .andNot t x y t', ty, pos, af, g⟩ (.int .i64 (c : Int)) := by
  subst hc
  exact Val_andNotS hx hy ha hb
end
attribute [local irreducible] AnyO AnyB QAny QB EWalk AWalk Ev WP OPS QThen QBlock QScope QLoop QBody Val New Turn Tri Enters PostA Blk Ro
attribute [local irreducible] AnyC QC
section
variable (N : Nat) (w0 : World)
end
end Go.Proofs.Ytbhgpnbfdjoglaa
end
