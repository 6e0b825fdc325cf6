/- The law BankCount's function: all lines are gone through, truths are counted. · The law BankCount's function: all lines that go on. · The law BankCount's function, walked: all lines are gone through in order. -/
import Derived.Test.YtakmopiceopcpaaE2
import Derived.Test.YtakmopiceopcpaaQi
section
namespace Go.Proofs.Ytakmopiceopcpaa
open Go.RowKit
/-- One slice that grew, wherever it stands. -/
inductive PickS (E : TypeId) (sz k : Nat) (xs : List Value) (s : Option (Nat × Nat)) : Hp → Hp → Prop
  | here {L : Hp} : PickS E sz k xs s (svH E sz k xs s L) L
  | there {y : Nat × (Obj → Prop)} {L L' : Hp} (h : PickS E sz k xs s L L') : PickS E sz k xs s (y :: L) (y :: L')
  | sv {E2 : TypeId} {sz2 k2 : Nat} {xs2 : List Value} {s2 : Option (Nat × Nat)} {L L' : Hp} (h : PickS E sz k xs s L L') : PickS E sz k xs s (svH E2 sz2 k2 xs2 s2 L) (svH E2 sz2 k2 xs2 s2 L')
  | app {X L L' : Hp} (h : PickS E sz k xs s L L') : PickS E sz k xs s (X ++ L) (X ++ L')
theorem svH_swap2 {E E2 : TypeId} {sz k sz2 k2 : Nat} {xs xs2 : List Value} {s s2 : Option (Nat × Nat)} {L : Hp} : (svH E sz k xs s (svH E2 sz2 k2 xs2 s2 L)).Perm (svH E2 sz2 k2 xs2 s2 (svH E sz k xs s L)) := by
  cases s with
  | none => exact .refl _
  | some p => cases s2 with
    | none => exact .refl _
    | some q => exact .swap _ _ _
theorem PickS.perm {E : TypeId} {sz k : Nat} {xs : List Value} {s : Option (Nat × Nat)} {L L' : Hp} (h : PickS E sz k xs s L L') : L.Perm (svH E sz k xs s L') := by
  induction h with
  | here => exact .refl _
  | @there y L L' h ih =>
    refine (ih.cons y).trans ?_
    cases s with
    | none => exact .refl _
    | some p => exact .swap _ _ _
  | sv h ih => exact (svH_perm ih).trans svH_swap2
  | @app X L L' h ih => exact (ih.append_left X).trans svH_mid
theorem perm_pickS {E : TypeId} {sz k : Nat} {xs : List Value} {s : Option (Nat × Nat)} {A L L' : Hp} (h : PickS E sz k xs s L L') (q : L'.Perm A) : L.Perm (svH E sz k xs s A) := h.perm.trans (svH_perm q)
theorem perm_pickH {x : Nat × (Obj → Prop)} {A L L' : Hp} (h : PickH x L L') (q : L'.Perm A) : L.Perm (x :: A) := h.perm.trans (q.cons x)
theorem Up.app {b : Nat} {φ φ' : Obj → Prop} {X L L' : Hp} (h : Up L b φ φ' L') : Up (X ++ L) b φ φ' (X ++ L') := by
  induction X with
  | nil => exact h
  | cons x X ih => exact .there ih
attribute [local irreducible] AnyO AnyB QAny QB EWalk AWalk Ev WP OPS QThen QBlock QScope QLoop QBody Val New Turn Tri Enters PostA Blk Ro
attribute [local irreducible] AnyC QC
section
variable (N : Nat) (w0 : World)
end
end Go.Proofs.Ytakmopiceopcpaa
end

section
namespace Go.Proofs.Ytakmopiceopcpaa
open Go.RowKit
end Go.Proofs.Ytakmopiceopcpaa
end

section
namespace Go.Proofs.Ytakmopiceopcpaa
open Go.RowKit
theorem Sub.pickS {E : TypeId} {sz k : Nat} {xs : List Value} {s : Option (Nat × Nat)} {B L L' : Hp} (h : PickS E sz k xs s L L') (q : Sub B L') : Sub (svH E sz k xs s B) L := by
  obtain ⟨L0, q⟩ := q
  exact ⟨L0, h.perm.trans ((svH_perm q).trans (by rw [svH_app]))⟩
section
variable {P : Program} {r : Option Nat} {n N : Nat} {w0 : World} {ops : Array Oper} {Q : Post} {ds : List Deferred} {e : Env} {L B : Hp} {fl T : List Nat} {k2 n0 fuel : Nat}
theorem AnyC_cutJ {σ : Type} {k : Nat} {D0 : List Nat} (D : List Nat) (ws : List Nat) (sl : σ → List (Nat × Value)) (Lp : σ → Hp) (J : σ → Prop) (h2 : ∀ s j, J s → AnyC P r n N w0 ops Q ds fl B T k2 (k + 1) (doneOf n0 D) (frame ws e (sl s) j) (Lp s))
    (h1 : (∀ s e' L', Slots e' (sl s) → Off ws e' e → Sub (Lp s) L' → J s → AnyC P r n N w0 ops Q ds fl B T k2 (k + 1) (doneOf n0 D) e' L') → AnyC P r n N w0 ops Q ds fl B T k2 fuel (doneOf n0 D0) e L) : AnyC P r n N w0 ops Q ds fl B T k2 fuel (doneOf n0 D0) e L := by
  refine h1 fun s e' L' hs ho hS hJ => ?_
  have hf : e' = frame ws e (sl s) e' := frame_intro hs.look ho
  obtain ⟨a, b, c⟩ := h2 s e' hJ
  rw [← hf] at c
  obtain ⟨L0, hp⟩ := hS
  have hS2 : Sub B L' := by
    obtain ⟨L1, hp1⟩ := a
    exact ⟨L1 ++ L0, hp.trans ((hp1.append_right L0).trans (by rw [List.append_assoc]))⟩
  refine ⟨hS2, b, fun i hi => ?_⟩
  obtain ⟨o, ho, h3⟩ := c i hi
  exact ⟨o, ho, fun a w hs he hd hI => h3 a w hs he hd ((hI.perm (hp.trans List.perm_append_comm)).wk (.app L0 _))⟩
end
attribute [local irreducible] AnyO AnyB QAny QB EWalk AWalk Ev WP OPS QThen QBlock QScope QLoop QBody Val New Turn Tri Enters PostA Blk Ro
attribute [local irreducible] AnyC QC
section
variable (N : Nat) (w0 : World)
end
end Go.Proofs.Ytakmopiceopcpaa
end
