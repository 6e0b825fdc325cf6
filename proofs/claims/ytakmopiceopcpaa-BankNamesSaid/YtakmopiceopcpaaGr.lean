/- append to a slice that grows, wherever it stands among what is owned, of a whole slice that can be read, nil or not. -/
import Derived.Test.YtakmopiceopcpaaJn
import Derived.Test.YtakmopiceopcpaaSt
section
namespace Go.Proofs.Ytakmopiceopcpaa
open Go.RowKit
section
variable {P : Program} {r : Option Nat} {n N : Nat} {w0 : World} {L : Hp} {ops : Array Oper} {rest : List Oper} {Q : Post} {e : Env} {ds : List Deferred} {ty : TypeId} {pos : String} {af : Array Edge} {g : Option (Nat × Bool)} {d : Option Nat}
theorem run_append_svN {t E : TypeId} [hE : SliceOf P t E] {g' : Bool} {sz bt : Nat} [hS : TySz P E g' sz bt] {k c : Nat} {xs : List Value} {s : Option (Nat × Nat)} {w : World} (hI : Inv N w0 (svH E sz k xs s L) w) (hs : svOk s sz k xs) :
    (Builtin.append_ #[t, t] ty #[svV s k, .slice none 0 c]).run P w = .ok (svV s k) w := by
  have hi := hS.inf
  cases hin : P.info? E with
  | none => rw [hin] at hi; cases hi
  | some i =>
    cases s with
    | none =>
      have := hs.2 rfl
      subst this
      simp [svV, Builtin.append_, run_underlying hE.und, sizeOf, typeInfo, hin, Builtin.lenOf, Builtin.firstCells]
    | some p =>
      obtain ⟨b, cap⟩ := p
      obtain ⟨_, o, _, cur, _, h1, _⟩ := hI.own _ (List.mem_cons_self)
      simp [svV, Builtin.append_, run_underlying hE.und, sizeOf, typeInfo, hin, Builtin.lenOf, Builtin.firstCells, h1, storeCells]
/-- A slice that grows, in its place. -/
inductive Grow (E : TypeId) (sz k : Nat) (xs : List Value) (s : Option (Nat × Nat)) (k' : Nat) (xs' : List Value) (s' : Option (Nat × Nat)) : Hp → Hp → Prop
  | here {L : Hp} : Grow E sz k xs s k' xs' s' (svH E sz k xs s L) (svH E sz k' xs' s' L)
  | there {x : Nat × (Obj → Prop)} {L L' : Hp} (h : Grow E sz k xs s k' xs' s' L L') : Grow E sz k xs s k' xs' s' (x :: L) (x :: L')
  | sv {E2 : TypeId} {sz2 k2 : Nat} {xs2 : List Value} {s2 : Option (Nat × Nat)} {L L' : Hp} (h : Grow E sz k xs s k' xs' s' L L') : Grow E sz k xs s k' xs' s' (svH E2 sz2 k2 xs2 s2 L) (svH E2 sz2 k2 xs2 s2 L')
  | app {X L L' : Hp} (h : Grow E sz k xs s k' xs' s' L L') : Grow E sz k xs s k' xs' s' (X ++ L) (X ++ L')
theorem svH_nil {E : TypeId} {sz k : Nat} {xs : List Value} {s : Option (Nat × Nat)} {B : Hp} : svH E sz k xs s [] ++ B = svH E sz k xs s B := by cases s <;> rfl
theorem svH_perm {E : TypeId} {sz k : Nat} {xs : List Value} {s : Option (Nat × Nat)} {A B : Hp} (h : A.Perm B) : (svH E sz k xs s A).Perm (svH E sz k xs s B) := by
  cases s with
  | none => exact h
  | some p => exact h.cons _
theorem svH_mid {E : TypeId} {sz k : Nat} {xs : List Value} {s : Option (Nat × Nat)} {X L : Hp} : (X ++ svH E sz k xs s L).Perm (svH E sz k xs s (X ++ L)) := by
  cases s with
  | none => exact .refl _
  | some p => exact List.perm_middle
theorem Grow.perm {E : TypeId} {sz k : Nat} {xs : List Value} {s : Option (Nat × Nat)} {k' : Nat} {xs' : List Value} {s' : Option (Nat × Nat)} {L L' : Hp} (h : Grow E sz k xs s k' xs' s' L L') : ∃ Lb, L.Perm (svH E sz k xs s Lb) ∧ L'.Perm (svH E sz k' xs' s' Lb) := by
  induction h with
  | @here L => exact ⟨L, .refl _, .refl _⟩
  | @there x L L' h ih =>
    obtain ⟨Lb, h1, h2⟩ := ih
    exact ⟨x :: Lb, (h1.cons x).trans (svH_mid (X := [x])), (h2.cons x).trans (svH_mid (X := [x]))⟩
  | @sv E2 sz2 k2 xs2 s2 L L' h ih =>
    obtain ⟨Lb, h1, h2⟩ := ih
    refine ⟨svH E2 sz2 k2 xs2 s2 [] ++ Lb, (svH_perm h1).trans ?_, (svH_perm h2).trans ?_⟩
    · rw [← svH_nil]; exact svH_mid
    · rw [← svH_nil]; exact svH_mid
  | @app X L L' h ih =>
    obtain ⟨Lb, h1, h2⟩ := ih
    exact ⟨X ++ Lb, (h1.append_left X).trans svH_mid, (h2.append_left X).trans svH_mid⟩
theorem Wk.appK (X : Hp) {L L' : Hp} (h : Wk L L') : Wk (X ++ L) (X ++ L') := by
  induction X with
  | nil => exact h
  | cons x X ih => exact .keep1 ih

/-! ## What can be read -/
/-- A cell that reads so as long as X is owned, whatever else is. -/
def RdX (X : Hp) (b o : Nat) (v : Value) : Prop := ∀ (N : Nat) (w0 w : World), Inv N w0 X w → w.cell? ⟨b, o, none⟩ = some v
/-- A cell that reads so here. -/
def Rd (N : Nat) (w0 : World) (L : Hp) (b o : Nat) (v : Value) : Prop := ∀ w, Inv N w0 L w → w.cell? ⟨b, o, none⟩ = some v
theorem RdX.wk {X L : Hp} {b o : Nat} {v : Value} (h : RdX X b o v) (k : Wk L X) : RdX L b o v := fun N w0 w hI => h N w0 w (hI.wk k)
theorem RdX.sub {X L : Hp} {b o : Nat} {v : Value} (h : RdX X b o v) (k : Sub X L) : RdX L b o v := fun N w0 w hI => by
  obtain ⟨L0, k⟩ := k
  refine h N w0 w ((hI.perm (k.trans List.perm_append_comm)).wk (.app L0 X))
theorem Rd.wk {X : Hp} {b o : Nat} {v : Value} (h : Rd N w0 X b o v) (k : Wk L X) : Rd N w0 L b o v := fun w hI => h w (hI.wk k)
theorem Rd.ro {b o : Nat} {v : Value} (hb : b < N) (hv : w0.cell? ⟨b, o, none⟩ = some v) : Rd N w0 L b o v := fun _ hI => hI.cellRo hb hv
theorem Val_loadD1 {t : TypeId} {n bt : Nat} [TySz P t false n bt] {x : Operand} {b o : Nat} {v : Value} (hx : ev e x = .pointer (some ⟨b, o, none⟩)) (hv : Rd N w0 L b o v) : Val P N w0 L e ⟨d, .load t x, ty, pos, af, g⟩ v := by
  intro w hI
  simp [execOp, hx, Instr.loadAt, Instr.sureAddr, run_loadVar1 (hv w hI)]
theorem Val_loadDN {t : TypeId} {n bt : Nat} [TySz P t true n bt] {x : Operand} {b o : Nat} {vs : List Value} (hx : ev e x = .pointer (some ⟨b, o, none⟩)) (hv : ∀ j v, vs[j]? = some v → Rd N w0 L b (o + j) v) (hl : vs.length = n) : Val P N w0 L e ⟨d, .load t x, ty, pos, af, g⟩ (.agg vs.toArray) := by
  intro w hI
  simp [execOp, hx, Instr.loadAt, Instr.sureAddr, run_loadVarN hl (fun j hj => by
    have hj' : j < vs.length := by omega
    rw [addr_add, List.getElem?_eq_getElem hj']; exact hv j _ (List.getElem?_eq_getElem hj') w hI)]
end
end Go.Proofs.Ytakmopiceopcpaa
end
