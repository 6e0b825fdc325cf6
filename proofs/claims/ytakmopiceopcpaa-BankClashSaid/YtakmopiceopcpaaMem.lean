/- The rules of memory. -/
import Derived.Test.YtakmopiceopcpaaRules
section
namespace Go.Proofs.Ytakmopiceopcpaa
open Go.RowKit

/-- A row of cells, written as a list, none frozen. -/
def Blk (T : TypeId) (l : List Value) : Obj → Prop := Is (.cells l.toArray T (0, 0))
theorem blk_is {T : TypeId} {l : List Value} : Blk T l (.cells l.toArray T (0, 0)) := rfl
inductive Pre : List Value → Nat → List Value → Prop
  | nil {l : List Value} : Pre l 0 []
  | cons {x : Value} {l vs : List Value} {n : Nat} (h : Pre l n vs) : Pre (x :: l) (n + 1) (x :: vs)
inductive Cut : List Value → Nat → Nat → List Value → Prop
  | here {l vs : List Value} {n : Nat} (h : Pre l n vs) : Cut l 0 n vs
  | there {x : Value} {l vs : List Value} {i n : Nat} (h : Cut l i n vs) : Cut (x :: l) (i + 1) n vs
theorem Pre.at_ {l vs : List Value} {n : Nat} (h : Pre l n vs) : vs.length = n ∧ ∀ j, j < n → l[j]? = vs[j]? := by
  induction h with
  | nil => exact ⟨rfl, fun j hj => absurd hj (by omega)⟩
  | cons h ih =>
    refine ⟨by simp [ih.1], fun j hj => ?_⟩
    cases j with
    | zero => rfl
    | succ j => simpa using ih.2 j (by omega)
theorem Cut.at_ {l vs : List Value} {i n : Nat} (h : Cut l i n vs) : vs.length = n ∧ ∀ j, j < n → l[i + j]? = vs[j]? := by
  induction h with
  | here h => simpa using h.at_
  | there h ih =>
    refine ⟨ih.1, fun j hj => ?_⟩
    rw [Nat.add_right_comm]
    simpa using ih.2 j hj
/-- What lies at i is overwritten. -/
inductive Over : List Value → List Value → List Value → Prop
  | nil {l : List Value} : Over l [] l
  | cons {x v : Value} {l vs l' : List Value} (h : Over l vs l') : Over (x :: l) (v :: vs) (v :: l')
inductive PutAt : List Value → Nat → List Value → List Value → Prop
  | here {l vs l' : List Value} (h : Over l vs l') : PutAt l 0 vs l'
  | there {x : Value} {l vs l' : List Value} {i : Nat} (h : PutAt l i vs l') : PutAt (x :: l) (i + 1) vs (x :: l')
def setL (l : List Value) (i : Nat) : List Value → List Value
  | [] => l
  | v :: vs => setL (l.set i v) (i + 1) vs
theorem setL_cons (x : Value) : ∀ (vs l : List Value) (i : Nat), setL (x :: l) (i + 1) vs = x :: setL l i vs
  | [], _, _ => rfl
  | v :: vs, l, i => by simp only [setL, List.set_cons_succ]; exact setL_cons x vs _ _
theorem Over.eq {l vs l' : List Value} (h : Over l vs l') : setL l 0 vs = l' ∧ vs.length ≤ l.length := by
  induction h with
  | nil => exact ⟨rfl, by simp⟩
  | cons h ih => exact ⟨by simp only [setL, List.set_cons_zero, setL_cons, ih.1], by simpa using ih.2⟩
theorem PutAt.eq {l vs l' : List Value} {i : Nat} (h : PutAt l i vs l') : setL l i vs = l' ∧ i + vs.length ≤ l.length := by
  induction h with
  | here h => simpa using h.eq
  | there h ih => exact ⟨by rw [setL_cons, ih.1], by have := ih.2; simp; omega⟩
theorem setL_length : ∀ (vs l : List Value) (i : Nat), (setL l i vs).length = l.length
  | [], _, _ => rfl
  | v :: vs, l, i => by simp only [setL, setL_length vs, List.length_set]
/-- Values of one cell. -/
def ones (vs : List Value) : Bool := vs.all fun v => v.oneCell'

section
variable {P : Program} {w : World}
theorem addr_add (b o i : Nat) : (⟨b, o, none⟩ : Addr).add i = ⟨b, o + i, none⟩ := by
  unfold Addr.add; split
  · rename_i h; subst h; rfl
  · rfl
theorem run_loadCellsFrom {a : Addr} : ∀ (n i : Nat) (acc : Array Value) (vs : List Value), vs.length = n → (∀ j, j < n → w.cell? (a.add (i + j)) = vs[j]?) → (loadCellsFrom a i n acc).run P w = .ok (acc ++ vs.toArray) w
  | 0, i, acc, vs, hl, _ => by
    have : vs = [] := List.eq_nil_of_length_eq_zero hl
    subst this; simp [loadCellsFrom]
  | n + 1, i, acc, vs, hl, hc => by
    match vs, hl with
    | v :: vs, hl =>
      have h0 : w.cell? (a.add i) = some v := by simpa using hc 0 (by omega)
      have := run_loadCellsFrom n (i + 1) (acc.push v) vs (by simpa using hl) (fun j hj => by
        have := hc (j + 1) (by omega)
        rw [show i + 1 + j = i + (j + 1) by omega, this]; simp)
      simp only [loadCellsFrom, Sem.run_bind, load, Sem.run, h0, Result.andThen_ok, this]
      simp
theorem run_loadVar1 {t : TypeId} {n bt : Nat} [TySz P t false n bt] {a : Addr} {v : Value} (h : w.cell? a = some v) : (loadVar t a).run P w = .ok v w := by
  simp [loadVar, run_isAgg (P := P) (t := t), load, Sem.run, h]
theorem run_loadVarN {t : TypeId} {n bt : Nat} [TySz P t true n bt] {a : Addr} {vs : List Value} (hl : vs.length = n) (h : ∀ j, j < n → w.cell? (a.add j) = vs[j]?) : (loadVar t a).run P w = .ok (.agg vs.toArray) w := by
  have := run_loadCellsFrom (P := P) (w := w) (a := a) n 0 #[] vs hl (by simpa using h)
  simp [loadVar, run_isAgg (P := P) (t := t), run_sizeOf (P := P) (t := t), loadCells, this]
/-- Stores, one by one, into one row. -/
theorem run_storeCells {b : Nat} {T : TypeId} : ∀ (vs : List Value) (l : List Value) (o i : Nat) (w : World), ones vs = true → o + i + vs.length ≤ l.length → w.heap[b]? = some (.cells l.toArray T (0, 0)) →
    ∃ w', (storeCells ⟨b, o, none⟩ vs i).run P w = .ok () w' ∧ w'.heap[b]? = some (.cells (setL l (o + i) vs).toArray T (0, 0)) ∧ w'.os = w.os ∧ w'.tape = w.tape ∧ w'.output = w.output ∧ w'.heap.size = w.heap.size ∧ ∀ k, k ≠ b → w'.heap[k]? = w.heap[k]?
  | [], l, o, i, w, _, _, hb => ⟨w, by simp [storeCells], hb, rfl, rfl, rfl, rfl, fun _ _ => rfl⟩
  | v :: vs, l, o, i, w, h1, hl, hb => by
    simp only [ones, List.all_cons, Bool.and_eq_true] at h1
    simp only [List.length_cons] at hl
    have hc : w.cell? ⟨b, o + i, none⟩ = some (l[o + i]'(by omega)) := by
      rw [cell_of_row w b (o + i) _ T (0, 0) hb]; simp
    have hf : w.frozen? ⟨b, o + i, none⟩ = false := by simp [World.frozen?, hb]
    have hb' : (w.setCell ⟨b, o + i, none⟩ v).heap[b]? = some (.cells (l.set (o + i) v).toArray T (0, 0)) := by
      simp [World.setCell, Array.getElem?_modify, hb]
    obtain ⟨w', hr, h2, h3, h4, h5, h6, h7⟩ := run_storeCells vs (l.set (o + i) v) o (i + 1) (w.setCell ⟨b, o + i, none⟩ v) h1.2 (by simp; omega) hb'
    refine ⟨w', ?_, h2, h3, h4, h5, h6.trans (by simp [World.setCell]), fun k hk => (h7 k hk).trans ?_⟩
    · have hrun : (store ⟨b, o + i, none⟩ v).run P w = .ok () (w.setCell ⟨b, o + i, none⟩ v) := by
        cases v <;> simp [Value.oneCell'] at h1 <;> simp [store, Sem.run, hc, hf]
      simp only [storeCells, addr_add, Sem.run_bind, hrun, Result.andThen_ok, hr]
    · simp [World.setCell, Array.getElem?_modify, Ne.symm hk]
theorem run_storeVar {b : Nat} {T t : TypeId} {g : Bool} {n bt : Nat} [TySz P t g n bt] {v : Value} {vs l : List Value} {o : Nat} (hv : v.cells = vs.toArray) (hn : vs.length = n) (h1 : ones vs = true) (hl : o + vs.length ≤ l.length) (hb : w.heap[b]? = some (.cells l.toArray T (0, 0))) :
    ∃ w', (storeVar t ⟨b, o, none⟩ v).run P w = .ok () w' ∧ w'.heap[b]? = some (.cells (setL l o vs).toArray T (0, 0)) ∧ w'.os = w.os ∧ w'.tape = w.tape ∧ w'.output = w.output ∧ w'.heap.size = w.heap.size ∧ ∀ k, k ≠ b → w'.heap[k]? = w.heap[k]? := by
  obtain ⟨w', hr, h⟩ := run_storeCells (P := P) vs l o 0 w h1 (by simpa using hl) hb
  exact ⟨w', by simp [storeVar, run_sizeOf (P := P) (t := t), hv, hn, hr], h⟩
end

section
variable {P : Program} {N : Nat} {w0 : World} {L : Hp} {e : Env} {d : Option Nat} {ty : TypeId} {pos : String} {af : Array Edge} {g : Option (Nat × Bool)}

/-! loads -/
theorem Val_load1 {t : TypeId} {n bt : Nat} [TySz P t false n bt] {x : Operand} {b o : Nat} {T : TypeId} {l : List Value} {v : Value} (hx : ev e x = .pointer (some ⟨b, o, none⟩)) (hm : Mem b (Blk T l) L) (hv : l[o]? = some v) :
    Val P N w0 L e ⟨d, .load t x, ty, pos, af, g⟩ v := by
  intro w hI
  have hc : w.cell? ⟨b, o, none⟩ = some v := by rw [hI.cell hm]; simpa using hv
  simp [execOp, hx, Instr.loadAt, Instr.sureAddr, run_loadVar1 hc]
theorem Val_loadN {t : TypeId} {n bt : Nat} [TySz P t true n bt] {x : Operand} {b o : Nat} {T : TypeId} {l vs : List Value} (hx : ev e x = .pointer (some ⟨b, o, none⟩)) (hm : Mem b (Blk T l) L) (hv : Cut l o n vs) :
    Val P N w0 L e ⟨d, .load t x, ty, pos, af, g⟩ (.agg vs.toArray) := by
  intro w hI
  obtain ⟨h1, h2⟩ := hv.at_
  simp [execOp, hx, Instr.loadAt, Instr.sureAddr, run_loadVarN h1 (fun j hj => by rw [addr_add, hI.cell hm]; simpa using h2 j hj)]
/-- The whole row. -/
theorem Val_loadW {t : TypeId} {n bt : Nat} [TySz P t true n bt] {x : Operand} {b : Nat} {T : TypeId} {l : List Value} (hx : ev e x = .pointer (some ⟨b, 0, none⟩)) (hm : Mem b (Blk T l) L) (hv : l.length = n) :
    Val P N w0 L e ⟨d, .load t x, ty, pos, af, g⟩ (.agg l.toArray) := by
  intro w hI
  simp [execOp, hx, Instr.loadAt, Instr.sureAddr, run_loadVarN (a := ⟨b, 0, none⟩) hv (fun j hj => by rw [addr_add, hI.cell hm]; simp)]
theorem Val_loadR1 {t : TypeId} {n bt : Nat} [TySz P t false n bt] {x : Operand} {b o : Nat} {v : Value} (hx : ev e x = .pointer (some ⟨b, o, none⟩)) (hb : b < N) (hv : w0.cell? ⟨b, o, none⟩ = some v) :
    Val P N w0 L e ⟨d, .load t x, ty, pos, af, g⟩ v := by
  intro w hI
  simp [execOp, hx, Instr.loadAt, Instr.sureAddr, run_loadVar1 (hI.cellRo hb hv)]
/-- Cells of memory that lies as it lay. -/
def Ro (w0 : World) (b o : Nat) (vs : List Value) : Prop := ∀ j v, vs[j]? = some v → w0.cell? ⟨b, o + j, none⟩ = some v
theorem Val_loadRN {t : TypeId} {n bt : Nat} [TySz P t true n bt] {x : Operand} {b o : Nat} {vs : List Value} (hx : ev e x = .pointer (some ⟨b, o, none⟩)) (hb : b < N) (hv : Ro w0 b o vs) (hl : vs.length = n) :
    Val P N w0 L e ⟨d, .load t x, ty, pos, af, g⟩ (.agg vs.toArray) := by
  intro w hI
  simp [execOp, hx, Instr.loadAt, Instr.sureAddr, run_loadVarN hl (fun j hj => by
    have hj' : j < vs.length := by omega
    rw [addr_add, List.getElem?_eq_getElem hj']; exact hI.cellRo hb (hv j _ (List.getElem?_eq_getElem hj')))]

/-! stores -/
theorem Turn_store {t : TypeId} {g' : Bool} {n bt : Nat} [TySz P t g' n bt] {x y : Operand} {b o : Nat} {T : TypeId} {v : Value} {vs l l' : List Value} {L' : Hp} (hx : ev e x = .pointer (some ⟨b, o, none⟩)) (hy : ev e y = v) (hu : Up L b (Blk T l) (Blk T l') L')
    (hv : v.cells = vs.toArray) (hp : PutAt l o vs l') (hn : vs.length = n) (h1 : ones vs = true) :
    Turn P N w0 L e ⟨d, .store t x y, ty, pos, af, g⟩ L' := by
  intro w hI
  obtain ⟨w', hr, h2, h3, h4, h5, h6, h7⟩ := run_storeVar (P := P) (w := w) (t := t) (T := T) (l := l) hv hn h1 hp.eq.2 (hI.obj hu.mem)
  refine ⟨w', by simp [execOp, hx, hy, Instr.storeAt, Instr.sureAddr, hr], hI.turn hu h3 h4 h5 (by omega) (fun k _ hk => h7 k hk) ⟨_, h2, ?_⟩⟩
  rw [hp.eq.1]; rfl
/-- At a place that is no literal. -/
theorem Turn_storeG {t : TypeId} {g' : Bool} {n bt : Nat} [TySz P t g' n bt] {x y : Operand} {b o : Nat} {T : TypeId} {v : Value} {vs l l' : List Value} {L' : Hp} (hx : ev e x = .pointer (some ⟨b, o, none⟩)) (hy : ev e y = v) (hu : Up L b (Blk T l) (Blk T l') L')
    (hv : v.cells = vs.toArray) (hl : o + vs.length ≤ l.length) (hp : setL l o vs = l') (hn : vs.length = n) (h1 : ones vs = true) :
    Turn P N w0 L e ⟨d, .store t x y, ty, pos, af, g⟩ L' := by
  intro w hI
  obtain ⟨w', hr, h2, h3, h4, h5, h6, h7⟩ := run_storeVar (P := P) (w := w) (t := t) (T := T) (l := l) hv hn h1 hl (hI.obj hu.mem)
  refine ⟨w', by simp [execOp, hx, hy, Instr.storeAt, Instr.sureAddr, hr], hI.turn hu h3 h4 h5 (by omega) (fun k _ hk => h7 k hk) ⟨_, h2, ?_⟩⟩
  rw [hp]; rfl

/-! new blocks -/
theorem New_alloc {t : TypeId} {z : List Value} [hz : TyZero P t z] : New P e ⟨d, .alloc t, ty, pos, af, g⟩ (.cells z.toArray t (0, 0)) (fun b => .pointer (some ⟨b, 0, none⟩)) := by
  intro w
  obtain ⟨v, hr, hv⟩ := run_zeroValue (P := P) (w := w) (t := t) (z := z)
  simp [execOp, Instr.alloc, hr, newVar, newRow, newObj, Sem.run, hv]
theorem New_box {t : TypeId} {x : Operand} {v : Value} {vs : List Value} (hx : ev e x = v) (hv : v.cells = vs.toArray) : New P e ⟨d, .box t x, ty, pos, af, g⟩ (.cells vs.toArray t (0, 0)) (fun b => .pointer (some ⟨b, 0, none⟩)) := by
  intro w
  simp [execOp, Instr.box, hx, newVar, newRow, newObj, Sem.run, hv]
theorem New_makeMap {t : TypeId} : New P e ⟨d, .makeMap t none, ty, pos, af, g⟩ (.map #[] 0) (fun b => .map (some b)) := by
  intro w
  simp [execOp, Instr.makeMap, newObj, Sem.run]

/-! addresses -/
theorem Val_fieldAddr {t ft : TypeId} {i off : Nat} [hf : FieldOff P t i off ft] {g' : Bool} {n bt : Nat} [TySz P ft g' (n + 1) bt] {x : Operand} {b o : Nat} (hx : ev e x = .pointer (some ⟨b, o, none⟩)) :
    Val P N w0 L e ⟨d, .fieldAddr t x i, ty, pos, af, g⟩ (.pointer (some ⟨b, o + off, none⟩)) := by
  intro w _
  have := hf.fld
  cases hu : P.underlying t with
  | none => rw [hu] at this; cases this
  | some td =>
    rw [hu] at this
    cases td <;> simp at this
    rename_i fs
    obtain ⟨f, hf1, hf2, hf3⟩ := this
    subst hf3
    simp [execOp, Instr.fieldAt, run_underlying hu, hf1, hx, Instr.sureAddr, fieldPlace, run_sizeOf (P := P) (t := f.type) (n := n + 1), hf2, addr_add]
theorem Val_fieldAddr0 {t ft : TypeId} {i : Nat} [hf : FieldOff P t i 0 ft] {g' : Bool} {n bt : Nat} [TySz P ft g' (n + 1) bt] {x : Operand} {b o : Nat} (hx : ev e x = .pointer (some ⟨b, o, none⟩)) :
    Val P N w0 L e ⟨d, .fieldAddr t x i, ty, pos, af, g⟩ (.pointer (some ⟨b, o, none⟩)) := Val_fieldAddr (off := 0) hx
theorem Val_indexAddr {t E : TypeId} [hs : SliceOf P t E] {g' : Bool} {n bt : Nat} [TySz P E g' n bt] {x y : Operand} {b o m c i : Nat} {k : IntKind} {q : Int} (hx : ev e x = .slice (some ⟨b, o, none⟩) m c) (hy : ev e y = .int k q) (hq : q = (i : Int)) (hi : i < m) :
    Val P N w0 L e ⟨d, .indexAddr t x y, ty, pos, af, g⟩ (.pointer (some ⟨b, o + i * n, none⟩)) := by
  intro w _
  subst hq
  simp [execOp, Instr.indexAt, hx, hy, asIntOf, run_underlying hs.und, hi, run_sizeOf (P := P) (t := E), addr_add]
theorem Val_indexAddr1 {t E : TypeId} [hs : SliceOf P t E] {g' : Bool} {bt : Nat} [TySz P E g' 1 bt] {x y : Operand} {b o m c i : Nat} {k : IntKind} {q : Int} (hx : ev e x = .slice (some ⟨b, o, none⟩) m c) (hy : ev e y = .int k q) (hq : q = (i : Int)) (hi : i < m) :
    Val P N w0 L e ⟨d, .indexAddr t x y, ty, pos, af, g⟩ (.pointer (some ⟨b, o + i, none⟩)) := by
  have := Val_indexAddr (P := P) (N := N) (w0 := w0) (L := L) (e := e) (d := d) (ty := ty) (pos := pos) (af := af) (g := g) (t := t) (n := 1) hx hy hq hi
  rwa [Nat.mul_one] at this
/-- Of an array. -/
theorem Val_indexAddrA {t E : TypeId} {len : Nat} [hs : ArrayOf P t len E] {g' : Bool} {n bt : Nat} [TySz P E g' n bt] {x y : Operand} {b o i : Nat} {k : IntKind} {q : Int} (hx : ev e x = .pointer (some ⟨b, o, none⟩)) (hy : ev e y = .int k q) (hq : q = (i : Int)) (hi : i < len) :
    Val P N w0 L e ⟨d, .indexAddr t x y, ty, pos, af, g⟩ (.pointer (some ⟨b, o + i * n, none⟩)) := by
  intro w _
  subst hq
  simp [execOp, Instr.indexAt, hx, hy, asIntOf, run_underlying hs.und, hi, run_sizeOf (P := P) (t := E), addr_add, Instr.sureAddr]
theorem Val_indexAddrA1 {t E : TypeId} {len : Nat} [hs : ArrayOf P t len E] {g' : Bool} {bt : Nat} [TySz P E g' 1 bt] {x y : Operand} {b o i : Nat} {k : IntKind} {q : Int} (hx : ev e x = .pointer (some ⟨b, o, none⟩)) (hy : ev e y = .int k q) (hq : q = (i : Int)) (hi : i < len) :
    Val P N w0 L e ⟨d, .indexAddr t x y, ty, pos, af, g⟩ (.pointer (some ⟨b, o + i, none⟩)) := by
  have := Val_indexAddrA (P := P) (N := N) (w0 := w0) (L := L) (e := e) (d := d) (ty := ty) (pos := pos) (af := af) (g := g) (t := t) (n := 1) hx hy hq hi
  rwa [Nat.mul_one] at this
end
end Go.Proofs.Ytakmopiceopcpaa
end
