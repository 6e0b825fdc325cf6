/- The rules of memory. · Aggregates, slices, calls. · Panics, methods of interface values, slices of slices, appends. -/
import Derived.Test.YtakmopiceopcpaaRules
section
namespace Go.Proofs.Ytakmopiceopcpaa
open Go.RowKit

/-- A row of cells, written as a list, none frozen. -/
def Blk (T : TypeId) (l : List Value) : Obj → Prop := Is (.cells l.toArray T (0, 0))
theorem blk_is {T : TypeId} {l : List Value} : Blk T l (.cells l.toArray T (0, 0)) := rfl
inductive Pre : List Value → Nat → List Value → Prop
  | nil {l : List Value} : Pre l 0 []
  | cons {x : Value} {l vs : List Value} {n : Nat} (h : Pre l n vs) : Pre (x :: l) (n + 1) (x :: vs)
inductive Cut : List Value → Nat → Nat → List Value → Prop
  | here {l vs : List Value} {n : Nat} (h : Pre l n vs) : Cut l 0 n vs
  | there {x : Value} {l vs : List Value} {i n : Nat} (h : Cut l i n vs) : Cut (x :: l) (i + 1) n vs
theorem Pre.at_ {l vs : List Value} {n : Nat} (h : Pre l n vs) : vs.length = n ∧ ∀ j, j < n → l[j]? = vs[j]? := by
  induction h with
  | nil => exact ⟨rfl, fun j hj => absurd hj (by omega)⟩
  | cons h ih =>
    refine ⟨by simp [ih.1], fun j hj => ?_⟩
    cases j with
    | zero => rfl
    | succ j => simpa using ih.2 j (by omega)
theorem Cut.at_ {l vs : List Value} {i n : Nat} (h : Cut l i n vs) : vs.length = n ∧ ∀ j, j < n → l[i + j]? = vs[j]? := by
  induction h with
  | here h => simpa using h.at_
  | there h ih =>
    refine ⟨ih.1, fun j hj => ?_⟩
    rw [Nat.add_right_comm]
    simpa using ih.2 j hj
/-- What lies at i is overwritten. -/
inductive Over : List Value → List Value → List Value → Prop
  | nil {l : List Value} : Over l [] l
  | cons {x v : Value} {l vs l' : List Value} (h : Over l vs l') : Over (x :: l) (v :: vs) (v :: l')
inductive PutAt : List Value → Nat → List Value → List Value → Prop
  | here {l vs l' : List Value} (h : Over l vs l') : PutAt l 0 vs l'
  | there {x : Value} {l vs l' : List Value} {i : Nat} (h : PutAt l i vs l') : PutAt (x :: l) (i + 1) vs (x :: l')
def setL (l : List Value) (i : Nat) : List Value → List Value
  | [] => l
  | v :: vs => setL (l.set i v) (i + 1) vs
theorem setL_cons (x : Value) : ∀ (vs l : List Value) (i : Nat), setL (x :: l) (i + 1) vs = x :: setL l i vs
  | [], _, _ => rfl
  | v :: vs, l, i => by simp only [setL, List.set_cons_succ]; exact setL_cons x vs _ _
theorem Over.eq {l vs l' : List Value} (h : Over l vs l') : setL l 0 vs = l' ∧ vs.length ≤ l.length := by
  induction h with
  | nil => exact ⟨rfl, by simp⟩
  | cons h ih => exact ⟨by simp only [setL, List.set_cons_zero, setL_cons, ih.1], by simpa using ih.2⟩
theorem PutAt.eq {l vs l' : List Value} {i : Nat} (h : PutAt l i vs l') : setL l i vs = l' ∧ i + vs.length ≤ l.length := by
  induction h with
  | here h => simpa using h.eq
  | there h ih => exact ⟨by rw [setL_cons, ih.1], by have := ih.2; simp; omega⟩
theorem setL_length : ∀ (vs l : List Value) (i : Nat), (setL l i vs).length = l.length
  | [], _, _ => rfl
  | v :: vs, l, i => by simp only [setL, setL_length vs, List.length_set]
/-- Values of one cell. -/
def ones (vs : List Value) : Bool := vs.all fun v => v.oneCell'

section
variable {P : Program} {w : World}
theorem addr_add (b o i : Nat) : (⟨b, o, none⟩ : Addr).add i = ⟨b, o + i, none⟩ := by
  unfold Addr.add; split
  · rename_i h; subst h; rfl
  · rfl
theorem run_loadCellsFrom {a : Addr} : ∀ (n i : Nat) (acc : Array Value) (vs : List Value), vs.length = n → (∀ j, j < n → w.cell? (a.add (i + j)) = vs[j]?) → (loadCellsFrom a i n acc).run P w = .ok (acc ++ vs.toArray) w
  | 0, i, acc, vs, hl, _ => by
    have : vs = [] := List.eq_nil_of_length_eq_zero hl
    subst this; simp [loadCellsFrom]
  | n + 1, i, acc, vs, hl, hc => by
    match vs, hl with
    | v :: vs, hl =>
      have h0 : w.cell? (a.add i) = some v := by simpa using hc 0 (by omega)
      have := run_loadCellsFrom n (i + 1) (acc.push v) vs (by simpa using hl) (fun j hj => by
        have := hc (j + 1) (by omega)
        rw [show i + 1 + j = i + (j + 1) by omega, this]; simp)
      simp only [loadCellsFrom, Sem.run_bind, load, Sem.run, h0, Result.andThen_ok, this]
      simp
theorem run_loadVar1 {t : TypeId} {n bt : Nat} [TySz P t false n bt] {a : Addr} {v : Value} (h : w.cell? a = some v) : (loadVar t a).run P w = .ok v w := by
  simp [loadVar, run_isAgg (P := P) (t := t), load, Sem.run, h]
theorem run_loadVarN {t : TypeId} {n bt : Nat} [TySz P t true n bt] {a : Addr} {vs : List Value} (hl : vs.length = n) (h : ∀ j, j < n → w.cell? (a.add j) = vs[j]?) : (loadVar t a).run P w = .ok (.agg vs.toArray) w := by
  have := run_loadCellsFrom (P := P) (w := w) (a := a) n 0 #[] vs hl (by simpa using h)
  simp [loadVar, run_isAgg (P := P) (t := t), run_sizeOf (P := P) (t := t), loadCells, this]
/-- Stores, one by one, into one row. -/
theorem run_storeCells {b : Nat} {T : TypeId} : ∀ (vs : List Value) (l : List Value) (o i : Nat) (w : World), ones vs = true → o + i + vs.length ≤ l.length → w.heap[b]? = some (.cells l.toArray T (0, 0)) →
    ∃ w', (storeCells ⟨b, o, none⟩ vs i).run P w = .ok () w' ∧ w'.heap[b]? = some (.cells (setL l (o + i) vs).toArray T (0, 0)) ∧ w'.os = w.os ∧ w'.tape = w.tape ∧ w'.output = w.output ∧ w'.heap.size = w.heap.size ∧ ∀ k, k ≠ b → w'.heap[k]? = w.heap[k]?
  | [], l, o, i, w, _, _, hb => ⟨w, by simp [storeCells], hb, rfl, rfl, rfl, rfl, fun _ _ => rfl⟩
  | v :: vs, l, o, i, w, h1, hl, hb => by
    simp only [ones, List.all_cons, Bool.and_eq_true] at h1
    simp only [List.length_cons] at hl
    have hc : w.cell? ⟨b, o + i, none⟩ = some (l[o + i]'(by omega)) := by
      rw [cell_of_row w b (o + i) _ T (0, 0) hb]; simp
    have hf : w.frozen? ⟨b, o + i, none⟩ = false := by simp [World.frozen?, hb]
    have hb' : (w.setCell ⟨b, o + i, none⟩ v).heap[b]? = some (.cells (l.set (o + i) v).toArray T (0, 0)) := by
      simp [World.setCell, Array.getElem?_modify, hb]
    obtain ⟨w', hr, h2, h3, h4, h5, h6, h7⟩ := run_storeCells vs (l.set (o + i) v) o (i + 1) (w.setCell ⟨b, o + i, none⟩ v) h1.2 (by simp; omega) hb'
    refine ⟨w', ?_, h2, h3, h4, h5, h6.trans (by simp [World.setCell]), fun k hk => (h7 k hk).trans ?_⟩
    · have hrun : (store ⟨b, o + i, none⟩ v).run P w = .ok () (w.setCell ⟨b, o + i, none⟩ v) := by
        cases v <;> simp [Value.oneCell'] at h1 <;> simp [store, Sem.run, hc, hf]
      simp only [storeCells, addr_add, Sem.run_bind, hrun, Result.andThen_ok, hr]
    · simp [World.setCell, Array.getElem?_modify, Ne.symm hk]
theorem run_storeVar {b : Nat} {T t : TypeId} {g : Bool} {n bt : Nat} [TySz P t g n bt] {v : Value} {vs l : List Value} {o : Nat} (hv : v.cells = vs.toArray) (hn : vs.length = n) (h1 : ones vs = true) (hl : o + vs.length ≤ l.length) (hb : w.heap[b]? = some (.cells l.toArray T (0, 0))) :
    ∃ w', (storeVar t ⟨b, o, none⟩ v).run P w = .ok () w' ∧ w'.heap[b]? = some (.cells (setL l o vs).toArray T (0, 0)) ∧ w'.os = w.os ∧ w'.tape = w.tape ∧ w'.output = w.output ∧ w'.heap.size = w.heap.size ∧ ∀ k, k ≠ b → w'.heap[k]? = w.heap[k]? := by
  obtain ⟨w', hr, h⟩ := run_storeCells (P := P) vs l o 0 w h1 (by simpa using hl) hb
  exact ⟨w', by simp [storeVar, run_sizeOf (P := P) (t := t), hv, hn, hr], h⟩
end

section
variable {P : Program} {N : Nat} {w0 : World} {L : Hp} {e : Env} {d : Option Nat} {ty : TypeId} {pos : String} {af : Array Edge} {g : Option (Nat × Bool)}

/-! loads -/
theorem Val_load1 {t : TypeId} {n bt : Nat} [TySz P t false n bt] {x : Operand} {b o : Nat} {T : TypeId} {l : List Value} {v : Value} (hx : ev e x = .pointer (some ⟨b, o, none⟩)) (hm : Mem b (Blk T l) L) (hv : l[o]? = some v) :
    Val P N w0 L e ⟨d, .load t x, ty, pos, af, g⟩ v := by
  intro w hI
  have hc : w.cell? ⟨b, o, none⟩ = some v := by rw [hI.cell hm]; simpa using hv
  simp [execOp, hx, Instr.loadAt, Instr.sureAddr, run_loadVar1 hc]
theorem Val_loadN {t : TypeId} {n bt : Nat} [TySz P t true n bt] {x : Operand} {b o : Nat} {T : TypeId} {l vs : List Value} (hx : ev e x = .pointer (some ⟨b, o, none⟩)) (hm : Mem b (Blk T l) L) (hv : Cut l o n vs) :
    Val P N w0 L e ⟨d, .load t x, ty, pos, af, g⟩ (.agg vs.toArray) := by
  intro w hI
  obtain ⟨h1, h2⟩ := hv.at_
  simp [execOp, hx, Instr.loadAt, Instr.sureAddr, run_loadVarN h1 (fun j hj => by rw [addr_add, hI.cell hm]; simpa using h2 j hj)]
/-- The whole row. -/
theorem Val_loadW {t : TypeId} {n bt : Nat} [TySz P t true n bt] {x : Operand} {b : Nat} {T : TypeId} {l : List Value} (hx : ev e x = .pointer (some ⟨b, 0, none⟩)) (hm : Mem b (Blk T l) L) (hv : l.length = n) :
    Val P N w0 L e ⟨d, .load t x, ty, pos, af, g⟩ (.agg l.toArray) := by
  intro w hI
  simp [execOp, hx, Instr.loadAt, Instr.sureAddr, run_loadVarN (a := ⟨b, 0, none⟩) hv (fun j hj => by rw [addr_add, hI.cell hm]; simp)]
theorem Val_loadR1 {t : TypeId} {n bt : Nat} [TySz P t false n bt] {x : Operand} {b o : Nat} {v : Value} (hx : ev e x = .pointer (some ⟨b, o, none⟩)) (hb : b < N) (hv : w0.cell? ⟨b, o, none⟩ = some v) :
    Val P N w0 L e ⟨d, .load t x, ty, pos, af, g⟩ v := by
  intro w hI
  simp [execOp, hx, Instr.loadAt, Instr.sureAddr, run_loadVar1 (hI.cellRo hb hv)]
/-- Cells of memory that lies as it lay. -/
def Ro (w0 : World) (b o : Nat) (vs : List Value) : Prop := ∀ j v, vs[j]? = some v → w0.cell? ⟨b, o + j, none⟩ = some v
theorem Val_loadRN {t : TypeId} {n bt : Nat} [TySz P t true n bt] {x : Operand} {b o : Nat} {vs : List Value} (hx : ev e x = .pointer (some ⟨b, o, none⟩)) (hb : b < N) (hv : Ro w0 b o vs) (hl : vs.length = n) :
    Val P N w0 L e ⟨d, .load t x, ty, pos, af, g⟩ (.agg vs.toArray) := by
  intro w hI
  simp [execOp, hx, Instr.loadAt, Instr.sureAddr, run_loadVarN hl (fun j hj => by
    have hj' : j < vs.length := by omega
    rw [addr_add, List.getElem?_eq_getElem hj']; exact hI.cellRo hb (hv j _ (List.getElem?_eq_getElem hj')))]

/-! stores -/
theorem Turn_store {t : TypeId} {g' : Bool} {n bt : Nat} [TySz P t g' n bt] {x y : Operand} {b o : Nat} {T : TypeId} {v : Value} {vs l l' : List Value} {L' : Hp} (hx : ev e x = .pointer (some ⟨b, o, none⟩)) (hy : ev e y = v) (hu : Up L b (Blk T l) (Blk T l') L')
    (hv : v.cells = vs.toArray) (hp : PutAt l o vs l') (hn : vs.length = n) (h1 : ones vs = true) :
    Turn P N w0 L e ⟨d, .store t x y, ty, pos, af, g⟩ L' := by
  intro w hI
  obtain ⟨w', hr, h2, h3, h4, h5, h6, h7⟩ := run_storeVar (P := P) (w := w) (t := t) (T := T) (l := l) hv hn h1 hp.eq.2 (hI.obj hu.mem)
  refine ⟨w', by simp [execOp, hx, hy, Instr.storeAt, Instr.sureAddr, hr], hI.turn hu h3 h4 h5 (by omega) (fun k _ hk => h7 k hk) ⟨_, h2, ?_⟩⟩
  rw [hp.eq.1]; rfl
/-- At a place that is no literal. -/
theorem Turn_storeG {t : TypeId} {g' : Bool} {n bt : Nat} [TySz P t g' n bt] {x y : Operand} {b o : Nat} {T : TypeId} {v : Value} {vs l l' : List Value} {L' : Hp} (hx : ev e x = .pointer (some ⟨b, o, none⟩)) (hy : ev e y = v) (hu : Up L b (Blk T l) (Blk T l') L')
    (hv : v.cells = vs.toArray) (hl : o + vs.length ≤ l.length) (hp : setL l o vs = l') (hn : vs.length = n) (h1 : ones vs = true) :
    Turn P N w0 L e ⟨d, .store t x y, ty, pos, af, g⟩ L' := by
  intro w hI
  obtain ⟨w', hr, h2, h3, h4, h5, h6, h7⟩ := run_storeVar (P := P) (w := w) (t := t) (T := T) (l := l) hv hn h1 hl (hI.obj hu.mem)
  refine ⟨w', by simp [execOp, hx, hy, Instr.storeAt, Instr.sureAddr, hr], hI.turn hu h3 h4 h5 (by omega) (fun k _ hk => h7 k hk) ⟨_, h2, ?_⟩⟩
  rw [hp]; rfl

/-! new blocks -/
theorem New_alloc {t : TypeId} {z : List Value} [hz : TyZero P t z] : New P e ⟨d, .alloc t, ty, pos, af, g⟩ (.cells z.toArray t (0, 0)) (fun b => .pointer (some ⟨b, 0, none⟩)) := by
  intro w
  obtain ⟨v, hr, hv⟩ := run_zeroValue (P := P) (w := w) (t := t) (z := z)
  simp [execOp, Instr.alloc, hr, newVar, newRow, newObj, Sem.run, hv]
theorem New_box {t : TypeId} {x : Operand} {v : Value} {vs : List Value} (hx : ev e x = v) (hv : v.cells = vs.toArray) : New P e ⟨d, .box t x, ty, pos, af, g⟩ (.cells vs.toArray t (0, 0)) (fun b => .pointer (some ⟨b, 0, none⟩)) := by
  intro w
  simp [execOp, Instr.box, hx, newVar, newRow, newObj, Sem.run, hv]
theorem New_makeMap {t : TypeId} : New P e ⟨d, .makeMap t none, ty, pos, af, g⟩ (.map #[] 0) (fun b => .map (some b)) := by
  intro w
  simp [execOp, Instr.makeMap, newObj, Sem.run]

/-! addresses -/
theorem Val_fieldAddr {t ft : TypeId} {i off : Nat} [hf : FieldOff P t i off ft] {g' : Bool} {n bt : Nat} [TySz P ft g' (n + 1) bt] {x : Operand} {b o : Nat} (hx : ev e x = .pointer (some ⟨b, o, none⟩)) :
    Val P N w0 L e ⟨d, .fieldAddr t x i, ty, pos, af, g⟩ (.pointer (some ⟨b, o + off, none⟩)) := by
  intro w _
  have := hf.fld
  cases hu : P.underlying t with
  | none => rw [hu] at this; cases this
  | some td =>
    rw [hu] at this
    cases td <;> simp at this
    rename_i fs
    obtain ⟨f, hf1, hf2, hf3⟩ := this
    subst hf3
    simp [execOp, Instr.fieldAt, run_underlying hu, hf1, hx, Instr.sureAddr, fieldPlace, run_sizeOf (P := P) (t := f.type) (n := n + 1), hf2, addr_add]
theorem Val_fieldAddr0 {t ft : TypeId} {i : Nat} [hf : FieldOff P t i 0 ft] {g' : Bool} {n bt : Nat} [TySz P ft g' (n + 1) bt] {x : Operand} {b o : Nat} (hx : ev e x = .pointer (some ⟨b, o, none⟩)) :
    Val P N w0 L e ⟨d, .fieldAddr t x i, ty, pos, af, g⟩ (.pointer (some ⟨b, o, none⟩)) := Val_fieldAddr (off := 0) hx
theorem Val_indexAddr {t E : TypeId} [hs : SliceOf P t E] {g' : Bool} {n bt : Nat} [TySz P E g' n bt] {x y : Operand} {b o m c i : Nat} {k : IntKind} {q : Int} (hx : ev e x = .slice (some ⟨b, o, none⟩) m c) (hy : ev e y = .int k q) (hq : q = (i : Int)) (hi : i < m) :
    Val P N w0 L e ⟨d, .indexAddr t x y, ty, pos, af, g⟩ (.pointer (some ⟨b, o + i * n, none⟩)) := by
  intro w _
  subst hq
  simp [execOp, Instr.indexAt, hx, hy, asIntOf, run_underlying hs.und, hi, run_sizeOf (P := P) (t := E), addr_add]
theorem Val_indexAddr1 {t E : TypeId} [hs : SliceOf P t E] {g' : Bool} {bt : Nat} [TySz P E g' 1 bt] {x y : Operand} {b o m c i : Nat} {k : IntKind} {q : Int} (hx : ev e x = .slice (some ⟨b, o, none⟩) m c) (hy : ev e y = .int k q) (hq : q = (i : Int)) (hi : i < m) :
    Val P N w0 L e ⟨d, .indexAddr t x y, ty, pos, af, g⟩ (.pointer (some ⟨b, o + i, none⟩)) := by
  have := Val_indexAddr (P := P) (N := N) (w0 := w0) (L := L) (e := e) (d := d) (ty := ty) (pos := pos) (af := af) (g := g) (t := t) (n := 1) hx hy hq hi
  rwa [Nat.mul_one] at this
/-- Of an array. -/
theorem Val_indexAddrA {t E : TypeId} {len : Nat} [hs : ArrayOf P t len E] {g' : Bool} {n bt : Nat} [TySz P E g' n bt] {x y : Operand} {b o i : Nat} {k : IntKind} {q : Int} (hx : ev e x = .pointer (some ⟨b, o, none⟩)) (hy : ev e y = .int k q) (hq : q = (i : Int)) (hi : i < len) :
    Val P N w0 L e ⟨d, .indexAddr t x y, ty, pos, af, g⟩ (.pointer (some ⟨b, o + i * n, none⟩)) := by
  intro w _
  subst hq
  simp [execOp, Instr.indexAt, hx, hy, asIntOf, run_underlying hs.und, hi, run_sizeOf (P := P) (t := E), addr_add, Instr.sureAddr]
theorem Val_indexAddrA1 {t E : TypeId} {len : Nat} [hs : ArrayOf P t len E] {g' : Bool} {bt : Nat} [TySz P E g' 1 bt] {x y : Operand} {b o i : Nat} {k : IntKind} {q : Int} (hx : ev e x = .pointer (some ⟨b, o, none⟩)) (hy : ev e y = .int k q) (hq : q = (i : Int)) (hi : i < len) :
    Val P N w0 L e ⟨d, .indexAddr t x y, ty, pos, af, g⟩ (.pointer (some ⟨b, o + i, none⟩)) := by
  have := Val_indexAddrA (P := P) (N := N) (w0 := w0) (L := L) (e := e) (d := d) (ty := ty) (pos := pos) (af := af) (g := g) (t := t) (n := 1) hx hy hq hi
  rwa [Nat.mul_one] at this
end
end Go.Proofs.Ytakmopiceopcpaa
end

section
namespace Go.Proofs.Ytakmopiceopcpaa
open Go.RowKit

class HasBody (P : Program) (f : FuncId) : Prop where
  body : (P.funcs[f]?).bind (fun fn => if fn.name == "runtime.NumGoroutine" then none else fn.body.map (fun _ => ())) = some ()

section
variable {P : Program} {N : Nat} {w0 : World} {L : Hp} {e : Env} {d : Option Nat} {ty : TypeId} {pos : String} {af : Array Edge} {g : Option (Nat × Bool)}

theorem run_callFunc {f : FuncId} [h : HasBody P f] (args : Array Value) (w : World) : (callFunc f args).run P w = .ok (.enter f args) w := by
  have := h.body
  cases hf : P.funcs[f]? with
  | none => rw [hf] at this; cases this
  | some fn =>
    rw [hf] at this
    simp only [Option.bind_some] at this
    split at this
    · cases this
    · rename_i hn
      cases hb : fn.body with
      | none => rw [hb] at this; cases this
      | some c =>
        have hn' : ¬ fn.name = "runtime.NumGoroutine" := by simpa using hn
        simp [callFunc, hf, hn', hb]

theorem Enters_fn {f : FuncId} [HasBody P f] {xs : List Operand} {ts : Array TypeId} {vs : List Value} (hv : xs.map (ev e) = vs) : Enters P e ⟨d, .call { callee := .value (.func f), args := xs.toArray, argTypes := ts }, ty, pos, af, g⟩ f vs.toArray := by
  intro w
  subst hv
  simp [execOp, resolve, ev, Deferred.ofValue, invoke, run_callFunc]
theorem Enters_val {x : Operand} {f : FuncId} [HasBody P f] {xs : List Operand} {ts : Array TypeId} {vs cf cc : List Value} (hx : ev e x = .func (.func f) cf.toArray cc.toArray) (hv : cf ++ xs.map (ev e) ++ cc = vs) :
    Enters P e ⟨d, .call { callee := .value x, args := xs.toArray, argTypes := ts }, ty, pos, af, g⟩ f vs.toArray := by
  intro w
  subst hv
  simp [execOp, resolve, hx, Deferred.ofValue, invoke, run_callFunc]

/-! aggregates -/
theorem Val_field {t ft : TypeId} {i off : Nat} [hf : FieldOff P t i off ft] {g' : Bool} {n bt : Nat} [TySz P ft g' n bt] {x : Operand} {l vs : List Value} {v : Value} (hx : ev e x = .agg l.toArray) (hc : Cut l off n vs) (hv : (if g' then Value.agg vs.toArray else vs.headD undef) = v) (hn : 0 < n) (h1 : g' = false → n = 1) :
    Val P N w0 L e ⟨d, .field t x i, ty, pos, af, g⟩ v := by
  intro w _
  have := hf.fld
  obtain ⟨c1, c2⟩ := hc.at_
  cases hu : P.underlying t with
  | none => rw [hu] at this; cases this
  | some td =>
    rw [hu] at this
    cases td <;> simp at this
    rename_i fs
    obtain ⟨f, hf1, hf2, hf3⟩ := this
    subst hf3
    cases g' with
    | true =>
      simp only [if_true] at hv
      subst hv
      have : (l.toArray.extract off (off + n)) = vs.toArray := by
        apply Array.ext'
        apply List.ext_getElem?
        intro j
        by_cases hj : j < n
        · have := c2 j hj
          simp [hj, this]
        · simp [List.getElem?_take, hj, List.getElem?_eq_none (show vs.length ≤ j by omega)]
      simp [execOp, Instr.field, run_underlying hu, hf1, hx, asAgg, part, run_isAgg (P := P) (t := f.type), run_sizeOf (P := P) (t := f.type), hf2]
      simpa using this
    | false =>
      simp only [Bool.false_eq_true, if_false] at hv
      have hn1 := h1 rfl
      subst hn1
      match vs, c1 with
      | [u], _ =>
        have h0 : l[off]? = some u := by simpa using c2 0 (by omega)
        simp only [List.headD_cons] at hv
        subst hv
        simp [execOp, Instr.field, run_underlying hu, hf1, hx, asAgg, part, run_isAgg (P := P) (t := f.type), hf2, h0]


class BuildTy (P : Program) (t : TypeId) (pl : outParam (Nat → Option (Nat × Nat))) (z : outParam (List Value)) : Prop where
  ok : ∀ parts, P.built t parts = Instr.fill pl z.toArray parts

inductive FillR (pl : Nat → Option (Nat × Nat)) : List Value → List (Nat × Value) → List Value → Prop
  | nil {l : List Value} : FillR pl l [] l
  | cons {l l1 l' vs : List Value} {i off sz : Nat} {v : Value} {rest : List (Nat × Value)} (hp : pl i = some (off, sz)) (hv : v.cells = vs.toArray) (hs : vs.length = sz) (hput : PutAt l off vs l1) (k : FillR pl l1 rest l') : FillR pl l ((i, v) :: rest) l'

theorem FillR.c1 {pl : Nat → Option (Nat × Nat)} {l l1 l' : List Value} {i off : Nat} {v u : Value} {rest : List (Nat × Value)} (hp : pl i = some (off, 1)) (hv : v = u) (hu : u.cells = #[u]) (hput : PutAt l off [u] l1) (k : FillR pl l1 rest l') : FillR pl l ((i, v) :: rest) l' :=
  .cons hp (vs := [u]) (by rw [hv, hu]) rfl hput k
theorem FillR.cA {pl : Nat → Option (Nat × Nat)} {l l1 l' xs : List Value} {i off sz : Nat} {v : Value} {rest : List (Nat × Value)} (hp : pl i = some (off, sz)) (hv : v = .agg xs.toArray) (hs : xs.length = sz) (hput : PutAt l off xs l1) (k : FillR pl l1 rest l') : FillR pl l ((i, v) :: rest) l' :=
  .cons hp (vs := xs) (by rw [hv]; rfl) hs hput k

theorem foldl_setL : ∀ (vs l : List Value) (off j : Nat), (vs.zipIdx j).foldl (fun cs (c, j) => cs.setIfInBounds (off + j) c) l.toArray = (setL l (off + j) vs).toArray
  | [], _, _, _ => rfl
  | v :: vs, l, off, j => by
    simp only [List.zipIdx_cons, List.foldl_cons, setL]
    have := foldl_setL vs (l.set (off + j) v) off (j + 1)
    simp only [List.setIfInBounds_toArray] at this ⊢
    rw [this]; rfl
theorem foldl_setL0 (vs l : List Value) (off : Nat) : vs.toArray.zipIdx.foldl (fun cs (c, j) => cs.setIfInBounds (off + j) c) l.toArray = (setL l off vs).toArray := by
  have := foldl_setL vs l off 0
  rw [Nat.add_zero] at this
  rw [← this, ← Array.foldl_toList]
  congr 1
  simp
theorem FillR.eq {pl : Nat → Option (Nat × Nat)} {l l' : List Value} {ps : List (Nat × Value)} (h : FillR pl l ps l') : Instr.fill pl l.toArray ps = some l'.toArray := by
  induction h with
  | nil => rfl
  | cons hp hv hs hput k ih =>
    obtain ⟨h1, h2⟩ := hput.eq
    simp only [Instr.fill, hp, hv]
    rw [if_neg (by simp; omega), foldl_setL0, h1]
    exact ih
theorem Val_build {t : TypeId} {pl : Nat → Option (Nat × Nat)} {z cs : List Value} [hb : BuildTy P t pl z] {ps : List (Nat × Operand)} {qs : List (Nat × Value)} (hq : ps.map (fun p => (p.1, ev e p.2)) = qs) (h : FillR pl z qs cs) :
    Val P N w0 L e ⟨d, .build t ps.toArray, ty, pos, af, g⟩ (.agg cs.toArray) := by
  intro w _
  have := run_build (P := P) w t qs.toArray cs.toArray (by rw [hb.ok]; simpa using h.eq)
  subst hq
  simp only [execOp, List.map_toArray, Sem.run_bind]
  simp only [this]
  simp
theorem fill_all (sz : Nat) (place : Nat → Option (Nat × Nat)) (hp : ∀ i, place i = some (i * sz, sz)) : ∀ (vs : List (List Value)) (k : Nat) (done l : List Value) (_ : done.length = k * sz) (_ : l.length = vs.length * sz) (_ : ∀ v ∈ vs, v.length = sz) (ps : List (Nat × Value)) (_ : ps.map (fun p => (p.1, p.2.cells)) = (vs.zipIdx k).map (fun p => (p.2, p.1.toArray))),
    Instr.fill place (done ++ l).toArray ps = some (done ++ vs.flatten).toArray
  | [], k, done, l, _, hl, _, ps, he => by
    have : ps = [] := by simpa using he
    subst this
    have : l = [] := List.eq_nil_of_length_eq_zero (by simpa using hl)
    subst this
    simp [Instr.fill]
  | v :: vs, k, done, l, hd, hl, hv, ps, he => by
    match ps, he with
    | (i, p) :: ps, he =>
      simp only [List.map_cons, List.zipIdx_cons, List.cons.injEq, Prod.mk.injEq] at he
      obtain ⟨⟨rfl, hc⟩, he⟩ := he
      have hvl := hv v List.mem_cons_self
      simp only [List.length_cons, Nat.add_mul, Nat.one_mul] at hl
      simp only [Instr.fill, hp, hc]
      rw [if_neg (by simp; omega), foldl_setL0]
      have hs : setL (done ++ l) (i * sz) v = (done ++ v) ++ l.drop sz := by
        rw [← hd]
        clear hp hd hc he
        have key : ∀ (done : List Value) (v l : List Value), v.length ≤ l.length → setL (done ++ l) done.length v = done ++ v ++ l.drop v.length := by
          intro done v
          induction v generalizing done with
          | nil => intro l _; simp [setL]
          | cons x v ih =>
            intro l hl
            cases l with
            | nil => simp at hl
            | cons y l =>
              simp only [setL]
              have h1 : (done ++ y :: l).set done.length x = (done ++ [x]) ++ l := by simp
              rw [h1]
              have := ih (done ++ [x]) l (by simpa using hl)
              simp only [List.length_append, List.length_cons, List.length_nil, Nat.zero_add] at this
              rw [this]; simp
        rw [key done v l (by omega), hvl]
      rw [hs]
      have := fill_all sz place hp vs (i + 1) (done ++ v) (l.drop sz) (by simp [Nat.add_mul]; omega) (by simp; omega) (fun u hu => hv u (List.mem_cons_of_mem _ hu)) ps he
      rw [this]
      simp
/-- '[]T{..}': every element given, in order. -/
theorem New_buildSlice {t E : TypeId} [hs : SliceOf P t E] {g' : Bool} {sz bt : Nat} [TySz P E g' (sz + 1) bt] {z : List Value} [TyZero P E z] {len : Nat} {ps : List (Nat × Operand)} {vs : List (List Value)}
    (hq : ps.map (fun p => (p.1, (ev e p.2).cells)) = vs.zipIdx.map (fun p => (p.2, p.1.toArray))) (hl : vs.length = len) (hv : vs.all (fun v => v.length == sz + 1) = true) (hlen : len * (sz + 1) ≤ 16777216) (_hz : z.length = sz + 1) (h0 : 0 < len) :
    New P e ⟨d, .buildSlice t len ps.toArray, ty, pos, af, g⟩ (.cells vs.flatten.toArray E (0, 0)) (fun b => .slice (some ⟨b, 0, none⟩) len len) := by
  intro w
  obtain ⟨zv, hzr, hzc⟩ := run_zeroValue (P := P) (w := w) (t := E) (z := z)
  have hne : ¬ (len = 0 ∨ sz + 1 = 0) := by omega
  have hfill := fill_all (sz + 1) (fun i => some (i * (sz + 1), sz + 1)) (fun _ => rfl) vs 0 [] ((List.range (len * (sz + 1))).map fun i => z.toArray[i % z.length]!) (by simp) (by simp [hl]) (by simpa using hv) (ps.map fun p => (p.1, ev e p.2)) (by rw [List.map_map]; exact hq)
  simp only [List.nil_append] at hfill
  have hr : ((Array.range (len * (sz + 1))).map fun i => z.toArray[i % z.toArray.size]!) = ((List.range (len * (sz + 1))).map fun i => z.toArray[i % z.length]!).toArray := by
    apply Array.ext'; simp
  simp only [execOp, List.map_toArray]
  have h1 : ¬ len * (sz + 1) > 2 ^ 24 := by simpa using hlen
  have h2 : ¬ len * (sz + 1) = 0 := Nat.mul_ne_zero (by omega) (by omega)
  simp only [Instr.buildSlice, Sem.run_bind, run_underlying hs.und, Result.andThen_ok, run_sizeOf (P := P) (t := E), if_neg h1, if_neg h2, hzr, Sem.run_pure, hzc, hr, hfill, newRow, newObj]
  simp [Sem.run]
inductive CellsR : List Value → List (List Value) → Prop
  | nil : CellsR [] []
  | cons {v : Value} {xs : List Value} {vals : List Value} {vs : List (List Value)} (h : v.cells = xs.toArray) (k : CellsR vals vs) : CellsR (v :: vals) (xs :: vs)
theorem CellsR.c1 {v u : Value} {vals : List Value} {vs : List (List Value)} (hv : v = u) (hu : u.cells = #[u]) (k : CellsR vals vs) : CellsR (v :: vals) ([u] :: vs) := .cons (by rw [hv, hu]) k
theorem CellsR.cA {v : Value} {xs vals : List Value} {vs : List (List Value)} (hv : v = .agg xs.toArray) (k : CellsR vals vs) : CellsR (v :: vals) (xs :: vs) := .cons (by rw [hv]; rfl) k
theorem CellsR.eq {vals : List Value} {vs : List (List Value)} (h : CellsR vals vs) : vals.map Value.cells = vs.map List.toArray := by
  induction h with
  | nil => rfl
  | cons h k ih => simp [h, ih]
theorem New_buildSliceR {t E : TypeId} [hs : SliceOf P t E] {g' : Bool} {sz bt : Nat} [TySz P E g' (sz + 1) bt] {z : List Value} [TyZero P E z] {len : Nat} {ps : List (Nat × Operand)} {vals : List Value} {vs : List (List Value)}
    (hp : ps.map (·.1) = List.range len) (hq : ps.map (fun p => ev e p.2) = vals) (hc : CellsR vals vs) (hv : vs.all (fun v => v.length == sz + 1) = true) (hlen : len * (sz + 1) ≤ 16777216) (hz : z.length = sz + 1) (h0 : 0 < len) :
    New P e ⟨d, .buildSlice t len ps.toArray, ty, pos, af, g⟩ (.cells vs.flatten.toArray E (0, 0)) (fun b => .slice (some ⟨b, 0, none⟩) len len) := by
  subst hq
  have h1 := hc.eq
  have hl1 : ps.length = len := by have := congrArg List.length hp; simpa using this
  have hl2 : vs.length = len := by have := congrArg List.length h1; simpa [hl1] using this.symm
  refine New_buildSlice (vs := vs) ?_ hl2 hv hlen hz h0
  apply List.ext_getElem
  · simp [hl1, hl2]
  · intro i hi hi'
    have hi1 : i < ps.length := by simpa using hi
    have hi2 : i < vs.length := by omega
    have a1 : (ps.map (·.1))[i]'(by simpa using hi1) = i := by simp [hp]
    have a2 : ((ps.map (fun p => ev e p.2)).map Value.cells)[i]'(by simpa using hi1) = (vs.map List.toArray)[i]'(by simpa using hi2) := by simp only [h1]
    simp only [List.getElem_map, List.getElem_zipIdx] at a1 a2 ⊢
    rw [a1, a2]; simp
end
end Go.Proofs.Ytakmopiceopcpaa
end

section
namespace Go.Proofs.Ytakmopiceopcpaa
open Go.RowKit

class MethodOf (P : Program) (t : TypeId) (name : String) (f : outParam FuncId) : Prop where
  run : ∀ v w, (method (P.types.size + Made.depth) t v name).run P w = .ok (f, v) w

section
variable {P : Program} {r : Option Nat} {n N : Nat} {w0 : World} {L : Hp} {e : Env} {d : Option Nat} {ty : TypeId} {pos : String} {af : Array Edge} {g : Option (Nat × Bool)} {ops : Array Oper} {rest : List Oper} {Q : Post} {ds : List Deferred}

theorem OPS_panicV {x : Operand} {t : TypeId} {v : Value} (hx : ev e x = .iface t v) (hg : Region.wanted ⟨d, .panic x, ty, pos, af, g⟩ (yieldE ops e) = true)
    (h : Q (.panic [{ v := .iface t v, recovered := false }]) e ds L) : OPS P r n N w0 ops (⟨d, .panic x, ty, pos, af, g⟩ :: rest) Q e ds L :=
  OPS_panic (fun w => by simp [execOp, hx, Instr.panic, goPanic, Sem.run]) hg rfl h
theorem Enters_inv {x : Operand} {t : TypeId} {v : Value} {name : String} {f : FuncId} [hm : MethodOf P t name f] [HasBody P f] {xs : List Operand} {ts : Array TypeId} {vs : List Value} (hx : ev e x = .iface t v) (hv : v :: xs.map (ev e) = vs) :
    Enters P e ⟨d, .call { callee := .invoke x name, args := xs.toArray, argTypes := ts }, ty, pos, af, g⟩ f vs.toArray := by
  intro w
  subst hv
  have ht : List.take xs.length (xs.map (ev e)) = xs.map (ev e) := List.take_of_length_le (by simp)
  simp [execOp, resolve, hx, invoke, callMethod, hm.run, run_callFunc, ht]
theorem run_sliceLo {t E : TypeId} [ha : SliceOf P t E] {g' : Bool} {sz bt : Nat} [TySz P E g' sz bt] {a : Option Addr} {len cap lo : Nat} (w : World) (h1 : lo ≤ len) :
    (Instr.sliceAt t (.slice a len cap) (some (.int .i64 lo)) none none).run P w = .ok (.slice (if cap = lo then a else a.map (·.add (lo * sz))) (len - lo) (cap - lo)) w := by
  simp [Instr.sliceAt, Instr.slice, run_underlying ha.und, Instr.sliceBounds, Instr.sliceBound, asIntOf, h1, run_sizeOf (P := P) (t := E)]
theorem run_sliceHi {t E : TypeId} [ha : SliceOf P t E] {g' : Bool} {sz bt : Nat} [TySz P E g' sz bt] {a : Option Addr} {len cap hi : Nat} (w : World) (h2 : hi ≤ cap) :
    (Instr.sliceAt t (.slice a len cap) none (some (.int .i64 hi)) none).run P w = .ok (.slice (if cap = 0 then a else a.map (·.add (0 * sz))) hi cap) w := by
  simp [Instr.sliceAt, Instr.slice, run_underlying ha.und, Instr.sliceBounds, Instr.sliceBound, asIntOf, h2, run_sizeOf (P := P) (t := E)]

/-! ## A slice that grows -/
def Row (E : TypeId) (sz k cap : Nat) (xs : List Value) : Obj → Prop := fun o => ∃ cur : Array Value, o = .cells cur E (0, 0) ∧ k ≤ cap ∧ cap ≤ maxLen ∧ cur.size = cap * sz ∧ cur.toList.take (k * sz) = xs
def svV (s : Option (Nat × Nat)) (k : Nat) : Value := match s with
  | none => .slice none 0 0
  | some (b, cap) => .slice (some ⟨b, 0, none⟩) k cap
def svH (E : TypeId) (sz k : Nat) (xs : List Value) (s : Option (Nat × Nat)) (L : Hp) : Hp := match s with
  | none => L
  | some (b, cap) => (b, Row E sz k cap xs) :: L
/-- What goes with it: nil has no elements. -/
def svOk (s : Option (Nat × Nat)) (sz k : Nat) (xs : List Value) : Prop := xs.length = k * sz ∧ (s = none → k = 0)

theorem svOk_nil (sz : Nat) : svOk none sz 0 [] := ⟨by simp, fun _ => rfl⟩
theorem owns_of {E : TypeId} {sz k : Nat} {xs : List Value} {s : Option (Nat × Nat)} {w : World} (hI : Inv N w0 (svH E sz k xs s L) w) (hs : svOk s sz k xs) : w.ownsRow N E sz (svV s k) k xs := by
  refine ⟨hs.1, ?_⟩
  cases s with
  | none => exact .inl ⟨rfl, hs.2 rfl⟩
  | some p =>
    obtain ⟨b, cap⟩ := p
    obtain ⟨hb, o, ho, cur, rfl, h1, h2, h3, h4⟩ := hI.own _ (List.mem_cons_self)
    exact .inr ⟨b, cap, cur, rfl, hb, ho, h1, h2, h3, h4⟩

theorem run_append_sv {t E : TypeId} [hE : SliceOf P t E] {g' : Bool} {sz bt : Nat} [hS : TySz P E g' (sz + 1) bt] {z : List Value} [hZ : TyZero P E z] (hz : z.length = sz + 1)
    {k m c : Nat} {xs news : List Value} {s : Option (Nat × Nat)} {a : Addr} {w : World} (hI : Inv N w0 (svH E (sz + 1) k xs s L) w) (hs : svOk s (sz + 1) k xs)
    (hl : news.length = m * (sz + 1)) (hn : ∀ j u, news[j]? = some u → w.cell? (a.add j) = some u) (h1 : ones news = true) (h63 : k + m ≤ maxLen) (hby : (k + m) * bt ≤ 140737488355328) :
    ∃ s' w', (Builtin.append_ #[t, t] ty #[svV s k, .slice (some a) m c]).run P w = .ok (svV s' (k + m)) w' ∧ Inv N w0 (svH E (sz + 1) (k + m) (xs ++ news) s' L) w' ∧ svOk s' (sz + 1) (k + m) (xs ++ news) := by
  have hi := hS.inf
  have hzz := hZ.zero
  cases hin : P.info? E with
  | none => rw [hin] at hi; cases hi
  | some i =>
    rw [hin] at hi hzz
    simp only [Option.map_some, Option.some.injEq, Prod.mk.injEq] at hi
    cases hiz : i.zero with
    | none => simp [hiz] at hzz
    | some zv =>
      simp only [Option.bind_some, hiz, Option.map_some, Option.some.injEq] at hzz
      have hzs : zv.cells.size = sz + 1 := by rw [← Array.length_toList, hzz, hz]
      obtain ⟨v', w', hr, hown, hg, _, hat⟩ := run_append_own_at (P := P) w N t ty E i zv (sz + 1) bt hE.und hin hiz hi.1 hi.2 hzs (by omega) (svV s k) k xs (owns_of hI hs) a m c news hl hn
        (fun u hu => by simp only [ones, List.all_eq_true] at h1; exact h1 u hu) h63 hby hI.big
      obtain ⟨hl', hcase⟩ := hown
      have hbase : Inv N w0 L w := by
        cases s with
        | none => exact hI
        | some p => exact hI.wk (.drop (.refl _))
      have hne : ∀ y ∈ L, some y.1 ≠ (svV s k).ownBlock := by
        intro y hy
        cases s with
        | none => simp [svV, Value.ownBlock]
        | some p =>
          have := hI.dis
          simp only [svH, List.pairwise_cons] at this
          have := this.1 y hy
          simp only [svV, Value.ownBlock, ne_eq, Option.some.injEq]
          exact fun h => this h.symm
      have hlow : ∀ j, some j = (svV s k).ownBlock → N ≤ j := by
        intro j hj
        cases s with
        | none => simp [svV, Value.ownBlock] at hj
        | some p =>
          have := (hI.own _ List.mem_cons_self).1
          simp only [svV, Value.ownBlock, Option.some.injEq] at hj
          rw [hj]; exact this
      have hL' : Inv N w0 L w' := by
        refine ⟨⟨hg.os.trans hbase.below.os, hg.tape.trans hbase.below.tape, hg.output.trans hbase.below.output, Nat.le_trans hbase.below.size hg.size, fun j hj => ?_⟩, Nat.le_trans hbase.big hg.size, hbase.dis, fun y hy => ?_⟩
        · rw [hg.block j (Nat.lt_of_lt_of_le hj hbase.big) (fun h => by have := hlow j h; omega)]
          exact hbase.below.block j hj
        · obtain ⟨h1, o, ho, hφ⟩ := hbase.own y hy
          exact ⟨h1, o, (hg.block _ (hbase.lt hy) (hne y hy)).trans ho, hφ⟩
      rcases hcase with ⟨rfl, h0⟩ | ⟨gb, cap, cur, rfl, hgb, hh, hc1, hc2, hc3, hc4⟩
      · refine ⟨none, w', ?_, hL', hl', fun _ => h0⟩
        rw [hr]; simp [svV]
      · refine ⟨some (gb, cap), w', hr, ⟨hL'.below, hL'.big, ?_, ?_⟩, hl', fun h => by cases h⟩
        · simp only [svH, List.pairwise_cons]
          refine ⟨fun y hy => ?_, hL'.dis⟩
          have hylt := hbase.lt hy
          have hat' : some gb = (svV s k).ownBlock ∨ some gb = some w.heap.size := hat
          rcases hat' with h | h
          · exact fun e => hne y hy (by rw [← e, ← h])
          · have h := Option.some.inj h
            show gb ≠ y.1
            omega
        · intro x hx
          rcases List.mem_cons.1 hx with rfl | hx
          · exact ⟨hgb, _, hh, cur, rfl, hc1, hc2, hc3, hc4⟩
          · exact hL'.own x hx

theorem OPS_append {t E : TypeId} [hE : SliceOf P t E] {g' : Bool} {sz bt : Nat} [hS : TySz P E g' (sz + 1) bt] {z : List Value} [hZ : TyZero P E z] (hz : z.length = sz + 1)
    {x y : Operand} {k m c b2 o2 : Nat} {xs news : List Value} {s : Option (Nat × Nat)} {Lb : Hp} (hx : ev e x = svV s k) (hy : ev e y = .slice (some ⟨b2, o2, none⟩) m c) (hL : Wk L (svH E (sz + 1) k xs s Lb))
    (hs : svOk s (sz + 1) k xs) (hn : ∀ w, Inv N w0 L w → ∀ j u, news[j]? = some u → w.cell? ⟨b2, o2 + j, none⟩ = some u) (hl : news.length = m * (sz + 1)) (h1 : ones news = true) (h63 : k + m ≤ maxLen) (hby : (k + m) * bt ≤ 140737488355328)
    (hg : Region.wanted ⟨d, .call { callee := .builtin .append, args := #[x, y], argTypes := #[t, t] }, ty, pos, af, g⟩ (yieldE ops e) = true) (hd : dstOk n d = true)
    (h : ∀ s', svOk s' (sz + 1) (k + m) (xs ++ news) → OPS P r n N w0 ops rest Q (updO e d (svV s' (k + m))) ds (svH E (sz + 1) (k + m) (xs ++ news) s' Lb)) :
    OPS P r n N w0 ops (⟨d, .call { callee := .builtin .append, args := #[x, y], argTypes := #[t, t] }, ty, pos, af, g⟩ :: rest) Q e ds L := by
  refine OPS_any (K := fun v L' => ∃ s', v = svV s' (k + m) ∧ L' = svH E (sz + 1) (k + m) (xs ++ news) s' Lb ∧ svOk s' (sz + 1) (k + m) (xs ++ news)) (fun w hI => ?_) hg rfl hd ?_
  · obtain ⟨s', w', hr, hI', hs'⟩ := run_append_sv (P := P) (ty := ty) (t := t) (E := E) (a := ⟨b2, o2, none⟩) (m := m) (c := c) hz (hI.wk hL) hs hl (fun j u hj => by rw [addr_add]; exact hn w hI j u hj) h1 h63 hby
    exact ⟨_, w', _, by simp [execOp, resolve, invoke, builtin, hx, hy, hr], hI', s', rfl, rfl, hs'⟩
  · rintro v L' ⟨s', rfl, rfl, hs'⟩
    exact h s' hs'
theorem blk_cells {b : Nat} {T : TypeId} {l : List Value} (hm : Mem b (Blk T l) L) : ∀ w, Inv N w0 L w → ∀ j u, l[j]? = some u → w.cell? ⟨b, 0 + j, none⟩ = some u := by
  intro w hI j u hj
  rw [Nat.zero_add, hI.cell hm]; simpa using hj
end

/-! ## Results -/
section
variable {P : Program} {N : Nat} {w0 : World} {L : Hp} {e : Env}
inductive ResR (P : Program) (e : Env) (L : Hp) : List ResultVar → List Value → Prop
  | nil : ResR P e L [] []
  | tmp {t : Nat} {v : Value} {rs : List ResultVar} {vs : List Value} (h : e t = v) (k : ResR P e L rs vs) : ResR P e L (.tmp t :: rs) (v :: vs)
  | cell1 {a t n bt b o : Nat} {T : TypeId} {l : List Value} {v : Value} {rs : List ResultVar} {vs : List Value} [TySz P t false n bt] (h : e a = .pointer (some ⟨b, o, none⟩)) (hm : Mem b (Blk T l) L) (hv : l[o]? = some v) (k : ResR P e L rs vs) : ResR P e L (.cell a t :: rs) (v :: vs)
  | cellN {a t n bt b o : Nat} {T : TypeId} {l us : List Value} {rs : List ResultVar} {vs : List Value} [TySz P t true n bt] (h : e a = .pointer (some ⟨b, o, none⟩)) (hm : Mem b (Blk T l) L) (hv : Cut l o n us) (k : ResR P e L rs vs) : ResR P e L (.cell a t :: rs) (.agg us.toArray :: vs)
theorem asAddr_ptr (a : Addr) : asAddr (.pointer (some a)) = pure a := rfl
theorem ResR.run {rs : List ResultVar} {vs : List Value} (h : ResR P e L rs vs) {a : Act} {w : World} (he : envOf a = e) (hI : Inv N w0 L w) :
    (rs.mapM fun | .tmp t => pure (a.tmps.getD t undef) | .cell x t => do loadVar t (← asAddr (a.tmps.getD x undef)) : Sem (List Value)).run P w = .ok vs w := by
  subst he
  induction h with
  | nil => simp
  | tmp h k ih =>
    have h' : a.tmps.getD _ undef = _ := h
    simp only [List.mapM_cons, Sem.run_bind, Sem.run_pure, Result.andThen_ok, ih, h']
  | cell1 h hm hv k ih =>
    rename_i x t n bt b o T l v rs vs _
    have h' : a.tmps.getD x undef = .pointer (some ⟨b, o, none⟩) := h
    have hc : w.cell? ⟨b, o, none⟩ = some v := by rw [hI.cell hm]; simpa using hv
    simp only [List.mapM_cons, Sem.run_bind, h', asAddr_ptr, Sem.run_pure, Result.andThen_ok, run_loadVar1 (P := P) (t := t) hc, ih]
  | cellN h hm hv k ih =>
    rename_i x t n bt b o T l us rs vs _
    have h' : a.tmps.getD x undef = .pointer (some ⟨b, o, none⟩) := h
    obtain ⟨h1, h2⟩ := hv.at_
    have hl := run_loadVarN (P := P) (w := w) (t := t) (a := ⟨b, o, none⟩) h1 (fun j hj => by rw [addr_add, hI.cell hm]; simpa using h2 j hj)
    simp only [List.mapM_cons, Sem.run_bind, h', asAddr_ptr, Sem.run_pure, Result.andThen_ok, hl, ih]
def resV : List Value → Value
  | [u] => u
  | vs => .tuple vs.toArray
theorem resV_eq (vs : List Value) : (if h : vs.toArray.size = 1 then vs.toArray[0] else Value.tuple vs.toArray) = resV vs := by
  match vs with
  | [] => rfl
  | [u] => rfl
  | u :: u' :: vs => simp [resV]
theorem QBody_res {fn : Func} {R : Ending → Hp → Prop} {rs : List ResultVar} {vs : List Value} {v : Value} (hr : fn.results = rs.toArray) (h : ResR P e L rs vs) (hv : resV vs = v) (hR : R (.returned v) L) : QBody P fn N w0 R .ret e [] L := by
  refine ⟨rfl, v, fun a w he hI => ?_, hR⟩
  have h1 := h.run he hI
  subst hv
  unfold results
  rw [hr]
  simp only [List.mapM_toArray, Sem.run_bind, Sem.run_map, Sem.run_pure]
  have h2 := congrArg (fun r : Result (List Value) => (r.andThen fun a w' => Result.ok a.toArray w').andThen fun a w' => Result.ok (if h : a.size = 1 then a[0] else Value.tuple a) w') h1
  refine Eq.trans h2 ?_
  simp only [Result.andThen_ok, resV_eq]
end
end Go.Proofs.Ytakmopiceopcpaa
end
