/- Aggregates, slices, calls. -/
import Derived.Test.YtakmopiceopcpaaMem
section
namespace Go.Proofs.Ytakmopiceopcpaa
open Go.RowKit

class HasBody (P : Program) (f : FuncId) : Prop where
  body : (P.funcs[f]?).bind (fun fn => if fn.name == "runtime.NumGoroutine" then none else fn.body.map (fun _ => ())) = some ()

section
variable {P : Program} {N : Nat} {w0 : World} {L : Hp} {e : Env} {d : Option Nat} {ty : TypeId} {pos : String} {af : Array Edge} {g : Option (Nat × Bool)}

theorem run_callFunc {f : FuncId} [h : HasBody P f] (args : Array Value) (w : World) : (callFunc f args).run P w = .ok (.enter f args) w := by
  have := h.body
  cases hf : P.funcs[f]? with
  | none => rw [hf] at this; cases this
  | some fn =>
    rw [hf] at this
    simp only [Option.bind_some] at this
    split at this
    · cases this
    · rename_i hn
      cases hb : fn.body with
      | none => rw [hb] at this; cases this
      | some c =>
        have hn' : ¬ fn.name = "runtime.NumGoroutine" := by simpa using hn
        simp [callFunc, hf, hn', hb]

theorem Enters_fn {f : FuncId} [HasBody P f] {xs : List Operand} {ts : Array TypeId} {vs : List Value} (hv : xs.map (ev e) = vs) : Enters P e ⟨d, .call { callee := .value (.func f), args := xs.toArray, argTypes := ts }, ty, pos, af, g⟩ f vs.toArray := by
  intro w
  subst hv
  simp [execOp, resolve, ev, Deferred.ofValue, invoke, run_callFunc]
theorem Enters_val {x : Operand} {f : FuncId} [HasBody P f] {xs : List Operand} {ts : Array TypeId} {vs cf cc : List Value} (hx : ev e x = .func (.func f) cf.toArray cc.toArray) (hv : cf ++ xs.map (ev e) ++ cc = vs) :
    Enters P e ⟨d, .call { callee := .value x, args := xs.toArray, argTypes := ts }, ty, pos, af, g⟩ f vs.toArray := by
  intro w
  subst hv
  simp [execOp, resolve, hx, Deferred.ofValue, invoke, run_callFunc]

/-! aggregates -/
theorem Val_field {t ft : TypeId} {i off : Nat} [hf : FieldOff P t i off ft] {g' : Bool} {n bt : Nat} [TySz P ft g' n bt] {x : Operand} {l vs : List Value} {v : Value} (hx : ev e x = .agg l.toArray) (hc : Cut l off n vs) (hv : (if g' then Value.agg vs.toArray else vs.headD undef) = v) (hn : 0 < n) (h1 : g' = false → n = 1) :
    Val P N w0 L e ⟨d, .field t x i, ty, pos, af, g⟩ v := by
  intro w _
  have := hf.fld
  obtain ⟨c1, c2⟩ := hc.at_
  cases hu : P.underlying t with
  | none => rw [hu] at this; cases this
  | some td =>
    rw [hu] at this
    cases td <;> simp at this
    rename_i fs
    obtain ⟨f, hf1, hf2, hf3⟩ := this
    subst hf3
    cases g' with
    | true =>
      simp only [if_true] at hv
      subst hv
      have : (l.toArray.extract off (off + n)) = vs.toArray := by
        apply Array.ext'
        apply List.ext_getElem?
        intro j
        by_cases hj : j < n
        · have := c2 j hj
          simp [hj, this]
        · simp [List.getElem?_take, hj, List.getElem?_eq_none (show vs.length ≤ j by omega)]
      simp [execOp, Instr.field, run_underlying hu, hf1, hx, asAgg, part, run_isAgg (P := P) (t := f.type), run_sizeOf (P := P) (t := f.type), hf2]
      simpa using this
    | false =>
      simp only [Bool.false_eq_true, if_false] at hv
      have hn1 := h1 rfl
      subst hn1
      match vs, c1 with
      | [u], _ =>
        have h0 : l[off]? = some u := by simpa using c2 0 (by omega)
        simp only [List.headD_cons] at hv
        subst hv
        simp [execOp, Instr.field, run_underlying hu, hf1, hx, asAgg, part, run_isAgg (P := P) (t := f.type), hf2, h0]


class BuildTy (P : Program) (t : TypeId) (pl : outParam (Nat → Option (Nat × Nat))) (z : outParam (List Value)) : Prop where
  ok : ∀ parts, P.built t parts = Instr.fill pl z.toArray parts

inductive FillR (pl : Nat → Option (Nat × Nat)) : List Value → List (Nat × Value) → List Value → Prop
  | nil {l : List Value} : FillR pl l [] l
  | cons {l l1 l' vs : List Value} {i off sz : Nat} {v : Value} {rest : List (Nat × Value)} (hp : pl i = some (off, sz)) (hv : v.cells = vs.toArray) (hs : vs.length = sz) (hput : PutAt l off vs l1) (k : FillR pl l1 rest l') : FillR pl l ((i, v) :: rest) l'

theorem FillR.c1 {pl : Nat → Option (Nat × Nat)} {l l1 l' : List Value} {i off : Nat} {v u : Value} {rest : List (Nat × Value)} (hp : pl i = some (off, 1)) (hv : v = u) (hu : u.cells = #[u]) (hput : PutAt l off [u] l1) (k : FillR pl l1 rest l') : FillR pl l ((i, v) :: rest) l' :=
  .cons hp (vs := [u]) (by rw [hv, hu]) rfl hput k
theorem FillR.cA {pl : Nat → Option (Nat × Nat)} {l l1 l' xs : List Value} {i off sz : Nat} {v : Value} {rest : List (Nat × Value)} (hp : pl i = some (off, sz)) (hv : v = .agg xs.toArray) (hs : xs.length = sz) (hput : PutAt l off xs l1) (k : FillR pl l1 rest l') : FillR pl l ((i, v) :: rest) l' :=
  .cons hp (vs := xs) (by rw [hv]; rfl) hs hput k

theorem foldl_setL : ∀ (vs l : List Value) (off j : Nat), (vs.zipIdx j).foldl (fun cs (c, j) => cs.setIfInBounds (off + j) c) l.toArray = (setL l (off + j) vs).toArray
  | [], _, _, _ => rfl
  | v :: vs, l, off, j => by
    simp only [List.zipIdx_cons, List.foldl_cons, setL]
    have := foldl_setL vs (l.set (off + j) v) off (j + 1)
    simp only [List.setIfInBounds_toArray] at this ⊢
    rw [this]; rfl
theorem foldl_setL0 (vs l : List Value) (off : Nat) : vs.toArray.zipIdx.foldl (fun cs (c, j) => cs.setIfInBounds (off + j) c) l.toArray = (setL l off vs).toArray := by
  have := foldl_setL vs l off 0
  rw [Nat.add_zero] at this
  rw [← this, ← Array.foldl_toList]
  congr 1
  simp
theorem FillR.eq {pl : Nat → Option (Nat × Nat)} {l l' : List Value} {ps : List (Nat × Value)} (h : FillR pl l ps l') : Instr.fill pl l.toArray ps = some l'.toArray := by
  induction h with
  | nil => rfl
  | cons hp hv hs hput k ih =>
    obtain ⟨h1, h2⟩ := hput.eq
    simp only [Instr.fill, hp, hv]
    rw [if_neg (by simp; omega), foldl_setL0, h1]
    exact ih
theorem Val_build {t : TypeId} {pl : Nat → Option (Nat × Nat)} {z cs : List Value} [hb : BuildTy P t pl z] {ps : List (Nat × Operand)} {qs : List (Nat × Value)} (hq : ps.map (fun p => (p.1, ev e p.2)) = qs) (h : FillR pl z qs cs) :
    Val P N w0 L e ⟨d, .build t ps.toArray, ty, pos, af, g⟩ (.agg cs.toArray) := by
  intro w _
  have := run_build (P := P) w t qs.toArray cs.toArray (by rw [hb.ok]; simpa using h.eq)
  subst hq
  simp only [execOp, List.map_toArray, Sem.run_bind]
  simp only [this]
  simp
theorem fill_all (sz : Nat) (place : Nat → Option (Nat × Nat)) (hp : ∀ i, place i = some (i * sz, sz)) : ∀ (vs : List (List Value)) (k : Nat) (done l : List Value) (_ : done.length = k * sz) (_ : l.length = vs.length * sz) (_ : ∀ v ∈ vs, v.length = sz) (ps : List (Nat × Value)) (_ : ps.map (fun p => (p.1, p.2.cells)) = (vs.zipIdx k).map (fun p => (p.2, p.1.toArray))),
    Instr.fill place (done ++ l).toArray ps = some (done ++ vs.flatten).toArray
  | [], k, done, l, _, hl, _, ps, he => by
    have : ps = [] := by simpa using he
    subst this
    have : l = [] := List.eq_nil_of_length_eq_zero (by simpa using hl)
    subst this
    simp [Instr.fill]
  | v :: vs, k, done, l, hd, hl, hv, ps, he => by
    match ps, he with
    | (i, p) :: ps, he =>
      simp only [List.map_cons, List.zipIdx_cons, List.cons.injEq, Prod.mk.injEq] at he
      obtain ⟨⟨rfl, hc⟩, he⟩ := he
      have hvl := hv v List.mem_cons_self
      simp only [List.length_cons, Nat.add_mul, Nat.one_mul] at hl
      simp only [Instr.fill, hp, hc]
      rw [if_neg (by simp; omega), foldl_setL0]
      have hs : setL (done ++ l) (i * sz) v = (done ++ v) ++ l.drop sz := by
        rw [← hd]
        clear hp hd hc he
        have key : ∀ (done : List Value) (v l : List Value), v.length ≤ l.length → setL (done ++ l) done.length v = done ++ v ++ l.drop v.length := by
          intro done v
          induction v generalizing done with
          | nil => intro l _; simp [setL]
          | cons x v ih =>
            intro l hl
            cases l with
            | nil => simp at hl
            | cons y l =>
              simp only [setL]
              have h1 : (done ++ y :: l).set done.length x = (done ++ [x]) ++ l := by simp
              rw [h1]
              have := ih (done ++ [x]) l (by simpa using hl)
              simp only [List.length_append, List.length_cons, List.length_nil, Nat.zero_add] at this
              rw [this]; simp
        rw [key done v l (by omega), hvl]
      rw [hs]
      have := fill_all sz place hp vs (i + 1) (done ++ v) (l.drop sz) (by simp [Nat.add_mul]; omega) (by simp; omega) (fun u hu => hv u (List.mem_cons_of_mem _ hu)) ps he
      rw [this]
      simp
/-- '[]T{..}': every element given, in order. -/
theorem New_buildSlice {t E : TypeId} [hs : SliceOf P t E] {g' : Bool} {sz bt : Nat} [TySz P E g' (sz + 1) bt] {z : List Value} [TyZero P E z] {len : Nat} {ps : List (Nat × Operand)} {vs : List (List Value)}
    (hq : ps.map (fun p => (p.1, (ev e p.2).cells)) = vs.zipIdx.map (fun p => (p.2, p.1.toArray))) (hl : vs.length = len) (hv : vs.all (fun v => v.length == sz + 1) = true) (hlen : len * (sz + 1) ≤ 16777216) (_hz : z.length = sz + 1) (h0 : 0 < len) :
    New P e ⟨d, .buildSlice t len ps.toArray, ty, pos, af, g⟩ (.cells vs.flatten.toArray E (0, 0)) (fun b => .slice (some ⟨b, 0, none⟩) len len) := by
  intro w
  obtain ⟨zv, hzr, hzc⟩ := run_zeroValue (P := P) (w := w) (t := E) (z := z)
  have hne : ¬ (len = 0 ∨ sz + 1 = 0) := by omega
  have hfill := fill_all (sz + 1) (fun i => some (i * (sz + 1), sz + 1)) (fun _ => rfl) vs 0 [] ((List.range (len * (sz + 1))).map fun i => z.toArray[i % z.length]!) (by simp) (by simp [hl]) (by simpa using hv) (ps.map fun p => (p.1, ev e p.2)) (by rw [List.map_map]; exact hq)
  simp only [List.nil_append] at hfill
  have hr : ((Array.range (len * (sz + 1))).map fun i => z.toArray[i % z.toArray.size]!) = ((List.range (len * (sz + 1))).map fun i => z.toArray[i % z.length]!).toArray := by
    apply Array.ext'; simp
  simp only [execOp, List.map_toArray]
  have h1 : ¬ len * (sz + 1) > 2 ^ 24 := by simpa using hlen
  have h2 : ¬ len * (sz + 1) = 0 := Nat.mul_ne_zero (by omega) (by omega)
  simp only [Instr.buildSlice, Sem.run_bind, run_underlying hs.und, Result.andThen_ok, run_sizeOf (P := P) (t := E), if_neg h1, if_neg h2, hzr, Sem.run_pure, hzc, hr, hfill, newRow, newObj]
  simp [Sem.run]
inductive CellsR : List Value → List (List Value) → Prop
  | nil : CellsR [] []
  | cons {v : Value} {xs : List Value} {vals : List Value} {vs : List (List Value)} (h : v.cells = xs.toArray) (k : CellsR vals vs) : CellsR (v :: vals) (xs :: vs)
theorem CellsR.c1 {v u : Value} {vals : List Value} {vs : List (List Value)} (hv : v = u) (hu : u.cells = #[u]) (k : CellsR vals vs) : CellsR (v :: vals) ([u] :: vs) := .cons (by rw [hv, hu]) k
theorem CellsR.cA {v : Value} {xs vals : List Value} {vs : List (List Value)} (hv : v = .agg xs.toArray) (k : CellsR vals vs) : CellsR (v :: vals) (xs :: vs) := .cons (by rw [hv]; rfl) k
theorem CellsR.eq {vals : List Value} {vs : List (List Value)} (h : CellsR vals vs) : vals.map Value.cells = vs.map List.toArray := by
  induction h with
  | nil => rfl
  | cons h k ih => simp [h, ih]
theorem New_buildSliceR {t E : TypeId} [hs : SliceOf P t E] {g' : Bool} {sz bt : Nat} [TySz P E g' (sz + 1) bt] {z : List Value} [TyZero P E z] {len : Nat} {ps : List (Nat × Operand)} {vals : List Value} {vs : List (List Value)}
    (hp : ps.map (·.1) = List.range len) (hq : ps.map (fun p => ev e p.2) = vals) (hc : CellsR vals vs) (hv : vs.all (fun v => v.length == sz + 1) = true) (hlen : len * (sz + 1) ≤ 16777216) (hz : z.length = sz + 1) (h0 : 0 < len) :
    New P e ⟨d, .buildSlice t len ps.toArray, ty, pos, af, g⟩ (.cells vs.flatten.toArray E (0, 0)) (fun b => .slice (some ⟨b, 0, none⟩) len len) := by
  subst hq
  have h1 := hc.eq
  have hl1 : ps.length = len := by have := congrArg List.length hp; simpa using this
  have hl2 : vs.length = len := by have := congrArg List.length h1; simpa [hl1] using this.symm
  refine New_buildSlice (vs := vs) ?_ hl2 hv hlen hz h0
  apply List.ext_getElem
  · simp [hl1, hl2]
  · intro i hi hi'
    have hi1 : i < ps.length := by simpa using hi
    have hi2 : i < vs.length := by omega
    have a1 : (ps.map (·.1))[i]'(by simpa using hi1) = i := by simp [hp]
    have a2 : ((ps.map (fun p => ev e p.2)).map Value.cells)[i]'(by simpa using hi1) = (vs.map List.toArray)[i]'(by simpa using hi2) := by simp only [h1]
    simp only [List.getElem_map, List.getElem_zipIdx] at a1 a2 ⊢
    rw [a1, a2]; simp
end
end Go.Proofs.Ytakmopiceopcpaa
end
