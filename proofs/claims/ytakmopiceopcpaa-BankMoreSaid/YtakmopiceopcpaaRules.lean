/- The rules of single operations. · The rules of the operations' kinds. -/
import Derived.Test.YtakmopiceopcpaaCalc
section
namespace Go.Proofs.Ytakmopiceopcpaa
open Go.RowKit

/-! ## Types -/
def isAggD : TypeDesc → Bool
  | .struct _ => true
  | .array _ _ => true
  | _ => false
class TySz (P : Program) (t : TypeId) (agg : outParam Bool) (n : outParam Nat) (bytes : outParam Nat) : Prop where
  und : (P.underlying t).map isAggD = some agg
  inf : (P.info? t).map (fun i => (i.size, i.bytes)) = some (n, bytes)
class TyZero (P : Program) (t : TypeId) (z : outParam (List Value)) : Prop where
  zero : (P.info? t).bind (fun i => i.zero.map (fun v => v.cells.toList)) = some z
class FieldOff (P : Program) (t : TypeId) (i : Nat) (off : outParam Nat) (ft : outParam TypeId) : Prop where
  fld : ((P.underlying t).bind fun d => match d with | .struct fs => (fs[i]?).map (fun f => (f.offset, f.type)) | _ => none) = some (off, ft)
class SliceOf (P : Program) (t : TypeId) (e : outParam TypeId) : Prop where
  und : P.underlying t = some (.slice e)
class ArrayOf (P : Program) (t : TypeId) (len : outParam Nat) (e : outParam TypeId) : Prop where
  und : P.underlying t = some (.array len e)
class ConcTy (P : Program) (t : TypeId) : Prop where
  und : ((P.underlying t).map fun d => match d with | .interface _ => false | _ => true) = some true
class BoolTy (P : Program) (t : TypeId) : Prop where
  und : P.underlying t = some .bool
class IntTy (P : Program) (t : TypeId) (k : outParam IntKind) : Prop where
  und : P.underlying t = some (.int k)

section
variable {P : Program} {w : World}
theorem run_isAgg {t : TypeId} {g : Bool} {n b : Nat} [h : TySz P t g n b] : (isAgg t).run P w = .ok g w := by
  have := h.und
  cases hu : P.underlying t with
  | none => rw [hu] at this; cases this
  | some d =>
    rw [hu] at this
    simp only [Option.map_some, Option.some.injEq] at this
    subst this
    cases d <;> simp [isAgg, run_underlying hu, isAggD]
theorem run_sizeOf {t : TypeId} {g : Bool} {n b : Nat} [h : TySz P t g n b] : (sizeOf t).run P w = .ok n w := by
  have := h.inf
  cases hu : P.info? t with
  | none => rw [hu] at this; cases this
  | some i =>
    rw [hu] at this
    simp only [Option.map_some, Option.some.injEq, Prod.mk.injEq] at this
    simp [sizeOf, typeInfo, hu, this.1]
theorem run_zeroValue {t : TypeId} {z : List Value} [h : TyZero P t z] : ∃ v, (zeroValue t).run P w = .ok v w ∧ v.cells = z.toArray := by
  have := h.zero
  cases hu : P.info? t with
  | none => rw [hu] at this; cases this
  | some i =>
    rw [hu] at this
    cases hz : i.zero with
    | none => simp [hz] at this
    | some v =>
      simp only [Option.bind_some, hz, Option.map_some, Option.some.injEq] at this
      refine ⟨v, by simp [zeroValue, typeInfo, hu, hz], ?_⟩
      rw [← this]
end

/-! ## Lists of operations -/
def yieldE (ops : Array Oper) (e : Env) (j : Nat) : Option Bool :=
  match (ops[j]?).bind (·.dst) with
  | some d => match e d with
    | .bool b => some b
    | _ => none
  | none => none
theorem yieldE_eq (ops : Array Oper) (a : Act) : yielded ops a.tmps = yieldE ops (envOf a) := by
  funext j
  unfold yielded yieldE
  cases (ops[j]?).bind (·.dst) with
  | none => rfl
  | some d =>
    simp only [Option.bind_some, envOf, Array.getD_eq_getD_getElem?]
    cases h : a.tmps[d]? with
    | none => simp [undef]
    | some v => cases v <;> simp
def isDefer : Op → Bool
  | .defer _ => true
  | _ => false
theorem isDefer_ne {op : Op} (h : isDefer op = false) : ∀ c, op ≠ .defer c := by
  intro c e; subst e; cases h

section
variable {P : Program} {r : Option Nat} {n N : Nat} {w0 : World} {ops : Array Oper} {o : Oper} {rest : List Oper} {Q : Post} {e : Env} {ds : List Deferred} {L : Hp}

theorem OPS_nil (h : Q .normal e ds L) : OPS P r n N w0 ops [] Q e ds L := by
  rintro a w hs rfl rfl hI
  exact ⟨hs, L, hI, h⟩
theorem OPS_skip (hg : Region.wanted o (yieldE ops e) = false) (hd : dstOk n o.dst = true) (h : OPS P r n N w0 ops rest Q (updO e o.dst undef) ds L) :
    OPS P r n N w0 ops (o :: rest) Q e ds L := by
  rintro a w hs rfl rfl hI
  unfold wpListIn
  rw [yieldE_eq, if_neg (by rw [hg]; simp)]
  exact ⟨fun f _ => FW_fn r f, h _ _ (size_put.trans hs) (envOf_put hs hd) defers_put hI⟩
theorem OPS_gen (hg : Region.wanted o (yieldE ops e) = true) (hnd : isDefer o.op = false)
    (h : ∀ a w, a.tmps.size = n → envOf a = e → a.defers = ds → Inv N w0 L w → o.uponIn (FW r) 0 P a (wpListIn (FW r) 0 P ops (PostA n N w0 Q) rest) (PostA n N w0 Q) ((execOp (ev e) o).run P w)) :
    OPS P r n N w0 ops (o :: rest) Q e ds L := by
  rintro a w hs rfl rfl hI
  unfold wpListIn
  rw [yieldE_eq, if_pos hg]
  refine ⟨fun f _ => FW_fn r f, ?_⟩
  rw [Oper.semAt_eq _ _ _ (isDefer_ne hnd), eval_eq]
  exact h a w hs rfl rfl hI
/-- A Bool in a slot, parted. -/
theorem OPS_split {l : List Oper} (d : Nat) {t : Bool} (hd : e d = .bool t) (h1 : t = true → OPS P r n N w0 ops l Q (upd e d (.bool true)) ds L) (h2 : t = false → OPS P r n N w0 ops l Q (upd e d (.bool false)) ds L) :
    OPS P r n N w0 ops l Q e ds L := by
  have : upd e d (.bool t) = e := by
    funext k
    unfold upd
    cases hb : Nat.beq k d with
    | false => rfl
    | true => have := Nat.eq_of_beq_eq_true hb; subst this; exact hd.symm
  cases t with
  | true => have := h1 rfl; rwa [‹upd e d _ = e›] at this
  | false => have := h2 rfl; rwa [‹upd e d _ = e›] at this

/-- The Bool that guards the operation, parted. -/
theorem OPS_splitG {j d : Nat} {want t : Bool} (hg : o.guard = some (j, want)) (hj : (ops[j]?).bind (·.dst) = some d) (hd : e d = .bool t)
    (h1 : t = true → OPS P r n N w0 ops (o :: rest) Q (upd e d (.bool true)) ds L) (h2 : t = false → OPS P r n N w0 ops (o :: rest) Q (upd e d (.bool false)) ds L) :
    OPS P r n N w0 ops (o :: rest) Q e ds L := by
  have _ := hg
  have _ := hj
  exact OPS_split d hd h1 h2

/-- One value, the world as it was. -/
def Val (P : Program) (N : Nat) (w0 : World) (L : Hp) (e : Env) (o : Oper) (v : Value) : Prop := ∀ w, Inv N w0 L w → (execOp (ev e) o).run P w = .ok (.value v) w
theorem Val.wk {L' : Hp} {v : Value} (h : Val P N w0 L' e o v) (k : Wk L L') : Val P N w0 L e o v := fun w hI => h w (hI.wk k)

theorem OPS_val {v : Value} (hv : Val P N w0 L e o v) (hg : Region.wanted o (yieldE ops e) = true) (hnd : isDefer o.op = false) (hd : dstOk n o.dst = true)
    (h : OPS P r n N w0 ops rest Q (updO e o.dst v) ds L) : OPS P r n N w0 ops (o :: rest) Q e ds L := by
  refine OPS_gen hg hnd fun a w hs he hd' hI => ?_
  rw [hv w hI]
  subst he
  exact h _ _ (size_put.trans hs) (envOf_put hs hd) (defers_put.trans hd') hI
/-- A new block. -/
def New (P : Program) (e : Env) (o : Oper) (obj : Obj) (mk : Nat → Value) : Prop := ∀ w, (execOp (ev e) o).run P w = .ok (.value (mk w.heap.size)) (w.alloc obj)
theorem OPS_new {obj : Obj} {mk : Nat → Value} {φ : Obj → Prop} (hφ : φ obj) (hv : New P e o obj mk) (hg : Region.wanted o (yieldE ops e) = true) (hnd : isDefer o.op = false) (hd : dstOk n o.dst = true)
    (h : ∀ b, OPS P r n N w0 ops rest Q (updO e o.dst (mk b)) ds ((b, φ) :: L)) : OPS P r n N w0 ops (o :: rest) Q e ds L := by
  refine OPS_gen hg hnd fun a w hs he hd' hI => ?_
  rw [hv w]
  subst he
  exact h _ _ _ (size_put.trans hs) (envOf_put hs hd) (defers_put.trans hd') (hI.alloc hφ)
/-- One block turned. -/
def Turn (P : Program) (N : Nat) (w0 : World) (L : Hp) (e : Env) (o : Oper) (L' : Hp) : Prop := ∀ w, Inv N w0 L w → ∃ w', (execOp (ev e) o).run P w = .ok .skip w' ∧ Inv N w0 L' w'
theorem OPS_turn {L' : Hp} (hv : Turn P N w0 L e o L') (hg : Region.wanted o (yieldE ops e) = true) (hnd : isDefer o.op = false) (hd : dstOk n o.dst = true)
    (h : OPS P r n N w0 ops rest Q (updO e o.dst undef) ds L') : OPS P r n N w0 ops (o :: rest) Q e ds L := by
  refine OPS_gen hg hnd fun a w hs he hd' hI => ?_
  obtain ⟨w', hr, hI'⟩ := hv w hI
  rw [hr]
  subst he
  exact h _ _ (size_put.trans hs) (envOf_put hs hd) (defers_put.trans hd') hI'
/-- Whatever comes out. -/
theorem OPS_any {K : Value → Hp → Prop} (hv : ∀ w, Inv N w0 L w → ∃ v w' L', (execOp (ev e) o).run P w = .ok (.value v) w' ∧ Inv N w0 L' w' ∧ K v L') (hg : Region.wanted o (yieldE ops e) = true) (hnd : isDefer o.op = false) (hd : dstOk n o.dst = true)
    (h : ∀ v L', K v L' → OPS P r n N w0 ops rest Q (updO e o.dst v) ds L') : OPS P r n N w0 ops (o :: rest) Q e ds L := by
  refine OPS_gen hg hnd fun a w hs he hd' hI => ?_
  obtain ⟨v, w', L', hr, hI', hk⟩ := hv w hI
  rw [hr]
  subst he
  exact h v L' hk _ _ (size_put.trans hs) (envOf_put hs hd) (defers_put.trans hd') hI'

/-! ## Calls -/
/-- A call of f from a world that owns L: how it ends, and what is owned then. -/
def Tri (P : Program) (N : Nat) (w0 : World) (L : Hp) (f : FuncId) (args : Array Value) (R : Ending → Hp → Prop) : Prop :=
  ∀ w, Inv N w0 L w → Calls P f args w fun x w' => ∃ L', Inv N w0 L' w' ∧ R x L'
/-- It returns v, and owns what it owned. -/
def Ret (P : Program) (N : Nat) (w0 : World) (L : Hp) (f : FuncId) (args : Array Value) (v : Value) : Prop := Tri P N w0 L f args fun x L' => x = .returned v ∧ L' = L
theorem Tri.mono {f : FuncId} {args : Array Value} {R R' : Ending → Hp → Prop} (h : Tri P N w0 L f args R) (hr : ∀ x L', R x L' → R' x L') : Tri P N w0 L f args R' :=
  fun w hI => (h w hI).mono fun _ _ ⟨L', h1, h2⟩ => ⟨L', h1, hr _ _ h2⟩
theorem Tri.wk {f : FuncId} {args : Array Value} {R : Ending → Hp → Prop} {L' : Hp} (h : Tri P N w0 L' f args R) (k : Wk L L') : Tri P N w0 L f args R :=
  fun w hI => h w (hI.wk k)

/-- The operation enters f at these arguments. -/
def Enters (P : Program) (e : Env) (o : Oper) (f : FuncId) (args : Array Value) : Prop := ∀ w, (execOp (ev e) o).run P w = .ok (.enter f args) w

theorem OPS_call {f : FuncId} {args : Array Value} {R : Ending → Hp → Prop} (hv : Enters P e o f args) (hc : Tri P N w0 L f args R) (hg : Region.wanted o (yieldE ops e) = true) (hnd : isDefer o.op = false) (hd : dstOk n o.dst = true)
    (hret : ∀ v L', R (.returned v) L' → OPS P r n N w0 ops rest Q (updO e o.dst v) ds L') (hpan : ∀ ch L', R (.panicked ch) L' → Q (.panic ch) e ds L') (hout : ∀ L', ¬ R .outgrown L') :
    OPS P r n N w0 ops (o :: rest) Q e ds L := by
  refine OPS_gen hg hnd fun a w hs he hd' hI => ?_
  rw [hv w]
  refine ⟨fun h => (by rw [FW_depth] at h; cases h), callsFW.2 ((hc w hI).mono ?_)⟩
  subst he
  rintro x w' ⟨L', hI', hR⟩
  cases x with
  | returned v => exact hret v L' hR _ _ (size_put.trans hs) (envOf_put hs hd) (defers_put.trans hd') hI'
  | panicked ch => exact ⟨hs, L', hI', by rw [hd']; exact hpan ch L' hR⟩
  | outgrown => exact absurd hR (hout L')
theorem OPS_ret {f : FuncId} {args : Array Value} {v : Value} (hv : Enters P e o f args) (hc : Ret P N w0 L f args v) (hg : Region.wanted o (yieldE ops e) = true) (hnd : isDefer o.op = false) (hd : dstOk n o.dst = true)
    (h : OPS P r n N w0 ops rest Q (updO e o.dst v) ds L) : OPS P r n N w0 ops (o :: rest) Q e ds L :=
  OPS_call hv hc hg hnd hd (fun v' L' hR => by obtain ⟨h1, rfl⟩ := hR; injection h1 with h1; subst h1; exact h) (fun ch L' hR => by obtain ⟨h1, _⟩ := hR; cases h1) (fun L' hR => by obtain ⟨h1, _⟩ := hR; cases h1)
/-- What it returns is known by K alone. -/
theorem OPS_retK {f : FuncId} {args : Array Value} {K : Value → Hp → Prop} (hv : Enters P e o f args) (hc : Tri P N w0 L f args fun x L' => ∃ v, x = .returned v ∧ K v L') (hg : Region.wanted o (yieldE ops e) = true) (hnd : isDefer o.op = false) (hd : dstOk n o.dst = true)
    (h : ∀ v L', K v L' → OPS P r n N w0 ops rest Q (updO e o.dst v) ds L') : OPS P r n N w0 ops (o :: rest) Q e ds L :=
  OPS_call hv hc hg hnd hd (fun v' L' hR => by obtain ⟨v, h1, h2⟩ := hR; injection h1 with h1; subst h1; exact h _ _ h2) (fun ch L' hR => by obtain ⟨_, h1, _⟩ := hR; cases h1) (fun L' hR => by obtain ⟨_, h1, _⟩ := hR; cases h1)

theorem OPS_panic {v : Value} (hv : ∀ w, (execOp (ev e) o).run P w = .halt (.panic v) w) (hg : Region.wanted o (yieldE ops e) = true) (hnd : isDefer o.op = false)
    (h : Q (.panic [{ v, recovered := false }]) e ds L) : OPS P r n N w0 ops (o :: rest) Q e ds L := by
  refine OPS_gen hg hnd fun a w hs he hd' hI => ?_
  rw [hv w]
  subst he
  exact ⟨hs, L, hI, by rw [hd']; exact h⟩
end

/-! ## A function's body -/
section
variable {P : Program} {N : Nat} {w0 : World} {L : Hp}
def argsE (args : List Value) : Env := fun t => args.getD t undef
/-- What the body must come to. -/
def QBody (P : Program) (fn : Func) (N : Nat) (w0 : World) (R : Ending → Hp → Prop) : Post
  | .normal, e, ds, L | .ret, e, ds, L => ds = [] ∧ ∃ v, (∀ a w, envOf a = e → Inv N w0 L w → (results fn a.tmps).run P w = .ok v w) ∧ R (.returned v) L
  | .panic ch, _, ds, L => ds = [] ∧ R (.panicked ch) L
  | _, _, _, _ => False

theorem tri_of_WP {f : FuncId} {fn : Func} {c : Code} {args : List Value} {R : Ending → Hp → Prop} (hf : P.funcs[f]? = some fn) (hb : fn.body = some c) {n : Nat} (hn : fn.ntmps = n) (hle : args.length ≤ n)
    (h : WP P none n N w0 c (QBody P fn N w0 R) (argsE args) [] L) : Tri P N w0 L f args.toArray R := by
  intro w hI
  refine (callsIn_wide (n := 0)).1 (callsIn_of_wp hf hb trivial ?_ rfl)
  have h1 := h { tmps := args.toArray ++ Array.replicate (fn.ntmps - args.toArray.size) undef, defers := [] } w (by simp; omega) ?_ rfl hI
  · refine Go.wpIn_mono h1 ?_
    rintro x a w' ⟨hs, L', hI', hq⟩
    cases x with
    | normal => obtain ⟨hd, v, hr, hR⟩ := hq; exact ⟨hd, v, hr a w' rfl hI', L', hI', hR⟩
    | ret => obtain ⟨hd, v, hr, hR⟩ := hq; exact ⟨hd, v, hr a w' rfl hI', L', hI', hR⟩
    | panic ch => obtain ⟨hd, hR⟩ := hq; exact ⟨hd, L', hI', hR⟩
    | exit id => exact hq.elim
    | goto l => exact hq.elim
    | outgrown => exact hq.elim
  · funext t
    unfold envOf argsE
    simp only [Array.getD_eq_getD_getElem?, List.getD_eq_getElem?_getD]
    by_cases ht : t < args.length
    · rw [Array.getElem?_append_left (by simpa using ht)]; simp
    · rw [Array.getElem?_append_right (by simpa using ht), Array.getElem?_replicate, List.getElem?_eq_none (by omega)]
      split <;> rfl

theorem QBody_ret1 {fn : Func} {R : Ending → Hp → Prop} {e : Env} {t : Nat} {v : Value} (hr : fn.results = #[.tmp t]) (hv : e t = v) (h : R (.returned v) L) : QBody P fn N w0 R .ret e [] L :=
  ⟨rfl, v, fun a w he _ => by subst he; rw [results_tmp hr]; rw [← hv]; rfl, h⟩
theorem QBody_ret0 {fn : Func} {R : Ending → Hp → Prop} {e : Env} (hr : fn.results = #[]) (h : R (.returned (.tuple #[])) L) : QBody P fn N w0 R .ret e [] L :=
  ⟨rfl, _, fun _ _ _ _ => results_none hr _ _ _, h⟩
theorem QBody_end0 {fn : Func} {R : Ending → Hp → Prop} {e : Env} (hr : fn.results = #[]) (h : R (.returned (.tuple #[])) L) : QBody P fn N w0 R .normal e [] L :=
  ⟨rfl, _, fun _ _ _ _ => results_none hr _ _ _, h⟩
theorem QBody_panic {fn : Func} {R : Ending → Hp → Prop} {e : Env} {ch : List PanicEntry} (h : R (.panicked ch) L) : QBody P fn N w0 R (.panic ch) e [] L := ⟨rfl, h⟩
end

/-! ## The same, the slot written out -/
section
variable {P : Program} {r : Option Nat} {n N : Nat} {w0 : World} {ops : Array Oper} {rest : List Oper} {Q : Post} {e : Env} {ds : List Deferred} {L : Hp}
variable {d : Nat} {op : Op} {ty : TypeId} {pos : String} {af : Array Edge} {g : Option (Nat × Bool)}
theorem OPS_valS {v : Value} (hv : Val P N w0 L e ⟨some d, op, ty, pos, af, g⟩ v) (hg : Region.wanted ⟨some d, op, ty, pos, af, g⟩ (yieldE ops e) = true) (hnd : isDefer op = false) (hd : Nat.blt d n = true)
    (h : OPS P r n N w0 ops rest Q (upd e d v) ds L) : OPS P r n N w0 ops (⟨some d, op, ty, pos, af, g⟩ :: rest) Q e ds L := OPS_val hv hg hnd hd h
theorem OPS_newS {obj : Obj} {mk : Nat → Value} {φ : Obj → Prop} (hφ : φ obj) (hv : New P e ⟨some d, op, ty, pos, af, g⟩ obj mk) (hg : Region.wanted ⟨some d, op, ty, pos, af, g⟩ (yieldE ops e) = true) (hnd : isDefer op = false) (hd : Nat.blt d n = true)
    (h : ∀ b, OPS P r n N w0 ops rest Q (upd e d (mk b)) ds ((b, φ) :: L)) : OPS P r n N w0 ops (⟨some d, op, ty, pos, af, g⟩ :: rest) Q e ds L := OPS_new hφ hv hg hnd hd h
theorem OPS_turnN {L' : Hp} (hv : Turn P N w0 L e ⟨none, op, ty, pos, af, g⟩ L') (hg : Region.wanted ⟨none, op, ty, pos, af, g⟩ (yieldE ops e) = true) (hnd : isDefer op = false)
    (h : OPS P r n N w0 ops rest Q e ds L') : OPS P r n N w0 ops (⟨none, op, ty, pos, af, g⟩ :: rest) Q e ds L := OPS_turn hv hg hnd rfl h
theorem OPS_skipS (hg : Region.wanted ⟨some d, op, ty, pos, af, g⟩ (yieldE ops e) = false) (hd : Nat.blt d n = true) (h : OPS P r n N w0 ops rest Q (upd e d undef) ds L) :
    OPS P r n N w0 ops (⟨some d, op, ty, pos, af, g⟩ :: rest) Q e ds L := OPS_skip hg hd h
theorem OPS_retS {f : FuncId} {args : Array Value} {v : Value} (hv : Enters P e ⟨some d, op, ty, pos, af, g⟩ f args) (hc : Ret P N w0 L f args v) (hg : Region.wanted ⟨some d, op, ty, pos, af, g⟩ (yieldE ops e) = true) (hnd : isDefer op = false) (hd : Nat.blt d n = true)
    (h : OPS P r n N w0 ops rest Q (upd e d v) ds L) : OPS P r n N w0 ops (⟨some d, op, ty, pos, af, g⟩ :: rest) Q e ds L := OPS_ret hv hc hg hnd hd h
theorem OPS_retKS {f : FuncId} {args : Array Value} {K : Value → Hp → Prop} (hv : Enters P e ⟨some d, op, ty, pos, af, g⟩ f args) (hc : Tri P N w0 L f args fun x L' => ∃ v, x = .returned v ∧ K v L') (hg : Region.wanted ⟨some d, op, ty, pos, af, g⟩ (yieldE ops e) = true) (hnd : isDefer op = false) (hd : Nat.blt d n = true)
    (h : ∀ v L', K v L' → OPS P r n N w0 ops rest Q (upd e d v) ds L') : OPS P r n N w0 ops (⟨some d, op, ty, pos, af, g⟩ :: rest) Q e ds L := OPS_retK hv hc hg hnd hd h
end
end Go.Proofs.Ytakmopiceopcpaa
end

section
namespace Go.Proofs.Ytakmopiceopcpaa
open Go.RowKit
section
variable {P : Program} {N : Nat} {w0 : World} {L : Hp} {e : Env} {d : Option Nat} {ty : TypeId} {pos : String} {af : Array Edge} {g : Option (Nat × Bool)}

/-! moves -/
theorem Val_move {x : Operand} {v : Value} (h : ev e x = v) : Val P N w0 L e ⟨d, .move x, ty, pos, af, g⟩ v := by
  intro w _; simp [execOp, h]
theorem Val_assign {x : Operand} {v : Value} (h : ev e x = v) : Val P N w0 L e ⟨d, .assign x, ty, pos, af, g⟩ v := by
  intro w _; simp [execOp, h]
theorem Val_pick_t {c a b : Operand} {v : Value} (hc : ev e c = .bool true) (h : ev e a = v) : Val P N w0 L e ⟨d, .pick c a b, ty, pos, af, g⟩ v := by
  intro w _; simp [execOp, hc, h, asBool]
theorem Val_pick_f {c a b : Operand} {v : Value} (hc : ev e c = .bool false) (h : ev e b = v) : Val P N w0 L e ⟨d, .pick c a b, ty, pos, af, g⟩ v := by
  intro w _; simp [execOp, hc, h, asBool]
theorem Val_nilCheck_p {x : Operand} {a : Addr} (h : ev e x = .pointer (some a)) : Val P N w0 L e ⟨d, .nilCheck x, ty, pos, af, g⟩ (.pointer (some a)) := by
  intro w _; simp [execOp, h]
theorem Val_nilCheck_f {x : Operand} {f : FuncId} {a b : Array Value} (h : ev e x = .func (.func f) a b) : Val P N w0 L e ⟨d, .nilCheck x, ty, pos, af, g⟩ (.func (.func f) a b) := by
  intro w _; simp [execOp, h]
theorem Val_extract {x : Operand} {i : Nat} {l : List Value} {v : Value} (h : ev e x = .tuple l.toArray) (hi : l[i]? = some v) : Val P N w0 L e ⟨d, .extract x i, ty, pos, af, g⟩ v := by
  intro w _; simp [execOp, h, Instr.extract, hi]
theorem Val_makeFunc {fn : Fn} {a b : List Operand} : Val P N w0 L e ⟨d, .makeFunc fn a.toArray b.toArray, ty, pos, af, g⟩ (.func fn (a.map (ev e)).toArray (b.map (ev e)).toArray) := by
  intro w _; simp [execOp, Instr.makeFunc]
theorem Val_makeInterface {t : TypeId} [hc : ConcTy P t] {x : Operand} {v : Value} (h : ev e x = v) :
    Val P N w0 L e ⟨d, .makeInterface t x, ty, pos, af, g⟩ (.iface t v) := by
  intro w _
  have hu := hc.und
  cases hd : P.underlying t with
  | none => rw [hd] at hu; cases hu
  | some td =>
    rw [hd] at hu
    cases td <;> first | (simp [execOp, h, Instr.makeInterface, run_underlying hd]; done) | (simp at hu)

/-! integers -/
def InK (k : IntKind) (m : Int) : Prop := k.wrap m = m
theorem InK_i64 {m : Int} (h1 : -9223372036854775808 ≤ m) (h2 : m ≤ 9223372036854775807) : InK .i64 m := by
  unfold InK; exact IntWalk.i64_in _ ⟨h1, h2⟩
theorem Val_add {x y : Operand} {t t' : TypeId} {k : IntKind} {m n : Int} (hx : ev e x = .int k m) (hy : ev e y = .int k n) (h : InK k (m + n)) : Val P N w0 L e ⟨d, .binOp .add t x y t', ty, pos, af, g⟩ (.int k (m + n)) := by
  intro w _; unfold InK at h; simp [execOp, hx, hy, binOp, Op.intArith, eqGuard, h]
theorem Val_sub {x y : Operand} {t t' : TypeId} {k : IntKind} {m n : Int} (hx : ev e x = .int k m) (hy : ev e y = .int k n) (h : InK k (m - n)) : Val P N w0 L e ⟨d, .binOp .sub t x y t', ty, pos, af, g⟩ (.int k (m - n)) := by
  intro w _; unfold InK at h; simp [execOp, hx, hy, binOp, Op.intArith, eqGuard, h]
theorem Val_mul {x y : Operand} {t t' : TypeId} {k : IntKind} {m n : Int} (hx : ev e x = .int k m) (hy : ev e y = .int k n) (h : InK k (m * n)) : Val P N w0 L e ⟨d, .binOp .mul t x y t', ty, pos, af, g⟩ (.int k (m * n)) := by
  intro w _; unfold InK at h; simp [execOp, hx, hy, binOp, Op.intArith, eqGuard, h]
theorem Val_rem {x y : Operand} {t t' : TypeId} {k : IntKind} {m n : Int} (hx : ev e x = .int k m) (hy : ev e y = .int k n) (h0 : n ≠ 0) : Val P N w0 L e ⟨d, .binOp .rem t x y t', ty, pos, af, g⟩ (.int k (m.tmod n)) := by
  intro w _; simp [execOp, hx, hy, binOp, Op.intDiv, eqGuard, h0]
theorem Val_bits {x y : Operand} {t t' : TypeId} {k : IntKind} {m n : Int} {op : BinOp} {v : Value} (hx : ev e x = .int k m) (hy : ev e y = .int k n)
    (ho : (match op with | .and | .or | .xor | .andNot => true | _ => false) = true) (hv : ∀ w, (Op.intBits op k m n).run P w = .ok v w) : Val P N w0 L e ⟨d, .binOp op t x y t', ty, pos, af, g⟩ v := by
  intro w _
  cases op <;> simp at ho <;> simp [execOp, hx, hy, binOp, eqGuard, hv]
theorem Val_shift {x y : Operand} {t t' : TypeId} {k k' : IntKind} {m n : Int} {op : BinOp} {v : Value} (hx : ev e x = .int k m) (hy : ev e y = .int k' n)
    (ho : (match op with | .shl | .shr => true | _ => false) = true) (hv : ∀ w, (Op.shift op k m k' n).run P w = .ok v w) : Val P N w0 L e ⟨d, .binOp op t x y t', ty, pos, af, g⟩ v := by
  intro w _
  cases op <;> simp at ho <;> simp [execOp, hx, hy, binOp, eqGuard, hv]
theorem Val_eql {x y : Operand} {t t' : TypeId} {k : IntKind} {m n : Int} (hx : ev e x = .int k m) (hy : ev e y = .int k n) : Val P N w0 L e ⟨d, .binOp .eql t x y t', ty, pos, af, g⟩ (.bool (m == n)) := by
  intro w _; simp [execOp, hx, hy, binOp, Op.intCmp, eqGuard]
theorem Val_neq {x y : Operand} {t t' : TypeId} {k : IntKind} {m n : Int} (hx : ev e x = .int k m) (hy : ev e y = .int k n) : Val P N w0 L e ⟨d, .binOp .neq t x y t', ty, pos, af, g⟩ (.bool (m != n)) := by
  intro w _; simp [execOp, hx, hy, binOp, Op.intCmp, eqGuard]
theorem Val_lss {x y : Operand} {t t' : TypeId} {k : IntKind} {m n : Int} (hx : ev e x = .int k m) (hy : ev e y = .int k n) : Val P N w0 L e ⟨d, .binOp .lss t x y t', ty, pos, af, g⟩ (.bool (decide (m < n))) := by
  intro w _; simp [execOp, hx, hy, binOp, Op.intCmp, eqGuard]
theorem Val_leq {x y : Operand} {t t' : TypeId} {k : IntKind} {m n : Int} (hx : ev e x = .int k m) (hy : ev e y = .int k n) : Val P N w0 L e ⟨d, .binOp .leq t x y t', ty, pos, af, g⟩ (.bool (decide (m ≤ n))) := by
  intro w _; simp [execOp, hx, hy, binOp, Op.intCmp, eqGuard]
theorem Val_gtr {x y : Operand} {t t' : TypeId} {k : IntKind} {m n : Int} (hx : ev e x = .int k m) (hy : ev e y = .int k n) : Val P N w0 L e ⟨d, .binOp .gtr t x y t', ty, pos, af, g⟩ (.bool (decide (n < m))) := by
  intro w _; simp [execOp, hx, hy, binOp, Op.intCmp, eqGuard]
theorem Val_geq {x y : Operand} {t t' : TypeId} {k : IntKind} {m n : Int} (hx : ev e x = .int k m) (hy : ev e y = .int k n) : Val P N w0 L e ⟨d, .binOp .geq t x y t', ty, pos, af, g⟩ (.bool (decide (n ≤ m))) := by
  intro w _; simp [execOp, hx, hy, binOp, Op.intCmp, eqGuard]
theorem run_equalIn_bool (w : World) (d : Nat) {t : TypeId} [hb : BoolTy P t] (m n : Bool) : (Op.equalIn (d + 1) t (.bool m) (.bool n)).run P w = .ok (m == n) w := by
  simp [Op.equalIn, run_underlying hb.und]
theorem run_equal_bool (w : World) {t : TypeId} [hb : BoolTy P t] (m n : Bool) : (Op.equal t (.bool m) (.bool n)).run P w = .ok (m == n) w := by
  unfold Op.equal Op.maxDepth; exact run_equalIn_bool w 9999 m n
theorem Val_eqlB {x y : Operand} {t t' : TypeId} [hb : BoolTy P t] {m n : Bool} (hx : ev e x = .bool m) (hy : ev e y = .bool n) : Val P N w0 L e ⟨d, .binOp .eql t x y t', ty, pos, af, g⟩ (.bool (m == n)) := by
  intro w _; simp [execOp, hx, hy, binOp, eqGuard, run_equal_bool]
theorem Val_not {x : Operand} {t : TypeId} {m : Bool} (hx : ev e x = .bool m) : Val P N w0 L e ⟨d, .unOp .not t x, ty, pos, af, g⟩ (.bool (!m)) := by
  intro w _; simp [execOp, hx, Op.unary]
theorem Val_convert {x : Operand} {s t : TypeId} {k k' : IntKind} {m : Int} [h1 : IntTy P s k] [h2 : IntTy P t k'] (hx : ev e x = .int k m) (h : InK k' m) : Val P N w0 L e ⟨d, .convert s t x, ty, pos, af, g⟩ (.int k' m) := by
  intro w _; unfold InK at h; simp [execOp, hx, convert, run_underlying h1.und, run_underlying h2.und, Conv.intToInt, h]
theorem Val_len {x : Operand} {t : TypeId} {E : TypeId} [h : SliceOf P t E] {a : Option Addr} {m c : Nat} (hx : ev e x = .slice a m c) : Val P N w0 L e ⟨d, .call { callee := .builtin .len, args := #[x], argTypes := #[t] }, ty, pos, af, g⟩ (.int .i64 m) := by
  intro w _; simp [execOp, resolve, invoke, builtin, hx, Builtin.len_, run_underlying h.und, goInt]
theorem Val_min {x y : Operand} {ts : Array TypeId} {k : IntKind} {m n : Int} (hx : ev e x = .int k m) (hy : ev e y = .int k n) : Val P N w0 L e ⟨d, .call { callee := .builtin .min, args := #[x, y], argTypes := ts }, ty, pos, af, g⟩ (.int k (min m n)) := by
  intro w _
  have : (if n < m then n else m) = min m n := by rw [Int.min_def]; split <;> split <;> omega
  simp [execOp, resolve, invoke, builtin, hx, hy, Builtin.min_, Builtin.min2, this]
theorem Val_max {x y : Operand} {ts : Array TypeId} {k : IntKind} {m n : Int} (hx : ev e x = .int k m) (hy : ev e y = .int k n) : Val P N w0 L e ⟨d, .call { callee := .builtin .max, args := #[x, y], argTypes := ts }, ty, pos, af, g⟩ (.int k (max m n)) := by
  intro w _
  have : (if m < n then n else m) = max m n := by rw [Int.max_def]; split <;> split <;> omega
  simp [execOp, resolve, invoke, builtin, hx, hy, Builtin.max_, Builtin.max2, this]
end
end Go.Proofs.Ytakmopiceopcpaa
end
