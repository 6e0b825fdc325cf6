/- More rules: deferring, panics of callees, type assertions, bits, indices, made slices, kept maps. -/
import Derived.Test.YtakmopiceopcpaaLeave
import Derived.DeepKeys3
import Derived.Stop.IfaceNil
section
namespace Go.Proofs.Ytakmopiceopcpaa
open Go.RowKit

structure Shr (T : Prop) : Prop where
  out : T
theorem shr {T G : Prop} (m : Shr T → G) (c : T) : G := m ⟨c⟩
theorem svV_cells {s : Option (Nat × Nat)} {k : Nat} : (svV s k).cells = [svV s k].toArray := by cases s <;> rfl
theorem svV_ones {s : Option (Nat × Nat)} {k : Nat} : ones [svV s k] = true := by cases s <;> rfl
theorem isIn_all {ws ws' : List Nat} (h : (ws'.all fun p => isIn p ws) = true) {t : Nat} (ht : isIn t ws = false) : isIn t ws' = false := by
  induction ws' with
  | nil => rfl
  | cons s ws' ih =>
    simp only [List.all_cons, Bool.and_eq_true] at h
    unfold isIn
    cases hb : Nat.beq t s with
    | false => exact ih h.2
    | true =>
      have := Nat.eq_of_beq_eq_true hb
      rw [← this, ht] at h; cases h.1
theorem Off.frameT {ws ws' : List Nat} {base base' : Env} {sl : List (Nat × Value)} {j : Env} (h : (sl.all fun p => isIn p.1 ws) = true) (hs : (ws'.all fun p => isIn p ws) = true) (k : Off ws base' base) : Off ws (Ytakmopiceopcpaa.frame ws' base' sl j) base := by
  intro t ht
  unfold Ytakmopiceopcpaa.frame
  rw [look1_in h ht, isIn_all hs ht]
  exact k t ht
/-! ## What lies in a heap, whatever else does -/
theorem Ret.sub {P : Program} {N : Nat} {w0 : World} {B L : Hp} {f : FuncId} {args : Array Value} {v : Value} (hs : Sub B L) (h : ∀ L0, Ret P N w0 (B ++ L0) f args v) : Ret P N w0 L f args v := by
  obtain ⟨L0, hp⟩ := hs
  intro w hI
  refine (h L0 w (hI.perm hp)).mono ?_
  rintro x w' ⟨L', hI', rfl, rfl⟩
  exact ⟨_, hI'.perm hp.symm, rfl, rfl⟩
theorem Mem.sv {b : Nat} {φ : Obj → Prop} {L : Hp} {E : TypeId} {sz k : Nat} {xs : List Value} {s : Option (Nat × Nat)} (h : Mem b φ L) : Mem b φ (svH E sz k xs s L) := by
  cases s with
  | none => exact h
  | some p => exact .there h
theorem Up.sv {b : Nat} {φ φ' : Obj → Prop} {L L' : Hp} {E : TypeId} {sz k : Nat} {xs : List Value} {s : Option (Nat × Nat)} (h : Up L b φ φ' L') : Up (svH E sz k xs s L) b φ φ' (svH E sz k xs s L') := by
  cases s with
  | none => exact h
  | some p => exact .there h
theorem Sub.sv {B L : Hp} {E : TypeId} {sz k : Nat} {xs : List Value} {s : Option (Nat × Nat)} (h : Sub B L) : Sub B (svH E sz k xs s L) := by
  cases s with
  | none => exact h
  | some p => exact h.cons
theorem Wk.appD {L L' : Hp} (X : Hp) (h : Wk L L') : Wk (X ++ L) L' := (Wk.app X L).trans h
/-- What a growing slice shows. -/
theorem sv_slice {E : TypeId} {sz n : Nat} {xs : List Value} {s : Option (Nat × Nat)} (hs : svOk s sz n xs) :
    ∃ A c, svV s n = .slice A n c ∧ ∀ {N : Nat} {w0 : World} {L : Hp} {w : World}, Inv N w0 (svH E sz n xs s L) w → ∀ j u, xs[j]? = some u → ∃ b, A = some ⟨b, 0, none⟩ ∧ b < w.heap.size ∧ w.cell? ⟨b, j, none⟩ = some u := by
  cases s with
  | none =>
    have h0 := hs.2 rfl
    subst h0
    refine ⟨none, 0, rfl, ?_⟩
    intro N w0 L w _ j u hj
    have : xs = [] := List.eq_nil_of_length_eq_zero (by simpa using hs.1)
    subst this; simp at hj
  | some p =>
    obtain ⟨b, cap⟩ := p
    refine ⟨some ⟨b, 0, none⟩, cap, rfl, ?_⟩
    intro N w0 L w hI j u hj
    obtain ⟨hb, o, ho, cur, rfl, h1, h2, h3, h4⟩ := hI.own _ (List.mem_cons_self)
    refine ⟨b, rfl, (Array.getElem?_eq_some_iff.1 ho).1, ?_⟩
    rw [cell_of_row w b j cur E (0, 0) ho]
    have hlt : j < xs.length := (List.getElem?_eq_some_iff.1 hj).1
    have h5 : (cur.toList.take (n * sz))[j]? = some u := by rw [h4]; exact hj
    rw [List.getElem?_take] at h5
    split at h5
    · simpa using h5
    · cases h5
theorem Wk.sv {L L' : Hp} {E : TypeId} {sz k : Nat} {xs : List Value} {s : Option (Nat × Nat)} (h : Wk L L') : Wk (svH E sz k xs s L) (svH E sz k xs s L') := by
  cases s with
  | none => exact h
  | some p => exact .keep1 h
theorem Wk.svD {L L' : Hp} {E : TypeId} {sz k : Nat} {xs : List Value} {s : Option (Nat × Nat)} (h : Wk L L') : Wk (svH E sz k xs s L) L' := by
  cases s with
  | none => exact h
  | some p => exact .drop h
/-- Known up to what is forgotten. -/
theorem Tri.fgt {P : Program} {N : Nat} {w0 : World} {L : Hp} {f : FuncId} {args : Array Value} {R : Ending → Hp → Prop} (h : Tri P N w0 L f args fun x L' => ∃ L'', Wk L' L'' ∧ R x L'') : Tri P N w0 L f args R := by
  intro w hI
  refine (h w hI).mono ?_
  rintro x w' ⟨L', hI', L'', hk, hR⟩
  exact ⟨L'', hI'.wk hk, hR⟩
theorem Tri.perm {P : Program} {N : Nat} {w0 : World} {L L2 : Hp} {f : FuncId} {args : Array Value} {R : Ending → Hp → Prop} (h : Tri P N w0 L2 f args R) (hp : L.Perm L2) : Tri P N w0 L f args R := fun w hI => h w (hI.perm hp)
/-- From what lies there now: all of it stays as it is. -/
theorem Inv.at_ {N : Nat} {w0 w : World} {L : Hp} (_ : Inv N w0 L w) : Inv w.heap.size w [] w := ⟨Below.refl _ w, Nat.le_refl _, .nil, fun _ h => by cases h⟩
theorem Inv.on {N : Nat} {w0 w w' : World} {L L' : Hp} (h : Inv N w0 L w) (h' : Inv w.heap.size w L' w') : Inv N w0 L w' :=
  ⟨h.below.trans (h'.below.mono h.big), Nat.le_trans h.big h'.below.size, h.dis, fun x hx => by
    obtain ⟨h1, o, ho, hφ⟩ := h.own x hx
    exact ⟨h1, o, (h'.below.block _ (h.lt hx)).trans ho, hφ⟩⟩
theorem Ret.re {P : Program} {N : Nat} {w0 : World} {L : Hp} {f : FuncId} {args : Array Value} {v : Value} (h : ∀ w, Inv N w0 L w → Ret P w.heap.size w [] f args v) : Ret P N w0 L f args v := by
  intro w hI
  refine (h w hI w hI.at_).mono ?_
  rintro x w' ⟨L', hI', rfl, rfl⟩
  exact ⟨L, hI.on hI', rfl, rfl⟩
theorem Tri.re {P : Program} {N : Nat} {w0 : World} {L : Hp} {f : FuncId} {args : Array Value} {K : Ending → Prop} (h : ∀ w, Inv N w0 L w → Tri P w.heap.size w [] f args fun x _ => K x) : Tri P N w0 L f args fun x L' => K x ∧ L' = L := by
  intro w hI
  refine (h w hI w hI.at_).mono ?_
  rintro x w' ⟨L', hI', hK⟩
  exact ⟨L, hI.on hI', hK, rfl⟩

section
variable {P : Program} {r : Option Nat} {n N : Nat} {w0 : World} {L : Hp} {e : Env} {d : Option Nat} {ty : TypeId} {pos : String} {af : Array Edge} {g : Option (Nat × Bool)} {ops : Array Oper} {rest : List Oper} {Q : Post} {ds : List Deferred}
variable {o : Oper}
theorem OPS_pan {f : FuncId} {args : Array Value} {ch : List PanicEntry} {L1 : Hp} (hv : Enters P e o f args) (hc : Tri P N w0 L f args fun x L' => x = .panicked ch ∧ L' = L1) (hg : Region.wanted o (yieldE ops e) = true) (hnd : isDefer o.op = false)
    (h : Q (.panic ch) e ds L1) : OPS P r n N w0 ops (o :: rest) Q e ds L := by
  refine OPS_gen hg hnd fun a w hs he hd' hI => ?_
  rw [hv w]
  refine ⟨fun h => (by rw [FW_depth] at h; cases h), callsFW.2 ((hc w hI).mono ?_)⟩
  subst he
  rintro x w' ⟨L', hI', rfl, rfl⟩
  exact ⟨hs, _, hI', by rw [hd']; exact h⟩

theorem OPS_defer {x : Operand} {f : FuncId} {cc : List Value} (hx : ev e x = .func (.func f) #[] cc.toArray)
    (h : OPS P none n N w0 ops rest Q e ({ target := .fn (.func f) cc.toArray, args := #[] } :: ds) L) :
    OPS P none n N w0 ops (⟨none, .defer { callee := .value x, args := #[], argTypes := #[] }, ty, pos, af, none⟩ :: rest) Q e ds L := by
  rintro a w hs rfl rfl hI
  unfold wpListIn
  rw [if_pos (show Region.wanted (⟨none, .defer { callee := .value x, args := #[], argTypes := #[] }, ty, pos, af, none⟩ : Oper) (yielded ops a.tmps) = true from rfl)]
  refine ⟨fun f _ => FW_fn none f, ?_⟩
  have hx' : a.eval x = .func (.func f) #[] cc.toArray := by rw [eval_eq]; exact hx
  rw [show (FW none).round = none from rfl, Oper.semAt_none]
  have : (execOp a.eval ⟨none, .defer { callee := .value x, args := #[], argTypes := #[] }, ty, pos, af, none⟩).run P w = .ok (.defer { target := .fn (.func f) cc.toArray, args := #[] }) w := by
    simp [execOp, resolve, hx', Deferred.ofValue]
  rw [this]
  exact h { a with defers := { target := .fn (.func f) cc.toArray, args := #[] } :: a.defers } w hs rfl rfl hI

theorem Val_typeAssert {x : Operand} {s t : TypeId} [hc : ConcTy P t] {v : Value} (hx : ev e x = .iface t v) : Val P N w0 L e ⟨d, .typeAssert x s t true, ty, pos, af, g⟩ (.tuple [v, .bool true].toArray) := by
  intro w _
  have := hc.und
  cases hu : P.underlying t with
  | none => rw [hu] at this; cases this
  | some td =>
    rw [hu] at this
    cases td <;> simp at this <;> simp [execOp, hx, Instr.typeAssert, run_underlying hu]
class IfaceTy (P : Program) (t : TypeId) : Prop where
  is : P.isIface t = true
theorem Val_eqlNil0 {x : Operand} {t t' : TypeId} [hi : IfaceTy P t] (hx : ev e x = .nilIface) : Val P N w0 L e ⟨d, .binOp .eql t x (.const .nilIface) t', ty, pos, af, g⟩ (.bool true) := by
  intro w _
  have := run_eql_nil_nil_at w t hi.is
  have hy : ev e (.const .nilIface) = .nilIface := rfl
  simp [execOp, hx, hy, eqGuard, this]
theorem Val_eqlNil1 {x : Operand} {t t' u : TypeId} {v : Value} [hi : IfaceTy P t] (hx : ev e x = .iface u v) : Val P N w0 L e ⟨d, .binOp .eql t x (.const .nilIface) t', ty, pos, af, g⟩ (.bool false) := by
  intro w _
  have := run_eql_iface_nil w t hi.is u v
  have hy : ev e (.const .nilIface) = .nilIface := rfl
  simp [execOp, hx, hy, eqGuard, this]

/-! aggregates of whole numbers -/
class KeyTy (P : Program) (t : TypeId) (ks : outParam (List IntKind)) : Prop where
  dt : P.keyTypeAt 6 t = true
  wide : (match P.underlying t with | some (.array _ _) | some (.struct _) => true | _ => false) = true
  sz : P.cellsOf t = ks.length
  ls : ∀ is : List Int, is.length = ks.length → (∀ p ∈ ks.zip is, (Lit.int p.1 p.2).wf = true) → P.keyLits 6 t ((ks.zip is).map fun p => .int p.1 p.2) = some ((ks.zip is).map fun p => .int p.1 p.2)
  ng : P.eqGuardType P.depth t = false
def intsV (ks : List IntKind) (is : List Int) : Value := .agg ((ks.zip is).map fun p => .int p.1 p.2).toArray
def inKs (ks : List IntKind) (is : List Int) : Prop := is.length = ks.length ∧ ∀ p ∈ ks.zip is, (Lit.int p.1 p.2).wf = true
theorem zip_inj {ks : List IntKind} : ∀ {a b : List Int}, a.length = ks.length → b.length = ks.length → ((ks.zip a).map fun p => Lit.int p.1 p.2) = ((ks.zip b).map fun p => Lit.int p.1 p.2) → a = b := by
  induction ks with
  | nil => intro a b ha hb _; simp at ha hb; simp [ha, hb]
  | cons k ks ih =>
    intro a b ha hb h
    match a, b, ha, hb with
    | x :: a, y :: b, ha, hb =>
      simp only [List.zip_cons_cons, List.map_cons, List.cons.injEq, Lit.int.injEq, true_and] at h
      rw [h.1, ih (by simpa using ha) (by simpa using hb) h.2]
theorem intsV_formed {t : TypeId} {ks : List IntKind} [hk : KeyTy P t ks] {is : List Int} (h : inKs ks is) : (intsV ks is).formed P t = true := by
  unfold intsV Value.formed
  have hw := hk.wide
  have hs : ((ks.zip is).map fun p => Value.int p.1 p.2).length = ks.length := by simp [h.1]
  cases hu : P.underlying t with
  | none => rw [hu] at hw; cases hw
  | some d => rw [hu] at hw; cases d <;> simp at hw <;> simp [hk.sz, h.1]
theorem run_equal_ints {t : TypeId} {ks : List IntKind} [hk : KeyTy P t ks] {a b : List Int} (ha : inKs ks a) (hb : inKs ks b) (w : World) : (Op.equal t (intsV ks a) (intsV ks b)).run P w = .ok (decide (a = b)) w := by
  obtain ⟨r, h1, h2⟩ := run_equalIn_deep (P := P) 9994 6 t hk.dt w 6 6 (intsV ks a) (intsV ks b) _ _ (intsV_formed ha) (intsV_formed hb) (hk.ls a ha.1 ha.2) (hk.ls b hb.1 hb.2)
  have : r = decide (a = b) := by
    by_cases hab : a = b
    · subst hab; simpa using h2
    · have : r ≠ true := fun hr => hab (zip_inj ha.1 hb.1 (h2.1 hr))
      simp [hab, this]
  subst this
  exact h1
theorem Val_eqlI {x y : Operand} {t t' : TypeId} {ks : List IntKind} [hk : KeyTy P t ks] {vx vy : Value} {a b : List Int} (hx : ev e x = vx) (hy : ev e y = vy) (h1 : vx = intsV ks a) (h2 : vy = intsV ks b) (ha : inKs ks a) (hb : inKs ks b) :
    Val P N w0 L e ⟨d, .binOp .eql t x y t', ty, pos, af, g⟩ (.bool (decide (a = b))) := by
  intro w _
  have := run_equal_ints (P := P) (t := t) ha hb w
  have hg := hk.ng
  subst h1 h2
  unfold intsV at hx hy this
  simp [execOp, hx, hy, binOp, eqGuard, hg, this]
theorem Val_neqI {x y : Operand} {t t' : TypeId} {ks : List IntKind} [hk : KeyTy P t ks] {vx vy : Value} {a b : List Int} (hx : ev e x = vx) (hy : ev e y = vy) (h1 : vx = intsV ks a) (h2 : vy = intsV ks b) (ha : inKs ks a) (hb : inKs ks b) :
    Val P N w0 L e ⟨d, .binOp .neq t x y t', ty, pos, af, g⟩ (.bool (!decide (a = b))) := by
  intro w _
  have := run_equal_ints (P := P) (t := t) ha hb w
  have hg := hk.ng
  subst h1 h2
  unfold intsV at hx hy this
  simp [execOp, hx, hy, binOp, eqGuard, hg, this]

/-! bits -/
theorem wrap_nat {k : IntKind} (hk : k.signed = false) {m : Nat} (h : m < 2 ^ k.bits) : k.wrap (m : Int) = m := by
  unfold IntKind.wrap
  simp only [hk]
  have : ((m : Int) % 2 ^ k.bits) = m := Int.emod_eq_of_lt (by omega) (by exact_mod_cast h)
  simp [this]
theorem Val_shr {x y : Operand} {t t' : TypeId} {k k' : IntKind} {a i : Nat} (hx : ev e x = .int k (a : Int)) (hy : ev e y = .int k' (i : Int)) (hi : i ≤ k.bits) :
    Val P N w0 L e ⟨d, .binOp .shr t x y t', ty, pos, af, g⟩ (.int k ((a / 2 ^ i : Nat) : Int)) := by
  refine Val_shift hx hy rfl fun w => ?_
  have h1 : ¬ ((i : Int) < 0) := by omega
  have h2 : min (i : Int).toNat k.bits = i := by simp; omega
  simp only [Op.shift, if_neg h1, h2, Sem.run_pure]
  congr 1
  congr 1
  rw [Int.fdiv_eq_ediv_of_nonneg _ (Int.pow_nonneg (by omega))]
  norm_cast
theorem Val_and {x y : Operand} {t t' : TypeId} {k : IntKind} {a b : Nat} (hk : k.signed = false) (hx : ev e x = .int k (a : Int)) (hy : ev e y = .int k (b : Int)) (ha : a < 2 ^ k.bits) (hb : b < 2 ^ k.bits) :
    Val P N w0 L e ⟨d, .binOp .and t x y t', ty, pos, af, g⟩ (.int k ((a &&& b : Nat) : Int)) := by
  refine Val_bits hx hy rfl fun w => ?_
  have h1 : (BitVec.ofInt k.bits (a : Int) &&& BitVec.ofInt k.bits (b : Int)).toNat = a &&& b := by
    simp [BitVec.toNat_and, Nat.mod_eq_of_lt ha, Nat.mod_eq_of_lt hb]
  simp only [Op.intBits, h1, Sem.run_pure]
  rw [wrap_nat hk (Nat.and_lt_two_pow _ hb)]
theorem Val_andNot {x y : Operand} {t t' : TypeId} {k : IntKind} {a b : Nat} (hk : k.signed = false) (hx : ev e x = .int k (a : Int)) (hy : ev e y = .int k (b : Int)) (ha : a < 2 ^ k.bits) (hb : b < 2 ^ k.bits) :
    Val P N w0 L e ⟨d, .binOp .andNot t x y t', ty, pos, af, g⟩ (.int k ((a &&& (2 ^ k.bits - 1 - b) : Nat) : Int)) := by
  refine Val_bits hx hy rfl fun w => ?_
  have h1 : (BitVec.ofInt k.bits (a : Int) &&& ~~~ BitVec.ofInt k.bits (b : Int)).toNat = a &&& (2 ^ k.bits - 1 - b) := by
    simp [BitVec.toNat_and, BitVec.toNat_not, Nat.mod_eq_of_lt ha, Nat.mod_eq_of_lt hb]
  simp only [Op.intBits, h1, Sem.run_pure]
  rw [wrap_nat hk (Nat.lt_of_le_of_lt Nat.and_le_left ha)]
theorem Val_shl1 {x y : Operand} {t t' : TypeId} {k k' : IntKind} {i : Nat} (hk : k.signed = false) (hx : ev e x = .int k 1) (hy : ev e y = .int k' (i : Int)) (hi : i < k.bits) :
    Val P N w0 L e ⟨d, .binOp .shl t x y t', ty, pos, af, g⟩ (.int k ((2 ^ i : Nat) : Int)) := by
  refine Val_shift hx hy rfl fun w => ?_
  have h1 : ¬ ((i : Int) < 0) := by omega
  have h2 : min (i : Int).toNat k.bits = i := by simp; omega
  simp only [Op.shift, if_neg h1, h2, Sem.run_pure]
  have h3 : (1 : Int) * 2 ^ i = ((2 ^ i : Nat) : Int) := by norm_cast; simp
  rw [h3, wrap_nat hk (Nat.pow_lt_pow_right (by omega) hi)]

/-- .. where the slice's address is known by an equation. -/
theorem Val_indexAddrE {t E : TypeId} [hs : SliceOf P t E] {g' : Bool} {n bt : Nat} [TySz P E g' n bt] {x y : Operand} {A : Option Addr} {b o m c i : Nat} {k : IntKind} {q : Int} (hx : ev e x = .slice A m c) (hA : A = some ⟨b, o, none⟩) (hy : ev e y = .int k q) (hq : q = (i : Int)) (hi : i < m) :
    Val P N w0 L e ⟨d, .indexAddr t x y, ty, pos, af, g⟩ (.pointer (some ⟨b, o + i * n, none⟩)) := Val_indexAddr (by rw [hx, hA]) hy hq hi
theorem Val_indexAddrE1 {t E : TypeId} [hs : SliceOf P t E] {g' : Bool} {bt : Nat} [TySz P E g' 1 bt] {x y : Operand} {A : Option Addr} {b o m c i : Nat} {k : IntKind} {q : Int} (hx : ev e x = .slice A m c) (hA : A = some ⟨b, o, none⟩) (hy : ev e y = .int k q) (hq : q = (i : Int)) (hi : i < m) :
    Val P N w0 L e ⟨d, .indexAddr t x y, ty, pos, af, g⟩ (.pointer (some ⟨b, o + i, none⟩)) := Val_indexAddr1 (by rw [hx, hA]) hy hq hi
end
end Go.Proofs.Ytakmopiceopcpaa
end
