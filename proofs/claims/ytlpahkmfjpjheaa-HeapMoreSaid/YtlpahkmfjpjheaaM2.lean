/- More rules: deferring, panics of callees, type assertions, bits, indices, made slices, kept maps. · Maps whose every entry is right, by keys of whole numbers; made slices, copies. · The types of this program, as the rules want them. · Regions whose order of evaluation is left open, as Float has them, where what writes may panic, and B is named. · The states of a region whose order is left open, each by what has come up. · The steps of a walk, their side conditions found by themselves. · Comparisons, decided where they can be. -/
import Derived.Test.YtlpahkmfjpjheaaM1
import Derived.DeepKeys3
import Derived.Stop.IfaceNil
import Derived.Test.YtlpahkmfjpjheaaChecked
section
namespace Go.Proofs.Ytlpahkmfjpjheaa
open Go.RowKit

structure Shr (T : Prop) : Prop where
  out : T
theorem shr {T G : Prop} (m : Shr T → G) (c : T) : G := m ⟨c⟩
theorem svV_cells {s : Option (Nat × Nat)} {k : Nat} : (svV s k).cells = [svV s k].toArray := by cases s <;> rfl
theorem svV_ones {s : Option (Nat × Nat)} {k : Nat} : ones [svV s k] = true := by cases s <;> rfl
theorem isIn_all {ws ws' : List Nat} (h : (ws'.all fun p => isIn p ws) = true) {t : Nat} (ht : isIn t ws = false) : isIn t ws' = false := by
  induction ws' with
  | nil => rfl
  | cons s ws' ih =>
    simp only [List.all_cons, Bool.and_eq_true] at h
    unfold isIn
    cases hb : Nat.beq t s with
    | false => exact ih h.2
    | true =>
      have := Nat.eq_of_beq_eq_true hb
      rw [← this, ht] at h; cases h.1
theorem Off.frameT {ws ws' : List Nat} {base base' : Env} {sl : List (Nat × Value)} {j : Env} (h : (sl.all fun p => isIn p.1 ws) = true) (hs : (ws'.all fun p => isIn p ws) = true) (k : Off ws base' base) : Off ws (Ytlpahkmfjpjheaa.frame ws' base' sl j) base := by
  intro t ht
  unfold Ytlpahkmfjpjheaa.frame
  rw [look1_in h ht, isIn_all hs ht]
  exact k t ht
/-! ## What lies in a heap, whatever else does -/
theorem Ret.sub {P : Program} {N : Nat} {w0 : World} {B L : Hp} {f : FuncId} {args : Array Value} {v : Value} (hs : Sub B L) (h : ∀ L0, Ret P N w0 (B ++ L0) f args v) : Ret P N w0 L f args v := by
  obtain ⟨L0, hp⟩ := hs
  intro w hI
  refine (h L0 w (hI.perm hp)).mono ?_
  rintro x w' ⟨L', hI', rfl, rfl⟩
  exact ⟨_, hI'.perm hp.symm, rfl, rfl⟩
theorem Mem.sv {b : Nat} {φ : Obj → Prop} {L : Hp} {E : TypeId} {sz k : Nat} {xs : List Value} {s : Option (Nat × Nat)} (h : Mem b φ L) : Mem b φ (svH E sz k xs s L) := by
  cases s with
  | none => exact h
  | some p => exact .there h
theorem Up.sv {b : Nat} {φ φ' : Obj → Prop} {L L' : Hp} {E : TypeId} {sz k : Nat} {xs : List Value} {s : Option (Nat × Nat)} (h : Up L b φ φ' L') : Up (svH E sz k xs s L) b φ φ' (svH E sz k xs s L') := by
  cases s with
  | none => exact h
  | some p => exact .there h
theorem Sub.sv {B L : Hp} {E : TypeId} {sz k : Nat} {xs : List Value} {s : Option (Nat × Nat)} (h : Sub B L) : Sub B (svH E sz k xs s L) := by
  cases s with
  | none => exact h
  | some p => exact h.cons
theorem Wk.appD {L L' : Hp} (X : Hp) (h : Wk L L') : Wk (X ++ L) L' := (Wk.app X L).trans h
/-- What a growing slice shows. -/
theorem sv_slice {E : TypeId} {sz n : Nat} {xs : List Value} {s : Option (Nat × Nat)} (hs : svOk s sz n xs) :
    ∃ A c, svV s n = .slice A n c ∧ ∀ {N : Nat} {w0 : World} {L : Hp} {w : World}, Inv N w0 (svH E sz n xs s L) w → ∀ j u, xs[j]? = some u → ∃ b, A = some ⟨b, 0, none⟩ ∧ b < w.heap.size ∧ w.cell? ⟨b, j, none⟩ = some u := by
  cases s with
  | none =>
    have h0 := hs.2 rfl
    subst h0
    refine ⟨none, 0, rfl, ?_⟩
    intro N w0 L w _ j u hj
    have : xs = [] := List.eq_nil_of_length_eq_zero (by simpa using hs.1)
    subst this; simp at hj
  | some p =>
    obtain ⟨b, cap⟩ := p
    refine ⟨some ⟨b, 0, none⟩, cap, rfl, ?_⟩
    intro N w0 L w hI j u hj
    obtain ⟨hb, o, ho, cur, rfl, h1, h2, h3, h4⟩ := hI.own _ (List.mem_cons_self)
    refine ⟨b, rfl, (Array.getElem?_eq_some_iff.1 ho).1, ?_⟩
    rw [cell_of_row w b j cur E (0, 0) ho]
    have hlt : j < xs.length := (List.getElem?_eq_some_iff.1 hj).1
    have h5 : (cur.toList.take (n * sz))[j]? = some u := by rw [h4]; exact hj
    rw [List.getElem?_take] at h5
    split at h5
    · simpa using h5
    · cases h5
theorem Wk.sv {L L' : Hp} {E : TypeId} {sz k : Nat} {xs : List Value} {s : Option (Nat × Nat)} (h : Wk L L') : Wk (svH E sz k xs s L) (svH E sz k xs s L') := by
  cases s with
  | none => exact h
  | some p => exact .keep1 h
theorem Wk.svD {L L' : Hp} {E : TypeId} {sz k : Nat} {xs : List Value} {s : Option (Nat × Nat)} (h : Wk L L') : Wk (svH E sz k xs s L) L' := by
  cases s with
  | none => exact h
  | some p => exact .drop h
/-- Known up to what is forgotten. -/
theorem Tri.fgt {P : Program} {N : Nat} {w0 : World} {L : Hp} {f : FuncId} {args : Array Value} {R : Ending → Hp → Prop} (h : Tri P N w0 L f args fun x L' => ∃ L'', Wk L' L'' ∧ R x L'') : Tri P N w0 L f args R := by
  intro w hI
  refine (h w hI).mono ?_
  rintro x w' ⟨L', hI', L'', hk, hR⟩
  exact ⟨L'', hI'.wk hk, hR⟩
theorem Tri.perm {P : Program} {N : Nat} {w0 : World} {L L2 : Hp} {f : FuncId} {args : Array Value} {R : Ending → Hp → Prop} (h : Tri P N w0 L2 f args R) (hp : L.Perm L2) : Tri P N w0 L f args R := fun w hI => h w (hI.perm hp)
theorem Tri.opn {P : Program} {N : Nat} {w0 : World} {L : Hp} {f : FuncId} {args : Array Value} {R : Ending → Hp → Prop} {b : Nat} {φ : Obj → Prop} (h : ∀ o, φ o → Tri P N w0 ((b, Is o) :: L) f args R) : Tri P N w0 ((b, φ) :: L) f args R := by
  intro w hI
  obtain ⟨o, ho, hφ⟩ := hI.obj' (b := b) .here
  refine h o hφ w ⟨hI.below, hI.big, ?_, ?_⟩
  · have := hI.dis
    rw [List.pairwise_cons] at this ⊢
    exact this
  · intro x hx
    rcases List.mem_cons.1 hx with rfl | hx
    · exact ⟨(hI.own _ List.mem_cons_self).1, o, ho, rfl⟩
    · exact hI.own x (List.mem_cons_of_mem _ hx)
/-- From what lies there now: all of it stays as it is. -/
theorem Inv.at_ {N : Nat} {w0 w : World} {L : Hp} (_ : Inv N w0 L w) : Inv w.heap.size w [] w := ⟨Below.refl _ w, Nat.le_refl _, .nil, fun _ h => by cases h⟩
theorem Inv.on {N : Nat} {w0 w w' : World} {L L' : Hp} (h : Inv N w0 L w) (h' : Inv w.heap.size w L' w') : Inv N w0 L w' :=
  ⟨h.below.trans (h'.below.mono h.big), Nat.le_trans h.big h'.below.size, h.dis, fun x hx => by
    obtain ⟨h1, o, ho, hφ⟩ := h.own x hx
    exact ⟨h1, o, (h'.below.block _ (h.lt hx)).trans ho, hφ⟩⟩
theorem Ret.re {P : Program} {N : Nat} {w0 : World} {L : Hp} {f : FuncId} {args : Array Value} {v : Value} (h : ∀ w, Inv N w0 L w → Ret P w.heap.size w [] f args v) : Ret P N w0 L f args v := by
  intro w hI
  refine (h w hI w hI.at_).mono ?_
  rintro x w' ⟨L', hI', rfl, rfl⟩
  exact ⟨L, hI.on hI', rfl, rfl⟩
theorem Tri.re {P : Program} {N : Nat} {w0 : World} {L : Hp} {f : FuncId} {args : Array Value} {K : Ending → Prop} (h : ∀ w, Inv N w0 L w → Tri P w.heap.size w [] f args fun x _ => K x) : Tri P N w0 L f args fun x L' => K x ∧ L' = L := by
  intro w hI
  refine (h w hI w hI.at_).mono ?_
  rintro x w' ⟨L', hI', hK⟩
  exact ⟨L, hI.on hI', hK, rfl⟩

section
variable {P : Program} {r : Option Nat} {n N : Nat} {w0 : World} {L : Hp} {e : Env} {d : Option Nat} {ty : TypeId} {pos : String} {af : Array Edge} {g : Option (Nat × Bool)} {ops : Array Oper} {rest : List Oper} {Q : Post} {ds : List Deferred}
variable {o : Oper}
theorem OPS_pan {f : FuncId} {args : Array Value} {ch : List PanicEntry} {L1 : Hp} (hv : Enters P e o f args) (hc : Tri P N w0 L f args fun x L' => x = .panicked ch ∧ L' = L1) (hg : Region.wanted o (yieldE ops e) = true) (hnd : isDefer o.op = false)
    (h : Q (.panic ch) e ds L1) : OPS P r n N w0 ops (o :: rest) Q e ds L := by
  refine OPS_gen hg hnd fun a w hs he hd' hI => ?_
  rw [hv w]
  refine ⟨fun h => (by rw [FW_depth] at h; cases h), callsFW.2 ((hc w hI).mono ?_)⟩
  subst he
  rintro x w' ⟨L', hI', rfl, rfl⟩
  exact ⟨hs, _, hI', by rw [hd']; exact h⟩

theorem OPS_defer {x : Operand} {f : FuncId} {cc : List Value} (hx : ev e x = .func (.func f) #[] cc.toArray)
    (h : OPS P none n N w0 ops rest Q e ({ target := .fn (.func f) cc.toArray, args := #[] } :: ds) L) :
    OPS P none n N w0 ops (⟨none, .defer { callee := .value x, args := #[], argTypes := #[] }, ty, pos, af, none⟩ :: rest) Q e ds L := by
  rintro a w hs rfl rfl hI
  unfold wpListIn
  rw [if_pos (show Region.wanted (⟨none, .defer { callee := .value x, args := #[], argTypes := #[] }, ty, pos, af, none⟩ : Oper) (yielded ops a.tmps) = true from rfl)]
  refine ⟨fun f _ => FW_fn none f, ?_⟩
  have hx' : a.eval x = .func (.func f) #[] cc.toArray := by rw [eval_eq]; exact hx
  rw [show (FW none).round = none from rfl, Oper.semAt_none]
  have : (execOp a.eval ⟨none, .defer { callee := .value x, args := #[], argTypes := #[] }, ty, pos, af, none⟩).run P w = .ok (.defer { target := .fn (.func f) cc.toArray, args := #[] }) w := by
    simp [execOp, resolve, hx', Deferred.ofValue]
  rw [this]
  exact h { a with defers := { target := .fn (.func f) cc.toArray, args := #[] } :: a.defers } w hs rfl rfl hI

theorem Val_typeAssert {x : Operand} {s t : TypeId} [hc : ConcTy P t] {v : Value} (hx : ev e x = .iface t v) : Val P N w0 L e ⟨d, .typeAssert x s t true, ty, pos, af, g⟩ (.tuple [v, .bool true].toArray) := by
  intro w _
  have := hc.und
  cases hu : P.underlying t with
  | none => rw [hu] at this; cases this
  | some td =>
    rw [hu] at this
    cases td <;> simp at this <;> simp [execOp, hx, Instr.typeAssert, run_underlying hu]
class IfaceTy (P : Program) (t : TypeId) : Prop where
  is : P.isIface t = true
theorem Val_eqlNil0 {x : Operand} {t t' : TypeId} [hi : IfaceTy P t] (hx : ev e x = .nilIface) : Val P N w0 L e ⟨d, .binOp .eql t x (.const .nilIface) t', ty, pos, af, g⟩ (.bool true) := by
  intro w _
  have := run_eql_nil_nil_at w t hi.is
  have hy : ev e (.const .nilIface) = .nilIface := rfl
  simp [execOp, hx, hy, eqGuard, this]
theorem Val_eqlNil1 {x : Operand} {t t' u : TypeId} {v : Value} [hi : IfaceTy P t] (hx : ev e x = .iface u v) : Val P N w0 L e ⟨d, .binOp .eql t x (.const .nilIface) t', ty, pos, af, g⟩ (.bool false) := by
  intro w _
  have := run_eql_iface_nil w t hi.is u v
  have hy : ev e (.const .nilIface) = .nilIface := rfl
  simp [execOp, hx, hy, eqGuard, this]

/-! aggregates of whole numbers -/
class KeyTy (P : Program) (t : TypeId) (ks : outParam (List IntKind)) : Prop where
  dt : P.keyTypeAt 6 t = true
  wide : (match P.underlying t with | some (.array _ _) | some (.struct _) => true | _ => false) = true
  sz : P.cellsOf t = ks.length
  ls : ∀ is : List Int, is.length = ks.length → (∀ p ∈ ks.zip is, (Lit.int p.1 p.2).wf = true) → P.keyLits 6 t ((ks.zip is).map fun p => .int p.1 p.2) = some ((ks.zip is).map fun p => .int p.1 p.2)
  ng : P.eqGuardType P.depth t = false
def intsV (ks : List IntKind) (is : List Int) : Value := .agg ((ks.zip is).map fun p => .int p.1 p.2).toArray
def inKs (ks : List IntKind) (is : List Int) : Prop := is.length = ks.length ∧ ∀ p ∈ ks.zip is, (Lit.int p.1 p.2).wf = true
theorem zip_inj {ks : List IntKind} : ∀ {a b : List Int}, a.length = ks.length → b.length = ks.length → ((ks.zip a).map fun p => Lit.int p.1 p.2) = ((ks.zip b).map fun p => Lit.int p.1 p.2) → a = b := by
  induction ks with
  | nil => intro a b ha hb _; simp at ha hb; simp [ha, hb]
  | cons k ks ih =>
    intro a b ha hb h
    match a, b, ha, hb with
    | x :: a, y :: b, ha, hb =>
      simp only [List.zip_cons_cons, List.map_cons, List.cons.injEq, Lit.int.injEq, true_and] at h
      rw [h.1, ih (by simpa using ha) (by simpa using hb) h.2]
theorem intsV_formed {t : TypeId} {ks : List IntKind} [hk : KeyTy P t ks] {is : List Int} (h : inKs ks is) : (intsV ks is).formed P t = true := by
  unfold intsV Value.formed
  have hw := hk.wide
  have hs : ((ks.zip is).map fun p => Value.int p.1 p.2).length = ks.length := by simp [h.1]
  cases hu : P.underlying t with
  | none => rw [hu] at hw; cases hw
  | some d => rw [hu] at hw; cases d <;> simp at hw <;> simp [hk.sz, h.1]
theorem run_equal_ints {t : TypeId} {ks : List IntKind} [hk : KeyTy P t ks] {a b : List Int} (ha : inKs ks a) (hb : inKs ks b) (w : World) : (Op.equal t (intsV ks a) (intsV ks b)).run P w = .ok (decide (a = b)) w := by
  obtain ⟨r, h1, h2⟩ := run_equalIn_deep (P := P) 9994 6 t hk.dt w 6 6 (intsV ks a) (intsV ks b) _ _ (intsV_formed ha) (intsV_formed hb) (hk.ls a ha.1 ha.2) (hk.ls b hb.1 hb.2)
  have : r = decide (a = b) := by
    by_cases hab : a = b
    · subst hab; simpa using h2
    · have : r ≠ true := fun hr => hab (zip_inj ha.1 hb.1 (h2.1 hr))
      simp [hab, this]
  subst this
  exact h1
theorem Val_eqlI {x y : Operand} {t t' : TypeId} {ks : List IntKind} [hk : KeyTy P t ks] {vx vy : Value} {a b : List Int} (hx : ev e x = vx) (hy : ev e y = vy) (h1 : vx = intsV ks a) (h2 : vy = intsV ks b) (ha : inKs ks a) (hb : inKs ks b) :
    Val P N w0 L e ⟨d, .binOp .eql t x y t', ty, pos, af, g⟩ (.bool (decide (a = b))) := by
  intro w _
  have := run_equal_ints (P := P) (t := t) ha hb w
  have hg := hk.ng
  subst h1 h2
  unfold intsV at hx hy this
  simp [execOp, hx, hy, binOp, eqGuard, hg, this]
theorem Val_neqI {x y : Operand} {t t' : TypeId} {ks : List IntKind} [hk : KeyTy P t ks] {vx vy : Value} {a b : List Int} (hx : ev e x = vx) (hy : ev e y = vy) (h1 : vx = intsV ks a) (h2 : vy = intsV ks b) (ha : inKs ks a) (hb : inKs ks b) :
    Val P N w0 L e ⟨d, .binOp .neq t x y t', ty, pos, af, g⟩ (.bool (!decide (a = b))) := by
  intro w _
  have := run_equal_ints (P := P) (t := t) ha hb w
  have hg := hk.ng
  subst h1 h2
  unfold intsV at hx hy this
  simp [execOp, hx, hy, binOp, eqGuard, hg, this]

/-! bits -/
theorem wrap_nat {k : IntKind} (hk : k.signed = false) {m : Nat} (h : m < 2 ^ k.bits) : k.wrap (m : Int) = m := by
  unfold IntKind.wrap
  simp only [hk]
  have : ((m : Int) % 2 ^ k.bits) = m := Int.emod_eq_of_lt (by omega) (by exact_mod_cast h)
  simp [this]
theorem Val_shr {x y : Operand} {t t' : TypeId} {k k' : IntKind} {a i : Nat} (hx : ev e x = .int k (a : Int)) (hy : ev e y = .int k' (i : Int)) (hi : i ≤ k.bits) :
    Val P N w0 L e ⟨d, .binOp .shr t x y t', ty, pos, af, g⟩ (.int k ((a / 2 ^ i : Nat) : Int)) := by
  refine Val_shift hx hy rfl fun w => ?_
  have h1 : ¬ ((i : Int) < 0) := by omega
  have h2 : min (i : Int).toNat k.bits = i := by simp; omega
  simp only [Op.shift, if_neg h1, h2, Sem.run_pure]
  congr 1
  congr 1
  rw [Int.fdiv_eq_ediv_of_nonneg _ (Int.pow_nonneg (by omega))]
  norm_cast
theorem Val_and {x y : Operand} {t t' : TypeId} {k : IntKind} {a b : Nat} (hk : k.signed = false) (hx : ev e x = .int k (a : Int)) (hy : ev e y = .int k (b : Int)) (ha : a < 2 ^ k.bits) (hb : b < 2 ^ k.bits) :
    Val P N w0 L e ⟨d, .binOp .and t x y t', ty, pos, af, g⟩ (.int k ((a &&& b : Nat) : Int)) := by
  refine Val_bits hx hy rfl fun w => ?_
  have h1 : (BitVec.ofInt k.bits (a : Int) &&& BitVec.ofInt k.bits (b : Int)).toNat = a &&& b := by
    simp [BitVec.toNat_and, Nat.mod_eq_of_lt ha, Nat.mod_eq_of_lt hb]
  simp only [Op.intBits, h1, Sem.run_pure]
  rw [wrap_nat hk (Nat.and_lt_two_pow _ hb)]
theorem Val_andNot {x y : Operand} {t t' : TypeId} {k : IntKind} {a b : Nat} (hk : k.signed = false) (hx : ev e x = .int k (a : Int)) (hy : ev e y = .int k (b : Int)) (ha : a < 2 ^ k.bits) (hb : b < 2 ^ k.bits) :
    Val P N w0 L e ⟨d, .binOp .andNot t x y t', ty, pos, af, g⟩ (.int k ((a &&& (2 ^ k.bits - 1 - b) : Nat) : Int)) := by
  refine Val_bits hx hy rfl fun w => ?_
  have h1 : (BitVec.ofInt k.bits (a : Int) &&& ~~~ BitVec.ofInt k.bits (b : Int)).toNat = a &&& (2 ^ k.bits - 1 - b) := by
    simp [BitVec.toNat_and, BitVec.toNat_not, Nat.mod_eq_of_lt ha, Nat.mod_eq_of_lt hb]
  simp only [Op.intBits, h1, Sem.run_pure]
  rw [wrap_nat hk (Nat.lt_of_le_of_lt Nat.and_le_left ha)]
theorem Val_shl1 {x y : Operand} {t t' : TypeId} {k k' : IntKind} {i : Nat} (hk : k.signed = false) (hx : ev e x = .int k 1) (hy : ev e y = .int k' (i : Int)) (hi : i < k.bits) :
    Val P N w0 L e ⟨d, .binOp .shl t x y t', ty, pos, af, g⟩ (.int k ((2 ^ i : Nat) : Int)) := by
  refine Val_shift hx hy rfl fun w => ?_
  have h1 : ¬ ((i : Int) < 0) := by omega
  have h2 : min (i : Int).toNat k.bits = i := by simp; omega
  simp only [Op.shift, if_neg h1, h2, Sem.run_pure]
  have h3 : (1 : Int) * 2 ^ i = ((2 ^ i : Nat) : Int) := by norm_cast; simp
  rw [h3, wrap_nat hk (Nat.pow_lt_pow_right (by omega) hi)]

/-- .. where the slice's address is known by an equation. -/
theorem Val_indexAddrE {t E : TypeId} [hs : SliceOf P t E] {g' : Bool} {n bt : Nat} [TySz P E g' n bt] {x y : Operand} {A : Option Addr} {b o m c i : Nat} {k : IntKind} {q : Int} (hx : ev e x = .slice A m c) (hA : A = some ⟨b, o, none⟩) (hy : ev e y = .int k q) (hq : q = (i : Int)) (hi : i < m) :
    Val P N w0 L e ⟨d, .indexAddr t x y, ty, pos, af, g⟩ (.pointer (some ⟨b, o + i * n, none⟩)) := Val_indexAddr (by rw [hx, hA]) hy hq hi
theorem Val_indexAddrE1 {t E : TypeId} [hs : SliceOf P t E] {g' : Bool} {bt : Nat} [TySz P E g' 1 bt] {x y : Operand} {A : Option Addr} {b o m c i : Nat} {k : IntKind} {q : Int} (hx : ev e x = .slice A m c) (hA : A = some ⟨b, o, none⟩) (hy : ev e y = .int k q) (hq : q = (i : Int)) (hi : i < m) :
    Val P N w0 L e ⟨d, .indexAddr t x y, ty, pos, af, g⟩ (.pointer (some ⟨b, o + i, none⟩)) := Val_indexAddr1 (by rw [hx, hA]) hy hq hi
/-- An element of an array's value. -/
theorem Val_index1 {t E : TypeId} {len : Nat} [ha : ArrayOf P t len E] {bt : Nat} [TySz P E false 1 bt] {x y : Operand} {l : List Value} {i : Nat} {k : IntKind} {q : Int} {v : Value} (hx : ev e x = .agg l.toArray) (hy : ev e y = .int k q) (hq : q = (i : Int)) (hi : i < len) (hv : l[i]? = some v) :
    Val P N w0 L e ⟨d, .index t x y, ty, pos, af, g⟩ v := by
  intro w _
  subst hq
  have h1 : (0 : Int) ≤ i ∧ (i : Int) < len := ⟨by omega, by omega⟩
  simp [execOp, Instr.index, hx, hy, asIntOf, run_underlying ha.und, h1, run_sizeOf (P := P) (t := E), part, run_isAgg (P := P) (t := E), hi, hv]
end
end Go.Proofs.Ytlpahkmfjpjheaa
end

section
namespace Go.Proofs.Ytlpahkmfjpjheaa
open Go.RowKit

def MGood (ks : List IntKind) (F : List Int → Value) (es : Array MapEntry) : Prop := ∀ x ∈ es.toList, ∃ is, inKs ks is ∧ x.key = intsV ks is ∧ x.val = F is
/-- A map whose every entry is that of F. -/
def MapOf (ks : List IntKind) (F : List Int → Value) : Obj → Prop := fun o => ∃ es clock, o = .map es clock ∧ MGood ks F es
class MapTy (P : Program) (t : TypeId) (k v : outParam TypeId) : Prop where
  und : P.underlying t = some (.map k v)
class ZeroV (P : Program) (t : TypeId) (v : outParam Value) : Prop where
  zero : (P.info? t).bind (·.zero) = some v

section
variable {P : Program}
theorem run_zeroV {t : TypeId} {v : Value} [h : ZeroV P t v] (w : World) : (zeroValue t).run P w = .ok v w := by
  have := h.zero
  cases hu : P.info? t with
  | none => rw [hu] at this; cases this
  | some i =>
    rw [hu] at this
    have : i.zero = some v := by simpa using this
    simp [zeroValue, typeInfo, hu, this]
theorem run_findAsking {t : TypeId} {ks : List IntKind} [hk : KeyTy P t ks] {F : List Int → Value} {is : List Int} (hi : inKs ks is) : ∀ (es : List MapEntry) (i : Nat), (∀ x ∈ es, ∃ is, inKs ks is ∧ x.key = intsV ks is ∧ x.val = F is) →
    ∃ r : Option (Nat × Value), (∀ w, (Instr.findAsking t (intsV ks is) es i).run P w = .ok r w) ∧ (r = none ∨ ∃ j x, r = some (i + j, F is) ∧ es[j]? = some x ∧ x.key = intsV ks is)
  | [], i, _ => ⟨none, fun w => by simp [Instr.findAsking], .inl rfl⟩
  | x :: es, i, h => by
    obtain ⟨is', h1, h2, h3⟩ := h x List.mem_cons_self
    have heq := fun w => run_equal_ints (P := P) (t := t) hi h1 w
    by_cases he : is = is'
    · subst he
      exact ⟨some (i, F is), fun w => by simp [Instr.findAsking, h2, h3, heq], .inr ⟨0, x, by simp, by simp, h2⟩⟩
    · obtain ⟨r, hr, hc⟩ := run_findAsking (t := t) hi es (i + 1) (fun y hy => h y (List.mem_cons_of_mem _ hy))
      refine ⟨r, fun w => by simp [Instr.findAsking, h2, heq, he, hr], ?_⟩
      rcases hc with hc | ⟨j, y, hc, hy, hyk⟩
      · exact .inl hc
      · exact .inr ⟨j + 1, y, by rw [hc]; congr 2; omega, by simpa using hy, hyk⟩
theorem run_findKey_ints {t : TypeId} {ks : List IntKind} [hk : KeyTy P t ks] {F : List Int → Value} {is : List Int} (hi : inKs ks is) (es : List MapEntry) (h : ∀ x ∈ es, ∃ is, inKs ks is ∧ x.key = intsV ks is ∧ x.val = F is) :
    ∃ r : Option (Nat × Value), (∀ w, (Instr.findKey t (intsV ks is) es).run P w = .ok r w) ∧ (r = none ∨ ∃ j x, r = some (j, F is) ∧ es[j]? = some x ∧ x.key = intsV ks is) := by
  have hw := hk.wide
  cases hu : P.underlying t with
  | none => rw [hu] at hw; cases hw
  | some d =>
    cases es with
    | nil => exact ⟨none, fun w => by simp [Instr.findKey, run_underlying hu, Instr.findNow], .inl rfl⟩
    | cons x es =>
      obtain ⟨r, hr, hc⟩ := run_findAsking (P := P) (t := t) hi (x :: es) 0 h
      refine ⟨r, fun w => ?_, by simpa using hc⟩
      have hn : Instr.findNow d (intsV ks is) (x :: es) 0 = none := by
        rw [hu] at hw
        cases d <;> simp at hw <;> simp [Instr.findNow, Instr.sameNow]
      simp [Instr.findKey, run_underlying hu, hn, hr]
theorem run_checkKey_ints {t : TypeId} {ks : List IntKind} [hk : KeyTy P t ks] {is : List Int} (hi : inKs ks is) (em : Bool) (w : World) : (Instr.checkKey em 10000 t (intsV ks is)).run P w = .ok () w :=
  run_checkKey_deep em 9994 6 t hk.dt w 6 (intsV ks is) _ (intsV_formed hi) (hk.ls is hi.1 hi.2)
theorem sameBits_ints (ks : List IntKind) (is : List Int) : Instr.sameBits 10000 (intsV ks is) (intsV ks is) = true := by
  show Instr.sameBits (9999 + 1) _ _ = true
  unfold intsV
  simp only [Instr.sameBits, beq_self_eq_true, Bool.true_and, List.all_eq_true]
  rintro ⟨x, y⟩ hxy
  have : x = y ∧ ∃ k n, x = .int k n := by
    rw [List.zip_eq_zipWith] at hxy
    obtain ⟨i, hi, he⟩ := List.getElem_of_mem hxy
    simp only [List.getElem_zipWith, Prod.mk.injEq] at he
    obtain ⟨rfl, rfl⟩ := he
    refine ⟨rfl, ?_⟩
    simp only [List.getElem_map]
    exact ⟨_, _, rfl⟩
  obtain ⟨rfl, k, n, rfl⟩ := this
  simp [Instr.sameBits]
end

section
variable {P : Program} {r : Option Nat} {n N : Nat} {w0 : World} {L : Hp} {e : Env} {d : Option Nat} {ty : TypeId} {pos : String} {af : Array Edge} {g : Option (Nat × Bool)}
/-- A look into the map: there, or not. -/
theorem lookup_dec (P : Program) {t k v : TypeId} {zv : Value} [hm : MapTy P t k v] {ks : List IntKind} [hk : KeyTy P k ks] [hz : ZeroV P v zv] {m clock : Nat} {es : Array MapEntry} {F : List Int → Value} {is : List Int} (hi : inKs ks is) (hg : MGood ks F es) :
    ∃ ok : Bool, ∀ {N : Nat} {w0 : World} {L : Hp} {e : Env} {d : Option Nat} {ty : TypeId} {pos : String} {af : Array Edge} {g : Option (Nat × Bool)} {x y : Operand}, ev e x = .map (some m) → ev e y = intsV ks is → Mem m (Is (.map es clock)) L →
      Val P N w0 L e ⟨d, .lookup t x y true, ty, pos, af, g⟩ (.tuple [if ok then F is else zv, .bool ok].toArray) := by
  obtain ⟨r, hr, hc⟩ := run_findKey_ints (P := P) (t := k) hi es.toList hg
  rcases hc with rfl | ⟨j, x', rfl, _, _⟩
  · refine ⟨false, ?_⟩
    intro N w0 L e d ty pos af g x y hx hy hmem w hI
    have hrun : (getObj m).run P w = .ok (.map es clock) w := by simp [getObj, Sem.run, hI.obj hmem]
    simp [execOp, hx, hy, Instr.lookup, run_underlying hm.und, hrun, run_checkKey_ints (P := P) (t := k) hi, hr, run_zeroV (P := P) (t := v)]
  · refine ⟨true, ?_⟩
    intro N w0 L e d ty pos af g x y hx hy hmem w hI
    have hrun : (getObj m).run P w = .ok (.map es clock) w := by simp [getObj, Sem.run, hI.obj hmem]
    simp [execOp, hx, hy, Instr.lookup, run_underlying hm.und, hrun, run_checkKey_ints (P := P) (t := k) hi, hr]
/-- What is put into the map is right. -/
theorem Turn_mapUpdate {t k v : TypeId} [hm : MapTy P t k v] {ks : List IntKind} [hk : KeyTy P k ks] {x y z : Operand} {m clock : Nat} {es : Array MapEntry} {F : List Int → Value} {is : List Int} {L' : Hp} {w' : Value} (hx : ev e x = .map (some m)) (hy : ev e y = intsV ks is) (hi : inKs ks is) (hz : ev e z = w') (hw : w' = F is)
    (hup : Up L m (Is (.map es clock)) (MapOf ks F) L') (hg : MGood ks F es) : Turn P N w0 L e ⟨d, .mapUpdate t x y z, ty, pos, af, g⟩ L' := by
  intro w hI
  subst hw
  obtain ⟨r, hr, hc⟩ := run_findKey_ints (P := P) (t := k) hi es.toList hg
  have ho := hI.obj hup.mem
  have hrun : (getObj m).run P w = .ok (.map es clock) w := by simp [getObj, Sem.run, ho]
  have hset : ∀ o', (setObj m o').run P w = .ok () (w.putObj m o') := fun o' => by simp [setObj, Sem.run, ho, World.putObj]
  have hfin : ∀ o', MapOf ks F o' → ∃ w', Result.ok (Next.skip) (w.putObj m o') = .ok .skip w' ∧ Inv N w0 L' w' := fun o' ho' => ⟨_, rfl, hI.putObj hup ho'⟩
  rcases hc with rfl | ⟨j, x', rfl, hj, hxk⟩
  · obtain ⟨w1, h1, h2⟩ := hfin (.map (es.push { key := intsV ks is, val := F is, born := clock }) (clock + 1)) ⟨_, _, rfl, fun y hy => by
      simp only [Array.toList_push, List.mem_append, List.mem_singleton] at hy
      rcases hy with hy | rfl
      · exact hg y hy
      · exact ⟨is, hi, rfl, rfl⟩⟩
    exact ⟨w1, by rw [← h1]; simp [execOp, hx, hy, hz, Instr.mapUpdate, run_underlying hm.und, hrun, run_checkKey_ints (P := P) (t := k) hi, hr, hset], h2⟩
  · have hes : es[j]? = some x' := by simpa using hj
    obtain ⟨w1, h1, h2⟩ := hfin (.map (es.modify j fun q => { q with key := intsV ks is, val := F is }) clock) ⟨_, _, rfl, fun y hy => by
      obtain ⟨i, hi', he⟩ := List.getElem_of_mem hy
      simp only [Array.toList_modify] at he hi'
      rw [List.getElem_modify] at he
      split at he
      · subst he
        exact ⟨is, hi, rfl, rfl⟩
      · subst he
        exact hg _ (List.getElem_mem _)⟩
    exact ⟨w1, by rw [← h1]; simp [execOp, hx, hy, hz, Instr.mapUpdate, run_underlying hm.und, hrun, run_checkKey_ints (P := P) (t := k) hi, hr, hset, hes, hxk, Instr.keyThatStays, sameBits_ints], h2⟩
end
end Go.Proofs.Ytlpahkmfjpjheaa
end

section
namespace Go.Proofs.Ytlpahkmfjpjheaa
theorem prog_mixed : Try.prog.follows .mixedOrders = true := by kernel_rfl
instance : MethodOf Try.prog 142 "bogworks/heap.after" 130 := ⟨fun _ _ => by kernel_rfl⟩
instance : MethodOf Try.prog 144 "bogworks/heap.after" 131 := ⟨fun _ _ => by kernel_rfl⟩
instance : TySz Try.prog 3 false 1 8 := ⟨by kernel_rfl, by kernel_rfl⟩
instance : ConcTy Try.prog 3 := ⟨by kernel_rfl⟩
instance : TyZero Try.prog 3 [.int .i64 0] := ⟨by kernel_rfl⟩
instance : IntTy Try.prog 3 .i64 := ⟨Try.underlying3⟩
instance : TySz Try.prog 4 false 1 1 := ⟨by kernel_rfl, by kernel_rfl⟩
instance : ConcTy Try.prog 4 := ⟨by kernel_rfl⟩
instance : TyZero Try.prog 4 [.bool false] := ⟨by kernel_rfl⟩
instance : BoolTy Try.prog 4 := ⟨Try.underlying4⟩
instance : TySz Try.prog 5 false 1 1 := ⟨by kernel_rfl, by kernel_rfl⟩
instance : ConcTy Try.prog 5 := ⟨by kernel_rfl⟩
instance : TyZero Try.prog 5 [.int .u8 0] := ⟨by kernel_rfl⟩
instance : IntTy Try.prog 5 .u8 := ⟨Try.underlying5⟩
instance : TySz Try.prog 9 false 1 16 := ⟨by kernel_rfl, by kernel_rfl⟩
instance : ConcTy Try.prog 9 := ⟨by kernel_rfl⟩
instance : TyZero Try.prog 9 [.string .empty] := ⟨by kernel_rfl⟩
instance : TySz Try.prog 20 false 1 16 := ⟨by kernel_rfl, by kernel_rfl⟩
instance : TyZero Try.prog 20 [.nilIface] := ⟨by kernel_rfl⟩
instance : IfaceTy Try.prog 20 := ⟨by kernel_rfl⟩
instance : TySz Try.prog 22 false 1 24 := ⟨by kernel_rfl, by kernel_rfl⟩
instance : ConcTy Try.prog 22 := ⟨by kernel_rfl⟩
instance : TyZero Try.prog 22 [.slice none 0 0] := ⟨by kernel_rfl⟩
instance : SliceOf Try.prog 22 65 := ⟨Try.underlying22⟩
instance : TySz Try.prog 23 false 1 24 := ⟨by kernel_rfl, by kernel_rfl⟩
instance : ConcTy Try.prog 23 := ⟨by kernel_rfl⟩
instance : TyZero Try.prog 23 [.slice none 0 0] := ⟨by kernel_rfl⟩
instance : SliceOf Try.prog 23 31 := ⟨Try.underlying23⟩
instance : TySz Try.prog 24 true 3 24 := ⟨by kernel_rfl, by kernel_rfl⟩
instance : ConcTy Try.prog 24 := ⟨by kernel_rfl⟩
instance : TyZero Try.prog 24 [.int .i64 0, .int .i64 0, .int .i64 0] := ⟨by kernel_rfl⟩
instance : ArrayOf Try.prog 24 3 3 := ⟨Try.underlying24⟩
instance : BuildTy Try.prog 24 (fun i => some (i * 1, 1)) [.int .i64 0, .int .i64 0, .int .i64 0] := ⟨fun _ => by kernel_rfl⟩
instance : TySz Try.prog 25 false 1 24 := ⟨by kernel_rfl, by kernel_rfl⟩
instance : ConcTy Try.prog 25 := ⟨by kernel_rfl⟩
instance : TyZero Try.prog 25 [.slice none 0 0] := ⟨by kernel_rfl⟩
instance : SliceOf Try.prog 25 61 := ⟨Try.underlying25⟩
instance : TySz Try.prog 27 true 7 104 := ⟨by kernel_rfl, by kernel_rfl⟩
instance : ConcTy Try.prog 27 := ⟨by kernel_rfl⟩
instance : TyZero Try.prog 27 [.slice none 0 0, .slice none 0 0, .int .i64 0, .int .i64 0, .int .i64 0, .int .i64 0, .slice none 0 0] := ⟨by kernel_rfl⟩
instance : FieldOff Try.prog 27 0 0 22 := ⟨by kernel_rfl⟩
instance : FieldOff Try.prog 27 1 1 23 := ⟨by kernel_rfl⟩
instance : FieldOff Try.prog 27 2 2 24 := ⟨by kernel_rfl⟩
instance : FieldOff Try.prog 27 3 5 3 := ⟨by kernel_rfl⟩
instance : FieldOff Try.prog 27 4 6 25 := ⟨by kernel_rfl⟩
instance : BuildTy Try.prog 27 (fun i => (#[(0, 1), (1, 1), (2, 3), (5, 1), (6, 1)] : Array (Nat × Nat))[i]?) [.slice none 0 0, .slice none 0 0, .int .i64 0, .int .i64 0, .int .i64 0, .int .i64 0, .slice none 0 0] := ⟨fun _ => by kernel_rfl⟩
instance : TySz Try.prog 31 true 2 16 := ⟨by kernel_rfl, by kernel_rfl⟩
instance : ConcTy Try.prog 31 := ⟨by kernel_rfl⟩
instance : TyZero Try.prog 31 [.int .i64 0, .int .i64 0] := ⟨by kernel_rfl⟩
instance : FieldOff Try.prog 31 0 0 3 := ⟨by kernel_rfl⟩
instance : FieldOff Try.prog 31 1 1 3 := ⟨by kernel_rfl⟩
instance : BuildTy Try.prog 31 (fun i => (#[(0, 1), (1, 1)] : Array (Nat × Nat))[i]?) [.int .i64 0, .int .i64 0] := ⟨fun _ => by kernel_rfl⟩
instance : TySz Try.prog 32 false 1 8 := ⟨by kernel_rfl, by kernel_rfl⟩
instance : ConcTy Try.prog 32 := ⟨by kernel_rfl⟩
instance : TyZero Try.prog 32 [.int .i64 0] := ⟨by kernel_rfl⟩
instance : IntTy Try.prog 32 .i64 := ⟨Try.underlying32⟩
instance : TySz Try.prog 47 true 11 136 := ⟨by kernel_rfl, by kernel_rfl⟩
instance : ConcTy Try.prog 47 := ⟨by kernel_rfl⟩
instance : TyZero Try.prog 47 [.slice none 0 0, .slice none 0 0, .int .i64 0, .int .i64 0, .int .i64 0, .int .i64 0, .slice none 0 0, .int .i64 0, .int .i64 0, .int .i64 0, .int .i64 0] := ⟨by kernel_rfl⟩
instance : FieldOff Try.prog 47 0 0 27 := ⟨by kernel_rfl⟩
instance : FieldOff Try.prog 47 1 7 3 := ⟨by kernel_rfl⟩
instance : FieldOff Try.prog 47 2 8 3 := ⟨by kernel_rfl⟩
instance : FieldOff Try.prog 47 3 9 31 := ⟨by kernel_rfl⟩
instance : BuildTy Try.prog 47 (fun i => (#[(0, 7), (7, 1), (8, 1), (9, 2)] : Array (Nat × Nat))[i]?) [.slice none 0 0, .slice none 0 0, .int .i64 0, .int .i64 0, .int .i64 0, .int .i64 0, .slice none 0 0, .int .i64 0, .int .i64 0, .int .i64 0, .int .i64 0] := ⟨fun _ => by kernel_rfl⟩
instance : TySz Try.prog 49 false 1 24 := ⟨by kernel_rfl, by kernel_rfl⟩
instance : ConcTy Try.prog 49 := ⟨by kernel_rfl⟩
instance : TyZero Try.prog 49 [.slice none 0 0] := ⟨by kernel_rfl⟩
instance : SliceOf Try.prog 49 47 := ⟨Try.underlying49⟩
instance : TySz Try.prog 50 false 1 24 := ⟨by kernel_rfl, by kernel_rfl⟩
instance : ConcTy Try.prog 50 := ⟨by kernel_rfl⟩
instance : TyZero Try.prog 50 [.slice none 0 0] := ⟨by kernel_rfl⟩
instance : SliceOf Try.prog 50 109 := ⟨Try.underlying50⟩
instance : TySz Try.prog 51 false 1 24 := ⟨by kernel_rfl, by kernel_rfl⟩
instance : ConcTy Try.prog 51 := ⟨by kernel_rfl⟩
instance : TyZero Try.prog 51 [.slice none 0 0] := ⟨by kernel_rfl⟩
instance : SliceOf Try.prog 51 52 := ⟨Try.underlying51⟩
instance : TySz Try.prog 52 false 1 24 := ⟨by kernel_rfl, by kernel_rfl⟩
instance : ConcTy Try.prog 52 := ⟨by kernel_rfl⟩
instance : TyZero Try.prog 52 [.slice none 0 0] := ⟨by kernel_rfl⟩
instance : SliceOf Try.prog 52 3 := ⟨Try.underlying52⟩
instance : TySz Try.prog 55 false 1 8 := ⟨by kernel_rfl, by kernel_rfl⟩
instance : ConcTy Try.prog 55 := ⟨by kernel_rfl⟩
instance : TyZero Try.prog 55 [.nilFunc] := ⟨by kernel_rfl⟩
instance : TySz Try.prog 61 true 4 32 := ⟨by kernel_rfl, by kernel_rfl⟩
instance : ConcTy Try.prog 61 := ⟨by kernel_rfl⟩
instance : TyZero Try.prog 61 [.int .i64 0, .int .i64 0, .int .i64 0, .int .i64 0] := ⟨by kernel_rfl⟩
instance : FieldOff Try.prog 61 0 0 3 := ⟨by kernel_rfl⟩
instance : FieldOff Try.prog 61 1 1 3 := ⟨by kernel_rfl⟩
instance : FieldOff Try.prog 61 2 2 31 := ⟨by kernel_rfl⟩
instance : BuildTy Try.prog 61 (fun i => (#[(0, 1), (1, 1), (2, 2)] : Array (Nat × Nat))[i]?) [.int .i64 0, .int .i64 0, .int .i64 0, .int .i64 0] := ⟨fun _ => by kernel_rfl⟩
instance : TySz Try.prog 65 true 3 24 := ⟨by kernel_rfl, by kernel_rfl⟩
instance : ConcTy Try.prog 65 := ⟨by kernel_rfl⟩
instance : TyZero Try.prog 65 [.int .i64 0, .int .i64 0, .int .i64 0] := ⟨by kernel_rfl⟩
instance : FieldOff Try.prog 65 0 0 3 := ⟨by kernel_rfl⟩
instance : FieldOff Try.prog 65 1 1 31 := ⟨by kernel_rfl⟩
instance : BuildTy Try.prog 65 (fun i => (#[(0, 1), (1, 2)] : Array (Nat × Nat))[i]?) [.int .i64 0, .int .i64 0, .int .i64 0] := ⟨fun _ => by kernel_rfl⟩
instance : TySz Try.prog 68 false 1 8 := ⟨by kernel_rfl, by kernel_rfl⟩
instance : ConcTy Try.prog 68 := ⟨by kernel_rfl⟩
instance : TyZero Try.prog 68 [.nilFunc] := ⟨by kernel_rfl⟩
instance : TySz Try.prog 73 false 1 24 := ⟨by kernel_rfl, by kernel_rfl⟩
instance : ConcTy Try.prog 73 := ⟨by kernel_rfl⟩
instance : TyZero Try.prog 73 [.slice none 0 0] := ⟨by kernel_rfl⟩
instance : SliceOf Try.prog 73 27 := ⟨Try.underlying73⟩
instance : TySz Try.prog 76 false 1 8 := ⟨by kernel_rfl, by kernel_rfl⟩
instance : ConcTy Try.prog 76 := ⟨by kernel_rfl⟩
instance : TyZero Try.prog 76 [.pointer none] := ⟨by kernel_rfl⟩
instance : TySz Try.prog 77 false 1 8 := ⟨by kernel_rfl, by kernel_rfl⟩
instance : ConcTy Try.prog 77 := ⟨by kernel_rfl⟩
instance : TyZero Try.prog 77 [.pointer none] := ⟨by kernel_rfl⟩
instance : TySz Try.prog 79 false 1 8 := ⟨by kernel_rfl, by kernel_rfl⟩
instance : ConcTy Try.prog 79 := ⟨by kernel_rfl⟩
instance : TyZero Try.prog 79 [.nilFunc] := ⟨by kernel_rfl⟩
instance : TySz Try.prog 80 false 1 24 := ⟨by kernel_rfl, by kernel_rfl⟩
instance : ConcTy Try.prog 80 := ⟨by kernel_rfl⟩
instance : TyZero Try.prog 80 [.slice none 0 0] := ⟨by kernel_rfl⟩
instance : SliceOf Try.prog 80 89 := ⟨Try.underlying80⟩
instance : TySz Try.prog 86 true 6 48 := ⟨by kernel_rfl, by kernel_rfl⟩
instance : ConcTy Try.prog 86 := ⟨by kernel_rfl⟩
instance : TyZero Try.prog 86 [.int .i64 0, .int .i64 0, .int .i64 0, .int .i64 0, .int .i64 0, .int .i64 0] := ⟨by kernel_rfl⟩
instance : ArrayOf Try.prog 86 6 3 := ⟨Try.underlying86⟩
instance : BuildTy Try.prog 86 (fun i => some (i * 1, 1)) [.int .i64 0, .int .i64 0, .int .i64 0, .int .i64 0, .int .i64 0, .int .i64 0] := ⟨fun _ => by kernel_rfl⟩
instance : TySz Try.prog 87 false 1 8 := ⟨by kernel_rfl, by kernel_rfl⟩
instance : ConcTy Try.prog 87 := ⟨by kernel_rfl⟩
instance : TyZero Try.prog 87 [.nilFunc] := ⟨by kernel_rfl⟩
instance : TySz Try.prog 89 true 2 48 := ⟨by kernel_rfl, by kernel_rfl⟩
instance : ConcTy Try.prog 89 := ⟨by kernel_rfl⟩
instance : TyZero Try.prog 89 [.slice none 0 0, .slice none 0 0] := ⟨by kernel_rfl⟩
instance : FieldOff Try.prog 89 0 0 52 := ⟨by kernel_rfl⟩
instance : FieldOff Try.prog 89 1 1 52 := ⟨by kernel_rfl⟩
instance : BuildTy Try.prog 89 (fun i => (#[(0, 1), (1, 1)] : Array (Nat × Nat))[i]?) [.slice none 0 0, .slice none 0 0] := ⟨fun _ => by kernel_rfl⟩
instance : TySz Try.prog 92 false 1 8 := ⟨by kernel_rfl, by kernel_rfl⟩
instance : ConcTy Try.prog 92 := ⟨by kernel_rfl⟩
instance : TyZero Try.prog 92 [.map none] := ⟨by kernel_rfl⟩
instance : MapTy Try.prog 92 118 31 := ⟨Try.underlying92⟩
instance : TySz Try.prog 94 true 8 112 := ⟨by kernel_rfl, by kernel_rfl⟩
instance : ConcTy Try.prog 94 := ⟨by kernel_rfl⟩
instance : TyZero Try.prog 94 [.slice none 0 0, .slice none 0 0, .int .i64 0, .int .i64 0, .int .i64 0, .int .i64 0, .slice none 0 0, .map none] := ⟨by kernel_rfl⟩
instance : FieldOff Try.prog 94 0 0 27 := ⟨by kernel_rfl⟩
instance : FieldOff Try.prog 94 1 7 92 := ⟨by kernel_rfl⟩
instance : BuildTy Try.prog 94 (fun i => (#[(0, 7), (7, 1)] : Array (Nat × Nat))[i]?) [.slice none 0 0, .slice none 0 0, .int .i64 0, .int .i64 0, .int .i64 0, .int .i64 0, .slice none 0 0, .map none] := ⟨fun _ => by kernel_rfl⟩
instance : TySz Try.prog 95 false 1 24 := ⟨by kernel_rfl, by kernel_rfl⟩
instance : ConcTy Try.prog 95 := ⟨by kernel_rfl⟩
instance : TyZero Try.prog 95 [.slice none 0 0] := ⟨by kernel_rfl⟩
instance : SliceOf Try.prog 95 97 := ⟨Try.underlying95⟩
instance : TySz Try.prog 97 false 1 8 := ⟨by kernel_rfl, by kernel_rfl⟩
instance : ConcTy Try.prog 97 := ⟨by kernel_rfl⟩
instance : TyZero Try.prog 97 [.int .u64 0] := ⟨by kernel_rfl⟩
instance : IntTy Try.prog 97 .u64 := ⟨Try.underlying97⟩
instance : TySz Try.prog 99 false 1 8 := ⟨by kernel_rfl, by kernel_rfl⟩
instance : ConcTy Try.prog 99 := ⟨by kernel_rfl⟩
instance : TyZero Try.prog 99 [.nilFunc] := ⟨by kernel_rfl⟩
instance : TySz Try.prog 109 false 1 2 := ⟨by kernel_rfl, by kernel_rfl⟩
instance : ConcTy Try.prog 109 := ⟨by kernel_rfl⟩
instance : TyZero Try.prog 109 [.int .u16 0] := ⟨by kernel_rfl⟩
instance : IntTy Try.prog 109 .u16 := ⟨Try.underlying109⟩
instance : TySz Try.prog 111 true 1 8 := ⟨by kernel_rfl, by kernel_rfl⟩
instance : ConcTy Try.prog 111 := ⟨by kernel_rfl⟩
instance : TyZero Try.prog 111 [.int .i64 0] := ⟨by kernel_rfl⟩
instance : FieldOff Try.prog 111 0 0 32 := ⟨by kernel_rfl⟩
instance : BuildTy Try.prog 111 (fun i => (#[(0, 1)] : Array (Nat × Nat))[i]?) [.int .i64 0] := ⟨fun _ => by kernel_rfl⟩
instance : TySz Try.prog 113 false 1 8 := ⟨by kernel_rfl, by kernel_rfl⟩
instance : ConcTy Try.prog 113 := ⟨by kernel_rfl⟩
instance : TyZero Try.prog 113 [.nilFunc] := ⟨by kernel_rfl⟩
instance : TySz Try.prog 115 true 3 24 := ⟨by kernel_rfl, by kernel_rfl⟩
instance : ConcTy Try.prog 115 := ⟨by kernel_rfl⟩
instance : TyZero Try.prog 115 [.int .i64 0, .int .i64 0, .int .i64 0] := ⟨by kernel_rfl⟩
instance : FieldOff Try.prog 115 0 0 3 := ⟨by kernel_rfl⟩
instance : FieldOff Try.prog 115 1 1 31 := ⟨by kernel_rfl⟩
instance : BuildTy Try.prog 115 (fun i => (#[(0, 1), (1, 2)] : Array (Nat × Nat))[i]?) [.int .i64 0, .int .i64 0, .int .i64 0] := ⟨fun _ => by kernel_rfl⟩
instance : TySz Try.prog 118 true 8 64 := ⟨by kernel_rfl, by kernel_rfl⟩
instance : ConcTy Try.prog 118 := ⟨by kernel_rfl⟩
instance : TyZero Try.prog 118 [.int .i64 0, .int .i64 0, .int .i64 0, .int .i64 0, .int .i64 0, .int .i64 0, .int .i64 0, .int .u64 0] := ⟨by kernel_rfl⟩
instance : FieldOff Try.prog 118 0 0 86 := ⟨by kernel_rfl⟩
instance : FieldOff Try.prog 118 1 6 3 := ⟨by kernel_rfl⟩
instance : FieldOff Try.prog 118 2 7 97 := ⟨by kernel_rfl⟩
instance : BuildTy Try.prog 118 (fun i => (#[(0, 6), (6, 1), (7, 1)] : Array (Nat × Nat))[i]?) [.int .i64 0, .int .i64 0, .int .i64 0, .int .i64 0, .int .i64 0, .int .i64 0, .int .i64 0, .int .u64 0] := ⟨fun _ => by kernel_rfl⟩
instance : TySz Try.prog 119 false 1 24 := ⟨by kernel_rfl, by kernel_rfl⟩
instance : ConcTy Try.prog 119 := ⟨by kernel_rfl⟩
instance : TyZero Try.prog 119 [.slice none 0 0] := ⟨by kernel_rfl⟩
instance : SliceOf Try.prog 119 139 := ⟨Try.underlying119⟩
instance : TySz Try.prog 125 false 1 8 := ⟨by kernel_rfl, by kernel_rfl⟩
instance : ConcTy Try.prog 125 := ⟨by kernel_rfl⟩
instance : TyZero Try.prog 125 [.nilFunc] := ⟨by kernel_rfl⟩
instance : TySz Try.prog 128 true 1 8 := ⟨by kernel_rfl, by kernel_rfl⟩
instance : ConcTy Try.prog 128 := ⟨by kernel_rfl⟩
instance : TyZero Try.prog 128 [.nilFunc] := ⟨by kernel_rfl⟩
instance : FieldOff Try.prog 128 0 0 87 := ⟨by kernel_rfl⟩
instance : BuildTy Try.prog 128 (fun i => (#[(0, 1)] : Array (Nat × Nat))[i]?) [.nilFunc] := ⟨fun _ => by kernel_rfl⟩
instance : TySz Try.prog 130 false 1 8 := ⟨by kernel_rfl, by kernel_rfl⟩
instance : ConcTy Try.prog 130 := ⟨by kernel_rfl⟩
instance : TyZero Try.prog 130 [.nilFunc] := ⟨by kernel_rfl⟩
instance : TySz Try.prog 133 false 1 4 := ⟨by kernel_rfl, by kernel_rfl⟩
instance : ConcTy Try.prog 133 := ⟨by kernel_rfl⟩
instance : TyZero Try.prog 133 [.int .u32 0] := ⟨by kernel_rfl⟩
instance : IntTy Try.prog 133 .u32 := ⟨Try.underlying133⟩
instance : TySz Try.prog 135 false 1 8 := ⟨by kernel_rfl, by kernel_rfl⟩
instance : ConcTy Try.prog 135 := ⟨by kernel_rfl⟩
instance : TyZero Try.prog 135 [.int .u64 0] := ⟨by kernel_rfl⟩
instance : IntTy Try.prog 135 .u64 := ⟨Try.underlying135⟩
instance : TySz Try.prog 139 false 1 16 := ⟨by kernel_rfl, by kernel_rfl⟩
instance : TyZero Try.prog 139 [.nilIface] := ⟨by kernel_rfl⟩
instance : IfaceTy Try.prog 139 := ⟨by kernel_rfl⟩
instance : TySz Try.prog 142 true 3 24 := ⟨by kernel_rfl, by kernel_rfl⟩
instance : ConcTy Try.prog 142 := ⟨by kernel_rfl⟩
instance : TyZero Try.prog 142 [.int .i64 0, .int .i64 0, .int .i64 0] := ⟨by kernel_rfl⟩
instance : FieldOff Try.prog 142 0 0 24 := ⟨by kernel_rfl⟩
instance : BuildTy Try.prog 142 (fun i => (#[(0, 3)] : Array (Nat × Nat))[i]?) [.int .i64 0, .int .i64 0, .int .i64 0] := ⟨fun _ => by kernel_rfl⟩
instance : TySz Try.prog 144 true 4 32 := ⟨by kernel_rfl, by kernel_rfl⟩
instance : ConcTy Try.prog 144 := ⟨by kernel_rfl⟩
instance : TyZero Try.prog 144 [.int .i64 0, .int .i64 0, .int .i64 0, .int .i64 0] := ⟨by kernel_rfl⟩
instance : FieldOff Try.prog 144 0 0 142 := ⟨by kernel_rfl⟩
instance : FieldOff Try.prog 144 1 3 3 := ⟨by kernel_rfl⟩
instance : BuildTy Try.prog 144 (fun i => (#[(0, 3), (3, 1)] : Array (Nat × Nat))[i]?) [.int .i64 0, .int .i64 0, .int .i64 0, .int .i64 0] := ⟨fun _ => by kernel_rfl⟩
instance : TySz Try.prog 146 false 1 8 := ⟨by kernel_rfl, by kernel_rfl⟩
instance : ConcTy Try.prog 146 := ⟨by kernel_rfl⟩
instance : TyZero Try.prog 146 [.nilFunc] := ⟨by kernel_rfl⟩
instance : ZeroV Try.prog 31 (.agg #[.int .i64 0, .int .i64 0]) := ⟨by kernel_rfl⟩
instance : KeyTy Try.prog 31 [.i64, .i64] where
  dt := by kernel_rfl
  wide := by kernel_rfl
  sz := by kernel_rfl
  ng := by kernel_rfl
  ls := by
    intro is h hw
    match is, h with
    | [a0, a1], _ =>
      have c3 : Try.prog.cellsOf 3 = 1 := by kernel_rfl
      have c31 : Try.prog.cellsOf 31 = 2 := by kernel_rfl
      simp at hw
      simp [Program.keyLits, c3, c31, hw] <;> rfl
instance : KeyTy Try.prog 61 [.i64, .i64, .i64, .i64] where
  dt := by kernel_rfl
  wide := by kernel_rfl
  sz := by kernel_rfl
  ng := by kernel_rfl
  ls := by
    intro is h hw
    match is, h with
    | [a0, a1, a2, a3], _ =>
      have c3 : Try.prog.cellsOf 3 = 1 := by kernel_rfl
      have c31 : Try.prog.cellsOf 31 = 2 := by kernel_rfl
      have c61 : Try.prog.cellsOf 61 = 4 := by kernel_rfl
      simp at hw
      simp [Program.keyLits, c3, c31, c61, hw] <;> rfl
instance : KeyTy Try.prog 65 [.i64, .i64, .i64] where
  dt := by kernel_rfl
  wide := by kernel_rfl
  sz := by kernel_rfl
  ng := by kernel_rfl
  ls := by
    intro is h hw
    match is, h with
    | [a0, a1, a2], _ =>
      have c3 : Try.prog.cellsOf 3 = 1 := by kernel_rfl
      have c31 : Try.prog.cellsOf 31 = 2 := by kernel_rfl
      have c65 : Try.prog.cellsOf 65 = 3 := by kernel_rfl
      simp at hw
      simp [Program.keyLits, c3, c31, c65, hw] <;> rfl
instance : KeyTy Try.prog 118 [.i64, .i64, .i64, .i64, .i64, .i64, .i64, .u64] where
  dt := by kernel_rfl
  wide := by kernel_rfl
  sz := by kernel_rfl
  ng := by kernel_rfl
  ls := by
    intro is h hw
    match is, h with
    | [a0, a1, a2, a3, a4, a5, a6, a7], _ =>
      have c3 : Try.prog.cellsOf 3 = 1 := by kernel_rfl
      have c86 : Try.prog.cellsOf 86 = 6 := by kernel_rfl
      have c97 : Try.prog.cellsOf 97 = 1 := by kernel_rfl
      have c118 : Try.prog.cellsOf 118 = 8 := by kernel_rfl
      simp at hw
      simp [Program.keyLits, c3, c86, c97, c118, hw, List.range_succ] <;> rfl
instance : HasBody Try.prog 3 := ⟨by kernel_rfl⟩
instance : HasBody Try.prog 4 := ⟨by kernel_rfl⟩
instance : HasBody Try.prog 5 := ⟨by kernel_rfl⟩
instance : HasBody Try.prog 6 := ⟨by kernel_rfl⟩
instance : HasBody Try.prog 7 := ⟨by kernel_rfl⟩
instance : HasBody Try.prog 8 := ⟨by kernel_rfl⟩
instance : HasBody Try.prog 9 := ⟨by kernel_rfl⟩
instance : HasBody Try.prog 10 := ⟨by kernel_rfl⟩
instance : HasBody Try.prog 11 := ⟨by kernel_rfl⟩
instance : HasBody Try.prog 12 := ⟨by kernel_rfl⟩
instance : HasBody Try.prog 13 := ⟨by kernel_rfl⟩
instance : HasBody Try.prog 14 := ⟨by kernel_rfl⟩
instance : HasBody Try.prog 15 := ⟨by kernel_rfl⟩
instance : HasBody Try.prog 16 := ⟨by kernel_rfl⟩
instance : HasBody Try.prog 17 := ⟨by kernel_rfl⟩
instance : HasBody Try.prog 18 := ⟨by kernel_rfl⟩
instance : HasBody Try.prog 19 := ⟨by kernel_rfl⟩
instance : HasBody Try.prog 20 := ⟨by kernel_rfl⟩
instance : HasBody Try.prog 21 := ⟨by kernel_rfl⟩
instance : HasBody Try.prog 22 := ⟨by kernel_rfl⟩
instance : HasBody Try.prog 23 := ⟨by kernel_rfl⟩
instance : HasBody Try.prog 24 := ⟨by kernel_rfl⟩
instance : HasBody Try.prog 25 := ⟨by kernel_rfl⟩
instance : HasBody Try.prog 26 := ⟨by kernel_rfl⟩
instance : HasBody Try.prog 27 := ⟨by kernel_rfl⟩
instance : HasBody Try.prog 28 := ⟨by kernel_rfl⟩
instance : HasBody Try.prog 29 := ⟨by kernel_rfl⟩
instance : HasBody Try.prog 30 := ⟨by kernel_rfl⟩
instance : HasBody Try.prog 31 := ⟨by kernel_rfl⟩
instance : HasBody Try.prog 32 := ⟨by kernel_rfl⟩
instance : HasBody Try.prog 33 := ⟨by kernel_rfl⟩
instance : HasBody Try.prog 34 := ⟨by kernel_rfl⟩
instance : HasBody Try.prog 35 := ⟨by kernel_rfl⟩
instance : HasBody Try.prog 36 := ⟨by kernel_rfl⟩
instance : HasBody Try.prog 37 := ⟨by kernel_rfl⟩
instance : HasBody Try.prog 38 := ⟨by kernel_rfl⟩
instance : HasBody Try.prog 39 := ⟨by kernel_rfl⟩
instance : HasBody Try.prog 40 := ⟨by kernel_rfl⟩
instance : HasBody Try.prog 41 := ⟨by kernel_rfl⟩
instance : HasBody Try.prog 42 := ⟨by kernel_rfl⟩
instance : HasBody Try.prog 43 := ⟨by kernel_rfl⟩
instance : HasBody Try.prog 44 := ⟨by kernel_rfl⟩
instance : HasBody Try.prog 45 := ⟨by kernel_rfl⟩
instance : HasBody Try.prog 46 := ⟨by kernel_rfl⟩
instance : HasBody Try.prog 47 := ⟨by kernel_rfl⟩
instance : HasBody Try.prog 48 := ⟨by kernel_rfl⟩
instance : HasBody Try.prog 49 := ⟨by kernel_rfl⟩
instance : HasBody Try.prog 50 := ⟨by kernel_rfl⟩
instance : HasBody Try.prog 51 := ⟨by kernel_rfl⟩
instance : HasBody Try.prog 52 := ⟨by kernel_rfl⟩
instance : HasBody Try.prog 53 := ⟨by kernel_rfl⟩
instance : HasBody Try.prog 54 := ⟨by kernel_rfl⟩
instance : HasBody Try.prog 55 := ⟨by kernel_rfl⟩
instance : HasBody Try.prog 56 := ⟨by kernel_rfl⟩
instance : HasBody Try.prog 57 := ⟨by kernel_rfl⟩
instance : HasBody Try.prog 58 := ⟨by kernel_rfl⟩
instance : HasBody Try.prog 59 := ⟨by kernel_rfl⟩
instance : HasBody Try.prog 60 := ⟨by kernel_rfl⟩
instance : HasBody Try.prog 61 := ⟨by kernel_rfl⟩
instance : HasBody Try.prog 62 := ⟨by kernel_rfl⟩
instance : HasBody Try.prog 63 := ⟨by kernel_rfl⟩
instance : HasBody Try.prog 64 := ⟨by kernel_rfl⟩
instance : HasBody Try.prog 65 := ⟨by kernel_rfl⟩
instance : HasBody Try.prog 66 := ⟨by kernel_rfl⟩
instance : HasBody Try.prog 67 := ⟨by kernel_rfl⟩
instance : HasBody Try.prog 68 := ⟨by kernel_rfl⟩
instance : HasBody Try.prog 69 := ⟨by kernel_rfl⟩
instance : HasBody Try.prog 70 := ⟨by kernel_rfl⟩
instance : HasBody Try.prog 71 := ⟨by kernel_rfl⟩
instance : HasBody Try.prog 72 := ⟨by kernel_rfl⟩
instance : HasBody Try.prog 73 := ⟨by kernel_rfl⟩
instance : HasBody Try.prog 74 := ⟨by kernel_rfl⟩
instance : HasBody Try.prog 75 := ⟨by kernel_rfl⟩
instance : HasBody Try.prog 76 := ⟨by kernel_rfl⟩
instance : HasBody Try.prog 77 := ⟨by kernel_rfl⟩
instance : HasBody Try.prog 78 := ⟨by kernel_rfl⟩
instance : HasBody Try.prog 79 := ⟨by kernel_rfl⟩
instance : HasBody Try.prog 80 := ⟨by kernel_rfl⟩
instance : HasBody Try.prog 81 := ⟨by kernel_rfl⟩
instance : HasBody Try.prog 82 := ⟨by kernel_rfl⟩
instance : HasBody Try.prog 83 := ⟨by kernel_rfl⟩
instance : HasBody Try.prog 84 := ⟨by kernel_rfl⟩
instance : HasBody Try.prog 85 := ⟨by kernel_rfl⟩
instance : HasBody Try.prog 86 := ⟨by kernel_rfl⟩
instance : HasBody Try.prog 87 := ⟨by kernel_rfl⟩
instance : HasBody Try.prog 88 := ⟨by kernel_rfl⟩
instance : HasBody Try.prog 89 := ⟨by kernel_rfl⟩
instance : HasBody Try.prog 90 := ⟨by kernel_rfl⟩
instance : HasBody Try.prog 91 := ⟨by kernel_rfl⟩
instance : HasBody Try.prog 92 := ⟨by kernel_rfl⟩
instance : HasBody Try.prog 93 := ⟨by kernel_rfl⟩
instance : HasBody Try.prog 94 := ⟨by kernel_rfl⟩
instance : HasBody Try.prog 95 := ⟨by kernel_rfl⟩
instance : HasBody Try.prog 96 := ⟨by kernel_rfl⟩
instance : HasBody Try.prog 97 := ⟨by kernel_rfl⟩
instance : HasBody Try.prog 98 := ⟨by kernel_rfl⟩
instance : HasBody Try.prog 99 := ⟨by kernel_rfl⟩
instance : HasBody Try.prog 100 := ⟨by kernel_rfl⟩
instance : HasBody Try.prog 101 := ⟨by kernel_rfl⟩
instance : HasBody Try.prog 102 := ⟨by kernel_rfl⟩
instance : HasBody Try.prog 103 := ⟨by kernel_rfl⟩
instance : HasBody Try.prog 104 := ⟨by kernel_rfl⟩
instance : HasBody Try.prog 105 := ⟨by kernel_rfl⟩
instance : HasBody Try.prog 106 := ⟨by kernel_rfl⟩
instance : HasBody Try.prog 107 := ⟨by kernel_rfl⟩
instance : HasBody Try.prog 108 := ⟨by kernel_rfl⟩
instance : HasBody Try.prog 109 := ⟨by kernel_rfl⟩
instance : HasBody Try.prog 110 := ⟨by kernel_rfl⟩
instance : HasBody Try.prog 111 := ⟨by kernel_rfl⟩
instance : HasBody Try.prog 112 := ⟨by kernel_rfl⟩
instance : HasBody Try.prog 113 := ⟨by kernel_rfl⟩
instance : HasBody Try.prog 114 := ⟨by kernel_rfl⟩
instance : HasBody Try.prog 130 := ⟨by kernel_rfl⟩
instance : HasBody Try.prog 131 := ⟨by kernel_rfl⟩
end Go.Proofs.Ytlpahkmfjpjheaa
end

section
namespace Go.Proofs.Ytlpahkmfjpjheaa
open Go.RowKit
/-- Alike but at some slots. -/
def But (fl : List Nat) (e e' : Env) : Prop := ∀ t, fl.contains t = false → e' t = e t
def QC (ds : List Deferred) (fl : List Nat) (Q : Post) (A : Env → Hp → Prop) : Post
  | .normal, e, ds', L => ds' = ds ∧ A e L
  | .panic ch, e, ds', L => ∀ e', But fl e e' → Q (.panic ch) e' ds' L
  | _, _, _, _ => False
/-- What has not come up waits for all of T. -/
def lateChk (ops : Array Oper) (T : List Nat) (listed : Array Bool) : Bool := (List.range ops.size).all fun j => listed.getD j true || let c := clo ops ops.size (preds ops j); T.all fun t => c.contains t
/-- Every order of what writes, B as it was; behind it what waits for all that floats (T): k2 operations, in every order. -/
def AnyC (P : Program) (r : Option Nat) (n N : Nat) (w0 : World) (ops : Array Oper) (Q : Post) (ds : List Deferred) (fl : List Nat) (B : Hp) (T : List Nat) (k2 : Nat) : Nat → Array Bool → Env → Hp → Prop
  | 0, listed, e, L => Sub B L ∧ lateChk ops T listed = true ∧ ∃ L1, L.Perm L1 ∧ AnyO P r n N w0 ops Q ds k2 listed e L1
  | fuel + 1, listed, e, L => Sub B L ∧ Region.ready .any ops listed ≠ [] ∧ ∀ j ∈ Region.ready .any ops listed, ∃ o, ops[j]? = some o ∧ OPS P r n N w0 ops [o] (QC ds fl Q (AnyC P r n N w0 ops Q ds fl B T k2 fuel (listed.setIfInBounds j true))) e ds L
section
variable {P : Program} {r : Option Nat} {n N : Nat} {w0 : World} {ops : Array Oper} {Q : Post} {ds : List Deferred} {e : Env} {L B : Hp} {fl T : List Nat} {k2 : Nat}
theorem AnyC.sub : ∀ {fuel : Nat} {listed : Array Bool}, AnyC P r n N w0 ops Q ds fl B T k2 fuel listed e L → Sub B L
  | 0, _, h => h.1
  | _ + 1, _, h => h.1
theorem AnyC.perm {L' : Hp} (k : L'.Perm L) : ∀ {fuel : Nat} {listed : Array Bool}, AnyC P r n N w0 ops Q ds fl B T k2 fuel listed e L → AnyC P r n N w0 ops Q ds fl B T k2 fuel listed e L'
  | 0, _, h => ⟨h.1.perm k, h.2.1, let ⟨L1, h1, h2⟩ := h.2.2; ⟨L1, k.trans h1, h2⟩⟩
  | _ + 1, _, h => ⟨h.1.perm k, h.2.1, fun j hj => let ⟨o, ho, h3⟩ := h.2.2 j hj; ⟨o, ho, fun a w hs he hd hI => h3 a w hs he hd (hI.perm k)⟩⟩
/-- How it may end. -/
def PQ0 (n N : Nat) (w0 : World) (fl : List Nat) (Q : Post) : Exit → Act → World → Prop := fun x a w => ∃ ch, x = .panic ch ∧ a.tmps.size = n ∧ ∃ L', Inv N w0 L' w ∧ ∀ e', But fl (envOf a) e' → Q (.panic ch) e' a.defers L'
theorem wpOpIn_of_OPSC {i : Nat} {o : Oper} {A : Env → Hp → Prop} (ho : ops[i]? = some o) (h : OPS P r n N w0 ops [o] (QC ds fl Q A) e ds L) {a : Act} {w : World} (hs : a.tmps.size = n) (he : envOf a = e) (hd : a.defers = ds) (hI : Inv N w0 L w) :
    wpOpIn (FW r) 0 P ops (PQ0 n N w0 fl Q) i (fun a w => a.tmps.size = n ∧ a.defers = ds ∧ ∃ L', Inv N w0 L' w ∧ A (envOf a) L') a w := by
  have h1 := h a w hs he hd hI
  unfold wpListIn at h1
  unfold wpOpIn
  rw [ho]
  simp only
  have key : ∀ a w, wpListIn (FW r) 0 P ops (PostA n N w0 (QC ds fl Q A)) [] a w → (a.tmps.size = n ∧ a.defers = ds ∧ ∃ L', Inv N w0 L' w ∧ A (envOf a) L') := by
    rintro a w ⟨hs', L', hI', hd', hA⟩
    exact ⟨hs', hd', L', hI', hA⟩
  split
  · rename_i hw
    rw [if_pos hw] at h1
    have h2 := Oper.wpIn_mono key h1
    refine ⟨h2.1, uponIn_monoQ (Q1 := PostA n N w0 (QC ds fl Q A)) ?_ h2.2⟩
    rintro x a w hx ⟨hs', L', hI', hq⟩
    cases x <;> first
      | exact absurd rfl hx
      | exact ⟨_, rfl, hs', L', hI', hq⟩
      | exact hq.elim
  · rename_i hw
    rw [if_neg hw] at h1
    exact ⟨h1.1, key _ _ h1.2⟩
theorem wpOpIn_monoC {i : Nat} {K : Act → World → Prop} {Q1 Q2 : Exit → Act → World → Prop} {a : Act} {w : World} (hq : ∀ x a w, x ≠ .normal → Q1 x a w → Q2 x a w) (h : wpOpIn (FW r) 0 P ops Q1 i K a w) : wpOpIn (FW r) 0 P ops Q2 i K a w := by
  unfold wpOpIn at h ⊢
  cases ho : ops[i]? with
  | none => rw [ho] at h; exact h
  | some o =>
    rw [ho] at h
    simp only at h ⊢
    split
    · rename_i hw
      rw [if_pos hw] at h
      exact ⟨h.1, uponIn_monoQ (Q1 := Q1) hq h.2⟩
    · rename_i hw
      rw [if_neg hw] at h
      exact h
theorem PQ0_post : ∀ x a w, x ≠ Exit.normal → PQ0 n N w0 fl Q x a w → PostA n N w0 Q x a w := by
  rintro x a w - ⟨ch, rfl, hs, L', hI, hq⟩
  exact ⟨hs, L', hI, hq _ fun _ _ => rfl⟩
theorem AnyC.any : ∀ {fuel : Nat} {listed : Array Bool} {e : Env} {L : Hp}, AnyC P r n N w0 ops Q ds fl B T k2 fuel listed e L → AnyO P r n N w0 ops Q ds (fuel + k2) listed e L
  | 0, _, _, _, h => by
    rintro a w hs he hd hI
    obtain ⟨_, _, L1, h2, h3⟩ := h
    rw [Nat.zero_add]
    exact h3 a w hs he hd (hI.perm h2)
  | fuel + 1, listed, e, L, h => by
    rintro a w hs he hd hI
    rw [Nat.succ_add]
    refine ⟨fun h0 => absurd h0 h.2.1, fun j hj => ?_⟩
    obtain ⟨o, ho, h3⟩ := h.2.2 j hj
    have h4 := wpOpIn_monoC (Q2 := PostA n N w0 Q) PQ0_post (wpOpIn_of_OPSC ho h3 hs he hd hI)
    refine wpOpIn_mono ?_ h4
    rintro a1 w1 ⟨hs1, hd1, L1, hI1, hA1⟩
    exact AnyC.any hA1 a1 w1 hs1 rfl hd1 hI1
theorem updAll_but : ∀ (ts : List Pd) (e : Env), (∀ x ∈ ts, ∀ t, x.2.1.dst = some t → fl.contains t = true) → But fl (updAll e ts) e
  | [], e, _ => fun _ _ => rfl
  | x :: ts, e, h => by
    intro t ht
    have ih := updAll_but ts (updO e x.2.1.dst x.2.2) (fun y hy => h y (List.mem_cons_of_mem _ hy)) t ht
    simp only [updAll, List.foldl_cons] at ih ⊢
    rw [← ih]
    have hne : ∀ t', x.2.1.dst = some t' → Operand.tmp t ≠ .tmp t' := by
      intro t' ht' he
      injection he with he
      subst he
      have := h x List.mem_cons_self _ ht'
      rw [ht] at this; cases this
    have := ev_updO (e := e) (v := x.2.2) (x := .tmp t) hne
    exact this.symm
theorem uponIn_backC {F : Fence} {o : Oper} {ts : List Pd} {K K' : Act → World → Prop} {PQ PQ' : Exit → Act → World → Prop} {a : Act} (hq : ∀ ch w, PQ (.panic ch) (putAll a ts) w → PQ' (.panic ch) a w) (hlo : LetsOut PQ → LetsOut PQ') (hp : ∀ x ∈ ts, ∀ t, x.2.1.dst = some t → o.dst ≠ some t)
    (hk : ∀ (v : Value) (ds : List Deferred) (w : World), K (putAll ({ a with defers := ds }.put o.dst v) ts) w → K' ({ a with defers := ds }.put o.dst v) w) {x : Result Next} (h : o.uponIn F 0 P (putAll a ts) K PQ x) : o.uponIn F 0 P a K' PQ' x := by
  have hv : ∀ (v : Value) (w : World), K ((putAll a ts).put o.dst v) w → K' (a.put o.dst v) w := fun v w h => hk v a.defers w (by rw [putAll_put ts a hp] at h; exact h)
  cases x with
  | ok x w' =>
    cases x <;> simp only [Oper.uponIn] at h ⊢ <;>
      first
        | exact hv _ _ h
        | (rw [putAll_def, putAll_defers, putAll_put ts _ hp] at h; exact hk _ _ _ h)
        | exact h.elim
        | exact ⟨h.1, CallsIn.mono h.2 (fun e w'' he => by cases e <;> first | exact hv _ _ he | exact hq _ _ he | exact hlo he)⟩
        | exact ⟨h.1, RoundIn.mono h.2 (fun e w'' he => by cases e <;> first | exact hv _ _ he | exact hq _ _ he | exact hlo he)⟩
        | exact ⟨h.1, RowsIn.mono h.2 (fun v w'' he => hv _ _ he)⟩
  | halt x w' =>
    cases x <;> simp only [Oper.uponIn] at h ⊢ <;> first | exact h.elim | exact hq _ _ h
theorem wpOpIn_backC {j : Nat} {o : Oper} {ts : List Pd} {K K' : Act → World → Prop} {PQ PQ' : Exit → Act → World → Prop} {a : Act} {w : World} (ho : ops[j]? = some o) (hf : fine n o = true) (hq : ∀ ch w, PQ (.panic ch) (putAll a ts) w → PQ' (.panic ch) a w) (hlo : LetsOut PQ → LetsOut PQ') (ha : ∀ x ∈ ts, x.2.1.apart ops o = true)
    (hl : PLexB P n N w0 ops L (envOf a) ts) (hs : a.tmps.size = n) (hk : ∀ a1 w1, a1.tmps.size = n → PLexB P n N w0 ops L (envOf a1) ts → K (putAll a1 ts) w1 → K' a1 w1) (h : wpOpIn (FW r) 0 P ops PQ j K (putAll a ts) w) : wpOpIn (FW r) 0 P ops PQ' j K' a w := by
  obtain ⟨f1, f2, f3⟩ := fine_spec hf
  obtain ⟨e1, _⟩ := envOf_putAllB ts _ a hl hs
  obtain ⟨x1, x2⟩ := exec_all (ops := ops) f3 ts (envOf a) ha
  have hp : ∀ x ∈ ts, ∀ t, x.2.1.dst = some t → o.dst ≠ some t := fun x hx => (Oper.apart_spec (ha x hx)).2.1
  have hk' : ∀ (v : Value) (ds : List Deferred) (w : World), K (putAll ({ a with defers := ds }.put o.dst v) ts) w → K' ({ a with defers := ds }.put o.dst v) w := by
    intro v ds w hK
    refine hk _ _ (size_put.trans hs) ?_ hK
    have h1 : envOf (({ a with defers := ds } : Act).put o.dst v) = updO (envOf a) o.dst v := envOf_put (a := { a with defers := ds }) hs f1
    rw [h1]
    exact hl.upd ts _ ha
  unfold wpOpIn at h ⊢
  rw [ho] at h ⊢
  simp only [yieldE_eq, e1, x2] at h ⊢
  split
  · rename_i hw
    rw [if_pos hw] at h
    refine ⟨fun f _ => FW_fn r f, ?_⟩
    have h2 := h.2
    rw [Oper.semAt_eq _ _ _ (isDefer_ne f2), eval_eq] at h2 ⊢
    rw [e1, x1] at h2
    exact uponIn_backC hq hlo hp hk' h2
  · rename_i hw
    rw [if_neg hw] at h
    refine ⟨fun f _ => FW_fn r f, ?_⟩
    have h2 := h.2
    rw [putAll_put ts a hp] at h2
    exact hk' undef a.defers w h2

theorem pendC (hTS : ∀ i ∈ T, ∀ j, j < ops.size → j ∉ T → waits ops i j = true ∨ waits ops j i = true ∨ apartO ops i j = true) (hfine : ∀ (j : Nat) (o : Oper), ops[j]? = some o → fine n o = true) (hfl : ∀ i ∈ T, ∀ o, ops[i]? = some o → ∀ t, o.dst = some t → fl.contains t = true) :
    ∀ (k : Nat) (ts : List Pd) (fuel2 : Nat) (hdone listed : Array Bool) (a : Act) (w : World) (L1 : Hp), ts.length + fuel2 + k2 = k → Ready T ops hdone listed (ts.map (·.1)) → (∀ x ∈ ts, x.1 ∈ T) → (∀ t ∈ T, hdone.getD t true = true) → PLexB P n N w0 ops L (envOf a) ts → a.tmps.size = n → a.defers = ds → Inv N w0 L1 w →
      AnyC P r n N w0 ops Q ds fl L T k2 fuel2 hdone (envOf (putAll a ts)) L1 → wpAnyIn (FW r) 0 P .any ops (PostA n N w0 Q) k listed a w
  | k, [], fuel2, hdone, listed, a, w, L1, hk, hR, _, _, _, hs, hd, hI, h => by
    have : hdone = listed := by
      apply Array.ext (by rw [hR.szd, hR.sz])
      intro i h1 h2
      have := hR.fin i (by rw [← hR.sz]; exact h2)
      simpa [h1, h2] using this
    subst this
    simp only [List.length_nil, Nat.zero_add] at hk
    subst hk
    exact h.any a w hs rfl hd hI
  | 0, _ :: _, _, _, _, _, _, _, hk, _, _, _, _, _, _, _, _ => by simp at hk
  | k + 1, t0 :: tr, fuel2, hdone, listed, a, w, L1, hk, hR, hT, hTd, hl, hs, hd, hI, h => by
    have notAp : ∀ j, j ∈ Region.ready .any ops listed → ∀ i ∈ (t0 :: tr).map (·.1), waits ops j i = false := by
      intro j hj i hi
      cases hw : waits ops j i with
      | false => rfl
      | true => exact (getD_tf (hR.un i hi) ((ready_preds hj).2 i (waits_pred hw))).elim
    unfold wpAnyIn
    refine ⟨fun h0 => ?_, fun j hj => ?_⟩
    · exfalso
      have hj : t0.1 ∈ Region.ready .any ops listed := by
        rw [mem_ready]
        refine ⟨hR.un _ List.mem_cons_self, ?_⟩
        have hlt := (hR.self t0.1 List.mem_cons_self).2
        refine ⟨ops[t0.1], Array.getElem?_eq_getElem hlt, fun ed he hb => ?_⟩
        have hp : ed.on ∈ preds ops t0.1 := by
          unfold preds
          rw [Array.getElem?_eq_getElem hlt]
          simp only [List.mem_map, List.mem_filter]
          exact ⟨ed, ⟨by simpa using he, hb⟩, rfl⟩
        rcases hR.pr t0.1 List.mem_cons_self _ hp with h1 | h1
        · exact h1
        · rcases List.mem_cons.1 h1 with h1 | h1
          · have := (hR.self t0.1 List.mem_cons_self).1
            have h2 := pred_waits hp
            rw [h1] at h2; rw [h2] at this; cases this
          · have := (List.pairwise_cons.1 hR.fw).1 _ h1
            rw [pred_waits hp] at this; cases this
      rw [h0] at hj; cases hj
    · obtain ⟨hjl, hjp⟩ := ready_preds hj
      have hlt : j < ops.size := by
        obtain ⟨_, o, ho, _⟩ := mem_ready.1 hj
        exact (Array.getElem?_eq_some_iff.1 ho).1
      by_cases hjT : j ∈ (t0 :: tr).map (·.1)
      · -- it is one that floats
        obtain ⟨x, hx, rfl⟩ := List.mem_map.1 hjT
        obtain ⟨t1, t2, he⟩ := List.append_of_mem hx
        rw [he] at hk hR hT hl h notAp
        have hap : ∀ y ∈ t1, y.2.1.apart ops x.2.1 = true := by
          have hops : ∀ (ts : List Pd) (e : Env), PLexB P n N w0 ops L e ts → ∀ y ∈ ts, ops[y.1]? = some y.2.1 := by
            intro ts
            induction ts with
            | nil => intro _ _ y hy; cases hy
            | cons z ts ih =>
              intro e hh y hy
              rcases List.mem_cons.1 hy with rfl | hy
              · exact hh.1
              · exact ih _ hh.2.2.2 y hy
          intro y hy
          have h1 := hR.ap
          rw [List.map_append, List.pairwise_append] at h1
          rcases h1.2.2 y.1 (List.mem_map_of_mem hy) x.1 (by simp) with h2 | h2
          · rw [notAp x.1 hj y.1 (by simp only [List.map_append, List.mem_append]; exact .inl (List.mem_map_of_mem hy))] at h2; cases h2
          · exact apartO_spec h2 (hops _ _ hl y (by simp [hy])) (hops _ _ hl x (by simp))
        obtain ⟨k1, k2, k3, k4, k5⟩ := PLexB.pull t1 _ a hl hap
        have hnd := hR.nd
        have hj' : x.1 ∉ (t1 ++ t2).map (·.1) := by
          simp only [List.map_append, List.map_cons] at hnd
          have h1 := List.nodup_append.1 hnd
          simp only [List.nodup_cons] at h1
          intro hh
          simp only [List.map_append, List.mem_append] at hh
          rcases hh with hh | hh
          · exact h1.2.2 _ hh _ (by simp) rfl
          · exact h1.2.1.1 hh
        have hR' : Ready T ops hdone (listed.setIfInBounds x.1 true) ((t1 ++ t2).map (·.1)) := by
          refine hR.next ?_ (by simp) ?_ hj' hjp
          · simp only [List.map_append, List.map_cons]
            exact List.Sublist.append (List.Sublist.refl _) (List.sublist_cons_self _ _)
          · intro i hi
            simp only [List.map_append, List.map_cons, List.mem_append, List.mem_cons] at hi ⊢
            rcases hi with hh | hh | hh
            · exact .inr (.inl hh)
            · exact .inl hh
            · exact .inr (.inr hh)
        have hsz : (a.put x.2.1.dst x.2.2).tmps.size = n := size_put.trans hs
        have ih := fun w' (hI' : Inv N w0 L1 w') => pendC hTS hfine hfl k (t1 ++ t2) fuel2 hdone (listed.setIfInBounds x.1 true) (a.put x.2.1.dst x.2.2) w' L1 (by simp at hk ⊢; omega) hR' (fun y hy => hT y (by simp only [List.mem_append, List.mem_cons] at hy ⊢; rcases hy with hh | hh; exact .inl hh; exact .inr (.inr hh))) hTd
          (by rw [envOf_put hs (fine_spec k2).1]; exact k4) hsz (defers_put.trans hd) hI' (by rw [← k5]; exact h)
        obtain ⟨L0, hL0⟩ := h.sub
        exact wpOpIn_e (X := L0) k1 k2 k3 (hI.perm (hL0.trans List.perm_append_comm)) fun w' hI' => ih w' (hI'.perm (hL0.trans List.perm_append_comm).symm)
      · -- it is another one
        have hnd : hdone.getD j true = false := by
          rw [hR.fin j hlt, hjl]
          simp only [Bool.false_or, List.contains_eq_mem, decide_eq_false_iff_not]
          exact hjT
        have hjnT : j ∉ T := fun hh => by have := hTd j hh; rw [hnd] at this; cases this
        have hjr : j ∈ Region.ready .any ops hdone := by
          obtain ⟨_, o, ho, hpre⟩ := mem_ready.1 hj
          refine mem_ready.2 ⟨hnd, o, ho, fun ed he hb => ?_⟩
          have h1 := hpre ed he hb
          have hel : ed.on < ops.size := by
            rw [← hR.sz]
            cases hh : listed[ed.on]? with
            | none => rw [Array.getD_eq_getD_getElem?, hh] at h1; cases h1
            | some b => exact (Array.getElem?_eq_some_iff.1 hh).1
          have h2 := hR.fin ed.on hel
          have h3 : listed.getD ed.on true = true := by
            rw [Array.getD_eq_getD_getElem?] at h1 ⊢
            cases hh : listed[ed.on]? with
            | none => rw [hh] at h1; cases h1
            | some b => rw [hh] at h1; simpa using h1
          rw [h3, Bool.true_or] at h2
          rw [Array.getD_eq_getD_getElem?] at h2 ⊢
          cases hh : hdone[ed.on]? with
          | none => have := Array.getElem?_eq_none_iff.1 hh; rw [hR.szd] at this; omega
          | some b => rw [hh] at h2; simpa using h2
        obtain ⟨o, ho⟩ : ∃ o, ops[j]? = some o := ⟨_, Array.getElem?_eq_getElem hlt⟩
        cases fuel2 with
        | zero =>
          exfalso
          have h5 := h.2.1
          unfold lateChk at h5
          simp only [List.all_eq_true, List.mem_range] at h5
          have h6 := h5 j hlt
          rw [hnd] at h6
          simp only [Bool.false_or, List.all_eq_true, List.contains_eq_mem, decide_eq_true_eq] at h6
          have h7 := h6 t0.1 (hT t0 List.mem_cons_self)
          exact getD_tf (hR.un t0.1 List.mem_cons_self) (clo_listed hR.closed _ _ hjp _ h7)
        | succ fuel =>
          obtain ⟨o', ho', h2⟩ := h.2.2 j hjr
          rw [ho] at ho'; injection ho' with ho'; subst ho'
          have hops : ∀ (ts : List Pd) (e : Env), PLexB P n N w0 ops L e ts → ∀ y ∈ ts, ops[y.1]? = some y.2.1 := by
            intro ts
            induction ts with
            | nil => intro _ _ y hy; cases hy
            | cons z ts ih =>
              intro e hh y hy
              rcases List.mem_cons.1 hy with rfl | hy
              · exact hh.1
              · exact ih _ hh.2.2.2 y hy
          have hap : ∀ y ∈ t0 :: tr, y.2.1.apart ops o = true := by
            intro y hy
            rcases hTS y.1 (hT y hy) j hlt hjnT with h3 | h3 | h3
            · rcases hR.pr y.1 (List.mem_map_of_mem hy) j (waits_pred h3) with h4 | h4
              · exact (getD_tf hjl h4).elim
              · exact absurd h4 hjT
            · rw [notAp j hj y.1 (List.mem_map_of_mem hy)] at h3; cases h3
            · exact apartO_spec h3 (hops _ _ hl y hy) ho
          obtain ⟨e1, e2⟩ := envOf_putAllB (t0 :: tr) _ a hl hs
          have h3 := wpOpIn_of_OPSC ho h2 e2 rfl ((putAll_def _ a).trans hd) hI
          have hdst : ∀ x ∈ t0 :: tr, ∀ t, x.2.1.dst = some t → fl.contains t = true := fun x hx => hfl x.1 (hT x hx) x.2.1 (hops _ _ hl x hx)
          refine wpOpIn_backC (ts := t0 :: tr) (PQ := PQ0 n N w0 fl Q) ho (hfine j o ho) ?_ (fun ⟨_, _, ch, h0, _⟩ => by cases h0) hap hl hs ?_ h3
          · rintro ch w1 ⟨ch', h0, hs1, L2, hI2, hq2⟩
            injection h0 with h0
            subst h0
            refine ⟨hs, L2, hI2, ?_⟩
            have := hq2 (envOf a) (by rw [e1]; exact updAll_but _ _ hdst)
            rwa [putAll_def] at this
          rintro a1 w1 hs1 hl1 ⟨_, hd1, L2, hI2, hA2⟩
          refine pendC hTS hfine hfl k (t0 :: tr) fuel (hdone.setIfInBounds j true) (listed.setIfInBounds j true) a1 w1 L2 (by simp at hk ⊢; omega) (hR.both hjT hlt hjp) hT ?_ hl1 hs1 ((putAll_def _ a1).symm.trans hd1) hI2 hA2
          intro t ht
          exact getD_set_trueT (hTd t ht)

theorem any_of_lexC (hTS : ∀ i ∈ T, ∀ j, j < ops.size → j ∉ T → waits ops i j = true ∨ waits ops j i = true ∨ apartO ops i j = true) (hfine : ∀ (j : Nat) (o : Oper), ops[j]? = some o → fine n o = true) (hfl : ∀ i ∈ T, ∀ o, ops[i]? = some o → ∀ t, o.dst = some t → fl.contains t = true) {hdone : Array Bool} (hTd : ∀ t ∈ T, hdone.getD t true = true) {fuel2 : Nat} : ∀ (m : Nat) (E : List Nat) (S : List ASpec) (listed : Array Bool) (e ef : Env) (X : Hp), E.length + S.length = m → Ready T ops hdone listed (E ++ S.map ASpec.i) → (∀ s ∈ S, s.i ∉ T) → (S.map ASpec.i).Pairwise (fun i j => apartO ops i j = true) →
    LexR P n N w0 ops [] L E e ef → (∀ s ∈ S, s.ok P n ops ef) → KAll S ef (fun e' A => AnyC P r n N w0 ops Q ds fl L T k2 fuel2 hdone e' (A ++ (X ++ L))) → AnyO P r n N w0 ops Q ds (m + (fuel2 + k2)) listed e (X ++ L)
  | 0, E, S, listed, e, ef, X, hm, hR, _, _, hE, hS, hK => by
    have e1 : E = [] := List.eq_nil_of_length_eq_zero (by omega)
    have e2 : S = [] := List.eq_nil_of_length_eq_zero (by omega)
    subst e1; subst e2
    cases hE
    have : hdone = listed := by
      apply Array.ext (by rw [hR.szd, hR.sz])
      intro i h1 h2
      have := hR.fin i (by rw [← hR.sz]; exact h2)
      simpa [h1, h2] using this
    subst this
    rw [Nat.zero_add]
    exact AnyC.any hK
  | m + 1, E, S, listed, e, ef, X, hm, hR, hST, hAA, hE, hS, hK => by
    rintro a w hs rfl hd hI
    by_cases hall : S = [] ∧ ∀ i ∈ E, i ∈ T
    · -- only what floats is left
      obtain ⟨rfl, hET⟩ := hall
      obtain ⟨ts, k1, q2, k3⟩ := lex_pendB hE
      have hlen : ts.length = m + 1 := by have := congrArg List.length k1; simp at this hm ⊢; omega
      obtain ⟨e1, e2⟩ := envOf_putAllB ts _ a q2 hs
      refine pendC (k2 := k2) hTS hfine hfl (m + 1 + (fuel2 + k2)) ts fuel2 hdone listed a w (X ++ L) (by omega) (by rw [k1]; simpa using hR) (fun x hx => hET _ (by rw [← k1]; exact List.mem_map_of_mem hx)) hTd q2 hs hd hI ?_
      rw [e1, k3]; exact hK
    have hnot : ∃ i ∈ E ++ S.map ASpec.i, i ∉ T := by
      match S, hall, hST with
      | [], hall, _ =>
        have : ¬ ∀ i ∈ E, i ∈ T := fun h => hall ⟨rfl, h⟩
        simp only [Classical.not_forall] at this
        obtain ⟨i, hi, hn⟩ := this
        exact ⟨i, by simp [hi], hn⟩
      | s :: S, _, hST => exact ⟨s.i, by simp, hST s List.mem_cons_self⟩
    have hf : m + 1 + (fuel2 + k2) = (m + (fuel2 + k2)) + 1 := by omega
    rw [hf]
    unfold wpAnyIn
    have notAp : ∀ j, j ∈ Region.ready .any ops listed → ∀ i ∈ E ++ S.map ASpec.i, waits ops j i = false := by
      intro j hj i hi
      cases hw : waits ops j i with
      | false => rfl
      | true => exact (getD_tf (hR.un i hi) ((ready_preds hj).2 i (waits_pred hw))).elim
    refine ⟨fun h0 => ?_, fun j hj => ?_⟩
    · exfalso
      match hU : E ++ S.map ASpec.i, hR with
      | [], _ =>
        have := congrArg List.length hU
        rw [List.length_append, List.length_map, List.length_nil] at this
        omega
      | j :: U, hR =>
        have hj : j ∈ Region.ready .any ops listed := by
          rw [mem_ready]
          refine ⟨hR.un j List.mem_cons_self, ?_⟩
          have hlt := (hR.self j List.mem_cons_self).2
          refine ⟨ops[j], Array.getElem?_eq_getElem hlt, fun ed he hb => ?_⟩
          have hp : ed.on ∈ preds ops j := by
            unfold preds
            rw [Array.getElem?_eq_getElem hlt]
            simp only [List.mem_map, List.mem_filter]
            exact ⟨ed, ⟨by simpa using he, hb⟩, rfl⟩
          rcases hR.pr j List.mem_cons_self _ hp with h1 | h1
          · exact h1
          · rcases List.mem_cons.1 h1 with h1 | h1
            · have := (hR.self j List.mem_cons_self).1
              have h2 := pred_waits hp
              rw [h1] at h2; rw [h2] at this; cases this
            · have := (List.pairwise_cons.1 hR.fw).1 _ h1
              rw [pred_waits hp] at this; cases this
        rw [h0] at hj; cases hj
    · obtain ⟨hjl, hjp⟩ := ready_preds hj
      by_cases hjE : j ∈ E
      · obtain ⟨T1, T2, rfl⟩ := List.append_of_mem hjE
        have hap : ∀ i ∈ T1, apartO ops i j = true := by
          intro i hi
          have h1 := hR.ap
          rw [List.append_assoc, List.pairwise_append] at h1
          rcases h1.2.2 i hi j (by simp) with h2 | h2
          · rw [notAp j hj i (by simp [hi])] at h2; cases h2
          · exact h2
        obtain ⟨o, v, k1, k2, k3, k4⟩ := hE.pull T1 _ hap
        have hnd := hR.nd
        have hj' : j ∉ (T1 ++ T2) ++ S.map ASpec.i := by
          rw [List.append_assoc] at hnd
          have := List.nodup_append.1 hnd
          simp only [List.cons_append, List.nodup_cons] at this
          intro h
          simp only [List.mem_append] at h
          rcases h with (h | h) | h
          · exact this.2.2 j h j (by simp) rfl
          · exact this.2.1.1 (by simp [h])
          · exact this.2.1.1 (by simp only [List.mem_append]; exact .inr h)
        have hR' : Ready T ops hdone (listed.setIfInBounds j true) ((T1 ++ T2) ++ S.map ASpec.i) := by
          refine hR.next ?_ (by simp) ?_ hj' hjp
          · exact List.Sublist.append (List.Sublist.append (List.Sublist.refl _) (List.sublist_cons_self _ _)) (List.Sublist.refl _)
          · intro i hi
            simp only [List.mem_append, List.mem_cons] at hi ⊢
            rcases hi with (h | h | h) | h
            · exact .inr (.inl (.inl h))
            · exact .inl h
            · exact .inr (.inl (.inr h))
            · exact .inr (.inr h)
        have ih := any_of_lexC hTS hfine hfl hTd m (T1 ++ T2) S (listed.setIfInBounds j true) (updO (envOf a) o.dst v) ef X (by simp at hm ⊢; omega) hR' hST hAA k4 hS hK
        exact wpOpIn_e k1 k2 k3.1 hI fun w' hI' => ih _ _ (size_put.trans hs) (envOf_put hs (fine_spec k2).1) (defers_put.trans hd) hI'
      · by_cases hjS : j ∈ S.map ASpec.i
        · obtain ⟨s, hsS, rfl⟩ := List.mem_map.1 hjS
          obtain ⟨S1, S2, rfl⟩ := List.append_of_mem hsS
          have hok := hS s (by simp)
          have hapE : ∀ i ∈ E, apartO ops i s.i = true := by
            intro i hi
            have h1 := hR.ap
            rw [List.pairwise_append] at h1
            rcases h1.2.2 i hi s.i (by simp) with h2 | h2
            · rw [notAp s.i hj i (by simp [hi])] at h2; cases h2
            · exact h2
          have hapS : ∀ q ∈ S1, apartO ops q.i s.i = true := by
            intro q hq
            have h1 := hR.ap
            rw [List.pairwise_append] at h1
            have h2 := h1.2.1
            rw [List.map_append, List.pairwise_append] at h2
            rcases h2.2.2 q.i (List.mem_map_of_mem hq) s.i (by simp) with h3 | h3
            · rw [notAp s.i hj q.i (by simp; exact .inr (.inl ⟨q, hq, rfl⟩))] at h3; cases h3
            · exact h3
          have hokE := ASpec.back hE hapE hok
          have hnd := hR.nd
          have hnodup : s.i ∉ E ++ (S1 ++ S2).map ASpec.i := by
            simp only [List.map_append, List.map_cons] at hnd
            have h1 := List.nodup_append.1 hnd
            have h2 := List.nodup_append.1 h1.2.1
            simp only [List.nodup_cons] at h2
            intro h
            simp only [List.map_append, List.mem_append] at h
            rcases h with h | h | h
            · exact hjE h
            · exact h2.2.2 _ h _ (by simp) rfl
            · exact h2.2.1.1 h
          have hR' : Ready T ops hdone (listed.setIfInBounds s.i true) (E ++ (S1 ++ S2).map ASpec.i) := by
            refine hR.next ?_ (by simp) ?_ hnodup hjp
            · refine List.Sublist.append (List.Sublist.refl _) ?_
              simp only [List.map_append, List.map_cons]
              exact List.Sublist.append (List.Sublist.refl _) (List.sublist_cons_self _ _)
            · intro i hi
              simp only [List.map_append, List.map_cons, List.mem_append, List.mem_cons] at hi ⊢
              rcases hi with h | h | h | h
              · exact .inr (.inl h)
              · exact .inr (.inr (.inl h))
              · exact .inl h
              · exact .inr (.inr (.inr h))
          have hEu : ∀ b, LexR P n N w0 ops [] L E (updO (envOf a) s.o.dst (s.val b)) (updO ef s.o.dst (s.val b)) := fun b =>
            hE.upd (oj := s.o) rfl fun i hi oi ho => apartO_spec (hapE i hi) ho hok.1
          have hSu : ∀ b, ∀ q ∈ S1 ++ S2, q.ok P n ops (updO ef s.o.dst (s.val b)) := by
            intro b q hq
            have hqok := hS q (by simp only [List.mem_append, List.mem_cons] at hq ⊢; rcases hq with h | h; exact .inl h; exact .inr (.inr h))
            refine ASpec.upd (s := q) ?_ hqok
            rcases List.mem_append.1 hq with hq | hq
            · exact (Oper.apart_spec (apartO_spec (hapS q hq) hqok.1 hok.1)).2.2
            · rw [List.map_append, List.pairwise_append, List.map_cons, List.pairwise_cons] at hAA
              exact (Oper.apart_spec (apartO_spec (hAA.2.1.1 q.i (List.mem_map_of_mem hq)) hok.1 hqok.1)).1
          have hAA' : ((S1 ++ S2).map ASpec.i).Pairwise (fun i j => apartO ops i j = true) := by
            refine hAA.sublist ?_
            simp only [List.map_append, List.map_cons]
            exact List.Sublist.append (List.Sublist.refl _) (List.sublist_cons_self _ _)
          have hKp := hK.pull (s := s) (fun e A A' hp h => h.perm (hp.symm.append_right _)) S1 ef (fun q hq t ht => (Oper.apart_spec (apartO_spec (hapS q hq) (hS q (by simp [hq])).1 hok.1)).2.1 t ht)
          refine wpOpIn_a hokE hI fun b w' hI' => ?_
          have ih := any_of_lexC hTS hfine hfl hTd m E (S1 ++ S2) (listed.setIfInBounds s.i true) _ _ ((b, s.φ) :: X) (by simp at hm ⊢; omega) hR' (fun q hq => hST q (by simp only [List.mem_append, List.mem_cons] at hq ⊢; rcases hq with hh | hh; exact .inl hh; exact .inr (.inr hh))) hAA' (hEu b) (hSu b) ((hKp b).mono fun e' A h => h.perm (by
            rw [List.cons_append, List.cons_append]; exact List.perm_middle))
          exact ih _ _ (size_put.trans hs) (envOf_put hs (fine_spec hok.2.1).1) (defers_put.trans hd) hI'
        · exfalso
          have hlt : j < ops.size := by
            obtain ⟨_, o, ho, _⟩ := mem_ready.1 hj
            exact (Array.getElem?_eq_some_iff.1 ho).1
          have hnd : hdone.getD j true = false := by
            rw [hR.fin j hlt, hjl]
            simp only [Bool.false_or]
            simp only [List.contains_eq_mem, List.mem_append, decide_eq_false_iff_not, not_or]
            exact ⟨hjE, hjS⟩
          obtain ⟨i, hi, hn⟩ := hnot
          have h1 := hR.held j hlt hnd i hi hn
          exact getD_tf (hR.un i hi) (clo_listed hR.closed _ _ hjp i h1)
/-- Operations T may come up behind what writes, in any order: they read B alone, which is not written. -/
theorem WP_drawnC {id : Nat} {l : List Oper} (R B : Hp) (T E A fl : List Nat) {k k2 : Nat} (hL : L.Perm (R ++ B)) (hfl : (T.all fun i => match l[i]? with | some o => (match o.dst with | some t => fl.contains t | none => true) | none => true) = true) (hm : P.follows .mixedOrders = true) (hc : drawChk l.toArray T E A = true) (hf : floatChk n l.toArray T E A = true) (hk : l.length = E.length + A.length + (k + k2))
    (h : EWalk P n N w0 l.toArray [] B E e fun ef => AWalk P n l.toArray A ef ef fun e' A' => AnyC P r n N w0 l.toArray Q ds fl B T k2 k (doneOf l.length (E ++ A)) e' (A' ++ (R ++ B))) : WP P r n N w0 (.region id l.toArray true) Q e ds L := by
  refine WP_draw hm ?_
  refine AnyO.perm hL ?_
  obtain ⟨ef, hE, S, hS1, hS2, hK⟩ := h
  obtain ⟨hR, hAA⟩ := ready_of_chk hc
  subst hS1
  simp only [floatChk, Bool.and_eq_true, List.all_eq_true, Array.all_eq_true, Bool.not_eq_true', List.mem_range, Bool.or_eq_true] at hf
  obtain ⟨hf1, hf2⟩ := hf
  have hlt : ∀ t ∈ T, t < l.length := by
    intro t ht
    have h1 : t ∈ E := by simpa using (hf1 t ht).1.1
    have := (hR.self t (by simp [h1])).2
    simpa using this
  have := any_of_lexC (fl := fl) (P := P) (r := r) (Q := Q) (ds := ds) (fuel2 := k) (k2 := k2) (L := B) (w0 := w0) (N := N) (n := n) (T := T)
    (fun i hi j hj hjT => by
      have h1 := (hf1 i hi).2 j hj
      rcases h1 with ((h1 | h1) | h1) | h1
      · simp at h1; exact absurd h1 hjT
      · exact .inl h1
      · exact .inr (.inl h1)
      · exact .inr (.inr h1))
    (fun j o ho => by
      obtain ⟨h1, h2⟩ := Array.getElem?_eq_some_iff.1 ho
      rw [← h2]; exact hf2 j h1)
    (fun i hi o ho t ht => by
      simp only [List.all_eq_true] at hfl
      have h1 := hfl i hi
      have h2 : l[i]? = some o := by simpa using ho
      rw [h2] at h1
      simp only [ht] at h1
      exact h1)
    (fun t ht => by
      have h1 : t ∈ E := by simpa using (hf1 t ht).1.1
      have h2 := getD_doneOf (k := l.toArray.size) (U := E ++ S.map ASpec.i) (i := t) (by simpa using hlt t ht)
      rw [h2]; simp [h1])
    (E.length + S.length) E S _ e ef R rfl hR (fun s hs ht => by
      have := (hf1 s.i ht).1.2
      simp only [List.contains_eq_mem, decide_eq_false_iff_not] at this
      exact this (List.mem_map_of_mem hs)) hAA hE hS2 hK
  rw [List.length_map] at hk
  rw [← hk] at this
  simpa using this
/-- The same, B all that is owned. -/
theorem WP_drawnL {id : Nat} {l : List Oper} (T E A fl : List Nat) {k k2 : Nat} (hfl : (T.all fun i => match l[i]? with | some o => (match o.dst with | some t => fl.contains t | none => true) | none => true) = true) (hm : P.follows .mixedOrders = true) (hc : drawChk l.toArray T E A = true) (hf : floatChk n l.toArray T E A = true) (hk : l.length = E.length + A.length + (k + k2))
    (h : EWalk P n N w0 l.toArray [] L E e fun ef => AWalk P n l.toArray A ef ef fun e' A' => AnyC P r n N w0 l.toArray Q ds fl L T k2 k (doneOf l.length (E ++ A)) e' (A' ++ L)) : WP P r n N w0 (.region id l.toArray true) Q e ds L :=
  WP_drawnC [] L T E A fl (.refl _) hfl hm hc hf hk h
theorem QC_normal {A : Env → Hp → Prop} (h : A e L) : QC ds fl Q A .normal e ds L := ⟨rfl, h⟩
theorem QC_panic {A : Env → Hp → Prop} {ch : List PanicEntry} {ds' : List Deferred} (h : ∀ e', But fl e e' → Q (.panic ch) e' ds' L) : QC ds fl Q A (.panic ch) e ds' L := h
theorem AnyC_done {listed : Array Bool} (hs : Sub B L) (hr : Region.ready .any ops listed = []) (h : Q .normal e ds L) (hl : lateChk ops T listed = true := by kernel_rfl) : AnyC P r n N w0 ops Q ds fl B T 0 0 listed e L := ⟨hs, hl, L, .refl _, AnyO_done hr h⟩
/-- What is left waits for all that floats: B is free. -/
theorem AnyC_late {listed : Array Bool} (hs : Sub B L) (hl : lateChk ops T listed = true) (h : AnyO P r n N w0 ops Q ds k2 listed e L) : AnyC P r n N w0 ops Q ds fl B T k2 0 listed e L := ⟨hs, hl, L, .refl _, h⟩
theorem AnyC_1 {fuel : Nat} {listed : Array Bool} (i : Nat) {o : Oper} (hs : Sub B L) (hr : Region.ready .any ops listed = [i]) (ho : ops[i]? = some o) (h : OPS P r n N w0 ops [o] (QC ds fl Q (AnyC P r n N w0 ops Q ds fl B T k2 fuel (listed.setIfInBounds i true))) e ds L) :
    AnyC P r n N w0 ops Q ds fl B T k2 (fuel + 1) listed e L := by
  refine ⟨hs, by rw [hr]; simp, fun j hj => ?_⟩
  rw [hr] at hj
  rcases List.mem_cons.1 hj with rfl | hj
  · exact ⟨o, ho, h⟩
  · cases hj
theorem AnyC_2 {fuel : Nat} {listed : Array Bool} (i j : Nat) {o o' : Oper} (hs : Sub B L) (hr : Region.ready .any ops listed = [i, j]) (ho : ops[i]? = some o) (ho' : ops[j]? = some o') (h : OPS P r n N w0 ops [o] (QC ds fl Q (AnyC P r n N w0 ops Q ds fl B T k2 fuel (listed.setIfInBounds i true))) e ds L)
    (h' : OPS P r n N w0 ops [o'] (QC ds fl Q (AnyC P r n N w0 ops Q ds fl B T k2 fuel (listed.setIfInBounds j true))) e ds L) :
    AnyC P r n N w0 ops Q ds fl B T k2 (fuel + 1) listed e L := by
  refine ⟨hs, by rw [hr]; simp, fun q hq => ?_⟩
  rw [hr] at hq
  rcases List.mem_cons.1 hq with rfl | hq
  · exact ⟨o, ho, h⟩
  · rcases List.mem_cons.1 hq with rfl | hq
    · exact ⟨o', ho', h'⟩
    · cases hq
theorem AnyC_3 {fuel : Nat} {listed : Array Bool} (i j k : Nat) {o o' o'' : Oper} (hs : Sub B L) (hr : Region.ready .any ops listed = [i, j, k]) (ho : ops[i]? = some o) (ho' : ops[j]? = some o') (ho'' : ops[k]? = some o'') (h : OPS P r n N w0 ops [o] (QC ds fl Q (AnyC P r n N w0 ops Q ds fl B T k2 fuel (listed.setIfInBounds i true))) e ds L)
    (h' : OPS P r n N w0 ops [o'] (QC ds fl Q (AnyC P r n N w0 ops Q ds fl B T k2 fuel (listed.setIfInBounds j true))) e ds L) (h'' : OPS P r n N w0 ops [o''] (QC ds fl Q (AnyC P r n N w0 ops Q ds fl B T k2 fuel (listed.setIfInBounds k true))) e ds L) :
    AnyC P r n N w0 ops Q ds fl B T k2 (fuel + 1) listed e L := by
  refine ⟨hs, by rw [hr]; simp, fun q hq => ?_⟩
  rw [hr] at hq
  rcases List.mem_cons.1 hq with rfl | hq
  · exact ⟨o, ho, h⟩
  · rcases List.mem_cons.1 hq with rfl | hq
    · exact ⟨o', ho', h'⟩
    · rcases List.mem_cons.1 hq with rfl | hq
      · exact ⟨o'', ho'', h''⟩
      · cases hq
end
end Go.Proofs.Ytlpahkmfjpjheaa
end

section
namespace Go.Proofs.Ytlpahkmfjpjheaa
open Go.RowKit
section
variable {P : Program} {r : Option Nat} {n N : Nat} {w0 : World} {ops : Array Oper} {Q : Post} {ds : List Deferred} {e : Env} {L B : Hp} {fl T : List Nat} {k2 n0 fuel : Nat}
theorem Sub.appK {X : Hp} (h : Sub B L) : Sub (X ++ B) (X ++ L) := by
  obtain ⟨L0, h⟩ := h
  exact ⟨L0, by rw [List.append_assoc]; exact h.append_left X⟩
/-- The state, alone: a look ahead of a rule. -/
theorem ZgO (D : List Nat) (h : AnyO P r n N w0 ops Q ds fuel (doneOf n0 D) e L) : AnyO P r n N w0 ops Q ds fuel (doneOf n0 D) e L := h
theorem ZgB (D : List Nat) (h : AnyB P r n N w0 ops Q ds B fuel (doneOf n0 D) e L) : AnyB P r n N w0 ops Q ds B fuel (doneOf n0 D) e L := h
theorem ZgC (D : List Nat) (h : AnyC P r n N w0 ops Q ds fl B T k2 fuel (doneOf n0 D) e L) : AnyC P r n N w0 ops Q ds fl B T k2 fuel (doneOf n0 D) e L := h
theorem ZO1 (D : List Nat) (i : Nat) (D1 : List Nat) {o1 : Oper} (h1 : OPS P r n N w0 ops [o1] (QAny P r n N w0 ops ds Q fuel (doneOf n0 D1)) e ds L) (hr : Region.ready .any ops (doneOf n0 D) = [i] := by kernel_rfl) (e1 : (doneOf n0 D).setIfInBounds i true = doneOf n0 D1 := by kernel_rfl) (p1 : ops[i]? = some o1 := by rfl) : AnyO P r n N w0 ops Q ds (fuel + 1) (doneOf n0 D) e L := by
  intro a w hs he hd hI
  refine ⟨(fun h0 => by rw [hr] at h0; cases h0), fun q hq => ?_⟩
  rw [hr] at hq
  rcases List.mem_cons.1 hq with rfl | hq
  · exact wpOpIn_of_OPS p1 (by rw [e1]; exact h1) hs he hd hI
  · cases hq
theorem ZO2 (D : List Nat) (i : Nat) (D1 : List Nat) (j : Nat) (D2 : List Nat) {o1 o2 : Oper} (h1 : OPS P r n N w0 ops [o1] (QAny P r n N w0 ops ds Q fuel (doneOf n0 D1)) e ds L) (h2 : OPS P r n N w0 ops [o2] (QAny P r n N w0 ops ds Q fuel (doneOf n0 D2)) e ds L) (hr : Region.ready .any ops (doneOf n0 D) = [i, j] := by kernel_rfl) (e1 : (doneOf n0 D).setIfInBounds i true = doneOf n0 D1 := by kernel_rfl) (e2 : (doneOf n0 D).setIfInBounds j true = doneOf n0 D2 := by kernel_rfl) (p1 : ops[i]? = some o1 := by rfl) (p2 : ops[j]? = some o2 := by rfl) : AnyO P r n N w0 ops Q ds (fuel + 1) (doneOf n0 D) e L := by
  intro a w hs he hd hI
  refine ⟨(fun h0 => by rw [hr] at h0; cases h0), fun q hq => ?_⟩
  rw [hr] at hq
  rcases List.mem_cons.1 hq with rfl | hq
  · exact wpOpIn_of_OPS p1 (by rw [e1]; exact h1) hs he hd hI
  · skip
    rcases List.mem_cons.1 hq with rfl | hq
    · exact wpOpIn_of_OPS p2 (by rw [e2]; exact h2) hs he hd hI
    · cases hq
theorem ZO3 (D : List Nat) (i : Nat) (D1 : List Nat) (j : Nat) (D2 : List Nat) (k : Nat) (D3 : List Nat) {o1 o2 o3 : Oper} (h1 : OPS P r n N w0 ops [o1] (QAny P r n N w0 ops ds Q fuel (doneOf n0 D1)) e ds L) (h2 : OPS P r n N w0 ops [o2] (QAny P r n N w0 ops ds Q fuel (doneOf n0 D2)) e ds L) (h3 : OPS P r n N w0 ops [o3] (QAny P r n N w0 ops ds Q fuel (doneOf n0 D3)) e ds L) (hr : Region.ready .any ops (doneOf n0 D) = [i, j, k] := by kernel_rfl) (e1 : (doneOf n0 D).setIfInBounds i true = doneOf n0 D1 := by kernel_rfl) (e2 : (doneOf n0 D).setIfInBounds j true = doneOf n0 D2 := by kernel_rfl) (e3 : (doneOf n0 D).setIfInBounds k true = doneOf n0 D3 := by kernel_rfl) (p1 : ops[i]? = some o1 := by rfl) (p2 : ops[j]? = some o2 := by rfl) (p3 : ops[k]? = some o3 := by rfl) : AnyO P r n N w0 ops Q ds (fuel + 1) (doneOf n0 D) e L := by
  intro a w hs he hd hI
  refine ⟨(fun h0 => by rw [hr] at h0; cases h0), fun q hq => ?_⟩
  rw [hr] at hq
  rcases List.mem_cons.1 hq with rfl | hq
  · exact wpOpIn_of_OPS p1 (by rw [e1]; exact h1) hs he hd hI
  · skip
    rcases List.mem_cons.1 hq with rfl | hq
    · exact wpOpIn_of_OPS p2 (by rw [e2]; exact h2) hs he hd hI
    · skip
      rcases List.mem_cons.1 hq with rfl | hq
      · exact wpOpIn_of_OPS p3 (by rw [e3]; exact h3) hs he hd hI
      · cases hq
theorem ZO4 (D : List Nat) (i : Nat) (D1 : List Nat) (j : Nat) (D2 : List Nat) (k : Nat) (D3 : List Nat) (m : Nat) (D4 : List Nat) {o1 o2 o3 o4 : Oper} (h1 : OPS P r n N w0 ops [o1] (QAny P r n N w0 ops ds Q fuel (doneOf n0 D1)) e ds L) (h2 : OPS P r n N w0 ops [o2] (QAny P r n N w0 ops ds Q fuel (doneOf n0 D2)) e ds L) (h3 : OPS P r n N w0 ops [o3] (QAny P r n N w0 ops ds Q fuel (doneOf n0 D3)) e ds L) (h4 : OPS P r n N w0 ops [o4] (QAny P r n N w0 ops ds Q fuel (doneOf n0 D4)) e ds L) (hr : Region.ready .any ops (doneOf n0 D) = [i, j, k, m] := by kernel_rfl) (e1 : (doneOf n0 D).setIfInBounds i true = doneOf n0 D1 := by kernel_rfl) (e2 : (doneOf n0 D).setIfInBounds j true = doneOf n0 D2 := by kernel_rfl) (e3 : (doneOf n0 D).setIfInBounds k true = doneOf n0 D3 := by kernel_rfl) (e4 : (doneOf n0 D).setIfInBounds m true = doneOf n0 D4 := by kernel_rfl) (p1 : ops[i]? = some o1 := by rfl) (p2 : ops[j]? = some o2 := by rfl) (p3 : ops[k]? = some o3 := by rfl) (p4 : ops[m]? = some o4 := by rfl) : AnyO P r n N w0 ops Q ds (fuel + 1) (doneOf n0 D) e L := by
  intro a w hs he hd hI
  refine ⟨(fun h0 => by rw [hr] at h0; cases h0), fun q hq => ?_⟩
  rw [hr] at hq
  rcases List.mem_cons.1 hq with rfl | hq
  · exact wpOpIn_of_OPS p1 (by rw [e1]; exact h1) hs he hd hI
  · skip
    rcases List.mem_cons.1 hq with rfl | hq
    · exact wpOpIn_of_OPS p2 (by rw [e2]; exact h2) hs he hd hI
    · skip
      rcases List.mem_cons.1 hq with rfl | hq
      · exact wpOpIn_of_OPS p3 (by rw [e3]; exact h3) hs he hd hI
      · skip
        rcases List.mem_cons.1 hq with rfl | hq
        · exact wpOpIn_of_OPS p4 (by rw [e4]; exact h4) hs he hd hI
        · cases hq
theorem ZB1 (D : List Nat) (i : Nat) (D1 : List Nat) {o1 : Oper} (h1 : OPS P r n N w0 ops [o1] (QB ds (AnyB P r n N w0 ops Q ds B fuel (doneOf n0 D1))) e ds L) (hs : Sub B L := by repeat (first | exact Sub.refl _ | assumption | exact Sub.left | apply Sub.sv | apply Sub.cons | apply Sub.app)) (hr : Region.ready .any ops (doneOf n0 D) = [i] := by kernel_rfl) (e1 : (doneOf n0 D).setIfInBounds i true = doneOf n0 D1 := by kernel_rfl) (p1 : ops[i]? = some o1 := by rfl) : AnyB P r n N w0 ops Q ds B (fuel + 1) (doneOf n0 D) e L := by
  refine ⟨hs, by rw [hr]; simp, fun q hq => ?_⟩
  rw [hr] at hq
  rcases List.mem_cons.1 hq with rfl | hq
  · exact ⟨o1, p1, by rw [e1]; exact h1⟩
  · cases hq
theorem ZB2 (D : List Nat) (i : Nat) (D1 : List Nat) (j : Nat) (D2 : List Nat) {o1 o2 : Oper} (h1 : OPS P r n N w0 ops [o1] (QB ds (AnyB P r n N w0 ops Q ds B fuel (doneOf n0 D1))) e ds L) (h2 : OPS P r n N w0 ops [o2] (QB ds (AnyB P r n N w0 ops Q ds B fuel (doneOf n0 D2))) e ds L) (hs : Sub B L := by repeat (first | exact Sub.refl _ | assumption | exact Sub.left | apply Sub.sv | apply Sub.cons | apply Sub.app)) (hr : Region.ready .any ops (doneOf n0 D) = [i, j] := by kernel_rfl) (e1 : (doneOf n0 D).setIfInBounds i true = doneOf n0 D1 := by kernel_rfl) (e2 : (doneOf n0 D).setIfInBounds j true = doneOf n0 D2 := by kernel_rfl) (p1 : ops[i]? = some o1 := by rfl) (p2 : ops[j]? = some o2 := by rfl) : AnyB P r n N w0 ops Q ds B (fuel + 1) (doneOf n0 D) e L := by
  refine ⟨hs, by rw [hr]; simp, fun q hq => ?_⟩
  rw [hr] at hq
  rcases List.mem_cons.1 hq with rfl | hq
  · exact ⟨o1, p1, by rw [e1]; exact h1⟩
  · skip
    rcases List.mem_cons.1 hq with rfl | hq
    · exact ⟨o2, p2, by rw [e2]; exact h2⟩
    · cases hq
theorem ZB3 (D : List Nat) (i : Nat) (D1 : List Nat) (j : Nat) (D2 : List Nat) (k : Nat) (D3 : List Nat) {o1 o2 o3 : Oper} (h1 : OPS P r n N w0 ops [o1] (QB ds (AnyB P r n N w0 ops Q ds B fuel (doneOf n0 D1))) e ds L) (h2 : OPS P r n N w0 ops [o2] (QB ds (AnyB P r n N w0 ops Q ds B fuel (doneOf n0 D2))) e ds L) (h3 : OPS P r n N w0 ops [o3] (QB ds (AnyB P r n N w0 ops Q ds B fuel (doneOf n0 D3))) e ds L) (hs : Sub B L := by repeat (first | exact Sub.refl _ | assumption | exact Sub.left | apply Sub.sv | apply Sub.cons | apply Sub.app)) (hr : Region.ready .any ops (doneOf n0 D) = [i, j, k] := by kernel_rfl) (e1 : (doneOf n0 D).setIfInBounds i true = doneOf n0 D1 := by kernel_rfl) (e2 : (doneOf n0 D).setIfInBounds j true = doneOf n0 D2 := by kernel_rfl) (e3 : (doneOf n0 D).setIfInBounds k true = doneOf n0 D3 := by kernel_rfl) (p1 : ops[i]? = some o1 := by rfl) (p2 : ops[j]? = some o2 := by rfl) (p3 : ops[k]? = some o3 := by rfl) : AnyB P r n N w0 ops Q ds B (fuel + 1) (doneOf n0 D) e L := by
  refine ⟨hs, by rw [hr]; simp, fun q hq => ?_⟩
  rw [hr] at hq
  rcases List.mem_cons.1 hq with rfl | hq
  · exact ⟨o1, p1, by rw [e1]; exact h1⟩
  · skip
    rcases List.mem_cons.1 hq with rfl | hq
    · exact ⟨o2, p2, by rw [e2]; exact h2⟩
    · skip
      rcases List.mem_cons.1 hq with rfl | hq
      · exact ⟨o3, p3, by rw [e3]; exact h3⟩
      · cases hq
theorem ZB4 (D : List Nat) (i : Nat) (D1 : List Nat) (j : Nat) (D2 : List Nat) (k : Nat) (D3 : List Nat) (m : Nat) (D4 : List Nat) {o1 o2 o3 o4 : Oper} (h1 : OPS P r n N w0 ops [o1] (QB ds (AnyB P r n N w0 ops Q ds B fuel (doneOf n0 D1))) e ds L) (h2 : OPS P r n N w0 ops [o2] (QB ds (AnyB P r n N w0 ops Q ds B fuel (doneOf n0 D2))) e ds L) (h3 : OPS P r n N w0 ops [o3] (QB ds (AnyB P r n N w0 ops Q ds B fuel (doneOf n0 D3))) e ds L) (h4 : OPS P r n N w0 ops [o4] (QB ds (AnyB P r n N w0 ops Q ds B fuel (doneOf n0 D4))) e ds L) (hs : Sub B L := by repeat (first | exact Sub.refl _ | assumption | exact Sub.left | apply Sub.sv | apply Sub.cons | apply Sub.app)) (hr : Region.ready .any ops (doneOf n0 D) = [i, j, k, m] := by kernel_rfl) (e1 : (doneOf n0 D).setIfInBounds i true = doneOf n0 D1 := by kernel_rfl) (e2 : (doneOf n0 D).setIfInBounds j true = doneOf n0 D2 := by kernel_rfl) (e3 : (doneOf n0 D).setIfInBounds k true = doneOf n0 D3 := by kernel_rfl) (e4 : (doneOf n0 D).setIfInBounds m true = doneOf n0 D4 := by kernel_rfl) (p1 : ops[i]? = some o1 := by rfl) (p2 : ops[j]? = some o2 := by rfl) (p3 : ops[k]? = some o3 := by rfl) (p4 : ops[m]? = some o4 := by rfl) : AnyB P r n N w0 ops Q ds B (fuel + 1) (doneOf n0 D) e L := by
  refine ⟨hs, by rw [hr]; simp, fun q hq => ?_⟩
  rw [hr] at hq
  rcases List.mem_cons.1 hq with rfl | hq
  · exact ⟨o1, p1, by rw [e1]; exact h1⟩
  · skip
    rcases List.mem_cons.1 hq with rfl | hq
    · exact ⟨o2, p2, by rw [e2]; exact h2⟩
    · skip
      rcases List.mem_cons.1 hq with rfl | hq
      · exact ⟨o3, p3, by rw [e3]; exact h3⟩
      · skip
        rcases List.mem_cons.1 hq with rfl | hq
        · exact ⟨o4, p4, by rw [e4]; exact h4⟩
        · cases hq
theorem ZC1 (D : List Nat) (i : Nat) (D1 : List Nat) {o1 : Oper} (h1 : OPS P r n N w0 ops [o1] (QC ds fl Q (AnyC P r n N w0 ops Q ds fl B T k2 fuel (doneOf n0 D1))) e ds L) (hs : Sub B L := by repeat (first | exact Sub.refl _ | apply Sub.keep | apply Sub.appK | apply Sub.sv | apply Sub.cons | apply Sub.app)) (hr : Region.ready .any ops (doneOf n0 D) = [i] := by kernel_rfl) (e1 : (doneOf n0 D).setIfInBounds i true = doneOf n0 D1 := by kernel_rfl) (p1 : ops[i]? = some o1 := by rfl) : AnyC P r n N w0 ops Q ds fl B T k2 (fuel + 1) (doneOf n0 D) e L := by
  refine ⟨hs, by rw [hr]; simp, fun q hq => ?_⟩
  rw [hr] at hq
  rcases List.mem_cons.1 hq with rfl | hq
  · exact ⟨o1, p1, by rw [e1]; exact h1⟩
  · cases hq
theorem ZC2 (D : List Nat) (i : Nat) (D1 : List Nat) (j : Nat) (D2 : List Nat) {o1 o2 : Oper} (h1 : OPS P r n N w0 ops [o1] (QC ds fl Q (AnyC P r n N w0 ops Q ds fl B T k2 fuel (doneOf n0 D1))) e ds L) (h2 : OPS P r n N w0 ops [o2] (QC ds fl Q (AnyC P r n N w0 ops Q ds fl B T k2 fuel (doneOf n0 D2))) e ds L) (hs : Sub B L := by repeat (first | exact Sub.refl _ | apply Sub.keep | apply Sub.appK | apply Sub.sv | apply Sub.cons | apply Sub.app)) (hr : Region.ready .any ops (doneOf n0 D) = [i, j] := by kernel_rfl) (e1 : (doneOf n0 D).setIfInBounds i true = doneOf n0 D1 := by kernel_rfl) (e2 : (doneOf n0 D).setIfInBounds j true = doneOf n0 D2 := by kernel_rfl) (p1 : ops[i]? = some o1 := by rfl) (p2 : ops[j]? = some o2 := by rfl) : AnyC P r n N w0 ops Q ds fl B T k2 (fuel + 1) (doneOf n0 D) e L := by
  refine ⟨hs, by rw [hr]; simp, fun q hq => ?_⟩
  rw [hr] at hq
  rcases List.mem_cons.1 hq with rfl | hq
  · exact ⟨o1, p1, by rw [e1]; exact h1⟩
  · skip
    rcases List.mem_cons.1 hq with rfl | hq
    · exact ⟨o2, p2, by rw [e2]; exact h2⟩
    · cases hq
theorem ZC3 (D : List Nat) (i : Nat) (D1 : List Nat) (j : Nat) (D2 : List Nat) (k : Nat) (D3 : List Nat) {o1 o2 o3 : Oper} (h1 : OPS P r n N w0 ops [o1] (QC ds fl Q (AnyC P r n N w0 ops Q ds fl B T k2 fuel (doneOf n0 D1))) e ds L) (h2 : OPS P r n N w0 ops [o2] (QC ds fl Q (AnyC P r n N w0 ops Q ds fl B T k2 fuel (doneOf n0 D2))) e ds L) (h3 : OPS P r n N w0 ops [o3] (QC ds fl Q (AnyC P r n N w0 ops Q ds fl B T k2 fuel (doneOf n0 D3))) e ds L) (hs : Sub B L := by repeat (first | exact Sub.refl _ | apply Sub.keep | apply Sub.appK | apply Sub.sv | apply Sub.cons | apply Sub.app)) (hr : Region.ready .any ops (doneOf n0 D) = [i, j, k] := by kernel_rfl) (e1 : (doneOf n0 D).setIfInBounds i true = doneOf n0 D1 := by kernel_rfl) (e2 : (doneOf n0 D).setIfInBounds j true = doneOf n0 D2 := by kernel_rfl) (e3 : (doneOf n0 D).setIfInBounds k true = doneOf n0 D3 := by kernel_rfl) (p1 : ops[i]? = some o1 := by rfl) (p2 : ops[j]? = some o2 := by rfl) (p3 : ops[k]? = some o3 := by rfl) : AnyC P r n N w0 ops Q ds fl B T k2 (fuel + 1) (doneOf n0 D) e L := by
  refine ⟨hs, by rw [hr]; simp, fun q hq => ?_⟩
  rw [hr] at hq
  rcases List.mem_cons.1 hq with rfl | hq
  · exact ⟨o1, p1, by rw [e1]; exact h1⟩
  · skip
    rcases List.mem_cons.1 hq with rfl | hq
    · exact ⟨o2, p2, by rw [e2]; exact h2⟩
    · skip
      rcases List.mem_cons.1 hq with rfl | hq
      · exact ⟨o3, p3, by rw [e3]; exact h3⟩
      · cases hq
theorem ZC4 (D : List Nat) (i : Nat) (D1 : List Nat) (j : Nat) (D2 : List Nat) (k : Nat) (D3 : List Nat) (m : Nat) (D4 : List Nat) {o1 o2 o3 o4 : Oper} (h1 : OPS P r n N w0 ops [o1] (QC ds fl Q (AnyC P r n N w0 ops Q ds fl B T k2 fuel (doneOf n0 D1))) e ds L) (h2 : OPS P r n N w0 ops [o2] (QC ds fl Q (AnyC P r n N w0 ops Q ds fl B T k2 fuel (doneOf n0 D2))) e ds L) (h3 : OPS P r n N w0 ops [o3] (QC ds fl Q (AnyC P r n N w0 ops Q ds fl B T k2 fuel (doneOf n0 D3))) e ds L) (h4 : OPS P r n N w0 ops [o4] (QC ds fl Q (AnyC P r n N w0 ops Q ds fl B T k2 fuel (doneOf n0 D4))) e ds L) (hs : Sub B L := by repeat (first | exact Sub.refl _ | apply Sub.keep | apply Sub.appK | apply Sub.sv | apply Sub.cons | apply Sub.app)) (hr : Region.ready .any ops (doneOf n0 D) = [i, j, k, m] := by kernel_rfl) (e1 : (doneOf n0 D).setIfInBounds i true = doneOf n0 D1 := by kernel_rfl) (e2 : (doneOf n0 D).setIfInBounds j true = doneOf n0 D2 := by kernel_rfl) (e3 : (doneOf n0 D).setIfInBounds k true = doneOf n0 D3 := by kernel_rfl) (e4 : (doneOf n0 D).setIfInBounds m true = doneOf n0 D4 := by kernel_rfl) (p1 : ops[i]? = some o1 := by rfl) (p2 : ops[j]? = some o2 := by rfl) (p3 : ops[k]? = some o3 := by rfl) (p4 : ops[m]? = some o4 := by rfl) : AnyC P r n N w0 ops Q ds fl B T k2 (fuel + 1) (doneOf n0 D) e L := by
  refine ⟨hs, by rw [hr]; simp, fun q hq => ?_⟩
  rw [hr] at hq
  rcases List.mem_cons.1 hq with rfl | hq
  · exact ⟨o1, p1, by rw [e1]; exact h1⟩
  · skip
    rcases List.mem_cons.1 hq with rfl | hq
    · exact ⟨o2, p2, by rw [e2]; exact h2⟩
    · skip
      rcases List.mem_cons.1 hq with rfl | hq
      · exact ⟨o3, p3, by rw [e3]; exact h3⟩
      · skip
        rcases List.mem_cons.1 hq with rfl | hq
        · exact ⟨o4, p4, by rw [e4]; exact h4⟩
        · cases hq
/-- What is left waits for all that floats. -/
theorem ZCl (D : List Nat) (h : AnyO P r n N w0 ops Q ds k2 (doneOf n0 D) e L) (hs : Sub B L := by repeat (first | exact Sub.refl _ | apply Sub.keep | apply Sub.appK | apply Sub.sv | apply Sub.cons | apply Sub.app)) (hl : lateChk ops T (doneOf n0 D) = true := by kernel_rfl) : AnyC P r n N w0 ops Q ds fl B T k2 0 (doneOf n0 D) e L := AnyC_late hs hl h
theorem ZCd (D : List Nat) (h : Q .normal e ds L) (hs : Sub B L := by repeat (first | exact Sub.refl _ | apply Sub.keep | apply Sub.appK | apply Sub.sv | apply Sub.cons | apply Sub.app)) (hr : Region.ready .any ops (doneOf n0 D) = [] := by kernel_rfl) (hl : lateChk ops T (doneOf n0 D) = true := by kernel_rfl) : AnyC P r n N w0 ops Q ds fl B T 0 0 (doneOf n0 D) e L := AnyC_done hs hr h hl
theorem ZBd (D : List Nat) (h : Q .normal e ds L) (hs : Sub B L := by repeat (first | exact Sub.refl _ | assumption | exact Sub.left | apply Sub.sv | apply Sub.cons | apply Sub.app)) (hr : Region.ready .any ops (doneOf n0 D) = [] := by kernel_rfl) : AnyB P r n N w0 ops Q ds B 0 (doneOf n0 D) e L := AnyB_done hs hr h
theorem ZOd (D : List Nat) (h : Q .normal e ds L) (hr : Region.ready .any ops (doneOf n0 D) = [] := by kernel_rfl) : AnyO P r n N w0 ops Q ds 0 (doneOf n0 D) e L := AnyO_done hr h
/-! The shape of what is to be shown: a look ahead of many rules. -/
theorem GiP {r : Option Nat} {l : List Oper} (h : OPS P r n N w0 ops l Q e ds L) : OPS P r n N w0 ops l Q e ds L := h
theorem GiW {c : Code} (h : WP P r n N w0 c Q e ds L) : WP P r n N w0 c Q e ds L := h
theorem GiE {l : List Nat} {K : Env → Prop} (h : EWalk P n N w0 ops T L l e K) : EWalk P n N w0 ops T L l e K := h
theorem GiO {listed : Array Bool} (h : AnyO P r n N w0 ops Q ds fuel listed e L) : AnyO P r n N w0 ops Q ds fuel listed e L := h
theorem GiB {listed : Array Bool} (h : AnyB P r n N w0 ops Q ds B fuel listed e L) : AnyB P r n N w0 ops Q ds B fuel listed e L := h
theorem GiC {listed : Array Bool} (h : AnyC P r n N w0 ops Q ds fl B T k2 fuel listed e L) : AnyC P r n N w0 ops Q ds fl B T k2 fuel listed e L := h
end
end Go.Proofs.Ytlpahkmfjpjheaa
end

section
namespace Go.Proofs.Ytlpahkmfjpjheaa
open Go.RowKit
attribute [local irreducible] AnyO AnyB QAny QB EWalk AWalk Ev WP OPS QThen QBlock QScope QLoop QBody Val New Turn Tri Enters PostA Blk Ro AnyC QC
section
variable {P : Program} {r : Option Nat} {n N : Nat} {w0 : World} {ops : Array Oper} {o : Oper} {rest : List Oper} {Q : Post} {e : Env} {ds : List Deferred} {L : Hp} {op : Op} {ty : TypeId} {pos : String} {af : Array Edge} {g : Option (Nat × Bool)} {d : Nat} {d' : Option Nat}
/-- A value, in its outer form. -/
inductive Sh : Value → Value → Prop
  | i {k : IntKind} {m : Int} : Sh (.int k m) (.int k m)
  | p {b o : Nat} : Sh (.pointer (some ⟨b, o, none⟩)) (.pointer (some ⟨b, o, none⟩))
  | b {b : Bool} : Sh (.bool b) (.bool b)
  | s {a : Option Addr} {l c : Nat} : Sh (.slice a l c) (.slice a l c)
  | v {s : Option (Nat × Nat)} {k : Nat} : Sh (svV s k) (svV s k)
  | a {l : Array Value} : Sh (.agg l) (.agg l)
  | f {f : Fn} {a b : Array Value} : Sh (.func f a b) (.func f a b)
  | t {l : Array Value} : Sh (.tuple l) (.tuple l)
  | q {a : Option Addr} : Sh (.pointer a) (.pointer a)
  | n {t : TypeId} {v : Value} : Sh (.iface t v) (.iface t v)
  | ni : Sh .nilIface .nilIface
  | nf : Sh .nilFunc .nilFunc
  | m {b : Option Nat} : Sh (.map b) (.map b)
  | str {s : ByteArray} : Sh (.string s) (.string s)
  | z {v : Value} : Sh v v
theorem Sh.eq {a b : Value} (h : Sh a b) : a = b := by cases h <;> rfl
theorem Sh_move {x : Operand} {v : Value} (h : Sh (ev e x) v) : Val P N w0 L e ⟨d', .move x, ty, pos, af, g⟩ v := Val_move h.eq
theorem Sh_assign {x : Operand} {v : Value} (h : Sh (ev e x) v) : Val P N w0 L e ⟨d', .assign x, ty, pos, af, g⟩ v := Val_assign h.eq
theorem Sh_pick_t {c a b : Operand} {v : Value} (hc : ev e c = .bool true) (h : Sh (ev e a) v) : Val P N w0 L e ⟨d', .pick c a b, ty, pos, af, g⟩ v := Val_pick_t hc h.eq
theorem Sh_pick_f {c a b : Operand} {v : Value} (hc : ev e c = .bool false) (h : Sh (ev e b) v) : Val P N w0 L e ⟨d', .pick c a b, ty, pos, af, g⟩ v := Val_pick_f hc h.eq
theorem Sh_makeInterface {t : TypeId} [hc : ConcTy P t] {x : Operand} {v : Value} (h : Sh (ev e x) v) : Val P N w0 L e ⟨d', .makeInterface t x, ty, pos, af, g⟩ (.iface t v) := Val_makeInterface h.eq
theorem CellsR.c1S {v u : Value} {vals : List Value} {vs : List (List Value)} (hv : Sh v u) (hu : u.cells = #[u]) (k : CellsR vals vs) : CellsR (v :: vals) ([u] :: vs) := .c1 hv.eq hu k
theorem FillR.c1S {pl : Nat → Option (Nat × Nat)} {l l1 l' : List Value} {i off : Nat} {v u : Value} {rest : List (Nat × Value)} (hp : pl i = some (off, 1)) (hv : Sh v u) (hu : u.cells = #[u]) (hput : PutAt l off [u] l1) (k : FillR pl l1 rest l') : FillR pl l ((i, v) :: rest) l' := .c1 hp hv.eq hu hput k

theorem Turn_storeS {t : TypeId} {g' : Bool} {n bt : Nat} [TySz P t g' n bt] {x y : Operand} {b o : Nat} {T : TypeId} {v : Value} {vs l l' : List Value} {L' : Hp} (hx : ev e x = .pointer (some ⟨b, o, none⟩)) (hy : Sh (ev e y) v) (hu : Up L b (Blk T l) (Blk T l') L')
    (hv : v.cells = vs.toArray) (hp : PutAt l o vs l') (hn : vs.length = n) (h1 : ones vs = true) : Turn P N w0 L e ⟨d', .store t x y, ty, pos, af, g⟩ L' := Turn_store hx hy.eq hu hv hp hn h1
theorem New_boxS {t : TypeId} {x : Operand} {v : Value} {vs : List Value} (hx : Sh (ev e x) v) (hv : v.cells = vs.toArray) : New P e ⟨d', .box t x, ty, pos, af, g⟩ (.cells vs.toArray t (0, 0)) (fun b => .pointer (some ⟨b, 0, none⟩)) := New_box hx.eq hv
/-! ## Values -/
theorem Zmi {x : Operand} {k : IntKind} {m : Int} (h : ev e x = .int k m := by rfl) : Val P N w0 L e ⟨d', .move x, ty, pos, af, g⟩ (.int k m) := Val_move h
theorem Zmb {x : Operand} {b : Bool} (h : ev e x = .bool b := by rfl) : Val P N w0 L e ⟨d', .move x, ty, pos, af, g⟩ (.bool b) := Val_move h
theorem Zmv {x : Operand} {v : Value} (h : Sh (ev e x) v := by constructor) : Val P N w0 L e ⟨d', .move x, ty, pos, af, g⟩ v := Val_move h.eq
theorem Zai {x : Operand} {k : IntKind} {m : Int} (h : ev e x = .int k m := by rfl) : Val P N w0 L e ⟨d', .assign x, ty, pos, af, g⟩ (.int k m) := Val_assign h
theorem Zab {x : Operand} {b : Bool} (h : ev e x = .bool b := by rfl) : Val P N w0 L e ⟨d', .assign x, ty, pos, af, g⟩ (.bool b) := Val_assign h
theorem Zav {x : Operand} {v : Value} (h : Sh (ev e x) v := by constructor) : Val P N w0 L e ⟨d', .assign x, ty, pos, af, g⟩ v := Val_assign h.eq
theorem Zxlss {x y : Operand} {t t' : TypeId} {k : IntKind} {m n : Int} (hx : ev e x = .int k m := by rfl) (hy : ev e y = .int k n := by rfl) : Val P N w0 L e ⟨d', .binOp .lss t x y t', ty, pos, af, g⟩ (.bool (decide (m < n))) := Val_lss hx hy
theorem Zxleq {x y : Operand} {t t' : TypeId} {k : IntKind} {m n : Int} (hx : ev e x = .int k m := by rfl) (hy : ev e y = .int k n := by rfl) : Val P N w0 L e ⟨d', .binOp .leq t x y t', ty, pos, af, g⟩ (.bool (decide (m ≤ n))) := Val_leq hx hy
theorem Zxgtr {x y : Operand} {t t' : TypeId} {k : IntKind} {m n : Int} (hx : ev e x = .int k m := by rfl) (hy : ev e y = .int k n := by rfl) : Val P N w0 L e ⟨d', .binOp .gtr t x y t', ty, pos, af, g⟩ (.bool (decide (n < m))) := Val_gtr hx hy
theorem Zxgeq {x y : Operand} {t t' : TypeId} {k : IntKind} {m n : Int} (hx : ev e x = .int k m := by rfl) (hy : ev e y = .int k n := by rfl) : Val P N w0 L e ⟨d', .binOp .geq t x y t', ty, pos, af, g⟩ (.bool (decide (n ≤ m))) := Val_geq hx hy
theorem Zxeql {x y : Operand} {t t' : TypeId} {k : IntKind} {m n : Int} (hx : ev e x = .int k m := by rfl) (hy : ev e y = .int k n := by rfl) : Val P N w0 L e ⟨d', .binOp .eql t x y t', ty, pos, af, g⟩ (.bool (m == n)) := Val_eql hx hy
theorem Zxneq {x y : Operand} {t t' : TypeId} {k : IntKind} {m n : Int} (hx : ev e x = .int k m := by rfl) (hy : ev e y = .int k n := by rfl) : Val P N w0 L e ⟨d', .binOp .neq t x y t', ty, pos, af, g⟩ (.bool (m != n)) := Val_neq hx hy
theorem Zxadd {x y : Operand} {t t' : TypeId} {m n : Int} (hx : ev e x = .int .i64 m := by rfl) (hy : ev e y = .int .i64 n := by rfl) (h : InK .i64 (m + n) := by exact InK_i64 (by omega) (by omega)) : Val P N w0 L e ⟨d', .binOp .add t x y t', ty, pos, af, g⟩ (.int .i64 (m + n)) := Val_add hx hy h
theorem Zxsub {x y : Operand} {t t' : TypeId} {m n : Int} (hx : ev e x = .int .i64 m := by rfl) (hy : ev e y = .int .i64 n := by rfl) (h : InK .i64 (m - n) := by exact InK_i64 (by omega) (by omega)) : Val P N w0 L e ⟨d', .binOp .sub t x y t', ty, pos, af, g⟩ (.int .i64 (m - n)) := Val_sub hx hy h
theorem Zxmul {x y : Operand} {t t' : TypeId} {m n : Int} (hx : ev e x = .int .i64 m := by rfl) (hy : ev e y = .int .i64 n := by rfl) (h : InK .i64 (m * n) := by exact InK_i64 (by omega) (by omega)) : Val P N w0 L e ⟨d', .binOp .mul t x y t', ty, pos, af, g⟩ (.int .i64 (m * n)) := Val_mul hx hy h
theorem Zxrem {x y : Operand} {t t' : TypeId} {k : IntKind} {m n : Int} (hx : ev e x = .int k m := by rfl) (hy : ev e y = .int k n := by rfl) (h : n ≠ 0 := by omega) : Val P N w0 L e ⟨d', .binOp .rem t x y t', ty, pos, af, g⟩ (.int k (m.tmod n)) := Val_rem hx hy h
theorem Zxquo {x y : Operand} {t t' : TypeId} {m n : Int} (hx : ev e x = .int .i64 m := by rfl) (hy : ev e y = .int .i64 n := by rfl) (h : n ≠ 0 := by omega) (hb : InK .i64 (m.tdiv n) := by exact InK_i64 (by omega) (by omega)) : Val P N w0 L e ⟨d', .binOp .quo t x y t', ty, pos, af, g⟩ (.int .i64 (m.tdiv n)) := Val_quo hx hy h hb
theorem ZxeqlB {x y : Operand} {t t' : TypeId} [hb : BoolTy P t] {m n : Bool} (hx : ev e x = .bool m := by rfl) (hy : ev e y = .bool n := by rfl) : Val P N w0 L e ⟨d', .binOp .eql t x y t', ty, pos, af, g⟩ (.bool (m == n)) := Val_eqlB hx hy
theorem ZxneqB {x y : Operand} {t t' : TypeId} [hb : BoolTy P t] {m n : Bool} (hx : ev e x = .bool m := by rfl) (hy : ev e y = .bool n := by rfl) : Val P N w0 L e ⟨d', .binOp .neq t x y t', ty, pos, af, g⟩ (.bool (m != n)) := Val_neqB hx hy
theorem Zxnot {x : Operand} {t : TypeId} {m : Bool} (hx : ev e x = .bool m := by rfl) : Val P N w0 L e ⟨d', .unOp .not t x, ty, pos, af, g⟩ (.bool (!m)) := Val_not hx
theorem Zxneg {x : Operand} {t : TypeId} {m : Int} (hx : ev e x = .int .i64 m := by rfl) (h : InK .i64 (-m) := by exact InK_i64 (by omega) (by omega)) : Val P N w0 L e ⟨d', .unOp .neg t x, ty, pos, af, g⟩ (.int .i64 (-m)) := Val_neg hx h
theorem Zxmin {x y : Operand} {ts : Array TypeId} {k : IntKind} {m n : Int} (hx : ev e x = .int k m := by rfl) (hy : ev e y = .int k n := by rfl) : Val P N w0 L e ⟨d', .call { callee := .builtin .min, args := #[x, y], argTypes := ts }, ty, pos, af, g⟩ (.int k (min m n)) := Val_min hx hy
theorem Zxmax {x y : Operand} {ts : Array TypeId} {k : IntKind} {m n : Int} (hx : ev e x = .int k m := by rfl) (hy : ev e y = .int k n := by rfl) : Val P N w0 L e ⟨d', .call { callee := .builtin .max, args := #[x, y], argTypes := ts }, ty, pos, af, g⟩ (.int k (max m n)) := Val_max hx hy
theorem Zxlen {x : Operand} {t E : TypeId} [h : SliceOf P t E] {a : Option Addr} {m c : Nat} (hx : ev e x = .slice a m c := by rfl) : Val P N w0 L e ⟨d', .call { callee := .builtin .len, args := #[x], argTypes := #[t] }, ty, pos, af, g⟩ (.int .i64 m) := Val_len hx
theorem Zxex {x : Operand} {i : Nat} {l : List Value} {v : Value} (h : ev e x = .tuple l.toArray := by rfl) (hi : l[i]? = some v := by rfl) : Val P N w0 L e ⟨d', .extract x i, ty, pos, af, g⟩ v := Val_extract h hi
theorem Zxpt {c a b : Operand} {v : Value} (hc : ev e c = .bool true := by rfl) (h : Sh (ev e a) v := by constructor) : Val P N w0 L e ⟨d', .pick c a b, ty, pos, af, g⟩ v := Val_pick_t hc h.eq
theorem Zxpf {c a b : Operand} {v : Value} (hc : ev e c = .bool false := by rfl) (h : Sh (ev e b) v := by constructor) : Val P N w0 L e ⟨d', .pick c a b, ty, pos, af, g⟩ v := Val_pick_f hc h.eq
theorem Zxmi {t : TypeId} [hc : ConcTy P t] {x : Operand} {v : Value} (h : Sh (ev e x) v := by constructor) : Val P N w0 L e ⟨d', .makeInterface t x, ty, pos, af, g⟩ (.iface t v) := Val_makeInterface h.eq
theorem Zxnp {x : Operand} {a : Addr} (h : ev e x = .pointer (some a) := by rfl) : Val P N w0 L e ⟨d', .nilCheck x, ty, pos, af, g⟩ (.pointer (some a)) := Val_nilCheck_p h
theorem Zxnf {x : Operand} {f : FuncId} {a b : Array Value} (h : ev e x = .func (.func f) a b := by rfl) : Val P N w0 L e ⟨d', .nilCheck x, ty, pos, af, g⟩ (.func (.func f) a b) := Val_nilCheck_f h
theorem Zf0 {t ft : TypeId} {i : Nat} [hf : FieldOff P t i 0 ft] {g' : Bool} {n bt : Nat} [TySz P ft g' (n + 1) bt] {x : Operand} {b o : Nat} (hx : ev e x = .pointer (some ⟨b, o, none⟩) := by rfl) : Val P N w0 L e ⟨d', .fieldAddr t x i, ty, pos, af, g⟩ (.pointer (some ⟨b, o, none⟩)) := Val_fieldAddr0 hx
theorem Zfa {t ft : TypeId} {i off : Nat} [hf : FieldOff P t i off ft] {g' : Bool} {n bt : Nat} [TySz P ft g' (n + 1) bt] {x : Operand} {b o : Nat} (hx : ev e x = .pointer (some ⟨b, o, none⟩) := by rfl) : Val P N w0 L e ⟨d', .fieldAddr t x i, ty, pos, af, g⟩ (.pointer (some ⟨b, o + off, none⟩)) := Val_fieldAddr hx
theorem Zld {t : TypeId} {x : Operand} {v : Value} (h : Val P N w0 L e ⟨d', .load t x, ty, pos, af, g⟩ v := by first | exact Val_load1 rfl (by repeat (first | exact Mem.here | assumption | apply Mem.there | apply Mem.sv | apply Mem.app)) (by first | rfl | assumption) | exact Val_loadR1 rfl (by assumption) (by assumption)) : Val P N w0 L e ⟨d', .load t x, ty, pos, af, g⟩ v := h
theorem Zla {t : TypeId} {x : Operand} {v : Value} (h : Val P N w0 L e ⟨d', .load t x, ty, pos, af, g⟩ v := by first | exact Val_loadN rfl (by repeat (first | exact Mem.here | assumption | apply Mem.there | apply Mem.sv | apply Mem.app)) (by repeat (first | exact Pre.nil | apply Pre.cons | apply Cut.there | apply Cut.here)) | exact Val_loadW rfl (by repeat (first | exact Mem.here | assumption | apply Mem.there | apply Mem.sv | apply Mem.app)) (by first | rfl | assumption | (simp; done) | (simp; omega)) | exact Val_loadRN rfl (by assumption) (by assumption) (by rfl)) : Val P N w0 L e ⟨d', .load t x, ty, pos, af, g⟩ v := h
theorem Zia {t : TypeId} {x y : Operand} {v : Value} (h : Val P N w0 L e ⟨d', .indexAddr t x y, ty, pos, af, g⟩ v := by first | exact Val_indexAddr1 rfl rfl rfl (by first | assumption | omega | (simp; done) | (simp; omega)) | exact Val_indexAddr rfl rfl rfl (by first | assumption | omega | (simp; done) | (simp; omega)) | exact Val_indexAddrE1 rfl (by assumption) rfl rfl (by first | assumption | omega | (simp; done) | (simp; omega)) | exact Val_indexAddrE rfl (by assumption) rfl rfl (by first | assumption | omega | (simp; done) | (simp; omega))) : Val P N w0 L e ⟨d', .indexAddr t x y, ty, pos, af, g⟩ v := h
theorem ZiA {t : TypeId} {x y : Operand} {v : Value} (h : Val P N w0 L e ⟨d', .indexAddr t x y, ty, pos, af, g⟩ v := by first | exact Val_indexAddrA1 rfl rfl rfl (by first | assumption | omega | (simp; done) | (simp; omega)) | exact Val_indexAddrA rfl rfl rfl (by first | assumption | omega | (simp; done) | (simp; omega))) : Val P N w0 L e ⟨d', .indexAddr t x y, ty, pos, af, g⟩ v := h
theorem Zxbu {t : TypeId} {ps : Array (Nat × Operand)} {v : Value} (h : Val P N w0 L e ⟨d', .build t ps, ty, pos, af, g⟩ v := by exact Val_build rfl (by repeat (first | exact FillR.nil | (apply FillR.cA rfl rfl rfl (by repeat (first | exact Over.nil | apply Over.cons | apply PutAt.there | apply PutAt.here))) | (apply FillR.c1S rfl (by constructor) rfl (by repeat (first | exact Over.nil | apply Over.cons | apply PutAt.there | apply PutAt.here)))))) : Val P N w0 L e ⟨d', .build t ps, ty, pos, af, g⟩ v := h
theorem Zxfi {t : TypeId} {x : Operand} {i : Nat} {v : Value} (h : Val P N w0 L e ⟨d', .field t x i, ty, pos, af, g⟩ v := by exact Val_field rfl (by repeat (first | exact Pre.nil | apply Pre.cons | apply Cut.there | apply Cut.here)) rfl (by decide) (by decide)) : Val P N w0 L e ⟨d', .field t x i, ty, pos, af, g⟩ v := h
theorem Zxco {s t : TypeId} {x : Operand} {v : Value} (h : Val P N w0 L e ⟨d', .convert s t x, ty, pos, af, g⟩ v := by exact Val_convert rfl (by first | exact InK_i64 (by omega) (by omega) | exact IntWalk.u8_in _ (by omega) | (unfold InK; simp [IntKind.wrap, IntKind.bits, IntKind.signed]; omega))) : Val P N w0 L e ⟨d', .convert s t x, ty, pos, af, g⟩ v := h
theorem Zv {v : Value} (hv : Val P N w0 L e ⟨some d, op, ty, pos, af, g⟩ v) (h : OPS P r n N w0 ops rest Q (upd e d v) ds L)
    (hg : Region.wanted ⟨some d, op, ty, pos, af, g⟩ (yieldE ops e) = true := by rfl) (hnd : isDefer op = false := by rfl) (hd : Nat.blt d n = true := by rfl) :
    OPS P r n N w0 ops (⟨some d, op, ty, pos, af, g⟩ :: rest) Q e ds L := OPS_valS hv hg hnd hd h
/-- The same in a drawn region. -/
theorem Zew {i : Nat} {T : List Nat} {l : List Nat} {o : Oper} {v : Value} {K : Env → Prop} (ho : ops[i]? = some o) (hv : Val P N w0 L e o v) (h : EWalk P n N w0 ops T L l (upd e d v) K)
    (hd : o.dst = some d := by rfl)
    (hg : Region.wanted o (yieldE ops e) = true := by rfl) (hf : fine n o = true := by rfl) (hT : T.contains i = false := by rfl) : EWalk P n N w0 ops T L (i :: l) e K :=
  EWalk_evS ho hd hf hT hg (Ev_val hv) h
/-- A value that floats: it hangs on nothing that is owned. -/
theorem Zep {i : Nat} {T : List Nat} {l : List Nat} {o : Oper} {v : Value} {K : Env → Prop} (ho : ops[i]? = some o) (hv : ∀ w, Val P 0 w [] e o v) (h : EWalk P n N w0 ops T L l (upd e d v) K)
    (hd : o.dst = some d := by rfl)
    (hg : Region.wanted o (yieldE ops e) = true := by rfl) (hf : fine n o = true := by rfl) : EWalk P n N w0 ops T L (i :: l) e K :=
  EWalk_pvS ho hd hf hg hv h
/-- A contract's value, in a drawn region. -/
theorem Zec {i : Nat} {T : List Nat} {l : List Nat} {f : FuncId} {args : Array Value} {v : Value} {K : Env → Prop} (ho : ops[i]? = some ⟨some d, op, ty, pos, af, g⟩) (hv : Enters P e ⟨some d, op, ty, pos, af, g⟩ f args) (hc : ∀ X, Ret P N w0 (X ++ L) f args v) (h : EWalk P n N w0 ops T L l (upd e d v) K)
    (hg : Region.wanted ⟨some d, op, ty, pos, af, g⟩ (yieldE ops e) = true := by rfl) (hf : fine n ⟨some d, op, ty, pos, af, g⟩ = true := by rfl) (hT : T.contains i = false := by rfl) : EWalk P n N w0 ops T L (i :: l) e K :=
  EWalk_evS ho rfl hf hT hg (Ev_ret hv hc) h
theorem Zes {i : Nat} {T : List Nat} {l : List Nat} {K : Env → Prop} (h : EWalk P n N w0 ops T L l (upd e d undef) K) (ho : ops[i]? = some ⟨some d, op, ty, pos, af, g⟩ := by rfl)
    (hg : Region.wanted ⟨some d, op, ty, pos, af, g⟩ (yieldE ops e) = false := by rfl) (hf : fine n ⟨some d, op, ty, pos, af, g⟩ = true := by rfl) : EWalk P n N w0 ops T L (i :: l) e K := EWalk_skipS ho rfl hf hg h
/-- What stands in a slot that is asked for: a test. -/
def Tst (t : Bool) (p q : Prop) : Prop := (t = true → p) ∧ (t = false → q)
theorem tst_D {p : Prop} [Decidable p] : Tst (decide p) p (¬ p) := ⟨of_decide_eq_true, of_decide_eq_false⟩
theorem tst_E {m k : Int} : Tst (m == k) (m = k) (m ≠ k) := ⟨eq_of_beq, fun h h' => by rw [beq_eq_false_iff_ne] at h; exact h h'⟩
theorem tst_N {m k : Int} : Tst (m != k) (m ≠ k) (m = k) := ⟨bne_iff_ne.1, fun h => by rwa [bne_eq_false_iff_eq] at h⟩
theorem tst_V {b : Bool} : Tst (!b) (b = false) (b = true) := ⟨fun h => by cases b <;> simp_all, fun h => by cases b <;> simp_all⟩
theorem tst_B {b : Bool} : Tst b (b = true) (b = false) := ⟨fun h => h, fun h => h⟩
theorem tst_Xe {a b : Bool} : Tst (a == b) (a = b) (a ≠ b) := ⟨fun h => by simpa using h, fun h => by simpa using h⟩
theorem Zcd {x y : Code} {c : Operand} {t : Bool} {p q : Prop} (h1 : p → WP P r n N w0 x Q e ds L) (h2 : q → WP P r n N w0 y Q e ds L) (hc : ev e c = .bool t := by rfl) (ht : Tst t p q := by first | exact tst_D | exact tst_E | exact tst_N | exact tst_V | exact tst_B) : WP P r n N w0 (.cond c x y) Q e ds L :=
  WP_cond hc (fun h => h1 (ht.1 h)) (fun h => h2 (ht.2 h))
/-- A guard, parted. -/
theorem Zsp {j dj : Nat} {want : Bool} {t : Bool} {p q : Prop} (h1 : p → OPS P r n N w0 ops (⟨d', op, ty, pos, af, some (j, want)⟩ :: rest) Q (upd e dj (.bool true)) ds L) (h2 : q → OPS P r n N w0 ops (⟨d', op, ty, pos, af, some (j, want)⟩ :: rest) Q (upd e dj (.bool false)) ds L)
    (hj : (ops[j]?).bind (·.dst) = some dj := by rfl) (hd : e dj = .bool t := by rfl) (ht : Tst t p q := by first | exact tst_D | exact tst_E | exact tst_N | exact tst_V | exact tst_B) : OPS P r n N w0 ops (⟨d', op, ty, pos, af, some (j, want)⟩ :: rest) Q e ds L :=
  OPS_splitG (o := ⟨d', op, ty, pos, af, some (j, want)⟩) rfl hj hd (fun h => h1 (ht.1 h)) (fun h => h2 (ht.2 h))
theorem Zesp {i j dj : Nat} {T l : List Nat} {want : Bool} {t : Bool} {p q : Prop} {K : Env → Prop} (h1 : p → EWalk P n N w0 ops T L (i :: l) (upd e dj (.bool true)) K) (h2 : q → EWalk P n N w0 ops T L (i :: l) (upd e dj (.bool false)) K)
    (_ho : ops[i]? = some ⟨d', op, ty, pos, af, some (j, want)⟩ := by rfl) (_hj : (ops[j]?).bind (·.dst) = some dj := by rfl) (hd : e dj = .bool t := by rfl) (ht : Tst t p q := by first | exact tst_D | exact tst_E | exact tst_N | exact tst_V | exact tst_B) : EWalk P n N w0 ops T L (i :: l) e K :=
  EWalk_split dj hd (fun h => h1 (ht.1 h)) (fun h => h2 (ht.2 h))
theorem Zsk (h : OPS P r n N w0 ops rest Q (upd e d undef) ds L) (hg : Region.wanted ⟨some d, op, ty, pos, af, g⟩ (yieldE ops e) = false := by rfl) (hd : Nat.blt d n = true := by rfl) :
    OPS P r n N w0 ops (⟨some d, op, ty, pos, af, g⟩ :: rest) Q e ds L := OPS_skipS hg hd h
/-- A store. -/
theorem Zst {L' : Hp} (h : OPS P r n N w0 ops rest Q e ds L')
    (hv : Turn P N w0 L e ⟨none, op, ty, pos, af, g⟩ L' := by exact Turn_storeS rfl (by constructor) (by repeat (first | exact Up.here | apply Up.there | apply Up.sv)) (by first | exact svV_cells | rfl) (by repeat (first | exact Over.nil | apply Over.cons | apply PutAt.there | apply PutAt.here)) (by rfl) (by first | rfl | exact svV_ones))
    (hg : Region.wanted ⟨none, op, ty, pos, af, g⟩ (yieldE ops e) = true := by rfl) (hnd : isDefer op = false := by rfl) : OPS P r n N w0 ops (⟨none, op, ty, pos, af, g⟩ :: rest) Q e ds L := OPS_turnN hv hg hnd h
/-- A new block of cells, in the slot d. -/
theorem Zal (d : Nat) {T : TypeId} {l : List Value} {mk : Nat → Value} (h : ∀ b, OPS P r n N w0 ops rest Q (upd e d (mk b)) ds ((b, Blk T l) :: L))
    (hn : New P e ⟨some d, op, ty, pos, af, g⟩ (.cells l.toArray T (0, 0)) mk := by
      first
      | exact New_alloc
      | exact New_boxS (by constructor) (by first | exact svV_cells | rfl)
      | exact New_buildSliceR rfl rfl (by repeat (first | exact CellsR.nil | (apply CellsR.cA rfl) | (apply CellsR.c1S (by constructor) rfl))) rfl (by decide) rfl (by decide))
    (hg : Region.wanted ⟨some d, op, ty, pos, af, g⟩ (yieldE ops e) = true := by rfl) (hnd : isDefer op = false := by rfl) (hd : Nat.blt d n = true := by rfl) :
    OPS P r n N w0 ops (⟨some d, op, ty, pos, af, g⟩ :: rest) Q e ds L := OPS_newS blk_is hn hg hnd hd h
theorem Zam (d : Nat) {t : TypeId} (h : ∀ b, OPS P r n N w0 ops rest Q (upd e d (.map (some b))) ds ((b, Is (.map #[] 0)) :: L))
    (hg : Region.wanted ⟨some d, .makeMap t none, ty, pos, af, g⟩ (yieldE ops e) = true := by rfl) (hd : Nat.blt d n = true := by rfl) :
    OPS P r n N w0 ops (⟨some d, .makeMap t none, ty, pos, af, g⟩ :: rest) Q e ds L := OPS_newS is_is New_makeMap hg rfl hd h
/-- A call whose contract is known. -/
theorem Zcl {f : FuncId} {args : Array Value} {v : Value} (hv : Enters P e ⟨some d, op, ty, pos, af, g⟩ f args) (hc : Ret P N w0 L f args v) (h : OPS P r n N w0 ops rest Q (upd e d v) ds L)
    (hg : Region.wanted ⟨some d, op, ty, pos, af, g⟩ (yieldE ops e) = true := by rfl) (hnd : isDefer op = false := by rfl) (hd : Nat.blt d n = true := by rfl) : OPS P r n N w0 ops (⟨some d, op, ty, pos, af, g⟩ :: rest) Q e ds L := OPS_retS hv hc hg hnd hd h
/-- It is the slot d that is written. -/
theorem Zatd (d : Nat) (h : OPS P r n N w0 ops (⟨some d, op, ty, pos, af, g⟩ :: rest) Q e ds L) : OPS P r n N w0 ops (⟨some d, op, ty, pos, af, g⟩ :: rest) Q e ds L := h
theorem Zatn (h : OPS P r n N w0 ops (⟨none, op, ty, pos, af, g⟩ :: rest) Q e ds L) : OPS P r n N w0 ops (⟨none, op, ty, pos, af, g⟩ :: rest) Q e ds L := h
/-- A region. -/
theorem ZrN (id : Nat) {l : List Oper} (h : ∀ ops, OPS P r n N w0 ops l Q e ds L) : WP P r n N w0 (.region id l.toArray false) Q e ds L := WP_region (h _)
theorem ZrG (id : Nat) {l : List Oper} (h : OPS P r n N w0 l.toArray l Q e ds L) : WP P r n N w0 (.region id l.toArray false) Q e ds L := WP_region h
theorem Zsq {x y : Code} (h : ∀ K, HThen P r n N w0 y Q K → WP P r n N w0 x K e ds L) : WP P r n N w0 (.seq x y) Q e ds L := WP_seqK h
theorem Znl (h : Q .normal e ds L) : OPS P r n N w0 ops [] Q e ds L := OPS_nil h
theorem Zhn {y : Code} {K : Post} (h : WP P r n N w0 y Q e ds L) (hK : HThen P r n N w0 y Q K := by assumption) : K .normal e ds L := hK.normal h
/-- At a region's end: what stands behind it. -/
theorem Znh {y : Code} {K : Post} (h : WP P r n N w0 y Q e ds L) (hK : HThen P r n N w0 y Q K := by assumption) : OPS P r n N w0 ops [] K e ds L := OPS_nil (hK.normal h)
theorem Zhx {y : Code} {K : Post} {id : Nat} (h : Q (.exit id) e ds L) (hK : HThen P r n N w0 y Q K := by assumption) : K (.exit id) e ds L := hK.exit h
theorem Zhr {y : Code} {K : Post} (h : Q .ret e ds L) (hK : HThen P r n N w0 y Q K := by assumption) : K .ret e ds L := hK.ret h
theorem Zhp {y : Code} {K : Post} {ch : List PanicEntry} (h : Q (.panic ch) e ds L) (hK : HThen P r n N w0 y Q K := by assumption) : K (.panic ch) e ds L := hK.panic h
theorem ZisO {fuel : Nat} {listed : Array Bool} (h : AnyO P r n N w0 ops Q ds fuel listed e L) : AnyO P r n N w0 ops Q ds fuel listed e L := h
theorem Zati (i : Nat) {T : List Nat} {l : List Nat} {K : Env → Prop} (h : EWalk P n N w0 ops T L (i :: l) e K) : EWalk P n N w0 ops T L (i :: l) e K := h
/-- The ways out. -/
theorem Zqb {id id' : Nat} (h : Q (.exit id') e ds L) (hne : Nat.beq id' id = false := by rfl) : QBlock id Q (.exit id') e ds L := QBlock_miss hne h
end
end Go.Proofs.Ytlpahkmfjpjheaa
end

section
namespace Go.Proofs.Ytlpahkmfjpjheaa
open Go.RowKit
section
variable {P : Program} {N : Nat} {w0 : World} {L : Hp} {e : Env} {d : Option Nat} {ty : TypeId} {pos : String} {af : Array Edge} {g : Option (Nat × Bool)} {x y : Operand} {t t' : TypeId} {k : IntKind} {m n : Int}
theorem Val_lssT (hx : ev e x = .int k m) (hy : ev e y = .int k n) (h : m < n) : Val P N w0 L e ⟨d, .binOp .lss t x y t', ty, pos, af, g⟩ (.bool true) := by have := Val_lss (P := P) (N := N) (w0 := w0) (L := L) (d := d) (ty := ty) (pos := pos) (af := af) (g := g) (t := t) (t' := t') hx hy; rwa [decide_eq_true h] at this
theorem Val_lssF (hx : ev e x = .int k m) (hy : ev e y = .int k n) (h : ¬ m < n) : Val P N w0 L e ⟨d, .binOp .lss t x y t', ty, pos, af, g⟩ (.bool false) := by have := Val_lss (P := P) (N := N) (w0 := w0) (L := L) (d := d) (ty := ty) (pos := pos) (af := af) (g := g) (t := t) (t' := t') hx hy; rwa [decide_eq_false h] at this
theorem Val_leqT (hx : ev e x = .int k m) (hy : ev e y = .int k n) (h : m ≤ n) : Val P N w0 L e ⟨d, .binOp .leq t x y t', ty, pos, af, g⟩ (.bool true) := by have := Val_leq (P := P) (N := N) (w0 := w0) (L := L) (d := d) (ty := ty) (pos := pos) (af := af) (g := g) (t := t) (t' := t') hx hy; rwa [decide_eq_true h] at this
theorem Val_leqF (hx : ev e x = .int k m) (hy : ev e y = .int k n) (h : ¬ m ≤ n) : Val P N w0 L e ⟨d, .binOp .leq t x y t', ty, pos, af, g⟩ (.bool false) := by have := Val_leq (P := P) (N := N) (w0 := w0) (L := L) (d := d) (ty := ty) (pos := pos) (af := af) (g := g) (t := t) (t' := t') hx hy; rwa [decide_eq_false h] at this
theorem Val_gtrT (hx : ev e x = .int k m) (hy : ev e y = .int k n) (h : n < m) : Val P N w0 L e ⟨d, .binOp .gtr t x y t', ty, pos, af, g⟩ (.bool true) := by have := Val_gtr (P := P) (N := N) (w0 := w0) (L := L) (d := d) (ty := ty) (pos := pos) (af := af) (g := g) (t := t) (t' := t') hx hy; rwa [decide_eq_true h] at this
theorem Val_gtrF (hx : ev e x = .int k m) (hy : ev e y = .int k n) (h : ¬ n < m) : Val P N w0 L e ⟨d, .binOp .gtr t x y t', ty, pos, af, g⟩ (.bool false) := by have := Val_gtr (P := P) (N := N) (w0 := w0) (L := L) (d := d) (ty := ty) (pos := pos) (af := af) (g := g) (t := t) (t' := t') hx hy; rwa [decide_eq_false h] at this
theorem Val_geqT (hx : ev e x = .int k m) (hy : ev e y = .int k n) (h : n ≤ m) : Val P N w0 L e ⟨d, .binOp .geq t x y t', ty, pos, af, g⟩ (.bool true) := by have := Val_geq (P := P) (N := N) (w0 := w0) (L := L) (d := d) (ty := ty) (pos := pos) (af := af) (g := g) (t := t) (t' := t') hx hy; rwa [decide_eq_true h] at this
theorem Val_geqF (hx : ev e x = .int k m) (hy : ev e y = .int k n) (h : ¬ n ≤ m) : Val P N w0 L e ⟨d, .binOp .geq t x y t', ty, pos, af, g⟩ (.bool false) := by have := Val_geq (P := P) (N := N) (w0 := w0) (L := L) (d := d) (ty := ty) (pos := pos) (af := af) (g := g) (t := t) (t' := t') hx hy; rwa [decide_eq_false h] at this
theorem Val_eqlT (hx : ev e x = .int k m) (hy : ev e y = .int k n) (h : m = n) : Val P N w0 L e ⟨d, .binOp .eql t x y t', ty, pos, af, g⟩ (.bool true) := by have := Val_eql (P := P) (N := N) (w0 := w0) (L := L) (d := d) (ty := ty) (pos := pos) (af := af) (g := g) (t := t) (t' := t') hx hy; rwa [show (m == n) = true from by simpa using h] at this
theorem Val_eqlF (hx : ev e x = .int k m) (hy : ev e y = .int k n) (h : m ≠ n) : Val P N w0 L e ⟨d, .binOp .eql t x y t', ty, pos, af, g⟩ (.bool false) := by have := Val_eql (P := P) (N := N) (w0 := w0) (L := L) (d := d) (ty := ty) (pos := pos) (af := af) (g := g) (t := t) (t' := t') hx hy; rwa [show (m == n) = false from by simpa using h] at this
theorem Val_neqT (hx : ev e x = .int k m) (hy : ev e y = .int k n) (h : m ≠ n) : Val P N w0 L e ⟨d, .binOp .neq t x y t', ty, pos, af, g⟩ (.bool true) := by have := Val_neq (P := P) (N := N) (w0 := w0) (L := L) (d := d) (ty := ty) (pos := pos) (af := af) (g := g) (t := t) (t' := t') hx hy; rwa [show (m != n) = true from by simpa using h] at this
theorem Val_neqF (hx : ev e x = .int k m) (hy : ev e y = .int k n) (h : m = n) : Val P N w0 L e ⟨d, .binOp .neq t x y t', ty, pos, af, g⟩ (.bool false) := by have := Val_neq (P := P) (N := N) (w0 := w0) (L := L) (d := d) (ty := ty) (pos := pos) (af := af) (g := g) (t := t) (t' := t') hx hy; rwa [show (m != n) = false from by simpa using h] at this
theorem Zylss {b : Bool} (h : Val P N w0 L e ⟨d, .binOp .lss t x y t', ty, pos, af, g⟩ (.bool b) := by first | exact Val_lssT rfl rfl (by omega) | exact Val_lssF rfl rfl (by omega) | exact Val_lss rfl rfl) : Val P N w0 L e ⟨d, .binOp .lss t x y t', ty, pos, af, g⟩ (.bool b) := h
theorem Zyleq {b : Bool} (h : Val P N w0 L e ⟨d, .binOp .leq t x y t', ty, pos, af, g⟩ (.bool b) := by first | exact Val_leqT rfl rfl (by omega) | exact Val_leqF rfl rfl (by omega) | exact Val_leq rfl rfl) : Val P N w0 L e ⟨d, .binOp .leq t x y t', ty, pos, af, g⟩ (.bool b) := h
theorem Zygtr {b : Bool} (h : Val P N w0 L e ⟨d, .binOp .gtr t x y t', ty, pos, af, g⟩ (.bool b) := by first | exact Val_gtrT rfl rfl (by omega) | exact Val_gtrF rfl rfl (by omega) | exact Val_gtr rfl rfl) : Val P N w0 L e ⟨d, .binOp .gtr t x y t', ty, pos, af, g⟩ (.bool b) := h
theorem Zygeq {b : Bool} (h : Val P N w0 L e ⟨d, .binOp .geq t x y t', ty, pos, af, g⟩ (.bool b) := by first | exact Val_geqT rfl rfl (by omega) | exact Val_geqF rfl rfl (by omega) | exact Val_geq rfl rfl) : Val P N w0 L e ⟨d, .binOp .geq t x y t', ty, pos, af, g⟩ (.bool b) := h
theorem Zyeql {b : Bool} (h : Val P N w0 L e ⟨d, .binOp .eql t x y t', ty, pos, af, g⟩ (.bool b) := by first | exact Val_eqlT rfl rfl (by omega) | exact Val_eqlF rfl rfl (by omega) | exact Val_eql rfl rfl) : Val P N w0 L e ⟨d, .binOp .eql t x y t', ty, pos, af, g⟩ (.bool b) := h
theorem Zyneq {b : Bool} (h : Val P N w0 L e ⟨d, .binOp .neq t x y t', ty, pos, af, g⟩ (.bool b) := by first | exact Val_neqT rfl rfl (by omega) | exact Val_neqF rfl rfl (by omega) | exact Val_neq rfl rfl) : Val P N w0 L e ⟨d, .binOp .neq t x y t', ty, pos, af, g⟩ (.bool b) := h
end
end Go.Proofs.Ytlpahkmfjpjheaa
end
