/- The steps of a walk, their side conditions found by themselves. -/
import Derived.Test.YtakmopiceopcpaaSt
import Derived.Test.YtakmopiceopcpaaMaps
section
namespace Go.Proofs.Ytakmopiceopcpaa
open Go.RowKit
attribute [local irreducible] AnyO AnyB QAny QB EWalk AWalk Ev WP OPS QThen QBlock QScope QLoop QBody Val New Turn Tri Enters PostA Blk Ro AnyC QC
section
variable {P : Program} {r : Option Nat} {n N : Nat} {w0 : World} {ops : Array Oper} {o : Oper} {rest : List Oper} {Q : Post} {e : Env} {ds : List Deferred} {L : Hp} {op : Op} {ty : TypeId} {pos : String} {af : Array Edge} {g : Option (Nat × Bool)} {d : Nat} {d' : Option Nat}
/-- A value, in its outer form. -/
inductive Sh : Value → Value → Prop
  | i {k : IntKind} {m : Int} : Sh (.int k m) (.int k m)
  | p {b o : Nat} : Sh (.pointer (some ⟨b, o, none⟩)) (.pointer (some ⟨b, o, none⟩))
  | b {b : Bool} : Sh (.bool b) (.bool b)
  | s {a : Option Addr} {l c : Nat} : Sh (.slice a l c) (.slice a l c)
  | v {s : Option (Nat × Nat)} {k : Nat} : Sh (svV s k) (svV s k)
  | a {l : Array Value} : Sh (.agg l) (.agg l)
  | f {f : Fn} {a b : Array Value} : Sh (.func f a b) (.func f a b)
  | t {l : Array Value} : Sh (.tuple l) (.tuple l)
  | q {a : Option Addr} : Sh (.pointer a) (.pointer a)
  | n {t : TypeId} {v : Value} : Sh (.iface t v) (.iface t v)
  | ni : Sh .nilIface .nilIface
  | nf : Sh .nilFunc .nilFunc
  | m {b : Option Nat} : Sh (.map b) (.map b)
  | str {s : ByteArray} : Sh (.string s) (.string s)
  | z {v : Value} : Sh v v
theorem Sh.eq {a b : Value} (h : Sh a b) : a = b := by cases h <;> rfl
theorem CellsR.c1S {v u : Value} {vals : List Value} {vs : List (List Value)} (hv : Sh v u) (hu : u.cells = #[u]) (k : CellsR vals vs) : CellsR (v :: vals) ([u] :: vs) := .c1 hv.eq hu k
theorem FillR.c1S {pl : Nat → Option (Nat × Nat)} {l l1 l' : List Value} {i off : Nat} {v u : Value} {rest : List (Nat × Value)} (hp : pl i = some (off, 1)) (hv : Sh v u) (hu : u.cells = #[u]) (hput : PutAt l off [u] l1) (k : FillR pl l1 rest l') : FillR pl l ((i, v) :: rest) l' := .c1 hp hv.eq hu hput k

theorem Turn_storeS {t : TypeId} {g' : Bool} {n bt : Nat} [TySz P t g' n bt] {x y : Operand} {b o : Nat} {T : TypeId} {v : Value} {vs l l' : List Value} {L' : Hp} (hx : ev e x = .pointer (some ⟨b, o, none⟩)) (hy : Sh (ev e y) v) (hu : Up L b (Blk T l) (Blk T l') L')
    (hv : v.cells = vs.toArray) (hp : PutAt l o vs l') (hn : vs.length = n) (h1 : ones vs = true) : Turn P N w0 L e ⟨d', .store t x y, ty, pos, af, g⟩ L' := Turn_store hx hy.eq hu hv hp hn h1
theorem New_boxS {t : TypeId} {x : Operand} {v : Value} {vs : List Value} (hx : Sh (ev e x) v) (hv : v.cells = vs.toArray) : New P e ⟨d', .box t x, ty, pos, af, g⟩ (.cells vs.toArray t (0, 0)) (fun b => .pointer (some ⟨b, 0, none⟩)) := New_box hx.eq hv
/-! ## Values -/
theorem Zmi {x : Operand} {k : IntKind} {m : Int} (h : ev e x = .int k m := by rfl) : Val P N w0 L e ⟨d', .move x, ty, pos, af, g⟩ (.int k m) := Val_move h
theorem Zmb {x : Operand} {b : Bool} (h : ev e x = .bool b := by rfl) : Val P N w0 L e ⟨d', .move x, ty, pos, af, g⟩ (.bool b) := Val_move h
theorem Zmv {x : Operand} {v : Value} (h : Sh (ev e x) v := by constructor) : Val P N w0 L e ⟨d', .move x, ty, pos, af, g⟩ v := Val_move h.eq
theorem Zai {x : Operand} {k : IntKind} {m : Int} (h : ev e x = .int k m := by rfl) : Val P N w0 L e ⟨d', .assign x, ty, pos, af, g⟩ (.int k m) := Val_assign h
theorem Zab {x : Operand} {b : Bool} (h : ev e x = .bool b := by rfl) : Val P N w0 L e ⟨d', .assign x, ty, pos, af, g⟩ (.bool b) := Val_assign h
theorem Zav {x : Operand} {v : Value} (h : Sh (ev e x) v := by constructor) : Val P N w0 L e ⟨d', .assign x, ty, pos, af, g⟩ v := Val_assign h.eq
theorem Zxlss {x y : Operand} {t t' : TypeId} {k : IntKind} {m n : Int} (hx : ev e x = .int k m := by rfl) (hy : ev e y = .int k n := by rfl) : Val P N w0 L e ⟨d', .binOp .lss t x y t', ty, pos, af, g⟩ (.bool (decide (m < n))) := Val_lss hx hy
theorem Zxleq {x y : Operand} {t t' : TypeId} {k : IntKind} {m n : Int} (hx : ev e x = .int k m := by rfl) (hy : ev e y = .int k n := by rfl) : Val P N w0 L e ⟨d', .binOp .leq t x y t', ty, pos, af, g⟩ (.bool (decide (m ≤ n))) := Val_leq hx hy
theorem Zxgtr {x y : Operand} {t t' : TypeId} {k : IntKind} {m n : Int} (hx : ev e x = .int k m := by rfl) (hy : ev e y = .int k n := by rfl) : Val P N w0 L e ⟨d', .binOp .gtr t x y t', ty, pos, af, g⟩ (.bool (decide (n < m))) := Val_gtr hx hy
theorem Zxgeq {x y : Operand} {t t' : TypeId} {k : IntKind} {m n : Int} (hx : ev e x = .int k m := by rfl) (hy : ev e y = .int k n := by rfl) : Val P N w0 L e ⟨d', .binOp .geq t x y t', ty, pos, af, g⟩ (.bool (decide (n ≤ m))) := Val_geq hx hy
theorem Zxeql {x y : Operand} {t t' : TypeId} {k : IntKind} {m n : Int} (hx : ev e x = .int k m := by rfl) (hy : ev e y = .int k n := by rfl) : Val P N w0 L e ⟨d', .binOp .eql t x y t', ty, pos, af, g⟩ (.bool (m == n)) := Val_eql hx hy
theorem Zxneq {x y : Operand} {t t' : TypeId} {k : IntKind} {m n : Int} (hx : ev e x = .int k m := by rfl) (hy : ev e y = .int k n := by rfl) : Val P N w0 L e ⟨d', .binOp .neq t x y t', ty, pos, af, g⟩ (.bool (m != n)) := Val_neq hx hy
theorem Zxadd {x y : Operand} {t t' : TypeId} {m n : Int} (hx : ev e x = .int .i64 m := by rfl) (hy : ev e y = .int .i64 n := by rfl) (h : InK .i64 (m + n) := by exact InK_i64 (by omega) (by omega)) : Val P N w0 L e ⟨d', .binOp .add t x y t', ty, pos, af, g⟩ (.int .i64 (m + n)) := Val_add hx hy h
theorem Zxsub {x y : Operand} {t t' : TypeId} {m n : Int} (hx : ev e x = .int .i64 m := by rfl) (hy : ev e y = .int .i64 n := by rfl) (h : InK .i64 (m - n) := by exact InK_i64 (by omega) (by omega)) : Val P N w0 L e ⟨d', .binOp .sub t x y t', ty, pos, af, g⟩ (.int .i64 (m - n)) := Val_sub hx hy h
theorem Zxmul {x y : Operand} {t t' : TypeId} {m n : Int} (hx : ev e x = .int .i64 m := by rfl) (hy : ev e y = .int .i64 n := by rfl) (h : InK .i64 (m * n) := by exact InK_i64 (by omega) (by omega)) : Val P N w0 L e ⟨d', .binOp .mul t x y t', ty, pos, af, g⟩ (.int .i64 (m * n)) := Val_mul hx hy h
theorem ZxeqlB {x y : Operand} {t t' : TypeId} [hb : BoolTy P t] {m n : Bool} (hx : ev e x = .bool m := by rfl) (hy : ev e y = .bool n := by rfl) : Val P N w0 L e ⟨d', .binOp .eql t x y t', ty, pos, af, g⟩ (.bool (m == n)) := Val_eqlB hx hy
theorem Zxnot {x : Operand} {t : TypeId} {m : Bool} (hx : ev e x = .bool m := by rfl) : Val P N w0 L e ⟨d', .unOp .not t x, ty, pos, af, g⟩ (.bool (!m)) := Val_not hx
theorem Zxmin {x y : Operand} {ts : Array TypeId} {k : IntKind} {m n : Int} (hx : ev e x = .int k m := by rfl) (hy : ev e y = .int k n := by rfl) : Val P N w0 L e ⟨d', .call { callee := .builtin .min, args := #[x, y], argTypes := ts }, ty, pos, af, g⟩ (.int k (min m n)) := Val_min hx hy
theorem Zxmax {x y : Operand} {ts : Array TypeId} {k : IntKind} {m n : Int} (hx : ev e x = .int k m := by rfl) (hy : ev e y = .int k n := by rfl) : Val P N w0 L e ⟨d', .call { callee := .builtin .max, args := #[x, y], argTypes := ts }, ty, pos, af, g⟩ (.int k (max m n)) := Val_max hx hy
theorem Zxlen {x : Operand} {t E : TypeId} [h : SliceOf P t E] {a : Option Addr} {m c : Nat} (hx : ev e x = .slice a m c := by rfl) : Val P N w0 L e ⟨d', .call { callee := .builtin .len, args := #[x], argTypes := #[t] }, ty, pos, af, g⟩ (.int .i64 m) := Val_len hx
theorem Zxex {x : Operand} {i : Nat} {l : List Value} {v : Value} (h : ev e x = .tuple l.toArray := by rfl) (hi : l[i]? = some v := by rfl) : Val P N w0 L e ⟨d', .extract x i, ty, pos, af, g⟩ v := Val_extract h hi
theorem Zxpt {c a b : Operand} {v : Value} (hc : ev e c = .bool true := by rfl) (h : Sh (ev e a) v := by constructor) : Val P N w0 L e ⟨d', .pick c a b, ty, pos, af, g⟩ v := Val_pick_t hc h.eq
theorem Zxpf {c a b : Operand} {v : Value} (hc : ev e c = .bool false := by rfl) (h : Sh (ev e b) v := by constructor) : Val P N w0 L e ⟨d', .pick c a b, ty, pos, af, g⟩ v := Val_pick_f hc h.eq
theorem Zxmi {t : TypeId} [hc : ConcTy P t] {x : Operand} {v : Value} (h : Sh (ev e x) v := by constructor) : Val P N w0 L e ⟨d', .makeInterface t x, ty, pos, af, g⟩ (.iface t v) := Val_makeInterface h.eq
theorem Zxnp {x : Operand} {a : Addr} (h : ev e x = .pointer (some a) := by rfl) : Val P N w0 L e ⟨d', .nilCheck x, ty, pos, af, g⟩ (.pointer (some a)) := Val_nilCheck_p h
theorem Zxnf {x : Operand} {f : FuncId} {a b : Array Value} (h : ev e x = .func (.func f) a b := by rfl) : Val P N w0 L e ⟨d', .nilCheck x, ty, pos, af, g⟩ (.func (.func f) a b) := Val_nilCheck_f h
theorem Zf0 {t ft : TypeId} {i : Nat} [hf : FieldOff P t i 0 ft] {g' : Bool} {n bt : Nat} [TySz P ft g' (n + 1) bt] {x : Operand} {b o : Nat} (hx : ev e x = .pointer (some ⟨b, o, none⟩) := by rfl) : Val P N w0 L e ⟨d', .fieldAddr t x i, ty, pos, af, g⟩ (.pointer (some ⟨b, o, none⟩)) := Val_fieldAddr0 hx
theorem Zfa {t ft : TypeId} {i off : Nat} [hf : FieldOff P t i off ft] {g' : Bool} {n bt : Nat} [TySz P ft g' (n + 1) bt] {x : Operand} {b o : Nat} (hx : ev e x = .pointer (some ⟨b, o, none⟩) := by rfl) : Val P N w0 L e ⟨d', .fieldAddr t x i, ty, pos, af, g⟩ (.pointer (some ⟨b, o + off, none⟩)) := Val_fieldAddr hx
theorem Zld {t : TypeId} {x : Operand} {v : Value} (h : Val P N w0 L e ⟨d', .load t x, ty, pos, af, g⟩ v := by first | exact Val_load1 rfl (by repeat (first | exact Mem.here | assumption | apply Mem.there | apply Mem.sv | apply Mem.app)) (by first | rfl | assumption) | exact Val_loadR1 rfl (by assumption) (by assumption)) : Val P N w0 L e ⟨d', .load t x, ty, pos, af, g⟩ v := h
theorem Zla {t : TypeId} {x : Operand} {v : Value} (h : Val P N w0 L e ⟨d', .load t x, ty, pos, af, g⟩ v := by first | exact Val_loadN rfl (by repeat (first | exact Mem.here | assumption | apply Mem.there | apply Mem.sv | apply Mem.app)) (by repeat (first | exact Pre.nil | apply Pre.cons | apply Cut.there | apply Cut.here)) | exact Val_loadW rfl (by repeat (first | exact Mem.here | assumption | apply Mem.there | apply Mem.sv | apply Mem.app)) (by first | rfl | assumption | (simp; done) | (simp; omega)) | exact Val_loadRN rfl (by assumption) (by assumption) (by rfl)) : Val P N w0 L e ⟨d', .load t x, ty, pos, af, g⟩ v := h
theorem Zia {t : TypeId} {x y : Operand} {v : Value} (h : Val P N w0 L e ⟨d', .indexAddr t x y, ty, pos, af, g⟩ v := by first | exact Val_indexAddr1 rfl rfl rfl (by first | assumption | omega | (simp; done) | (simp; omega)) | exact Val_indexAddr rfl rfl rfl (by first | assumption | omega | (simp; done) | (simp; omega)) | exact Val_indexAddrE1 rfl (by assumption) rfl rfl (by first | assumption | omega | (simp; done) | (simp; omega)) | exact Val_indexAddrE rfl (by assumption) rfl rfl (by first | assumption | omega | (simp; done) | (simp; omega))) : Val P N w0 L e ⟨d', .indexAddr t x y, ty, pos, af, g⟩ v := h
theorem ZiA {t : TypeId} {x y : Operand} {v : Value} (h : Val P N w0 L e ⟨d', .indexAddr t x y, ty, pos, af, g⟩ v := by first | exact Val_indexAddrA1 rfl rfl rfl (by first | assumption | omega | (simp; done) | (simp; omega)) | exact Val_indexAddrA rfl rfl rfl (by first | assumption | omega | (simp; done) | (simp; omega))) : Val P N w0 L e ⟨d', .indexAddr t x y, ty, pos, af, g⟩ v := h
theorem Zxbu {t : TypeId} {ps : Array (Nat × Operand)} {v : Value} (h : Val P N w0 L e ⟨d', .build t ps, ty, pos, af, g⟩ v := by exact Val_build rfl (by repeat (first | exact FillR.nil | (apply FillR.cA rfl rfl rfl (by repeat (first | exact Over.nil | apply Over.cons | apply PutAt.there | apply PutAt.here))) | (apply FillR.c1S rfl (by constructor) rfl (by repeat (first | exact Over.nil | apply Over.cons | apply PutAt.there | apply PutAt.here)))))) : Val P N w0 L e ⟨d', .build t ps, ty, pos, af, g⟩ v := h
theorem Zxfi {t : TypeId} {x : Operand} {i : Nat} {v : Value} (h : Val P N w0 L e ⟨d', .field t x i, ty, pos, af, g⟩ v := by exact Val_field rfl (by repeat (first | exact Pre.nil | apply Pre.cons | apply Cut.there | apply Cut.here)) rfl (by decide) (by decide)) : Val P N w0 L e ⟨d', .field t x i, ty, pos, af, g⟩ v := h
theorem Zxco {s t : TypeId} {x : Operand} {v : Value} (h : Val P N w0 L e ⟨d', .convert s t x, ty, pos, af, g⟩ v := by exact Val_convert rfl (by first | exact InK_i64 (by omega) (by omega) | exact IntWalk.u8_in _ (by omega) | (unfold InK; simp [IntKind.wrap, IntKind.bits, IntKind.signed]; omega))) : Val P N w0 L e ⟨d', .convert s t x, ty, pos, af, g⟩ v := h
theorem Zv {v : Value} (hv : Val P N w0 L e ⟨some d, op, ty, pos, af, g⟩ v) (h : OPS P r n N w0 ops rest Q (upd e d v) ds L)
    (hg : Region.wanted ⟨some d, op, ty, pos, af, g⟩ (yieldE ops e) = true := by rfl) (hnd : isDefer op = false := by rfl) (hd : Nat.blt d n = true := by rfl) :
    OPS P r n N w0 ops (⟨some d, op, ty, pos, af, g⟩ :: rest) Q e ds L := OPS_valS hv hg hnd hd h
/-- The same in a drawn region. -/
theorem Zew {i : Nat} {T : List Nat} {l : List Nat} {o : Oper} {v : Value} {K : Env → Prop} (ho : ops[i]? = some o) (hv : Val P N w0 L e o v) (h : EWalk P n N w0 ops T L l (upd e d v) K)
    (hd : o.dst = some d := by rfl)
    (hg : Region.wanted o (yieldE ops e) = true := by rfl) (hf : fine n o = true := by rfl) (hT : T.contains i = false := by rfl) : EWalk P n N w0 ops T L (i :: l) e K :=
  EWalk_evS ho hd hf hT hg (Ev_val hv) h
/-- A value that floats: it hangs on nothing that is owned. -/
theorem Zep {i : Nat} {T : List Nat} {l : List Nat} {o : Oper} {v : Value} {K : Env → Prop} (ho : ops[i]? = some o) (hv : ∀ w, Val P 0 w [] e o v) (h : EWalk P n N w0 ops T L l (upd e d v) K)
    (hd : o.dst = some d := by rfl)
    (hg : Region.wanted o (yieldE ops e) = true := by rfl) (hf : fine n o = true := by rfl) : EWalk P n N w0 ops T L (i :: l) e K :=
  EWalk_pvS ho hd hf hg hv h
/-- A contract's value, in a drawn region. -/
theorem Zec {i : Nat} {T : List Nat} {l : List Nat} {f : FuncId} {args : Array Value} {v : Value} {K : Env → Prop} (ho : ops[i]? = some ⟨some d, op, ty, pos, af, g⟩) (hv : Enters P e ⟨some d, op, ty, pos, af, g⟩ f args) (hc : ∀ X, Ret P N w0 (X ++ L) f args v) (h : EWalk P n N w0 ops T L l (upd e d v) K)
    (hg : Region.wanted ⟨some d, op, ty, pos, af, g⟩ (yieldE ops e) = true := by rfl) (hf : fine n ⟨some d, op, ty, pos, af, g⟩ = true := by rfl) (hT : T.contains i = false := by rfl) : EWalk P n N w0 ops T L (i :: l) e K :=
  EWalk_evS ho rfl hf hT hg (Ev_ret hv hc) h
theorem Zes {i : Nat} {T : List Nat} {l : List Nat} {K : Env → Prop} (h : EWalk P n N w0 ops T L l (upd e d undef) K) (ho : ops[i]? = some ⟨some d, op, ty, pos, af, g⟩ := by rfl)
    (hg : Region.wanted ⟨some d, op, ty, pos, af, g⟩ (yieldE ops e) = false := by rfl) (hf : fine n ⟨some d, op, ty, pos, af, g⟩ = true := by rfl) : EWalk P n N w0 ops T L (i :: l) e K := EWalk_skipS ho rfl hf hg h
/-- What stands in a slot that is asked for: a test. -/
def Tst (t : Bool) (p q : Prop) : Prop := (t = true → p) ∧ (t = false → q)
theorem tst_D {p : Prop} [Decidable p] : Tst (decide p) p (¬ p) := ⟨of_decide_eq_true, of_decide_eq_false⟩
theorem tst_E {m k : Int} : Tst (m == k) (m = k) (m ≠ k) := ⟨eq_of_beq, fun h h' => by rw [beq_eq_false_iff_ne] at h; exact h h'⟩
theorem tst_N {m k : Int} : Tst (m != k) (m ≠ k) (m = k) := ⟨bne_iff_ne.1, fun h => by rwa [bne_eq_false_iff_eq] at h⟩
theorem tst_V {b : Bool} : Tst (!b) (b = false) (b = true) := ⟨fun h => by cases b <;> simp_all, fun h => by cases b <;> simp_all⟩
theorem tst_B {b : Bool} : Tst b (b = true) (b = false) := ⟨fun h => h, fun h => h⟩
theorem Zcd {x y : Code} {c : Operand} {t : Bool} {p q : Prop} (h1 : p → WP P r n N w0 x Q e ds L) (h2 : q → WP P r n N w0 y Q e ds L) (hc : ev e c = .bool t := by rfl) (ht : Tst t p q := by first | exact tst_D | exact tst_E | exact tst_N | exact tst_V | exact tst_B) : WP P r n N w0 (.cond c x y) Q e ds L :=
  WP_cond hc (fun h => h1 (ht.1 h)) (fun h => h2 (ht.2 h))
/-- A guard, parted. -/
theorem Zsp {j dj : Nat} {want : Bool} {t : Bool} {p q : Prop} (h1 : p → OPS P r n N w0 ops (⟨d', op, ty, pos, af, some (j, want)⟩ :: rest) Q (upd e dj (.bool true)) ds L) (h2 : q → OPS P r n N w0 ops (⟨d', op, ty, pos, af, some (j, want)⟩ :: rest) Q (upd e dj (.bool false)) ds L)
    (hj : (ops[j]?).bind (·.dst) = some dj := by rfl) (hd : e dj = .bool t := by rfl) (ht : Tst t p q := by first | exact tst_D | exact tst_E | exact tst_N | exact tst_V | exact tst_B) : OPS P r n N w0 ops (⟨d', op, ty, pos, af, some (j, want)⟩ :: rest) Q e ds L :=
  OPS_splitG (o := ⟨d', op, ty, pos, af, some (j, want)⟩) rfl hj hd (fun h => h1 (ht.1 h)) (fun h => h2 (ht.2 h))
theorem Zesp {i j dj : Nat} {T l : List Nat} {want : Bool} {t : Bool} {p q : Prop} {K : Env → Prop} (h1 : p → EWalk P n N w0 ops T L (i :: l) (upd e dj (.bool true)) K) (h2 : q → EWalk P n N w0 ops T L (i :: l) (upd e dj (.bool false)) K)
    (_ho : ops[i]? = some ⟨d', op, ty, pos, af, some (j, want)⟩ := by rfl) (_hj : (ops[j]?).bind (·.dst) = some dj := by rfl) (hd : e dj = .bool t := by rfl) (ht : Tst t p q := by first | exact tst_D | exact tst_E | exact tst_N | exact tst_V | exact tst_B) : EWalk P n N w0 ops T L (i :: l) e K :=
  EWalk_split dj hd (fun h => h1 (ht.1 h)) (fun h => h2 (ht.2 h))
theorem Zsk (h : OPS P r n N w0 ops rest Q (upd e d undef) ds L) (hg : Region.wanted ⟨some d, op, ty, pos, af, g⟩ (yieldE ops e) = false := by rfl) (hd : Nat.blt d n = true := by rfl) :
    OPS P r n N w0 ops (⟨some d, op, ty, pos, af, g⟩ :: rest) Q e ds L := OPS_skipS hg hd h
/-- A store. -/
theorem Zst {L' : Hp} (h : OPS P r n N w0 ops rest Q e ds L')
    (hv : Turn P N w0 L e ⟨none, op, ty, pos, af, g⟩ L' := by exact Turn_storeS rfl (by constructor) (by repeat (first | exact Up.here | apply Up.there | apply Up.sv)) (by first | exact svV_cells | rfl) (by repeat (first | exact Over.nil | apply Over.cons | apply PutAt.there | apply PutAt.here)) (by rfl) (by first | rfl | exact svV_ones))
    (hg : Region.wanted ⟨none, op, ty, pos, af, g⟩ (yieldE ops e) = true := by rfl) (hnd : isDefer op = false := by rfl) : OPS P r n N w0 ops (⟨none, op, ty, pos, af, g⟩ :: rest) Q e ds L := OPS_turnN hv hg hnd h
/-- A new block of cells, in the slot d. -/
theorem Zal (d : Nat) {T : TypeId} {l : List Value} {mk : Nat → Value} (h : ∀ b, OPS P r n N w0 ops rest Q (upd e d (mk b)) ds ((b, Blk T l) :: L))
    (hn : New P e ⟨some d, op, ty, pos, af, g⟩ (.cells l.toArray T (0, 0)) mk := by
      first
      | exact New_alloc
      | exact New_boxS (by constructor) (by first | exact svV_cells | rfl)
      | exact New_buildSliceR rfl rfl (by repeat (first | exact CellsR.nil | (apply CellsR.cA rfl) | (apply CellsR.c1S (by constructor) rfl))) rfl (by decide) rfl (by decide))
    (hg : Region.wanted ⟨some d, op, ty, pos, af, g⟩ (yieldE ops e) = true := by rfl) (hnd : isDefer op = false := by rfl) (hd : Nat.blt d n = true := by rfl) :
    OPS P r n N w0 ops (⟨some d, op, ty, pos, af, g⟩ :: rest) Q e ds L := OPS_newS blk_is hn hg hnd hd h
/-- A call whose contract is known. -/
theorem Zcl {f : FuncId} {args : Array Value} {v : Value} (hv : Enters P e ⟨some d, op, ty, pos, af, g⟩ f args) (hc : Ret P N w0 L f args v) (h : OPS P r n N w0 ops rest Q (upd e d v) ds L)
    (hg : Region.wanted ⟨some d, op, ty, pos, af, g⟩ (yieldE ops e) = true := by rfl) (hnd : isDefer op = false := by rfl) (hd : Nat.blt d n = true := by rfl) : OPS P r n N w0 ops (⟨some d, op, ty, pos, af, g⟩ :: rest) Q e ds L := OPS_retS hv hc hg hnd hd h
/-- It is the slot d that is written. -/
theorem Zatd (d : Nat) (h : OPS P r n N w0 ops (⟨some d, op, ty, pos, af, g⟩ :: rest) Q e ds L) : OPS P r n N w0 ops (⟨some d, op, ty, pos, af, g⟩ :: rest) Q e ds L := h
theorem Zatn (h : OPS P r n N w0 ops (⟨none, op, ty, pos, af, g⟩ :: rest) Q e ds L) : OPS P r n N w0 ops (⟨none, op, ty, pos, af, g⟩ :: rest) Q e ds L := h
/-- A region. -/
theorem ZrN (id : Nat) {l : List Oper} (h : ∀ ops, OPS P r n N w0 ops l Q e ds L) : WP P r n N w0 (.region id l.toArray false) Q e ds L := WP_region (h _)
theorem ZrG (id : Nat) {l : List Oper} (h : OPS P r n N w0 l.toArray l Q e ds L) : WP P r n N w0 (.region id l.toArray false) Q e ds L := WP_region h
theorem Zsq {x y : Code} (h : ∀ K, HThen P r n N w0 y Q K → WP P r n N w0 x K e ds L) : WP P r n N w0 (.seq x y) Q e ds L := WP_seqK h
theorem Znl (h : Q .normal e ds L) : OPS P r n N w0 ops [] Q e ds L := OPS_nil h
theorem Zhn {y : Code} {K : Post} (h : WP P r n N w0 y Q e ds L) (hK : HThen P r n N w0 y Q K := by assumption) : K .normal e ds L := hK.normal h
/-- At a region's end: what stands behind it. -/
theorem Znh {y : Code} {K : Post} (h : WP P r n N w0 y Q e ds L) (hK : HThen P r n N w0 y Q K := by assumption) : OPS P r n N w0 ops [] K e ds L := OPS_nil (hK.normal h)
theorem Zhx {y : Code} {K : Post} {id : Nat} (h : Q (.exit id) e ds L) (hK : HThen P r n N w0 y Q K := by assumption) : K (.exit id) e ds L := hK.exit h
theorem Zhr {y : Code} {K : Post} (h : Q .ret e ds L) (hK : HThen P r n N w0 y Q K := by assumption) : K .ret e ds L := hK.ret h
theorem Zhp {y : Code} {K : Post} {ch : List PanicEntry} (h : Q (.panic ch) e ds L) (hK : HThen P r n N w0 y Q K := by assumption) : K (.panic ch) e ds L := hK.panic h
theorem ZisO {fuel : Nat} {listed : Array Bool} (h : AnyO P r n N w0 ops Q ds fuel listed e L) : AnyO P r n N w0 ops Q ds fuel listed e L := h
theorem Zati (i : Nat) {T : List Nat} {l : List Nat} {K : Env → Prop} (h : EWalk P n N w0 ops T L (i :: l) e K) : EWalk P n N w0 ops T L (i :: l) e K := h
/-- The ways out. -/
theorem Zqb {id id' : Nat} (h : Q (.exit id') e ds L) (hne : Nat.beq id' id = false := by rfl) : QBlock id Q (.exit id') e ds L := QBlock_miss hne h
end
end Go.Proofs.Ytakmopiceopcpaa
end
