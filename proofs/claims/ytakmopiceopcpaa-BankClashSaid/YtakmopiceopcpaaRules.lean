/- The rules of the operations' kinds. -/
import Derived.Test.YtakmopiceopcpaaOps
section
namespace Go.Proofs.Ytakmopiceopcpaa
open Go.RowKit
section
variable {P : Program} {N : Nat} {w0 : World} {L : Hp} {e : Env} {d : Option Nat} {ty : TypeId} {pos : String} {af : Array Edge} {g : Option (Nat × Bool)}

/-! moves -/
theorem Val_move {x : Operand} {v : Value} (h : ev e x = v) : Val P N w0 L e ⟨d, .move x, ty, pos, af, g⟩ v := by
  intro w _; simp [execOp, h]
theorem Val_assign {x : Operand} {v : Value} (h : ev e x = v) : Val P N w0 L e ⟨d, .assign x, ty, pos, af, g⟩ v := by
  intro w _; simp [execOp, h]
theorem Val_pick_t {c a b : Operand} {v : Value} (hc : ev e c = .bool true) (h : ev e a = v) : Val P N w0 L e ⟨d, .pick c a b, ty, pos, af, g⟩ v := by
  intro w _; simp [execOp, hc, h, asBool]
theorem Val_pick_f {c a b : Operand} {v : Value} (hc : ev e c = .bool false) (h : ev e b = v) : Val P N w0 L e ⟨d, .pick c a b, ty, pos, af, g⟩ v := by
  intro w _; simp [execOp, hc, h, asBool]
theorem Val_nilCheck_p {x : Operand} {a : Addr} (h : ev e x = .pointer (some a)) : Val P N w0 L e ⟨d, .nilCheck x, ty, pos, af, g⟩ (.pointer (some a)) := by
  intro w _; simp [execOp, h]
theorem Val_nilCheck_f {x : Operand} {f : FuncId} {a b : Array Value} (h : ev e x = .func (.func f) a b) : Val P N w0 L e ⟨d, .nilCheck x, ty, pos, af, g⟩ (.func (.func f) a b) := by
  intro w _; simp [execOp, h]
theorem Val_extract {x : Operand} {i : Nat} {l : List Value} {v : Value} (h : ev e x = .tuple l.toArray) (hi : l[i]? = some v) : Val P N w0 L e ⟨d, .extract x i, ty, pos, af, g⟩ v := by
  intro w _; simp [execOp, h, Instr.extract, hi]
theorem Val_makeFunc {fn : Fn} {a b : List Operand} : Val P N w0 L e ⟨d, .makeFunc fn a.toArray b.toArray, ty, pos, af, g⟩ (.func fn (a.map (ev e)).toArray (b.map (ev e)).toArray) := by
  intro w _; simp [execOp, Instr.makeFunc]
theorem Val_makeInterface {t : TypeId} [hc : ConcTy P t] {x : Operand} {v : Value} (h : ev e x = v) :
    Val P N w0 L e ⟨d, .makeInterface t x, ty, pos, af, g⟩ (.iface t v) := by
  intro w _
  have hu := hc.und
  cases hd : P.underlying t with
  | none => rw [hd] at hu; cases hu
  | some td =>
    rw [hd] at hu
    cases td <;> first | (simp [execOp, h, Instr.makeInterface, run_underlying hd]; done) | (simp at hu)

/-! integers -/
def InK (k : IntKind) (m : Int) : Prop := k.wrap m = m
theorem InK_i64 {m : Int} (h1 : -9223372036854775808 ≤ m) (h2 : m ≤ 9223372036854775807) : InK .i64 m := by
  unfold InK; exact IntWalk.i64_in _ ⟨h1, h2⟩
theorem Val_add {x y : Operand} {t t' : TypeId} {k : IntKind} {m n : Int} (hx : ev e x = .int k m) (hy : ev e y = .int k n) (h : InK k (m + n)) : Val P N w0 L e ⟨d, .binOp .add t x y t', ty, pos, af, g⟩ (.int k (m + n)) := by
  intro w _; unfold InK at h; simp [execOp, hx, hy, binOp, Op.intArith, eqGuard, h]
theorem Val_sub {x y : Operand} {t t' : TypeId} {k : IntKind} {m n : Int} (hx : ev e x = .int k m) (hy : ev e y = .int k n) (h : InK k (m - n)) : Val P N w0 L e ⟨d, .binOp .sub t x y t', ty, pos, af, g⟩ (.int k (m - n)) := by
  intro w _; unfold InK at h; simp [execOp, hx, hy, binOp, Op.intArith, eqGuard, h]
theorem Val_mul {x y : Operand} {t t' : TypeId} {k : IntKind} {m n : Int} (hx : ev e x = .int k m) (hy : ev e y = .int k n) (h : InK k (m * n)) : Val P N w0 L e ⟨d, .binOp .mul t x y t', ty, pos, af, g⟩ (.int k (m * n)) := by
  intro w _; unfold InK at h; simp [execOp, hx, hy, binOp, Op.intArith, eqGuard, h]
theorem Val_quo {x y : Operand} {t t' : TypeId} {k : IntKind} {m n : Int} (hx : ev e x = .int k m) (hy : ev e y = .int k n) (h0 : n ≠ 0) (h : InK k (m.tdiv n)) : Val P N w0 L e ⟨d, .binOp .quo t x y t', ty, pos, af, g⟩ (.int k (m.tdiv n)) := by
  intro w _; unfold InK at h; simp [execOp, hx, hy, binOp, Op.intDiv, eqGuard, h, h0]
theorem Val_rem {x y : Operand} {t t' : TypeId} {k : IntKind} {m n : Int} (hx : ev e x = .int k m) (hy : ev e y = .int k n) (h0 : n ≠ 0) : Val P N w0 L e ⟨d, .binOp .rem t x y t', ty, pos, af, g⟩ (.int k (m.tmod n)) := by
  intro w _; simp [execOp, hx, hy, binOp, Op.intDiv, eqGuard, h0]
theorem Val_bits {x y : Operand} {t t' : TypeId} {k : IntKind} {m n : Int} {op : BinOp} {v : Value} (hx : ev e x = .int k m) (hy : ev e y = .int k n)
    (ho : (match op with | .and | .or | .xor | .andNot => true | _ => false) = true) (hv : ∀ w, (Op.intBits op k m n).run P w = .ok v w) : Val P N w0 L e ⟨d, .binOp op t x y t', ty, pos, af, g⟩ v := by
  intro w _
  cases op <;> simp at ho <;> simp [execOp, hx, hy, binOp, eqGuard, hv]
theorem Val_shift {x y : Operand} {t t' : TypeId} {k k' : IntKind} {m n : Int} {op : BinOp} {v : Value} (hx : ev e x = .int k m) (hy : ev e y = .int k' n)
    (ho : (match op with | .shl | .shr => true | _ => false) = true) (hv : ∀ w, (Op.shift op k m k' n).run P w = .ok v w) : Val P N w0 L e ⟨d, .binOp op t x y t', ty, pos, af, g⟩ v := by
  intro w _
  cases op <;> simp at ho <;> simp [execOp, hx, hy, binOp, eqGuard, hv]
theorem Val_eql {x y : Operand} {t t' : TypeId} {k : IntKind} {m n : Int} (hx : ev e x = .int k m) (hy : ev e y = .int k n) : Val P N w0 L e ⟨d, .binOp .eql t x y t', ty, pos, af, g⟩ (.bool (m == n)) := by
  intro w _; simp [execOp, hx, hy, binOp, Op.intCmp, eqGuard]
theorem Val_neq {x y : Operand} {t t' : TypeId} {k : IntKind} {m n : Int} (hx : ev e x = .int k m) (hy : ev e y = .int k n) : Val P N w0 L e ⟨d, .binOp .neq t x y t', ty, pos, af, g⟩ (.bool (m != n)) := by
  intro w _; simp [execOp, hx, hy, binOp, Op.intCmp, eqGuard]
theorem Val_lss {x y : Operand} {t t' : TypeId} {k : IntKind} {m n : Int} (hx : ev e x = .int k m) (hy : ev e y = .int k n) : Val P N w0 L e ⟨d, .binOp .lss t x y t', ty, pos, af, g⟩ (.bool (decide (m < n))) := by
  intro w _; simp [execOp, hx, hy, binOp, Op.intCmp, eqGuard]
theorem Val_leq {x y : Operand} {t t' : TypeId} {k : IntKind} {m n : Int} (hx : ev e x = .int k m) (hy : ev e y = .int k n) : Val P N w0 L e ⟨d, .binOp .leq t x y t', ty, pos, af, g⟩ (.bool (decide (m ≤ n))) := by
  intro w _; simp [execOp, hx, hy, binOp, Op.intCmp, eqGuard]
theorem Val_gtr {x y : Operand} {t t' : TypeId} {k : IntKind} {m n : Int} (hx : ev e x = .int k m) (hy : ev e y = .int k n) : Val P N w0 L e ⟨d, .binOp .gtr t x y t', ty, pos, af, g⟩ (.bool (decide (n < m))) := by
  intro w _; simp [execOp, hx, hy, binOp, Op.intCmp, eqGuard]
theorem Val_geq {x y : Operand} {t t' : TypeId} {k : IntKind} {m n : Int} (hx : ev e x = .int k m) (hy : ev e y = .int k n) : Val P N w0 L e ⟨d, .binOp .geq t x y t', ty, pos, af, g⟩ (.bool (decide (n ≤ m))) := by
  intro w _; simp [execOp, hx, hy, binOp, Op.intCmp, eqGuard]
theorem run_equalIn_bool (w : World) (d : Nat) {t : TypeId} [hb : BoolTy P t] (m n : Bool) : (Op.equalIn (d + 1) t (.bool m) (.bool n)).run P w = .ok (m == n) w := by
  simp [Op.equalIn, run_underlying hb.und]
theorem run_equal_bool (w : World) {t : TypeId} [hb : BoolTy P t] (m n : Bool) : (Op.equal t (.bool m) (.bool n)).run P w = .ok (m == n) w := by
  unfold Op.equal Op.maxDepth; exact run_equalIn_bool w 9999 m n
theorem Val_eqlB {x y : Operand} {t t' : TypeId} [hb : BoolTy P t] {m n : Bool} (hx : ev e x = .bool m) (hy : ev e y = .bool n) : Val P N w0 L e ⟨d, .binOp .eql t x y t', ty, pos, af, g⟩ (.bool (m == n)) := by
  intro w _; simp [execOp, hx, hy, binOp, eqGuard, run_equal_bool]
theorem Val_neqB {x y : Operand} {t t' : TypeId} [hb : BoolTy P t] {m n : Bool} (hx : ev e x = .bool m) (hy : ev e y = .bool n) : Val P N w0 L e ⟨d, .binOp .neq t x y t', ty, pos, af, g⟩ (.bool (m != n)) := by
  intro w _; simp [execOp, hx, hy, binOp, eqGuard, run_equal_bool, bne]
theorem Val_not {x : Operand} {t : TypeId} {m : Bool} (hx : ev e x = .bool m) : Val P N w0 L e ⟨d, .unOp .not t x, ty, pos, af, g⟩ (.bool (!m)) := by
  intro w _; simp [execOp, hx, Op.unary]
theorem Val_convert {x : Operand} {s t : TypeId} {k k' : IntKind} {m : Int} [h1 : IntTy P s k] [h2 : IntTy P t k'] (hx : ev e x = .int k m) (h : InK k' m) : Val P N w0 L e ⟨d, .convert s t x, ty, pos, af, g⟩ (.int k' m) := by
  intro w _; unfold InK at h; simp [execOp, hx, convert, run_underlying h1.und, run_underlying h2.und, Conv.intToInt, h]
theorem Val_len {x : Operand} {t : TypeId} {E : TypeId} [h : SliceOf P t E] {a : Option Addr} {m c : Nat} (hx : ev e x = .slice a m c) : Val P N w0 L e ⟨d, .call { callee := .builtin .len, args := #[x], argTypes := #[t] }, ty, pos, af, g⟩ (.int .i64 m) := by
  intro w _; simp [execOp, resolve, invoke, builtin, hx, Builtin.len_, run_underlying h.und, goInt]
theorem Val_min {x y : Operand} {ts : Array TypeId} {k : IntKind} {m n : Int} (hx : ev e x = .int k m) (hy : ev e y = .int k n) : Val P N w0 L e ⟨d, .call { callee := .builtin .min, args := #[x, y], argTypes := ts }, ty, pos, af, g⟩ (.int k (min m n)) := by
  intro w _
  have : (if n < m then n else m) = min m n := by rw [Int.min_def]; split <;> split <;> omega
  simp [execOp, resolve, invoke, builtin, hx, hy, Builtin.min_, Builtin.min2, this]
theorem Val_max {x y : Operand} {ts : Array TypeId} {k : IntKind} {m n : Int} (hx : ev e x = .int k m) (hy : ev e y = .int k n) : Val P N w0 L e ⟨d, .call { callee := .builtin .max, args := #[x, y], argTypes := ts }, ty, pos, af, g⟩ (.int k (max m n)) := by
  intro w _
  have : (if m < n then n else m) = max m n := by rw [Int.max_def]; split <;> split <;> omega
  simp [execOp, resolve, invoke, builtin, hx, hy, Builtin.max_, Builtin.max2, this]
end
end Go.Proofs.Ytakmopiceopcpaa
end
