/- Bits of whole numbers with a sign, that are not negative. -/
import Derived.Test.YtakmopiceopcpaaSl
section
namespace Go.Proofs.Ytakmopiceopcpaa
open Go.RowKit
section
variable {P : Program} {N : Nat} {w0 : World} {L : Hp} {e : Env} {d : Option Nat} {ty : TypeId} {pos : String} {af : Array Edge} {g : Option (Nat × Bool)} {x y : Operand} {t t' : TypeId} {a b i : Nat}
theorem wrap_i64 {m : Nat} (h : m < 2 ^ 63) : IntKind.wrap .i64 (m : Int) = m := IntWalk.i64_in _ ⟨by omega, by omega⟩
theorem Val_andNotS (hx : ev e x = .int .i64 (a : Int)) (hy : ev e y = .int .i64 (b : Int)) (ha : a < 2 ^ 63) (hb : b < 2 ^ 63) :
    Val P N w0 L e ⟨d, .binOp .andNot t x y t', ty, pos, af, g⟩ (.int .i64 ((a &&& (2 ^ 64 - 1 - b) : Nat) : Int)) := by
  refine Val_bits hx hy rfl fun w => ?_
  have h1 : (BitVec.ofInt IntKind.i64.bits (a : Int) &&& ~~~ BitVec.ofInt IntKind.i64.bits (b : Int)).toNat = a &&& (2 ^ 64 - 1 - b) := by
    have e1 : a % 2 ^ IntKind.i64.bits = a := Nat.mod_eq_of_lt (by show a < 2 ^ 64; omega)
    have e2 : b % 2 ^ IntKind.i64.bits = b := Nat.mod_eq_of_lt (by show b < 2 ^ 64; omega)
    rw [BitVec.toNat_and, BitVec.toNat_not]
    simp only [BitVec.ofInt_natCast, BitVec.toNat_ofNat, e1, e2]
    rfl
  simp only [Op.intBits, h1, Sem.run_pure]
  rw [wrap_i64 (Nat.lt_of_le_of_lt Nat.and_le_left ha)]
theorem Val_shlS {k' : IntKind} (hx : ev e x = .int .i64 1) (hy : ev e y = .int k' (i : Int)) (hi : i < 62) :
    Val P N w0 L e ⟨d, .binOp .shl t x y t', ty, pos, af, g⟩ (.int .i64 ((2 ^ i : Nat) : Int)) := by
  refine Val_shift hx hy rfl fun w => ?_
  have h1 : ¬ ((i : Int) < 0) := by omega
  have h2 : min (i : Int).toNat IntKind.i64.bits = i := by
    have : IntKind.i64.bits = 64 := rfl
    simp; omega
  simp only [Op.shift, if_neg h1, h2, Sem.run_pure]
  have h3 : (1 : Int) * 2 ^ i = ((2 ^ i : Nat) : Int) := by norm_cast; simp
  rw [h3, wrap_i64 (Nat.pow_lt_pow_right (by omega) (by omega))]
theorem Val_orS (hx : ev e x = .int .i64 (a : Int)) (hy : ev e y = .int .i64 (b : Int)) (ha : a < 2 ^ 62) (hb : b < 2 ^ 62) :
    Val P N w0 L e ⟨d, .binOp .or t x y t', ty, pos, af, g⟩ (.int .i64 ((a ||| b : Nat) : Int)) := by
  refine Val_bits hx hy rfl fun w => ?_
  have h1 : (BitVec.ofInt IntKind.i64.bits (a : Int) ||| BitVec.ofInt IntKind.i64.bits (b : Int)).toNat = a ||| b := by
    have e1 : a % 2 ^ IntKind.i64.bits = a := Nat.mod_eq_of_lt (by show a < 2 ^ 64; omega)
    have e2 : b % 2 ^ IntKind.i64.bits = b := Nat.mod_eq_of_lt (by show b < 2 ^ 64; omega)
    rw [BitVec.toNat_or]
    simp only [BitVec.ofInt_natCast, BitVec.toNat_ofNat, e1, e2]
  simp only [Op.intBits, h1, Sem.run_pure]
  rw [wrap_i64 (Nat.lt_trans (Nat.or_lt_two_pow ha hb) (by decide))]
theorem Val_and1 (hx : ev e x = .int .u64 (a : Int)) (hy : ev e y = .int .u64 1) (ha : a < 2 ^ 64) :
    Val P N w0 L e ⟨d, .binOp .and t x y t', ty, pos, af, g⟩ (.int .u64 ((a % 2 : Nat) : Int)) := by
  have := Val_and (P := P) (N := N) (w0 := w0) (L := L) (d := d) (ty := ty) (pos := pos) (af := af) (g := g) (t := t) (t' := t') (k := .u64) (a := a) (b := 1) rfl hx hy ha (by decide)
  rwa [Nat.and_one_is_mod] at this
end
end Go.Proofs.Ytakmopiceopcpaa
end
