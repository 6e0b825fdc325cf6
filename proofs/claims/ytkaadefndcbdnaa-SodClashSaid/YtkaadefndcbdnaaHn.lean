/- How many bits are set, of numbers below 32. -/
import Derived.Test.YtkaadefndcbdnaaB7
namespace Go.Proofs.Ytkaadefndcbdnaa
open Go.RowKit
section
variable {P : Program} {N : Nat} {w0 : World} {L : Hp} {e : Env} {d : Option Nat} {ty : TypeId} {pos : String} {af : Array Edge} {g : Option (Nat × Bool)}
theorem bv_and (n a b : Nat) (ha : a < 2 ^ n) (hb : b < 2 ^ n) : (BitVec.ofInt n (a : Int) &&& BitVec.ofInt n (b : Int)).toNat = a &&& b := by
  simp [BitVec.toNat_and, Nat.mod_eq_of_lt ha, Nat.mod_eq_of_lt hb]
theorem Val_addN {x y : Operand} {t t' : TypeId} {a b : Nat} (hx : ev e x = .int .u64 (a : Int)) (hy : ev e y = .int .u64 (b : Int)) (h : a + b < 2 ^ 64) : Val P N w0 L e ⟨d, .binOp .add t x y t', ty, pos, af, g⟩ (.int .u64 ((a + b : Nat) : Int)) := by
  rw [Int.natCast_add]
  refine Val_add hx hy ?_
  rw [← Int.natCast_add]
  exact wrap_nat rfl h
theorem Val_andS {x y : Operand} {t t' : TypeId} {a b : Nat} (hx : ev e x = .int .i64 (a : Int)) (hy : ev e y = .int .i64 (b : Int)) (ha : a < 2 ^ 63) (hb : b < 2 ^ 63) :
    Val P N w0 L e ⟨d, .binOp .and t x y t', ty, pos, af, g⟩ (.int .i64 ((a &&& b : Nat) : Int)) := by
  refine Val_bits hx hy rfl fun w => ?_
  have h1 : (BitVec.ofInt IntKind.i64.bits (a : Int) &&& BitVec.ofInt IntKind.i64.bits (b : Int)).toNat = a &&& b := bv_and _ a b (Nat.lt_trans ha (by decide)) (Nat.lt_trans hb (by decide))
  have h2 : a &&& b < 2 ^ 63 := Nat.and_lt_two_pow _ hb
  simp only [Op.intBits, h1, Sem.run_pure]
  have h3 : InK .i64 ((a &&& b : Nat) : Int) := InK_i64 (by omega) (by omega)
  unfold InK at h3
  rw [h3]
end
/-- How many of the lowest five bits are set. -/
def pc (x : Nat) : Nat := x % 2 + x / 2 % 2 + x / 4 % 2 + x / 8 % 2 + x / 16 % 2
namespace Ones
def M1 : Nat := 6148914691236517205
def M2 : Nat := 3689348814741910323
def M3 : Nat := 1085102592571150095
def g1 (x : Nat) : Nat := (x / 2 ^ 1 &&& 6148914691236517205) + (x &&& 6148914691236517205)
def g2 (x : Nat) : Nat := (x / 2 ^ 2 &&& 3689348814741910323) + (x &&& 3689348814741910323)
def g3 (x : Nat) : Nat := (x / 2 ^ 4 + x) &&& 1085102592571150095
def g4 (k x : Nat) : Nat := x + x / 2 ^ k
def all (x : Nat) : Nat := g4 32 (g4 16 (g4 8 (g3 (g2 (g1 x)))))
end Ones
open Ones in
theorem ones_sm {x : Nat} (hx : x < 32) : g1 x < 100 ∧ g2 (g1 x) < 100 ∧ g3 (g2 (g1 x)) < 100 ∧ g4 8 (g3 (g2 (g1 x))) < 100 ∧ g4 16 (g4 8 (g3 (g2 (g1 x)))) < 100 ∧ all x < 100 ∧ (all x &&& 127) = pc x :=
  (by decide : ∀ x : Nat, x < 32 → g1 x < 100 ∧ g2 (g1 x) < 100 ∧ g3 (g2 (g1 x)) < 100 ∧ g4 8 (g3 (g2 (g1 x))) < 100 ∧ g4 16 (g4 8 (g3 (g2 (g1 x)))) < 100 ∧ all x < 100 ∧ (all x &&& 127) = pc x) x hx
theorem div_sm {x y : Nat} (h : x < 100) : x / 2 ^ y < 100 := Nat.lt_of_le_of_lt (Nat.div_le_self _ _) h
attribute [local irreducible] AnyO AnyB QAny QB EWalk AWalk Ev WP OPS QThen QBlock QScope QLoop QBody Val New Turn Tri Enters PostA Blk Ro
section
variable (N : Nat) (w0 : World)
open Ones in
theorem ones64_ret (L : Hp) (x : Nat) (hx : x < 32) : Ret Try.prog N w0 L 104 [.int .u64 x].toArray (.int .i64 (pc x)) := by
  obtain ⟨h1, h2, h3, h4, h5, h6, h7⟩ := ones_sm hx
  have s : ∀ y : Nat, y < 100 → y < 2 ^ 64 := fun y h => by omega
  refine tri_of_WP Try.func104 rfl (n := 35) rfl (by simp) ?_
  rw [← h7]
  have h3a : g2 (g1 x) / 2 ^ 4 + g2 (g1 x) < 2 ^ 64 := Nat.lt_trans (Nat.add_lt_add (div_sm (y := 4) h2) h2) (by decide)
  have hc0 : InK .i64 ((all x : Nat) : Int) := InK_i64 (by omega) (by omega)
  have hx' : x < 100 := by omega
  have aL : ∀ a b : Nat, a < 100 → (a &&& b) < 100 := fun a b h => Nat.lt_of_le_of_lt Nat.and_le_left h
  repeat' (first | (refine GiP ?_; first | (refine Znh ?_) | (with_reducible refine Znl ?_)) | (refine GiW ?_; first | (refine Zsq fun K hK => ?_) | (refine ZrN 0 fun _ => ?_; refine Zv Zai ?_) | (refine ZrN 1 fun _ => ?_; refine Zv Zmi ?_; refine Zv (Val_shr rfl rfl (by decide)) ?_; (first | (refine Zv (Val_and rfl rfl (rfl : _ = Value.int _ ((6148914691236517205 : Nat) : Int)) (s _ (by first | exact hx' | exact div_sm hx')) (by decide)) ?_) | (refine Zv (Val_and rfl rfl (rfl : _ = Value.int _ ((3689348814741910323 : Nat) : Int)) (s _ (by first | exact h1 | exact div_sm h1)) (by decide)) ?_) | (refine Zv (Val_and rfl rfl (rfl : _ = Value.int _ ((1085102592571150095 : Nat) : Int)) h3a (by decide)) ?_) | (refine Zv (Val_andS rfl (rfl : _ = Value.int _ ((127 : Nat) : Int)) (by exact Nat.lt_trans h6 (by decide)) (by decide)) ?_)); refine Zv Zmi ?_; (first | (refine Zv (Val_and rfl rfl (rfl : _ = Value.int _ ((6148914691236517205 : Nat) : Int)) (s _ (by first | exact hx' | exact div_sm hx')) (by decide)) ?_) | (refine Zv (Val_and rfl rfl (rfl : _ = Value.int _ ((3689348814741910323 : Nat) : Int)) (s _ (by first | exact h1 | exact div_sm h1)) (by decide)) ?_) | (refine Zv (Val_and rfl rfl (rfl : _ = Value.int _ ((1085102592571150095 : Nat) : Int)) h3a (by decide)) ?_) | (refine Zv (Val_andS rfl (rfl : _ = Value.int _ ((127 : Nat) : Int)) (by exact Nat.lt_trans h6 (by decide)) (by decide)) ?_)); refine Zv (Val_addN rfl rfl (by first | exact s _ h1 | exact s _ h2 | exact h3a | exact s _ h4 | exact s _ h5 | exact s _ h6)) ?_; refine Zv Zai ?_) | (refine ZrN 2 fun _ => ?_; refine Zv Zmi ?_; refine Zv (Val_shr rfl rfl (by decide)) ?_; (first | (refine Zv (Val_and rfl rfl (rfl : _ = Value.int _ ((6148914691236517205 : Nat) : Int)) (s _ (by first | exact hx' | exact div_sm hx')) (by decide)) ?_) | (refine Zv (Val_and rfl rfl (rfl : _ = Value.int _ ((3689348814741910323 : Nat) : Int)) (s _ (by first | exact h1 | exact div_sm h1)) (by decide)) ?_) | (refine Zv (Val_and rfl rfl (rfl : _ = Value.int _ ((1085102592571150095 : Nat) : Int)) h3a (by decide)) ?_) | (refine Zv (Val_andS rfl (rfl : _ = Value.int _ ((127 : Nat) : Int)) (by exact Nat.lt_trans h6 (by decide)) (by decide)) ?_)); refine Zv Zmi ?_; (first | (refine Zv (Val_and rfl rfl (rfl : _ = Value.int _ ((6148914691236517205 : Nat) : Int)) (s _ (by first | exact hx' | exact div_sm hx')) (by decide)) ?_) | (refine Zv (Val_and rfl rfl (rfl : _ = Value.int _ ((3689348814741910323 : Nat) : Int)) (s _ (by first | exact h1 | exact div_sm h1)) (by decide)) ?_) | (refine Zv (Val_and rfl rfl (rfl : _ = Value.int _ ((1085102592571150095 : Nat) : Int)) h3a (by decide)) ?_) | (refine Zv (Val_andS rfl (rfl : _ = Value.int _ ((127 : Nat) : Int)) (by exact Nat.lt_trans h6 (by decide)) (by decide)) ?_)); refine Zv (Val_addN rfl rfl (by first | exact s _ h1 | exact s _ h2 | exact h3a | exact s _ h4 | exact s _ h5 | exact s _ h6)) ?_; refine Zv Zai ?_) | (refine ZrN 3 fun _ => ?_; refine Zv Zmi ?_; refine Zv (Val_shr rfl rfl (by decide)) ?_; refine Zv Zmi ?_; refine Zv (Val_addN rfl rfl (by first | exact s _ h1 | exact s _ h2 | exact h3a | exact s _ h4 | exact s _ h5 | exact s _ h6)) ?_; (first | (refine Zv (Val_and rfl rfl (rfl : _ = Value.int _ ((6148914691236517205 : Nat) : Int)) (s _ (by first | exact hx' | exact div_sm hx')) (by decide)) ?_) | (refine Zv (Val_and rfl rfl (rfl : _ = Value.int _ ((3689348814741910323 : Nat) : Int)) (s _ (by first | exact h1 | exact div_sm h1)) (by decide)) ?_) | (refine Zv (Val_and rfl rfl (rfl : _ = Value.int _ ((1085102592571150095 : Nat) : Int)) h3a (by decide)) ?_) | (refine Zv (Val_andS rfl (rfl : _ = Value.int _ ((127 : Nat) : Int)) (by exact Nat.lt_trans h6 (by decide)) (by decide)) ?_)); refine Zv Zai ?_) | (refine ZrN 4 fun _ => ?_; refine Zv Zmi ?_; refine Zv Zmi ?_; refine Zv (Val_shr rfl rfl (by decide)) ?_; refine Zv (Val_addN rfl rfl (by first | exact s _ h1 | exact s _ h2 | exact h3a | exact s _ h4 | exact s _ h5 | exact s _ h6)) ?_; refine Zv Zai ?_) | (refine ZrN 5 fun _ => ?_; refine Zv Zmi ?_; refine Zv Zmi ?_; refine Zv (Val_shr rfl rfl (by decide)) ?_; refine Zv (Val_addN rfl rfl (by first | exact s _ h1 | exact s _ h2 | exact h3a | exact s _ h4 | exact s _ h5 | exact s _ h6)) ?_; refine Zv Zai ?_) | (refine ZrN 6 fun _ => ?_; refine Zv Zmi ?_; refine Zv Zmi ?_; refine Zv (Val_shr rfl rfl (by decide)) ?_; refine Zv (Val_addN rfl rfl (by first | exact s _ h1 | exact s _ h2 | exact h3a | exact s _ h4 | exact s _ h5 | exact s _ h6)) ?_; refine Zv Zai ?_) | (refine ZrN 7 fun _ => ?_; refine Zv Zmi ?_; (first | (refine Zv (Val_convert rfl hc0) ?_) | (refine Zv Zxco ?_)); (first | (refine Zv (Val_and rfl rfl (rfl : _ = Value.int _ ((6148914691236517205 : Nat) : Int)) (s _ (by first | exact hx' | exact div_sm hx')) (by decide)) ?_) | (refine Zv (Val_and rfl rfl (rfl : _ = Value.int _ ((3689348814741910323 : Nat) : Int)) (s _ (by first | exact h1 | exact div_sm h1)) (by decide)) ?_) | (refine Zv (Val_and rfl rfl (rfl : _ = Value.int _ ((1085102592571150095 : Nat) : Int)) h3a (by decide)) ?_) | (refine Zv (Val_andS rfl (rfl : _ = Value.int _ ((127 : Nat) : Int)) (by exact Nat.lt_trans h6 (by decide)) (by decide)) ?_)); refine Zv Zai ?_) | (with_reducible apply WP_ret)) | (refine Zhn ?_) | (refine Zhr ?_))
  exact QBody_ret1 rfl (rfl : _ = Value.int _ _) ⟨rfl, rfl⟩
theorem ones_ret (L : Hp) (x : Nat) (hx : x < 32) : Ret Try.prog N w0 L 86 [.int .u64 x].toArray (.int .i64 (pc x)) := by
  refine tri_of_WP Try.func86 rfl (n := 8) rfl (by simp) ?_
  repeat' (first | (refine GiP ?_; first | (refine Znh ?_) | (with_reducible refine Znl ?_) | (refine Zatd 2 ?_; refine Zv Zai ?_)) | (refine GiW ?_; first | (refine Zsq fun K hK => ?_) | (refine ZrN 0 fun _ => ?_; refine Zv Zai ?_) | (refine ZrN 1 fun _ => ?_; refine Zv Zmi ?_; refine Zv Zxco ?_) | (refine ZrN 2 fun _ => ?_; refine Zv Zmi ?_; refine Zcl (Enters_fn rfl) (ones64_ret N w0 _ x hx) ?_; refine Zv Zai ?_) | (refine WP_cond_true rfl ?_) | (refine WP_cond_false rfl ?_) | (refine Zcd (fun hc => ?_) (fun hc => ?_) <;> (try (exfalso; omega))) | (with_reducible apply WP_skip) | (with_reducible apply WP_ret)) | (refine Zhn ?_) | (refine Zhr ?_))
  exact QBody_ret1 rfl (rfl : _ = Value.int _ _) ⟨rfl, rfl⟩
theorem cmp_ret (L : Hp) (x y : Nat) (hx : x < 32) (hy : y < 32) : Ret Try.prog N w0 L 85 [.int .u64 x, .int .u64 y].toArray (.int .i64 ((pc x : Int) - pc y)) := by
  have h1 : pc x ≤ 5 := by unfold pc; omega
  have h2 : pc y ≤ 5 := by unfold pc; omega
  refine tri_of_WP Try.func85 rfl (n := 10) rfl (by simp) ?_
  repeat' (first | (refine GiP ?_; first | (refine Znh ?_) | (with_reducible refine Znl ?_)) | (refine GiW ?_; first | (refine Zsq fun K hK => ?_) | (refine ZrN 0 fun _ => ?_; refine Zv Zai ?_) | (refine ZrN 1 fun _ => ?_; refine Zv Zmi ?_; (first | (refine Zcl (Enters_fn rfl) (ones_ret N w0 _ x hx) ?_) | (refine Zcl (Enters_fn rfl) (ones_ret N w0 _ y hy) ?_)); refine Zv Zmi ?_; (first | (refine Zcl (Enters_fn rfl) (ones_ret N w0 _ x hx) ?_) | (refine Zcl (Enters_fn rfl) (ones_ret N w0 _ y hy) ?_)); refine Zv Zxsub ?_; refine Zv Zai ?_) | (with_reducible apply WP_ret)) | (refine Zhn ?_) | (refine Zhr ?_))
  exact QBody_ret1 rfl (rfl : _ = Value.int _ _) ⟨rfl, rfl⟩
end
end Go.Proofs.Ytkaadefndcbdnaa
