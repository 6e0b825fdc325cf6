/- How many bits are set, of numbers below 128. · A stable sort of numbers below 128 by how many bits are set: the walks of slices' functions, as plain functions of a list. · A stable sort, continued: rotations. · A stable sort, continued: merges. -/
import Derived.Test.YtakmopiceopcpaaBs
section
section
namespace Go.Proofs.Ytakmopiceopcpaa
open Go.RowKit
section
variable {P : Program} {N : Nat} {w0 : World} {L : Hp} {e : Env} {d : Option Nat} {ty : TypeId} {pos : String} {af : Array Edge} {g : Option (Nat × Bool)}
theorem bv_and (n a b : Nat) (ha : a < 2 ^ n) (hb : b < 2 ^ n) : (BitVec.ofInt n (a : Int) &&& BitVec.ofInt n (b : Int)).toNat = a &&& b := by
  simp [BitVec.toNat_and, Nat.mod_eq_of_lt ha, Nat.mod_eq_of_lt hb]
theorem Val_addN {x y : Operand} {t t' : TypeId} {a b : Nat} (hx : ev e x = .int .u64 (a : Int)) (hy : ev e y = .int .u64 (b : Int)) (h : a + b < 2 ^ 64) : Val P N w0 L e ⟨d, .binOp .add t x y t', ty, pos, af, g⟩ (.int .u64 ((a + b : Nat) : Int)) := by
  rw [Int.natCast_add]
  refine Val_add hx hy ?_
  rw [← Int.natCast_add]
  exact wrap_nat rfl h
theorem Val_andS {x y : Operand} {t t' : TypeId} {a b : Nat} (hx : ev e x = .int .i64 (a : Int)) (hy : ev e y = .int .i64 (b : Int)) (ha : a < 2 ^ 63) (hb : b < 2 ^ 63) :
    Val P N w0 L e ⟨d, .binOp .and t x y t', ty, pos, af, g⟩ (.int .i64 ((a &&& b : Nat) : Int)) := by
  refine Val_bits hx hy rfl fun w => ?_
  have h1 : (BitVec.ofInt IntKind.i64.bits (a : Int) &&& BitVec.ofInt IntKind.i64.bits (b : Int)).toNat = a &&& b := bv_and _ a b (Nat.lt_trans ha (by decide)) (Nat.lt_trans hb (by decide))
  have h2 : a &&& b < 2 ^ 63 := Nat.and_lt_two_pow _ hb
  simp only [Op.intBits, h1, Sem.run_pure]
  have h3 : InK .i64 ((a &&& b : Nat) : Int) := InK_i64 (by omega) (by omega)
  unfold InK at h3
  rw [h3]
end
/-- How many of the lowest seven bits are set. -/
def pc (x : Nat) : Nat := x % 2 + x / 2 % 2 + x / 4 % 2 + x / 8 % 2 + x / 16 % 2 + x / 32 % 2 + x / 64 % 2
namespace Ones
def g1 (x : Nat) : Nat := (x / 2 ^ 1 &&& 6148914691236517205) + (x &&& 6148914691236517205)
def g2 (x : Nat) : Nat := (x / 2 ^ 2 &&& 3689348814741910323) + (x &&& 3689348814741910323)
def g3 (x : Nat) : Nat := (x / 2 ^ 4 + x) &&& 1085102592571150095
def g4 (k x : Nat) : Nat := x + x / 2 ^ k
def all (x : Nat) : Nat := g4 32 (g4 16 (g4 8 (g3 (g2 (g1 x)))))
end Ones
open Ones in
theorem ones_sm {x : Nat} (hx : x < 128) : g1 x < 200 ∧ g2 (g1 x) < 200 ∧ g3 (g2 (g1 x)) < 200 ∧ g4 8 (g3 (g2 (g1 x))) < 200 ∧ g4 16 (g4 8 (g3 (g2 (g1 x)))) < 200 ∧ all x < 200 ∧ (all x &&& 127) = pc x :=
  (by decide : ∀ x : Nat, x < 128 → g1 x < 200 ∧ g2 (g1 x) < 200 ∧ g3 (g2 (g1 x)) < 200 ∧ g4 8 (g3 (g2 (g1 x))) < 200 ∧ g4 16 (g4 8 (g3 (g2 (g1 x)))) < 200 ∧ all x < 200 ∧ (all x &&& 127) = pc x) x hx
theorem div_sm {x y : Nat} (h : x < 200) : x / 2 ^ y < 200 := Nat.lt_of_le_of_lt (Nat.div_le_self _ _) h
attribute [local irreducible] AnyO AnyB QAny QB EWalk AWalk Ev WP OPS QThen QBlock QScope QLoop QBody Val New Turn Tri Enters PostA Blk Ro
section
variable (N : Nat) (w0 : World)
open Ones in
theorem ones64_ret (L : Hp) (x : Nat) (hx : x < 128) : Ret Try.prog N w0 L 100 [.int .u64 x].toArray (.int .i64 (pc x)) := by
  obtain ⟨h1, h2, h3, h4, h5, h6, h7⟩ := ones_sm hx
  have s : ∀ y : Nat, y < 200 → y < 2 ^ 64 := fun y h => by omega
  refine tri_of_WP Try.func100 rfl (n := 35) rfl (by simp) ?_
  rw [← h7]
  have h3a : g2 (g1 x) / 2 ^ 4 + g2 (g1 x) < 2 ^ 64 := Nat.lt_trans (Nat.add_lt_add (div_sm (y := 4) h2) h2) (by decide)
  have hc0 : InK .i64 ((all x : Nat) : Int) := InK_i64 (by omega) (by omega)
  have hx' : x < 200 := by omega
  have aL : ∀ a b : Nat, a < 200 → (a &&& b) < 200 := fun a b h => Nat.lt_of_le_of_lt Nat.and_le_left h
  repeat' (first | (refine Znh ?_) | (refine GiW ?_; first | (refine Zsq fun K hK => ?_) | (refine ZrN 0 fun _ => ?_; refine Zv Zai ?_) | (refine ZrN 1 fun _ => ?_; refine Zv Zmi ?_; refine Zv (Val_shr rfl rfl (by decide)) ?_; (first | (refine Zv (Val_and rfl rfl (rfl : _ = Value.int _ ((6148914691236517205 : Nat) : Int)) (s _ (by first | exact hx' | exact div_sm hx')) (by decide)) ?_) | (refine Zv (Val_and rfl rfl (rfl : _ = Value.int _ ((3689348814741910323 : Nat) : Int)) (s _ (by first | exact h1 | exact div_sm h1)) (by decide)) ?_) | (refine Zv (Val_and rfl rfl (rfl : _ = Value.int _ ((1085102592571150095 : Nat) : Int)) h3a (by decide)) ?_) | (refine Zv (Val_andS rfl (rfl : _ = Value.int _ ((127 : Nat) : Int)) (by exact Nat.lt_trans h6 (by decide)) (by decide)) ?_)); refine Zv Zmi ?_; (first | (refine Zv (Val_and rfl rfl (rfl : _ = Value.int _ ((6148914691236517205 : Nat) : Int)) (s _ (by first | exact hx' | exact div_sm hx')) (by decide)) ?_) | (refine Zv (Val_and rfl rfl (rfl : _ = Value.int _ ((3689348814741910323 : Nat) : Int)) (s _ (by first | exact h1 | exact div_sm h1)) (by decide)) ?_) | (refine Zv (Val_and rfl rfl (rfl : _ = Value.int _ ((1085102592571150095 : Nat) : Int)) h3a (by decide)) ?_) | (refine Zv (Val_andS rfl (rfl : _ = Value.int _ ((127 : Nat) : Int)) (by exact Nat.lt_trans h6 (by decide)) (by decide)) ?_)); refine Zv (Val_addN rfl rfl (by first | exact s _ h1 | exact s _ h2 | exact h3a | exact s _ h4 | exact s _ h5 | exact s _ h6)) ?_; refine Zv Zai ?_) | (refine ZrN 2 fun _ => ?_; refine Zv Zmi ?_; refine Zv (Val_shr rfl rfl (by decide)) ?_; (first | (refine Zv (Val_and rfl rfl (rfl : _ = Value.int _ ((6148914691236517205 : Nat) : Int)) (s _ (by first | exact hx' | exact div_sm hx')) (by decide)) ?_) | (refine Zv (Val_and rfl rfl (rfl : _ = Value.int _ ((3689348814741910323 : Nat) : Int)) (s _ (by first | exact h1 | exact div_sm h1)) (by decide)) ?_) | (refine Zv (Val_and rfl rfl (rfl : _ = Value.int _ ((1085102592571150095 : Nat) : Int)) h3a (by decide)) ?_) | (refine Zv (Val_andS rfl (rfl : _ = Value.int _ ((127 : Nat) : Int)) (by exact Nat.lt_trans h6 (by decide)) (by decide)) ?_)); refine Zv Zmi ?_; (first | (refine Zv (Val_and rfl rfl (rfl : _ = Value.int _ ((6148914691236517205 : Nat) : Int)) (s _ (by first | exact hx' | exact div_sm hx')) (by decide)) ?_) | (refine Zv (Val_and rfl rfl (rfl : _ = Value.int _ ((3689348814741910323 : Nat) : Int)) (s _ (by first | exact h1 | exact div_sm h1)) (by decide)) ?_) | (refine Zv (Val_and rfl rfl (rfl : _ = Value.int _ ((1085102592571150095 : Nat) : Int)) h3a (by decide)) ?_) | (refine Zv (Val_andS rfl (rfl : _ = Value.int _ ((127 : Nat) : Int)) (by exact Nat.lt_trans h6 (by decide)) (by decide)) ?_)); refine Zv (Val_addN rfl rfl (by first | exact s _ h1 | exact s _ h2 | exact h3a | exact s _ h4 | exact s _ h5 | exact s _ h6)) ?_; refine Zv Zai ?_) | (refine ZrN 3 fun _ => ?_; refine Zv Zmi ?_; refine Zv (Val_shr rfl rfl (by decide)) ?_; refine Zv Zmi ?_; refine Zv (Val_addN rfl rfl (by first | exact s _ h1 | exact s _ h2 | exact h3a | exact s _ h4 | exact s _ h5 | exact s _ h6)) ?_; (first | (refine Zv (Val_and rfl rfl (rfl : _ = Value.int _ ((6148914691236517205 : Nat) : Int)) (s _ (by first | exact hx' | exact div_sm hx')) (by decide)) ?_) | (refine Zv (Val_and rfl rfl (rfl : _ = Value.int _ ((3689348814741910323 : Nat) : Int)) (s _ (by first | exact h1 | exact div_sm h1)) (by decide)) ?_) | (refine Zv (Val_and rfl rfl (rfl : _ = Value.int _ ((1085102592571150095 : Nat) : Int)) h3a (by decide)) ?_) | (refine Zv (Val_andS rfl (rfl : _ = Value.int _ ((127 : Nat) : Int)) (by exact Nat.lt_trans h6 (by decide)) (by decide)) ?_)); refine Zv Zai ?_) | (refine ZrN 4 fun _ => ?_; refine Zv Zmi ?_; refine Zv Zmi ?_; refine Zv (Val_shr rfl rfl (by decide)) ?_; refine Zv (Val_addN rfl rfl (by first | exact s _ h1 | exact s _ h2 | exact h3a | exact s _ h4 | exact s _ h5 | exact s _ h6)) ?_; refine Zv Zai ?_) | (refine ZrN 5 fun _ => ?_; refine Zv Zmi ?_; refine Zv Zmi ?_; refine Zv (Val_shr rfl rfl (by decide)) ?_; refine Zv (Val_addN rfl rfl (by first | exact s _ h1 | exact s _ h2 | exact h3a | exact s _ h4 | exact s _ h5 | exact s _ h6)) ?_; refine Zv Zai ?_) | (refine ZrN 6 fun _ => ?_; refine Zv Zmi ?_; refine Zv Zmi ?_; refine Zv (Val_shr rfl rfl (by decide)) ?_; refine Zv (Val_addN rfl rfl (by first | exact s _ h1 | exact s _ h2 | exact h3a | exact s _ h4 | exact s _ h5 | exact s _ h6)) ?_; refine Zv Zai ?_) | (refine ZrN 7 fun _ => ?_; refine Zv Zmi ?_; (first | (refine Zv (Val_convert rfl hc0) ?_) | (refine Zv Zxco ?_)); (first | (refine Zv (Val_and rfl rfl (rfl : _ = Value.int _ ((6148914691236517205 : Nat) : Int)) (s _ (by first | exact hx' | exact div_sm hx')) (by decide)) ?_) | (refine Zv (Val_and rfl rfl (rfl : _ = Value.int _ ((3689348814741910323 : Nat) : Int)) (s _ (by first | exact h1 | exact div_sm h1)) (by decide)) ?_) | (refine Zv (Val_and rfl rfl (rfl : _ = Value.int _ ((1085102592571150095 : Nat) : Int)) h3a (by decide)) ?_) | (refine Zv (Val_andS rfl (rfl : _ = Value.int _ ((127 : Nat) : Int)) (by exact Nat.lt_trans h6 (by decide)) (by decide)) ?_)); refine Zv Zai ?_) | (with_reducible apply WP_ret)))
  exact QBody_ret1 rfl (rfl : _ = Value.int _ _) ⟨rfl, rfl⟩
theorem ones_ret (L : Hp) (x : Nat) (hx : x < 128) : Ret Try.prog N w0 L 83 [.int .u64 x].toArray (.int .i64 (pc x)) := by
  refine tri_of_WP Try.func83 rfl (n := 8) rfl (by simp) ?_
  repeat' (first | (refine Znh ?_) | (refine GiW ?_; first | (refine Zsq fun K hK => ?_) | (refine ZrN 0 fun _ => ?_; refine Zv Zai ?_) | (refine ZrN 2 fun _ => ?_; refine Zv Zmi ?_; refine Zcl (Enters_fn rfl) (ones64_ret N w0 _ x hx) ?_; refine Zv Zai ?_) | (refine WP_cond_false rfl ?_) | (with_reducible apply WP_skip) | (with_reducible apply WP_ret)) | (refine Zhn ?_))
  exact QBody_ret1 rfl (rfl : _ = Value.int _ _) ⟨rfl, rfl⟩
theorem cmp_ret (L : Hp) (x y : Nat) (hx : x < 128) (hy : y < 128) : Ret Try.prog N w0 L 97 [.int .u64 x, .int .u64 y].toArray (.int .i64 ((pc x : Int) - pc y)) := by
  have h1 : pc x ≤ 7 := by unfold pc; omega
  have h2 : pc y ≤ 7 := by unfold pc; omega
  refine tri_of_WP Try.func97 rfl (n := 10) rfl (by simp) ?_
  repeat' (first | (refine Znh ?_) | (refine GiW ?_; first | (refine Zsq fun K hK => ?_) | (refine ZrN 0 fun _ => ?_; refine Zv Zai ?_) | (refine ZrN 1 fun _ => ?_; refine Zv Zmi ?_; (first | (refine Zcl (Enters_fn rfl) (ones_ret N w0 _ x hx) ?_) | (refine Zcl (Enters_fn rfl) (ones_ret N w0 _ y hy) ?_)); refine Zv Zmi ?_; (first | (refine Zcl (Enters_fn rfl) (ones_ret N w0 _ x hx) ?_) | (refine Zcl (Enters_fn rfl) (ones_ret N w0 _ y hy) ?_)); refine Zv Zxsub ?_; refine Zv Zai ?_) | (with_reducible apply WP_ret)))
  exact QBody_ret1 rfl (rfl : _ = Value.int _ _) ⟨rfl, rfl⟩
end
end Go.Proofs.Ytakmopiceopcpaa
end

section
namespace Go.Proofs.Ytakmopiceopcpaa
open Go.RowKit
def us (l : List Nat) : List Value := l.map fun x : Nat => .int .u64 (x : Int)
def gt (l : List Nat) (i : Nat) : Nat := l.getD i 0
theorem us_get {l : List Nat} {i : Nat} (h : i < l.length) : (us l)[0 + i]? = some (.int .u64 (gt l i : Int)) := by
  simp [us, gt, h]
theorem us_set {l : List Nat} {i v : Nat} : setL (us l) (0 + i) [.int .u64 (v : Int)] = us (l.set i v) := by
  simp [setL, us, List.map_set]
theorem us_len (l : List Nat) : (us l).length = l.length := by simp [us]
/-- Numbers, with what stands behind them. -/
def ut (tl : List Value) (l : List Nat) : List Value := us l ++ tl
theorem ut_get {tl : List Value} {l : List Nat} {i : Nat} (h : i < l.length) : (ut tl l)[0 + i]? = some (.int .u64 (gt l i : Int)) := by
  unfold ut
  rw [List.getElem?_append_left (by rw [us_len]; omega)]
  exact us_get h
theorem ut_set {tl : List Value} {l : List Nat} {i v : Nat} (h : i < l.length) : setL (ut tl l) (0 + i) [.int .u64 (v : Int)] = ut tl (l.set i v) := by
  have := us_set (l := l) (i := i) (v := v)
  simp only [setL, ut] at this ⊢
  rw [List.set_append_left _ _ (by rw [us_len]; omega), this]
theorem ut_len {tl : List Value} (l : List Nat) : (ut tl l).length = l.length + tl.length := by simp [ut, us]
def swp (l : List Nat) (i j : Nat) : List Nat := (l.set i (gt l j)).set j (gt l i)
theorem swp_len (l : List Nat) (i j : Nat) : (swp l i j).length = l.length := by simp [swp]
theorem gt_mem {l : List Nat} {i : Nat} (h : i < l.length) : gt l i ∈ l := by
  have : gt l i = l[i] := by simp [gt, h]
  rw [this]; exact List.getElem_mem h
theorem swp_mem {l : List Nat} {i j : Nat} (hi : i < l.length) (hj : j < l.length) {k : Nat} (h : ∀ x ∈ l, x < k) : ∀ x ∈ swp l i j, x < k := by
  intro x hx
  rcases List.mem_or_eq_of_mem_set hx with hx | rfl
  · rcases List.mem_or_eq_of_mem_set hx with hx | rfl
    · exact h x hx
    · exact h _ (gt_mem hj)
  · exact h _ (gt_mem hi)
/-- Lists of numbers below 128, of so many. -/
def Lt128 (n : Nat) (l : List Nat) : Prop := l.length = n ∧ ∀ x ∈ l, x < 128
theorem Lt128.swp {n : Nat} {l : List Nat} (h : Lt128 n l) {i j : Nat} (hi : i < n) (hj : j < n) : Lt128 n (swp l i j) :=
  ⟨by rw [swp_len]; exact h.1, swp_mem (by rw [h.1]; exact hi) (by rw [h.1]; exact hj) h.2⟩
theorem Lt128.gt {n : Nat} {l : List Nat} (h : Lt128 n l) {i : Nat} (hi : i < n) : gt l i < 128 := h.2 _ (gt_mem (by rw [h.1]; exact hi))
def swapR (l : List Nat) (a b : Nat) : Nat → List Nat
  | 0 => l
  | k + 1 => swp (swapR l a b k) (a + k) (b + k)
theorem swapR_lt {n : Nat} {l : List Nat} (h : Lt128 n l) {a b : Nat} : ∀ k, a + k ≤ n → b + k ≤ n → Lt128 n (swapR l a b k)
  | 0, _, _ => h
  | k + 1, h1, h2 => (swapR_lt h k (by omega) (by omega)).swp (by omega) (by omega)
/-- One is moved down. -/
def insJ (a : Nat) : Nat → List Nat → List Nat
  | 0, l => l
  | j + 1, l => if a < j + 1 ∧ pc (gt l (j + 1)) < pc (gt l j) then insJ a j (swp l (j + 1) j) else l
theorem insJ_stop {a j : Nat} {l : List Nat} (h : ¬ a < j) : insJ a j l = l := by
  cases j with
  | zero => rfl
  | succ j => show (if _ then _ else _) = _; rw [if_neg (fun hh => h hh.1)]
theorem insJ_lt {n a : Nat} : ∀ {j : Nat} {l : List Nat}, Lt128 n l → j < n → Lt128 n (insJ a j l)
  | 0, _, h, _ => h
  | j + 1, l, h, hj => by
    show Lt128 n (if _ then _ else _)
    split
    · exact insJ_lt (h.swp (by omega) (by omega)) (by omega)
    · exact h
def insS (l : List Nat) (a : Nat) : Nat → List Nat
  | 0 => l
  | k + 1 => insJ a (a + 1 + k) (insS l a k)
theorem insS_lt {n : Nat} {l : List Nat} (h : Lt128 n l) {a : Nat} : ∀ k, a + k < n ∨ k = 0 → Lt128 n (insS l a k)
  | 0, _ => h
  | k + 1, hk => insJ_lt (insS_lt h k (by omega)) (by omega)
attribute [local irreducible] AnyO AnyB QAny QB EWalk AWalk Ev WP OPS QThen QBlock QScope QLoop QBody Val New Turn Tri Enters PostA Blk Ro
section
variable (N : Nat) (w0 : World)
theorem swap_tri (tl : List Value) (L : Hp) (n : Nat) (l : List Nat) (hl : Lt128 n l) (hn : n ≤ 1000) (b c i j k : Nat) (hi : i + k ≤ n) (hj : j + k ≤ n) (cmp : Value) :
    Tri Try.prog N w0 ((b, Blk 93 (ut tl l)) :: L) 115 [.slice (some ⟨b, 0, none⟩) n c, .int .i64 i, .int .i64 j, .int .i64 k, cmp].toArray fun x L' => ∃ v, x = .returned v ∧ L' = (b, Blk 93 (ut tl (swapR l i j k))) :: L := by
  refine tri_of_WP Try.func115 rfl (n := 38) rfl (by simp) ?_
  repeat' (first | (refine Znh ?_) | (refine GiW ?_; first | (refine Zsq fun K hK => ?_) | (refine ZrN 0 fun _ => ?_; refine Zv Zai ?_) | (with_reducible apply WP_block)))
  refine WP_loop [10, 11, 12, 13, 14, 15, 16, 17, 18, 19, 20, 21, 22, 23, 24, 25, 26, 27, 28, 29, 30, 31, 32, 33, 34, 35, 36, 37] (fun q : Nat => [(10, .int .i64 q)]) (fun q => (b, Blk 93 (ut tl (swapR l i j q))) :: L) (fun q => q ≤ k) (fun q => k - q) 0 (.cons rfl .nil) (Wk.refl _) (Nat.zero_le _) ?_
  intro q jj hq
  by_cases hlt : q < k
  · have hlq := swapR_lt hl q (a := i) (b := j) (by omega) (by omega)
    have h1 : (ut tl (swapR l i j q))[0 + (i + q)]? = some (.int .u64 (gt (swapR l i j q) (i + q) : Int)) := ut_get (by rw [hlq.1]; omega)
    have h2 : (ut tl (swapR l i j q))[0 + (j + q)]? = some (.int .u64 (gt (swapR l i j q) (j + q) : Int)) := ut_get (by rw [hlq.1]; omega)
    repeat' (first | (refine GiP ?_; first | (refine Znh ?_) | (with_reducible refine Znl ?_) | (refine Zatn ?_; refine OPS_turnN (Turn_storeG rfl (rfl : _ = Value.int _ _) (by repeat (first | exact Up.here | apply Up.there | apply Up.sv)) rfl (by rw [ut_len]; first | (rw [hlq.1]; simp only [List.length_singleton]; omega) | (rw [List.length_set, hlq.1]; simp only [List.length_singleton]; omega)) (ut_set (by first | (rw [hlq.1]; omega) | (rw [List.length_set, hlq.1]; omega))) rfl rfl) rfl rfl ?_) | (refine Zatd 37 ?_; refine Zv (Val_indexAddr1 rfl rfl (show _ = ((j + q : Nat) : Int) by omega) (by omega)) ?_)) | (refine GiW ?_; first | (refine Zsq fun K hK => ?_) | (refine ZrN 1 fun _ => ?_; refine Zv Zmi ?_; refine Zv Zmi ?_; refine Zv Zxlss ?_) | (refine ZrN 2 fun _ => ?_; refine Zv Zmi ?_; refine Zv Zxadd ?_; refine Zv Zai ?_) | (refine Zcd (fun hc => ?_) (fun hc => ?_) <;> (try (exfalso; omega))) | (with_reducible apply WP_skip) | (with_reducible apply WP_block) | (refine WP_drawnT (id := 3) [4, 5, 6, 7] [0, 1, 2, 3, 4, 5, 6, 7, 8, 9, 10, 11, 12, 13, 14, 15, 16, 17, 18, 19, 20] [] (k := 3) prog_mixed (by kernel_rfl) (by kernel_rfl) rfl ?_; refine Zew rfl Zmv ?_; refine Zew rfl Zmi ?_; refine Zew rfl Zmi ?_; refine Zew rfl Zxadd ?_; refine Zep rfl (fun _ => Zmv) ?_; refine Zep rfl (fun _ => Zmi) ?_; refine Zep rfl (fun _ => Zmi) ?_; refine Zep rfl (fun _ => Zxadd) ?_; refine Zew rfl Zmv ?_; refine Zew rfl Zmi ?_; refine Zew rfl Zmi ?_; refine Zew rfl Zxadd ?_; (first | (refine Zew rfl (Val_indexAddr1 rfl rfl (show _ = ((i + q : Nat) : Int) by omega) (by omega)) ?_) | (refine Zew rfl (Val_indexAddr1 rfl rfl (show _ = ((j + q : Nat) : Int) by omega) (by omega)) ?_) | (refine Zew rfl Zia ?_)); refine Zew rfl Zld ?_; refine Zew rfl Zmv ?_; refine Zew rfl Zmi ?_; refine Zew rfl Zmi ?_; refine Zew rfl Zxadd ?_; (first | (refine Zew rfl (Val_indexAddr1 rfl rfl (show _ = ((i + q : Nat) : Int) by omega) (by omega)) ?_) | (refine Zew rfl (Val_indexAddr1 rfl rfl (show _ = ((j + q : Nat) : Int) by omega) (by omega)) ?_) | (refine Zew rfl Zia ?_)); refine Zew rfl Zld ?_; (first | (refine Zew rfl (Val_indexAddr1 rfl rfl (show _ = ((i + q : Nat) : Int) by omega) (by omega)) ?_) | (refine Zew rfl (Val_indexAddr1 rfl rfl (show _ = ((j + q : Nat) : Int) by omega) (by omega)) ?_) | (refine Zew rfl Zia ?_)))) | (with_reducible apply EWalk_nil) | (refine GiO ?_; first | (refine AnyO_done (by kernel_rfl) ?_; (try with_reducible apply noP_normal); try with_reducible exact key.out) | (refine AnyO_1 21 (by decide +kernel) rfl ?_) | (refine AnyO_1 22 (by decide +kernel) rfl ?_) | (refine AnyO_1 23 (by decide +kernel) rfl ?_)) | (refine Zhn ?_) | (with_reducible apply QBlock_normal) | (refine AWalk_0 ?_; refine ZisO ?_) | (with_reducible apply QAny_normal))
    exact QLoop_normal (q + 1) (.cons rfl .nil) (by repeat (first | exact Off.frame rfl | exact Off.refl _ _ | refine Off.frameT rfl rfl ?_ | refine Off.upd rfl ?_ | refine Off.updO rfl ?_)) (by repeat (first | exact Wk.refl _ | apply Wk.keep1 | apply Wk.drop | apply Wk.sv | apply Wk.svD | apply Wk.appD)) (by omega) (by omega)
  · have : q = k := by omega
    subst this
    repeat' (first | (refine Znh ?_) | (refine GiW ?_; first | (refine Zsq fun K hK => ?_) | (refine ZrN 1 fun _ => ?_; refine Zv Zmi ?_; refine Zv Zmi ?_; refine Zv Zxlss ?_) | (refine Zcd (fun hc => ?_) (fun hc => ?_) <;> (try (exfalso; omega))) | (with_reducible apply WP_exit)) | (refine Zhx ?_) | (with_reducible apply QBlock_hit) | (with_reducible apply QLoop_exit))
    exact QBody_end0 rfl ⟨_, rfl, rfl⟩
def cmpV : Value := .func (.func 97) #[] #[]
theorem ins_tri (tl : List Value) (L : Hp) (n : Nat) (l : List Nat) (hl : Lt128 n l) (hn : n ≤ 1000) (b c x y : Nat) (hx : x ≤ y) (hy : y ≤ n) :
    Tri Try.prog N w0 ((b, Blk 93 (ut tl l)) :: L) 111 [.slice (some ⟨b, 0, none⟩) n c, .int .i64 x, .int .i64 y, cmpV].toArray fun r L' => ∃ v, r = .returned v ∧ L' = (b, Blk 93 (ut tl (insS l x (y - (x + 1))))) :: L := by
  unfold cmpV
  refine tri_of_WP Try.func111 rfl (n := 53) rfl (by simp) ?_
  repeat' (first | (refine Znh ?_) | (refine GiW ?_; first | (refine Zsq fun K hK => ?_) | (refine ZrN 0 fun _ => ?_; refine Zv Zmi ?_; refine Zv Zxadd ?_; refine Zv Zai ?_) | (with_reducible apply WP_block)))
  refine WP_loop [8, 9, 12, 13, 14, 15, 16, 17, 18, 19, 20, 21, 22, 23, 24, 25, 26, 27, 28, 29, 30, 31, 32, 33, 34, 35, 36, 37, 38, 39, 40, 41, 42, 43, 44, 45, 46, 47, 48, 49, 50, 51, 52] (fun q : Nat => [(8, .int .i64 ((x + 1 + q : Nat) : Int))]) (fun q => (b, Blk 93 (ut tl (insS l x q))) :: L) (fun q => q ≤ y - (x + 1)) (fun q => y - (x + 1) - q) 0 (.cons rfl .nil) (Wk.refl _) (Nat.zero_le _) ?_
  intro q jj hq
  by_cases hlt : q < y - (x + 1)
  · have hlq := insS_lt hl (a := x) q (by omega)
    repeat' (first | (refine Znh ?_) | (refine GiW ?_; first | (refine Zsq fun K hK => ?_) | (refine ZrN 1 fun _ => ?_; refine Zv Zmi ?_; refine Zv Zmi ?_; refine Zv Zxlss ?_) | (refine ZrN 3 fun _ => ?_; refine Zv Zmi ?_; refine Zv Zai ?_) | (refine Zcd (fun hc => ?_) (fun hc => ?_) <;> (try (exfalso; omega))) | (with_reducible apply WP_skip) | (with_reducible apply WP_block)) | (refine Zhn ?_))
    refine WP_loop [9, 18, 19, 20, 21, 22, 23, 24, 25, 26, 27, 28, 29, 30, 31, 32, 33, 34, 35, 36, 37, 38, 39, 40, 41, 42, 43, 44, 45, 46, 47, 48, 49, 50, 51, 52] (fun st : Nat × List Nat => [(9, .int .i64 (st.1 : Int))]) (fun st => (b, Blk 93 (ut tl st.2)) :: L) (fun st => insJ x st.1 st.2 = insS l x (q + 1) ∧ Lt128 n st.2 ∧ st.1 < n) (fun st => st.1) (x + 1 + q, insS l x q) (.cons rfl .nil) (Wk.refl _) ⟨rfl, hlq, by dsimp only; omega⟩ ?_
    rintro ⟨j, m⟩ j2 ⟨hF, hm, hj⟩
    dsimp only at hF hm hj ⊢
    by_cases hgt : x < j
    · obtain ⟨j', rfl⟩ : ∃ j', j = j' + 1 := ⟨j - 1, by omega⟩
      have h1 : (ut tl m)[0 + (j' + 1)]? = some (.int .u64 (gt m (j' + 1) : Int)) := ut_get (by rw [hm.1]; omega)
      have h2 : (ut tl m)[0 + j']? = some (.int .u64 (gt m j' : Int)) := ut_get (by rw [hm.1]; omega)
      have hc1 := fun L => cmp_ret N w0 L (gt m (j' + 1)) (gt m j') (hm.gt hj) (hm.gt (by omega))
      repeat' (first | (refine GiP ?_; first | (with_reducible refine Znl ?_) | (refine Zatn ?_; refine OPS_turnN (Turn_storeG rfl (rfl : _ = Value.int _ _) (by repeat (first | exact Up.here | apply Up.there | apply Up.sv)) rfl (by rw [ut_len]; first | (rw [hm.1]; simp only [List.length_singleton]; omega) | (rw [List.length_set, hm.1]; simp only [List.length_singleton]; omega)) (ut_set (by first | (rw [hm.1]; omega) | (rw [List.length_set, hm.1]; omega))) rfl rfl) rfl rfl ?_) | (refine Zatd 52 ?_; refine Zv (Val_indexAddr1 rfl rfl (show _ = ((j' : Nat) : Int) by omega) (by omega)) ?_)) | (refine GiW ?_; first | (refine Zsq fun K hK => ?_) | (refine ZrN 5 fun _ => ?_; refine Zv Zmi ?_; refine Zv Zxsub ?_; refine Zv Zai ?_) | (refine ZrN 2 fun _ => ?_; refine Zv Zmi ?_; refine Zv Zxadd ?_; refine Zv Zai ?_) | (refine Zcd (fun hc => ?_) (fun hc => ?_) <;> (try (exfalso; omega))) | (with_reducible apply WP_skip) | (with_reducible apply WP_block) | (with_reducible apply WP_exit) | (refine WP_drawn (id := 4) [0, 1, 2, 3, 4, 5, 6, 7, 8, 9, 10, 11, 12, 13, 14, 15, 16] [] (k := 0) prog_mixed (by kernel_rfl) rfl ?_; refine Zew rfl Zmi ?_; refine Zew rfl Zmi ?_; refine Zew rfl Zxgtr ?_; refine Zew rfl Zmb ?_) | (refine WP_drawnT (id := 6) [2, 3, 4] [0, 1, 2, 3, 4, 5, 6, 7, 8, 9, 10, 11, 12, 13, 14] [] (k := 3) prog_mixed (by kernel_rfl) (by kernel_rfl) rfl ?_; refine Zew rfl Zmv ?_; refine Zew rfl Zmi ?_; refine Zep rfl (fun _ => Zmv) ?_; refine Zep rfl (fun _ => Zmi) ?_; refine Zep rfl (fun _ => Zxsub) ?_; refine Zew rfl Zmv ?_; refine Zew rfl Zmi ?_; refine Zew rfl Zxsub ?_; (first | (refine Zew rfl (Val_indexAddr1 rfl rfl (show _ = ((j' + 1 : Nat) : Int) by omega) (by omega)) ?_) | (refine Zew rfl (Val_indexAddr1 rfl rfl (show _ = ((j' : Nat) : Int) by omega) (by omega)) ?_) | (refine Zew rfl Zia ?_)); refine Zew rfl Zld ?_; refine Zew rfl Zmv ?_; refine Zew rfl Zmi ?_; (first | (refine Zew rfl (Val_indexAddr1 rfl rfl (show _ = ((j' + 1 : Nat) : Int) by omega) (by omega)) ?_) | (refine Zew rfl (Val_indexAddr1 rfl rfl (show _ = ((j' : Nat) : Int) by omega) (by omega)) ?_) | (refine Zew rfl Zia ?_)); refine Zew rfl Zld ?_; (first | (refine Zew rfl (Val_indexAddr1 rfl rfl (show _ = ((j' + 1 : Nat) : Int) by omega) (by omega)) ?_) | (refine Zew rfl (Val_indexAddr1 rfl rfl (show _ = ((j' : Nat) : Int) by omega) (by omega)) ?_) | (refine Zew rfl Zia ?_)))) | (refine GiE ?_; first | (refine Zati 16 ?_; (first | (refine Zew rfl Zxpt ?_) | (refine Zew rfl Zxpf ?_))) | (refine Zati 4 ?_; first | refine Zes ?_ | (refine Zew rfl Zmv ?_)) | (refine Zati 5 ?_; first | refine Zes ?_ | (refine Zew rfl Zmv ?_)) | (refine Zati 6 ?_; first | refine Zes ?_ | (refine Zew rfl Zmi ?_)) | (refine Zati 7 ?_; first | refine Zes ?_ | (refine Zew rfl (Val_indexAddr1 rfl rfl (show _ = ((j' + 1 : Nat) : Int) by omega) (by omega)) ?_) | (refine Zew rfl (Val_indexAddr1 rfl rfl (show _ = ((j' : Nat) : Int) by omega) (by omega)) ?_) | (refine Zew rfl Zia ?_)) | (refine Zati 8 ?_; first | refine Zes ?_ | (refine Zew rfl Zld ?_)) | (refine Zati 9 ?_; first | refine Zes ?_ | (refine Zew rfl Zmv ?_)) | (refine Zati 10 ?_; first | refine Zes ?_ | (refine Zew rfl Zmi ?_)) | (refine Zati 11 ?_; first | refine Zes ?_ | (refine Zew rfl Zxsub ?_)) | (refine Zati 12 ?_; first | refine Zes ?_ | (refine Zew rfl (Val_indexAddr1 rfl rfl (show _ = ((j' + 1 : Nat) : Int) by omega) (by omega)) ?_) | (refine Zew rfl (Val_indexAddr1 rfl rfl (show _ = ((j' : Nat) : Int) by omega) (by omega)) ?_) | (refine Zew rfl Zia ?_)) | (refine Zati 13 ?_; first | refine Zes ?_ | (refine Zew rfl Zld ?_)) | (refine Zati 14 ?_; first | refine Zes ?_ | (refine Zec rfl (Enters_val rfl rfl) (fun X => hc1 _) ?_)) | (refine Zati 15 ?_; first | refine Zes ?_ | (refine Zew rfl Zxlss ?_)) | (refine Zesp (fun hc => ?_) (fun hc => ?_) <;> (try (exfalso; omega))) | (with_reducible apply EWalk_nil)) | (refine GiO ?_; first | (refine AnyO_done (by kernel_rfl) ?_; (try with_reducible apply noP_normal); try with_reducible exact key.out) | (refine AnyO_1 15 (by decide +kernel) rfl ?_) | (refine AnyO_1 16 (by decide +kernel) rfl ?_) | (refine AnyO_1 17 (by decide +kernel) rfl ?_)) | (refine Zhn ?_) | (with_reducible apply QBlock_normal) | (refine Zhx ?_) | (with_reducible apply QBlock_hit) | (with_reducible apply QLoop_exit) | (refine AWalk_0 ?_; refine ZisO ?_) | (with_reducible apply QAny_normal))
      · have hlt2 : pc (gt m (j' + 1)) < pc (gt m j') := by omega
        have hF' : insJ x j' (swp m (j' + 1) j') = insS l x (q + 1) := by
          rw [← hF]; show _ = (if _ then _ else _); rw [if_pos ⟨hgt, hlt2⟩]
        exact QLoop_normal (j', swp m (j' + 1) j') (.cons (by show Value.int .i64 _ = Value.int .i64 _; congr 1; omega) .nil) (by repeat (first | exact Off.frame rfl | exact Off.refl _ _ | refine Off.frameT rfl rfl ?_ | refine Off.upd rfl ?_ | refine Off.updO rfl ?_)) (by repeat (first | exact Wk.refl _ | apply Wk.keep1 | apply Wk.drop | apply Wk.sv | apply Wk.svD | apply Wk.appD)) ⟨hF', hm.swp (by omega) (by omega), by dsimp only; omega⟩ (by dsimp only; omega)
      · have hm' : m = insS l x (q + 1) := by
          rw [← hF]; show _ = (if _ then _ else _); rw [if_neg (by omega)]
        refine QLoop_normal (q + 1) (.cons rfl .nil) (by repeat (first | exact Off.frame rfl | exact Off.refl _ _ | refine Off.frameT rfl rfl ?_ | refine Off.upd rfl ?_ | refine Off.updO rfl ?_)) ?_ (by omega) (by omega)
        rw [← hm']; exact (by repeat (first | exact Wk.refl _ | apply Wk.keep1 | apply Wk.drop | apply Wk.sv | apply Wk.svD | apply Wk.appD))
    · repeat' (first | (with_reducible refine Znl ?_) | (refine GiW ?_; first | (refine Zsq fun K hK => ?_) | (refine ZrN 2 fun _ => ?_; refine Zv Zmi ?_; refine Zv Zxadd ?_; refine Zv Zai ?_) | (refine WP_cond_false rfl ?_) | (with_reducible apply WP_exit) | (refine WP_drawn (id := 4) [0, 1, 2, 3, 4, 5, 6, 7, 8, 9, 10, 11, 12, 13, 14, 15, 16] [] (k := 0) prog_mixed (by kernel_rfl) rfl ?_; refine Zew rfl Zmi ?_; refine Zew rfl Zmi ?_; refine Zew rfl Zxgtr ?_; refine Zew rfl Zmb ?_)) | (refine GiE ?_; first | (refine Zati 16 ?_; (first | (refine Zew rfl Zxpt ?_) | (refine Zew rfl Zxpf ?_))) | (refine Zati 4 ?_; first | refine Zes ?_ | (refine Zew rfl Zmv ?_)) | (refine Zati 5 ?_; first | refine Zes ?_ | (refine Zew rfl Zmv ?_)) | (refine Zati 6 ?_; first | refine Zes ?_ | (refine Zew rfl Zmi ?_)) | (refine Zati 7 ?_; first | refine Zes ?_ | (refine Zew rfl (Val_indexAddr1 rfl rfl (show _ = ((j' + 1 : Nat) : Int) by omega) (by omega)) ?_) | (refine Zew rfl (Val_indexAddr1 rfl rfl (show _ = ((j' : Nat) : Int) by omega) (by omega)) ?_) | (refine Zew rfl Zia ?_)) | (refine Zati 8 ?_; first | refine Zes ?_ | (refine Zew rfl Zld ?_)) | (refine Zati 9 ?_; first | refine Zes ?_ | (refine Zew rfl Zmv ?_)) | (refine Zati 10 ?_; first | refine Zes ?_ | (refine Zew rfl Zmi ?_)) | (refine Zati 11 ?_; first | refine Zes ?_ | (refine Zew rfl Zxsub ?_)) | (refine Zati 12 ?_; first | refine Zes ?_ | (refine Zew rfl (Val_indexAddr1 rfl rfl (show _ = ((j' + 1 : Nat) : Int) by omega) (by omega)) ?_) | (refine Zew rfl (Val_indexAddr1 rfl rfl (show _ = ((j' : Nat) : Int) by omega) (by omega)) ?_) | (refine Zew rfl Zia ?_)) | (refine Zati 13 ?_; first | refine Zes ?_ | (refine Zew rfl Zld ?_)) | (refine Zati 14 ?_; first | refine Zes ?_ | (refine Zec rfl (Enters_val rfl rfl) (fun X => hc1 _) ?_)) | (refine Zati 15 ?_; first | refine Zes ?_ | (refine Zew rfl Zxlss ?_)) | (refine Zesp (fun hc => ?_) (fun hc => ?_) <;> (try (exfalso; omega))) | (with_reducible apply EWalk_nil)) | (refine AnyO_done (by kernel_rfl) ?_; (try with_reducible apply noP_normal); try with_reducible exact key.out) | (refine Zhn ?_) | (with_reducible apply QBlock_normal) | (refine Zhx ?_) | (with_reducible apply QBlock_hit) | (with_reducible apply QLoop_exit) | (refine AWalk_0 ?_; refine ZisO ?_))
      have hm' : m = insS l x (q + 1) := by rw [← hF, insJ_stop hgt]
      refine QLoop_normal (q + 1) (.cons rfl .nil) (by repeat (first | exact Off.frame rfl | exact Off.refl _ _ | refine Off.frameT rfl rfl ?_ | refine Off.upd rfl ?_ | refine Off.updO rfl ?_)) ?_ (by omega) (by omega)
      rw [← hm']; exact (by repeat (first | exact Wk.refl _ | apply Wk.keep1 | apply Wk.drop | apply Wk.sv | apply Wk.svD | apply Wk.appD))
  · have : q = y - (x + 1) := by omega
    subst this
    repeat' (first | (refine Znh ?_) | (refine GiW ?_; first | (refine Zsq fun K hK => ?_) | (refine ZrN 1 fun _ => ?_; refine Zv Zmi ?_; refine Zv Zmi ?_; refine Zv Zxlss ?_) | (refine Zcd (fun hc => ?_) (fun hc => ?_) <;> (try (exfalso; omega))) | (with_reducible apply WP_exit)) | (refine Zhx ?_) | (with_reducible apply QBlock_hit) | (with_reducible apply QLoop_exit))
    exact QBody_end0 rfl ⟨_, rfl, rfl⟩
end
end Go.Proofs.Ytakmopiceopcpaa
end
end

section
namespace Go.Proofs.Ytakmopiceopcpaa
open Go.RowKit
def rotL (m : Nat) : Nat → Nat → Nat → List Nat → List Nat
  | 0, _, _, l => l
  | f + 1, i, j, l => if i = j then swapR l (m - i) m i else if j < i then rotL m f (i - j) j (swapR l (m - i) m j) else rotL m f i (j - i) (swapR l (m - i) (m + j - i) i)
theorem rotL_lt {n m : Nat} : ∀ (f : Nat) {i j : Nat} {l : List Nat}, Lt128 n l → i ≤ m → m + j ≤ n → Lt128 n (rotL m f i j l)
  | 0, _, _, _, h, _, _ => h
  | f + 1, i, j, l, h, hi, hj => by
    show Lt128 n (if _ then _ else _)
    split
    · exact swapR_lt h _ (by omega) (by omega)
    · split
      · exact rotL_lt f (swapR_lt h _ (by omega) (by omega)) (by omega) hj
      · exact rotL_lt f (swapR_lt h _ (by omega) (by omega)) hi (by omega)
attribute [local irreducible] AnyO AnyB QAny QB EWalk AWalk Ev WP OPS QThen QBlock QScope QLoop QBody Val New Turn Tri Enters PostA Blk Ro
section
variable (N : Nat) (w0 : World)
theorem swap_triI (tl : List Value) (L : Hp) (n : Nat) (l : List Nat) (hl : Lt128 n l) (hn : n ≤ 1000) (b c i j k : Nat) (I J K : Int) (hI : I = i) (hJ : J = j) (hK : K = k) (hi : i + k ≤ n) (hj : j + k ≤ n) (cmp : Value) :
    Tri Try.prog N w0 ((b, Blk 93 (ut tl l)) :: L) 115 [.slice (some ⟨b, 0, none⟩) n c, .int .i64 I, .int .i64 J, .int .i64 K, cmp].toArray fun x L' => ∃ v, x = .returned v ∧ L' = (b, Blk 93 (ut tl (swapR l i j k))) :: L := by
  subst hI hJ hK
  exact swap_tri N w0 tl L n l hl hn b c i j k hi hj cmp
theorem rot_tri (tl : List Value) (L : Hp) (n : Nat) (l : List Nat) (hl : Lt128 n l) (hn : n ≤ 1000) (b c x m y : Nat) (hx : x < m) (hm : m < y) (hy : y ≤ n):
    Tri Try.prog N w0 ((b, Blk 93 (ut tl l)) :: L) 114 [.slice (some ⟨b, 0, none⟩) n c, .int .i64 x, .int .i64 m, .int .i64 y, cmpV].toArray fun r L' => ∃ v, r = .returned v ∧ L' = (b, Blk 93 (ut tl (rotL m (m - x + (y - m)) (m - x) (y - m) l))) :: L := by
  unfold cmpV
  refine tri_of_WP Try.func114 rfl (n := 58) rfl (by simp) ?_
  have e1 : (m : Int) - x = ((m - x : Nat) : Int) := by omega
  have e2 : (y : Int) - m = ((y - m : Nat) : Int) := by omega
  repeat' (first | (refine Znh ?_) | (refine GiW ?_; first | (refine Zsq fun K hK => ?_) | (refine ZrN 0 fun _ => ?_; refine Zv Zmi ?_; refine Zv Zmi ?_; refine Zv Zxsub ?_; refine Zv Zai ?_) | (refine ZrN 1 fun _ => ?_; refine Zv Zmi ?_; refine Zv Zmi ?_; refine Zv Zxsub ?_; refine Zv Zai ?_) | (with_reducible apply WP_block)))
  refine WP_loop [10, 11, 18, 19, 20, 21, 22, 23, 24, 25, 26, 27, 28, 29, 30, 31, 32, 33, 34, 35, 36, 37, 38, 39, 40, 41, 42, 43, 44, 45, 46, 47, 48, 49] (fun st : Nat × Nat × Nat × List Nat => [(10, .int .i64 st.2.1), (11, .int .i64 st.2.2.1)]) (fun st => (b, Blk 93 (ut tl st.2.2.2)) :: L)
    (fun st => rotL m st.1 st.2.1 st.2.2.1 st.2.2.2 = rotL m (m - x + (y - m)) (m - x) (y - m) l ∧ Lt128 n st.2.2.2 ∧ 1 ≤ st.2.1 ∧ 1 ≤ st.2.2.1 ∧ st.2.1 ≤ m ∧ m + st.2.2.1 ≤ n ∧ st.2.1 + st.2.2.1 ≤ st.1) (fun st => st.2.1 + st.2.2.1) (m - x + (y - m), m - x, y - m, l) (.cons (by rw [← e1]; rfl) (.cons (by rw [← e2]; rfl) .nil)) (Wk.refl _) ⟨rfl, hl, by dsimp only; omega, by dsimp only; omega, by dsimp only; omega, by dsimp only; omega, by dsimp only; omega⟩ ?_
  rintro ⟨f, i, j, q⟩ jj ⟨hF, hq, hi1, hj1, him, hjn, hf⟩
  dsimp only at hF hq hi1 hj1 him hjn hf ⊢
  obtain ⟨f, rfl⟩ : ∃ f', f = f' + 1 := ⟨f - 1, by omega⟩
  by_cases heq : i = j
  · have hF' : swapR q (m - i) m i = rotL m (m - x + (y - m)) (m - x) (y - m) l := by
      rw [← hF]; show _ = (if _ then _ else _); rw [if_pos heq]
    subst heq
    repeat' (first | (refine GiP ?_; first | (refine Znh ?_) | (with_reducible refine Znl ?_)) | (refine GiW ?_; first | (refine Zsq fun K hK => ?_) | (refine ZrN 2 fun _ => ?_; refine Zv Zmi ?_; refine Zv Zmi ?_; refine Zv Zxneq ?_) | (refine ZrN 8 fun _ => ?_; refine Zv Zmv ?_; refine Zv Zmi ?_; refine Zv Zmi ?_; refine Zv Zxsub ?_; refine Zv Zmi ?_; refine Zv Zmi ?_; refine Zv Zmv ?_; refine OPS_retKS (Enters_fn rfl) (swap_triI N w0 tl _ n q hq hn b c (m - i) m i _ _ _ (by omega) rfl rfl (by omega) (by omega) _) rfl rfl rfl (fun v31 L31 h31 => ?_); subst h31) | (refine Zcd (fun hc => ?_) (fun hc => ?_) <;> (try (exfalso; omega))) | (with_reducible apply WP_exit)) | (refine Zhn ?_) | (refine Zhx ?_) | (with_reducible apply QBlock_hit) | (with_reducible apply QLoop_exit))
    exact QBody_end0 rfl ⟨_, rfl, by rw [hF']⟩
  · by_cases hgt : j < i
    · have hF' : rotL m f (i - j) j (swapR q (m - i) m j) = rotL m (m - x + (y - m)) (m - x) (y - m) l := by
        rw [← hF]; show _ = (if _ then _ else _); rw [if_neg heq, if_pos hgt]
      repeat' (first | (refine GiP ?_; first | (refine Znh ?_) | (with_reducible refine Znl ?_)) | (refine GiW ?_; first | (refine Zsq fun K hK => ?_) | (refine ZrN 2 fun _ => ?_; refine Zv Zmi ?_; refine Zv Zmi ?_; refine Zv Zxneq ?_) | (refine ZrN 3 fun _ => ?_; refine Zv Zmi ?_; refine Zv Zmi ?_; refine Zv Zxgtr ?_) | (refine ZrN 4 fun _ => ?_; refine Zv Zmv ?_; refine Zv Zmi ?_; refine Zv Zmi ?_; refine Zv Zxsub ?_; refine Zv Zmi ?_; refine Zv Zmi ?_; refine Zv Zmv ?_; refine OPS_retKS (Enters_fn rfl) (swap_triI N w0 tl _ n q hq hn b c (m - i) m j _ _ _ (by omega) rfl rfl (by omega) (by omega) _) rfl rfl rfl (fun v31 L31 h31 => ?_); subst h31) | (refine ZrN 5 fun _ => ?_; refine Zv Zmi ?_; refine Zv Zmi ?_; refine Zv Zxsub ?_; refine Zv Zai ?_) | (refine Zcd (fun hc => ?_) (fun hc => ?_) <;> (try (exfalso; omega))) | (with_reducible apply WP_skip) | (with_reducible apply WP_block)) | (refine Zhn ?_) | (with_reducible apply QBlock_normal))
      exact QLoop_normal (f, i - j, j, swapR q (m - i) m j) (.cons (by show Value.int .i64 ((i : Int) - j) = Value.int .i64 ((i - j : Nat) : Int); congr 1; omega) (.cons rfl .nil)) (by repeat (first | exact Off.frame rfl | exact Off.refl _ _ | refine Off.frameT rfl rfl ?_ | refine Off.upd rfl ?_ | refine Off.updO rfl ?_)) (by repeat (first | exact Wk.refl _ | apply Wk.keep1 | apply Wk.drop | apply Wk.sv | apply Wk.svD | apply Wk.appD)) ⟨hF', swapR_lt hq _ (by omega) (by omega), by dsimp only; omega, hj1, by dsimp only; omega, hjn, by dsimp only; omega⟩ (by dsimp only; omega)
    · have hF' : rotL m f i (j - i) (swapR q (m - i) (m + j - i) i) = rotL m (m - x + (y - m)) (m - x) (y - m) l := by
        rw [← hF]; show _ = (if _ then _ else _); rw [if_neg heq, if_neg hgt]
      repeat' (first | (refine GiP ?_; first | (refine Znh ?_) | (with_reducible refine Znl ?_)) | (refine GiW ?_; first | (refine Zsq fun K hK => ?_) | (refine ZrN 2 fun _ => ?_; refine Zv Zmi ?_; refine Zv Zmi ?_; refine Zv Zxneq ?_) | (refine ZrN 3 fun _ => ?_; refine Zv Zmi ?_; refine Zv Zmi ?_; refine Zv Zxgtr ?_) | (refine ZrN 6 fun _ => ?_; refine Zv Zmv ?_; refine Zv Zmi ?_; refine Zv Zmi ?_; refine Zv Zxsub ?_; refine Zv Zmi ?_; refine Zv Zmi ?_; refine Zv Zxadd ?_; refine Zv Zmi ?_; refine Zv Zxsub ?_; refine Zv Zmi ?_; refine Zv Zmv ?_; refine OPS_retKS (Enters_fn rfl) (swap_triI N w0 tl _ n q hq hn b c (m - i) (m + j - i) i _ _ _ (by omega) (by omega) rfl (by omega) (by omega) _) rfl rfl rfl (fun v31 L31 h31 => ?_); subst h31) | (refine ZrN 7 fun _ => ?_; refine Zv Zmi ?_; refine Zv Zmi ?_; refine Zv Zxsub ?_; refine Zv Zai ?_) | (refine Zcd (fun hc => ?_) (fun hc => ?_) <;> (try (exfalso; omega))) | (with_reducible apply WP_skip) | (with_reducible apply WP_block)) | (refine Zhn ?_) | (with_reducible apply QBlock_normal))
      exact QLoop_normal (f, i, j - i, swapR q (m - i) (m + j - i) i) (.cons rfl (.cons (by show Value.int .i64 ((j : Int) - i) = Value.int .i64 ((j - i : Nat) : Int); congr 1; omega) .nil)) (by repeat (first | exact Off.frame rfl | exact Off.refl _ _ | refine Off.frameT rfl rfl ?_ | refine Off.upd rfl ?_ | refine Off.updO rfl ?_)) (by repeat (first | exact Wk.refl _ | apply Wk.keep1 | apply Wk.drop | apply Wk.sv | apply Wk.svD | apply Wk.appD)) ⟨hF', swapR_lt hq _ (by omega) (by omega), hi1, by dsimp only; omega, him, by dsimp only; omega, by dsimp only; omega⟩ (by dsimp only; omega)
end
end Go.Proofs.Ytakmopiceopcpaa
end

section
namespace Go.Proofs.Ytakmopiceopcpaa
open Go.RowKit
/-- The first place, from lo on, at which p no longer holds, as it is looked for. -/
def bsr (p : Nat → Bool) : Nat → Nat → Nat → Nat
  | 0, lo, _ => lo
  | f + 1, lo, hi => if lo < hi then (if p ((lo + hi) / 2 ^ 1) then bsr p f ((lo + hi) / 2 ^ 1 + 1) hi else bsr p f lo ((lo + hi) / 2 ^ 1)) else lo
theorem bsr_stop {p : Nat → Bool} {f lo hi : Nat} (h : ¬ lo < hi) : bsr p f lo hi = lo := by
  cases f with
  | zero => rfl
  | succ f => show (if _ then _ else _) = _; rw [if_neg h]
theorem bsr_in {p : Nat → Bool} : ∀ (f : Nat) {lo hi : Nat}, lo ≤ hi → lo ≤ bsr p f lo hi ∧ bsr p f lo hi ≤ hi
  | 0, lo, hi, h => ⟨Nat.le_refl _, h⟩
  | f + 1, lo, hi, h => by
    show _ ≤ (if _ then _ else _) ∧ (if _ then _ else _) ≤ _
    split
    · have hm : lo ≤ (lo + hi) / 2 ^ 1 ∧ (lo + hi) / 2 ^ 1 < hi := by omega
      split
      · have := bsr_in (p := p) f (lo := (lo + hi) / 2 ^ 1 + 1) (hi := hi) (by omega)
        omega
      · have := bsr_in (p := p) f (lo := lo) (hi := (lo + hi) / 2 ^ 1) (by omega)
        omega
    · omega
def shU (a : Nat) : Nat → List Nat → List Nat
  | 0, l => l
  | k + 1, l => swp (shU a k l) (a + k) (a + k + 1)
def shD (m : Nat) : Nat → List Nat → List Nat
  | 0, l => l
  | k + 1, l => swp (shD m k l) (m - k) (m - k - 1)
theorem shU_lt {n a : Nat} {l : List Nat} (h : Lt128 n l) : ∀ k, a + k < n → Lt128 n (shU a k l)
  | 0, _ => h
  | k + 1, hk => (shU_lt h k (by omega)).swp (by omega) (by omega)
theorem shD_lt {n m : Nat} {l : List Nat} (h : Lt128 n l) (hm : m < n) : ∀ k, Lt128 n (shD m k l)
  | 0 => h
  | k + 1 => (shD_lt h hm k).swp (by omega) (by omega)
def symR (l : List Nat) (a m b : Nat) : Nat :=
  let mid := (a + b) / 2 ^ 1
  let n := mid + m
  if mid < m then bsr (fun c => !decide (pc (gt l (n - 1 - c)) < pc (gt l c))) (mid - (n - b)) (n - b) mid else bsr (fun c => !decide (pc (gt l (n - 1 - c)) < pc (gt l c))) (m - a) a m
def sym : Nat → Nat → Nat → Nat → List Nat → List Nat
  | 0, _, _, _, l => l
  | f + 1, a, m, b, l =>
    if m - a = 1 then shU a (bsr (fun h => decide (pc (gt l h) < pc (gt l a))) (b - m) m b - 1 - a) l
    else if b - m = 1 then shD m (m - bsr (fun h => !decide (pc (gt l m) < pc (gt l h))) (m - a) a m) l
    else
      let mid := (a + b) / 2 ^ 1
      let s := symR l a m b
      let e := mid + m - s
      let l1 := if s < m ∧ m < e then rotL m (m - s + (e - m)) (m - s) (e - m) l else l
      let l2 := if a < s ∧ s < mid then sym f a s mid l1 else l1
      if mid < e ∧ e < b then sym f mid e b l2 else l2
theorem symR_in {l : List Nat} {a m b : Nat} (h1 : a < m) (h2 : m < b) : a ≤ symR l a m b ∧ symR l a m b ≤ m ∧ symR l a m b ≤ (a + b) / 2 ^ 1 ∧ (a + b) / 2 ^ 1 + m - symR l a m b ≤ b := by
  unfold symR
  dsimp only
  split
  · have := bsr_in (p := fun c => !decide (pc (gt l ((a + b) / 2 ^ 1 + m - 1 - c)) < pc (gt l c))) ((a + b) / 2 ^ 1 - ((a + b) / 2 ^ 1 + m - b)) (lo := (a + b) / 2 ^ 1 + m - b) (hi := (a + b) / 2 ^ 1) (by omega)
    omega
  · have := bsr_in (p := fun c => !decide (pc (gt l ((a + b) / 2 ^ 1 + m - 1 - c)) < pc (gt l c))) (m - a) (lo := a) (hi := m) (by omega)
    omega
theorem sym_lt {n : Nat} : ∀ (f : Nat) {a m b : Nat} {l : List Nat}, Lt128 n l → a < m → m < b → b ≤ n → Lt128 n (sym f a m b l)
  | 0, _, _, _, _, h, _, _, _ => h
  | f + 1, a, m, b, l, h, h1, h2, h3 => by
    show Lt128 n (if _ then _ else _)
    split
    · have := bsr_in (p := fun h => decide (pc (gt l h) < pc (gt l a))) (b - m) (lo := m) (hi := b) (by omega)
      exact shU_lt h _ (by omega)
    · split
      · exact shD_lt h (by omega) _
      · have hR := symR_in (l := l) h1 h2
        have hmid : a < (a + b) / 2 ^ 1 ∧ (a + b) / 2 ^ 1 < b := by omega
        dsimp only
        have k1 : Lt128 n (if symR l a m b < m ∧ m < (a + b) / 2 ^ 1 + m - symR l a m b then rotL m (m - symR l a m b + ((a + b) / 2 ^ 1 + m - symR l a m b - m)) (m - symR l a m b) ((a + b) / 2 ^ 1 + m - symR l a m b - m) l else l) := by
          split
          · exact rotL_lt _ h (by omega) (by omega)
          · exact h
        generalize (if symR l a m b < m ∧ m < (a + b) / 2 ^ 1 + m - symR l a m b then rotL m (m - symR l a m b + ((a + b) / 2 ^ 1 + m - symR l a m b - m)) (m - symR l a m b) ((a + b) / 2 ^ 1 + m - symR l a m b - m) l else l) = l1 at k1 ⊢
        have k2 : Lt128 n (if a < symR l a m b ∧ symR l a m b < (a + b) / 2 ^ 1 then sym f a (symR l a m b) ((a + b) / 2 ^ 1) l1 else l1) := by
          split
          · exact sym_lt f k1 (by omega) (by omega) (by omega)
          · exact k1
        generalize (if a < symR l a m b ∧ symR l a m b < (a + b) / 2 ^ 1 then sym f a (symR l a m b) ((a + b) / 2 ^ 1) l1 else l1) = l2 at k2 ⊢
        split
        · exact sym_lt f k2 (by omega) (by omega) (by omega)
        · exact k2
attribute [local irreducible] AnyO AnyB QAny QB EWalk AWalk Ev WP OPS QThen QBlock QScope QLoop QBody Val New Turn Tri Enters PostA Blk Ro
section
variable (N : Nat) (w0 : World)
theorem rot_triI (tl : List Value) (L : Hp) (n : Nat) (l : List Nat) (hl : Lt128 n l) (hn : n ≤ 1000) (b c x m y : Nat) (X M Y : Int) (hX : X = x) (hM : M = m) (hY : Y = y) (hx : x < m) (hm : m < y) (hy : y ≤ n) :
    Tri Try.prog N w0 ((b, Blk 93 (ut tl l)) :: L) 114 [.slice (some ⟨b, 0, none⟩) n c, .int .i64 X, .int .i64 M, .int .i64 Y, cmpV].toArray fun r L' => ∃ v, r = .returned v ∧ L' = (b, Blk 93 (ut tl (rotL m (m - x + (y - m)) (m - x) (y - m) l))) :: L := by
  subst hX hM hY
  exact rot_tri N w0 tl L n l hl hn b c x m y hx hm hy
end
end Go.Proofs.Ytakmopiceopcpaa
end
