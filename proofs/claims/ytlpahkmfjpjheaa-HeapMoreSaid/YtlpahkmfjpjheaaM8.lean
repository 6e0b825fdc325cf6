/- The document's answer for heaps: what is valid. · The document's answer for heaps: which are valid. · The heap laws in plain terms: truths, and the spans of what they have. · The heap laws in plain terms: what is returned of valid heaps. · The heap laws in plain terms: the higher, the dryer; and what is returned if all is known. · The heap laws in plain terms: which looks must be false, which clash. · The heap laws in plain terms: less looks, a rain that is known, one look more. · The heap laws in plain terms: one look more. -/
import Derived.Test.YtlpahkmfjpjheaaM3
import Derived.Test.YtlpahkmfjpjheaaM6
section
namespace Go.Proofs.Ytlpahkmfjpjheaa
open Go.RowKit
attribute [local irreducible] AnyO AnyB QAny QB EWalk AWalk Ev WP OPS QThen QBlock QScope QLoop QBody Val New Turn Tri Enters PostA Blk Ro
attribute [local irreducible] AnyC QC
section
variable (N : Nat) (w0 : World)
theorem in84_ret (L : Hp) (n l h : Int) : Ret Try.prog N w0 L 84 [.int .i64 n, .int .i64 l, .int .i64 h].toArray (.bool (within n l h)) := by
  refine tri_of_WP Try.func84 rfl (n := 15) rfl (by simp) ?_
  repeat' (first | (refine GiP ?_; first | (refine Znh ?_) | (refine Zatd 14 ?_; (first | (refine Zv Zxpt ?_) | (refine Zv Zxpf ?_)); refine Zv Zab ?_) | (refine Zatd 11 ?_; refine Zv Zmi ?_) | (refine Zatd 12 ?_; refine Zv Zmi ?_) | (refine Zatd 13 ?_; refine Zv Zxleq ?_) | (refine Zsk ?_) | (refine Zsp (fun hc => ?_) (fun hc => ?_) <;> (try (exfalso; omega)))) | (refine GiW ?_; first | (refine Zsq fun K hK => ?_) | (refine ZrN 0 fun _ => ?_; refine Zv Zab ?_) | (refine ZrG 1 ?_; refine Zv Zmi ?_; refine Zv Zmi ?_; refine Zv Zxleq ?_; refine Zv Zmb ?_) | (with_reducible apply WP_ret)))
  all_goals (refine QBody_ret1 rfl (rfl : _ = Value.bool _) ⟨?_, rfl⟩; simp [within, *])
theorem span85_ret (L : Hp) (s : Sp) (hi wide : Int) (h1 : 0 ≤ s.1 → s.1 ≤ s.2 → s.2 ≤ hi → InK .i64 (s.2 - s.1)) : Ret Try.prog N w0 L 85 [.agg [.int .i64 s.1, .int .i64 s.2].toArray, .int .i64 hi, .int .i64 wide].toArray (.bool (isSpanB s hi wide)) := by
  refine Ret.fgt ?_
  refine tri_of_WP Try.func85 rfl (n := 32) rfl (by simp) ?_
  repeat' (first | (refine GiP ?_; first | (refine Znh ?_) | (refine Zatd 16 ?_; (first | (refine Zv Zxpt ?_) | (refine Zv Zxpf ?_)); refine Zv Zmb ?_) | (refine Zatd 22 ?_; (first | (refine Zv Zxpt ?_) | (refine Zv Zxpf ?_)); refine Zv Zmb ?_) | (refine Zatd 31 ?_; (first | (refine Zv Zxpt ?_) | (refine Zv Zxpf ?_)); refine Zv Zab ?_) | (refine Zatd 11 ?_; refine Zv Zf0 ?_) | (refine Zatd 12 ?_; refine Zv Zld ?_) | (refine Zatd 13 ?_; refine Zv Zfa ?_) | (refine Zatd 14 ?_; refine Zv Zld ?_) | (refine Zatd 15 ?_; refine Zv Zxleq ?_) | (refine Zatd 18 ?_; refine Zv Zfa ?_) | (refine Zatd 19 ?_; refine Zv Zld ?_) | (refine Zatd 20 ?_; refine Zv Zmi ?_) | (refine Zatd 21 ?_; refine Zv Zxleq ?_) | (refine Zatd 24 ?_; refine Zv Zfa ?_) | (refine Zatd 25 ?_; refine Zv Zld ?_) | (refine Zatd 26 ?_; refine Zv Zf0 ?_) | (refine Zatd 27 ?_; refine Zv Zld ?_) | (refine Zatd 28 ?_; refine Zv (Val_sub rfl rfl (h1 (by assumption) (by assumption) (by assumption))) ?_) | (refine Zatd 29 ?_; refine Zv Zmi ?_) | (refine Zatd 30 ?_; refine Zv Zxleq ?_) | (refine Zsk ?_) | (refine Zsp (fun hc => ?_) (fun hc => ?_) <;> (try (exfalso; omega)))) | (refine GiW ?_; first | (refine Zsq fun K hK => ?_) | (refine ZrN 0 fun _ => ?_; refine Zal 3 fun b3 => ?_; refine Zv Zab ?_) | (refine ZrG 1 ?_; refine Zv Zf0 ?_; refine Zv Zld ?_; refine Zv Zxleq ?_; refine Zv Zmb ?_) | (with_reducible apply WP_ret)))
  all_goals (refine QBody_ret1 rfl (rfl : _ = Value.bool _) ⟨?_, (by repeat (first | exact Wk.refl _ | apply Wk.keep1 | apply Wk.drop | apply Wk.sv | apply Wk.svD | apply Wk.appD))⟩; simp [isSpanB, *])
theorem heap53_ret (L : Hp) (g : Bg) (n : Int) (hl : g.h.heaps.length ≤ 1000000) : Ret Try.prog N w0 L 53 [heapV g, .int .i64 n].toArray (.bool (within n 0 (g.h.heaps.length - 1))) := by
  refine Ret.fgt ?_
  refine tri_of_WP Try.func53 rfl (n := 11) rfl (by simp) ?_
  repeat' (first | (refine Znh ?_) | (refine GiW ?_; first | (refine Zsq fun K hK => ?_) | (refine ZrN 0 fun _ => ?_; refine Zal 2 fun b2 => ?_; refine Zv Zab ?_) | (refine ZrN 1 fun _ => ?_; refine Zv Zmi ?_; refine Zv Zf0 ?_; refine Zv Zld ?_; refine Zv Zxlen ?_; refine Zv Zxsub ?_; refine Zcl (Enters_fn rfl) (in84_ret N w0 _ _ _ _) ?_; refine Zv Zab ?_) | (with_reducible apply WP_ret)))
  exact QBody_ret1 rfl (rfl : _ = Value.bool _) ⟨rfl, (by repeat (first | exact Wk.refl _ | apply Wk.keep1 | apply Wk.drop | apply Wk.sv | apply Wk.svD | apply Wk.appD))⟩
theorem day54_ret (L : Hp) (g : Bg) (n : Int) (hl : g.h.rains.length ≤ 1000000) : Ret Try.prog N w0 L 54 [heapV g, .int .i64 n].toArray (.bool (within n 0 (g.h.rains.length - 1))) := by
  refine Ret.fgt ?_
  refine tri_of_WP Try.func54 rfl (n := 11) rfl (by simp) ?_
  repeat' (first | (refine Znh ?_) | (refine GiW ?_; first | (refine Zsq fun K hK => ?_) | (refine ZrN 0 fun _ => ?_; refine Zal 2 fun b2 => ?_; refine Zv Zab ?_) | (refine ZrN 1 fun _ => ?_; refine Zv Zmi ?_; refine Zv Zfa ?_; refine Zv Zld ?_; refine Zv Zxlen ?_; refine Zv Zxsub ?_; refine Zcl (Enters_fn rfl) (in84_ret N w0 _ _ _ _) ?_; refine Zv Zab ?_) | (with_reducible apply WP_ret)))
  exact QBody_ret1 rfl (rfl : _ = Value.bool _) ⟨rfl, (by repeat (first | exact Wk.refl _ | apply Wk.keep1 | apply Wk.drop | apply Wk.sv | apply Wk.svD | apply Wk.appD))⟩
/-- Far too much of something. -/
def longB (h : Hv) : Bool := decide ((40 : Int) < max (max (h.heaps.length : Int) h.rains.length) h.looks.length)
theorem Val_max3 {L : Hp} {e : Env} {d : Option Nat} {ty : TypeId} {pos : String} {af : Array Edge} {g : Option (Nat × Bool)} {x y z : Operand} {ts : Array TypeId} {m n q : Int} (hx : ev e x = .int .i64 m) (hy : ev e y = .int .i64 n) (hz : ev e z = .int .i64 q) : Val Try.prog N w0 L e ⟨d, .call { callee := .builtin .max, args := #[x, y, z], argTypes := ts }, ty, pos, af, g⟩ (.int .i64 (max (max m n) q)) := by
  unfold Val
  intro w _
  have h1 : ∀ a b : Int, (if a < b then b else a) = max a b := by intro a b; rw [Int.max_def]; split <;> split <;> omega
  simp [execOp, resolve, invoke, builtin, hx, hy, hz, Builtin.max_, Builtin.max2, h1]
theorem long_ret (L : Hp) (g : Bg) : Ret Try.prog N w0 L 34 [heapV g].toArray (.bool (longB g.h)) := by
  refine Ret.fgt ?_
  refine tri_of_WP Try.func34 rfl (n := 14) rfl (by simp) ?_
  repeat' (first | (refine Znh ?_) | (refine GiW ?_; first | (refine Zsq fun K hK => ?_) | (refine ZrN 0 fun _ => ?_; refine Zal 1 fun b1 => ?_; refine Zv Zab ?_) | (refine ZrN 1 fun _ => ?_; refine Zv Zf0 ?_; refine Zv Zld ?_; refine Zv Zxlen ?_; refine Zv Zfa ?_; refine Zv Zld ?_; refine Zv Zxlen ?_; refine Zv Zfa ?_; refine Zv Zld ?_; refine Zv Zxlen ?_; refine Zv (Val_max3 N w0 rfl rfl rfl) ?_; refine Zv Zxgtr ?_; refine Zv Zab ?_) | (with_reducible apply WP_ret)))
  exact QBody_ret1 rfl (rfl : _ = Value.bool _) ⟨rfl, (by repeat (first | exact Wk.refl _ | apply Wk.keep1 | apply Wk.drop | apply Wk.sv | apply Wk.svD | apply Wk.appD))⟩
end
end Go.Proofs.Ytlpahkmfjpjheaa
end

section
namespace Go.Proofs.Ytlpahkmfjpjheaa
open Go.RowKit
theorem RoAt' {w0 : World} {b o : Nat} {vs : List Value} (h : Ro w0 b o vs) (j : Nat) (v : Value) (hj : vs[j]? = some v) : w0.cell? ⟨b, o + j, none⟩ = some v := h j v hj
theorem RoDrop {w0 : World} {b o : Nat} {vs : List Value} (h : Ro w0 b o vs) (i : Nat) : Ro w0 b (o + i) (vs.drop i) := by
  intro j v hj
  rw [Nat.add_assoc]
  exact h (i + j) v (by rw [← hj, List.getElem?_drop])
attribute [local irreducible] AnyO AnyB QAny QB EWalk AWalk Ev WP OPS QThen QBlock QScope QLoop QBody Val New Turn Tri Enters PostA Blk Ro
attribute [local irreducible] AnyC QC
section
variable (N : Nat) (w0 : World)
theorem Val_subI {L : Hp} {e : Env} {d : Option Nat} {ty : TypeId} {pos : String} {af : Array Edge} {g : Option (Nat × Bool)} {x y : Operand} {t t' : TypeId} {m n v : Int} (hx : ev e x = .int .i64 m) (hy : ev e y = .int .i64 n) (hv : m - n = v) (hk : IntKind.wrap .i64 v = v) : Val Try.prog N w0 L e ⟨d, .binOp .sub t x y t', ty, pos, af, g⟩ (.int .i64 v) := by
  subst hv
  exact Val_sub hx hy hk
set_option maxHeartbeats 1000000 in
theorem Heaps_ret (L : Hp) (g : Bg) (hA : HeapAt N w0 g) (h1 : g.h.heaps.length ≤ 1000000) (h2 : g.h.rains.length ≤ 1000000) (h3 : g.h.looks.length ≤ 1000000) : Ret Try.prog N w0 L 35 [heapV g].toArray (.bool (vB g.h)) := by
  refine Ret.fgt ?_
  refine tri_of_WP Try.func35 rfl (n := 127) rfl (by simp) ?_
  unfold heapV hvL
  by_cases hnum : numB g.h = true
  case neg =>
    have hno := vB_num (by simpa using hnum)
    repeat' (first | (refine GiP ?_; first | (refine Znh ?_) | (refine Zatd 19 ?_; (first | (refine Zv Zxpt ?_) | (refine Zv Zxpf ?_)); refine Zv Zmb ?_) | (refine Zatd 25 ?_; (first | (refine Zv Zxpt ?_) | (refine Zv Zxpf ?_)); refine Zv Zmb ?_) | (refine Zatd 31 ?_; (first | (refine Zv Zxpt ?_) | (refine Zv Zxpf ?_))) | (refine Zatd 14 ?_; refine Zv Zfa ?_) | (refine Zatd 15 ?_; refine Zv Zld ?_) | (refine Zatd 16 ?_; refine Zv Zxlen ?_) | (refine Zatd 17 ?_; refine Zcl (Enters_fn rfl) (in84_ret N w0 _ _ _ _) ?_) | (refine Zatd 18 ?_; refine Zv Zxnot ?_) | (refine Zatd 21 ?_; refine Zv Zfa ?_) | (refine Zatd 22 ?_; refine Zv Zld ?_) | (refine Zatd 23 ?_; refine Zcl (Enters_fn rfl) (in84_ret N w0 _ _ _ _) ?_) | (refine Zatd 24 ?_; refine Zv Zxnot ?_) | (refine Zatd 27 ?_; refine Zv Zfa ?_) | (refine Zatd 28 ?_; refine Zv Zld ?_) | (refine Zatd 29 ?_; refine Zv Zxlen ?_) | (refine Zatd 30 ?_; refine Zv Zxgtr ?_) | (refine Zsk ?_) | (refine Zsp (fun hc => ?_) (fun hc => ?_) <;> (try (exfalso; omega)))) | (refine GiW ?_; first | (refine Zsq fun K hK => ?_) | (refine ZrN 0 fun _ => ?_; refine Zal 1 fun b1 => ?_; refine Zv Zab ?_) | (refine ZrG 1 ?_; refine Zv Zf0 ?_; refine Zv Zld ?_; refine Zv Zxlen ?_; refine Zcl (Enters_fn rfl) (in84_ret N w0 _ _ _ _) ?_; refine Zv Zxnot ?_; refine Zv Zmb ?_) | (refine ZrN 2 fun _ => ?_; refine Zv Zab ?_) | (refine ZrN 3 fun _ => ?_; refine Zv Zai ?_) | (refine WP_cond_true rfl ?_) | (refine Zcd (fun hc => ?_) (fun hc => ?_) <;> (try (exfalso; omega))) | (with_reducible apply WP_skip) | (with_reducible apply WP_block) | (with_reducible apply WP_ret)) | (refine Zhn ?_) | (refine Zhr ?_))
    all_goals first
      | exact QBody_ret1 rfl (rfl : _ = Value.bool _) ⟨by rw [hno], (by repeat (first | exact Wk.refl _ | apply Wk.keep1 | apply Wk.drop | apply Wk.sv | apply Wk.svD | apply Wk.appD))⟩
      | (exfalso; apply hnum; simp [numB, *]; omega)
      | (exfalso; apply hnum; simp [numB, *])
  have hnb := hnum
  simp only [numB, Bool.and_eq_true, decide_eq_true_eq] at hnb
  obtain ⟨⟨⟨hn1, hn2⟩, hn3⟩, hn4⟩ := hnb
  repeat' (first | (refine GiP ?_; first | (refine Znh ?_) | (refine Zatd 19 ?_; (first | (refine Zv Zxpt ?_) | (refine Zv Zxpf ?_)); refine Zv Zmb ?_) | (refine Zatd 25 ?_; (first | (refine Zv Zxpt ?_) | (refine Zv Zxpf ?_)); refine Zv Zmb ?_) | (refine Zatd 31 ?_; (first | (refine Zv Zxpt ?_) | (refine Zv Zxpf ?_))) | (refine Zatd 14 ?_; refine Zv Zfa ?_) | (refine Zatd 15 ?_; refine Zv Zld ?_) | (refine Zatd 16 ?_; refine Zv Zxlen ?_) | (refine Zatd 17 ?_; refine Zcl (Enters_fn rfl) (in84_ret N w0 _ _ _ _) ?_) | (refine Zatd 18 ?_; refine Zv Zxnot ?_) | (refine Zatd 21 ?_; refine Zv Zfa ?_) | (refine Zatd 22 ?_; refine Zv Zld ?_) | (refine Zatd 23 ?_; refine Zcl (Enters_fn rfl) (in84_ret N w0 _ _ _ _) ?_) | (refine Zatd 24 ?_; refine Zv Zxnot ?_) | (refine Zatd 27 ?_; refine Zv Zfa ?_) | (refine Zatd 28 ?_; refine Zv Zld ?_) | (refine Zatd 29 ?_; refine Zv Zxlen ?_) | (refine Zatd 30 ?_; refine Zv Zxgtr ?_) | (refine Zsk ?_) | (refine Zsp (fun hc => ?_) (fun hc => ?_) <;> (try (exfalso; omega)))) | (refine GiW ?_; first | (refine Zsq fun K hK => ?_) | (refine ZrN 0 fun _ => ?_; refine Zal 1 fun b1 => ?_; refine Zv Zab ?_) | (refine ZrG 1 ?_; refine Zv Zf0 ?_; refine Zv Zld ?_; refine Zv Zxlen ?_; refine Zcl (Enters_fn rfl) (in84_ret N w0 _ _ _ _) ?_; refine Zv Zxnot ?_; refine Zv Zmb ?_) | (refine ZrN 2 fun _ => ?_; refine Zv Zab ?_) | (refine ZrN 3 fun _ => ?_; refine Zv Zai ?_) | (refine WP_cond_true rfl ?_) | (refine Zcd (fun hc => ?_) (fun hc => ?_) <;> (try (exfalso; omega))) | (with_reducible apply WP_skip) | (with_reducible apply WP_block) | (with_reducible apply WP_ret)) | (refine Zhn ?_) | (refine Zhr ?_))
  all_goals try (exfalso; simp_all; done)
  all_goals try (exfalso; omega)
  refine WP_loop [2, 3, 32, 33, 34, 35, 36, 37, 38, 39, 40, 41, 42, 43, 44, 45, 46, 47, 48, 49, 50, 51, 52, 53, 54, 55, 56] (fun k : Nat => [(3, .int .i64 k)]) (fun _ => (b1, Blk 27 (hvL g)) :: L) (fun k => k ≤ g.h.heaps.length ∧ (g.h.heaps.take k).all tfB = true) (fun k => g.h.heaps.length - k) 0 (.cons rfl .nil) (Wk.refl _) ⟨Nat.zero_le _, rfl⟩ ?_
  rintro k j ⟨hk, hall⟩
  unfold hvL
  by_cases hlt : k < g.h.heaps.length
  · obtain ⟨bA, oA, hA1, hbA, hcA⟩ := hA.heaps.row k hlt
    obtain ⟨t, ht⟩ : ∃ t, g.h.heaps[k] = t := ⟨_, rfl⟩
    have htm : t ∈ g.h.heaps := by rw [← ht]; exact List.getElem_mem hlt
    rw [ht] at hcA
    have c0 := RoAt' hcA 0 _ rfl
    have cs : Ro w0 bA (oA + k * 3 + 1) [.int .i64 t.lo, .int .i64 t.hi] := RoDrop hcA 1
    repeat' (first | (refine GiP ?_; first | (refine Znh ?_) | (with_reducible refine Znl ?_) | (refine Zatd 56 ?_; (first | (refine Zv Zxpt ?_) | (refine Zv Zxpf ?_))) | (refine Zatd 48 ?_; refine Zv Zf0 ?_) | (refine Zatd 49 ?_; refine Zv Zld ?_) | (refine Zatd 50 ?_; refine Zv Zmi ?_) | (refine Zatd 51 ?_; refine Zv Zia ?_) | (refine Zatd 52 ?_; refine Zv Zfa ?_) | (refine Zatd 53 ?_; refine Zv Zla ?_) | (refine Zatd 54 ?_; refine Zcl (Enters_fn rfl) (span85_ret N w0 _ (t.lo, t.hi) _ _ (by intro a b c; dsimp only at *; exact InK_i64 (by omega) (by omega))) ?_) | (refine Zatd 55 ?_; refine Zv Zxnot ?_) | (refine Zsk ?_) | (refine Zsp (fun hc => ?_) (fun hc => ?_) <;> (try (exfalso; omega)))) | (refine GiW ?_; first | (refine Zsq fun K hK => ?_) | (refine ZrN 4 fun _ => ?_; refine Zv Zmi ?_; refine Zv Zf0 ?_; refine Zv Zld ?_; refine Zv Zxlen ?_; refine Zv Zxlss ?_) | (refine ZrG 6 ?_; refine Zv Zf0 ?_; refine Zv Zld ?_; refine Zv Zmi ?_; refine Zv Zia ?_; refine Zv Zf0 ?_; refine Zv Zld ?_; refine Zcl (Enters_fn rfl) (in84_ret N w0 _ _ _ _) ?_; refine Zv Zxnot ?_; refine Zv Zmb ?_) | (refine ZrN 7 fun _ => ?_; refine Zv Zab ?_) | (refine ZrN 5 fun _ => ?_; refine Zv Zmi ?_; refine Zv Zxadd ?_; refine Zv Zai ?_) | (refine WP_cond_true rfl ?_) | (refine Zcd (fun hc => ?_) (fun hc => ?_) <;> (try (exfalso; omega))) | (with_reducible apply WP_skip) | (with_reducible apply WP_block) | (with_reducible apply WP_ret)) | (refine Zhn ?_) | (with_reducible apply QBlock_normal) | (refine Zhr ?_) | (with_reducible apply QBlock_ret) | (with_reducible apply QLoop_ret))
    all_goals first
      | exact QLoop_normal (k + 1) (.cons rfl .nil) (by repeat (first | exact Off.frame rfl | exact Off.refl _ _ | refine Off.frameT rfl rfl ?_ | refine Off.upd rfl ?_ | refine Off.updO rfl ?_)) (by repeat (first | exact Wk.refl _ | apply Wk.keep1 | apply Wk.drop | apply Wk.sv | apply Wk.svD | apply Wk.appD)) ⟨by omega, all_snoc hlt hall (by rw [ht]; simp [tfB, *])⟩ (by omega)
      | exact QBody_ret1 rfl (rfl : _ = Value.bool _) ⟨by rw [vB_tf htm (by simp [tfB, *])], (by repeat (first | exact Wk.refl _ | apply Wk.keep1 | apply Wk.drop | apply Wk.sv | apply Wk.svD | apply Wk.appD))⟩
  have hheaps : g.h.heaps.all tfB = true := by rw [show k = g.h.heaps.length by omega, List.take_length] at hall; exact hall
  repeat' (first | (refine Znh ?_) | (refine GiW ?_; first | (refine Zsq fun K hK => ?_) | (refine ZrN 4 fun _ => ?_; refine Zv Zmi ?_; refine Zv Zf0 ?_; refine Zv Zld ?_; refine Zv Zxlen ?_; refine Zv Zxlss ?_) | (refine ZrN 8 fun _ => ?_; refine Zv Zai ?_) | (refine Zcd (fun hc => ?_) (fun hc => ?_) <;> (try (exfalso; omega))) | (with_reducible apply WP_block) | (with_reducible apply WP_exit)) | (refine Zhn ?_) | (refine Zhx ?_) | (with_reducible apply QBlock_hit) | (with_reducible apply QLoop_exit))
  refine WP_loop [2, 4, 57, 58, 59, 60, 61, 62, 63, 64, 65, 66, 67, 68, 69, 70] (fun k : Nat => [(4, .int .i64 k)]) (fun _ => (b1, Blk 27 (hvL g)) :: L) (fun k => k ≤ g.h.rains.length ∧ (g.h.rains.take k).all (fun s => isSpanB s 10 3) = true) (fun k => g.h.rains.length - k) 0 (.cons rfl .nil) (Wk.refl _) ⟨Nat.zero_le _, rfl⟩ ?_
  clear hall hk hlt
  rintro k j2 ⟨hk, hall⟩
  unfold hvL
  by_cases hlt : k < g.h.rains.length
  · obtain ⟨bA, oA, hA2, hbA, hcA⟩ := hA.rains.row k hlt
    obtain ⟨t, ht⟩ : ∃ t, g.h.rains[k] = t := ⟨_, rfl⟩
    have htm : t ∈ g.h.rains := by rw [← ht]; exact List.getElem_mem hlt
    rw [ht] at hcA
    repeat' (first | (refine GiP ?_; first | (refine Znh ?_) | (with_reducible refine Znl ?_)) | (refine GiW ?_; first | (refine Zsq fun K hK => ?_) | (refine ZrN 9 fun _ => ?_; refine Zv Zmi ?_; refine Zv Zfa ?_; refine Zv Zld ?_; refine Zv Zxlen ?_; refine Zv Zxlss ?_) | (refine ZrN 11 fun _ => ?_; refine Zv Zfa ?_; refine Zv Zld ?_; refine Zv Zmi ?_; refine Zv Zia ?_; refine Zv Zla ?_; refine Zcl (Enters_fn rfl) (span85_ret N w0 _ t _ _ (by intro a b c; exact InK_i64 (by omega) (by omega))) ?_; refine Zv Zxnot ?_) | (refine ZrN 12 fun _ => ?_; refine Zv Zab ?_) | (refine ZrN 10 fun _ => ?_; refine Zv Zmi ?_; refine Zv Zxadd ?_; refine Zv Zai ?_) | (refine Zcd (fun hc => ?_) (fun hc => ?_) <;> (try (exfalso; omega))) | (with_reducible apply WP_skip) | (with_reducible apply WP_block) | (with_reducible apply WP_ret)) | (refine Zhn ?_) | (with_reducible apply QBlock_normal) | (refine Zhr ?_) | (with_reducible apply QBlock_ret) | (with_reducible apply QLoop_ret))
    all_goals first
      | exact QLoop_normal (k + 1) (.cons rfl .nil) (by repeat (first | exact Off.frame rfl | exact Off.refl _ _ | refine Off.frameT rfl rfl ?_ | refine Off.upd rfl ?_ | refine Off.updO rfl ?_)) (by repeat (first | exact Wk.refl _ | apply Wk.keep1 | apply Wk.drop | apply Wk.sv | apply Wk.svD | apply Wk.appD)) ⟨by omega, all_snoc hlt hall (by rw [ht]; assumption)⟩ (by omega)
      | exact QBody_ret1 rfl (rfl : _ = Value.bool _) ⟨by rw [vB_rn htm (by assumption)], (by repeat (first | exact Wk.refl _ | apply Wk.keep1 | apply Wk.drop | apply Wk.sv | apply Wk.svD | apply Wk.appD))⟩
  have hrains : g.h.rains.all (fun s => isSpanB s 10 3) = true := by rw [show k = g.h.rains.length by omega, List.take_length] at hall; exact hall
  repeat' (first | (refine Znh ?_) | (refine GiW ?_; first | (refine Zsq fun K hK => ?_) | (refine ZrN 9 fun _ => ?_; refine Zv Zmi ?_; refine Zv Zfa ?_; refine Zv Zld ?_; refine Zv Zxlen ?_; refine Zv Zxlss ?_) | (refine ZrN 13 fun _ => ?_; refine Zv Zai ?_) | (refine Zcd (fun hc => ?_) (fun hc => ?_) <;> (try (exfalso; omega))) | (with_reducible apply WP_block) | (with_reducible apply WP_exit)) | (refine Zhn ?_) | (refine Zhx ?_) | (with_reducible apply QBlock_hit) | (with_reducible apply QLoop_exit))
  refine WP_loop [2, 5, 71, 72, 73, 74, 75, 76, 77, 78, 79, 80, 81, 82, 83, 84, 85, 86, 87, 88, 89, 90, 91, 92, 93, 94, 95, 96] (fun k : Nat => [(5, .int .i64 k)]) (fun _ => (b1, Blk 27 (hvL g)) :: L) (fun k => k = 0 ∨ (k = 1 ∧ within g.h.d0 0 20 = true) ∨ (k = 2 ∧ within g.h.d0 0 20 = true ∧ within g.h.d1 g.h.d0 20 = true) ∨ (k = 3 ∧ drB g.h = true)) (fun k => 3 - k) 0 (.cons rfl .nil) (Wk.refl _) (.inl rfl) ?_
  clear hall hk hlt
  rintro k j3 hq3
  unfold hvL
  rcases hq3 with rfl | ⟨rfl, hd0⟩ | ⟨rfl, hd0, hd1⟩ | ⟨rfl, hdr⟩
  · repeat' (first | (refine GiP ?_; first | (refine Znh ?_) | (with_reducible refine Znl ?_)) | (refine GiW ?_; first | (refine Zsq fun K hK => ?_) | (refine ZrN 14 fun _ => ?_; refine Zv Zmi ?_; refine Zv Zxlss ?_) | (refine ZrN 17 fun _ => ?_; refine Zv Zab ?_) | (refine ZrN 15 fun _ => ?_; refine Zv Zmi ?_; refine Zv Zxadd ?_; refine Zv Zai ?_) | (refine WP_cond_true rfl ?_) | (refine WP_cond_false rfl ?_) | (with_reducible apply WP_skip) | (with_reducible apply WP_block) | (with_reducible apply WP_ret) | (refine WP_drawn (id := 16) [0, 1, 2, 3, 4, 5, 6, 7, 8, 9, 10, 11, 12, 13, 14, 15, 16, 17, 18, 19, 20, 21] [] (k := 0) prog_mixed (by kernel_rfl) rfl ?_; refine Zew rfl Zmi ?_; refine Zew rfl Zfa ?_; refine Zew rfl ZiA ?_; refine Zew rfl Zld ?_; refine Zec rfl (Enters_fn rfl) (fun X => in84_ret N w0 _ _ _ _) ?_; refine Zew rfl Zxnot ?_; refine Zew rfl Zmb ?_)) | (refine GiE ?_; first | (refine Zati 21 ?_; (first | (refine Zew rfl Zxpt ?_) | (refine Zew rfl Zxpf ?_))) | (refine Zati 7 ?_; refine Zew rfl Zmi ?_) | (refine Zati 8 ?_; refine Zew rfl Zxgtr ?_) | (refine Zati 9 ?_; refine Zew rfl Zmb ?_) | (refine Zati 20 ?_; refine Zew rfl Zxpf ?_) | (refine Zes ?_) | (refine Zesp (fun hc => ?_) (fun hc => ?_) <;> (try (exfalso; omega))) | (with_reducible apply EWalk_nil)) | (refine AnyO_done (by kernel_rfl) ?_; (try with_reducible apply noP_normal); try with_reducible exact key.out) | (refine Zhn ?_) | (with_reducible apply QBlock_normal) | (refine Zhr ?_) | (with_reducible apply QBlock_ret) | (with_reducible apply QLoop_ret) | (refine AWalk_0 ?_; refine ZisO ?_; apply shr; intro key))
    all_goals first
      | exact QLoop_normal 1 (.cons rfl .nil) (by repeat (first | exact Off.frame rfl | exact Off.refl _ _ | refine Off.frameT rfl rfl ?_ | refine Off.upd rfl ?_ | refine Off.updO rfl ?_)) (by repeat (first | exact Wk.refl _ | apply Wk.keep1 | apply Wk.drop | apply Wk.sv | apply Wk.svD | apply Wk.appD)) (.inr (.inl ⟨rfl, by assumption⟩)) (by omega)
      | exact QBody_ret1 rfl (rfl : _ = Value.bool _) ⟨by rw [vB_dr (by simp [drB, *])], (by repeat (first | exact Wk.refl _ | apply Wk.keep1 | apply Wk.drop | apply Wk.sv | apply Wk.svD | apply Wk.appD))⟩
  · repeat' (first | (refine GiP ?_; first | (refine Znh ?_) | (with_reducible refine Znl ?_)) | (refine GiW ?_; first | (refine Zsq fun K hK => ?_) | (refine ZrN 14 fun _ => ?_; refine Zv Zmi ?_; refine Zv Zxlss ?_) | (refine ZrN 17 fun _ => ?_; refine Zv Zab ?_) | (refine ZrN 15 fun _ => ?_; refine Zv Zmi ?_; refine Zv Zxadd ?_; refine Zv Zai ?_) | (refine WP_cond_true rfl ?_) | (refine Zcd (fun hc => ?_) (fun hc => ?_) <;> (try (exfalso; omega))) | (with_reducible apply WP_skip) | (with_reducible apply WP_block) | (with_reducible apply WP_ret) | (refine WP_drawn (id := 16) [0, 1, 2, 3, 4, 5, 6, 7, 8, 9, 10, 11, 12, 13, 14, 15, 16, 17, 18, 19, 20, 21] [] (k := 0) prog_mixed (by kernel_rfl) rfl ?_; refine Zew rfl Zmi ?_; refine Zew rfl Zfa ?_; refine Zew rfl ZiA ?_; refine Zew rfl Zld ?_; refine Zec rfl (Enters_fn rfl) (fun X => in84_ret N w0 _ _ _ _) ?_; refine Zew rfl Zxnot ?_; refine Zew rfl Zmb ?_)) | (refine GiE ?_; first | (refine Zati 21 ?_; (first | (refine Zew rfl Zxpt ?_) | (refine Zew rfl Zxpf ?_))) | (refine Zati 7 ?_; refine Zew rfl Zmi ?_) | (refine Zati 8 ?_; refine Zew rfl Zxgtr ?_) | (refine Zati 9 ?_; refine Zew rfl Zmb ?_) | (refine Zati 10 ?_; refine Zew rfl Zmi ?_) | (refine Zati 11 ?_; refine Zew rfl Zfa ?_) | (refine Zati 12 ?_; refine Zew rfl ZiA ?_) | (refine Zati 13 ?_; refine Zew rfl Zld ?_) | (refine Zati 14 ?_; refine Zew rfl Zmi ?_) | (refine Zati 15 ?_; refine Zew rfl (Val_subI N w0 (v := ((0 : Nat) : Int)) rfl rfl rfl (by decide)) ?_) | (refine Zati 16 ?_; refine Zew rfl Zfa ?_) | (refine Zati 17 ?_; refine Zew rfl ZiA ?_) | (refine Zati 18 ?_; refine Zew rfl Zld ?_) | (refine Zati 19 ?_; refine Zew rfl Zxlss ?_) | (refine Zati 20 ?_; refine Zew rfl Zxpt ?_) | (refine Zes ?_) | (refine Zesp (fun hc => ?_) (fun hc => ?_) <;> (try (exfalso; omega))) | (with_reducible apply EWalk_nil)) | (refine AnyO_done (by kernel_rfl) ?_; (try with_reducible apply noP_normal); try with_reducible exact key.out) | (refine Zhn ?_) | (with_reducible apply QBlock_normal) | (refine Zhr ?_) | (with_reducible apply QBlock_ret) | (with_reducible apply QLoop_ret) | (refine AWalk_0 ?_; refine ZisO ?_; apply shr; intro key))
    all_goals first
      | exact QLoop_normal 2 (.cons rfl .nil) (by repeat (first | exact Off.frame rfl | exact Off.refl _ _ | refine Off.frameT rfl rfl ?_ | refine Off.upd rfl ?_ | refine Off.updO rfl ?_)) (by repeat (first | exact Wk.refl _ | apply Wk.keep1 | apply Wk.drop | apply Wk.sv | apply Wk.svD | apply Wk.appD)) (.inr (.inr (.inl ⟨rfl, hd0, by simp [within, *] at *; omega⟩))) (by omega)
      | exact QBody_ret1 rfl (rfl : _ = Value.bool _) ⟨by rw [vB_dr (by simp [drB, within] at *; omega)], (by repeat (first | exact Wk.refl _ | apply Wk.keep1 | apply Wk.drop | apply Wk.sv | apply Wk.svD | apply Wk.appD))⟩
      | trace_state
  · repeat' (first | (refine GiP ?_; first | (refine Znh ?_) | (with_reducible refine Znl ?_)) | (refine GiW ?_; first | (refine Zsq fun K hK => ?_) | (refine ZrN 14 fun _ => ?_; refine Zv Zmi ?_; refine Zv Zxlss ?_) | (refine ZrN 17 fun _ => ?_; refine Zv Zab ?_) | (refine ZrN 15 fun _ => ?_; refine Zv Zmi ?_; refine Zv Zxadd ?_; refine Zv Zai ?_) | (refine WP_cond_true rfl ?_) | (refine Zcd (fun hc => ?_) (fun hc => ?_) <;> (try (exfalso; omega))) | (with_reducible apply WP_skip) | (with_reducible apply WP_block) | (with_reducible apply WP_ret) | (refine WP_drawn (id := 16) [0, 1, 2, 3, 4, 5, 6, 7, 8, 9, 10, 11, 12, 13, 14, 15, 16, 17, 18, 19, 20, 21] [] (k := 0) prog_mixed (by kernel_rfl) rfl ?_; refine Zew rfl Zmi ?_; refine Zew rfl Zfa ?_; refine Zew rfl ZiA ?_; refine Zew rfl Zld ?_; refine Zec rfl (Enters_fn rfl) (fun X => in84_ret N w0 _ _ _ _) ?_; refine Zew rfl Zxnot ?_; refine Zew rfl Zmb ?_)) | (refine GiE ?_; first | (refine Zati 21 ?_; (first | (refine Zew rfl Zxpt ?_) | (refine Zew rfl Zxpf ?_))) | (refine Zati 7 ?_; refine Zew rfl Zmi ?_) | (refine Zati 8 ?_; refine Zew rfl Zxgtr ?_) | (refine Zati 9 ?_; refine Zew rfl Zmb ?_) | (refine Zati 10 ?_; refine Zew rfl Zmi ?_) | (refine Zati 11 ?_; refine Zew rfl Zfa ?_) | (refine Zati 12 ?_; refine Zew rfl ZiA ?_) | (refine Zati 13 ?_; refine Zew rfl Zld ?_) | (refine Zati 14 ?_; refine Zew rfl Zmi ?_) | (refine Zati 15 ?_; refine Zew rfl (Val_subI N w0 (v := ((1 : Nat) : Int)) rfl rfl rfl (by decide)) ?_) | (refine Zati 16 ?_; refine Zew rfl Zfa ?_) | (refine Zati 17 ?_; refine Zew rfl ZiA ?_) | (refine Zati 18 ?_; refine Zew rfl Zld ?_) | (refine Zati 19 ?_; refine Zew rfl Zxlss ?_) | (refine Zati 20 ?_; refine Zew rfl Zxpt ?_) | (refine Zes ?_) | (refine Zesp (fun hc => ?_) (fun hc => ?_) <;> (try (exfalso; omega))) | (with_reducible apply EWalk_nil)) | (refine AnyO_done (by kernel_rfl) ?_; (try with_reducible apply noP_normal); try with_reducible exact key.out) | (refine Zhn ?_) | (with_reducible apply QBlock_normal) | (refine Zhr ?_) | (with_reducible apply QBlock_ret) | (with_reducible apply QLoop_ret) | (refine AWalk_0 ?_; refine ZisO ?_; apply shr; intro key))
    all_goals first
      | exact QLoop_normal 3 (.cons rfl .nil) (by repeat (first | exact Off.frame rfl | exact Off.refl _ _ | refine Off.frameT rfl rfl ?_ | refine Off.upd rfl ?_ | refine Off.updO rfl ?_)) (by repeat (first | exact Wk.refl _ | apply Wk.keep1 | apply Wk.drop | apply Wk.sv | apply Wk.svD | apply Wk.appD)) (.inr (.inr (.inr ⟨rfl, by simp [drB, within, *] at *; omega⟩))) (by omega)
      | exact QBody_ret1 rfl (rfl : _ = Value.bool _) ⟨by rw [vB_dr (by simp [drB, within] at *; omega)], (by repeat (first | exact Wk.refl _ | apply Wk.keep1 | apply Wk.drop | apply Wk.sv | apply Wk.svD | apply Wk.appD))⟩
  · repeat' (first | (refine Znh ?_) | (refine GiW ?_; first | (refine Zsq fun K hK => ?_) | (refine ZrN 14 fun _ => ?_; refine Zv Zmi ?_; refine Zv Zxlss ?_) | (refine ZrN 18 fun _ => ?_; refine Zv Zai ?_) | (refine WP_cond_false rfl ?_) | (with_reducible apply WP_block) | (with_reducible apply WP_exit)) | (refine Zhn ?_) | (refine Zhx ?_) | (with_reducible apply QBlock_hit) | (with_reducible apply QLoop_exit))
    refine WP_loop [2, 6, 7, 97, 98, 99, 100, 101, 102, 103, 104, 105, 106, 107, 108, 109, 110, 111, 112, 113, 114, 115, 116, 117, 118, 119, 120, 121, 122, 123, 124, 125, 126] (fun k : Nat => [(6, .int .i64 k)]) (fun _ => (b1, Blk 27 (hvL g)) :: L) (fun k => k ≤ g.h.looks.length ∧ (g.h.looks.take k).all (lkB g.h) = true) (fun k => g.h.looks.length - k) 0 (.cons rfl .nil) (Wk.refl _) ⟨Nat.zero_le _, rfl⟩ ?_
    rintro k j4 ⟨hk, hall⟩
    unfold hvL
    by_cases hlt : k < g.h.looks.length
    · obtain ⟨bA, oA, hA3, hbA, hcA⟩ := hA.looks.row k hlt
      obtain ⟨t, ht⟩ : ∃ t, g.h.looks[k] = t := ⟨_, rfl⟩
      have htm : t ∈ g.h.looks := by rw [← ht]; exact List.getElem_mem hlt
      rw [ht] at hcA
      have h53 := fun L n => heap53_ret N w0 L g n h1
      have h54 := fun L n => day54_ret N w0 L g n h2
      unfold heapV hvL at h53 h54
      repeat' (first | (refine GiP ?_; first | (refine Znh ?_) | (with_reducible refine Znl ?_) | (refine Zatd 120 ?_; (first | (refine Zv Zxpt ?_) | (refine Zv Zxpf ?_)); refine Zv Zmb ?_) | (refine Zatd 126 ?_; (first | (refine Zv Zxpt ?_) | (refine Zv Zxpf ?_))) | (refine Zatd 115 ?_; refine Zv Zla ?_) | (refine Zatd 116 ?_; refine Zv Zfa ?_) | (refine Zatd 117 ?_; refine Zv Zld ?_) | (refine Zatd 118 ?_; refine Zcl (Enters_fn rfl) (h54 _ _) ?_) | (refine Zatd 119 ?_; refine Zv Zxnot ?_) | (refine Zatd 122 ?_; refine Zv Zfa ?_) | (refine Zatd 123 ?_; refine Zv Zla ?_) | (refine Zatd 124 ?_; refine Zcl (Enters_fn rfl) (span85_ret N w0 _ (t.lo, t.hi) _ _ (by intro a b c; dsimp only at *; exact InK_i64 (by omega) (by omega))) ?_) | (refine Zatd 125 ?_; refine Zv Zxnot ?_) | (refine Zsk ?_) | (refine Zsp (fun hc => ?_) (fun hc => ?_) <;> (try (exfalso; omega)))) | (refine GiW ?_; first | (refine Zsq fun K hK => ?_) | (refine ZrN 19 fun _ => ?_; refine Zv Zmi ?_; refine Zv Zfa ?_; refine Zv Zld ?_; refine Zv Zxlen ?_; refine Zv Zxlss ?_) | (refine ZrN 21 fun _ => ?_; refine Zv Zfa ?_; refine Zv Zld ?_; refine Zv Zmi ?_; refine Zv Zia ?_; refine Zv Zla ?_; refine Zal 7 fun b7 => ?_; refine Zst ?_) | (refine ZrG 22 ?_; refine Zv Zla ?_; refine Zv Zf0 ?_; refine Zv Zld ?_; refine Zcl (Enters_fn rfl) (h53 _ _) ?_; refine Zv Zxnot ?_; refine Zv Zmb ?_) | (refine ZrN 23 fun _ => ?_; refine Zv Zab ?_) | (refine ZrN 20 fun _ => ?_; refine Zv Zmi ?_; refine Zv Zxadd ?_; refine Zv Zai ?_) | (refine WP_cond_true rfl ?_) | (refine Zcd (fun hc => ?_) (fun hc => ?_) <;> (try (exfalso; omega))) | (with_reducible apply WP_skip) | (with_reducible apply WP_block) | (with_reducible apply WP_ret)) | (refine Zhn ?_) | (with_reducible apply QBlock_normal) | (refine Zhr ?_) | (with_reducible apply QBlock_ret) | (with_reducible apply QLoop_ret))
      all_goals first
        | exact QLoop_normal (k + 1) (.cons rfl .nil) (by repeat (first | exact Off.frame rfl | exact Off.refl _ _ | refine Off.frameT rfl rfl ?_ | refine Off.upd rfl ?_ | refine Off.updO rfl ?_)) (by repeat (first | exact Wk.refl _ | apply Wk.keep1 | apply Wk.drop | apply Wk.sv | apply Wk.svD | apply Wk.appD)) ⟨by omega, all_snoc hlt hall (by rw [ht]; simp [lkB, *])⟩ (by omega)
        | exact QBody_ret1 rfl (rfl : _ = Value.bool _) ⟨by rw [vB_lk htm (by simp [lkB, *])], (by repeat (first | exact Wk.refl _ | apply Wk.keep1 | apply Wk.drop | apply Wk.sv | apply Wk.svD | apply Wk.appD))⟩
        | trace_state
    · have hlooks : g.h.looks.all (lkB g.h) = true := by rw [show k = g.h.looks.length by omega, List.take_length] at hall; exact hall
      have hvb : vB g.h = true := by simp [vB, *]
      repeat' (first | (refine Znh ?_) | (refine GiW ?_; first | (refine Zsq fun K hK => ?_) | (refine ZrN 19 fun _ => ?_; refine Zv Zmi ?_; refine Zv Zfa ?_; refine Zv Zld ?_; refine Zv Zxlen ?_; refine Zv Zxlss ?_) | (refine ZrN 24 fun _ => ?_; refine Zv Zab ?_) | (refine Zcd (fun hc => ?_) (fun hc => ?_) <;> (try (exfalso; omega))) | (with_reducible apply WP_exit) | (with_reducible apply WP_ret)) | (refine Zhn ?_) | (refine Zhx ?_) | (with_reducible apply QBlock_hit) | (with_reducible apply QLoop_exit))
      exact QBody_ret1 rfl (rfl : _ = Value.bool _) ⟨by rw [hvb], (by repeat (first | exact Wk.refl _ | apply Wk.keep1 | apply Wk.drop | apply Wk.sv | apply Wk.svD | apply Wk.appD))⟩
end
end Go.Proofs.Ytlpahkmfjpjheaa
end

section
namespace Go.Proofs.Ytlpahkmfjpjheaa
open Go.RowKit
/-! ## The wetter at first, the wetter later -/
theorem after_mono {d0 d1 d2 place w w' rain : Int} (h : w ≤ w') : after d0 d1 d2 place w rain ≤ after d0 d1 d2 place w' rain := by
  unfold after afterDry
  split
  · omega
  · omega
theorem evening_mono (h : Hv) (place : Int) : ∀ (rs : List Int) {w w' : Int}, w ≤ w' → evening h place w rs ≤ evening h place w' rs
  | [], _, _, hw => hw
  | _ :: rs, _, _, hw => evening_mono h place rs (after_mono hw)

/-! ## Looks -/
/-- The looks of a set at heap i are right, from the list's k-th number on. -/
def LkOk (h : Hv) (r : List Int) (i : Int) (s : Nat) (place n : Int) : List Lk → Nat → Prop
  | [], _ => True
  | l :: ls, k => (s / 2 ^ k % 2 = 1 → l.heap = i → l.lo ≤ evening h place n (r.take (l.day + 1).toNat) ∧ evening h place n (r.take (l.day + 1).toNat) ≤ l.hi) ∧ LkOk h r i s place n ls (k + 1)
theorem LkOk_iff {h : Hv} {r : List Int} {i : Int} {s : Nat} {place n : Int} : ∀ {ls : List Lk} {k : Nat}, LkOk h r i s place n ls k ↔
    ∀ j l, ls[j]? = some l → s / 2 ^ (k + j) % 2 = 1 → l.heap = i → l.lo ≤ evening h place n (r.take (l.day + 1).toNat) ∧ evening h place n (r.take (l.day + 1).toNat) ≤ l.hi
  | [], k => by simp [LkOk]
  | l :: ls, k => by
    unfold LkOk
    rw [LkOk_iff]
    constructor
    · rintro ⟨h1, h2⟩ j
      cases j with
      | zero => intro l' hl; simp only [List.getElem?_cons_zero, Option.some.injEq] at hl; subst hl; exact h1
      | succ j =>
        intro l' hl
        rw [show k + (j + 1) = k + 1 + j by omega]
        exact h2 j l' (by simpa using hl)
    · intro hh
      refine ⟨hh 0 l rfl, fun j l' hl => ?_⟩
      have := hh (j + 1) l' (by simpa using hl)
      rwa [show k + (j + 1) = k + 1 + j by omega] at this
theorem verd_spec (h : Hv) (r : List Int) (i : Int) (s : Nat) (place n : Int) : ∀ (ls : List Lk) (k : Nat),
    (verd h r i s place n ls k = 0 ∧ LkOk h r i s place n ls k) ∨ (verd h r i s place n ls k = 1 ∧ ∀ n', n ≤ n' → ¬ LkOk h r i s place n' ls k) ∨ (verd h r i s place n ls k = 2 ∧ ∀ n', n' ≤ n → ¬ LkOk h r i s place n' ls k)
  | [], k => .inl ⟨rfl, trivial⟩
  | l :: ls, k => by
    have ih := verd_spec h r i s place n ls (k + 1)
    have hb : s / 2 ^ k % 2 = 0 ∨ s / 2 ^ k % 2 = 1 := by omega
    rw [verd_cons]
    by_cases h1 : s / 2 ^ k % 2 = 0 ∨ l.heap ≠ i
    · rw [if_pos h1]
      have hv : ∀ n', s / 2 ^ k % 2 = 1 → l.heap = i → l.lo ≤ evening h place n' (r.take (l.day + 1).toNat) ∧ evening h place n' (r.take (l.day + 1).toNat) ≤ l.hi := by
        intro n' h2 h3
        rcases h1 with h1 | h1
        · omega
        · exact absurd h3 h1
      rcases ih with ⟨h2, h3⟩ | ⟨h2, h3⟩ | ⟨h2, h3⟩
      · exact .inl ⟨h2, hv n, h3⟩
      · exact .inr (.inl ⟨h2, fun n' hn hk => h3 n' hn hk.2⟩)
      · exact .inr (.inr ⟨h2, fun n' hn hk => h3 n' hn hk.2⟩)
    · rw [if_neg h1]
      have hs1 : s / 2 ^ k % 2 = 1 := by rcases hb with hb | hb; exact absurd (.inl hb) h1; exact hb
      have hs2 : l.heap = i := by
        by_cases hh : l.heap = i
        · exact hh
        · exact absurd (.inr hh) h1
      by_cases h2 : l.hi < evening h place n (r.take (l.day + 1).toNat)
      · rw [if_pos h2]
        refine .inr (.inl ⟨rfl, fun n' hn hk => ?_⟩)
        have := hk.1 hs1 hs2
        have := evening_mono h place (r.take (l.day + 1).toNat) hn
        omega
      · rw [if_neg h2]
        by_cases h3 : evening h place n (r.take (l.day + 1).toNat) < l.lo
        · rw [if_pos h3]
          refine .inr (.inr ⟨rfl, fun n' hn hk => ?_⟩)
          have := hk.1 hs1 hs2
          have := evening_mono h place (r.take (l.day + 1).toNat) hn
          omega
        · rw [if_neg h3]
          rcases ih with ⟨h4, h5⟩ | ⟨h4, h5⟩ | ⟨h4, h5⟩
          · exact .inl ⟨h4, fun _ _ => ⟨by omega, by omega⟩, h5⟩
          · exact .inr (.inl ⟨h4, fun n' hn hk => h5 n' hn hk.2⟩)
          · exact .inr (.inr ⟨h4, fun n' hn hk => h5 n' hn hk.2⟩)
theorem outer_spec (h : Hv) (r : List Int) (i : Int) (s : Nat) (t : Tf) : ∀ (m : Nat) (q : Sp),
    ((q.1 = t.hi + 1 ∧ q.2 = t.lo + m - 1 ∧ t.lo + m - 1 ≤ t.hi ∧ ∀ n, t.lo + m ≤ n → n ≤ t.hi → ¬ LkOk h r i s t.place n h.looks 0) ∨
     (q.1 = t.lo + m ∧ q.1 ≤ q.2 ∧ q.2 ≤ t.hi ∧ ∀ n, t.lo + m ≤ n → n ≤ t.hi → (LkOk h r i s t.place n h.looks 0 ↔ n ≤ q.2))) →
    (∀ n, t.lo ≤ n → n ≤ t.hi → (LkOk h r i s t.place n h.looks 0 ↔ (outer h r i s t m q).1 ≤ n ∧ n ≤ (outer h r i s t m q).2)) ∧
      ((outer h r i s t m q).1 ≤ (outer h r i s t m q).2 → t.lo ≤ (outer h r i s t m q).1 ∧ (outer h r i s t m q).2 ≤ t.hi)
  | 0, q, hq => by
    show (∀ n, _ → _ → (_ ↔ q.1 ≤ n ∧ n ≤ q.2)) ∧ (q.1 ≤ q.2 → t.lo ≤ q.1 ∧ q.2 ≤ t.hi)
    rcases hq with ⟨h1, h2, h3, h4⟩ | ⟨h1, h2, h3, h4⟩
    · refine ⟨fun n a b => ⟨fun hk => absurd hk (h4 n (by omega) b), fun hk => by omega⟩, fun hk => by omega⟩
    · refine ⟨fun n a b => ⟨fun hk => ⟨by omega, (h4 n (by omega) b).1 hk⟩, fun hk => (h4 n (by omega) b).2 hk.2⟩, fun _ => by omega⟩
  | m + 1, q, hq => by
    unfold outer
    have hc : ((m + 1 : Nat) : Int) = (m : Int) + 1 := by omega
    rw [hc] at hq
    rcases verd_spec h r i s t.place (t.lo + m) h.looks 0 with ⟨h5, h6⟩ | ⟨h5, h6⟩ | ⟨h5, h6⟩
    · rw [if_neg (by omega), if_neg (by omega)]
      refine outer_spec h r i s t m _ (.inr ?_)
      rcases hq with ⟨h1, h2, h3, h4⟩ | ⟨h1, h2, h3, h4⟩
      · refine ⟨rfl, by dsimp only; omega, by dsimp only; omega, fun n a b => ?_⟩
        dsimp only
        by_cases hn : n = t.lo + m
        · subst hn; exact ⟨fun _ => by omega, fun _ => h6⟩
        · exact ⟨fun hk => absurd hk (h4 n (by omega) b), fun hk => by omega⟩
      · refine ⟨rfl, by dsimp only; omega, by dsimp only; omega, fun n a b => ?_⟩
        dsimp only
        by_cases hn : n = t.lo + m
        · subst hn; exact ⟨fun _ => by omega, fun _ => h6⟩
        · exact h4 n (by omega) b
    · rw [if_pos h5]
      refine outer_spec h r i s t m _ (.inl ?_)
      rcases hq with ⟨h1, h2, h3, h4⟩ | ⟨h1, h2, h3, h4⟩
      · exact ⟨h1, rfl, by omega, fun n a b => h6 n a⟩
      · exact absurd ((h4 q.1 (by omega) (by omega)).2 h2) (h6 q.1 (by omega))
    · rw [if_neg (by omega), if_pos h5]
      rcases hq with ⟨h1, h2, h3, h4⟩ | ⟨h1, h2, h3, h4⟩
      · refine ⟨fun n a b => ⟨fun hk => ?_, fun hk => by omega⟩, fun hk => by omega⟩
        by_cases hn : n ≤ t.lo + m
        · exact absurd hk (h6 n hn)
        · exact absurd hk (h4 n (by omega) b)
      · refine ⟨fun n a b => ⟨fun hk => ?_, fun hk => (h4 n (by omega) b).2 hk.2⟩, fun _ => by omega⟩
        by_cases hn : n ≤ t.lo + m
        · exact absurd hk (h6 n hn)
        · exact ⟨by omega, (h4 n (by omega) b).1 hk⟩
/-- What the first wetness can be: just what leaves the looks right. -/
theorem firstT_spec (h : Hv) (r : List Int) (i : Int) (s : Nat) (t : Tf) (ht : t.lo ≤ t.hi) :
    (∀ n, t.lo ≤ n → n ≤ t.hi → (LkOk h r i s t.place n h.looks 0 ↔ (firstT h r i s t).1 ≤ n ∧ n ≤ (firstT h r i s t).2)) ∧
      ((firstT h r i s t).1 ≤ (firstT h r i s t).2 → t.lo ≤ (firstT h r i s t).1 ∧ (firstT h r i s t).2 ≤ t.hi) := by
  have := outer_spec h r i s t (t.hi - t.lo + 1).toNat (t.hi + 1, t.hi) (.inl ⟨rfl, by dsimp only; omega, by omega, fun n a b => by omega⟩)
  unfold firstT
  obtain ⟨h1, h2⟩ := this
  dsimp only
  split
  · rename_i hc
    refine ⟨fun n a b => ⟨fun hk => ?_, fun hk => by dsimp only at hk; omega⟩, fun hk => by dsimp only at hk; omega⟩
    have := (h1 n a b).1 hk
    omega
  · exact ⟨h1, h2⟩

/-! ## Truths -/
def tfOf (h : Hv) (i : Nat) : Tf := h.heaps.getD i ⟨0, 0, 0⟩
/-- How wet heap i is in the evening of day d, if it was n at first, under rains. -/
def evn (h : Hv) (i : Nat) (n : Int) (r : List Int) (d : Nat) : Int := evening h (tfOf h i).place n (r.take (d + 1))
/-- The wetness of a heap at first that the looks of a set leave. -/
def One (h : Hv) (s : Nat) (r : List Int) (i : Nat) (n : Int) : Prop :=
  (tfOf h i).lo ≤ n ∧ n ≤ (tfOf h i).hi ∧ ∀ (j : Nat) (l : Lk), h.looks[j]? = some l → s / 2 ^ j % 2 = 1 → l.heap = (i : Int) → l.lo ≤ evn h i n r l.day.toNat ∧ evn h i n r l.day.toNat ≤ l.hi
/-- Rains that there can be. -/
def InR (l : List Sp) (r : List Int) : Prop := r.length = l.length ∧ ∀ (d : Nat) (s : Sp) (v : Int), l[d]? = some s → r[d]? = some v → s.1 ≤ v ∧ v ≤ s.2
theorem vals_iff {s : Sp} {v : Int} : v ∈ vals s ↔ s.1 ≤ v ∧ v ≤ s.2 := by
  constructor
  · exact vals_mem
  · intro hv
    unfold vals
    refine List.mem_map.2 ⟨(v - s.1).toNat, List.mem_range.2 (by omega), by omega⟩
theorem allR_iff : ∀ {l : List Sp} {r : List Int}, r ∈ allR l ↔ InR l r
  | [], r => by
    unfold InR
    simp only [allR, List.mem_singleton, List.length_nil, List.length_eq_zero_iff]
    exact ⟨fun h => ⟨h, fun d s v hs => by simp at hs⟩, fun h => h.1⟩
  | s :: l, r => by
    simp only [allR, List.mem_flatMap, List.mem_map]
    constructor
    · rintro ⟨v, hv, q, hq, rfl⟩
      obtain ⟨h1, h2⟩ := allR_iff.1 hq
      refine ⟨by simp [h1], fun d s' v' hs hv' => ?_⟩
      cases d with
      | zero =>
        simp only [List.getElem?_cons_zero, Option.some.injEq] at hs hv'
        subst hs hv'
        exact vals_mem hv
      | succ d => exact h2 d s' v' (by simpa using hs) (by simpa using hv')
    · rintro ⟨h1, h2⟩
      cases r with
      | nil => simp at h1
      | cons v q => exact ⟨v, vals_iff.2 (h2 0 s v rfl rfl), q, allR_iff.2 ⟨by simpa using h1, fun d s' v' hs hv => h2 (d + 1) s' v' (by simpa using hs) (by simpa using hv)⟩, rfl⟩
def pad6 (r : List Int) : List Int := r ++ List.replicate (6 - r.length) 0
theorem rowsL_mem {h : Hv} {q : List Int} : q ∈ rowsL h ↔ ∃ r, InR h.rains r ∧ q = pad6 r := by
  unfold rowsL
  rw [List.mem_map]
  exact ⟨fun ⟨r, h1, h2⟩ => ⟨r, allR_iff.1 h1, h2.symm⟩, fun ⟨r, h1, h2⟩ => ⟨r, allR_iff.2 h1, h2.symm⟩⟩
theorem take_pad {r : List Int} {d : Nat} (h : d < r.length) : (pad6 r).take (d + 1) = r.take (d + 1) := by
  unfold pad6
  rw [List.take_append_of_le_length (by omega)]
theorem tfOf_get {h : Hv} {i : Nat} (hi : i < h.heaps.length) : h.heaps[i]? = some (tfOf h i) := by
  unfold tfOf
  rw [List.getD_eq_getElem?_getD, List.getElem?_eq_getElem hi]; rfl
theorem tfOf_mem {h : Hv} {i : Nat} (hi : i < h.heaps.length) : tfOf h i ∈ h.heaps := List.mem_of_getElem? (tfOf_get hi)
section
variable {h : Hv} (hv : VH h)
include hv
theorem LkOk_one {s : Nat} {r : List Int} (hr : r.length = h.rains.length) {i : Nat} {n : Int} :
    LkOk h (pad6 r) i s (tfOf h i).place n h.looks 0 ↔ ∀ (j : Nat) (l : Lk), h.looks[j]? = some l → s / 2 ^ j % 2 = 1 → l.heap = (i : Int) → l.lo ≤ evn h i n r l.day.toNat ∧ evn h i n r l.day.toNat ≤ l.hi := by
  rw [LkOk_iff]
  have key : ∀ l ∈ h.looks, (pad6 r).take (l.day + 1).toNat = r.take (l.day.toNat + 1) := by
    intro l hl
    have := (hv.lk l hl).2.1
    rw [show (l.day + 1).toNat = l.day.toNat + 1 by omega, take_pad (by omega)]
  constructor
  · intro hh j l hl hs hi
    have := hh j l hl (by simpa using hs) hi
    rw [key l (List.mem_of_getElem? hl)] at this
    exact this
  · intro hh j l hl hs hi
    rw [key l (List.mem_of_getElem? hl)]
    exact hh j l hl (by simpa using hs) hi
/-- What is kept of a heap's first wetness. -/
theorem firstS_spec {s : Nat} {r : List Int} (hr : r.length = h.rains.length) {i : Nat} (hi : i < h.heaps.length) :
    (∀ n, One h s r i n ↔ (firstS h (pad6 r) i s).1 ≤ n ∧ n ≤ (firstS h (pad6 r) i s).2) := by
  intro n
  have ht := hv.tf _ (tfOf_mem hi)
  obtain ⟨h1, h2⟩ := firstT_spec h (pad6 r) i s (tfOf h i) ht.2.2.1
  have hf : firstS h (pad6 r) i s = firstT h (pad6 r) i s (tfOf h i) := by
    unfold firstS; rw [tfOf_get hi]
  rw [hf]
  constructor
  · rintro ⟨a, b, c⟩
    exact (h1 n a b).1 ((LkOk_one hv hr).2 c)
  · intro hk
    have h3 := h2 (by omega)
    refine ⟨by omega, by omega, (LkOk_one hv hr).1 ((h1 n (by omega) (by omega)).2 hk)⟩
theorem canB_iff {s : Nat} {r : List Int} (hr : r.length = h.rains.length) : canB h (pad6 r) s = true ↔ ∀ i, i < h.heaps.length → ∃ n, One h s r i n := by
  unfold canB
  rw [List.all_eq_true]
  constructor
  · intro hh i hi
    have := hh i (List.mem_range.2 hi)
    simp only [decide_eq_true_eq] at this
    exact ⟨_, (firstS_spec hv hr hi _).2 ⟨Int.le_refl _, this⟩⟩
  · intro hh i hi
    obtain ⟨n, hn⟩ := hh i (List.mem_range.1 hi)
    have := (firstS_spec hv hr (List.mem_range.1 hi) n).1 hn
    simp only [decide_eq_true_eq]
    omega
omit hv
/-- Rains with which there is a truth, by the looks of a set. -/
def Tr (h : Hv) (s : Nat) (r : List Int) : Prop := InR h.rains r ∧ ∀ i, i < h.heaps.length → ∃ n, One h s r i n
include hv
theorem someB_iff {s : Nat} : someB h s = true ↔ ∃ r, Tr h s r := by
  unfold someB
  rw [List.any_eq_true]
  constructor
  · rintro ⟨q, hq, hc⟩
    obtain ⟨r, hr, rfl⟩ := rowsL_mem.1 hq
    exact ⟨r, hr, (canB_iff hv hr.1).1 hc⟩
  · rintro ⟨r, hr, hc⟩
    exact ⟨_, rowsL_mem.2 ⟨r, hr, rfl⟩, (canB_iff hv hr.1).2 hc⟩
theorem toldL_mem {q : List Int} : q ∈ toldL h ↔ ∃ r, Tr h (evL h) r ∧ q = pad6 r := by
  unfold toldL
  rw [List.mem_filter]
  constructor
  · rintro ⟨hq, hc⟩
    obtain ⟨r, hr, rfl⟩ := rowsL_mem.1 hq
    exact ⟨r, ⟨hr, (canB_iff hv hr.1).1 hc⟩, rfl⟩
  · rintro ⟨r, hr, rfl⟩
    exact ⟨rowsL_mem.2 ⟨r, hr.1, rfl⟩, (canB_iff hv hr.1.1).2 hr.2⟩
theorem toldL_nil : toldL h = [] ↔ ¬ ∃ r, Tr h (evL h) r := by
  rw [List.eq_nil_iff_forall_not_mem]
  constructor
  · rintro hh ⟨r, hr⟩
    exact hh _ ((toldL_mem hv).2 ⟨r, hr, rfl⟩)
  · rintro hh q hq
    obtain ⟨r, hr, _⟩ := (toldL_mem hv).1 hq
    exact hh ⟨r, hr⟩
theorem someB_told : someB h (evL h) = true ↔ toldL h ≠ [] := by
  rw [someB_iff hv, Ne, toldL_nil hv]
  exact ⟨fun h1 h2 => h2 h1, fun h1 => Classical.not_not.1 h1⟩
end
/-- The least span that has all of something. -/
def Hull (p : Int → Prop) (s : Sp) : Prop := p s.1 ∧ p s.2 ∧ ∀ v, p v → s.1 ≤ v ∧ v ≤ s.2
theorem Hull.uniq {p : Int → Prop} {s s' : Sp} (h : Hull p s) (h' : Hull p s') : s = s' := by
  obtain ⟨a, b, c⟩ := h
  obtain ⟨a', b', c'⟩ := h'
  have := c _ a'; have := c _ b'; have := c' _ a; have := c' _ b
  exact Prod.ext (by omega) (by omega)
theorem Hull.iff {p q : Int → Prop} {s : Sp} (h : Hull p s) (k : ∀ v, p v ↔ q v) : Hull q s := ⟨(k _).1 h.1, (k _).1 h.2.1, fun v hv => h.2.2 v ((k v).2 hv)⟩
theorem foldl_hull : ∀ (l : List Sp) (s : Sp), let t := l.foldl (fun s x => (min s.1 x.1, max s.2 x.2)) s
    (t.1 = s.1 ∨ ∃ x ∈ l, t.1 = x.1) ∧ (t.2 = s.2 ∨ ∃ x ∈ l, t.2 = x.2) ∧ (t.1 ≤ s.1 ∧ s.2 ≤ t.2) ∧ ∀ x ∈ l, t.1 ≤ x.1 ∧ x.2 ≤ t.2
  | [], s => ⟨.inl rfl, .inl rfl, ⟨Int.le_refl _, Int.le_refl _⟩, fun _ h => by cases h⟩
  | y :: l, s => by
    obtain ⟨h1, h2, h3, h4⟩ := foldl_hull l (min s.1 y.1, max s.2 y.2)
    dsimp only at h1 h2 h3 h4
    simp only [List.foldl_cons]
    refine ⟨?_, ?_, ⟨by omega, by omega⟩, ?_⟩
    · rcases h1 with h1 | ⟨x, hx, h1⟩
      · by_cases hh : s.1 ≤ y.1
        · exact .inl (by omega)
        · exact .inr ⟨y, .head _, by omega⟩
      · exact .inr ⟨x, .tail _ hx, h1⟩
    · rcases h2 with h2 | ⟨x, hx, h2⟩
      · by_cases hh : y.2 ≤ s.2
        · exact .inl (by omega)
        · exact .inr ⟨y, .head _, by omega⟩
      · exact .inr ⟨x, .tail _ hx, h2⟩
    · intro x hx
      rcases List.mem_cons.1 hx with rfl | hx
      · omega
      · exact h4 x hx
theorem jn_hull {l : List Sp} (hl : l ≠ []) : (∃ x ∈ l, (jn l).1 = x.1) ∧ (∃ x ∈ l, (jn l).2 = x.2) ∧ ∀ x ∈ l, (jn l).1 ≤ x.1 ∧ x.2 ≤ (jn l).2 := by
  cases l with
  | nil => exact absurd rfl hl
  | cons y l =>
    obtain ⟨h1, h2, h3, h4⟩ := foldl_hull l y
    show (∃ x ∈ y :: l, (l.foldl _ y).1 = x.1) ∧ (∃ x ∈ y :: l, (l.foldl _ y).2 = x.2) ∧ ∀ x ∈ y :: l, (l.foldl _ y).1 ≤ x.1 ∧ x.2 ≤ (l.foldl _ y).2
    refine ⟨?_, ?_, ?_⟩
    · rcases h1 with h1 | ⟨x, hx, h1⟩
      · exact ⟨y, .head _, h1⟩
      · exact ⟨x, .tail _ hx, h1⟩
    · rcases h2 with h2 | ⟨x, hx, h2⟩
      · exact ⟨y, .head _, h2⟩
      · exact ⟨x, .tail _ hx, h2⟩
    · intro x hx
      rcases List.mem_cons.1 hx with rfl | hx
      · exact h3
      · exact h4 x hx
/-- What a heap's wetness in the evening of a day can be. -/
def WetP (h : Hv) (i d : Nat) (v : Int) : Prop := ∃ r, Tr h (evL h) r ∧ ∃ n, One h (evL h) r i n ∧ v = evn h i n r d
def RainP (h : Hv) (d : Nat) (v : Int) : Prop := ∃ r, Tr h (evL h) r ∧ r[d]? = some v
theorem wetS_hull {h : Hv} (hv : VH h) (h0 : toldL h ≠ []) {i d : Nat} (hi : i < h.heaps.length) (hd : d < h.rains.length) : Hull (WetP h i d) (wetS h i d) := by
  unfold wetS
  obtain ⟨⟨x, hx, h1⟩, ⟨y, hy, h2⟩, h3⟩ := jn_hull (l := (toldL h).map (wetR h i d)) (by simpa using h0)
  have hw : ∀ r, InR h.rains r → wetR h i d (pad6 r) = (evn h i (firstS h (pad6 r) i (evL h)).1 r d, evn h i (firstS h (pad6 r) i (evL h)).2 r d) := by
    intro r hr
    unfold wetR
    rw [tfOf_get hi]
    unfold wetT evn
    rw [take_pad (by rw [hr.1]; exact hd)]
  have hone : ∀ r, Tr h (evL h) r → One h (evL h) r i (firstS h (pad6 r) i (evL h)).1 ∧ One h (evL h) r i (firstS h (pad6 r) i (evL h)).2 := by
    intro r hr
    obtain ⟨n, hn⟩ := hr.2 i hi
    have := (firstS_spec hv hr.1.1 hi n).1 hn
    exact ⟨(firstS_spec hv hr.1.1 hi _).2 ⟨by omega, by omega⟩, (firstS_spec hv hr.1.1 hi _).2 ⟨by omega, by omega⟩⟩
  refine ⟨?_, ?_, ?_⟩
  · obtain ⟨q, hq, rfl⟩ := List.mem_map.1 hx
    obtain ⟨r, hr, rfl⟩ := (toldL_mem hv).1 hq
    rw [h1, hw r hr.1]
    exact ⟨r, hr, _, (hone r hr).1, rfl⟩
  · obtain ⟨q, hq, rfl⟩ := List.mem_map.1 hy
    obtain ⟨r, hr, rfl⟩ := (toldL_mem hv).1 hq
    rw [h2, hw r hr.1]
    exact ⟨r, hr, _, (hone r hr).2, rfl⟩
  · rintro v ⟨r, hr, n, hn, rfl⟩
    have := h3 _ (List.mem_map.2 ⟨_, (toldL_mem hv).2 ⟨r, hr, rfl⟩, rfl⟩)
    rw [hw r hr.1] at this
    have hb := (firstS_spec hv hr.1.1 hi n).1 hn
    have m1 := evening_mono h (tfOf h i).place (r.take (d + 1)) hb.1
    have m2 := evening_mono h (tfOf h i).place (r.take (d + 1)) hb.2
    unfold evn at this ⊢
    omega
theorem rainS_hull {h : Hv} (hv : VH h) (h0 : toldL h ≠ []) {d : Nat} (hd : d < h.rains.length) : Hull (RainP h d) (rainS h d) := by
  unfold rainS
  obtain ⟨⟨x, hx, h1⟩, ⟨y, hy, h2⟩, h3⟩ := jn_hull (l := (toldL h).map (rainR d)) (by simpa using h0)
  have hw : ∀ r, InR h.rains r → ∃ v, r[d]? = some v ∧ rainR d (pad6 r) = (v, v) := by
    intro r hr
    have hd' : d < r.length := by rw [hr.1]; exact hd
    refine ⟨r[d], List.getElem?_eq_getElem hd', ?_⟩
    unfold rainR pad6
    rw [List.getD_eq_getElem?_getD, List.getElem?_append_left hd', List.getElem?_eq_getElem hd']; rfl
  refine ⟨?_, ?_, ?_⟩
  · obtain ⟨q, hq, rfl⟩ := List.mem_map.1 hx
    obtain ⟨r, hr, rfl⟩ := (toldL_mem hv).1 hq
    obtain ⟨v, hv1, hv2⟩ := hw r hr.1
    rw [h1, hv2]
    exact ⟨r, hr, hv1⟩
  · obtain ⟨q, hq, rfl⟩ := List.mem_map.1 hy
    obtain ⟨r, hr, rfl⟩ := (toldL_mem hv).1 hq
    obtain ⟨v, hv1, hv2⟩ := hw r hr.1
    rw [h2, hv2]
    exact ⟨r, hr, hv1⟩
  · rintro v ⟨r, hr, hrv⟩
    have := h3 _ (List.mem_map.2 ⟨_, (toldL_mem hv).2 ⟨r, hr, rfl⟩, rfl⟩)
    obtain ⟨v', hv1, hv2⟩ := hw r hr.1
    rw [hv2] at this
    rw [hrv] at hv1
    simp only [Option.some.injEq] at hv1
    subst hv1
    exact this
end Go.Proofs.Ytlpahkmfjpjheaa
end

section
namespace Go.Proofs.Ytlpahkmfjpjheaa
open Go.RowKit
/-- Whether a heap surely is dry in the evening of a day. -/
def dr (h : Hv) (k d : Nat) : Bool := decide ((wetS h k d).2 ≤ h.limit)
/-- The first of so many numbers of which something is so; -1: of none. -/
def idxF (p : Nat → Bool) (n : Nat) : Int := match (List.range n).find? p with
  | some d => d
  | none => -1
theorem idxF_zero (p : Nat → Bool) : idxF p 0 = -1 := rfl
theorem idxF_succ (p : Nat → Bool) (n : Nat) : idxF p (n + 1) = if idxF p n < 0 ∧ p n = true then (n : Int) else idxF p n := by
  unfold idxF
  rw [List.range_succ, List.find?_append]
  cases h : (List.range n).find? p with
  | some d => simp; omega
  | none =>
    simp only [Option.none_or, List.find?_singleton]
    cases hp : p n <;> simp
theorem idxF_bd (p : Nat → Bool) (n : Nat) : -1 ≤ idxF p n ∧ idxF p n < n := by
  induction n with
  | zero => rw [idxF_zero]; omega
  | succ n ih => rw [idxF_succ]; split <;> omega
theorem find_idx (p : Nat → Bool) (n : Nat) : ((List.range n).find? p = none ∧ idxF p n = -1) ∨ ∃ d : Nat, (List.range n).find? p = some d ∧ idxF p n = d := by
  unfold idxF
  cases (List.range n).find? p with
  | none => exact .inl ⟨rfl, rfl⟩
  | some d => exact .inr ⟨d, rfl, rfl⟩
theorem find_congr {p q : Nat → Bool} {n : Nat} (h : ∀ k, p k = q k) : (List.range n).find? p = (List.range n).find? q := by
  have : p = q := funext h
  rw [this]
section
variable {h : Hv} (hv : VH h) (hb : vB h = true)
include hb
theorem errE_clash (h0 : toldL h = []) : errE h true = 10 := by simp [errE, hb, h0]
theorem errE_ok (h0 : toldL h ≠ []) : errE h true = 0 := by simp [errE, hb, h0]
omit hb
theorem WetOk_in {i d : Nat} (hi : i < h.heaps.length) (hd : d < h.rains.length) : WetOk h i d = true := by
  simp only [WetOk, within, Bool.and_eq_true, decide_eq_true_eq]; omega
theorem DayOk_in {d : Nat} (hd : d < h.rains.length) : DayOk h d = true := by
  simp only [DayOk, within, Bool.and_eq_true, decide_eq_true_eq]; omega
theorem HeapOk_in {i : Nat} (hi : i < h.heaps.length) : HeapOk h i = true := by
  simp only [HeapOk, within, Bool.and_eq_true, decide_eq_true_eq]; omega
include hb
theorem wet_ok (h0 : toldL h ≠ []) {i d : Nat} (hi : i < h.heaps.length) (hd : d < h.rains.length) : WetV h i d = wetS h i d ∧ errE h (WetOk h i d) = 0 := by
  rw [WetOk_in hi hd]
  refine ⟨?_, errE_ok hb h0⟩
  unfold WetV
  rw [WetOk_in hi hd, if_pos (errE_ok hb h0), Int.toNat_natCast, Int.toNat_natCast]
theorem wet_clash (h0 : toldL h = []) {i d : Nat} (hi : i < h.heaps.length) (hd : d < h.rains.length) : WetV h i d = (0, 0) ∧ errE h (WetOk h i d) = 10 := by
  rw [WetOk_in hi hd]
  refine ⟨?_, errE_clash hb h0⟩
  unfold WetV
  rw [WetOk_in hi hd, if_neg (by rw [errE_clash hb h0]; omega)]
theorem rain_ok (h0 : toldL h ≠ []) {d : Nat} (hd : d < h.rains.length) : RainV h d = rainS h d ∧ errE h (DayOk h d) = 0 := by
  rw [DayOk_in hd]
  refine ⟨?_, errE_ok hb h0⟩
  unfold RainV
  rw [DayOk_in hd, if_pos (errE_ok hb h0), Int.toNat_natCast]
theorem rain_clash (h0 : toldL h = []) {d : Nat} (hd : d < h.rains.length) : RainV h d = (0, 0) ∧ errE h (DayOk h d) = 10 := by
  rw [DayOk_in hd]
  refine ⟨?_, errE_clash hb h0⟩
  unfold RainV
  rw [DayOk_in hd, if_neg (by rw [errE_clash hb h0]; omega)]
theorem dry_ok (h0 : toldL h ≠ []) {i d : Nat} (hi : i < h.heaps.length) (hd : d < h.rains.length) :
    (DryV h i d = 2 ∧ (wetS h i d).2 ≤ h.limit) ∨ (DryV h i d = 0 ∧ h.limit < (wetS h i d).1 ∧ h.limit < (wetS h i d).2) ∨ (DryV h i d = 1 ∧ h.limit < (wetS h i d).2 ∧ (wetS h i d).1 ≤ h.limit) := by
  unfold DryV
  rw [WetOk_in hi hd, if_pos (errE_ok hb h0), Int.toNat_natCast, Int.toNat_natCast]
  split
  · exact .inl ⟨rfl, by assumption⟩
  · split
    · exact .inr (.inl ⟨rfl, by omega, by omega⟩)
    · exact .inr (.inr ⟨rfl, by omega, by omega⟩)
include hv
omit hb in
theorem dryDay_one (d i : Nat) : dryDay h [i] d = dr h i d := by
  have := hv.lim
  unfold dryDay dr wettest
  rw [Bool.eq_iff_iff, decide_eq_true_eq, decide_eq_true_eq]
  simp only [List.foldl_cons, List.foldl_nil]
  omega
omit hv hb in
theorem wettest_le (d : Nat) : ∀ (xs : List Nat) (m : Int), m ≤ h.limit → (xs.foldl (fun m i => max m (wetS h i d).2) m ≤ h.limit ↔ ∀ k ∈ xs, (wetS h k d).2 ≤ h.limit)
  | [], m, hm => by simp [hm]
  | x :: xs, m, hm => by
    simp only [List.foldl_cons, List.forall_mem_cons]
    by_cases hx : (wetS h x d).2 ≤ h.limit
    · rw [wettest_le d xs _ (by omega)]
      exact ⟨fun h1 => ⟨hx, h1⟩, fun h1 => h1.2⟩
    · have hge : ∀ (ys : List Nat) (m : Int), m ≤ ys.foldl (fun m i => max m (wetS h i d).2) m := by
        intro ys
        induction ys with
        | nil => intro m; exact Int.le_refl _
        | cons y ys ih => intro m; exact Int.le_trans (Int.le_max_left _ _) (ih _)
      have := hge xs (max m (wetS h x d).2)
      exact ⟨fun h1 => absurd h1 (by omega), fun h1 => absurd h1.1 hx⟩
omit hb in
theorem dryDay_all (d : Nat) : dryDay h (List.range h.heaps.length) d = (List.range h.heaps.length).all fun k => dr h k d := by
  have := hv.lim
  rw [Bool.eq_iff_iff]
  unfold dryDay wettest
  rw [decide_eq_true_eq, wettest_le d _ 0 (by omega), List.all_eq_true]
  simp [dr]
theorem when_ok (h0 : toldL h ≠ []) {i : Nat} (hi : i < h.heaps.length) :
    (WhenE h i = 0 ∧ WhenV h i = idxF (dr h i) h.rains.length ∧ 0 ≤ idxF (dr h i) h.rains.length) ∨ (WhenE h i = 4 ∧ WhenV h i = 0 ∧ idxF (dr h i) h.rains.length = -1) := by
  unfold WhenE WhenV errW
  rw [HeapOk_in hi, errE_ok hb h0, Int.toNat_natCast]
  unfold whenD
  rw [find_congr (dryDay_one hv · i)]
  rcases find_idx (dr h i) h.rains.length with ⟨h1, h2⟩ | ⟨d, h1, h2⟩
  · rw [h1, h2]; exact .inr ⟨rfl, rfl, rfl⟩
  · rw [h1, h2]; exact .inl ⟨rfl, by simp, by omega⟩
theorem all_ok (h0 : toldL h ≠ []) :
    (AllE h = 0 ∧ AllV h = idxF (fun d => (List.range h.heaps.length).all fun k => dr h k d) h.rains.length ∧ 0 ≤ idxF (fun d => (List.range h.heaps.length).all fun k => dr h k d) h.rains.length) ∨ (AllE h = 4 ∧ AllV h = 0 ∧ idxF (fun d => (List.range h.heaps.length).all fun k => dr h k d) h.rains.length = -1) := by
  unfold AllV AllE errW
  rw [errE_ok hb h0]
  unfold whenD
  rw [find_congr (dryDay_all hv)]
  rcases find_idx (fun d => (List.range h.heaps.length).all fun k => dr h k d) h.rains.length with ⟨h1, h2⟩ | ⟨d, h1, h2⟩
  · rw [h1, h2]; exact .inr ⟨rfl, rfl, rfl⟩
  · rw [h1, h2]; exact .inl ⟨rfl, by simp, by omega⟩
omit hv
theorem when_clash (h0 : toldL h = []) {i : Nat} (hi : i < h.heaps.length) : WhenE h i = 10 ∧ WhenV h i = 0 := by
  unfold WhenE WhenV errW
  rw [HeapOk_in hi, errE_clash hb h0]
  exact ⟨rfl, rfl⟩
theorem all_clash (h0 : toldL h = []) : AllE h = 10 ∧ AllV h = 0 := by
  unfold AllV AllE errW
  rw [errE_clash hb h0]
  exact ⟨rfl, rfl⟩
theorem doubt_clash (h0 : toldL h = []) {d : Nat} (hd : d < h.rains.length) : DoubtV h d = (0, 0) ∧ errE h (DayOk h d) = 10 := by
  unfold DoubtV
  rw [DayOk_in hd, errE_clash hb h0]
  exact ⟨rfl, rfl⟩
end
def wide (h : Hv) (k d : Nat) : Int := (wetS h k d).2 - (wetS h k d).1
theorem doubtK_spec (h : Hv) (d : Nat) : ∀ (n : Nat), (∀ k, k < n → 0 ≤ wide h k d) → 0 < n →
    ∃ q : Nat, (doubtK h d n).1 = q ∧ q < n ∧ (doubtK h d n).2 = wide h q d ∧ ∀ k, k < n → wide h k d ≤ wide h q d ∧ (k < q → wide h k d < wide h q d)
  | 0, _, hn => absurd hn (by omega)
  | n + 1, hp, _ => by
    have e : doubtK h d (n + 1) = if wide h n d > (doubtK h d n).2 then ((n : Int), wide h n d) else doubtK h d n := rfl
    rw [e]
    by_cases h0 : n = 0
    · subst h0
      have := hp 0 (by omega)
      rw [if_pos (by show wide h 0 d > -1; omega)]
      exact ⟨0, rfl, by omega, rfl, fun k hk => ⟨by rw [show k = 0 by omega]; exact Int.le_refl _, fun hk' => by omega⟩⟩
    · obtain ⟨q, h1, h2, h3, h4⟩ := doubtK_spec h d n (fun k hk => hp k (by omega)) (by omega)
      rw [h3]
      by_cases hgt : wide h n d > wide h q d
      · rw [if_pos hgt]
        refine ⟨n, rfl, by omega, rfl, fun k hk => ?_⟩
        by_cases hkn : k = n
        · subst hkn; exact ⟨Int.le_refl _, fun hk' => by omega⟩
        · have := (h4 k (by omega)).1; exact ⟨by omega, fun _ => by omega⟩
      · rw [if_neg hgt]
        refine ⟨q, h1, by omega, h3, fun k hk => ?_⟩
        by_cases hkn : k = n
        · subst hkn; exact ⟨by omega, fun hk' => by omega⟩
        · exact h4 k (by omega)
theorem doubt_ok {h : Hv} (hv : VH h) (hb : vB h = true) (h0 : toldL h ≠ []) {d : Nat} (hd : d < h.rains.length) :
    errE h (DayOk h d) = 0 ∧ ∃ q : Nat, (DoubtV h d).1 = q ∧ q < h.heaps.length ∧ (DoubtV h d).2 = wide h q d ∧ ∀ k, k < h.heaps.length → wide h k d ≤ wide h q d ∧ (k < q → wide h k d < wide h q d) := by
  unfold DoubtV
  rw [DayOk_in hd, if_pos (errE_ok hb h0), Int.toNat_natCast]
  refine ⟨errE_ok hb h0, doubtK_spec h d _ (fun k hk => ?_) (by have := hv.nh; omega)⟩
  have hH := wetS_hull hv h0 hk hd
  have := hH.2.2 _ hH.1
  unfold wide; omega
end Go.Proofs.Ytlpahkmfjpjheaa
end

section
namespace Go.Proofs.Ytlpahkmfjpjheaa
open Go.RowKit
theorem after_place {d0 d1 d2 p q w w' rain : Int} (h1 : d0 ≤ d1) (h2 : d1 ≤ d2) (hp : 0 ≤ p) (hpq : p ≤ q) (_ : q ≤ 2) (hw : w' ≤ w) : after d0 d1 d2 q w' rain ≤ after d0 d1 d2 p w rain := by
  unfold after afterDry
  split
  · split <;> split <;> (try split) <;> (try split) <;> omega
  · omega
theorem evening_place {h : Hv} (hv : h.d0 ≤ h.d1 ∧ h.d1 ≤ h.d2) {p q : Int} (hp : 0 ≤ p) (hpq : p ≤ q) (hq : q ≤ 2) : ∀ (rs : List Int) {w w' : Int}, w' ≤ w → evening h q w' rs ≤ evening h p w rs
  | [], _, _, hw => hw
  | _ :: rs, _, _, hw => evening_place hv hp hpq hq rs (after_place hv.1 hv.2 hp hpq hq hw)
/-- Heaps without looks: any wetness at first, any rains. -/
theorem One_free {h : Hv} (hl : h.looks = []) {s : Nat} {r : List Int} {i : Nat} {n : Int} : One h s r i n ↔ (tfOf h i).lo ≤ n ∧ n ≤ (tfOf h i).hi := by
  unfold One
  rw [hl]
  simp
theorem Tr_free {h : Hv} (hv : VH h) (hl : h.looks = []) {s : Nat} {r : List Int} : Tr h s r ↔ InR h.rains r := by
  unfold Tr
  refine ⟨fun a => a.1, fun a => ⟨a, fun i hi => ?_⟩⟩
  have := (hv.tf _ (tfOf_mem hi)).2.2.1
  exact ⟨(tfOf h i).lo, (One_free hl).2 ⟨Int.le_refl _, this⟩⟩
theorem InR_some {l : List Sp} (h : ∀ s ∈ l, s.1 ≤ s.2) : ∃ r, InR l r := by
  refine ⟨l.map (·.1), by simp, fun d s v hs hv => ?_⟩
  rw [List.getElem?_map, hs] at hv
  simp only [Option.map_some, Option.some.injEq] at hv
  subst hv
  exact ⟨Int.le_refl _, h s (List.mem_of_getElem? hs)⟩
theorem told_free {h : Hv} (hv : VH h) (hl : h.looks = []) : toldL h ≠ [] := by
  rw [Ne, toldL_nil hv]
  intro hn
  obtain ⟨r, hr⟩ := InR_some (l := h.rains) (fun s hs => (hv.rn s hs).2.1)
  exact hn ⟨r, (Tr_free hv hl).2 hr⟩
/-- Of two heaps of the same wetness at first, the one in the higher place is never wetter. -/
theorem wetS_place {h : Hv} (hv : VH h) (hl : h.looks = []) {i j d : Nat} (hi : i < h.heaps.length) (hj : j < h.heaps.length) (hd : d < h.rains.length)
    (h1 : (tfOf h i).lo = (tfOf h j).lo) (h2 : (tfOf h i).hi = (tfOf h j).hi) (hp : (tfOf h i).place ≤ (tfOf h j).place) : (wetS h j d).1 ≤ (wetS h i d).1 ∧ (wetS h j d).2 ≤ (wetS h i d).2 := by
  have h0 := told_free hv hl
  obtain ⟨a1, a2, a3⟩ := wetS_hull hv h0 hi hd
  obtain ⟨b1, b2, b3⟩ := wetS_hull hv h0 hj hd
  have hti := hv.tf _ (tfOf_mem hi)
  have htj := hv.tf _ (tfOf_mem hj)
  have hdr := hv.dr
  have key : ∀ r n, evn h j n r d ≤ evn h i n r d := fun r n => evening_place (by omega) hti.1.1 hp htj.1.2 _ (Int.le_refl _)
  constructor
  · obtain ⟨r, hr, n, hn, he⟩ := a1
    have := b3 _ ⟨r, hr, n, (One_free hl).2 (by have := (One_free hl).1 hn; omega), rfl⟩
    have := key r n
    omega
  · obtain ⟨r, hr, n, hn, he⟩ := b2
    have := a3 _ ⟨r, hr, n, (One_free hl).2 (by have := (One_free hl).1 hn; omega), rfl⟩
    have := key r n
    omega
theorem wetS_known {h : Hv} (hv : VH h) (hl : h.looks = []) {i d : Nat} (hi : i < h.heaps.length) (hd : d < h.rains.length) (ht : (tfOf h i).lo = (tfOf h i).hi) (hr : ∀ s ∈ h.rains, s.1 = s.2) :
    wetS h i d = (evn h i (tfOf h i).lo (h.rains.map (·.1)) d, evn h i (tfOf h i).lo (h.rains.map (·.1)) d) := by
  have h0 := told_free hv hl
  have hH := wetS_hull hv h0 hi hd
  have one : ∀ v, WetP h i d v → v = evn h i (tfOf h i).lo (h.rains.map (·.1)) d := by
    rintro v ⟨r, hr', n, hn, rfl⟩
    have := (One_free hl).1 hn
    have e : r = h.rains.map (·.1) := by
      obtain ⟨a, b⟩ := hr'.1
      apply List.ext_getElem?
      intro k
      by_cases hk : k < h.rains.length
      · have hk' : k < r.length := by omega
        have := b k _ _ (List.getElem?_eq_getElem hk) (List.getElem?_eq_getElem hk')
        have e := hr _ (List.getElem_mem hk)
        rw [List.getElem?_eq_getElem hk', List.getElem?_map, List.getElem?_eq_getElem hk]
        simp only [Option.map_some, Option.some.injEq]
        omega
      · rw [List.getElem?_eq_none (by omega), List.getElem?_eq_none (by simp; omega)]
    rw [e, show n = (tfOf h i).lo by omega]
  exact Prod.ext (one _ hH.1) (one _ hH.2.1)
end Go.Proofs.Ytlpahkmfjpjheaa
end

section
namespace Go.Proofs.Ytlpahkmfjpjheaa
open Go.RowKit
/-- Fewer, or as many and a lesser set. -/
def lexB (a b : Nat) : Bool := decide (pc a < pc b ∨ (pc a = pc b ∧ a < b))
def stabChk2 (k : Nat) : Bool :=
  (List.range (2 ^ k)).all (fun x => (stab (2 ^ k) (List.range (2 ^ k))).contains x) &&
  (List.range (2 ^ k)).all (fun i => (List.range (2 ^ k)).all fun j => !decide (i < j) || lexB (gt (stab (2 ^ k) (List.range (2 ^ k))) i) (gt (stab (2 ^ k) (List.range (2 ^ k))) j))
theorem stab_chk2 : ((List.range 6).all stabChk2) = true := by kernel_rfl
theorem lexB_irr {a : Nat} : lexB a a = false := by simp [lexB]
theorem lexB_asym {a b : Nat} (h : lexB a b = true) : lexB b a = false := by
  unfold lexB at h ⊢
  rw [decide_eq_true_eq] at h
  rw [decide_eq_false_iff_not]
  omega
theorem sets_spec (k : Nat) (hk : k < 6) : (∀ x, x < 2 ^ k → x ∈ stab (2 ^ k) (List.range (2 ^ k))) ∧ ∀ i j, i < j → j < 2 ^ k → lexB (gt (stab (2 ^ k) (List.range (2 ^ k))) i) (gt (stab (2 ^ k) (List.range (2 ^ k))) j) = true := by
  have := stab_chk2
  rw [List.all_eq_true] at this
  have h := this k (List.mem_range.2 hk)
  simp only [stabChk2, Bool.and_eq_true, List.all_eq_true, List.mem_range, Bool.or_eq_true, List.contains_iff_mem] at h
  obtain ⟨h1, h2⟩ := h
  refine ⟨fun x hx => h1 x hx, fun i j hij hj => ?_⟩
  rcases h2 i (by omega) j hj with h3 | h3
  · simp at h3; omega
  · exact h3
/-- The first set of which something is so. -/
theorem sets_first {h : Hv} (hv : VH h) (p : Nat → Bool) : (idxI p (setsL h) = -1 ∧ ∀ x, x < 2 ^ h.looks.length → p x = false) ∨
    (0 ≤ idxI p (setsL h) ∧ firstOf p (setsL h) < 2 ^ h.looks.length ∧ p (firstOf p (setsL h)) = true ∧ ∀ y, y < 2 ^ h.looks.length → lexB y (firstOf p (setsL h)) = true → p y = false) := by
  have hnl := hv.nl
  obtain ⟨h1, h2⟩ := sets_spec h.looks.length (by omega)
  obtain ⟨h3, _, h4⟩ := stab_spec h.looks.length (by omega)
  rcases idxI_cases p (setsL h) with ⟨i, hi, hix, hp, hno⟩ | ⟨hix, hno⟩
  · have hS : firstOf p (setsL h) = gt (setsL h) i := by unfold firstOf; rw [hix]; simp
    refine .inr ⟨by rw [hix]; omega, ?_, by rw [hS]; exact hp, ?_⟩
    · rw [hS]; exact h4 _ (gt_mem hi)
    · intro y hy hl
      rw [hS] at hl
      obtain ⟨j, hj, he⟩ := List.getElem_of_mem (h1 y hy)
      have hj' : j < (setsL h).length := hj
      have hg : gt (setsL h) j = y := by unfold gt setsL; rw [List.getD_eq_getElem?_getD, List.getElem?_eq_getElem hj, he]; rfl
      by_cases hij : j < i
      · rw [← hg]; exact hno j hij
      · by_cases hij2 : j = i
        · subst hij2; rw [hg, lexB_irr] at hl; cases hl
        · have := h2 i j (by omega) (by rw [← h3]; exact hj)
          have h5 : lexB (gt (setsL h) i) (gt (setsL h) j) = true := this
          rw [hg] at h5
          rw [lexB_asym h5] at hl; cases hl
  · exact .inl ⟨hix, fun x hx => hno x (h1 x hx)⟩
/-- All looks but those of a set. -/
theorem FalseP_iff {h : Hv} (hv : VH h) {x : Nat} (hx : x < 2 ^ h.looks.length) : FalseP h x = someB h (evL h - x) := by
  unfold FalseP evL
  have hnl := hv.nl
  have key : ∀ k, k < 6 → ∀ x, x < 2 ^ k → (2 ^ k - 1) &&& (2 ^ 64 - 1 - x) = 2 ^ k - 1 - x := by decide +kernel
  rw [key _ (by omega) x hx]
/-- How few looks must be false, and which. -/
theorem false_ok {h : Hv} (hv : VH h) (hb : vB h = true) : FalseE h = 0 ∧ ∃ x : Nat, FalseV h = ((pc x : Int), (x : Int)) ∧ x < 2 ^ h.looks.length ∧ someB h (evL h - x) = true ∧ ∀ y, y < 2 ^ h.looks.length → lexB y x = true → someB h (evL h - y) = false := by
  refine ⟨by simp [FalseE, hb], FalseS h, by simp [FalseV, hb], ?_⟩
  have hp := Nat.two_pow_pos h.looks.length
  rcases sets_first hv (FalseP h) with ⟨_, h2⟩ | ⟨_, h2, h3, h4⟩
  · have := h2 (2 ^ h.looks.length - 1) (by omega)
    rw [falseP_all hv] at this; cases this
  · refine ⟨h2, ?_, fun y hy hl => ?_⟩
    · show someB h (evL h - firstOf (FalseP h) (setsL h)) = true
      rw [← FalseP_iff hv h2]; exact h3
    · rw [← FalseP_iff hv hy]; exact h4 y hy hl
theorem clash_ok {h : Hv} (hv : VH h) (hb : vB h = true) : (ClashE h = 4 ∧ ClashV h = 0 ∧ ∀ y, y < 2 ^ h.looks.length → someB h y = true) ∨
    (ClashE h = 0 ∧ ∃ x : Nat, ClashV h = (x : Int) ∧ x < 2 ^ h.looks.length ∧ someB h x = false ∧ ∀ y, y < 2 ^ h.looks.length → lexB y x = true → someB h y = true) := by
  rcases sets_first hv (ClashP h) with ⟨h1, h2⟩ | ⟨h1, h2, h3, h4⟩
  · have he : ClashE h = 4 := by simp [ClashE, hb, h1]
    exact .inl ⟨he, by unfold ClashV; rw [he]; rfl, fun y hy => by have := h2 y hy; simpa [ClashP] using this⟩
  · have he : ClashE h = 0 := by
      unfold ClashE
      rw [if_neg (by rw [hb]; simp), if_neg (by omega)]
    have h5 : someB h (firstOf (ClashP h) (setsL h)) = false := by simpa [ClashP] using h3
    exact .inr ⟨he, ClashS h, by unfold ClashV; rw [if_pos he], h2, h5, fun y hy hl => by have := h4 y hy hl; simpa [ClashP] using this⟩
end Go.Proofs.Ytlpahkmfjpjheaa
end

section
namespace Go.Proofs.Ytlpahkmfjpjheaa
open Go.RowKit
theorem bit_iff {x j : Nat} : x / 2 ^ j % 2 = 1 ↔ x.testBit j = true := by
  rw [Nat.testBit_eq_decide_div_mod_eq, decide_eq_true_eq]
theorem evL_bit {h : Hv} {j : Nat} : evL h / 2 ^ j % 2 = 1 ↔ j < h.looks.length := by
  rw [bit_iff]
  unfold evL
  rw [Nat.testBit_two_pow_sub_one, decide_eq_true_eq]
theorem One_mono {h : Hv} {s s' : Nat} {r : List Int} {i : Nat} {n : Int} (hb : ∀ j, j < h.looks.length → s / 2 ^ j % 2 = 1 → s' / 2 ^ j % 2 = 1) (hO : One h s' r i n) : One h s r i n :=
  ⟨hO.1, hO.2.1, fun j l hl hs hi => hO.2.2 j l hl (hb j (List.getElem?_eq_some_iff.1 hl).1 hs) hi⟩
theorem Tr_mono {h : Hv} {s s' : Nat} {r : List Int} (hb : ∀ j, j < h.looks.length → s / 2 ^ j % 2 = 1 → s' / 2 ^ j % 2 = 1) (hT : Tr h s' r) : Tr h s r :=
  ⟨hT.1, fun i hi => let ⟨n, hn⟩ := hT.2 i hi; ⟨n, One_mono hb hn⟩⟩
theorem Tr_all {h : Hv} {s : Nat} {r : List Int} (hT : Tr h (evL h) r) : Tr h s r := Tr_mono (fun _ hj _ => evL_bit.2 hj) hT
section
variable {h : Hv} (hv : VH h) (hb : vB h = true)
include hv
theorem some_all {s : Nat} (h0 : toldL h ≠ []) : someB h s = true := by
  obtain ⟨r, hr⟩ := (someB_iff hv).1 ((someB_told hv).2 h0)
  exact (someB_iff hv).2 ⟨r, Tr_all hr⟩
include hb
/-- Looks clash just if there is no truth. -/
theorem clash_told : (ClashE h = 4 ∧ ClashV h = 0 ∧ toldL h ≠ []) ∨ (ClashE h = 0 ∧ toldL h = []) := by
  have hp := Nat.two_pow_pos h.looks.length
  rcases clash_ok hv hb with ⟨h1, h2, h3⟩ | ⟨h1, x, _, _, h4, _⟩
  · exact .inl ⟨h1, h2, (someB_told hv).1 (h3 (evL h) (by unfold evL; omega))⟩
  · refine .inr ⟨h1, Classical.byContradiction fun h0 => ?_⟩
    rw [some_all hv h0] at h4; cases h4
theorem false_told : (FalseV h = (0, 0) ∧ toldL h ≠ []) ∨ (0 < (FalseV h).1 ∧ toldL h = []) := by
  have hp := Nat.two_pow_pos h.looks.length
  have hnl := hv.nl
  have h32 : 2 ^ h.looks.length ≤ 2 ^ 5 := Nat.pow_le_pow_right (by omega) hnl
  obtain ⟨_, x, h1, h2, h3, h4⟩ := false_ok hv hb
  have hz : ∀ x : Nat, x < 32 → (pc x = 0 → x = 0) := by decide +kernel
  by_cases hx : x = 0
  · subst hx
    exact .inl ⟨h1, (someB_told hv).1 (by simpa using h3)⟩
  · have hpc : 0 < pc x := by
      have := hz x (by omega)
      omega
    refine .inr ⟨by rw [h1]; dsimp only; omega, Classical.byContradiction fun h0 => ?_⟩
    have := h4 0 hp (by unfold lexB; rw [decide_eq_true_eq]; left; exact hpc)
    rw [some_all hv h0] at this; cases this
end
/-! ## Another rain -/
def setR (h : Hv) (d : Nat) (s : Sp) : Hv := { h with rains := h.rains.set d s }
theorem One_setR {h : Hv} {d : Nat} {q : Sp} {s : Nat} {r : List Int} {i : Nat} {n : Int} : One (setR h d q) s r i n ↔ One h s r i n := Iff.rfl
theorem InR_set {l : List Sp} {d : Nat} {q : Sp} {r : List Int} (hd : d < l.length) (hq : l[d].1 ≤ q.1 ∧ q.2 ≤ l[d].2) : InR (l.set d q) r ↔ InR l r ∧ ∀ v, r[d]? = some v → q.1 ≤ v ∧ v ≤ q.2 := by
  unfold InR
  rw [List.length_set]
  constructor
  · rintro ⟨h1, h2⟩
    have h3 : ∀ v, r[d]? = some v → q.1 ≤ v ∧ v ≤ q.2 := fun v hv => h2 d q v (by rw [List.getElem?_set_self hd]) hv
    refine ⟨⟨h1, fun e s v hs hv => ?_⟩, h3⟩
    by_cases he : e = d
    · subst he
      have := h3 v hv
      rw [List.getElem?_eq_getElem hd] at hs
      simp only [Option.some.injEq] at hs
      subst hs
      omega
    · exact h2 e s v (by rw [List.getElem?_set_ne (Ne.symm he)]; exact hs) hv
  · rintro ⟨⟨h1, h2⟩, h3⟩
    refine ⟨h1, fun e s v hs hv => ?_⟩
    by_cases he : e = d
    · subst he
      rw [List.getElem?_set_self hd] at hs
      simp only [Option.some.injEq] at hs
      subst hs
      exact h3 v hv
    · exact h2 e s v (by rw [List.getElem?_set_ne (Ne.symm he)] at hs; exact hs) hv
theorem Tr_setR {h : Hv} {d : Nat} {q : Sp} {s : Nat} {r : List Int} (hd : d < h.rains.length) (hq : h.rains[d].1 ≤ q.1 ∧ q.2 ≤ h.rains[d].2) : Tr (setR h d q) s r ↔ Tr h s r ∧ ∀ v, r[d]? = some v → q.1 ≤ v ∧ v ≤ q.2 := by
  unfold Tr
  have : (setR h d q).rains = h.rains.set d q := rfl
  rw [this, InR_set hd hq]
  exact ⟨fun ⟨⟨a, b⟩, c⟩ => ⟨⟨a, c⟩, b⟩, fun ⟨⟨a, c⟩, b⟩ => ⟨⟨a, b⟩, c⟩⟩
theorem VH_setR {h : Hv} (hv : VH h) {d : Nat} {q : Sp} (hd : d < h.rains.length) (hq : h.rains[d].1 ≤ q.1 ∧ q.1 ≤ q.2 ∧ q.2 ≤ h.rains[d].2) : VH (setR h d q) := by
  have hm := hv.rn _ (List.getElem_mem hd)
  refine ⟨hv.nh, by show 1 ≤ (h.rains.set d q).length ∧ (h.rains.set d q).length ≤ 6; rw [List.length_set]; exact hv.nr, hv.lim, hv.nl, hv.tf, fun s hs => ?_, hv.dr, fun l hl => ?_⟩
  · rcases List.mem_or_eq_of_mem_set hs with h1 | h1
    · exact hv.rn s h1
    · subst h1; omega
  · have := hv.lk l hl
    show _ ∧ (_ ∧ l.day < ((h.rains.set d q).length : Int)) ∧ _
    rw [List.length_set]
    exact this
/-- A rain that is known: what is returned of it, and whether there is a truth. -/
theorem rain_known {h : Hv} (hv : VH h) (h0 : toldL h ≠ []) {d : Nat} (hd : d < h.rains.length) {c : Int} (hc : h.rains[d].1 ≤ c ∧ c ≤ h.rains[d].2) :
    (toldL (setR h d (c, c)) ≠ [] → (rainS h d).1 ≤ c ∧ c ≤ (rainS h d).2 ∧ rainS (setR h d (c, c)) d = (c, c)) ∧ (c = (rainS h d).1 ∨ c = (rainS h d).2 → toldL (setR h d (c, c)) ≠ []) := by
  have hv' : VH (setR h d (c, c)) := VH_setR hv hd (by dsimp only; omega)
  have hd' : d < (setR h d (c, c)).rains.length := by show d < (h.rains.set d (c, c)).length; rw [List.length_set]; exact hd
  have hH := rainS_hull hv h0 hd
  have hlook : (setR h d (c, c)).looks = h.looks := rfl
  have hev : evL (setR h d (c, c)) = evL h := rfl
  constructor
  · intro h1
    have hH' := rainS_hull hv' h1 hd'
    have one : ∀ v, RainP (setR h d (c, c)) d v → v = c ∧ RainP h d v := by
      rintro v ⟨r, hr, hrv⟩
      rw [hev] at hr
      obtain ⟨h2, h3⟩ := (Tr_setR hd (by dsimp only; omega)).1 hr
      have := h3 v hrv
      dsimp only at this
      exact ⟨by omega, r, h2, hrv⟩
    have a1 := one _ hH'.1
    have a2 := one _ hH'.2.1
    have := hH.2.2 _ a1.2
    exact ⟨by omega, by omega, Prod.ext a1.1 a2.1⟩
  · intro h1
    have : RainP h d c := by rcases h1 with h1 | h1 <;> rw [h1]; exact hH.1; exact hH.2.1
    obtain ⟨r, hr, hrv⟩ := this
    rw [Ne, toldL_nil hv']
    intro hn
    refine hn ⟨r, ?_⟩
    rw [hev]
    refine (Tr_setR hd (by dsimp only; omega)).2 ⟨hr, fun v hv2 => ?_⟩
    rw [hrv] at hv2
    simp only [Option.some.injEq] at hv2
    subst hv2
    exact ⟨Int.le_refl _, Int.le_refl _⟩
end Go.Proofs.Ytlpahkmfjpjheaa
end

section
namespace Go.Proofs.Ytlpahkmfjpjheaa
open Go.RowKit
def addL (h : Hv) (l : Lk) : Hv := { h with looks := h.looks ++ [l] }
theorem evn_addL {h : Hv} {l : Lk} {i : Nat} {n : Int} {r : List Int} {d : Nat} : evn (addL h l) i n r d = evn h i n r d := rfl
/-- One look more, all of them: it, too, is right. -/
theorem One_addL {h : Hv} {l : Lk} {r : List Int} {i : Nat} {n : Int} : One (addL h l) (evL (addL h l)) r i n ↔ One h (evL h) r i n ∧ (l.heap = (i : Int) → l.lo ≤ evn h i n r l.day.toNat ∧ evn h i n r l.day.toNat ≤ l.hi) := by
  have hlk : (addL h l).looks = h.looks ++ [l] := rfl
  constructor
  · rintro ⟨h1, h2, h3⟩
    refine ⟨⟨h1, h2, fun j q hq _ hi => ?_⟩, fun hi => ?_⟩
    · have hj := (List.getElem?_eq_some_iff.1 hq).1
      exact h3 j q (by rw [hlk, List.getElem?_append_left hj]; exact hq) (evL_bit.2 (by rw [hlk, List.length_append]; omega)) hi
    · exact h3 h.looks.length l (by rw [hlk, List.getElem?_append_right (Nat.le_refl _)]; simp) (evL_bit.2 (by rw [hlk, List.length_append]; simp)) hi
  · rintro ⟨⟨h1, h2, h3⟩, h4⟩
    refine ⟨h1, h2, fun j q hq _ hi => ?_⟩
    rw [hlk] at hq
    by_cases hj : j < h.looks.length
    · rw [List.getElem?_append_left hj] at hq
      exact h3 j q hq (evL_bit.2 hj) hi
    · rw [List.getElem?_append_right (by omega)] at hq
      have he : q = l := by
        have := List.mem_of_getElem? hq
        simpa using this
      subst he
      exact h4 hi
theorem VH_addL {h : Hv} (hv : VH h) {l : Lk} (hn : h.looks.length < 5) (hl : (0 ≤ l.heap ∧ l.heap < h.heaps.length) ∧ (0 ≤ l.day ∧ l.day < h.rains.length) ∧ 0 ≤ l.lo ∧ l.lo ≤ l.hi ∧ l.hi ≤ 100) : VH (addL h l) := by
  refine ⟨hv.nh, hv.nr, hv.lim, ?_, hv.tf, hv.rn, hv.dr, fun q hq => ?_⟩
  · show (h.looks ++ [l]).length ≤ 5
    rw [List.length_append, List.length_singleton]; omega
  · rcases List.mem_append.1 hq with h1 | h1
    · exact hv.lk q h1
    · rw [List.mem_singleton] at h1; subst h1; exact hl
/-- A truth with the look more is one without it that shows what it shows. -/
theorem Tr_addL {h : Hv} {i d : Nat} (hi : i < h.heaps.length) {lo hi' : Int} {r : List Int} : Tr (addL h ⟨i, d, lo, hi'⟩) (evL (addL h ⟨i, d, lo, hi'⟩)) r ↔ Tr h (evL h) r ∧ ∃ n, One h (evL h) r i n ∧ lo ≤ evn h i n r d ∧ evn h i n r d ≤ hi' := by
  unfold Tr
  constructor
  · rintro ⟨h1, h2⟩
    obtain ⟨n, hn⟩ := h2 i hi
    have hn' := One_addL.1 hn
    refine ⟨⟨h1, fun k hk => ?_⟩, n, hn'.1, ?_⟩
    · obtain ⟨m, hm⟩ := h2 k hk
      exact ⟨m, (One_addL.1 hm).1⟩
    · have := hn'.2 rfl
      dsimp only at this
      rwa [Int.toNat_natCast] at this
  · rintro ⟨⟨h1, h2⟩, n, hn, hlo⟩
    refine ⟨h1, fun k hk => ?_⟩
    by_cases hki : k = i
    · subst hki
      exact ⟨n, One_addL.2 ⟨hn, fun _ => by dsimp only; rw [Int.toNat_natCast]; exact hlo⟩⟩
    · obtain ⟨m, hm⟩ := h2 k hk
      exact ⟨m, One_addL.2 ⟨hm, fun he => by dsimp only at he; omega⟩⟩
/-- A look that shows just one number: there is a truth just if the number can be; then it is it. -/
theorem look_known {h : Hv} (hv : VH h) (h0 : toldL h ≠ []) {i d : Nat} (hi : i < h.heaps.length) (hd : d < h.rains.length) (hn : h.looks.length < 5) {c : Int} (hc : 0 ≤ c ∧ c ≤ 100) :
    VH (addL h ⟨i, d, c, c⟩) ∧ (toldL (addL h ⟨i, d, c, c⟩) ≠ [] ↔ WetP h i d c) ∧ (toldL (addL h ⟨i, d, c, c⟩) ≠ [] → wetS (addL h ⟨i, d, c, c⟩) i d = (c, c)) := by
  have hv' : VH (addL h ⟨i, d, c, c⟩) := VH_addL hv hn ⟨⟨by dsimp only; omega, by dsimp only; omega⟩, ⟨by dsimp only; omega, by dsimp only; omega⟩, by dsimp only; omega, by dsimp only; omega, by dsimp only; omega⟩
  refine ⟨hv', ?_, fun h1 => ?_⟩
  · rw [Ne, toldL_nil hv', Classical.not_not]
    constructor
    · rintro ⟨r, hr⟩
      obtain ⟨h2, n, h3, h4, h5⟩ := (Tr_addL hi).1 hr
      exact ⟨r, h2, n, h3, by omega⟩
    · rintro ⟨r, h2, n, h3, h4⟩
      exact ⟨r, (Tr_addL hi).2 ⟨h2, n, h3, by omega, by omega⟩⟩
  · have hH := wetS_hull hv' h1 (i := i) (d := d) hi hd
    have one : ∀ v, WetP (addL h ⟨i, d, c, c⟩) i d v → v = c := by
      rintro v ⟨r, hr, n, hn, rfl⟩
      have := (One_addL.1 hn).2 rfl
      dsimp only at this
      rw [Int.toNat_natCast] at this
      rw [evn_addL]
      omega
    exact Prod.ext (one _ hH.1) (one _ hH.2.1)
end Go.Proofs.Ytlpahkmfjpjheaa
end
