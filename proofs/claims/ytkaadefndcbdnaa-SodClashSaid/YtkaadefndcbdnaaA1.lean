/- Package sod: its small functions. -/
import Derived.Test.YtkaadefndcbdnaaTypes
import Derived.Test.YtkaadefndcbdnaaSl
import Derived.Test.YtkaadefndcbdnaaQb
namespace Go.Proofs.Ytkaadefndcbdnaa
open Go.RowKit
def spL (s : Sp) : List Value := [.int .i64 s.1, .int .i64 s.2]
def spV (s : Sp) : Value := .agg (spL s).toArray
def sptL (t : Spt) : List Value := [.int .i64 t.sods, .int .i64 t.lo, .int .i64 t.hi]
def lgL (l : Lg) : List Value := [.int .i64 l.day, .int .i64 l.lo, .int .i64 l.hi]
attribute [local irreducible] AnyO AnyB QAny QB EWalk AWalk Ev WP OPS QThen QBlock QScope QLoop QBody Val New Turn Tri Enters PostA Blk Ro
def within (n l h : Int) : Bool := decide (l ≤ n) && decide (n ≤ h)
def isSpanB (s : Sp) (lo hi : Int) : Bool := decide (lo ≤ s.1 ∧ s.1 ≤ s.2 ∧ s.2 ≤ hi)
def sm (n : Int) : Prop := -100000000 ≤ n ∧ n ≤ 100000000
section
variable (N : Nat) (w0 : World) (L : Hp)
theorem within_ret (n l h : Int) : Ret Try.prog N w0 L 91 [.int .i64 n, .int .i64 l, .int .i64 h].toArray (.bool (within n l h)) := by
  refine tri_of_WP Try.func91 rfl (n := _) rfl (by simp) ?_
  repeat' (first | (refine GiP ?_; first | (refine Znh ?_) | (with_reducible refine Znl ?_) | (refine Zatd 14 ?_; (first | (refine Zv Zxpt ?_) | (refine Zv Zxpf ?_)); refine Zv Zab ?_) | (refine Zatd 11 ?_; refine Zv Zmi ?_) | (refine Zatd 12 ?_; refine Zv Zmi ?_) | (refine Zatd 13 ?_; refine Zv Zxleq ?_) | (refine Zsk ?_) | (refine Zsp (fun hc => ?_) (fun hc => ?_) <;> (try (exfalso; omega)))) | (refine GiW ?_; first | (refine Zsq fun K hK => ?_) | (refine ZrN 0 fun _ => ?_; refine Zv Zab ?_) | (refine ZrG 1 ?_; refine Zv Zmi ?_; refine Zv Zmi ?_; refine Zv Zxleq ?_; refine Zv Zmb ?_) | (with_reducible apply WP_ret)) | (refine Zhn ?_) | (refine Zhr ?_))
  · refine QBody_ret1 rfl (rfl : _ = Value.bool _) ⟨?_, rfl⟩
    simp [within, hc]
  · refine QBody_ret1 rfl (rfl : _ = Value.bool _) ⟨?_, rfl⟩
    simp [within, hc]
theorem isSpan_ret (s : Sp) (lo hi : Int) : Ret Try.prog N w0 L 92 [.agg [.int .i64 s.1, .int .i64 s.2].toArray, .int .i64 lo, .int .i64 hi].toArray (.bool (isSpanB s lo hi)) := by
  refine Ret.fgt ?_
  refine tri_of_WP Try.func92 rfl (n := _) rfl (by simp) ?_
  repeat' (first | (refine GiP ?_; first | (refine Znh ?_) | (with_reducible refine Znl ?_) | (refine Zatd 17 ?_; (first | (refine Zv Zxpt ?_) | (refine Zv Zxpf ?_)); refine Zv Zmb ?_) | (refine Zatd 23 ?_; (first | (refine Zv Zxpt ?_) | (refine Zv Zxpf ?_)); refine Zv Zab ?_) | (refine Zatd 12 ?_; refine Zv Zf0 ?_) | (refine Zatd 13 ?_; refine Zv Zld ?_) | (refine Zatd 14 ?_; refine Zv Zfa ?_) | (refine Zatd 15 ?_; refine Zv Zld ?_) | (refine Zatd 16 ?_; refine Zv Zxleq ?_) | (refine Zatd 19 ?_; refine Zv Zfa ?_) | (refine Zatd 20 ?_; refine Zv Zld ?_) | (refine Zatd 21 ?_; refine Zv Zmi ?_) | (refine Zatd 22 ?_; refine Zv Zxleq ?_) | (refine Zsk ?_) | (refine Zsp (fun hc => ?_) (fun hc => ?_) <;> (try (exfalso; omega)))) | (refine GiW ?_; first | (refine Zsq fun K hK => ?_) | (refine ZrN 0 fun _ => ?_; refine Zal 3 fun b3 => ?_; refine Zv Zab ?_) | (refine ZrG 1 ?_; refine Zv Zmi ?_; refine Zv Zf0 ?_; refine Zv Zld ?_; refine Zv Zxleq ?_; refine Zv Zmb ?_) | (with_reducible apply WP_ret)) | (refine Zhn ?_) | (refine Zhr ?_))
  all_goals (refine QBody_ret1 rfl (rfl : _ = Value.bool _) ⟨?_, (by repeat (first | exact Wk.refl _ | apply Wk.keep1 | apply Wk.drop | apply Wk.sv | apply Wk.svD | apply Wk.appD))⟩; simp [isSpanB, *])
theorem isCount_ret (s : Sp) : Ret Try.prog N w0 L 64 [.agg [.int .i64 s.1, .int .i64 s.2].toArray].toArray (.bool (isSpanB s 0 200)) := by
  refine Ret.fgt ?_
  refine tri_of_WP Try.func64 rfl (n := _) rfl (by simp) ?_
  repeat' (first | (refine GiP ?_; first | (refine Znh ?_) | (with_reducible refine Znl ?_)) | (refine GiW ?_; first | (refine Zsq fun K hK => ?_) | (refine ZrN 0 fun _ => ?_; refine Zal 1 fun b1 => ?_; refine Zv Zab ?_) | (refine ZrN 1 fun _ => ?_; refine Zv Zla ?_; refine Zcl (Enters_fn rfl) (isSpan_ret N w0 _ s _ _) ?_; refine Zv Zab ?_) | (with_reducible apply WP_ret)) | (refine Zhn ?_) | (refine Zhr ?_))
  exact QBody_ret1 rfl (rfl : _ = Value.bool _) ⟨rfl, (by repeat (first | exact Wk.refl _ | apply Wk.keep1 | apply Wk.drop | apply Wk.sv | apply Wk.svD | apply Wk.appD))⟩
theorem ask_ok (e : Int) : Ret Try.prog N w0 L 82 [.bool true, .int .i64 e].toArray (.tuple #[]) := by
  refine tri_of_WP Try.func82 rfl (n := _) rfl (by simp) ?_
  repeat' (first | (refine GiP ?_; first | (refine Znh ?_) | (with_reducible refine Znl ?_)) | (refine GiW ?_; first | (refine Zsq fun K hK => ?_) | (refine ZrN 0 fun _ => ?_; refine Zv Zmb ?_; refine Zv Zxnot ?_) | (refine ZrN 1 fun _ => ?_; refine Zv Zmi ?_; refine Zv Zxmi ?_; refine OPS_panicV rfl rfl ?_) | (refine WP_cond_true rfl ?_) | (refine WP_cond_false rfl ?_) | (refine Zcd (fun hc => ?_) (fun hc => ?_) <;> (try (exfalso; omega))) | (with_reducible apply WP_skip)) | (refine Zhn ?_) | (refine Zhp ?_))
  exact QBody_end0 rfl ⟨rfl, rfl⟩
def refE (e : Int) : List PanicEntry := [{ v := .iface 124 (.int .i64 e), recovered := false }]
theorem ask_no (e : Int) : Tri Try.prog N w0 L 82 [.bool false, .int .i64 e].toArray fun x L' => x = .panicked (refE e) ∧ L' = L := by
  refine tri_of_WP Try.func82 rfl (n := _) rfl (by simp) ?_
  repeat' (first | (refine GiP ?_; first | (refine Znh ?_) | (with_reducible refine Znl ?_)) | (refine GiW ?_; first | (refine Zsq fun K hK => ?_) | (refine ZrN 0 fun _ => ?_; refine Zv Zmb ?_; refine Zv Zxnot ?_) | (refine ZrN 1 fun _ => ?_; refine Zv Zmi ?_; refine Zv Zxmi ?_; refine OPS_panicV rfl rfl ?_) | (refine WP_cond_true rfl ?_) | (refine WP_cond_false rfl ?_) | (refine Zcd (fun hc => ?_) (fun hc => ?_) <;> (try (exfalso; omega))) | (with_reducible apply WP_skip)) | (refine Zhn ?_) | (refine Zhp ?_))
  exact QBody_panic ⟨rfl, rfl⟩
theorem some_ret (m : Sp) : Ret Try.prog N w0 L 112 [.agg [.int .i64 m.1, .int .i64 m.2].toArray].toArray (.bool (decide (m.1 ≤ m.2))) := by
  refine Ret.fgt ?_
  refine tri_of_WP Try.func112 rfl (n := _) rfl (by simp) ?_
  repeat' (first | (refine GiP ?_; first | (refine Znh ?_) | (with_reducible refine Znl ?_)) | (refine GiW ?_; first | (refine Zsq fun K hK => ?_) | (refine ZrN 0 fun _ => ?_; refine Zal 1 fun b1 => ?_; refine Zv Zab ?_) | (refine ZrN 1 fun _ => ?_; refine Zv Zf0 ?_; refine Zv Zf0 ?_; refine Zv Zld ?_; refine Zv Zf0 ?_; refine Zv Zfa ?_; refine Zv Zld ?_; refine Zv Zxleq ?_; refine Zv Zab ?_) | (with_reducible apply WP_ret)) | (refine Zhn ?_) | (refine Zhr ?_))
  exact QBody_ret1 rfl (rfl : _ = Value.bool _) ⟨rfl, (by repeat (first | exact Wk.refl _ | apply Wk.keep1 | apply Wk.drop | apply Wk.sv | apply Wk.svD | apply Wk.appD))⟩
theorem later_ret (m x : Sp) (h1 : sm m.1) (h2 : sm m.2) (h3 : sm x.1) (h4 : sm x.2) : Ret Try.prog N w0 L 110 [.agg [.int .i64 m.1, .int .i64 m.2].toArray, .agg [.int .i64 x.1, .int .i64 x.2].toArray].toArray (.agg [.int .i64 (m.1 + x.1), .int .i64 (m.2 + x.2)].toArray) := by
  unfold sm at *
  refine Ret.fgt ?_
  refine tri_of_WP Try.func110 rfl (n := _) rfl (by simp) ?_
  repeat' (first | (refine GiP ?_; first | (refine Znh ?_) | (with_reducible refine Znl ?_)) | (refine GiW ?_; first | (refine Zsq fun K hK => ?_) | (refine ZrN 0 fun _ => ?_; refine Zal 2 fun b2 => ?_; refine Zal 3 fun b3 => ?_; refine Zal 4 fun b4 => ?_) | (refine ZrN 1 fun _ => ?_; refine Zv Zf0 ?_; refine Zv Zf0 ?_; refine Zv Zld ?_; refine Zv Zf0 ?_; refine Zv Zld ?_; refine Zv Zxadd ?_; refine Zv Zf0 ?_; refine Zv Zfa ?_; refine Zv Zld ?_; refine Zv Zfa ?_; refine Zv Zld ?_; refine Zv Zxadd ?_; refine Zv Zxbu ?_; refine Zv Zxbu ?_; refine Zst ?_) | (with_reducible apply WP_ret)) | (refine Zhn ?_) | (refine Zhr ?_))
  exact QBody_res rfl (.cellN rfl (by repeat (first | exact Mem.here | assumption | apply Mem.there | apply Mem.sv | apply Mem.app)) (.here (.cons (.cons .nil))) .nil) rfl ⟨rfl, (by repeat (first | exact Wk.refl _ | apply Wk.keep1 | apply Wk.drop | apply Wk.sv | apply Wk.svD | apply Wk.appD))⟩
theorem earlier_ret (m x : Sp) (h1 : sm m.1) (h2 : sm m.2) (h3 : sm x.1) (h4 : sm x.2) : Ret Try.prog N w0 L 113 [.agg [.int .i64 m.1, .int .i64 m.2].toArray, .agg [.int .i64 x.1, .int .i64 x.2].toArray].toArray (.agg [.int .i64 (m.1 - x.2), .int .i64 (m.2 - x.1)].toArray) := by
  unfold sm at *
  refine Ret.fgt ?_
  refine tri_of_WP Try.func113 rfl (n := _) rfl (by simp) ?_
  repeat' (first | (refine GiP ?_; first | (refine Znh ?_) | (with_reducible refine Znl ?_)) | (refine GiW ?_; first | (refine Zsq fun K hK => ?_) | (refine ZrN 0 fun _ => ?_; refine Zal 2 fun b2 => ?_; refine Zal 3 fun b3 => ?_; refine Zal 4 fun b4 => ?_) | (refine ZrN 1 fun _ => ?_; refine Zv Zf0 ?_; refine Zv Zf0 ?_; refine Zv Zld ?_; refine Zv Zfa ?_; refine Zv Zld ?_; refine Zv Zxsub ?_; refine Zv Zf0 ?_; refine Zv Zfa ?_; refine Zv Zld ?_; refine Zv Zf0 ?_; refine Zv Zld ?_; refine Zv Zxsub ?_; refine Zv Zxbu ?_; refine Zv Zxbu ?_; refine Zst ?_) | (with_reducible apply WP_ret)) | (refine Zhn ?_) | (refine Zhr ?_))
  exact QBody_res rfl (.cellN rfl (by repeat (first | exact Mem.here | assumption | apply Mem.there | apply Mem.sv | apply Mem.app)) (.here (.cons (.cons .nil))) .nil) rfl ⟨rfl, (by repeat (first | exact Wk.refl _ | apply Wk.keep1 | apply Wk.drop | apply Wk.sv | apply Wk.svD | apply Wk.appD))⟩
theorem dayOf_ret (m : Sp) (F : Value) (c : Value) : Ret Try.prog N w0 L 139 [.agg [.int .i64 m.1, .int .i64 m.2].toArray, F, c].toArray (.agg [.int .i64 m.1, .int .i64 m.2].toArray) := by
  refine Ret.fgt ?_
  refine tri_of_WP Try.func139 rfl (n := _) rfl (by simp) ?_
  repeat' (first | (refine GiP ?_; first | (refine Znh ?_) | (with_reducible refine Znl ?_)) | (refine GiW ?_; first | (refine Zsq fun K hK => ?_) | (refine ZrN 0 fun _ => ?_; refine Zal 3 fun b3 => ?_; refine Zal 5 fun b5 => ?_; refine Zal 6 fun b6 => ?_) | (refine ZrN 1 fun _ => ?_; refine Zv Zf0 ?_; refine Zv Zla ?_; refine Zst ?_) | (with_reducible apply WP_ret)) | (refine Zhn ?_) | (refine Zhr ?_))
  exact QBody_res rfl (.cellN rfl (by repeat (first | exact Mem.here | assumption | apply Mem.there | apply Mem.sv | apply Mem.app)) (.here (.cons (.cons .nil))) .nil) rfl ⟨rfl, (by repeat (first | exact Wk.refl _ | apply Wk.keep1 | apply Wk.drop | apply Wk.sv | apply Wk.svD | apply Wk.appD))⟩
end
end Go.Proofs.Ytkaadefndcbdnaa
