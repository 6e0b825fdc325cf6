/- Package sod: how its functions leave. -/
import Derived.Test.YtkaadefndcbdnaaB3
namespace Go.Proofs.Ytkaadefndcbdnaa
open Go.RowKit
section
variable {P : Program} {r : Option Nat} {n N : Nat} {w0 : World} {L : Hp} {e : Env} {d : Option Nat} {ty : TypeId} {pos : String} {af : Array Edge} {g : Option (Nat × Bool)} {ops : Array Oper} {rest : List Oper} {Q : Post} {ds : List Deferred}
theorem OPS_deferA {x : Operand} {f : FuncId} {cc vs : List Value} {xs : List Operand} {ts : Array TypeId} (hx : ev e x = .func (.func f) #[] cc.toArray) (hv : xs.map (ev e) = vs)
    (h : OPS P none n N w0 ops rest Q e ({ target := .fn (.func f) cc.toArray, args := vs.toArray } :: ds) L) :
    OPS P none n N w0 ops (⟨none, .defer { callee := .value x, args := xs.toArray, argTypes := ts }, ty, pos, af, none⟩ :: rest) Q e ds L := by
  rintro a w hs rfl rfl hI
  subst hv
  unfold wpListIn
  rw [if_pos (show Region.wanted (⟨none, .defer { callee := .value x, args := xs.toArray, argTypes := ts }, ty, pos, af, none⟩ : Oper) (yielded ops a.tmps) = true from rfl)]
  refine ⟨fun f _ => FW_fn none f, ?_⟩
  have hx' : a.eval x = .func (.func f) #[] cc.toArray := by rw [eval_eq]; exact hx
  rw [show (FW none).round = none from rfl, Oper.semAt_none]
  have : (execOp a.eval ⟨none, .defer { callee := .value x, args := xs.toArray, argTypes := ts }, ty, pos, af, none⟩).run P w = .ok (.defer { target := .fn (.func f) cc.toArray, args := (xs.map (ev (envOf a))).toArray }) w := by
    simp [execOp, resolve, hx', Deferred.ofValue, eval_eq]
  rw [this]
  exact h { a with defers := { target := .fn (.func f) cc.toArray, args := (xs.map (ev (envOf a))).toArray } :: a.defers } w hs rfl rfl hI
theorem Val_neqNil0 {x : Operand} {t t' : TypeId} [hi : IfaceTy P t] (hx : ev e x = .nilIface) : Val P N w0 L e ⟨d, .binOp .neq t x (.const .nilIface) t', ty, pos, af, g⟩ (.bool false) := by
  intro w _
  have := run_neq_nil_nil_at w t hi.is
  have hy : ev e (.const .nilIface) = .nilIface := rfl
  simp [execOp, hx, hy, eqGuard, this]
theorem Val_neqNil1 {x : Operand} {t t' u : TypeId} {v : Value} [hi : IfaceTy P t] (hx : ev e x = .iface u v) : Val P N w0 L e ⟨d, .binOp .neq t x (.const .nilIface) t', ty, pos, af, g⟩ (.bool true) := by
  intro w _
  have := run_neq_iface_nil w t hi.is u v
  have hy : ev e (.const .nilIface) = .nilIface := rfl
  simp [execOp, hx, hy, eqGuard, this]
end
attribute [local irreducible] AnyO AnyB QAny QB EWalk AWalk Ev WP OPS QThen QBlock QScope QLoop QBody Val New Turn Tri Enters PostA Blk Ro
section
variable (N : Nat) (w0 : World)
theorem calls_ans0 {L : Hp} {w : World} (hI : Inv N w0 L w) (b : Nat) : CallsDIn Fence.wide 0 Try.prog 43 [.pointer (some ⟨b, 0, none⟩)].toArray .returning w fun x u' w' => u' = .returning ∧ ∃ L', Inv N w0 L' w' ∧ x = .returned (.tuple #[]) ∧ L' = L := by
  refine (callsD_rec2 (P := Try.prog) (RR := fun x L' => x = .returned (.tuple #[]) ∧ L' = L) Try.func43 rfl (n := 19) rfl (by simp) rfl rfl hI ?_).mono ?_
  · simp only [recV]
    repeat' (first | (refine GiP ?_; first | (refine Znh ?_) | (with_reducible refine Znl ?_)) | (refine GiW ?_; first | (refine Zsq fun K hK => ?_) | (refine ZrN 1 fun _ => ?_; refine Zv Zmv ?_; refine Zv (Val_neqNil0 rfl) ?_) | (refine ZrN 2 fun _ => ?_; refine Zv Zmv ?_; refine Zv (Val_typeAssert rfl) ?_; refine Zv Zmv ?_; refine Zv Zxex ?_; refine Zv Zxex ?_; refine Zv Zai ?_; refine Zv Zab ?_) | (refine ZrN 3 fun _ => ?_; refine Zv Zmb ?_; refine Zv Zxnot ?_) | (refine ZrN 4 fun _ => ?_; refine Zv Zmv ?_; refine OPS_panicV rfl rfl ?_) | (refine ZrN 5 fun _ => ?_; refine Zv Zmv ?_; refine Zv Zmi ?_; (first | (refine Zv Zxnp ?_) | (refine Zv Zxnf ?_)); refine Zst ?_) | (refine WP_cond_true rfl ?_) | (refine WP_cond_false rfl ?_) | (refine Zcd (fun hc => ?_) (fun hc => ?_) <;> (try (exfalso; omega))) | (with_reducible apply WP_skip)) | (refine Zhn ?_) | (refine Zhp ?_))
    exact QBody_end0 rfl ⟨rfl, rfl⟩
  · rintro x u' w' ⟨h1, h2⟩
    exact ⟨h1, h2⟩
theorem calls_ans1 {L L' : Hp} {w : World} (hI : Inv N w0 L w) (b : Nat) (k k0 : Int) (hu : Up L b (Blk 31 [.int .i64 k0]) (Blk 31 [.int .i64 k]) L') : CallsDIn Fence.wide 0 Try.prog 43 [.pointer (some ⟨b, 0, none⟩)].toArray (.panicking (refE k)) w fun x u' w' => u' = .panicking [{ v := .iface 124 (.int .i64 k), recovered := true }] ∧ ∃ L'', Inv N w0 L'' w' ∧ x = .returned (.tuple #[]) ∧ L'' = L' := by
  refine (callsD_rec2 (P := Try.prog) (RR := fun x L'' => x = .returned (.tuple #[]) ∧ L'' = L') Try.func43 rfl (n := 19) rfl (by simp) rfl rfl hI ?_).mono ?_
  · simp only [recV, refE]
    repeat' (first | (refine GiP ?_; first | (refine Znh ?_) | (with_reducible refine Znl ?_)) | (refine GiW ?_; first | (refine Zsq fun K hK => ?_) | (refine ZrN 1 fun _ => ?_; refine Zv Zmv ?_; refine Zv (Val_neqNil1 rfl) ?_) | (refine ZrN 2 fun _ => ?_; refine Zv Zmv ?_; refine Zv (Val_typeAssert rfl) ?_; refine Zv Zmv ?_; refine Zv Zxex ?_; refine Zv Zxex ?_; refine Zv Zai ?_; refine Zv Zab ?_) | (refine ZrN 3 fun _ => ?_; refine Zv Zmb ?_; refine Zv Zxnot ?_) | (refine ZrN 4 fun _ => ?_; refine Zv Zmv ?_; refine OPS_panicV rfl rfl ?_) | (refine ZrN 5 fun _ => ?_; refine Zv Zmv ?_; refine Zv Zmi ?_; (first | (refine Zv Zxnp ?_) | (refine Zv Zxnf ?_)); (first | (refine Zst ?_) | (refine OPS_turnN (Turn_store rfl (rfl : _ = Value.int _ _) hu rfl (by repeat (first | exact Over.nil | apply Over.cons | apply PutAt.there | apply PutAt.here)) rfl rfl) rfl rfl ?_))) | (refine WP_cond_true rfl ?_) | (refine WP_cond_false rfl ?_) | (refine Zcd (fun hc => ?_) (fun hc => ?_) <;> (try (exfalso; omega))) | (with_reducible apply WP_skip)) | (refine Zhn ?_) | (refine Zhp ?_))
    exact QBody_end0 rfl ⟨rfl, rfl⟩
  · rintro x u' w' ⟨h1, h2⟩
    exact ⟨h1, h2⟩
theorem Lv_ans0 {fn : Func} {R : Ending → Hp → Prop} {e : Env} {L : Hp} {ds : List Deferred} {b : Nat} (h : Lv Try.prog fn N w0 R e ds .returning L) :
    Lv Try.prog fn N w0 R e ({ target := .fn (.func 43) [].toArray, args := [.pointer (some ⟨b, 0, none⟩)].toArray } :: ds) .returning L := by
  refine ⟨by simp, .inr ⟨43, _, _, rfl, fun a w => run_callFunc a w, fun w hI => ?_⟩⟩
  refine (calls_ans0 N w0 hI b).mono ?_
  rintro x u' w' ⟨rfl, L'', hI', rfl, rfl⟩
  exact ⟨_, _, rfl, hI', h⟩
theorem Lv_ans1 {fn : Func} {R : Ending → Hp → Prop} {e : Env} {L L' : Hp} {ds : List Deferred} {b : Nat} {k k0 : Int} (hu : Up L b (Blk 31 [.int .i64 k0]) (Blk 31 [.int .i64 k]) L') (h : Lv Try.prog fn N w0 R e ds .returning L') :
    Lv Try.prog fn N w0 R e ({ target := .fn (.func 43) [].toArray, args := [.pointer (some ⟨b, 0, none⟩)].toArray } :: ds) (.panicking (refE k)) L := by
  refine ⟨by simp, .inr ⟨43, _, _, rfl, fun a w => run_callFunc a w, fun w hI => ?_⟩⟩
  refine (calls_ans1 N w0 hI b k k0 hu).mono ?_
  rintro x u' w' ⟨rfl, L'', hI', rfl, rfl⟩
  exact ⟨_, _, rfl, hI', h⟩
end
end Go.Proofs.Ytkaadefndcbdnaa
