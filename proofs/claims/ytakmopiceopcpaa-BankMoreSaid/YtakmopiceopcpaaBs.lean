/- Package bank: its small functions; how its functions leave. -/
import Derived.Test.YtakmopiceopcpaaTypes
import Derived.Test.YtakmopiceopcpaaSl
import Derived.Test.YtakmopiceopcpaaQc
import Derived.Test.YtakmopiceopcpaaRe
section
namespace Go.Proofs.Ytakmopiceopcpaa
open Go.RowKit
def spL (s : Sp) : List Value := [.int .i64 s.1, .int .i64 s.2]
def ints (l : List Int) : List Value := l.map (.int .i64)
attribute [local irreducible] AnyO AnyB QAny QB EWalk AWalk Ev WP OPS QThen QBlock QScope QLoop QBody Val New Turn Tri Enters PostA Blk Ro
def within (n l h : Int) : Bool := decide (l ≤ n) && decide (n ≤ h)
def sm (n : Int) : Prop := -100000000 ≤ n ∧ n ≤ 100000000
section
variable (N : Nat) (w0 : World) (L : Hp)
theorem within_ret (n l h : Int) : Ret Try.prog N w0 L 71 [.int .i64 n, .int .i64 l, .int .i64 h].toArray (.bool (within n l h)) := by
  refine tri_of_WP Try.func71 rfl (n := _) rfl (by simp) ?_
  repeat' (first | (refine GiP ?_; first | (refine Znh ?_) | (with_reducible refine Znl ?_) | (refine Zatd 14 ?_; (first | (refine Zv Zxpt ?_) | (refine Zv Zxpf ?_)); refine Zv Zab ?_) | (refine Zatd 11 ?_; first | refine Zsk ?_ | (refine Zv Zmi ?_)) | (refine Zatd 12 ?_; first | refine Zsk ?_ | (refine Zv Zmi ?_)) | (refine Zatd 13 ?_; first | refine Zsk ?_ | (refine Zv Zxleq ?_)) | (refine Zsk ?_) | (refine Zsp (fun hc => ?_) (fun hc => ?_) <;> (try (exfalso; omega)))) | (refine GiW ?_; first | (refine Zsq fun K hK => ?_) | (refine ZrN 0 fun _ => ?_; refine Zv Zab ?_) | (refine ZrG 1 ?_; refine Zv Zmi ?_; refine Zv Zmi ?_; refine Zv Zxleq ?_; refine Zv Zmb ?_) | (with_reducible apply WP_ret)) | (refine Zhn ?_) | (refine Zhr ?_))
  · refine QBody_ret1 rfl (rfl : _ = Value.bool _) ⟨?_, rfl⟩
    simp [within, hc]
  · refine QBody_ret1 rfl (rfl : _ = Value.bool _) ⟨?_, rfl⟩
    simp [within, hc]
theorem must_ok (e : Int) : Ret Try.prog N w0 L 88 [.bool true, .int .i64 e].toArray (.tuple #[]) := by
  refine tri_of_WP Try.func88 rfl (n := _) rfl (by simp) ?_
  repeat' (first | (refine GiP ?_; first | (refine Znh ?_) | (with_reducible refine Znl ?_)) | (refine GiW ?_; first | (refine Zsq fun K hK => ?_) | (refine ZrN 0 fun _ => ?_; refine Zv Zmb ?_; refine Zv Zxnot ?_) | (refine ZrN 1 fun _ => ?_; refine Zv Zmi ?_; refine Zv Zxbu ?_; refine Zv Zxmi ?_; refine OPS_panicV rfl rfl ?_) | (refine WP_cond_true rfl ?_) | (refine WP_cond_false rfl ?_) | (refine Zcd (fun hc => ?_) (fun hc => ?_) <;> (try (exfalso; omega))) | (with_reducible apply WP_skip)) | (refine Zhn ?_) | (refine Zhp ?_))
  exact QBody_end0 rfl ⟨rfl, rfl⟩
def stopE (e : Int) : List PanicEntry := [{ v := .iface 114 (.agg #[.int .i64 e]), recovered := false }]
theorem must_no (e : Int) : Tri Try.prog N w0 L 88 [.bool false, .int .i64 e].toArray fun x L' => x = .panicked (stopE e) ∧ L' = L := by
  refine tri_of_WP Try.func88 rfl (n := _) rfl (by simp) ?_
  repeat' (first | (refine GiP ?_; first | (refine Znh ?_) | (with_reducible refine Znl ?_)) | (refine GiW ?_; first | (refine Zsq fun K hK => ?_) | (refine ZrN 0 fun _ => ?_; refine Zv Zmb ?_; refine Zv Zxnot ?_) | (refine ZrN 1 fun _ => ?_; refine Zv Zmi ?_; refine Zv Zxbu ?_; refine Zv Zxmi ?_; refine OPS_panicV rfl rfl ?_) | (refine WP_cond_true rfl ?_) | (refine WP_cond_false rfl ?_) | (refine Zcd (fun hc => ?_) (fun hc => ?_) <;> (try (exfalso; omega))) | (with_reducible apply WP_skip)) | (refine Zhn ?_) | (refine Zhp ?_))
  exact QBody_panic ⟨rfl, rfl⟩
theorem stopped_nil (b : Nat) : Ret Try.prog N w0 L 50 [.nilIface, .pointer (some ⟨b, 0, none⟩)].toArray (.tuple #[]) := by
  refine tri_of_WP Try.func50 rfl (n := _) rfl (by simp) ?_
  repeat' (first | (refine GiP ?_; first | (refine Znh ?_) | (with_reducible refine Znl ?_)) | (refine GiW ?_; first | (refine Zsq fun K hK => ?_) | (refine ZrN 0 fun _ => ?_; refine Zv Zmv ?_; (first | (refine Zv (Val_eqlNil0 rfl) ?_) | (refine Zv (Val_eqlNil1 rfl) ?_))) | (refine ZrN 1 fun _ => ?_; refine Zv Zmv ?_; refine Zv (Val_typeAssert rfl) ?_; refine Zv Zmv ?_; refine Zv Zxex ?_; refine Zv Zxex ?_; refine Zal 4 fun b4 => ?_; refine Zst ?_; refine Zv Zab ?_) | (refine ZrN 2 fun _ => ?_; refine Zv Zmb ?_; refine Zv Zxnot ?_) | (refine ZrN 3 fun _ => ?_; refine Zv Zmv ?_; refine OPS_panicV rfl rfl ?_) | (refine ZrN 4 fun _ => ?_; refine Zv Zmv ?_; refine Zv Zf0 ?_; refine Zv Zld ?_; (first | (refine Zv Zxnp ?_) | (refine Zv Zxnf ?_)); refine Zst ?_) | (refine WP_cond_true rfl ?_) | (refine WP_cond_false rfl ?_) | (refine Zcd (fun hc => ?_) (fun hc => ?_) <;> (try (exfalso; omega))) | (with_reducible apply WP_skip) | (with_reducible apply WP_ret)) | (refine Zhn ?_) | (refine Zhr ?_) | (refine Zhp ?_))
  exact QBody_ret0 rfl ⟨rfl, rfl⟩
theorem stopped_up (L' : Hp) (b : Nat) (k k0 : Int) (hu : Up L b (Blk 28 [.int .i64 k0]) (Blk 28 [.int .i64 k]) L') : Tri Try.prog N w0 L 50 [.iface 114 (.agg #[.int .i64 k]), .pointer (some ⟨b, 0, none⟩)].toArray fun x L'' => x = .returned (.tuple #[]) ∧ L'' = L' := by
  refine Tri.fgt ?_
  refine tri_of_WP Try.func50 rfl (n := _) rfl (by simp) ?_
  repeat' (first | (refine GiP ?_; first | (refine Znh ?_) | (with_reducible refine Znl ?_)) | (refine GiW ?_; first | (refine Zsq fun K hK => ?_) | (refine ZrN 0 fun _ => ?_; refine Zv Zmv ?_; (first | (refine Zv (Val_eqlNil0 rfl) ?_) | (refine Zv (Val_eqlNil1 rfl) ?_))) | (refine ZrN 1 fun _ => ?_; refine Zv Zmv ?_; refine Zv (Val_typeAssert rfl) ?_; refine Zv Zmv ?_; refine Zv Zxex ?_; refine Zv Zxex ?_; refine Zal 4 fun b4 => ?_; refine OPS_turnN (Turn_store rfl (by first | exact (rfl : _ = Value.int _ _) | exact (rfl : _ = Value.agg _)) (by first | exact Up.here | exact Up.there hu) (by rfl) (by repeat (first | exact Over.nil | apply Over.cons | apply PutAt.there | apply PutAt.here)) (by rfl) (by rfl)) rfl rfl ?_; refine Zv Zab ?_) | (refine ZrN 2 fun _ => ?_; refine Zv Zmb ?_; refine Zv Zxnot ?_) | (refine ZrN 3 fun _ => ?_; refine Zv Zmv ?_; refine OPS_panicV rfl rfl ?_) | (refine ZrN 4 fun _ => ?_; refine Zv Zmv ?_; refine Zv Zf0 ?_; refine Zv Zld ?_; (first | (refine Zv Zxnp ?_) | (refine Zv Zxnf ?_)); refine OPS_turnN (Turn_store rfl (by first | exact (rfl : _ = Value.int _ _) | exact (rfl : _ = Value.agg _)) (by first | exact Up.here | exact Up.there hu) (by rfl) (by repeat (first | exact Over.nil | apply Over.cons | apply PutAt.there | apply PutAt.here)) (by rfl) (by rfl)) rfl rfl ?_) | (refine WP_cond_true rfl ?_) | (refine WP_cond_false rfl ?_) | (refine Zcd (fun hc => ?_) (fun hc => ?_) <;> (try (exfalso; omega))) | (with_reducible apply WP_skip) | (with_reducible apply WP_ret)) | (refine Zhn ?_) | (refine Zhr ?_) | (refine Zhp ?_))
  exact QBody_end0 rfl ⟨L', (by repeat (first | exact Wk.refl _ | apply Wk.keep1 | apply Wk.drop | apply Wk.sv | apply Wk.svD | apply Wk.appD)), rfl, rfl⟩
end
section
variable {r : Option Nat} {n N : Nat} {w0 : World} {L : Hp} {e : Env} {d : Nat} {op : Op} {ty : TypeId} {pos : String} {af : Array Edge} {g : Option (Nat × Bool)} {ops : Array Oper} {rest : List Oper} {Q : Post} {ds : List Deferred}
/-- What must be: it goes on, or all ends. -/
theorem OPS_must {b : Bool} {k : Int} (hv : Enters Try.prog e ⟨some d, op, ty, pos, af, g⟩ 88 [.bool b, .int .i64 k].toArray) (hg : Region.wanted ⟨some d, op, ty, pos, af, g⟩ (yieldE ops e) = true) (hnd : isDefer op = false) (hd : Nat.blt d n = true)
    (h1 : b = true → OPS Try.prog r n N w0 ops rest Q (upd e d (.tuple #[])) ds L) (h0 : b = false → Q (.panic (stopE k)) e ds L) : OPS Try.prog r n N w0 ops (⟨some d, op, ty, pos, af, g⟩ :: rest) Q e ds L := by
  cases b with
  | true => exact OPS_retS hv (must_ok N w0 L k) hg hnd hd (h1 rfl)
  | false => exact OPS_pan hv (must_no N w0 L k) hg hnd (h0 rfl)
end
section
variable (N : Nat) (w0 : World)
/-- The functions that are deferred here. -/
structure Stops (f : FuncId) (fn0 : Func) : Prop where
  fn : Try.prog.funcs[f]? = some fn0
  body : ∃ id pos af pos' af', fn0.body = some (.region id (⟨some 1, .call { callee := .builtin .recover, args := #[], argTypes := #[] }, 20, pos, af, none⟩ :: [⟨some 2, .call { callee := .value (.func 50), args := [Operand.tmp 1, .tmp 0].toArray, argTypes := #[20, 69] }, 0, pos', af', none⟩]).toArray false)
  tmps : fn0.ntmps = 3
  res : fn0.results = #[]
theorem calls_stop {f : FuncId} {fn0 : Func} (hS : Stops f fn0) {L L' : Hp} {b : Nat} {u : FrameMode} {w : World} (hI : Inv N w0 L w) (h : Tri Try.prog N w0 L 50 [(recV u).1, .pointer (some ⟨b, 0, none⟩)].toArray fun x L'' => x = .returned (.tuple #[]) ∧ L'' = L') :
    CallsDIn Fence.wide 0 Try.prog f [.pointer (some ⟨b, 0, none⟩)].toArray u w fun x u' w' => u' = (recV u).2 ∧ ∃ L'', Inv N w0 L'' w' ∧ x = .returned (.tuple #[]) ∧ L'' = L' := by
  obtain ⟨id, pos, af, pos', af', hb⟩ := hS.body
  refine callsD_rec (P := Try.prog) (RR := fun x L'' => x = .returned (.tuple #[]) ∧ L'' = L') hS.fn hb (n := 3) hS.tmps (by simp) rfl hI ?_
  intro ops
  refine OPS_retKS (K := fun v L'' => v = .tuple #[] ∧ L'' = L') (Enters_fn rfl) (h.mono fun x L'' ⟨h1, h2⟩ => ⟨_, h1, rfl, h2⟩) rfl rfl rfl (fun v2 L2 h2 => ?_)
  obtain ⟨rfl, rfl⟩ := h2
  (with_reducible apply OPS_nil)
  exact QBody_end0 hS.res ⟨rfl, rfl⟩
theorem Lv_stop0 {f : FuncId} [HasBody Try.prog f] {fn0 fn : Func} (hS : Stops f fn0) {R : Ending → Hp → Prop} {e : Env} {L : Hp} {ds : List Deferred} {b : Nat} (h : Lv Try.prog fn N w0 R e ds .returning L) :
    Lv Try.prog fn N w0 R e ({ target := .fn (.func f) [.pointer (some ⟨b, 0, none⟩)].toArray, args := #[] } :: ds) .returning L := by
  refine ⟨by simp, .inr ⟨f, _, rfl, fun a w => run_callFunc a w, fun w hI => ?_⟩⟩
  refine (calls_stop (b := b) N w0 hS (u := .returning) hI (L' := L) ?_).mono ?_
  · exact (stopped_nil N w0 L b).mono fun x L'' ⟨h1, h2⟩ => ⟨h1, h2⟩
  · rintro x u' w' ⟨rfl, L'', hI', rfl, rfl⟩
    exact ⟨_, _, rfl, hI', h⟩
theorem Lv_stop1 {f : FuncId} [HasBody Try.prog f] {fn0 fn : Func} (hS : Stops f fn0) {R : Ending → Hp → Prop} {e : Env} {L L' : Hp} {ds : List Deferred} {b : Nat} {k k0 : Int} (hu : Up L b (Blk 28 [.int .i64 k0]) (Blk 28 [.int .i64 k]) L') (h : Lv Try.prog fn N w0 R e ds .returning L') :
    Lv Try.prog fn N w0 R e ({ target := .fn (.func f) [.pointer (some ⟨b, 0, none⟩)].toArray, args := #[] } :: ds) (.panicking (stopE k)) L := by
  refine ⟨by simp, .inr ⟨f, _, rfl, fun a w => run_callFunc a w, fun w hI => ?_⟩⟩
  refine (calls_stop (b := b) N w0 hS (u := .panicking (stopE k)) hI (L' := L') ?_).mono ?_
  · exact stopped_up N w0 L L' b k k0 hu
  · rintro x u' w' ⟨rfl, L'', hI', rfl, rfl⟩
    exact ⟨_, _, rfl, hI', h⟩
end
end Go.Proofs.Ytakmopiceopcpaa
end
