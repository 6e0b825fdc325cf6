/- Package sod: how its functions leave. · Package sod: its exported functions: how many sods are cut. -/
import Derived.Test.YtkaadefndcbdnaaB3
section
namespace Go.Proofs.Ytkaadefndcbdnaa
open Go.RowKit
section
variable {P : Program} {r : Option Nat} {n N : Nat} {w0 : World} {L : Hp} {e : Env} {d : Option Nat} {ty : TypeId} {pos : String} {af : Array Edge} {g : Option (Nat × Bool)} {ops : Array Oper} {rest : List Oper} {Q : Post} {ds : List Deferred}
theorem OPS_deferA {x : Operand} {f : FuncId} {cc vs : List Value} {xs : List Operand} {ts : Array TypeId} (hx : ev e x = .func (.func f) #[] cc.toArray) (hv : xs.map (ev e) = vs)
    (h : OPS P none n N w0 ops rest Q e ({ target := .fn (.func f) cc.toArray, args := vs.toArray } :: ds) L) :
    OPS P none n N w0 ops (⟨none, .defer { callee := .value x, args := xs.toArray, argTypes := ts }, ty, pos, af, none⟩ :: rest) Q e ds L := by
  rintro a w hs rfl rfl hI
  subst hv
  unfold wpListIn
  rw [if_pos (show Region.wanted (⟨none, .defer { callee := .value x, args := xs.toArray, argTypes := ts }, ty, pos, af, none⟩ : Oper) (yielded ops a.tmps) = true from rfl)]
  refine ⟨fun f _ => FW_fn none f, ?_⟩
  have hx' : a.eval x = .func (.func f) #[] cc.toArray := by rw [eval_eq]; exact hx
  rw [show (FW none).round = none from rfl, Oper.semAt_none]
  have : (execOp a.eval ⟨none, .defer { callee := .value x, args := xs.toArray, argTypes := ts }, ty, pos, af, none⟩).run P w = .ok (.defer { target := .fn (.func f) cc.toArray, args := (xs.map (ev (envOf a))).toArray }) w := by
    simp [execOp, resolve, hx', Deferred.ofValue, eval_eq]
  rw [this]
  exact h { a with defers := { target := .fn (.func f) cc.toArray, args := (xs.map (ev (envOf a))).toArray } :: a.defers } w hs rfl rfl hI
theorem Val_neqNil0 {x : Operand} {t t' : TypeId} [hi : IfaceTy P t] (hx : ev e x = .nilIface) : Val P N w0 L e ⟨d, .binOp .neq t x (.const .nilIface) t', ty, pos, af, g⟩ (.bool false) := by
  intro w _
  have := run_neq_nil_nil_at w t hi.is
  have hy : ev e (.const .nilIface) = .nilIface := rfl
  simp [execOp, hx, hy, eqGuard, this]
theorem Val_neqNil1 {x : Operand} {t t' u : TypeId} {v : Value} [hi : IfaceTy P t] (hx : ev e x = .iface u v) : Val P N w0 L e ⟨d, .binOp .neq t x (.const .nilIface) t', ty, pos, af, g⟩ (.bool true) := by
  intro w _
  have := run_neq_iface_nil w t hi.is u v
  have hy : ev e (.const .nilIface) = .nilIface := rfl
  simp [execOp, hx, hy, eqGuard, this]
end
attribute [local irreducible] AnyO AnyB QAny QB EWalk AWalk Ev WP OPS QThen QBlock QScope QLoop QBody Val New Turn Tri Enters PostA Blk Ro
section
variable (N : Nat) (w0 : World)
theorem calls_ans0 {L : Hp} {w : World} (hI : Inv N w0 L w) (b : Nat) : CallsDIn Fence.wide 0 Try.prog 43 [.pointer (some ⟨b, 0, none⟩)].toArray .returning w fun x u' w' => u' = .returning ∧ ∃ L', Inv N w0 L' w' ∧ x = .returned (.tuple #[]) ∧ L' = L := by
  refine (callsD_rec2 (P := Try.prog) (RR := fun x L' => x = .returned (.tuple #[]) ∧ L' = L) Try.func43 rfl (n := 19) rfl (by simp) rfl rfl hI ?_).mono ?_
  · simp only [recV]
    repeat' (first | (refine GiP ?_; first | (refine Znh ?_) | (with_reducible refine Znl ?_)) | (refine GiW ?_; first | (refine Zsq fun K hK => ?_) | (refine ZrN 1 fun _ => ?_; refine Zv Zmv ?_; refine Zv (Val_neqNil0 rfl) ?_) | (refine ZrN 2 fun _ => ?_; refine Zv Zmv ?_; refine Zv (Val_typeAssert rfl) ?_; refine Zv Zmv ?_; refine Zv Zxex ?_; refine Zv Zxex ?_; refine Zv Zai ?_; refine Zv Zab ?_) | (refine ZrN 3 fun _ => ?_; refine Zv Zmb ?_; refine Zv Zxnot ?_) | (refine ZrN 4 fun _ => ?_; refine Zv Zmv ?_; refine OPS_panicV rfl rfl ?_) | (refine ZrN 5 fun _ => ?_; refine Zv Zmv ?_; refine Zv Zmi ?_; (first | (refine Zv Zxnp ?_) | (refine Zv Zxnf ?_)); refine Zst ?_) | (refine WP_cond_true rfl ?_) | (refine WP_cond_false rfl ?_) | (refine Zcd (fun hc => ?_) (fun hc => ?_) <;> (try (exfalso; omega))) | (with_reducible apply WP_skip)) | (refine Zhn ?_) | (refine Zhp ?_))
    exact QBody_end0 rfl ⟨rfl, rfl⟩
  · rintro x u' w' ⟨h1, h2⟩
    exact ⟨h1, h2⟩
theorem calls_ans1 {L L' : Hp} {w : World} (hI : Inv N w0 L w) (b : Nat) (k k0 : Int) (hu : Up L b (Blk 31 [.int .i64 k0]) (Blk 31 [.int .i64 k]) L') : CallsDIn Fence.wide 0 Try.prog 43 [.pointer (some ⟨b, 0, none⟩)].toArray (.panicking (refE k)) w fun x u' w' => u' = .panicking [{ v := .iface 124 (.int .i64 k), recovered := true }] ∧ ∃ L'', Inv N w0 L'' w' ∧ x = .returned (.tuple #[]) ∧ L'' = L' := by
  refine (callsD_rec2 (P := Try.prog) (RR := fun x L'' => x = .returned (.tuple #[]) ∧ L'' = L') Try.func43 rfl (n := 19) rfl (by simp) rfl rfl hI ?_).mono ?_
  · simp only [recV, refE]
    repeat' (first | (refine GiP ?_; first | (refine Znh ?_) | (with_reducible refine Znl ?_)) | (refine GiW ?_; first | (refine Zsq fun K hK => ?_) | (refine ZrN 1 fun _ => ?_; refine Zv Zmv ?_; refine Zv (Val_neqNil1 rfl) ?_) | (refine ZrN 2 fun _ => ?_; refine Zv Zmv ?_; refine Zv (Val_typeAssert rfl) ?_; refine Zv Zmv ?_; refine Zv Zxex ?_; refine Zv Zxex ?_; refine Zv Zai ?_; refine Zv Zab ?_) | (refine ZrN 3 fun _ => ?_; refine Zv Zmb ?_; refine Zv Zxnot ?_) | (refine ZrN 4 fun _ => ?_; refine Zv Zmv ?_; refine OPS_panicV rfl rfl ?_) | (refine ZrN 5 fun _ => ?_; refine Zv Zmv ?_; refine Zv Zmi ?_; (first | (refine Zv Zxnp ?_) | (refine Zv Zxnf ?_)); (first | (refine Zst ?_) | (refine OPS_turnN (Turn_store rfl (rfl : _ = Value.int _ _) hu rfl (by repeat (first | exact Over.nil | apply Over.cons | apply PutAt.there | apply PutAt.here)) rfl rfl) rfl rfl ?_))) | (refine WP_cond_true rfl ?_) | (refine WP_cond_false rfl ?_) | (refine Zcd (fun hc => ?_) (fun hc => ?_) <;> (try (exfalso; omega))) | (with_reducible apply WP_skip)) | (refine Zhn ?_) | (refine Zhp ?_))
    exact QBody_end0 rfl ⟨rfl, rfl⟩
  · rintro x u' w' ⟨h1, h2⟩
    exact ⟨h1, h2⟩
theorem Lv_ans0 {fn : Func} {R : Ending → Hp → Prop} {e : Env} {L : Hp} {ds : List Deferred} {b : Nat} (h : Lv Try.prog fn N w0 R e ds .returning L) :
    Lv Try.prog fn N w0 R e ({ target := .fn (.func 43) [].toArray, args := [.pointer (some ⟨b, 0, none⟩)].toArray } :: ds) .returning L := by
  refine ⟨by simp, .inr ⟨43, _, _, rfl, fun a w => run_callFunc a w, fun w hI => ?_⟩⟩
  refine (calls_ans0 N w0 hI b).mono ?_
  rintro x u' w' ⟨rfl, L'', hI', rfl, rfl⟩
  exact ⟨_, _, rfl, hI', h⟩
theorem Lv_ans1 {fn : Func} {R : Ending → Hp → Prop} {e : Env} {L L' : Hp} {ds : List Deferred} {b : Nat} {k k0 : Int} (hu : Up L b (Blk 31 [.int .i64 k0]) (Blk 31 [.int .i64 k]) L') (h : Lv Try.prog fn N w0 R e ds .returning L') :
    Lv Try.prog fn N w0 R e ({ target := .fn (.func 43) [].toArray, args := [.pointer (some ⟨b, 0, none⟩)].toArray } :: ds) (.panicking (refE k)) L := by
  refine ⟨by simp, .inr ⟨43, _, _, rfl, fun a w => run_callFunc a w, fun w hI => ?_⟩⟩
  refine (calls_ans1 N w0 hI b k k0 hu).mono ?_
  rintro x u' w' ⟨rfl, L'', hI', rfl, rfl⟩
  exact ⟨_, _, rfl, hI', h⟩
end
end Go.Proofs.Ytkaadefndcbdnaa
end

section
namespace Go.Proofs.Ytkaadefndcbdnaa
open Go.RowKit
/-- Why there is no answer; 0: there is one. -/
def errE (s : Sd) (ok : Bool) : Int := if vB s = false then 1 else if ok = false then 2 else if someB s = false then 10 else 0
def DayOk (s : Sd) (day : Int) : Bool := within day 0 ((s.days.length : Int) - 1)
def SpitOk (s : Sd) (p : Int) : Bool := within p 0 ((s.spits.length : Int) - 1)
theorem DayOk_nat {s : Sd} {day : Int} (h : DayOk s day = true) : ∃ j : Nat, day = j ∧ j < s.days.length := by
  simp only [DayOk, within, Bool.and_eq_true, decide_eq_true_eq] at h
  exact ⟨day.toNat, by omega, by omega⟩
theorem SpitOk_nat {s : Sd} {p : Int} (h : SpitOk s p = true) : ∃ j : Nat, p = j ∧ j < s.spits.length := by
  simp only [SpitOk, within, Bool.and_eq_true, decide_eq_true_eq] at h
  exact ⟨p.toNat, by omega, by omega⟩
theorem errE_no {s : Sd} {ok : Bool} (h : vB s = false ∨ ok = false) : errE s ok ≠ 0 := by
  unfold errE; rcases h with h | h <;> simp [h] <;> (split <;> omega)
theorem errE_1 {s : Sd} {ok : Bool} (h1 : vB s = true) (h2 : ok = true) (h3 : someB s = true) : errE s ok = 0 := by simp [errE, h1, h2, h3]
theorem errE_10 {s : Sd} {ok : Bool} (h1 : vB s = true) (h2 : ok = true) (h3 : someB s = false) : errE s ok = 10 := by simp [errE, h1, h2, h3]
/-- What Cut returns. -/
def CutV (s : Sd) (day : Int) : Sp := if errE s (DayOk s day) = 0 then cutV s day.toNat else (0, 0)
def CostV (s : Sd) (p : Int) : Sp := if errE s (SpitOk s p) = 0 then costV s p.toNat else (0, 0)
def NeedV (s : Sd) (day : Int) : Sp := if errE s (DayOk s day) = 0 then needV s day.toNat else (0, 0)
def DoneV (s : Sd) : Sp := if errE s true = 0 then doneV s else (0, 0)
attribute [local irreducible] AnyO AnyB QAny QB EWalk AWalk Ev WP OPS QThen QBlock QScope QLoop QBody Val New Turn Tri Enters PostA Blk Ro
attribute [local irreducible] AnyC QC
section
variable (N : Nat) (w0 : World)
section
variable {N : Nat} {w0 : World} {g : Fg} {ok : Bool} {q : FuncId} {cc : List Value} {L : Hp}
theorem open_ok (h : OpenR N w0 g ok q cc L) (h1 : vB g.s = true) (h2 : ok = true) : Tri Try.prog N w0 L 45 [sodV g, .func (.func q) #[] cc.toArray].toArray fun x L' => ∃ v, x = .returned v ∧ ∃ b m, v = .pointer (some ⟨b, 0, none⟩) ∧ L' = Fk { g with b := b, m := m } ++ L := by
  refine Tri.mono h ?_
  rintro x L' (⟨_, _, b, m, rfl, rfl⟩ | ⟨_, h3, _⟩ | ⟨h3, _⟩)
  · exact ⟨_, rfl, b, m, rfl, rfl⟩
  · rw [h2] at h3; cases h3
  · rw [h1] at h3; cases h3
theorem open_no (h : OpenR N w0 g ok q cc L) (h1 : vB g.s = false ∨ ok = false) : Tri Try.prog N w0 L 45 [sodV g, .func (.func q) #[] cc.toArray].toArray fun x L' => x = .panicked (refE (errE g.s ok)) ∧ L' = L := by
  refine Tri.mono h ?_
  rintro x L' (⟨h2, h3, _⟩ | ⟨h2, h3, rfl, rfl⟩ | ⟨h3, rfl, rfl⟩)
  · rw [h2, h3] at h1; rcases h1 with h1 | h1 <;> cases h1
  · exact ⟨by simp [errE, h2, h3], rfl⟩
  · exact ⟨by simp [errE, h3], rfl⟩
end
theorem cut1_ret (g : Fg) (b3 : Nat) (day : Int) (b m : Nat) (L' : Hp) (hS : Sub ((b, Blk 128 (faceL { g with b := b, m := m })) :: [(b3, Blk 3 [.int .i64 day])]) L') (hv : VS g.s) :
    Ret Try.prog N w0 L' 46 (.pointer (some ⟨b, 0, none⟩) :: [.pointer (some ⟨b3, 0, none⟩)]).toArray (.bool (DayOk g.s day)) := by
  have hnd := hv.nd
  have m1 := hS.mem .here
  have m2 := hS.mem (.there .here)
  have hid := fun L hm => isDay_ret N w0 L { g with b := b, m := m } day hm (by show g.s.days.length ≤ 1000; omega)
  refine tri_of_WP Try.func46 rfl (n := 7) rfl (by simp) ?_
  repeat' (first | (refine GiP ?_; first | (refine Znh ?_) | (with_reducible refine Znl ?_)) | (refine GiW ?_; first | (refine Zsq fun K hK => ?_) | (refine ZrN 0 fun _ => ?_; refine Zv Zab ?_) | (refine ZrN 1 fun _ => ?_; refine Zv Zmv ?_; refine Zv Zld ?_; refine Zcl (Enters_fn rfl) (hid _ (by repeat (first | exact Mem.here | assumption | apply Mem.there | apply Mem.sv | apply Mem.app))) ?_; refine Zv Zab ?_) | (with_reducible apply WP_ret)) | (refine Zhn ?_) | (refine Zhr ?_))
  exact QBody_ret1 rfl (rfl : _ = Value.bool _) ⟨rfl, rfl⟩
theorem sods_tri (L : Hp) (g : Fg) (hS : Sub (Fk g) L) (hv : VS g.s) (hA : SodAt N w0 g) (d : Nat) (hd : d < g.s.days.length) :
    Tri Try.prog N w0 L 49 [.pointer (some ⟨g.b, 0, none⟩), .int .i64 (d : Int)].toArray fun x L' => ∃ v, x = .returned v ∧ ∃ s, v = svV s (toldC g.s).length ∧ svOk s 2 (toldC g.s).length (((toldC g.s).map (cutR g.s d)).flatMap spL) ∧ L' = svH 28 2 (toldC g.s).length (((toldC g.s).map (cutR g.s d)).flatMap spL) s L := by
  refine Tri.fgt ?_
  refine tri_of_WP Try.func49 rfl (n := 9) rfl (by simp) ?_
  have hall := fun b2 b3 L h hN => allS_tri N w0 L g h hv hA 94 [.pointer (some ⟨b2, 0, none⟩), .pointer (some ⟨b3, 0, none⟩)] (cutR g.s d) (NdM b2 b3 d g) hN (fun x y z hm L' hS' => sodsM_ret N w0 g hv hA d hd b2 b3 x y z hm L' hS')
  have hnd : ∀ b2 b3, Sub (NdM b2 b3 d g) ((b3, Blk 3 [.int .i64 (d : Int)]) :: (b2, Blk 73 [.pointer (some ⟨g.b, 0, none⟩)]) :: L) := by
    intro b2 b3
    obtain ⟨L0, hp⟩ := hS
    refine ⟨(g.m, MapOf lks (keptF g.s)) :: L0, ?_⟩
    refine (List.Perm.swap _ _ _).trans (.cons _ (.cons _ ?_))
    exact hp
  repeat' (first | (refine GiP ?_; first | (refine Znh ?_) | (with_reducible refine Znl ?_)) | (refine GiW ?_; first | (refine Zsq fun K hK => ?_) | (refine ZrN 0 fun _ => ?_; refine Zal 2 fun b2 => ?_; refine Zal 3 fun b3 => ?_; refine Zv Zav ?_) | (refine ZrN 1 fun _ => ?_; refine Zv Zld ?_; refine Zv Val_makeFunc ?_; refine Zv Zxbu ?_; refine OPS_retKS (Enters_fn rfl) (hall b2 b3 _ (by repeat (first | exact Sub.refl _ | assumption | exact Sub.left | apply Sub.cons | apply Sub.sv | apply Sub.app)) (hnd b2 b3)) rfl rfl rfl (fun v8 L8 h8 => ?_); obtain ⟨s8, rfl, hs8, rfl⟩ := h8; refine Zv Zav ?_) | (with_reducible apply WP_ret)) | (refine Zhn ?_) | (refine Zhr ?_))
  exact QBody_ret1 rfl (rfl : _ = svV _ _) ⟨svH 28 2 (toldC g.s).length (((toldC g.s).map (cutR g.s d)).flatMap spL) s8 L, (by repeat (first | exact Wk.refl _ | apply Wk.keep1 | apply Wk.drop | apply Wk.sv | apply Wk.svD | apply Wk.appD)), _, rfl, s8, rfl, hs8, rfl⟩
/-- The hull of spans that grew. -/
theorem hull_sv (l : List Sp) (h0 : l ≠ []) (hl : l.length ≤ 1000000) {s : Option (Nat × Nat)} (hs : svOk s 2 l.length (l.flatMap spL)) {L1 L : Hp} (hk : Wk L1 (svH 28 2 l.length (l.flatMap spL) s L)) :
    Ret Try.prog N w0 L1 44 [svV s l.length].toArray (.agg [.int .i64 (jn l).1, .int .i64 (jn l).2].toArray) := by
  obtain ⟨A, c, h1, h2⟩ := RdRows.sv (E := 28) (by omega) hs
  rw [h1]
  refine hull_ret N w0 L1 A c l h0 hl (h2 N w0 L1 (l.map spL) (hk.trans ?_) (by rw [List.flatMap_def]) (map_len (f := spL) (fun _ => rfl) _))
  have : svH 28 2 l.length (l.flatMap spL) s L = svH 28 2 l.length (l.flatMap spL) s [] ++ L := by rw [← svH_app]; rfl
  rw [this]
  have key : ∀ X : Hp, Wk (X ++ L) X := by
    intro X
    induction X with
    | nil =>
      show Wk L []
      have : ∀ M : Hp, Wk M [] := fun M => by
        induction M with
        | nil => exact .refl _
        | cons x M ih => exact .drop ih
      exact this L
    | cons x X ih => exact .keep1 ih
  exact key _
theorem told_no_sub (L : Hp) (g : Fg) (hS : Sub (Fk g) L) (hv : VS g.s) (hA : SodAt N w0 g) (h0 : someB g.s = false) : Tri Try.prog N w0 L 48 [.pointer (some ⟨g.b, 0, none⟩)].toArray fun x L' => x = .panicked (refE 10) ∧ L' = L := told_no N w0 L g hS hv hA h0
set_option maxHeartbeats 2000000 in
theorem Cut_ret (L : Hp) (g : Fg) (hA : SodAt N w0 g) (hb1 : g.s.days.length ≤ 1000) (day : Int) :
    Ret Try.prog N w0 L 14 [sodV g, .int .i64 day].toArray (.tuple [.agg [.int .i64 (CutV g.s day).1, .int .i64 (CutV g.s day).2].toArray, .int .i64 (errE g.s (DayOk g.s day))].toArray) := by
  refine Ret.fgt ?_
  refine tri_of_WPL Try.func14 rfl (n := 13) rfl (by simp) ?_
  have hop : ∀ (b3 : Nat) (L : Hp), Sub [(b3, Blk 3 [.int .i64 day])] L → OpenR N w0 g (DayOk g.s day) 46 [.pointer (some ⟨b3, 0, none⟩)] L := fun b3 L h =>
    open_tri N w0 L g hA hb1 _ 46 _ _ h (fun b m L' h h2 => cut1_ret N w0 g b3 day b m L' h h2)
  by_cases hok : vB g.s = true ∧ DayOk g.s day = true
  · obtain ⟨hvb, hdo⟩ := hok
    have hv := VS_of hvb
    obtain ⟨j, rfl, hj⟩ := DayOk_nat hdo
    have hop' := fun b3 L h => open_ok (hop b3 L h) hvb hdo
    have hA' : ∀ b m, SodAt N w0 { g with b := b, m := m } := fun b m => ⟨hA.spits, hA.days, hA.logs, hA.cap1, hA.cap3⟩
    cases h0 : someB g.s with
    | false =>
      have he : errE g.s (DayOk g.s j) = 10 := errE_10 hvb hdo h0
      have hz : CutV g.s j = (0, 0) := by unfold CutV; rw [he, if_neg (by omega)]
      have htold := fun b m L hS => told_no N w0 L { g with b := b, m := m } hS hv (hA' b m) h0
      rw [he, hz]
      unfold sodV sdL at hop' ⊢
      repeat' (first | (refine GiP ?_; first | (refine Znh ?_) | (with_reducible refine Znl ?_) | (refine Zatd 8 ?_; refine OPS_retKS (Enters_fn rfl) (hop' b3 _ (by repeat (first | exact Sub.refl _ | assumption | exact Sub.left | apply Sub.cons | apply Sub.sv | apply Sub.app))) rfl rfl rfl (fun v8 L8 h8 => ?_); obtain ⟨bb, mm, rfl, rfl⟩ := h8) | (refine Zatd 9 ?_; refine OPS_pan (Enters_fn rfl) (htold bb mm _ (by repeat (first | exact Sub.refl _ | assumption | exact Sub.left | apply Sub.cons | apply Sub.sv | apply Sub.app))) rfl rfl ?_) | (refine Zatn ?_; refine Zst ?_)) | (refine GiW ?_; first | (refine Zsq fun K hK => ?_) | (refine ZrN 0 fun _ => ?_; refine Zal 2 fun b2 => ?_; refine Zal 3 fun b3 => ?_; refine Zal 4 fun b4 => ?_; refine Zal 5 fun b5 => ?_) | (refine ZrN 1 fun _ => ?_; refine OPS_deferA rfl rfl ?_) | (with_reducible apply WP_ret) | (refine WP_drawnC (id := 2) ([(b5, Blk 31 [.int .i64 0]), (b4, Blk 28 [.int .i64 0, .int .i64 0])]) ((b3, Blk 3 [.int .i64 j]) :: (b2, Blk 26 (sdL g)) :: L) [4] [0, 1, 4] [] [10] (k := 6) (k2 := 0) (by repeat (first | exact List.Perm.refl _ | assumption | (with_reducible refine Perm.pick (by repeat (first | exact Pick.here | apply Pick.there)) ?_))) (by kernel_rfl) prog_mixed (by kernel_rfl) (by kernel_rfl) rfl ?_; refine Zew rfl Zla ?_; refine Zew rfl Val_makeFunc ?_; refine Zew rfl Zld ?_)) | (with_reducible apply EWalk_nil) | (refine GiC ?_; first | (refine AnyC_done (by repeat (first | exact Sub.refl _ | assumption | exact Sub.left | apply Sub.sv | apply Sub.cons | apply Sub.app)) (by kernel_rfl) ?_) | (refine AnyC_1 2 (by repeat (first | exact Sub.refl _ | assumption | exact Sub.left | apply Sub.sv | apply Sub.cons | apply Sub.app)) (by decide +kernel) rfl ?_) | (refine AnyC_1 3 (by repeat (first | exact Sub.refl _ | assumption | exact Sub.left | apply Sub.sv | apply Sub.cons | apply Sub.app)) (by decide +kernel) rfl ?_) | (refine AnyC_1 5 (by repeat (first | exact Sub.refl _ | assumption | exact Sub.left | apply Sub.sv | apply Sub.cons | apply Sub.app)) (by decide +kernel) rfl ?_) | (refine AnyC_1 6 (by repeat (first | exact Sub.refl _ | assumption | exact Sub.left | apply Sub.sv | apply Sub.cons | apply Sub.app)) (by decide +kernel) rfl ?_) | (refine AnyC_1 7 (by repeat (first | exact Sub.refl _ | assumption | exact Sub.left | apply Sub.sv | apply Sub.cons | apply Sub.app)) (by decide +kernel) rfl ?_) | (refine AnyC_1 8 (by repeat (first | exact Sub.refl _ | assumption | exact Sub.left | apply Sub.sv | apply Sub.cons | apply Sub.app)) (by decide +kernel) rfl ?_)) | (refine Zhn ?_) | (refine Zhr ?_) | (refine Zhp ?_) | (refine AWalk_0 ?_) | (with_reducible apply QC_normal) | (refine QC_panic (fun e9 he9 => ?_)))
      all_goals ((try refine HThen.panic (by assumption) ?_); refine QLeave_panic ?_; refine Lv_ans1 N w0 (by repeat (first | exact Up.here | apply Up.there | apply Up.sv)) ?_; refine Lv_nil rfl (.cellN ((he9 4 rfl).trans rfl) (by repeat (first | exact Mem.here | assumption | apply Mem.there | apply Mem.sv | apply Mem.app)) (.here (.cons (.cons .nil))) (.cell1 ((he9 5 rfl).trans rfl) (by repeat (first | exact Mem.here | assumption | apply Mem.there | apply Mem.sv | apply Mem.app)) rfl .nil)) rfl ?_; exact ⟨rfl, (by repeat (first | exact Wk.refl _ | apply Wk.keep1 | apply Wk.drop | apply Wk.sv | apply Wk.svD | apply Wk.appD))⟩)
    | true =>
      have he : errE g.s (DayOk g.s j) = 0 := errE_1 hvb hdo h0
      have hz : CutV g.s j = cutV g.s j := by unfold CutV; rw [he, if_pos rfl]; simp
      have htold := fun b m L hS => told_ret N w0 L { g with b := b, m := m } hS hv (hA' b m) h0
      have hsods := fun b m L hS => sods_tri N w0 L { g with b := b, m := m } hS hv (hA' b m) j hj
      have hne : toldC g.s ≠ [] := someB_told.1 h0
      have hcnt := toldC_count hv
      rw [he, hz]
      unfold cutV
      obtain ⟨l, hl⟩ : ∃ l, (toldC g.s).map (cutR g.s j) = l := ⟨_, rfl⟩
      have hll : (toldC g.s).length = l.length := by rw [← hl, List.length_map]
      have hl0 : l ≠ [] := by rw [← hl]; simpa using hne
      dsimp only at hsods
      rw [hl, hll] at hsods
      rw [hll] at hcnt
      rw [hl]
      have hh := fun L1 L s hs hk => hull_sv N w0 l hl0 (by omega) (s := s) hs (L1 := L1) (L := L) hk
      unfold sodV sdL at hop' ⊢
      repeat' (first | (refine GiP ?_; first | (refine Znh ?_) | (with_reducible refine Znl ?_) | (refine Zatd 8 ?_; refine OPS_retKS (Enters_fn rfl) (hop' b3 _ (by repeat (first | exact Sub.refl _ | assumption | exact Sub.left | apply Sub.cons | apply Sub.sv | apply Sub.app))) rfl rfl rfl (fun v8 L8 h8 => ?_); obtain ⟨bb, mm, rfl, rfl⟩ := h8) | (refine Zatd 9 ?_; refine Zcl (Enters_fn rfl) (htold bb mm _ (by repeat (first | exact Sub.refl _ | assumption | exact Sub.left | apply Sub.cons | apply Sub.sv | apply Sub.app))) ?_) | (refine Zatd 11 ?_; refine OPS_retKS (Enters_fn rfl) (hsods bb mm _ (by repeat (first | exact Sub.refl _ | assumption | exact Sub.left | apply Sub.cons | apply Sub.sv | apply Sub.app))) rfl rfl rfl (fun v11 L11 h11 => ?_); obtain ⟨s11, rfl, hs11, rfl⟩ := h11) | (refine Zatd 12 ?_; refine Zcl (Enters_fn rfl) (hh _ _ s11 hs11 (by repeat (first | exact Wk.refl _ | apply Wk.keep1 | apply Wk.drop | apply Wk.sv | apply Wk.svD | apply Wk.appD))) ?_) | (refine Zatn ?_; refine Zst ?_)) | (refine GiW ?_; first | (refine Zsq fun K hK => ?_) | (refine ZrN 0 fun _ => ?_; refine Zal 2 fun b2 => ?_; refine Zal 3 fun b3 => ?_; refine Zal 4 fun b4 => ?_; refine Zal 5 fun b5 => ?_) | (refine ZrN 1 fun _ => ?_; refine OPS_deferA rfl rfl ?_) | (with_reducible apply WP_ret) | (refine WP_drawnC (id := 2) ([(b5, Blk 31 [.int .i64 0]), (b4, Blk 28 [.int .i64 0, .int .i64 0])]) ((b3, Blk 3 [.int .i64 j]) :: (b2, Blk 26 (sdL g)) :: L) [4] [0, 1, 4] [] [10] (k := 6) (k2 := 0) (by repeat (first | exact List.Perm.refl _ | assumption | (with_reducible refine Perm.pick (by repeat (first | exact Pick.here | apply Pick.there)) ?_))) (by kernel_rfl) prog_mixed (by kernel_rfl) (by kernel_rfl) rfl ?_; refine Zew rfl Zla ?_; refine Zew rfl Val_makeFunc ?_; refine Zew rfl Zld ?_)) | (with_reducible apply EWalk_nil) | (refine GiC ?_; first | (refine AnyC_done (by repeat (first | exact Sub.refl _ | assumption | exact Sub.left | apply Sub.sv | apply Sub.cons | apply Sub.app)) (by kernel_rfl) ?_) | (refine AnyC_1 2 (by repeat (first | exact Sub.refl _ | assumption | exact Sub.left | apply Sub.sv | apply Sub.cons | apply Sub.app)) (by decide +kernel) rfl ?_) | (refine AnyC_1 3 (by repeat (first | exact Sub.refl _ | assumption | exact Sub.left | apply Sub.sv | apply Sub.cons | apply Sub.app)) (by decide +kernel) rfl ?_) | (refine AnyC_1 5 (by repeat (first | exact Sub.refl _ | assumption | exact Sub.left | apply Sub.sv | apply Sub.cons | apply Sub.app)) (by decide +kernel) rfl ?_) | (refine AnyC_1 6 (by repeat (first | exact Sub.refl _ | assumption | exact Sub.left | apply Sub.sv | apply Sub.cons | apply Sub.app)) (by decide +kernel) rfl ?_) | (refine AnyC_1 7 (by repeat (first | exact Sub.refl _ | assumption | exact Sub.left | apply Sub.sv | apply Sub.cons | apply Sub.app)) (by decide +kernel) rfl ?_) | (refine AnyC_1 8 (by repeat (first | exact Sub.refl _ | assumption | exact Sub.left | apply Sub.sv | apply Sub.cons | apply Sub.app)) (by decide +kernel) rfl ?_)) | (refine Zhn ?_) | (refine Zhr ?_) | (refine AWalk_0 ?_) | (with_reducible apply QC_normal))
      refine QLeave_ret ?_; refine Lv_ans0 N w0 ?_; refine Lv_nil rfl (.cellN rfl (by repeat (first | exact Mem.here | assumption | apply Mem.there | apply Mem.sv | apply Mem.app)) (.here (.cons (.cons .nil))) (.cell1 rfl (by repeat (first | exact Mem.here | assumption | apply Mem.there | apply Mem.sv | apply Mem.app)) rfl .nil)) rfl ?_
      exact ⟨rfl, (by repeat (first | exact Wk.refl _ | apply Wk.keep1 | apply Wk.drop | apply Wk.sv | apply Wk.svD | apply Wk.appD))⟩
  · have hno : vB g.s = false ∨ DayOk g.s day = false := by
      cases h1 : vB g.s <;> cases h2 : DayOk g.s day <;> simp_all
    have hz : CutV g.s day = (0, 0) := by unfold CutV; rw [if_neg (errE_no hno)]
    have hop' := fun b3 L h => open_no (hop b3 L h) hno
    rw [hz]
    unfold sodV sdL at hop' ⊢
    repeat' (first | (refine GiP ?_; first | (refine Znh ?_) | (with_reducible refine Znl ?_) | (refine Zatd 8 ?_; refine OPS_pan (Enters_fn rfl) (hop' b3 _ (by repeat (first | exact Sub.refl _ | assumption | exact Sub.left | apply Sub.cons | apply Sub.sv | apply Sub.app))) rfl rfl ?_) | (refine Zatn ?_; refine Zst ?_)) | (refine GiW ?_; first | (refine Zsq fun K hK => ?_) | (refine ZrN 0 fun _ => ?_; refine Zal 2 fun b2 => ?_; refine Zal 3 fun b3 => ?_; refine Zal 4 fun b4 => ?_; refine Zal 5 fun b5 => ?_) | (refine ZrN 1 fun _ => ?_; refine OPS_deferA rfl rfl ?_) | (with_reducible apply WP_ret) | (refine WP_drawnC (id := 2) ([(b5, Blk 31 [.int .i64 0]), (b4, Blk 28 [.int .i64 0, .int .i64 0])]) ((b3, Blk 3 [.int .i64 day]) :: (b2, Blk 26 (sdL g)) :: L) [4] [0, 1, 4] [] [10] (k := 6) (k2 := 0) (by repeat (first | exact List.Perm.refl _ | assumption | (with_reducible refine Perm.pick (by repeat (first | exact Pick.here | apply Pick.there)) ?_))) (by kernel_rfl) prog_mixed (by kernel_rfl) (by kernel_rfl) rfl ?_; refine Zew rfl Zla ?_; refine Zew rfl Val_makeFunc ?_; refine Zew rfl Zld ?_)) | (with_reducible apply EWalk_nil) | (refine GiC ?_; first | (refine AnyC_done (by repeat (first | exact Sub.refl _ | assumption | exact Sub.left | apply Sub.sv | apply Sub.cons | apply Sub.app)) (by kernel_rfl) ?_) | (refine AnyC_1 2 (by repeat (first | exact Sub.refl _ | assumption | exact Sub.left | apply Sub.sv | apply Sub.cons | apply Sub.app)) (by decide +kernel) rfl ?_) | (refine AnyC_1 3 (by repeat (first | exact Sub.refl _ | assumption | exact Sub.left | apply Sub.sv | apply Sub.cons | apply Sub.app)) (by decide +kernel) rfl ?_) | (refine AnyC_1 5 (by repeat (first | exact Sub.refl _ | assumption | exact Sub.left | apply Sub.sv | apply Sub.cons | apply Sub.app)) (by decide +kernel) rfl ?_) | (refine AnyC_1 6 (by repeat (first | exact Sub.refl _ | assumption | exact Sub.left | apply Sub.sv | apply Sub.cons | apply Sub.app)) (by decide +kernel) rfl ?_) | (refine AnyC_1 7 (by repeat (first | exact Sub.refl _ | assumption | exact Sub.left | apply Sub.sv | apply Sub.cons | apply Sub.app)) (by decide +kernel) rfl ?_) | (refine AnyC_1 8 (by repeat (first | exact Sub.refl _ | assumption | exact Sub.left | apply Sub.sv | apply Sub.cons | apply Sub.app)) (by decide +kernel) rfl ?_)) | (refine Zhn ?_) | (refine Zhr ?_) | (refine Zhp ?_) | (refine AWalk_0 ?_) | (with_reducible apply QC_normal) | (refine QC_panic (fun e9 he9 => ?_)))
    all_goals ((try refine HThen.panic (by assumption) ?_); refine QLeave_panic ?_; refine Lv_ans1 N w0 (by repeat (first | exact Up.here | apply Up.there | apply Up.sv)) ?_; refine Lv_nil rfl (.cellN ((he9 4 rfl).trans rfl) (by repeat (first | exact Mem.here | assumption | apply Mem.there | apply Mem.sv | apply Mem.app)) (.here (.cons (.cons .nil))) (.cell1 ((he9 5 rfl).trans rfl) (by repeat (first | exact Mem.here | assumption | apply Mem.there | apply Mem.sv | apply Mem.app)) rfl .nil)) rfl ?_; exact ⟨rfl, (by repeat (first | exact Wk.refl _ | apply Wk.keep1 | apply Wk.drop | apply Wk.sv | apply Wk.svD | apply Wk.appD))⟩)
end
end Go.Proofs.Ytkaadefndcbdnaa
end
