/- How a function leaves that has deferred calls, or marks of loops over functions. -/
import Derived.Test.YtakmopiceopcpaaRange
section
namespace Go.Proofs.Ytakmopiceopcpaa
open Go.RowKit

section
variable (P : Program) (fn : Func) (N : Nat) (w0 : World) (R : Ending → Hp → Prop)
def Lv (e : Env) : List Deferred → FrameMode → Hp → Prop
  | [], .returning, L => ∃ v, (∀ a w, envOf a = e → Inv N w0 L w → (results fn a.tmps).run P w = .ok v w) ∧ R (.returned v) L
  | [], .panicking ch, L => R (.panicked ch) L
  | [], .run, _ => False
  | d :: ds, u, L => u ≠ .run ∧ ((∃ D L1, d = mark D ∧ Up L D (Is (.deferred (some []))) (fun _ => True) L1 ∧ Lv e ds u L1) ∨
      (∃ (f : FuncId) (cc : Array Value), d = { target := .fn (.func f) cc, args := #[] } ∧ (∀ as w, (callFunc f as).run P w = .ok (.enter f as) w) ∧
        ∀ w, Inv N w0 L w → CallsDIn Fence.wide 0 P f cc u w fun x u' w' => ∃ v L', x = .returned v ∧ Inv N w0 L' w' ∧ Lv e ds (settle u') L'))
def QLeave : Post
  | .normal, e, ds, L | .ret, e, ds, L => Lv P fn N w0 R e ds .returning L
  | .panic ch, e, ds, L => Lv P fn N w0 R e ds (.panicking ch) L
  | _, _, _, _ => False
end
section
variable {P : Program} {fn : Func} {N : Nat} {w0 : World} {R : Ending → Hp → Prop} {L : Hp}
theorem leaves_of_Lv {e : Env} : ∀ (ds : List Deferred) (u : FrameMode) (L : Hp) (a : Act) (w : World), envOf a = e → Inv N w0 L w → Lv P fn N w0 R e ds u L →
    LeavesInM Fence.wide 0 P fn a.tmps (fun x w' => ∃ L', Inv N w0 L' w' ∧ R x L') ds u w
  | [], .returning, L, a, w, he, hI, h => by
    obtain ⟨v, hr, hR⟩ := h
    exact ⟨v, hr a w he hI, L, hI, hR⟩
  | [], .panicking ch, L, a, w, _, hI, h => ⟨L, hI, h⟩
  | [], .run, _, _, _, _, _, h => h.elim
  | d :: ds, u, L, a, w, he, hI, h => by
    obtain ⟨hu, h⟩ := h
    refine ⟨hu, ?_⟩
    rcases h with ⟨D, L1, rfl, hup, h⟩ | ⟨f, cc, rfl, hf, h⟩
    · have ho : w.heap[D]? = some (.deferred (some [])) := hI.obj hup.mem
      exact .inl ⟨D, _, rfl, run_takeDeferred ho, leaves_of_Lv ds u L1 a _ he (hI.putObj hup trivial) h⟩
    · refine .inr ⟨fun h => (by cases h), .func f, cc, f, #[] ++ cc, rfl, ?_, fun _ _ => trivial, ?_⟩
      · simp [invoke, hf]
      · have hc := h w hI
        have h0 : (#[] ++ cc : Array Value) = cc := by simp
        rw [h0]
        refine hc.mono ?_
        rintro x u' w' ⟨v, L', rfl, hI', hl⟩
        exact leaves_of_Lv ds _ L' a w' he hI' hl
theorem tri_of_WPL {f : FuncId} {fn : Func} {c : Code} {args : List Value} (hf : P.funcs[f]? = some fn) (hb : fn.body = some c) {n : Nat} (hn : fn.ntmps = n) (hle : args.length ≤ n)
    (h : WP P none n N w0 c (QLeave P fn N w0 R) (argsE args) [] L) : Tri P N w0 L f args.toArray R := by
  intro w hI
  refine (callsIn_wide (n := 0)).1 (callsIn_of_wp_marks hf hb trivial ?_ rfl)
  have h1 := h { tmps := args.toArray ++ Array.replicate (fn.ntmps - args.toArray.size) undef, defers := [] } w (by simp; omega) ?_ rfl hI
  · refine Go.wpIn_mono h1 ?_
    rintro x a w' ⟨hs, L', hI', hq⟩
    cases x with
    | normal => exact leaves_of_Lv _ _ _ a w' rfl hI' hq
    | ret => exact leaves_of_Lv _ _ _ a w' rfl hI' hq
    | panic ch => exact leaves_of_Lv _ _ _ a w' rfl hI' hq
    | exit id => exact hq.elim
    | goto l => exact hq.elim
    | outgrown => exact hq.elim
  · funext t
    unfold envOf argsE
    simp only [Array.getD_eq_getD_getElem?, List.getD_eq_getElem?_getD]
    by_cases ht : t < args.length
    · rw [Array.getElem?_append_left (by simpa using ht)]; simp
    · rw [Array.getElem?_append_right (by simpa using ht), Array.getElem?_replicate, List.getElem?_eq_none (by omega)]
      split <;> rfl

/-! Ways out. -/
theorem Lv_nil {e : Env} {rs : List ResultVar} {vs : List Value} {v : Value} (hr : fn.results = rs.toArray) (h : ResR P e L rs vs) (hv : resV vs = v) (hR : R (.returned v) L) : Lv P fn N w0 R e [] .returning L := by
  obtain ⟨_, v', h1, h2⟩ := QBody_res (P := P) (fn := fn) (N := N) (w0 := w0) (R := R) hr h hv hR
  exact ⟨v', h1, h2⟩
theorem Lv_mark {e : Env} {D : Nat} {ds : List Deferred} {u : FrameMode} {L1 : Hp} (hu : u ≠ .run) (hup : Up L D (Is (.deferred (some []))) (fun _ => True) L1) (h : Lv P fn N w0 R e ds u L1) : Lv P fn N w0 R e (mark D :: ds) u L :=
  ⟨hu, .inl ⟨D, L1, rfl, hup, h⟩⟩
theorem QLeave_ret {e : Env} {ds : List Deferred} (h : Lv P fn N w0 R e ds .returning L) : QLeave P fn N w0 R .ret e ds L := h
theorem QLeave_panic {e : Env} {ds : List Deferred} {ch : List PanicEntry} (h : Lv P fn N w0 R e ds (.panicking ch) L) : QLeave P fn N w0 R (.panic ch) e ds L := h

/-! ### A deferred closure that begins with recover -/
def recV : FrameMode → Value × FrameMode
  | .panicking ({ v, recovered := false, goexit := false } :: older) => (v, .panicking ({ v, recovered := true } :: older))
  | u => (.nilIface, u)
theorem recoverD_recV (c : Frame) (cs : List Frame) : (match recoverD (c :: cs) with
    | some (v, cs') => (v, cs')
    | none => (.nilIface, c :: cs)) = ((recV c.mode).1, { c with mode := (recV c.mode).2 } :: cs) := by
  obtain ⟨f, tmps, todo, defers, mode, kind, ro⟩ := c
  cases mode with
  | panicking l =>
    cases l with
    | nil => rfl
    | cons x l =>
      obtain ⟨v, rr, g⟩ := x
      cases rr <;> cases g <;> rfl
  | _ => rfl

theorem callsD_rec {f : FuncId} {fn : Func} {id d : Nat} {rest : List Oper} {ty : TypeId} {pos : String} {af : Array Edge} {cc : List Value} {RR : Ending → Hp → Prop} {u : FrameMode} {w : World}
    (hf : P.funcs[f]? = some fn) (hb : fn.body = some (.region id (⟨some d, .call { callee := .builtin .recover, args := #[], argTypes := #[] }, ty, pos, af, none⟩ :: rest).toArray false)) {n : Nat} (hn : fn.ntmps = n) (hle : cc.length ≤ n) (hd : Nat.blt d n = true)
    (hI : Inv N w0 L w) (h : ∀ ops, OPS P none n N w0 ops rest (QBody P fn N w0 RR) (upd (argsE cc) d (recV u).1) [] L) :
    CallsDIn Fence.wide 0 P f cc.toArray u w fun x u' w' => u' = (recV u).2 ∧ ∃ L', Inv N w0 L' w' ∧ RR x L' := by
  obtain ⟨o0, ho0⟩ : ∃ o0 : Oper, o0 = ⟨some d, .call { callee := .builtin .recover, args := #[], argTypes := #[] }, ty, pos, af, none⟩ := ⟨_, rfl⟩
  rw [← ho0] at hb
  refine ⟨trivial, fun c₀ cs hu hroom => ?_⟩
  let b : Frame := { (default : Frame) with fn := f, kind := .deferred, roundOf := none }
  let a0 : Act := { tmps := cc.toArray ++ Array.replicate (fn.ntmps - cc.toArray.size) undef, defers := [] }
  have henter : Frame.enter P f cc.toArray .deferred = b.atR a0 [.code (.region id (o0 :: rest).toArray false)] := by
    simp [Frame.enter, Frame.atR, hf, hb, b, a0]
  have hs0 : a0.tmps.size = n := by simp [a0]; omega
  have he0 : envOf a0 = argsE cc := by
    funext t
    unfold envOf argsE
    simp only [a0, Array.getD_eq_getD_getElem?, List.getD_eq_getElem?_getD]
    by_cases ht : t < cc.length
    · rw [Array.getElem?_append_left (by simpa using ht)]; simp
    · rw [Array.getElem?_append_right (by simpa using ht), Array.getElem?_replicate, List.getElem?_eq_none (by omega)]
      split <;> rfl
  -- the region; recover
  have hrange : List.range (o0 :: rest).toArray.size = 0 :: List.range' 1 rest.length := by
    simp [List.range_eq_range', List.range'_succ]
  have s0 : StepsIn (Machine.fenced P Fence.wide) P (lone (b.atR a0 [.code (.region id (o0 :: rest).toArray false)]) (c₀ :: cs) w) (lone (b.atR a0 [.inRegion (o0 :: rest).toArray (0 :: List.range' 1 rest.length)]) (c₀ :: cs) w) := by
    have := StepsIn.one (I := Machine.fenced P Fence.wide) (fenced_wide P _) (stepR_region (P := P) (b := b) (a := a0) (k := []) (cs := c₀ :: cs) (w := w) (id := id) (ops := (o0 :: rest).toArray))
    rw [hrange] at this; exact this
  have hwant : Region.wanted o0 (yielded (o0 :: rest).toArray a0.tmps) = true := by rw [ho0]; rfl
  have hexec : (execOp a0.eval o0).run P w = .ok .recover w := by rw [ho0]; simp [execOp, resolve, invoke, builtin]
  have hg := stepGR_op (P := P) (b := b) (k := []) (cs := c₀ :: cs) (w := w) (a := a0) (i := 0) (rest := List.range' 1 rest.length) (o := o0) (ops := (o0 :: rest).toArray) (by simp) hwant
  rw [show b.roundOf = none from rfl, Oper.semAt_none] at hg
  have hfin : ∀ v, (b.atR a0 [.inRegion (o0 :: rest).toArray (0 :: List.range' 1 rest.length)]).finish v = b.atR (a0.put (some d) v) [.inRegion (o0 :: rest).toArray (List.range' 1 rest.length)] := by
    intro v; rw [Frame.finish_atR]; simp [ho0]
  have s1 : StepsIn (Machine.fenced P Fence.wide) P (lone (b.atR a0 [.inRegion (o0 :: rest).toArray (0 :: List.range' 1 rest.length)]) (c₀ :: cs) w)
      (lone (b.atR (a0.put (some d) (recV u).1) [.inRegion (o0 :: rest).toArray (List.range' 1 rest.length)]) ({ c₀ with mode := (recV u).2 } :: cs) w) := by
    refine .one (fenced_wide P _) (step_lone_go ?_)
    have hk : (b.atR a0 [.inRegion (o0 :: rest).toArray (0 :: List.range' 1 rest.length)]).kind = .deferred := rfl
    have htr := tryRecover_deferred hk (c₀ :: cs)
    have hrv := recoverD_recV c₀ cs
    rw [hu] at hrv
    rw [hg]
    cases hrec : recoverD (c₀ :: cs) with
    | none =>
      rw [hrec] at hrv
      simp only [Prod.mk.injEq, List.cons.injEq] at hrv
      rw [← hrv.1, ← hrv.2.1, ← hfin]
      simp only [Frame.atR, show b.roundOf = none from rfl] at htr ⊢
      simp [stepG.apply, hexec, htr, hrec]
    | some p =>
      obtain ⟨v, cs'⟩ := p
      rw [hrec] at hrv
      simp only [Prod.mk.injEq] at hrv
      rw [← hrv.1, ← hrv.2, ← hfin]
      simp only [Frame.atR, show b.roundOf = none from rfl] at htr ⊢
      simp [stepG.apply, hexec, htr, hrec]
  -- the rest
  have h1 := h (o0 :: rest).toArray (a0.put (some d) (recV u).1) w (size_put.trans hs0) (by rw [envOf_put hs0 (by simpa [dstOk] using hd), he0]; rfl) rfl hI
  rw [← wpOpsIn_eq_wpListIn rest 1 (fun j => by simp [Nat.add_comm 1 j])] at h1
  obtain ⟨x, a', w', hq, harr⟩ := wp_opsIn _ _ _ h1 b [] ({ c₀ with mode := (recV u).2 } :: cs) rfl trivial (room_wide _)
  have harr' := harr
  rw [henter]
  obtain ⟨hs', L', hI', hq'⟩ := hq
  cases x with
  | normal =>
    obtain ⟨hd', v, hr, hR⟩ := hq'
    exact ⟨.returned v, _, w', _, ⟨rfl, L', hI', hR⟩, (s0.trans s1).trans (StepsIn.trans harr (.one (fenced_wide P _) (stepR_end rfl))), rfl, rfl, rfl, hd', fn, hf, hr a' w' rfl hI'⟩
  | ret =>
    obtain ⟨hd', v, hr, hR⟩ := hq'
    obtain ⟨todo, hs⟩ := harr.1 rfl
    exact ⟨.returned v, _, w', _, ⟨rfl, L', hI', hR⟩, (s0.trans s1).trans hs, rfl, rfl, rfl, hd', fn, hf, hr a' w' rfl hI'⟩
  | panic ch =>
    obtain ⟨hd', hR⟩ := hq'
    obtain ⟨todo, hs⟩ := harr
    exact ⟨.panicked ch, _, w', _, ⟨rfl, L', hI', hR⟩, (s0.trans s1).trans hs, rfl, rfl, rfl, hd', fn, hf⟩
  | exit id => exact hq'.elim
  | goto l => exact hq'.elim
  | outgrown => exact hq'.elim
end
end Go.Proofs.Ytakmopiceopcpaa
end
