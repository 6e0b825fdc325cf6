/- Loops over functions that change what they lean on. -/
import Derived.Test.YtbhgpnbfdjoglaaRange
section
namespace Go.Proofs.Ytbhgpnbfdjoglaa
open Go.RowKit
/-- It yields these, one after the other; C is what it asks of the states. -/
def IterC (P : Program) (N : Nat) (w0 : World) (f : FuncId) (cc : List Value) (xs : List (List Value)) (C : (Nat → Hp → Prop) → Prop) : Prop :=
  ∀ (fy : Fn) (ya yb : Array Value) (J : Nat → Hp → Prop) (Jx : Hp → Prop), YieldOK P N w0 J Jx xs (.func fy ya yb) → C J → ∀ Fr X, J 0 Fr →
    Tri P N w0 (Fr ++ X) f (.func fy ya yb :: cc).toArray fun x L' => (∃ v, x = .returned v) ∧ ∃ Fr', L' = Fr' ++ X ∧ (J xs.length Fr' ∨ Jx Fr')
section
variable {P : Program} {n N : Nat} {w0 : World} {Q : Post} {e : Env} {ds : List Deferred} {L : Hp}
theorem WP_rangeFuncC {g : Operand} {ps : List Nat} {assign body : Code} {f : FuncId} [HasBody P f] {cc : List Value} {xs : List (List Value)} {C : (Nat → Hp → Prop) → Prop}
    (hg : ev e g = .func (.func f) #[] cc.toArray) (hit : IterC P N w0 f cc xs C) (J : Nat → Hp → Prop) (Jx : Exit → Hp → Prop) (Fr X : Hp) (hL : Wk L (Fr ++ X)) (h0 : J 0 Fr) (hC : ∀ x y, C fun k F' => ∃ Fr, J k Fr ∧ F' = x :: y :: Fr)
    (hps : ∀ x ∈ xs, x.length = ps.length) (hpn : (ps.all fun p => Nat.blt p n) = true)
    (round : ∀ l X0 k (hk : k < xs.length) Fr, J k Fr → WP P (some l) n N w0 assign (QAsg P (some l) n N w0 X0 body (fun X1 => QRound (J (k + 1)) Jx X1)) (setE e ps xs[k]) [] (Fr ++ X0))
    (done : ∀ D Fr, J xs.length Fr → Q .normal e (mark D :: ds) ((D, Is (.deferred (some []))) :: (Fr ++ X)))
    (stop : ∀ D x Fr, Jx x Fr → (x = .ret ∨ ∃ id, x = .exit id) → Q x e (mark D :: ds) ((D, Is (.deferred (some []))) :: (Fr ++ X))) :
    WP P none n N w0 (.rangeFunc g ps.toArray assign body) Q e ds L := by
  rintro a w hs he hd hI
  refine wpIn_rangeFunc ?_
  intro fn hfn
  replace hI := hI.wk hL
  obtain ⟨rec, hrec⟩ : ∃ rec : LoopState → Option Code → Loop, rec = fun st pe => { state := st, pending := pe, fn, tmps := a.tmps, params := ps.toArray, assign, body, defers := w.heap.size } := ⟨_, rfl⟩
  obtain ⟨D, hD⟩ : ∃ D, D = w.heap.size := ⟨_, rfl⟩
  obtain ⟨l, hl⟩ : ∃ l, l = w.heap.size + 1 := ⟨_, rfl⟩
  have hI1 : Inv N w0 ((l, Is (.loop (rec .ready none))) :: (D, Is (.deferred (some []))) :: (Fr ++ X)) ((w.alloc (.deferred (some []))).alloc (.loop (rec .ready none))) := by
    have := (hI.alloc (o := .deferred (some [])) (φ := Is (.deferred (some []))) rfl).alloc (o := .loop (rec .ready none)) (φ := Is (.loop (rec .ready none))) rfl
    rw [World.size_alloc] at this
    rw [hl, hD]; exact this
  subst he
  have hgv : a.eval g = .func (.func f) #[] cc.toArray := by rw [eval_eq]; exact hg
  obtain ⟨W1, hW1⟩ : ∃ W1, W1 = (w.alloc (.deferred (some []))).alloc (.loop (rec .ready none)) := ⟨_, rfl⟩
  rw [← hW1] at hI1
  refine ⟨l, [mark D], W1, { target := .fn (.func f) cc.toArray, args := #[.func (.yield l) #[] #[]] }, W1, f, #[.func (.yield l) #[] #[]] ++ cc.toArray, W1, ?_, ?_, fun f' _ => FW_fn none f', ?_, fun h => (by rw [FW_depth] at h; cases h), ?_⟩
  · rw [FW_round, hW1, hl, hD, hrec]; exact run_enterLoop_outer _ _ _ _ _
  · simp only [resolve, hgv]
    simp [Deferred.ofValue, Act.eval]
  · simp [invoke, run_callFunc]
  · -- the iterator, at the loop's own state
    let J' : Nat → Hp → Prop := fun k F' => ∃ Fr, J k Fr ∧ F' = (l, Is (.loop (rec .ready none))) :: (D, Is (.deferred (some []))) :: Fr
    let Jx' : Hp → Prop := fun F' => ∃ x c Fr, Jx x Fr ∧ ((x = .ret ∧ c = .ret) ∨ ∃ id, x = .exit id ∧ c = .exit id) ∧ F' = (l, Is (.loop (rec .done (some c)))) :: (D, Is (.deferred (some []))) :: Fr
    have hy : YieldOK P N w0 J' Jx' xs (.func (.yield l) #[] #[]) := by
      rintro X0 k hk _ ⟨Fr, hJ, rfl⟩ W hW
      refine .inr ⟨l, rfl, ?_⟩
      have hlo : W.heap[l]? = some (.loop (rec .ready none)) := hW.obj (b := l) (.here)
      have hxk : xs[k] ∈ xs := List.getElem_mem hk
      have hyr := run_yield (P := P) (args := xs[k].toArray) hlo (by rw [hrec]; simpa using hps _ hxk)
      rw [hrec] at hyr
      refine ⟨fn, _, assign, body, hyr, ?_⟩
      have hzip : ((ps.toArray.zip xs[k].toArray).foldl (fun tmps (x : Nat × Value) => tmps.setIfInBounds x.1 x.2) a.tmps) = (ps.zip xs[k]).foldl (fun tmps (x : Nat × Value) => tmps.setIfInBounds x.1 x.2) a.tmps := by
        rw [← Array.foldl_toList]; simp
      obtain ⟨hf1, hf2⟩ := envOf_fold (n := n) ps xs[k] a.tmps hs hpn
      refine roundIn_of_wpIn (F := Fence.wide) hfn ?_
      have hperm : Inv N w0 (Fr ++ ((l, Is (.loop (rec .ready none))) :: (D, Is (.deferred (some []))) :: X0)) W := by
        refine hW.perm ?_
        show ((l, Is (.loop (rec .ready none))) :: (D, Is (.deferred (some []))) :: (Fr ++ X0)).Perm _
        have h1 : ([(l, Is (.loop (rec .ready none))), (D, Is (.deferred (some [])))] ++ Fr).Perm (Fr ++ [(l, Is (.loop (rec .ready none))), (D, Is (.deferred (some [])))]) := List.perm_append_comm
        have h2 := h1.append_right X0
        simpa using h2
      have hwp := round l _ k hk Fr hJ { tmps := (ps.zip xs[k]).foldl (fun tmps (x : Nat × Value) => tmps.setIfInBounds x.1 x.2) a.tmps, defers := [] } W hf2 (by rw [hf1]; rfl) rfl hperm
      show assign.wpIn (Fence.wide.inRound l) 0 P _ _ W
      rw [hzip]
      refine Go.wpIn_mono hwp ?_
      rintro x1 a1 W1 ⟨hs1, L1, hI1, hq⟩
      cases x1 <;> try exact hq.elim
      obtain ⟨hds1, Fr1, rfl, hbody⟩ := hq
      have hlo1 : W1.heap[l]? = some (.loop (rec .ready none)) := hI1.obj (b := l) (Mem.app Fr1 .here)
      refine ⟨_, run_beginRound hlo1 (by rw [hrec]), ?_⟩
      have hup1 : Up (Fr1 ++ ((l, Is (.loop (rec .ready none))) :: (D, Is (.deferred (some []))) :: X0)) l (Is (.loop (rec .ready none))) (Is (.loop { rec .ready none with state := .busy })) (Fr1 ++ ((l, Is (.loop { rec .ready none with state := .busy })) :: (D, Is (.deferred (some []))) :: X0)) := by
        clear hbody hI1 hperm
        induction Fr1 with
        | nil => exact .here
        | cons y Fr1 ih => exact .there ih
      have hI2 := hI1.putObj hup1 (o := .loop { rec .ready none with state := .busy }) rfl
      have hwb := hbody _ a1 _ hs1 rfl hds1 hI2
      refine Go.wpIn_mono hwb ?_
      have fin : ∀ (jump : Option Code) (W3 : World) (L3 Fr3 : Hp), Inv N w0 L3 W3 → Wk L3 (Fr3 ++ ((l, Is (.loop { rec .ready none with state := .busy })) :: (D, Is (.deferred (some []))) :: X0)) →
          (Instr.endRound l jump).run P W3 = .ok (.bool jump.isNone) (W3.putObj l (.loop (rec (if jump.isNone then .ready else .done) jump))) ∧
          Inv N w0 (((l, Is (.loop (rec (if jump.isNone then .ready else .done) jump))) :: (D, Is (.deferred (some []))) :: Fr3) ++ X0) (W3.putObj l (.loop (rec (if jump.isNone then .ready else .done) jump))) := by
        intro jump W3 L3 Fr3 hI3 hwk
        replace hI3 := hI3.wk hwk
        have hlo3 : W3.heap[l]? = some (.loop { rec .ready none with state := .busy }) := hI3.obj (b := l) (Mem.app Fr3 .here)
        have hre := run_endRound (P := P) jump hlo3
        refine ⟨by rw [hre, hrec], ?_⟩
        have hp3 : Inv N w0 (((l, Is (.loop { rec .ready none with state := .busy })) :: (D, Is (.deferred (some []))) :: Fr3) ++ X0) W3 := by
          refine hI3.perm ?_
          have h1 : ([(l, Is (.loop { rec .ready none with state := .busy })), (D, Is (.deferred (some [])))] ++ Fr3).Perm (Fr3 ++ [(l, Is (.loop { rec .ready none with state := .busy })), (D, Is (.deferred (some [])))]) := List.perm_append_comm
          have h2 := (h1.append_right X0).symm
          simpa using h2
        exact hp3.putObj (φ := Is (.loop { rec .ready none with state := .busy })) (φ' := Is (.loop (rec (if jump.isNone then .ready else .done) jump))) .here rfl
      rintro x3 a3 W3 ⟨hs3, L3, hI3, hq3⟩
      cases x3 with
      | normal =>
        obtain ⟨Fr3, hwk, hJ3⟩ := hq3
        obtain ⟨hr, hI4⟩ := fin none W3 L3 Fr3 hI3 hwk
        exact ⟨_, _, hr, _, hI4, _, rfl, _, rfl, .inl ⟨rfl, Fr3, hJ3, rfl⟩⟩
      | ret =>
        obtain ⟨Fr3, hwk, hJ3⟩ := hq3
        obtain ⟨hr, hI4⟩ := fin (some .ret) W3 L3 Fr3 hI3 hwk
        exact ⟨_, _, hr, _, hI4, _, rfl, _, rfl, .inr ⟨rfl, .ret, .ret, Fr3, hJ3, .inl ⟨rfl, rfl⟩, rfl⟩⟩
      | exit id =>
        obtain ⟨Fr3, hwk, hJ3⟩ := hq3
        obtain ⟨hr, hI4⟩ := fin (some (.exit id)) W3 L3 Fr3 hI3 hwk
        exact ⟨_, _, hr, _, hI4, _, rfl, _, rfl, .inr ⟨rfl, .exit id, .exit id, Fr3, hJ3, .inr ⟨id, rfl, rfl⟩, rfl⟩⟩
      | goto t => exact hq3.elim
      | panic ch => exact hq3.elim
      | outgrown => exact hq3.elim
    have hcall := hit _ _ _ J' Jx' hy (hC _ _) _ X ⟨Fr, h0, rfl⟩ _ hI1
    have hcall' := (callsIn_wide (n := 0 - 1)).2 hcall
    have hargs : (#[Value.func (.yield l) #[] #[]] ++ cc.toArray : Array Value) = (Value.func (.yield l) #[] #[] :: cc).toArray := by simp
    rw [hargs]
    refine hcall'.mono ?_
    rintro x W2 ⟨L2, hI2, ⟨v, rfl⟩, Fr', rfl, (⟨Fr2, hJ2, rfl⟩ | ⟨x, c, Fr2, hJ2, hxc, rfl⟩)⟩
    · have hlo : W2.heap[l]? = some (.loop (rec .ready none)) := hI2.obj (b := l) .here
      have hre := run_endLoop (P := P) hlo (by rw [hrec]; simp)
      refine ⟨none, W2.putObj l (.loop { rec .ready none with state := .exhausted }), by rw [hre, hrec], ?_⟩
      have hI3 := (hI2.putObj (b := l) (φ' := fun _ => True) (o := .loop { rec .ready none with state := .exhausted }) .here trivial).wk (.drop (.refl _))
      exact ⟨hs, _, hI3, by subst hd; exact done D Fr2 hJ2⟩
    · have hlo : W2.heap[l]? = some (.loop (rec .done (some c))) := hI2.obj (b := l) .here
      have hre := run_endLoop (P := P) hlo (by rw [hrec]; simp)
      refine ⟨some c, W2.putObj l (.loop { rec .done (some c) with state := .exhausted }), by rw [hre, hrec], ?_⟩
      have hI3 := (hI2.putObj (b := l) (φ' := fun _ => True) (o := .loop { rec .done (some c) with state := .exhausted }) .here trivial).wk (.drop (.refl _))
      rcases hxc with ⟨rfl, rfl⟩ | ⟨id, rfl, rfl⟩
      · exact wpIn_ret ⟨hs, _, hI3, by subst hd; exact stop D _ Fr2 hJ2 (.inl rfl)⟩
      · exact wpIn_exit ⟨hs, _, hI3, by subst hd; exact stop D _ Fr2 hJ2 (.inr ⟨id, rfl⟩)⟩
end
end Go.Proofs.Ytbhgpnbfdjoglaa
end
