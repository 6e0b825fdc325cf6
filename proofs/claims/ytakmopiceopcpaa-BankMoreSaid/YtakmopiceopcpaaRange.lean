/- Function values that may be a round's yield, and loops over functions. -/
import Derived.Test.YtakmopiceopcpaaMem3
import Derived.RangeFuncSeq
section
namespace Go.Proofs.Ytakmopiceopcpaa
open Go.RowKit

/-- A function value, called: a closure, or the yield of a loop. -/
def CallsV (P : Program) (Y : Value) (args : List Value) (w : World) (R : Ending → World → Prop) : Prop :=
  (∃ (f : FuncId) (cc : List Value), Y = .func (.func f) #[] cc.toArray ∧ (∀ as w, (callFunc f as).run P w = .ok (.enter f as) w) ∧ Calls P f (args ++ cc).toArray w R) ∨
  (∃ (l : Nat), Y = .func (.yield l) #[] #[] ∧ YieldAt Fence.wide 0 P l args.toArray w R)
def CV (P : Program) (N : Nat) (w0 : World) (L : Hp) (Y : Value) (args : List Value) (R : Ending → Hp → Prop) : Prop :=
  ∀ w, Inv N w0 L w → CallsV P Y args w fun x w' => ∃ L', Inv N w0 L' w' ∧ R x L'

theorem YAt_mono {F : Fence} {m : Nat} {P : Program} {l : Nat} {args : Array Value} {W : World} {R R' : Ending → World → Prop} (h : YieldAt F m P l args W R) (hr : ∀ x w, R x w → R' x w) : YieldAt F m P l args W R' := by
  obtain ⟨fn, tmps, as, body, h1, h2⟩ := h
  exact ⟨fn, tmps, as, body, h1, h2.mono hr⟩
theorem CallsV.mono {P : Program} {Y : Value} {args : List Value} {w : World} {R R' : Ending → World → Prop} (h : CallsV P Y args w R) (hr : ∀ x w, R x w → R' x w) : CallsV P Y args w R' := by
  rcases h with ⟨f, cc, h1, h2, h3⟩ | ⟨l, h1, h2⟩
  · exact .inl ⟨f, cc, h1, h2, h3.mono hr⟩
  · exact .inr ⟨l, h1, YAt_mono h2 hr⟩
theorem CV.mono {P : Program} {N : Nat} {w0 : World} {L : Hp} {Y : Value} {args : List Value} {R R' : Ending → Hp → Prop} (h : CV P N w0 L Y args R) (hr : ∀ x L, R x L → R' x L) : CV P N w0 L Y args R' :=
  fun w hI => (h w hI).mono fun _ _ ⟨L', h1, h2⟩ => ⟨L', h1, hr _ _ h2⟩
theorem CV.wk {P : Program} {N : Nat} {w0 : World} {L L' : Hp} {Y : Value} {args : List Value} {R : Ending → Hp → Prop} (h : CV P N w0 L' Y args R) (k : Wk L L') : CV P N w0 L Y args R :=
  fun w hI => h w (hI.wk k)
theorem CV.perm {P : Program} {N : Nat} {w0 : World} {L L' : Hp} {Y : Value} {args : List Value} {R : Ending → Hp → Prop} (h : CV P N w0 L' Y args R) (k : L.Perm L') : CV P N w0 L Y args R :=
  fun w hI => h w (hI.perm k)
theorem CV.fn {P : Program} {N : Nat} {w0 : World} {L : Hp} {f : FuncId} [HasBody P f] {args cc : List Value} {R : Ending → Hp → Prop} (h : Tri P N w0 L f (args ++ cc).toArray R) : CV P N w0 L (.func (.func f) #[] cc.toArray) args R :=
  fun w hI => .inl ⟨f, cc, rfl, fun as w => run_callFunc as w, h w hI⟩

section
variable {P : Program} {r : Option Nat} {n N : Nat} {w0 : World} {L : Hp} {e : Env} {d : Option Nat} {ty : TypeId} {pos : String} {af : Array Edge} {g : Option (Nat × Bool)} {ops : Array Oper} {rest : List Oper} {Q : Post} {ds : List Deferred}

theorem OPS_callV {x : Operand} {Y : Value} {xs : List Operand} {ts : Array TypeId} {args : List Value} {R : Ending → Hp → Prop} (hx : ev e x = Y) (hv : xs.map (ev e) = args) (hc : CV P N w0 L Y args R)
    (hg : Region.wanted ⟨d, .call { callee := .value x, args := xs.toArray, argTypes := ts }, ty, pos, af, g⟩ (yieldE ops e) = true) (hd : dstOk n d = true)
    (hret : ∀ v L', R (.returned v) L' → OPS P r n N w0 ops rest Q (updO e d v) ds L') (hpan : ∀ ch L', R (.panicked ch) L' → Q (.panic ch) e ds L') (hout : ∀ L', ¬ R .outgrown L') :
    OPS P r n N w0 ops (⟨d, .call { callee := .value x, args := xs.toArray, argTypes := ts }, ty, pos, af, g⟩ :: rest) Q e ds L := by
  refine OPS_gen hg rfl fun a w hs he hd' hI => ?_
  subst hv
  rcases hc w hI with ⟨f, cc, hY, hf, hcall⟩ | ⟨l, hY, hcall⟩
  · rw [hY] at hx
    have hrun : (execOp (ev e) ⟨d, .call { callee := .value x, args := xs.toArray, argTypes := ts }, ty, pos, af, g⟩).run P w = .ok (.enter f (xs.map (ev e) ++ cc).toArray) w := by
      simp [execOp, resolve, hx, Deferred.ofValue, invoke, hf]
    rw [hrun]
    refine ⟨fun h => (by rw [FW_depth] at h; cases h), callsFW.2 (hcall.mono ?_)⟩
    subst he
    rintro x' w' ⟨L', hI', hR⟩
    cases x' with
    | returned v => exact hret v L' hR _ _ (size_put.trans hs) (envOf_put hs hd) (defers_put.trans hd') hI'
    | panicked ch => exact ⟨hs, L', hI', by rw [hd']; exact hpan ch L' hR⟩
    | outgrown => exact absurd hR (hout L')
  · rw [hY] at hx
    obtain ⟨fn, tmps, as, body, hy, hround⟩ := hcall
    have hrun : (execOp (ev e) ⟨d, .call { callee := .value x, args := xs.toArray, argTypes := ts }, ty, pos, af, g⟩).run P w = .ok (.round l fn tmps as body) w := by
      simp [execOp, resolve, hx, Deferred.ofValue, invoke]
      simpa using hy
    rw [hrun]
    refine ⟨fun h => (by rw [FW_depth] at h; cases h), ?_⟩
    have hround' : RoundIn (FW r) (0 - 1) P l fn tmps as body w (fun x w' => ∃ L', Inv N w0 L' w' ∧ R x L') := by
      cases r with
      | none => exact hround
      | some l' => exact hround
    refine hround'.mono ?_
    subst he
    rintro x' w' ⟨L', hI', hR⟩
    cases x' with
    | returned v => exact hret v L' hR _ _ (size_put.trans hs) (envOf_put hs hd) (defers_put.trans hd') hI'
    | panicked ch => exact ⟨hs, L', hI', by rw [hd']; exact hpan ch L' hR⟩
    | outgrown => exact absurd hR (hout L')
/-- It returns, and what it returns is known by K alone. -/
theorem OPS_callVK {x : Operand} {Y : Value} {xs : List Operand} {ts : Array TypeId} {args : List Value} {K : Value → Hp → Prop} (hx : ev e x = Y) (hv : xs.map (ev e) = args) (hc : CV P N w0 L Y args fun x L' => ∃ v, x = .returned v ∧ K v L')
    (hg : Region.wanted ⟨d, .call { callee := .value x, args := xs.toArray, argTypes := ts }, ty, pos, af, g⟩ (yieldE ops e) = true) (hd : dstOk n d = true)
    (h : ∀ v L', K v L' → OPS P r n N w0 ops rest Q (updO e d v) ds L') :
    OPS P r n N w0 ops (⟨d, .call { callee := .value x, args := xs.toArray, argTypes := ts }, ty, pos, af, g⟩ :: rest) Q e ds L :=
  OPS_callV hx hv hc hg hd (fun v L' ⟨v', h1, h2⟩ => by injection h1 with h1; subst h1; exact h _ _ h2) (fun ch L' ⟨_, h1, _⟩ => by cases h1) (fun L' ⟨_, h1, _⟩ => by cases h1)
end

section
variable {P : Program} {r : Option Nat} {n N : Nat} {w0 : World} {L : Hp} {e : Env} {d : Nat} {ty : TypeId} {pos : String} {af : Array Edge} {g : Option (Nat × Bool)} {ops : Array Oper} {rest : List Oper} {Q : Post} {ds : List Deferred}
theorem OPS_callVS {x : Operand} {Y : Value} {xs : List Operand} {ts : Array TypeId} {args : List Value} {K : Value → Hp → Prop} (hx : ev e x = Y) (hv : xs.map (ev e) = args) (hc : CV P N w0 L Y args fun x L' => ∃ v, x = .returned v ∧ K v L')
    (hg : Region.wanted ⟨some d, .call { callee := .value x, args := xs.toArray, argTypes := ts }, ty, pos, af, g⟩ (yieldE ops e) = true) (hd : Nat.blt d n = true)
    (h : ∀ v L', K v L' → OPS P r n N w0 ops rest Q (upd e d v) ds L') :
    OPS P r n N w0 ops (⟨some d, .call { callee := .value x, args := xs.toArray, argTypes := ts }, ty, pos, af, g⟩ :: rest) Q e ds L := OPS_callVK hx hv hc hg hd h
end
def Sub (B L : Hp) : Prop := ∃ L0, L.Perm (B ++ L0)
theorem Sub.refl (B : Hp) : Sub B B := ⟨[], by simp⟩
theorem Sub.cons {B L : Hp} {x : Nat × (Obj → Prop)} (h : Sub B L) : Sub B (x :: L) := by
  obtain ⟨L0, h⟩ := h
  refine ⟨x :: L0, (h.cons x).trans ?_⟩
  exact (List.perm_middle).symm
theorem Sub.app {B L : Hp} (X : Hp) (h : Sub B L) : Sub B (X ++ L) := by
  induction X with
  | nil => exact h
  | cons x X ih => exact ih.cons
theorem Sub.appR {B L : Hp} (X : Hp) (h : Sub B L) : Sub B (L ++ X) := by
  obtain ⟨L0, h⟩ := h
  exact ⟨L0 ++ X, by simpa using h.append_right X⟩
theorem Sub.mem {B L : Hp} (h : Sub B L) {b : Nat} {φ : Obj → Prop} (hm : Mem b φ B) : Mem b φ L := by
  obtain ⟨L0, h⟩ := h
  exact .of (h.mem_iff.2 (List.mem_append_left _ hm.mem))
theorem Sub.trans {A B C : Hp} (h : Sub A B) (k : Sub B C) : Sub A C := by
  obtain ⟨X, h⟩ := h
  obtain ⟨Y, k⟩ := k
  refine ⟨X ++ Y, k.trans ?_⟩
  simpa using h.append_right Y

theorem CV.pm {P : Program} {N : Nat} {w0 : World} {L L2 : Hp} {Y : Value} {args : List Value} {R R' : Ending → Hp → Prop} (h : CV P N w0 L2 Y args R) (hp : L.Perm L2) (hr : ∀ x L', R x L' → ∃ L'', L'.Perm L'' ∧ R' x L'') : CV P N w0 L Y args R' :=
  fun w hI => (h w (hI.perm hp)).mono fun _ _ ⟨_, h1, h2⟩ => let ⟨L'', h3, h4⟩ := hr _ _ h2; ⟨L'', h1.perm h3, h4⟩
/-! ## Iterators -/
/-- What yield does: from the k-th state to the next one, or to an end. -/
def YieldOK (P : Program) (N : Nat) (w0 : World) (J : Nat → Hp → Prop) (Jx : Hp → Prop) (xs : List (List Value)) (Y : Value) : Prop :=
  ∀ (X : Hp) (k : Nat) (hk : k < xs.length) (Fr : Hp), J k Fr → CV P N w0 (Fr ++ X) Y xs[k] fun x L' => ∃ v, x = .returned v ∧ ∃ Fr', L' = Fr' ++ X ∧ ((v = .bool true ∧ J (k + 1) Fr') ∨ (v = .bool false ∧ Jx Fr'))
/-- It yields these, one after the other; nd is what it leans on. -/
def IterOK (P : Program) (N : Nat) (w0 : World) (f : FuncId) (cc : List Value) (xs : List (List Value)) (nd : Hp) : Prop :=
  ∀ (fy : Fn) (ya yb : Array Value) (J : Nat → Hp → Prop) (Jx : Hp → Prop), YieldOK P N w0 J Jx xs (.func fy ya yb) → (∀ k Fr, J k Fr → Sub nd Fr) → ∀ Fr X, J 0 Fr →
    Tri P N w0 (Fr ++ X) f (.func fy ya yb :: cc).toArray fun x L' => (∃ v, x = .returned v) ∧ ∃ Fr', L' = Fr' ++ X ∧ (J xs.length Fr' ∨ Jx Fr')

def QAsg (P : Program) (r : Option Nat) (n N : Nat) (w0 : World) (X : Hp) (body : Code) (Q : Hp → Post) : Post
  | .normal, e, ds, L => ds = [] ∧ ∃ Fr, L = Fr ++ X ∧ ∀ X1, WP P r n N w0 body (Q X1) e [] (Fr ++ X1)
  | _, _, _, _ => False
def QRound (J : Hp → Prop) (Jx : Exit → Hp → Prop) (X : Hp) : Post
  | .normal, _, _, L => ∃ Fr, Wk L (Fr ++ X) ∧ J Fr
  | .ret, _, _, L => ∃ Fr, Wk L (Fr ++ X) ∧ Jx .ret Fr
  | .exit id, _, _, L => ∃ Fr, Wk L (Fr ++ X) ∧ Jx (.exit id) Fr
  | _, _, _, _ => False

theorem Inv.putObj {N : Nat} {w0 w : World} {L L' : Hp} {b : Nat} {φ φ' : Obj → Prop} {o : Obj} (h : Inv N w0 L w) (hu : Up L b φ φ' L') (ho : φ' o) : Inv N w0 L' (w.putObj b o) := by
  have hlt := h.lt hu.mem.mem
  exact h.turn hu rfl rfl rfl (by simp) (fun k _ hk => World.putObj_heap_other hk) ⟨o, World.putObj_heap_same hlt, ho⟩

def setE (e : Env) : List Nat → List Value → Env
  | p :: ps, v :: vs => setE (upd e p v) ps vs
  | _, _ => e
theorem envOf_fold {n : Nat} : ∀ (ps : List Nat) (vs : List Value) (t : Array Value), t.size = n → (ps.all fun p => Nat.blt p n) = true →
    envOf { tmps := (ps.zip vs).foldl (fun t (x : Nat × Value) => t.setIfInBounds x.1 x.2) t, defers := [] } = setE (envOf { tmps := t, defers := [] }) ps vs ∧ ((ps.zip vs).foldl (fun t (x : Nat × Value) => t.setIfInBounds x.1 x.2) t).size = n
  | [], vs, t, hs, _ => ⟨rfl, by simpa using hs⟩
  | p :: ps, [], t, hs, _ => ⟨rfl, by simpa using hs⟩
  | p :: ps, v :: vs, t, hs, hp => by
    simp only [List.all_cons, Bool.and_eq_true] at hp
    have hs' : (t.setIfInBounds p v).size = n := by simpa using hs
    obtain ⟨h1, h2⟩ := envOf_fold ps vs (t.setIfInBounds p v) hs' hp.2
    refine ⟨?_, by simpa using h2⟩
    simp only [List.zip_cons_cons, List.foldl_cons, setE]
    rw [h1]
    congr 1
    have := envOf_put (a := { tmps := t, defers := [] }) (n := n) (d := some p) (v := v) hs (by simpa [dstOk] using hp.1)
    simpa [Act.put, updO] using this

section
variable {P : Program} {n N : Nat} {w0 : World} {Q : Post} {e : Env} {ds : List Deferred} {L : Hp}
abbrev mark (D : Nat) : Deferred := { target := .collected D, args := #[] }
theorem WP_rangeFunc {g : Operand} {ps : List Nat} {assign body : Code} {f : FuncId} [HasBody P f] {cc : List Value} {xs : List (List Value)} {nd : Hp}
    (hg : ev e g = .func (.func f) #[] cc.toArray) (hit : IterOK P N w0 f cc xs nd) (J : Nat → Hp → Prop) (Jx : Exit → Hp → Prop) (Fr X : Hp) (hL : Wk L (Fr ++ X)) (h0 : J 0 Fr) (hnd : ∀ k Fr, J k Fr → Sub nd Fr)
    (hps : ∀ x ∈ xs, x.length = ps.length) (hpn : (ps.all fun p => Nat.blt p n) = true)
    (round : ∀ l X0 k (hk : k < xs.length) Fr, J k Fr → WP P (some l) n N w0 assign (QAsg P (some l) n N w0 X0 body (fun X1 => QRound (J (k + 1)) Jx X1)) (setE e ps xs[k]) [] (Fr ++ X0))
    (done : ∀ D Fr, J xs.length Fr → Q .normal e (mark D :: ds) ((D, Is (.deferred (some []))) :: (Fr ++ X)))
    (stop : ∀ D x Fr, Jx x Fr → (x = .ret ∨ ∃ id, x = .exit id) → Q x e (mark D :: ds) ((D, Is (.deferred (some []))) :: (Fr ++ X))) :
    WP P none n N w0 (.rangeFunc g ps.toArray assign body) Q e ds L := by
  rintro a w hs he hd hI
  refine wpIn_rangeFunc ?_
  intro fn hfn
  replace hI := hI.wk hL
  obtain ⟨rec, hrec⟩ : ∃ rec : LoopState → Option Code → Loop, rec = fun st pe => { state := st, pending := pe, fn, tmps := a.tmps, params := ps.toArray, assign, body, defers := w.heap.size } := ⟨_, rfl⟩
  obtain ⟨D, hD⟩ : ∃ D, D = w.heap.size := ⟨_, rfl⟩
  obtain ⟨l, hl⟩ : ∃ l, l = w.heap.size + 1 := ⟨_, rfl⟩
  have hI1 : Inv N w0 ((l, Is (.loop (rec .ready none))) :: (D, Is (.deferred (some []))) :: (Fr ++ X)) ((w.alloc (.deferred (some []))).alloc (.loop (rec .ready none))) := by
    have := (hI.alloc (o := .deferred (some [])) (φ := Is (.deferred (some []))) rfl).alloc (o := .loop (rec .ready none)) (φ := Is (.loop (rec .ready none))) rfl
    rw [World.size_alloc] at this
    rw [hl, hD]; exact this
  subst he
  have hgv : a.eval g = .func (.func f) #[] cc.toArray := by rw [eval_eq]; exact hg
  obtain ⟨W1, hW1⟩ : ∃ W1, W1 = (w.alloc (.deferred (some []))).alloc (.loop (rec .ready none)) := ⟨_, rfl⟩
  rw [← hW1] at hI1
  refine ⟨l, [mark D], W1, { target := .fn (.func f) cc.toArray, args := #[.func (.yield l) #[] #[]] }, W1, f, #[.func (.yield l) #[] #[]] ++ cc.toArray, W1, ?_, ?_, fun f' _ => FW_fn none f', ?_, fun h => (by rw [FW_depth] at h; cases h), ?_⟩
  · rw [FW_round, hW1, hl, hD, hrec]; exact run_enterLoop_outer _ _ _ _ _
  · simp only [resolve, hgv]
    simp [Deferred.ofValue, Act.eval]
  · simp [invoke, run_callFunc]
  · -- the iterator, at the loop's own state
    let J' : Nat → Hp → Prop := fun k F' => ∃ Fr, J k Fr ∧ F' = (l, Is (.loop (rec .ready none))) :: (D, Is (.deferred (some []))) :: Fr
    let Jx' : Hp → Prop := fun F' => ∃ x c Fr, Jx x Fr ∧ ((x = .ret ∧ c = .ret) ∨ ∃ id, x = .exit id ∧ c = .exit id) ∧ F' = (l, Is (.loop (rec .done (some c)))) :: (D, Is (.deferred (some []))) :: Fr
    have hy : YieldOK P N w0 J' Jx' xs (.func (.yield l) #[] #[]) := by
      rintro X0 k hk _ ⟨Fr, hJ, rfl⟩ W hW
      refine .inr ⟨l, rfl, ?_⟩
      have hlo : W.heap[l]? = some (.loop (rec .ready none)) := hW.obj (b := l) (.here)
      have hxk : xs[k] ∈ xs := List.getElem_mem hk
      have hyr := run_yield (P := P) (args := xs[k].toArray) hlo (by rw [hrec]; simpa using hps _ hxk)
      rw [hrec] at hyr
      refine ⟨fn, _, assign, body, hyr, ?_⟩
      have hzip : ((ps.toArray.zip xs[k].toArray).foldl (fun tmps (x : Nat × Value) => tmps.setIfInBounds x.1 x.2) a.tmps) = (ps.zip xs[k]).foldl (fun tmps (x : Nat × Value) => tmps.setIfInBounds x.1 x.2) a.tmps := by
        rw [← Array.foldl_toList]; simp
      obtain ⟨hf1, hf2⟩ := envOf_fold (n := n) ps xs[k] a.tmps hs hpn
      refine roundIn_of_wpIn (F := Fence.wide) hfn ?_
      have hperm : Inv N w0 (Fr ++ ((l, Is (.loop (rec .ready none))) :: (D, Is (.deferred (some []))) :: X0)) W := by
        refine hW.perm ?_
        show ((l, Is (.loop (rec .ready none))) :: (D, Is (.deferred (some []))) :: (Fr ++ X0)).Perm _
        have h1 : ([(l, Is (.loop (rec .ready none))), (D, Is (.deferred (some [])))] ++ Fr).Perm (Fr ++ [(l, Is (.loop (rec .ready none))), (D, Is (.deferred (some [])))]) := List.perm_append_comm
        have h2 := h1.append_right X0
        simpa using h2
      have hwp := round l _ k hk Fr hJ { tmps := (ps.zip xs[k]).foldl (fun tmps (x : Nat × Value) => tmps.setIfInBounds x.1 x.2) a.tmps, defers := [] } W hf2 (by rw [hf1]; rfl) rfl hperm
      show assign.wpIn (Fence.wide.inRound l) 0 P _ _ W
      rw [hzip]
      refine Go.wpIn_mono hwp ?_
      rintro x1 a1 W1 ⟨hs1, L1, hI1, hq⟩
      cases x1 <;> try exact hq.elim
      obtain ⟨hds1, Fr1, rfl, hbody⟩ := hq
      have hlo1 : W1.heap[l]? = some (.loop (rec .ready none)) := hI1.obj (b := l) (Mem.app Fr1 .here)
      refine ⟨_, run_beginRound hlo1 (by rw [hrec]), ?_⟩
      have hup1 : Up (Fr1 ++ ((l, Is (.loop (rec .ready none))) :: (D, Is (.deferred (some []))) :: X0)) l (Is (.loop (rec .ready none))) (Is (.loop { rec .ready none with state := .busy })) (Fr1 ++ ((l, Is (.loop { rec .ready none with state := .busy })) :: (D, Is (.deferred (some []))) :: X0)) := by
        clear hbody hI1 hperm
        induction Fr1 with
        | nil => exact .here
        | cons y Fr1 ih => exact .there ih
      have hI2 := hI1.putObj hup1 (o := .loop { rec .ready none with state := .busy }) rfl
      have hwb := hbody _ a1 _ hs1 rfl hds1 hI2
      refine Go.wpIn_mono hwb ?_
      have fin : ∀ (jump : Option Code) (W3 : World) (L3 Fr3 : Hp), Inv N w0 L3 W3 → Wk L3 (Fr3 ++ ((l, Is (.loop { rec .ready none with state := .busy })) :: (D, Is (.deferred (some []))) :: X0)) →
          (Instr.endRound l jump).run P W3 = .ok (.bool jump.isNone) (W3.putObj l (.loop (rec (if jump.isNone then .ready else .done) jump))) ∧
          Inv N w0 (((l, Is (.loop (rec (if jump.isNone then .ready else .done) jump))) :: (D, Is (.deferred (some []))) :: Fr3) ++ X0) (W3.putObj l (.loop (rec (if jump.isNone then .ready else .done) jump))) := by
        intro jump W3 L3 Fr3 hI3 hwk
        replace hI3 := hI3.wk hwk
        have hlo3 : W3.heap[l]? = some (.loop { rec .ready none with state := .busy }) := hI3.obj (b := l) (Mem.app Fr3 .here)
        have hre := run_endRound (P := P) jump hlo3
        refine ⟨by rw [hre, hrec], ?_⟩
        have hp3 : Inv N w0 (((l, Is (.loop { rec .ready none with state := .busy })) :: (D, Is (.deferred (some []))) :: Fr3) ++ X0) W3 := by
          refine hI3.perm ?_
          have h1 : ([(l, Is (.loop { rec .ready none with state := .busy })), (D, Is (.deferred (some [])))] ++ Fr3).Perm (Fr3 ++ [(l, Is (.loop { rec .ready none with state := .busy })), (D, Is (.deferred (some [])))]) := List.perm_append_comm
          have h2 := (h1.append_right X0).symm
          simpa using h2
        exact hp3.putObj (φ := Is (.loop { rec .ready none with state := .busy })) (φ' := Is (.loop (rec (if jump.isNone then .ready else .done) jump))) .here rfl
      rintro x3 a3 W3 ⟨hs3, L3, hI3, hq3⟩
      cases x3 with
      | normal =>
        obtain ⟨Fr3, hwk, hJ3⟩ := hq3
        obtain ⟨hr, hI4⟩ := fin none W3 L3 Fr3 hI3 hwk
        exact ⟨_, _, hr, _, hI4, _, rfl, _, rfl, .inl ⟨rfl, Fr3, hJ3, rfl⟩⟩
      | ret =>
        obtain ⟨Fr3, hwk, hJ3⟩ := hq3
        obtain ⟨hr, hI4⟩ := fin (some .ret) W3 L3 Fr3 hI3 hwk
        exact ⟨_, _, hr, _, hI4, _, rfl, _, rfl, .inr ⟨rfl, .ret, .ret, Fr3, hJ3, .inl ⟨rfl, rfl⟩, rfl⟩⟩
      | exit id =>
        obtain ⟨Fr3, hwk, hJ3⟩ := hq3
        obtain ⟨hr, hI4⟩ := fin (some (.exit id)) W3 L3 Fr3 hI3 hwk
        exact ⟨_, _, hr, _, hI4, _, rfl, _, rfl, .inr ⟨rfl, .exit id, .exit id, Fr3, hJ3, .inr ⟨id, rfl, rfl⟩, rfl⟩⟩
      | goto t => exact hq3.elim
      | panic ch => exact hq3.elim
      | outgrown => exact hq3.elim
    have hcall := hit _ _ _ J' Jx' hy (by
      rintro k _ ⟨Fr, hJ, rfl⟩
      exact (hnd k Fr hJ).cons.cons) _ X ⟨Fr, h0, rfl⟩ _ hI1
    have hcall' := (callsIn_wide (n := 0 - 1)).2 hcall
    have hargs : (#[Value.func (.yield l) #[] #[]] ++ cc.toArray : Array Value) = (Value.func (.yield l) #[] #[] :: cc).toArray := by simp
    rw [hargs]
    refine hcall'.mono ?_
    rintro x W2 ⟨L2, hI2, ⟨v, rfl⟩, Fr', rfl, (⟨Fr2, hJ2, rfl⟩ | ⟨x, c, Fr2, hJ2, hxc, rfl⟩)⟩
    · have hlo : W2.heap[l]? = some (.loop (rec .ready none)) := hI2.obj (b := l) .here
      have hre := run_endLoop (P := P) hlo (by rw [hrec]; simp)
      refine ⟨none, W2.putObj l (.loop { rec .ready none with state := .exhausted }), by rw [hre, hrec], ?_⟩
      have hI3 := (hI2.putObj (b := l) (φ' := fun _ => True) (o := .loop { rec .ready none with state := .exhausted }) .here trivial).wk (.drop (.refl _))
      exact ⟨hs, _, hI3, by subst hd; exact done D Fr2 hJ2⟩
    · have hlo : W2.heap[l]? = some (.loop (rec .done (some c))) := hI2.obj (b := l) .here
      have hre := run_endLoop (P := P) hlo (by rw [hrec]; simp)
      refine ⟨some c, W2.putObj l (.loop { rec .done (some c) with state := .exhausted }), by rw [hre, hrec], ?_⟩
      have hI3 := (hI2.putObj (b := l) (φ' := fun _ => True) (o := .loop { rec .done (some c) with state := .exhausted }) .here trivial).wk (.drop (.refl _))
      rcases hxc with ⟨rfl, rfl⟩ | ⟨id, rfl, rfl⟩
      · exact wpIn_ret ⟨hs, _, hI3, by subst hd; exact stop D _ Fr2 hJ2 (.inl rfl)⟩
      · exact wpIn_exit ⟨hs, _, hI3, by subst hd; exact stop D _ Fr2 hJ2 (.inr ⟨id, rfl⟩)⟩
end
end Go.Proofs.Ytakmopiceopcpaa
end
