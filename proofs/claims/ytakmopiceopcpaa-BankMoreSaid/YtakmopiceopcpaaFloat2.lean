/- Regions whose order of evaluation is left open, as Float has them, where what writes may panic, and B is named. -/
import Derived.Test.YtakmopiceopcpaaFloat
section
namespace Go.Proofs.Ytakmopiceopcpaa
open Go.RowKit
/-- Alike but at some slots. -/
def But (fl : List Nat) (e e' : Env) : Prop := ∀ t, fl.contains t = false → e' t = e t
def QC (ds : List Deferred) (fl : List Nat) (Q : Post) (A : Env → Hp → Prop) : Post
  | .normal, e, ds', L => ds' = ds ∧ A e L
  | .panic ch, e, ds', L => ∀ e', But fl e e' → Q (.panic ch) e' ds' L
  | _, _, _, _ => False
/-- What has not come up waits for all of T. -/
def lateChk (ops : Array Oper) (T : List Nat) (listed : Array Bool) : Bool := (List.range ops.size).all fun j => listed.getD j true || let c := clo ops ops.size (preds ops j); T.all fun t => c.contains t
/-- Every order of what writes, B as it was; behind it what waits for all that floats (T): k2 operations, in every order. -/
def AnyC (P : Program) (r : Option Nat) (n N : Nat) (w0 : World) (ops : Array Oper) (Q : Post) (ds : List Deferred) (fl : List Nat) (B : Hp) (T : List Nat) (k2 : Nat) : Nat → Array Bool → Env → Hp → Prop
  | 0, listed, e, L => Sub B L ∧ lateChk ops T listed = true ∧ ∃ L1, L.Perm L1 ∧ AnyO P r n N w0 ops Q ds k2 listed e L1
  | fuel + 1, listed, e, L => Sub B L ∧ Region.ready .any ops listed ≠ [] ∧ ∀ j ∈ Region.ready .any ops listed, ∃ o, ops[j]? = some o ∧ OPS P r n N w0 ops [o] (QC ds fl Q (AnyC P r n N w0 ops Q ds fl B T k2 fuel (listed.setIfInBounds j true))) e ds L
section
variable {P : Program} {r : Option Nat} {n N : Nat} {w0 : World} {ops : Array Oper} {Q : Post} {ds : List Deferred} {e : Env} {L B : Hp} {fl T : List Nat} {k2 : Nat}
theorem AnyC.sub : ∀ {fuel : Nat} {listed : Array Bool}, AnyC P r n N w0 ops Q ds fl B T k2 fuel listed e L → Sub B L
  | 0, _, h => h.1
  | _ + 1, _, h => h.1
theorem AnyC.perm {L' : Hp} (k : L'.Perm L) : ∀ {fuel : Nat} {listed : Array Bool}, AnyC P r n N w0 ops Q ds fl B T k2 fuel listed e L → AnyC P r n N w0 ops Q ds fl B T k2 fuel listed e L'
  | 0, _, h => ⟨h.1.perm k, h.2.1, let ⟨L1, h1, h2⟩ := h.2.2; ⟨L1, k.trans h1, h2⟩⟩
  | _ + 1, _, h => ⟨h.1.perm k, h.2.1, fun j hj => let ⟨o, ho, h3⟩ := h.2.2 j hj; ⟨o, ho, fun a w hs he hd hI => h3 a w hs he hd (hI.perm k)⟩⟩
/-- How it may end. -/
def PQ0 (n N : Nat) (w0 : World) (fl : List Nat) (Q : Post) : Exit → Act → World → Prop := fun x a w => ∃ ch, x = .panic ch ∧ a.tmps.size = n ∧ ∃ L', Inv N w0 L' w ∧ ∀ e', But fl (envOf a) e' → Q (.panic ch) e' a.defers L'
theorem wpOpIn_of_OPSC {i : Nat} {o : Oper} {A : Env → Hp → Prop} (ho : ops[i]? = some o) (h : OPS P r n N w0 ops [o] (QC ds fl Q A) e ds L) {a : Act} {w : World} (hs : a.tmps.size = n) (he : envOf a = e) (hd : a.defers = ds) (hI : Inv N w0 L w) :
    wpOpIn (FW r) 0 P ops (PQ0 n N w0 fl Q) i (fun a w => a.tmps.size = n ∧ a.defers = ds ∧ ∃ L', Inv N w0 L' w ∧ A (envOf a) L') a w := by
  have h1 := h a w hs he hd hI
  unfold wpListIn at h1
  unfold wpOpIn
  rw [ho]
  simp only
  have key : ∀ a w, wpListIn (FW r) 0 P ops (PostA n N w0 (QC ds fl Q A)) [] a w → (a.tmps.size = n ∧ a.defers = ds ∧ ∃ L', Inv N w0 L' w ∧ A (envOf a) L') := by
    rintro a w ⟨hs', L', hI', hd', hA⟩
    exact ⟨hs', hd', L', hI', hA⟩
  split
  · rename_i hw
    rw [if_pos hw] at h1
    have h2 := Oper.wpIn_mono key h1
    refine ⟨h2.1, uponIn_monoQ (Q1 := PostA n N w0 (QC ds fl Q A)) ?_ h2.2⟩
    rintro x a w hx ⟨hs', L', hI', hq⟩
    cases x <;> first
      | exact absurd rfl hx
      | exact ⟨_, rfl, hs', L', hI', hq⟩
      | exact hq.elim
  · rename_i hw
    rw [if_neg hw] at h1
    exact ⟨h1.1, key _ _ h1.2⟩
theorem wpOpIn_monoC {i : Nat} {K : Act → World → Prop} {Q1 Q2 : Exit → Act → World → Prop} {a : Act} {w : World} (hq : ∀ x a w, x ≠ .normal → Q1 x a w → Q2 x a w) (h : wpOpIn (FW r) 0 P ops Q1 i K a w) : wpOpIn (FW r) 0 P ops Q2 i K a w := by
  unfold wpOpIn at h ⊢
  cases ho : ops[i]? with
  | none => rw [ho] at h; exact h
  | some o =>
    rw [ho] at h
    simp only at h ⊢
    split
    · rename_i hw
      rw [if_pos hw] at h
      exact ⟨h.1, uponIn_monoQ (Q1 := Q1) hq h.2⟩
    · rename_i hw
      rw [if_neg hw] at h
      exact h
theorem PQ0_post : ∀ x a w, x ≠ Exit.normal → PQ0 n N w0 fl Q x a w → PostA n N w0 Q x a w := by
  rintro x a w - ⟨ch, rfl, hs, L', hI, hq⟩
  exact ⟨hs, L', hI, hq _ fun _ _ => rfl⟩
theorem AnyC.any : ∀ {fuel : Nat} {listed : Array Bool} {e : Env} {L : Hp}, AnyC P r n N w0 ops Q ds fl B T k2 fuel listed e L → AnyO P r n N w0 ops Q ds (fuel + k2) listed e L
  | 0, _, _, _, h => by
    rintro a w hs he hd hI
    obtain ⟨_, _, L1, h2, h3⟩ := h
    rw [Nat.zero_add]
    exact h3 a w hs he hd (hI.perm h2)
  | fuel + 1, listed, e, L, h => by
    rintro a w hs he hd hI
    rw [Nat.succ_add]
    refine ⟨fun h0 => absurd h0 h.2.1, fun j hj => ?_⟩
    obtain ⟨o, ho, h3⟩ := h.2.2 j hj
    have h4 := wpOpIn_monoC (Q2 := PostA n N w0 Q) PQ0_post (wpOpIn_of_OPSC ho h3 hs he hd hI)
    refine wpOpIn_mono ?_ h4
    rintro a1 w1 ⟨hs1, hd1, L1, hI1, hA1⟩
    exact AnyC.any hA1 a1 w1 hs1 rfl hd1 hI1
theorem updAll_but : ∀ (ts : List Pd) (e : Env), (∀ x ∈ ts, ∀ t, x.2.1.dst = some t → fl.contains t = true) → But fl (updAll e ts) e
  | [], e, _ => fun _ _ => rfl
  | x :: ts, e, h => by
    intro t ht
    have ih := updAll_but ts (updO e x.2.1.dst x.2.2) (fun y hy => h y (List.mem_cons_of_mem _ hy)) t ht
    simp only [updAll, List.foldl_cons] at ih ⊢
    rw [← ih]
    have hne : ∀ t', x.2.1.dst = some t' → Operand.tmp t ≠ .tmp t' := by
      intro t' ht' he
      injection he with he
      subst he
      have := h x List.mem_cons_self _ ht'
      rw [ht] at this; cases this
    have := ev_updO (e := e) (v := x.2.2) (x := .tmp t) hne
    exact this.symm
theorem uponIn_backC {F : Fence} {o : Oper} {ts : List Pd} {K K' : Act → World → Prop} {PQ PQ' : Exit → Act → World → Prop} {a : Act} (hq : ∀ ch w, PQ (.panic ch) (putAll a ts) w → PQ' (.panic ch) a w) (hlo : LetsOut PQ → LetsOut PQ') (hp : ∀ x ∈ ts, ∀ t, x.2.1.dst = some t → o.dst ≠ some t)
    (hk : ∀ (v : Value) (ds : List Deferred) (w : World), K (putAll ({ a with defers := ds }.put o.dst v) ts) w → K' ({ a with defers := ds }.put o.dst v) w) {x : Result Next} (h : o.uponIn F 0 P (putAll a ts) K PQ x) : o.uponIn F 0 P a K' PQ' x := by
  have hv : ∀ (v : Value) (w : World), K ((putAll a ts).put o.dst v) w → K' (a.put o.dst v) w := fun v w h => hk v a.defers w (by rw [putAll_put ts a hp] at h; exact h)
  cases x with
  | ok x w' =>
    cases x <;> simp only [Oper.uponIn] at h ⊢ <;>
      first
        | exact hv _ _ h
        | (rw [putAll_def, putAll_defers, putAll_put ts _ hp] at h; exact hk _ _ _ h)
        | exact h.elim
        | exact ⟨h.1, CallsIn.mono h.2 (fun e w'' he => by cases e <;> first | exact hv _ _ he | exact hq _ _ he | exact hlo he)⟩
        | exact ⟨h.1, RoundIn.mono h.2 (fun e w'' he => by cases e <;> first | exact hv _ _ he | exact hq _ _ he | exact hlo he)⟩
        | exact ⟨h.1, RowsIn.mono h.2 (fun v w'' he => hv _ _ he)⟩
  | halt x w' =>
    cases x <;> simp only [Oper.uponIn] at h ⊢ <;> first | exact h.elim | exact hq _ _ h
theorem wpOpIn_backC {j : Nat} {o : Oper} {ts : List Pd} {K K' : Act → World → Prop} {PQ PQ' : Exit → Act → World → Prop} {a : Act} {w : World} (ho : ops[j]? = some o) (hf : fine n o = true) (hq : ∀ ch w, PQ (.panic ch) (putAll a ts) w → PQ' (.panic ch) a w) (hlo : LetsOut PQ → LetsOut PQ') (ha : ∀ x ∈ ts, x.2.1.apart ops o = true)
    (hl : PLexB P n N w0 ops L (envOf a) ts) (hs : a.tmps.size = n) (hk : ∀ a1 w1, a1.tmps.size = n → PLexB P n N w0 ops L (envOf a1) ts → K (putAll a1 ts) w1 → K' a1 w1) (h : wpOpIn (FW r) 0 P ops PQ j K (putAll a ts) w) : wpOpIn (FW r) 0 P ops PQ' j K' a w := by
  obtain ⟨f1, f2, f3⟩ := fine_spec hf
  obtain ⟨e1, _⟩ := envOf_putAllB ts _ a hl hs
  obtain ⟨x1, x2⟩ := exec_all (ops := ops) f3 ts (envOf a) ha
  have hp : ∀ x ∈ ts, ∀ t, x.2.1.dst = some t → o.dst ≠ some t := fun x hx => (Oper.apart_spec (ha x hx)).2.1
  have hk' : ∀ (v : Value) (ds : List Deferred) (w : World), K (putAll ({ a with defers := ds }.put o.dst v) ts) w → K' ({ a with defers := ds }.put o.dst v) w := by
    intro v ds w hK
    refine hk _ _ (size_put.trans hs) ?_ hK
    have h1 : envOf (({ a with defers := ds } : Act).put o.dst v) = updO (envOf a) o.dst v := envOf_put (a := { a with defers := ds }) hs f1
    rw [h1]
    exact hl.upd ts _ ha
  unfold wpOpIn at h ⊢
  rw [ho] at h ⊢
  simp only [yieldE_eq, e1, x2] at h ⊢
  split
  · rename_i hw
    rw [if_pos hw] at h
    refine ⟨fun f _ => FW_fn r f, ?_⟩
    have h2 := h.2
    rw [Oper.semAt_eq _ _ _ (isDefer_ne f2), eval_eq] at h2 ⊢
    rw [e1, x1] at h2
    exact uponIn_backC hq hlo hp hk' h2
  · rename_i hw
    rw [if_neg hw] at h
    refine ⟨fun f _ => FW_fn r f, ?_⟩
    have h2 := h.2
    rw [putAll_put ts a hp] at h2
    exact hk' undef a.defers w h2

theorem pendC (hTS : ∀ i ∈ T, ∀ j, j < ops.size → j ∉ T → waits ops i j = true ∨ waits ops j i = true ∨ apartO ops i j = true) (hfine : ∀ (j : Nat) (o : Oper), ops[j]? = some o → fine n o = true) (hfl : ∀ i ∈ T, ∀ o, ops[i]? = some o → ∀ t, o.dst = some t → fl.contains t = true) :
    ∀ (k : Nat) (ts : List Pd) (fuel2 : Nat) (hdone listed : Array Bool) (a : Act) (w : World) (L1 : Hp), ts.length + fuel2 + k2 = k → Ready T ops hdone listed (ts.map (·.1)) → (∀ x ∈ ts, x.1 ∈ T) → (∀ t ∈ T, hdone.getD t true = true) → PLexB P n N w0 ops L (envOf a) ts → a.tmps.size = n → a.defers = ds → Inv N w0 L1 w →
      AnyC P r n N w0 ops Q ds fl L T k2 fuel2 hdone (envOf (putAll a ts)) L1 → wpAnyIn (FW r) 0 P .any ops (PostA n N w0 Q) k listed a w
  | k, [], fuel2, hdone, listed, a, w, L1, hk, hR, _, _, _, hs, hd, hI, h => by
    have : hdone = listed := by
      apply Array.ext (by rw [hR.szd, hR.sz])
      intro i h1 h2
      have := hR.fin i (by rw [← hR.sz]; exact h2)
      simpa [h1, h2] using this
    subst this
    simp only [List.length_nil, Nat.zero_add] at hk
    subst hk
    exact h.any a w hs rfl hd hI
  | 0, _ :: _, _, _, _, _, _, _, hk, _, _, _, _, _, _, _, _ => by simp at hk
  | k + 1, t0 :: tr, fuel2, hdone, listed, a, w, L1, hk, hR, hT, hTd, hl, hs, hd, hI, h => by
    have notAp : ∀ j, j ∈ Region.ready .any ops listed → ∀ i ∈ (t0 :: tr).map (·.1), waits ops j i = false := by
      intro j hj i hi
      cases hw : waits ops j i with
      | false => rfl
      | true => exact (getD_tf (hR.un i hi) ((ready_preds hj).2 i (waits_pred hw))).elim
    unfold wpAnyIn
    refine ⟨fun h0 => ?_, fun j hj => ?_⟩
    · exfalso
      have hj : t0.1 ∈ Region.ready .any ops listed := by
        rw [mem_ready]
        refine ⟨hR.un _ List.mem_cons_self, ?_⟩
        have hlt := (hR.self t0.1 List.mem_cons_self).2
        refine ⟨ops[t0.1], Array.getElem?_eq_getElem hlt, fun ed he hb => ?_⟩
        have hp : ed.on ∈ preds ops t0.1 := by
          unfold preds
          rw [Array.getElem?_eq_getElem hlt]
          simp only [List.mem_map, List.mem_filter]
          exact ⟨ed, ⟨by simpa using he, hb⟩, rfl⟩
        rcases hR.pr t0.1 List.mem_cons_self _ hp with h1 | h1
        · exact h1
        · rcases List.mem_cons.1 h1 with h1 | h1
          · have := (hR.self t0.1 List.mem_cons_self).1
            have h2 := pred_waits hp
            rw [h1] at h2; rw [h2] at this; cases this
          · have := (List.pairwise_cons.1 hR.fw).1 _ h1
            rw [pred_waits hp] at this; cases this
      rw [h0] at hj; cases hj
    · obtain ⟨hjl, hjp⟩ := ready_preds hj
      have hlt : j < ops.size := by
        obtain ⟨_, o, ho, _⟩ := mem_ready.1 hj
        exact (Array.getElem?_eq_some_iff.1 ho).1
      by_cases hjT : j ∈ (t0 :: tr).map (·.1)
      · -- it is one that floats
        obtain ⟨x, hx, rfl⟩ := List.mem_map.1 hjT
        obtain ⟨t1, t2, he⟩ := List.append_of_mem hx
        rw [he] at hk hR hT hl h notAp
        have hap : ∀ y ∈ t1, y.2.1.apart ops x.2.1 = true := by
          have hops : ∀ (ts : List Pd) (e : Env), PLexB P n N w0 ops L e ts → ∀ y ∈ ts, ops[y.1]? = some y.2.1 := by
            intro ts
            induction ts with
            | nil => intro _ _ y hy; cases hy
            | cons z ts ih =>
              intro e hh y hy
              rcases List.mem_cons.1 hy with rfl | hy
              · exact hh.1
              · exact ih _ hh.2.2.2 y hy
          intro y hy
          have h1 := hR.ap
          rw [List.map_append, List.pairwise_append] at h1
          rcases h1.2.2 y.1 (List.mem_map_of_mem hy) x.1 (by simp) with h2 | h2
          · rw [notAp x.1 hj y.1 (by simp only [List.map_append, List.mem_append]; exact .inl (List.mem_map_of_mem hy))] at h2; cases h2
          · exact apartO_spec h2 (hops _ _ hl y (by simp [hy])) (hops _ _ hl x (by simp))
        obtain ⟨k1, k2, k3, k4, k5⟩ := PLexB.pull t1 _ a hl hap
        have hnd := hR.nd
        have hj' : x.1 ∉ (t1 ++ t2).map (·.1) := by
          simp only [List.map_append, List.map_cons] at hnd
          have h1 := List.nodup_append.1 hnd
          simp only [List.nodup_cons] at h1
          intro hh
          simp only [List.map_append, List.mem_append] at hh
          rcases hh with hh | hh
          · exact h1.2.2 _ hh _ (by simp) rfl
          · exact h1.2.1.1 hh
        have hR' : Ready T ops hdone (listed.setIfInBounds x.1 true) ((t1 ++ t2).map (·.1)) := by
          refine hR.next ?_ (by simp) ?_ hj' hjp
          · simp only [List.map_append, List.map_cons]
            exact List.Sublist.append (List.Sublist.refl _) (List.sublist_cons_self _ _)
          · intro i hi
            simp only [List.map_append, List.map_cons, List.mem_append, List.mem_cons] at hi ⊢
            rcases hi with hh | hh | hh
            · exact .inr (.inl hh)
            · exact .inl hh
            · exact .inr (.inr hh)
        have hsz : (a.put x.2.1.dst x.2.2).tmps.size = n := size_put.trans hs
        have ih := fun w' (hI' : Inv N w0 L1 w') => pendC hTS hfine hfl k (t1 ++ t2) fuel2 hdone (listed.setIfInBounds x.1 true) (a.put x.2.1.dst x.2.2) w' L1 (by simp at hk ⊢; omega) hR' (fun y hy => hT y (by simp only [List.mem_append, List.mem_cons] at hy ⊢; rcases hy with hh | hh; exact .inl hh; exact .inr (.inr hh))) hTd
          (by rw [envOf_put hs (fine_spec k2).1]; exact k4) hsz (defers_put.trans hd) hI' (by rw [← k5]; exact h)
        obtain ⟨L0, hL0⟩ := h.sub
        exact wpOpIn_e (X := L0) k1 k2 k3 (hI.perm (hL0.trans List.perm_append_comm)) fun w' hI' => ih w' (hI'.perm (hL0.trans List.perm_append_comm).symm)
      · -- it is another one
        have hnd : hdone.getD j true = false := by
          rw [hR.fin j hlt, hjl]
          simp only [Bool.false_or, List.contains_eq_mem, decide_eq_false_iff_not]
          exact hjT
        have hjnT : j ∉ T := fun hh => by have := hTd j hh; rw [hnd] at this; cases this
        have hjr : j ∈ Region.ready .any ops hdone := by
          obtain ⟨_, o, ho, hpre⟩ := mem_ready.1 hj
          refine mem_ready.2 ⟨hnd, o, ho, fun ed he hb => ?_⟩
          have h1 := hpre ed he hb
          have hel : ed.on < ops.size := by
            rw [← hR.sz]
            cases hh : listed[ed.on]? with
            | none => rw [Array.getD_eq_getD_getElem?, hh] at h1; cases h1
            | some b => exact (Array.getElem?_eq_some_iff.1 hh).1
          have h2 := hR.fin ed.on hel
          have h3 : listed.getD ed.on true = true := by
            rw [Array.getD_eq_getD_getElem?] at h1 ⊢
            cases hh : listed[ed.on]? with
            | none => rw [hh] at h1; cases h1
            | some b => rw [hh] at h1; simpa using h1
          rw [h3, Bool.true_or] at h2
          rw [Array.getD_eq_getD_getElem?] at h2 ⊢
          cases hh : hdone[ed.on]? with
          | none => have := Array.getElem?_eq_none_iff.1 hh; rw [hR.szd] at this; omega
          | some b => rw [hh] at h2; simpa using h2
        obtain ⟨o, ho⟩ : ∃ o, ops[j]? = some o := ⟨_, Array.getElem?_eq_getElem hlt⟩
        cases fuel2 with
        | zero =>
          exfalso
          have h5 := h.2.1
          unfold lateChk at h5
          simp only [List.all_eq_true, List.mem_range] at h5
          have h6 := h5 j hlt
          rw [hnd] at h6
          simp only [Bool.false_or, List.all_eq_true, List.contains_eq_mem, decide_eq_true_eq] at h6
          have h7 := h6 t0.1 (hT t0 List.mem_cons_self)
          exact getD_tf (hR.un t0.1 List.mem_cons_self) (clo_listed hR.closed _ _ hjp _ h7)
        | succ fuel =>
          obtain ⟨o', ho', h2⟩ := h.2.2 j hjr
          rw [ho] at ho'; injection ho' with ho'; subst ho'
          have hops : ∀ (ts : List Pd) (e : Env), PLexB P n N w0 ops L e ts → ∀ y ∈ ts, ops[y.1]? = some y.2.1 := by
            intro ts
            induction ts with
            | nil => intro _ _ y hy; cases hy
            | cons z ts ih =>
              intro e hh y hy
              rcases List.mem_cons.1 hy with rfl | hy
              · exact hh.1
              · exact ih _ hh.2.2.2 y hy
          have hap : ∀ y ∈ t0 :: tr, y.2.1.apart ops o = true := by
            intro y hy
            rcases hTS y.1 (hT y hy) j hlt hjnT with h3 | h3 | h3
            · rcases hR.pr y.1 (List.mem_map_of_mem hy) j (waits_pred h3) with h4 | h4
              · exact (getD_tf hjl h4).elim
              · exact absurd h4 hjT
            · rw [notAp j hj y.1 (List.mem_map_of_mem hy)] at h3; cases h3
            · exact apartO_spec h3 (hops _ _ hl y hy) ho
          obtain ⟨e1, e2⟩ := envOf_putAllB (t0 :: tr) _ a hl hs
          have h3 := wpOpIn_of_OPSC ho h2 e2 rfl ((putAll_def _ a).trans hd) hI
          have hdst : ∀ x ∈ t0 :: tr, ∀ t, x.2.1.dst = some t → fl.contains t = true := fun x hx => hfl x.1 (hT x hx) x.2.1 (hops _ _ hl x hx)
          refine wpOpIn_backC (ts := t0 :: tr) (PQ := PQ0 n N w0 fl Q) ho (hfine j o ho) ?_ (fun ⟨_, _, ch, h0, _⟩ => by cases h0) hap hl hs ?_ h3
          · rintro ch w1 ⟨ch', h0, hs1, L2, hI2, hq2⟩
            injection h0 with h0
            subst h0
            refine ⟨hs, L2, hI2, ?_⟩
            have := hq2 (envOf a) (by rw [e1]; exact updAll_but _ _ hdst)
            rwa [putAll_def] at this
          rintro a1 w1 hs1 hl1 ⟨_, hd1, L2, hI2, hA2⟩
          refine pendC hTS hfine hfl k (t0 :: tr) fuel (hdone.setIfInBounds j true) (listed.setIfInBounds j true) a1 w1 L2 (by simp at hk ⊢; omega) (hR.both hjT hlt hjp) hT ?_ hl1 hs1 ((putAll_def _ a1).symm.trans hd1) hI2 hA2
          intro t ht
          exact getD_set_trueT (hTd t ht)

theorem any_of_lexC (hTS : ∀ i ∈ T, ∀ j, j < ops.size → j ∉ T → waits ops i j = true ∨ waits ops j i = true ∨ apartO ops i j = true) (hfine : ∀ (j : Nat) (o : Oper), ops[j]? = some o → fine n o = true) (hfl : ∀ i ∈ T, ∀ o, ops[i]? = some o → ∀ t, o.dst = some t → fl.contains t = true) {hdone : Array Bool} (hTd : ∀ t ∈ T, hdone.getD t true = true) {fuel2 : Nat} : ∀ (m : Nat) (E : List Nat) (S : List ASpec) (listed : Array Bool) (e ef : Env) (X : Hp), E.length + S.length = m → Ready T ops hdone listed (E ++ S.map ASpec.i) → (∀ s ∈ S, s.i ∉ T) → (S.map ASpec.i).Pairwise (fun i j => apartO ops i j = true) →
    LexR P n N w0 ops [] L E e ef → (∀ s ∈ S, s.ok P n ops ef) → KAll S ef (fun e' A => AnyC P r n N w0 ops Q ds fl L T k2 fuel2 hdone e' (A ++ (X ++ L))) → AnyO P r n N w0 ops Q ds (m + (fuel2 + k2)) listed e (X ++ L)
  | 0, E, S, listed, e, ef, X, hm, hR, _, _, hE, hS, hK => by
    have e1 : E = [] := List.eq_nil_of_length_eq_zero (by omega)
    have e2 : S = [] := List.eq_nil_of_length_eq_zero (by omega)
    subst e1; subst e2
    cases hE
    have : hdone = listed := by
      apply Array.ext (by rw [hR.szd, hR.sz])
      intro i h1 h2
      have := hR.fin i (by rw [← hR.sz]; exact h2)
      simpa [h1, h2] using this
    subst this
    rw [Nat.zero_add]
    exact AnyC.any hK
  | m + 1, E, S, listed, e, ef, X, hm, hR, hST, hAA, hE, hS, hK => by
    rintro a w hs rfl hd hI
    by_cases hall : S = [] ∧ ∀ i ∈ E, i ∈ T
    · -- only what floats is left
      obtain ⟨rfl, hET⟩ := hall
      obtain ⟨ts, k1, q2, k3⟩ := lex_pendB hE
      have hlen : ts.length = m + 1 := by have := congrArg List.length k1; simp at this hm ⊢; omega
      obtain ⟨e1, e2⟩ := envOf_putAllB ts _ a q2 hs
      refine pendC (k2 := k2) hTS hfine hfl (m + 1 + (fuel2 + k2)) ts fuel2 hdone listed a w (X ++ L) (by omega) (by rw [k1]; simpa using hR) (fun x hx => hET _ (by rw [← k1]; exact List.mem_map_of_mem hx)) hTd q2 hs hd hI ?_
      rw [e1, k3]; exact hK
    have hnot : ∃ i ∈ E ++ S.map ASpec.i, i ∉ T := by
      match S, hall, hST with
      | [], hall, _ =>
        have : ¬ ∀ i ∈ E, i ∈ T := fun h => hall ⟨rfl, h⟩
        simp only [Classical.not_forall] at this
        obtain ⟨i, hi, hn⟩ := this
        exact ⟨i, by simp [hi], hn⟩
      | s :: S, _, hST => exact ⟨s.i, by simp, hST s List.mem_cons_self⟩
    have hf : m + 1 + (fuel2 + k2) = (m + (fuel2 + k2)) + 1 := by omega
    rw [hf]
    unfold wpAnyIn
    have notAp : ∀ j, j ∈ Region.ready .any ops listed → ∀ i ∈ E ++ S.map ASpec.i, waits ops j i = false := by
      intro j hj i hi
      cases hw : waits ops j i with
      | false => rfl
      | true => exact (getD_tf (hR.un i hi) ((ready_preds hj).2 i (waits_pred hw))).elim
    refine ⟨fun h0 => ?_, fun j hj => ?_⟩
    · exfalso
      match hU : E ++ S.map ASpec.i, hR with
      | [], _ =>
        have := congrArg List.length hU
        rw [List.length_append, List.length_map, List.length_nil] at this
        omega
      | j :: U, hR =>
        have hj : j ∈ Region.ready .any ops listed := by
          rw [mem_ready]
          refine ⟨hR.un j List.mem_cons_self, ?_⟩
          have hlt := (hR.self j List.mem_cons_self).2
          refine ⟨ops[j], Array.getElem?_eq_getElem hlt, fun ed he hb => ?_⟩
          have hp : ed.on ∈ preds ops j := by
            unfold preds
            rw [Array.getElem?_eq_getElem hlt]
            simp only [List.mem_map, List.mem_filter]
            exact ⟨ed, ⟨by simpa using he, hb⟩, rfl⟩
          rcases hR.pr j List.mem_cons_self _ hp with h1 | h1
          · exact h1
          · rcases List.mem_cons.1 h1 with h1 | h1
            · have := (hR.self j List.mem_cons_self).1
              have h2 := pred_waits hp
              rw [h1] at h2; rw [h2] at this; cases this
            · have := (List.pairwise_cons.1 hR.fw).1 _ h1
              rw [pred_waits hp] at this; cases this
        rw [h0] at hj; cases hj
    · obtain ⟨hjl, hjp⟩ := ready_preds hj
      by_cases hjE : j ∈ E
      · obtain ⟨T1, T2, rfl⟩ := List.append_of_mem hjE
        have hap : ∀ i ∈ T1, apartO ops i j = true := by
          intro i hi
          have h1 := hR.ap
          rw [List.append_assoc, List.pairwise_append] at h1
          rcases h1.2.2 i hi j (by simp) with h2 | h2
          · rw [notAp j hj i (by simp [hi])] at h2; cases h2
          · exact h2
        obtain ⟨o, v, k1, k2, k3, k4⟩ := hE.pull T1 _ hap
        have hnd := hR.nd
        have hj' : j ∉ (T1 ++ T2) ++ S.map ASpec.i := by
          rw [List.append_assoc] at hnd
          have := List.nodup_append.1 hnd
          simp only [List.cons_append, List.nodup_cons] at this
          intro h
          simp only [List.mem_append] at h
          rcases h with (h | h) | h
          · exact this.2.2 j h j (by simp) rfl
          · exact this.2.1.1 (by simp [h])
          · exact this.2.1.1 (by simp only [List.mem_append]; exact .inr h)
        have hR' : Ready T ops hdone (listed.setIfInBounds j true) ((T1 ++ T2) ++ S.map ASpec.i) := by
          refine hR.next ?_ (by simp) ?_ hj' hjp
          · exact List.Sublist.append (List.Sublist.append (List.Sublist.refl _) (List.sublist_cons_self _ _)) (List.Sublist.refl _)
          · intro i hi
            simp only [List.mem_append, List.mem_cons] at hi ⊢
            rcases hi with (h | h | h) | h
            · exact .inr (.inl (.inl h))
            · exact .inl h
            · exact .inr (.inl (.inr h))
            · exact .inr (.inr h)
        have ih := any_of_lexC hTS hfine hfl hTd m (T1 ++ T2) S (listed.setIfInBounds j true) (updO (envOf a) o.dst v) ef X (by simp at hm ⊢; omega) hR' hST hAA k4 hS hK
        exact wpOpIn_e k1 k2 k3.1 hI fun w' hI' => ih _ _ (size_put.trans hs) (envOf_put hs (fine_spec k2).1) (defers_put.trans hd) hI'
      · by_cases hjS : j ∈ S.map ASpec.i
        · obtain ⟨s, hsS, rfl⟩ := List.mem_map.1 hjS
          obtain ⟨S1, S2, rfl⟩ := List.append_of_mem hsS
          have hok := hS s (by simp)
          have hapE : ∀ i ∈ E, apartO ops i s.i = true := by
            intro i hi
            have h1 := hR.ap
            rw [List.pairwise_append] at h1
            rcases h1.2.2 i hi s.i (by simp) with h2 | h2
            · rw [notAp s.i hj i (by simp [hi])] at h2; cases h2
            · exact h2
          have hapS : ∀ q ∈ S1, apartO ops q.i s.i = true := by
            intro q hq
            have h1 := hR.ap
            rw [List.pairwise_append] at h1
            have h2 := h1.2.1
            rw [List.map_append, List.pairwise_append] at h2
            rcases h2.2.2 q.i (List.mem_map_of_mem hq) s.i (by simp) with h3 | h3
            · rw [notAp s.i hj q.i (by simp; exact .inr (.inl ⟨q, hq, rfl⟩))] at h3; cases h3
            · exact h3
          have hokE := ASpec.back hE hapE hok
          have hnd := hR.nd
          have hnodup : s.i ∉ E ++ (S1 ++ S2).map ASpec.i := by
            simp only [List.map_append, List.map_cons] at hnd
            have h1 := List.nodup_append.1 hnd
            have h2 := List.nodup_append.1 h1.2.1
            simp only [List.nodup_cons] at h2
            intro h
            simp only [List.map_append, List.mem_append] at h
            rcases h with h | h | h
            · exact hjE h
            · exact h2.2.2 _ h _ (by simp) rfl
            · exact h2.2.1.1 h
          have hR' : Ready T ops hdone (listed.setIfInBounds s.i true) (E ++ (S1 ++ S2).map ASpec.i) := by
            refine hR.next ?_ (by simp) ?_ hnodup hjp
            · refine List.Sublist.append (List.Sublist.refl _) ?_
              simp only [List.map_append, List.map_cons]
              exact List.Sublist.append (List.Sublist.refl _) (List.sublist_cons_self _ _)
            · intro i hi
              simp only [List.map_append, List.map_cons, List.mem_append, List.mem_cons] at hi ⊢
              rcases hi with h | h | h | h
              · exact .inr (.inl h)
              · exact .inr (.inr (.inl h))
              · exact .inl h
              · exact .inr (.inr (.inr h))
          have hEu : ∀ b, LexR P n N w0 ops [] L E (updO (envOf a) s.o.dst (s.val b)) (updO ef s.o.dst (s.val b)) := fun b =>
            hE.upd (oj := s.o) rfl fun i hi oi ho => apartO_spec (hapE i hi) ho hok.1
          have hSu : ∀ b, ∀ q ∈ S1 ++ S2, q.ok P n ops (updO ef s.o.dst (s.val b)) := by
            intro b q hq
            have hqok := hS q (by simp only [List.mem_append, List.mem_cons] at hq ⊢; rcases hq with h | h; exact .inl h; exact .inr (.inr h))
            refine ASpec.upd (s := q) ?_ hqok
            rcases List.mem_append.1 hq with hq | hq
            · exact (Oper.apart_spec (apartO_spec (hapS q hq) hqok.1 hok.1)).2.2
            · rw [List.map_append, List.pairwise_append, List.map_cons, List.pairwise_cons] at hAA
              exact (Oper.apart_spec (apartO_spec (hAA.2.1.1 q.i (List.mem_map_of_mem hq)) hok.1 hqok.1)).1
          have hAA' : ((S1 ++ S2).map ASpec.i).Pairwise (fun i j => apartO ops i j = true) := by
            refine hAA.sublist ?_
            simp only [List.map_append, List.map_cons]
            exact List.Sublist.append (List.Sublist.refl _) (List.sublist_cons_self _ _)
          have hKp := hK.pull (s := s) (fun e A A' hp h => h.perm (hp.symm.append_right _)) S1 ef (fun q hq t ht => (Oper.apart_spec (apartO_spec (hapS q hq) (hS q (by simp [hq])).1 hok.1)).2.1 t ht)
          refine wpOpIn_a hokE hI fun b w' hI' => ?_
          have ih := any_of_lexC hTS hfine hfl hTd m E (S1 ++ S2) (listed.setIfInBounds s.i true) _ _ ((b, s.φ) :: X) (by simp at hm ⊢; omega) hR' (fun q hq => hST q (by simp only [List.mem_append, List.mem_cons] at hq ⊢; rcases hq with hh | hh; exact .inl hh; exact .inr (.inr hh))) hAA' (hEu b) (hSu b) ((hKp b).mono fun e' A h => h.perm (by
            rw [List.cons_append, List.cons_append]; exact List.perm_middle))
          exact ih _ _ (size_put.trans hs) (envOf_put hs (fine_spec hok.2.1).1) (defers_put.trans hd) hI'
        · exfalso
          have hlt : j < ops.size := by
            obtain ⟨_, o, ho, _⟩ := mem_ready.1 hj
            exact (Array.getElem?_eq_some_iff.1 ho).1
          have hnd : hdone.getD j true = false := by
            rw [hR.fin j hlt, hjl]
            simp only [Bool.false_or]
            simp only [List.contains_eq_mem, List.mem_append, decide_eq_false_iff_not, not_or]
            exact ⟨hjE, hjS⟩
          obtain ⟨i, hi, hn⟩ := hnot
          have h1 := hR.held j hlt hnd i hi hn
          exact getD_tf (hR.un i hi) (clo_listed hR.closed _ _ hjp i h1)
/-- Operations T may come up behind what writes, in any order: they read B alone, which is not written. -/
theorem WP_drawnC {id : Nat} {l : List Oper} (R B : Hp) (T E A fl : List Nat) {k k2 : Nat} (hL : L.Perm (R ++ B)) (hfl : (T.all fun i => match l[i]? with | some o => (match o.dst with | some t => fl.contains t | none => true) | none => true) = true) (hm : P.follows .mixedOrders = true) (hc : drawChk l.toArray T E A = true) (hf : floatChk n l.toArray T E A = true) (hk : l.length = E.length + A.length + (k + k2))
    (h : EWalk P n N w0 l.toArray [] B E e fun ef => AWalk P n l.toArray A ef ef fun e' A' => AnyC P r n N w0 l.toArray Q ds fl B T k2 k (doneOf l.length (E ++ A)) e' (A' ++ (R ++ B))) : WP P r n N w0 (.region id l.toArray true) Q e ds L := by
  refine WP_draw hm ?_
  refine AnyO.perm hL ?_
  obtain ⟨ef, hE, S, hS1, hS2, hK⟩ := h
  obtain ⟨hR, hAA⟩ := ready_of_chk hc
  subst hS1
  simp only [floatChk, Bool.and_eq_true, List.all_eq_true, Array.all_eq_true, Bool.not_eq_true', List.mem_range, Bool.or_eq_true] at hf
  obtain ⟨hf1, hf2⟩ := hf
  have hlt : ∀ t ∈ T, t < l.length := by
    intro t ht
    have h1 : t ∈ E := by simpa using (hf1 t ht).1.1
    have := (hR.self t (by simp [h1])).2
    simpa using this
  have := any_of_lexC (fl := fl) (P := P) (r := r) (Q := Q) (ds := ds) (fuel2 := k) (k2 := k2) (L := B) (w0 := w0) (N := N) (n := n) (T := T)
    (fun i hi j hj hjT => by
      have h1 := (hf1 i hi).2 j hj
      rcases h1 with ((h1 | h1) | h1) | h1
      · simp at h1; exact absurd h1 hjT
      · exact .inl h1
      · exact .inr (.inl h1)
      · exact .inr (.inr h1))
    (fun j o ho => by
      obtain ⟨h1, h2⟩ := Array.getElem?_eq_some_iff.1 ho
      rw [← h2]; exact hf2 j h1)
    (fun i hi o ho t ht => by
      simp only [List.all_eq_true] at hfl
      have h1 := hfl i hi
      have h2 : l[i]? = some o := by simpa using ho
      rw [h2] at h1
      simp only [ht] at h1
      exact h1)
    (fun t ht => by
      have h1 : t ∈ E := by simpa using (hf1 t ht).1.1
      have h2 := getD_doneOf (k := l.toArray.size) (U := E ++ S.map ASpec.i) (i := t) (by simpa using hlt t ht)
      rw [h2]; simp [h1])
    (E.length + S.length) E S _ e ef R rfl hR (fun s hs ht => by
      have := (hf1 s.i ht).1.2
      simp only [List.contains_eq_mem, decide_eq_false_iff_not] at this
      exact this (List.mem_map_of_mem hs)) hAA hE hS2 hK
  rw [List.length_map] at hk
  rw [← hk] at this
  simpa using this
theorem QC_normal {A : Env → Hp → Prop} (h : A e L) : QC ds fl Q A .normal e ds L := ⟨rfl, h⟩
theorem AnyC_done {listed : Array Bool} (hs : Sub B L) (hr : Region.ready .any ops listed = []) (h : Q .normal e ds L) (hl : lateChk ops T listed = true := by kernel_rfl) : AnyC P r n N w0 ops Q ds fl B T 0 0 listed e L := ⟨hs, hl, L, .refl _, AnyO_done hr h⟩
/-- What is left waits for all that floats: B is free. -/
theorem AnyC_late {listed : Array Bool} (hs : Sub B L) (hl : lateChk ops T listed = true) (h : AnyO P r n N w0 ops Q ds k2 listed e L) : AnyC P r n N w0 ops Q ds fl B T k2 0 listed e L := ⟨hs, hl, L, .refl _, h⟩
end
end Go.Proofs.Ytakmopiceopcpaa
end
