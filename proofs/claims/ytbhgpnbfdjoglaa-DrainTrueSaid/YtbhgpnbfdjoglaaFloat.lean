/- Regions whose order of evaluation is left open: evaluations that may come up behind what writes, since what they read is not written. -/
import Derived.Test.YtbhgpnbfdjoglaaDraw
import Derived.Test.YtbhgpnbfdjoglaaRange
section
namespace Go.Proofs.Ytbhgpnbfdjoglaa
open Go.RowKit
/-- What writes, in every order; B is left alone. -/
def QB (ds : List Deferred) (A : Env → Hp → Prop) : Post
  | .normal, e, ds', L => ds' = ds ∧ A e L
  | _, _, _, _ => False
def AnyB (P : Program) (r : Option Nat) (n N : Nat) (w0 : World) (ops : Array Oper) (Q : Post) (ds : List Deferred) (B : Hp) : Nat → Array Bool → Env → Hp → Prop
  | 0, listed, e, L => Sub B L ∧ Region.ready .any ops listed = [] ∧ ∃ L1, L.Perm L1 ∧ Q .normal e ds L1
  | fuel + 1, listed, e, L => Sub B L ∧ Region.ready .any ops listed ≠ [] ∧ ∀ j ∈ Region.ready .any ops listed, ∃ o, ops[j]? = some o ∧ OPS P r n N w0 ops [o] (QB ds (AnyB P r n N w0 ops Q ds B fuel (listed.setIfInBounds j true))) e ds L
section
variable {P : Program} {r : Option Nat} {n N : Nat} {w0 : World} {ops : Array Oper} {Q : Post} {ds : List Deferred} {e : Env} {L B : Hp}
theorem Sub.perm {B L L' : Hp} (h : Sub B L) (k : L'.Perm L) : Sub B L' := let ⟨L0, h⟩ := h; ⟨L0, k.trans h⟩
theorem AnyB.sub : ∀ {fuel : Nat} {listed : Array Bool}, AnyB P r n N w0 ops Q ds B fuel listed e L → Sub B L
  | 0, _, h => h.1
  | _ + 1, _, h => h.1
theorem AnyB.perm {L' : Hp} (k : L'.Perm L) : ∀ {fuel : Nat} {listed : Array Bool}, AnyB P r n N w0 ops Q ds B fuel listed e L → AnyB P r n N w0 ops Q ds B fuel listed e L'
  | 0, _, h => ⟨h.1.perm k, h.2.1, let ⟨L1, h1, h2⟩ := h.2.2; ⟨L1, k.trans h1, h2⟩⟩
  | _ + 1, _, h => ⟨h.1.perm k, h.2.1, fun j hj => let ⟨o, ho, h3⟩ := h.2.2 j hj; ⟨o, ho, fun a w hs he hd hI => h3 a w hs he hd (hI.perm k)⟩⟩
theorem wpOpIn_of_OPSB {i : Nat} {o : Oper} {A : Env → Hp → Prop} (ho : ops[i]? = some o) (h : OPS P r n N w0 ops [o] (QB ds A) e ds L) {a : Act} {w : World} (hs : a.tmps.size = n) (he : envOf a = e) (hd : a.defers = ds) (hI : Inv N w0 L w) :
    wpOpIn (FW r) 0 P ops (fun _ _ _ => False) i (fun a w => a.tmps.size = n ∧ a.defers = ds ∧ ∃ L', Inv N w0 L' w ∧ A (envOf a) L') a w := by
  have h1 := h a w hs he hd hI
  unfold wpListIn at h1
  unfold wpOpIn
  rw [ho]
  simp only
  have key : ∀ a w, wpListIn (FW r) 0 P ops (PostA n N w0 (QB ds A)) [] a w → (a.tmps.size = n ∧ a.defers = ds ∧ ∃ L', Inv N w0 L' w ∧ A (envOf a) L') := by
    rintro a w ⟨hs', L', hI', hd', hA⟩
    exact ⟨hs', hd', L', hI', hA⟩
  split
  · rename_i hw
    rw [if_pos hw] at h1
    have h2 := Oper.wpIn_mono key h1
    refine ⟨h2.1, uponIn_monoQ (Q1 := PostA n N w0 (QB ds A)) ?_ h2.2⟩
    rintro x a w hx ⟨hs', L', hI', hq⟩
    cases x <;> first
      | exact absurd rfl hx
      | exact hq
  · rename_i hw
    rw [if_neg hw] at h1
    exact ⟨h1.1, key _ _ h1.2⟩
theorem wpOpIn_monoQ {i : Nat} {K : Act → World → Prop} {Q2 : Exit → Act → World → Prop} {a : Act} {w : World} (h : wpOpIn (FW r) 0 P ops (fun _ _ _ => False) i K a w) : wpOpIn (FW r) 0 P ops Q2 i K a w := by
  unfold wpOpIn at h ⊢
  cases ho : ops[i]? with
  | none => rw [ho] at h; exact h
  | some o =>
    rw [ho] at h
    simp only at h ⊢
    split
    · rename_i hw
      rw [if_pos hw] at h
      exact ⟨h.1, uponIn_monoQ (Q1 := fun _ _ _ => False) (fun _ _ _ _ h => h.elim) h.2⟩
    · rename_i hw
      rw [if_neg hw] at h
      exact h
theorem AnyB.any : ∀ {fuel : Nat} {listed : Array Bool} {e : Env} {L : Hp}, AnyB P r n N w0 ops Q ds B fuel listed e L → AnyO P r n N w0 ops Q ds fuel listed e L
  | 0, _, _, _, h => by
    rintro a w hs rfl rfl hI
    obtain ⟨_, h1, L1, h2, h3⟩ := h
    exact ⟨h1, hs, L1, hI.perm h2, h3⟩
  | fuel + 1, listed, e, L, h => by
    rintro a w hs he hd hI
    refine ⟨fun h0 => absurd h0 h.2.1, fun j hj => ?_⟩
    obtain ⟨o, ho, h3⟩ := h.2.2 j hj
    have h4 := wpOpIn_monoQ (Q2 := PostA n N w0 Q) (wpOpIn_of_OPSB ho h3 hs he hd hI)
    refine wpOpIn_mono ?_ h4
    rintro a1 w1 ⟨hs1, hd1, L1, hI1, hA1⟩
    exact AnyB.any hA1 a1 w1 hs1 rfl hd1 hI1

def PLexB (P : Program) (n N : Nat) (w0 : World) (ops : Array Oper) (L : Hp) : Env → List Pd → Prop
  | _, [] => True
  | e, x :: ts => ops[x.1]? = some x.2.1 ∧ fine n x.2.1 = true ∧ EStep P N w0 ops L e x.2.1 x.2.2 ∧ PLexB P n N w0 ops L (updO e x.2.1.dst x.2.2) ts
theorem envOf_putAllB : ∀ (ts : List Pd) (e : Env) (a : Act), PLexB P n N w0 ops L e ts → a.tmps.size = n → envOf (putAll a ts) = updAll (envOf a) ts ∧ (putAll a ts).tmps.size = n
  | [], _, _, _, hs => ⟨rfl, hs⟩
  | x :: ts, e, a, h, hs => by
    obtain ⟨_, h2, _, h4⟩ := h
    have := envOf_putAllB ts _ (a.put x.2.1.dst x.2.2) h4 (size_put.trans hs)
    simp only [putAll, updAll, List.foldl_cons] at this ⊢
    rw [envOf_put hs (fine_spec h2).1] at this
    exact this
theorem PLexB.upd {oj : Oper} {u : Value} : ∀ (ts : List Pd) (e : Env), PLexB P n N w0 ops L e ts → (∀ x ∈ ts, x.2.1.apart ops oj = true) → PLexB P n N w0 ops L (updO e oj.dst u) ts
  | [], _, _, _ => trivial
  | x :: ts, e, h, ha => by
    obtain ⟨h1, h2, h3, h4⟩ := h
    obtain ⟨a1, a2, a3⟩ := Oper.apart_spec (ha x List.mem_cons_self)
    refine ⟨h1, h2, (EStep.of_upd (fine_spec h2).2.2 a3).2 h3, ?_⟩
    rw [← updO_comm a2]
    exact PLexB.upd ts _ h4 (fun y hy => ha y (List.mem_cons_of_mem _ hy))
theorem PLexB.pull {j : Pd} {t2 : List Pd} : ∀ (t1 : List Pd) (e : Env) (a : Act), PLexB P n N w0 ops L e (t1 ++ j :: t2) → (∀ x ∈ t1, x.2.1.apart ops j.2.1 = true) →
    ops[j.1]? = some j.2.1 ∧ fine n j.2.1 = true ∧ EStep P N w0 ops L e j.2.1 j.2.2 ∧ PLexB P n N w0 ops L (updO e j.2.1.dst j.2.2) (t1 ++ t2) ∧ putAll a (t1 ++ j :: t2) = putAll (a.put j.2.1.dst j.2.2) (t1 ++ t2)
  | [], e, a, h, _ => ⟨h.1, h.2.1, h.2.2.1, h.2.2.2, rfl⟩
  | x :: t1, e, a, h, ha => by
    obtain ⟨h1, h2, h3, h4⟩ := h
    obtain ⟨k1, k2, k3, k4, k5⟩ := PLexB.pull t1 _ (a.put x.2.1.dst x.2.2) h4 (fun y hy => ha y (List.mem_cons_of_mem _ hy))
    obtain ⟨a1, a2, a3⟩ := Oper.apart_spec (ha x List.mem_cons_self)
    refine ⟨k1, k2, (EStep.of_upd (fine_spec k2).2.2 a1).1 k3, ⟨h1, h2, (EStep.of_upd (fine_spec h2).2.2 a3).2 h3, ?_⟩, ?_⟩
    · rw [← updO_comm a2]; exact k4
    · simp only [putAll, List.cons_append, List.foldl_cons] at k5 ⊢
      rw [k5, put_comm a2]
theorem wpOpIn_backB {j : Nat} {o : Oper} {ts : List Pd} {K K' : Act → World → Prop} {PQ : Exit → Act → World → Prop} {a : Act} {w : World} (ho : ops[j]? = some o) (hf : fine n o = true) (hq : ∀ ch a w, ¬ PQ (.panic ch) a w) (ha : ∀ x ∈ ts, x.2.1.apart ops o = true)
    (hl : PLexB P n N w0 ops L (envOf a) ts) (hs : a.tmps.size = n) (hk : ∀ a1 w1, a1.tmps.size = n → PLexB P n N w0 ops L (envOf a1) ts → K (putAll a1 ts) w1 → K' a1 w1) (h : wpOpIn (FW r) 0 P ops PQ j K (putAll a ts) w) : wpOpIn (FW r) 0 P ops PQ j K' a w := by
  obtain ⟨f1, f2, f3⟩ := fine_spec hf
  obtain ⟨e1, _⟩ := envOf_putAllB ts _ a hl hs
  obtain ⟨x1, x2⟩ := exec_all (ops := ops) f3 ts (envOf a) ha
  have hp : ∀ x ∈ ts, ∀ t, x.2.1.dst = some t → o.dst ≠ some t := fun x hx => (Oper.apart_spec (ha x hx)).2.1
  have hk' : ∀ (v : Value) (ds : List Deferred) (w : World), K (putAll ({ a with defers := ds }.put o.dst v) ts) w → K' ({ a with defers := ds }.put o.dst v) w := by
    intro v ds w hK
    refine hk _ _ (size_put.trans hs) ?_ hK
    have h1 : envOf (({ a with defers := ds } : Act).put o.dst v) = updO (envOf a) o.dst v := envOf_put (a := { a with defers := ds }) hs f1
    rw [h1]
    exact hl.upd ts _ ha
  unfold wpOpIn at h ⊢
  rw [ho] at h ⊢
  simp only [yieldE_eq, e1, x2] at h ⊢
  split
  · rename_i hw
    rw [if_pos hw] at h
    refine ⟨fun f _ => FW_fn r f, ?_⟩
    have h2 := h.2
    rw [Oper.semAt_eq _ _ _ (isDefer_ne f2), eval_eq] at h2 ⊢
    rw [e1, x1] at h2
    exact uponIn_back hq hp hk' h2
  · rename_i hw
    rw [if_neg hw] at h
    refine ⟨fun f _ => FW_fn r f, ?_⟩
    have h2 := h.2
    rw [putAll_put ts a hp] at h2
    exact hk' undef a.defers w h2

theorem pendB {T : List Nat} (hTS : ∀ i ∈ T, ∀ j, j < ops.size → j ∉ T → waits ops i j = true ∨ waits ops j i = true ∨ apartO ops i j = true) (hfine : ∀ (j : Nat) (o : Oper), ops[j]? = some o → fine n o = true) :
    ∀ (k : Nat) (ts : List Pd) (fuel2 : Nat) (hdone listed : Array Bool) (a : Act) (w : World) (L1 : Hp), ts.length + fuel2 = k → Ready T ops hdone listed (ts.map (·.1)) → (∀ x ∈ ts, x.1 ∈ T) → (∀ t ∈ T, hdone.getD t true = true) → PLexB P n N w0 ops L (envOf a) ts → a.tmps.size = n → a.defers = ds → Inv N w0 L1 w →
      AnyB P r n N w0 ops Q ds L fuel2 hdone (envOf (putAll a ts)) L1 → wpAnyIn (FW r) 0 P .any ops (PostA n N w0 Q) k listed a w
  | k, [], fuel2, hdone, listed, a, w, L1, hk, hR, _, _, _, hs, hd, hI, h => by
    have : hdone = listed := by
      apply Array.ext (by rw [hR.szd, hR.sz])
      intro i h1 h2
      have := hR.fin i (by rw [← hR.sz]; exact h2)
      simpa [h1, h2] using this
    subst this
    simp only [List.length_nil, Nat.zero_add] at hk
    subst hk
    exact h.any a w hs rfl hd hI
  | 0, _ :: _, _, _, _, _, _, _, hk, _, _, _, _, _, _, _, _ => by simp at hk
  | k + 1, t0 :: tr, fuel2, hdone, listed, a, w, L1, hk, hR, hT, hTd, hl, hs, hd, hI, h => by
    have notAp : ∀ j, j ∈ Region.ready .any ops listed → ∀ i ∈ (t0 :: tr).map (·.1), waits ops j i = false := by
      intro j hj i hi
      cases hw : waits ops j i with
      | false => rfl
      | true => exact (getD_tf (hR.un i hi) ((ready_preds hj).2 i (waits_pred hw))).elim
    unfold wpAnyIn
    refine ⟨fun h0 => ?_, fun j hj => ?_⟩
    · exfalso
      have hj : t0.1 ∈ Region.ready .any ops listed := by
        rw [mem_ready]
        refine ⟨hR.un _ List.mem_cons_self, ?_⟩
        have hlt := (hR.self t0.1 List.mem_cons_self).2
        refine ⟨ops[t0.1], Array.getElem?_eq_getElem hlt, fun ed he hb => ?_⟩
        have hp : ed.on ∈ preds ops t0.1 := by
          unfold preds
          rw [Array.getElem?_eq_getElem hlt]
          simp only [List.mem_map, List.mem_filter]
          exact ⟨ed, ⟨by simpa using he, hb⟩, rfl⟩
        rcases hR.pr t0.1 List.mem_cons_self _ hp with h1 | h1
        · exact h1
        · rcases List.mem_cons.1 h1 with h1 | h1
          · have := (hR.self t0.1 List.mem_cons_self).1
            have h2 := pred_waits hp
            rw [h1] at h2; rw [h2] at this; cases this
          · have := (List.pairwise_cons.1 hR.fw).1 _ h1
            rw [pred_waits hp] at this; cases this
      rw [h0] at hj; cases hj
    · obtain ⟨hjl, hjp⟩ := ready_preds hj
      have hlt : j < ops.size := by
        obtain ⟨_, o, ho, _⟩ := mem_ready.1 hj
        exact (Array.getElem?_eq_some_iff.1 ho).1
      by_cases hjT : j ∈ (t0 :: tr).map (·.1)
      · -- it is one that floats
        obtain ⟨x, hx, rfl⟩ := List.mem_map.1 hjT
        obtain ⟨t1, t2, he⟩ := List.append_of_mem hx
        rw [he] at hk hR hT hl h notAp
        have hap : ∀ y ∈ t1, y.2.1.apart ops x.2.1 = true := by
          have hops : ∀ (ts : List Pd) (e : Env), PLexB P n N w0 ops L e ts → ∀ y ∈ ts, ops[y.1]? = some y.2.1 := by
            intro ts
            induction ts with
            | nil => intro _ _ y hy; cases hy
            | cons z ts ih =>
              intro e hh y hy
              rcases List.mem_cons.1 hy with rfl | hy
              · exact hh.1
              · exact ih _ hh.2.2.2 y hy
          intro y hy
          have h1 := hR.ap
          rw [List.map_append, List.pairwise_append] at h1
          rcases h1.2.2 y.1 (List.mem_map_of_mem hy) x.1 (by simp) with h2 | h2
          · rw [notAp x.1 hj y.1 (by simp only [List.map_append, List.mem_append]; exact .inl (List.mem_map_of_mem hy))] at h2; cases h2
          · exact apartO_spec h2 (hops _ _ hl y (by simp [hy])) (hops _ _ hl x (by simp))
        obtain ⟨k1, k2, k3, k4, k5⟩ := PLexB.pull t1 _ a hl hap
        have hnd := hR.nd
        have hj' : x.1 ∉ (t1 ++ t2).map (·.1) := by
          simp only [List.map_append, List.map_cons] at hnd
          have h1 := List.nodup_append.1 hnd
          simp only [List.nodup_cons] at h1
          intro hh
          simp only [List.map_append, List.mem_append] at hh
          rcases hh with hh | hh
          · exact h1.2.2 _ hh _ (by simp) rfl
          · exact h1.2.1.1 hh
        have hR' : Ready T ops hdone (listed.setIfInBounds x.1 true) ((t1 ++ t2).map (·.1)) := by
          refine hR.next ?_ (by simp) ?_ hj' hjp
          · simp only [List.map_append, List.map_cons]
            exact List.Sublist.append (List.Sublist.refl _) (List.sublist_cons_self _ _)
          · intro i hi
            simp only [List.map_append, List.map_cons, List.mem_append, List.mem_cons] at hi ⊢
            rcases hi with hh | hh | hh
            · exact .inr (.inl hh)
            · exact .inl hh
            · exact .inr (.inr hh)
        have hsz : (a.put x.2.1.dst x.2.2).tmps.size = n := size_put.trans hs
        have ih := fun w' (hI' : Inv N w0 L1 w') => pendB hTS hfine k (t1 ++ t2) fuel2 hdone (listed.setIfInBounds x.1 true) (a.put x.2.1.dst x.2.2) w' L1 (by simp at hk ⊢; omega) hR' (fun y hy => hT y (by simp only [List.mem_append, List.mem_cons] at hy ⊢; rcases hy with hh | hh; exact .inl hh; exact .inr (.inr hh))) hTd
          (by rw [envOf_put hs (fine_spec k2).1]; exact k4) hsz (defers_put.trans hd) hI' (by rw [← k5]; exact h)
        obtain ⟨L0, hL0⟩ := h.sub
        exact wpOpIn_e (X := L0) k1 k2 k3 (hI.perm (hL0.trans List.perm_append_comm)) fun w' hI' => ih w' (hI'.perm (hL0.trans List.perm_append_comm).symm)
      · -- it is another one
        have hnd : hdone.getD j true = false := by
          rw [hR.fin j hlt, hjl]
          simp only [Bool.false_or, List.contains_eq_mem, decide_eq_false_iff_not]
          exact hjT
        have hjnT : j ∉ T := fun hh => by have := hTd j hh; rw [hnd] at this; cases this
        have hjr : j ∈ Region.ready .any ops hdone := by
          obtain ⟨_, o, ho, hpre⟩ := mem_ready.1 hj
          refine mem_ready.2 ⟨hnd, o, ho, fun ed he hb => ?_⟩
          have h1 := hpre ed he hb
          have hel : ed.on < ops.size := by
            rw [← hR.sz]
            cases hh : listed[ed.on]? with
            | none => rw [Array.getD_eq_getD_getElem?, hh] at h1; cases h1
            | some b => exact (Array.getElem?_eq_some_iff.1 hh).1
          have h2 := hR.fin ed.on hel
          have h3 : listed.getD ed.on true = true := by
            rw [Array.getD_eq_getD_getElem?] at h1 ⊢
            cases hh : listed[ed.on]? with
            | none => rw [hh] at h1; cases h1
            | some b => rw [hh] at h1; simpa using h1
          rw [h3, Bool.true_or] at h2
          rw [Array.getD_eq_getD_getElem?] at h2 ⊢
          cases hh : hdone[ed.on]? with
          | none => have := Array.getElem?_eq_none_iff.1 hh; rw [hR.szd] at this; omega
          | some b => rw [hh] at h2; simpa using h2
        obtain ⟨o, ho⟩ : ∃ o, ops[j]? = some o := ⟨_, Array.getElem?_eq_getElem hlt⟩
        cases fuel2 with
        | zero =>
          have := h.2.1
          rw [this] at hjr; cases hjr
        | succ fuel =>
          obtain ⟨o', ho', h2⟩ := h.2.2 j hjr
          rw [ho] at ho'; injection ho' with ho'; subst ho'
          have hops : ∀ (ts : List Pd) (e : Env), PLexB P n N w0 ops L e ts → ∀ y ∈ ts, ops[y.1]? = some y.2.1 := by
            intro ts
            induction ts with
            | nil => intro _ _ y hy; cases hy
            | cons z ts ih =>
              intro e hh y hy
              rcases List.mem_cons.1 hy with rfl | hy
              · exact hh.1
              · exact ih _ hh.2.2.2 y hy
          have hap : ∀ y ∈ t0 :: tr, y.2.1.apart ops o = true := by
            intro y hy
            rcases hTS y.1 (hT y hy) j hlt hjnT with h3 | h3 | h3
            · rcases hR.pr y.1 (List.mem_map_of_mem hy) j (waits_pred h3) with h4 | h4
              · exact (getD_tf hjl h4).elim
              · exact absurd h4 hjT
            · rw [notAp j hj y.1 (List.mem_map_of_mem hy)] at h3; cases h3
            · exact apartO_spec h3 (hops _ _ hl y hy) ho
          obtain ⟨e1, e2⟩ := envOf_putAllB (t0 :: tr) _ a hl hs
          have h3 := wpOpIn_of_OPSB ho h2 e2 rfl ((putAll_def _ a).trans hd) hI
          refine wpOpIn_monoQ (wpOpIn_backB (ts := t0 :: tr) ho (hfine j o ho) (fun _ _ _ h => h) hap hl hs ?_ h3)
          rintro a1 w1 hs1 hl1 ⟨_, hd1, L2, hI2, hA2⟩
          refine pendB hTS hfine k (t0 :: tr) fuel (hdone.setIfInBounds j true) (listed.setIfInBounds j true) a1 w1 L2 (by simp at hk ⊢; omega) (hR.both hjT hlt hjp) hT ?_ hl1 hs1 ((putAll_def _ a1).symm.trans hd1) hI2 hA2
          intro t ht
          exact getD_set_trueT (hTd t ht)

theorem lex_pendB : ∀ {E : List Nat} {e ef : Env}, LexR P n N w0 ops [] L E e ef → ∃ ts : List Pd, ts.map (·.1) = E ∧ PLexB P n N w0 ops L e ts ∧ updAll e ts = ef := by
  intro E e ef h
  induction h with
  | nil => exact ⟨[], rfl, trivial, rfl⟩
  | cons h1 h2 h3 h4 ih =>
    obtain ⟨ts, k1, k2, k3⟩ := ih
    exact ⟨(_, _, _) :: ts, by simp [k1], ⟨h1, h2, h3.1, k2⟩, k3⟩

theorem any_of_lexB {T : List Nat} (hTS : ∀ i ∈ T, ∀ j, j < ops.size → j ∉ T → waits ops i j = true ∨ waits ops j i = true ∨ apartO ops i j = true) (hfine : ∀ (j : Nat) (o : Oper), ops[j]? = some o → fine n o = true) {hdone : Array Bool} (hTd : ∀ t ∈ T, hdone.getD t true = true) {fuel2 : Nat} : ∀ (m : Nat) (E : List Nat) (S : List ASpec) (listed : Array Bool) (e ef : Env) (X : Hp), E.length + S.length = m → Ready T ops hdone listed (E ++ S.map ASpec.i) → (∀ s ∈ S, s.i ∉ T) → (S.map ASpec.i).Pairwise (fun i j => apartO ops i j = true) →
    LexR P n N w0 ops [] L E e ef → (∀ s ∈ S, s.ok P n ops ef) → KAll S ef (fun e' A => AnyB P r n N w0 ops Q ds L fuel2 hdone e' (A ++ (X ++ L))) → AnyO P r n N w0 ops Q ds (m + fuel2) listed e (X ++ L)
  | 0, E, S, listed, e, ef, X, hm, hR, _, _, hE, hS, hK => by
    have e1 : E = [] := List.eq_nil_of_length_eq_zero (by omega)
    have e2 : S = [] := List.eq_nil_of_length_eq_zero (by omega)
    subst e1; subst e2
    cases hE
    have : hdone = listed := by
      apply Array.ext (by rw [hR.szd, hR.sz])
      intro i h1 h2
      have := hR.fin i (by rw [← hR.sz]; exact h2)
      simpa [h1, h2] using this
    subst this
    rw [Nat.zero_add]
    exact AnyB.any hK
  | m + 1, E, S, listed, e, ef, X, hm, hR, hST, hAA, hE, hS, hK => by
    rintro a w hs rfl hd hI
    by_cases hall : S = [] ∧ ∀ i ∈ E, i ∈ T
    · -- only what floats is left
      obtain ⟨rfl, hET⟩ := hall
      obtain ⟨ts, k1, k2, k3⟩ := lex_pendB hE
      have hlen : ts.length = m + 1 := by have := congrArg List.length k1; simp at this hm ⊢; omega
      obtain ⟨e1, e2⟩ := envOf_putAllB ts _ a k2 hs
      refine pendB hTS hfine (m + 1 + fuel2) ts fuel2 hdone listed a w (X ++ L) (by omega) (by rw [k1]; simpa using hR) (fun x hx => hET _ (by rw [← k1]; exact List.mem_map_of_mem hx)) hTd k2 hs hd hI ?_
      rw [e1, k3]; exact hK
    have hnot : ∃ i ∈ E ++ S.map ASpec.i, i ∉ T := by
      match S, hall, hST with
      | [], hall, _ =>
        have : ¬ ∀ i ∈ E, i ∈ T := fun h => hall ⟨rfl, h⟩
        simp only [Classical.not_forall] at this
        obtain ⟨i, hi, hn⟩ := this
        exact ⟨i, by simp [hi], hn⟩
      | s :: S, _, hST => exact ⟨s.i, by simp, hST s List.mem_cons_self⟩
    have hf : m + 1 + fuel2 = (m + fuel2) + 1 := by omega
    rw [hf]
    unfold wpAnyIn
    have notAp : ∀ j, j ∈ Region.ready .any ops listed → ∀ i ∈ E ++ S.map ASpec.i, waits ops j i = false := by
      intro j hj i hi
      cases hw : waits ops j i with
      | false => rfl
      | true => exact (getD_tf (hR.un i hi) ((ready_preds hj).2 i (waits_pred hw))).elim
    refine ⟨fun h0 => ?_, fun j hj => ?_⟩
    · exfalso
      match hU : E ++ S.map ASpec.i, hR with
      | [], _ =>
        have := congrArg List.length hU
        rw [List.length_append, List.length_map, List.length_nil] at this
        omega
      | j :: U, hR =>
        have hj : j ∈ Region.ready .any ops listed := by
          rw [mem_ready]
          refine ⟨hR.un j List.mem_cons_self, ?_⟩
          have hlt := (hR.self j List.mem_cons_self).2
          refine ⟨ops[j], Array.getElem?_eq_getElem hlt, fun ed he hb => ?_⟩
          have hp : ed.on ∈ preds ops j := by
            unfold preds
            rw [Array.getElem?_eq_getElem hlt]
            simp only [List.mem_map, List.mem_filter]
            exact ⟨ed, ⟨by simpa using he, hb⟩, rfl⟩
          rcases hR.pr j List.mem_cons_self _ hp with h1 | h1
          · exact h1
          · rcases List.mem_cons.1 h1 with h1 | h1
            · have := (hR.self j List.mem_cons_self).1
              have h2 := pred_waits hp
              rw [h1] at h2; rw [h2] at this; cases this
            · have := (List.pairwise_cons.1 hR.fw).1 _ h1
              rw [pred_waits hp] at this; cases this
        rw [h0] at hj; cases hj
    · obtain ⟨hjl, hjp⟩ := ready_preds hj
      by_cases hjE : j ∈ E
      · obtain ⟨T1, T2, rfl⟩ := List.append_of_mem hjE
        have hap : ∀ i ∈ T1, apartO ops i j = true := by
          intro i hi
          have h1 := hR.ap
          rw [List.append_assoc, List.pairwise_append] at h1
          rcases h1.2.2 i hi j (by simp) with h2 | h2
          · rw [notAp j hj i (by simp [hi])] at h2; cases h2
          · exact h2
        obtain ⟨o, v, k1, k2, k3, k4⟩ := hE.pull T1 _ hap
        have hnd := hR.nd
        have hj' : j ∉ (T1 ++ T2) ++ S.map ASpec.i := by
          rw [List.append_assoc] at hnd
          have := List.nodup_append.1 hnd
          simp only [List.cons_append, List.nodup_cons] at this
          intro h
          simp only [List.mem_append] at h
          rcases h with (h | h) | h
          · exact this.2.2 j h j (by simp) rfl
          · exact this.2.1.1 (by simp [h])
          · exact this.2.1.1 (by simp only [List.mem_append]; exact .inr h)
        have hR' : Ready T ops hdone (listed.setIfInBounds j true) ((T1 ++ T2) ++ S.map ASpec.i) := by
          refine hR.next ?_ (by simp) ?_ hj' hjp
          · exact List.Sublist.append (List.Sublist.append (List.Sublist.refl _) (List.sublist_cons_self _ _)) (List.Sublist.refl _)
          · intro i hi
            simp only [List.mem_append, List.mem_cons] at hi ⊢
            rcases hi with (h | h | h) | h
            · exact .inr (.inl (.inl h))
            · exact .inl h
            · exact .inr (.inl (.inr h))
            · exact .inr (.inr h)
        have ih := any_of_lexB hTS hfine hTd m (T1 ++ T2) S (listed.setIfInBounds j true) (updO (envOf a) o.dst v) ef X (by simp at hm ⊢; omega) hR' hST hAA k4 hS hK
        exact wpOpIn_e k1 k2 k3.1 hI fun w' hI' => ih _ _ (size_put.trans hs) (envOf_put hs (fine_spec k2).1) (defers_put.trans hd) hI'
      · by_cases hjS : j ∈ S.map ASpec.i
        · obtain ⟨s, hsS, rfl⟩ := List.mem_map.1 hjS
          obtain ⟨S1, S2, rfl⟩ := List.append_of_mem hsS
          have hok := hS s (by simp)
          have hapE : ∀ i ∈ E, apartO ops i s.i = true := by
            intro i hi
            have h1 := hR.ap
            rw [List.pairwise_append] at h1
            rcases h1.2.2 i hi s.i (by simp) with h2 | h2
            · rw [notAp s.i hj i (by simp [hi])] at h2; cases h2
            · exact h2
          have hapS : ∀ q ∈ S1, apartO ops q.i s.i = true := by
            intro q hq
            have h1 := hR.ap
            rw [List.pairwise_append] at h1
            have h2 := h1.2.1
            rw [List.map_append, List.pairwise_append] at h2
            rcases h2.2.2 q.i (List.mem_map_of_mem hq) s.i (by simp) with h3 | h3
            · rw [notAp s.i hj q.i (by simp; exact .inr (.inl ⟨q, hq, rfl⟩))] at h3; cases h3
            · exact h3
          have hokE := ASpec.back hE hapE hok
          have hnd := hR.nd
          have hnodup : s.i ∉ E ++ (S1 ++ S2).map ASpec.i := by
            simp only [List.map_append, List.map_cons] at hnd
            have h1 := List.nodup_append.1 hnd
            have h2 := List.nodup_append.1 h1.2.1
            simp only [List.nodup_cons] at h2
            intro h
            simp only [List.map_append, List.mem_append] at h
            rcases h with h | h | h
            · exact hjE h
            · exact h2.2.2 _ h _ (by simp) rfl
            · exact h2.2.1.1 h
          have hR' : Ready T ops hdone (listed.setIfInBounds s.i true) (E ++ (S1 ++ S2).map ASpec.i) := by
            refine hR.next ?_ (by simp) ?_ hnodup hjp
            · refine List.Sublist.append (List.Sublist.refl _) ?_
              simp only [List.map_append, List.map_cons]
              exact List.Sublist.append (List.Sublist.refl _) (List.sublist_cons_self _ _)
            · intro i hi
              simp only [List.map_append, List.map_cons, List.mem_append, List.mem_cons] at hi ⊢
              rcases hi with h | h | h | h
              · exact .inr (.inl h)
              · exact .inr (.inr (.inl h))
              · exact .inl h
              · exact .inr (.inr (.inr h))
          have hEu : ∀ b, LexR P n N w0 ops [] L E (updO (envOf a) s.o.dst (s.val b)) (updO ef s.o.dst (s.val b)) := fun b =>
            hE.upd (oj := s.o) rfl fun i hi oi ho => apartO_spec (hapE i hi) ho hok.1
          have hSu : ∀ b, ∀ q ∈ S1 ++ S2, q.ok P n ops (updO ef s.o.dst (s.val b)) := by
            intro b q hq
            have hqok := hS q (by simp only [List.mem_append, List.mem_cons] at hq ⊢; rcases hq with h | h; exact .inl h; exact .inr (.inr h))
            refine ASpec.upd (s := q) ?_ hqok
            rcases List.mem_append.1 hq with hq | hq
            · exact (Oper.apart_spec (apartO_spec (hapS q hq) hqok.1 hok.1)).2.2
            · rw [List.map_append, List.pairwise_append, List.map_cons, List.pairwise_cons] at hAA
              exact (Oper.apart_spec (apartO_spec (hAA.2.1.1 q.i (List.mem_map_of_mem hq)) hok.1 hqok.1)).1
          have hAA' : ((S1 ++ S2).map ASpec.i).Pairwise (fun i j => apartO ops i j = true) := by
            refine hAA.sublist ?_
            simp only [List.map_append, List.map_cons]
            exact List.Sublist.append (List.Sublist.refl _) (List.sublist_cons_self _ _)
          have hKp := hK.pull (s := s) (fun e A A' hp h => h.perm (hp.symm.append_right _)) S1 ef (fun q hq t ht => (Oper.apart_spec (apartO_spec (hapS q hq) (hS q (by simp [hq])).1 hok.1)).2.1 t ht)
          refine wpOpIn_a hokE hI fun b w' hI' => ?_
          have ih := any_of_lexB hTS hfine hTd m E (S1 ++ S2) (listed.setIfInBounds s.i true) _ _ ((b, s.φ) :: X) (by simp at hm ⊢; omega) hR' (fun q hq => hST q (by simp only [List.mem_append, List.mem_cons] at hq ⊢; rcases hq with hh | hh; exact .inl hh; exact .inr (.inr hh))) hAA' (hEu b) (hSu b) ((hKp b).mono fun e' A h => h.perm (by
            rw [List.cons_append, List.cons_append]; exact List.perm_middle))
          exact ih _ _ (size_put.trans hs) (envOf_put hs (fine_spec hok.2.1).1) (defers_put.trans hd) hI'
        · exfalso
          have hlt : j < ops.size := by
            obtain ⟨_, o, ho, _⟩ := mem_ready.1 hj
            exact (Array.getElem?_eq_some_iff.1 ho).1
          have hnd : hdone.getD j true = false := by
            rw [hR.fin j hlt, hjl]
            simp only [Bool.false_or]
            simp only [List.contains_eq_mem, List.mem_append, decide_eq_false_iff_not, not_or]
            exact ⟨hjE, hjS⟩
          obtain ⟨i, hi, hn⟩ := hnot
          have h1 := hR.held j hlt hnd i hi hn
          exact getD_tf (hR.un i hi) (clo_listed hR.closed _ _ hjp i h1)
/-- Operations F may come up behind what writes, in any order: they read what is not written. -/
theorem WP_drawnF {id : Nat} {l : List Oper} (T E A : List Nat) {k : Nat} (hm : P.follows .mixedOrders = true) (hc : drawChk l.toArray T E A = true) (hf : floatChk n l.toArray T E A = true) (hk : l.length = E.length + A.length + k)
    (h : EWalk P n N w0 l.toArray [] L E e fun ef => AWalk P n l.toArray A ef ef fun e' A' => AnyB P r n N w0 l.toArray Q ds L k (doneOf l.length (E ++ A)) e' (A' ++ L)) : WP P r n N w0 (.region id l.toArray true) Q e ds L := by
  refine WP_draw hm ?_
  obtain ⟨ef, hE, S, hS1, hS2, hK⟩ := h
  obtain ⟨hR, hAA⟩ := ready_of_chk hc
  subst hS1
  simp only [floatChk, Bool.and_eq_true, List.all_eq_true, Array.all_eq_true, Bool.not_eq_true', List.mem_range, Bool.or_eq_true] at hf
  obtain ⟨hf1, hf2⟩ := hf
  have hlt : ∀ t ∈ T, t < l.length := by
    intro t ht
    have h1 : t ∈ E := by simpa using (hf1 t ht).1.1
    have := (hR.self t (by simp [h1])).2
    simpa using this
  have := any_of_lexB (P := P) (r := r) (Q := Q) (ds := ds) (fuel2 := k) (L := L) (w0 := w0) (N := N) (n := n) (T := T)
    (fun i hi j hj hjT => by
      have h1 := (hf1 i hi).2 j hj
      rcases h1 with ((h1 | h1) | h1) | h1
      · simp at h1; exact absurd h1 hjT
      · exact .inl h1
      · exact .inr (.inl h1)
      · exact .inr (.inr h1))
    (fun j o ho => by
      obtain ⟨h1, h2⟩ := Array.getElem?_eq_some_iff.1 ho
      rw [← h2]; exact hf2 j h1)
    (fun t ht => by
      have h1 : t ∈ E := by simpa using (hf1 t ht).1.1
      have h2 := getD_doneOf (k := l.toArray.size) (U := E ++ S.map ASpec.i) (i := t) (by simpa using hlt t ht)
      rw [h2]; simp [h1])
    (E.length + S.length) E S _ e ef [] rfl hR (fun s hs ht => by
      have := (hf1 s.i ht).1.2
      simp only [List.contains_eq_mem, decide_eq_false_iff_not] at this
      exact this (List.mem_map_of_mem hs)) hAA hE hS2 hK
  rw [List.length_map] at hk
  rw [← hk] at this
  simpa using this
theorem QB_normal {A : Env → Hp → Prop} (h : A e L) : QB ds A .normal e ds L := ⟨rfl, h⟩
theorem AnyB_done {listed : Array Bool} (hs : Sub B L) (hr : Region.ready .any ops listed = []) (h : Q .normal e ds L) : AnyB P r n N w0 ops Q ds B 0 listed e L := ⟨hs, hr, L, .refl _, h⟩
theorem AnyB_1 {fuel : Nat} {listed : Array Bool} (i : Nat) {o : Oper} (hs : Sub B L) (hr : Region.ready .any ops listed = [i]) (ho : ops[i]? = some o) (h : OPS P r n N w0 ops [o] (QB ds (AnyB P r n N w0 ops Q ds B fuel (listed.setIfInBounds i true))) e ds L) :
    AnyB P r n N w0 ops Q ds B (fuel + 1) listed e L := by
  refine ⟨hs, by rw [hr]; simp, fun j hj => ?_⟩
  rw [hr] at hj
  rcases List.mem_cons.1 hj with rfl | hj
  · exact ⟨o, ho, h⟩
  · cases hj
theorem AnyB_2 {fuel : Nat} {listed : Array Bool} (i j : Nat) {o o' : Oper} (hs : Sub B L) (hr : Region.ready .any ops listed = [i, j]) (ho : ops[i]? = some o) (ho' : ops[j]? = some o') (h : OPS P r n N w0 ops [o] (QB ds (AnyB P r n N w0 ops Q ds B fuel (listed.setIfInBounds i true))) e ds L)
    (h' : OPS P r n N w0 ops [o'] (QB ds (AnyB P r n N w0 ops Q ds B fuel (listed.setIfInBounds j true))) e ds L) :
    AnyB P r n N w0 ops Q ds B (fuel + 1) listed e L := by
  refine ⟨hs, by rw [hr]; simp, fun q hq => ?_⟩
  rw [hr] at hq
  rcases List.mem_cons.1 hq with rfl | hq
  · exact ⟨o, ho, h⟩
  · rcases List.mem_cons.1 hq with rfl | hq
    · exact ⟨o', ho', h'⟩
    · cases hq
theorem AnyB_3 {fuel : Nat} {listed : Array Bool} (i j k : Nat) {o o' o'' : Oper} (hs : Sub B L) (hr : Region.ready .any ops listed = [i, j, k]) (ho : ops[i]? = some o) (ho' : ops[j]? = some o') (ho'' : ops[k]? = some o'') (h : OPS P r n N w0 ops [o] (QB ds (AnyB P r n N w0 ops Q ds B fuel (listed.setIfInBounds i true))) e ds L)
    (h' : OPS P r n N w0 ops [o'] (QB ds (AnyB P r n N w0 ops Q ds B fuel (listed.setIfInBounds j true))) e ds L) (h'' : OPS P r n N w0 ops [o''] (QB ds (AnyB P r n N w0 ops Q ds B fuel (listed.setIfInBounds k true))) e ds L) :
    AnyB P r n N w0 ops Q ds B (fuel + 1) listed e L := by
  refine ⟨hs, by rw [hr]; simp, fun q hq => ?_⟩
  rw [hr] at hq
  rcases List.mem_cons.1 hq with rfl | hq
  · exact ⟨o, ho, h⟩
  · rcases List.mem_cons.1 hq with rfl | hq
    · exact ⟨o', ho', h'⟩
    · rcases List.mem_cons.1 hq with rfl | hq
      · exact ⟨o'', ho'', h''⟩
      · cases hq
theorem Sub.left {L0 : Hp} : Sub B (B ++ L0) := ⟨L0, .refl _⟩
inductive Pick {α : Type} (x : α) : List α → List α → Prop
  | here {l : List α} : Pick x (x :: l) l
  | there {y : α} {l l' : List α} (h : Pick x l l') : Pick x (y :: l) (y :: l')
theorem Pick.perm {α : Type} {x : α} {l l' : List α} (h : Pick x l l') : l.Perm (x :: l') := by
  induction h with
  | here => exact .refl _
  | there _ ih => exact (ih.cons _).trans (.swap _ _ _)
theorem Sub.pick {x : Nat × (Obj → Prop)} {L' : Hp} (h : Pick x L L') (k : Sub B L') : Sub (x :: B) L := let ⟨L0, k⟩ := k; ⟨L0, h.perm.trans (k.cons x)⟩
theorem Perm.pick {x : Nat × (Obj → Prop)} {A L' : Hp} (h : Pick x L L') (k : A.Perm L') : List.Perm (x :: A) L := (k.cons x).trans h.perm.symm
theorem Sub.keep {x : Nat × (Obj → Prop)} (h : Sub B L) : Sub (x :: B) (x :: L) := let ⟨L0, h⟩ := h; ⟨L0, h.cons x⟩
theorem upd_lt {d d' : Nat} {v v' : Value} (h : Nat.blt d d' = true) : upd (upd e d' v') d v = upd (upd e d v) d' v' := by
  have hne : d ≠ d' := fun h' => by subst h'; simp [Nat.blt_eq] at h
  exact (updO_comm (d := some d') (d' := some d) (fun t ht h2 => by injection ht with ht; injection h2 with h2; exact hne (h2.trans ht.symm)))
end
end Go.Proofs.Ytbhgpnbfdjoglaa
end
