/- Operations that float behind a write read what is not written; those ahead of it read all. -/
import Derived.Test.YtbhgpnbfdjoglaaFloat2
section
namespace Go.Proofs.Ytbhgpnbfdjoglaa
open Go.RowKit
section
variable {P : Program} {r : Option Nat} {n N : Nat} {w0 : World} {ops : Array Oper} {Q : Post} {ds : List Deferred} {e : Env} {L B Y : Hp} {fl T : List Nat} {k2 : Nat}
def QStep (P : Program) (N : Nat) (w0 : World) (ops : Array Oper) (T : List Nat) (Y B : Hp) (i : Nat) (e : Env) (o : Oper) (v : Value) : Prop := EStep P N w0 ops Y e o v ∧ (i ∈ T → EStep P N w0 ops B e o v)
theorem QStep.of_upd {i : Nat} {o : Oper} {v : Value} {d : Option Nat} {u : Value} (hs : notSel o = true) (h : ∀ t, d = some t → t ∉ o.looksAt ops) : QStep P N w0 ops T Y B i (updO e d u) o v ↔ QStep P N w0 ops T Y B i e o v := by
  unfold QStep
  rw [EStep.of_upd hs h, EStep.of_upd hs h]
inductive LexQ (P : Program) (n N : Nat) (w0 : World) (ops : Array Oper) (T : List Nat) (Y B : Hp) : List Nat → Env → Env → Prop
  | nil {e : Env} : LexQ P n N w0 ops T Y B [] e e
  | cons {i : Nat} {l : List Nat} {e e' : Env} {o : Oper} {v : Value} (h1 : ops[i]? = some o) (h2 : fine n o = true) (h3 : QStep P N w0 ops T Y B i e o v) (h4 : LexQ P n N w0 ops T Y B l (updO e o.dst v) e') : LexQ P n N w0 ops T Y B (i :: l) e e'
theorem LexQ.pull {j : Nat} {T2 : List Nat} {ef : Env} : ∀ (T1 : List Nat) (e : Env), LexQ P n N w0 ops T Y B (T1 ++ j :: T2) e ef → (∀ i ∈ T1, apartO ops i j = true) →
    ∃ o v, ops[j]? = some o ∧ fine n o = true ∧ QStep P N w0 ops T Y B j e o v ∧ LexQ P n N w0 ops T Y B (T1 ++ T2) (updO e o.dst v) ef
  | [], e, h, _ => by
    cases h with
    | cons h1 h2 h3 h4 => exact ⟨_, _, h1, h2, h3, h4⟩
  | i :: T1, e, h, ha => by
    cases h with
    | cons h1 h2 h3 h4 =>
      obtain ⟨oj, vj, k1, k2, k3, k4⟩ := LexQ.pull T1 _ h4 (fun k hk => ha k (List.mem_cons_of_mem _ hk))
      obtain ⟨a1, a2, a3⟩ := Oper.apart_spec (apartO_spec (ha i List.mem_cons_self) h1 k1)
      refine ⟨oj, vj, k1, k2, (QStep.of_upd (fine_spec k2).2.2 a1).1 k3, .cons h1 h2 ((QStep.of_upd (fine_spec h2).2.2 a3).2 h3) ?_⟩
      rw [← updO_comm a2]
      exact k4
/-- Evaluations mind no slot that they do not look at. -/
theorem LexQ.upd {d : Option Nat} {u : Value} {oj : Oper} (hd : oj.dst = d) : ∀ {E : List Nat} {e ef : Env}, LexQ P n N w0 ops T Y B E e ef → (∀ i ∈ E, ∀ oi, ops[i]? = some oi → oi.apart ops oj = true) → LexQ P n N w0 ops T Y B E (updO e d u) (updO ef d u) := by
  intro E e ef h
  induction h with
  | nil => exact fun _ => .nil
  | cons h1 h2 h3 h4 ih =>
    intro ha
    obtain ⟨a1, a2, a3⟩ := Oper.apart_spec (ha _ List.mem_cons_self _ h1)
    subst hd
    refine .cons h1 h2 ((QStep.of_upd (fine_spec h2).2.2 a3).2 h3) ?_
    rw [← updO_comm a2]
    exact ih (fun i hi => ha i (List.mem_cons_of_mem _ hi))
theorem ASpec.backQ {s : ASpec} : ∀ {E : List Nat} {e ef : Env}, LexQ P n N w0 ops T Y B E e ef → (∀ i ∈ E, apartO ops i s.i = true) → s.ok P n ops ef → s.ok P n ops e := by
  intro E e ef h
  induction h with
  | nil => exact fun _ h => h
  | cons h1 h2 h3 h4 ih =>
    intro ha hs
    obtain ⟨k1, k2, k3, k4, k5⟩ := ih (fun i hi => ha i (List.mem_cons_of_mem _ hi)) hs
    obtain ⟨a1, _, _⟩ := Oper.apart_spec (apartO_spec (ha _ List.mem_cons_self) h1 k1)
    refine ⟨k1, k2, by rw [← wanted_updO a1]; exact k3, k4, ?_⟩
    unfold New at k5 ⊢
    rw [← exec_updO (fine_spec k2).2.2 a1]; exact k5
theorem lex_pendQ : ∀ {E : List Nat} {e ef : Env}, LexQ P n N w0 ops T Y B E e ef → (∀ i ∈ E, i ∈ T) → ∃ ts : List Pd, ts.map (·.1) = E ∧ PLexB P n N w0 ops B e ts ∧ updAll e ts = ef := by
  intro E e ef h
  induction h with
  | nil => exact fun _ => ⟨[], rfl, trivial, rfl⟩
  | cons h1 h2 h3 h4 ih =>
    intro hT
    obtain ⟨ts, k1, k2, k3⟩ := ih fun i hi => hT i (List.mem_cons_of_mem _ hi)
    exact ⟨(_, _, _) :: ts, by simp [k1], ⟨h1, h2, h3.2 (hT _ List.mem_cons_self), k2⟩, k3⟩
theorem any_of_lexQ (hTS : ∀ i ∈ T, ∀ j, j < ops.size → j ∉ T → waits ops i j = true ∨ waits ops j i = true ∨ apartO ops i j = true) (hfine : ∀ (j : Nat) (o : Oper), ops[j]? = some o → fine n o = true) (hfl : ∀ i ∈ T, ∀ o, ops[i]? = some o → ∀ t, o.dst = some t → fl.contains t = true) {hdone : Array Bool} (hTd : ∀ t ∈ T, hdone.getD t true = true) {fuel2 : Nat} : ∀ (m : Nat) (E : List Nat) (S : List ASpec) (listed : Array Bool) (e ef : Env) (X : Hp), E.length + S.length = m → Ready T ops hdone listed (E ++ S.map ASpec.i) → (∀ s ∈ S, s.i ∉ T) → (S.map ASpec.i).Pairwise (fun i j => apartO ops i j = true) →
    LexQ P n N w0 ops T Y B E e ef → (∀ s ∈ S, s.ok P n ops ef) → KAll S ef (fun e' A => AnyC P r n N w0 ops Q ds fl B T k2 fuel2 hdone e' (A ++ (X ++ Y))) → AnyO P r n N w0 ops Q ds (m + (fuel2 + k2)) listed e (X ++ Y)
  | 0, E, S, listed, e, ef, X, hm, hR, _, _, hE, hS, hK => by
    have e1 : E = [] := List.eq_nil_of_length_eq_zero (by omega)
    have e2 : S = [] := List.eq_nil_of_length_eq_zero (by omega)
    subst e1; subst e2
    cases hE
    have : hdone = listed := by
      apply Array.ext (by rw [hR.szd, hR.sz])
      intro i h1 h2
      have := hR.fin i (by rw [← hR.sz]; exact h2)
      simpa [h1, h2] using this
    subst this
    rw [Nat.zero_add]
    exact AnyC.any hK
  | m + 1, E, S, listed, e, ef, X, hm, hR, hST, hAA, hE, hS, hK => by
    rintro a w hs rfl hd hI
    by_cases hall : S = [] ∧ ∀ i ∈ E, i ∈ T
    · -- only what floats is left
      obtain ⟨rfl, hET⟩ := hall
      obtain ⟨ts, k1, q2, k3⟩ := lex_pendQ hE hET
      have hlen : ts.length = m + 1 := by have := congrArg List.length k1; simp at this hm ⊢; omega
      obtain ⟨e1, e2⟩ := envOf_putAllB ts _ a q2 hs
      refine pendC (k2 := k2) hTS hfine hfl (m + 1 + (fuel2 + k2)) ts fuel2 hdone listed a w (X ++ Y) (by omega) (by rw [k1]; simpa using hR) (fun x hx => hET _ (by rw [← k1]; exact List.mem_map_of_mem hx)) hTd q2 hs hd hI ?_
      rw [e1, k3]; exact hK
    have hnot : ∃ i ∈ E ++ S.map ASpec.i, i ∉ T := by
      match S, hall, hST with
      | [], hall, _ =>
        have : ¬ ∀ i ∈ E, i ∈ T := fun h => hall ⟨rfl, h⟩
        simp only [Classical.not_forall] at this
        obtain ⟨i, hi, hn⟩ := this
        exact ⟨i, by simp [hi], hn⟩
      | s :: S, _, hST => exact ⟨s.i, by simp, hST s List.mem_cons_self⟩
    have hf : m + 1 + (fuel2 + k2) = (m + (fuel2 + k2)) + 1 := by omega
    rw [hf]
    unfold wpAnyIn
    have notAp : ∀ j, j ∈ Region.ready .any ops listed → ∀ i ∈ E ++ S.map ASpec.i, waits ops j i = false := by
      intro j hj i hi
      cases hw : waits ops j i with
      | false => rfl
      | true => exact (getD_tf (hR.un i hi) ((ready_preds hj).2 i (waits_pred hw))).elim
    refine ⟨fun h0 => ?_, fun j hj => ?_⟩
    · exfalso
      match hU : E ++ S.map ASpec.i, hR with
      | [], _ =>
        have := congrArg List.length hU
        rw [List.length_append, List.length_map, List.length_nil] at this
        omega
      | j :: U, hR =>
        have hj : j ∈ Region.ready .any ops listed := by
          rw [mem_ready]
          refine ⟨hR.un j List.mem_cons_self, ?_⟩
          have hlt := (hR.self j List.mem_cons_self).2
          refine ⟨ops[j], Array.getElem?_eq_getElem hlt, fun ed he hb => ?_⟩
          have hp : ed.on ∈ preds ops j := by
            unfold preds
            rw [Array.getElem?_eq_getElem hlt]
            simp only [List.mem_map, List.mem_filter]
            exact ⟨ed, ⟨by simpa using he, hb⟩, rfl⟩
          rcases hR.pr j List.mem_cons_self _ hp with h1 | h1
          · exact h1
          · rcases List.mem_cons.1 h1 with h1 | h1
            · have := (hR.self j List.mem_cons_self).1
              have h2 := pred_waits hp
              rw [h1] at h2; rw [h2] at this; cases this
            · have := (List.pairwise_cons.1 hR.fw).1 _ h1
              rw [pred_waits hp] at this; cases this
        rw [h0] at hj; cases hj
    · obtain ⟨hjl, hjp⟩ := ready_preds hj
      by_cases hjE : j ∈ E
      · obtain ⟨T1, T2, rfl⟩ := List.append_of_mem hjE
        have hap : ∀ i ∈ T1, apartO ops i j = true := by
          intro i hi
          have h1 := hR.ap
          rw [List.append_assoc, List.pairwise_append] at h1
          rcases h1.2.2 i hi j (by simp) with h2 | h2
          · rw [notAp j hj i (by simp [hi])] at h2; cases h2
          · exact h2
        obtain ⟨o, v, k1, k2, k3, k4⟩ := hE.pull T1 _ hap
        have hnd := hR.nd
        have hj' : j ∉ (T1 ++ T2) ++ S.map ASpec.i := by
          rw [List.append_assoc] at hnd
          have := List.nodup_append.1 hnd
          simp only [List.cons_append, List.nodup_cons] at this
          intro h
          simp only [List.mem_append] at h
          rcases h with (h | h) | h
          · exact this.2.2 j h j (by simp) rfl
          · exact this.2.1.1 (by simp [h])
          · exact this.2.1.1 (by simp only [List.mem_append]; exact .inr h)
        have hR' : Ready T ops hdone (listed.setIfInBounds j true) ((T1 ++ T2) ++ S.map ASpec.i) := by
          refine hR.next ?_ (by simp) ?_ hj' hjp
          · exact List.Sublist.append (List.Sublist.append (List.Sublist.refl _) (List.sublist_cons_self _ _)) (List.Sublist.refl _)
          · intro i hi
            simp only [List.mem_append, List.mem_cons] at hi ⊢
            rcases hi with (h | h | h) | h
            · exact .inr (.inl (.inl h))
            · exact .inl h
            · exact .inr (.inl (.inr h))
            · exact .inr (.inr h)
        have ih := any_of_lexQ hTS hfine hfl hTd m (T1 ++ T2) S (listed.setIfInBounds j true) (updO (envOf a) o.dst v) ef X (by simp at hm ⊢; omega) hR' hST hAA k4 hS hK
        exact wpOpIn_e k1 k2 k3.1 hI fun w' hI' => ih _ _ (size_put.trans hs) (envOf_put hs (fine_spec k2).1) (defers_put.trans hd) hI'
      · by_cases hjS : j ∈ S.map ASpec.i
        · obtain ⟨s, hsS, rfl⟩ := List.mem_map.1 hjS
          obtain ⟨S1, S2, rfl⟩ := List.append_of_mem hsS
          have hok := hS s (by simp)
          have hapE : ∀ i ∈ E, apartO ops i s.i = true := by
            intro i hi
            have h1 := hR.ap
            rw [List.pairwise_append] at h1
            rcases h1.2.2 i hi s.i (by simp) with h2 | h2
            · rw [notAp s.i hj i (by simp [hi])] at h2; cases h2
            · exact h2
          have hapS : ∀ q ∈ S1, apartO ops q.i s.i = true := by
            intro q hq
            have h1 := hR.ap
            rw [List.pairwise_append] at h1
            have h2 := h1.2.1
            rw [List.map_append, List.pairwise_append] at h2
            rcases h2.2.2 q.i (List.mem_map_of_mem hq) s.i (by simp) with h3 | h3
            · rw [notAp s.i hj q.i (by simp; exact .inr (.inl ⟨q, hq, rfl⟩))] at h3; cases h3
            · exact h3
          have hokE := ASpec.backQ hE hapE hok
          have hnd := hR.nd
          have hnodup : s.i ∉ E ++ (S1 ++ S2).map ASpec.i := by
            simp only [List.map_append, List.map_cons] at hnd
            have h1 := List.nodup_append.1 hnd
            have h2 := List.nodup_append.1 h1.2.1
            simp only [List.nodup_cons] at h2
            intro h
            simp only [List.map_append, List.mem_append] at h
            rcases h with h | h | h
            · exact hjE h
            · exact h2.2.2 _ h _ (by simp) rfl
            · exact h2.2.1.1 h
          have hR' : Ready T ops hdone (listed.setIfInBounds s.i true) (E ++ (S1 ++ S2).map ASpec.i) := by
            refine hR.next ?_ (by simp) ?_ hnodup hjp
            · refine List.Sublist.append (List.Sublist.refl _) ?_
              simp only [List.map_append, List.map_cons]
              exact List.Sublist.append (List.Sublist.refl _) (List.sublist_cons_self _ _)
            · intro i hi
              simp only [List.map_append, List.map_cons, List.mem_append, List.mem_cons] at hi ⊢
              rcases hi with h | h | h | h
              · exact .inr (.inl h)
              · exact .inr (.inr (.inl h))
              · exact .inl h
              · exact .inr (.inr (.inr h))
          have hEu : ∀ b, LexQ P n N w0 ops T Y B E (updO (envOf a) s.o.dst (s.val b)) (updO ef s.o.dst (s.val b)) := fun b =>
            hE.upd (oj := s.o) rfl fun i hi oi ho => apartO_spec (hapE i hi) ho hok.1
          have hSu : ∀ b, ∀ q ∈ S1 ++ S2, q.ok P n ops (updO ef s.o.dst (s.val b)) := by
            intro b q hq
            have hqok := hS q (by simp only [List.mem_append, List.mem_cons] at hq ⊢; rcases hq with h | h; exact .inl h; exact .inr (.inr h))
            refine ASpec.upd (s := q) ?_ hqok
            rcases List.mem_append.1 hq with hq | hq
            · exact (Oper.apart_spec (apartO_spec (hapS q hq) hqok.1 hok.1)).2.2
            · rw [List.map_append, List.pairwise_append, List.map_cons, List.pairwise_cons] at hAA
              exact (Oper.apart_spec (apartO_spec (hAA.2.1.1 q.i (List.mem_map_of_mem hq)) hok.1 hqok.1)).1
          have hAA' : ((S1 ++ S2).map ASpec.i).Pairwise (fun i j => apartO ops i j = true) := by
            refine hAA.sublist ?_
            simp only [List.map_append, List.map_cons]
            exact List.Sublist.append (List.Sublist.refl _) (List.sublist_cons_self _ _)
          have hKp := hK.pull (s := s) (fun e A A' hp h => h.perm (hp.symm.append_right _)) S1 ef (fun q hq t ht => (Oper.apart_spec (apartO_spec (hapS q hq) (hS q (by simp [hq])).1 hok.1)).2.1 t ht)
          refine wpOpIn_a hokE hI fun b w' hI' => ?_
          have ih := any_of_lexQ hTS hfine hfl hTd m E (S1 ++ S2) (listed.setIfInBounds s.i true) _ _ ((b, s.φ) :: X) (by simp at hm ⊢; omega) hR' (fun q hq => hST q (by simp only [List.mem_append, List.mem_cons] at hq ⊢; rcases hq with hh | hh; exact .inl hh; exact .inr (.inr hh))) hAA' (hEu b) (hSu b) ((hKp b).mono fun e' A h => h.perm (by
            rw [List.cons_append, List.cons_append]; exact List.perm_middle))
          exact ih _ _ (size_put.trans hs) (envOf_put hs (fine_spec hok.2.1).1) (defers_put.trans hd) hI'
        · exfalso
          have hlt : j < ops.size := by
            obtain ⟨_, o, ho, _⟩ := mem_ready.1 hj
            exact (Array.getElem?_eq_some_iff.1 ho).1
          have hnd : hdone.getD j true = false := by
            rw [hR.fin j hlt, hjl]
            simp only [Bool.false_or]
            simp only [List.contains_eq_mem, List.mem_append, decide_eq_false_iff_not, not_or]
            exact ⟨hjE, hjS⟩
          obtain ⟨i, hi, hn⟩ := hnot
          have h1 := hR.held j hlt hnd i hi hn
          exact getD_tf (hR.un i hi) (clo_listed hR.closed _ _ hjp i h1)
def EWalkQ (P : Program) (n N : Nat) (w0 : World) (ops : Array Oper) (T : List Nat) (Y B : Hp) (l : List Nat) (e : Env) (K : Env → Prop) : Prop := ∃ ef, LexQ P n N w0 ops T Y B l e ef ∧ K ef
theorem EWalkQ_nil {K : Env → Prop} (h : K e) : EWalkQ P n N w0 ops T Y B [] e K := ⟨e, .nil, h⟩
theorem EWalkQ_y {i : Nat} {l : List Nat} {o : Oper} {v : Value} {K : Env → Prop} (ho : ops[i]? = some o) (hf : fine n o = true) (hT : T.contains i = false) (hg : Region.wanted o (yieldE ops e) = true) (hv : Ev P N w0 Y e o v) (h : EWalkQ P n N w0 ops T Y B l (updO e o.dst v) K) :
    EWalkQ P n N w0 ops T Y B (i :: l) e K := let ⟨ef, h1, h2⟩ := h; ⟨ef, .cons ho hf ⟨.inl ⟨hg, hv⟩, fun h => by simp [h] at hT⟩ h1, h2⟩
theorem Ev.sub {o : Oper} {v : Value} (hS : Sub B Y) (h : Ev P N w0 B e o v) : Ev P N w0 Y e o v := by
  obtain ⟨M, hp⟩ := hS
  intro X w hI
  have hp2 : (X ++ Y).Perm ((X ++ M) ++ B) := by
    rw [List.append_assoc]
    exact List.Perm.append_left X (hp.trans List.perm_append_comm)
  rcases h (X ++ M) w (hI.perm hp2) with h1 | ⟨f, args, h1, h2⟩
  · exact .inl h1
  · exact .inr ⟨f, args, h1, h2.mono fun x w' h3 => ⟨h3.1, h3.2.perm hp2.symm⟩⟩
theorem EWalkQ_b {i : Nat} {l : List Nat} {o : Oper} {v : Value} {K : Env → Prop} (hS : Sub B Y) (ho : ops[i]? = some o) (hf : fine n o = true) (hg : Region.wanted o (yieldE ops e) = true) (hv : Ev P N w0 B e o v) (h : EWalkQ P n N w0 ops T Y B l (updO e o.dst v) K) :
    EWalkQ P n N w0 ops T Y B (i :: l) e K := let ⟨ef, h1, h2⟩ := h; ⟨ef, .cons ho hf ⟨.inl ⟨hg, hv.sub hS⟩, fun _ => .inl ⟨hg, hv⟩⟩ h1, h2⟩
theorem WP_drawnQ {id : Nat} {l : List Oper} (B : Hp) (T E A fl : List Nat) {k k2 : Nat} (hfl : (T.all fun i => match l[i]? with | some o => (match o.dst with | some t => fl.contains t | none => true) | none => true) = true) (hm : P.follows .mixedOrders = true) (hc : drawChk l.toArray T E A = true) (hf : floatChk n l.toArray T E A = true) (hk : l.length = E.length + A.length + (k + k2))
    (h : EWalkQ P n N w0 l.toArray T L B E e fun ef => AWalk P n l.toArray A ef ef fun e' A' => AnyC P r n N w0 l.toArray Q ds fl B T k2 k (doneOf l.length (E ++ A)) e' (A' ++ L)) : WP P r n N w0 (.region id l.toArray true) Q e ds L := by
  refine WP_draw hm ?_
  obtain ⟨ef, hE, S, hS1, hS2, hK⟩ := h
  obtain ⟨hR, hAA⟩ := ready_of_chk hc
  subst hS1
  simp only [floatChk, Bool.and_eq_true, List.all_eq_true, Array.all_eq_true, Bool.not_eq_true', List.mem_range, Bool.or_eq_true] at hf
  obtain ⟨hf1, hf2⟩ := hf
  have hlt : ∀ t ∈ T, t < l.length := by
    intro t ht
    have h1 : t ∈ E := by simpa using (hf1 t ht).1.1
    have := (hR.self t (by simp [h1])).2
    simpa using this
  have := any_of_lexQ (fl := fl) (P := P) (r := r) (Q := Q) (ds := ds) (fuel2 := k) (k2 := k2) (Y := L) (B := B) (w0 := w0) (N := N) (n := n) (T := T)
    (fun i hi j hj hjT => by
      have h1 := (hf1 i hi).2 j hj
      rcases h1 with ((h1 | h1) | h1) | h1
      · simp at h1; exact absurd h1 hjT
      · exact .inl h1
      · exact .inr (.inl h1)
      · exact .inr (.inr h1))
    (fun j o ho => by
      obtain ⟨h1, h2⟩ := Array.getElem?_eq_some_iff.1 ho
      rw [← h2]; exact hf2 j h1)
    (fun i hi o ho t ht => by
      simp only [List.all_eq_true] at hfl
      have h1 := hfl i hi
      have h2 : l[i]? = some o := by simpa using ho
      rw [h2] at h1
      simp only [ht] at h1
      exact h1)
    (fun t ht => by
      have h1 : t ∈ E := by simpa using (hf1 t ht).1.1
      have h2 := getD_doneOf (k := l.toArray.size) (U := E ++ S.map ASpec.i) (i := t) (by simpa using hlt t ht)
      rw [h2]; simp [h1])
    (E.length + S.length) E S _ e ef [] rfl hR (fun s hs ht => by
      have := (hf1 s.i ht).1.2
      simp only [List.contains_eq_mem, decide_eq_false_iff_not] at this
      exact this (List.mem_map_of_mem hs)) hAA hE hS2 hK
  rw [List.length_map] at hk
  rw [← hk] at this
  simpa using this
end
section
variable {P : Program} {n N : Nat} {w0 : World} {ops : Array Oper} {e : Env} {B Y : Hp} {T l : List Nat} {i d : Nat} {K : Env → Prop}
theorem ZqY {o : Oper} {v : Value} (ho : ops[i]? = some o) (hv : Val P N w0 Y e o v) (h : EWalkQ P n N w0 ops T Y B l (upd e d v) K) (hd : o.dst = some d := by rfl)
    (hg : Region.wanted o (yieldE ops e) = true := by rfl) (hf : fine n o = true := by rfl) (hT : T.contains i = false := by rfl) : EWalkQ P n N w0 ops T Y B (i :: l) e K :=
  EWalkQ_y ho hf hT hg (Ev_val hv) (by rw [hd]; exact h)
theorem ZqB {o : Oper} {v : Value} (ho : ops[i]? = some o) (hv : Val P N w0 B e o v) (h : EWalkQ P n N w0 ops T Y B l (upd e d v) K) (hd : o.dst = some d := by rfl)
    (hg : Region.wanted o (yieldE ops e) = true := by rfl) (hf : fine n o = true := by rfl) (hS : Sub B Y := by repeat (first | exact Sub.refl _ | apply Sub.keep | apply Sub.appK | apply Sub.sv | apply Sub.cons | apply Sub.app)) : EWalkQ P n N w0 ops T Y B (i :: l) e K :=
  EWalkQ_b hS ho hf hg (Ev_val hv) (by rw [hd]; exact h)
end
end Go.Proofs.Ytbhgpnbfdjoglaa
end
