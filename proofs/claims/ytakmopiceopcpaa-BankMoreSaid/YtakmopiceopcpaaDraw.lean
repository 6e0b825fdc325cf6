/- Regions whose order of evaluation is left open: operations that only evaluate come in any order (E), new blocks (A), and what writes, in every order that is left (S). -/
import Derived.Test.YtakmopiceopcpaaMem3
section
namespace Go.Proofs.Ytakmopiceopcpaa
open Go.RowKit
section
variable (P : Program) (r : Option Nat) (n N : Nat) (w0 : World) (ops : Array Oper) (Q : Post) (ds : List Deferred)
def AnyO (fuel : Nat) (listed : Array Bool) (e : Env) (L : Hp) : Prop :=
  ∀ a w, a.tmps.size = n → envOf a = e → a.defers = ds → Inv N w0 L w → wpAnyIn (FW r) 0 P .any ops (PostA n N w0 Q) fuel listed a w
end
section
variable {P : Program} {r : Option Nat} {n N : Nat} {w0 : World} {ops : Array Oper} {Q : Post} {ds : List Deferred} {e : Env} {L : Hp}

theorem WP_draw {id : Nat} {l : List Oper} (hm : P.follows .mixedOrders = true) (h : AnyO P r n N w0 l.toArray Q ds l.length (Array.replicate l.length false) e L) : WP P r n N w0 (.region id l.toArray true) Q e ds L := by
  rintro a w hs he hd hI
  refine wpIn_region_any hm ?_
  have := h a _ hs he hd hI.drew
  simpa using this
theorem AnyO.wk {fuel : Nat} {listed : Array Bool} {L' : Hp} (k : Wk L L') (h : AnyO P r n N w0 ops Q ds fuel listed e L') : AnyO P r n N w0 ops Q ds fuel listed e L :=
  fun a w hs he hd hI => h a w hs he hd (hI.wk k)
theorem AnyO.perm {fuel : Nat} {listed : Array Bool} {L' : Hp} (k : L.Perm L') (h : AnyO P r n N w0 ops Q ds fuel listed e L') : AnyO P r n N w0 ops Q ds fuel listed e L :=
  fun a w hs he hd hI => h a w hs he hd (hI.perm k)

/-! ### The frame and an operation's own operands -/
theorem ev_updO {d : Option Nat} {v : Value} {x : Operand} (h : ∀ t, d = some t → x ≠ .tmp t) : ev (updO e d v) x = ev e x := by
  cases d with
  | none => rfl
  | some d =>
    cases x with
    | tmp t =>
      have : t ≠ d := fun h' => h d rfl (by rw [h'])
      have hb : Nat.beq t d = false := by
        cases hb : Nat.beq t d
        · rfl
        · exact absurd (Nat.eq_of_beq_eq_true hb) this
      show (bif Nat.beq t d then v else e t) = e t
      rw [hb]; rfl
    | _ => rfl
theorem updO_comm {d d' : Option Nat} {v v' : Value} (h : ∀ t, d = some t → d' ≠ some t) : updO (updO e d v) d' v' = updO (updO e d' v') d v := by
  cases d with
  | none => rfl
  | some d =>
    cases d' with
    | none => rfl
    | some d' =>
      have hne : d' ≠ d := fun h' => h d rfl (by rw [h'])
      funext t
      show (bif Nat.beq t d' then v' else bif Nat.beq t d then v else e t) = (bif Nat.beq t d then v else bif Nat.beq t d' then v' else e t)
      cases h1 : Nat.beq t d' <;> cases h2 : Nat.beq t d <;> try rfl
      exact absurd ((Nat.eq_of_beq_eq_true h1).symm.trans (Nat.eq_of_beq_eq_true h2)) hne
def notSel (o : Oper) : Bool := match o.op with
  | .select .. => false
  | _ => true
theorem notSel_ne {o : Oper} (h : notSel o = true) : ∀ cs b, o.op ≠ .select cs b := by
  intro cs b e; simp [notSel, e] at h
theorem exec_updO {o : Oper} {d : Option Nat} {v : Value} (hs : notSel o = true) (h : ∀ t, d = some t → t ∉ o.looksAt ops) : execOp (ev (updO e d v)) o = execOp (ev e) o := by
  refine execOp_congr o (notSel_ne hs) fun x hx => ev_updO fun t ht hxt => h t ht ?_
  subst hxt
  unfold Oper.looksAt
  refine List.mem_append_left _ ?_
  simp only [List.mem_filterMap]
  exact ⟨.tmp t, by simpa using hx, rfl⟩
theorem wanted_updO {o : Oper} {d : Option Nat} {v : Value} (h : ∀ t, d = some t → t ∉ o.looksAt ops) : Region.wanted o (yieldE ops (updO e d v)) = Region.wanted o (yieldE ops e) := by
  unfold Region.wanted
  cases hg : o.guard with
  | none => rfl
  | some p =>
    obtain ⟨j, want⟩ := p
    simp only
    congr 1
    unfold yieldE
    cases hd : (ops[j]?).bind (·.dst) with
    | none => rfl
    | some t =>
      have : ev (updO e d v) (.tmp t) = ev e (.tmp t) := ev_updO fun t' ht' hxt => h t' ht' (by
        injection hxt with hxt
        subst hxt
        unfold Oper.looksAt
        refine List.mem_append_right _ ?_
        simp [hg, hd])
      show (match updO e d v t with | .bool b => some b | _ => none) = (match e t with | .bool b => some b | _ => none)
      have h2 : updO e d v t = e t := this
      rw [h2]

/-! ### E: one value, whatever else has been laid -/
def Ev (P : Program) (N : Nat) (w0 : World) (L : Hp) (e : Env) (o : Oper) (v : Value) : Prop :=
  ∀ X w, Inv N w0 (X ++ L) w → (execOp (ev e) o).run P w = .ok (.value v) w ∨
    ∃ f args, (execOp (ev e) o).run P w = .ok (.enter f args) w ∧ Calls P f args w fun x w' => x = .returned v ∧ Inv N w0 (X ++ L) w'
theorem Ev_val {o : Oper} {v : Value} (h : Val P N w0 L e o v) : Ev P N w0 L e o v := fun X w hI => .inl (h w (hI.wk (.app X L)))
theorem Ev_ret {o : Oper} {v : Value} {f : FuncId} {args : Array Value} (h : Enters P e o f args) (hc : ∀ X, Ret P N w0 (X ++ L) f args v) : Ev P N w0 L e o v := fun X w hI =>
  .inr ⟨f, args, h w, (hc X w hI).mono fun x w' ⟨L', hI', hx, hL⟩ => ⟨hx, by subst hL; exact hI'⟩⟩
def EStep (P : Program) (N : Nat) (w0 : World) (ops : Array Oper) (L : Hp) (e : Env) (o : Oper) (v : Value) : Prop :=
  (Region.wanted o (yieldE ops e) = true ∧ Ev P N w0 L e o v) ∨ (Region.wanted o (yieldE ops e) = false ∧ v = undef)
theorem EStep.of_upd {o : Oper} {v : Value} {d : Option Nat} {u : Value} (hs : notSel o = true) (h : ∀ t, d = some t → t ∉ o.looksAt ops) : EStep P N w0 ops L (updO e d u) o v ↔ EStep P N w0 ops L e o v := by
  unfold EStep Ev
  rw [exec_updO hs h, wanted_updO h]

/-- A value that nothing in the world can change. -/
def PStep (P : Program) (ops : Array Oper) (e : Env) (o : Oper) (v : Value) : Prop :=
  (Region.wanted o (yieldE ops e) = true ∧ ∀ w, (execOp (ev e) o).run P w = .ok (.value v) w) ∨ (Region.wanted o (yieldE ops e) = false ∧ v = undef)
theorem PStep.of_upd {o : Oper} {v : Value} {d : Option Nat} {u : Value} (hs : notSel o = true) (h : ∀ t, d = some t → t ∉ o.looksAt ops) : PStep P ops (updO e d u) o v ↔ PStep P ops e o v := by
  unfold PStep
  rw [exec_updO hs h, wanted_updO h]
def XStep (P : Program) (N : Nat) (w0 : World) (ops : Array Oper) (T : List Nat) (L : Hp) (i : Nat) (e : Env) (o : Oper) (v : Value) : Prop := EStep P N w0 ops L e o v ∧ (i ∈ T → PStep P ops e o v)
theorem XStep.of_upd {T : List Nat} {i : Nat} {o : Oper} {v : Value} {d : Option Nat} {u : Value} (hs : notSel o = true) (h : ∀ t, d = some t → t ∉ o.looksAt ops) : XStep P N w0 ops T L i (updO e d u) o v ↔ XStep P N w0 ops T L i e o v := by
  unfold XStep
  rw [EStep.of_upd hs h, PStep.of_upd hs h]

/-- What is asked of every operation. -/
def fine (n : Nat) (o : Oper) : Bool := dstOk n o.dst && !isDefer o.op && notSel o
/-- The lexical walk of the evaluations. -/
inductive LexR (P : Program) (n N : Nat) (w0 : World) (ops : Array Oper) (T : List Nat) (L : Hp) : List Nat → Env → Env → Prop
  | nil {e : Env} : LexR P n N w0 ops T L [] e e
  | cons {i : Nat} {l : List Nat} {e e' : Env} {o : Oper} {v : Value} (h1 : ops[i]? = some o) (h2 : fine n o = true) (h3 : XStep P N w0 ops T L i e o v) (h4 : LexR P n N w0 ops T L l (updO e o.dst v) e') : LexR P n N w0 ops T L (i :: l) e e'
structure ASpec where
  i : Nat
  o : Oper
  obj : Obj
  φ : Obj → Prop
  val : Nat → Value
def ASpec.ok (P : Program) (n : Nat) (ops : Array Oper) (e : Env) (s : ASpec) : Prop :=
  ops[s.i]? = some s.o ∧ fine n s.o = true ∧ Region.wanted s.o (yieldE ops e) = true ∧ s.φ s.obj ∧ New P e s.o s.obj s.val
def KAll : List ASpec → Env → (Env → Hp → Prop) → Prop
  | [], e, K => K e []
  | s :: l, e, K => ∀ b, KAll l (updO e s.o.dst (s.val b)) (fun e' A => K e' ((b, s.φ) :: A))
theorem KAll.mono {l : List ASpec} {e : Env} {K K' : Env → Hp → Prop} (h : KAll l e K) (hk : ∀ e A, K e A → K' e A) : KAll l e K' := by
  induction l generalizing e K K' with
  | nil => exact hk _ _ h
  | cons s l ih => exact fun b => ih (h b) fun e A h => hk _ _ h

def apartO (ops : Array Oper) (i j : Nat) : Bool := match ops[i]?, ops[j]? with
  | some oi, some oj => oi.apart ops oj
  | _, _ => false
theorem apartO_spec {i j : Nat} {oi oj : Oper} (h : apartO ops i j = true) (h1 : ops[i]? = some oi) (h2 : ops[j]? = some oj) : oi.apart ops oj = true := by
  simpa [apartO, h1, h2] using h
theorem fine_spec {o : Oper} (h : fine n o = true) : dstOk n o.dst = true ∧ isDefer o.op = false ∧ notSel o = true := by
  simp only [fine, Bool.and_eq_true, Bool.not_eq_true'] at h; exact ⟨h.1.1, h.1.2, h.2⟩

/-- An evaluation may come first. -/
theorem LexR.pull {T : List Nat} {j : Nat} {T2 : List Nat} {ef : Env} : ∀ (T1 : List Nat) (e : Env), LexR P n N w0 ops T L (T1 ++ j :: T2) e ef → (∀ i ∈ T1, apartO ops i j = true) →
    ∃ o v, ops[j]? = some o ∧ fine n o = true ∧ XStep P N w0 ops T L j e o v ∧ LexR P n N w0 ops T L (T1 ++ T2) (updO e o.dst v) ef
  | [], e, h, _ => by
    cases h with
    | cons h1 h2 h3 h4 => exact ⟨_, _, h1, h2, h3, h4⟩
  | i :: T1, e, h, ha => by
    cases h with
    | cons h1 h2 h3 h4 =>
      obtain ⟨oj, vj, k1, k2, k3, k4⟩ := LexR.pull T1 _ h4 (fun k hk => ha k (List.mem_cons_of_mem _ hk))
      obtain ⟨a1, a2, a3⟩ := Oper.apart_spec (apartO_spec (ha i List.mem_cons_self) h1 k1)
      refine ⟨oj, vj, k1, k2, (XStep.of_upd (fine_spec k2).2.2 a1).1 k3, .cons h1 h2 ((XStep.of_upd (fine_spec h2).2.2 a3).2 h3) ?_⟩
      rw [← updO_comm a2]
      exact k4
/-- Evaluations mind no slot that they do not look at. -/
theorem LexR.upd {T : List Nat} {d : Option Nat} {u : Value} {oj : Oper} (hd : oj.dst = d) : ∀ {E : List Nat} {e ef : Env}, LexR P n N w0 ops T L E e ef → (∀ i ∈ E, ∀ oi, ops[i]? = some oi → oi.apart ops oj = true) → LexR P n N w0 ops T L E (updO e d u) (updO ef d u) := by
  intro E e ef h
  induction h with
  | nil => exact fun _ => .nil
  | cons h1 h2 h3 h4 ih =>
    intro ha
    obtain ⟨a1, a2, a3⟩ := Oper.apart_spec (ha _ List.mem_cons_self _ h1)
    subst hd
    refine .cons h1 h2 ((XStep.of_upd (fine_spec h2).2.2 a3).2 h3) ?_
    rw [← updO_comm a2]
    exact ih (fun i hi => ha i (List.mem_cons_of_mem _ hi))
theorem ASpec.back {T : List Nat} {s : ASpec} : ∀ {E : List Nat} {e ef : Env}, LexR P n N w0 ops T L E e ef → (∀ i ∈ E, apartO ops i s.i = true) → s.ok P n ops ef → s.ok P n ops e := by
  intro E e ef h
  induction h with
  | nil => exact fun _ h => h
  | cons h1 h2 h3 h4 ih =>
    intro ha hs
    obtain ⟨k1, k2, k3, k4, k5⟩ := ih (fun i hi => ha i (List.mem_cons_of_mem _ hi)) hs
    obtain ⟨a1, _, _⟩ := Oper.apart_spec (apartO_spec (ha _ List.mem_cons_self) h1 k1)
    refine ⟨k1, k2, by rw [← wanted_updO a1]; exact k3, k4, ?_⟩
    unfold New at k5 ⊢
    rw [← exec_updO (fine_spec k2).2.2 a1]; exact k5
theorem ASpec.upd {s : ASpec} {e : Env} {d : Option Nat} {u : Value} (h : ∀ t, d = some t → t ∉ s.o.looksAt ops) (hs : s.ok P n ops e) : s.ok P n ops (updO e d u) := by
  obtain ⟨k1, k2, k3, k4, k5⟩ := hs
  refine ⟨k1, k2, by rw [wanted_updO h]; exact k3, k4, ?_⟩
  unfold New at k5 ⊢
  rw [exec_updO (fine_spec k2).2.2 h]; exact k5
theorem KAll.pull {s : ASpec} {S2 : List ASpec} {K : Env → Hp → Prop} (hK : ∀ e A A', A.Perm A' → K e A → K e A') : ∀ (S1 : List ASpec) (e : Env), KAll (S1 ++ s :: S2) e K → (∀ q ∈ S1, ∀ t, q.o.dst = some t → s.o.dst ≠ some t) → ∀ b, KAll (S1 ++ S2) (updO e s.o.dst (s.val b)) (fun e' A => K e' ((b, s.φ) :: A)) := by
  intro S1
  induction S1 generalizing K with
  | nil => exact fun e h _ b => h b
  | cons q S1 ih =>
    intro e h ha b b'
    have h1 := ih (K := fun e' A => K e' ((b', q.φ) :: A)) (fun e A A' hp h => hK _ _ _ (hp.cons _) h) _ (h b') (fun q' hq => ha q' (List.mem_cons_of_mem _ hq)) b
    rw [updO_comm (ha q List.mem_cons_self)] at h1
    exact h1.mono fun e' A hk => hK _ _ _ (List.Perm.swap _ _ _) hk

/-! ### Whatever is drawn -/
def waits (ops : Array Oper) (j i : Nat) : Bool := match ops[j]? with
  | some o => o.after.any fun ed => Region.binds .any ed && ed.on == i
  | none => false
def Closed (ops : Array Oper) (listed : Array Bool) : Prop := ∀ i o, ops[i]? = some o → listed.getD i false = true → ∀ ed ∈ o.after, Region.binds .any ed = true → listed.getD ed.on false = true
def preds (ops : Array Oper) (i : Nat) : List Nat := match ops[i]? with
  | some o => (o.after.toList.filter fun ed => Region.binds .any ed).map (·.on)
  | none => []
/-- All that must have come before. -/
def clo (ops : Array Oper) : Nat → List Nat → List Nat
  | 0, l => l
  | k + 1, l => clo ops k (if l.contains k then (preds ops k).foldl (fun l p => if l.contains p then l else p :: l) l else l)
theorem clo_listed {listed : Array Bool} (hc : Closed ops listed) : ∀ (k : Nat) (l : List Nat), (∀ i ∈ l, listed.getD i false = true) → ∀ i ∈ clo ops k l, listed.getD i false = true
  | 0, l, h => h
  | k + 1, l, h => by
    unfold clo
    refine clo_listed hc k _ ?_
    split
    · rename_i hk
      have hk' := h k (by simpa using hk)
      have hp : ∀ p ∈ preds ops k, listed.getD p false = true := by
        intro p hp
        unfold preds at hp
        cases ho : ops[k]? with
        | none => rw [ho] at hp; cases hp
        | some o =>
          rw [ho] at hp
          simp only [List.mem_map, List.mem_filter] at hp
          obtain ⟨ed, ⟨h1, h2⟩, rfl⟩ := hp
          exact hc k o ho hk' ed (by simpa using h1) h2
      have key : ∀ (ps l : List Nat), (∀ p ∈ ps, listed.getD p false = true) → (∀ i ∈ l, listed.getD i false = true) → ∀ i ∈ ps.foldl (fun l p => if l.contains p then l else p :: l) l, listed.getD i false = true := by
        intro ps
        induction ps with
        | nil => exact fun l _ h => h
        | cons p ps ih =>
          intro l hps hl
          refine ih _ (fun q hq => hps q (List.mem_cons_of_mem _ hq)) ?_
          simp only
          split
          · exact hl
          · intro i hi
            rcases List.mem_cons.1 hi with rfl | hi
            · exact hps _ List.mem_cons_self
            · exact hl i hi
      exact key _ _ hp h
    · exact h

/-- One operation comes up: the judgement's side. -/
theorem wpOpIn_e {i : Nat} {o : Oper} {v : Value} {X : Hp} {K : Act → World → Prop} {PQ : Exit → Act → World → Prop} {a : Act} {w : World} (hi : ops[i]? = some o) (hf : fine n o = true) (hs : EStep P N w0 ops L (envOf a) o v) (hI : Inv N w0 (X ++ L) w)
    (h : ∀ w', Inv N w0 (X ++ L) w' → K (a.put o.dst v) w') : wpOpIn (FW r) 0 P ops PQ i K a w := by
  obtain ⟨_, f2, _⟩ := fine_spec hf
  unfold wpOpIn
  rw [hi]
  simp only [yieldE_eq]
  rcases hs with ⟨hw, hv⟩ | ⟨hw, rfl⟩
  · rw [if_pos hw]
    refine ⟨fun f _ => FW_fn r f, ?_⟩
    rw [Oper.semAt_eq _ _ _ (isDefer_ne f2), eval_eq]
    rcases hv X w hI with hr | ⟨f, args, hr, hc⟩
    · rw [hr]; exact h w hI
    · rw [hr]
      refine ⟨fun h => (by rw [FW_depth] at h; cases h), callsFW.2 (hc.mono ?_)⟩
      rintro x w' ⟨rfl, hI'⟩
      exact h w' hI'
  · rw [if_neg (by rw [hw]; simp)]
    exact ⟨fun f _ => FW_fn r f, h w hI⟩
theorem wpOpIn_a {s : ASpec} {X : Hp} {K : Act → World → Prop} {PQ : Exit → Act → World → Prop} {a : Act} {w : World} (hs : s.ok P n ops (envOf a)) (hI : Inv N w0 X w)
    (h : ∀ b w', Inv N w0 ((b, s.φ) :: X) w' → K (a.put s.o.dst (s.val b)) w') : wpOpIn (FW r) 0 P ops PQ s.i K a w := by
  obtain ⟨k1, k2, k3, k4, k5⟩ := hs
  obtain ⟨_, f2, _⟩ := fine_spec k2
  unfold wpOpIn
  rw [k1]
  simp only [yieldE_eq]
  rw [if_pos k3]
  refine ⟨fun f _ => FW_fn r f, ?_⟩
  rw [Oper.semAt_eq _ _ _ (isDefer_ne f2), eval_eq, k5 w]
  exact h _ _ (hI.alloc k4)

structure Ready (T : List Nat) (ops : Array Oper) (hdone listed : Array Bool) (U : List Nat) : Prop where
  sz : listed.size = ops.size
  szd : hdone.size = ops.size
  closed : Closed ops listed
  un : ∀ i ∈ U, listed.getD i true = false
  nd : U.Nodup
  fin : ∀ i, i < ops.size → hdone.getD i true = (listed.getD i true || U.contains i)
  held : ∀ s, s < ops.size → hdone.getD s true = false → ∀ i ∈ U, i ∉ T → i ∈ clo ops ops.size (preds ops s)
  ap : U.Pairwise fun i j => waits ops j i = true ∨ apartO ops i j = true
  fw : U.Pairwise fun i j => waits ops i j = false
  self : ∀ i ∈ U, waits ops i i = false ∧ i < ops.size
  pr : ∀ i ∈ U, ∀ p ∈ preds ops i, listed.getD p false = true ∨ p ∈ U
theorem getD_set_trueT {l : Array Bool} {i j : Nat} (h : l.getD i true = true) : (l.setIfInBounds j true).getD i true = true := by
  rw [Array.getD_eq_getD_getElem?] at h ⊢
  rw [Array.getElem?_setIfInBounds]
  split
  · split <;> simp
  · exact h
theorem getD_tf {l : Array Bool} {i : Nat} (h1 : l.getD i true = false) (h2 : l.getD i false = true) : False := by
  rw [Array.getD_eq_getD_getElem?] at h1 h2
  cases h : l[i]? with
  | none => rw [h] at h1; cases h1
  | some b => rw [h] at h1 h2; simp at h1 h2; rw [h1] at h2; cases h2
theorem waits_pred {j i : Nat} (h : waits ops j i = true) : i ∈ preds ops j := by
  unfold waits at h
  unfold preds
  cases ho : ops[j]? with
  | none => rw [ho] at h; cases h
  | some o =>
    rw [ho] at h
    simp only [Array.any_eq_true', Bool.and_eq_true, beq_iff_eq] at h
    obtain ⟨ed, he, h1, h2⟩ := h
    simp only [List.mem_map, List.mem_filter]
    exact ⟨ed, ⟨by simpa using he, h1⟩, h2⟩
theorem pred_waits {j i : Nat} (h : i ∈ preds ops j) : waits ops j i = true := by
  unfold preds at h
  unfold waits
  cases ho : ops[j]? with
  | none => rw [ho] at h; cases h
  | some o =>
    rw [ho] at h
    simp only [List.mem_map, List.mem_filter] at h
    obtain ⟨ed, ⟨h1, h2⟩, h3⟩ := h
    simp only [Array.any_eq_true', Bool.and_eq_true, beq_iff_eq]
    exact ⟨ed, by simpa using h1, h2, h3⟩
theorem ready_preds {listed : Array Bool} {j : Nat} (h : j ∈ Region.ready .any ops listed) : listed.getD j true = false ∧ ∀ p ∈ preds ops j, listed.getD p false = true := by
  obtain ⟨h1, o, h2, h3⟩ := mem_ready.1 h
  refine ⟨h1, fun p hp => ?_⟩
  unfold preds at hp
  rw [h2] at hp
  simp only [List.mem_map, List.mem_filter] at hp
  obtain ⟨ed, ⟨k1, k2⟩, rfl⟩ := hp
  exact h3 ed (by simpa using k1) k2
/-- One more has come up. -/
theorem Ready.next {T : List Nat} {hdone listed : Array Bool} {U U' : List Nat} {j : Nat} (h : Ready T ops hdone listed U) (hsub : U'.Sublist U) (hj : j ∈ U) (hmem : ∀ i ∈ U, i = j ∨ i ∈ U') (hj' : j ∉ U') (hr : ∀ p ∈ preds ops j, listed.getD p false = true) :
    Ready T ops hdone (listed.setIfInBounds j true) U' := by
  have hjl : j < listed.size := by rw [h.sz]; exact (h.self j hj).2
  have hset : (listed.setIfInBounds j true).getD j false = true := by simp [hjl]
  refine ⟨by simp [h.sz], h.szd, ?_, ?_, h.nd.sublist hsub, ?_, fun s hs hd i hi => h.held s hs hd i (hsub.subset hi), h.ap.sublist hsub, h.fw.sublist hsub, fun i hi => h.self i (hsub.subset hi), ?_⟩
  · intro i o ho hi ed he hb
    by_cases e : i = j
    · subst e
      refine getD_set_true (hr ed.on ?_)
      unfold preds; rw [ho]
      simp only [List.mem_map, List.mem_filter]
      exact ⟨ed, ⟨by simpa using he, hb⟩, rfl⟩
    · rw [getD_set_ne false (Ne.symm e)] at hi
      exact getD_set_true (h.closed i o ho hi ed he hb)
  · intro i hi
    have hne : i ≠ j := fun e => hj' (e ▸ hi)
    rw [getD_set_ne true (Ne.symm hne)]
    exact h.un i (hsub.subset hi)
  · intro i hi
    rw [h.fin i hi]
    by_cases e : i = j
    · subst e
      have h1 : (listed.setIfInBounds i true).getD i true = true := by simp [hjl]
      rw [h1]
      have : U.contains i = true := by simpa using hj
      rw [this]; simp
    · rw [getD_set_ne true (Ne.symm e)]
      have : U.contains i = U'.contains i := by
        cases h1 : U.contains i <;> cases h2 : U'.contains i <;> try rfl
        · have := hsub.subset (by simpa using h2 : i ∈ U')
          simp [this] at h1
        · rcases hmem i (by simpa using h1) with h3 | h3
          · exact absurd h3 e
          · simp [h3] at h2
      rw [this]
  · intro i hi p hp
    rcases h.pr i (hsub.subset hi) p hp with h1 | h1
    · exact .inl (getD_set_true h1)
    · rcases hmem p h1 with rfl | h2
      · exact .inl hset
      · exact .inr h2

/-! #### what floats, and may come up behind what writes -/
abbrev Pd := Nat × Oper × Value
def updAll (e : Env) (ts : List Pd) : Env := ts.foldl (fun e x => updO e x.2.1.dst x.2.2) e
def putAll (a : Act) (ts : List Pd) : Act := ts.foldl (fun a x => a.put x.2.1.dst x.2.2) a
def PLex (P : Program) (n : Nat) (ops : Array Oper) : Env → List Pd → Prop
  | _, [] => True
  | e, x :: ts => ops[x.1]? = some x.2.1 ∧ fine n x.2.1 = true ∧ PStep P ops e x.2.1 x.2.2 ∧ PLex P n ops (updO e x.2.1.dst x.2.2) ts
theorem envOf_putAll : ∀ (ts : List Pd) (e : Env) (a : Act), PLex P n ops e ts → a.tmps.size = n → envOf (putAll a ts) = updAll (envOf a) ts ∧ (putAll a ts).tmps.size = n
  | [], _, _, _, hs => ⟨rfl, hs⟩
  | x :: ts, e, a, h, hs => by
    obtain ⟨_, h2, _, h4⟩ := h
    have := envOf_putAll ts _ (a.put x.2.1.dst x.2.2) h4 (size_put.trans hs)
    simp only [putAll, updAll, List.foldl_cons] at this ⊢
    rw [envOf_put hs (fine_spec h2).1] at this
    exact this
theorem put_comm {a : Act} {d d' : Option Nat} {v v' : Value} (h : ∀ t, d = some t → d' ≠ some t) : (a.put d v).put d' v' = (a.put d' v').put d v := by
  cases d with
  | none => rfl
  | some d =>
    cases d' with
    | none => rfl
    | some d' =>
      have hne : d ≠ d' := fun e => h d rfl (by rw [e])
      simp only [Act.put]
      rw [Array.setIfInBounds_comm _ _ hne]
theorem putAll_put {d : Option Nat} {v : Value} : ∀ (ts : List Pd) (a : Act), (∀ x ∈ ts, ∀ t, x.2.1.dst = some t → d ≠ some t) → (putAll a ts).put d v = putAll (a.put d v) ts
  | [], _, _ => rfl
  | x :: ts, a, h => by
    have := putAll_put (d := d) (v := v) ts (a.put x.2.1.dst x.2.2) (fun y hy => h y (List.mem_cons_of_mem _ hy))
    simp only [putAll, List.foldl_cons] at this ⊢
    rw [this, put_comm (h x List.mem_cons_self)]
theorem putAll_defers {ds : List Deferred} : ∀ (ts : List Pd) (a : Act), { putAll a ts with defers := ds } = putAll { a with defers := ds } ts
  | [], _ => rfl
  | x :: ts, a => by
    have h1 : ({ a.put x.2.1.dst x.2.2 with defers := ds } : Act) = ({ a with defers := ds } : Act).put x.2.1.dst x.2.2 := by cases x.2.1.dst <;> rfl
    have := putAll_defers (ds := ds) ts (a.put x.2.1.dst x.2.2)
    simp only [putAll, List.foldl_cons] at this ⊢
    rw [this, h1]
theorem putAll_def : ∀ (ts : List Pd) (a : Act), (putAll a ts).defers = a.defers
  | [], _ => rfl
  | x :: ts, a => by
    have := putAll_def ts (a.put x.2.1.dst x.2.2)
    simp only [putAll, List.foldl_cons] at this ⊢
    rw [this, defers_put]
theorem PLex.upd {oj : Oper} {u : Value} : ∀ (ts : List Pd) (e : Env), PLex P n ops e ts → (∀ x ∈ ts, x.2.1.apart ops oj = true) → PLex P n ops (updO e oj.dst u) ts
  | [], _, _, _ => trivial
  | x :: ts, e, h, ha => by
    obtain ⟨h1, h2, h3, h4⟩ := h
    obtain ⟨a1, a2, a3⟩ := Oper.apart_spec (ha x List.mem_cons_self)
    refine ⟨h1, h2, (PStep.of_upd (fine_spec h2).2.2 a3).2 h3, ?_⟩
    rw [← updO_comm a2]
    exact PLex.upd ts _ h4 (fun y hy => ha y (List.mem_cons_of_mem _ hy))
theorem PLex.pull {j : Pd} {t2 : List Pd} : ∀ (t1 : List Pd) (e : Env) (a : Act), PLex P n ops e (t1 ++ j :: t2) → (∀ x ∈ t1, x.2.1.apart ops j.2.1 = true) →
    ops[j.1]? = some j.2.1 ∧ fine n j.2.1 = true ∧ PStep P ops e j.2.1 j.2.2 ∧ PLex P n ops (updO e j.2.1.dst j.2.2) (t1 ++ t2) ∧ putAll a (t1 ++ j :: t2) = putAll (a.put j.2.1.dst j.2.2) (t1 ++ t2)
  | [], e, a, h, _ => ⟨h.1, h.2.1, h.2.2.1, h.2.2.2, rfl⟩
  | x :: t1, e, a, h, ha => by
    obtain ⟨h1, h2, h3, h4⟩ := h
    obtain ⟨k1, k2, k3, k4, k5⟩ := PLex.pull t1 _ (a.put x.2.1.dst x.2.2) h4 (fun y hy => ha y (List.mem_cons_of_mem _ hy))
    obtain ⟨a1, a2, a3⟩ := Oper.apart_spec (ha x List.mem_cons_self)
    refine ⟨k1, k2, (PStep.of_upd (fine_spec k2).2.2 a1).1 k3, ⟨h1, h2, (PStep.of_upd (fine_spec h2).2.2 a3).2 h3, ?_⟩, ?_⟩
    · rw [← updO_comm a2]; exact k4
    · simp only [putAll, List.cons_append, List.foldl_cons] at k5 ⊢
      rw [k5, put_comm a2]
theorem exec_all {o : Oper} (hs : notSel o = true) : ∀ (ts : List Pd) (e : Env), (∀ x ∈ ts, x.2.1.apart ops o = true) → execOp (ev (updAll e ts)) o = execOp (ev e) o ∧ Region.wanted o (yieldE ops (updAll e ts)) = Region.wanted o (yieldE ops e)
  | [], _, _ => ⟨rfl, rfl⟩
  | x :: ts, e, h => by
    obtain ⟨h1, h2⟩ := exec_all hs ts (updO e x.2.1.dst x.2.2) (fun y hy => h y (List.mem_cons_of_mem _ hy))
    have a1 := (Oper.apart_spec (h x List.mem_cons_self)).1
    simp only [updAll, List.foldl_cons] at h1 h2 ⊢
    exact ⟨h1.trans (exec_updO hs a1), h2.trans (wanted_updO a1)⟩
theorem uponIn_back {F : Fence} {o : Oper} {ts : List Pd} {K K' : Act → World → Prop} {PQ : Exit → Act → World → Prop} {a : Act} (hq : ∀ ch a w, ¬ PQ (.panic ch) a w) (hp : ∀ x ∈ ts, ∀ t, x.2.1.dst = some t → o.dst ≠ some t)
    (hk : ∀ (v : Value) (ds : List Deferred) (w : World), K (putAll ({ a with defers := ds }.put o.dst v) ts) w → K' ({ a with defers := ds }.put o.dst v) w) {x : Result Next} (h : o.uponIn F 0 P (putAll a ts) K PQ x) : o.uponIn F 0 P a K' PQ x := by
  have hv : ∀ (v : Value) (w : World), K ((putAll a ts).put o.dst v) w → K' (a.put o.dst v) w := fun v w h => hk v a.defers w (by rw [putAll_put ts a hp] at h; exact h)
  cases x with
  | ok x w' =>
    cases x <;> simp only [Oper.uponIn] at h ⊢ <;>
      first
        | exact hv _ _ h
        | (rw [putAll_def, putAll_defers, putAll_put ts _ hp] at h; exact hk _ _ _ h)
        | exact h.elim
        | exact ⟨h.1, CallsIn.mono h.2 (fun e w'' he => by cases e <;> first | exact hv _ _ he | exact (hq _ _ _ he).elim | exact he)⟩
        | exact ⟨h.1, RoundIn.mono h.2 (fun e w'' he => by cases e <;> first | exact hv _ _ he | exact (hq _ _ _ he).elim | exact he)⟩
        | exact ⟨h.1, RowsIn.mono h.2 (fun v w'' he => hv _ _ he)⟩
  | halt x w' =>
    cases x <;> simp only [Oper.uponIn] at h ⊢ <;> first | exact h.elim | exact (hq _ _ _ h).elim
theorem wpOpIn_back {j : Nat} {o : Oper} {ts : List Pd} {K K' : Act → World → Prop} {PQ : Exit → Act → World → Prop} {a : Act} {w : World} (ho : ops[j]? = some o) (hf : fine n o = true) (hq : ∀ ch a w, ¬ PQ (.panic ch) a w) (ha : ∀ x ∈ ts, x.2.1.apart ops o = true)
    (hl : PLex P n ops (envOf a) ts) (hs : a.tmps.size = n) (hk : ∀ a1 w1, a1.tmps.size = n → PLex P n ops (envOf a1) ts → K (putAll a1 ts) w1 → K' a1 w1) (h : wpOpIn (FW r) 0 P ops PQ j K (putAll a ts) w) : wpOpIn (FW r) 0 P ops PQ j K' a w := by
  obtain ⟨f1, f2, f3⟩ := fine_spec hf
  obtain ⟨e1, _⟩ := envOf_putAll ts _ a hl hs
  obtain ⟨x1, x2⟩ := exec_all (ops := ops) f3 ts (envOf a) ha
  have hp : ∀ x ∈ ts, ∀ t, x.2.1.dst = some t → o.dst ≠ some t := fun x hx => (Oper.apart_spec (ha x hx)).2.1
  have hk' : ∀ (v : Value) (ds : List Deferred) (w : World), K (putAll ({ a with defers := ds }.put o.dst v) ts) w → K' ({ a with defers := ds }.put o.dst v) w := by
    intro v ds w hK
    refine hk _ _ (size_put.trans hs) ?_ hK
    have h1 : envOf (({ a with defers := ds } : Act).put o.dst v) = updO (envOf a) o.dst v := envOf_put (a := { a with defers := ds }) hs f1
    rw [h1]
    exact hl.upd ts _ ha
  unfold wpOpIn at h ⊢
  rw [ho] at h ⊢
  simp only [yieldE_eq, e1, x2] at h ⊢
  split
  · rename_i hw
    rw [if_pos hw] at h
    refine ⟨fun f _ => FW_fn r f, ?_⟩
    have h2 := h.2
    rw [Oper.semAt_eq _ _ _ (isDefer_ne f2), eval_eq] at h2 ⊢
    rw [e1, x1] at h2
    exact uponIn_back hq hp hk' h2
  · rename_i hw
    rw [if_neg hw] at h
    refine ⟨fun f _ => FW_fn r f, ?_⟩
    have h2 := h.2
    rw [putAll_put ts a hp] at h2
    exact hk' undef a.defers w h2

/-- Something that writes has come up. -/
theorem Ready.both {T : List Nat} {hdone listed : Array Bool} {U : List Nat} {j : Nat} (h : Ready T ops hdone listed U) (hj : j ∉ U) (hjs : j < ops.size) (hr : ∀ p ∈ preds ops j, listed.getD p false = true) :
    Ready T ops (hdone.setIfInBounds j true) (listed.setIfInBounds j true) U := by
  refine ⟨by simp [h.sz], by simp [h.szd], ?_, ?_, h.nd, ?_, ?_, h.ap, h.fw, h.self, ?_⟩
  · intro i o ho hi ed he hb
    by_cases e : i = j
    · subst e
      refine getD_set_true (hr ed.on ?_)
      unfold preds; rw [ho]
      simp only [List.mem_map, List.mem_filter]
      exact ⟨ed, ⟨by simpa using he, hb⟩, rfl⟩
    · rw [getD_set_ne false (Ne.symm e)] at hi
      exact getD_set_true (h.closed i o ho hi ed he hb)
  · intro i hi
    have hne : i ≠ j := fun e => hj (e ▸ hi)
    rw [getD_set_ne true (Ne.symm hne)]
    exact h.un i hi
  · intro i hi
    by_cases e : i = j
    · subst e
      have h1 : (listed.setIfInBounds i true).getD i true = true := by simp [h.sz, hjs]
      have h2 : (hdone.setIfInBounds i true).getD i true = true := by simp [h.szd, hjs]
      rw [h1, h2]; rfl
    · rw [getD_set_ne true (Ne.symm e), getD_set_ne true (Ne.symm e)]
      exact h.fin i hi
  · intro s hs hd i hi
    by_cases e : s = j
    · subst e
      have h2 : (hdone.setIfInBounds s true).getD s true = true := by simp [h.szd, hjs]
      rw [h2] at hd; cases hd
    · rw [getD_set_ne true (Ne.symm e)] at hd
      exact h.held s hs hd i hi
  · intro i hi p hp
    rcases h.pr i hi p hp with h1 | h1
    · exact .inl (getD_set_true h1)
    · exact .inr h1

theorem pend {T : List Nat} (hq : ∀ ch e ds L, ¬ Q (.panic ch) e ds L) (hTS : ∀ i ∈ T, ∀ j, j < ops.size → j ∉ T → waits ops i j = true ∨ waits ops j i = true ∨ apartO ops i j = true) (hfine : ∀ (j : Nat) (o : Oper), ops[j]? = some o → fine n o = true) :
    ∀ (k : Nat) (ts : List Pd) (fuel2 : Nat) (hdone listed : Array Bool) (a : Act) (w : World), ts.length + fuel2 = k → Ready T ops hdone listed (ts.map (·.1)) → (∀ x ∈ ts, x.1 ∈ T) → (∀ t ∈ T, hdone.getD t true = true) → PLex P n ops (envOf a) ts → a.tmps.size = n →
      wpAnyIn (FW r) 0 P .any ops (PostA n N w0 Q) fuel2 hdone (putAll a ts) w → wpAnyIn (FW r) 0 P .any ops (PostA n N w0 Q) k listed a w
  | k, [], fuel2, hdone, listed, a, w, hk, hR, _, _, _, _, h => by
    have : hdone = listed := by
      apply Array.ext (by rw [hR.szd, hR.sz])
      intro i h1 h2
      have := hR.fin i (by rw [← hR.sz]; exact h2)
      simpa [h1, h2] using this
    subst this
    simp only [List.length_nil, Nat.zero_add] at hk
    subst hk
    exact h
  | 0, _ :: _, _, _, _, _, _, hk, _, _, _, _, _, _ => by simp at hk
  | k + 1, t0 :: tr, fuel2, hdone, listed, a, w, hk, hR, hT, hTd, hl, hs, h => by
    have notAp : ∀ j, j ∈ Region.ready .any ops listed → ∀ i ∈ (t0 :: tr).map (·.1), waits ops j i = false := by
      intro j hj i hi
      cases hw : waits ops j i with
      | false => rfl
      | true => exact (getD_tf (hR.un i hi) ((ready_preds hj).2 i (waits_pred hw))).elim
    unfold wpAnyIn
    refine ⟨fun h0 => ?_, fun j hj => ?_⟩
    · exfalso
      have hj : t0.1 ∈ Region.ready .any ops listed := by
        rw [mem_ready]
        refine ⟨hR.un _ List.mem_cons_self, ?_⟩
        have hlt := (hR.self t0.1 List.mem_cons_self).2
        refine ⟨ops[t0.1], Array.getElem?_eq_getElem hlt, fun ed he hb => ?_⟩
        have hp : ed.on ∈ preds ops t0.1 := by
          unfold preds
          rw [Array.getElem?_eq_getElem hlt]
          simp only [List.mem_map, List.mem_filter]
          exact ⟨ed, ⟨by simpa using he, hb⟩, rfl⟩
        rcases hR.pr t0.1 List.mem_cons_self _ hp with h1 | h1
        · exact h1
        · rcases List.mem_cons.1 h1 with h1 | h1
          · have := (hR.self t0.1 List.mem_cons_self).1
            have h2 := pred_waits hp
            rw [h1] at h2; rw [h2] at this; cases this
          · have := (List.pairwise_cons.1 hR.fw).1 _ h1
            rw [pred_waits hp] at this; cases this
      rw [h0] at hj; cases hj
    · obtain ⟨hjl, hjp⟩ := ready_preds hj
      have hlt : j < ops.size := by
        obtain ⟨_, o, ho, _⟩ := mem_ready.1 hj
        exact (Array.getElem?_eq_some_iff.1 ho).1
      by_cases hjT : j ∈ (t0 :: tr).map (·.1)
      · -- it is one that floats
        obtain ⟨x, hx, rfl⟩ := List.mem_map.1 hjT
        obtain ⟨t1, t2, he⟩ := List.append_of_mem hx
        rw [he] at hk hR hT hl h notAp
        have hap : ∀ y ∈ t1, y.2.1.apart ops x.2.1 = true := by
          have hops : ∀ (ts : List Pd) (e : Env), PLex P n ops e ts → ∀ y ∈ ts, ops[y.1]? = some y.2.1 := by
            intro ts
            induction ts with
            | nil => intro _ _ y hy; cases hy
            | cons z ts ih =>
              intro e hh y hy
              rcases List.mem_cons.1 hy with rfl | hy
              · exact hh.1
              · exact ih _ hh.2.2.2 y hy
          intro y hy
          have h1 := hR.ap
          rw [List.map_append, List.pairwise_append] at h1
          rcases h1.2.2 y.1 (List.mem_map_of_mem hy) x.1 (by simp) with h2 | h2
          · rw [notAp x.1 hj y.1 (by simp only [List.map_append, List.mem_append]; exact .inl (List.mem_map_of_mem hy))] at h2; cases h2
          · exact apartO_spec h2 (hops _ _ hl y (by simp [hy])) (hops _ _ hl x (by simp))
        obtain ⟨k1, k2, k3, k4, k5⟩ := PLex.pull t1 _ a hl hap
        have hnd := hR.nd
        have hj' : x.1 ∉ (t1 ++ t2).map (·.1) := by
          simp only [List.map_append, List.map_cons] at hnd
          have h1 := List.nodup_append.1 hnd
          simp only [List.nodup_cons] at h1
          intro hh
          simp only [List.map_append, List.mem_append] at hh
          rcases hh with hh | hh
          · exact h1.2.2 _ hh _ (by simp) rfl
          · exact h1.2.1.1 hh
        have hR' : Ready T ops hdone (listed.setIfInBounds x.1 true) ((t1 ++ t2).map (·.1)) := by
          refine hR.next ?_ (by simp) ?_ hj' hjp
          · simp only [List.map_append, List.map_cons]
            exact List.Sublist.append (List.Sublist.refl _) (List.sublist_cons_self _ _)
          · intro i hi
            simp only [List.map_append, List.map_cons, List.mem_append, List.mem_cons] at hi ⊢
            rcases hi with hh | hh | hh
            · exact .inr (.inl hh)
            · exact .inl hh
            · exact .inr (.inr hh)
        have hsz : (a.put x.2.1.dst x.2.2).tmps.size = n := size_put.trans hs
        have ih := pend hq hTS hfine k (t1 ++ t2) fuel2 hdone (listed.setIfInBounds x.1 true) (a.put x.2.1.dst x.2.2) w (by simp at hk ⊢; omega) hR' (fun y hy => hT y (by simp only [List.mem_append, List.mem_cons] at hy ⊢; rcases hy with hh | hh; exact .inl hh; exact .inr (.inr hh))) hTd
          (by rw [envOf_put hs (fine_spec k2).1]; exact k4) hsz (by rw [← k5]; exact h)
        unfold wpOpIn
        rw [k1]
        simp only [yieldE_eq]
        rcases k3 with ⟨hw, hv⟩ | ⟨hw, hu⟩
        · rw [if_pos hw]
          refine ⟨fun f _ => FW_fn r f, ?_⟩
          rw [Oper.semAt_eq _ _ _ (isDefer_ne (fine_spec k2).2.1), eval_eq, hv w]
          exact ih
        · rw [if_neg (by rw [hw]; simp)]
          rw [hu] at ih
          exact ⟨fun f _ => FW_fn r f, ih⟩
      · -- it is another one
        have hnd : hdone.getD j true = false := by
          rw [hR.fin j hlt, hjl]
          simp only [Bool.false_or, List.contains_eq_mem, decide_eq_false_iff_not]
          exact hjT
        have hjnT : j ∉ T := fun hh => by have := hTd j hh; rw [hnd] at this; cases this
        have hjr : j ∈ Region.ready .any ops hdone := by
          obtain ⟨_, o, ho, hpre⟩ := mem_ready.1 hj
          refine mem_ready.2 ⟨hnd, o, ho, fun ed he hb => ?_⟩
          have h1 := hpre ed he hb
          have hel : ed.on < ops.size := by
            rw [← hR.sz]
            cases hh : listed[ed.on]? with
            | none => rw [Array.getD_eq_getD_getElem?, hh] at h1; cases h1
            | some b => exact (Array.getElem?_eq_some_iff.1 hh).1
          have h2 := hR.fin ed.on hel
          have h3 : listed.getD ed.on true = true := by
            rw [Array.getD_eq_getD_getElem?] at h1 ⊢
            cases hh : listed[ed.on]? with
            | none => rw [hh] at h1; cases h1
            | some b => rw [hh] at h1; simpa using h1
          rw [h3, Bool.true_or] at h2
          rw [Array.getD_eq_getD_getElem?] at h2 ⊢
          cases hh : hdone[ed.on]? with
          | none => have := Array.getElem?_eq_none_iff.1 hh; rw [hR.szd] at this; omega
          | some b => rw [hh] at h2; simpa using h2
        obtain ⟨o, ho⟩ : ∃ o, ops[j]? = some o := ⟨_, Array.getElem?_eq_getElem hlt⟩
        cases fuel2 with
        | zero =>
          have := h.1
          rw [this] at hjr; cases hjr
        | succ fuel =>
          have h2 := h.2 j hjr
          have hops : ∀ (ts : List Pd) (e : Env), PLex P n ops e ts → ∀ y ∈ ts, ops[y.1]? = some y.2.1 := by
            intro ts
            induction ts with
            | nil => intro _ _ y hy; cases hy
            | cons z ts ih =>
              intro e hh y hy
              rcases List.mem_cons.1 hy with rfl | hy
              · exact hh.1
              · exact ih _ hh.2.2.2 y hy
          have hap : ∀ y ∈ t0 :: tr, y.2.1.apart ops o = true := by
            intro y hy
            rcases hTS y.1 (hT y hy) j hlt hjnT with h3 | h3 | h3
            · rcases hR.pr y.1 (List.mem_map_of_mem hy) j (waits_pred h3) with h4 | h4
              · exact (getD_tf hjl h4).elim
              · exact absurd h4 hjT
            · rw [notAp j hj y.1 (List.mem_map_of_mem hy)] at h3; cases h3
            · exact apartO_spec h3 (hops _ _ hl y hy) ho
          refine wpOpIn_back (ts := t0 :: tr) ho (hfine j o ho) (fun ch a w ⟨_, L, _, hh⟩ => hq _ _ _ _ hh) hap hl hs ?_ h2
          intro a1 w1 hs1 hl1 hK
          refine pend hq hTS hfine k (t0 :: tr) fuel (hdone.setIfInBounds j true) (listed.setIfInBounds j true) a1 w1 (by simp at hk ⊢; omega) (hR.both hjT hlt hjp) hT ?_ hl1 hs1 hK
          intro t ht
          exact getD_set_trueT (hTd t ht)
theorem lex_pend {T : List Nat} : ∀ {E : List Nat} {e ef : Env}, LexR P n N w0 ops T L E e ef → (∀ i ∈ E, i ∈ T) → ∃ ts : List Pd, ts.map (·.1) = E ∧ PLex P n ops e ts ∧ updAll e ts = ef := by
  intro E e ef h
  induction h with
  | nil => exact fun _ => ⟨[], rfl, trivial, rfl⟩
  | cons h1 h2 h3 h4 ih =>
    intro hT
    obtain ⟨ts, k1, k2, k3⟩ := ih (fun i hi => hT i (List.mem_cons_of_mem _ hi))
    exact ⟨(_, _, _) :: ts, by simp [k1], ⟨h1, h2, h3.2 (hT _ List.mem_cons_self), k2⟩, k3⟩

theorem any_of_lex {T : List Nat} (hq : T ≠ [] → ∀ ch e ds L, ¬ Q (.panic ch) e ds L) (hTS : ∀ i ∈ T, ∀ j, j < ops.size → j ∉ T → waits ops i j = true ∨ waits ops j i = true ∨ apartO ops i j = true) (hfine : T ≠ [] → ∀ (j : Nat) (o : Oper), ops[j]? = some o → fine n o = true) {hdone : Array Bool} (hTd : ∀ t ∈ T, hdone.getD t true = true) {fuel2 : Nat} : ∀ (m : Nat) (E : List Nat) (S : List ASpec) (listed : Array Bool) (e ef : Env) (X : Hp), E.length + S.length = m → Ready T ops hdone listed (E ++ S.map ASpec.i) → (∀ s ∈ S, s.i ∉ T) → (S.map ASpec.i).Pairwise (fun i j => apartO ops i j = true) →
    LexR P n N w0 ops T L E e ef → (∀ s ∈ S, s.ok P n ops ef) → KAll S ef (fun e' A => AnyO P r n N w0 ops Q ds fuel2 hdone e' (A ++ (X ++ L))) → AnyO P r n N w0 ops Q ds (m + fuel2) listed e (X ++ L)
  | 0, E, S, listed, e, ef, X, hm, hR, _, _, hE, hS, hK => by
    have e1 : E = [] := List.eq_nil_of_length_eq_zero (by omega)
    have e2 : S = [] := List.eq_nil_of_length_eq_zero (by omega)
    subst e1; subst e2
    cases hE
    have : hdone = listed := by
      apply Array.ext (by rw [hR.szd, hR.sz])
      intro i h1 h2
      have := hR.fin i (by rw [← hR.sz]; exact h2)
      simpa [h1, h2] using this
    subst this
    rw [Nat.zero_add]
    exact hK
  | m + 1, E, S, listed, e, ef, X, hm, hR, hST, hAA, hE, hS, hK => by
    rintro a w hs rfl hd hI
    by_cases hall : S = [] ∧ ∀ i ∈ E, i ∈ T
    · -- only what floats is left
      obtain ⟨rfl, hET⟩ := hall
      obtain ⟨ts, k1, k2, k3⟩ := lex_pend hE hET
      have hTne : T ≠ [] := by
        intro h0
        subst h0
        cases E with
        | nil => simp at hm
        | cons i E => have := hET i List.mem_cons_self; cases this
      have hlen : ts.length = m + 1 := by have := congrArg List.length k1; simp at this hm ⊢; omega
      obtain ⟨e1, e2⟩ := envOf_putAll ts _ a k2 hs
      refine pend (hq hTne) hTS (hfine hTne) (m + 1 + fuel2) ts fuel2 hdone listed a w (by omega) (by rw [k1]; simpa using hR) (fun x hx => hET _ (by rw [← k1]; exact List.mem_map_of_mem hx)) hTd k2 hs ?_
      exact hK (putAll a ts) w e2 (by rw [e1, k3]) ((putAll_def ts a).trans hd) hI
    have hnot : ∃ i ∈ E ++ S.map ASpec.i, i ∉ T := by
      match S, hall, hST with
      | [], hall, _ =>
        have : ¬ ∀ i ∈ E, i ∈ T := fun h => hall ⟨rfl, h⟩
        simp only [Classical.not_forall] at this
        obtain ⟨i, hi, hn⟩ := this
        exact ⟨i, by simp [hi], hn⟩
      | s :: S, _, hST => exact ⟨s.i, by simp, hST s List.mem_cons_self⟩
    have hf : m + 1 + fuel2 = (m + fuel2) + 1 := by omega
    rw [hf]
    unfold wpAnyIn
    have notAp : ∀ j, j ∈ Region.ready .any ops listed → ∀ i ∈ E ++ S.map ASpec.i, waits ops j i = false := by
      intro j hj i hi
      cases hw : waits ops j i with
      | false => rfl
      | true => exact (getD_tf (hR.un i hi) ((ready_preds hj).2 i (waits_pred hw))).elim
    refine ⟨fun h0 => ?_, fun j hj => ?_⟩
    · exfalso
      match hU : E ++ S.map ASpec.i, hR with
      | [], _ =>
        have := congrArg List.length hU
        rw [List.length_append, List.length_map, List.length_nil] at this
        omega
      | j :: U, hR =>
        have hj : j ∈ Region.ready .any ops listed := by
          rw [mem_ready]
          refine ⟨hR.un j List.mem_cons_self, ?_⟩
          have hlt := (hR.self j List.mem_cons_self).2
          refine ⟨ops[j], Array.getElem?_eq_getElem hlt, fun ed he hb => ?_⟩
          have hp : ed.on ∈ preds ops j := by
            unfold preds
            rw [Array.getElem?_eq_getElem hlt]
            simp only [List.mem_map, List.mem_filter]
            exact ⟨ed, ⟨by simpa using he, hb⟩, rfl⟩
          rcases hR.pr j List.mem_cons_self _ hp with h1 | h1
          · exact h1
          · rcases List.mem_cons.1 h1 with h1 | h1
            · have := (hR.self j List.mem_cons_self).1
              have h2 := pred_waits hp
              rw [h1] at h2; rw [h2] at this; cases this
            · have := (List.pairwise_cons.1 hR.fw).1 _ h1
              rw [pred_waits hp] at this; cases this
        rw [h0] at hj; cases hj
    · obtain ⟨hjl, hjp⟩ := ready_preds hj
      by_cases hjE : j ∈ E
      · obtain ⟨T1, T2, rfl⟩ := List.append_of_mem hjE
        have hap : ∀ i ∈ T1, apartO ops i j = true := by
          intro i hi
          have h1 := hR.ap
          rw [List.append_assoc, List.pairwise_append] at h1
          rcases h1.2.2 i hi j (by simp) with h2 | h2
          · rw [notAp j hj i (by simp [hi])] at h2; cases h2
          · exact h2
        obtain ⟨o, v, k1, k2, k3, k4⟩ := hE.pull T1 _ hap
        have hnd := hR.nd
        have hj' : j ∉ (T1 ++ T2) ++ S.map ASpec.i := by
          rw [List.append_assoc] at hnd
          have := List.nodup_append.1 hnd
          simp only [List.cons_append, List.nodup_cons] at this
          intro h
          simp only [List.mem_append] at h
          rcases h with (h | h) | h
          · exact this.2.2 j h j (by simp) rfl
          · exact this.2.1.1 (by simp [h])
          · exact this.2.1.1 (by simp only [List.mem_append]; exact .inr h)
        have hR' : Ready T ops hdone (listed.setIfInBounds j true) ((T1 ++ T2) ++ S.map ASpec.i) := by
          refine hR.next ?_ (by simp) ?_ hj' hjp
          · exact List.Sublist.append (List.Sublist.append (List.Sublist.refl _) (List.sublist_cons_self _ _)) (List.Sublist.refl _)
          · intro i hi
            simp only [List.mem_append, List.mem_cons] at hi ⊢
            rcases hi with (h | h | h) | h
            · exact .inr (.inl (.inl h))
            · exact .inl h
            · exact .inr (.inl (.inr h))
            · exact .inr (.inr h)
        have ih := any_of_lex hq hTS hfine hTd m (T1 ++ T2) S (listed.setIfInBounds j true) (updO (envOf a) o.dst v) ef X (by simp at hm ⊢; omega) hR' hST hAA k4 hS hK
        exact wpOpIn_e k1 k2 k3.1 hI fun w' hI' => ih _ _ (size_put.trans hs) (envOf_put hs (fine_spec k2).1) (defers_put.trans hd) hI'
      · by_cases hjS : j ∈ S.map ASpec.i
        · obtain ⟨s, hsS, rfl⟩ := List.mem_map.1 hjS
          obtain ⟨S1, S2, rfl⟩ := List.append_of_mem hsS
          have hok := hS s (by simp)
          have hapE : ∀ i ∈ E, apartO ops i s.i = true := by
            intro i hi
            have h1 := hR.ap
            rw [List.pairwise_append] at h1
            rcases h1.2.2 i hi s.i (by simp) with h2 | h2
            · rw [notAp s.i hj i (by simp [hi])] at h2; cases h2
            · exact h2
          have hapS : ∀ q ∈ S1, apartO ops q.i s.i = true := by
            intro q hq
            have h1 := hR.ap
            rw [List.pairwise_append] at h1
            have h2 := h1.2.1
            rw [List.map_append, List.pairwise_append] at h2
            rcases h2.2.2 q.i (List.mem_map_of_mem hq) s.i (by simp) with h3 | h3
            · rw [notAp s.i hj q.i (by simp; exact .inr (.inl ⟨q, hq, rfl⟩))] at h3; cases h3
            · exact h3
          have hokE := ASpec.back hE hapE hok
          have hnd := hR.nd
          have hnodup : s.i ∉ E ++ (S1 ++ S2).map ASpec.i := by
            simp only [List.map_append, List.map_cons] at hnd
            have h1 := List.nodup_append.1 hnd
            have h2 := List.nodup_append.1 h1.2.1
            simp only [List.nodup_cons] at h2
            intro h
            simp only [List.map_append, List.mem_append] at h
            rcases h with h | h | h
            · exact hjE h
            · exact h2.2.2 _ h _ (by simp) rfl
            · exact h2.2.1.1 h
          have hR' : Ready T ops hdone (listed.setIfInBounds s.i true) (E ++ (S1 ++ S2).map ASpec.i) := by
            refine hR.next ?_ (by simp) ?_ hnodup hjp
            · refine List.Sublist.append (List.Sublist.refl _) ?_
              simp only [List.map_append, List.map_cons]
              exact List.Sublist.append (List.Sublist.refl _) (List.sublist_cons_self _ _)
            · intro i hi
              simp only [List.map_append, List.map_cons, List.mem_append, List.mem_cons] at hi ⊢
              rcases hi with h | h | h | h
              · exact .inr (.inl h)
              · exact .inr (.inr (.inl h))
              · exact .inl h
              · exact .inr (.inr (.inr h))
          have hEu : ∀ b, LexR P n N w0 ops T L E (updO (envOf a) s.o.dst (s.val b)) (updO ef s.o.dst (s.val b)) := fun b =>
            hE.upd (oj := s.o) rfl fun i hi oi ho => apartO_spec (hapE i hi) ho hok.1
          have hSu : ∀ b, ∀ q ∈ S1 ++ S2, q.ok P n ops (updO ef s.o.dst (s.val b)) := by
            intro b q hq
            have hqok := hS q (by simp only [List.mem_append, List.mem_cons] at hq ⊢; rcases hq with h | h; exact .inl h; exact .inr (.inr h))
            refine ASpec.upd (s := q) ?_ hqok
            rcases List.mem_append.1 hq with hq | hq
            · exact (Oper.apart_spec (apartO_spec (hapS q hq) hqok.1 hok.1)).2.2
            · rw [List.map_append, List.pairwise_append, List.map_cons, List.pairwise_cons] at hAA
              exact (Oper.apart_spec (apartO_spec (hAA.2.1.1 q.i (List.mem_map_of_mem hq)) hok.1 hqok.1)).1
          have hAA' : ((S1 ++ S2).map ASpec.i).Pairwise (fun i j => apartO ops i j = true) := by
            refine hAA.sublist ?_
            simp only [List.map_append, List.map_cons]
            exact List.Sublist.append (List.Sublist.refl _) (List.sublist_cons_self _ _)
          have hKp := hK.pull (s := s) (fun e A A' hp h => h.perm (hp.symm.append_right _)) S1 ef (fun q hq t ht => (Oper.apart_spec (apartO_spec (hapS q hq) (hS q (by simp [hq])).1 hok.1)).2.1 t ht)
          refine wpOpIn_a hokE hI fun b w' hI' => ?_
          have ih := any_of_lex hq hTS hfine hTd m E (S1 ++ S2) (listed.setIfInBounds s.i true) _ _ ((b, s.φ) :: X) (by simp at hm ⊢; omega) hR' (fun q hq => hST q (by simp only [List.mem_append, List.mem_cons] at hq ⊢; rcases hq with hh | hh; exact .inl hh; exact .inr (.inr hh))) hAA' (hEu b) (hSu b) ((hKp b).mono fun e' A h => h.perm (by
            rw [List.cons_append, List.cons_append]; exact List.perm_middle))
          exact ih _ _ (size_put.trans hs) (envOf_put hs (fine_spec hok.2.1).1) (defers_put.trans hd) hI'
        · exfalso
          have hlt : j < ops.size := by
            obtain ⟨_, o, ho, _⟩ := mem_ready.1 hj
            exact (Array.getElem?_eq_some_iff.1 ho).1
          have hnd : hdone.getD j true = false := by
            rw [hR.fin j hlt, hjl]
            simp only [Bool.false_or]
            simp only [List.contains_eq_mem, List.mem_append, decide_eq_false_iff_not, not_or]
            exact ⟨hjE, hjS⟩
          obtain ⟨i, hi, hn⟩ := hnot
          have h1 := hR.held j hlt hnd i hi hn
          exact getD_tf (hR.un i hi) (clo_listed hR.closed _ _ hjp i h1)
end

/-! ### As it is used -/
def pwB (f : Nat → Nat → Bool) : List Nat → Bool
  | [] => true
  | i :: l => l.all (f i) && pwB f l
theorem pwB_spec {f : Nat → Nat → Bool} {R : Nat → Nat → Prop} (hR : ∀ i j, f i j = true → R i j) : ∀ {l : List Nat}, pwB f l = true → l.Pairwise R
  | [], _ => .nil
  | i :: l, h => by
    simp only [pwB, Bool.and_eq_true, List.all_eq_true] at h
    exact List.pairwise_cons.2 ⟨fun j hj => hR _ _ (h.1 j hj), pwB_spec hR h.2⟩
def doneOf (k : Nat) (U : List Nat) : Array Bool := ((List.range k).map fun i => U.contains i).toArray
def drawChk (ops : Array Oper) (T E A : List Nat) : Bool :=
  pwB (fun i j => !Nat.beq i j) (E ++ A) && (E ++ A).all (fun i => !waits ops i i && Nat.blt i ops.size) &&
  (List.range ops.size).all (fun s => (E ++ A).contains s || let c := clo ops ops.size (preds ops s); (E ++ A).all fun i => T.contains i || c.contains i) &&
  pwB (fun i j => waits ops j i || apartO ops i j) (E ++ A) && pwB (fun i j => !waits ops i j) (E ++ A) && pwB (fun i j => apartO ops i j) A &&
  (E ++ A).all (fun i => (preds ops i).all fun p => (E ++ A).contains p)
theorem getD_doneOf {k : Nat} {U : List Nat} {i : Nat} (h : i < k) : (doneOf k U).getD i true = U.contains i := by
  simp [doneOf, h]
theorem ready_of_chk {ops : Array Oper} {T E A : List Nat} (h : drawChk ops T E A = true) : Ready T ops (doneOf ops.size (E ++ A)) (Array.replicate ops.size false) (E ++ A) ∧ A.Pairwise (fun i j => apartO ops i j = true) := by
  simp only [drawChk, Bool.and_eq_true, List.all_eq_true] at h
  obtain ⟨⟨⟨⟨⟨⟨h1, h2⟩, h3⟩, h4⟩, h5⟩, h6⟩, h7⟩ := h
  have hlt : ∀ i ∈ E ++ A, i < ops.size := fun i hi => by have := (h2 i hi).2; simpa [Nat.blt_eq] using this
  refine ⟨⟨by simp, by simp [doneOf], ?_, ?_, ?_, ?_, ?_, ?_, ?_, ?_, ?_⟩, pwB_spec (fun _ _ h => h) h6⟩
  · intro i o _ hi
    rw [Array.getD_eq_getD_getElem?, Array.getElem?_replicate] at hi
    split at hi <;> simp at hi
  · intro i hi
    have := hlt i hi
    simp [this]
  · refine pwB_spec (R := fun i j => i ≠ j) (fun i j hb => ?_) h1
    intro e; subst e; simp at hb
  · intro i hi
    rw [getD_doneOf hi]
    simp [hi]
  · intro s hs hd i hi hnT
    rw [getD_doneOf hs] at hd
    have := h3 s (List.mem_range.2 hs)
    simp only [hd, Bool.false_or, List.all_eq_true] at this
    have h4 := this i hi
    simp only [Bool.or_eq_true, List.contains_eq_mem, decide_eq_true_eq] at h4
    exact h4.resolve_left hnT
  · exact pwB_spec (fun i j h => by simpa using h) h4
  · exact pwB_spec (fun i j h => by simpa using h) h5
  · intro i hi
    exact ⟨by simpa using (h2 i hi).1, hlt i hi⟩
  · intro i hi p hp
    exact .inr (by simpa using h7 i hi p hp)
section
variable {P : Program} {r : Option Nat} {n N : Nat} {w0 : World} {ops : Array Oper} {T : List Nat} {Q : Post} {ds : List Deferred} {e : Env} {L : Hp}
def EWalk (P : Program) (n N : Nat) (w0 : World) (ops : Array Oper) (T : List Nat) (L : Hp) (l : List Nat) (e : Env) (K : Env → Prop) : Prop := ∃ ef, LexR P n N w0 ops T L l e ef ∧ K ef
theorem EWalk_nil {K : Env → Prop} (h : K e) : EWalk P n N w0 ops T L [] e K := ⟨e, .nil, h⟩
theorem EWalk_ev {i : Nat} {l : List Nat} {o : Oper} {v : Value} {K : Env → Prop} (ho : ops[i]? = some o) (hf : fine n o = true) (hT : T.contains i = false) (hg : Region.wanted o (yieldE ops e) = true) (hv : Ev P N w0 L e o v) (h : EWalk P n N w0 ops T L l (updO e o.dst v) K) :
    EWalk P n N w0 ops T L (i :: l) e K := let ⟨ef, h1, h2⟩ := h; ⟨ef, .cons ho hf ⟨.inl ⟨hg, hv⟩, fun h => by simp [h] at hT⟩ h1, h2⟩
theorem EWalk_pv {i : Nat} {l : List Nat} {o : Oper} {v : Value} {K : Env → Prop} (ho : ops[i]? = some o) (hf : fine n o = true) (hg : Region.wanted o (yieldE ops e) = true) (hv : ∀ w, Val P 0 w [] e o v) (h : EWalk P n N w0 ops T L l (updO e o.dst v) K) :
    EWalk P n N w0 ops T L (i :: l) e K :=
  have hr : ∀ w, (execOp (ev e) o).run P w = .ok (.value v) w := fun w => hv w w ⟨Below.refl _ w, Nat.zero_le _, .nil, fun _ h => by cases h⟩
  let ⟨ef, h1, h2⟩ := h; ⟨ef, .cons ho hf ⟨.inl ⟨hg, fun _ w _ => .inl (hr w)⟩, fun _ => .inl ⟨hg, hr⟩⟩ h1, h2⟩
theorem EWalk_skip {i : Nat} {l : List Nat} {o : Oper} {K : Env → Prop} (ho : ops[i]? = some o) (hf : fine n o = true) (hg : Region.wanted o (yieldE ops e) = false) (h : EWalk P n N w0 ops T L l (updO e o.dst undef) K) :
    EWalk P n N w0 ops T L (i :: l) e K := let ⟨ef, h1, h2⟩ := h; ⟨ef, .cons ho hf ⟨.inr ⟨hg, rfl⟩, fun _ => .inr ⟨hg, rfl⟩⟩ h1, h2⟩
theorem upd_same {d : Nat} {v : Value} (h : e d = v) : upd e d v = e := by
  funext k
  unfold upd
  cases hb : Nat.beq k d with
  | false => rfl
  | true => have := Nat.eq_of_beq_eq_true hb; subst this; exact h.symm
theorem EWalk_split {l : List Nat} {K : Env → Prop} (d : Nat) {t : Bool} (hd : e d = .bool t) (h1 : t = true → EWalk P n N w0 ops T L l (upd e d (.bool true)) K) (h2 : t = false → EWalk P n N w0 ops T L l (upd e d (.bool false)) K) : EWalk P n N w0 ops T L l e K := by
  have hs := upd_same hd
  cases t with
  | true => have := h1 rfl; rwa [hs] at this
  | false => have := h2 rfl; rwa [hs] at this
/-- What is left behind evaluations and new blocks. -/
def AWalk (P : Program) (n : Nat) (ops : Array Oper) (A : List Nat) (eB e : Env) (K : Env → Hp → Prop) : Prop := ∃ S : List ASpec, S.map ASpec.i = A ∧ (∀ s ∈ S, s.ok P n ops eB) ∧ KAll S e K
theorem AWalk_0 {K : Env → Hp → Prop} {eB : Env} (h : K e []) : AWalk P n ops [] eB e K := ⟨[], rfl, (fun _ hs => absurd hs (by simp)), h⟩
theorem AWalk_1 {i : Nat} {o : Oper} {obj : Obj} {φ : Obj → Prop} {mk : Nat → Value} {K : Env → Hp → Prop} (ho : ops[i]? = some o) (hf : fine n o = true) (hg : Region.wanted o (yieldE ops e) = true) (hφ : φ obj) (hn : New P e o obj mk)
    (h : ∀ b, K (updO e o.dst (mk b)) [(b, φ)]) : AWalk P n ops [i] e e K :=
  ⟨[⟨i, o, obj, φ, mk⟩], rfl, (by intro s hs; rcases List.mem_cons.1 hs with rfl | hs; (exact ⟨ho, hf, hg, hφ, hn⟩); cases hs), h⟩
theorem WP_drawn {id : Nat} {l : List Oper} (E A : List Nat) {k : Nat} (hm : P.follows .mixedOrders = true) (hc : drawChk l.toArray [] E A = true) (hk : l.length = E.length + A.length + k)
    (h : EWalk P n N w0 l.toArray [] L E e fun ef => AWalk P n l.toArray A ef ef fun e' A' => AnyO P r n N w0 l.toArray Q ds k (doneOf l.length (E ++ A)) e' (A' ++ L)) : WP P r n N w0 (.region id l.toArray true) Q e ds L := by
  refine WP_draw hm ?_
  obtain ⟨ef, hE, S, hS1, hS2, hK⟩ := h
  obtain ⟨hR, hAA⟩ := ready_of_chk hc
  subst hS1
  have := any_of_lex (P := P) (r := r) (Q := Q) (ds := ds) (fuel2 := k) (L := L) (w0 := w0) (N := N) (n := n) (T := []) (fun h => absurd rfl h) (fun _ h => by cases h) (fun h => absurd rfl h) (fun _ h => by cases h) (E.length + S.length) E S _ e ef [] rfl hR (fun _ _ h => by cases h) hAA hE hS2 hK
  rw [List.length_map] at hk
  rw [← hk] at this
  simpa using this
/-- Nobody panics. -/
def noP (Q : Post) : Post
  | .panic _, _, _, _ => False
  | x, e, ds, L => Q x e ds L
theorem noP_normal (h : Q .normal e ds L) : noP Q .normal e ds L := h
def floatChk (n : Nat) (ops : Array Oper) (T E A : List Nat) : Bool :=
  T.all (fun i => E.contains i && !A.contains i && (List.range ops.size).all fun j => T.contains j || waits ops i j || waits ops j i || apartO ops i j) && ops.all (fine n)
/-- The same, where operations T may come up behind what writes. -/
theorem WP_drawnT {id : Nat} {l : List Oper} (T E A : List Nat) {k : Nat} (hm : P.follows .mixedOrders = true) (hc : drawChk l.toArray T E A = true) (hf : floatChk n l.toArray T E A = true) (hk : l.length = E.length + A.length + k)
    (h : EWalk P n N w0 l.toArray T L E e fun ef => AWalk P n l.toArray A ef ef fun e' A' => AnyO P r n N w0 l.toArray (noP Q) ds k (doneOf l.length (E ++ A)) e' (A' ++ L)) : WP P r n N w0 (.region id l.toArray true) Q e ds L := by
  refine WP_mono (Q := noP Q) (WP_draw hm ?_) (fun x e ds L h => by cases x <;> first | exact h | exact h.elim)
  obtain ⟨ef, hE, S, hS1, hS2, hK⟩ := h
  obtain ⟨hR, hAA⟩ := ready_of_chk hc
  subst hS1
  simp only [floatChk, Bool.and_eq_true, List.all_eq_true, Array.all_eq_true, Bool.not_eq_true', List.mem_range, Bool.or_eq_true] at hf
  obtain ⟨hf1, hf2⟩ := hf
  have hlt : ∀ t ∈ T, t < l.length := by
    intro t ht
    have h1 : t ∈ E := by simpa using (hf1 t ht).1.1
    have := (hR.self t (by simp [h1])).2
    simpa using this
  have := any_of_lex (P := P) (r := r) (Q := noP Q) (ds := ds) (fuel2 := k) (L := L) (w0 := w0) (N := N) (n := n) (T := T) (fun _ _ _ _ _ h => h)
    (fun i hi j hj hjT => by
      have h1 := (hf1 i hi).2 j hj
      rcases h1 with ((h1 | h1) | h1) | h1
      · simp at h1; exact absurd h1 hjT
      · exact .inl h1
      · exact .inr (.inl h1)
      · exact .inr (.inr h1))
    (fun _ j o ho => by
      obtain ⟨h1, h2⟩ := Array.getElem?_eq_some_iff.1 ho
      rw [← h2]; exact hf2 j h1)
    (fun t ht => by
      have h1 : t ∈ E := by simpa using (hf1 t ht).1.1
      have h2 := getD_doneOf (k := l.toArray.size) (U := E ++ S.map ASpec.i) (i := t) (by simpa using hlt t ht)
      rw [h2]; simp [h1])
    (E.length + S.length) E S _ e ef [] rfl hR (fun s hs ht => by
      have := (hf1 s.i ht).1.2
      simp only [List.contains_eq_mem, decide_eq_false_iff_not] at this
      exact this (List.mem_map_of_mem hs)) hAA hE hS2 hK
  rw [List.length_map] at hk
  rw [← hk] at this
  simpa using this

/-! what writes, in every order that is left -/
def QAny (P : Program) (r : Option Nat) (n N : Nat) (w0 : World) (ops : Array Oper) (ds0 : List Deferred) (Q : Post) (fuel : Nat) (listed : Array Bool) : Post
  | .normal, e, ds, L => ds = ds0 ∧ AnyO P r n N w0 ops Q ds0 fuel listed e L
  | x, e, ds, L => Q x e ds L
theorem QAny_normal {fuel : Nat} {listed : Array Bool} (h : AnyO P r n N w0 ops Q ds fuel listed e L) : QAny P r n N w0 ops ds Q fuel listed .normal e ds L := ⟨rfl, h⟩
theorem uponIn_monoQ {F : Fence} {m : Nat} {o : Oper} {a : Act} {K : Act → World → Prop} {Q1 Q2 : Exit → Act → World → Prop} (hq : ∀ x a w, x ≠ .normal → Q1 x a w → Q2 x a w) {x : Result Next} (h : o.uponIn F m P a K Q1 x) : o.uponIn F m P a K Q2 x := by
  have hl : LetsOut Q1 → LetsOut Q2 := fun ⟨a, w, h⟩ => ⟨a, w, hq _ _ _ (by simp) h⟩
  cases x with
  | ok x w' =>
    cases x <;> simp only [Oper.uponIn] at h ⊢ <;>
      first
        | exact h
        | exact ⟨h.1, CallsIn.mono h.2 (fun e w'' he => by cases e <;> first | exact he | exact hq _ _ _ (by simp) he | exact hl he)⟩
        | exact ⟨h.1, RoundIn.mono h.2 (fun e w'' he => by cases e <;> first | exact he | exact hq _ _ _ (by simp) he | exact hl he)⟩
  | halt x w' =>
    cases x <;> simp only [Oper.uponIn] at h ⊢ <;> first | exact h | exact hq _ _ _ (by simp) h
theorem wpOpIn_of_OPS {i : Nat} {o : Oper} {fuel : Nat} {listed : Array Bool} (ho : ops[i]? = some o) (h : OPS P r n N w0 ops [o] (QAny P r n N w0 ops ds Q fuel listed) e ds L) {a : Act} {w : World} (hs : a.tmps.size = n) (he : envOf a = e) (hd : a.defers = ds) (hI : Inv N w0 L w) :
    wpOpIn (FW r) 0 P ops (PostA n N w0 Q) i (wpAnyIn (FW r) 0 P .any ops (PostA n N w0 Q) fuel listed) a w := by
  have h1 := h a w hs he hd hI
  unfold wpListIn at h1
  unfold wpOpIn
  rw [ho]
  simp only
  have key : ∀ a w, wpListIn (FW r) 0 P ops (PostA n N w0 (QAny P r n N w0 ops ds Q fuel listed)) [] a w → wpAnyIn (FW r) 0 P .any ops (PostA n N w0 Q) fuel listed a w := by
    rintro a w ⟨hs', L', hI', hd', hA⟩
    exact hA a w hs' rfl hd' hI'
  split
  · rename_i hw
    rw [if_pos hw] at h1
    have h2 := Oper.wpIn_mono key h1
    refine ⟨h2.1, uponIn_monoQ (Q1 := PostA n N w0 (QAny P r n N w0 ops ds Q fuel listed)) ?_ h2.2⟩
    rintro x a w hx ⟨hs', L', hI', hq⟩
    cases x <;> first
      | exact absurd rfl hx
      | exact ⟨hs', L', hI', hq⟩
  · rename_i hw
    rw [if_neg hw] at h1
    exact ⟨h1.1, key _ _ h1.2⟩
theorem AnyO_done {listed : Array Bool} (hr : Region.ready .any ops listed = []) (h : Q .normal e ds L) : AnyO P r n N w0 ops Q ds 0 listed e L := by
  rintro a w hs rfl rfl hI
  exact ⟨hr, hs, L, hI, h⟩
theorem AnyO_1 {fuel : Nat} {listed : Array Bool} (i : Nat) {o : Oper} (hr : Region.ready .any ops listed = [i]) (ho : ops[i]? = some o) (h : OPS P r n N w0 ops [o] (QAny P r n N w0 ops ds Q fuel (listed.setIfInBounds i true)) e ds L) :
    AnyO P r n N w0 ops Q ds (fuel + 1) listed e L := by
  intro a w hs he hd hI
  refine ⟨(fun h0 => by rw [hr] at h0; cases h0), fun j hj => ?_⟩
  rw [hr] at hj
  rcases List.mem_cons.1 hj with rfl | hj
  · exact wpOpIn_of_OPS ho h hs he hd hI
  · cases hj
end

section
variable {P : Program} {r : Option Nat} {n N : Nat} {w0 : World} {ops : Array Oper} {T : List Nat} {e : Env} {L : Hp}
theorem EWalk_evS {i d : Nat} {l : List Nat} {o : Oper} {v : Value} {K : Env → Prop} (ho : ops[i]? = some o) (hd : o.dst = some d) (hf : fine n o = true) (hT : T.contains i = false) (hg : Region.wanted o (yieldE ops e) = true) (hv : Ev P N w0 L e o v) (h : EWalk P n N w0 ops T L l (upd e d v) K) :
    EWalk P n N w0 ops T L (i :: l) e K := EWalk_ev ho hf hT hg hv (by rw [hd]; exact h)
theorem EWalk_pvS {i d : Nat} {l : List Nat} {o : Oper} {v : Value} {K : Env → Prop} (ho : ops[i]? = some o) (hd : o.dst = some d) (hf : fine n o = true) (hg : Region.wanted o (yieldE ops e) = true) (hv : ∀ w, Val P 0 w [] e o v) (h : EWalk P n N w0 ops T L l (upd e d v) K) :
    EWalk P n N w0 ops T L (i :: l) e K := EWalk_pv ho hf hg hv (by rw [hd]; exact h)
theorem EWalk_skipS {i d : Nat} {l : List Nat} {o : Oper} {K : Env → Prop} (ho : ops[i]? = some o) (hd : o.dst = some d) (hf : fine n o = true) (hg : Region.wanted o (yieldE ops e) = false) (h : EWalk P n N w0 ops T L l (upd e d undef) K) :
    EWalk P n N w0 ops T L (i :: l) e K := EWalk_skip ho hf hg (by rw [hd]; exact h)
theorem AWalk_1S {i d : Nat} {o : Oper} {obj : Obj} {φ : Obj → Prop} {mk : Nat → Value} {K : Env → Hp → Prop} (ho : ops[i]? = some o) (hd : o.dst = some d) (hf : fine n o = true) (hg : Region.wanted o (yieldE ops e) = true) (hφ : φ obj) (hn : New P e o obj mk)
    (h : ∀ b, K (upd e d (mk b)) [(b, φ)]) : AWalk P n ops [i] e e K := AWalk_1 ho hf hg hφ hn (by rw [hd]; exact h)
end
end Go.Proofs.Ytakmopiceopcpaa
end
