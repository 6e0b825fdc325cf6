/- Regions whose order of evaluation is left open: evaluations that may come up behind what writes, since what they read is not written. -/
import Derived.Test.YtakmopiceopcpaaDraw
import Derived.Test.YtakmopiceopcpaaRange
section
namespace Go.Proofs.Ytakmopiceopcpaa
open Go.RowKit
/-- What writes, in every order; B is left alone. -/
def QB (ds : List Deferred) (A : Env → Hp → Prop) : Post
  | .normal, e, ds', L => ds' = ds ∧ A e L
  | _, _, _, _ => False
def AnyB (P : Program) (r : Option Nat) (n N : Nat) (w0 : World) (ops : Array Oper) (Q : Post) (ds : List Deferred) (B : Hp) : Nat → Array Bool → Env → Hp → Prop
  | 0, listed, e, L => Sub B L ∧ Region.ready .any ops listed = [] ∧ ∃ L1, L.Perm L1 ∧ Q .normal e ds L1
  | fuel + 1, listed, e, L => Sub B L ∧ Region.ready .any ops listed ≠ [] ∧ ∀ j ∈ Region.ready .any ops listed, ∃ o, ops[j]? = some o ∧ OPS P r n N w0 ops [o] (QB ds (AnyB P r n N w0 ops Q ds B fuel (listed.setIfInBounds j true))) e ds L
section
variable {P : Program} {r : Option Nat} {n N : Nat} {w0 : World} {ops : Array Oper} {Q : Post} {ds : List Deferred} {e : Env} {L B : Hp}
theorem Sub.perm {B L L' : Hp} (h : Sub B L) (k : L'.Perm L) : Sub B L' := let ⟨L0, h⟩ := h; ⟨L0, k.trans h⟩
theorem AnyB.sub : ∀ {fuel : Nat} {listed : Array Bool}, AnyB P r n N w0 ops Q ds B fuel listed e L → Sub B L
  | 0, _, h => h.1
  | _ + 1, _, h => h.1
theorem AnyB.perm {L' : Hp} (k : L'.Perm L) : ∀ {fuel : Nat} {listed : Array Bool}, AnyB P r n N w0 ops Q ds B fuel listed e L → AnyB P r n N w0 ops Q ds B fuel listed e L'
  | 0, _, h => ⟨h.1.perm k, h.2.1, let ⟨L1, h1, h2⟩ := h.2.2; ⟨L1, k.trans h1, h2⟩⟩
  | _ + 1, _, h => ⟨h.1.perm k, h.2.1, fun j hj => let ⟨o, ho, h3⟩ := h.2.2 j hj; ⟨o, ho, fun a w hs he hd hI => h3 a w hs he hd (hI.perm k)⟩⟩
theorem wpOpIn_of_OPSB {i : Nat} {o : Oper} {A : Env → Hp → Prop} (ho : ops[i]? = some o) (h : OPS P r n N w0 ops [o] (QB ds A) e ds L) {a : Act} {w : World} (hs : a.tmps.size = n) (he : envOf a = e) (hd : a.defers = ds) (hI : Inv N w0 L w) :
    wpOpIn (FW r) 0 P ops (fun _ _ _ => False) i (fun a w => a.tmps.size = n ∧ a.defers = ds ∧ ∃ L', Inv N w0 L' w ∧ A (envOf a) L') a w := by
  have h1 := h a w hs he hd hI
  unfold wpListIn at h1
  unfold wpOpIn
  rw [ho]
  simp only
  have key : ∀ a w, wpListIn (FW r) 0 P ops (PostA n N w0 (QB ds A)) [] a w → (a.tmps.size = n ∧ a.defers = ds ∧ ∃ L', Inv N w0 L' w ∧ A (envOf a) L') := by
    rintro a w ⟨hs', L', hI', hd', hA⟩
    exact ⟨hs', hd', L', hI', hA⟩
  split
  · rename_i hw
    rw [if_pos hw] at h1
    have h2 := Oper.wpIn_mono key h1
    refine ⟨h2.1, uponIn_monoQ (Q1 := PostA n N w0 (QB ds A)) ?_ h2.2⟩
    rintro x a w hx ⟨hs', L', hI', hq⟩
    cases x <;> first
      | exact absurd rfl hx
      | exact hq
  · rename_i hw
    rw [if_neg hw] at h1
    exact ⟨h1.1, key _ _ h1.2⟩
theorem wpOpIn_monoQ {i : Nat} {K : Act → World → Prop} {Q2 : Exit → Act → World → Prop} {a : Act} {w : World} (h : wpOpIn (FW r) 0 P ops (fun _ _ _ => False) i K a w) : wpOpIn (FW r) 0 P ops Q2 i K a w := by
  unfold wpOpIn at h ⊢
  cases ho : ops[i]? with
  | none => rw [ho] at h; exact h
  | some o =>
    rw [ho] at h
    simp only at h ⊢
    split
    · rename_i hw
      rw [if_pos hw] at h
      exact ⟨h.1, uponIn_monoQ (Q1 := fun _ _ _ => False) (fun _ _ _ _ h => h.elim) h.2⟩
    · rename_i hw
      rw [if_neg hw] at h
      exact h
theorem AnyB.any : ∀ {fuel : Nat} {listed : Array Bool} {e : Env} {L : Hp}, AnyB P r n N w0 ops Q ds B fuel listed e L → AnyO P r n N w0 ops Q ds fuel listed e L
  | 0, _, _, _, h => by
    rintro a w hs rfl rfl hI
    obtain ⟨_, h1, L1, h2, h3⟩ := h
    exact ⟨h1, hs, L1, hI.perm h2, h3⟩
  | fuel + 1, listed, e, L, h => by
    rintro a w hs he hd hI
    refine ⟨fun h0 => absurd h0 h.2.1, fun j hj => ?_⟩
    obtain ⟨o, ho, h3⟩ := h.2.2 j hj
    have h4 := wpOpIn_monoQ (Q2 := PostA n N w0 Q) (wpOpIn_of_OPSB ho h3 hs he hd hI)
    refine wpOpIn_mono ?_ h4
    rintro a1 w1 ⟨hs1, hd1, L1, hI1, hA1⟩
    exact AnyB.any hA1 a1 w1 hs1 rfl hd1 hI1

def PLexB (P : Program) (n N : Nat) (w0 : World) (ops : Array Oper) (L : Hp) : Env → List Pd → Prop
  | _, [] => True
  | e, x :: ts => ops[x.1]? = some x.2.1 ∧ fine n x.2.1 = true ∧ EStep P N w0 ops L e x.2.1 x.2.2 ∧ PLexB P n N w0 ops L (updO e x.2.1.dst x.2.2) ts
theorem envOf_putAllB : ∀ (ts : List Pd) (e : Env) (a : Act), PLexB P n N w0 ops L e ts → a.tmps.size = n → envOf (putAll a ts) = updAll (envOf a) ts ∧ (putAll a ts).tmps.size = n
  | [], _, _, _, hs => ⟨rfl, hs⟩
  | x :: ts, e, a, h, hs => by
    obtain ⟨_, h2, _, h4⟩ := h
    have := envOf_putAllB ts _ (a.put x.2.1.dst x.2.2) h4 (size_put.trans hs)
    simp only [putAll, updAll, List.foldl_cons] at this ⊢
    rw [envOf_put hs (fine_spec h2).1] at this
    exact this
theorem PLexB.upd {oj : Oper} {u : Value} : ∀ (ts : List Pd) (e : Env), PLexB P n N w0 ops L e ts → (∀ x ∈ ts, x.2.1.apart ops oj = true) → PLexB P n N w0 ops L (updO e oj.dst u) ts
  | [], _, _, _ => trivial
  | x :: ts, e, h, ha => by
    obtain ⟨h1, h2, h3, h4⟩ := h
    obtain ⟨a1, a2, a3⟩ := Oper.apart_spec (ha x List.mem_cons_self)
    refine ⟨h1, h2, (EStep.of_upd (fine_spec h2).2.2 a3).2 h3, ?_⟩
    rw [← updO_comm a2]
    exact PLexB.upd ts _ h4 (fun y hy => ha y (List.mem_cons_of_mem _ hy))
theorem PLexB.pull {j : Pd} {t2 : List Pd} : ∀ (t1 : List Pd) (e : Env) (a : Act), PLexB P n N w0 ops L e (t1 ++ j :: t2) → (∀ x ∈ t1, x.2.1.apart ops j.2.1 = true) →
    ops[j.1]? = some j.2.1 ∧ fine n j.2.1 = true ∧ EStep P N w0 ops L e j.2.1 j.2.2 ∧ PLexB P n N w0 ops L (updO e j.2.1.dst j.2.2) (t1 ++ t2) ∧ putAll a (t1 ++ j :: t2) = putAll (a.put j.2.1.dst j.2.2) (t1 ++ t2)
  | [], e, a, h, _ => ⟨h.1, h.2.1, h.2.2.1, h.2.2.2, rfl⟩
  | x :: t1, e, a, h, ha => by
    obtain ⟨h1, h2, h3, h4⟩ := h
    obtain ⟨k1, k2, k3, k4, k5⟩ := PLexB.pull t1 _ (a.put x.2.1.dst x.2.2) h4 (fun y hy => ha y (List.mem_cons_of_mem _ hy))
    obtain ⟨a1, a2, a3⟩ := Oper.apart_spec (ha x List.mem_cons_self)
    refine ⟨k1, k2, (EStep.of_upd (fine_spec k2).2.2 a1).1 k3, ⟨h1, h2, (EStep.of_upd (fine_spec h2).2.2 a3).2 h3, ?_⟩, ?_⟩
    · rw [← updO_comm a2]; exact k4
    · simp only [putAll, List.cons_append, List.foldl_cons] at k5 ⊢
      rw [k5, put_comm a2]
theorem lex_pendB : ∀ {E : List Nat} {e ef : Env}, LexR P n N w0 ops [] L E e ef → ∃ ts : List Pd, ts.map (·.1) = E ∧ PLexB P n N w0 ops L e ts ∧ updAll e ts = ef := by
  intro E e ef h
  induction h with
  | nil => exact ⟨[], rfl, trivial, rfl⟩
  | cons h1 h2 h3 h4 ih =>
    obtain ⟨ts, k1, k2, k3⟩ := ih
    exact ⟨(_, _, _) :: ts, by simp [k1], ⟨h1, h2, h3.1, k2⟩, k3⟩

theorem Sub.left {L0 : Hp} : Sub B (B ++ L0) := ⟨L0, .refl _⟩
inductive Pick {α : Type} (x : α) : List α → List α → Prop
  | here {l : List α} : Pick x (x :: l) l
  | there {y : α} {l l' : List α} (h : Pick x l l') : Pick x (y :: l) (y :: l')
theorem Pick.perm {α : Type} {x : α} {l l' : List α} (h : Pick x l l') : l.Perm (x :: l') := by
  induction h with
  | here => exact .refl _
  | there _ ih => exact (ih.cons _).trans (.swap _ _ _)
theorem Sub.pick {x : Nat × (Obj → Prop)} {L' : Hp} (h : Pick x L L') (k : Sub B L') : Sub (x :: B) L := let ⟨L0, k⟩ := k; ⟨L0, h.perm.trans (k.cons x)⟩
theorem Perm.pick {x : Nat × (Obj → Prop)} {A L' : Hp} (h : Pick x L L') (k : A.Perm L') : List.Perm (x :: A) L := (k.cons x).trans h.perm.symm
theorem Sub.keep {x : Nat × (Obj → Prop)} (h : Sub B L) : Sub (x :: B) (x :: L) := let ⟨L0, h⟩ := h; ⟨L0, h.cons x⟩
end
end Go.Proofs.Ytakmopiceopcpaa
end
