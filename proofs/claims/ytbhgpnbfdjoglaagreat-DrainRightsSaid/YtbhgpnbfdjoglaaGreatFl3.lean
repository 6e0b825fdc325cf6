/- Operations that float behind a write read what is not written; those ahead of it read all. -/
import Derived.Test.YtbhgpnbfdjoglaaGreatFloat2
section
namespace Go.Proofs.YtbhgpnbfdjoglaaGreat
open Go.RowKit
section
variable {P : Program} {r : Option Nat} {n N : Nat} {w0 : World} {ops : Array Oper} {Q : Post} {ds : List Deferred} {e : Env} {L B Y : Hp} {fl T : List Nat} {k2 : Nat}
def QStep (P : Program) (N : Nat) (w0 : World) (ops : Array Oper) (T : List Nat) (Y B : Hp) (i : Nat) (e : Env) (o : Oper) (v : Value) : Prop := EStep P N w0 ops Y e o v ∧ (i ∈ T → EStep P N w0 ops B e o v)
theorem QStep.of_upd {i : Nat} {o : Oper} {v : Value} {d : Option Nat} {u : Value} (hs : notSel o = true) (h : ∀ t, d = some t → t ∉ o.looksAt ops) : QStep P N w0 ops T Y B i (updO e d u) o v ↔ QStep P N w0 ops T Y B i e o v := by
  unfold QStep
  rw [EStep.of_upd hs h, EStep.of_upd hs h]
inductive LexQ (P : Program) (n N : Nat) (w0 : World) (ops : Array Oper) (T : List Nat) (Y B : Hp) : List Nat → Env → Env → Prop
  | nil {e : Env} : LexQ P n N w0 ops T Y B [] e e
  | cons {i : Nat} {l : List Nat} {e e' : Env} {o : Oper} {v : Value} (h1 : ops[i]? = some o) (h2 : fine n o = true) (h3 : QStep P N w0 ops T Y B i e o v) (h4 : LexQ P n N w0 ops T Y B l (updO e o.dst v) e') : LexQ P n N w0 ops T Y B (i :: l) e e'
theorem LexQ.pull {j : Nat} {T2 : List Nat} {ef : Env} : ∀ (T1 : List Nat) (e : Env), LexQ P n N w0 ops T Y B (T1 ++ j :: T2) e ef → (∀ i ∈ T1, apartO ops i j = true) →
    ∃ o v, ops[j]? = some o ∧ fine n o = true ∧ QStep P N w0 ops T Y B j e o v ∧ LexQ P n N w0 ops T Y B (T1 ++ T2) (updO e o.dst v) ef
  | [], e, h, _ => by
    cases h with
    | cons h1 h2 h3 h4 => exact ⟨_, _, h1, h2, h3, h4⟩
  | i :: T1, e, h, ha => by
    cases h with
    | cons h1 h2 h3 h4 =>
      obtain ⟨oj, vj, k1, k2, k3, k4⟩ := LexQ.pull T1 _ h4 (fun k hk => ha k (List.mem_cons_of_mem _ hk))
      obtain ⟨a1, a2, a3⟩ := Oper.apart_spec (apartO_spec (ha i List.mem_cons_self) h1 k1)
      refine ⟨oj, vj, k1, k2, (QStep.of_upd (fine_spec k2).2.2 a1).1 k3, .cons h1 h2 ((QStep.of_upd (fine_spec h2).2.2 a3).2 h3) ?_⟩
      rw [← updO_comm a2]
      exact k4
/-- Evaluations mind no slot that they do not look at. -/
theorem LexQ.upd {d : Option Nat} {u : Value} {oj : Oper} (hd : oj.dst = d) : ∀ {E : List Nat} {e ef : Env}, LexQ P n N w0 ops T Y B E e ef → (∀ i ∈ E, ∀ oi, ops[i]? = some oi → oi.apart ops oj = true) → LexQ P n N w0 ops T Y B E (updO e d u) (updO ef d u) := by
  intro E e ef h
  induction h with
  | nil => exact fun _ => .nil
  | cons h1 h2 h3 h4 ih =>
    intro ha
    obtain ⟨a1, a2, a3⟩ := Oper.apart_spec (ha _ List.mem_cons_self _ h1)
    subst hd
    refine .cons h1 h2 ((QStep.of_upd (fine_spec h2).2.2 a3).2 h3) ?_
    rw [← updO_comm a2]
    exact ih (fun i hi => ha i (List.mem_cons_of_mem _ hi))
theorem Ev.sub {o : Oper} {v : Value} (hS : Sub B Y) (h : Ev P N w0 B e o v) : Ev P N w0 Y e o v := by
  obtain ⟨M, hp⟩ := hS
  intro X w hI
  have hp2 : (X ++ Y).Perm ((X ++ M) ++ B) := by
    rw [List.append_assoc]
    exact List.Perm.append_left X (hp.trans List.perm_append_comm)
  rcases h (X ++ M) w (hI.perm hp2) with h1 | ⟨f, args, h1, h2⟩
  · exact .inl h1
  · exact .inr ⟨f, args, h1, h2.mono fun x w' h3 => ⟨h3.1, h3.2.perm hp2.symm⟩⟩
end
section
variable {P : Program} {n N : Nat} {w0 : World} {ops : Array Oper} {e : Env} {B Y : Hp} {T l : List Nat} {i d : Nat} {K : Env → Prop}
end
end Go.Proofs.YtbhgpnbfdjoglaaGreat
end
