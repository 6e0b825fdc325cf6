/- The law SodMore in plain terms: a bank known better. -/
import Derived.Test.YtkaadefndcbdnaaQe
namespace Go.Proofs.Ytkaadefndcbdnaa
open Go.RowKit
/-- A bank known better. -/
structure Nar (s' s : Sd) : Prop where
  sp : s'.spits = s.spits
  dl : s'.days.length = s.days.length
  sub : ∀ c ts, Tru s' c ts → Tru s c ts
theorem nar_add (s : Sd) (l : Lg) : Nar (addL s l) s := ⟨rfl, rfl, fun _ _ h => (tru_add.1 h).1⟩
def setLg (s : Sd) (k : Nat) (q : Lg) : Sd := { s with logs := s.logs.set k q }
def setD (s : Sd) (d : Nat) (q : Sp) : Sd := { s with days := s.days.set d q }
def revS (s : Sd) : Sd := { s with logs := s.logs.reverse }
theorem nar_log {s : Sd} {k : Nat} (hk : k < s.logs.length) {q l : Lg} (hl : s.logs[k] = l) (h1 : q.day = l.day) (h2 : l.lo ≤ q.lo) (h3 : q.hi ≤ l.hi) : Nar (setLg s k q) s := by
  refine ⟨rfl, rfl, fun c ts h => ?_⟩
  obtain ⟨a1, a2, a3⟩ := tru_iff.1 h
  refine tru_iff.2 ⟨a1, a2, fun x hx => ?_⟩
  obtain ⟨j, hj, rfl⟩ := List.mem_iff_getElem.1 hx
  by_cases hjk : j = k
  · subst hjk
    have h4 : Right s.spits c ts q := a3 q (List.mem_set hk q)
    rw [hl]
    intro m t hm ht
    have := h4 m t (by omega) ht
    omega
  · refine a3 _ (List.mem_iff_getElem.2 ⟨j, by show j < (s.logs.set k q).length; rw [List.length_set]; exact hj, ?_⟩)
    show (s.logs.set k q)[j]'_ = _
    rw [List.getElem_set_ne (fun hh => hjk hh.symm)]
theorem steps_set : ∀ {xs : List Sp} {d : Nat} {q : Sp} {a : Int} {ts : List Int}, (∀ x, xs[d]? = some x → x.1 ≤ q.1 ∧ q.2 ≤ x.2) → Steps a (xs.set d q) ts → Steps a xs ts
  | [], _, _, _, _, _, h => h
  | x :: xs, 0, q, a, t :: ts, hq, h => by
    rw [List.set_cons_zero] at h
    obtain ⟨h1, h2, h3⟩ := h
    have := hq x rfl
    exact ⟨by omega, by omega, h3⟩
  | x :: xs, d + 1, q, a, t :: ts, hq, h => by
    rw [List.set_cons_succ] at h
    obtain ⟨h1, h2, h3⟩ := h
    exact ⟨h1, h2, steps_set (fun y hy => hq y (by simpa using hy)) h3⟩
  | _ :: _, 0, _, _, [], _, h => by rw [List.set_cons_zero] at h; exact h.elim
  | _ :: _, _ + 1, _, _, [], _, h => by rw [List.set_cons_succ] at h; exact h.elim
theorem nar_day {s : Sd} {d : Nat} (hd : d < s.days.length) {q x : Sp} (hx : s.days[d] = x) (h1 : x.1 ≤ q.1) (h2 : q.2 ≤ x.2) : Nar (setD s d q) s := by
  refine ⟨rfl, List.length_set .., fun c ts h => ?_⟩
  obtain ⟨a1, a2, a3⟩ := tru_iff.1 h
  refine tru_iff.2 ⟨a1, steps_set (fun y hy => ?_) a2, a3⟩
  rw [List.getElem?_eq_getElem hd, hx] at hy
  simp only [Option.some.injEq] at hy
  subst hy
  exact ⟨h1, h2⟩
theorem rev_iff {s : Sd} {c ts : List Int} : Tru (revS s) c ts ↔ Tru s c ts := by
  rw [tru_iff, tru_iff]
  unfold revS
  simp only [List.mem_reverse]
  rfl
theorem nar_rev (s : Sd) : Nar (revS s) s := ⟨rfl, rfl, fun _ _ h => rev_iff.1 h⟩
theorem VS_log {s : Sd} (v : VS s) {k : Nat} (hk : k < s.logs.length) {q l : Lg} (hl : s.logs[k] = l) (h1 : q.day = l.day) (h2 : l.lo ≤ q.lo ∧ q.lo ≤ q.hi ∧ q.hi ≤ l.hi) : VS (setLg s k q) := by
  have h0 := v.lg l (by rw [← hl]; exact List.getElem_mem hk)
  refine ⟨v.np, v.nd, by show (s.logs.set k q).length ≤ 4; rw [List.length_set]; exact v.nl, v.sp, v.dy, fun x hx => ?_⟩
  rcases List.mem_or_eq_of_mem_set hx with hx | rfl
  · exact v.lg x hx
  · exact ⟨by rw [h1]; exact h0.1, by omega, by omega, by omega⟩
theorem VS_day {s : Sd} (v : VS s) {d : Nat} (hd : d < s.days.length) {q x : Sp} (hx : s.days[d] = x) (h : x.1 ≤ q.1 ∧ q.1 ≤ q.2 ∧ q.2 ≤ x.2) : VS (setD s d q) := by
  have h0 := v.dy x (by rw [← hx]; exact List.getElem_mem hd)
  have hl : (setD s d q).days.length = s.days.length := List.length_set ..
  refine ⟨v.np, by rw [hl]; exact v.nd, v.nl, v.sp, fun y hy => ?_, fun l hl' => by rw [hl]; exact v.lg l hl'⟩
  rcases List.mem_or_eq_of_mem_set hy with hy | rfl
  · exact v.dy y hy
  · exact ⟨by omega, by omega, by omega⟩
theorem VS_rev {s : Sd} (v : VS s) : VS (revS s) := ⟨v.np, v.nd, by show s.logs.reverse.length ≤ 4; rw [List.length_reverse]; exact v.nl, v.sp, v.dy, fun x hx => v.lg x (List.mem_reverse.1 hx)⟩
theorem more_all {s s' : Sd} (v : VS s) (v' : VS s') (n : Nar s' s) (h : toldC s' ≠ []) {d : Nat} (hd : d < s.days.length) (p : Nat) : toldC s ≠ [] ∧ ((cutV s d).1 ≤ (cutV s' d).1 ∧ (cutV s' d).2 ≤ (cutV s d).2) ∧ ((costV s p).1 ≤ (costV s' p).1 ∧ (costV s' p).2 ≤ (costV s p).2) ∧ ((doneV s).1 ≤ (doneV s').1 ∧ (doneV s').2 ≤ (doneV s).2) ∧ ((needV s d).1 ≤ (needV s' d).1 ∧ (needV s' d).2 ≤ (needV s d).2) ∧ sureV s d &&& (2 ^ 64 - 1 - sureV s' d) = 0 ∧ canV s' d &&& (2 ^ 64 - 1 - canV s d) = 0 ∧ sureV s d < 8 ∧ sureV s' d < 8 ∧ canV s d < 8 ∧ canV s' d < 8 :=
  ⟨more_told v v' n.sub h, more_cut v v' n.sp n.dl n.sub h hd, more_cost v v' n.sub h p, more_done v v' n.sp n.sub h, more_need v v' n.sp n.dl n.sub h hd, more_bits v v' n.sp n.dl n.sub h hd⟩
end Go.Proofs.Ytkaadefndcbdnaa
