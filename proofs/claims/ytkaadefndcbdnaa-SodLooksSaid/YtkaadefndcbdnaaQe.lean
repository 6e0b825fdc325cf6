/- Layer sod in plain terms: truths by their days and counts apart; with more, or narrower, counts and days. -/
import Derived.Test.YtkaadefndcbdnaaQd
namespace Go.Proofs.Ytkaadefndcbdnaa
open Go.RowKit
/-- Strokes by each day, by the days alone. -/
def Steps : Int → List Sp → List Int → Prop
  | _, [], ts => ts = []
  | a, x :: xs, t :: ts => x.1 ≤ t - a ∧ t - a ≤ x.2 ∧ Steps t xs ts
  | _, _ :: _, [] => False
/-- A count is right. -/
def Right (sp : List Spt) (c ts : List Int) (l : Lg) : Prop := ∀ (k : Nat) (t : Int), l.day = k → ts[k]? = some t → l.lo ≤ cutS sp c 0 t ∧ cutS sp c 0 t ≤ l.hi
theorem path_iff {s : Sd} {c : List Int} : ∀ (xs : List Sp) (a : Int) (d : Nat) (ts : List Int), Path s c a xs d ts ↔ Steps a xs ts ∧ ∀ l ∈ s.logs, ∀ (k : Nat) (t : Int), l.day = (d + k : Nat) → ts[k]? = some t → l.lo ≤ cutS s.spits c 0 t ∧ cutS s.spits c 0 t ≤ l.hi
  | [], a, d, ts => by
    show ts = [] ↔ ts = [] ∧ _
    constructor
    · rintro rfl
      exact ⟨rfl, fun l _ k t _ h => by simp at h⟩
    · exact fun h => h.1
  | x :: xs, a, d, [] => ⟨fun h => h.elim, fun h => h.1.elim⟩
  | x :: xs, a, d, t :: ts => by
    show (x.1 ≤ t - a ∧ t - a ≤ x.2 ∧ _ ∧ Path s c t xs (d + 1) ts) ↔ (x.1 ≤ t - a ∧ t - a ≤ x.2 ∧ Steps t xs ts) ∧ _
    rw [path_iff xs t (d + 1) ts]
    constructor
    · rintro ⟨h1, h2, h3, h4, h5⟩
      refine ⟨⟨h1, h2, h4⟩, fun l hl k u hk hu => ?_⟩
      cases k with
      | zero =>
        simp only [List.getElem?_cons_zero, Option.some.injEq] at hu
        subst hu
        exact h3 l hl (by simpa using hk)
      | succ k => exact h5 l hl k u (by rw [hk]; omega) (by simpa using hu)
    · rintro ⟨⟨h1, h2, h4⟩, h5⟩
      exact ⟨h1, h2, fun l hl hd => h5 l hl 0 t (by simpa using hd) rfl, h4, fun l hl k u hk hu => h5 l hl (k + 1) u (by rw [hk]; omega) (by simpa using hu)⟩
theorem tru_iff {s : Sd} {c ts : List Int} : Tru s c ts ↔ c ∈ rowsC s ∧ Steps 0 s.days ts ∧ ∀ l ∈ s.logs, Right s.spits c ts l := by
  unfold Tru
  rw [path_iff]
  simp only [Nat.zero_add]
  rfl
theorem told_ne {s : Sd} (v : VS s) : toldC s ≠ [] ↔ ∃ c ts, Tru s c ts := by
  constructor
  · intro h
    obtain ⟨c, hc⟩ := List.exists_mem_of_ne_nil _ h
    obtain ⟨ts, h⟩ := (told_iff v).1 hc
    exact ⟨c, ts, h⟩
  · rintro ⟨c, ts, h⟩ h0
    have := (told_iff v).2 ⟨ts, h⟩
    rw [h0] at this
    cases this
/-- With one count more. -/
def addL (s : Sd) (l : Lg) : Sd := { s with logs := s.logs ++ [l] }
theorem tru_add {s : Sd} {l : Lg} {c ts : List Int} : Tru (addL s l) c ts ↔ Tru s c ts ∧ Right s.spits c ts l := by
  rw [tru_iff, tru_iff]
  constructor
  · rintro ⟨h1, h2, h3⟩
    exact ⟨⟨h1, h2, fun x hx => h3 x (List.mem_append_left _ hx)⟩, h3 l (List.mem_append_right _ (.head _))⟩
  · rintro ⟨⟨h1, h2, h3⟩, h4⟩
    refine ⟨h1, h2, fun x hx => ?_⟩
    rcases List.mem_append.1 hx with hx | hx
    · exact h3 x hx
    · rw [List.mem_singleton.1 hx]; exact h4
theorem VS_add {s : Sd} (v : VS s) {l : Lg} (hn : s.logs.length < 4) (h1 : 0 ≤ l.day ∧ l.day < s.days.length) (h2 : 0 ≤ l.lo ∧ l.lo ≤ l.hi ∧ l.hi ≤ 200) : VS (addL s l) :=
  ⟨v.np, v.nd, by show (s.logs ++ [l]).length ≤ 4; rw [List.length_append, List.length_singleton]; omega, v.sp, v.dy, fun x hx => by
    rcases List.mem_append.1 hx with hx | hx
    · exact v.lg x hx
    · rw [List.mem_singleton.1 hx]; exact ⟨h1, h2⟩⟩
section
variable {s s' : Sd} (v : VS s) (v' : VS s') (hsp : s'.spits = s.spits) (hdl : s'.days.length = s.days.length) (hsub : ∀ c ts, Tru s' c ts → Tru s c ts)
include v v' hsp hdl hsub
omit hsp hdl in
theorem more_told (h : toldC s' ≠ []) : toldC s ≠ [] := by
  obtain ⟨c, ts, h⟩ := (told_ne v').1 h
  exact (told_ne v).2 ⟨c, ts, hsub c ts h⟩
theorem more_cut (h : toldC s' ≠ []) {d : Nat} (hd : d < s.days.length) : (cutV s d).1 ≤ (cutV s' d).1 ∧ (cutV s' d).2 ≤ (cutV s d).2 :=
  (cut_hull v' h (by omega)).sub (cut_hull v (more_told v v' hsub h) hd) (by
    rintro n ⟨c, ts, t, h1, h2, h3⟩
    rw [hsp] at h3
    exact ⟨c, ts, t, hsub c ts h1, h2, h3⟩)
theorem more_need (h : toldC s' ≠ []) {d : Nat} (hd : d < s.days.length) : (needV s d).1 ≤ (needV s' d).1 ∧ (needV s' d).2 ≤ (needV s d).2 :=
  (need_hull v' h (by omega)).sub (need_hull v (more_told v v' hsub h) hd) (by
    rintro n ⟨c, ts, t, h1, h2, h3⟩
    unfold wholeS at h3
    rw [hsp] at h3
    exact ⟨c, ts, t, hsub c ts h1, h2, h3⟩)
omit hsp hdl in
theorem more_cost (h : toldC s' ≠ []) (p : Nat) : (costV s p).1 ≤ (costV s' p).1 ∧ (costV s' p).2 ≤ (costV s p).2 :=
  (cost_hull v' h p).sub (cost_hull v (more_told v v' hsub h) p) (by
    rintro n ⟨c, ts, h1, h3⟩
    exact ⟨c, ts, hsub c ts h1, h3⟩)
omit hdl in
theorem more_done (h : toldC s' ≠ []) : (doneV s).1 ≤ (doneV s').1 ∧ (doneV s').2 ≤ (doneV s).2 :=
  (done_hull v' h).sub (done_hull v (more_told v v' hsub h)) (by
    rintro n ⟨c, ts, h1, h3⟩
    unfold finS wholeS at h3
    rw [hsp] at h3
    exact ⟨c, ts, hsub c ts h1, h3⟩)
end
theorem bits_sub : ∀ i j : Nat, i ≤ j → j ≤ 3 → (2 ^ i - 1) &&& (2 ^ 64 - 1 - (2 ^ j - 1)) = 0 := by
  intro i j h1 h2
  have hi : i = 0 ∨ i = 1 ∨ i = 2 ∨ i = 3 := by omega
  have hj : j = 0 ∨ j = 1 ∨ j = 2 ∨ j = 3 := by omega
  rcases hi with rfl | rfl | rfl | rfl <;> rcases hj with rfl | rfl | rfl | rfl <;> first | (exfalso; omega) | decide
/-- Which of the first spits are finished surely, and perhaps, by how many. -/
theorem sure_num {s : Sd} (v : VS s) (h0 : toldC s ≠ []) {d : Nat} (hd : d < s.days.length) : ∃ i, i ≤ s.spits.length ∧ sureV s d = 2 ^ i - 1 ∧ ∀ p, p < s.spits.length → (sumT s (p + 1) ≤ (cutV s d).1 ↔ p < i) := by
  obtain ⟨i, h1, h2, h3⟩ := bitsOf_down (f := sureB s d) s.spits.length fun p q hpq hq hf => by
    rw [sure_cut v h0 hd] at hf ⊢
    have := sumT_le v (i := p + 1) (j := q + 1) (by omega) (by omega)
    omega
  exact ⟨i, h1, h2, fun p hp => by rw [← h3 p hp, sure_cut v h0 hd]⟩
theorem can_num {s : Sd} (v : VS s) (h0 : toldC s ≠ []) {d : Nat} (hd : d < s.days.length) : ∃ i, i ≤ s.spits.length ∧ canV s d = 2 ^ i - 1 ∧ ∀ p, p < s.spits.length → (sumT s (p + 1) ≤ (cutV s d).2 ↔ p < i) := by
  obtain ⟨i, h1, h2, h3⟩ := bitsOf_down (f := canB s d) s.spits.length fun p q hpq hq hf => by
    rw [can_cut v h0 hd] at hf ⊢
    have := sumT_le v (i := p + 1) (j := q + 1) (by omega) (by omega)
    omega
  exact ⟨i, h1, h2, fun p hp => by rw [← h3 p hp, can_cut v h0 hd]⟩
theorem more_bits {s s' : Sd} (v : VS s) (v' : VS s') (hsp : s'.spits = s.spits) (hdl : s'.days.length = s.days.length) (hsub : ∀ c ts, Tru s' c ts → Tru s c ts) (h : toldC s' ≠ []) {d : Nat} (hd : d < s.days.length) :
    sureV s d &&& (2 ^ 64 - 1 - sureV s' d) = 0 ∧ canV s' d &&& (2 ^ 64 - 1 - canV s d) = 0 ∧ sureV s d < 8 ∧ sureV s' d < 8 ∧ canV s d < 8 ∧ canV s' d < 8 := by
  have h0 := more_told v v' hsub h
  obtain ⟨i, a1, a2, a3⟩ := sure_num v h0 hd
  obtain ⟨i', b1, b2, b3⟩ := sure_num v' h (d := d) (by omega)
  obtain ⟨j, c1, c2, c3⟩ := can_num v h0 hd
  obtain ⟨j', d1, d2, d3⟩ := can_num v' h (d := d) (by omega)
  obtain ⟨k1, k2⟩ := more_cut v v' hsp hdl hsub h hd
  have hst : ∀ p, sumT s' p = sumT s p := fun p => by unfold sumT; rw [hsp]
  rw [hsp] at b1 b3 d1 d3
  have hnp := v.np
  have e1 : i ≤ i' := by
    apply Nat.le_of_not_lt
    intro hlt
    have := (a3 i' (by omega)).2 hlt
    have := (b3 i' (by omega)).1 (by rw [hst]; omega)
    omega
  have e2 : j' ≤ j := by
    apply Nat.le_of_not_lt
    intro hlt
    have := (d3 j (by omega)).2 hlt
    have := (c3 j (by omega)).1 (by rw [hst] at this; omega)
    omega
  have p8 : ∀ q, q ≤ 3 → 2 ^ q - 1 < 8 := fun q hq => by have := Nat.pow_le_pow_right (n := 2) (by omega) hq; omega
  rw [a2, b2, c2, d2]
  exact ⟨bits_sub i i' e1 (by omega), bits_sub j' j e2 (by omega), p8 _ (by omega), p8 _ (by omega), p8 _ (by omega), p8 _ (by omega)⟩
/-- The same truths: all is the same. -/
theorem same_all {s s' : Sd} (v : VS s) (v' : VS s') (hsp : s'.spits = s.spits) (hdl : s'.days.length = s.days.length) (hiff : ∀ c ts, Tru s' c ts ↔ Tru s c ts) : (toldC s' = [] ↔ toldC s = []) ∧ (toldC s ≠ [] → (∀ d, d < s.days.length → cutV s' d = cutV s d ∧ needV s' d = needV s d ∧ sureV s' d = sureV s d ∧ canV s' d = canV s d) ∧ (∀ p, costV s' p = costV s p) ∧ doneV s' = doneV s) := by
  have hs1 : ∀ c ts, Tru s' c ts → Tru s c ts := fun c ts => (hiff c ts).1
  have hs2 : ∀ c ts, Tru s c ts → Tru s' c ts := fun c ts => (hiff c ts).2
  have ht : toldC s' ≠ [] ↔ toldC s ≠ [] := ⟨more_told v v' hs1, more_told v' v hs2⟩
  refine ⟨by rw [← Decidable.not_iff_not]; exact ht, fun h0 => ?_⟩
  have h0' := ht.2 h0
  have anti : ∀ {a b : Sp}, a.1 ≤ b.1 ∧ b.2 ≤ a.2 → b.1 ≤ a.1 ∧ a.2 ≤ b.2 → b = a := fun h k => Prod.ext (by omega) (by omega)
  refine ⟨fun d hd => ?_, fun p => anti (more_cost v v' hs1 h0' p) (more_cost v' v hs2 h0 p), anti (more_done v v' hsp hs1 h0') (more_done v' v hsp.symm hs2 h0)⟩
  have hc := anti (more_cut v v' hsp hdl hs1 h0' hd) (more_cut v' v hsp.symm hdl.symm hs2 h0 (by omega))
  have hst : ∀ p, sumT s' p = sumT s p := fun p => by unfold sumT; rw [hsp]
  have hb : ∀ (f g : Nat → Bool) (n : Nat), (∀ p, f p = g p) → bitsOf f n = bitsOf g n := fun f g n h => by rw [show f = g from funext h]
  refine ⟨hc, anti (more_need v v' hsp hdl hs1 h0' hd) (more_need v' v hsp.symm hdl.symm hs2 h0 (by omega)), ?_, ?_⟩
  · unfold sureV
    rw [hsp]
    refine hb _ _ _ fun p => ?_
    rw [Bool.eq_iff_iff, sure_cut v' h0' (by omega), sure_cut v h0 hd, hst, hc]
  · unfold canV
    rw [hsp]
    refine hb _ _ _ fun p => ?_
    rw [Bool.eq_iff_iff, can_cut v' h0' (by omega), can_cut v h0 hd, hst, hc]
end Go.Proofs.Ytkaadefndcbdnaa
