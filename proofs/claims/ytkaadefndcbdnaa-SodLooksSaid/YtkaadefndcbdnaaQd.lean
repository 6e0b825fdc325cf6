/- Layer sod in plain terms: what is finished, by how many sods are cut. -/
import Derived.Test.YtkaadefndcbdnaaQc
namespace Go.Proofs.Ytkaadefndcbdnaa
open Go.RowKit
/-- How many sods the first k spits have. -/
def sumT (s : Sd) (k : Nat) : Int := ((s.spits.take k).map (·.sods)).sum
theorem sum_nonneg : ∀ (l : List Spt), (∀ p ∈ l, 1 ≤ p.sods) → 0 ≤ (l.map (·.sods)).sum
  | [], _ => by simp
  | p :: l, h => by
    have := h p (.head _)
    have := sum_nonneg l fun q hq => h q (.tail _ hq)
    simp; omega
theorem sum_le : ∀ (l : List Spt), (∀ p ∈ l, p.sods ≤ 30) → (l.map (·.sods)).sum ≤ 30 * l.length
  | [], _ => by simp
  | p :: l, h => by
    have := h p (.head _)
    have := sum_le l fun q hq => h q (.tail _ hq)
    simp; omega
theorem sum_mono : ∀ (l : List Spt) (i j : Nat), (∀ p ∈ l, 1 ≤ p.sods) → i < j → j ≤ l.length → ((l.take i).map (·.sods)).sum < ((l.take j).map (·.sods)).sum
  | [], i, j, _, hij, hj => by simp at hj; omega
  | p :: l, 0, j + 1, h, _, hj => by
    have := h p (.head _)
    have := sum_nonneg (l.take j) fun q hq => h q (.tail _ (List.mem_of_mem_take hq))
    simp only [List.take_succ_cons, List.map_cons, List.sum_cons, List.take_zero, List.map_nil, List.sum_nil]; omega
  | p :: l, i + 1, j + 1, h, hij, hj => by
    have := sum_mono l i j (fun q hq => h q (.tail _ hq)) (by omega) (by simpa using hj)
    simp only [List.take_succ_cons, List.map_cons, List.sum_cons]; omega
  | _ :: _, _, 0, _, hij, _ => by omega
theorem cutS_le : ∀ (ps : List Spt) (cs : List Int) (t : Int), SpOk ps → CIn ps cs → 0 ≤ t → cutS ps cs 0 t ≤ (ps.map (·.sods)).sum
  | [], _, t, _, _, _ => by simp [cutS]
  | p :: ps, [], t, _, h, _ => by cases h
  | p :: ps, c :: cs, t, hp, h, ht => by
    have h1 := hp p (.head _)
    cases h with | cons h tl =>
    unfold cutS
    have h2 := sum_nonneg ps fun q hq => by have := hp.tail q hq; omega
    split
    · rw [cutS_add]
      have := cutS_le ps cs (t - p.sods * c) hp.tail tl (by omega)
      simp; omega
    · rename_i hc
      have : t / c < p.sods := Int.ediv_lt_of_lt_mul (by omega) (by omega)
      simp; omega
section
variable {s : Sd} (v : VS s)
include v
theorem sods1 : ∀ p ∈ s.spits, 1 ≤ p.sods := fun p hp => by have := v.sp p hp; omega
theorem sumT_bd (k : Nat) : 0 ≤ sumT s k ∧ sumT s k ≤ 90 := by
  have h1 := sum_nonneg (s.spits.take k) fun p hp => sods1 v p (List.mem_of_mem_take hp)
  have h2 := sum_le (s.spits.take k) fun p hp => by have := v.sp p (List.mem_of_mem_take hp); omega
  have h3 := v.np
  rw [List.length_take] at h2
  unfold sumT
  omega
theorem sumT_lt {i j : Nat} (h : i < j) (hj : j ≤ s.spits.length) : sumT s i < sumT s j := sum_mono s.spits i j (sods1 v) h hj
theorem sumT_le {i j : Nat} (h : i ≤ j) (hj : j ≤ s.spits.length) : sumT s i ≤ sumT s j := by
  rcases Nat.lt_or_eq_of_le h with h | rfl
  · have := sumT_lt v h hj; omega
  · exact Int.le_refl _
/-- Spits are finished just if their sods are cut. -/
theorem whole_cut {c : List Int} (hc : c ∈ rowsC s) (k : Nat) {t : Int} (ht : 0 ≤ t) (h6 : t ≤ 600) : wholeS s c k ≤ t ↔ sumT s k ≤ cutS s.spits c 0 t := by
  have hb := sumT_bd v k
  have := strk_le s.spits c 0 (sumT s k) t v.spOk (rowsC_cin hc) hb.1 ht (Int.le_refl _) (by unfold far; omega)
  rw [Int.zero_add] at this
  exact this
theorem cut_tot {c : List Int} (hc : c ∈ rowsC s) {t : Int} (ht : 0 ≤ t) : cutS s.spits c 0 t ≤ sumT s s.spits.length := by
  have := cutS_le s.spits c t v.spOk (rowsC_cin hc) ht
  unfold sumT
  rw [List.take_length]
  exact this
theorem cutV_bd (h0 : toldC s ≠ []) {d : Nat} (hd : d < s.days.length) : 0 ≤ (cutV s d).1 ∧ (cutV s d).1 ≤ (cutV s d).2 ∧ (cutV s d).2 ≤ sumT s s.spits.length := by
  obtain ⟨⟨c, ts, t, h1, h2, h3⟩, ⟨c', ts', t', h4, h5, h6⟩, h7⟩ := cut_hull v h0 hd
  have hb := h1.bd v (List.mem_of_getElem? h2)
  have hb' := h4.bd v (List.mem_of_getElem? h5)
  have k1 := cutS_nonneg s.spits c t v.spOk (rowsC_cin h1.1) hb.1
  have k2 := cut_tot v h4.1 hb'.1
  have k3 := (h7 _ ⟨c, ts, t, h1, h2, h3⟩).2
  omega
theorem sure_cut (h0 : toldC s ≠ []) {d : Nat} (hd : d < s.days.length) (p : Nat) : sureB s d p = true ↔ sumT s (p + 1) ≤ (cutV s d).1 := by
  rw [sure_iff v hd]
  obtain ⟨⟨c, ts, t, h1, h2, h3⟩, _, h7⟩ := cut_hull v h0 hd
  constructor
  · intro h
    have hb := h1.bd v (List.mem_of_getElem? h2)
    rw [h3]
    exact (whole_cut v h1.1 (p + 1) hb.1 hb.2).1 (h c ts t h1 h2)
  · intro h c ts t h1 h2
    have hb := h1.bd v (List.mem_of_getElem? h2)
    rw [whole_cut v h1.1 (p + 1) hb.1 hb.2]
    have := (h7 _ ⟨c, ts, t, h1, h2, rfl⟩).1
    omega
theorem can_cut (h0 : toldC s ≠ []) {d : Nat} (hd : d < s.days.length) (p : Nat) : canB s d p = true ↔ sumT s (p + 1) ≤ (cutV s d).2 := by
  rw [can_iff v hd]
  obtain ⟨_, ⟨c, ts, t, h1, h2, h3⟩, h7⟩ := cut_hull v h0 hd
  constructor
  · rintro ⟨c, ts, t, h1, h2, h⟩
    have hb := h1.bd v (List.mem_of_getElem? h2)
    rw [whole_cut v h1.1 (p + 1) hb.1 hb.2] at h
    have := (h7 _ ⟨c, ts, t, h1, h2, rfl⟩).2
    omega
  · intro h
    have hb := h1.bd v (List.mem_of_getElem? h2)
    exact ⟨c, ts, t, h1, h2, (whole_cut v h1.1 (p + 1) hb.1 hb.2).2 (by omega)⟩
/-- In some truth, in all, all is finished by a day. -/
theorem fin_le {c ts : List Int} (h : Tru s c ts) {d : Nat} {t : Int} (ht : ts[d]? = some t) : finS s c ts ≤ d ↔ wholeS s c s.spits.length ≤ t := by
  obtain ⟨f1, f2, f3⟩ := firstG_spec (wholeS s c s.spits.length) ts
  unfold finS
  have hd := (List.getElem?_eq_some_iff.1 ht).1
  constructor
  · intro hle
    obtain ⟨u, hu⟩ : ∃ u, ts[firstG (wholeS s c s.spits.length) ts]? = some u := ⟨_, List.getElem?_eq_getElem (by omega)⟩
    have := f3 u hu
    have := h.up v hle hu ht
    omega
  · intro hw
    apply Nat.le_of_not_lt
    intro hlt
    have := f2 d t hlt ht
    omega
theorem all_fin (h0 : toldC s ≠ []) {d : Nat} (hd : d < s.days.length) : (sumT s s.spits.length ≤ (cutV s d).1 ↔ (doneV s).2 ≤ (d : Int)) ∧ (sumT s s.spits.length ≤ (cutV s d).2 ↔ (doneV s).1 ≤ (d : Int)) ∧ ((needV s d).2 = 0 ↔ sumT s s.spits.length ≤ (cutV s d).1) ∧ ((needV s d).1 = 0 ↔ sumT s s.spits.length ≤ (cutV s d).2) := by
  obtain ⟨a1, a2, a3⟩ := cut_hull v h0 hd
  obtain ⟨b1, b2, b3⟩ := done_hull v h0
  obtain ⟨e1, e2, e3⟩ := need_hull v h0 hd
  have key : ∀ c ts t, Tru s c ts → ts[d]? = some t → (finS s c ts ≤ d ↔ sumT s s.spits.length ≤ cutS s.spits c 0 t) ∧ (wholeS s c s.spits.length ≤ t ↔ sumT s s.spits.length ≤ cutS s.spits c 0 t) := by
    intro c ts t h1 h2
    have hb := h1.bd v (List.mem_of_getElem? h2)
    have := whole_cut v h1.1 s.spits.length hb.1 hb.2
    exact ⟨(fin_le v h1 h2).trans this, this⟩
  refine ⟨⟨fun h => ?_, fun h => ?_⟩, ⟨fun h => ?_, fun h => ?_⟩, ⟨fun h => ?_, fun h => ?_⟩, ⟨fun h => ?_, fun h => ?_⟩⟩
  · obtain ⟨c, ts, h1, h2⟩ := b2
    obtain ⟨t, ht⟩ := h1.get hd
    have := (a3 _ ⟨c, ts, t, h1, ht, rfl⟩).1
    have := (key c ts t h1 ht).1.2 (by omega)
    omega
  · obtain ⟨c, ts, t, h1, h2, h3⟩ := a1
    have := (b3 _ ⟨c, ts, h1, rfl⟩).2
    rw [h3]
    exact (key c ts t h1 h2).1.1 (by omega)
  · obtain ⟨c, ts, t, h1, h2, h3⟩ := a2
    have := (b3 _ ⟨c, ts, h1, rfl⟩).1
    have := (key c ts t h1 h2).1.2 (by omega)
    omega
  · obtain ⟨c, ts, h1, h2⟩ := b1
    obtain ⟨t, ht⟩ := h1.get hd
    have := (a3 _ ⟨c, ts, t, h1, ht, rfl⟩).2
    have := (key c ts t h1 ht).1.1 (by omega)
    omega
  · obtain ⟨c, ts, t, h1, h2, h3⟩ := a1
    have := (e3 _ ⟨c, ts, t, h1, h2, rfl⟩).2
    rw [h3]
    exact (key c ts t h1 h2).2.1 (by omega)
  · obtain ⟨c, ts, t, h1, h2, h3⟩ := e2
    have := (a3 _ ⟨c, ts, t, h1, h2, rfl⟩).1
    have := (key c ts t h1 h2).2.2 (by omega)
    omega
  · obtain ⟨c, ts, t, h1, h2, h3⟩ := e1
    have := (a3 _ ⟨c, ts, t, h1, h2, rfl⟩).2
    have := (key c ts t h1 h2).2.1 (by omega)
    omega
  · obtain ⟨c, ts, t, h1, h2, h3⟩ := a2
    have := (e3 _ ⟨c, ts, t, h1, h2, rfl⟩).1
    have := (key c ts t h1 h2).2.2 (by omega)
    have h4 : 0 ≤ (needV s d).1 := by obtain ⟨_, _, _, _, _, h⟩ := e1; omega
    omega
theorem done_bd (h0 : toldC s ≠ []) : 0 ≤ (doneV s).1 ∧ (doneV s).1 ≤ (doneV s).2 ∧ (doneV s).2 ≤ (s.days.length : Int) := by
  obtain ⟨⟨c, ts, h1, h2⟩, ⟨c', ts', h3, h4⟩, h5⟩ := done_hull v h0
  have h6 := (h5 _ ⟨c, ts, h1, h2⟩).2
  have h7 := (firstG_spec (wholeS s c' s.spits.length) ts').1
  rw [h3.len] at h7
  unfold finS at h4 h2
  omega
theorem need_bd (h0 : toldC s ≠ []) {d : Nat} (hd : d < s.days.length) : 0 ≤ (needV s d).1 ∧ (needV s d).1 ≤ (needV s d).2 ∧ (needV s d).2 ≤ far := by
  obtain ⟨⟨c, ts, t, h1, h2, h3⟩, ⟨c', ts', t', h4, h5, h6⟩, h7⟩ := need_hull v h0 hd
  have h8 := (h7 _ ⟨c, ts, t, h1, h2, h3⟩).2
  have h9 := h4.bd v (List.mem_of_getElem? h5)
  have h10 : wholeS s c' s.spits.length ≤ far := by
    have := strk_ge s.spits c' 0 (sumT s s.spits.length) v.spOk (rowsC_cin h4.1) (sumT_bd v _).1
    have key : ∀ (ps : List Spt) (cs : List Int) (n k : Int), SpOk ps → CIn ps cs → n ≤ far → 0 ≤ k → n + 600 * ps.length ≤ far → strk ps cs n k ≤ far := by
      intro ps
      induction ps with
      | nil => intro cs n k _ _ hn _ _; unfold strk; split <;> omega
      | cons p ps ih =>
        intro cs n k hp hc hn hk hl
        cases hc with | cons h t =>
        have h1 := hp p (.head _)
        unfold strk
        rename_i c cs
        have h2 : min k p.sods * c ≤ 30 * 6 := Int.mul_le_mul (by omega) (by omega) (by omega) (by omega)
        simp only [List.length_cons] at hl
        exact ih cs _ _ hp.tail t (by omega) (by omega) (by omega)
    exact key s.spits c' 0 _ v.spOk (rowsC_cin h4.1) (by unfold far; omega) (sumT_bd v _).1 (by have := v.np; unfold far; omega)
  unfold far at *
  omega
end
/-- Bits that go on from the first. -/
theorem bitsOf_down {f : Nat → Bool} : ∀ (n : Nat), (∀ p q, p ≤ q → q < n → f q = true → f p = true) → ∃ i, i ≤ n ∧ bitsOf f n = 2 ^ i - 1 ∧ ∀ p, p < n → (f p = true ↔ p < i)
  | 0, _ => ⟨0, Nat.le_refl _, rfl, fun p hp => by omega⟩
  | n + 1, h => by
    obtain ⟨i, h1, h2, h3⟩ := bitsOf_down n fun p q hpq hq hf => h p q hpq (by omega) hf
    have hpos := Nat.two_pow_pos n
    cases hf : f n with
    | true =>
      refine ⟨n + 1, Nat.le_refl _, ?_, fun p hp => ⟨fun _ => hp, fun _ => h p n (by omega) (by omega) hf⟩⟩
      have hi : i = n := by
        apply Classical.byContradiction
        intro hne
        have := (h3 i (by omega)).1 (h i n (by omega) (by omega) hf)
        omega
      subst hi
      show bitsOf f i + (if f i then 2 ^ i else 0) = _
      rw [hf, if_pos rfl, h2, Nat.pow_succ]
      omega
    | false =>
      refine ⟨i, by omega, ?_, fun p hp => ?_⟩
      · show bitsOf f n + (if f n then 2 ^ n else 0) = _
        rw [hf, h2]; simp
      · by_cases hpn : p = n
        · subst hpn
          rw [hf]
          constructor
          · intro h; cases h
          · intro h; omega
        · exact h3 p (by omega)
/-- What is finished by a day, all in all. -/
theorem done_facts {s : Sd} (v : VS s) (h0 : toldC s ≠ []) {d : Nat} (hd : d < s.days.length) : ∃ i j, i ≤ j ∧ j ≤ s.spits.length ∧ sureV s d = 2 ^ i - 1 ∧ canV s d = 2 ^ j - 1 ∧
    (i = s.spits.length ↔ (doneV s).2 ≤ (d : Int)) ∧ (j = s.spits.length ↔ (doneV s).1 ≤ (d : Int)) ∧ ((needV s d).2 = 0 ↔ i = s.spits.length) ∧ ((needV s d).1 = 0 ↔ j = s.spits.length) ∧ ((cutV s d).1 = sumT s s.spits.length ↔ i = s.spits.length) ∧ ((cutV s d).2 = sumT s s.spits.length ↔ j = s.spits.length) := by
  have hnp := v.np
  obtain ⟨i, h1, h2, h3⟩ := bitsOf_down (f := sureB s d) s.spits.length fun p q hpq hq hf => by
    rw [sure_cut v h0 hd] at hf ⊢
    have := sumT_le v (i := p + 1) (j := q + 1) (by omega) (by omega)
    omega
  obtain ⟨j, h4, h5, h6⟩ := bitsOf_down (f := canB s d) s.spits.length fun p q hpq hq hf => by
    rw [can_cut v h0 hd] at hf ⊢
    have := sumT_le v (i := p + 1) (j := q + 1) (by omega) (by omega)
    omega
  obtain ⟨n, hn⟩ : ∃ n, s.spits.length = n + 1 := ⟨s.spits.length - 1, by omega⟩
  have hcb := cutV_bd v h0 hd
  obtain ⟨f1, f2, f3, f4⟩ := all_fin v h0 hd
  have hi : i = s.spits.length ↔ sumT s s.spits.length ≤ (cutV s d).1 := by
    have := h3 n (by omega)
    rw [sure_cut v h0 hd, ← hn] at this
    rw [this]; omega
  have hj : j = s.spits.length ↔ sumT s s.spits.length ≤ (cutV s d).2 := by
    have := h6 n (by omega)
    rw [can_cut v h0 hd, ← hn] at this
    rw [this]; omega
  refine ⟨i, j, ?_, h4, h2, h5, hi.trans f1, hj.trans f2, f3.trans hi.symm, f4.trans hj.symm, ?_, ?_⟩
  · apply Nat.le_of_not_lt
    intro hlt
    have := (h3 j (by omega)).2 (by omega)
    rw [sure_cut v h0 hd] at this
    have h7 := (h6 j (by omega)).1 ((can_cut v h0 hd j).2 (by omega))
    omega
  · rw [hi]; omega
  · rw [hj]; omega
end Go.Proofs.Ytkaadefndcbdnaa
