/- Layer drain in plain terms: stops. -/
import Derived.Test.YtbhgpnbfdjoglaaB7
section
namespace Go.Proofs.Ytbhgpnbfdjoglaa
open Go.RowKit
theorem keepL_all {α : Type} : ∀ (l : List α) (x k : Nat), (∀ j, j < l.length → x / 2 ^ (k + j) % 2 = 1) → keepL x l k = []
  | [], _, _, _ => rfl
  | a :: l, x, k, h => by
    have h0 := h 0 (by simp)
    rw [Nat.add_zero] at h0
    have ih := keepL_all l x (k + 1) fun j hj => by
      have := h (j + 1) (by simp; omega)
      rwa [show k + (j + 1) = k + 1 + j by omega] at this
    unfold keepL
    rw [if_pos h0]; exact ih
theorem nxt_nil (lv : List Int) (x : Nat) : nxt [] lv x = none := by
  cases h : nxt [] lv x with
  | none => rfl
  | some y =>
    have := nxt_best [] lv x
    rw [h] at this
    have h2 := this.2.1.1
    simp [adj] at h2
theorem enough_full {d : Dr} (v : VD d) : enoughB d (2 ^ d.ways.length - 1) = true := by
  have hnw := v.nw
  have hk : keepL (2 ^ d.ways.length - 1) d.ways 0 = [] := keepL_all _ _ _ fun j hj => by rw [Nat.zero_add]; exact evL_bit _ (by omega) j hj
  unfold enoughB
  rw [hk]
  rw [List.all_eq_true]
  intro lv _
  unfold keepS1
  rw [List.all_eq_true]
  intro r hr
  have := v.rt r hr
  have h0 : flowS d (nxt [] lv) r.a.toNat r.b.toNat = (0, 0) := by unfold flowS; rw [nxt_nil, if_neg (by simp)]
  simp only [h0]
  exact decide_eq_true (by omega)
theorem bitsOf_zero {f : Nat → Bool} : ∀ n, bitsOf f n = 0 ↔ ∀ k, k < n → f k = false := by
  intro n
  constructor
  · intro h k hk
    cases hf : f k with
    | false => rfl
    | true =>
      have := (bitsOf_bit f k n).2 ⟨hk, hf⟩
      rw [h] at this; simp at this
  · intro h
    apply Nat.eq_zero_of_not_pos
    intro hp
    obtain ⟨k, hk⟩ : ∃ k, (bitsOf f n).testBit k = true := Nat.exists_testBit_of_ne_zero (by omega)
    rw [Nat.testBit_eq_decide_div_mod_eq, decide_eq_true_eq, bitsOf_bit] at hk
    rw [h k hk.1] at hk
    simp at hk
theorem perh_zero {d : Dr} (h0 : someB d = true) : perhS d = 0 ↔ enoughB d 0 = true := by
  have hne := someB_told.1 h0
  have hk : keepL 0 d.ways 0 = d.ways := keepL_zero _ _
  unfold perhS enoughB
  rw [bitsOf_zero, hk, List.all_eq_true]
  have hj : ∀ a b : Nat, ((toldD d).map fun lv => flowS d (nxt d.ways lv) a b) ≠ [] := fun a b => by simpa using hne
  constructor
  · intro h lv hlv
    unfold keepS1
    rw [List.all_eq_true]
    intro r hr
    obtain ⟨i, hi, he⟩ := List.getElem_of_mem hr
    have h1 := h i hi
    unfold rtF rtM flowsS at h1
    rw [List.getElem?_eq_getElem hi, he] at h1
    dsimp only at h1
    rw [decide_eq_false_iff_not] at h1
    have h2 := (jn_hull _ (hj r.a.toNat r.b.toNat)).2.2 _ (List.mem_map.2 ⟨lv, hlv, rfl⟩)
    exact decide_eq_true (by omega)
  · intro h i hi
    unfold rtF rtM flowsS
    rw [List.getElem?_eq_getElem hi]
    dsimp only
    rw [decide_eq_false_iff_not]
    obtain ⟨x, hx, hx2⟩ := (jn_hull _ (hj d.rights[i].a.toNat d.rights[i].b.toNat)).2.1
    obtain ⟨lv, hlv, rfl⟩ := List.mem_map.1 hx
    have h1 := h lv hlv
    unfold keepS1 at h1
    rw [List.all_eq_true] at h1
    have h2 := h1 _ (List.getElem_mem hi)
    rw [decide_eq_true_eq] at h2
    rw [← hx2]; omega
theorem stop_facts {d : Dr} (v : VD d) (h0 : someB d = true) : stopS d < 2 ^ d.ways.length ∧ enoughB d (stopS d) = true ∧ (stopS d = 0 ↔ perhS d = 0) ∧
    (∀ k, k < d.ways.length → stopS d / 2 ^ k % 2 = 1 → stopS d &&& (2 ^ 64 - 1 - 2 ^ k) = stopS d - 2 ^ k ∧ enoughB d (stopS d - 2 ^ k) = false) ∧
    ∀ z, z < 2 ^ d.ways.length → enoughB d z = true → pc (stopS d) ≤ pc z ∧ (pc z = pc (stopS d) → stopS d ≤ z) := by
  have hnw := v.nw
  have hm8 : d.ways.length < 8 := by omega
  have hp7 : 2 ^ d.ways.length ≤ 2 ^ 7 := Nat.pow_le_pow_right (by omega) (by omega)
  have hpos := Nat.two_pow_pos d.ways.length
  cases hf : (setsL d.ways.length).find? (enoughB d) with
  | none =>
    have := sets_none hm8 hf (2 ^ d.ways.length - 1) (by omega)
    rw [enough_full v] at this; cases this
  | some y =>
    have hV : stopS d = y := by unfold stopS; rw [hf]; rfl
    rw [hV]
    obtain ⟨h1, h2, h3⟩ := sets_find hm8 hf
    refine ⟨h2, h1, ?_, ?_, ?_⟩
    · rw [perh_zero h0]
      constructor
      · intro h; rw [← h]; exact h1
      · intro h
        rcases h3 0 hpos h with h4 | h4
        · exact h4.symm
        · unfold LexLt at h4
          have : pc 0 = 0 := rfl
          omega
    · intro k hk hb
      obtain ⟨b1, b2⟩ := bits_less y (by omega) k (by omega) hb
      refine ⟨b1, ?_⟩
      cases hc : enoughB d (y - 2 ^ k) with
      | false => rfl
      | true =>
        have := h3 (y - 2 ^ k) (Nat.lt_of_le_of_lt (Nat.sub_le _ _) h2) hc
        rcases this with h | h
        · rw [h] at b2; omega
        · unfold LexLt at h; omega
    · intro z hz hs
      rcases h3 z hz hs with h | h
      · subst h; exact ⟨Nat.le_refl _, fun _ => Nat.le_refl _⟩
      · unfold LexLt at h; omega
end Go.Proofs.Ytbhgpnbfdjoglaa
end
