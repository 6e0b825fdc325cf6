/- Layer bank in plain terms: a mark more; whom to ask. · Layer bank in plain terms: whose a perch can be. · Layer bank in plain terms: sets of marks with which there is a truth. · Layer bank in plain terms: what is returned where marks are right. · Layer bank in plain terms: what is counted of all lines. -/
import Derived.Test.YtakmopiceopcpaaQv
import Derived.Test.YtakmopiceopcpaaB6
section
namespace Go.Proofs.Ytakmopiceopcpaa
open Go.RowKit
/-! ## Whom to ask -/
theorem mostF_le {d : Bn} {p : Int} : ∀ {k j : Nat}, j < k → waysN d [.mine p j] ≤ mostF d p k
  | 0, _, h => by omega
  | k + 1, j, h => by
    unfold mostF
    by_cases hj : j = k
    · subst hj; omega
    · have := mostF_le (d := d) (p := p) (k := k) (j := j) (by omega)
      omega
end Go.Proofs.Ytakmopiceopcpaa
end

section
namespace Go.Proofs.Ytakmopiceopcpaa
open Go.RowKit
theorem own_range : ∀ {ls : List Le} {x : List Sp} {p o m : Int}, (∀ l ∈ ls, 0 ≤ l.h ∧ l.h < m) → 0 ≤ o ∧ o ≤ m → 0 ≤ own ls x p o ∧ own ls x p o ≤ m := by
  intro ls
  induction ls with
  | nil => intro x p o m _ h; cases x <;> exact h
  | cons l ls ih =>
    intro x p o m hl h
    cases x with
    | nil => exact h
    | cons y ys =>
      have hl0 := hl l (.head _)
      unfold own
      refine ih (fun l hl' => hl l (.tail _ hl')) ?_
      split
      · omega
      · exact h
theorem ownX_range {d : Bn} (v : VB d) (x : List Sp) (p : Int) : 0 ≤ ownX d x p ∧ ownX d x p ≤ d.m := by
  have := v.m
  exact own_range (fun l hl => (v.ls l hl).h) ⟨by omega, by omega⟩
end Go.Proofs.Ytakmopiceopcpaa
end

section
namespace Go.Proofs.Ytakmopiceopcpaa
open Go.RowKit
theorem canB_iff {d : Bn} {x : Nat} : canB d x = true ↔ ∃ t, t ∈ combos d.ls ∧ ∀ j k, d.ms[j]? = some k → x / 2 ^ j % 2 = 1 → ownX d t k.1 = k.2 := by
  unfold canB
  rw [decide_eq_true_eq, List.length_pos_iff_exists_mem]
  unfold trL
  constructor
  · rintro ⟨t, ht⟩
    rw [List.mem_filter] at ht
    refine ⟨t, ht.1, fun j k hk hb => ?_⟩
    have := List.all_eq_true.1 ht.2 k (pickL_mem.2 ⟨j, hk, by rw [Nat.zero_add]; exact hb⟩)
    exact of_decide_eq_true this
  · rintro ⟨t, h1, h2⟩
    refine ⟨t, List.mem_filter.2 ⟨h1, List.all_eq_true.2 fun k hk => ?_⟩⟩
    obtain ⟨j, h3, h4⟩ := pickL_mem.1 hk
    rw [Nat.zero_add] at h4
    exact decide_eq_true (h2 j k h3 h4)
theorem can_mono {d : Bn} {x y : Nat} (h : ∀ j, j < d.ms.length → y / 2 ^ j % 2 = 1 → x / 2 ^ j % 2 = 1) (hc : canB d x = true) : canB d y = true := by
  obtain ⟨t, h1, h2⟩ := canB_iff.1 hc
  refine canB_iff.2 ⟨t, h1, fun j k hk hb => h2 j k hk (h j ?_ hb)⟩
  exact (List.getElem?_eq_some_iff.1 hk).1
theorem combos_some {n m : Int} : ∀ {ls : List Le}, (∀ l ∈ ls, LeOk n m l) → ∃ x, x ∈ combos ls
  | [], _ => ⟨[], by simp [combos]⟩
  | l :: ls, h => by
    obtain ⟨x, hx⟩ := combos_some fun l hl => h l (.tail _ hl)
    have v := h l (.head _)
    have h1 := v.f
    have h2 := v.t
    have h3 := v.ft
    exact ⟨(l.f.1, l.t.2) :: x, mem_combos.2 ⟨_, _, rfl, mem_linesL.2 ⟨by dsimp only; omega, by dsimp only; omega, by dsimp only; omega⟩, hx⟩⟩
theorem can_zero {d : Bn} (v : VB d) : canB d 0 = true := by
  obtain ⟨t, ht⟩ := combos_some v.ls
  exact canB_iff.2 ⟨t, ht, fun j k _ hb => by simp at hb⟩
theorem can_every {d : Bn} (v : VB d) : canB d (2 ^ d.ms.length - 1) = decide (0 < (trL d).length) := by unfold canB; rw [only_all v]
theorem bits_off0 : ∀ m, m < 7 → ∀ s, s < 2 ^ m → ∀ j, j < m → ((2 ^ m - 1 - s) / 2 ^ j % 2 == 1) = !(s / 2 ^ j % 2 == 1) := by decide +kernel
theorem bits_off {m s j : Nat} (hm : m < 7) (hs : s < 2 ^ m) (hj : j < m) : (2 ^ m - 1 - s) / 2 ^ j % 2 = 1 ↔ ¬ s / 2 ^ j % 2 = 1 := by
  have := bits_off0 m hm s hs j hj
  rw [Bool.eq_iff_iff] at this
  simpa using this
theorem pc_zero : ∀ s, s < 128 → pc s = 0 → s = 0 := by decide +kernel
theorem and_zero_bit {x y j : Nat} (h : x &&& y = 0) (h1 : x / 2 ^ j % 2 = 1) : ¬ y / 2 ^ j % 2 = 1 := by
  intro h2
  have e : (x &&& y).testBit j = true := by
    rw [Nat.testBit_and, Nat.testBit_eq_decide_div_mod_eq, Nat.testBit_eq_decide_div_mod_eq, decide_eq_true h1, decide_eq_true h2]; rfl
  rw [h] at e
  simp at e
theorem false_facts {d : Bn} (v : VB d) : falseS d < 2 ^ d.ms.length ∧ canB d (2 ^ d.ms.length - 1 - falseS d) = true ∧ ∀ z, z < 2 ^ d.ms.length → canB d (2 ^ d.ms.length - 1 - z) = true → pc (falseS d) ≤ pc z ∧ (pc z = pc (falseS d) → falseS d ≤ z) := by
  have hm8 : d.ms.length < 8 := by have := v.nm; omega
  have hpos := Nat.two_pow_pos d.ms.length
  cases hf : (setsL d.ms.length).find? (offB d) with
  | none =>
    have := sets_none hm8 hf (2 ^ d.ms.length - 1) (by omega)
    unfold offB at this
    rw [Nat.sub_self, can_zero v] at this
    cases this
  | some y =>
    have hV : falseS d = y := by simp [falseS, hf]
    rw [hV]
    obtain ⟨h1, h2, h3⟩ := sets_find hm8 hf
    refine ⟨h2, h1, fun z hz hc => ?_⟩
    rcases h3 z hz hc with h | h
    · subst h; exact ⟨Nat.le_refl _, fun _ => Nat.le_refl _⟩
    · unfold LexLt at h; omega
theorem clash_facts {d : Bn} (v : VB d) : (canB d (2 ^ d.ms.length - 1) = true ∧ falseS d = 0 ∧ ClashE d = 4 ∧ ClashV d = 0) ∨
    (canB d (2 ^ d.ms.length - 1) = false ∧ pc (falseS d) ≠ 0 ∧ ClashE d = 0 ∧ 1 ≤ ClashV d ∧ ClashV d < 2 ^ d.ms.length ∧ canB d (ClashV d) = false ∧ ClashV d &&& falseS d ≠ 0 ∧
      (∀ k, k < d.ms.length → ClashV d / 2 ^ k % 2 = 1 → ClashV d &&& (2 ^ 64 - 1 - 2 ^ k) = ClashV d - 2 ^ k ∧ canB d (ClashV d - 2 ^ k) = true) ∧
      ∀ z, z < 2 ^ d.ms.length → canB d z = false → pc (ClashV d) ≤ pc z ∧ (pc z = pc (ClashV d) → ClashV d ≤ z)) := by
  have hns := v.nm
  have hm8 : d.ms.length < 8 := by omega
  have hvb := vB_of v
  have hp7 : 2 ^ d.ms.length ≤ 2 ^ 6 := Nat.pow_le_pow_right (by omega) (by omega)
  have hpos := Nat.two_pow_pos d.ms.length
  obtain ⟨f1, f2, f3⟩ := false_facts v
  cases h0 : canB d (2 ^ d.ms.length - 1) with
  | true =>
    left
    have hn : clashS d = none := by
      unfold clashS
      rw [List.find?_eq_none]
      intro x hx
      have hx2 := (sets_lt hm8).1 hx
      simp [can_mono (fun j hj _ => evL_bit _ hm8 j hj) h0]
    have h4 := f3 0 hpos (by rw [Nat.sub_zero]; exact h0)
    have h5 : falseS d = 0 := pc_zero _ (by omega) (by have : pc 0 = 0 := rfl; omega)
    exact ⟨rfl, h5, by simp [ClashE, hvb, hn], by simp [ClashV, ClashE, hvb, hn]⟩
  | false =>
    right
    cases hf : clashS d with
    | none =>
      have := sets_none hm8 hf (2 ^ d.ms.length - 1) (by omega)
      rw [h0] at this
      simp at this
    | some y =>
      have hE : ClashE d = 0 := by simp [ClashE, hvb, hf]
      have hV : ClashV d = y := by simp [ClashV, hE, hf]
      rw [hV]
      obtain ⟨h1, h2, h3⟩ := sets_find hm8 hf
      have hy0 : canB d y = false := by simpa using h1
      have hless : ∀ z, z < 2 ^ d.ms.length → canB d z = false → z = y ∨ LexLt y z := fun z hz hs => h3 z hz (by simp [hs])
      refine ⟨rfl, ?_, hE, ?_, h2, hy0, ?_, ?_, ?_⟩
      · intro hp
        have := pc_zero _ (by omega) hp
        rw [this, Nat.sub_zero, h0] at f2
        cases f2
      · cases y with
        | zero => rw [can_zero v] at hy0; cases hy0
        | succ y => omega
      · intro hz
        have : canB d y = true := can_mono (fun j hj hb => (bits_off (by omega) f1 hj).2 (and_zero_bit hz hb)) f2
        rw [hy0] at this; cases this
      · intro k hk hb
        obtain ⟨b1, b2⟩ := bits_less y (by omega) k (by omega) hb
        refine ⟨b1, ?_⟩
        cases hc : canB d (y - 2 ^ k) with
        | true => rfl
        | false =>
          have := hless (y - 2 ^ k) (Nat.lt_of_le_of_lt (Nat.sub_le _ _) h2) hc
          rcases this with h | h
          · have hp := Nat.two_pow_pos k
            have : 2 ^ k ≤ y := by
              apply Nat.le_of_not_lt
              intro hlt
              rw [Nat.div_eq_of_lt hlt] at hb
              simp at hb
            omega
          · unfold LexLt at h; omega
      · intro z hz hs
        rcases hless z hz hs with h | h
        · subst h; exact ⟨Nat.le_refl _, fun _ => Nat.le_refl _⟩
        · unfold LexLt at h; omega
end Go.Proofs.Ytakmopiceopcpaa
end

section
namespace Go.Proofs.Ytakmopiceopcpaa
open Go.RowKit
structure Right (d : Bn) (x : List Sp) : Prop where
  v : VB d
  mem : x ∈ trL d
theorem pos_of_mem {α : Type} {l : List α} {x : α} (h : x ∈ l) : 1 ≤ l.length := List.length_pos_of_mem h
section
variable {d : Bn} {x : List Sp} (r : Right d x)
include r
theorem Right.pos : 1 ≤ (trL d).length := pos_of_mem r.mem
theorem Right.ways {aq : List Ask} (h : okX d aq x = true) : 1 ≤ waysN d aq := pos_of_mem (List.mem_filter.2 ⟨r.mem, h⟩)
theorem Right.mine {p : Nat} (hp : (p : Int) < d.n) : 1 ≤ waysN d [.mine p (ownX d x p)] := r.ways (by rw [okX_mine ⟨by omega, hp⟩]; exact decide_eq_true rfl)
theorem Right.line {p : Nat} (h1 : 1 ≤ p) (hp : (p : Int) < d.n) : (lineS d p = 2 → ownX d x p ≠ ownX d x ((p : Int) - 1)) ∧ (lineS d p = 0 → ownX d x p = ownX d x ((p : Int) - 1)) := by
  have hw : ∀ t, decide (ownX d x (p : Int) ≠ ownX d x ((p : Int) - 1)) = t → 1 ≤ waysN d [.line p t] := fun t ht => r.ways (by rw [okX_line ⟨by omega, hp⟩, ht]; simp)
  constructor
  · intro hl he
    have := hw false (by simp [he])
    unfold lineS at hl
    rw [if_neg (by omega)] at hl
    split at hl <;> omega
  · intro hl
    apply Classical.byContradiction
    intro hne
    have := hw true (by simp [hne])
    unfold lineS at hl
    split at hl
    · omega
    · rw [if_neg (by omega)] at hl
      omega
omit r in
theorem mostF_all {p : Int} : ∀ k, mostF d p k ≤ (trL d).length
  | 0 => by simp [mostF]
  | k + 1 => by
    unfold mostF
    have h1 := mostF_all (p := p) k
    have h2 := List.length_filter_le (okX d [.mine p k]) (trL d)
    have h3 : waysN d [.mine p k] ≤ (trL d).length := h2
    omega
theorem Right.wide (o : Int) : (wideS d o).1 ≤ cntX d o x ∧ cntX d o x ≤ (wideS d o).2 := by
  have hm : cntX d o x ∈ (trL d).map (cntX d o) := List.mem_map.2 ⟨x, r.mem, rfl⟩
  obtain ⟨a, b, h1, h2, h3⟩ := tl_ne (l := (trL d).map (cntX d o)) (fun h => by rw [h] at hm; cases hm)
  unfold wideS
  rw [h3]
  exact ⟨h1.2 _ hm, h2.2 _ hm⟩
theorem Right.most {p : Nat} : waysN d [.mine p (ownX d x p)] ≤ mostS d p ∧ mostS d p ≤ (trL d).length := by
  refine ⟨?_, mostF_all _⟩
  have h2 := ownX_range r.v x p
  obtain ⟨o, ho⟩ : ∃ o : Nat, ownX d x p = o := ⟨(ownX d x p).toNat, by omega⟩
  rw [ho]
  exact mostF_le (by omega)
end
end Go.Proofs.Ytakmopiceopcpaa
end

section
namespace Go.Proofs.Ytakmopiceopcpaa
open Go.RowKit
/-- How many truths there are, with a line ahead of a perch, the least and the most perches of a holder. -/
structure Cn where
  many : Nat
  lines : Nat
  lo : Int
  hi : Int
end Go.Proofs.Ytakmopiceopcpaa
end
