/- Layer bank in plain terms: what is known better. · Layer bank in plain terms: the bank turned round. -/
import Derived.Test.YtakmopiceopcpaaQi
section
namespace Go.Proofs.Ytakmopiceopcpaa
open Go.RowKit
theorem nodup_le {α : Type} [DecidableEq α] : ∀ {l m : List α}, l.Nodup → (∀ x ∈ l, x ∈ m) → l.length ≤ m.length
  | [], _, _, _ => Nat.zero_le _
  | a :: l, m, hn, hs => by
    rw [List.nodup_cons] at hn
    have h1 := nodup_le (m := m.erase a) hn.2 fun x hx => by
      refine (List.mem_erase_of_ne ?_).2 (hs x (.tail _ hx))
      intro he
      subst he
      exact hn.1 hx
    have h2 := List.length_erase_of_mem (hs a (.head _))
    have h3 := List.length_pos_of_mem (hs a (.head _))
    rw [List.length_cons]
    omega
theorem trL_nodup (d : Bn) : (trL d).Nodup := (combos_nodup _).filter _
/-- No truths but those of another bank, of the same holders. -/
structure Less (q d : Bn) : Prop where
  n : q.n = d.n
  m : q.m = d.m
  sub : ∀ x ∈ trL q, x ∈ trL d
  own : ∀ x p, ownX q x p = ownX d x p
section
variable {q d : Bn} (h : Less q d)
include h
theorem Less.all : (trL q).length ≤ (trL d).length := nodup_le (trL_nodup q) h.sub
theorem Less.mine {p : Int} (hp : 0 ≤ p ∧ p < d.n) (o : Int) : waysN q [.mine p o] ≤ waysN d [.mine p o] := by
  rw [ways_mine (by rw [h.n]; exact hp), ways_mine hp]
  refine nodup_le ((trL_nodup q).filter _) fun x hx => ?_
  rw [List.mem_filter, decide_eq_true_eq] at hx ⊢
  exact ⟨h.sub x hx.1, by rw [← h.own]; exact hx.2⟩
theorem Less.who {p : Int} (hp : 0 ≤ p ∧ p < d.n) (j : Nat) (hj : whoS q p / 2 ^ j % 2 = 1) : whoS d p / 2 ^ j % 2 = 1 := by
  rw [who_bit] at hj ⊢
  rw [h.m] at hj
  have := h.mine hp j
  exact ⟨hj.1, by omega⟩
theorem Less.per (o : Int) (j : Nat) (hj : perS q o / 2 ^ j % 2 = 1) : perS d o / 2 ^ j % 2 = 1 := by
  rw [per_bit] at hj ⊢
  rw [h.n] at hj
  have := h.mine (p := j) ⟨by omega, by omega⟩ o
  exact ⟨hj.1, by omega⟩
theorem Less.sur (o : Int) (j : Nat) (hj : surS d o / 2 ^ j % 2 = 1) : surS q o / 2 ^ j % 2 = 1 := by
  rw [sur_bit] at hj ⊢
  rw [h.n]
  refine ⟨hj.1, ?_⟩
  have h1 := hj.2
  rw [ways_mine ⟨by omega, by omega⟩] at h1
  rw [ways_mine ⟨by omega, by rw [h.n]; omega⟩]
  rw [List.length_filter_eq_length_iff] at h1 ⊢
  intro x hx
  have := h1 x (h.sub x hx)
  rw [decide_eq_true_eq] at this ⊢
  rw [h.own]
  exact this
theorem Less.cnt (o : Int) (x : List Sp) : cntX q o x = cntX d o x := by
  unfold cntX
  rw [h.n]
  simp only [h.own]
theorem Less.wide (o : Int) (h0 : 0 < (trL q).length) : (wideS d o).1 ≤ (wideS q o).1 ∧ (wideS q o).2 ≤ (wideS d o).2 := by
  have hq : (trL q).map (cntX q o) ≠ [] := fun he => by rw [List.map_eq_nil_iff.1 he] at h0; cases h0
  have hd : (trL d).map (cntX d o) ≠ [] := fun he => by have := h.all; rw [List.map_eq_nil_iff.1 he] at this; simp at this; rw [this] at h0; cases h0
  obtain ⟨a, b, h1, h2, h3⟩ := tl_ne hq
  obtain ⟨a', b', h4, h5, h6⟩ := tl_ne hd
  have hs : ∀ y ∈ (trL q).map (cntX q o), y ∈ (trL d).map (cntX d o) := fun y hy => by
    obtain ⟨x, hx, rfl⟩ := List.mem_map.1 hy
    exact List.mem_map.2 ⟨x, h.sub x hx, (h.cnt o x).symm⟩
  unfold wideS
  rw [h3, h6]
  exact ⟨h4.2 _ (hs _ h1.1), h5.2 _ (hs _ h2.1)⟩
end
/-! ## A mark more -/
theorem less_with (d : Bn) (k : Sp) : Less (withB d k) d := by
  refine ⟨rfl, rfl, fun x hx => ?_, fun x p => rfl⟩
  unfold trL at hx ⊢
  rw [List.mem_filter] at hx ⊢
  refine ⟨hx.1, ?_⟩
  have h2 := hx.2
  unfold rightX at h2 ⊢
  rw [List.all_eq_true] at h2 ⊢
  exact fun y hy => h2 y (List.mem_append_left _ hy)
/-! ## A lease that is known better -/
/-- The bank with other leases. -/
def lsB (d : Bn) (ls : List Le) : Bn := { d with ls := ls }
inductive Nar : List Le → List Le → Prop
  | nil : Nar [] []
  | cons {a b : Le} {l m : List Le} (h : a.h = b.h) (hf : b.f.1 ≤ a.f.1 ∧ a.f.2 ≤ b.f.2) (ht : b.t.1 ≤ a.t.1 ∧ a.t.2 ≤ b.t.2) (k : Nar l m) : Nar (a :: l) (b :: m)
theorem Nar.refl : ∀ l, Nar l l
  | [] => .nil
  | _ :: l => .cons rfl ⟨Int.le_refl _, Int.le_refl _⟩ ⟨Int.le_refl _, Int.le_refl _⟩ (Nar.refl l)
theorem Nar.combos {l m : List Le} (h : Nar l m) : ∀ x, x ∈ combos l → x ∈ combos m := by
  induction h with
  | nil => exact fun x hx => hx
  | cons hh hf ht k ih =>
    intro x hx
    obtain ⟨y, ys, rfl, h1, h2⟩ := mem_combos.1 hx
    rw [mem_linesL] at h1
    exact mem_combos.2 ⟨y, ys, rfl, mem_linesL.2 ⟨by omega, by omega, h1.2.2⟩, ih _ h2⟩
theorem Nar.own {l m : List Le} (h : Nar l m) : ∀ x p o, own l x p o = own m x p o := by
  induction h with
  | nil => exact fun x p o => rfl
  | cons hh hf ht k ih =>
    intro x p o
    cases x with
    | nil => rfl
    | cons y x => unfold Go.Proofs.Ytakmopiceopcpaa.own; rw [hh, ih]
theorem Nar.set {l : List Le} {i : Nat} (hi : i < l.length) {a : Le} (h : a.h = l[i].h) (hf : l[i].f.1 ≤ a.f.1 ∧ a.f.2 ≤ l[i].f.2) (ht : l[i].t.1 ≤ a.t.1 ∧ a.t.2 ≤ l[i].t.2) : Nar (l.set i a) l := by
  induction l generalizing i with
  | nil => simp at hi
  | cons b l ih =>
    cases i with
    | zero => exact .cons h hf ht (Nar.refl l)
    | succ i => exact .cons rfl ⟨Int.le_refl _, Int.le_refl _⟩ ⟨Int.le_refl _, Int.le_refl _⟩ (ih (i := i) (by simpa using hi) h hf ht)
theorem less_ls {d : Bn} {ls : List Le} (h : Nar ls d.ls) : Less (lsB d ls) d := by
  have ho : ∀ x p, ownX (lsB d ls) x p = ownX d x p := fun x p => h.own x p d.m
  refine ⟨rfl, rfl, fun x hx => ?_, ho⟩
  unfold trL at hx ⊢
  rw [List.mem_filter] at hx ⊢
  refine ⟨h.combos x hx.1, ?_⟩
  have h2 := hx.2
  unfold rightX at h2 ⊢
  rw [List.all_eq_true] at h2 ⊢
  intro y hy
  rw [← ho]
  exact h2 y hy
/-! ## How few marks must be false -/
theorem pc_mod : ∀ m, m < 7 → ∀ s, s < 128 → pc (s % 2 ^ m) ≤ pc s := by decide +kernel
theorem pc_add : ∀ m, m < 6 → ∀ s, s < 2 ^ m → pc (s + 2 ^ m) = pc s + 1 := by decide +kernel
theorem mod_bit (s m j : Nat) (hj : j < m) : s % 2 ^ m / 2 ^ j % 2 = s / 2 ^ j % 2 := by
  have h : ∀ x : Nat, x / 2 ^ j % 2 = 1 ↔ x.testBit j = true := by
    intro x
    rw [Nat.testBit_eq_decide_div_mod_eq, decide_eq_true_eq]
  have e : (s % 2 ^ m).testBit j = s.testBit j := by rw [Nat.testBit_mod_two_pow]; simp [hj]
  have h1 := h s
  have h2 := h (s % 2 ^ m)
  rw [e] at h2
  have h3 := h2.trans h1.symm
  omega
theorem false_with {d : Bn} (v : VB d) {k : Sp} (w : VB (withB d k)) : pc (falseS d) ≤ pc (falseS (withB d k)) ∧ pc (falseS (withB d k)) ≤ pc (falseS d) + 1 := by
  have hl : (withB d k).ms.length = d.ms.length + 1 := by simp [withB]
  have hw := w.nm
  rw [hl] at hw
  obtain ⟨f1, f2, f3⟩ := false_facts v
  obtain ⟨g1, g2, g3⟩ := false_facts w
  rw [hl] at g1 g2 g3
  have hp6 : 2 ^ (d.ms.length + 1) ≤ 2 ^ 6 := Nat.pow_le_pow_right (by omega) (by omega)
  have hp : 2 ^ (d.ms.length + 1) = 2 ^ d.ms.length * 2 := Nat.pow_succ ..
  constructor
  · have hz : falseS (withB d k) % 2 ^ d.ms.length < 2 ^ d.ms.length := Nat.mod_lt _ (Nat.two_pow_pos _)
    have := (f3 _ hz ?_).1
    · exact Nat.le_trans this (pc_mod _ (by omega) _ (by omega))
    · obtain ⟨t, h1, h2⟩ := canB_iff.1 g2
      refine canB_iff.2 ⟨t, h1, fun j y hj hb => h2 j y ?_ ?_⟩
      · have hlt := (List.getElem?_eq_some_iff.1 hj).1
        show (d.ms ++ [k])[j]? = some y
        rw [List.getElem?_append_left hlt]; exact hj
      · have hlt := (List.getElem?_eq_some_iff.1 hj).1
        rw [bits_off (by omega) hz hlt, mod_bit _ _ _ hlt] at hb
        exact (bits_off (by omega) g1 (by omega)).2 hb
  · have := (g3 (falseS d + 2 ^ d.ms.length) (by omega) ?_).1
    · rw [pc_add _ (by omega) _ f1] at this; exact this
    · obtain ⟨t, h1, h2⟩ := canB_iff.1 f2
      refine canB_iff.2 ⟨t, h1, fun j y hj hb => ?_⟩
      have hlt := (List.getElem?_eq_some_iff.1 hj).1
      rw [hl] at hlt
      rw [bits_off (by omega) (by omega) hlt] at hb
      by_cases hj2 : j < d.ms.length
      · have hj3 : (d.ms ++ [k])[j]? = some y := hj
        rw [List.getElem?_append_left hj2] at hj3
        refine h2 j y hj3 ((bits_off (by omega) f1 hj2).2 ?_)
        rw [← mod_bit _ d.ms.length j hj2, Nat.add_mod_right, mod_bit _ _ _ hj2] at hb
        exact hb
      · exfalso
        apply hb
        obtain rfl : j = d.ms.length := by omega
        rw [Nat.add_div_right _ (Nat.two_pow_pos _), Nat.div_eq_of_lt f1]
theorem false_ls {d : Bn} (v : VB d) {ls : List Le} (h : Nar ls d.ls) (w : VB (lsB d ls)) : pc (falseS d) ≤ pc (falseS (lsB d ls)) := by
  obtain ⟨f1, f2, f3⟩ := false_facts v
  obtain ⟨g1, g2, g3⟩ := false_facts w
  refine (f3 _ g1 ?_).1
  obtain ⟨t, h1, h2⟩ := canB_iff.1 g2
  exact canB_iff.2 ⟨t, h.combos t h1, fun j y hj hb => by have := h2 j y hj hb; rw [← (less_ls h).own]; exact this⟩
end Go.Proofs.Ytakmopiceopcpaa
end

section
namespace Go.Proofs.Ytakmopiceopcpaa
open Go.RowKit
def turnL (n : Int) (l : Le) : Le := ⟨l.h, (n - l.t.2, n - l.t.1), (n - l.f.2, n - l.f.1)⟩
def turnM (n : Int) (k : Sp) : Sp := (n - 1 - k.1, k.2)
def turnB (d : Bn) : Bn := { n := d.n, m := d.m, ls := d.ls.map (turnL d.n), ms := (d.ms.map (turnM d.n)).reverse }
def turnY (n : Int) (y : Sp) : Sp := (n - y.2, n - y.1)
def turnX (n : Int) (x : List Sp) : List Sp := x.map (turnY n)
theorem turnY_two (n : Int) (y : Sp) : turnY n (turnY n y) = y := by
  obtain ⟨a, b⟩ := y
  unfold turnY
  dsimp only
  congr 1 <;> omega
theorem turnX_two (n : Int) (x : List Sp) : turnX n (turnX n x) = x := by
  unfold turnX
  rw [List.map_map]
  have : turnY n ∘ turnY n = id := funext fun y => turnY_two n y
  rw [this, List.map_id]
theorem lines_turn (n : Int) {l : Le} {y : Sp} : turnY n y ∈ linesL (turnL n l) ↔ y ∈ linesL l := by
  rw [mem_linesL, mem_linesL]
  unfold turnY turnL
  dsimp only
  omega
theorem combos_turn (n : Int) : ∀ {ls : List Le} {x : List Sp}, turnX n x ∈ combos (ls.map (turnL n)) ↔ x ∈ combos ls
  | [], x => by
    unfold turnX combos
    cases x <;> simp
  | l :: ls, x => by
    rw [List.map_cons, mem_combos, mem_combos]
    constructor
    · rintro ⟨y, ys, h1, h2, h3⟩
      cases x with
      | nil => cases h1
      | cons z x =>
        have h4 : turnY n z = y ∧ turnX n x = ys := by
          unfold turnX at h1
          rw [List.map_cons] at h1
          injection h1 with a b
          exact ⟨a, b⟩
        rw [← h4.1] at h2
        rw [← h4.2] at h3
        exact ⟨z, x, rfl, (lines_turn n).1 h2, (combos_turn n).1 h3⟩
    · rintro ⟨y, ys, rfl, h2, h3⟩
      exact ⟨turnY n y, turnX n ys, rfl, (lines_turn n).2 h2, (combos_turn n).2 h3⟩
theorem own_turn (n : Int) : ∀ (ls : List Le) (x : List Sp) (p o : Int), own (ls.map (turnL n)) (turnX n x) (n - 1 - p) o = own ls x p o
  | [], x, p, o => by cases x <;> rfl
  | l :: ls, [], p, o => rfl
  | l :: ls, y :: x, p, o => by
    show own (ls.map (turnL n)) (turnX n x) (n - 1 - p) (if (turnY n y).1 ≤ n - 1 - p ∧ n - 1 - p < (turnY n y).2 then (turnL n l).h else o) = own ls x p (if y.1 ≤ p ∧ p < y.2 then l.h else o)
    rw [own_turn n ls x p]
    congr 1
    have : ((turnY n y).1 ≤ n - 1 - p ∧ n - 1 - p < (turnY n y).2) ↔ (y.1 ≤ p ∧ p < y.2) := by unfold turnY; dsimp only; omega
    by_cases h : y.1 ≤ p ∧ p < y.2
    · rw [if_pos h, if_pos (this.2 h)]; rfl
    · rw [if_neg h, if_neg (fun h' => h (this.1 h'))]
theorem ownX_turn (d : Bn) (x : List Sp) (p : Int) : ownX (turnB d) (turnX d.n x) (d.n - 1 - p) = ownX d x p := own_turn d.n d.ls x p d.m
theorem VB_turn {d : Bn} (v : VB d) : VB (turnB d) := by
  have h1 := v.n
  refine ⟨v.n, v.m, by have := v.nl; simpa [turnB] using this, by have := v.nm; simpa [turnB] using this, ?_, ?_⟩
  · intro l hl
    obtain ⟨l0, h0, rfl⟩ := List.mem_map.1 hl
    have w := v.ls l0 h0
    have w1 := w.f
    have w2 := w.t
    have w3 := w.ft
    exact ⟨w.h, by unfold turnB turnL; dsimp only; omega, by unfold turnB turnL; dsimp only; omega, by unfold turnL; dsimp only; omega⟩
  · intro k hk
    obtain ⟨k0, h0, rfl⟩ := List.mem_map.1 (List.mem_reverse.1 hk)
    have w := v.ms k0 h0
    exact ⟨by unfold turnB turnM; dsimp only; omega, w.2⟩
theorem right_turn (d : Bn) (x : List Sp) : rightX (turnB d) (turnX d.n x) = rightX d x := by
  rw [Bool.eq_iff_iff]
  unfold rightX
  rw [List.all_eq_true, List.all_eq_true]
  constructor
  · intro h k hk
    have := h (turnM d.n k) (List.mem_reverse.2 (List.mem_map.2 ⟨k, hk, rfl⟩))
    rw [decide_eq_true_eq] at this ⊢
    rw [← ownX_turn]; exact this
  · intro h k hk
    obtain ⟨k0, h0, rfl⟩ := List.mem_map.1 (List.mem_reverse.1 hk)
    have := h k0 h0
    rw [decide_eq_true_eq] at this ⊢
    rw [← ownX_turn] at this; exact this
theorem tr_turn (d : Bn) : (trL (turnB d)).Perm ((trL d).map (turnX d.n)) := by
  refine perm_of_mem (trL_nodup _) (nodup_map_inj (trL_nodup _) fun x _ y _ h => by rw [← turnX_two d.n x, h, turnX_two]) fun x => ?_
  have hm : ∀ y, turnX d.n y ∈ trL (turnB d) ↔ y ∈ trL d := fun y => by
    unfold trL
    rw [List.mem_filter, List.mem_filter, right_turn]
    exact and_congr_left fun _ => combos_turn d.n
  rw [List.mem_map]
  constructor
  · intro h
    exact ⟨turnX d.n x, (hm _).1 (by rw [turnX_two]; exact h), turnX_two d.n x⟩
  · rintro ⟨y, hy, rfl⟩
    exact (hm y).2 hy
theorem turn_all (d : Bn) : (trL (turnB d)).length = (trL d).length := by rw [(tr_turn d).length_eq, List.length_map]
theorem turn_mine {d : Bn} {p : Int} (hp : 0 ≤ p ∧ p < d.n) (o : Int) : waysN (turnB d) [.mine (d.n - 1 - p) o] = waysN d [.mine p o] := by
  rw [ways_mine hp, ways_mine (show 0 ≤ d.n - 1 - p ∧ d.n - 1 - p < (turnB d).n by show _ ∧ _ < d.n; omega), ((tr_turn d).filter _).length_eq, List.filter_map, List.length_map]
  congr 2
  funext x
  show decide (ownX (turnB d) (turnX d.n x) (d.n - 1 - p) = o) = _
  rw [ownX_turn]
theorem turn_who {d : Bn} {p : Int} (hp : 0 ≤ p ∧ p < d.n) : whoS (turnB d) (d.n - 1 - p) = whoS d p := by
  unfold whoS
  show bitsOf _ (d.m.toNat + 1) = _
  congr 1
  funext h
  rw [turn_mine hp]
theorem range_turn (n : Nat) : ((List.range n).map fun i => n - 1 - i).Perm (List.range n) := by
  refine perm_of_mem (nodup_map_inj List.nodup_range fun x hx y hy h => by rw [List.mem_range] at hx hy; omega) List.nodup_range fun x => ?_
  rw [List.mem_map, List.mem_range]
  constructor
  · rintro ⟨i, hi, rfl⟩
    rw [List.mem_range] at hi
    omega
  · intro hx
    exact ⟨n - 1 - x, by rw [List.mem_range]; omega, by omega⟩
theorem turn_cnt {d : Bn} (hn : 0 ≤ d.n) (o : Int) (x : List Sp) : cntX (turnB d) o (turnX d.n x) = cntX d o x := by
  unfold cntX
  show (((List.range d.n.toNat).filter fun p : Nat => decide (ownX (turnB d) (turnX d.n x) p = o)).length : Int) = _
  rw [← ((range_turn d.n.toNat).filter _).length_eq, List.filter_map, List.length_map]
  congr 2
  refine List.filter_congr fun p hp => ?_
  rw [List.mem_range] at hp
  show decide (ownX (turnB d) (turnX d.n x) ((d.n.toNat - 1 - p : Nat) : Int) = o) = _
  rw [show ((d.n.toNat - 1 - p : Nat) : Int) = d.n - 1 - (p : Int) by omega, ownX_turn]
theorem turn_wide {d : Bn} (hn : 0 ≤ d.n) (o : Int) : wideS (turnB d) o = wideS d o := by
  unfold wideS
  rw [tl_perm ((tr_turn d).map (cntX (turnB d) o)), List.map_map]
  congr 3
  funext x
  exact turn_cnt hn o x
/-- A set turned round. -/
def revN (n s : Nat) : Nat := bitsOf (fun i => decide (s / 2 ^ (n - 1 - i) % 2 = 1)) n
theorem revN_bit (n s j : Nat) : revN n s / 2 ^ j % 2 = 1 ↔ j < n ∧ s / 2 ^ (n - 1 - j) % 2 = 1 := by
  unfold revN
  rw [bitsOf_bit, decide_eq_true_eq]
theorem bits_ext {x y : Nat} (h : ∀ j, x / 2 ^ j % 2 = 1 ↔ y / 2 ^ j % 2 = 1) : x = y := by
  apply Nat.eq_of_testBit_eq
  intro j
  rw [Nat.testBit_eq_decide_div_mod_eq, Nat.testBit_eq_decide_div_mod_eq, Bool.eq_iff_iff, decide_eq_true_eq, decide_eq_true_eq, h]
theorem turn_sur {d : Bn} (o : Int) : surS (turnB d) o = revN d.n.toNat (surS d o) := by
  refine bits_ext fun j => ?_
  rw [revN_bit, sur_bit, sur_bit, turn_all]
  show j < d.n.toNat ∧ _ ↔ _
  constructor
  · rintro ⟨h1, h2⟩
    have := turn_mine (d := d) (p := ((d.n.toNat - 1 - j : Nat) : Int)) ⟨by omega, by omega⟩ o
    rw [show d.n - 1 - ((d.n.toNat - 1 - j : Nat) : Int) = j by omega] at this
    exact ⟨h1, by omega, by omega⟩
  · rintro ⟨h1, h2, h3⟩
    have := turn_mine (d := d) (p := ((d.n.toNat - 1 - j : Nat) : Int)) ⟨by omega, by omega⟩ o
    rw [show d.n - 1 - ((d.n.toNat - 1 - j : Nat) : Int) = j by omega] at this
    exact ⟨h1, by omega⟩
theorem turn_per {d : Bn} (o : Int) : perS (turnB d) o = revN d.n.toNat (perS d o) := by
  refine bits_ext fun j => ?_
  rw [revN_bit, per_bit, per_bit]
  show j < d.n.toNat ∧ _ ↔ _
  constructor
  · rintro ⟨h1, h2⟩
    have := turn_mine (d := d) (p := ((d.n.toNat - 1 - j : Nat) : Int)) ⟨by omega, by omega⟩ o
    rw [show d.n - 1 - ((d.n.toNat - 1 - j : Nat) : Int) = j by omega] at this
    exact ⟨h1, by omega, by omega⟩
  · rintro ⟨h1, h2, h3⟩
    have := turn_mine (d := d) (p := ((d.n.toNat - 1 - j : Nat) : Int)) ⟨by omega, by omega⟩ o
    rw [show d.n - 1 - ((d.n.toNat - 1 - j : Nat) : Int) = j by omega] at this
    exact ⟨h1, by omega⟩
theorem pc_rev : ∀ m, m < 7 → ∀ s, s < 2 ^ m → pc (revN m s) = pc s := by decide +kernel
theorem rev_lt (m s : Nat) : revN m s < 2 ^ m := bitsOf_lt _ _
theorem rev_off {m s j : Nat} (hm : m < 7) (hs : s < 2 ^ m) (hj : j < m) : (2 ^ m - 1 - revN m s) / 2 ^ j % 2 = 1 ↔ (2 ^ m - 1 - s) / 2 ^ (m - 1 - j) % 2 = 1 := by
  rw [bits_off hm (rev_lt m s) hj, bits_off hm hs (by omega), revN_bit]
  exact not_congr ⟨fun h => h.2, fun h => ⟨hj, h⟩⟩
theorem turn_mark {d : Bn} {j : Nat} (hj : j < d.ms.length) : (turnB d).ms[j]? = (d.ms[d.ms.length - 1 - j]?).map (turnM d.n) := by
  show ((d.ms.map (turnM d.n)).reverse)[j]? = _
  rw [List.getElem?_reverse (by simpa using hj), List.length_map, List.getElem?_map]
theorem turn_can {d : Bn} (v : VB d) {s : Nat} (hs : s < 2 ^ d.ms.length) : canB (turnB d) (2 ^ d.ms.length - 1 - revN d.ms.length s) = canB d (2 ^ d.ms.length - 1 - s) := by
  have hm : d.ms.length < 7 := by have := v.nm; omega
  have hl : (turnB d).ms.length = d.ms.length := by simp [turnB]
  rw [Bool.eq_iff_iff, canB_iff, canB_iff]
  constructor
  · rintro ⟨t, h1, h2⟩
    refine ⟨turnX d.n t, (combos_turn d.n).1 (by rw [turnX_two]; exact h1), fun j k hj hb => ?_⟩
    have hlt := (List.getElem?_eq_some_iff.1 hj).1
    have hj1 := turn_mark (d := d) (j := d.ms.length - 1 - j) (by omega)
    rw [show d.ms.length - 1 - (d.ms.length - 1 - j) = j by omega, hj] at hj1
    have := h2 _ _ hj1 ((rev_off hm hs (by omega)).2 (by rw [show d.ms.length - 1 - (d.ms.length - 1 - j) = j by omega]; exact hb))
    rw [← ownX_turn, turnX_two]
    exact this
  · rintro ⟨t, h1, h2⟩
    refine ⟨turnX d.n t, (combos_turn d.n).2 h1, fun j k hj hb => ?_⟩
    have hlt := (List.getElem?_eq_some_iff.1 hj).1
    rw [hl] at hlt
    rw [turn_mark hlt] at hj
    obtain ⟨k0, h0, rfl⟩ := Option.map_eq_some_iff.1 hj
    rw [rev_off hm hs hlt] at hb
    have := h2 _ _ h0 hb
    show ownX (turnB d) (turnX d.n t) (d.n - 1 - k0.1) = k0.2
    rw [ownX_turn]; exact this
theorem rev_rev : ∀ m, m < 7 → ∀ s, s < 2 ^ m → revN m (revN m s) = s := by decide +kernel
theorem false_turn {d : Bn} (v : VB d) : pc (falseS (turnB d)) = pc (falseS d) := by
  have hm : d.ms.length < 7 := by have := v.nm; omega
  have hl : (turnB d).ms.length = d.ms.length := by simp [turnB]
  obtain ⟨f1, f2, f3⟩ := false_facts v
  obtain ⟨g1, g2, g3⟩ := false_facts (VB_turn v)
  rw [hl] at g1 g2 g3
  have h1 := (g3 _ (rev_lt _ (falseS d)) (by rw [turn_can v f1]; exact f2)).1
  rw [pc_rev _ hm _ f1] at h1
  have h2 := (f3 _ (rev_lt _ (falseS (turnB d))) (by rw [← turn_can v (rev_lt _ _), rev_rev _ hm _ g1]; exact g2)).1
  rw [pc_rev _ hm _ g1] at h2
  omega
end Go.Proofs.Ytakmopiceopcpaa
end
