/- Layer bank in plain terms: a mark more; whom to ask. · Layer bank in plain terms: whose a perch can be. · Layer bank in plain terms: sets of marks with which there is a truth. · Layer bank in plain terms: what is returned where marks are right. · Layer bank in plain terms: what is counted of all lines. -/
import Derived.Test.YtakmopiceopcpaaQv
import Derived.Test.YtakmopiceopcpaaB6
section
namespace Go.Proofs.Ytakmopiceopcpaa
open Go.RowKit
/-- The bank with a mark more. -/
def withB (b : Bn) (k : Sp) : Bn := { b with ms := b.ms ++ [k] }
/-! ## Whom to ask -/
theorem mostF_le {d : Bn} {p : Int} : ∀ {k j : Nat}, j < k → waysN d [.mine p j] ≤ mostF d p k
  | 0, _, h => by omega
  | k + 1, j, h => by
    unfold mostF
    by_cases hj : j = k
    · subst hj; omega
    · have := mostF_le (d := d) (p := p) (k := k) (j := j) (by omega)
      omega
end Go.Proofs.Ytakmopiceopcpaa
end

section
namespace Go.Proofs.Ytakmopiceopcpaa
open Go.RowKit
theorem own_range : ∀ {ls : List Le} {x : List Sp} {p o m : Int}, (∀ l ∈ ls, 0 ≤ l.h ∧ l.h < m) → 0 ≤ o ∧ o ≤ m → 0 ≤ own ls x p o ∧ own ls x p o ≤ m := by
  intro ls
  induction ls with
  | nil => intro x p o m _ h; cases x <;> exact h
  | cons l ls ih =>
    intro x p o m hl h
    cases x with
    | nil => exact h
    | cons y ys =>
      have hl0 := hl l (.head _)
      unfold own
      refine ih (fun l hl' => hl l (.tail _ hl')) ?_
      split
      · omega
      · exact h
theorem ownX_range {d : Bn} (v : VB d) (x : List Sp) (p : Int) : 0 ≤ ownX d x p ∧ ownX d x p ≤ d.m := by
  have := v.m
  exact own_range (fun l hl => (v.ls l hl).h) ⟨by omega, by omega⟩
theorem ways_mine {d : Bn} {p : Int} (hp : 0 ≤ p ∧ p < d.n) (o : Int) : waysN d [.mine p o] = ((trL d).filter fun x => decide (ownX d x p = o)).length := by
  unfold waysN
  congr 2
  funext x
  exact okX_mine hp o x
theorem who_bit {d : Bn} (p : Int) (j : Nat) : whoS d p / 2 ^ j % 2 = 1 ↔ j < d.m.toNat + 1 ∧ 0 < waysN d [.mine p j] := by
  unfold whoS
  rw [bitsOf_bit, decide_eq_true_eq]
theorem sur_bit {d : Bn} (h : Int) (j : Nat) : surS d h / 2 ^ j % 2 = 1 ↔ j < d.n.toNat ∧ waysN d [.mine j h] = (trL d).length := by
  unfold surS
  rw [bitsOf_bit, decide_eq_true_eq]
theorem per_bit {d : Bn} (h : Int) (j : Nat) : perS d h / 2 ^ j % 2 = 1 ↔ j < d.n.toNat ∧ 0 < waysN d [.mine j h] := by
  unfold perS
  rw [bitsOf_bit, decide_eq_true_eq]
theorem who_lt (d : Bn) (p : Int) : whoS d p < 2 ^ (d.m.toNat + 1) := bitsOf_lt _ _
theorem sur_lt (d : Bn) (h : Int) : surS d h < 2 ^ d.n.toNat := bitsOf_lt _ _
theorem per_lt (d : Bn) (h : Int) : perS d h < 2 ^ d.n.toNat := bitsOf_lt _ _
end Go.Proofs.Ytakmopiceopcpaa
end

section
namespace Go.Proofs.Ytakmopiceopcpaa
open Go.RowKit
theorem canB_iff {d : Bn} {x : Nat} : canB d x = true ↔ ∃ t, t ∈ combos d.ls ∧ ∀ j k, d.ms[j]? = some k → x / 2 ^ j % 2 = 1 → ownX d t k.1 = k.2 := by
  unfold canB
  rw [decide_eq_true_eq, List.length_pos_iff_exists_mem]
  unfold trL
  constructor
  · rintro ⟨t, ht⟩
    rw [List.mem_filter] at ht
    refine ⟨t, ht.1, fun j k hk hb => ?_⟩
    have := List.all_eq_true.1 ht.2 k (pickL_mem.2 ⟨j, hk, by rw [Nat.zero_add]; exact hb⟩)
    exact of_decide_eq_true this
  · rintro ⟨t, h1, h2⟩
    refine ⟨t, List.mem_filter.2 ⟨h1, List.all_eq_true.2 fun k hk => ?_⟩⟩
    obtain ⟨j, h3, h4⟩ := pickL_mem.1 hk
    rw [Nat.zero_add] at h4
    exact decide_eq_true (h2 j k h3 h4)
theorem combos_some {n m : Int} : ∀ {ls : List Le}, (∀ l ∈ ls, LeOk n m l) → ∃ x, x ∈ combos ls
  | [], _ => ⟨[], by simp [combos]⟩
  | l :: ls, h => by
    obtain ⟨x, hx⟩ := combos_some fun l hl => h l (.tail _ hl)
    have v := h l (.head _)
    have h1 := v.f
    have h2 := v.t
    have h3 := v.ft
    exact ⟨(l.f.1, l.t.2) :: x, mem_combos.2 ⟨_, _, rfl, mem_linesL.2 ⟨by dsimp only; omega, by dsimp only; omega, by dsimp only; omega⟩, hx⟩⟩
theorem can_zero {d : Bn} (v : VB d) : canB d 0 = true := by
  obtain ⟨t, ht⟩ := combos_some v.ls
  exact canB_iff.2 ⟨t, ht, fun j k _ hb => by simp at hb⟩
theorem bits_off0 : ∀ m, m < 7 → ∀ s, s < 2 ^ m → ∀ j, j < m → ((2 ^ m - 1 - s) / 2 ^ j % 2 == 1) = !(s / 2 ^ j % 2 == 1) := by decide +kernel
theorem bits_off {m s j : Nat} (hm : m < 7) (hs : s < 2 ^ m) (hj : j < m) : (2 ^ m - 1 - s) / 2 ^ j % 2 = 1 ↔ ¬ s / 2 ^ j % 2 = 1 := by
  have := bits_off0 m hm s hs j hj
  rw [Bool.eq_iff_iff] at this
  simpa using this
theorem false_facts {d : Bn} (v : VB d) : falseS d < 2 ^ d.ms.length ∧ canB d (2 ^ d.ms.length - 1 - falseS d) = true ∧ ∀ z, z < 2 ^ d.ms.length → canB d (2 ^ d.ms.length - 1 - z) = true → pc (falseS d) ≤ pc z ∧ (pc z = pc (falseS d) → falseS d ≤ z) := by
  have hm8 : d.ms.length < 8 := by have := v.nm; omega
  have hpos := Nat.two_pow_pos d.ms.length
  cases hf : (setsL d.ms.length).find? (offB d) with
  | none =>
    have := sets_none hm8 hf (2 ^ d.ms.length - 1) (by omega)
    unfold offB at this
    rw [Nat.sub_self, can_zero v] at this
    cases this
  | some y =>
    have hV : falseS d = y := by simp [falseS, hf]
    rw [hV]
    obtain ⟨h1, h2, h3⟩ := sets_find hm8 hf
    refine ⟨h2, h1, fun z hz hc => ?_⟩
    rcases h3 z hz hc with h | h
    · subst h; exact ⟨Nat.le_refl _, fun _ => Nat.le_refl _⟩
    · unfold LexLt at h; omega
end Go.Proofs.Ytakmopiceopcpaa
end

section
namespace Go.Proofs.Ytakmopiceopcpaa
open Go.RowKit
structure Right (d : Bn) (x : List Sp) : Prop where
  v : VB d
  mem : x ∈ trL d
theorem pos_of_mem {α : Type} {l : List α} {x : α} (h : x ∈ l) : 1 ≤ l.length := List.length_pos_of_mem h
section
variable {d : Bn} {x : List Sp} (r : Right d x)
include r
theorem Right.pos : 1 ≤ (trL d).length := pos_of_mem r.mem
theorem Right.ways {aq : List Ask} (h : okX d aq x = true) : 1 ≤ waysN d aq := pos_of_mem (List.mem_filter.2 ⟨r.mem, h⟩)
theorem Right.mine {p : Nat} (hp : (p : Int) < d.n) : 1 ≤ waysN d [.mine p (ownX d x p)] := r.ways (by rw [okX_mine ⟨by omega, hp⟩]; exact decide_eq_true rfl)
theorem Right.who {p : Nat} (hp : (p : Int) < d.n) {o : Nat} (ho : ownX d x p = o) : whoS d p / 2 ^ o % 2 = 1 := by
  have h1 := r.mine hp
  rw [ho] at h1
  have h2 := ownX_range r.v x p
  rw [who_bit]
  exact ⟨by omega, by omega⟩
theorem Right.line {p : Nat} (h1 : 1 ≤ p) (hp : (p : Int) < d.n) : (lineS d p = 2 → ownX d x p ≠ ownX d x ((p : Int) - 1)) ∧ (lineS d p = 0 → ownX d x p = ownX d x ((p : Int) - 1)) := by
  have hw : ∀ t, decide (ownX d x (p : Int) ≠ ownX d x ((p : Int) - 1)) = t → 1 ≤ waysN d [.line p t] := fun t ht => r.ways (by rw [okX_line ⟨by omega, hp⟩, ht]; simp)
  constructor
  · intro hl he
    have := hw false (by simp [he])
    unfold lineS at hl
    rw [if_neg (by omega)] at hl
    split at hl <;> omega
  · intro hl
    apply Classical.byContradiction
    intro hne
    have := hw true (by simp [hne])
    unfold lineS at hl
    split at hl
    · omega
    · rw [if_neg (by omega)] at hl
      omega
omit r in
theorem mostF_all {p : Int} : ∀ k, mostF d p k ≤ (trL d).length
  | 0 => by simp [mostF]
  | k + 1 => by
    unfold mostF
    have h1 := mostF_all (p := p) k
    have h2 := List.length_filter_le (okX d [.mine p k]) (trL d)
    have h3 : waysN d [.mine p k] ≤ (trL d).length := h2
    omega
theorem Right.wide (o : Int) : (wideS d o).1 ≤ cntX d o x ∧ cntX d o x ≤ (wideS d o).2 := by
  have hm : cntX d o x ∈ (trL d).map (cntX d o) := List.mem_map.2 ⟨x, r.mem, rfl⟩
  obtain ⟨a, b, h1, h2, h3⟩ := tl_ne (l := (trL d).map (cntX d o)) (fun h => by rw [h] at hm; cases hm)
  unfold wideS
  rw [h3]
  exact ⟨h1.2 _ hm, h2.2 _ hm⟩
theorem Right.most {p : Nat} : waysN d [.mine p (ownX d x p)] ≤ mostS d p ∧ mostS d p ≤ (trL d).length := by
  refine ⟨?_, mostF_all _⟩
  have h2 := ownX_range r.v x p
  obtain ⟨o, ho⟩ : ∃ o : Nat, ownX d x p = o := ⟨(ownX d x p).toNat, by omega⟩
  rw [ho]
  exact mostF_le (by omega)
end
end Go.Proofs.Ytakmopiceopcpaa
end

section
namespace Go.Proofs.Ytakmopiceopcpaa
open Go.RowKit
/-- How many truths there are, with a line ahead of a perch, the least and the most perches of a holder. -/
structure Cn where
  many : Nat
  lines : Nat
  lo : Int
  hi : Int
def lineX (d : Bn) (p : Int) (x : List Sp) : Bool := decide (0 < p ∧ ownX d x p ≠ ownX d x (p - 1))
def cnS (d : Bn) (h p : Int) (s : Cn) (x : List Sp) : Cn := if rightX d x = true then ⟨s.many + 1, s.lines + (if lineX d p x = true then 1 else 0), min s.lo (cntX d h x), max s.hi (cntX d h x)⟩ else s
theorem cn_fold (d : Bn) (h p : Int) : ∀ (l : List (List Sp)) (s : Cn), (l.foldl (cnS d h p) s).many = s.many + (l.filter (rightX d)).length ∧ (l.foldl (cnS d h p) s).lines = s.lines + ((l.filter (rightX d)).filter (lineX d p)).length ∧
    ((l.foldl (cnS d h p) s).lo ≤ s.lo ∧ (∀ x ∈ l.filter (rightX d), (l.foldl (cnS d h p) s).lo ≤ cntX d h x) ∧ ((l.foldl (cnS d h p) s).lo = s.lo ∨ ∃ x ∈ l.filter (rightX d), (l.foldl (cnS d h p) s).lo = cntX d h x)) ∧
    (s.hi ≤ (l.foldl (cnS d h p) s).hi ∧ (∀ x ∈ l.filter (rightX d), cntX d h x ≤ (l.foldl (cnS d h p) s).hi) ∧ ((l.foldl (cnS d h p) s).hi = s.hi ∨ ∃ x ∈ l.filter (rightX d), (l.foldl (cnS d h p) s).hi = cntX d h x))
  | [], s => by simp
  | a :: l, s => by
    rw [List.foldl_cons]
    obtain ⟨i1, i2, ⟨i3, i4, i5⟩, i6, i7, i8⟩ := cn_fold d h p l (cnS d h p s a)
    by_cases hr : rightX d a = true
    · have e : cnS d h p s a = ⟨s.many + 1, s.lines + (if lineX d p a = true then 1 else 0), min s.lo (cntX d h a), max s.hi (cntX d h a)⟩ := by unfold cnS; rw [if_pos hr]
      rw [e] at i1 i2 i3 i4 i5 i6 i7 i8 ⊢
      rw [List.filter_cons, if_pos hr]
      generalize l.foldl (cnS d h p) ⟨s.many + 1, s.lines + (if lineX d p a = true then 1 else 0), min s.lo (cntX d h a), max s.hi (cntX d h a)⟩ = F at i1 i2 i3 i4 i5 i6 i7 i8 ⊢
      dsimp only at i1 i2 i3 i5 i6 i8 ⊢
      generalize hC : cntX d h a = C at i3 i5 i6 i8 ⊢
      have a1 : F.lo ≤ s.lo ∧ F.lo ≤ C := by clear i4 i5 i7 i8; omega
      have a2 : s.hi ≤ F.hi ∧ C ≤ F.hi := by clear i4 i5 i7 i8; omega
      refine ⟨by clear i4 i5 i7 i8; rw [i1, List.length_cons]; omega, ?_, ⟨a1.1, ?_, ?_⟩, a2.1, ?_, ?_⟩
      · rw [i2, List.filter_cons]
        clear i4 i5 i7 i8
        split
        · rw [List.length_cons]; omega
        · rfl
      · intro x hx
        rcases List.mem_cons.1 hx with rfl | hx
        · rw [hC]; exact a1.2
        · exact i4 x hx
      · rcases i5 with h5 | ⟨x, hx, h5⟩
        · clear i8 i4 i7
          by_cases hc : s.lo ≤ C
          · exact .inl (by omega)
          · exact .inr ⟨a, .head _, by rw [hC]; omega⟩
        · exact .inr ⟨x, .tail _ hx, h5⟩
      · intro x hx
        rcases List.mem_cons.1 hx with rfl | hx
        · rw [hC]; exact a2.2
        · exact i7 x hx
      · rcases i8 with h5 | ⟨x, hx, h5⟩
        · clear i5 i4 i7
          by_cases hc : C ≤ s.hi
          · exact .inl (by omega)
          · exact .inr ⟨a, .head _, by rw [hC]; omega⟩
        · exact .inr ⟨x, .tail _ hx, h5⟩
    · have e : cnS d h p s a = s := by unfold cnS; rw [if_neg hr]
      rw [e] at i1 i2 i3 i4 i5 i6 i7 i8 ⊢
      rw [List.filter_cons, if_neg hr]
      exact ⟨i1, i2, ⟨i3, i4, i5⟩, i6, i7, i8⟩
def cnF (d : Bn) (h p : Int) (k : Nat) : Cn := ((combos d.ls).take k).foldl (cnS d h p) ⟨0, 0, d.n, 0⟩
def cnA (d : Bn) (h p : Int) : Cn := (combos d.ls).foldl (cnS d h p) ⟨0, 0, d.n, 0⟩
theorem cnF_all (d : Bn) (h p : Int) : cnF d h p (combos d.ls).length = cnA d h p := by unfold cnF; rw [List.take_length]; rfl
theorem cntX_bd {d : Bn} (hn : 0 ≤ d.n) (h : Int) (x : List Sp) : 0 ≤ cntX d h x ∧ cntX d h x ≤ d.n := by
  unfold cntX
  have := List.length_filter_le (fun p : Nat => decide (ownX d x p = h)) (List.range d.n.toNat)
  rw [List.length_range] at this
  omega
theorem cnF_bd {d : Bn} (v : VB d) (h p : Int) (k : Nat) : (cnF d h p k).many ≤ 6561 ∧ (cnF d h p k).lines ≤ 6561 ∧ (0 ≤ (cnF d h p k).lo ∧ (cnF d h p k).lo ≤ d.n) ∧ 0 ≤ (cnF d h p k).hi ∧ (cnF d h p k).hi ≤ d.n := by
  have hn := v.n
  obtain ⟨i1, i2, ⟨i3, i4, i5⟩, i6, i7, i8⟩ := cn_fold d h p ((combos d.ls).take k) ⟨0, 0, d.n, 0⟩
  have hl : (((combos d.ls).take k).filter (rightX d)).length ≤ 6561 := by
    refine Nat.le_trans (List.length_filter_le _ _) (Nat.le_trans (by rw [List.length_take]; exact Nat.min_le_right _ _) (Nat.le_trans (combos_cnt v.ls) ?_))
    exact (Nat.pow_le_pow_right (by omega) v.nl : 9 ^ d.ls.length ≤ 9 ^ 4)
  have h2 := List.length_filter_le (lineX d p) (((combos d.ls).take k).filter (rightX d))
  unfold cnF
  dsimp only at i1 i2 i3 i5 i6 i8
  refine ⟨by clear i5 i8; omega, by clear i5 i8; omega, ⟨?_, i3⟩, i6, ?_⟩
  · clear i8
    rcases i5 with h5 | ⟨x, _, h5⟩
    · omega
    · rw [h5]; exact (cntX_bd (by omega) h x).1
  · clear i5
    rcases i8 with h5 | ⟨x, _, h5⟩
    · omega
    · rw [h5]; exact (cntX_bd (by omega) h x).2
theorem cnA_wide {d : Bn} (v : VB d) (h p : Int) (h0 : 0 < (trL d).length) : wideS d h = ((cnA d h p).lo, (cnA d h p).hi) := by
  have hn := v.n
  obtain ⟨_, _, ⟨i3, i4, i5⟩, i6, i7, i8⟩ := cn_fold d h p (combos d.ls) ⟨0, 0, d.n, 0⟩
  dsimp only at i3 i5 i6 i8
  have hm : ∃ x, x ∈ trL d := by
    cases hl : trL d with
    | nil => rw [hl] at h0; cases h0
    | cons a l => exact ⟨a, .head _⟩
  obtain ⟨x0, hx0⟩ := hm
  have hb := fun x => cntX_bd (d := d) (by omega) h x
  have ha : (cnA d h p).lo ∈ (trL d).map (cntX d h) := by
    clear i8
    rcases i5 with h5 | ⟨x, hx, h5⟩
    · have h6 := i4 x0 hx0
      have h7 := hb x0
      exact List.mem_map.2 ⟨x0, hx0, by show _ = (List.foldl (cnS d h p) _ _).lo; omega⟩
    · exact List.mem_map.2 ⟨x, hx, h5.symm⟩
  have hc : (cnA d h p).hi ∈ (trL d).map (cntX d h) := by
    clear i5
    rcases i8 with h5 | ⟨x, hx, h5⟩
    · have h6 := i7 x0 hx0
      have h7 := hb x0
      exact List.mem_map.2 ⟨x0, hx0, by show _ = (List.foldl (cnS d h p) _ _).hi; omega⟩
    · exact List.mem_map.2 ⟨x, hx, h5.symm⟩
  unfold wideS
  rw [tl_eq ha (fun y hy => by obtain ⟨x, hx, rfl⟩ := List.mem_map.1 hy; exact i4 x hx) hc (fun y hy => by obtain ⟨x, hx, rfl⟩ := List.mem_map.1 hy; exact i7 x hx)]
end Go.Proofs.Ytakmopiceopcpaa
end
