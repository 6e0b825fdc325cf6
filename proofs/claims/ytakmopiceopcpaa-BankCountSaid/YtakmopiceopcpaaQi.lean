/- Layer bank in plain terms: a mark more; whom to ask. · Layer bank in plain terms: whose a perch can be. · Layer bank in plain terms: sets of marks with which there is a truth. · Layer bank in plain terms: what is returned where marks are right. · Layer bank in plain terms: what is counted of all lines. -/
import Derived.Test.YtakmopiceopcpaaQv
import Derived.Test.YtakmopiceopcpaaB6
section
namespace Go.Proofs.Ytakmopiceopcpaa
open Go.RowKit
/-! ## Whom to ask -/
theorem mostF_le {d : Bn} {p : Int} : ∀ {k j : Nat}, j < k → waysN d [.mine p j] ≤ mostF d p k
  | 0, _, h => by omega
  | k + 1, j, h => by
    unfold mostF
    by_cases hj : j = k
    · subst hj; omega
    · have := mostF_le (d := d) (p := p) (k := k) (j := j) (by omega)
      omega
end Go.Proofs.Ytakmopiceopcpaa
end

section
namespace Go.Proofs.Ytakmopiceopcpaa
open Go.RowKit
theorem own_range : ∀ {ls : List Le} {x : List Sp} {p o m : Int}, (∀ l ∈ ls, 0 ≤ l.h ∧ l.h < m) → 0 ≤ o ∧ o ≤ m → 0 ≤ own ls x p o ∧ own ls x p o ≤ m := by
  intro ls
  induction ls with
  | nil => intro x p o m _ h; cases x <;> exact h
  | cons l ls ih =>
    intro x p o m hl h
    cases x with
    | nil => exact h
    | cons y ys =>
      have hl0 := hl l (.head _)
      unfold own
      refine ih (fun l hl' => hl l (.tail _ hl')) ?_
      split
      · omega
      · exact h
theorem ownX_range {d : Bn} (v : VB d) (x : List Sp) (p : Int) : 0 ≤ ownX d x p ∧ ownX d x p ≤ d.m := by
  have := v.m
  exact own_range (fun l hl => (v.ls l hl).h) ⟨by omega, by omega⟩
end Go.Proofs.Ytakmopiceopcpaa
end

section
namespace Go.Proofs.Ytakmopiceopcpaa
open Go.RowKit
end Go.Proofs.Ytakmopiceopcpaa
end

section
namespace Go.Proofs.Ytakmopiceopcpaa
open Go.RowKit
structure Right (d : Bn) (x : List Sp) : Prop where
  v : VB d
  mem : x ∈ trL d
theorem pos_of_mem {α : Type} {l : List α} {x : α} (h : x ∈ l) : 1 ≤ l.length := List.length_pos_of_mem h
section
variable {d : Bn} {x : List Sp} (r : Right d x)
include r
theorem Right.pos : 1 ≤ (trL d).length := pos_of_mem r.mem
theorem Right.ways {aq : List Ask} (h : okX d aq x = true) : 1 ≤ waysN d aq := pos_of_mem (List.mem_filter.2 ⟨r.mem, h⟩)
theorem Right.mine {p : Nat} (hp : (p : Int) < d.n) : 1 ≤ waysN d [.mine p (ownX d x p)] := r.ways (by rw [okX_mine ⟨by omega, hp⟩]; exact decide_eq_true rfl)
theorem Right.line {p : Nat} (h1 : 1 ≤ p) (hp : (p : Int) < d.n) : (lineS d p = 2 → ownX d x p ≠ ownX d x ((p : Int) - 1)) ∧ (lineS d p = 0 → ownX d x p = ownX d x ((p : Int) - 1)) := by
  have hw : ∀ t, decide (ownX d x (p : Int) ≠ ownX d x ((p : Int) - 1)) = t → 1 ≤ waysN d [.line p t] := fun t ht => r.ways (by rw [okX_line ⟨by omega, hp⟩, ht]; simp)
  constructor
  · intro hl he
    have := hw false (by simp [he])
    unfold lineS at hl
    rw [if_neg (by omega)] at hl
    split at hl <;> omega
  · intro hl
    apply Classical.byContradiction
    intro hne
    have := hw true (by simp [hne])
    unfold lineS at hl
    split at hl
    · omega
    · rw [if_neg (by omega)] at hl
      omega
omit r in
theorem mostF_all {p : Int} : ∀ k, mostF d p k ≤ (trL d).length
  | 0 => by simp [mostF]
  | k + 1 => by
    unfold mostF
    have h1 := mostF_all (p := p) k
    have h2 := List.length_filter_le (okX d [.mine p k]) (trL d)
    have h3 : waysN d [.mine p k] ≤ (trL d).length := h2
    omega
theorem Right.wide (o : Int) : (wideS d o).1 ≤ cntX d o x ∧ cntX d o x ≤ (wideS d o).2 := by
  have hm : cntX d o x ∈ (trL d).map (cntX d o) := List.mem_map.2 ⟨x, r.mem, rfl⟩
  obtain ⟨a, b, h1, h2, h3⟩ := tl_ne (l := (trL d).map (cntX d o)) (fun h => by rw [h] at hm; cases hm)
  unfold wideS
  rw [h3]
  exact ⟨h1.2 _ hm, h2.2 _ hm⟩
theorem Right.most {p : Nat} : waysN d [.mine p (ownX d x p)] ≤ mostS d p ∧ mostS d p ≤ (trL d).length := by
  refine ⟨?_, mostF_all _⟩
  have h2 := ownX_range r.v x p
  obtain ⟨o, ho⟩ : ∃ o : Nat, ownX d x p = o := ⟨(ownX d x p).toNat, by omega⟩
  rw [ho]
  exact mostF_le (by omega)
end
end Go.Proofs.Ytakmopiceopcpaa
end

section
namespace Go.Proofs.Ytakmopiceopcpaa
open Go.RowKit
/-- How many truths there are, with a line ahead of a perch, the least and the most perches of a holder. -/
structure Cn where
  many : Nat
  lines : Nat
  lo : Int
  hi : Int
def lineX (d : Bn) (p : Int) (x : List Sp) : Bool := decide (0 < p ∧ ownX d x p ≠ ownX d x (p - 1))
def cnS (d : Bn) (h p : Int) (s : Cn) (x : List Sp) : Cn := if rightX d x = true then ⟨s.many + 1, s.lines + (if lineX d p x = true then 1 else 0), min s.lo (cntX d h x), max s.hi (cntX d h x)⟩ else s
theorem cn_fold (d : Bn) (h p : Int) : ∀ (l : List (List Sp)) (s : Cn), (l.foldl (cnS d h p) s).many = s.many + (l.filter (rightX d)).length ∧ (l.foldl (cnS d h p) s).lines = s.lines + ((l.filter (rightX d)).filter (lineX d p)).length ∧
    ((l.foldl (cnS d h p) s).lo ≤ s.lo ∧ (∀ x ∈ l.filter (rightX d), (l.foldl (cnS d h p) s).lo ≤ cntX d h x) ∧ ((l.foldl (cnS d h p) s).lo = s.lo ∨ ∃ x ∈ l.filter (rightX d), (l.foldl (cnS d h p) s).lo = cntX d h x)) ∧
    (s.hi ≤ (l.foldl (cnS d h p) s).hi ∧ (∀ x ∈ l.filter (rightX d), cntX d h x ≤ (l.foldl (cnS d h p) s).hi) ∧ ((l.foldl (cnS d h p) s).hi = s.hi ∨ ∃ x ∈ l.filter (rightX d), (l.foldl (cnS d h p) s).hi = cntX d h x))
  | [], s => by simp
  | a :: l, s => by
    rw [List.foldl_cons]
    obtain ⟨i1, i2, ⟨i3, i4, i5⟩, i6, i7, i8⟩ := cn_fold d h p l (cnS d h p s a)
    by_cases hr : rightX d a = true
    · have e : cnS d h p s a = ⟨s.many + 1, s.lines + (if lineX d p a = true then 1 else 0), min s.lo (cntX d h a), max s.hi (cntX d h a)⟩ := by unfold cnS; rw [if_pos hr]
      rw [e] at i1 i2 i3 i4 i5 i6 i7 i8 ⊢
      rw [List.filter_cons, if_pos hr]
      generalize l.foldl (cnS d h p) ⟨s.many + 1, s.lines + (if lineX d p a = true then 1 else 0), min s.lo (cntX d h a), max s.hi (cntX d h a)⟩ = F at i1 i2 i3 i4 i5 i6 i7 i8 ⊢
      dsimp only at i1 i2 i3 i5 i6 i8 ⊢
      generalize hC : cntX d h a = C at i3 i5 i6 i8 ⊢
      have a1 : F.lo ≤ s.lo ∧ F.lo ≤ C := by clear i4 i5 i7 i8; omega
      have a2 : s.hi ≤ F.hi ∧ C ≤ F.hi := by clear i4 i5 i7 i8; omega
      refine ⟨by clear i4 i5 i7 i8; rw [i1, List.length_cons]; omega, ?_, ⟨a1.1, ?_, ?_⟩, a2.1, ?_, ?_⟩
      · rw [i2, List.filter_cons]
        clear i4 i5 i7 i8
        split
        · rw [List.length_cons]; omega
        · rfl
      · intro x hx
        rcases List.mem_cons.1 hx with rfl | hx
        · rw [hC]; exact a1.2
        · exact i4 x hx
      · rcases i5 with h5 | ⟨x, hx, h5⟩
        · clear i8 i4 i7
          by_cases hc : s.lo ≤ C
          · exact .inl (by omega)
          · exact .inr ⟨a, .head _, by rw [hC]; omega⟩
        · exact .inr ⟨x, .tail _ hx, h5⟩
      · intro x hx
        rcases List.mem_cons.1 hx with rfl | hx
        · rw [hC]; exact a2.2
        · exact i7 x hx
      · rcases i8 with h5 | ⟨x, hx, h5⟩
        · clear i5 i4 i7
          by_cases hc : C ≤ s.hi
          · exact .inl (by omega)
          · exact .inr ⟨a, .head _, by rw [hC]; omega⟩
        · exact .inr ⟨x, .tail _ hx, h5⟩
    · have e : cnS d h p s a = s := by unfold cnS; rw [if_neg hr]
      rw [e] at i1 i2 i3 i4 i5 i6 i7 i8 ⊢
      rw [List.filter_cons, if_neg hr]
      exact ⟨i1, i2, ⟨i3, i4, i5⟩, i6, i7, i8⟩
def cnF (d : Bn) (h p : Int) (k : Nat) : Cn := ((combos d.ls).take k).foldl (cnS d h p) ⟨0, 0, d.n, 0⟩
def cnA (d : Bn) (h p : Int) : Cn := (combos d.ls).foldl (cnS d h p) ⟨0, 0, d.n, 0⟩
theorem cnF_zero (d : Bn) (h p : Int) : cnF d h p 0 = ⟨0, 0, d.n, 0⟩ := rfl
theorem cnF_all (d : Bn) (h p : Int) : cnF d h p (combos d.ls).length = cnA d h p := by unfold cnF; rw [List.take_length]; rfl
theorem cnF_succ (d : Bn) (h p : Int) {k : Nat} (hk : k < (combos d.ls).length) : cnF d h p (k + 1) = cnS d h p (cnF d h p k) (combos d.ls)[k] := by
  unfold cnF
  rw [List.take_succ_eq_append_getElem hk, List.foldl_append]
  rfl
theorem cntX_bd {d : Bn} (hn : 0 ≤ d.n) (h : Int) (x : List Sp) : 0 ≤ cntX d h x ∧ cntX d h x ≤ d.n := by
  unfold cntX
  have := List.length_filter_le (fun p : Nat => decide (ownX d x p = h)) (List.range d.n.toNat)
  rw [List.length_range] at this
  omega
theorem cnF_bd {d : Bn} (v : VB d) (h p : Int) (k : Nat) : (cnF d h p k).many ≤ 6561 ∧ (cnF d h p k).lines ≤ 6561 ∧ (0 ≤ (cnF d h p k).lo ∧ (cnF d h p k).lo ≤ d.n) ∧ 0 ≤ (cnF d h p k).hi ∧ (cnF d h p k).hi ≤ d.n := by
  have hn := v.n
  obtain ⟨i1, i2, ⟨i3, i4, i5⟩, i6, i7, i8⟩ := cn_fold d h p ((combos d.ls).take k) ⟨0, 0, d.n, 0⟩
  have hl : (((combos d.ls).take k).filter (rightX d)).length ≤ 6561 := by
    refine Nat.le_trans (List.length_filter_le _ _) (Nat.le_trans (by rw [List.length_take]; exact Nat.min_le_right _ _) (Nat.le_trans (combos_cnt v.ls) ?_))
    exact (Nat.pow_le_pow_right (by omega) v.nl : 9 ^ d.ls.length ≤ 9 ^ 4)
  have h2 := List.length_filter_le (lineX d p) (((combos d.ls).take k).filter (rightX d))
  unfold cnF
  dsimp only at i1 i2 i3 i5 i6 i8
  refine ⟨by clear i5 i8; omega, by clear i5 i8; omega, ⟨?_, i3⟩, i6, ?_⟩
  · clear i8
    rcases i5 with h5 | ⟨x, _, h5⟩
    · omega
    · rw [h5]; exact (cntX_bd (by omega) h x).1
  · clear i5
    rcases i8 with h5 | ⟨x, _, h5⟩
    · omega
    · rw [h5]; exact (cntX_bd (by omega) h x).2
theorem cnA_many (d : Bn) (h p : Int) : (cnA d h p).many = (trL d).length := by
  have := (cn_fold d h p (combos d.ls) ⟨0, 0, d.n, 0⟩).1
  rw [Nat.zero_add] at this
  exact this
theorem cnA_wide {d : Bn} (v : VB d) (h p : Int) (h0 : 0 < (trL d).length) : wideS d h = ((cnA d h p).lo, (cnA d h p).hi) := by
  have hn := v.n
  obtain ⟨_, _, ⟨i3, i4, i5⟩, i6, i7, i8⟩ := cn_fold d h p (combos d.ls) ⟨0, 0, d.n, 0⟩
  dsimp only at i3 i5 i6 i8
  have hm : ∃ x, x ∈ trL d := by
    cases hl : trL d with
    | nil => rw [hl] at h0; cases h0
    | cons a l => exact ⟨a, .head _⟩
  obtain ⟨x0, hx0⟩ := hm
  have hb := fun x => cntX_bd (d := d) (by omega) h x
  have ha : (cnA d h p).lo ∈ (trL d).map (cntX d h) := by
    clear i8
    rcases i5 with h5 | ⟨x, hx, h5⟩
    · have h6 := i4 x0 hx0
      have h7 := hb x0
      exact List.mem_map.2 ⟨x0, hx0, by show _ = (List.foldl (cnS d h p) _ _).lo; omega⟩
    · exact List.mem_map.2 ⟨x, hx, h5.symm⟩
  have hc : (cnA d h p).hi ∈ (trL d).map (cntX d h) := by
    clear i5
    rcases i8 with h5 | ⟨x, hx, h5⟩
    · have h6 := i7 x0 hx0
      have h7 := hb x0
      exact List.mem_map.2 ⟨x0, hx0, by show _ = (List.foldl (cnS d h p) _ _).hi; omega⟩
    · exact List.mem_map.2 ⟨x, hx, h5.symm⟩
  unfold wideS
  rw [tl_eq ha (fun y hy => by obtain ⟨x, hx, rfl⟩ := List.mem_map.1 hy; exact i4 x hx) hc (fun y hy => by obtain ⟨x, hx, rfl⟩ := List.mem_map.1 hy; exact i7 x hx)]
theorem filter_two {α : Type} (q : α → Bool) (l : List α) : (l.filter q).length + (l.filter fun x => !(q x)).length = l.length := by
  induction l with
  | nil => rfl
  | cons a l ih =>
    simp only [List.filter_cons]
    cases q a <;> simp <;> omega
theorem line_ways {d : Bn} {p : Int} (hp : 1 ≤ p ∧ p < d.n) (t : Bool) : waysN d [.line p t] = ((trL d).filter fun x => lineX d p x == t).length := by
  unfold waysN
  congr 2
  funext x
  rw [okX_line hp]
  unfold lineX
  congr 1
  rw [Bool.eq_iff_iff, decide_eq_true_eq, decide_eq_true_eq]
  exact ⟨fun h => ⟨by omega, h⟩, fun h => h.2⟩
/-- What is returned of a line, by what is counted. -/
theorem cnA_line {d : Bn} (h : Int) {p : Int} (hp : 1 ≤ p ∧ p < d.n) (h0 : 0 < (trL d).length) : (lineS d p = 2 ∧ (cnA d h p).lines = (trL d).length) ∨ (lineS d p = 0 ∧ (cnA d h p).lines = 0) ∨ (lineS d p = 1 ∧ 0 < (cnA d h p).lines ∧ (cnA d h p).lines < (trL d).length) := by
  have h1 := (cn_fold d h p (combos d.ls) ⟨0, 0, d.n, 0⟩).2.1
  rw [Nat.zero_add] at h1
  have h1 : (cnA d h p).lines = ((trL d).filter (lineX d p)).length := h1
  have h2 := line_ways hp true
  have h3 := line_ways hp false
  have e2 : (fun x => lineX d p x == true) = lineX d p := by funext x; cases lineX d p x <;> rfl
  have e3 : (fun x => lineX d p x == false) = fun x => !(lineX d p x) := by funext x; cases lineX d p x <;> rfl
  rw [e2] at h2
  rw [e3] at h3
  have h4 := filter_two (lineX d p) (trL d)
  unfold lineS
  by_cases a : waysN d [.line p false] = 0
  · rw [if_pos a]; exact .inl ⟨rfl, by omega⟩
  · rw [if_neg a]
    by_cases b : waysN d [.line p true] = 0
    · rw [if_pos b]; exact .inr (.inl ⟨rfl, by omega⟩)
    · rw [if_neg b]; exact .inr (.inr ⟨rfl, by omega, by omega⟩)
end Go.Proofs.Ytakmopiceopcpaa
end
