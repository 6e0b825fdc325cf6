/- Layer bank in plain terms: a mark more; whom to ask. · Layer bank in plain terms: whose a perch can be. · Layer bank in plain terms: sets of marks with which there is a truth. · Layer bank in plain terms: what is returned where marks are right. · Layer bank in plain terms: what is counted of all lines. -/
import Derived.Test.YtakmopiceopcpaaQv
import Derived.Test.YtakmopiceopcpaaB6
section
namespace Go.Proofs.Ytakmopiceopcpaa
open Go.RowKit
/-! ## Whom to ask -/
theorem mostF_le {d : Bn} {p : Int} : ∀ {k j : Nat}, j < k → waysN d [.mine p j] ≤ mostF d p k
  | 0, _, h => by omega
  | k + 1, j, h => by
    unfold mostF
    by_cases hj : j = k
    · subst hj; omega
    · have := mostF_le (d := d) (p := p) (k := k) (j := j) (by omega)
      omega
theorem askF_spec {d : Bn} : ∀ {k : Nat}, 0 < k → (askF d k).1 < k ∧ (askF d k).2 = mostS d ((askF d k).1 : Int) ∧ ∀ q, q < k → (askF d k).2 ≤ mostS d (q : Int) ∧ (mostS d (q : Int) = (askF d k).2 → (askF d k).1 ≤ q)
  | 0, h => by omega
  | 1, _ => by
    have : askF d 1 = (0, mostS d 0) := by unfold askF; rw [if_pos (.inl rfl)]; rfl
    rw [this]
    refine ⟨by omega, rfl, fun q hq => ?_⟩
    obtain rfl : q = 0 := by omega
    exact ⟨Nat.le_refl _, fun _ => Nat.le_refl _⟩
  | k + 2, _ => by
    obtain ⟨h1, h2, h3⟩ := askF_spec (d := d) (k := k + 1) (by omega)
    have e : askF d (k + 2) = if k + 1 = 0 ∨ mostS d ((k + 1 : Nat) : Int) < (askF d (k + 1)).2 then (k + 1, mostS d ((k + 1 : Nat) : Int)) else askF d (k + 1) := rfl
    rw [e]
    by_cases hlt : mostS d ((k + 1 : Nat) : Int) < (askF d (k + 1)).2
    · rw [if_pos (.inr hlt)]
      refine ⟨by dsimp only; omega, rfl, fun q hq => ?_⟩
      dsimp only
      by_cases hqk : q = k + 1
      · subst hqk; exact ⟨Nat.le_refl _, fun _ => Nat.le_refl _⟩
      · have := h3 q (by omega)
        exact ⟨by omega, fun he => by omega⟩
    · rw [if_neg (by omega)]
      refine ⟨by omega, h2, fun q hq => ?_⟩
      by_cases hqk : q = k + 1
      · subst hqk; exact ⟨by omega, fun _ => by omega⟩
      · exact h3 q (by omega)
theorem mostS_bd {d : Bn} (v : VB d) (p : Int) : mostS d p ≤ 6561 := mostF_bd v p _
end Go.Proofs.Ytakmopiceopcpaa
end

section
namespace Go.Proofs.Ytakmopiceopcpaa
open Go.RowKit
theorem own_range : ∀ {ls : List Le} {x : List Sp} {p o m : Int}, (∀ l ∈ ls, 0 ≤ l.h ∧ l.h < m) → 0 ≤ o ∧ o ≤ m → 0 ≤ own ls x p o ∧ own ls x p o ≤ m := by
  intro ls
  induction ls with
  | nil => intro x p o m _ h; cases x <;> exact h
  | cons l ls ih =>
    intro x p o m hl h
    cases x with
    | nil => exact h
    | cons y ys =>
      have hl0 := hl l (.head _)
      unfold own
      refine ih (fun l hl' => hl l (.tail _ hl')) ?_
      split
      · omega
      · exact h
theorem ownX_range {d : Bn} (v : VB d) (x : List Sp) (p : Int) : 0 ≤ ownX d x p ∧ ownX d x p ≤ d.m := by
  have := v.m
  exact own_range (fun l hl => (v.ls l hl).h) ⟨by omega, by omega⟩
theorem ways_mine {d : Bn} {p : Int} (hp : 0 ≤ p ∧ p < d.n) (o : Int) : waysN d [.mine p o] = ((trL d).filter fun x => decide (ownX d x p = o)).length := by
  unfold waysN
  congr 2
  funext x
  exact okX_mine hp o x
end Go.Proofs.Ytakmopiceopcpaa
end

section
namespace Go.Proofs.Ytakmopiceopcpaa
open Go.RowKit
end Go.Proofs.Ytakmopiceopcpaa
end

section
namespace Go.Proofs.Ytakmopiceopcpaa
open Go.RowKit
structure Right (d : Bn) (x : List Sp) : Prop where
  v : VB d
  mem : x ∈ trL d
theorem pos_of_mem {α : Type} {l : List α} {x : α} (h : x ∈ l) : 1 ≤ l.length := List.length_pos_of_mem h
section
variable {d : Bn} {x : List Sp} (r : Right d x)
include r
theorem Right.pos : 1 ≤ (trL d).length := pos_of_mem r.mem
theorem Right.ways {aq : List Ask} (h : okX d aq x = true) : 1 ≤ waysN d aq := pos_of_mem (List.mem_filter.2 ⟨r.mem, h⟩)
theorem Right.mine {p : Nat} (hp : (p : Int) < d.n) : 1 ≤ waysN d [.mine p (ownX d x p)] := r.ways (by rw [okX_mine ⟨by omega, hp⟩]; exact decide_eq_true rfl)
theorem Right.line {p : Nat} (h1 : 1 ≤ p) (hp : (p : Int) < d.n) : (lineS d p = 2 → ownX d x p ≠ ownX d x ((p : Int) - 1)) ∧ (lineS d p = 0 → ownX d x p = ownX d x ((p : Int) - 1)) := by
  have hw : ∀ t, decide (ownX d x (p : Int) ≠ ownX d x ((p : Int) - 1)) = t → 1 ≤ waysN d [.line p t] := fun t ht => r.ways (by rw [okX_line ⟨by omega, hp⟩, ht]; simp)
  constructor
  · intro hl he
    have := hw false (by simp [he])
    unfold lineS at hl
    rw [if_neg (by omega)] at hl
    split at hl <;> omega
  · intro hl
    apply Classical.byContradiction
    intro hne
    have := hw true (by simp [hne])
    unfold lineS at hl
    split at hl
    · omega
    · rw [if_neg (by omega)] at hl
      omega
omit r in
theorem mostF_all {p : Int} : ∀ k, mostF d p k ≤ (trL d).length
  | 0 => by simp [mostF]
  | k + 1 => by
    unfold mostF
    have h1 := mostF_all (p := p) k
    have h2 := List.length_filter_le (okX d [.mine p k]) (trL d)
    have h3 : waysN d [.mine p k] ≤ (trL d).length := h2
    omega
theorem Right.wide (o : Int) : (wideS d o).1 ≤ cntX d o x ∧ cntX d o x ≤ (wideS d o).2 := by
  have hm : cntX d o x ∈ (trL d).map (cntX d o) := List.mem_map.2 ⟨x, r.mem, rfl⟩
  obtain ⟨a, b, h1, h2, h3⟩ := tl_ne (l := (trL d).map (cntX d o)) (fun h => by rw [h] at hm; cases hm)
  unfold wideS
  rw [h3]
  exact ⟨h1.2 _ hm, h2.2 _ hm⟩
theorem Right.most {p : Nat} : waysN d [.mine p (ownX d x p)] ≤ mostS d p ∧ mostS d p ≤ (trL d).length := by
  refine ⟨?_, mostF_all _⟩
  have h2 := ownX_range r.v x p
  obtain ⟨o, ho⟩ : ∃ o : Nat, ownX d x p = o := ⟨(ownX d x p).toNat, by omega⟩
  rw [ho]
  exact mostF_le (by omega)
end
end Go.Proofs.Ytakmopiceopcpaa
end

section
namespace Go.Proofs.Ytakmopiceopcpaa
open Go.RowKit
/-- How many truths there are, with a line ahead of a perch, the least and the most perches of a holder. -/
structure Cn where
  many : Nat
  lines : Nat
  lo : Int
  hi : Int
def lineX (d : Bn) (p : Int) (x : List Sp) : Bool := decide (0 < p ∧ ownX d x p ≠ ownX d x (p - 1))
def cnS (d : Bn) (h p : Int) (s : Cn) (x : List Sp) : Cn := if rightX d x = true then ⟨s.many + 1, s.lines + (if lineX d p x = true then 1 else 0), min s.lo (cntX d h x), max s.hi (cntX d h x)⟩ else s
theorem cn_fold (d : Bn) (h p : Int) : ∀ (l : List (List Sp)) (s : Cn), (l.foldl (cnS d h p) s).many = s.many + (l.filter (rightX d)).length ∧ (l.foldl (cnS d h p) s).lines = s.lines + ((l.filter (rightX d)).filter (lineX d p)).length ∧
    ((l.foldl (cnS d h p) s).lo ≤ s.lo ∧ (∀ x ∈ l.filter (rightX d), (l.foldl (cnS d h p) s).lo ≤ cntX d h x) ∧ ((l.foldl (cnS d h p) s).lo = s.lo ∨ ∃ x ∈ l.filter (rightX d), (l.foldl (cnS d h p) s).lo = cntX d h x)) ∧
    (s.hi ≤ (l.foldl (cnS d h p) s).hi ∧ (∀ x ∈ l.filter (rightX d), cntX d h x ≤ (l.foldl (cnS d h p) s).hi) ∧ ((l.foldl (cnS d h p) s).hi = s.hi ∨ ∃ x ∈ l.filter (rightX d), (l.foldl (cnS d h p) s).hi = cntX d h x))
  | [], s => by simp
  | a :: l, s => by
    rw [List.foldl_cons]
    obtain ⟨i1, i2, ⟨i3, i4, i5⟩, i6, i7, i8⟩ := cn_fold d h p l (cnS d h p s a)
    by_cases hr : rightX d a = true
    · have e : cnS d h p s a = ⟨s.many + 1, s.lines + (if lineX d p a = true then 1 else 0), min s.lo (cntX d h a), max s.hi (cntX d h a)⟩ := by unfold cnS; rw [if_pos hr]
      rw [e] at i1 i2 i3 i4 i5 i6 i7 i8 ⊢
      rw [List.filter_cons, if_pos hr]
      generalize l.foldl (cnS d h p) ⟨s.many + 1, s.lines + (if lineX d p a = true then 1 else 0), min s.lo (cntX d h a), max s.hi (cntX d h a)⟩ = F at i1 i2 i3 i4 i5 i6 i7 i8 ⊢
      dsimp only at i1 i2 i3 i5 i6 i8 ⊢
      generalize hC : cntX d h a = C at i3 i5 i6 i8 ⊢
      have a1 : F.lo ≤ s.lo ∧ F.lo ≤ C := by clear i4 i5 i7 i8; omega
      have a2 : s.hi ≤ F.hi ∧ C ≤ F.hi := by clear i4 i5 i7 i8; omega
      refine ⟨by clear i4 i5 i7 i8; rw [i1, List.length_cons]; omega, ?_, ⟨a1.1, ?_, ?_⟩, a2.1, ?_, ?_⟩
      · rw [i2, List.filter_cons]
        clear i4 i5 i7 i8
        split
        · rw [List.length_cons]; omega
        · rfl
      · intro x hx
        rcases List.mem_cons.1 hx with rfl | hx
        · rw [hC]; exact a1.2
        · exact i4 x hx
      · rcases i5 with h5 | ⟨x, hx, h5⟩
        · clear i8 i4 i7
          by_cases hc : s.lo ≤ C
          · exact .inl (by omega)
          · exact .inr ⟨a, .head _, by rw [hC]; omega⟩
        · exact .inr ⟨x, .tail _ hx, h5⟩
      · intro x hx
        rcases List.mem_cons.1 hx with rfl | hx
        · rw [hC]; exact a2.2
        · exact i7 x hx
      · rcases i8 with h5 | ⟨x, hx, h5⟩
        · clear i5 i4 i7
          by_cases hc : C ≤ s.hi
          · exact .inl (by omega)
          · exact .inr ⟨a, .head _, by rw [hC]; omega⟩
        · exact .inr ⟨x, .tail _ hx, h5⟩
    · have e : cnS d h p s a = s := by unfold cnS; rw [if_neg hr]
      rw [e] at i1 i2 i3 i4 i5 i6 i7 i8 ⊢
      rw [List.filter_cons, if_neg hr]
      exact ⟨i1, i2, ⟨i3, i4, i5⟩, i6, i7, i8⟩
theorem cntX_bd {d : Bn} (hn : 0 ≤ d.n) (h : Int) (x : List Sp) : 0 ≤ cntX d h x ∧ cntX d h x ≤ d.n := by
  unfold cntX
  have := List.length_filter_le (fun p : Nat => decide (ownX d x p = h)) (List.range d.n.toNat)
  rw [List.length_range] at this
  omega
theorem filter_two {α : Type} (q : α → Bool) (l : List α) : (l.filter q).length + (l.filter fun x => !(q x)).length = l.length := by
  induction l with
  | nil => rfl
  | cons a l ih =>
    simp only [List.filter_cons]
    cases q a <;> simp <;> omega
theorem line_ways {d : Bn} {p : Int} (hp : 1 ≤ p ∧ p < d.n) (t : Bool) : waysN d [.line p t] = ((trL d).filter fun x => lineX d p x == t).length := by
  unfold waysN
  congr 2
  funext x
  rw [okX_line hp]
  unfold lineX
  congr 1
  rw [Bool.eq_iff_iff, decide_eq_true_eq, decide_eq_true_eq]
  exact ⟨fun h => ⟨by omega, h⟩, fun h => h.2⟩
end Go.Proofs.Ytakmopiceopcpaa
end
