/- Layer bank in plain terms: truths; in how many of them what is asked is so. · Layer bank in plain terms: the marks of a set. · Layer bank in plain terms: what its functions return. -/
import Derived.Test.YtakmopiceopcpaaQc
section
namespace Go.Proofs.Ytakmopiceopcpaa
open Go.RowKit
def mkA (k : Sp) : Ask := .mine k.1 k.2
/-- What all marks ask. -/
def marksA (b : Bn) : List Ask := .any :: b.ms.map mkA
def rightX (b : Bn) (x : List Sp) : Bool := b.ms.all fun k => decide (ownX b x k.1 = k.2)
/-- All truths. -/
def trL (b : Bn) : List (List Sp) := (combos b.ls).filter (rightX b)
def waysN (b : Bn) (aq : List Ask) : Nat := ((trL b).filter (okX b aq)).length
theorem all_and {α : Type} (p q : α → Bool) (l : List α) : (l.all fun x => p x && q x) = (l.all p && l.all q) := by
  induction l with
  | nil => rfl
  | cons a l ih =>
    simp only [List.all_cons, ih]
    cases p a <;> cases q a <;> simp
theorem okX_app (b : Bn) (l m : List Ask) (x : List Sp) : okX b (l ++ m) x = (okX b l x && okX b m x) := by
  unfold okX
  rw [← all_and]
  congr 1
  funext p
  unfold allIs
  rw [List.all_append]
theorem okX_nil (b : Bn) (x : List Sp) : okX b [] x = true := by
  unfold okX allIs
  simp
theorem okX_cons (b : Bn) (a : Ask) (m : List Ask) (x : List Sp) : okX b (a :: m) x = (okX b [a] x && okX b m x) := okX_app b [a] m x
theorem okX_any (b : Bn) (x : List Sp) : okX b [.any] x = true := by
  unfold okX allIs Ask.is
  simp
theorem okX_mine {b : Bn} {p : Int} (h0 : 0 ≤ p ∧ p < b.n) (h : Int) (x : List Sp) : okX b [.mine p h] x = decide (ownX b x p = h) := by
  unfold okX allIs Ask.is
  rw [Bool.eq_iff_iff, List.all_eq_true, decide_eq_true_eq]
  constructor
  · intro hall
    have := hall p.toNat (by rw [List.mem_range]; omega)
    simp only [List.all_cons, List.all_nil, Bool.and_true] at this
    rw [show ((p.toNat : Nat) : Int) = p by omega, if_pos rfl, decide_eq_true_eq] at this
    exact this
  · intro he q _
    simp only [List.all_cons, List.all_nil, Bool.and_true]
    split
    · rename_i hq
      rw [hq, decide_eq_true_eq]; exact he
    · rfl
theorem okX_line {b : Bn} {p : Int} (h0 : 1 ≤ p ∧ p < b.n) (t : Bool) (x : List Sp) : okX b [.line p t] x = (decide (ownX b x p ≠ ownX b x (p - 1)) == t) := by
  unfold okX allIs Ask.is
  rw [Bool.eq_iff_iff, List.all_eq_true]
  constructor
  · intro hall
    have := hall p.toNat (by rw [List.mem_range]; omega)
    simp only [List.all_cons, List.all_nil, Bool.and_true] at this
    unfold befX at this
    rw [show ((p.toNat : Nat) : Int) = p by omega, if_neg (by omega)] at this
    simpa using this
  · intro he q _
    simp only [List.all_cons, List.all_nil, Bool.and_true, Bool.or_eq_true, decide_eq_true_eq]
    by_cases hq : (q : Int) = p
    · refine .inr ?_
      unfold befX
      rw [hq, if_neg (by omega)]
      exact he
    · exact .inl hq
theorem okX_marks {b : Bn} (v : VB b) (x : List Sp) : okX b (marksA b) x = rightX b x := by
  unfold marksA rightX
  rw [okX_cons, okX_any, Bool.true_and]
  have hm := v.ms
  generalize b.ms = ms at hm
  induction ms with
  | nil => rw [List.map_nil, okX_nil]; rfl
  | cons k ms ih =>
    rw [List.map_cons, okX_cons, ih (fun k hk => hm k (.tail _ hk)), List.all_cons]
    unfold mkA
    rw [okX_mine (hm k (.head _)).1]
/-- What is tallied of all truths, and of what is asked besides. -/
theorem tally_truths {b : Bn} (v : VB b) (aq : List Ask) (h : Int) : tl (finR b (marksA b ++ aq) h) = tl (((trL b).filter (okX b aq)).map (cntX b h)) := by
  rw [tl_perm (fin_perm v (marksA b ++ aq) h)]
  congr 2
  unfold trL
  rw [List.filter_filter]
  congr 1
  funext x
  rw [okX_app, okX_marks v]
  cases rightX b x <;> cases okX b aq x <;> rfl
theorem waysN_tl {b : Bn} (v : VB b) (aq : List Ask) (h : Int) : (tl (finR b (marksA b ++ aq) h)).1 = (waysN b aq : Int) := by
  rw [tally_truths v]
  unfold tl waysN
  rw [List.length_map]
theorem waysN_nil (b : Bn) : waysN b [] = (trL b).length := by
  unfold waysN
  rw [List.filter_eq_self.2 fun x _ => okX_nil b x]
theorem linesL_len {l : Le} {n m : Int} (v : LeOk n m l) : (linesL l).length ≤ 9 := by
  unfold linesL
  have h1 : ∀ i, (((rng l.t.1 l.t.2).filter fun k => decide (i < k)).map fun k => ((i, k) : Sp)).length ≤ 3 := by
    intro i
    rw [List.length_map]
    refine Nat.le_trans (List.length_filter_le _ _) ?_
    have := v.t
    unfold rng
    rw [List.length_map, List.length_range]
    omega
  have h2 := row_len h1 (rng l.f.1 l.f.2)
  have h3 : (rng l.f.1 l.f.2).length ≤ 3 := by
    have := v.f
    unfold rng
    rw [List.length_map, List.length_range]
    omega
  omega
theorem combos_cnt {n m : Int} : ∀ {ls : List Le}, (∀ l ∈ ls, LeOk n m l) → (combos ls).length ≤ 9 ^ ls.length
  | [], _ => by simp [combos]
  | l :: ls, h => by
    have ih := combos_cnt (fun l hl => h l (.tail _ hl))
    unfold combos
    refine Nat.le_trans (row_len (m := 9 ^ ls.length) (fun x => by rw [List.length_map]; exact ih) _) ?_
    rw [List.length_cons, Nat.pow_succ, Nat.mul_comm]
    exact Nat.mul_le_mul_left _ (linesL_len (h l (.head _)))
theorem ways_bd {b : Bn} (v : VB b) (aq : List Ask) : waysN b aq ≤ 6561 := by
  unfold waysN trL
  refine Nat.le_trans (List.length_filter_le _ _) (Nat.le_trans (List.length_filter_le _ _) (Nat.le_trans (combos_cnt v.ls) ?_))
  exact (Nat.pow_le_pow_right (by omega) v.nl : 9 ^ b.ls.length ≤ 9 ^ 4)
end Go.Proofs.Ytakmopiceopcpaa
end

section
namespace Go.Proofs.Ytakmopiceopcpaa
open Go.RowKit
def pickL {α : Type} (set : Nat) : List α → Nat → List α
  | [], _ => []
  | x :: l, k => if set / 2 ^ k % 2 = 1 then x :: pickL set l (k + 1) else pickL set l (k + 1)
theorem pickL_mem {α : Type} {set : Nat} {x : α} : ∀ {l : List α} {k : Nat}, x ∈ pickL set l k ↔ ∃ j, l[j]? = some x ∧ set / 2 ^ (k + j) % 2 = 1
  | [], k => by simp [pickL]
  | y :: l, k => by
    have ih := pickL_mem (set := set) (x := x) (l := l) (k := k + 1)
    have key : (∃ j, (y :: l)[j]? = some x ∧ set / 2 ^ (k + j) % 2 = 1) ↔ (y = x ∧ set / 2 ^ k % 2 = 1) ∨ ∃ j, l[j]? = some x ∧ set / 2 ^ (k + 1 + j) % 2 = 1 := by
      constructor
      · rintro ⟨j, h1, h2⟩
        cases j with
        | zero => exact .inl ⟨by simpa using h1, by simpa using h2⟩
        | succ j => exact .inr ⟨j, by simpa using h1, by rw [show k + 1 + j = k + (j + 1) by omega]; exact h2⟩
      · rintro (⟨h1, h2⟩ | ⟨j, h1, h2⟩)
        · exact ⟨0, by simp [h1], by simpa using h2⟩
        · exact ⟨j + 1, by simpa using h1, by rw [show k + (j + 1) = k + 1 + j by omega]; exact h2⟩
    rw [key]
    unfold pickL
    split
    · rename_i h
      rw [List.mem_cons, ih]
      constructor
      · rintro (rfl | h2)
        · exact .inl ⟨rfl, h⟩
        · exact .inr h2
      · rintro (⟨h2, _⟩ | h2)
        · exact .inl h2.symm
        · exact .inr h2
    · rename_i h
      rw [ih]
      constructor
      · exact .inr
      · rintro (⟨_, h2⟩ | h2)
        · exact absurd h2 h
        · exact h2
theorem pickL_sub {α : Type} (x : Nat) : ∀ (l : List α) (k : Nat), ∀ y ∈ pickL x l k, y ∈ l := by
  intro l k y h
  obtain ⟨j, h1, _⟩ := pickL_mem.1 h
  exact List.mem_of_getElem? h1
theorem pickL_len {α : Type} (x : Nat) : ∀ (l : List α) (k : Nat), (pickL x l k).length ≤ l.length
  | [], _ => Nat.le_refl _
  | a :: l, k => by
    have := pickL_len x l (k + 1)
    unfold pickL
    split
    · simp only [List.length_cons]; omega
    · simp only [List.length_cons]; omega
theorem pickL_snoc {α : Type} (x : Nat) (a : α) : ∀ (l : List α) (k : Nat), pickL x (l ++ [a]) k = pickL x l k ++ if x / 2 ^ (k + l.length) % 2 = 1 then [a] else []
  | [], k => by simp only [List.nil_append, pickL, List.length_nil, Nat.add_zero]
  | b :: l, k => by
    have := pickL_snoc x a l (k + 1)
    simp only [List.cons_append, pickL, List.length_cons]
    rw [this, show k + 1 + l.length = k + (l.length + 1) by omega]
    split <;> rfl
/-! ## The next bank -/
theorem pickL_full {α : Type} {x : Nat} : ∀ (ls : List α) (k : Nat), (∀ j, j < ls.length → x / 2 ^ (k + j) % 2 = 1) → pickL x ls k = ls
  | [], _, _ => rfl
  | a :: ls, k, h => by
    unfold pickL
    rw [if_pos (by simpa using h 0 (by simp)), pickL_full ls (k + 1) fun j hj => by rw [show k + 1 + j = k + (j + 1) by omega]; exact h (j + 1) (by simpa using hj)]
/-- The bank with the marks of a set alone. -/
def onlyB (b : Bn) (set : Nat) : Bn := { b with ms := pickL set b.ms 0 }
theorem VB_only {b : Bn} (v : VB b) (set : Nat) : VB (onlyB b set) :=
  ⟨v.n, v.m, v.nl, Nat.le_trans (pickL_len _ _ _) v.nm, v.ls, fun k hk => v.ms k (pickL_sub _ _ _ k hk)⟩
theorem ev_bit6 : ∀ m, m < 7 → ∀ j, j < m → (2 ^ m - 1) / 2 ^ j % 2 = 1 := by decide
theorem pick_take {set : Nat} {l : List Sp} {k : Nat} (h : k < l.length) : pickL set (l.take (k + 1)) 0 = pickL set (l.take k) 0 ++ if set / 2 ^ k % 2 = 1 then [l[k]] else [] := by
  rw [List.take_succ_eq_append_getElem h, pickL_snoc, List.length_take, Nat.min_eq_left (by omega), Nat.zero_add]
end Go.Proofs.Ytakmopiceopcpaa
end

section
namespace Go.Proofs.Ytakmopiceopcpaa
open Go.RowKit
def bitsOf (f : Nat → Bool) : Nat → Nat
  | 0 => 0
  | n + 1 => bitsOf f n + if f n then 2 ^ n else 0
theorem bit_or (a b k : Nat) : (a ||| b) / 2 ^ k % 2 = 1 ↔ a / 2 ^ k % 2 = 1 ∨ b / 2 ^ k % 2 = 1 := by
  have h : ∀ x : Nat, x / 2 ^ k % 2 = 1 ↔ x.testBit k = true := by
    intro x
    rw [Nat.testBit_eq_decide_div_mod_eq, decide_eq_true_eq]
  rw [h, h, h, Nat.testBit_or, Bool.or_eq_true]
theorem bit_pow (n k : Nat) : 2 ^ n / 2 ^ k % 2 = 1 ↔ n = k := by
  have h : ∀ x : Nat, x / 2 ^ k % 2 = 1 ↔ x.testBit k = true := by
    intro x
    rw [Nat.testBit_eq_decide_div_mod_eq, decide_eq_true_eq]
  rw [h, Nat.testBit_two_pow]
  simp
theorem bitsOf_lt (f : Nat → Bool) : ∀ n, bitsOf f n < 2 ^ n
  | 0 => by simp [bitsOf]
  | n + 1 => by
    have := bitsOf_lt f n
    unfold bitsOf
    rw [Nat.pow_succ]
    split <;> omega
theorem bitsOf_or {f : Nat → Bool} {n : Nat} (h : f n = true) : bitsOf f n ||| 2 ^ n = bitsOf f (n + 1) := by
  have h1 : bitsOf f (n + 1) = bitsOf f n + 2 ^ n := by show bitsOf f n + (if f n then 2 ^ n else 0) = _; rw [if_pos h]
  rw [h1]
  have := Nat.two_pow_add_eq_or_of_lt (bitsOf_lt f n) 1
  rw [Nat.mul_one] at this
  rw [Nat.or_comm, ← this, Nat.add_comm]
theorem bitsOf_no {f : Nat → Bool} {n : Nat} (h : f n = false) : bitsOf f (n + 1) = bitsOf f n := by
  show bitsOf f n + (if f n then 2 ^ n else 0) = _
  rw [h]; rfl
theorem bitsOf_bit (f : Nat → Bool) (k : Nat) : ∀ n, bitsOf f n / 2 ^ k % 2 = 1 ↔ k < n ∧ f k = true
  | 0 => by simp [bitsOf]
  | n + 1 => by
    have ih := bitsOf_bit f k n
    cases h : f n with
    | true =>
      rw [← bitsOf_or h, bit_or, ih, bit_pow]
      constructor
      · rintro (⟨h1, h2⟩ | h1)
        · exact ⟨by omega, h2⟩
        · subst h1; exact ⟨by omega, h⟩
      · rintro ⟨h1, h2⟩
        by_cases hk : k < n
        · exact .inl ⟨hk, h2⟩
        · exact .inr (by omega)
    | false =>
      rw [bitsOf_no h, ih]
      constructor
      · rintro ⟨h1, h2⟩; exact ⟨by omega, h2⟩
      · rintro ⟨h1, h2⟩
        refine ⟨?_, h2⟩
        by_cases hk : k = n
        · subst hk; rw [h] at h2; cases h2
        · omega
/-- The error, where a truth is wanted. -/
def errT (d : Bn) (ok : Bool) : Int := if vB d = true then if ok = true then if (trL d).length = 0 then 10 else 0 else 2 else 1
def whoS (d : Bn) (p : Int) : Nat := bitsOf (fun h => decide (0 < waysN d [.mine p h])) (d.m.toNat + 1)
def WhoseV (d : Bn) (p : Int) : Nat := if errT d (inB p 0 (d.n - 1)) = 0 then whoS d p else 0
def surS (d : Bn) (h : Int) : Nat := bitsOf (fun p => decide (waysN d [.mine p h] = (trL d).length)) d.n.toNat
def perS (d : Bn) (h : Int) : Nat := bitsOf (fun p => decide (0 < waysN d [.mine p h])) d.n.toNat
def SureV (d : Bn) (h : Int) : Nat := if errT d (inB h 0 d.m) = 0 then surS d h else 0
def PerhV (d : Bn) (h : Int) : Nat := if errT d (inB h 0 d.m) = 0 then perS d h else 0
def wideS (d : Bn) (h : Int) : Sp := (tl ((trL d).map (cntX d h))).2
def WideV (d : Bn) (h : Int) : Sp := if errT d (inB h 0 d.m) = 0 then wideS d h else (0, 0)
def lineS (d : Bn) (p : Int) : Int := if waysN d [.line p false] = 0 then 2 else if waysN d [.line p true] = 0 then 0 else 1
def LineV (d : Bn) (p : Int) : Int := if errT d (inB p 1 (d.n - 1)) = 0 then lineS d p else 0
def CountE (d : Bn) : Int := if vB d = true then 0 else 1
def CountV (d : Bn) : Nat := if vB d = true then (trL d).length else 0
/-- In how many truths a perch is that of the one whose it is in most, of the first k. -/
def mostF (d : Bn) (p : Int) : Nat → Nat
  | 0 => 0
  | k + 1 => max (mostF d p k) (waysN d [.mine p k])
def mostS (d : Bn) (p : Int) : Nat := mostF d p (d.m.toNat + 1)
def askF (d : Bn) : Nat → Nat × Nat
  | 0 => (0, 0)
  | p + 1 => if p = 0 ∨ mostS d p < (askF d p).2 then (p, mostS d p) else askF d p
def askS (d : Bn) : Nat × Nat := askF d d.n.toNat
def AskV (d : Bn) : Nat × Nat := if errT d true = 0 then askS d else (0, 0)
theorem errT_10 {d : Bn} {ok : Bool} (h1 : vB d = true) (h2 : ok = true) (h3 : (trL d).length = 0) : errT d ok = 10 := by simp [errT, h1, h2, h3]
theorem errT_0 {d : Bn} {ok : Bool} (h1 : vB d = true) (h2 : ok = true) (h3 : 0 < (trL d).length) : errT d ok = 0 := by
  unfold errT
  rw [if_pos h1, if_pos h2, if_neg (by omega)]
theorem errT_no {d : Bn} {ok : Bool} (h : vB d = false ∨ ok = false) : errT d ok ≠ 0 ∧ errT d ok = if vB d = true then if ok = true then 0 else 2 else 1 := by
  unfold errT
  cases h1 : vB d <;> cases h2 : ok <;> simp_all
theorem mostF_bd {d : Bn} (v : VB d) (p : Int) : ∀ k, mostF d p k ≤ 6561
  | 0 => by simp [mostF]
  | k + 1 => by
    unfold mostF
    have := mostF_bd v p k
    have := ways_bd v [.mine p k]
    omega
theorem askF_bd {d : Bn} (v : VB d) : ∀ k, (askF d k).1 ≤ k ∧ (askF d k).2 ≤ 6561
  | 0 => by simp [askF]
  | k + 1 => by
    have h1 := askF_bd v k
    have h2 := mostF_bd v k (d.m.toNat + 1)
    unfold askF
    split
    · exact ⟨by dsimp only; omega, h2⟩
    · exact ⟨by omega, h1.2⟩
end Go.Proofs.Ytakmopiceopcpaa
end
