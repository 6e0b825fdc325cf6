/- Layer drain in plain terms: which way water goes, by levels; ends, waters; truths. · Layer drain in plain terms: all levels, truths, and what is returned of drains. · Layer drain in plain terms: sets, spans, the law's own courses and waters. -/
import Derived.WalkKit
section
namespace Go.Proofs.Ytbhgpnbfdjoglaa
open Go.RowKit
abbrev Sp := Int × Int
structure Bk where
  lv : Sp
  yd : Sp
deriving DecidableEq
structure Rt where
  a : Int
  b : Int
  most : Int
deriving DecidableEq
structure Dr where
  banks : List Bk
  ways : List Sp
  rights : List Rt
  seen : List Sp
def inN (n : Nat) (x : Int) : Bool := decide (0 ≤ x ∧ x < n)
def twoB (n : Nat) (a b : Int) : Bool := inN n a && inN n b && decide (a ≠ b)
def spB (s : Sp) : Bool := decide (0 ≤ s.1 ∧ s.1 ≤ s.2 ∧ s.2 ≤ 20 ∧ s.2 - s.1 ≤ 2)
def bkB (b : Bk) : Bool := spB b.lv && spB b.yd
def rtB (n : Nat) (r : Rt) : Bool := twoB n r.a r.b && decide (0 ≤ r.most ∧ r.most ≤ 100)
def numB (d : Dr) : Bool := decide ((1 ≤ d.banks.length ∧ d.banks.length ≤ 5) ∧ d.ways.length ≤ 7 ∧ d.rights.length ≤ 4 ∧ d.seen.length ≤ 4)
/-- Drains that are valid. -/
def vB (d : Dr) : Bool := numB d && d.banks.all bkB && d.ways.all (fun w => twoB d.banks.length w.1 w.2) && d.seen.all (fun w => twoB d.banks.length w.1 w.2) && d.rights.all (rtB d.banks.length)
structure VD (d : Dr) : Prop where
  nb : 1 ≤ d.banks.length ∧ d.banks.length ≤ 5
  nw : d.ways.length ≤ 7
  nr : d.rights.length ≤ 4
  ns : d.seen.length ≤ 4
  bk : ∀ b ∈ d.banks, (0 ≤ b.lv.1 ∧ b.lv.1 ≤ b.lv.2 ∧ b.lv.2 ≤ 20 ∧ b.lv.2 - b.lv.1 ≤ 2) ∧ 0 ≤ b.yd.1 ∧ b.yd.1 ≤ b.yd.2 ∧ b.yd.2 ≤ 20 ∧ b.yd.2 - b.yd.1 ≤ 2
  wy : ∀ w ∈ d.ways, (0 ≤ w.1 ∧ w.1 < d.banks.length) ∧ (0 ≤ w.2 ∧ w.2 < d.banks.length) ∧ w.1 ≠ w.2
  rt : ∀ r ∈ d.rights, (0 ≤ r.a ∧ r.a < d.banks.length) ∧ (0 ≤ r.b ∧ r.b < d.banks.length) ∧ r.a ≠ r.b ∧ 0 ≤ r.most ∧ r.most ≤ 100
  se : ∀ w ∈ d.seen, (0 ≤ w.1 ∧ w.1 < d.banks.length) ∧ (0 ≤ w.2 ∧ w.2 < d.banks.length) ∧ w.1 ≠ w.2
theorem VD_of {d : Dr} (h : vB d = true) : VD d := by
  unfold vB numB at h
  simp only [Bool.and_eq_true, List.all_eq_true, decide_eq_true_eq] at h
  obtain ⟨⟨⟨⟨⟨h1, h2, h3, h4⟩, h5⟩, h6⟩, h7⟩, h8⟩ := h
  refine ⟨h1, h2, h3, h4, ?_, ?_, ?_, ?_⟩
  · intro b hb
    have := h5 b hb
    simp only [bkB, spB, Bool.and_eq_true, decide_eq_true_eq] at this
    omega
  · intro w hw
    have := h6 w hw
    simp only [twoB, inN, Bool.and_eq_true, decide_eq_true_eq] at this
    exact ⟨this.1.1, this.1.2, this.2⟩
  · intro r hr
    have := h8 r hr
    simp only [rtB, twoB, inN, Bool.and_eq_true, decide_eq_true_eq] at this
    exact ⟨this.1.1.1, this.1.1.2, this.1.2, this.2⟩
  · intro w hw
    have := h7 w hw
    simp only [twoB, inN, Bool.and_eq_true, decide_eq_true_eq] at this
    exact ⟨this.1.1, this.1.2, this.2⟩
theorem vB_of {d : Dr} (v : VD d) : vB d = true := by
  unfold vB numB
  simp only [Bool.and_eq_true, List.all_eq_true, decide_eq_true_eq]
  refine ⟨⟨⟨⟨⟨v.nb, v.nw, v.nr, v.ns⟩, ?_⟩, ?_⟩, ?_⟩, ?_⟩
  · intro b hb
    have := v.bk b hb
    simp only [bkB, spB, Bool.and_eq_true, decide_eq_true_eq]
    omega
  · intro w hw
    have := v.wy w hw
    simp only [twoB, inN, Bool.and_eq_true, decide_eq_true_eq]
    exact ⟨⟨this.1, this.2.1⟩, this.2.2⟩
  · intro w hw
    have := v.se w hw
    simp only [twoB, inN, Bool.and_eq_true, decide_eq_true_eq]
    exact ⟨⟨this.1, this.2.1⟩, this.2.2⟩
  · intro r hr
    have := v.rt r hr
    simp only [rtB, twoB, inN, Bool.and_eq_true, decide_eq_true_eq]
    exact ⟨⟨⟨this.1, this.2.1⟩, this.2.2.1⟩, this.2.2.2⟩
/-- Those that are in a set, and those that are not. -/
def pickL {α : Type} (set : Nat) : List α → Nat → List α
  | [], _ => []
  | x :: l, k => if set / 2 ^ k % 2 = 1 then x :: pickL set l (k + 1) else pickL set l (k + 1)
def keepL {α : Type} (set : Nat) : List α → Nat → List α
  | [], _ => []
  | x :: l, k => if set / 2 ^ k % 2 = 1 then keepL set l (k + 1) else x :: keepL set l (k + 1)
theorem keepL_zero {α : Type} : ∀ (l : List α) (k : Nat), keepL 0 l k = l
  | [], _ => rfl
  | x :: l, k => by
    unfold keepL
    rw [if_neg (by simp), keepL_zero l]
theorem keepL_snoc {α : Type} (set : Nat) (a : α) : ∀ (l : List α) (k : Nat), keepL set (l ++ [a]) k = keepL set l k ++ if set / 2 ^ (k + l.length) % 2 = 1 then [] else [a]
  | [], k => by simp only [List.nil_append, keepL, List.length_nil, Nat.add_zero]
  | b :: l, k => by
    have := keepL_snoc set a l (k + 1)
    simp only [List.cons_append, keepL, List.length_cons]
    rw [this, show k + 1 + l.length = k + (l.length + 1) by omega]
    split <;> rfl
theorem keepL_mem {α : Type} {set : Nat} {x : α} : ∀ {l : List α} {k : Nat}, x ∈ keepL set l k ↔ ∃ j, l[j]? = some x ∧ set / 2 ^ (k + j) % 2 ≠ 1
  | [], k => by simp [keepL]
  | y :: l, k => by
    have ih := keepL_mem (set := set) (x := x) (l := l) (k := k + 1)
    have key : (∃ j, (y :: l)[j]? = some x ∧ set / 2 ^ (k + j) % 2 ≠ 1) ↔ (y = x ∧ set / 2 ^ k % 2 ≠ 1) ∨ ∃ j, l[j]? = some x ∧ set / 2 ^ (k + 1 + j) % 2 ≠ 1 := by
      constructor
      · rintro ⟨j, h1, h2⟩
        cases j with
        | zero => exact .inl ⟨by simpa using h1, by simpa using h2⟩
        | succ j => exact .inr ⟨j, by simpa using h1, by rw [show k + 1 + j = k + (j + 1) by omega]; exact h2⟩
      · rintro (⟨h1, h2⟩ | ⟨j, h1, h2⟩)
        · exact ⟨0, by simp [h1], by simpa using h2⟩
        · exact ⟨j + 1, by simpa using h1, by rw [show k + (j + 1) = k + 1 + j by omega]; exact h2⟩
    rw [key]
    unfold keepL
    split
    · rename_i h
      rw [ih]
      constructor
      · exact .inr
      · rintro (⟨_, h2⟩ | h2)
        · exact absurd h h2
        · exact h2
    · rename_i h
      rw [List.mem_cons, ih]
      constructor
      · rintro (rfl | h2)
        · exact .inl ⟨rfl, h⟩
        · exact .inr h2
      · rintro (⟨h2, _⟩ | h2)
        · exact .inl h2.symm
        · exact .inr h2
theorem pickL_mem {α : Type} {set : Nat} {x : α} : ∀ {l : List α} {k : Nat}, x ∈ pickL set l k ↔ ∃ j, l[j]? = some x ∧ set / 2 ^ (k + j) % 2 = 1
  | [], k => by simp [pickL]
  | y :: l, k => by
    have ih := pickL_mem (set := set) (x := x) (l := l) (k := k + 1)
    have key : (∃ j, (y :: l)[j]? = some x ∧ set / 2 ^ (k + j) % 2 = 1) ↔ (y = x ∧ set / 2 ^ k % 2 = 1) ∨ ∃ j, l[j]? = some x ∧ set / 2 ^ (k + 1 + j) % 2 = 1 := by
      constructor
      · rintro ⟨j, h1, h2⟩
        cases j with
        | zero => exact .inl ⟨by simpa using h1, by simpa using h2⟩
        | succ j => exact .inr ⟨j, by simpa using h1, by rw [show k + 1 + j = k + (j + 1) by omega]; exact h2⟩
      · rintro (⟨h1, h2⟩ | ⟨j, h1, h2⟩)
        · exact ⟨0, by simp [h1], by simpa using h2⟩
        · exact ⟨j + 1, by simpa using h1, by rw [show k + (j + 1) = k + 1 + j by omega]; exact h2⟩
    rw [key]
    unfold pickL
    split
    · rename_i h
      rw [List.mem_cons, ih]
      constructor
      · rintro (rfl | h2)
        · exact .inl ⟨rfl, h⟩
        · exact .inr h2
      · rintro (⟨h2, _⟩ | h2)
        · exact .inl h2.symm
        · exact .inr h2
    · rename_i h
      rw [ih]
      constructor
      · exact .inr
      · rintro (⟨_, h2⟩ | h2)
        · exact absurd h2 h
        · exact h2
theorem pickL_sub {α : Type} (x : Nat) : ∀ (l : List α) (k : Nat), ∀ y ∈ pickL x l k, y ∈ l := by
  intro l k y h
  obtain ⟨j, h1, _⟩ := pickL_mem.1 h
  exact List.mem_of_getElem? h1
theorem pickL_len {α : Type} (x : Nat) : ∀ (l : List α) (k : Nat), (pickL x l k).length ≤ l.length
  | [], _ => Nat.le_refl _
  | a :: l, k => by
    have := pickL_len x l (k + 1)
    unfold pickL
    split
    · simp only [List.length_cons]; omega
    · simp only [List.length_cons]; omega
theorem pickL_snoc {α : Type} (x : Nat) (a : α) : ∀ (l : List α) (k : Nat), pickL x (l ++ [a]) k = pickL x l k ++ if x / 2 ^ (k + l.length) % 2 = 1 then [a] else []
  | [], k => by simp only [List.nil_append, pickL, List.length_nil, Nat.add_zero]
  | b :: l, k => by
    have := pickL_snoc x a l (k + 1)
    simp only [List.cons_append, pickL, List.length_cons]
    rw [this, show k + 1 + l.length = k + (l.length + 1) by omega]
    split <;> rfl
/-! ## The next bank -/
def joinB (w : Sp) (a b : Int) : Bool := (w.1 == a && w.2 == b) || (w.1 == b && w.2 == a)
def adj (ws : List Sp) (a b : Nat) : Bool := ws.any fun w => joinB w a b
def lvl (lv : List Int) (i : Nat) : Int := lv.getD i 0
def betB (lv : List Int) : Option Nat → Nat → Bool
  | none, _ => true
  | some b, y => decide (lvl lv y < lvl lv b)
/-- One bank more is looked at. -/
def stepN (ws : List Sp) (lv : List Int) (x : Nat) (o : Option Nat) (y : Nat) : Option Nat := if adj ws x y && decide (lvl lv y < lvl lv x) && betB lv o y then some y else o
def nxtF (ws : List Sp) (lv : List Int) (x n : Nat) : Option Nat := (List.range n).foldl (stepN ws lv x) none
theorem nxtF_succ (ws : List Sp) (lv : List Int) (x n : Nat) : nxtF ws lv x (n + 1) = stepN ws lv x (nxtF ws lv x n) n := by
  unfold nxtF
  rw [List.range_succ, List.foldl_append]; rfl
def nxt (ws : List Sp) (lv : List Int) (x : Nat) : Option Nat := nxtF ws lv x lv.length
/-- Water can go there. -/
def Cand (ws : List Sp) (lv : List Int) (x y : Nat) : Prop := adj ws x y = true ∧ lvl lv y < lvl lv x
/-- The best of those below m. -/
def Best (ws : List Sp) (lv : List Int) (x m : Nat) : Option Nat → Prop
  | none => ∀ y, y < m → ¬ Cand ws lv x y
  | some b => b < m ∧ Cand ws lv x b ∧ ∀ y, y < m → Cand ws lv x y → lvl lv b < lvl lv y ∨ (lvl lv b = lvl lv y ∧ b ≤ y)
theorem Best.uniq {ws : List Sp} {lv : List Int} {x m : Nat} {o o' : Option Nat} (h : Best ws lv x m o) (k : Best ws lv x m o') : o = o' := by
  cases o with
  | none =>
    cases o' with
    | none => rfl
    | some b => exact absurd k.2.1 (h b k.1)
  | some b =>
    cases o' with
    | none => exact absurd h.2.1 (k b h.1)
    | some c =>
      have h1 := h.2.2 c k.1 k.2.1
      have h2 := k.2.2 b h.1 h.2.1
      congr 1
      omega
theorem nxtF_best (ws : List Sp) (lv : List Int) (x : Nat) : ∀ m, Best ws lv x m (nxtF ws lv x m)
  | 0 => fun y hy => absurd hy (by omega)
  | m + 1 => by
    have ih := nxtF_best ws lv x m
    rw [nxtF_succ]
    unfold stepN
    by_cases hc : Cand ws lv x m
    · have e1 : (adj ws x m && decide (lvl lv m < lvl lv x)) = true := by rw [hc.1, decide_eq_true hc.2]; rfl
      rw [e1, Bool.true_and]
      cases ho : nxtF ws lv x m with
      | none =>
        rw [ho] at ih
        rw [if_pos (by rfl)]
        refine ⟨by omega, hc, fun y hy hcy => ?_⟩
        by_cases hym : y = m
        · subst hym; exact .inr ⟨rfl, Nat.le_refl _⟩
        · exact absurd hcy (ih y (by omega))
      | some b =>
        rw [ho] at ih
        obtain ⟨h1, h2, h3⟩ := ih
        unfold betB
        by_cases hlt : lvl lv m < lvl lv b
        · rw [if_pos (decide_eq_true hlt)]
          refine ⟨by omega, hc, fun y hy hcy => ?_⟩
          by_cases hym : y = m
          · subst hym; exact .inr ⟨rfl, Nat.le_refl _⟩
          · have := h3 y (by omega) hcy
            omega
        · rw [if_neg (by simpa using hlt)]
          refine ⟨by omega, h2, fun y hy hcy => ?_⟩
          by_cases hym : y = m
          · subst hym; omega
          · exact h3 y (by omega) hcy
    · have e1 : (adj ws x m && decide (lvl lv m < lvl lv x)) = false := by
        rw [Bool.eq_false_iff]
        intro h
        rw [Bool.and_eq_true, decide_eq_true_eq] at h
        exact hc h
      rw [e1, Bool.false_and, if_neg (by simp)]
      cases ho : nxtF ws lv x m with
      | none =>
        rw [ho] at ih
        intro y hy hcy
        by_cases hym : y = m
        · subst hym; exact hc hcy
        · exact ih y (by omega) hcy
      | some b =>
        rw [ho] at ih
        obtain ⟨h1, h2, h3⟩ := ih
        refine ⟨by omega, h2, fun y hy hcy => ?_⟩
        by_cases hym : y = m
        · subst hym; exact absurd hcy hc
        · exact h3 y (by omega) hcy
theorem nxt_best (ws : List Sp) (lv : List Int) (x : Nat) : Best ws lv x lv.length (nxt ws lv x) := nxtF_best ws lv x lv.length
theorem nxt_dec {ws : List Sp} {lv : List Int} {x y : Nat} (h : nxt ws lv x = some y) : y < lv.length ∧ lvl lv y < lvl lv x := by
  have := nxt_best ws lv x
  rw [h] at this
  exact ⟨this.1, this.2.1.2⟩
/-! ## Counting, and sums -/
def sumN : Nat → (Nat → Int) → Int
  | 0, _ => 0
  | n + 1, f => sumN n f + f n
theorem sumN_congr {f g : Nat → Int} : ∀ {n : Nat}, (∀ z, z < n → f z = g z) → sumN n f = sumN n g
  | 0, _ => rfl
  | n + 1, h => by
    unfold sumN
    rw [sumN_congr (fun z hz => h z (by omega)), h n (by omega)]
theorem sumN_add (f g : Nat → Int) : ∀ n, sumN n (fun z => f z + g z) = sumN n f + sumN n g
  | 0 => rfl
  | n + 1 => by
    have := sumN_add f g n
    show sumN n (fun z => f z + g z) + (f n + g n) = (sumN n f + f n) + (sumN n g + g n)
    omega
theorem sumN_zero : ∀ n, sumN n (fun _ => 0) = 0
  | 0 => rfl
  | n + 1 => by unfold sumN; rw [sumN_zero n]; rfl
theorem sumN_swap (f : Nat → Nat → Int) (m : Nat) : ∀ n, sumN n (fun x => sumN m (f x)) = sumN m (fun z => sumN n (fun x => f x z))
  | 0 => (sumN_zero m).symm
  | n + 1 => by
    show sumN n (fun x => sumN m (f x)) + sumN m (f n) = _
    rw [sumN_swap f m n, ← sumN_add]; rfl
theorem sumN_one {f : Nat → Int} {b : Nat} : ∀ {n : Nat}, b < n → (∀ z, z < n → z ≠ b → f z = 0) → sumN n f = f b
  | 0, h, _ => absurd h (by omega)
  | n + 1, h, h0 => by
    unfold sumN
    by_cases hb : b = n
    · subst hb
      rw [sumN_congr (g := fun _ => 0) (fun z hz => h0 z (by omega) (by omega)), sumN_zero]; omega
    · rw [sumN_one (by omega) (fun z hz hzb => h0 z (by omega) hzb), h0 n (by omega) (by omega)]; omega
theorem sumN_bd {f : Nat → Int} {c : Int} (hc : 0 ≤ c) : ∀ {n : Nat}, (∀ z, z < n → 0 ≤ f z ∧ f z ≤ c) → 0 ≤ sumN n f ∧ sumN n f ≤ c * n
  | 0, _ => by simp [sumN]
  | n + 1, h => by
    have h1 := sumN_bd hc (n := n) (fun z hz => h z (by omega))
    have h2 := h n (by omega)
    unfold sumN
    rw [Int.natCast_add, Int.mul_add]
    simp only [Int.natCast_one, Int.mul_one]
    omega
def cntN : Nat → (Nat → Bool) → Nat
  | 0, _ => 0
  | n + 1, p => cntN n p + if p n then 1 else 0
theorem cntN_le {p q : Nat → Bool} : ∀ {n : Nat}, (∀ z, z < n → p z = true → q z = true) → cntN n p ≤ cntN n q
  | 0, _ => Nat.le_refl _
  | n + 1, h => by
    unfold cntN
    have h1 := cntN_le (p := p) (q := q) (n := n) (fun z hz => h z (by omega))
    have h2 := h n (by omega)
    cases hp : p n with
    | false => simp; omega
    | true => rw [h2 hp]; simp; omega
theorem cntN_lt {p q : Nat → Bool} {b : Nat} : ∀ {n : Nat}, b < n → p b = false → q b = true → (∀ z, z < n → p z = true → q z = true) → cntN n p < cntN n q
  | 0, h, _, _, _ => absurd h (by omega)
  | n + 1, h, hp, hq, hs => by
    unfold cntN
    by_cases hb : b = n
    · subst hb
      have := cntN_le (p := p) (q := q) (n := b) (fun z hz => hs z (by omega))
      rw [hp, hq]; simp; omega
    · have h1 := cntN_lt (b := b) (n := n) (by omega) hp hq (fun z hz => hs z (by omega))
      have h2 := hs n (by omega)
      cases hpn : p n with
      | false => simp; omega
      | true => rw [h2 hpn]; simp; omega
theorem cntN_n (p : Nat → Bool) : ∀ n, cntN n p ≤ n
  | 0 => Nat.le_refl _
  | n + 1 => by
    have := cntN_n p n
    unfold cntN
    split <;> omega
def endF (nx : Nat → Option Nat) : Nat → Nat → Nat
  | 0, b => b
  | k + 1, b => match nx b with
    | none => b
    | some y => endF nx k y
/-- Water of z comes by b. -/
def onP (nx : Nat → Option Nat) (b : Nat) : Nat → Nat → Bool
  | 0, z => z == b
  | k + 1, z => z == b || match nx z with
    | none => false
    | some y => onP nx b k y
/-- The water of a bank: what it yields, and the water of all whose next bank it is. -/
def watF (n : Nat) (nx : Nat → Option Nat) (y : Nat → Int) : Nat → Nat → Int
  | 0, b => y b
  | k + 1, b => y b + sumN n fun x => if nx x = some b then watF n nx y k x else 0
def endN (n : Nat) (nx : Nat → Option Nat) (b : Nat) : Nat := endF nx n b
def onN (n : Nat) (nx : Nat → Option Nat) (b z : Nat) : Bool := onP nx b n z
def watN (n : Nat) (nx : Nat → Option Nat) (y : Nat → Int) (b : Nat) : Int := watF n nx y n b
section
variable {n : Nat} {nx : Nat → Option Nat}
def dnR (n : Nat) (l : Nat → Int) (x : Nat) : Nat := cntN n fun z => decide (l z < l x)
def upR (n : Nat) (l : Nat → Int) (x : Nat) : Nat := cntN n fun z => decide (l x < l z)
theorem dnR_lt {l : Nat → Int} {x y : Nat} (hy : y < n) (h : l y < l x) : dnR n l y < dnR n l x :=
  cntN_lt hy (by simp) (by simpa using h) (fun z _ hz => by simp only [decide_eq_true_eq] at hz ⊢; omega)
theorem upR_lt {l : Nat → Int} {x y : Nat} (hx : x < n) (h : l y < l x) : upR n l x < upR n l y :=
  cntN_lt hx (by simp) (by simpa using h) (fun z _ hz => by simp only [decide_eq_true_eq] at hz ⊢; omega)
theorem cntN_ltn {p : Nat → Bool} {b : Nat} (hb : b < n) (hp : p b = false) : cntN n p < n := by
  have h1 := cntN_lt (q := fun _ => true) hb hp rfl (fun _ _ _ => rfl)
  have h2 := cntN_n (fun _ => true) n
  omega
theorem dnR_n {l : Nat → Int} {x : Nat} (hx : x < n) : dnR n l x < n := cntN_ltn hx (by simp)
theorem upR_n {l : Nat → Int} {x : Nat} (hx : x < n) : upR n l x < n := cntN_ltn hx (by simp)
variable {l : Nat → Int} (hd : ∀ x y, nx x = some y → y < n ∧ l y < l x)
include hd
theorem endF_stop : ∀ (k b : Nat), dnR n l b ≤ k → nx (endF nx k b) = none
  | 0, b, h => by
    show nx b = none
    cases hb : nx b with
    | none => rfl
    | some y =>
      have := hd b y hb
      have := dnR_lt this.1 this.2
      omega
  | k + 1, b, h => by
    cases hb : nx b with
    | none => unfold endF; rw [hb]; exact hb
    | some y =>
      have h1 := hd b y hb
      have h2 := dnR_lt h1.1 h1.2
      unfold endF
      rw [hb]
      exact endF_stop k y (by omega)
theorem endF_fuel : ∀ (k j b : Nat), dnR n l b ≤ k → dnR n l b ≤ j → endF nx k b = endF nx j b
  | k, j, b, h1, h2 => by
    cases hb : nx b with
    | none => cases k <;> cases j <;> simp [endF, hb]
    | some y =>
      have h3 := hd b y hb
      have h4 := dnR_lt h3.1 h3.2
      obtain ⟨k, rfl⟩ : ∃ k', k = k' + 1 := ⟨k - 1, by omega⟩
      obtain ⟨j, rfl⟩ : ∃ j', j = j' + 1 := ⟨j - 1, by omega⟩
      unfold endF
      rw [hb]
      exact endF_fuel k j y (by omega) (by omega)
theorem endF_lt : ∀ (k b : Nat), b < n → endF nx k b < n
  | 0, b, h => h
  | k + 1, b, h => by
    cases hb : nx b with
    | none => unfold endF; rw [hb]; exact h
    | some y =>
      unfold endF
      rw [hb]
      exact endF_lt k y (hd b y hb).1
theorem watF_fuel (y : Nat → Int) : ∀ (k j b : Nat), upR n l b ≤ k → upR n l b ≤ j → watF n nx y k b = watF n nx y j b
  | k, j, b, h1, h2 => by
    have key : ∀ x, x < n → nx x = some b → upR n l x < upR n l b := fun x hx hb => upR_lt hx (hd x b hb).2
    have hz : ∀ (f : Nat → Int), upR n l b = 0 → sumN n (fun x => if nx x = some b then f x else 0) = 0 := by
      intro f h0
      rw [sumN_congr (g := fun _ => 0), sumN_zero]
      intro x hx
      by_cases hb : nx x = some b
      · have := key x hx hb; omega
      · rw [if_neg hb]
    cases k with
    | zero =>
      cases j with
      | zero => rfl
      | succ j =>
        show y b = y b + _
        rw [hz _ (by omega)]; omega
    | succ k =>
      cases j with
      | zero =>
        show y b + _ = y b
        rw [hz _ (by omega)]; omega
      | succ j =>
        show y b + _ = y b + _
        congr 1
        refine sumN_congr fun x hx => ?_
        by_cases hb : nx x = some b
        · have := key x hx hb
          rw [if_pos hb, if_pos hb, watF_fuel y k j x (by omega) (by omega)]
        · rw [if_neg hb, if_neg hb]
theorem onP_low (b : Nat) : ∀ (k z : Nat), onP nx b k z = true → z = b ∨ l b < l z
  | 0, z, h => by left; simpa [onP] using h
  | k + 1, z, h => by
    unfold onP at h
    rw [Bool.or_eq_true] at h
    rcases h with h | h
    · left; simpa using h
    · cases hb : nx z with
      | none => rw [hb] at h; simp at h
      | some y =>
        rw [hb] at h
        have h1 := (hd z y hb).2
        rcases onP_low b k y h with h2 | h2
        · subst h2; exact .inr h1
        · exact .inr (by omega)
/-- Where water comes by that is not its own, it comes from just one. -/
theorem onP_sum {b : Nat} (_hb : b < n) : ∀ (k z : Nat), z < n → z ≠ b → dnR n l z ≤ k → sumN n (fun x => if nx x = some b then (if onP nx x k z then (1 : Int) else 0) else 0) = if onP nx b k z then 1 else 0
  | 0, z, hz, hne, h0 => by
    have hn : nx z = none := endF_stop hd 0 z h0
    have : onP nx b 0 z = false := by simp [onP, hne]
    rw [this, sumN_congr (g := fun _ => 0), sumN_zero]
    · rfl
    · intro x hx
      by_cases h : nx x = some b
      · rw [if_pos h]
        have : onP nx x 0 z = false := by
          have : z ≠ x := by intro e; subst e; rw [hn] at h; cases h
          simp [onP, this]
        rw [this]; rfl
      · rw [if_neg h]
  | k + 1, z, hz, hne, hk => by
    cases hy : nx z with
    | none =>
      have : onP nx b (k + 1) z = false := by simp [onP, hne, hy]
      rw [this, sumN_congr (g := fun _ => 0), sumN_zero]
      · rfl
      · intro x hx
        by_cases h : nx x = some b
        · rw [if_pos h]
          have : onP nx x (k + 1) z = false := by
            have : z ≠ x := by intro e; subst e; rw [hy] at h; cases h
            simp [onP, this, hy]
          rw [this]; rfl
        · rw [if_neg h]
    | some y =>
      have h1 := hd z y hy
      have h2 := dnR_lt h1.1 h1.2
      have e : onP nx b (k + 1) z = onP nx b k y := by simp [onP, hne, hy]
      rw [e]
      by_cases hyb : y = b
      · subst hyb
        have e2 : onP nx y k y = true := by cases k <;> simp [onP]
        rw [e2, sumN_one (b := z) hz]
        · rw [if_pos hy]
          have : onP nx z (k + 1) z = true := by simp [onP]
          rw [this]
        · intro x hx hxz
          by_cases h : nx x = some y
          · rw [if_pos h]
            have h3 := (hd x y h).2
            have : onP nx x (k + 1) z = false := by
              rw [Bool.eq_false_iff]
              intro hc
              have : onP nx x k y = true := by
                simp only [onP, hy] at hc
                simpa [Ne.symm hxz] using hc
              rcases onP_low hd x k y this with h4 | h4
              · subst h4; omega
              · omega
            rw [this]; rfl
          · rw [if_neg h]
      · rw [← onP_sum _hb k y h1.1 hyb (by omega)]
        refine sumN_congr fun x hx => ?_
        by_cases h : nx x = some b
        · rw [if_pos h, if_pos h]
          have hzx : z ≠ x := by intro e; subst e; rw [hy] at h; exact hyb (by simpa using h)
          have : onP nx x (k + 1) z = onP nx x k y := by simp [onP, hzx, hy]
          rw [this]
        · rw [if_neg h, if_neg h]
/-- The water of a bank is what all yield whose water comes by it. -/
theorem watF_sum (y : Nat → Int) : ∀ (k b : Nat), b < n → upR n l b ≤ k → watF n nx y k b = sumN n fun z => if onP nx b n z then y z else 0
  | k, b, hb, hk => by
    have hself : ∀ z, onP nx z n z = true := fun z => by cases n <;> simp [onP]
    have hun : watF n nx y k b = y b + sumN n fun x => if nx x = some b then watF n nx y (k - 1) x else 0 := by
      cases k with
      | zero =>
        rw [watF_fuel hd y 0 1 b hk (by omega)]; rfl
      | succ k => rfl
    rw [hun]
    have h1 : sumN n (fun x => if nx x = some b then watF n nx y (k - 1) x else 0) = sumN n fun x => sumN n fun z => if nx x = some b then (if onP nx x n z then y z else 0) else 0 := by
      refine sumN_congr fun x hx => ?_
      by_cases h : nx x = some b
      · have := upR_lt (l := l) hx (hd x b h).2
        rw [if_pos h, watF_sum y (k - 1) x hx (by omega)]
        exact sumN_congr fun z _ => by rw [if_pos h]
      · rw [if_neg h, sumN_congr (g := fun _ => 0), sumN_zero]
        intro z _
        rw [if_neg h]
    rw [h1, sumN_swap]
    have h2 : y b = sumN n fun z => if z = b then y z else 0 := by
      rw [sumN_one hb (fun z _ hzb => if_neg hzb), if_pos rfl]
    rw [h2, ← sumN_add]
    refine sumN_congr fun z hz => ?_
    by_cases hzb : z = b
    · subst hzb
      rw [if_pos rfl, hself, if_pos rfl]
      rw [sumN_congr (g := fun _ => 0), sumN_zero]
      · omega
      · intro x hx
        by_cases h : nx x = some z
        · rw [if_pos h]
          have h3 := (hd x z h).2
          have : onP nx x n z = false := by
            rw [Bool.eq_false_iff]
            intro hc
            rcases onP_low hd x n z hc with h4 | h4
            · subst h4; omega
            · omega
          rw [this]; rfl
        · rw [if_neg h]
    · rw [if_neg hzb, Int.zero_add]
      have hs := onP_sum hd hb n z hz hzb (Nat.le_of_lt (dnR_n hz))
      have h4 : sumN n (fun x => if nx x = some b then (if onP nx x n z then y z else 0) else 0) = y z * sumN n (fun x => if nx x = some b then (if onP nx x n z then (1 : Int) else 0) else 0) := by
        have key : ∀ m, sumN m (fun x => if nx x = some b then (if onP nx x n z then y z else 0) else 0) = y z * sumN m (fun x => if nx x = some b then (if onP nx x n z then (1 : Int) else 0) else 0) := by
          intro m
          induction m with
          | zero => simp [sumN]
          | succ m ih =>
            unfold sumN
            rw [ih, Int.mul_add]
            congr 1
            dsimp only
            by_cases h1 : nx m = some b
            · rw [if_pos h1, if_pos h1]
              by_cases h2 : onP nx m n z = true
              · rw [if_pos h2, if_pos h2, Int.mul_one]
              · rw [if_neg h2, if_neg h2, Int.mul_zero]
            · rw [if_neg h1, if_neg h1, Int.mul_zero]
        exact key n
      rw [h4, hs]
      split <;> simp
termination_by _ b => upR n l b
theorem watN_sum (y : Nat → Int) (b : Nat) (hb : b < n) : watN n nx y b = sumN n fun z => if onN n nx b z then y z else 0 := watF_sum hd y n b hb (Nat.le_of_lt (upR_n hb))
end
end Go.Proofs.Ytbhgpnbfdjoglaa
end

section
namespace Go.Proofs.Ytbhgpnbfdjoglaa
open Go.RowKit
def vals (s : Sp) : List Int := (List.range (s.2 - s.1 + 1).toNat).map fun c : Nat => s.1 + (c : Int)
def allR : List Sp → List (List Int)
  | [] => [[]]
  | s :: l => (vals s).flatMap fun v => (allR l).map (v :: ·)
theorem allR_len : ∀ (l : List Sp), ∀ r ∈ allR l, r.length = l.length
  | [], r, h => by simp [allR] at h; simp [h]
  | s :: l, r, h => by
    simp only [allR, List.mem_flatMap, List.mem_map] at h
    obtain ⟨v, _, q, hq, rfl⟩ := h
    simp [allR_len l q hq]
theorem vals_length (s : Sp) : (vals s).length = (s.2 - s.1 + 1).toNat := by simp [vals]
theorem vals_get (s : Sp) (c : Nat) (h : c < (vals s).length) : (vals s)[c] = s.1 + (c : Int) := by simp [vals]
theorem vals_mem {s : Sp} {v : Int} : v ∈ vals s ↔ s.1 ≤ v ∧ v ≤ s.2 := by
  unfold vals
  rw [List.mem_map]
  constructor
  · rintro ⟨c, hc, rfl⟩
    rw [List.mem_range] at hc
    omega
  · intro h
    exact ⟨(v - s.1).toNat, by rw [List.mem_range]; omega, by omega⟩
/-- Numbers of spans. -/
inductive InR : List Sp → List Int → Prop
  | nil : InR [] []
  | cons {s : Sp} {l : List Sp} {v : Int} {r : List Int} (h : s.1 ≤ v ∧ v ≤ s.2) (t : InR l r) : InR (s :: l) (v :: r)
theorem allR_iff : ∀ {l : List Sp} {r : List Int}, r ∈ allR l ↔ InR l r
  | [], r => by
    simp only [allR, List.mem_singleton]
    constructor
    · rintro rfl; exact .nil
    · intro h; cases h; rfl
  | s :: l, r => by
    simp only [allR, List.mem_flatMap, List.mem_map]
    constructor
    · rintro ⟨v, hv, q, hq, rfl⟩
      exact .cons (vals_mem.1 hv) (allR_iff.1 hq)
    · intro h
      cases h with | cons h t =>
      exact ⟨_, vals_mem.2 h, _, allR_iff.2 t, rfl⟩
theorem InR.len {l : List Sp} {r : List Int} (h : InR l r) : r.length = l.length := by
  induction h with
  | nil => rfl
  | cons _ _ ih => simp [ih]
theorem InR.get {l : List Sp} {r : List Int} (h : InR l r) : ∀ {i : Nat} {s : Sp}, l[i]? = some s → ∃ v, r[i]? = some v ∧ s.1 ≤ v ∧ v ≤ s.2 := by
  induction h with
  | nil => intro i s h; simp at h
  | cons h _ ih =>
    intro i s hs
    cases i with
    | zero =>
      simp only [List.getElem?_cons_zero, Option.some.injEq] at hs
      subst hs
      exact ⟨_, rfl, h⟩
    | succ i => exact ih (by simpa using hs)
theorem InR.of : ∀ {l : List Sp} {r : List Int}, r.length = l.length → (∀ (i : Nat) (s : Sp) (v : Int), l[i]? = some s → r[i]? = some v → s.1 ≤ v ∧ v ≤ s.2) → InR l r
  | [], [], _, _ => .nil
  | [], _ :: _, h, _ => by simp at h
  | _ :: _, [], h, _ => by simp at h
  | s :: l, v :: r, h, k => .cons (k 0 s v rfl rfl) (InR.of (by simpa using h) fun i s v h1 h2 => k (i + 1) s v (by simpa using h1) (by simpa using h2))
theorem vals_len3 {s : Sp} (h : s.2 - s.1 ≤ 2) : (vals s).length ≤ 3 := by rw [vals_length]; omega
theorem allR_count : ∀ (l : List Sp), (∀ s ∈ l, s.2 - s.1 ≤ 2) → (allR l).length ≤ 3 ^ l.length
  | [], _ => by simp [allR]
  | s :: l, h => by
    have ih := allR_count l (fun x hx => h x (.tail _ hx))
    have h1 := vals_len3 (h s (.head _))
    have h2 : (allR (s :: l)).length = (vals s).length * (allR l).length := by simp [allR, List.length_flatMap, List.map_const']
    rw [h2, List.length_cons, Nat.pow_succ, Nat.mul_comm]
    exact Nat.mul_le_mul ih h1
/-- All levels, truths. -/
def rowsD (d : Dr) : List (List Int) := allR (d.banks.map (·.lv))
def codeO : Option Nat → Int
  | none => -1
  | some b => (b : Int)
def rightB (d : Dr) (lv : List Int) : Bool := d.seen.all fun w => codeO (nxt d.ways lv w.1.toNat) == w.2
def toldD (d : Dr) : List (List Int) := (rowsD d).filter (rightB d)
def onlyD (d : Dr) (set : Nat) : Dr := { d with seen := pickL set d.seen 0 }
def someB (d : Dr) : Bool := (rowsD d).any (rightB d)
theorem someB_told {d : Dr} : someB d = true ↔ toldD d ≠ [] := by
  unfold someB toldD
  rw [List.any_eq_true]
  constructor
  · rintro ⟨x, h1, h2⟩ h
    have : x ∈ (rowsD d).filter (rightB d) := List.mem_filter.2 ⟨h1, h2⟩
    rw [h] at this; cases this
  · intro h
    obtain ⟨x, hx⟩ := List.exists_mem_of_ne_nil _ h
    obtain ⟨h1, h2⟩ := List.mem_filter.1 hx
    exact ⟨x, h1, h2⟩
theorem someB_no {d : Dr} : someB d = false ↔ toldD d = [] := by
  have := someB_told (d := d)
  cases h : someB d with
  | true => rw [h] at this; simp at this; simp [this]
  | false =>
    rw [h] at this
    simp only [Bool.false_eq_true, ne_eq, false_iff, Classical.not_not] at this
    simp [this]
theorem rowsD_len {d : Dr} {lv : List Int} (h : lv ∈ rowsD d) : lv.length = d.banks.length := by
  have := allR_len _ lv h
  simpa using this
theorem rowsD_iff {d : Dr} {lv : List Int} : lv ∈ rowsD d ↔ InR (d.banks.map (·.lv)) lv := allR_iff
theorem rowsD_bd {d : Dr} (v : VD d) {lv : List Int} (h : lv ∈ rowsD d) : ∀ x ∈ lv, 0 ≤ x ∧ x ≤ 20 := by
  intro x hx
  have h1 := rowsD_iff.1 h
  obtain ⟨i, hi, rfl⟩ := List.getElem_of_mem hx
  have hl := h1.len
  rw [List.length_map] at hl
  obtain ⟨y, hy, h2, h3⟩ := h1.get (i := i) (s := d.banks[i].lv) (by rw [List.getElem?_map, List.getElem?_eq_getElem (by omega)]; rfl)
  rw [List.getElem?_eq_getElem hi] at hy
  have hb := v.bk d.banks[i] (List.getElem_mem _)
  simp only [Option.some.injEq] at hy
  omega
theorem rowsD_count {d : Dr} (v : VD d) : (rowsD d).length ≤ 243 := by
  have h1 := allR_count (d.banks.map (·.lv)) (fun x hx => by
    obtain ⟨p, hp, rfl⟩ := List.mem_map.1 hx
    have := v.bk p hp
    omega)
  have h2 : 3 ^ (d.banks.map (·.lv)).length ≤ 3 ^ 5 := Nat.pow_le_pow_right (by omega) (by rw [List.length_map]; exact v.nb.2)
  unfold rowsD
  omega
theorem toldD_count {d : Dr} (v : VD d) : (toldD d).length ≤ 243 := Nat.le_trans (List.length_filter_le _ _) (rowsD_count v)
theorem toldD_mem {d : Dr} {lv : List Int} : lv ∈ toldD d ↔ lv ∈ rowsD d ∧ rightB d lv = true := List.mem_filter
theorem rightB_iff {d : Dr} {lv : List Int} : rightB d lv = true ↔ ∀ w ∈ d.seen, codeO (nxt d.ways lv w.1.toNat) = w.2 := by
  unfold rightB
  rw [List.all_eq_true]
  simp
def loY (d : Dr) (i : Nat) : Int := ((d.banks.map (·.yd)).getD i (0, 0)).1
def hiY (d : Dr) (i : Nat) : Int := ((d.banks.map (·.yd)).getD i (0, 0)).2
theorem yd_bd {d : Dr} (v : VD d) (i : Nat) : 0 ≤ loY d i ∧ loY d i ≤ hiY d i ∧ hiY d i ≤ 20 := by
  unfold loY hiY
  rw [List.getD_eq_getElem?_getD, List.getElem?_map]
  cases h : d.banks[i]? with
  | none => simp
  | some b =>
    have := v.bk b (List.mem_of_getElem? h)
    simp only [Option.map_some, Option.getD_some]
    omega
def watS (d : Dr) (nx : Nat → Option Nat) (b : Nat) : Sp := (watN d.banks.length nx (loY d) b, watN d.banks.length nx (hiY d) b)
def flowS (d : Dr) (nx : Nat → Option Nat) (a b : Nat) : Sp := if nx a = some b then watS d nx a else (0, 0)
def jn (l : List Sp) : Sp := match l with
  | [] => (0, 0)
  | x :: l => l.foldl (fun s x => (min s.1 x.1, max s.2 x.2)) x
def orS (l : List Nat) : Nat := l.foldl (fun s n => s ||| 2 ^ n) 0
def nextS (d : Dr) (b : Nat) : Nat := orS ((toldD d).map fun lv => (nxt d.ways lv b).getD d.banks.length)
def endsS (d : Dr) (b : Nat) : Nat := orS ((toldD d).map fun lv => endN d.banks.length (nxt d.ways lv) b)
def waterS (d : Dr) (b : Nat) : Sp := jn ((toldD d).map fun lv => watS d (nxt d.ways lv) b)
def flowsS (d : Dr) (a b : Nat) : Sp := jn ((toldD d).map fun lv => flowS d (nxt d.ways lv) a b)
def bitsOf (f : Nat → Bool) : Nat → Nat
  | 0 => 0
  | n + 1 => bitsOf f n + if f n then 2 ^ n else 0
def rtF (d : Dr) (i : Nat) : Sp := match d.rights[i]? with
  | some r => flowsS d r.a.toNat r.b.toNat
  | none => (0, 0)
def rtM (d : Dr) (i : Nat) : Int := match d.rights[i]? with
  | some r => r.most
  | none => 0
def sureS (d : Dr) : Nat := bitsOf (fun i => decide (rtM d i < (rtF d i).1)) d.rights.length
def perhS (d : Dr) : Nat := bitsOf (fun i => decide (rtM d i < (rtF d i).2)) d.rights.length
def keepS1 (d : Dr) (nx : Nat → Option Nat) : Bool := d.rights.all fun r => decide ((flowS d nx r.a.toNat r.b.toNat).2 ≤ r.most)
def keepS2 (d : Dr) (nx : Nat → Option Nat) : Bool := d.rights.all fun r => decide ((flowS d nx r.a.toNat r.b.toNat).1 ≤ r.most)
def digS (d : Dr) (x y : Int) : Int :=
  if (toldD d).all (fun lv => keepS1 d (nxt (d.ways ++ [(x, y)]) lv)) then 2 else if (toldD d).any (fun lv => keepS2 d (nxt (d.ways ++ [(x, y)]) lv)) then 1 else 0
def enoughB (d : Dr) (set : Nat) : Bool := (toldD d).all fun lv => keepS1 d (nxt (keepL set d.ways 0) lv)
/-- The errors. -/
def errD (d : Dr) (ok : Bool) : Int := if vB d then if ok then if someB d then 0 else 10 else 2 else 1
theorem errD_1 {d : Dr} {ok : Bool} (h1 : vB d = true) (h2 : ok = true) (h3 : someB d = true) : errD d ok = 0 := by simp [errD, h1, h2, h3]
theorem errD_10 {d : Dr} {ok : Bool} (h1 : vB d = true) (h2 : ok = true) (h3 : someB d = false) : errD d ok = 10 := by simp [errD, h1, h2, h3]
theorem errD_no {d : Dr} {ok : Bool} (h : vB d = false ∨ ok = false) : errD d ok ≠ 0 := by
  unfold errD
  cases hv : vB d <;> cases hk : ok <;> simp_all
def NextV (d : Dr) (b : Int) : Nat := if errD d (inN d.banks.length b) = 0 then nextS d b.toNat else 0
def EndsV (d : Dr) (b : Int) : Nat := if errD d (inN d.banks.length b) = 0 then endsS d b.toNat else 0
def WaterV (d : Dr) (b : Int) : Sp := if errD d (inN d.banks.length b) = 0 then waterS d b.toNat else (0, 0)
def FlowV (d : Dr) (a b : Int) : Sp := if errD d (twoB d.banks.length a b) = 0 then flowsS d a.toNat b.toNat else (0, 0)
def SureV (d : Dr) : Nat := if errD d true = 0 then sureS d else 0
def PerhV (d : Dr) : Nat := if errD d true = 0 then perhS d else 0
def DigE (d : Dr) (a b : Int) : Int := if errD d (twoB d.banks.length a b) = 0 then if d.ways.length < 7 then 0 else 9 else errD d (twoB d.banks.length a b)
def DigV (d : Dr) (a b : Int) : Int := if DigE d a b = 0 then digS d a b else 0
end Go.Proofs.Ytbhgpnbfdjoglaa
end

section
namespace Go.Proofs.Ytbhgpnbfdjoglaa
open Go.RowKit
/-! ## Sets -/
theorem bit_or (a b k : Nat) : (a ||| b) / 2 ^ k % 2 = 1 ↔ a / 2 ^ k % 2 = 1 ∨ b / 2 ^ k % 2 = 1 := by
  have h : ∀ x : Nat, x / 2 ^ k % 2 = 1 ↔ x.testBit k = true := by
    intro x
    rw [Nat.testBit_eq_decide_div_mod_eq, decide_eq_true_eq]
  rw [h, h, h, Nat.testBit_or, Bool.or_eq_true]
theorem bit_pow (n k : Nat) : 2 ^ n / 2 ^ k % 2 = 1 ↔ n = k := by
  have h : ∀ x : Nat, x / 2 ^ k % 2 = 1 ↔ x.testBit k = true := by
    intro x
    rw [Nat.testBit_eq_decide_div_mod_eq, decide_eq_true_eq]
  rw [h, Nat.testBit_two_pow]
  simp
theorem orS_snoc (l : List Nat) (n : Nat) : orS (l ++ [n]) = orS l ||| 2 ^ n := by
  unfold orS
  rw [List.foldl_append]; rfl
theorem orF_bit (k : Nat) : ∀ (l : List Nat) (s : Nat), (l.foldl (fun s n => s ||| 2 ^ n) s) / 2 ^ k % 2 = 1 ↔ s / 2 ^ k % 2 = 1 ∨ k ∈ l
  | [], s => by simp
  | n :: l, s => by
    rw [List.foldl_cons, orF_bit k l, bit_or, bit_pow, List.mem_cons]
    constructor
    · rintro ((h | h) | h)
      · exact .inl h
      · exact .inr (.inl h.symm)
      · exact .inr (.inr h)
    · rintro (h | h | h)
      · exact .inl (.inl h)
      · exact .inl (.inr h.symm)
      · exact .inr h
theorem orS_bit {l : List Nat} {k : Nat} : orS l / 2 ^ k % 2 = 1 ↔ k ∈ l := by
  have := orF_bit k l 0
  unfold orS
  rw [this]
  simp
theorem orF_lt {m : Nat} : ∀ (l : List Nat) (s : Nat), s < 2 ^ m → (∀ n ∈ l, n < m) → l.foldl (fun s n => s ||| 2 ^ n) s < 2 ^ m
  | [], s, h, _ => h
  | n :: l, s, h, hl => by
    rw [List.foldl_cons]
    exact orF_lt l _ (Nat.or_lt_two_pow h (Nat.pow_lt_pow_right (by omega) (hl n (.head _)))) (fun x hx => hl x (.tail _ hx))
theorem orS_lt {m : Nat} {l : List Nat} (h : ∀ n ∈ l, n < m) : orS l < 2 ^ m := orF_lt l 0 (Nat.two_pow_pos m) h
theorem bits_eq {a b m : Nat} (ha : a < 2 ^ m) (hb : b < 2 ^ m) (h : ∀ k, k < m → (a / 2 ^ k % 2 = 1 ↔ b / 2 ^ k % 2 = 1)) : a = b := by
  apply Nat.eq_of_testBit_eq
  intro k
  by_cases hk : k < m
  · have := h k hk
    rw [Nat.testBit_eq_decide_div_mod_eq, Nat.testBit_eq_decide_div_mod_eq]
    exact decide_eq_decide.2 this
  · have hp : 2 ^ m ≤ 2 ^ k := Nat.pow_le_pow_right (by omega) (by omega)
    rw [Nat.testBit_lt_two_pow (Nat.lt_of_lt_of_le ha hp), Nat.testBit_lt_two_pow (Nat.lt_of_lt_of_le hb hp)]
theorem bitsOf_lt (f : Nat → Bool) : ∀ n, bitsOf f n < 2 ^ n
  | 0 => by simp [bitsOf]
  | n + 1 => by
    have := bitsOf_lt f n
    unfold bitsOf
    rw [Nat.pow_succ]
    split <;> omega
theorem bitsOf_or {f : Nat → Bool} {n : Nat} (h : f n = true) : bitsOf f n ||| 2 ^ n = bitsOf f (n + 1) := by
  have h1 : bitsOf f (n + 1) = bitsOf f n + 2 ^ n := by show bitsOf f n + (if f n then 2 ^ n else 0) = _; rw [if_pos h]
  rw [h1]
  have := Nat.two_pow_add_eq_or_of_lt (bitsOf_lt f n) 1
  rw [Nat.mul_one] at this
  rw [Nat.or_comm, ← this, Nat.add_comm]
theorem bitsOf_no {f : Nat → Bool} {n : Nat} (h : f n = false) : bitsOf f (n + 1) = bitsOf f n := by
  show bitsOf f n + (if f n then 2 ^ n else 0) = _
  rw [h]; rfl
theorem bitsOf_bit (f : Nat → Bool) (k : Nat) : ∀ n, bitsOf f n / 2 ^ k % 2 = 1 ↔ k < n ∧ f k = true
  | 0 => by simp [bitsOf]
  | n + 1 => by
    have ih := bitsOf_bit f k n
    cases h : f n with
    | true =>
      rw [← bitsOf_or h, bit_or, ih, bit_pow]
      constructor
      · rintro (⟨h1, h2⟩ | h1)
        · exact ⟨by omega, h2⟩
        · subst h1; exact ⟨by omega, h⟩
      · rintro ⟨h1, h2⟩
        by_cases hk : k < n
        · exact .inl ⟨hk, h2⟩
        · exact .inr (by omega)
    | false =>
      rw [bitsOf_no h, ih]
      constructor
      · rintro ⟨h1, h2⟩; exact ⟨by omega, h2⟩
      · rintro ⟨h1, h2⟩
        refine ⟨?_, h2⟩
        by_cases hk : k = n
        · subst hk; rw [h] at h2; cases h2
        · omega
/-! ## Spans -/
theorem jn_cons (x y : Sp) (l : List Sp) : jn (x :: y :: l) = jn ((min x.1 y.1, max x.2 y.2) :: l) := rfl
theorem jn_hull : ∀ (l : List Sp), l ≠ [] → (∃ x ∈ l, x.1 = (jn l).1) ∧ (∃ x ∈ l, x.2 = (jn l).2) ∧ ∀ x ∈ l, (jn l).1 ≤ x.1 ∧ x.2 ≤ (jn l).2
  | [], h => absurd rfl h
  | [x], _ => ⟨⟨x, by simp, rfl⟩, ⟨x, by simp, rfl⟩, fun y hy => by rw [List.mem_singleton.1 hy]; exact ⟨Int.le_refl _, Int.le_refl _⟩⟩
  | x :: y :: l, _ => by
    obtain ⟨⟨a, ha, h1⟩, ⟨b, hb, h2⟩, h3⟩ := jn_hull ((min x.1 y.1, max x.2 y.2) :: l) (by simp)
    rw [jn_cons]
    have h4 := h3 _ (.head _)
    dsimp only at h4
    refine ⟨?_, ?_, ?_⟩
    · rcases List.mem_cons.1 ha with rfl | ha
      · dsimp only at h1
        by_cases hm : x.1 ≤ y.1
        · exact ⟨x, by simp, by omega⟩
        · exact ⟨y, by simp, by omega⟩
      · exact ⟨a, by simp [ha], h1⟩
    · rcases List.mem_cons.1 hb with rfl | hb
      · dsimp only at h2
        by_cases hm : x.2 ≤ y.2
        · exact ⟨y, by simp, by omega⟩
        · exact ⟨x, by simp, by omega⟩
      · exact ⟨b, by simp [hb], h2⟩
    · intro z hz
      rcases List.mem_cons.1 hz with rfl | hz
      · omega
      · rcases List.mem_cons.1 hz with rfl | hz
        · omega
        · exact h3 z (.tail _ hz)
termination_by l => l.length
theorem jn_snoc (l : List Sp) (x : Sp) : jn (l ++ [x]) = if l = [] then x else (min (jn l).1 x.1, max (jn l).2 x.2) := by
  cases l with
  | nil => rfl
  | cons y l => simp [jn, List.foldl_append]
theorem watN_bd {n : Nat} {nx : Nat → Option Nat} {l : Nat → Int} (hd : ∀ x y, nx x = some y → y < n ∧ l y < l x) {y : Nat → Int} (h : ∀ z, z < n → 0 ≤ y z ∧ y z ≤ 20) {x : Nat} (hx : x < n) : 0 ≤ watN n nx y x ∧ watN n nx y x ≤ 20 * n := by
  rw [watN_sum hd y x hx]
  refine sumN_bd (by omega) fun z hz => ?_
  have := h z hz
  split <;> omega
end Go.Proofs.Ytbhgpnbfdjoglaa
end
