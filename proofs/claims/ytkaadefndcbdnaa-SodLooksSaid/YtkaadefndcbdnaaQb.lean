/- Layer sod in plain terms: strokes and sods, what there can have been by each day, truths. · Layer sod in plain terms: all costs, and what is returned of a bank. -/
import Derived.WalkKit
section
namespace Go.Proofs.Ytkaadefndcbdnaa
open Go.RowKit
abbrev Sp := Int × Int
structure Spt where
  sods : Int
  lo : Int
  hi : Int
deriving DecidableEq
structure Lg where
  day : Int
  lo : Int
  hi : Int
deriving DecidableEq
structure Sd where
  spits : List Spt
  days : List Sp
  logs : List Lg
/-- A bank that is valid. -/
structure VS (s : Sd) : Prop where
  np : 1 ≤ s.spits.length ∧ s.spits.length ≤ 3
  nd : 1 ≤ s.days.length ∧ s.days.length ≤ 6
  nl : s.logs.length ≤ 4
  sp : ∀ p ∈ s.spits, (1 ≤ p.sods ∧ p.sods ≤ 30) ∧ 1 ≤ p.lo ∧ p.lo ≤ p.hi ∧ p.hi ≤ 6 ∧ p.hi - p.lo ≤ 2
  dy : ∀ d ∈ s.days, 0 ≤ d.1 ∧ d.1 ≤ d.2 ∧ d.2 ≤ 100
  lg : ∀ l ∈ s.logs, (0 ≤ l.day ∧ l.day < s.days.length) ∧ 0 ≤ l.lo ∧ l.lo ≤ l.hi ∧ l.hi ≤ 200
def far : Int := 1048576
/-- How many strokes so many sods take, behind n. -/
def strk : List Spt → List Int → Int → Int → Int
  | p :: ps, c :: cs, n, k => strk ps cs (n + min k p.sods * c) (k - min k p.sods)
  | _, _, n, k => if 0 < k then far else n
/-- How many sods are cut with some strokes, behind n. -/
def cutS : List Spt → List Int → Int → Int → Int
  | p :: ps, c :: cs, n, t => if p.sods * c ≤ t then cutS ps cs (n + p.sods) (t - p.sods * c) else n + t / c
  | _, _, n, _ => n
/-- Costs of spits. -/
inductive CIn : List Spt → List Int → Prop
  | nil {cs : List Int} : CIn [] cs
  | cons {p : Spt} {ps : List Spt} {c : Int} {cs : List Int} (h : p.lo ≤ c ∧ c ≤ p.hi) (t : CIn ps cs) : CIn (p :: ps) (c :: cs)
def SpOk (ps : List Spt) : Prop := ∀ p ∈ ps, (1 ≤ p.sods ∧ p.sods ≤ 30) ∧ 1 ≤ p.lo ∧ p.lo ≤ p.hi ∧ p.hi ≤ 6
theorem SpOk.tail {p : Spt} {ps : List Spt} (h : SpOk (p :: ps)) : SpOk ps := fun q hq => h q (.tail _ hq)
theorem VS.spOk {s : Sd} (v : VS s) : SpOk s.spits := fun p hp => by have := v.sp p hp; omega
theorem cutS_add : ∀ (ps : List Spt) (cs : List Int) (n t : Int), cutS ps cs n t = n + cutS ps cs 0 t
  | [], _, n, t => by simp [cutS]
  | p :: ps, [], n, t => by simp [cutS]
  | p :: ps, c :: cs, n, t => by
    unfold cutS
    split
    · rw [cutS_add ps cs (n + p.sods), cutS_add ps cs (0 + p.sods)]; omega
    · omega
theorem strk_zero : ∀ (ps : List Spt) (cs : List Int) (n : Int), SpOk ps → strk ps cs n 0 = n
  | [], _, n, _ => by simp [strk]
  | p :: ps, [], n, _ => by simp [strk]
  | p :: ps, c :: cs, n, h => by
    unfold strk
    have := (h p (.head _)).1
    rw [show min 0 p.sods = 0 by omega]
    simpa using strk_zero ps cs n h.tail
theorem strk_ge : ∀ (ps : List Spt) (cs : List Int) (n k : Int), SpOk ps → CIn ps cs → 0 ≤ k → n ≤ strk ps cs n k ∨ strk ps cs n k = far
  | [], _, n, k, _, _, _ => by unfold strk; split; exact .inr rfl; exact .inl (Int.le_refl _)
  | p :: ps, [], n, k, _, h, _ => by cases h
  | p :: ps, c :: cs, n, k, hp, h, hk => by
    unfold strk
    have h1 := hp p (.head _)
    cases h with | cons h t =>
    have h2 : 0 ≤ min k p.sods * c := Int.mul_nonneg (by omega) (by omega)
    rcases strk_ge ps cs (n + min k p.sods * c) (k - min k p.sods) hp.tail t (by omega) with h3 | h3
    · exact .inl (by omega)
    · exact .inr h3
theorem cutS_nonneg : ∀ (ps : List Spt) (cs : List Int) (t : Int), SpOk ps → CIn ps cs → 0 ≤ t → 0 ≤ cutS ps cs 0 t
  | [], _, t, _, _, _ => by simp [cutS]
  | p :: ps, [], t, _, h, _ => by cases h
  | p :: ps, c :: cs, t, hp, h, ht => by
    unfold cutS
    have h1 := hp p (.head _)
    cases h with | cons h tl =>
    split
    · rename_i hc
      rw [cutS_add]
      have := cutS_nonneg ps cs (t - p.sods * c) hp.tail tl (by omega)
      omega
    · have : 0 ≤ t / c := Int.ediv_nonneg ht (by omega)
      omega
/-- So many sods are cut just if there are the strokes that they take. -/
theorem strk_le : ∀ (ps : List Spt) (cs : List Int) (n k t : Int), SpOk ps → CIn ps cs → 0 ≤ k → 0 ≤ t → 0 ≤ n → n + t < far → (strk ps cs n k ≤ n + t ↔ k ≤ cutS ps cs 0 t)
  | [], _, n, k, t, _, _, hk, ht, hn, hf => by
    unfold strk cutS
    split <;> omega
  | p :: ps, [], n, k, t, _, h, _, _, _, _ => by cases h
  | p :: ps, c :: cs, n, k, t, hp, h, hk, ht, hn, hf => by
    have h1 := hp p (.head _)
    cases h with | cons h tl =>
    unfold strk cutS
    by_cases hks : k ≤ p.sods
    · rw [show min k p.sods = k by omega, show k - k = 0 by omega, strk_zero _ _ _ hp.tail]
      split
      · rename_i hc
        have h2 : k * c ≤ p.sods * c := Int.mul_le_mul_of_nonneg_right hks (by omega)
        rw [cutS_add]
        have := cutS_nonneg ps cs (t - p.sods * c) hp.tail tl (by omega)
        constructor <;> intro <;> omega
      · have h2 : k ≤ t / c ↔ k * c ≤ t := Int.le_ediv_iff_mul_le (by omega)
        omega
    · rw [show min k p.sods = p.sods by omega]
      have h3 : 0 ≤ p.sods * c := Int.mul_nonneg (by omega) (by omega)
      split
      · rename_i hc
        have := strk_le ps cs (n + p.sods * c) (k - p.sods) (t - p.sods * c) hp.tail tl (by omega) (by omega) (by omega) (by omega)
        rw [cutS_add]
        rw [show n + p.sods * c + (t - p.sods * c) = n + t by omega] at this
        omega
      · rename_i hc
        have h2 : t / c < p.sods := Int.ediv_lt_of_lt_mul (by omega) (by omega)
        rcases strk_ge ps cs (n + p.sods * c) (k - p.sods) hp.tail tl (by omega) with h4 | h4 <;> omega
theorem cutS_mono {ps : List Spt} {cs : List Int} {t u : Int} (hp : SpOk ps) (h : CIn ps cs) (ht : 0 ≤ t) (htu : t ≤ u) (hu : u < far) : cutS ps cs 0 t ≤ cutS ps cs 0 u := by
  have h0 := cutS_nonneg ps cs t hp h ht
  have h1 := strk_le ps cs 0 (cutS ps cs 0 t) t hp h h0 ht (by omega) (by omega)
  have h2 := strk_le ps cs 0 (cutS ps cs 0 t) u hp h h0 (by omega) (by omega) (by omega)
  rw [← h2]
  have := h1.2 (Int.le_refl _)
  omega
/-- With a stroke more at most one sod more is cut. -/
theorem cutS_step : ∀ (ps : List Spt) (cs : List Int) (t : Int), SpOk ps → CIn ps cs → 0 ≤ t → cutS ps cs 0 (t + 1) ≤ cutS ps cs 0 t + 1
  | [], _, t, _, _, _ => by simp [cutS]
  | p :: ps, [], t, _, h, _ => by cases h
  | p :: ps, c :: cs, t, hp, h, ht => by
    have h1 := hp p (.head _)
    cases h with | cons h tl =>
    unfold cutS
    by_cases hc : p.sods * c ≤ t
    · rw [if_pos hc, if_pos (by omega), cutS_add, cutS_add ps cs (0 + p.sods) (t - p.sods * c)]
      have := cutS_step ps cs (t - p.sods * c) hp.tail tl (by omega)
      rw [show t + 1 - p.sods * c = t - p.sods * c + 1 by omega]
      omega
    · rw [if_neg hc]
      have h5 : (t + 1) / c ≤ t / c + 1 := by
        have : (t + 1) / c ≤ (t + c * 1) / c := Int.ediv_le_ediv (by omega) (by omega)
        rw [Int.add_mul_ediv_left _ _ (by omega)] at this
        exact this
      split
      · rename_i hc2
        have h6 : t + 1 = p.sods * c := by omega
        rw [cutS_add, show t + 1 - p.sods * c = 0 by omega]
        have h7 : cutS ps cs 0 0 = 0 := by
          have := cutS_nonneg ps cs 0 hp.tail tl (by omega)
          cases ps with
          | nil => simp [cutS]
          | cons q ps =>
            cases cs with
            | nil => cases tl
            | cons e cs =>
              have h8 := hp q (by simp)
              cases tl with | cons h9 _ =>
              unfold cutS
              have : 1 * 1 ≤ q.sods * e := Int.mul_le_mul (by omega) (by omega) (by omega) (by omega)
              rw [if_neg (by omega)]; simp
        rw [h7]
        have h8 : (t + 1) / c = p.sods := by rw [h6]; exact Int.mul_ediv_cancel _ (by omega)
        omega
      · omega
/-! ## What there can have been by each day -/
/-- The bounds that counts set to the strokes by day d. -/
def cntS (s : Sd) (c : List Int) (d : Int) : List Lg → Sp → Sp
  | [], m => m
  | l :: ls, m => cntS s c d ls (if l.day = d then (max m.1 (strk s.spits c 0 l.lo), min m.2 (strk s.spits c 0 (l.hi + 1) - 1)) else m)
/-- From what there can have been before: by each day, on and on; and whether there can be any to the end. -/
def fwd (s : Sd) (c : List Int) : List Sp → Nat → Sp → List Sp × Bool
  | [], _, _ => ([], true)
  | x :: xs, d, m => let m' := cntS s c d s.logs (m.1 + x.1, m.2 + x.2)
    if m'.1 ≤ m'.2 then (m' :: (fwd s c xs (d + 1) m').1, (fwd s c xs (d + 1) m').2) else ([], false)
/-- What of it goes on to the end: xs are the days behind the first one. -/
def bwd : List Sp → List Sp → List Sp
  | m :: ms, x :: xs => match bwd ms xs with
    | [] => [m]
    | r :: rs => (max m.1 (r.1 - x.2), min m.2 (r.2 - x.1)) :: r :: rs
  | [m], [] => [m]
  | _, _ => []
def canS (s : Sd) (c : List Int) : Bool := (fwd s c s.days 0 (0, 0)).2
def daysS (s : Sd) (c : List Int) : List Sp := if canS s c then bwd (fwd s c s.days 0 (0, 0)).1 (s.days.drop 1) else (fwd s c s.days 0 (0, 0)).1
/-- Strokes by each day, from a on. -/
def Path (s : Sd) (c : List Int) : Int → List Sp → Nat → List Int → Prop
  | _, [], _, ts => ts = []
  | a, x :: xs, d, t :: ts => x.1 ≤ t - a ∧ t - a ≤ x.2 ∧ (∀ l ∈ s.logs, l.day = d → l.lo ≤ cutS s.spits c 0 t ∧ cutS s.spits c 0 t ≤ l.hi) ∧ Path s c t xs (d + 1) ts
  | _, _ :: _, _, [] => False
theorem cntS_spec (s : Sd) (c : List Int) (hp : SpOk s.spits) (hc : CIn s.spits c) (d : Int) (t : Int) (ht : 0 ≤ t) (hf : t < far) : ∀ (ls : List Lg), (∀ l ∈ ls, 0 ≤ l.lo ∧ l.lo ≤ l.hi) → ∀ m : Sp,
    ((cntS s c d ls m).1 ≤ t ∧ t ≤ (cntS s c d ls m).2 ↔ (m.1 ≤ t ∧ t ≤ m.2) ∧ ∀ l ∈ ls, l.day = d → l.lo ≤ cutS s.spits c 0 t ∧ cutS s.spits c 0 t ≤ l.hi)
  | [], _, m => by simp [cntS]
  | l :: ls, hl, m => by
    unfold cntS
    rw [cntS_spec s c hp hc d t ht hf ls (fun x hx => hl x (.tail _ hx))]
    have h0 := hl l (.head _)
    have h1 := strk_le s.spits c 0 l.lo t hp hc h0.1 ht (by omega) (by omega)
    have h2 := strk_le s.spits c 0 (l.hi + 1) t hp hc (by omega) ht (by omega) (by omega)
    simp only [List.mem_cons, forall_eq_or_imp]
    by_cases hd : l.day = d
    · rw [if_pos hd]
      simp only [hd, true_implies]
      constructor
      · rintro ⟨h3, h4⟩
        exact ⟨by omega, by omega, h4⟩
      · rintro ⟨h3, h4, h5⟩
        exact ⟨by omega, h5⟩
    · rw [if_neg hd]
      simp only [hd, false_implies, true_and]
theorem cntS_lo (s : Sd) (c : List Int) (d : Int) : ∀ (ls : List Lg) (m : Sp), m.1 ≤ (cntS s c d ls m).1 ∧ (cntS s c d ls m).2 ≤ m.2
  | [], m => by simp [cntS]
  | l :: ls, m => by
    unfold cntS
    have := cntS_lo s c d ls (if l.day = d then (max m.1 (strk s.spits c 0 l.lo), min m.2 (strk s.spits c 0 (l.hi + 1) - 1)) else m)
    split at this <;> rename_i h
    · rw [if_pos h]; dsimp only at this; omega
    · rw [if_neg h]; exact this
theorem fwd_len (s : Sd) (c : List Int) : ∀ (xs : List Sp) (d : Nat) (m : Sp), (fwd s c xs d m).2 = true → (fwd s c xs d m).1.length = xs.length
  | [], _, _, _ => rfl
  | x :: xs, d, m, h => by
    unfold fwd at h ⊢
    dsimp only at h ⊢
    split at h
    · rename_i hm
      rw [if_pos hm]
      simp only [List.length_cons]
      rw [fwd_len s c xs (d + 1) _ h]
    · cases h
theorem bwd_len : ∀ (ms xs : List Sp), xs.length + 1 = ms.length → (bwd ms xs).length = ms.length
  | [m], [], _ => rfl
  | m :: m' :: ms, x :: xs, h => by
    have := bwd_len (m' :: ms) xs (by simpa using h)
    unfold bwd
    split
    · rename_i h0; rw [h0] at this; simp at this
    · rename_i r rs h0; rw [h0] at this; simp at this ⊢; omega
  | [], [], h => by simp at h
  | [], _ :: _, h => by simp at h
  | _ :: _ :: _, [], h => by simp at h
  | [_], _ :: _, h => by simp at h
def inS (n : Int) (s : Sp) : Prop := s.1 ≤ n ∧ n ≤ s.2
theorem chain (s : Sd) (c : List Int) (hp : SpOk s.spits) (hc : CIn s.spits c) (hl : ∀ l ∈ s.logs, 0 ≤ l.lo ∧ l.lo ≤ l.hi) : ∀ (xs : List Sp) (x : Sp) (d : Nat) (m : Sp), (∀ y ∈ x :: xs, 0 ≤ y.1 ∧ y.1 ≤ y.2 ∧ y.2 ≤ 100) → 0 ≤ m.1 → m.1 ≤ m.2 → m.2 + 100 * (xs.length + 1) < far →
    ((fwd s c (x :: xs) d m).2 = true ↔ ∃ a ts, inS a m ∧ Path s c a (x :: xs) d ts) ∧
    ((fwd s c (x :: xs) d m).2 = true → ∀ (k : Nat) (n : Int), k ≤ xs.length → (inS n ((bwd (fwd s c (x :: xs) d m).1 xs).getD k (1, 0)) ↔ ∃ a ts, inS a m ∧ Path s c a (x :: xs) d ts ∧ ts[k]? = some n) ∧
      ((bwd (fwd s c (x :: xs) d m).1 xs).getD k (1, 0)).1 ≤ ((bwd (fwd s c (x :: xs) d m).1 xs).getD k (1, 0)).2)
  | [], x, d, m, hx, h0, hm, hf => by
    have hx0 := hx x (.head _)
    have hcl := cntS_lo s c d s.logs (m.1 + x.1, m.2 + x.2)
    have key : ∀ t, inS t (cntS s c d s.logs (m.1 + x.1, m.2 + x.2)) ↔ ∃ a ts, inS a m ∧ Path s c a [x] d ts ∧ ts[0]? = some t := by
      intro t
      unfold inS
      by_cases ht : 0 ≤ t ∧ t < far
      · rw [cntS_spec s c hp hc d t ht.1 ht.2 s.logs hl]
        constructor
        · rintro ⟨h1, h2⟩
          dsimp only at h1
          refine ⟨max m.1 (t - x.2), [t], by omega, ⟨by omega, by omega, h2, rfl⟩, rfl⟩
        · rintro ⟨a, ts, h1, h2, h3⟩
          cases ts with
          | nil => cases h3
          | cons t' ts =>
            simp only [List.getElem?_cons_zero, Option.some.injEq] at h3
            subst h3
            obtain ⟨h4, h5, h6, -⟩ := h2
            exact ⟨by dsimp only; omega, h6⟩
      · constructor
        · intro h1
          dsimp only at hcl
          simp only [List.length_nil] at hf
          omega
        · rintro ⟨a, ts, h1, h2, h3⟩
          cases ts with
          | nil => cases h3
          | cons t' ts =>
            simp only [List.getElem?_cons_zero, Option.some.injEq] at h3
            subst h3
            obtain ⟨h4, h5, h6, -⟩ := h2
            simp only [List.length_nil] at hf
            omega
    unfold fwd
    dsimp only
    obtain ⟨m', hm'⟩ : ∃ m', cntS s c d s.logs (m.1 + x.1, m.2 + x.2) = m' := ⟨_, rfl⟩
    rw [hm'] at key ⊢
    have hhead : ∀ a ts, Path s c a [x] d ts → ∃ t, ts[0]? = some t := by
      intro a ts h
      cases ts with
      | nil => exact h.elim
      | cons t ts => exact ⟨t, rfl⟩
    by_cases he : m'.1 ≤ m'.2
    · rw [if_pos he]
      refine ⟨⟨fun _ => ?_, fun _ => rfl⟩, fun _ k n hk => ?_⟩
      · obtain ⟨a, ts, h1, h2, -⟩ := (key m'.1).1 ⟨Int.le_refl _, he⟩
        exact ⟨a, ts, h1, h2⟩
      · have : k = 0 := by simpa using hk
        subst this
        exact ⟨key n, he⟩
    · rw [if_neg he]
      refine ⟨⟨fun h => (by cases h), ?_⟩, fun h => (by cases h)⟩
      rintro ⟨a, ts, h1, h2⟩
      obtain ⟨t, ht⟩ := hhead a ts h2
      have := (key t).2 ⟨a, ts, h1, h2, ht⟩
      unfold inS at this
      omega
  | y :: xs, x, d, m, hx, h0, hm, hf => by
    have hx0 := hx x (.head _)
    have hy0 := hx y (.tail _ (.head _))
    have hcl := cntS_lo s c d s.logs (m.1 + x.1, m.2 + x.2)
    simp only [List.length_cons] at hf
    have key : ∀ t, inS t (cntS s c d s.logs (m.1 + x.1, m.2 + x.2)) ↔ (∃ a, inS a m ∧ x.1 ≤ t - a ∧ t - a ≤ x.2) ∧ ∀ l ∈ s.logs, l.day = d → l.lo ≤ cutS s.spits c 0 t ∧ cutS s.spits c 0 t ≤ l.hi := by
      intro t
      unfold inS
      by_cases ht : 0 ≤ t ∧ t < far
      · rw [cntS_spec s c hp hc d t ht.1 ht.2 s.logs hl]
        dsimp only
        constructor
        · rintro ⟨h1, h2⟩
          exact ⟨⟨max m.1 (t - x.2), by omega, by omega, by omega⟩, h2⟩
        · rintro ⟨⟨a, h1, h2, h3⟩, h4⟩
          exact ⟨by omega, h4⟩
      · dsimp only at hcl
        constructor
        · intro h1
          exfalso; omega
        · rintro ⟨⟨a, h1, h2, h3⟩, h4⟩
          exfalso; omega
    obtain ⟨m', hm'⟩ : ∃ m', cntS s c d s.logs (m.1 + x.1, m.2 + x.2) = m' := ⟨_, rfl⟩
    rw [hm'] at key hcl
    dsimp only at hcl
    unfold fwd
    dsimp only
    rw [hm']
    have path1 : ∀ a ts, Path s c a (x :: y :: xs) d ts ↔ ∃ t us, ts = t :: us ∧ x.1 ≤ t - a ∧ t - a ≤ x.2 ∧ (∀ l ∈ s.logs, l.day = d → l.lo ≤ cutS s.spits c 0 t ∧ cutS s.spits c 0 t ≤ l.hi) ∧ Path s c t (y :: xs) (d + 1) us := by
      intro a ts
      cases ts with
      | nil => exact ⟨fun h => h.elim, fun ⟨_, _, h, _⟩ => by cases h⟩
      | cons t us =>
        constructor
        · intro h; exact ⟨t, us, rfl, h⟩
        · rintro ⟨t', us', h, h'⟩; cases h; exact h'
    have path2 : ∀ (ts : List Int), (∃ a, inS a m ∧ Path s c a (x :: y :: xs) d ts) ↔ ∃ t us, ts = t :: us ∧ inS t m' ∧ Path s c t (y :: xs) (d + 1) us := by
      intro ts
      constructor
      · rintro ⟨a, h1, h2⟩
        obtain ⟨t, us, rfl, h3, h4, h5, h6⟩ := (path1 a ts).1 h2
        exact ⟨t, us, rfl, (key t).2 ⟨⟨a, h1, h3, h4⟩, h5⟩, h6⟩
      · rintro ⟨t, us, rfl, h1, h2⟩
        obtain ⟨⟨a, h3, h4, h5⟩, h6⟩ := (key t).1 h1
        exact ⟨a, h3, (path1 a _).2 ⟨t, us, rfl, h4, h5, h6, h2⟩⟩
    by_cases he : m'.1 ≤ m'.2
    · rw [if_pos he]
      dsimp only
      obtain ⟨ih1, ih2⟩ := chain s c hp hc hl xs y (d + 1) m' (fun z hz => hx z (.tail _ hz)) (by omega) he (by omega)
      constructor
      · rw [ih1]
        constructor
        · rintro ⟨t, us, h1, h2⟩
          obtain ⟨a, h3, h4⟩ := (path2 (t :: us)).2 ⟨t, us, rfl, h1, h2⟩
          exact ⟨a, _, h3, h4⟩
        · rintro ⟨a, ts, h1, h2⟩
          obtain ⟨t, us, rfl, h3, h4⟩ := (path2 ts).1 ⟨a, h1, h2⟩
          exact ⟨t, us, h3, h4⟩
      · intro hcan
        have hlen := fwd_len s c (y :: xs) (d + 1) m' hcan
        have hbl := bwd_len (fwd s c (y :: xs) (d + 1) m').1 xs (by rw [hlen]; rfl)
        have ih2 := ih2 hcan
        obtain ⟨fr, hfr⟩ : ∃ fr, (fwd s c (y :: xs) (d + 1) m').1 = fr := ⟨_, rfl⟩
        rw [hfr] at ih2 hlen hbl ⊢
        obtain ⟨r, rs, hrr⟩ : ∃ r rs, bwd fr xs = r :: rs := by
          cases hb : bwd fr xs with
          | nil => rw [hb, hlen] at hbl; simp at hbl
          | cons r rs => exact ⟨r, rs, rfl⟩
        have hb : bwd (m' :: fr) (y :: xs) = (max m'.1 (r.1 - y.2), min m'.2 (r.2 - y.1)) :: r :: rs := by
          unfold bwd; rw [hrr]
        rw [hb]
        rw [hrr] at ih2
        have i0 := ih2 0
        simp only [List.getD_cons_zero, Nat.zero_le, true_implies] at i0
        have first : ∀ n, inS n (max m'.1 (r.1 - y.2), min m'.2 (r.2 - y.1)) ↔ inS n m' ∧ ∃ us, Path s c n (y :: xs) (d + 1) us := by
          intro n
          constructor
          · intro h
            unfold inS at h
            dsimp only at h
            refine ⟨⟨by omega, by omega⟩, ?_⟩
            have hrne := (i0 n).2
            have ht : inS (max r.1 (n + y.1)) r := ⟨by omega, by omega⟩
            obtain ⟨a, ts, h1, h2, h3⟩ := (i0 _).1.1 ht
            cases ts with
            | nil => cases h3
            | cons t us =>
              simp only [List.getElem?_cons_zero, Option.some.injEq] at h3
              obtain ⟨-, -, h6, h7⟩ := h2
              exact ⟨t :: us, by omega, by omega, h6, h7⟩
          · rintro ⟨h1, us, h2⟩
            cases us with
            | nil => exact h2.elim
            | cons t us =>
              have h3 : inS t r := (i0 t).1.2 ⟨n, t :: us, h1, h2, rfl⟩
              obtain ⟨h4, h5, -, -⟩ := h2
              unfold inS at h1 h3 ⊢
              dsimp only
              omega
        intro k n hk
        cases k with
        | zero =>
          simp only [List.getD_cons_zero]
          constructor
          · rw [first]
            constructor
            · rintro ⟨h1, us, h2⟩
              obtain ⟨a, h3, h4⟩ := (path2 (n :: us)).2 ⟨n, us, rfl, h1, h2⟩
              exact ⟨a, n :: us, h3, h4, rfl⟩
            · rintro ⟨a, ts, h1, h2, h3⟩
              obtain ⟨t, us, rfl, h4, h5⟩ := (path2 ts).1 ⟨a, h1, h2⟩
              simp only [List.getElem?_cons_zero, Option.some.injEq] at h3
              subst h3
              exact ⟨h4, us, h5⟩
          · obtain ⟨a, ts, h1, h2⟩ := ih1.1 hcan
            have := (first a).2 ⟨h1, ts, h2⟩
            unfold inS at this
            omega
        | succ k =>
          simp only [List.getD_cons_succ]
          obtain ⟨h1, h2⟩ := ih2 k n (by simpa using hk)
          refine ⟨?_, h2⟩
          rw [h1]
          constructor
          · rintro ⟨t, us, h3, h4, h5⟩
            obtain ⟨a, h6, h7⟩ := (path2 (t :: us)).2 ⟨t, us, rfl, h3, h4⟩
            exact ⟨a, _, h6, h7, by simpa using h5⟩
          · rintro ⟨a, ts, h3, h4, h5⟩
            obtain ⟨t, us, rfl, h6, h7⟩ := (path2 ts).1 ⟨a, h3, h4⟩
            exact ⟨t, us, h6, h7, by simpa using h5⟩
    · rw [if_neg he]
      dsimp only
      refine ⟨⟨fun h => (by cases h), ?_⟩, fun h => (by cases h)⟩
      rintro ⟨a, ts, h1, h2⟩
      obtain ⟨t, us, rfl, h3, h4⟩ := (path2 ts).1 ⟨a, h1, h2⟩
      unfold inS at h3
      omega
end Go.Proofs.Ytkaadefndcbdnaa
end

section
namespace Go.Proofs.Ytkaadefndcbdnaa
open Go.RowKit
def vals (s : Sp) : List Int := (List.range (s.2 - s.1 + 1).toNat).map fun c : Nat => s.1 + (c : Int)
theorem vals_length (s : Sp) : (vals s).length = (s.2 - s.1 + 1).toNat := by simp [vals]
theorem vals_get (s : Sp) (c : Nat) (h : c < (vals s).length) : (vals s)[c] = s.1 + (c : Int) := by simp [vals]
theorem vals_mem {s : Sp} {v : Int} (h : v ∈ vals s) : s.1 ≤ v ∧ v ≤ s.2 := by
  simp only [vals, List.mem_map, List.mem_range] at h
  obtain ⟨c, hc, rfl⟩ := h
  omega
theorem vals_iff {s : Sp} {v : Int} : v ∈ vals s ↔ s.1 ≤ v ∧ v ≤ s.2 := by
  constructor
  · exact vals_mem
  · intro hv
    simp only [vals, List.mem_map, List.mem_range]
    exact ⟨(v - s.1).toNat, by omega, by omega⟩
/-- All lists with a number of each span. -/
def allR : List Sp → List (List Int)
  | [] => [[]]
  | s :: l => (vals s).flatMap fun v => (allR l).map (v :: ·)
theorem allR_len : ∀ (l : List Sp), ∀ r ∈ allR l, r.length = l.length
  | [], r, h => by simp [allR] at h; simp [h]
  | s :: l, r, h => by
    simp only [allR, List.mem_flatMap, List.mem_map] at h
    obtain ⟨v, _, q, hq, rfl⟩ := h
    simp [allR_len l q hq]
def costR (p : Spt) : Sp := (p.lo, p.hi)
/-- All costs, each one with zeros behind. -/
def rowsC (s : Sd) : List (List Int) := (allR (s.spits.map costR)).map fun r => r ++ List.replicate (3 - r.length) 0
theorem allR_cin : ∀ {ps : List Spt} {r z : List Int}, r ∈ allR (ps.map costR) → CIn ps (r ++ z)
  | [], _, _, _ => .nil
  | p :: ps, r, z, h => by
    simp only [List.map_cons, allR, List.mem_flatMap, List.mem_map] at h
    obtain ⟨v, hv, q, hq, rfl⟩ := h
    exact .cons (vals_mem hv) (allR_cin hq)
theorem cin_allR : ∀ {ps : List Spt} {r : List Int}, CIn ps r → r.length = ps.length → r ∈ allR (ps.map costR)
  | [], r, _, hl => by simp at hl; subst hl; simp [allR]
  | p :: ps, [], h, _ => by cases h
  | p :: ps, c :: r, h, hl => by
    cases h with | cons h t =>
    simp only [List.map_cons, allR, List.mem_flatMap, List.mem_map]
    exact ⟨c, vals_iff.2 h, r, cin_allR t (by simpa using hl), rfl⟩
theorem rowsC_cin {s : Sd} {c : List Int} (h : c ∈ rowsC s) : CIn s.spits c := by
  simp only [rowsC, List.mem_map] at h
  obtain ⟨r, hr, rfl⟩ := h
  exact allR_cin hr
theorem rowsC_len {s : Sd} (v : VS s) {c : List Int} (h : c ∈ rowsC s) : c.length = 3 := by
  simp only [rowsC, List.mem_map] at h
  obtain ⟨r, hr, rfl⟩ := h
  have := allR_len _ r hr
  have := v.np
  simp at *
  omega
/-- Costs with zeros behind. -/
def pad3 (r : List Int) : List Int := r ++ List.replicate (3 - r.length) 0
theorem rowsC_iff {s : Sd} {c : List Int} : c ∈ rowsC s ↔ ∃ r, r.length = s.spits.length ∧ CIn s.spits r ∧ c = pad3 r := by
  unfold rowsC
  rw [List.mem_map]
  constructor
  · rintro ⟨r, hr, rfl⟩
    have := allR_cin (z := []) hr
    rw [List.append_nil] at this
    exact ⟨r, by simpa using allR_len _ r hr, this, rfl⟩
  · rintro ⟨r, h1, h2, rfl⟩
    exact ⟨r, cin_allR h2 h1, rfl⟩
/-- Those with which there is a truth. -/
def toldC (s : Sd) : List (List Int) := (rowsC s).filter (canS s)
def jn (l : List Sp) : Sp := match l with
  | [] => (0, 0)
  | x :: l => l.foldl (fun s x => (min s.1 x.1, max s.2 x.2)) x
theorem jn_snoc (l : List Sp) (k : Nat) (h : k < l.length) : jn (l.take (k+1)) = if k = 0 then l[k] else (min (jn (l.take k)).1 l[k].1, max (jn (l.take k)).2 l[k].2) := by
  rw [List.take_succ_eq_append_getElem h]
  cases l with
  | nil => simp at h
  | cons x l =>
    cases k with
    | zero => simp [jn]
    | succ k =>
      simp only [List.take_succ_cons, List.cons_append, jn, List.foldl_append]; simp
/-- What there can have been by day d. -/
def dayS (s : Sd) (c : List Int) (d : Nat) : Sp := (daysS s c).getD d (0, 0)
def cutR (s : Sd) (d : Nat) (c : List Int) : Sp := (cutS s.spits c 0 (dayS s c d).1, cutS s.spits c 0 (dayS s c d).2)
def costP (p : Nat) (c : List Int) : Sp := (c.getD p 0, c.getD p 0)
/-- How many strokes the first k spits take. -/
def wholeS (s : Sd) (c : List Int) (k : Nat) : Int := strk s.spits c 0 ((s.spits.take k).map (·.sods)).sum
def needR (s : Sd) (d : Nat) (c : List Int) : Sp := (max 0 (wholeS s c s.spits.length - (dayS s c d).2), max 0 (wholeS s c s.spits.length - (dayS s c d).1))
/-- The first of some numbers that is no less; their number, if there is none. -/
def firstG (w : Int) : List Int → Nat
  | [] => 0
  | x :: l => if w ≤ x then 0 else firstG w l + 1
def doneR (s : Sd) (c : List Int) : Sp := (firstG (wholeS s c s.spits.length) ((daysS s c).map (·.2)), firstG (wholeS s c s.spits.length) ((daysS s c).map (·.1)))
def cutV (s : Sd) (d : Nat) : Sp := jn ((toldC s).map (cutR s d))
def costV (s : Sd) (p : Nat) : Sp := jn ((toldC s).map (costP p))
def needV (s : Sd) (d : Nat) : Sp := jn ((toldC s).map (needR s d))
def doneV (s : Sd) : Sp := jn ((toldC s).map (doneR s))
def sureB (s : Sd) (d p : Nat) : Bool := (toldC s).all fun c => decide (wholeS s c (p + 1) ≤ (dayS s c d).1)
def canB (s : Sd) (d p : Nat) : Bool := (toldC s).any fun c => decide (wholeS s c (p + 1) ≤ (dayS s c d).2)
/-- A set of numbers. -/
def bitsOf (f : Nat → Bool) : Nat → Nat
  | 0 => 0
  | n + 1 => bitsOf f n + (if f n then 2 ^ n else 0)
def sureV (s : Sd) (d : Nat) : Nat := bitsOf (sureB s d) s.spits.length
def canV (s : Sd) (d : Nat) : Nat := bitsOf (canB s d) s.spits.length
def fitsV (s : Sd) (d : Nat) (x : Sp) : Int :=
  if (toldC s).all fun c => decide (x.1 ≤ (cutR s d c).1 ∧ (cutR s d c).2 ≤ x.2) then 2
  else if (toldC s).any fun c => decide ((cutR s d c).1 ≤ x.2 ∧ x.1 ≤ (cutR s d c).2) then 1 else 0
/-- The counts of a set. -/
def pickL {α : Type} (set : Nat) : List α → Nat → List α
  | [], _ => []
  | l :: ls, k => if set / 2 ^ k % 2 = 1 then l :: pickL set ls (k + 1) else pickL set ls (k + 1)
def only (s : Sd) (set : Nat) : Sd := { s with logs := pickL set s.logs 0 }
end Go.Proofs.Ytkaadefndcbdnaa
end
