/- Layer sod in plain terms: a bank whose counts are right in a truth. · The document's answer for banks in plain terms: lists of all numbers are spans. · Small rules; what is cut behind some spits. · Lists that were laid anew, read: of numbers, of lists. · The document's answer for banks: all costs. · The document's answer for banks: sets, sods, counts of a day. · The document's answer for banks: what there can have been by a day; back from the next one. · The document's answer for banks: what there can have been by each day, of costs. -/
import Derived.Test.YtkaadefndcbdnaaQj
import Derived.Test.YtkaadefndcbdnaaMp
import Derived.Test.YtkaadefndcbdnaaB3
import Derived.Test.YtkaadefndcbdnaaQg
section
namespace Go.Proofs.Ytkaadefndcbdnaa
open Go.RowKit
theorem cutS_app : ∀ {ps : List Spt} {cs : List Int} (z : List Int) (n t : Int), CIn ps cs → cutS ps (cs ++ z) n t = cutS ps cs n t
  | [], cs, z, n, t, _ => by simp [cutS]
  | p :: ps, _, z, n, t, .cons (c := c) (cs := cs) h k => by
    rw [List.cons_append]
    unfold cutS
    rw [cutS_app z _ _ k]
theorem strk_app : ∀ {ps : List Spt} {cs : List Int} (z : List Int) (n k : Int), CIn ps cs → strk ps (cs ++ z) n k = strk ps cs n k
  | [], cs, z, n, k, _ => by simp [strk]
  | p :: ps, _, z, n, k, .cons (c := c) (cs := cs) h q => by
    rw [List.cons_append]
    unfold strk
    rw [strk_app z _ _ q]
/-- All strokes. -/
def totC : List Spt → List Int → Int
  | p :: ps, c :: cs => p.sods * c + totC ps cs
  | _, _ => 0
theorem strk_all : ∀ {ps : List Spt} {cs : List Int} (n : Int), SpOk ps → CIn ps cs → strk ps cs n ((ps.map (·.sods)).sum) = n + totC ps cs
  | [], cs, n, _, _ => by simp [strk, totC]
  | p :: ps, _, n, hp, .cons (c := c) (cs := cs) h q => by
    have h1 := sum_nonneg ps (fun x hx => (hp x (.tail _ hx)).1.1)
    rw [List.map_cons, List.sum_cons]
    unfold strk totC
    have e1 : min (p.sods + (ps.map (·.sods)).sum) p.sods = p.sods := by omega
    rw [e1, show p.sods + (ps.map (·.sods)).sum - p.sods = (ps.map (·.sods)).sum by omega, strk_all _ hp.tail q]
    omega
theorem totC_snoc : ∀ (ps : List Spt) (cs : List Int) (i : Nat) (hp : i < ps.length) (hc : i < cs.length), totC (ps.take (i + 1)) (cs.take (i + 1)) = totC (ps.take i) (cs.take i) + ps[i].sods * cs[i]
  | [], _, i, hp, _ => absurd hp (Nat.not_lt_zero _)
  | _ :: _, [], i, _, hc => absurd hc (Nat.not_lt_zero _)
  | p :: ps, c :: cs, 0, _, _ => by simp [totC]
  | p :: ps, c :: cs, i + 1, hp, hc => by
    have := totC_snoc ps cs i (by simpa using hp) (by simpa using hc)
    simp only [List.take_succ_cons, totC, List.getElem_cons_succ, this]
    omega
theorem totC_bd : ∀ {ps : List Spt} {cs : List Int}, SpOk ps → CIn ps cs → 0 ≤ totC ps cs ∧ totC ps cs ≤ 180 * ps.length
  | [], cs, _, _ => by simp [totC]
  | p :: ps, _, hp, .cons (c := c) (cs := cs) h q => by
    have := totC_bd hp.tail q
    have h1 := hp p (.head _)
    have h2 : p.sods * c ≤ 30 * 6 := Int.mul_le_mul (by omega) (by omega) (by omega) (by omega)
    have h3 : 0 ≤ p.sods * c := Int.mul_nonneg (by omega) (by omega)
    simp only [totC, List.length_cons]
    omega
/-- A count as wide as it was, and right. -/
def rightL (sp : List Spt) (cs ts : List Int) (l : Lg) : Lg :=
  ⟨l.day, max 0 (cutS sp cs 0 (ts.getD l.day.toNat 0) - min 20 (l.hi - l.lo) / 2), cutS sp cs 0 (ts.getD l.day.toNat 0) + min 20 (l.hi - l.lo) - min 20 (l.hi - l.lo) / 2⟩
def rightS (s : Sd) (cs ts : List Int) : Sd := { s with logs := s.logs.map (rightL s.spits cs ts) }
theorem steps_len : ∀ {xs : List Sp} {a : Int} {ts : List Int}, Steps a xs ts → ts.length = xs.length
  | [], _, ts, h => by rw [show ts = [] from h]; rfl
  | x :: xs, a, [], h => h.elim
  | x :: xs, a, t :: ts, h => by have := steps_len h.2.2; simp [this]
theorem steps_bd : ∀ {xs : List Sp} {a : Int} {ts : List Int}, (∀ x ∈ xs, 0 ≤ x.1 ∧ x.1 ≤ x.2 ∧ x.2 ≤ 100) → Steps a xs ts → ∀ t ∈ ts, a ≤ t ∧ t ≤ a + 100 * xs.length
  | [], _, ts, _, h, t, ht => by rw [show ts = [] from h] at ht; cases ht
  | x :: xs, a, [], _, h, t, ht => h.elim
  | x :: xs, a, u :: ts, hx, h, t, ht => by
    have h1 := hx x (.head _)
    obtain ⟨h2, h3, h4⟩ := h
    have h5 := steps_bd (fun y hy => hx y (.tail _ hy)) h4
    simp only [List.length_cons]
    rcases List.mem_cons.1 ht with rfl | ht
    · omega
    · have := h5 t ht
      omega
theorem sum_take_all {s : Sd} : ((s.spits.take s.spits.length).map (·.sods)).sum = (s.spits.map (·.sods)).sum := by rw [List.take_length]
section
variable {s : Sd} (v : VS s) {cs ts : List Int} (hc : CIn s.spits cs) (hl : cs.length = s.spits.length) (hs : Steps 0 s.days ts)
include v hc hs
theorem true_bd {d : Nat} {t : Int} (ht : ts[d]? = some t) : (0 ≤ t ∧ t ≤ 600) ∧ 0 ≤ cutS s.spits cs 0 t ∧ cutS s.spits cs 0 t ≤ 90 := by
  have h1 := steps_bd v.dy hs t (List.mem_of_getElem? ht)
  have h2 := v.nd
  have h3 := v.np
  have h4 := cutS_le s.spits cs t v.spOk hc (by omega)
  have h5 := sum_le s.spits fun p hp => (v.sp p hp).1.2
  exact ⟨by omega, cutS_nonneg s.spits cs t v.spOk hc (by omega), by omega⟩
theorem VS_right : VS (rightS s cs ts) := by
  refine ⟨v.np, v.nd, by show (s.logs.map _).length ≤ 4; rw [List.length_map]; exact v.nl, v.sp, v.dy, fun l h => ?_⟩
  obtain ⟨q, hq, rfl⟩ := List.mem_map.1 h
  obtain ⟨⟨h1, h2⟩, h3, h4, h5⟩ := v.lg q hq
  obtain ⟨d, hd⟩ : ∃ d : Nat, q.day = (d : Int) := ⟨q.day.toNat, by omega⟩
  have hdl : d < ts.length := by rw [steps_len hs]; omega
  have ht : ts[d]? = some ts[d] := List.getElem?_eq_getElem hdl
  obtain ⟨_, b1, b2⟩ := true_bd v hc hs ht
  unfold rightL
  rw [hd, Int.toNat_natCast, List.getD_eq_getElem?_getD, ht, Option.getD_some]
  dsimp only
  show (0 ≤ (d : Int) ∧ (d : Int) < s.days.length) ∧ _
  omega
include hl
omit v hs in
theorem rows_true : pad3 cs ∈ rowsC s := rowsC_iff.2 ⟨cs, hl, hc, rfl⟩
theorem tru_right : Tru (rightS s cs ts) (pad3 cs) ts := by
  refine tru_iff.2 ⟨rows_true hc hl, hs, fun l h => ?_⟩
  obtain ⟨q, hq, rfl⟩ := List.mem_map.1 h
  obtain ⟨⟨h1, h2⟩, h3, h4, h5⟩ := v.lg q hq
  intro k t hk ht
  have e : q.day = (k : Int) := hk
  obtain ⟨_, b1, b2⟩ := true_bd v hc hs ht
  show (rightL s.spits cs ts q).lo ≤ cutS s.spits (pad3 cs) 0 t ∧ cutS s.spits (pad3 cs) 0 t ≤ (rightL s.spits cs ts q).hi
  unfold pad3 rightL
  rw [cutS_app _ _ _ hc, e, Int.toNat_natCast, List.getD_eq_getElem?_getD, ht, Option.getD_some]
  dsimp only
  omega
omit hl hs in
theorem whole_true : wholeS (rightS s cs ts) (pad3 cs) s.spits.length = totC s.spits cs := by
  show strk s.spits (pad3 cs) 0 ((s.spits.take s.spits.length).map (·.sods)).sum = _
  rw [List.take_length]
  unfold pad3
  rw [strk_app _ _ _ hc, strk_all _ v.spOk hc, Int.zero_add]
theorem true_told : toldC (rightS s cs ts) ≠ [] := (told_ne (VS_right v hc hs)).2 ⟨_, _, tru_right v hc hl hs⟩
/-- What is returned of such a bank, by a day. -/
theorem true_day {d : Nat} {t : Int} (ht : ts[d]? = some t) {k : Nat} (hk : k ≤ s.spits.length) (hkp : ∀ p, p < s.spits.length → (sumT s (p + 1) ≤ cutS s.spits cs 0 t ↔ p < k)) :
    ((cutV (rightS s cs ts) d).1 ≤ cutS s.spits cs 0 t ∧ cutS s.spits cs 0 t ≤ (cutV (rightS s cs ts) d).2) ∧
    ((needV (rightS s cs ts) d).1 ≤ max 0 (totC s.spits cs - t) ∧ max 0 (totC s.spits cs - t) ≤ (needV (rightS s cs ts) d).2) ∧
    (∃ i j, i ≤ k ∧ k ≤ j ∧ j ≤ s.spits.length ∧ sureV (rightS s cs ts) d = 2 ^ i - 1 ∧ canV (rightS s cs ts) d = 2 ^ j - 1) ∧
    fitsV (rightS s cs ts) d (cutS s.spits cs 0 t, cutS s.spits cs 0 t) ≠ 0 ∧ (k = s.spits.length ↔ totC s.spits cs ≤ t) := by
  have vx := VS_right v hc hs
  have h0 := true_told v hc hl hs
  have hT := tru_right v hc hl hs
  have hd : d < (rightS s cs ts).days.length := by
    have := (List.getElem?_eq_some_iff.1 ht).1
    rw [steps_len hs] at this; exact this
  have ec : cutS (rightS s cs ts).spits (pad3 cs) 0 t = cutS s.spits cs 0 t := cutS_app _ _ _ hc
  have hcut := (cut_hull vx h0 hd).2.2 _ ⟨_, _, _, hT, ht, ec.symm⟩
  have hneed := (need_hull vx h0 hd).2.2 _ ⟨_, _, _, hT, ht, rfl⟩
  have ew := whole_true (ts := ts) v hc
  have hbd := true_bd v hc hs ht
  have hwc := whole_cut vx (hT.1) s.spits.length hbd.1.1 hbd.1.2
  have hcut2 := hcut
  rw [show (rightS s cs ts).spits.length = s.spits.length from rfl, ew] at hneed
  rw [ew, ec] at hwc
  have hwc : totC s.spits cs ≤ t ↔ sumT s s.spits.length ≤ cutS s.spits cs 0 t := hwc
  obtain ⟨i, hi1, hi2, hi3⟩ := sure_num vx h0 hd
  obtain ⟨j, hj1, hj2, hj3⟩ := can_num vx h0 hd
  have hnp := v.np
  refine ⟨hcut, hneed, ⟨i, j, ?_, ?_, hj1, hi2, hj2⟩, ?_, ?_⟩
  · apply Classical.byContradiction
    intro hlt
    have h1 := (hi3 k (by show k < s.spits.length; have : i ≤ s.spits.length := hi1; omega)).2 (by omega)
    have h2 := (hkp k (by have : i ≤ s.spits.length := hi1; omega)).1 (by have : sumT s (k + 1) ≤ _ := h1; omega)
    omega
  · apply Classical.byContradiction
    intro hlt
    have h2 := (hkp j (by omega)).2 (by omega)
    have h1 := (hj3 j (by show j < s.spits.length; omega)).1 (by show sumT s (j + 1) ≤ _; omega)
    omega
  · rcases fits_iff vx h0 hd (cutS s.spits cs 0 t, cutS s.spits cs 0 t) (Int.le_refl _) with ⟨h, _⟩ | ⟨h, _⟩ | ⟨_, _, h⟩
    · omega
    · omega
    · exact absurd ⟨_, _, _, hT, ht, by rw [ec]; exact ⟨Int.le_refl _, Int.le_refl _⟩⟩ h
  · rw [hwc]
    have := hkp (s.spits.length - 1) (by omega)
    rw [show s.spits.length - 1 + 1 = s.spits.length by omega] at this
    rw [this]
    omega
theorem true_cost {p : Nat} {c : Int} (h : cs[p]? = some c) : (costV (rightS s cs ts) p).1 ≤ c ∧ c ≤ (costV (rightS s cs ts) p).2 := by
  refine (cost_hull (VS_right v hc hs) (true_told v hc hl hs) p).2.2 _ ⟨_, _, tru_right v hc hl hs, ?_⟩
  have h1 := (List.getElem?_eq_some_iff.1 h).1
  unfold pad3
  rw [List.getD_eq_getElem?_getD, List.getElem?_append_left h1, h]
  rfl
theorem true_done {k : Nat} (hk : k ≤ s.days.length) (h1 : ∀ (j : Nat) (t : Int), j < k → ts[j]? = some t → t < totC s.spits cs) (h2 : ∀ t, ts[k]? = some t → totC s.spits cs ≤ t) : (doneV (rightS s cs ts)).1 ≤ (k : Int) ∧ (k : Int) ≤ (doneV (rightS s cs ts)).2 := by
  refine (done_hull (VS_right v hc hs) (true_told v hc hl hs)).2.2 _ ⟨_, _, tru_right v hc hl hs, ?_⟩
  unfold finS
  rw [show (rightS s cs ts).spits.length = s.spits.length from rfl, whole_true v hc]
  rw [firstG_eq (by rw [steps_len hs]; exact hk) h1 h2]
end
end Go.Proofs.Ytkaadefndcbdnaa
end

section
namespace Go.Proofs.Ytkaadefndcbdnaa
open Go.RowKit
theorem vals_nil {m : Sp} (h : m.2 < m.1) : vals m = [] := by
  apply List.eq_nil_of_length_eq_zero
  rw [vals_length]; omega
theorem vals_cons {m : Sp} (h : m.1 ≤ m.2) : vals m = m.1 :: vals (m.1 + 1, m.2) := by
  apply List.ext_getElem
  · rw [List.length_cons, vals_length, vals_length]; dsimp only; omega
  · intro i h1 h2
    rw [vals_get]
    cases i with
    | zero => simp
    | succ i => rw [List.getElem_cons_succ, vals_get]; dsimp only; omega
theorem vals_filter {p : Int → Bool} : ∀ (n : Nat) (m m' : Sp), (m.2 - m.1 + 1).toNat = n → m.1 ≤ m'.1 → m'.2 ≤ m.2 → (∀ t, m.1 ≤ t → t ≤ m.2 → (p t = true ↔ m'.1 ≤ t ∧ t ≤ m'.2)) → (vals m).filter p = vals m'
  | 0, m, m', hn, h1, h2, _ => by
    rw [vals_nil (show m.2 < m.1 by omega), vals_nil (show m'.2 < m'.1 by omega)]; rfl
  | n + 1, m, m', hn, h1, h2, h => by
    have hle : m.1 ≤ m.2 := by omega
    have ih := vals_filter n (m.1 + 1, m.2) (max m'.1 (m.1 + 1), m'.2) (by dsimp only; omega) (by dsimp only; omega) h2 (fun t h3 h4 => by
      dsimp only at h3 h4 ⊢
      rw [h t (by omega) h4]
      omega)
    have h0 := h m.1 (Int.le_refl _) hle
    rw [vals_cons hle]
    by_cases hp : p m.1 = true
    · obtain ⟨h5, h6⟩ := h0.1 hp
      rw [List.filter_cons_of_pos hp, ih, show max m'.1 (m.1 + 1) = m.1 + 1 by omega, vals_cons (m := m') (by omega), show m'.1 = m.1 by omega]
    · rw [List.filter_cons_of_neg hp, ih]
      by_cases hm : m'.1 = m.1
      · have : m'.2 < m.1 := by
          apply Classical.byContradiction
          intro h7
          exact hp (h0.2 ⟨by omega, by omega⟩)
        rw [vals_nil (m := m') (by omega), vals_nil (by dsimp only; omega)]
      · rw [show max m'.1 (m.1 + 1) = m'.1 by omega]
/-- Do the counts of a set leave so many strokes by a day? -/
def fitB (s : Sd) (cs : List Int) (set : Nat) (d : Nat) (n : Int) : Bool := (pickL set s.logs 0).all fun l => !decide (l.day = (d : Int)) || decide (l.lo ≤ cutS s.spits cs 0 n ∧ cutS s.spits cs 0 n ≤ l.hi)
/-- From which of some a next one comes. -/
def comeB (x : Sp) (nx : List Int) (a : Int) : Bool := nx.any fun b => decide (x.1 ≤ b - a ∧ b - a ≤ x.2)
def totL (s : Sd) (cs : List Int) (set d : Nat) (m x : Sp) : List Int := (vals (m.1 + x.1, m.2 + x.2)).filter (fitB s cs set d)
def backL (x : Sp) (l nx : List Int) : List Int := l.filter (comeB x nx)
def stp (s : Sd) (c : List Int) (d : Nat) (m x : Sp) : Sp := cntS s c d s.logs (m.1 + x.1, m.2 + x.2)
theorem totL_eq {s : Sd} {cs : List Int} {set d : Nat} {m x : Sp} (v : VS (only s set)) (hc : CIn s.spits cs) (h0 : 0 ≤ m.1 + x.1) (hf : m.2 + x.2 < far) : totL s cs set d m x = vals (stp (only s set) cs d m x) := by
  obtain ⟨h1, h2⟩ := cntS_lo (only s set) cs d (only s set).logs (m.1 + x.1, m.2 + x.2)
  refine vals_filter _ _ _ rfl h1 h2 (fun t ht1 ht2 => ?_)
  dsimp only at ht1 ht2
  have := cntS_spec (only s set) cs v.spOk hc d t (by omega) (by omega) (only s set).logs (fun l hl => (v.lg l hl).2.imp_right And.left) (m.1 + x.1, m.2 + x.2)
  unfold stp
  rw [this]
  unfold fitB
  rw [List.all_eq_true]
  constructor
  · intro h
    refine ⟨⟨ht1, ht2⟩, fun l hl hd => ?_⟩
    have := h l hl
    simp only [Bool.or_eq_true, Bool.not_eq_true', decide_eq_false_iff_not, decide_eq_true_eq] at this
    exact this.resolve_left (fun h => h hd)
  · rintro ⟨_, h⟩ l hl
    by_cases hd : l.day = (d : Int)
    · have := h l hl hd
      simp only [Bool.or_eq_true, Bool.not_eq_true', decide_eq_false_iff_not, decide_eq_true_eq]
      exact .inr this
    · simp [hd]
theorem backL_eq {x a b : Sp} (hb : b.1 ≤ b.2) (hx : x.1 ≤ x.2) : backL x (vals a) (vals b) = vals (max a.1 (b.1 - x.2), min a.2 (b.2 - x.1)) := by
  refine vals_filter _ _ _ rfl (by dsimp only; omega) (by dsimp only; omega) (fun t h1 h2 => ?_)
  unfold comeB
  rw [List.any_eq_true]
  constructor
  · rintro ⟨u, hu, h⟩
    have := vals_iff.1 hu
    simp only [decide_eq_true_eq] at h
    dsimp only
    omega
  · rintro ⟨h3, h4⟩
    dsimp only at h3 h4
    refine ⟨max b.1 (t + x.1), vals_iff.2 (by omega), ?_⟩
    simp only [decide_eq_true_eq]
    omega
/-! ## Costs without what is behind them -/
theorem cntS_app {s : Sd} {c : List Int} (z : List Int) (h : CIn s.spits c) (d : Int) : ∀ (ls : List Lg) (m : Sp), cntS s (c ++ z) d ls m = cntS s c d ls m
  | [], m => rfl
  | l :: ls, m => by
    unfold cntS
    rw [strk_app _ _ _ h, strk_app _ _ _ h, cntS_app z h d ls]
theorem fwd_app {s : Sd} {c : List Int} (z : List Int) (h : CIn s.spits c) : ∀ (xs : List Sp) (d : Nat) (m : Sp), fwd s (c ++ z) xs d m = fwd s c xs d m
  | [], d, m => rfl
  | x :: xs, d, m => by
    unfold fwd
    simp only [cntS_app z h, fwd_app z h xs]
theorem canS_pad {s : Sd} {c : List Int} (h : CIn s.spits c) : canS s (pad3 c) = canS s c := by
  unfold canS pad3; rw [fwd_app _ h]
theorem daysS_pad {s : Sd} {c : List Int} (h : CIn s.spits c) : daysS s (pad3 c) = daysS s c := by
  unfold daysS
  rw [canS_pad h]
  unfold pad3
  rw [fwd_app _ h]
/-! ## Day by day -/
def mAt (s : Sd) (c : List Int) : Nat → Sp
  | 0 => (0, 0)
  | d + 1 => stp s c d (mAt s c d) (s.days.getD d (0, 0))
theorem fwd_at {s : Sd} {c : List Int} : ∀ (xs : List Sp) (d : Nat), s.days.drop d = xs → ((fwd s c xs d (mAt s c d)).2 = true ↔ ∀ j, d ≤ j → j < s.days.length → (mAt s c (j + 1)).1 ≤ (mAt s c (j + 1)).2) ∧ ((fwd s c xs d (mAt s c d)).2 = true → (fwd s c xs d (mAt s c d)).1 = (List.range xs.length).map fun j => mAt s c (d + j + 1))
  | [], d, h => by
    have hl : s.days.length ≤ d := by
      have := congrArg List.length h
      rw [List.length_drop] at this
      simp at this; omega
    exact ⟨⟨fun _ j h1 h2 => by omega, fun _ => rfl⟩, fun _ => rfl⟩
  | x :: xs, d, h => by
    have hl : d < s.days.length := by
      have := congrArg List.length h
      rw [List.length_drop] at this
      simp at this; omega
    have hx : s.days.getD d (0, 0) = x := by
      have h1 : (s.days.drop d)[0]? = some x := by rw [h]; rfl
      rw [List.getElem?_drop, Nat.add_zero] at h1
      rw [List.getD_eq_getElem?_getD, h1]; rfl
    have hxs : s.days.drop (d + 1) = xs := by rw [← List.drop_drop, h]; rfl
    have hm : mAt s c (d + 1) = cntS s c d s.logs ((mAt s c d).1 + x.1, (mAt s c d).2 + x.2) := by
      show stp s c d (mAt s c d) (s.days.getD d (0, 0)) = _
      rw [hx]; rfl
    obtain ⟨i1, i2⟩ := fwd_at (s := s) (c := c) xs (d + 1) hxs
    unfold fwd
    simp only
    rw [← hm]
    by_cases hne : (mAt s c (d + 1)).1 ≤ (mAt s c (d + 1)).2
    · rw [if_pos hne]
      refine ⟨?_, fun h2 => ?_⟩
      · show (fwd s c xs (d + 1) (mAt s c (d + 1))).2 = true ↔ _
        rw [i1]
        constructor
        · intro h3 j h4 h5
          by_cases hjd : j = d
          · rw [hjd]; exact hne
          · exact h3 j (by omega) h5
        · exact fun h3 j h4 h5 => h3 j (by omega) h5
      · have h2 : (fwd s c xs (d + 1) (mAt s c (d + 1))).2 = true := h2
        show mAt s c (d + 1) :: (fwd s c xs (d + 1) (mAt s c (d + 1))).1 = _
        rw [i2 h2, List.length_cons, List.range_succ_eq_map, List.map_cons, List.map_map]
        congr 1
        apply List.map_congr_left
        intro j _
        simp only [Function.comp_apply, Nat.succ_eq_add_one]
        congr 1
        omega
    · rw [if_neg hne]
      refine ⟨⟨fun h => (by cases h), fun h => absurd (h d (Nat.le_refl _) hl) hne⟩, fun h => (by cases h)⟩
theorem can_at {s : Sd} {c : List Int} : canS s c = true ↔ ∀ j, j < s.days.length → (mAt s c (j + 1)).1 ≤ (mAt s c (j + 1)).2 := by
  have := (fwd_at (s := s) (c := c) s.days 0 rfl).1
  unfold canS
  rw [show ((0, 0) : Sp) = mAt s c 0 from rfl, this]
  exact ⟨fun h j hj => h j (Nat.zero_le _) hj, fun h j _ hj => h j hj⟩
theorem fwd_all {s : Sd} {c : List Int} (h : canS s c = true) : (fwd s c s.days 0 (0, 0)).1 = (List.range s.days.length).map fun j => mAt s c (j + 1) := by
  have := (fwd_at (s := s) (c := c) s.days 0 rfl).2 h
  rw [show mAt s c 0 = ((0, 0) : Sp) from rfl] at this
  simpa using this
theorem mAt_bd {s : Sd} (v : VS s) {c : List Int} : ∀ (d : Nat), d ≤ s.days.length → 0 ≤ (mAt s c d).1 ∧ (mAt s c d).2 ≤ 100 * d
  | 0, _ => by simp [mAt]
  | d + 1, h => by
    have ih := mAt_bd v (c := c) d (by omega)
    have hx : s.days.getD d (0, 0) = s.days[d] := by rw [List.getD_eq_getElem?_getD, List.getElem?_eq_getElem (by omega)]; rfl
    have hb := v.dy _ (List.getElem_mem (show d < s.days.length by omega))
    have := cntS_lo s c d s.logs ((mAt s c d).1 + (s.days[d]).1, (mAt s c d).2 + (s.days[d]).2)
    have e : mAt s c (d + 1) = cntS s c d s.logs ((mAt s c d).1 + (s.days[d]).1, (mAt s c d).2 + (s.days[d]).2) := by
      show stp s c d (mAt s c d) (s.days.getD d (0, 0)) = _
      rw [hx]; rfl
    rw [e]
    dsimp only at this
    omega
end Go.Proofs.Ytkaadefndcbdnaa
end

section
namespace Go.Proofs.Ytkaadefndcbdnaa
open Go.RowKit
theorem Val_quoI {P : Program} {N : Nat} {w0 : World} {L : Hp} {e : Env} {d : Option Nat} {ty : TypeId} {pos : String} {af : Array Edge} {g : Option (Nat × Bool)} {x y : Operand} {t t' : TypeId} {k : IntKind} {m n q : Int} (hq : m.tdiv n = q) (hn : n ≠ 0) (hb : InK k q) (hx : ev e x = .int k m) (hy : ev e y = .int k n) : Val P N w0 L e ⟨d, .binOp .quo t x y t', ty, pos, af, g⟩ (.int k q) := by
  subst hq; exact Val_quo hx hy hn hb
theorem totC_take_bd {ps : List Spt} {cs : List Int} (hp : SpOk ps) (h : CIn ps cs) (k : Nat) : 0 ≤ totC (ps.take k) (cs.take k) ∧ totC (ps.take k) (cs.take k) ≤ 180 * ps.length := by
  have h1 : SpOk (ps.take k) := fun p hq => hp p (List.mem_of_mem_take hq)
  have h2 : ∀ {ps : List Spt} {cs : List Int} (k : Nat), CIn ps cs → CIn (ps.take k) (cs.take k) := by
    intro ps cs k h
    induction h generalizing k with
    | nil => rw [List.take_nil]; exact .nil
    | cons h t ih => cases k with
      | zero => exact .nil
      | succ k => exact .cons h (ih k)
  have h3 := totC_bd h1 (h2 k h)
  have h4 : (ps.take k).length ≤ ps.length := by rw [List.length_take]; omega
  omega
theorem cutS_at {ps : List Spt} {cs : List Int} {i : Nat} (hi : i < ps.length) {x : Int} (hx : cs[i]? = some x) (t : Int) : cutS (ps.drop i) (cs.drop i) 0 t = if ps[i].sods * x ≤ t then ps[i].sods + cutS (ps.drop (i + 1)) (cs.drop (i + 1)) 0 (t - ps[i].sods * x) else t / x := by
  obtain ⟨hxl, hxg⟩ := List.getElem?_eq_some_iff.1 hx
  rw [List.drop_eq_getElem_cons hi, List.drop_eq_getElem_cons hxl, hxg]
  conv => lhs; unfold cutS
  split
  · rw [cutS_add]; omega
  · omega
theorem cin_at : ∀ {ps : List Spt} {cs : List Int}, CIn ps cs → ∀ {i : Nat} (hi : i < ps.length) {x : Int}, cs[i]? = some x → ps[i].lo ≤ x ∧ x ≤ ps[i].hi
  | [], _, _, _, hi, _, _ => absurd hi (Nat.not_lt_zero _)
  | p :: ps, _, .cons (c := c) (cs := cs) h k, 0, _, x, hx => by simp at hx; subst hx; exact h
  | p :: ps, _, .cons (c := c) (cs := cs) h k, i + 1, hi, x, hx => by simpa using cin_at k (by simpa using hi) (by simpa using hx)
theorem sumT_step (s : Sd) {i : Nat} (hi : i < s.spits.length) : sumT s (i + 1) = sumT s i + s.spits[i].sods := by
  unfold sumT
  rw [List.take_succ_eq_append_getElem hi, List.map_append, List.sum_append]
  simp
end Go.Proofs.Ytkaadefndcbdnaa
end

section
namespace Go.Proofs.Ytkaadefndcbdnaa
open Go.RowKit
/-- A list of numbers, read. -/
def RdL (X : Hp) (v : Value) (row : List Int) : Prop := ∃ A c, v = .slice A row.length c ∧ ∀ (j : Nat) (x : Int), row[j]? = some x → ∃ b, A = some ⟨b, 0, none⟩ ∧ RdX X b j (.int .i64 x)
/-- A list of lists of numbers. -/
def RdLL (X : Hp) (v : Value) (rows : List (List Int)) : Prop := ∃ A c, v = .slice A rows.length c ∧ ∀ (i : Nat) (row : List Int), rows[i]? = some row → ∃ b u, A = some ⟨b, 0, none⟩ ∧ RdX X b i u ∧ RdL X u row
theorem RdL.wk {X L : Hp} {v : Value} {row : List Int} (h : RdL X v row) (k : Wk L X) : RdL L v row := by
  obtain ⟨A, c, rfl, h⟩ := h
  exact ⟨A, c, rfl, fun j x hj => let ⟨b, h1, h2⟩ := h j x hj; ⟨b, h1, h2.wk k⟩⟩
theorem RdLL.wk {X L : Hp} {v : Value} {rows : List (List Int)} (h : RdLL X v rows) (k : Wk L X) : RdLL L v rows := by
  obtain ⟨A, c, rfl, h⟩ := h
  exact ⟨A, c, rfl, fun j x hj => let ⟨b, u, h1, h2, h3⟩ := h j x hj; ⟨b, u, h1, h2.wk k, h3.wk k⟩⟩
theorem RdX.perm {X L : Hp} {b o : Nat} {v : Value} (h : RdX X b o v) (k : L.Perm X) : RdX L b o v := fun N w0 w hI => h N w0 w (hI.perm k)
theorem RdL.perm {X L : Hp} {v : Value} {row : List Int} (h : RdL X v row) (k : L.Perm X) : RdL L v row := by
  obtain ⟨A, c, rfl, h⟩ := h
  exact ⟨A, c, rfl, fun j x hj => let ⟨b, h1, h2⟩ := h j x hj; ⟨b, h1, h2.perm k⟩⟩
theorem RdLL.perm {X L : Hp} {v : Value} {rows : List (List Int)} (h : RdLL X v rows) (k : L.Perm X) : RdLL L v rows := by
  obtain ⟨A, c, rfl, h⟩ := h
  exact ⟨A, c, rfl, fun j x hj => let ⟨b, u, h1, h2, h3⟩ := h j x hj; ⟨b, u, h1, h2.perm k, h3.perm k⟩⟩
def intL (row : List Int) : List Value := row.map fun x => .int .i64 x
theorem intL_flat (l : List Int) : intL l = (l.map fun x => [Value.int .i64 x]).flatten := by
  unfold intL
  induction l with
  | nil => rfl
  | cons x l ih => rw [List.map_cons, List.map_cons, List.flatten_cons, ih]; rfl
theorem one_len (l : List Int) : ∀ r ∈ l.map (fun x => [Value.int .i64 x]), r.length = 1 := by
  intro r hr
  obtain ⟨x, _, rfl⟩ := List.mem_map.1 hr
  rfl
/-- A list of numbers that grew. -/
theorem RdL.sv {E : TypeId} {s : Option (Nat × Nat)} {row : List Int} {L : Hp} (hs : svOk s 1 row.length (intL row)) : RdL (svH E 1 row.length (intL row) s L) (svV s row.length) row := by
  obtain ⟨A, c, h1, h2⟩ := sv_slice (E := E) hs
  refine ⟨A, c, h1, fun j x hj => ?_⟩
  have hj' : (intL row)[j]? = some (.int .i64 x) := by unfold intL; rw [List.getElem?_map, hj]; rfl
  cases s with
  | none =>
    have := hs.2 rfl
    rw [List.eq_nil_of_length_eq_zero this] at hj; simp at hj
  | some p =>
    obtain ⟨b, cap⟩ := p
    simp only [svV, Value.slice.injEq] at h1
    refine ⟨b, h1.1.symm, fun N w0 w hI => ?_⟩
    obtain ⟨b', hb, _, hc⟩ := h2 hI j _ hj'
    rw [← h1.1] at hb
    simp only [Option.some.injEq, Addr.mk.injEq, and_true] at hb
    rw [hb]; exact hc
/-- A list of lists that grew. -/
theorem RdLL.sv {E : TypeId} {s : Option (Nat × Nat)} {vals : List Value} {rows : List (List Int)} {X : Hp} (hs : svOk s 1 rows.length vals) (h : ∀ (i : Nat) (row : List Int), rows[i]? = some row → ∃ u, vals[i]? = some u ∧ RdL X u row) : RdLL (svH E 1 rows.length vals s X) (svV s rows.length) rows := by
  obtain ⟨A, c, h1, h2⟩ := sv_slice (E := E) hs
  refine ⟨A, c, h1, fun i row hi => ?_⟩
  obtain ⟨u, hu, hr⟩ := h i row hi
  cases s with
  | none =>
    have := hs.2 rfl
    rw [List.eq_nil_of_length_eq_zero this] at hi; simp at hi
  | some p =>
    obtain ⟨b, cap⟩ := p
    simp only [svV, Value.slice.injEq] at h1
    refine ⟨b, u, h1.1.symm, fun N w0 w hI => ?_, hr.wk (.drop (.refl _))⟩
    obtain ⟨b', hb, _, hc⟩ := h2 hI i _ hu
    rw [← h1.1] at hb
    simp only [Option.some.injEq, Addr.mk.injEq, and_true] at hb
    rw [hb]; exact hc
/-- Lists, as the values of a row read. -/
def RdV (X : Hp) (vals : List Value) (rows : List (List Int)) : Prop := ∀ (i : Nat) (row : List Int), rows[i]? = some row → ∃ u, vals[i]? = some u ∧ RdL X u row
theorem RdV.wk {X L : Hp} {vals : List Value} {rows : List (List Int)} (h : RdV X vals rows) (k : Wk L X) : RdV L vals rows := fun i row hi => let ⟨u, h1, h2⟩ := h i row hi; ⟨u, h1, h2.wk k⟩
theorem RdV.snoc {X : Hp} {vals : List Value} {rows : List (List Int)} {u : Value} {row : List Int} (h : RdV X vals rows) (hl : vals.length = rows.length) (hu : RdL X u row) : RdV X (vals ++ [u]) (rows ++ [row]) := by
  intro i r hi
  by_cases hil : i < rows.length
  · rw [List.getElem?_append_left hil] at hi
    obtain ⟨u', h1, h2⟩ := h i r hi
    exact ⟨u', by rw [List.getElem?_append_left (by omega)]; exact h1, h2⟩
  · rw [List.getElem?_append_right (by omega)] at hi
    have hii : i = rows.length := by
      have := (List.getElem?_eq_some_iff.1 hi).1
      simp at this; omega
    subst hii
    simp only [Nat.sub_self, List.getElem?_cons_zero, Option.some.injEq] at hi
    subst hi
    exact ⟨u, by rw [List.getElem?_append_right (by omega), hl]; simp, hu⟩
theorem svH_swap {E E2 : TypeId} {sz k sz2 k2 : Nat} {xs xs2 : List Value} {s s2 : Option (Nat × Nat)} {L : Hp} : (svH E sz k xs s (svH E2 sz2 k2 xs2 s2 L)).Perm (svH E2 sz2 k2 xs2 s2 (svH E sz k xs s L)) := by
  cases s with
  | none => exact .refl _
  | some p => cases s2 with
    | none => exact .refl _
    | some q => exact .swap _ _ _
theorem svH_in {E : TypeId} {sz k : Nat} {xs : List Value} {s : Option (Nat × Nat)} {x : Nat × (Obj → Prop)} {L : Hp} : (x :: svH E sz k xs s L).Perm (svH E sz k xs s (x :: L)) := by
  cases s with
  | none => exact .refl _
  | some p => exact .swap _ _ _
theorem Wk.none_ : ∀ L : Hp, Wk L []
  | [] => .refl _
  | _ :: L => .drop (Wk.none_ L)
theorem Wk.appR (X L : Hp) : Wk (X ++ L) X := by
  induction X with
  | nil => exact Wk.none_ L
  | cons x X ih => exact .keep1 ih
theorem RdL.nilS (X : Hp) (c : Nat) : RdL X (.slice none 0 c) [] := ⟨none, c, rfl, fun j x h => by simp at h⟩
/-- The cells that a list reads from. -/
theorem RdL.src {X L : Hp} {A : Option Addr} {n c : Nat} {row : List Int} {N : Nat} {w0 : World} (h : RdL X (.slice A n c) row) (k : Wk L X) : (∀ w, Inv N w0 L w → ∀ j u, (intL row)[j]? = some u → ∃ b o, A = some ⟨b, o, none⟩ ∧ w.cell? ⟨b, o + j, none⟩ = some u) ∧ (A = none → row.length = 0) := by
  obtain ⟨A', c', h1, h2⟩ := h
  simp only [Value.slice.injEq] at h1
  obtain ⟨rfl, _, _⟩ := h1
  refine ⟨fun w hI j u hj => ?_, fun hA => ?_⟩
  · unfold intL at hj
    rw [List.getElem?_map] at hj
    cases hr : row[j]? with
    | none => rw [hr] at hj; cases hj
    | some x =>
      rw [hr] at hj
      simp only [Option.map_some, Option.some.injEq] at hj
      subst hj
      obtain ⟨b, h3, h4⟩ := h2 j x hr
      exact ⟨b, 0, h3, by rw [Nat.zero_add]; exact h4 N w0 w (hI.wk k)⟩
  · cases row with
    | nil => rfl
    | cons x row =>
      obtain ⟨b, h3, _⟩ := h2 0 x rfl
      rw [hA] at h3; cases h3
theorem intL_len (row : List Int) : (intL row).length = row.length := by simp [intL]
theorem intL_ones (row : List Int) : ones (intL row) = true := by
  unfold intL ones
  rw [List.all_map, List.all_eq_true]
  intro x _
  rfl
theorem intL_snoc (row : List Int) (v : Int) : intL (row ++ [v]) = intL row ++ [.int .i64 v] := by simp [intL]
theorem flatMap_len {α β : Type} (f : α → List β) (M : Nat) (hf : ∀ x, (f x).length = M) : ∀ l : List α, (l.flatMap f).length = l.length * M
  | [] => by simp
  | x :: l => by rw [List.flatMap_cons, List.length_append, hf, flatMap_len f M hf l, List.length_cons, Nat.succ_mul, Nat.add_comm]
theorem allR_cons_len (s : Sp) (l : List Sp) : (allR (s :: l)).length = (vals s).length * (allR l).length := flatMap_len _ _ (fun x => by simp) _
/-- The lists that begin so. -/
def lsF (begin : List Int) (l : List Sp) : List (List Int) := (allR l).map (begin ++ ·)
theorem lsF_cons (begin : List Int) (s : Sp) (l : List Sp) : lsF begin (s :: l) = (vals s).flatMap fun v => lsF (begin ++ [v]) l := by
  unfold lsF
  simp only [allR, List.map_flatMap, List.map_map]
  congr 1
  funext v
  apply List.map_congr_left
  intro q _
  simp
theorem lsF_len (begin : List Int) (l : List Sp) : (lsF begin l).length = (allR l).length := by simp [lsF]
theorem RdL.opn {X : Hp} {v : Value} {row : List Int} (h : RdL X v row) (hne : 0 < row.length) : ∃ b c, v = .slice (some ⟨b, 0, none⟩) row.length c ∧ ∀ (j : Nat) (x : Int), row[j]? = some x → RdX X b (0 + j) (.int .i64 x) := by
  obtain ⟨A, c, rfl, h⟩ := h
  obtain ⟨b, rfl, _⟩ := h 0 _ (List.getElem?_eq_getElem hne)
  refine ⟨b, c, rfl, fun j x hj => ?_⟩
  obtain ⟨b', h1, h2⟩ := h j x hj
  simp only [Option.some.injEq, Addr.mk.injEq, and_true] at h1
  rw [h1, Nat.zero_add]; exact h2
/-- A truth that there can be. -/
theorem RdLL.opn {X : Hp} {v : Value} {rows : List (List Int)} (h : RdLL X v rows) (hne : 0 < rows.length) : ∃ b c, v = .slice (some ⟨b, 0, none⟩) rows.length c ∧ ∀ (i : Nat) (row : List Int), rows[i]? = some row → ∃ u, RdX X b (0 + i) u ∧ RdL X u row := by
  obtain ⟨A, c, rfl, h⟩ := h
  obtain ⟨b, _, rfl, _⟩ := h 0 _ (List.getElem?_eq_getElem hne)
  refine ⟨b, c, rfl, fun i row hi => ?_⟩
  obtain ⟨b', u, h1, h2, h3⟩ := h i row hi
  simp only [Option.some.injEq, Addr.mk.injEq, and_true] at h1
  exact ⟨u, by rw [h1, Nat.zero_add]; exact h2, h3⟩
end Go.Proofs.Ytkaadefndcbdnaa
end

section
namespace Go.Proofs.Ytkaadefndcbdnaa
open Go.RowKit
structure LsSt where
  c : Nat
  x : Int
  rows : List (List Int)
  X : Hp
  vals : List Value
  s : Option (Nat × Nat)
theorem pm_costs {E E2 : TypeId} {sz k sz2 k2 : Nat} {xs xs2 : List Value} {s s2 : Option (Nat × Nat)} {X M : Hp} (x : Nat × (Obj → Prop)) : (x :: svH E sz k xs s (svH E2 sz2 k2 xs2 s2 (X ++ M))).Perm (svH E2 sz2 k2 xs2 s2 (svH E sz k xs s X ++ (x :: M))) :=
  (svH_swap.cons _).trans (svH_in.trans (svH_perm (by rw [svH_app]; exact List.perm_middle.symm)))
theorem sub_in {E : TypeId} {sz k : Nat} {xs : List Value} {s : Option (Nat × Nat)} {X L : Hp} (x : Nat × (Obj → Prop)) : Sub (svH E sz k xs s (X ++ (x :: L))) (x :: svH E sz k xs s (X ++ L)) :=
  ⟨[], by rw [List.append_nil]; exact svH_in.trans (svH_perm List.perm_middle.symm)⟩
attribute [local irreducible] AnyO AnyB QAny QB EWalk AWalk Ev WP OPS QThen QBlock QScope QLoop QBody Val New Turn Tri Enters PostA Blk Ro
attribute [local irreducible] AnyC QC
section
variable (N : Nat) (w0 : World)
set_option maxRecDepth 100000 in
set_option maxHeartbeats 4000000 in
theorem costs_a (g : Fg) (hA : SodAt N w0 g) (hsp : ∀ s ∈ g.s.spits, -1000 ≤ s.lo ∧ s.hi ≤ 1000) (hspl : g.s.spits.length ≤ 1000) : ∀ (rest : List Spt) (begin : List Int), begin.length + rest.length = g.s.spits.length → g.s.spits.drop begin.length = rest →
    ∀ (L X : Hp) (vb : Value) (rows : List (List Int)) (vals : List Value) (s : Option (Nat × Nat)), RdL X vb begin → svOk s 1 rows.length vals → RdV X vals rows → rows.length + (allR (rest.map costR)).length ≤ 1000000 →
    Tri Try.prog N w0 (svH 43 1 rows.length vals s (X ++ L)) 105 [sodV g, vb, svV s rows.length].toArray fun x L2 => ∃ v, x = .returned v ∧ ∃ (rows' : List (List Int)) (X2 : Hp) (vals' : List Value) (s' : Option (Nat × Nat)), v = svV s' rows'.length ∧ rows' = rows ++ lsF begin (rest.map costR) ∧ svOk s' 1 rows'.length vals' ∧ RdV (X2 ++ X) vals' rows' ∧ L2 = svH 43 1 rows'.length vals' s' ((X2 ++ X) ++ L)
  | [], begin, hlen, hdrop, L, X, vb, rows, vals, s, hvb, hs, hrd, hb => by
    obtain ⟨Ab, cb, rfl, hbr⟩ := hvb
    have hvb : RdL X (.slice Ab begin.length cb) begin := ⟨Ab, cb, rfl, hbr⟩
    simp only [List.length_nil, Nat.add_zero] at hlen
    have hvl : vals.length = rows.length := by have := hs.1; omega
    refine Tri.fgt ?_
    refine tri_of_WP Try.func105 rfl (n := 48) rfl (by simp) ?_
    simp only [List.map_nil, allR, List.length_singleton] at hb
    rw [hlen]
    rw [hlen] at hvb
    repeat' (first | (refine Znh ?_) | (refine GiW ?_; first | (refine Zsq fun K hK => ?_) | (refine ZrN 0 fun _ => ?_; refine Zal 3 fun b3 => ?_; refine Zv Zav ?_) | (refine ZrN 1 fun _ => ?_; refine Zv Zmv ?_; refine Zv Zxlen ?_; refine Zv Zai ?_) | (refine ZrN 2 fun _ => ?_; refine Zv Zmi ?_; refine Zv Zf0 ?_; refine Zv Zld ?_; refine Zv Zxlen ?_; refine Zv Zxeql ?_) | (refine ZrN 3 fun _ => ?_; refine Zv Zmv ?_; refine Zv Zmv ?_; refine Zal 18 fun b18 => ?_; refine Zag (fun s19 hs19 => ?_) (h1 := rfl); refine Zv Zav ?_) | (refine Zcd (fun hc => ?_) (fun hc => ?_) <;> (try (exfalso; omega))) | (with_reducible apply WP_ret)) | (refine Zhr ?_))
    refine QBody_ret1 rfl rfl ⟨svH 43 1 (rows.length + 1) (vals ++ [.slice Ab g.s.spits.length cb]) s19 (X ++ L), (by repeat (first | exact Wk.refl _ | apply Wk.keep1 | apply Wk.drop | apply Wk.sv | apply Wk.svD | apply Wk.appD)), _, rfl, rows ++ [begin], [], vals ++ [.slice Ab g.s.spits.length cb], s19, by rw [List.length_append]; rfl, by simp [lsF, allR], by rw [List.length_append]; exact hs19, hrd.snoc hvl hvb, by rw [List.length_append]; rfl⟩
  | q :: rest, begin, hlen, hdrop, L, X, vb, rows, vals, s, hvb, hs, hrd, hb => by
    obtain ⟨Ab, cb, rfl, hbr⟩ := hvb
    have hvb : RdL X (.slice Ab begin.length cb) begin := ⟨Ab, cb, rfl, hbr⟩
    rw [List.length_cons] at hlen
    have hlt : begin.length < g.s.spits.length := by omega
    obtain ⟨bA, oA, hA1, hbA, hcA⟩ := hA.spits.row _ hlt
    have hq : g.s.spits[begin.length] = q := by
      have h1 : (g.s.spits.drop begin.length)[0]? = some q := by rw [hdrop]; rfl
      rw [List.getElem?_drop, Nat.add_zero, List.getElem?_eq_getElem hlt] at h1
      simpa using h1
    have hdrop2 : g.s.spits.drop (begin.length + 1) = rest := by rw [← List.drop_drop, hdrop]; rfl
    rw [hq] at hcA
    obtain ⟨so, lo, hi⟩ := q
    have hq2 := hsp ⟨so, lo, hi⟩ (by rw [← hq]; exact List.getElem_mem hlt)
    dsimp only at hq2
    obtain ⟨nb, hnb⟩ : ∃ nb, begin.length = nb := ⟨_, rfl⟩
    unfold sptL at hcA
    have c0 : w0.cell? ⟨bA, oA + begin.length * 3 + 1, none⟩ = some (.int .i64 lo) := RoAt hcA 1 _ rfl
    have c1 : w0.cell? ⟨bA, oA + begin.length * 3 + 1 + 1, none⟩ = some (.int .i64 hi) := RoAt hcA 2 _ rfl
    rw [List.map_cons, allR_cons_len, show costR ⟨so, lo, hi⟩ = (lo, hi) from rfl] at hb
    rw [hnb] at hvb hlt hlen hcA c0 c1 hdrop2 ⊢
    have hW := vals_length (lo, hi)
    obtain ⟨W, hWe⟩ : ∃ W, (Go.Proofs.Ytkaadefndcbdnaa.vals (lo, hi)).length = W := ⟨_, rfl⟩
    rw [hWe] at hb hW
    dsimp only at hW
    refine Tri.fgt ?_
    refine tri_of_WP Try.func105 rfl (n := 48) rfl (by simp) ?_
    repeat' (first | (refine Znh ?_) | (refine GiW ?_; first | (refine Zsq fun K hK => ?_) | (refine ZrN 0 fun _ => ?_; refine Zal 3 fun b3 => ?_; refine Zv Zav ?_) | (refine ZrN 1 fun _ => ?_; refine Zv Zmv ?_; refine Zv Zxlen ?_; refine Zv Zai ?_) | (refine ZrN 2 fun _ => ?_; refine Zv Zmi ?_; refine Zv Zf0 ?_; refine Zv Zld ?_; refine Zv Zxlen ?_; refine Zv Zyeql ?_) | (refine ZrN 4 fun _ => ?_; refine Zv Zf0 ?_; refine Zv Zld ?_; refine Zv Zmi ?_; refine Zv Zia ?_; refine Zv Zfa ?_; refine Zv Zf0 ?_; refine Zv Zld ?_; refine Zv Zai ?_) | (refine WP_cond_false rfl ?_) | (with_reducible apply WP_skip) | (with_reducible apply WP_block)) | (refine Zhn ?_))
    refine WP_sub (sub_in _) ?_
    refine WP_loop [2, 8, 27, 28, 29, 30, 31, 32, 33, 34, 35, 36, 37, 38, 39, 40, 41, 42, 43, 44, 45, 46] (fun st : LsSt => [(8, .int .i64 st.x), (2, svV st.s st.rows.length)]) (fun st => svH 43 1 st.rows.length st.vals st.s (st.X ++ ((b3, Blk 26 (sdL g)) :: L))) (fun st => st.c ≤ W ∧ st.x = lo + (st.c : Int) ∧ st.rows = rows ++ ((Go.Proofs.Ytkaadefndcbdnaa.vals (lo, hi)).take st.c).flatMap (fun v => lsF (begin ++ [v]) (rest.map costR)) ∧ svOk st.s 1 st.rows.length st.vals ∧ RdV st.X st.vals st.rows ∧ ∃ X2, st.X = X2 ++ X) (fun st => W - st.c) ⟨0, lo, rows, X, vals, s⟩ (.cons rfl (.cons rfl .nil)) (Wk.refl _) ⟨Nat.zero_le _, by simp, by simp, hs, hrd, [], rfl⟩ ?_
    rintro ⟨c, x, rowsC, XC, valsC, sC⟩ j ⟨hc, hx, hrows, hsC, hrdC, X2, hX2⟩
    dsimp only at hc hx hrows hsC hrdC hX2 ⊢
    have hrl : rowsC.length = rows.length + c * (allR (rest.map costR)).length := by
      rw [hrows, List.length_append, flatMap_len _ (allR (rest.map costR)).length (fun v => lsF_len _ _), List.length_take, hWe, Nat.min_eq_left hc]
    by_cases hcw : c < W
    · have hm : (c + 1) * (allR (rest.map costR)).length ≤ W * (allR (rest.map costR)).length := Nat.mul_le_mul_right _ hcw
      rw [Nat.succ_mul] at hm
      have hvbC : RdL XC (.slice Ab nb cb) begin := by rw [hX2]; exact hvb.wk (.app X2 X)
      obtain ⟨hsrc, hAb⟩ : (∀ L', Wk L' (XC ++ ((b3, Blk 26 (sdL g)) :: L)) → ∀ w, Inv N w0 L' w → ∀ j u, (intL begin)[j]? = some u → ∃ b o, Ab = some ⟨b, o, none⟩ ∧ w.cell? ⟨b, o + j, none⟩ = some u) ∧ (Ab = none → nb = 0) := by
        have h1 := fun L' (k : Wk L' (XC ++ ((b3, Blk 26 (sdL g)) :: L))) => (hvbC.src (N := N) (w0 := w0) (k.trans (Wk.appR XC _))).1
        exact ⟨h1, by rw [← hnb]; exact (hvbC.src (N := N) (w0 := w0) (Wk.refl _)).2⟩
      have hln : (intL begin).length = nb * (0 + 1) := by rw [intL_len, hnb]; omega
      have hon := intL_ones begin
      have hrow : ∀ s9, svOk s9 (0 + 1) (nb + 1) (intL begin ++ [.int .i64 x]) → RdL (svH 3 1 (nb + 1) (intL begin ++ [.int .i64 x]) s9 XC) (svV s9 (nb + 1)) (begin ++ [x]) := by
        intro s9 h9
        have e1 : (begin ++ [x]).length = nb + 1 := by rw [List.length_append, List.length_singleton, hnb]
        have := RdL.sv (E := 3) (row := begin ++ [x]) (L := XC) (s := s9) (by rw [e1, intL_snoc]; exact h9)
        rw [e1, intL_snoc] at this
        exact this
      have ih : ∀ (L1 : Hp) (s9 : Option (Nat × Nat)), svOk s9 (0 + 1) (nb + 1) (intL begin ++ [.int .i64 x]) → Tri Try.prog N w0 (svH 43 1 rowsC.length valsC sC (svH 3 1 (nb + 1) (intL begin ++ [.int .i64 x]) s9 XC ++ L1)) 105 [sodV g, svV s9 (nb + 1), svV sC rowsC.length].toArray fun y L2 => ∃ v, y = .returned v ∧ ∃ (rows' : List (List Int)) (X2 : Hp) (vals' : List Value) (s' : Option (Nat × Nat)), v = svV s' rows'.length ∧ rows' = rowsC ++ lsF (begin ++ [x]) (rest.map costR) ∧ svOk s' 1 rows'.length vals' ∧ RdV (X2 ++ svH 3 1 (nb + 1) (intL begin ++ [.int .i64 x]) s9 XC) vals' rows' ∧ L2 = svH 43 1 rows'.length vals' s' ((X2 ++ svH 3 1 (nb + 1) (intL begin ++ [.int .i64 x]) s9 XC) ++ L1) := fun L1 s9 h9 =>
        costs_a g hA hsp hspl rest (begin ++ [x]) (by rw [List.length_append, List.length_singleton, hnb]; omega) (by rw [List.length_append, List.length_singleton, hnb]; exact hdrop2) L1 _ _ rowsC valsC sC (hrow s9 h9) hsC (hrdC.wk (Wk.svD (Wk.refl _))) (by omega)
      have hp1 : ∀ (b : Nat) (s9 : Option (Nat × Nat)), ((b, Blk 3 [.int .i64 x]) :: svH 3 1 (nb + 1) (intL begin ++ [.int .i64 x]) s9 (svH 43 1 rowsC.length valsC sC (XC ++ ((b3, Blk 26 (sdL g)) :: L)))).Perm (svH 43 1 rowsC.length valsC sC (svH 3 1 (nb + 1) (intL begin ++ [.int .i64 x]) s9 XC ++ ((b, Blk 3 [.int .i64 x]) :: (b3, Blk 26 (sdL g)) :: L))) := fun b s9 => pm_costs _
      have hp2 : ∀ (b : Nat) (s9 : Option (Nat × Nat)), (svH 3 1 (nb + 1) (intL begin ++ [.int .i64 x]) s9 ((b, Blk 3 [.int .i64 x]) :: svH 43 1 rowsC.length valsC sC (XC ++ ((b3, Blk 26 (sdL g)) :: L)))).Perm (svH 43 1 rowsC.length valsC sC (svH 3 1 (nb + 1) (intL begin ++ [.int .i64 x]) s9 XC ++ ((b, Blk 3 [.int .i64 x]) :: (b3, Blk 26 (sdL g)) :: L))) := fun b s9 => svH_in.symm.trans (pm_costs _)
      repeat' (first | (refine GiP ?_; first | (refine Znh ?_) | (with_reducible refine Znl ?_) | (refine Zatd 39 ?_; refine Zbs fun b39 => ?_) | (refine Zatd 41 ?_; refine OPS_append0 rfl rfl rfl (by intro s9; repeat (first | exact Grow.here | apply Grow.there | apply Grow.sv | apply Grow.app)) svOk0 (hsrc _ (by repeat (first | exact Wk.refl _ | apply Wk.keep1 | apply Wk.drop | apply Wk.sv | apply Wk.svD | apply Wk.appD))) hAb hln hon (by simp only [maxLen]; omega) (by omega) (fun s41 hs41 => ?_)) | (refine Zatd 43 ?_; refine Zal 43 fun b43 => ?_) | (refine Zatd 44 ?_; refine Zag (fun s44 hs44 => ?_)) | (refine Zatd 46 ?_; refine OPS_retKS (Enters_fn rfl) (Tri.perm (ih ((b43, Blk 3 [.int .i64 x]) :: (b3, Blk 26 (sdL g)) :: L) s44 hs44) (hp1 _ _)) rfl rfl rfl (fun v41 L41 h41 => ?_); obtain ⟨rows2, X3, vals2, s2, rfl, hr2, hs2, hrd2, rfl⟩ := h41) | (refine Zatd 46 ?_; refine OPS_retKS (Enters_fn rfl) (Tri.perm (ih ((b43, Blk 3 [.int .i64 x]) :: (b3, Blk 26 (sdL g)) :: L) s44 hs44) (hp2 _ _)) rfl rfl rfl (fun v41 L41 h41 => ?_); obtain ⟨rows2, X3, vals2, s2, rfl, hr2, hs2, hrd2, rfl⟩ := h41) | (refine Zatd 2 ?_; refine Zv Zav ?_)) | (refine GiW ?_; first | (refine Zsq fun K hK => ?_) | (refine ZrN 5 fun _ => ?_; refine Zv Zmi ?_; refine Zv Zf0 ?_; refine Zv Zld ?_; refine Zv Zmi ?_; refine Zv Zia ?_; refine Zv Zfa ?_; refine Zv Zfa ?_; refine Zv Zld ?_; refine Zv Zyleq ?_) | (refine ZrN 6 fun _ => ?_; refine Zv Zmi ?_; refine Zv Zxadd ?_; refine Zv Zai ?_) | (refine WP_cond_true rfl ?_) | (with_reducible apply WP_skip) | (with_reducible apply WP_block) | (refine WP_drawnS (id := 7) [0, 2, 4, 7] [0, 2, 4, 7] [] [38, 40, 42, 45] (k := 4) (k2 := 2) (by repeat (first | apply Sub.sv | apply Sub.keep | apply Sub.appK | exact Sub.refl _)) (by kernel_rfl) prog_mixed (by kernel_rfl) (by kernel_rfl) rfl ?_; refine Zew rfl Zla ?_; refine Zew rfl Zmv ?_; refine Zew rfl Zmi ?_; refine Zew rfl Zmv ?_)) | (with_reducible apply EWalk_nil) | (refine GiC ?_; first | (refine ZgC [0, 2, 4, 7] ?_; refine ZC2 _ 1 [0, 2, 4, 7, 1] 5 [0, 2, 4, 7, 5] ?_ ?_) | (refine ZgC [0, 2, 4, 7, 1] ?_; refine ZC2 _ 3 [0, 2, 4, 7, 1, 3] 5 [0, 2, 4, 7, 1, 5] ?_ ?_) | (refine ZgC [0, 2, 4, 7, 1, 3] ?_; refine ZC1 _ 5 [0, 2, 4, 7, 1, 3, 5] ?_) | (refine ZgC [0, 2, 4, 7, 1, 3, 5] ?_; refine ZC1 _ 6 [0, 2, 4, 7, 1, 3, 5, 6] ?_) | (refine ZgC [0, 2, 4, 7, 1, 3, 5, 6] ?_; refine ZCl _ ?_) | (refine ZgC [0, 2, 4, 7, 1, 5] ?_; refine ZC1 _ 3 [0, 2, 4, 7, 1, 3, 5] ?_) | (refine ZgC [0, 2, 4, 7, 5] ?_; refine ZC1 _ 1 [0, 2, 4, 7, 1, 5] ?_)) | (refine GiO ?_; first | (refine ZgO [0, 2, 4, 7, 1, 3, 5, 6] ?_; refine ZO1 _ 8 [0, 2, 4, 7, 1, 3, 5, 6, 8] ?_) | (refine ZgO [0, 2, 4, 7, 1, 3, 5, 6, 8] ?_; refine ZO1 _ 9 [0, 2, 4, 7, 1, 3, 5, 6, 8, 9] ?_) | (refine ZgO [0, 2, 4, 7, 1, 3, 5, 6, 8, 9] ?_; refine ZOd _ ?_; (try with_reducible apply noP_normal); (try with_reducible exact key.out))) | (refine Zhn ?_) | (with_reducible apply QBlock_normal) | (refine AWalk_0 ?_) | (with_reducible apply QAny_normal) | (with_reducible apply QC_normal))
      all_goals exact QLoop_normal ⟨c + 1, x + 1, rows2, X3 ++ svH 3 1 (nb + 1) (intL begin ++ [.int .i64 x]) s44 XC, vals2, s2⟩ (.cons rfl (.cons rfl .nil)) (by repeat (first | exact Off.frame rfl | exact Off.refl _ _ | refine Off.frameT rfl rfl ?_ | refine Off.upd rfl ?_ | refine Off.updO rfl ?_)) (Wk.sv (Wk.appK _ (.drop (.refl _)))) ⟨by dsimp only; omega, by dsimp only; omega, by dsimp only; rw [hr2, hrows, List.append_assoc, List.take_succ_eq_append_getElem (by omega), List.flatMap_append, List.flatMap_singleton, vals_get _ _ (by omega), hx], hs2, hrd2, X3 ++ svH 3 1 (nb + 1) (intL begin ++ [.int .i64 x]) s44 X2, by dsimp only; rw [hX2, svH_app, List.append_assoc]⟩ (by dsimp only; omega)
    · have hcW : c = W := by omega
      subst hcW
      repeat' (first | (refine Znh ?_) | (refine GiW ?_; first | (refine Zsq fun K hK => ?_) | (refine ZrN 5 fun _ => ?_; refine Zv Zmi ?_; refine Zv Zf0 ?_; refine Zv Zld ?_; refine Zv Zmi ?_; refine Zv Zia ?_; refine Zv Zfa ?_; refine Zv Zfa ?_; refine Zv Zld ?_; refine Zv Zyleq ?_) | (refine ZrN 8 fun _ => ?_; refine Zv Zmv ?_; refine Zv Zav ?_) | (refine WP_cond_false rfl ?_) | (with_reducible apply WP_exit) | (with_reducible apply WP_ret)) | (refine Zhn ?_) | (refine Zhx ?_) | (with_reducible apply QBlock_hit) | (with_reducible apply QLoop_exit))
      refine QBody_ret1 rfl rfl ⟨svH 43 1 rowsC.length valsC sC (XC ++ L), Wk.sv (Wk.appK _ (.drop (.refl _))), _, rfl, rowsC, X2, valsC, sC, rfl, ?_, hsC, by rw [← hX2]; exact hrdC, by rw [← hX2]⟩
      show _ = rows ++ lsF begin ((lo, hi) :: rest.map costR)
      rw [hrows, lsF_cons, List.take_of_length_le (by omega)]
end
end Go.Proofs.Ytkaadefndcbdnaa
end

section
namespace Go.Proofs.Ytkaadefndcbdnaa
open Go.RowKit
/-- Numbers that lie in memory as it was. -/
def IsL (N : Nat) (w0 : World) (A : Option Addr) (row : List Int) : Prop := SlAt N w0 A 1 (row.map fun x => [.int .i64 x])
theorem IsL.get {N : Nat} {w0 : World} {A : Option Addr} {row : List Int} (h : IsL N w0 A row) {k : Nat} {x : Int} (hx : row[k]? = some x) : ∃ b o, A = some ⟨b, o, none⟩ ∧ b < N ∧ w0.cell? ⟨b, o + k, none⟩ = some (.int .i64 x) := by
  obtain ⟨hk, hg⟩ := List.getElem?_eq_some_iff.1 hx
  obtain ⟨b, o, h1, h2, h3⟩ := SlAt.one (f := fun x : Int => Value.int .i64 x) h k hk
  rw [hg] at h3
  exact ⟨b, o, h1, h2, h3⟩
def hasB (s n : Nat) : Bool := decide (s / 2 ^ n % 2 = 1)
theorem fitB_iff {s : Sd} {cs : List Int} {set d : Nat} {n : Int} : fitB s cs set d n = true ↔ ∀ (j : Nat) (l : Lg), s.logs[j]? = some l → set / 2 ^ j % 2 = 1 → l.day = (d : Int) → l.lo ≤ cutS s.spits cs 0 n ∧ cutS s.spits cs 0 n ≤ l.hi := by
  unfold fitB
  rw [List.all_eq_true]
  constructor
  · intro h j l hj hb hd
    have := h l (pickL_mem.2 ⟨j, hj, by rw [Nat.zero_add]; exact hb⟩)
    simp only [Bool.or_eq_true, Bool.not_eq_true', decide_eq_false_iff_not, decide_eq_true_eq] at this
    exact this.resolve_left (fun h => h hd)
  · intro h l hl
    obtain ⟨j, hj, hb⟩ := pickL_mem.1 hl
    rw [Nat.zero_add] at hb
    by_cases hd : l.day = (d : Int)
    · have := h j l hj hb hd
      simp [this]
    · simp [hd]
attribute [local irreducible] AnyO AnyB QAny QB EWalk AWalk Ev WP OPS QThen QBlock QScope QLoop QBody Val New Turn Tri Enters PostA Blk Ro
attribute [local irreducible] AnyC QC
section
variable (N : Nat) (w0 : World)
theorem power_ret (L : Hp) (n : Nat) (hn : n ≤ 20) : Ret Try.prog N w0 L 76 [.int .i64 (n : Int)].toArray (.int .i64 ((2 ^ n : Nat) : Int)) := by
  refine Ret.fgt ?_
  refine tri_of_WP Try.func76 rfl (n := 13) rfl (by simp) ?_
  repeat' (first | (refine Znh ?_) | (refine GiW ?_; first | (refine Zsq fun K hK => ?_) | (refine ZrN 0 fun _ => ?_; refine Zv Zai ?_) | (refine ZrN 1 fun _ => ?_; refine Zv Zai ?_) | (refine ZrN 2 fun _ => ?_; refine Zv Zai ?_) | (with_reducible apply WP_block)))
  refine WP_loop [3, 4, 5, 6, 7, 8, 9, 10, 11] (fun st : Nat × Nat => [(3, .int .i64 (st.2 : Int)), (4, .int .i64 (st.1 : Int))]) (fun _ => L) (fun st => st.1 ≤ n ∧ st.2 = 2 ^ st.1) (fun st => n - st.1) (0, 1) (.cons rfl (.cons rfl .nil)) (Wk.refl _) ⟨Nat.zero_le _, rfl⟩ ?_
  rintro ⟨k, p⟩ j ⟨hk, hp⟩
  dsimp only at hk hp ⊢
  by_cases hlt : k < n
  · have h2 : 2 ^ (k + 1) ≤ 2 ^ 20 := Nat.pow_le_pow_right (by omega) (by omega)
    have h3 : (2 : Nat) ^ (k + 1) = 2 * p := by rw [Nat.pow_succ, hp]; omega
    rw [h3] at h2
    have h5 : p ≤ 1048576 := by omega
    repeat' (first | (refine GiP ?_; first | (refine Znh ?_) | (with_reducible refine Znl ?_)) | (refine GiW ?_; first | (refine Zsq fun K hK => ?_) | (refine ZrN 3 fun _ => ?_; refine Zv Zmi ?_; refine Zv Zmi ?_; refine Zv Zylss ?_) | (refine ZrN 5 fun _ => ?_; refine Zv Zmi ?_; refine Zv Zxmul ?_; refine Zv Zai ?_) | (refine ZrN 4 fun _ => ?_; refine Zv Zmi ?_; refine Zv Zxadd ?_; refine Zv Zai ?_) | (refine WP_cond_true rfl ?_) | (with_reducible apply WP_skip) | (with_reducible apply WP_block)) | (refine Zhn ?_) | (with_reducible apply QBlock_normal))
    exact QLoop_normal (k + 1, 2 * p) (.cons rfl (.cons rfl .nil)) (by repeat (first | exact Off.frame rfl | exact Off.refl _ _ | refine Off.frameT rfl rfl ?_ | refine Off.upd rfl ?_ | refine Off.updO rfl ?_)) (by repeat (first | exact Wk.refl _ | apply Wk.keep1 | apply Wk.drop | apply Wk.sv | apply Wk.svD | apply Wk.appD)) ⟨by dsimp only; omega, h3.symm⟩ (by dsimp only; omega)
  · have : k = n := by omega
    subst this
    repeat' (first | (refine Znh ?_) | (refine GiW ?_; first | (refine Zsq fun K hK => ?_) | (refine ZrN 3 fun _ => ?_; refine Zv Zmi ?_; refine Zv Zmi ?_; refine Zv Zylss ?_) | (refine ZrN 6 fun _ => ?_; refine Zv Zmi ?_; refine Zv Zai ?_) | (refine WP_cond_false rfl ?_) | (with_reducible apply WP_exit) | (with_reducible apply WP_ret)) | (refine Zhn ?_) | (refine Zhx ?_) | (with_reducible apply QBlock_hit) | (with_reducible apply QLoop_exit))
    exact QBody_ret1 rfl (rfl : _ = Value.int _ _) ⟨by rw [hp], (by repeat (first | exact Wk.refl _ | apply Wk.keep1 | apply Wk.drop | apply Wk.sv | apply Wk.svD | apply Wk.appD))⟩
theorem has_ret (L : Hp) (s n : Nat) (hs : s ≤ 1000000) (hn : n ≤ 20) : Ret Try.prog N w0 L 123 [.int .i64 (s : Int), .int .i64 (n : Int)].toArray (.bool (hasB s n)) := by
  refine Ret.fgt ?_
  refine tri_of_WP Try.func123 rfl (n := 11) rfl (by simp) ?_
  have hp := Nat.two_pow_pos n
  obtain ⟨q, hq⟩ : ∃ q, s / 2 ^ n = q := ⟨_, rfl⟩
  obtain ⟨t, ht⟩ : ∃ t, q % 2 = t := ⟨_, rfl⟩
  obtain ⟨bb, hb⟩ : ∃ bb, hasB s n = bb := ⟨_, rfl⟩
  have hb' : bb = decide (t = 1) := by rw [← hb, hasB, hq, ht]
  rw [hb]
  repeat' (first | (refine Znh ?_) | (refine GiW ?_; first | (refine Zsq fun K hK => ?_) | (refine ZrN 0 fun _ => ?_; refine Zv Zab ?_) | (refine ZrN 1 fun _ => ?_; refine Zv Zmi ?_; refine Zv Zmi ?_; refine Zcl (Enters_fn rfl) (power_ret N w0 _ n hn) ?_; refine Zv (Val_quoE hq hp hs rfl rfl) ?_; refine Zv (Val_remE2 ht (by omega) rfl rfl) ?_; refine Zv Zxeql ?_; refine Zv Zab ?_) | (with_reducible apply WP_ret)))
  exact QBody_ret1 rfl (rfl : _ = Value.bool _) ⟨by rw [hb', show (((t : Int) == 1) : Bool) = decide (t = 1) by rw [Bool.eq_iff_iff]; simp; omega], (by repeat (first | exact Wk.refl _ | apply Wk.keep1 | apply Wk.drop | apply Wk.sv | apply Wk.svD | apply Wk.appD))⟩
theorem every_ret (L : Hp) (g : Fg) (hn : g.s.logs.length ≤ 20) : Ret Try.prog N w0 L 88 [sodV g].toArray (.int .i64 ((2 ^ g.s.logs.length - 1 : Nat) : Int)) := by
  refine Ret.fgt ?_
  refine tri_of_WP Try.func88 rfl (n := 8) rfl (by simp) ?_
  unfold sodV sdL
  have hp := Nat.two_pow_pos g.s.logs.length
  have h2 : 2 ^ g.s.logs.length ≤ 2 ^ 20 := Nat.pow_le_pow_right (by omega) hn
  repeat' (first | (refine Znh ?_) | (refine GiW ?_; first | (refine Zsq fun K hK => ?_) | (refine ZrN 0 fun _ => ?_; refine Zal 1 fun b1 => ?_; refine Zv Zai ?_) | (refine ZrN 1 fun _ => ?_; refine Zv Zfa ?_; refine Zv Zld ?_; refine Zv Zxlen ?_; refine Zcl (Enters_fn rfl) (power_ret N w0 _ _ hn) ?_; refine Zv Zxsub ?_; refine Zv Zai ?_) | (with_reducible apply WP_ret)))
  exact QBody_ret1 rfl (rfl : _ = Value.int _ _) ⟨by rw [show ((2 ^ g.s.logs.length - 1 : Nat) : Int) = ((2 ^ g.s.logs.length : Nat) : Int) - 1 by omega], (by repeat (first | exact Wk.refl _ | apply Wk.keep1 | apply Wk.drop | apply Wk.sv | apply Wk.svD | apply Wk.appD))⟩
set_option maxHeartbeats 1000000 in
theorem rsods_ret (L : Hp) (g : Fg) (hA : SodAt N w0 g) (hv : VS g.s) (A : Option Addr) (c : Nat) (cs : List Int) (hC : IsL N w0 A cs) (hcin : CIn g.s.spits cs) (hl : cs.length = g.s.spits.length) (n : Int) (hn : 0 ≤ n ∧ n ≤ 700) : Ret Try.prog N w0 L 96 [sodV g, .slice A g.s.spits.length c, .int .i64 n].toArray (.int .i64 (cutS g.s.spits cs 0 n)) := by
  have hnp := hv.np
  have hsum := fun k => sumT_bd hv k
  refine Ret.fgt ?_
  refine tri_of_WP Try.func96 rfl (n := 50) rfl (by simp) ?_
  unfold sodV sdL
  repeat' (first | (refine Znh ?_) | (refine GiW ?_; first | (refine Zsq fun K hK => ?_) | (refine ZrN 0 fun _ => ?_; refine Zal 3 fun b3 => ?_; refine Zv Zai ?_) | (refine ZrN 1 fun _ => ?_; refine Zv Zai ?_) | (refine ZrN 2 fun _ => ?_; refine Zv Zai ?_) | (with_reducible apply WP_block)))
  refine WP_loop [2, 6, 7, 8, 9, 10, 11, 12, 13, 14, 15, 16, 17, 18, 19, 20, 21, 22, 23, 24, 25, 26, 27, 28, 29, 30, 31, 32, 33, 34, 35, 36, 37, 38, 39, 40, 41, 42, 43, 44, 45, 46, 47, 48] (fun st : Nat × Int => [(2, .int .i64 st.2), (7, .int .i64 (sumT g.s st.1)), (8, .int .i64 (st.1 : Int))]) (fun _ => (b3, Blk 26 (sdL g)) :: L) (fun st => st.1 ≤ g.s.spits.length ∧ (0 ≤ st.2 ∧ st.2 ≤ 700) ∧ cutS g.s.spits cs 0 n = sumT g.s st.1 + cutS (g.s.spits.drop st.1) (cs.drop st.1) 0 st.2) (fun st => g.s.spits.length - st.1) (0, n) (.cons rfl (.cons (by simp [sumT]; rfl) (.cons rfl .nil))) (Wk.refl _) ⟨Nat.zero_le _, hn, by simp [sumT]⟩ ?_
  rintro ⟨i, m⟩ j ⟨hi, hm, hcut⟩
  dsimp only at hi hm hcut ⊢
  unfold sdL
  by_cases hil : i < g.s.spits.length
  · obtain ⟨bA, oA, hA1, hbA, hcA⟩ := hA.spits.row i hil
    obtain ⟨x, hx⟩ : ∃ x, cs[i]? = some x := ⟨_, List.getElem?_eq_getElem (by omega)⟩
    obtain ⟨bB, oB, hB1, hbB, hcB⟩ := hC.get hx
    obtain ⟨p, hp⟩ : ∃ p, g.s.spits[i] = p := ⟨_, rfl⟩
    have hpv := hv.sp p (by rw [← hp]; exact List.getElem_mem hil)
    have hxb := cin_at hcin hil hx
    rw [hp] at hcA hxb
    unfold sptL at hcA
    have hcA0 : w0.cell? ⟨bA, oA + i * 3, none⟩ = some (.int .i64 p.sods) := RoAt hcA 0 _ rfl
    have hat := cutS_at hil hx m
    have hst := sumT_step g.s hil
    rw [hp] at hat hst
    have hsi := hsum i
    have hsi1 := hsum (i + 1)
    obtain ⟨U, hU⟩ : ∃ U, sumT g.s i = U := ⟨_, rfl⟩
    rw [hU] at hsi hst hcut ⊢
    obtain ⟨q, hq⟩ : ∃ q, m / x = q := ⟨_, rfl⟩
    have hq2 : m.tdiv x = q := by rw [Int.tdiv_eq_ediv_of_nonneg hm.1]; exact hq
    have hq0 : 0 ≤ q := by rw [← hq]; exact Int.ediv_nonneg hm.1 (by omega)
    have hqm : q * x ≤ m := by rw [← hq]; exact Int.ediv_mul_le _ (by omega)
    have hqx : m < (q + 1) * x := by rw [← hq]; exact Int.lt_ediv_add_one_mul_self _ (by omega)
    have hqb : q ≤ 700 := by
      have : q * 1 ≤ q * x := Int.mul_le_mul_of_nonneg_left (by omega) hq0
      omega
    by_cases hlt : q < p.sods
    · have hno : ¬ p.sods * x ≤ m := by
        have : (q + 1) * x ≤ p.sods * x := Int.mul_le_mul_of_nonneg_right (by omega) (by omega)
        omega
      rw [if_neg hno, hq] at hat
      obtain ⟨M, hM⟩ : ∃ M, q * x = M := ⟨_, rfl⟩
      have hM0 : 0 ≤ M := by rw [← hM]; exact Int.mul_nonneg hq0 (by omega)
      repeat' (first | (refine Znh ?_) | (refine GiW ?_; first | (refine Zsq fun K hK => ?_) | (refine ZrN 3 fun _ => ?_; refine Zv Zmi ?_; refine Zv Zmv ?_; refine Zv Zxlen ?_; refine Zv Zylss ?_) | (refine WP_cond_true rfl ?_) | (with_reducible apply WP_skip) | (with_reducible apply WP_block) | (refine WP_drawn (id := 5) [0, 1, 2, 3, 4, 5, 6, 7, 8, 9, 10, 11, 12, 13] [] (k := 0) prog_mixed (by kernel_rfl) rfl ?_; refine Zew rfl Zf0 ?_; (first | (refine Zew rfl (Val_loadR1 rfl hbA hcA0) ?_) | (refine Zew rfl (Val_loadR1 rfl hbB hcB) ?_) | (refine Zew rfl Zld ?_)); refine Zew rfl Zmi ?_; (first | (refine Zew rfl (Val_indexAddrE rfl hA1 rfl rfl hil) ?_) | (refine Zew rfl (Val_indexAddrE1 rfl hB1 rfl rfl hil) ?_) | (refine Zew rfl Zia ?_)); refine Zew rfl Zf0 ?_; (first | (refine Zew rfl (Val_loadR1 rfl hbA hcA0) ?_) | (refine Zew rfl (Val_loadR1 rfl hbB hcB) ?_) | (refine Zew rfl Zld ?_)); refine Zew rfl Zmi ?_; refine Zew rfl Zmv ?_; refine Zew rfl Zmi ?_; (first | (refine Zew rfl (Val_indexAddrE rfl hA1 rfl rfl hil) ?_) | (refine Zew rfl (Val_indexAddrE1 rfl hB1 rfl rfl hil) ?_) | (refine Zew rfl Zia ?_)); (first | (refine Zew rfl (Val_loadR1 rfl hbA hcA0) ?_) | (refine Zew rfl (Val_loadR1 rfl hbB hcB) ?_) | (refine Zew rfl Zld ?_)); refine Zew rfl (Val_quoI hq2 (by omega) (InK_i64 (by omega) (by omega)) rfl rfl) ?_; refine Zew rfl Zxmin ?_; refine Zew rfl Zai ?_)) | (with_reducible apply EWalk_nil) | (refine AnyO_done (by kernel_rfl) ?_; (try with_reducible apply noP_normal); try with_reducible exact key.out) | (refine Zhn ?_) | (refine AWalk_0 ?_; refine ZisO ?_))
      rw [show min p.sods q = q by omega]
      repeat' (first | (refine Znh ?_) | (refine GiW ?_; first | (refine Zsq fun K hK => ?_) | (refine ZrN 7 fun _ => ?_; refine Zv Zmi ?_; refine Zv Zf0 ?_; (first | (refine Zv (Val_loadR1 rfl hbA hcA0) ?_) | (refine Zv (Val_loadR1 rfl hbB hcB) ?_) | (refine Zv Zld ?_)); refine Zv Zmi ?_; (first | (refine Zv (Val_indexAddrE rfl hA1 rfl rfl hil) ?_) | (refine Zv (Val_indexAddrE1 rfl hB1 rfl rfl hil) ?_) | (refine Zv Zia ?_)); refine Zv Zf0 ?_; (first | (refine Zv (Val_loadR1 rfl hbA hcA0) ?_) | (refine Zv (Val_loadR1 rfl hbB hcB) ?_) | (refine Zv Zld ?_)); refine Zv Zylss ?_) | (refine ZrN 8 fun _ => ?_; refine Zv Zmi ?_; refine Zv Zai ?_) | (refine WP_cond_true rfl ?_) | (with_reducible apply WP_ret) | (refine WP_drawn (id := 6) [0, 1, 2, 3, 4, 5, 6, 7, 8, 9, 10, 11, 12] [] (k := 0) prog_mixed (by kernel_rfl) rfl ?_; refine Zew rfl Zmi ?_; refine Zew rfl Zmi ?_; refine Zew rfl Zxadd ?_; refine Zew rfl Zmi ?_; refine Zew rfl Zmi ?_; refine Zew rfl Zmv ?_; refine Zew rfl Zmi ?_; (first | (refine Zew rfl (Val_indexAddrE rfl hA1 rfl rfl hil) ?_) | (refine Zew rfl (Val_indexAddrE1 rfl hB1 rfl rfl hil) ?_) | (refine Zew rfl Zia ?_)); (first | (refine Zew rfl (Val_loadR1 rfl hbA hcA0) ?_) | (refine Zew rfl (Val_loadR1 rfl hbB hcB) ?_) | (refine Zew rfl Zld ?_)); refine Zew rfl (Val_mul rfl rfl (InK_i64 (by omega) (by omega))) ?_; refine Zew rfl Zxsub ?_; refine Zew rfl Zai ?_; refine Zew rfl Zai ?_)) | (with_reducible apply EWalk_nil) | (refine AnyO_done (by kernel_rfl) ?_; (try with_reducible apply noP_normal); try with_reducible exact key.out) | (refine Zhn ?_) | (refine Zhr ?_) | (with_reducible apply QBlock_ret) | (with_reducible apply QLoop_ret) | (refine AWalk_0 ?_; refine ZisO ?_))
      all_goals exact QBody_ret1 rfl (rfl : _ = Value.int _ _) ⟨by rw [hcut, hat], (by repeat (first | exact Wk.refl _ | apply Wk.keep1 | apply Wk.drop | apply Wk.sv | apply Wk.svD | apply Wk.appD))⟩
    · have hyes : p.sods * x ≤ m := by
        have : p.sods * x ≤ q * x := Int.mul_le_mul_of_nonneg_right (by omega) (by omega)
        omega
      rw [if_pos hyes] at hat
      obtain ⟨M, hM⟩ : ∃ M, p.sods * x = M := ⟨_, rfl⟩
      have hM0 : 0 ≤ M := by rw [← hM]; exact Int.mul_nonneg (by omega) (by omega)
      repeat' (first | (refine Znh ?_) | (refine GiW ?_; first | (refine Zsq fun K hK => ?_) | (refine ZrN 3 fun _ => ?_; refine Zv Zmi ?_; refine Zv Zmv ?_; refine Zv Zxlen ?_; refine Zv Zylss ?_) | (refine WP_cond_true rfl ?_) | (with_reducible apply WP_skip) | (with_reducible apply WP_block) | (refine WP_drawn (id := 5) [0, 1, 2, 3, 4, 5, 6, 7, 8, 9, 10, 11, 12, 13] [] (k := 0) prog_mixed (by kernel_rfl) rfl ?_; refine Zew rfl Zf0 ?_; (first | (refine Zew rfl (Val_loadR1 rfl hbA hcA0) ?_) | (refine Zew rfl (Val_loadR1 rfl hbB hcB) ?_) | (refine Zew rfl Zld ?_)); refine Zew rfl Zmi ?_; (first | (refine Zew rfl (Val_indexAddrE rfl hA1 rfl rfl hil) ?_) | (refine Zew rfl (Val_indexAddrE1 rfl hB1 rfl rfl hil) ?_) | (refine Zew rfl Zia ?_)); refine Zew rfl Zf0 ?_; (first | (refine Zew rfl (Val_loadR1 rfl hbA hcA0) ?_) | (refine Zew rfl (Val_loadR1 rfl hbB hcB) ?_) | (refine Zew rfl Zld ?_)); refine Zew rfl Zmi ?_; refine Zew rfl Zmv ?_; refine Zew rfl Zmi ?_; (first | (refine Zew rfl (Val_indexAddrE rfl hA1 rfl rfl hil) ?_) | (refine Zew rfl (Val_indexAddrE1 rfl hB1 rfl rfl hil) ?_) | (refine Zew rfl Zia ?_)); (first | (refine Zew rfl (Val_loadR1 rfl hbA hcA0) ?_) | (refine Zew rfl (Val_loadR1 rfl hbB hcB) ?_) | (refine Zew rfl Zld ?_)); refine Zew rfl (Val_quoI hq2 (by omega) (InK_i64 (by omega) (by omega)) rfl rfl) ?_; refine Zew rfl Zxmin ?_; refine Zew rfl Zai ?_)) | (with_reducible apply EWalk_nil) | (refine AnyO_done (by kernel_rfl) ?_; (try with_reducible apply noP_normal); try with_reducible exact key.out) | (refine Zhn ?_) | (refine AWalk_0 ?_; refine ZisO ?_))
      rw [show min p.sods q = p.sods by omega]
      repeat' (first | (refine GiP ?_; first | (refine Znh ?_) | (with_reducible refine Znl ?_)) | (refine GiW ?_; first | (refine Zsq fun K hK => ?_) | (refine ZrN 7 fun _ => ?_; refine Zv Zmi ?_; refine Zv Zf0 ?_; (first | (refine Zv (Val_loadR1 rfl hbA hcA0) ?_) | (refine Zv (Val_loadR1 rfl hbB hcB) ?_) | (refine Zv Zld ?_)); refine Zv Zmi ?_; (first | (refine Zv (Val_indexAddrE rfl hA1 rfl rfl hil) ?_) | (refine Zv (Val_indexAddrE1 rfl hB1 rfl rfl hil) ?_) | (refine Zv Zia ?_)); refine Zv Zf0 ?_; (first | (refine Zv (Val_loadR1 rfl hbA hcA0) ?_) | (refine Zv (Val_loadR1 rfl hbB hcB) ?_) | (refine Zv Zld ?_)); refine Zv Zylss ?_) | (refine ZrN 4 fun _ => ?_; refine Zv Zmi ?_; refine Zv Zxadd ?_; refine Zv Zai ?_) | (refine WP_cond_false rfl ?_) | (with_reducible apply WP_skip) | (refine WP_drawn (id := 6) [0, 1, 2, 3, 4, 5, 6, 7, 8, 9, 10, 11, 12] [] (k := 0) prog_mixed (by kernel_rfl) rfl ?_; refine Zew rfl Zmi ?_; refine Zew rfl Zmi ?_; refine Zew rfl Zxadd ?_; refine Zew rfl Zmi ?_; refine Zew rfl Zmi ?_; refine Zew rfl Zmv ?_; refine Zew rfl Zmi ?_; (first | (refine Zew rfl (Val_indexAddrE rfl hA1 rfl rfl hil) ?_) | (refine Zew rfl (Val_indexAddrE1 rfl hB1 rfl rfl hil) ?_) | (refine Zew rfl Zia ?_)); (first | (refine Zew rfl (Val_loadR1 rfl hbA hcA0) ?_) | (refine Zew rfl (Val_loadR1 rfl hbB hcB) ?_) | (refine Zew rfl Zld ?_)); refine Zew rfl (Val_mul rfl rfl (InK_i64 (by omega) (by omega))) ?_; refine Zew rfl Zxsub ?_; refine Zew rfl Zai ?_; refine Zew rfl Zai ?_)) | (with_reducible apply EWalk_nil) | (refine AnyO_done (by kernel_rfl) ?_; (try with_reducible apply noP_normal); try with_reducible exact key.out) | (refine Zhn ?_) | (with_reducible apply QBlock_normal) | (refine AWalk_0 ?_; refine ZisO ?_))
      all_goals exact QLoop_normal (i + 1, m - p.sods * x) (.cons rfl (.cons (by dsimp only; rw [hst]; rfl) (.cons rfl .nil))) (by repeat (first | exact Off.frame rfl | exact Off.refl _ _ | refine Off.frameT rfl rfl ?_ | refine Off.upd rfl ?_ | refine Off.updO rfl ?_)) (by repeat (first | exact Wk.refl _ | apply Wk.keep1 | apply Wk.drop | apply Wk.sv | apply Wk.svD | apply Wk.appD)) ⟨by dsimp only; omega, by dsimp only; omega, by dsimp only; rw [hcut, hat, hst]; omega⟩ (by dsimp only; omega)
  · have hie : i = g.s.spits.length := by omega
    subst hie
    rw [List.drop_length] at hcut
    have h0 : cutS g.s.spits cs 0 n = sumT g.s g.s.spits.length := by rw [hcut]; simp [cutS]
    repeat' (first | (refine Znh ?_) | (refine GiW ?_; first | (refine Zsq fun K hK => ?_) | (refine ZrN 3 fun _ => ?_; refine Zv Zmi ?_; refine Zv Zmv ?_; refine Zv Zxlen ?_; refine Zv Zylss ?_) | (refine ZrN 9 fun _ => ?_; refine Zv Zmi ?_; refine Zv Zai ?_) | (refine WP_cond_false rfl ?_) | (with_reducible apply WP_exit) | (with_reducible apply WP_ret)) | (refine Zhn ?_) | (refine Zhx ?_) | (with_reducible apply QBlock_hit) | (with_reducible apply QLoop_exit))
    exact QBody_ret1 rfl (rfl : _ = Value.int _ _) ⟨by rw [h0], (by repeat (first | exact Wk.refl _ | apply Wk.keep1 | apply Wk.drop | apply Wk.sv | apply Wk.svD | apply Wk.appD))⟩
set_option maxHeartbeats 1000000 in
theorem rwhole_ret (L : Hp) (g : Fg) (hA : SodAt N w0 g) (hv : VS g.s) (A : Option Addr) (c : Nat) (cs : List Int) (hC : IsL N w0 A cs) (hcin : CIn g.s.spits cs) (hl : cs.length = g.s.spits.length) (n : Nat) (hn : n ≤ g.s.spits.length) : Ret Try.prog N w0 L 62 [sodV g, .slice A g.s.spits.length c, .int .i64 (n : Int)].toArray (.int .i64 (totC (g.s.spits.take n) (cs.take n))) := by
  have hnp := hv.np
  refine Ret.fgt ?_
  refine tri_of_WP Try.func62 rfl (n := 28) rfl (by simp) ?_
  unfold sodV sdL
  repeat' (first | (refine Znh ?_) | (refine GiW ?_; first | (refine Zsq fun K hK => ?_) | (refine ZrN 0 fun _ => ?_; refine Zal 3 fun b3 => ?_; refine Zv Zai ?_) | (refine ZrN 1 fun _ => ?_; refine Zv Zai ?_) | (refine ZrN 2 fun _ => ?_; refine Zv Zai ?_) | (with_reducible apply WP_block)))
  refine WP_loop [7, 8, 9, 10, 11, 12, 13, 14, 15, 16, 17, 18, 19, 20, 21, 22, 23, 24, 25, 26] (fun k : Nat => [(7, .int .i64 (totC (g.s.spits.take k) (cs.take k))), (8, .int .i64 (k : Int))]) (fun _ => (b3, Blk 26 (sdL g)) :: L) (fun k => k ≤ n) (fun k => n - k) 0 (.cons rfl (.cons rfl .nil)) (Wk.refl _) (Nat.zero_le _) ?_
  intro k j hk
  unfold sdL
  by_cases hkl : k < n
  · have hkp : k < g.s.spits.length := by omega
    obtain ⟨bA, oA, hA1, hbA, hcA⟩ := hA.spits.row k hkp
    obtain ⟨x, hx⟩ : ∃ x, cs[k]? = some x := ⟨_, List.getElem?_eq_getElem (by omega)⟩
    obtain ⟨bB, oB, hB1, hbB, hcB⟩ := hC.get hx
    obtain ⟨p, hp⟩ : ∃ p, g.s.spits[k] = p := ⟨_, rfl⟩
    rw [hp] at hcA
    unfold sptL at hcA
    have hcA0 : w0.cell? ⟨bA, oA + k * 3, none⟩ = some (.int .i64 p.sods) := RoAt hcA 0 _ rfl
    obtain ⟨hxl, hxg⟩ := List.getElem?_eq_some_iff.1 hx
    have hsn := totC_snoc g.s.spits cs k hkp hxl
    rw [hp, hxg] at hsn
    have hb1 := totC_take_bd hv.spOk hcin k
    have hb2 := totC_take_bd hv.spOk hcin (k + 1)
    rw [hsn] at hb2
    obtain ⟨T, hTe⟩ : ∃ T, totC (g.s.spits.take k) (cs.take k) = T := ⟨_, rfl⟩
    rw [hTe] at hb1 hb2 hsn ⊢
    obtain ⟨M, hM⟩ : ∃ M, p.sods * x = M := ⟨_, rfl⟩
    repeat' (first | (refine GiP ?_; first | (refine Znh ?_) | (with_reducible refine Znl ?_)) | (refine GiW ?_; first | (refine Zsq fun K hK => ?_) | (refine ZrN 3 fun _ => ?_; refine Zv Zmi ?_; refine Zv Zmi ?_; refine Zv Zylss ?_) | (refine ZrN 4 fun _ => ?_; refine Zv Zmi ?_; refine Zv Zxadd ?_; refine Zv Zai ?_) | (refine WP_cond_true rfl ?_) | (with_reducible apply WP_skip) | (with_reducible apply WP_block) | (refine WP_drawn (id := 5) [0, 1, 2, 3, 4, 5, 6, 7, 8, 9, 10, 11, 12, 13] [] (k := 0) prog_mixed (by kernel_rfl) rfl ?_; refine Zew rfl Zmi ?_; refine Zew rfl Zf0 ?_; (first | (refine Zew rfl (Val_loadR1 rfl hbA hcA0) ?_) | (refine Zew rfl (Val_loadR1 rfl hbB hcB) ?_) | (refine Zew rfl Zld ?_)); refine Zew rfl Zmi ?_; (first | (refine Zew rfl (Val_indexAddrE rfl hA1 rfl rfl hkp) ?_) | (refine Zew rfl (Val_indexAddrE1 rfl hB1 rfl rfl hkp) ?_) | (refine Zew rfl Zia ?_)); refine Zew rfl Zf0 ?_; (first | (refine Zew rfl (Val_loadR1 rfl hbA hcA0) ?_) | (refine Zew rfl (Val_loadR1 rfl hbB hcB) ?_) | (refine Zew rfl Zld ?_)); refine Zew rfl Zmv ?_; refine Zew rfl Zmi ?_; (first | (refine Zew rfl (Val_indexAddrE rfl hA1 rfl rfl hkp) ?_) | (refine Zew rfl (Val_indexAddrE1 rfl hB1 rfl rfl hkp) ?_) | (refine Zew rfl Zia ?_)); (first | (refine Zew rfl (Val_loadR1 rfl hbA hcA0) ?_) | (refine Zew rfl (Val_loadR1 rfl hbB hcB) ?_) | (refine Zew rfl Zld ?_)); refine Zew rfl (Val_mul rfl rfl (InK_i64 (by omega) (by omega))) ?_; refine Zew rfl Zxadd ?_; refine Zew rfl Zai ?_)) | (with_reducible apply EWalk_nil) | (refine AnyO_done (by kernel_rfl) ?_; (try with_reducible apply noP_normal); try with_reducible exact key.out) | (refine Zhn ?_) | (with_reducible apply QBlock_normal) | (refine AWalk_0 ?_; refine ZisO ?_))
    exact QLoop_normal (k + 1) (.cons (by rw [hsn]; rfl) (.cons rfl .nil)) (by repeat (first | exact Off.frame rfl | exact Off.refl _ _ | refine Off.frameT rfl rfl ?_ | refine Off.upd rfl ?_ | refine Off.updO rfl ?_)) (by repeat (first | exact Wk.refl _ | apply Wk.keep1 | apply Wk.drop | apply Wk.sv | apply Wk.svD | apply Wk.appD)) (by omega) (by omega)
  · have hke : k = n := by omega
    subst hke
    repeat' (first | (refine Znh ?_) | (refine GiW ?_; first | (refine Zsq fun K hK => ?_) | (refine ZrN 3 fun _ => ?_; refine Zv Zmi ?_; refine Zv Zmi ?_; refine Zv Zylss ?_) | (refine ZrN 6 fun _ => ?_; refine Zv Zmi ?_; refine Zv Zai ?_) | (refine WP_cond_false rfl ?_) | (with_reducible apply WP_exit) | (with_reducible apply WP_ret)) | (refine Zhn ?_) | (refine Zhx ?_) | (with_reducible apply QBlock_hit) | (with_reducible apply QLoop_exit))
    exact QBody_ret1 rfl (rfl : _ = Value.int _ _) ⟨rfl, (by repeat (first | exact Wk.refl _ | apply Wk.keep1 | apply Wk.drop | apply Wk.sv | apply Wk.svD | apply Wk.appD))⟩
set_option maxHeartbeats 1000000 in
theorem rfits_ret (L : Hp) (g : Fg) (hA : SodAt N w0 g) (hv : VS g.s) (A : Option Addr) (c : Nat) (cs : List Int) (hC : IsL N w0 A cs) (hcin : CIn g.s.spits cs) (hl : cs.length = g.s.spits.length) (set : Nat) (hset : set ≤ 1000000) (d : Nat) (n : Int) (hn : 0 ≤ n ∧ n ≤ 700) : Ret Try.prog N w0 L 120 [sodV g, .slice A g.s.spits.length c, .int .i64 (set : Int), .int .i64 (d : Int), .int .i64 n].toArray (.bool (fitB g.s cs set d n)) := by
  have hnl := hv.nl
  have hsd := fun L' => rsods_ret N w0 L' g hA hv A c cs hC hcin hl n hn
  have hin := fun L' a b c => rin_ret N w0 L' a b c
  refine Ret.fgt ?_
  refine tri_of_WP Try.func120 rfl (n := 48) rfl (by simp) ?_
  unfold sodV sdL at hsd ⊢
  obtain ⟨C, hCe⟩ : ∃ C, cutS g.s.spits cs 0 n = C := ⟨_, rfl⟩
  rw [hCe] at hsd
  repeat' (first | (refine Znh ?_) | (refine GiW ?_; first | (refine Zsq fun K hK => ?_) | (refine ZrN 0 fun _ => ?_; refine Zal 5 fun b5 => ?_; refine Zv Zab ?_) | (refine ZrN 1 fun _ => ?_; refine Zv Zai ?_) | (with_reducible apply WP_block)))
  refine WP_loop [10, 11, 12, 13, 14, 15, 16, 17, 18, 19, 20, 21, 22, 23, 24, 25, 26, 27, 28, 29, 30, 31, 32, 33, 34, 35, 36, 37, 38, 39, 40, 41, 42, 43, 44, 45, 46, 47] (fun k : Nat => [(11, .int .i64 (k : Int))]) (fun _ => (b5, Blk 26 (sdL g)) :: L) (fun k => k ≤ g.s.logs.length ∧ ∀ (j : Nat) (l : Lg), j < k → g.s.logs[j]? = some l → set / 2 ^ j % 2 = 1 → l.day = (d : Int) → l.lo ≤ C ∧ C ≤ l.hi) (fun k => g.s.logs.length - k) 0 (.cons rfl .nil) (Wk.refl _) ⟨Nat.zero_le _, fun j l h => absurd h (Nat.not_lt_zero _)⟩ ?_
  rintro k j ⟨hk, hall⟩
  unfold sdL
  by_cases hkl : k < g.s.logs.length
  · obtain ⟨bA, oA, hA3, hbA, hcA⟩ := hA.logs.row k hkl
    obtain ⟨l, hle⟩ : ∃ l, g.s.logs[k] = l := ⟨_, rfl⟩
    rw [hle] at hcA
    have hlk : g.s.logs[k]? = some l := by rw [← hle]; exact List.getElem?_eq_getElem hkl
    unfold lgL at hcA
    have hhas := fun L' => has_ret N w0 L' set k hset (by omega)
    have hnext : (hasB set k = true → l.day = (d : Int) → l.lo ≤ C ∧ C ≤ l.hi) → ∀ (j : Nat) (q : Lg), j < k + 1 → g.s.logs[j]? = some q → set / 2 ^ j % 2 = 1 → q.day = (d : Int) → q.lo ≤ C ∧ C ≤ q.hi := by
      intro h j q hj hq hb hd
      by_cases hjk : j = k
      · subst hjk
        rw [hlk] at hq
        obtain rfl := Option.some.inj hq
        exact h (by simp [hasB, hb]) hd
      · exact hall j q (by omega) hq hb hd
    obtain ⟨hb, hhb⟩ : ∃ hb, hasB set k = hb := ⟨_, rfl⟩
    rw [hhb] at hhas hnext
    have LD : True := trivial
    by_cases hcond : hb = true ∧ l.day = (d : Int)
    · obtain ⟨rfl, hd⟩ := hcond
      have hin' := fun L' => hin L' C l.lo l.hi
      by_cases hok : l.lo ≤ C ∧ C ≤ l.hi
      · rw [show within C l.lo l.hi = true by simp [within]; omega] at hin'
        repeat' (first | (refine GiP ?_; first | (refine Znh ?_) | (with_reducible refine Znl ?_)) | (refine GiW ?_; first | (refine Zsq fun K hK => ?_) | (refine ZrN 2 fun _ => ?_; refine Zv Zmi ?_; refine Zv Zfa ?_; (first | (refine Zv (Val_loadRN rfl hbA hcA rfl) ?_) | (refine Zv Zld ?_)); refine Zv Zxlen ?_; refine Zv Zylss ?_) | (refine ZrN 4 fun _ => ?_; refine Zv Zfa ?_; (first | (refine Zv (Val_loadRN rfl hbA hcA rfl) ?_) | (refine Zv Zld ?_)); refine Zv Zmi ?_; (first | (refine Zv (Val_indexAddrE rfl hA3 rfl rfl hkl) ?_) | (refine Zv Zia ?_)); (first | (refine Zv (Val_loadRN rfl hbA hcA rfl) ?_) | (refine Zv Zla ?_)); refine Zal 12 fun b12 => ?_; refine Zst ?_) | (refine ZrN 3 fun _ => ?_; refine Zv Zmi ?_; refine Zv Zxadd ?_; refine Zv Zai ?_) | (refine WP_cond_true rfl ?_) | (refine WP_cond_false rfl ?_) | (with_reducible apply WP_skip) | (with_reducible apply WP_block) | (refine WP_drawn (id := 5) [0, 1, 2, 3, 4, 5, 6, 7, 8, 9, 10, 11, 12, 13, 14, 15, 16, 17, 18, 19, 20, 21, 22] [] (k := 0) prog_mixed (by kernel_rfl) rfl ?_; refine Zew rfl Zmi ?_; refine Zew rfl Zmi ?_; refine Zec rfl (Enters_fn rfl) (fun X => hhas _) ?_; refine Zew rfl Zmb ?_)) | (refine GiE ?_; first | (refine Zati 8 ?_; (first | (refine Zew rfl Zxpt ?_) | (refine Zew rfl Zxpf ?_)); refine Zew rfl Zmb ?_) | (refine Zati 22 ?_; (first | (refine Zew rfl Zxpt ?_) | (refine Zew rfl Zxpf ?_))) | (refine Zati 4 ?_; first | refine Zes ?_ | (refine Zew rfl Zf0 ?_)) | (refine Zati 5 ?_; first | refine Zes ?_ | (refine Zew rfl (Val_loadRN rfl hbA hcA rfl) ?_) | (refine Zew rfl Zld ?_)) | (refine Zati 6 ?_; first | refine Zes ?_ | (refine Zew rfl Zmi ?_)) | (refine Zati 7 ?_; first | refine Zes ?_ | (refine Zew rfl Zyeql ?_)) | (refine Zati 10 ?_; first | refine Zes ?_ | (refine Zew rfl (Val_loadRN rfl hbA hcA rfl) ?_) | (refine Zew rfl Zla ?_)) | (refine Zati 11 ?_; first | refine Zes ?_ | (refine Zew rfl Zmv ?_)) | (refine Zati 12 ?_; first | refine Zes ?_ | (refine Zew rfl Zmi ?_)) | (refine Zati 13 ?_; first | refine Zes ?_ | (refine Zec rfl (Enters_fn rfl) (fun X => hsd _) ?_)) | (refine Zati 14 ?_; first | refine Zes ?_ | (refine Zew rfl Zfa ?_)) | (refine Zati 15 ?_; first | refine Zes ?_ | (refine Zew rfl Zf0 ?_)) | (refine Zati 16 ?_; first | refine Zes ?_ | (refine Zew rfl (Val_loadRN rfl hbA hcA rfl) ?_) | (refine Zew rfl Zld ?_)) | (refine Zati 17 ?_; first | refine Zes ?_ | (refine Zew rfl Zfa ?_)) | (refine Zati 18 ?_; first | refine Zes ?_ | (refine Zew rfl Zfa ?_)) | (refine Zati 19 ?_; first | refine Zes ?_ | (refine Zew rfl (Val_loadRN rfl hbA hcA rfl) ?_) | (refine Zew rfl Zld ?_)) | (refine Zati 20 ?_; first | refine Zes ?_ | (refine Zec rfl (Enters_fn rfl) (fun X => hin' _) ?_)) | (refine Zati 21 ?_; first | refine Zes ?_ | (refine Zew rfl Zxnot ?_)) | (with_reducible apply EWalk_nil)) | (refine AnyO_done (by kernel_rfl) ?_; (try with_reducible apply noP_normal); try with_reducible exact key.out) | (refine Zhn ?_) | (with_reducible apply QBlock_normal) | (refine AWalk_0 ?_; refine ZisO ?_))
        exact QLoop_normal (k + 1) (.cons rfl .nil) (by repeat (first | exact Off.frame rfl | exact Off.refl _ _ | refine Off.frameT rfl rfl ?_ | refine Off.upd rfl ?_ | refine Off.updO rfl ?_)) (by repeat (first | exact Wk.refl _ | apply Wk.keep1 | apply Wk.drop | apply Wk.sv | apply Wk.svD | apply Wk.appD)) ⟨by omega, hnext fun _ _ => hok⟩ (by omega)
      · rw [show within C l.lo l.hi = false by simp [within]; omega] at hin'
        have hno : fitB g.s cs set d n = false := by
          cases h : fitB g.s cs set d n with
          | false => rfl
          | true =>
            have := fitB_iff.1 h k l hlk (by simpa [hasB] using hhb) hd
            rw [hCe] at this
            exact absurd this hok
        repeat' (first | (refine Znh ?_) | (refine GiW ?_; first | (refine Zsq fun K hK => ?_) | (refine ZrN 2 fun _ => ?_; refine Zv Zmi ?_; refine Zv Zfa ?_; (first | (refine Zv (Val_loadRN rfl hbA hcA rfl) ?_) | (refine Zv Zld ?_)); refine Zv Zxlen ?_; refine Zv Zylss ?_) | (refine ZrN 4 fun _ => ?_; refine Zv Zfa ?_; (first | (refine Zv (Val_loadRN rfl hbA hcA rfl) ?_) | (refine Zv Zld ?_)); refine Zv Zmi ?_; (first | (refine Zv (Val_indexAddrE rfl hA3 rfl rfl hkl) ?_) | (refine Zv Zia ?_)); (first | (refine Zv (Val_loadRN rfl hbA hcA rfl) ?_) | (refine Zv Zla ?_)); refine Zal 12 fun b12 => ?_; refine Zst ?_) | (refine ZrN 6 fun _ => ?_; refine Zv Zab ?_) | (refine WP_cond_true rfl ?_) | (with_reducible apply WP_skip) | (with_reducible apply WP_block) | (with_reducible apply WP_ret) | (refine WP_drawn (id := 5) [0, 1, 2, 3, 4, 5, 6, 7, 8, 9, 10, 11, 12, 13, 14, 15, 16, 17, 18, 19, 20, 21, 22] [] (k := 0) prog_mixed (by kernel_rfl) rfl ?_; refine Zew rfl Zmi ?_; refine Zew rfl Zmi ?_; refine Zec rfl (Enters_fn rfl) (fun X => hhas _) ?_; refine Zew rfl Zmb ?_)) | (refine GiE ?_; first | (refine Zati 8 ?_; (first | (refine Zew rfl Zxpt ?_) | (refine Zew rfl Zxpf ?_)); refine Zew rfl Zmb ?_) | (refine Zati 22 ?_; (first | (refine Zew rfl Zxpt ?_) | (refine Zew rfl Zxpf ?_))) | (refine Zati 4 ?_; first | refine Zes ?_ | (refine Zew rfl Zf0 ?_)) | (refine Zati 5 ?_; first | refine Zes ?_ | (refine Zew rfl (Val_loadRN rfl hbA hcA rfl) ?_) | (refine Zew rfl Zld ?_)) | (refine Zati 6 ?_; first | refine Zes ?_ | (refine Zew rfl Zmi ?_)) | (refine Zati 7 ?_; first | refine Zes ?_ | (refine Zew rfl Zyeql ?_)) | (refine Zati 10 ?_; first | refine Zes ?_ | (refine Zew rfl (Val_loadRN rfl hbA hcA rfl) ?_) | (refine Zew rfl Zla ?_)) | (refine Zati 11 ?_; first | refine Zes ?_ | (refine Zew rfl Zmv ?_)) | (refine Zati 12 ?_; first | refine Zes ?_ | (refine Zew rfl Zmi ?_)) | (refine Zati 13 ?_; first | refine Zes ?_ | (refine Zec rfl (Enters_fn rfl) (fun X => hsd _) ?_)) | (refine Zati 14 ?_; first | refine Zes ?_ | (refine Zew rfl Zfa ?_)) | (refine Zati 15 ?_; first | refine Zes ?_ | (refine Zew rfl Zf0 ?_)) | (refine Zati 16 ?_; first | refine Zes ?_ | (refine Zew rfl (Val_loadRN rfl hbA hcA rfl) ?_) | (refine Zew rfl Zld ?_)) | (refine Zati 17 ?_; first | refine Zes ?_ | (refine Zew rfl Zfa ?_)) | (refine Zati 18 ?_; first | refine Zes ?_ | (refine Zew rfl Zfa ?_)) | (refine Zati 19 ?_; first | refine Zes ?_ | (refine Zew rfl (Val_loadRN rfl hbA hcA rfl) ?_) | (refine Zew rfl Zld ?_)) | (refine Zati 20 ?_; first | refine Zes ?_ | (refine Zec rfl (Enters_fn rfl) (fun X => hin' _) ?_)) | (refine Zati 21 ?_; first | refine Zes ?_ | (refine Zew rfl Zxnot ?_)) | (with_reducible apply EWalk_nil)) | (refine AnyO_done (by kernel_rfl) ?_; (try with_reducible apply noP_normal); try with_reducible exact key.out) | (refine Zhn ?_) | (refine Zhr ?_) | (with_reducible apply QBlock_ret) | (with_reducible apply QLoop_ret) | (refine AWalk_0 ?_; refine ZisO ?_))
        exact QBody_ret1 rfl (rfl : _ = Value.bool _) ⟨by rw [hno], (by repeat (first | exact Wk.refl _ | apply Wk.keep1 | apply Wk.drop | apply Wk.sv | apply Wk.svD | apply Wk.appD))⟩
    · cases hb with
      | true =>
        have hd : l.day ≠ (d : Int) := fun h => hcond ⟨rfl, h⟩
        repeat' (first | (refine GiP ?_; first | (refine Znh ?_) | (with_reducible refine Znl ?_)) | (refine GiW ?_; first | (refine Zsq fun K hK => ?_) | (refine ZrN 2 fun _ => ?_; refine Zv Zmi ?_; refine Zv Zfa ?_; (first | (refine Zv (Val_loadRN rfl hbA hcA rfl) ?_) | (refine Zv Zld ?_)); refine Zv Zxlen ?_; refine Zv Zylss ?_) | (refine ZrN 4 fun _ => ?_; refine Zv Zfa ?_; (first | (refine Zv (Val_loadRN rfl hbA hcA rfl) ?_) | (refine Zv Zld ?_)); refine Zv Zmi ?_; (first | (refine Zv (Val_indexAddrE rfl hA3 rfl rfl hkl) ?_) | (refine Zv Zia ?_)); (first | (refine Zv (Val_loadRN rfl hbA hcA rfl) ?_) | (refine Zv Zla ?_)); refine Zal 12 fun b12 => ?_; refine Zst ?_) | (refine ZrN 3 fun _ => ?_; refine Zv Zmi ?_; refine Zv Zxadd ?_; refine Zv Zai ?_) | (refine WP_cond_true rfl ?_) | (refine WP_cond_false rfl ?_) | (with_reducible apply WP_skip) | (with_reducible apply WP_block) | (refine WP_drawn (id := 5) [0, 1, 2, 3, 4, 5, 6, 7, 8, 9, 10, 11, 12, 13, 14, 15, 16, 17, 18, 19, 20, 21, 22] [] (k := 0) prog_mixed (by kernel_rfl) rfl ?_; refine Zew rfl Zmi ?_; refine Zew rfl Zmi ?_; refine Zec rfl (Enters_fn rfl) (fun X => hhas _) ?_; refine Zew rfl Zmb ?_)) | (refine GiE ?_; first | (refine Zati 8 ?_; (first | (refine Zew rfl Zxpt ?_) | (refine Zew rfl Zxpf ?_)); refine Zew rfl Zmb ?_) | (refine Zati 22 ?_; (first | (refine Zew rfl Zxpt ?_) | (refine Zew rfl Zxpf ?_))) | (refine Zati 4 ?_; first | refine Zes ?_ | (refine Zew rfl Zf0 ?_)) | (refine Zati 5 ?_; first | refine Zes ?_ | (refine Zew rfl (Val_loadRN rfl hbA hcA rfl) ?_) | (refine Zew rfl Zld ?_)) | (refine Zati 6 ?_; first | refine Zes ?_ | (refine Zew rfl Zmi ?_)) | (refine Zati 7 ?_; first | refine Zes ?_ | (refine Zew rfl Zyeql ?_)) | (refine Zati 10 ?_; first | refine Zes ?_ | (refine Zew rfl (Val_loadRN rfl hbA hcA rfl) ?_) | (refine Zew rfl Zla ?_)) | (refine Zati 11 ?_; first | refine Zes ?_ | (refine Zew rfl Zmv ?_)) | (refine Zati 12 ?_; first | refine Zes ?_ | (refine Zew rfl Zmi ?_)) | (refine Zati 14 ?_; first | refine Zes ?_ | (refine Zew rfl Zfa ?_)) | (refine Zati 15 ?_; first | refine Zes ?_ | (refine Zew rfl Zf0 ?_)) | (refine Zati 16 ?_; first | refine Zes ?_ | (refine Zew rfl (Val_loadRN rfl hbA hcA rfl) ?_) | (refine Zew rfl Zld ?_)) | (refine Zati 17 ?_; first | refine Zes ?_ | (refine Zew rfl Zfa ?_)) | (refine Zati 18 ?_; first | refine Zes ?_ | (refine Zew rfl Zfa ?_)) | (refine Zati 19 ?_; first | refine Zes ?_ | (refine Zew rfl (Val_loadRN rfl hbA hcA rfl) ?_) | (refine Zew rfl Zld ?_)) | (refine Zati 21 ?_; first | refine Zes ?_ | (refine Zew rfl Zxnot ?_)) | (refine Zes ?_) | (with_reducible apply EWalk_nil)) | (refine AnyO_done (by kernel_rfl) ?_; (try with_reducible apply noP_normal); try with_reducible exact key.out) | (refine Zhn ?_) | (with_reducible apply QBlock_normal) | (refine AWalk_0 ?_; refine ZisO ?_))
        exact QLoop_normal (k + 1) (.cons rfl .nil) (by repeat (first | exact Off.frame rfl | exact Off.refl _ _ | refine Off.frameT rfl rfl ?_ | refine Off.upd rfl ?_ | refine Off.updO rfl ?_)) (by repeat (first | exact Wk.refl _ | apply Wk.keep1 | apply Wk.drop | apply Wk.sv | apply Wk.svD | apply Wk.appD)) ⟨by omega, hnext fun _ h => absurd h hd⟩ (by omega)
      | false =>
        repeat' (first | (refine GiP ?_; first | (refine Znh ?_) | (with_reducible refine Znl ?_)) | (refine GiW ?_; first | (refine Zsq fun K hK => ?_) | (refine ZrN 2 fun _ => ?_; refine Zv Zmi ?_; refine Zv Zfa ?_; (first | (refine Zv (Val_loadRN rfl hbA hcA rfl) ?_) | (refine Zv Zld ?_)); refine Zv Zxlen ?_; refine Zv Zylss ?_) | (refine ZrN 4 fun _ => ?_; refine Zv Zfa ?_; (first | (refine Zv (Val_loadRN rfl hbA hcA rfl) ?_) | (refine Zv Zld ?_)); refine Zv Zmi ?_; (first | (refine Zv (Val_indexAddrE rfl hA3 rfl rfl hkl) ?_) | (refine Zv Zia ?_)); (first | (refine Zv (Val_loadRN rfl hbA hcA rfl) ?_) | (refine Zv Zla ?_)); refine Zal 12 fun b12 => ?_; refine Zst ?_) | (refine ZrN 3 fun _ => ?_; refine Zv Zmi ?_; refine Zv Zxadd ?_; refine Zv Zai ?_) | (refine WP_cond_true rfl ?_) | (refine WP_cond_false rfl ?_) | (with_reducible apply WP_skip) | (with_reducible apply WP_block) | (refine WP_drawn (id := 5) [0, 1, 2, 3, 4, 5, 6, 7, 8, 9, 10, 11, 12, 13, 14, 15, 16, 17, 18, 19, 20, 21, 22] [] (k := 0) prog_mixed (by kernel_rfl) rfl ?_; refine Zew rfl Zmi ?_; refine Zew rfl Zmi ?_; refine Zec rfl (Enters_fn rfl) (fun X => hhas _) ?_; refine Zew rfl Zmb ?_)) | (refine GiE ?_; first | (refine Zati 8 ?_; (first | (refine Zew rfl Zxpt ?_) | (refine Zew rfl Zxpf ?_)); refine Zew rfl Zmb ?_) | (refine Zati 22 ?_; (first | (refine Zew rfl Zxpt ?_) | (refine Zew rfl Zxpf ?_))) | (refine Zati 4 ?_; first | refine Zes ?_ | (refine Zew rfl Zf0 ?_)) | (refine Zati 5 ?_; first | refine Zes ?_ | (refine Zew rfl (Val_loadRN rfl hbA hcA rfl) ?_) | (refine Zew rfl Zld ?_)) | (refine Zati 6 ?_; first | refine Zes ?_ | (refine Zew rfl Zmi ?_)) | (refine Zati 7 ?_; first | refine Zes ?_ | (refine Zew rfl Zyeql ?_)) | (refine Zati 10 ?_; first | refine Zes ?_ | (refine Zew rfl (Val_loadRN rfl hbA hcA rfl) ?_) | (refine Zew rfl Zla ?_)) | (refine Zati 11 ?_; first | refine Zes ?_ | (refine Zew rfl Zmv ?_)) | (refine Zati 12 ?_; first | refine Zes ?_ | (refine Zew rfl Zmi ?_)) | (refine Zati 14 ?_; first | refine Zes ?_ | (refine Zew rfl Zfa ?_)) | (refine Zati 15 ?_; first | refine Zes ?_ | (refine Zew rfl Zf0 ?_)) | (refine Zati 16 ?_; first | refine Zes ?_ | (refine Zew rfl (Val_loadRN rfl hbA hcA rfl) ?_) | (refine Zew rfl Zld ?_)) | (refine Zati 17 ?_; first | refine Zes ?_ | (refine Zew rfl Zfa ?_)) | (refine Zati 18 ?_; first | refine Zes ?_ | (refine Zew rfl Zfa ?_)) | (refine Zati 19 ?_; first | refine Zes ?_ | (refine Zew rfl (Val_loadRN rfl hbA hcA rfl) ?_) | (refine Zew rfl Zld ?_)) | (refine Zati 21 ?_; first | refine Zes ?_ | (refine Zew rfl Zxnot ?_)) | (refine Zes ?_) | (with_reducible apply EWalk_nil)) | (refine AnyO_done (by kernel_rfl) ?_; (try with_reducible apply noP_normal); try with_reducible exact key.out) | (refine Zhn ?_) | (with_reducible apply QBlock_normal) | (refine AWalk_0 ?_; refine ZisO ?_))
        exact QLoop_normal (k + 1) (.cons rfl .nil) (by repeat (first | exact Off.frame rfl | exact Off.refl _ _ | refine Off.frameT rfl rfl ?_ | refine Off.upd rfl ?_ | refine Off.updO rfl ?_)) (by repeat (first | exact Wk.refl _ | apply Wk.keep1 | apply Wk.drop | apply Wk.sv | apply Wk.svD | apply Wk.appD)) ⟨by omega, hnext fun h => by cases h⟩ (by omega)
  · have hke : k = g.s.logs.length := by omega
    have hyes : fitB g.s cs set d n = true := fitB_iff.2 fun j l hj hb hd => by
      rw [hCe]
      exact hall j l (by have := (List.getElem?_eq_some_iff.1 hj).1; omega) hj hb hd
    repeat' (first | (refine Znh ?_) | (refine GiW ?_; first | (refine Zsq fun K hK => ?_) | (refine ZrN 2 fun _ => ?_; refine Zv Zmi ?_; refine Zv Zfa ?_; refine Zv Zld ?_; refine Zv Zxlen ?_; refine Zv Zylss ?_) | (refine ZrN 7 fun _ => ?_; refine Zv Zab ?_) | (refine WP_cond_false rfl ?_) | (with_reducible apply WP_exit) | (with_reducible apply WP_ret)) | (refine Zhn ?_) | (refine Zhx ?_) | (with_reducible apply QBlock_hit) | (with_reducible apply QLoop_exit))
    exact QBody_ret1 rfl (rfl : _ = Value.bool _) ⟨by rw [hyes], (by repeat (first | exact Wk.refl _ | apply Wk.keep1 | apply Wk.drop | apply Wk.sv | apply Wk.svD | apply Wk.appD))⟩
theorem rcomes_ret (L : Hp) (A : Option Addr) (c : Nat) (m x : Sp) (hC : IsL N w0 A (vals m)) (hm : 0 ≤ m.1 ∧ m.1 ≤ m.2 ∧ m.2 ≤ 700) (hx : 0 ≤ x.1 ∧ x.1 ≤ x.2 ∧ x.2 ≤ 100) (n : Int) (hn : m.1 + x.1 ≤ n ∧ n ≤ m.2 + x.2) : Ret Try.prog N w0 L 121 [.slice A (vals m).length c, .int .i64 n, .agg [.int .i64 x.1, .int .i64 x.2].toArray].toArray (.bool true) := by
  have hvl := vals_length m
  have hin := fun L' a b c => rin_ret N w0 L' a b c
  refine Ret.fgt ?_
  refine tri_of_WP Try.func121 rfl (n := 25) rfl (by simp) ?_
  obtain ⟨M, hM⟩ : ∃ M, (vals m).length = M := ⟨_, rfl⟩
  rw [hM] at hvl ⊢
  repeat' (first | (refine Znh ?_) | (refine GiW ?_; first | (refine Zsq fun K hK => ?_) | (refine ZrN 0 fun _ => ?_; refine Zal 5 fun b5 => ?_; refine Zv Zab ?_) | (refine ZrN 1 fun _ => ?_; refine Zv Zai ?_) | (with_reducible apply WP_block)))
  refine WP_loop [6, 7, 8, 9, 10, 11, 12, 13, 14, 15, 16, 17, 18, 19, 20, 21, 22, 23, 24] (fun k : Nat => [(7, .int .i64 (k : Int))]) (fun _ => (b5, Blk 28 [.int .i64 x.1, .int .i64 x.2]) :: L) (fun k => k ≤ M ∧ ∀ j : Nat, j < k → ¬ (x.1 ≤ n - (m.1 + (j : Int)) ∧ n - (m.1 + (j : Int)) ≤ x.2)) (fun k => M - k) 0 (.cons rfl .nil) (Wk.refl _) ⟨Nat.zero_le _, fun j h => absurd h (Nat.not_lt_zero _)⟩ ?_
  rintro k j ⟨hk, hall⟩
  by_cases hkl : k < M
  · obtain ⟨bA, oA, hA1, hbA, hcA⟩ := hC.get (k := k) (x := m.1 + (k : Int)) (by rw [List.getElem?_eq_getElem (by omega), vals_get])
    by_cases hok : x.1 ≤ n - (m.1 + (k : Int)) ∧ n - (m.1 + (k : Int)) ≤ x.2
    · have hin' := fun L' => hin L' (n - (m.1 + (k : Int))) x.1 x.2
      rw [show within (n - (m.1 + (k : Int))) x.1 x.2 = true by simp [within]; omega] at hin'
      repeat' (first | (refine Znh ?_) | (refine GiW ?_; first | (refine Zsq fun K hK => ?_) | (refine ZrN 2 fun _ => ?_; refine Zv Zmi ?_; refine Zv Zmv ?_; refine Zv Zxlen ?_; refine Zv Zylss ?_) | (refine ZrN 5 fun _ => ?_; refine Zv Zab ?_) | (refine WP_cond_true rfl ?_) | (with_reducible apply WP_skip) | (with_reducible apply WP_block) | (with_reducible apply WP_ret) | (refine WP_drawn (id := 4) [0, 1, 2, 3, 4, 5, 6, 7, 8, 9, 10] [] (k := 0) prog_mixed (by kernel_rfl) rfl ?_; refine Zew rfl Zmi ?_; refine Zew rfl Zmv ?_; refine Zew rfl Zmi ?_; (first | (refine Zew rfl (Val_indexAddrE1 rfl hA1 rfl rfl hkl) ?_) | (refine Zew rfl Zia ?_)); (first | (refine Zew rfl (Val_loadR1 rfl hbA hcA) ?_) | (refine Zew rfl Zld ?_)); refine Zew rfl Zxsub ?_; refine Zew rfl Zf0 ?_; (first | (refine Zew rfl (Val_loadR1 rfl hbA hcA) ?_) | (refine Zew rfl Zld ?_)); refine Zew rfl Zfa ?_; (first | (refine Zew rfl (Val_loadR1 rfl hbA hcA) ?_) | (refine Zew rfl Zld ?_)); refine Zec rfl (Enters_fn rfl) (fun X => hin' _) ?_)) | (with_reducible apply EWalk_nil) | (refine AnyO_done (by kernel_rfl) ?_; (try with_reducible apply noP_normal); try with_reducible exact key.out) | (refine Zhn ?_) | (refine Zhr ?_) | (with_reducible apply QBlock_ret) | (with_reducible apply QLoop_ret) | (refine AWalk_0 ?_; refine ZisO ?_))
      exact QBody_ret1 rfl (rfl : _ = Value.bool _) ⟨rfl, (by repeat (first | exact Wk.refl _ | apply Wk.keep1 | apply Wk.drop | apply Wk.sv | apply Wk.svD | apply Wk.appD))⟩
    · have hin' := fun L' => hin L' (n - (m.1 + (k : Int))) x.1 x.2
      rw [show within (n - (m.1 + (k : Int))) x.1 x.2 = false by simp [within]; omega] at hin'
      repeat' (first | (refine GiP ?_; first | (refine Znh ?_) | (with_reducible refine Znl ?_)) | (refine GiW ?_; first | (refine Zsq fun K hK => ?_) | (refine ZrN 2 fun _ => ?_; refine Zv Zmi ?_; refine Zv Zmv ?_; refine Zv Zxlen ?_; refine Zv Zylss ?_) | (refine ZrN 3 fun _ => ?_; refine Zv Zmi ?_; refine Zv Zxadd ?_; refine Zv Zai ?_) | (refine WP_cond_true rfl ?_) | (refine WP_cond_false rfl ?_) | (with_reducible apply WP_skip) | (with_reducible apply WP_block) | (refine WP_drawn (id := 4) [0, 1, 2, 3, 4, 5, 6, 7, 8, 9, 10] [] (k := 0) prog_mixed (by kernel_rfl) rfl ?_; refine Zew rfl Zmi ?_; refine Zew rfl Zmv ?_; refine Zew rfl Zmi ?_; (first | (refine Zew rfl (Val_indexAddrE1 rfl hA1 rfl rfl hkl) ?_) | (refine Zew rfl Zia ?_)); (first | (refine Zew rfl (Val_loadR1 rfl hbA hcA) ?_) | (refine Zew rfl Zld ?_)); refine Zew rfl Zxsub ?_; refine Zew rfl Zf0 ?_; (first | (refine Zew rfl (Val_loadR1 rfl hbA hcA) ?_) | (refine Zew rfl Zld ?_)); refine Zew rfl Zfa ?_; (first | (refine Zew rfl (Val_loadR1 rfl hbA hcA) ?_) | (refine Zew rfl Zld ?_)); refine Zec rfl (Enters_fn rfl) (fun X => hin' _) ?_)) | (with_reducible apply EWalk_nil) | (refine AnyO_done (by kernel_rfl) ?_; (try with_reducible apply noP_normal); try with_reducible exact key.out) | (refine Zhn ?_) | (with_reducible apply QBlock_normal) | (refine AWalk_0 ?_; refine ZisO ?_))
      exact QLoop_normal (k + 1) (.cons rfl .nil) (by repeat (first | exact Off.frame rfl | exact Off.refl _ _ | refine Off.frameT rfl rfl ?_ | refine Off.upd rfl ?_ | refine Off.updO rfl ?_)) (by repeat (first | exact Wk.refl _ | apply Wk.keep1 | apply Wk.drop | apply Wk.sv | apply Wk.svD | apply Wk.appD)) ⟨by omega, fun j hj => by
        by_cases hjk : j = k
        · rw [hjk]; exact hok
        · exact hall j (by omega)⟩ (by omega)
  · exfalso
    have := hall (max m.1 (n - x.2) - m.1).toNat (by omega)
    omega
end
end Go.Proofs.Ytkaadefndcbdnaa
end

section
namespace Go.Proofs.Ytkaadefndcbdnaa
open Go.RowKit
theorem filter_snoc {l : List Int} {p : Int → Bool} {k : Nat} (hk : k < l.length) : (l.take (k + 1)).filter p = (l.take k).filter p ++ if p l[k] = true then [l[k]] else [] := by
  rw [List.take_succ_eq_append_getElem hk, List.filter_append]
  congr 1
  by_cases h : p l[k] = true
  · simp [h]
  · simp [h]
attribute [local irreducible] AnyO AnyB QAny QB EWalk AWalk Ev WP OPS QThen QBlock QScope QLoop QBody Val New Turn Tri Enters PostA Blk Ro
attribute [local irreducible] AnyC QC
section
variable (N : Nat) (w0 : World)
set_option maxHeartbeats 1000000 in
theorem totals_tri (L : Hp) (g : Fg) (hA : SodAt N w0 g) (hv : VS g.s) (A : Option Addr) (c : Nat) (cs : List Int) (hC : IsL N w0 A cs) (hcin : CIn g.s.spits cs) (hl : cs.length = g.s.spits.length) (set : Nat) (hset : set ≤ 1000000) (d : Nat) (hd : d < g.s.days.length) (x : Sp) (hx : g.s.days[d] = x) (B : Option Addr) (c2 : Nat) (m : Sp) (hB : IsL N w0 B (vals m)) (hm : 0 ≤ m.1 ∧ m.1 ≤ m.2 ∧ m.2 ≤ 600) :
    Tri Try.prog N w0 L 117 [sodV g, .slice A g.s.spits.length c, .int .i64 (set : Int), .int .i64 (d : Int), .slice B (vals m).length c2].toArray fun y L2 => ∃ v, y = .returned v ∧ ∃ s, v = svV s (totL g.s cs set d m x).length ∧ svOk s 1 (totL g.s cs set d m x).length (intL (totL g.s cs set d m x)) ∧ L2 = svH 3 1 (totL g.s cs set d m x).length (intL (totL g.s cs set d m x)) s L := by
  have hxv := hv.dy x (by rw [← hx]; exact List.getElem_mem hd)
  have hft := fun L' n hn => rfits_ret N w0 L' g hA hv A c cs hC hcin hl set hset d n hn
  have hco := fun L' n hn => rcomes_ret N w0 L' B c2 m x hB (by omega) hxv n hn
  obtain ⟨bD, oD, hD1, hbD, hcD⟩ := hA.days.row d hd
  rw [hx] at hcD
  unfold spL at hcD
  have hcD0 : w0.cell? ⟨bD, oD + d * 2, none⟩ = some (.int .i64 x.1) := RoAt hcD 0 _ rfl
  have hcD1 : w0.cell? ⟨bD, oD + d * 2 + 1, none⟩ = some (.int .i64 x.2) := RoAt hcD 1 _ rfl
  have hvl := vals_length m
  obtain ⟨I, hI⟩ : ∃ I : Sp, (m.1 + x.1, m.2 + x.2) = I := ⟨_, rfl⟩
  have hI1 : I.1 = m.1 + x.1 := by rw [← hI]
  have hI2 : I.2 = m.2 + x.2 := by rw [← hI]
  have hIl := vals_length I
  obtain ⟨p, hp⟩ : ∃ p, fitB g.s cs set d = p := ⟨_, rfl⟩
  unfold totL
  rw [hI]
  have hft' : ∀ L' n, 0 ≤ n ∧ n ≤ 700 → Ret Try.prog N w0 L' 120 [sodV g, .slice A g.s.spits.length c, .int .i64 (set : Int), .int .i64 (d : Int), .int .i64 n].toArray (.bool (p n)) := fun L' n hn => by rw [← hp]; exact hft L' n hn
  rw [hp]
  clear hft
  obtain ⟨M, hM⟩ : ∃ M, (vals m).length = M := ⟨_, rfl⟩
  rw [hM] at hvl hco ⊢
  obtain ⟨b0, o0, hB0, hb0, hc0⟩ := hB.get (k := 0) (x := m.1) (by rw [List.getElem?_eq_getElem (by omega), vals_get]; simp)
  rw [Nat.add_zero] at hc0
  obtain ⟨b1, o1, hB1, hb1, hc1⟩ := hB.get (k := M - 1) (x := m.2) (by rw [List.getElem?_eq_getElem (by omega), vals_get]; congr 1; omega)
  have hM1 : (M : Int) - 1 = ((M - 1 : Nat) : Int) := by omega
  have hMl : M - 1 < M := by omega
  have hM0 : 0 < M := by omega
  obtain ⟨W, hW⟩ : ∃ W, (vals I).length = W := ⟨_, rfl⟩
  rw [hW] at hIl
  refine Tri.fgt ?_
  refine tri_of_WP Try.func117 rfl (n := 61) rfl (by simp) ?_
  unfold sodV sdL at hft' ⊢
  repeat' (first | (refine Znh ?_) | (refine GiW ?_; first | (refine Zsq fun K hK => ?_) | (refine ZrN 0 fun _ => ?_; refine Zal 5 fun b5 => ?_; refine Zv Zav ?_) | (refine ZrN 1 fun _ => ?_; refine Zv Zav ?_) | (with_reducible apply WP_block) | (refine WP_drawn (id := 2) [0, 1, 2, 3, 4, 5, 6, 7, 8, 9, 10] [] (k := 0) prog_mixed (by kernel_rfl) rfl ?_; refine Zew rfl Zmv ?_; (first | (refine Zew rfl (Val_indexAddrE rfl hD1 rfl rfl hd) ?_) | (refine Zew rfl (Val_indexAddrE1 rfl hB0 rfl (rfl : _ = ((0 : Nat) : Int)) hM0) ?_) | (refine Zew rfl Zia ?_)); (first | (refine Zew rfl (Val_loadR1 rfl hbD hcD0) ?_) | (refine Zew rfl (Val_loadR1 rfl hb0 hc0) ?_) | (refine Zew rfl Zld ?_)); refine Zew rfl Zfa ?_; (first | (refine Zew rfl (Val_loadR1 rfl hbD hcD0) ?_) | (refine Zew rfl (Val_loadR1 rfl hb0 hc0) ?_) | (refine Zew rfl Zld ?_)); refine Zew rfl Zmi ?_; (first | (refine Zew rfl (Val_indexAddrE rfl hD1 rfl rfl hd) ?_) | (refine Zew rfl (Val_indexAddrE1 rfl hB0 rfl (rfl : _ = ((0 : Nat) : Int)) hM0) ?_) | (refine Zew rfl Zia ?_)); refine Zew rfl Zf0 ?_; (first | (refine Zew rfl (Val_loadR1 rfl hbD hcD0) ?_) | (refine Zew rfl (Val_loadR1 rfl hb0 hc0) ?_) | (refine Zew rfl Zld ?_)); refine Zew rfl Zxadd ?_; refine Zew rfl Zai ?_)) | (with_reducible apply EWalk_nil) | (refine AnyO_done (by kernel_rfl) ?_; (try with_reducible apply noP_normal); try with_reducible exact key.out) | (refine Zhn ?_) | (refine AWalk_0 ?_; refine ZisO ?_))
  rw [← hI1]
  refine WP_loop [11, 12, 23, 24, 25, 26, 27, 28, 29, 30, 31, 32, 33, 34, 35, 36, 37, 38, 39, 40, 41, 42, 43, 44, 45, 46, 47, 48, 49, 50, 51, 52, 53, 54, 55, 56, 57, 58, 59] (fun st : Nat × List Int × Option (Nat × Nat) => [(11, svV st.2.2 st.2.1.length), (12, .int .i64 (I.1 + (st.1 : Int)))]) (fun st => svH 3 1 st.2.1.length (intL st.2.1) st.2.2 ((b5, Blk 26 (sdL g)) :: L)) (fun st => st.1 ≤ W ∧ st.2.1 = ((vals I).take st.1).filter p ∧ svOk st.2.2 1 st.2.1.length (intL st.2.1)) (fun st => W - st.1) (0, [], none) (.cons rfl (.cons (by simp; rfl) .nil)) (Wk.refl _) ⟨Nat.zero_le _, by simp, svOk_nil _⟩ ?_
  rintro ⟨k, rows, s⟩ j ⟨hk, hrows, hs⟩
  dsimp only at hk hrows hs ⊢
  unfold sdL
  have hrl : rows.length ≤ 701 := by
    have h1 := List.length_filter_le p ((vals I).take k)
    rw [← hrows, List.length_take] at h1
    omega
  by_cases hkl : k < W
  · have hsn := filter_snoc (l := vals I) (p := p) (k := k) (by omega)
    rw [← hrows, vals_get] at hsn
    have hft2 := fun L' => hft' L' (I.1 + (k : Int)) (by omega)
    have hco2 := fun L' => hco L' (I.1 + (k : Int)) (by omega)
    cases hpk : p (I.1 + (k : Int)) with
    | true =>
      rw [hpk, if_pos rfl] at hsn
      rw [hpk] at hft2
      repeat' (first | (refine GiP ?_; first | (refine Znh ?_) | (with_reducible refine Znl ?_) | (refine Zatd 55 ?_; (first | (refine Zv Zxpt ?_) | (refine Zv Zxpf ?_))) | (refine Zatd 47 ?_; first | refine Zsk ?_ | (refine Zv Zmv ?_)) | (refine Zatd 48 ?_; first | refine Zsk ?_ | (refine Zv Zmi ?_)) | (refine Zatd 49 ?_; first | refine Zsk ?_ | (refine Zv Zfa ?_)) | (refine Zatd 50 ?_; first | refine Zsk ?_ | (refine Zv (Val_loadR1 rfl hbD hcD1) ?_) | (refine Zv (Val_loadR1 rfl hb1 hc1) ?_) | (refine Zv (Val_loadRN rfl hbD hcD rfl) ?_) | (refine Zv Zld ?_)) | (refine Zatd 51 ?_; first | refine Zsk ?_ | (refine Zv Zmi ?_)) | (refine Zatd 52 ?_; first | refine Zsk ?_ | (refine Zv (Val_indexAddrE rfl hD1 rfl rfl hd) ?_) | (refine Zv (Val_indexAddrE1 rfl hB1 rfl rfl hMl) ?_) | (refine Zv Zia ?_)) | (refine Zatd 53 ?_; first | refine Zsk ?_ | (refine Zv (Val_loadR1 rfl hbD hcD1) ?_) | (refine Zv (Val_loadR1 rfl hb1 hc1) ?_) | (refine Zv (Val_loadRN rfl hbD hcD rfl) ?_) | (refine Zv Zla ?_)) | (refine Zatd 54 ?_; first | refine Zsk ?_ | (refine Zcl (Enters_fn rfl) (hco2 _) ?_))) | (refine GiW ?_; first | (refine Zsq fun K hK => ?_) | (refine ZrG 5 ?_; (first | (refine Zv (Val_loadR1 rfl hbD hcD1) ?_) | (refine Zv (Val_loadR1 rfl hb1 hc1) ?_) | (refine Zv (Val_loadRN rfl hbD hcD rfl) ?_) | (refine Zv Zla ?_)); refine Zv Zmv ?_; refine Zv Zmi ?_; refine Zv Zmi ?_; refine Zv Zmi ?_; refine Zcl (Enters_fn rfl) (hft2 _) ?_; refine Zv Zmb ?_) | (refine ZrN 6 fun _ => ?_; refine Zv Zmv ?_; refine Zv Zmi ?_; refine Zal 58 fun b58 => ?_; refine Zag (fun s59 hs59 => ?_); refine Zv Zav ?_) | (refine ZrN 4 fun _ => ?_; refine Zv Zmi ?_; refine Zv Zxadd ?_; refine Zv Zai ?_) | (refine WP_cond_true rfl ?_) | (with_reducible apply WP_skip) | (with_reducible apply WP_block) | (refine WP_drawn (id := 3) [0, 1, 2, 3, 4, 5, 6, 7, 8, 9, 10, 11, 12, 13, 14] [] (k := 0) prog_mixed (by kernel_rfl) rfl ?_; refine Zew rfl Zmi ?_; refine Zew rfl Zmv ?_; refine Zew rfl Zmv ?_; refine Zew rfl Zxlen ?_; refine Zew rfl (Val_subN hM1 (by omega) rfl rfl) ?_; (first | (refine Zew rfl (Val_indexAddrE rfl hD1 rfl rfl hd) ?_) | (refine Zew rfl (Val_indexAddrE1 rfl hB1 rfl rfl hMl) ?_) | (refine Zew rfl Zia ?_)); (first | (refine Zew rfl (Val_loadR1 rfl hbD hcD1) ?_) | (refine Zew rfl (Val_loadR1 rfl hb1 hc1) ?_) | (refine Zew rfl (Val_loadRN rfl hbD hcD rfl) ?_) | (refine Zew rfl Zld ?_)); refine Zew rfl Zfa ?_; (first | (refine Zew rfl (Val_loadR1 rfl hbD hcD1) ?_) | (refine Zew rfl (Val_loadR1 rfl hb1 hc1) ?_) | (refine Zew rfl (Val_loadRN rfl hbD hcD rfl) ?_) | (refine Zew rfl Zld ?_)); refine Zew rfl Zmi ?_; (first | (refine Zew rfl (Val_indexAddrE rfl hD1 rfl rfl hd) ?_) | (refine Zew rfl (Val_indexAddrE1 rfl hB1 rfl rfl hMl) ?_) | (refine Zew rfl Zia ?_)); refine Zew rfl Zfa ?_; (first | (refine Zew rfl (Val_loadR1 rfl hbD hcD1) ?_) | (refine Zew rfl (Val_loadR1 rfl hb1 hc1) ?_) | (refine Zew rfl (Val_loadRN rfl hbD hcD rfl) ?_) | (refine Zew rfl Zld ?_)); refine Zew rfl Zxadd ?_; refine Zew rfl Zyleq ?_)) | (with_reducible apply EWalk_nil) | (refine AnyO_done (by kernel_rfl) ?_; (try with_reducible apply noP_normal); try with_reducible exact key.out) | (refine Zhn ?_) | (with_reducible apply QBlock_normal) | (refine AWalk_0 ?_; refine ZisO ?_))
      have e1 : (rows ++ [I.1 + (k : Int)]).length = rows.length + 1 := by rw [List.length_append]; rfl
      all_goals refine QLoop_normal (k + 1, rows ++ [I.1 + (k : Int)], s59) (.cons (by dsimp only; rw [e1]; rfl) (.cons (by dsimp only; rw [show I.1 + ((k + 1 : Nat) : Int) = I.1 + (k : Int) + 1 by omega]; rfl) .nil)) (by repeat (first | exact Off.frame rfl | exact Off.refl _ _ | refine Off.frameT rfl rfl ?_ | refine Off.upd rfl ?_ | refine Off.updO rfl ?_)) ?_ ⟨by dsimp only; omega, by dsimp only; rw [hsn], by dsimp only; rw [e1, intL_snoc]; exact hs59⟩ (by dsimp only; omega)
      all_goals dsimp only
      all_goals rw [e1, intL_snoc]
      all_goals exact (by repeat (first | exact Wk.refl _ | apply Wk.keep1 | apply Wk.drop | apply Wk.sv | apply Wk.svD | apply Wk.appD))
    | false =>
      rw [hpk, if_neg (by simp), List.append_nil] at hsn
      rw [hpk] at hft2
      repeat' (first | (refine GiP ?_; first | (refine Znh ?_) | (with_reducible refine Znl ?_) | (refine Zatd 55 ?_; (first | (refine Zv Zxpt ?_) | (refine Zv Zxpf ?_))) | (refine Zatd 47 ?_; first | refine Zsk ?_ | (refine Zv Zmv ?_)) | (refine Zatd 48 ?_; first | refine Zsk ?_ | (refine Zv Zmi ?_)) | (refine Zatd 49 ?_; first | refine Zsk ?_ | (refine Zv Zfa ?_)) | (refine Zatd 50 ?_; first | refine Zsk ?_ | (refine Zv (Val_loadR1 rfl hbD hcD1) ?_) | (refine Zv (Val_loadR1 rfl hb1 hc1) ?_) | (refine Zv Zld ?_)) | (refine Zatd 51 ?_; first | refine Zsk ?_ | (refine Zv Zmi ?_)) | (refine Zatd 52 ?_; first | refine Zsk ?_ | (refine Zv (Val_indexAddrE rfl hD1 rfl rfl hd) ?_) | (refine Zv (Val_indexAddrE1 rfl hB1 rfl rfl hMl) ?_) | (refine Zv Zia ?_)) | (refine Zatd 53 ?_; first | refine Zsk ?_ | (refine Zv (Val_loadR1 rfl hbD hcD1) ?_) | (refine Zv (Val_loadR1 rfl hb1 hc1) ?_) | (refine Zv Zla ?_)) | (refine Zsk ?_)) | (refine GiW ?_; first | (refine Zsq fun K hK => ?_) | (refine ZrG 5 ?_; (first | (refine Zv (Val_loadR1 rfl hbD hcD1) ?_) | (refine Zv (Val_loadR1 rfl hb1 hc1) ?_) | (refine Zv Zla ?_)); refine Zv Zmv ?_; refine Zv Zmi ?_; refine Zv Zmi ?_; refine Zv Zmi ?_; refine Zcl (Enters_fn rfl) (hft2 _) ?_; refine Zv Zmb ?_) | (refine ZrN 4 fun _ => ?_; refine Zv Zmi ?_; refine Zv Zxadd ?_; refine Zv Zai ?_) | (refine WP_cond_true rfl ?_) | (refine WP_cond_false rfl ?_) | (with_reducible apply WP_skip) | (with_reducible apply WP_block) | (refine WP_drawn (id := 3) [0, 1, 2, 3, 4, 5, 6, 7, 8, 9, 10, 11, 12, 13, 14] [] (k := 0) prog_mixed (by kernel_rfl) rfl ?_; refine Zew rfl Zmi ?_; refine Zew rfl Zmv ?_; refine Zew rfl Zmv ?_; refine Zew rfl Zxlen ?_; refine Zew rfl (Val_subN hM1 (by omega) rfl rfl) ?_; (first | (refine Zew rfl (Val_indexAddrE rfl hD1 rfl rfl hd) ?_) | (refine Zew rfl (Val_indexAddrE1 rfl hB1 rfl rfl hMl) ?_) | (refine Zew rfl Zia ?_)); (first | (refine Zew rfl (Val_loadR1 rfl hbD hcD1) ?_) | (refine Zew rfl (Val_loadR1 rfl hb1 hc1) ?_) | (refine Zew rfl Zld ?_)); refine Zew rfl Zfa ?_; (first | (refine Zew rfl (Val_loadR1 rfl hbD hcD1) ?_) | (refine Zew rfl (Val_loadR1 rfl hb1 hc1) ?_) | (refine Zew rfl Zld ?_)); refine Zew rfl Zmi ?_; (first | (refine Zew rfl (Val_indexAddrE rfl hD1 rfl rfl hd) ?_) | (refine Zew rfl (Val_indexAddrE1 rfl hB1 rfl rfl hMl) ?_) | (refine Zew rfl Zia ?_)); refine Zew rfl Zfa ?_; (first | (refine Zew rfl (Val_loadR1 rfl hbD hcD1) ?_) | (refine Zew rfl (Val_loadR1 rfl hb1 hc1) ?_) | (refine Zew rfl Zld ?_)); refine Zew rfl Zxadd ?_; refine Zew rfl Zyleq ?_)) | (with_reducible apply EWalk_nil) | (refine AnyO_done (by kernel_rfl) ?_; (try with_reducible apply noP_normal); try with_reducible exact key.out) | (refine Zhn ?_) | (with_reducible apply QBlock_normal) | (refine AWalk_0 ?_; refine ZisO ?_))
      all_goals exact QLoop_normal (k + 1, rows, s) (.cons rfl (.cons (by dsimp only; rw [show I.1 + ((k + 1 : Nat) : Int) = I.1 + (k : Int) + 1 by omega]; rfl) .nil)) (by repeat (first | exact Off.frame rfl | exact Off.refl _ _ | refine Off.frameT rfl rfl ?_ | refine Off.upd rfl ?_ | refine Off.updO rfl ?_)) (by repeat (first | exact Wk.refl _ | apply Wk.keep1 | apply Wk.drop | apply Wk.sv | apply Wk.svD | apply Wk.appD)) ⟨by dsimp only; omega, by dsimp only; rw [hsn], hs⟩ (by dsimp only; omega)
  · have hke : k = W := by omega
    subst hke
    rw [List.take_of_length_le (by omega)] at hrows
    subst hrows
    repeat' (first | (refine Znh ?_) | (refine GiW ?_; first | (refine Zsq fun K hK => ?_) | (refine ZrN 7 fun _ => ?_; refine Zv Zmv ?_; refine Zv Zav ?_) | (refine WP_cond_false rfl ?_) | (with_reducible apply WP_exit) | (with_reducible apply WP_ret) | (refine WP_drawn (id := 3) [0, 1, 2, 3, 4, 5, 6, 7, 8, 9, 10, 11, 12, 13, 14] [] (k := 0) prog_mixed (by kernel_rfl) rfl ?_; refine Zew rfl Zmi ?_; refine Zew rfl Zmv ?_; refine Zew rfl Zmv ?_; refine Zew rfl Zxlen ?_; refine Zew rfl (Val_subN hM1 (by omega) rfl rfl) ?_; (first | (refine Zew rfl (Val_indexAddrE rfl hD1 rfl rfl hd) ?_) | (refine Zew rfl (Val_indexAddrE1 rfl hB1 rfl rfl hMl) ?_) | (refine Zew rfl Zia ?_)); (first | (refine Zew rfl (Val_loadR1 rfl hbD hcD1) ?_) | (refine Zew rfl (Val_loadR1 rfl hb1 hc1) ?_) | (refine Zew rfl Zld ?_)); refine Zew rfl Zfa ?_; (first | (refine Zew rfl (Val_loadR1 rfl hbD hcD1) ?_) | (refine Zew rfl (Val_loadR1 rfl hb1 hc1) ?_) | (refine Zew rfl Zld ?_)); refine Zew rfl Zmi ?_; (first | (refine Zew rfl (Val_indexAddrE rfl hD1 rfl rfl hd) ?_) | (refine Zew rfl (Val_indexAddrE1 rfl hB1 rfl rfl hMl) ?_) | (refine Zew rfl Zia ?_)); refine Zew rfl Zfa ?_; (first | (refine Zew rfl (Val_loadR1 rfl hbD hcD1) ?_) | (refine Zew rfl (Val_loadR1 rfl hb1 hc1) ?_) | (refine Zew rfl Zld ?_)); refine Zew rfl Zxadd ?_; refine Zew rfl Zyleq ?_)) | (with_reducible apply EWalk_nil) | (refine AnyO_done (by kernel_rfl) ?_; (try with_reducible apply noP_normal); try with_reducible exact key.out) | (refine Zhn ?_) | (refine Zhx ?_) | (with_reducible apply QBlock_hit) | (with_reducible apply QLoop_exit) | (refine AWalk_0 ?_; refine ZisO ?_))
    exact QBody_ret1 rfl rfl ⟨_, (by repeat (first | exact Wk.refl _ | apply Wk.keep1 | apply Wk.drop | apply Wk.sv | apply Wk.svD | apply Wk.appD)), _, rfl, s, rfl, hs, rfl⟩
set_option maxHeartbeats 1000000 in
theorem back_tri (L : Hp) (A : Option Addr) (c : Nat) (l : List Int) (hA : IsL N w0 A l) (B : Option Addr) (c2 : Nat) (nx : List Int) (hB : IsL N w0 B nx) (x : Sp) (hl : ∀ a ∈ l, 0 ≤ a ∧ a ≤ 1000) (hn : ∀ a ∈ nx, 0 ≤ a ∧ a ≤ 1000) (hll : l.length ≤ 1000) (hnl : nx.length ≤ 1000) :
    Tri Try.prog N w0 L 118 [.slice A l.length c, .slice B nx.length c2, .agg [.int .i64 x.1, .int .i64 x.2].toArray].toArray fun y L2 => ∃ v, y = .returned v ∧ ∃ s, v = svV s (backL x l nx).length ∧ svOk s 1 (backL x l nx).length (intL (backL x l nx)) ∧ L2 = svH 3 1 (backL x l nx).length (intL (backL x l nx)) s L := by
  have hin := fun L' a b c => rin_ret N w0 L' a b c
  unfold backL
  obtain ⟨p, hp⟩ : ∃ p, comeB x nx = p := ⟨_, rfl⟩
  rw [hp]
  refine Tri.fgt ?_
  refine tri_of_WP Try.func118 rfl (n := 49) rfl (by simp) ?_
  repeat' (first | (refine Znh ?_) | (refine GiW ?_; first | (refine Zsq fun K hK => ?_) | (refine ZrN 0 fun _ => ?_; refine Zal 5 fun b5 => ?_; refine Zv Zav ?_) | (refine ZrN 1 fun _ => ?_; refine Zv Zav ?_) | (refine ZrN 2 fun _ => ?_; refine Zv Zai ?_) | (with_reducible apply WP_block)))
  refine WP_loop [7, 8, 9, 10, 11, 12, 13, 14, 15, 16, 17, 18, 19, 20, 21, 22, 23, 24, 25, 26, 27, 28, 29, 30, 31, 32, 33, 34, 35, 36, 37, 38, 39, 40, 41, 42, 43, 44, 45, 46, 47] (fun st : Nat × List Int × Option (Nat × Nat) => [(7, svV st.2.2 st.2.1.length), (8, .int .i64 (st.1 : Int))]) (fun st => svH 3 1 st.2.1.length (intL st.2.1) st.2.2 ((b5, Blk 28 [.int .i64 x.1, .int .i64 x.2]) :: L)) (fun st => st.1 ≤ l.length ∧ st.2.1 = (l.take st.1).filter p ∧ svOk st.2.2 1 st.2.1.length (intL st.2.1)) (fun st => l.length - st.1) (0, [], none) (.cons rfl (.cons rfl .nil)) (Wk.refl _) ⟨Nat.zero_le _, by simp, svOk_nil _⟩ ?_
  rintro ⟨k, rows, s⟩ j ⟨hk, hrows, hs⟩
  dsimp only at hk hrows hs ⊢
  have hrl : rows.length ≤ 1000 := by
    have h1 := List.length_filter_le p (l.take k)
    rw [← hrows, List.length_take] at h1
    omega
  by_cases hkl : k < l.length
  · obtain ⟨a, hae⟩ : ∃ a, l[k]? = some a := ⟨_, List.getElem?_eq_getElem hkl⟩
    obtain ⟨bA, oA, hA1, hbA, hcA⟩ := hA.get hae
    have hab := hl a (List.mem_of_getElem? hae)
    have hsn := filter_snoc (l := l) (p := p) (k := k) hkl
    rw [← hrows, (List.getElem?_eq_some_iff.1 hae).2, ← hp] at hsn
    repeat' (first | (refine Znh ?_) | (refine GiW ?_; first | (refine Zsq fun K hK => ?_) | (refine ZrN 3 fun _ => ?_; refine Zv Zmi ?_; refine Zv Zmv ?_; refine Zv Zxlen ?_; refine Zv Zylss ?_) | (refine ZrN 5 fun _ => ?_; refine Zv Zab ?_) | (refine ZrN 6 fun _ => ?_; refine Zv Zai ?_) | (refine WP_cond_true rfl ?_) | (with_reducible apply WP_skip) | (with_reducible apply WP_block)) | (refine Zhn ?_))
    refine WP_loop [9, 10, 17, 18, 19, 20, 21, 22, 23, 24, 25, 26, 27, 28, 29, 30, 31, 32, 33, 34, 35, 36, 37, 38, 39] (fun st : Nat × Bool => [(9, .bool st.2), (10, .int .i64 (st.1 : Int))]) (fun _ => svH 3 1 rows.length (intL rows) s ((b5, Blk 28 [.int .i64 x.1, .int .i64 x.2]) :: L)) (fun st => st.1 ≤ nx.length ∧ st.2 = comeB x (nx.take st.1) a) (fun st => nx.length - st.1) (0, false) (.cons rfl (.cons rfl .nil)) (Wk.refl _) ⟨Nat.zero_le _, by simp [comeB]⟩ ?_
    rintro ⟨i, fd⟩ j2 ⟨hi, hfd⟩
    dsimp only at hi hfd ⊢
    by_cases hil : i < nx.length
    · obtain ⟨b, hbe⟩ : ∃ b, nx[i]? = some b := ⟨_, List.getElem?_eq_getElem hil⟩
      obtain ⟨bB, oB, hB1, hbB, hcB⟩ := hB.get hbe
      have hbb := hn b (List.mem_of_getElem? hbe)
      have hnext : comeB x (nx.take (i + 1)) a = (fd || decide (x.1 ≤ b - a ∧ b - a ≤ x.2)) := by
        rw [hfd]
        unfold comeB
        rw [List.take_succ_eq_append_getElem hil, List.any_append, (List.getElem?_eq_some_iff.1 hbe).2]
        simp
      have hin' := fun L' => hin L' (b - a) x.1 x.2
      rw [show within (b - a) x.1 x.2 = decide (x.1 ≤ b - a ∧ b - a ≤ x.2) by simp [within]] at hin'
      cases fd with
      | true =>
        repeat' (first | (refine GiP ?_; first | (refine Znh ?_) | (with_reducible refine Znl ?_)) | (refine GiW ?_; first | (refine Zsq fun K hK => ?_) | (refine ZrN 7 fun _ => ?_; refine Zv Zmi ?_; refine Zv Zmv ?_; refine Zv Zxlen ?_; refine Zv Zylss ?_) | (refine ZrN 8 fun _ => ?_; refine Zv Zmi ?_; refine Zv Zxadd ?_; refine Zv Zai ?_) | (refine WP_cond_true rfl ?_) | (with_reducible apply WP_skip) | (with_reducible apply WP_block) | (refine WP_drawn (id := 9) [0, 1, 2, 3, 4, 5, 6, 7, 8, 9, 10, 11, 12, 13, 14, 15, 16, 17] [] (k := 0) prog_mixed (by kernel_rfl) rfl ?_; refine Zew rfl Zmb ?_; refine Zew rfl Zmb ?_)) | (refine GiE ?_; first | (refine Zati 16 ?_; (first | (refine Zew rfl Zxpt ?_) | (refine Zew rfl Zxpf ?_)); refine Zew rfl Zab ?_) | (refine Zati 2 ?_; first | refine Zes ?_ | (refine Zew rfl Zmv ?_)) | (refine Zati 3 ?_; first | refine Zes ?_ | (refine Zew rfl Zmi ?_)) | (refine Zati 4 ?_; first | refine Zes ?_ | (refine Zew rfl Zia ?_)) | (refine Zati 5 ?_; first | refine Zes ?_ | (refine Zew rfl Zld ?_)) | (refine Zati 6 ?_; first | refine Zes ?_ | (refine Zew rfl Zmv ?_)) | (refine Zati 7 ?_; first | refine Zes ?_ | (refine Zew rfl Zmi ?_)) | (refine Zati 8 ?_; first | refine Zes ?_ | (refine Zew rfl Zia ?_)) | (refine Zati 9 ?_; first | refine Zes ?_ | (refine Zew rfl Zld ?_)) | (refine Zati 10 ?_; first | refine Zes ?_ | (refine Zew rfl Zxsub ?_)) | (refine Zati 11 ?_; first | refine Zes ?_ | (refine Zew rfl Zf0 ?_)) | (refine Zati 12 ?_; first | refine Zes ?_ | (refine Zew rfl Zld ?_)) | (refine Zati 13 ?_; first | refine Zes ?_ | (refine Zew rfl Zfa ?_)) | (refine Zati 14 ?_; first | refine Zes ?_ | (refine Zew rfl Zld ?_)) | (refine Zes ?_) | (with_reducible apply EWalk_nil)) | (refine AnyO_done (by kernel_rfl) ?_; (try with_reducible apply noP_normal); try with_reducible exact key.out) | (refine Zhn ?_) | (with_reducible apply QBlock_normal) | (refine AWalk_0 ?_; refine ZisO ?_))
        all_goals exact QLoop_normal (i + 1, true) (.cons rfl (.cons rfl .nil)) (by repeat (first | exact Off.frame rfl | exact Off.refl _ _ | refine Off.frameT rfl rfl ?_ | refine Off.upd rfl ?_ | refine Off.updO rfl ?_)) (by repeat (first | exact Wk.refl _ | apply Wk.keep1 | apply Wk.drop | apply Wk.sv | apply Wk.svD | apply Wk.appD)) ⟨by dsimp only; omega, by dsimp only; rw [hnext]; rfl⟩ (by dsimp only; omega)
      | false =>
        rw [Bool.false_or] at hnext
        obtain ⟨q, hq⟩ : ∃ q, decide (x.1 ≤ b - a ∧ b - a ≤ x.2) = q := ⟨_, rfl⟩
        rw [hq] at hin' hnext
        repeat' (first | (refine GiP ?_; first | (refine Znh ?_) | (with_reducible refine Znl ?_)) | (refine GiW ?_; first | (refine Zsq fun K hK => ?_) | (refine ZrN 7 fun _ => ?_; refine Zv Zmi ?_; refine Zv Zmv ?_; refine Zv Zxlen ?_; refine Zv Zylss ?_) | (refine ZrN 8 fun _ => ?_; refine Zv Zmi ?_; refine Zv Zxadd ?_; refine Zv Zai ?_) | (refine WP_cond_true rfl ?_) | (with_reducible apply WP_skip) | (with_reducible apply WP_block) | (refine WP_drawn (id := 9) [0, 1, 2, 3, 4, 5, 6, 7, 8, 9, 10, 11, 12, 13, 14, 15, 16, 17] [] (k := 0) prog_mixed (by kernel_rfl) rfl ?_; refine Zew rfl Zmb ?_; refine Zew rfl Zmb ?_)) | (refine GiE ?_; first | (refine Zati 16 ?_; (first | (refine Zew rfl Zxpt ?_) | (refine Zew rfl Zxpf ?_)); refine Zew rfl Zab ?_) | (refine Zati 2 ?_; first | refine Zes ?_ | (refine Zew rfl Zmv ?_)) | (refine Zati 3 ?_; first | refine Zes ?_ | (refine Zew rfl Zmi ?_)) | (refine Zati 4 ?_; first | refine Zes ?_ | (refine Zew rfl (Val_indexAddrE1 rfl hB1 rfl rfl hil) ?_) | (refine Zew rfl (Val_indexAddrE1 rfl hA1 rfl rfl hkl) ?_) | (refine Zew rfl Zia ?_)) | (refine Zati 5 ?_; first | refine Zes ?_ | (refine Zew rfl (Val_loadR1 rfl hbB hcB) ?_) | (refine Zew rfl (Val_loadR1 rfl hbA hcA) ?_) | (refine Zew rfl Zld ?_)) | (refine Zati 6 ?_; first | refine Zes ?_ | (refine Zew rfl Zmv ?_)) | (refine Zati 7 ?_; first | refine Zes ?_ | (refine Zew rfl Zmi ?_)) | (refine Zati 8 ?_; first | refine Zes ?_ | (refine Zew rfl (Val_indexAddrE1 rfl hB1 rfl rfl hil) ?_) | (refine Zew rfl (Val_indexAddrE1 rfl hA1 rfl rfl hkl) ?_) | (refine Zew rfl Zia ?_)) | (refine Zati 9 ?_; first | refine Zes ?_ | (refine Zew rfl (Val_loadR1 rfl hbB hcB) ?_) | (refine Zew rfl (Val_loadR1 rfl hbA hcA) ?_) | (refine Zew rfl Zld ?_)) | (refine Zati 10 ?_; first | refine Zes ?_ | (refine Zew rfl Zxsub ?_)) | (refine Zati 11 ?_; first | refine Zes ?_ | (refine Zew rfl Zf0 ?_)) | (refine Zati 12 ?_; first | refine Zes ?_ | (refine Zew rfl (Val_loadR1 rfl hbB hcB) ?_) | (refine Zew rfl (Val_loadR1 rfl hbA hcA) ?_) | (refine Zew rfl Zld ?_)) | (refine Zati 13 ?_; first | refine Zes ?_ | (refine Zew rfl Zfa ?_)) | (refine Zati 14 ?_; first | refine Zes ?_ | (refine Zew rfl (Val_loadR1 rfl hbB hcB) ?_) | (refine Zew rfl (Val_loadR1 rfl hbA hcA) ?_) | (refine Zew rfl Zld ?_)) | (refine Zati 15 ?_; first | refine Zes ?_ | (refine Zec rfl (Enters_fn rfl) (fun X => hin' _) ?_)) | (with_reducible apply EWalk_nil)) | (refine AnyO_done (by kernel_rfl) ?_; (try with_reducible apply noP_normal); try with_reducible exact key.out) | (refine Zhn ?_) | (with_reducible apply QBlock_normal) | (refine AWalk_0 ?_; refine ZisO ?_))
        all_goals exact QLoop_normal (i + 1, q) (.cons rfl (.cons rfl .nil)) (by repeat (first | exact Off.frame rfl | exact Off.refl _ _ | refine Off.frameT rfl rfl ?_ | refine Off.upd rfl ?_ | refine Off.updO rfl ?_)) (by repeat (first | exact Wk.refl _ | apply Wk.keep1 | apply Wk.drop | apply Wk.sv | apply Wk.svD | apply Wk.appD)) ⟨by dsimp only; omega, by dsimp only; rw [hnext]⟩ (by dsimp only; omega)
    · have hie : i = nx.length := by omega
      rw [hie, List.take_length] at hfd
      rw [← hfd] at hsn
      cases fd with
      | true =>
        rw [if_pos rfl] at hsn
        repeat' (first | (refine GiP ?_; first | (refine Znh ?_) | (with_reducible refine Znl ?_)) | (refine GiW ?_; first | (refine Zsq fun K hK => ?_) | (refine ZrN 7 fun _ => ?_; refine Zv Zmi ?_; refine Zv Zmv ?_; refine Zv Zxlen ?_; refine Zv Zylss ?_) | (refine ZrN 10 fun _ => ?_; refine Zv Zmb ?_) | (refine ZrN 11 fun _ => ?_; refine Zv Zmv ?_; refine Zv Zmv ?_; refine Zv Zmi ?_; (first | (refine Zv (Val_indexAddrE1 rfl hA1 rfl rfl hkl) ?_) | (refine Zv Zia ?_)); (first | (refine Zv (Val_loadR1 rfl hbA hcA) ?_) | (refine Zv Zld ?_)); refine Zal 46 fun b46 => ?_; refine Zag (fun s47 hs47 => ?_); refine Zv Zav ?_) | (refine ZrN 4 fun _ => ?_; refine Zv Zmi ?_; refine Zv Zxadd ?_; refine Zv Zai ?_) | (refine WP_cond_true rfl ?_) | (refine WP_cond_false rfl ?_) | (with_reducible apply WP_exit)) | (refine Zhn ?_) | (with_reducible apply QBlock_normal) | (refine Zhx ?_) | (with_reducible apply QBlock_hit) | (with_reducible apply QLoop_exit))
        have e1 : (rows ++ [a]).length = rows.length + 1 := by rw [List.length_append]; rfl
        all_goals refine QLoop_normal (k + 1, rows ++ [a], s47) (.cons (by dsimp only; rw [e1]; rfl) (.cons rfl .nil)) (by repeat (first | exact Off.frame rfl | exact Off.refl _ _ | refine Off.frameT rfl rfl ?_ | refine Off.upd rfl ?_ | refine Off.updO rfl ?_)) ?_ ⟨by dsimp only; omega, by dsimp only; rw [← hp, hsn], by dsimp only; rw [e1, intL_snoc]; exact hs47⟩ (by dsimp only; omega)
        all_goals dsimp only
        all_goals rw [e1, intL_snoc]
        all_goals exact (by repeat (first | exact Wk.refl _ | apply Wk.keep1 | apply Wk.drop | apply Wk.sv | apply Wk.svD | apply Wk.appD))
      | false =>
        rw [if_neg (by simp), List.append_nil] at hsn
        repeat' (first | (refine GiP ?_; first | (refine Znh ?_) | (with_reducible refine Znl ?_)) | (refine GiW ?_; first | (refine Zsq fun K hK => ?_) | (refine ZrN 7 fun _ => ?_; refine Zv Zmi ?_; refine Zv Zmv ?_; refine Zv Zxlen ?_; refine Zv Zylss ?_) | (refine ZrN 10 fun _ => ?_; refine Zv Zmb ?_) | (refine ZrN 4 fun _ => ?_; refine Zv Zmi ?_; refine Zv Zxadd ?_; refine Zv Zai ?_) | (refine WP_cond_false rfl ?_) | (with_reducible apply WP_skip) | (with_reducible apply WP_exit)) | (refine Zhn ?_) | (with_reducible apply QBlock_normal) | (refine Zhx ?_) | (with_reducible apply QBlock_hit) | (with_reducible apply QLoop_exit))
        all_goals exact QLoop_normal (k + 1, rows, s) (.cons rfl (.cons rfl .nil)) (by repeat (first | exact Off.frame rfl | exact Off.refl _ _ | refine Off.frameT rfl rfl ?_ | refine Off.upd rfl ?_ | refine Off.updO rfl ?_)) (by repeat (first | exact Wk.refl _ | apply Wk.keep1 | apply Wk.drop | apply Wk.sv | apply Wk.svD | apply Wk.appD)) ⟨by dsimp only; omega, by dsimp only; rw [← hp, hsn], hs⟩ (by dsimp only; omega)
  · have hke : k = l.length := by omega
    subst hke
    rw [List.take_length] at hrows
    subst hrows
    repeat' (first | (refine Znh ?_) | (refine GiW ?_; first | (refine Zsq fun K hK => ?_) | (refine ZrN 3 fun _ => ?_; refine Zv Zmi ?_; refine Zv Zmv ?_; refine Zv Zxlen ?_; refine Zv Zylss ?_) | (refine ZrN 12 fun _ => ?_; refine Zv Zmv ?_; refine Zv Zav ?_) | (refine WP_cond_false rfl ?_) | (with_reducible apply WP_exit) | (with_reducible apply WP_ret)) | (refine Zhn ?_) | (refine Zhx ?_) | (with_reducible apply QBlock_hit) | (with_reducible apply QLoop_exit))
    exact QBody_ret1 rfl rfl ⟨_, (by repeat (first | exact Wk.refl _ | apply Wk.keep1 | apply Wk.drop | apply Wk.sv | apply Wk.svD | apply Wk.appD)), _, rfl, s, rfl, hs, rfl⟩
end
end Go.Proofs.Ytkaadefndcbdnaa
end

section
namespace Go.Proofs.Ytkaadefndcbdnaa
open Go.RowKit
theorem cell_lt {w : World} {b o : Nat} {v : Value} (h : w.cell? ⟨b, o, none⟩ = some v) : b < w.heap.size := by
  unfold World.cell? at h
  apply Classical.byContradiction
  intro hn
  rw [Array.getElem?_eq_none (by dsimp only; omega)] at h
  simp at h
/-- A list that was laid anew, as it lies. -/
theorem RdL.now {X L : Hp} {v : Value} {row : List Int} (h : RdL X v row) {N : Nat} {w0 w : World} (hI : Inv N w0 L w) (k : Wk L X) : ∃ A c, v = .slice A row.length c ∧ IsL w.heap.size w A row := by
  obtain ⟨A, c, h1, h2⟩ := h
  refine ⟨A, c, h1, fun i hi => ?_⟩
  have hi2 : i < row.length := by simpa using hi
  obtain ⟨b, h3, h4⟩ := h2 i row[i] (List.getElem?_eq_getElem hi2)
  have h5 := h4 N w0 w (hI.wk k)
  refine ⟨b, 0, h3, cell_lt h5, fun j u hj => ?_⟩
  simp only [List.getElem_map] at hj
  match j, hj with
  | 0, hj =>
    simp only [List.getElem?_cons_zero, Option.some.injEq] at hj
    subst hj
    rw [Nat.zero_add, Nat.mul_one, Nat.add_zero]
    exact h5
  | j + 1, hj => simp at hj
theorem RdL.is {X : Hp} {A : Option Addr} {n c : Nat} {row : List Int} (h : RdL X (.slice A n c) row) {N : Nat} {w0 w : World} {L : Hp} (hI : Inv N w0 L w) (k : Wk L X) : IsL w.heap.size w A row ∧ n = row.length := by
  obtain ⟨A', c', h1, h2⟩ := h.now hI k
  simp only [Value.slice.injEq] at h1
  obtain ⟨rfl, rfl, _⟩ := h1
  exact ⟨h2, rfl⟩
/-- What there can have been by each day, of costs, by the counts of a set. -/
def wayL (s : Sd) (set : Nat) (cs : List Int) : List (List Int) := if canS (only s set) cs then (daysS (only s set) cs).map vals else []
/-- What is appended to a row, wherever it stands. -/
theorem RdV.mono {X L : Hp} {vals : List Value} {rows : List (List Int)} (h : RdV X vals rows) (k : Wk L X) : RdV L vals rows := h.wk k
theorem Up.app {b : Nat} {φ φ' : Obj → Prop} {L L' : Hp} (X : Hp) (h : Up L b φ φ' L') : Up (X ++ L) b φ φ' (X ++ L') := by
  induction X with
  | nil => exact h
  | cons x X ih => exact .there ih
def rowsA (s : Sd) (c : List Int) (d : Nat) : List (List Int) := (List.range d).map fun j => vals (mAt s c (j + 1))
theorem rowsA_snoc (s : Sd) (c : List Int) (d : Nat) : rowsA s c (d + 1) = rowsA s c d ++ [vals (mAt s c (d + 1))] := by
  unfold rowsA; rw [List.range_succ, List.map_append]; rfl
theorem rowsA_len (s : Sd) (c : List Int) (d : Nat) : (rowsA s c d).length = d := by simp [rowsA]
theorem wayL_none {s : Sd} {set : Nat} {cs : List Int} {d : Nat} (hd : d < s.days.length) (h : (mAt (only s set) cs (d + 1)).2 < (mAt (only s set) cs (d + 1)).1) : wayL s set cs = [] := by
  unfold wayL
  rw [if_neg]
  intro hc
  have := can_at.1 hc d hd
  omega
theorem rdl_zero (b : Nat) : RdL [(b, Blk 3 [.int .i64 0])] (.slice (some ⟨b, 0, none⟩) 1 1) (vals ((0, 0) : Sp)) := by
  refine ⟨some ⟨b, 0, none⟩, 1, rfl, fun j x hj => ⟨b, rfl, fun N w0 w hI => ?_⟩⟩
  rw [hI.cell .here]
  rw [show vals ((0, 0) : Sp) = [0] from rfl] at hj
  match j, hj with
  | 0, hj => simp at hj; subst hj; rfl
  | j + 1, hj => simp at hj
/-- What goes on to the end, from a day on. -/
def bw (s : Sd) (c : List Int) (e : Nat) : List Sp := bwd (((List.range s.days.length).map fun j => mAt s c (j + 1)).drop e) ((s.days.drop 1).drop e)
theorem bw_last {s : Sd} {c : List Int} {n : Nat} (h : s.days.length = n + 1) : bw s c n = [mAt s c (n + 1)] := by
  unfold bw
  rw [h, List.drop_eq_getElem_cons (by simp), List.getElem_map, List.getElem_range, List.drop_of_length_le (by simp), List.drop_drop, List.drop_of_length_le (by omega)]
  rfl
theorem bw_step {s : Sd} {c : List Int} {e : Nat} (h : e + 1 < s.days.length) {r : Sp} {rs : List Sp} (hr : bw s c (e + 1) = r :: rs) : bw s c e = (max (mAt s c (e + 1)).1 (r.1 - s.days[e + 1].2), min (mAt s c (e + 1)).2 (r.2 - s.days[e + 1].1)) :: r :: rs := by
  have h1 : (((List.range s.days.length).map fun j => mAt s c (j + 1)).drop e) = mAt s c (e + 1) :: (((List.range s.days.length).map fun j => mAt s c (j + 1)).drop (e + 1)) := by
    rw [List.drop_eq_getElem_cons (by simp; omega), List.getElem_map, List.getElem_range]
  have h2 : ((s.days.drop 1).drop e) = s.days[e + 1] :: ((s.days.drop 1).drop (e + 1)) := by
    rw [List.drop_eq_getElem_cons (by rw [List.length_drop]; omega), List.getElem_drop]
    congr 1
    congr 1
    omega
  unfold bw at hr ⊢
  rw [h1, h2]
  unfold bwd
  rw [hr]
theorem bw_zero {s : Sd} {c : List Int} (h : canS s c = true) : daysS s c = bw s c 0 := by
  unfold daysS bw
  rw [if_pos h, fwd_all h]; rfl
/-- From a day on there is one for each day. -/
theorem bw_cons {s : Sd} {c : List Int} : ∀ (n e : Nat), e + n + 1 = s.days.length → ∃ r rs, bw s c e = r :: rs ∧ rs.length = n ∧ (∀ k, k ≤ n → bw s c (e + k) = (r :: rs).drop k)
  | 0, e, h => by
    refine ⟨_, [], bw_last h.symm, rfl, fun k hk => ?_⟩
    rw [show k = 0 by omega]; exact bw_last h.symm
  | n + 1, e, h => by
    obtain ⟨r, rs, h1, h2, h3⟩ := bw_cons (s := s) (c := c) n (e + 1) (by omega)
    have h4 := bw_step (s := s) (c := c) (e := e) (by omega) h1
    refine ⟨_, _, h4, by rw [List.length_cons, h2], fun k hk => ?_⟩
    cases k with
    | zero => exact h4
    | succ k =>
      rw [show e + (k + 1) = e + 1 + k by omega, h3 k (by omega)]; rfl
theorem bw_head {s : Sd} (v : VS s) {c : List Int} (hc : CIn s.spits c) (hl : c.length = s.spits.length) (hcan : canS s c = true) {e : Nat} (he : e < s.days.length) {r : Sp} {rs : List Sp} (hr : bw s c e = r :: rs) : r.1 ≤ r.2 ∧ 0 ≤ r.1 ∧ r.2 ≤ 600 := by
  have ht : pad3 c ∈ toldC s := List.mem_filter.2 ⟨rowsC_iff.2 ⟨c, hl, hc, rfl⟩, by rw [canS_pad hc]; exact hcan⟩
  have h1 := day_le v ht he
  have h2 := day_bd v ht he
  obtain ⟨r0, rs0, h3, h4, h5⟩ := bw_cons (s := s) (c := c) (s.days.length - 1) 0 (by omega)
  have h6 := h5 e (by omega)
  rw [Nat.zero_add, hr] at h6
  have h7 : dayS s (pad3 c) e = r := by
    unfold dayS
    rw [daysS_pad hc, bw_zero hcan, h3, List.getD_eq_getElem?_getD]
    have : (r0 :: rs0)[e]? = ((r0 :: rs0).drop e)[0]? := by rw [List.getElem?_drop, Nat.add_zero]
    rw [this, ← h6]; rfl
  rw [h7] at h1 h2
  omega
def rowsB (s : Sd) (c : List Int) (e : Nat) : List (List Int) := rowsA s c e ++ (bw s c e).map vals
theorem rowsB_last {s : Sd} {c : List Int} {n : Nat} (h : s.days.length = n + 1) : rowsB s c n = rowsA s c (n + 1) := by
  unfold rowsB
  rw [bw_last h, rowsA_snoc]; rfl
theorem rowsB_step {s : Sd} {c : List Int} {e : Nat} (h : e + 1 < s.days.length) {r : Sp} {rs : List Sp} (hr : bw s c (e + 1) = r :: rs) : rowsB s c e = (rowsB s c (e + 1)).set e (vals (max (mAt s c (e + 1)).1 (r.1 - s.days[e + 1].2), min (mAt s c (e + 1)).2 (r.2 - s.days[e + 1].1))) ∧ (rowsB s c (e + 1))[e]? = some (vals (mAt s c (e + 1))) ∧ (rowsB s c (e + 1))[e + 1]? = some (vals r) := by
  unfold rowsB
  rw [bw_step h hr, hr, rowsA_snoc]
  have hl := rowsA_len s c e
  refine ⟨?_, ?_, ?_⟩
  · rw [List.append_assoc, List.set_append_right _ _ (by omega), hl, Nat.sub_self]; rfl
  · rw [List.append_assoc, List.getElem?_append_right (by omega), hl, Nat.sub_self]; rfl
  · rw [List.append_assoc, List.getElem?_append_right (by omega), hl, show e + 1 - e = 1 by omega]; rfl
theorem RdV.set {X : Hp} {vals : List Value} {rows : List (List Int)} (h : RdV X vals rows) (hl : vals.length = rows.length) {i : Nat} {u : Value} {row : List Int} (hu : RdL X u row) : RdV X (vals.set i u) (rows.set i row) := by
  intro k r hk
  rw [List.getElem?_set] at hk ⊢
  by_cases hik : i = k
  · rw [if_pos hik] at hk ⊢
    split at hk
    · rename_i h2
      rw [if_pos (by omega)]
      obtain rfl := Option.some.inj hk
      exact ⟨u, rfl, hu⟩
    · cases hk
  · rw [if_neg hik] at hk ⊢
    exact h k r hk
structure WaySt where
  d : Nat
  v : Value
  X : Hp
  vals : List Value
  s : Option (Nat × Nat)
attribute [local irreducible] AnyO AnyB QAny QB EWalk AWalk Ev WP OPS QThen QBlock QScope QLoop QBody Val New Turn Tri Enters PostA Blk Ro
attribute [local irreducible] AnyC QC
section
variable (N : Nat) (w0 : World)
/-- 'totals' of what was laid anew. -/
theorem totals_in (L : Hp) (g : Fg) (hA : SodAt N w0 g) (hv : VS g.s) (A : Option Addr) (c : Nat) (cs : List Int) (hC : IsL N w0 A cs) (hcin : CIn g.s.spits cs) (hl : cs.length = g.s.spits.length) (set : Nat) (hset : set ≤ 1000000) (d : Nat) (hd : d < g.s.days.length) (x : Sp) (hx : g.s.days[d] = x) (vb : Value) (m : Sp) (X : Hp) (hB : RdL X vb (vals m)) (hk : Wk L X) (hm : 0 ≤ m.1 ∧ m.1 ≤ m.2 ∧ m.2 ≤ 600) :
    Tri Try.prog N w0 L 117 [sodV g, .slice A g.s.spits.length c, .int .i64 (set : Int), .int .i64 (d : Int), vb].toArray fun y L2 => ∃ v, y = .returned v ∧ ∃ s, v = svV s (totL g.s cs set d m x).length ∧ svOk s 1 (totL g.s cs set d m x).length (intL (totL g.s cs set d m x)) ∧ L2 = svH 3 1 (totL g.s cs set d m x).length (intL (totL g.s cs set d m x)) s L := by
  have := Tri.re2 (P := Try.prog) (N := N) (w0 := w0) (L := L) (f := 117) (args := [sodV g, .slice A g.s.spits.length c, .int .i64 (set : Int), .int .i64 (d : Int), vb].toArray) (K := fun v X => ∃ s, v = svV s (totL g.s cs set d m x).length ∧ svOk s 1 (totL g.s cs set d m x).length (intL (totL g.s cs set d m x)) ∧ X = svH 3 1 (totL g.s cs set d m x).length (intL (totL g.s cs set d m x)) s []) (fun w hI => by
    obtain ⟨B, c2, rfl, hB2⟩ := hB.now hI hk
    refine (totals_tri w.heap.size w [] g (SodIn.at_ hA w hI) hv A c cs (SlAt.now hC hI) hcin hl set hset d hd x hx B c2 m hB2 hm).mono ?_
    rintro y L2 ⟨v, rfl, s, rfl, hs, rfl⟩
    exact ⟨_, rfl, _, (List.append_nil _).symm, s, rfl, hs, rfl⟩)
  refine this.mono ?_
  rintro y L2 ⟨v, rfl, X2, rfl, s, rfl, hs, rfl⟩
  exact ⟨_, rfl, s, rfl, hs, by rw [← svH_app]; rfl⟩
theorem back_in (L : Hp) (va vb : Value) (l nx : List Int) (X Y : Hp) (hA : RdL X va l) (hkX : Wk L X) (hB : RdL Y vb nx) (hkY : Wk L Y) (x : Sp) (hl : ∀ a ∈ l, 0 ≤ a ∧ a ≤ 1000) (hn : ∀ a ∈ nx, 0 ≤ a ∧ a ≤ 1000) (hll : l.length ≤ 1000) (hnl : nx.length ≤ 1000) :
    Tri Try.prog N w0 L 118 [va, vb, .agg [.int .i64 x.1, .int .i64 x.2].toArray].toArray fun y L2 => ∃ v, y = .returned v ∧ ∃ s, v = svV s (backL x l nx).length ∧ svOk s 1 (backL x l nx).length (intL (backL x l nx)) ∧ L2 = svH 3 1 (backL x l nx).length (intL (backL x l nx)) s L := by
  have := Tri.re2 (P := Try.prog) (N := N) (w0 := w0) (L := L) (f := 118) (args := [va, vb, .agg [.int .i64 x.1, .int .i64 x.2].toArray].toArray) (K := fun v X => ∃ s, v = svV s (backL x l nx).length ∧ svOk s 1 (backL x l nx).length (intL (backL x l nx)) ∧ X = svH 3 1 (backL x l nx).length (intL (backL x l nx)) s []) (fun w hI => by
    obtain ⟨A, c1, rfl, hA2⟩ := hA.now hI hkX
    obtain ⟨B, c2, rfl, hB2⟩ := hB.now hI hkY
    refine (back_tri w.heap.size w [] A c1 l hA2 B c2 nx hB2 x hl hn hll hnl).mono ?_
    rintro y L2 ⟨v, rfl, s, rfl, hs, rfl⟩
    exact ⟨_, rfl, _, (List.append_nil _).symm, s, rfl, hs, rfl⟩)
  refine this.mono ?_
  rintro y L2 ⟨v, rfl, X2, rfl, s, rfl, hs, rfl⟩
  exact ⟨_, rfl, s, rfl, hs, by rw [← svH_app]; rfl⟩
set_option maxHeartbeats 2000000 in
theorem way_tri (L : Hp) (g : Fg) (hA : SodAt N w0 g) (hv : VS g.s) (A : Option Addr) (c : Nat) (cs : List Int) (hC : IsL N w0 A cs) (hcin : CIn g.s.spits cs) (hl : cs.length = g.s.spits.length) (set : Nat) (hset : set ≤ 1000000) (hvo : VS (only g.s set)) :
    Tri Try.prog N w0 L 106 [sodV g, .slice A g.s.spits.length c, .int .i64 (set : Int)].toArray fun y L2 => ∃ v, y = .returned v ∧ ∃ X vals s, v = svV s (wayL g.s set cs).length ∧ svOk s 1 (wayL g.s set cs).length vals ∧ RdV X vals (wayL g.s set cs) ∧ L2 = X ++ svH 43 1 (wayL g.s set cs).length vals s L := by
  have hnd := hv.nd
  obtain ⟨so, hso⟩ : ∃ so, only g.s set = so := ⟨_, rfl⟩
  have hsd : so.days = g.s.days := by rw [← hso]; rfl
  rw [hso] at hvo
  refine Tri.fgt ?_
  refine tri_of_WP Try.func106 rfl (n := 60) rfl (by simp) ?_
  unfold sodV sdL
  repeat' (first | (refine Znh ?_) | (refine GiW ?_; first | (refine Zsq fun K hK => ?_) | (refine ZrN 0 fun _ => ?_; refine Zal 3 fun b3 => ?_; refine Zv Zav ?_) | (refine ZrN 1 fun _ => ?_; refine Zv Zav ?_) | (refine ZrN 2 fun _ => ?_; refine Zal 11 fun b11 => ?_; refine Zv Zav ?_) | (refine ZrN 3 fun _ => ?_; refine Zv Zai ?_) | (with_reducible apply WP_block)))
  have hr0 := rdl_zero b11
  refine WP_loop [6, 7, 8, 9, 12, 13, 14, 15, 16, 17, 18, 19, 20, 21, 22, 23, 24, 25, 26, 27, 28, 29, 30, 31] (fun st : WaySt => [(7, svV st.s st.d), (8, st.v), (9, .int .i64 (st.d : Int))]) (fun st => st.X ++ svH 43 1 st.d st.vals st.s ((b3, Blk 26 (sdL g)) :: L)) (fun st => st.d ≤ g.s.days.length ∧ RdL st.X st.v (Go.Proofs.Ytkaadefndcbdnaa.vals (mAt so cs st.d)) ∧ RdV st.X st.vals (rowsA so cs st.d) ∧ svOk st.s 1 st.d st.vals ∧ ∀ j, j ≤ st.d → (mAt so cs j).1 ≤ (mAt so cs j).2) (fun st => g.s.days.length - st.d) ⟨0, _, [(b11, Blk 3 [.int .i64 0])], [], none⟩ (.cons rfl (.cons rfl (.cons rfl .nil))) (Wk.refl _) (by refine ⟨Nat.zero_le _, hr0, ?_, svOk_nil _, ?_⟩; (intro i row hi; simp [rowsA] at hi); (intro j hj; dsimp only at hj; rw [show j = 0 by omega]; exact Int.le_refl _)) ?_
  rintro ⟨d, vb, X, vals, s⟩ j ⟨hd, hvb, hrd, hs, hne⟩
  dsimp only at hd hvb hrd hs hne ⊢
  unfold sdL
  by_cases hdl : d < g.s.days.length
  · obtain ⟨x, hx⟩ : ∃ x, g.s.days[d] = x := ⟨_, rfl⟩
    have hxv := hv.dy x (by rw [← hx]; exact List.getElem_mem hdl)
    have hmb := mAt_bd hvo (c := cs) d (by rw [hsd]; exact hd)
    have hm0 := hne d (Nat.le_refl _)
    have hgd : so.days.getD d (0, 0) = x := by rw [hsd, List.getD_eq_getElem?_getD, List.getElem?_eq_getElem hdl, hx]; rfl
    have hte : totL g.s cs set d (mAt so cs d) x = Go.Proofs.Ytkaadefndcbdnaa.vals (mAt so cs (d + 1)) := by
      show _ = Go.Proofs.Ytkaadefndcbdnaa.vals (stp so cs d (mAt so cs d) (so.days.getD d (0, 0)))
      rw [hgd, ← hso]
      rw [← hso] at hvo
      exact totL_eq hvo hcin (by rw [hso]; omega) (by rw [hso]; unfold far; omega)
    have htt := fun L' hk => totals_in N w0 L' g hA hv A c cs hC hcin hl set hset d hdl x hx vb (mAt so cs d) X hvb hk ⟨by omega, by omega, by omega⟩
    rw [hte] at htt
    obtain ⟨nx, hnx⟩ : ∃ nx, Go.Proofs.Ytkaadefndcbdnaa.vals (mAt so cs (d + 1)) = nx := ⟨_, rfl⟩
    rw [hnx] at htt
    unfold sodV sdL at htt
    by_cases hemp : nx.length = 0
    · have hwl := wayL_none (s := g.s) (set := set) (cs := cs) hdl (by rw [hso]; rw [← hnx, vals_length] at hemp; omega)
      repeat' (first | (refine Znh ?_) | (refine GiW ?_; first | (refine Zsq fun K hK => ?_) | (refine ZrN 4 fun _ => ?_; refine Zv Zmi ?_; refine Zv Zfa ?_; refine Zv Zld ?_; refine Zv Zxlen ?_; refine Zv Zylss ?_) | (refine ZrN 6 fun _ => ?_; refine Zv Zla ?_; refine Zv Zmv ?_; refine Zv Zmi ?_; refine Zv Zmi ?_; refine Zv Zmv ?_; refine OPS_retKS (Enters_fn rfl) (htt _ (Wk.appR X _)) rfl rfl rfl (fun v9 L9 h9 => ?_); obtain ⟨s9, rfl, hs9, rfl⟩ := h9; obtain ⟨A9, c9, e9, -⟩ := sv_slice (E := 3) hs9; rw [e9]; refine Zv Zav ?_) | (refine ZrN 7 fun _ => ?_; refine Zv Zmv ?_; refine Zv Zxlen ?_; refine Zv Zyeql ?_) | (refine ZrN 8 fun _ => ?_; refine Zv Zav ?_) | (refine WP_cond_true rfl ?_) | (with_reducible apply WP_skip) | (with_reducible apply WP_block) | (with_reducible apply WP_ret)) | (refine Zhn ?_) | (refine Zhr ?_) | (with_reducible apply QBlock_ret) | (with_reducible apply QLoop_ret))
      rw [hwl]
      exact QBody_ret1 rfl rfl ⟨L, (by repeat (first | exact Wk.refl _ | apply Wk.keep1 | apply Wk.drop | apply Wk.sv | apply Wk.svD | apply Wk.appD)), _, rfl, [], [], none, rfl, svOk_nil _, fun i row hi => by simp at hi, rfl⟩
    · have hne1 : (mAt so cs (d + 1)).1 ≤ (mAt so cs (d + 1)).2 := by
        rw [← hnx, vals_length] at hemp; omega
      repeat' (first | (refine GiP ?_; first | (refine Znh ?_) | (with_reducible refine Znl ?_)) | (refine GiW ?_; first | (refine Zsq fun K hK => ?_) | (refine ZrN 4 fun _ => ?_; refine Zv Zmi ?_; refine Zv Zfa ?_; refine Zv Zld ?_; refine Zv Zxlen ?_; refine Zv Zylss ?_) | (refine ZrN 6 fun _ => ?_; refine Zv Zla ?_; refine Zv Zmv ?_; refine Zv Zmi ?_; refine Zv Zmi ?_; refine Zv Zmv ?_; refine OPS_retKS (Enters_fn rfl) (htt _ (Wk.appR X _)) rfl rfl rfl (fun v9 L9 h9 => ?_); obtain ⟨s9, rfl, hs9, rfl⟩ := h9; have hrl := RdL.sv (E := 3) (L := X) (row := nx) hs9; obtain ⟨A9, c9, e9, -⟩ := sv_slice (E := 3) hs9; rw [e9] at hrl ⊢; refine Zv Zav ?_) | (refine ZrN 7 fun _ => ?_; refine Zv Zmv ?_; refine Zv Zxlen ?_; refine Zv Zyeql ?_) | (refine ZrN 9 fun _ => ?_; refine Zv Zmv ?_; refine Zv Zmv ?_; refine Zal 30 fun b30 => ?_; refine Zag (fun s31 hs31 => ?_); refine Zv Zav ?_) | (refine ZrN 5 fun _ => ?_; refine Zv Zmi ?_; refine Zv Zxadd ?_; refine Zv Zai ?_) | (refine WP_cond_true rfl ?_) | (refine WP_cond_false rfl ?_) | (with_reducible apply WP_skip) | (with_reducible apply WP_block)) | (refine Zhn ?_) | (with_reducible apply QBlock_normal))
      refine QLoop_normal ⟨d + 1, .slice A9 nx.length c9, svH 3 1 nx.length (intL nx) s9 X, vals ++ [.slice A9 nx.length c9], s31⟩ (.cons rfl (.cons rfl (.cons rfl .nil))) (by repeat (first | exact Off.frame rfl | exact Off.refl _ _ | refine Off.frameT rfl rfl ?_ | refine Off.upd rfl ?_ | refine Off.updO rfl ?_)) ?_ ⟨by dsimp only; omega, by dsimp only; rw [hnx]; exact hrl, ?_, hs31, fun j hj => ?_⟩ (by dsimp only; omega)
      · dsimp only
        rw [← svH_app]
        exact (by repeat (first | exact Wk.refl _ | apply Wk.keep1 | apply Wk.drop | apply Wk.sv | apply Wk.svD | apply Wk.appD))
      · dsimp only
        rw [rowsA_snoc, hnx]
        exact (hrd.wk (Wk.svD (Wk.refl _))).snoc (by rw [rowsA_len]; have := hs.1; omega) hrl
      · dsimp only at hj
        by_cases hjd : j = d + 1
        · rw [hjd]; exact hne1
        · exact hne j (by omega)
  · have hde : d = g.s.days.length := by omega
    subst hde
    have hcan : canS so cs = true := can_at.2 fun j hj => hne (j + 1) (by rw [hsd] at hj; omega)
    repeat' (first | (refine Znh ?_) | (refine GiW ?_; first | (refine Zsq fun K hK => ?_) | (refine ZrN 4 fun _ => ?_; refine Zv Zmi ?_; refine Zv Zfa ?_; refine Zv Zld ?_; refine Zv Zxlen ?_; refine Zv Zylss ?_) | (refine ZrN 10 fun _ => ?_; refine Zv Zfa ?_; refine Zv Zld ?_; refine Zv Zxlen ?_; refine Zv Zxsub ?_; refine Zv Zai ?_) | (refine WP_cond_false rfl ?_) | (with_reducible apply WP_block) | (with_reducible apply WP_exit)) | (refine Zhn ?_) | (refine Zhx ?_) | (with_reducible apply QBlock_hit) | (with_reducible apply QLoop_exit))
    obtain ⟨n, hn⟩ : ∃ n, g.s.days.length = n + 1 := ⟨g.s.days.length - 1, by omega⟩
    have hdn : so.days.length = n + 1 := by rw [hsd]; exact hn
    have hlo : cs.length = so.spits.length := by rw [hl, ← hso]; rfl
    have hcio : CIn so.spits cs := by rw [← hso]; exact hcin
    have hwl : wayL g.s set cs = rowsB so cs 0 := by unfold wayL; rw [hso, if_pos hcan, bw_zero hcan]; unfold rowsB rowsA; simp
    have hwn : (wayL g.s set cs).length = n + 1 := by
      obtain ⟨r0, rs0, h1, h2, _⟩ := bw_cons (s := so) (c := cs) n 0 (by omega)
      rw [hwl]; unfold rowsB; rw [h1, List.length_append, rowsA_len, List.length_map, List.length_cons, h2]; omega
    obtain ⟨bs, cap, rfl⟩ : ∃ b c, s = some (b, c) := by
      cases s with
      | none => exact absurd (hs.2 rfl) (by omega)
      | some q => exact ⟨q.1, q.2, rfl⟩
    have hvl : vals.length = n + 1 := by have := hs.1; omega
    rw [hn] at hrd
    rw [hn, svV_some, svH_some]
    have hs0 : ((n + 1 : Nat) : Int) - 2 = (n : Int) - 1 := by omega
    rw [hs0]
    refine WP_loop [10, 36, 37, 38, 39, 40, 41, 42, 43, 44, 45, 46, 47, 48, 49, 50, 51, 52, 53, 54, 55, 56, 57, 58] (fun st : WaySt => [(10, .int .i64 ((st.d : Int) - 1))]) (fun st => st.X ++ ((bs, Row 43 1 (n + 1) cap st.vals) :: (b3, Blk 26 [.slice g.A1 g.s.spits.length g.c1, .slice g.A2 (n + 1) g.c2, .slice g.A3 g.s.logs.length g.c3]) :: L)) (fun st => st.d ≤ n ∧ RdV st.X st.vals (rowsB so cs st.d) ∧ st.vals.length = n + 1) (fun st => st.d) ⟨n, vb, X, vals, none⟩ (.cons rfl .nil) (Wk.refl _) ⟨Nat.le_refl _, by dsimp only; rw [rowsB_last hdn]; exact hrd, hvl⟩ ?_
    clear hrd hvl hvb hs
    rintro ⟨e, _, X2, vals2, _⟩ j2 ⟨hen, hrd, hvl⟩
    dsimp only at hen hrd hvl ⊢
    by_cases he : e = 0
    · subst he
      repeat' (first | (refine Znh ?_) | (refine GiW ?_; first | (refine Zsq fun K hK => ?_) | (refine ZrN 11 fun _ => ?_; refine Zv Zmi ?_; refine Zv Zygeq ?_) | (refine ZrN 14 fun _ => ?_; refine Zv Zmv ?_; refine Zv Zav ?_) | (refine WP_cond_false rfl ?_) | (with_reducible apply WP_exit) | (with_reducible apply WP_ret)) | (refine Zhn ?_) | (refine Zhx ?_) | (with_reducible apply QBlock_hit) | (with_reducible apply QLoop_exit))
      exact QBody_ret1 rfl rfl ⟨X2 ++ svH 43 1 (wayL g.s set cs).length vals2 (some (bs, cap)) L, by rw [hwn]; exact Wk.appK _ (.keep1 (.drop (.refl _))), _, rfl, X2, vals2, some (bs, cap), by rw [hwn]; rfl, ⟨by rw [hwn]; omega, fun h => by cases h⟩, by rw [hwl]; exact hrd, rfl⟩
    · obtain ⟨i, rfl⟩ : ∃ i, e = i + 1 := ⟨e - 1, by omega⟩
      have hid : i + 1 < g.s.days.length := by omega
      have hio : i + 1 < so.days.length := by omega
      obtain ⟨x, hx⟩ : ∃ x, g.s.days[i + 1] = x := ⟨_, rfl⟩
      have hxv := hv.dy x (by rw [← hx]; exact List.getElem_mem hid)
      have hxo : so.days[i + 1] = x := by rw [← hx]; congr 1
      obtain ⟨bD, oD, hD1, hbD, hcD⟩ := hA.days.row (i + 1) hid
      rw [hx] at hcD
      unfold spL at hcD
      obtain ⟨r, rs, hr, -, -⟩ := bw_cons (s := so) (c := cs) (n - (i + 1)) (i + 1) (by omega)
      obtain ⟨hr1, hr2, hr3⟩ := bw_head hvo hcio hlo hcan hio hr
      obtain ⟨hp1, hp2, hp3⟩ := rowsB_step hio hr
      rw [hxo, ← backL_eq hr1 (by omega)] at hp1
      obtain ⟨u1, hu1, hq1⟩ := hrd i _ hp2
      obtain ⟨u2, hu2, hq2⟩ := hrd (i + 1) _ hp3
      have hmb := mAt_bd hvo (c := cs) (i + 1) (by omega)
      have hbk := fun L' hk => back_in N w0 L' u1 u2 _ _ X2 X2 hq1 hk hq2 hk x (fun a ha => by have := vals_iff.1 ha; omega) (fun a ha => by have := vals_iff.1 ha; omega) (by rw [vals_length]; omega) (by rw [vals_length]; omega)
      obtain ⟨nr, hnr⟩ : ∃ nr, backL x (Go.Proofs.Ytkaadefndcbdnaa.vals (mAt so cs (i + 1))) (Go.Proofs.Ytkaadefndcbdnaa.vals r) = nr := ⟨_, rfl⟩
      rw [hnr] at hbk hp1
      have hi1 : ((i + 1 : Nat) : Int) - 1 = ((i : Nat) : Int) := by omega
      have hi2 : (i : Int) + 1 = ((i + 1 : Nat) : Int) := by omega
      rw [hi1]
      have hR1 : ∀ L', Mem bs (Row 43 1 (n + 1) cap vals2) L' → Rd N w0 L' bs (0 + i) u1 := fun L' hm => rd_row hm hu1
      have hR2 : ∀ L', Mem bs (Row 43 1 (n + 1) cap vals2) L' → Rd N w0 L' bs (0 + (i + 1)) u2 := fun L' hm => rd_row hm hu2
      have hset : ∀ u : Value, setL vals2 (0 + i) [u] = vals2.set i u := fun u => by rw [Nat.zero_add]; rfl
      have hil : i < n + 1 := by omega
      have hil2 : i + 1 < n + 1 := by omega
      have hidn : i + 1 < n + 1 := by omega
      repeat' (first | (refine Znh ?_) | (refine GiW ?_; first | (refine Zsq fun K hK => ?_) | (refine ZrN 11 fun _ => ?_; refine Zv Zmi ?_; refine Zv Zygeq ?_) | (refine WP_cond_true rfl ?_) | (with_reducible apply WP_skip) | (with_reducible apply WP_block)) | (refine Zhn ?_))
      repeat' (first | (refine GiP ?_; first | (with_reducible refine Znl ?_) | (refine Zatd 57 ?_; refine OPS_retKS (Enters_fn rfl) (hbk _ (Wk.appR X2 _)) rfl rfl rfl (fun v9 L9 h9 => ?_); obtain ⟨s9, rfl, hs9, rfl⟩ := h9; have hrl := RdL.sv (E := 3) (L := X2) (row := nr) hs9; obtain ⟨A9, c9, e9, -⟩ := sv_slice (E := 3) hs9; rw [e9] at hrl ⊢) | (refine Zatd 58 ?_; refine Zv (Val_indexAddr1 rfl rfl rfl hil) ?_) | (refine Zatn ?_; refine OPS_turnN (Turn_storeRow rfl rfl (by repeat (first | exact Up.here | apply Up.there | apply Up.sv | apply Up.app)) rfl (by dsimp only [List.length]; omega) (hset _) rfl rfl) rfl rfl ?_)) | (refine GiW ?_; first | (refine ZrN 12 fun _ => ?_; refine Zv Zmi ?_; refine Zv Zxsub ?_; refine Zv Zai ?_) | (refine WP_drawnS (id := 13) [0, 1] [0, 1, 2, 3, 4, 5, 6, 7, 8, 9, 10, 11, 12, 13, 14, 15, 16] [] [40, 41] (k := 1) (k2 := 2) (by repeat (first | apply Sub.sv | apply Sub.keep | apply Sub.appK | exact Sub.refl _)) (by kernel_rfl) prog_mixed (by kernel_rfl) (by kernel_rfl) rfl ?_; refine Zew rfl Zmv ?_; refine Zew rfl Zmi ?_; refine Zew rfl Zmv ?_; refine Zew rfl Zmi ?_; (first | (refine Zew rfl (Val_indexAddr1 rfl rfl rfl hil) ?_) | (refine Zew rfl (Val_indexAddr1 rfl rfl hi2 hil2) ?_) | (refine Zew rfl (Val_indexAddrE rfl hD1 rfl hi2 hidn) ?_) | (refine Zew rfl Zia ?_)); (first | (refine Zew rfl (Val_loadD1 rfl (hR1 _ (by repeat (first | exact Mem.here | assumption | apply Mem.there | apply Mem.sv | apply Mem.app)))) ?_) | (refine Zew rfl (Val_loadD1 rfl (hR2 _ (by repeat (first | exact Mem.here | assumption | apply Mem.there | apply Mem.sv | apply Mem.app)))) ?_) | (refine Zew rfl (Val_loadRN rfl hbD hcD rfl) ?_) | (refine Zew rfl Zld ?_)); refine Zew rfl Zmv ?_; refine Zew rfl Zmi ?_; refine Zew rfl Zxadd ?_; (first | (refine Zew rfl (Val_indexAddr1 rfl rfl rfl hil) ?_) | (refine Zew rfl (Val_indexAddr1 rfl rfl hi2 hil2) ?_) | (refine Zew rfl (Val_indexAddrE rfl hD1 rfl hi2 hidn) ?_) | (refine Zew rfl Zia ?_)); (first | (refine Zew rfl (Val_loadD1 rfl (hR1 _ (by repeat (first | exact Mem.here | assumption | apply Mem.there | apply Mem.sv | apply Mem.app)))) ?_) | (refine Zew rfl (Val_loadD1 rfl (hR2 _ (by repeat (first | exact Mem.here | assumption | apply Mem.there | apply Mem.sv | apply Mem.app)))) ?_) | (refine Zew rfl (Val_loadRN rfl hbD hcD rfl) ?_) | (refine Zew rfl Zld ?_)); refine Zew rfl Zfa ?_; (first | (refine Zew rfl (Val_loadD1 rfl (hR1 _ (by repeat (first | exact Mem.here | assumption | apply Mem.there | apply Mem.sv | apply Mem.app)))) ?_) | (refine Zew rfl (Val_loadD1 rfl (hR2 _ (by repeat (first | exact Mem.here | assumption | apply Mem.there | apply Mem.sv | apply Mem.app)))) ?_) | (refine Zew rfl (Val_loadRN rfl hbD hcD rfl) ?_) | (refine Zew rfl Zld ?_)); refine Zew rfl Zmi ?_; refine Zew rfl Zxadd ?_; (first | (refine Zew rfl (Val_indexAddr1 rfl rfl rfl hil) ?_) | (refine Zew rfl (Val_indexAddr1 rfl rfl hi2 hil2) ?_) | (refine Zew rfl (Val_indexAddrE rfl hD1 rfl hi2 hidn) ?_) | (refine Zew rfl Zia ?_)); (first | (refine Zew rfl (Val_loadD1 rfl (hR1 _ (by repeat (first | exact Mem.here | assumption | apply Mem.there | apply Mem.sv | apply Mem.app)))) ?_) | (refine Zew rfl (Val_loadD1 rfl (hR2 _ (by repeat (first | exact Mem.here | assumption | apply Mem.there | apply Mem.sv | apply Mem.app)))) ?_) | (refine Zew rfl (Val_loadRN rfl hbD hcD rfl) ?_) | (refine Zew rfl Zla ?_)))) | (with_reducible apply EWalk_nil) | (refine GiC ?_; first | (refine ZgC [0, 1, 2, 3, 4, 5, 6, 7, 8, 9, 10, 11, 12, 13, 14, 15, 16] ?_; refine ZC1 _ 17 [0, 1, 2, 3, 4, 5, 6, 7, 8, 9, 10, 11, 12, 13, 14, 15, 16, 17] ?_) | (refine ZgC [0, 1, 2, 3, 4, 5, 6, 7, 8, 9, 10, 11, 12, 13, 14, 15, 16, 17] ?_; refine ZCl _ ?_)) | (refine GiO ?_; first | (refine ZgO [0, 1, 2, 3, 4, 5, 6, 7, 8, 9, 10, 11, 12, 13, 14, 15, 16, 17] ?_; refine ZO1 _ 18 [0, 1, 2, 3, 4, 5, 6, 7, 8, 9, 10, 11, 12, 13, 14, 15, 16, 17, 18] ?_) | (refine ZgO [0, 1, 2, 3, 4, 5, 6, 7, 8, 9, 10, 11, 12, 13, 14, 15, 16, 17, 18] ?_; refine ZO1 _ 19 [0, 1, 2, 3, 4, 5, 6, 7, 8, 9, 10, 11, 12, 13, 14, 15, 16, 17, 18, 19] ?_) | (refine ZgO [0, 1, 2, 3, 4, 5, 6, 7, 8, 9, 10, 11, 12, 13, 14, 15, 16, 17, 18, 19] ?_; refine ZOd _ ?_; (try with_reducible apply noP_normal); (try with_reducible exact key.out))) | (refine Zhn ?_) | (with_reducible apply QBlock_normal) | (refine AWalk_0 ?_) | (with_reducible apply QAny_normal) | (with_reducible apply QC_normal))
      refine QLoop_normal ⟨i, vb, svH 3 1 nr.length (intL nr) s9 X2, vals2.set i (.slice A9 nr.length c9), none⟩ (.cons rfl .nil) (by repeat (first | exact Off.frame rfl | exact Off.refl _ _ | refine Off.frameT rfl rfl ?_ | refine Off.upd rfl ?_ | refine Off.updO rfl ?_)) ?_ ⟨by dsimp only; omega, ?_, by dsimp only; rw [List.length_set]; exact hvl⟩ (by dsimp only; omega)
      · dsimp only
        rw [← svH_app]
        exact Wk.refl _
      · dsimp only
        rw [hp1]
        exact (hrd.wk (Wk.svD (Wk.refl _))).set (by
          obtain ⟨r0, rs0, h1, h2, _⟩ := bw_cons (s := so) (c := cs) (n - (i + 1)) (i + 1) (by omega)
          unfold rowsB; rw [h1, List.length_append, rowsA_len, List.length_map, List.length_cons, h2]; omega) hrl
end
end Go.Proofs.Ytkaadefndcbdnaa
end
