/- Layer sod in plain terms: a bank whose counts are right in a truth. -/
import Derived.Test.YtkaadefndcbdnaaQj
namespace Go.Proofs.Ytkaadefndcbdnaa
open Go.RowKit
theorem cutS_app : ∀ {ps : List Spt} {cs : List Int} (z : List Int) (n t : Int), CIn ps cs → cutS ps (cs ++ z) n t = cutS ps cs n t
  | [], cs, z, n, t, _ => by simp [cutS]
  | p :: ps, _, z, n, t, .cons (c := c) (cs := cs) h k => by
    rw [List.cons_append]
    unfold cutS
    rw [cutS_app z _ _ k]
theorem strk_app : ∀ {ps : List Spt} {cs : List Int} (z : List Int) (n k : Int), CIn ps cs → strk ps (cs ++ z) n k = strk ps cs n k
  | [], cs, z, n, k, _ => by simp [strk]
  | p :: ps, _, z, n, k, .cons (c := c) (cs := cs) h q => by
    rw [List.cons_append]
    unfold strk
    rw [strk_app z _ _ q]
/-- All strokes. -/
def totC : List Spt → List Int → Int
  | p :: ps, c :: cs => p.sods * c + totC ps cs
  | _, _ => 0
theorem strk_all : ∀ {ps : List Spt} {cs : List Int} (n : Int), SpOk ps → CIn ps cs → strk ps cs n ((ps.map (·.sods)).sum) = n + totC ps cs
  | [], cs, n, _, _ => by simp [strk, totC]
  | p :: ps, _, n, hp, .cons (c := c) (cs := cs) h q => by
    have h1 := sum_nonneg ps (fun x hx => (hp x (.tail _ hx)).1.1)
    rw [List.map_cons, List.sum_cons]
    unfold strk totC
    have e1 : min (p.sods + (ps.map (·.sods)).sum) p.sods = p.sods := by omega
    rw [e1, show p.sods + (ps.map (·.sods)).sum - p.sods = (ps.map (·.sods)).sum by omega, strk_all _ hp.tail q]
    omega
theorem totC_snoc : ∀ (ps : List Spt) (cs : List Int) (i : Nat) (hp : i < ps.length) (hc : i < cs.length), totC (ps.take (i + 1)) (cs.take (i + 1)) = totC (ps.take i) (cs.take i) + ps[i].sods * cs[i]
  | [], _, i, hp, _ => absurd hp (Nat.not_lt_zero _)
  | _ :: _, [], i, _, hc => absurd hc (Nat.not_lt_zero _)
  | p :: ps, c :: cs, 0, _, _ => by simp [totC]
  | p :: ps, c :: cs, i + 1, hp, hc => by
    have := totC_snoc ps cs i (by simpa using hp) (by simpa using hc)
    simp only [List.take_succ_cons, totC, List.getElem_cons_succ, this]
    omega
theorem totC_bd : ∀ {ps : List Spt} {cs : List Int}, SpOk ps → CIn ps cs → 0 ≤ totC ps cs ∧ totC ps cs ≤ 180 * ps.length
  | [], cs, _, _ => by simp [totC]
  | p :: ps, _, hp, .cons (c := c) (cs := cs) h q => by
    have := totC_bd hp.tail q
    have h1 := hp p (.head _)
    have h2 : p.sods * c ≤ 30 * 6 := Int.mul_le_mul (by omega) (by omega) (by omega) (by omega)
    have h3 : 0 ≤ p.sods * c := Int.mul_nonneg (by omega) (by omega)
    simp only [totC, List.length_cons]
    omega
/-- A count as wide as it was, and right. -/
def rightL (sp : List Spt) (cs ts : List Int) (l : Lg) : Lg :=
  ⟨l.day, max 0 (cutS sp cs 0 (ts.getD l.day.toNat 0) - min 20 (l.hi - l.lo) / 2), cutS sp cs 0 (ts.getD l.day.toNat 0) + min 20 (l.hi - l.lo) - min 20 (l.hi - l.lo) / 2⟩
def rightS (s : Sd) (cs ts : List Int) : Sd := { s with logs := s.logs.map (rightL s.spits cs ts) }
theorem steps_len : ∀ {xs : List Sp} {a : Int} {ts : List Int}, Steps a xs ts → ts.length = xs.length
  | [], _, ts, h => by rw [show ts = [] from h]; rfl
  | x :: xs, a, [], h => h.elim
  | x :: xs, a, t :: ts, h => by have := steps_len h.2.2; simp [this]
theorem steps_bd : ∀ {xs : List Sp} {a : Int} {ts : List Int}, (∀ x ∈ xs, 0 ≤ x.1 ∧ x.1 ≤ x.2 ∧ x.2 ≤ 100) → Steps a xs ts → ∀ t ∈ ts, a ≤ t ∧ t ≤ a + 100 * xs.length
  | [], _, ts, _, h, t, ht => by rw [show ts = [] from h] at ht; cases ht
  | x :: xs, a, [], _, h, t, ht => h.elim
  | x :: xs, a, u :: ts, hx, h, t, ht => by
    have h1 := hx x (.head _)
    obtain ⟨h2, h3, h4⟩ := h
    have h5 := steps_bd (fun y hy => hx y (.tail _ hy)) h4
    simp only [List.length_cons]
    rcases List.mem_cons.1 ht with rfl | ht
    · omega
    · have := h5 t ht
      omega
theorem sum_take_all {s : Sd} : ((s.spits.take s.spits.length).map (·.sods)).sum = (s.spits.map (·.sods)).sum := by rw [List.take_length]
section
variable {s : Sd} (v : VS s) {cs ts : List Int} (hc : CIn s.spits cs) (hl : cs.length = s.spits.length) (hs : Steps 0 s.days ts)
include v hc hs
theorem true_bd {d : Nat} {t : Int} (ht : ts[d]? = some t) : (0 ≤ t ∧ t ≤ 600) ∧ 0 ≤ cutS s.spits cs 0 t ∧ cutS s.spits cs 0 t ≤ 90 := by
  have h1 := steps_bd v.dy hs t (List.mem_of_getElem? ht)
  have h2 := v.nd
  have h3 := v.np
  have h4 := cutS_le s.spits cs t v.spOk hc (by omega)
  have h5 := sum_le s.spits fun p hp => (v.sp p hp).1.2
  exact ⟨by omega, cutS_nonneg s.spits cs t v.spOk hc (by omega), by omega⟩
theorem VS_right : VS (rightS s cs ts) := by
  refine ⟨v.np, v.nd, by show (s.logs.map _).length ≤ 4; rw [List.length_map]; exact v.nl, v.sp, v.dy, fun l h => ?_⟩
  obtain ⟨q, hq, rfl⟩ := List.mem_map.1 h
  obtain ⟨⟨h1, h2⟩, h3, h4, h5⟩ := v.lg q hq
  obtain ⟨d, hd⟩ : ∃ d : Nat, q.day = (d : Int) := ⟨q.day.toNat, by omega⟩
  have hdl : d < ts.length := by rw [steps_len hs]; omega
  have ht : ts[d]? = some ts[d] := List.getElem?_eq_getElem hdl
  obtain ⟨_, b1, b2⟩ := true_bd v hc hs ht
  unfold rightL
  rw [hd, Int.toNat_natCast, List.getD_eq_getElem?_getD, ht, Option.getD_some]
  dsimp only
  show (0 ≤ (d : Int) ∧ (d : Int) < s.days.length) ∧ _
  omega
include hl
omit v hs in
theorem rows_true : pad3 cs ∈ rowsC s := rowsC_iff.2 ⟨cs, hl, hc, rfl⟩
theorem tru_right : Tru (rightS s cs ts) (pad3 cs) ts := by
  refine tru_iff.2 ⟨rows_true hc hl, hs, fun l h => ?_⟩
  obtain ⟨q, hq, rfl⟩ := List.mem_map.1 h
  obtain ⟨⟨h1, h2⟩, h3, h4, h5⟩ := v.lg q hq
  intro k t hk ht
  have e : q.day = (k : Int) := hk
  obtain ⟨_, b1, b2⟩ := true_bd v hc hs ht
  show (rightL s.spits cs ts q).lo ≤ cutS s.spits (pad3 cs) 0 t ∧ cutS s.spits (pad3 cs) 0 t ≤ (rightL s.spits cs ts q).hi
  unfold pad3 rightL
  rw [cutS_app _ _ _ hc, e, Int.toNat_natCast, List.getD_eq_getElem?_getD, ht, Option.getD_some]
  dsimp only
  omega
omit hl hs in
theorem whole_true : wholeS (rightS s cs ts) (pad3 cs) s.spits.length = totC s.spits cs := by
  show strk s.spits (pad3 cs) 0 ((s.spits.take s.spits.length).map (·.sods)).sum = _
  rw [List.take_length]
  unfold pad3
  rw [strk_app _ _ _ hc, strk_all _ v.spOk hc, Int.zero_add]
theorem true_told : toldC (rightS s cs ts) ≠ [] := (told_ne (VS_right v hc hs)).2 ⟨_, _, tru_right v hc hl hs⟩
/-- What is returned of such a bank, by a day. -/
theorem true_day {d : Nat} {t : Int} (ht : ts[d]? = some t) {k : Nat} (hk : k ≤ s.spits.length) (hkp : ∀ p, p < s.spits.length → (sumT s (p + 1) ≤ cutS s.spits cs 0 t ↔ p < k)) :
    ((cutV (rightS s cs ts) d).1 ≤ cutS s.spits cs 0 t ∧ cutS s.spits cs 0 t ≤ (cutV (rightS s cs ts) d).2) ∧
    ((needV (rightS s cs ts) d).1 ≤ max 0 (totC s.spits cs - t) ∧ max 0 (totC s.spits cs - t) ≤ (needV (rightS s cs ts) d).2) ∧
    (∃ i j, i ≤ k ∧ k ≤ j ∧ j ≤ s.spits.length ∧ sureV (rightS s cs ts) d = 2 ^ i - 1 ∧ canV (rightS s cs ts) d = 2 ^ j - 1) ∧
    fitsV (rightS s cs ts) d (cutS s.spits cs 0 t, cutS s.spits cs 0 t) ≠ 0 ∧ (k = s.spits.length ↔ totC s.spits cs ≤ t) := by
  have vx := VS_right v hc hs
  have h0 := true_told v hc hl hs
  have hT := tru_right v hc hl hs
  have hd : d < (rightS s cs ts).days.length := by
    have := (List.getElem?_eq_some_iff.1 ht).1
    rw [steps_len hs] at this; exact this
  have ec : cutS (rightS s cs ts).spits (pad3 cs) 0 t = cutS s.spits cs 0 t := cutS_app _ _ _ hc
  have hcut := (cut_hull vx h0 hd).2.2 _ ⟨_, _, _, hT, ht, ec.symm⟩
  have hneed := (need_hull vx h0 hd).2.2 _ ⟨_, _, _, hT, ht, rfl⟩
  have ew := whole_true (ts := ts) v hc
  have hbd := true_bd v hc hs ht
  have hwc := whole_cut vx (hT.1) s.spits.length hbd.1.1 hbd.1.2
  have hcut2 := hcut
  rw [show (rightS s cs ts).spits.length = s.spits.length from rfl, ew] at hneed
  rw [ew, ec] at hwc
  have hwc : totC s.spits cs ≤ t ↔ sumT s s.spits.length ≤ cutS s.spits cs 0 t := hwc
  obtain ⟨i, hi1, hi2, hi3⟩ := sure_num vx h0 hd
  obtain ⟨j, hj1, hj2, hj3⟩ := can_num vx h0 hd
  have hnp := v.np
  refine ⟨hcut, hneed, ⟨i, j, ?_, ?_, hj1, hi2, hj2⟩, ?_, ?_⟩
  · apply Classical.byContradiction
    intro hlt
    have h1 := (hi3 k (by show k < s.spits.length; have : i ≤ s.spits.length := hi1; omega)).2 (by omega)
    have h2 := (hkp k (by have : i ≤ s.spits.length := hi1; omega)).1 (by have : sumT s (k + 1) ≤ _ := h1; omega)
    omega
  · apply Classical.byContradiction
    intro hlt
    have h2 := (hkp j (by omega)).2 (by omega)
    have h1 := (hj3 j (by show j < s.spits.length; omega)).1 (by show sumT s (j + 1) ≤ _; omega)
    omega
  · rcases fits_iff vx h0 hd (cutS s.spits cs 0 t, cutS s.spits cs 0 t) (Int.le_refl _) with ⟨h, _⟩ | ⟨h, _⟩ | ⟨_, _, h⟩
    · omega
    · omega
    · exact absurd ⟨_, _, _, hT, ht, by rw [ec]; exact ⟨Int.le_refl _, Int.le_refl _⟩⟩ h
  · rw [hwc]
    have := hkp (s.spits.length - 1) (by omega)
    rw [show s.spits.length - 1 + 1 = s.spits.length by omega] at this
    rw [this]
    omega
theorem true_cost {p : Nat} {c : Int} (h : cs[p]? = some c) : (costV (rightS s cs ts) p).1 ≤ c ∧ c ≤ (costV (rightS s cs ts) p).2 := by
  refine (cost_hull (VS_right v hc hs) (true_told v hc hl hs) p).2.2 _ ⟨_, _, tru_right v hc hl hs, ?_⟩
  have h1 := (List.getElem?_eq_some_iff.1 h).1
  unfold pad3
  rw [List.getD_eq_getElem?_getD, List.getElem?_append_left h1, h]
  rfl
theorem true_done {k : Nat} (hk : k ≤ s.days.length) (h1 : ∀ (j : Nat) (t : Int), j < k → ts[j]? = some t → t < totC s.spits cs) (h2 : ∀ t, ts[k]? = some t → totC s.spits cs ≤ t) : (doneV (rightS s cs ts)).1 ≤ (k : Int) ∧ (k : Int) ≤ (doneV (rightS s cs ts)).2 := by
  refine (done_hull (VS_right v hc hs) (true_told v hc hl hs)).2.2 _ ⟨_, _, tru_right v hc hl hs, ?_⟩
  unfold finS
  rw [show (rightS s cs ts).spits.length = s.spits.length from rfl, whole_true v hc]
  rw [firstG_eq (by rw [steps_len hs]; exact hk) h1 h2]
end
end Go.Proofs.Ytkaadefndcbdnaa
