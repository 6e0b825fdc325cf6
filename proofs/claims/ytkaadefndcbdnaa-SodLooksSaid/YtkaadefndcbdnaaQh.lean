/- The law SodCosts in plain terms: a cost by itself. -/
import Derived.Test.YtkaadefndcbdnaaQe
namespace Go.Proofs.Ytkaadefndcbdnaa
open Go.RowKit
/-- A bank of which a spit's cost is just so. -/
def setC (s : Sd) (p : Nat) (c : Int) : Sd := { s with spits := s.spits.set p ⟨(s.spits.getD p ⟨0, 0, 0⟩).sods, c, c⟩ }
theorem setC_get {s : Sd} {p : Nat} (hp : p < s.spits.length) : s.spits.getD p ⟨0, 0, 0⟩ = s.spits[p] := by
  rw [List.getD_eq_getElem?_getD, List.getElem?_eq_getElem hp]; rfl
theorem cutS_congr : ∀ (ps qs : List Spt) (cs : List Int) (n t : Int), ps.map (·.sods) = qs.map (·.sods) → cutS ps cs n t = cutS qs cs n t
  | [], [], cs, n, t, _ => rfl
  | p :: ps, q :: qs, [], n, t, _ => by simp [cutS]
  | p :: ps, q :: qs, c :: cs, n, t, h => by
    simp only [List.map_cons, List.cons.injEq] at h
    unfold cutS
    rw [h.1, cutS_congr ps qs cs _ _ h.2]
  | [], _ :: _, _, _, _, h => by simp at h
  | _ :: _, [], _, _, _, h => by simp at h
theorem setC_sods {s : Sd} {p : Nat} {c : Int} (hp : p < s.spits.length) : (setC s p c).spits.map (·.sods) = s.spits.map (·.sods) := by
  unfold setC
  rw [List.map_set, setC_get hp]
  have : (s.spits.map (·.sods))[p]? = some s.spits[p].sods := by rw [List.getElem?_map, List.getElem?_eq_getElem hp]; rfl
  apply List.ext_getElem?
  intro i
  by_cases hi : p = i
  · subst hi
    rw [List.getElem?_set_self (by simpa using hp), this]
  · rw [List.getElem?_set_ne hi]
theorem CIn_set : ∀ {ps : List Spt} {r : List Int} {p : Nat} {q : Spt}, r.length = ps.length → p < ps.length → (∀ x, ps[p]? = some x → x.lo ≤ q.lo ∧ q.lo = q.hi ∧ q.hi ≤ x.hi) → (CIn (ps.set p q) r ↔ CIn ps r ∧ r[p]? = some q.lo)
  | [], _, p, _, _, hp, _ => by simp at hp
  | x :: ps, [], p, q, hl, _, _ => by simp at hl
  | x :: ps, c :: r, 0, q, hl, _, h => by
    have hx := h x rfl
    simp only [List.set_cons_zero, List.getElem?_cons_zero, Option.some.injEq]
    constructor
    · intro hc
      cases hc with | cons h1 h2 => exact ⟨.cons (by omega) h2, by omega⟩
    · rintro ⟨hc, he⟩
      cases hc with | cons h1 h2 => exact .cons (by omega) h2
  | x :: ps, c :: r, p + 1, q, hl, hp, h => by
    have ih := CIn_set (ps := ps) (r := r) (p := p) (q := q) (by simpa using hl) (by simpa using hp) (fun y hy => h y (by simpa using hy))
    simp only [List.set_cons_succ, List.getElem?_cons_succ]
    constructor
    · intro hc
      cases hc with | cons h1 h2 => exact ⟨.cons h1 (ih.1 h2).1, (ih.1 h2).2⟩
    · rintro ⟨hc, he⟩
      cases hc with | cons h1 h2 => exact .cons h1 (ih.2 ⟨h2, he⟩)
section
variable {s : Sd} (v : VS s) {p : Nat} (hp : p < s.spits.length) {c : Int} (hc : s.spits[p].lo ≤ c ∧ c ≤ s.spits[p].hi)
include v hp hc
theorem VS_setC : VS (setC s p c) := by
  refine ⟨?_, v.nd, v.nl, fun q hq => ?_, v.dy, v.lg⟩
  · show 1 ≤ (s.spits.set p _).length ∧ (s.spits.set p _).length ≤ 3
    rw [List.length_set]; exact v.np
  · have h0 := v.sp _ (List.getElem_mem hp)
    rcases List.mem_or_eq_of_mem_set hq with hq | rfl
    · exact v.sp q hq
    · rw [setC_get hp]
      exact ⟨h0.1, by dsimp only; omega, by dsimp only; omega, by dsimp only; omega, by dsimp only; omega⟩
theorem rows_setC {cs : List Int} : cs ∈ rowsC (setC s p c) ↔ cs ∈ rowsC s ∧ cs.getD p 0 = c := by
  have hnp := v.np
  rw [rowsC_iff, rowsC_iff]
  have hl : (setC s p c).spits.length = s.spits.length := by show (s.spits.set p _).length = _; rw [List.length_set]
  have key : ∀ r : List Int, r.length = s.spits.length → ((CIn (setC s p c).spits r) ↔ CIn s.spits r ∧ r[p]? = some c) := fun r hr =>
    CIn_set (q := ⟨(s.spits.getD p ⟨0, 0, 0⟩).sods, c, c⟩) hr hp fun x hx => by
      rw [List.getElem?_eq_getElem hp] at hx
      simp only [Option.some.injEq] at hx
      subst hx
      exact ⟨hc.1, rfl, hc.2⟩
  have hpad : ∀ r : List Int, r.length = s.spits.length → (pad3 r).getD p 0 = r.getD p 0 := fun r hr => by
    unfold pad3
    rw [List.getD_eq_getElem?_getD, List.getD_eq_getElem?_getD, List.getElem?_append_left (by omega)]
  have hg : ∀ r : List Int, r.length = s.spits.length → (r[p]? = some c ↔ r.getD p 0 = c) := fun r hr => by
    rw [List.getD_eq_getElem?_getD, List.getElem?_eq_getElem (by omega)]
    simp
  constructor
  · rintro ⟨r, h1, h2, rfl⟩
    rw [hl] at h1
    obtain ⟨h3, h4⟩ := (key r h1).1 h2
    exact ⟨⟨r, h1, h3, rfl⟩, by rw [hpad r h1]; exact (hg r h1).1 h4⟩
  · rintro ⟨⟨r, h1, h2, rfl⟩, h3⟩
    rw [hpad r h1] at h3
    exact ⟨r, by rw [hl]; exact h1, (key r h1).2 ⟨h2, (hg r h1).2 h3⟩, rfl⟩
theorem tru_setC {cs ts : List Int} : Tru (setC s p c) cs ts ↔ Tru s cs ts ∧ cs.getD p 0 = c := by
  rw [tru_iff, tru_iff, rows_setC v hp hc]
  have hR : ∀ l, Right (setC s p c).spits cs ts l ↔ Right s.spits cs ts l := fun l => by
    unfold Right
    simp only [cutS_congr _ _ cs 0 _ (setC_sods hp)]
  simp only [hR]
  exact ⟨fun ⟨⟨a, b⟩, c, d⟩ => ⟨⟨a, c, d⟩, b⟩, fun ⟨⟨a, c, d⟩, b⟩ => ⟨⟨a, b⟩, c, d⟩⟩
end
/-- The span of those that were found so far. -/
def jo (l : List Sp) : Sp := l.foldl (fun a x => (min a.1 x.1, max a.2 x.2)) (1048576, -1)
theorem jo_snoc (l : List Sp) (x : Sp) : jo (l ++ [x]) = (min (jo l).1 x.1, max (jo l).2 x.2) := by unfold jo; rw [List.foldl_append]; rfl
theorem jo_jn {l : List Sp} (h : l ≠ []) (hb : ∀ x ∈ l, x.1 ≤ 1048576 ∧ -1 ≤ x.2) : jo l = jn l := by
  cases l with
  | nil => exact absurd rfl h
  | cons x l =>
    have := hb x (.head _)
    unfold jo jn
    rw [List.foldl_cons]
    congr 1
    exact Prod.ext (by show min 1048576 x.1 = x.1; omega) (by show max (-1) x.2 = x.2; omega)
/-- What is cut by a day, with each of the first k costs by which there is a truth. -/
def byC (s : Sd) (p d : Nat) (lo : Int) (k : Nat) : List Sp := (((List.range k).map fun i : Nat => lo + (i : Int)).filter fun c => !(toldC (setC s p c)).isEmpty).map fun c => cutV (setC s p c) d
theorem byC_snoc (s : Sd) (p d : Nat) (lo : Int) (k : Nat) : byC s p d lo (k + 1) = byC s p d lo k ++ if toldC (setC s p (lo + k)) = [] then [] else [cutV (setC s p (lo + k)) d] := by
  unfold byC
  rw [List.range_succ, List.map_append, List.filter_append, List.map_append]
  congr 1
  simp only [List.map_cons, List.map_nil, List.filter_cons, List.filter_nil]
  by_cases h : toldC (setC s p (lo + k)) = []
  · simp [h]
  · have : (toldC (setC s p (lo + k))).isEmpty = false := by simpa using h
    simp [h]
theorem byC_mem {s : Sd} {p d : Nat} {lo : Int} {k : Nat} {x : Sp} : x ∈ byC s p d lo k ↔ ∃ c, lo ≤ c ∧ c < lo + k ∧ toldC (setC s p c) ≠ [] ∧ x = cutV (setC s p c) d := by
  unfold byC
  simp only [List.mem_map, List.mem_filter, List.mem_range]
  constructor
  · rintro ⟨c, ⟨⟨i, hi, rfl⟩, h2⟩, rfl⟩
    exact ⟨lo + i, by omega, by omega, by simpa using h2, rfl⟩
  · rintro ⟨c, h1, h2, h3, rfl⟩
    exact ⟨c, ⟨⟨(c - lo).toNat, by omega, by omega⟩, by simpa using h3⟩, rfl⟩
section
variable {s : Sd} (v : VS s) {p : Nat} (hp : p < s.spits.length)
include v hp
omit v in
theorem cost_in {cs ts : List Int} (h : Tru s cs ts) : s.spits[p].lo ≤ cs.getD p 0 ∧ cs.getD p 0 ≤ s.spits[p].hi := by
  obtain ⟨r, h1, h2, h3⟩ := rowsC_iff.1 h.1
  have key : ∀ (ps : List Spt) (r : List Int) (p : Nat) (hp : p < ps.length), CIn ps r → ps[p].lo ≤ r.getD p 0 ∧ r.getD p 0 ≤ ps[p].hi := by
    intro ps
    induction ps with
    | nil => intro r p hp; simp at hp
    | cons x ps ih =>
      intro r p hp hc
      cases hc with | cons h1 h2 =>
      cases p with
      | zero => simpa using h1
      | succ p => simpa using ih _ p (by simpa using hp) h2
  have := key s.spits r p hp h2
  rw [h3]
  unfold pad3
  rw [List.getD_eq_getElem?_getD] at this ⊢
  rw [List.getElem?_append_left (by omega)]
  exact this
/-- With a cost by itself there is a truth only within what is returned, and at both ends there is one. -/
theorem costs_one {c : Int} (hc : s.spits[p].lo ≤ c ∧ c ≤ s.spits[p].hi) : (toldC (setC s p c) ≠ [] → toldC s ≠ [] ∧ (costV s p).1 ≤ c ∧ c ≤ (costV s p).2) ∧ (toldC s ≠ [] → toldC (setC s p c) = [] → c ≠ (costV s p).1 ∧ c ≠ (costV s p).2) := by
  have v' := VS_setC v hp hc
  refine ⟨fun h => ?_, fun h0 h => ?_⟩
  · obtain ⟨cs, ts, h1⟩ := (told_ne v').1 h
    obtain ⟨h2, h3⟩ := (tru_setC v hp hc).1 h1
    have h0 := (told_ne v).2 ⟨cs, ts, h2⟩
    have := (cost_hull v h0 p).2.2 _ ⟨cs, ts, h2, rfl⟩
    rw [h3] at this
    exact ⟨h0, this⟩
  · obtain ⟨⟨cs, ts, h1, h2⟩, ⟨cs', ts', h3, h4⟩, _⟩ := cost_hull v h0 p
    constructor
    · intro he
      have := (told_ne v').2 ⟨cs, ts, (tru_setC v hp hc).2 ⟨h1, by omega⟩⟩
      exact this h
    · intro he
      have := (told_ne v').2 ⟨cs', ts', (tru_setC v hp hc).2 ⟨h3, by omega⟩⟩
      exact this h
/-- What is cut with each of them is together what is returned. -/
theorem costs_all {d : Nat} (hd : d < s.days.length) (h0 : toldC s ≠ []) {k : Nat} (hk : s.spits[p].lo + k = s.spits[p].hi + 1) : jo (byC s p d s.spits[p].lo k) = cutV s d := by
  have hcut : ∀ c t cs, cutS (setC s p c).spits cs 0 t = cutS s.spits cs 0 t := fun c t cs => cutS_congr _ _ cs 0 t (setC_sods hp)
  have hne : byC s p d s.spits[p].lo k ≠ [] := by
    obtain ⟨cs, ts, h1⟩ := (told_ne v).1 h0
    have hc := cost_in hp h1
    have v' := VS_setC v hp hc
    have : cutV (setC s p (cs.getD p 0)) d ∈ byC s p d s.spits[p].lo k := byC_mem.2 ⟨cs.getD p 0, by omega, by omega, (told_ne v').2 ⟨cs, ts, (tru_setC v hp hc).2 ⟨h1, rfl⟩⟩, rfl⟩
    intro he
    rw [he] at this; cases this
  have hb : ∀ x ∈ byC s p d s.spits[p].lo k, x.1 ≤ 1048576 ∧ -1 ≤ x.2 := by
    intro x hx
    obtain ⟨c, h1, h2, h3, rfl⟩ := byC_mem.1 hx
    have v' := VS_setC v hp (c := c) (by omega)
    have h4 := cutV_bd v' h3 (d := d) hd
    have h5 := sumT_bd v' (setC s p c).spits.length
    omega
  rw [jo_jn hne hb]
  refine Hull.uniq (P := fun n => ∃ c ts t, Tru s c ts ∧ ts[d]? = some t ∧ n = cutS s.spits c 0 t) ?_ (cut_hull v h0 hd)
  obtain ⟨⟨x, hx, e1⟩, ⟨y, hy, e2⟩, e3⟩ := jn_hull _ hne
  refine ⟨?_, ?_, ?_⟩
  · obtain ⟨c, h1, h2, h3, rfl⟩ := byC_mem.1 hx
    have hc : s.spits[p].lo ≤ c ∧ c ≤ s.spits[p].hi := by omega
    obtain ⟨⟨cs, ts, t, a1, a2, a3⟩, _, _⟩ := cut_hull (VS_setC v hp hc) h3 (d := d) hd
    rw [hcut] at a3
    exact ⟨cs, ts, t, ((tru_setC v hp hc).1 a1).1, a2, by rw [← e1]; exact a3⟩
  · obtain ⟨c, h1, h2, h3, rfl⟩ := byC_mem.1 hy
    have hc : s.spits[p].lo ≤ c ∧ c ≤ s.spits[p].hi := by omega
    obtain ⟨_, ⟨cs, ts, t, a1, a2, a3⟩, _⟩ := cut_hull (VS_setC v hp hc) h3 (d := d) hd
    rw [hcut] at a3
    exact ⟨cs, ts, t, ((tru_setC v hp hc).1 a1).1, a2, by rw [← e2]; exact a3⟩
  · rintro n ⟨cs, ts, t, h1, h2, rfl⟩
    have hc := cost_in hp h1
    have v' := VS_setC v hp hc
    have ht := (tru_setC v hp hc).2 ⟨h1, rfl⟩
    have hne' := (told_ne v').2 ⟨cs, ts, ht⟩
    have h3 := (cut_hull v' hne' (d := d) hd).2.2 _ ⟨cs, ts, t, ht, h2, rfl⟩
    rw [hcut] at h3
    have h4 := e3 _ (byC_mem.2 ⟨cs.getD p 0, by omega, by omega, hne', rfl⟩)
    omega
end
end Go.Proofs.Ytkaadefndcbdnaa
