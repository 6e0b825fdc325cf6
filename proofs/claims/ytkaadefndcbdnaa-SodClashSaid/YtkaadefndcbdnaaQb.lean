/- Layer sod in plain terms: all costs, and what is returned of a bank. -/
import Derived.Test.YtkaadefndcbdnaaQa
namespace Go.Proofs.Ytkaadefndcbdnaa
open Go.RowKit
def vals (s : Sp) : List Int := (List.range (s.2 - s.1 + 1).toNat).map fun c : Nat => s.1 + (c : Int)
theorem vals_length (s : Sp) : (vals s).length = (s.2 - s.1 + 1).toNat := by simp [vals]
theorem vals_get (s : Sp) (c : Nat) (h : c < (vals s).length) : (vals s)[c] = s.1 + (c : Int) := by simp [vals]
theorem vals_mem {s : Sp} {v : Int} (h : v ∈ vals s) : s.1 ≤ v ∧ v ≤ s.2 := by
  simp only [vals, List.mem_map, List.mem_range] at h
  obtain ⟨c, hc, rfl⟩ := h
  omega
theorem vals_iff {s : Sp} {v : Int} : v ∈ vals s ↔ s.1 ≤ v ∧ v ≤ s.2 := by
  constructor
  · exact vals_mem
  · intro hv
    simp only [vals, List.mem_map, List.mem_range]
    exact ⟨(v - s.1).toNat, by omega, by omega⟩
/-- All lists with a number of each span. -/
def allR : List Sp → List (List Int)
  | [] => [[]]
  | s :: l => (vals s).flatMap fun v => (allR l).map (v :: ·)
theorem allR_len : ∀ (l : List Sp), ∀ r ∈ allR l, r.length = l.length
  | [], r, h => by simp [allR] at h; simp [h]
  | s :: l, r, h => by
    simp only [allR, List.mem_flatMap, List.mem_map] at h
    obtain ⟨v, _, q, hq, rfl⟩ := h
    simp [allR_len l q hq]
def costR (p : Spt) : Sp := (p.lo, p.hi)
/-- All costs, each one with zeros behind. -/
def rowsC (s : Sd) : List (List Int) := (allR (s.spits.map costR)).map fun r => r ++ List.replicate (3 - r.length) 0
theorem allR_cin : ∀ {ps : List Spt} {r z : List Int}, r ∈ allR (ps.map costR) → CIn ps (r ++ z)
  | [], _, _, _ => .nil
  | p :: ps, r, z, h => by
    simp only [List.map_cons, allR, List.mem_flatMap, List.mem_map] at h
    obtain ⟨v, hv, q, hq, rfl⟩ := h
    exact .cons (vals_mem hv) (allR_cin hq)
theorem cin_allR : ∀ {ps : List Spt} {r : List Int}, CIn ps r → r.length = ps.length → r ∈ allR (ps.map costR)
  | [], r, _, hl => by simp at hl; subst hl; simp [allR]
  | p :: ps, [], h, _ => by cases h
  | p :: ps, c :: r, h, hl => by
    cases h with | cons h t =>
    simp only [List.map_cons, allR, List.mem_flatMap, List.mem_map]
    exact ⟨c, vals_iff.2 h, r, cin_allR t (by simpa using hl), rfl⟩
theorem rowsC_cin {s : Sd} {c : List Int} (h : c ∈ rowsC s) : CIn s.spits c := by
  simp only [rowsC, List.mem_map] at h
  obtain ⟨r, hr, rfl⟩ := h
  exact allR_cin hr
theorem rowsC_len {s : Sd} (v : VS s) {c : List Int} (h : c ∈ rowsC s) : c.length = 3 := by
  simp only [rowsC, List.mem_map] at h
  obtain ⟨r, hr, rfl⟩ := h
  have := allR_len _ r hr
  have := v.np
  simp at *
  omega
/-- Costs with zeros behind. -/
def pad3 (r : List Int) : List Int := r ++ List.replicate (3 - r.length) 0
theorem rowsC_iff {s : Sd} {c : List Int} : c ∈ rowsC s ↔ ∃ r, r.length = s.spits.length ∧ CIn s.spits r ∧ c = pad3 r := by
  unfold rowsC
  rw [List.mem_map]
  constructor
  · rintro ⟨r, hr, rfl⟩
    have := allR_cin (z := []) hr
    rw [List.append_nil] at this
    exact ⟨r, by simpa using allR_len _ r hr, this, rfl⟩
  · rintro ⟨r, h1, h2, rfl⟩
    exact ⟨r, cin_allR h2 h1, rfl⟩
/-- Those with which there is a truth. -/
def toldC (s : Sd) : List (List Int) := (rowsC s).filter (canS s)
def jn (l : List Sp) : Sp := match l with
  | [] => (0, 0)
  | x :: l => l.foldl (fun s x => (min s.1 x.1, max s.2 x.2)) x
theorem jn_snoc (l : List Sp) (k : Nat) (h : k < l.length) : jn (l.take (k+1)) = if k = 0 then l[k] else (min (jn (l.take k)).1 l[k].1, max (jn (l.take k)).2 l[k].2) := by
  rw [List.take_succ_eq_append_getElem h]
  cases l with
  | nil => simp at h
  | cons x l =>
    cases k with
    | zero => simp [jn]
    | succ k =>
      simp only [List.take_succ_cons, List.cons_append, jn, List.foldl_append]; simp
/-- What there can have been by day d. -/
def dayS (s : Sd) (c : List Int) (d : Nat) : Sp := (daysS s c).getD d (0, 0)
def cutR (s : Sd) (d : Nat) (c : List Int) : Sp := (cutS s.spits c 0 (dayS s c d).1, cutS s.spits c 0 (dayS s c d).2)
def costP (p : Nat) (c : List Int) : Sp := (c.getD p 0, c.getD p 0)
/-- How many strokes the first k spits take. -/
def wholeS (s : Sd) (c : List Int) (k : Nat) : Int := strk s.spits c 0 ((s.spits.take k).map (·.sods)).sum
def needR (s : Sd) (d : Nat) (c : List Int) : Sp := (max 0 (wholeS s c s.spits.length - (dayS s c d).2), max 0 (wholeS s c s.spits.length - (dayS s c d).1))
/-- The first of some numbers that is no less; their number, if there is none. -/
def firstG (w : Int) : List Int → Nat
  | [] => 0
  | x :: l => if w ≤ x then 0 else firstG w l + 1
def doneR (s : Sd) (c : List Int) : Sp := (firstG (wholeS s c s.spits.length) ((daysS s c).map (·.2)), firstG (wholeS s c s.spits.length) ((daysS s c).map (·.1)))
def cutV (s : Sd) (d : Nat) : Sp := jn ((toldC s).map (cutR s d))
def costV (s : Sd) (p : Nat) : Sp := jn ((toldC s).map (costP p))
def needV (s : Sd) (d : Nat) : Sp := jn ((toldC s).map (needR s d))
def doneV (s : Sd) : Sp := jn ((toldC s).map (doneR s))
def sureB (s : Sd) (d p : Nat) : Bool := (toldC s).all fun c => decide (wholeS s c (p + 1) ≤ (dayS s c d).1)
def canB (s : Sd) (d p : Nat) : Bool := (toldC s).any fun c => decide (wholeS s c (p + 1) ≤ (dayS s c d).2)
/-- A set of numbers. -/
def bitsOf (f : Nat → Bool) : Nat → Nat
  | 0 => 0
  | n + 1 => bitsOf f n + (if f n then 2 ^ n else 0)
def sureV (s : Sd) (d : Nat) : Nat := bitsOf (sureB s d) s.spits.length
def canV (s : Sd) (d : Nat) : Nat := bitsOf (canB s d) s.spits.length
def fitsV (s : Sd) (d : Nat) (x : Sp) : Int :=
  if (toldC s).all fun c => decide (x.1 ≤ (cutR s d c).1 ∧ (cutR s d c).2 ≤ x.2) then 2
  else if (toldC s).any fun c => decide ((cutR s d c).1 ≤ x.2 ∧ x.1 ≤ (cutR s d c).2) then 1 else 0
/-- The counts of a set. -/
def pickL {α : Type} (set : Nat) : List α → Nat → List α
  | [], _ => []
  | l :: ls, k => if set / 2 ^ k % 2 = 1 then l :: pickL set ls (k + 1) else pickL set ls (k + 1)
def only (s : Sd) (set : Nat) : Sd := { s with logs := pickL set s.logs 0 }
end Go.Proofs.Ytkaadefndcbdnaa
