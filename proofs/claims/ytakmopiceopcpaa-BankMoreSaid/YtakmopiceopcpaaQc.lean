/- Layer bank in plain terms: leases, marks; how far leases have come, perch by perch; lines. · Layer bank in plain terms: what is counted perch by perch is what all lines give. · Layer bank in plain terms: rows summed by their states, in any order. -/
import Derived.WalkKit
section
namespace Go.Proofs.Ytakmopiceopcpaa
open Go.RowKit
abbrev Sp := Int × Int
structure Le where
  h : Int
  f : Sp
  t : Sp
deriving DecidableEq
/-- A bank: perches, holders, leases, marks (perch, holder). -/
structure Bn where
  n : Int
  m : Int
  ls : List Le
  ms : List Sp
def spB (s : Sp) (lo hi : Int) : Bool := decide (lo ≤ s.1 ∧ s.1 ≤ s.2 ∧ s.2 ≤ hi ∧ s.2 - s.1 ≤ 2)
def inB (n lo hi : Int) : Bool := decide (lo ≤ n ∧ n ≤ hi)
def leB (b : Bn) (l : Le) : Bool := inB l.h 0 (b.m - 1) && spB l.f 0 (b.n - 1) && spB l.t 1 b.n && decide (l.f.1 < l.t.2)
def mkB (b : Bn) (k : Sp) : Bool := inB k.1 0 (b.n - 1) && inB k.2 0 b.m
def numB (b : Bn) : Bool := inB b.n 1 10 && inB b.m 1 4 && decide (b.ls.length ≤ 4) && decide (b.ms.length ≤ 6)
def vB (b : Bn) : Bool := numB b && b.ls.all (leB b) && b.ms.all (mkB b)
structure LeOk (n m : Int) (l : Le) : Prop where
  h : 0 ≤ l.h ∧ l.h < m
  f : 0 ≤ l.f.1 ∧ l.f.1 ≤ l.f.2 ∧ l.f.2 < n ∧ l.f.2 - l.f.1 ≤ 2
  t : 1 ≤ l.t.1 ∧ l.t.1 ≤ l.t.2 ∧ l.t.2 ≤ n ∧ l.t.2 - l.t.1 ≤ 2
  ft : l.f.1 < l.t.2
structure VB (b : Bn) : Prop where
  n : 1 ≤ b.n ∧ b.n ≤ 10
  m : 1 ≤ b.m ∧ b.m ≤ 4
  nl : b.ls.length ≤ 4
  nm : b.ms.length ≤ 6
  ls : ∀ l ∈ b.ls, LeOk b.n b.m l
  ms : ∀ k ∈ b.ms, (0 ≤ k.1 ∧ k.1 < b.n) ∧ 0 ≤ k.2 ∧ k.2 ≤ b.m
theorem leB_of {b : Bn} {l : Le} (h : leB b l = true) : LeOk b.n b.m l := by
  simp only [leB, inB, spB, Bool.and_eq_true, decide_eq_true_eq] at h
  exact ⟨by omega, by omega, by omega, h.2⟩
theorem leB_to {b : Bn} {l : Le} (h : LeOk b.n b.m l) : leB b l = true := by
  have h1 := h.h
  have h2 := h.f
  have h3 := h.t
  have h4 := h.ft
  simp only [leB, inB, spB, Bool.and_eq_true, decide_eq_true_eq]
  omega
theorem VB_of {b : Bn} (h : vB b = true) : VB b := by
  unfold vB numB at h
  simp only [inB, Bool.and_eq_true, List.all_eq_true, decide_eq_true_eq] at h
  obtain ⟨⟨⟨⟨⟨h1, h2⟩, h3⟩, h4⟩, h5⟩, h6⟩ := h
  refine ⟨h1, h2, h3, h4, fun l hl => leB_of (h5 l hl), fun k hk => ?_⟩
  have := h6 k hk
  simp only [mkB, inB, Bool.and_eq_true, decide_eq_true_eq] at this
  omega
theorem vB_of {b : Bn} (v : VB b) : vB b = true := by
  have h1 := v.n
  have h2 := v.m
  unfold vB numB
  simp only [inB, Bool.and_eq_true, List.all_eq_true, decide_eq_true_eq]
  refine ⟨⟨⟨⟨⟨h1, h2⟩, v.nl⟩, v.nm⟩, fun l hl => leB_to (v.ls l hl)⟩, fun k hk => ?_⟩
  have := v.ms k hk
  simp only [mkB, inB, Bool.and_eq_true, decide_eq_true_eq]
  omega
/-! ## How far leases have come -/
/-- 0 is ahead, 1 covers, 2 is behind. -/
def steps (l : Le) (was : Nat) (p : Nat) : List Nat :=
  if was = 0 then (if (p : Int) < l.f.2 ∧ (p : Int) + 1 < l.t.2 then [0] else []) ++ (if (l.f.1 ≤ p ∧ (p : Int) ≤ l.f.2) ∧ (p : Int) < l.t.2 then [1] else [])
  else if was = 1 then (if (p : Int) < l.t.2 then [1] else []) ++ (if l.t.1 ≤ p ∧ (p : Int) ≤ l.t.2 then [2] else [])
  else [2]
def nexts (p : Nat) : List Le → List Nat → List (List Nat)
  | l :: ls, f :: fs => (steps l f p).flatMap fun x => (nexts p ls fs).map (x :: ·)
  | _, _ => [[]]
def hol : List Le → List Nat → Int → Int
  | l :: ls, f :: fs, o => hol ls fs (if f = 1 then l.h else o)
  | _, _, o => o
inductive Ask where
  | any
  | mine (p h : Int)
  | line (p : Int) (there : Bool)
def Ask.is : Ask → Int → Int → Int → Bool
  | .any, _, _, _ => true
  | .mine p h, q, o, _ => if q = p then decide (o = h) else true
  | .line p t, q, o, b => decide (q ≠ p) || (decide (o ≠ b) == t)
def allIs (aq : List Ask) (p o b : Int) : Bool := aq.all fun a => a.is p o b
abbrev St := List Nat × Int
def nextS (b : Bn) (aq : List Ask) (p : Nat) (s : St) : List St := ((nexts p b.ls s.1).map fun g => (g, hol b.ls g b.m)).filter fun x => allIs aq p x.2 s.2
def bump (h o c : Int) : Int := if o = h then c + 1 else c
def row1 (b : Bn) (aq : List Ask) (h : Int) (p : Nat) (q : St × Int) : List (St × Int) := (nextS b aq p q.1).map fun x => (x, bump h x.2 q.2)
def rowsR (b : Bn) (aq : List Ask) (h : Int) : Nat → List (St × Int)
  | 0 => [((List.replicate b.ls.length 0, -1), 0)]
  | p + 1 => (rowsR b aq h p).flatMap (row1 b aq h p)
def endB (n : Int) : List Le → List Nat → Bool
  | l :: ls, f :: fs => (decide (f ≠ 0) && (decide (f = 2) || decide (l.t.2 = n))) && endB n ls fs
  | _, _ => true
def finR (b : Bn) (aq : List Ask) (h : Int) : List Int := ((rowsR b aq h b.n.toNat).filter fun q => endB b.n b.ls q.1.1).map (·.2)
/-! ## Lines -/
def rng (lo hi : Int) : List Int := (List.range (hi + 1 - lo).toNat).map fun i : Nat => lo + i
theorem mem_rng {lo hi x : Int} : x ∈ rng lo hi ↔ lo ≤ x ∧ x ≤ hi := by
  unfold rng
  rw [List.mem_map]
  constructor
  · rintro ⟨i, hi, rfl⟩
    rw [List.mem_range] at hi
    omega
  · intro h
    exact ⟨(x - lo).toNat, by rw [List.mem_range]; omega, by omega⟩
theorem rng_nodup (lo hi : Int) : (rng lo hi).Nodup := by
  unfold rng
  rw [List.nodup_iff_pairwise_ne, List.pairwise_map]
  exact List.Pairwise.imp (fun h => by omega) List.nodup_range
def linesL (l : Le) : List Sp := (rng l.f.1 l.f.2).flatMap fun i => ((rng l.t.1 l.t.2).filter fun k => decide (i < k)).map fun k => (i, k)
theorem mem_linesL {l : Le} {x : Sp} : x ∈ linesL l ↔ (l.f.1 ≤ x.1 ∧ x.1 ≤ l.f.2) ∧ (l.t.1 ≤ x.2 ∧ x.2 ≤ l.t.2) ∧ x.1 < x.2 := by
  unfold linesL
  rw [List.mem_flatMap]
  constructor
  · rintro ⟨i, hi, hx⟩
    rw [List.mem_map] at hx
    obtain ⟨k, hk, rfl⟩ := hx
    rw [List.mem_filter, mem_rng, decide_eq_true_eq] at hk
    exact ⟨mem_rng.1 hi, hk.1, hk.2⟩
  · rintro ⟨h1, h2, h3⟩
    exact ⟨x.1, mem_rng.2 h1, List.mem_map.2 ⟨x.2, List.mem_filter.2 ⟨mem_rng.2 h2, decide_eq_true h3⟩, rfl⟩⟩
def combos : List Le → List (List Sp)
  | [] => [[]]
  | l :: ls => (linesL l).flatMap fun x => (combos ls).map (x :: ·)
def own : List Le → List Sp → Int → Int → Int
  | l :: ls, x :: xs, p, o => own ls xs p (if x.1 ≤ p ∧ p < x.2 then l.h else o)
  | _, _, _, o => o
/-- Whose a perch is; ahead of the first one nobody's, and no holder's. -/
def ownX (b : Bn) (x : List Sp) (p : Int) : Int := own b.ls x p b.m
def befX (b : Bn) (x : List Sp) (p : Nat) : Int := if p = 0 then -1 else ownX b x ((p : Int) - 1)
def okX (b : Bn) (aq : List Ask) (x : List Sp) : Bool := (List.range b.n.toNat).all fun p => allIs aq p (ownX b x p) (befX b x p)
def cntX (b : Bn) (h : Int) (x : List Sp) : Int := ((List.range b.n.toNat).filter fun p : Nat => decide (ownX b x p = h)).length
end Go.Proofs.Ytakmopiceopcpaa
end

section
namespace Go.Proofs.Ytakmopiceopcpaa
open Go.RowKit
section
variable (b : Bn) (aq : List Ask) (h : Int)
/-! ## From a state on -/
def outs : Nat → Nat → St → Int → List Int
  | 0, _, s, c => if endB b.n b.ls s.1 then [c] else []
  | k + 1, p, s, c => (nextS b aq p s).flatMap fun x => outs k (p + 1) x (bump h x.2 c)
theorem rows_outs : ∀ (p k : Nat), ((rowsR b aq h p).flatMap fun q => outs b aq h k p q.1 q.2) = outs b aq h (p + k) 0 (List.replicate b.ls.length 0, -1) 0
  | 0, k => by simp [rowsR]
  | p + 1, k => by
    rw [show p + 1 + k = p + (k + 1) by omega, ← rows_outs p (k + 1)]
    show ((rowsR b aq h p).flatMap (row1 b aq h p)).flatMap _ = _
    rw [List.flatMap_assoc]
    congr 1
    funext q
    unfold row1
    rw [List.flatMap_map]
    rfl
theorem fin_outs : finR b aq h = outs b aq h b.n.toNat 0 (List.replicate b.ls.length 0, -1) 0 := by
  have e := rows_outs b aq h b.n.toNat 0
  rw [Nat.add_zero] at e
  rw [← e]
  unfold finR
  generalize rowsR b aq h b.n.toNat = l
  induction l with
  | nil => rfl
  | cons q l ih =>
    rw [List.flatMap_cons, ← ih, List.filter_cons]
    unfold outs
    split <;> simp
/-- All ways on from how far leases have come, whatever is asked. -/
def runs : Nat → Nat → List Nat → List (List (List Nat))
  | 0, _, fs => if endB b.n b.ls fs then [[]] else []
  | k + 1, p, fs => (nexts p b.ls fs).flatMap fun g => (runs k (p + 1) g).map (g :: ·)
def okRun : Nat → Int → List (List Nat) → Bool
  | _, _, [] => true
  | p, o, g :: r => allIs aq p (hol b.ls g b.m) o && okRun (p + 1) (hol b.ls g b.m) r
def cntRun : Int → List (List Nat) → Int
  | c, [] => c
  | c, g :: r => cntRun (bump h (hol b.ls g b.m) c) r
theorem outs_runs : ∀ (k p : Nat) (s : St) (c : Int), outs b aq h k p s c = ((runs b k p s.1).filter (okRun b aq p s.2)).map (cntRun b h c)
  | 0, p, s, c => by
    unfold outs runs
    split
    · rfl
    · rfl
  | k + 1, p, s, c => by
    unfold outs runs nextS
    rw [List.filter_flatMap, List.map_flatMap, List.filter_map, List.flatMap_map]
    generalize nexts p b.ls s.1 = gs
    induction gs with
    | nil => rfl
    | cons g gs ih =>
      rw [List.filter_cons, List.flatMap_cons]
      simp only [Function.comp_apply]
      by_cases hg : allIs aq p (hol b.ls g b.m) s.2 = true
      · rw [if_pos hg, List.flatMap_cons, ih, outs_runs k (p + 1)]
        congr 1
        rw [List.filter_map, List.map_map]
        congr 1
        congr 1
        funext r
        simp [okRun, hg]
      · rw [if_neg hg, ih]
        have : ((runs b k (p + 1) g).map (g :: ·)).filter (okRun b aq p s.2) = [] := by
          rw [List.filter_map, List.map_eq_nil_iff, List.filter_eq_nil_iff]
          intro r _
          simp [okRun, hg]
        rw [this]; rfl
end
/-! ## Without what is asked: all lines -/
theorem mem_runs {b : Bn} : ∀ {k p : Nat} {fs : List Nat} {r : List (List Nat)}, r ∈ runs b (k + 1) p fs ↔ ∃ g r', r = g :: r' ∧ g ∈ nexts p b.ls fs ∧ r' ∈ runs b k (p + 1) g := by
  intro k p fs r
  conv => lhs; unfold runs
  rw [List.mem_flatMap]
  constructor
  · rintro ⟨g, hg, hr⟩
    obtain ⟨r', hr', rfl⟩ := List.mem_map.1 hr
    exact ⟨g, r', rfl, hg, hr'⟩
  · rintro ⟨g, r', rfl, hg, hr'⟩
    exact ⟨g, hg, List.mem_map.2 ⟨r', hr', rfl⟩⟩
/-- How far a lease has come ahead of perch q, by its lines. -/
def stL (x : Sp) (q : Nat) : Nat := if (q : Int) ≤ x.1 then 0 else if (q : Int) ≤ x.2 then 1 else 2
def traj (n : Nat) (x : List Sp) (p : Nat) : List (List Nat) := (List.range' p n).map fun q => x.map fun y => stL y (q + 1)
theorem traj_succ (n : Nat) (x : List Sp) (p : Nat) : traj (n + 1) x p = (x.map fun y => stL y (p + 1)) :: traj n x (p + 1) := by
  unfold traj
  rw [List.range'_succ]; rfl
/-- Lines of a lease with which it has come just so far. -/
structure Con (l : Le) (f : Nat) (p : Nat) (y : Sp) : Prop where
  st : stL y p = f
  t : f ≠ 2 → l.t.1 ≤ y.2 ∧ y.2 ≤ l.t.2
  f : f = 0 → (l.f.1 ≤ y.1 ∧ y.1 ≤ l.f.2) ∧ y.1 < y.2
theorem steps_of {n m : Int} {l : Le} (v : LeOk n m l) {y : Sp} (hy : y ∈ linesL l) {p : Nat} : stL y (p + 1) ∈ steps l (stL y p) p := by
  have h := mem_linesL.1 hy
  have h1 := v.t
  unfold steps stL
  by_cases h1 : (p : Int) ≤ y.1
  · rw [if_pos h1, if_pos rfl]
    by_cases h2 : ((p + 1 : Nat) : Int) ≤ y.1
    · rw [if_pos h2, if_pos (by omega : (p : Int) < l.f.2 ∧ (p : Int) + 1 < l.t.2)]; simp
    · rw [if_neg h2, if_pos (by omega : ((p + 1 : Nat) : Int) ≤ y.2), if_pos (by omega : (l.f.1 ≤ (p : Int) ∧ (p : Int) ≤ l.f.2) ∧ (p : Int) < l.t.2)]; simp
  · rw [if_neg h1, if_neg (by omega : ¬ ((p + 1 : Nat) : Int) ≤ y.1)]
    by_cases h2 : (p : Int) ≤ y.2
    · rw [if_pos h2, if_neg (by omega), if_pos rfl]
      by_cases h3 : ((p + 1 : Nat) : Int) ≤ y.2
      · rw [if_pos h3, if_pos (by omega)]; simp
      · rw [if_neg h3, if_pos (by omega : l.t.1 ≤ (p : Int) ∧ (p : Int) ≤ l.t.2)]; simp
    · rw [if_neg h2, if_neg (by omega), if_neg (by omega), if_neg (by omega)]; simp
theorem con_step {l : Le} {f g p : Nat} (hg : g ∈ steps l f p) {y : Sp} (hy : Con l g (p + 1) y) (hf : f = 0 ∨ f = 1 ∨ f = 2) : ∃ y', Con l f p y' ∧ ∀ q, p + 1 ≤ q → stL y' q = stL y q := by
  obtain ⟨hst, ht, hfr⟩ := hy
  unfold steps at hg
  rcases hf with rfl | rfl | rfl
  · rw [if_pos rfl, List.mem_append] at hg
    rcases hg with hg | hg
    · split at hg
      · have : g = 0 := by simpa using hg
        subst this
        have h3 := hfr rfl
        have h4 : ((p + 1 : Nat) : Int) ≤ y.1 := by
          unfold stL at hst
          split at hst
          · assumption
          · split at hst <;> omega
        refine ⟨y, ⟨?_, fun _ => ht (by omega), fun _ => h3⟩, fun _ _ => rfl⟩
        unfold stL
        rw [if_pos (by omega)]
      · cases hg
    · split at hg
      · rename_i hc
        have : g = 1 := by simpa using hg
        subst this
        have h4 : ((p + 1 : Nat) : Int) ≤ y.2 ∧ ¬ ((p + 1 : Nat) : Int) ≤ y.1 := by
          unfold stL at hst
          split at hst
          · cases hst
          · split at hst
            · exact ⟨by assumption, by assumption⟩
            · cases hst
        refine ⟨(p, y.2), ⟨?_, fun _ => ht (by omega), fun _ => ⟨hc.1, by dsimp only; omega⟩⟩, fun q hq => ?_⟩
        · unfold stL
          rw [if_pos (by dsimp only; omega)]
        · unfold stL
          dsimp only
          rw [if_neg (by omega), if_neg (by omega : ¬ (q : Int) ≤ y.1)]
      · cases hg
  · rw [if_neg (by omega), if_pos rfl, List.mem_append] at hg
    rcases hg with hg | hg
    · split at hg
      · have : g = 1 := by simpa using hg
        subst this
        have h4 : ((p + 1 : Nat) : Int) ≤ y.2 ∧ ¬ ((p + 1 : Nat) : Int) ≤ y.1 := by
          unfold stL at hst
          split at hst
          · cases hst
          · split at hst
            · exact ⟨by assumption, by assumption⟩
            · cases hst
        refine ⟨((p : Int) - 1, y.2), ⟨?_, fun _ => ht (by omega), fun h => by cases h⟩, fun q hq => ?_⟩
        · unfold stL
          dsimp only
          rw [if_neg (by omega), if_pos (by omega)]
        · unfold stL
          dsimp only
          rw [if_neg (by omega), if_neg (by omega : ¬ (q : Int) ≤ y.1)]
      · cases hg
    · split at hg
      · rename_i hc
        have : g = 2 := by simpa using hg
        subst this
        refine ⟨((p : Int) - 1, p), ⟨?_, fun _ => by dsimp only; omega, fun h => by cases h⟩, fun q hq => ?_⟩
        · unfold stL
          dsimp only
          rw [if_neg (by omega), if_pos (by omega)]
        · have h4 : ¬ ((p + 1 : Nat) : Int) ≤ y.2 ∧ ¬ ((p + 1 : Nat) : Int) ≤ y.1 := by
            unfold stL at hst
            split at hst
            · cases hst
            · split at hst
              · cases hst
              · exact ⟨by assumption, by assumption⟩
          unfold stL
          dsimp only
          rw [if_neg (by omega), if_neg (by omega), if_neg (by omega : ¬ (q : Int) ≤ y.1), if_neg (by omega : ¬ (q : Int) ≤ y.2)]
      · cases hg
  · rw [if_neg (by omega), if_neg (by omega)] at hg
    have : g = 2 := by simpa using hg
    subst this
    have h4 : ¬ ((p + 1 : Nat) : Int) ≤ y.2 ∧ ¬ ((p + 1 : Nat) : Int) ≤ y.1 := by
      unfold stL at hst
      split at hst
      · cases hst
      · split at hst
        · cases hst
        · exact ⟨by assumption, by assumption⟩
    refine ⟨(-1, -1), ⟨?_, fun h => absurd rfl h, fun h => by cases h⟩, fun q hq => ?_⟩
    · unfold stL
      dsimp only
      rw [if_neg (by omega), if_neg (by omega)]
    · unfold stL
      dsimp only
      rw [if_neg (by omega), if_neg (by omega), if_neg (by omega : ¬ (q : Int) ≤ y.1), if_neg (by omega : ¬ (q : Int) ≤ y.2)]
theorem steps_lt {l : Le} {f p g : Nat} (h : g ∈ steps l f p) : g = 0 ∨ g = 1 ∨ g = 2 := by
  unfold steps at h
  split at h
  · rw [List.mem_append] at h
    rcases h with h | h <;> split at h <;> simp_all
  · split at h
    · rw [List.mem_append] at h
      rcases h with h | h <;> split at h <;> simp_all
    · simp_all
/-- Lines of all leases, with which they have come just so far. -/
inductive Cons : List Le → List Nat → Nat → List Sp → Prop
  | nil {p : Nat} : Cons [] [] p []
  | cons {l : Le} {f p : Nat} {y : Sp} {ls : List Le} {fs : List Nat} {ys : List Sp} (h : Con l f p y) (t : Cons ls fs p ys) : Cons (l :: ls) (f :: fs) p (y :: ys)
theorem Cons.now {ls : List Le} {gs : List Nat} {p : Nat} {ys : List Sp} (h : Cons ls gs p ys) : (ys.map fun y => stL y p) = gs := by
  induction h with
  | nil => rfl
  | cons h t ih => rw [List.map_cons, h.st, ih]
theorem cons_step : ∀ {ls : List Le} {fs gs : List Nat} {p : Nat} {ys : List Sp}, fs.length = ls.length → (∀ f ∈ fs, f = 0 ∨ f = 1 ∨ f = 2) → gs ∈ nexts p ls fs → Cons ls gs (p + 1) ys →
    ∃ ys', Cons ls fs p ys' ∧ ∀ q, p + 1 ≤ q → (ys'.map fun y => stL y q) = ys.map fun y => stL y q
  | [], [], gs, p, ys, _, _, hg, hc => by
    cases hc
    exact ⟨[], .nil, fun _ _ => rfl⟩
  | l :: ls, f :: fs, gs, p, ys, hl, hf, hg, hc => by
    cases hc with
    | cons h t =>
      unfold nexts at hg
      rw [List.mem_flatMap] at hg
      obtain ⟨x, hx, hg⟩ := hg
      obtain ⟨g', hg', he⟩ := List.mem_map.1 hg
      injection he with h1 h2
      subst h1
      subst h2
      obtain ⟨y', hy, hq⟩ := con_step hx h (hf f (.head _))
      obtain ⟨ys', hys, hqs⟩ := cons_step (by simpa using hl) (fun f hf' => hf f (.tail _ hf')) hg' t
      exact ⟨y' :: ys', .cons hy hys, fun q hle => by rw [List.map_cons, List.map_cons, hq q hle, hqs q hle]⟩
  | [], _ :: _, _, _, _, hl, _, _, _ => by simp at hl
  | _ :: _, [], _, _, _, hl, _, _, _ => by simp at hl
theorem nexts_in {p : Nat} : ∀ {ls : List Le} {fs gs : List Nat}, fs.length = ls.length → gs ∈ nexts p ls fs → gs.length = ls.length ∧ ∀ g ∈ gs, g = 0 ∨ g = 1 ∨ g = 2
  | [], [], gs, _, h => by
    have : gs = [] := by simpa [nexts] using h
    subst this
    exact ⟨rfl, fun g hg => by cases hg⟩
  | l :: ls, f :: fs, gs, hl, h => by
    unfold nexts at h
    rw [List.mem_flatMap] at h
    obtain ⟨x, hx, hg⟩ := h
    obtain ⟨g', hg', rfl⟩ := List.mem_map.1 hg
    obtain ⟨h1, h2⟩ := nexts_in (by simpa using hl) hg'
    refine ⟨by simp [h1], fun g hg => ?_⟩
    rcases List.mem_cons.1 hg with rfl | hg
    · exact steps_lt hx
    · exact h2 g hg
  | [], _ :: _, _, h, _ => by simp at h
  | _ :: _, [], _, h, _ => by simp at h
theorem cons_end {n m : Int} (hn : 0 ≤ n) : ∀ {ls : List Le} {fs : List Nat}, (∀ l ∈ ls, LeOk n m l) → fs.length = ls.length → (∀ f ∈ fs, f = 0 ∨ f = 1 ∨ f = 2) → endB n ls fs = true → ∃ ys, Cons ls fs n.toNat ys
  | [], [], _, _, _, _ => ⟨[], .nil⟩
  | l :: ls, f :: fs, hv, hl, hf, he => by
    unfold endB at he
    simp only [Bool.and_eq_true, Bool.or_eq_true, decide_eq_true_eq] at he
    obtain ⟨ys, hys⟩ := cons_end hn (fun l hl => hv l (.tail _ hl)) (by simpa using hl) (fun f hf' => hf f (.tail _ hf')) he.2
    have v := (hv l (.head _)).t
    have hnn : ((n.toNat : Nat) : Int) = n := by omega
    rcases hf f (.head _) with rfl | rfl | rfl
    · exact absurd rfl he.1.1
    · refine ⟨(n - 1, n) :: ys, .cons ⟨?_, fun _ => ?_, fun h => by cases h⟩ hys⟩
      · unfold stL
        rw [hnn]
        dsimp only
        rw [if_neg (by omega), if_pos (by omega)]
      · have := he.1.2
        dsimp only
        omega
    · refine ⟨(-1, -1) :: ys, .cons ⟨?_, fun h => absurd rfl h, fun h => by cases h⟩ hys⟩
      unfold stL
      rw [hnn]
      dsimp only
      rw [if_neg (by omega), if_neg (by omega)]
  | [], _ :: _, _, h, _, _ => by simp at h
  | _ :: _, [], _, h, _, _ => by simp at h
theorem runs_traj {b : Bn} (v : VB b) : ∀ {k p : Nat} {fs : List Nat} {r : List (List Nat)}, ((p + k : Nat) : Int) = b.n → fs.length = b.ls.length → (∀ f ∈ fs, f = 0 ∨ f = 1 ∨ f = 2) → r ∈ runs b k p fs → ∃ ys, Cons b.ls fs p ys ∧ r = traj k ys p
  | 0, p, fs, r, hk, hl, hf, hr => by
    have hn := v.n
    unfold runs at hr
    split at hr
    · rename_i he
      have : r = [] := by simpa using hr
      subst this
      obtain ⟨ys, hys⟩ := cons_end (by omega) v.ls hl hf he
      rw [show b.n.toNat = p by omega] at hys
      exact ⟨ys, hys, rfl⟩
    · cases hr
  | k + 1, p, fs, r, hk, hl, hf, hr => by
    obtain ⟨g, r', rfl, hg, hr'⟩ := mem_runs.1 hr
    obtain ⟨h1, h2⟩ := nexts_in hl hg
    obtain ⟨ys, hys, rfl⟩ := runs_traj v (by omega) h1 h2 hr'
    obtain ⟨ys', hys', hq⟩ := cons_step hl hf hg hys
    refine ⟨ys', hys', ?_⟩
    rw [traj_succ]
    have e1 : (ys'.map fun y => stL y (p + 1)) = g := by
      rw [hq _ (Nat.le_refl _)]
      exact hys.now
    rw [e1]
    congr 1
    unfold traj
    refine List.map_congr_left fun q hq' => ?_
    rw [List.mem_range'_1] at hq'
    exact (hq (q + 1) (by omega)).symm
theorem cons_lines {ls : List Le} {ys : List Sp} (h : Cons ls (List.replicate ls.length 0) 0 ys) : ys ∈ combos ls := by
  have : ∀ {ls : List Le} {fs : List Nat} {ys : List Sp}, Cons ls fs 0 ys → (∀ f ∈ fs, f = 0) → ys ∈ combos ls := by
    intro ls fs ys h
    generalize hp : (0 : Nat) = p at h
    induction h with
    | nil => intro _; simp [combos]
    | cons h t ih =>
      intro hf
      subst hp
      unfold combos
      rw [List.mem_flatMap]
      have h0 := hf _ (.head _)
      subst h0
      have h3 := h.f rfl
      have h4 := h.t (by omega)
      exact ⟨_, mem_linesL.2 ⟨h3.1, h4, h3.2⟩, List.mem_map.2 ⟨_, ih rfl (fun f hf' => hf f (.tail _ hf')), rfl⟩⟩
  exact this h fun f hf => List.eq_of_mem_replicate hf
theorem mem_combos : ∀ {l : Le} {ls : List Le} {x : List Sp}, x ∈ combos (l :: ls) ↔ ∃ y ys, x = y :: ys ∧ y ∈ linesL l ∧ ys ∈ combos ls := by
  intro l ls x
  conv => lhs; unfold combos
  rw [List.mem_flatMap]
  constructor
  · rintro ⟨y, hy, hx⟩
    obtain ⟨ys, hys, rfl⟩ := List.mem_map.1 hx
    exact ⟨y, ys, rfl, hy, hys⟩
  · rintro ⟨y, ys, rfl, hy, hys⟩
    exact ⟨y, hy, List.mem_map.2 ⟨ys, hys, rfl⟩⟩
theorem lines_next {n m : Int} {p : Nat} : ∀ {ls : List Le} {x : List Sp}, (∀ l ∈ ls, LeOk n m l) → x ∈ combos ls → (x.map fun y => stL y (p + 1)) ∈ nexts p ls (x.map fun y => stL y p)
  | [], x, _, h => by
    have : x = [] := by simpa [combos] using h
    subst this
    simp [nexts]
  | l :: ls, x, hv, h => by
    obtain ⟨y, ys, rfl, h1, h2⟩ := mem_combos.1 h
    unfold nexts
    rw [List.map_cons, List.map_cons, List.mem_flatMap]
    exact ⟨_, steps_of (hv l (.head _)) h1, List.mem_map.2 ⟨_, lines_next (fun l hl => hv l (.tail _ hl)) h2, rfl⟩⟩
theorem lines_end {n m : Int} (hn : 0 ≤ n) : ∀ {ls : List Le} {x : List Sp}, (∀ l ∈ ls, LeOk n m l) → x ∈ combos ls → endB n ls (x.map fun y => stL y n.toNat) = true
  | [], x, _, h => by simp [endB]
  | l :: ls, x, hv, h => by
    obtain ⟨y, ys, rfl, h1, h2⟩ := mem_combos.1 h
    have h3 := mem_linesL.1 h1
    have v := hv l (.head _)
    have vf := v.f
    have vt := v.t
    unfold endB
    rw [List.map_cons]
    simp only [Bool.and_eq_true, Bool.or_eq_true, decide_eq_true_eq]
    refine ⟨?_, lines_end hn (fun l hl => hv l (.tail _ hl)) h2⟩
    have hnn : ((n.toNat : Nat) : Int) = n := by omega
    unfold stL
    rw [hnn, if_neg (by omega)]
    by_cases hk : n ≤ y.2
    · rw [if_pos hk]
      exact ⟨by omega, .inr (by omega)⟩
    · rw [if_neg hk]
      exact ⟨by omega, .inl rfl⟩
theorem traj_runs {b : Bn} (v : VB b) {x : List Sp} (hx : x ∈ combos b.ls) : ∀ {k p : Nat}, ((p + k : Nat) : Int) = b.n → traj k x p ∈ runs b k p (x.map fun y => stL y p)
  | 0, p, hk => by
    have hn := v.n
    unfold runs
    have := lines_end (by omega) v.ls hx
    rw [show b.n.toNat = p by omega] at this
    rw [if_pos this]
    simp [traj]
  | k + 1, p, hk => by
    rw [traj_succ, mem_runs]
    exact ⟨_, _, rfl, lines_next v.ls hx, traj_runs v hx (by omega)⟩
theorem st_zero {b : Bn} (v : VB b) : ∀ {ls : List Le} {x : List Sp}, (∀ l ∈ ls, LeOk b.n b.m l) → x ∈ combos ls → (x.map fun y => stL y 0) = List.replicate ls.length 0
  | [], x, _, h => by
    have : x = [] := by simpa [combos] using h
    subst this; rfl
  | l :: ls, x, hv, h => by
    obtain ⟨y, ys, rfl, h1, h2⟩ := mem_combos.1 h
    have h3 := mem_linesL.1 h1
    have vf := (hv l (.head _)).f
    rw [List.map_cons, st_zero v (fun l hl => hv l (.tail _ hl)) h2]
    unfold stL
    rw [if_pos (by omega)]
    rfl
theorem mem_runs0 {b : Bn} (v : VB b) {r : List (List Nat)} : r ∈ runs b b.n.toNat 0 (List.replicate b.ls.length 0) ↔ r ∈ (combos b.ls).map fun x => traj b.n.toNat x 0 := by
  have hn := v.n
  rw [List.mem_map]
  constructor
  · intro h
    obtain ⟨ys, hys, rfl⟩ := runs_traj v (k := b.n.toNat) (p := 0) (by omega) (by simp) (fun f hf => .inl (List.eq_of_mem_replicate hf)) h
    exact ⟨ys, cons_lines hys, rfl⟩
  · rintro ⟨x, hx, rfl⟩
    rw [← st_zero v v.ls hx]
    exact traj_runs v hx (by omega)
/-! ## Nothing comes twice -/
theorem nodup_map_inj {α β : Type} {f : α → β} {l : List α} (h : l.Nodup) (hf : ∀ x ∈ l, ∀ y ∈ l, f x = f y → x = y) : (l.map f).Nodup := by
  rw [List.nodup_iff_pairwise_ne, List.pairwise_map]
  exact List.Pairwise.imp_of_mem (fun {a c} ha hc hne he => hne (hf a ha c hc he)) (List.nodup_iff_pairwise_ne.1 h)
theorem nodup_flat {α β : Type} {f : α → List (List β)} {g : α → β} : ∀ {l : List α}, l.Nodup → (∀ x ∈ l, ∀ y ∈ l, g x = g y → x = y) → (∀ x ∈ l, (f x).Nodup) → (l.flatMap fun x => (f x).map (g x :: ·)).Nodup
  | [], _, _, _ => by simp
  | a :: l, h, hg, hf => by
    rw [List.nodup_cons] at h
    rw [List.flatMap_cons, List.nodup_append]
    refine ⟨nodup_map_inj (hf a (.head _)) fun x _ y _ he => by injection he, nodup_flat h.2 (fun x hx y hy => hg x (.tail _ hx) y (.tail _ hy)) (fun x hx => hf x (.tail _ hx)), ?_⟩
    rintro x hx y hy rfl
    obtain ⟨r, _, rfl⟩ := List.mem_map.1 hx
    obtain ⟨c, hc, hy⟩ := List.mem_flatMap.1 hy
    obtain ⟨r', _, he⟩ := List.mem_map.1 hy
    injection he with h1 _
    have := hg c (.tail _ hc) a (.head _) h1
    subst this
    exact h.1 hc
theorem steps_nodup (l : Le) (f p : Nat) : (steps l f p).Nodup := by
  unfold steps
  repeat (first | split | simp)
theorem nexts_nodup (p : Nat) : ∀ (ls : List Le) (fs : List Nat), (nexts p ls fs).Nodup
  | [], _ => by simp [nexts]
  | _ :: _, [] => by simp [nexts]
  | l :: ls, f :: fs => by
    unfold nexts
    exact nodup_flat (g := id) (steps_nodup l f p) (fun _ _ _ _ h => h) fun _ _ => nexts_nodup p ls fs
theorem runs_nodup (b : Bn) : ∀ (k p : Nat) (fs : List Nat), (runs b k p fs).Nodup
  | 0, p, fs => by
    unfold runs
    split <;> simp
  | k + 1, p, fs => by
    unfold runs
    exact nodup_flat (g := id) (nexts_nodup p b.ls fs) (fun _ _ _ _ h => h) fun g _ => runs_nodup b k (p + 1) g
theorem linesL_nodup (l : Le) : (linesL l).Nodup := by
  unfold linesL
  rw [List.nodup_iff_pairwise_ne, List.pairwise_flatMap]
  refine ⟨fun i _ => ?_, ?_⟩
  · rw [List.pairwise_map]
    refine List.Pairwise.imp ?_ ((List.nodup_iff_pairwise_ne.1 (rng_nodup l.t.1 l.t.2)).filter _)
    intro a c h he
    exact h (by injection he)
  · refine List.Pairwise.imp ?_ (List.nodup_iff_pairwise_ne.1 (rng_nodup l.f.1 l.f.2))
    rintro a c h x hx y hy rfl
    obtain ⟨k, _, rfl⟩ := List.mem_map.1 hx
    obtain ⟨k', _, he⟩ := List.mem_map.1 hy
    injection he with h1
    exact h h1.symm
theorem combos_nodup : ∀ ls : List Le, (combos ls).Nodup
  | [] => by simp [combos]
  | l :: ls => by
    unfold combos
    exact nodup_flat (g := id) (linesL_nodup l) (fun _ _ _ _ h => h) fun _ _ => combos_nodup ls
theorem stL_inj {n m : Int} {l : Le} (v : LeOk n m l) {x y : Sp} (hx : x ∈ linesL l) (hy : y ∈ linesL l) (h : ∀ q : Nat, (q : Int) < n → stL x (q + 1) = stL y (q + 1)) : x = y := by
  have h1 := mem_linesL.1 hx
  have h2 := mem_linesL.1 hy
  have vf := v.f
  have vt := v.t
  have key : ∀ {x y : Sp}, x ∈ linesL l → y ∈ linesL l → (∀ q : Nat, (q : Int) < n → stL x (q + 1) = stL y (q + 1)) → y.1 ≤ x.1 ∧ y.2 ≤ x.2 := by
    intro x y hx hy h
    have h1 := mem_linesL.1 hx
    have h2 := mem_linesL.1 hy
    constructor
    · have := h x.1.toNat (by omega)
      unfold stL at this
      rw [if_neg (by omega), if_pos (by omega)] at this
      split at this
      · cases this
      · omega
    · by_cases hn : x.2 < n
      · have := h x.2.toNat (by omega)
        unfold stL at this
        rw [if_neg (by omega), if_neg (by omega)] at this
        split at this
        · cases this
        · split at this
          · cases this
          · omega
      · omega
  have a := key hx hy h
  have c := key hy hx (fun q hq => (h q hq).symm)
  exact Prod.ext (by omega) (by omega)
theorem traj_inj {n m : Int} : ∀ {ls : List Le} {x y : List Sp}, (∀ l ∈ ls, LeOk n m l) → x ∈ combos ls → y ∈ combos ls → (∀ q : Nat, (q : Int) < n → (x.map fun z => stL z (q + 1)) = y.map fun z => stL z (q + 1)) → x = y
  | [], x, y, _, hx, hy, _ => by
    have h1 : x = [] := by simpa [combos] using hx
    have h2 : y = [] := by simpa [combos] using hy
    rw [h1, h2]
  | l :: ls, x, y, hv, hx, hy, h => by
    obtain ⟨a, x', rfl, ha, hx'⟩ := mem_combos.1 hx
    obtain ⟨c, y', rfl, hc, hy'⟩ := mem_combos.1 hy
    simp only [List.map_cons, List.cons.injEq] at h
    rw [stL_inj (hv l (.head _)) ha hc (fun q hq => (h q hq).1), traj_inj (fun l hl => hv l (.tail _ hl)) hx' hy' (fun q hq => (h q hq).2)]
theorem perm_of_mem {α : Type} {l m : List α} (hl : l.Nodup) (hm : m.Nodup) (h : ∀ x, x ∈ l ↔ x ∈ m) : l.Perm m := by
  exact (List.perm_ext_iff_of_nodup hl hm).2 h
theorem runs_perm {b : Bn} (v : VB b) : (runs b b.n.toNat 0 (List.replicate b.ls.length 0)).Perm ((combos b.ls).map fun x => traj b.n.toNat x 0) := by
  refine perm_of_mem (runs_nodup _ _ _ _) (nodup_map_inj (combos_nodup _) fun x hx y hy he => ?_) fun r => mem_runs0 v
  refine traj_inj v.ls hx hy fun q hq => ?_
  unfold traj at he
  have hn := v.n
  have := congrArg (fun l : List (List Nat) => l[q]?) he
  simp only [List.getElem?_map] at this
  rw [List.getElem?_range' (by omega)] at this
  simpa using this
/-! ## What is asked, by lines -/
theorem hol_own {p : Nat} : ∀ (ls : List Le) (x : List Sp) (o : Int), hol ls (x.map fun y => stL y (p + 1)) o = own ls x p o
  | [], _, _ => by simp [hol, own]
  | _ :: _, [], _ => by simp [hol, own]
  | l :: ls, y :: x, o => by
    rw [List.map_cons]
    unfold hol own
    rw [hol_own ls x]
    congr 1
    unfold stL
    by_cases h1 : ((p + 1 : Nat) : Int) ≤ y.1
    · rw [if_pos h1, if_neg (by omega), if_neg (by omega)]
    · rw [if_neg h1]
      by_cases h2 : ((p + 1 : Nat) : Int) ≤ y.2
      · rw [if_pos h2, if_pos rfl, if_pos (by omega)]
      · rw [if_neg h2, if_neg (by omega), if_neg (by omega)]
theorem okRun_traj (b : Bn) (aq : List Ask) (x : List Sp) : ∀ (k p : Nat), okRun b aq p (befX b x p) (traj k x p) = (List.range' p k).all fun q => allIs aq q (ownX b x q) (befX b x q)
  | 0, p => by simp [traj, okRun]
  | k + 1, p => by
    rw [traj_succ, List.range'_succ, List.all_cons]
    unfold okRun
    have e : hol b.ls (x.map fun y => stL y (p + 1)) b.m = befX b x (p + 1) := by
      rw [hol_own]
      unfold befX ownX
      rw [if_neg (by omega)]
      congr 1
      omega
    rw [e, okRun_traj b aq x k (p + 1)]
    congr 2
    unfold befX ownX
    rw [if_neg (by omega)]
    congr 1
    omega
theorem cntRun_traj (b : Bn) (h : Int) (x : List Sp) : ∀ (k p : Nat) (c : Int), cntRun b h c (traj k x p) = c + (((List.range' p k).filter fun q : Nat => decide (ownX b x q = h)).length : Nat)
  | 0, p, c => by simp [traj, cntRun]
  | k + 1, p, c => by
    rw [traj_succ, List.range'_succ, List.filter_cons]
    unfold cntRun
    rw [hol_own, cntRun_traj b h x k (p + 1)]
    show bump h (ownX b x p) c + _ = _
    unfold bump
    by_cases hh : ownX b x p = h
    · rw [if_pos hh, if_pos (decide_eq_true hh), List.length_cons]
      omega
    · rw [if_neg hh, if_neg (by simpa using hh)]
/-- What is counted perch by perch is what all lines give. -/
theorem fin_perm {b : Bn} (v : VB b) (aq : List Ask) (h : Int) : (finR b aq h).Perm (((combos b.ls).filter (okX b aq)).map (cntX b h)) := by
  rw [fin_outs, outs_runs]
  refine (((runs_perm v).filter _).map _).trans ?_
  rw [List.filter_map, List.map_map]
  have e1 : (okRun b aq 0 (-1) ∘ fun x => traj b.n.toNat x 0) = okX b aq := by
    funext x
    have := okRun_traj b aq x b.n.toNat 0
    unfold okX
    rw [List.range_eq_range']
    exact this
  have e2 : (cntRun b h 0 ∘ fun x => traj b.n.toNat x 0) = cntX b h := by
    funext x
    have := cntRun_traj b h x b.n.toNat 0 0
    unfold cntX
    rw [List.range_eq_range', Function.comp_apply, this]
    omega
  rw [e1, e2]
end Go.Proofs.Ytakmopiceopcpaa
end

section
namespace Go.Proofs.Ytakmopiceopcpaa
open Go.RowKit
/-! ## Lists in another order -/
theorem perm_swapL {α β γ : Type} (f : α → β → γ) : ∀ (xs : List α) (cs : List β), (xs.flatMap fun x => cs.map fun c => f x c).Perm (cs.flatMap fun c => xs.map fun x => f x c)
  | [], cs => by
    have : (cs.flatMap fun _ => ([] : List γ)) = [] := by induction cs with
      | nil => rfl
      | cons c cs ih => rw [List.flatMap_cons, ih]; rfl
    simp only [List.map_nil, List.flatMap_nil]
    rw [this]
  | x :: xs, cs => by
    rw [List.flatMap_cons]
    refine ((perm_swapL f xs cs).append_left _).trans ?_
    clear perm_swapL
    induction cs with
    | nil => simp
    | cons c cs ih =>
      simp only [List.map_cons, List.flatMap_cons, List.cons_append]
      refine .cons _ ?_
      refine List.Perm.trans ?_ (ih.append_left _)
      rw [← List.append_assoc, ← List.append_assoc]
      exact List.perm_append_comm.append_right _
theorem group_perm {α κ : Type} [DecidableEq κ] (key : α → κ) : ∀ (R : List α) {K : List κ}, K.Nodup → (∀ q ∈ R, key q ∈ K) → (K.flatMap fun k => R.filter fun q => decide (key q = k)).Perm R
  | [], K, _, _ => by
    induction K with
    | nil => simp
    | cons k K ih => simp
  | q :: R, K, hn, hk => by
    have ih := group_perm key R hn (fun q hq => hk q (.tail _ hq))
    have hq := hk q (.head _)
    refine List.Perm.trans ?_ (ih.cons q)
    clear ih hk
    induction K with
    | nil => cases hq
    | cons k K ih =>
      rw [List.nodup_cons] at hn
      rw [List.flatMap_cons, List.flatMap_cons, List.filter_cons]
      by_cases he : key q = k
      · rw [if_pos (decide_eq_true he), List.cons_append]
        refine .cons _ (List.Perm.append_left _ ?_)
        have : ∀ K' : List κ, k ∉ K' → (K'.flatMap fun k => (q :: R).filter fun q => decide (key q = k)) = K'.flatMap fun k => R.filter fun q => decide (key q = k) := by
          intro K' hK'
          induction K' with
          | nil => rfl
          | cons a K' ih' =>
            rw [List.mem_cons, not_or] at hK'
            rw [List.flatMap_cons, List.flatMap_cons, ih' hK'.2, List.filter_cons, if_neg (by simpa using fun h => hK'.1 (he.symm.trans h))]
        rw [this K hn.1]
      · rw [if_neg (by simpa using he)]
        rcases List.mem_cons.1 hq with h | h
        · exact absurd h he
        · refine ((ih hn.2 h).append_left _).trans ?_
          exact List.perm_middle
/-! ## How many, the least, the greatest -/
def tl (l : List Int) : Int × Int × Int := (l.length, l.min?.getD 0, l.max?.getD 0)
theorem min_spec {l : List Int} {a : Int} (h : l.min? = some a) : a ∈ l ∧ ∀ x ∈ l, a ≤ x := by
  rw [List.min?_eq_some_iff] at h
  exact h
theorem max_spec {l : List Int} {a : Int} (h : l.max? = some a) : a ∈ l ∧ ∀ x ∈ l, x ≤ a := by
  rw [List.max?_eq_some_iff] at h
  exact h
theorem min_some {l : List Int} (h : l ≠ []) : ∃ a, l.min? = some a := by
  cases l with
  | nil => exact absurd rfl h
  | cons x l => exact ⟨_, List.min?_cons'⟩
theorem max_some {l : List Int} (h : l ≠ []) : ∃ a, l.max? = some a := by
  cases l with
  | nil => exact absurd rfl h
  | cons x l => exact ⟨_, List.max?_cons'⟩
theorem tl_eq {l : List Int} {a b : Int} (ha : a ∈ l) (ha' : ∀ x ∈ l, a ≤ x) (hb : b ∈ l) (hb' : ∀ x ∈ l, x ≤ b) : tl l = ((l.length : Int), a, b) := by
  unfold tl
  rw [List.min?_eq_some_iff.2 ⟨ha, ha'⟩, List.max?_eq_some_iff.2 ⟨hb, hb'⟩]; rfl
theorem tl_ne {l : List Int} (h : l ≠ []) : ∃ a b, (a ∈ l ∧ ∀ x ∈ l, a ≤ x) ∧ (b ∈ l ∧ ∀ x ∈ l, x ≤ b) ∧ tl l = ((l.length : Int), a, b) := by
  obtain ⟨a, ha⟩ := min_some h
  obtain ⟨b, hb⟩ := max_some h
  have h1 := min_spec ha
  have h2 := max_spec hb
  exact ⟨a, b, h1, h2, tl_eq h1.1 h1.2 h2.1 h2.2⟩
theorem tl_perm {l m : List Int} (h : l.Perm m) : tl l = tl m := by
  by_cases hl : l = []
  · subst hl
    rw [h.symm.eq_nil]
  · obtain ⟨a, b, h1, h2, h3⟩ := tl_ne hl
    rw [h3, tl_eq (h.mem_iff.1 h1.1) (fun x hx => h1.2 x (h.mem_iff.2 hx)) (h.mem_iff.1 h2.1) (fun x hx => h2.2 x (h.mem_iff.2 hx)), h.length_eq]
def both (x y : Int × Int × Int) : Int × Int × Int := (x.1 + y.1, min x.2.1 y.2.1, max x.2.2 y.2.2)
theorem tl_append {l m : List Int} (hl : l ≠ []) (hm : m ≠ []) : tl (l ++ m) = both (tl l) (tl m) := by
  obtain ⟨a, b, h1, h2, h3⟩ := tl_ne hl
  obtain ⟨c, d, h4, h5, h6⟩ := tl_ne hm
  rw [h3, h6]
  unfold both
  have e := tl_eq (l := l ++ m) (a := min a c) (b := max b d) ?_ ?_ ?_ ?_
  · rw [e]
    simp only [List.length_append, Prod.mk.injEq, and_true]
    omega
  · rw [List.mem_append]
    by_cases h : a ≤ c
    · rw [Int.min_eq_left h]; exact .inl h1.1
    · rw [Int.min_eq_right (by omega)]; exact .inr h4.1
  · intro x hx
    rcases List.mem_append.1 hx with hx | hx
    · have := h1.2 x hx; omega
    · have := h4.2 x hx; omega
  · rw [List.mem_append]
    by_cases h : d ≤ b
    · rw [Int.max_eq_left h]; exact .inl h2.1
    · rw [Int.max_eq_right (by omega)]; exact .inr h5.1
  · intro x hx
    rcases List.mem_append.1 hx with hx | hx
    · have := h2.2 x hx; omega
    · have := h5.2 x hx; omega
theorem tl_bump {l : List Int} (hl : l ≠ []) (h o : Int) : tl (l.map (bump h o)) = ((tl l).1, bump h o (tl l).2.1, bump h o (tl l).2.2) := by
  obtain ⟨a, b, h1, h2, h3⟩ := tl_ne hl
  rw [h3]
  have hb : ∀ c d, c ≤ d → bump h o c ≤ bump h o d := by
    intro c d hcd
    unfold bump
    split <;> omega
  rw [tl_eq (List.mem_map.2 ⟨a, h1.1, rfl⟩) (fun x hx => by
    obtain ⟨y, hy, rfl⟩ := List.mem_map.1 hx
    exact hb _ _ (h1.2 y hy)) (List.mem_map.2 ⟨b, h2.1, rfl⟩) (fun x hx => by
    obtain ⟨y, hy, rfl⟩ := List.mem_map.1 hx
    exact hb _ _ (h2.2 y hy)), List.length_map]
/-! ## Rows by their states -/
def pad4 (l : List Nat) : List Int := (l ++ List.replicate (4 - l.length) 0).map fun k : Nat => (k : Int)
def keyI (s : St) : List Int := pad4 s.1 ++ [s.2]
theorem pad4_inj {a c : List Nat} (hl : a.length = c.length) (h : pad4 a = pad4 c) : a = c := by
  unfold pad4 at h
  rw [hl] at h
  rw [List.map_append, List.map_append] at h
  have := (List.append_inj h (by simp [hl])).1
  exact List.map_inj_right (fun x y h => by omega) |>.1 this
theorem keyI_inj {s t : St} (hl : s.1.length = t.1.length) (h : keyI s = keyI t) : s = t := by
  unfold keyI at h
  obtain ⟨h1, h2⟩ := List.append_inj h (by simp [pad4, hl])
  exact Prod.ext (pad4_inj hl h1) (by simpa using h2)
def atK (R : List (St × Int)) (is : List Int) : List (St × Int) := R.filter fun q => decide (keyI q.1 = is)
def csK (R : List (St × Int)) (is : List Int) : List Int := (atK R is).map (·.2)
def tlV (t : Int × Int × Int) : Value := .agg [.int .i64 t.1, .int .i64 t.2.1, .int .i64 t.2.2].toArray
def sumM (R : List (St × Int)) : List Int → Option Value := fun is => if csK R is = [] then none else some (tlV (tl (csK R is)))
theorem csK_perm {R S : List (St × Int)} (h : R.Perm S) (is : List Int) : (csK R is).Perm (csK S is) := (h.filter _).map _
theorem sumM_perm {R S : List (St × Int)} (h : R.Perm S) : sumM R = sumM S := by
  funext is
  have hp := csK_perm h is
  unfold sumM
  rw [tl_perm hp]
  by_cases h0 : csK R is = []
  · rw [if_pos h0, if_pos (by rw [h0] at hp; exact hp.symm.eq_nil)]
  · rw [if_neg h0, if_neg (fun h1 => h0 (by rw [h1] at hp; exact hp.eq_nil))]
theorem csK_append (R S : List (St × Int)) (is : List Int) : csK (R ++ S) is = csK R is ++ csK S is := by
  unfold csK atK
  rw [List.filter_append, List.map_append]
theorem csK_ne {R : List (St × Int)} {is : List Int} (h : csK R is ≠ []) : ∃ q ∈ R, keyI q.1 = is := by
  cases hc : csK R is with
  | nil => exact absurd hc h
  | cons c l =>
    have : c ∈ csK R is := by rw [hc]; exact .head _
    unfold csK atK at this
    obtain ⟨q, hq, _⟩ := List.mem_map.1 this
    rw [List.mem_filter, decide_eq_true_eq] at hq
    exact ⟨q, hq.1, hq.2⟩
theorem csK_mem {R : List (St × Int)} {q : St × Int} (h : q ∈ R) : csK R (keyI q.1) ≠ [] := by
  intro hc
  have : q.2 ∈ csK R (keyI q.1) := List.mem_map.2 ⟨q, List.mem_filter.2 ⟨h, decide_eq_true rfl⟩, rfl⟩
  rw [hc] at this; cases this
/-- Rows of one state, that come one behind the other. -/
theorem csK_one (x : St) (cs : List Int) (is : List Int) : csK (cs.map fun c => (x, c)) is = if keyI x = is then cs else [] := by
  unfold csK atK
  rw [List.filter_map, List.map_map]
  split
  · rename_i h
    rw [List.filter_eq_self.2 (by simp [h])]
    simp [Function.comp_def]
  · rename_i h
    rw [List.filter_eq_nil_iff.2 (by simp [h])]; rfl
/-- A state more: what the map then holds. -/
theorem sumM_put (R : List (St × Int)) (x : St) {cs : List Int} (hc : cs ≠ []) : sumM (R ++ cs.map fun c => (x, c)) = fun k => if k = keyI x then some (tlV (if csK R (keyI x) = [] then tl cs else both (tl (csK R (keyI x))) (tl cs))) else sumM R k := by
  funext k
  unfold sumM
  rw [csK_append, csK_one]
  by_cases hk : k = keyI x
  · subst hk
    rw [if_pos rfl, if_pos rfl, if_neg (by simp [hc])]
    split
    · rename_i h0; rw [h0, List.nil_append]
    · rename_i h0; rw [tl_append h0 hc]
  · have e : (if keyI x = k then cs else []) = [] := if_neg fun h => hk h.symm
    rw [e, List.append_nil, if_neg hk]
/-! ## All rows of a perch, state by state, in any order -/
def rowK (b : Bn) (aq : List Ask) (h : Int) (p : Nat) (R : List (St × Int)) (is : List Int) : List (St × Int) := (atK R is).flatMap (row1 b aq h p)
theorem rowK_all (b : Bn) (aq : List Ask) (h : Int) (p : Nat) {R : List (St × Int)} {K : List (List Int)} (hn : K.Nodup) (hk : ∀ q ∈ R, keyI q.1 ∈ K) : (K.flatMap (rowK b aq h p R)).Perm (R.flatMap (row1 b aq h p)) := by
  have h1 := group_perm (fun q : St × Int => keyI q.1) R hn hk
  have : (K.flatMap (rowK b aq h p R)) = (K.flatMap (atK R)).flatMap (row1 b aq h p) := by
    rw [List.flatMap_assoc]; rfl
  rw [this]
  exact h1.flatMap_right _
/-- The rows of one state: by what follows it, for each count. -/
theorem rowK_one (b : Bn) (aq : List Ask) (h : Int) (p : Nat) {R : List (St × Int)} {s : St} (hl : ∀ q ∈ R, q.1.1.length = s.1.length) : (rowK b aq h p R (keyI s)).Perm ((nextS b aq p s).flatMap fun x => ((csK R (keyI s)).map (bump h x.2)).map fun c => (x, c)) := by
  have e : rowK b aq h p R (keyI s) = (csK R (keyI s)).flatMap fun c => (nextS b aq p s).map fun x => (x, bump h x.2 c) := by
    unfold rowK csK
    rw [List.flatMap_map]
    have : ∀ q ∈ atK R (keyI s), row1 b aq h p q = (nextS b aq p s).map fun x => (x, bump h x.2 q.2) := by
      intro q hq
      unfold atK at hq
      rw [List.mem_filter, decide_eq_true_eq] at hq
      unfold row1
      rw [keyI_inj (hl q hq.1) hq.2]
    generalize atK R (keyI s) = l at this
    induction l with
    | nil => rfl
    | cons q l ih => rw [List.flatMap_cons, List.flatMap_cons, ih (fun q hq => this q (.tail _ hq)), this q (.head _)]
  rw [e]
  have := perm_swapL (fun (x : St) (c : Int) => (x, bump h x.2 c)) (nextS b aq p s) (csK R (keyI s))
  refine this.symm.trans ?_
  simp only [List.map_map, Function.comp_def]
  exact .refl _
/-! ## How much there is of it -/
theorem steps_two (l : Le) (f p : Nat) : (steps l f p).length ≤ 2 := by
  unfold steps
  repeat (first | split | simp)
theorem nexts_len (p : Nat) : ∀ (ls : List Le) (fs : List Nat), (nexts p ls fs).length ≤ 2 ^ ls.length
  | [], _ => by simp [nexts]
  | _ :: ls, [] => by simp [nexts]; exact Nat.one_le_two_pow
  | l :: ls, f :: fs => by
    unfold nexts
    have ih := nexts_len p ls fs
    have h2 := steps_two l f p
    generalize steps l f p = xs at h2
    have : (xs.flatMap fun x => (nexts p ls fs).map (x :: ·)).length = xs.length * (nexts p ls fs).length := by
      induction xs with
      | nil => simp
      | cons x xs ih' => rw [List.flatMap_cons, List.length_append, ih' (by simp at h2; omega), List.length_map, List.length_cons, Nat.succ_mul, Nat.add_comm]
    rw [this, List.length_cons, Nat.pow_succ, Nat.mul_comm]
    exact Nat.mul_le_mul ih h2
theorem row_len {α β : Type} {f : α → List β} {m : Nat} (hf : ∀ x, (f x).length ≤ m) : ∀ l : List α, (l.flatMap f).length ≤ l.length * m
  | [] => by simp
  | a :: l => by
    rw [List.flatMap_cons, List.length_append, List.length_cons, Nat.succ_mul]
    have := row_len hf l
    have := hf a
    omega
theorem rows_bd {b : Bn} (v : VB b) (aq : List Ask) (h : Int) : ∀ p, (rowsR b aq h p).length ≤ 16 ^ p
  | 0 => by simp [rowsR]
  | p + 1 => by
    unfold rowsR
    have h1 : ∀ q, (row1 b aq h p q).length ≤ 16 := by
      intro q
      unfold row1 nextS
      rw [List.length_map]
      refine Nat.le_trans (List.length_filter_le _ _) ?_
      rw [List.length_map]
      refine Nat.le_trans (nexts_len p b.ls q.1.1) ?_
      have := v.nl
      exact (Nat.pow_le_pow_right (by omega) this : 2 ^ b.ls.length ≤ 2 ^ 4)
    refine Nat.le_trans (row_len h1 _) ?_
    rw [Nat.pow_succ]
    exact Nat.mul_le_mul_right _ (rows_bd v aq h p)
structure RowOk (b : Bn) (p : Nat) (q : St × Int) : Prop where
  len : q.1.1.length = b.ls.length
  far : ∀ f ∈ q.1.1, f = 0 ∨ f = 1 ∨ f = 2
  hol : -1 ≤ q.1.2 ∧ q.1.2 ≤ b.m
  cnt : 0 ≤ q.2 ∧ q.2 ≤ p
theorem hol_in {m : Int} : ∀ {ls : List Le} {g : List Nat} {o : Int}, (∀ l ∈ ls, 0 ≤ l.h ∧ l.h < m) → 0 ≤ o ∧ o ≤ m → 0 ≤ hol ls g o ∧ hol ls g o ≤ m
  | [], _, o, _, ho => by simpa [hol] using ho
  | _ :: _, [], o, _, ho => by simpa [hol] using ho
  | l :: ls, f :: fs, o, hv, ho => by
    unfold hol
    refine hol_in (fun l hl => hv l (.tail _ hl)) ?_
    have := hv l (.head _)
    split <;> omega
theorem nextS_ok {b : Bn} (v : VB b) {aq : List Ask} {p : Nat} {s : St} (hl : s.1.length = b.ls.length) {x : St} (hx : x ∈ nextS b aq p s) : x.1.length = b.ls.length ∧ (∀ f ∈ x.1, f = 0 ∨ f = 1 ∨ f = 2) ∧ 0 ≤ x.2 ∧ x.2 ≤ b.m := by
  have hm := v.m
  unfold nextS at hx
  obtain ⟨g, hg, rfl⟩ := List.mem_map.1 (List.mem_filter.1 hx).1
  obtain ⟨h1, h2⟩ := nexts_in hl hg
  exact ⟨h1, h2, hol_in (fun l hl => (v.ls l hl).h) (by omega)⟩
theorem rows_ok {b : Bn} (v : VB b) (aq : List Ask) (h : Int) : ∀ p, ∀ q ∈ rowsR b aq h p, RowOk b p q
  | 0, q, hq => by
    have hm := v.m
    have : q = ((List.replicate b.ls.length 0, -1), 0) := by simpa [rowsR] using hq
    subst this
    exact ⟨by simp, fun f hf => .inl (List.eq_of_mem_replicate hf), by dsimp only; omega, by dsimp only; omega⟩
  | p + 1, q, hq => by
    unfold rowsR at hq
    obtain ⟨q0, h0, hq⟩ := List.mem_flatMap.1 hq
    have hr := rows_ok v aq h p q0 h0
    obtain ⟨x, hx, rfl⟩ := List.mem_map.1 hq
    obtain ⟨h1, h2, h3⟩ := nextS_ok v hr.len hx
    have hc := hr.cnt
    refine ⟨h1, h2, by dsimp only; omega, ?_⟩
    unfold bump
    dsimp only
    split <;> omega
end Go.Proofs.Ytakmopiceopcpaa
end
