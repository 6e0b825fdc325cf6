/- Which counts clash, in plain terms. -/
import Derived.Test.YtkaadefndcbdnaaC1
import Derived.Test.YtkaadefndcbdnaaQe
namespace Go.Proofs.Ytkaadefndcbdnaa
open Go.RowKit
/-- Fewer, or as many and a lesser set. -/
def lexB (a b : Nat) : Bool := decide (pc a < pc b ∨ (pc a = pc b ∧ a < b))
def stabChk2 (k : Nat) : Bool :=
  (List.range (2 ^ k)).all (fun x => (stab (2 ^ k) (List.range (2 ^ k))).contains x) &&
  (List.range (2 ^ k)).all (fun i => (List.range (2 ^ k)).all fun j => !decide (i < j) || lexB (gt (stab (2 ^ k) (List.range (2 ^ k))) i) (gt (stab (2 ^ k) (List.range (2 ^ k))) j))
theorem stab_chk2 : ((List.range 5).all stabChk2) = true := by kernel_rfl
theorem lexB_irr {a : Nat} : lexB a a = false := by simp [lexB]
theorem lexB_asym {a b : Nat} (h : lexB a b = true) : lexB b a = false := by
  unfold lexB at h ⊢
  rw [decide_eq_true_eq] at h
  rw [decide_eq_false_iff_not]
  omega
theorem lex_no {a b : Nat} (h : lexB a b = false) : pc b ≤ pc a ∧ (pc a = pc b → b ≤ a) := by
  unfold lexB at h
  rw [decide_eq_false_iff_not] at h
  omega
theorem sets_spec (k : Nat) (hk : k < 5) : (∀ x, x < 2 ^ k → x ∈ stab (2 ^ k) (List.range (2 ^ k))) ∧ ∀ i j, i < j → j < 2 ^ k → lexB (gt (stab (2 ^ k) (List.range (2 ^ k))) i) (gt (stab (2 ^ k) (List.range (2 ^ k))) j) = true := by
  have := stab_chk2
  rw [List.all_eq_true] at this
  have h := this k (List.mem_range.2 hk)
  simp only [stabChk2, Bool.and_eq_true, List.all_eq_true, List.mem_range, Bool.or_eq_true, List.contains_iff_mem] at h
  obtain ⟨h1, h2⟩ := h
  refine ⟨fun x hx => h1 x hx, fun i j hij hj => ?_⟩
  rcases h2 i (by omega) j hj with h3 | h3
  · simp at h3; omega
  · exact h3
theorem bits_less : ∀ y, y < 32 → ∀ k, k < 5 → y / 2 ^ k % 2 = 1 → y &&& (2 ^ 64 - 1 - 2 ^ k) = y - 2 ^ k ∧ pc (y - 2 ^ k) < pc y := by decide +kernel
theorem evL_bit : ∀ m, m < 5 → ∀ j, j < m → (2 ^ m - 1) / 2 ^ j % 2 = 1 := by decide
theorem pickL_mem {x : Nat} {l : Lg} : ∀ {ls : List Lg} {k : Nat}, l ∈ pickL x ls k ↔ ∃ j, ls[j]? = some l ∧ x / 2 ^ (k + j) % 2 = 1
  | [], k => by simp [pickL]
  | q :: ls, k => by
    unfold pickL
    have ih := pickL_mem (x := x) (l := l) (ls := ls) (k := k + 1)
    have key : (∃ j, (q :: ls)[j]? = some l ∧ x / 2 ^ (k + j) % 2 = 1) ↔ (q = l ∧ x / 2 ^ k % 2 = 1) ∨ ∃ j, ls[j]? = some l ∧ x / 2 ^ (k + 1 + j) % 2 = 1 := by
      constructor
      · rintro ⟨j, h1, h2⟩
        cases j with
        | zero => exact .inl ⟨by simpa using h1, by simpa using h2⟩
        | succ j => exact .inr ⟨j, by simpa using h1, by rw [show k + 1 + j = k + (j + 1) by omega]; exact h2⟩
      · rintro (⟨h1, h2⟩ | ⟨j, h1, h2⟩)
        · exact ⟨0, by simp [h1], by simpa using h2⟩
        · exact ⟨j + 1, by simpa using h1, by rw [show k + (j + 1) = k + 1 + j by omega]; exact h2⟩
    rw [key]
    split
    · rename_i h
      rw [List.mem_cons, ih]
      exact ⟨fun h1 => h1.elim (fun h2 => .inl ⟨h2.symm, h⟩) .inr, fun h1 => h1.elim (fun h2 => .inl h2.1.symm) .inr⟩
    · rename_i h
      rw [ih]
      exact ⟨.inr, fun h1 => h1.elim (fun h2 => absurd h2.2 h) id⟩
theorem some_iff {s : Sd} (v : VS s) : someB s = true ↔ ∃ c ts, Tru s c ts := by
  rw [someB_told, told_ne v]
theorem steps_some : ∀ (xs : List Sp) (a : Int), (∀ x ∈ xs, x.1 ≤ x.2) → ∃ ts, Steps a xs ts
  | [], _, _ => ⟨[], rfl⟩
  | x :: xs, a, h => by
    obtain ⟨ts, ht⟩ := steps_some xs (a + x.1) fun y hy => h y (.tail _ hy)
    have := h x (.head _)
    exact ⟨(a + x.1) :: ts, by omega, by omega, ht⟩
theorem rows_some {s : Sd} (v : VS s) : ∃ c, c ∈ rowsC s := by
  have key : ∀ ps : List Spt, (∀ p ∈ ps, p.lo ≤ p.hi) → ∃ r, r.length = ps.length ∧ CIn ps r := by
    intro ps
    induction ps with
    | nil => intro _; exact ⟨[], rfl, .nil⟩
    | cons p ps ih =>
      intro h
      obtain ⟨r, h1, h2⟩ := ih fun q hq => h q (.tail _ hq)
      exact ⟨p.lo :: r, by simp [h1], .cons ⟨Int.le_refl _, h p (.head _)⟩ h2⟩
  obtain ⟨r, h1, h2⟩ := key s.spits fun p hp => (v.sp p hp).2.2.1
  exact ⟨_, rowsC_iff.2 ⟨r, h1, h2, rfl⟩⟩
/-- Without counts there is a truth. -/
theorem bare_some {s : Sd} (v : VS s) (h : s.logs = []) : ∃ c ts, Tru s c ts := by
  obtain ⟨c, hc⟩ := rows_some v
  obtain ⟨ts, ht⟩ := steps_some s.days 0 fun x hx => (v.dy x hx).2.1
  exact ⟨c, ts, tru_iff.2 ⟨hc, ht, fun l hl => by rw [h] at hl; cases hl⟩⟩
section
variable {s : Sd} (v : VS s)
include v
theorem only_mono {x y : Nat} (hs : ∀ j, j < s.logs.length → x / 2 ^ j % 2 = 1 → y / 2 ^ j % 2 = 1) (h : someB (only s y) = true) : someB (only s x) = true := by
  obtain ⟨c, ts, h⟩ := (some_iff (VS_only v y)).1 h
  obtain ⟨h1, h2, h3⟩ := tru_iff.1 h
  refine (some_iff (VS_only v x)).2 ⟨c, ts, tru_iff.2 ⟨h1, h2, fun l hl => h3 l ?_⟩⟩
  obtain ⟨j, hj, hb⟩ := pickL_mem.1 hl
  rw [Nat.zero_add] at hb
  exact pickL_mem.2 ⟨j, hj, by rw [Nat.zero_add]; exact hs j (List.getElem?_eq_some_iff.1 hj).1 hb⟩
theorem only_none : someB (only s 0) = true := by
  have : (only s 0).logs = [] := by
    have key : ∀ (l : List Lg) (k : Nat), pickL 0 l k = [] := by
      intro l
      induction l with
      | nil => intro k; rfl
      | cons a l ih => intro k; unfold pickL; rw [if_neg (by rw [Nat.zero_div]; decide), ih]
    exact key _ _
  exact (some_iff (VS_only v 0)).2 (bare_some (VS_only v 0) this)
theorem only_all : someB (only s (2 ^ s.logs.length - 1)) = someB s := by
  have hnl := v.nl
  rw [Bool.eq_iff_iff, some_iff (VS_only v _), some_iff v]
  constructor
  · rintro ⟨c, ts, h⟩
    obtain ⟨h1, h2, h3⟩ := tru_iff.1 h
    refine ⟨c, ts, tru_iff.2 ⟨h1, h2, fun l hl => h3 l ?_⟩⟩
    obtain ⟨j, hj, rfl⟩ := List.mem_iff_getElem.1 hl
    exact pickL_mem.2 ⟨j, List.getElem?_eq_getElem hj, by rw [Nat.zero_add]; exact evL_bit _ (by omega) j hj⟩
  · rintro ⟨c, ts, h⟩
    obtain ⟨h1, h2, h3⟩ := tru_iff.1 h
    exact ⟨c, ts, tru_iff.2 ⟨h1, h2, fun l hl => h3 l (pickL_sub _ _ _ l hl)⟩⟩
theorem clash_facts : (someB s = true ∧ ClashE s = 4 ∧ ClashV s = 0) ∨
    (someB s = false ∧ ClashE s = 0 ∧ 1 ≤ ClashV s ∧ ClashV s < 2 ^ s.logs.length ∧ someB (only s (ClashV s)) = false ∧
      (∀ k, k < s.logs.length → ClashV s / 2 ^ k % 2 = 1 → ClashV s &&& (2 ^ 64 - 1 - 2 ^ k) = ClashV s - 2 ^ k ∧ someB (only s (ClashV s - 2 ^ k)) = true) ∧ ∀ z, z < 2 ^ s.logs.length → someB (only s z) = false → pc (ClashV s) ≤ pc z ∧ (pc z = pc (ClashV s) → ClashV s ≤ z)) := by
  have hnl := v.nl
  have hvb := vB_of v
  have hp := Nat.two_pow_pos s.logs.length
  have h32 : 2 ^ s.logs.length ≤ 2 ^ 4 := Nat.pow_le_pow_right (by omega) hnl
  cases h0 : someB s with
  | true => exact .inl ⟨rfl, by simp [ClashE, hvb, h0], by simp [ClashV, h0]⟩
  | false =>
    obtain ⟨h1, h2⟩ := sets_spec s.logs.length (by omega)
    have hlt := sets_lt v
    cases hf : clashF s with
    | none =>
      unfold clashF at hf
      rw [List.find?_eq_none] at hf
      have := hf _ (h1 (2 ^ s.logs.length - 1) (by omega))
      rw [only_all v, h0] at this
      simp at this
    | some y =>
      have hV : ClashV s = y := by simp [ClashV, hvb, h0, hf]
      have hE : ClashE s = 0 := by simp [ClashE, hvb, h0, hf]
      rw [hV]
      unfold clashF at hf
      rw [List.find?_eq_some_iff_getElem] at hf
      obtain ⟨hy, i, hi, hSi, hno⟩ := hf
      have hyb : someB (only s y) = false := by simpa using hy
      have hmem : ∀ k (h : k < (setsL s).length), gt (setsL s) k = (setsL s)[k] := fun k h => by simp [gt, h]
      have hy2 : y < 2 ^ s.logs.length := by
        have hall : ((List.range 5).all fun k => (stab (2 ^ k) (List.range (2 ^ k))).all fun x => decide (x < 2 ^ k)) = true := by kernel_rfl
        rw [List.all_eq_true] at hall
        have h3 := hall s.logs.length (List.mem_range.2 (by omega))
        rw [List.all_eq_true] at h3
        have := h3 y (by rw [← hSi]; exact List.getElem_mem hi)
        simpa using this
      have hless : ∀ z, z < 2 ^ s.logs.length → lexB z y = true → someB (only s z) = true := by
        intro z hz hl
        obtain ⟨j, hj, he⟩ := List.getElem_of_mem (h1 z hz)
        have hj' : j < (setsL s).length := hj
        have hgz : gt (setsL s) j = z := by rw [hmem j hj']; exact he
        have hgy : gt (setsL s) i = y := by rw [hmem i hi]; exact hSi
        by_cases hij : j < i
        · have := hno j hij
          have he' : (setsL s)[j] = z := he
          rw [he'] at this
          simpa using this
        · by_cases hij2 : j = i
          · subst hij2; rw [hgz] at hgy; rw [hgy, lexB_irr] at hl; cases hl
          · have h5 := h2 i j (by omega) (by rw [← hlt.1]; exact hj)
            have h6 : lexB (gt (setsL s) i) (gt (setsL s) j) = true := h5
            rw [hgz, hgy] at h6
            rw [lexB_asym h6] at hl; cases hl
      refine .inr ⟨rfl, hE, ?_, hy2, hyb, fun k hk hbit => ?_, fun z hz hzs => lex_no ?_⟩
      · cases y with
        | zero => rw [only_none v] at hyb; cases hyb
        | succ y => omega
      · obtain ⟨e1, e2⟩ := bits_less y (by omega) k (by omega) hbit
        refine ⟨e1, hless _ (Nat.lt_of_le_of_lt (Nat.sub_le _ _) hy2) ?_⟩
        unfold lexB
        rw [decide_eq_true_eq]
        exact .inl e2
      · cases hl : lexB z y with
        | false => rfl
        | true => rw [hless z hz hl] at hzs; cases hzs
end
end Go.Proofs.Ytkaadefndcbdnaa
