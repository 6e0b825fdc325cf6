/- The law SodFits in plain terms. -/
import Derived.Test.YtkaadefndcbdnaaQe
namespace Go.Proofs.Ytkaadefndcbdnaa
open Go.RowKit
/-- A day's count is right just if it is so of that day. -/
theorem right_day {sp : List Spt} {c ts : List Int} {d : Nat} {lo hi : Int} : Right sp c ts ⟨d, lo, hi⟩ ↔ ∀ t, ts[d]? = some t → lo ≤ cutS sp c 0 t ∧ cutS sp c 0 t ≤ hi := by
  constructor
  · exact fun h t ht => h d t rfl ht
  · intro h k t hk ht
    have : d = k := by have h9 : (d : Int) = k := hk; omega
    subst this
    exact h t ht
theorem fits_facts {s : Sd} (v : VS s) (hn : s.logs.length < 4) {d : Nat} (hd : d < s.days.length) {lo hi : Int} (h1 : 0 ≤ lo ∧ lo ≤ hi ∧ hi ≤ 200) : VS (addL s ⟨d, lo, hi⟩) ∧ (toldC s = [] → toldC (addL s ⟨d, lo, hi⟩) = []) ∧ (toldC s ≠ [] →
    (fitsV s d (lo, hi) = 2 ∧ (lo ≤ (cutV s d).1 ∧ (cutV s d).2 ≤ hi) ∧ toldC (addL s ⟨d, lo, hi⟩) ≠ [] ∧ cutV (addL s ⟨d, lo, hi⟩) d = cutV s d ∧ doneV (addL s ⟨d, lo, hi⟩) = doneV s) ∨
    (fitsV s d (lo, hi) = 0 ∧ ¬ (lo ≤ (cutV s d).1 ∧ (cutV s d).2 ≤ hi) ∧ toldC (addL s ⟨d, lo, hi⟩) = []) ∨
    (fitsV s d (lo, hi) = 1 ∧ ¬ (lo ≤ (cutV s d).1 ∧ (cutV s d).2 ≤ hi) ∧ toldC (addL s ⟨d, lo, hi⟩) ≠ [] ∧ max (cutV s d).1 lo ≤ (cutV (addL s ⟨d, lo, hi⟩) d).1 ∧ (cutV (addL s ⟨d, lo, hi⟩) d).2 ≤ min (cutV s d).2 hi ∧ (cutV (addL s ⟨d, lo, hi⟩) d).1 ≤ (cutV (addL s ⟨d, lo, hi⟩) d).2)) := by
  have v' : VS (addL s ⟨d, lo, hi⟩) := VS_add v hn ⟨Int.natCast_nonneg d, by show (d : Int) < _; omega⟩ h1
  have hT : ∀ c ts, Tru (addL s ⟨d, lo, hi⟩) c ts ↔ Tru s c ts ∧ ∀ t, ts[d]? = some t → lo ≤ cutS s.spits c 0 t ∧ cutS s.spits c 0 t ≤ hi := fun c ts => by rw [tru_add, right_day]
  have hsub : ∀ c ts, Tru (addL s ⟨d, lo, hi⟩) c ts → Tru s c ts := fun c ts h => ((hT c ts).1 h).1
  refine ⟨v', fun h0 => ?_, fun h0 => ?_⟩
  · apply Classical.byContradiction
    intro hne
    exact more_told v v' hsub hne h0
  · have hin : (∀ c ts t, Tru s c ts → ts[d]? = some t → lo ≤ cutS s.spits c 0 t ∧ cutS s.spits c 0 t ≤ hi) ↔ (lo ≤ (cutV s d).1 ∧ (cutV s d).2 ≤ hi) := by
      obtain ⟨⟨c, ts, t, a1, a2, a3⟩, ⟨c', ts', t', b1, b2, b3⟩, hh⟩ := cut_hull v h0 hd
      constructor
      · intro h
        have := h c ts t a1 a2
        have := h c' ts' t' b1 b2
        omega
      · intro h c ts t h1 h2
        have := hh _ ⟨c, ts, t, h1, h2, rfl⟩
        omega
    rcases fits_iff v h0 hd (lo, hi) h1.2.1 with ⟨f1, f2⟩ | ⟨f1, f2, f3⟩ | ⟨f1, f2, f3⟩
    · have hiff : ∀ c ts, Tru (addL s ⟨d, lo, hi⟩) c ts ↔ Tru s c ts := fun c ts => by
        rw [hT]
        exact ⟨fun h => h.1, fun h => ⟨h, fun t ht => f2 c ts t h ht⟩⟩
      obtain ⟨e1, e2⟩ := same_all v v' rfl rfl hiff
      obtain ⟨e3, e4, e5⟩ := e2 h0
      exact .inl ⟨f1, hin.1 f2, fun h => h0 (e1.1 h), (e3 d hd).1, e5⟩
    · have hne : toldC (addL s ⟨d, lo, hi⟩) ≠ [] := by
        obtain ⟨c, ts, t, g1, g2, g3⟩ := f3
        refine (told_ne v').2 ⟨c, ts, (hT c ts).2 ⟨g1, fun u hu => ?_⟩⟩
        rw [g2] at hu
        simp only [Option.some.injEq] at hu
        subst hu
        exact g3
      have hm := more_cut v v' rfl rfl hsub hne hd
      have hb := cutV_bd v' hne (d := d) hd
      have hl : lo ≤ (cutV (addL s ⟨d, lo, hi⟩) d).1 ∧ (cutV (addL s ⟨d, lo, hi⟩) d).2 ≤ hi := by
        obtain ⟨⟨c, ts, t, a1, a2, a3⟩, ⟨c', ts', t', b1, b2, b3⟩, _⟩ := cut_hull v' hne (d := d) hd
        have k1 := ((hT c ts).1 a1).2 t a2
        have k2 := ((hT c' ts').1 b1).2 t' b2
        have e : (addL s ⟨d, lo, hi⟩).spits = s.spits := rfl
        rw [e] at a3 b3
        omega
      exact .inr (.inr ⟨f1, fun h => f2 (hin.2 h), hne, by omega, by omega, by omega⟩)
    · refine .inr (.inl ⟨f1, fun h => f2 (hin.2 h), ?_⟩)
      apply Classical.byContradiction
      intro hne
      obtain ⟨c, ts, g1⟩ := (told_ne v').1 hne
      obtain ⟨t, ht⟩ := g1.get (d := d) hd
      exact f3 ⟨c, ts, t, ((hT c ts).1 g1).1, ht, ((hT c ts).1 g1).2 t ht⟩
end Go.Proofs.Ytkaadefndcbdnaa
