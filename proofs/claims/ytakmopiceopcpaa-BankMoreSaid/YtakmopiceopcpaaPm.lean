/- Contracts whose state is known in another order; iterators, step by step. -/
import Derived.Test.YtakmopiceopcpaaSl
import Derived.Test.YtakmopiceopcpaaRange
section
namespace Go.Proofs.Ytakmopiceopcpaa
open Go.RowKit
theorem Ret.perm {P : Program} {N : Nat} {w0 : World} {L L2 : Hp} {f : FuncId} {args : Array Value} {v : Value} (h : Ret P N w0 L2 f args v) (hp : L2.Perm L) : Ret P N w0 L f args v := by
  intro w hI
  refine (h w (hI.perm hp.symm)).mono ?_
  rintro x w' ⟨L', hI', rfl, rfl⟩
  exact ⟨L, hI'.perm hp, rfl, rfl⟩
theorem RoAt {w0 : World} {b o : Nat} {vs : List Value} (h : Ro w0 b o vs) (j : Nat) (v : Value) (hj : vs[j]? = some v) : w0.cell? ⟨b, o + j, none⟩ = some v := h j v hj
theorem YieldOK.at {P : Program} {N : Nat} {w0 : World} {J : Nat → Hp → Prop} {Jx : Hp → Prop} {xs : List (List Value)} {Y : Value} (h : YieldOK P N w0 J Jx xs Y) (A X : Hp) {k : Nat} (hk : k < xs.length) {Fr : Hp} (hJ : J k Fr) :
    CV P N w0 (A ++ (Fr ++ X)) Y xs[k] fun x L' => ∃ v, x = .returned v ∧ ∃ (bv : Bool) (Fr' : Hp), v = .bool bv ∧ L' = A ++ (Fr' ++ X) ∧ ((bv = true ∧ J (k + 1) Fr') ∨ (bv = false ∧ Jx Fr')) := by
  have hperm : ∀ F : Hp, (A ++ (F ++ X)).Perm (F ++ (A ++ X)) := by
    intro F
    have := (List.perm_append_comm (l₁ := A) (l₂ := F)).append_right X
    simpa using this
  refine (h (A ++ X) k hk Fr hJ).pm (hperm Fr) ?_
  rintro x L' ⟨v, rfl, Fr', rfl, hc⟩
  refine ⟨_, (hperm Fr').symm, v, rfl, ?_⟩
  rcases hc with ⟨rfl, hc⟩ | ⟨rfl, hc⟩
  · exact ⟨true, Fr', rfl, rfl, .inl ⟨rfl, hc⟩⟩
  · exact ⟨false, Fr', rfl, rfl, .inr ⟨rfl, hc⟩⟩
theorem Tri.pm {P : Program} {N : Nat} {w0 : World} {L L2 : Hp} {f : FuncId} {args : Array Value} {R R' : Ending → Hp → Prop} (h : Tri P N w0 L2 f args R) (hp : L.Perm L2) (hr : ∀ x L', R x L' → ∃ L'', L'.Perm L'' ∧ R' x L'') : Tri P N w0 L f args R' := by
  intro w hI
  refine (h w (hI.perm hp)).mono ?_
  rintro x w' ⟨L', hI', hR⟩
  obtain ⟨L'', hp', hR'⟩ := hr x L' hR
  exact ⟨L'', hI'.perm hp', hR'⟩
theorem Pre.of : ∀ {l vs : List Value} {n : Nat}, vs.length = n → (∀ (j : Nat) (v : Value), vs[j]? = some v → l[j]? = some v) → Pre l n vs
  | l, [], 0, _, _ => .nil
  | [], v :: vs, n + 1, _, h => by have := h 0 v rfl; simp at this
  | x :: l, v :: vs, n + 1, hl, h => by
    have h0 := h 0 v rfl
    simp only [List.getElem?_cons_zero, Option.some.injEq] at h0
    subst h0
    exact .cons (Pre.of (by simpa using hl) fun j u hj => by simpa using h (j + 1) u (by simpa using hj))
  | _, [], _ + 1, h, _ => by simp at h
  | _, _ :: _, 0, h, _ => by simp at h
theorem Cut.of : ∀ {i n : Nat} {l vs : List Value}, vs.length = n → 0 < n → (∀ (j : Nat) (v : Value), vs[j]? = some v → l[i + j]? = some v) → Cut l i n vs
  | 0, n, l, vs, hl, _, h => .here (Pre.of hl fun j v hj => by simpa using h j v hj)
  | i + 1, n, [], vs, hl, h0, h => by
    have := h 0 _ (List.getElem?_eq_getElem (by omega))
    simp at this
  | i + 1, n, x :: l, vs, hl, h0, h => .there (Cut.of hl h0 fun j v hj => by
      have := h j v hj
      rwa [show i + 1 + j = (i + j) + 1 by omega, List.getElem?_cons_succ] at this)
theorem Cut.whole {l : List Value} {n : Nat} (h : l.length = n) : Cut l 0 n l := .here (Pre.of h fun _ _ hj => hj)
theorem Wk.nil_ : ∀ L : Hp, Wk L []
  | [] => .refl _
  | _ :: L => .drop (Wk.nil_ L)
theorem Wk.sv0 {E : TypeId} {sz k : Nat} {xs : List Value} {s : Option (Nat × Nat)} {L : Hp} : Wk (svH E sz k xs s L) (svH E sz k xs s []) := by
  cases s with
  | none => exact Wk.nil_ L
  | some p => exact .keep1 (Wk.nil_ L)
end Go.Proofs.Ytakmopiceopcpaa
end
