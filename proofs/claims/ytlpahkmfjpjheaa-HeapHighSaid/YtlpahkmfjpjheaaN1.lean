/- Ways that meet again. · The states of a region whose order is left open, each by what has come up. · append to a slice that grows, wherever it stands among what is owned, of a whole slice that can be read, nil or not. · More rules: where memory lies as it lay, calls that give what is new, spans compared. · How wet each heap is in the evening of each day, by the words of the chapter. · The heap laws in plain terms: two heaps of the same wetness; how wet they are by the words of the chapter. · How wet each heap is in the evening of each day: its walk. · The law HeapDry: its walk. · The law HeapHigh: its walk. -/
import Derived.Test.YtlpahkmfjpjheaaM2
import Derived.Test.YtlpahkmfjpjheaaM7
import Derived.Test.YtlpahkmfjpjheaaM8
section
namespace Go.Proofs.Ytlpahkmfjpjheaa
open Go.RowKit
section
variable {P : Program} {r : Option Nat} {n N : Nat} {w0 : World} {Q K : Post} {e : Env} {ds : List Deferred} {L : Hp}
/-- Where ways meet: what is known there (nor); any other way out is as it was (oth). -/
structure HCut {σ : Type} (ws : List Nat) (base : Env) (sl : σ → List (Nat × Value)) (Lp : σ → Hp) (J : σ → Prop) (ds : List Deferred) (K K' : Post) : Prop where
  nor : ∀ (s : σ) (e : Env) (L : Hp), Slots e (sl s) → Off ws e base → Wk L (Lp s) → J s → K' .normal e ds L
  oth : ∀ x e ds L, x ≠ .normal → K x e ds L → K' x e ds L
theorem WP_join {σ : Type} {c y : Code} (hK : HThen P r n N w0 y Q K) (ws : List Nat) (sl : σ → List (Nat × Value)) (Lp : σ → Hp) (J : σ → Prop)
    (h1 : ∀ K', HCut ws e sl Lp J ds K K' → WP P r n N w0 c K' e ds L) (h2 : ∀ s j, J s → WP P r n N w0 y Q (frame ws e (sl s) j) ds (Lp s)) : WP P r n N w0 c K e ds L := by
  refine WP_mono (h1 (fun x e' ds' L' => match x with
    | .normal => ds' = ds ∧ ∃ s, Slots e' (sl s) ∧ Off ws e' e ∧ Wk L' (Lp s) ∧ J s
    | x => K x e' ds' L') ⟨fun s e' L' a b c d => ⟨rfl, s, a, b, c, d⟩, fun x _ _ _ hx h => by cases x <;> first | exact absurd rfl hx | exact h⟩) ?_
  intro x e' ds' L' h
  cases x with
  | normal =>
    obtain ⟨rfl, s, a, b, c, d⟩ := h
    have hf : e' = frame ws e (sl s) e' := frame_intro a.look b
    rw [hf]
    exact hK.normal (WP_wk c (h2 s e' d))
  | _ => exact h
theorem HCut.ret {σ : Type} {ws : List Nat} {base : Env} {sl : σ → List (Nat × Value)} {Lp : σ → Hp} {J : σ → Prop} {ds0 : List Deferred} {K' : Post} (h : HCut ws base sl Lp J ds0 K K') (k : K .ret e ds L) : K' .ret e ds L := h.oth _ _ _ _ (by simp) k
theorem HCut.exit {σ : Type} {ws : List Nat} {base : Env} {sl : σ → List (Nat × Value)} {Lp : σ → Hp} {J : σ → Prop} {ds0 : List Deferred} {K' : Post} {id : Nat} (h : HCut ws base sl Lp J ds0 K K') (k : K (.exit id) e ds L) : K' (.exit id) e ds L := h.oth _ _ _ _ (by simp) k
theorem HCut.panic {σ : Type} {ws : List Nat} {base : Env} {sl : σ → List (Nat × Value)} {Lp : σ → Hp} {J : σ → Prop} {ds0 : List Deferred} {K' : Post} {ch : List PanicEntry} (h : HCut ws base sl Lp J ds0 K K') (k : K (.panic ch) e ds L) : K' (.panic ch) e ds L := h.oth _ _ _ _ (by simp) k
end
end Go.Proofs.Ytlpahkmfjpjheaa
end

section
namespace Go.Proofs.Ytlpahkmfjpjheaa
open Go.RowKit
section
variable {P : Program} {r : Option Nat} {n N : Nat} {w0 : World} {ops : Array Oper} {Q : Post} {ds : List Deferred} {e : Env} {L B : Hp} {fl T : List Nat} {k2 n0 fuel : Nat}
theorem Sub.appK {X : Hp} (h : Sub B L) : Sub (X ++ B) (X ++ L) := by
  obtain ⟨L0, h⟩ := h
  exact ⟨L0, by rw [List.append_assoc]; exact h.append_left X⟩
/-- The state, alone: a look ahead of a rule. -/
theorem ZgO (D : List Nat) (h : AnyO P r n N w0 ops Q ds fuel (doneOf n0 D) e L) : AnyO P r n N w0 ops Q ds fuel (doneOf n0 D) e L := h
theorem ZgB (D : List Nat) (h : AnyB P r n N w0 ops Q ds B fuel (doneOf n0 D) e L) : AnyB P r n N w0 ops Q ds B fuel (doneOf n0 D) e L := h
theorem ZgC (D : List Nat) (h : AnyC P r n N w0 ops Q ds fl B T k2 fuel (doneOf n0 D) e L) : AnyC P r n N w0 ops Q ds fl B T k2 fuel (doneOf n0 D) e L := h
theorem ZO1 (D : List Nat) (i : Nat) (D1 : List Nat) {o1 : Oper} (h1 : OPS P r n N w0 ops [o1] (QAny P r n N w0 ops ds Q fuel (doneOf n0 D1)) e ds L) (hr : Region.ready .any ops (doneOf n0 D) = [i] := by kernel_rfl) (e1 : (doneOf n0 D).setIfInBounds i true = doneOf n0 D1 := by kernel_rfl) (p1 : ops[i]? = some o1 := by rfl) : AnyO P r n N w0 ops Q ds (fuel + 1) (doneOf n0 D) e L := by
  intro a w hs he hd hI
  refine ⟨(fun h0 => by rw [hr] at h0; cases h0), fun q hq => ?_⟩
  rw [hr] at hq
  rcases List.mem_cons.1 hq with rfl | hq
  · exact wpOpIn_of_OPS p1 (by rw [e1]; exact h1) hs he hd hI
  · cases hq
theorem ZO2 (D : List Nat) (i : Nat) (D1 : List Nat) (j : Nat) (D2 : List Nat) {o1 o2 : Oper} (h1 : OPS P r n N w0 ops [o1] (QAny P r n N w0 ops ds Q fuel (doneOf n0 D1)) e ds L) (h2 : OPS P r n N w0 ops [o2] (QAny P r n N w0 ops ds Q fuel (doneOf n0 D2)) e ds L) (hr : Region.ready .any ops (doneOf n0 D) = [i, j] := by kernel_rfl) (e1 : (doneOf n0 D).setIfInBounds i true = doneOf n0 D1 := by kernel_rfl) (e2 : (doneOf n0 D).setIfInBounds j true = doneOf n0 D2 := by kernel_rfl) (p1 : ops[i]? = some o1 := by rfl) (p2 : ops[j]? = some o2 := by rfl) : AnyO P r n N w0 ops Q ds (fuel + 1) (doneOf n0 D) e L := by
  intro a w hs he hd hI
  refine ⟨(fun h0 => by rw [hr] at h0; cases h0), fun q hq => ?_⟩
  rw [hr] at hq
  rcases List.mem_cons.1 hq with rfl | hq
  · exact wpOpIn_of_OPS p1 (by rw [e1]; exact h1) hs he hd hI
  · skip
    rcases List.mem_cons.1 hq with rfl | hq
    · exact wpOpIn_of_OPS p2 (by rw [e2]; exact h2) hs he hd hI
    · cases hq
theorem ZO3 (D : List Nat) (i : Nat) (D1 : List Nat) (j : Nat) (D2 : List Nat) (k : Nat) (D3 : List Nat) {o1 o2 o3 : Oper} (h1 : OPS P r n N w0 ops [o1] (QAny P r n N w0 ops ds Q fuel (doneOf n0 D1)) e ds L) (h2 : OPS P r n N w0 ops [o2] (QAny P r n N w0 ops ds Q fuel (doneOf n0 D2)) e ds L) (h3 : OPS P r n N w0 ops [o3] (QAny P r n N w0 ops ds Q fuel (doneOf n0 D3)) e ds L) (hr : Region.ready .any ops (doneOf n0 D) = [i, j, k] := by kernel_rfl) (e1 : (doneOf n0 D).setIfInBounds i true = doneOf n0 D1 := by kernel_rfl) (e2 : (doneOf n0 D).setIfInBounds j true = doneOf n0 D2 := by kernel_rfl) (e3 : (doneOf n0 D).setIfInBounds k true = doneOf n0 D3 := by kernel_rfl) (p1 : ops[i]? = some o1 := by rfl) (p2 : ops[j]? = some o2 := by rfl) (p3 : ops[k]? = some o3 := by rfl) : AnyO P r n N w0 ops Q ds (fuel + 1) (doneOf n0 D) e L := by
  intro a w hs he hd hI
  refine ⟨(fun h0 => by rw [hr] at h0; cases h0), fun q hq => ?_⟩
  rw [hr] at hq
  rcases List.mem_cons.1 hq with rfl | hq
  · exact wpOpIn_of_OPS p1 (by rw [e1]; exact h1) hs he hd hI
  · skip
    rcases List.mem_cons.1 hq with rfl | hq
    · exact wpOpIn_of_OPS p2 (by rw [e2]; exact h2) hs he hd hI
    · skip
      rcases List.mem_cons.1 hq with rfl | hq
      · exact wpOpIn_of_OPS p3 (by rw [e3]; exact h3) hs he hd hI
      · cases hq
theorem ZO4 (D : List Nat) (i : Nat) (D1 : List Nat) (j : Nat) (D2 : List Nat) (k : Nat) (D3 : List Nat) (m : Nat) (D4 : List Nat) {o1 o2 o3 o4 : Oper} (h1 : OPS P r n N w0 ops [o1] (QAny P r n N w0 ops ds Q fuel (doneOf n0 D1)) e ds L) (h2 : OPS P r n N w0 ops [o2] (QAny P r n N w0 ops ds Q fuel (doneOf n0 D2)) e ds L) (h3 : OPS P r n N w0 ops [o3] (QAny P r n N w0 ops ds Q fuel (doneOf n0 D3)) e ds L) (h4 : OPS P r n N w0 ops [o4] (QAny P r n N w0 ops ds Q fuel (doneOf n0 D4)) e ds L) (hr : Region.ready .any ops (doneOf n0 D) = [i, j, k, m] := by kernel_rfl) (e1 : (doneOf n0 D).setIfInBounds i true = doneOf n0 D1 := by kernel_rfl) (e2 : (doneOf n0 D).setIfInBounds j true = doneOf n0 D2 := by kernel_rfl) (e3 : (doneOf n0 D).setIfInBounds k true = doneOf n0 D3 := by kernel_rfl) (e4 : (doneOf n0 D).setIfInBounds m true = doneOf n0 D4 := by kernel_rfl) (p1 : ops[i]? = some o1 := by rfl) (p2 : ops[j]? = some o2 := by rfl) (p3 : ops[k]? = some o3 := by rfl) (p4 : ops[m]? = some o4 := by rfl) : AnyO P r n N w0 ops Q ds (fuel + 1) (doneOf n0 D) e L := by
  intro a w hs he hd hI
  refine ⟨(fun h0 => by rw [hr] at h0; cases h0), fun q hq => ?_⟩
  rw [hr] at hq
  rcases List.mem_cons.1 hq with rfl | hq
  · exact wpOpIn_of_OPS p1 (by rw [e1]; exact h1) hs he hd hI
  · skip
    rcases List.mem_cons.1 hq with rfl | hq
    · exact wpOpIn_of_OPS p2 (by rw [e2]; exact h2) hs he hd hI
    · skip
      rcases List.mem_cons.1 hq with rfl | hq
      · exact wpOpIn_of_OPS p3 (by rw [e3]; exact h3) hs he hd hI
      · skip
        rcases List.mem_cons.1 hq with rfl | hq
        · exact wpOpIn_of_OPS p4 (by rw [e4]; exact h4) hs he hd hI
        · cases hq
theorem ZB1 (D : List Nat) (i : Nat) (D1 : List Nat) {o1 : Oper} (h1 : OPS P r n N w0 ops [o1] (QB ds (AnyB P r n N w0 ops Q ds B fuel (doneOf n0 D1))) e ds L) (hs : Sub B L := by repeat (first | exact Sub.refl _ | assumption | exact Sub.left | apply Sub.sv | apply Sub.cons | apply Sub.app)) (hr : Region.ready .any ops (doneOf n0 D) = [i] := by kernel_rfl) (e1 : (doneOf n0 D).setIfInBounds i true = doneOf n0 D1 := by kernel_rfl) (p1 : ops[i]? = some o1 := by rfl) : AnyB P r n N w0 ops Q ds B (fuel + 1) (doneOf n0 D) e L := by
  refine ⟨hs, by rw [hr]; simp, fun q hq => ?_⟩
  rw [hr] at hq
  rcases List.mem_cons.1 hq with rfl | hq
  · exact ⟨o1, p1, by rw [e1]; exact h1⟩
  · cases hq
theorem ZB2 (D : List Nat) (i : Nat) (D1 : List Nat) (j : Nat) (D2 : List Nat) {o1 o2 : Oper} (h1 : OPS P r n N w0 ops [o1] (QB ds (AnyB P r n N w0 ops Q ds B fuel (doneOf n0 D1))) e ds L) (h2 : OPS P r n N w0 ops [o2] (QB ds (AnyB P r n N w0 ops Q ds B fuel (doneOf n0 D2))) e ds L) (hs : Sub B L := by repeat (first | exact Sub.refl _ | assumption | exact Sub.left | apply Sub.sv | apply Sub.cons | apply Sub.app)) (hr : Region.ready .any ops (doneOf n0 D) = [i, j] := by kernel_rfl) (e1 : (doneOf n0 D).setIfInBounds i true = doneOf n0 D1 := by kernel_rfl) (e2 : (doneOf n0 D).setIfInBounds j true = doneOf n0 D2 := by kernel_rfl) (p1 : ops[i]? = some o1 := by rfl) (p2 : ops[j]? = some o2 := by rfl) : AnyB P r n N w0 ops Q ds B (fuel + 1) (doneOf n0 D) e L := by
  refine ⟨hs, by rw [hr]; simp, fun q hq => ?_⟩
  rw [hr] at hq
  rcases List.mem_cons.1 hq with rfl | hq
  · exact ⟨o1, p1, by rw [e1]; exact h1⟩
  · skip
    rcases List.mem_cons.1 hq with rfl | hq
    · exact ⟨o2, p2, by rw [e2]; exact h2⟩
    · cases hq
theorem ZB3 (D : List Nat) (i : Nat) (D1 : List Nat) (j : Nat) (D2 : List Nat) (k : Nat) (D3 : List Nat) {o1 o2 o3 : Oper} (h1 : OPS P r n N w0 ops [o1] (QB ds (AnyB P r n N w0 ops Q ds B fuel (doneOf n0 D1))) e ds L) (h2 : OPS P r n N w0 ops [o2] (QB ds (AnyB P r n N w0 ops Q ds B fuel (doneOf n0 D2))) e ds L) (h3 : OPS P r n N w0 ops [o3] (QB ds (AnyB P r n N w0 ops Q ds B fuel (doneOf n0 D3))) e ds L) (hs : Sub B L := by repeat (first | exact Sub.refl _ | assumption | exact Sub.left | apply Sub.sv | apply Sub.cons | apply Sub.app)) (hr : Region.ready .any ops (doneOf n0 D) = [i, j, k] := by kernel_rfl) (e1 : (doneOf n0 D).setIfInBounds i true = doneOf n0 D1 := by kernel_rfl) (e2 : (doneOf n0 D).setIfInBounds j true = doneOf n0 D2 := by kernel_rfl) (e3 : (doneOf n0 D).setIfInBounds k true = doneOf n0 D3 := by kernel_rfl) (p1 : ops[i]? = some o1 := by rfl) (p2 : ops[j]? = some o2 := by rfl) (p3 : ops[k]? = some o3 := by rfl) : AnyB P r n N w0 ops Q ds B (fuel + 1) (doneOf n0 D) e L := by
  refine ⟨hs, by rw [hr]; simp, fun q hq => ?_⟩
  rw [hr] at hq
  rcases List.mem_cons.1 hq with rfl | hq
  · exact ⟨o1, p1, by rw [e1]; exact h1⟩
  · skip
    rcases List.mem_cons.1 hq with rfl | hq
    · exact ⟨o2, p2, by rw [e2]; exact h2⟩
    · skip
      rcases List.mem_cons.1 hq with rfl | hq
      · exact ⟨o3, p3, by rw [e3]; exact h3⟩
      · cases hq
theorem ZB4 (D : List Nat) (i : Nat) (D1 : List Nat) (j : Nat) (D2 : List Nat) (k : Nat) (D3 : List Nat) (m : Nat) (D4 : List Nat) {o1 o2 o3 o4 : Oper} (h1 : OPS P r n N w0 ops [o1] (QB ds (AnyB P r n N w0 ops Q ds B fuel (doneOf n0 D1))) e ds L) (h2 : OPS P r n N w0 ops [o2] (QB ds (AnyB P r n N w0 ops Q ds B fuel (doneOf n0 D2))) e ds L) (h3 : OPS P r n N w0 ops [o3] (QB ds (AnyB P r n N w0 ops Q ds B fuel (doneOf n0 D3))) e ds L) (h4 : OPS P r n N w0 ops [o4] (QB ds (AnyB P r n N w0 ops Q ds B fuel (doneOf n0 D4))) e ds L) (hs : Sub B L := by repeat (first | exact Sub.refl _ | assumption | exact Sub.left | apply Sub.sv | apply Sub.cons | apply Sub.app)) (hr : Region.ready .any ops (doneOf n0 D) = [i, j, k, m] := by kernel_rfl) (e1 : (doneOf n0 D).setIfInBounds i true = doneOf n0 D1 := by kernel_rfl) (e2 : (doneOf n0 D).setIfInBounds j true = doneOf n0 D2 := by kernel_rfl) (e3 : (doneOf n0 D).setIfInBounds k true = doneOf n0 D3 := by kernel_rfl) (e4 : (doneOf n0 D).setIfInBounds m true = doneOf n0 D4 := by kernel_rfl) (p1 : ops[i]? = some o1 := by rfl) (p2 : ops[j]? = some o2 := by rfl) (p3 : ops[k]? = some o3 := by rfl) (p4 : ops[m]? = some o4 := by rfl) : AnyB P r n N w0 ops Q ds B (fuel + 1) (doneOf n0 D) e L := by
  refine ⟨hs, by rw [hr]; simp, fun q hq => ?_⟩
  rw [hr] at hq
  rcases List.mem_cons.1 hq with rfl | hq
  · exact ⟨o1, p1, by rw [e1]; exact h1⟩
  · skip
    rcases List.mem_cons.1 hq with rfl | hq
    · exact ⟨o2, p2, by rw [e2]; exact h2⟩
    · skip
      rcases List.mem_cons.1 hq with rfl | hq
      · exact ⟨o3, p3, by rw [e3]; exact h3⟩
      · skip
        rcases List.mem_cons.1 hq with rfl | hq
        · exact ⟨o4, p4, by rw [e4]; exact h4⟩
        · cases hq
theorem ZC1 (D : List Nat) (i : Nat) (D1 : List Nat) {o1 : Oper} (h1 : OPS P r n N w0 ops [o1] (QC ds fl Q (AnyC P r n N w0 ops Q ds fl B T k2 fuel (doneOf n0 D1))) e ds L) (hs : Sub B L := by repeat (first | exact Sub.refl _ | apply Sub.keep | apply Sub.appK | apply Sub.sv | apply Sub.cons | apply Sub.app)) (hr : Region.ready .any ops (doneOf n0 D) = [i] := by kernel_rfl) (e1 : (doneOf n0 D).setIfInBounds i true = doneOf n0 D1 := by kernel_rfl) (p1 : ops[i]? = some o1 := by rfl) : AnyC P r n N w0 ops Q ds fl B T k2 (fuel + 1) (doneOf n0 D) e L := by
  refine ⟨hs, by rw [hr]; simp, fun q hq => ?_⟩
  rw [hr] at hq
  rcases List.mem_cons.1 hq with rfl | hq
  · exact ⟨o1, p1, by rw [e1]; exact h1⟩
  · cases hq
theorem ZC2 (D : List Nat) (i : Nat) (D1 : List Nat) (j : Nat) (D2 : List Nat) {o1 o2 : Oper} (h1 : OPS P r n N w0 ops [o1] (QC ds fl Q (AnyC P r n N w0 ops Q ds fl B T k2 fuel (doneOf n0 D1))) e ds L) (h2 : OPS P r n N w0 ops [o2] (QC ds fl Q (AnyC P r n N w0 ops Q ds fl B T k2 fuel (doneOf n0 D2))) e ds L) (hs : Sub B L := by repeat (first | exact Sub.refl _ | apply Sub.keep | apply Sub.appK | apply Sub.sv | apply Sub.cons | apply Sub.app)) (hr : Region.ready .any ops (doneOf n0 D) = [i, j] := by kernel_rfl) (e1 : (doneOf n0 D).setIfInBounds i true = doneOf n0 D1 := by kernel_rfl) (e2 : (doneOf n0 D).setIfInBounds j true = doneOf n0 D2 := by kernel_rfl) (p1 : ops[i]? = some o1 := by rfl) (p2 : ops[j]? = some o2 := by rfl) : AnyC P r n N w0 ops Q ds fl B T k2 (fuel + 1) (doneOf n0 D) e L := by
  refine ⟨hs, by rw [hr]; simp, fun q hq => ?_⟩
  rw [hr] at hq
  rcases List.mem_cons.1 hq with rfl | hq
  · exact ⟨o1, p1, by rw [e1]; exact h1⟩
  · skip
    rcases List.mem_cons.1 hq with rfl | hq
    · exact ⟨o2, p2, by rw [e2]; exact h2⟩
    · cases hq
theorem ZC3 (D : List Nat) (i : Nat) (D1 : List Nat) (j : Nat) (D2 : List Nat) (k : Nat) (D3 : List Nat) {o1 o2 o3 : Oper} (h1 : OPS P r n N w0 ops [o1] (QC ds fl Q (AnyC P r n N w0 ops Q ds fl B T k2 fuel (doneOf n0 D1))) e ds L) (h2 : OPS P r n N w0 ops [o2] (QC ds fl Q (AnyC P r n N w0 ops Q ds fl B T k2 fuel (doneOf n0 D2))) e ds L) (h3 : OPS P r n N w0 ops [o3] (QC ds fl Q (AnyC P r n N w0 ops Q ds fl B T k2 fuel (doneOf n0 D3))) e ds L) (hs : Sub B L := by repeat (first | exact Sub.refl _ | apply Sub.keep | apply Sub.appK | apply Sub.sv | apply Sub.cons | apply Sub.app)) (hr : Region.ready .any ops (doneOf n0 D) = [i, j, k] := by kernel_rfl) (e1 : (doneOf n0 D).setIfInBounds i true = doneOf n0 D1 := by kernel_rfl) (e2 : (doneOf n0 D).setIfInBounds j true = doneOf n0 D2 := by kernel_rfl) (e3 : (doneOf n0 D).setIfInBounds k true = doneOf n0 D3 := by kernel_rfl) (p1 : ops[i]? = some o1 := by rfl) (p2 : ops[j]? = some o2 := by rfl) (p3 : ops[k]? = some o3 := by rfl) : AnyC P r n N w0 ops Q ds fl B T k2 (fuel + 1) (doneOf n0 D) e L := by
  refine ⟨hs, by rw [hr]; simp, fun q hq => ?_⟩
  rw [hr] at hq
  rcases List.mem_cons.1 hq with rfl | hq
  · exact ⟨o1, p1, by rw [e1]; exact h1⟩
  · skip
    rcases List.mem_cons.1 hq with rfl | hq
    · exact ⟨o2, p2, by rw [e2]; exact h2⟩
    · skip
      rcases List.mem_cons.1 hq with rfl | hq
      · exact ⟨o3, p3, by rw [e3]; exact h3⟩
      · cases hq
theorem ZC4 (D : List Nat) (i : Nat) (D1 : List Nat) (j : Nat) (D2 : List Nat) (k : Nat) (D3 : List Nat) (m : Nat) (D4 : List Nat) {o1 o2 o3 o4 : Oper} (h1 : OPS P r n N w0 ops [o1] (QC ds fl Q (AnyC P r n N w0 ops Q ds fl B T k2 fuel (doneOf n0 D1))) e ds L) (h2 : OPS P r n N w0 ops [o2] (QC ds fl Q (AnyC P r n N w0 ops Q ds fl B T k2 fuel (doneOf n0 D2))) e ds L) (h3 : OPS P r n N w0 ops [o3] (QC ds fl Q (AnyC P r n N w0 ops Q ds fl B T k2 fuel (doneOf n0 D3))) e ds L) (h4 : OPS P r n N w0 ops [o4] (QC ds fl Q (AnyC P r n N w0 ops Q ds fl B T k2 fuel (doneOf n0 D4))) e ds L) (hs : Sub B L := by repeat (first | exact Sub.refl _ | apply Sub.keep | apply Sub.appK | apply Sub.sv | apply Sub.cons | apply Sub.app)) (hr : Region.ready .any ops (doneOf n0 D) = [i, j, k, m] := by kernel_rfl) (e1 : (doneOf n0 D).setIfInBounds i true = doneOf n0 D1 := by kernel_rfl) (e2 : (doneOf n0 D).setIfInBounds j true = doneOf n0 D2 := by kernel_rfl) (e3 : (doneOf n0 D).setIfInBounds k true = doneOf n0 D3 := by kernel_rfl) (e4 : (doneOf n0 D).setIfInBounds m true = doneOf n0 D4 := by kernel_rfl) (p1 : ops[i]? = some o1 := by rfl) (p2 : ops[j]? = some o2 := by rfl) (p3 : ops[k]? = some o3 := by rfl) (p4 : ops[m]? = some o4 := by rfl) : AnyC P r n N w0 ops Q ds fl B T k2 (fuel + 1) (doneOf n0 D) e L := by
  refine ⟨hs, by rw [hr]; simp, fun q hq => ?_⟩
  rw [hr] at hq
  rcases List.mem_cons.1 hq with rfl | hq
  · exact ⟨o1, p1, by rw [e1]; exact h1⟩
  · skip
    rcases List.mem_cons.1 hq with rfl | hq
    · exact ⟨o2, p2, by rw [e2]; exact h2⟩
    · skip
      rcases List.mem_cons.1 hq with rfl | hq
      · exact ⟨o3, p3, by rw [e3]; exact h3⟩
      · skip
        rcases List.mem_cons.1 hq with rfl | hq
        · exact ⟨o4, p4, by rw [e4]; exact h4⟩
        · cases hq
/-- What is left waits for all that floats. -/
theorem ZCl (D : List Nat) (h : AnyO P r n N w0 ops Q ds k2 (doneOf n0 D) e L) (hs : Sub B L := by repeat (first | exact Sub.refl _ | apply Sub.keep | apply Sub.appK | apply Sub.sv | apply Sub.cons | apply Sub.app)) (hl : lateChk ops T (doneOf n0 D) = true := by kernel_rfl) : AnyC P r n N w0 ops Q ds fl B T k2 0 (doneOf n0 D) e L := AnyC_late hs hl h
theorem ZCd (D : List Nat) (h : Q .normal e ds L) (hs : Sub B L := by repeat (first | exact Sub.refl _ | apply Sub.keep | apply Sub.appK | apply Sub.sv | apply Sub.cons | apply Sub.app)) (hr : Region.ready .any ops (doneOf n0 D) = [] := by kernel_rfl) (hl : lateChk ops T (doneOf n0 D) = true := by kernel_rfl) : AnyC P r n N w0 ops Q ds fl B T 0 0 (doneOf n0 D) e L := AnyC_done hs hr h hl
theorem ZBd (D : List Nat) (h : Q .normal e ds L) (hs : Sub B L := by repeat (first | exact Sub.refl _ | assumption | exact Sub.left | apply Sub.sv | apply Sub.cons | apply Sub.app)) (hr : Region.ready .any ops (doneOf n0 D) = [] := by kernel_rfl) : AnyB P r n N w0 ops Q ds B 0 (doneOf n0 D) e L := AnyB_done hs hr h
theorem ZOd (D : List Nat) (h : Q .normal e ds L) (hr : Region.ready .any ops (doneOf n0 D) = [] := by kernel_rfl) : AnyO P r n N w0 ops Q ds 0 (doneOf n0 D) e L := AnyO_done hr h
end
end Go.Proofs.Ytlpahkmfjpjheaa
end

section
namespace Go.Proofs.Ytlpahkmfjpjheaa
open Go.RowKit
section
variable {P : Program} {r : Option Nat} {n N : Nat} {w0 : World} {L : Hp} {ops : Array Oper} {rest : List Oper} {Q : Post} {e : Env} {ds : List Deferred} {ty : TypeId} {pos : String} {af : Array Edge} {g : Option (Nat × Bool)} {d : Option Nat}
theorem run_append_svN {t E : TypeId} [hE : SliceOf P t E] {g' : Bool} {sz bt : Nat} [hS : TySz P E g' sz bt] {k c : Nat} {xs : List Value} {s : Option (Nat × Nat)} {w : World} (hI : Inv N w0 (svH E sz k xs s L) w) (hs : svOk s sz k xs) :
    (Builtin.append_ #[t, t] ty #[svV s k, .slice none 0 c]).run P w = .ok (svV s k) w := by
  have hi := hS.inf
  cases hin : P.info? E with
  | none => rw [hin] at hi; cases hi
  | some i =>
    cases s with
    | none =>
      have := hs.2 rfl
      subst this
      simp [svV, Builtin.append_, run_underlying hE.und, sizeOf, typeInfo, hin, Builtin.lenOf, Builtin.firstCells]
    | some p =>
      obtain ⟨b, cap⟩ := p
      obtain ⟨_, o, _, cur, _, h1, _⟩ := hI.own _ (List.mem_cons_self)
      simp [svV, Builtin.append_, run_underlying hE.und, sizeOf, typeInfo, hin, Builtin.lenOf, Builtin.firstCells, h1, storeCells]
/-- A slice that grows, in its place. -/
inductive Grow (E : TypeId) (sz k : Nat) (xs : List Value) (s : Option (Nat × Nat)) (k' : Nat) (xs' : List Value) (s' : Option (Nat × Nat)) : Hp → Hp → Prop
  | here {L : Hp} : Grow E sz k xs s k' xs' s' (svH E sz k xs s L) (svH E sz k' xs' s' L)
  | there {x : Nat × (Obj → Prop)} {L L' : Hp} (h : Grow E sz k xs s k' xs' s' L L') : Grow E sz k xs s k' xs' s' (x :: L) (x :: L')
  | sv {E2 : TypeId} {sz2 k2 : Nat} {xs2 : List Value} {s2 : Option (Nat × Nat)} {L L' : Hp} (h : Grow E sz k xs s k' xs' s' L L') : Grow E sz k xs s k' xs' s' (svH E2 sz2 k2 xs2 s2 L) (svH E2 sz2 k2 xs2 s2 L')
  | app {X L L' : Hp} (h : Grow E sz k xs s k' xs' s' L L') : Grow E sz k xs s k' xs' s' (X ++ L) (X ++ L')
theorem svH_app {E : TypeId} {sz k : Nat} {xs : List Value} {s : Option (Nat × Nat)} {A B : Hp} : svH E sz k xs s (A ++ B) = svH E sz k xs s A ++ B := by cases s <;> rfl
theorem svH_nil {E : TypeId} {sz k : Nat} {xs : List Value} {s : Option (Nat × Nat)} {B : Hp} : svH E sz k xs s [] ++ B = svH E sz k xs s B := by cases s <;> rfl
theorem svH_perm {E : TypeId} {sz k : Nat} {xs : List Value} {s : Option (Nat × Nat)} {A B : Hp} (h : A.Perm B) : (svH E sz k xs s A).Perm (svH E sz k xs s B) := by
  cases s with
  | none => exact h
  | some p => exact h.cons _
theorem svH_mid {E : TypeId} {sz k : Nat} {xs : List Value} {s : Option (Nat × Nat)} {X L : Hp} : (X ++ svH E sz k xs s L).Perm (svH E sz k xs s (X ++ L)) := by
  cases s with
  | none => exact .refl _
  | some p => exact List.perm_middle
theorem Grow.perm {E : TypeId} {sz k : Nat} {xs : List Value} {s : Option (Nat × Nat)} {k' : Nat} {xs' : List Value} {s' : Option (Nat × Nat)} {L L' : Hp} (h : Grow E sz k xs s k' xs' s' L L') : ∃ Lb, L.Perm (svH E sz k xs s Lb) ∧ L'.Perm (svH E sz k' xs' s' Lb) := by
  induction h with
  | @here L => exact ⟨L, .refl _, .refl _⟩
  | @there x L L' h ih =>
    obtain ⟨Lb, h1, h2⟩ := ih
    exact ⟨x :: Lb, (h1.cons x).trans (svH_mid (X := [x])), (h2.cons x).trans (svH_mid (X := [x]))⟩
  | @sv E2 sz2 k2 xs2 s2 L L' h ih =>
    obtain ⟨Lb, h1, h2⟩ := ih
    refine ⟨svH E2 sz2 k2 xs2 s2 [] ++ Lb, (svH_perm h1).trans ?_, (svH_perm h2).trans ?_⟩
    · rw [← svH_nil]; exact svH_mid
    · rw [← svH_nil]; exact svH_mid
  | @app X L L' h ih =>
    obtain ⟨Lb, h1, h2⟩ := ih
    exact ⟨X ++ Lb, (h1.append_left X).trans svH_mid, (h2.append_left X).trans svH_mid⟩
theorem svV_inj {s s2 : Option (Nat × Nat)} {k : Nat} (h : svV s k = svV s2 k) : s = s2 := by
  cases s with
  | none => cases s2 with
    | none => rfl
    | some q => obtain ⟨q1, q2⟩ := q; simp [svV] at h
  | some p => cases s2 with
    | none => obtain ⟨q1, q2⟩ := p; simp [svV] at h
    | some q => obtain ⟨p1, p2⟩ := p; obtain ⟨q1, q2⟩ := q; simp [svV] at h; simp [h.1, h.2]
/-- What is appended can be read; nil has nothing. -/
theorem OPS_appendG {t E : TypeId} [hE : SliceOf P t E] {g' : Bool} {sz bt : Nat} [hS : TySz P E g' (sz + 1) bt] {z : List Value} [hZ : TyZero P E z] (hz : z.length = sz + 1)
    {x y : Operand} {k m c : Nat} {A : Option Addr} {xs news : List Value} {s : Option (Nat × Nat)} {L' : Option (Nat × Nat) → Hp} {d : Nat} (hx : ev e x = svV s k) (hy : ev e y = .slice A m c) (hL : ∀ s', Grow E (sz + 1) k xs s (k + m) (xs ++ news) s' L (L' s'))
    (hs : svOk s (sz + 1) k xs) (hn : ∀ w, Inv N w0 L w → ∀ j u, news[j]? = some u → ∃ b2 o2, A = some ⟨b2, o2, none⟩ ∧ w.cell? ⟨b2, o2 + j, none⟩ = some u) (hA : A = none → m = 0) (hl : news.length = m * (sz + 1)) (h1 : ones news = true) (h63 : k + m ≤ maxLen) (hby : (k + m) * bt ≤ 140737488355328)
    (h : ∀ s', svOk s' (sz + 1) (k + m) (xs ++ news) → OPS P r n N w0 ops rest Q (upd e d (svV s' (k + m))) ds (L' s'))
    (hg : Region.wanted ⟨some d, .call { callee := .builtin .append, args := #[x, y], argTypes := #[t, t] }, ty, pos, af, g⟩ (yieldE ops e) = true := by rfl) (hd : Nat.blt d n = true := by rfl) :
    OPS P r n N w0 ops (⟨some d, .call { callee := .builtin .append, args := #[x, y], argTypes := #[t, t] }, ty, pos, af, g⟩ :: rest) Q e ds L := by
  refine OPS_any (K := fun v L2 => ∃ s', v = svV s' (k + m) ∧ L2 = L' s' ∧ svOk s' (sz + 1) (k + m) (xs ++ news)) (fun w hI => ?_) hg rfl hd ?_
  · obtain ⟨Lb0, hp0, _⟩ := (hL s).perm
    have hI0 := hI.perm hp0
    cases A with
    | none =>
      have hm := hA rfl
      subst hm
      have hnw : news = [] := List.eq_nil_of_length_eq_zero (by rw [hl]; omega)
      subst hnw
      have hr := run_append_svN (P := P) (ty := ty) (t := t) (E := E) (c := c) hI0 hs
      obtain ⟨Lb, hp1, hp2⟩ := (hL s).perm
      refine ⟨_, w, _, by simp [execOp, resolve, invoke, builtin, hx, hy, hr], ?_, s, rfl, rfl, by simpa using hs⟩
      refine Inv.perm ?_ hp2.symm
      simp only [Nat.add_zero, List.append_nil]
      exact hI.perm hp1
    | some a =>
      have key := fun Lb (hI' : Inv N w0 (svH E (sz + 1) k xs s Lb) w) => run_append_sv (P := P) (ty := ty) (t := t) (E := E) (a := a) (m := m) (c := c) hz hI' hs hl (fun j u hj => by
        obtain ⟨b2, o2, ha, hc⟩ := hn w hI j u hj
        simp only [Option.some.injEq] at ha
        subst ha
        rw [addr_add]; exact hc) h1 h63 hby
      obtain ⟨s', w', hr, hI', hs'⟩ := key Lb0 hI0
      obtain ⟨Lb, hp1, hp2⟩ := (hL s').perm
      obtain ⟨s2, w2, hr2, hI2, hs2⟩ := key Lb (hI.perm hp1)
      have he : s2 = s' ∧ w2 = w' := by
        rw [hr] at hr2
        simp only [Result.ok.injEq] at hr2
        obtain ⟨h3, h4⟩ := hr2
        exact ⟨(svV_inj (by simpa using h3)).symm, h4.symm⟩
      obtain ⟨rfl, rfl⟩ := he
      exact ⟨_, w2, _, by simp [execOp, resolve, invoke, builtin, hx, hy, hr], hI2.perm hp2.symm, s2, rfl, rfl, hs'⟩
  · rintro v L2 ⟨s', rfl, rfl, hs'⟩
    exact h s' hs'
/-- To a slice without elements. -/
theorem OPS_append0 {t E : TypeId} [hE : SliceOf P t E] {g' : Bool} {sz bt : Nat} [hS : TySz P E g' (sz + 1) bt] {z : List Value} [hZ : TyZero P E z] (hz : z.length = sz + 1)
    {x y : Operand} {m c : Nat} {A : Option Addr} {news : List Value} {s : Option (Nat × Nat)} {L' : Option (Nat × Nat) → Hp} {d : Nat} (hx : ev e x = svV s 0) (hy : ev e y = .slice A m c) (hL : ∀ s', Grow E (sz + 1) 0 [] s m news s' L (L' s'))
    (hs : svOk s (sz + 1) 0 []) (hn : ∀ w, Inv N w0 L w → ∀ j u, news[j]? = some u → ∃ b2 o2, A = some ⟨b2, o2, none⟩ ∧ w.cell? ⟨b2, o2 + j, none⟩ = some u) (hA : A = none → m = 0) (hl : news.length = m * (sz + 1)) (h1 : ones news = true) (h63 : m ≤ maxLen) (hby : m * bt ≤ 140737488355328)
    (h : ∀ s', svOk s' (sz + 1) m news → OPS P r n N w0 ops rest Q (upd e d (svV s' m)) ds (L' s'))
    (hg : Region.wanted ⟨some d, .call { callee := .builtin .append, args := #[x, y], argTypes := #[t, t] }, ty, pos, af, g⟩ (yieldE ops e) = true := by rfl) (hd : Nat.blt d n = true := by rfl) :
    OPS P r n N w0 ops (⟨some d, .call { callee := .builtin .append, args := #[x, y], argTypes := #[t, t] }, ty, pos, af, g⟩ :: rest) Q e ds L := by
  have e1 : 0 + m = m := Nat.zero_add m
  refine OPS_appendG (L' := L') (k := 0) (xs := []) hz hx hy (fun s' => ?_) hs hn hA hl h1 (by omega) (by rw [e1]; exact hby) (fun s' hs' => ?_) hg hd
  · rw [e1]; exact hL s'
  · rw [e1] at hs' ⊢; exact h s' hs'
theorem blk_src {b T : Nat} {l : List Value} (hm : Mem b (Blk T l) L) : ∀ w, Inv N w0 L w → ∀ j u, l[j]? = some u → ∃ b2 o2, some (⟨b, 0, none⟩ : Addr) = some ⟨b2, o2, none⟩ ∧ w.cell? ⟨b2, o2 + j, none⟩ = some u := fun w hI j u hj => ⟨b, 0, rfl, blk_cells hm w hI j u hj⟩
/-- append of elements that were just laid. -/
theorem Zag {t E : TypeId} [hE : SliceOf P t E] {g' : Bool} {sz bt : Nat} [hS : TySz P E g' (sz + 1) bt] {z : List Value} [hZ : TyZero P E z] {x y : Operand} {k m c b T : Nat} {xs news : List Value} {s : Option (Nat × Nat)} {L' : Option (Nat × Nat) → Hp} {d : Nat}
    (h : ∀ s', svOk s' (sz + 1) (k + m) (xs ++ news) → OPS P r n N w0 ops rest Q (upd e d (svV s' (k + m))) ds (L' s')) (hz : z.length = sz + 1 := by rfl) (hx : ev e x = svV s k := by rfl) (hy : ev e y = .slice (some ⟨b, 0, none⟩) m c := by rfl)
    (hm : Mem b (Blk T news) L := by repeat (first | exact Mem.here | assumption | apply Mem.there | apply Mem.sv | apply Mem.app)) (hs : svOk s (sz + 1) k xs := by assumption) (hL : ∀ s', Grow E (sz + 1) k xs s (k + m) (xs ++ news) s' L (L' s') := by intro s'; repeat (first | exact Grow.here | apply Grow.there | apply Grow.sv | apply Grow.app))
    (hl : news.length = m * (sz + 1) := by rfl) (h1 : ones news = true := by rfl) (h63 : k + m ≤ maxLen := by simp only [maxLen]; omega) (hby : (k + m) * bt ≤ 140737488355328 := by omega)
    (hg : Region.wanted ⟨some d, .call { callee := .builtin .append, args := #[x, y], argTypes := #[t, t] }, ty, pos, af, g⟩ (yieldE ops e) = true := by rfl) (hd : Nat.blt d n = true := by rfl) :
    OPS P r n N w0 ops (⟨some d, .call { callee := .builtin .append, args := #[x, y], argTypes := #[t, t] }, ty, pos, af, g⟩ :: rest) Q e ds L :=
  OPS_appendG hz hx hy hL hs (blk_src hm) (fun h => by cases h) hl h1 h63 hby h hg hd
theorem OPS_perm {l : List Oper} {L2 : Hp} (k : L.Perm L2) (h : OPS P r n N w0 ops l Q e ds L2) : OPS P r n N w0 ops l Q e ds L := fun a w hs he hd hI => h a w hs he hd (hI.perm k)
/-- A new row without elements, to append to. -/
theorem Row_nil {E : TypeId} {sz : Nat} : ∀ o, Blk E [] o → Row E sz 0 0 [] o := by
  intro o ho
  unfold Blk Is at ho
  subst ho
  exact ⟨#[], rfl, Nat.le_refl _, by unfold maxLen; omega, by simp, by simp⟩
theorem Wk.appK (X : Hp) {L L' : Hp} (h : Wk L L') : Wk (X ++ L) (X ++ L') := by
  induction X with
  | nil => exact h
  | cons x X ih => exact .keep1 ih

/-! ## What can be read -/
/-- A cell that reads so as long as X is owned, whatever else is. -/
def RdX (X : Hp) (b o : Nat) (v : Value) : Prop := ∀ (N : Nat) (w0 w : World), Inv N w0 X w → w.cell? ⟨b, o, none⟩ = some v
/-- A cell that reads so here. -/
def Rd (N : Nat) (w0 : World) (L : Hp) (b o : Nat) (v : Value) : Prop := ∀ w, Inv N w0 L w → w.cell? ⟨b, o, none⟩ = some v
theorem RdX.wk {X L : Hp} {b o : Nat} {v : Value} (h : RdX X b o v) (k : Wk L X) : RdX L b o v := fun N w0 w hI => h N w0 w (hI.wk k)
theorem RdX.sub {X L : Hp} {b o : Nat} {v : Value} (h : RdX X b o v) (k : Sub X L) : RdX L b o v := fun N w0 w hI => by
  obtain ⟨L0, k⟩ := k
  refine h N w0 w ((hI.perm (k.trans List.perm_append_comm)).wk (.app L0 X))
theorem RdX.rd {X : Hp} {b o : Nat} {v : Value} (h : RdX X b o v) : Rd N w0 X b o v := fun w hI => h N w0 w hI
theorem Rd.wk {X : Hp} {b o : Nat} {v : Value} (h : Rd N w0 X b o v) (k : Wk L X) : Rd N w0 L b o v := fun w hI => h w (hI.wk k)
theorem Rd.ro {b o : Nat} {v : Value} (hb : b < N) (hv : w0.cell? ⟨b, o, none⟩ = some v) : Rd N w0 L b o v := fun _ hI => hI.cellRo hb hv
theorem Val_loadD1 {t : TypeId} {n bt : Nat} [TySz P t false n bt] {x : Operand} {b o : Nat} {v : Value} (hx : ev e x = .pointer (some ⟨b, o, none⟩)) (hv : Rd N w0 L b o v) : Val P N w0 L e ⟨d, .load t x, ty, pos, af, g⟩ v := by
  intro w hI
  simp [execOp, hx, Instr.loadAt, Instr.sureAddr, run_loadVar1 (hv w hI)]
theorem Val_loadDN {t : TypeId} {n bt : Nat} [TySz P t true n bt] {x : Operand} {b o : Nat} {vs : List Value} (hx : ev e x = .pointer (some ⟨b, o, none⟩)) (hv : ∀ j v, vs[j]? = some v → Rd N w0 L b (o + j) v) (hl : vs.length = n) : Val P N w0 L e ⟨d, .load t x, ty, pos, af, g⟩ (.agg vs.toArray) := by
  intro w hI
  simp [execOp, hx, Instr.loadAt, Instr.sureAddr, run_loadVarN hl (fun j hj => by
    have hj' : j < vs.length := by omega
    rw [addr_add, List.getElem?_eq_getElem hj']; exact hv j _ (List.getElem?_eq_getElem hj') w hI)]
end
end Go.Proofs.Ytlpahkmfjpjheaa
end

section
namespace Go.Proofs.Ytlpahkmfjpjheaa
open Go.RowKit
section
variable {P : Program} {r : Option Nat} {n N : Nat} {w0 : World} {L B : Hp} {e : Env} {ds : List Deferred} {Q : Post} {d : Option Nat} {ty : TypeId} {pos : String} {af : Array Edge} {g : Option (Nat × Bool)}
theorem SlAt.now {A : Option Addr} {sz : Nat} {rows : List (List Value)} (h : SlAt N w0 A sz rows) {w : World} (hI : Inv N w0 L w) : SlAt w.heap.size w A sz rows := by
  intro k hk
  obtain ⟨b, o, h1, h2, h3⟩ := h k hk
  exact ⟨b, o, h1, Nat.lt_of_lt_of_le h2 hI.big, fun j v hj => hI.cellRo h2 (h3 j v hj)⟩
/-- The rows of a slice that grew. -/
theorem sl_sv {E : TypeId} {sz k : Nat} {xs : List Value} {s : Option (Nat × Nat)} (hz : 0 < sz) (hs : svOk s sz k xs) : ∃ A c, svV s k = .slice A k c ∧ ∀ {N : Nat} {w0 : World} {L : Hp} {w : World} {rows : List (List Value)}, Inv N w0 (svH E sz k xs s L) w → xs = rows.flatten → (∀ r ∈ rows, r.length = sz) → SlAt w.heap.size w A sz rows := by
  obtain ⟨A, c, h1, h2⟩ := sv_slice (E := E) hs
  refine ⟨A, c, h1, fun {N w0 L w rows} hI hx hr i hi => ?_⟩
  have hj : ∀ j v, rows[i][j]? = some v → xs[i * sz + j]? = some v := by
    intro j v hj
    have hj2 : j < sz := by
      have := (List.getElem?_eq_some_iff.1 hj).1
      rw [hr _ (List.getElem_mem hi)] at this
      exact this
    rw [hx, flat_get rows i j hi hr hj2]
    exact hj
  obtain ⟨v0, hv0⟩ : ∃ v, rows[i][0]? = some v := ⟨_, List.getElem?_eq_getElem (by rw [hr _ (List.getElem_mem hi)]; omega)⟩
  obtain ⟨b, hA, hb, _⟩ := h2 hI _ _ (hj 0 v0 hv0)
  refine ⟨b, 0, hA, hb, fun j v hjv => ?_⟩
  obtain ⟨b', hA', _, hc⟩ := h2 hI _ _ (hj j v hjv)
  rw [hA] at hA'
  simp only [Option.some.injEq, Addr.mk.injEq, and_true] at hA'
  rw [Nat.zero_add, hA']; exact hc
theorem Inv.on2 {w w' : World} {X : Hp} (h : Inv N w0 L w) (h' : Inv w.heap.size w X w') : Inv N w0 (X ++ L) w' := by
  have h1 := h.on h'
  refine ⟨h1.below, h1.big, ?_, ?_⟩
  · rw [List.pairwise_append]
    refine ⟨h'.dis, h.dis, fun x hx y hy => ?_⟩
    have := (h'.own x hx).1
    have := h.lt hy
    omega
  · intro x hx
    rcases List.mem_append.1 hx with hx | hx
    · obtain ⟨h2, h3⟩ := h'.own x hx
      exact ⟨Nat.le_trans h.big h2, h3⟩
    · exact h1.own x hx
/-- A call that is known from what lies there now, with what it lays anew. -/
theorem Tri.re2 {f : FuncId} {args : Array Value} {K : Value → Hp → Prop} (h : ∀ w, Inv N w0 L w → Tri P w.heap.size w [] f args fun x L' => ∃ v, x = .returned v ∧ ∃ X, L' = X ++ [] ∧ K v X) : Tri P N w0 L f args fun x L' => ∃ v, x = .returned v ∧ ∃ X, L' = X ++ L ∧ K v X := by
  intro w hI
  refine (h w hI w hI.at_).mono ?_
  rintro x w' ⟨L', hI', v, rfl, X, rfl, hK⟩
  rw [List.append_nil] at hI'
  exact ⟨X ++ L, hI.on2 hI', v, rfl, X, rfl, hK⟩
/-- A region whose order is left open: what comes ahead of what writes reads B. -/
theorem WP_drawnS {id : Nat} {l : List Oper} (T E A fl : List Nat) {k k2 : Nat} (hS : Sub B L) (hfl : (T.all fun i => match l[i]? with | some o => (match o.dst with | some t => fl.contains t | none => true) | none => true) = true) (hm : P.follows .mixedOrders = true) (hc : drawChk l.toArray T E A = true) (hf : floatChk n l.toArray T E A = true) (hk : l.length = E.length + A.length + (k + k2))
    (h : EWalk P n N w0 l.toArray [] B E e fun ef => AWalk P n l.toArray A ef ef fun e' A' => AnyC P r n N w0 l.toArray Q ds fl B T k2 k (doneOf l.length (E ++ A)) e' (A' ++ L)) : WP P r n N w0 (.region id l.toArray true) Q e ds L := by
  obtain ⟨L0, hp⟩ := hS
  refine WP_drawnC L0 B T E A fl (hp.trans List.perm_append_comm) hfl hm hc hf hk ?_
  obtain ⟨ef, h1, S, h2, h3, h4⟩ := h
  refine ⟨ef, h1, S, h2, h3, h4.mono fun e' A' h5 => h5.perm ?_⟩
  exact List.Perm.append_left A' (hp.trans List.perm_append_comm).symm
/-- '[]T{}': a row without elements, to append to. -/
theorem New_buildSlice0 {t E : TypeId} [hs : SliceOf P t E] {g' : Bool} {sz bt : Nat} [TySz P E g' sz bt] : New P e ⟨d, .buildSlice t 0 #[], ty, pos, af, g⟩ (.cells #[] E (0, 0)) (fun b => svV (some (b, 0)) 0) := by
  intro w
  simp only [execOp, Instr.buildSlice, Sem.run_bind, run_underlying hs.und, Result.andThen_ok, run_sizeOf (P := P) (t := E)]
  have h0 : Array.range 0 = (#[] : Array Nat) := by apply Array.ext'; simp
  simp [newRow, newObj, Sem.run, Instr.fill, svV, h0]
theorem row0 {E : TypeId} {sz : Nat} : Row E sz 0 0 [] (.cells #[] E (0, 0)) := ⟨#[], rfl, Nat.le_refl _, by unfold maxLen; omega, by simp, by simp⟩
theorem svOk0 {b sz : Nat} : svOk (some (b, 0)) sz 0 [] := ⟨by simp, fun h => by cases h⟩
theorem Zbs {ops : Array Oper} {rest : List Oper} {t E : TypeId} [hs : SliceOf P t E] {g' : Bool} {sz bt : Nat} [TySz P E g' sz bt] {d : Nat} (h : ∀ b, OPS P r n N w0 ops rest Q (upd e d (svV (some (b, 0)) 0)) ds (svH E sz 0 [] (some (b, 0)) L))
    (hg : Region.wanted ⟨some d, .buildSlice t 0 #[], ty, pos, af, g⟩ (yieldE ops e) = true := by rfl) (hd : Nat.blt d n = true := by rfl) : OPS P r n N w0 ops (⟨some d, .buildSlice t 0 #[], ty, pos, af, g⟩ :: rest) Q e ds L :=
  OPS_newS (row0 (E := E) (sz := sz)) (New_buildSlice0 (sz := sz) (bt := bt) (g' := g')) hg rfl hd h
theorem inKw {a b : Int} (ha : -1000000 ≤ a ∧ a ≤ 1000000) (hb : -1000000 ≤ b ∧ b ≤ 1000000) : inKs [.i64, .i64] [a, b] := by
  refine ⟨rfl, ?_⟩
  intro p hp
  simp only [List.zip_cons_cons, List.zip_nil_right, List.mem_cons, List.not_mem_nil, or_false] at hp
  rcases hp with rfl | rfl <;> (simp [Lit.wf, IntKind.min, IntKind.max, IntKind.bits, IntKind.signed]; omega)
section
variable {x y : Operand} {t t' : TypeId} {ks : List IntKind} [hk : KeyTy P t ks] {a b : List Int}
theorem Val_neqIF (hx : ev e x = intsV ks a) (hy : ev e y = intsV ks b) (h : a = b) (ha : inKs ks a) (hb : inKs ks b) : Val P N w0 L e ⟨d, .binOp .neq t x y t', ty, pos, af, g⟩ (.bool false) := by
  have := Val_neqI (P := P) (N := N) (w0 := w0) (L := L) (d := d) (t := t) (t' := t') (ty := ty) (pos := pos) (af := af) (g := g) hx hy rfl rfl ha hb
  rwa [decide_eq_true h] at this
theorem Val_neqIT (hx : ev e x = intsV ks a) (hy : ev e y = intsV ks b) (h : a ≠ b) (ha : inKs ks a) (hb : inKs ks b) : Val P N w0 L e ⟨d, .binOp .neq t x y t', ty, pos, af, g⟩ (.bool true) := by
  have := Val_neqI (P := P) (N := N) (w0 := w0) (L := L) (d := d) (t := t) (t' := t') (ty := ty) (pos := pos) (af := af) (g := g) hx hy rfl rfl ha hb
  rwa [decide_eq_false h] at this
end
/-- Spans that are the same. -/
theorem Val_neqS {x y : Operand} {t t' : TypeId} [hk : KeyTy P t [.i64, .i64]] {a b a' b' : Int} (hx : ev e x = .agg [.int .i64 a, .int .i64 b].toArray) (hy : ev e y = .agg [.int .i64 a', .int .i64 b'].toArray) (h1 : a = a') (h2 : b = b') (ha : -1000000 ≤ a ∧ a ≤ 1000000) (hb : -1000000 ≤ b ∧ b ≤ 1000000) : Val P N w0 L e ⟨d, .binOp .neq t x y t', ty, pos, af, g⟩ (.bool false) := by
  subst h1 h2
  exact Val_neqIF (ks := [.i64, .i64]) (a := [a, b]) (b := [a, b]) hx hy rfl (inKw ha hb) (inKw ha hb)
theorem Val_neqU {x y : Operand} {t t' : TypeId} [hk : KeyTy P t [.i64, .i64]] {a b a' b' : Int} (hx : ev e x = .agg [.int .i64 a, .int .i64 b].toArray) (hy : ev e y = .agg [.int .i64 a', .int .i64 b'].toArray) (h1 : a ≠ a' ∨ b ≠ b') (ha : -1000000 ≤ a ∧ a ≤ 1000000) (hb : -1000000 ≤ b ∧ b ≤ 1000000) (ha' : -1000000 ≤ a' ∧ a' ≤ 1000000) (hb' : -1000000 ≤ b' ∧ b' ≤ 1000000) : Val P N w0 L e ⟨d, .binOp .neq t x y t', ty, pos, af, g⟩ (.bool true) :=
  Val_neqIT (ks := [.i64, .i64]) (a := [a, b]) (b := [a', b']) hx hy (by intro h; simp only [List.cons.injEq, and_true] at h; omega) (inKw ha hb) (inKw ha' hb')
theorem Val_remE2 {x y : Operand} {t t' : TypeId} {a b c : Nat} (hc : a % b = c) (hb : 0 < b) (hx : ev e x = .int .i64 (a : Int)) (hy : ev e y = .int .i64 (b : Int)) : Val P N w0 L e ⟨d, .binOp .rem t x y t', ty, pos, af, g⟩ (.int .i64 (c : Int)) := by
  have := Val_rem (P := P) (N := N) (w0 := w0) (L := L) (d := d) (ty := ty) (pos := pos) (af := af) (g := g) (t := t) (t' := t') hx hy (by omega)
  have e : ((a : Int).tmod b) = (c : Int) := by rw [Int.tmod_eq_emod_of_nonneg (by omega), ← hc]; omega
  rwa [e] at this
theorem Val_quoE {x y : Operand} {t t' : TypeId} {a b c : Nat} (hc : a / b = c) (hb : 0 < b) (ha : a ≤ 1000000) (hx : ev e x = .int .i64 (a : Int)) (hy : ev e y = .int .i64 (b : Int)) : Val P N w0 L e ⟨d, .binOp .quo t x y t', ty, pos, af, g⟩ (.int .i64 (c : Int)) := by
  have h1 : ((a : Int).tdiv b) = (c : Int) := by rw [Int.tdiv_eq_ediv_of_nonneg (by omega), ← hc]; omega
  have h2 : c ≤ a := by rw [← hc]; exact Nat.div_le_self a b
  have := Val_quo (P := P) (N := N) (w0 := w0) (L := L) (d := d) (ty := ty) (pos := pos) (af := af) (g := g) (t := t) (t' := t') hx hy (by omega) (by rw [h1]; exact InK_i64 (by omega) (by omega))
  rwa [h1] at this
end
end Go.Proofs.Ytlpahkmfjpjheaa
end

section
namespace Go.Proofs.Ytlpahkmfjpjheaa
open Go.RowKit
def dryOf (h : Hv) (place : Int) : Int := if place = 0 then h.d0 else if place = 1 then h.d1 else h.d2
def wetN (h : Hv) (place n r : Int) : Int := max 0 (min 100 ((if r = 0 then n - dryOf h place else n) + r))
/-- The wetness of a heap in the evenings of days. -/
def wetF (h : Hv) (place : Int) : Int → List Int → List Int
  | _, [] => []
  | n, r :: rs => wetN h place n r :: wetF h place (wetN h place n r) rs
theorem wetF_len (h : Hv) (place : Int) : ∀ (rs : List Int) (n : Int), (wetF h place n rs).length = rs.length
  | [], _ => rfl
  | _ :: rs, n => by rw [wetF, List.length_cons, wetF_len h place rs, List.length_cons]
def lastN (h : Hv) (place n : Int) (rs : List Int) : Int := rs.foldl (wetN h place) n
theorem wetF_snoc (h : Hv) (place : Int) : ∀ (rs : List Int) (n r : Int), wetF h place n (rs ++ [r]) = wetF h place n rs ++ [wetN h place (lastN h place n rs) r]
  | [], _, _ => rfl
  | q :: rs, n, r => by simp only [List.cons_append, wetF, wetF_snoc h place rs, lastN, List.foldl_cons]
theorem lastN_snoc (h : Hv) (place n : Int) (rs : List Int) (r : Int) : lastN h place n (rs ++ [r]) = wetN h place (lastN h place n rs) r := by simp [lastN]
theorem wetN_bd (h : Hv) (place n r : Int) : 0 ≤ wetN h place n r ∧ wetN h place n r ≤ 100 := by unfold wetN; omega
theorem lastN_bd (h : Hv) (place : Int) {n : Int} (hn : 0 ≤ n ∧ n ≤ 100) : ∀ rs : List Int, 0 ≤ lastN h place n rs ∧ lastN h place n rs ≤ 100
  | [] => hn
  | r :: rs => lastN_bd h place (wetN_bd h place n r) rs
/-- A list of numbers, read. -/
def RdL (X : Hp) (v : Value) (row : List Int) : Prop := ∃ A c, v = .slice A row.length c ∧ ∀ (j : Nat) (x : Int), row[j]? = some x → ∃ b, A = some ⟨b, 0, none⟩ ∧ RdX X b j (.int .i64 x)
/-- A list of lists of numbers. -/
def RdLL (X : Hp) (v : Value) (rows : List (List Int)) : Prop := ∃ A c, v = .slice A rows.length c ∧ ∀ (i : Nat) (row : List Int), rows[i]? = some row → ∃ b u, A = some ⟨b, 0, none⟩ ∧ RdX X b i u ∧ RdL X u row
theorem RdL.wk {X L : Hp} {v : Value} {row : List Int} (h : RdL X v row) (k : Wk L X) : RdL L v row := by
  obtain ⟨A, c, rfl, h⟩ := h
  exact ⟨A, c, rfl, fun j x hj => let ⟨b, h1, h2⟩ := h j x hj; ⟨b, h1, h2.wk k⟩⟩
theorem RdLL.wk {X L : Hp} {v : Value} {rows : List (List Int)} (h : RdLL X v rows) (k : Wk L X) : RdLL L v rows := by
  obtain ⟨A, c, rfl, h⟩ := h
  exact ⟨A, c, rfl, fun j x hj => let ⟨b, u, h1, h2, h3⟩ := h j x hj; ⟨b, u, h1, h2.wk k, h3.wk k⟩⟩
theorem RdX.perm {X L : Hp} {b o : Nat} {v : Value} (h : RdX X b o v) (k : L.Perm X) : RdX L b o v := fun N w0 w hI => h N w0 w (hI.perm k)
theorem RdL.perm {X L : Hp} {v : Value} {row : List Int} (h : RdL X v row) (k : L.Perm X) : RdL L v row := by
  obtain ⟨A, c, rfl, h⟩ := h
  exact ⟨A, c, rfl, fun j x hj => let ⟨b, h1, h2⟩ := h j x hj; ⟨b, h1, h2.perm k⟩⟩
theorem RdLL.perm {X L : Hp} {v : Value} {rows : List (List Int)} (h : RdLL X v rows) (k : L.Perm X) : RdLL L v rows := by
  obtain ⟨A, c, rfl, h⟩ := h
  exact ⟨A, c, rfl, fun j x hj => let ⟨b, u, h1, h2, h3⟩ := h j x hj; ⟨b, u, h1, h2.perm k, h3.perm k⟩⟩
def intL (row : List Int) : List Value := row.map fun x => .int .i64 x
theorem intL_flat (l : List Int) : intL l = (l.map fun x => [Value.int .i64 x]).flatten := by
  unfold intL
  induction l with
  | nil => rfl
  | cons x l ih => rw [List.map_cons, List.map_cons, List.flatten_cons, ih]; rfl
theorem one_len (l : List Int) : ∀ r ∈ l.map (fun x => [Value.int .i64 x]), r.length = 1 := by
  intro r hr
  obtain ⟨x, _, rfl⟩ := List.mem_map.1 hr
  rfl
/-- A list of numbers that grew. -/
theorem RdL.sv {E : TypeId} {s : Option (Nat × Nat)} {row : List Int} {L : Hp} (hs : svOk s 1 row.length (intL row)) : RdL (svH E 1 row.length (intL row) s L) (svV s row.length) row := by
  obtain ⟨A, c, h1, h2⟩ := sv_slice (E := E) hs
  refine ⟨A, c, h1, fun j x hj => ?_⟩
  have hj' : (intL row)[j]? = some (.int .i64 x) := by unfold intL; rw [List.getElem?_map, hj]; rfl
  cases s with
  | none =>
    have := hs.2 rfl
    rw [List.eq_nil_of_length_eq_zero this] at hj; simp at hj
  | some p =>
    obtain ⟨b, cap⟩ := p
    simp only [svV, Value.slice.injEq] at h1
    refine ⟨b, h1.1.symm, fun N w0 w hI => ?_⟩
    obtain ⟨b', hb, _, hc⟩ := h2 hI j _ hj'
    rw [← h1.1] at hb
    simp only [Option.some.injEq, Addr.mk.injEq, and_true] at hb
    rw [hb]; exact hc
/-- A list of lists that grew. -/
theorem RdLL.sv {E : TypeId} {s : Option (Nat × Nat)} {vals : List Value} {rows : List (List Int)} {X : Hp} (hs : svOk s 1 rows.length vals) (h : ∀ (i : Nat) (row : List Int), rows[i]? = some row → ∃ u, vals[i]? = some u ∧ RdL X u row) : RdLL (svH E 1 rows.length vals s X) (svV s rows.length) rows := by
  obtain ⟨A, c, h1, h2⟩ := sv_slice (E := E) hs
  refine ⟨A, c, h1, fun i row hi => ?_⟩
  obtain ⟨u, hu, hr⟩ := h i row hi
  cases s with
  | none =>
    have := hs.2 rfl
    rw [List.eq_nil_of_length_eq_zero this] at hi; simp at hi
  | some p =>
    obtain ⟨b, cap⟩ := p
    simp only [svV, Value.slice.injEq] at h1
    refine ⟨b, u, h1.1.symm, fun N w0 w hI => ?_, hr.wk (.drop (.refl _))⟩
    obtain ⟨b', hb, _, hc⟩ := h2 hI i _ hu
    rw [← h1.1] at hb
    simp only [Option.some.injEq, Addr.mk.injEq, and_true] at hb
    rw [hb]; exact hc
theorem SlAt.cell1 {N : Nat} {w0 : World} {A : Option Addr} {l : List Int} (h : SlAt N w0 A 1 (l.map fun x => [.int .i64 x])) (k : Nat) (hk : k < l.length) : ∃ b o, A = some ⟨b, o, none⟩ ∧ b < N ∧ w0.cell? ⟨b, o + k, none⟩ = some (.int .i64 l[k]) := by
  obtain ⟨b, o, h1, h2, h3⟩ := h k (by simpa using hk)
  refine ⟨b, o, h1, h2, ?_⟩
  have := h3 0 (.int .i64 l[k]) (by simp)
  simpa using this
theorem take_one {α : Type} {l : List α} {k : Nat} (hk : k < l.length) : l.take (k + 1) = l.take k ++ [l[k]] := List.take_succ_eq_append_getElem hk
def wetRow (h : Hv) (first rains : List Int) (i : Nat) : List Int := wetF h (tfOf h i).place (first.getD i 0) rains
def wetL (h : Hv) (first rains : List Int) : List (List Int) := (List.range h.heaps.length).map (wetRow h first rains)
theorem wetL_len (h : Hv) (first rains : List Int) : (wetL h first rains).length = h.heaps.length := by simp [wetL]
theorem wetL_get {h : Hv} {first rains : List Int} {i : Nat} (hi : i < h.heaps.length) : (wetL h first rains)[i]? = some (wetRow h first rains i) := by
  unfold wetL; rw [List.getElem?_map, List.getElem?_range hi]; rfl
end Go.Proofs.Ytlpahkmfjpjheaa
end

section
namespace Go.Proofs.Ytlpahkmfjpjheaa
open Go.RowKit
theorem vB_of {h : Hv} (v : VH h) : vB h = true := by
  have h1 := v.nh
  have h2 := v.nr
  have h3 := v.lim
  have h4 := v.nl
  have h5 := v.dr
  simp only [vB, numB, drB, Bool.and_eq_true, List.all_eq_true, within, isSpanB, tfB, lkB, decide_eq_true_eq]
  refine ⟨⟨⟨⟨?_, fun t ht => ?_⟩, fun s hs => ?_⟩, ?_⟩, fun l hl => ?_⟩
  · refine ⟨⟨⟨?_, ?_⟩, ?_⟩, h4⟩ <;> constructor <;> omega
  · have := v.tf t ht; refine ⟨⟨?_, ?_⟩, ?_⟩ <;> omega
  · have := v.rn s hs; omega
  · refine ⟨⟨⟨?_, ?_⟩, ?_, ?_⟩, ?_, ?_⟩ <;> omega
  · have := v.lk l hl; refine ⟨⟨⟨?_, ?_⟩, ?_, ?_⟩, ?_⟩ <;> omega
theorem idxF_le {p q : Nat → Bool} (h : ∀ k, p k = true → q k = true) : ∀ n, 0 ≤ idxF p n → 0 ≤ idxF q n ∧ idxF q n ≤ idxF p n
  | 0, h0 => by rw [idxF_zero] at h0; omega
  | n + 1, h0 => by
    have ih := idxF_le h n
    have b1 := idxF_bd p n
    have b2 := idxF_bd q n
    have eq : idxF q (n + 1) = if idxF q n < 0 ∧ q n = true then (n : Int) else idxF q n := idxF_succ q n
    by_cases h1 : idxF p n < 0
    · by_cases h2 : p n = true
      · have h3 := h n h2
        have ep : idxF p (n + 1) = n := by rw [idxF_succ, if_pos ⟨h1, h2⟩]
        rw [ep, eq]
        by_cases h4 : idxF q n < 0
        · rw [if_pos ⟨h4, h3⟩]; omega
        · rw [if_neg (fun h => h4 h.1)]; omega
      · have ep : idxF p (n + 1) = idxF p n := by rw [idxF_succ, if_neg (fun h => h2 h.2)]
        omega
    · have h5 := ih (by omega)
      have ep : idxF p (n + 1) = idxF p n := by rw [idxF_succ, if_neg (fun h => h1 h.1)]
      rw [ep, eq, if_neg (fun h => by omega)]
      exact h5
/-- Two heaps, in two places, of the same wetness; no looks. -/
def highH (h : Hv) (a b f l f2 : Int) (rains : List Sp) : Hv := { h with heaps := [⟨a, f, l⟩, ⟨b, f2, l⟩], rains := rains, looks := [] }
section
variable {h : Hv} (hv : VH h) {a b f l : Int} (ha : 0 ≤ a ∧ a ≤ b ∧ b ≤ 2) (hf : 0 ≤ f ∧ f ≤ l ∧ l ≤ 100 ∧ l - f ≤ 5)
include hv ha hf
theorem VH_high : VH (highH h a b f l f h.rains) := by
  refine ⟨by show 1 ≤ 2 ∧ 2 ≤ 3; omega, hv.nr, hv.lim, by show 0 ≤ 5; omega, fun t ht => ?_, hv.rn, hv.dr, fun l hl => by cases hl⟩
  have ht' : t = ⟨a, f, l⟩ ∨ t = ⟨b, f, l⟩ := by simpa [highH] using ht
  rcases ht' with rfl | rfl <;> dsimp only <;> omega
theorem high_wet {d : Nat} (hd : d < h.rains.length) (i : Nat) (hi : i < 2) : WetV (highH h a b f l f h.rains) i d = wetS (highH h a b f l f h.rains) i d ∧ errE (highH h a b f l f h.rains) (WetOk (highH h a b f l f h.rains) i d) = 0 :=
  wet_ok (vB_of (VH_high hv ha hf)) (told_free (VH_high hv ha hf) rfl) hi hd
theorem high_le {d : Nat} (hd : d < h.rains.length) : (wetS (highH h a b f l f h.rains) 1 d).1 ≤ (wetS (highH h a b f l f h.rains) 0 d).1 ∧ (wetS (highH h a b f l f h.rains) 1 d).2 ≤ (wetS (highH h a b f l f h.rains) 0 d).2 :=
  wetS_place (i := 0) (j := 1) (VH_high hv ha hf) rfl (by show 0 < 2; omega) (by show 1 < 2; omega) hd rfl rfl ha.2.1
theorem high_eq (hab : a = b) {d : Nat} (hd : d < h.rains.length) : wetS (highH h a b f l f h.rains) 1 d = wetS (highH h a b f l f h.rains) 0 d := by
  have h1 := high_le hv ha hf hd
  have h2 := wetS_place (i := 1) (j := 0) (VH_high hv ha hf) rfl (by show 1 < 2; omega) (by show 0 < 2; omega) hd rfl rfl (show b ≤ a by omega)
  exact Prod.ext (by omega) (by omega)
theorem high_when : WhenE (highH h a b f l f h.rains) ((0 : Nat) : Int) = 0 → WhenE (highH h a b f l f h.rains) ((1 : Nat) : Int) = 0 ∧ WhenV (highH h a b f l f h.rains) ((1 : Nat) : Int) ≤ WhenV (highH h a b f l f h.rains) ((0 : Nat) : Int) := by
  intro h0
  have hV := VH_high hv ha hf
  have ht := told_free hV rfl
  have h1 := when_ok hV (vB_of hV) ht (i := 0) (by show 0 < 2; omega)
  have h2 := when_ok hV (vB_of hV) ht (i := 1) (by show 1 < 2; omega)
  rcases h1 with ⟨e1, v1, p1⟩ | ⟨e1, _, _⟩
  · have key : ∀ n, n ≤ h.rains.length → 0 ≤ idxF (dr (highH h a b f l f h.rains) 0) n → 0 ≤ idxF (dr (highH h a b f l f h.rains) 1) n ∧ idxF (dr (highH h a b f l f h.rains) 1) n ≤ idxF (dr (highH h a b f l f h.rains) 0) n := by
      intro n hn
      have hc : ∀ p : Nat → Bool, idxF p n = idxF (fun k => p k && decide (k < h.rains.length)) n := by
        intro p
        have : ∀ m, m ≤ n → idxF p m = idxF (fun k => p k && decide (k < h.rains.length)) m := by
          intro m
          induction m with
          | zero => intro _; rfl
          | succ m ih =>
            intro hm
            have hd : decide (m < h.rains.length) = true := by rw [decide_eq_true_eq]; omega
            rw [idxF_succ, idxF_succ, ih (by omega), hd, Bool.and_true]
        exact this n (Nat.le_refl _)
      rw [hc (dr (highH h a b f l f h.rains) 0), hc (dr (highH h a b f l f h.rains) 1)]
      refine idxF_le (fun k hk => ?_) n
      simp only [Bool.and_eq_true, decide_eq_true_eq] at hk ⊢
      refine ⟨?_, hk.2⟩
      have h3 := (high_le hv ha hf hk.2).2
      have h4 := hk.1
      unfold dr at h4 ⊢
      rw [decide_eq_true_eq] at h4 ⊢
      exact Int.le_trans h3 h4
    have := key _ (Nat.le_refl _) p1
    rcases h2 with ⟨e2, v2, _⟩ | ⟨_, _, p2⟩
    · exact ⟨e2, by rw [v1, v2]; exact this.2⟩
    · have h5 := this.1
      have h6 : idxF (dr (highH h a b f l f h.rains) 1) h.rains.length = -1 := p2
      omega
  · rw [e1] at h0; omega
end
/-! ## All is known -/
def tops (l : List Sp) : List Sp := l.map fun r => (r.2, r.2)
theorem wetN_after {h : Hv} (hv : VH h) {place n r : Int} (hn : 0 ≤ n ∧ n ≤ 100) (hr : 0 ≤ r ∧ r ≤ 10) : wetN h place n r = after h.d0 h.d1 h.d2 place n r := by
  have := hv.dr
  unfold wetN after afterDry dryOf
  split
  · split <;> (try split) <;> omega
  · omega
theorem lastN_evening {h : Hv} (hv : VH h) {place : Int} : ∀ (rs : List Int) {n : Int}, (0 ≤ n ∧ n ≤ 100) → (∀ r ∈ rs, 0 ≤ r ∧ r ≤ 10) → lastN h place n rs = evening h place n rs
  | [], _, _, _ => rfl
  | r :: rs, n, hn, hr => by
    show lastN h place (wetN h place n r) rs = evening h place (after h.d0 h.d1 h.d2 place n r) rs
    rw [← wetN_after hv hn (hr r (.head _))]
    exact lastN_evening hv rs (wetN_bd h place n r) fun x hx => hr x (.tail _ hx)
theorem wetF_get {h : Hv} {place : Int} : ∀ (rs : List Int) (n : Int) (d : Nat), d < rs.length → (wetF h place n rs)[d]? = some (lastN h place n (rs.take (d + 1)))
  | r :: rs, n, 0, _ => by simp [wetF, lastN]
  | r :: rs, n, d + 1, hd => by
    rw [wetF, List.getElem?_cons_succ, wetF_get rs _ d (by simpa using hd), List.take_succ_cons]
    rfl
theorem known_wet {h : Hv} (hv : VH h) {a b f l : Int} (ha : 0 ≤ a ∧ a ≤ b ∧ b ≤ 2) (hf : 0 ≤ f ∧ f ≤ l ∧ l ≤ 100 ∧ l - f ≤ 5) :
    VH { highH h a b f l f (tops h.rains) with heaps := [⟨a, f, f⟩, ⟨b, f, l⟩] } ∧ ∀ d, d < h.rains.length → ∃ v, (wetRow { highH h a b f l f (tops h.rains) with heaps := [⟨a, f, f⟩, ⟨b, f, l⟩] } [f, f] (h.rains.map (·.2)) 0)[d]? = some v ∧
      wetS { highH h a b f l f (tops h.rains) with heaps := [⟨a, f, f⟩, ⟨b, f, l⟩] } 0 d = (v, v) := by
  obtain ⟨x, hx⟩ : ∃ x, ({ highH h a b f l f (tops h.rains) with heaps := [⟨a, f, f⟩, ⟨b, f, l⟩] } : Hv) = x := ⟨_, rfl⟩
  have hh : x.heaps = [⟨a, f, f⟩, ⟨b, f, l⟩] := by rw [← hx]
  have hr : x.rains = tops h.rains := by rw [← hx]; rfl
  have hk : x.looks = [] := by rw [← hx]; rfl
  have hlen : x.rains.length = h.rains.length := by rw [hr]; simp [tops]
  have hV : VH x := by
    refine ⟨by rw [hh]; show 1 ≤ 2 ∧ 2 ≤ 3; omega, by rw [hlen]; exact hv.nr, by rw [← hx]; exact hv.lim, by rw [hk]; show 0 ≤ 5; omega, fun t ht => ?_, fun r hr' => ?_, by rw [← hx]; exact hv.dr, fun l hl => by rw [hk] at hl; cases hl⟩
    · rw [hh] at ht
      have ht' : t = ⟨a, f, f⟩ ∨ t = ⟨b, f, l⟩ := by simpa using ht
      rcases ht' with rfl | rfl <;> dsimp only <;> omega
    · rw [hr] at hr'
      obtain ⟨s, hs, rfl⟩ := List.mem_map.1 hr'
      have := hv.rn s hs
      dsimp only; omega
  rw [hx]
  refine ⟨hV, fun d hd => ?_⟩
  have hd' : d < x.rains.length := by omega
  have h0 : tfOf x 0 = ⟨a, f, f⟩ := by unfold tfOf; rw [hh]; rfl
  have hw := wetS_known (i := 0) (d := d) hV hk (by rw [hh]; show 0 < 2; omega) hd' (by rw [h0]) (fun s hs => by rw [hr] at hs; obtain ⟨q, _, rfl⟩ := List.mem_map.1 hs; rfl)
  have hm : x.rains.map (·.1) = h.rains.map (·.2) := by rw [hr]; simp [tops]
  refine ⟨_, ?_, hw⟩
  unfold wetRow evn
  rw [h0, hm]
  show (wetF x a f (h.rains.map (·.2)))[d]? = _
  rw [wetF_get _ _ d (by simpa using hd)]
  congr 1
  refine lastN_evening hV _ (by omega) fun r hr' => ?_
  have := List.mem_of_mem_take hr'
  obtain ⟨s, hs, rfl⟩ := List.mem_map.1 this
  have := hv.rn s hs
  omega
end Go.Proofs.Ytlpahkmfjpjheaa
end

section
namespace Go.Proofs.Ytlpahkmfjpjheaa
open Go.RowKit
attribute [local irreducible] AnyO AnyB QAny QB EWalk AWalk Ev WP OPS QThen QBlock QScope QLoop QBody Val New Turn Tri Enters PostA Blk Ro
attribute [local irreducible] AnyC QC
section
variable (N : Nat) (w0 : World)
set_option maxHeartbeats 2000000 in
theorem wetness41_tri (L : Hp) (g : Bg) (hA : HeapAt N w0 g) (hv : VH g.h) (first rains : List Int) (Af Ar : Option Addr) (cf cr : Nat) (hF : SlAt N w0 Af 1 (first.map fun x => [.int .i64 x])) (hR : SlAt N w0 Ar 1 (rains.map fun x => [.int .i64 x]))
    (hfl : g.h.heaps.length ≤ first.length) (hfb : ∀ x ∈ first, 0 ≤ x ∧ x ≤ 100) (hrb : ∀ x ∈ rains, 0 ≤ x ∧ x ≤ 10) (hrl : rains.length ≤ 6) : Tri Try.prog N w0 L 41 [heapV g, .slice Af first.length cf, .slice Ar rains.length cr].toArray
      fun x L' => ∃ v, x = .returned v ∧ ∃ X, L' = X ++ L ∧ RdLL X v (wetL g.h first rains) := by
  have hnh := hv.nh
  refine Tri.fgt ?_
  refine tri_of_WP Try.func41 rfl (n := 56) rfl (by simp) ?_
  unfold heapV hvL
  repeat' (first | (refine Znh ?_) | (refine Zhn ?_) | (refine Zsq fun K hK => ?_) | (with_reducible refine Znl ?_) | (refine ZrN 0 fun _ => ?_; refine Zal 3 fun b3 => ?_; refine Zv Zav ?_) | (refine ZrN 1 fun _ => ?_; refine Zv Zf0 ?_; refine Zv Zld ?_; refine Zv Zxlen ?_; refine Zv Zmi ?_) | (refine WP_cond_true rfl ?_) | (refine WP_cond_false rfl ?_) | (refine Zcd (fun hc => ?_) (fun hc => ?_) <;> (try (exfalso; omega))) | (with_reducible apply WP_skip) | (with_reducible apply WP_block) | (with_reducible apply WP_exit) | (with_reducible apply WP_ret) | (with_reducible apply QBlock_normal) | (refine Zhx ?_) | (with_reducible apply QBlock_hit) | (refine Zqb ?_) | (with_reducible apply QLoop_exit) | (refine Zhr ?_) | (with_reducible apply QBlock_ret) | (with_reducible apply QLoop_ret))
  refine WP_loop [6, 7, 8, 9, 10, 12, 16, 17, 18, 19, 20, 21, 22, 23, 24, 25, 26, 27, 28, 29, 30, 31, 32, 33, 34, 35, 36, 37, 38, 39, 40, 41, 42, 43, 44, 45, 46, 47, 48, 49, 50, 51, 52, 53, 54] (fun st : Nat × Hp × List Value × Option (Nat × Nat) => [(16, .int .i64 st.1), (6, svV st.2.2.2 st.1)]) (fun st => st.2.1 ++ svH 52 1 st.1 st.2.2.1 st.2.2.2 ((b3, Blk 27 (hvL g)) :: L)) (fun st => st.1 ≤ g.h.heaps.length ∧ svOk st.2.2.2 1 st.1 st.2.2.1 ∧ ∀ (i : Nat) (row : List Int), ((List.range st.1).map (wetRow g.h first rains))[i]? = some row → ∃ u, st.2.2.1[i]? = some u ∧ RdL st.2.1 u row) (fun st => g.h.heaps.length - st.1) (0, [], [], none) (.cons rfl (.cons rfl .nil)) (Wk.refl _) ⟨Nat.zero_le _, svOk_nil _, fun i row h => by simp at h⟩ ?_
  rintro ⟨i, X, vals, so⟩ j ⟨hi, hso, hrd⟩
  dsimp only at hi hso hrd ⊢
  unfold hvL
  by_cases hlt : i < g.h.heaps.length
  · obtain ⟨bA, oA, hA1, hbA, hcA⟩ := hA.heaps.row i hlt
    obtain ⟨t, ht⟩ : ∃ t, g.h.heaps[i] = t := ⟨_, rfl⟩
    have htf : tfOf g.h i = t := by have := tfOf_get hlt; rw [List.getElem?_eq_getElem hlt, ht] at this; simpa using this.symm
    have htb := hv.tf t (by rw [← ht]; exact List.getElem_mem hlt)
    rw [ht] at hcA
    have hif : i < first.length := by omega
    obtain ⟨bF, oF, hA2, hbF, cF⟩ := hF.cell1 i hif
    obtain ⟨n0, hn0⟩ : ∃ n0, first[i] = n0 := ⟨_, rfl⟩
    have hfd : first.getD i 0 = n0 := by rw [List.getD_eq_getElem?_getD, List.getElem?_eq_getElem hif, hn0]; rfl
    have hn0b := hfb n0 (by rw [← hn0]; exact List.getElem_mem hif)
    rw [hn0] at cF
    obtain ⟨p, lo, hi'⟩ := t
    dsimp only at htb
    obtain ⟨q, hq⟩ : ∃ q : Nat, p = q := ⟨p.toNat, by omega⟩
    subst hq
    have hdr := hv.dr
    repeat' (first | (refine Znh ?_) | (refine Zhn ?_) | (refine Zsq fun K hK => ?_) | (with_reducible refine Znl ?_) | (refine ZrN 2 fun _ => ?_; refine Zv Zxlss ?_) | (refine ZrN 3 fun _ => ?_; refine Zv Zmi ?_; refine Zv Zia ?_; refine Zv Zla ?_; refine Zal 8 fun b8 => ?_; refine Zv Zai ?_; refine Zst ?_) | (refine ZrN 4 fun _ => ?_; refine Zv Zmv ?_; refine Zv Zmi ?_; refine Zv Zia ?_; refine Zv Zld ?_; refine Zv Zai ?_) | (refine ZrN 5 fun _ => ?_; refine Zv Zav ?_) | (refine ZrN 6 fun _ => ?_; refine Zv Zmv ?_; refine Zv Zxlen ?_; refine Zv Zmi ?_) | (refine WP_cond_true rfl ?_) | (refine WP_cond_false rfl ?_) | (refine Zcd (fun hc => ?_) (fun hc => ?_) <;> (try (exfalso; omega))) | (with_reducible apply WP_skip) | (with_reducible apply WP_block) | (with_reducible apply WP_exit) | (with_reducible apply WP_ret) | (with_reducible apply QBlock_normal) | (refine Zhx ?_) | (with_reducible apply QBlock_hit) | (refine Zqb ?_) | (with_reducible apply QLoop_exit) | (refine Zhr ?_) | (with_reducible apply QBlock_ret) | (with_reducible apply QLoop_ret))
    refine WP_loop [9, 10, 12, 27, 28, 29, 30, 31, 32, 33, 34, 35, 36, 37, 38, 39, 40, 41, 42, 43, 44, 45, 46, 47, 48, 49] (fun st : Nat × Int × List Value × Option (Nat × Nat) => [(27, .int .i64 st.1), (9, .int .i64 st.2.1), (10, svV st.2.2.2 st.1)]) (fun st => svH 3 1 st.1 st.2.2.1 st.2.2.2 ((b8, Blk 65 [.int .i64 (q : Int), .int .i64 lo, .int .i64 hi']) :: (X ++ svH 52 1 i vals so ((b3, Blk 27 (hvL g)) :: L)))) (fun st => st.1 ≤ rains.length ∧ st.2.1 = lastN g.h q n0 (rains.take st.1) ∧ st.2.2.1 = intL (wetF g.h q n0 (rains.take st.1)) ∧ svOk st.2.2.2 1 st.1 st.2.2.1) (fun st => rains.length - st.1) (0, n0, [], none) (.cons rfl (.cons rfl (.cons rfl .nil))) (Wk.refl _) ⟨Nat.zero_le _, rfl, rfl, svOk_nil _⟩ ?_
    rintro ⟨k, n, ds, si⟩ j2 ⟨hk, hn, hds, hsi⟩
    dsimp only at hk hn hds hsi ⊢
    unfold hvL
    by_cases hkl : k < rains.length
    · obtain ⟨bR, oR, hA3, hbR, cR⟩ := hR.cell1 k hkl
      obtain ⟨r, hr⟩ : ∃ r, rains[k] = r := ⟨_, rfl⟩
      have hrb' := hrb r (by rw [← hr]; exact List.getElem_mem hkl)
      rw [hr] at cR
      have hnb := lastN_bd g.h q hn0b (rains.take k)
      rw [← hn] at hnb
      have hnx : lastN g.h q n0 (rains.take (k + 1)) = wetN g.h q n r := by rw [take_one hkl, lastN_snoc, hr, ← hn]
      have hdx : intL (wetF g.h q n0 (rains.take (k + 1))) = ds ++ [.int .i64 (wetN g.h q n r)] := by rw [take_one hkl, wetF_snoc, hr, ← hn, hds]; simp [intL]
      by_cases hr0 : r = 0
      · subst hr0
        have hq3 : q = 0 ∨ q = 1 ∨ q = 2 := by omega
        rcases hq3 with rfl | rfl | rfl
        all_goals repeat' (first | (refine Znh ?_) | (refine Zhn ?_) | (refine Zsq fun K hK => ?_) | (with_reducible refine Znl ?_) | (refine ZrN 7 fun _ => ?_; refine Zv Zxlss ?_) | (refine ZrN 8 fun _ => ?_; refine Zv Zia ?_; refine Zv Zld ?_; refine Zv Zai ?_) | (refine ZrN 9 fun _ => ?_; refine Zv Zmi ?_; refine Zv Zxeql ?_) | (refine ZrN 10 fun _ => ?_; refine Zv Zmi ?_; refine Zv Zf0 ?_; refine Zv Zld ?_; refine Zv Zfa ?_; refine Zv ZiA ?_; refine Zv Zld ?_; refine Zv Zxsub ?_; refine Zv Zai ?_) | (refine ZrN 11 fun _ => ?_; refine Zv Zmi ?_; refine Zv Zmi ?_; refine Zv Zxadd ?_; refine Zv Zxmin ?_; refine Zv Zxmax ?_; refine Zv Zai ?_) | (refine ZrN 12 fun _ => ?_; refine Zv Zmv ?_; refine Zv Zmi ?_; refine Zal 47 fun b47 => ?_; refine Zag (fun s48 hs48 => ?_); refine Zv Zav ?_) | (refine ZrN 13 fun _ => ?_; refine Zv Zxadd ?_; refine Zv Zmi ?_) | (refine WP_cond_true rfl ?_) | (refine WP_cond_false rfl ?_) | (refine Zcd (fun hc => ?_) (fun hc => ?_) <;> (try (exfalso; omega))) | (with_reducible apply WP_skip) | (with_reducible apply WP_block) | (with_reducible apply WP_exit) | (with_reducible apply WP_ret) | (with_reducible apply QBlock_normal) | (refine Zhx ?_) | (with_reducible apply QBlock_hit) | (refine Zqb ?_) | (with_reducible apply QLoop_exit) | (refine Zhr ?_) | (with_reducible apply QBlock_ret) | (with_reducible apply QLoop_ret))
        all_goals exact QLoop_normal (k + 1, _, _, _) (.cons rfl (.cons rfl (.cons rfl .nil))) (by repeat (first | exact Off.frame rfl | exact Off.refl _ _ | refine Off.frameT rfl rfl ?_ | refine Off.upd rfl ?_ | refine Off.updO rfl ?_)) (by repeat (first | exact Wk.refl _ | apply Wk.keep1 | apply Wk.drop | apply Wk.sv | apply Wk.svD | apply Wk.appD)) ⟨by dsimp only; omega, by dsimp only; rw [hnx]; unfold wetN dryOf; simp, by dsimp only; rw [hdx]; unfold wetN dryOf; simp, by assumption⟩ (by dsimp only; omega)
      · repeat' (first | (refine Znh ?_) | (refine Zhn ?_) | (refine Zsq fun K hK => ?_) | (with_reducible refine Znl ?_) | (refine ZrN 7 fun _ => ?_; refine Zv Zxlss ?_) | (refine ZrN 8 fun _ => ?_; refine Zv Zia ?_; refine Zv Zld ?_; refine Zv Zai ?_) | (refine ZrN 9 fun _ => ?_; refine Zv Zmi ?_; refine Zv Zxeql ?_) | (refine ZrN 10 fun _ => ?_; refine Zv Zmi ?_; refine Zv Zf0 ?_; refine Zv Zld ?_; refine Zv Zfa ?_; refine Zv ZiA ?_; refine Zv Zld ?_; refine Zv Zxsub ?_; refine Zv Zai ?_) | (refine ZrN 11 fun _ => ?_; refine Zv Zmi ?_; refine Zv Zmi ?_; refine Zv Zxadd ?_; refine Zv Zxmin ?_; refine Zv Zxmax ?_; refine Zv Zai ?_) | (refine ZrN 12 fun _ => ?_; refine Zv Zmv ?_; refine Zv Zmi ?_; refine Zal 47 fun b47 => ?_; refine Zag (fun s48 hs48 => ?_); refine Zv Zav ?_) | (refine ZrN 13 fun _ => ?_; refine Zv Zxadd ?_; refine Zv Zmi ?_) | (refine WP_cond_true rfl ?_) | (refine WP_cond_false rfl ?_) | (refine Zcd (fun hc => ?_) (fun hc => ?_) <;> (try (exfalso; omega))) | (with_reducible apply WP_skip) | (with_reducible apply WP_block) | (with_reducible apply WP_exit) | (with_reducible apply WP_ret) | (with_reducible apply QBlock_normal) | (refine Zhx ?_) | (with_reducible apply QBlock_hit) | (refine Zqb ?_) | (with_reducible apply QLoop_exit) | (refine Zhr ?_) | (with_reducible apply QBlock_ret) | (with_reducible apply QLoop_ret))
        exact QLoop_normal (k + 1, _, _, _) (.cons rfl (.cons rfl (.cons rfl .nil))) (by repeat (first | exact Off.frame rfl | exact Off.refl _ _ | refine Off.frameT rfl rfl ?_ | refine Off.upd rfl ?_ | refine Off.updO rfl ?_)) (by repeat (first | exact Wk.refl _ | apply Wk.keep1 | apply Wk.drop | apply Wk.sv | apply Wk.svD | apply Wk.appD)) ⟨by dsimp only; omega, by dsimp only; rw [hnx]; unfold wetN; rw [if_neg hr0], by dsimp only; rw [hdx]; unfold wetN; rw [if_neg hr0]; rfl, by assumption⟩ (by dsimp only; omega)
    · have hkn : k = rains.length := by omega
      subst hkn
      rw [List.take_length] at hds
      repeat' (first | (refine Znh ?_) | (refine Zhn ?_) | (refine Zsq fun K hK => ?_) | (with_reducible refine Znl ?_) | (refine ZrN 7 fun _ => ?_; refine Zv Zxlss ?_) | (refine ZrN 14 fun _ => ?_; refine Zv Zmv ?_; refine Zv Zmv ?_; refine OPS_newS blk_is (New_buildSliceR rfl rfl (.c1S (by constructor) svV_cells .nil) rfl (by decide) rfl (by decide)) rfl rfl rfl (fun b52 => ?_); refine Zag (fun s53 hs53 => ?_) (h1 := svV_ones); refine Zv Zav ?_) | (refine ZrN 15 fun _ => ?_; refine Zv Zxadd ?_; refine Zv Zmi ?_) | (refine WP_cond_true rfl ?_) | (refine WP_cond_false rfl ?_) | (refine Zcd (fun hc => ?_) (fun hc => ?_) <;> (try (exfalso; omega))) | (with_reducible apply WP_skip) | (with_reducible apply WP_block) | (with_reducible apply WP_exit) | (with_reducible apply WP_ret) | (with_reducible apply QBlock_normal) | (refine Zhx ?_) | (with_reducible apply QBlock_hit) | (refine Zqb ?_) | (with_reducible apply QLoop_exit) | (refine Zhr ?_) | (with_reducible apply QBlock_ret) | (with_reducible apply QLoop_ret))
      refine QLoop_normal (i + 1, svH 3 1 rains.length ds si X, vals ++ [svV si rains.length], s53) (.cons rfl (.cons rfl .nil)) (by repeat (first | exact Off.frame rfl | exact Off.refl _ _ | refine Off.frameT rfl rfl ?_ | refine Off.upd rfl ?_ | refine Off.updO rfl ?_)) ?_ ⟨by dsimp only; omega, by assumption, fun i' row hrow => ?_⟩ (by dsimp only; omega)
      · dsimp only
        rw [← svH_app]
        repeat (first | exact Wk.refl _ | apply Wk.drop | apply Wk.sv | apply Wk.appK)
      · dsimp only
        have hvl : vals.length = i := by have := hso.1; omega
        have hlen : (wetRow g.h first rains i).length = rains.length := wetF_len _ _ _ _
        have hds' : ds = intL (wetRow g.h first rains i) := by unfold wetRow; rw [htf, hfd]; exact hds
        rw [List.range_succ, List.map_append, List.map_singleton] at hrow
        by_cases hil : i' < i
        · rw [List.getElem?_append_left (by simpa using hil)] at hrow
          obtain ⟨u, h1, h2⟩ := hrd i' row hrow
          exact ⟨u, by rw [List.getElem?_append_left (by omega)]; exact h1, h2.wk (Wk.svD (.refl _))⟩
        · rw [List.getElem?_append_right (by simpa using hil)] at hrow
          have hii : i' = i := by
            have := (List.getElem?_eq_some_iff.1 hrow).1
            simp at this; omega
          subst hii
          simp only [List.length_map, List.length_range, Nat.sub_self, List.getElem?_cons_zero, Option.some.injEq] at hrow
          subst hrow
          refine ⟨svV si rains.length, by rw [List.getElem?_append_right (by omega), hvl]; simp, ?_⟩
          have := RdL.sv (E := 3) (s := si) (row := wetRow g.h first rains i') (L := X) (by rw [hlen, ← hds']; exact hsi)
          rw [hlen, ← hds'] at this
          exact this
  · have hin : i = g.h.heaps.length := by omega
    subst hin
    repeat' (first | (refine Znh ?_) | (refine Zhn ?_) | (refine Zsq fun K hK => ?_) | (with_reducible refine Znl ?_) | (refine ZrN 2 fun _ => ?_; refine Zv Zxlss ?_) | (refine ZrN 16 fun _ => ?_; refine Zv Zmv ?_; refine Zv Zav ?_) | (refine WP_cond_true rfl ?_) | (refine WP_cond_false rfl ?_) | (refine Zcd (fun hc => ?_) (fun hc => ?_) <;> (try (exfalso; omega))) | (with_reducible apply WP_skip) | (with_reducible apply WP_block) | (with_reducible apply WP_exit) | (with_reducible apply WP_ret) | (with_reducible apply QBlock_normal) | (refine Zhx ?_) | (with_reducible apply QBlock_hit) | (refine Zqb ?_) | (with_reducible apply QLoop_exit) | (refine Zhr ?_) | (with_reducible apply QBlock_ret) | (with_reducible apply QLoop_ret))
    refine QBody_ret1 rfl rfl ⟨(X ++ svH 52 1 g.h.heaps.length vals so []) ++ L, ?_, _, rfl, X ++ svH 52 1 g.h.heaps.length vals so [], rfl, ?_⟩
    · rw [List.append_assoc, svH_nil]
      exact .appK X (.sv (.drop (.refl _)))
    · have := RdLL.sv (E := 52) (s := so) (vals := vals) (rows := wetL g.h first rains) (X := X) (by rw [wetL_len]; exact hso) hrd
      rw [wetL_len] at this
      refine this.perm ?_
      have h2 := svH_mid (E := 52) (sz := 1) (k := g.h.heaps.length) (xs := vals) (s := so) (X := X) (L := [])
      rwa [List.append_nil] at h2
end
end Go.Proofs.Ytlpahkmfjpjheaa
end

section
namespace Go.Proofs.Ytlpahkmfjpjheaa
open Go.RowKit
attribute [local irreducible] AnyO AnyB QAny QB EWalk AWalk Ev WP OPS QThen QBlock QScope QLoop QBody Val New Turn Tri Enters PostA Blk Ro
attribute [local irreducible] AnyC QC
theorem Val_remE {N : Nat} {w0 : World} {L : Hp} {e : Env} {d : Option Nat} {ty : TypeId} {pos : String} {af : Array Edge} {g : Option (Nat × Bool)} {x y : Operand} {t t' : TypeId} {a b c : Nat} (hc : a % b = c) (hb : 0 < b) (hx : ev e x = .int .i64 (a : Int)) (hy : ev e y = .int .i64 (b : Int)) : Val Try.prog N w0 L e ⟨d, .binOp .rem t x y t', ty, pos, af, g⟩ (.int .i64 (c : Int)) := by
  have := Val_rem (P := Try.prog) (N := N) (w0 := w0) (L := L) (d := d) (ty := ty) (pos := pos) (af := af) (g := g) (t := t) (t' := t') hx hy (by omega)
  have e : ((a : Int).tmod b) = (c : Int) := by rw [Int.tmod_eq_emod_of_nonneg (by omega), ← hc]; omega
  rwa [e] at this
theorem longB_ok {h : Hv} (hl : longB h = false) : h.heaps.length ≤ 40 ∧ h.rains.length ≤ 40 ∧ h.looks.length ≤ 40 := by
  unfold longB at hl
  simp only [decide_eq_false_iff_not] at hl
  omega
section
variable (N : Nat) (w0 : World)
/-- Far too long, or not valid: the examples alone. -/
theorem dry_law0 (L : Hp) (g : Bg) (hA : HeapAt N w0 g) (which at_ : Nat) (h0 : longB g.h = true ∨ vB g.h = false) : Ret Try.prog N w0 L 8 [heapV g, .int .u8 (which : Int), .int .u8 (at_ : Int)].toArray (.bool true) := by
  refine Ret.fgt ?_
  refine tri_of_WP Try.func8 rfl (n := 287) rfl (by simp) ?_
  have h34 := fun L => long_ret N w0 L g
  have h13 := fun L => alive_ret N w0 L
  cases hlong : longB g.h with
  | true =>
    rw [hlong] at h34
    unfold heapV hvL at h34 ⊢
    repeat' (first | (refine Znh ?_) | (refine Zhn ?_) | (refine Zsq fun K hK => ?_) | (with_reducible refine Znl ?_) | (refine ZrN 0 fun _ => ?_; refine Zal 3 fun b3 => ?_; refine Zv Zab ?_) | (refine ZrG 1 ?_; refine Zv Zla ?_; refine Zcl (Enters_fn rfl) (h34 _) ?_; refine Zv Zmb ?_) | (refine Zatd 31 ?_; (first | (refine Zv Zxpt ?_) | (refine Zv Zxpf ?_))) | (refine ZrN 2 fun _ => ?_; refine Zcl (Enters_fn rfl) (h13 _) ?_; refine Zv Zab ?_) | (refine ZrN 4 fun _ => ?_; refine Zv Zla ?_; refine Zv Zmi ?_) | (refine Zatd 45 ?_; refine Zv Zmv ?_; refine Zv Zxex ?_; refine Zv Zxex ?_; refine Zv Zai ?_; refine Zv Zai ?_) | (refine ZrN 5 fun _ => ?_; refine Zv Zla ?_) | (refine Zatd 51 ?_; refine Zv Zmv ?_; refine Zv Zxex ?_; refine Zv Zxex ?_; refine Zv Zai ?_; refine Zv Zai ?_) | (refine ZrN 6 fun _ => ?_; refine Zv Zla ?_; refine Zv Zmi ?_) | (refine Zatd 56 ?_; refine Zv Zmv ?_; refine Zv Zxex ?_; refine Zv Zxex ?_; refine Zv Zxex ?_; refine Zv Zai ?_; refine Zv Zai ?_; refine Zv Zai ?_) | (refine ZrN 7 fun _ => ?_; refine Zv Zmi ?_; refine Zv Zxneq ?_) | (refine ZrG 8 ?_; refine Zv Zmi ?_; refine Zv Zxeql ?_; refine Zv Zmb ?_) | (refine Zatd 71 ?_; (first | (refine Zv Zxpt ?_) | (refine Zv Zxpf ?_)); refine Zv Zmb ?_) | (refine Zatd 76 ?_; (first | (refine Zv Zxpt ?_) | (refine Zv Zxpf ?_)); refine Zv Zmb ?_) | (refine Zatd 80 ?_; (first | (refine Zv Zxpt ?_) | (refine Zv Zxpf ?_)); refine Zv Zmb ?_) | (refine Zatd 84 ?_; (first | (refine Zv Zxpt ?_) | (refine Zv Zxpf ?_)); refine Zv Zmb ?_) | (refine Zatd 88 ?_; (first | (refine Zv Zxpt ?_) | (refine Zv Zxpf ?_)); refine Zv Zmb ?_) | (refine Zatd 92 ?_; (first | (refine Zv Zxpt ?_) | (refine Zv Zxpf ?_)); refine Zv Zmb ?_) | (refine Zatd 95 ?_; (first | (refine Zv Zxpt ?_) | (refine Zv Zxpf ?_)); refine Zv Zab ?_) | (refine ZrN 9 fun _ => ?_; refine Zv Zai ?_; refine Zv Zai ?_) | (refine ZrN 10 fun _ => ?_; refine Zv Zfa ?_; refine Zv Zld ?_; refine Zv Zxlen ?_; refine Zv Zmi ?_) | (refine ZrN 11 fun _ => ?_; refine Zv Zxlss ?_) | (refine ZrN 12 fun _ => ?_; refine Zv Zmi ?_; refine Zv Zai ?_) | (refine ZrN 13 fun _ => ?_; refine Zv Zab ?_) | (refine ZrN 14 fun _ => ?_; refine Zv Zf0 ?_; refine Zv Zld ?_; refine Zv Zxlen ?_; refine Zv Zmi ?_) | (refine ZrN 15 fun _ => ?_; refine Zv Zxlss ?_) | (refine ZrN 16 fun _ => ?_; refine Zv Zmi ?_; refine Zv Zai ?_) | (refine ZrN 17 fun _ => ?_; refine Zv Zla ?_; refine Zv Zmi ?_; refine Zv Zmi ?_) | (refine Zatd 108 ?_; refine Zv Zmv ?_; refine Zv Zxex ?_; refine Zv Zxex ?_; refine Zal 21 fun b21 => ?_; refine Zst ?_; refine Zv Zai ?_) | (refine ZrN 18 fun _ => ?_; refine Zv Zla ?_; refine Zv Zmi ?_; refine Zv Zmi ?_) | (refine Zatd 115 ?_; refine Zv Zmv ?_; refine Zv Zxex ?_; refine Zv Zxex ?_; refine Zv Zai ?_; refine Zv Zai ?_) | (refine ZrG 19 ?_; refine Zv Zmi ?_; refine Zv Zxneq ?_; refine Zv Zmb ?_) | (refine Zatd 127 ?_; (first | (refine Zv Zxpt ?_) | (refine Zv Zxpf ?_)); refine Zv Zmb ?_) | (refine Zatd 137 ?_; (first | (refine Zv Zxpt ?_) | (refine Zv Zxpf ?_)); refine Zv Zmb ?_) | (refine Zatd 147 ?_; (first | (refine Zv Zxpt ?_) | (refine Zv Zxpf ?_)); refine Zv Zmb ?_) | (refine Zatd 151 ?_; (first | (refine Zv Zxpt ?_) | (refine Zv Zxpf ?_)); refine Zv Zmb ?_) | (refine Zatd 155 ?_; (first | (refine Zv Zxpt ?_) | (refine Zv Zxpf ?_))) | (refine ZrN 20 fun _ => ?_; refine Zv Zab ?_) | (refine ZrG 21 ?_; refine Zv Zmi ?_; refine Zv Zmi ?_; refine Zv Zxeql ?_; refine Zv Zmb ?_) | (refine Zatd 162 ?_; (first | (refine Zv Zxpt ?_) | (refine Zv Zxpf ?_)); refine Zv Zmb ?_) | (refine Zatd 166 ?_; (first | (refine Zv Zxpt ?_) | (refine Zv Zxpf ?_))) | (refine ZrN 22 fun _ => ?_; refine Zv Zmi ?_; refine Zv Zai ?_) | (refine ZrG 23 ?_; refine Zv Zmb ?_; refine Zv Zmb ?_) | (refine Zatd 172 ?_; (first | (refine Zv Zxpt ?_) | (refine Zv Zxpf ?_)); refine Zv Zab ?_) | (refine ZrG 24 ?_; refine Zv Zmi ?_; refine Zv Zmi ?_; refine Zv Zxeql ?_; refine Zv Zmb ?_) | (refine Zatd 212 ?_; (first | (refine Zv Zxpt ?_) | (refine Zv Zxpf ?_))) | (refine ZrN 25 fun _ => ?_; refine Zv Zab ?_) | (refine ZrN 26 fun _ => ?_; refine Zv Zxadd ?_; refine Zv Zmi ?_) | (refine ZrG 27 ?_; refine Zv Zmb ?_; refine Zv Zmb ?_) | (refine Zatd 218 ?_; (first | (refine Zv Zxpt ?_) | (refine Zv Zxpf ?_))) | (refine ZrN 28 fun _ => ?_; refine Zv Zmi ?_; refine Zv Zai ?_) | (refine ZrN 29 fun _ => ?_; refine Zv Zxadd ?_; refine Zv Zmi ?_) | (refine ZrG 30 ?_; refine Zv Zmi ?_; refine Zv Zxlss ?_; refine Zv Zmb ?_) | (refine Zatd 229 ?_; (first | (refine Zv Zxpt ?_) | (refine Zv Zxpf ?_)); refine Zv Zmb ?_) | (refine Zatd 236 ?_; (first | (refine Zv Zxpt ?_) | (refine Zv Zxpf ?_)); refine Zv Zmb ?_) | (refine Zatd 245 ?_; (first | (refine Zv Zxpt ?_) | (refine Zv Zxpf ?_)); refine Zv Zmb ?_) | (refine Zatd 257 ?_; (first | (refine Zv Zxpt ?_) | (refine Zv Zxpf ?_))) | (refine ZrN 31 fun _ => ?_; refine Zv Zab ?_) | (refine ZrG 32 ?_; refine Zv Zmi ?_; refine Zv Zxeql ?_; refine Zv Zmi ?_; refine Zv Zxgeq ?_; refine Zv ZxeqlB ?_; refine Zv Zmb ?_) | (refine Zatd 271 ?_; (first | (refine Zv Zxpt ?_) | (refine Zv Zxpf ?_)); refine Zv Zmb ?_) | (refine Zatd 283 ?_; (first | (refine Zv Zxpt ?_) | (refine Zv Zxpf ?_)); refine Zv Zmb ?_) | (refine Zatd 286 ?_; (first | (refine Zv Zxpt ?_) | (refine Zv Zxpf ?_)); refine Zv Zab ?_) | (refine Zatd 28 ?_; refine Zv Zla ?_) | (refine Zatd 30 ?_; refine Zv Zxnot ?_) | (refine Zatd 68 ?_; refine Zv Zmi ?_) | (refine Zatd 69 ?_; refine Zv Zmi ?_) | (refine Zatd 70 ?_; refine Zv Zxeql ?_) | (refine Zatd 73 ?_; refine Zv Zmi ?_) | (refine Zatd 74 ?_; refine Zv Zmi ?_) | (refine Zatd 75 ?_; refine Zv Zxeql ?_) | (refine Zatd 78 ?_; refine Zv Zmi ?_) | (refine Zatd 79 ?_; refine Zv Zxeql ?_) | (refine Zatd 82 ?_; refine Zv Zmi ?_) | (refine Zatd 83 ?_; refine Zv Zxeql ?_) | (refine Zatd 86 ?_; refine Zv Zmi ?_) | (refine Zatd 87 ?_; refine Zv Zxeql ?_) | (refine Zatd 90 ?_; refine Zv Zmi ?_) | (refine Zatd 91 ?_; refine Zv Zxeql ?_) | (refine Zatd 94 ?_; refine Zcl (Enters_fn rfl) (h13 _) ?_) | (refine Zatd 125 ?_; refine Zv Zmi ?_) | (refine Zatd 126 ?_; refine Zv Zxneq ?_) | (refine Zatd 129 ?_; refine Zv Zmi ?_) | (refine Zatd 130 ?_; refine Zv Zxeql ?_) | (refine Zatd 131 ?_; refine Zv Zfa ?_) | (refine Zatd 132 ?_; refine Zv Zld ?_) | (refine Zatd 133 ?_; refine Zv Zfa ?_) | (refine Zatd 134 ?_; refine Zv Zld ?_) | (refine Zatd 135 ?_; refine Zv Zxleq ?_) | (refine Zatd 136 ?_; refine Zv ZxneqB ?_) | (refine Zatd 139 ?_; refine Zv Zmi ?_) | (refine Zatd 140 ?_; refine Zv Zxeql ?_) | (refine Zatd 141 ?_; refine Zv Zf0 ?_) | (refine Zatd 142 ?_; refine Zv Zld ?_) | (refine Zatd 143 ?_; refine Zv Zfa ?_) | (refine Zatd 144 ?_; refine Zv Zld ?_) | (refine Zatd 145 ?_; refine Zv Zxgtr ?_) | (refine Zatd 146 ?_; refine Zv ZxneqB ?_) | (refine Zatd 149 ?_; refine Zv Zmi ?_) | (refine Zatd 150 ?_; refine Zv Zxlss ?_) | (refine Zatd 153 ?_; refine Zv Zmi ?_) | (refine Zatd 154 ?_; refine Zv Zxgtr ?_) | (refine Zatd 160 ?_; refine Zv Zmi ?_) | (refine Zatd 161 ?_; refine Zv Zxlss ?_) | (refine Zatd 164 ?_; refine Zv Zmi ?_) | (refine Zatd 165 ?_; refine Zv Zxeql ?_) | (refine Zatd 170 ?_; refine Zv Zmi ?_) | (refine Zatd 171 ?_; refine Zv Zxeql ?_) | (refine Zatd 177 ?_; refine Zv Zfa ?_) | (refine Zatd 178 ?_; refine Zv Zld ?_) | (refine Zatd 179 ?_; refine Zv Zf0 ?_) | (refine Zatd 180 ?_; refine Zv Zld ?_) | (refine Zatd 181 ?_; refine Zv Zxsub ?_) | (refine Zatd 182 ?_; refine Zv Zmi ?_) | (refine Zatd 183 ?_; refine Zv Zxgtr ?_) | (refine Zatd 184 ?_; refine Zv Zmb ?_) | (refine Zatd 185 ?_; refine Zv Zfa ?_) | (refine Zatd 186 ?_; refine Zv Zld ?_) | (refine Zatd 187 ?_; refine Zv Zf0 ?_) | (refine Zatd 188 ?_; refine Zv Zld ?_) | (refine Zatd 189 ?_; refine Zv Zxsub ?_) | (refine Zatd 190 ?_; refine Zv Zmi ?_) | (refine Zatd 191 ?_; refine Zv Zxeql ?_) | (refine Zatd 192 ?_; refine Zv Zmb ?_) | (refine Zatd 193 ?_; refine Zv Zmi ?_) | (refine Zatd 194 ?_; refine Zv Zmi ?_) | (refine Zatd 195 ?_; refine Zv Zxlss ?_) | (refine Zatd 196 ?_; refine Zv Zxpt ?_) | (refine Zatd 196 ?_; refine Zv Zxpf ?_) | (refine Zatd 197 ?_; refine Zv Zxpt ?_) | (refine Zatd 197 ?_; refine Zv Zxpf ?_) | (refine Zatd 198 ?_; refine Zv Zmb ?_) | (refine Zatd 199 ?_; refine Zv Zmi ?_) | (refine Zatd 200 ?_; refine Zv Zmi ?_) | (refine Zatd 201 ?_; refine Zv Zxeql ?_) | (refine Zatd 202 ?_; refine Zv Zmb ?_) | (refine Zatd 203 ?_; refine Zv Zfa ?_) | (refine Zatd 204 ?_; refine Zv Zld ?_) | (refine Zatd 205 ?_; refine Zv Zf0 ?_) | (refine Zatd 206 ?_; refine Zv Zld ?_) | (refine Zatd 207 ?_; refine Zv Zxsub ?_) | (refine Zatd 208 ?_; refine Zv Zmi ?_) | (refine Zatd 209 ?_; refine Zv Zxneq ?_) | (refine Zatd 210 ?_; refine Zv Zxpt ?_) | (refine Zatd 210 ?_; refine Zv Zxpf ?_) | (refine Zatd 211 ?_; refine Zv Zxpt ?_) | (refine Zatd 211 ?_; refine Zv Zxpf ?_) | (refine Zatd 216 ?_; refine Zv Zmi ?_) | (refine Zatd 217 ?_; refine Zv Zxlss ?_) | (refine Zatd 224 ?_; refine Zv Zmi ?_) | (refine Zatd 225 ?_; refine Zv Zf0 ?_) | (refine Zatd 226 ?_; refine Zv Zld ?_) | (refine Zatd 227 ?_; refine Zv Zxlen ?_) | (refine Zatd 228 ?_; refine Zv Zxgeq ?_) | (refine Zatd 231 ?_; refine Zv Zmi ?_) | (refine Zatd 232 ?_; refine Zv Zxeql ?_) | (refine Zatd 233 ?_; refine Zv Zmi ?_) | (refine Zatd 234 ?_; refine Zv Zxgeq ?_) | (refine Zatd 235 ?_; refine Zv ZxneqB ?_) | (refine Zatd 238 ?_; refine Zv Zmi ?_) | (refine Zatd 239 ?_; refine Zv Zxeql ?_) | (refine Zatd 240 ?_; refine Zv Zmb ?_) | (refine Zatd 241 ?_; refine Zv Zmi ?_) | (refine Zatd 242 ?_; refine Zv Zmi ?_) | (refine Zatd 243 ?_; refine Zv Zxneq ?_) | (refine Zatd 244 ?_; refine Zv Zxpt ?_) | (refine Zatd 244 ?_; refine Zv Zxpf ?_) | (refine Zatd 247 ?_; refine Zv Zmi ?_) | (refine Zatd 248 ?_; refine Zv Zxneq ?_) | (refine Zatd 249 ?_; refine Zv Zmb ?_) | (refine Zatd 250 ?_; refine Zv Zmi ?_) | (refine Zatd 251 ?_; refine Zv Zxneq ?_) | (refine Zatd 252 ?_; refine Zv Zmb ?_) | (refine Zatd 253 ?_; refine Zv Zmi ?_) | (refine Zatd 254 ?_; refine Zv Zxneq ?_) | (refine Zatd 255 ?_; refine Zv Zxpt ?_) | (refine Zatd 255 ?_; refine Zv Zxpf ?_) | (refine Zatd 256 ?_; refine Zv Zxpt ?_) | (refine Zatd 256 ?_; refine Zv Zxpf ?_) | (refine Zatd 264 ?_; refine Zv Zmi ?_) | (refine Zatd 265 ?_; refine Zv Zxneq ?_) | (refine Zatd 266 ?_; refine Zv Zmb ?_) | (refine Zatd 267 ?_; refine Zv Zmi ?_) | (refine Zatd 268 ?_; refine Zv Zmi ?_) | (refine Zatd 269 ?_; refine Zv Zxeql ?_) | (refine Zatd 270 ?_; refine Zv Zxpt ?_) | (refine Zatd 270 ?_; refine Zv Zxpf ?_) | (refine Zatd 273 ?_; refine Zv Zmi ?_) | (refine Zatd 274 ?_; refine Zv Zxeql ?_) | (refine Zatd 275 ?_; refine Zv Zmb ?_) | (refine Zatd 276 ?_; refine Zv Zmi ?_) | (refine Zatd 277 ?_; refine Zv Zxeql ?_) | (refine Zatd 278 ?_; refine Zv Zmb ?_) | (refine Zatd 279 ?_; refine Zv Zmi ?_) | (refine Zatd 280 ?_; refine Zv Zxeql ?_) | (refine Zatd 281 ?_; refine Zv Zxpt ?_) | (refine Zatd 281 ?_; refine Zv Zxpf ?_) | (refine Zatd 282 ?_; refine Zv Zxpt ?_) | (refine Zatd 282 ?_; refine Zv Zxpf ?_) | (refine Zatd 285 ?_; refine Zcl (Enters_fn rfl) (h13 _) ?_) | (refine Zsk ?_) | (refine Zsp (fun hc => ?_) (fun hc => ?_) <;> (try (exfalso; omega))) | (refine WP_cond_true rfl ?_) | (refine WP_cond_false rfl ?_) | (refine Zcd (fun hc => ?_) (fun hc => ?_) <;> (try (exfalso; omega))) | (with_reducible apply WP_skip) | (with_reducible apply WP_block) | (with_reducible apply WP_exit) | (with_reducible apply WP_ret) | (with_reducible apply QBlock_normal) | (refine Zhx ?_) | (with_reducible apply QBlock_hit) | (refine Zqb ?_) | (with_reducible apply QLoop_exit) | (refine Zhr ?_) | (with_reducible apply QBlock_ret) | (with_reducible apply QLoop_ret) | (refine WP_drawn (id := 3) [0, 1, 2, 3, 4, 5, 6, 7, 8, 9, 10, 11, 12, 13] [] (k := 0) prog_mixed (by kernel_rfl) rfl ?_; refine Zew rfl Zmi ?_; refine Zew rfl Zxco ?_; refine Zew rfl Zf0 ?_; refine Zew rfl Zld ?_; refine Zew rfl Zxlen ?_; refine Zew rfl Zxrem ?_; refine Zew rfl Zmi ?_; refine Zew rfl Zxco ?_; refine Zew rfl Zfa ?_; refine Zew rfl Zld ?_; refine Zew rfl Zxlen ?_; refine Zew rfl Zxrem ?_; refine Zew rfl Zai ?_; refine Zew rfl Zai ?_) | (with_reducible apply EWalk_nil) | (refine AWalk_0 ?_; refine ZisO ?_; apply shr; intro key) | (refine AnyO_done (by kernel_rfl) ?_; (try with_reducible apply noP_normal); try with_reducible exact key.out) | (with_reducible apply QAny_normal))
    exact QBody_ret1 rfl (rfl : _ = Value.bool _) ⟨rfl, (by repeat (first | exact Wk.refl _ | apply Wk.keep1 | apply Wk.drop | apply Wk.sv | apply Wk.svD | apply Wk.appD))⟩
  | false =>
    obtain ⟨l1, l2, l3⟩ := longB_ok hlong
    have h35 := fun L => Heaps_ret N w0 L g hA (by omega) (by omega) (by omega)
    have hvb : vB g.h = false := by rcases h0 with h0 | h0; rw [hlong] at h0; cases h0; exact h0
    rw [hlong] at h34
    rw [hvb] at h35
    unfold heapV hvL at h34 h35 ⊢
    repeat' (first | (refine Znh ?_) | (refine Zhn ?_) | (refine Zsq fun K hK => ?_) | (with_reducible refine Znl ?_) | (refine ZrN 0 fun _ => ?_; refine Zal 3 fun b3 => ?_; refine Zv Zab ?_) | (refine ZrG 1 ?_; refine Zv Zla ?_; refine Zcl (Enters_fn rfl) (h34 _) ?_; refine Zv Zmb ?_) | (refine Zatd 31 ?_; (first | (refine Zv Zxpt ?_) | (refine Zv Zxpf ?_))) | (refine ZrN 2 fun _ => ?_; refine Zcl (Enters_fn rfl) (h13 _) ?_; refine Zv Zab ?_) | (refine ZrN 4 fun _ => ?_; refine Zv Zla ?_; refine Zv Zmi ?_) | (refine Zatd 45 ?_; refine Zv Zmv ?_; refine Zv Zxex ?_; refine Zv Zxex ?_; refine Zv Zai ?_; refine Zv Zai ?_) | (refine ZrN 5 fun _ => ?_; refine Zv Zla ?_) | (refine Zatd 51 ?_; refine Zv Zmv ?_; refine Zv Zxex ?_; refine Zv Zxex ?_; refine Zv Zai ?_; refine Zv Zai ?_) | (refine ZrN 6 fun _ => ?_; refine Zv Zla ?_; refine Zv Zmi ?_) | (refine Zatd 56 ?_; refine Zv Zmv ?_; refine Zv Zxex ?_; refine Zv Zxex ?_; refine Zv Zxex ?_; refine Zv Zai ?_; refine Zv Zai ?_; refine Zv Zai ?_) | (refine ZrN 7 fun _ => ?_; refine Zv Zmi ?_; refine Zv Zxneq ?_) | (refine ZrG 8 ?_; refine Zv Zmi ?_; refine Zv Zxeql ?_; refine Zv Zmb ?_) | (refine Zatd 71 ?_; (first | (refine Zv Zxpt ?_) | (refine Zv Zxpf ?_)); refine Zv Zmb ?_) | (refine Zatd 76 ?_; (first | (refine Zv Zxpt ?_) | (refine Zv Zxpf ?_)); refine Zv Zmb ?_) | (refine Zatd 80 ?_; (first | (refine Zv Zxpt ?_) | (refine Zv Zxpf ?_)); refine Zv Zmb ?_) | (refine Zatd 84 ?_; (first | (refine Zv Zxpt ?_) | (refine Zv Zxpf ?_)); refine Zv Zmb ?_) | (refine Zatd 88 ?_; (first | (refine Zv Zxpt ?_) | (refine Zv Zxpf ?_)); refine Zv Zmb ?_) | (refine Zatd 92 ?_; (first | (refine Zv Zxpt ?_) | (refine Zv Zxpf ?_)); refine Zv Zmb ?_) | (refine Zatd 95 ?_; (first | (refine Zv Zxpt ?_) | (refine Zv Zxpf ?_)); refine Zv Zab ?_) | (refine ZrN 9 fun _ => ?_; refine Zv Zai ?_; refine Zv Zai ?_) | (refine ZrN 10 fun _ => ?_; refine Zv Zfa ?_; refine Zv Zld ?_; refine Zv Zxlen ?_; refine Zv Zmi ?_) | (refine ZrN 11 fun _ => ?_; refine Zv Zxlss ?_) | (refine ZrN 12 fun _ => ?_; refine Zv Zmi ?_; refine Zv Zai ?_) | (refine ZrN 13 fun _ => ?_; refine Zv Zab ?_) | (refine ZrN 14 fun _ => ?_; refine Zv Zf0 ?_; refine Zv Zld ?_; refine Zv Zxlen ?_; refine Zv Zmi ?_) | (refine ZrN 15 fun _ => ?_; refine Zv Zxlss ?_) | (refine ZrN 16 fun _ => ?_; refine Zv Zmi ?_; refine Zv Zai ?_) | (refine ZrN 17 fun _ => ?_; refine Zv Zla ?_; refine Zv Zmi ?_; refine Zv Zmi ?_) | (refine Zatd 108 ?_; refine Zv Zmv ?_; refine Zv Zxex ?_; refine Zv Zxex ?_; refine Zal 21 fun b21 => ?_; refine Zst ?_; refine Zv Zai ?_) | (refine ZrN 18 fun _ => ?_; refine Zv Zla ?_; refine Zv Zmi ?_; refine Zv Zmi ?_) | (refine Zatd 115 ?_; refine Zv Zmv ?_; refine Zv Zxex ?_; refine Zv Zxex ?_; refine Zv Zai ?_; refine Zv Zai ?_) | (refine ZrG 19 ?_; refine Zv Zmi ?_; refine Zv Zxneq ?_; refine Zv Zmb ?_) | (refine Zatd 127 ?_; (first | (refine Zv Zxpt ?_) | (refine Zv Zxpf ?_)); refine Zv Zmb ?_) | (refine Zatd 137 ?_; (first | (refine Zv Zxpt ?_) | (refine Zv Zxpf ?_)); refine Zv Zmb ?_) | (refine Zatd 147 ?_; (first | (refine Zv Zxpt ?_) | (refine Zv Zxpf ?_)); refine Zv Zmb ?_) | (refine Zatd 151 ?_; (first | (refine Zv Zxpt ?_) | (refine Zv Zxpf ?_)); refine Zv Zmb ?_) | (refine Zatd 155 ?_; (first | (refine Zv Zxpt ?_) | (refine Zv Zxpf ?_))) | (refine ZrN 20 fun _ => ?_; refine Zv Zab ?_) | (refine ZrG 21 ?_; refine Zv Zmi ?_; refine Zv Zmi ?_; refine Zv Zxeql ?_; refine Zv Zmb ?_) | (refine Zatd 162 ?_; (first | (refine Zv Zxpt ?_) | (refine Zv Zxpf ?_)); refine Zv Zmb ?_) | (refine Zatd 166 ?_; (first | (refine Zv Zxpt ?_) | (refine Zv Zxpf ?_))) | (refine ZrN 22 fun _ => ?_; refine Zv Zmi ?_; refine Zv Zai ?_) | (refine ZrG 23 ?_; refine Zv Zmb ?_; refine Zv Zmb ?_) | (refine Zatd 172 ?_; (first | (refine Zv Zxpt ?_) | (refine Zv Zxpf ?_)); refine Zv Zab ?_) | (refine ZrG 24 ?_; refine Zv Zmi ?_; refine Zv Zmi ?_; refine Zv Zxeql ?_; refine Zv Zmb ?_) | (refine Zatd 212 ?_; (first | (refine Zv Zxpt ?_) | (refine Zv Zxpf ?_))) | (refine ZrN 25 fun _ => ?_; refine Zv Zab ?_) | (refine ZrN 26 fun _ => ?_; refine Zv Zxadd ?_; refine Zv Zmi ?_) | (refine ZrG 27 ?_; refine Zv Zmb ?_; refine Zv Zmb ?_) | (refine Zatd 218 ?_; (first | (refine Zv Zxpt ?_) | (refine Zv Zxpf ?_))) | (refine ZrN 28 fun _ => ?_; refine Zv Zmi ?_; refine Zv Zai ?_) | (refine ZrN 29 fun _ => ?_; refine Zv Zxadd ?_; refine Zv Zmi ?_) | (refine ZrG 30 ?_; refine Zv Zmi ?_; refine Zv Zxlss ?_; refine Zv Zmb ?_) | (refine Zatd 229 ?_; (first | (refine Zv Zxpt ?_) | (refine Zv Zxpf ?_)); refine Zv Zmb ?_) | (refine Zatd 236 ?_; (first | (refine Zv Zxpt ?_) | (refine Zv Zxpf ?_)); refine Zv Zmb ?_) | (refine Zatd 245 ?_; (first | (refine Zv Zxpt ?_) | (refine Zv Zxpf ?_)); refine Zv Zmb ?_) | (refine Zatd 257 ?_; (first | (refine Zv Zxpt ?_) | (refine Zv Zxpf ?_))) | (refine ZrN 31 fun _ => ?_; refine Zv Zab ?_) | (refine ZrG 32 ?_; refine Zv Zmi ?_; refine Zv Zxeql ?_; refine Zv Zmi ?_; refine Zv Zxgeq ?_; refine Zv ZxeqlB ?_; refine Zv Zmb ?_) | (refine Zatd 271 ?_; (first | (refine Zv Zxpt ?_) | (refine Zv Zxpf ?_)); refine Zv Zmb ?_) | (refine Zatd 283 ?_; (first | (refine Zv Zxpt ?_) | (refine Zv Zxpf ?_)); refine Zv Zmb ?_) | (refine Zatd 286 ?_; (first | (refine Zv Zxpt ?_) | (refine Zv Zxpf ?_)); refine Zv Zab ?_) | (refine Zatd 28 ?_; refine Zv Zla ?_) | (refine Zatd 29 ?_; refine Zcl (Enters_fn rfl) (h35 _) ?_) | (refine Zatd 30 ?_; refine Zv Zxnot ?_) | (refine Zatd 68 ?_; refine Zv Zmi ?_) | (refine Zatd 69 ?_; refine Zv Zmi ?_) | (refine Zatd 70 ?_; refine Zv Zxeql ?_) | (refine Zatd 73 ?_; refine Zv Zmi ?_) | (refine Zatd 74 ?_; refine Zv Zmi ?_) | (refine Zatd 75 ?_; refine Zv Zxeql ?_) | (refine Zatd 78 ?_; refine Zv Zmi ?_) | (refine Zatd 79 ?_; refine Zv Zxeql ?_) | (refine Zatd 82 ?_; refine Zv Zmi ?_) | (refine Zatd 83 ?_; refine Zv Zxeql ?_) | (refine Zatd 86 ?_; refine Zv Zmi ?_) | (refine Zatd 87 ?_; refine Zv Zxeql ?_) | (refine Zatd 90 ?_; refine Zv Zmi ?_) | (refine Zatd 91 ?_; refine Zv Zxeql ?_) | (refine Zatd 94 ?_; refine Zcl (Enters_fn rfl) (h13 _) ?_) | (refine Zatd 125 ?_; refine Zv Zmi ?_) | (refine Zatd 126 ?_; refine Zv Zxneq ?_) | (refine Zatd 129 ?_; refine Zv Zmi ?_) | (refine Zatd 130 ?_; refine Zv Zxeql ?_) | (refine Zatd 131 ?_; refine Zv Zfa ?_) | (refine Zatd 132 ?_; refine Zv Zld ?_) | (refine Zatd 133 ?_; refine Zv Zfa ?_) | (refine Zatd 134 ?_; refine Zv Zld ?_) | (refine Zatd 135 ?_; refine Zv Zxleq ?_) | (refine Zatd 136 ?_; refine Zv ZxneqB ?_) | (refine Zatd 139 ?_; refine Zv Zmi ?_) | (refine Zatd 140 ?_; refine Zv Zxeql ?_) | (refine Zatd 141 ?_; refine Zv Zf0 ?_) | (refine Zatd 142 ?_; refine Zv Zld ?_) | (refine Zatd 143 ?_; refine Zv Zfa ?_) | (refine Zatd 144 ?_; refine Zv Zld ?_) | (refine Zatd 145 ?_; refine Zv Zxgtr ?_) | (refine Zatd 146 ?_; refine Zv ZxneqB ?_) | (refine Zatd 149 ?_; refine Zv Zmi ?_) | (refine Zatd 150 ?_; refine Zv Zxlss ?_) | (refine Zatd 153 ?_; refine Zv Zmi ?_) | (refine Zatd 154 ?_; refine Zv Zxgtr ?_) | (refine Zatd 160 ?_; refine Zv Zmi ?_) | (refine Zatd 161 ?_; refine Zv Zxlss ?_) | (refine Zatd 164 ?_; refine Zv Zmi ?_) | (refine Zatd 165 ?_; refine Zv Zxeql ?_) | (refine Zatd 170 ?_; refine Zv Zmi ?_) | (refine Zatd 171 ?_; refine Zv Zxeql ?_) | (refine Zatd 177 ?_; refine Zv Zfa ?_) | (refine Zatd 178 ?_; refine Zv Zld ?_) | (refine Zatd 179 ?_; refine Zv Zf0 ?_) | (refine Zatd 180 ?_; refine Zv Zld ?_) | (refine Zatd 181 ?_; refine Zv Zxsub ?_) | (refine Zatd 182 ?_; refine Zv Zmi ?_) | (refine Zatd 183 ?_; refine Zv Zxgtr ?_) | (refine Zatd 184 ?_; refine Zv Zmb ?_) | (refine Zatd 185 ?_; refine Zv Zfa ?_) | (refine Zatd 186 ?_; refine Zv Zld ?_) | (refine Zatd 187 ?_; refine Zv Zf0 ?_) | (refine Zatd 188 ?_; refine Zv Zld ?_) | (refine Zatd 189 ?_; refine Zv Zxsub ?_) | (refine Zatd 190 ?_; refine Zv Zmi ?_) | (refine Zatd 191 ?_; refine Zv Zxeql ?_) | (refine Zatd 192 ?_; refine Zv Zmb ?_) | (refine Zatd 193 ?_; refine Zv Zmi ?_) | (refine Zatd 194 ?_; refine Zv Zmi ?_) | (refine Zatd 195 ?_; refine Zv Zxlss ?_) | (refine Zatd 196 ?_; refine Zv Zxpt ?_) | (refine Zatd 196 ?_; refine Zv Zxpf ?_) | (refine Zatd 197 ?_; refine Zv Zxpt ?_) | (refine Zatd 197 ?_; refine Zv Zxpf ?_) | (refine Zatd 198 ?_; refine Zv Zmb ?_) | (refine Zatd 199 ?_; refine Zv Zmi ?_) | (refine Zatd 200 ?_; refine Zv Zmi ?_) | (refine Zatd 201 ?_; refine Zv Zxeql ?_) | (refine Zatd 202 ?_; refine Zv Zmb ?_) | (refine Zatd 203 ?_; refine Zv Zfa ?_) | (refine Zatd 204 ?_; refine Zv Zld ?_) | (refine Zatd 205 ?_; refine Zv Zf0 ?_) | (refine Zatd 206 ?_; refine Zv Zld ?_) | (refine Zatd 207 ?_; refine Zv Zxsub ?_) | (refine Zatd 208 ?_; refine Zv Zmi ?_) | (refine Zatd 209 ?_; refine Zv Zxneq ?_) | (refine Zatd 210 ?_; refine Zv Zxpt ?_) | (refine Zatd 210 ?_; refine Zv Zxpf ?_) | (refine Zatd 211 ?_; refine Zv Zxpt ?_) | (refine Zatd 211 ?_; refine Zv Zxpf ?_) | (refine Zatd 216 ?_; refine Zv Zmi ?_) | (refine Zatd 217 ?_; refine Zv Zxlss ?_) | (refine Zatd 224 ?_; refine Zv Zmi ?_) | (refine Zatd 225 ?_; refine Zv Zf0 ?_) | (refine Zatd 226 ?_; refine Zv Zld ?_) | (refine Zatd 227 ?_; refine Zv Zxlen ?_) | (refine Zatd 228 ?_; refine Zv Zxgeq ?_) | (refine Zatd 231 ?_; refine Zv Zmi ?_) | (refine Zatd 232 ?_; refine Zv Zxeql ?_) | (refine Zatd 233 ?_; refine Zv Zmi ?_) | (refine Zatd 234 ?_; refine Zv Zxgeq ?_) | (refine Zatd 235 ?_; refine Zv ZxneqB ?_) | (refine Zatd 238 ?_; refine Zv Zmi ?_) | (refine Zatd 239 ?_; refine Zv Zxeql ?_) | (refine Zatd 240 ?_; refine Zv Zmb ?_) | (refine Zatd 241 ?_; refine Zv Zmi ?_) | (refine Zatd 242 ?_; refine Zv Zmi ?_) | (refine Zatd 243 ?_; refine Zv Zxneq ?_) | (refine Zatd 244 ?_; refine Zv Zxpt ?_) | (refine Zatd 244 ?_; refine Zv Zxpf ?_) | (refine Zatd 247 ?_; refine Zv Zmi ?_) | (refine Zatd 248 ?_; refine Zv Zxneq ?_) | (refine Zatd 249 ?_; refine Zv Zmb ?_) | (refine Zatd 250 ?_; refine Zv Zmi ?_) | (refine Zatd 251 ?_; refine Zv Zxneq ?_) | (refine Zatd 252 ?_; refine Zv Zmb ?_) | (refine Zatd 253 ?_; refine Zv Zmi ?_) | (refine Zatd 254 ?_; refine Zv Zxneq ?_) | (refine Zatd 255 ?_; refine Zv Zxpt ?_) | (refine Zatd 255 ?_; refine Zv Zxpf ?_) | (refine Zatd 256 ?_; refine Zv Zxpt ?_) | (refine Zatd 256 ?_; refine Zv Zxpf ?_) | (refine Zatd 264 ?_; refine Zv Zmi ?_) | (refine Zatd 265 ?_; refine Zv Zxneq ?_) | (refine Zatd 266 ?_; refine Zv Zmb ?_) | (refine Zatd 267 ?_; refine Zv Zmi ?_) | (refine Zatd 268 ?_; refine Zv Zmi ?_) | (refine Zatd 269 ?_; refine Zv Zxeql ?_) | (refine Zatd 270 ?_; refine Zv Zxpt ?_) | (refine Zatd 270 ?_; refine Zv Zxpf ?_) | (refine Zatd 273 ?_; refine Zv Zmi ?_) | (refine Zatd 274 ?_; refine Zv Zxeql ?_) | (refine Zatd 275 ?_; refine Zv Zmb ?_) | (refine Zatd 276 ?_; refine Zv Zmi ?_) | (refine Zatd 277 ?_; refine Zv Zxeql ?_) | (refine Zatd 278 ?_; refine Zv Zmb ?_) | (refine Zatd 279 ?_; refine Zv Zmi ?_) | (refine Zatd 280 ?_; refine Zv Zxeql ?_) | (refine Zatd 281 ?_; refine Zv Zxpt ?_) | (refine Zatd 281 ?_; refine Zv Zxpf ?_) | (refine Zatd 282 ?_; refine Zv Zxpt ?_) | (refine Zatd 282 ?_; refine Zv Zxpf ?_) | (refine Zatd 285 ?_; refine Zcl (Enters_fn rfl) (h13 _) ?_) | (refine Zsk ?_) | (refine Zsp (fun hc => ?_) (fun hc => ?_) <;> (try (exfalso; omega))) | (refine WP_cond_true rfl ?_) | (refine WP_cond_false rfl ?_) | (refine Zcd (fun hc => ?_) (fun hc => ?_) <;> (try (exfalso; omega))) | (with_reducible apply WP_skip) | (with_reducible apply WP_block) | (with_reducible apply WP_exit) | (with_reducible apply WP_ret) | (with_reducible apply QBlock_normal) | (refine Zhx ?_) | (with_reducible apply QBlock_hit) | (refine Zqb ?_) | (with_reducible apply QLoop_exit) | (refine Zhr ?_) | (with_reducible apply QBlock_ret) | (with_reducible apply QLoop_ret) | (refine WP_drawn (id := 3) [0, 1, 2, 3, 4, 5, 6, 7, 8, 9, 10, 11, 12, 13] [] (k := 0) prog_mixed (by kernel_rfl) rfl ?_; refine Zew rfl Zmi ?_; refine Zew rfl Zxco ?_; refine Zew rfl Zf0 ?_; refine Zew rfl Zld ?_; refine Zew rfl Zxlen ?_; refine Zew rfl Zxrem ?_; refine Zew rfl Zmi ?_; refine Zew rfl Zxco ?_; refine Zew rfl Zfa ?_; refine Zew rfl Zld ?_; refine Zew rfl Zxlen ?_; refine Zew rfl Zxrem ?_; refine Zew rfl Zai ?_; refine Zew rfl Zai ?_) | (with_reducible apply EWalk_nil) | (refine AWalk_0 ?_; refine ZisO ?_; apply shr; intro key) | (refine AnyO_done (by kernel_rfl) ?_; (try with_reducible apply noP_normal); try with_reducible exact key.out) | (with_reducible apply QAny_normal))
    exact QBody_ret1 rfl (rfl : _ = Value.bool _) ⟨rfl, (by repeat (first | exact Wk.refl _ | apply Wk.keep1 | apply Wk.drop | apply Wk.sv | apply Wk.svD | apply Wk.appD))⟩
end
end Go.Proofs.Ytlpahkmfjpjheaa
end

section
namespace Go.Proofs.Ytlpahkmfjpjheaa
open Go.RowKit
attribute [local irreducible] AnyO AnyB QAny QB EWalk AWalk Ev WP OPS QThen QBlock QScope QLoop QBody Val New Turn Tri Enters PostA Blk Ro
attribute [local irreducible] AnyC QC
section
variable (N : Nat) (w0 : World)
theorem high_law0 (L : Hp) (g : Bg) (hA : HeapAt N w0 g) (low high wet : Nat) (h0 : longB g.h = true ∨ vB g.h = false) : Ret Try.prog N w0 L 9 [heapV g, .int .u8 (low : Int), .int .u8 (high : Int), .int .u8 (wet : Int)].toArray (.bool true) := by
  refine Ret.fgt ?_
  refine tri_of_WP Try.func9 rfl (n := 212) rfl (by simp) ?_
  have h34 := fun L => long_ret N w0 L g
  have h13 := fun L => alive_ret N w0 L
  cases hlong : longB g.h with
  | true =>
    rw [hlong] at h34
    unfold heapV hvL at h34 ⊢
    repeat' (first | (refine Znh ?_) | (refine Zhn ?_) | (refine Zsq fun K hK => ?_) | (with_reducible refine Znl ?_) | (refine ZrN 0 fun _ => ?_; refine Zal 4 fun b4 => ?_; refine Zv Zab ?_) | (refine ZrG 1 ?_; refine Zv Zla ?_; refine Zcl (Enters_fn rfl) (h34 _) ?_; refine Zv Zmb ?_) | (refine Zatd 36 ?_; (first | (refine Zv Zxpt ?_) | (refine Zv Zxpf ?_))) | (refine ZrN 2 fun _ => ?_; refine Zcl (Enters_fn rfl) (h13 _) ?_; refine Zv Zab ?_) | (refine Zatd 33 ?_; refine Zv Zla ?_) | (refine Zatd 35 ?_; refine Zv Zxnot ?_) | (refine Zsk ?_) | (refine Zsp (fun hc => ?_) (fun hc => ?_) <;> (try (exfalso; omega))) | (refine WP_cond_true rfl ?_) | (refine WP_cond_false rfl ?_) | (refine Zcd (fun hc => ?_) (fun hc => ?_) <;> (try (exfalso; omega))) | (with_reducible apply WP_skip) | (with_reducible apply WP_block) | (with_reducible apply WP_exit) | (with_reducible apply WP_ret) | (with_reducible apply QBlock_normal) | (refine Zhx ?_) | (with_reducible apply QBlock_hit) | (refine Zqb ?_) | (with_reducible apply QLoop_exit) | (refine Zhr ?_) | (with_reducible apply QBlock_ret) | (with_reducible apply QLoop_ret))
    exact QBody_ret1 rfl (rfl : _ = Value.bool _) ⟨rfl, (by repeat (first | exact Wk.refl _ | apply Wk.keep1 | apply Wk.drop | apply Wk.sv | apply Wk.svD | apply Wk.appD))⟩
  | false =>
    obtain ⟨l1, l2, l3⟩ := longB_ok hlong
    have h35 := fun L => Heaps_ret N w0 L g hA (by omega) (by omega) (by omega)
    have hvb : vB g.h = false := by rcases h0 with h0 | h0; rw [hlong] at h0; cases h0; exact h0
    rw [hlong] at h34
    rw [hvb] at h35
    unfold heapV hvL at h34 h35 ⊢
    repeat' (first | (refine Znh ?_) | (refine Zhn ?_) | (refine Zsq fun K hK => ?_) | (with_reducible refine Znl ?_) | (refine ZrN 0 fun _ => ?_; refine Zal 4 fun b4 => ?_; refine Zv Zab ?_) | (refine ZrG 1 ?_; refine Zv Zla ?_; refine Zcl (Enters_fn rfl) (h34 _) ?_; refine Zv Zmb ?_) | (refine Zatd 36 ?_; (first | (refine Zv Zxpt ?_) | (refine Zv Zxpf ?_))) | (refine ZrN 2 fun _ => ?_; refine Zcl (Enters_fn rfl) (h13 _) ?_; refine Zv Zab ?_) | (refine Zatd 33 ?_; refine Zv Zla ?_) | (refine Zatd 34 ?_; refine Zcl (Enters_fn rfl) (h35 _) ?_) | (refine Zatd 35 ?_; refine Zv Zxnot ?_) | (refine Zsk ?_) | (refine Zsp (fun hc => ?_) (fun hc => ?_) <;> (try (exfalso; omega))) | (refine WP_cond_true rfl ?_) | (refine WP_cond_false rfl ?_) | (refine Zcd (fun hc => ?_) (fun hc => ?_) <;> (try (exfalso; omega))) | (with_reducible apply WP_skip) | (with_reducible apply WP_block) | (with_reducible apply WP_exit) | (with_reducible apply WP_ret) | (with_reducible apply QBlock_normal) | (refine Zhx ?_) | (with_reducible apply QBlock_hit) | (refine Zqb ?_) | (with_reducible apply QLoop_exit) | (refine Zhr ?_) | (with_reducible apply QBlock_ret) | (with_reducible apply QLoop_ret))
    exact QBody_ret1 rfl (rfl : _ = Value.bool _) ⟨rfl, (by repeat (first | exact Wk.refl _ | apply Wk.keep1 | apply Wk.drop | apply Wk.sv | apply Wk.svD | apply Wk.appD))⟩
/-- The two heaps, laid anew. -/
def g1 (g : Bg) (b : Nat) (x : Hv) : Bg := { g with h := x, A1 := some ⟨b, 0, none⟩, c1 := 2, A3 := none, c3 := 0 }
theorem in_g1 {L : Hp} {g : Bg} (hA : HeapAt N w0 g) {b : Nat} {x : Hv} (hr : x.rains = g.h.rains) (hl : x.looks = []) {cells : List Value} (hc : cells = (x.heaps.map tfL).flatten) (hm : Mem b (Blk 65 cells) L) : HeapIn N w0 L (g1 g b x) := by
  intro w hI
  refine ⟨sl_of hI hm hc (by intro r hr'; obtain ⟨t, _, rfl⟩ := List.mem_map.1 hr'; rfl), ?_, ?_⟩
  · have := hA.rains.now hI
    rw [← hr] at this
    exact this
  · intro k hk
    have : x.looks = [] := hl
    exfalso
    have hk' : k < (x.looks.map lkL).length := hk
    rw [this] at hk'
    simp at hk'
set_option maxRecDepth 100000 in
set_option maxHeartbeats 8000000 in
theorem high_law1 (L : Hp) (g : Bg) (hA : HeapAt N w0 g) (low high wet : Nat) (b1 : low ≤ 255) (b2 : high ≤ 255) (b3 : wet ≤ 255) (hlong : longB g.h = false) (hvb : vB g.h = true) : Ret Try.prog N w0 L 9 [heapV g, .int .u8 (low : Int), .int .u8 (high : Int), .int .u8 (wet : Int)].toArray (.bool true) := by
  have hv := VH_of hvb
  have hnh := hv.nh
  have hnr := hv.nr
  refine Ret.fgt ?_
  refine tri_of_WP Try.func9 rfl (n := 212) rfl (by simp) ?_
  obtain ⟨l1, l2, l3⟩ := longB_ok hlong
  obtain ⟨la, hla⟩ : ∃ x, low % 3 = x := ⟨_, rfl⟩
  obtain ⟨lb, hlb⟩ : ∃ x, high % 3 = x := ⟨_, rfl⟩
  obtain ⟨f, hf⟩ : ∃ x, wet % 101 = x := ⟨_, rfl⟩
  obtain ⟨q1, hq1⟩ : ∃ x, high / 3 = x := ⟨_, rfl⟩
  obtain ⟨q2, hq2⟩ : ∃ x, q1 % 6 = x := ⟨_, rfl⟩
  have hla' : la < 3 := by omega
  have hlb' : lb < 3 := by omega
  have hf' : f < 101 := by omega
  have hq2' : q2 < 6 := by omega
  have h34 := fun L => long_ret N w0 L g
  have h13 := fun L => alive_ret N w0 L
  have h35 := fun L => Heaps_ret N w0 L g hA (by omega) (by omega) (by omega)
  rw [hlong] at h34
  rw [hvb] at h35
  unfold heapV hvL at h34 h35 ⊢
  repeat' (first | (refine Znh ?_) | (refine Zhn ?_) | (refine Zsq fun K hK => ?_) | (with_reducible refine Znl ?_) | (refine ZrN 0 fun _ => ?_; refine Zal 4 fun b4 => ?_; refine Zv Zab ?_) | (refine ZrG 1 ?_; refine Zv Zla ?_; refine Zcl (Enters_fn rfl) (h34 _) ?_; refine Zv Zmb ?_) | (refine Zatd 36 ?_; (first | (refine Zv Zxpt ?_) | (refine Zv Zxpf ?_))) | (refine ZrN 3 fun _ => ?_; refine Zv Zla ?_; refine Zal 9 fun b9 => ?_; refine Zst ?_) | (refine ZrN 4 fun _ => ?_; refine Zv Zmi ?_; refine Zv Zxco ?_; (first | (refine Zv (Val_remE2 hla (by omega) rfl rfl) ?_) | (refine Zv (Val_remE2 hlb (by omega) rfl rfl) ?_) | (refine Zv (Val_remE2 hf (by omega) rfl rfl) ?_) | (refine Zv (Val_remE2 hq2 (by omega) rfl rfl) ?_)); refine Zv Zmi ?_; refine Zv Zxco ?_; (first | (refine Zv (Val_remE2 hla (by omega) rfl rfl) ?_) | (refine Zv (Val_remE2 hlb (by omega) rfl rfl) ?_) | (refine Zv (Val_remE2 hf (by omega) rfl rfl) ?_) | (refine Zv (Val_remE2 hq2 (by omega) rfl rfl) ?_)); refine Zv Zai ?_; refine Zv Zai ?_) | (refine ZrN 5 fun _ => ?_; refine Zv Zmi ?_; refine Zv Zmi ?_; refine Zv Zxmin ?_; refine Zv Zmi ?_; refine Zv Zmi ?_; refine Zv Zxmax ?_; refine Zv Zai ?_; refine Zv Zai ?_) | (refine ZrN 6 fun _ => ?_; refine Zv Zmi ?_; refine Zv Zxco ?_; (first | (refine Zv (Val_remE2 hla (by omega) rfl rfl) ?_) | (refine Zv (Val_remE2 hlb (by omega) rfl rfl) ?_) | (refine Zv (Val_remE2 hf (by omega) rfl rfl) ?_) | (refine Zv (Val_remE2 hq2 (by omega) rfl rfl) ?_)); refine Zv Zai ?_) | (refine ZrN 7 fun _ => ?_; refine Zv Zmi ?_; refine Zv Zmi ?_; refine Zv Zmi ?_; refine Zv Zxco ?_; refine Zv (Val_quoE hq1 (by omega) (by omega) rfl rfl) ?_; (first | (refine Zv (Val_remE2 hla (by omega) rfl rfl) ?_) | (refine Zv (Val_remE2 hlb (by omega) rfl rfl) ?_) | (refine Zv (Val_remE2 hf (by omega) rfl rfl) ?_) | (refine Zv (Val_remE2 hq2 (by omega) rfl rfl) ?_)); refine Zv Zxadd ?_; refine Zv Zxmin ?_; refine Zcl (Enters_fn rfl) (span31_ret N w0 _ _ _) ?_; refine Zal 13 fun b13 => ?_; refine Zst ?_) | (refine ZrN 8 fun _ => ?_; refine Zv Zmi ?_; refine Zv Zla ?_; refine Zv Zxbu ?_; refine Zv Zmi ?_; refine Zv Zla ?_; refine Zv Zxbu ?_; refine Zal 69 fun b69 => ?_; refine Zv Zf0 ?_; refine Zst ?_; refine Zv Zfa ?_; refine Zst ?_) | (refine ZrN 9 fun _ => ?_; refine Zv Zfa ?_; refine Zv Zld ?_; refine Zv Zxlen ?_; refine Zv Zmi ?_) | (refine Zatd 33 ?_; refine Zv Zla ?_) | (refine Zatd 34 ?_; refine Zcl (Enters_fn rfl) (h35 _) ?_) | (refine Zatd 35 ?_; refine Zv Zxnot ?_) | (refine Zsk ?_) | (refine Zsp (fun hc => ?_) (fun hc => ?_) <;> (try (exfalso; omega))) | (refine WP_cond_true rfl ?_) | (refine WP_cond_false rfl ?_) | (refine Zcd (fun hc => ?_) (fun hc => ?_) <;> (try (exfalso; omega))) | (with_reducible apply WP_skip) | (with_reducible apply WP_block) | (with_reducible apply WP_exit) | (with_reducible apply WP_ret) | (with_reducible apply QBlock_normal) | (refine Zhx ?_) | (with_reducible apply QBlock_hit) | (refine Zqb ?_) | (with_reducible apply QLoop_exit) | (refine Zhr ?_) | (with_reducible apply QBlock_ret) | (with_reducible apply QLoop_ret))
  obtain ⟨a, ha⟩ : ∃ a : Int, min (la : Int) lb = a := ⟨_, rfl⟩
  obtain ⟨b, hb⟩ : ∃ b : Int, max (la : Int) lb = b := ⟨_, rfl⟩
  obtain ⟨l, hl⟩ : ∃ l : Int, min 100 ((f : Int) + q2) = l := ⟨_, rfl⟩
  rw [ha, hb, hl]
  have hab : 0 ≤ a ∧ a ≤ b ∧ b ≤ 2 := by omega
  have hfl : 0 ≤ (f : Int) ∧ (f : Int) ≤ l ∧ l ≤ 100 ∧ l - f ≤ 5 := by omega
  clear ha hb hl hla hlb hf hq1 hq2
  obtain ⟨x, hx⟩ : ∃ x, highH g.h a b f l f g.h.rains = x := ⟨_, rfl⟩
  have hxr : x.rains = g.h.rains := by rw [← hx]; rfl
  have hxl : x.looks = [] := by rw [← hx]; rfl
  have hin : ∀ L', Mem b69 (Blk 65 [.int .i64 a, .int .i64 f, .int .i64 l, .int .i64 b, .int .i64 f, .int .i64 l]) L' → HeapIn N w0 L' (g1 g b69 x) := fun L' hm => in_g1 N w0 hA hxr hxl (by rw [← hx]; rfl) hm
  have hVx : heapV (g1 g b69 x) = .agg [.slice (some ⟨b69, 0, none⟩) 2 2, .slice g.A2 g.h.rains.length g.c2, .int .i64 g.h.d0, .int .i64 g.h.d1, .int .i64 g.h.d2, .int .i64 g.h.limit, .slice none 0 0].toArray := by rw [← hx]; rfl
  have h14 : ∀ L' i (d : Nat), Mem b69 (Blk 65 [.int .i64 a, .int .i64 f, .int .i64 l, .int .i64 b, .int .i64 f, .int .i64 l]) L' → i < 2 → d < g.h.rains.length → Ret Try.prog N w0 L' 14 [.agg [.slice (some ⟨b69, 0, none⟩) 2 2, .slice g.A2 g.h.rains.length g.c2, .int .i64 g.h.d0, .int .i64 g.h.d1, .int .i64 g.h.d2, .int .i64 g.h.limit, .slice none 0 0].toArray, .int .i64 (i : Nat), .int .i64 d].toArray (.tuple [.agg [.int .i64 (wetS x i d).1, .int .i64 (wetS x i d).2].toArray, .int .i64 0].toArray) := by
    intro L' i d hm hi hd
    have h1 := Wet_in N w0 L' _ (hin L' hm) (i : Nat) d
    have h2 := high_wet hv hab hfl hd i hi
    rw [hx] at h2
    rw [hVx] at h1
    show Ret Try.prog N w0 L' 14 _ _
    have h3 : (g1 g b69 x).h = x := rfl
    rw [h3, h2.1, h2.2] at h1
    exact h1
  have h20 : ∀ L' i, Mem b69 (Blk 65 [.int .i64 a, .int .i64 f, .int .i64 l, .int .i64 b, .int .i64 f, .int .i64 l]) L' → Ret Try.prog N w0 L' 20 [.agg [.slice (some ⟨b69, 0, none⟩) 2 2, .slice g.A2 g.h.rains.length g.c2, .int .i64 g.h.d0, .int .i64 g.h.d1, .int .i64 g.h.d2, .int .i64 g.h.limit, .slice none 0 0].toArray, .int .i64 i].toArray (.tuple [.int .i64 (WhenV x i), .int .i64 (WhenE x i)].toArray) := by
    intro L' i hm
    have h1 := When_in N w0 L' _ (hin L' hm) i
    rw [hVx] at h1
    exact h1
  have hW := high_when hv hab hfl
  have hle := fun d hd => high_le (d := d) hv hab hfl hd
  have heq := fun hh d hd => high_eq (d := d) hv hab hfl hh hd
  rw [hx] at hW hle heq
  have hVX := VH_high hv hab hfl
  rw [hx] at hVX
  refine WP_loop [8, 14, 15, 16, 17, 18, 75, 76, 77, 78, 79, 80, 81, 82, 83, 84, 85, 86, 87, 88, 89, 90, 91, 92, 93, 94, 95, 96, 97, 98, 99, 100, 101, 102, 103, 104, 105, 106, 107, 108, 109, 110, 111, 112, 113, 114, 115, 116, 117, 118, 119, 120] (fun d : Nat => [(75, .int .i64 d)]) (fun _ => (b69, Blk 65 [.int .i64 a, .int .i64 f, .int .i64 l, .int .i64 b, .int .i64 f, .int .i64 l]) :: (b13, Blk 31 [.int .i64 f, .int .i64 l]) :: (b9, Blk 27 [.slice (some ⟨b69, 0, none⟩) 2 2, .slice g.A2 g.h.rains.length g.c2, .int .i64 g.h.d0, .int .i64 g.h.d1, .int .i64 g.h.d2, .int .i64 g.h.limit, .slice none 0 0]) :: (b4, Blk 27 (hvL g)) :: L) (fun d => d ≤ g.h.rains.length) (fun d => g.h.rains.length - d) 0 (.cons rfl .nil) (Wk.refl _) (Nat.zero_le _) ?_
  · intro d j hd
    unfold hvL
    by_cases hlt : d < g.h.rains.length
    · have hle' := hle d hlt
      have hs0 := wetS_sm hVX 0 d
      have hs1 := wetS_sm hVX 1 d
      have h14a := fun L' hm => h14 L' 0 d hm (by omega) hlt
      have h14b := fun L' hm => h14 L' 1 d hm (by omega) hlt
      have heq' := fun hh => heq hh d hlt
      obtain ⟨c1, hc1⟩ : ∃ y, (wetS x 0 d).1 = y := ⟨_, rfl⟩
      obtain ⟨c2, hc2⟩ : ∃ y, (wetS x 0 d).2 = y := ⟨_, rfl⟩
      obtain ⟨k1, hk1⟩ : ∃ y, (wetS x 1 d).1 = y := ⟨_, rfl⟩
      obtain ⟨k2, hk2⟩ : ∃ y, (wetS x 1 d).2 = y := ⟨_, rfl⟩
      have heq2 : a = b → k1 = c1 ∧ k2 = c2 := fun hh => by have := heq' hh; rw [← hc1, ← hc2, ← hk1, ← hk2, this]; exact ⟨rfl, rfl⟩
      rw [hc1, hc2] at h14a hle' hs0
      rw [hk1, hk2] at h14b hle' hs1
      unfold P1000 at hs0 hs1
      clear heq' heq h14 h20 hW hle hin hc1 hc2 hk1 hk2
      by_cases hab2 : a = b
      · obtain ⟨e1, e2⟩ := heq2 hab2
        repeat' (first | (refine Znh ?_) | (refine Zhn ?_) | (refine Zsq fun K hK => ?_) | (with_reducible refine Znl ?_) | (refine ZrN 10 fun _ => ?_; refine Zv Zylss ?_) | (refine ZrN 11 fun _ => ?_; refine Zv Zmi ?_; refine Zv Zai ?_) | (refine ZrN 12 fun _ => ?_; refine Zv Zla ?_; refine Zv Zmi ?_; (first | (refine Zcl (Enters_fn rfl) (h14a _ (by repeat (first | exact Mem.here | assumption | apply Mem.there | apply Mem.sv | apply Mem.app))) ?_) | (refine Zcl (Enters_fn rfl) (h14b _ (by repeat (first | exact Mem.here | assumption | apply Mem.there | apply Mem.sv | apply Mem.app))) ?_)); refine Zv Zmv ?_; refine Zv Zxex ?_; refine Zv Zxex ?_; refine Zal 15 fun b15 => ?_; refine Zst ?_; refine Zv Zai ?_) | (refine ZrN 13 fun _ => ?_; refine Zv Zla ?_; refine Zv Zmi ?_; (first | (refine Zcl (Enters_fn rfl) (h14a _ (by repeat (first | exact Mem.here | assumption | apply Mem.there | apply Mem.sv | apply Mem.app))) ?_) | (refine Zcl (Enters_fn rfl) (h14b _ (by repeat (first | exact Mem.here | assumption | apply Mem.there | apply Mem.sv | apply Mem.app))) ?_)); refine Zv Zmv ?_; refine Zv Zxex ?_; refine Zv Zxex ?_; refine Zal 17 fun b17 => ?_; refine Zst ?_; refine Zv Zai ?_) | (refine ZrG 14 ?_; refine Zv Zmi ?_; (first | (refine Zv (Val_neqS rfl rfl e1 e2 (by omega) (by omega)) ?_) | (refine Zv (Zyneq) ?_)); refine Zv Zmb ?_) | (refine Zatd 95 ?_; (first | (refine Zv Zxpt ?_) | (refine Zv Zxpf ?_)); refine Zv Zmb ?_) | (refine Zatd 102 ?_; (first | (refine Zv Zxpt ?_) | (refine Zv Zxpf ?_)); refine Zv Zmb ?_) | (refine Zatd 109 ?_; (first | (refine Zv Zxpt ?_) | (refine Zv Zxpf ?_)); refine Zv Zmb ?_) | (refine Zatd 119 ?_; (first | (refine Zv Zxpt ?_) | (refine Zv Zxpf ?_))) | (refine ZrN 15 fun _ => ?_; refine Zv Zab ?_) | (refine ZrN 16 fun _ => ?_; refine Zv Zxadd ?_; refine Zv Zmi ?_) | (refine Zatd 93 ?_; refine Zv Zmi ?_) | (refine Zatd 94 ?_; refine Zv (Val_neqS rfl rfl e1 e2 (by omega) (by omega)) ?_) | (refine Zatd 94 ?_; refine Zv (Zyneq) ?_) | (refine Zatd 97 ?_; refine Zv Zf0 ?_) | (refine Zatd 98 ?_; refine Zv Zld ?_) | (refine Zatd 99 ?_; refine Zv Zf0 ?_) | (refine Zatd 100 ?_; refine Zv Zld ?_) | (refine Zatd 101 ?_; refine Zv Zygtr ?_) | (refine Zatd 104 ?_; refine Zv Zfa ?_) | (refine Zatd 105 ?_; refine Zv Zld ?_) | (refine Zatd 106 ?_; refine Zv Zfa ?_) | (refine Zatd 107 ?_; refine Zv Zld ?_) | (refine Zatd 108 ?_; refine Zv Zygtr ?_) | (refine Zatd 111 ?_; refine Zv Zmi ?_) | (refine Zatd 112 ?_; refine Zv Zmi ?_) | (refine Zatd 113 ?_; refine Zv Zyeql ?_) | (refine Zatd 114 ?_; refine Zv Zmb ?_) | (refine Zatd 115 ?_; refine Zv Zla ?_) | (refine Zatd 116 ?_; refine Zv Zla ?_) | (refine Zatd 117 ?_; refine Zv (Val_neqS rfl rfl e1 e2 (by omega) (by omega)) ?_) | (refine Zatd 117 ?_; refine Zv (Zyneq) ?_) | (refine Zatd 118 ?_; refine Zv Zxpt ?_) | (refine Zatd 118 ?_; refine Zv Zxpf ?_) | (refine Zsk ?_) | (refine Zsp (fun hc => ?_) (fun hc => ?_) <;> (try (exfalso; omega))) | (refine WP_cond_true rfl ?_) | (refine WP_cond_false rfl ?_) | (refine Zcd (fun hc => ?_) (fun hc => ?_) <;> (try (exfalso; omega))) | (with_reducible apply WP_skip) | (with_reducible apply WP_block) | (with_reducible apply WP_exit) | (with_reducible apply WP_ret) | (with_reducible apply QBlock_normal) | (refine Zhx ?_) | (with_reducible apply QBlock_hit) | (refine Zqb ?_) | (with_reducible apply QLoop_exit) | (refine Zhr ?_) | (with_reducible apply QBlock_ret) | (with_reducible apply QLoop_ret))
        exact QLoop_normal (d + 1) (.cons rfl .nil) (by repeat (first | exact Off.frame rfl | exact Off.refl _ _ | refine Off.frameT rfl rfl ?_ | refine Off.upd rfl ?_ | refine Off.updO rfl ?_)) (by repeat (first | exact Wk.refl _ | apply Wk.keep1 | apply Wk.drop | apply Wk.sv | apply Wk.svD | apply Wk.appD)) (by omega) (by omega)
      · repeat' (first | (refine Znh ?_) | (refine Zhn ?_) | (refine Zsq fun K hK => ?_) | (with_reducible refine Znl ?_) | (refine ZrN 10 fun _ => ?_; refine Zv Zylss ?_) | (refine ZrN 11 fun _ => ?_; refine Zv Zmi ?_; refine Zv Zai ?_) | (refine ZrN 12 fun _ => ?_; refine Zv Zla ?_; refine Zv Zmi ?_; (first | (refine Zcl (Enters_fn rfl) (h14a _ (by repeat (first | exact Mem.here | assumption | apply Mem.there | apply Mem.sv | apply Mem.app))) ?_) | (refine Zcl (Enters_fn rfl) (h14b _ (by repeat (first | exact Mem.here | assumption | apply Mem.there | apply Mem.sv | apply Mem.app))) ?_)); refine Zv Zmv ?_; refine Zv Zxex ?_; refine Zv Zxex ?_; refine Zal 15 fun b15 => ?_; refine Zst ?_; refine Zv Zai ?_) | (refine ZrN 13 fun _ => ?_; refine Zv Zla ?_; refine Zv Zmi ?_; (first | (refine Zcl (Enters_fn rfl) (h14a _ (by repeat (first | exact Mem.here | assumption | apply Mem.there | apply Mem.sv | apply Mem.app))) ?_) | (refine Zcl (Enters_fn rfl) (h14b _ (by repeat (first | exact Mem.here | assumption | apply Mem.there | apply Mem.sv | apply Mem.app))) ?_)); refine Zv Zmv ?_; refine Zv Zxex ?_; refine Zv Zxex ?_; refine Zal 17 fun b17 => ?_; refine Zst ?_; refine Zv Zai ?_) | (refine ZrG 14 ?_; refine Zv Zmi ?_; refine Zv Zyneq ?_; refine Zv Zmb ?_) | (refine Zatd 95 ?_; (first | (refine Zv Zxpt ?_) | (refine Zv Zxpf ?_)); refine Zv Zmb ?_) | (refine Zatd 102 ?_; (first | (refine Zv Zxpt ?_) | (refine Zv Zxpf ?_)); refine Zv Zmb ?_) | (refine Zatd 109 ?_; (first | (refine Zv Zxpt ?_) | (refine Zv Zxpf ?_)); refine Zv Zmb ?_) | (refine Zatd 119 ?_; (first | (refine Zv Zxpt ?_) | (refine Zv Zxpf ?_))) | (refine ZrN 15 fun _ => ?_; refine Zv Zab ?_) | (refine ZrN 16 fun _ => ?_; refine Zv Zxadd ?_; refine Zv Zmi ?_) | (refine Zatd 93 ?_; refine Zv Zmi ?_) | (refine Zatd 94 ?_; refine Zv Zyneq ?_) | (refine Zatd 97 ?_; refine Zv Zf0 ?_) | (refine Zatd 98 ?_; refine Zv Zld ?_) | (refine Zatd 99 ?_; refine Zv Zf0 ?_) | (refine Zatd 100 ?_; refine Zv Zld ?_) | (refine Zatd 101 ?_; refine Zv Zygtr ?_) | (refine Zatd 104 ?_; refine Zv Zfa ?_) | (refine Zatd 105 ?_; refine Zv Zld ?_) | (refine Zatd 106 ?_; refine Zv Zfa ?_) | (refine Zatd 107 ?_; refine Zv Zld ?_) | (refine Zatd 108 ?_; refine Zv Zygtr ?_) | (refine Zatd 111 ?_; refine Zv Zmi ?_) | (refine Zatd 112 ?_; refine Zv Zmi ?_) | (refine Zatd 113 ?_; refine Zv Zyeql ?_) | (refine Zatd 114 ?_; refine Zv Zmb ?_) | (refine Zatd 115 ?_; refine Zv Zla ?_) | (refine Zatd 116 ?_; refine Zv Zla ?_) | (refine Zatd 118 ?_; refine Zv Zxpt ?_) | (refine Zatd 118 ?_; refine Zv Zxpf ?_) | (refine Zsk ?_) | (refine Zsp (fun hc => ?_) (fun hc => ?_) <;> (try (exfalso; omega))) | (refine WP_cond_true rfl ?_) | (refine WP_cond_false rfl ?_) | (refine Zcd (fun hc => ?_) (fun hc => ?_) <;> (try (exfalso; omega))) | (with_reducible apply WP_skip) | (with_reducible apply WP_block) | (with_reducible apply WP_exit) | (with_reducible apply WP_ret) | (with_reducible apply QBlock_normal) | (refine Zhx ?_) | (with_reducible apply QBlock_hit) | (refine Zqb ?_) | (with_reducible apply QLoop_exit) | (refine Zhr ?_) | (with_reducible apply QBlock_ret) | (with_reducible apply QLoop_ret))
        exact QLoop_normal (d + 1) (.cons rfl .nil) (by repeat (first | exact Off.frame rfl | exact Off.refl _ _ | refine Off.frameT rfl rfl ?_ | refine Off.upd rfl ?_ | refine Off.updO rfl ?_)) (by repeat (first | exact Wk.refl _ | apply Wk.keep1 | apply Wk.drop | apply Wk.sv | apply Wk.svD | apply Wk.appD)) (by omega) (by omega)
    · have h20a := fun L' hm => h20 L' ((0 : Nat) : Int) hm
      have h20b := fun L' hm => h20 L' ((1 : Nat) : Int) hm
      obtain ⟨v0, hv0⟩ : ∃ y, WhenV x ((0 : Nat) : Int) = y := ⟨_, rfl⟩
      obtain ⟨v1, hv1⟩ : ∃ y, WhenV x ((1 : Nat) : Int) = y := ⟨_, rfl⟩
      obtain ⟨e0, he0⟩ : ∃ y, WhenE x ((0 : Nat) : Int) = y := ⟨_, rfl⟩
      obtain ⟨e1, he1⟩ : ∃ y, WhenE x ((1 : Nat) : Int) = y := ⟨_, rfl⟩
      rw [hv0, he0] at h20a
      rw [hv1, he1] at h20b
      rw [hv0, hv1, he0, he1] at hW
      clear h14 h20 hle heq hin hv0 hv1 he0 he1 hVx hVX
      repeat' (first | (refine Znh ?_) | (refine Zhn ?_) | (refine Zsq fun K hK => ?_) | (with_reducible refine Znl ?_) | (refine ZrN 10 fun _ => ?_; refine Zv Zylss ?_) | (refine ZrN 17 fun _ => ?_; refine Zv Zla ?_; (first | (refine Zcl (Enters_fn rfl) (h20a _ (by repeat (first | exact Mem.here | assumption | apply Mem.there | apply Mem.sv | apply Mem.app))) ?_) | (refine Zcl (Enters_fn rfl) (h20b _ (by repeat (first | exact Mem.here | assumption | apply Mem.there | apply Mem.sv | apply Mem.app))) ?_)); refine Zv Zmv ?_; refine Zv Zxex ?_; refine Zv Zxex ?_; refine Zv Zai ?_; refine Zv Zai ?_) | (refine ZrN 18 fun _ => ?_; refine Zv Zla ?_; (first | (refine Zcl (Enters_fn rfl) (h20a _ (by repeat (first | exact Mem.here | assumption | apply Mem.there | apply Mem.sv | apply Mem.app))) ?_) | (refine Zcl (Enters_fn rfl) (h20b _ (by repeat (first | exact Mem.here | assumption | apply Mem.there | apply Mem.sv | apply Mem.app))) ?_)); refine Zv Zmv ?_; refine Zv Zxex ?_; refine Zv Zxex ?_; refine Zv Zai ?_; refine Zv Zai ?_) | (refine WP_cond_true rfl ?_) | (refine WP_cond_false rfl ?_) | (refine Zcd (fun hc => ?_) (fun hc => ?_) <;> (try (exfalso; omega))) | (with_reducible apply WP_skip) | (with_reducible apply WP_block) | (with_reducible apply WP_exit) | (with_reducible apply WP_ret) | (with_reducible apply QBlock_normal) | (refine Zhx ?_) | (with_reducible apply QBlock_hit) | (refine Zqb ?_) | (with_reducible apply QLoop_exit) | (refine Zhr ?_) | (with_reducible apply QBlock_ret) | (with_reducible apply QLoop_ret))
      refine WP_join (by assumption) [131, 132, 133, 134, 135, 136, 137, 138, 139, 140, 141] (fun _ : Unit => [(141, .bool false)]) (fun _ => (b69, Blk 65 [.int .i64 a, .int .i64 f, .int .i64 l, .int .i64 b, .int .i64 f, .int .i64 l]) :: (b13, Blk 31 [.int .i64 f, .int .i64 l]) :: (b9, Blk 27 [.slice (some ⟨b69, 0, none⟩) 2 2, .slice g.A2 g.h.rains.length g.c2, .int .i64 g.h.d0, .int .i64 g.h.d1, .int .i64 g.h.d2, .int .i64 g.h.limit, .slice none 0 0]) :: (b4, Blk 27 (hvL g)) :: L) (fun _ => True) ?_ ?_
      · intro K' hC
        by_cases hz : e0 = 0
        · obtain ⟨hz1, hz2⟩ := hW hz
          repeat' (first | (refine Znh ?_) | (refine Zhn ?_) | (refine Zsq fun K hK => ?_) | (with_reducible refine Znl ?_) | (refine ZrG 19 ?_; refine Zv Zmi ?_; refine Zv Zyeql ?_; refine Zv Zmb ?_) | (refine Zatd 141 ?_; (first | (refine Zv Zxpt ?_) | (refine Zv Zxpf ?_))) | (refine Zatd 134 ?_; refine Zv Zmi ?_) | (refine Zatd 135 ?_; refine Zv Zyneq ?_) | (refine Zatd 136 ?_; refine Zv Zmb ?_) | (refine Zatd 137 ?_; refine Zv Zmi ?_) | (refine Zatd 138 ?_; refine Zv Zmi ?_) | (refine Zatd 139 ?_; refine Zv Zygtr ?_) | (refine Zatd 140 ?_; refine Zv Zxpt ?_) | (refine Zatd 140 ?_; refine Zv Zxpf ?_) | (refine Zsk ?_) | (refine Zsp (fun hc => ?_) (fun hc => ?_) <;> (try (exfalso; omega))) | (refine WP_cond_true rfl ?_) | (refine WP_cond_false rfl ?_) | (refine Zcd (fun hc => ?_) (fun hc => ?_) <;> (try (exfalso; omega))) | (with_reducible apply WP_skip) | (with_reducible apply WP_block) | (with_reducible apply WP_exit) | (with_reducible apply WP_ret) | (with_reducible apply QBlock_normal) | (refine Zhx ?_) | (with_reducible apply QBlock_hit) | (refine Zqb ?_) | (with_reducible apply QLoop_exit) | (refine Zhr ?_) | (with_reducible apply QBlock_ret) | (with_reducible apply QLoop_ret))
          exact hC.nor () _ _ (.cons rfl .nil) (by repeat (first | exact Off.frame rfl | exact Off.refl _ _ | refine Off.frameT rfl rfl ?_ | refine Off.upd rfl ?_ | refine Off.updO rfl ?_)) (by repeat (first | exact Wk.refl _ | apply Wk.keep1 | apply Wk.drop | apply Wk.sv | apply Wk.svD | apply Wk.appD)) trivial
        · repeat' (first | (refine Znh ?_) | (refine Zhn ?_) | (refine Zsq fun K hK => ?_) | (with_reducible refine Znl ?_) | (refine ZrG 19 ?_; refine Zv Zmi ?_; refine Zv Zyeql ?_; refine Zv Zmb ?_) | (refine Zatd 141 ?_; (first | (refine Zv Zxpt ?_) | (refine Zv Zxpf ?_))) | (refine Zatd 134 ?_; refine Zv Zmi ?_) | (refine Zatd 135 ?_; refine Zv Zyneq ?_) | (refine Zatd 136 ?_; refine Zv Zmb ?_) | (refine Zatd 137 ?_; refine Zv Zmi ?_) | (refine Zatd 138 ?_; refine Zv Zmi ?_) | (refine Zatd 139 ?_; refine Zv Zygtr ?_) | (refine Zatd 140 ?_; refine Zv Zxpt ?_) | (refine Zatd 140 ?_; refine Zv Zxpf ?_) | (refine Zsk ?_) | (refine Zsp (fun hc => ?_) (fun hc => ?_) <;> (try (exfalso; omega))) | (refine WP_cond_true rfl ?_) | (refine WP_cond_false rfl ?_) | (refine Zcd (fun hc => ?_) (fun hc => ?_) <;> (try (exfalso; omega))) | (with_reducible apply WP_skip) | (with_reducible apply WP_block) | (with_reducible apply WP_exit) | (with_reducible apply WP_ret) | (with_reducible apply QBlock_normal) | (refine Zhx ?_) | (with_reducible apply QBlock_hit) | (refine Zqb ?_) | (with_reducible apply QLoop_exit) | (refine Zhr ?_) | (with_reducible apply QBlock_ret) | (with_reducible apply QLoop_ret))
          exact hC.nor () _ _ (.cons rfl .nil) (by repeat (first | exact Off.frame rfl | exact Off.refl _ _ | refine Off.frameT rfl rfl ?_ | refine Off.upd rfl ?_ | refine Off.updO rfl ?_)) (by repeat (first | exact Wk.refl _ | apply Wk.keep1 | apply Wk.drop | apply Wk.sv | apply Wk.svD | apply Wk.appD)) trivial
      intro u j3 _
      unfold hvL
      repeat' (first | (refine Znh ?_) | (refine Zhn ?_) | (refine Zsq fun K hK => ?_) | (with_reducible refine Znl ?_) | (refine ZrG 19 ?_; refine Zv Zmi ?_; refine Zv Zxeql ?_; refine Zv Zmb ?_) | (refine Zatd 141 ?_; (first | (refine Zv Zxpt ?_) | (refine Zv Zxpf ?_))) | (refine ZrN 22 fun _ => ?_; refine Zv Zfa ?_; refine Zst ?_) | (refine ZrN 23 fun _ => ?_; refine Zv Zav ?_) | (refine ZrN 24 fun _ => ?_; refine Zv Zfa ?_; refine Zv Zld ?_; refine Zv Zxlen ?_; refine Zv Zmi ?_) | (refine Zatd 134 ?_; refine Zv Zmi ?_) | (refine Zatd 135 ?_; refine Zv Zxneq ?_) | (refine Zatd 136 ?_; refine Zv Zmb ?_) | (refine Zatd 137 ?_; refine Zv Zmi ?_) | (refine Zatd 138 ?_; refine Zv Zmi ?_) | (refine Zatd 139 ?_; refine Zv Zxgtr ?_) | (refine Zatd 140 ?_; refine Zv Zxpt ?_) | (refine Zatd 140 ?_; refine Zv Zxpf ?_) | (refine Zsk ?_) | (refine Zsp (fun hc => ?_) (fun hc => ?_) <;> (try (exfalso; omega))) | (refine WP_cond_true rfl ?_) | (refine WP_cond_false rfl ?_) | (refine Zcd (fun hc => ?_) (fun hc => ?_) <;> (try (exfalso; omega))) | (with_reducible apply WP_skip) | (with_reducible apply WP_block) | (with_reducible apply WP_exit) | (with_reducible apply WP_ret) | (with_reducible apply QBlock_normal) | (refine Zhx ?_) | (with_reducible apply QBlock_hit) | (refine Zqb ?_) | (with_reducible apply QLoop_exit) | (refine Zhr ?_) | (with_reducible apply QBlock_ret) | (with_reducible apply QLoop_ret) | (refine WP_drawn (id := 21) [0, 1, 2, 3, 4, 5, 6] [] (k := 1) prog_mixed (by kernel_rfl) rfl ?_; refine Zew rfl Zf0 ?_; refine Zew rfl Zld ?_; refine Zew rfl Zmi ?_; refine Zew rfl Zmi ?_; refine Zec rfl (Enters_fn rfl) (fun X => span31_ret N w0 _ _ _) ?_; refine Zew rfl Zia ?_; refine Zew rfl Zfa ?_) | (refine Zatn ?_; refine Zst ?_) | (with_reducible apply EWalk_nil) | (refine AWalk_0 ?_; refine ZisO ?_; apply shr; intro key) | (refine AnyO_done (by kernel_rfl) ?_; (try with_reducible apply noP_normal); try with_reducible exact key.out) | (with_reducible apply QAny_normal) | (refine AnyO_1 7 (by decide +kernel) rfl ?_))
      clear h20a h20b hW
      refine WP_loop [23, 25, 153, 154, 155, 156, 157, 158, 159, 160, 161, 162, 163, 164, 165, 166, 167, 168, 169, 170, 171, 172] (fun st : Nat × List Value × Option (Nat × Nat) × List Value × Option (Nat × Nat) => [(153, .int .i64 st.1), (23, svV st.2.2.2.2 st.1)]) (fun st => svH 31 2 st.1 st.2.1 st.2.2.1 (svH 3 1 st.1 st.2.2.2.1 st.2.2.2.2 ((b69, Blk 65 [.int .i64 a, .int .i64 f, .int .i64 f, .int .i64 b, .int .i64 f, .int .i64 l]) :: (b13, Blk 31 [.int .i64 f, .int .i64 l]) :: (b9, Blk 27 [.slice (some ⟨b69, 0, none⟩) 2 2, svV st.2.2.1 st.1, .int .i64 g.h.d0, .int .i64 g.h.d1, .int .i64 g.h.d2, .int .i64 g.h.limit, .slice none 0 0]) :: (b4, Blk 27 (hvL g)) :: L)))
        (fun st => st.1 ≤ g.h.rains.length ∧ svOk st.2.2.1 2 st.1 st.2.1 ∧ svOk st.2.2.2.2 1 st.1 st.2.2.2.1 ∧ st.2.1 = ((tops (g.h.rains.take st.1)).map spL).flatten ∧ st.2.2.2.1 = intL ((g.h.rains.take st.1).map (·.2))) (fun st => g.h.rains.length - st.1) (0, [], none, [], none) (.cons rfl (.cons rfl .nil)) (Wk.refl _) ⟨Nat.zero_le _, svOk_nil _, svOk_nil _, rfl, rfl⟩ ?_
      rintro ⟨k, xs1, s1, xs2, s2⟩ j4 ⟨hk, hs1, hs2, hx1, hx2⟩
      dsimp only at hk hs1 hs2 hx1 hx2 ⊢
      unfold hvL
      by_cases hkl : k < g.h.rains.length
      · obtain ⟨bA, oA, hA2, hbA, hcA⟩ := hA.rains.row k hkl
        obtain ⟨t, ht⟩ : ∃ t, g.h.rains[k] = t := ⟨_, rfl⟩
        rw [ht] at hcA
        obtain ⟨r1, r2⟩ := t
        have hx1' : ((tops (g.h.rains.take (k + 1))).map spL).flatten = xs1 ++ [.int .i64 r2, .int .i64 r2] := by rw [take_one hkl, hx1, ht]; simp [tops, spL]
        have hx2' : intL ((g.h.rains.take (k + 1)).map (·.2)) = xs2 ++ [.int .i64 r2] := by rw [take_one hkl, hx2, ht]; simp [intL]
        repeat' (first | (refine Znh ?_) | (refine Zhn ?_) | (refine Zsq fun K hK => ?_) | (with_reducible refine Znl ?_) | (refine ZrN 25 fun _ => ?_; refine Zv Zxlss ?_) | (refine ZrN 26 fun _ => ?_; refine Zv Zia ?_; refine Zv Zla ?_; refine Zal 25 fun b25 => ?_; refine Zst ?_) | (refine ZrN 28 fun _ => ?_; refine Zv Zxadd ?_; refine Zv Zmi ?_) | (refine WP_cond_true rfl ?_) | (refine WP_cond_false rfl ?_) | (refine Zcd (fun hc => ?_) (fun hc => ?_) <;> (try (exfalso; omega))) | (with_reducible apply WP_skip) | (with_reducible apply WP_block) | (with_reducible apply WP_exit) | (with_reducible apply WP_ret) | (with_reducible apply QBlock_normal) | (refine Zhx ?_) | (with_reducible apply QBlock_hit) | (refine Zqb ?_) | (with_reducible apply QLoop_exit) | (refine Zhr ?_) | (with_reducible apply QBlock_ret) | (with_reducible apply QLoop_ret) | (refine WP_drawnS (id := 27) [0, 1, 2, 3, 4, 5, 6, 9, 10, 11] [0, 1, 2, 3, 4, 5, 6, 9, 10, 11] [] [157, 158, 159, 160, 161, 162, 163, 166, 167, 168] (k := 5) (k2 := 2) (by repeat (first | apply Sub.sv | apply Sub.keep | apply Sub.appK | exact Sub.refl _)) (by kernel_rfl) prog_mixed (by kernel_rfl) (by kernel_rfl) rfl ?_; refine Zew rfl Zfa ?_; refine Zew rfl Zld ?_; refine Zew rfl Zfa ?_; refine Zew rfl Zld ?_; refine Zew rfl Zfa ?_; refine Zew rfl Zld ?_; refine Zec rfl (Enters_fn rfl) (fun X => span31_ret N w0 _ _ _) ?_; refine Zew rfl Zmv ?_; refine Zew rfl Zfa ?_; refine Zew rfl Zld ?_) | (refine Zatd 164 ?_; refine Zal 164 fun b164 => ?_) | (refine Zatd 165 ?_; refine Zag (fun s165 hs165 => ?_)) | (refine Zatd 169 ?_; refine Zal 169 fun b169 => ?_) | (refine Zatd 170 ?_; refine Zag (fun s170 hs170 => ?_)) | (refine Zatd 171 ?_; refine Zv Zfa ?_) | (refine Zatn ?_; refine Zst ?_) | (refine Zatd 23 ?_; refine Zv Zav ?_) | (with_reducible apply EWalk_nil) | (refine AWalk_0 ?_) | (with_reducible apply QAny_normal) | (with_reducible apply QC_normal) | (refine ZgC [0, 1, 2, 3, 4, 5, 6, 9, 10, 11] ?_; refine ZC2 _ 7 [0, 1, 2, 3, 4, 5, 6, 9, 10, 11, 7] 12 [0, 1, 2, 3, 4, 5, 6, 9, 10, 11, 12] ?_ ?_) | (refine ZgC [0, 1, 2, 3, 4, 5, 6, 9, 10, 11, 7] ?_; refine ZC2 _ 8 [0, 1, 2, 3, 4, 5, 6, 9, 10, 11, 7, 8] 12 [0, 1, 2, 3, 4, 5, 6, 9, 10, 11, 7, 12] ?_ ?_) | (refine ZgC [0, 1, 2, 3, 4, 5, 6, 9, 10, 11, 7, 8] ?_; refine ZC2 _ 12 [0, 1, 2, 3, 4, 5, 6, 9, 10, 11, 7, 8, 12] 14 [0, 1, 2, 3, 4, 5, 6, 9, 10, 11, 7, 8, 14] ?_ ?_) | (refine ZgC [0, 1, 2, 3, 4, 5, 6, 9, 10, 11, 7, 8, 12] ?_; refine ZC2 _ 13 [0, 1, 2, 3, 4, 5, 6, 9, 10, 11, 7, 8, 12, 13] 14 [0, 1, 2, 3, 4, 5, 6, 9, 10, 11, 7, 8, 12, 14] ?_ ?_) | (refine ZgC [0, 1, 2, 3, 4, 5, 6, 9, 10, 11, 7, 8, 12, 13] ?_; refine ZC1 _ 14 [0, 1, 2, 3, 4, 5, 6, 9, 10, 11, 7, 8, 12, 13, 14] ?_) | (refine ZgC [0, 1, 2, 3, 4, 5, 6, 9, 10, 11, 7, 8, 12, 13, 14] ?_; refine ZCl _ ?_) | (refine ZgO [0, 1, 2, 3, 4, 5, 6, 9, 10, 11, 7, 8, 12, 13, 14] ?_; refine ZO1 _ 15 [0, 1, 2, 3, 4, 5, 6, 9, 10, 11, 7, 8, 12, 13, 14, 15] ?_) | (refine ZgO [0, 1, 2, 3, 4, 5, 6, 9, 10, 11, 7, 8, 12, 13, 14, 15] ?_; refine ZO1 _ 16 [0, 1, 2, 3, 4, 5, 6, 9, 10, 11, 7, 8, 12, 13, 14, 15, 16] ?_) | (refine ZgO [0, 1, 2, 3, 4, 5, 6, 9, 10, 11, 7, 8, 12, 13, 14, 15, 16] ?_; refine ZOd _ ?_; (try with_reducible apply noP_normal); (try with_reducible exact key.out)) | (refine ZgC [0, 1, 2, 3, 4, 5, 6, 9, 10, 11, 7, 8, 12, 14] ?_; refine ZC1 _ 13 [0, 1, 2, 3, 4, 5, 6, 9, 10, 11, 7, 8, 12, 13, 14] ?_) | (refine ZgC [0, 1, 2, 3, 4, 5, 6, 9, 10, 11, 7, 8, 14] ?_; refine ZC1 _ 12 [0, 1, 2, 3, 4, 5, 6, 9, 10, 11, 7, 8, 12, 14] ?_) | (refine ZgC [0, 1, 2, 3, 4, 5, 6, 9, 10, 11, 7, 12] ?_; refine ZC1 _ 8 [0, 1, 2, 3, 4, 5, 6, 9, 10, 11, 7, 8, 12] ?_) | (refine ZgC [0, 1, 2, 3, 4, 5, 6, 9, 10, 11, 12] ?_; refine ZC1 _ 7 [0, 1, 2, 3, 4, 5, 6, 9, 10, 11, 7, 12] ?_))
        all_goals exact QLoop_normal (k + 1, _, _, _, _) (.cons rfl (.cons rfl .nil)) (by repeat (first | exact Off.frame rfl | exact Off.refl _ _ | refine Off.frameT rfl rfl ?_ | refine Off.upd rfl ?_ | refine Off.updO rfl ?_)) (by repeat (first | exact Wk.refl _ | apply Wk.keep1 | apply Wk.drop | apply Wk.sv | apply Wk.svD | apply Wk.appD)) ⟨by dsimp only; omega, by assumption, by assumption, hx1'.symm, hx2'.symm⟩ (by dsimp only; omega)
      · have hkn : k = g.h.rains.length := by omega
        subst hkn
        rw [List.take_length] at hx1 hx2
        obtain ⟨A2, c2, e1, hr1⟩ := sl_sv (E := 31) (by omega) hs1
        obtain ⟨A3, c3, e2, hr2⟩ := sl_sv (E := 3) (by omega) hs2
        rw [e1, e2]
        obtain ⟨hVy, hkw⟩ := known_wet hv hab hfl
        obtain ⟨y, hy⟩ : ∃ y, ({ highH g.h a b f l f (tops g.h.rains) with heaps := [⟨a, f, f⟩, ⟨b, f, l⟩] } : Hv) = y := ⟨_, rfl⟩
        rw [hy] at hVy hkw
        have hyr : y.rains = tops g.h.rains := by rw [← hy]; rfl
        have hyh : y.heaps = [⟨a, f, f⟩, ⟨b, f, l⟩] := by rw [← hy]
        have hyl : y.looks = [] := by rw [← hy]; rfl
        have hyn : y.rains.length = g.h.rains.length := by rw [hyr]; simp [tops]
        obtain ⟨gy, hgy⟩ : ∃ gy : Bg, { g with h := y, A1 := some ⟨b69, 0, none⟩, c1 := 2, A2 := A2, c2 := c2, A3 := none, c3 := 0 } = gy := ⟨_, rfl⟩
        have hgh : gy.h = y := by rw [← hgy]
        have hin : ∀ L' Lt, Mem b69 (Blk 65 [.int .i64 a, .int .i64 f, .int .i64 f, .int .i64 b, .int .i64 f, .int .i64 l]) L' → Wk L' (svH 31 2 g.h.rains.length xs1 s1 Lt) → HeapIn N w0 L' gy := by
          intro L' Lt hm hk w hI
          rw [← hgy]
          refine ⟨sl_of hI hm (by dsimp only; rw [hyh]; rfl) (by intro r hr'; obtain ⟨t, _, rfl⟩ := List.mem_map.1 hr'; rfl), ?_, ?_⟩
          · dsimp only
            rw [hyr]
            exact hr1 (hI.wk hk) hx1 (by intro r hr'; obtain ⟨t, _, rfl⟩ := List.mem_map.1 hr'; rfl)
          · dsimp only
            rw [hyl]
            exact looks_none _ w none
        have hVg : heapV gy = .agg [.slice (some ⟨b69, 0, none⟩) 2 2, .slice A2 g.h.rains.length c2, .int .i64 g.h.d0, .int .i64 g.h.d1, .int .i64 g.h.d2, .int .i64 g.h.limit, .slice none 0 0].toArray := by rw [← hgy, ← hyn, ← hy]; rfl
        have h41 : ∀ L' Lt Lt' bf, Mem b69 (Blk 65 [.int .i64 a, .int .i64 f, .int .i64 f, .int .i64 b, .int .i64 f, .int .i64 l]) L' → Mem bf (Blk 3 [.int .i64 f, .int .i64 f]) L' → Wk L' (svH 31 2 g.h.rains.length xs1 s1 Lt) → Wk L' (svH 3 1 g.h.rains.length xs2 s2 Lt') →
            Tri Try.prog N w0 L' 41 [.agg [.slice (some ⟨b69, 0, none⟩) 2 2, .slice A2 g.h.rains.length c2, .int .i64 g.h.d0, .int .i64 g.h.d1, .int .i64 g.h.d2, .int .i64 g.h.limit, .slice none 0 0].toArray, .slice (some ⟨bf, 0, none⟩) 2 2, .slice A3 g.h.rains.length c3].toArray
            fun x L2 => ∃ v, x = .returned v ∧ ∃ X, L2 = X ++ L' ∧ RdLL X v (wetL y [f, f] (g.h.rains.map (·.2))) := by
          intro L' Lt Lt' bf hm hmf hk1 hk2
          refine Tri.re2 (K := fun v X => RdLL X v (wetL y [f, f] (g.h.rains.map (·.2)))) fun w hI => ?_
          have h1 := wetness41_tri w.heap.size w [] gy (hin L' Lt hm hk1 w hI) (by rw [hgh]; exact hVy) [f, f] (g.h.rains.map (·.2)) (some ⟨bf, 0, none⟩) A3 2 c3 (sl_of hI hmf rfl (by simp)) ?_ (by rw [hgh, hyh]; simp) ?_ ?_ ?_
          · rw [hVg, hgh, List.length_map] at h1
            exact h1
          · exact hr2 (hI.wk hk2) (by rw [hx2]; exact intL_flat _) (one_len _)
          · intro z hz
            simp at hz
            omega
          · intro z hz
            obtain ⟨q, hq, rfl⟩ := List.mem_map.1 hz
            have := hv.rn q hq
            omega
          · rw [List.length_map]; exact hnr.2
        have h14 : ∀ L' Lt (d : Nat), Mem b69 (Blk 65 [.int .i64 a, .int .i64 f, .int .i64 f, .int .i64 b, .int .i64 f, .int .i64 l]) L' → Wk L' (svH 31 2 g.h.rains.length xs1 s1 Lt) → d < g.h.rains.length → Ret Try.prog N w0 L' 14 [.agg [.slice (some ⟨b69, 0, none⟩) 2 2, .slice A2 g.h.rains.length c2, .int .i64 g.h.d0, .int .i64 g.h.d1, .int .i64 g.h.d2, .int .i64 g.h.limit, .slice none 0 0].toArray, .int .i64 0, .int .i64 d].toArray (.tuple [.agg [.int .i64 (wetS y 0 d).1, .int .i64 (wetS y 0 d).2].toArray, .int .i64 0].toArray) := by
          intro L' Lt d hm hk hd
          have h1 := Wet_in N w0 L' _ (hin L' Lt hm hk) ((0 : Nat) : Int) d
          have h2 := wet_ok (i := 0) (vB_of hVy) (told_free hVy hyl) (by rw [hyh]; show 0 < 2; omega) (show d < y.rains.length by omega)
          rw [hVg, hgh, h2.1, h2.2] at h1
          exact h1
        clear hin hVg hgy hr1 hr2 hab hfl
        repeat' (first | (refine Znh ?_) | (refine Zhn ?_) | (refine Zsq fun K hK => ?_) | (with_reducible refine Znl ?_) | (refine ZrN 25 fun _ => ?_; refine Zv Zxlss ?_) | (refine ZrN 29 fun _ => ?_; refine Zv Zla ?_; refine Zv Zmi ?_; refine Zv Zmi ?_; refine Zal 176 fun b176 => ?_; refine Zv Zmv ?_; refine OPS_retKS (Enters_fn rfl) (h41 _ _ _ _ (by repeat (first | exact Mem.here | assumption | apply Mem.there | apply Mem.sv | apply Mem.app)) (by repeat (first | exact Mem.here | assumption | apply Mem.there | apply Mem.sv | apply Mem.app)) (by repeat (first | exact Wk.refl _ | apply Wk.keep1 | apply Wk.drop | apply Wk.sv | apply Wk.svD | apply Wk.appD)) (by repeat (first | exact Wk.refl _ | apply Wk.keep1 | apply Wk.drop | apply Wk.sv | apply Wk.svD | apply Wk.appD))) rfl rfl rfl (fun vs Ls hs => ?_); obtain ⟨X, rfl, hX⟩ := hs; refine Zv Zav ?_) | (refine ZrN 30 fun _ => ?_; refine Zv Zfa ?_; refine Zv Zld ?_; refine Zv Zxlen ?_; refine Zv Zmi ?_) | (refine WP_cond_true rfl ?_) | (refine WP_cond_false rfl ?_) | (refine Zcd (fun hc => ?_) (fun hc => ?_) <;> (try (exfalso; omega))) | (with_reducible apply WP_skip) | (with_reducible apply WP_block) | (with_reducible apply WP_exit) | (with_reducible apply WP_ret) | (with_reducible apply QBlock_normal) | (refine Zhx ?_) | (with_reducible apply QBlock_hit) | (refine Zqb ?_) | (with_reducible apply QLoop_exit) | (refine Zhr ?_) | (with_reducible apply QBlock_ret) | (with_reducible apply QLoop_ret))
        obtain ⟨Ao, co, rfl, hrow⟩ := hX
        obtain ⟨bo, u0, rfl, hu, Ai, ci, rfl, hcell⟩ := hrow 0 _ (wetL_get (by rw [hyh]; show 0 < 2; omega))
        rw [wetL_len, hyh]
        have hlen : (wetRow y [(f : Int), f] (g.h.rains.map (·.2)) 0).length = g.h.rains.length := by unfold wetRow; rw [wetF_len, List.length_map]
        rw [hlen] at hu
        obtain ⟨bi, rfl, _⟩ := hcell 0 _ (List.getElem?_eq_getElem (by omega))
        clear hrow h41
        refine WP_loop [8, 27, 28, 29, 182, 183, 184, 185, 186, 187, 188, 189, 190, 191, 192, 193, 194, 195, 196, 197, 198, 199, 200, 201, 202, 203, 204, 205, 206, 207, 208, 209, 210] (fun d : Nat => [(182, .int .i64 d)]) (fun _ => _) (fun d => d ≤ g.h.rains.length) (fun d => g.h.rains.length - d) 0 (.cons rfl .nil) (Wk.refl _) (Nat.zero_le _) ?_
        intro d j5 hd
        by_cases hdl : d < g.h.rains.length
        · obtain ⟨v, hv1, hv2⟩ := hkw d hdl
          have h14d := fun L' Lt hm hk => h14 L' Lt d hm hk hdl
          have hsm := wetS_sm hVy 0 d
          rw [hv2] at h14d hsm
          dsimp only at h14d hsm
          unfold P1000 at hsm
          obtain ⟨bi2, hbi, hcd⟩ := hcell d v hv1
          simp only [Option.some.injEq, Addr.mk.injEq, and_true] at hbi
          subst hbi
          have hcd' : RdX X bi (0 + d) (.int .i64 v) := by rw [Nat.zero_add]; exact hcd
          repeat' (first | (refine Znh ?_) | (refine Zhn ?_) | (refine Zsq fun K hK => ?_) | (with_reducible refine Znl ?_) | (refine ZrN 31 fun _ => ?_; refine Zv Zylss ?_) | (refine ZrN 32 fun _ => ?_; refine Zv Zmi ?_; refine Zv Zai ?_) | (refine ZrN 33 fun _ => ?_; (first | (refine Zv (Val_loadD1 rfl (RdX.rd (RdX.sub hu (by repeat (first | exact Sub.refl _ | assumption | exact Sub.left | apply Sub.cons | apply Sub.sv | apply Sub.app))))) ?_) | (refine Zv (Val_loadD1 rfl (RdX.rd (RdX.sub hcd' (by repeat (first | exact Sub.refl _ | assumption | exact Sub.left | apply Sub.cons | apply Sub.sv | apply Sub.app))))) ?_) | (refine Zv Zla ?_)); refine Zv Zmi ?_; refine Zcl (Enters_fn rfl) (h14d _ _ (by repeat (first | exact Mem.here | assumption | apply Mem.there | apply Mem.sv | apply Mem.app)) (by repeat (first | exact Wk.refl _ | apply Wk.keep1 | apply Wk.drop | apply Wk.sv | apply Wk.svD | apply Wk.appD))) ?_; refine Zv Zmv ?_; refine Zv Zxex ?_; refine Zv Zxex ?_; refine Zal 28 fun b28 => ?_; refine Zst ?_; refine Zv Zai ?_) | (refine ZrN 36 fun _ => ?_; refine Zv Zxadd ?_; refine Zv Zmi ?_) | (refine WP_cond_true rfl ?_) | (refine WP_cond_false rfl ?_) | (refine Zcd (fun hc => ?_) (fun hc => ?_) <;> (try (exfalso; omega))) | (with_reducible apply WP_skip) | (with_reducible apply WP_block) | (with_reducible apply WP_exit) | (with_reducible apply WP_ret) | (with_reducible apply QBlock_normal) | (refine Zhx ?_) | (with_reducible apply QBlock_hit) | (refine Zqb ?_) | (with_reducible apply QLoop_exit) | (refine Zhr ?_) | (with_reducible apply QBlock_ret) | (with_reducible apply QLoop_ret) | (refine WP_drawn (id := 34) [0, 1, 2, 3, 4, 5, 6, 7, 8, 9, 10, 11, 12, 13, 14, 15, 16, 17, 18] [] (k := 0) prog_mixed (by kernel_rfl) rfl ?_; refine Zew rfl Zmi ?_; (first | (refine Zew rfl (Val_neqS rfl rfl rfl rfl (by omega) (by omega)) ?_) | (refine Zew rfl (Zyneq) ?_)); refine Zew rfl Zmb ?_) | (refine Zati 18 ?_; (first | (refine Zew rfl Zxpt ?_) | (refine Zew rfl Zxpf ?_))) | (refine Zati 3 ?_; refine Zew rfl (Val_loadD1 rfl (RdX.rd (RdX.sub hu (by repeat (first | exact Sub.refl _ | assumption | exact Sub.left | apply Sub.cons | apply Sub.sv | apply Sub.app))))) ?_) | (refine Zati 3 ?_; refine Zew rfl (Val_loadD1 rfl (RdX.rd (RdX.sub hcd' (by repeat (first | exact Sub.refl _ | assumption | exact Sub.left | apply Sub.cons | apply Sub.sv | apply Sub.app))))) ?_) | (refine Zati 3 ?_; refine Zew rfl Zla ?_) | (refine Zati 4 ?_; refine Zew rfl Zmv ?_) | (refine Zati 5 ?_; refine Zew rfl Zia ?_) | (refine Zati 6 ?_; refine Zew rfl (Val_loadD1 rfl (RdX.rd (RdX.sub hu (by repeat (first | exact Sub.refl _ | assumption | exact Sub.left | apply Sub.cons | apply Sub.sv | apply Sub.app))))) ?_) | (refine Zati 6 ?_; refine Zew rfl (Val_loadD1 rfl (RdX.rd (RdX.sub hcd' (by repeat (first | exact Sub.refl _ | assumption | exact Sub.left | apply Sub.cons | apply Sub.sv | apply Sub.app))))) ?_) | (refine Zati 6 ?_; refine Zew rfl Zld ?_) | (refine Zati 7 ?_; refine Zew rfl Zmi ?_) | (refine Zati 8 ?_; refine Zew rfl Zia ?_) | (refine Zati 9 ?_; refine Zew rfl (Val_loadD1 rfl (RdX.rd (RdX.sub hu (by repeat (first | exact Sub.refl _ | assumption | exact Sub.left | apply Sub.cons | apply Sub.sv | apply Sub.app))))) ?_) | (refine Zati 9 ?_; refine Zew rfl (Val_loadD1 rfl (RdX.rd (RdX.sub hcd' (by repeat (first | exact Sub.refl _ | assumption | exact Sub.left | apply Sub.cons | apply Sub.sv | apply Sub.app))))) ?_) | (refine Zati 9 ?_; refine Zew rfl Zld ?_) | (refine Zati 10 ?_; refine Zew rfl Zmv ?_) | (refine Zati 11 ?_; refine Zew rfl Zia ?_) | (refine Zati 12 ?_; refine Zew rfl (Val_loadD1 rfl (RdX.rd (RdX.sub hu (by repeat (first | exact Sub.refl _ | assumption | exact Sub.left | apply Sub.cons | apply Sub.sv | apply Sub.app))))) ?_) | (refine Zati 12 ?_; refine Zew rfl (Val_loadD1 rfl (RdX.rd (RdX.sub hcd' (by repeat (first | exact Sub.refl _ | assumption | exact Sub.left | apply Sub.cons | apply Sub.sv | apply Sub.app))))) ?_) | (refine Zati 12 ?_; refine Zew rfl Zld ?_) | (refine Zati 13 ?_; refine Zew rfl Zmi ?_) | (refine Zati 14 ?_; refine Zew rfl Zia ?_) | (refine Zati 15 ?_; refine Zew rfl (Val_loadD1 rfl (RdX.rd (RdX.sub hu (by repeat (first | exact Sub.refl _ | assumption | exact Sub.left | apply Sub.cons | apply Sub.sv | apply Sub.app))))) ?_) | (refine Zati 15 ?_; refine Zew rfl (Val_loadD1 rfl (RdX.rd (RdX.sub hcd' (by repeat (first | exact Sub.refl _ | assumption | exact Sub.left | apply Sub.cons | apply Sub.sv | apply Sub.app))))) ?_) | (refine Zati 15 ?_; refine Zew rfl Zld ?_) | (refine Zati 16 ?_; refine Zec rfl (Enters_fn rfl) (fun X => span31_ret N w0 _ _ _) ?_) | (refine Zati 17 ?_; refine Zew rfl (Val_neqS rfl rfl rfl rfl (by omega) (by omega)) ?_) | (refine Zati 17 ?_; refine Zew rfl (Zyneq) ?_) | (refine Zes ?_) | (refine Zesp (fun hc => ?_) (fun hc => ?_) <;> (try (exfalso; omega))) | (with_reducible apply EWalk_nil) | (refine AWalk_0 ?_; refine ZisO ?_; apply shr; intro key) | (refine AnyO_done (by kernel_rfl) ?_; (try with_reducible apply noP_normal); try with_reducible exact key.out) | (with_reducible apply QAny_normal))
          exact QLoop_normal (d + 1) (.cons rfl .nil) (by repeat (first | exact Off.frame rfl | exact Off.refl _ _ | refine Off.frameT rfl rfl ?_ | refine Off.upd rfl ?_ | refine Off.updO rfl ?_)) (by repeat (first | exact Wk.refl _ | apply Wk.keep1 | apply Wk.drop | apply Wk.sv | apply Wk.svD | apply Wk.appD)) (by omega) (by omega)
        · repeat' (first | (refine Znh ?_) | (refine Zhn ?_) | (refine Zsq fun K hK => ?_) | (with_reducible refine Znl ?_) | (refine ZrN 31 fun _ => ?_; refine Zv Zxlss ?_) | (refine ZrN 37 fun _ => ?_; refine Zcl (Enters_fn rfl) (h13 _) ?_; refine Zv Zab ?_) | (refine WP_cond_true rfl ?_) | (refine WP_cond_false rfl ?_) | (refine Zcd (fun hc => ?_) (fun hc => ?_) <;> (try (exfalso; omega))) | (with_reducible apply WP_skip) | (with_reducible apply WP_block) | (with_reducible apply WP_exit) | (with_reducible apply WP_ret) | (with_reducible apply QBlock_normal) | (refine Zhx ?_) | (with_reducible apply QBlock_hit) | (refine Zqb ?_) | (with_reducible apply QLoop_exit) | (refine Zhr ?_) | (with_reducible apply QBlock_ret) | (with_reducible apply QLoop_ret))
          exact QBody_ret1 rfl (rfl : _ = Value.bool _) ⟨rfl, (by repeat (first | exact Wk.refl _ | apply Wk.keep1 | apply Wk.drop | apply Wk.sv | apply Wk.svD | apply Wk.appD))⟩
end
end Go.Proofs.Ytlpahkmfjpjheaa
end
