/- The states of a region whose order is left open, each by what has come up. -/
import Derived.Test.YtakmopiceopcpaaFloat2
section
namespace Go.Proofs.Ytakmopiceopcpaa
open Go.RowKit
section
variable {P : Program} {r : Option Nat} {n N : Nat} {w0 : World} {ops : Array Oper} {Q : Post} {ds : List Deferred} {e : Env} {L B : Hp} {fl T : List Nat} {k2 n0 fuel : Nat}
theorem Sub.appK {X : Hp} (h : Sub B L) : Sub (X ++ B) (X ++ L) := by
  obtain ⟨L0, h⟩ := h
  exact ⟨L0, by rw [List.append_assoc]; exact h.append_left X⟩
/-- The state, alone: a look ahead of a rule. -/
theorem ZgO (D : List Nat) (h : AnyO P r n N w0 ops Q ds fuel (doneOf n0 D) e L) : AnyO P r n N w0 ops Q ds fuel (doneOf n0 D) e L := h
theorem ZgC (D : List Nat) (h : AnyC P r n N w0 ops Q ds fl B T k2 fuel (doneOf n0 D) e L) : AnyC P r n N w0 ops Q ds fl B T k2 fuel (doneOf n0 D) e L := h
theorem ZO1 (D : List Nat) (i : Nat) (D1 : List Nat) {o1 : Oper} (h1 : OPS P r n N w0 ops [o1] (QAny P r n N w0 ops ds Q fuel (doneOf n0 D1)) e ds L) (hr : Region.ready .any ops (doneOf n0 D) = [i] := by kernel_rfl) (e1 : (doneOf n0 D).setIfInBounds i true = doneOf n0 D1 := by kernel_rfl) (p1 : ops[i]? = some o1 := by rfl) : AnyO P r n N w0 ops Q ds (fuel + 1) (doneOf n0 D) e L := by
  intro a w hs he hd hI
  refine ⟨(fun h0 => by rw [hr] at h0; cases h0), fun q hq => ?_⟩
  rw [hr] at hq
  rcases List.mem_cons.1 hq with rfl | hq
  · exact wpOpIn_of_OPS p1 (by rw [e1]; exact h1) hs he hd hI
  · cases hq
theorem ZC1 (D : List Nat) (i : Nat) (D1 : List Nat) {o1 : Oper} (h1 : OPS P r n N w0 ops [o1] (QC ds fl Q (AnyC P r n N w0 ops Q ds fl B T k2 fuel (doneOf n0 D1))) e ds L) (hs : Sub B L := by repeat (first | exact Sub.refl _ | apply Sub.keep | apply Sub.appK | apply Sub.sv | apply Sub.cons | apply Sub.app)) (hr : Region.ready .any ops (doneOf n0 D) = [i] := by kernel_rfl) (e1 : (doneOf n0 D).setIfInBounds i true = doneOf n0 D1 := by kernel_rfl) (p1 : ops[i]? = some o1 := by rfl) : AnyC P r n N w0 ops Q ds fl B T k2 (fuel + 1) (doneOf n0 D) e L := by
  refine ⟨hs, by rw [hr]; simp, fun q hq => ?_⟩
  rw [hr] at hq
  rcases List.mem_cons.1 hq with rfl | hq
  · exact ⟨o1, p1, by rw [e1]; exact h1⟩
  · cases hq
theorem ZC2 (D : List Nat) (i : Nat) (D1 : List Nat) (j : Nat) (D2 : List Nat) {o1 o2 : Oper} (h1 : OPS P r n N w0 ops [o1] (QC ds fl Q (AnyC P r n N w0 ops Q ds fl B T k2 fuel (doneOf n0 D1))) e ds L) (h2 : OPS P r n N w0 ops [o2] (QC ds fl Q (AnyC P r n N w0 ops Q ds fl B T k2 fuel (doneOf n0 D2))) e ds L) (hs : Sub B L := by repeat (first | exact Sub.refl _ | apply Sub.keep | apply Sub.appK | apply Sub.sv | apply Sub.cons | apply Sub.app)) (hr : Region.ready .any ops (doneOf n0 D) = [i, j] := by kernel_rfl) (e1 : (doneOf n0 D).setIfInBounds i true = doneOf n0 D1 := by kernel_rfl) (e2 : (doneOf n0 D).setIfInBounds j true = doneOf n0 D2 := by kernel_rfl) (p1 : ops[i]? = some o1 := by rfl) (p2 : ops[j]? = some o2 := by rfl) : AnyC P r n N w0 ops Q ds fl B T k2 (fuel + 1) (doneOf n0 D) e L := by
  refine ⟨hs, by rw [hr]; simp, fun q hq => ?_⟩
  rw [hr] at hq
  rcases List.mem_cons.1 hq with rfl | hq
  · exact ⟨o1, p1, by rw [e1]; exact h1⟩
  · skip
    rcases List.mem_cons.1 hq with rfl | hq
    · exact ⟨o2, p2, by rw [e2]; exact h2⟩
    · cases hq
theorem ZC3 (D : List Nat) (i : Nat) (D1 : List Nat) (j : Nat) (D2 : List Nat) (k : Nat) (D3 : List Nat) {o1 o2 o3 : Oper} (h1 : OPS P r n N w0 ops [o1] (QC ds fl Q (AnyC P r n N w0 ops Q ds fl B T k2 fuel (doneOf n0 D1))) e ds L) (h2 : OPS P r n N w0 ops [o2] (QC ds fl Q (AnyC P r n N w0 ops Q ds fl B T k2 fuel (doneOf n0 D2))) e ds L) (h3 : OPS P r n N w0 ops [o3] (QC ds fl Q (AnyC P r n N w0 ops Q ds fl B T k2 fuel (doneOf n0 D3))) e ds L) (hs : Sub B L := by repeat (first | exact Sub.refl _ | apply Sub.keep | apply Sub.appK | apply Sub.sv | apply Sub.cons | apply Sub.app)) (hr : Region.ready .any ops (doneOf n0 D) = [i, j, k] := by kernel_rfl) (e1 : (doneOf n0 D).setIfInBounds i true = doneOf n0 D1 := by kernel_rfl) (e2 : (doneOf n0 D).setIfInBounds j true = doneOf n0 D2 := by kernel_rfl) (e3 : (doneOf n0 D).setIfInBounds k true = doneOf n0 D3 := by kernel_rfl) (p1 : ops[i]? = some o1 := by rfl) (p2 : ops[j]? = some o2 := by rfl) (p3 : ops[k]? = some o3 := by rfl) : AnyC P r n N w0 ops Q ds fl B T k2 (fuel + 1) (doneOf n0 D) e L := by
  refine ⟨hs, by rw [hr]; simp, fun q hq => ?_⟩
  rw [hr] at hq
  rcases List.mem_cons.1 hq with rfl | hq
  · exact ⟨o1, p1, by rw [e1]; exact h1⟩
  · skip
    rcases List.mem_cons.1 hq with rfl | hq
    · exact ⟨o2, p2, by rw [e2]; exact h2⟩
    · skip
      rcases List.mem_cons.1 hq with rfl | hq
      · exact ⟨o3, p3, by rw [e3]; exact h3⟩
      · cases hq
theorem ZC4 (D : List Nat) (i : Nat) (D1 : List Nat) (j : Nat) (D2 : List Nat) (k : Nat) (D3 : List Nat) (m : Nat) (D4 : List Nat) {o1 o2 o3 o4 : Oper} (h1 : OPS P r n N w0 ops [o1] (QC ds fl Q (AnyC P r n N w0 ops Q ds fl B T k2 fuel (doneOf n0 D1))) e ds L) (h2 : OPS P r n N w0 ops [o2] (QC ds fl Q (AnyC P r n N w0 ops Q ds fl B T k2 fuel (doneOf n0 D2))) e ds L) (h3 : OPS P r n N w0 ops [o3] (QC ds fl Q (AnyC P r n N w0 ops Q ds fl B T k2 fuel (doneOf n0 D3))) e ds L) (h4 : OPS P r n N w0 ops [o4] (QC ds fl Q (AnyC P r n N w0 ops Q ds fl B T k2 fuel (doneOf n0 D4))) e ds L) (hs : Sub B L := by repeat (first | exact Sub.refl _ | apply Sub.keep | apply Sub.appK | apply Sub.sv | apply Sub.cons | apply Sub.app)) (hr : Region.ready .any ops (doneOf n0 D) = [i, j, k, m] := by kernel_rfl) (e1 : (doneOf n0 D).setIfInBounds i true = doneOf n0 D1 := by kernel_rfl) (e2 : (doneOf n0 D).setIfInBounds j true = doneOf n0 D2 := by kernel_rfl) (e3 : (doneOf n0 D).setIfInBounds k true = doneOf n0 D3 := by kernel_rfl) (e4 : (doneOf n0 D).setIfInBounds m true = doneOf n0 D4 := by kernel_rfl) (p1 : ops[i]? = some o1 := by rfl) (p2 : ops[j]? = some o2 := by rfl) (p3 : ops[k]? = some o3 := by rfl) (p4 : ops[m]? = some o4 := by rfl) : AnyC P r n N w0 ops Q ds fl B T k2 (fuel + 1) (doneOf n0 D) e L := by
  refine ⟨hs, by rw [hr]; simp, fun q hq => ?_⟩
  rw [hr] at hq
  rcases List.mem_cons.1 hq with rfl | hq
  · exact ⟨o1, p1, by rw [e1]; exact h1⟩
  · skip
    rcases List.mem_cons.1 hq with rfl | hq
    · exact ⟨o2, p2, by rw [e2]; exact h2⟩
    · skip
      rcases List.mem_cons.1 hq with rfl | hq
      · exact ⟨o3, p3, by rw [e3]; exact h3⟩
      · skip
        rcases List.mem_cons.1 hq with rfl | hq
        · exact ⟨o4, p4, by rw [e4]; exact h4⟩
        · cases hq
/-- What is left waits for all that floats. -/
theorem ZCl (D : List Nat) (h : AnyO P r n N w0 ops Q ds k2 (doneOf n0 D) e L) (hs : Sub B L := by repeat (first | exact Sub.refl _ | apply Sub.keep | apply Sub.appK | apply Sub.sv | apply Sub.cons | apply Sub.app)) (hl : lateChk ops T (doneOf n0 D) = true := by kernel_rfl) : AnyC P r n N w0 ops Q ds fl B T k2 0 (doneOf n0 D) e L := AnyC_late hs hl h
theorem ZCd (D : List Nat) (h : Q .normal e ds L) (hs : Sub B L := by repeat (first | exact Sub.refl _ | apply Sub.keep | apply Sub.appK | apply Sub.sv | apply Sub.cons | apply Sub.app)) (hr : Region.ready .any ops (doneOf n0 D) = [] := by kernel_rfl) (hl : lateChk ops T (doneOf n0 D) = true := by kernel_rfl) : AnyC P r n N w0 ops Q ds fl B T 0 0 (doneOf n0 D) e L := AnyC_done hs hr h hl
theorem ZOd (D : List Nat) (h : Q .normal e ds L) (hr : Region.ready .any ops (doneOf n0 D) = [] := by kernel_rfl) : AnyO P r n N w0 ops Q ds 0 (doneOf n0 D) e L := AnyO_done hr h
/-! The shape of what is to be shown: a look ahead of many rules. -/
theorem GiP {r : Option Nat} {l : List Oper} (h : OPS P r n N w0 ops l Q e ds L) : OPS P r n N w0 ops l Q e ds L := h
theorem GiW {c : Code} (h : WP P r n N w0 c Q e ds L) : WP P r n N w0 c Q e ds L := h
theorem GiE {l : List Nat} {K : Env → Prop} (h : EWalk P n N w0 ops T L l e K) : EWalk P n N w0 ops T L l e K := h
theorem GiO {listed : Array Bool} (h : AnyO P r n N w0 ops Q ds fuel listed e L) : AnyO P r n N w0 ops Q ds fuel listed e L := h
theorem GiC {listed : Array Bool} (h : AnyC P r n N w0 ops Q ds fl B T k2 fuel listed e L) : AnyC P r n N w0 ops Q ds fl B T k2 fuel listed e L := h
end
end Go.Proofs.Ytakmopiceopcpaa
end
