/- The law HeapMore holds: for every input it returns true, and its arguments read as they did. -/
import Derived.Test.YtlpahkmfjpjheaaN2
import Derived.Test.YtlpahkmfjpjheaaM0
section
namespace Go.Proofs.Ytlpahkmfjpjheaa
open Go.ChangeShapes Go.WideShapes Go.ChangeAt Go.RowKit
theorem more_all (N : Nat) (w0 : World) (L : Hp) (g : Bg) (hA : HeapAt N w0 g) (l : Lk) (wh at_ what : Nat) (h1 : wh ≤ 255) (h2 : at_ ≤ 255) (h3 : what ≤ 255) : Ret Try.prog N w0 L 11 [heapV g, .agg (lkL l).toArray, .int .u8 (wh : Int), .int .u8 (at_ : Int), .int .u8 (what : Int)].toArray (.bool true) := by
  cases h4 : longB g.h with
  | true => exact more_law0 N w0 L g hA l wh at_ what (.inl h4)
  | false =>
    cases h5 : vB g.h with
    | false => exact more_law0 N w0 L g hA l wh at_ what (.inr h5)
    | true => exact more_law1 N w0 L g hA l wh at_ what h1 h2 h3 h4 h5
theorem und61 : ∃ fs, Try.prog.underlying 61 = some (.struct fs) := ⟨_, Try.underlying61⟩
set_option maxRecDepth 100000 in
theorem look_read {H : Type} {enc : TypeId × Value → H} {W : World} {base : Nat} {v : Value} {d : DataW H} {ps : List MemPlace} (hv : Value.okWide Try.prog W .any base 61 v) (h : DataW.Trod enc Try.prog W 0 (fun _ => true) true 61 v d ps) :
    ∃ l : Lk, v = .agg (lkL l).toArray := by
  obtain ⟨fs, hu⟩ := und61
  obtain ⟨cs, rfl, _⟩ := okWide_struct hu hv
  obtain ⟨fuel, hf⟩ := h
  have hfit := kinds_fit lk_kinds hf
  have hc : (Value.agg cs).cells.toList = cs.toList := by simp [Value.cells]
  rw [hc] at hfit
  obtain ⟨l, rfl⟩ : ∃ l : List Value, cs = l.toArray := ⟨cs.toList, by simp⟩
  simp only [List.toList_toArray] at hfit
  cases hfit with | cons a this =>
  cases this with | cons b this =>
  cases this with | cons c this =>
  cases this with | cons e this =>
  cases this
  obtain ⟨a, rfl, _⟩ := a
  obtain ⟨b, rfl, _⟩ := b
  obtain ⟨c, rfl, _⟩ := c
  obtain ⟨e, rfl, _⟩ := e
  exact ⟨⟨a, b, c, e⟩, rfl⟩
set_option maxRecDepth 100000 in
theorem heapMore_lifted (os : Os) (started : os.Started) (H : Type) (enc : TypeId × Value → H) :
    ReturnsInHanded {} Try.checked os 11 .any (Rows.heapMoreSpec.pre6 enc Try.prog Try.f11 Rows.heapMoreRow.domain false) (Rows.heapMoreSpec.post enc Try.prog Try.f11 false true false false) := by
  refine returnsInHanded_of_change (C := Try.checked) try_own started (by kernel_rfl) Try.func11
    (ChangeSpec.witness6 (enc := enc) (C := Try.checked) false ⟨#[], #[.agg #[.slice none 0 0, .slice none 0 0, .int .i64 0, .int .i64 0, .int .i64 0, .int .i64 0, .slice none 0 0], .agg #[.int .i64 0, .int .i64 0, .int .i64 0, .int .i64 0], .int .u8 0, .int .u8 0, .int .u8 0], []⟩ 8 (by kernel_rfl) (by kernel_rfl) (by kernel_rfl) (by kernel_rfl)) ?_
  intro W base args ds gs before hval hW hcnd _
  have hW' := hW
  obtain ⟨p, q, hA, hV, rfl, hfz, hnd⟩ := hW
  have hA0 := hA
  rw [Try.params11] at hA hval
  obtain ⟨v0, vs0, d0, ds0, p0, q0, ha0, rfl, rfl, h0, hr0⟩ := trodAll_cons hA
  obtain ⟨v1, vs1, d1, ds1, p1, q1, rfl, rfl, rfl, h1, hr1⟩ := trodAll_cons hr0
  obtain ⟨v2, vs2, d2, ds2, p2, q2, rfl, rfl, rfl, h2, hr2⟩ := trodAll_cons hr1
  obtain ⟨v3, vs3, d3, ds3, p3, q3, rfl, rfl, rfl, h3, hr3⟩ := trodAll_cons hr2
  obtain ⟨v4, vs4, d4, ds4, p4, q4, rfl, rfl, rfl, h4, hr4⟩ := trodAll_cons hr3
  obtain ⟨rfl, rfl, rfl⟩ := trodAll_nil hr4
  obtain ⟨rfl, rfl⟩ := trodVars_none hV
  obtain rfl : args = #[v0, v1, v2, v3, v4] := by cases args; simp_all
  obtain ⟨g, rfl, hAt, _⟩ := heap_read (hval 0 27 v0 rfl rfl) h0
  obtain ⟨l, rfl⟩ := look_read (hval 1 61 v1 rfl rfl) h1
  obtain ⟨x2, rfl, _, _, w2⟩ := open_int Try.underlying5 (hval 2 5 v2 rfl rfl) h2
  obtain ⟨x3, rfl, _, _, w3⟩ := open_int Try.underlying5 (hval 3 5 v3 rfl rfl) h3
  obtain ⟨x4, rfl, _, _, w4⟩ := open_int Try.underlying5 (hval 4 5 v4 rfl rfl) h4
  obtain ⟨n2, rfl, b2⟩ := u8_nat w2
  obtain ⟨n3, rfl, b3⟩ := u8_nat w3
  obtain ⟨n4, rfl, b4⟩ := u8_nat w4
  exact (calls_of_ret (more_all _ W [] g hAt l n2 n3 n4 b2 b3 b4)).mono fun e W' ⟨he, hb⟩ => ⟨_, he, post_law hW' rfl try_laid (by rw [Try.params11]; kernel_rfl) hb rfl rfl rfl (by rfl) Try.underlying4⟩
theorem heapMore_holds : Rows.HeapMoreSaid :=
  OpenClaim.holds_of_wide 11 Try.f11 rfl rfl rfl rfl rfl rfl rfl ⟨rfl, rfl, rfl, rfl, rfl⟩ rfl rfl rfl rfl rfl (by kernel_rfl) Try.func11 (by kernel_rfl)
    (of_decide_eq_true (by kernel_rfl)) (by unfold Func.isWrapper; first | (rw [if_pos (by decide +kernel)]; kernel_rfl) | (rw [if_neg (by decide +kernel)]; exact ⟨rfl, rfl⟩))
    (fun os started H enc _ => heapMore_lifted os started H enc)
end Go.Proofs.Ytlpahkmfjpjheaa
end
