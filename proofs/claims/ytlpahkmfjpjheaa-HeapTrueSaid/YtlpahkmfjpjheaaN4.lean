/- The law HeapTrue holds: for every input it returns true, and its arguments read as they did. -/
import Derived.Test.YtlpahkmfjpjheaaN3
import Derived.Test.YtlpahkmfjpjheaaM0
section
namespace Go.Proofs.Ytlpahkmfjpjheaa
open Go.ChangeShapes Go.WideShapes Go.ChangeAt Go.RowKit
theorem true_lawA (N : Nat) (w0 : World) (L : Hp) (g : Bg) (hA : HeapAt N w0 g) (Ab : Option Addr) (cb : Nat) (by_ : List Nat) (hB : ByAt N w0 Ab by_) : Ret Try.prog N w0 L 6 [heapV g, .slice Ab by_.length cb].toArray (.bool true) :=
  two_ways (true_law0 N w0 L g hA Ab by_.length cb) (true_law1 N w0 L g hA Ab cb by_ hB)
theorem u16_kinds : kindsOf Try.prog 8 109 = some [.i .u16] := by kernel_rfl
theorem by_kinds : kindsOf Try.prog 8 50 = some [.s 109] := by kernel_rfl
section
variable {H : Type} {enc : TypeId × Value → H} {W : World}
theorem u16_nat {x : Int} (h : (Lit.int .u16 x).wf = true) : ∃ n : Nat, x = n ∧ n ≤ 65535 := by
  have : 0 ≤ x ∧ x ≤ 65535 := by simpa [Lit.wf, IntKind.min, IntKind.max, IntKind.signed, IntKind.bits] using h
  exact ⟨x.toNat, by omega, by omega⟩
set_option maxRecDepth 100000 in
theorem by_read {base : Nat} {v : Value} {d : DataW H} {ps : List MemPlace} (hv : Value.okWide Try.prog W .any base 50 v) (h : DataW.Trod enc Try.prog W 0 (fun _ => true) true 50 v d ps) :
    ∃ (Ab : Option Addr) (cb : Nat) (by_ : List Nat), v = .slice Ab by_.length cb ∧ by_.length ≤ maxLen ∧ ByAt W.heap.size W Ab by_ := by
  obtain ⟨a, len, cap, rfl⟩ := okWide_slice Try.underlying50 hv
  obtain ⟨fuel, hf⟩ := h
  have hfit := kinds_fit by_kinds hf
  have hc : (Value.slice a len cap).cells.toList = [Value.slice a len cap] := by simp [Value.cells]
  rw [hc] at hfit
  cases hfit with | cons r1 hfit =>
  obtain ⟨A1, n1, c1, rows1, he, hl1, hl2, hl3, hr1, ha1⟩ := rows_of u16_kinds (n := 0) (by kernel_rfl) r1
  simp only [Value.slice.injEq] at he
  obtain ⟨rfl, rfl, rfl⟩ := he
  obtain ⟨bys, rfl, hw⟩ := rows_wf (f := fun n : Nat => [Value.int .u16 (n : Int)]) (p := fun n => n ≤ 65535) (rows := rows1) (fun r hr => by
    have := hr1 r hr
    cases this with | cons a this =>
    cases this
    obtain ⟨m, rfl, wm⟩ := a
    obtain ⟨n, rfl, hn⟩ := u16_nat wm
    exact ⟨n, rfl, hn⟩)
  simp only [List.length_map] at hl3
  subst hl3
  refine ⟨a, cap, bys, rfl, Nat.le_trans hl1 hl2, ⟨fun k hk => ?_, hw⟩⟩
  obtain ⟨b, off, h1, h2, h3⟩ := ha1 k (by simpa using hk)
  refine ⟨b, off, h1, h2, ?_⟩
  have := h3 0 (.int .u16 (bys[k] : Int)) (by simp)
  simpa using this
end
set_option maxRecDepth 100000 in
theorem heapTrue_lifted (os : Os) (started : os.Started) (H : Type) (enc : TypeId × Value → H) :
    ReturnsInHanded {} Try.checked os 6 .any (Rows.heapTrueSpec.pre6 enc Try.prog Try.f6 Rows.heapTrueRow.domain false) (Rows.heapTrueSpec.post enc Try.prog Try.f6 false true false false) := by
  refine returnsInHanded_of_change (C := Try.checked) try_own started (by kernel_rfl) Try.func6
    (ChangeSpec.witness6 (enc := enc) (C := Try.checked) false ⟨#[], #[.agg #[.slice none 0 0, .slice none 0 0, .int .i64 0, .int .i64 0, .int .i64 0, .int .i64 0, .slice none 0 0], .slice none 0 0], []⟩ 8 (by kernel_rfl) (by kernel_rfl) (by kernel_rfl) (by kernel_rfl)) ?_
  intro W base args ds gs before hval hW hcnd _
  have hW' := hW
  obtain ⟨p, q, hA, hV, rfl, hfz, hnd⟩ := hW
  have hA0 := hA
  rw [Try.params6] at hA hval
  obtain ⟨v0, v1, d0, d1, p0, p1, hargs, rfl, rfl, h0, h1⟩ := trodAll_two hA
  obtain ⟨rfl, rfl⟩ := trodVars_none hV
  obtain rfl : args = #[v0, v1] := by cases args; simp_all
  obtain ⟨g, rfl, hAt, _⟩ := heap_read (hval 0 27 v0 rfl rfl) h0
  obtain ⟨Ab, cb, by_, rfl, _, hB⟩ := by_read (hval 1 50 v1 rfl rfl) h1
  exact (calls_of_ret (true_lawA _ W [] g hAt Ab cb by_ hB)).mono fun e W' ⟨he, hb⟩ => ⟨_, he, post_law hW' rfl try_laid (by rw [Try.params6]; kernel_rfl) hb rfl rfl rfl (by rfl) Try.underlying4⟩
theorem heapTrue_holds : Rows.HeapTrueSaid :=
  OpenClaim.holds_of_wide 6 Try.f6 rfl rfl rfl rfl rfl rfl rfl ⟨rfl, rfl, rfl, rfl, rfl⟩ rfl rfl rfl rfl rfl (by kernel_rfl) Try.func6 (by kernel_rfl)
    (of_decide_eq_true (by kernel_rfl)) (by unfold Func.isWrapper; first | (rw [if_pos (by decide +kernel)]; kernel_rfl) | (rw [if_neg (by decide +kernel)]; exact ⟨rfl, rfl⟩))
    (fun os started H enc _ => heapTrue_lifted os started H enc)
end Go.Proofs.Ytlpahkmfjpjheaa
end
