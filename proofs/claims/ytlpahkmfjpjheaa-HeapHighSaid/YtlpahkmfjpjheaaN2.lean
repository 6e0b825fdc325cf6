/- The law HeapHigh holds: for every input it returns true, and its arguments read as they did. -/
import Derived.Test.YtlpahkmfjpjheaaN1
import Derived.Test.YtlpahkmfjpjheaaM0
section
namespace Go.Proofs.Ytlpahkmfjpjheaa
open Go.ChangeShapes Go.WideShapes Go.ChangeAt Go.RowKit
theorem high_all (N : Nat) (w0 : World) (L : Hp) (g : Bg) (hA : HeapAt N w0 g) (low high wet : Nat) (b1 : low ≤ 255) (b2 : high ≤ 255) (b3 : wet ≤ 255) : Ret Try.prog N w0 L 9 [heapV g, .int .u8 (low : Int), .int .u8 (high : Int), .int .u8 (wet : Int)].toArray (.bool true) :=
  two_ways (high_law0 N w0 L g hA low high wet) (high_law1 N w0 L g hA low high wet b1 b2 b3)
set_option maxRecDepth 100000 in
theorem heapHigh_lifted (os : Os) (started : os.Started) (H : Type) (enc : TypeId × Value → H) :
    ReturnsInHanded {} Try.checked os 9 .any (Rows.heapHighSpec.pre6 enc Try.prog Try.f9 Rows.heapHighRow.domain false) (Rows.heapHighSpec.post enc Try.prog Try.f9 false true false false) := by
  refine returnsInHanded_of_change (C := Try.checked) try_own started (by kernel_rfl) Try.func9
    (ChangeSpec.witness6 (enc := enc) (C := Try.checked) false ⟨#[], #[.agg #[.slice none 0 0, .slice none 0 0, .int .i64 0, .int .i64 0, .int .i64 0, .int .i64 0, .slice none 0 0], .int .u8 0, .int .u8 0, .int .u8 0], []⟩ 8 (by kernel_rfl) (by kernel_rfl) (by kernel_rfl) (by kernel_rfl)) ?_
  intro W base args ds gs before hval hW hcnd _
  have hW' := hW
  obtain ⟨p, q, hA, hV, rfl, hfz, hnd⟩ := hW
  have hA0 := hA
  rw [Try.params9] at hA hval
  obtain ⟨v0, v1, v2, v3, d0, d1, d2, d3, p0, p1, p2, p3, hargs, rfl, rfl, h0, h1, h2, h3⟩ := trodAll_four hA
  obtain ⟨rfl, rfl⟩ := trodVars_none hV
  obtain rfl : args = #[v0, v1, v2, v3] := by cases args; simp_all
  obtain ⟨g, rfl, hAt, _⟩ := heap_read (hval 0 27 v0 rfl rfl) h0
  obtain ⟨x1, rfl, _, _, w1⟩ := open_int Try.underlying5 (hval 1 5 v1 rfl rfl) h1
  obtain ⟨x2, rfl, _, _, w2⟩ := open_int Try.underlying5 (hval 2 5 v2 rfl rfl) h2
  obtain ⟨x3, rfl, _, _, w3⟩ := open_int Try.underlying5 (hval 3 5 v3 rfl rfl) h3
  obtain ⟨n1, rfl, b1⟩ := u8_nat w1
  obtain ⟨n2, rfl, b2⟩ := u8_nat w2
  obtain ⟨n3, rfl, b3⟩ := u8_nat w3
  exact (calls_of_ret (high_all _ W [] g hAt n1 n2 n3 b1 b2 b3)).mono fun e W' ⟨he, hb⟩ => ⟨_, he, post_law hW' rfl try_laid (by rw [Try.params9]; kernel_rfl) hb rfl rfl rfl (by rfl) Try.underlying4⟩
theorem heapHigh_holds : Rows.HeapHighSaid :=
  OpenClaim.holds_of_wide 9 Try.f9 rfl rfl rfl rfl rfl rfl rfl ⟨rfl, rfl, rfl, rfl, rfl⟩ rfl rfl rfl rfl rfl (by kernel_rfl) Try.func9 (by kernel_rfl)
    (of_decide_eq_true (by kernel_rfl)) (by unfold Func.isWrapper; first | (rw [if_pos (by decide +kernel)]; kernel_rfl) | (rw [if_neg (by decide +kernel)]; exact ⟨rfl, rfl⟩))
    (fun os started H enc _ => heapHigh_lifted os started H enc)
end Go.Proofs.Ytlpahkmfjpjheaa
end
