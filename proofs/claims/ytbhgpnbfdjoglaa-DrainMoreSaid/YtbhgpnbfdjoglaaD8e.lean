/- The law DrainMore holds: for every input it returns true, and its arguments read as they did. -/
import Derived.Test.YtbhgpnbfdjoglaaC6
import Derived.Test.YtbhgpnbfdjoglaaD8a
section
namespace Go.Proofs.Ytbhgpnbfdjoglaa
open Go.ChangeShapes Go.WideShapes Go.ChangeAt Go.RowKit
set_option maxRecDepth 100000 in
theorem drainMore_lifted (os : Os) (started : os.Started) (H : Type) (enc : TypeId × Value → H) :
    ReturnsInHanded {} Try.checked os 9 .any (Rows.drainMoreSpec.pre6 enc Try.prog Try.f9 Rows.drainMoreRow.domain false) (Rows.drainMoreSpec.post enc Try.prog Try.f9 false true false false) := by
  refine returnsInHanded_of_change (C := Try.checked) try_own started (by kernel_rfl) Try.func9
    (ChangeSpec.witness6 (enc := enc) (C := Try.checked) false ⟨#[], #[.agg #[.slice none 0 0, .slice none 0 0, .slice none 0 0, .slice none 0 0], .agg #[.int .i64 0, .int .i64 0], .agg #[.int .i64 0, .int .i64 0, .int .i64 0], .int .u8 0, .int .u8 0], []⟩ 8 (by kernel_rfl) (by kernel_rfl) (by kernel_rfl) (by kernel_rfl)) ?_
  intro W base args ds gs before hval hW hcnd _
  have hW' := hW
  obtain ⟨p, q, hA, hV, rfl, hfz, hnd⟩ := hW
  have hA0 := hA
  rw [Try.params9] at hA hval
  obtain ⟨v0, v1, v2, v3, v4, d0, d1, d2, d3, d4, p0, p1, p2, p3, p4, hargs, rfl, rfl, h0, h1, h2, h3, h4⟩ := trodAll_five hA
  obtain ⟨rfl, rfl⟩ := trodVars_none hV
  obtain rfl : args = #[v0, v1, v2, v3, v4] := by cases args; simp_all
  obtain ⟨g, rfl, hAt, hWf⟩ := drain_read (hval 0 29 v0 rfl rfl) h0
  obtain ⟨x1, rfl, w1⟩ := way_read (hval 1 32 v1 rfl rfl) h1
  obtain ⟨x2, rfl, w2⟩ := right_read (hval 2 57 v2 rfl rfl) h2
  obtain ⟨x3, rfl, _, _, w3⟩ := open_int Try.underlying5 (hval 3 5 v3 rfl rfl) h3
  obtain ⟨n3, rfl, b3⟩ := u8_nat w3
  obtain ⟨x4, rfl, _, _, w4⟩ := open_int Try.underlying5 (hval 4 5 v4 rfl rfl) h4
  obtain ⟨n4, rfl, b4⟩ := u8_nat w4
  exact (calls_of_ret (more_all _ W [] g hAt x1 w1 x2 w2 n3 b3 n4 b4)).mono fun e W' ⟨he, hb⟩ => ⟨_, he, post_law hW' rfl try_laid (by rw [Try.params9]; kernel_rfl) hb rfl rfl rfl (by rfl) Try.underlying4⟩
theorem drainMore_holds : Rows.DrainMoreSaid :=
  OpenClaim.holds_of_wide 9 Try.f9 rfl rfl rfl rfl rfl rfl rfl ⟨rfl, rfl, rfl, rfl, rfl⟩ rfl rfl rfl rfl rfl (by kernel_rfl) Try.func9 (by kernel_rfl)
    (of_decide_eq_true (by kernel_rfl)) (by unfold Func.isWrapper; first | (rw [if_pos (by decide +kernel)]; kernel_rfl) | (rw [if_neg (by decide +kernel)]; exact ⟨rfl, rfl⟩))
    (fun os started H enc _ => drainMore_lifted os started H enc)
end Go.Proofs.Ytbhgpnbfdjoglaa
end
