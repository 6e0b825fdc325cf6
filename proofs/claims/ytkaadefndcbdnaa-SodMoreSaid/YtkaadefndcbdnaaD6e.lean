/- The law SodMore holds: for every input it returns true, and its arguments read as they did. -/
import Derived.Test.YtkaadefndcbdnaaC5
import Derived.Test.YtkaadefndcbdnaaD6
namespace Go.Proofs.Ytkaadefndcbdnaa
open Go.ChangeShapes Go.WideShapes Go.ChangeAt Go.RowKit
theorem smore_all (N : Nat) (w0 : World) (L : Hp) (g : Fg) (hA : SodAt N w0 g) (l : Lg) (_ : WfI l.day ∧ WfI l.lo ∧ WfI l.hi) (wh : Nat) (h1 : wh ≤ 255) (what : Nat) (h2 : what ≤ 255) : Ret Try.prog N w0 L 11 [sodV g, .agg (lgL l).toArray, .int .u8 (wh : Int), .int .u8 (what : Int)].toArray (.bool true) := by
  cases h : vB g.s with
  | false => exact smore_law0 N w0 L g hA l wh what h
  | true => exact smore_law1 N w0 L g hA l wh what h1 h2 h
set_option maxRecDepth 100000 in
theorem sodMore_lifted (os : Os) (started : os.Started) (H : Type) (enc : TypeId × Value → H) :
    ReturnsInHanded {} Try.checked os 11 .any (Rows.sodMoreSpec.pre6 enc Try.prog Try.f11 Rows.sodMoreRow.domain false) (Rows.sodMoreSpec.post enc Try.prog Try.f11 false true false false) := by
  refine returnsInHanded_of_change (C := Try.checked) try_own started (by kernel_rfl) Try.func11
    (ChangeSpec.witness6 (enc := enc) (C := Try.checked) false ⟨#[], #[.agg #[.slice none 0 0, .slice none 0 0, .slice none 0 0], .agg #[.int .i64 0, .int .i64 0, .int .i64 0], .int .u8 0, .int .u8 0], []⟩ 8 (by kernel_rfl) (by kernel_rfl) (by kernel_rfl) (by kernel_rfl)) ?_
  intro W base args ds gs before hval hW hcnd _
  have hW' := hW
  obtain ⟨p, q, hA, hV, rfl, hfz, hnd⟩ := hW
  have hA0 := hA
  rw [Try.params11] at hA hval
  obtain ⟨v0, v1, v2, v3, d0, d1, d2, d3, p0, p1, p2, p3, hargs, rfl, rfl, h0, h1, h2, h3⟩ := trodAll_four hA
  obtain ⟨rfl, rfl⟩ := trodVars_none hV
  obtain rfl : args = #[v0, v1, v2, v3] := by cases args; simp_all
  obtain ⟨g, rfl, hAt, _⟩ := sod_read (hval 0 26 v0 rfl rfl) h0
  obtain ⟨x1, rfl, w1⟩ := log_read (hval 1 60 v1 rfl rfl) h1
  obtain ⟨x2, rfl, _, _, w2⟩ := open_int Try.underlying5 (hval 2 5 v2 rfl rfl) h2
  obtain ⟨n2, rfl, b2⟩ := u8_nat w2
  obtain ⟨x3, rfl, _, _, w3⟩ := open_int Try.underlying5 (hval 3 5 v3 rfl rfl) h3
  obtain ⟨n3, rfl, b3⟩ := u8_nat w3
  exact (calls_of_ret (smore_all _ W [] g hAt x1 w1 n2 b2 n3 b3)).mono fun e W' ⟨he, hb⟩ => ⟨_, he, post_law hW' rfl try_laid (by rw [Try.params11]; kernel_rfl) hb rfl rfl rfl (by rfl) Try.underlying4⟩
theorem sodMore_holds : Rows.SodMoreSaid :=
  OpenClaim.holds_of_wide 11 Try.f11 rfl rfl rfl rfl rfl rfl rfl ⟨rfl, rfl, rfl, rfl, rfl⟩ rfl rfl rfl rfl rfl (by kernel_rfl) Try.func11 (by kernel_rfl)
    (of_decide_eq_true (by kernel_rfl)) (by unfold Func.isWrapper; first | (rw [if_pos (by decide +kernel)]; kernel_rfl) | (rw [if_neg (by decide +kernel)]; exact ⟨rfl, rfl⟩))
    (fun os started H enc _ => sodMore_lifted os started H enc)
end Go.Proofs.Ytkaadefndcbdnaa
