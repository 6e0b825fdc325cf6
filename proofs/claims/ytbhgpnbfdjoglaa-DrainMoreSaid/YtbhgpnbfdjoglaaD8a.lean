/- The law DrainMore: its walk, joined. · The law DrainMore: all its arguments. -/
import Derived.Test.YtbhgpnbfdjoglaaD8s
import Derived.Test.YtbhgpnbfdjoglaaC6
section
namespace Go.Proofs.Ytbhgpnbfdjoglaa
open Go.RowKit
section
variable (N : Nat) (w0 : World)
theorem more_law1 (L : Hp) (g : Fg) (hA : DrAt N w0 g) (w : Sp) (r : Rt) (a8 : Nat) (ha8 : a8 ≤ 255) (b8 : Nat) (hb8 : b8 ≤ 255) (hvb : vB g.d = true) : Ret Try.prog N w0 L 9 [drV g, .agg (spL w).toArray, .agg (rtL r).toArray, .int .u8 (a8 : Int), .int .u8 (b8 : Int)].toArray (.bool true) := by
  obtain ⟨w1, w2⟩ := w
  obtain ⟨r1, r2, r3⟩ := r
  exact (cut1 N w0 L g hA w1 w2 r1 r2 r3 a8 ha8 b8 hb8 hvb).2 ((cut2 N w0 L g hA w1 w2 r1 r2 r3 a8 ha8 b8 hb8 hvb).2 ((cut3 N w0 L g hA w1 w2 r1 r2 r3 a8 ha8 b8 hb8 hvb).2 ((cut4 N w0 L g hA w1 w2 r1 r2 r3 a8 ha8 b8 hb8 hvb).2 (cut4_holds N w0 L g hA w1 w2 r1 r2 r3 a8 ha8 b8 hb8 hvb))))
end
end Go.Proofs.Ytbhgpnbfdjoglaa
end

section
namespace Go.Proofs.Ytbhgpnbfdjoglaa
open Go.RowKit
theorem more_all (N : Nat) (w0 : World) (L : Hp) (g : Fg) (hA : DrAt N w0 g) (w : Sp) (_ : WfI w.1 ∧ WfI w.2) (r : Rt) (_ : WfI r.a ∧ WfI r.b ∧ WfI r.most) (a : Nat) (ha : a ≤ 255) (b : Nat) (hb : b ≤ 255) : Ret Try.prog N w0 L 9 [drV g, .agg (spL w).toArray, .agg (rtL r).toArray, .int .u8 (a : Int), .int .u8 (b : Int)].toArray (.bool true) := by
  cases h1 : vB g.d with
  | false => exact more_law0 N w0 L g hA w r a b (.inr h1)
  | true => exact more_law1 N w0 L g hA w r a ha b hb h1
end Go.Proofs.Ytbhgpnbfdjoglaa
end
