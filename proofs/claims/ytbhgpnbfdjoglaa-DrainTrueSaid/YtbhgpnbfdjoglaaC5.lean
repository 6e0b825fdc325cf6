/- A law's arguments: numbers of two bytes. -/
import Derived.Test.YtbhgpnbfdjoglaaC4
section
namespace Go.Proofs.Ytbhgpnbfdjoglaa
open Go.ChangeShapes Go.WideShapes Go.ChangeAt Go.RowKit
theorem u16_kinds : kindsOf Try.prog 8 112 = some [.i .u16] := by kernel_rfl
theorem by_kinds : kindsOf Try.prog 8 45 = some [.s 112] := by kernel_rfl
section
variable {H : Type} {enc : TypeId × Value → H} {W : World} {base : Nat} {v : Value} {d : DataW H} {ps : List MemPlace}
theorem u16_nat {x : Int} (h : (Lit.int .u16 x).wf = true) : ∃ n : Nat, x = n ∧ n ≤ 65535 := by
  have : 0 ≤ x ∧ x ≤ 65535 := by simpa [Lit.wf, IntKind.min, IntKind.max, IntKind.signed, IntKind.bits] using h
  exact ⟨x.toNat, by omega, by omega⟩
set_option maxRecDepth 100000 in
theorem u16s_read (hv : Value.okWide Try.prog W .any base 45 v) (h : DataW.Trod enc Try.prog W 0 (fun _ => true) true 45 v d ps) :
    ∃ (A : Option Addr) (c : Nat) (us : List Nat), v = .slice A us.length c ∧ SlAt W.heap.size W A 1 (us.map fun u : Nat => [.int .u16 (u : Int)]) ∧ ∀ u ∈ us, u ≤ 65535 := by
  obtain ⟨a, len, cap, rfl⟩ := okWide_slice Try.underlying45 hv
  obtain ⟨fuel, hf⟩ := h
  have hfit := kinds_fit by_kinds hf
  have hc : (Value.slice a len cap).cells.toList = [Value.slice a len cap] := by simp [Value.cells]
  rw [hc] at hfit
  cases hfit with | cons r1 hfit =>
  obtain ⟨A1, n1, c1, rows1, he, hl1, hl2, hl3, hr1, ha1⟩ := rows_of u16_kinds (n := 0) (by kernel_rfl) r1
  simp only [Value.slice.injEq] at he
  obtain ⟨rfl, rfl, rfl⟩ := he
  obtain ⟨bys, rfl, hw⟩ := rows_wf (f := fun n : Nat => [Value.int .u16 (n : Int)]) (p := fun n => n ≤ 65535) (rows := rows1) (fun r hr => by
    have := hr1 r hr
    cases this with | cons a this =>
    cases this
    obtain ⟨m, rfl, wm⟩ := a
    obtain ⟨n, rfl, hn⟩ := u16_nat wm
    exact ⟨n, rfl, hn⟩)
  simp only [List.length_map] at hl3
  subst hl3
  refine ⟨a, cap, bys, rfl, fun k hk => ?_, hw⟩
  obtain ⟨b, off, h1, h2, h3⟩ := ha1 k hk
  exact ⟨b, off, h1, h2, fun j v hj => h3 j v hj⟩
end
end Go.Proofs.Ytbhgpnbfdjoglaa
end
