/- A law's arguments: a count, a span, numbers of two bytes. -/
import Derived.Test.YtkaadefndcbdnaaC2
namespace Go.Proofs.Ytkaadefndcbdnaa
open Go.ChangeShapes Go.WideShapes Go.ChangeAt Go.RowKit
theorem u16_kinds : kindsOf Try.prog 8 142 = some [.i .u16] := by kernel_rfl
theorem by_kinds : kindsOf Try.prog 8 42 = some [.s 142] := by kernel_rfl
theorem undLog : ∃ fs, Try.prog.underlying 60 = some (.struct fs) := ⟨_, Try.underlying60⟩
theorem undSpan : ∃ fs, Try.prog.underlying 28 = some (.struct fs) := ⟨_, Try.underlying28⟩
section
variable {H : Type} {enc : TypeId × Value → H} {W : World} {base : Nat} {v : Value} {d : DataW H} {ps : List MemPlace}
theorem u16_nat {x : Int} (h : (Lit.int .u16 x).wf = true) : ∃ n : Nat, x = n ∧ n ≤ 65535 := by
  have : 0 ≤ x ∧ x ≤ 65535 := by simpa [Lit.wf, IntKind.min, IntKind.max, IntKind.signed, IntKind.bits] using h
  exact ⟨x.toNat, by omega, by omega⟩
set_option maxRecDepth 100000 in
theorem log_read (hv : Value.okWide Try.prog W .any base 60 v) (h : DataW.Trod enc Try.prog W 0 (fun _ => true) true 60 v d ps) :
    ∃ l : Lg, v = .agg (lgL l).toArray ∧ WfI l.day ∧ WfI l.lo ∧ WfI l.hi := by
  obtain ⟨fs, hu⟩ := undLog
  obtain ⟨cs, rfl, _⟩ := okWide_struct hu hv
  obtain ⟨fuel, hf⟩ := h
  have hfit := kinds_fit lg_kinds hf
  have hc : (Value.agg cs).cells.toList = cs.toList := by simp [Value.cells]
  rw [hc] at hfit
  obtain ⟨l, rfl⟩ : ∃ l : List Value, cs = l.toArray := ⟨cs.toList, by simp⟩
  simp only [List.toList_toArray] at hfit
  cases hfit with | cons a this =>
  cases this with | cons b this =>
  cases this with | cons c this =>
  cases this
  obtain ⟨a, rfl, wa⟩ := a
  obtain ⟨b, rfl, wb⟩ := b
  obtain ⟨c, rfl, wc⟩ := c
  exact ⟨⟨a, b, c⟩, rfl, wa, wb, wc⟩
set_option maxRecDepth 100000 in
theorem span_read (hv : Value.okWide Try.prog W .any base 28 v) (h : DataW.Trod enc Try.prog W 0 (fun _ => true) true 28 v d ps) :
    ∃ s : Sp, v = .agg [.int .i64 s.1, .int .i64 s.2].toArray ∧ WfI s.1 ∧ WfI s.2 := by
  obtain ⟨fs, hu⟩ := undSpan
  obtain ⟨cs, rfl, _⟩ := okWide_struct hu hv
  obtain ⟨fuel, hf⟩ := h
  have hfit := kinds_fit sp_kinds hf
  have hc : (Value.agg cs).cells.toList = cs.toList := by simp [Value.cells]
  rw [hc] at hfit
  obtain ⟨l, rfl⟩ : ∃ l : List Value, cs = l.toArray := ⟨cs.toList, by simp⟩
  simp only [List.toList_toArray] at hfit
  cases hfit with | cons a this =>
  cases this with | cons b this =>
  cases this
  obtain ⟨a, rfl, wa⟩ := a
  obtain ⟨b, rfl, wb⟩ := b
  exact ⟨(a, b), rfl, wa, wb⟩
set_option maxRecDepth 100000 in
theorem u16s_read (hv : Value.okWide Try.prog W .any base 42 v) (h : DataW.Trod enc Try.prog W 0 (fun _ => true) true 42 v d ps) :
    ∃ (A : Option Addr) (c : Nat) (us : List Nat), v = .slice A us.length c ∧ SlAt W.heap.size W A 1 (us.map fun u : Nat => [.int .u16 (u : Int)]) ∧ ∀ u ∈ us, u ≤ 65535 := by
  obtain ⟨a, len, cap, rfl⟩ := okWide_slice Try.underlying42 hv
  obtain ⟨fuel, hf⟩ := h
  have hfit := kinds_fit by_kinds hf
  have hc : (Value.slice a len cap).cells.toList = [Value.slice a len cap] := by simp [Value.cells]
  rw [hc] at hfit
  cases hfit with | cons r1 hfit =>
  obtain ⟨A1, n1, c1, rows1, he, hl1, hl2, hl3, hr1, ha1⟩ := rows_of u16_kinds (n := 0) (by kernel_rfl) r1
  simp only [Value.slice.injEq] at he
  obtain ⟨rfl, rfl, rfl⟩ := he
  obtain ⟨bys, rfl, hw⟩ := rows_wf (f := fun n : Nat => [Value.int .u16 (n : Int)]) (p := fun n => n ≤ 65535) (rows := rows1) (fun r hr => by
    have := hr1 r hr
    cases this with | cons a this =>
    cases this
    obtain ⟨m, rfl, wm⟩ := a
    obtain ⟨n, rfl, hn⟩ := u16_nat wm
    exact ⟨n, rfl, hn⟩)
  simp only [List.length_map] at hl3
  subst hl3
  refine ⟨a, cap, bys, rfl, fun k hk => ?_, hw⟩
  obtain ⟨b, off, h1, h2, h3⟩ := ha1 k hk
  exact ⟨b, off, h1, h2, fun j v hj => h3 j v hj⟩
end
end Go.Proofs.Ytkaadefndcbdnaa
