/- A law's argument of heaps: what it holds. · The laws' ends: what is common. -/
import Derived.Test.YtlpahkmfjpjheaaM9
import Derived.Test.YtlpahkmfjpjheaaM3
import Derived.Test.YtlpahkmfjpjheaaRows
section
namespace Go.Proofs.Ytlpahkmfjpjheaa
open Go.ChangeShapes Go.WideShapes Go.ChangeAt Go.RowKit
theorem heap_kinds : kindsOf Try.prog 8 27 = some [.s 65, .s 31, .i .i64, .i .i64, .i .i64, .i .i64, .s 61] := by kernel_rfl
theorem tf_kinds : kindsOf Try.prog 8 65 = some [.i .i64, .i .i64, .i .i64] := by kernel_rfl
theorem sp_kinds : kindsOf Try.prog 8 31 = some [.i .i64, .i .i64] := by kernel_rfl
theorem lk_kinds : kindsOf Try.prog 8 61 = some [.i .i64, .i .i64, .i .i64, .i .i64] := by kernel_rfl
theorem und27 : ∃ fs, Try.prog.underlying 27 = some (.struct fs) := ⟨_, Try.underlying27⟩
section
variable {H : Type} {enc : TypeId × Value → H} {W : World}
/-- A span whose ends are well formed. -/
def WfI (n : Int) : Prop := (Lit.int .i64 n).wf = true
structure WfH (h : Hv) : Prop where
  tf : ∀ t ∈ h.heaps, WfI t.place ∧ WfI t.lo ∧ WfI t.hi
  rn : ∀ s ∈ h.rains, WfI s.1 ∧ WfI s.2
  lk : ∀ l ∈ h.looks, WfI l.heap ∧ WfI l.day ∧ WfI l.lo ∧ WfI l.hi
  nums : WfI h.d0 ∧ WfI h.d1 ∧ WfI h.d2 ∧ WfI h.limit
theorem rows_wf {α : Type} {f : α → List Value} {p : α → Prop} : ∀ {rows : List (List Value)}, (∀ r ∈ rows, ∃ x, r = f x ∧ p x) → ∃ l : List α, rows = l.map f ∧ ∀ x ∈ l, p x
  | [], _ => ⟨[], rfl, fun _ h => by cases h⟩
  | r :: rows, h => by
    obtain ⟨x, rfl, hx⟩ := h r (.head _)
    obtain ⟨l, rfl, hl⟩ := rows_wf fun r hr => h r (.tail _ hr)
    exact ⟨x :: l, rfl, fun y hy => by rcases List.mem_cons.1 hy with rfl | hy; exact hx; exact hl y hy⟩
set_option maxRecDepth 100000 in
theorem heap_read {base : Nat} {v : Value} {d : DataW H} {ps : List MemPlace} (hv : Value.okWide Try.prog W .any base 27 v) (h : DataW.Trod enc Try.prog W 0 (fun _ => true) true 27 v d ps) :
    ∃ g : Bg, v = heapV g ∧ HeapAt W.heap.size W g ∧ WfH g.h := by
  obtain ⟨fs, hu⟩ := und27
  obtain ⟨cs, rfl, _⟩ := okWide_struct hu hv
  obtain ⟨fuel, hf⟩ := h
  have hfit := kinds_fit heap_kinds hf
  have hc : (Value.agg cs).cells.toList = cs.toList := by simp [Value.cells]
  rw [hc] at hfit
  obtain ⟨l, rfl⟩ : ∃ l : List Value, cs = l.toArray := ⟨cs.toList, by simp⟩
  simp only [List.toList_toArray] at hfit
  cases hfit with | cons r1 hfit =>
  cases hfit with | cons r2 hfit =>
  cases hfit with | cons r3 hfit =>
  cases hfit with | cons r4 hfit =>
  cases hfit with | cons r5 hfit =>
  cases hfit with | cons r6 hfit =>
  cases hfit with | cons r7 hfit =>
  cases hfit
  obtain ⟨A1, n1, c1, rows1, rfl, _, _, hl1, hr1, ha1⟩ := rows_of tf_kinds (n := 2) (by kernel_rfl) r1
  obtain ⟨A2, n2, c2, rows2, rfl, _, _, hl2, hr2, ha2⟩ := rows_of sp_kinds (n := 1) (by kernel_rfl) r2
  obtain ⟨d0, rfl, w0⟩ := r3
  obtain ⟨d1, rfl, w1⟩ := r4
  obtain ⟨d2, rfl, w2⟩ := r5
  obtain ⟨lim, rfl, w3⟩ := r6
  obtain ⟨A3, n3, c3, rows3, rfl, _, _, hl3, hr3, ha3⟩ := rows_of lk_kinds (n := 3) (by kernel_rfl) r7
  obtain ⟨heaps, rfl, hw1⟩ := rows_wf (f := tfL) (p := fun t => WfI t.place ∧ WfI t.lo ∧ WfI t.hi) (rows := rows1) (fun r hr => by
    have := hr1 r hr
    cases this with | cons a this =>
    cases this with | cons b this =>
    cases this with | cons c this =>
    cases this
    obtain ⟨a, rfl, wa⟩ := a
    obtain ⟨b, rfl, wb⟩ := b
    obtain ⟨c, rfl, wc⟩ := c
    exact ⟨⟨a, b, c⟩, rfl, wa, wb, wc⟩)
  obtain ⟨rains, rfl, hw2⟩ := rows_wf (f := spL) (p := fun s => WfI s.1 ∧ WfI s.2) (rows := rows2) (fun r hr => by
    have := hr2 r hr
    cases this with | cons a this =>
    cases this with | cons b this =>
    cases this
    obtain ⟨a, rfl, wa⟩ := a
    obtain ⟨b, rfl, wb⟩ := b
    exact ⟨(a, b), rfl, wa, wb⟩)
  obtain ⟨looks, rfl, hw3⟩ := rows_wf (f := lkL) (p := fun l => WfI l.heap ∧ WfI l.day ∧ WfI l.lo ∧ WfI l.hi) (rows := rows3) (fun r hr => by
    have := hr3 r hr
    cases this with | cons a this =>
    cases this with | cons b this =>
    cases this with | cons c this =>
    cases this with | cons e this =>
    cases this
    obtain ⟨a, rfl, wa⟩ := a
    obtain ⟨b, rfl, wb⟩ := b
    obtain ⟨c, rfl, wc⟩ := c
    obtain ⟨e, rfl, we⟩ := e
    exact ⟨⟨a, b, c, e⟩, rfl, wa, wb, wc, we⟩)
  simp only [List.length_map] at hl1 hl2 hl3
  subst hl1 hl2 hl3
  refine ⟨⟨⟨heaps, rains, d0, d1, d2, lim, looks⟩, A1, c1, A2, c2, A3, c3, 0, 0⟩, rfl, ⟨?_, ?_, ?_⟩, ⟨hw1, hw2, hw3, w0, w1, w2, w3⟩⟩
  · intro k hk
    obtain ⟨b, off, h1, h2, h3⟩ := ha1 k hk
    exact ⟨b, off, h1, h2, fun j v hj => h3 j v hj⟩
  · intro k hk
    obtain ⟨b, off, h1, h2, h3⟩ := ha2 k hk
    exact ⟨b, off, h1, h2, fun j v hj => h3 j v hj⟩
  · intro k hk
    obtain ⟨b, off, h1, h2, h3⟩ := ha3 k hk
    exact ⟨b, off, h1, h2, fun j v hj => h3 j v hj⟩
end
theorem try_own : ownKnob Try.prog.godebug = none := by kernel_rfl
theorem try_laid : laidOutB Try.prog = true := by kernel_rfl
end Go.Proofs.Ytlpahkmfjpjheaa
end

section
namespace Go.Proofs.Ytlpahkmfjpjheaa
open Go.ChangeShapes Go.WideShapes Go.ChangeAt Go.RowKit
theorem calls_of_ret {f : FuncId} {args : Array Value} {v : Value} {W : World} (h : Ret Try.prog W.heap.size W [] f args v) : Calls Try.prog f args W fun e w' => e = .returned v ∧ Below W.heap.size W w' :=
  (h W ⟨Below.refl _ W, Nat.le_refl _, .nil, fun _ h => by cases h⟩).mono fun _ _ ⟨_, hI, hx, _⟩ => ⟨hx, hI.below⟩
theorem u8_nat {x : Int} (h : (Lit.int .u8 x).wf = true) : ∃ n : Nat, x = n ∧ n ≤ 255 := by
  have : 0 ≤ x ∧ x ≤ 255 := by simpa [Lit.wf, IntKind.min, IntKind.max, IntKind.signed, IntKind.bits] using h
  exact ⟨x.toNat, by omega, by omega⟩
/-- Of two ways: too long or not valid; or neither. -/
theorem two_ways {a b : Bool} {p : Prop} (h0 : a = true ∨ b = false → p) (h1 : a = false → b = true → p) : p := by
  cases a with
  | true => exact h0 (.inl rfl)
  | false => cases b with
    | false => exact h0 (.inr rfl)
    | true => exact h1 rfl rfl
end Go.Proofs.Ytlpahkmfjpjheaa
end
