/- A law's argument of banks, and of marks: what they hold. -/
import Derived.Test.YtakmopiceopcpaaFr
import Derived.Test.YtakmopiceopcpaaC2
import Derived.Test.YtakmopiceopcpaaRows
section
namespace Go.Proofs.Ytakmopiceopcpaa
open Go.ChangeShapes Go.WideShapes Go.ChangeAt Go.RowKit
theorem bk_kinds : kindsOf Try.prog 8 25 = some [.i .i64, .i .i64, .s 58, .s 53] := by kernel_rfl
theorem le_kinds : kindsOf Try.prog 8 58 = some [.i .i64, .i .i64, .i .i64, .i .i64, .i .i64] := by kernel_rfl
theorem mk_kinds : kindsOf Try.prog 8 53 = some [.i .i64, .i .i64] := by kernel_rfl
theorem undBank : ∃ fs, Try.prog.underlying 25 = some (.struct fs) := ⟨_, Try.underlying25⟩
theorem undMark : ∃ fs, Try.prog.underlying 53 = some (.struct fs) := ⟨_, Try.underlying53⟩
section
variable {H : Type} {enc : TypeId × Value → H} {W : World}
def WfI (n : Int) : Prop := (Lit.int .i64 n).wf = true
structure WfB (d : Bn) : Prop where
  n : WfI d.n
  m : WfI d.m
  ls : ∀ l ∈ d.ls, WfI l.h ∧ (WfI l.f.1 ∧ WfI l.f.2) ∧ WfI l.t.1 ∧ WfI l.t.2
  ms : ∀ k ∈ d.ms, WfI k.1 ∧ WfI k.2
theorem rows_wf {α : Type} {f : α → List Value} {p : α → Prop} : ∀ {rows : List (List Value)}, (∀ r ∈ rows, ∃ x, r = f x ∧ p x) → ∃ l : List α, rows = l.map f ∧ ∀ x ∈ l, p x
  | [], _ => ⟨[], rfl, fun _ h => by cases h⟩
  | r :: rows, h => by
    obtain ⟨x, rfl, hx⟩ := h r (.head _)
    obtain ⟨l, rfl, hl⟩ := rows_wf fun r hr => h r (.tail _ hr)
    exact ⟨x :: l, rfl, fun y hy => by rcases List.mem_cons.1 hy with rfl | hy; exact hx; exact hl y hy⟩
set_option maxRecDepth 100000 in
theorem bank_read {base : Nat} {v : Value} {d : DataW H} {ps : List MemPlace} (hv : Value.okWide Try.prog W .any base 25 v) (h : DataW.Trod enc Try.prog W 0 (fun _ => true) true 25 v d ps) :
    ∃ g : Fg, v = bkV g ∧ BkAt W.heap.size W g ∧ WfB g.d := by
  obtain ⟨fs, hu⟩ := undBank
  obtain ⟨cs, rfl, _⟩ := okWide_struct hu hv
  obtain ⟨fuel, hf⟩ := h
  have hfit := kinds_fit bk_kinds hf
  have hc : (Value.agg cs).cells.toList = cs.toList := by simp [Value.cells]
  rw [hc] at hfit
  obtain ⟨l, rfl⟩ : ∃ l : List Value, cs = l.toArray := ⟨cs.toList, by simp⟩
  simp only at hfit
  cases hfit with | cons r1 hfit =>
  cases hfit with | cons r2 hfit =>
  cases hfit with | cons r3 hfit =>
  cases hfit with | cons r4 hfit =>
  cases hfit
  obtain ⟨n, rfl, wn⟩ := r1
  obtain ⟨m, rfl, wm⟩ := r2
  obtain ⟨A3, n3, c3, rows3, rfl, _, _, hl3, hr3, ha3⟩ := rows_of le_kinds (n := 4) (by kernel_rfl) r3
  obtain ⟨A4, n4, c4, rows4, rfl, _, _, hl4, hr4, ha4⟩ := rows_of mk_kinds (n := 1) (by kernel_rfl) r4
  obtain ⟨ls, rfl, hw3⟩ := rows_wf (f := leL) (p := fun l => WfI l.h ∧ (WfI l.f.1 ∧ WfI l.f.2) ∧ WfI l.t.1 ∧ WfI l.t.2) (rows := rows3) (fun r hr => by
    have := hr3 r hr
    cases this with | cons a this =>
    cases this with | cons b this =>
    cases this with | cons c this =>
    cases this with | cons d this =>
    cases this with | cons e this =>
    cases this
    obtain ⟨a, rfl, wa⟩ := a
    obtain ⟨b, rfl, wb⟩ := b
    obtain ⟨c, rfl, wc⟩ := c
    obtain ⟨d, rfl, wd⟩ := d
    obtain ⟨e, rfl, we⟩ := e
    exact ⟨⟨a, (b, c), (d, e)⟩, rfl, wa, ⟨wb, wc⟩, wd, we⟩)
  obtain ⟨ms, rfl, hw4⟩ := rows_wf (f := spL) (p := fun s => WfI s.1 ∧ WfI s.2) (rows := rows4) (fun r hr => by
    have := hr4 r hr
    cases this with | cons a this =>
    cases this with | cons b this =>
    cases this
    obtain ⟨a, rfl, wa⟩ := a
    obtain ⟨b, rfl, wb⟩ := b
    exact ⟨(a, b), rfl, wa, wb⟩)
  simp only [List.length_map] at hl3 hl4
  subst hl3 hl4
  refine ⟨⟨⟨n, m, ls, ms⟩, A3, c3, A4, c4⟩, rfl, ⟨?_, ?_⟩, ⟨wn, wm, hw3, hw4⟩⟩
  · intro k hk
    obtain ⟨b, off, h1, h2, h3⟩ := ha3 k hk
    exact ⟨b, off, h1, h2, fun j v hj => h3 j v hj⟩
  · intro k hk
    obtain ⟨b, off, h1, h2, h3⟩ := ha4 k hk
    exact ⟨b, off, h1, h2, fun j v hj => h3 j v hj⟩
set_option maxRecDepth 100000 in
theorem mark_read {base : Nat} {v : Value} {d : DataW H} {ps : List MemPlace} (hv : Value.okWide Try.prog W .any base 53 v) (h : DataW.Trod enc Try.prog W 0 (fun _ => true) true 53 v d ps) :
    ∃ k : Sp, v = .agg (spL k).toArray ∧ WfI k.1 ∧ WfI k.2 := by
  obtain ⟨fs, hu⟩ := undMark
  obtain ⟨cs, rfl, _⟩ := okWide_struct hu hv
  obtain ⟨fuel, hf⟩ := h
  have hfit := kinds_fit mk_kinds hf
  have hc : (Value.agg cs).cells.toList = cs.toList := by simp [Value.cells]
  rw [hc] at hfit
  obtain ⟨l, rfl⟩ : ∃ l : List Value, cs = l.toArray := ⟨cs.toList, by simp⟩
  simp only at hfit
  cases hfit with | cons r1 hfit =>
  cases hfit with | cons r2 hfit =>
  cases hfit
  obtain ⟨n, rfl, wn⟩ := r1
  obtain ⟨m, rfl, wm⟩ := r2
  exact ⟨(n, m), rfl, wn, wm⟩
end
theorem calls_of_ret {f : FuncId} {args : Array Value} {v : Value} {W : World} (h : Ret Try.prog W.heap.size W [] f args v) : Calls Try.prog f args W fun e w' => e = .returned v ∧ Below W.heap.size W w' :=
  (h W ⟨Below.refl _ W, Nat.le_refl _, .nil, fun _ h => by cases h⟩).mono fun _ _ ⟨_, hI, hx, _⟩ => ⟨hx, hI.below⟩
theorem u8_nat {x : Int} (h : (Lit.int .u8 x).wf = true) : ∃ n : Nat, x = n ∧ n ≤ 255 := by
  have : 0 ≤ x ∧ x ≤ 255 := by simpa [Lit.wf, IntKind.min, IntKind.max, IntKind.signed, IntKind.bits] using h
  exact ⟨x.toNat, by omega, by omega⟩
theorem try_own : ownKnob Try.prog.godebug = none := by kernel_rfl
theorem try_laid : laidOutB Try.prog = true := by kernel_rfl
end Go.Proofs.Ytakmopiceopcpaa
end
