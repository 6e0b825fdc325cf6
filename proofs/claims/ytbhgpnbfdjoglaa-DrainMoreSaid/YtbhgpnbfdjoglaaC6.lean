/- A law's argument of drains: what it holds. · A law's arguments: a way, a right; five of them. -/
import Derived.Test.YtbhgpnbfdjoglaaFr
import Derived.Test.YtbhgpnbfdjoglaaC2
import Derived.Test.YtbhgpnbfdjoglaaRows
section
namespace Go.Proofs.Ytbhgpnbfdjoglaa
open Go.ChangeShapes Go.WideShapes Go.ChangeAt Go.RowKit
theorem dr_kinds : kindsOf Try.prog 8 29 = some [.s 60, .s 32, .s 57, .s 32] := by kernel_rfl
theorem bk_kinds : kindsOf Try.prog 8 60 = some [.i .i64, .i .i64, .i .i64, .i .i64] := by kernel_rfl
theorem wy_kinds : kindsOf Try.prog 8 32 = some [.i .i64, .i .i64] := by kernel_rfl
theorem rt_kinds : kindsOf Try.prog 8 57 = some [.i .i64, .i .i64, .i .i64] := by kernel_rfl
theorem undDrain : ∃ fs, Try.prog.underlying 29 = some (.struct fs) := ⟨_, Try.underlying29⟩
section
variable {H : Type} {enc : TypeId × Value → H} {W : World}
def WfI (n : Int) : Prop := (Lit.int .i64 n).wf = true
structure WfD (d : Dr) : Prop where
  bk : ∀ t ∈ d.banks, WfI t.lv.1 ∧ WfI t.lv.2 ∧ WfI t.yd.1 ∧ WfI t.yd.2
  wy : ∀ w ∈ d.ways, WfI w.1 ∧ WfI w.2
  rt : ∀ r ∈ d.rights, WfI r.a ∧ WfI r.b ∧ WfI r.most
  se : ∀ w ∈ d.seen, WfI w.1 ∧ WfI w.2
theorem rows_wf {α : Type} {f : α → List Value} {p : α → Prop} : ∀ {rows : List (List Value)}, (∀ r ∈ rows, ∃ x, r = f x ∧ p x) → ∃ l : List α, rows = l.map f ∧ ∀ x ∈ l, p x
  | [], _ => ⟨[], rfl, fun _ h => by cases h⟩
  | r :: rows, h => by
    obtain ⟨x, rfl, hx⟩ := h r (.head _)
    obtain ⟨l, rfl, hl⟩ := rows_wf fun r hr => h r (.tail _ hr)
    exact ⟨x :: l, rfl, fun y hy => by rcases List.mem_cons.1 hy with rfl | hy; exact hx; exact hl y hy⟩
set_option maxRecDepth 100000 in
theorem drain_read {base : Nat} {v : Value} {d : DataW H} {ps : List MemPlace} (hv : Value.okWide Try.prog W .any base 29 v) (h : DataW.Trod enc Try.prog W 0 (fun _ => true) true 29 v d ps) :
    ∃ g : Fg, v = drV g ∧ DrAt W.heap.size W g ∧ WfD g.d := by
  obtain ⟨fs, hu⟩ := undDrain
  obtain ⟨cs, rfl, _⟩ := okWide_struct hu hv
  obtain ⟨fuel, hf⟩ := h
  have hfit := kinds_fit dr_kinds hf
  have hc : (Value.agg cs).cells.toList = cs.toList := by simp [Value.cells]
  rw [hc] at hfit
  obtain ⟨l, rfl⟩ : ∃ l : List Value, cs = l.toArray := ⟨cs.toList, by simp⟩
  simp only at hfit
  cases hfit with | cons r1 hfit =>
  cases hfit with | cons r2 hfit =>
  cases hfit with | cons r3 hfit =>
  cases hfit with | cons r4 hfit =>
  cases hfit
  obtain ⟨A1, n1, c1, rows1, rfl, _, _, hl1, hr1, ha1⟩ := rows_of bk_kinds (n := 3) (by kernel_rfl) r1
  obtain ⟨A2, n2, c2, rows2, rfl, _, _, hl2, hr2, ha2⟩ := rows_of wy_kinds (n := 1) (by kernel_rfl) r2
  obtain ⟨A3, n3, c3, rows3, rfl, _, _, hl3, hr3, ha3⟩ := rows_of rt_kinds (n := 2) (by kernel_rfl) r3
  obtain ⟨A4, n4, c4, rows4, rfl, _, _, hl4, hr4, ha4⟩ := rows_of wy_kinds (n := 1) (by kernel_rfl) r4
  obtain ⟨banks, rfl, hw1⟩ := rows_wf (f := bkL) (p := fun t => WfI t.lv.1 ∧ WfI t.lv.2 ∧ WfI t.yd.1 ∧ WfI t.yd.2) (rows := rows1) (fun r hr => by
    have := hr1 r hr
    cases this with | cons a this =>
    cases this with | cons b this =>
    cases this with | cons c this =>
    cases this with | cons d this =>
    cases this
    obtain ⟨a, rfl, wa⟩ := a
    obtain ⟨b, rfl, wb⟩ := b
    obtain ⟨c, rfl, wc⟩ := c
    obtain ⟨d, rfl, wd⟩ := d
    exact ⟨⟨(a, b), (c, d)⟩, rfl, wa, wb, wc, wd⟩)
  obtain ⟨ways, rfl, hw2⟩ := rows_wf (f := spL) (p := fun s => WfI s.1 ∧ WfI s.2) (rows := rows2) (fun r hr => by
    have := hr2 r hr
    cases this with | cons a this =>
    cases this with | cons b this =>
    cases this
    obtain ⟨a, rfl, wa⟩ := a
    obtain ⟨b, rfl, wb⟩ := b
    exact ⟨(a, b), rfl, wa, wb⟩)
  obtain ⟨rights, rfl, hw3⟩ := rows_wf (f := rtL) (p := fun r => WfI r.a ∧ WfI r.b ∧ WfI r.most) (rows := rows3) (fun r hr => by
    have := hr3 r hr
    cases this with | cons a this =>
    cases this with | cons b this =>
    cases this with | cons c this =>
    cases this
    obtain ⟨a, rfl, wa⟩ := a
    obtain ⟨b, rfl, wb⟩ := b
    obtain ⟨c, rfl, wc⟩ := c
    exact ⟨⟨a, b, c⟩, rfl, wa, wb, wc⟩)
  obtain ⟨seen, rfl, hw4⟩ := rows_wf (f := spL) (p := fun s => WfI s.1 ∧ WfI s.2) (rows := rows4) (fun r hr => by
    have := hr4 r hr
    cases this with | cons a this =>
    cases this with | cons b this =>
    cases this
    obtain ⟨a, rfl, wa⟩ := a
    obtain ⟨b, rfl, wb⟩ := b
    exact ⟨(a, b), rfl, wa, wb⟩)
  simp only [List.length_map] at hl1 hl2 hl3 hl4
  subst hl1 hl2 hl3 hl4
  refine ⟨⟨⟨banks, ways, rights, seen⟩, A1, c1, A2, c2, A3, c3, A4, c4, 0, 0⟩, rfl, ⟨?_, ?_, ?_, ?_⟩, ⟨hw1, hw2, hw3, hw4⟩⟩
  · intro k hk
    obtain ⟨b, off, h1, h2, h3⟩ := ha1 k hk
    exact ⟨b, off, h1, h2, fun j v hj => h3 j v hj⟩
  · intro k hk
    obtain ⟨b, off, h1, h2, h3⟩ := ha2 k hk
    exact ⟨b, off, h1, h2, fun j v hj => h3 j v hj⟩
  · intro k hk
    obtain ⟨b, off, h1, h2, h3⟩ := ha3 k hk
    exact ⟨b, off, h1, h2, fun j v hj => h3 j v hj⟩
  · intro k hk
    obtain ⟨b, off, h1, h2, h3⟩ := ha4 k hk
    exact ⟨b, off, h1, h2, fun j v hj => h3 j v hj⟩
end
theorem calls_of_ret {f : FuncId} {args : Array Value} {v : Value} {W : World} (h : Ret Try.prog W.heap.size W [] f args v) : Calls Try.prog f args W fun e w' => e = .returned v ∧ Below W.heap.size W w' :=
  (h W ⟨Below.refl _ W, Nat.le_refl _, .nil, fun _ h => by cases h⟩).mono fun _ _ ⟨_, hI, hx, _⟩ => ⟨hx, hI.below⟩
theorem u8_nat {x : Int} (h : (Lit.int .u8 x).wf = true) : ∃ n : Nat, x = n ∧ n ≤ 255 := by
  have : 0 ≤ x ∧ x ≤ 255 := by simpa [Lit.wf, IntKind.min, IntKind.max, IntKind.signed, IntKind.bits] using h
  exact ⟨x.toNat, by omega, by omega⟩
theorem try_own : ownKnob Try.prog.godebug = none := by kernel_rfl
theorem try_laid : laidOutB Try.prog = true := by kernel_rfl
end Go.Proofs.Ytbhgpnbfdjoglaa
end

section
namespace Go.Proofs.Ytbhgpnbfdjoglaa
open Go.ChangeShapes Go.WideShapes Go.ChangeAt Go.RowKit
theorem undWay : ∃ fs, Try.prog.underlying 32 = some (.struct fs) := ⟨_, Try.underlying32⟩
theorem undRight : ∃ fs, Try.prog.underlying 57 = some (.struct fs) := ⟨_, Try.underlying57⟩
section
variable {H : Type} {enc : TypeId × Value → H} {W : World} {base : Nat} {v : Value} {d : DataW H} {ps : List MemPlace}
set_option maxRecDepth 100000 in
theorem right_read (hv : Value.okWide Try.prog W .any base 57 v) (h : DataW.Trod enc Try.prog W 0 (fun _ => true) true 57 v d ps) :
    ∃ l : Rt, v = .agg (rtL l).toArray ∧ WfI l.a ∧ WfI l.b ∧ WfI l.most := by
  obtain ⟨fs, hu⟩ := undRight
  obtain ⟨cs, rfl, _⟩ := okWide_struct hu hv
  obtain ⟨fuel, hf⟩ := h
  have hfit := kinds_fit rt_kinds hf
  have hc : (Value.agg cs).cells.toList = cs.toList := by simp [Value.cells]
  rw [hc] at hfit
  obtain ⟨l, rfl⟩ : ∃ l : List Value, cs = l.toArray := ⟨cs.toList, by simp⟩
  simp only at hfit
  cases hfit with | cons a this =>
  cases this with | cons b this =>
  cases this with | cons c this =>
  cases this
  obtain ⟨a, rfl, wa⟩ := a
  obtain ⟨b, rfl, wb⟩ := b
  obtain ⟨c, rfl, wc⟩ := c
  exact ⟨⟨a, b, c⟩, rfl, wa, wb, wc⟩
set_option maxRecDepth 100000 in
theorem way_read (hv : Value.okWide Try.prog W .any base 32 v) (h : DataW.Trod enc Try.prog W 0 (fun _ => true) true 32 v d ps) :
    ∃ s : Sp, v = .agg (spL s).toArray ∧ WfI s.1 ∧ WfI s.2 := by
  obtain ⟨fs, hu⟩ := undWay
  obtain ⟨cs, rfl, _⟩ := okWide_struct hu hv
  obtain ⟨fuel, hf⟩ := h
  have hfit := kinds_fit wy_kinds hf
  have hc : (Value.agg cs).cells.toList = cs.toList := by simp [Value.cells]
  rw [hc] at hfit
  obtain ⟨l, rfl⟩ : ∃ l : List Value, cs = l.toArray := ⟨cs.toList, by simp⟩
  simp only at hfit
  cases hfit with | cons a this =>
  cases this with | cons b this =>
  cases this
  obtain ⟨a, rfl, wa⟩ := a
  obtain ⟨b, rfl, wb⟩ := b
  exact ⟨(a, b), rfl, wa, wb⟩
end
section
variable {H : Type} {enc : TypeId × Value → H} {P : Program} {w : World} {base : Nat} {spare : Nat → Bool} {held : Bool}
theorem trodAll_five {t t' t'' t3 t4 : TypeId} {args : Array Value} {ds : List (DataW H)} {ps : List MemPlace} (h : DataW.TrodAll enc P w base spare held [t, t', t'', t3, t4] args.toList ds ps) :
    ∃ v v' v'' v3 v4 d d' d'' d3 d4 p p' p'' p3 p4, args = #[v, v', v'', v3, v4] ∧ ds = [d, d', d'', d3, d4] ∧ ps = p ++ p' ++ p'' ++ p3 ++ p4 ∧ DataW.Trod enc P w base spare held t v d p ∧ DataW.Trod enc P w base spare held t' v' d' p' ∧ DataW.Trod enc P w base spare held t'' v'' d'' p'' ∧ DataW.Trod enc P w base spare held t3 v3 d3 p3 ∧ DataW.Trod enc P w base spare held t4 v4 d4 p4 := by
  obtain ⟨v, vs, d, ds', p, q, hargs, rfl, rfl, hd, hrest⟩ := trodAll_cons h
  obtain ⟨v', vs', d', ds'', p', q', rfl, rfl, rfl, hd', hrest'⟩ := trodAll_cons hrest
  obtain ⟨v'', vs'', d'', ds''', p'', q'', rfl, rfl, rfl, hd'', hrest''⟩ := trodAll_cons hrest'
  obtain ⟨v3, vs3, d3, ds3, p3, q3, rfl, rfl, rfl, hd3, hrest3⟩ := trodAll_cons hrest''
  obtain ⟨v4, vs4, d4, ds4, p4, q4, rfl, rfl, rfl, hd4, hrest4⟩ := trodAll_cons hrest3
  obtain ⟨rfl, rfl, rfl⟩ := trodAll_nil hrest4
  exact ⟨v, v', v'', v3, v4, d, d', d'', d3, d4, p, p', p'', p3, p4, by cases args; simp_all, rfl, by simp, hd, hd', hd'', hd3, hd4⟩
end
end Go.Proofs.Ytbhgpnbfdjoglaa
end
