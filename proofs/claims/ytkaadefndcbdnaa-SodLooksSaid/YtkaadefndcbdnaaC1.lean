/- Package sod's functions, as a law calls them; the law's small functions; which banks are valid, by the document. -/
import Derived.Test.YtkaadefndcbdnaaB10
namespace Go.Proofs.Ytkaadefndcbdnaa
open Go.RowKit
/-- Where a bank lies: in the world as it is. -/
def SodIn (N : Nat) (w0 : World) (L : Hp) (g : Fg) : Prop := ∀ w, Inv N w0 L w → SodAt w.heap.size w g
theorem SodIn.wk {N : Nat} {w0 : World} {L L' : Hp} {g : Fg} (h : SodIn N w0 L' g) (k : Wk L L') : SodIn N w0 L g := fun w hI => h w (hI.wk k)
theorem SodIn.at_ {N : Nat} {w0 : World} {L : Hp} {g : Fg} (h : SodAt N w0 g) : SodIn N w0 L g := fun _ hI => ⟨h.spits.now hI, h.days.now hI, h.logs.now hI, h.cap1, h.cap3⟩
section
variable (N : Nat) (w0 : World) (L : Hp) (g : Fg) (h : SodIn N w0 L g) (hb1 : g.s.days.length ≤ 1000)
include h hb1
theorem Cut_in (day : Int) : Ret Try.prog N w0 L 14 [sodV g, .int .i64 day].toArray (.tuple [.agg [.int .i64 (CutV g.s day).1, .int .i64 (CutV g.s day).2].toArray, .int .i64 (errE g.s (DayOk g.s day))].toArray) :=
  Ret.re fun w hI => Cut_ret _ w [] g (h w hI) hb1 day
theorem Cost_in (p : Int) : Ret Try.prog N w0 L 16 [sodV g, .int .i64 p].toArray (.tuple [.agg [.int .i64 (CostV g.s p).1, .int .i64 (CostV g.s p).2].toArray, .int .i64 (errE g.s (SpitOk g.s p))].toArray) :=
  Ret.re fun w hI => Cost_ret _ w [] g (h w hI) hb1 p
theorem Need_in (day : Int) : Ret Try.prog N w0 L 18 [sodV g, .int .i64 day].toArray (.tuple [.agg [.int .i64 (NeedV g.s day).1, .int .i64 (NeedV g.s day).2].toArray, .int .i64 (errE g.s (DayOk g.s day))].toArray) :=
  Ret.re fun w hI => Need_ret _ w [] g (h w hI) hb1 day
theorem Done_in : Ret Try.prog N w0 L 24 [sodV g].toArray (.tuple [.agg [.int .i64 (DoneV g.s).1, .int .i64 (DoneV g.s).2].toArray, .int .i64 (errE g.s true)].toArray) :=
  Ret.re fun w hI => Done_ret _ w [] g (h w hI) hb1
theorem Fits_in (day : Int) (x : Sp) : Ret Try.prog N w0 L 20 [sodV g, .int .i64 day, .agg [.int .i64 x.1, .int .i64 x.2].toArray].toArray (.tuple [.int .i64 (FitsV g.s day x), .int .i64 (errE g.s (FitsOk g.s day x))].toArray) :=
  Ret.re fun w hI => Fits_ret _ w [] g (h w hI) hb1 day x
theorem Finished_in (day : Int) : Ret Try.prog N w0 L 22 [sodV g, .int .i64 day].toArray (.tuple [.int .i64 (SureV g.s day : Int), .int .i64 (CanV g.s day : Int), .int .i64 (errE g.s (DayOk g.s day))].toArray) :=
  Ret.re fun w hI => Finished_ret _ w [] g (h w hI) hb1 day
theorem Clash_in : Ret Try.prog N w0 L 26 [sodV g].toArray (.tuple [.int .i64 (ClashV g.s : Int), .int .i64 (ClashE g.s)].toArray) :=
  Ret.re fun w hI => Clash_ret _ w [] g (h w hI) hb1
end
def farB (s : Sd) : Bool := decide (40 < max (max (s.spits.length : Int) s.days.length) s.logs.length)
theorem farB_ok {s : Sd} (h : farB s = false) : s.spits.length ≤ 40 ∧ s.days.length ≤ 40 ∧ s.logs.length ≤ 40 := by
  unfold farB at h
  simp only [decide_eq_false_iff_not] at h
  omega
theorem farB_vB {s : Sd} (h : vB s = true) : farB s = false := by
  have v := VS_of h
  have h1 := v.np
  have h2 := v.nd
  have h3 := v.nl
  unfold farB
  simp only [decide_eq_false_iff_not]
  omega
def sampleS (l : List Lg) : Sd := { spits := [⟨4, 2, 2⟩, ⟨3, 3, 4⟩], days := [(6, 8), (6, 8), (4, 10)], logs := l }
def SampB (b7 b11 : Nat) : Hp := [(b11, Blk 28 [.int .i64 6, .int .i64 8, .int .i64 6, .int .i64 8, .int .i64 4, .int .i64 10]), (b7, Blk 55 [.int .i64 4, .int .i64 2, .int .i64 2, .int .i64 3, .int .i64 3, .int .i64 4])]
def sampG (l : List Lg) (b7 b11 : Nat) (A3 : Option Addr) (c3 : Nat) : Fg := ⟨sampleS l, some ⟨b7, 0, none⟩, 2, some ⟨b11, 0, none⟩, 3, A3, c3, 0, 0⟩
theorem samp_in {N : Nat} {w0 : World} {L : Hp} {b7 b11 : Nat} {l : List Lg} {A3 : Option Addr} {c3 : Nat} (h : Sub (SampB b7 b11) L) (h3 : ∀ w, Inv N w0 L w → SlAt w.heap.size w A3 3 (l.map lgL)) (hc : l.length ≤ c3) : SodIn N w0 L (sampG l b7 b11 A3 c3) := by
  intro w hI
  exact ⟨sl_of hI (h.mem (.there .here)) rfl (by simp [sampG, sampleS, sptL]), sl_of hI (h.mem .here) rfl (by simp [sampG, sampleS, spL]), h3 w hI, Nat.le_refl _, hc⟩
theorem logs_none (N : Nat) (w : World) (A : Option Addr) : SlAt N w A 3 (([] : List Lg).map lgL) := fun k hk => by simp at hk
theorem RoDrop {w0 : World} {b o : Nat} {vs : List Value} (h : Ro w0 b o vs) (i : Nat) : Ro w0 b (o + i) (vs.drop i) := by
  intro j v hj
  rw [Nat.add_assoc]
  exact h (i + j) v (by rw [← hj, List.getElem?_drop])
attribute [local irreducible] AnyO AnyB QAny QB EWalk AWalk Ev WP OPS QThen QBlock QScope QLoop QBody Val New Turn Tri Enters PostA Blk Ro
attribute [local irreducible] AnyC QC
section
variable (N : Nat) (w0 : World)
theorem Val_max3 {L : Hp} {e : Env} {d : Option Nat} {ty : TypeId} {pos : String} {af : Array Edge} {g : Option (Nat × Bool)} {x y z : Operand} {ts : Array TypeId} {m n q : Int} (hx : ev e x = .int .i64 m) (hy : ev e y = .int .i64 n) (hz : ev e z = .int .i64 q) : Val Try.prog N w0 L e ⟨d, .call { callee := .builtin .max, args := #[x, y, z], argTypes := ts }, ty, pos, af, g⟩ (.int .i64 (max (max m n) q)) := by
  unfold Val
  intro w _
  have h1 : ∀ a b : Int, (if a < b then b else a) = max a b := by intro a b; rw [Int.max_def]; split <;> split <;> omega
  simp [execOp, resolve, invoke, builtin, hx, hy, hz, Builtin.max_, Builtin.max2, h1]
theorem span32_ret (L : Hp) (lo hi : Int) : Ret Try.prog N w0 L 32 [.int .i64 lo, .int .i64 hi].toArray (.agg [.int .i64 lo, .int .i64 hi].toArray) := by
  refine Ret.fgt ?_
  refine tri_of_WP Try.func32 rfl (n := 8) rfl (by simp) ?_
  repeat' (first | (refine Znh ?_) | (refine GiW ?_; first | (refine Zsq fun K hK => ?_) | (refine ZrN 0 fun _ => ?_; refine Zal 4 fun b4 => ?_) | (refine ZrN 1 fun _ => ?_; refine Zv Zmi ?_; refine Zv Zmi ?_; refine Zv Zxbu ?_; refine Zst ?_) | (with_reducible apply WP_ret)))
  exact QBody_res rfl (.cellN rfl (by repeat (first | exact Mem.here | assumption | apply Mem.there | apply Mem.sv | apply Mem.app)) (.here (.cons (.cons .nil))) .nil) rfl ⟨rfl, (by repeat (first | exact Wk.refl _ | apply Wk.keep1 | apply Wk.drop | apply Wk.sv | apply Wk.svD | apply Wk.appD))⟩
theorem count42_ret (L : Hp) (day lo hi : Int) : Ret Try.prog N w0 L 42 [.int .i64 day, .int .i64 lo, .int .i64 hi].toArray (.agg [.int .i64 day, .int .i64 lo, .int .i64 hi].toArray) := by
  refine Ret.fgt ?_
  refine tri_of_WP Try.func42 rfl (n := 12) rfl (by simp) ?_
  repeat' (first | (refine Znh ?_) | (refine GiW ?_; first | (refine Zsq fun K hK => ?_) | (refine ZrN 0 fun _ => ?_; refine Zal 6 fun b6 => ?_) | (refine ZrN 1 fun _ => ?_; refine Zv Zmi ?_; refine Zv Zmi ?_; refine Zv Zmi ?_; refine Zcl (Enters_fn rfl) (span32_ret N w0 _ _ _) ?_; refine Zv Zxbu ?_; refine Zst ?_) | (with_reducible apply WP_ret)))
  exact QBody_res rfl (.cellN rfl (by repeat (first | exact Mem.here | assumption | apply Mem.there | apply Mem.sv | apply Mem.app)) (.here (.cons (.cons (.cons .nil)))) .nil) rfl ⟨rfl, (by repeat (first | exact Wk.refl _ | apply Wk.keep1 | apply Wk.drop | apply Wk.sv | apply Wk.svD | apply Wk.appD))⟩
theorem sample_tri (L : Hp) (l : List Lg) (A3 : Option Addr) (c3 : Nat) : Tri Try.prog N w0 L 41 [.slice A3 l.length c3].toArray fun x L' => ∃ v, x = .returned v ∧ ∃ b7 b11, v = sodV (sampG l b7 b11 A3 c3) ∧ L' = SampB b7 b11 ++ L := by
  refine Tri.fgt ?_
  refine tri_of_WP Try.func41 rfl (n := 14) rfl (by simp) ?_
  repeat' (first | (refine Znh ?_) | (refine GiW ?_; first | (refine Zsq fun K hK => ?_) | (refine ZrN 0 fun _ => ?_; refine Zal 2 fun b2 => ?_) | (refine ZrN 1 fun _ => ?_; refine Zcl (Enters_fn rfl) (span32_ret N w0 _ _ _) ?_; refine Zv Zxbu ?_; refine Zcl (Enters_fn rfl) (span32_ret N w0 _ _ _) ?_; refine Zv Zxbu ?_; refine Zal 7 fun b7 => ?_; refine Zcl (Enters_fn rfl) (span32_ret N w0 _ _ _) ?_; refine Zcl (Enters_fn rfl) (span32_ret N w0 _ _ _) ?_; refine Zcl (Enters_fn rfl) (span32_ret N w0 _ _ _) ?_; refine Zal 11 fun b11 => ?_; refine Zv Zmv ?_; refine Zv Zxbu ?_; refine Zst ?_) | (with_reducible apply WP_ret)))
  refine QBody_res rfl (.cellN rfl (by repeat (first | exact Mem.here | assumption | apply Mem.there | apply Mem.sv | apply Mem.app)) (.here (.cons (.cons (.cons .nil)))) .nil) rfl ?_
  exact ⟨SampB b7 b11 ++ L, (by repeat (first | exact Wk.refl _ | apply Wk.keep1 | apply Wk.drop | apply Wk.sv | apply Wk.svD | apply Wk.appD)), _, rfl, b7, b11, rfl, rfl⟩
theorem far_ret (L : Hp) (g : Fg) : Ret Try.prog N w0 L 35 [sodV g].toArray (.bool (farB g.s)) := by
  refine Ret.fgt ?_
  refine tri_of_WP Try.func35 rfl (n := 14) rfl (by simp) ?_
  unfold sodV sdL
  repeat' (first | (refine Znh ?_) | (refine GiW ?_; first | (refine Zsq fun K hK => ?_) | (refine ZrN 0 fun _ => ?_; refine Zal 1 fun b1 => ?_; refine Zv Zab ?_) | (refine ZrN 1 fun _ => ?_; refine Zv Zf0 ?_; refine Zv Zld ?_; refine Zv Zxlen ?_; refine Zv Zfa ?_; refine Zv Zld ?_; refine Zv Zxlen ?_; refine Zv Zfa ?_; refine Zv Zld ?_; refine Zv Zxlen ?_; refine Zv (Val_max3 N w0 rfl rfl rfl) ?_; refine Zv Zxgtr ?_; refine Zv Zab ?_) | (with_reducible apply WP_ret)))
  exact QBody_ret1 rfl (rfl : _ = Value.bool _) ⟨rfl, (by repeat (first | exact Wk.refl _ | apply Wk.keep1 | apply Wk.drop | apply Wk.sv | apply Wk.svD | apply Wk.appD))⟩
theorem inside_ret (L : Hp) (n : Int) (s : Sp) : Ret Try.prog N w0 L 33 [.int .i64 n, .agg [.int .i64 s.1, .int .i64 s.2].toArray].toArray (.bool (decide (s.1 ≤ n ∧ n ≤ s.2))) := by
  refine Ret.fgt ?_
  refine tri_of_WP Try.func33 rfl (n := 15) rfl (by simp) ?_
  repeat' (first | (refine GiP ?_; first | (refine Znh ?_) | (refine Zatd 14 ?_; (first | (refine Zv Zxpt ?_) | (refine Zv Zxpf ?_)); refine Zv Zab ?_) | (refine Zatd 10 ?_; refine Zv Zmi ?_) | (refine Zatd 11 ?_; refine Zv Zfa ?_) | (refine Zatd 12 ?_; refine Zv Zld ?_) | (refine Zatd 13 ?_; refine Zv Zxleq ?_) | (refine Zsk ?_) | (refine Zsp (fun hc => ?_) (fun hc => ?_) <;> (try (exfalso; omega)))) | (refine GiW ?_; first | (refine Zsq fun K hK => ?_) | (refine ZrN 0 fun _ => ?_; refine Zal 3 fun b3 => ?_; refine Zv Zab ?_) | (refine ZrG 1 ?_; refine Zv Zf0 ?_; refine Zv Zld ?_; refine Zv Zmi ?_; refine Zv Zxleq ?_; refine Zv Zmb ?_) | (with_reducible apply WP_ret)))
  all_goals (refine QBody_ret1 rfl (rfl : _ = Value.bool _) ⟨?_, (by repeat (first | exact Wk.refl _ | apply Wk.keep1 | apply Wk.drop | apply Wk.sv | apply Wk.svD | apply Wk.appD))⟩; simp [*])
theorem rin_ret (L : Hp) (n l h : Int) : Ret Try.prog N w0 L 69 [.int .i64 n, .int .i64 l, .int .i64 h].toArray (.bool (within n l h)) := by
  refine Ret.fgt ?_
  refine tri_of_WP Try.func69 rfl (n := 15) rfl (by simp) ?_
  repeat' (first | (refine GiP ?_; first | (refine Znh ?_) | (refine Zatd 14 ?_; (first | (refine Zv Zxpt ?_) | (refine Zv Zxpf ?_)); refine Zv Zab ?_) | (refine Zatd 11 ?_; refine Zv Zmi ?_) | (refine Zatd 12 ?_; refine Zv Zmi ?_) | (refine Zatd 13 ?_; refine Zv Zxleq ?_) | (refine Zsk ?_) | (refine Zsp (fun hc => ?_) (fun hc => ?_) <;> (try (exfalso; omega)))) | (refine GiW ?_; first | (refine Zsq fun K hK => ?_) | (refine ZrN 0 fun _ => ?_; refine Zv Zab ?_) | (refine ZrG 1 ?_; refine Zv Zmi ?_; refine Zv Zmi ?_; refine Zv Zxleq ?_; refine Zv Zmb ?_) | (with_reducible apply WP_ret)))
  all_goals (refine QBody_ret1 rfl (rfl : _ = Value.bool _) ⟨?_, (by repeat (first | exact Wk.refl _ | apply Wk.keep1 | apply Wk.drop | apply Wk.sv | apply Wk.svD | apply Wk.appD))⟩; simp [within, *])
theorem rspan_ret (L : Hp) (s : Sp) (lo hi : Int) : Ret Try.prog N w0 L 90 [.agg [.int .i64 s.1, .int .i64 s.2].toArray, .int .i64 lo, .int .i64 hi].toArray (.bool (isSpanB s lo hi)) := by
  refine Ret.fgt ?_
  refine tri_of_WP Try.func90 rfl (n := 24) rfl (by simp) ?_
  repeat' (first | (refine GiP ?_; first | (refine Znh ?_) | (refine Zatd 17 ?_; (first | (refine Zv Zxpt ?_) | (refine Zv Zxpf ?_)); refine Zv Zmb ?_) | (refine Zatd 23 ?_; (first | (refine Zv Zxpt ?_) | (refine Zv Zxpf ?_)); refine Zv Zab ?_) | (refine Zatd 12 ?_; refine Zv Zf0 ?_) | (refine Zatd 13 ?_; refine Zv Zld ?_) | (refine Zatd 14 ?_; refine Zv Zfa ?_) | (refine Zatd 15 ?_; refine Zv Zld ?_) | (refine Zatd 16 ?_; refine Zv Zxleq ?_) | (refine Zatd 19 ?_; refine Zv Zfa ?_) | (refine Zatd 20 ?_; refine Zv Zld ?_) | (refine Zatd 21 ?_; refine Zv Zmi ?_) | (refine Zatd 22 ?_; refine Zv Zxleq ?_) | (refine Zsk ?_) | (refine Zsp (fun hc => ?_) (fun hc => ?_) <;> (try (exfalso; omega)))) | (refine GiW ?_; first | (refine Zsq fun K hK => ?_) | (refine ZrN 0 fun _ => ?_; refine Zal 3 fun b3 => ?_; refine Zv Zab ?_) | (refine ZrG 1 ?_; refine Zv Zmi ?_; refine Zv Zf0 ?_; refine Zv Zld ?_; refine Zv Zxleq ?_; refine Zv Zmb ?_) | (with_reducible apply WP_ret)))
  all_goals (refine QBody_ret1 rfl (rfl : _ = Value.bool _) ⟨?_, (by repeat (first | exact Wk.refl _ | apply Wk.keep1 | apply Wk.drop | apply Wk.sv | apply Wk.svD | apply Wk.appD))⟩; simp [isSpanB, *])
theorem rcount_ret (L : Hp) (s : Sp) : Ret Try.prog N w0 L 68 [.agg [.int .i64 s.1, .int .i64 s.2].toArray].toArray (.bool (isSpanB s 0 200)) := by
  refine Ret.fgt ?_
  refine tri_of_WP Try.func68 rfl (n := _) rfl (by simp) ?_
  repeat' (first | (refine Znh ?_) | (refine GiW ?_; first | (refine Zsq fun K hK => ?_) | (refine ZrN 0 fun _ => ?_; refine Zal 1 fun b1 => ?_; refine Zv Zab ?_) | (refine ZrN 1 fun _ => ?_; refine Zv Zla ?_; refine Zcl (Enters_fn rfl) (rspan_ret N w0 _ _ _ _) ?_; refine Zv Zab ?_) | (with_reducible apply WP_ret)))
  exact QBody_ret1 rfl (rfl : _ = Value.bool _) ⟨rfl, (by repeat (first | exact Wk.refl _ | apply Wk.keep1 | apply Wk.drop | apply Wk.sv | apply Wk.svD | apply Wk.appD))⟩
theorem rday_ret (L : Hp) (g : Fg) (n : Int) (hl : g.s.days.length ≤ 1000) : Ret Try.prog N w0 L 51 [sodV g, .int .i64 n].toArray (.bool (DayOk g.s n)) := by
  refine Ret.fgt ?_
  refine tri_of_WP Try.func51 rfl (n := 11) rfl (by simp) ?_
  unfold sodV sdL
  repeat' (first | (refine Znh ?_) | (refine GiW ?_; first | (refine Zsq fun K hK => ?_) | (refine ZrN 0 fun _ => ?_; refine Zal 2 fun b2 => ?_; refine Zv Zab ?_) | (refine ZrN 1 fun _ => ?_; refine Zv Zmi ?_; refine Zv Zfa ?_; refine Zv Zld ?_; refine Zv Zxlen ?_; refine Zv Zxsub ?_; refine Zcl (Enters_fn rfl) (rin_ret N w0 _ _ _ _) ?_; refine Zv Zab ?_) | (with_reducible apply WP_ret)))
  exact QBody_ret1 rfl (rfl : _ = Value.bool _) ⟨rfl, (by repeat (first | exact Wk.refl _ | apply Wk.keep1 | apply Wk.drop | apply Wk.sv | apply Wk.svD | apply Wk.appD))⟩
set_option maxHeartbeats 2000000 in
theorem rSod_ret (L : Hp) (g : Fg) (hA : SodAt N w0 g) (h1 : g.s.spits.length ≤ 1000) (h2 : g.s.days.length ≤ 1000) (h3 : g.s.logs.length ≤ 1000) : Ret Try.prog N w0 L 36 [sodV g].toArray (.bool (vB g.s)) := by
  refine Ret.fgt ?_
  refine tri_of_WP Try.func36 rfl (n := 97) rfl (by simp) ?_
  unfold sodV sdL
  by_cases hnum : numB g.s = true
  case neg =>
    have hno := vB_num (by simpa using hnum)
    repeat' (first | (refine GiP ?_; first | (refine Znh ?_) | (refine Zatd 18 ?_; (first | (refine Zv Zxpt ?_) | (refine Zv Zxpf ?_)); refine Zv Zmb ?_) | (refine Zatd 24 ?_; (first | (refine Zv Zxpt ?_) | (refine Zv Zxpf ?_))) | (refine Zatd 13 ?_; refine Zv Zfa ?_) | (refine Zatd 14 ?_; refine Zv Zld ?_) | (refine Zatd 15 ?_; refine Zv Zxlen ?_) | (refine Zatd 16 ?_; refine Zcl (Enters_fn rfl) (rin_ret N w0 _ _ _ _) ?_) | (refine Zatd 17 ?_; refine Zv Zxnot ?_) | (refine Zatd 20 ?_; refine Zv Zfa ?_) | (refine Zatd 21 ?_; refine Zv Zld ?_) | (refine Zatd 22 ?_; refine Zv Zxlen ?_) | (refine Zatd 23 ?_; refine Zv Zxgtr ?_) | (refine Zsk ?_) | (refine Zsp (fun hc => ?_) (fun hc => ?_) <;> (try (exfalso; omega)))) | (refine GiW ?_; first | (refine Zsq fun K hK => ?_) | (refine ZrN 0 fun _ => ?_; refine Zal 1 fun b1 => ?_; refine Zv Zab ?_) | (refine ZrG 1 ?_; refine Zv Zf0 ?_; refine Zv Zld ?_; refine Zv Zxlen ?_; refine Zcl (Enters_fn rfl) (rin_ret N w0 _ _ _ _) ?_; refine Zv Zxnot ?_; refine Zv Zmb ?_) | (refine ZrN 2 fun _ => ?_; refine Zv Zab ?_) | (refine ZrN 3 fun _ => ?_; refine Zv Zai ?_) | (refine WP_cond_true rfl ?_) | (refine Zcd (fun hc => ?_) (fun hc => ?_) <;> (try (exfalso; omega))) | (with_reducible apply WP_skip) | (with_reducible apply WP_block) | (with_reducible apply WP_ret)) | (refine Zhn ?_) | (refine Zhr ?_))
    all_goals first
      | exact QBody_ret1 rfl (rfl : _ = Value.bool _) ⟨by rw [hno], (by repeat (first | exact Wk.refl _ | apply Wk.keep1 | apply Wk.drop | apply Wk.sv | apply Wk.svD | apply Wk.appD))⟩
      | (exfalso; apply hnum; simp [numB, *]; omega)
      | (exfalso; apply hnum; simp [numB, *])
  have hnb := hnum
  simp only [numB, Bool.and_eq_true, decide_eq_true_eq] at hnb
  obtain ⟨⟨hn1, hn2⟩, hn3⟩ := hnb
  repeat' (first | (refine GiP ?_; first | (refine Znh ?_) | (refine Zatd 18 ?_; (first | (refine Zv Zxpt ?_) | (refine Zv Zxpf ?_)); refine Zv Zmb ?_) | (refine Zatd 24 ?_; (first | (refine Zv Zxpt ?_) | (refine Zv Zxpf ?_))) | (refine Zatd 13 ?_; refine Zv Zfa ?_) | (refine Zatd 14 ?_; refine Zv Zld ?_) | (refine Zatd 15 ?_; refine Zv Zxlen ?_) | (refine Zatd 16 ?_; refine Zcl (Enters_fn rfl) (rin_ret N w0 _ _ _ _) ?_) | (refine Zatd 17 ?_; refine Zv Zxnot ?_) | (refine Zatd 20 ?_; refine Zv Zfa ?_) | (refine Zatd 21 ?_; refine Zv Zld ?_) | (refine Zatd 22 ?_; refine Zv Zxlen ?_) | (refine Zatd 23 ?_; refine Zv Zxgtr ?_) | (refine Zsk ?_) | (refine Zsp (fun hc => ?_) (fun hc => ?_) <;> (try (exfalso; omega)))) | (refine GiW ?_; first | (refine Zsq fun K hK => ?_) | (refine ZrN 0 fun _ => ?_; refine Zal 1 fun b1 => ?_; refine Zv Zab ?_) | (refine ZrG 1 ?_; refine Zv Zf0 ?_; refine Zv Zld ?_; refine Zv Zxlen ?_; refine Zcl (Enters_fn rfl) (rin_ret N w0 _ _ _ _) ?_; refine Zv Zxnot ?_; refine Zv Zmb ?_) | (refine ZrN 2 fun _ => ?_; refine Zv Zab ?_) | (refine ZrN 3 fun _ => ?_; refine Zv Zai ?_) | (refine WP_cond_true rfl ?_) | (refine Zcd (fun hc => ?_) (fun hc => ?_) <;> (try (exfalso; omega))) | (with_reducible apply WP_skip) | (with_reducible apply WP_block) | (with_reducible apply WP_ret)) | (refine Zhn ?_) | (refine Zhr ?_))
  all_goals try (exfalso; simp_all; done)
  all_goals try (exfalso; omega)
  refine WP_loop [2, 3, 4, 25, 26, 27, 28, 29, 30, 31, 32, 33, 34, 35, 36, 37, 38, 39, 40, 41, 42, 43, 44, 45, 46, 47, 48, 49, 50, 51, 52, 53, 54, 55, 56] (fun k : Nat => [(3, .int .i64 k)]) (fun _ => (b1, Blk 26 (sdL g)) :: L) (fun k => k ≤ g.s.spits.length ∧ (g.s.spits.take k).all sptB = true) (fun k => g.s.spits.length - k) 0 (.cons rfl .nil) (Wk.refl _) ⟨Nat.zero_le _, rfl⟩ ?_
  rintro k j ⟨hk, hall⟩
  unfold sdL
  by_cases hlt : k < g.s.spits.length
  · obtain ⟨bA, oA, hA1, hbA, hcA⟩ := hA.spits.row k hlt
    obtain ⟨t, ht⟩ : ∃ t, g.s.spits[k] = t := ⟨_, rfl⟩
    have htm : t ∈ g.s.spits := by rw [← ht]; exact List.getElem_mem hlt
    rw [ht] at hcA
    unfold sptL at hcA
    have hin : isSpanB (t.lo, t.hi) 1 6 = true → InK .i64 (t.hi - t.lo) := by
      intro h
      simp only [isSpanB, decide_eq_true_eq] at h
      exact InK_i64 (by omega) (by omega)
    repeat' (first | (refine GiP ?_; first | (refine Znh ?_) | (with_reducible refine Znl ?_) | (refine Zatd 46 ?_; (first | (refine Zv Zxpt ?_) | (refine Zv Zxpf ?_)); refine Zv Zmb ?_) | (refine Zatd 56 ?_; (first | (refine Zv Zxpt ?_) | (refine Zv Zxpf ?_))) | (refine Zatd 42 ?_; refine Zv Zfa ?_) | (refine Zatd 43 ?_; refine Zv Zla ?_) | (refine Zatd 44 ?_; refine Zcl (Enters_fn rfl) (rspan_ret N w0 _ (t.lo, t.hi) _ _) ?_) | (refine Zatd 45 ?_; refine Zv Zxnot ?_) | (refine Zatd 48 ?_; refine Zv Zfa ?_) | (refine Zatd 49 ?_; refine Zv Zfa ?_) | (refine Zatd 50 ?_; refine Zv Zld ?_) | (refine Zatd 51 ?_; refine Zv Zfa ?_) | (refine Zatd 52 ?_; refine Zv Zf0 ?_) | (refine Zatd 53 ?_; refine Zv Zld ?_) | (refine Zatd 54 ?_; refine Zv (Val_sub rfl rfl (hin (by simp_all))) ?_) | (refine Zatd 55 ?_; refine Zv Zxgtr ?_) | (refine Zsk ?_) | (refine Zsp (fun hc => ?_) (fun hc => ?_) <;> (try (exfalso; omega)))) | (refine GiW ?_; first | (refine Zsq fun K hK => ?_) | (refine ZrN 4 fun _ => ?_; refine Zv Zmi ?_; refine Zv Zf0 ?_; refine Zv Zld ?_; refine Zv Zxlen ?_; refine Zv Zxlss ?_) | (refine ZrN 6 fun _ => ?_; refine Zv Zf0 ?_; refine Zv Zld ?_; refine Zv Zmi ?_; refine Zv Zia ?_; refine Zv Zla ?_; refine Zal 4 fun b4 => ?_; refine Zst ?_) | (refine ZrG 7 ?_; refine Zv Zf0 ?_; refine Zv Zld ?_; refine Zcl (Enters_fn rfl) (rin_ret N w0 _ _ _ _) ?_; refine Zv Zxnot ?_; refine Zv Zmb ?_) | (refine ZrN 8 fun _ => ?_; refine Zv Zab ?_) | (refine ZrN 5 fun _ => ?_; refine Zv Zmi ?_; refine Zv Zxadd ?_; refine Zv Zai ?_) | (refine WP_cond_true rfl ?_) | (refine Zcd (fun hc => ?_) (fun hc => ?_) <;> (try (exfalso; omega))) | (with_reducible apply WP_skip) | (with_reducible apply WP_block) | (with_reducible apply WP_ret)) | (refine Zhn ?_) | (with_reducible apply QBlock_normal) | (refine Zhr ?_) | (with_reducible apply QBlock_ret) | (with_reducible apply QLoop_ret))
    all_goals first
      | exact QLoop_normal (k + 1) (.cons rfl .nil) (by repeat (first | exact Off.frame rfl | exact Off.refl _ _ | refine Off.frameT rfl rfl ?_ | refine Off.upd rfl ?_ | refine Off.updO rfl ?_)) (by repeat (first | exact Wk.refl _ | apply Wk.keep1 | apply Wk.drop | apply Wk.sv | apply Wk.svD | apply Wk.appD)) ⟨by omega, all_snoc hlt hall (by rw [ht]; first | (simp [sptB, *]; done) | (simp [sptB, *]; omega))⟩ (by omega)
      | exact QBody_ret1 rfl (rfl : _ = Value.bool _) ⟨by rw [vB_sp htm (by simp [sptB, *])], (by repeat (first | exact Wk.refl _ | apply Wk.keep1 | apply Wk.drop | apply Wk.sv | apply Wk.svD | apply Wk.appD))⟩
      | exact QBody_ret1 rfl (rfl : _ = Value.bool _) ⟨by rw [vB_sp htm (by simp [sptB, *]; omega)], (by repeat (first | exact Wk.refl _ | apply Wk.keep1 | apply Wk.drop | apply Wk.sv | apply Wk.svD | apply Wk.appD))⟩
      | skip
  have hspits : g.s.spits.all sptB = true := by rw [show k = g.s.spits.length by omega, List.take_length] at hall; exact hall
  repeat' (first | (refine Znh ?_) | (refine GiW ?_; first | (refine Zsq fun K hK => ?_) | (refine ZrN 4 fun _ => ?_; refine Zv Zmi ?_; refine Zv Zf0 ?_; refine Zv Zld ?_; refine Zv Zxlen ?_; refine Zv Zxlss ?_) | (refine ZrN 9 fun _ => ?_; refine Zv Zai ?_) | (refine Zcd (fun hc => ?_) (fun hc => ?_) <;> (try (exfalso; omega))) | (with_reducible apply WP_block) | (with_reducible apply WP_exit)) | (refine Zhn ?_) | (refine Zhx ?_) | (with_reducible apply QBlock_hit) | (with_reducible apply QLoop_exit))
  refine WP_loop [2, 5, 57, 58, 59, 60, 61, 62, 63, 64, 65, 66, 67, 68, 69, 70] (fun k : Nat => [(5, .int .i64 k)]) (fun _ => (b1, Blk 26 (sdL g)) :: L) (fun k => k ≤ g.s.days.length ∧ (g.s.days.take k).all (fun d => isSpanB d 0 100) = true) (fun k => g.s.days.length - k) 0 (.cons rfl .nil) (Wk.refl _) ⟨Nat.zero_le _, rfl⟩ ?_
  clear hall hk hlt
  rintro k j2 ⟨hk, hall⟩
  unfold sdL
  by_cases hlt : k < g.s.days.length
  · obtain ⟨bA, oA, hA2, hbA, hcA⟩ := hA.days.row k hlt
    obtain ⟨t, ht⟩ : ∃ t, g.s.days[k] = t := ⟨_, rfl⟩
    have htm : t ∈ g.s.days := by rw [← ht]; exact List.getElem_mem hlt
    rw [ht] at hcA
    unfold spL at hcA
    repeat' (first | (refine GiP ?_; first | (refine Znh ?_) | (with_reducible refine Znl ?_)) | (refine GiW ?_; first | (refine Zsq fun K hK => ?_) | (refine ZrN 10 fun _ => ?_; refine Zv Zmi ?_; refine Zv Zfa ?_; refine Zv Zld ?_; refine Zv Zxlen ?_; refine Zv Zxlss ?_) | (refine ZrN 12 fun _ => ?_; refine Zv Zfa ?_; refine Zv Zld ?_; refine Zv Zmi ?_; refine Zv Zia ?_; refine Zv Zla ?_; refine Zcl (Enters_fn rfl) (rspan_ret N w0 _ t _ _) ?_; refine Zv Zxnot ?_) | (refine ZrN 13 fun _ => ?_; refine Zv Zab ?_) | (refine ZrN 11 fun _ => ?_; refine Zv Zmi ?_; refine Zv Zxadd ?_; refine Zv Zai ?_) | (refine Zcd (fun hc => ?_) (fun hc => ?_) <;> (try (exfalso; omega))) | (with_reducible apply WP_skip) | (with_reducible apply WP_block) | (with_reducible apply WP_ret)) | (refine Zhn ?_) | (with_reducible apply QBlock_normal) | (refine Zhr ?_) | (with_reducible apply QBlock_ret) | (with_reducible apply QLoop_ret))
    all_goals first
      | exact QLoop_normal (k + 1) (.cons rfl .nil) (by repeat (first | exact Off.frame rfl | exact Off.refl _ _ | refine Off.frameT rfl rfl ?_ | refine Off.upd rfl ?_ | refine Off.updO rfl ?_)) (by repeat (first | exact Wk.refl _ | apply Wk.keep1 | apply Wk.drop | apply Wk.sv | apply Wk.svD | apply Wk.appD)) ⟨by omega, all_snoc hlt hall (by rw [ht]; simp [*])⟩ (by omega)
      | exact QBody_ret1 rfl (rfl : _ = Value.bool _) ⟨by rw [vB_dy (List.all_eq_false.2 ⟨t, htm, by simp [*]⟩)], (by repeat (first | exact Wk.refl _ | apply Wk.keep1 | apply Wk.drop | apply Wk.sv | apply Wk.svD | apply Wk.appD))⟩
      | skip
  have hdays : g.s.days.all (fun d => isSpanB d 0 100) = true := by rw [show k = g.s.days.length by omega, List.take_length] at hall; exact hall
  repeat' (first | (refine Znh ?_) | (refine GiW ?_; first | (refine Zsq fun K hK => ?_) | (refine ZrN 10 fun _ => ?_; refine Zv Zmi ?_; refine Zv Zfa ?_; refine Zv Zld ?_; refine Zv Zxlen ?_; refine Zv Zxlss ?_) | (refine ZrN 14 fun _ => ?_; refine Zv Zai ?_) | (refine Zcd (fun hc => ?_) (fun hc => ?_) <;> (try (exfalso; omega))) | (with_reducible apply WP_block) | (with_reducible apply WP_exit)) | (refine Zhn ?_) | (refine Zhx ?_) | (with_reducible apply QBlock_hit) | (with_reducible apply QLoop_exit))
  refine WP_loop [2, 6, 71, 72, 73, 74, 75, 76, 77, 78, 79, 80, 81, 82, 83, 84, 85, 86, 87, 88, 89, 90, 91, 92, 93, 94, 95, 96] (fun k : Nat => [(6, .int .i64 k)]) (fun _ => (b1, Blk 26 (sdL g)) :: L) (fun k => k ≤ g.s.logs.length ∧ (g.s.logs.take k).all (lgB g.s) = true) (fun k => g.s.logs.length - k) 0 (.cons rfl .nil) (Wk.refl _) ⟨Nat.zero_le _, rfl⟩ ?_
  clear hall hk hlt
  rintro k j3 ⟨hk, hall⟩
  unfold sdL
  by_cases hlt : k < g.s.logs.length
  · obtain ⟨bA, oA, hA3, hbA, hcA⟩ := hA.logs.row k hlt
    obtain ⟨t, ht⟩ : ∃ t, g.s.logs[k] = t := ⟨_, rfl⟩
    have htm : t ∈ g.s.logs := by rw [← ht]; exact List.getElem_mem hlt
    rw [ht] at hcA
    unfold lgL at hcA
    have c0 := RoAt hcA 0 _ rfl
    have cs : Ro w0 bA (oA + k * 3 + 1) [.int .i64 t.lo, .int .i64 t.hi] := RoDrop hcA 1
    have hday := fun L => rday_ret N w0 L g t.day h2
    unfold sodV sdL at hday
    have hlb : lgB g.s t = (DayOk g.s t.day && isSpanB (t.lo, t.hi) 0 200) := rfl
    repeat' (first | (refine GiP ?_; first | (refine Znh ?_) | (with_reducible refine Znl ?_)) | (refine GiW ?_; first | (refine Zsq fun K hK => ?_) | (refine ZrN 15 fun _ => ?_; refine Zv Zmi ?_; refine Zv Zfa ?_; refine Zv Zld ?_; refine Zv Zxlen ?_; refine Zv Zxlss ?_) | (refine ZrN 18 fun _ => ?_; refine Zv Zab ?_) | (refine ZrN 16 fun _ => ?_; refine Zv Zmi ?_; refine Zv Zxadd ?_; refine Zv Zai ?_) | (refine WP_cond_true rfl ?_) | (refine Zcd (fun hc => ?_) (fun hc => ?_) <;> (try (exfalso; omega))) | (with_reducible apply WP_skip) | (with_reducible apply WP_block) | (with_reducible apply WP_ret) | (refine WP_drawn (id := 17) [0, 1, 2, 3, 4, 5, 6, 7, 8, 9, 10, 11, 12, 13, 14, 15, 16, 17, 18] [] (k := 0) prog_mixed (by kernel_rfl) rfl ?_; refine Zew rfl Zla ?_; refine Zew rfl Zfa ?_; refine Zew rfl Zld ?_; refine Zew rfl Zmi ?_; refine Zew rfl Zia ?_; refine Zew rfl Zf0 ?_; refine Zew rfl Zld ?_; refine Zec rfl (Enters_fn rfl) (fun X => hday _) ?_; refine Zew rfl Zxnot ?_; refine Zew rfl Zmb ?_)) | (refine GiE ?_; first | (refine Zati 18 ?_; (first | (refine Zew rfl Zxpt ?_) | (refine Zew rfl Zxpf ?_))) | (refine Zati 10 ?_; refine Zew rfl Zfa ?_) | (refine Zati 11 ?_; refine Zew rfl Zld ?_) | (refine Zati 12 ?_; refine Zew rfl Zmi ?_) | (refine Zati 13 ?_; refine Zew rfl Zia ?_) | (refine Zati 14 ?_; refine Zew rfl Zfa ?_) | (refine Zati 15 ?_; refine Zew rfl Zla ?_) | (refine Zati 16 ?_; refine Zec rfl (Enters_fn rfl) (fun X => rcount_ret N w0 _ (t.lo, t.hi)) ?_) | (refine Zati 17 ?_; refine Zew rfl Zxnot ?_) | (refine Zes ?_) | (refine Zesp (fun hc => ?_) (fun hc => ?_) <;> (try (exfalso; omega))) | (with_reducible apply EWalk_nil)) | (refine AnyO_done (by kernel_rfl) ?_; (try with_reducible apply noP_normal); try with_reducible exact key.out) | (refine Zhn ?_) | (with_reducible apply QBlock_normal) | (refine Zhr ?_) | (with_reducible apply QBlock_ret) | (with_reducible apply QLoop_ret) | (refine AWalk_0 ?_; refine ZisO ?_))
    all_goals first
      | exact QLoop_normal (k + 1) (.cons rfl .nil) (by repeat (first | exact Off.frame rfl | exact Off.refl _ _ | refine Off.frameT rfl rfl ?_ | refine Off.upd rfl ?_ | refine Off.updO rfl ?_)) (by repeat (first | exact Wk.refl _ | apply Wk.keep1 | apply Wk.drop | apply Wk.sv | apply Wk.svD | apply Wk.appD)) ⟨by omega, all_snoc hlt hall (by rw [ht, hlb]; simp [*])⟩ (by omega)
      | exact QBody_ret1 rfl (rfl : _ = Value.bool _) ⟨by rw [vB_lg htm (by rw [hlb]; simp [*])], (by repeat (first | exact Wk.refl _ | apply Wk.keep1 | apply Wk.drop | apply Wk.sv | apply Wk.svD | apply Wk.appD))⟩
  · have hlogs : g.s.logs.all (lgB g.s) = true := by rw [show k = g.s.logs.length by omega, List.take_length] at hall; exact hall
    have hvb : vB g.s = true := by simp [vB, *]
    repeat' (first | (refine Znh ?_) | (refine GiW ?_; first | (refine Zsq fun K hK => ?_) | (refine ZrN 15 fun _ => ?_; refine Zv Zmi ?_; refine Zv Zfa ?_; refine Zv Zld ?_; refine Zv Zxlen ?_; refine Zv Zxlss ?_) | (refine ZrN 19 fun _ => ?_; refine Zv Zab ?_) | (refine Zcd (fun hc => ?_) (fun hc => ?_) <;> (try (exfalso; omega))) | (with_reducible apply WP_exit) | (with_reducible apply WP_ret)) | (refine Zhn ?_) | (refine Zhx ?_) | (with_reducible apply QBlock_hit) | (with_reducible apply QLoop_exit))
    exact QBody_ret1 rfl (rfl : _ = Value.bool _) ⟨by rw [hvb], (by repeat (first | exact Wk.refl _ | apply Wk.keep1 | apply Wk.drop | apply Wk.sv | apply Wk.svD | apply Wk.appD))⟩
def fineB (s : Sd) : Bool := !farB s && vB s
theorem fine_ret (L : Hp) (g : Fg) (hA : SodAt N w0 g) : Ret Try.prog N w0 L 28 [sodV g].toArray (.bool (fineB g.s)) := by
  refine Ret.fgt ?_
  refine tri_of_WP Try.func28 rfl (n := 10) rfl (by simp) ?_
  have hf := fun L => far_ret N w0 L g
  cases hfar : farB g.s with
  | true =>
    rw [hfar] at hf
    unfold sodV sdL at hf ⊢
    repeat' (first | (refine GiP ?_; first | (refine Znh ?_) | (refine Zatd 9 ?_; (first | (refine Zv Zxpt ?_) | (refine Zv Zxpf ?_)); refine Zv Zab ?_) | (refine Zsk ?_)) | (refine GiW ?_; first | (refine Zsq fun K hK => ?_) | (refine ZrN 0 fun _ => ?_; refine Zal 1 fun b1 => ?_; refine Zv Zab ?_) | (refine ZrG 1 ?_; refine Zv Zla ?_; refine Zcl (Enters_fn rfl) (hf _) ?_; refine Zv Zxnot ?_; refine Zv Zmb ?_) | (with_reducible apply WP_ret)))
    exact QBody_ret1 rfl (rfl : _ = Value.bool _) ⟨by simp [fineB, hfar], (by repeat (first | exact Wk.refl _ | apply Wk.keep1 | apply Wk.drop | apply Wk.sv | apply Wk.svD | apply Wk.appD))⟩
  | false =>
    obtain ⟨h1, h2, h3⟩ := farB_ok hfar
    have hs := fun L => rSod_ret N w0 L g hA (by omega) (by omega) (by omega)
    rw [hfar] at hf
    unfold sodV sdL at hf hs ⊢
    repeat' (first | (refine GiP ?_; first | (refine Znh ?_) | (refine Zatd 9 ?_; (first | (refine Zv Zxpt ?_) | (refine Zv Zxpf ?_)); refine Zv Zab ?_) | (refine Zatd 7 ?_; refine Zv Zla ?_) | (refine Zatd 8 ?_; refine Zcl (Enters_fn rfl) (hs _) ?_)) | (refine GiW ?_; first | (refine Zsq fun K hK => ?_) | (refine ZrN 0 fun _ => ?_; refine Zal 1 fun b1 => ?_; refine Zv Zab ?_) | (refine ZrG 1 ?_; refine Zv Zla ?_; refine Zcl (Enters_fn rfl) (hf _) ?_; refine Zv Zxnot ?_; refine Zv Zmb ?_) | (with_reducible apply WP_ret)))
    exact QBody_ret1 rfl (rfl : _ = Value.bool _) ⟨by simp [fineB, hfar], (by repeat (first | exact Wk.refl _ | apply Wk.keep1 | apply Wk.drop | apply Wk.sv | apply Wk.svD | apply Wk.appD))⟩
theorem fineB_vB {s : Sd} : fineB s = vB s := by
  unfold fineB
  cases h : vB s with
  | true => rw [farB_vB h]; rfl
  | false => simp
theorem fine_in (L : Hp) (g : Fg) (h : SodIn N w0 L g) : Ret Try.prog N w0 L 28 [sodV g].toArray (.bool (vB g.s)) := by
  have := fun w hI => fine_ret _ w [] g (h w hI)
  simp only [fineB_vB] at this
  exact Ret.re this
theorem rSod_in (L : Hp) (g : Fg) (h : SodIn N w0 L g) (h1 : g.s.spits.length ≤ 1000) (h2 : g.s.days.length ≤ 1000) (h3 : g.s.logs.length ≤ 1000) : Ret Try.prog N w0 L 36 [sodV g].toArray (.bool (vB g.s)) :=
  Ret.re fun w hI => rSod_ret _ w [] g (h w hI) h1 h2 h3
end
end Go.Proofs.Ytkaadefndcbdnaa
