/- Package drain's functions, as a law calls them; the law's small functions; which drains are valid, by the document. -/
import Derived.Test.YtbhgpnbfdjoglaaB8
section
namespace Go.Proofs.Ytbhgpnbfdjoglaa
open Go.RowKit
/-- Where drains lie: in the world as it is. -/
def DrainIn (N : Nat) (w0 : World) (L : Hp) (g : Fg) : Prop := ∀ w, Inv N w0 L w → DrAt w.heap.size w g
theorem DrainIn.wk {N : Nat} {w0 : World} {L L' : Hp} {g : Fg} (h : DrainIn N w0 L' g) (k : Wk L L') : DrainIn N w0 L g := fun w hI => h w (hI.wk k)
theorem DrainIn.at_ {N : Nat} {w0 : World} {L : Hp} {g : Fg} (h : DrAt N w0 g) : DrainIn N w0 L g := fun _ hI => ⟨h.banks.now hI, h.ways.now hI, h.rights.now hI, h.seen.now hI⟩
section
variable (N : Nat) (w0 : World) (L : Hp) (g : Fg) (h : DrainIn N w0 L g)
include h
theorem Next_in (b : Int) : Ret Try.prog N w0 L 10 [drV g, .int .i64 b].toArray (.tuple [.int .i64 ((NextV g.d b : Nat) : Int), .int .i64 (errD g.d (inN g.d.banks.length b))].toArray) :=
  Ret.re fun w hI => Next_ret _ w [] g (h w hI) b
theorem Ends_in (b : Int) : Ret Try.prog N w0 L 13 [drV g, .int .i64 b].toArray (.tuple [.int .i64 ((EndsV g.d b : Nat) : Int), .int .i64 (errD g.d (inN g.d.banks.length b))].toArray) :=
  Ret.re fun w hI => Ends_ret _ w [] g (h w hI) b
theorem Water_in (b : Int) : Ret Try.prog N w0 L 14 [drV g, .int .i64 b].toArray (.tuple [.agg [.int .i64 (WaterV g.d b).1, .int .i64 (WaterV g.d b).2].toArray, .int .i64 (errD g.d (inN g.d.banks.length b))].toArray) :=
  Ret.re fun w hI => Water_ret _ w [] g (h w hI) b
theorem Flow_in (a b : Int) : Ret Try.prog N w0 L 15 [drV g, .int .i64 a, .int .i64 b].toArray (.tuple [.agg [.int .i64 (FlowV g.d a b).1, .int .i64 (FlowV g.d a b).2].toArray, .int .i64 (errD g.d (twoB g.d.banks.length a b))].toArray) :=
  Ret.re fun w hI => Flow_ret _ w [] g (h w hI) a b
theorem Breaks_in : Ret Try.prog N w0 L 16 [drV g].toArray (.tuple [.int .i64 ((SureV g.d : Nat) : Int), .int .i64 ((PerhV g.d : Nat) : Int), .int .i64 (errD g.d true)].toArray) :=
  Ret.re fun w hI => Breaks_ret _ w [] g (h w hI)
theorem Dig_in (a b : Int) : Ret Try.prog N w0 L 17 [drV g, .int .i64 a, .int .i64 b].toArray (.tuple [.int .i64 (DigV g.d a b), .int .i64 (DigE g.d a b)].toArray) :=
  Ret.re fun w hI => Dig_ret _ w [] g (h w hI) a b
theorem Stop_in : Ret Try.prog N w0 L 18 [drV g].toArray (.tuple [.int .i64 ((StopN g.d : Nat) : Int), .int .i64 ((StopV g.d : Nat) : Int), .int .i64 (errD g.d true)].toArray) :=
  Ret.re fun w hI => Stop_ret _ w [] g (h w hI)
theorem Clash_in : Ret Try.prog N w0 L 19 [drV g].toArray (.tuple [.int .i64 ((ClashV g.d : Nat) : Int), .int .i64 (ClashE g.d)].toArray) :=
  Ret.re fun w hI => Clash_ret _ w [] g (h w hI)
end
def farB (d : Dr) : Bool := decide (40 < max (max (max (d.banks.length : Int) d.ways.length) d.rights.length) d.seen.length)
theorem farB_ok {d : Dr} (h : farB d = false) : d.banks.length ≤ 40 ∧ d.ways.length ≤ 40 ∧ d.rights.length ≤ 40 ∧ d.seen.length ≤ 40 := by
  unfold farB at h
  simp only [decide_eq_false_iff_not] at h
  omega
theorem farB_vB {d : Dr} (h : vB d = true) : farB d = false := by
  have v := VD_of h
  have h1 := v.nb
  have h2 := v.nw
  have h3 := v.nr
  have h4 := v.ns
  unfold farB
  simp only [decide_eq_false_iff_not]
  omega
def sampleD (l : List Sp) : Dr := { banks := [⟨(10, 10), (4, 5)⟩, ⟨(8, 9), (2, 2)⟩, ⟨(8, 8), (3, 3)⟩, ⟨(5, 5), (1, 1)⟩], ways := [(0, 1), (0, 2), (1, 3), (2, 3)], rights := [⟨0, 2, 3⟩, ⟨1, 3, 7⟩], seen := l }
def SampB (b7 b12 b15 : Nat) : Hp := [(b15, Blk 57 [.int .i64 0, .int .i64 2, .int .i64 3, .int .i64 1, .int .i64 3, .int .i64 7]), (b12, Blk 32 [.int .i64 0, .int .i64 1, .int .i64 0, .int .i64 2, .int .i64 1, .int .i64 3, .int .i64 2, .int .i64 3]), (b7, Blk 60 [.int .i64 10, .int .i64 10, .int .i64 4, .int .i64 5, .int .i64 8, .int .i64 9, .int .i64 2, .int .i64 2, .int .i64 8, .int .i64 8, .int .i64 3, .int .i64 3, .int .i64 5, .int .i64 5, .int .i64 1, .int .i64 1])]
def sampG (l : List Sp) (b7 b12 b15 : Nat) (A4 : Option Addr) (c4 : Nat) : Fg := ⟨sampleD l, some ⟨b7, 0, none⟩, 4, some ⟨b12, 0, none⟩, 4, some ⟨b15, 0, none⟩, 2, A4, c4, 0, 0⟩
theorem samp_in {N : Nat} {w0 : World} {L : Hp} {b7 b12 b15 : Nat} {l : List Sp} {A4 : Option Addr} {c4 : Nat} (h : Sub (SampB b7 b12 b15) L) (h3 : ∀ w, Inv N w0 L w → SlAt w.heap.size w A4 2 (l.map spL)) : DrainIn N w0 L (sampG l b7 b12 b15 A4 c4) := by
  intro w hI
  exact ⟨sl_of hI (h.mem (.there (.there .here))) rfl (by simp [sampG, sampleD, bkL]), sl_of hI (h.mem (.there .here)) rfl (by simp [sampG, sampleD, spL]), sl_of hI (h.mem .here) rfl (by simp [sampG, sampleD, rtL]), h3 w hI⟩
theorem seen_none (N : Nat) (w : World) (A : Option Addr) : SlAt N w A 2 (([] : List Sp).map spL) := fun k hk => by simp at hk
def szF : Nat → Nat → Nat
  | 0, _ => 0
  | f + 1, n => n % 2 + szF f (n / 2)
theorem szF_pc {n : Nat} : szF 7 n = pc n := by
  simp only [szF, pc, Nat.div_div_eq_div_mul, Nat.add_zero]
  omega
attribute [local irreducible] AnyO AnyB QAny QB EWalk AWalk Ev WP OPS QThen QBlock QScope QLoop QBody Val New Turn Tri Enters PostA Blk Ro
attribute [local irreducible] AnyC QC
section
variable (N : Nat) (w0 : World)
theorem Val_max4 {L : Hp} {e : Env} {d : Option Nat} {ty : TypeId} {pos : String} {af : Array Edge} {g : Option (Nat × Bool)} {x y z u : Operand} {ts : Array TypeId} {m n q r : Int} (hx : ev e x = .int .i64 m) (hy : ev e y = .int .i64 n) (hz : ev e z = .int .i64 q) (hu : ev e u = .int .i64 r) : Val Try.prog N w0 L e ⟨d, .call { callee := .builtin .max, args := #[x, y, z, u], argTypes := ts }, ty, pos, af, g⟩ (.int .i64 (max (max (max m n) q) r)) := by
  unfold Val
  intro w _
  have h1 : ∀ a b : Int, (if a < b then b else a) = max a b := by intro a b; rw [Int.max_def]; split <;> split <;> omega
  simp [execOp, resolve, invoke, builtin, hx, hy, hz, hu, Builtin.max_, Builtin.max2, h1]
theorem span_ret (L : Hp) (lo hi : Int) : Ret Try.prog N w0 L 21 [.int .i64 lo, .int .i64 hi].toArray (.agg [.int .i64 lo, .int .i64 hi].toArray) := by
  refine Ret.fgt ?_
  refine tri_of_WP Try.func21 rfl (n := 8) rfl (by simp) ?_
  repeat' (first | (refine GiP ?_; first | (refine Znh ?_) | (with_reducible refine Znl ?_)) | (refine GiW ?_; first | (refine Zsq fun K hK => ?_) | (refine ZrN 0 fun _ => ?_; refine Zal 4 fun b4 => ?_) | (refine ZrN 1 fun _ => ?_; refine Zv Zmi ?_; refine Zv Zmi ?_; refine Zv Zxbu ?_; refine Zst ?_) | (with_reducible apply WP_ret)) | (refine Zhn ?_) | (refine Zhr ?_))
  exact QBody_res rfl (.cellN rfl (by repeat (first | exact Mem.here | assumption | apply Mem.there | apply Mem.sv | apply Mem.app)) (.here (.cons (.cons .nil))) .nil) rfl ⟨rfl, (by repeat (first | exact Wk.refl _ | apply Wk.keep1 | apply Wk.drop | apply Wk.sv | apply Wk.svD | apply Wk.appD))⟩
theorem way_ret (L : Hp) (a b : Int) : Ret Try.prog N w0 L 12 [.int .i64 a, .int .i64 b].toArray (.agg [.int .i64 a, .int .i64 b].toArray) := by
  refine Ret.fgt ?_
  refine tri_of_WP Try.func12 rfl (n := 8) rfl (by simp) ?_
  repeat' (first | (refine GiP ?_; first | (refine Znh ?_) | (with_reducible refine Znl ?_)) | (refine GiW ?_; first | (refine Zsq fun K hK => ?_) | (refine ZrN 0 fun _ => ?_; refine Zal 4 fun b4 => ?_) | (refine ZrN 1 fun _ => ?_; refine Zv Zmi ?_; refine Zv Zmi ?_; refine Zv Zxbu ?_; refine Zst ?_) | (with_reducible apply WP_ret)) | (refine Zhn ?_) | (refine Zhr ?_))
  exact QBody_res rfl (.cellN rfl (by repeat (first | exact Mem.here | assumption | apply Mem.there | apply Mem.sv | apply Mem.app)) (.here (.cons (.cons .nil))) .nil) rfl ⟨rfl, (by repeat (first | exact Wk.refl _ | apply Wk.keep1 | apply Wk.drop | apply Wk.sv | apply Wk.svD | apply Wk.appD))⟩
theorem bank_ret (L : Hp) (a b c d : Int) : Ret Try.prog N w0 L 44 [.int .i64 a, .int .i64 b, .int .i64 c, .int .i64 d].toArray (.agg [.int .i64 a, .int .i64 b, .int .i64 c, .int .i64 d].toArray) := by
  refine Ret.fgt ?_
  refine tri_of_WP Try.func44 rfl (n := 16) rfl (by simp) ?_
  repeat' (first | (refine GiP ?_; first | (refine Znh ?_) | (with_reducible refine Znl ?_)) | (refine GiW ?_; first | (refine Zsq fun K hK => ?_) | (refine ZrN 0 fun _ => ?_; refine Zal 8 fun b8 => ?_) | (refine ZrN 1 fun _ => ?_; refine Zv Zmi ?_; refine Zv Zmi ?_; refine Zcl (Enters_fn rfl) (span_ret N w0 _ _ _) ?_; refine Zv Zmi ?_; refine Zv Zmi ?_; refine Zcl (Enters_fn rfl) (span_ret N w0 _ _ _) ?_; refine Zv Zxbu ?_; refine Zst ?_) | (with_reducible apply WP_ret)) | (refine Zhn ?_) | (refine Zhr ?_))
  exact QBody_res rfl (.cellN rfl (by repeat (first | exact Mem.here | assumption | apply Mem.there | apply Mem.sv | apply Mem.app)) (.here (.cons (.cons (.cons (.cons .nil))))) .nil) rfl ⟨rfl, (by repeat (first | exact Wk.refl _ | apply Wk.keep1 | apply Wk.drop | apply Wk.sv | apply Wk.svD | apply Wk.appD))⟩
theorem sample_tri (L : Hp) (l : List Sp) (A4 : Option Addr) (c4 : Nat) : Tri Try.prog N w0 L 11 [.slice A4 l.length c4].toArray fun x L' => ∃ v, x = .returned v ∧ ∃ b7 b12 b15, v = drV (sampG l b7 b12 b15 A4 c4) ∧ L' = SampB b7 b12 b15 ++ L := by
  refine Tri.fgt ?_
  refine tri_of_WP Try.func11 rfl (n := 18) rfl (by simp) ?_
  repeat' (first | (refine GiP ?_; first | (refine Znh ?_) | (with_reducible refine Znl ?_)) | (refine GiW ?_; first | (refine Zsq fun K hK => ?_) | (refine ZrN 0 fun _ => ?_; refine Zal 2 fun b2 => ?_) | (refine ZrN 1 fun _ => ?_; refine Zcl (Enters_fn rfl) (bank_ret N w0 _ _ _ _ _) ?_; refine Zcl (Enters_fn rfl) (bank_ret N w0 _ _ _ _ _) ?_; refine Zcl (Enters_fn rfl) (bank_ret N w0 _ _ _ _ _) ?_; refine Zcl (Enters_fn rfl) (bank_ret N w0 _ _ _ _ _) ?_; refine Zal 7 fun b7 => ?_; refine Zcl (Enters_fn rfl) (way_ret N w0 _ _ _) ?_; refine Zcl (Enters_fn rfl) (way_ret N w0 _ _ _) ?_; refine Zcl (Enters_fn rfl) (way_ret N w0 _ _ _) ?_; refine Zcl (Enters_fn rfl) (way_ret N w0 _ _ _) ?_; refine Zal 12 fun b12 => ?_; refine Zv Zxbu ?_; refine Zv Zxbu ?_; refine Zal 15 fun b15 => ?_; refine Zv Zmv ?_; refine Zv Zxbu ?_; refine Zst ?_) | (with_reducible apply WP_ret)) | (refine Zhn ?_) | (refine Zhr ?_))
  refine QBody_res rfl (.cellN rfl (by repeat (first | exact Mem.here | assumption | apply Mem.there | apply Mem.sv | apply Mem.app)) (.here (.cons (.cons (.cons (.cons .nil))))) .nil) rfl ?_
  exact ⟨SampB b7 b12 b15 ++ L, (by repeat (first | exact Wk.refl _ | apply Wk.keep1 | apply Wk.drop | apply Wk.sv | apply Wk.svD | apply Wk.appD)), _, rfl, b7, b12, b15, rfl, rfl⟩
theorem long_ret (L : Hp) (g : Fg) : Ret Try.prog N w0 L 22 [drV g].toArray (.bool (farB g.d)) := by
  refine Ret.fgt ?_
  refine tri_of_WP Try.func22 rfl (n := 17) rfl (by simp) ?_
  unfold drV drL
  repeat' (first | (refine GiP ?_; first | (refine Znh ?_) | (with_reducible refine Znl ?_)) | (refine GiW ?_; first | (refine Zsq fun K hK => ?_) | (refine ZrN 0 fun _ => ?_; refine Zal 1 fun b1 => ?_; refine Zv Zab ?_) | (refine ZrN 1 fun _ => ?_; refine Zv Zf0 ?_; refine Zv Zld ?_; refine Zv Zxlen ?_; refine Zv Zfa ?_; refine Zv Zld ?_; refine Zv Zxlen ?_; refine Zv Zfa ?_; refine Zv Zld ?_; refine Zv Zxlen ?_; refine Zv Zfa ?_; refine Zv Zld ?_; refine Zv Zxlen ?_; refine Zv (Val_max4 N w0 rfl rfl rfl rfl) ?_; refine Zv Zxgtr ?_; refine Zv Zab ?_) | (with_reducible apply WP_ret)) | (refine Zhn ?_) | (refine Zhr ?_))
  exact QBody_ret1 rfl (rfl : _ = Value.bool _) ⟨rfl, (by repeat (first | exact Wk.refl _ | apply Wk.keep1 | apply Wk.drop | apply Wk.sv | apply Wk.svD | apply Wk.appD))⟩
theorem inside_ret (L : Hp) (n : Int) (s : Sp) : Ret Try.prog N w0 L 29 [.int .i64 n, .agg [.int .i64 s.1, .int .i64 s.2].toArray].toArray (.bool (decide (s.1 ≤ n ∧ n ≤ s.2))) := by
  refine Ret.fgt ?_
  refine tri_of_WP Try.func29 rfl (n := 15) rfl (by simp) ?_
  repeat' (first | (refine GiP ?_; first | (refine Znh ?_) | (with_reducible refine Znl ?_) | (refine Zatd 14 ?_; (first | (refine Zv Zxpt ?_) | (refine Zv Zxpf ?_)); refine Zv Zab ?_) | (refine Zatd 10 ?_; first | refine Zsk ?_ | (refine Zv Zmi ?_)) | (refine Zatd 11 ?_; first | refine Zsk ?_ | (refine Zv Zfa ?_)) | (refine Zatd 12 ?_; first | refine Zsk ?_ | (refine Zv Zld ?_)) | (refine Zatd 13 ?_; first | refine Zsk ?_ | (refine Zv Zxleq ?_)) | (refine Zsk ?_) | (refine Zsp (fun hc => ?_) (fun hc => ?_) <;> (try (exfalso; omega)))) | (refine GiW ?_; first | (refine Zsq fun K hK => ?_) | (refine ZrN 0 fun _ => ?_; refine Zal 3 fun b3 => ?_; refine Zv Zab ?_) | (refine ZrG 1 ?_; refine Zv Zf0 ?_; refine Zv Zld ?_; refine Zv Zmi ?_; refine Zv Zxleq ?_; refine Zv Zmb ?_) | (with_reducible apply WP_ret)) | (refine Zhn ?_) | (refine Zhr ?_))
  all_goals (refine QBody_ret1 rfl (rfl : _ = Value.bool _) ⟨?_, (by repeat (first | exact Wk.refl _ | apply Wk.keep1 | apply Wk.drop | apply Wk.sv | apply Wk.svD | apply Wk.appD))⟩; simp [*])
theorem rin_ret (L : Hp) (n l h : Int) : Ret Try.prog N w0 L 77 [.int .i64 n, .int .i64 l, .int .i64 h].toArray (.bool (within n l h)) := by
  refine Ret.fgt ?_
  refine tri_of_WP Try.func77 rfl (n := 15) rfl (by simp) ?_
  repeat' (first | (refine GiP ?_; first | (refine Znh ?_) | (with_reducible refine Znl ?_) | (refine Zatd 14 ?_; (first | (refine Zv Zxpt ?_) | (refine Zv Zxpf ?_)); refine Zv Zab ?_) | (refine Zatd 11 ?_; first | refine Zsk ?_ | (refine Zv Zmi ?_)) | (refine Zatd 12 ?_; first | refine Zsk ?_ | (refine Zv Zmi ?_)) | (refine Zatd 13 ?_; first | refine Zsk ?_ | (refine Zv Zxleq ?_)) | (refine Zsk ?_) | (refine Zsp (fun hc => ?_) (fun hc => ?_) <;> (try (exfalso; omega)))) | (refine GiW ?_; first | (refine Zsq fun K hK => ?_) | (refine ZrN 0 fun _ => ?_; refine Zv Zab ?_) | (refine ZrG 1 ?_; refine Zv Zmi ?_; refine Zv Zmi ?_; refine Zv Zxleq ?_; refine Zv Zmb ?_) | (with_reducible apply WP_ret)) | (refine Zhn ?_) | (refine Zhr ?_))
  all_goals (refine QBody_ret1 rfl (rfl : _ = Value.bool _) ⟨?_, (by repeat (first | exact Wk.refl _ | apply Wk.keep1 | apply Wk.drop | apply Wk.sv | apply Wk.svD | apply Wk.appD))⟩; simp [within, *])
theorem rspan_ret (L : Hp) (s : Sp) : Ret Try.prog N w0 L 78 [.agg [.int .i64 s.1, .int .i64 s.2].toArray, .int .i64 20].toArray (.bool (spB s)) := by
  refine Ret.fgt ?_
  refine tri_of_WP Try.func78 rfl (n := _) rfl (by simp) ?_
  repeat' (first | (refine GiP ?_; first | (refine Znh ?_) | (with_reducible refine Znl ?_) | (refine Zatd 14 ?_; (first | (refine Zv Zxpt ?_) | (refine Zv Zxpf ?_)); refine Zv Zmb ?_) | (refine Zatd 20 ?_; (first | (refine Zv Zxpt ?_) | (refine Zv Zxpf ?_)); refine Zv Zmb ?_) | (refine Zatd 28 ?_; (first | (refine Zv Zxpt ?_) | (refine Zv Zxpf ?_)); refine Zv Zab ?_) | (refine Zatd 9 ?_; first | refine Zsk ?_ | (refine Zv Zf0 ?_)) | (refine Zatd 10 ?_; first | refine Zsk ?_ | (refine Zv Zld ?_)) | (refine Zatd 11 ?_; first | refine Zsk ?_ | (refine Zv Zfa ?_)) | (refine Zatd 12 ?_; first | refine Zsk ?_ | (refine Zv Zld ?_)) | (refine Zatd 13 ?_; first | refine Zsk ?_ | (refine Zv Zxleq ?_)) | (refine Zatd 16 ?_; first | refine Zsk ?_ | (refine Zv Zfa ?_)) | (refine Zatd 17 ?_; first | refine Zsk ?_ | (refine Zv Zld ?_)) | (refine Zatd 18 ?_; first | refine Zsk ?_ | (refine Zv Zmi ?_)) | (refine Zatd 19 ?_; first | refine Zsk ?_ | (refine Zv Zxleq ?_)) | (refine Zatd 22 ?_; first | refine Zsk ?_ | (refine Zv Zfa ?_)) | (refine Zatd 23 ?_; first | refine Zsk ?_ | (refine Zv Zld ?_)) | (refine Zatd 24 ?_; first | refine Zsk ?_ | (refine Zv Zf0 ?_)) | (refine Zatd 25 ?_; first | refine Zsk ?_ | (refine Zv Zld ?_)) | (refine Zatd 26 ?_; first | refine Zsk ?_ | (refine Zv (Val_sub rfl rfl (InK_i64 (by omega) (by omega))) ?_)) | (refine Zatd 27 ?_; first | refine Zsk ?_ | (refine Zv Zxleq ?_)) | (refine Zsk ?_) | (refine Zsp (fun hc => ?_) (fun hc => ?_) <;> (try (exfalso; omega)))) | (refine GiW ?_; first | (refine Zsq fun K hK => ?_) | (refine ZrN 0 fun _ => ?_; refine Zal 2 fun b2 => ?_; refine Zv Zab ?_) | (refine ZrG 1 ?_; refine Zv Zf0 ?_; refine Zv Zld ?_; refine Zv Zxleq ?_; refine Zv Zmb ?_) | (with_reducible apply WP_ret)) | (refine Zhn ?_) | (refine Zhr ?_))
  all_goals (refine QBody_ret1 rfl (rfl : _ = Value.bool _) ⟨?_, (by repeat (first | exact Wk.refl _ | apply Wk.keep1 | apply Wk.drop | apply Wk.sv | apply Wk.svD | apply Wk.appD))⟩; congr 2; rw [Bool.eq_iff_iff]; simp only [spB, decide_eq_true_eq, Bool.false_eq_true, false_iff]; omega)
theorem rbank_ret (L : Hp) (g : Fg) (n : Int) (hl : g.d.banks.length ≤ 1000) : Ret Try.prog N w0 L 96 [drV g, .int .i64 n].toArray (.bool (inN g.d.banks.length n)) := by
  have e : inN g.d.banks.length n = within n 0 ((g.d.banks.length : Int) - 1) := by rw [Bool.eq_iff_iff]; simp only [inN, within, decide_eq_true_eq, Bool.and_eq_true]; omega
  rw [e]
  refine Ret.fgt ?_
  refine tri_of_WP Try.func96 rfl (n := 11) rfl (by simp) ?_
  unfold drV drL
  repeat' (first | (refine GiP ?_; first | (refine Znh ?_) | (with_reducible refine Znl ?_)) | (refine GiW ?_; first | (refine Zsq fun K hK => ?_) | (refine ZrN 0 fun _ => ?_; refine Zal 2 fun b2 => ?_; refine Zv Zab ?_) | (refine ZrN 1 fun _ => ?_; refine Zv Zmi ?_; refine Zv Zf0 ?_; refine Zv Zld ?_; refine Zv Zxlen ?_; refine Zv Zxsub ?_; refine Zcl (Enters_fn rfl) (rin_ret N w0 _ _ _ _) ?_; refine Zv Zab ?_) | (with_reducible apply WP_ret)) | (refine Zhn ?_) | (refine Zhr ?_))
  exact QBody_ret1 rfl (rfl : _ = Value.bool _) ⟨rfl, (by repeat (first | exact Wk.refl _ | apply Wk.keep1 | apply Wk.drop | apply Wk.sv | apply Wk.svD | apply Wk.appD))⟩
theorem rtwo_ret (L : Hp) (g : Fg) (a b : Int) (hl : g.d.banks.length ≤ 1000) : Ret Try.prog N w0 L 79 [drV g, .int .i64 a, .int .i64 b].toArray (.bool (twoB g.d.banks.length a b)) := by
  have hb := fun L n => rbank_ret N w0 L g n hl
  obtain ⟨u, hu⟩ : ∃ u, inN g.d.banks.length a = u := ⟨_, rfl⟩
  obtain ⟨w, hw⟩ : ∃ w, inN g.d.banks.length b = w := ⟨_, rfl⟩
  have ha := fun L => hb L a
  have hb := fun L => hb L b
  unfold twoB
  rw [hu] at ha ⊢
  rw [hw] at hb ⊢
  refine Ret.fgt ?_
  refine tri_of_WP Try.func79 rfl (n := _) rfl (by simp) ?_
  unfold drV drL at ha hb ⊢
  cases u <;> cases w
  · repeat' (first | (refine GiP ?_; first | (refine Znh ?_) | (with_reducible refine Znl ?_) | (refine Zatd 14 ?_; (first | (refine Zv Zxpt ?_) | (refine Zv Zxpf ?_)); refine Zv Zmb ?_) | (refine Zatd 19 ?_; (first | (refine Zv Zxpt ?_) | (refine Zv Zxpf ?_)); refine Zv Zab ?_) | (refine Zatd 11 ?_; first | refine Zsk ?_ | (refine Zv Zla ?_)) | (refine Zatd 12 ?_; first | refine Zsk ?_ | (refine Zv Zmi ?_)) | (refine Zatd 13 ?_; first | refine Zsk ?_ | (refine Zcl (Enters_fn rfl) (ha _) ?_) | (refine Zcl (Enters_fn rfl) (hb _) ?_)) | (refine Zatd 16 ?_; first | refine Zsk ?_ | (refine Zv Zmi ?_)) | (refine Zatd 17 ?_; first | refine Zsk ?_ | (refine Zv Zmi ?_)) | (refine Zatd 18 ?_; first | refine Zsk ?_ | (refine Zv Zxneq ?_)) | (refine Zsk ?_) | (refine Zsp (fun hc => ?_) (fun hc => ?_) <;> (try (exfalso; omega)))) | (refine GiW ?_; first | (refine Zsq fun K hK => ?_) | (refine ZrN 0 fun _ => ?_; refine Zal 3 fun b3 => ?_; refine Zv Zab ?_) | (refine ZrG 1 ?_; refine Zv Zla ?_; refine Zv Zmi ?_; (first | (refine Zcl (Enters_fn rfl) (ha _) ?_) | (refine Zcl (Enters_fn rfl) (hb _) ?_)); refine Zv Zmb ?_) | (with_reducible apply WP_ret)) | (refine Zhn ?_) | (refine Zhr ?_))
    all_goals (refine QBody_ret1 rfl (rfl : _ = Value.bool _) ⟨?_, (by repeat (first | exact Wk.refl _ | apply Wk.keep1 | apply Wk.drop | apply Wk.sv | apply Wk.svD | apply Wk.appD))⟩; first | (simp [*]; done) | (simp [*]; rfl))
  · repeat' (first | (refine GiP ?_; first | (refine Znh ?_) | (with_reducible refine Znl ?_) | (refine Zatd 14 ?_; (first | (refine Zv Zxpt ?_) | (refine Zv Zxpf ?_)); refine Zv Zmb ?_) | (refine Zatd 19 ?_; (first | (refine Zv Zxpt ?_) | (refine Zv Zxpf ?_)); refine Zv Zab ?_) | (refine Zatd 11 ?_; first | refine Zsk ?_ | (refine Zv Zla ?_)) | (refine Zatd 12 ?_; first | refine Zsk ?_ | (refine Zv Zmi ?_)) | (refine Zatd 13 ?_; first | refine Zsk ?_ | (refine Zcl (Enters_fn rfl) (ha _) ?_) | (refine Zcl (Enters_fn rfl) (hb _) ?_)) | (refine Zatd 16 ?_; first | refine Zsk ?_ | (refine Zv Zmi ?_)) | (refine Zatd 17 ?_; first | refine Zsk ?_ | (refine Zv Zmi ?_)) | (refine Zatd 18 ?_; first | refine Zsk ?_ | (refine Zv Zxneq ?_)) | (refine Zsk ?_) | (refine Zsp (fun hc => ?_) (fun hc => ?_) <;> (try (exfalso; omega)))) | (refine GiW ?_; first | (refine Zsq fun K hK => ?_) | (refine ZrN 0 fun _ => ?_; refine Zal 3 fun b3 => ?_; refine Zv Zab ?_) | (refine ZrG 1 ?_; refine Zv Zla ?_; refine Zv Zmi ?_; (first | (refine Zcl (Enters_fn rfl) (ha _) ?_) | (refine Zcl (Enters_fn rfl) (hb _) ?_)); refine Zv Zmb ?_) | (with_reducible apply WP_ret)) | (refine Zhn ?_) | (refine Zhr ?_))
    all_goals (refine QBody_ret1 rfl (rfl : _ = Value.bool _) ⟨?_, (by repeat (first | exact Wk.refl _ | apply Wk.keep1 | apply Wk.drop | apply Wk.sv | apply Wk.svD | apply Wk.appD))⟩; first | (simp [*]; done) | (simp [*]; rfl))
  · repeat' (first | (refine GiP ?_; first | (refine Znh ?_) | (with_reducible refine Znl ?_) | (refine Zatd 14 ?_; (first | (refine Zv Zxpt ?_) | (refine Zv Zxpf ?_)); refine Zv Zmb ?_) | (refine Zatd 19 ?_; (first | (refine Zv Zxpt ?_) | (refine Zv Zxpf ?_)); refine Zv Zab ?_) | (refine Zatd 11 ?_; first | refine Zsk ?_ | (refine Zv Zla ?_)) | (refine Zatd 12 ?_; first | refine Zsk ?_ | (refine Zv Zmi ?_)) | (refine Zatd 13 ?_; first | refine Zsk ?_ | (refine Zcl (Enters_fn rfl) (ha _) ?_) | (refine Zcl (Enters_fn rfl) (hb _) ?_)) | (refine Zatd 16 ?_; first | refine Zsk ?_ | (refine Zv Zmi ?_)) | (refine Zatd 17 ?_; first | refine Zsk ?_ | (refine Zv Zmi ?_)) | (refine Zatd 18 ?_; first | refine Zsk ?_ | (refine Zv Zxneq ?_)) | (refine Zsk ?_) | (refine Zsp (fun hc => ?_) (fun hc => ?_) <;> (try (exfalso; omega)))) | (refine GiW ?_; first | (refine Zsq fun K hK => ?_) | (refine ZrN 0 fun _ => ?_; refine Zal 3 fun b3 => ?_; refine Zv Zab ?_) | (refine ZrG 1 ?_; refine Zv Zla ?_; refine Zv Zmi ?_; (first | (refine Zcl (Enters_fn rfl) (ha _) ?_) | (refine Zcl (Enters_fn rfl) (hb _) ?_)); refine Zv Zmb ?_) | (with_reducible apply WP_ret)) | (refine Zhn ?_) | (refine Zhr ?_))
    all_goals (refine QBody_ret1 rfl (rfl : _ = Value.bool _) ⟨?_, (by repeat (first | exact Wk.refl _ | apply Wk.keep1 | apply Wk.drop | apply Wk.sv | apply Wk.svD | apply Wk.appD))⟩; first | (simp [*]; done) | (simp [*]; rfl))
  · repeat' (first | (refine GiP ?_; first | (refine Znh ?_) | (with_reducible refine Znl ?_) | (refine Zatd 14 ?_; (first | (refine Zv Zxpt ?_) | (refine Zv Zxpf ?_)); refine Zv Zmb ?_) | (refine Zatd 19 ?_; (first | (refine Zv Zxpt ?_) | (refine Zv Zxpf ?_)); refine Zv Zab ?_) | (refine Zatd 11 ?_; first | refine Zsk ?_ | (refine Zv Zla ?_)) | (refine Zatd 12 ?_; first | refine Zsk ?_ | (refine Zv Zmi ?_)) | (refine Zatd 13 ?_; first | refine Zsk ?_ | (refine Zcl (Enters_fn rfl) (ha _) ?_) | (refine Zcl (Enters_fn rfl) (hb _) ?_)) | (refine Zatd 16 ?_; first | refine Zsk ?_ | (refine Zv Zmi ?_)) | (refine Zatd 17 ?_; first | refine Zsk ?_ | (refine Zv Zmi ?_)) | (refine Zatd 18 ?_; first | refine Zsk ?_ | (refine Zv Zxneq ?_)) | (refine Zsk ?_) | (refine Zsp (fun hc => ?_) (fun hc => ?_) <;> (try (exfalso; omega)))) | (refine GiW ?_; first | (refine Zsq fun K hK => ?_) | (refine ZrN 0 fun _ => ?_; refine Zal 3 fun b3 => ?_; refine Zv Zab ?_) | (refine ZrG 1 ?_; refine Zv Zla ?_; refine Zv Zmi ?_; (first | (refine Zcl (Enters_fn rfl) (ha _) ?_) | (refine Zcl (Enters_fn rfl) (hb _) ?_)); refine Zv Zmb ?_) | (with_reducible apply WP_ret)) | (refine Zhn ?_) | (refine Zhr ?_))
    all_goals (refine QBody_ret1 rfl (rfl : _ = Value.bool _) ⟨?_, (by repeat (first | exact Wk.refl _ | apply Wk.keep1 | apply Wk.drop | apply Wk.sv | apply Wk.svD | apply Wk.appD))⟩; first | (simp [*]; done) | (simp [*]; rfl))
theorem size_ret (L : Hp) (n : Nat) (hn : n < 128) : Ret Try.prog N w0 L 28 [.int .i64 n].toArray (.int .i64 (pc n)) := by
  refine Ret.fgt ?_
  refine tri_of_WP Try.func28 rfl (n := _) rfl (by simp) ?_
  repeat' (first | (refine GiP ?_; first | (refine Znh ?_) | (with_reducible refine Znl ?_)) | (refine GiW ?_; first | (refine Zsq fun K hK => ?_) | (refine ZrN 0 fun _ => ?_; refine Zv Zai ?_) | (refine ZrN 1 fun _ => ?_; refine Zv Zai ?_) | (refine WP_cond_true rfl ?_) | (refine WP_cond_false rfl ?_) | (refine Zcd (fun hc => ?_) (fun hc => ?_) <;> (try (exfalso; omega))) | (with_reducible apply WP_skip) | (with_reducible apply WP_block) | (with_reducible apply WP_exit) | (with_reducible apply WP_ret)) | (refine Zhn ?_) | (with_reducible apply QBlock_normal) | (refine Zhx ?_) | (with_reducible apply QBlock_hit) | (refine Zqb ?_) | (with_reducible apply QLoop_exit) | (refine Zhr ?_) | (with_reducible apply QBlock_ret) | (with_reducible apply QLoop_ret))
  refine WP_loop [0, 3, 4, 5, 6, 7, 8, 9, 10, 11] (fun q : Nat × Nat × Nat => [(0, .int .i64 (q.1 : Int)), (3, .int .i64 (q.2.1 : Int))]) (fun _ => L) (fun q => q.1 < 128 ∧ q.1 < 2 ^ q.2.2 ∧ q.2.1 + szF q.2.2 q.1 = pc n ∧ q.2.1 ≤ 1000 - q.2.2 ∧ q.2.2 ≤ 7) (fun q => q.2.2) (n, 0, 7) (.cons rfl (.cons rfl .nil)) (Wk.refl _) ⟨hn, hn, by rw [szF_pc, Nat.zero_add], Nat.zero_le _, Nat.le_refl _⟩ ?_
  rintro ⟨m, s, f⟩ j ⟨h1, h2, h3, h4, h5⟩
  dsimp only at h1 h2 h3 h4 h5 ⊢
  by_cases hlt : 0 < m
  · cases f with
    | zero => simp at h2; omega
    | succ f =>
      rw [Nat.pow_succ] at h2
      obtain ⟨r, hr⟩ : ∃ r, m % 2 = r := ⟨_, rfl⟩
      obtain ⟨t, ht⟩ : ∃ t, m / 2 = t := ⟨_, rfl⟩
      have h6 : szF (f + 1) m = r + szF f t := by rw [← hr, ← ht]; rfl
      repeat' (first | (refine GiP ?_; first | (refine Znh ?_) | (with_reducible refine Znl ?_)) | (refine GiW ?_; first | (refine Zsq fun K hK => ?_) | (refine ZrN 2 fun _ => ?_; refine Zv Zmi ?_; refine Zv Zygtr ?_) | (refine ZrN 3 fun _ => ?_; refine Zv Zmi ?_; refine Zv Zmi ?_; refine Zv (Val_remE2 hr (by omega) rfl rfl) ?_; refine Zv Zxadd ?_; refine Zv Zmi ?_; refine Zv (Val_quoE ht (by omega) (by omega) rfl rfl) ?_; refine Zv Zai ?_; refine Zv Zai ?_) | (refine WP_cond_true rfl ?_) | (refine WP_cond_false rfl ?_) | (refine Zcd (fun hc => ?_) (fun hc => ?_) <;> (try (exfalso; omega))) | (with_reducible apply WP_skip) | (with_reducible apply WP_block) | (with_reducible apply WP_exit) | (with_reducible apply WP_ret)) | (refine Zhn ?_) | (with_reducible apply QBlock_normal) | (refine Zhx ?_) | (with_reducible apply QBlock_hit) | (refine Zqb ?_) | (with_reducible apply QLoop_exit) | (refine Zhr ?_) | (with_reducible apply QBlock_ret) | (with_reducible apply QLoop_ret))
      exact QLoop_normal (t, s + r, f) (.cons rfl (.cons rfl .nil)) (by repeat (first | exact Off.frame rfl | exact Off.refl _ _ | refine Off.frameT rfl rfl ?_ | refine Off.upd rfl ?_ | refine Off.updO rfl ?_)) (by repeat (first | exact Wk.refl _ | apply Wk.keep1 | apply Wk.drop | apply Wk.sv | apply Wk.svD | apply Wk.appD)) ⟨by dsimp only; omega, by dsimp only; omega, by dsimp only; omega, by dsimp only; omega, by dsimp only; omega⟩ (by dsimp only; omega)
  · have hm : m = 0 := by omega
    have hz : ∀ f, szF f 0 = 0 := by intro f; induction f with | zero => rfl | succ f ih => simp [szF, ih]
    subst hm
    rw [hz] at h3
    repeat' (first | (refine GiP ?_; first | (refine Znh ?_) | (with_reducible refine Znl ?_)) | (refine GiW ?_; first | (refine Zsq fun K hK => ?_) | (refine ZrN 2 fun _ => ?_; refine Zv Zmi ?_; refine Zv Zxgtr ?_) | (refine ZrN 4 fun _ => ?_; refine Zv Zmi ?_; refine Zv Zai ?_) | (refine WP_cond_true rfl ?_) | (refine WP_cond_false rfl ?_) | (refine Zcd (fun hc => ?_) (fun hc => ?_) <;> (try (exfalso; omega))) | (with_reducible apply WP_skip) | (with_reducible apply WP_block) | (with_reducible apply WP_exit) | (with_reducible apply WP_ret)) | (refine Zhn ?_) | (with_reducible apply QBlock_normal) | (refine Zhx ?_) | (with_reducible apply QBlock_hit) | (refine Zqb ?_) | (with_reducible apply QLoop_exit) | (refine Zhr ?_) | (with_reducible apply QBlock_ret) | (with_reducible apply QLoop_ret))
    exact QBody_ret1 rfl (rfl : _ = Value.int _ _) ⟨by rw [← h3]; rfl, (by repeat (first | exact Wk.refl _ | apply Wk.keep1 | apply Wk.drop | apply Wk.sv | apply Wk.svD | apply Wk.appD))⟩
end
end Go.Proofs.Ytbhgpnbfdjoglaa
end
