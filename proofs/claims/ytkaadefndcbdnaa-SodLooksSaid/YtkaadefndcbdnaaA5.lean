/- Package sod: its small functions. · Package sod: strokes, sods. · Package sod: the strokes of the first spits; what bounds strokes. · Package sod: what counts leave of strokes. · Package sod: what there can have been by each day, of costs, and what is kept of it. -/
import Derived.Test.YtkaadefndcbdnaaTypes
import Derived.Test.YtkaadefndcbdnaaSl
import Derived.Test.YtkaadefndcbdnaaQb
import Derived.Test.YtkaadefndcbdnaaRe
section
namespace Go.Proofs.Ytkaadefndcbdnaa
open Go.RowKit
def spL (s : Sp) : List Value := [.int .i64 s.1, .int .i64 s.2]
def spV (s : Sp) : Value := .agg (spL s).toArray
def sptL (t : Spt) : List Value := [.int .i64 t.sods, .int .i64 t.lo, .int .i64 t.hi]
def lgL (l : Lg) : List Value := [.int .i64 l.day, .int .i64 l.lo, .int .i64 l.hi]
attribute [local irreducible] AnyO AnyB QAny QB EWalk AWalk Ev WP OPS QThen QBlock QScope QLoop QBody Val New Turn Tri Enters PostA Blk Ro
def within (n l h : Int) : Bool := decide (l ≤ n) && decide (n ≤ h)
def isSpanB (s : Sp) (lo hi : Int) : Bool := decide (lo ≤ s.1 ∧ s.1 ≤ s.2 ∧ s.2 ≤ hi)
def sm (n : Int) : Prop := -100000000 ≤ n ∧ n ≤ 100000000
section
variable (N : Nat) (w0 : World) (L : Hp)
theorem within_ret (n l h : Int) : Ret Try.prog N w0 L 91 [.int .i64 n, .int .i64 l, .int .i64 h].toArray (.bool (within n l h)) := by
  refine tri_of_WP Try.func91 rfl (n := _) rfl (by simp) ?_
  repeat' (first | (refine GiP ?_; first | (refine Znh ?_) | (refine Zatd 14 ?_; (first | (refine Zv Zxpt ?_) | (refine Zv Zxpf ?_)); refine Zv Zab ?_) | (refine Zatd 11 ?_; refine Zv Zmi ?_) | (refine Zatd 12 ?_; refine Zv Zmi ?_) | (refine Zatd 13 ?_; refine Zv Zxleq ?_) | (refine Zsk ?_) | (refine Zsp (fun hc => ?_) (fun hc => ?_) <;> (try (exfalso; omega)))) | (refine GiW ?_; first | (refine Zsq fun K hK => ?_) | (refine ZrN 0 fun _ => ?_; refine Zv Zab ?_) | (refine ZrG 1 ?_; refine Zv Zmi ?_; refine Zv Zmi ?_; refine Zv Zxleq ?_; refine Zv Zmb ?_) | (with_reducible apply WP_ret)))
  · refine QBody_ret1 rfl (rfl : _ = Value.bool _) ⟨?_, rfl⟩
    simp [within, hc]
  · refine QBody_ret1 rfl (rfl : _ = Value.bool _) ⟨?_, rfl⟩
    simp [within, hc]
theorem isSpan_ret (s : Sp) (lo hi : Int) : Ret Try.prog N w0 L 92 [.agg [.int .i64 s.1, .int .i64 s.2].toArray, .int .i64 lo, .int .i64 hi].toArray (.bool (isSpanB s lo hi)) := by
  refine Ret.fgt ?_
  refine tri_of_WP Try.func92 rfl (n := _) rfl (by simp) ?_
  repeat' (first | (refine GiP ?_; first | (refine Znh ?_) | (refine Zatd 17 ?_; (first | (refine Zv Zxpt ?_) | (refine Zv Zxpf ?_)); refine Zv Zmb ?_) | (refine Zatd 23 ?_; (first | (refine Zv Zxpt ?_) | (refine Zv Zxpf ?_)); refine Zv Zab ?_) | (refine Zatd 12 ?_; refine Zv Zf0 ?_) | (refine Zatd 13 ?_; refine Zv Zld ?_) | (refine Zatd 14 ?_; refine Zv Zfa ?_) | (refine Zatd 15 ?_; refine Zv Zld ?_) | (refine Zatd 16 ?_; refine Zv Zxleq ?_) | (refine Zatd 19 ?_; refine Zv Zfa ?_) | (refine Zatd 20 ?_; refine Zv Zld ?_) | (refine Zatd 21 ?_; refine Zv Zmi ?_) | (refine Zatd 22 ?_; refine Zv Zxleq ?_) | (refine Zsk ?_) | (refine Zsp (fun hc => ?_) (fun hc => ?_) <;> (try (exfalso; omega)))) | (refine GiW ?_; first | (refine Zsq fun K hK => ?_) | (refine ZrN 0 fun _ => ?_; refine Zal 3 fun b3 => ?_; refine Zv Zab ?_) | (refine ZrG 1 ?_; refine Zv Zmi ?_; refine Zv Zf0 ?_; refine Zv Zld ?_; refine Zv Zxleq ?_; refine Zv Zmb ?_) | (with_reducible apply WP_ret)))
  all_goals (refine QBody_ret1 rfl (rfl : _ = Value.bool _) ⟨?_, (by repeat (first | exact Wk.refl _ | apply Wk.keep1 | apply Wk.drop | apply Wk.sv | apply Wk.svD | apply Wk.appD))⟩; simp [isSpanB, *])
theorem isCount_ret (s : Sp) : Ret Try.prog N w0 L 64 [.agg [.int .i64 s.1, .int .i64 s.2].toArray].toArray (.bool (isSpanB s 0 200)) := by
  refine Ret.fgt ?_
  refine tri_of_WP Try.func64 rfl (n := _) rfl (by simp) ?_
  repeat' (first | (refine Znh ?_) | (refine GiW ?_; first | (refine Zsq fun K hK => ?_) | (refine ZrN 0 fun _ => ?_; refine Zal 1 fun b1 => ?_; refine Zv Zab ?_) | (refine ZrN 1 fun _ => ?_; refine Zv Zla ?_; refine Zcl (Enters_fn rfl) (isSpan_ret N w0 _ s _ _) ?_; refine Zv Zab ?_) | (with_reducible apply WP_ret)))
  exact QBody_ret1 rfl (rfl : _ = Value.bool _) ⟨rfl, (by repeat (first | exact Wk.refl _ | apply Wk.keep1 | apply Wk.drop | apply Wk.sv | apply Wk.svD | apply Wk.appD))⟩
theorem ask_ok (e : Int) : Ret Try.prog N w0 L 82 [.bool true, .int .i64 e].toArray (.tuple #[]) := by
  refine tri_of_WP Try.func82 rfl (n := _) rfl (by simp) ?_
  repeat' (first | (refine Znh ?_) | (refine GiW ?_; first | (refine Zsq fun K hK => ?_) | (refine ZrN 0 fun _ => ?_; refine Zv Zmb ?_; refine Zv Zxnot ?_) | (refine WP_cond_false rfl ?_) | (with_reducible apply WP_skip)))
  exact QBody_end0 rfl ⟨rfl, rfl⟩
def refE (e : Int) : List PanicEntry := [{ v := .iface 124 (.int .i64 e), recovered := false }]
theorem ask_no (e : Int) : Tri Try.prog N w0 L 82 [.bool false, .int .i64 e].toArray fun x L' => x = .panicked (refE e) ∧ L' = L := by
  refine tri_of_WP Try.func82 rfl (n := _) rfl (by simp) ?_
  repeat' (first | (refine Znh ?_) | (refine GiW ?_; first | (refine Zsq fun K hK => ?_) | (refine ZrN 0 fun _ => ?_; refine Zv Zmb ?_; refine Zv Zxnot ?_) | (refine ZrN 1 fun _ => ?_; refine Zv Zmi ?_; refine Zv Zxmi ?_; refine OPS_panicV rfl rfl ?_) | (refine WP_cond_true rfl ?_)))
  exact QBody_panic ⟨rfl, rfl⟩
theorem some_ret (m : Sp) : Ret Try.prog N w0 L 112 [.agg [.int .i64 m.1, .int .i64 m.2].toArray].toArray (.bool (decide (m.1 ≤ m.2))) := by
  refine Ret.fgt ?_
  refine tri_of_WP Try.func112 rfl (n := _) rfl (by simp) ?_
  repeat' (first | (refine Znh ?_) | (refine GiW ?_; first | (refine Zsq fun K hK => ?_) | (refine ZrN 0 fun _ => ?_; refine Zal 1 fun b1 => ?_; refine Zv Zab ?_) | (refine ZrN 1 fun _ => ?_; refine Zv Zf0 ?_; refine Zv Zf0 ?_; refine Zv Zld ?_; refine Zv Zf0 ?_; refine Zv Zfa ?_; refine Zv Zld ?_; refine Zv Zxleq ?_; refine Zv Zab ?_) | (with_reducible apply WP_ret)))
  exact QBody_ret1 rfl (rfl : _ = Value.bool _) ⟨rfl, (by repeat (first | exact Wk.refl _ | apply Wk.keep1 | apply Wk.drop | apply Wk.sv | apply Wk.svD | apply Wk.appD))⟩
theorem later_ret (m x : Sp) (h1 : sm m.1) (h2 : sm m.2) (h3 : sm x.1) (h4 : sm x.2) : Ret Try.prog N w0 L 110 [.agg [.int .i64 m.1, .int .i64 m.2].toArray, .agg [.int .i64 x.1, .int .i64 x.2].toArray].toArray (.agg [.int .i64 (m.1 + x.1), .int .i64 (m.2 + x.2)].toArray) := by
  unfold sm at *
  refine Ret.fgt ?_
  refine tri_of_WP Try.func110 rfl (n := _) rfl (by simp) ?_
  repeat' (first | (refine Znh ?_) | (refine GiW ?_; first | (refine Zsq fun K hK => ?_) | (refine ZrN 0 fun _ => ?_; refine Zal 2 fun b2 => ?_; refine Zal 3 fun b3 => ?_; refine Zal 4 fun b4 => ?_) | (refine ZrN 1 fun _ => ?_; refine Zv Zf0 ?_; refine Zv Zf0 ?_; refine Zv Zld ?_; refine Zv Zf0 ?_; refine Zv Zld ?_; refine Zv Zxadd ?_; refine Zv Zf0 ?_; refine Zv Zfa ?_; refine Zv Zld ?_; refine Zv Zfa ?_; refine Zv Zld ?_; refine Zv Zxadd ?_; refine Zv Zxbu ?_; refine Zv Zxbu ?_; refine Zst ?_) | (with_reducible apply WP_ret)))
  exact QBody_res rfl (.cellN rfl (by repeat (first | exact Mem.here | assumption | apply Mem.there | apply Mem.sv | apply Mem.app)) (.here (.cons (.cons .nil))) .nil) rfl ⟨rfl, (by repeat (first | exact Wk.refl _ | apply Wk.keep1 | apply Wk.drop | apply Wk.sv | apply Wk.svD | apply Wk.appD))⟩
theorem earlier_ret (m x : Sp) (h1 : sm m.1) (h2 : sm m.2) (h3 : sm x.1) (h4 : sm x.2) : Ret Try.prog N w0 L 113 [.agg [.int .i64 m.1, .int .i64 m.2].toArray, .agg [.int .i64 x.1, .int .i64 x.2].toArray].toArray (.agg [.int .i64 (m.1 - x.2), .int .i64 (m.2 - x.1)].toArray) := by
  unfold sm at *
  refine Ret.fgt ?_
  refine tri_of_WP Try.func113 rfl (n := _) rfl (by simp) ?_
  repeat' (first | (refine Znh ?_) | (refine GiW ?_; first | (refine Zsq fun K hK => ?_) | (refine ZrN 0 fun _ => ?_; refine Zal 2 fun b2 => ?_; refine Zal 3 fun b3 => ?_; refine Zal 4 fun b4 => ?_) | (refine ZrN 1 fun _ => ?_; refine Zv Zf0 ?_; refine Zv Zf0 ?_; refine Zv Zld ?_; refine Zv Zfa ?_; refine Zv Zld ?_; refine Zv Zxsub ?_; refine Zv Zf0 ?_; refine Zv Zfa ?_; refine Zv Zld ?_; refine Zv Zf0 ?_; refine Zv Zld ?_; refine Zv Zxsub ?_; refine Zv Zxbu ?_; refine Zv Zxbu ?_; refine Zst ?_) | (with_reducible apply WP_ret)))
  exact QBody_res rfl (.cellN rfl (by repeat (first | exact Mem.here | assumption | apply Mem.there | apply Mem.sv | apply Mem.app)) (.here (.cons (.cons .nil))) .nil) rfl ⟨rfl, (by repeat (first | exact Wk.refl _ | apply Wk.keep1 | apply Wk.drop | apply Wk.sv | apply Wk.svD | apply Wk.appD))⟩
theorem dayOf_ret (m : Sp) (F : Value) (c : Value) : Ret Try.prog N w0 L 139 [.agg [.int .i64 m.1, .int .i64 m.2].toArray, F, c].toArray (.agg [.int .i64 m.1, .int .i64 m.2].toArray) := by
  refine Ret.fgt ?_
  refine tri_of_WP Try.func139 rfl (n := _) rfl (by simp) ?_
  repeat' (first | (refine Znh ?_) | (refine GiW ?_; first | (refine Zsq fun K hK => ?_) | (refine ZrN 0 fun _ => ?_; refine Zal 3 fun b3 => ?_; refine Zal 5 fun b5 => ?_; refine Zal 6 fun b6 => ?_) | (refine ZrN 1 fun _ => ?_; refine Zv Zf0 ?_; refine Zv Zla ?_; refine Zst ?_) | (with_reducible apply WP_ret)))
  exact QBody_res rfl (.cellN rfl (by repeat (first | exact Mem.here | assumption | apply Mem.there | apply Mem.sv | apply Mem.app)) (.here (.cons (.cons .nil))) .nil) rfl ⟨rfl, (by repeat (first | exact Wk.refl _ | apply Wk.keep1 | apply Wk.drop | apply Wk.sv | apply Wk.svD | apply Wk.appD))⟩
end
end Go.Proofs.Ytkaadefndcbdnaa
end

section
namespace Go.Proofs.Ytkaadefndcbdnaa
open Go.RowKit
/-- What a face's block holds, and where. -/
structure Fg where
  s : Sd
  A1 : Option Addr
  c1 : Nat
  A2 : Option Addr
  c2 : Nat
  A3 : Option Addr
  c3 : Nat
  b : Nat
  m : Nat
def sdL (g : Fg) : List Value := [.slice g.A1 g.s.spits.length g.c1, .slice g.A2 g.s.days.length g.c2, .slice g.A3 g.s.logs.length g.c3]
def sodV (g : Fg) : Value := .agg (sdL g).toArray
def faceL (g : Fg) : List Value := [.slice g.A1 g.s.spits.length g.c1, .slice g.A2 g.s.days.length g.c2, .slice g.A3 g.s.logs.length g.c3, .map (some g.m)]
structure SodAt (N : Nat) (w0 : World) (g : Fg) : Prop where
  spits : SlAt N w0 g.A1 3 (g.s.spits.map sptL)
  days : SlAt N w0 g.A2 2 (g.s.days.map spL)
  logs : SlAt N w0 g.A3 3 (g.s.logs.map lgL)
  cap1 : g.s.spits.length ≤ g.c1
  cap3 : g.s.logs.length ≤ g.c3
def cost3 (a b c : Int) : List Value := [.int .i64 a, .int .i64 b, .int .i64 c]
theorem cost_get {a b c x : Int} {k : Nat} (h : [a, b, c][k]? = some x) : (cost3 a b c)[0 + k]? = some (.int .i64 x) := by
  have : cost3 a b c = [a, b, c].map (.int .i64) := rfl
  rw [this, Nat.zero_add, List.getElem?_map, h]; rfl
theorem drop_cons' {α : Type} {l : List α} {k : Nat} {x : α} (h : l[k]? = some x) : l.drop k = x :: l.drop (k + 1) := by
  obtain ⟨hk, rfl⟩ := List.getElem?_eq_some_iff.1 h
  exact List.drop_eq_getElem_cons hk
theorem strk_bd : ∀ (ps : List Spt) (cs : List Int) (n k : Int), SpOk ps → (∀ c ∈ cs, 0 ≤ c ∧ c ≤ 100) → 0 ≤ k → 0 ≤ n → n + 3000 * ps.length ≤ 100000 → 0 ≤ strk ps cs n k ∧ strk ps cs n k ≤ far
  | [], _, n, k, _, _, _, _, h => by unfold strk; split <;> (unfold far; simp at h; omega)
  | p :: ps, [], n, k, _, _, _, _, h => by unfold strk; split <;> (unfold far; simp at h; omega)
  | p :: ps, c :: cs, n, k, hp, hc, hk, hn, h => by
    unfold strk
    have h1 := hp p (.head _)
    have h2 := hc c (.head _)
    have h3 : 0 ≤ min k p.sods * c := Int.mul_nonneg (by omega) (by omega)
    have h4 : min k p.sods * c ≤ 30 * 100 := Int.mul_le_mul (by omega) (by omega) (by omega) (by omega)
    simp only [List.length_cons] at h
    exact strk_bd ps cs _ _ hp.tail (fun x hx => hc x (.tail _ hx)) (by omega) (by omega) (by omega)
attribute [local irreducible] AnyO AnyB QAny QB EWalk AWalk Ev WP OPS QThen QBlock QScope QLoop QBody Val New Turn Tri Enters PostA Blk Ro
section
variable (N : Nat) (w0 : World) (L : Hp) (g : Fg)
theorem strokes_ret (hm : Mem g.b (Blk 128 (faceL g)) L) (hA : SodAt N w0 g) (v : VS g.s) (a b c : Int) (hc3 : ∀ x ∈ [a, b, c], 0 ≤ x ∧ x ≤ 100) (k : Int) (hk : 0 ≤ k ∧ k ≤ 100000) :
    Ret Try.prog N w0 L 99 [.pointer (some ⟨g.b, 0, none⟩), .agg (cost3 a b c).toArray, .int .i64 k].toArray (.int .i64 (strk g.s.spits [a, b, c] 0 k)) := by
  have hnp := v.np
  refine Ret.fgt ?_
  refine tri_of_WP Try.func99 rfl (n := _) rfl (by simp) ?_
  repeat' (first | (refine Znh ?_) | (refine GiW ?_; first | (refine Zsq fun K hK => ?_) | (refine ZrN 0 fun _ => ?_; refine Zal 4 fun b4 => ?_; refine Zv Zai ?_) | (refine ZrN 1 fun _ => ?_; refine Zv Zmv ?_; (first | (refine Zv Zxnp ?_) | (refine Zv Zxnf ?_)); refine Zv Zf0 ?_; refine Zv Zf0 ?_; refine Zv Zld ?_; refine Zv Zxlen ?_; refine Zv Zmi ?_) | (with_reducible apply WP_block)))
  refine WP_loop [2, 6, 7, 8, 9, 16, 17, 18, 19, 20, 21, 22, 23, 24, 25, 26, 27, 28, 29, 30, 31, 32, 33, 34, 35, 36] (fun q : Nat × Int × Int => [(16, .int .i64 q.1), (6, .int .i64 q.2.1), (2, .int .i64 q.2.2)]) (fun _ => (b4, Blk 86 (cost3 a b c)) :: L)
    (fun q => q.1 ≤ g.s.spits.length ∧ (0 ≤ q.2.1 ∧ q.2.1 ≤ 3000 * q.1) ∧ (0 ≤ q.2.2 ∧ q.2.2 ≤ 100000) ∧ strk g.s.spits [a, b, c] 0 k = strk (g.s.spits.drop q.1) ([a, b, c].drop q.1) q.2.1 q.2.2) (fun q => g.s.spits.length - q.1) (0, 0, k) (.cons rfl (.cons rfl (.cons rfl .nil))) (Wk.refl _) ⟨Nat.zero_le _, by dsimp only; omega, hk, rfl⟩ ?_
  rintro ⟨i, n, s⟩ j ⟨hi, hn, hs, he⟩
  dsimp only at hi hn hs he ⊢
  by_cases hlt : i < g.s.spits.length
  · obtain ⟨bA, oA, hA1, hbA, hcA⟩ := hA.spits.row i hlt
    obtain ⟨p, hp⟩ : ∃ p, g.s.spits[i] = p := ⟨_, rfl⟩
    rw [hp] at hcA
    unfold sptL at hcA
    have hpv := v.sp p (by rw [← hp]; exact List.getElem_mem hlt)
    obtain ⟨x, hx⟩ : ∃ x, [a, b, c][i]? = some x := ⟨_, List.getElem?_eq_getElem (by simp; omega)⟩
    have hxb := hc3 x (List.mem_of_getElem? hx)
    have hcell := cost_get hx
    have hd1 : g.s.spits.drop i = p :: g.s.spits.drop (i + 1) := by rw [List.drop_eq_getElem_cons hlt, hp]
    have hd2 := drop_cons' hx
    rw [hd1, hd2] at he
    have h3 : 0 ≤ min s p.sods * x := Int.mul_nonneg (by omega) (by omega)
    have h4 : min s p.sods * x ≤ 30 * 100 := Int.mul_le_mul (by omega) (by omega) (by omega) (by omega)
    have hl3 : i < (cost3 a b c).length := by show i < 3; omega
    repeat' (first | (refine GiP ?_; first | (refine Znh ?_) | (with_reducible refine Znl ?_)) | (refine GiW ?_; first | (refine Zsq fun K hK => ?_) | (refine ZrN 2 fun _ => ?_; refine Zv Zxlss ?_) | (refine ZrN 3 fun _ => ?_; refine Zv Zmi ?_; refine Zv Zia ?_; refine Zv Zla ?_; refine Zal 8 fun b8 => ?_; refine Zv Zai ?_; refine Zst ?_) | (refine ZrN 4 fun _ => ?_; refine Zv Zmi ?_; refine Zv Zf0 ?_; refine Zv Zld ?_; refine Zv Zxmin ?_; refine Zv Zai ?_) | (refine ZrN 5 fun _ => ?_; refine Zv Zmi ?_; refine Zv Zmi ?_; refine Zv Zmi ?_; refine Zv Zf0 ?_; refine Zv ZiA ?_; refine Zv Zld ?_; refine Zv Zxmul ?_; refine Zv Zxadd ?_; refine Zv Zmi ?_; refine Zv Zmi ?_; refine Zv Zxsub ?_; refine Zv Zai ?_; refine Zv Zai ?_) | (refine ZrN 6 fun _ => ?_; refine Zv Zxadd ?_; refine Zv Zmi ?_) | (refine Zcd (fun hc => ?_) (fun hc => ?_) <;> (try (exfalso; omega))) | (with_reducible apply WP_skip) | (with_reducible apply WP_block)) | (refine Zhn ?_) | (with_reducible apply QBlock_normal))
    exact QLoop_normal (i + 1, n + min s p.sods * x, s - min s p.sods) (.cons rfl (.cons rfl (.cons rfl .nil))) (by repeat (first | exact Off.frame rfl | exact Off.refl _ _ | refine Off.frameT rfl rfl ?_ | refine Off.upd rfl ?_ | refine Off.updO rfl ?_)) (by repeat (first | exact Wk.refl _ | apply Wk.keep1 | apply Wk.drop | apply Wk.sv | apply Wk.svD | apply Wk.appD)) ⟨by dsimp only; omega, by dsimp only; omega, by dsimp only; omega, he⟩ (by dsimp only; omega)
  · have hie : i = g.s.spits.length := by omega
    rw [hie, List.drop_length] at he
    have hz : strk g.s.spits [a, b, c] 0 k = if 0 < s then far else n := by rw [he]; unfold strk; rfl
    repeat' (first | (refine Znh ?_) | (refine GiW ?_; first | (refine Zsq fun K hK => ?_) | (refine ZrN 2 fun _ => ?_; refine Zv Zxlss ?_) | (refine ZrN 7 fun _ => ?_; refine Zv Zmi ?_; refine Zv Zxgtr ?_) | (refine ZrN 8 fun _ => ?_; refine Zv Zai ?_) | (refine ZrN 9 fun _ => ?_; refine Zv Zmi ?_; refine Zv Zai ?_) | (refine Zcd (fun hc => ?_) (fun hc => ?_) <;> (try (exfalso; omega))) | (with_reducible apply WP_skip) | (with_reducible apply WP_exit) | (with_reducible apply WP_ret)) | (refine Zhn ?_) | (refine Zhx ?_) | (with_reducible apply QBlock_hit) | (with_reducible apply QLoop_exit) | (refine Zhr ?_))
    · refine QBody_ret1 rfl (rfl : _ = Value.int _ _) ⟨?_, (by repeat (first | exact Wk.refl _ | apply Wk.keep1 | apply Wk.drop | apply Wk.sv | apply Wk.svD | apply Wk.appD))⟩
      rw [hz, if_pos (by assumption)]; rfl
    · refine QBody_ret1 rfl (rfl : _ = Value.int _ _) ⟨?_, (by repeat (first | exact Wk.refl _ | apply Wk.keep1 | apply Wk.drop | apply Wk.sv | apply Wk.svD | apply Wk.appD))⟩
      rw [hz, if_neg (by assumption)]
theorem cut_ret (hm : Mem g.b (Blk 128 (faceL g)) L) (hA : SodAt N w0 g) (v : VS g.s) (a b c : Int) (hc : CIn g.s.spits [a, b, c]) (t : Int) (ht : 0 ≤ t ∧ t ≤ 100000) :
    Ret Try.prog N w0 L 95 [.pointer (some ⟨g.b, 0, none⟩), .agg (cost3 a b c).toArray, .int .i64 t].toArray (.int .i64 (cutS g.s.spits [a, b, c] 0 t)) := by
  have hnp := v.np
  refine Ret.fgt ?_
  refine tri_of_WP Try.func95 rfl (n := _) rfl (by simp) ?_
  repeat' (first | (refine Znh ?_) | (refine GiW ?_; first | (refine Zsq fun K hK => ?_) | (refine ZrN 0 fun _ => ?_; refine Zal 4 fun b4 => ?_; refine Zv Zai ?_) | (refine ZrN 1 fun _ => ?_; refine Zv Zmv ?_; (first | (refine Zv Zxnp ?_) | (refine Zv Zxnf ?_)); refine Zv Zf0 ?_; refine Zv Zf0 ?_; refine Zv Zld ?_; refine Zv Zxlen ?_; refine Zv Zmi ?_) | (with_reducible apply WP_label) | (with_reducible apply WP_block) | (with_reducible apply WP_scope)) | (refine Zhn ?_))
  refine WP_loop [2, 6, 7, 8, 15, 16, 17, 18, 19, 20, 21, 22, 23, 24, 25, 26, 27, 28, 29, 30, 31, 32, 33, 34, 35, 36, 37, 38, 39] (fun q : Nat × Int × Int => [(15, .int .i64 q.1), (6, .int .i64 q.2.1), (2, .int .i64 q.2.2)]) (fun _ => (b4, Blk 86 (cost3 a b c)) :: L)
    (fun q => q.1 ≤ g.s.spits.length ∧ (0 ≤ q.2.1 ∧ q.2.1 ≤ 30 * q.1) ∧ (0 ≤ q.2.2 ∧ q.2.2 ≤ 100000) ∧ CIn (g.s.spits.drop q.1) ([a, b, c].drop q.1) ∧ cutS g.s.spits [a, b, c] 0 t = cutS (g.s.spits.drop q.1) ([a, b, c].drop q.1) q.2.1 q.2.2) (fun q => g.s.spits.length - q.1) (0, 0, t) (.cons rfl (.cons rfl (.cons rfl .nil))) (Wk.refl _) ⟨Nat.zero_le _, by dsimp only; omega, ht, hc, rfl⟩ ?_
  rintro ⟨i, n, s⟩ j ⟨hi, hn, hs, hci, he⟩
  dsimp only at hi hn hs hci he ⊢
  by_cases hlt : i < g.s.spits.length
  · obtain ⟨bA, oA, hA1, hbA, hcA⟩ := hA.spits.row i hlt
    obtain ⟨p, hp⟩ : ∃ p, g.s.spits[i] = p := ⟨_, rfl⟩
    rw [hp] at hcA
    unfold sptL at hcA
    have hpv := v.sp p (by rw [← hp]; exact List.getElem_mem hlt)
    obtain ⟨x, hx⟩ : ∃ x, [a, b, c][i]? = some x := ⟨_, List.getElem?_eq_getElem (by simp; omega)⟩
    have hcell := cost_get hx
    have hd1 : g.s.spits.drop i = p :: g.s.spits.drop (i + 1) := by rw [List.drop_eq_getElem_cons hlt, hp]
    have hd2 := drop_cons' hx
    rw [hd1, hd2] at he hci
    cases hci with | cons hxb hci' =>
    have hl3 : i < (cost3 a b c).length := by show i < 3; omega
    have hcs : ∀ cs ds : List Int, cutS (p :: g.s.spits.drop (i + 1)) (x :: ds) n s = if p.sods * x ≤ s then cutS (g.s.spits.drop (i + 1)) ds (n + p.sods) (s - p.sods * x) else n + s / x := fun _ _ => rfl
    rw [hcs []] at he
    repeat' (first | (refine Znh ?_) | (refine GiW ?_; first | (refine Zsq fun K hK => ?_) | (refine ZrN 2 fun _ => ?_; refine Zv Zxlss ?_) | (refine ZrN 3 fun _ => ?_; refine Zv Zmi ?_; refine Zv Zia ?_; refine Zv Zla ?_; refine Zal 8 fun b8 => ?_; refine Zv Zai ?_; refine Zst ?_) | (refine ZrN 4 fun _ => ?_; refine Zv Zf0 ?_; refine Zv Zld ?_; refine Zv Zmi ?_) | (refine Zcd (fun hc => ?_) (fun hc => ?_) <;> (try (exfalso; omega))) | (with_reducible apply WP_skip) | (with_reducible apply WP_block)) | (refine Zhn ?_))
    refine WP_loop [2, 6, 22, 23, 24, 25, 26, 27, 28, 29, 30, 31, 32, 33, 34, 35, 36, 37, 38] (fun m : Nat => [(22, .int .i64 m), (6, .int .i64 (n + m)), (2, .int .i64 (s - m * x))]) (fun _ => (b8, Blk 55 (sptL p)) :: (b4, Blk 86 (cost3 a b c)) :: L)
      (fun m => m ≤ p.sods.toNat ∧ (m : Int) * x ≤ s ∧ 0 ≤ (m : Int) * x) (fun m => p.sods.toNat - m) 0 (.cons rfl (.cons ((rfl : _ = Value.int .i64 n).trans (by simp)) (.cons ((rfl : _ = Value.int .i64 s).trans (by simp)) .nil))) (Wk.refl _) ⟨Nat.zero_le _, by simp; omega, by simp⟩ ?_
    rintro m j2 ⟨hm1, hm2, hm3⟩
    unfold sptL
    by_cases hms : m < p.sods.toNat
    · have hnx : ((m + 1 : Nat) : Int) * x = (m : Int) * x + x := by rw [Int.natCast_add, Int.natCast_one, Int.add_mul, Int.one_mul]
      by_cases hbr : s - (m : Int) * x < x
      · have h5 : ¬ p.sods * x ≤ s := by
          have : ((m + 1 : Nat) : Int) * x ≤ p.sods * x := Int.mul_le_mul_of_nonneg_right (by omega) (by omega)
          omega
        have h6 : s / x = m := by
          have h7 : s = (s - m * x) + x * m := by rw [Int.mul_comm x]; omega
          rw [h7, Int.add_mul_ediv_left _ _ (by omega), Int.ediv_eq_zero_of_lt (by omega) hbr]; omega
        rw [if_neg h5, h6] at he
        repeat' (first | (refine Znh ?_) | (refine GiW ?_; first | (refine Zsq fun K hK => ?_) | (refine ZrN 5 fun _ => ?_; refine Zv Zxlss ?_) | (refine ZrN 6 fun _ => ?_; refine Zv Zmi ?_; refine Zv Zmi ?_; refine Zv Zf0 ?_; refine Zv ZiA ?_; refine Zv Zld ?_; refine Zv Zxlss ?_) | (refine ZrN 10 fun _ => ?_; refine Zv Zmi ?_; refine Zv Zai ?_) | (refine Zcd (fun hc => ?_) (fun hc => ?_) <;> (try (exfalso; omega))) | (with_reducible apply WP_skip) | (with_reducible apply WP_block) | (with_reducible apply WP_exit) | (with_reducible apply WP_ret)) | (refine Zhn ?_) | (refine Zhx ?_) | (with_reducible apply QBlock_hit) | (refine Zqb ?_) | (with_reducible apply QLoop_exit) | (with_reducible apply QScope_ret))
        refine QBody_ret1 rfl (rfl : _ = Value.int _ _) ⟨?_, (by repeat (first | exact Wk.refl _ | apply Wk.keep1 | apply Wk.drop | apply Wk.sv | apply Wk.svD | apply Wk.appD))⟩
        rw [he]
      · repeat' (first | (refine GiP ?_; first | (refine Znh ?_) | (with_reducible refine Znl ?_)) | (refine GiW ?_; first | (refine Zsq fun K hK => ?_) | (refine ZrN 5 fun _ => ?_; refine Zv Zxlss ?_) | (refine ZrN 6 fun _ => ?_; refine Zv Zmi ?_; refine Zv Zmi ?_; refine Zv Zf0 ?_; refine Zv ZiA ?_; refine Zv Zld ?_; refine Zv Zxlss ?_) | (refine ZrN 8 fun _ => ?_; refine Zv Zxadd ?_; refine Zv Zmi ?_) | (refine Zcd (fun hc => ?_) (fun hc => ?_) <;> (try (exfalso; omega))) | (with_reducible apply WP_skip) | (with_reducible apply WP_block) | (refine WP_drawn (id := 7) [0, 1, 2, 3, 4, 5, 6, 7, 8, 9] [] (k := 0) prog_mixed (by kernel_rfl) rfl ?_; refine Zew rfl Zmi ?_; refine Zew rfl Zxadd ?_; refine Zew rfl Zmi ?_; refine Zew rfl Zmi ?_; refine Zew rfl Zf0 ?_; refine Zew rfl ZiA ?_; refine Zew rfl Zld ?_; refine Zew rfl Zxsub ?_; refine Zew rfl Zai ?_; refine Zew rfl Zai ?_)) | (with_reducible apply EWalk_nil) | (refine AnyO_done (by kernel_rfl) ?_; (try with_reducible apply noP_normal); try with_reducible exact key.out) | (refine Zhn ?_) | (with_reducible apply QBlock_normal) | (refine AWalk_0 ?_; refine ZisO ?_))
        refine QLoop_normal (m + 1) (.cons rfl (.cons ((rfl : _ = Value.int .i64 (n + m + 1)).trans (by congr 1; omega)) (.cons ((rfl : _ = Value.int .i64 (s - m * x - x)).trans (by rw [hnx]; congr 1; omega)) .nil))) (by repeat (first | exact Off.frame rfl | exact Off.refl _ _ | refine Off.frameT rfl rfl ?_ | refine Off.upd rfl ?_ | refine Off.updO rfl ?_)) (by repeat (first | exact Wk.refl _ | apply Wk.keep1 | apply Wk.drop | apply Wk.sv | apply Wk.svD | apply Wk.appD)) ⟨by omega, by rw [hnx]; omega, by rw [hnx]; omega⟩ (by omega)
    · have hme : (m : Int) = p.sods := by omega
      rw [hme] at hm2 hm3 ⊢
      rw [if_pos hm2] at he
      repeat' (first | (refine GiP ?_; first | (refine Znh ?_) | (with_reducible refine Znl ?_)) | (refine GiW ?_; first | (refine Zsq fun K hK => ?_) | (refine ZrN 5 fun _ => ?_; refine Zv Zxlss ?_) | (refine ZrN 9 fun _ => ?_; refine Zv Zxadd ?_; refine Zv Zmi ?_) | (refine Zcd (fun hc => ?_) (fun hc => ?_) <;> (try (exfalso; omega))) | (with_reducible apply WP_exit)) | (refine Zhn ?_) | (with_reducible apply QBlock_normal) | (refine Zhx ?_) | (with_reducible apply QBlock_hit) | (with_reducible apply QLoop_exit))
      exact QLoop_normal (i + 1, n + p.sods, s - p.sods * x) (.cons rfl (.cons rfl (.cons rfl .nil))) (by repeat (first | exact Off.frame rfl | exact Off.refl _ _ | refine Off.frameT rfl rfl ?_ | refine Off.upd rfl ?_ | refine Off.updO rfl ?_)) (by repeat (first | exact Wk.refl _ | apply Wk.keep1 | apply Wk.drop | apply Wk.sv | apply Wk.svD | apply Wk.appD)) ⟨by dsimp only; omega, by dsimp only; omega, by dsimp only; omega, hci', he⟩ (by dsimp only; omega)
  · have hie : i = g.s.spits.length := by omega
    rw [hie, List.drop_length] at he
    repeat' (first | (refine Znh ?_) | (refine GiW ?_; first | (refine Zsq fun K hK => ?_) | (refine ZrN 2 fun _ => ?_; refine Zv Zxlss ?_) | (refine ZrN 10 fun _ => ?_; refine Zv Zmi ?_; refine Zv Zai ?_) | (refine Zcd (fun hc => ?_) (fun hc => ?_) <;> (try (exfalso; omega))) | (with_reducible apply WP_exit) | (with_reducible apply WP_ret)) | (refine Zhn ?_) | (refine Zhx ?_) | (with_reducible apply QBlock_hit) | (with_reducible apply QLoop_exit) | (with_reducible apply QScope_ret))
    refine QBody_ret1 rfl (rfl : _ = Value.int _ _) ⟨?_, (by repeat (first | exact Wk.refl _ | apply Wk.keep1 | apply Wk.drop | apply Wk.sv | apply Wk.svD | apply Wk.appD))⟩
    rw [he]; rfl
end
end Go.Proofs.Ytkaadefndcbdnaa
end

section
namespace Go.Proofs.Ytkaadefndcbdnaa
open Go.RowKit
theorem sum_take (ps : List Spt) (k : Nat) (hk : k < ps.length) : ((ps.take (k + 1)).map (·.sods)).sum = ((ps.take k).map (·.sods)).sum + ps[k].sods := by
  rw [List.take_succ_eq_append_getElem hk, List.map_append, List.sum_append]
  simp
attribute [local irreducible] AnyO AnyB QAny QB EWalk AWalk Ev WP OPS QThen QBlock QScope QLoop QBody Val New Turn Tri Enters PostA Blk Ro
section
variable (N : Nat) (w0 : World) (L : Hp) (g : Fg)
theorem whole_ret (hm : Mem g.b (Blk 128 (faceL g)) L) (hA : SodAt N w0 g) (v : VS g.s) (a b c : Int) (hc3 : ∀ x ∈ [a, b, c], 0 ≤ x ∧ x ≤ 100) (k : Nat) (hk : k ≤ g.s.spits.length) :
    Ret Try.prog N w0 L 61 [.pointer (some ⟨g.b, 0, none⟩), .agg (cost3 a b c).toArray, .int .i64 k].toArray (.int .i64 (wholeS g.s [a, b, c] k)) := by
  have hnp := v.np
  have hcap := hA.cap1
  refine Ret.fgt ?_
  refine tri_of_WP Try.func61 rfl (n := _) rfl (by simp) ?_
  unfold cost3
  repeat' (first | (refine Znh ?_) | (refine GiW ?_; first | (refine Zsq fun K hK => ?_) | (refine ZrN 0 fun _ => ?_; refine Zal 4 fun b4 => ?_; refine Zv Zai ?_) | (refine ZrN 1 fun _ => ?_; refine Zv Zai ?_) | (refine ZrN 2 fun _ => ?_; refine Zv Zmv ?_; (first | (refine Zv Zxnp ?_) | (refine Zv Zxnf ?_)); refine Zv Zf0 ?_; refine Zv Zf0 ?_; refine Zv Zld ?_; refine Zv Zmi ?_; refine Zv (Val_sliceHi (hi := k) rfl rfl rfl (by omega)) ?_; refine Zv Zxlen ?_; refine Zv Zmi ?_) | (with_reducible apply WP_block)))
  refine WP_loop [7, 9, 18, 19, 20, 21, 22, 23, 24, 25, 26] (fun i : Nat => [(18, .int .i64 i), (7, .int .i64 ((g.s.spits.take i).map (·.sods)).sum)]) (fun _ => (b4, Blk 86 [.int .i64 a, .int .i64 b, .int .i64 c]) :: L)
    (fun i => i ≤ k ∧ 0 ≤ ((g.s.spits.take i).map (·.sods)).sum ∧ ((g.s.spits.take i).map (·.sods)).sum ≤ 30 * i) (fun i => k - i) 0 (.cons rfl (.cons rfl .nil)) (Wk.refl _) ⟨Nat.zero_le _, by simp, by simp⟩ ?_
  rintro i j ⟨hi, hs1, hs2⟩
  by_cases hlt : i < k
  · have hlt' : i < g.s.spits.length := by omega
    obtain ⟨bA, oA, hA1, hbA, hcA⟩ := hA.spits.row i hlt'
    have hpv := v.sp g.s.spits[i] (List.getElem_mem hlt')
    have hst := sum_take g.s.spits i hlt'
    obtain ⟨p, hp⟩ : ∃ p, g.s.spits[i] = p := ⟨_, rfl⟩
    rw [hp] at hcA hst hpv
    unfold sptL at hcA
    repeat' (first | (refine GiP ?_; first | (refine Znh ?_) | (with_reducible refine Znl ?_)) | (refine GiW ?_; first | (refine Zsq fun K hK => ?_) | (refine ZrN 3 fun _ => ?_; refine Zv Zxlss ?_) | (refine ZrN 4 fun _ => ?_; refine Zv Zia ?_; refine Zv Zla ?_; refine Zal 9 fun b9 => ?_; refine Zst ?_) | (refine ZrN 5 fun _ => ?_; refine Zv Zmi ?_; refine Zv Zf0 ?_; refine Zv Zld ?_; refine Zv Zxadd ?_; refine Zv Zai ?_) | (refine ZrN 6 fun _ => ?_; refine Zv Zxadd ?_; refine Zv Zmi ?_) | (refine Zcd (fun hc => ?_) (fun hc => ?_) <;> (try (exfalso; omega))) | (with_reducible apply WP_skip) | (with_reducible apply WP_block)) | (refine Zhn ?_) | (with_reducible apply QBlock_normal))
    exact QLoop_normal (i + 1) (.cons rfl (.cons (by rw [hst]; rfl) .nil)) (by repeat (first | exact Off.frame rfl | exact Off.refl _ _ | refine Off.frameT rfl rfl ?_ | refine Off.upd rfl ?_ | refine Off.updO rfl ?_)) (by repeat (first | exact Wk.refl _ | apply Wk.keep1 | apply Wk.drop | apply Wk.sv | apply Wk.svD | apply Wk.appD)) ⟨by omega, by omega, by omega⟩ (by omega)
  · have hie : i = k := by omega
    subst hie
    repeat' (first | (refine Znh ?_) | (refine GiW ?_; first | (refine Zsq fun K hK => ?_) | (refine ZrN 3 fun _ => ?_; refine Zv Zxlss ?_) | (refine ZrN 7 fun _ => ?_; refine Zv Zmv ?_; refine Zv Zla ?_; refine Zv Zmi ?_; refine Zcl (Enters_fn rfl) (strokes_ret N w0 _ g (by repeat (first | exact Mem.here | assumption | apply Mem.there | apply Mem.sv | apply Mem.app)) hA v a b c hc3 _ (by omega)) ?_; refine Zv Zai ?_) | (refine Zcd (fun hc => ?_) (fun hc => ?_) <;> (try (exfalso; omega))) | (with_reducible apply WP_exit) | (with_reducible apply WP_ret)) | (refine Zhn ?_) | (refine Zhx ?_) | (with_reducible apply QBlock_hit) | (with_reducible apply QLoop_exit))
    exact QBody_ret1 rfl (rfl : _ = Value.int _ _) ⟨rfl, (by repeat (first | exact Wk.refl _ | apply Wk.keep1 | apply Wk.drop | apply Wk.sv | apply Wk.svD | apply Wk.appD))⟩
theorem common_ret (bb : Nat) (x1 x2 y1 y2 : Int) (hm : Mem bb (Blk 88 [.int .i64 x1, .int .i64 x2, .int .i64 y1, .int .i64 y2]) L) :
    Ret Try.prog N w0 L 114 [.slice (some ⟨bb, 0, none⟩) 2 2].toArray (.agg [.int .i64 (max x1 y1), .int .i64 (min x2 y2)].toArray) := by
  refine Ret.fgt ?_
  refine tri_of_WP Try.func114 rfl (n := _) rfl (by simp) ?_
  repeat' (first | (refine Znh ?_) | (refine GiW ?_; first | (refine Zsq fun K hK => ?_) | (refine ZrN 0 fun _ => ?_; refine Zal 2 fun b2 => ?_) | (refine ZrN 1 fun _ => ?_; refine Zv Zmv ?_; refine Zv Zia ?_; refine Zv Zla ?_; refine Zal 3 fun b3 => ?_; refine Zst ?_) | (refine ZrN 2 fun _ => ?_; refine Zv Zmv ?_; refine Zv (Val_sliceLo (lo := 1) rfl rfl rfl (by omega) (by omega)) ?_; refine Zv Zxlen ?_; refine Zv Zmi ?_) | (with_reducible apply WP_block)))
  refine WP_loop [5, 12, 13, 14, 15, 16, 17, 18, 19, 20, 21, 22, 23, 24, 25, 26, 27, 28, 29, 30, 31, 32] (fun i : Bool => [(12, .int .i64 (if i then 1 else 0))]) (fun i => (b3, Blk 88 (if i then [.int .i64 (max x1 y1), .int .i64 (min x2 y2)] else [.int .i64 x1, .int .i64 x2])) :: (b2, Blk 88 [.int .i64 0, .int .i64 0]) :: L)
    (fun _ => True) (fun i => if i then 0 else 1) false (.cons rfl .nil) (by repeat (first | exact Wk.refl _ | apply Wk.keep1 | apply Wk.drop | apply Wk.sv | apply Wk.svD | apply Wk.appD)) trivial ?_
  rintro (_ | _) j -
  · simp only [Bool.false_eq_true, if_false]
    repeat' (first | (refine GiP ?_; first | (refine Znh ?_) | (with_reducible refine Znl ?_)) | (refine GiW ?_; first | (refine Zsq fun K hK => ?_) | (refine ZrN 3 fun _ => ?_; refine Zv Zxlss ?_) | (refine ZrN 4 fun _ => ?_; refine Zv Zia ?_; refine Zv Zla ?_; refine Zal 5 fun b5 => ?_; refine Zst ?_) | (refine ZrN 5 fun _ => ?_; refine Zv Zf0 ?_; refine Zv Zf0 ?_; refine Zv Zld ?_; refine Zv Zf0 ?_; refine Zv Zf0 ?_; refine Zv Zld ?_; refine Zv Zxmax ?_; refine Zv Zf0 ?_; refine Zv Zfa ?_; refine Zv Zld ?_; refine Zv Zf0 ?_; refine Zv Zfa ?_; refine Zv Zld ?_; refine Zv Zxmin ?_; refine Zv Zxbu ?_; refine Zv Zxbu ?_; refine Zst ?_) | (refine ZrN 6 fun _ => ?_; refine Zv Zxadd ?_; refine Zv Zmi ?_) | (refine WP_cond_true rfl ?_) | (with_reducible apply WP_skip) | (with_reducible apply WP_block)) | (refine Zhn ?_) | (with_reducible apply QBlock_normal))
    exact QLoop_normal true (.cons rfl .nil) (by repeat (first | exact Off.frame rfl | exact Off.refl _ _ | refine Off.frameT rfl rfl ?_ | refine Off.upd rfl ?_ | refine Off.updO rfl ?_)) (by repeat (first | exact Wk.refl _ | apply Wk.keep1 | apply Wk.drop | apply Wk.sv | apply Wk.svD | apply Wk.appD)) trivial (by simp)
  · simp only [if_true]
    repeat' (first | (refine Znh ?_) | (refine GiW ?_; first | (refine Zsq fun K hK => ?_) | (refine ZrN 3 fun _ => ?_; refine Zv Zxlss ?_) | (refine ZrN 7 fun _ => ?_; refine Zv Zla ?_; refine Zst ?_) | (refine WP_cond_false rfl ?_) | (with_reducible apply WP_exit) | (with_reducible apply WP_ret)) | (refine Zhn ?_) | (refine Zhx ?_) | (with_reducible apply QBlock_hit) | (with_reducible apply QLoop_exit))
    exact QBody_res rfl (.cellN rfl (by repeat (first | exact Mem.here | assumption | apply Mem.there | apply Mem.sv | apply Mem.app)) (.here (.cons (.cons .nil))) .nil) rfl ⟨rfl, (by repeat (first | exact Wk.refl _ | apply Wk.keep1 | apply Wk.drop | apply Wk.sv | apply Wk.svD | apply Wk.appD))⟩
end
end Go.Proofs.Ytkaadefndcbdnaa
end

section
namespace Go.Proofs.Ytkaadefndcbdnaa
open Go.RowKit
attribute [local irreducible] AnyO AnyB QAny QB EWalk AWalk Ev WP OPS QThen QBlock QScope QLoop QBody Val New Turn Tri Enters PostA Blk Ro
section
variable (N : Nat) (w0 : World) (L : Hp) (g : Fg)
def big (n : Int) : Prop := -2000000 ≤ n ∧ n ≤ 2000000
theorem countedOf_ret (hm : Mem g.b (Blk 128 (faceL g)) L) (hA : SodAt N w0 g) (v : VS g.s) (a b c : Int) (hc3 : ∀ x ∈ [a, b, c], 0 ≤ x ∧ x ≤ 100) (m : Sp) (lo hi : Int) (h1 : 0 ≤ lo ∧ lo ≤ 1000) (h2 : 0 ≤ hi ∧ hi ≤ 1000) :
    Ret Try.prog N w0 L 140 [.agg [.int .i64 m.1, .int .i64 m.2, .int .i64 lo, .int .i64 hi].toArray, .pointer (some ⟨g.b, 0, none⟩), .agg (cost3 a b c).toArray].toArray (.agg [.int .i64 (max m.1 (strk g.s.spits [a, b, c] 0 lo)), .int .i64 (min m.2 (strk g.s.spits [a, b, c] 0 (hi + 1) - 1))].toArray) := by
  have hnp := v.np
  have hb : ∀ k, 0 ≤ k → 0 ≤ strk g.s.spits [a, b, c] 0 k ∧ strk g.s.spits [a, b, c] 0 k ≤ far := fun k hk => strk_bd g.s.spits [a, b, c] 0 k v.spOk hc3 hk (Int.le_refl _) (by omega)
  have hb1 := hb lo h1.1
  have hb2 := hb (hi + 1) (by omega)
  unfold far at hb1 hb2
  refine Ret.fgt ?_
  refine tri_of_WP Try.func140 rfl (n := _) rfl (by simp) ?_
  unfold cost3
  repeat' (first | (refine Znh ?_) | (refine GiW ?_; first | (refine Zsq fun K hK => ?_) | (refine ZrN 0 fun _ => ?_; refine Zal 3 fun b3 => ?_; refine Zal 5 fun b5 => ?_; refine Zal 6 fun b6 => ?_) | (refine ZrN 2 fun _ => ?_; refine Zv Zf0 ?_; refine Zv Zla ?_; refine Zv Zmv ?_; refine Zv Zla ?_; refine Zcl (Enters_fn rfl) (dayOf_ret N w0 _ m _ _) ?_; refine Zv Zmi ?_; refine Zv Zmi ?_; refine Zv Zxsub ?_; refine Zv Zxbu ?_; refine Zv Zxbu ?_; refine Zal 32 fun b32 => ?_; refine Zcl (Enters_fn rfl) (common_ret N w0 _ _ _ _ _ _ (by repeat (first | exact Mem.here | assumption | apply Mem.there | apply Mem.sv | apply Mem.app))) ?_; refine Zst ?_) | (with_reducible apply WP_ret) | (refine WP_drawn (id := 1) [0, 1, 2, 3, 4, 5, 6, 7, 8, 9, 10, 11, 12, 13, 14] [] (k := 0) prog_mixed (by kernel_rfl) rfl ?_; refine Zew rfl Zmv ?_; refine Zew rfl Zla ?_; refine Zew rfl Zfa ?_; refine Zew rfl Zf0 ?_; refine Zew rfl Zld ?_; (first | (refine Zec rfl (Enters_fn rfl) (fun X => strokes_ret N w0 _ g (by repeat (first | exact Mem.here | assumption | apply Mem.there | apply Mem.sv | apply Mem.app)) hA v a b c hc3 lo (by omega)) ?_) | (refine Zec rfl (Enters_fn rfl) (fun X => strokes_ret N w0 _ g (by repeat (first | exact Mem.here | assumption | apply Mem.there | apply Mem.sv | apply Mem.app)) hA v a b c hc3 (hi + 1) (by omega)) ?_)); refine Zew rfl Zmv ?_; refine Zew rfl Zla ?_; refine Zew rfl Zfa ?_; refine Zew rfl Zfa ?_; refine Zew rfl Zld ?_; refine Zew rfl Zxadd ?_; (first | (refine Zec rfl (Enters_fn rfl) (fun X => strokes_ret N w0 _ g (by repeat (first | exact Mem.here | assumption | apply Mem.there | apply Mem.sv | apply Mem.app)) hA v a b c hc3 lo (by omega)) ?_) | (refine Zec rfl (Enters_fn rfl) (fun X => strokes_ret N w0 _ g (by repeat (first | exact Mem.here | assumption | apply Mem.there | apply Mem.sv | apply Mem.app)) hA v a b c hc3 (hi + 1) (by omega)) ?_)); refine Zew rfl Zai ?_; refine Zew rfl Zai ?_)) | (with_reducible apply EWalk_nil) | (refine AnyO_done (by kernel_rfl) ?_; (try with_reducible apply noP_normal); try with_reducible exact key.out) | (refine Zhn ?_) | (refine AWalk_0 ?_; refine ZisO ?_))
  exact QBody_res rfl (.cellN rfl (by repeat (first | exact Mem.here | assumption | apply Mem.there | apply Mem.sv | apply Mem.app)) (.here (.cons (.cons .nil))) .nil) rfl ⟨rfl, (by repeat (first | exact Wk.refl _ | apply Wk.keep1 | apply Wk.drop | apply Wk.sv | apply Wk.svD | apply Wk.appD))⟩
theorem counts_ret (hm : Mem g.b (Blk 128 (faceL g)) L) (hA : SodAt N w0 g) (v : VS g.s) (a b c : Int) (hc3 : ∀ x ∈ [a, b, c], 0 ≤ x ∧ x ≤ 100) (d : Int) (m : Sp) (h1 : big m.1) (h2 : big m.2) :
    Ret Try.prog N w0 L 111 [.pointer (some ⟨g.b, 0, none⟩), .agg (cost3 a b c).toArray, .int .i64 d, .agg [.int .i64 m.1, .int .i64 m.2].toArray].toArray (.agg [.int .i64 (cntS g.s [a, b, c] d g.s.logs m).1, .int .i64 (cntS g.s [a, b, c] d g.s.logs m).2].toArray) := by
  have hnl := v.nl
  have hnp := v.np
  have hb : ∀ k, 0 ≤ k → 0 ≤ strk g.s.spits [a, b, c] 0 k ∧ strk g.s.spits [a, b, c] 0 k ≤ far := fun k hk => strk_bd g.s.spits [a, b, c] 0 k v.spOk hc3 hk (Int.le_refl _) (by omega)
  refine Ret.fgt ?_
  refine tri_of_WP Try.func111 rfl (n := _) rfl (by simp) ?_
  unfold cost3
  repeat' (first | (refine Znh ?_) | (refine GiW ?_; first | (refine Zsq fun K hK => ?_) | (refine ZrN 0 fun _ => ?_; refine Zal 5 fun b5 => ?_; refine Zal 7 fun b7 => ?_; refine Zal 8 fun b8 => ?_) | (refine ZrN 1 fun _ => ?_; refine Zv Zmv ?_; (first | (refine Zv Zxnp ?_) | (refine Zv Zxnf ?_)); refine Zv Zf0 ?_; refine Zv Zfa ?_; refine Zv Zld ?_; refine Zv Zxlen ?_; refine Zv Zmi ?_) | (with_reducible apply WP_block)))
  refine WP_loop [10, 11, 18, 19, 20, 21, 22, 23, 24, 25, 26, 27, 28, 29, 30, 31, 32, 33, 34, 35, 36, 37, 38, 39] (fun q : Nat × Sp => [(18, .int .i64 q.1)]) (fun q => (b8, Blk 88 [.int .i64 0, .int .i64 0]) :: (b7, Blk 88 [.int .i64 q.2.1, .int .i64 q.2.2]) :: (b5, Blk 86 [.int .i64 a, .int .i64 b, .int .i64 c]) :: L)
    (fun q => q.1 ≤ g.s.logs.length ∧ big q.2.1 ∧ big q.2.2 ∧ cntS g.s [a, b, c] d g.s.logs m = cntS g.s [a, b, c] d (g.s.logs.drop q.1) q.2) (fun q => g.s.logs.length - q.1) (0, m) (.cons rfl .nil) (Wk.refl _) ⟨Nat.zero_le _, h1, h2, rfl⟩ ?_
  rintro ⟨k, x⟩ j ⟨hk, hx1, hx2, he⟩
  dsimp only at hk hx1 hx2 he ⊢
  by_cases hlt : k < g.s.logs.length
  · obtain ⟨bA, oA, hA1, hbA, hcA⟩ := hA.logs.row k hlt
    have hlv := v.lg g.s.logs[k] (List.getElem_mem hlt)
    have hd1 : g.s.logs.drop k = g.s.logs[k] :: g.s.logs.drop (k + 1) := List.drop_eq_getElem_cons hlt
    obtain ⟨l, hl⟩ : ∃ l, g.s.logs[k] = l := ⟨_, rfl⟩
    rw [hl] at hcA hlv hd1
    unfold lgL at hcA
    rw [hd1] at he
    have hun : ∀ ls, cntS g.s [a, b, c] d (l :: ls) x = cntS g.s [a, b, c] d ls (if l.day = d then (max x.1 (strk g.s.spits [a, b, c] 0 l.lo), min x.2 (strk g.s.spits [a, b, c] 0 (l.hi + 1) - 1)) else x) := fun _ => rfl
    rw [hun] at he
    unfold big at hx1 hx2
    by_cases hd : l.day = d
    · rw [if_pos hd] at he
      have hb1 := hb l.lo (by omega)
      have hb2 := hb (l.hi + 1) (by omega)
      unfold far at hb1 hb2
      have hcl := fun L hm => countedOf_ret N w0 L g hm hA v a b c hc3 x l.lo l.hi (by omega) (by omega)
      repeat' (first | (refine GiP ?_; first | (refine Znh ?_) | (with_reducible refine Znl ?_)) | (refine GiW ?_; first | (refine Zsq fun K hK => ?_) | (refine ZrN 2 fun _ => ?_; refine Zv Zxlss ?_) | (refine ZrN 3 fun _ => ?_; refine Zv Zia ?_; refine Zv Zla ?_; refine Zal 10 fun b10 => ?_; refine Zst ?_) | (refine ZrN 4 fun _ => ?_; refine Zv Zla ?_; refine Zv Zxbu ?_; refine Zv Zxmi ?_; refine Zv Zav ?_) | (refine ZrN 5 fun _ => ?_; refine Zv Zf0 ?_; refine Zv Zld ?_; refine Zv Zmi ?_; refine Zv Zxeql ?_) | (refine ZrN 6 fun _ => ?_; refine Zv Zla ?_; refine Zv Zxbu ?_; refine Zv Zfa ?_; refine Zv Zla ?_; refine Zv Zxbu ?_; refine Zv Zxmi ?_; refine Zv Zav ?_) | (refine ZrN 7 fun _ => ?_; refine Zv Zmv ?_; refine Zv Zmv ?_; refine Zv Zla ?_; refine OPS_retS (Enters_inv rfl rfl) (hcl _ (by repeat (first | exact Mem.here | assumption | apply Mem.there | apply Mem.sv | apply Mem.app))) rfl rfl rfl ?_; refine Zst ?_) | (refine ZrN 8 fun _ => ?_; refine Zv Zxadd ?_; refine Zv Zmi ?_) | (refine Zcd (fun hc => ?_) (fun hc => ?_) <;> (try (exfalso; omega))) | (with_reducible apply WP_skip) | (with_reducible apply WP_block)) | (refine Zhn ?_) | (with_reducible apply QBlock_normal))
      exact QLoop_normal (k + 1, _) (.cons rfl .nil) (by repeat (first | exact Off.frame rfl | exact Off.refl _ _ | refine Off.frameT rfl rfl ?_ | refine Off.upd rfl ?_ | refine Off.updO rfl ?_)) (by repeat (first | exact Wk.refl _ | apply Wk.keep1 | apply Wk.drop | apply Wk.sv | apply Wk.svD | apply Wk.appD)) ⟨by omega, by unfold big; dsimp only; omega, by unfold big; dsimp only; omega, he⟩ (by dsimp only; omega)
    · rw [if_neg hd] at he
      have hcl := fun L F c => dayOf_ret N w0 L x F c
      repeat' (first | (refine GiP ?_; first | (refine Znh ?_) | (with_reducible refine Znl ?_)) | (refine GiW ?_; first | (refine Zsq fun K hK => ?_) | (refine ZrN 2 fun _ => ?_; refine Zv Zxlss ?_) | (refine ZrN 3 fun _ => ?_; refine Zv Zia ?_; refine Zv Zla ?_; refine Zal 10 fun b10 => ?_; refine Zst ?_) | (refine ZrN 4 fun _ => ?_; refine Zv Zla ?_; refine Zv Zxbu ?_; refine Zv Zxmi ?_; refine Zv Zav ?_) | (refine ZrN 5 fun _ => ?_; refine Zv Zf0 ?_; refine Zv Zld ?_; refine Zv Zmi ?_; refine Zv Zxeql ?_) | (refine ZrN 7 fun _ => ?_; refine Zv Zmv ?_; refine Zv Zmv ?_; refine Zv Zla ?_; refine OPS_retS (Enters_inv rfl rfl) (hcl _ _ _) rfl rfl rfl ?_; refine Zst ?_) | (refine ZrN 8 fun _ => ?_; refine Zv Zxadd ?_; refine Zv Zmi ?_) | (refine Zcd (fun hc => ?_) (fun hc => ?_) <;> (try (exfalso; omega))) | (with_reducible apply WP_skip) | (with_reducible apply WP_block)) | (refine Zhn ?_) | (with_reducible apply QBlock_normal))
      exact QLoop_normal (k + 1, x) (.cons rfl .nil) (by repeat (first | exact Off.frame rfl | exact Off.refl _ _ | refine Off.frameT rfl rfl ?_ | refine Off.upd rfl ?_ | refine Off.updO rfl ?_)) (by repeat (first | exact Wk.refl _ | apply Wk.keep1 | apply Wk.drop | apply Wk.sv | apply Wk.svD | apply Wk.appD)) ⟨by omega, by unfold big; omega, by unfold big; omega, he⟩ (by dsimp only; omega)
  · have hke : k = g.s.logs.length := by omega
    rw [hke, List.drop_length] at he
    have hz : cntS g.s [a, b, c] d g.s.logs m = x := by rw [he]; rfl
    repeat' (first | (refine Znh ?_) | (refine GiW ?_; first | (refine Zsq fun K hK => ?_) | (refine ZrN 2 fun _ => ?_; refine Zv Zxlss ?_) | (refine ZrN 9 fun _ => ?_; refine Zv Zla ?_; refine Zst ?_) | (refine Zcd (fun hc => ?_) (fun hc => ?_) <;> (try (exfalso; omega))) | (with_reducible apply WP_exit) | (with_reducible apply WP_ret)) | (refine Zhn ?_) | (refine Zhx ?_) | (with_reducible apply QBlock_hit) | (with_reducible apply QLoop_exit))
    refine QBody_res rfl (.cellN rfl (by repeat (first | exact Mem.here | assumption | apply Mem.there | apply Mem.sv | apply Mem.app)) (.here (.cons (.cons .nil))) .nil) rfl ⟨?_, (by repeat (first | exact Wk.refl _ | apply Wk.keep1 | apply Wk.drop | apply Wk.sv | apply Wk.svD | apply Wk.appD))⟩
    rw [hz]; rfl
end
end Go.Proofs.Ytkaadefndcbdnaa
end

section
namespace Go.Proofs.Ytkaadefndcbdnaa
open Go.RowKit
theorem Pre.of : ∀ {l vs : List Value} {n : Nat}, vs.length = n → (∀ (j : Nat) (v : Value), vs[j]? = some v → l[j]? = some v) → Pre l n vs
  | l, [], 0, _, _ => .nil
  | [], v :: vs, n + 1, _, h => by have := h 0 v rfl; simp at this
  | x :: l, v :: vs, n + 1, hl, h => by
    have h0 := h 0 v rfl
    simp only [List.getElem?_cons_zero, Option.some.injEq] at h0
    subst h0
    exact .cons (Pre.of (by simpa using hl) fun j u hj => by simpa using h (j + 1) u (by simpa using hj))
  | _, [], _ + 1, h, _ => by simp at h
  | _, _ :: _, 0, h, _ => by simp at h
theorem Cut.of : ∀ {i n : Nat} {l vs : List Value}, vs.length = n → 0 < n → (∀ (j : Nat) (v : Value), vs[j]? = some v → l[i + j]? = some v) → Cut l i n vs
  | 0, n, l, vs, hl, _, h => .here (Pre.of hl fun j v hj => by simpa using h j v hj)
  | i + 1, n, [], vs, hl, h0, h => by
    have := h 0 _ (List.getElem?_eq_getElem (by omega))
    simp at this
  | i + 1, n, x :: l, vs, hl, h0, h => .there (Cut.of hl h0 fun j v hj => by
      have := h j v hj
      rwa [show i + 1 + j = (i + j) + 1 by omega, List.getElem?_cons_succ] at this)
theorem Cut.whole {l : List Value} {n : Nat} (h : l.length = n) : Cut l 0 n l := .here (Pre.of h fun _ _ hj => hj)
/-- Spans laid end to end, a flag behind them. -/
def cellsD (l : List Sp) (b : Bool) : List Value := l.flatMap spL ++ [.bool b]
theorem flat_len (l : List Sp) : (l.flatMap spL).length = l.length * 2 := by
  induction l with
  | nil => rfl
  | cons x l ih => simp only [List.flatMap_cons, List.length_append, ih, spL, List.length_cons, List.length_nil]; omega
theorem flat_getS : ∀ (l : List Sp) (d : Nat) (x : Sp), l[d]? = some x → ∀ (j : Nat) (v : Value), (spL x)[j]? = some v → (l.flatMap spL)[d * 2 + j]? = some v
  | [], d, x, h, _, _, _ => by simp at h
  | y :: l, 0, x, h, j, v, hj => by
    simp only [List.getElem?_cons_zero, Option.some.injEq] at h
    subst h
    have := (List.getElem?_eq_some_iff.1 hj).1
    rw [List.flatMap_cons, Nat.zero_mul, Nat.zero_add, List.getElem?_append_left this]
    exact hj
  | y :: l, d + 1, x, h, j, v, hj => by
    have := flat_getS l d x (by simpa using h) j v hj
    rw [List.flatMap_cons, show (d + 1) * 2 + j = (spL y).length + (d * 2 + j) by simp [spL]; omega, List.getElem?_append_right (by omega)]
    rwa [Nat.add_sub_cancel_left]
theorem flat_set : ∀ (l : List Sp) (d : Nat) (x : Sp) (tl : List Value), d < l.length → setL (l.flatMap spL ++ tl) (d * 2) (spL x) = (l.set d x).flatMap spL ++ tl
  | [], d, x, _, h => by simp at h
  | y :: l, 0, x, tl, _ => by simp [setL, spL]
  | y :: l, d + 1, x, tl, h => by
    have := flat_set l d x tl (by simpa using h)
    rw [List.set_cons_succ, List.flatMap_cons, List.flatMap_cons, List.append_assoc, List.append_assoc, ← this, show (d + 1) * 2 = d * 2 + 1 + 1 by omega]
    show setL (_ :: _ :: _) _ _ = _
    rw [setL_cons, setL_cons]
    rfl
theorem cellsD_cut {l : List Sp} {b : Bool} {d : Nat} {x : Sp} (h : l[d]? = some x) : Cut (cellsD l b) (0 + d * 2) 2 (spL x) := by
  refine Cut.of rfl (by omega) fun j v hj => ?_
  have := flat_getS l d x h j v hj
  unfold cellsD
  rw [Nat.zero_add, List.getElem?_append_left (List.getElem?_eq_some_iff.1 this).1]
  exact this
theorem cellsD_set {l : List Sp} {b : Bool} {d : Nat} {x : Sp} (h : d < l.length) : setL (cellsD l b) (0 + d * 2) [.int .i64 x.1, .int .i64 x.2] = cellsD (l.set d x) b := by
  rw [Nat.zero_add]; exact flat_set l d x _ h
theorem cellsD_len (l : List Sp) (b : Bool) : (cellsD l b).length = l.length * 2 + 1 := by unfold cellsD; rw [List.length_append, flat_len]; rfl
theorem cellsD_put {l : List Sp} {b b' : Bool} (h : l.length = 6) : setL (cellsD l b) (0 + 12) [.bool b'] = cellsD l b' := by
  unfold cellsD
  show (_ : List Value).set 12 _ = _
  rw [List.set_append_right 12 _ (by rw [flat_len, h]; omega), flat_len, h]
  rfl
/-- Six of them. -/
def pad6 (l : List Sp) : List Sp := l ++ List.replicate (6 - l.length) (0, 0)
theorem pad6_len {l : List Sp} (h : l.length ≤ 6) : (pad6 l).length = 6 := by simp [pad6]; omega
theorem pad6_set {l : List Sp} (h : l.length < 6) (x : Sp) : (pad6 l).set l.length x = pad6 (l ++ [x]) := by
  unfold pad6
  rw [List.set_append_right _ _ (Nat.le_refl _), Nat.sub_self, List.length_append, List.length_singleton]
  obtain ⟨n, hn⟩ : ∃ n, 6 - l.length = n + 1 := ⟨5 - l.length, by omega⟩
  rw [hn, show 6 - (l.length + 1) = n by omega, List.replicate_succ, List.set_cons_zero, List.append_assoc]; rfl
theorem pad6_get {l : List Sp} {d : Nat} {x : Sp} (h : l[d]? = some x) : (pad6 l)[d]? = some x := by
  unfold pad6
  rw [List.getElem?_append_left (List.getElem?_eq_some_iff.1 h).1]; exact h
theorem pad6_upd {l : List Sp} {d : Nat} (h : d < l.length) (x : Sp) : (pad6 l).set d x = pad6 (l.set d x) := by
  unfold pad6
  rw [List.set_append_left _ _ h, List.length_set]
def logL (s : Sd) (c : List Int) : List Value := cellsD (pad6 (daysS s c)) (canS s c)
def lks : List IntKind := [.i64, .i64, .i64]
def keptF (s : Sd) (is : List Int) : Value := .agg (logL s is).toArray
def Fk (g : Fg) : Hp := [(g.b, Blk 128 (faceL g)), (g.m, MapOf lks (keptF g.s))]
theorem fwd_bd (s : Sd) (c : List Int) : ∀ (xs : List Sp) (d : Nat) (m : Sp), (fwd s c xs d m).1.length ≤ xs.length
  | [], _, _ => Nat.le_refl _
  | x :: xs, d, m => by
    unfold fwd
    dsimp only
    split
    · simp only [List.length_cons]; have := fwd_bd s c xs (d + 1) (cntS s c d s.logs (m.1 + x.1, m.2 + x.2)); omega
    · simp
theorem bwd_cons {ms xs : List Sp} {m x r : Sp} {rs : List Sp} (h : bwd ms xs = r :: rs) : bwd (m :: ms) (x :: xs) = (max m.1 (r.1 - x.2), min m.2 (r.2 - x.1)) :: r :: rs := by
  conv => lhs; unfold bwd
  rw [h]
theorem bwd_drop : ∀ (ms xs : List Sp) (d : Nat), xs.length + 1 = ms.length → d ≤ xs.length → (bwd ms xs).drop d = bwd (ms.drop d) (xs.drop d)
  | ms, xs, 0, _, _ => rfl
  | m :: ms, x :: xs, d + 1, h, hd => by
    have hl := bwd_len ms xs (by simpa using h)
    have ih := bwd_drop ms xs d (by simpa using h) (by simpa using hd)
    cases hb : bwd ms xs with
    | nil => rw [hb] at hl; simp at hl h; omega
    | cons r rs =>
      rw [bwd_cons hb, List.drop_succ_cons, List.drop_succ_cons, List.drop_succ_cons, ← hb]
      exact ih
  | [], _, _ + 1, h, _ => by simp at h
  | _ :: _, [], _ + 1, _, hd => by simp at hd
/-- One step backwards. -/
theorem bwd_at {ms xs : List Sp} {d : Nat} {m x r : Sp} (hl : xs.length + 1 = ms.length) (hm : ms[d]? = some m) (hx : xs[d]? = some x) (hr : (bwd ms xs)[d + 1]? = some r) : (bwd ms xs)[d]? = some (max m.1 (r.1 - x.2), min m.2 (r.2 - x.1)) := by
  have hd : d < xs.length := (List.getElem?_eq_some_iff.1 hx).1
  have h0 := bwd_drop ms xs d hl (by omega)
  rw [drop_cons' hm, drop_cons' hx] at h0
  have h1 : bwd (ms.drop (d + 1)) (xs.drop (d + 1)) = (bwd ms xs).drop (d + 1) := (bwd_drop ms xs (d + 1) hl (by omega)).symm
  rw [drop_cons' hr] at h1
  rw [bwd_cons h1] at h0
  have := congrArg (fun l => l[0]?) h0
  simpa using this
theorem bwd_last {ms xs : List Sp} (hl : xs.length + 1 = ms.length) : (bwd ms xs).drop xs.length = ms.drop xs.length := by
  rw [bwd_drop ms xs xs.length hl (Nat.le_refl _), List.drop_length]
  obtain ⟨m, hm⟩ : ∃ m, ms.drop xs.length = [m] := by
    have : (ms.drop xs.length).length = 1 := by simp; omega
    match hd : ms.drop xs.length, this with
    | [m], _ => exact ⟨m, rfl⟩
  rw [hm]; rfl
end Go.Proofs.Ytkaadefndcbdnaa
end
