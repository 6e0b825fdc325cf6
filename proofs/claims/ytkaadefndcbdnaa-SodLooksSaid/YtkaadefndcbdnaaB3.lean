/- Package sod: what is opened. -/
import Derived.Test.YtkaadefndcbdnaaB2
namespace Go.Proofs.Ytkaadefndcbdnaa
open Go.RowKit
def numB (s : Sd) : Bool := within s.spits.length 1 3 && within s.days.length 1 6 && decide ((s.logs.length : Int) ≤ 4)
def sptB (p : Spt) : Bool := within p.sods 1 30 && isSpanB (p.lo, p.hi) 1 6 && decide (p.hi - p.lo ≤ 2)
def lgB (s : Sd) (l : Lg) : Bool := within l.day 0 ((s.days.length : Int) - 1) && isSpanB (l.lo, l.hi) 0 200
/-- Whether a bank is valid. -/
def vB (s : Sd) : Bool := numB s && s.spits.all sptB && s.days.all (fun d => isSpanB d 0 100) && s.logs.all (lgB s)
theorem VS_of {s : Sd} (h : vB s = true) : VS s := by
  simp only [vB, numB, within, Bool.and_eq_true, decide_eq_true_eq, List.all_eq_true] at h
  obtain ⟨⟨⟨⟨⟨h1, h2⟩, h3⟩, h4⟩, h5⟩, h6⟩ := h
  refine ⟨by omega, by omega, by omega, fun p hp => ?_, fun d hd => ?_, fun l hl => ?_⟩
  · have := h4 p hp
    simp only [sptB, within, isSpanB, Bool.and_eq_true, decide_eq_true_eq] at this
    omega
  · have := h5 d hd
    simp only [isSpanB, decide_eq_true_eq] at this
    omega
  · have := h6 l hl
    simp only [lgB, within, isSpanB, Bool.and_eq_true, decide_eq_true_eq] at this
    omega
theorem vB_of {s : Sd} (v : VS s) : vB s = true := by
  have h1 := v.np
  have h2 := v.nd
  have h3 := v.nl
  simp only [vB, numB, within, Bool.and_eq_true, decide_eq_true_eq, List.all_eq_true]
  refine ⟨⟨⟨⟨⟨by omega, by omega⟩, by omega⟩, fun p hp => ?_⟩, fun d hd => ?_⟩, fun l hl => ?_⟩
  · have := v.sp p hp
    simp only [sptB, within, isSpanB, Bool.and_eq_true, decide_eq_true_eq]
    omega
  · have := v.dy d hd
    simp only [isSpanB, decide_eq_true_eq]
    omega
  · have := v.lg l hl
    simp only [lgB, within, isSpanB, Bool.and_eq_true, decide_eq_true_eq]
    omega
theorem vB_num {s : Sd} (h : numB s = false) : vB s = false := by simp [vB, h]
theorem vB_sp {s : Sd} {p : Spt} (hp : p ∈ s.spits) (h : sptB p = false) : vB s = false := by
  have : s.spits.all sptB = false := List.all_eq_false.2 ⟨p, hp, by simp [h]⟩
  simp [vB, this]
theorem vB_dy {s : Sd} (h : s.days.all (fun d => isSpanB d 0 100) = false) : vB s = false := by simp [vB, h]
theorem vB_lg {s : Sd} {l : Lg} (hl : l ∈ s.logs) (h : lgB s l = false) : vB s = false := by
  have : s.logs.all (lgB s) = false := List.all_eq_false.2 ⟨l, hl, by simp [h]⟩
  simp [vB, this]
theorem all_snoc {α : Type} {p : α → Bool} {l : List α} {k : Nat} (hk : k < l.length) (h : (l.take k).all p = true) (h1 : p l[k] = true) : (l.take (k + 1)).all p = true := by
  rw [List.take_succ_eq_append_getElem hk, List.all_append, h]; simp [h1]
section
variable {r : Option Nat} {n N : Nat} {w0 : World} {L : Hp} {e : Env} {d : Nat} {op : Op} {ty : TypeId} {pos : String} {af : Array Edge} {g : Option (Nat × Bool)} {ops : Array Oper} {rest : List Oper} {Q : Post} {ds : List Deferred}
/-- What is asked: it goes on, or all ends. -/
theorem OPS_ask {b : Bool} {k : Int} (hv : Enters Try.prog e ⟨some d, op, ty, pos, af, g⟩ 82 [.bool b, .int .i64 k].toArray) (hg : Region.wanted ⟨some d, op, ty, pos, af, g⟩ (yieldE ops e) = true) (hnd : isDefer op = false) (hd : Nat.blt d n = true)
    (h1 : b = true → OPS Try.prog r n N w0 ops rest Q (upd e d (.tuple #[])) ds L) (h0 : b = false → Q (.panic (refE k)) e ds L) : OPS Try.prog r n N w0 ops (⟨some d, op, ty, pos, af, g⟩ :: rest) Q e ds L := by
  cases b with
  | true => exact OPS_retS hv (ask_ok N w0 L k) hg hnd hd (h1 rfl)
  | false => exact OPS_pan hv (ask_no N w0 L k) hg hnd (h0 rfl)
end
attribute [local irreducible] AnyO AnyB QAny QB EWalk AWalk Ev WP OPS QThen QBlock QScope QLoop QBody Val New Turn Tri Enters PostA Blk Ro
attribute [local irreducible] AnyC QC
section
variable (N : Nat) (w0 : World)
theorem open1_ret (L : Hp) (u : Sp) : Ret Try.prog N w0 L 93 [.agg (spL u).toArray].toArray (.bool (!isSpanB u 0 100)) := by
  refine Ret.fgt ?_
  refine tri_of_WP Try.func93 rfl (n := 6) rfl (by simp) ?_
  unfold spL
  repeat' (first | (refine GiP ?_; first | (refine Znh ?_) | (with_reducible refine Znl ?_)) | (refine GiW ?_; first | (refine Zsq fun K hK => ?_) | (refine ZrN 0 fun _ => ?_; refine Zal 1 fun b1 => ?_; refine Zv Zab ?_) | (refine ZrN 1 fun _ => ?_; refine Zv Zla ?_; refine Zcl (Enters_fn rfl) (isSpan_ret N w0 _ u _ _) ?_; refine Zv Zxnot ?_; refine Zv Zab ?_) | (with_reducible apply WP_ret)) | (refine Zhn ?_) | (refine Zhr ?_))
  exact QBody_ret1 rfl (rfl : _ = Value.bool _) ⟨rfl, (by repeat (first | exact Wk.refl _ | apply Wk.keep1 | apply Wk.drop | apply Wk.sv | apply Wk.svD | apply Wk.appD))⟩
theorem always_ret (L : Hp) (v : Value) : Ret Try.prog N w0 L 77 [v].toArray (.bool true) := by
  refine tri_of_WP Try.func77 rfl (n := 3) rfl (by simp) ?_
  repeat' (first | (refine GiP ?_; first | (refine Znh ?_) | (with_reducible refine Znl ?_)) | (refine GiW ?_; first | (refine Zsq fun K hK => ?_) | (refine ZrN 0 fun _ => ?_; refine Zv Zab ?_) | (refine ZrN 1 fun _ => ?_; refine Zv Zab ?_) | (with_reducible apply WP_ret)) | (refine Zhn ?_) | (refine Zhr ?_))
  exact QBody_ret1 rfl (rfl : _ = Value.bool _) ⟨rfl, rfl⟩
theorem isDay_ret (L : Hp) (g : Fg) (n : Int) (hm : Mem g.b (Blk 128 (faceL g)) L) (hl : g.s.days.length ≤ 1000) : Ret Try.prog N w0 L 47 [.pointer (some ⟨g.b, 0, none⟩), .int .i64 n].toArray (.bool (within n 0 ((g.s.days.length : Int) - 1))) := by
  refine tri_of_WP Try.func47 rfl (n := 14) rfl (by simp) ?_
  unfold faceL at hm
  repeat' (first | (refine GiP ?_; first | (refine Znh ?_) | (with_reducible refine Znl ?_)) | (refine GiW ?_; first | (refine Zsq fun K hK => ?_) | (refine ZrN 0 fun _ => ?_; refine Zv Zab ?_) | (refine ZrN 1 fun _ => ?_; refine Zv Zmi ?_; refine Zv Zmv ?_; (first | (refine Zv Zxnp ?_) | (refine Zv Zxnf ?_)); refine Zv Zf0 ?_; refine Zv Zfa ?_; refine Zv Zld ?_; refine Zv Zxlen ?_; refine Zv Zxsub ?_; refine Zcl (Enters_fn rfl) (within_ret N w0 _ _ _ _) ?_; refine Zv Zab ?_) | (with_reducible apply WP_ret)) | (refine Zhn ?_) | (refine Zhr ?_))
  exact QBody_ret1 rfl (rfl : _ = Value.bool _) ⟨rfl, rfl⟩
theorem isSpit_ret (L : Hp) (g : Fg) (n : Int) (hm : Mem g.b (Blk 128 (faceL g)) L) (hl : g.s.spits.length ≤ 1000) : Ret Try.prog N w0 L 55 [.pointer (some ⟨g.b, 0, none⟩), .int .i64 n].toArray (.bool (within n 0 ((g.s.spits.length : Int) - 1))) := by
  refine tri_of_WP Try.func55 rfl (n := 14) rfl (by simp) ?_
  unfold faceL at hm
  repeat' (first | (refine GiP ?_; first | (refine Znh ?_) | (with_reducible refine Znl ?_)) | (refine GiW ?_; first | (refine Zsq fun K hK => ?_) | (refine ZrN 0 fun _ => ?_; refine Zv Zab ?_) | (refine ZrN 1 fun _ => ?_; refine Zv Zmi ?_; refine Zv Zmv ?_; (first | (refine Zv Zxnp ?_) | (refine Zv Zxnf ?_)); refine Zv Zf0 ?_; refine Zv Zf0 ?_; refine Zv Zld ?_; refine Zv Zxlen ?_; refine Zv Zxsub ?_; refine Zcl (Enters_fn rfl) (within_ret N w0 _ _ _ _) ?_; refine Zv Zab ?_) | (with_reducible apply WP_ret)) | (refine Zhn ?_) | (refine Zhr ?_))
  exact QBody_ret1 rfl (rfl : _ = Value.bool _) ⟨rfl, rfl⟩
def OpenR (g : Fg) (ok : Bool) (q : FuncId) (cc : List Value) (L : Hp) : Prop :=
  Tri Try.prog N w0 L 45 [sodV g, .func (.func q) #[] cc.toArray].toArray fun x L' => (vB g.s = true ∧ ok = true ∧ ∃ b m, x = .returned (.pointer (some ⟨b, 0, none⟩)) ∧ L' = Fk { g with b := b, m := m } ++ L) ∨ (vB g.s = true ∧ ok = false ∧ x = .panicked (refE 2) ∧ L' = L) ∨ (vB g.s = false ∧ x = .panicked (refE 1) ∧ L' = L)
set_option maxHeartbeats 4000000 in
theorem open_tri (L : Hp) (g : Fg) (hA : SodAt N w0 g) (hb1 : g.s.days.length ≤ 1000) (ok : Bool) (q : FuncId) [HasBody Try.prog q] (cc : List Value) (nd : Hp) (hN : Sub nd L)
    (hq : ∀ b m L', Sub ((b, Blk 128 (faceL { g with b := b, m := m })) :: nd) L' → VS g.s → Ret Try.prog N w0 L' q (.pointer (some ⟨b, 0, none⟩) :: cc).toArray (.bool ok)) : OpenR N w0 g ok q cc L := by
  unfold OpenR
  refine Tri.fgt ?_
  refine tri_of_WP Try.func45 rfl (n := 86) rfl (by simp) ?_
  unfold sodV sdL
  repeat' (first | (refine GiP ?_; first | (refine Znh ?_) | (with_reducible refine Znl ?_) | (refine Zatd 19 ?_; (first | (refine Zv Zxpt ?_) | (refine Zv Zxpf ?_)); refine Zv Zmb ?_) | (refine Zatd 25 ?_; (first | (refine Zv Zxpt ?_) | (refine Zv Zxpf ?_)); (refine OPS_ask (Enters_fn rfl) rfl rfl rfl (fun hc => ?_) (fun hc => ?_) <;> (try (exfalso; simp at hc; done)))) | (refine Zatd 15 ?_; first | refine Zsk ?_ | (refine Zv Zfa ?_)) | (refine Zatd 16 ?_; first | refine Zsk ?_ | (refine Zv Zld ?_)) | (refine Zatd 17 ?_; first | refine Zsk ?_ | (refine Zv Zxlen ?_)) | (refine Zatd 18 ?_; first | refine Zsk ?_ | (refine Zcl (Enters_fn rfl) (within_ret N w0 _ _ _ _) ?_)) | (refine Zatd 21 ?_; first | refine Zsk ?_ | (refine Zv Zfa ?_)) | (refine Zatd 22 ?_; first | refine Zsk ?_ | (refine Zv Zld ?_)) | (refine Zatd 23 ?_; first | refine Zsk ?_ | (refine Zv Zxlen ?_)) | (refine Zatd 24 ?_; first | refine Zsk ?_ | (refine Zv Zxleq ?_)) | (refine Zsk ?_) | (refine Zsp (fun hc => ?_) (fun hc => ?_) <;> (try (exfalso; omega)))) | (refine GiW ?_; first | (refine Zsq fun K hK => ?_) | (refine ZrN 0 fun _ => ?_; refine Zal 2 fun b2 => ?_; refine Zv Zav ?_) | (refine ZrG 1 ?_; refine Zv Zf0 ?_; refine Zv Zld ?_; refine Zv Zxlen ?_; refine Zcl (Enters_fn rfl) (within_ret N w0 _ _ _ _) ?_; refine Zv Zmb ?_) | (refine ZrN 2 fun _ => ?_; refine Zv Zf0 ?_; refine Zv Zld ?_; refine Zv Zxlen ?_; refine Zv Zmi ?_) | (refine WP_cond_true rfl ?_) | (refine WP_cond_false rfl ?_) | (refine Zcd (fun hc => ?_) (fun hc => ?_) <;> (try (exfalso; omega))) | (with_reducible apply WP_skip) | (with_reducible apply WP_block) | (with_reducible apply WP_exit) | (with_reducible apply WP_ret)) | (refine Zhn ?_) | (with_reducible apply QBlock_normal) | (refine Zhx ?_) | (with_reducible apply QBlock_hit) | (refine Zqb ?_) | (with_reducible apply QLoop_exit) | (refine Zhr ?_) | (with_reducible apply QBlock_ret) | (with_reducible apply QLoop_ret) | (refine Zhp ?_) | (with_reducible apply QBlock_panic) | (with_reducible apply QLoop_panic))
  all_goals try exact QBody_panic ⟨L, (by repeat (first | exact Wk.refl _ | apply Wk.keep1 | apply Wk.drop | apply Wk.sv | apply Wk.svD | apply Wk.appD)), .inr (.inr ⟨vB_num (by simp [numB, *]), rfl, rfl⟩)⟩
  have hnum : numB g.s = true := by
    unfold numB
    simp only [Bool.and_eq_true]
    exact ⟨⟨by assumption, by assumption⟩, by assumption⟩
  clear hc
  have hnb := hnum
  simp only [numB, within, Bool.and_eq_true, decide_eq_true_eq] at hnb
  refine WP_loop [6, 30, 31, 32, 33, 34, 35, 36, 37, 38, 39, 40, 41, 42, 43, 44, 45, 46, 47, 48, 49, 50, 51, 52, 53] (fun k : Nat => [(30, .int .i64 k)]) (fun _ => (b2, Blk 26 (sdL g)) :: L) (fun k => k ≤ g.s.spits.length ∧ (g.s.spits.take k).all sptB = true) (fun k => g.s.spits.length - k) 0 (.cons rfl .nil) (Wk.refl _) ⟨Nat.zero_le _, rfl⟩ ?_
  rintro k j ⟨hk, hall⟩
  unfold sdL
  by_cases hlt : k < g.s.spits.length
  · obtain ⟨bA, oA, hA1, hbA, hcA⟩ := hA.spits.row k hlt
    obtain ⟨t, ht⟩ : ∃ t, g.s.spits[k] = t := ⟨_, rfl⟩
    have htm : t ∈ g.s.spits := by rw [← ht]; exact List.getElem_mem hlt
    rw [ht] at hcA
    unfold sptL at hcA
    obtain ⟨tb, htb⟩ : ∃ tb, isSpanB (t.lo, t.hi) 1 6 = tb := ⟨_, rfl⟩
    have hsp := fun L => isSpan_ret N w0 L (t.lo, t.hi) 1 6
    rw [htb] at hsp
    have hin : tb = true → InK .i64 (t.hi - t.lo) := by
      intro h
      rw [h] at htb
      simp only [isSpanB, decide_eq_true_eq] at htb
      exact InK_i64 (by omega) (by omega)
    repeat' (first | (refine GiP ?_; first | (refine Znh ?_) | (with_reducible refine Znl ?_) | (refine Zatd 41 ?_; (first | (refine Zv Zxpt ?_) | (refine Zv Zxpf ?_)); refine Zv Zmb ?_) | (refine Zatd 51 ?_; (first | (refine Zv Zxpt ?_) | (refine Zv Zxpf ?_)); (refine OPS_ask (Enters_fn rfl) rfl rfl rfl (fun hc => ?_) (fun hc => ?_) <;> (try (exfalso; simp at hc; done)))) | (refine Zatd 38 ?_; first | refine Zsk ?_ | (refine Zv Zfa ?_)) | (refine Zatd 39 ?_; first | refine Zsk ?_ | (refine Zv Zla ?_)) | (refine Zatd 40 ?_; first | refine Zsk ?_ | (refine Zcl (Enters_fn rfl) (hsp _) ?_)) | (refine Zatd 43 ?_; first | refine Zsk ?_ | (refine Zv Zfa ?_)) | (refine Zatd 44 ?_; first | refine Zsk ?_ | (refine Zv Zfa ?_)) | (refine Zatd 45 ?_; first | refine Zsk ?_ | (refine Zv Zld ?_)) | (refine Zatd 46 ?_; first | refine Zsk ?_ | (refine Zv Zfa ?_)) | (refine Zatd 47 ?_; first | refine Zsk ?_ | (refine Zv Zf0 ?_)) | (refine Zatd 48 ?_; first | refine Zsk ?_ | (refine Zv Zld ?_)) | (refine Zatd 49 ?_; first | refine Zsk ?_ | (refine Zv (Val_sub rfl rfl (hin (by assumption))) ?_)) | (refine Zatd 50 ?_; first | refine Zsk ?_ | (refine Zv Zxleq ?_)) | (refine Zsk ?_) | (refine Zsp (fun hc => ?_) (fun hc => ?_) <;> (try (exfalso; omega)))) | (refine GiW ?_; first | (refine Zsq fun K hK => ?_) | (refine ZrN 3 fun _ => ?_; refine Zv Zxlss ?_) | (refine ZrN 4 fun _ => ?_; refine Zv Zia ?_; refine Zv Zla ?_; refine Zal 6 fun b6 => ?_; refine Zst ?_) | (refine ZrG 5 ?_; refine Zv Zf0 ?_; refine Zv Zld ?_; refine Zcl (Enters_fn rfl) (within_ret N w0 _ _ _ _) ?_; refine Zv Zmb ?_) | (refine ZrN 6 fun _ => ?_; refine Zv Zxadd ?_; refine Zv Zmi ?_) | (refine WP_cond_true rfl ?_) | (refine WP_cond_false rfl ?_) | (refine Zcd (fun hc => ?_) (fun hc => ?_) <;> (try (exfalso; omega))) | (with_reducible apply WP_skip) | (with_reducible apply WP_block) | (with_reducible apply WP_exit) | (with_reducible apply WP_ret)) | (refine Zhn ?_) | (with_reducible apply QBlock_normal) | (refine Zhx ?_) | (with_reducible apply QBlock_hit) | (refine Zqb ?_) | (with_reducible apply QLoop_exit) | (refine Zhr ?_) | (with_reducible apply QBlock_ret) | (with_reducible apply QLoop_ret) | (refine Zhp ?_) | (with_reducible apply QBlock_panic) | (with_reducible apply QLoop_panic))
    · exact QLoop_normal (k + 1) (.cons rfl .nil) (by repeat (first | exact Off.frame rfl | exact Off.refl _ _ | refine Off.frameT rfl rfl ?_ | refine Off.upd rfl ?_ | refine Off.updO rfl ?_)) (by repeat (first | exact Wk.refl _ | apply Wk.keep1 | apply Wk.drop | apply Wk.sv | apply Wk.svD | apply Wk.appD)) ⟨by omega, all_snoc hlt hall (by rw [ht]; simp [sptB, *])⟩ (by omega)
    all_goals exact QBody_panic ⟨L, (by repeat (first | exact Wk.refl _ | apply Wk.keep1 | apply Wk.drop | apply Wk.sv | apply Wk.svD | apply Wk.appD)), .inr (.inr ⟨vB_sp htm (by simp [sptB, *]), rfl, rfl⟩)⟩
  have hspits : g.s.spits.all sptB = true := by rw [show k = g.s.spits.length by omega, List.take_length] at hall; exact hall
  have hcn := fun L => cntS_ret N w0 L g.A2 g.c2 g.s.days (by omega) (RdRows.ofSl hA.days) 93 [] (fun u => !isSpanB u 0 100) [] Sub.nil (fun x _ L' _ => open1_ret N w0 L' x)
  obtain ⟨ab, hab⟩ : ∃ ab, g.s.days.any (fun u => !isSpanB u 0 100) = ab := ⟨_, rfl⟩
  rw [hab] at hcn
  repeat' (first | (refine GiP ?_; first | (refine Znh ?_) | (with_reducible refine Znl ?_)) | (refine GiW ?_; first | (refine Zsq fun K hK => ?_) | (refine ZrN 3 fun _ => ?_; refine Zv Zxlss ?_) | (refine ZrN 7 fun _ => ?_; refine Zv Zfa ?_; refine Zv Zld ?_; refine Zcl (Enters_fn rfl) (hcn _) ?_; refine Zv Zxnot ?_; (refine OPS_ask (Enters_fn rfl) rfl rfl rfl (fun hc => ?_) (fun hc => ?_) <;> (try (exfalso; simp at hc; done)))) | (refine ZrN 8 fun _ => ?_; refine Zv Zla ?_; refine Zam 60 fun b60 => ?_; refine Zv Zxbu ?_; refine Zal 62 fun b62 => ?_; refine Zv Zav ?_) | (refine ZrN 9 fun _ => ?_; refine Zv Zfa ?_; refine Zv Zld ?_; refine Zv Zxlen ?_; refine Zv Zmi ?_) | (refine WP_cond_true rfl ?_) | (refine WP_cond_false rfl ?_) | (refine Zcd (fun hc => ?_) (fun hc => ?_) <;> (try (exfalso; omega))) | (with_reducible apply WP_skip) | (with_reducible apply WP_block) | (with_reducible apply WP_exit) | (with_reducible apply WP_ret)) | (refine Zhn ?_) | (with_reducible apply QBlock_normal) | (refine Zhx ?_) | (with_reducible apply QBlock_hit) | (refine Zqb ?_) | (with_reducible apply QLoop_exit) | (refine Zhr ?_) | (with_reducible apply QBlock_ret) | (with_reducible apply QLoop_ret) | (refine Zhp ?_) | (with_reducible apply QBlock_panic) | (with_reducible apply QLoop_panic))
  all_goals try exact QBody_panic ⟨L, (by repeat (first | exact Wk.refl _ | apply Wk.keep1 | apply Wk.drop | apply Wk.sv | apply Wk.svD | apply Wk.appD)), .inr (.inr ⟨vB_dy (by
    have h9 : ab = true := by simpa using hc
    rw [h9, List.any_eq_true] at hab
    obtain ⟨u, hu, h8⟩ := hab
    exact List.all_eq_false.2 ⟨u, hu, by simpa using h8⟩), rfl, rfl⟩)⟩
  have hdays : g.s.days.all (fun d => isSpanB d 0 100) = true := by
    have h9 : ab = false := by simpa using hc
    rw [h9, List.any_eq_false] at hab
    exact List.all_eq_true.2 fun u hu => by simpa using hab u hu
  clear hc hall hk hlt
  obtain ⟨g', hg'⟩ : ∃ g' : Fg, { g with b := b62, m := b60 } = g' := ⟨_, rfl⟩
  have hgs : g'.s = g.s := by rw [← hg']
  have hgb : g'.b = b62 := by rw [← hg']
  have hgm : g'.m = b60 := by rw [← hg']
  have hbl : faceL { g with b := b62, m := b60 } = faceL g' := by rw [hg']
  refine WP_loop [9, 66, 67, 68, 69, 70, 71, 72, 73, 74, 75, 76, 77, 78, 79, 80] (fun k : Nat => [(66, .int .i64 k)]) (fun _ => (b62, Blk 128 (faceL { g with b := b62, m := b60 })) :: (b60, Is (.map #[] 0)) :: (b2, Blk 26 (sdL g)) :: L) (fun k => k ≤ g.s.logs.length ∧ (g.s.logs.take k).all (lgB g.s) = true) (fun k => g.s.logs.length - k) 0 (.cons rfl .nil) (Wk.refl _) ⟨Nat.zero_le _, rfl⟩ ?_
  rintro k j4 ⟨hk, hall⟩
  rw [hbl]
  unfold sdL
  by_cases hlt : k < g.s.logs.length
  · obtain ⟨bA, oA, hA3, hbA, hcA⟩ := hA.logs.row k hlt
    obtain ⟨t, ht⟩ : ∃ t, g.s.logs[k] = t := ⟨_, rfl⟩
    have htm : t ∈ g.s.logs := by rw [← ht]; exact List.getElem_mem hlt
    rw [ht] at hcA
    unfold lgL at hcA
    have hid := fun L n hm => isDay_ret N w0 L g' n hm (by rw [hgs]; omega)
    rw [hgs, hgb] at hid
    have hsp := fun L => isCount_ret N w0 L (t.lo, t.hi)
    repeat' (first | (refine GiP ?_; first | (refine Znh ?_) | (with_reducible refine Znl ?_) | (refine Zatd 78 ?_; (first | (refine Zv Zxpt ?_) | (refine Zv Zxpf ?_)); (refine OPS_ask (Enters_fn rfl) rfl rfl rfl (fun hc => ?_) (fun hc => ?_) <;> (try (exfalso; simp at hc; done)))) | (refine Zatd 75 ?_; first | refine Zsk ?_ | (refine Zv Zfa ?_)) | (refine Zatd 76 ?_; first | refine Zsk ?_ | (refine Zv Zla ?_)) | (refine Zatd 77 ?_; first | refine Zsk ?_ | (refine Zcl (Enters_fn rfl) (hsp _) ?_)) | (refine Zsk ?_) | (refine Zsp (fun hc => ?_) (fun hc => ?_) <;> (try (exfalso; omega)))) | (refine GiW ?_; first | (refine Zsq fun K hK => ?_) | (refine ZrN 10 fun _ => ?_; refine Zv Zxlss ?_) | (refine ZrN 11 fun _ => ?_; refine Zv Zia ?_; refine Zv Zla ?_; refine Zal 9 fun b9 => ?_; refine Zst ?_) | (refine ZrG 12 ?_; refine Zv Zmv ?_; refine Zv Zf0 ?_; refine Zv Zld ?_; refine Zcl (Enters_fn rfl) (hid _ _ (by repeat (first | exact Mem.here | assumption | apply Mem.there | apply Mem.sv | apply Mem.app))) ?_; refine Zv Zmb ?_) | (refine ZrN 13 fun _ => ?_; refine Zv Zxadd ?_; refine Zv Zmi ?_) | (refine WP_cond_true rfl ?_) | (refine WP_cond_false rfl ?_) | (refine Zcd (fun hc => ?_) (fun hc => ?_) <;> (try (exfalso; omega))) | (with_reducible apply WP_skip) | (with_reducible apply WP_block) | (with_reducible apply WP_exit) | (with_reducible apply WP_ret)) | (refine Zhn ?_) | (with_reducible apply QBlock_normal) | (refine Zhx ?_) | (with_reducible apply QBlock_hit) | (refine Zqb ?_) | (with_reducible apply QLoop_exit) | (refine Zhr ?_) | (with_reducible apply QBlock_ret) | (with_reducible apply QLoop_ret) | (refine Zhp ?_) | (with_reducible apply QBlock_panic) | (with_reducible apply QLoop_panic))
    · exact QLoop_normal (k + 1) (.cons rfl .nil) (by repeat (first | exact Off.frame rfl | exact Off.refl _ _ | refine Off.frameT rfl rfl ?_ | refine Off.upd rfl ?_ | refine Off.updO rfl ?_)) (by repeat (first | exact Wk.refl _ | apply Wk.keep1 | apply Wk.drop | apply Wk.sv | apply Wk.svD | apply Wk.appD)) ⟨by omega, all_snoc hlt hall (by rw [ht]; simp [lgB, *])⟩ (by omega)
    all_goals exact QBody_panic ⟨L, (by repeat (first | exact Wk.refl _ | apply Wk.keep1 | apply Wk.drop | apply Wk.sv | apply Wk.svD | apply Wk.appD)), .inr (.inr ⟨vB_lg htm (by simp [lgB, *]), rfl, rfl⟩)⟩
  · have hlogs : g.s.logs.all (lgB g.s) = true := by rw [show k = g.s.logs.length by omega, List.take_length] at hall; exact hall
    have hvb : vB g.s = true := by simp [vB, *]
    have hVS := VS_of hvb
    have hqq := fun L' h => hq b62 b60 L' h hVS
    rw [hbl] at hqq
    repeat' (first | (refine GiP ?_; first | (refine Znh ?_) | (with_reducible refine Znl ?_)) | (refine GiW ?_; first | (refine Zsq fun K hK => ?_) | (refine ZrN 10 fun _ => ?_; refine Zv Zxlss ?_) | (refine ZrN 14 fun _ => ?_; refine Zv Zmv ?_; refine Zv Zmv ?_; refine Zcl (Enters_val rfl rfl) (hqq _ (by repeat (first | exact Sub.refl _ | assumption | exact Sub.left | (with_reducible refine Sub.pick (by repeat (first | exact Pick.here | apply Pick.there)) ?_) | apply Sub.cons | apply Sub.sv | apply Sub.app))) ?_; (refine OPS_ask (Enters_fn rfl) rfl rfl rfl (fun hc => ?_) (fun hc => ?_) <;> (try (exfalso; simp at hc; done)))) | (refine ZrN 15 fun _ => ?_; refine Zv Zmv ?_; refine Zv Zav ?_) | (refine WP_cond_true rfl ?_) | (refine WP_cond_false rfl ?_) | (refine Zcd (fun hc => ?_) (fun hc => ?_) <;> (try (exfalso; omega))) | (with_reducible apply WP_skip) | (with_reducible apply WP_block) | (with_reducible apply WP_exit) | (with_reducible apply WP_ret)) | (refine Zhn ?_) | (with_reducible apply QBlock_normal) | (refine Zhx ?_) | (with_reducible apply QBlock_hit) | (refine Zqb ?_) | (with_reducible apply QLoop_exit) | (refine Zhr ?_) | (with_reducible apply QBlock_ret) | (with_reducible apply QLoop_ret) | (refine Zhp ?_) | (with_reducible apply QBlock_panic) | (with_reducible apply QLoop_panic))
    · refine QBody_ret1 rfl (rfl : _ = Value.pointer _) ⟨Fk g' ++ L, ?_, .inl ⟨hvb, hc, b62, b60, rfl, by rw [hg']⟩⟩
      have hmap : ∀ o, Is (.map #[] 0) o → MapOf lks (keptF g'.s) o := fun o ho => ⟨#[], 0, ho, fun x hx => by simp at hx⟩
      unfold Fk
      rw [hgb, hgm]
      exact .keep1 (.keep hmap (.drop (Wk.refl _)))
    · exact QBody_panic ⟨L, (by repeat (first | exact Wk.refl _ | apply Wk.keep1 | apply Wk.drop | apply Wk.sv | apply Wk.svD | apply Wk.appD)), .inr (.inl ⟨hvb, hc, rfl, rfl⟩)⟩
end
end Go.Proofs.Ytkaadefndcbdnaa
