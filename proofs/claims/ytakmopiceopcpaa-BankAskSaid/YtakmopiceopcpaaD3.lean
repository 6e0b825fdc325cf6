/- The law BankAsk: its walk. -/
import Derived.Test.YtakmopiceopcpaaC2
import Derived.Test.YtakmopiceopcpaaC3
import Derived.Test.YtakmopiceopcpaaE1
section
namespace Go.Proofs.Ytakmopiceopcpaa
open Go.RowKit
attribute [local irreducible] AnyO AnyB QAny QB EWalk AWalk Ev WP OPS QThen QBlock QScope QLoop QBody Val New Turn Tri Enters PostA Blk Ro
attribute [local irreducible] AnyC QC
section
variable (N : Nat) (w0 : World)
theorem countW (L : Hp) (g : Fg) (h : BankIn N w0 L g) (d : Bn) (hv : VB d) (p : Int) (o : Int) (hd : g.d = withB d (p, o)) (h6 : d.ms.length < 6) (hp : 0 ≤ p ∧ p < d.n) (ho : 0 ≤ o ∧ o ≤ d.m) : Ret Try.prog N w0 L 23 [bkV g].toArray (.tuple [.int .i64 ((waysN d [.mine p o] : Nat) : Int), .int .i64 0].toArray) := by
  have hvw := VB_with hv (k := (p, o)) h6 hp ho
  have := Count_in N w0 L g h
  rw [hd, CountE_of hvw, CountV_of hvw, with_ways hp] at this
  exact this
set_option maxRecDepth 100000 in
set_option maxHeartbeats 4000000 in
theorem most_ret (L : Hp) (g : Fg) (hA : BkAt N w0 g) (hv : VB g.d) (h6 : g.d.ms.length < 6) (bh : Nat) (hm : Mem bh (Blk 25 (bkL g)) L) (p : Nat) (hp : (p : Int) < g.d.n) : Ret Try.prog N w0 L 41 [.int .i64 (p : Int), .pointer (some ⟨bh, 0, none⟩)].toArray (.int .i64 (mostS g.d (p : Int) : Int)) := by
  have hvm := hv.m
  have hwt := fun L o => with_tri N w0 L g hA (by omega) ((p : Int), o)
  refine Ret.fgt ?_
  refine tri_of_WP Try.func41 rfl (n := _) rfl (by simp) ?_
  unfold bkV bkL spL at hwt
  unfold bkL at hm
  obtain ⟨mN, hmN⟩ : ∃ m : Nat, g.d.m = m := ⟨g.d.m.toNat, by omega⟩
  have hms : mostS g.d (p : Int) = mostF g.d p (mN + 1) := by unfold mostS; rw [hmN]; rfl
  rw [hms]
  have hbd := fun k => mostF_bd hv (p : Int) k
  have hwb := fun o => ways_bd hv [.mine (p : Int) o]
  rw [hmN] at hwt hm hvm
  repeat' (first | (refine GiP ?_; first | (refine Znh ?_) | (with_reducible refine Znl ?_)) | (refine GiW ?_; first | (refine Zsq fun K hK => ?_) | (refine ZrN 0 fun _ => ?_; refine Zv Zai ?_) | (refine ZrN 1 fun _ => ?_; refine Zv Zfa ?_; refine Zv Zld ?_; refine Zv Zxadd ?_; refine Zv Zmi ?_) | (refine WP_cond_true rfl ?_) | (refine WP_cond_false rfl ?_) | (refine Zcd (fun hc => ?_) (fun hc => ?_) <;> (try (exfalso; omega))) | (with_reducible apply WP_skip) | (with_reducible apply WP_block) | (with_reducible apply WP_exit) | (with_reducible apply WP_ret)) | (refine Zhn ?_) | (with_reducible apply QBlock_normal) | (refine Zhx ?_) | (with_reducible apply QBlock_hit) | (refine Zqb ?_) | (with_reducible apply QLoop_exit) | (refine Zhr ?_) | (with_reducible apply QBlock_ret) | (with_reducible apply QLoop_ret))
  refine WP_loop [3, 4, 5, 6, 10, 11, 12, 13, 14, 15, 16, 17, 18, 19, 20, 21, 22, 23, 24, 25, 26, 27] (fun k : Nat => [(10, .int .i64 (k : Int)), (3, .int .i64 (mostF g.d (p : Int) k : Int))]) (fun _ => L) (fun k => k ≤ mN + 1) (fun k => mN + 1 - k) 0 (.cons rfl (.cons rfl .nil)) (Wk.refl _) (Nat.zero_le _) ?_
  intro k j hk
  by_cases hkm : k < mN + 1
  · have hb := hbd k
    have hw := hwb (k : Int)
    have hsn : mostF g.d (p : Int) (k + 1) = max (mostF g.d p k) (waysN g.d [.mine p k]) := rfl
    have hc := fun L g' h hd => countW N w0 L g' h g.d hv p k hd h6 ⟨by omega, hp⟩ ⟨by omega, by omega⟩
    obtain ⟨F, hF⟩ : ∃ F, mostF g.d (p : Int) k = F := ⟨_, rfl⟩
    obtain ⟨W, hW⟩ : ∃ W, waysN g.d [.mine (p : Int) k] = W := ⟨_, rfl⟩
    rw [hF, hW] at hsn
    rw [hW] at hw hc
    rw [hF] at hb ⊢
    repeat' (first | (refine GiP ?_; first | (refine Znh ?_) | (with_reducible refine Znl ?_)) | (refine GiW ?_; first | (refine Zsq fun K hK => ?_) | (refine ZrN 2 fun _ => ?_; refine Zv Zylss ?_) | (refine ZrN 3 fun _ => ?_; refine Zv Zmi ?_; refine Zv Zai ?_) | (refine ZrN 4 fun _ => ?_; refine Zv Zla ?_; refine Zv Zmi ?_; refine Zv Zmi ?_; refine Zv Zxbu ?_; refine OPS_retKS (Enters_fn rfl) (hwt _ _) rfl rfl rfl (fun v18 L18 h18 => ?_); obtain ⟨g18, X18, rfl, hd18, hA18, hc18, rfl, hin18⟩ := h18; refine Zcl (Enters_fn rfl) (hc _ g18 (hin18.sub ⟨_, List.Perm.refl _⟩) hd18) ?_; refine Zv Zmv ?_; refine Zv Zxex ?_; refine Zv Zxex ?_; refine Zv Zai ?_; refine Zv Zai ?_) | (refine ZrN 5 fun _ => ?_; refine Zv Zmi ?_; refine Zv Zyneq ?_) | (refine ZrN 7 fun _ => ?_; refine Zv Zmi ?_; refine Zv Zmi ?_; refine Zv Zxmax ?_; refine Zv Zai ?_) | (refine ZrN 8 fun _ => ?_; refine Zv Zxadd ?_; refine Zv Zmi ?_) | (refine WP_cond_true rfl ?_) | (refine WP_cond_false rfl ?_) | (refine Zcd (fun hc => ?_) (fun hc => ?_) <;> (try (exfalso; omega))) | (with_reducible apply WP_skip) | (with_reducible apply WP_block) | (with_reducible apply WP_exit) | (with_reducible apply WP_ret)) | (refine Zhn ?_) | (with_reducible apply QBlock_normal) | (refine Zhx ?_) | (with_reducible apply QBlock_hit) | (refine Zqb ?_) | (with_reducible apply QLoop_exit) | (refine Zhr ?_) | (with_reducible apply QBlock_ret) | (with_reducible apply QLoop_ret))
    have hmx : max (F : Int) (W : Int) = ((mostF g.d (p : Int) (k + 1) : Nat) : Int) := by rw [hsn]; omega
    exact QLoop_normal (k + 1) (.cons rfl (.cons (congrArg (Value.int .i64) hmx) .nil)) (by repeat (first | exact Off.frame rfl | exact Off.refl _ _ | refine Off.frameT rfl rfl ?_ | refine Off.upd rfl ?_ | refine Off.updO rfl ?_)) (by repeat (first | exact Wk.refl _ | apply Wk.keep1 | apply Wk.drop | apply Wk.sv | apply Wk.svD | apply Wk.appD)) (by omega) (by omega)
  · have hke : k = mN + 1 := by omega
    subst hke
    repeat' (first | (refine GiP ?_; first | (refine Znh ?_) | (with_reducible refine Znl ?_)) | (refine GiW ?_; first | (refine Zsq fun K hK => ?_) | (refine ZrN 2 fun _ => ?_; refine Zv Zylss ?_) | (refine ZrN 9 fun _ => ?_; refine Zv Zmi ?_; refine Zv Zai ?_) | (refine WP_cond_true rfl ?_) | (refine WP_cond_false rfl ?_) | (refine Zcd (fun hc => ?_) (fun hc => ?_) <;> (try (exfalso; omega))) | (with_reducible apply WP_skip) | (with_reducible apply WP_block) | (with_reducible apply WP_exit) | (with_reducible apply WP_ret)) | (refine Zhn ?_) | (with_reducible apply QBlock_normal) | (refine Zhx ?_) | (with_reducible apply QBlock_hit) | (refine Zqb ?_) | (with_reducible apply QLoop_exit) | (refine Zhr ?_) | (with_reducible apply QBlock_ret) | (with_reducible apply QLoop_ret))
    exact QBody_ret1 rfl (rfl : _ = Value.int _ _) ⟨rfl, (by repeat (first | exact Wk.refl _ | apply Wk.keep1 | apply Wk.drop | apply Wk.sv | apply Wk.svD | apply Wk.appD))⟩
theorem ask_law0 (L : Hp) (g : Fg) (hA : BkAt N w0 g) (a : Nat) (h : (farB g.d = true ∨ vB g.d = false) ∨ g.d.ms.length = 6) : Ret Try.prog N w0 L 9 [bkV g, .int .u8 (a : Int)].toArray (.bool true) := by
  have h28 := fun L => long_ret N w0 L g
  have h13 := fun L => alive_ret N w0 L
  refine Ret.fgt ?_
  refine tri_of_WP Try.func9 rfl (n := _) rfl (by simp) ?_
  cases hf : farB g.d with
  | true =>
    rw [hf] at h28
    unfold bkV bkL at h28 ⊢
    repeat' (first | (refine GiP ?_; first | (refine Znh ?_) | (with_reducible refine Znl ?_) | (refine Zatd 19 ?_; (first | (refine Zv Zxpt ?_) | (refine Zv Zxpf ?_)); refine Zv Zmb ?_) | (refine Zatd 25 ?_; (first | (refine Zv Zxpt ?_) | (refine Zv Zxpf ?_))) | (refine Zatd 16 ?_; first | refine Zsk ?_ | (refine Zv Zla ?_)) | (refine Zatd 18 ?_; first | refine Zsk ?_ | (refine Zv Zxnot ?_)) | (refine Zatd 21 ?_; first | refine Zsk ?_ | (refine Zv Zfa ?_)) | (refine Zatd 22 ?_; first | refine Zsk ?_ | (refine Zv Zld ?_)) | (refine Zatd 23 ?_; first | refine Zsk ?_ | (refine Zv Zxlen ?_)) | (refine Zatd 24 ?_; first | refine Zsk ?_ | (refine Zv Zxeql ?_)) | (refine Zsk ?_) | (refine Zsp (fun hc => ?_) (fun hc => ?_) <;> (try (exfalso; omega)))) | (refine GiW ?_; first | (refine Zsq fun K hK => ?_) | (refine ZrN 0 fun _ => ?_; refine Zal 2 fun b2 => ?_; refine Zv Zab ?_) | (refine ZrG 1 ?_; refine Zv Zla ?_; refine Zcl (Enters_fn rfl) (h28 _) ?_; refine Zv Zmb ?_) | (refine ZrN 2 fun _ => ?_; refine Zcl (Enters_fn rfl) (h13 _) ?_; refine Zv Zab ?_) | (refine WP_cond_true rfl ?_) | (refine WP_cond_false rfl ?_) | (refine Zcd (fun hc => ?_) (fun hc => ?_) <;> (try (exfalso; omega))) | (with_reducible apply WP_skip) | (with_reducible apply WP_ret)) | (refine Zhn ?_) | (refine Zhr ?_))
    exact QBody_ret1 rfl (rfl : _ = Value.bool _) ⟨rfl, (by repeat (first | exact Wk.refl _ | apply Wk.keep1 | apply Wk.drop | apply Wk.sv | apply Wk.svD | apply Wk.appD))⟩
  | false =>
    have h29 := fun L => rBank_in N w0 L g (BankIn.at_ hA) hf
    rw [hf] at h28
    cases hvb : vB g.d with
    | false =>
      rw [hvb] at h29
      unfold bkV bkL at h28 h29 ⊢
      repeat' (first | (refine GiP ?_; first | (refine Znh ?_) | (with_reducible refine Znl ?_) | (refine Zatd 19 ?_; (first | (refine Zv Zxpt ?_) | (refine Zv Zxpf ?_)); refine Zv Zmb ?_) | (refine Zatd 25 ?_; (first | (refine Zv Zxpt ?_) | (refine Zv Zxpf ?_))) | (refine Zatd 16 ?_; first | refine Zsk ?_ | (refine Zv Zla ?_)) | (refine Zatd 17 ?_; first | refine Zsk ?_ | (refine Zcl (Enters_fn rfl) (h29 _) ?_)) | (refine Zatd 18 ?_; first | refine Zsk ?_ | (refine Zv Zxnot ?_)) | (refine Zatd 21 ?_; first | refine Zsk ?_ | (refine Zv Zfa ?_)) | (refine Zatd 22 ?_; first | refine Zsk ?_ | (refine Zv Zld ?_)) | (refine Zatd 23 ?_; first | refine Zsk ?_ | (refine Zv Zxlen ?_)) | (refine Zatd 24 ?_; first | refine Zsk ?_ | (refine Zv Zxeql ?_)) | (refine Zsk ?_) | (refine Zsp (fun hc => ?_) (fun hc => ?_) <;> (try (exfalso; omega)))) | (refine GiW ?_; first | (refine Zsq fun K hK => ?_) | (refine ZrN 0 fun _ => ?_; refine Zal 2 fun b2 => ?_; refine Zv Zab ?_) | (refine ZrG 1 ?_; refine Zv Zla ?_; refine Zcl (Enters_fn rfl) (h28 _) ?_; refine Zv Zmb ?_) | (refine ZrN 2 fun _ => ?_; refine Zcl (Enters_fn rfl) (h13 _) ?_; refine Zv Zab ?_) | (refine WP_cond_true rfl ?_) | (refine WP_cond_false rfl ?_) | (refine Zcd (fun hc => ?_) (fun hc => ?_) <;> (try (exfalso; omega))) | (with_reducible apply WP_skip) | (with_reducible apply WP_ret)) | (refine Zhn ?_) | (refine Zhr ?_))
      exact QBody_ret1 rfl (rfl : _ = Value.bool _) ⟨rfl, (by repeat (first | exact Wk.refl _ | apply Wk.keep1 | apply Wk.drop | apply Wk.sv | apply Wk.svD | apply Wk.appD))⟩
    | true =>
      have h6 : g.d.ms.length = 6 := by rcases h with (h | h) | h; rw [hf] at h; cases h; rw [hvb] at h; cases h; exact h
      rw [hvb] at h29
      unfold bkV bkL at h28 h29 ⊢
      rw [h6] at h28 h29 ⊢
      repeat' (first | (refine GiP ?_; first | (refine Znh ?_) | (with_reducible refine Znl ?_) | (refine Zatd 19 ?_; (first | (refine Zv Zxpt ?_) | (refine Zv Zxpf ?_)); refine Zv Zmb ?_) | (refine Zatd 25 ?_; (first | (refine Zv Zxpt ?_) | (refine Zv Zxpf ?_))) | (refine Zatd 16 ?_; first | refine Zsk ?_ | (refine Zv Zla ?_)) | (refine Zatd 17 ?_; first | refine Zsk ?_ | (refine Zcl (Enters_fn rfl) (h29 _) ?_)) | (refine Zatd 18 ?_; first | refine Zsk ?_ | (refine Zv Zxnot ?_)) | (refine Zatd 21 ?_; first | refine Zsk ?_ | (refine Zv Zfa ?_)) | (refine Zatd 22 ?_; first | refine Zsk ?_ | (refine Zv Zld ?_)) | (refine Zatd 23 ?_; first | refine Zsk ?_ | (refine Zv Zxlen ?_)) | (refine Zatd 24 ?_; first | refine Zsk ?_ | (refine Zv Zxeql ?_)) | (refine Zsk ?_) | (refine Zsp (fun hc => ?_) (fun hc => ?_) <;> (try (exfalso; omega)))) | (refine GiW ?_; first | (refine Zsq fun K hK => ?_) | (refine ZrN 0 fun _ => ?_; refine Zal 2 fun b2 => ?_; refine Zv Zab ?_) | (refine ZrG 1 ?_; refine Zv Zla ?_; refine Zcl (Enters_fn rfl) (h28 _) ?_; refine Zv Zmb ?_) | (refine ZrN 2 fun _ => ?_; refine Zcl (Enters_fn rfl) (h13 _) ?_; refine Zv Zab ?_) | (refine WP_cond_true rfl ?_) | (refine WP_cond_false rfl ?_) | (refine Zcd (fun hc => ?_) (fun hc => ?_) <;> (try (exfalso; omega))) | (with_reducible apply WP_skip) | (with_reducible apply WP_ret)) | (refine Zhn ?_) | (refine Zhr ?_))
      exact QBody_ret1 rfl (rfl : _ = Value.bool _) ⟨rfl, (by repeat (first | exact Wk.refl _ | apply Wk.keep1 | apply Wk.drop | apply Wk.sv | apply Wk.svD | apply Wk.appD))⟩
set_option maxRecDepth 100000 in
set_option maxHeartbeats 8000000 in
theorem ask_law1 (L : Hp) (g : Fg) (hA : BkAt N w0 g) (a : Nat) (ha8 : a ≤ 255) (hvb : vB g.d = true) (h6 : g.d.ms.length < 6) : Ret Try.prog N w0 L 9 [bkV g, .int .u8 (a : Int)].toArray (.bool true) := by
  have hv := VB_of hvb
  have hf := farB_vB hvb
  have h28 := fun L => long_ret N w0 L g
  have h13 := fun L => alive_ret N w0 L
  have h29 := fun L => rBank_in N w0 L g (BankIn.at_ hA) hf
  have h25 := fun L => Ask_in N w0 L g (BankIn.at_ hA)
  have h23 := fun L => Count_in N w0 L g (BankIn.at_ hA)
  have hnb := hv.n
  have hmo := fun L bh hm p hp => most_ret N w0 L g hA hv h6 bh hm p hp
  rw [hf] at h28
  rw [hvb] at h29
  rw [CountE_of hv, CountV_of hv] at h23
  obtain ⟨T, hT⟩ : ∃ T, (trL g.d).length = T := ⟨_, rfl⟩
  have haf := ask_facts hv
  rw [hT] at h23 haf
  refine Ret.fgt ?_
  refine tri_of_WP Try.func9 rfl (n := _) rfl (by simp) ?_
  rcases haf with ⟨f1, f2, f3⟩ | ⟨f1, f2, f3, f4, f5⟩
  · rw [f2, f3] at h25
    rw [f1] at h23
    unfold bkV bkL at h28 h29 h25 h23 ⊢
    repeat' (first | (refine GiP ?_; first | (refine Znh ?_) | (with_reducible refine Znl ?_) | (refine Zatd 19 ?_; (first | (refine Zv Zxpt ?_) | (refine Zv Zxpf ?_)); refine Zv Zmb ?_) | (refine Zatd 25 ?_; (first | (refine Zv Zxpt ?_) | (refine Zv Zxpf ?_))) | (refine Zatd 46 ?_; (first | (refine Zv Zxpt ?_) | (refine Zv Zxpf ?_)); refine Zv Zmb ?_) | (refine Zatd 62 ?_; (first | (refine Zv Zxpt ?_) | (refine Zv Zxpf ?_))) | (refine Zatd 16 ?_; first | refine Zsk ?_ | (refine Zv Zla ?_)) | (refine Zatd 17 ?_; first | refine Zsk ?_ | (refine Zcl (Enters_fn rfl) (h29 _) ?_)) | (refine Zatd 18 ?_; first | refine Zsk ?_ | (refine Zv Zxnot ?_)) | (refine Zatd 21 ?_; first | refine Zsk ?_ | (refine Zv Zfa ?_)) | (refine Zatd 22 ?_; first | refine Zsk ?_ | (refine Zv Zld ?_)) | (refine Zatd 23 ?_; first | refine Zsk ?_ | (refine Zv Zxlen ?_)) | (refine Zatd 24 ?_; first | refine Zsk ?_ | (refine Zv Zyeql ?_)) | (refine Zatd 41 ?_; first | refine Zsk ?_ | (refine Zv Zmi ?_)) | (refine Zatd 42 ?_; first | refine Zsk ?_ | (refine Zv Zyeql ?_)) | (refine Zatd 43 ?_; first | refine Zsk ?_ | (refine Zv Zmi ?_)) | (refine Zatd 44 ?_; first | refine Zsk ?_ | (refine Zv Zygtr ?_)) | (refine Zatd 45 ?_; first | refine Zsk ?_ | (refine Zv (ZxneqB) ?_) | (refine Zv (Zyneq) ?_)) | (refine Zatd 48 ?_; first | refine Zsk ?_ | (refine Zv Zmi ?_)) | (refine Zatd 49 ?_; first | refine Zsk ?_ | (refine Zv (ZxneqB) ?_) | (refine Zv (Zyneq) ?_)) | (refine Zatd 50 ?_; first | refine Zsk ?_ | (refine Zv Zmb ?_)) | (refine Zatd 51 ?_; first | refine Zsk ?_ | (refine Zv Zmi ?_)) | (refine Zatd 52 ?_; first | refine Zsk ?_ | (refine Zv (ZxneqB) ?_) | (refine Zv (Zyneq) ?_)) | (refine Zatd 53 ?_; first | refine Zsk ?_ | (refine Zv Zmb ?_)) | (refine Zatd 54 ?_; first | refine Zsk ?_ | (refine Zv Zmi ?_)) | (refine Zatd 55 ?_; first | refine Zsk ?_ | (refine Zv (ZxneqB) ?_) | (refine Zv (Zyneq) ?_)) | (refine Zatd 56 ?_; first | refine Zsk ?_ | (refine Zv Zxpt ?_) | (refine Zv Zxpf ?_)) | (refine Zatd 57 ?_; first | refine Zsk ?_ | (refine Zv Zmb ?_)) | (refine Zatd 58 ?_; first | refine Zsk ?_ | (refine Zv Zmi ?_)) | (refine Zatd 59 ?_; first | refine Zsk ?_ | (refine Zv (ZxneqB) ?_) | (refine Zv (Zyneq) ?_)) | (refine Zatd 60 ?_; first | refine Zsk ?_ | (refine Zv Zxpt ?_) | (refine Zv Zxpf ?_)) | (refine Zatd 61 ?_; first | refine Zsk ?_ | (refine Zv Zxpt ?_) | (refine Zv Zxpf ?_)) | (refine Zsk ?_) | (refine Zsp (fun hc => ?_) (fun hc => ?_) <;> (try (exfalso; omega)))) | (refine GiW ?_; first | (refine Zsq fun K hK => ?_) | (refine ZrN 0 fun _ => ?_; refine Zal 2 fun b2 => ?_; refine Zv Zab ?_) | (refine ZrG 1 ?_; refine Zv Zla ?_; refine Zcl (Enters_fn rfl) (h28 _) ?_; refine Zv Zmb ?_) | (refine ZrN 3 fun _ => ?_; refine Zv Zla ?_; refine Zcl (Enters_fn rfl) (h25 _) ?_; refine Zv Zmv ?_; refine Zv Zxex ?_; refine Zv Zxex ?_; refine Zv Zxex ?_; refine Zv Zai ?_; refine Zv Zai ?_; refine Zv Zai ?_) | (refine ZrN 4 fun _ => ?_; refine Zv Zla ?_; refine Zcl (Enters_fn rfl) (h23 _) ?_; refine Zv Zmv ?_; refine Zv Zxex ?_; refine Zv Zxex ?_; refine Zv Zai ?_; refine Zv Zai ?_) | (refine ZrG 5 ?_; refine Zv Zmi ?_; (first | (refine Zv (ZxneqB) ?_) | (refine Zv (Zyneq) ?_)); refine Zv Zmb ?_) | (refine ZrN 7 fun _ => ?_; refine Zv Zmi ?_; (first | (refine Zv (ZxneqB) ?_) | (refine Zv (Zyneq) ?_))) | (refine ZrN 8 fun _ => ?_; refine Zcl (Enters_fn rfl) (h13 _) ?_; refine Zv Zab ?_) | (refine WP_cond_true rfl ?_) | (refine WP_cond_false rfl ?_) | (refine Zcd (fun hc => ?_) (fun hc => ?_) <;> (try (exfalso; omega))) | (with_reducible apply WP_skip) | (with_reducible apply WP_ret)) | (refine Zhn ?_) | (refine Zhr ?_))
    all_goals exact QBody_ret1 rfl (rfl : _ = Value.bool _) ⟨rfl, (by repeat (first | exact Wk.refl _ | apply Wk.keep1 | apply Wk.drop | apply Wk.sv | apply Wk.svD | apply Wk.appD))⟩
  · obtain ⟨⟨P, W⟩, hPW⟩ : ∃ x, AskV g.d = x := ⟨_, rfl⟩
    rw [f2] at h25
    rw [hPW] at h25 f3 f4 f5
    dsimp only at h25 f3 f4 f5
    obtain ⟨n, hn⟩ : ∃ n : Nat, g.d.n = n := ⟨g.d.n.toNat, by omega⟩
    obtain ⟨p, hp⟩ : ∃ p, a % n = p := ⟨_, rfl⟩
    have hpn : p < n := by rw [← hp]; exact Nat.mod_lt _ (by omega)
    obtain ⟨q1, q2⟩ := f5 p (by omega)
    have hm1 := fun L bh hm => hmo L bh hm p (by omega)
    have hm2 := fun L bh hm => hmo L bh hm P f3
    rw [f4] at hm2
    have hKb := mostS_bd hv (p : Int)
    obtain ⟨K, hK⟩ : ∃ K, mostS g.d (p : Int) = K := ⟨_, rfl⟩
    rw [hK] at q1 q2 hm1 hKb
    clear f5 hmo
    unfold bkL at hm1 hm2
    unfold bkV bkL at h28 h29 h25 h23 ⊢
    rw [hn] at h28 h29 h25 h23 hm1 hm2 f3 hnb ⊢
    have hcase : W < K ∨ (K = W ∧ P ≤ p) := by
      by_cases hKW : K = W
      · exact .inr ⟨hKW, q2 hKW⟩
      · exact .inl (by omega)
    repeat' (first | (refine GiP ?_; first | (refine Znh ?_) | (with_reducible refine Znl ?_) | (refine Zatd 19 ?_; (first | (refine Zv Zxpt ?_) | (refine Zv Zxpf ?_)); refine Zv Zmb ?_) | (refine Zatd 25 ?_; (first | (refine Zv Zxpt ?_) | (refine Zv Zxpf ?_))) | (refine Zatd 46 ?_; (first | (refine Zv Zxpt ?_) | (refine Zv Zxpf ?_)); refine Zv Zmb ?_) | (refine Zatd 62 ?_; (first | (refine Zv Zxpt ?_) | (refine Zv Zxpf ?_))) | (refine Zatd 73 ?_; (first | (refine Zv Zxpt ?_) | (refine Zv Zxpf ?_))) | (refine Zatd 16 ?_; first | refine Zsk ?_ | (refine Zv Zla ?_)) | (refine Zatd 17 ?_; first | refine Zsk ?_ | (refine Zcl (Enters_fn rfl) (h29 _) ?_)) | (refine Zatd 18 ?_; first | refine Zsk ?_ | (refine Zv Zxnot ?_)) | (refine Zatd 21 ?_; first | refine Zsk ?_ | (refine Zv Zfa ?_)) | (refine Zatd 22 ?_; first | refine Zsk ?_ | (refine Zv Zld ?_)) | (refine Zatd 23 ?_; first | refine Zsk ?_ | (refine Zv Zxlen ?_)) | (refine Zatd 24 ?_; first | refine Zsk ?_ | (refine Zv Zyeql ?_)) | (refine Zatd 41 ?_; first | refine Zsk ?_ | (refine Zv Zmi ?_)) | (refine Zatd 42 ?_; first | refine Zsk ?_ | (refine Zv Zyeql ?_)) | (refine Zatd 43 ?_; first | refine Zsk ?_ | (refine Zv Zmi ?_)) | (refine Zatd 44 ?_; first | refine Zsk ?_ | (refine Zv Zygtr ?_)) | (refine Zatd 45 ?_; first | refine Zsk ?_ | (refine Zv (ZxneqB) ?_) | (refine Zv (Zyneq) ?_)) | (refine Zatd 48 ?_; first | refine Zsk ?_ | (refine Zv Zmi ?_)) | (refine Zatd 49 ?_; first | refine Zsk ?_ | (refine Zv (ZxneqB) ?_) | (refine Zv (Zyneq) ?_)) | (refine Zatd 50 ?_; first | refine Zsk ?_ | (refine Zv Zmb ?_)) | (refine Zatd 51 ?_; first | refine Zsk ?_ | (refine Zv Zmi ?_)) | (refine Zatd 52 ?_; first | refine Zsk ?_ | (refine Zv (ZxneqB) ?_) | (refine Zv (Zyneq) ?_)) | (refine Zatd 53 ?_; first | refine Zsk ?_ | (refine Zv Zmb ?_)) | (refine Zatd 54 ?_; first | refine Zsk ?_ | (refine Zv Zmi ?_)) | (refine Zatd 55 ?_; first | refine Zsk ?_ | (refine Zv (ZxneqB) ?_) | (refine Zv (Zyneq) ?_)) | (refine Zatd 56 ?_; first | refine Zsk ?_ | (refine Zv Zxpt ?_) | (refine Zv Zxpf ?_)) | (refine Zatd 57 ?_; first | refine Zsk ?_ | (refine Zv Zmb ?_)) | (refine Zatd 58 ?_; first | refine Zsk ?_ | (refine Zv Zmi ?_)) | (refine Zatd 59 ?_; first | refine Zsk ?_ | (refine Zv (ZxneqB) ?_) | (refine Zv (Zyneq) ?_)) | (refine Zatd 60 ?_; first | refine Zsk ?_ | (refine Zv Zxpt ?_) | (refine Zv Zxpf ?_)) | (refine Zatd 61 ?_; first | refine Zsk ?_ | (refine Zv Zxpt ?_) | (refine Zv Zxpf ?_)) | (refine Zatd 69 ?_; first | refine Zsk ?_ | (refine Zv Zmi ?_)) | (refine Zatd 70 ?_; first | refine Zsk ?_ | (refine Zv Zf0 ?_)) | (refine Zatd 71 ?_; first | refine Zsk ?_ | (refine Zv Zld ?_)) | (refine Zatd 72 ?_; first | refine Zsk ?_ | (refine Zv Zygeq ?_)) | (refine Zsk ?_) | (refine Zsp (fun hc => ?_) (fun hc => ?_) <;> (try (exfalso; omega)))) | (refine GiW ?_; first | (refine Zsq fun K hK => ?_) | (refine ZrN 0 fun _ => ?_; refine Zal 2 fun b2 => ?_; refine Zv Zab ?_) | (refine ZrG 1 ?_; refine Zv Zla ?_; refine Zcl (Enters_fn rfl) (h28 _) ?_; refine Zv Zmb ?_) | (refine ZrN 3 fun _ => ?_; refine Zv Zla ?_; refine Zcl (Enters_fn rfl) (h25 _) ?_; refine Zv Zmv ?_; refine Zv Zxex ?_; refine Zv Zxex ?_; refine Zv Zxex ?_; refine Zv Zai ?_; refine Zv Zai ?_; refine Zv Zai ?_) | (refine ZrN 4 fun _ => ?_; refine Zv Zla ?_; refine Zcl (Enters_fn rfl) (h23 _) ?_; refine Zv Zmv ?_; refine Zv Zxex ?_; refine Zv Zxex ?_; refine Zv Zai ?_; refine Zv Zai ?_) | (refine ZrG 5 ?_; refine Zv Zmi ?_; (first | (refine Zv (ZxneqB) ?_) | (refine Zv (Zyneq) ?_)); refine Zv Zmb ?_) | (refine ZrN 7 fun _ => ?_; refine Zv Zmi ?_; (first | (refine Zv (ZxneqB) ?_) | (refine Zv (Zyneq) ?_))) | (refine ZrG 9 ?_; refine Zv Zmi ?_; refine Zv Zylss ?_; refine Zv Zmb ?_) | (refine ZrN 11 fun _ => ?_; refine Zv Val_makeFunc ?_; refine Zv Zav ?_) | (refine ZrN 12 fun _ => ?_; refine Zv Zmi ?_; refine Zv Zxco ?_; refine Zv Zf0 ?_; refine Zv Zld ?_; refine Zv (Val_remE2 hp (by omega) rfl rfl) ?_; refine Zv Zai ?_) | (refine ZrN 13 fun _ => ?_; refine Zv Zmv ?_; refine Zv Zmi ?_; refine Zcl (Enters_val rfl rfl) (hm1 _ b2 (by repeat (first | exact Mem.here | assumption | apply Mem.there | apply Mem.sv | apply Mem.app))) ?_; refine Zv Zai ?_) | (refine WP_cond_true rfl ?_) | (refine WP_cond_false rfl ?_) | (refine Zcd (fun hc => ?_) (fun hc => ?_) <;> (try (exfalso; omega))) | (with_reducible apply WP_skip) | (with_reducible apply WP_ret)) | (refine Zhn ?_) | (refine Zhr ?_))
    all_goals try (exfalso; omega)
    rcases hcase with hc | ⟨hc, hc2⟩
    all_goals
      repeat' (first | (refine GiP ?_; first | (refine Znh ?_) | (with_reducible refine Znl ?_) | (refine Zatd 102 ?_; (first | (refine Zv Zxpt ?_) | (refine Zv Zxpf ?_)); refine Zv Zmb ?_) | (refine Zatd 105 ?_; (first | (refine Zv Zxpt ?_) | (refine Zv Zxpf ?_)); refine Zv Zab ?_) | (refine Zatd 89 ?_; first | refine Zsk ?_ | (refine Zv Zmi ?_)) | (refine Zatd 90 ?_; first | refine Zsk ?_ | (refine Zv Zmi ?_)) | (refine Zatd 91 ?_; first | refine Zsk ?_ | (refine Zv Zygtr ?_)) | (refine Zatd 92 ?_; first | refine Zsk ?_ | (refine Zv Zmb ?_)) | (refine Zatd 93 ?_; first | refine Zsk ?_ | (refine Zv Zmi ?_)) | (refine Zatd 94 ?_; first | refine Zsk ?_ | (refine Zv Zmi ?_)) | (refine Zatd 95 ?_; first | refine Zsk ?_ | (refine Zv Zyeql ?_)) | (refine Zatd 96 ?_; first | refine Zsk ?_ | (refine Zv Zmb ?_)) | (refine Zatd 97 ?_; first | refine Zsk ?_ | (refine Zv Zmi ?_)) | (refine Zatd 98 ?_; first | refine Zsk ?_ | (refine Zv Zmi ?_)) | (refine Zatd 99 ?_; first | refine Zsk ?_ | (refine Zv Zygeq ?_)) | (refine Zatd 100 ?_; first | refine Zsk ?_ | (refine Zv Zxpt ?_) | (refine Zv Zxpf ?_)) | (refine Zatd 101 ?_; first | refine Zsk ?_ | (refine Zv Zxpt ?_) | (refine Zv Zxpf ?_)) | (refine Zatd 104 ?_; first | refine Zsk ?_ | (refine Zcl (Enters_fn rfl) (h13 _) ?_)) | (refine Zsk ?_) | (refine Zsp (fun hc => ?_) (fun hc => ?_) <;> (try (exfalso; omega)))) | (refine GiW ?_; first | (refine Zsq fun K hK => ?_) | (refine ZrG 14 ?_; refine Zv Zmv ?_; refine Zv Zmi ?_; refine Zcl (Enters_val rfl rfl) (hm2 _ b2 (by repeat (first | exact Mem.here | assumption | apply Mem.there | apply Mem.sv | apply Mem.app))) ?_; refine Zv Zmi ?_; refine Zv Zyeql ?_; refine Zv Zmb ?_) | (refine WP_cond_true rfl ?_) | (refine WP_cond_false rfl ?_) | (refine Zcd (fun hc => ?_) (fun hc => ?_) <;> (try (exfalso; omega))) | (with_reducible apply WP_skip) | (with_reducible apply WP_ret)) | (refine Zhn ?_) | (refine Zhr ?_))
      exact QBody_ret1 rfl (rfl : _ = Value.bool _) ⟨rfl, (by repeat (first | exact Wk.refl _ | apply Wk.keep1 | apply Wk.drop | apply Wk.sv | apply Wk.svD | apply Wk.appD))⟩
theorem ask_all (L : Hp) (g : Fg) (hA : BkAt N w0 g) (a : Nat) (ha8 : a ≤ 255) : Ret Try.prog N w0 L 9 [bkV g, .int .u8 (a : Int)].toArray (.bool true) := by
  cases hvb : vB g.d with
  | false => exact ask_law0 N w0 L g hA a (.inl (.inr hvb))
  | true =>
    by_cases h6 : g.d.ms.length = 6
    · exact ask_law0 N w0 L g hA a (.inr h6)
    · exact ask_law1 N w0 L g hA a ha8 hvb (by have := (VB_of hvb).nm; omega)
end
end Go.Proofs.Ytakmopiceopcpaa
end
