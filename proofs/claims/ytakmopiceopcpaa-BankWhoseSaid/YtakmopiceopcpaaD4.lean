/- The law BankWhose: its walk. -/
import Derived.Test.YtakmopiceopcpaaC2
import Derived.Test.YtakmopiceopcpaaC3
import Derived.Test.YtakmopiceopcpaaE1
section
namespace Go.Proofs.Ytakmopiceopcpaa
open Go.RowKit
theorem countW (N : Nat) (w0 : World) (L : Hp) (g : Fg) (h : BankIn N w0 L g) (d : Bn) (hv : VB d) (p : Int) (o : Int) (hd : g.d = withB d (p, o)) (h6 : d.ms.length < 6) (hp : 0 ≤ p ∧ p < d.n) (ho : 0 ≤ o ∧ o ≤ d.m) : Ret Try.prog N w0 L 23 [bkV g].toArray (.tuple [.int .i64 ((waysN d [.mine p o] : Nat) : Int), .int .i64 0].toArray) := by
  have hvw := VB_with hv (k := (p, o)) h6 hp ho
  have := Count_in N w0 L g h
  rw [hd, CountE_of hvw, CountV_of hvw, with_ways hp] at this
  exact this
attribute [local irreducible] AnyO AnyB QAny QB EWalk AWalk Ev WP OPS QThen QBlock QScope QLoop QBody Val New Turn Tri Enters PostA Blk Ro
attribute [local irreducible] AnyC QC
section
variable (N : Nat) (w0 : World)
theorem whose_law0 (L : Hp) (g : Fg) (hA : BkAt N w0 g) (a b : Nat) (h : farB g.d = true ∨ vB g.d = false) : Ret Try.prog N w0 L 7 [bkV g, .int .u8 (a : Int), .int .u8 (b : Int)].toArray (.bool true) := by
  have h28 := fun L => long_ret N w0 L g
  have h13 := fun L => alive_ret N w0 L
  refine Ret.fgt ?_
  refine tri_of_WP Try.func7 rfl (n := _) rfl (by simp) ?_
  cases hf : farB g.d with
  | true =>
    rw [hf] at h28
    unfold bkV bkL at h28 ⊢
    repeat' (first | (refine GiP ?_; first | (refine Znh ?_) | (with_reducible refine Znl ?_)) | (refine GiW ?_; first | (refine Zsq fun K hK => ?_) | (refine ZrN 0 fun _ => ?_; refine Zal 3 fun b3 => ?_; refine Zv Zab ?_) | (refine ZrN 1 fun _ => ?_; refine Zv Zla ?_; refine Zcl (Enters_fn rfl) (h28 _) ?_) | (refine ZrN 2 fun _ => ?_; refine Zcl (Enters_fn rfl) (h13 _) ?_; refine Zv Zab ?_) | (refine WP_cond_true rfl ?_) | (refine WP_cond_false rfl ?_) | (refine Zcd (fun hc => ?_) (fun hc => ?_) <;> (try (exfalso; omega))) | (with_reducible apply WP_skip) | (with_reducible apply WP_block) | (with_reducible apply WP_exit) | (with_reducible apply WP_ret)) | (refine Zhn ?_) | (with_reducible apply QBlock_normal) | (refine Zhx ?_) | (with_reducible apply QBlock_hit) | (refine Zqb ?_) | (with_reducible apply QLoop_exit) | (refine Zhr ?_) | (with_reducible apply QBlock_ret) | (with_reducible apply QLoop_ret))
    exact QBody_ret1 rfl (rfl : _ = Value.bool _) ⟨rfl, (by repeat (first | exact Wk.refl _ | apply Wk.keep1 | apply Wk.drop | apply Wk.sv | apply Wk.svD | apply Wk.appD))⟩
  | false =>
    have hvb : vB g.d = false := by rcases h with h | h; rw [hf] at h; cases h; exact h
    have h29 := fun L => rBank_in N w0 L g (BankIn.at_ hA) hf
    have h23 := fun L => Count_in N w0 L g (BankIn.at_ hA)
    have h15 := fun L => Whose_in N w0 L g (BankIn.at_ hA) 0
    have e1 : CountE g.d = 1 := by simp [CountE, hvb]
    have e2 : CountV g.d = 0 := by simp [CountV, hvb]
    have e3 : errT g.d (inB 0 0 (g.d.n - 1)) = 1 := by simp [errT, hvb]
    have e4 : WhoseV g.d 0 = 0 := by unfold WhoseV; rw [e3]; rfl
    rw [hf] at h28
    rw [hvb] at h29
    rw [e1, e2] at h23
    rw [e3, e4] at h15
    unfold bkV bkL at h28 h29 h23 h15 ⊢
    repeat' (first | (refine GiP ?_; first | (refine Znh ?_) | (with_reducible refine Znl ?_) | (refine Zatd 53 ?_; (first | (refine Zv Zxpt ?_) | (refine Zv Zxpf ?_)); refine Zv Zmb ?_) | (refine Zatd 57 ?_; (first | (refine Zv Zxpt ?_) | (refine Zv Zxpf ?_)); refine Zv Zmb ?_) | (refine Zatd 61 ?_; (first | (refine Zv Zxpt ?_) | (refine Zv Zxpf ?_)); refine Zv Zmb ?_) | (refine Zatd 64 ?_; (first | (refine Zv Zxpt ?_) | (refine Zv Zxpf ?_)); refine Zv Zab ?_) | (refine Zatd 50 ?_; first | refine Zsk ?_ | (refine Zv Zmi ?_)) | (refine Zatd 51 ?_; first | refine Zsk ?_ | (refine Zv Zmi ?_)) | (refine Zatd 52 ?_; first | refine Zsk ?_ | (refine Zv Zyeql ?_)) | (refine Zatd 55 ?_; first | refine Zsk ?_ | (refine Zv Zmi ?_)) | (refine Zatd 56 ?_; first | refine Zsk ?_ | (refine Zv Zyeql ?_)) | (refine Zatd 59 ?_; first | refine Zsk ?_ | (refine Zv Zmi ?_)) | (refine Zatd 60 ?_; first | refine Zsk ?_ | (refine Zv Zyeql ?_)) | (refine Zatd 63 ?_; first | refine Zsk ?_ | (refine Zcl (Enters_fn rfl) (h13 _) ?_)) | (refine Zsk ?_) | (refine Zsp (fun hc => ?_) (fun hc => ?_) <;> (try (exfalso; omega)))) | (refine GiW ?_; first | (refine Zsq fun K hK => ?_) | (refine ZrN 0 fun _ => ?_; refine Zal 3 fun b3 => ?_; refine Zv Zab ?_) | (refine ZrN 1 fun _ => ?_; refine Zv Zla ?_; refine Zcl (Enters_fn rfl) (h28 _) ?_) | (refine ZrN 3 fun _ => ?_; refine Zv Zla ?_; refine Zcl (Enters_fn rfl) (h23 _) ?_; refine Zv Zmv ?_; refine Zv Zxex ?_; refine Zv Zxex ?_; refine Zv Zai ?_; refine Zv Zai ?_) | (refine ZrN 4 fun _ => ?_; refine Zv Zla ?_; refine Zcl (Enters_fn rfl) (h29 _) ?_; refine Zv Zxnot ?_) | (refine ZrN 5 fun _ => ?_; refine Zv Zla ?_; refine Zcl (Enters_fn rfl) (h15 _) ?_; refine Zv Zmv ?_; refine Zv Zxex ?_; refine Zv Zxex ?_; refine Zv Zai ?_; refine Zv Zai ?_) | (refine ZrG 6 ?_; refine Zv Zmi ?_; refine Zv Zyeql ?_; refine Zv Zmb ?_) | (refine WP_cond_true rfl ?_) | (refine WP_cond_false rfl ?_) | (refine Zcd (fun hc => ?_) (fun hc => ?_) <;> (try (exfalso; omega))) | (with_reducible apply WP_skip) | (with_reducible apply WP_block) | (with_reducible apply WP_exit) | (with_reducible apply WP_ret)) | (refine Zhn ?_) | (with_reducible apply QBlock_normal) | (refine Zhx ?_) | (with_reducible apply QBlock_hit) | (refine Zqb ?_) | (with_reducible apply QLoop_exit) | (refine Zhr ?_) | (with_reducible apply QBlock_ret) | (with_reducible apply QLoop_ret))
    exact QBody_ret1 rfl (rfl : _ = Value.bool _) ⟨rfl, (by repeat (first | exact Wk.refl _ | apply Wk.keep1 | apply Wk.drop | apply Wk.sv | apply Wk.svD | apply Wk.appD))⟩
set_option maxRecDepth 100000 in
set_option maxHeartbeats 8000000 in
theorem whose_law1 (L : Hp) (g : Fg) (hA : BkAt N w0 g) (a b : Nat) (ha8 : a ≤ 255) (hb8 : b ≤ 255) (hvb : vB g.d = true) : Ret Try.prog N w0 L 7 [bkV g, .int .u8 (a : Int), .int .u8 (b : Int)].toArray (.bool true) := by
  have hv := VB_of hvb
  have hf := farB_vB hvb
  have hnb := hv.n
  have hmb := hv.m
  have hA' : ∀ L, BankIn N w0 L g := fun L => BankIn.at_ hA
  have h28 := fun L => long_ret N w0 L g
  have h13 := fun L => alive_ret N w0 L
  have h29 := fun L => rBank_in N w0 L g (hA' L) hf
  have h23 := fun L => Count_in N w0 L g (hA' L)
  obtain ⟨n, hn⟩ : ∃ n : Nat, g.d.n = n := ⟨g.d.n.toNat, by omega⟩
  obtain ⟨m, hm⟩ : ∃ m : Nat, g.d.m = m := ⟨g.d.m.toNat, by omega⟩
  obtain ⟨p, hp⟩ : ∃ p, a % n = p := ⟨_, rfl⟩
  obtain ⟨h, hh⟩ : ∃ h, b % (m + 1) = h := ⟨_, rfl⟩
  have hpn : p < n := by rw [← hp]; exact Nat.mod_lt _ (by omega)
  have hhm : h < m + 1 := by rw [← hh]; exact Nat.mod_lt _ (by omega)
  have hwp := fun L => Whose_in N w0 L g (hA' L) (p : Int)
  have hwh := fun L => Has_in N w0 L g (hA' L) (h : Int)
  have hx1 := fun L => Whose_in N w0 L g (hA' L) (n : Int)
  have hx2 := fun L => Has_in N w0 L g (hA' L) ((m : Int) + 1)
  have hx3 := fun L => Line_in N w0 L g (hA' L) 0
  have hx4 := fun L => Wide_in N w0 L g (hA' L) (-1)
  have r0 : ∀ {ok}, ok = false → errT g.d ok = 2 := fun h => by rw [h]; simp [errT, hvb]
  have i1 : inB (p : Int) 0 (g.d.n - 1) = true := decide_eq_true (by omega)
  have i2 : inB (h : Int) 0 g.d.m = true := decide_eq_true (by omega)
  have j1 := r0 (ok := inB (n : Int) 0 (g.d.n - 1)) (decide_eq_false (by omega))
  have j2 := r0 (ok := inB ((m : Int) + 1) 0 g.d.m) (decide_eq_false (by omega))
  have j3 := r0 (ok := inB 0 1 (g.d.n - 1)) (decide_eq_false (by omega))
  have j4 := r0 (ok := inB (-1) 0 g.d.m) (decide_eq_false (by omega))
  have k1 : WhoseV g.d (n : Int) = 0 := by unfold WhoseV; rw [j1]; rfl
  have k2 : SureV g.d ((m : Int) + 1) = 0 := by unfold SureV; rw [j2]; rfl
  have k3 : PerhV g.d ((m : Int) + 1) = 0 := by unfold PerhV; rw [j2]; rfl
  have k4 : LineV g.d 0 = 0 := by unfold LineV; rw [j3]; rfl
  have k5 : WideV g.d (-1) = (0, 0) := by unfold WideV; rw [j4]; rfl
  rw [hf] at h28
  rw [hvb] at h29
  rw [CountE_of hv, CountV_of hv] at h23
  rw [j1, k1] at hx1
  rw [j2, k2, k3] at hx2
  rw [j3, k4] at hx3
  rw [j4, k5] at hx4
  clear r0 j1 j2 j3 j4 k1 k2 k3 k4 k5
  rw [i1] at hwp
  rw [i2] at hwh
  obtain ⟨T, hT⟩ : ∃ T, (trL g.d).length = T := ⟨_, rfl⟩
  rw [hT] at h23
  refine Ret.fgt ?_
  refine tri_of_WP Try.func7 rfl (n := _) rfl (by simp) ?_
  by_cases h0 : T = 0
  · subst h0
    have he : errT g.d true = 10 := errT_10 hvb rfl hT
    have k1 : WhoseV g.d (p : Int) = 0 := by unfold WhoseV; rw [i1, he]; rfl
    have k2 : SureV g.d (h : Int) = 0 := by unfold SureV; rw [i2, he]; rfl
    have k3 : PerhV g.d (h : Int) = 0 := by unfold PerhV; rw [i2, he]; rfl
    rw [he, k1] at hwp
    rw [he, k2, k3] at hwh
    unfold bkV bkL at h28 h29 h23 hwp hwh hx1 hx2 hx3 hx4 ⊢
    rw [hn, hm] at h28 h29 h23 hwp hwh hx1 hx2 hx3 hx4 ⊢
    repeat' (first | (refine GiP ?_; first | (refine Znh ?_) | (with_reducible refine Znl ?_) | (refine Zatd 120 ?_; (first | (refine Zv Zxpt ?_) | (refine Zv Zxpf ?_)); refine Zv Zmb ?_) | (refine Zatd 125 ?_; (first | (refine Zv Zxpt ?_) | (refine Zv Zxpf ?_)); refine Zv Zmb ?_) | (refine Zatd 130 ?_; (first | (refine Zv Zxpt ?_) | (refine Zv Zxpf ?_)); refine Zv Zmb ?_) | (refine Zatd 135 ?_; (first | (refine Zv Zxpt ?_) | (refine Zv Zxpf ?_)); refine Zv Zmb ?_) | (refine Zatd 140 ?_; (first | (refine Zv Zxpt ?_) | (refine Zv Zxpf ?_)); refine Zv Zmb ?_) | (refine Zatd 147 ?_; (first | (refine Zv Zxpt ?_) | (refine Zv Zxpf ?_))) | (refine Zatd 155 ?_; (first | (refine Zv Zxpt ?_) | (refine Zv Zxpf ?_)); refine Zv Zmb ?_) | (refine Zatd 159 ?_; (first | (refine Zv Zxpt ?_) | (refine Zv Zxpf ?_)); refine Zv Zmb ?_) | (refine Zatd 163 ?_; (first | (refine Zv Zxpt ?_) | (refine Zv Zxpf ?_)); refine Zv Zmb ?_) | (refine Zatd 166 ?_; (first | (refine Zv Zxpt ?_) | (refine Zv Zxpf ?_)); refine Zv Zab ?_) | (refine Zatd 118 ?_; first | refine Zsk ?_ | (refine Zv Zmi ?_)) | (refine Zatd 119 ?_; first | refine Zsk ?_ | (refine Zv (ZxneqB) ?_) | (refine Zv (Zyneq) ?_)) | (refine Zatd 122 ?_; first | refine Zsk ?_ | (refine Zv Zmi ?_)) | (refine Zatd 123 ?_; first | refine Zsk ?_ | (refine Zv Zmi ?_)) | (refine Zatd 124 ?_; first | refine Zsk ?_ | (refine Zv (ZxneqB) ?_) | (refine Zv (Zyneq) ?_)) | (refine Zatd 127 ?_; first | refine Zsk ?_ | (refine Zv Zmi ?_)) | (refine Zatd 128 ?_; first | refine Zsk ?_ | (refine Zv Zmi ?_)) | (refine Zatd 129 ?_; first | refine Zsk ?_ | (refine Zv (ZxneqB) ?_) | (refine Zv (Zyneq) ?_)) | (refine Zatd 132 ?_; first | refine Zsk ?_ | (refine Zv Zmi ?_)) | (refine Zatd 133 ?_; first | refine Zsk ?_ | (refine Zv Zmi ?_)) | (refine Zatd 134 ?_; first | refine Zsk ?_ | (refine Zv (ZxneqB) ?_) | (refine Zv (Zyneq) ?_)) | (refine Zatd 137 ?_; first | refine Zsk ?_ | (refine Zv Zmi ?_)) | (refine Zatd 138 ?_; first | refine Zsk ?_ | (refine Zv Zmi ?_)) | (refine Zatd 139 ?_; first | refine Zsk ?_ | (refine Zv (ZxneqB) ?_) | (refine Zv (Zyneq) ?_)) | (refine Zatd 142 ?_; first | refine Zsk ?_ | (refine Zv Zmi ?_)) | (refine Zatd 143 ?_; first | refine Zsk ?_ | (refine Zv Zyeql ?_)) | (refine Zatd 144 ?_; first | refine Zsk ?_ | (refine Zv Zmi ?_)) | (refine Zatd 145 ?_; first | refine Zsk ?_ | (refine Zv Zygtr ?_)) | (refine Zatd 146 ?_; first | refine Zsk ?_ | (refine Zv (ZxneqB) ?_) | (refine Zv (Zyneq) ?_)) | (refine Zatd 153 ?_; first | refine Zsk ?_ | (refine Zv Zmi ?_)) | (refine Zatd 154 ?_; first | refine Zsk ?_ | (refine Zv Zyeql ?_)) | (refine Zatd 157 ?_; first | refine Zsk ?_ | (refine Zv Zmi ?_)) | (refine Zatd 158 ?_; first | refine Zsk ?_ | (refine Zv Zyeql ?_)) | (refine Zatd 161 ?_; first | refine Zsk ?_ | (refine Zv Zmi ?_)) | (refine Zatd 162 ?_; first | refine Zsk ?_ | (refine Zv Zyeql ?_)) | (refine Zatd 165 ?_; first | refine Zsk ?_ | (refine Zcl (Enters_fn rfl) (h13 _) ?_)) | (refine Zsk ?_) | (refine Zsp (fun hc => ?_) (fun hc => ?_) <;> (try (exfalso; omega)))) | (refine GiW ?_; first | (refine Zsq fun K hK => ?_) | (refine ZrN 0 fun _ => ?_; refine Zal 3 fun b3 => ?_; refine Zv Zab ?_) | (refine ZrN 1 fun _ => ?_; refine Zv Zla ?_; refine Zcl (Enters_fn rfl) (h28 _) ?_) | (refine ZrN 3 fun _ => ?_; refine Zv Zla ?_; refine Zcl (Enters_fn rfl) (h23 _) ?_; refine Zv Zmv ?_; refine Zv Zxex ?_; refine Zv Zxex ?_; refine Zv Zai ?_; refine Zv Zai ?_) | (refine ZrN 4 fun _ => ?_; refine Zv Zla ?_; refine Zcl (Enters_fn rfl) (h29 _) ?_; refine Zv Zxnot ?_) | (refine ZrN 8 fun _ => ?_; refine Zv Zla ?_; refine Zv Zmi ?_; (first | (refine Zcl (Enters_fn rfl) (hwp _) ?_) | (refine Zcl (Enters_fn rfl) (hx1 _) ?_)); refine Zv Zmv ?_; refine Zv Zxex ?_; refine Zv Zxex ?_; refine Zv Zai ?_; refine Zv Zai ?_) | (refine ZrN 9 fun _ => ?_; refine Zv Zla ?_; refine Zv Zmi ?_; (first | (refine Zcl (Enters_fn rfl) (hwh _) ?_) | (refine Zcl (Enters_fn rfl) (hx2 _) ?_)); refine Zv Zmv ?_; refine Zv Zxex ?_; refine Zv Zxex ?_; refine Zv Zxex ?_; refine Zv Zai ?_; refine Zv Zai ?_; refine Zv Zai ?_) | (refine ZrN 10 fun _ => ?_; refine Zv Zla ?_; refine Zv Zf0 ?_; refine Zv Zld ?_; (first | (refine Zcl (Enters_fn rfl) (hwp _) ?_) | (refine Zcl (Enters_fn rfl) (hx1 _) ?_)); refine Zv Zmv ?_; refine Zv Zxex ?_; refine Zv Zxex ?_; refine Zv Zai ?_; refine Zv Zai ?_) | (refine ZrN 11 fun _ => ?_; refine Zv Zla ?_; refine Zv Zfa ?_; refine Zv Zld ?_; refine Zv Zxadd ?_; (first | (refine Zcl (Enters_fn rfl) (hwh _) ?_) | (refine Zcl (Enters_fn rfl) (hx2 _) ?_)); refine Zv Zmv ?_; refine Zv Zxex ?_; refine Zv Zxex ?_; refine Zv Zxex ?_; refine Zv Zai ?_; refine Zv Zai ?_; refine Zv Zai ?_) | (refine ZrN 12 fun _ => ?_; refine Zv Zla ?_; refine Zcl (Enters_fn rfl) (hx3 _) ?_; refine Zv Zmv ?_; refine Zv Zxex ?_; refine Zv Zxex ?_; refine Zv Zai ?_; refine Zv Zai ?_) | (refine ZrN 13 fun _ => ?_; refine Zv Zla ?_; refine Zcl (Enters_fn rfl) (hx4 _) ?_; refine Zv Zmv ?_; refine Zv Zxex ?_; refine Zv Zxex ?_; refine Zal 25 fun b25 => ?_; refine Zst ?_; refine Zv Zai ?_) | (refine ZrG 14 ?_; refine Zv Zmi ?_; (first | (refine Zv (ZxneqB) ?_) | (refine Zv (Zyneq) ?_)); refine Zv Zmb ?_) | (refine ZrN 16 fun _ => ?_; refine Zv Zmi ?_; (first | (refine Zv (ZxneqB) ?_) | (refine Zv (Zyneq) ?_))) | (refine ZrG 17 ?_; refine Zv Zmi ?_; refine Zv Zyeql ?_; refine Zv Zmb ?_) | (refine WP_cond_true rfl ?_) | (refine WP_cond_false rfl ?_) | (refine Zcd (fun hc => ?_) (fun hc => ?_) <;> (try (exfalso; omega))) | (with_reducible apply WP_skip) | (with_reducible apply WP_block) | (with_reducible apply WP_exit) | (with_reducible apply WP_ret) | (refine WP_drawn (id := 7) [0, 1, 2, 3, 4, 5, 6, 7, 8, 9, 10, 11, 12] [] (k := 0) prog_mixed (by kernel_rfl) rfl ?_; refine Zew rfl Zmi ?_; refine Zew rfl Zxco ?_; refine Zew rfl Zf0 ?_; refine Zew rfl Zld ?_; (first | (refine Zew rfl (Val_remE2 hp (by omega) rfl rfl) ?_) | (refine Zew rfl (Val_remE2 hh (by omega) rfl rfl) ?_)); refine Zew rfl Zmi ?_; refine Zew rfl Zxco ?_; refine Zew rfl Zfa ?_; refine Zew rfl Zld ?_; refine Zew rfl Zxadd ?_; (first | (refine Zew rfl (Val_remE2 hp (by omega) rfl rfl) ?_) | (refine Zew rfl (Val_remE2 hh (by omega) rfl rfl) ?_)); refine Zew rfl Zai ?_; refine Zew rfl Zai ?_)) | (with_reducible apply EWalk_nil) | (refine AnyO_done (by kernel_rfl) ?_; (try with_reducible apply noP_normal); try with_reducible exact key.out) | (refine Zhn ?_) | (with_reducible apply QBlock_normal) | (refine Zhx ?_) | (with_reducible apply QBlock_hit) | (refine Zqb ?_) | (with_reducible apply QLoop_exit) | (refine Zhr ?_) | (with_reducible apply QBlock_ret) | (with_reducible apply QLoop_ret) | (refine AWalk_0 ?_; refine ZisO ?_) | (with_reducible apply QAny_normal))
    all_goals exact QBody_ret1 rfl (rfl : _ = Value.bool _) ⟨rfl, (by repeat (first | exact Wk.refl _ | apply Wk.keep1 | apply Wk.drop | apply Wk.sv | apply Wk.svD | apply Wk.appD))⟩
  · have hpd : 0 ≤ (p : Int) ∧ (p : Int) < g.d.n := ⟨by omega, by omega⟩
    have he : errT g.d true = 0 := errT_0 hvb rfl (by omega)
    have k1 : WhoseV g.d (p : Int) = whoS g.d p := by unfold WhoseV; rw [i1, he]; rfl
    have k2 : SureV g.d (h : Int) = surS g.d h := by unfold SureV; rw [i2, he]; rfl
    have k3 : PerhV g.d (h : Int) = perS g.d h := by unfold PerhV; rw [i2, he]; rfl
    rw [he, k1] at hwp
    rw [he, k2, k3] at hwh
    clear k1 k2 k3
    have u1 := who_pos hv hpd (by omega)
    have u2 := who_lt g.d (p : Int)
    have u3 := sur_lt g.d (h : Int)
    have u4 := per_lt g.d (h : Int)
    have u5 := who_one hv hpd (by omega) (h := h) (by omega)
    have u6 := sur_bit (d := g.d) (h : Int) p
    have u7 := per_bit (d := g.d) (h : Int) p
    have u8 := fun j => who_bit (d := g.d) (p : Int) j
    have u9 := sum_all hv hpd
    have u10 := fun k j hkj => sum_mono (d := g.d) (p := (p : Int)) (k := k) (j := j) hkj
    obtain ⟨l, hl⟩ : ∃ l, whoS g.d p = l := ⟨_, rfl⟩
    obtain ⟨s, hs⟩ : ∃ l, surS g.d h = l := ⟨_, rfl⟩
    obtain ⟨t, ht⟩ : ∃ l, perS g.d h = l := ⟨_, rfl⟩
    rw [hl] at u1 u2 u5 hwp
    simp only [hl] at u8
    rw [hs] at u3 u6 hwh
    rw [ht] at u4 u7 hwh
    rw [hT] at u5 u6 u9
    have hmt : g.d.m.toNat = m := by omega
    have hnt : g.d.n.toNat = n := by omega
    rw [hmt] at u2 u9
    simp only [hmt] at u8
    rw [hnt] at u3 u4 u6 u7
    have b2 : 2 ^ (m + 1) ≤ 2 ^ 5 := Nat.pow_le_pow_right (by omega) (by omega)
    have b3 : 2 ^ n ≤ 2 ^ 10 := Nat.pow_le_pow_right (by omega) (by omega)
    have l0 : l / 2 ^ (m + 1) = 0 := Nat.div_eq_of_lt u2
    have s0 : s / 2 ^ n = 0 := Nat.div_eq_of_lt u3
    have t0 : t / 2 ^ n = 0 := Nat.div_eq_of_lt u4
    have hbd : ∀ x j : Nat, x < 2 ^ 10 → x / 2 ^ j < 2 ^ 63 := fun x j hx => Nat.lt_of_le_of_lt (Nat.div_le_self _ _) (by omega)
    have hdv := fun x j : Nat => Nat.div_le_self x (2 ^ j)
    obtain ⟨sb, hsb⟩ : ∃ r, (s / 2 ^ p) &&& 1 = r := ⟨_, rfl⟩
    obtain ⟨tb, htb⟩ : ∃ r, (t / 2 ^ p) &&& 1 = r := ⟨_, rfl⟩
    obtain ⟨lb, hlb⟩ : ∃ r, (l / 2 ^ h) &&& 1 = r := ⟨_, rfl⟩
    have v1 : sb = s / 2 ^ p % 2 := by rw [← hsb]; exact Nat.and_one_is_mod _
    have v2 : tb = t / 2 ^ p % 2 := by rw [← htb]; exact Nat.and_one_is_mod _
    have v3 : lb = l / 2 ^ h % 2 := by rw [← hlb]; exact Nat.and_one_is_mod _
    have w1 : sb = 1 ↔ l = 2 ^ h := by rw [v1, u6, u5]; exact ⟨fun h => h.2, fun h => ⟨hpn, h⟩⟩
    have w2 : tb = lb := by
      have h8 := u8 h
      have : t / 2 ^ p % 2 = 1 ↔ l / 2 ^ h % 2 = 1 := by rw [u7, h8]; exact ⟨fun q => ⟨hhm, q.2⟩, fun q => ⟨hpn, q.2⟩⟩
      omega
    have h2h : 2 ^ h ≤ 2 ^ 4 := Nat.pow_le_pow_right (by omega) (by omega)
    have y1 := hbd s p (by omega)
    have y2 := hbd t p (by omega)
    have y3 := hbd l h (by omega)
    have hcase : (sb = 1 ∧ l = 2 ^ h) ∨ (sb ≠ 1 ∧ l ≠ 2 ^ h) := by
      by_cases hq : sb = 1
      · exact .inl ⟨hq, w1.1 hq⟩
      · exact .inr ⟨hq, fun hq2 => hq (w1.2 hq2)⟩
    subst w2
    have hwt := fun L o => with_tri N w0 L g hA (by have := hv.nm; omega) ((p : Int), o)
    have hcw := fun L g' o hd h6 ho h => countW N w0 L g' h g.d hv p o hd h6 hpd ho
    unfold bkV bkL spL at hwt
    unfold bkV bkL at h28 h29 h23 hwp hwh hx1 hx2 hx3 hx4 ⊢
    obtain ⟨q, hq⟩ : ∃ q, g.d.ms.length = q := ⟨_, rfl⟩
    have hq6 := hv.nm
    rw [hq] at hq6
    rw [hn, hm, hq] at h28 h29 h23 hwp hwh hx1 hx2 hx3 hx4 hwt ⊢
    repeat' (first | (refine GiP ?_; first | (refine Znh ?_) | (with_reducible refine Znl ?_) | (refine Zatd 120 ?_; (first | (refine Zv Zxpt ?_) | (refine Zv Zxpf ?_)); refine Zv Zmb ?_) | (refine Zatd 125 ?_; (first | (refine Zv Zxpt ?_) | (refine Zv Zxpf ?_)); refine Zv Zmb ?_) | (refine Zatd 130 ?_; (first | (refine Zv Zxpt ?_) | (refine Zv Zxpf ?_)); refine Zv Zmb ?_) | (refine Zatd 135 ?_; (first | (refine Zv Zxpt ?_) | (refine Zv Zxpf ?_)); refine Zv Zmb ?_) | (refine Zatd 140 ?_; (first | (refine Zv Zxpt ?_) | (refine Zv Zxpf ?_)); refine Zv Zmb ?_) | (refine Zatd 147 ?_; (first | (refine Zv Zxpt ?_) | (refine Zv Zxpf ?_))) | (refine Zatd 118 ?_; first | refine Zsk ?_ | (refine Zv Zmi ?_)) | (refine Zatd 119 ?_; first | refine Zsk ?_ | (refine Zv (ZxneqB) ?_) | (refine Zv (Zyneq) ?_)) | (refine Zatd 122 ?_; first | refine Zsk ?_ | (refine Zv Zmi ?_)) | (refine Zatd 123 ?_; first | refine Zsk ?_ | (refine Zv Zmi ?_)) | (refine Zatd 124 ?_; first | refine Zsk ?_ | (refine Zv (ZxneqB) ?_) | (refine Zv (Zyneq) ?_)) | (refine Zatd 127 ?_; first | refine Zsk ?_ | (refine Zv Zmi ?_)) | (refine Zatd 128 ?_; first | refine Zsk ?_ | (refine Zv Zmi ?_)) | (refine Zatd 129 ?_; first | refine Zsk ?_ | (refine Zv (ZxneqB) ?_) | (refine Zv (Zyneq) ?_)) | (refine Zatd 132 ?_; first | refine Zsk ?_ | (refine Zv Zmi ?_)) | (refine Zatd 133 ?_; first | refine Zsk ?_ | (refine Zv Zmi ?_)) | (refine Zatd 134 ?_; first | refine Zsk ?_ | (refine Zv (ZxneqB) ?_) | (refine Zv (Zyneq) ?_)) | (refine Zatd 137 ?_; first | refine Zsk ?_ | (refine Zv Zmi ?_)) | (refine Zatd 138 ?_; first | refine Zsk ?_ | (refine Zv Zmi ?_)) | (refine Zatd 139 ?_; first | refine Zsk ?_ | (refine Zv (ZxneqB) ?_) | (refine Zv (Zyneq) ?_)) | (refine Zatd 142 ?_; first | refine Zsk ?_ | (refine Zv Zmi ?_)) | (refine Zatd 143 ?_; first | refine Zsk ?_ | (refine Zv Zyeql ?_)) | (refine Zatd 144 ?_; first | refine Zsk ?_ | (refine Zv Zmi ?_)) | (refine Zatd 145 ?_; first | refine Zsk ?_ | (refine Zv Zygtr ?_)) | (refine Zatd 146 ?_; first | refine Zsk ?_ | (refine Zv (ZxneqB) ?_) | (refine Zv (Zyneq) ?_)) | (refine Zsk ?_) | (refine Zsp (fun hc => ?_) (fun hc => ?_) <;> (try (exfalso; omega)))) | (refine GiW ?_; first | (refine Zsq fun K hK => ?_) | (refine ZrN 0 fun _ => ?_; refine Zal 3 fun b3 => ?_; refine Zv Zab ?_) | (refine ZrN 1 fun _ => ?_; refine Zv Zla ?_; refine Zcl (Enters_fn rfl) (h28 _) ?_) | (refine ZrN 3 fun _ => ?_; refine Zv Zla ?_; refine Zcl (Enters_fn rfl) (h23 _) ?_; refine Zv Zmv ?_; refine Zv Zxex ?_; refine Zv Zxex ?_; refine Zv Zai ?_; refine Zv Zai ?_) | (refine ZrN 4 fun _ => ?_; refine Zv Zla ?_; refine Zcl (Enters_fn rfl) (h29 _) ?_; refine Zv Zxnot ?_) | (refine ZrN 8 fun _ => ?_; refine Zv Zla ?_; refine Zv Zmi ?_; (first | (refine Zcl (Enters_fn rfl) (hwp _) ?_) | (refine Zcl (Enters_fn rfl) (hx1 _) ?_)); refine Zv Zmv ?_; refine Zv Zxex ?_; refine Zv Zxex ?_; refine Zv Zai ?_; refine Zv Zai ?_) | (refine ZrN 9 fun _ => ?_; refine Zv Zla ?_; refine Zv Zmi ?_; (first | (refine Zcl (Enters_fn rfl) (hwh _) ?_) | (refine Zcl (Enters_fn rfl) (hx2 _) ?_)); refine Zv Zmv ?_; refine Zv Zxex ?_; refine Zv Zxex ?_; refine Zv Zxex ?_; refine Zv Zai ?_; refine Zv Zai ?_; refine Zv Zai ?_) | (refine ZrN 10 fun _ => ?_; refine Zv Zla ?_; refine Zv Zf0 ?_; refine Zv Zld ?_; (first | (refine Zcl (Enters_fn rfl) (hwp _) ?_) | (refine Zcl (Enters_fn rfl) (hx1 _) ?_)); refine Zv Zmv ?_; refine Zv Zxex ?_; refine Zv Zxex ?_; refine Zv Zai ?_; refine Zv Zai ?_) | (refine ZrN 11 fun _ => ?_; refine Zv Zla ?_; refine Zv Zfa ?_; refine Zv Zld ?_; refine Zv Zxadd ?_; (first | (refine Zcl (Enters_fn rfl) (hwh _) ?_) | (refine Zcl (Enters_fn rfl) (hx2 _) ?_)); refine Zv Zmv ?_; refine Zv Zxex ?_; refine Zv Zxex ?_; refine Zv Zxex ?_; refine Zv Zai ?_; refine Zv Zai ?_; refine Zv Zai ?_) | (refine ZrN 12 fun _ => ?_; refine Zv Zla ?_; refine Zcl (Enters_fn rfl) (hx3 _) ?_; refine Zv Zmv ?_; refine Zv Zxex ?_; refine Zv Zxex ?_; refine Zv Zai ?_; refine Zv Zai ?_) | (refine ZrN 13 fun _ => ?_; refine Zv Zla ?_; refine Zcl (Enters_fn rfl) (hx4 _) ?_; refine Zv Zmv ?_; refine Zv Zxex ?_; refine Zv Zxex ?_; refine Zal 25 fun b25 => ?_; refine Zst ?_; refine Zv Zai ?_) | (refine ZrG 14 ?_; refine Zv Zmi ?_; (first | (refine Zv (ZxneqB) ?_) | (refine Zv (Zyneq) ?_)); refine Zv Zmb ?_) | (refine ZrN 16 fun _ => ?_; refine Zv Zmi ?_; (first | (refine Zv (ZxneqB) ?_) | (refine Zv (Zyneq) ?_))) | (refine WP_cond_true rfl ?_) | (refine WP_cond_false rfl ?_) | (refine Zcd (fun hc => ?_) (fun hc => ?_) <;> (try (exfalso; omega))) | (with_reducible apply WP_skip) | (with_reducible apply WP_block) | (with_reducible apply WP_exit) | (with_reducible apply WP_ret) | (refine WP_drawn (id := 7) [0, 1, 2, 3, 4, 5, 6, 7, 8, 9, 10, 11, 12] [] (k := 0) prog_mixed (by kernel_rfl) rfl ?_; refine Zew rfl Zmi ?_; refine Zew rfl Zxco ?_; refine Zew rfl Zf0 ?_; refine Zew rfl Zld ?_; (first | (refine Zew rfl (Val_remE2 hp (by omega) rfl rfl) ?_) | (refine Zew rfl (Val_remE2 hh (by omega) rfl rfl) ?_)); refine Zew rfl Zmi ?_; refine Zew rfl Zxco ?_; refine Zew rfl Zfa ?_; refine Zew rfl Zld ?_; refine Zew rfl Zxadd ?_; (first | (refine Zew rfl (Val_remE2 hp (by omega) rfl rfl) ?_) | (refine Zew rfl (Val_remE2 hh (by omega) rfl rfl) ?_)); refine Zew rfl Zai ?_; refine Zew rfl Zai ?_)) | (with_reducible apply EWalk_nil) | (refine AnyO_done (by kernel_rfl) ?_; (try with_reducible apply noP_normal); try with_reducible exact key.out) | (refine Zhn ?_) | (with_reducible apply QBlock_normal) | (refine Zhx ?_) | (with_reducible apply QBlock_hit) | (refine Zqb ?_) | (with_reducible apply QLoop_exit) | (refine Zhr ?_) | (with_reducible apply QBlock_ret) | (with_reducible apply QLoop_ret) | (refine AWalk_0 ?_; refine ZisO ?_) | (with_reducible apply QAny_normal))
    all_goals
      refine WP_gen [3, 7, 11, 12, 13, 15, 16] [(3, .pointer (some ⟨b3, 0, none⟩)), (7, .int .i64 (T : Int)), (11, .int .i64 (p : Int)), (12, .int .i64 (h : Int)), (13, .int .i64 (l : Int)), (15, .int .i64 (s : Int)), (16, .int .i64 (t : Int))] (.cons rfl (.cons rfl (.cons rfl (.cons rfl (.cons rfl (.cons rfl (.cons rfl .nil))))))) fun e7 => ?_
      clear h28 h29 h23 hwp hwh hx1 hx2 hx3 hx4
    have hT6 : T ≤ 6561 := by have := ways_bd hv []; rw [waysN_nil, hT] at this; exact this
    have hwb := fun o => ways_bd hv [.mine (p : Int) o]
    obtain ⟨sp, hsp⟩ : ∃ r, s / 2 ^ p = r := ⟨_, rfl⟩
    obtain ⟨tp, htp⟩ : ∃ r, t / 2 ^ p = r := ⟨_, rfl⟩
    obtain ⟨lh, hlh⟩ : ∃ r, l / 2 ^ h = r := ⟨_, rfl⟩
    rw [hsp] at hsb y1
    rw [htp] at htb y2
    rw [hlh] at hlb y3
    have hl10 : l < 2 ^ 10 := by omega
    clear u2 u3 u4 u5 u6 u7 v1 v2 v3 w1
    rcases hcase with ⟨q1, q2⟩ | ⟨q1, q2⟩
    all_goals
      repeat' (first | (refine GiP ?_; first | (refine Znh ?_) | (with_reducible refine Znl ?_)) | (refine GiW ?_; first | (refine Zsq fun K hK => ?_) | (refine WP_cond_true rfl ?_) | (refine WP_cond_false rfl ?_) | (refine Zcd (fun hc => ?_) (fun hc => ?_) <;> (try (exfalso; omega))) | (with_reducible apply WP_skip) | (with_reducible apply WP_block) | (with_reducible apply WP_exit) | (with_reducible apply WP_ret) | (refine WP_drawn (id := 18) [0, 1, 2, 3, 4, 5, 6, 7, 8, 9, 10, 11, 12, 13, 14, 15, 16, 17, 18, 19, 20, 21, 22, 23, 24, 25, 26, 27, 28, 29, 30, 31, 32, 33, 34, 35, 36, 37, 38, 39, 40, 41, 42, 43, 44, 45, 46] [] (k := 0) prog_mixed (by kernel_rfl) rfl ?_; refine Zew rfl Zmi ?_; refine Zew rfl Zylss ?_; refine Zew rfl Zmb ?_)) | (refine GiE ?_; first | (refine Zati 9 ?_; (first | (refine Zew rfl Zxpt ?_) | (refine Zew rfl Zxpf ?_)); refine Zew rfl Zmb ?_) | (refine Zati 21 ?_; (first | (refine Zew rfl Zxpt ?_) | (refine Zew rfl Zxpf ?_)); refine Zew rfl Zmb ?_) | (refine Zati 32 ?_; (first | (refine Zew rfl Zxpt ?_) | (refine Zew rfl Zxpf ?_)); refine Zew rfl Zmb ?_) | (refine Zati 39 ?_; (first | (refine Zew rfl Zxpt ?_) | (refine Zew rfl Zxpf ?_)); refine Zew rfl Zmb ?_) | (refine Zati 46 ?_; (first | (refine Zew rfl Zxpt ?_) | (refine Zew rfl Zxpf ?_))) | (refine Zati 3 ?_; first | refine Zes ?_ | (refine Zew rfl Zmi ?_)) | (refine Zati 4 ?_; first | refine Zes ?_ | (refine Zew rfl Zfa ?_)) | (refine Zati 5 ?_; first | refine Zes ?_ | (refine Zew rfl Zld ?_)) | (refine Zati 6 ?_; first | refine Zes ?_ | (refine Zew rfl Zxadd ?_)) | (refine Zati 7 ?_; first | refine Zes ?_ | (refine Zew rfl (Val_shrE l0 (by omega) rfl rfl) ?_) | (refine Zew rfl (Val_shrE hsp (by omega) rfl rfl) ?_) | (refine Zew rfl (Val_shrE htp (by omega) rfl rfl) ?_) | (refine Zew rfl (Val_shrE hlh (by omega) rfl rfl) ?_) | (refine Zew rfl (Val_shrE s0 (by omega) rfl rfl) ?_) | (refine Zew rfl (Val_shrE t0 (by omega) rfl rfl) ?_)) | (refine Zati 8 ?_; first | refine Zes ?_ | (refine Zew rfl (ZxneqB) ?_) | (refine Zew rfl (Zyneq) ?_)) | (refine Zati 11 ?_; first | refine Zes ?_ | (refine Zew rfl Zmi ?_)) | (refine Zati 12 ?_; first | refine Zes ?_ | (refine Zew rfl Zmi ?_)) | (refine Zati 13 ?_; first | refine Zes ?_ | (refine Zew rfl (Val_shrE l0 (by omega) rfl rfl) ?_) | (refine Zew rfl (Val_shrE hsp (by omega) rfl rfl) ?_) | (refine Zew rfl (Val_shrE htp (by omega) rfl rfl) ?_) | (refine Zew rfl (Val_shrE hlh (by omega) rfl rfl) ?_) | (refine Zew rfl (Val_shrE s0 (by omega) rfl rfl) ?_) | (refine Zew rfl (Val_shrE t0 (by omega) rfl rfl) ?_)) | (refine Zati 14 ?_; first | refine Zes ?_ | (refine Zew rfl (Val_andE hsb y1 (by omega) rfl rfl) ?_) | (refine Zew rfl (Val_andE htb y2 (by omega) rfl rfl) ?_) | (refine Zew rfl (Val_andE hlb y3 (by omega) rfl rfl) ?_)) | (refine Zati 15 ?_; first | refine Zes ?_ | (refine Zew rfl Zyeql ?_)) | (refine Zati 16 ?_; first | refine Zes ?_ | (refine Zew rfl Zmi ?_)) | (refine Zati 17 ?_; first | refine Zes ?_ | (refine Zew rfl Zmi ?_)) | (refine Zati 18 ?_; first | refine Zes ?_ | (refine Zew rfl (Val_shlS rfl rfl (by omega)) ?_)) | (refine Zati 19 ?_; first | refine Zes ?_ | (refine Zew rfl Zyeql ?_)) | (refine Zati 20 ?_; first | refine Zes ?_ | (refine Zew rfl (ZxneqB) ?_) | (refine Zew rfl (Zyneq) ?_)) | (refine Zati 23 ?_; first | refine Zes ?_ | (refine Zew rfl Zmi ?_)) | (refine Zati 24 ?_; first | refine Zes ?_ | (refine Zew rfl Zmi ?_)) | (refine Zati 25 ?_; first | refine Zes ?_ | (refine Zew rfl (Val_shrE l0 (by omega) rfl rfl) ?_) | (refine Zew rfl (Val_shrE hsp (by omega) rfl rfl) ?_) | (refine Zew rfl (Val_shrE htp (by omega) rfl rfl) ?_) | (refine Zew rfl (Val_shrE hlh (by omega) rfl rfl) ?_) | (refine Zew rfl (Val_shrE s0 (by omega) rfl rfl) ?_) | (refine Zew rfl (Val_shrE t0 (by omega) rfl rfl) ?_)) | (refine Zati 26 ?_; first | refine Zes ?_ | (refine Zew rfl (Val_andE hsb y1 (by omega) rfl rfl) ?_) | (refine Zew rfl (Val_andE htb y2 (by omega) rfl rfl) ?_) | (refine Zew rfl (Val_andE hlb y3 (by omega) rfl rfl) ?_)) | (refine Zati 27 ?_; first | refine Zes ?_ | (refine Zew rfl Zmi ?_)) | (refine Zati 28 ?_; first | refine Zes ?_ | (refine Zew rfl Zmi ?_)) | (refine Zati 29 ?_; first | refine Zes ?_ | (refine Zew rfl (Val_shrE l0 (by omega) rfl rfl) ?_) | (refine Zew rfl (Val_shrE hsp (by omega) rfl rfl) ?_) | (refine Zew rfl (Val_shrE htp (by omega) rfl rfl) ?_) | (refine Zew rfl (Val_shrE hlh (by omega) rfl rfl) ?_) | (refine Zew rfl (Val_shrE s0 (by omega) rfl rfl) ?_) | (refine Zew rfl (Val_shrE t0 (by omega) rfl rfl) ?_)) | (refine Zati 30 ?_; first | refine Zes ?_ | (refine Zew rfl (Val_andE hsb y1 (by omega) rfl rfl) ?_) | (refine Zew rfl (Val_andE htb y2 (by omega) rfl rfl) ?_) | (refine Zew rfl (Val_andE hlb y3 (by omega) rfl rfl) ?_)) | (refine Zati 31 ?_; first | refine Zes ?_ | (refine Zew rfl (ZxneqB) ?_) | (refine Zew rfl (Zyneq) ?_)) | (refine Zati 34 ?_; first | refine Zes ?_ | (refine Zew rfl Zmi ?_)) | (refine Zati 35 ?_; first | refine Zes ?_ | (refine Zew rfl Zf0 ?_)) | (refine Zati 36 ?_; first | refine Zes ?_ | (refine Zew rfl Zld ?_)) | (refine Zati 37 ?_; first | refine Zes ?_ | (refine Zew rfl (Val_shrE l0 (by omega) rfl rfl) ?_) | (refine Zew rfl (Val_shrE hsp (by omega) rfl rfl) ?_) | (refine Zew rfl (Val_shrE htp (by omega) rfl rfl) ?_) | (refine Zew rfl (Val_shrE hlh (by omega) rfl rfl) ?_) | (refine Zew rfl (Val_shrE s0 (by omega) rfl rfl) ?_) | (refine Zew rfl (Val_shrE t0 (by omega) rfl rfl) ?_)) | (refine Zati 38 ?_; first | refine Zes ?_ | (refine Zew rfl (ZxneqB) ?_) | (refine Zew rfl (Zyneq) ?_)) | (refine Zati 41 ?_; first | refine Zes ?_ | (refine Zew rfl Zmi ?_)) | (refine Zati 42 ?_; first | refine Zes ?_ | (refine Zew rfl Zf0 ?_)) | (refine Zati 43 ?_; first | refine Zes ?_ | (refine Zew rfl Zld ?_)) | (refine Zati 44 ?_; first | refine Zes ?_ | (refine Zew rfl (Val_shrE l0 (by omega) rfl rfl) ?_) | (refine Zew rfl (Val_shrE hsp (by omega) rfl rfl) ?_) | (refine Zew rfl (Val_shrE htp (by omega) rfl rfl) ?_) | (refine Zew rfl (Val_shrE hlh (by omega) rfl rfl) ?_) | (refine Zew rfl (Val_shrE s0 (by omega) rfl rfl) ?_) | (refine Zew rfl (Val_shrE t0 (by omega) rfl rfl) ?_)) | (refine Zati 45 ?_; first | refine Zes ?_ | (refine Zew rfl (ZxneqB) ?_) | (refine Zew rfl (Zyneq) ?_)) | (refine Zes ?_) | (refine Zesp (fun hc => ?_) (fun hc => ?_) <;> (try (exfalso; omega))) | (with_reducible apply EWalk_nil)) | (refine AnyO_done (by kernel_rfl) ?_; (try with_reducible apply noP_normal); try with_reducible exact key.out) | (refine Zhn ?_) | (with_reducible apply QBlock_normal) | (refine Zhx ?_) | (with_reducible apply QBlock_hit) | (refine Zqb ?_) | (with_reducible apply QLoop_exit) | (refine Zhr ?_) | (with_reducible apply QBlock_ret) | (with_reducible apply QLoop_ret) | (refine AWalk_0 ?_; refine ZisO ?_) | (with_reducible apply QAny_normal))
      by_cases h6 : q = 6
      · subst h6
        repeat' (first | (refine GiP ?_; first | (refine Znh ?_) | (with_reducible refine Znl ?_)) | (refine GiW ?_; first | (refine Zsq fun K hK => ?_) | (refine ZrN 20 fun _ => ?_; refine Zv Zfa ?_; refine Zv Zld ?_; refine Zv Zxlen ?_; refine Zv Zyeql ?_) | (refine ZrN 21 fun _ => ?_; refine Zcl (Enters_fn rfl) (h13 _) ?_; refine Zv Zab ?_) | (refine WP_cond_true rfl ?_) | (refine WP_cond_false rfl ?_) | (refine Zcd (fun hc => ?_) (fun hc => ?_) <;> (try (exfalso; omega))) | (with_reducible apply WP_skip) | (with_reducible apply WP_block) | (with_reducible apply WP_exit) | (with_reducible apply WP_ret)) | (refine Zhn ?_) | (with_reducible apply QBlock_normal) | (refine Zhx ?_) | (with_reducible apply QBlock_hit) | (refine Zqb ?_) | (with_reducible apply QLoop_exit) | (refine Zhr ?_) | (with_reducible apply QBlock_ret) | (with_reducible apply QLoop_ret))
        exact QBody_ret1 rfl (rfl : _ = Value.bool _) ⟨rfl, (by repeat (first | exact Wk.refl _ | apply Wk.keep1 | apply Wk.drop | apply Wk.sv | apply Wk.svD | apply Wk.appD))⟩
      · repeat' (first | (refine GiP ?_; first | (refine Znh ?_) | (with_reducible refine Znl ?_)) | (refine GiW ?_; first | (refine Zsq fun K hK => ?_) | (refine ZrN 20 fun _ => ?_; refine Zv Zfa ?_; refine Zv Zld ?_; refine Zv Zxlen ?_; refine Zv Zyeql ?_) | (refine ZrN 22 fun _ => ?_; refine Zv Zai ?_) | (refine ZrN 23 fun _ => ?_; refine Zv Zfa ?_; refine Zv Zld ?_; refine Zv Zxadd ?_; refine Zv Zmi ?_) | (refine WP_cond_true rfl ?_) | (refine WP_cond_false rfl ?_) | (refine Zcd (fun hc => ?_) (fun hc => ?_) <;> (try (exfalso; omega))) | (with_reducible apply WP_skip) | (with_reducible apply WP_block) | (with_reducible apply WP_exit) | (with_reducible apply WP_ret)) | (refine Zhn ?_) | (with_reducible apply QBlock_normal) | (refine Zhx ?_) | (with_reducible apply QBlock_hit) | (refine Zqb ?_) | (with_reducible apply QLoop_exit) | (refine Zhr ?_) | (with_reducible apply QBlock_ret) | (with_reducible apply QLoop_ret))
        refine WP_loop [6, 27, 28, 29, 30, 222, 223, 224, 225, 226, 227, 228, 229, 230, 231, 232, 233, 234, 235, 236, 237, 238, 239, 240, 241, 242, 243, 244, 245, 246, 247, 248, 249, 250, 251, 252, 253] (fun k : Nat => [(222, .int .i64 (k : Int)), (27, .int .i64 (sumF g.d (p : Int) k : Int))]) (fun _ => _) (fun k => k ≤ m + 1) (fun k => m + 1 - k) 0 (.cons rfl (.cons rfl .nil)) (Wk.refl _) (Nat.zero_le _) ?_
        intro k j hk
        by_cases hkm : k < m + 1
        · have hw := hwb (k : Int)
          have hsn : sumF g.d (p : Int) (k + 1) = sumF g.d p k + waysN g.d [.mine p k] := rfl
          have hle := u10 (k + 1) (m + 1) (by omega)
          have hb8 := u8 k
          have hc := fun L g' hd => hcw L g' (k : Int) hd (by rw [hq]; omega) ⟨by omega, by omega⟩
          obtain ⟨S, hS⟩ : ∃ S, sumF g.d (p : Int) k = S := ⟨_, rfl⟩
          obtain ⟨W, hW⟩ : ∃ W, waysN g.d [.mine (p : Int) k] = W := ⟨_, rfl⟩
          obtain ⟨lk, hlk⟩ : ∃ r, l / 2 ^ k = r := ⟨_, rfl⟩
          have y4 := hbd l k (by omega)
          obtain ⟨bt, hbt⟩ : ∃ r, lk &&& 1 = r := ⟨_, rfl⟩
          have hb2 : bt = lk % 2 := by rw [← hbt]; exact Nat.and_one_is_mod _
          rw [hS, hW] at hsn
          rw [hW] at hw hc hb8
          rw [hlk] at hb8 y4
          rw [hS]
          rw [hsn, u9] at hle
          have hcs : (0 < W ∧ bt = 1) ∨ (W = 0 ∧ bt ≠ 1) := by
            by_cases hW0 : W = 0
            · exact .inr ⟨hW0, fun hb => by have := (hb8.1 (by omega)).2; omega⟩
            · exact .inl ⟨by omega, by have := hb8.2 ⟨hkm, by omega⟩; omega⟩
          have hmx : (S : Int) + (W : Int) = ((sumF g.d (p : Int) (k + 1) : Nat) : Int) := by rw [hsn]; omega
          rcases hcs with ⟨c1, c2⟩ | ⟨c1, c2⟩
          all_goals
            repeat' (first | (refine GiP ?_; first | (refine Znh ?_) | (with_reducible refine Znl ?_) | (refine Zatd 239 ?_; (first | (refine Zv Zxpt ?_) | (refine Zv Zxpf ?_)); refine Zv Zmb ?_) | (refine Zatd 249 ?_; (first | (refine Zv Zxpt ?_) | (refine Zv Zxpf ?_))) | (refine Zatd 237 ?_; first | refine Zsk ?_ | (refine Zv Zmi ?_)) | (refine Zatd 238 ?_; first | refine Zsk ?_ | (refine Zv Zylss ?_)) | (refine Zatd 241 ?_; first | refine Zsk ?_ | (refine Zv Zmi ?_)) | (refine Zatd 242 ?_; first | refine Zsk ?_ | (refine Zv Zygtr ?_)) | (refine Zatd 243 ?_; first | refine Zsk ?_ | (refine Zv Zmi ?_)) | (refine Zatd 244 ?_; first | refine Zsk ?_ | (refine Zv Zmi ?_)) | (refine Zatd 245 ?_; first | refine Zsk ?_ | (refine Zv (Val_shrE hlk (by omega) rfl rfl) ?_)) | (refine Zatd 246 ?_; first | refine Zsk ?_ | (refine Zv (Val_andE hbt y4 (by omega) rfl rfl) ?_)) | (refine Zatd 247 ?_; first | refine Zsk ?_ | (refine Zv Zyeql ?_)) | (refine Zatd 248 ?_; first | refine Zsk ?_ | (refine Zv (ZxneqB) ?_) | (refine Zv (Zyneq) ?_)) | (refine Zsk ?_) | (refine Zsp (fun hc => ?_) (fun hc => ?_) <;> (try (exfalso; omega)))) | (refine GiW ?_; first | (refine Zsq fun K hK => ?_) | (refine ZrN 24 fun _ => ?_; refine Zv Zylss ?_) | (refine ZrN 25 fun _ => ?_; refine Zv Zmi ?_; refine Zv Zai ?_) | (refine ZrN 26 fun _ => ?_; refine Zv Zla ?_; refine Zv Zmi ?_; refine Zv Zmi ?_; refine Zv Zxbu ?_; refine OPS_retKS (Enters_fn rfl) (hwt _ _) rfl rfl rfl (fun v18 L18 h18 => ?_); obtain ⟨g18, X18, rfl, hd18, hA18, hc18, rfl, hin18⟩ := h18; refine Zcl (Enters_fn rfl) (hc _ g18 hd18 (hin18.sub ⟨_, List.Perm.refl _⟩)) ?_; refine Zv Zmv ?_; refine Zv Zxex ?_; refine Zv Zxex ?_; refine Zv Zai ?_; refine Zv Zai ?_) | (refine ZrG 27 ?_; refine Zv Zmi ?_; (first | (refine Zv (ZxneqB) ?_) | (refine Zv (Zyneq) ?_)); refine Zv Zmb ?_) | (refine ZrN 29 fun _ => ?_; refine Zv Zmi ?_; refine Zv Zmi ?_; refine Zv Zxadd ?_; refine Zv Zai ?_) | (refine ZrN 30 fun _ => ?_; refine Zv Zxadd ?_; refine Zv Zmi ?_) | (refine WP_cond_true rfl ?_) | (refine WP_cond_false rfl ?_) | (refine Zcd (fun hc => ?_) (fun hc => ?_) <;> (try (exfalso; omega))) | (with_reducible apply WP_skip) | (with_reducible apply WP_block) | (with_reducible apply WP_exit) | (with_reducible apply WP_ret)) | (refine Zhn ?_) | (with_reducible apply QBlock_normal) | (refine Zhx ?_) | (with_reducible apply QBlock_hit) | (refine Zqb ?_) | (with_reducible apply QLoop_exit) | (refine Zhr ?_) | (with_reducible apply QBlock_ret) | (with_reducible apply QLoop_ret))
            exact QLoop_normal (k + 1) (.cons rfl (.cons (congrArg (Value.int .i64) hmx) .nil)) (by repeat (first | exact Off.frame rfl | exact Off.refl _ _ | refine Off.frameT rfl rfl ?_ | refine Off.upd rfl ?_ | refine Off.updO rfl ?_)) (by repeat (first | exact Wk.refl _ | apply Wk.keep1 | apply Wk.drop | apply Wk.sv | apply Wk.svD | apply Wk.appD)) (by omega) (by omega)
        · have hke : k = m + 1 := by omega
          subst hke
          rw [u9]
          repeat' (first | (refine GiP ?_; first | (refine Znh ?_) | (with_reducible refine Znl ?_) | (refine Zatd 259 ?_; (first | (refine Zv Zxpt ?_) | (refine Zv Zxpf ?_)); refine Zv Zab ?_) | (refine Zatd 258 ?_; first | refine Zsk ?_ | (refine Zcl (Enters_fn rfl) (h13 _) ?_)) | (refine Zsk ?_) | (refine Zsp (fun hc => ?_) (fun hc => ?_) <;> (try (exfalso; omega)))) | (refine GiW ?_; first | (refine Zsq fun K hK => ?_) | (refine ZrN 24 fun _ => ?_; refine Zv Zylss ?_) | (refine ZrG 31 ?_; refine Zv Zmi ?_; refine Zv Zmi ?_; refine Zv Zyeql ?_; refine Zv Zmb ?_) | (refine WP_cond_true rfl ?_) | (refine WP_cond_false rfl ?_) | (refine Zcd (fun hc => ?_) (fun hc => ?_) <;> (try (exfalso; omega))) | (with_reducible apply WP_skip) | (with_reducible apply WP_block) | (with_reducible apply WP_exit) | (with_reducible apply WP_ret)) | (refine Zhn ?_) | (with_reducible apply QBlock_normal) | (refine Zhx ?_) | (with_reducible apply QBlock_hit) | (refine Zqb ?_) | (with_reducible apply QLoop_exit) | (refine Zhr ?_) | (with_reducible apply QBlock_ret) | (with_reducible apply QLoop_ret))
          exact QBody_ret1 rfl (rfl : _ = Value.bool _) ⟨rfl, (by repeat (first | exact Wk.refl _ | apply Wk.keep1 | apply Wk.drop | apply Wk.sv | apply Wk.svD | apply Wk.appD))⟩
theorem whose_all (L : Hp) (g : Fg) (hA : BkAt N w0 g) (a : Nat) (ha8 : a ≤ 255) (b : Nat) (hb8 : b ≤ 255) : Ret Try.prog N w0 L 7 [bkV g, .int .u8 (a : Int), .int .u8 (b : Int)].toArray (.bool true) := by
  cases hvb : vB g.d with
  | false => exact whose_law0 N w0 L g hA a b (.inr hvb)
  | true => exact whose_law1 N w0 L g hA a b ha8 hb8 hvb
end
end Go.Proofs.Ytakmopiceopcpaa
end
