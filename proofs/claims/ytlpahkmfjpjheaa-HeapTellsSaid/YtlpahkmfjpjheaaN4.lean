/- The law HeapTells: its walk. -/
import Derived.Test.YtlpahkmfjpjheaaN3
import Derived.Test.YtlpahkmfjpjheaaN1
section
namespace Go.Proofs.Ytlpahkmfjpjheaa
open Go.RowKit
theorem WetV_sm (h : Hv) (i d : Int) : P1000 (WetV h i d).1 ∧ P1000 (WetV h i d).2 := by
  unfold WetV
  split
  · rename_i he
    exact wetS_sm (VH_of (errE_zero he).1) _ _
  · unfold P1000; dsimp only; omega
theorem RainV_sm (h : Hv) (d : Int) : P1000 (RainV h d).1 ∧ P1000 (RainV h d).2 := by
  unfold RainV
  split
  · rename_i he
    obtain ⟨hvb, hok, h0⟩ := errE_zero he
    have hv := VH_of hvb
    unfold DayOk at hok
    obtain ⟨k, rfl, hk⟩ := within_nat hok
    rw [Int.toNat_natCast]
    have hH := rainS_hull hv h0 hk
    have key : ∀ v, RainP h k v → P1000 v := by
      rintro v ⟨r, hr, hrk⟩
      have h3 := hr.1.2 k _ _ (List.getElem?_eq_getElem hk) hrk
      have h4 := hv.rn _ (List.getElem_mem hk)
      unfold P1000; omega
    exact ⟨key _ hH.1, key _ hH.2.1⟩
  · unfold P1000; dsimp only; omega
attribute [local irreducible] AnyO AnyB QAny QB EWalk AWalk Ev WP OPS QThen QBlock QScope QLoop QBody Val New Turn Tri Enters PostA Blk Ro
attribute [local irreducible] AnyC QC
section
variable (N : Nat) (w0 : World)
theorem heavy12_tri (L : Hp) (g : Bg) (hA : HeapAt N w0 g) (ways : Int) (hlong : longB g.h = false) : Tri Try.prog N w0 L 12 [heapV g, .int .i64 ways].toArray fun x L' => ∃ v, x = .returned v ∧ ∃ b, v = .bool b ∧ L' = L := by
  cases hvb : vB g.h with
  | false =>
    refine (heavy12_bad N w0 L g hA ways hlong hvb).mono ?_
    rintro x L' ⟨rfl, rfl⟩
    exact ⟨_, rfl, false, rfl, rfl⟩
  | true =>
    refine (heavy12_ok N w0 L g hA ways hlong hvb).mono ?_
    rintro x L' ⟨b, rfl, rfl⟩
    exact ⟨_, rfl, b, rfl, rfl⟩
set_option maxRecDepth 100000 in
set_option maxHeartbeats 4000000 in
theorem tells_law0 (L : Hp) (g : Bg) (number day : Int) (hlong : longB g.h = true) : Ret Try.prog N w0 L 3 [heapV g, .int .i64 number, .int .i64 day].toArray (.bool true) := by
  have h12 := fun L => heavy12_long N w0 L g 1500 hlong
  have h13 := fun L => alive_ret N w0 L
  refine Ret.fgt ?_
  refine tri_of_WP Try.func3 rfl (n := 176) rfl (by simp) ?_
  unfold heapV hvL at h12 ⊢
  repeat' (first | (refine GiP ?_; first | (refine Znh ?_) | (with_reducible refine Znl ?_)) | (refine GiW ?_; first | (refine Zsq fun K hK => ?_) | (refine ZrN 0 fun _ => ?_; refine Zal 3 fun b3 => ?_; refine Zv Zab ?_) | (refine ZrN 1 fun _ => ?_; refine Zv Zla ?_; refine Zcl (Enters_fn rfl) (h12 _) ?_) | (refine ZrN 2 fun _ => ?_; refine Zcl (Enters_fn rfl) (h13 _) ?_; refine Zv Zab ?_) | (refine WP_cond_true rfl ?_) | (refine WP_cond_false rfl ?_) | (refine Zcd (fun hc => ?_) (fun hc => ?_) <;> (try (exfalso; omega))) | (with_reducible apply WP_skip) | (with_reducible apply WP_ret)) | (refine Zhn ?_) | (refine Zhr ?_))
  exact QBody_ret1 rfl (rfl : _ = Value.bool _) ⟨rfl, (by repeat (first | exact Wk.refl _ | apply Wk.keep1 | apply Wk.drop | apply Wk.sv | apply Wk.svD | apply Wk.appD))⟩
set_option maxRecDepth 100000 in
set_option maxHeartbeats 16000000 in
theorem tells_law1 (L : Hp) (g : Bg) (hA : HeapAt N w0 g) (number day : Int) (hlong : longB g.h = false) : Ret Try.prog N w0 L 3 [heapV g, .int .i64 number, .int .i64 day].toArray (.bool true) := by
  obtain ⟨l1, l2, l3⟩ := longB_ok hlong
  have h12 := fun L => heavy12_tri N w0 L g hA 1500 hlong
  have h13 := fun L => alive_ret N w0 L
  have h14 := fun L => Wet_ret N w0 L g hA number day
  have h15 := fun L => wet15_ret N w0 L g hA (by omega) (by omega) (by omega) number day
  have h16 := fun L => Rain_ret N w0 L g hA day
  have h17 := fun L => rain17_ret N w0 L g hA (by omega) (by omega) (by omega) day
  have h18 := fun L => Dry_ret N w0 L g hA number day
  have h19 := fun L => dry19_ret N w0 L g hA (by omega) (by omega) (by omega) number day
  have h20 := fun L => When_ret N w0 L g hA number
  have h21 := fun L => when21_ret N w0 L g hA (by omega) (by omega) (by omega) number
  have h22 := fun L => All_ret N w0 L g hA
  have h23 := fun L => all23_ret N w0 L g hA (by omega) (by omega) (by omega)
  have h24 := fun L => Doubt_ret N w0 L g hA day
  have h25 := fun L => doubt25_ret N w0 L g hA (by omega) (by omega) (by omega) day
  have sm1 := WetV_sm g.h number day
  have sm2 := RainV_sm g.h day
  unfold P1000 at sm1 sm2
  obtain ⟨⟨a1, a2⟩, ha⟩ : ∃ s, WetV g.h number day = s := ⟨_, rfl⟩
  obtain ⟨⟨c1, c2⟩, hc⟩ : ∃ s, RainV g.h day = s := ⟨_, rfl⟩
  obtain ⟨⟨d1, d2⟩, hd⟩ : ∃ s, DoubtV g.h day = s := ⟨_, rfl⟩
  obtain ⟨e1, he1⟩ : ∃ s, errE g.h (WetOk g.h number day) = s := ⟨_, rfl⟩
  obtain ⟨e2, he2⟩ : ∃ s, errE g.h (DayOk g.h day) = s := ⟨_, rfl⟩
  obtain ⟨k, hk⟩ : ∃ s, DryV g.h number day = s := ⟨_, rfl⟩
  obtain ⟨m, hm⟩ : ∃ s, WhenV g.h number = s := ⟨_, rfl⟩
  obtain ⟨n, hn⟩ : ∃ s, WhenE g.h number = s := ⟨_, rfl⟩
  obtain ⟨p, hp⟩ : ∃ s, AllV g.h = s := ⟨_, rfl⟩
  obtain ⟨q, hq⟩ : ∃ s, AllE g.h = s := ⟨_, rfl⟩
  rw [ha] at h14 h15 sm1
  rw [he1] at h14 h15 h18 h19
  rw [hc] at h16 h17 sm2
  rw [he2] at h16 h17 h24 h25
  rw [hk] at h18 h19
  rw [hm, hn] at h20 h21
  rw [hp, hq] at h22 h23
  rw [hd] at h24 h25
  dsimp only at h14 h15 h16 h17 h24 h25 sm1 sm2
  clear ha hc hd he1 he2 hk hm hn hp hq
  refine Ret.fgt ?_
  refine tri_of_WP Try.func3 rfl (n := 176) rfl (by simp) ?_
  unfold heapV hvL at h12 h14 h15 h16 h17 h18 h19 h20 h21 h22 h23 h24 h25 ⊢
  repeat' (first | (refine GiP ?_; first | (refine Znh ?_) | (with_reducible refine Znl ?_)) | (refine GiW ?_; first | (refine Zsq fun K hK => ?_) | (refine ZrN 0 fun _ => ?_; refine Zal 3 fun b3 => ?_; refine Zv Zab ?_) | (refine ZrN 1 fun _ => ?_; refine Zv Zla ?_; refine OPS_retKS (Enters_fn rfl) (h12 _) rfl rfl rfl (fun v34 L34 h34 => ?_); obtain ⟨b, rfl, rfl⟩ := h34; cases b) | (refine WP_cond_true rfl ?_) | (refine WP_cond_false rfl ?_) | (refine Zcd (fun hc => ?_) (fun hc => ?_) <;> (try (exfalso; omega))) | (with_reducible apply WP_skip) | (with_reducible apply WP_ret)) | (refine Zhn ?_) | (refine Zhr ?_))
  · repeat' (first | (refine GiP ?_; first | (refine Znh ?_) | (with_reducible refine Znl ?_) | (refine Zatd 83 ?_; (first | (refine Zv Zxpt ?_) | (refine Zv Zxpf ?_)); refine Zv Zmb ?_) | (refine Zatd 88 ?_; (first | (refine Zv Zxpt ?_) | (refine Zv Zxpf ?_)); refine Zv Zmb ?_) | (refine Zatd 93 ?_; (first | (refine Zv Zxpt ?_) | (refine Zv Zxpf ?_)); refine Zv Zmb ?_) | (refine Zatd 98 ?_; (first | (refine Zv Zxpt ?_) | (refine Zv Zxpf ?_)); refine Zv Zmb ?_) | (refine Zatd 103 ?_; (first | (refine Zv Zxpt ?_) | (refine Zv Zxpf ?_))) | (refine Zatd 147 ?_; (first | (refine Zv Zxpt ?_) | (refine Zv Zxpf ?_)); refine Zv Zmb ?_) | (refine Zatd 152 ?_; (first | (refine Zv Zxpt ?_) | (refine Zv Zxpf ?_)); refine Zv Zmb ?_) | (refine Zatd 157 ?_; (first | (refine Zv Zxpt ?_) | (refine Zv Zxpf ?_)); refine Zv Zmb ?_) | (refine Zatd 162 ?_; (first | (refine Zv Zxpt ?_) | (refine Zv Zxpf ?_)); refine Zv Zmb ?_) | (refine Zatd 167 ?_; (first | (refine Zv Zxpt ?_) | (refine Zv Zxpf ?_)); refine Zv Zmb ?_) | (refine Zatd 172 ?_; (first | (refine Zv Zxpt ?_) | (refine Zv Zxpf ?_)); refine Zv Zmb ?_) | (refine Zatd 175 ?_; (first | (refine Zv Zxpt ?_) | (refine Zv Zxpf ?_)); refine Zv Zab ?_) | (refine Zatd 80 ?_; refine Zv Zmi ?_) | (refine Zatd 81 ?_; refine Zv Zmi ?_) | (refine Zatd 82 ?_; refine Zv (Val_neqS rfl rfl rfl rfl (by omega) (by omega)) ?_) | (refine Zatd 82 ?_; refine Zv (Zyneq) ?_) | (refine Zatd 85 ?_; refine Zv Zla ?_) | (refine Zatd 86 ?_; refine Zv Zla ?_) | (refine Zatd 87 ?_; refine Zv (Val_neqS rfl rfl rfl rfl (by omega) (by omega)) ?_) | (refine Zatd 87 ?_; refine Zv (Zyneq) ?_) | (refine Zatd 90 ?_; refine Zv Zmi ?_) | (refine Zatd 91 ?_; refine Zv Zmi ?_) | (refine Zatd 92 ?_; refine Zv (Val_neqS rfl rfl rfl rfl (by omega) (by omega)) ?_) | (refine Zatd 92 ?_; refine Zv (Zyneq) ?_) | (refine Zatd 95 ?_; refine Zv Zmi ?_) | (refine Zatd 96 ?_; refine Zv Zmi ?_) | (refine Zatd 97 ?_; refine Zv (Val_neqS rfl rfl rfl rfl (by omega) (by omega)) ?_) | (refine Zatd 97 ?_; refine Zv (Zyneq) ?_) | (refine Zatd 100 ?_; refine Zv Zmi ?_) | (refine Zatd 101 ?_; refine Zv Zmi ?_) | (refine Zatd 102 ?_; refine Zv (Val_neqS rfl rfl rfl rfl (by omega) (by omega)) ?_) | (refine Zatd 102 ?_; refine Zv (Zyneq) ?_) | (refine Zatd 144 ?_; refine Zv Zmi ?_) | (refine Zatd 145 ?_; refine Zv Zmi ?_) | (refine Zatd 146 ?_; refine Zv Zyeql ?_) | (refine Zatd 149 ?_; refine Zv Zmi ?_) | (refine Zatd 150 ?_; refine Zv Zmi ?_) | (refine Zatd 151 ?_; refine Zv Zyeql ?_) | (refine Zatd 154 ?_; refine Zv Zmi ?_) | (refine Zatd 155 ?_; refine Zv Zmi ?_) | (refine Zatd 156 ?_; refine Zv Zyeql ?_) | (refine Zatd 159 ?_; refine Zv Zmi ?_) | (refine Zatd 160 ?_; refine Zv Zmi ?_) | (refine Zatd 161 ?_; refine Zv Zyeql ?_) | (refine Zatd 164 ?_; refine Zv Zmi ?_) | (refine Zatd 165 ?_; refine Zv Zmi ?_) | (refine Zatd 166 ?_; refine Zv Zyeql ?_) | (refine Zatd 169 ?_; refine Zv Zmi ?_) | (refine Zatd 170 ?_; refine Zv Zmi ?_) | (refine Zatd 171 ?_; refine Zv Zyeql ?_) | (refine Zatd 174 ?_; refine Zcl (Enters_fn rfl) (h13 _) ?_) | (refine Zsk ?_) | (refine Zsp (fun hc => ?_) (fun hc => ?_) <;> (try (exfalso; omega)))) | (refine GiW ?_; first | (refine Zsq fun K hK => ?_) | (refine ZrN 3 fun _ => ?_; refine Zv Zla ?_; refine Zv Zmi ?_; refine Zv Zmi ?_; refine Zcl (Enters_fn rfl) (h14 _) ?_; refine Zv Zmv ?_; refine Zv Zxex ?_; refine Zv Zxex ?_; refine Zal 7 fun b7 => ?_; refine Zst ?_; refine Zv Zai ?_) | (refine ZrN 4 fun _ => ?_; refine Zv Zla ?_; refine Zv Zmi ?_; refine Zv Zmi ?_; refine Zcl (Enters_fn rfl) (h15 _) ?_; refine Zv Zmv ?_; refine Zv Zxex ?_; refine Zv Zxex ?_; refine Zal 9 fun b9 => ?_; refine Zst ?_; refine Zv Zai ?_) | (refine ZrN 5 fun _ => ?_; refine Zv Zla ?_; refine Zv Zmi ?_; refine Zcl (Enters_fn rfl) (h16 _) ?_; refine Zv Zmv ?_; refine Zv Zxex ?_; refine Zv Zxex ?_; refine Zal 11 fun b11 => ?_; refine Zst ?_; refine Zv Zai ?_) | (refine ZrN 6 fun _ => ?_; refine Zv Zla ?_; refine Zv Zmi ?_; refine Zcl (Enters_fn rfl) (h17 _) ?_; refine Zv Zmv ?_; refine Zv Zxex ?_; refine Zv Zxex ?_; refine Zal 13 fun b13 => ?_; refine Zst ?_; refine Zv Zai ?_) | (refine ZrN 7 fun _ => ?_; refine Zv Zla ?_; refine Zv Zmi ?_; refine Zv Zmi ?_; refine Zcl (Enters_fn rfl) (h18 _) ?_; refine Zv Zmv ?_; refine Zv Zxex ?_; refine Zv Zxex ?_; refine Zv Zai ?_; refine Zv Zai ?_) | (refine ZrN 8 fun _ => ?_; refine Zv Zla ?_; refine Zv Zmi ?_; refine Zv Zmi ?_; refine Zcl (Enters_fn rfl) (h19 _) ?_; refine Zv Zmv ?_; refine Zv Zxex ?_; refine Zv Zxex ?_; refine Zv Zai ?_; refine Zv Zai ?_) | (refine ZrG 9 ?_; refine Zv Zla ?_; refine Zv Zla ?_; (first | (refine Zv (Val_neqS rfl rfl rfl rfl (by omega) (by omega)) ?_) | (refine Zv (Zyneq) ?_)); refine Zv Zmb ?_) | (refine ZrN 11 fun _ => ?_; refine Zv Zla ?_; refine Zv Zmi ?_; refine Zcl (Enters_fn rfl) (h20 _) ?_; refine Zv Zmv ?_; refine Zv Zxex ?_; refine Zv Zxex ?_; refine Zv Zai ?_; refine Zv Zai ?_) | (refine ZrN 12 fun _ => ?_; refine Zv Zla ?_; refine Zv Zmi ?_; refine Zcl (Enters_fn rfl) (h21 _) ?_; refine Zv Zmv ?_; refine Zv Zxex ?_; refine Zv Zxex ?_; refine Zv Zai ?_; refine Zv Zai ?_) | (refine ZrN 13 fun _ => ?_; refine Zv Zla ?_; refine Zcl (Enters_fn rfl) (h22 _) ?_; refine Zv Zmv ?_; refine Zv Zxex ?_; refine Zv Zxex ?_; refine Zv Zai ?_; refine Zv Zai ?_) | (refine ZrN 14 fun _ => ?_; refine Zv Zla ?_; refine Zcl (Enters_fn rfl) (h23 _) ?_; refine Zv Zmv ?_; refine Zv Zxex ?_; refine Zv Zxex ?_; refine Zv Zai ?_; refine Zv Zai ?_) | (refine ZrN 15 fun _ => ?_; refine Zv Zla ?_; refine Zv Zmi ?_; refine Zcl (Enters_fn rfl) (h24 _) ?_; refine Zv Zmv ?_; refine Zv Zxex ?_; refine Zv Zxex ?_; refine Zv Zxex ?_; refine Zv Zai ?_; refine Zv Zai ?_; refine Zv Zai ?_) | (refine ZrN 16 fun _ => ?_; refine Zv Zla ?_; refine Zv Zmi ?_; refine Zcl (Enters_fn rfl) (h25 _) ?_; refine Zv Zmv ?_; refine Zv Zxex ?_; refine Zv Zxex ?_; refine Zv Zxex ?_; refine Zv Zai ?_; refine Zv Zai ?_; refine Zv Zai ?_) | (refine ZrG 17 ?_; refine Zv Zmi ?_; refine Zv Zmi ?_; refine Zv Zyeql ?_; refine Zv Zmb ?_) | (refine WP_cond_true rfl ?_) | (refine WP_cond_false rfl ?_) | (refine Zcd (fun hc => ?_) (fun hc => ?_) <;> (try (exfalso; omega))) | (with_reducible apply WP_skip) | (with_reducible apply WP_ret)) | (refine Zhn ?_) | (refine Zhr ?_))
    exact QBody_ret1 rfl (rfl : _ = Value.bool _) ⟨rfl, (by repeat (first | exact Wk.refl _ | apply Wk.keep1 | apply Wk.drop | apply Wk.sv | apply Wk.svD | apply Wk.appD))⟩
  · repeat' (first | (refine GiP ?_; first | (refine Znh ?_) | (with_reducible refine Znl ?_)) | (refine GiW ?_; first | (refine Zsq fun K hK => ?_) | (refine ZrN 2 fun _ => ?_; refine Zcl (Enters_fn rfl) (h13 _) ?_; refine Zv Zab ?_) | (refine WP_cond_true rfl ?_) | (refine WP_cond_false rfl ?_) | (refine Zcd (fun hc => ?_) (fun hc => ?_) <;> (try (exfalso; omega))) | (with_reducible apply WP_skip) | (with_reducible apply WP_ret)) | (refine Zhn ?_) | (refine Zhr ?_))
    exact QBody_ret1 rfl (rfl : _ = Value.bool _) ⟨rfl, (by repeat (first | exact Wk.refl _ | apply Wk.keep1 | apply Wk.drop | apply Wk.sv | apply Wk.svD | apply Wk.appD))⟩
end
end Go.Proofs.Ytlpahkmfjpjheaa
end
