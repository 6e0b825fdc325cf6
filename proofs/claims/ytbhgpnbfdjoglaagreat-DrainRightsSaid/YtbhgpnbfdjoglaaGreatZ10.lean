/- The law DrainRights: its walk. -/
import Derived.Test.YtbhgpnbfdjoglaaGreatZ9
import Derived.Test.YtbhgpnbfdjoglaaGreatC3
section
namespace Go.Proofs.YtbhgpnbfdjoglaaGreat
open Go.RowKit
attribute [local irreducible] AnyO AnyB QAny QB EWalk AWalk Ev WP OPS QThen QBlock QScope QLoop QBody Val New Turn Tri Enters PostA Blk Ro
attribute [local irreducible] AnyC QC
section
variable (N : Nat) (w0 : World)
theorem heavy_ret (L : Hp) (g : Fg) (hA : DrAt N w0 g) : Ret Tryz.prog N w0 L 15 [drV g, .int .i64 5].toArray (.bool (farB g.d || (vB g.d && decide (5 < g.d.ways.length)))) := by
  have h28 := fun L => long_ret N w0 L g
  refine Ret.fgt ?_
  refine tri_of_WP Tryz.func15 rfl (n := _) rfl (by simp) ?_
  cases hf : farB g.d with
  | true =>
    rw [hf] at h28
    unfold drV drL at h28 ⊢
    repeat' (first | (refine GiP ?_; first | (refine Znh ?_) | (with_reducible refine Znl ?_) | (refine Zatd 17 ?_; (first | (refine Zv Zxpt ?_) | (refine Zv Zxpf ?_)); refine Zv Zab ?_) | (refine Zatd 8 ?_; first | refine Zsk ?_ | (refine Zv Zla ?_)) | (refine Zatd 10 ?_; first | refine Zsk ?_ | (refine Zv Zmb ?_)) | (refine Zatd 11 ?_; first | refine Zsk ?_ | (refine Zv Zfa ?_)) | (refine Zatd 12 ?_; first | refine Zsk ?_ | (refine Zv Zld ?_)) | (refine Zatd 13 ?_; first | refine Zsk ?_ | (refine Zv Zxlen ?_)) | (refine Zatd 14 ?_; first | refine Zsk ?_ | (refine Zv Zmi ?_)) | (refine Zatd 15 ?_; first | refine Zsk ?_ | (refine Zv Zygtr ?_)) | (refine Zatd 16 ?_; first | refine Zsk ?_ | (refine Zv Zxpt ?_) | (refine Zv Zxpf ?_)) | (refine Zsk ?_) | (refine Zsp (fun hc => ?_) (fun hc => ?_) <;> (try (exfalso; omega)))) | (refine GiW ?_; first | (refine Zsq fun K hK => ?_) | (refine ZrN 0 fun _ => ?_; refine Zal 2 fun b2 => ?_; refine Zv Zab ?_) | (refine ZrG 1 ?_; refine Zv Zla ?_; refine Zcl (Enters_fn rfl) (h28 _) ?_; refine Zv Zmb ?_) | (with_reducible apply WP_ret)) | (refine Zhn ?_) | (refine Zhr ?_))
    exact QBody_ret1 rfl (rfl : _ = Value.bool _) ⟨by simp, (by repeat (first | exact Wk.refl _ | apply Wk.keep1 | apply Wk.drop | apply Wk.sv | apply Wk.svD | apply Wk.appD))⟩
  | false =>
    rw [hf] at h28
    have h29 := fun L => rDrain_ret N w0 L g hA hf
    cases hv : vB g.d with
    | false =>
      rw [hv] at h29
      unfold drV drL at h28 h29 ⊢
      repeat' (first | (refine GiP ?_; first | (refine Znh ?_) | (with_reducible refine Znl ?_) | (refine Zatd 17 ?_; (first | (refine Zv Zxpt ?_) | (refine Zv Zxpf ?_)); refine Zv Zab ?_) | (refine Zatd 8 ?_; first | refine Zsk ?_ | (refine Zv Zla ?_)) | (refine Zatd 9 ?_; first | refine Zsk ?_ | (refine Zcl (Enters_fn rfl) (h29 _) ?_)) | (refine Zatd 10 ?_; first | refine Zsk ?_ | (refine Zv Zmb ?_)) | (refine Zatd 11 ?_; first | refine Zsk ?_ | (refine Zv Zfa ?_)) | (refine Zatd 12 ?_; first | refine Zsk ?_ | (refine Zv Zld ?_)) | (refine Zatd 13 ?_; first | refine Zsk ?_ | (refine Zv Zxlen ?_)) | (refine Zatd 14 ?_; first | refine Zsk ?_ | (refine Zv Zmi ?_)) | (refine Zatd 15 ?_; first | refine Zsk ?_ | (refine Zv Zygtr ?_)) | (refine Zatd 16 ?_; first | refine Zsk ?_ | (refine Zv Zxpt ?_) | (refine Zv Zxpf ?_)) | (refine Zsk ?_) | (refine Zsp (fun hc => ?_) (fun hc => ?_) <;> (try (exfalso; omega)))) | (refine GiW ?_; first | (refine Zsq fun K hK => ?_) | (refine ZrN 0 fun _ => ?_; refine Zal 2 fun b2 => ?_; refine Zv Zab ?_) | (refine ZrG 1 ?_; refine Zv Zla ?_; refine Zcl (Enters_fn rfl) (h28 _) ?_; refine Zv Zmb ?_) | (with_reducible apply WP_ret)) | (refine Zhn ?_) | (refine Zhr ?_))
      exact QBody_ret1 rfl (rfl : _ = Value.bool _) ⟨by simp, (by repeat (first | exact Wk.refl _ | apply Wk.keep1 | apply Wk.drop | apply Wk.sv | apply Wk.svD | apply Wk.appD))⟩
    | true =>
      rw [hv] at h29
      unfold drV drL at h28 h29 ⊢
      by_cases h5 : 5 < g.d.ways.length
      all_goals
        repeat' (first | (refine GiP ?_; first | (refine Znh ?_) | (with_reducible refine Znl ?_) | (refine Zatd 17 ?_; (first | (refine Zv Zxpt ?_) | (refine Zv Zxpf ?_)); refine Zv Zab ?_) | (refine Zatd 8 ?_; first | refine Zsk ?_ | (refine Zv Zla ?_)) | (refine Zatd 9 ?_; first | refine Zsk ?_ | (refine Zcl (Enters_fn rfl) (h29 _) ?_)) | (refine Zatd 10 ?_; first | refine Zsk ?_ | (refine Zv Zmb ?_)) | (refine Zatd 11 ?_; first | refine Zsk ?_ | (refine Zv Zfa ?_)) | (refine Zatd 12 ?_; first | refine Zsk ?_ | (refine Zv Zld ?_)) | (refine Zatd 13 ?_; first | refine Zsk ?_ | (refine Zv Zxlen ?_)) | (refine Zatd 14 ?_; first | refine Zsk ?_ | (refine Zv Zmi ?_)) | (refine Zatd 15 ?_; first | refine Zsk ?_ | (refine Zv Zygtr ?_)) | (refine Zatd 16 ?_; first | refine Zsk ?_ | (refine Zv Zxpt ?_) | (refine Zv Zxpf ?_)) | (refine Zsk ?_) | (refine Zsp (fun hc => ?_) (fun hc => ?_) <;> (try (exfalso; omega)))) | (refine GiW ?_; first | (refine Zsq fun K hK => ?_) | (refine ZrN 0 fun _ => ?_; refine Zal 2 fun b2 => ?_; refine Zv Zab ?_) | (refine ZrG 1 ?_; refine Zv Zla ?_; refine Zcl (Enters_fn rfl) (h28 _) ?_; refine Zv Zmb ?_) | (with_reducible apply WP_ret)) | (refine Zhn ?_) | (refine Zhr ?_))
        exact QBody_ret1 rfl (rfl : _ = Value.bool _) ⟨by simp [h5], (by repeat (first | exact Wk.refl _ | apply Wk.keep1 | apply Wk.drop | apply Wk.sv | apply Wk.svD | apply Wk.appD))⟩
set_option maxHeartbeats 4000000 in
theorem rights_end (L : Hp) (g : Fg) (hA : DrAt N w0 g) (a : Int) (_ : (Lit.int .i64 a).wf = true) (b : Int) (_ : (Lit.int .i64 b).wf = true) : Ret Tryz.prog N w0 L 4 [drV g, .int .i64 a, .int .i64 b].toArray (.bool true) := by
  have h28 := fun L => heavy_ret N w0 L g hA
  have h13 := fun L => alive_ret N w0 L
  obtain ⟨hv, hhv⟩ : ∃ u, (farB g.d || (vB g.d && decide (5 < g.d.ways.length))) = u := ⟨_, rfl⟩
  rw [hhv] at h28
  cases hv with
  | true =>
    refine Ret.fgt ?_
    refine tri_of_WP Tryz.func4 rfl (n := _) rfl (by simp) ?_
    unfold drV drL at h28 ⊢
    repeat' (first | (refine GiP ?_; first | (refine Znh ?_) | (with_reducible refine Znl ?_)) | (refine GiW ?_; first | (refine Zsq fun K hK => ?_) | (refine ZrN 0 fun _ => ?_; refine Zal 3 fun b3 => ?_; refine Zv Zab ?_) | (refine ZrN 1 fun _ => ?_; refine Zv Zla ?_; refine Zcl (Enters_fn rfl) (h28 _) ?_) | (refine ZrN 2 fun _ => ?_; refine Zcl (Enters_fn rfl) (h13 _) ?_; refine Zv Zab ?_) | (refine WP_cond_true rfl ?_) | (refine WP_cond_false rfl ?_) | (refine Zcd (fun hc => ?_) (fun hc => ?_) <;> (try (exfalso; omega))) | (with_reducible apply WP_skip) | (with_reducible apply WP_ret)) | (refine Zhn ?_) | (refine Zhr ?_))
    exact QBody_ret1 rfl (rfl : _ = Value.bool _) ⟨rfl, (by repeat (first | exact Wk.refl _ | apply Wk.keep1 | apply Wk.drop | apply Wk.sv | apply Wk.svD | apply Wk.appD))⟩
  | false =>
    have hf : farB g.d = false := by
      rw [Bool.or_eq_false_iff] at hhv; exact hhv.1
    have p1 := fun L => Breaks_ret N w0 L g hA
    have p2 := fun L => Dig_ret N w0 L g hA a b
    have p3 := fun L => Stop_ret N w0 L g hA
    have p4 := fun L => Clash_ret N w0 L g hA
    have q1 := fun L => rBreaks_ret N w0 L g hA hf
    have q2 := fun L => rDig_ret N w0 L g hA hf a b
    have q3 := fun L => rStop_ret N w0 L g hA hf
    have q4 := fun L => rClash_ret N w0 L g hA hf
    obtain ⟨v1, e1⟩ : ∃ v, SureV g.d = v := ⟨_, rfl⟩
    obtain ⟨v2, e2⟩ : ∃ v, PerhV g.d = v := ⟨_, rfl⟩
    obtain ⟨v3, e3⟩ : ∃ v, DigV g.d a b = v := ⟨_, rfl⟩
    obtain ⟨v4, e4⟩ : ∃ v, DigE g.d a b = v := ⟨_, rfl⟩
    obtain ⟨v5, e5⟩ : ∃ v, StopN g.d = v := ⟨_, rfl⟩
    obtain ⟨v6, e6⟩ : ∃ v, StopV g.d = v := ⟨_, rfl⟩
    obtain ⟨v7, e7⟩ : ∃ v, ClashV g.d = v := ⟨_, rfl⟩
    obtain ⟨v8, e8⟩ : ∃ v, ClashE g.d = v := ⟨_, rfl⟩
    obtain ⟨v9, e9⟩ : ∃ v, errD g.d true = v := ⟨_, rfl⟩
    rw [e1, e2, e9] at p1 q1
    rw [e3, e4] at p2 q2
    rw [e5, e6, e9] at p3 q3
    rw [e7, e8] at p4 q4
    clear e1 e2 e3 e4 e5 e6 e7 e8 e9
    refine Ret.fgt ?_
    refine tri_of_WP Tryz.func4 rfl (n := _) rfl (by simp) ?_
    unfold drV drL at h28 p1 p2 p3 p4 q1 q2 q3 q4 ⊢
    repeat' (first | (refine GiP ?_; first | (refine Znh ?_) | (with_reducible refine Znl ?_) | (refine Zatd 85 ?_; (first | (refine Zv Zxpt ?_) | (refine Zv Zxpf ?_)); refine Zv Zmb ?_) | (refine Zatd 90 ?_; (first | (refine Zv Zxpt ?_) | (refine Zv Zxpf ?_)); refine Zv Zmb ?_) | (refine Zatd 95 ?_; (first | (refine Zv Zxpt ?_) | (refine Zv Zxpf ?_)); refine Zv Zmb ?_) | (refine Zatd 100 ?_; (first | (refine Zv Zxpt ?_) | (refine Zv Zxpf ?_)); refine Zv Zmb ?_) | (refine Zatd 105 ?_; (first | (refine Zv Zxpt ?_) | (refine Zv Zxpf ?_)); refine Zv Zmb ?_) | (refine Zatd 110 ?_; (first | (refine Zv Zxpt ?_) | (refine Zv Zxpf ?_)); refine Zv Zmb ?_) | (refine Zatd 115 ?_; (first | (refine Zv Zxpt ?_) | (refine Zv Zxpf ?_)); refine Zv Zmb ?_) | (refine Zatd 120 ?_; (first | (refine Zv Zxpt ?_) | (refine Zv Zxpf ?_)); refine Zv Zmb ?_) | (refine Zatd 125 ?_; (first | (refine Zv Zxpt ?_) | (refine Zv Zxpf ?_)); refine Zv Zmb ?_) | (refine Zatd 128 ?_; (first | (refine Zv Zxpt ?_) | (refine Zv Zxpf ?_)); refine Zv Zab ?_) | (refine Zatd 82 ?_; first | refine Zsk ?_ | (refine Zv Zmi ?_)) | (refine Zatd 83 ?_; first | refine Zsk ?_ | (refine Zv Zmi ?_)) | (refine Zatd 84 ?_; first | refine Zsk ?_ | (refine Zv (Zyeql) ?_)) | (refine Zatd 87 ?_; first | refine Zsk ?_ | (refine Zv Zmi ?_)) | (refine Zatd 88 ?_; first | refine Zsk ?_ | (refine Zv Zmi ?_)) | (refine Zatd 89 ?_; first | refine Zsk ?_ | (refine Zv (Zyeql) ?_)) | (refine Zatd 92 ?_; first | refine Zsk ?_ | (refine Zv Zmi ?_)) | (refine Zatd 93 ?_; first | refine Zsk ?_ | (refine Zv Zmi ?_)) | (refine Zatd 94 ?_; first | refine Zsk ?_ | (refine Zv (Zyeql) ?_)) | (refine Zatd 97 ?_; first | refine Zsk ?_ | (refine Zv Zmi ?_)) | (refine Zatd 98 ?_; first | refine Zsk ?_ | (refine Zv Zmi ?_)) | (refine Zatd 99 ?_; first | refine Zsk ?_ | (refine Zv (Zyeql) ?_)) | (refine Zatd 102 ?_; first | refine Zsk ?_ | (refine Zv Zmi ?_)) | (refine Zatd 103 ?_; first | refine Zsk ?_ | (refine Zv Zmi ?_)) | (refine Zatd 104 ?_; first | refine Zsk ?_ | (refine Zv (Zyeql) ?_)) | (refine Zatd 107 ?_; first | refine Zsk ?_ | (refine Zv Zmi ?_)) | (refine Zatd 108 ?_; first | refine Zsk ?_ | (refine Zv Zmi ?_)) | (refine Zatd 109 ?_; first | refine Zsk ?_ | (refine Zv (Zyeql) ?_)) | (refine Zatd 112 ?_; first | refine Zsk ?_ | (refine Zv Zmi ?_)) | (refine Zatd 113 ?_; first | refine Zsk ?_ | (refine Zv Zmi ?_)) | (refine Zatd 114 ?_; first | refine Zsk ?_ | (refine Zv (Zyeql) ?_)) | (refine Zatd 117 ?_; first | refine Zsk ?_ | (refine Zv Zmi ?_)) | (refine Zatd 118 ?_; first | refine Zsk ?_ | (refine Zv Zmi ?_)) | (refine Zatd 119 ?_; first | refine Zsk ?_ | (refine Zv (Zyeql) ?_)) | (refine Zatd 122 ?_; first | refine Zsk ?_ | (refine Zv Zmi ?_)) | (refine Zatd 123 ?_; first | refine Zsk ?_ | (refine Zv Zmi ?_)) | (refine Zatd 124 ?_; first | refine Zsk ?_ | (refine Zv (Zyeql) ?_)) | (refine Zatd 127 ?_; first | refine Zsk ?_ | (refine Zcl (Enters_fn rfl) (h13 _) ?_)) | (refine Zsk ?_) | (refine Zsp (fun hc => ?_) (fun hc => ?_) <;> (try (exfalso; omega)))) | (refine GiW ?_; first | (refine Zsq fun K hK => ?_) | (refine ZrN 0 fun _ => ?_; refine Zal 3 fun b3 => ?_; refine Zv Zab ?_) | (refine ZrN 1 fun _ => ?_; refine Zv Zla ?_; refine Zcl (Enters_fn rfl) (h28 _) ?_) | (refine ZrN 3 fun _ => ?_; refine Zv Zla ?_; refine Zcl (Enters_fn rfl) (p1 _) ?_; refine Zv Zmv ?_; refine Zv Zxex ?_; refine Zv Zxex ?_; refine Zv Zxex ?_; refine Zv Zai ?_; refine Zv Zai ?_; refine Zv Zai ?_) | (refine ZrN 4 fun _ => ?_; refine Zv Zla ?_; refine Zcl (Enters_fn rfl) (q1 _) ?_; refine Zv Zmv ?_; refine Zv Zxex ?_; refine Zv Zxex ?_; refine Zv Zxex ?_; refine Zv Zai ?_; refine Zv Zai ?_; refine Zv Zai ?_) | (refine ZrN 5 fun _ => ?_; refine Zv Zla ?_; refine Zv Zmi ?_; refine Zv Zmi ?_; refine Zcl (Enters_fn rfl) (p2 _) ?_; refine Zv Zmv ?_; refine Zv Zxex ?_; refine Zv Zxex ?_; refine Zv Zai ?_; refine Zv Zai ?_) | (refine ZrN 6 fun _ => ?_; refine Zv Zla ?_; refine Zv Zmi ?_; refine Zv Zmi ?_; refine Zcl (Enters_fn rfl) (q2 _) ?_; refine Zv Zmv ?_; refine Zv Zxex ?_; refine Zv Zxex ?_; refine Zv Zai ?_; refine Zv Zai ?_) | (refine ZrN 7 fun _ => ?_; refine Zv Zla ?_; refine Zcl (Enters_fn rfl) (p3 _) ?_; refine Zv Zmv ?_; refine Zv Zxex ?_; refine Zv Zxex ?_; refine Zv Zxex ?_; refine Zv Zai ?_; refine Zv Zai ?_; refine Zv Zai ?_) | (refine ZrN 8 fun _ => ?_; refine Zv Zla ?_; refine Zcl (Enters_fn rfl) (q3 _) ?_; refine Zv Zmv ?_; refine Zv Zxex ?_; refine Zv Zxex ?_; refine Zv Zxex ?_; refine Zv Zai ?_; refine Zv Zai ?_; refine Zv Zai ?_) | (refine ZrN 9 fun _ => ?_; refine Zv Zla ?_; refine Zcl (Enters_fn rfl) (p4 _) ?_; refine Zv Zmv ?_; refine Zv Zxex ?_; refine Zv Zxex ?_; refine Zv Zai ?_; refine Zv Zai ?_) | (refine ZrN 10 fun _ => ?_; refine Zv Zla ?_; refine Zcl (Enters_fn rfl) (q4 _) ?_; refine Zv Zmv ?_; refine Zv Zxex ?_; refine Zv Zxex ?_; refine Zv Zai ?_; refine Zv Zai ?_) | (refine ZrG 11 ?_; refine Zv Zmi ?_; refine Zv Zmi ?_; refine Zv (Zyeql) ?_; refine Zv Zmb ?_) | (refine WP_cond_true rfl ?_) | (refine WP_cond_false rfl ?_) | (refine Zcd (fun hc => ?_) (fun hc => ?_) <;> (try (exfalso; omega))) | (with_reducible apply WP_skip) | (with_reducible apply WP_ret)) | (refine Zhn ?_) | (refine Zhr ?_))
    all_goals exact QBody_ret1 rfl (rfl : _ = Value.bool _) ⟨rfl, (by repeat (first | exact Wk.refl _ | apply Wk.keep1 | apply Wk.drop | apply Wk.sv | apply Wk.svD | apply Wk.appD))⟩
end
end Go.Proofs.YtbhgpnbfdjoglaaGreat
end
