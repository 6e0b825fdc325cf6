/- The law DrainEnds: its walk. -/
import Derived.Test.YtbhgpnbfdjoglaaE8
import Derived.Test.YtbhgpnbfdjoglaaC2
import Derived.Test.YtbhgpnbfdjoglaaC3
section
namespace Go.Proofs.Ytbhgpnbfdjoglaa
open Go.RowKit
attribute [local irreducible] AnyO AnyB QAny QB EWalk AWalk Ev WP OPS QThen QBlock QScope QLoop QBody Val New Turn Tri Enters PostA Blk Ro
attribute [local irreducible] AnyC QC
section
variable (N : Nat) (w0 : World)
theorem ends_law0 (L : Hp) (g : Fg) (hA : DrAt N w0 g) (a b : Nat) (h : farB g.d = true ∨ vB g.d = false) : Ret Try.prog N w0 L 5 [drV g, .int .u8 (a : Int), .int .u8 (b : Int)].toArray (.bool true) := by
  have h28 := fun L => long_ret N w0 L g
  have h13 := fun L => alive_ret N w0 L
  cases hf : farB g.d with
  | true =>
    rw [hf] at h28
    refine Ret.fgt ?_
    refine tri_of_WP Try.func5 rfl (n := _) rfl (by simp) ?_
    unfold drV drL at h28 ⊢
    repeat' (first | (refine Znh ?_) | (refine GiW ?_; first | (refine Zsq fun K hK => ?_) | (refine ZrN 0 fun _ => ?_; refine Zal 3 fun b3 => ?_; refine Zv Zab ?_) | (refine ZrN 1 fun _ => ?_; refine Zv Zla ?_; refine Zcl (Enters_fn rfl) (h28 _) ?_) | (refine ZrN 2 fun _ => ?_; refine Zcl (Enters_fn rfl) (h13 _) ?_; refine Zv Zab ?_) | (refine WP_cond_true rfl ?_) | (with_reducible apply WP_ret)) | (refine Zhr ?_))
    exact QBody_ret1 rfl (rfl : _ = Value.bool _) ⟨rfl, (by repeat (first | exact Wk.refl _ | apply Wk.keep1 | apply Wk.drop | apply Wk.sv | apply Wk.svD | apply Wk.appD))⟩
  | false =>
    have hvb : vB g.d = false := by rcases h with h | h; rw [h] at hf; cases hf; exact h
    have h29 := fun L => rDrain_in N w0 L g (DrainIn.at_ hA) hf
    have h24 := fun L => Next_in N w0 L g (DrainIn.at_ hA) 0
    have h26 := fun L => Stop_in N w0 L g (DrainIn.at_ hA)
    have he : ∀ ok, errD g.d ok = 1 := fun ok => by simp [errD, hvb]
    have z1 : NextV g.d 0 = 0 := by simp [NextV, he]
    rw [hf] at h28
    rw [hvb] at h29
    rw [he, z1] at h24
    rw [he] at h26
    refine Ret.fgt ?_
    refine tri_of_WP Try.func5 rfl (n := _) rfl (by simp) ?_
    unfold drV drL at h28 h29 h24 h26 ⊢
    repeat' (first | (refine GiP ?_; first | (refine Znh ?_) | (refine Zatd 63 ?_; (first | (refine Zv Zxpt ?_) | (refine Zv Zxpf ?_)); refine Zv Zmb ?_) | (refine Zatd 67 ?_; (first | (refine Zv Zxpt ?_) | (refine Zv Zxpf ?_)); refine Zv Zmb ?_) | (refine Zatd 70 ?_; (first | (refine Zv Zxpt ?_) | (refine Zv Zxpf ?_)); refine Zv Zab ?_) | (refine Zatd 60 ?_; first | refine Zsk ?_ | (refine Zv Zmi ?_)) | (refine Zatd 61 ?_; first | refine Zsk ?_ | (refine Zv Zmi ?_)) | (refine Zatd 62 ?_; first | refine Zsk ?_ | (refine Zv Zyeql ?_)) | (refine Zatd 65 ?_; first | refine Zsk ?_ | (refine Zv Zmi ?_)) | (refine Zatd 66 ?_; first | refine Zsk ?_ | (refine Zv Zyeql ?_)) | (refine Zatd 69 ?_; first | refine Zsk ?_ | (refine Zcl (Enters_fn rfl) (h13 _) ?_))) | (refine GiW ?_; first | (refine Zsq fun K hK => ?_) | (refine ZrN 0 fun _ => ?_; refine Zal 3 fun b3 => ?_; refine Zv Zab ?_) | (refine ZrN 1 fun _ => ?_; refine Zv Zla ?_; refine Zcl (Enters_fn rfl) (h28 _) ?_) | (refine ZrN 3 fun _ => ?_; refine Zv Zla ?_; refine Zcl (Enters_fn rfl) (h29 _) ?_; refine Zv Zxnot ?_) | (refine ZrN 4 fun _ => ?_; refine Zv Zla ?_; refine Zcl (Enters_fn rfl) (h24 _) ?_; refine Zv Zmv ?_; refine Zv Zxex ?_; refine Zv Zxex ?_; refine Zv Zai ?_; refine Zv Zai ?_) | (refine ZrN 5 fun _ => ?_; refine Zv Zla ?_; refine Zcl (Enters_fn rfl) (h26 _) ?_; refine Zv Zmv ?_; refine Zv Zxex ?_; refine Zv Zxex ?_; refine Zv Zxex ?_; refine Zv Zai ?_; refine Zv Zai ?_; refine Zv Zai ?_) | (refine ZrG 6 ?_; refine Zv Zmi ?_; refine Zv Zyeql ?_; refine Zv Zmb ?_) | (refine WP_cond_true rfl ?_) | (refine WP_cond_false rfl ?_) | (with_reducible apply WP_skip) | (with_reducible apply WP_ret)) | (refine Zhn ?_) | (refine Zhr ?_))
    exact QBody_ret1 rfl (rfl : _ = Value.bool _) ⟨rfl, (by repeat (first | exact Wk.refl _ | apply Wk.keep1 | apply Wk.drop | apply Wk.sv | apply Wk.svD | apply Wk.appD))⟩
/-- What is compared in the end. -/
theorem ends_fin {d : Dr} (v : VD d) {A C : Nat} (hA : A < d.banks.length) (hC : C < d.banks.length) : (someB d = true ∧ errD d true = 0 ∧ NextV d A = canK d A (rowsD d).length ∧ EndsV d A = lastK d A (rowsD d).length ∧ someK d (rowsD d).length = true ∧ WaterV d A = allK d A (rowsD d).length ∧ (A ≠ C → FlowV d A C = wentK d A C (rowsD d).length) ∧
      (0 ≤ (WaterV d A).1 ∧ (WaterV d A).1 ≤ 100 ∧ 0 ≤ (WaterV d A).2 ∧ (WaterV d A).2 ≤ 100) ∧ (0 ≤ (FlowV d A C).1 ∧ (FlowV d A C).1 ≤ 100 ∧ 0 ≤ (FlowV d A C).2 ∧ (FlowV d A C).2 ≤ 100)) ∨
    (someB d = false ∧ errD d true = 10 ∧ NextV d A = 0 ∧ EndsV d A = 0 ∧ someK d (rowsD d).length = false ∧ WaterV d A = (0, 0) ∧ FlowV d A C = (0, 0)) := by
  have hin : inN d.banks.length (A : Int) = true := by simp only [inN, decide_eq_true_eq]; omega
  have hvb := vB_of v
  cases h0 : someB d with
  | true =>
    left
    have he := errD_1 hvb rfl h0
    obtain ⟨f1, f2, f3, f4, f5, f6, f7⟩ := ends_facts (b := C) v h0 hA
    have e1 : NextV d A = nextS d A := by simp [NextV, hin, he]
    have e2 : EndsV d A = endsS d A := by simp [EndsV, hin, he]
    have e3 : WaterV d A = waterS d A := by simp [WaterV, hin, he]
    have e4 : A ≠ C → FlowV d A C = flowsS d A C := fun hne => by
      have htw : twoB d.banks.length (A : Int) (C : Int) = true := by
        simp only [twoB, inN, Bool.and_eq_true, decide_eq_true_eq]; omega
      simp [FlowV, htw, he]
    refine ⟨rfl, he, by rw [e1, f1], by rw [e2, f2], f3, by rw [e3, f4], fun h => by rw [e4 h, f5], by rw [e3]; exact f6, ?_⟩
    by_cases hne : A = C
    · have htw : twoB d.banks.length (A : Int) (C : Int) = false := by
        cases h : twoB d.banks.length (A : Int) (C : Int) with
        | false => rfl
        | true => simp only [twoB, Bool.and_eq_true, decide_eq_true_eq] at h; omega
      have : FlowV d A C = (0, 0) := by unfold FlowV; rw [htw, if_neg (errD_no (.inr rfl))]
      rw [this]; dsimp only; omega
    · rw [e4 hne]; exact f7
  | false =>
    right
    have he : ∀ ok, errD d ok ≠ 0 := fun ok => by
      cases ok with
      | true => rw [errD_10 hvb rfl h0]; omega
      | false => exact errD_no (.inr rfl)
    exact ⟨rfl, errD_10 hvb rfl h0, by unfold NextV; rw [if_neg (he _)], by unfold EndsV; rw [if_neg (he _)], ends_none h0, by unfold WaterV; rw [if_neg (he _)], by unfold FlowV; rw [if_neg (he _)]⟩
set_option maxRecDepth 100000 in
set_option maxHeartbeats 8000000 in
theorem ends_law1 (L : Hp) (g : Fg) (hA : DrAt N w0 g) (a : Nat) (ha8 : a ≤ 255) (b : Nat) (hb8 : b ≤ 255) (hvb : vB g.d = true) : Ret Try.prog N w0 L 5 [drV g, .int .u8 (a : Int), .int .u8 (b : Int)].toArray (.bool true) := by
  have hv := VD_of hvb
  have hnb := hv.nb
  have hf := farB_vB hvb
  have h28 := fun L => long_ret N w0 L g
  have h13 := fun L => alive_ret N w0 L
  have h21 := fun L x y => span_ret N w0 L x y
  have h29 := fun L => rDrain_in N w0 L g (DrainIn.at_ hA) hf
  rw [hf] at h28
  rw [hvb] at h29
  have hmod : ∀ x : Nat, x % g.d.banks.length < g.d.banks.length := fun x => Nat.mod_lt _ (by omega)
  obtain ⟨A, hA9⟩ : ∃ A, a % g.d.banks.length = A := ⟨_, rfl⟩
  obtain ⟨C, hC9⟩ : ∃ C, b % g.d.banks.length = C := ⟨_, rfl⟩
  have hAl : A < g.d.banks.length := by rw [← hA9]; exact hmod a
  have hCl : C < g.d.banks.length := by rw [← hC9]; exact hmod b
  have hfin := ends_fin hv hAl hCl
  have hf2 : errD g.d false = 2 := by simp [errD, hvb]
  have ii1 : inN g.d.banks.length (A : Int) = true := by simp only [inN, decide_eq_true_eq]; omega
  have ii2 : inN g.d.banks.length (g.d.banks.length : Int) = false := by simp only [inN, decide_eq_false_iff_not]; omega
  have ii3 : inN g.d.banks.length (-1) = false := by simp only [inN, decide_eq_false_iff_not]; omega
  have ii4 : twoB g.d.banks.length (A : Int) (A : Int) = false := by simp [twoB]
  have ii5 : twoB g.d.banks.length (A : Int) (g.d.banks.length : Int) = false := by simp [twoB, ii2]
  have hnA := fun L => Next_in N w0 L g (DrainIn.at_ hA) (A : Int)
  have hnB := fun L => Next_in N w0 L g (DrainIn.at_ hA) (g.d.banks.length : Int)
  have heA := fun L => Ends_in N w0 L g (DrainIn.at_ hA) (A : Int)
  have hwA := fun L => Water_in N w0 L g (DrainIn.at_ hA) (A : Int)
  have hwM := fun L => Water_in N w0 L g (DrainIn.at_ hA) (-1)
  have hfA := fun L => Flow_in N w0 L g (DrainIn.at_ hA) (A : Int) (C : Int)
  have hfB := fun L => Flow_in N w0 L g (DrainIn.at_ hA) (A : Int) (A : Int)
  have hdB := fun L => Dig_in N w0 L g (DrainIn.at_ hA) (A : Int) (g.d.banks.length : Int)
  have hdE : DigE g.d A g.d.banks.length = 2 := by unfold DigE; rw [ii5, hf2]; rfl
  rw [ii1] at hnA heA hwA
  rw [ii2, hf2] at hnB
  rw [ii3, hf2] at hwM
  rw [ii4, hf2] at hfB
  rw [hdE] at hdB
  obtain ⟨ef, hef⟩ : ∃ ef, errD g.d (twoB g.d.banks.length (A : Int) (C : Int)) = ef := ⟨_, rfl⟩
  obtain ⟨ev, hev⟩ : ∃ ev, errD g.d true = ev := ⟨_, rfl⟩
  have hefv : (A = C ∧ ef = 2) ∨ (A ≠ C ∧ ef = ev) := by
    by_cases hAC : A = C
    · left; subst hAC; rw [ii4, hf2] at hef; exact ⟨rfl, hef.symm⟩
    · right
      have : twoB g.d.banks.length (A : Int) (C : Int) = true := by simp only [twoB, inN, Bool.and_eq_true, decide_eq_true_eq]; omega
      rw [this, hev] at hef
      exact ⟨hAC, hef.symm⟩
  rw [hef] at hfA
  rw [hev] at hnA heA hwA hfin
  obtain ⟨nv, hnv⟩ : ∃ z, NextV g.d A = z := ⟨_, rfl⟩
  obtain ⟨env, henv⟩ : ∃ z, EndsV g.d A = z := ⟨_, rfl⟩
  obtain ⟨⟨w1, w2⟩, hwv⟩ : ∃ z : Sp, WaterV g.d A = z := ⟨_, rfl⟩
  obtain ⟨⟨f1, f2⟩, hfv⟩ : ∃ z : Sp, FlowV g.d A C = z := ⟨_, rfl⟩
  obtain ⟨⟨u1, u2⟩, huv⟩ : ∃ z : Sp, WaterV g.d (-1) = z := ⟨_, rfl⟩
  obtain ⟨⟨v1, v2⟩, hvv⟩ : ∃ z : Sp, FlowV g.d A A = z := ⟨_, rfl⟩
  rw [hnv] at hnA hfin
  rw [henv] at heA hfin
  rw [hwv] at hwA hfin
  rw [hfv] at hfA hfin
  rw [huv] at hwM
  rw [hvv] at hfB
  clear hnv henv hwv hfv huv hvv hef hev
  dsimp only at hwA hfA hwM hfB hfin
  refine Ret.fgt ?_
  refine tri_of_WP Try.func5 rfl (n := _) rfl (by simp) ?_
  unfold drV drL at h28 h29 hnA hnB heA hwA hwM hfA hfB hdB ⊢
  obtain ⟨B, hB⟩ : ∃ B, g.d.banks.length = B := ⟨_, rfl⟩
  rw [hB] at h28 h29 hnA hnB heA hwA hwM hfA hfB hdB hA9 hC9 hAl hCl hnb ⊢
  repeat' (first | (refine Znh ?_) | (refine GiW ?_; first | (refine Zsq fun K hK => ?_) | (refine ZrN 0 fun _ => ?_; refine Zal 3 fun b3 => ?_; refine Zv Zab ?_) | (refine ZrN 1 fun _ => ?_; refine Zv Zla ?_; refine Zcl (Enters_fn rfl) (h28 _) ?_) | (refine ZrN 3 fun _ => ?_; refine Zv Zla ?_; refine Zcl (Enters_fn rfl) (h29 _) ?_; refine Zv Zxnot ?_) | (refine ZrN 7 fun _ => ?_; refine Zv Zf0 ?_; refine Zv Zld ?_; refine Zv Zxlen ?_; refine Zal 12 fun b12 => ?_; refine Zst ?_) | (refine WP_cond_false rfl ?_) | (with_reducible apply WP_skip)) | (refine Zhn ?_))
  repeat' (first | (refine GiP ?_; first | (with_reducible refine Znl ?_) | (refine Zatn ?_; refine Zst ?_)) | (refine GiW ?_; first | (refine Zsq fun K hK => ?_) | (refine WP_drawnS (id := 8) (B := (b12, Blk 3 [.int .i64 (B : Int)]) :: (b3, Blk 29 [.slice g.A1 B g.c1, .slice g.A2 g.d.ways.length g.c2, .slice g.A3 g.d.rights.length g.c3, .slice g.A4 g.d.seen.length g.c4]) :: L) [4, 5, 6, 7] [0, 1, 2, 3, 4, 5, 6, 7] [8, 9] [78, 79, 80, 81] (k := 1) (k2 := 1) (by repeat (first | exact Sub.refl _ | apply Sub.keep | apply Sub.appK | apply Sub.sv | apply Sub.cons | apply Sub.app)) (by kernel_rfl) prog_mixed (by kernel_rfl) (by kernel_rfl) rfl ?_; refine Zew rfl Zmi ?_; refine Zew rfl Zxco ?_; refine Zew rfl Zld ?_; (first | (refine Zew rfl (Val_remE2 hA9 (by omega) rfl rfl) ?_) | (refine Zew rfl (Val_remE2 hC9 (by omega) rfl rfl) ?_)); refine Zew rfl Zmi ?_; refine Zew rfl Zxco ?_; refine Zew rfl Zld ?_; (first | (refine Zew rfl (Val_remE2 hA9 (by omega) rfl rfl) ?_) | (refine Zew rfl (Val_remE2 hC9 (by omega) rfl rfl) ?_)))) | (with_reducible apply EWalk_nil) | (refine GiC ?_; first | (refine ZgC [0, 1, 2, 3, 4, 5, 6, 7, 8, 9] ?_; refine ZC1 _ 10 [0, 1, 2, 3, 4, 5, 6, 7, 8, 9, 10] ?_) | (refine ZgC [0, 1, 2, 3, 4, 5, 6, 7, 8, 9, 10] ?_; refine ZCl _ ?_)) | (refine GiO ?_; first | (refine ZgO [0, 1, 2, 3, 4, 5, 6, 7, 8, 9, 10] ?_; refine ZO1 _ 11 [0, 1, 2, 3, 4, 5, 6, 7, 8, 9, 10, 11] ?_) | (refine ZgO [0, 1, 2, 3, 4, 5, 6, 7, 8, 9, 10, 11] ?_; refine ZOd _ ?_; (try with_reducible apply noP_normal); (try with_reducible exact key.out))) | (refine Zhn ?_) | (refine AWalk_2S (d := 13) (d' := 14) rfl rfl rfl rfl blk_is New_alloc rfl rfl rfl rfl blk_is New_alloc (fun b13 b14 => ?_)) | (with_reducible apply QAny_normal) | (with_reducible apply QC_normal))
  repeat' (first | (refine Znh ?_) | (refine GiW ?_; first | (refine Zsq fun K hK => ?_) | (refine ZrN 9 fun _ => ?_; refine Zv Zla ?_; refine Zv Zld ?_; (first | (refine Zcl (Enters_fn rfl) (hnA _) ?_) | (refine Zcl (Enters_fn rfl) (hnB _) ?_)); refine Zv Zmv ?_; refine Zv Zxex ?_; refine Zv Zxex ?_; refine Zv Zai ?_; refine Zv Zai ?_) | (refine ZrN 10 fun _ => ?_; refine Zv Zla ?_; refine Zv Zld ?_; refine Zcl (Enters_fn rfl) (heA _) ?_; refine Zv Zmv ?_; refine Zv Zxex ?_; refine Zv Zxex ?_; refine Zv Zai ?_; refine Zv Zai ?_) | (refine ZrN 11 fun _ => ?_; refine Zv Zla ?_; refine Zv Zld ?_; (first | (refine Zcl (Enters_fn rfl) (hwA _) ?_) | (refine Zcl (Enters_fn rfl) (hwM _) ?_)); refine Zv Zmv ?_; refine Zv Zxex ?_; refine Zv Zxex ?_; refine Zal 19 fun b19 => ?_; refine Zst ?_; refine Zv Zai ?_) | (refine ZrN 12 fun _ => ?_; refine Zv Zla ?_; refine Zv Zld ?_; refine Zv Zld ?_; (first | (refine Zcl (Enters_fn rfl) (hfA _) ?_) | (refine Zcl (Enters_fn rfl) (hfB _) ?_)); refine Zv Zmv ?_; refine Zv Zxex ?_; refine Zv Zxex ?_; refine Zal 21 fun b21 => ?_; refine Zst ?_; refine Zv Zai ?_) | (refine ZrN 13 fun _ => ?_; refine Zv Zla ?_; refine Zv Zld ?_; (first | (refine Zcl (Enters_fn rfl) (hnA _) ?_) | (refine Zcl (Enters_fn rfl) (hnB _) ?_)); refine Zv Zmv ?_; refine Zv Zxex ?_; refine Zv Zxex ?_; refine Zv Zai ?_; refine Zv Zai ?_) | (refine ZrN 14 fun _ => ?_; refine Zv Zla ?_; (first | (refine Zcl (Enters_fn rfl) (hwA _) ?_) | (refine Zcl (Enters_fn rfl) (hwM _) ?_)); refine Zv Zmv ?_; refine Zv Zxex ?_; refine Zv Zxex ?_; refine Zal 25 fun b25 => ?_; refine Zst ?_; refine Zv Zai ?_) | (refine ZrN 15 fun _ => ?_; refine Zv Zla ?_; refine Zv Zld ?_; refine Zv Zld ?_; (first | (refine Zcl (Enters_fn rfl) (hfA _) ?_) | (refine Zcl (Enters_fn rfl) (hfB _) ?_)); refine Zv Zmv ?_; refine Zv Zxex ?_; refine Zv Zxex ?_; refine Zal 27 fun b27 => ?_; refine Zst ?_; refine Zv Zai ?_) | (refine ZrN 16 fun _ => ?_; refine Zv Zla ?_; refine Zv Zld ?_; refine Zv Zld ?_; refine Zcl (Enters_fn rfl) (hdB _) ?_; refine Zv Zmv ?_; refine Zv Zxex ?_; refine Zv Zxex ?_; refine Zv Zai ?_; refine Zv Zai ?_)))
  refine WP_joinS (by assumption) [132, 133, 134, 135, 136, 137, 138, 139, 140, 141, 142, 143, 144, 145, 146, 147, 148, 149, 150, 151, 152, 153, 154, 155, 156, 157, 158, 159, 160, 161, 162, 163, 164, 165, 166, 167, 168, 169, 170, 171, 172, 173, 174, 175, 176, 177, 178] (fun _ : Unit => [(178, .bool false)]) (fun _ => (b21, Blk 35 [.int .i64 f1, .int .i64 f2]) :: (b19, Blk 35 [.int .i64 w1, .int .i64 w2]) :: (b13, Blk 3 [.int .i64 (A : Int)]) :: (b14, Blk 3 [.int .i64 (C : Int)]) :: (b12, Blk 3 [.int .i64 (B : Int)]) :: (b3, Blk 29 [.slice g.A1 B g.c1, .slice g.A2 g.d.ways.length g.c2, .slice g.A3 g.d.rights.length g.c3, .slice g.A4 g.d.seen.length g.c4]) :: L) (fun _ => True) ?_ ?_
  · intro K' hC
    rcases hefv with ⟨q1, q2⟩ | ⟨q1, q2⟩
    all_goals
      repeat' (first | (refine GiP ?_; first | (with_reducible refine Znl ?_) | (refine Zatd 138 ?_; (first | (refine Zv Zxpt ?_) | (refine Zv Zxpf ?_)); refine Zv Zmb ?_) | (refine Zatd 143 ?_; (first | (refine Zv Zxpt ?_) | (refine Zv Zxpf ?_)); refine Zv Zmb ?_) | (refine Zatd 148 ?_; (first | (refine Zv Zxpt ?_) | (refine Zv Zxpf ?_)); refine Zv Zmb ?_) | (refine Zatd 153 ?_; (first | (refine Zv Zxpt ?_) | (refine Zv Zxpf ?_)); refine Zv Zmb ?_) | (refine Zatd 158 ?_; (first | (refine Zv Zxpt ?_) | (refine Zv Zxpf ?_)); refine Zv Zmb ?_) | (refine Zatd 168 ?_; (first | (refine Zv Zxpt ?_) | (refine Zv Zxpf ?_)); refine Zv Zmb ?_) | (refine Zatd 178 ?_; (first | (refine Zv Zxpt ?_) | (refine Zv Zxpf ?_))) | (refine Zatd 135 ?_; first | refine Zsk ?_ | (refine Zv Zmi ?_)) | (refine Zatd 136 ?_; first | refine Zsk ?_ | (refine Zv Zmi ?_)) | (refine Zatd 137 ?_; first | refine Zsk ?_ | (refine Zv Zyneq ?_)) | (refine Zatd 140 ?_; first | refine Zsk ?_ | (refine Zv Zmi ?_)) | (refine Zatd 141 ?_; first | refine Zsk ?_ | (refine Zv Zmi ?_)) | (refine Zatd 142 ?_; first | refine Zsk ?_ | (refine Zv Zyneq ?_)) | (refine Zatd 145 ?_; first | refine Zsk ?_ | (refine Zv Zmi ?_)) | (refine Zatd 146 ?_; first | refine Zsk ?_ | (refine Zv Zmi ?_)) | (refine Zatd 147 ?_; first | refine Zsk ?_ | (refine Zv Zyneq ?_)) | (refine Zatd 150 ?_; first | refine Zsk ?_ | (refine Zv Zmi ?_)) | (refine Zatd 151 ?_; first | refine Zsk ?_ | (refine Zv Zmi ?_)) | (refine Zatd 152 ?_; first | refine Zsk ?_ | (refine Zv Zyneq ?_)) | (refine Zatd 155 ?_; first | refine Zsk ?_ | (refine Zv Zmi ?_)) | (refine Zatd 156 ?_; first | refine Zsk ?_ | (refine Zv Zmi ?_)) | (refine Zatd 157 ?_; first | refine Zsk ?_ | (refine Zv Zyneq ?_)) | (refine Zatd 160 ?_; first | refine Zsk ?_ | (refine Zv Zld ?_)) | (refine Zatd 161 ?_; first | refine Zsk ?_ | (refine Zv Zld ?_)) | (refine Zatd 162 ?_; first | refine Zsk ?_ | (refine Zv Zyeql ?_)) | (refine Zatd 163 ?_; first | refine Zsk ?_ | (refine Zv Zmb ?_)) | (refine Zatd 164 ?_; first | refine Zsk ?_ | (refine Zv Zmi ?_)) | (refine Zatd 165 ?_; first | refine Zsk ?_ | (refine Zv Zmi ?_)) | (refine Zatd 166 ?_; first | refine Zsk ?_ | (refine Zv Zyneq ?_)) | (refine Zatd 167 ?_; first | refine Zsk ?_ | (refine Zv Zxpt ?_) | (refine Zv Zxpf ?_)) | (refine Zatd 170 ?_; first | refine Zsk ?_ | (refine Zv Zld ?_)) | (refine Zatd 171 ?_; first | refine Zsk ?_ | (refine Zv Zld ?_)) | (refine Zatd 172 ?_; first | refine Zsk ?_ | (refine Zv Zyneq ?_)) | (refine Zatd 173 ?_; first | refine Zsk ?_ | (refine Zv Zmb ?_)) | (refine Zatd 174 ?_; first | refine Zsk ?_ | (refine Zv Zmi ?_)) | (refine Zatd 175 ?_; first | refine Zsk ?_ | (refine Zv Zmi ?_)) | (refine Zatd 176 ?_; first | refine Zsk ?_ | (refine Zv Zyneq ?_)) | (refine Zatd 177 ?_; first | refine Zsk ?_ | (refine Zv Zxpt ?_) | (refine Zv Zxpf ?_))) | (refine ZrG 17 ?_; refine Zv Zmi ?_; refine Zv Zyneq ?_; refine Zv Zmb ?_))
      all_goals exact hC.nor () _ _ (.cons rfl .nil) (by repeat (first | exact Off.frame rfl | exact Off.refl _ _ | refine Off.frameT rfl rfl ?_ | refine Off.upd rfl ?_ | refine Off.updO rfl ?_)) (by repeat (first | exact Sub.nil | exact Sub.refl _ | assumption | exact Sub.left | apply Sub.svK | apply Sub.sv | apply Sub.cons | apply Sub.app)) trivial
  intro _ j17 _
  repeat' (first | (refine Znh ?_) | (refine GiW ?_; first | (refine Zsq fun K hK => ?_) | (refine ZrN 19 fun _ => ?_; refine Zal 31 fun b31 => ?_; refine Zal 32 fun b32 => ?_) | (refine ZrN 20 fun _ => ?_; refine Zv Zf0 ?_; refine Zv Zld ?_; refine Zv Zxlen ?_; refine Zv Zmi ?_) | (refine WP_cond_false rfl ?_) | (with_reducible apply WP_skip) | (with_reducible apply WP_block)) | (refine Zhn ?_))
  refine WP_loop [34, 182, 183, 184, 185, 186, 187, 188, 189, 190, 191, 192, 193, 194, 195, 196, 197, 198] (fun st : Nat × Option (Nat × Nat) × Option (Nat × Nat) => [(182, .int .i64 (st.1 : Int))]) (fun (st : Nat × Option (Nat × Nat) × Option (Nat × Nat)) => svH 3 1 st.1 (ints ((g.d.banks.take st.1).map fun b => b.yd.2)) st.2.2 (svH 3 1 st.1 (ints ((g.d.banks.take st.1).map fun b => b.yd.1)) st.2.1 ((b32, Blk 47 [svV st.2.2 st.1]) :: (b31, Blk 47 [svV st.2.1 st.1]) :: (b21, Blk 35 [.int .i64 f1, .int .i64 f2]) :: (b19, Blk 35 [.int .i64 w1, .int .i64 w2]) :: (b13, Blk 3 [.int .i64 (A : Int)]) :: (b14, Blk 3 [.int .i64 (C : Int)]) :: (b12, Blk 3 [.int .i64 (B : Int)]) :: (b3, Blk 29 [.slice g.A1 B g.c1, .slice g.A2 g.d.ways.length g.c2, .slice g.A3 g.d.rights.length g.c3, .slice g.A4 g.d.seen.length g.c4]) :: L)))
    (fun (st : Nat × Option (Nat × Nat) × Option (Nat × Nat)) => st.1 ≤ B ∧ svOk st.2.1 1 st.1 (ints ((g.d.banks.take st.1).map fun b => b.yd.1)) ∧ svOk st.2.2 1 st.1 (ints ((g.d.banks.take st.1).map fun b => b.yd.2))) (fun (st : Nat × Option (Nat × Nat) × Option (Nat × Nat)) => B - st.1) (0, none, none) (.cons rfl .nil) (Wk.refl _) ⟨Nat.zero_le _, svOk_nil 1, svOk_nil 1⟩ ?_
  rintro ⟨k, s1, s2⟩ j ⟨hk, hs1, hs2⟩
  dsimp only at hk hs1 hs2 ⊢
  by_cases hkl : k < B
  · obtain ⟨bA, oA, hA1, hbA, hcA⟩ := hA.banks.row k (by omega)
    obtain ⟨t, ht⟩ : ∃ t, g.d.banks[k] = t := ⟨_, rfl⟩
    rw [ht] at hcA
    unfold bkL at hcA
    have hn1 : ints ((g.d.banks.take k).map fun b => b.yd.1) ++ [[Value.int .i64 t.yd.1]].flatten = ints ((g.d.banks.take (k + 1)).map fun b => b.yd.1) := by
      rw [map_take_succ (fun b : Bk => b.yd.1) (by omega), ht]; simp [ints]
    have hn2 : ints ((g.d.banks.take k).map fun b => b.yd.2) ++ [[Value.int .i64 t.yd.2]].flatten = ints ((g.d.banks.take (k + 1)).map fun b => b.yd.2) := by
      rw [map_take_succ (fun b : Bk => b.yd.2) (by omega), ht]; simp [ints]
    repeat' (first | (refine Znh ?_) | (refine GiW ?_; first | (refine Zsq fun K hK => ?_) | (refine ZrN 21 fun _ => ?_; refine Zv Zylss ?_) | (refine ZrN 22 fun _ => ?_; refine Zv Zia ?_; refine Zv Zla ?_; refine Zal 34 fun b34 => ?_; refine Zst ?_) | (refine WP_cond_true rfl ?_) | (with_reducible apply WP_skip) | (with_reducible apply WP_block)) | (refine Zhn ?_))
    repeat' (first | (refine GiP ?_; first | (with_reducible refine Znl ?_) | (refine Zatd 190 ?_; refine Zal 190 fun b190 => ?_) | (refine Zatd 191 ?_; refine Zag (fun s191 hs191 => ?_)) | (refine Zatd 196 ?_; refine Zal 196 fun b196 => ?_) | (refine Zatd 197 ?_; refine Zag (fun s197 hs197 => ?_)) | (refine Zatn ?_; refine Zst ?_)) | (refine WP_drawnS (id := 23) (B := (b34, Blk 60 [.int .i64 t.lv.1, .int .i64 t.lv.2, .int .i64 t.yd.1, .int .i64 t.yd.2]) :: (b32, Blk 47 [svV s2 k]) :: (b31, Blk 47 [svV s1 k]) :: (b21, Blk 35 [.int .i64 f1, .int .i64 f2]) :: (b19, Blk 35 [.int .i64 w1, .int .i64 w2]) :: (b13, Blk 3 [.int .i64 (A : Int)]) :: (b14, Blk 3 [.int .i64 (C : Int)]) :: (b12, Blk 3 [.int .i64 (B : Int)]) :: (b3, Blk 29 [.slice g.A1 B g.c1, .slice g.A2 g.d.ways.length g.c2, .slice g.A3 g.d.rights.length g.c3, .slice g.A4 g.d.seen.length g.c4]) :: L) [0, 1, 2, 3, 6, 7, 8, 9] [0, 1, 2, 3, 6, 7, 8, 9] [] [186, 187, 188, 189, 192, 193, 194, 195] (k := 3) (k2 := 3) (by repeat (first | exact Sub.refl _ | apply Sub.keep | apply Sub.appK | apply Sub.sv | apply Sub.cons | apply Sub.app)) (by kernel_rfl) prog_mixed (by kernel_rfl) (by kernel_rfl) rfl ?_; refine Zew rfl Zld ?_; refine Zew rfl Zfa ?_; refine Zew rfl Zf0 ?_; refine Zew rfl Zld ?_; refine Zew rfl Zld ?_; refine Zew rfl Zfa ?_; refine Zew rfl Zfa ?_; refine Zew rfl Zld ?_) | (with_reducible apply EWalk_nil) | (refine GiC ?_; first | (refine ZgC [0, 1, 2, 3, 6, 7, 8, 9] ?_; refine ZC2 _ 4 [0, 1, 2, 3, 6, 7, 8, 9, 4] 10 [0, 1, 2, 3, 6, 7, 8, 9, 10] ?_ ?_) | (refine ZgC [0, 1, 2, 3, 6, 7, 8, 9, 4] ?_; refine ZC2 _ 5 [0, 1, 2, 3, 6, 7, 8, 9, 4, 5] 10 [0, 1, 2, 3, 6, 7, 8, 9, 4, 10] ?_ ?_) | (refine ZgC [0, 1, 2, 3, 6, 7, 8, 9, 4, 5] ?_; refine ZC1 _ 10 [0, 1, 2, 3, 6, 7, 8, 9, 4, 5, 10] ?_) | (refine ZgC [0, 1, 2, 3, 6, 7, 8, 9, 4, 5, 10] ?_; refine ZCl _ ?_) | (refine ZgC [0, 1, 2, 3, 6, 7, 8, 9, 4, 10] ?_; refine ZC1 _ 5 [0, 1, 2, 3, 6, 7, 8, 9, 4, 5, 10] ?_) | (refine ZgC [0, 1, 2, 3, 6, 7, 8, 9, 10] ?_; refine ZC1 _ 4 [0, 1, 2, 3, 6, 7, 8, 9, 4, 10] ?_)) | (refine GiO ?_; first | (refine ZgO [0, 1, 2, 3, 6, 7, 8, 9, 4, 5, 10] ?_; refine ZO1 _ 11 [0, 1, 2, 3, 6, 7, 8, 9, 4, 5, 10, 11] ?_) | (refine ZgO [0, 1, 2, 3, 6, 7, 8, 9, 4, 5, 10, 11] ?_; refine ZO1 _ 12 [0, 1, 2, 3, 6, 7, 8, 9, 4, 5, 10, 11, 12] ?_) | (refine ZgO [0, 1, 2, 3, 6, 7, 8, 9, 4, 5, 10, 11, 12] ?_; refine ZO1 _ 13 [0, 1, 2, 3, 6, 7, 8, 9, 4, 5, 10, 11, 12, 13] ?_) | (refine ZgO [0, 1, 2, 3, 6, 7, 8, 9, 4, 5, 10, 11, 12, 13] ?_; refine ZOd _ ?_; (try with_reducible apply noP_normal); (try with_reducible exact key.out))) | (refine Zhn ?_) | (with_reducible apply QBlock_normal) | (refine AWalk_0 ?_) | (with_reducible apply QAny_normal) | (with_reducible apply QC_normal))
    all_goals
      repeat' (first | (with_reducible refine Znl ?_) | (refine ZrN 24 fun _ => ?_; refine Zv Zxadd ?_; refine Zv Zmi ?_))
      rw [hn1] at hs191 ⊢
      rw [hn2] at hs197 ⊢
      exact QLoop_normal (k + 1, s191, s197) (.cons rfl .nil) (by repeat (first | exact Off.frame rfl | exact Off.refl _ _ | refine Off.frameT rfl rfl ?_ | refine Off.upd rfl ?_ | refine Off.updO rfl ?_)) (by repeat (first | exact Wk.refl _ | apply Wk.keep1 | apply Wk.drop | apply Wk.sv | apply Wk.svD | apply Wk.appD)) ⟨by dsimp only; omega, hs191, hs197⟩ (by dsimp only; omega)
  have hke2 : B = k := by omega
  subst hke2
  rw [show g.d.banks.take B = g.d.banks by rw [← hB, List.take_length]] at hs1 hs2 ⊢
  obtain ⟨Al, cl, el, hrl⟩ := RdRows.sv (E := 3) (by omega) hs1
  obtain ⟨Au, cu, eu, hru⟩ := RdRows.sv (E := 3) (by omega) hs2
  rw [el, eu]
  obtain ⟨H, hH⟩ : ∃ H, svH 3 1 B (ints (g.d.banks.map fun b => b.yd.2)) s2 (svH 3 1 B (ints (g.d.banks.map fun b => b.yd.1)) s1 ((b32, Blk 47 [.slice Au B cu]) :: (b31, Blk 47 [.slice Al B cl]) :: (b21, Blk 35 [.int .i64 f1, .int .i64 f2]) :: (b19, Blk 35 [.int .i64 w1, .int .i64 w2]) :: (b13, Blk 3 [.int .i64 (A : Int)]) :: (b14, Blk 3 [.int .i64 (C : Int)]) :: (b12, Blk 3 [.int .i64 (B : Int)]) :: (b3, Blk 29 [.slice g.A1 B g.c1, .slice g.A2 g.d.ways.length g.c2, .slice g.A3 g.d.rights.length g.c3, .slice g.A4 g.d.seen.length g.c4]) :: L)) = H := ⟨_, rfl⟩
  have md : Mem b3 (Blk 29 [.slice g.A1 B g.c1, .slice g.A2 g.d.ways.length g.c2, .slice g.A3 g.d.rights.length g.c3, .slice g.A4 g.d.seen.length g.c4]) H := by rw [← hH]; exact (by repeat (first | exact Mem.here | assumption | apply Mem.there | apply Mem.sv | apply Mem.app))
  have ma : Mem b13 (Blk 3 [.int .i64 (A : Int)]) H := by rw [← hH]; exact (by repeat (first | exact Mem.here | assumption | apply Mem.there | apply Mem.sv | apply Mem.app))
  have mb : Mem b14 (Blk 3 [.int .i64 (C : Int)]) H := by rw [← hH]; exact (by repeat (first | exact Mem.here | assumption | apply Mem.there | apply Mem.sv | apply Mem.app))
  have mn : Mem b12 (Blk 3 [.int .i64 (B : Int)]) H := by rw [← hH]; exact (by repeat (first | exact Mem.here | assumption | apply Mem.there | apply Mem.sv | apply Mem.app))
  have mu : Mem b32 (Blk 47 [.slice Au B cu]) H := by rw [← hH]; exact (by repeat (first | exact Mem.here | assumption | apply Mem.there | apply Mem.sv | apply Mem.app))
  have ml : Mem b31 (Blk 47 [.slice Al B cl]) H := by rw [← hH]; exact (by repeat (first | exact Mem.here | assumption | apply Mem.there | apply Mem.sv | apply Mem.app))
  have mw : Mem b19 (Blk 35 [.int .i64 w1, .int .i64 w2]) H := by rw [← hH]; exact (by repeat (first | exact Mem.here | assumption | apply Mem.there | apply Mem.sv | apply Mem.app))
  have mf : Mem b21 (Blk 35 [.int .i64 f1, .int .i64 f2]) H := by rw [← hH]; exact (by repeat (first | exact Mem.here | assumption | apply Mem.there | apply Mem.sv | apply Mem.app))
  have hru2 : ∀ L', Sub H L' → RdI N w0 L' Au (upsL g.d) := fun L' hL => by
    have h1 : RdI N w0 H Au (upsL g.d) := by rw [← hH]; exact hru N w0 _ (i1 (upsL g.d)) Wk.sv0 (ints_flat _) (by intro r hr; simp only [i1, List.mem_map] at hr; obtain ⟨_, _, rfl⟩ := hr; rfl)
    exact h1.wk hL
  have hrl2 : ∀ L', Sub H L' → RdI N w0 L' Al (lwsL g.d) := fun L' hL => by
    have h1 : RdI N w0 H Al (lwsL g.d) := by rw [← hH]; exact hrl N w0 _ (i1 (lwsL g.d)) (by repeat (first | exact Wk.sv0 | apply Wk.svD)) (ints_flat _) (by intro r hr; simp only [i1, List.mem_map] at hr; obtain ⟨_, _, rfl⟩ := hr; rfl)
    exact h1.wk hL
  have hWH : Wk H L := by rw [← hH]; exact (by repeat (first | exact Wk.refl _ | apply Wk.keep1 | apply Wk.drop | apply Wk.sv | apply Wk.svD | apply Wk.appD))
  rw [hH]
  have hdr : drL g = [.slice g.A1 B g.c1, .slice g.A2 g.d.ways.length g.c2, .slice g.A3 g.d.rights.length g.c3, .slice g.A4 g.d.seen.length g.c4] := by unfold drL; rw [hB]
  have hev := fun b35 b36 b37 b38 b39 => each_tri N w0 g hA hv _ 31 _ (ends_on N w0 g hA hv A C (by omega) (by omega) b3 b13 b12 b31 b32 b14 b35 b36 b37 b38 b39 H (by rw [hdr]; exact md) ma mb (by rw [hB]; exact mn) Au cu (by rw [hB]; exact mu) hru2 Al cl (by rw [hB]; exact ml) hrl2)
  obtain ⟨R, hR⟩ : ∃ R, (rowsD g.d).length = R := ⟨_, rfl⟩
  rw [hR] at hev hfin
  have hj0 : ∀ b35 b36 b37 b38 b39, endsB g.d A C b35 b36 b37 b38 b39 H 0 = (b39, Blk 35 [.int .i64 1048576, .int .i64 (-1)]) :: (b38, Blk 35 [.int .i64 1048576, .int .i64 (-1)]) :: (b37, Blk 4 [.bool false]) :: (b36, Blk 3 [.int .i64 0]) :: (b35, Blk 3 [.int .i64 0]) :: H := fun _ _ _ _ _ => rfl
  simp only [hj0] at hev
  unfold drV at hev
  rw [hdr] at hev
  rcases hfin with ⟨x0, x1, x2, x3, x4, x5, x6, x7, x8⟩ | ⟨x0, x1, x2, x3, x4, x5, x6⟩
  · unfold endsB at hev
    rw [x4] at hev
    have y1 : w1 = (allK g.d A R).1 := by rw [← x5]
    have y2 : w2 = (allK g.d A R).2 := by rw [← x5]
    subst x2 x3
    by_cases hAC : A = C
    · repeat' (first | (refine GiP ?_; first | (refine Znh ?_) | (refine Zatd 235 ?_; (first | (refine Zv Zxpt ?_) | (refine Zv Zxpf ?_)); refine Zv Zmb ?_) | (refine Zatd 240 ?_; (first | (refine Zv Zxpt ?_) | (refine Zv Zxpf ?_)); refine Zv Zmb ?_) | (refine Zatd 245 ?_; (first | (refine Zv Zxpt ?_) | (refine Zv Zxpf ?_)); refine Zv Zmb ?_) | (refine Zatd 255 ?_; (first | (refine Zv Zxpt ?_) | (refine Zv Zxpf ?_)); refine Zv Zmb ?_) | (refine Zatd 258 ?_; (first | (refine Zv Zxpt ?_) | (refine Zv Zxpf ?_)); refine Zv Zab ?_) | (refine Zatd 232 ?_; first | refine Zsk ?_ | (refine Zv Zmi ?_)) | (refine Zatd 233 ?_; first | refine Zsk ?_ | (refine Zv Zld ?_)) | (refine Zatd 234 ?_; first | refine Zsk ?_ | (refine Zv (Val_eqlS rfl rfl y1 y2 (by omega) (by omega)) ?_) | (refine Zv (Zyeql) ?_)) | (refine Zatd 237 ?_; first | refine Zsk ?_ | (refine Zv Zmi ?_)) | (refine Zatd 238 ?_; first | refine Zsk ?_ | (refine Zv Zld ?_)) | (refine Zatd 239 ?_; first | refine Zsk ?_ | (refine Zv (Val_eqlS rfl rfl y1 y2 (by omega) (by omega)) ?_) | (refine Zv (Zyeql) ?_)) | (refine Zatd 242 ?_; first | refine Zsk ?_ | (refine Zv Zla ?_)) | (refine Zatd 243 ?_; first | refine Zsk ?_ | (refine Zv Zla ?_)) | (refine Zatd 244 ?_; first | refine Zsk ?_ | (refine Zv (Val_eqlS rfl rfl y1 y2 (by omega) (by omega)) ?_) | (refine Zv (Zyeql) ?_)) | (refine Zatd 247 ?_; first | refine Zsk ?_ | (refine Zv Zld ?_)) | (refine Zatd 248 ?_; first | refine Zsk ?_ | (refine Zv Zld ?_)) | (refine Zatd 249 ?_; first | refine Zsk ?_ | (refine Zv (Val_eqlS rfl rfl y1 y2 (by omega) (by omega)) ?_) | (refine Zv (Zyeql) ?_)) | (refine Zatd 250 ?_; first | refine Zsk ?_ | (refine Zv Zmb ?_)) | (refine Zatd 251 ?_; first | refine Zsk ?_ | (refine Zv Zla ?_)) | (refine Zatd 252 ?_; first | refine Zsk ?_ | (refine Zv Zla ?_)) | (refine Zatd 253 ?_; first | refine Zsk ?_ | (refine Zv (Val_eqlS rfl rfl y1 y2 (by omega) (by omega)) ?_) | (refine Zv (Zyeql) ?_)) | (refine Zatd 254 ?_; first | refine Zsk ?_ | (refine Zv Zxpt ?_) | (refine Zv Zxpf ?_)) | (refine Zatd 257 ?_; first | refine Zsk ?_ | (refine Zcl (Enters_fn rfl) (h13 _) ?_))) | (refine GiW ?_; first | (refine Zsq fun K hK => ?_) | (refine ZrN 21 fun _ => ?_; refine Zv Zylss ?_) | (refine ZrN 25 fun _ => ?_; refine Zal 35 fun b35 => ?_; refine Zal 36 fun b36 => ?_; refine Zal 37 fun b37 => ?_; refine Zst ?_; refine Zst ?_; refine Zst ?_) | (refine ZrN 26 fun _ => ?_; refine Zcl (Enters_fn rfl) (h21 _ _ _) ?_; refine Zcl (Enters_fn rfl) (h21 _ _ _) ?_; refine Zal 38 fun b38 => ?_; refine Zal 39 fun b39 => ?_; refine Zst ?_; refine Zst ?_) | (refine ZrN 27 fun _ => ?_; refine Zv Zla ?_; refine Zv Val_makeFunc ?_; refine OPS_retKS (Enters_fn rfl) (hev b35 b36 b37 b38 b39) rfl rfl rfl (fun v203 L203 h203 => ?_); subst h203) | (refine ZrN 28 fun _ => ?_; refine Zv Zld ?_; refine Zv Zxnot ?_) | (refine ZrG 30 ?_; refine Zv Zmi ?_; (first | (refine Zv (Val_eqlS rfl rfl y1 y2 (by omega) (by omega)) ?_) | (refine Zv (Zyeql) ?_)); refine Zv Zmb ?_) | (refine WP_cond_false rfl ?_) | (with_reducible apply WP_skip) | (with_reducible apply WP_exit) | (with_reducible apply WP_ret)) | (refine Zhn ?_) | (refine Zhx ?_) | (with_reducible apply QBlock_hit) | (with_reducible apply QLoop_exit))
      all_goals exact QBody_ret1 rfl (rfl : _ = Value.bool _) ⟨rfl, .drop (.drop (.drop (.drop (.drop hWH))))⟩
    · have y3 : f1 = (wentK g.d A C R).1 := by rw [← x6 hAC]
      have y4 : f2 = (wentK g.d A C R).2 := by rw [← x6 hAC]
      repeat' (first | (refine GiP ?_; first | (refine Znh ?_) | (refine Zatd 235 ?_; (first | (refine Zv Zxpt ?_) | (refine Zv Zxpf ?_)); refine Zv Zmb ?_) | (refine Zatd 240 ?_; (first | (refine Zv Zxpt ?_) | (refine Zv Zxpf ?_)); refine Zv Zmb ?_) | (refine Zatd 245 ?_; (first | (refine Zv Zxpt ?_) | (refine Zv Zxpf ?_)); refine Zv Zmb ?_) | (refine Zatd 255 ?_; (first | (refine Zv Zxpt ?_) | (refine Zv Zxpf ?_)); refine Zv Zmb ?_) | (refine Zatd 258 ?_; (first | (refine Zv Zxpt ?_) | (refine Zv Zxpf ?_)); refine Zv Zab ?_) | (refine Zatd 232 ?_; first | refine Zsk ?_ | (refine Zv Zmi ?_)) | (refine Zatd 233 ?_; first | refine Zsk ?_ | (refine Zv Zld ?_)) | (refine Zatd 234 ?_; first | refine Zsk ?_ | (refine Zv (Val_eqlS rfl rfl y1 y2 (by omega) (by omega)) ?_) | (refine Zv (Val_eqlS rfl rfl y3 y4 (by omega) (by omega)) ?_) | (refine Zv (Zyeql) ?_)) | (refine Zatd 237 ?_; first | refine Zsk ?_ | (refine Zv Zmi ?_)) | (refine Zatd 238 ?_; first | refine Zsk ?_ | (refine Zv Zld ?_)) | (refine Zatd 239 ?_; first | refine Zsk ?_ | (refine Zv (Val_eqlS rfl rfl y1 y2 (by omega) (by omega)) ?_) | (refine Zv (Val_eqlS rfl rfl y3 y4 (by omega) (by omega)) ?_) | (refine Zv (Zyeql) ?_)) | (refine Zatd 242 ?_; first | refine Zsk ?_ | (refine Zv Zla ?_)) | (refine Zatd 243 ?_; first | refine Zsk ?_ | (refine Zv Zla ?_)) | (refine Zatd 244 ?_; first | refine Zsk ?_ | (refine Zv (Val_eqlS rfl rfl y1 y2 (by omega) (by omega)) ?_) | (refine Zv (Val_eqlS rfl rfl y3 y4 (by omega) (by omega)) ?_) | (refine Zv (Zyeql) ?_)) | (refine Zatd 247 ?_; first | refine Zsk ?_ | (refine Zv Zld ?_)) | (refine Zatd 248 ?_; first | refine Zsk ?_ | (refine Zv Zld ?_)) | (refine Zatd 249 ?_; first | refine Zsk ?_ | (refine Zv (Val_eqlS rfl rfl y1 y2 (by omega) (by omega)) ?_) | (refine Zv (Val_eqlS rfl rfl y3 y4 (by omega) (by omega)) ?_) | (refine Zv (Zyeql) ?_)) | (refine Zatd 250 ?_; first | refine Zsk ?_ | (refine Zv Zmb ?_)) | (refine Zatd 251 ?_; first | refine Zsk ?_ | (refine Zv Zla ?_)) | (refine Zatd 252 ?_; first | refine Zsk ?_ | (refine Zv Zla ?_)) | (refine Zatd 253 ?_; first | refine Zsk ?_ | (refine Zv (Val_eqlS rfl rfl y1 y2 (by omega) (by omega)) ?_) | (refine Zv (Val_eqlS rfl rfl y3 y4 (by omega) (by omega)) ?_) | (refine Zv (Zyeql) ?_)) | (refine Zatd 254 ?_; first | refine Zsk ?_ | (refine Zv Zxpt ?_) | (refine Zv Zxpf ?_)) | (refine Zatd 257 ?_; first | refine Zsk ?_ | (refine Zcl (Enters_fn rfl) (h13 _) ?_))) | (refine GiW ?_; first | (refine Zsq fun K hK => ?_) | (refine ZrN 21 fun _ => ?_; refine Zv Zylss ?_) | (refine ZrN 25 fun _ => ?_; refine Zal 35 fun b35 => ?_; refine Zal 36 fun b36 => ?_; refine Zal 37 fun b37 => ?_; refine Zst ?_; refine Zst ?_; refine Zst ?_) | (refine ZrN 26 fun _ => ?_; refine Zcl (Enters_fn rfl) (h21 _ _ _) ?_; refine Zcl (Enters_fn rfl) (h21 _ _ _) ?_; refine Zal 38 fun b38 => ?_; refine Zal 39 fun b39 => ?_; refine Zst ?_; refine Zst ?_) | (refine ZrN 27 fun _ => ?_; refine Zv Zla ?_; refine Zv Val_makeFunc ?_; refine OPS_retKS (Enters_fn rfl) (hev b35 b36 b37 b38 b39) rfl rfl rfl (fun v203 L203 h203 => ?_); subst h203) | (refine ZrN 28 fun _ => ?_; refine Zv Zld ?_; refine Zv Zxnot ?_) | (refine ZrG 30 ?_; refine Zv Zmi ?_; (first | (refine Zv (Val_eqlS rfl rfl y1 y2 (by omega) (by omega)) ?_) | (refine Zv (Val_eqlS rfl rfl y3 y4 (by omega) (by omega)) ?_) | (refine Zv (Zyeql) ?_)); refine Zv Zmb ?_) | (refine WP_cond_false rfl ?_) | (with_reducible apply WP_skip) | (with_reducible apply WP_exit) | (with_reducible apply WP_ret)) | (refine Zhn ?_) | (refine Zhx ?_) | (with_reducible apply QBlock_hit) | (with_reducible apply QLoop_exit))
      all_goals exact QBody_ret1 rfl (rfl : _ = Value.bool _) ⟨rfl, .drop (.drop (.drop (.drop (.drop hWH))))⟩
  · unfold endsB at hev
    rw [x4] at hev
    simp only [Prod.mk.injEq] at x5 x6
    obtain ⟨y1, y2⟩ := x5
    obtain ⟨y3, y4⟩ := x6
    repeat' (first | (refine GiP ?_; first | (refine Znh ?_) | (refine Zatd 211 ?_; (first | (refine Zv Zxpt ?_) | (refine Zv Zxpf ?_)); refine Zv Zmb ?_) | (refine Zatd 215 ?_; (first | (refine Zv Zxpt ?_) | (refine Zv Zxpf ?_)); refine Zv Zmb ?_) | (refine Zatd 220 ?_; (first | (refine Zv Zxpt ?_) | (refine Zv Zxpf ?_)); refine Zv Zmb ?_) | (refine Zatd 225 ?_; (first | (refine Zv Zxpt ?_) | (refine Zv Zxpf ?_)); refine Zv Zmb ?_) | (refine Zatd 228 ?_; (first | (refine Zv Zxpt ?_) | (refine Zv Zxpf ?_)); refine Zv Zab ?_) | (refine Zatd 209 ?_; first | refine Zsk ?_ | (refine Zv Zmi ?_)) | (refine Zatd 210 ?_; first | refine Zsk ?_ | (refine Zv (Val_eqlS rfl rfl y1 y2 (by omega) (by omega)) ?_) | (refine Zv (Val_eqlS rfl rfl y3 y4 (by omega) (by omega)) ?_) | (refine Zv (Zyeql) ?_)) | (refine Zatd 213 ?_; first | refine Zsk ?_ | (refine Zv Zmi ?_)) | (refine Zatd 214 ?_; first | refine Zsk ?_ | (refine Zv (Val_eqlS rfl rfl y1 y2 (by omega) (by omega)) ?_) | (refine Zv (Val_eqlS rfl rfl y3 y4 (by omega) (by omega)) ?_) | (refine Zv (Zyeql) ?_)) | (refine Zatd 217 ?_; first | refine Zsk ?_ | (refine Zv Zla ?_)) | (refine Zatd 218 ?_; first | refine Zsk ?_ | (refine Zv Zxbu ?_)) | (refine Zatd 219 ?_; first | refine Zsk ?_ | (refine Zv (Val_eqlS rfl rfl y1 y2 (by omega) (by omega)) ?_) | (refine Zv (Val_eqlS rfl rfl y3 y4 (by omega) (by omega)) ?_) | (refine Zv (Zyeql) ?_)) | (refine Zatd 222 ?_; first | refine Zsk ?_ | (refine Zv Zla ?_)) | (refine Zatd 223 ?_; first | refine Zsk ?_ | (refine Zv Zxbu ?_)) | (refine Zatd 224 ?_; first | refine Zsk ?_ | (refine Zv (Val_eqlS rfl rfl y1 y2 (by omega) (by omega)) ?_) | (refine Zv (Val_eqlS rfl rfl y3 y4 (by omega) (by omega)) ?_) | (refine Zv (Zyeql) ?_)) | (refine Zatd 227 ?_; first | refine Zsk ?_ | (refine Zcl (Enters_fn rfl) (h13 _) ?_))) | (refine GiW ?_; first | (refine Zsq fun K hK => ?_) | (refine ZrN 21 fun _ => ?_; refine Zv Zylss ?_) | (refine ZrN 25 fun _ => ?_; refine Zal 35 fun b35 => ?_; refine Zal 36 fun b36 => ?_; refine Zal 37 fun b37 => ?_; refine Zst ?_; refine Zst ?_; refine Zst ?_) | (refine ZrN 26 fun _ => ?_; refine Zcl (Enters_fn rfl) (h21 _ _ _) ?_; refine Zcl (Enters_fn rfl) (h21 _ _ _) ?_; refine Zal 38 fun b38 => ?_; refine Zal 39 fun b39 => ?_; refine Zst ?_; refine Zst ?_) | (refine ZrN 27 fun _ => ?_; refine Zv Zla ?_; refine Zv Val_makeFunc ?_; refine OPS_retKS (Enters_fn rfl) (hev b35 b36 b37 b38 b39) rfl rfl rfl (fun v203 L203 h203 => ?_); subst h203) | (refine ZrN 28 fun _ => ?_; refine Zv Zld ?_; refine Zv Zxnot ?_) | (refine ZrG 29 ?_; refine Zv Zmi ?_; (first | (refine Zv (Val_eqlS rfl rfl y1 y2 (by omega) (by omega)) ?_) | (refine Zv (Val_eqlS rfl rfl y3 y4 (by omega) (by omega)) ?_) | (refine Zv (Zyeql) ?_)); refine Zv Zmb ?_) | (refine WP_cond_true rfl ?_) | (refine WP_cond_false rfl ?_) | (with_reducible apply WP_exit) | (with_reducible apply WP_ret)) | (refine Zhn ?_) | (refine Zhx ?_) | (with_reducible apply QBlock_hit) | (with_reducible apply QLoop_exit) | (refine Zhr ?_))
    all_goals exact QBody_ret1 rfl (rfl : _ = Value.bool _) ⟨rfl, .drop (.drop (.drop (.drop (.drop hWH))))⟩
theorem ends_all (L : Hp) (g : Fg) (hA : DrAt N w0 g) (a : Nat) (ha8 : a ≤ 255) (b : Nat) (hb8 : b ≤ 255) : Ret Try.prog N w0 L 5 [drV g, .int .u8 (a : Int), .int .u8 (b : Int)].toArray (.bool true) := by
  cases h1 : vB g.d with
  | false => exact ends_law0 N w0 L g hA a b (.inr h1)
  | true => exact ends_law1 N w0 L g hA a ha8 b hb8 h1
end
end Go.Proofs.Ytbhgpnbfdjoglaa
end
