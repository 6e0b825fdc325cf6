/- The document's answer for heaps: when heaps are dry, and of which least is known. · The document's answer for heaps: when all heaps are dry, and of which least is known. · The document's answer for heaps: of which least is known. · The laws that compare with the document's answer: what is too much to go through. -/
import Derived.Test.YtlpahkmfjpjheaaN2
import Derived.Test.YtlpahkmfjpjheaaN1
section
namespace Go.Proofs.Ytlpahkmfjpjheaa
open Go.RowKit
theorem when_some' {h : Hv} {ok : Bool} (he : errE h ok = 0) {w : Option Nat} {d : Nat} (hw : w = some d) : errW h ok w = 0 ∧ (if errW h ok w = 0 then ((w.getD 0 : Nat) : Int) else 0) = d := by
  subst hw
  have h1 : errW h ok (some d) = 0 := by unfold errW; rw [if_pos he]; simp
  exact ⟨h1, by rw [if_pos h1]; rfl⟩
theorem when_none' {h : Hv} {ok : Bool} (he : errE h ok = 0) {w : Option Nat} (hw : w = none) : errW h ok w = 4 ∧ (if errW h ok w = 0 then ((w.getD 0 : Nat) : Int) else 0) = 0 := by
  subst hw
  have h1 : errW h ok none = 4 := by unfold errW; rw [if_pos he]; simp
  exact ⟨h1, by rw [if_neg (by rw [h1]; omega)]⟩
attribute [local irreducible] AnyO AnyB QAny QB EWalk AWalk Ev WP OPS QThen QBlock QScope QLoop QBody Val New Turn Tri Enters PostA Blk Ro
attribute [local irreducible] AnyC QC
section
variable (N : Nat) (w0 : World)
set_option maxRecDepth 100000 in
set_option maxHeartbeats 4000000 in
theorem when21_ret (L : Hp) (g : Bg) (hA : HeapAt N w0 g) (h1 : g.h.heaps.length ≤ 1000000) (h2 : g.h.rains.length ≤ 1000000) (h3 : g.h.looks.length ≤ 1000000) (heap : Int) :
    Ret Try.prog N w0 L 21 [heapV g, .int .i64 heap].toArray (.tuple [.int .i64 (WhenV g.h heap), .int .i64 (WhenE g.h heap)].toArray) := by
  have h53 := fun L => heap53_ret N w0 L g heap h1
  refine Ret.fgt ?_
  refine tri_of_WP Try.func21 rfl (n := 37) rfl (by simp) ?_
  by_cases he : errE g.h (HeapOk g.h heap) = 0
  · obtain ⟨hvb, hok, h0⟩ := errE_zero he
    have hv := VH_of hvb
    have hsome := fun d => when_some' he (w := whenD g.h [heap.toNat]) (d := d)
    have hnone := when_none' he (w := whenD g.h [heap.toNat])
    obtain ⟨we, hwe⟩ : ∃ x, WhenE g.h heap = x := ⟨_, rfl⟩
    obtain ⟨wv, hwv⟩ : ∃ x, WhenV g.h heap = x := ⟨_, rfl⟩
    rw [show errW g.h (HeapOk g.h heap) (whenD g.h [heap.toNat]) = we from hwe] at hsome hnone
    rw [show (if we = 0 then (((whenD g.h [heap.toNat]).getD 0 : Nat) : Int) else 0) = wv by rw [← hwe]; exact hwv] at hsome hnone
    rw [hwe, hwv]
    clear hwe hwv
    unfold HeapOk at hok
    rw [hok] at h53
    obtain ⟨i, rfl, hi⟩ := within_nat hok
    simp only [Int.toNat_natCast] at hsome hnone
    have h52 := fun L => known52_ok N w0 L g hA hv h0
    obtain ⟨lim, hlim⟩ : ∃ x, g.h.limit = x := ⟨_, rfl⟩
    have h55 := fun L v hl d hd => wet55_told N w0 L g hA hv h0 v hl i d hi hd
    unfold heapV hvL at h52 h53 h55 ⊢
    repeat' (first | (refine GiP ?_; first | (refine Znh ?_) | (with_reducible refine Znl ?_)) | (refine GiW ?_; first | (refine Zsq fun K hK => ?_) | (refine ZrN 0 fun _ => ?_; refine Zal 2 fun b2 => ?_; refine Zv Zai ?_; refine Zv Zai ?_) | (refine WP_cond_true rfl ?_) | (refine WP_cond_false rfl ?_) | (refine Zcd (fun hc => ?_) (fun hc => ?_) <;> (try (exfalso; omega))) | (with_reducible apply WP_skip) | (with_reducible apply WP_block) | (with_reducible apply WP_exit) | (with_reducible apply WP_ret)) | (refine Zhn ?_) | (with_reducible apply QBlock_normal) | (refine Zhx ?_) | (with_reducible apply QBlock_hit) | (refine Zqb ?_) | (with_reducible apply QLoop_exit) | (refine Zhr ?_) | (with_reducible apply QBlock_ret) | (with_reducible apply QLoop_ret))
    refine WP_joinS (by assumption) [6, 7, 9, 10, 11, 12, 13, 14, 15, 16] (fun p : KnSt => [(6, .slice (some ⟨p.b, 0, none⟩) (truthsL g.h (evL g.h)).length p.c), (7, .int .i64 0)]) (fun p => p.X ++ ((b2, Blk 27 (hvL g)) :: L)) (fun p => RdT p.X (.slice (some ⟨p.b, 0, none⟩) (truthsL g.h (evL g.h)).length p.c) (truthsL g.h (evL g.h))) ?_ ?_
    · intro K' hC
      unfold hvL at hC
      repeat' (first | (refine GiP ?_; first | (refine Znh ?_) | (with_reducible refine Znl ?_) | (refine Zatd 14 ?_; refine OPS_retKS (Enters_fn rfl) (h52 _) rfl rfl rfl (fun v14 L14 h14 => ?_); obtain ⟨b1, c1, X1, rfl, rfl, hX1⟩ := h14) | (refine Zatd 9 ?_; refine Zv Zmv ?_) | (refine Zatd 15 ?_; refine Zv Zxex ?_) | (refine Zatd 16 ?_; refine Zv Zxex ?_) | (refine Zatd 6 ?_; refine Zv Zav ?_) | (refine Zatd 7 ?_; refine Zv Zai ?_)) | (refine GiW ?_; first | (refine Zsq fun K hK => ?_) | (refine WP_cond_true rfl ?_) | (refine WP_cond_false rfl ?_) | (refine Zcd (fun hc => ?_) (fun hc => ?_) <;> (try (exfalso; omega))) | (with_reducible apply WP_skip) | (with_reducible apply WP_block) | (with_reducible apply WP_exit) | (with_reducible apply WP_ret) | (refine WP_drawnS (id := 1) [] [0, 1, 2, 3] [] [] (k := 0) (k2 := 6) (by repeat (first | apply Sub.sv | apply Sub.keep | apply Sub.appK | exact Sub.refl _)) (by kernel_rfl) prog_mixed (by kernel_rfl) (by kernel_rfl) rfl ?_; refine Zew rfl Zla ?_; refine Zew rfl Zla ?_; refine Zew rfl Zmi ?_; refine Zec rfl (Enters_fn rfl) (fun X => h53 _) ?_)) | (with_reducible apply EWalk_nil) | (refine ZgC [0, 1, 2, 3] ?_; refine ZCl _ ?_) | (refine GiO ?_; first | (refine ZgO [0, 1, 2, 3] ?_; refine ZO1 _ 4 [0, 1, 2, 3, 4] ?_) | (refine ZgO [0, 1, 2, 3, 4] ?_; refine ZO1 _ 5 [0, 1, 2, 3, 4, 5] ?_) | (refine ZgO [0, 1, 2, 3, 4, 5] ?_; refine ZO2 _ 6 [0, 1, 2, 3, 4, 5, 6] 7 [0, 1, 2, 3, 4, 5, 7] ?_ ?_) | (refine ZgO [0, 1, 2, 3, 4, 5, 6] ?_; refine ZO2 _ 7 [0, 1, 2, 3, 4, 5, 6, 7] 8 [0, 1, 2, 3, 4, 5, 6, 8] ?_ ?_) | (refine ZgO [0, 1, 2, 3, 4, 5, 6, 7] ?_; refine ZO1 _ 8 [0, 1, 2, 3, 4, 5, 6, 7, 8] ?_) | (refine ZgO [0, 1, 2, 3, 4, 5, 6, 7, 8] ?_; refine ZO1 _ 9 [0, 1, 2, 3, 4, 5, 6, 7, 8, 9] ?_) | (refine ZgO [0, 1, 2, 3, 4, 5, 6, 7, 8, 9] ?_; refine ZOd _ ?_; (try with_reducible apply noP_normal); (try with_reducible exact key.out)) | (refine ZgO [0, 1, 2, 3, 4, 5, 6, 8] ?_; refine ZO1 _ 7 [0, 1, 2, 3, 4, 5, 6, 7, 8] ?_) | (refine ZgO [0, 1, 2, 3, 4, 5, 7] ?_; refine ZO1 _ 6 [0, 1, 2, 3, 4, 5, 6, 7] ?_)) | (refine Zhn ?_) | (with_reducible apply QBlock_normal) | (refine Zhx ?_) | (with_reducible apply QBlock_hit) | (refine Zqb ?_) | (with_reducible apply QLoop_exit) | (refine Zhr ?_) | (with_reducible apply QBlock_ret) | (with_reducible apply QLoop_ret) | (refine AWalk_0 ?_) | (with_reducible apply QAny_normal) | (with_reducible apply QC_normal))
      all_goals exact hC.nor ⟨b1, c1, X1⟩ _ _ (.cons rfl (.cons rfl .nil)) (by repeat (first | exact Off.frame rfl | exact Off.refl _ _ | refine Off.frameT rfl rfl ?_ | refine Off.upd rfl ?_ | refine Off.updO rfl ?_)) (Sub.appK (by repeat (first | exact Sub.refl _ | assumption | exact Sub.left | (with_reducible refine Sub.pick (by repeat (first | exact Pick.here | apply Pick.there)) ?_) | apply Sub.cons | apply Sub.sv | apply Sub.app))) hX1
    rintro ⟨b1, c1, X1⟩ j1 hX1
    dsimp only at hX1 ⊢
    unfold hvL
    repeat' (first | (refine GiP ?_; first | (refine Znh ?_) | (with_reducible refine Znl ?_)) | (refine GiW ?_; first | (refine Zsq fun K hK => ?_) | (refine ZrN 2 fun _ => ?_; refine Zv Zmi ?_; refine Zv Zyneq ?_) | (refine ZrN 4 fun _ => ?_; refine Zv Zai ?_) | (refine WP_cond_true rfl ?_) | (refine WP_cond_false rfl ?_) | (refine Zcd (fun hc => ?_) (fun hc => ?_) <;> (try (exfalso; omega))) | (with_reducible apply WP_skip) | (with_reducible apply WP_block) | (with_reducible apply WP_exit) | (with_reducible apply WP_ret)) | (refine Zhn ?_) | (with_reducible apply QBlock_normal) | (refine Zhx ?_) | (with_reducible apply QBlock_hit) | (refine Zqb ?_) | (with_reducible apply QLoop_exit) | (refine Zhr ?_) | (with_reducible apply QBlock_ret) | (with_reducible apply QLoop_ret))
    refine WP_loop [4, 5, 8, 20, 21, 22, 23, 24, 25, 26, 27, 28, 29, 30, 31, 32, 33, 34, 35, 36] (fun d : Nat => [(8, .int .i64 (d : Int))]) (fun _ => X1 ++ ((b2, Blk 27 (hvL g)) :: L)) (fun d => d ≤ g.h.rains.length ∧ ∀ k, k < d → dryDay g.h [i] k = false) (fun d => g.h.rains.length - d) 0 (.cons rfl .nil) (by repeat (first | exact Wk.refl _ | apply Wk.keep1 | apply Wk.drop | apply Wk.sv | apply Wk.svD | apply Wk.appD)) ⟨Nat.zero_le _, fun k hk => absurd hk (Nat.not_lt_zero _)⟩ ?_
    rintro d j2 ⟨hd, hno⟩
    unfold hvL
    by_cases hlt : d < g.h.rains.length
    · have h55d := fun L v hl => h55 L v hl d hlt
      obtain ⟨⟨wl, wh⟩, hws⟩ : ∃ s : Sp, wetS g.h i d = s := ⟨_, rfl⟩
      have hdd : dryDay g.h [i] d = decide (wh ≤ lim) := by rw [dryDay_one hv, dr, hws, hlim]
      rw [hws] at h55d
      dsimp only at h55d
      rw [hlim] at h55d ⊢
      by_cases hc1 : wh ≤ lim
      · rw [decide_eq_true hc1] at hdd
        have hw := whenD_some hlt hdd hno
        obtain ⟨rfl, rfl⟩ := hsome d hw
        repeat' (first | (refine GiP ?_; first | (refine Znh ?_) | (with_reducible refine Znl ?_)) | (refine GiW ?_; first | (refine Zsq fun K hK => ?_) | (refine ZrN 5 fun _ => ?_; refine Zv Zmi ?_; refine Zv Zfa ?_; refine Zv Zld ?_; refine Zv Zxlen ?_; refine Zv Zylss ?_) | (refine ZrN 8 fun _ => ?_; refine Zv Zmi ?_; refine Zv Zai ?_; refine Zv Zai ?_) | (refine WP_cond_true rfl ?_) | (refine WP_cond_false rfl ?_) | (refine Zcd (fun hc => ?_) (fun hc => ?_) <;> (try (exfalso; omega))) | (with_reducible apply WP_skip) | (with_reducible apply WP_block) | (with_reducible apply WP_exit) | (with_reducible apply WP_ret) | (refine WP_drawnS (id := 7) [] [0, 1, 2, 3, 4, 5, 6, 7, 8] [] [] (k := 0) (k2 := 0) (by repeat (first | apply Sub.sv | apply Sub.keep | apply Sub.appK | exact Sub.refl _)) (by kernel_rfl) prog_mixed (by kernel_rfl) (by kernel_rfl) rfl ?_; refine Zew rfl Zla ?_; refine Zew rfl Zmv ?_; refine Zew rfl Zmi ?_; refine Zew rfl Zmi ?_; refine Zec rfl (Enters_fn rfl) (fun X => h55d _ _ (hX1.wk (by repeat (first | exact Wk.appR _ _ | apply Wk.appD | apply Wk.drop | apply Wk.svD)))) ?_; refine Zew rfl Zxfi ?_; refine Zew rfl Zfa ?_; refine Zew rfl Zld ?_; refine Zew rfl Zyleq ?_)) | (with_reducible apply EWalk_nil) | (refine ZgC [0, 1, 2, 3, 4, 5, 6, 7, 8] ?_; refine ZCd _ ?_) | (refine Zhn ?_) | (with_reducible apply QBlock_normal) | (refine Zhx ?_) | (with_reducible apply QBlock_hit) | (refine Zqb ?_) | (with_reducible apply QLoop_exit) | (refine Zhr ?_) | (with_reducible apply QBlock_ret) | (with_reducible apply QLoop_ret) | (refine AWalk_0 ?_) | (with_reducible apply QC_normal))
        exact QBody_res rfl (.tmp rfl (.tmp rfl .nil)) rfl ⟨rfl, (by repeat (first | exact Wk.refl _ | apply Wk.keep1 | apply Wk.drop | apply Wk.sv | apply Wk.svD | apply Wk.appD))⟩
      · rw [decide_eq_false hc1] at hdd
        repeat' (first | (refine GiP ?_; first | (refine Znh ?_) | (with_reducible refine Znl ?_)) | (refine GiW ?_; first | (refine Zsq fun K hK => ?_) | (refine ZrN 5 fun _ => ?_; refine Zv Zmi ?_; refine Zv Zfa ?_; refine Zv Zld ?_; refine Zv Zxlen ?_; refine Zv Zylss ?_) | (refine ZrN 6 fun _ => ?_; refine Zv Zmi ?_; refine Zv Zxadd ?_; refine Zv Zai ?_) | (refine WP_cond_true rfl ?_) | (refine WP_cond_false rfl ?_) | (refine Zcd (fun hc => ?_) (fun hc => ?_) <;> (try (exfalso; omega))) | (with_reducible apply WP_skip) | (with_reducible apply WP_block) | (with_reducible apply WP_exit) | (with_reducible apply WP_ret) | (refine WP_drawnS (id := 7) [] [0, 1, 2, 3, 4, 5, 6, 7, 8] [] [] (k := 0) (k2 := 0) (by repeat (first | apply Sub.sv | apply Sub.keep | apply Sub.appK | exact Sub.refl _)) (by kernel_rfl) prog_mixed (by kernel_rfl) (by kernel_rfl) rfl ?_; refine Zew rfl Zla ?_; refine Zew rfl Zmv ?_; refine Zew rfl Zmi ?_; refine Zew rfl Zmi ?_; refine Zec rfl (Enters_fn rfl) (fun X => h55d _ _ (hX1.wk (by repeat (first | exact Wk.appR _ _ | apply Wk.appD | apply Wk.drop | apply Wk.svD)))) ?_; refine Zew rfl Zxfi ?_; refine Zew rfl Zfa ?_; refine Zew rfl Zld ?_; refine Zew rfl Zyleq ?_)) | (with_reducible apply EWalk_nil) | (refine ZgC [0, 1, 2, 3, 4, 5, 6, 7, 8] ?_; refine ZCd _ ?_) | (refine Zhn ?_) | (with_reducible apply QBlock_normal) | (refine Zhx ?_) | (with_reducible apply QBlock_hit) | (refine Zqb ?_) | (with_reducible apply QLoop_exit) | (refine Zhr ?_) | (with_reducible apply QBlock_ret) | (with_reducible apply QLoop_ret) | (refine AWalk_0 ?_) | (with_reducible apply QC_normal))
        exact QLoop_normal (d + 1) (.cons rfl .nil) (by repeat (first | exact Off.frame rfl | exact Off.refl _ _ | refine Off.frameT rfl rfl ?_ | refine Off.upd rfl ?_ | refine Off.updO rfl ?_)) (by repeat (first | exact Wk.refl _ | apply Wk.keep1 | apply Wk.drop | apply Wk.sv | apply Wk.svD | apply Wk.appD)) ⟨by omega, fun k hk => by by_cases hkd : k = d; rw [hkd]; exact hdd; exact hno k (by omega)⟩ (by omega)
    · have hw : whenD g.h [i] = none := whenD_none (by rw [show d = g.h.rains.length by omega] at hno; exact hno)
      obtain ⟨rfl, rfl⟩ := hnone hw
      repeat' (first | (refine GiP ?_; first | (refine Znh ?_) | (with_reducible refine Znl ?_)) | (refine GiW ?_; first | (refine Zsq fun K hK => ?_) | (refine ZrN 5 fun _ => ?_; refine Zv Zmi ?_; refine Zv Zfa ?_; refine Zv Zld ?_; refine Zv Zxlen ?_; refine Zv Zylss ?_) | (refine ZrN 9 fun _ => ?_; refine Zv Zai ?_; refine Zv Zai ?_) | (refine WP_cond_true rfl ?_) | (refine WP_cond_false rfl ?_) | (refine Zcd (fun hc => ?_) (fun hc => ?_) <;> (try (exfalso; omega))) | (with_reducible apply WP_skip) | (with_reducible apply WP_block) | (with_reducible apply WP_exit) | (with_reducible apply WP_ret)) | (refine Zhn ?_) | (with_reducible apply QBlock_normal) | (refine Zhx ?_) | (with_reducible apply QBlock_hit) | (refine Zqb ?_) | (with_reducible apply QLoop_exit) | (refine Zhr ?_) | (with_reducible apply QBlock_ret) | (with_reducible apply QLoop_ret))
      exact QBody_res rfl (.tmp rfl (.tmp rfl .nil)) rfl ⟨rfl, (by repeat (first | exact Wk.refl _ | apply Wk.keep1 | apply Wk.drop | apply Wk.sv | apply Wk.svD | apply Wk.appD))⟩
  · have hw : WhenE g.h heap = errE g.h (HeapOk g.h heap) := by unfold WhenE errW; rw [if_neg he]
    have hw2 : WhenV g.h heap = 0 := by
      have : WhenV g.h heap = if WhenE g.h heap = 0 then (((whenD g.h [heap.toNat]).getD 0 : Nat) : Int) else (0 : Int) := rfl
      rw [this, hw, if_neg he]
    rw [hw, hw2]
    have h52 := fun L => known52_err N w0 L g hA h1 h2 h3 (HeapOk g.h heap) he
    obtain ⟨e, hee⟩ : ∃ e, errE g.h (HeapOk g.h heap) = e := ⟨_, rfl⟩
    rw [hee] at h52 he ⊢
    clear hee
    unfold HeapOk at h52
    obtain ⟨b2, hb2⟩ : ∃ b, within heap 0 (g.h.heaps.length - 1) = b := ⟨_, rfl⟩
    rw [hb2] at h52 h53
    unfold heapV hvL at h52 h53 ⊢
    repeat' (first | (refine GiP ?_; first | (refine Znh ?_) | (with_reducible refine Znl ?_)) | (refine GiW ?_; first | (refine Zsq fun K hK => ?_) | (refine ZrN 0 fun _ => ?_; refine Zal 2 fun b2 => ?_; refine Zv Zai ?_; refine Zv Zai ?_) | (refine ZrN 2 fun _ => ?_; refine Zv Zmi ?_; refine Zv Zyneq ?_) | (refine ZrN 3 fun _ => ?_; refine Zv Zmi ?_; refine Zv Zai ?_; refine Zv Zai ?_) | (refine WP_cond_true rfl ?_) | (refine WP_cond_false rfl ?_) | (refine Zcd (fun hc => ?_) (fun hc => ?_) <;> (try (exfalso; omega))) | (with_reducible apply WP_skip) | (with_reducible apply WP_block) | (with_reducible apply WP_exit) | (with_reducible apply WP_ret) | (refine WP_drawnS (id := 1) [] [0, 1, 2, 3, 4, 5, 6, 7, 8, 9] [] [] (k := 0) (k2 := 0) (by repeat (first | apply Sub.sv | apply Sub.keep | apply Sub.appK | exact Sub.refl _)) (by kernel_rfl) prog_mixed (by kernel_rfl) (by kernel_rfl) rfl ?_; refine Zew rfl Zla ?_; refine Zew rfl Zla ?_; refine Zew rfl Zmi ?_; refine Zec rfl (Enters_fn rfl) (fun X => h53 _) ?_; refine Zec rfl (Enters_fn rfl) (fun X => h52 _) ?_; refine Zew rfl Zmv ?_; refine Zew rfl Zxex ?_; refine Zew rfl Zxex ?_; refine Zew rfl Zav ?_; refine Zew rfl Zai ?_)) | (with_reducible apply EWalk_nil) | (refine ZgC [0, 1, 2, 3, 4, 5, 6, 7, 8, 9] ?_; refine ZCd _ ?_) | (refine Zhn ?_) | (with_reducible apply QBlock_normal) | (refine Zhx ?_) | (with_reducible apply QBlock_hit) | (refine Zqb ?_) | (with_reducible apply QLoop_exit) | (refine Zhr ?_) | (with_reducible apply QBlock_ret) | (with_reducible apply QLoop_ret) | (refine AWalk_0 ?_) | (with_reducible apply QC_normal))
    all_goals exact QBody_res rfl (.tmp rfl (.tmp rfl .nil)) rfl ⟨rfl, (by repeat (first | exact Wk.refl _ | apply Wk.keep1 | apply Wk.drop | apply Wk.sv | apply Wk.svD | apply Wk.appD))⟩
end
end Go.Proofs.Ytlpahkmfjpjheaa
end

section
namespace Go.Proofs.Ytlpahkmfjpjheaa
open Go.RowKit
theorem all_snoc' {p : Nat → Bool} {k : Nat} : (List.range (k + 1)).all p = ((List.range k).all p && p k) := by
  rw [List.range_succ, List.all_append]; simp
attribute [local irreducible] AnyO AnyB QAny QB EWalk AWalk Ev WP OPS QThen QBlock QScope QLoop QBody Val New Turn Tri Enters PostA Blk Ro
attribute [local irreducible] AnyC QC
section
variable (N : Nat) (w0 : World)
set_option maxRecDepth 100000 in
set_option maxHeartbeats 4000000 in
theorem all23_ret (L : Hp) (g : Bg) (hA : HeapAt N w0 g) (h1 : g.h.heaps.length ≤ 1000000) (h2 : g.h.rains.length ≤ 1000000) (h3 : g.h.looks.length ≤ 1000000) :
    Ret Try.prog N w0 L 23 [heapV g].toArray (.tuple [.int .i64 (AllV g.h), .int .i64 (AllE g.h)].toArray) := by
  refine Ret.fgt ?_
  refine tri_of_WP Try.func23 rfl (n := 45) rfl (by simp) ?_
  by_cases he : errE g.h true = 0
  · obtain ⟨hvb, hok, h0⟩ := errE_zero he
    have hv := VH_of hvb
    have hsome := fun d => when_some' he (w := whenD g.h (List.range g.h.heaps.length)) (d := d)
    have hnone := when_none' he (w := whenD g.h (List.range g.h.heaps.length))
    obtain ⟨we, hwe⟩ : ∃ x, AllE g.h = x := ⟨_, rfl⟩
    obtain ⟨wv, hwv⟩ : ∃ x, AllV g.h = x := ⟨_, rfl⟩
    rw [show errW g.h true (whenD g.h (List.range g.h.heaps.length)) = we from hwe] at hsome hnone
    rw [show (if we = 0 then (((whenD g.h (List.range g.h.heaps.length)).getD 0 : Nat) : Int) else 0) = wv by rw [← hwe]; exact hwv] at hsome hnone
    rw [hwe, hwv]
    clear hwe hwv
    have h52 := fun L => known52_ok N w0 L g hA hv h0
    obtain ⟨lim, hlim⟩ : ∃ x, g.h.limit = x := ⟨_, rfl⟩
    have h55 := fun L v hl i d hi hd => wet55_told N w0 L g hA hv h0 v hl i d hi hd
    have hnh := hv.nh
    have hnr := hv.nr
    unfold heapV hvL at h52 h55 ⊢
    repeat' (first | (refine GiP ?_; first | (refine Znh ?_) | (with_reducible refine Znl ?_)) | (refine GiW ?_; first | (refine Zsq fun K hK => ?_) | (refine ZrN 0 fun _ => ?_; refine Zal 1 fun b1 => ?_; refine Zv Zai ?_; refine Zv Zai ?_) | (refine ZrN 1 fun _ => ?_; refine Zv Zla ?_; refine OPS_retKS (Enters_fn rfl) (h52 _) rfl rfl rfl (fun v11 L11 h11 => ?_); obtain ⟨bk, c1, X1, rfl, rfl, hX1⟩ := h11; refine Zv Zmv ?_; refine Zv Zxex ?_; refine Zv Zxex ?_; refine Zv Zav ?_; refine Zv Zai ?_) | (refine ZrN 2 fun _ => ?_; refine Zv Zmi ?_; refine Zv Zyneq ?_) | (refine ZrN 4 fun _ => ?_; refine Zv Zai ?_) | (refine WP_cond_true rfl ?_) | (refine WP_cond_false rfl ?_) | (refine Zcd (fun hc => ?_) (fun hc => ?_) <;> (try (exfalso; omega))) | (with_reducible apply WP_skip) | (with_reducible apply WP_block) | (with_reducible apply WP_exit) | (with_reducible apply WP_ret)) | (refine Zhn ?_) | (with_reducible apply QBlock_normal) | (refine Zhx ?_) | (with_reducible apply QBlock_hit) | (refine Zqb ?_) | (with_reducible apply QLoop_exit) | (refine Zhr ?_) | (with_reducible apply QBlock_ret) | (with_reducible apply QLoop_ret))
    refine WP_loop [2, 3, 6, 7, 8, 17, 18, 19, 20, 21, 22, 23, 24, 25, 26, 27, 28, 29, 30, 31, 32, 33, 34, 35, 36, 37, 38, 39, 40, 41, 42, 43, 44] (fun d : Nat => [(6, .int .i64 (d : Int))]) (fun _ => X1 ++ ((b1, Blk 27 (hvL g)) :: L)) (fun d => d ≤ g.h.rains.length ∧ ∀ k, k < d → dryDay g.h (List.range g.h.heaps.length) k = false) (fun d => g.h.rains.length - d) 0 (.cons rfl .nil) (by repeat (first | exact Wk.refl _ | apply Wk.keep1 | apply Wk.drop | apply Wk.sv | apply Wk.svD | apply Wk.appD)) ⟨Nat.zero_le _, fun k hk => absurd hk (Nat.not_lt_zero _)⟩ ?_
    rintro d j2 ⟨hd, hno⟩
    unfold hvL
    by_cases hlt : d < g.h.rains.length
    · have h55d := fun L v hl i hi => h55 L v hl i d hi hlt
      repeat' (first | (refine GiP ?_; first | (refine Znh ?_) | (with_reducible refine Znl ?_)) | (refine GiW ?_; first | (refine Zsq fun K hK => ?_) | (refine ZrN 5 fun _ => ?_; refine Zv Zmi ?_; refine Zv Zfa ?_; refine Zv Zld ?_; refine Zv Zxlen ?_; refine Zv Zylss ?_) | (refine ZrN 7 fun _ => ?_; refine Zv Zab ?_) | (refine ZrN 8 fun _ => ?_; refine Zv Zai ?_) | (refine WP_cond_true rfl ?_) | (refine WP_cond_false rfl ?_) | (refine Zcd (fun hc => ?_) (fun hc => ?_) <;> (try (exfalso; omega))) | (with_reducible apply WP_skip) | (with_reducible apply WP_block) | (with_reducible apply WP_exit) | (with_reducible apply WP_ret)) | (refine Zhn ?_) | (with_reducible apply QBlock_normal) | (refine Zhx ?_) | (with_reducible apply QBlock_hit) | (refine Zqb ?_) | (with_reducible apply QLoop_exit) | (refine Zhr ?_) | (with_reducible apply QBlock_ret) | (with_reducible apply QLoop_ret))
      refine WP_loop [7, 8, 24, 25, 26, 27, 28, 29, 30, 31, 32, 33, 34, 35, 36, 37, 38, 39, 40, 41, 42] (fun st : Nat × Bool => [(8, .int .i64 (st.1 : Int)), (7, .bool st.2)]) (fun _ => X1 ++ ((b1, Blk 27 (hvL g)) :: L)) (fun st => st.1 ≤ g.h.heaps.length ∧ st.2 = (List.range st.1).all fun k => dr g.h k d) (fun st => g.h.heaps.length - st.1) (0, true) (.cons rfl (.cons rfl .nil)) (by repeat (first | exact Wk.refl _ | apply Wk.keep1 | apply Wk.drop | apply Wk.sv | apply Wk.svD | apply Wk.appD)) ⟨Nat.zero_le _, rfl⟩ ?_
      rintro ⟨k, q⟩ j3 ⟨hk, hq⟩
      dsimp only at hk hq ⊢
      unfold hvL
      by_cases hkl : k < g.h.heaps.length
      · have h55k := fun L v hl => h55d L v hl k hkl
        obtain ⟨⟨wl, wh⟩, hws⟩ : ∃ s : Sp, wetS g.h k d = s := ⟨_, rfl⟩
        have hdd : dr g.h k d = decide (wh ≤ lim) := by rw [dr, hws, hlim]
        rw [hws] at h55k
        dsimp only at h55k
        rw [hlim] at h55k ⊢
        have hsn := all_snoc' (p := fun k => dr g.h k d) (k := k)
        rw [← hq] at hsn
        rw [hdd] at hsn
        cases q
        · repeat' (first | (refine GiP ?_; first | (refine Znh ?_) | (with_reducible refine Znl ?_)) | (refine GiW ?_; first | (refine Zsq fun K hK => ?_) | (refine ZrN 9 fun _ => ?_; refine Zv Zmi ?_; refine Zv Zf0 ?_; refine Zv Zld ?_; refine Zv Zxlen ?_; refine Zv Zylss ?_) | (refine ZrN 10 fun _ => ?_; refine Zv Zmi ?_; refine Zv Zxadd ?_; refine Zv Zai ?_) | (refine WP_cond_true rfl ?_) | (refine WP_cond_false rfl ?_) | (refine Zcd (fun hc => ?_) (fun hc => ?_) <;> (try (exfalso; omega))) | (with_reducible apply WP_skip) | (with_reducible apply WP_block) | (with_reducible apply WP_exit) | (with_reducible apply WP_ret) | (refine WP_drawnS (id := 11) [] [0, 1, 2, 3, 4, 5, 6, 7, 8, 9, 10, 11, 12] [] [] (k := 0) (k2 := 0) (by repeat (first | apply Sub.sv | apply Sub.keep | apply Sub.appK | exact Sub.refl _)) (by kernel_rfl) prog_mixed (by kernel_rfl) (by kernel_rfl) rfl ?_; refine Zew rfl Zmb ?_; refine Zew rfl Zmb ?_)) | (refine GiE ?_; first | (refine Zati 11 ?_; (first | (refine Zew rfl Zxpt ?_) | (refine Zew rfl Zxpf ?_)); refine Zew rfl Zab ?_) | (refine Zati 2 ?_; refine Zew rfl Zla ?_) | (refine Zati 3 ?_; refine Zew rfl Zmv ?_) | (refine Zati 4 ?_; refine Zew rfl Zmi ?_) | (refine Zati 5 ?_; refine Zew rfl Zmi ?_) | (refine Zati 6 ?_; refine Zec rfl (Enters_fn rfl) (fun X => h55k _ _ (hX1.wk (by repeat (first | exact Wk.appR _ _ | apply Wk.appD | apply Wk.drop | apply Wk.svD)))) ?_) | (refine Zati 7 ?_; refine Zew rfl Zxfi ?_) | (refine Zati 8 ?_; refine Zew rfl Zfa ?_) | (refine Zati 9 ?_; refine Zew rfl Zld ?_) | (refine Zati 10 ?_; refine Zew rfl Zyleq ?_) | (refine Zes ?_) | (refine Zesp (fun hc => ?_) (fun hc => ?_) <;> (try (exfalso; omega))) | (with_reducible apply EWalk_nil)) | (refine ZgC [0, 1, 2, 3, 4, 5, 6, 7, 8, 9, 10, 11, 12] ?_; refine ZCd _ ?_) | (refine Zhn ?_) | (with_reducible apply QBlock_normal) | (refine Zhx ?_) | (with_reducible apply QBlock_hit) | (refine Zqb ?_) | (with_reducible apply QLoop_exit) | (refine Zhr ?_) | (with_reducible apply QBlock_ret) | (with_reducible apply QLoop_ret) | (refine AWalk_0 ?_) | (with_reducible apply QC_normal))
          all_goals exact QLoop_normal (k + 1, false) (.cons rfl (.cons rfl .nil)) (by repeat (first | exact Off.frame rfl | exact Off.refl _ _ | refine Off.frameT rfl rfl ?_ | refine Off.upd rfl ?_ | refine Off.updO rfl ?_)) (by repeat (first | exact Wk.refl _ | apply Wk.keep1 | apply Wk.drop | apply Wk.sv | apply Wk.svD | apply Wk.appD)) ⟨by dsimp only; omega, by dsimp only; rw [hsn]; rfl⟩ (by dsimp only; omega)
        · by_cases hc1 : wh ≤ lim
          · rw [decide_eq_true hc1] at hsn
            repeat' (first | (refine GiP ?_; first | (refine Znh ?_) | (with_reducible refine Znl ?_)) | (refine GiW ?_; first | (refine Zsq fun K hK => ?_) | (refine ZrN 9 fun _ => ?_; refine Zv Zmi ?_; refine Zv Zf0 ?_; refine Zv Zld ?_; refine Zv Zxlen ?_; refine Zv Zylss ?_) | (refine ZrN 10 fun _ => ?_; refine Zv Zmi ?_; refine Zv Zxadd ?_; refine Zv Zai ?_) | (refine WP_cond_true rfl ?_) | (refine WP_cond_false rfl ?_) | (refine Zcd (fun hc => ?_) (fun hc => ?_) <;> (try (exfalso; omega))) | (with_reducible apply WP_skip) | (with_reducible apply WP_block) | (with_reducible apply WP_exit) | (with_reducible apply WP_ret) | (refine WP_drawnS (id := 11) [] [0, 1, 2, 3, 4, 5, 6, 7, 8, 9, 10, 11, 12] [] [] (k := 0) (k2 := 0) (by repeat (first | apply Sub.sv | apply Sub.keep | apply Sub.appK | exact Sub.refl _)) (by kernel_rfl) prog_mixed (by kernel_rfl) (by kernel_rfl) rfl ?_; refine Zew rfl Zmb ?_; refine Zew rfl Zmb ?_)) | (refine GiE ?_; first | (refine Zati 11 ?_; (first | (refine Zew rfl Zxpt ?_) | (refine Zew rfl Zxpf ?_)); refine Zew rfl Zab ?_) | (refine Zati 2 ?_; refine Zew rfl Zla ?_) | (refine Zati 3 ?_; refine Zew rfl Zmv ?_) | (refine Zati 4 ?_; refine Zew rfl Zmi ?_) | (refine Zati 5 ?_; refine Zew rfl Zmi ?_) | (refine Zati 6 ?_; refine Zec rfl (Enters_fn rfl) (fun X => h55k _ _ (hX1.wk (by repeat (first | exact Wk.appR _ _ | apply Wk.appD | apply Wk.drop | apply Wk.svD)))) ?_) | (refine Zati 7 ?_; refine Zew rfl Zxfi ?_) | (refine Zati 8 ?_; refine Zew rfl Zfa ?_) | (refine Zati 9 ?_; refine Zew rfl Zld ?_) | (refine Zati 10 ?_; refine Zew rfl Zyleq ?_) | (refine Zes ?_) | (refine Zesp (fun hc => ?_) (fun hc => ?_) <;> (try (exfalso; omega))) | (with_reducible apply EWalk_nil)) | (refine ZgC [0, 1, 2, 3, 4, 5, 6, 7, 8, 9, 10, 11, 12] ?_; refine ZCd _ ?_) | (refine Zhn ?_) | (with_reducible apply QBlock_normal) | (refine Zhx ?_) | (with_reducible apply QBlock_hit) | (refine Zqb ?_) | (with_reducible apply QLoop_exit) | (refine Zhr ?_) | (with_reducible apply QBlock_ret) | (with_reducible apply QLoop_ret) | (refine AWalk_0 ?_) | (with_reducible apply QC_normal))
            all_goals exact QLoop_normal (k + 1, true) (.cons rfl (.cons rfl .nil)) (by repeat (first | exact Off.frame rfl | exact Off.refl _ _ | refine Off.frameT rfl rfl ?_ | refine Off.upd rfl ?_ | refine Off.updO rfl ?_)) (by repeat (first | exact Wk.refl _ | apply Wk.keep1 | apply Wk.drop | apply Wk.sv | apply Wk.svD | apply Wk.appD)) ⟨by dsimp only; omega, by dsimp only; rw [hsn]; rfl⟩ (by dsimp only; omega)
          · rw [decide_eq_false hc1] at hsn
            repeat' (first | (refine GiP ?_; first | (refine Znh ?_) | (with_reducible refine Znl ?_)) | (refine GiW ?_; first | (refine Zsq fun K hK => ?_) | (refine ZrN 9 fun _ => ?_; refine Zv Zmi ?_; refine Zv Zf0 ?_; refine Zv Zld ?_; refine Zv Zxlen ?_; refine Zv Zylss ?_) | (refine ZrN 10 fun _ => ?_; refine Zv Zmi ?_; refine Zv Zxadd ?_; refine Zv Zai ?_) | (refine WP_cond_true rfl ?_) | (refine WP_cond_false rfl ?_) | (refine Zcd (fun hc => ?_) (fun hc => ?_) <;> (try (exfalso; omega))) | (with_reducible apply WP_skip) | (with_reducible apply WP_block) | (with_reducible apply WP_exit) | (with_reducible apply WP_ret) | (refine WP_drawnS (id := 11) [] [0, 1, 2, 3, 4, 5, 6, 7, 8, 9, 10, 11, 12] [] [] (k := 0) (k2 := 0) (by repeat (first | apply Sub.sv | apply Sub.keep | apply Sub.appK | exact Sub.refl _)) (by kernel_rfl) prog_mixed (by kernel_rfl) (by kernel_rfl) rfl ?_; refine Zew rfl Zmb ?_; refine Zew rfl Zmb ?_)) | (refine GiE ?_; first | (refine Zati 11 ?_; (first | (refine Zew rfl Zxpt ?_) | (refine Zew rfl Zxpf ?_)); refine Zew rfl Zab ?_) | (refine Zati 2 ?_; refine Zew rfl Zla ?_) | (refine Zati 3 ?_; refine Zew rfl Zmv ?_) | (refine Zati 4 ?_; refine Zew rfl Zmi ?_) | (refine Zati 5 ?_; refine Zew rfl Zmi ?_) | (refine Zati 6 ?_; refine Zec rfl (Enters_fn rfl) (fun X => h55k _ _ (hX1.wk (by repeat (first | exact Wk.appR _ _ | apply Wk.appD | apply Wk.drop | apply Wk.svD)))) ?_) | (refine Zati 7 ?_; refine Zew rfl Zxfi ?_) | (refine Zati 8 ?_; refine Zew rfl Zfa ?_) | (refine Zati 9 ?_; refine Zew rfl Zld ?_) | (refine Zati 10 ?_; refine Zew rfl Zyleq ?_) | (refine Zes ?_) | (refine Zesp (fun hc => ?_) (fun hc => ?_) <;> (try (exfalso; omega))) | (with_reducible apply EWalk_nil)) | (refine ZgC [0, 1, 2, 3, 4, 5, 6, 7, 8, 9, 10, 11, 12] ?_; refine ZCd _ ?_) | (refine Zhn ?_) | (with_reducible apply QBlock_normal) | (refine Zhx ?_) | (with_reducible apply QBlock_hit) | (refine Zqb ?_) | (with_reducible apply QLoop_exit) | (refine Zhr ?_) | (with_reducible apply QBlock_ret) | (with_reducible apply QLoop_ret) | (refine AWalk_0 ?_) | (with_reducible apply QC_normal))
            all_goals exact QLoop_normal (k + 1, false) (.cons rfl (.cons rfl .nil)) (by repeat (first | exact Off.frame rfl | exact Off.refl _ _ | refine Off.frameT rfl rfl ?_ | refine Off.upd rfl ?_ | refine Off.updO rfl ?_)) (by repeat (first | exact Wk.refl _ | apply Wk.keep1 | apply Wk.drop | apply Wk.sv | apply Wk.svD | apply Wk.appD)) ⟨by dsimp only; omega, by dsimp only; rw [hsn]; rfl⟩ (by dsimp only; omega)
      · have hkn : k = g.h.heaps.length := by omega
        have hdd := dryDay_all hv d
        rw [← hkn, ← hq, hkn] at hdd
        cases q
        · repeat' (first | (refine GiP ?_; first | (refine Znh ?_) | (with_reducible refine Znl ?_)) | (refine GiW ?_; first | (refine Zsq fun K hK => ?_) | (refine ZrN 9 fun _ => ?_; refine Zv Zmi ?_; refine Zv Zf0 ?_; refine Zv Zld ?_; refine Zv Zxlen ?_; refine Zv Zylss ?_) | (refine ZrN 12 fun _ => ?_; refine Zv Zmb ?_) | (refine ZrN 6 fun _ => ?_; refine Zv Zmi ?_; refine Zv Zxadd ?_; refine Zv Zai ?_) | (refine WP_cond_true rfl ?_) | (refine WP_cond_false rfl ?_) | (refine Zcd (fun hc => ?_) (fun hc => ?_) <;> (try (exfalso; omega))) | (with_reducible apply WP_skip) | (with_reducible apply WP_block) | (with_reducible apply WP_exit) | (with_reducible apply WP_ret)) | (refine Zhn ?_) | (with_reducible apply QBlock_normal) | (refine Zhx ?_) | (with_reducible apply QBlock_hit) | (refine Zqb ?_) | (with_reducible apply QLoop_exit) | (refine Zhr ?_) | (with_reducible apply QBlock_ret) | (with_reducible apply QLoop_ret))
          exact QLoop_normal (d + 1) (.cons rfl .nil) (by repeat (first | exact Off.frame rfl | exact Off.refl _ _ | refine Off.frameT rfl rfl ?_ | refine Off.upd rfl ?_ | refine Off.updO rfl ?_)) (by repeat (first | exact Wk.refl _ | apply Wk.keep1 | apply Wk.drop | apply Wk.sv | apply Wk.svD | apply Wk.appD)) ⟨by omega, fun k' hk' => by by_cases hkd : k' = d; rw [hkd]; exact hdd; exact hno k' (by omega)⟩ (by omega)
        · obtain ⟨rfl, rfl⟩ := hsome d (whenD_some hlt hdd hno)
          repeat' (first | (refine GiP ?_; first | (refine Znh ?_) | (with_reducible refine Znl ?_)) | (refine GiW ?_; first | (refine Zsq fun K hK => ?_) | (refine ZrN 9 fun _ => ?_; refine Zv Zmi ?_; refine Zv Zf0 ?_; refine Zv Zld ?_; refine Zv Zxlen ?_; refine Zv Zylss ?_) | (refine ZrN 12 fun _ => ?_; refine Zv Zmb ?_) | (refine ZrN 13 fun _ => ?_; refine Zv Zmi ?_; refine Zv Zai ?_; refine Zv Zai ?_) | (refine ZrN 6 fun _ => ?_; refine Zv Zmi ?_; refine Zv Zxadd ?_; refine Zv Zai ?_) | (refine WP_cond_true rfl ?_) | (refine WP_cond_false rfl ?_) | (refine Zcd (fun hc => ?_) (fun hc => ?_) <;> (try (exfalso; omega))) | (with_reducible apply WP_skip) | (with_reducible apply WP_block) | (with_reducible apply WP_exit) | (with_reducible apply WP_ret)) | (refine Zhn ?_) | (with_reducible apply QBlock_normal) | (refine Zhx ?_) | (with_reducible apply QBlock_hit) | (refine Zqb ?_) | (with_reducible apply QLoop_exit) | (refine Zhr ?_) | (with_reducible apply QBlock_ret) | (with_reducible apply QLoop_ret))
          exact QBody_res rfl (.tmp rfl (.tmp rfl .nil)) rfl ⟨rfl, (by repeat (first | exact Wk.refl _ | apply Wk.keep1 | apply Wk.drop | apply Wk.sv | apply Wk.svD | apply Wk.appD))⟩
    · obtain ⟨rfl, rfl⟩ := hnone (whenD_none (by rw [show d = g.h.rains.length by omega] at hno; exact hno))
      repeat' (first | (refine GiP ?_; first | (refine Znh ?_) | (with_reducible refine Znl ?_)) | (refine GiW ?_; first | (refine Zsq fun K hK => ?_) | (refine ZrN 5 fun _ => ?_; refine Zv Zmi ?_; refine Zv Zfa ?_; refine Zv Zld ?_; refine Zv Zxlen ?_; refine Zv Zylss ?_) | (refine ZrN 14 fun _ => ?_; refine Zv Zai ?_; refine Zv Zai ?_) | (refine WP_cond_true rfl ?_) | (refine WP_cond_false rfl ?_) | (refine Zcd (fun hc => ?_) (fun hc => ?_) <;> (try (exfalso; omega))) | (with_reducible apply WP_skip) | (with_reducible apply WP_block) | (with_reducible apply WP_exit) | (with_reducible apply WP_ret)) | (refine Zhn ?_) | (with_reducible apply QBlock_normal) | (refine Zhx ?_) | (with_reducible apply QBlock_hit) | (refine Zqb ?_) | (with_reducible apply QLoop_exit) | (refine Zhr ?_) | (with_reducible apply QBlock_ret) | (with_reducible apply QLoop_ret))
      exact QBody_res rfl (.tmp rfl (.tmp rfl .nil)) rfl ⟨rfl, (by repeat (first | exact Wk.refl _ | apply Wk.keep1 | apply Wk.drop | apply Wk.sv | apply Wk.svD | apply Wk.appD))⟩
  · have hw : AllE g.h = errE g.h true := by unfold AllE errW; rw [if_neg he]
    have hw2 : AllV g.h = 0 := by
      have : AllV g.h = if AllE g.h = 0 then (((whenD g.h (List.range g.h.heaps.length)).getD 0 : Nat) : Int) else (0 : Int) := rfl
      rw [this, hw, if_neg he]
    rw [hw, hw2]
    have h52 := fun L => known52_err N w0 L g hA h1 h2 h3 true he
    obtain ⟨e, hee⟩ : ∃ e, errE g.h true = e := ⟨_, rfl⟩
    rw [hee] at h52 he ⊢
    clear hee
    unfold heapV hvL at h52 ⊢
    repeat' (first | (refine GiP ?_; first | (refine Znh ?_) | (with_reducible refine Znl ?_)) | (refine GiW ?_; first | (refine Zsq fun K hK => ?_) | (refine ZrN 0 fun _ => ?_; refine Zal 1 fun b1 => ?_; refine Zv Zai ?_; refine Zv Zai ?_) | (refine ZrN 1 fun _ => ?_; refine Zv Zla ?_; refine Zcl (Enters_fn rfl) (h52 _) ?_; refine Zv Zmv ?_; refine Zv Zxex ?_; refine Zv Zxex ?_; refine Zv Zav ?_; refine Zv Zai ?_) | (refine ZrN 2 fun _ => ?_; refine Zv Zmi ?_; refine Zv Zyneq ?_) | (refine ZrN 3 fun _ => ?_; refine Zv Zmi ?_; refine Zv Zai ?_; refine Zv Zai ?_) | (refine WP_cond_true rfl ?_) | (refine WP_cond_false rfl ?_) | (refine Zcd (fun hc => ?_) (fun hc => ?_) <;> (try (exfalso; omega))) | (with_reducible apply WP_skip) | (with_reducible apply WP_block) | (with_reducible apply WP_exit) | (with_reducible apply WP_ret)) | (refine Zhn ?_) | (with_reducible apply QBlock_normal) | (refine Zhx ?_) | (with_reducible apply QBlock_hit) | (refine Zqb ?_) | (with_reducible apply QLoop_exit) | (refine Zhr ?_) | (with_reducible apply QBlock_ret) | (with_reducible apply QLoop_ret))
    all_goals exact QBody_res rfl (.tmp rfl (.tmp rfl .nil)) rfl ⟨rfl, (by repeat (first | exact Wk.refl _ | apply Wk.keep1 | apply Wk.drop | apply Wk.sv | apply Wk.svD | apply Wk.appD))⟩
end
end Go.Proofs.Ytlpahkmfjpjheaa
end

section
namespace Go.Proofs.Ytlpahkmfjpjheaa
open Go.RowKit
attribute [local irreducible] AnyO AnyB QAny QB EWalk AWalk Ev WP OPS QThen QBlock QScope QLoop QBody Val New Turn Tri Enters PostA Blk Ro
attribute [local irreducible] AnyC QC
section
variable (N : Nat) (w0 : World)
set_option maxRecDepth 100000 in
set_option maxHeartbeats 4000000 in
theorem doubt25_ret (L : Hp) (g : Bg) (hA : HeapAt N w0 g) (h1 : g.h.heaps.length ≤ 1000000) (h2 : g.h.rains.length ≤ 1000000) (h3 : g.h.looks.length ≤ 1000000) (day : Int) :
    Ret Try.prog N w0 L 25 [heapV g, .int .i64 day].toArray (.tuple [.int .i64 (DoubtV g.h day).1, .int .i64 (DoubtV g.h day).2, .int .i64 (errE g.h (DayOk g.h day))].toArray) := by
  have h54 := fun L => day54_ret N w0 L g day h2
  refine Ret.fgt ?_
  refine tri_of_WP Try.func25 rfl (n := 51) rfl (by simp) ?_
  by_cases he : errE g.h (DayOk g.h day) = 0
  · obtain ⟨hvb, hok, h0⟩ := errE_zero he
    have hv := VH_of hvb
    have hw : DoubtV g.h day = doubtK g.h day.toNat g.h.heaps.length := by unfold DoubtV; rw [if_pos he]
    rw [he, hw]
    unfold DayOk at hok
    rw [hok] at h54
    obtain ⟨d, rfl, hd⟩ := within_nat hok
    simp only [Int.toNat_natCast]
    have h52 := fun L => known52_ok N w0 L g hA hv h0
    have h55 := fun L v hl i hi => wet55_told N w0 L g hA hv h0 v hl i d hi hd
    have hnh := hv.nh
    unfold heapV hvL at h52 h54 h55 ⊢
    repeat' (first | (refine GiP ?_; first | (refine Znh ?_) | (with_reducible refine Znl ?_)) | (refine GiW ?_; first | (refine Zsq fun K hK => ?_) | (refine ZrN 0 fun _ => ?_; refine Zal 2 fun b2 => ?_; refine Zv Zai ?_; refine Zv Zai ?_; refine Zv Zai ?_) | (refine WP_cond_true rfl ?_) | (refine WP_cond_false rfl ?_) | (refine Zcd (fun hc => ?_) (fun hc => ?_) <;> (try (exfalso; omega))) | (with_reducible apply WP_skip) | (with_reducible apply WP_block) | (with_reducible apply WP_exit) | (with_reducible apply WP_ret)) | (refine Zhn ?_) | (with_reducible apply QBlock_normal) | (refine Zhx ?_) | (with_reducible apply QBlock_hit) | (refine Zqb ?_) | (with_reducible apply QLoop_exit) | (refine Zhr ?_) | (with_reducible apply QBlock_ret) | (with_reducible apply QLoop_ret))
    refine WP_joinS (by assumption) [7, 8, 13, 14, 15, 16, 17, 18, 19, 20] (fun p : KnSt => [(7, .slice (some ⟨p.b, 0, none⟩) (truthsL g.h (evL g.h)).length p.c), (8, .int .i64 0)]) (fun p => p.X ++ ((b2, Blk 27 (hvL g)) :: L)) (fun p => RdT p.X (.slice (some ⟨p.b, 0, none⟩) (truthsL g.h (evL g.h)).length p.c) (truthsL g.h (evL g.h))) ?_ ?_
    · intro K' hC
      unfold hvL at hC
      repeat' (first | (refine GiP ?_; first | (refine Znh ?_) | (with_reducible refine Znl ?_) | (refine Zatd 18 ?_; refine OPS_retKS (Enters_fn rfl) (h52 _) rfl rfl rfl (fun v18 L18 h18 => ?_); obtain ⟨b1, c1, X1, rfl, rfl, hX1⟩ := h18) | (refine Zatd 13 ?_; refine Zv Zmv ?_) | (refine Zatd 19 ?_; refine Zv Zxex ?_) | (refine Zatd 20 ?_; refine Zv Zxex ?_) | (refine Zatd 7 ?_; refine Zv Zav ?_) | (refine Zatd 8 ?_; refine Zv Zai ?_)) | (refine GiW ?_; first | (refine Zsq fun K hK => ?_) | (refine WP_cond_true rfl ?_) | (refine WP_cond_false rfl ?_) | (refine Zcd (fun hc => ?_) (fun hc => ?_) <;> (try (exfalso; omega))) | (with_reducible apply WP_skip) | (with_reducible apply WP_block) | (with_reducible apply WP_exit) | (with_reducible apply WP_ret) | (refine WP_drawnS (id := 1) [] [0, 1, 2, 3] [] [] (k := 0) (k2 := 6) (by repeat (first | apply Sub.sv | apply Sub.keep | apply Sub.appK | exact Sub.refl _)) (by kernel_rfl) prog_mixed (by kernel_rfl) (by kernel_rfl) rfl ?_; refine Zew rfl Zla ?_; refine Zew rfl Zla ?_; refine Zew rfl Zmi ?_; refine Zec rfl (Enters_fn rfl) (fun X => h54 _) ?_)) | (with_reducible apply EWalk_nil) | (refine ZgC [0, 1, 2, 3] ?_; refine ZCl _ ?_) | (refine GiO ?_; first | (refine ZgO [0, 1, 2, 3] ?_; refine ZO1 _ 4 [0, 1, 2, 3, 4] ?_) | (refine ZgO [0, 1, 2, 3, 4] ?_; refine ZO1 _ 5 [0, 1, 2, 3, 4, 5] ?_) | (refine ZgO [0, 1, 2, 3, 4, 5] ?_; refine ZO2 _ 6 [0, 1, 2, 3, 4, 5, 6] 7 [0, 1, 2, 3, 4, 5, 7] ?_ ?_) | (refine ZgO [0, 1, 2, 3, 4, 5, 6] ?_; refine ZO2 _ 7 [0, 1, 2, 3, 4, 5, 6, 7] 8 [0, 1, 2, 3, 4, 5, 6, 8] ?_ ?_) | (refine ZgO [0, 1, 2, 3, 4, 5, 6, 7] ?_; refine ZO1 _ 8 [0, 1, 2, 3, 4, 5, 6, 7, 8] ?_) | (refine ZgO [0, 1, 2, 3, 4, 5, 6, 7, 8] ?_; refine ZO1 _ 9 [0, 1, 2, 3, 4, 5, 6, 7, 8, 9] ?_) | (refine ZgO [0, 1, 2, 3, 4, 5, 6, 7, 8, 9] ?_; refine ZOd _ ?_; (try with_reducible apply noP_normal); (try with_reducible exact key.out)) | (refine ZgO [0, 1, 2, 3, 4, 5, 6, 8] ?_; refine ZO1 _ 7 [0, 1, 2, 3, 4, 5, 6, 7, 8] ?_) | (refine ZgO [0, 1, 2, 3, 4, 5, 7] ?_; refine ZO1 _ 6 [0, 1, 2, 3, 4, 5, 6, 7] ?_)) | (refine Zhn ?_) | (with_reducible apply QBlock_normal) | (refine Zhx ?_) | (with_reducible apply QBlock_hit) | (refine Zqb ?_) | (with_reducible apply QLoop_exit) | (refine Zhr ?_) | (with_reducible apply QBlock_ret) | (with_reducible apply QLoop_ret) | (refine AWalk_0 ?_) | (with_reducible apply QAny_normal) | (with_reducible apply QC_normal))
      all_goals exact hC.nor ⟨b1, c1, X1⟩ _ _ (.cons rfl (.cons rfl .nil)) (by repeat (first | exact Off.frame rfl | exact Off.refl _ _ | refine Off.frameT rfl rfl ?_ | refine Off.upd rfl ?_ | refine Off.updO rfl ?_)) (Sub.appK (by repeat (first | exact Sub.refl _ | assumption | exact Sub.left | (with_reducible refine Sub.pick (by repeat (first | exact Pick.here | apply Pick.there)) ?_) | apply Sub.cons | apply Sub.sv | apply Sub.app))) hX1
    rintro ⟨b1, c1, X1⟩ j1 hX1
    dsimp only at hX1 ⊢
    unfold hvL
    repeat' (first | (refine GiP ?_; first | (refine Znh ?_) | (with_reducible refine Znl ?_)) | (refine GiW ?_; first | (refine Zsq fun K hK => ?_) | (refine ZrN 2 fun _ => ?_; refine Zv Zmi ?_; refine Zv Zyneq ?_) | (refine ZrN 4 fun _ => ?_; refine Zv Zai ?_; refine Zv Zai ?_) | (refine ZrN 5 fun _ => ?_; refine Zv Zai ?_) | (refine WP_cond_true rfl ?_) | (refine WP_cond_false rfl ?_) | (refine Zcd (fun hc => ?_) (fun hc => ?_) <;> (try (exfalso; omega))) | (with_reducible apply WP_skip) | (with_reducible apply WP_block) | (with_reducible apply WP_exit) | (with_reducible apply WP_ret)) | (refine Zhn ?_) | (with_reducible apply QBlock_normal) | (refine Zhx ?_) | (with_reducible apply QBlock_hit) | (refine Zqb ?_) | (with_reducible apply QLoop_exit) | (refine Zhr ?_) | (with_reducible apply QBlock_ret) | (with_reducible apply QLoop_ret))
    refine WP_loop [9, 10, 11, 12, 24, 25, 26, 27, 28, 29, 30, 31, 32, 33, 34, 35, 36, 37, 38, 39, 40, 41, 42, 43, 44, 45, 46, 47, 48] (fun st : Nat × Int × Int => [(11, .int .i64 (st.1 : Int)), (9, .int .i64 st.2.1), (10, .int .i64 st.2.2)]) (fun _ => X1 ++ ((b2, Blk 27 (hvL g)) :: L)) (fun st => st.1 ≤ g.h.heaps.length ∧ (st.2.1, st.2.2) = doubtK g.h d st.1) (fun st => g.h.heaps.length - st.1) (0, 0, -1) (.cons rfl (.cons rfl (.cons rfl .nil))) (by repeat (first | exact Wk.refl _ | apply Wk.keep1 | apply Wk.drop | apply Wk.sv | apply Wk.svD | apply Wk.appD)) ⟨Nat.zero_le _, rfl⟩ ?_
    rintro ⟨k, hp, ms⟩ j2 ⟨hk, hq⟩
    dsimp only at hk hq ⊢
    unfold hvL
    by_cases hlt : k < g.h.heaps.length
    · have h55d := fun L v hl => h55 L v hl k hlt
      have hsm := wetS_sm hv k d
      unfold P1000 at hsm
      have hnx : doubtK g.h d (k + 1) = if (wetS g.h k d).2 - (wetS g.h k d).1 > (doubtK g.h d k).2 then ((k : Int), (wetS g.h k d).2 - (wetS g.h k d).1) else doubtK g.h d k := rfl
      obtain ⟨⟨wl, wh⟩, hws⟩ : ∃ s : Sp, wetS g.h k d = s := ⟨_, rfl⟩
      rw [← hq] at hnx
      simp only [hws] at hnx hsm
      rw [hws] at h55d
      dsimp only at h55d
      by_cases hc1 : wh - wl > ms
      · rw [if_pos hc1] at hnx
        repeat' (first | (refine GiP ?_; first | (refine Znh ?_) | (with_reducible refine Znl ?_)) | (refine GiW ?_; first | (refine Zsq fun K hK => ?_) | (refine ZrN 6 fun _ => ?_; refine Zv Zmi ?_; refine Zv Zf0 ?_; refine Zv Zld ?_; refine Zv Zxlen ?_; refine Zv Zylss ?_) | (refine ZrN 8 fun _ => ?_; refine Zv Zla ?_; refine Zv Zmv ?_; refine Zv Zmi ?_; refine Zv Zmi ?_; refine Zcl (Enters_fn rfl) (h55d _ _ (hX1.wk (by repeat (first | exact Wk.appR _ _ | apply Wk.appD | apply Wk.drop | apply Wk.svD)))) ?_; refine Zal 12 fun b12 => ?_; refine Zst ?_) | (refine ZrN 9 fun _ => ?_; refine Zv Zfa ?_; refine Zv Zld ?_; refine Zv Zf0 ?_; refine Zv Zld ?_; refine Zv Zxsub ?_; refine Zv Zmi ?_; refine Zv Zygtr ?_) | (refine ZrN 7 fun _ => ?_; refine Zv Zmi ?_; refine Zv Zxadd ?_; refine Zv Zai ?_) | (refine WP_cond_true rfl ?_) | (refine WP_cond_false rfl ?_) | (refine Zcd (fun hc => ?_) (fun hc => ?_) <;> (try (exfalso; omega))) | (with_reducible apply WP_skip) | (with_reducible apply WP_block) | (with_reducible apply WP_exit) | (with_reducible apply WP_ret) | (refine WP_drawnS (id := 10) [] [0, 1, 2, 3, 4, 5, 6, 7] [] [] (k := 0) (k2 := 0) (by repeat (first | apply Sub.sv | apply Sub.keep | apply Sub.appK | exact Sub.refl _)) (by kernel_rfl) prog_mixed (by kernel_rfl) (by kernel_rfl) rfl ?_; refine Zew rfl Zmi ?_; refine Zew rfl Zfa ?_; refine Zew rfl Zld ?_; refine Zew rfl Zf0 ?_; refine Zew rfl Zld ?_; refine Zew rfl Zxsub ?_; refine Zew rfl Zai ?_; refine Zew rfl Zai ?_)) | (with_reducible apply EWalk_nil) | (refine ZgC [0, 1, 2, 3, 4, 5, 6, 7] ?_; refine ZCd _ ?_) | (refine Zhn ?_) | (with_reducible apply QBlock_normal) | (refine Zhx ?_) | (with_reducible apply QBlock_hit) | (refine Zqb ?_) | (with_reducible apply QLoop_exit) | (refine Zhr ?_) | (with_reducible apply QBlock_ret) | (with_reducible apply QLoop_ret) | (refine AWalk_0 ?_) | (with_reducible apply QC_normal))
        all_goals exact QLoop_normal (k + 1, (k : Int), wh - wl) (.cons rfl (.cons rfl (.cons rfl .nil))) (by repeat (first | exact Off.frame rfl | exact Off.refl _ _ | refine Off.frameT rfl rfl ?_ | refine Off.upd rfl ?_ | refine Off.updO rfl ?_)) (by repeat (first | exact Wk.refl _ | apply Wk.keep1 | apply Wk.drop | apply Wk.sv | apply Wk.svD | apply Wk.appD)) ⟨by dsimp only; omega, by dsimp only; rw [hnx]⟩ (by dsimp only; omega)
      · rw [if_neg hc1] at hnx
        repeat' (first | (refine GiP ?_; first | (refine Znh ?_) | (with_reducible refine Znl ?_)) | (refine GiW ?_; first | (refine Zsq fun K hK => ?_) | (refine ZrN 6 fun _ => ?_; refine Zv Zmi ?_; refine Zv Zf0 ?_; refine Zv Zld ?_; refine Zv Zxlen ?_; refine Zv Zylss ?_) | (refine ZrN 8 fun _ => ?_; refine Zv Zla ?_; refine Zv Zmv ?_; refine Zv Zmi ?_; refine Zv Zmi ?_; refine Zcl (Enters_fn rfl) (h55d _ _ (hX1.wk (by repeat (first | exact Wk.appR _ _ | apply Wk.appD | apply Wk.drop | apply Wk.svD)))) ?_; refine Zal 12 fun b12 => ?_; refine Zst ?_) | (refine ZrN 9 fun _ => ?_; refine Zv Zfa ?_; refine Zv Zld ?_; refine Zv Zf0 ?_; refine Zv Zld ?_; refine Zv Zxsub ?_; refine Zv Zmi ?_; refine Zv Zygtr ?_) | (refine ZrN 7 fun _ => ?_; refine Zv Zmi ?_; refine Zv Zxadd ?_; refine Zv Zai ?_) | (refine WP_cond_true rfl ?_) | (refine WP_cond_false rfl ?_) | (refine Zcd (fun hc => ?_) (fun hc => ?_) <;> (try (exfalso; omega))) | (with_reducible apply WP_skip) | (with_reducible apply WP_block) | (with_reducible apply WP_exit) | (with_reducible apply WP_ret)) | (refine Zhn ?_) | (with_reducible apply QBlock_normal) | (refine Zhx ?_) | (with_reducible apply QBlock_hit) | (refine Zqb ?_) | (with_reducible apply QLoop_exit) | (refine Zhr ?_) | (with_reducible apply QBlock_ret) | (with_reducible apply QLoop_ret))
        all_goals exact QLoop_normal (k + 1, hp, ms) (.cons rfl (.cons rfl (.cons rfl .nil))) (by repeat (first | exact Off.frame rfl | exact Off.refl _ _ | refine Off.frameT rfl rfl ?_ | refine Off.upd rfl ?_ | refine Off.updO rfl ?_)) (by repeat (first | exact Wk.refl _ | apply Wk.keep1 | apply Wk.drop | apply Wk.sv | apply Wk.svD | apply Wk.appD)) ⟨by dsimp only; omega, by dsimp only; rw [hnx]⟩ (by dsimp only; omega)
    · have hkn : k = g.h.heaps.length := by omega
      subst hkn
      repeat' (first | (refine GiP ?_; first | (refine Znh ?_) | (with_reducible refine Znl ?_)) | (refine GiW ?_; first | (refine Zsq fun K hK => ?_) | (refine ZrN 6 fun _ => ?_; refine Zv Zmi ?_; refine Zv Zf0 ?_; refine Zv Zld ?_; refine Zv Zxlen ?_; refine Zv Zylss ?_) | (refine ZrN 11 fun _ => ?_; refine Zv Zmi ?_; refine Zv Zmi ?_; refine Zv Zai ?_; refine Zv Zai ?_; refine Zv Zai ?_) | (refine WP_cond_true rfl ?_) | (refine WP_cond_false rfl ?_) | (refine Zcd (fun hc => ?_) (fun hc => ?_) <;> (try (exfalso; omega))) | (with_reducible apply WP_skip) | (with_reducible apply WP_block) | (with_reducible apply WP_exit) | (with_reducible apply WP_ret)) | (refine Zhn ?_) | (with_reducible apply QBlock_normal) | (refine Zhx ?_) | (with_reducible apply QBlock_hit) | (refine Zqb ?_) | (with_reducible apply QLoop_exit) | (refine Zhr ?_) | (with_reducible apply QBlock_ret) | (with_reducible apply QLoop_ret))
      exact QBody_res rfl (.tmp rfl (.tmp rfl (.tmp rfl .nil))) rfl ⟨by rw [← hq]; rfl, (by repeat (first | exact Wk.refl _ | apply Wk.keep1 | apply Wk.drop | apply Wk.sv | apply Wk.svD | apply Wk.appD))⟩
  · have hw : DoubtV g.h day = (0, 0) := by unfold DoubtV; rw [if_neg he]
    rw [hw]
    have h52 := fun L => known52_err N w0 L g hA h1 h2 h3 (DayOk g.h day) he
    obtain ⟨e, hee⟩ : ∃ e, errE g.h (DayOk g.h day) = e := ⟨_, rfl⟩
    rw [hee] at h52 he ⊢
    clear hee
    unfold DayOk at h52
    obtain ⟨b2, hb2⟩ : ∃ b, within day 0 (g.h.rains.length - 1) = b := ⟨_, rfl⟩
    rw [hb2] at h52 h54
    unfold heapV hvL at h52 h54 ⊢
    repeat' (first | (refine GiP ?_; first | (refine Znh ?_) | (with_reducible refine Znl ?_)) | (refine GiW ?_; first | (refine Zsq fun K hK => ?_) | (refine ZrN 0 fun _ => ?_; refine Zal 2 fun b2 => ?_; refine Zv Zai ?_; refine Zv Zai ?_; refine Zv Zai ?_) | (refine ZrN 2 fun _ => ?_; refine Zv Zmi ?_; refine Zv Zyneq ?_) | (refine ZrN 3 fun _ => ?_; refine Zv Zmi ?_; refine Zv Zai ?_; refine Zv Zai ?_; refine Zv Zai ?_) | (refine WP_cond_true rfl ?_) | (refine WP_cond_false rfl ?_) | (refine Zcd (fun hc => ?_) (fun hc => ?_) <;> (try (exfalso; omega))) | (with_reducible apply WP_skip) | (with_reducible apply WP_block) | (with_reducible apply WP_exit) | (with_reducible apply WP_ret) | (refine WP_drawnS (id := 1) [] [0, 1, 2, 3, 4, 5, 6, 7, 8, 9] [] [] (k := 0) (k2 := 0) (by repeat (first | apply Sub.sv | apply Sub.keep | apply Sub.appK | exact Sub.refl _)) (by kernel_rfl) prog_mixed (by kernel_rfl) (by kernel_rfl) rfl ?_; refine Zew rfl Zla ?_; refine Zew rfl Zla ?_; refine Zew rfl Zmi ?_; refine Zec rfl (Enters_fn rfl) (fun X => h54 _) ?_; refine Zec rfl (Enters_fn rfl) (fun X => h52 _) ?_; refine Zew rfl Zmv ?_; refine Zew rfl Zxex ?_; refine Zew rfl Zxex ?_; refine Zew rfl Zav ?_; refine Zew rfl Zai ?_)) | (with_reducible apply EWalk_nil) | (refine ZgC [0, 1, 2, 3, 4, 5, 6, 7, 8, 9] ?_; refine ZCd _ ?_) | (refine Zhn ?_) | (with_reducible apply QBlock_normal) | (refine Zhx ?_) | (with_reducible apply QBlock_hit) | (refine Zqb ?_) | (with_reducible apply QLoop_exit) | (refine Zhr ?_) | (with_reducible apply QBlock_ret) | (with_reducible apply QLoop_ret) | (refine AWalk_0 ?_) | (with_reducible apply QC_normal))
    all_goals exact QBody_res rfl (.tmp rfl (.tmp rfl (.tmp rfl .nil))) rfl ⟨rfl, (by repeat (first | exact Wk.refl _ | apply Wk.keep1 | apply Wk.drop | apply Wk.sv | apply Wk.svD | apply Wk.appD))⟩
end
end Go.Proofs.Ytlpahkmfjpjheaa
end

section
namespace Go.Proofs.Ytlpahkmfjpjheaa
open Go.RowKit
theorem mul_bd {n w : Int} {B c : Nat} (h0 : 0 ≤ n) (h1 : n ≤ B) (h2 : 0 ≤ w) (h3 : w ≤ c) : 0 ≤ n * w ∧ n * w ≤ ((B * c : Nat) : Int) := by
  refine ⟨Int.mul_nonneg h0 h2, ?_⟩
  rw [Int.natCast_mul]
  exact Int.mul_le_mul h1 h3 h2 (by omega)
attribute [local irreducible] AnyO AnyB QAny QB EWalk AWalk Ev WP OPS QThen QBlock QScope QLoop QBody Val New Turn Tri Enters PostA Blk Ro
attribute [local irreducible] AnyC QC
section
variable (N : Nat) (w0 : World)
set_option maxRecDepth 100000 in
set_option maxHeartbeats 4000000 in
theorem heavy12_long (L : Hp) (g : Bg) (ways : Int) (hlong : longB g.h = true) : Ret Try.prog N w0 L 12 [heapV g, .int .i64 ways].toArray (.bool true) := by
  have h34 := fun L => long_ret N w0 L g
  rw [hlong] at h34
  refine Ret.fgt ?_
  refine tri_of_WP Try.func12 rfl (n := 56) rfl (by simp) ?_
  unfold heapV hvL at h34 ⊢
  repeat' (first | (refine GiP ?_; first | (refine Znh ?_) | (with_reducible refine Znl ?_) | (refine Zatd 16 ?_; (first | (refine Zv Zxpt ?_) | (refine Zv Zxpf ?_))) | (refine Zatd 13 ?_; refine Zv Zla ?_) | (refine Zatd 15 ?_; refine Zv Zxnot ?_) | (refine Zsk ?_) | (refine Zsp (fun hc => ?_) (fun hc => ?_) <;> (try (exfalso; omega)))) | (refine GiW ?_; first | (refine Zsq fun K hK => ?_) | (refine ZrN 0 fun _ => ?_; refine Zal 2 fun b2 => ?_; refine Zv Zab ?_) | (refine ZrG 1 ?_; refine Zv Zla ?_; refine Zcl (Enters_fn rfl) (h34 _) ?_; refine Zv Zmb ?_) | (refine ZrN 2 fun _ => ?_; refine Zv Zla ?_; refine Zcl (Enters_fn rfl) (h34 _) ?_; refine Zv Zab ?_) | (refine WP_cond_true rfl ?_) | (refine WP_cond_false rfl ?_) | (refine Zcd (fun hc => ?_) (fun hc => ?_) <;> (try (exfalso; omega))) | (with_reducible apply WP_skip) | (with_reducible apply WP_block) | (with_reducible apply WP_exit) | (with_reducible apply WP_ret)) | (refine Zhn ?_) | (with_reducible apply QBlock_normal) | (refine Zhx ?_) | (with_reducible apply QBlock_hit) | (refine Zqb ?_) | (with_reducible apply QLoop_exit) | (refine Zhr ?_) | (with_reducible apply QBlock_ret) | (with_reducible apply QLoop_ret))
  exact QBody_ret1 rfl (rfl : _ = Value.bool _) ⟨rfl, (by repeat (first | exact Wk.refl _ | apply Wk.keep1 | apply Wk.drop | apply Wk.sv | apply Wk.svD | apply Wk.appD))⟩
set_option maxRecDepth 100000 in
set_option maxHeartbeats 4000000 in
theorem heavy12_bad (L : Hp) (g : Bg) (hA : HeapAt N w0 g) (ways : Int) (hlong : longB g.h = false) (hvb : vB g.h = false) : Ret Try.prog N w0 L 12 [heapV g, .int .i64 ways].toArray (.bool false) := by
  obtain ⟨l1, l2, l3⟩ := longB_ok hlong
  have h34 := fun L => long_ret N w0 L g
  have h35 := fun L => Heaps_ret N w0 L g hA (by omega) (by omega) (by omega)
  rw [hlong] at h34
  rw [hvb] at h35
  refine Ret.fgt ?_
  refine tri_of_WP Try.func12 rfl (n := 56) rfl (by simp) ?_
  unfold heapV hvL at h34 h35 ⊢
  repeat' (first | (refine GiP ?_; first | (refine Znh ?_) | (with_reducible refine Znl ?_) | (refine Zatd 16 ?_; (first | (refine Zv Zxpt ?_) | (refine Zv Zxpf ?_))) | (refine Zatd 13 ?_; refine Zv Zla ?_) | (refine Zatd 14 ?_; refine Zcl (Enters_fn rfl) (h35 _) ?_) | (refine Zatd 15 ?_; refine Zv Zxnot ?_) | (refine Zsk ?_) | (refine Zsp (fun hc => ?_) (fun hc => ?_) <;> (try (exfalso; omega)))) | (refine GiW ?_; first | (refine Zsq fun K hK => ?_) | (refine ZrN 0 fun _ => ?_; refine Zal 2 fun b2 => ?_; refine Zv Zab ?_) | (refine ZrG 1 ?_; refine Zv Zla ?_; refine Zcl (Enters_fn rfl) (h34 _) ?_; refine Zv Zmb ?_) | (refine ZrN 2 fun _ => ?_; refine Zv Zla ?_; refine Zcl (Enters_fn rfl) (h34 _) ?_; refine Zv Zab ?_) | (refine WP_cond_true rfl ?_) | (refine WP_cond_false rfl ?_) | (refine Zcd (fun hc => ?_) (fun hc => ?_) <;> (try (exfalso; omega))) | (with_reducible apply WP_skip) | (with_reducible apply WP_block) | (with_reducible apply WP_exit) | (with_reducible apply WP_ret)) | (refine Zhn ?_) | (with_reducible apply QBlock_normal) | (refine Zhx ?_) | (with_reducible apply QBlock_hit) | (refine Zqb ?_) | (with_reducible apply QLoop_exit) | (refine Zhr ?_) | (with_reducible apply QBlock_ret) | (with_reducible apply QLoop_ret))
  exact QBody_ret1 rfl (rfl : _ = Value.bool _) ⟨rfl, (by repeat (first | exact Wk.refl _ | apply Wk.keep1 | apply Wk.drop | apply Wk.sv | apply Wk.svD | apply Wk.appD))⟩
set_option maxRecDepth 100000 in
set_option maxHeartbeats 4000000 in
theorem heavy12_ok (L : Hp) (g : Bg) (hA : HeapAt N w0 g) (ways : Int) (hlong : longB g.h = false) (hvb : vB g.h = true) : Tri Try.prog N w0 L 12 [heapV g, .int .i64 ways].toArray fun x L' => ∃ b, x = .returned (.bool b) ∧ L' = L := by
  obtain ⟨l1, l2, l3⟩ := longB_ok hlong
  have hv := VH_of hvb
  have hnh := hv.nh
  have hnr := hv.nr
  have h34 := fun L => long_ret N w0 L g
  have h35 := fun L => Heaps_ret N w0 L g hA (by omega) (by omega) (by omega)
  rw [hlong] at h34
  rw [hvb] at h35
  refine Tri.fgt ?_
  refine tri_of_WP Try.func12 rfl (n := 56) rfl (by simp) ?_
  unfold heapV hvL at h34 h35 ⊢
  repeat' (first | (refine GiP ?_; first | (refine Znh ?_) | (with_reducible refine Znl ?_) | (refine Zatd 16 ?_; (first | (refine Zv Zxpt ?_) | (refine Zv Zxpf ?_))) | (refine Zatd 13 ?_; refine Zv Zla ?_) | (refine Zatd 14 ?_; refine Zcl (Enters_fn rfl) (h35 _) ?_) | (refine Zatd 15 ?_; refine Zv Zxnot ?_) | (refine Zsk ?_) | (refine Zsp (fun hc => ?_) (fun hc => ?_) <;> (try (exfalso; omega)))) | (refine GiW ?_; first | (refine Zsq fun K hK => ?_) | (refine ZrN 0 fun _ => ?_; refine Zal 2 fun b2 => ?_; refine Zv Zab ?_) | (refine ZrG 1 ?_; refine Zv Zla ?_; refine Zcl (Enters_fn rfl) (h34 _) ?_; refine Zv Zmb ?_) | (refine ZrN 3 fun _ => ?_; refine Zv Zai ?_) | (refine ZrN 4 fun _ => ?_; refine Zv Zf0 ?_; refine Zv Zld ?_; refine Zv Zxlen ?_; refine Zv Zmi ?_) | (refine WP_cond_true rfl ?_) | (refine WP_cond_false rfl ?_) | (refine Zcd (fun hc => ?_) (fun hc => ?_) <;> (try (exfalso; omega))) | (with_reducible apply WP_skip) | (with_reducible apply WP_block) | (with_reducible apply WP_exit) | (with_reducible apply WP_ret)) | (refine Zhn ?_) | (with_reducible apply QBlock_normal) | (refine Zhx ?_) | (with_reducible apply QBlock_hit) | (refine Zqb ?_) | (with_reducible apply QLoop_exit) | (refine Zhr ?_) | (with_reducible apply QBlock_ret) | (with_reducible apply QLoop_ret))
  refine WP_loop [5, 7, 22, 23, 24, 25, 26, 27, 28, 29, 30, 31, 32, 33, 34, 35, 36] (fun st : Nat × Int => [(22, .int .i64 (st.1 : Int)), (5, .int .i64 st.2)]) (fun _ => (b2, Blk 27 (hvL g)) :: L) (fun st => st.1 ≤ g.h.heaps.length ∧ 0 ≤ st.2 ∧ st.2 ≤ ((6 ^ st.1 : Nat) : Int)) (fun st => g.h.heaps.length - st.1) (0, 1) (.cons rfl (.cons rfl .nil)) (by repeat (first | exact Wk.refl _ | apply Wk.keep1 | apply Wk.drop | apply Wk.sv | apply Wk.svD | apply Wk.appD)) ⟨Nat.zero_le _, by decide, by decide⟩ ?_
  rintro ⟨k, n⟩ j ⟨hk, hn0, hn1⟩
  dsimp only at hk hn0 hn1 ⊢
  unfold hvL
  by_cases hlt : k < g.h.heaps.length
  · obtain ⟨bA, oA, hA1, hbA, hcA⟩ := hA.heaps.row k hlt
    obtain ⟨t, ht⟩ : ∃ t, g.h.heaps[k] = t := ⟨_, rfl⟩
    have htb := hv.tf t (by rw [← ht]; exact List.getElem_mem hlt)
    rw [ht] at hcA
    obtain ⟨p, lo, hi⟩ := t
    have hcA : Ro w0 bA (oA + k * 3) [.int .i64 p, .int .i64 lo, .int .i64 hi] := hcA
    dsimp only at htb
    obtain ⟨m1, m2⟩ := mul_bd (B := 6 ^ k) (c := 6) hn0 hn1 (w := hi - lo + 1) (by omega) (by omega)
    have h6 : 6 ^ (k + 1) = 6 ^ k * 6 := by rw [Nat.pow_succ]
    have h7 : 6 ^ (k + 1) ≤ 6 ^ 3 := Nat.pow_le_pow_right (by omega) (by omega)
    rw [← h6] at m2
    have hb : InK .i64 (n * (hi - lo + 1)) := InK_i64 (by omega) (Int.le_trans m2 (by omega))
    repeat' (first | (refine GiP ?_; first | (refine Znh ?_) | (with_reducible refine Znl ?_)) | (refine GiW ?_; first | (refine Zsq fun K hK => ?_) | (refine ZrN 5 fun _ => ?_; refine Zv Zylss ?_) | (refine ZrN 6 fun _ => ?_; refine Zv Zia ?_; refine Zv Zla ?_; refine Zal 7 fun b7 => ?_; refine Zst ?_) | (refine ZrN 7 fun _ => ?_; refine Zv Zmi ?_; refine Zv Zfa ?_; refine Zv Zfa ?_; refine Zv Zld ?_; refine Zv Zfa ?_; refine Zv Zf0 ?_; refine Zv Zld ?_; refine Zv Zxsub ?_; refine Zv Zxadd ?_; refine Zv (Val_mul rfl rfl hb) ?_; refine Zv Zai ?_) | (refine ZrN 8 fun _ => ?_; refine Zv Zxadd ?_; refine Zv Zmi ?_) | (refine WP_cond_true rfl ?_) | (refine WP_cond_false rfl ?_) | (refine Zcd (fun hc => ?_) (fun hc => ?_) <;> (try (exfalso; omega))) | (with_reducible apply WP_skip) | (with_reducible apply WP_block) | (with_reducible apply WP_exit) | (with_reducible apply WP_ret)) | (refine Zhn ?_) | (with_reducible apply QBlock_normal) | (refine Zhx ?_) | (with_reducible apply QBlock_hit) | (refine Zqb ?_) | (with_reducible apply QLoop_exit) | (refine Zhr ?_) | (with_reducible apply QBlock_ret) | (with_reducible apply QLoop_ret))
    exact QLoop_normal (k + 1, n * (hi - lo + 1)) (.cons rfl (.cons rfl .nil)) (by repeat (first | exact Off.frame rfl | exact Off.refl _ _ | refine Off.frameT rfl rfl ?_ | refine Off.upd rfl ?_ | refine Off.updO rfl ?_)) (by repeat (first | exact Wk.refl _ | apply Wk.keep1 | apply Wk.drop | apply Wk.sv | apply Wk.svD | apply Wk.appD)) ⟨by dsimp only; omega, m1, m2⟩ (by dsimp only; omega)
  have hn6 : n ≤ 216 := by
    have : 6 ^ k ≤ 6 ^ 3 := Nat.pow_le_pow_right (by omega) (by omega)
    omega
  repeat' (first | (refine GiP ?_; first | (refine Znh ?_) | (with_reducible refine Znl ?_)) | (refine GiW ?_; first | (refine Zsq fun K hK => ?_) | (refine ZrN 5 fun _ => ?_; refine Zv Zylss ?_) | (refine ZrN 9 fun _ => ?_; refine Zv Zfa ?_; refine Zv Zld ?_; refine Zv Zxlen ?_; refine Zv Zmi ?_) | (refine WP_cond_true rfl ?_) | (refine WP_cond_false rfl ?_) | (refine Zcd (fun hc => ?_) (fun hc => ?_) <;> (try (exfalso; omega))) | (with_reducible apply WP_skip) | (with_reducible apply WP_block) | (with_reducible apply WP_exit) | (with_reducible apply WP_ret)) | (refine Zhn ?_) | (with_reducible apply QBlock_normal) | (refine Zhx ?_) | (with_reducible apply QBlock_hit) | (refine Zqb ?_) | (with_reducible apply QLoop_exit) | (refine Zhr ?_) | (with_reducible apply QBlock_ret) | (with_reducible apply QLoop_ret))
  clear hn1 hk hlt
  refine WP_loop [5, 9, 40, 41, 42, 43, 44, 45, 46, 47, 48, 49, 50, 51, 52] (fun st : Nat × Int => [(40, .int .i64 (st.1 : Int)), (5, .int .i64 st.2)]) (fun _ => (b2, Blk 27 (hvL g)) :: L) (fun st => st.1 ≤ g.h.rains.length ∧ 0 ≤ st.2 ∧ st.2 ≤ ((216 * 4 ^ st.1 : Nat) : Int)) (fun st => g.h.rains.length - st.1) (0, n) (.cons rfl (.cons rfl .nil)) (by repeat (first | exact Wk.refl _ | apply Wk.keep1 | apply Wk.drop | apply Wk.sv | apply Wk.svD | apply Wk.appD)) ⟨Nat.zero_le _, hn0, by dsimp only; omega⟩ ?_
  clear hn0 hn6
  rintro ⟨k, n⟩ j2 ⟨hk, hn0, hn1⟩
  dsimp only at hk hn0 hn1 ⊢
  unfold hvL
  by_cases hlt : k < g.h.rains.length
  · obtain ⟨bA, oA, hA2, hbA, hcA⟩ := hA.rains.row k hlt
    obtain ⟨t, ht⟩ : ∃ t, g.h.rains[k] = t := ⟨_, rfl⟩
    have htb := hv.rn t (by rw [← ht]; exact List.getElem_mem hlt)
    rw [ht] at hcA
    obtain ⟨lo, hi⟩ := t
    have hcA : Ro w0 bA (oA + k * 2) [.int .i64 lo, .int .i64 hi] := hcA
    dsimp only at htb
    obtain ⟨m1, m2⟩ := mul_bd (B := 216 * 4 ^ k) (c := 4) hn0 hn1 (w := hi - lo + 1) (by omega) (by omega)
    have h6 : 216 * 4 ^ (k + 1) = 216 * 4 ^ k * 4 := by rw [Nat.pow_succ, Nat.mul_assoc]
    have h7 : 4 ^ (k + 1) ≤ 4 ^ 6 := Nat.pow_le_pow_right (by omega) (by omega)
    rw [← h6] at m2
    have hb : InK .i64 (n * (hi - lo + 1)) := InK_i64 (by omega) (Int.le_trans m2 (by omega))
    repeat' (first | (refine GiP ?_; first | (refine Znh ?_) | (with_reducible refine Znl ?_)) | (refine GiW ?_; first | (refine Zsq fun K hK => ?_) | (refine ZrN 10 fun _ => ?_; refine Zv Zylss ?_) | (refine ZrN 11 fun _ => ?_; refine Zv Zia ?_; refine Zv Zla ?_; refine Zal 9 fun b9 => ?_; refine Zst ?_) | (refine ZrN 12 fun _ => ?_; refine Zv Zmi ?_; refine Zv Zfa ?_; refine Zv Zld ?_; refine Zv Zf0 ?_; refine Zv Zld ?_; refine Zv Zxsub ?_; refine Zv Zxadd ?_; refine Zv (Val_mul rfl rfl hb) ?_; refine Zv Zai ?_) | (refine ZrN 13 fun _ => ?_; refine Zv Zxadd ?_; refine Zv Zmi ?_) | (refine WP_cond_true rfl ?_) | (refine WP_cond_false rfl ?_) | (refine Zcd (fun hc => ?_) (fun hc => ?_) <;> (try (exfalso; omega))) | (with_reducible apply WP_skip) | (with_reducible apply WP_block) | (with_reducible apply WP_exit) | (with_reducible apply WP_ret)) | (refine Zhn ?_) | (with_reducible apply QBlock_normal) | (refine Zhx ?_) | (with_reducible apply QBlock_hit) | (refine Zqb ?_) | (with_reducible apply QLoop_exit) | (refine Zhr ?_) | (with_reducible apply QBlock_ret) | (with_reducible apply QLoop_ret))
    exact QLoop_normal (k + 1, n * (hi - lo + 1)) (.cons rfl (.cons rfl .nil)) (by repeat (first | exact Off.frame rfl | exact Off.refl _ _ | refine Off.frameT rfl rfl ?_ | refine Off.upd rfl ?_ | refine Off.updO rfl ?_)) (by repeat (first | exact Wk.refl _ | apply Wk.keep1 | apply Wk.drop | apply Wk.sv | apply Wk.svD | apply Wk.appD)) ⟨by dsimp only; omega, m1, m2⟩ (by dsimp only; omega)
  by_cases hw : n > ways
  · repeat' (first | (refine GiP ?_; first | (refine Znh ?_) | (with_reducible refine Znl ?_)) | (refine GiW ?_; first | (refine Zsq fun K hK => ?_) | (refine ZrN 10 fun _ => ?_; refine Zv Zylss ?_) | (refine ZrN 14 fun _ => ?_; refine Zv Zmi ?_; refine Zv Zmi ?_; refine Zv Zygtr ?_; refine Zv Zab ?_) | (refine WP_cond_true rfl ?_) | (refine WP_cond_false rfl ?_) | (refine Zcd (fun hc => ?_) (fun hc => ?_) <;> (try (exfalso; omega))) | (with_reducible apply WP_skip) | (with_reducible apply WP_block) | (with_reducible apply WP_exit) | (with_reducible apply WP_ret)) | (refine Zhn ?_) | (with_reducible apply QBlock_normal) | (refine Zhx ?_) | (with_reducible apply QBlock_hit) | (refine Zqb ?_) | (with_reducible apply QLoop_exit) | (refine Zhr ?_) | (with_reducible apply QBlock_ret) | (with_reducible apply QLoop_ret))
    exact QBody_ret1 rfl (rfl : _ = Value.bool _) ⟨L, (by repeat (first | exact Wk.refl _ | apply Wk.keep1 | apply Wk.drop | apply Wk.sv | apply Wk.svD | apply Wk.appD)), _, rfl, rfl⟩
  · repeat' (first | (refine GiP ?_; first | (refine Znh ?_) | (with_reducible refine Znl ?_)) | (refine GiW ?_; first | (refine Zsq fun K hK => ?_) | (refine ZrN 10 fun _ => ?_; refine Zv Zylss ?_) | (refine ZrN 14 fun _ => ?_; refine Zv Zmi ?_; refine Zv Zmi ?_; refine Zv Zygtr ?_; refine Zv Zab ?_) | (refine WP_cond_true rfl ?_) | (refine WP_cond_false rfl ?_) | (refine Zcd (fun hc => ?_) (fun hc => ?_) <;> (try (exfalso; omega))) | (with_reducible apply WP_skip) | (with_reducible apply WP_block) | (with_reducible apply WP_exit) | (with_reducible apply WP_ret)) | (refine Zhn ?_) | (with_reducible apply QBlock_normal) | (refine Zhx ?_) | (with_reducible apply QBlock_hit) | (refine Zqb ?_) | (with_reducible apply QLoop_exit) | (refine Zhr ?_) | (with_reducible apply QBlock_ret) | (with_reducible apply QLoop_ret))
    exact QBody_ret1 rfl (rfl : _ = Value.bool _) ⟨L, (by repeat (first | exact Wk.refl _ | apply Wk.keep1 | apply Wk.drop | apply Wk.sv | apply Wk.svD | apply Wk.appD)), _, rfl, rfl⟩
end
end Go.Proofs.Ytlpahkmfjpjheaa
end
