/- How many bits are set: the law's own count. · The document's answer for banks: which counts clash. · The document's answer for banks: when all is finished. · The document's answer for banks: which spits are finished. · The law SodLooks: its walk. -/
import Derived.Test.YtkaadefndcbdnaaC4
import Derived.Test.YtkaadefndcbdnaaQg
import Derived.Test.YtkaadefndcbdnaaRB
section
namespace Go.Proofs.Ytkaadefndcbdnaa
open Go.RowKit
/-- How many bits are set. -/
def sizeN : Nat → Nat → Nat
  | 0, _ => 0
  | f + 1, s => if s = 0 then 0 else s % 2 + sizeN f (s / 2)
theorem size_pc {s : Nat} (hs : s < 32) : sizeN 19 s = pc s := by
  have : ∀ s, s < 32 → sizeN 19 s = pc s := by decide +kernel
  exact this s hs
attribute [local irreducible] AnyO AnyB QAny QB EWalk AWalk Ev WP OPS QThen QBlock QScope QLoop QBody Val New Turn Tri Enters PostA Blk Ro
attribute [local irreducible] AnyC QC
section
variable (N : Nat) (w0 : World)
theorem size39_ret (L : Hp) (s : Nat) (hs : s < 2 ^ 19) : Ret Try.prog N w0 L 39 [.int .i64 (s : Int)].toArray (.int .i64 (sizeN 19 s : Int)) := by
  refine Ret.fgt ?_
  refine tri_of_WP Try.func39 rfl (n := 13) rfl (by simp) ?_
  repeat' (first | (refine Znh ?_) | (refine GiW ?_; first | (refine Zsq fun K hK => ?_) | (refine ZrN 0 fun _ => ?_; refine Zv Zai ?_) | (refine ZrN 1 fun _ => ?_; refine Zv Zai ?_) | (with_reducible apply WP_block)))
  refine WP_loop [0, 3, 4, 5, 6, 7, 8, 9, 10, 11] (fun st : Nat × Nat × Nat => [(0, .int .i64 (st.1 : Int)), (3, .int .i64 (st.2.1 : Int))]) (fun _ => L) (fun st => st.1 < 2 ^ st.2.2 ∧ st.2.2 ≤ 19 ∧ st.2.1 ≤ 19 - st.2.2 ∧ st.2.1 + sizeN st.2.2 st.1 = sizeN 19 s) (fun st => st.1) (s, 0, 19) (.cons rfl (.cons rfl .nil)) (Wk.refl _) ⟨hs, Nat.le_refl _, Nat.zero_le _, by simp⟩ ?_
  rintro ⟨q, n, f⟩ j ⟨h1, h2, h3, h4⟩
  dsimp only at h1 h2 h3 h4 ⊢
  by_cases hq : q = 0
  · subst hq
    have h5 : sizeN f 0 = 0 := by cases f <;> rfl
    rw [h5, Nat.add_zero] at h4
    repeat' (first | (refine Znh ?_) | (refine GiW ?_; first | (refine Zsq fun K hK => ?_) | (refine ZrN 2 fun _ => ?_; refine Zv Zmi ?_; refine Zv Zygtr ?_) | (refine ZrN 4 fun _ => ?_; refine Zv Zmi ?_; refine Zv Zai ?_) | (refine WP_cond_false rfl ?_) | (with_reducible apply WP_exit) | (with_reducible apply WP_ret)) | (refine Zhn ?_) | (refine Zhx ?_) | (with_reducible apply QBlock_hit) | (with_reducible apply QLoop_exit))
    exact QBody_ret1 rfl (rfl : _ = Value.int _ _) ⟨by rw [h4], (by repeat (first | exact Wk.refl _ | apply Wk.keep1 | apply Wk.drop | apply Wk.sv | apply Wk.svD | apply Wk.appD))⟩
  · obtain ⟨f', rfl⟩ : ∃ f', f = f' + 1 := ⟨f - 1, by cases f with | zero => simp at h1; omega | succ f => rfl⟩
    have hp : 2 ^ (f' + 1) ≤ 2 ^ 19 := Nat.pow_le_pow_right (by omega) h2
    have h5 : sizeN (f' + 1) q = q % 2 + sizeN f' (q / 2) := by show (if q = 0 then 0 else _) = _; rw [if_neg hq]
    obtain ⟨r, hr⟩ : ∃ r, q % 2 = r := ⟨_, rfl⟩
    obtain ⟨t, ht⟩ : ∃ t, q / 2 = t := ⟨_, rfl⟩
    have hr2 : r < 2 := by omega
    rw [h5, hr, ht] at h4
    have h6 : q < 524288 := by omega
    repeat' (first | (refine GiP ?_; first | (refine Znh ?_) | (with_reducible refine Znl ?_)) | (refine GiW ?_; first | (refine Zsq fun K hK => ?_) | (refine ZrN 2 fun _ => ?_; refine Zv Zmi ?_; refine Zv Zygtr ?_) | (refine ZrN 3 fun _ => ?_; refine Zv Zmi ?_; refine Zv Zmi ?_; refine Zv (Val_remE2 hr (by omega) rfl rfl) ?_; refine Zv Zxadd ?_; refine Zv Zmi ?_; refine Zv (Val_quoE ht (by omega) (by omega) rfl rfl) ?_; refine Zv Zai ?_; refine Zv Zai ?_) | (refine WP_cond_true rfl ?_) | (with_reducible apply WP_skip) | (with_reducible apply WP_block)) | (refine Zhn ?_) | (with_reducible apply QBlock_normal))
    refine QLoop_normal (t, n + r, f') (.cons rfl (.cons rfl .nil)) (by repeat (first | exact Off.frame rfl | exact Off.refl _ _ | refine Off.frameT rfl rfl ?_ | refine Off.upd rfl ?_ | refine Off.updO rfl ?_)) (by repeat (first | exact Wk.refl _ | apply Wk.keep1 | apply Wk.drop | apply Wk.sv | apply Wk.svD | apply Wk.appD)) ⟨?_, by dsimp only; omega, by dsimp only; omega, by dsimp only; omega⟩ (by dsimp only; omega)
    dsimp only
    rw [Nat.pow_succ] at h1
    omega
set_option maxRecDepth 100000 in
set_option maxHeartbeats 4000000 in
end
end Go.Proofs.Ytkaadefndcbdnaa
end

section
namespace Go.Proofs.Ytkaadefndcbdnaa
open Go.RowKit
theorem pc_all : ∀ n, n ≤ 4 → ∀ z, z < 2 ^ n → pc (2 ^ n - 1) ≤ pc z → z = 2 ^ n - 1 := by decide
attribute [local irreducible] AnyO AnyB QAny QB EWalk AWalk Ev WP OPS QThen QBlock QScope QLoop QBody Val New Turn Tri Enters PostA Blk Ro
attribute [local irreducible] AnyC QC
section
variable (N : Nat) (w0 : World)
set_option maxHeartbeats 2000000 in
theorem RClash_ret (L : Hp) (g : Fg) (hA : SodAt N w0 g) (h1 : g.s.spits.length ≤ 1000) (h2 : g.s.days.length ≤ 1000) (h3 : g.s.logs.length ≤ 1000) :
    Ret Try.prog N w0 L 27 [sodV g].toArray (.tuple [.int .i64 (ClashV g.s : Int), .int .i64 (ClashE g.s)].toArray) := by
  have hS := fun L' => rSod_ret N w0 L' g hA h1 h2 h3
  cases hvb : vB g.s with
  | false =>
    have e1 : ClashV g.s = 0 := by unfold ClashV; rw [if_pos hvb]
    have e2 : ClashE g.s = 1 := by unfold ClashE; rw [if_pos hvb]
    rw [hvb] at hS
    rw [e1, e2]
    refine Ret.fgt ?_
    refine tri_of_WP Try.func27 rfl (n := 37) rfl (by simp) ?_
    unfold sodV sdL at hS ⊢
    repeat' (first | (refine Znh ?_) | (refine GiW ?_; first | (refine Zsq fun K hK => ?_) | (refine ZrN 0 fun _ => ?_; refine Zal 1 fun b1 => ?_; refine Zv Zai ?_; refine Zv Zai ?_) | (refine ZrN 1 fun _ => ?_; refine Zv Zla ?_; refine Zcl (Enters_fn rfl) (hS _) ?_; refine Zv Zxnot ?_) | (refine ZrN 2 fun _ => ?_; refine Zv Zai ?_; refine Zv Zai ?_) | (refine WP_cond_true rfl ?_) | (with_reducible apply WP_ret)) | (refine Zhr ?_))
    exact QBody_res rfl (.tmp (rfl : _ = Value.int _ _) (.tmp (rfl : _ = Value.int _ _) .nil)) rfl ⟨rfl, (by repeat (first | exact Wk.refl _ | apply Wk.keep1 | apply Wk.drop | apply Wk.sv | apply Wk.svD | apply Wk.appD))⟩
  | true =>
    have hv := VS_of hvb
    have hnl := hv.nl
    rw [hvb] at hS
    obtain ⟨n, hn⟩ : ∃ n, g.s.logs.length = n := ⟨_, rfl⟩
    rw [hn] at hnl
    have h32 : 2 ^ n ≤ 2 ^ 4 := Nat.pow_le_pow_right (by omega) hnl
    have hpos := Nat.two_pow_pos n
    obtain ⟨E, hE⟩ : ∃ E, evN g.s = E := ⟨_, rfl⟩
    have hEn : E = 2 ^ n - 1 := by rw [← hE]; unfold evN; rw [hn]
    have hev := fun L' => every_ret N w0 L' g (by omega)
    rw [show 2 ^ g.s.logs.length - 1 = evN g.s from rfl, hE] at hev
    have hwy := fun L' z (hz : z < 2 ^ n) => ways_tri N w0 L' g hA hv z (by omega) (VS_only hv z)
    have hwn := fun z => ways_ne (s := g.s) z
    have hwE := hwy
    have hall : someB (only g.s E) = someB g.s := by rw [← hE]; exact only_all hv
    have hsz : ∀ L' z, z < 2 ^ n → Ret Try.prog N w0 L' 39 [.int .i64 (z : Int)].toArray (.int .i64 (pc z : Int)) := fun L' z hz => by
      have := size39_ret N w0 L' z (by omega)
      rwa [size_pc (by omega)] at this
    rcases clash_facts hv with ⟨f1, f2, f3⟩ | ⟨f1, f2, f3, f4, f5, f6, f7⟩
    · rw [f2, f3]
      have hl0 : 0 < (waysP g.s E).length := List.length_pos_iff.2 ((hwn E).2 (by rw [hall]; exact f1))
      have hwy1 := fun L' => hwy L' E (by omega)
      refine Ret.fgt ?_
      refine tri_of_WP Try.func27 rfl (n := 37) rfl (by simp) ?_
      unfold sodV sdL at hS hev hwy1 ⊢
      repeat' (first | (refine GiP ?_; first | (refine Znh ?_) | (with_reducible refine Znl ?_) | (refine Zatd 12 ?_; refine OPS_retKS (Enters_fn rfl) (hwy1 _) rfl rfl rfl (fun v9 L9 h9 => ?_); obtain ⟨X8, hr8, rfl⟩ := h9; obtain ⟨A8, c8, rfl, -⟩ := hr8) | (refine Zatd 13 ?_; refine Zv Zxlen ?_) | (refine Zatd 14 ?_; refine Zv Zygtr ?_)) | (refine GiW ?_; first | (refine Zsq fun K hK => ?_) | (refine ZrN 0 fun _ => ?_; refine Zal 1 fun b1 => ?_; refine Zv Zai ?_; refine Zv Zai ?_) | (refine ZrN 1 fun _ => ?_; refine Zv Zla ?_; refine Zcl (Enters_fn rfl) (hS _) ?_; refine Zv Zxnot ?_) | (refine ZrN 4 fun _ => ?_; refine Zv Zai ?_; refine Zv Zai ?_) | (refine WP_cond_true rfl ?_) | (refine WP_cond_false rfl ?_) | (with_reducible apply WP_skip) | (with_reducible apply WP_ret) | (refine WP_drawnS (id := 3) [] [0, 1, 2] [] [] (k := 0) (k2 := 3) (by repeat (first | apply Sub.sv | apply Sub.keep | apply Sub.appK | exact Sub.refl _)) (by kernel_rfl) prog_mixed (by kernel_rfl) (by kernel_rfl) rfl ?_; refine Zew rfl Zla ?_; refine Zew rfl Zla ?_; refine Zec rfl (Enters_fn rfl) (fun X => hev _) ?_)) | (with_reducible apply EWalk_nil) | (refine ZgC [0, 1, 2] ?_; refine ZCl _ ?_) | (refine GiO ?_; first | (refine ZgO [0, 1, 2] ?_; refine ZO1 _ 3 [0, 1, 2, 3] ?_) | (refine ZgO [0, 1, 2, 3] ?_; refine ZO1 _ 4 [0, 1, 2, 3, 4] ?_) | (refine ZgO [0, 1, 2, 3, 4] ?_; refine ZO1 _ 5 [0, 1, 2, 3, 4, 5] ?_) | (refine ZgO [0, 1, 2, 3, 4, 5] ?_; refine ZOd _ ?_; (try with_reducible apply noP_normal); (try with_reducible exact key.out))) | (refine Zhn ?_) | (refine Zhr ?_) | (refine AWalk_0 ?_) | (with_reducible apply QAny_normal))
      all_goals exact QBody_res rfl (.tmp (rfl : _ = Value.int _ _) (.tmp (rfl : _ = Value.int _ _) .nil)) rfl ⟨rfl, (by repeat (first | exact Wk.refl _ | apply Wk.keep1 | apply Wk.drop | apply Wk.sv | apply Wk.svD | apply Wk.appD))⟩
    · have hl0 : (waysP g.s E).length = 0 := by
        apply Classical.byContradiction
        intro h
        have := (hwn E).1 (fun h2 => h (by rw [h2]; rfl))
        rw [hall, f1] at this; cases this
      have hwy1 := fun L' => hwy L' E (by omega)
      rw [f2]
      obtain ⟨Y, hY⟩ : ∃ Y, ClashV g.s = Y := ⟨_, rfl⟩
      rw [hY] at f3 f4 f5 f7 ⊢
      rw [hn] at f4 f7
      refine Ret.fgt ?_
      refine tri_of_WP Try.func27 rfl (n := 37) rfl (by simp) ?_
      unfold sodV sdL at hS hev hwy1 ⊢
      repeat' (first | (refine Znh ?_) | (refine GiW ?_; first | (refine Zsq fun K hK => ?_) | (refine ZrN 0 fun _ => ?_; refine Zal 1 fun b1 => ?_; refine Zv Zai ?_; refine Zv Zai ?_) | (refine ZrN 1 fun _ => ?_; refine Zv Zla ?_; refine Zcl (Enters_fn rfl) (hS _) ?_; refine Zv Zxnot ?_) | (refine WP_cond_false rfl ?_) | (with_reducible apply WP_skip)) | (refine Zhn ?_))
      refine WP_joinS (by assumption) [9, 10, 11, 12, 13, 14] (fun _ : Unit => [(14, .bool false)]) (fun _ => (b1, Blk 26 [.slice g.A1 g.s.spits.length g.c1, .slice g.A2 g.s.days.length g.c2, .slice g.A3 g.s.logs.length g.c3]) :: L) (fun _ => True) ?_ ?_
      · intro K' hC
        repeat' (first | (refine GiP ?_; first | (with_reducible refine Znl ?_) | (refine Zatd 12 ?_; refine OPS_retKS (Enters_fn rfl) (hwy1 _) rfl rfl rfl (fun v9 L9 h9 => ?_); obtain ⟨X8, hr8, rfl⟩ := h9; obtain ⟨A8, c8, rfl, -⟩ := hr8) | (refine Zatd 13 ?_; refine Zv Zxlen ?_) | (refine Zatd 14 ?_; refine Zv Zygtr ?_)) | (refine WP_drawnS (id := 3) [] [0, 1, 2] [] [] (k := 0) (k2 := 3) (by repeat (first | apply Sub.sv | apply Sub.keep | apply Sub.appK | exact Sub.refl _)) (by kernel_rfl) prog_mixed (by kernel_rfl) (by kernel_rfl) rfl ?_; refine Zew rfl Zla ?_; refine Zew rfl Zla ?_; refine Zec rfl (Enters_fn rfl) (fun X => hev _) ?_) | (with_reducible apply EWalk_nil) | (refine ZgC [0, 1, 2] ?_; refine ZCl _ ?_) | (refine GiO ?_; first | (refine ZgO [0, 1, 2] ?_; refine ZO1 _ 3 [0, 1, 2, 3] ?_) | (refine ZgO [0, 1, 2, 3] ?_; refine ZO1 _ 4 [0, 1, 2, 3, 4] ?_) | (refine ZgO [0, 1, 2, 3, 4] ?_; refine ZO1 _ 5 [0, 1, 2, 3, 4, 5] ?_) | (refine ZgO [0, 1, 2, 3, 4, 5] ?_; refine ZOd _ ?_; (try with_reducible apply noP_normal); (try with_reducible exact key.out))) | (refine AWalk_0 ?_) | (with_reducible apply QAny_normal))
        all_goals exact hC.nor () _ _ (.cons rfl .nil) (by repeat (first | exact Off.frame rfl | exact Off.refl _ _ | refine Off.frameT rfl rfl ?_ | refine Off.upd rfl ?_ | refine Off.updO rfl ?_)) ⟨X8, List.perm_append_comm⟩ trivial
      rintro ⟨⟩ j1 -
      repeat' (first | (refine Znh ?_) | (refine GiW ?_; first | (refine Zsq fun K hK => ?_) | (refine ZrN 5 fun _ => ?_; refine Zv Zla ?_; refine Zcl (Enters_fn rfl) (hev _) ?_; refine Zv Zai ?_) | (refine ZrN 6 fun _ => ?_; refine Zv Zai ?_) | (refine WP_cond_false rfl ?_) | (with_reducible apply WP_skip) | (with_reducible apply WP_block)) | (refine Zhn ?_))
      refine WP_loop [4, 5, 17, 18, 19, 20, 21, 22, 23, 24, 25, 26, 27, 28, 29, 30, 31, 32, 33, 34, 35] (fun st : Nat × Nat => [(4, .int .i64 (st.1 : Int)), (5, .int .i64 (st.2 : Int))]) (fun _ => (b1, Blk 26 [.slice g.A1 g.s.spits.length g.c1, .slice g.A2 g.s.days.length g.c2, .slice g.A3 g.s.logs.length g.c3]) :: L) (fun st => st.2 ≤ 2 ^ n ∧ st.1 < 2 ^ n ∧ (st.1 < st.2 ∨ st.1 = E) ∧ someB (only g.s st.1) = false ∧ ∀ z, z < st.2 → someB (only g.s z) = false → pc st.1 ≤ pc z ∧ (pc z = pc st.1 → st.1 ≤ z)) (fun st => 2 ^ n - st.2) (E, 0) (.cons rfl (.cons rfl .nil)) (Wk.refl _) ⟨Nat.zero_le _, by dsimp only; omega, .inr rfl, by dsimp only; rw [hall]; exact f1, fun z h => absurd h (Nat.not_lt_zero _)⟩ ?_
      rintro ⟨best, z⟩ j2 ⟨hz, hb, hbz, hbs, hmin⟩
      dsimp only at hz hb hbz hbs hmin ⊢
      by_cases hzl : z < 2 ^ n
      · have hzn := hwn z
        have hs1 := fun L' => hsz L' z hzl
        have hs2 := fun L' => hsz L' best hb
        have hwz := fun L' => hwy L' z hzl
        have hpb : pc z ≤ 5 ∧ pc best ≤ 5 := by unfold pc; omega
        unfold sodV sdL at hwz
        by_cases hlt : pc z < pc best
        · cases hsz0 : someB (only g.s z) with
          | true =>
            have hne : (waysP g.s z).length ≠ 0 := fun h => hzn.2 hsz0 (List.eq_nil_of_length_eq_zero h)
            obtain ⟨pz, hpz⟩ : ∃ p, pc z = p := ⟨_, rfl⟩
            obtain ⟨pb, hpb2⟩ : ∃ p, pc best = p := ⟨_, rfl⟩
            rw [hpz] at hs1 hlt
            rw [hpb2] at hs2 hlt
            repeat' (first | (refine GiP ?_; first | (refine Znh ?_) | (with_reducible refine Znl ?_) | (refine Zatd 34 ?_; (first | (refine Zv Zxpt ?_) | (refine Zv Zxpf ?_))) | (refine Zatd 29 ?_; first | refine Zsk ?_ | (refine Zv Zla ?_)) | (refine Zatd 30 ?_; first | refine Zsk ?_ | (refine Zv Zmi ?_)) | (refine Zatd 31 ?_; first | refine Zsk ?_ | (refine OPS_retKS (Enters_fn rfl) (hwz _) rfl rfl rfl (fun v9 L9 h9 => ?_); obtain ⟨X8, hr8, rfl⟩ := h9; obtain ⟨A8, c8, rfl, -⟩ := hr8)) | (refine Zatd 32 ?_; first | refine Zsk ?_ | (refine Zv Zxlen ?_)) | (refine Zatd 33 ?_; first | refine Zsk ?_ | (refine Zv Zyeql ?_))) | (refine GiW ?_; first | (refine Zsq fun K hK => ?_) | (refine ZrN 7 fun _ => ?_; refine Zv Zmi ?_; refine Zv Zla ?_; refine Zcl (Enters_fn rfl) (hev _) ?_; refine Zv Zyleq ?_) | (refine ZrG 9 ?_; refine Zv Zmi ?_; (first | (refine Zcl (Enters_fn rfl) (hs1 _) ?_) | (refine Zcl (Enters_fn rfl) (hs2 _) ?_)); refine Zv Zmi ?_; (first | (refine Zcl (Enters_fn rfl) (hs1 _) ?_) | (refine Zcl (Enters_fn rfl) (hs2 _) ?_)); refine Zv Zylss ?_; refine Zv Zmb ?_) | (refine ZrN 8 fun _ => ?_; refine Zv Zmi ?_; refine Zv Zxadd ?_; refine Zv Zai ?_) | (refine WP_cond_true rfl ?_) | (refine WP_cond_false rfl ?_) | (with_reducible apply WP_skip) | (with_reducible apply WP_block)) | (refine Zhn ?_) | (with_reducible apply QBlock_normal))
            all_goals exact QLoop_normal (best, z + 1) (.cons rfl (.cons rfl .nil)) (by repeat (first | exact Off.frame rfl | exact Off.refl _ _ | refine Off.frameT rfl rfl ?_ | refine Off.upd rfl ?_ | refine Off.updO rfl ?_)) (by repeat (first | exact Wk.refl _ | apply Wk.keep1 | apply Wk.drop | apply Wk.sv | apply Wk.svD | apply Wk.appD)) ⟨by dsimp only; omega, hb, by dsimp only; omega, hbs, fun y hy h => by
              by_cases hyz : y = z
              · rw [hyz, hsz0] at h; cases h
              · exact hmin y (by dsimp only at hy; omega) h⟩ (by dsimp only; omega)
          | false =>
            have hne : (waysP g.s z).length = 0 := by
              apply Classical.byContradiction
              intro h
              have := hzn.1 (fun h2 => h (by rw [h2]; rfl))
              rw [hsz0] at this; cases this
            have hlt2 := hlt
            obtain ⟨pz, hpz⟩ : ∃ p, pc z = p := ⟨_, rfl⟩
            obtain ⟨pb, hpb2⟩ : ∃ p, pc best = p := ⟨_, rfl⟩
            rw [hpz] at hs1 hlt
            rw [hpb2] at hs2 hlt
            repeat' (first | (refine GiP ?_; first | (refine Znh ?_) | (with_reducible refine Znl ?_) | (refine Zatd 34 ?_; (first | (refine Zv Zxpt ?_) | (refine Zv Zxpf ?_))) | (refine Zatd 29 ?_; first | refine Zsk ?_ | (refine Zv Zla ?_)) | (refine Zatd 30 ?_; first | refine Zsk ?_ | (refine Zv Zmi ?_)) | (refine Zatd 31 ?_; first | refine Zsk ?_ | (refine OPS_retKS (Enters_fn rfl) (hwz _) rfl rfl rfl (fun v9 L9 h9 => ?_); obtain ⟨X8, hr8, rfl⟩ := h9; obtain ⟨A8, c8, rfl, -⟩ := hr8)) | (refine Zatd 32 ?_; first | refine Zsk ?_ | (refine Zv Zxlen ?_)) | (refine Zatd 33 ?_; first | refine Zsk ?_ | (refine Zv Zyeql ?_))) | (refine GiW ?_; first | (refine Zsq fun K hK => ?_) | (refine ZrN 7 fun _ => ?_; refine Zv Zmi ?_; refine Zv Zla ?_; refine Zcl (Enters_fn rfl) (hev _) ?_; refine Zv Zyleq ?_) | (refine ZrG 9 ?_; refine Zv Zmi ?_; (first | (refine Zcl (Enters_fn rfl) (hs1 _) ?_) | (refine Zcl (Enters_fn rfl) (hs2 _) ?_)); refine Zv Zmi ?_; (first | (refine Zcl (Enters_fn rfl) (hs1 _) ?_) | (refine Zcl (Enters_fn rfl) (hs2 _) ?_)); refine Zv Zylss ?_; refine Zv Zmb ?_) | (refine ZrN 10 fun _ => ?_; refine Zv Zmi ?_; refine Zv Zai ?_) | (refine ZrN 8 fun _ => ?_; refine Zv Zmi ?_; refine Zv Zxadd ?_; refine Zv Zai ?_) | (refine WP_cond_true rfl ?_) | (with_reducible apply WP_skip) | (with_reducible apply WP_block)) | (refine Zhn ?_) | (with_reducible apply QBlock_normal))
            all_goals exact QLoop_normal (z, z + 1) (.cons rfl (.cons rfl .nil)) (by repeat (first | exact Off.frame rfl | exact Off.refl _ _ | refine Off.frameT rfl rfl ?_ | refine Off.upd rfl ?_ | refine Off.updO rfl ?_)) (by repeat (first | exact Wk.refl _ | apply Wk.keep1 | apply Wk.drop | apply Wk.sv | apply Wk.svD | apply Wk.appD)) ⟨by dsimp only; omega, hzl, by dsimp only; omega, hsz0, fun y hy h => by
              dsimp only at hy ⊢
              by_cases hyz : y = z
              · rw [hyz]; exact ⟨Nat.le_refl _, fun _ => Nat.le_refl _⟩
              · have := hmin y (by omega) h
                exact ⟨by omega, fun h => by omega⟩⟩ (by dsimp only; omega)
        · have hlt2 := hlt
          obtain ⟨pz, hpz⟩ : ∃ p, pc z = p := ⟨_, rfl⟩
          obtain ⟨pb, hpb2⟩ : ∃ p, pc best = p := ⟨_, rfl⟩
          rw [hpz] at hs1 hlt
          rw [hpb2] at hs2 hlt
          repeat' (first | (refine GiP ?_; first | (refine Znh ?_) | (with_reducible refine Znl ?_) | (refine Zatd 34 ?_; (first | (refine Zv Zxpt ?_) | (refine Zv Zxpf ?_))) | (refine Zatd 29 ?_; first | refine Zsk ?_ | (refine Zv Zla ?_)) | (refine Zatd 30 ?_; first | refine Zsk ?_ | (refine Zv Zmi ?_)) | (refine Zatd 31 ?_; first | refine Zsk ?_ | (refine OPS_retKS (Enters_fn rfl) (hwz _) rfl rfl rfl (fun v9 L9 h9 => ?_); obtain ⟨X8, hr8, rfl⟩ := h9; obtain ⟨A8, c8, rfl, -⟩ := hr8)) | (refine Zatd 32 ?_; first | refine Zsk ?_ | (refine Zv Zxlen ?_)) | (refine Zatd 33 ?_; first | refine Zsk ?_ | (refine Zv Zyeql ?_))) | (refine GiW ?_; first | (refine Zsq fun K hK => ?_) | (refine ZrN 7 fun _ => ?_; refine Zv Zmi ?_; refine Zv Zla ?_; refine Zcl (Enters_fn rfl) (hev _) ?_; refine Zv Zyleq ?_) | (refine ZrG 9 ?_; refine Zv Zmi ?_; (first | (refine Zcl (Enters_fn rfl) (hs1 _) ?_) | (refine Zcl (Enters_fn rfl) (hs2 _) ?_)); refine Zv Zmi ?_; (first | (refine Zcl (Enters_fn rfl) (hs1 _) ?_) | (refine Zcl (Enters_fn rfl) (hs2 _) ?_)); refine Zv Zylss ?_; refine Zv Zmb ?_) | (refine ZrN 8 fun _ => ?_; refine Zv Zmi ?_; refine Zv Zxadd ?_; refine Zv Zai ?_) | (refine WP_cond_true rfl ?_) | (refine WP_cond_false rfl ?_) | (with_reducible apply WP_skip) | (with_reducible apply WP_block)) | (refine Zhn ?_) | (with_reducible apply QBlock_normal))
          all_goals exact QLoop_normal (best, z + 1) (.cons rfl (.cons rfl .nil)) (by repeat (first | exact Off.frame rfl | exact Off.refl _ _ | refine Off.frameT rfl rfl ?_ | refine Off.upd rfl ?_ | refine Off.updO rfl ?_)) (by repeat (first | exact Wk.refl _ | apply Wk.keep1 | apply Wk.drop | apply Wk.sv | apply Wk.svD | apply Wk.appD)) ⟨by dsimp only; omega, hb, by dsimp only; omega, hbs, fun y hy h => by
            dsimp only at hy ⊢
            by_cases hyz : y = z
            · rw [hyz]
              refine ⟨by omega, fun _ => ?_⟩
              rcases hbz with h9 | h9
              · omega
              · have := pc_all n hnl z hzl (by rw [← hEn, ← h9]; omega)
                omega
            · exact hmin y (by omega) h⟩ (by dsimp only; omega)
      · have hze : z = 2 ^ n := by omega
        subst hze
        have hfin : best = Y := by
          obtain ⟨g1, g2⟩ := hmin Y f4 f5
          obtain ⟨g3, g4⟩ := f7 best hb hbs
          have := g2 (by omega)
          have := g4 (by omega)
          omega
        repeat' (first | (refine Znh ?_) | (refine GiW ?_; first | (refine Zsq fun K hK => ?_) | (refine ZrN 7 fun _ => ?_; refine Zv Zmi ?_; refine Zv Zla ?_; refine Zcl (Enters_fn rfl) (hev _) ?_; refine Zv Zyleq ?_) | (refine ZrN 11 fun _ => ?_; refine Zv Zmi ?_; refine Zv Zai ?_; refine Zv Zai ?_) | (refine WP_cond_false rfl ?_) | (with_reducible apply WP_exit) | (with_reducible apply WP_ret)) | (refine Zhn ?_) | (refine Zhx ?_) | (with_reducible apply QBlock_hit) | (with_reducible apply QLoop_exit))
        exact QBody_res rfl (.tmp (rfl : _ = Value.int _ _) (.tmp (rfl : _ = Value.int _ _) .nil)) rfl ⟨by rw [hfin]; rfl, (by repeat (first | exact Wk.refl _ | apply Wk.keep1 | apply Wk.drop | apply Wk.sv | apply Wk.svD | apply Wk.appD))⟩
end
end Go.Proofs.Ytkaadefndcbdnaa
end

section
namespace Go.Proofs.Ytkaadefndcbdnaa
open Go.RowKit
theorem fold_sp : ∀ (l : List Sp) (a : Sp), (∀ x ∈ l, (l.foldl (fun a x => (min a.1 x.1, max a.2 x.2)) a).1 ≤ x.1 ∧ x.2 ≤ (l.foldl (fun a x => (min a.1 x.1, max a.2 x.2)) a).2) ∧ (l.foldl (fun a x => (min a.1 x.1, max a.2 x.2)) a).1 ≤ a.1 ∧ a.2 ≤ (l.foldl (fun a x => (min a.1 x.1, max a.2 x.2)) a).2 ∧ ((l.foldl (fun a x => (min a.1 x.1, max a.2 x.2)) a).1 = a.1 ∨ ∃ x ∈ l, (l.foldl (fun a x => (min a.1 x.1, max a.2 x.2)) a).1 = x.1) ∧ ((l.foldl (fun a x => (min a.1 x.1, max a.2 x.2)) a).2 = a.2 ∨ ∃ x ∈ l, (l.foldl (fun a x => (min a.1 x.1, max a.2 x.2)) a).2 = x.2)
  | [], a => by simp
  | y :: l, a => by
    obtain ⟨h1, h2, h3, h4, h5⟩ := fold_sp l (min a.1 y.1, max a.2 y.2)
    dsimp only at h2 h3 h4 h5
    rw [List.foldl_cons]
    refine ⟨fun x hx => ?_, by clear h4 h5; omega, by clear h4 h5; omega, ?_, ?_⟩
    · clear h4 h5
      rcases List.mem_cons.1 hx with rfl | hx
      · omega
      · exact h1 x hx
    · clear h5
      rcases h4 with h | ⟨x, hx, h⟩
      · by_cases hy : a.1 ≤ y.1
        · exact .inl (by omega)
        · exact .inr ⟨y, .head _, by omega⟩
      · exact .inr ⟨x, .tail _ hx, h⟩
    · clear h4
      rcases h5 with h | ⟨x, hx, h⟩
      · by_cases hy : y.2 ≤ a.2
        · exact .inl (by omega)
        · exact .inr ⟨y, .head _, by omega⟩
      · exact .inr ⟨x, .tail _ hx, h⟩
theorem fold_jn {l : List Sp} (h : l ≠ []) {a : Sp} (hb : ∀ x ∈ l, x.1 ≤ a.1 ∧ a.2 ≤ x.2) : l.foldl (fun a x => (min a.1 x.1, max a.2 x.2)) a = jn l := by
  obtain ⟨h1, h2, h3, h4, h5⟩ := fold_sp l a
  obtain ⟨⟨x, hx, ex⟩, ⟨y, hy, ey⟩, h6⟩ := jn_hull l h
  have hx1 := h1 x hx
  have hy1 := h1 y hy
  have hbx := hb x hx
  have hby := hb y hy
  refine Prod.ext ?_ ?_
  · clear h5
    rcases h4 with h | ⟨z, hz, h⟩
    · omega
    · have := h6 z hz; omega
  · clear h4
    rcases h5 with h | ⟨z, hz, h⟩
    · omega
    · have := h6 z hz; omega
section
variable {s : Sd} (v : VS s)
include v
theorem day_mono {c : List Int} (hc : c ∈ toldC s) {d e : Nat} (hde : d ≤ e) (he : e < s.days.length) : (dayS s c d).1 ≤ (dayS s c e).1 := by
  have h1 := day_le v hc he
  obtain ⟨ts, h2, h3⟩ := (day_iff v hc he (dayS s c e).1).1 ⟨Int.le_refl _, h1⟩
  obtain ⟨t, ht⟩ := h2.get (show d < s.days.length by omega)
  have := h2.up v hde ht h3
  have := (day_iff v hc (show d < s.days.length by omega) t).2 ⟨ts, h2, ht⟩
  omega
theorem ways_told : (waysP s (evN s)).map (fun t => pad3 t.1) = toldC s := by
  have key : ∀ l : List (List Int), (∀ cs ∈ l, CIn s.spits cs) → (l.filterMap (wyP s (evN s))).map (fun t : Wy => pad3 t.1) = (l.map pad3).filter (canS s) := by
    intro l
    induction l with
    | nil => intro _; rfl
    | cons cs l ih =>
      intro h
      have h1 := ih fun x hx => h x (.tail _ hx)
      have h2 := canS_pad (h cs (.head _))
      rw [List.map_cons]
      cases hc : canS s cs with
      | true =>
        have e : wyP s (evN s) cs = some (cs, wayL s (evN s) cs) := by unfold wyP; rw [only_ev v, if_pos hc]
        rw [List.filterMap_cons_some e, List.map_cons, List.filter_cons_of_pos (by rw [h2]; exact hc), h1]
      | false =>
        have e : wyP s (evN s) cs = none := by unfold wyP; rw [only_ev v, if_neg (by rw [hc]; simp)]
        rw [List.filterMap_cons_none e, List.filter_cons_of_neg (by rw [h2, hc]; simp), h1]
  exact key _ fun cs hcs => by have := allR_cin (z := []) hcs; rwa [List.append_nil] at this
/-- When all is finished, of all ways. -/
def doneF (s : Sd) (l : List Wy) : Sp := l.foldl (fun a t => (min a.1 (doneR s (pad3 t.1)).1, max a.2 (doneR s (pad3 t.1)).2)) ((s.days.length : Int), 0)
omit v in
theorem doneF_snoc (l : List Wy) (k : Nat) (hk : k < l.length) : doneF s (l.take (k + 1)) = (min (doneF s (l.take k)).1 (doneR s (pad3 l[k].1)).1, max (doneF s (l.take k)).2 (doneR s (pad3 l[k].1)).2) := by
  unfold doneF
  rw [List.take_succ_eq_append_getElem hk, List.foldl_append]; rfl
theorem doneF_all (h0 : toldC s ≠ []) : doneF s (waysP s (evN s)) = doneV s := by
  have h1 : doneF s (waysP s (evN s)) = ((toldC s).map (doneR s)).foldl (fun a x => (min a.1 x.1, max a.2 x.2)) ((s.days.length : Int), 0) := by
    rw [← ways_told v, List.map_map, List.foldl_map]; rfl
  rw [h1]
  refine fold_jn (by simpa using h0) fun x hx => ?_
  obtain ⟨c, hc, rfl⟩ := List.mem_map.1 hx
  have hl := days_len v hc
  have a1 := (firstG_spec (wholeS s c s.spits.length) ((daysS s c).map (·.2))).1
  have a2 := (firstG_spec (wholeS s c s.spits.length) ((daysS s c).map (·.1))).1
  rw [List.length_map, hl] at a1 a2
  unfold doneR
  dsimp only
  omega
/-- One way, from the last day down. -/
structure InD (s : Sd) (c : List Int) (w : Int) (e : Nat) (o0 o : Sp) : Prop where
  pa : o.1 ≤ o0.1
  pb : ∀ d : Nat, e ≤ d → d < s.days.length → w ≤ (dayS s c d).2 → o.1 ≤ (d : Int)
  pc : o.1 = o0.1 ∨ ∃ d : Nat, e ≤ d ∧ d < s.days.length ∧ w ≤ (dayS s c d).2 ∧ o.1 = (d : Int)
  pd : o0.2 ≤ o.2
  pe : ∀ d : Nat, e ≤ d → d < s.days.length → (dayS s c d).1 < w → (d : Int) + 1 ≤ o.2
  pf : o.2 = o0.2 ∨ ∃ d : Nat, e ≤ d ∧ d < s.days.length ∧ (dayS s c d).1 < w ∧ o.2 = (d : Int) + 1
theorem InD.all {c : List Int} (hc : c ∈ toldC s) {o0 o : Sp} (h : InD s c (wholeS s c s.spits.length) 0 o0 o) (h1 : o0.1 ≤ s.days.length) (h2 : 0 ≤ o0.2) : o = (min o0.1 (doneR s c).1, max o0.2 (doneR s c).2) := by
  have hl := days_len v hc
  obtain ⟨a1, a2, a3⟩ := firstG_spec (wholeS s c s.spits.length) ((daysS s c).map (·.2))
  obtain ⟨b1, b2, b3⟩ := firstG_spec (wholeS s c s.spits.length) ((daysS s c).map (·.1))
  rw [List.length_map, hl] at a1 b1
  have g2 : ∀ d, d < s.days.length → ((daysS s c).map (·.2))[d]? = some (dayS s c d).2 := fun d hd => by rw [List.getElem?_map, days_get v hc hd]; rfl
  have g1 : ∀ d, d < s.days.length → ((daysS s c).map (·.1))[d]? = some (dayS s c d).1 := fun d hd => by rw [List.getElem?_map, days_get v hc hd]; rfl
  obtain ⟨A, hA⟩ : ∃ A, firstG (wholeS s c s.spits.length) ((daysS s c).map (·.2)) = A := ⟨_, rfl⟩
  obtain ⟨B, hB⟩ : ∃ B, firstG (wholeS s c s.spits.length) ((daysS s c).map (·.1)) = B := ⟨_, rfl⟩
  have hd : doneR s c = ((A : Int), (B : Int)) := by unfold doneR; rw [hA, hB]
  rw [hA] at a1 a2 a3
  rw [hB] at b1 b2 b3
  rw [hd]
  have c1 : A < s.days.length → o.1 ≤ (A : Int) := fun hA => h.pb A (Nat.zero_le _) hA (a3 _ (g2 A hA))
  have c2 : o.1 = o0.1 ∨ (A : Int) ≤ o.1 := by
    rcases h.pc with e | ⟨d, _, hd, hw, e⟩
    · exact .inl e
    · refine .inr ?_
      apply Classical.byContradiction
      intro hn
      have := a2 d _ (by omega) (g2 d hd)
      omega
  have d1 : 0 < B → (B : Int) ≤ o.2 := fun hB => by
    have := h.pe (B - 1) (Nat.zero_le _) (by omega) (b2 (B - 1) _ (by omega) (g1 (B - 1) (by omega)))
    omega
  have d2 : o.2 = o0.2 ∨ o.2 ≤ (B : Int) := by
    rcases h.pf with e | ⟨d, _, hd, hw, e⟩
    · exact .inl e
    · refine .inr ?_
      apply Classical.byContradiction
      intro hn
      have hBd : B ≤ d := by omega
      have h3 := b3 _ (g1 B (by omega))
      have h4 := day_mono v hc hBd hd
      omega
  have ha := h.pa
  have hdd := h.pd
  refine Prod.ext ?_ ?_
  · dsimp only; omega
  · dsimp only; omega
omit v in
theorem InD.init {c : List Int} {w : Int} {o0 : Sp} : InD s c w s.days.length o0 o0 := ⟨Int.le_refl _, fun d h1 h2 => by omega, .inl rfl, Int.le_refl _, fun d h1 h2 => by omega, .inl rfl⟩
omit v in
theorem InD.step {c : List Int} {w : Int} {e : Nat} {o0 o : Sp} (h : InD s c w (e + 1) o0 o) (he : e < s.days.length) : InD s c w e o0 (if w ≤ (dayS s c e).2 then min o.1 (e : Int) else o.1, if (dayS s c e).1 < w then max o.2 ((e : Int) + 1) else o.2) := by
  obtain ⟨h1, h2, h3, h4, h5, h6⟩ := h
  refine ⟨?_, fun d hd hdl hw => ?_, ?_, ?_, fun d hd hdl hw => ?_, ?_⟩
  · clear h3 h6; dsimp only; split <;> omega
  · clear h3 h6
    dsimp only
    by_cases hde : d = e
    · subst hde; rw [if_pos hw]; omega
    · have := h2 d (by omega) hdl hw
      split <;> omega
  · dsimp only
    split
    · rename_i hw
      by_cases hm : o.1 ≤ (e : Int)
      · rcases h3 with h3 | ⟨d, a, b, c, g⟩
        · exact .inl (by clear h6; omega)
        · exact .inr ⟨d, by omega, b, c, by clear h6; omega⟩
      · exact .inr ⟨e, Nat.le_refl _, he, hw, by clear h3 h6; omega⟩
    · rcases h3 with h3 | ⟨d, a, b, c, g⟩
      · exact .inl h3
      · exact .inr ⟨d, by omega, b, c, g⟩
  · clear h3 h6; dsimp only; split <;> omega
  · clear h3 h6
    dsimp only
    by_cases hde : d = e
    · subst hde; rw [if_pos hw]; omega
    · have := h5 d (by omega) hdl hw
      split <;> omega
  · dsimp only
    split
    · rename_i hw
      by_cases hm : (e : Int) + 1 ≤ o.2
      · rcases h6 with h6 | ⟨d, a, b, c, g⟩
        · exact .inl (by clear h3; omega)
        · exact .inr ⟨d, by omega, b, c, by clear h3; omega⟩
      · exact .inr ⟨e, Nat.le_refl _, he, hw, by clear h3 h6; omega⟩
    · rcases h6 with h6 | ⟨d, a, b, c, g⟩
      · exact .inl h6
      · exact .inr ⟨d, by omega, b, c, g⟩
end
attribute [local irreducible] AnyO AnyB QAny QB EWalk AWalk Ev WP OPS QThen QBlock QScope QLoop QBody Val New Turn Tri Enters PostA Blk Ro
attribute [local irreducible] AnyC QC
section
variable (N : Nat) (w0 : World)
set_option maxHeartbeats 4000000 in
theorem RDone_ret (L : Hp) (g : Fg) (hA : SodAt N w0 g) (h1 : g.s.spits.length ≤ 1000) (h2 : g.s.days.length ≤ 1000) (h3 : g.s.logs.length ≤ 1000) :
    Ret Try.prog N w0 L 25 [sodV g].toArray (.tuple [.agg [.int .i64 (DoneV g.s).1, .int .i64 (DoneV g.s).2].toArray, .int .i64 (errE g.s true)].toArray) := by
  have htl := fun L' => told_tri N w0 L' g hA h1 h2 h3 true
  by_cases h0 : errE g.s true = 0
  · obtain ⟨hvb, -, hsb⟩ := errE_ok h0
    have hv := VS_of hvb
    have hnp := hv.np
    have hnd := hv.nd
    have hz : DoneV g.s = doneV g.s := by unfold DoneV; rw [h0, if_pos rfl]
    have hall := doneF_all hv (someB_told.1 hsb)
    have hwo := ways_ok hv
    rw [h0] at htl
    have hwt := fun t ht => way_told hv (t := t) ht
    rw [hz, h0, ← hall]
    clear hall
    obtain ⟨WW, hWW⟩ : ∃ WW, waysP g.s (evN g.s) = WW := ⟨_, rfl⟩
    rw [hWW] at htl hwo hwt ⊢
    refine Ret.fgt ?_
    refine tri_of_WP Try.func25 rfl (n := 81) rfl (by simp) ?_
    unfold sodV sdL at htl ⊢
    repeat' (first | (refine GiP ?_; first | (refine Znh ?_) | (with_reducible refine Znl ?_)) | (refine GiW ?_; first | (refine Zsq fun K hK => ?_) | (refine ZrN 0 fun _ => ?_; refine Zal 1 fun b1 => ?_; refine Zal 2 fun b2 => ?_; refine Zv Zai ?_) | (refine ZrN 1 fun _ => ?_; refine Zv Zla ?_; refine OPS_retKS (Enters_fn rfl) (htl _) rfl rfl rfl (fun v9 L9 h9 => ?_); obtain ⟨A8, n8, c8, X8, rfl, hr8, rfl⟩ := h9; have hr9 := hr8 rfl; obtain ⟨A9, c9, e9, hrd⟩ := id hr9; simp only [Value.slice.injEq] at e9; obtain ⟨rfl, rfl, rfl⟩ := e9; refine Zv Zmv ?_; refine Zv Zxex ?_; refine Zv Zxex ?_; refine Zv Zav ?_; refine Zv Zai ?_) | (refine ZrN 2 fun _ => ?_; refine Zv Zmi ?_; refine Zv Zyneq ?_) | (refine ZrN 4 fun _ => ?_; refine Zv Zfa ?_; refine Zv Zld ?_; refine Zv Zxlen ?_; refine Zv Zxbu ?_; refine Zal 6 fun b6 => ?_; refine OPS_turnN (Turn_store rfl rfl (by repeat (first | exact Up.here | apply Up.there | apply Up.sv | apply Up.app)) rfl (by repeat (first | exact Over.nil | apply Over.cons | apply PutAt.there | apply PutAt.here)) (by rfl) rfl) rfl rfl ?_) | (refine ZrN 5 fun _ => ?_; refine Zv Zai ?_) | (refine WP_cond_true rfl ?_) | (refine WP_cond_false rfl ?_) | (refine Zcd (fun hc => ?_) (fun hc => ?_) <;> (try (exfalso; omega))) | (with_reducible apply WP_skip) | (with_reducible apply WP_block) | (with_reducible apply WP_exit) | (with_reducible apply WP_ret)) | (refine Zhn ?_) | (with_reducible apply QBlock_normal) | (refine Zhx ?_) | (with_reducible apply QBlock_hit) | (refine Zqb ?_) | (with_reducible apply QLoop_exit) | (refine Zhr ?_) | (with_reducible apply QBlock_ret) | (with_reducible apply QLoop_ret))
    have hwn := hwo.n
    refine WP_loop [7, 8, 9, 10, 24, 25, 26, 27, 28, 29, 30, 31, 32, 33, 34, 35, 36, 37, 38, 39, 40, 41, 42, 43, 44, 45, 46, 47, 48, 49, 50, 51, 52, 53, 54, 55, 56, 57, 58, 59, 60, 61, 62, 63, 64, 65, 66, 67, 68, 69, 70, 71, 72, 73, 74, 75, 76, 77, 78, 79] (fun k : Nat => [(7, .int .i64 (k : Int))]) (fun k => (b6, Blk 28 [.int .i64 (doneF g.s (WW.take k)).1, .int .i64 (doneF g.s (WW.take k)).2]) :: (X8 ++ ((b2, Blk 28 [.int .i64 0, .int .i64 0]) :: (b1, Blk 26 (sdL g)) :: L))) (fun k => k ≤ WW.length ∧ (doneF g.s (WW.take k)).1 ≤ g.s.days.length ∧ 0 ≤ (doneF g.s (WW.take k)).2 ∧ (doneF g.s (WW.take k)).2 ≤ g.s.days.length) (fun k => WW.length - k) 0 (.cons rfl .nil) (Wk.refl _) ⟨Nat.zero_le _, Int.le_refl _, Int.le_refl _, by show (0 : Int) ≤ _; omega⟩ ?_
    rintro k j2 ⟨hk, hk1, hk2, hk3⟩
    unfold sdL
    by_cases hkl : k < WW.length
    · obtain ⟨⟨cs, tt⟩, hte⟩ : ∃ t, WW[k]? = some t := ⟨_, List.getElem?_eq_getElem hkl⟩
      obtain ⟨⟨hcin, hcl⟩, hct, htl2, hrow⟩ := hwt _ (List.mem_of_getElem? hte)
      dsimp only at hcin hcl hct htl2 hrow
      obtain ⟨bW, u, q, rfl, hu, hq, hru, hrq⟩ := hrd k _ hte
      dsimp only at hru hrq
      obtain ⟨Au, cu, eu, -⟩ := id hru
      subst eu
      obtain ⟨bt, ct, rfl, hqx⟩ := hrq.opn (by omega)
      have hR1 : ∀ L', Wk L' X8 → Rd N w0 L' bW (0 + k * 2) (.slice Au cs.length cu) := fun L' k => (hu.wk k).rd
      have hR2 : ∀ L', Wk L' X8 → Rd N w0 L' bW (0 + k * 2 + 1) (.slice (some ⟨bt, 0, none⟩) tt.length ct) := fun L' k => (hq.wk k).rd
      have hwh := fun L' hk => rwhole_in N w0 L' g hA hv (.slice Au cs.length cu) cs X8 hru hk hcin hcl g.s.spits.length (Nat.le_refl _)
      rw [List.take_length, show cs.take g.s.spits.length = cs by rw [← hcl, List.take_length]] at hwh
      have hTb := totC_bd hv.spOk hcin
      have hTw : wholeS g.s (pad3 cs) g.s.spits.length = totC g.s.spits cs := by
        unfold wholeS
        rw [List.take_length]
        unfold pad3
        rw [strk_app _ _ _ hcin, strk_all _ hv.spOk hcin, Int.zero_add]
      have hfin := fun o h => InD.all hv hct (o0 := doneF g.s (WW.take k)) (o := o) h hk1 hk2
      have hsn := doneF_snoc (s := g.s) WW k hkl
      rw [(List.getElem?_eq_some_iff.1 hte).2] at hsn
      dsimp only at hsn
      rw [hTw] at hfin
      obtain ⟨T, hT⟩ : ∃ T, totC g.s.spits cs = T := ⟨_, rfl⟩
      obtain ⟨o0, ho0⟩ : ∃ o, doneF g.s (WW.take k) = o := ⟨_, rfl⟩
      rw [hT] at hwh hTb hfin
      rw [ho0] at hfin hk1 hk2 hk3 hsn ⊢
      unfold sodV sdL at hwh
      have hnl : ((g.s.days.length : Nat) : Int) - 1 = (g.s.days.length : Int) - 1 := rfl
      repeat' (first | (refine GiP ?_; first | (refine Znh ?_) | (with_reducible refine Znl ?_)) | (refine GiW ?_; first | (refine Zsq fun K hK => ?_) | (refine ZrN 6 fun _ => ?_; refine Zv Zmi ?_; refine Zv Zmv ?_; refine Zv Zxlen ?_; refine Zv Zylss ?_) | (refine ZrN 9 fun _ => ?_; refine Zv Zfa ?_; (first | (refine Zv (Val_loadD1 rfl (hR1 _ (by repeat (first | exact Wk.appR X8 _ | apply Wk.svD | apply Wk.drop | apply Wk.appD)))) ?_) | (refine Zv Zld ?_)); refine Zv Zxlen ?_; refine Zv Zxsub ?_; refine Zv Zai ?_) | (refine WP_cond_true rfl ?_) | (refine WP_cond_false rfl ?_) | (refine Zcd (fun hc => ?_) (fun hc => ?_) <;> (try (exfalso; omega))) | (with_reducible apply WP_skip) | (with_reducible apply WP_block) | (with_reducible apply WP_exit) | (with_reducible apply WP_ret) | (refine WP_drawnS (id := 8) [] [0, 1, 2, 3, 4, 5, 6, 7, 8, 9, 10] [] [] (k := 0) (k2 := 0) (by repeat (first | apply Sub.sv | apply Sub.keep | apply Sub.appK | exact Sub.refl _)) (by kernel_rfl) prog_mixed (by kernel_rfl) (by kernel_rfl) rfl ?_; (first | (refine Zew rfl (Val_loadD1 rfl (hR1 _ (by repeat (first | exact Wk.appR X8 _ | apply Wk.svD | apply Wk.drop | apply Wk.appD)))) ?_) | (refine Zew rfl Zla ?_)); refine Zew rfl Zmv ?_; refine Zew rfl Zmi ?_; (first | (refine Zew rfl (Val_indexAddr rfl rfl rfl hkl) ?_) | (refine Zew rfl Zia ?_)); refine Zew rfl Zf0 ?_; (first | (refine Zew rfl (Val_loadD1 rfl (hR1 _ (by repeat (first | exact Wk.appR X8 _ | apply Wk.svD | apply Wk.drop | apply Wk.appD)))) ?_) | (refine Zew rfl Zld ?_)); refine Zew rfl Zf0 ?_; (first | (refine Zew rfl (Val_loadD1 rfl (hR1 _ (by repeat (first | exact Wk.appR X8 _ | apply Wk.svD | apply Wk.drop | apply Wk.appD)))) ?_) | (refine Zew rfl Zld ?_)); refine Zew rfl Zxlen ?_; refine Zec rfl (Enters_fn rfl) (fun X => hwh _ (by repeat (first | exact Wk.appR X8 _ | apply Wk.svD | apply Wk.drop | apply Wk.appD))) ?_; refine Zew rfl Zai ?_)) | (with_reducible apply EWalk_nil) | (refine ZgC [0, 1, 2, 3, 4, 5, 6, 7, 8, 9, 10] ?_; refine ZCd _ ?_) | (refine Zhn ?_) | (with_reducible apply QBlock_normal) | (refine Zhx ?_) | (with_reducible apply QBlock_hit) | (refine Zqb ?_) | (with_reducible apply QLoop_exit) | (refine Zhr ?_) | (with_reducible apply QBlock_ret) | (with_reducible apply QLoop_ret) | (refine AWalk_0 ?_) | (with_reducible apply QC_normal))
      refine WP_loop [9, 10, 44, 45, 46, 47, 48, 49, 50, 51, 52, 53, 54, 55, 56, 57, 58, 59, 60, 61, 62, 63, 64, 65, 66, 67, 68, 69, 70, 71, 72, 73, 74, 75, 76, 77, 78, 79] (fun st : Nat × Int × Int => [(9, .int .i64 ((st.1 : Int) - 1))]) (fun st => (b6, Blk 28 [.int .i64 st.2.1, .int .i64 st.2.2]) :: (X8 ++ ((b2, Blk 28 [.int .i64 0, .int .i64 0]) :: (b1, Blk 26 [.slice g.A1 g.s.spits.length g.c1, .slice g.A2 g.s.days.length g.c2, .slice g.A3 g.s.logs.length g.c3]) :: L))) (fun st => st.1 ≤ g.s.days.length ∧ InD g.s (pad3 cs) T st.1 o0 (st.2.1, st.2.2) ∧ (0 ≤ st.2.2 ∧ st.2.2 ≤ g.s.days.length)) (fun st => st.1) (g.s.days.length, o0.1, o0.2) (.cons rfl .nil) (Wk.refl _) ⟨Nat.le_refl _, InD.init, by dsimp only; omega⟩ ?_
      rintro ⟨e1, lo, hi⟩ j3 ⟨he, hin, hhb⟩
      dsimp only at he hin hhb ⊢
      by_cases he0 : e1 = 0
      · subst he0
        have hfo := hfin _ hin
        rw [← hfo] at hsn
        have hpa := hin.pa
        dsimp only at hpa
        repeat' (first | (refine GiP ?_; first | (refine Znh ?_) | (with_reducible refine Znl ?_)) | (refine GiW ?_; first | (refine Zsq fun K hK => ?_) | (refine ZrN 10 fun _ => ?_; refine Zv Zmi ?_; refine Zv Zygeq ?_) | (refine ZrN 7 fun _ => ?_; refine Zv Zmi ?_; refine Zv Zxadd ?_; refine Zv Zai ?_) | (refine WP_cond_true rfl ?_) | (refine WP_cond_false rfl ?_) | (refine Zcd (fun hc => ?_) (fun hc => ?_) <;> (try (exfalso; omega))) | (with_reducible apply WP_skip) | (with_reducible apply WP_block) | (with_reducible apply WP_exit) | (with_reducible apply WP_ret)) | (refine Zhn ?_) | (with_reducible apply QBlock_normal) | (refine Zhx ?_) | (with_reducible apply QBlock_hit) | (refine Zqb ?_) | (with_reducible apply QLoop_exit) | (refine Zhr ?_) | (with_reducible apply QBlock_ret) | (with_reducible apply QLoop_ret))
        refine QLoop_normal (k + 1) (.cons rfl .nil) (by repeat (first | exact Off.frame rfl | exact Off.refl _ _ | refine Off.frameT rfl rfl ?_ | refine Off.upd rfl ?_ | refine Off.updO rfl ?_)) ?_ ⟨by omega, by rw [hsn]; dsimp only; omega, by rw [hsn]; exact hhb.1, by rw [hsn]; exact hhb.2⟩ (by omega)
        rw [hsn]
        exact (by repeat (first | exact Wk.refl _ | apply Wk.keep1 | apply Wk.drop | apply Wk.sv | apply Wk.svD | apply Wk.appD))
      · obtain ⟨e, rfl⟩ : ∃ e, e1 = e + 1 := ⟨e1 - 1, by omega⟩
        have hed : e < g.s.days.length := by omega
        have hi1 : ((e + 1 : Nat) : Int) - 1 = (e : Int) := by omega
        rw [hi1]
        have hrw := hrow e hed
        have hbd := day_bd hv hct hed
        have hle := day_le hv hct hed
        have hst := hin.step hed
        obtain ⟨⟨a, b⟩, hab⟩ : ∃ s, dayS g.s (pad3 cs) e = s := ⟨_, rfl⟩
        rw [hab] at hrw hbd hle hst
        dsimp only at hbd hle hst
        obtain ⟨ur, hqr, hrr⟩ := hqx e _ hrw
        have hvl := vals_length (a, b)
        dsimp only at hvl
        obtain ⟨br, cr, rfl, hrx⟩ := hrr.opn (by omega)
        have h4 := hrx 0 a (by rw [List.getElem?_eq_getElem (by omega), vals_get]; simp)
        obtain ⟨M, hM⟩ : ∃ M, (vals (a, b)).length = M := ⟨_, rfl⟩
        have h5 := hrx (M - 1) b (by rw [List.getElem?_eq_getElem (by omega), vals_get]; congr 1; dsimp only; omega)
        rw [hM] at hvl hqr
        have hR3 : ∀ L', Wk L' X8 → Rd N w0 L' bt (0 + e) (.slice (some ⟨br, 0, none⟩) M cr) := fun L' k => (hqr.wk k).rd
        have hR4 : ∀ L', Wk L' X8 → Rd N w0 L' br (0 + 0) (.int .i64 a) := fun L' k => (h4.wk k).rd
        have hR5 : ∀ L', Wk L' X8 → Rd N w0 L' br (0 + (M - 1)) (.int .i64 b) := fun L' k => (h5.wk k).rd
        have hdt : e < tt.length := by omega
        have hM1 : (M : Int) - 1 = ((M - 1 : Nat) : Int) := by omega
        have hMl : M - 1 < M := by omega
        have hM0 : 0 < M := by omega
        by_cases c1 : T ≤ b
        · rw [if_pos c1] at hst
          by_cases c2 : a < T
          · rw [if_pos c2] at hst
            repeat' (first | (refine GiP ?_; first | (refine Znh ?_) | (with_reducible refine Znl ?_)) | (refine GiW ?_; first | (refine Zsq fun K hK => ?_) | (refine ZrN 10 fun _ => ?_; refine Zv Zmi ?_; refine Zv Zygeq ?_) | (refine ZrN 12 fun _ => ?_; refine Zv Zmv ?_; refine Zv Zmi ?_; (first | (refine Zv (Val_indexAddr rfl rfl rfl hkl) ?_) | (refine Zv (Val_indexAddr1 rfl rfl rfl hdt) ?_) | (refine Zv (Val_indexAddr1 rfl rfl rfl hMl) ?_) | (refine Zv (Val_indexAddr1 rfl rfl (rfl : _ = ((0 : Nat) : Int)) hM0) ?_) | (refine Zv Zia ?_)); refine Zv Zfa ?_; (first | (refine Zv (Val_loadD1 rfl (hR2 _ (by repeat (first | exact Wk.appR X8 _ | apply Wk.svD | apply Wk.drop | apply Wk.appD)))) ?_) | (refine Zv (Val_loadD1 rfl (hR3 _ (by repeat (first | exact Wk.appR X8 _ | apply Wk.svD | apply Wk.drop | apply Wk.appD)))) ?_) | (refine Zv (Val_loadD1 rfl (hR4 _ (by repeat (first | exact Wk.appR X8 _ | apply Wk.svD | apply Wk.drop | apply Wk.appD)))) ?_) | (refine Zv (Val_loadD1 rfl (hR5 _ (by repeat (first | exact Wk.appR X8 _ | apply Wk.svD | apply Wk.drop | apply Wk.appD)))) ?_) | (refine Zv Zld ?_)); refine Zv Zmi ?_; (first | (refine Zv (Val_indexAddr rfl rfl rfl hkl) ?_) | (refine Zv (Val_indexAddr1 rfl rfl rfl hdt) ?_) | (refine Zv (Val_indexAddr1 rfl rfl rfl hMl) ?_) | (refine Zv (Val_indexAddr1 rfl rfl (rfl : _ = ((0 : Nat) : Int)) hM0) ?_) | (refine Zv Zia ?_)); (first | (refine Zv (Val_loadD1 rfl (hR2 _ (by repeat (first | exact Wk.appR X8 _ | apply Wk.svD | apply Wk.drop | apply Wk.appD)))) ?_) | (refine Zv (Val_loadD1 rfl (hR3 _ (by repeat (first | exact Wk.appR X8 _ | apply Wk.svD | apply Wk.drop | apply Wk.appD)))) ?_) | (refine Zv (Val_loadD1 rfl (hR4 _ (by repeat (first | exact Wk.appR X8 _ | apply Wk.svD | apply Wk.drop | apply Wk.appD)))) ?_) | (refine Zv (Val_loadD1 rfl (hR5 _ (by repeat (first | exact Wk.appR X8 _ | apply Wk.svD | apply Wk.drop | apply Wk.appD)))) ?_) | (refine Zv Zld ?_)); refine Zv Zav ?_) | (refine ZrN 13 fun _ => ?_; refine Zv Zmv ?_; refine Zv Zmv ?_; refine Zv Zxlen ?_; (first | (refine Zv (Val_subN hM1 (by omega) rfl rfl) ?_) | (refine Zv (Zxsub) ?_)); (first | (refine Zv (Val_indexAddr rfl rfl rfl hkl) ?_) | (refine Zv (Val_indexAddr1 rfl rfl rfl hdt) ?_) | (refine Zv (Val_indexAddr1 rfl rfl rfl hMl) ?_) | (refine Zv (Val_indexAddr1 rfl rfl (rfl : _ = ((0 : Nat) : Int)) hM0) ?_) | (refine Zv Zia ?_)); (first | (refine Zv (Val_loadD1 rfl (hR2 _ (by repeat (first | exact Wk.appR X8 _ | apply Wk.svD | apply Wk.drop | apply Wk.appD)))) ?_) | (refine Zv (Val_loadD1 rfl (hR3 _ (by repeat (first | exact Wk.appR X8 _ | apply Wk.svD | apply Wk.drop | apply Wk.appD)))) ?_) | (refine Zv (Val_loadD1 rfl (hR4 _ (by repeat (first | exact Wk.appR X8 _ | apply Wk.svD | apply Wk.drop | apply Wk.appD)))) ?_) | (refine Zv (Val_loadD1 rfl (hR5 _ (by repeat (first | exact Wk.appR X8 _ | apply Wk.svD | apply Wk.drop | apply Wk.appD)))) ?_) | (refine Zv Zld ?_)); refine Zv Zmi ?_; refine Zv Zygeq ?_) | (refine ZrN 14 fun _ => ?_; refine Zv Zf0 ?_; (first | (refine Zv (Val_loadD1 rfl (hR2 _ (by repeat (first | exact Wk.appR X8 _ | apply Wk.svD | apply Wk.drop | apply Wk.appD)))) ?_) | (refine Zv (Val_loadD1 rfl (hR3 _ (by repeat (first | exact Wk.appR X8 _ | apply Wk.svD | apply Wk.drop | apply Wk.appD)))) ?_) | (refine Zv (Val_loadD1 rfl (hR4 _ (by repeat (first | exact Wk.appR X8 _ | apply Wk.svD | apply Wk.drop | apply Wk.appD)))) ?_) | (refine Zv (Val_loadD1 rfl (hR5 _ (by repeat (first | exact Wk.appR X8 _ | apply Wk.svD | apply Wk.drop | apply Wk.appD)))) ?_) | (refine Zv Zld ?_)); refine Zv Zmi ?_; refine Zv Zxmin ?_; refine Zv Zf0 ?_; refine Zst ?_) | (refine ZrN 15 fun _ => ?_; refine Zv Zmv ?_; (first | (refine Zv (Val_indexAddr rfl rfl rfl hkl) ?_) | (refine Zv (Val_indexAddr1 rfl rfl rfl hdt) ?_) | (refine Zv (Val_indexAddr1 rfl rfl rfl hMl) ?_) | (refine Zv (Val_indexAddr1 rfl rfl (rfl : _ = ((0 : Nat) : Int)) hM0) ?_) | (refine Zv Zia ?_)); (first | (refine Zv (Val_loadD1 rfl (hR2 _ (by repeat (first | exact Wk.appR X8 _ | apply Wk.svD | apply Wk.drop | apply Wk.appD)))) ?_) | (refine Zv (Val_loadD1 rfl (hR3 _ (by repeat (first | exact Wk.appR X8 _ | apply Wk.svD | apply Wk.drop | apply Wk.appD)))) ?_) | (refine Zv (Val_loadD1 rfl (hR4 _ (by repeat (first | exact Wk.appR X8 _ | apply Wk.svD | apply Wk.drop | apply Wk.appD)))) ?_) | (refine Zv (Val_loadD1 rfl (hR5 _ (by repeat (first | exact Wk.appR X8 _ | apply Wk.svD | apply Wk.drop | apply Wk.appD)))) ?_) | (refine Zv Zld ?_)); refine Zv Zmi ?_; refine Zv Zylss ?_) | (refine ZrN 16 fun _ => ?_; refine Zv Zfa ?_; (first | (refine Zv (Val_loadD1 rfl (hR2 _ (by repeat (first | exact Wk.appR X8 _ | apply Wk.svD | apply Wk.drop | apply Wk.appD)))) ?_) | (refine Zv (Val_loadD1 rfl (hR3 _ (by repeat (first | exact Wk.appR X8 _ | apply Wk.svD | apply Wk.drop | apply Wk.appD)))) ?_) | (refine Zv (Val_loadD1 rfl (hR4 _ (by repeat (first | exact Wk.appR X8 _ | apply Wk.svD | apply Wk.drop | apply Wk.appD)))) ?_) | (refine Zv (Val_loadD1 rfl (hR5 _ (by repeat (first | exact Wk.appR X8 _ | apply Wk.svD | apply Wk.drop | apply Wk.appD)))) ?_) | (refine Zv Zld ?_)); refine Zv Zmi ?_; refine Zv Zxadd ?_; refine Zv Zxmax ?_; refine Zv Zfa ?_; refine Zst ?_) | (refine ZrN 11 fun _ => ?_; refine Zv Zmi ?_; (first | (refine Zv (Val_subN hM1 (by omega) rfl rfl) ?_) | (refine Zv (Zxsub) ?_)); refine Zv Zai ?_) | (refine WP_cond_true rfl ?_) | (refine WP_cond_false rfl ?_) | (refine Zcd (fun hc => ?_) (fun hc => ?_) <;> (try (exfalso; omega))) | (with_reducible apply WP_skip) | (with_reducible apply WP_block) | (with_reducible apply WP_exit) | (with_reducible apply WP_ret)) | (refine Zhn ?_) | (with_reducible apply QBlock_normal) | (refine Zhx ?_) | (with_reducible apply QBlock_hit) | (refine Zqb ?_) | (with_reducible apply QLoop_exit) | (refine Zhr ?_) | (with_reducible apply QBlock_ret) | (with_reducible apply QLoop_ret))
            all_goals exact QLoop_normal (e, min lo (e : Int), max hi ((e : Int) + 1)) (.cons rfl .nil) (by repeat (first | exact Off.frame rfl | exact Off.refl _ _ | refine Off.frameT rfl rfl ?_ | refine Off.upd rfl ?_ | refine Off.updO rfl ?_)) (by repeat (first | exact Wk.refl _ | apply Wk.keep1 | apply Wk.drop | apply Wk.sv | apply Wk.svD | apply Wk.appD)) ⟨by dsimp only; omega, hst, by dsimp only; omega⟩ (by dsimp only; omega)
          · rw [if_neg c2] at hst
            repeat' (first | (refine GiP ?_; first | (refine Znh ?_) | (with_reducible refine Znl ?_)) | (refine GiW ?_; first | (refine Zsq fun K hK => ?_) | (refine ZrN 10 fun _ => ?_; refine Zv Zmi ?_; refine Zv Zygeq ?_) | (refine ZrN 12 fun _ => ?_; refine Zv Zmv ?_; refine Zv Zmi ?_; (first | (refine Zv (Val_indexAddr rfl rfl rfl hkl) ?_) | (refine Zv (Val_indexAddr1 rfl rfl rfl hdt) ?_) | (refine Zv (Val_indexAddr1 rfl rfl rfl hMl) ?_) | (refine Zv (Val_indexAddr1 rfl rfl (rfl : _ = ((0 : Nat) : Int)) hM0) ?_) | (refine Zv Zia ?_)); refine Zv Zfa ?_; (first | (refine Zv (Val_loadD1 rfl (hR2 _ (by repeat (first | exact Wk.appR X8 _ | apply Wk.svD | apply Wk.drop | apply Wk.appD)))) ?_) | (refine Zv (Val_loadD1 rfl (hR3 _ (by repeat (first | exact Wk.appR X8 _ | apply Wk.svD | apply Wk.drop | apply Wk.appD)))) ?_) | (refine Zv (Val_loadD1 rfl (hR4 _ (by repeat (first | exact Wk.appR X8 _ | apply Wk.svD | apply Wk.drop | apply Wk.appD)))) ?_) | (refine Zv (Val_loadD1 rfl (hR5 _ (by repeat (first | exact Wk.appR X8 _ | apply Wk.svD | apply Wk.drop | apply Wk.appD)))) ?_) | (refine Zv Zld ?_)); refine Zv Zmi ?_; (first | (refine Zv (Val_indexAddr rfl rfl rfl hkl) ?_) | (refine Zv (Val_indexAddr1 rfl rfl rfl hdt) ?_) | (refine Zv (Val_indexAddr1 rfl rfl rfl hMl) ?_) | (refine Zv (Val_indexAddr1 rfl rfl (rfl : _ = ((0 : Nat) : Int)) hM0) ?_) | (refine Zv Zia ?_)); (first | (refine Zv (Val_loadD1 rfl (hR2 _ (by repeat (first | exact Wk.appR X8 _ | apply Wk.svD | apply Wk.drop | apply Wk.appD)))) ?_) | (refine Zv (Val_loadD1 rfl (hR3 _ (by repeat (first | exact Wk.appR X8 _ | apply Wk.svD | apply Wk.drop | apply Wk.appD)))) ?_) | (refine Zv (Val_loadD1 rfl (hR4 _ (by repeat (first | exact Wk.appR X8 _ | apply Wk.svD | apply Wk.drop | apply Wk.appD)))) ?_) | (refine Zv (Val_loadD1 rfl (hR5 _ (by repeat (first | exact Wk.appR X8 _ | apply Wk.svD | apply Wk.drop | apply Wk.appD)))) ?_) | (refine Zv Zld ?_)); refine Zv Zav ?_) | (refine ZrN 13 fun _ => ?_; refine Zv Zmv ?_; refine Zv Zmv ?_; refine Zv Zxlen ?_; (first | (refine Zv (Val_subN hM1 (by omega) rfl rfl) ?_) | (refine Zv (Zxsub) ?_)); (first | (refine Zv (Val_indexAddr rfl rfl rfl hkl) ?_) | (refine Zv (Val_indexAddr1 rfl rfl rfl hdt) ?_) | (refine Zv (Val_indexAddr1 rfl rfl rfl hMl) ?_) | (refine Zv (Val_indexAddr1 rfl rfl (rfl : _ = ((0 : Nat) : Int)) hM0) ?_) | (refine Zv Zia ?_)); (first | (refine Zv (Val_loadD1 rfl (hR2 _ (by repeat (first | exact Wk.appR X8 _ | apply Wk.svD | apply Wk.drop | apply Wk.appD)))) ?_) | (refine Zv (Val_loadD1 rfl (hR3 _ (by repeat (first | exact Wk.appR X8 _ | apply Wk.svD | apply Wk.drop | apply Wk.appD)))) ?_) | (refine Zv (Val_loadD1 rfl (hR4 _ (by repeat (first | exact Wk.appR X8 _ | apply Wk.svD | apply Wk.drop | apply Wk.appD)))) ?_) | (refine Zv (Val_loadD1 rfl (hR5 _ (by repeat (first | exact Wk.appR X8 _ | apply Wk.svD | apply Wk.drop | apply Wk.appD)))) ?_) | (refine Zv Zld ?_)); refine Zv Zmi ?_; refine Zv Zygeq ?_) | (refine ZrN 14 fun _ => ?_; refine Zv Zf0 ?_; (first | (refine Zv (Val_loadD1 rfl (hR2 _ (by repeat (first | exact Wk.appR X8 _ | apply Wk.svD | apply Wk.drop | apply Wk.appD)))) ?_) | (refine Zv (Val_loadD1 rfl (hR3 _ (by repeat (first | exact Wk.appR X8 _ | apply Wk.svD | apply Wk.drop | apply Wk.appD)))) ?_) | (refine Zv (Val_loadD1 rfl (hR4 _ (by repeat (first | exact Wk.appR X8 _ | apply Wk.svD | apply Wk.drop | apply Wk.appD)))) ?_) | (refine Zv (Val_loadD1 rfl (hR5 _ (by repeat (first | exact Wk.appR X8 _ | apply Wk.svD | apply Wk.drop | apply Wk.appD)))) ?_) | (refine Zv Zld ?_)); refine Zv Zmi ?_; refine Zv Zxmin ?_; refine Zv Zf0 ?_; refine Zst ?_) | (refine ZrN 15 fun _ => ?_; refine Zv Zmv ?_; (first | (refine Zv (Val_indexAddr rfl rfl rfl hkl) ?_) | (refine Zv (Val_indexAddr1 rfl rfl rfl hdt) ?_) | (refine Zv (Val_indexAddr1 rfl rfl rfl hMl) ?_) | (refine Zv (Val_indexAddr1 rfl rfl (rfl : _ = ((0 : Nat) : Int)) hM0) ?_) | (refine Zv Zia ?_)); (first | (refine Zv (Val_loadD1 rfl (hR2 _ (by repeat (first | exact Wk.appR X8 _ | apply Wk.svD | apply Wk.drop | apply Wk.appD)))) ?_) | (refine Zv (Val_loadD1 rfl (hR3 _ (by repeat (first | exact Wk.appR X8 _ | apply Wk.svD | apply Wk.drop | apply Wk.appD)))) ?_) | (refine Zv (Val_loadD1 rfl (hR4 _ (by repeat (first | exact Wk.appR X8 _ | apply Wk.svD | apply Wk.drop | apply Wk.appD)))) ?_) | (refine Zv (Val_loadD1 rfl (hR5 _ (by repeat (first | exact Wk.appR X8 _ | apply Wk.svD | apply Wk.drop | apply Wk.appD)))) ?_) | (refine Zv Zld ?_)); refine Zv Zmi ?_; refine Zv Zylss ?_) | (refine ZrN 11 fun _ => ?_; refine Zv Zmi ?_; (first | (refine Zv (Val_subN hM1 (by omega) rfl rfl) ?_) | (refine Zv (Zxsub) ?_)); refine Zv Zai ?_) | (refine WP_cond_true rfl ?_) | (refine WP_cond_false rfl ?_) | (refine Zcd (fun hc => ?_) (fun hc => ?_) <;> (try (exfalso; omega))) | (with_reducible apply WP_skip) | (with_reducible apply WP_block) | (with_reducible apply WP_exit) | (with_reducible apply WP_ret)) | (refine Zhn ?_) | (with_reducible apply QBlock_normal) | (refine Zhx ?_) | (with_reducible apply QBlock_hit) | (refine Zqb ?_) | (with_reducible apply QLoop_exit) | (refine Zhr ?_) | (with_reducible apply QBlock_ret) | (with_reducible apply QLoop_ret))
            all_goals exact QLoop_normal (e, min lo (e : Int), hi) (.cons rfl .nil) (by repeat (first | exact Off.frame rfl | exact Off.refl _ _ | refine Off.frameT rfl rfl ?_ | refine Off.upd rfl ?_ | refine Off.updO rfl ?_)) (by repeat (first | exact Wk.refl _ | apply Wk.keep1 | apply Wk.drop | apply Wk.sv | apply Wk.svD | apply Wk.appD)) ⟨by dsimp only; omega, hst, by dsimp only; omega⟩ (by dsimp only; omega)
        · rw [if_neg c1, if_pos (by omega)] at hst
          repeat' (first | (refine GiP ?_; first | (refine Znh ?_) | (with_reducible refine Znl ?_)) | (refine GiW ?_; first | (refine Zsq fun K hK => ?_) | (refine ZrN 10 fun _ => ?_; refine Zv Zmi ?_; refine Zv Zygeq ?_) | (refine ZrN 12 fun _ => ?_; refine Zv Zmv ?_; refine Zv Zmi ?_; (first | (refine Zv (Val_indexAddr rfl rfl rfl hkl) ?_) | (refine Zv (Val_indexAddr1 rfl rfl rfl hdt) ?_) | (refine Zv (Val_indexAddr1 rfl rfl rfl hMl) ?_) | (refine Zv (Val_indexAddr1 rfl rfl (rfl : _ = ((0 : Nat) : Int)) hM0) ?_) | (refine Zv Zia ?_)); refine Zv Zfa ?_; (first | (refine Zv (Val_loadD1 rfl (hR2 _ (by repeat (first | exact Wk.appR X8 _ | apply Wk.svD | apply Wk.drop | apply Wk.appD)))) ?_) | (refine Zv (Val_loadD1 rfl (hR3 _ (by repeat (first | exact Wk.appR X8 _ | apply Wk.svD | apply Wk.drop | apply Wk.appD)))) ?_) | (refine Zv (Val_loadD1 rfl (hR4 _ (by repeat (first | exact Wk.appR X8 _ | apply Wk.svD | apply Wk.drop | apply Wk.appD)))) ?_) | (refine Zv (Val_loadD1 rfl (hR5 _ (by repeat (first | exact Wk.appR X8 _ | apply Wk.svD | apply Wk.drop | apply Wk.appD)))) ?_) | (refine Zv Zld ?_)); refine Zv Zmi ?_; (first | (refine Zv (Val_indexAddr rfl rfl rfl hkl) ?_) | (refine Zv (Val_indexAddr1 rfl rfl rfl hdt) ?_) | (refine Zv (Val_indexAddr1 rfl rfl rfl hMl) ?_) | (refine Zv (Val_indexAddr1 rfl rfl (rfl : _ = ((0 : Nat) : Int)) hM0) ?_) | (refine Zv Zia ?_)); (first | (refine Zv (Val_loadD1 rfl (hR2 _ (by repeat (first | exact Wk.appR X8 _ | apply Wk.svD | apply Wk.drop | apply Wk.appD)))) ?_) | (refine Zv (Val_loadD1 rfl (hR3 _ (by repeat (first | exact Wk.appR X8 _ | apply Wk.svD | apply Wk.drop | apply Wk.appD)))) ?_) | (refine Zv (Val_loadD1 rfl (hR4 _ (by repeat (first | exact Wk.appR X8 _ | apply Wk.svD | apply Wk.drop | apply Wk.appD)))) ?_) | (refine Zv (Val_loadD1 rfl (hR5 _ (by repeat (first | exact Wk.appR X8 _ | apply Wk.svD | apply Wk.drop | apply Wk.appD)))) ?_) | (refine Zv Zld ?_)); refine Zv Zav ?_) | (refine ZrN 13 fun _ => ?_; refine Zv Zmv ?_; refine Zv Zmv ?_; refine Zv Zxlen ?_; (first | (refine Zv (Val_subN hM1 (by omega) rfl rfl) ?_) | (refine Zv (Zxsub) ?_)); (first | (refine Zv (Val_indexAddr rfl rfl rfl hkl) ?_) | (refine Zv (Val_indexAddr1 rfl rfl rfl hdt) ?_) | (refine Zv (Val_indexAddr1 rfl rfl rfl hMl) ?_) | (refine Zv (Val_indexAddr1 rfl rfl (rfl : _ = ((0 : Nat) : Int)) hM0) ?_) | (refine Zv Zia ?_)); (first | (refine Zv (Val_loadD1 rfl (hR2 _ (by repeat (first | exact Wk.appR X8 _ | apply Wk.svD | apply Wk.drop | apply Wk.appD)))) ?_) | (refine Zv (Val_loadD1 rfl (hR3 _ (by repeat (first | exact Wk.appR X8 _ | apply Wk.svD | apply Wk.drop | apply Wk.appD)))) ?_) | (refine Zv (Val_loadD1 rfl (hR4 _ (by repeat (first | exact Wk.appR X8 _ | apply Wk.svD | apply Wk.drop | apply Wk.appD)))) ?_) | (refine Zv (Val_loadD1 rfl (hR5 _ (by repeat (first | exact Wk.appR X8 _ | apply Wk.svD | apply Wk.drop | apply Wk.appD)))) ?_) | (refine Zv Zld ?_)); refine Zv Zmi ?_; refine Zv Zygeq ?_) | (refine ZrN 15 fun _ => ?_; refine Zv Zmv ?_; (first | (refine Zv (Val_indexAddr rfl rfl rfl hkl) ?_) | (refine Zv (Val_indexAddr1 rfl rfl rfl hdt) ?_) | (refine Zv (Val_indexAddr1 rfl rfl rfl hMl) ?_) | (refine Zv (Val_indexAddr1 rfl rfl (rfl : _ = ((0 : Nat) : Int)) hM0) ?_) | (refine Zv Zia ?_)); (first | (refine Zv (Val_loadD1 rfl (hR2 _ (by repeat (first | exact Wk.appR X8 _ | apply Wk.svD | apply Wk.drop | apply Wk.appD)))) ?_) | (refine Zv (Val_loadD1 rfl (hR3 _ (by repeat (first | exact Wk.appR X8 _ | apply Wk.svD | apply Wk.drop | apply Wk.appD)))) ?_) | (refine Zv (Val_loadD1 rfl (hR4 _ (by repeat (first | exact Wk.appR X8 _ | apply Wk.svD | apply Wk.drop | apply Wk.appD)))) ?_) | (refine Zv (Val_loadD1 rfl (hR5 _ (by repeat (first | exact Wk.appR X8 _ | apply Wk.svD | apply Wk.drop | apply Wk.appD)))) ?_) | (refine Zv Zld ?_)); refine Zv Zmi ?_; refine Zv Zylss ?_) | (refine ZrN 16 fun _ => ?_; refine Zv Zfa ?_; (first | (refine Zv (Val_loadD1 rfl (hR2 _ (by repeat (first | exact Wk.appR X8 _ | apply Wk.svD | apply Wk.drop | apply Wk.appD)))) ?_) | (refine Zv (Val_loadD1 rfl (hR3 _ (by repeat (first | exact Wk.appR X8 _ | apply Wk.svD | apply Wk.drop | apply Wk.appD)))) ?_) | (refine Zv (Val_loadD1 rfl (hR4 _ (by repeat (first | exact Wk.appR X8 _ | apply Wk.svD | apply Wk.drop | apply Wk.appD)))) ?_) | (refine Zv (Val_loadD1 rfl (hR5 _ (by repeat (first | exact Wk.appR X8 _ | apply Wk.svD | apply Wk.drop | apply Wk.appD)))) ?_) | (refine Zv Zld ?_)); refine Zv Zmi ?_; refine Zv Zxadd ?_; refine Zv Zxmax ?_; refine Zv Zfa ?_; refine Zst ?_) | (refine ZrN 11 fun _ => ?_; refine Zv Zmi ?_; (first | (refine Zv (Val_subN hM1 (by omega) rfl rfl) ?_) | (refine Zv (Zxsub) ?_)); refine Zv Zai ?_) | (refine WP_cond_true rfl ?_) | (refine WP_cond_false rfl ?_) | (refine Zcd (fun hc => ?_) (fun hc => ?_) <;> (try (exfalso; omega))) | (with_reducible apply WP_skip) | (with_reducible apply WP_block) | (with_reducible apply WP_exit) | (with_reducible apply WP_ret)) | (refine Zhn ?_) | (with_reducible apply QBlock_normal) | (refine Zhx ?_) | (with_reducible apply QBlock_hit) | (refine Zqb ?_) | (with_reducible apply QLoop_exit) | (refine Zhr ?_) | (with_reducible apply QBlock_ret) | (with_reducible apply QLoop_ret))
          all_goals exact QLoop_normal (e, lo, max hi ((e : Int) + 1)) (.cons rfl .nil) (by repeat (first | exact Off.frame rfl | exact Off.refl _ _ | refine Off.frameT rfl rfl ?_ | refine Off.upd rfl ?_ | refine Off.updO rfl ?_)) (by repeat (first | exact Wk.refl _ | apply Wk.keep1 | apply Wk.drop | apply Wk.sv | apply Wk.svD | apply Wk.appD)) ⟨by dsimp only; omega, hst, by dsimp only; omega⟩ (by dsimp only; omega)
    · have hke : k = WW.length := by omega
      subst hke
      rw [List.take_length]
      repeat' (first | (refine GiP ?_; first | (refine Znh ?_) | (with_reducible refine Znl ?_)) | (refine GiW ?_; first | (refine Zsq fun K hK => ?_) | (refine ZrN 6 fun _ => ?_; refine Zv Zmi ?_; refine Zv Zmv ?_; refine Zv Zxlen ?_; refine Zv Zylss ?_) | (refine ZrN 17 fun _ => ?_; refine Zv Zla ?_; refine OPS_turnN (Turn_store rfl rfl (by repeat (first | exact Up.here | apply Up.there | apply Up.sv | apply Up.app)) rfl (by repeat (first | exact Over.nil | apply Over.cons | apply PutAt.there | apply PutAt.here)) (by rfl) rfl) rfl rfl ?_; refine Zv Zai ?_) | (refine WP_cond_true rfl ?_) | (refine WP_cond_false rfl ?_) | (refine Zcd (fun hc => ?_) (fun hc => ?_) <;> (try (exfalso; omega))) | (with_reducible apply WP_skip) | (with_reducible apply WP_block) | (with_reducible apply WP_exit) | (with_reducible apply WP_ret)) | (refine Zhn ?_) | (with_reducible apply QBlock_normal) | (refine Zhx ?_) | (with_reducible apply QBlock_hit) | (refine Zqb ?_) | (with_reducible apply QLoop_exit) | (refine Zhr ?_) | (with_reducible apply QBlock_ret) | (with_reducible apply QLoop_ret))
      exact QBody_res rfl (.cellN rfl (by repeat (first | exact Mem.here | assumption | apply Mem.there | apply Mem.sv | apply Mem.app)) (.here (.cons (.cons .nil))) (.tmp (rfl : _ = Value.int _ _) .nil)) rfl ⟨rfl, (by repeat (first | exact Wk.refl _ | apply Wk.keep1 | apply Wk.drop | apply Wk.sv | apply Wk.svD | apply Wk.appD))⟩
  · have hz : DoneV g.s = (0, 0) := by unfold DoneV; rw [if_neg h0]
    rw [hz]
    obtain ⟨e, he⟩ : ∃ e, errE g.s true = e := ⟨_, rfl⟩
    rw [he] at htl h0 ⊢
    refine Ret.fgt ?_
    refine tri_of_WP Try.func25 rfl (n := 81) rfl (by simp) ?_
    unfold sodV sdL at htl ⊢
    repeat' (first | (refine GiP ?_; first | (refine Znh ?_) | (with_reducible refine Znl ?_)) | (refine GiW ?_; first | (refine Zsq fun K hK => ?_) | (refine ZrN 0 fun _ => ?_; refine Zal 1 fun b1 => ?_; refine Zal 2 fun b2 => ?_; refine Zv Zai ?_) | (refine ZrN 1 fun _ => ?_; refine Zv Zla ?_; refine OPS_retKS (Enters_fn rfl) (htl _) rfl rfl rfl (fun v9 L9 h9 => ?_); obtain ⟨A8, n8, c8, X8, rfl, hr8, rfl⟩ := h9; refine Zv Zmv ?_; refine Zv Zxex ?_; refine Zv Zxex ?_; refine Zv Zav ?_; refine Zv Zai ?_) | (refine ZrN 2 fun _ => ?_; refine Zv Zmi ?_; refine Zv Zyneq ?_) | (refine ZrN 3 fun _ => ?_; refine Zv Zxbu ?_; refine Zv Zmi ?_; refine OPS_turnN (Turn_store rfl rfl (by repeat (first | exact Up.here | apply Up.there | apply Up.sv | apply Up.app)) rfl (by repeat (first | exact Over.nil | apply Over.cons | apply PutAt.there | apply PutAt.here)) (by rfl) rfl) rfl rfl ?_; refine Zv Zai ?_) | (refine WP_cond_true rfl ?_) | (refine WP_cond_false rfl ?_) | (refine Zcd (fun hc => ?_) (fun hc => ?_) <;> (try (exfalso; omega))) | (with_reducible apply WP_skip) | (with_reducible apply WP_block) | (with_reducible apply WP_exit) | (with_reducible apply WP_ret)) | (refine Zhn ?_) | (with_reducible apply QBlock_normal) | (refine Zhx ?_) | (with_reducible apply QBlock_hit) | (refine Zqb ?_) | (with_reducible apply QLoop_exit) | (refine Zhr ?_) | (with_reducible apply QBlock_ret) | (with_reducible apply QLoop_ret))
    all_goals exact QBody_res rfl (.cellN rfl (by repeat (first | exact Mem.here | assumption | apply Mem.there | apply Mem.sv | apply Mem.app)) (.here (.cons (.cons .nil))) (.tmp (rfl : _ = Value.int _ _) .nil)) rfl ⟨rfl, (by repeat (first | exact Wk.refl _ | apply Wk.keep1 | apply Wk.drop | apply Wk.sv | apply Wk.svD | apply Wk.appD))⟩
end
end Go.Proofs.Ytkaadefndcbdnaa
end

section
namespace Go.Proofs.Ytkaadefndcbdnaa
open Go.RowKit
theorem strk_take : ∀ {ps : List Spt} {cs : List Int} (k : Nat) (n : Int), SpOk ps → CIn ps cs → strk ps cs n (((ps.take k).map (·.sods)).sum) = n + totC (ps.take k) (cs.take k)
  | [], cs, k, n, _, _ => by simp [strk, totC]
  | p :: ps, _, 0, n, hp, .cons (c := c) (cs := cs) h q => by
    simp only [List.take_zero, List.map_nil, List.sum_nil, totC, Int.add_zero]
    exact strk_zero _ _ _ hp
  | p :: ps, _, k + 1, n, hp, .cons (c := c) (cs := cs) h q => by
    have h1 := sum_nonneg (ps.take k) (fun x hx => (hp x (.tail _ (List.mem_of_mem_take hx))).1.1)
    simp only [List.take_succ_cons, List.map_cons, List.sum_cons]
    unfold strk totC
    rw [show min (p.sods + ((ps.take k).map (·.sods)).sum) p.sods = p.sods by omega, show p.sods + ((ps.take k).map (·.sods)).sum - p.sods = ((ps.take k).map (·.sods)).sum by omega, strk_take k _ hp.tail q]
    omega
theorem whole_take {s : Sd} (v : VS s) {cs : List Int} (h : CIn s.spits cs) (k : Nat) : wholeS s (pad3 cs) k = totC (s.spits.take k) (cs.take k) := by
  unfold wholeS pad3
  rw [strk_app _ _ _ h, strk_take k 0 v.spOk h, Int.zero_add]
def allW (s : Sd) (d p : Nat) (l : List Wy) : Bool := l.all fun t => decide (totC (s.spits.take (p + 1)) (t.1.take (p + 1)) ≤ (dayS s (pad3 t.1) d).1)
def anyW (s : Sd) (d p : Nat) (l : List Wy) : Bool := l.any fun t => decide (totC (s.spits.take (p + 1)) (t.1.take (p + 1)) ≤ (dayS s (pad3 t.1) d).2)
theorem sure_way {s : Sd} (v : VS s) (d p : Nat) : sureB s d p = allW s d p (waysP s (evN s)) ∧ canB s d p = anyW s d p (waysP s (evN s)) := by
  unfold sureB canB allW anyW
  constructor
  · rw [Bool.eq_iff_iff, List.all_eq_true, List.all_eq_true]
    constructor
    · intro h t ht
      obtain ⟨⟨h1, _⟩, h3, _⟩ := way_told v ht
      have := h _ h3
      rwa [whole_take v h1] at this
    · intro h c hc
      obtain ⟨t, ht, rfl⟩ := told_way v hc
      obtain ⟨⟨h1, _⟩, _⟩ := way_told v ht
      rw [whole_take v h1]
      exact h t ht
  · rw [Bool.eq_iff_iff, List.any_eq_true, List.any_eq_true]
    constructor
    · rintro ⟨c, hc, h⟩
      obtain ⟨t, ht, rfl⟩ := told_way v hc
      obtain ⟨⟨h1, _⟩, _⟩ := way_told v ht
      rw [whole_take v h1] at h
      exact ⟨t, ht, h⟩
    · rintro ⟨t, ht, h⟩
      obtain ⟨⟨h1, _⟩, h3, _⟩ := way_told v ht
      exact ⟨_, h3, by rw [whole_take v h1]; exact h⟩
attribute [local irreducible] AnyO AnyB QAny QB EWalk AWalk Ev WP OPS QThen QBlock QScope QLoop QBody Val New Turn Tri Enters PostA Blk Ro
attribute [local irreducible] AnyC QC
section
variable (N : Nat) (w0 : World)
set_option maxHeartbeats 4000000 in
theorem RFinished_ret (L : Hp) (g : Fg) (hA : SodAt N w0 g) (h1 : g.s.spits.length ≤ 1000) (h2 : g.s.days.length ≤ 1000) (h3 : g.s.logs.length ≤ 1000) (day : Int) :
    Ret Try.prog N w0 L 23 [sodV g, .int .i64 day].toArray (.tuple [.int .i64 (SureV g.s day : Int), .int .i64 (CanV g.s day : Int), .int .i64 (errE g.s (DayOk g.s day))].toArray) := by
  have hday := fun L' => rday_ret N w0 L' g day h2
  have htl := fun L' => told_tri N w0 L' g hA h1 h2 h3 (DayOk g.s day)
  by_cases h0 : errE g.s (DayOk g.s day) = 0
  · obtain ⟨hvb, hok, hsb⟩ := errE_ok h0
    have hv := VS_of hvb
    have hnp := hv.np
    obtain ⟨d, rfl, hd⟩ := DayOk_nat hok
    have hz1 : SureV g.s d = bitsOf (sureB g.s d) g.s.spits.length := by unfold SureV; rw [h0, if_pos rfl]; rfl
    have hz2 : CanV g.s d = bitsOf (canB g.s d) g.s.spits.length := by unfold CanV; rw [h0, if_pos rfl]; rfl
    have hwo := ways_ok hv
    have hwt := fun t ht => way_told hv (t := t) ht
    have hsw := fun p => sure_way hv d p
    rw [h0, hok] at htl
    rw [hok] at hday
    rw [hz1, hz2, h0]
    obtain ⟨WW, hWW⟩ : ∃ WW, waysP g.s (evN g.s) = WW := ⟨_, rfl⟩
    rw [hWW] at htl hwo hwt hsw
    refine Ret.fgt ?_
    refine tri_of_WP Try.func23 rfl (n := 89) rfl (by simp) ?_
    unfold sodV sdL at hday htl ⊢
    repeat' (first | (refine GiP ?_; first | (refine Znh ?_) | (with_reducible refine Znl ?_)) | (refine GiW ?_; first | (refine Zsq fun K hK => ?_) | (refine ZrN 0 fun _ => ?_; refine Zal 2 fun b2 => ?_; refine Zv Zai ?_; refine Zv Zai ?_; refine Zv Zai ?_) | (refine WP_cond_true rfl ?_) | (refine WP_cond_false rfl ?_) | (refine Zcd (fun hc => ?_) (fun hc => ?_) <;> (try (exfalso; omega))) | (with_reducible apply WP_skip) | (with_reducible apply WP_block) | (with_reducible apply WP_exit) | (with_reducible apply WP_ret)) | (refine Zhn ?_) | (with_reducible apply QBlock_normal) | (refine Zhx ?_) | (with_reducible apply QBlock_hit) | (refine Zqb ?_) | (with_reducible apply QLoop_exit) | (refine Zhr ?_) | (with_reducible apply QBlock_ret) | (with_reducible apply QLoop_ret))
    refine WP_joinS (by assumption) [7, 8, 17, 18, 19, 20, 21, 22, 23, 24] (fun q : (Option Addr × Nat) × Hp => [(7, .slice q.1.1 WW.length q.1.2), (8, .int .i64 0)]) (fun q => q.2 ++ ((b2, Blk 26 [.slice g.A1 g.s.spits.length g.c1, .slice g.A2 g.s.days.length g.c2, .slice g.A3 g.s.logs.length g.c3]) :: L)) (fun q => RdT q.2 (.slice q.1.1 WW.length q.1.2) WW) ?_ ?_
    · intro K' hC
      repeat' (first | (refine GiP ?_; first | (refine Znh ?_) | (with_reducible refine Znl ?_) | (refine Zatd 22 ?_; refine OPS_retKS (Enters_fn rfl) (htl _) rfl rfl rfl (fun v9 L9 h9 => ?_); obtain ⟨A8, n8, c8, X8, rfl, hr8, rfl⟩ := h9; have hr9 := hr8 rfl; obtain ⟨A9, c9, e9, -⟩ := id hr9; simp only [Value.slice.injEq] at e9; obtain ⟨rfl, rfl, rfl⟩ := e9) | (refine Zatd 17 ?_; refine Zv Zmv ?_) | (refine Zatd 23 ?_; refine Zv Zxex ?_) | (refine Zatd 24 ?_; refine Zv Zxex ?_) | (refine Zatd 7 ?_; refine Zv Zav ?_) | (refine Zatd 8 ?_; refine Zv Zai ?_)) | (refine GiW ?_; first | (refine Zsq fun K hK => ?_) | (refine WP_cond_true rfl ?_) | (refine WP_cond_false rfl ?_) | (refine Zcd (fun hc => ?_) (fun hc => ?_) <;> (try (exfalso; omega))) | (with_reducible apply WP_skip) | (with_reducible apply WP_block) | (with_reducible apply WP_exit) | (with_reducible apply WP_ret) | (refine WP_drawnS (id := 1) [] [0, 1, 2, 3] [] [] (k := 0) (k2 := 6) (by repeat (first | apply Sub.sv | apply Sub.keep | apply Sub.appK | exact Sub.refl _)) (by kernel_rfl) prog_mixed (by kernel_rfl) (by kernel_rfl) rfl ?_; refine Zew rfl Zla ?_; refine Zew rfl Zla ?_; refine Zew rfl Zmi ?_; refine Zec rfl (Enters_fn rfl) (fun X => hday _) ?_)) | (with_reducible apply EWalk_nil) | (refine ZgC [0, 1, 2, 3] ?_; refine ZCl _ ?_) | (refine GiO ?_; first | (refine ZgO [0, 1, 2, 3] ?_; refine ZO1 _ 4 [0, 1, 2, 3, 4] ?_) | (refine ZgO [0, 1, 2, 3, 4] ?_; refine ZO1 _ 5 [0, 1, 2, 3, 4, 5] ?_) | (refine ZgO [0, 1, 2, 3, 4, 5] ?_; refine ZO2 _ 6 [0, 1, 2, 3, 4, 5, 6] 7 [0, 1, 2, 3, 4, 5, 7] ?_ ?_) | (refine ZgO [0, 1, 2, 3, 4, 5, 6] ?_; refine ZO2 _ 7 [0, 1, 2, 3, 4, 5, 6, 7] 8 [0, 1, 2, 3, 4, 5, 6, 8] ?_ ?_) | (refine ZgO [0, 1, 2, 3, 4, 5, 6, 7] ?_; refine ZO1 _ 8 [0, 1, 2, 3, 4, 5, 6, 7, 8] ?_) | (refine ZgO [0, 1, 2, 3, 4, 5, 6, 7, 8] ?_; refine ZO1 _ 9 [0, 1, 2, 3, 4, 5, 6, 7, 8, 9] ?_) | (refine ZgO [0, 1, 2, 3, 4, 5, 6, 7, 8, 9] ?_; refine ZOd _ ?_; (try with_reducible apply noP_normal); (try with_reducible exact key.out)) | (refine ZgO [0, 1, 2, 3, 4, 5, 6, 8] ?_; refine ZO1 _ 7 [0, 1, 2, 3, 4, 5, 6, 7, 8] ?_) | (refine ZgO [0, 1, 2, 3, 4, 5, 7] ?_; refine ZO1 _ 6 [0, 1, 2, 3, 4, 5, 6, 7] ?_)) | (refine Zhn ?_) | (with_reducible apply QBlock_normal) | (refine Zhx ?_) | (with_reducible apply QBlock_hit) | (refine Zqb ?_) | (with_reducible apply QLoop_exit) | (refine Zhr ?_) | (with_reducible apply QBlock_ret) | (with_reducible apply QLoop_ret) | (refine AWalk_0 ?_) | (with_reducible apply QAny_normal) | (with_reducible apply QC_normal))
      all_goals exact hC.nor ((A8, c8), X8) _ _ (.cons rfl (.cons rfl .nil)) (by repeat (first | exact Off.frame rfl | exact Off.refl _ _ | refine Off.frameT rfl rfl ?_ | refine Off.upd rfl ?_ | refine Off.updO rfl ?_)) (Sub.refl _) hr9
    rintro ⟨⟨A8, c8⟩, X8⟩ j1 hr
    dsimp only at hr ⊢
    repeat' (first | (refine GiP ?_; first | (refine Znh ?_) | (with_reducible refine Znl ?_)) | (refine GiW ?_; first | (refine Zsq fun K hK => ?_) | (refine ZrN 2 fun _ => ?_; refine Zv Zmi ?_; refine Zv Zyneq ?_) | (refine ZrN 4 fun _ => ?_; refine Zv Zai ?_; refine Zv Zai ?_) | (refine ZrN 5 fun _ => ?_; refine Zv Zai ?_) | (refine WP_cond_true rfl ?_) | (refine WP_cond_false rfl ?_) | (refine Zcd (fun hc => ?_) (fun hc => ?_) <;> (try (exfalso; omega))) | (with_reducible apply WP_skip) | (with_reducible apply WP_block) | (with_reducible apply WP_exit) | (with_reducible apply WP_ret)) | (refine Zhn ?_) | (with_reducible apply QBlock_normal) | (refine Zhx ?_) | (with_reducible apply QBlock_hit) | (refine Zqb ?_) | (with_reducible apply QLoop_exit) | (refine Zhr ?_) | (with_reducible apply QBlock_ret) | (with_reducible apply QLoop_ret))
    obtain ⟨A9, c9, e9, hrd⟩ := id hr
    simp only [Value.slice.injEq] at e9
    obtain ⟨rfl, -, rfl⟩ := e9
    have hwn := hwo.n
    refine WP_loop [9, 10, 11, 12, 13, 14, 15, 16, 28, 29, 30, 31, 32, 33, 34, 35, 36, 37, 38, 39, 40, 41, 42, 43, 44, 45, 46, 47, 48, 49, 50, 51, 52, 53, 54, 55, 56, 57, 58, 59, 60, 61, 62, 63, 64, 65, 66, 67, 68, 69, 70, 71, 72, 73, 74, 75, 76, 77, 78, 79, 80, 81, 82, 83, 84, 85, 86] (fun p : Nat => [(9, .int .i64 (bitsOf (sureB g.s d) p : Int)), (10, .int .i64 (bitsOf (canB g.s d) p : Int)), (11, .int .i64 (p : Int))]) (fun _ => X8 ++ ((b2, Blk 26 [.slice g.A1 g.s.spits.length g.c1, .slice g.A2 g.s.days.length g.c2, .slice g.A3 g.s.logs.length g.c3]) :: L)) (fun p => p ≤ g.s.spits.length) (fun p => g.s.spits.length - p) 0 (.cons rfl (.cons rfl (.cons rfl .nil))) (Wk.refl _) (Nat.zero_le _) ?_
    intro p j2 hp
    by_cases hpl : p < g.s.spits.length
    · obtain ⟨w1, w2⟩ := hsw p
      have hb1 : bitsOf (sureB g.s d) p < 2 ^ p := bitsOf_lt _ _
      have hb2 : bitsOf (canB g.s d) p < 2 ^ p := bitsOf_lt _ _
      have h8 : 2 ^ p ≤ 2 ^ 3 := Nat.pow_le_pow_right (by omega) (by omega)
      have n1 : bitsOf (sureB g.s d) (p + 1) = bitsOf (sureB g.s d) p + if sureB g.s d p then 2 ^ p else 0 := rfl
      have n2 : bitsOf (canB g.s d) (p + 1) = bitsOf (canB g.s d) p + if canB g.s d p then 2 ^ p else 0 := rfl
      obtain ⟨S1, hS1⟩ : ∃ S, bitsOf (sureB g.s d) p = S := ⟨_, rfl⟩
      obtain ⟨S2, hS2⟩ : ∃ S, bitsOf (canB g.s d) p = S := ⟨_, rfl⟩
      rw [hS1] at hb1 n1 ⊢
      rw [hS2] at hb2 n2 ⊢
      have hpw := fun L' => power_ret N w0 L' p (by omega)
      repeat' (first | (refine GiP ?_; first | (refine Znh ?_) | (with_reducible refine Znl ?_)) | (refine GiW ?_; first | (refine Zsq fun K hK => ?_) | (refine ZrN 6 fun _ => ?_; refine Zv Zmi ?_; refine Zv Zf0 ?_; refine Zv Zld ?_; refine Zv Zxlen ?_; refine Zv Zylss ?_) | (refine ZrN 8 fun _ => ?_; refine Zv Zab ?_; refine Zv Zab ?_) | (refine ZrN 9 fun _ => ?_; refine Zv Zai ?_) | (refine WP_cond_true rfl ?_) | (refine WP_cond_false rfl ?_) | (refine Zcd (fun hc => ?_) (fun hc => ?_) <;> (try (exfalso; omega))) | (with_reducible apply WP_skip) | (with_reducible apply WP_block) | (with_reducible apply WP_exit) | (with_reducible apply WP_ret)) | (refine Zhn ?_) | (with_reducible apply QBlock_normal) | (refine Zhx ?_) | (with_reducible apply QBlock_hit) | (refine Zqb ?_) | (with_reducible apply QLoop_exit) | (refine Zhr ?_) | (with_reducible apply QBlock_ret) | (with_reducible apply QLoop_ret))
      refine WP_loop [12, 13, 14, 15, 16, 35, 36, 37, 38, 39, 40, 41, 42, 43, 44, 45, 46, 47, 48, 49, 50, 51, 52, 53, 54, 55, 56, 57, 58, 59, 60, 61, 62, 63, 64, 65, 66, 67, 68, 69, 70, 71, 72, 73, 74, 75, 76] (fun st : Nat × Bool × Bool => [(12, .bool st.2.1), (13, .bool st.2.2), (14, .int .i64 (st.1 : Int))]) (fun _ => X8 ++ ((b2, Blk 26 [.slice g.A1 g.s.spits.length g.c1, .slice g.A2 g.s.days.length g.c2, .slice g.A3 g.s.logs.length g.c3]) :: L)) (fun st => st.1 ≤ WW.length ∧ st.2.1 = allW g.s d p (WW.take st.1) ∧ st.2.2 = anyW g.s d p (WW.take st.1)) (fun st => WW.length - st.1) (0, true, false) (.cons rfl (.cons rfl (.cons rfl .nil))) (Wk.refl _) ⟨Nat.zero_le _, rfl, rfl⟩ ?_
      rintro ⟨k, al, so⟩ j3 ⟨hk, hal, hso⟩
      dsimp only at hk hal hso ⊢
      by_cases hkl : k < WW.length
      · obtain ⟨⟨cs, tt⟩, hte⟩ : ∃ t, WW[k]? = some t := ⟨_, List.getElem?_eq_getElem hkl⟩
        obtain ⟨⟨hcin, hcl⟩, hct, htl2, hrow⟩ := hwt _ (List.mem_of_getElem? hte)
        dsimp only at hcin hcl hct htl2 hrow
        obtain ⟨bW, u, q, rfl, hu, hq, hru, hrq⟩ := hrd k _ hte
        dsimp only at hru hrq
        obtain ⟨Au, cu, eu, -⟩ := id hru
        subst eu
        obtain ⟨bt, ct, rfl, hqx⟩ := hrq.opn (by omega)
        have ha : allW g.s d p (WW.take (k + 1)) = (al && decide (totC (g.s.spits.take (p + 1)) (cs.take (p + 1)) ≤ (dayS g.s (pad3 cs) d).1)) := by
          rw [hal]; unfold allW
          rw [List.take_succ_eq_append_getElem hkl, (List.getElem?_eq_some_iff.1 hte).2, List.all_append]; simp
        have hs : anyW g.s d p (WW.take (k + 1)) = (so || decide (totC (g.s.spits.take (p + 1)) (cs.take (p + 1)) ≤ (dayS g.s (pad3 cs) d).2)) := by
          rw [hso]; unfold anyW
          rw [List.take_succ_eq_append_getElem hkl, (List.getElem?_eq_some_iff.1 hte).2, List.any_append]; simp
        clear hal hso
        have hrw := hrow d hd
        have hbd := day_bd hv hct hd
        have hle := day_le hv hct hd
        obtain ⟨⟨a, b⟩, hab⟩ : ∃ s, dayS g.s (pad3 cs) d = s := ⟨_, rfl⟩
        rw [hab] at hrw hbd hle ha hs
        dsimp only at hbd hle ha hs
        obtain ⟨ur, hqr, hrr⟩ := hqx d _ hrw
        have hvl := vals_length (a, b)
        dsimp only at hvl
        obtain ⟨br, cr, rfl, hrx⟩ := hrr.opn (by omega)
        have h4 := hrx 0 a (by rw [List.getElem?_eq_getElem (by omega), vals_get]; simp)
        obtain ⟨M, hM⟩ : ∃ M, (vals (a, b)).length = M := ⟨_, rfl⟩
        have h5 := hrx (M - 1) b (by rw [List.getElem?_eq_getElem (by omega), vals_get]; congr 1; dsimp only; omega)
        rw [hM] at hvl hqr
        have hR1 : ∀ L', Wk L' X8 → Rd N w0 L' bW (0 + k * 2) (.slice Au cs.length cu) := fun L' k => (hu.wk k).rd
        have hR2 : ∀ L', Wk L' X8 → Rd N w0 L' bW (0 + k * 2 + 1) (.slice (some ⟨bt, 0, none⟩) tt.length ct) := fun L' k => (hq.wk k).rd
        have hR3 : ∀ L', Wk L' X8 → Rd N w0 L' bt (0 + d) (.slice (some ⟨br, 0, none⟩) M cr) := fun L' k => (hqr.wk k).rd
        have hR4 : ∀ L', Wk L' X8 → Rd N w0 L' br (0 + 0) (.int .i64 a) := fun L' k => (h4.wk k).rd
        have hR5 : ∀ L', Wk L' X8 → Rd N w0 L' br (0 + (M - 1)) (.int .i64 b) := fun L' k => (h5.wk k).rd
        have hdt : d < tt.length := by omega
        have hM1 : (M : Int) - 1 = ((M - 1 : Nat) : Int) := by omega
        have hMl : M - 1 < M := by omega
        have hM0 : 0 < M := by omega
        have hwh := fun L' hk => rwhole_in N w0 L' g hA hv (.slice Au cs.length cu) cs X8 hru hk hcin hcl (p + 1) (by omega)
        obtain ⟨T, hT⟩ : ∃ T, totC (g.s.spits.take (p + 1)) (cs.take (p + 1)) = T := ⟨_, rfl⟩
        rw [hT] at hwh ha hs
        unfold sodV sdL at hwh
        cases al with
          | true => cases so with
            | true =>
              repeat' (first | (refine GiP ?_; first | (refine Znh ?_) | (with_reducible refine Znl ?_)) | (refine GiW ?_; first | (refine Zsq fun K hK => ?_) | (refine ZrN 10 fun _ => ?_; refine Zv Zmi ?_; refine Zv Zmv ?_; refine Zv Zxlen ?_; refine Zv Zxlss ?_) | (refine ZrN 12 fun _ => ?_; refine Zv Zmv ?_; refine Zv Zmi ?_; (first | (refine Zv (Val_indexAddr rfl rfl rfl hkl) ?_) | (refine Zv (Val_indexAddr1 rfl rfl rfl hdt) ?_) | (refine Zv (Val_indexAddr1 rfl rfl rfl hMl) ?_) | (refine Zv (Val_indexAddr1 rfl rfl (rfl : _ = ((0 : Nat) : Int)) hM0) ?_) | (refine Zv Zia ?_)); refine Zv Zfa ?_; (first | (refine Zv (Val_loadD1 rfl (hR1 _ (by repeat (first | exact Wk.appR X8 _ | apply Wk.svD | apply Wk.drop | apply Wk.appD)))) ?_) | (refine Zv (Val_loadD1 rfl (hR2 _ (by repeat (first | exact Wk.appR X8 _ | apply Wk.svD | apply Wk.drop | apply Wk.appD)))) ?_) | (refine Zv (Val_loadD1 rfl (hR3 _ (by repeat (first | exact Wk.appR X8 _ | apply Wk.svD | apply Wk.drop | apply Wk.appD)))) ?_) | (refine Zv (Val_loadD1 rfl (hR4 _ (by repeat (first | exact Wk.appR X8 _ | apply Wk.svD | apply Wk.drop | apply Wk.appD)))) ?_) | (refine Zv (Val_loadD1 rfl (hR5 _ (by repeat (first | exact Wk.appR X8 _ | apply Wk.svD | apply Wk.drop | apply Wk.appD)))) ?_) | (refine Zv Zld ?_)); refine Zv Zmi ?_; (first | (refine Zv (Val_indexAddr rfl rfl rfl hkl) ?_) | (refine Zv (Val_indexAddr1 rfl rfl rfl hdt) ?_) | (refine Zv (Val_indexAddr1 rfl rfl rfl hMl) ?_) | (refine Zv (Val_indexAddr1 rfl rfl (rfl : _ = ((0 : Nat) : Int)) hM0) ?_) | (refine Zv Zia ?_)); (first | (refine Zv (Val_loadD1 rfl (hR1 _ (by repeat (first | exact Wk.appR X8 _ | apply Wk.svD | apply Wk.drop | apply Wk.appD)))) ?_) | (refine Zv (Val_loadD1 rfl (hR2 _ (by repeat (first | exact Wk.appR X8 _ | apply Wk.svD | apply Wk.drop | apply Wk.appD)))) ?_) | (refine Zv (Val_loadD1 rfl (hR3 _ (by repeat (first | exact Wk.appR X8 _ | apply Wk.svD | apply Wk.drop | apply Wk.appD)))) ?_) | (refine Zv (Val_loadD1 rfl (hR4 _ (by repeat (first | exact Wk.appR X8 _ | apply Wk.svD | apply Wk.drop | apply Wk.appD)))) ?_) | (refine Zv (Val_loadD1 rfl (hR5 _ (by repeat (first | exact Wk.appR X8 _ | apply Wk.svD | apply Wk.drop | apply Wk.appD)))) ?_) | (refine Zv Zld ?_)); refine Zv Zav ?_) | (refine ZrN 11 fun _ => ?_; refine Zv Zmi ?_; refine Zv Zxadd ?_; refine Zv Zai ?_) | (refine WP_cond_true rfl ?_) | (refine WP_cond_false rfl ?_) | (refine Zcd (fun hc => ?_) (fun hc => ?_) <;> (try (exfalso; omega))) | (with_reducible apply WP_skip) | (with_reducible apply WP_block) | (with_reducible apply WP_exit) | (with_reducible apply WP_ret) | (refine WP_drawn (id := 13) [0, 1, 2, 3, 4, 5, 6, 7, 8, 9] [] (k := 0) prog_mixed (by kernel_rfl) rfl ?_; (first | (refine Zew rfl (Val_loadD1 rfl (hR1 _ (by repeat (first | exact Wk.appR X8 _ | apply Wk.svD | apply Wk.drop | apply Wk.appD)))) ?_) | (refine Zew rfl (Val_loadD1 rfl (hR2 _ (by repeat (first | exact Wk.appR X8 _ | apply Wk.svD | apply Wk.drop | apply Wk.appD)))) ?_) | (refine Zew rfl (Val_loadD1 rfl (hR3 _ (by repeat (first | exact Wk.appR X8 _ | apply Wk.svD | apply Wk.drop | apply Wk.appD)))) ?_) | (refine Zew rfl (Val_loadD1 rfl (hR4 _ (by repeat (first | exact Wk.appR X8 _ | apply Wk.svD | apply Wk.drop | apply Wk.appD)))) ?_) | (refine Zew rfl (Val_loadD1 rfl (hR5 _ (by repeat (first | exact Wk.appR X8 _ | apply Wk.svD | apply Wk.drop | apply Wk.appD)))) ?_) | (refine Zew rfl Zla ?_)); refine Zew rfl Zmv ?_; refine Zew rfl Zmi ?_; (first | (refine Zew rfl (Val_indexAddr rfl rfl rfl hkl) ?_) | (refine Zew rfl (Val_indexAddr1 rfl rfl rfl hdt) ?_) | (refine Zew rfl (Val_indexAddr1 rfl rfl rfl hMl) ?_) | (refine Zew rfl (Val_indexAddr1 rfl rfl (rfl : _ = ((0 : Nat) : Int)) hM0) ?_) | (refine Zew rfl Zia ?_)); refine Zew rfl Zf0 ?_; (first | (refine Zew rfl (Val_loadD1 rfl (hR1 _ (by repeat (first | exact Wk.appR X8 _ | apply Wk.svD | apply Wk.drop | apply Wk.appD)))) ?_) | (refine Zew rfl (Val_loadD1 rfl (hR2 _ (by repeat (first | exact Wk.appR X8 _ | apply Wk.svD | apply Wk.drop | apply Wk.appD)))) ?_) | (refine Zew rfl (Val_loadD1 rfl (hR3 _ (by repeat (first | exact Wk.appR X8 _ | apply Wk.svD | apply Wk.drop | apply Wk.appD)))) ?_) | (refine Zew rfl (Val_loadD1 rfl (hR4 _ (by repeat (first | exact Wk.appR X8 _ | apply Wk.svD | apply Wk.drop | apply Wk.appD)))) ?_) | (refine Zew rfl (Val_loadD1 rfl (hR5 _ (by repeat (first | exact Wk.appR X8 _ | apply Wk.svD | apply Wk.drop | apply Wk.appD)))) ?_) | (refine Zew rfl Zld ?_)); refine Zew rfl Zmi ?_; refine Zew rfl Zxadd ?_; refine Zec rfl (Enters_fn rfl) (fun X => hwh _ (by repeat (first | exact Wk.appR X8 _ | apply Wk.svD | apply Wk.drop | apply Wk.appD))) ?_; refine Zew rfl Zai ?_) | (refine WP_drawn (id := 14) [0, 1, 2, 3, 4, 5, 6, 7, 8, 9, 10, 11, 12, 13, 14, 15, 16, 17, 18, 19, 20] [] (k := 0) prog_mixed (by kernel_rfl) rfl ?_; refine Zew rfl Zmb ?_; refine Zew rfl Zmb ?_)) | (refine GiE ?_; first | (refine Zati 7 ?_; (first | (refine Zew rfl Zxpt ?_) | (refine Zew rfl Zxpf ?_)); refine Zew rfl Zmb ?_; refine Zew rfl Zmb ?_) | (refine Zati 18 ?_; (first | (refine Zew rfl Zxpt ?_) | (refine Zew rfl Zxpf ?_)); refine Zew rfl Zab ?_; refine Zew rfl Zab ?_) | (refine Zati 2 ?_; first | refine Zes ?_ | (refine Zew rfl Zmv ?_)) | (refine Zati 3 ?_; first | refine Zes ?_ | (refine Zew rfl (Val_indexAddr rfl rfl rfl hkl) ?_) | (refine Zew rfl (Val_indexAddr1 rfl rfl rfl hdt) ?_) | (refine Zew rfl (Val_indexAddr1 rfl rfl rfl hMl) ?_) | (refine Zew rfl (Val_indexAddr1 rfl rfl (rfl : _ = ((0 : Nat) : Int)) hM0) ?_) | (refine Zew rfl Zia ?_)) | (refine Zati 4 ?_; first | refine Zes ?_ | (refine Zew rfl (Val_loadD1 rfl (hR1 _ (by repeat (first | exact Wk.appR X8 _ | apply Wk.svD | apply Wk.drop | apply Wk.appD)))) ?_) | (refine Zew rfl (Val_loadD1 rfl (hR2 _ (by repeat (first | exact Wk.appR X8 _ | apply Wk.svD | apply Wk.drop | apply Wk.appD)))) ?_) | (refine Zew rfl (Val_loadD1 rfl (hR3 _ (by repeat (first | exact Wk.appR X8 _ | apply Wk.svD | apply Wk.drop | apply Wk.appD)))) ?_) | (refine Zew rfl (Val_loadD1 rfl (hR4 _ (by repeat (first | exact Wk.appR X8 _ | apply Wk.svD | apply Wk.drop | apply Wk.appD)))) ?_) | (refine Zew rfl (Val_loadD1 rfl (hR5 _ (by repeat (first | exact Wk.appR X8 _ | apply Wk.svD | apply Wk.drop | apply Wk.appD)))) ?_) | (refine Zew rfl Zld ?_)) | (refine Zati 5 ?_; first | refine Zes ?_ | (refine Zew rfl Zmi ?_)) | (refine Zati 6 ?_; first | refine Zes ?_ | (refine Zew rfl (Zxgeq) ?_)) | (refine Zati 10 ?_; first | refine Zes ?_ | (refine Zew rfl Zmv ?_)) | (refine Zati 11 ?_; first | refine Zes ?_ | (refine Zew rfl Zmv ?_)) | (refine Zati 12 ?_; first | refine Zes ?_ | (refine Zew rfl Zxlen ?_)) | (refine Zati 13 ?_; first | refine Zes ?_ | (refine Zew rfl (Val_subN hM1 (by omega) rfl rfl) ?_)) | (refine Zati 14 ?_; first | refine Zes ?_ | (refine Zew rfl (Val_indexAddr rfl rfl rfl hkl) ?_) | (refine Zew rfl (Val_indexAddr1 rfl rfl rfl hdt) ?_) | (refine Zew rfl (Val_indexAddr1 rfl rfl rfl hMl) ?_) | (refine Zew rfl (Val_indexAddr1 rfl rfl (rfl : _ = ((0 : Nat) : Int)) hM0) ?_) | (refine Zew rfl Zia ?_)) | (refine Zati 15 ?_; first | refine Zes ?_ | (refine Zew rfl (Val_loadD1 rfl (hR1 _ (by repeat (first | exact Wk.appR X8 _ | apply Wk.svD | apply Wk.drop | apply Wk.appD)))) ?_) | (refine Zew rfl (Val_loadD1 rfl (hR2 _ (by repeat (first | exact Wk.appR X8 _ | apply Wk.svD | apply Wk.drop | apply Wk.appD)))) ?_) | (refine Zew rfl (Val_loadD1 rfl (hR3 _ (by repeat (first | exact Wk.appR X8 _ | apply Wk.svD | apply Wk.drop | apply Wk.appD)))) ?_) | (refine Zew rfl (Val_loadD1 rfl (hR4 _ (by repeat (first | exact Wk.appR X8 _ | apply Wk.svD | apply Wk.drop | apply Wk.appD)))) ?_) | (refine Zew rfl (Val_loadD1 rfl (hR5 _ (by repeat (first | exact Wk.appR X8 _ | apply Wk.svD | apply Wk.drop | apply Wk.appD)))) ?_) | (refine Zew rfl Zld ?_)) | (refine Zati 16 ?_; first | refine Zes ?_ | (refine Zew rfl Zmi ?_)) | (refine Zati 17 ?_; first | refine Zes ?_ | (refine Zew rfl (Zxgeq) ?_)) | (refine Zes ?_) | (refine Zesp (fun hc => ?_) (fun hc => ?_) <;> (try (exfalso; omega))) | (with_reducible apply EWalk_nil)) | (refine AnyO_done (by kernel_rfl) ?_; (try with_reducible apply noP_normal); try with_reducible exact key.out) | (refine Zhn ?_) | (with_reducible apply QBlock_normal) | (refine Zhx ?_) | (with_reducible apply QBlock_hit) | (refine Zqb ?_) | (with_reducible apply QLoop_exit) | (refine Zhr ?_) | (with_reducible apply QBlock_ret) | (with_reducible apply QLoop_ret) | (refine AWalk_0 ?_; refine ZisO ?_) | (with_reducible apply QAny_normal))
              all_goals exact QLoop_normal (k + 1, decide (T ≤ a), true) (.cons rfl (.cons rfl (.cons rfl .nil))) (by repeat (first | exact Off.frame rfl | exact Off.refl _ _ | refine Off.frameT rfl rfl ?_ | refine Off.upd rfl ?_ | refine Off.updO rfl ?_)) (by repeat (first | exact Wk.refl _ | apply Wk.keep1 | apply Wk.drop | apply Wk.sv | apply Wk.svD | apply Wk.appD)) ⟨by dsimp only; omega, ha.symm, hs.symm⟩ (by dsimp only; omega)
            | false =>
              repeat' (first | (refine GiP ?_; first | (refine Znh ?_) | (with_reducible refine Znl ?_)) | (refine GiW ?_; first | (refine Zsq fun K hK => ?_) | (refine ZrN 10 fun _ => ?_; refine Zv Zmi ?_; refine Zv Zmv ?_; refine Zv Zxlen ?_; refine Zv Zxlss ?_) | (refine ZrN 12 fun _ => ?_; refine Zv Zmv ?_; refine Zv Zmi ?_; (first | (refine Zv (Val_indexAddr rfl rfl rfl hkl) ?_) | (refine Zv (Val_indexAddr1 rfl rfl rfl hdt) ?_) | (refine Zv (Val_indexAddr1 rfl rfl rfl hMl) ?_) | (refine Zv (Val_indexAddr1 rfl rfl (rfl : _ = ((0 : Nat) : Int)) hM0) ?_) | (refine Zv Zia ?_)); refine Zv Zfa ?_; (first | (refine Zv (Val_loadD1 rfl (hR1 _ (by repeat (first | exact Wk.appR X8 _ | apply Wk.svD | apply Wk.drop | apply Wk.appD)))) ?_) | (refine Zv (Val_loadD1 rfl (hR2 _ (by repeat (first | exact Wk.appR X8 _ | apply Wk.svD | apply Wk.drop | apply Wk.appD)))) ?_) | (refine Zv (Val_loadD1 rfl (hR3 _ (by repeat (first | exact Wk.appR X8 _ | apply Wk.svD | apply Wk.drop | apply Wk.appD)))) ?_) | (refine Zv (Val_loadD1 rfl (hR4 _ (by repeat (first | exact Wk.appR X8 _ | apply Wk.svD | apply Wk.drop | apply Wk.appD)))) ?_) | (refine Zv (Val_loadD1 rfl (hR5 _ (by repeat (first | exact Wk.appR X8 _ | apply Wk.svD | apply Wk.drop | apply Wk.appD)))) ?_) | (refine Zv Zld ?_)); refine Zv Zmi ?_; (first | (refine Zv (Val_indexAddr rfl rfl rfl hkl) ?_) | (refine Zv (Val_indexAddr1 rfl rfl rfl hdt) ?_) | (refine Zv (Val_indexAddr1 rfl rfl rfl hMl) ?_) | (refine Zv (Val_indexAddr1 rfl rfl (rfl : _ = ((0 : Nat) : Int)) hM0) ?_) | (refine Zv Zia ?_)); (first | (refine Zv (Val_loadD1 rfl (hR1 _ (by repeat (first | exact Wk.appR X8 _ | apply Wk.svD | apply Wk.drop | apply Wk.appD)))) ?_) | (refine Zv (Val_loadD1 rfl (hR2 _ (by repeat (first | exact Wk.appR X8 _ | apply Wk.svD | apply Wk.drop | apply Wk.appD)))) ?_) | (refine Zv (Val_loadD1 rfl (hR3 _ (by repeat (first | exact Wk.appR X8 _ | apply Wk.svD | apply Wk.drop | apply Wk.appD)))) ?_) | (refine Zv (Val_loadD1 rfl (hR4 _ (by repeat (first | exact Wk.appR X8 _ | apply Wk.svD | apply Wk.drop | apply Wk.appD)))) ?_) | (refine Zv (Val_loadD1 rfl (hR5 _ (by repeat (first | exact Wk.appR X8 _ | apply Wk.svD | apply Wk.drop | apply Wk.appD)))) ?_) | (refine Zv Zld ?_)); refine Zv Zav ?_) | (refine ZrN 11 fun _ => ?_; refine Zv Zmi ?_; refine Zv Zxadd ?_; refine Zv Zai ?_) | (refine WP_cond_true rfl ?_) | (refine WP_cond_false rfl ?_) | (refine Zcd (fun hc => ?_) (fun hc => ?_) <;> (try (exfalso; omega))) | (with_reducible apply WP_skip) | (with_reducible apply WP_block) | (with_reducible apply WP_exit) | (with_reducible apply WP_ret) | (refine WP_drawn (id := 13) [0, 1, 2, 3, 4, 5, 6, 7, 8, 9] [] (k := 0) prog_mixed (by kernel_rfl) rfl ?_; (first | (refine Zew rfl (Val_loadD1 rfl (hR1 _ (by repeat (first | exact Wk.appR X8 _ | apply Wk.svD | apply Wk.drop | apply Wk.appD)))) ?_) | (refine Zew rfl (Val_loadD1 rfl (hR2 _ (by repeat (first | exact Wk.appR X8 _ | apply Wk.svD | apply Wk.drop | apply Wk.appD)))) ?_) | (refine Zew rfl (Val_loadD1 rfl (hR3 _ (by repeat (first | exact Wk.appR X8 _ | apply Wk.svD | apply Wk.drop | apply Wk.appD)))) ?_) | (refine Zew rfl (Val_loadD1 rfl (hR4 _ (by repeat (first | exact Wk.appR X8 _ | apply Wk.svD | apply Wk.drop | apply Wk.appD)))) ?_) | (refine Zew rfl (Val_loadD1 rfl (hR5 _ (by repeat (first | exact Wk.appR X8 _ | apply Wk.svD | apply Wk.drop | apply Wk.appD)))) ?_) | (refine Zew rfl Zla ?_)); refine Zew rfl Zmv ?_; refine Zew rfl Zmi ?_; (first | (refine Zew rfl (Val_indexAddr rfl rfl rfl hkl) ?_) | (refine Zew rfl (Val_indexAddr1 rfl rfl rfl hdt) ?_) | (refine Zew rfl (Val_indexAddr1 rfl rfl rfl hMl) ?_) | (refine Zew rfl (Val_indexAddr1 rfl rfl (rfl : _ = ((0 : Nat) : Int)) hM0) ?_) | (refine Zew rfl Zia ?_)); refine Zew rfl Zf0 ?_; (first | (refine Zew rfl (Val_loadD1 rfl (hR1 _ (by repeat (first | exact Wk.appR X8 _ | apply Wk.svD | apply Wk.drop | apply Wk.appD)))) ?_) | (refine Zew rfl (Val_loadD1 rfl (hR2 _ (by repeat (first | exact Wk.appR X8 _ | apply Wk.svD | apply Wk.drop | apply Wk.appD)))) ?_) | (refine Zew rfl (Val_loadD1 rfl (hR3 _ (by repeat (first | exact Wk.appR X8 _ | apply Wk.svD | apply Wk.drop | apply Wk.appD)))) ?_) | (refine Zew rfl (Val_loadD1 rfl (hR4 _ (by repeat (first | exact Wk.appR X8 _ | apply Wk.svD | apply Wk.drop | apply Wk.appD)))) ?_) | (refine Zew rfl (Val_loadD1 rfl (hR5 _ (by repeat (first | exact Wk.appR X8 _ | apply Wk.svD | apply Wk.drop | apply Wk.appD)))) ?_) | (refine Zew rfl Zld ?_)); refine Zew rfl Zmi ?_; refine Zew rfl Zxadd ?_; refine Zec rfl (Enters_fn rfl) (fun X => hwh _ (by repeat (first | exact Wk.appR X8 _ | apply Wk.svD | apply Wk.drop | apply Wk.appD))) ?_; refine Zew rfl Zai ?_) | (refine WP_drawn (id := 14) [0, 1, 2, 3, 4, 5, 6, 7, 8, 9, 10, 11, 12, 13, 14, 15, 16, 17, 18, 19, 20] [] (k := 0) prog_mixed (by kernel_rfl) rfl ?_; refine Zew rfl Zmb ?_; refine Zew rfl Zmb ?_)) | (refine GiE ?_; first | (refine Zati 7 ?_; (first | (refine Zew rfl Zxpt ?_) | (refine Zew rfl Zxpf ?_)); refine Zew rfl Zmb ?_; refine Zew rfl Zmb ?_) | (refine Zati 18 ?_; (first | (refine Zew rfl Zxpt ?_) | (refine Zew rfl Zxpf ?_)); refine Zew rfl Zab ?_; refine Zew rfl Zab ?_) | (refine Zati 2 ?_; first | refine Zes ?_ | (refine Zew rfl Zmv ?_)) | (refine Zati 3 ?_; first | refine Zes ?_ | (refine Zew rfl (Val_indexAddr rfl rfl rfl hkl) ?_) | (refine Zew rfl (Val_indexAddr1 rfl rfl rfl hdt) ?_) | (refine Zew rfl (Val_indexAddr1 rfl rfl rfl hMl) ?_) | (refine Zew rfl (Val_indexAddr1 rfl rfl (rfl : _ = ((0 : Nat) : Int)) hM0) ?_) | (refine Zew rfl Zia ?_)) | (refine Zati 4 ?_; first | refine Zes ?_ | (refine Zew rfl (Val_loadD1 rfl (hR1 _ (by repeat (first | exact Wk.appR X8 _ | apply Wk.svD | apply Wk.drop | apply Wk.appD)))) ?_) | (refine Zew rfl (Val_loadD1 rfl (hR2 _ (by repeat (first | exact Wk.appR X8 _ | apply Wk.svD | apply Wk.drop | apply Wk.appD)))) ?_) | (refine Zew rfl (Val_loadD1 rfl (hR3 _ (by repeat (first | exact Wk.appR X8 _ | apply Wk.svD | apply Wk.drop | apply Wk.appD)))) ?_) | (refine Zew rfl (Val_loadD1 rfl (hR4 _ (by repeat (first | exact Wk.appR X8 _ | apply Wk.svD | apply Wk.drop | apply Wk.appD)))) ?_) | (refine Zew rfl (Val_loadD1 rfl (hR5 _ (by repeat (first | exact Wk.appR X8 _ | apply Wk.svD | apply Wk.drop | apply Wk.appD)))) ?_) | (refine Zew rfl Zld ?_)) | (refine Zati 5 ?_; first | refine Zes ?_ | (refine Zew rfl Zmi ?_)) | (refine Zati 6 ?_; first | refine Zes ?_ | (refine Zew rfl (Zxgeq) ?_)) | (refine Zati 10 ?_; first | refine Zes ?_ | (refine Zew rfl Zmv ?_)) | (refine Zati 11 ?_; first | refine Zes ?_ | (refine Zew rfl Zmv ?_)) | (refine Zati 12 ?_; first | refine Zes ?_ | (refine Zew rfl Zxlen ?_)) | (refine Zati 13 ?_; first | refine Zes ?_ | (refine Zew rfl (Val_subN hM1 (by omega) rfl rfl) ?_)) | (refine Zati 14 ?_; first | refine Zes ?_ | (refine Zew rfl (Val_indexAddr rfl rfl rfl hkl) ?_) | (refine Zew rfl (Val_indexAddr1 rfl rfl rfl hdt) ?_) | (refine Zew rfl (Val_indexAddr1 rfl rfl rfl hMl) ?_) | (refine Zew rfl (Val_indexAddr1 rfl rfl (rfl : _ = ((0 : Nat) : Int)) hM0) ?_) | (refine Zew rfl Zia ?_)) | (refine Zati 15 ?_; first | refine Zes ?_ | (refine Zew rfl (Val_loadD1 rfl (hR1 _ (by repeat (first | exact Wk.appR X8 _ | apply Wk.svD | apply Wk.drop | apply Wk.appD)))) ?_) | (refine Zew rfl (Val_loadD1 rfl (hR2 _ (by repeat (first | exact Wk.appR X8 _ | apply Wk.svD | apply Wk.drop | apply Wk.appD)))) ?_) | (refine Zew rfl (Val_loadD1 rfl (hR3 _ (by repeat (first | exact Wk.appR X8 _ | apply Wk.svD | apply Wk.drop | apply Wk.appD)))) ?_) | (refine Zew rfl (Val_loadD1 rfl (hR4 _ (by repeat (first | exact Wk.appR X8 _ | apply Wk.svD | apply Wk.drop | apply Wk.appD)))) ?_) | (refine Zew rfl (Val_loadD1 rfl (hR5 _ (by repeat (first | exact Wk.appR X8 _ | apply Wk.svD | apply Wk.drop | apply Wk.appD)))) ?_) | (refine Zew rfl Zld ?_)) | (refine Zati 16 ?_; first | refine Zes ?_ | (refine Zew rfl Zmi ?_)) | (refine Zati 17 ?_; first | refine Zes ?_ | (refine Zew rfl (Zxgeq) ?_)) | (refine Zes ?_) | (refine Zesp (fun hc => ?_) (fun hc => ?_) <;> (try (exfalso; omega))) | (with_reducible apply EWalk_nil)) | (refine AnyO_done (by kernel_rfl) ?_; (try with_reducible apply noP_normal); try with_reducible exact key.out) | (refine Zhn ?_) | (with_reducible apply QBlock_normal) | (refine Zhx ?_) | (with_reducible apply QBlock_hit) | (refine Zqb ?_) | (with_reducible apply QLoop_exit) | (refine Zhr ?_) | (with_reducible apply QBlock_ret) | (with_reducible apply QLoop_ret) | (refine AWalk_0 ?_; refine ZisO ?_) | (with_reducible apply QAny_normal))
              all_goals exact QLoop_normal (k + 1, decide (T ≤ a), decide (T ≤ b)) (.cons rfl (.cons rfl (.cons rfl .nil))) (by repeat (first | exact Off.frame rfl | exact Off.refl _ _ | refine Off.frameT rfl rfl ?_ | refine Off.upd rfl ?_ | refine Off.updO rfl ?_)) (by repeat (first | exact Wk.refl _ | apply Wk.keep1 | apply Wk.drop | apply Wk.sv | apply Wk.svD | apply Wk.appD)) ⟨by dsimp only; omega, ha.symm, hs.symm⟩ (by dsimp only; omega)
          | false => cases so with
            | true =>
              repeat' (first | (refine GiP ?_; first | (refine Znh ?_) | (with_reducible refine Znl ?_)) | (refine GiW ?_; first | (refine Zsq fun K hK => ?_) | (refine ZrN 10 fun _ => ?_; refine Zv Zmi ?_; refine Zv Zmv ?_; refine Zv Zxlen ?_; refine Zv Zxlss ?_) | (refine ZrN 12 fun _ => ?_; refine Zv Zmv ?_; refine Zv Zmi ?_; (first | (refine Zv (Val_indexAddr rfl rfl rfl hkl) ?_) | (refine Zv (Val_indexAddr1 rfl rfl rfl hdt) ?_) | (refine Zv (Val_indexAddr1 rfl rfl rfl hMl) ?_) | (refine Zv (Val_indexAddr1 rfl rfl (rfl : _ = ((0 : Nat) : Int)) hM0) ?_) | (refine Zv Zia ?_)); refine Zv Zfa ?_; (first | (refine Zv (Val_loadD1 rfl (hR1 _ (by repeat (first | exact Wk.appR X8 _ | apply Wk.svD | apply Wk.drop | apply Wk.appD)))) ?_) | (refine Zv (Val_loadD1 rfl (hR2 _ (by repeat (first | exact Wk.appR X8 _ | apply Wk.svD | apply Wk.drop | apply Wk.appD)))) ?_) | (refine Zv (Val_loadD1 rfl (hR3 _ (by repeat (first | exact Wk.appR X8 _ | apply Wk.svD | apply Wk.drop | apply Wk.appD)))) ?_) | (refine Zv (Val_loadD1 rfl (hR4 _ (by repeat (first | exact Wk.appR X8 _ | apply Wk.svD | apply Wk.drop | apply Wk.appD)))) ?_) | (refine Zv (Val_loadD1 rfl (hR5 _ (by repeat (first | exact Wk.appR X8 _ | apply Wk.svD | apply Wk.drop | apply Wk.appD)))) ?_) | (refine Zv Zld ?_)); refine Zv Zmi ?_; (first | (refine Zv (Val_indexAddr rfl rfl rfl hkl) ?_) | (refine Zv (Val_indexAddr1 rfl rfl rfl hdt) ?_) | (refine Zv (Val_indexAddr1 rfl rfl rfl hMl) ?_) | (refine Zv (Val_indexAddr1 rfl rfl (rfl : _ = ((0 : Nat) : Int)) hM0) ?_) | (refine Zv Zia ?_)); (first | (refine Zv (Val_loadD1 rfl (hR1 _ (by repeat (first | exact Wk.appR X8 _ | apply Wk.svD | apply Wk.drop | apply Wk.appD)))) ?_) | (refine Zv (Val_loadD1 rfl (hR2 _ (by repeat (first | exact Wk.appR X8 _ | apply Wk.svD | apply Wk.drop | apply Wk.appD)))) ?_) | (refine Zv (Val_loadD1 rfl (hR3 _ (by repeat (first | exact Wk.appR X8 _ | apply Wk.svD | apply Wk.drop | apply Wk.appD)))) ?_) | (refine Zv (Val_loadD1 rfl (hR4 _ (by repeat (first | exact Wk.appR X8 _ | apply Wk.svD | apply Wk.drop | apply Wk.appD)))) ?_) | (refine Zv (Val_loadD1 rfl (hR5 _ (by repeat (first | exact Wk.appR X8 _ | apply Wk.svD | apply Wk.drop | apply Wk.appD)))) ?_) | (refine Zv Zld ?_)); refine Zv Zav ?_) | (refine ZrN 11 fun _ => ?_; refine Zv Zmi ?_; refine Zv Zxadd ?_; refine Zv Zai ?_) | (refine WP_cond_true rfl ?_) | (refine WP_cond_false rfl ?_) | (refine Zcd (fun hc => ?_) (fun hc => ?_) <;> (try (exfalso; omega))) | (with_reducible apply WP_skip) | (with_reducible apply WP_block) | (with_reducible apply WP_exit) | (with_reducible apply WP_ret) | (refine WP_drawn (id := 13) [0, 1, 2, 3, 4, 5, 6, 7, 8, 9] [] (k := 0) prog_mixed (by kernel_rfl) rfl ?_; (first | (refine Zew rfl (Val_loadD1 rfl (hR1 _ (by repeat (first | exact Wk.appR X8 _ | apply Wk.svD | apply Wk.drop | apply Wk.appD)))) ?_) | (refine Zew rfl (Val_loadD1 rfl (hR2 _ (by repeat (first | exact Wk.appR X8 _ | apply Wk.svD | apply Wk.drop | apply Wk.appD)))) ?_) | (refine Zew rfl (Val_loadD1 rfl (hR3 _ (by repeat (first | exact Wk.appR X8 _ | apply Wk.svD | apply Wk.drop | apply Wk.appD)))) ?_) | (refine Zew rfl (Val_loadD1 rfl (hR4 _ (by repeat (first | exact Wk.appR X8 _ | apply Wk.svD | apply Wk.drop | apply Wk.appD)))) ?_) | (refine Zew rfl (Val_loadD1 rfl (hR5 _ (by repeat (first | exact Wk.appR X8 _ | apply Wk.svD | apply Wk.drop | apply Wk.appD)))) ?_) | (refine Zew rfl Zla ?_)); refine Zew rfl Zmv ?_; refine Zew rfl Zmi ?_; (first | (refine Zew rfl (Val_indexAddr rfl rfl rfl hkl) ?_) | (refine Zew rfl (Val_indexAddr1 rfl rfl rfl hdt) ?_) | (refine Zew rfl (Val_indexAddr1 rfl rfl rfl hMl) ?_) | (refine Zew rfl (Val_indexAddr1 rfl rfl (rfl : _ = ((0 : Nat) : Int)) hM0) ?_) | (refine Zew rfl Zia ?_)); refine Zew rfl Zf0 ?_; (first | (refine Zew rfl (Val_loadD1 rfl (hR1 _ (by repeat (first | exact Wk.appR X8 _ | apply Wk.svD | apply Wk.drop | apply Wk.appD)))) ?_) | (refine Zew rfl (Val_loadD1 rfl (hR2 _ (by repeat (first | exact Wk.appR X8 _ | apply Wk.svD | apply Wk.drop | apply Wk.appD)))) ?_) | (refine Zew rfl (Val_loadD1 rfl (hR3 _ (by repeat (first | exact Wk.appR X8 _ | apply Wk.svD | apply Wk.drop | apply Wk.appD)))) ?_) | (refine Zew rfl (Val_loadD1 rfl (hR4 _ (by repeat (first | exact Wk.appR X8 _ | apply Wk.svD | apply Wk.drop | apply Wk.appD)))) ?_) | (refine Zew rfl (Val_loadD1 rfl (hR5 _ (by repeat (first | exact Wk.appR X8 _ | apply Wk.svD | apply Wk.drop | apply Wk.appD)))) ?_) | (refine Zew rfl Zld ?_)); refine Zew rfl Zmi ?_; refine Zew rfl Zxadd ?_; refine Zec rfl (Enters_fn rfl) (fun X => hwh _ (by repeat (first | exact Wk.appR X8 _ | apply Wk.svD | apply Wk.drop | apply Wk.appD))) ?_; refine Zew rfl Zai ?_) | (refine WP_drawn (id := 14) [0, 1, 2, 3, 4, 5, 6, 7, 8, 9, 10, 11, 12, 13, 14, 15, 16, 17, 18, 19, 20] [] (k := 0) prog_mixed (by kernel_rfl) rfl ?_; refine Zew rfl Zmb ?_; refine Zew rfl Zmb ?_)) | (refine GiE ?_; first | (refine Zati 7 ?_; (first | (refine Zew rfl Zxpt ?_) | (refine Zew rfl Zxpf ?_)); refine Zew rfl Zmb ?_; refine Zew rfl Zmb ?_) | (refine Zati 18 ?_; (first | (refine Zew rfl Zxpt ?_) | (refine Zew rfl Zxpf ?_)); refine Zew rfl Zab ?_; refine Zew rfl Zab ?_) | (refine Zati 2 ?_; first | refine Zes ?_ | (refine Zew rfl Zmv ?_)) | (refine Zati 3 ?_; first | refine Zes ?_ | (refine Zew rfl (Val_indexAddr rfl rfl rfl hkl) ?_) | (refine Zew rfl (Val_indexAddr1 rfl rfl rfl hdt) ?_) | (refine Zew rfl (Val_indexAddr1 rfl rfl rfl hMl) ?_) | (refine Zew rfl (Val_indexAddr1 rfl rfl (rfl : _ = ((0 : Nat) : Int)) hM0) ?_) | (refine Zew rfl Zia ?_)) | (refine Zati 4 ?_; first | refine Zes ?_ | (refine Zew rfl (Val_loadD1 rfl (hR1 _ (by repeat (first | exact Wk.appR X8 _ | apply Wk.svD | apply Wk.drop | apply Wk.appD)))) ?_) | (refine Zew rfl (Val_loadD1 rfl (hR2 _ (by repeat (first | exact Wk.appR X8 _ | apply Wk.svD | apply Wk.drop | apply Wk.appD)))) ?_) | (refine Zew rfl (Val_loadD1 rfl (hR3 _ (by repeat (first | exact Wk.appR X8 _ | apply Wk.svD | apply Wk.drop | apply Wk.appD)))) ?_) | (refine Zew rfl (Val_loadD1 rfl (hR4 _ (by repeat (first | exact Wk.appR X8 _ | apply Wk.svD | apply Wk.drop | apply Wk.appD)))) ?_) | (refine Zew rfl (Val_loadD1 rfl (hR5 _ (by repeat (first | exact Wk.appR X8 _ | apply Wk.svD | apply Wk.drop | apply Wk.appD)))) ?_) | (refine Zew rfl Zld ?_)) | (refine Zati 5 ?_; first | refine Zes ?_ | (refine Zew rfl Zmi ?_)) | (refine Zati 6 ?_; first | refine Zes ?_ | (refine Zew rfl (Zxgeq) ?_)) | (refine Zati 10 ?_; first | refine Zes ?_ | (refine Zew rfl Zmv ?_)) | (refine Zati 11 ?_; first | refine Zes ?_ | (refine Zew rfl Zmv ?_)) | (refine Zati 12 ?_; first | refine Zes ?_ | (refine Zew rfl Zxlen ?_)) | (refine Zati 13 ?_; first | refine Zes ?_ | (refine Zew rfl (Val_subN hM1 (by omega) rfl rfl) ?_)) | (refine Zati 14 ?_; first | refine Zes ?_ | (refine Zew rfl (Val_indexAddr rfl rfl rfl hkl) ?_) | (refine Zew rfl (Val_indexAddr1 rfl rfl rfl hdt) ?_) | (refine Zew rfl (Val_indexAddr1 rfl rfl rfl hMl) ?_) | (refine Zew rfl (Val_indexAddr1 rfl rfl (rfl : _ = ((0 : Nat) : Int)) hM0) ?_) | (refine Zew rfl Zia ?_)) | (refine Zati 15 ?_; first | refine Zes ?_ | (refine Zew rfl (Val_loadD1 rfl (hR1 _ (by repeat (first | exact Wk.appR X8 _ | apply Wk.svD | apply Wk.drop | apply Wk.appD)))) ?_) | (refine Zew rfl (Val_loadD1 rfl (hR2 _ (by repeat (first | exact Wk.appR X8 _ | apply Wk.svD | apply Wk.drop | apply Wk.appD)))) ?_) | (refine Zew rfl (Val_loadD1 rfl (hR3 _ (by repeat (first | exact Wk.appR X8 _ | apply Wk.svD | apply Wk.drop | apply Wk.appD)))) ?_) | (refine Zew rfl (Val_loadD1 rfl (hR4 _ (by repeat (first | exact Wk.appR X8 _ | apply Wk.svD | apply Wk.drop | apply Wk.appD)))) ?_) | (refine Zew rfl (Val_loadD1 rfl (hR5 _ (by repeat (first | exact Wk.appR X8 _ | apply Wk.svD | apply Wk.drop | apply Wk.appD)))) ?_) | (refine Zew rfl Zld ?_)) | (refine Zati 16 ?_; first | refine Zes ?_ | (refine Zew rfl Zmi ?_)) | (refine Zati 17 ?_; first | refine Zes ?_ | (refine Zew rfl (Zxgeq) ?_)) | (refine Zes ?_) | (refine Zesp (fun hc => ?_) (fun hc => ?_) <;> (try (exfalso; omega))) | (with_reducible apply EWalk_nil)) | (refine AnyO_done (by kernel_rfl) ?_; (try with_reducible apply noP_normal); try with_reducible exact key.out) | (refine Zhn ?_) | (with_reducible apply QBlock_normal) | (refine Zhx ?_) | (with_reducible apply QBlock_hit) | (refine Zqb ?_) | (with_reducible apply QLoop_exit) | (refine Zhr ?_) | (with_reducible apply QBlock_ret) | (with_reducible apply QLoop_ret) | (refine AWalk_0 ?_; refine ZisO ?_) | (with_reducible apply QAny_normal))
              all_goals exact QLoop_normal (k + 1, false, true) (.cons rfl (.cons rfl (.cons rfl .nil))) (by repeat (first | exact Off.frame rfl | exact Off.refl _ _ | refine Off.frameT rfl rfl ?_ | refine Off.upd rfl ?_ | refine Off.updO rfl ?_)) (by repeat (first | exact Wk.refl _ | apply Wk.keep1 | apply Wk.drop | apply Wk.sv | apply Wk.svD | apply Wk.appD)) ⟨by dsimp only; omega, ha.symm, hs.symm⟩ (by dsimp only; omega)
            | false =>
              repeat' (first | (refine GiP ?_; first | (refine Znh ?_) | (with_reducible refine Znl ?_)) | (refine GiW ?_; first | (refine Zsq fun K hK => ?_) | (refine ZrN 10 fun _ => ?_; refine Zv Zmi ?_; refine Zv Zmv ?_; refine Zv Zxlen ?_; refine Zv Zxlss ?_) | (refine ZrN 12 fun _ => ?_; refine Zv Zmv ?_; refine Zv Zmi ?_; (first | (refine Zv (Val_indexAddr rfl rfl rfl hkl) ?_) | (refine Zv (Val_indexAddr1 rfl rfl rfl hdt) ?_) | (refine Zv (Val_indexAddr1 rfl rfl rfl hMl) ?_) | (refine Zv (Val_indexAddr1 rfl rfl (rfl : _ = ((0 : Nat) : Int)) hM0) ?_) | (refine Zv Zia ?_)); refine Zv Zfa ?_; (first | (refine Zv (Val_loadD1 rfl (hR1 _ (by repeat (first | exact Wk.appR X8 _ | apply Wk.svD | apply Wk.drop | apply Wk.appD)))) ?_) | (refine Zv (Val_loadD1 rfl (hR2 _ (by repeat (first | exact Wk.appR X8 _ | apply Wk.svD | apply Wk.drop | apply Wk.appD)))) ?_) | (refine Zv (Val_loadD1 rfl (hR3 _ (by repeat (first | exact Wk.appR X8 _ | apply Wk.svD | apply Wk.drop | apply Wk.appD)))) ?_) | (refine Zv (Val_loadD1 rfl (hR4 _ (by repeat (first | exact Wk.appR X8 _ | apply Wk.svD | apply Wk.drop | apply Wk.appD)))) ?_) | (refine Zv (Val_loadD1 rfl (hR5 _ (by repeat (first | exact Wk.appR X8 _ | apply Wk.svD | apply Wk.drop | apply Wk.appD)))) ?_) | (refine Zv Zld ?_)); refine Zv Zmi ?_; (first | (refine Zv (Val_indexAddr rfl rfl rfl hkl) ?_) | (refine Zv (Val_indexAddr1 rfl rfl rfl hdt) ?_) | (refine Zv (Val_indexAddr1 rfl rfl rfl hMl) ?_) | (refine Zv (Val_indexAddr1 rfl rfl (rfl : _ = ((0 : Nat) : Int)) hM0) ?_) | (refine Zv Zia ?_)); (first | (refine Zv (Val_loadD1 rfl (hR1 _ (by repeat (first | exact Wk.appR X8 _ | apply Wk.svD | apply Wk.drop | apply Wk.appD)))) ?_) | (refine Zv (Val_loadD1 rfl (hR2 _ (by repeat (first | exact Wk.appR X8 _ | apply Wk.svD | apply Wk.drop | apply Wk.appD)))) ?_) | (refine Zv (Val_loadD1 rfl (hR3 _ (by repeat (first | exact Wk.appR X8 _ | apply Wk.svD | apply Wk.drop | apply Wk.appD)))) ?_) | (refine Zv (Val_loadD1 rfl (hR4 _ (by repeat (first | exact Wk.appR X8 _ | apply Wk.svD | apply Wk.drop | apply Wk.appD)))) ?_) | (refine Zv (Val_loadD1 rfl (hR5 _ (by repeat (first | exact Wk.appR X8 _ | apply Wk.svD | apply Wk.drop | apply Wk.appD)))) ?_) | (refine Zv Zld ?_)); refine Zv Zav ?_) | (refine ZrN 11 fun _ => ?_; refine Zv Zmi ?_; refine Zv Zxadd ?_; refine Zv Zai ?_) | (refine WP_cond_true rfl ?_) | (refine WP_cond_false rfl ?_) | (refine Zcd (fun hc => ?_) (fun hc => ?_) <;> (try (exfalso; omega))) | (with_reducible apply WP_skip) | (with_reducible apply WP_block) | (with_reducible apply WP_exit) | (with_reducible apply WP_ret) | (refine WP_drawn (id := 13) [0, 1, 2, 3, 4, 5, 6, 7, 8, 9] [] (k := 0) prog_mixed (by kernel_rfl) rfl ?_; (first | (refine Zew rfl (Val_loadD1 rfl (hR1 _ (by repeat (first | exact Wk.appR X8 _ | apply Wk.svD | apply Wk.drop | apply Wk.appD)))) ?_) | (refine Zew rfl (Val_loadD1 rfl (hR2 _ (by repeat (first | exact Wk.appR X8 _ | apply Wk.svD | apply Wk.drop | apply Wk.appD)))) ?_) | (refine Zew rfl (Val_loadD1 rfl (hR3 _ (by repeat (first | exact Wk.appR X8 _ | apply Wk.svD | apply Wk.drop | apply Wk.appD)))) ?_) | (refine Zew rfl (Val_loadD1 rfl (hR4 _ (by repeat (first | exact Wk.appR X8 _ | apply Wk.svD | apply Wk.drop | apply Wk.appD)))) ?_) | (refine Zew rfl (Val_loadD1 rfl (hR5 _ (by repeat (first | exact Wk.appR X8 _ | apply Wk.svD | apply Wk.drop | apply Wk.appD)))) ?_) | (refine Zew rfl Zla ?_)); refine Zew rfl Zmv ?_; refine Zew rfl Zmi ?_; (first | (refine Zew rfl (Val_indexAddr rfl rfl rfl hkl) ?_) | (refine Zew rfl (Val_indexAddr1 rfl rfl rfl hdt) ?_) | (refine Zew rfl (Val_indexAddr1 rfl rfl rfl hMl) ?_) | (refine Zew rfl (Val_indexAddr1 rfl rfl (rfl : _ = ((0 : Nat) : Int)) hM0) ?_) | (refine Zew rfl Zia ?_)); refine Zew rfl Zf0 ?_; (first | (refine Zew rfl (Val_loadD1 rfl (hR1 _ (by repeat (first | exact Wk.appR X8 _ | apply Wk.svD | apply Wk.drop | apply Wk.appD)))) ?_) | (refine Zew rfl (Val_loadD1 rfl (hR2 _ (by repeat (first | exact Wk.appR X8 _ | apply Wk.svD | apply Wk.drop | apply Wk.appD)))) ?_) | (refine Zew rfl (Val_loadD1 rfl (hR3 _ (by repeat (first | exact Wk.appR X8 _ | apply Wk.svD | apply Wk.drop | apply Wk.appD)))) ?_) | (refine Zew rfl (Val_loadD1 rfl (hR4 _ (by repeat (first | exact Wk.appR X8 _ | apply Wk.svD | apply Wk.drop | apply Wk.appD)))) ?_) | (refine Zew rfl (Val_loadD1 rfl (hR5 _ (by repeat (first | exact Wk.appR X8 _ | apply Wk.svD | apply Wk.drop | apply Wk.appD)))) ?_) | (refine Zew rfl Zld ?_)); refine Zew rfl Zmi ?_; refine Zew rfl Zxadd ?_; refine Zec rfl (Enters_fn rfl) (fun X => hwh _ (by repeat (first | exact Wk.appR X8 _ | apply Wk.svD | apply Wk.drop | apply Wk.appD))) ?_; refine Zew rfl Zai ?_) | (refine WP_drawn (id := 14) [0, 1, 2, 3, 4, 5, 6, 7, 8, 9, 10, 11, 12, 13, 14, 15, 16, 17, 18, 19, 20] [] (k := 0) prog_mixed (by kernel_rfl) rfl ?_; refine Zew rfl Zmb ?_; refine Zew rfl Zmb ?_)) | (refine GiE ?_; first | (refine Zati 7 ?_; (first | (refine Zew rfl Zxpt ?_) | (refine Zew rfl Zxpf ?_)); refine Zew rfl Zmb ?_; refine Zew rfl Zmb ?_) | (refine Zati 18 ?_; (first | (refine Zew rfl Zxpt ?_) | (refine Zew rfl Zxpf ?_)); refine Zew rfl Zab ?_; refine Zew rfl Zab ?_) | (refine Zati 2 ?_; first | refine Zes ?_ | (refine Zew rfl Zmv ?_)) | (refine Zati 3 ?_; first | refine Zes ?_ | (refine Zew rfl (Val_indexAddr rfl rfl rfl hkl) ?_) | (refine Zew rfl (Val_indexAddr1 rfl rfl rfl hdt) ?_) | (refine Zew rfl (Val_indexAddr1 rfl rfl rfl hMl) ?_) | (refine Zew rfl (Val_indexAddr1 rfl rfl (rfl : _ = ((0 : Nat) : Int)) hM0) ?_) | (refine Zew rfl Zia ?_)) | (refine Zati 4 ?_; first | refine Zes ?_ | (refine Zew rfl (Val_loadD1 rfl (hR1 _ (by repeat (first | exact Wk.appR X8 _ | apply Wk.svD | apply Wk.drop | apply Wk.appD)))) ?_) | (refine Zew rfl (Val_loadD1 rfl (hR2 _ (by repeat (first | exact Wk.appR X8 _ | apply Wk.svD | apply Wk.drop | apply Wk.appD)))) ?_) | (refine Zew rfl (Val_loadD1 rfl (hR3 _ (by repeat (first | exact Wk.appR X8 _ | apply Wk.svD | apply Wk.drop | apply Wk.appD)))) ?_) | (refine Zew rfl (Val_loadD1 rfl (hR4 _ (by repeat (first | exact Wk.appR X8 _ | apply Wk.svD | apply Wk.drop | apply Wk.appD)))) ?_) | (refine Zew rfl (Val_loadD1 rfl (hR5 _ (by repeat (first | exact Wk.appR X8 _ | apply Wk.svD | apply Wk.drop | apply Wk.appD)))) ?_) | (refine Zew rfl Zld ?_)) | (refine Zati 5 ?_; first | refine Zes ?_ | (refine Zew rfl Zmi ?_)) | (refine Zati 6 ?_; first | refine Zes ?_ | (refine Zew rfl (Zxgeq) ?_)) | (refine Zati 10 ?_; first | refine Zes ?_ | (refine Zew rfl Zmv ?_)) | (refine Zati 11 ?_; first | refine Zes ?_ | (refine Zew rfl Zmv ?_)) | (refine Zati 12 ?_; first | refine Zes ?_ | (refine Zew rfl Zxlen ?_)) | (refine Zati 13 ?_; first | refine Zes ?_ | (refine Zew rfl (Val_subN hM1 (by omega) rfl rfl) ?_)) | (refine Zati 14 ?_; first | refine Zes ?_ | (refine Zew rfl (Val_indexAddr rfl rfl rfl hkl) ?_) | (refine Zew rfl (Val_indexAddr1 rfl rfl rfl hdt) ?_) | (refine Zew rfl (Val_indexAddr1 rfl rfl rfl hMl) ?_) | (refine Zew rfl (Val_indexAddr1 rfl rfl (rfl : _ = ((0 : Nat) : Int)) hM0) ?_) | (refine Zew rfl Zia ?_)) | (refine Zati 15 ?_; first | refine Zes ?_ | (refine Zew rfl (Val_loadD1 rfl (hR1 _ (by repeat (first | exact Wk.appR X8 _ | apply Wk.svD | apply Wk.drop | apply Wk.appD)))) ?_) | (refine Zew rfl (Val_loadD1 rfl (hR2 _ (by repeat (first | exact Wk.appR X8 _ | apply Wk.svD | apply Wk.drop | apply Wk.appD)))) ?_) | (refine Zew rfl (Val_loadD1 rfl (hR3 _ (by repeat (first | exact Wk.appR X8 _ | apply Wk.svD | apply Wk.drop | apply Wk.appD)))) ?_) | (refine Zew rfl (Val_loadD1 rfl (hR4 _ (by repeat (first | exact Wk.appR X8 _ | apply Wk.svD | apply Wk.drop | apply Wk.appD)))) ?_) | (refine Zew rfl (Val_loadD1 rfl (hR5 _ (by repeat (first | exact Wk.appR X8 _ | apply Wk.svD | apply Wk.drop | apply Wk.appD)))) ?_) | (refine Zew rfl Zld ?_)) | (refine Zati 16 ?_; first | refine Zes ?_ | (refine Zew rfl Zmi ?_)) | (refine Zati 17 ?_; first | refine Zes ?_ | (refine Zew rfl (Zxgeq) ?_)) | (refine Zes ?_) | (refine Zesp (fun hc => ?_) (fun hc => ?_) <;> (try (exfalso; omega))) | (with_reducible apply EWalk_nil)) | (refine AnyO_done (by kernel_rfl) ?_; (try with_reducible apply noP_normal); try with_reducible exact key.out) | (refine Zhn ?_) | (with_reducible apply QBlock_normal) | (refine Zhx ?_) | (with_reducible apply QBlock_hit) | (refine Zqb ?_) | (with_reducible apply QLoop_exit) | (refine Zhr ?_) | (with_reducible apply QBlock_ret) | (with_reducible apply QLoop_ret) | (refine AWalk_0 ?_; refine ZisO ?_) | (with_reducible apply QAny_normal))
              all_goals exact QLoop_normal (k + 1, false, decide (T ≤ b)) (.cons rfl (.cons rfl (.cons rfl .nil))) (by repeat (first | exact Off.frame rfl | exact Off.refl _ _ | refine Off.frameT rfl rfl ?_ | refine Off.upd rfl ?_ | refine Off.updO rfl ?_)) (by repeat (first | exact Wk.refl _ | apply Wk.keep1 | apply Wk.drop | apply Wk.sv | apply Wk.svD | apply Wk.appD)) ⟨by dsimp only; omega, ha.symm, hs.symm⟩ (by dsimp only; omega)
      · have hke : k = WW.length := by omega
        rw [hke, List.take_length] at hal hso
        rw [← w1] at hal
        rw [← w2] at hso
        rw [← hal] at n1
        rw [← hso] at n2
        cases al <;> cases so
        all_goals simp only [if_true, if_false, Nat.add_zero, Bool.false_eq_true] at n1 n2
        all_goals repeat' (first | (refine GiP ?_; first | (refine Znh ?_) | (with_reducible refine Znl ?_)) | (refine GiW ?_; first | (refine Zsq fun K hK => ?_) | (refine ZrN 10 fun _ => ?_; refine Zv Zmi ?_; refine Zv Zmv ?_; refine Zv Zxlen ?_; refine Zv Zylss ?_) | (refine ZrN 15 fun _ => ?_; refine Zv Zmb ?_) | (refine ZrN 16 fun _ => ?_; refine Zv Zmi ?_; refine Zv Zmi ?_; refine Zcl (Enters_fn rfl) (hpw _) ?_; refine Zv Zxadd ?_; refine Zv Zai ?_) | (refine ZrN 17 fun _ => ?_; refine Zv Zmb ?_) | (refine ZrN 18 fun _ => ?_; refine Zv Zmi ?_; refine Zv Zmi ?_; refine Zcl (Enters_fn rfl) (hpw _) ?_; refine Zv Zxadd ?_; refine Zv Zai ?_) | (refine ZrN 7 fun _ => ?_; refine Zv Zmi ?_; refine Zv Zxadd ?_; refine Zv Zai ?_) | (refine WP_cond_true rfl ?_) | (refine WP_cond_false rfl ?_) | (refine Zcd (fun hc => ?_) (fun hc => ?_) <;> (try (exfalso; omega))) | (with_reducible apply WP_skip) | (with_reducible apply WP_block) | (with_reducible apply WP_exit) | (with_reducible apply WP_ret)) | (refine Zhn ?_) | (with_reducible apply QBlock_normal) | (refine Zhx ?_) | (with_reducible apply QBlock_hit) | (refine Zqb ?_) | (with_reducible apply QLoop_exit) | (refine Zhr ?_) | (with_reducible apply QBlock_ret) | (with_reducible apply QLoop_ret))
        all_goals exact QLoop_normal (p + 1) (.cons (by rw [n1]; rfl) (.cons (by rw [n2]; rfl) (.cons rfl .nil))) (by repeat (first | exact Off.frame rfl | exact Off.refl _ _ | refine Off.frameT rfl rfl ?_ | refine Off.upd rfl ?_ | refine Off.updO rfl ?_)) (by repeat (first | exact Wk.refl _ | apply Wk.keep1 | apply Wk.drop | apply Wk.sv | apply Wk.svD | apply Wk.appD)) (by omega) (by omega)
    · have hpe : p = g.s.spits.length := by omega
      subst hpe
      repeat' (first | (refine GiP ?_; first | (refine Znh ?_) | (with_reducible refine Znl ?_)) | (refine GiW ?_; first | (refine Zsq fun K hK => ?_) | (refine ZrN 6 fun _ => ?_; refine Zv Zmi ?_; refine Zv Zf0 ?_; refine Zv Zld ?_; refine Zv Zxlen ?_; refine Zv Zylss ?_) | (refine ZrN 19 fun _ => ?_; refine Zv Zmi ?_; refine Zv Zmi ?_; refine Zv Zai ?_; refine Zv Zai ?_; refine Zv Zai ?_) | (refine WP_cond_true rfl ?_) | (refine WP_cond_false rfl ?_) | (refine Zcd (fun hc => ?_) (fun hc => ?_) <;> (try (exfalso; omega))) | (with_reducible apply WP_skip) | (with_reducible apply WP_block) | (with_reducible apply WP_exit) | (with_reducible apply WP_ret)) | (refine Zhn ?_) | (with_reducible apply QBlock_normal) | (refine Zhx ?_) | (with_reducible apply QBlock_hit) | (refine Zqb ?_) | (with_reducible apply QLoop_exit) | (refine Zhr ?_) | (with_reducible apply QBlock_ret) | (with_reducible apply QLoop_ret))
      exact QBody_res rfl (.tmp (rfl : _ = Value.int _ _) (.tmp (rfl : _ = Value.int _ _) (.tmp (rfl : _ = Value.int _ _) .nil))) rfl ⟨rfl, (by repeat (first | exact Wk.refl _ | apply Wk.keep1 | apply Wk.drop | apply Wk.sv | apply Wk.svD | apply Wk.appD))⟩
  · have hz1 : SureV g.s day = 0 := by unfold SureV; rw [if_neg h0]
    have hz2 : CanV g.s day = 0 := by unfold CanV; rw [if_neg h0]
    rw [hz1, hz2]
    obtain ⟨e, he⟩ : ∃ e, errE g.s (DayOk g.s day) = e := ⟨_, rfl⟩
    rw [he] at htl h0 ⊢
    obtain ⟨dk, hdk⟩ : ∃ dk, DayOk g.s day = dk := ⟨_, rfl⟩
    rw [hdk] at hday htl
    refine Ret.fgt ?_
    refine tri_of_WP Try.func23 rfl (n := 89) rfl (by simp) ?_
    unfold sodV sdL at hday htl ⊢
    repeat' (first | (refine GiP ?_; first | (refine Znh ?_) | (with_reducible refine Znl ?_) | (refine Zatd 22 ?_; refine OPS_retKS (Enters_fn rfl) (htl _) rfl rfl rfl (fun v9 L9 h9 => ?_); obtain ⟨A8, n8, c8, X8, rfl, hr8, rfl⟩ := h9) | (refine Zatd 17 ?_; refine Zv Zmv ?_) | (refine Zatd 23 ?_; refine Zv Zxex ?_) | (refine Zatd 24 ?_; refine Zv Zxex ?_) | (refine Zatd 7 ?_; refine Zv Zav ?_) | (refine Zatd 8 ?_; refine Zv Zai ?_)) | (refine GiW ?_; first | (refine Zsq fun K hK => ?_) | (refine ZrN 0 fun _ => ?_; refine Zal 2 fun b2 => ?_; refine Zv Zai ?_; refine Zv Zai ?_; refine Zv Zai ?_) | (refine ZrN 2 fun _ => ?_; refine Zv Zmi ?_; refine Zv Zyneq ?_) | (refine ZrN 3 fun _ => ?_; refine Zv Zmi ?_; refine Zv Zai ?_; refine Zv Zai ?_; refine Zv Zai ?_) | (refine WP_cond_true rfl ?_) | (refine WP_cond_false rfl ?_) | (refine Zcd (fun hc => ?_) (fun hc => ?_) <;> (try (exfalso; omega))) | (with_reducible apply WP_skip) | (with_reducible apply WP_block) | (with_reducible apply WP_exit) | (with_reducible apply WP_ret) | (refine WP_drawnS (id := 1) [] [0, 1, 2, 3] [] [] (k := 0) (k2 := 6) (by repeat (first | apply Sub.sv | apply Sub.keep | apply Sub.appK | exact Sub.refl _)) (by kernel_rfl) prog_mixed (by kernel_rfl) (by kernel_rfl) rfl ?_; refine Zew rfl Zla ?_; refine Zew rfl Zla ?_; refine Zew rfl Zmi ?_; refine Zec rfl (Enters_fn rfl) (fun X => hday _) ?_)) | (with_reducible apply EWalk_nil) | (refine ZgC [0, 1, 2, 3] ?_; refine ZCl _ ?_) | (refine GiO ?_; first | (refine ZgO [0, 1, 2, 3] ?_; refine ZO1 _ 4 [0, 1, 2, 3, 4] ?_) | (refine ZgO [0, 1, 2, 3, 4] ?_; refine ZO1 _ 5 [0, 1, 2, 3, 4, 5] ?_) | (refine ZgO [0, 1, 2, 3, 4, 5] ?_; refine ZO2 _ 6 [0, 1, 2, 3, 4, 5, 6] 7 [0, 1, 2, 3, 4, 5, 7] ?_ ?_) | (refine ZgO [0, 1, 2, 3, 4, 5, 6] ?_; refine ZO2 _ 7 [0, 1, 2, 3, 4, 5, 6, 7] 8 [0, 1, 2, 3, 4, 5, 6, 8] ?_ ?_) | (refine ZgO [0, 1, 2, 3, 4, 5, 6, 7] ?_; refine ZO1 _ 8 [0, 1, 2, 3, 4, 5, 6, 7, 8] ?_) | (refine ZgO [0, 1, 2, 3, 4, 5, 6, 7, 8] ?_; refine ZO1 _ 9 [0, 1, 2, 3, 4, 5, 6, 7, 8, 9] ?_) | (refine ZgO [0, 1, 2, 3, 4, 5, 6, 7, 8, 9] ?_; refine ZOd _ ?_; (try with_reducible apply noP_normal); (try with_reducible exact key.out)) | (refine ZgO [0, 1, 2, 3, 4, 5, 6, 8] ?_; refine ZO1 _ 7 [0, 1, 2, 3, 4, 5, 6, 7, 8] ?_) | (refine ZgO [0, 1, 2, 3, 4, 5, 7] ?_; refine ZO1 _ 6 [0, 1, 2, 3, 4, 5, 6, 7] ?_)) | (refine Zhn ?_) | (with_reducible apply QBlock_normal) | (refine Zhx ?_) | (with_reducible apply QBlock_hit) | (refine Zqb ?_) | (with_reducible apply QLoop_exit) | (refine Zhr ?_) | (with_reducible apply QBlock_ret) | (with_reducible apply QLoop_ret) | (refine AWalk_0 ?_) | (with_reducible apply QAny_normal) | (with_reducible apply QC_normal))
    all_goals exact QBody_res rfl (.tmp (rfl : _ = Value.int _ _) (.tmp (rfl : _ = Value.int _ _) (.tmp (rfl : _ = Value.int _ _) .nil))) rfl ⟨rfl, (by repeat (first | exact Wk.refl _ | apply Wk.keep1 | apply Wk.drop | apply Wk.sv | apply Wk.svD | apply Wk.appD))⟩
end
end Go.Proofs.Ytkaadefndcbdnaa
end

section
namespace Go.Proofs.Ytkaadefndcbdnaa
open Go.RowKit
theorem done_small (s : Sd) : -1000 ≤ (DoneV s).1 ∧ (DoneV s).1 ≤ 1000 ∧ -1000 ≤ (DoneV s).2 ∧ (DoneV s).2 ≤ 1000 := by
  by_cases h : errE s true = 0
  · obtain ⟨h1, _, _⟩ := errE_ok h
    have v := VS_of h1
    exact (vals_bd v (show 0 < s.days.length from v.nd.1) (show 0 < s.spits.length from v.np.1)).2.2.2.1
  · unfold DoneV; rw [if_neg h]; dsimp only; omega
attribute [local irreducible] AnyO AnyB QAny QB EWalk AWalk Ev WP OPS QThen QBlock QScope QLoop QBody Val New Turn Tri Enters PostA Blk Ro
attribute [local irreducible] AnyC QC
section
variable (N : Nat) (w0 : World)
set_option maxRecDepth 100000 in
set_option maxHeartbeats 4000000 in
theorem slooks_all (L : Hp) (g : Fg) (hA : SodAt N w0 g) (day : Int) (_ : (Lit.int .i64 day).wf = true) : Ret Try.prog N w0 L 4 [sodV g, .int .i64 day].toArray (.bool true) := by
  have h13 := fun L => awake_ret N w0 L
  obtain ⟨b, hb, hl⟩ := heavy_ex N w0 g hA
  cases b with
  | true =>
    refine Ret.fgt ?_
    refine tri_of_WP Try.func4 rfl (n := 92) rfl (by simp) ?_
    unfold sodV sdL at hb ⊢
    repeat' (first | (refine GiP ?_; first | (refine Znh ?_) | (with_reducible refine Znl ?_)) | (refine GiW ?_; first | (refine Zsq fun K hK => ?_) | (refine ZrN 0 fun _ => ?_; refine Zal 2 fun b2 => ?_; refine Zv Zab ?_) | (refine ZrN 1 fun _ => ?_; refine Zv Zla ?_; refine Zcl (Enters_fn rfl) (hb _) ?_) | (refine ZrN 2 fun _ => ?_; refine Zcl (Enters_fn rfl) (h13 _) ?_; refine Zv Zab ?_) | (refine WP_cond_true rfl ?_) | (refine WP_cond_false rfl ?_) | (refine Zcd (fun hc => ?_) (fun hc => ?_) <;> (try (exfalso; omega))) | (with_reducible apply WP_skip) | (with_reducible apply WP_ret)) | (refine Zhn ?_) | (refine Zhr ?_))
    exact QBody_ret1 rfl (rfl : _ = Value.bool _) ⟨rfl, (by repeat (first | exact Wk.refl _ | apply Wk.keep1 | apply Wk.drop | apply Wk.sv | apply Wk.svD | apply Wk.appD))⟩
  | false =>
    obtain ⟨l1, l2, l3⟩ := hl rfl
    have p1 := fun L => Finished_ret N w0 L g hA (by omega) day
    have q1 := fun L => RFinished_ret N w0 L g hA (by omega) (by omega) (by omega) day
    have p2 := fun L => Done_ret N w0 L g hA (by omega)
    have q2 := fun L => RDone_ret N w0 L g hA (by omega) (by omega) (by omega)
    have p3 := fun L => Clash_ret N w0 L g hA (by omega)
    have q3 := fun L => RClash_ret N w0 L g hA (by omega) (by omega) (by omega)
    have s2 := done_small g.s
    obtain ⟨V1, hV1⟩ : ∃ V, SureV g.s day = V := ⟨_, rfl⟩
    obtain ⟨W1, hW1⟩ : ∃ V, CanV g.s day = V := ⟨_, rfl⟩
    obtain ⟨V2, hV2⟩ : ∃ V, DoneV g.s = V := ⟨_, rfl⟩
    obtain ⟨V3, hV3⟩ : ∃ V, ClashV g.s = V := ⟨_, rfl⟩
    obtain ⟨E1, hE1⟩ : ∃ V, errE g.s (DayOk g.s day) = V := ⟨_, rfl⟩
    obtain ⟨E2, hE2⟩ : ∃ V, errE g.s true = V := ⟨_, rfl⟩
    obtain ⟨E3, hE3⟩ : ∃ V, ClashE g.s = V := ⟨_, rfl⟩
    rw [hV1, hW1, hE1] at p1 q1
    rw [hV2, hE2] at p2 q2
    rw [hV3, hE3] at p3 q3
    rw [hV2] at s2
    refine Ret.fgt ?_
    refine tri_of_WP Try.func4 rfl (n := 92) rfl (by simp) ?_
    unfold sodV sdL at hb p1 q1 p2 q2 p3 q3 ⊢
    repeat' (first | (refine GiP ?_; first | (refine Znh ?_) | (with_reducible refine Znl ?_)) | (refine GiW ?_; first | (refine Zsq fun K hK => ?_) | (refine ZrN 0 fun _ => ?_; refine Zal 2 fun b2 => ?_; refine Zv Zab ?_) | (refine ZrN 1 fun _ => ?_; refine Zv Zla ?_; refine Zcl (Enters_fn rfl) (hb _) ?_) | (refine ZrN 3 fun _ => ?_; refine Zv Zla ?_; refine Zv Zmi ?_; refine Zcl (Enters_fn rfl) (p1 _) ?_; refine Zv Zmv ?_; refine Zv Zxex ?_; refine Zv Zxex ?_; refine Zv Zxex ?_; refine Zv Zai ?_; refine Zv Zai ?_; refine Zv Zai ?_) | (refine ZrN 4 fun _ => ?_; refine Zv Zla ?_; refine Zv Zmi ?_; refine Zcl (Enters_fn rfl) (q1 _) ?_; refine Zv Zmv ?_; refine Zv Zxex ?_; refine Zv Zxex ?_; refine Zv Zxex ?_; refine Zv Zai ?_; refine Zv Zai ?_; refine Zv Zai ?_) | (refine ZrN 5 fun _ => ?_; refine Zv Zla ?_; refine Zcl (Enters_fn rfl) (p2 _) ?_; refine Zv Zmv ?_; refine Zv Zxex ?_; refine Zv Zxex ?_; refine Zal 11 fun b11 => ?_; refine Zst ?_; refine Zv Zai ?_) | (refine ZrN 6 fun _ => ?_; refine Zv Zla ?_; refine Zcl (Enters_fn rfl) (q2 _) ?_; refine Zv Zmv ?_; refine Zv Zxex ?_; refine Zv Zxex ?_; refine Zal 13 fun b13 => ?_; refine Zst ?_; refine Zv Zai ?_) | (refine ZrN 7 fun _ => ?_; refine Zv Zla ?_; refine Zcl (Enters_fn rfl) (p3 _) ?_; refine Zv Zmv ?_; refine Zv Zxex ?_; refine Zv Zxex ?_; refine Zv Zai ?_; refine Zv Zai ?_) | (refine ZrN 8 fun _ => ?_; refine Zv Zla ?_; refine Zcl (Enters_fn rfl) (q3 _) ?_; refine Zv Zmv ?_; refine Zv Zxex ?_; refine Zv Zxex ?_; refine Zv Zai ?_; refine Zv Zai ?_) | (refine WP_cond_true rfl ?_) | (refine WP_cond_false rfl ?_) | (refine Zcd (fun hc => ?_) (fun hc => ?_) <;> (try (exfalso; omega))) | (with_reducible apply WP_skip) | (with_reducible apply WP_ret)) | (refine Zhn ?_) | (refine Zhr ?_))
    repeat' (first | (refine GiP ?_; first | (refine Znh ?_) | (with_reducible refine Znl ?_) | (refine Zatd 63 ?_; (first | (refine Zv Zxpt ?_) | (refine Zv Zxpf ?_)); refine Zv Zmb ?_) | (refine Zatd 68 ?_; (first | (refine Zv Zxpt ?_) | (refine Zv Zxpf ?_)); refine Zv Zmb ?_) | (refine Zatd 73 ?_; (first | (refine Zv Zxpt ?_) | (refine Zv Zxpf ?_)); refine Zv Zmb ?_) | (refine Zatd 78 ?_; (first | (refine Zv Zxpt ?_) | (refine Zv Zxpf ?_)); refine Zv Zmb ?_) | (refine Zatd 83 ?_; (first | (refine Zv Zxpt ?_) | (refine Zv Zxpf ?_)); refine Zv Zmb ?_) | (refine Zatd 88 ?_; (first | (refine Zv Zxpt ?_) | (refine Zv Zxpf ?_)); refine Zv Zmb ?_) | (refine Zatd 91 ?_; (first | (refine Zv Zxpt ?_) | (refine Zv Zxpf ?_)); refine Zv Zab ?_) | (refine Zatd 60 ?_; first | refine Zsk ?_ | (refine Zv Zmi ?_)) | (refine Zatd 61 ?_; first | refine Zsk ?_ | (refine Zv Zmi ?_)) | (refine Zatd 62 ?_; first | refine Zsk ?_ | (refine Zv (Val_eqlS rfl rfl rfl rfl (by omega) (by omega)) ?_) | (refine OPS_valS Zyeql rfl rfl rfl ?_)) | (refine Zatd 65 ?_; first | refine Zsk ?_ | (refine Zv Zmi ?_)) | (refine Zatd 66 ?_; first | refine Zsk ?_ | (refine Zv Zmi ?_)) | (refine Zatd 67 ?_; first | refine Zsk ?_ | (refine Zv (Val_eqlS rfl rfl rfl rfl (by omega) (by omega)) ?_) | (refine OPS_valS Zyeql rfl rfl rfl ?_)) | (refine Zatd 70 ?_; first | refine Zsk ?_ | (refine Zv Zla ?_)) | (refine Zatd 71 ?_; first | refine Zsk ?_ | (refine Zv Zla ?_)) | (refine Zatd 72 ?_; first | refine Zsk ?_ | (refine Zv (Val_eqlS rfl rfl rfl rfl (by omega) (by omega)) ?_) | (refine OPS_valS Zyeql rfl rfl rfl ?_)) | (refine Zatd 75 ?_; first | refine Zsk ?_ | (refine Zv Zmi ?_)) | (refine Zatd 76 ?_; first | refine Zsk ?_ | (refine Zv Zmi ?_)) | (refine Zatd 77 ?_; first | refine Zsk ?_ | (refine Zv (Val_eqlS rfl rfl rfl rfl (by omega) (by omega)) ?_) | (refine OPS_valS Zyeql rfl rfl rfl ?_)) | (refine Zatd 80 ?_; first | refine Zsk ?_ | (refine Zv Zmi ?_)) | (refine Zatd 81 ?_; first | refine Zsk ?_ | (refine Zv Zmi ?_)) | (refine Zatd 82 ?_; first | refine Zsk ?_ | (refine Zv (Val_eqlS rfl rfl rfl rfl (by omega) (by omega)) ?_) | (refine OPS_valS Zyeql rfl rfl rfl ?_)) | (refine Zatd 85 ?_; first | refine Zsk ?_ | (refine Zv Zmi ?_)) | (refine Zatd 86 ?_; first | refine Zsk ?_ | (refine Zv Zmi ?_)) | (refine Zatd 87 ?_; first | refine Zsk ?_ | (refine Zv (Val_eqlS rfl rfl rfl rfl (by omega) (by omega)) ?_) | (refine OPS_valS Zyeql rfl rfl rfl ?_)) | (refine Zatd 90 ?_; first | refine Zsk ?_ | (refine Zcl (Enters_fn rfl) (h13 _) ?_)) | (refine Zsk ?_) | (refine Zsp (fun hc => ?_) (fun hc => ?_) <;> (try (exfalso; omega)))) | (refine GiW ?_; first | (refine Zsq fun K hK => ?_) | (refine ZrG 9 ?_; refine Zv Zmi ?_; refine Zv Zmi ?_; (first | (refine Zv (Val_eqlS rfl rfl rfl rfl (by omega) (by omega)) ?_) | (refine OPS_valS Zyeql rfl rfl rfl ?_)); refine Zv Zmb ?_) | (refine WP_cond_true rfl ?_) | (refine WP_cond_false rfl ?_) | (refine Zcd (fun hc => ?_) (fun hc => ?_) <;> (try (exfalso; omega))) | (with_reducible apply WP_skip) | (with_reducible apply WP_ret)) | (refine Zhn ?_) | (refine Zhr ?_))
    exact QBody_ret1 rfl (rfl : _ = Value.bool _) ⟨rfl, (by repeat (first | exact Wk.refl _ | apply Wk.keep1 | apply Wk.drop | apply Wk.sv | apply Wk.svD | apply Wk.appD))⟩
end
end Go.Proofs.Ytkaadefndcbdnaa
end
