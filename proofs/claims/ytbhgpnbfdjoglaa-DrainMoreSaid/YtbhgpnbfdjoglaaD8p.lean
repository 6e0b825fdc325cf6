/- The law DrainMore: its walk, part 2. -/
import Derived.Test.YtbhgpnbfdjoglaaD8
section
namespace Go.Proofs.Ytbhgpnbfdjoglaa
open Go.RowKit
attribute [local irreducible] AnyO AnyB QAny QB EWalk AWalk Ev WP OPS QThen QBlock QScope QLoop QBody Val New Turn Tri Enters PostA Blk Ro
attribute [local irreducible] AnyC QC
section
set_option maxRecDepth 100000 in
set_option maxHeartbeats 8000000 in
def cut2 (N : Nat) (w0 : World) (L : Hp) (g : Fg) (hA : DrAt N w0 g) (w1 w2 r1 r2 r3 : Int) (a8 : Nat) (ha8 : a8 ≤ 255) (b8 : Nat) (hb8 : b8 ≤ 255) (hvb : vB g.d = true) : {P : Prop // P → (cut1 N w0 L g hA w1 w2 r1 r2 r3 a8 ha8 b8 hb8 hvb).1} := by
  apply cutMk
  intro hcut
  intro hv hf hin h13 n hnb hn m hnw hm p hnr hp q hns h29 h28 hq a ha9 b hb9 ha hb _ _ _ b5 b6 b7 _ _ _ _ _ _ _ _ _ _ _ b14 b15 b16 b17 b18 _ _ xl hxl hsrcS hl4 ho4 hA4n sx j1 hsx e1 xb hxb hsrcB hlb hob hA1n _ _ _ b106 _ _ bB capB hs109 hbk4 han _ _ _ K hK wq hwq tb j2 _ dq j3 hyn hyv e2
  repeat' (first | (refine GiP ?_; first | (refine Znh ?_) | (with_reducible refine Znl ?_)) | (refine GiW ?_; first | (refine Zsq fun K hK => ?_) | (refine ZrN 12 fun _ => ?_; refine Zv Zfa ?_; refine Zst ?_) | (refine ZrN 13 fun _ => ?_; refine Zv Zfa ?_; refine Zv Zld ?_; refine Zv Zxlen ?_; refine Zv Zmi ?_) | (refine WP_cond_true rfl ?_) | (refine WP_cond_false rfl ?_) | (refine Zcd (fun hc => ?_) (fun hc => ?_) <;> (try (exfalso; omega))) | (with_reducible apply WP_skip) | (with_reducible apply WP_block) | (with_reducible apply WP_exit) | (with_reducible apply WP_ret)) | (refine Zhn ?_) | (with_reducible apply QBlock_normal) | (refine Zhx ?_) | (with_reducible apply QBlock_hit) | (refine Zqb ?_) | (with_reducible apply QLoop_exit) | (refine Zhr ?_) | (with_reducible apply QBlock_ret) | (with_reducible apply QLoop_ret))
  obtain ⟨zl, hzl⟩ : ∃ z, (turnZ g.d).ways = z := ⟨_, rfl⟩
  have hzm : zl.length = m := by rw [← hzl, turn_len]; exact hm
  have h12 := fun L x y => way_ret N w0 L x y
  have h21 := fun L x y => span_ret N w0 L x y
  obtain ⟨yb, hyb⟩ : ∃ y, ((bankY g.d a dq).banks.map bkL).flatten = y := ⟨_, rfl⟩
  rw [hyb]
  refine WP_loop [20, 21, 150, 151, 152, 153, 154, 155, 156, 157, 158, 159, 160, 161, 162, 163, 164, 165, 166, 167, 168, 169, 170, 171, 172, 173] (fun st : Nat × Option (Nat × Nat) => [(150, .int .i64 st.1)]) (fun st => svH 32 2 st.1 (((zl.take st.1).map spL).flatten) st.2 ((bB, Row 60 4 n capB yb) :: svH 32 2 (q + 1) (xl ++ [.int .i64 w1, .int .i64 w2]) sx ((b14, Blk 29 [.slice g.A1 n g.c1, .slice g.A2 m g.c2, .slice g.A3 p g.c3, svV sx (q + 1)]) :: (b15, Blk 29 [.slice (some ⟨bB, 0, none⟩) n capB, .slice g.A2 m g.c2, .slice g.A3 p g.c3, .slice g.A4 q g.c4]) :: (b16, Blk 29 [.slice g.A1 n g.c1, svV st.2 st.1, .slice g.A3 p g.c3, .slice g.A4 q g.c4]) :: (b17, Blk 29 [.slice g.A1 n g.c1, .slice g.A2 m g.c2, .slice g.A3 p g.c3, .slice g.A4 q g.c4]) :: (b18, Blk 29 [.slice none 0 0, .slice g.A2 m g.c2, .slice g.A3 p g.c3, .slice g.A4 q g.c4]) :: (b7, Blk 57 [.int .i64 r1, .int .i64 r2, .int .i64 r3]) :: (b6, Blk 32 [.int .i64 w1, .int .i64 w2]) :: (b5, Blk 29 [.slice g.A1 n g.c1, .slice g.A2 m g.c2, .slice g.A3 p g.c3, .slice g.A4 q g.c4]) :: L))) (fun st => st.1 ≤ m ∧ svOk st.2 2 st.1 (((zl.take st.1).map spL).flatten)) (fun st => m - st.1) (0, none) (.cons rfl .nil) (Wk.refl _) ⟨Nat.zero_le _, svOk_nil _⟩ ?_
  rintro ⟨k, sz⟩ j6 ⟨hk, hsz⟩
  dsimp only at hk hsz ⊢
  by_cases hkm : k < m
  · obtain ⟨bA, oA, hA2, hbA, hcA⟩ := hA.ways.row (m - 1 - k) (by omega)
    obtain ⟨⟨t1, t2⟩, ht⟩ : ∃ q, g.d.ways[m - 1 - k]'(by omega) = q := ⟨_, rfl⟩
    rw [ht] at hcA
    have hrk : zl[k]'(by omega) = (t2, t1) := by
      have := turn_get g.d (j := k) (by omega)
      rw [hzl, List.getElem?_eq_getElem (by omega)] at this
      simp only [hm, ht, Option.some.injEq] at this
      exact this
    unfold spL at hcA
    dsimp only at hcA
    have hnext : ((zl.take (k + 1)).map spL).flatten = ((zl.take k).map spL).flatten ++ [.int .i64 t2, .int .i64 t1] := by
      rw [List.take_succ_eq_append_getElem (by omega), hrk]; simp [spL]
    have hs1 : (m : Int) - 1 = ((m - 1 : Nat) : Int) := by omega
    have hs2 : ((m - 1 : Nat) : Int) - (k : Int) = ((m - 1 - k : Nat) : Int) := by omega
    repeat' (first | (refine GiP ?_; first | (refine Znh ?_) | (with_reducible refine Znl ?_)) | (refine GiW ?_; first | (refine Zsq fun K hK => ?_) | (refine ZrN 14 fun _ => ?_; refine Zv Zylss ?_) | (refine ZrN 15 fun _ => ?_; refine Zv Zmi ?_; refine Zv Zai ?_) | (refine ZrN 16 fun _ => ?_; refine Zv Zfa ?_; refine Zv Zld ?_; refine Zv Zfa ?_; refine Zv Zld ?_; refine Zv Zxlen ?_; (first | (refine Zv (Val_subN hs1 (by omega) rfl rfl) ?_) | (refine Zv (Val_subN hs2 (by omega) rfl rfl) ?_)); refine Zv Zmi ?_; (first | (refine Zv (Val_subN hs1 (by omega) rfl rfl) ?_) | (refine Zv (Val_subN hs2 (by omega) rfl rfl) ?_)); refine Zv Zia ?_; refine Zv Zla ?_; refine Zal 21 fun b21 => ?_; refine Zst ?_) | (refine WP_cond_true rfl ?_) | (refine WP_cond_false rfl ?_) | (refine Zcd (fun hc => ?_) (fun hc => ?_) <;> (try (exfalso; omega))) | (with_reducible apply WP_skip) | (with_reducible apply WP_block) | (with_reducible apply WP_exit) | (with_reducible apply WP_ret)) | (refine Zhn ?_) | (with_reducible apply QBlock_normal) | (refine Zhx ?_) | (with_reducible apply QBlock_hit) | (refine Zqb ?_) | (with_reducible apply QLoop_exit) | (refine Zhr ?_) | (with_reducible apply QBlock_ret) | (with_reducible apply QLoop_ret))
    repeat' (first | (refine GiP ?_; first | (refine Znh ?_) | (with_reducible refine Znl ?_) | (refine Zatd 171 ?_; refine Zag (fun s171 hs171 => ?_)) | (refine Zatd 172 ?_; refine Zv Zfa ?_) | (refine Zatn ?_; refine Zst ?_)) | (refine GiW ?_; first | (refine Zsq fun K hK => ?_) | (refine WP_cond_true rfl ?_) | (refine WP_cond_false rfl ?_) | (refine Zcd (fun hc => ?_) (fun hc => ?_) <;> (try (exfalso; omega))) | (with_reducible apply WP_skip) | (with_reducible apply WP_block) | (with_reducible apply WP_exit) | (with_reducible apply WP_ret) | (refine WP_drawnS (id := 17) [] [0, 1, 2, 3, 4, 5, 6] [7] [] (k := 0) (k2 := 3) (by repeat (first | apply Sub.sv | apply Sub.keep | apply Sub.appK | exact Sub.refl _)) (by kernel_rfl) prog_mixed (by kernel_rfl) (by kernel_rfl) rfl ?_; refine Zew rfl Zfa ?_; refine Zew rfl Zld ?_; refine Zew rfl Zfa ?_; refine Zew rfl Zld ?_; refine Zew rfl Zf0 ?_; refine Zew rfl Zld ?_; refine Zec rfl (Enters_fn rfl) (fun X => h12 _ _ _) ?_)) | (with_reducible apply EWalk_nil) | (refine ZgC [0, 1, 2, 3, 4, 5, 6, 7] ?_; refine ZCl _ ?_) | (refine GiO ?_; first | (refine ZgO [0, 1, 2, 3, 4, 5, 6, 7] ?_; refine ZO1 _ 8 [0, 1, 2, 3, 4, 5, 6, 7, 8] ?_) | (refine ZgO [0, 1, 2, 3, 4, 5, 6, 7, 8] ?_; refine ZO1 _ 9 [0, 1, 2, 3, 4, 5, 6, 7, 8, 9] ?_) | (refine ZgO [0, 1, 2, 3, 4, 5, 6, 7, 8, 9] ?_; refine ZO1 _ 10 [0, 1, 2, 3, 4, 5, 6, 7, 8, 9, 10] ?_) | (refine ZgO [0, 1, 2, 3, 4, 5, 6, 7, 8, 9, 10] ?_; refine ZOd _ ?_; (try with_reducible apply noP_normal); (try with_reducible exact key.out))) | (refine Zhn ?_) | (with_reducible apply QBlock_normal) | (refine Zhx ?_) | (with_reducible apply QBlock_hit) | (refine Zqb ?_) | (with_reducible apply QLoop_exit) | (refine Zhr ?_) | (with_reducible apply QBlock_ret) | (with_reducible apply QLoop_ret) | (refine AWalk_1S (d := 170) rfl rfl rfl rfl blk_is (New_buildSliceR rfl rfl (by repeat (first | exact CellsR.nil | (apply CellsR.cA rfl) | (apply CellsR.c1S (by constructor) rfl))) rfl (by decide) rfl (by decide)) (fun b170 => ?_)) | (with_reducible apply QAny_normal) | (with_reducible apply QC_normal))
    all_goals
      repeat' (first | (refine GiP ?_; first | (refine Znh ?_) | (with_reducible refine Znl ?_)) | (refine GiW ?_; first | (refine Zsq fun K hK => ?_) | (refine ZrN 18 fun _ => ?_; refine Zv Zxadd ?_; refine Zv Zmi ?_) | (refine WP_cond_true rfl ?_) | (refine WP_cond_false rfl ?_) | (refine Zcd (fun hc => ?_) (fun hc => ?_) <;> (try (exfalso; omega))) | (with_reducible apply WP_skip) | (with_reducible apply WP_block) | (with_reducible apply WP_exit) | (with_reducible apply WP_ret)) | (refine Zhn ?_) | (with_reducible apply QBlock_normal) | (refine Zhx ?_) | (with_reducible apply QBlock_hit) | (refine Zqb ?_) | (with_reducible apply QLoop_exit) | (refine Zhr ?_) | (with_reducible apply QBlock_ret) | (with_reducible apply QLoop_ret))
      refine QLoop_normal (k + 1, s171) (.cons rfl .nil) (by repeat (first | exact Off.frame rfl | exact Off.refl _ _ | refine Off.frameT rfl rfl ?_ | refine Off.upd rfl ?_ | refine Off.updO rfl ?_)) ?_ ⟨by dsimp only; omega, by dsimp only; rw [hnext]; exact hs171⟩ (by dsimp only; omega)
      dsimp only
      rw [hnext]
      exact (by repeat (first | exact Wk.refl _ | apply Wk.keep1 | apply Wk.drop | apply Wk.sv | apply Wk.svD | apply Wk.appD))
  have hke : k = m := by omega
  rw [hke] at hsz ⊢
  rw [List.take_of_length_le (by omega)] at hsz ⊢
  repeat' (first | (refine GiP ?_; first | (refine Znh ?_) | (with_reducible refine Znl ?_)) | (refine GiW ?_; first | (refine Zsq fun K hK => ?_) | (refine ZrN 14 fun _ => ?_; refine Zv Zylss ?_) | (refine WP_cond_true rfl ?_) | (refine WP_cond_false rfl ?_) | (refine Zcd (fun hc => ?_) (fun hc => ?_) <;> (try (exfalso; omega))) | (with_reducible apply WP_skip) | (with_reducible apply WP_block) | (with_reducible apply WP_exit) | (with_reducible apply WP_ret)) | (refine Zhn ?_) | (with_reducible apply QBlock_normal) | (refine Zhx ?_) | (with_reducible apply QBlock_hit) | (refine Zqb ?_) | (with_reducible apply QLoop_exit) | (refine Zhr ?_) | (with_reducible apply QBlock_ret) | (with_reducible apply QLoop_ret))
  obtain ⟨xr, hxr⟩ : ∃ xs, (g.d.rights.map rtL).flatten = xs := ⟨_, rfl⟩
  have hsrcR : ∀ L', ∀ w, Inv N w0 L' w → ∀ j u, xr[j]? = some u → ∃ b o, g.A3 = some ⟨b, o, none⟩ ∧ w.cell? ⟨b, o + j, none⟩ = some u := fun L' w hI => by rw [← hxr]; exact (RdRows.ofSl (L := L') hA.rights).flat (by omega) (map_len (f := rtL) (fun _ => rfl) _) hI
  have hlr : xr.length = p * (2 + 1) := by rw [← hxr, ← hp]; exact map_flat (f := rtL) (fun _ => rfl) _
  have hor : ones xr = true := by rw [← hxr]; exact ones_flat (map_ones (f := rtL) (fun _ => rfl) _)
  have hA3n : g.A3 = none → p = 0 := fun h => by have := slat_none hA.rights h; rw [List.length_map] at this; omega
  refine WP_joinS (by assumption) [174, 175, 176, 177, 178, 179, 180, 181] (fun _ : Option (Nat × Nat) => []) (fun s => (b18, Blk 29 [.slice none 0 0, .slice g.A2 m g.c2, .slice g.A3 p g.c3, .slice g.A4 q g.c4]) :: svH 57 3 (p + 1) (xr ++ [.int .i64 r1, .int .i64 r2, .int .i64 r3]) s (svH 32 2 m ((zl.map spL).flatten) sz ((bB, Row 60 4 n capB yb) :: svH 32 2 (q + 1) (xl ++ [.int .i64 w1, .int .i64 w2]) sx ((b14, Blk 29 [.slice g.A1 n g.c1, .slice g.A2 m g.c2, .slice g.A3 p g.c3, svV sx (q + 1)]) :: (b15, Blk 29 [.slice (some ⟨bB, 0, none⟩) n capB, .slice g.A2 m g.c2, .slice g.A3 p g.c3, .slice g.A4 q g.c4]) :: (b16, Blk 29 [.slice g.A1 n g.c1, svV sz m, .slice g.A3 p g.c3, .slice g.A4 q g.c4]) :: (b17, Blk 29 [.slice g.A1 n g.c1, .slice g.A2 m g.c2, svV s (p + 1), .slice g.A4 q g.c4]) :: (b7, Blk 57 [.int .i64 r1, .int .i64 r2, .int .i64 r3]) :: (b6, Blk 32 [.int .i64 w1, .int .i64 w2]) :: (b5, Blk 29 [.slice g.A1 n g.c1, .slice g.A2 m g.c2, .slice g.A3 p g.c3, .slice g.A4 q g.c4]) :: L)))) (fun s => svOk s 3 (p + 1) (xr ++ [.int .i64 r1, .int .i64 r2, .int .i64 r3])) ?_ ?_
  · intro K' hC
    repeat' (first | (refine GiP ?_; first | (refine Znh ?_) | (with_reducible refine Znl ?_) | (refine Zatd 174 ?_; refine Zbs fun b174 => ?_) | (refine Zatd 174 ?_; refine Zal 174 fun b174 => ?_) | (refine Zatd 177 ?_; refine OPS_append0 rfl rfl rfl (by intro s9; repeat (first | exact Grow.here | apply Grow.there | apply Grow.sv | apply Grow.app)) svOk0 (hsrcR _) hA3n hlr hor (by simp only [maxLen]; omega) (by omega) (fun s177 hs177 => ?_)) | (refine Zatd 177 ?_; refine Zag (fun s177 hs177 => ?_)) | (refine Zatd 179 ?_; refine Zbs fun b179 => ?_) | (refine Zatd 179 ?_; refine Zal 179 fun b179 => ?_) | (refine Zatd 180 ?_; refine OPS_append0 rfl rfl rfl (by intro s9; repeat (first | exact Grow.here | apply Grow.there | apply Grow.sv | apply Grow.app)) svOk0 (hsrcR _) hA3n hlr hor (by simp only [maxLen]; omega) (by omega) (fun s180 hs180 => ?_)) | (refine Zatd 180 ?_; refine Zag (fun s180 hs180 => ?_)) | (refine Zatd 181 ?_; refine Zv Zfa ?_) | (refine Zatn ?_; refine Zst ?_)) | (refine GiW ?_; first | (refine Zsq fun K hK => ?_) | (refine WP_cond_true rfl ?_) | (refine WP_cond_false rfl ?_) | (refine Zcd (fun hc => ?_) (fun hc => ?_) <;> (try (exfalso; omega))) | (with_reducible apply WP_skip) | (with_reducible apply WP_block) | (with_reducible apply WP_exit) | (with_reducible apply WP_ret) | (refine WP_drawnS (id := 19) [1, 2, 4] [1, 2, 4] [] [175, 176, 178] (k := 3) (k2 := 3) (by repeat (first | apply Sub.sv | apply Sub.keep | apply Sub.appK | exact Sub.refl _)) (by kernel_rfl) prog_mixed (by kernel_rfl) (by kernel_rfl) rfl ?_; refine Zew rfl Zfa ?_; refine Zew rfl Zld ?_; refine Zew rfl Zla ?_)) | (with_reducible apply EWalk_nil) | (refine GiC ?_; first | (refine ZgC [1, 2, 4] ?_; refine ZC2 _ 0 [1, 2, 4, 0] 5 [1, 2, 4, 5] ?_ ?_) | (refine ZgC [1, 2, 4, 0] ?_; refine ZC2 _ 3 [1, 2, 4, 0, 3] 5 [1, 2, 4, 0, 5] ?_ ?_) | (refine ZgC [1, 2, 4, 0, 3] ?_; refine ZC1 _ 5 [1, 2, 4, 0, 3, 5] ?_) | (refine ZgC [1, 2, 4, 0, 3, 5] ?_; refine ZCl _ ?_) | (refine ZgC [1, 2, 4, 0, 5] ?_; refine ZC1 _ 3 [1, 2, 4, 0, 3, 5] ?_) | (refine ZgC [1, 2, 4, 5] ?_; refine ZC1 _ 0 [1, 2, 4, 0, 5] ?_)) | (refine GiO ?_; first | (refine ZgO [1, 2, 4, 0, 3, 5] ?_; refine ZO1 _ 6 [1, 2, 4, 0, 3, 5, 6] ?_) | (refine ZgO [1, 2, 4, 0, 3, 5, 6] ?_; refine ZO1 _ 7 [1, 2, 4, 0, 3, 5, 6, 7] ?_) | (refine ZgO [1, 2, 4, 0, 3, 5, 6, 7] ?_; refine ZO1 _ 8 [1, 2, 4, 0, 3, 5, 6, 7, 8] ?_) | (refine ZgO [1, 2, 4, 0, 3, 5, 6, 7, 8] ?_; refine ZOd _ ?_; (try with_reducible apply noP_normal); (try with_reducible exact key.out))) | (refine Zhn ?_) | (with_reducible apply QBlock_normal) | (refine Zhx ?_) | (with_reducible apply QBlock_hit) | (refine Zqb ?_) | (with_reducible apply QLoop_exit) | (refine Zhr ?_) | (with_reducible apply QBlock_ret) | (with_reducible apply QLoop_ret) | (refine AWalk_0 ?_) | (with_reducible apply QAny_normal) | (with_reducible apply QC_normal))
    all_goals refine hC.nor s180 _ _ .nil (by repeat (first | exact Off.frame rfl | exact Off.refl _ _ | refine Off.frameT rfl rfl ?_ | refine Off.upd rfl ?_ | refine Off.updO rfl ?_)) ?_ (by assumption)
    all_goals exact Sub.permL (by repeat (first | exact Sub.nil | exact Sub.refl _ | assumption | exact Sub.left | apply Sub.svK | apply Sub.sv | apply Sub.cons | apply Sub.app)) pull5
  intro st j7 hst
  obtain ⟨H0, hH0⟩ : ∃ H0, svH 57 3 (p + 1) (xr ++ [.int .i64 r1, .int .i64 r2, .int .i64 r3]) st (svH 32 2 m ((zl.map spL).flatten) sz ((bB, Row 60 4 n capB yb) :: svH 32 2 (q + 1) (xl ++ [.int .i64 w1, .int .i64 w2]) sx ((b14, Blk 29 [.slice g.A1 n g.c1, .slice g.A2 m g.c2, .slice g.A3 p g.c3, svV sx (q + 1)]) :: (b15, Blk 29 [.slice (some ⟨bB, 0, none⟩) n capB, .slice g.A2 m g.c2, .slice g.A3 p g.c3, .slice g.A4 q g.c4]) :: (b16, Blk 29 [.slice g.A1 n g.c1, svV sz m, .slice g.A3 p g.c3, .slice g.A4 q g.c4]) :: (b17, Blk 29 [.slice g.A1 n g.c1, .slice g.A2 m g.c2, svV st (p + 1), .slice g.A4 q g.c4]) :: (b7, Blk 57 [.int .i64 r1, .int .i64 r2, .int .i64 r3]) :: (b6, Blk 32 [.int .i64 w1, .int .i64 w2]) :: (b5, Blk 29 [.slice g.A1 n g.c1, .slice g.A2 m g.c2, .slice g.A3 p g.c3, .slice g.A4 q g.c4]) :: L))) = H0 := ⟨_, rfl⟩
  have m50 : Mem b5 (Blk 29 [.slice g.A1 n g.c1, .slice g.A2 m g.c2, .slice g.A3 p g.c3, .slice g.A4 q g.c4]) H0 := by rw [← hH0]; exact (by repeat (first | exact Mem.here | assumption | apply Mem.there | apply Mem.sv | apply Mem.app))
  rw [hH0]
  repeat' (first | (refine GiP ?_; first | (refine Znh ?_) | (with_reducible refine Znl ?_)) | (refine GiW ?_; first | (refine Zsq fun K hK => ?_) | (refine ZrN 20 fun _ => ?_; refine Zv Zab ?_) | (refine ZrN 21 fun _ => ?_; refine Zv Zf0 ?_; refine Zv Zld ?_; refine Zv Zxlen ?_; refine Zv Zmi ?_) | (refine WP_cond_true rfl ?_) | (refine WP_cond_false rfl ?_) | (refine Zcd (fun hc => ?_) (fun hc => ?_) <;> (try (exfalso; omega))) | (with_reducible apply WP_skip) | (with_reducible apply WP_block) | (with_reducible apply WP_exit) | (with_reducible apply WP_ret)) | (refine Zhn ?_) | (with_reducible apply QBlock_normal) | (refine Zhx ?_) | (with_reducible apply QBlock_hit) | (refine Zqb ?_) | (with_reducible apply QLoop_exit) | (refine Zhr ?_) | (with_reducible apply QBlock_ret) | (with_reducible apply QLoop_ret))
  obtain ⟨ul, hul⟩ : ∃ z, (levU g.d).banks = z := ⟨_, rfl⟩
  have hun : ul.length = n := by rw [← hul]; unfold levU; simp [hn]
  have hug : ∀ k (hk : k < n), ul[k]'(by omega) = ⟨up1 (g.d.banks[k]'(by omega)).lv, (g.d.banks[k]'(by omega)).yd⟩ := fun k hk => by
    subst hul
    simp [levU]
  refine WP_gen [5, 12, 13, 14, 15, 16, 17, 18, 22, 183, 184, 185] [(5, .pointer (some ⟨b5, 0, none⟩)), (12, .int .i64 (a : Int)), (13, .int .i64 (b : Int)), (14, .pointer (some ⟨b14, 0, none⟩)), (15, .pointer (some ⟨b15, 0, none⟩)), (16, .pointer (some ⟨b16, 0, none⟩)), (17, .pointer (some ⟨b17, 0, none⟩)), (18, .pointer (some ⟨b18, 0, none⟩)), (22, .bool true), (183, .slice g.A1 n g.c1), (184, .int .i64 (n : Int)), (185, .int .i64 0)] (.cons rfl (.cons rfl (.cons rfl (.cons rfl (.cons rfl (.cons rfl (.cons rfl (.cons rfl (.cons rfl (.cons rfl (.cons rfl (.cons rfl .nil)))))))))))) fun e7 => ?_
  refine WP_loop [22, 24, 185, 186, 187, 188, 189, 190, 191, 192, 193, 194, 195, 196, 197, 198, 199, 200, 201, 202, 203, 204, 205, 206, 207, 208, 209, 210, 211, 212] (fun st' : Nat × Option (Nat × Nat) × Bool => [(185, .int .i64 st'.1), (22, .bool st'.2.2)]) (fun st' => svH 60 4 st'.1 (((ul.take st'.1).map bkL).flatten) st'.2.1 ((b18, Blk 29 [svV st'.2.1 st'.1, .slice g.A2 m g.c2, .slice g.A3 p g.c3, .slice g.A4 q g.c4]) :: H0)) (fun st' => st'.1 ≤ n ∧ svOk st'.2.1 4 st'.1 (((ul.take st'.1).map bkL).flatten) ∧ st'.2.2 = (g.d.banks.take st'.1).all (fun b => decide (b.lv.2 + 1 ≤ 20))) (fun st' => n - st'.1) (0, none, true) (.cons rfl (.cons rfl .nil)) (Wk.refl _) ⟨Nat.zero_le _, svOk_nil _, rfl⟩ ?_
  rintro ⟨k, su, fi⟩ j8 ⟨hk2, hsu, hfi⟩
  dsimp only at hk2 hsu hfi ⊢
  by_cases hkn : k < n
  · obtain ⟨bA, oA, hA1, hbA, hcA⟩ := hA.banks.row k (by omega)
    have hu := hug k hkn
    have hfn : (g.d.banks.take (k + 1)).all (fun b => decide (b.lv.2 + 1 ≤ 20)) = ((g.d.banks.take k).all (fun b => decide (b.lv.2 + 1 ≤ 20)) && decide ((g.d.banks[k]'(by omega)).lv.2 + 1 ≤ 20)) := by rw [List.take_succ_eq_append_getElem (by omega), List.all_append]; simp
    obtain ⟨⟨⟨t1, t2⟩, ⟨y1, y2⟩⟩, ht⟩ : ∃ q, g.d.banks[k]'(by omega) = q := ⟨_, rfl⟩
    have htb := hv.bk ⟨(t1, t2), (y1, y2)⟩ (by rw [← ht]; exact List.getElem_mem _)
    rw [ht] at hcA hu
    simp only [ht] at hfn
    unfold bkL at hcA
    dsimp only at hcA hu htb
    rw [← hfi] at hfn
    have hnext : ((ul.take (k + 1)).map bkL).flatten = ((ul.take k).map bkL).flatten ++ [.int .i64 (t1 + 1), .int .i64 (t2 + 1), .int .i64 y1, .int .i64 y2] := by
      rw [List.take_succ_eq_append_getElem (by omega), hu]; simp [bkL, up1]
    clear hfi
    refine Zsq fun Ka hKa => ?_
    repeat' (first | (refine GiP ?_; first | (refine Znh ?_) | (with_reducible refine Znl ?_)) | (refine GiW ?_; first | (refine ZrN 22 fun _ => ?_; refine Zv Zylss ?_) | (refine WP_cond_true rfl ?_) | (refine WP_cond_false rfl ?_) | (refine Zcd (fun hc => ?_) (fun hc => ?_) <;> (try (exfalso; omega))) | (with_reducible apply WP_skip) | (with_reducible apply WP_block) | (with_reducible apply WP_exit) | (with_reducible apply WP_ret)) | (refine Zhn ?_) | (with_reducible apply QBlock_normal) | (refine Zhx ?_) | (with_reducible apply QBlock_hit) | (refine Zqb ?_) | (with_reducible apply QLoop_exit) | (refine Zhr ?_) | (with_reducible apply QBlock_ret) | (with_reducible apply QLoop_ret))
    refine Zsq fun K9 hK9 => ?_
    repeat' (first | (refine GiP ?_; first | (refine Znh ?_) | (with_reducible refine Znl ?_)) | (refine GiW ?_; first | (refine ZrN 22 fun _ => ?_; refine Zv Zylss ?_) | (refine WP_cond_true rfl ?_) | (refine WP_cond_false rfl ?_) | (refine Zcd (fun hc => ?_) (fun hc => ?_) <;> (try (exfalso; omega))) | (with_reducible apply WP_skip) | (with_reducible apply WP_block) | (with_reducible apply WP_exit) | (with_reducible apply WP_ret)) | (refine Zhn ?_) | (with_reducible apply QBlock_normal) | (refine Zhx ?_) | (with_reducible apply QBlock_hit) | (refine Zqb ?_) | (with_reducible apply QLoop_exit) | (refine Zhr ?_) | (with_reducible apply QBlock_ret) | (with_reducible apply QLoop_ret))
    refine Zsq fun K8 hK8 => ?_
    refine WP_joinS (by assumption) [22, 24, 187, 188, 189, 190, 191, 192, 193, 194, 195, 196, 197, 198, 199, 200, 201, 202, 203, 204, 205, 206, 207, 208, 209, 210, 211] (fun s : Option (Nat × Nat) => [(22, .bool (fi && decide (t2 + 1 ≤ 20)))]) (fun s => svH 60 4 (k + 1) (((ul.take k).map bkL).flatten ++ [.int .i64 (t1 + 1), .int .i64 (t2 + 1), .int .i64 y1, .int .i64 y2]) s ((b18, Blk 29 [svV s (k + 1), .slice g.A2 m g.c2, .slice g.A3 p g.c3, .slice g.A4 q g.c4]) :: H0)) (fun s => svOk s 4 (k + 1) (((ul.take k).map bkL).flatten ++ [.int .i64 (t1 + 1), .int .i64 (t2 + 1), .int .i64 y1, .int .i64 y2])) ?_ ?_
    · intro K' hC
      repeat' (first | (refine GiP ?_; first | (refine Znh ?_) | (with_reducible refine Znl ?_)) | (refine GiW ?_; first | (refine Zsq fun K hK => ?_) | (refine ZrN 23 fun _ => ?_; (first | (refine Zv (Val_indexAddrE rfl hA1 rfl rfl hkn) ?_) | (refine Zv Zia ?_)); (first | (refine Zv (Val_loadRN rfl hbA hcA rfl) ?_) | (refine Zv Zla ?_)); refine Zal 24 fun b24 => ?_; refine Zst ?_) | (refine ZrN 24 fun _ => ?_; refine Zv Zf0 ?_; refine Zv Zf0 ?_; (first | (refine Zv (Val_loadRN rfl hbA hcA rfl) ?_) | (refine Zv Zld ?_)); refine Zv Zxadd ?_; refine Zv Zf0 ?_; refine Zv Zfa ?_; (first | (refine Zv (Val_loadRN rfl hbA hcA rfl) ?_) | (refine Zv Zld ?_)); refine Zv Zxadd ?_; refine Zcl (Enters_fn rfl) (h21 _ _ _) ?_; refine Zv Zf0 ?_; refine Zst ?_) | (refine WP_cond_true rfl ?_) | (refine WP_cond_false rfl ?_) | (refine Zcd (fun hc => ?_) (fun hc => ?_) <;> (try (exfalso; omega))) | (with_reducible apply WP_skip) | (with_reducible apply WP_block) | (with_reducible apply WP_exit) | (with_reducible apply WP_ret)) | (refine Zhn ?_) | (with_reducible apply QBlock_normal) | (refine Zhx ?_) | (with_reducible apply QBlock_hit) | (refine Zqb ?_) | (with_reducible apply QLoop_exit) | (refine Zhr ?_) | (with_reducible apply QBlock_ret) | (with_reducible apply QLoop_ret))
      try clear h28
      try clear h13
      try clear h29
      try clear hin
      try clear hsrcS
      try clear hl4
      try clear ho4
      try clear hA4n
      try clear hxl
      try clear hsrcB
      try clear hlb
      try clear hob
      try clear hA1n
      try clear hxb
      try clear hbk4
      try clear hyn
      try clear hyv
      try clear hyb
      try clear hzl
      try clear hzm
      try clear h12
      try clear h21
      try clear hsrcR
      try clear hlr
      try clear hor
      try clear hA3n
      try clear hxr
      try clear hug
      try clear hul
      try clear hun
      try clear hbA
      try clear hcA
      try clear hA1
      try clear hu
      try clear htb
      try clear hke
      try clear hst
      try clear hsz
      try clear hsx
      try clear hs109
      try clear han
      try clear ha9
      try clear hb9
      try clear hwq
      try clear hvb
      try clear hf
      try clear hv
      try clear ht
      try clear m50
      try clear hH0
      try clear hA
      cases fi
      all_goals
        repeat' (first | (refine GiP ?_; first | (refine Znh ?_) | (with_reducible refine Znl ?_) | (refine Zatd 203 ?_; refine Zag (fun s203 hs203 => ?_)) | (refine Zatd 205 ?_; refine Zv Zmb ?_) | (refine Zatd 206 ?_; refine Zv Zf0 ?_) | (refine Zatd 207 ?_; refine Zv Zfa ?_) | (refine Zatd 208 ?_; refine Zv Zld ?_) | (refine Zatd 209 ?_; refine Zv Zyleq ?_) | (refine Zatd 210 ?_; refine Zv Zxpt ?_) | (refine Zatd 210 ?_; refine Zv Zxpf ?_) | (refine Zatd 211 ?_; refine Zv Zf0 ?_) | (refine Zatn ?_; refine Zst ?_) | (refine Zatd 22 ?_; refine Zv Zab ?_) | (refine Zsk ?_) | (refine Zsp (fun hc => ?_) (fun hc => ?_) <;> (try (exfalso; omega)))) | (refine GiW ?_; first | (refine Zsq fun K hK => ?_) | (refine WP_cond_true rfl ?_) | (refine WP_cond_false rfl ?_) | (refine Zcd (fun hc => ?_) (fun hc => ?_) <;> (try (exfalso; omega))) | (with_reducible apply WP_skip) | (with_reducible apply WP_block) | (with_reducible apply WP_exit) | (with_reducible apply WP_ret) | (refine WP_drawnQ (id := 25) ((b24, Blk 60 [.int .i64 (t1 + 1), .int .i64 (t2 + 1), .int .i64 y1, .int .i64 y2]) :: H0) [5] [0, 1, 2, 5] [3] [204] (k := 9) (k2 := 1) (by kernel_rfl) prog_mixed (by kernel_rfl) (by kernel_rfl) rfl ?_; (first | refine ZqY rfl Zf0 ?_ | refine ZqB rfl Zf0 ?_); (first | refine ZqY rfl Zld ?_ | refine ZqB rfl Zld ?_); (first | refine ZqY rfl Zla ?_ | refine ZqB rfl Zla ?_); (first | refine ZqY rfl Zmb ?_ | refine ZqB rfl Zmb ?_))) | (with_reducible apply EWalkQ_nil) | (refine GiC ?_; first | (refine ZgC [0, 1, 2, 5, 3] ?_; refine ZC1 _ 4 [0, 1, 2, 5, 3, 4] ?_) | (refine ZgC [0, 1, 2, 5, 3, 4] ?_; refine ZC2 _ 6 [0, 1, 2, 5, 3, 4, 6] 12 [0, 1, 2, 5, 3, 4, 12] ?_ ?_) | (refine ZgC [0, 1, 2, 5, 3, 4, 6] ?_; refine ZC2 _ 7 [0, 1, 2, 5, 3, 4, 6, 7] 12 [0, 1, 2, 5, 3, 4, 6, 12] ?_ ?_) | (refine ZgC [0, 1, 2, 5, 3, 4, 6, 7] ?_; refine ZC2 _ 8 [0, 1, 2, 5, 3, 4, 6, 7, 8] 12 [0, 1, 2, 5, 3, 4, 6, 7, 12] ?_ ?_) | (refine ZgC [0, 1, 2, 5, 3, 4, 6, 7, 8] ?_; refine ZC2 _ 9 [0, 1, 2, 5, 3, 4, 6, 7, 8, 9] 12 [0, 1, 2, 5, 3, 4, 6, 7, 8, 12] ?_ ?_) | (refine ZgC [0, 1, 2, 5, 3, 4, 6, 7, 8, 9] ?_; refine ZC2 _ 10 [0, 1, 2, 5, 3, 4, 6, 7, 8, 9, 10] 12 [0, 1, 2, 5, 3, 4, 6, 7, 8, 9, 12] ?_ ?_) | (refine ZgC [0, 1, 2, 5, 3, 4, 6, 7, 8, 9, 10] ?_; refine ZC2 _ 11 [0, 1, 2, 5, 3, 4, 6, 7, 8, 9, 10, 11] 12 [0, 1, 2, 5, 3, 4, 6, 7, 8, 9, 10, 12] ?_ ?_) | (refine ZgC [0, 1, 2, 5, 3, 4, 6, 7, 8, 9, 10, 11] ?_; refine ZC1 _ 12 [0, 1, 2, 5, 3, 4, 6, 7, 8, 9, 10, 11, 12] ?_) | (refine ZgC [0, 1, 2, 5, 3, 4, 6, 7, 8, 9, 10, 11, 12] ?_; refine ZC1 _ 13 [0, 1, 2, 5, 3, 4, 6, 7, 8, 9, 10, 11, 12, 13] ?_) | (refine ZgC [0, 1, 2, 5, 3, 4, 6, 7, 8, 9, 10, 11, 12, 13] ?_; refine ZCl _ ?_) | (refine ZgC [0, 1, 2, 5, 3, 4, 6, 7, 8, 9, 10, 12] ?_; refine ZC2 _ 11 [0, 1, 2, 5, 3, 4, 6, 7, 8, 9, 10, 11, 12] 13 [0, 1, 2, 5, 3, 4, 6, 7, 8, 9, 10, 12, 13] ?_ ?_) | (refine ZgC [0, 1, 2, 5, 3, 4, 6, 7, 8, 9, 10, 12, 13] ?_; refine ZC1 _ 11 [0, 1, 2, 5, 3, 4, 6, 7, 8, 9, 10, 11, 12, 13] ?_) | (refine ZgC [0, 1, 2, 5, 3, 4, 6, 7, 8, 9, 12] ?_; refine ZC2 _ 10 [0, 1, 2, 5, 3, 4, 6, 7, 8, 9, 10, 12] 13 [0, 1, 2, 5, 3, 4, 6, 7, 8, 9, 12, 13] ?_ ?_) | (refine ZgC [0, 1, 2, 5, 3, 4, 6, 7, 8, 9, 12, 13] ?_; refine ZC1 _ 10 [0, 1, 2, 5, 3, 4, 6, 7, 8, 9, 10, 12, 13] ?_) | (refine ZgC [0, 1, 2, 5, 3, 4, 6, 7, 8, 12] ?_; refine ZC2 _ 9 [0, 1, 2, 5, 3, 4, 6, 7, 8, 9, 12] 13 [0, 1, 2, 5, 3, 4, 6, 7, 8, 12, 13] ?_ ?_) | (refine ZgC [0, 1, 2, 5, 3, 4, 6, 7, 8, 12, 13] ?_; refine ZC1 _ 9 [0, 1, 2, 5, 3, 4, 6, 7, 8, 9, 12, 13] ?_) | (refine ZgC [0, 1, 2, 5, 3, 4, 6, 7, 12] ?_; refine ZC2 _ 8 [0, 1, 2, 5, 3, 4, 6, 7, 8, 12] 13 [0, 1, 2, 5, 3, 4, 6, 7, 12, 13] ?_ ?_) | (refine ZgC [0, 1, 2, 5, 3, 4, 6, 7, 12, 13] ?_; refine ZC1 _ 8 [0, 1, 2, 5, 3, 4, 6, 7, 8, 12, 13] ?_) | (refine ZgC [0, 1, 2, 5, 3, 4, 6, 12] ?_; refine ZC2 _ 7 [0, 1, 2, 5, 3, 4, 6, 7, 12] 13 [0, 1, 2, 5, 3, 4, 6, 12, 13] ?_ ?_) | (refine ZgC [0, 1, 2, 5, 3, 4, 6, 12, 13] ?_; refine ZC1 _ 7 [0, 1, 2, 5, 3, 4, 6, 7, 12, 13] ?_) | (refine ZgC [0, 1, 2, 5, 3, 4, 12] ?_; refine ZC1 _ 6 [0, 1, 2, 5, 3, 4, 6, 12] ?_)) | (refine GiO ?_; first | (refine ZgO [0, 1, 2, 5, 3, 4, 6, 7, 8, 9, 10, 11, 12, 13] ?_; refine ZO1 _ 14 [0, 1, 2, 5, 3, 4, 6, 7, 8, 9, 10, 11, 12, 13, 14] ?_) | (refine ZgO [0, 1, 2, 5, 3, 4, 6, 7, 8, 9, 10, 11, 12, 13, 14] ?_; refine ZOd _ ?_; (try with_reducible apply noP_normal); (try with_reducible exact key.out))) | (refine Zhn ?_) | (with_reducible apply QBlock_normal) | (refine Zhx ?_) | (with_reducible apply QBlock_hit) | (refine Zqb ?_) | (with_reducible apply QLoop_exit) | (refine Zhr ?_) | (with_reducible apply QBlock_ret) | (with_reducible apply QLoop_ret) | (refine AWalk_1S (d := 202) rfl rfl rfl rfl blk_is (New_buildSliceR rfl rfl (by repeat (first | exact CellsR.nil | (apply CellsR.cA rfl) | (apply CellsR.c1S (by constructor) rfl))) rfl (by decide) rfl (by decide)) (fun b202 => ?_)) | (with_reducible apply QAny_normal) | (with_reducible apply QC_normal))
        all_goals exact hC.nor s203 _ _ (.cons rfl .nil) (by repeat (first | exact Off.frame rfl | exact Off.refl _ _ | refine Off.frameT rfl rfl ?_ | refine Off.upd rfl ?_ | refine Off.updO rfl ?_)) (by repeat (first | exact Sub.nil | exact Sub.refl _ | assumption | exact Sub.left | apply Sub.svK | apply Sub.sv | apply Sub.cons | apply Sub.app)) (by assumption)
    intro s203 j9 hs203
    repeat' (first | (refine GiP ?_; first | (refine Znh ?_) | (with_reducible refine Znl ?_)) | (refine GiW ?_; first | (refine Zsq fun K hK => ?_) | (refine ZrN 26 fun _ => ?_; refine Zv Zxadd ?_; refine Zv Zmi ?_) | (refine WP_cond_true rfl ?_) | (refine WP_cond_false rfl ?_) | (refine Zcd (fun hc => ?_) (fun hc => ?_) <;> (try (exfalso; omega))) | (with_reducible apply WP_skip) | (with_reducible apply WP_block) | (with_reducible apply WP_exit) | (with_reducible apply WP_ret)) | (refine Zhn ?_) | (with_reducible apply QBlock_normal) | (refine Zhx ?_) | (with_reducible apply QBlock_hit) | (refine Zqb ?_) | (with_reducible apply QLoop_exit) | (refine Zhr ?_) | (with_reducible apply QBlock_ret) | (with_reducible apply QLoop_ret))
    refine QLoop_normal (k + 1, s203, (g.d.banks.take (k + 1)).all (fun b => decide (b.lv.2 + 1 ≤ 20))) (.cons rfl (.cons (by dsimp only; rw [hfn]; rfl) .nil)) (by repeat (first | ((with_reducible refine Off.upd ?_ ?_); focus rfl) | ((with_reducible refine Off.updO ?_ ?_); focus rfl) | ((with_reducible refine Off.frame ?_); rfl) | ((with_reducible refine Off.frameT ?_ ?_ ?_); focus rfl; focus rfl) | (with_reducible exact Off.refl _ _) | exact Off.frame rfl | refine Off.frameT rfl rfl ?_ | exact Off.refl _ _)) ?_ ⟨by dsimp only; omega, by dsimp only; rw [hnext]; exact hs203, rfl⟩ (by dsimp only; omega)
    dsimp only
    rw [hnext]
    exact (by repeat (first | exact Wk.refl _ | apply Wk.keep1 | apply Wk.drop | apply Wk.sv | apply Wk.svD | apply Wk.appD))
  have hke2 : k = n := by omega
  rw [hke2] at hsu hfi ⊢
  rw [List.take_of_length_le (by omega)] at hsu hfi ⊢
  refine Zsq fun Ka hKa => ?_
  repeat' (first | (refine GiP ?_; first | (refine Znh ?_) | (with_reducible refine Znl ?_)) | (refine GiW ?_; first | (refine ZrN 22 fun _ => ?_; refine Zv Zylss ?_) | (refine WP_cond_true rfl ?_) | (refine WP_cond_false rfl ?_) | (refine Zcd (fun hc => ?_) (fun hc => ?_) <;> (try (exfalso; omega))) | (with_reducible apply WP_skip) | (with_reducible apply WP_block) | (with_reducible apply WP_exit) | (with_reducible apply WP_ret)) | (refine Zhn ?_) | (with_reducible apply QBlock_normal) | (refine Zhx ?_) | (with_reducible apply QBlock_hit) | (refine Zqb ?_) | (with_reducible apply QLoop_exit) | (refine Zhr ?_) | (with_reducible apply QBlock_ret) | (with_reducible apply QLoop_ret))
  refine Zsq fun Kb hKb => ?_
  repeat' (first | (refine GiP ?_; first | (refine Znh ?_) | (with_reducible refine Znl ?_)) | (refine GiW ?_; first | (refine ZrN 22 fun _ => ?_; refine Zv Zylss ?_) | (refine WP_cond_true rfl ?_) | (refine WP_cond_false rfl ?_) | (refine Zcd (fun hc => ?_) (fun hc => ?_) <;> (try (exfalso; omega))) | (with_reducible apply WP_skip) | (with_reducible apply WP_block) | (with_reducible apply WP_exit) | (with_reducible apply WP_ret)) | (refine Zhn ?_) | (with_reducible apply QBlock_normal) | (refine Zhx ?_) | (with_reducible apply QBlock_hit) | (refine Zqb ?_) | (with_reducible apply QLoop_exit) | (refine Zhr ?_) | (with_reducible apply QBlock_ret) | (with_reducible apply QLoop_ret))
  -- what was made, read
  rw [← hH0]
  obtain ⟨Ax, cx, ex, hinx⟩ := in_seenM hin (g.d.seen ++ [(w1, w2)]) (xs := xl ++ [.int .i64 w1, .int .i64 w2]) (s := sx) (by rw [List.map_append, List.flatten_append, hxl]; simp [spL]) (by rw [List.length_append, hq]; exact hsx)
  obtain ⟨Az, cz, ez, hinz⟩ := in_waysM hin zl (xs := (zl.map spL).flatten) (s := sz) rfl (by rw [hzm]; exact hsz)
  obtain ⟨At, ct, et, hint⟩ := in_rightsM hin (g.d.rights ++ [⟨r1, r2, r3⟩]) (xs := xr ++ [.int .i64 r1, .int .i64 r2, .int .i64 r3]) (s := st) (by rw [List.map_append, List.flatten_append, hxr]; simp [rtL]) (by rw [List.length_append, hp]; exact hst)
  obtain ⟨Au, cu, eu, hinu⟩ := in_banksM hin ul (xs := (ul.map bkL).flatten) (s := su) rfl (by rw [hun]; exact hsu)
  have hx1 : (g.d.seen ++ [(w1, w2)]).length = q + 1 := by rw [List.length_append, hq]; rfl
  have ht1 : (g.d.rights ++ [(⟨r1, r2, r3⟩ : Rt)]).length = p + 1 := by rw [List.length_append, hp]; rfl
  rw [hx1] at ex
  rw [hzm] at ez
  rw [ht1] at et
  rw [hun] at eu
  have hiny : ∀ L', Mem bB (Row 60 4 n capB yb) L' → DrainIn N w0 L' { g with d := bankY g.d a dq, A1 := some ⟨bB, 0, none⟩, c1 := capB } := fun L' hm w hI =>
    ⟨sl_row (rows := (bankY g.d a dq).banks.map bkL) hI hm hyb.symm (map_len (f := bkL) (fun _ => rfl) _), (hin L' w hI).ways, (hin L' w hI).rights, (hin L' w hI).seen⟩
  obtain ⟨gX, hgX⟩ : ∃ gX : Fg, { g with d := { g.d with seen := g.d.seen ++ [(w1, w2)] }, A4 := Ax, c4 := cx } = gX := ⟨_, rfl⟩
  obtain ⟨gY, hgY⟩ : ∃ gY : Fg, { g with d := bankY g.d a dq, A1 := some ⟨bB, 0, none⟩, c1 := capB } = gY := ⟨_, rfl⟩
  obtain ⟨gZ, hgZ⟩ : ∃ gZ : Fg, { g with d := { g.d with ways := zl }, A2 := Az, c2 := cz } = gZ := ⟨_, rfl⟩
  obtain ⟨gT, hgT⟩ : ∃ gT : Fg, { g with d := { g.d with rights := g.d.rights ++ [⟨r1, r2, r3⟩] }, A3 := At, c3 := ct } = gT := ⟨_, rfl⟩
  obtain ⟨gU, hgU⟩ : ∃ gU : Fg, { g with d := { g.d with banks := ul }, A1 := Au, c1 := cu } = gU := ⟨_, rfl⟩
  rw [hgX] at hinx
  rw [hgY] at hiny
  rw [hgZ] at hinz
  rw [hgT] at hint
  rw [hgU] at hinu
  have eX : gX.d = seenX g.d (w1, w2) := by rw [← hgX]; rfl
  have eY : gY.d = bankY g.d a dq := by rw [← hgY]
  have eZ : gZ.d = turnZ g.d := by rw [← hgZ, ← hzl]; rfl
  have eT : gT.d = rightT g.d ⟨r1, r2, r3⟩ := by rw [← hgT]; rfl
  have eU : gU.d = levU g.d := by rw [← hgU, ← hul]; rfl
  have lY : (bankY g.d a dq).banks.length = n := by unfold bankY; rw [List.length_set, hn]
  have dX : drL gX = [.slice g.A1 n g.c1, .slice g.A2 m g.c2, .slice g.A3 p g.c3, .slice Ax (q + 1) cx] := by rw [← hgX]; unfold drL; dsimp only; rw [hn, hm, hp, hx1]
  have dY : drL gY = [.slice (some ⟨bB, 0, none⟩) n capB, .slice g.A2 m g.c2, .slice g.A3 p g.c3, .slice g.A4 q g.c4] := by
    rw [← hgY]; unfold drL; dsimp only; rw [lY]
    show [_, Value.slice g.A2 g.d.ways.length g.c2, Value.slice g.A3 g.d.rights.length g.c3, Value.slice g.A4 g.d.seen.length g.c4] = _
    rw [hm, hp, hq]
  have dZ : drL gZ = [.slice g.A1 n g.c1, .slice Az m cz, .slice g.A3 p g.c3, .slice g.A4 q g.c4] := by rw [← hgZ]; unfold drL; dsimp only; rw [hn, hzm, hp, hq]
  have dT : drL gT = [.slice g.A1 n g.c1, .slice g.A2 m g.c2, .slice At (p + 1) ct, .slice g.A4 q g.c4] := by rw [← hgT]; unfold drL; dsimp only; rw [hn, hm, ht1, hq]
  have dU : drL gU = [.slice Au n cu, .slice g.A2 m g.c2, .slice g.A3 p g.c3, .slice g.A4 q g.c4] := by rw [← hgU]; unfold drL; dsimp only; rw [hun, hm, hp, hq]
  refine WP_gen [5, 12, 13, 14, 15, 16, 17, 18, 22] [(5, .pointer (some ⟨b5, 0, none⟩)), (12, .int .i64 (a : Int)), (13, .int .i64 (b : Int)), (14, .pointer (some ⟨b14, 0, none⟩)), (15, .pointer (some ⟨b15, 0, none⟩)), (16, .pointer (some ⟨b16, 0, none⟩)), (17, .pointer (some ⟨b17, 0, none⟩)), (18, .pointer (some ⟨b18, 0, none⟩)), (22, .bool fi)] (.cons rfl (.cons rfl (.cons rfl (.cons rfl (.cons rfl (.cons rfl (.cons rfl (.cons rfl (.cons rfl .nil))))))))) fun e3 => ?_
  refine WP_nm fun L2 hL2 => ?_
  have hwk : Wk L2 L := by subst hL2; exact (by repeat (first | exact Wk.refl _ | apply Wk.keep1 | apply Wk.drop | apply Wk.sv | apply Wk.svD | apply Wk.appD))
  have der : ∀ w, Inv N w0 L2 w → (b5 < w.heap.size ∧ Ro w b5 0 [.slice g.A1 n g.c1, .slice g.A2 m g.c2, .slice g.A3 p g.c3, .slice g.A4 q g.c4]) ∧ DrAt w.heap.size w g ∧ BoxAt w b14 gX ∧ BoxAt w b15 gY ∧ BoxAt w b16 gZ ∧ BoxAt w b17 gT ∧ BoxAt w b18 gU := by
    subst hL2
    intro w hI
    have q14 := ro_blk hI (show Mem b14 (Blk 29 [.slice g.A1 n g.c1, .slice g.A2 m g.c2, .slice g.A3 p g.c3, svV sx (q + 1)]) _ from (by repeat (first | exact Mem.here | assumption | apply Mem.there | apply Mem.sv | apply Mem.app)))
    have q15 := ro_blk hI (show Mem b15 (Blk 29 [.slice (some ⟨bB, 0, none⟩) n capB, .slice g.A2 m g.c2, .slice g.A3 p g.c3, .slice g.A4 q g.c4]) _ from (by repeat (first | exact Mem.here | assumption | apply Mem.there | apply Mem.sv | apply Mem.app)))
    have q16 := ro_blk hI (show Mem b16 (Blk 29 [.slice g.A1 n g.c1, svV sz m, .slice g.A3 p g.c3, .slice g.A4 q g.c4]) _ from (by repeat (first | exact Mem.here | assumption | apply Mem.there | apply Mem.sv | apply Mem.app)))
    have q17 := ro_blk hI (show Mem b17 (Blk 29 [.slice g.A1 n g.c1, .slice g.A2 m g.c2, svV st (p + 1), .slice g.A4 q g.c4]) _ from (by repeat (first | exact Mem.here | assumption | apply Mem.there | apply Mem.sv | apply Mem.app)))
    have q18 := ro_blk hI (show Mem b18 (Blk 29 [svV su n, .slice g.A2 m g.c2, .slice g.A3 p g.c3, .slice g.A4 q g.c4]) _ from (by repeat (first | exact Mem.here | assumption | apply Mem.there | apply Mem.sv | apply Mem.app)))
    rw [ex, ← dX] at q14
    rw [← dY] at q15
    rw [ez, ← dZ] at q16
    rw [et, ← dT] at q17
    rw [eu, ← dU] at q18
    refine ⟨ro_blk hI (by repeat (first | exact Mem.here | assumption | apply Mem.there | apply Mem.sv | apply Mem.app)), hin _ w hI, ⟨q14, hinx _ ?_ w hI⟩, ⟨q15, hiny _ (by repeat (first | exact Mem.here | assumption | apply Mem.there | apply Mem.sv | apply Mem.app)) w hI⟩, ⟨q16, hinz _ ?_ w hI⟩, ⟨q17, hint _ ?_ w hI⟩, ⟨q18, hinu _ ?_ w hI⟩⟩
    · rw [hx1]; exact (by repeat (first | exact Sub.nil | exact Sub.refl _ | assumption | exact Sub.left | apply Sub.svK | apply Sub.sv | apply Sub.cons | apply Sub.app))
    · rw [hzm]; exact (by repeat (first | exact Sub.nil | exact Sub.refl _ | assumption | exact Sub.left | apply Sub.svK | apply Sub.sv | apply Sub.cons | apply Sub.app))
    · rw [ht1]; exact (by repeat (first | exact Sub.nil | exact Sub.refl _ | assumption | exact Sub.left | apply Sub.svK | apply Sub.sv | apply Sub.cons | apply Sub.app))
    · rw [hun]; exact (by repeat (first | exact Sub.nil | exact Sub.refl _ | assumption | exact Sub.left | apply Sub.svK | apply Sub.sv | apply Sub.cons | apply Sub.app))
  have vals := vals_bnd hv (a := a) (b := b) (by omega) (by omega)
  refine WP_re fun w hI => ?_
  obtain ⟨⟨hb5, k5⟩, gA, ⟨⟨hb14, k14⟩, aX⟩, ⟨⟨hb15, k15⟩, aY⟩, ⟨⟨hb16, k16⟩, aZ⟩, ⟨⟨hb17, k17⟩, aT⟩, ⟨⟨hb18, k18⟩, aU⟩⟩ := der w hI
  clear hI der hL2
  -- copies of what was given
  obtain ⟨xw, hxw⟩ : ∃ xs, (g.d.ways.map spL).flatten = xs := ⟨_, rfl⟩
  have hlw : xw.length = m * (1 + 1) := by rw [← hxw, ← hm]; exact map_flat (f := spL) (fun _ => rfl) _
  have how : ones xw = true := by rw [← hxw]; exact ones_flat (map_ones (f := spL) (fun _ => rfl) _)
  have hA2n : g.A2 = none → m = 0 := fun h => by have := slat_none gA.ways h; rw [List.length_map] at this; omega
  have c1 : ∀ L', ∀ w', Inv w.heap.size w L' w' → ∀ j u, xb[j]? = some u → ∃ b o, g.A1 = some ⟨b, o, none⟩ ∧ w'.cell? ⟨b, o + j, none⟩ = some u := fun L' w' hI => by rw [← hxb]; exact (RdRows.ofSl (L := L') gA.banks).flat (by omega) (map_len (f := bkL) (fun _ => rfl) _) hI
  have c2 : ∀ L', ∀ w', Inv w.heap.size w L' w' → ∀ j u, xw[j]? = some u → ∃ b o, g.A2 = some ⟨b, o, none⟩ ∧ w'.cell? ⟨b, o + j, none⟩ = some u := fun L' w' hI => by rw [← hxw]; exact (RdRows.ofSl (L := L') gA.ways).flat (by omega) (map_len (f := spL) (fun _ => rfl) _) hI
  have c3 : ∀ L', ∀ w', Inv w.heap.size w L' w' → ∀ j u, xr[j]? = some u → ∃ b o, g.A3 = some ⟨b, o, none⟩ ∧ w'.cell? ⟨b, o + j, none⟩ = some u := fun L' w' hI => by rw [← hxr]; exact (RdRows.ofSl (L := L') gA.rights).flat (by omega) (map_len (f := rtL) (fun _ => rfl) _) hI
  have c4 : ∀ L', ∀ w', Inv w.heap.size w L' w' → ∀ j u, xl[j]? = some u → ∃ b o, g.A4 = some ⟨b, o, none⟩ ∧ w'.cell? ⟨b, o + j, none⟩ = some u := fun L' w' hI => by rw [← hxl]; exact (RdRows.ofSl (L := L') gA.seen).flat (by omega) (map_len (f := spL) (fun _ => rfl) _) hI
  rw [dX] at k14
  rw [dY] at k15
  rw [dZ] at k16
  rw [dT] at k17
  rw [dU] at k18
  clear hin h28 h29 hsrcS hsrcB hsrcR hinx hiny hinz hint hinu ex ez et eu hsx hsz hst hsu hs109 hgX hgY hgZ hgT hgU hbk4 hug hul hzl hzm hyb hH0 m50
  rename_i hid0 hid1 hid2 hid3 hid4 hid5 hid6 hid7 hid8 hid9 hid10 hid11 hid12 hid13 hid14 hid15 hid16 hid17 hid18 hid19 hid20 hid21 hid22 hid23 hid24 hid25 hid26 hid27 hid28 hid29 hid30 hid31 hid32 hid33 hid34 hid35 hid36 hid37 hid38 hid39 hid40 hid41 hid42 hid43 hid44 hid45 hid46 hid47 hid48 hid49
  revert hv hf h13 n hnb hn m hnw hm p hnr hp q hns hq a ha9 b hb9 ha hb hid0 hid1 hid2 b5 b6 b7 hid3 hid4 hid5 hid6 hid7 hid8 hid9 hid10 hid11 hid12 hid13 b14 b15 b16 b17 b18 hid14 hid15 xl hxl hl4 ho4 hA4n sx j1 e1 xb hxb hlb hob hA1n hid16 hid17 hid18 b106 hid19 hid20 bB capB han hid21 hid22 hid23 hid24 hid25 wq hwq tb j2 hid26 dq j3 hyn hyv e2 hid27 hid28 hid29 hid30 hid31 hid32 hid33 hid34 zl h12 h21 yb hid35 sz j6 hk hkm hke hid36 hid37 hid38 hid39 hid40 hid41 hid42 xr hxr hlr hor hA3n st j7 H0 hid43 hid44 hid45 hid46 hid47 K hK hid48 ul hun e7 k su fi j8 hk2 hfi hkn hke2 Ka hKa hid49 Kb hKb Ax cx Az cz At ct Au cu hx1 ht1 gX gY gZ gT gU eX eY eZ eT eU lY dX dY dZ dT dU e3 L2 hwk vals w hb5 k5 gA aX hb14 k14 aY hb15 k15 aZ hb16 k16 aT hb17 k17 aU hb18 k18 xw hxw hlw how hA2n c1 c2 c3 c4
  exact hcut.out
end
end Go.Proofs.Ytbhgpnbfdjoglaa
end
