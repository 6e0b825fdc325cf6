/- The document's answer for drains: water, flows. · The law DrainTells: its walk. -/
import Derived.Test.YtbhgpnbfdjoglaaGreatZ4
import Derived.Test.YtbhgpnbfdjoglaaGreatC3
section
namespace Go.Proofs.YtbhgpnbfdjoglaaGreat
open Go.RowKit
attribute [local irreducible] AnyO AnyB QAny QB EWalk AWalk Ev WP OPS QThen QBlock QScope QLoop QBody Val New Turn Tri Enters PostA Blk Ro
attribute [local irreducible] AnyC QC
section
variable (N : Nat) (w0 : World)
set_option maxHeartbeats 4000000 in
theorem rFlow_ret (L : Hp) (g : Fg) (hA : DrAt N w0 g) (hf : farB g.d = false) (a b : Int) :
    Ret Tryz.prog N w0 L 14 [drV g, .int .i64 a, .int .i64 b].toArray (.tuple [.agg [.int .i64 (FlowV g.d a b).1, .int .i64 (FlowV g.d a b).2].toArray, .int .i64 (errD g.d (twoB g.d.banks.length a b))].toArray) := by
  have hfo := farB_ok hf
  have hbk := fun L => rtwo_ret N w0 L g a b (by omega)
  have hkn := fun L ok => known_ref N w0 L g hA hf ok
  obtain ⟨ok, hok⟩ : ∃ ok, twoB g.d.banks.length a b = ok := ⟨_, rfl⟩
  rw [hok] at hbk ⊢
  have hkn2 := fun L => hkn L ok
  obtain ⟨e, he⟩ : ∃ e, errD g.d ok = e := ⟨_, rfl⟩
  rw [he] at hkn2 ⊢
  refine Ret.fgt ?_
  refine tri_of_WP Tryz.func14 rfl (n := _) rfl (by simp) ?_
  by_cases h0 : e = 0
  · subst h0
    have hvb : vB g.d = true := by
      cases h : vB g.d with
      | true => rfl
      | false => simp [errD, h] at he
    have hokt : ok = true := by
      cases ok with
      | true => rfl
      | false => simp [errD, hvb] at he
    subst hokt
    have hs0 : someB g.d = true := by
      cases h : someB g.d with
      | true => rfl
      | false => simp [errD, hvb, h] at he
    have hv := VD_of hvb
    have hnb := hv.nb
    have hnw := hv.nw
    obtain ⟨x, y, rfl, rfl, hx, hy, hxy⟩ := twoB_nat hok
    have hz : FlowV g.d x y = flowsS g.d x y := by unfold FlowV; rw [hok, he, if_pos rfl]; simp
    rw [hz]
    have hev := fun L => every_refR N w0 L g (by omega)
    have hp7 : 2 ^ g.d.ways.length ≤ 2 ^ 7 := Nat.pow_le_pow_right (by omega) hnw
    have hel : evD g.d ≤ 1000000 := by unfold evD; omega
    have hcall := fun L lv hl A c h => flows_ref N w0 L g hA hv lv hl A c h (evD g.d) hel x y hx hy
    rw [ways_every (by omega)] at hcall
    have hcnt := toldD_count hv
    have hpos : 0 < (toldD g.d).length := List.length_pos_iff.2 (someB_told.1 hs0)
    have hrow : ∀ lv ∈ toldD g.d, lv.length = g.d.banks.length := fun lv h => rowsD_len (toldD_mem.1 h).1
    obtain ⟨f, hf9⟩ : ∃ f : List Int → Sp, (fun lv => flowS g.d (nxt g.d.ways lv) x y) = f := ⟨_, rfl⟩
    have hfe : ∀ lv, flowS g.d (nxt g.d.ways lv) x y = f lv := fun lv => by rw [← hf9]
    have hfb : ∀ lv ∈ toldD g.d, 0 ≤ (f lv).1 ∧ (f lv).1 ≤ 100 ∧ 0 ≤ (f lv).2 ∧ (f lv).2 ≤ 100 := fun lv h => by
      rw [← hf9]
      exact flowS_bd hv (hrow lv h) g.d.ways hx
    have hS : flowsS g.d x y = jn ((toldD g.d).map f) := by unfold flowsS; rw [← hf9]
    simp only [hfe] at hcall
    rw [hS]
    have hkn3 := fun L => (hkn2 L).mono (R' := fun x L2 => ∃ v, x = .returned v ∧ ∃ A n c X, v = .tuple [.slice A n c, .int .i64 0].toArray ∧ L2 = X ++ L ∧ RdLL X (.slice A n c) (toldD g.d)) (by rintro y L2 ⟨v, rfl, A, n, c, X, rfl, rfl, h⟩; exact ⟨_, rfl, A, n, c, X, rfl, rfl, h rfl⟩)
    clear hkn hkn2
    unfold spL at hcall
    unfold drV drL at hbk hkn3 hev hcall ⊢
    obtain ⟨n, hn⟩ : ∃ n, g.d.banks.length = n := ⟨_, rfl⟩
    rw [hn] at hbk hkn3 hev hcall hnb hx hrow ⊢
    obtain ⟨T, hT⟩ : ∃ T, toldD g.d = T := ⟨_, rfl⟩
    rw [hT] at hkn3 hcnt hpos hrow hfb ⊢
    obtain ⟨⟨j1, j2⟩, hj⟩ : ∃ j, jn (T.map f) = j := ⟨_, rfl⟩
    rw [hj]
    dsimp only
    repeat' (first | (refine GiP ?_; first | (refine Znh ?_) | (with_reducible refine Znl ?_) | (refine Zatd 18 ?_; refine OPS_retKS (Enters_fn rfl) (hkn3 _) rfl rfl rfl (fun v15 L15 h15 => ?_); obtain ⟨A9, n9, c9, X9, rfl, rfl, hr9⟩ := h15) | (refine Zatd 12 ?_; refine Zv Zmv ?_) | (refine Zatd 19 ?_; refine Zv Zxex ?_) | (refine Zatd 20 ?_; refine Zv Zxex ?_) | (refine Zatd 8 ?_; refine Zv Zav ?_) | (refine Zatd 9 ?_; refine Zv Zai ?_)) | (refine GiW ?_; first | (refine Zsq fun K hK => ?_) | (refine ZrN 0 fun _ => ?_; refine Zal 3 fun b3 => ?_; refine Zal 6 fun b6 => ?_; refine Zv Zai ?_) | (refine WP_cond_true rfl ?_) | (refine WP_cond_false rfl ?_) | (refine Zcd (fun hc => ?_) (fun hc => ?_) <;> (try (exfalso; omega))) | (with_reducible apply WP_skip) | (with_reducible apply WP_block) | (with_reducible apply WP_exit) | (with_reducible apply WP_ret) | (refine WP_drawnS (id := 1) [] [0, 1, 2, 3, 4] [] [] (k := 0) (k2 := 6) (by repeat (first | apply Sub.sv | apply Sub.keep | apply Sub.appK | exact Sub.refl _)) (by kernel_rfl) prog_mixed (by kernel_rfl) (by kernel_rfl) rfl ?_; refine Zew rfl Zla ?_; refine Zew rfl Zla ?_; refine Zew rfl Zmi ?_; refine Zew rfl Zmi ?_; refine Zec rfl (Enters_fn rfl) (fun X => hbk _) ?_)) | (with_reducible apply EWalk_nil) | (refine ZgC [0, 1, 2, 3, 4] ?_; refine ZCl _ ?_) | (refine GiO ?_; first | (refine ZgO [0, 1, 2, 3, 4] ?_; refine ZO1 _ 5 [0, 1, 2, 3, 4, 5] ?_) | (refine ZgO [0, 1, 2, 3, 4, 5] ?_; refine ZO1 _ 6 [0, 1, 2, 3, 4, 5, 6] ?_) | (refine ZgO [0, 1, 2, 3, 4, 5, 6] ?_; refine ZO2 _ 7 [0, 1, 2, 3, 4, 5, 6, 7] 8 [0, 1, 2, 3, 4, 5, 6, 8] ?_ ?_) | (refine ZgO [0, 1, 2, 3, 4, 5, 6, 7] ?_; refine ZO2 _ 8 [0, 1, 2, 3, 4, 5, 6, 7, 8] 9 [0, 1, 2, 3, 4, 5, 6, 7, 9] ?_ ?_) | (refine ZgO [0, 1, 2, 3, 4, 5, 6, 7, 8] ?_; refine ZO1 _ 9 [0, 1, 2, 3, 4, 5, 6, 7, 8, 9] ?_) | (refine ZgO [0, 1, 2, 3, 4, 5, 6, 7, 8, 9] ?_; refine ZO1 _ 10 [0, 1, 2, 3, 4, 5, 6, 7, 8, 9, 10] ?_) | (refine ZgO [0, 1, 2, 3, 4, 5, 6, 7, 8, 9, 10] ?_; refine ZOd _ ?_; (try with_reducible apply noP_normal); (try with_reducible exact key.out)) | (refine ZgO [0, 1, 2, 3, 4, 5, 6, 7, 9] ?_; refine ZO1 _ 8 [0, 1, 2, 3, 4, 5, 6, 7, 8, 9] ?_) | (refine ZgO [0, 1, 2, 3, 4, 5, 6, 8] ?_; refine ZO1 _ 7 [0, 1, 2, 3, 4, 5, 6, 7, 8] ?_)) | (refine Zhn ?_) | (with_reducible apply QBlock_normal) | (refine Zhx ?_) | (with_reducible apply QBlock_hit) | (refine Zqb ?_) | (with_reducible apply QLoop_exit) | (refine Zhr ?_) | (with_reducible apply QBlock_ret) | (with_reducible apply QLoop_ret) | (refine AWalk_0 ?_) | (with_reducible apply QAny_normal) | (with_reducible apply QC_normal))
    all_goals
      obtain ⟨H, hH⟩ : ∃ H, X9 ++ ((b6, Blk 33 [.int .i64 0, .int .i64 0]) :: (b3, Blk 26 [.slice g.A1 n g.c1, .slice g.A2 g.d.ways.length g.c2, .slice g.A3 g.d.rights.length g.c3, .slice g.A4 g.d.seen.length g.c4]) :: L) = H := ⟨_, rfl⟩
      obtain ⟨b9, c8, e9, hrr⟩ := rows_rd N w0 hr9 hpos (H := H) (by rw [← hH]; exact Wk.appR X9 _)
      have m2 : Mem b3 (Blk 26 [.slice g.A1 n g.c1, .slice g.A2 g.d.ways.length g.c2, .slice g.A3 g.d.rights.length g.c3, .slice g.A4 g.d.seen.length g.c4]) H := by rw [← hH]; exact .app X9 (.there .here)
      have hWH : Wk H L := by rw [← hH]; exact (Wk.app X9 _).trans (.drop (.drop (.refl _)))
      simp only [Value.slice.injEq] at e9
      obtain ⟨rfl, rfl, rfl⟩ := e9
      rw [List.nil_append, hH]
      repeat' (first | (refine GiP ?_; first | (refine Znh ?_) | (with_reducible refine Znl ?_)) | (refine GiW ?_; first | (refine Zsq fun K hK => ?_) | (refine ZrN 2 fun _ => ?_; refine Zv Zmi ?_; refine Zv Zyneq ?_) | (refine ZrN 4 fun _ => ?_; refine Zv Zav ?_) | (refine ZrN 5 fun _ => ?_; refine Zv Zai ?_) | (refine WP_cond_true rfl ?_) | (refine WP_cond_false rfl ?_) | (refine Zcd (fun hc => ?_) (fun hc => ?_) <;> (try (exfalso; omega))) | (with_reducible apply WP_skip) | (with_reducible apply WP_block) | (with_reducible apply WP_exit) | (with_reducible apply WP_ret)) | (refine Zhn ?_) | (with_reducible apply QBlock_normal) | (refine Zhx ?_) | (with_reducible apply QBlock_hit) | (refine Zqb ?_) | (with_reducible apply QLoop_exit) | (refine Zhr ?_) | (with_reducible apply QBlock_ret) | (with_reducible apply QLoop_ret))
      refine WP_loop [10, 11, 25, 26, 27, 28, 29, 30, 31, 32, 33, 34, 35, 36, 37, 38, 39, 40, 41, 42, 43] (fun st : WtSt => [(10, svV st.s st.k), (11, .int .i64 (st.k : Int))]) (fun st => svH 33 2 st.k ((((T.take st.k).map f).map spL).flatten) st.s H) (fun st => st.k ≤ T.length ∧ svOk st.s 2 st.k ((((T.take st.k).map f).map spL).flatten)) (fun st => T.length - st.k) ⟨0, none⟩ (.cons rfl (.cons rfl .nil)) (Wk.refl _) ⟨Nat.zero_le _, svOk_nil 2⟩ ?_
      rintro ⟨k, s⟩ j ⟨hk, hs⟩
      dsimp only at hk hs ⊢
      by_cases hkl : k < T.length
      · have hTm : T[k] ∈ T := List.getElem_mem hkl
        have hfk := hfb _ hTm
        have hlk := hrow _ hTm
        have hst : (((T.take (k + 1)).map f).map spL).flatten = (((T.take k).map f).map spL).flatten ++ [.int .i64 (f T[k]).1, .int .i64 (f T[k]).2] := spl_snoc (f := f) hkl
        obtain ⟨A4, c4', hrk⟩ := hrr k hkl
        have hck := fun L' (h : Wk L' H) => hcall L' T[k] hlk A4 c4' (hrk L' h).2
        obtain ⟨r, hr⟩ : ∃ r, T[k] = r := ⟨_, rfl⟩
        rw [hr] at hst hck hfk hrk hlk
        rw [hlk] at hrk
        obtain ⟨⟨f1, f2⟩, hfr⟩ : ∃ z, f r = z := ⟨_, rfl⟩
        rw [hfr] at hst hck hfk
        dsimp only at hst hck hfk
        have hwk0 : Wk (svH 33 2 k ((((T.take k).map f).map spL).flatten) s H) H := .svD (Wk.refl _)
        repeat' (first | (refine GiP ?_; first | (refine Znh ?_) | (with_reducible refine Znl ?_) | (refine Zatd 43 ?_; refine Zag (fun s43 hs43 => ?_)) | (refine Zatd 10 ?_; refine Zv Zav ?_)) | (refine GiW ?_; first | (refine Zsq fun K hK => ?_) | (refine ZrN 6 fun _ => ?_; refine Zv Zmi ?_; refine Zv Zmv ?_; refine Zv Zxlen ?_; refine Zv Zylss ?_) | (refine WP_cond_true rfl ?_) | (refine WP_cond_false rfl ?_) | (refine Zcd (fun hc => ?_) (fun hc => ?_) <;> (try (exfalso; omega))) | (with_reducible apply WP_skip) | (with_reducible apply WP_block) | (with_reducible apply WP_exit) | (with_reducible apply WP_ret) | (refine WP_drawnS (id := 8) [] [0, 1, 2, 3, 4, 5, 6, 7, 8, 9, 10] [11] [] (k := 0) (k2 := 2) (by repeat (first | apply Sub.sv | apply Sub.keep | apply Sub.appK | exact Sub.refl _)) (by kernel_rfl) prog_mixed (by kernel_rfl) (by kernel_rfl) rfl ?_; refine Zew rfl Zmv ?_; (first | (refine Zew rfl (Val_loadD1 rfl (hrk _ (by repeat (first | exact Wk.refl _ | apply Wk.keep1 | apply Wk.drop | apply Wk.sv | apply Wk.svD | apply Wk.appD))).1) ?_) | (refine Zew rfl Zla ?_)); refine Zew rfl Zmv ?_; refine Zew rfl Zmi ?_; (first | (refine Zew rfl (Val_indexAddr1 rfl rfl rfl hkl) ?_) | (refine Zew rfl Zia ?_)); (first | (refine Zew rfl (Val_loadD1 rfl (hrk _ (by repeat (first | exact Wk.refl _ | apply Wk.keep1 | apply Wk.drop | apply Wk.sv | apply Wk.svD | apply Wk.appD))).1) ?_) | (refine Zew rfl Zld ?_)); (first | (refine Zew rfl (Val_loadD1 rfl (hrk _ (by repeat (first | exact Wk.refl _ | apply Wk.keep1 | apply Wk.drop | apply Wk.sv | apply Wk.svD | apply Wk.appD))).1) ?_) | (refine Zew rfl Zla ?_)); refine Zec rfl (Enters_fn rfl) (fun X => hev _) ?_; refine Zew rfl Zmi ?_; refine Zew rfl Zmi ?_; refine Zec rfl (Enters_fn rfl) (fun X => hck _ (by repeat (first | exact Wk.refl _ | apply Wk.keep1 | apply Wk.drop | apply Wk.sv | apply Wk.svD | apply Wk.appD))) ?_)) | (with_reducible apply EWalk_nil) | (refine ZgC [0, 1, 2, 3, 4, 5, 6, 7, 8, 9, 10, 11] ?_; refine ZCl _ ?_) | (refine GiO ?_; first | (refine ZgO [0, 1, 2, 3, 4, 5, 6, 7, 8, 9, 10, 11] ?_; refine ZO1 _ 12 [0, 1, 2, 3, 4, 5, 6, 7, 8, 9, 10, 11, 12] ?_) | (refine ZgO [0, 1, 2, 3, 4, 5, 6, 7, 8, 9, 10, 11, 12] ?_; refine ZO1 _ 13 [0, 1, 2, 3, 4, 5, 6, 7, 8, 9, 10, 11, 12, 13] ?_) | (refine ZgO [0, 1, 2, 3, 4, 5, 6, 7, 8, 9, 10, 11, 12, 13] ?_; refine ZOd _ ?_; (try with_reducible apply noP_normal); (try with_reducible exact key.out))) | (refine Zhn ?_) | (with_reducible apply QBlock_normal) | (refine Zhx ?_) | (with_reducible apply QBlock_hit) | (refine Zqb ?_) | (with_reducible apply QLoop_exit) | (refine Zhr ?_) | (with_reducible apply QBlock_ret) | (with_reducible apply QLoop_ret) | (refine AWalk_1S (d := 42) rfl rfl rfl rfl blk_is (New_buildSliceR rfl rfl (by repeat (first | exact CellsR.nil | (apply CellsR.cA rfl) | (apply CellsR.c1S (by constructor) rfl))) rfl (by decide) rfl (by decide)) (fun b42 => ?_)) | (with_reducible apply QAny_normal) | (with_reducible apply QC_normal))
        all_goals
          repeat' (first | (refine GiP ?_; first | (refine Znh ?_) | (with_reducible refine Znl ?_)) | (refine GiW ?_; first | (refine Zsq fun K hK => ?_) | (refine ZrN 7 fun _ => ?_; refine Zv Zmi ?_; refine Zv Zxadd ?_; refine Zv Zai ?_) | (refine WP_cond_true rfl ?_) | (refine WP_cond_false rfl ?_) | (refine Zcd (fun hc => ?_) (fun hc => ?_) <;> (try (exfalso; omega))) | (with_reducible apply WP_skip) | (with_reducible apply WP_block) | (with_reducible apply WP_exit) | (with_reducible apply WP_ret)) | (refine Zhn ?_) | (with_reducible apply QBlock_normal) | (refine Zhx ?_) | (with_reducible apply QBlock_hit) | (refine Zqb ?_) | (with_reducible apply QLoop_exit) | (refine Zhr ?_) | (with_reducible apply QBlock_ret) | (with_reducible apply QLoop_ret))
          refine QLoop_normal ⟨k + 1, s43⟩ (.cons rfl (.cons rfl .nil)) (by repeat (first | exact Off.frame rfl | exact Off.refl _ _ | refine Off.frameT rfl rfl ?_ | refine Off.upd rfl ?_ | refine Off.updO rfl ?_)) ?_ ⟨by dsimp only; omega, by dsimp only; rw [hst]; exact hs43⟩ (by dsimp only; omega)
          dsimp only
          rw [hst]
          exact (by repeat (first | exact Wk.refl _ | apply Wk.keep1 | apply Wk.drop | apply Wk.sv | apply Wk.svD | apply Wk.appD))
      · have hke : k = T.length := by omega
        subst hke
        rw [List.take_length] at hs ⊢
        obtain ⟨A7, c7, e7, h7⟩ := RdRows.sv (E := 33) (by omega) hs
        have hhl := fun L' hL => hull_ref N w0 L' A7 c7 (T.map f) (h7 N w0 L' ((T.map f).map spL) hL rfl (by intro r hr; obtain ⟨x, _, rfl⟩ := List.mem_map.1 hr; rfl)) (by rw [List.length_map]; exact hpos) (by rw [List.length_map]; omega) (fun x hx => by obtain ⟨lv, hlv, rfl⟩ := List.mem_map.1 hx; exact hfb lv hlv)
        rw [hj, List.length_map] at hhl
        unfold spL at hhl
        dsimp only at hhl
        have hk0 : ∀ L', Wk L' (svH 33 2 T.length (((T.map f).map spL).flatten) s []) → Ret Tryz.prog N w0 L' 51 [.slice A7 T.length c7].toArray (.agg [.int .i64 j1, .int .i64 j2].toArray) := hhl
        rw [e7, ← hH]
        repeat' (first | (refine GiP ?_; first | (refine Znh ?_) | (with_reducible refine Znl ?_)) | (refine GiW ?_; first | (refine Zsq fun K hK => ?_) | (refine ZrN 6 fun _ => ?_; refine Zv Zmi ?_; refine Zv Zmv ?_; refine Zv Zxlen ?_; refine Zv Zylss ?_) | (refine ZrN 9 fun _ => ?_; refine Zv Zmv ?_; refine Zcl (Enters_fn rfl) (hk0 _ Wk.sv0) ?_; refine OPS_turnN (Turn_store rfl rfl (by repeat (first | exact Up.here | apply Up.there | apply Up.sv | apply Up.app)) rfl (by repeat (first | exact Over.nil | apply Over.cons | apply PutAt.there | apply PutAt.here)) (by rfl) rfl) rfl rfl ?_; refine Zv Zai ?_) | (refine WP_cond_true rfl ?_) | (refine WP_cond_false rfl ?_) | (refine Zcd (fun hc => ?_) (fun hc => ?_) <;> (try (exfalso; omega))) | (with_reducible apply WP_skip) | (with_reducible apply WP_block) | (with_reducible apply WP_exit) | (with_reducible apply WP_ret)) | (refine Zhn ?_) | (with_reducible apply QBlock_normal) | (refine Zhx ?_) | (with_reducible apply QBlock_hit) | (refine Zqb ?_) | (with_reducible apply QLoop_exit) | (refine Zhr ?_) | (with_reducible apply QBlock_ret) | (with_reducible apply QLoop_ret))
        exact QBody_res rfl (.cellN rfl (by repeat (first | exact .here | apply Mem.there | apply Mem.sv | apply Mem.app)) (.here (.cons (.cons .nil))) (.tmp (rfl : _ = Value.int _ _) .nil)) rfl ⟨rfl, .svD ((Wk.app X9 _).trans (.drop (.drop (.refl _))))⟩
  · have hz : FlowV g.d a b = (0, 0) := by unfold FlowV; rw [hok, he, if_neg h0]
    rw [hz]
    have heb : 0 ≤ e ∧ e ≤ 10 := by rw [← he]; unfold errD; cases vB g.d <;> cases ok <;> cases someB g.d <;> decide
    unfold drV drL at hbk hkn2 ⊢
    repeat' (first | (refine GiP ?_; first | (refine Znh ?_) | (with_reducible refine Znl ?_) | (refine Zatd 18 ?_; refine OPS_retKS (Enters_fn rfl) (hkn2 _) rfl rfl rfl (fun v15 L15 h15 => ?_); obtain ⟨A9, n9, c9, X9, rfl, rfl, hr9⟩ := h15) | (refine Zatd 12 ?_; refine Zv Zmv ?_) | (refine Zatd 19 ?_; refine Zv Zxex ?_) | (refine Zatd 20 ?_; refine Zv Zxex ?_) | (refine Zatd 8 ?_; refine Zv Zav ?_) | (refine Zatd 9 ?_; refine Zv Zai ?_)) | (refine GiW ?_; first | (refine Zsq fun K hK => ?_) | (refine ZrN 0 fun _ => ?_; refine Zal 3 fun b3 => ?_; refine Zal 6 fun b6 => ?_; refine Zv Zai ?_) | (refine ZrN 2 fun _ => ?_; refine Zv Zmi ?_; refine Zv Zyneq ?_) | (refine ZrN 3 fun _ => ?_; refine Zv Zxbu ?_; refine Zv Zmi ?_; refine OPS_turnN (Turn_store rfl rfl (by repeat (first | exact Up.here | apply Up.there | apply Up.sv | apply Up.app)) rfl (by repeat (first | exact Over.nil | apply Over.cons | apply PutAt.there | apply PutAt.here)) (by rfl) rfl) rfl rfl ?_; refine Zv Zai ?_) | (refine WP_cond_true rfl ?_) | (refine WP_cond_false rfl ?_) | (refine Zcd (fun hc => ?_) (fun hc => ?_) <;> (try (exfalso; omega))) | (with_reducible apply WP_skip) | (with_reducible apply WP_block) | (with_reducible apply WP_exit) | (with_reducible apply WP_ret) | (refine WP_drawnS (id := 1) [] [0, 1, 2, 3, 4] [] [] (k := 0) (k2 := 6) (by repeat (first | apply Sub.sv | apply Sub.keep | apply Sub.appK | exact Sub.refl _)) (by kernel_rfl) prog_mixed (by kernel_rfl) (by kernel_rfl) rfl ?_; refine Zew rfl Zla ?_; refine Zew rfl Zla ?_; refine Zew rfl Zmi ?_; refine Zew rfl Zmi ?_; refine Zec rfl (Enters_fn rfl) (fun X => hbk _) ?_)) | (with_reducible apply EWalk_nil) | (refine ZgC [0, 1, 2, 3, 4] ?_; refine ZCl _ ?_) | (refine GiO ?_; first | (refine ZgO [0, 1, 2, 3, 4] ?_; refine ZO1 _ 5 [0, 1, 2, 3, 4, 5] ?_) | (refine ZgO [0, 1, 2, 3, 4, 5] ?_; refine ZO1 _ 6 [0, 1, 2, 3, 4, 5, 6] ?_) | (refine ZgO [0, 1, 2, 3, 4, 5, 6] ?_; refine ZO2 _ 7 [0, 1, 2, 3, 4, 5, 6, 7] 8 [0, 1, 2, 3, 4, 5, 6, 8] ?_ ?_) | (refine ZgO [0, 1, 2, 3, 4, 5, 6, 7] ?_; refine ZO2 _ 8 [0, 1, 2, 3, 4, 5, 6, 7, 8] 9 [0, 1, 2, 3, 4, 5, 6, 7, 9] ?_ ?_) | (refine ZgO [0, 1, 2, 3, 4, 5, 6, 7, 8] ?_; refine ZO1 _ 9 [0, 1, 2, 3, 4, 5, 6, 7, 8, 9] ?_) | (refine ZgO [0, 1, 2, 3, 4, 5, 6, 7, 8, 9] ?_; refine ZO1 _ 10 [0, 1, 2, 3, 4, 5, 6, 7, 8, 9, 10] ?_) | (refine ZgO [0, 1, 2, 3, 4, 5, 6, 7, 8, 9, 10] ?_; refine ZOd _ ?_; (try with_reducible apply noP_normal); (try with_reducible exact key.out)) | (refine ZgO [0, 1, 2, 3, 4, 5, 6, 7, 9] ?_; refine ZO1 _ 8 [0, 1, 2, 3, 4, 5, 6, 7, 8, 9] ?_) | (refine ZgO [0, 1, 2, 3, 4, 5, 6, 8] ?_; refine ZO1 _ 7 [0, 1, 2, 3, 4, 5, 6, 7, 8] ?_)) | (refine Zhn ?_) | (with_reducible apply QBlock_normal) | (refine Zhx ?_) | (with_reducible apply QBlock_hit) | (refine Zqb ?_) | (with_reducible apply QLoop_exit) | (refine Zhr ?_) | (with_reducible apply QBlock_ret) | (with_reducible apply QLoop_ret) | (refine AWalk_0 ?_) | (with_reducible apply QAny_normal) | (with_reducible apply QC_normal))
    all_goals exact QBody_res rfl (.cellN rfl (by repeat (first | exact .here | apply Mem.there | apply Mem.sv | apply Mem.app)) (.here (.cons (.cons .nil))) (.tmp (rfl : _ = Value.int _ _) .nil)) rfl ⟨rfl, (Wk.app X9 _).trans (.drop (.drop (.refl _)))⟩
end
end Go.Proofs.YtbhgpnbfdjoglaaGreat
end

section
namespace Go.Proofs.YtbhgpnbfdjoglaaGreat
open Go.RowKit
theorem errD_ok {d : Dr} {ok : Bool} (h : errD d ok = 0) : vB d = true ∧ ok = true ∧ someB d = true := by
  unfold errD at h
  cases h1 : vB d <;> cases h2 : ok <;> cases h3 : someB d <;> simp_all
theorem FlowV_bd (d : Dr) (a b : Int) : 0 ≤ (FlowV d a b).1 ∧ (FlowV d a b).1 ≤ 100 ∧ 0 ≤ (FlowV d a b).2 ∧ (FlowV d a b).2 ≤ 100 := by
  unfold FlowV
  split
  · next h =>
    obtain ⟨h1, h2, h3⟩ := errD_ok h
    obtain ⟨x, y, rfl, rfl, hx, hy, _⟩ := twoB_nat h2
    unfold flowsS
    refine jn_bd (by simpa using someB_told.1 h3) fun z hz => ?_
    obtain ⟨lv, hlv, rfl⟩ := List.mem_map.1 hz
    exact flowS_bd (VD_of h1) (rowsD_len (toldD_mem.1 hlv).1) _ hx
  · dsimp only; omega
attribute [local irreducible] AnyO AnyB QAny QB EWalk AWalk Ev WP OPS QThen QBlock QScope QLoop QBody Val New Turn Tri Enters PostA Blk Ro
attribute [local irreducible] AnyC QC
section
variable (N : Nat) (w0 : World)
end
end Go.Proofs.YtbhgpnbfdjoglaaGreat
end
