/- Package sod: its exported functions: costs, strokes that are needed. -/
import Derived.Test.YtkaadefndcbdnaaB5
namespace Go.Proofs.Ytkaadefndcbdnaa
open Go.RowKit
def costQ (_ : Sd) (p : Nat) (c : List Int) : Sp := costP p c
attribute [local irreducible] AnyO AnyB QAny QB EWalk AWalk Ev WP OPS QThen QBlock QScope QLoop QBody Val New Turn Tri Enters PostA Blk Ro
attribute [local irreducible] AnyC QC
section
variable (N : Nat) (w0 : World)
theorem open_okc {N : Nat} {w0 : World} {g : Fg} {ok : Bool} {q : FuncId} {cc : List Value} {L : Hp} (h : OpenR N w0 g ok q cc L) (h1 : vB g.s = true) (h2 : ok = true) : Tri Try.prog N w0 L 45 [sodV g, .func (.func q) #[] cc.toArray].toArray fun x L' => ∃ v, x = .returned v ∧ ∃ b m, v = .pointer (some ⟨b, 0, none⟩) ∧ L' = (b, Blk 128 (faceL { g with b := b, m := m })) :: (m, MapOf lks (keptF g.s)) :: L := open_ok h h1 h2
theorem Cost1_ret (g : Fg) (b3 : Nat) (spit : Int) (b m : Nat) (L' : Hp) (hS : Sub ((b, Blk 128 (faceL { g with b := b, m := m })) :: [(b3, Blk 3 [.int .i64 spit])]) L') (hv : VS g.s) :
    Ret Try.prog N w0 L' 54 (.pointer (some ⟨b, 0, none⟩) :: [.pointer (some ⟨b3, 0, none⟩)]).toArray (.bool (SpitOk g.s spit)) := by
  have hnd := hv.np
  have m1 := hS.mem .here
  have m2 := hS.mem (.there .here)
  have hid := fun L hm => isSpit_ret N w0 L { g with b := b, m := m } spit hm (by show g.s.spits.length ≤ 1000; omega)
  refine tri_of_WP Try.func54 rfl (n := 7) rfl (by simp) ?_
  repeat' (first | (refine GiP ?_; first | (refine Znh ?_) | (with_reducible refine Znl ?_)) | (refine GiW ?_; first | (refine Zsq fun K hK => ?_) | (refine ZrN 0 fun _ => ?_; refine Zv Zab ?_) | (refine ZrN 1 fun _ => ?_; refine Zv Zmv ?_; refine Zv Zld ?_; refine Zcl (Enters_fn rfl) (hid _ (by repeat (first | exact Mem.here | assumption | apply Mem.there | apply Mem.sv | apply Mem.app))) ?_; refine Zv Zab ?_) | (with_reducible apply WP_ret)) | (refine Zhn ?_) | (refine Zhr ?_))
  exact QBody_ret1 rfl (rfl : _ = Value.bool _) ⟨rfl, rfl⟩
set_option maxHeartbeats 2000000 in
theorem Cost_ret (L : Hp) (g : Fg) (hA : SodAt N w0 g) (hb1 : g.s.days.length ≤ 1000) (spit : Int) :
    Ret Try.prog N w0 L 16 [sodV g, .int .i64 spit].toArray (.tuple [.agg [.int .i64 (CostV g.s spit).1, .int .i64 (CostV g.s spit).2].toArray, .int .i64 (errE g.s (SpitOk g.s spit))].toArray) := by
  refine Ret.fgt ?_
  refine tri_of_WPL Try.func16 rfl (n := _) rfl (by simp) ?_
  have hop : ∀ (b3 : Nat) (L : Hp), Sub [(b3, Blk 3 [.int .i64 spit])] L → OpenR N w0 g (SpitOk g.s spit) 54 [.pointer (some ⟨b3, 0, none⟩)] L := fun b3 L h =>
    open_tri N w0 L g hA hb1 _ 54 _ _ h (fun b m L' h h2 => Cost1_ret N w0 g b3 spit b m L' h h2)
  by_cases hok : vB g.s = true ∧ SpitOk g.s spit = true
  · obtain ⟨hvb, hdo⟩ := hok
    have hv := VS_of hvb
    obtain ⟨j, rfl, hj⟩ := SpitOk_nat hdo
    have hop' := fun b3 L h => open_okc (hop b3 L h) hvb hdo
    have hA' : ∀ b m, SodAt N w0 { g with b := b, m := m } := fun b m => ⟨hA.spits, hA.days, hA.logs, hA.cap1, hA.cap3⟩
    cases h0 : someB g.s with
    | false =>
      have he : errE g.s (SpitOk g.s j) = 10 := errE_10 hvb hdo h0
      have hz : CostV g.s j = (0, 0) := by unfold CostV; rw [he, if_neg (by omega)]
      have htold := fun b m L hS => told_no N w0 L { g with b := b, m := m } hS hv (hA' b m) h0
      rw [he, hz]
      unfold sodV sdL at hop' ⊢
      repeat' (first | (refine GiP ?_; first | (refine Znh ?_) | (with_reducible refine Znl ?_) | (refine Zatd 6 ?_; refine Zv Zav ?_)) | (refine GiW ?_; first | (refine Zsq fun K hK => ?_) | (refine ZrN 0 fun _ => ?_; refine Zal 2 fun b2 => ?_; refine Zal 3 fun b3 => ?_; refine Zal 4 fun b4 => ?_; refine Zal 5 fun b5 => ?_) | (refine ZrN 1 fun _ => ?_; refine OPS_deferA rfl rfl ?_) | (refine ZrN 2 fun _ => ?_; refine Zv Zla ?_; refine Zv Val_makeFunc ?_; refine OPS_retKS (Enters_fn rfl) (hop' b3 _ (by repeat (first | exact Sub.refl _ | assumption | exact Sub.left | apply Sub.cons | apply Sub.sv | apply Sub.app))) rfl rfl rfl (fun v8 L8 h8 => ?_); obtain ⟨bb, mm, rfl, rfl⟩ := h8; refine OPS_pan (Enters_fn rfl) (htold bb mm _ (by repeat (first | exact Sub.refl _ | assumption | exact Sub.left | apply Sub.cons | apply Sub.sv | apply Sub.app))) rfl rfl ?_) | (refine ZrN 3 fun _ => ?_; refine Zv Zmv ?_; refine Zv Val_makeFunc ?_; refine Zv Zxbu ?_) | (with_reducible apply WP_ret)) | (refine Zhn ?_) | (refine Zst ?_; refine Zst ?_) | (refine Zhr ?_) | (refine Zhp ?_))
      all_goals ((try refine HThen.panic (by assumption) ?_); refine QLeave_panic ?_; refine Lv_ans1 N w0 (by repeat (first | exact Up.here | apply Up.there | apply Up.sv)) ?_; refine Lv_nil rfl (.cellN rfl (by repeat (first | exact Mem.here | assumption | apply Mem.there | apply Mem.sv | apply Mem.app)) (.here (.cons (.cons .nil))) (.cell1 rfl (by repeat (first | exact Mem.here | assumption | apply Mem.there | apply Mem.sv | apply Mem.app)) rfl .nil)) rfl ?_; exact ⟨rfl, (by repeat (first | exact Wk.refl _ | apply Wk.keep1 | apply Wk.drop | apply Wk.sv | apply Wk.svD | apply Wk.appD))⟩)
    | true =>
      have he : errE g.s (SpitOk g.s j) = 0 := errE_1 hvb hdo h0
      have hz : CostV g.s j = costV g.s j := by unfold CostV; rw [he, if_pos rfl]; simp
      have htold := fun b m L hS => told_ret N w0 L { g with b := b, m := m } hS hv (hA' b m) h0
      have hall := fun b m b3 L hS hN => allS_tri N w0 L { g with b := b, m := m } hS hv (hA' b m) 57 [.pointer (some ⟨b3, 0, none⟩)] (costQ g.s j) ([(b3, Blk 3 [.int .i64 (j : Int)])]) hN (fun x y z hm L' hS' => costM_ret N w0 g j (by have := hv.np; omega) b3 x y z _ L' hS' ⟨_, rfl, by rw [List.size_toArray]; exact logL_len hv _⟩)
      have hne : toldC g.s ≠ [] := someB_told.1 h0
      have hcnt := toldC_count hv
      rw [he, hz]
      unfold costV
      have hcq : costP j = costQ g.s j := rfl
      rw [hcq]
      obtain ⟨l, hl⟩ : ∃ l, (toldC g.s).map (costQ g.s j) = l := ⟨_, rfl⟩
      have hll : (toldC g.s).length = l.length := by rw [← hl, List.length_map]
      have hl0 : l ≠ [] := by rw [← hl]; simpa using hne
      dsimp only at hall
      rw [hl, hll] at hall
      rw [hll] at hcnt
      rw [hl]
      have hh := fun L1 L s hs hk => hull_sv N w0 l hl0 (by omega) (s := s) hs (L1 := L1) (L := L) hk
      unfold sodV sdL at hop' ⊢
      repeat' (first | (refine GiP ?_; first | (refine Znh ?_) | (with_reducible refine Znl ?_)) | (refine GiW ?_; first | (refine Zsq fun K hK => ?_) | (refine ZrN 0 fun _ => ?_; refine Zal 2 fun b2 => ?_; refine Zal 3 fun b3 => ?_; refine Zal 4 fun b4 => ?_; refine Zal 5 fun b5 => ?_) | (refine ZrN 1 fun _ => ?_; refine OPS_deferA rfl rfl ?_) | (refine ZrN 2 fun _ => ?_; refine Zv Zla ?_; refine Zv Val_makeFunc ?_; refine OPS_retKS (Enters_fn rfl) (hop' b3 _ (by repeat (first | exact Sub.refl _ | assumption | exact Sub.left | apply Sub.cons | apply Sub.sv | apply Sub.app))) rfl rfl rfl (fun v8 L8 h8 => ?_); obtain ⟨bb, mm, rfl, rfl⟩ := h8; refine Zcl (Enters_fn rfl) (htold bb mm _ (by repeat (first | exact Sub.refl _ | assumption | exact Sub.left | apply Sub.cons | apply Sub.sv | apply Sub.app))) ?_; refine Zv Zav ?_) | (refine ZrN 3 fun _ => ?_; refine Zv Zmv ?_; refine Zv Val_makeFunc ?_; refine Zv Zxbu ?_; refine OPS_retKS (Enters_fn rfl) (hall bb mm b3 _ (by repeat (first | exact Sub.refl _ | assumption | exact Sub.left | apply Sub.cons | apply Sub.sv | apply Sub.app)) (by repeat (first | exact Sub.refl _ | assumption | exact Sub.left | (with_reducible refine Sub.pick (by repeat (first | exact Pick.here | apply Pick.there)) ?_) | apply Sub.cons | apply Sub.sv | apply Sub.app))) rfl rfl rfl (fun v11 L11 h11 => ?_); obtain ⟨s11, rfl, hs11, rfl⟩ := h11; refine Zcl (Enters_fn rfl) (hh _ _ s11 hs11 (by repeat (first | exact Wk.refl _ | apply Wk.keep1 | apply Wk.drop | apply Wk.sv | apply Wk.svD | apply Wk.appD))) ?_; refine Zst ?_; refine Zst ?_) | (with_reducible apply WP_ret)) | (refine Zhn ?_) | (refine Zhr ?_))
      (refine QLeave_ret ?_; refine Lv_ans0 N w0 ?_; refine Lv_nil rfl (.cellN rfl (by repeat (first | exact Mem.here | assumption | apply Mem.there | apply Mem.sv | apply Mem.app)) (.here (.cons (.cons .nil))) (.cell1 rfl (by repeat (first | exact Mem.here | assumption | apply Mem.there | apply Mem.sv | apply Mem.app)) rfl .nil)) rfl ?_; exact ⟨rfl, (by repeat (first | exact Wk.refl _ | apply Wk.keep1 | apply Wk.drop | apply Wk.sv | apply Wk.svD | apply Wk.appD))⟩)
  · have hno : vB g.s = false ∨ SpitOk g.s spit = false := by
      cases h1 : vB g.s <;> cases h2 : SpitOk g.s spit <;> simp_all
    have hz : CostV g.s spit = (0, 0) := by unfold CostV; rw [if_neg (errE_no hno)]
    have hop' := fun b3 L h => open_no (hop b3 L h) hno
    rw [hz]
    unfold sodV sdL at hop' ⊢
    repeat' (first | (refine GiP ?_; first | (refine Znh ?_) | (with_reducible refine Znl ?_) | (refine Zatd 6 ?_; refine Zv Zav ?_)) | (refine GiW ?_; first | (refine Zsq fun K hK => ?_) | (refine ZrN 0 fun _ => ?_; refine Zal 2 fun b2 => ?_; refine Zal 3 fun b3 => ?_; refine Zal 4 fun b4 => ?_; refine Zal 5 fun b5 => ?_) | (refine ZrN 1 fun _ => ?_; refine OPS_deferA rfl rfl ?_) | (refine ZrN 2 fun _ => ?_; refine Zv Zla ?_; refine Zv Val_makeFunc ?_; refine OPS_pan (Enters_fn rfl) (hop' b3 _ (by repeat (first | exact Sub.refl _ | assumption | exact Sub.left | apply Sub.cons | apply Sub.sv | apply Sub.app))) rfl rfl ?_) | (refine ZrN 3 fun _ => ?_; refine Zv Zmv ?_; refine Zv Val_makeFunc ?_; refine Zv Zxbu ?_) | (with_reducible apply WP_ret)) | (refine Zhn ?_) | (refine Zst ?_; refine Zst ?_) | (refine Zhr ?_) | (refine Zhp ?_))
    all_goals ((try refine HThen.panic (by assumption) ?_); refine QLeave_panic ?_; refine Lv_ans1 N w0 (by repeat (first | exact Up.here | apply Up.there | apply Up.sv)) ?_; refine Lv_nil rfl (.cellN rfl (by repeat (first | exact Mem.here | assumption | apply Mem.there | apply Mem.sv | apply Mem.app)) (.here (.cons (.cons .nil))) (.cell1 rfl (by repeat (first | exact Mem.here | assumption | apply Mem.there | apply Mem.sv | apply Mem.app)) rfl .nil)) rfl ?_; exact ⟨rfl, (by repeat (first | exact Wk.refl _ | apply Wk.keep1 | apply Wk.drop | apply Wk.sv | apply Wk.svD | apply Wk.appD))⟩)
theorem Need1_ret (g : Fg) (b3 : Nat) (day : Int) (b m : Nat) (L' : Hp) (hS : Sub ((b, Blk 128 (faceL { g with b := b, m := m })) :: [(b3, Blk 3 [.int .i64 day])]) L') (hv : VS g.s) :
    Ret Try.prog N w0 L' 59 (.pointer (some ⟨b, 0, none⟩) :: [.pointer (some ⟨b3, 0, none⟩)]).toArray (.bool (DayOk g.s day)) := by
  have hnd := hv.nd
  have m1 := hS.mem .here
  have m2 := hS.mem (.there .here)
  have hid := fun L hm => isDay_ret N w0 L { g with b := b, m := m } day hm (by show g.s.days.length ≤ 1000; omega)
  refine tri_of_WP Try.func59 rfl (n := 7) rfl (by simp) ?_
  repeat' (first | (refine GiP ?_; first | (refine Znh ?_) | (with_reducible refine Znl ?_)) | (refine GiW ?_; first | (refine Zsq fun K hK => ?_) | (refine ZrN 0 fun _ => ?_; refine Zv Zab ?_) | (refine ZrN 1 fun _ => ?_; refine Zv Zmv ?_; refine Zv Zld ?_; refine Zcl (Enters_fn rfl) (hid _ (by repeat (first | exact Mem.here | assumption | apply Mem.there | apply Mem.sv | apply Mem.app))) ?_; refine Zv Zab ?_) | (with_reducible apply WP_ret)) | (refine Zhn ?_) | (refine Zhr ?_))
  exact QBody_ret1 rfl (rfl : _ = Value.bool _) ⟨rfl, rfl⟩
set_option maxHeartbeats 2000000 in
theorem Need_ret (L : Hp) (g : Fg) (hA : SodAt N w0 g) (hb1 : g.s.days.length ≤ 1000) (day : Int) :
    Ret Try.prog N w0 L 18 [sodV g, .int .i64 day].toArray (.tuple [.agg [.int .i64 (NeedV g.s day).1, .int .i64 (NeedV g.s day).2].toArray, .int .i64 (errE g.s (DayOk g.s day))].toArray) := by
  refine Ret.fgt ?_
  refine tri_of_WPL Try.func18 rfl (n := _) rfl (by simp) ?_
  have hop : ∀ (b3 : Nat) (L : Hp), Sub [(b3, Blk 3 [.int .i64 day])] L → OpenR N w0 g (DayOk g.s day) 59 [.pointer (some ⟨b3, 0, none⟩)] L := fun b3 L h =>
    open_tri N w0 L g hA hb1 _ 59 _ _ h (fun b m L' h h2 => Need1_ret N w0 g b3 day b m L' h h2)
  by_cases hok : vB g.s = true ∧ DayOk g.s day = true
  · obtain ⟨hvb, hdo⟩ := hok
    have hv := VS_of hvb
    obtain ⟨j, rfl, hj⟩ := DayOk_nat hdo
    have hop' := fun b3 L h => open_okc (hop b3 L h) hvb hdo
    have hA' : ∀ b m, SodAt N w0 { g with b := b, m := m } := fun b m => ⟨hA.spits, hA.days, hA.logs, hA.cap1, hA.cap3⟩
    cases h0 : someB g.s with
    | false =>
      have he : errE g.s (DayOk g.s j) = 10 := errE_10 hvb hdo h0
      have hz : NeedV g.s j = (0, 0) := by unfold NeedV; rw [he, if_neg (by omega)]
      have htold := fun b m L hS => told_no N w0 L { g with b := b, m := m } hS hv (hA' b m) h0
      rw [he, hz]
      unfold sodV sdL at hop' ⊢
      repeat' (first | (refine GiP ?_; first | (refine Znh ?_) | (with_reducible refine Znl ?_) | (refine Zatd 6 ?_; refine Zal 6 fun b6 => ?_; refine Zst ?_)) | (refine GiW ?_; first | (refine Zsq fun K hK => ?_) | (refine ZrN 0 fun _ => ?_; refine Zal 2 fun b2 => ?_; refine Zal 3 fun b3 => ?_; refine Zal 4 fun b4 => ?_; refine Zal 5 fun b5 => ?_) | (refine ZrN 1 fun _ => ?_; refine OPS_deferA rfl rfl ?_) | (refine ZrN 2 fun _ => ?_; refine Zv Zla ?_; refine Zv Val_makeFunc ?_; refine OPS_retKS (Enters_fn rfl) (hop' b3 _ (by repeat (first | exact Sub.refl _ | assumption | exact Sub.left | apply Sub.cons | apply Sub.sv | apply Sub.app))) rfl rfl rfl (fun v8 L8 h8 => ?_); obtain ⟨bb, mm, rfl, rfl⟩ := h8; refine OPS_pan (Enters_fn rfl) (htold bb mm _ (by repeat (first | exact Sub.refl _ | assumption | exact Sub.left | apply Sub.cons | apply Sub.sv | apply Sub.app))) rfl rfl ?_) | (refine ZrN 3 fun _ => ?_; refine Zv Zld ?_; refine Zv Val_makeFunc ?_; refine Zv Zxbu ?_) | (with_reducible apply WP_ret)) | (refine Zhn ?_) | (refine Zst ?_; refine Zst ?_) | (refine Zhr ?_) | (refine Zhp ?_))
      all_goals ((try refine HThen.panic (by assumption) ?_); refine QLeave_panic ?_; refine Lv_ans1 N w0 (by repeat (first | exact Up.here | apply Up.there | apply Up.sv)) ?_; refine Lv_nil rfl (.cellN rfl (by repeat (first | exact Mem.here | assumption | apply Mem.there | apply Mem.sv | apply Mem.app)) (.here (.cons (.cons .nil))) (.cell1 rfl (by repeat (first | exact Mem.here | assumption | apply Mem.there | apply Mem.sv | apply Mem.app)) rfl .nil)) rfl ?_; exact ⟨rfl, (by repeat (first | exact Wk.refl _ | apply Wk.keep1 | apply Wk.drop | apply Wk.sv | apply Wk.svD | apply Wk.appD))⟩)
    | true =>
      have he : errE g.s (DayOk g.s j) = 0 := errE_1 hvb hdo h0
      have hz : NeedV g.s j = needV g.s j := by unfold NeedV; rw [he, if_pos rfl]; simp
      have htold := fun b m L hS => told_ret N w0 L { g with b := b, m := m } hS hv (hA' b m) h0
      have hall := fun b m b2 b3 b6 L hS hN => allS_tri N w0 L { g with b := b, m := m } hS hv (hA' b m) 60 [.pointer (some ⟨b6, 0, none⟩), .pointer (some ⟨b2, 0, none⟩), .pointer (some ⟨b3, 0, none⟩)] (needR g.s j) (NdN b6 b2 b3 j { g with b := b, m := m }) hN (fun x y z hm L' hS' => needM_ret N w0 { g with b := b, m := m } hv (hA' b m) j hj b6 b2 b3 x y z hm L' hS')
      have hne : toldC g.s ≠ [] := someB_told.1 h0
      have hcnt := toldC_count hv
      rw [he, hz]
      unfold needV
      obtain ⟨l, hl⟩ : ∃ l, (toldC g.s).map (needR g.s j) = l := ⟨_, rfl⟩
      have hll : (toldC g.s).length = l.length := by rw [← hl, List.length_map]
      have hl0 : l ≠ [] := by rw [← hl]; simpa using hne
      dsimp only [NdN] at hall
      unfold sdL at hall
      rw [hl, hll] at hall
      rw [hll] at hcnt
      rw [hl]
      have hh := fun L1 L s hs hk => hull_sv N w0 l hl0 (by omega) (s := s) hs (L1 := L1) (L := L) hk
      unfold sodV sdL at hop' ⊢
      repeat' (first | (refine GiP ?_; first | (refine Znh ?_) | (with_reducible refine Znl ?_)) | (refine GiW ?_; first | (refine Zsq fun K hK => ?_) | (refine ZrN 0 fun _ => ?_; refine Zal 2 fun b2 => ?_; refine Zal 3 fun b3 => ?_; refine Zal 4 fun b4 => ?_; refine Zal 5 fun b5 => ?_) | (refine ZrN 1 fun _ => ?_; refine OPS_deferA rfl rfl ?_) | (refine ZrN 2 fun _ => ?_; refine Zv Zla ?_; refine Zv Val_makeFunc ?_; refine OPS_retKS (Enters_fn rfl) (hop' b3 _ (by repeat (first | exact Sub.refl _ | assumption | exact Sub.left | apply Sub.cons | apply Sub.sv | apply Sub.app))) rfl rfl rfl (fun v8 L8 h8 => ?_); obtain ⟨bb, mm, rfl, rfl⟩ := h8; refine Zcl (Enters_fn rfl) (htold bb mm _ (by repeat (first | exact Sub.refl _ | assumption | exact Sub.left | apply Sub.cons | apply Sub.sv | apply Sub.app))) ?_; refine Zal 6 fun b6 => ?_; refine Zst ?_) | (refine ZrN 3 fun _ => ?_; refine Zv Zld ?_; refine Zv Val_makeFunc ?_; refine Zv Zxbu ?_; refine OPS_retKS (Enters_fn rfl) (hall bb mm b2 b3 b6 _ (by repeat (first | exact Sub.refl _ | assumption | exact Sub.left | apply Sub.cons | apply Sub.sv | apply Sub.app)) (by repeat (first | exact Sub.refl _ | assumption | exact Sub.left | (with_reducible refine Sub.pick (by repeat (first | exact Pick.here | apply Pick.there)) ?_) | apply Sub.cons | apply Sub.sv | apply Sub.app))) rfl rfl rfl (fun v11 L11 h11 => ?_); obtain ⟨s11, rfl, hs11, rfl⟩ := h11; refine Zcl (Enters_fn rfl) (hh _ _ s11 hs11 (by repeat (first | exact Wk.refl _ | apply Wk.keep1 | apply Wk.drop | apply Wk.sv | apply Wk.svD | apply Wk.appD))) ?_; refine Zst ?_; refine Zst ?_) | (with_reducible apply WP_ret)) | (refine Zhn ?_) | (refine Zhr ?_))
      (refine QLeave_ret ?_; refine Lv_ans0 N w0 ?_; refine Lv_nil rfl (.cellN rfl (by repeat (first | exact Mem.here | assumption | apply Mem.there | apply Mem.sv | apply Mem.app)) (.here (.cons (.cons .nil))) (.cell1 rfl (by repeat (first | exact Mem.here | assumption | apply Mem.there | apply Mem.sv | apply Mem.app)) rfl .nil)) rfl ?_; exact ⟨rfl, (by repeat (first | exact Wk.refl _ | apply Wk.keep1 | apply Wk.drop | apply Wk.sv | apply Wk.svD | apply Wk.appD))⟩)
  · have hno : vB g.s = false ∨ DayOk g.s day = false := by
      cases h1 : vB g.s <;> cases h2 : DayOk g.s day <;> simp_all
    have hz : NeedV g.s day = (0, 0) := by unfold NeedV; rw [if_neg (errE_no hno)]
    have hop' := fun b3 L h => open_no (hop b3 L h) hno
    rw [hz]
    unfold sodV sdL at hop' ⊢
    repeat' (first | (refine GiP ?_; first | (refine Znh ?_) | (with_reducible refine Znl ?_) | (refine Zatd 6 ?_; refine Zal 6 fun b6 => ?_; refine Zst ?_)) | (refine GiW ?_; first | (refine Zsq fun K hK => ?_) | (refine ZrN 0 fun _ => ?_; refine Zal 2 fun b2 => ?_; refine Zal 3 fun b3 => ?_; refine Zal 4 fun b4 => ?_; refine Zal 5 fun b5 => ?_) | (refine ZrN 1 fun _ => ?_; refine OPS_deferA rfl rfl ?_) | (refine ZrN 2 fun _ => ?_; refine Zv Zla ?_; refine Zv Val_makeFunc ?_; refine OPS_pan (Enters_fn rfl) (hop' b3 _ (by repeat (first | exact Sub.refl _ | assumption | exact Sub.left | apply Sub.cons | apply Sub.sv | apply Sub.app))) rfl rfl ?_) | (refine ZrN 3 fun _ => ?_; refine Zv Zld ?_; refine Zv Val_makeFunc ?_; refine Zv Zxbu ?_) | (with_reducible apply WP_ret)) | (refine Zhn ?_) | (refine Zst ?_; refine Zst ?_) | (refine Zhr ?_) | (refine Zhp ?_))
    all_goals ((try refine HThen.panic (by assumption) ?_); refine QLeave_panic ?_; refine Lv_ans1 N w0 (by repeat (first | exact Up.here | apply Up.there | apply Up.sv)) ?_; refine Lv_nil rfl (.cellN rfl (by repeat (first | exact Mem.here | assumption | apply Mem.there | apply Mem.sv | apply Mem.app)) (.here (.cons (.cons .nil))) (.cell1 rfl (by repeat (first | exact Mem.here | assumption | apply Mem.there | apply Mem.sv | apply Mem.app)) rfl .nil)) rfl ?_; exact ⟨rfl, (by repeat (first | exact Wk.refl _ | apply Wk.keep1 | apply Wk.drop | apply Wk.sv | apply Wk.svD | apply Wk.appD))⟩)
end
end Go.Proofs.Ytkaadefndcbdnaa
