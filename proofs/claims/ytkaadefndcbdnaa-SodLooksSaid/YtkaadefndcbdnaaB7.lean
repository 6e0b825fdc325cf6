/- Package sod: its exported functions: when all is finished, whether a count can be. -/
import Derived.Test.YtkaadefndcbdnaaB6
namespace Go.Proofs.Ytkaadefndcbdnaa
open Go.RowKit
def FitsOk (s : Sd) (day : Int) (x : Sp) : Bool := DayOk s day && isSpanB x 0 200
def FitsV (s : Sd) (day : Int) (x : Sp) : Int := if errE s (FitsOk s day x) = 0 then fitsV s day.toNat x else 0
theorem any_not_all {α : Type} (l : List α) (p : α → Bool) : (!l.any fun u => !p u) = l.all p := by
  induction l with
  | nil => rfl
  | cons x l ih => simp only [List.any_cons, List.all_cons, ← ih, Bool.not_or, Bool.not_not]
theorem Wk.nil_ : ∀ L : Hp, Wk L []
  | [] => .refl _
  | _ :: L => .drop (Wk.nil_ L)
theorem Wk.sv0 {E : TypeId} {sz k : Nat} {xs : List Value} {s : Option (Nat × Nat)} {L : Hp} : Wk (svH E sz k xs s L) (svH E sz k xs s []) := by
  cases s with
  | none => exact Wk.nil_ L
  | some p => exact .keep1 (Wk.nil_ L)
attribute [local irreducible] AnyO AnyB QAny QB EWalk AWalk Ev WP OPS QThen QBlock QScope QLoop QBody Val New Turn Tri Enters PostA Blk Ro
attribute [local irreducible] AnyC QC
section
variable (N : Nat) (w0 : World)
set_option maxHeartbeats 2000000 in
theorem Done_ret (L : Hp) (g : Fg) (hA : SodAt N w0 g) (hb1 : g.s.days.length ≤ 1000) :
    Ret Try.prog N w0 L 24 [sodV g].toArray (.tuple [.agg [.int .i64 (DoneV g.s).1, .int .i64 (DoneV g.s).2].toArray, .int .i64 (errE g.s true)].toArray) := by
  refine Ret.fgt ?_
  refine tri_of_WPL Try.func24 rfl (n := _) rfl (by simp) ?_
  have hop : ∀ (L : Hp), OpenR N w0 g true 77 [] L := fun L => open_tri N w0 L g hA hb1 _ 77 [] [] Sub.nil (fun b m L' _ _ => always_ret N w0 L' _)
  cases hvb : vB g.s with
  | true =>
    have hv := VS_of hvb
    have hop' := fun L => open_okc (hop L) hvb rfl
    have hA' : ∀ b m, SodAt N w0 { g with b := b, m := m } := fun b m => ⟨hA.spits, hA.days, hA.logs, hA.cap1, hA.cap3⟩
    cases h0 : someB g.s with
    | false =>
      have he : errE g.s true = 10 := errE_10 hvb rfl h0
      have hz : DoneV g.s = (0, 0) := by unfold DoneV; rw [he, if_neg (by omega)]
      have htold := fun b m L hS => told_no N w0 L { g with b := b, m := m } hS hv (hA' b m) h0
      rw [he, hz]
      unfold sodV sdL at hop' ⊢
      repeat' (first | (refine GiP ?_; first | (refine Znh ?_) | (with_reducible refine Znl ?_) | (refine Zatd 4 ?_; refine Zal 4 fun b4 => ?_; refine Zst ?_)) | (refine GiW ?_; first | (refine Zsq fun K hK => ?_) | (refine ZrN 0 fun _ => ?_; refine Zal 1 fun b1 => ?_; refine Zal 2 fun b2 => ?_; refine Zal 3 fun b3 => ?_) | (refine ZrN 1 fun _ => ?_; refine OPS_deferA rfl rfl ?_) | (refine ZrN 2 fun _ => ?_; refine Zv Zla ?_; refine OPS_retKS (Enters_fn rfl) (hop' _) rfl rfl rfl (fun v8 L8 h8 => ?_); obtain ⟨bb, mm, rfl, rfl⟩ := h8; refine OPS_pan (Enters_fn rfl) (htold bb mm _ (by repeat (first | exact Sub.refl _ | assumption | exact Sub.left | apply Sub.cons | apply Sub.sv | apply Sub.app))) rfl rfl ?_) | (refine ZrN 3 fun _ => ?_; refine Zv Zfa ?_; refine Zv Zld ?_; refine Zv Zxlen ?_; refine Zal 5 fun b5 => ?_; refine Zst ?_) | (refine ZrN 4 fun _ => ?_; refine Zv Zld ?_; refine Zv Val_makeFunc ?_; refine Zv Zxbu ?_) | (with_reducible apply WP_ret)) | (refine Zhn ?_) | (refine Zst ?_; refine Zst ?_) | (refine Zhr ?_) | (refine Zhp ?_))
      all_goals ((try refine HThen.panic (by assumption) ?_); refine QLeave_panic ?_; refine Lv_ans1 N w0 (by repeat (first | exact Up.here | apply Up.there | apply Up.sv)) ?_; refine Lv_nil rfl (.cellN rfl (by repeat (first | exact Mem.here | assumption | apply Mem.there | apply Mem.sv | apply Mem.app)) (.here (.cons (.cons .nil))) (.cell1 rfl (by repeat (first | exact Mem.here | assumption | apply Mem.there | apply Mem.sv | apply Mem.app)) rfl .nil)) rfl ?_; exact ⟨rfl, (by repeat (first | exact Wk.refl _ | apply Wk.keep1 | apply Wk.drop | apply Wk.sv | apply Wk.svD | apply Wk.appD))⟩)
    | true =>
      have he : errE g.s true = 0 := errE_1 hvb rfl h0
      have hz : DoneV g.s = doneV g.s := by unfold DoneV; rw [he, if_pos rfl]
      have htold := fun b m L hS => told_ret N w0 L { g with b := b, m := m } hS hv (hA' b m) h0
      have hall := fun b m b1 b4 b5 L hS hN => allS_tri N w0 L { g with b := b, m := m } hS hv (hA' b m) 78 [.pointer (some ⟨b4, 0, none⟩), .pointer (some ⟨b1, 0, none⟩), .pointer (some ⟨b5, 0, none⟩)] (doneR g.s) (NdN b4 b1 b5 g.s.days.length { g with b := b, m := m }) hN (fun x y z hm L' hS' => doneM_ret N w0 { g with b := b, m := m } hv (hA' b m) b4 b1 b5 x y z hm L' hS')
      have hne : toldC g.s ≠ [] := someB_told.1 h0
      have hcnt := toldC_count hv
      rw [he, hz]
      unfold doneV
      obtain ⟨l, hl⟩ : ∃ l, (toldC g.s).map (doneR g.s) = l := ⟨_, rfl⟩
      have hll : (toldC g.s).length = l.length := by rw [← hl, List.length_map]
      have hl0 : l ≠ [] := by rw [← hl]; simpa using hne
      dsimp only [NdN] at hall
      unfold sdL at hall
      rw [hl, hll] at hall
      rw [hll] at hcnt
      rw [hl]
      have hh := fun L1 L s hs hk => hull_sv N w0 l hl0 (by omega) (s := s) hs (L1 := L1) (L := L) hk
      unfold sodV sdL at hop' ⊢
      repeat' (first | (refine GiP ?_; first | (refine Znh ?_) | (with_reducible refine Znl ?_)) | (refine GiW ?_; first | (refine Zsq fun K hK => ?_) | (refine ZrN 0 fun _ => ?_; refine Zal 1 fun b1 => ?_; refine Zal 2 fun b2 => ?_; refine Zal 3 fun b3 => ?_) | (refine ZrN 1 fun _ => ?_; refine OPS_deferA rfl rfl ?_) | (refine ZrN 2 fun _ => ?_; refine Zv Zla ?_; refine OPS_retKS (Enters_fn rfl) (hop' _) rfl rfl rfl (fun v8 L8 h8 => ?_); obtain ⟨bb, mm, rfl, rfl⟩ := h8; refine Zcl (Enters_fn rfl) (htold bb mm _ (by repeat (first | exact Sub.refl _ | assumption | exact Sub.left | apply Sub.cons | apply Sub.sv | apply Sub.app))) ?_; refine Zal 4 fun b4 => ?_; refine Zst ?_) | (refine ZrN 3 fun _ => ?_; refine Zv Zfa ?_; refine Zv Zld ?_; refine Zv Zxlen ?_; refine Zal 5 fun b5 => ?_; refine Zst ?_) | (refine ZrN 4 fun _ => ?_; refine Zv Zld ?_; refine Zv Val_makeFunc ?_; refine Zv Zxbu ?_; refine OPS_retKS (Enters_fn rfl) (hall bb mm b1 b4 b5 _ (by repeat (first | exact Sub.refl _ | assumption | exact Sub.left | apply Sub.cons | apply Sub.sv | apply Sub.app)) (by repeat (first | exact Sub.refl _ | assumption | exact Sub.left | (with_reducible refine Sub.pick (by repeat (first | exact Pick.here | apply Pick.there)) ?_) | apply Sub.cons | apply Sub.sv | apply Sub.app))) rfl rfl rfl (fun v11 L11 h11 => ?_); obtain ⟨s11, rfl, hs11, rfl⟩ := h11; refine Zcl (Enters_fn rfl) (hh _ _ s11 hs11 (by repeat (first | exact Wk.refl _ | apply Wk.keep1 | apply Wk.drop | apply Wk.sv | apply Wk.svD | apply Wk.appD))) ?_; refine Zst ?_; refine Zst ?_) | (with_reducible apply WP_ret)) | (refine Zhn ?_) | (refine Zhr ?_))
      (refine QLeave_ret ?_; refine Lv_ans0 N w0 ?_; refine Lv_nil rfl (.cellN rfl (by repeat (first | exact Mem.here | assumption | apply Mem.there | apply Mem.sv | apply Mem.app)) (.here (.cons (.cons .nil))) (.cell1 rfl (by repeat (first | exact Mem.here | assumption | apply Mem.there | apply Mem.sv | apply Mem.app)) rfl .nil)) rfl ?_; exact ⟨rfl, (by repeat (first | exact Wk.refl _ | apply Wk.keep1 | apply Wk.drop | apply Wk.sv | apply Wk.svD | apply Wk.appD))⟩)
  | false =>
    have hz : DoneV g.s = (0, 0) := by unfold DoneV; rw [if_neg (errE_no (.inl hvb))]
    have hop' := fun L => open_no (hop L) (.inl hvb)
    rw [hz]
    unfold sodV sdL at hop' ⊢
    repeat' (first | (refine GiP ?_; first | (refine Znh ?_) | (with_reducible refine Znl ?_) | (refine Zatd 4 ?_; refine Zal 4 fun b4 => ?_; refine Zst ?_)) | (refine GiW ?_; first | (refine Zsq fun K hK => ?_) | (refine ZrN 0 fun _ => ?_; refine Zal 1 fun b1 => ?_; refine Zal 2 fun b2 => ?_; refine Zal 3 fun b3 => ?_) | (refine ZrN 1 fun _ => ?_; refine OPS_deferA rfl rfl ?_) | (refine ZrN 2 fun _ => ?_; refine Zv Zla ?_; refine OPS_pan (Enters_fn rfl) (hop' _) rfl rfl ?_) | (refine ZrN 3 fun _ => ?_; refine Zv Zfa ?_; refine Zv Zld ?_; refine Zv Zxlen ?_; refine Zal 5 fun b5 => ?_; refine Zst ?_) | (refine ZrN 4 fun _ => ?_; refine Zv Zld ?_; refine Zv Val_makeFunc ?_; refine Zv Zxbu ?_) | (with_reducible apply WP_ret)) | (refine Zhn ?_) | (refine Zst ?_; refine Zst ?_) | (refine Zhr ?_) | (refine Zhp ?_))
    all_goals ((try refine HThen.panic (by assumption) ?_); refine QLeave_panic ?_; refine Lv_ans1 N w0 (by repeat (first | exact Up.here | apply Up.there | apply Up.sv)) ?_; refine Lv_nil rfl (.cellN rfl (by repeat (first | exact Mem.here | assumption | apply Mem.there | apply Mem.sv | apply Mem.app)) (.here (.cons (.cons .nil))) (.cell1 rfl (by repeat (first | exact Mem.here | assumption | apply Mem.there | apply Mem.sv | apply Mem.app)) rfl .nil)) rfl ?_; exact ⟨rfl, (by repeat (first | exact Wk.refl _ | apply Wk.keep1 | apply Wk.drop | apply Wk.sv | apply Wk.svD | apply Wk.appD))⟩)
theorem fits1_ret (g : Fg) (b4 b5 : Nat) (day : Int) (x : Sp) (b m : Nat) (L' : Hp) (hS : Sub ((b, Blk 128 (faceL { g with b := b, m := m })) :: [(b5, Blk 28 (spL x)), (b4, Blk 3 [.int .i64 day])]) L') (hv : VS g.s) :
    Ret Try.prog N w0 L' 63 (.pointer (some ⟨b, 0, none⟩) :: [.pointer (some ⟨b4, 0, none⟩), .pointer (some ⟨b5, 0, none⟩)]).toArray (.bool (FitsOk g.s day x)) := by
  have hnd := hv.nd
  have m1 := hS.mem .here
  have m2 := hS.mem (.there .here)
  have m3 := hS.mem (.there (.there .here))
  unfold spL at m3
  have hid := fun L hm => isDay_ret N w0 L { g with b := b, m := m } day hm (by show g.s.days.length ≤ 1000; omega)
  have hic := fun L => isCount_ret N w0 L x
  refine tri_of_WP Try.func63 rfl (n := 12) rfl (by simp) ?_
  repeat' (first | (refine GiP ?_; first | (refine Znh ?_) | (with_reducible refine Znl ?_) | (refine Zatd 11 ?_; (first | (refine Zv Zxpt ?_) | (refine Zv Zxpf ?_)); refine Zv Zab ?_) | (refine Zatd 9 ?_; first | refine Zsk ?_ | (refine Zv Zla ?_)) | (refine Zatd 10 ?_; first | refine Zsk ?_ | (refine Zcl (Enters_fn rfl) (hic _) ?_)) | (refine Zsk ?_) | (refine Zsp (fun hc => ?_) (fun hc => ?_) <;> (try (exfalso; omega)))) | (refine GiW ?_; first | (refine Zsq fun K hK => ?_) | (refine ZrN 0 fun _ => ?_; refine Zv Zab ?_) | (refine ZrG 1 ?_; refine Zv Zmv ?_; refine Zv Zld ?_; refine Zcl (Enters_fn rfl) (hid _ (by repeat (first | exact Mem.here | assumption | apply Mem.there | apply Mem.sv | apply Mem.app))) ?_; refine Zv Zmb ?_) | (with_reducible apply WP_ret)) | (refine Zhn ?_) | (refine Zhr ?_))
  all_goals exact QBody_ret1 rfl (rfl : _ = Value.bool _) ⟨by simp [FitsOk, DayOk, *], rfl⟩
theorem sods_tri2 (L : Hp) (g : Fg) (hS : Sub (Fk g) L) (hv : VS g.s) (hA : SodAt N w0 g) (d : Nat) (hd : d < g.s.days.length) :
    Tri Try.prog N w0 L 49 [.pointer (some ⟨g.b, 0, none⟩), .int .i64 (d : Int)].toArray fun x L' => ∃ v, x = .returned v ∧ ∃ A c s, v = .slice A ((toldC g.s).map (cutR g.s d)).length c ∧ L' = svH 28 2 (toldC g.s).length (((toldC g.s).map (cutR g.s d)).flatMap spL) s L ∧ ∀ L1, Wk L1 (svH 28 2 (toldC g.s).length (((toldC g.s).map (cutR g.s d)).flatMap spL) s []) → RdRows N w0 L1 A 2 (((toldC g.s).map (cutR g.s d)).map spL) := by
  refine (sods_tri N w0 L g hS hv hA d hd).mono ?_
  rintro x L' ⟨v, rfl, s, rfl, hs, rfl⟩
  obtain ⟨A, c, h1, h2⟩ := RdRows.sv (E := 28) (by omega) hs
  exact ⟨_, rfl, A, c, s, by rw [h1, List.length_map], rfl, fun L1 hw => h2 N w0 L1 _ hw (by rw [List.flatMap_def]) (map_len (f := spL) (fun _ => rfl) _)⟩
set_option maxHeartbeats 2000000 in
theorem Fits_ret (L : Hp) (g : Fg) (hA : SodAt N w0 g) (hb1 : g.s.days.length ≤ 1000) (day : Int) (x : Sp) :
    Ret Try.prog N w0 L 20 [sodV g, .int .i64 day, .agg [.int .i64 x.1, .int .i64 x.2].toArray].toArray (.tuple [.int .i64 (FitsV g.s day x), .int .i64 (errE g.s (FitsOk g.s day x))].toArray) := by
  refine Ret.fgt ?_
  refine tri_of_WPL Try.func20 rfl (n := _) rfl (by simp) ?_
  have hop : ∀ (b4 b5 : Nat) (L : Hp), Sub [(b5, Blk 28 (spL x)), (b4, Blk 3 [.int .i64 day])] L → OpenR N w0 g (FitsOk g.s day x) 63 [.pointer (some ⟨b4, 0, none⟩), .pointer (some ⟨b5, 0, none⟩)] L := fun b4 b5 L h =>
    open_tri N w0 L g hA hb1 _ 63 _ _ h (fun b m L' h h2 => fits1_ret N w0 g b4 b5 day x b m L' h h2)
  by_cases hok : vB g.s = true ∧ FitsOk g.s day x = true
  · obtain ⟨hvb, hdo⟩ := hok
    have hv := VS_of hvb
    have hop' := fun b4 b5 L h => open_okc (hop b4 b5 L h) hvb hdo
    have hdo2 := hdo
    unfold FitsOk at hdo2
    rw [Bool.and_eq_true] at hdo2
    obtain ⟨j, rfl, hj⟩ := DayOk_nat hdo2.1
    have hA' : ∀ b m, SodAt N w0 { g with b := b, m := m } := fun b m => ⟨hA.spits, hA.days, hA.logs, hA.cap1, hA.cap3⟩
    cases h0 : someB g.s with
    | false =>
      have he : errE g.s (FitsOk g.s j x) = 10 := errE_10 hvb hdo h0
      have hz : FitsV g.s j x = 0 := by unfold FitsV; rw [he, if_neg (by omega)]
      have htold := fun b m L hS => told_no N w0 L { g with b := b, m := m } hS hv (hA' b m) h0
      rw [he, hz]
      unfold sodV sdL spL at *
      repeat' (first | (refine GiP ?_; first | (refine Znh ?_) | (with_reducible refine Znl ?_) | (refine Zatd 19 ?_; refine Zv Zxnot ?_; refine Zv Zab ?_) | (refine Zatd 20 ?_; refine Zv Zab ?_) | (refine Zatd 11 ?_; refine OPS_retKS (Enters_fn rfl) (hop' b4 b5 _ (by repeat (first | exact Sub.refl _ | assumption | exact Sub.left | apply Sub.cons | apply Sub.sv | apply Sub.app))) rfl rfl rfl (fun v8 L8 h8 => ?_); obtain ⟨bb, mm, rfl, rfl⟩ := h8) | (refine Zatd 12 ?_; refine OPS_pan (Enters_fn rfl) (htold bb mm _ (by repeat (first | exact Sub.refl _ | assumption | exact Sub.left | apply Sub.cons | apply Sub.sv | apply Sub.app))) rfl rfl ?_) | (refine Zatd 8 ?_; refine Zv Zav ?_)) | (refine GiW ?_; first | (refine Zsq fun K hK => ?_) | (refine ZrN 0 fun _ => ?_; refine Zal 3 fun b3 => ?_; refine Zal 4 fun b4 => ?_; refine Zal 5 fun b5 => ?_; refine Zv Zai ?_; refine Zal 7 fun b7 => ?_) | (refine ZrN 1 fun _ => ?_; refine OPS_deferA rfl rfl ?_) | (refine ZrN 3 fun _ => ?_; refine Zv Zmv ?_; refine Zv Val_makeFunc ?_) | (refine ZrN 4 fun _ => ?_; refine Zv Zai ?_; refine Zst ?_) | (refine ZrN 5 fun _ => ?_; refine Zv Zmv ?_; refine Zv Val_makeFunc ?_) | (refine ZrN 6 fun _ => ?_; refine Zv Zai ?_; refine Zst ?_) | (refine ZrN 7 fun _ => ?_; refine Zv Zai ?_; refine Zst ?_) | (refine WP_cond_true rfl ?_) | (refine WP_cond_false rfl ?_) | (refine Zcd (fun hc => ?_) (fun hc => ?_) <;> (try (exfalso; omega))) | (with_reducible apply WP_skip) | (with_reducible apply WP_block) | (with_reducible apply WP_ret) | (refine WP_drawnC (id := 2) ([(b7, Blk 31 [.int .i64 0])]) ((b5, Blk 28 [.int .i64 x.1, .int .i64 x.2]) :: (b4, Blk 3 [.int .i64 j]) :: (b3, Blk 26 [.slice g.A1 g.s.spits.length g.c1, .slice g.A2 g.s.days.length g.c2, .slice g.A3 g.s.logs.length g.c3]) :: L) [4] [0, 1, 4] [] [13] (k := 4) (k2 := 0) (by repeat (first | exact List.Perm.refl _ | assumption | (with_reducible refine Perm.pick (by repeat (first | exact Pick.here | apply Pick.there)) ?_))) (by kernel_rfl) prog_mixed (by kernel_rfl) (by kernel_rfl) rfl ?_; refine Zew rfl Zla ?_; refine Zew rfl Val_makeFunc ?_; refine Zew rfl Zld ?_)) | (with_reducible apply EWalk_nil) | (refine GiC ?_; first | (refine AnyC_done (by repeat (first | exact Sub.refl _ | assumption | exact Sub.left | apply Sub.sv | apply Sub.cons | apply Sub.app)) (by kernel_rfl) ?_) | (refine AnyC_1 2 (by repeat (first | exact Sub.refl _ | assumption | exact Sub.left | apply Sub.sv | apply Sub.cons | apply Sub.app)) (by decide +kernel) rfl ?_) | (refine AnyC_1 3 (by repeat (first | exact Sub.refl _ | assumption | exact Sub.left | apply Sub.sv | apply Sub.cons | apply Sub.app)) (by decide +kernel) rfl ?_) | (refine AnyC_1 5 (by repeat (first | exact Sub.refl _ | assumption | exact Sub.left | apply Sub.sv | apply Sub.cons | apply Sub.app)) (by decide +kernel) rfl ?_) | (refine AnyC_1 6 (by repeat (first | exact Sub.refl _ | assumption | exact Sub.left | apply Sub.sv | apply Sub.cons | apply Sub.app)) (by decide +kernel) rfl ?_)) | (refine Zhn ?_) | (with_reducible apply QBlock_normal) | (refine Zhr ?_) | (with_reducible apply QBlock_ret) | (refine Zhp ?_) | (with_reducible apply QBlock_panic) | (refine AWalk_0 ?_) | (with_reducible apply QC_normal) | (refine QC_panic (fun e9 he9 => ?_)))
      all_goals ((try refine HThen.panic (by assumption) ?_); refine QLeave_panic ?_; refine Lv_ans1 N w0 (by repeat (first | exact Up.here | apply Up.there | apply Up.sv)) ?_; refine Lv_nil rfl (.tmp ((he9 6 rfl).trans (rfl : _ = Value.int _ _)) (.cell1 ((he9 7 rfl).trans rfl) (by repeat (first | exact Mem.here | assumption | apply Mem.there | apply Mem.sv | apply Mem.app)) rfl .nil)) rfl ?_; exact ⟨rfl, (by repeat (first | exact Wk.refl _ | apply Wk.keep1 | apply Wk.drop | apply Wk.sv | apply Wk.svD | apply Wk.appD))⟩)
    | true =>
      have he : errE g.s (FitsOk g.s j x) = 0 := errE_1 hvb hdo h0
      have hz : FitsV g.s j x = fitsV g.s j x := by unfold FitsV; rw [he, if_pos rfl]; simp
      have htold := fun b m L hS => told_ret N w0 L { g with b := b, m := m } hS hv (hA' b m) h0
      have hsods := fun b m L hS => sods_tri2 N w0 L { g with b := b, m := m } hS hv (hA' b m) j hj
      have hcnt := toldC_count hv
      obtain ⟨l, hl⟩ : ∃ l, (toldC g.s).map (cutR g.s j) = l := ⟨_, rfl⟩
      have hll : (toldC g.s).length = l.length := by rw [← hl, List.length_map]
      rw [hll] at hcnt
      have hfv : fitsV g.s j x = if l.all (fun u => decide (x.1 ≤ u.1 ∧ u.2 ≤ x.2)) then 2 else if l.any (fun u => decide (u.1 ≤ x.2 ∧ x.1 ≤ u.2)) then 1 else 0 := by
        unfold fitsV
        rw [← hl, List.all_map, List.any_map]
        rfl
      rw [he, hz, hfv]
      dsimp only at hsods
      rw [hl, hll] at hsods
      have hc2 := fun L A c hR b5 hN => cntS_ret N w0 L A c l (by omega) hR 66 [.pointer (some ⟨b5, 0, none⟩)] (fun u => !decide (x.1 ≤ u.1 ∧ u.2 ≤ x.2)) [(b5, Blk 28 (spL x))] hN (fun u _ L' hS => fits2_ret N w0 u x b5 L' hS)
      have hc3 := fun L A c hR b5 hN => cntS_ret N w0 L A c l (by omega) hR 67 [.pointer (some ⟨b5, 0, none⟩)] (fun u => decide (u.1 ≤ x.2 ∧ x.1 ≤ u.2)) [(b5, Blk 28 (spL x))] hN (fun u _ L' hS => fits3_ret N w0 u x b5 L' hS)
      have hall : (!l.any fun u => !decide (x.1 ≤ u.1 ∧ u.2 ≤ x.2)) = l.all fun u => decide (x.1 ≤ u.1 ∧ u.2 ≤ x.2) := any_not_all _ _
      obtain ⟨p1, hp1⟩ : ∃ p1, (l.any fun u => !decide (x.1 ≤ u.1 ∧ u.2 ≤ x.2)) = p1 := ⟨_, rfl⟩
      obtain ⟨p2, hp2⟩ : ∃ p2, (l.any fun u => decide (u.1 ≤ x.2 ∧ x.1 ≤ u.2)) = p2 := ⟨_, rfl⟩
      rw [hp1] at hall hc2
      rw [hp2] at hc3
      rw [← hall, hp2]
      clear hall hfv hz he hp1 hp2
      unfold sodV sdL at hop' ⊢
      unfold spL at hop' hc2 hc3
      repeat' (first | (refine GiP ?_; first | (refine Znh ?_) | (with_reducible refine Znl ?_) | (refine Zatd 11 ?_; refine OPS_retKS (Enters_fn rfl) (hop' b4 b5 _ (by repeat (first | exact Sub.refl _ | assumption | exact Sub.left | apply Sub.cons | apply Sub.sv | apply Sub.app))) rfl rfl rfl (fun v8 L8 h8 => ?_); obtain ⟨bb, mm, rfl, rfl⟩ := h8) | (refine Zatd 12 ?_; refine Zcl (Enters_fn rfl) (htold bb mm _ (by repeat (first | exact Sub.refl _ | assumption | exact Sub.left | apply Sub.cons | apply Sub.sv | apply Sub.app))) ?_) | (refine Zatd 14 ?_; refine OPS_retKS (Enters_fn rfl) (hsods bb mm _ (by repeat (first | exact Sub.refl _ | assumption | exact Sub.left | apply Sub.cons | apply Sub.sv | apply Sub.app))) rfl rfl rfl (fun v14 L14 h14 => ?_); obtain ⟨A14, c14, s14, rfl, rfl, hR14⟩ := h14) | (refine Zatd 8 ?_; refine Zv Zav ?_)) | (refine GiW ?_; first | (refine Zsq fun K hK => ?_) | (refine ZrN 0 fun _ => ?_; refine Zal 3 fun b3 => ?_; refine Zal 4 fun b4 => ?_; refine Zal 5 fun b5 => ?_; refine Zv Zai ?_; refine Zal 7 fun b7 => ?_) | (refine ZrN 1 fun _ => ?_; refine OPS_deferA rfl rfl ?_) | (refine ZrN 3 fun _ => ?_; refine Zv Zmv ?_; refine Zv Val_makeFunc ?_; (first | (refine Zcl (Enters_fn rfl) (hc2 _ A14 c14 (hR14 _ (by repeat (first | exact Wk.sv0 | apply Wk.drop))) b5 (by repeat (first | exact Sub.refl _ | assumption | exact Sub.left | apply Sub.cons | apply Sub.sv | apply Sub.app))) ?_) | (refine Zcl (Enters_fn rfl) (hc3 _ A14 c14 (hR14 _ (by repeat (first | exact Wk.sv0 | apply Wk.drop))) b5 (by repeat (first | exact Sub.refl _ | assumption | exact Sub.left | apply Sub.cons | apply Sub.sv | apply Sub.app))) ?_)); refine Zv Zxnot ?_; refine Zv Zab ?_) | (refine ZrN 4 fun _ => ?_; refine Zv Zai ?_; refine Zst ?_) | (refine ZrN 5 fun _ => ?_; refine Zv Zmv ?_; refine Zv Val_makeFunc ?_; (first | (refine Zcl (Enters_fn rfl) (hc2 _ A14 c14 (hR14 _ (by repeat (first | exact Wk.sv0 | apply Wk.drop))) b5 (by repeat (first | exact Sub.refl _ | assumption | exact Sub.left | apply Sub.cons | apply Sub.sv | apply Sub.app))) ?_) | (refine Zcl (Enters_fn rfl) (hc3 _ A14 c14 (hR14 _ (by repeat (first | exact Wk.sv0 | apply Wk.drop))) b5 (by repeat (first | exact Sub.refl _ | assumption | exact Sub.left | apply Sub.cons | apply Sub.sv | apply Sub.app))) ?_)); refine Zv Zab ?_) | (refine ZrN 6 fun _ => ?_; refine Zv Zai ?_; refine Zst ?_) | (refine ZrN 7 fun _ => ?_; refine Zv Zai ?_; refine Zst ?_) | (refine WP_cond_true rfl ?_) | (refine WP_cond_false rfl ?_) | (refine Zcd (fun hc => ?_) (fun hc => ?_) <;> (try (exfalso; omega))) | (with_reducible apply WP_skip) | (with_reducible apply WP_block) | (with_reducible apply WP_ret) | (refine WP_drawnC (id := 2) ([(b7, Blk 31 [.int .i64 0])]) ((b5, Blk 28 [.int .i64 x.1, .int .i64 x.2]) :: (b4, Blk 3 [.int .i64 j]) :: (b3, Blk 26 [.slice g.A1 g.s.spits.length g.c1, .slice g.A2 g.s.days.length g.c2, .slice g.A3 g.s.logs.length g.c3]) :: L) [4] [0, 1, 4] [] [13] (k := 4) (k2 := 0) (by repeat (first | exact List.Perm.refl _ | assumption | (with_reducible refine Perm.pick (by repeat (first | exact Pick.here | apply Pick.there)) ?_))) (by kernel_rfl) prog_mixed (by kernel_rfl) (by kernel_rfl) rfl ?_; refine Zew rfl Zla ?_; refine Zew rfl Val_makeFunc ?_; refine Zew rfl Zld ?_)) | (with_reducible apply EWalk_nil) | (refine GiC ?_; first | (refine AnyC_done (by repeat (first | exact Sub.refl _ | assumption | exact Sub.left | apply Sub.sv | apply Sub.cons | apply Sub.app)) (by kernel_rfl) ?_) | (refine AnyC_1 2 (by repeat (first | exact Sub.refl _ | assumption | exact Sub.left | apply Sub.sv | apply Sub.cons | apply Sub.app)) (by decide +kernel) rfl ?_) | (refine AnyC_1 3 (by repeat (first | exact Sub.refl _ | assumption | exact Sub.left | apply Sub.sv | apply Sub.cons | apply Sub.app)) (by decide +kernel) rfl ?_) | (refine AnyC_1 5 (by repeat (first | exact Sub.refl _ | assumption | exact Sub.left | apply Sub.sv | apply Sub.cons | apply Sub.app)) (by decide +kernel) rfl ?_) | (refine AnyC_1 6 (by repeat (first | exact Sub.refl _ | assumption | exact Sub.left | apply Sub.sv | apply Sub.cons | apply Sub.app)) (by decide +kernel) rfl ?_)) | (refine Zhn ?_) | (with_reducible apply QBlock_normal) | (refine Zhr ?_) | (with_reducible apply QBlock_ret) | (refine AWalk_0 ?_) | (with_reducible apply QC_normal))
      all_goals (refine QLeave_ret ?_; refine Lv_ans0 N w0 ?_; refine Lv_nil rfl (.tmp (rfl : _ = Value.int _ _) (.cell1 rfl (by repeat (first | exact Mem.here | assumption | apply Mem.there | apply Mem.sv | apply Mem.app)) rfl .nil)) rfl ?_; exact ⟨by first | rfl | (subst_vars; rfl), (by repeat (first | exact Wk.refl _ | apply Wk.keep1 | apply Wk.drop | apply Wk.sv | apply Wk.svD | apply Wk.appD))⟩)
  · have hno : vB g.s = false ∨ FitsOk g.s day x = false := by
      cases h1 : vB g.s <;> cases h2 : FitsOk g.s day x <;> simp_all
    have hz : FitsV g.s day x = 0 := by unfold FitsV; rw [if_neg (errE_no hno)]
    have hop' := fun b4 b5 L h => open_no (hop b4 b5 L h) hno
    rw [hz]
    unfold sodV sdL spL at *
    repeat' (first | (refine GiP ?_; first | (refine Znh ?_) | (with_reducible refine Znl ?_) | (refine Zatd 19 ?_; refine Zv Zxnot ?_; refine Zv Zab ?_) | (refine Zatd 20 ?_; refine Zv Zab ?_) | (refine Zatd 11 ?_; refine OPS_pan (Enters_fn rfl) (hop' b4 b5 _ (by repeat (first | exact Sub.refl _ | assumption | exact Sub.left | apply Sub.cons | apply Sub.sv | apply Sub.app))) rfl rfl ?_) | (refine Zatd 8 ?_; refine Zv Zav ?_)) | (refine GiW ?_; first | (refine Zsq fun K hK => ?_) | (refine ZrN 0 fun _ => ?_; refine Zal 3 fun b3 => ?_; refine Zal 4 fun b4 => ?_; refine Zal 5 fun b5 => ?_; refine Zv Zai ?_; refine Zal 7 fun b7 => ?_) | (refine ZrN 1 fun _ => ?_; refine OPS_deferA rfl rfl ?_) | (refine ZrN 3 fun _ => ?_; refine Zv Zmv ?_; refine Zv Val_makeFunc ?_) | (refine ZrN 4 fun _ => ?_; refine Zv Zai ?_; refine Zst ?_) | (refine ZrN 5 fun _ => ?_; refine Zv Zmv ?_; refine Zv Val_makeFunc ?_) | (refine ZrN 6 fun _ => ?_; refine Zv Zai ?_; refine Zst ?_) | (refine ZrN 7 fun _ => ?_; refine Zv Zai ?_; refine Zst ?_) | (refine WP_cond_true rfl ?_) | (refine WP_cond_false rfl ?_) | (refine Zcd (fun hc => ?_) (fun hc => ?_) <;> (try (exfalso; omega))) | (with_reducible apply WP_skip) | (with_reducible apply WP_block) | (with_reducible apply WP_ret) | (refine WP_drawnC (id := 2) ([(b7, Blk 31 [.int .i64 0])]) ((b5, Blk 28 [.int .i64 x.1, .int .i64 x.2]) :: (b4, Blk 3 [.int .i64 day]) :: (b3, Blk 26 [.slice g.A1 g.s.spits.length g.c1, .slice g.A2 g.s.days.length g.c2, .slice g.A3 g.s.logs.length g.c3]) :: L) [4] [0, 1, 4] [] [13] (k := 4) (k2 := 0) (by repeat (first | exact List.Perm.refl _ | assumption | (with_reducible refine Perm.pick (by repeat (first | exact Pick.here | apply Pick.there)) ?_))) (by kernel_rfl) prog_mixed (by kernel_rfl) (by kernel_rfl) rfl ?_; refine Zew rfl Zla ?_; refine Zew rfl Val_makeFunc ?_; refine Zew rfl Zld ?_)) | (with_reducible apply EWalk_nil) | (refine GiC ?_; first | (refine AnyC_done (by repeat (first | exact Sub.refl _ | assumption | exact Sub.left | apply Sub.sv | apply Sub.cons | apply Sub.app)) (by kernel_rfl) ?_) | (refine AnyC_1 2 (by repeat (first | exact Sub.refl _ | assumption | exact Sub.left | apply Sub.sv | apply Sub.cons | apply Sub.app)) (by decide +kernel) rfl ?_) | (refine AnyC_1 3 (by repeat (first | exact Sub.refl _ | assumption | exact Sub.left | apply Sub.sv | apply Sub.cons | apply Sub.app)) (by decide +kernel) rfl ?_) | (refine AnyC_1 5 (by repeat (first | exact Sub.refl _ | assumption | exact Sub.left | apply Sub.sv | apply Sub.cons | apply Sub.app)) (by decide +kernel) rfl ?_) | (refine AnyC_1 6 (by repeat (first | exact Sub.refl _ | assumption | exact Sub.left | apply Sub.sv | apply Sub.cons | apply Sub.app)) (by decide +kernel) rfl ?_)) | (refine Zhn ?_) | (with_reducible apply QBlock_normal) | (refine Zhr ?_) | (with_reducible apply QBlock_ret) | (refine Zhp ?_) | (with_reducible apply QBlock_panic) | (refine AWalk_0 ?_) | (with_reducible apply QC_normal) | (refine QC_panic (fun e9 he9 => ?_)))
    all_goals ((try refine HThen.panic (by assumption) ?_); refine QLeave_panic ?_; refine Lv_ans1 N w0 (by repeat (first | exact Up.here | apply Up.there | apply Up.sv)) ?_; refine Lv_nil rfl (.tmp ((he9 6 rfl).trans (rfl : _ = Value.int _ _)) (.cell1 ((he9 7 rfl).trans rfl) (by repeat (first | exact Mem.here | assumption | apply Mem.there | apply Mem.sv | apply Mem.app)) rfl .nil)) rfl ?_; exact ⟨rfl, (by repeat (first | exact Wk.refl _ | apply Wk.keep1 | apply Wk.drop | apply Wk.sv | apply Wk.svD | apply Wk.appD))⟩)
end
end Go.Proofs.Ytkaadefndcbdnaa
