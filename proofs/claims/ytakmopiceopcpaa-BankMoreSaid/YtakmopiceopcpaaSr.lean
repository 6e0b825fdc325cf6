/- A stable sort, continued: the walk of a merge. -/
import Derived.Test.YtakmopiceopcpaaSq
section
namespace Go.Proofs.Ytakmopiceopcpaa
open Go.RowKit
attribute [local irreducible] AnyO AnyB QAny QB EWalk AWalk Ev WP OPS QThen QBlock QScope QLoop QBody Val New Turn Tri Enters PostA Blk Ro
section
variable (N : Nat) (w0 : World)
theorem sym_one (tl : List Value) (L : Hp) (n : Nat) (l : List Nat) (hl : Lt128 n l) (hn : n ≤ 1000) (b c f a m y : Nat) (ha : a < m) (hm : m < y) (hy : y ≤ n) (h1 : m - a = 1) :
    Tri Try.prog N w0 ((b, Blk 93 (ut tl l)) :: L) 112 [.slice (some ⟨b, 0, none⟩) n c, .int .i64 a, .int .i64 m, .int .i64 y, cmpV].toArray fun r L' => ∃ v, r = .returned v ∧ L' = (b, Blk 93 (ut tl (sym (f + 1) a m y l))) :: L := by
  have hF : sym (f + 1) a m y l = shU a (bsr (fun h => decide (pc (gt l h) < pc (gt l a))) (y - m) m y - 1 - a) l := by
    show (if _ then _ else _) = _; rw [if_pos h1]
  rw [hF]
  obtain ⟨R, hR⟩ : ∃ R, bsr (fun h => decide (pc (gt l h) < pc (gt l a))) (y - m) m y = R := ⟨_, rfl⟩
  have hRin := bsr_in (p := fun h => decide (pc (gt l h) < pc (gt l a))) (y - m) (lo := m) (hi := y) (by omega)
  rw [hR] at hRin ⊢
  unfold cmpV
  refine tri_of_WP Try.func112 rfl (n := 220) rfl (by simp) ?_
  repeat' (first | (refine Znh ?_) | (refine GiW ?_; first | (refine Zsq fun K hK => ?_) | (refine ZrN 0 fun _ => ?_; refine Zv Zmi ?_; refine Zv Zmi ?_; refine Zv Zxsub ?_; refine Zv Zxeql ?_) | (refine ZrN 1 fun _ => ?_; refine Zv Zmi ?_; refine Zv Zai ?_) | (refine ZrN 2 fun _ => ?_; refine Zv Zmi ?_; refine Zv Zai ?_) | (refine Zcd (fun hc => ?_) (fun hc => ?_) <;> (try (exfalso; omega))) | (with_reducible apply WP_block)))
  refine WP_loop [10, 11, 12, 31, 32, 33, 34, 35, 36, 37, 38, 39, 40, 41, 42, 43, 44, 45, 46, 47, 48, 49, 50, 51, 52, 53] (fun st : Nat × Nat × Nat => [(10, .int .i64 st.2.1), (11, .int .i64 st.2.2)]) (fun _ => (b, Blk 93 (ut tl l)) :: L)
    (fun st => bsr (fun h => decide (pc (gt l h) < pc (gt l a))) st.1 st.2.1 st.2.2 = R ∧ st.2.2 - st.2.1 ≤ st.1 ∧ st.2.1 ≤ st.2.2 ∧ st.2.2 ≤ n) (fun st => st.2.2 - st.2.1) (y - m, m, y) (.cons rfl (.cons rfl .nil)) (Wk.refl _) ⟨hR, by dsimp only; omega, by dsimp only; omega, by dsimp only; omega⟩ ?_
  rintro ⟨g, lo, hi⟩ j0 ⟨hB, hg, hlh, hhi⟩
  dsimp only at hB hg hlh hhi ⊢
  by_cases hlt : lo < hi
  · obtain ⟨g, rfl⟩ : ∃ g', g = g' + 1 := ⟨g - 1, by omega⟩
    obtain ⟨h, hh⟩ : ∃ h, (lo + hi) / 2 ^ 1 = h := ⟨_, rfl⟩
    have hb1 : lo ≤ h ∧ h < hi := by omega
    have hB' : (if pc (gt l h) < pc (gt l a) then bsr (fun h => decide (pc (gt l h) < pc (gt l a))) g (h + 1) hi else bsr (fun h => decide (pc (gt l h) < pc (gt l a))) g lo h) = R := by
      rw [← hB]
      show _ = (if _ then (if _ then _ else _) else _)
      rw [if_pos hlt, hh]
      simp only [decide_eq_true_eq]
    have c1 : (ut tl l)[0 + h]? = some (.int .u64 (gt l h : Int)) := ut_get (by rw [hl.1]; omega)
    have c2 : (ut tl l)[0 + a]? = some (.int .u64 (gt l a : Int)) := ut_get (by rw [hl.1]; omega)
    have hc1 := fun L => cmp_ret N w0 L (gt l h) (gt l a) (hl.gt (by omega)) (hl.gt (by omega))
    have hsh : ∀ {L e d ty pos af g x y' t t'} (hx : ev e x = .int .u64 ((lo : Int) + hi)) (hy : ev e y' = .int .u64 ((1 : Nat) : Int)), Val Try.prog N w0 L e ⟨d, .binOp .shr t x y' t', ty, pos, af, g⟩ (.int .u64 (h : Int)) := by
      intro L e d ty pos af g x y' t t' hx hy
      have := Val_shr (P := Try.prog) (N := N) (w0 := w0) (L := L) (d := d) (ty := ty) (pos := pos) (af := af) (g := g) (t := t) (t' := t') (a := lo + hi) (i := 1) (by rw [hx]; congr 1) hy (by decide)
      rw [hh] at this
      exact this
    repeat' (first | (refine GiP ?_; first | (refine Znh ?_) | (with_reducible refine Znl ?_)) | (refine GiW ?_; first | (refine Zsq fun K hK => ?_) | (refine ZrN 3 fun _ => ?_; refine Zv Zmi ?_; refine Zv Zmi ?_; refine Zv Zxlss ?_) | (refine ZrN 4 fun _ => ?_; refine Zv Zmi ?_; refine Zv Zmi ?_; refine Zv Zxadd ?_; refine Zv Zxco ?_; refine Zv (hsh rfl rfl) ?_; refine Zv Zxco ?_; refine Zv Zai ?_) | (refine ZrN 6 fun _ => ?_; refine Zv Zmi ?_; refine Zv Zxadd ?_; refine Zv Zai ?_) | (refine ZrN 7 fun _ => ?_; refine Zv Zmi ?_; refine Zv Zai ?_) | (refine Zcd (fun hc => ?_) (fun hc => ?_) <;> (try (exfalso; omega))) | (with_reducible apply WP_skip) | (with_reducible apply WP_block) | (refine WP_drawn (id := 5) [0, 1, 2, 3, 4, 5, 6, 7, 8, 9, 10] [] (k := 0) prog_mixed (by kernel_rfl) rfl ?_; refine Zew rfl Zmv ?_; refine Zew rfl Zmv ?_; refine Zew rfl Zmi ?_; refine Zew rfl Zia ?_; refine Zew rfl Zld ?_; refine Zew rfl Zmv ?_; refine Zew rfl Zmi ?_; refine Zew rfl Zia ?_; refine Zew rfl Zld ?_; refine Zec rfl (Enters_val rfl rfl) (fun X => hc1 _) ?_; refine Zew rfl Zxlss ?_)) | (with_reducible apply EWalk_nil) | (refine AnyO_done (by kernel_rfl) ?_; (try with_reducible apply noP_normal); try with_reducible exact key.out) | (refine Zhn ?_) | (with_reducible apply QBlock_normal) | (refine AWalk_0 ?_; refine ZisO ?_))
    · rw [if_pos (by omega)] at hB'
      exact QLoop_normal (g, h + 1, hi) (.cons rfl (.cons rfl .nil)) (by repeat (first | exact Off.frame rfl | exact Off.refl _ _ | refine Off.frameT rfl rfl ?_ | refine Off.upd rfl ?_ | refine Off.updO rfl ?_)) (by repeat (first | exact Wk.refl _ | apply Wk.keep1 | apply Wk.drop | apply Wk.sv | apply Wk.svD | apply Wk.appD)) ⟨hB', by dsimp only; omega, by dsimp only; omega, hhi⟩ (by dsimp only; omega)
    · rw [if_neg (by omega)] at hB'
      exact QLoop_normal (g, lo, h) (.cons rfl (.cons rfl .nil)) (by repeat (first | exact Off.frame rfl | exact Off.refl _ _ | refine Off.frameT rfl rfl ?_ | refine Off.upd rfl ?_ | refine Off.updO rfl ?_)) (by repeat (first | exact Wk.refl _ | apply Wk.keep1 | apply Wk.drop | apply Wk.sv | apply Wk.svD | apply Wk.appD)) ⟨hB', by dsimp only; omega, by dsimp only; omega, by dsimp only; omega⟩ (by dsimp only; omega)
  · have hlR : lo = R := by rw [← hB, bsr_stop hlt]
    subst hlR
    repeat' (first | (refine Znh ?_) | (refine GiW ?_; first | (refine Zsq fun K hK => ?_) | (refine ZrN 3 fun _ => ?_; refine Zv Zmi ?_; refine Zv Zmi ?_; refine Zv Zxlss ?_) | (refine ZrN 8 fun _ => ?_; refine Zv Zmi ?_; refine Zv Zai ?_) | (refine Zcd (fun hc => ?_) (fun hc => ?_) <;> (try (exfalso; omega))) | (with_reducible apply WP_block) | (with_reducible apply WP_exit)) | (refine Zhn ?_) | (refine Zhx ?_) | (with_reducible apply QBlock_hit) | (with_reducible apply QLoop_exit))
    refine WP_loop [13, 55, 56, 57, 58, 59, 60, 61, 62, 63, 64, 65, 66, 67, 68, 69, 70, 71, 72, 73, 74, 75, 76] (fun q : Nat => [(13, .int .i64 ((a + q : Nat) : Int))]) (fun q => (b, Blk 93 (ut tl (shU a q l))) :: L) (fun q => q ≤ lo - 1 - a) (fun q => lo - 1 - a - q) 0 (.cons rfl .nil) (Wk.refl _) (Nat.zero_le _) ?_
    intro q j1 hq
    by_cases hql : q < lo - 1 - a
    · have hs := shU_lt hl (a := a) q (by omega)
      have h1 : (ut tl (shU a q l))[0 + (a + q)]? = some (.int .u64 (gt (shU a q l) (a + q) : Int)) := ut_get (by rw [hs.1]; omega)
      have h2 : (ut tl (shU a q l))[0 + (a + q + 1)]? = some (.int .u64 (gt (shU a q l) (a + q + 1) : Int)) := ut_get (by rw [hs.1]; omega)
      repeat' (first | (refine GiP ?_; first | (refine Znh ?_) | (with_reducible refine Znl ?_) | (refine Zatn ?_; refine OPS_turnN (Turn_storeG rfl (rfl : _ = Value.int _ _) (by repeat (first | exact Up.here | apply Up.there | apply Up.sv)) rfl (by rw [ut_len]; first | (rw [hs.1]; simp only [List.length_singleton]; omega) | (rw [List.length_set, hs.1]; simp only [List.length_singleton]; omega)) (ut_set (by first | (rw [hs.1]; omega) | (rw [List.length_set, hs.1]; omega))) rfl rfl) rfl rfl ?_) | (refine Zatd 76 ?_; refine Zv (Val_indexAddr1 rfl rfl (show _ = ((a + q + 1 : Nat) : Int) by omega) (by omega)) ?_)) | (refine GiW ?_; first | (refine Zsq fun K hK => ?_) | (refine ZrN 9 fun _ => ?_; refine Zv Zmi ?_; refine Zv Zmi ?_; refine Zv Zxsub ?_; refine Zv Zxlss ?_) | (refine ZrN 10 fun _ => ?_; refine Zv Zmi ?_; refine Zv Zxadd ?_; refine Zv Zai ?_) | (refine Zcd (fun hc => ?_) (fun hc => ?_) <;> (try (exfalso; omega))) | (with_reducible apply WP_skip) | (with_reducible apply WP_block) | (refine WP_drawnT (id := 11) [2, 3, 4] [0, 1, 2, 3, 4, 5, 6, 7, 8, 9, 10, 11, 12, 13, 14] [] (k := 3) prog_mixed (by kernel_rfl) (by kernel_rfl) rfl ?_; refine Zew rfl Zmv ?_; refine Zew rfl Zmi ?_; refine Zep rfl (fun _ => Zmv) ?_; refine Zep rfl (fun _ => Zmi) ?_; refine Zep rfl (fun _ => Zxadd) ?_; refine Zew rfl Zmv ?_; refine Zew rfl Zmi ?_; refine Zew rfl Zxadd ?_; (first | (refine Zew rfl (Val_indexAddr1 rfl rfl (show _ = ((a + q : Nat) : Int) by omega) (by omega)) ?_) | (refine Zew rfl (Val_indexAddr1 rfl rfl (show _ = ((a + q + 1 : Nat) : Int) by omega) (by omega)) ?_) | (refine Zew rfl Zia ?_)); refine Zew rfl Zld ?_; refine Zew rfl Zmv ?_; refine Zew rfl Zmi ?_; (first | (refine Zew rfl (Val_indexAddr1 rfl rfl (show _ = ((a + q : Nat) : Int) by omega) (by omega)) ?_) | (refine Zew rfl (Val_indexAddr1 rfl rfl (show _ = ((a + q + 1 : Nat) : Int) by omega) (by omega)) ?_) | (refine Zew rfl Zia ?_)); refine Zew rfl Zld ?_; (first | (refine Zew rfl (Val_indexAddr1 rfl rfl (show _ = ((a + q : Nat) : Int) by omega) (by omega)) ?_) | (refine Zew rfl (Val_indexAddr1 rfl rfl (show _ = ((a + q + 1 : Nat) : Int) by omega) (by omega)) ?_) | (refine Zew rfl Zia ?_)))) | (with_reducible apply EWalk_nil) | (refine GiO ?_; first | (refine AnyO_done (by kernel_rfl) ?_; (try with_reducible apply noP_normal); try with_reducible exact key.out) | (refine AnyO_1 15 (by decide +kernel) rfl ?_) | (refine AnyO_1 16 (by decide +kernel) rfl ?_) | (refine AnyO_1 17 (by decide +kernel) rfl ?_)) | (refine Zhn ?_) | (with_reducible apply QBlock_normal) | (refine AWalk_0 ?_; refine ZisO ?_) | (with_reducible apply QAny_normal))
      exact QLoop_normal (q + 1) (.cons rfl .nil) (by repeat (first | exact Off.frame rfl | exact Off.refl _ _ | refine Off.frameT rfl rfl ?_ | refine Off.upd rfl ?_ | refine Off.updO rfl ?_)) (by repeat (first | exact Wk.refl _ | apply Wk.keep1 | apply Wk.drop | apply Wk.sv | apply Wk.svD | apply Wk.appD)) (by omega) (by omega)
    · have hqe : q = lo - 1 - a := by omega
      subst hqe
      repeat' (first | (refine Znh ?_) | (refine GiW ?_; first | (refine Zsq fun K hK => ?_) | (refine ZrN 9 fun _ => ?_; refine Zv Zmi ?_; refine Zv Zmi ?_; refine Zv Zxsub ?_; refine Zv Zxlss ?_) | (refine Zcd (fun hc => ?_) (fun hc => ?_) <;> (try (exfalso; omega))) | (with_reducible apply WP_exit) | (with_reducible apply WP_ret)) | (refine Zhn ?_) | (refine Zhx ?_) | (with_reducible apply QBlock_hit) | (with_reducible apply QLoop_exit) | (refine Zhr ?_))
      exact QBody_ret0 rfl ⟨_, rfl, rfl⟩
theorem sym_two (tl : List Value) (L : Hp) (n : Nat) (l : List Nat) (hl : Lt128 n l) (hn : n ≤ 1000) (b c f a m y : Nat) (ha : a < m) (hm : m < y) (hy : y ≤ n) (h1 : ¬ m - a = 1) (h2 : y - m = 1) :
    Tri Try.prog N w0 ((b, Blk 93 (ut tl l)) :: L) 112 [.slice (some ⟨b, 0, none⟩) n c, .int .i64 a, .int .i64 m, .int .i64 y, cmpV].toArray fun r L' => ∃ v, r = .returned v ∧ L' = (b, Blk 93 (ut tl (sym (f + 1) a m y l))) :: L := by
  have hF : sym (f + 1) a m y l = shD m (m - bsr (fun h => !decide (pc (gt l m) < pc (gt l h))) (m - a) a m) l := by
    show (if _ then _ else if _ then _ else _) = _; rw [if_neg h1, if_pos h2]
  rw [hF]
  obtain ⟨R, hR⟩ : ∃ R, bsr (fun h => !decide (pc (gt l m) < pc (gt l h))) (m - a) a m = R := ⟨_, rfl⟩
  have hRin := bsr_in (p := fun h => !decide (pc (gt l m) < pc (gt l h))) (m - a) (lo := a) (hi := m) (by omega)
  rw [hR] at hRin ⊢
  unfold cmpV
  refine tri_of_WP Try.func112 rfl (n := 220) rfl (by simp) ?_
  repeat' (first | (refine Znh ?_) | (refine GiW ?_; first | (refine Zsq fun K hK => ?_) | (refine ZrN 0 fun _ => ?_; refine Zv Zmi ?_; refine Zv Zmi ?_; refine Zv Zxsub ?_; refine Zv Zxeql ?_) | (refine ZrN 12 fun _ => ?_; refine Zv Zmi ?_; refine Zv Zmi ?_; refine Zv Zxsub ?_; refine Zv Zxeql ?_) | (refine ZrN 13 fun _ => ?_; refine Zv Zmi ?_; refine Zv Zai ?_) | (refine ZrN 14 fun _ => ?_; refine Zv Zmi ?_; refine Zv Zai ?_) | (refine Zcd (fun hc => ?_) (fun hc => ?_) <;> (try (exfalso; omega))) | (with_reducible apply WP_skip) | (with_reducible apply WP_block)) | (refine Zhn ?_))
  refine WP_loop [14, 15, 16, 83, 84, 85, 86, 87, 88, 89, 90, 91, 92, 93, 94, 95, 96, 97, 98, 99, 100, 101, 102, 103, 104, 105, 106] (fun st : Nat × Nat × Nat => [(14, .int .i64 st.2.1), (15, .int .i64 st.2.2)]) (fun _ => (b, Blk 93 (ut tl l)) :: L)
    (fun st => bsr (fun h => !decide (pc (gt l m) < pc (gt l h))) st.1 st.2.1 st.2.2 = R ∧ st.2.2 - st.2.1 ≤ st.1 ∧ st.2.1 ≤ st.2.2 ∧ st.2.2 ≤ n) (fun st => st.2.2 - st.2.1) (m - a, a, m) (.cons rfl (.cons rfl .nil)) (Wk.refl _) ⟨hR, by dsimp only; omega, by dsimp only; omega, by dsimp only; omega⟩ ?_
  rintro ⟨g, lo, hi⟩ j0 ⟨hB, hg, hlh, hhi⟩
  dsimp only at hB hg hlh hhi ⊢
  by_cases hlt : lo < hi
  · obtain ⟨g, rfl⟩ : ∃ g', g = g' + 1 := ⟨g - 1, by omega⟩
    obtain ⟨h, hh⟩ : ∃ h, (lo + hi) / 2 ^ 1 = h := ⟨_, rfl⟩
    have hb1 : lo ≤ h ∧ h < hi := by omega
    have hB' : (if ¬ pc (gt l m) < pc (gt l h) then bsr (fun h => !decide (pc (gt l m) < pc (gt l h))) g (h + 1) hi else bsr (fun h => !decide (pc (gt l m) < pc (gt l h))) g lo h) = R := by
      rw [← hB]
      show _ = (if _ then (if _ then _ else _) else _)
      rw [if_pos hlt, hh]
      simp only [Bool.not_eq_true', decide_eq_false_iff_not]
    have c1 : (ut tl l)[0 + h]? = some (.int .u64 (gt l h : Int)) := ut_get (by rw [hl.1]; omega)
    have c2 : (ut tl l)[0 + m]? = some (.int .u64 (gt l m : Int)) := ut_get (by rw [hl.1]; omega)
    have hc1 := fun L => cmp_ret N w0 L (gt l m) (gt l h) (hl.gt (by omega)) (hl.gt (by omega))
    have hsh : ∀ {L e d ty pos af g x y' t t'} (hx : ev e x = .int .u64 ((lo : Int) + hi)) (hy : ev e y' = .int .u64 ((1 : Nat) : Int)), Val Try.prog N w0 L e ⟨d, .binOp .shr t x y' t', ty, pos, af, g⟩ (.int .u64 (h : Int)) := by
      intro L e d ty pos af g x y' t t' hx hy
      have := Val_shr (P := Try.prog) (N := N) (w0 := w0) (L := L) (d := d) (ty := ty) (pos := pos) (af := af) (g := g) (t := t) (t' := t') (a := lo + hi) (i := 1) (by rw [hx]; congr 1) hy (by decide)
      rw [hh] at this
      exact this
    repeat' (first | (refine GiP ?_; first | (refine Znh ?_) | (with_reducible refine Znl ?_)) | (refine GiW ?_; first | (refine Zsq fun K hK => ?_) | (refine ZrN 15 fun _ => ?_; refine Zv Zmi ?_; refine Zv Zmi ?_; refine Zv Zxlss ?_) | (refine ZrN 16 fun _ => ?_; refine Zv Zmi ?_; refine Zv Zmi ?_; refine Zv Zxadd ?_; refine Zv Zxco ?_; refine Zv (hsh rfl rfl) ?_; refine Zv Zxco ?_; refine Zv Zai ?_) | (refine ZrN 18 fun _ => ?_; refine Zv Zmi ?_; refine Zv Zxadd ?_; refine Zv Zai ?_) | (refine ZrN 19 fun _ => ?_; refine Zv Zmi ?_; refine Zv Zai ?_) | (refine Zcd (fun hc => ?_) (fun hc => ?_) <;> (try (exfalso; omega))) | (with_reducible apply WP_skip) | (with_reducible apply WP_block) | (refine WP_drawn (id := 17) [0, 1, 2, 3, 4, 5, 6, 7, 8, 9, 10, 11] [] (k := 0) prog_mixed (by kernel_rfl) rfl ?_; refine Zew rfl Zmv ?_; refine Zew rfl Zmv ?_; refine Zew rfl Zmi ?_; refine Zew rfl Zia ?_; refine Zew rfl Zld ?_; refine Zew rfl Zmv ?_; refine Zew rfl Zmi ?_; refine Zew rfl Zia ?_; refine Zew rfl Zld ?_; refine Zec rfl (Enters_val rfl rfl) (fun X => hc1 _) ?_; refine Zew rfl Zxlss ?_; refine Zew rfl Zxnot ?_)) | (with_reducible apply EWalk_nil) | (refine AnyO_done (by kernel_rfl) ?_; (try with_reducible apply noP_normal); try with_reducible exact key.out) | (refine Zhn ?_) | (with_reducible apply QBlock_normal) | (refine AWalk_0 ?_; refine ZisO ?_))
    · rw [if_pos (by first | omega | (simp at hc; omega))] at hB'
      exact QLoop_normal (g, h + 1, hi) (.cons rfl (.cons rfl .nil)) (by repeat (first | exact Off.frame rfl | exact Off.refl _ _ | refine Off.frameT rfl rfl ?_ | refine Off.upd rfl ?_ | refine Off.updO rfl ?_)) (by repeat (first | exact Wk.refl _ | apply Wk.keep1 | apply Wk.drop | apply Wk.sv | apply Wk.svD | apply Wk.appD)) ⟨hB', by dsimp only; omega, by dsimp only; omega, hhi⟩ (by dsimp only; omega)
    · rw [if_neg (by first | omega | (simp at hc; omega))] at hB'
      exact QLoop_normal (g, lo, h) (.cons rfl (.cons rfl .nil)) (by repeat (first | exact Off.frame rfl | exact Off.refl _ _ | refine Off.frameT rfl rfl ?_ | refine Off.upd rfl ?_ | refine Off.updO rfl ?_)) (by repeat (first | exact Wk.refl _ | apply Wk.keep1 | apply Wk.drop | apply Wk.sv | apply Wk.svD | apply Wk.appD)) ⟨hB', by dsimp only; omega, by dsimp only; omega, by dsimp only; omega⟩ (by dsimp only; omega)
  · have hlR : lo = R := by rw [← hB, bsr_stop hlt]
    subst hlR
    repeat' (first | (refine Znh ?_) | (refine GiW ?_; first | (refine Zsq fun K hK => ?_) | (refine ZrN 15 fun _ => ?_; refine Zv Zmi ?_; refine Zv Zmi ?_; refine Zv Zxlss ?_) | (refine ZrN 20 fun _ => ?_; refine Zv Zmi ?_; refine Zv Zai ?_) | (refine Zcd (fun hc => ?_) (fun hc => ?_) <;> (try (exfalso; omega))) | (with_reducible apply WP_block) | (with_reducible apply WP_exit)) | (refine Zhn ?_) | (refine Zhx ?_) | (with_reducible apply QBlock_hit) | (with_reducible apply QLoop_exit))
    refine WP_loop [17, 108, 109, 110, 111, 112, 113, 114, 115, 116, 117, 118, 119, 120, 121, 122, 123, 124, 125, 126, 127, 128] (fun q : Nat => [(17, .int .i64 ((m - q : Nat) : Int))]) (fun q => (b, Blk 93 (ut tl (shD m q l))) :: L) (fun q => q ≤ m - lo) (fun q => m - lo - q) 0 (.cons rfl .nil) (Wk.refl _) (Nat.zero_le _) ?_
    intro q j1 hq
    by_cases hql : q < m - lo
    · have hs := shD_lt hl (m := m) (by omega) q
      have h1 : (ut tl (shD m q l))[0 + (m - q)]? = some (.int .u64 (gt (shD m q l) (m - q) : Int)) := ut_get (by rw [hs.1]; omega)
      have h2 : (ut tl (shD m q l))[0 + (m - q - 1)]? = some (.int .u64 (gt (shD m q l) (m - q - 1) : Int)) := ut_get (by rw [hs.1]; omega)
      repeat' (first | (refine GiP ?_; first | (refine Znh ?_) | (with_reducible refine Znl ?_) | (refine Zatn ?_; refine OPS_turnN (Turn_storeG rfl (rfl : _ = Value.int _ _) (by repeat (first | exact Up.here | apply Up.there | apply Up.sv)) rfl (by rw [ut_len]; first | (rw [hs.1]; simp only [List.length_singleton]; omega) | (rw [List.length_set, hs.1]; simp only [List.length_singleton]; omega)) (ut_set (by first | (rw [hs.1]; omega) | (rw [List.length_set, hs.1]; omega))) rfl rfl) rfl rfl ?_) | (refine Zatd 128 ?_; refine Zv (Val_indexAddr1 rfl rfl (show _ = ((m - q - 1 : Nat) : Int) by omega) (by omega)) ?_)) | (refine GiW ?_; first | (refine Zsq fun K hK => ?_) | (refine ZrN 21 fun _ => ?_; refine Zv Zmi ?_; refine Zv Zmi ?_; refine Zv Zxgtr ?_) | (refine ZrN 22 fun _ => ?_; refine Zv Zmi ?_; refine Zv Zxsub ?_; refine Zv Zai ?_) | (refine Zcd (fun hc => ?_) (fun hc => ?_) <;> (try (exfalso; omega))) | (with_reducible apply WP_skip) | (with_reducible apply WP_block) | (refine WP_drawnT (id := 23) [2, 3, 4] [0, 1, 2, 3, 4, 5, 6, 7, 8, 9, 10, 11, 12, 13, 14] [] (k := 3) prog_mixed (by kernel_rfl) (by kernel_rfl) rfl ?_; refine Zew rfl Zmv ?_; refine Zew rfl Zmi ?_; refine Zep rfl (fun _ => Zmv) ?_; refine Zep rfl (fun _ => Zmi) ?_; refine Zep rfl (fun _ => Zxsub) ?_; refine Zew rfl Zmv ?_; refine Zew rfl Zmi ?_; refine Zew rfl Zxsub ?_; (first | (refine Zew rfl (Val_indexAddr1 rfl rfl (show _ = ((m - q : Nat) : Int) by omega) (by omega)) ?_) | (refine Zew rfl (Val_indexAddr1 rfl rfl (show _ = ((m - q - 1 : Nat) : Int) by omega) (by omega)) ?_) | (refine Zew rfl Zia ?_)); refine Zew rfl Zld ?_; refine Zew rfl Zmv ?_; refine Zew rfl Zmi ?_; (first | (refine Zew rfl (Val_indexAddr1 rfl rfl (show _ = ((m - q : Nat) : Int) by omega) (by omega)) ?_) | (refine Zew rfl (Val_indexAddr1 rfl rfl (show _ = ((m - q - 1 : Nat) : Int) by omega) (by omega)) ?_) | (refine Zew rfl Zia ?_)); refine Zew rfl Zld ?_; (first | (refine Zew rfl (Val_indexAddr1 rfl rfl (show _ = ((m - q : Nat) : Int) by omega) (by omega)) ?_) | (refine Zew rfl (Val_indexAddr1 rfl rfl (show _ = ((m - q - 1 : Nat) : Int) by omega) (by omega)) ?_) | (refine Zew rfl Zia ?_)))) | (with_reducible apply EWalk_nil) | (refine GiO ?_; first | (refine AnyO_done (by kernel_rfl) ?_; (try with_reducible apply noP_normal); try with_reducible exact key.out) | (refine AnyO_1 15 (by decide +kernel) rfl ?_) | (refine AnyO_1 16 (by decide +kernel) rfl ?_) | (refine AnyO_1 17 (by decide +kernel) rfl ?_)) | (refine Zhn ?_) | (with_reducible apply QBlock_normal) | (refine AWalk_0 ?_; refine ZisO ?_) | (with_reducible apply QAny_normal))
      exact QLoop_normal (q + 1) (.cons (by show Value.int .i64 (((m - q : Nat) : Int) - 1) = Value.int .i64 ((m - (q + 1) : Nat) : Int); congr 1; omega) .nil) (by repeat (first | exact Off.frame rfl | exact Off.refl _ _ | refine Off.frameT rfl rfl ?_ | refine Off.upd rfl ?_ | refine Off.updO rfl ?_)) (by repeat (first | exact Wk.refl _ | apply Wk.keep1 | apply Wk.drop | apply Wk.sv | apply Wk.svD | apply Wk.appD)) (by omega) (by omega)
    · have hqe : q = m - lo := by omega
      subst hqe
      repeat' (first | (refine Znh ?_) | (refine GiW ?_; first | (refine Zsq fun K hK => ?_) | (refine ZrN 21 fun _ => ?_; refine Zv Zmi ?_; refine Zv Zmi ?_; refine Zv Zxgtr ?_) | (refine Zcd (fun hc => ?_) (fun hc => ?_) <;> (try (exfalso; omega))) | (with_reducible apply WP_exit) | (with_reducible apply WP_ret)) | (refine Zhn ?_) | (refine Zhx ?_) | (with_reducible apply QBlock_hit) | (with_reducible apply QLoop_exit) | (refine Zhr ?_))
      exact QBody_ret0 rfl ⟨_, rfl, rfl⟩
end
end Go.Proofs.Ytakmopiceopcpaa
end
