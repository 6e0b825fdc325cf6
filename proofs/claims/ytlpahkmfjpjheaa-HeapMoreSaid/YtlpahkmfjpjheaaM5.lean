/- A stable sort, continued: the walk of a merge. · A stable sort, continued: the walk of a merge as a whole. · A row that is made, and one that is copied. · A stable sort, and the sets of looks in order. · Package heap: the sets of looks, in order of how many they are. · Package heap: the first set of which something holds. -/
import Derived.Test.YtlpahkmfjpjheaaM4
import Derived.Deep.OwnRows
import Derived.Laws.CopyRow
section
namespace Go.Proofs.Ytlpahkmfjpjheaa
open Go.RowKit
attribute [local irreducible] AnyO AnyB QAny QB EWalk AWalk Ev WP OPS QThen QBlock QScope QLoop QBody Val New Turn Tri Enters PostA Blk Ro
section
variable (N : Nat) (w0 : World)
theorem sym_one (L : Hp) (n : Nat) (l : List Nat) (hl : Lt32 n l) (hn : n ≤ 1000) (b c f a m y : Nat) (ha : a < m) (hm : m < y) (hy : y ≤ n) (h1 : m - a = 1) :
    Tri Try.prog N w0 ((b, Blk 97 (us l)) :: L) 112 [.slice (some ⟨b, 0, none⟩) n c, .int .i64 a, .int .i64 m, .int .i64 y, cmpV].toArray fun r L' => ∃ v, r = .returned v ∧ L' = (b, Blk 97 (us (sym (f + 1) a m y l))) :: L := by
  have hF : sym (f + 1) a m y l = shU a (bsr (fun h => decide (pc (gt l h) < pc (gt l a))) (y - m) m y - 1 - a) l := by
    show (if _ then _ else _) = _; rw [if_pos h1]
  rw [hF]
  obtain ⟨R, hR⟩ : ∃ R, bsr (fun h => decide (pc (gt l h) < pc (gt l a))) (y - m) m y = R := ⟨_, rfl⟩
  have hRin := bsr_in (p := fun h => decide (pc (gt l h) < pc (gt l a))) (y - m) (lo := m) (hi := y) (by omega)
  rw [hR] at hRin ⊢
  unfold cmpV
  refine tri_of_WP Try.func112 rfl (n := 220) rfl (by simp) ?_
  repeat' (first | (refine Znh ?_) | (refine GiW ?_; first | (refine Zsq fun K hK => ?_) | (refine ZrN 0 fun _ => ?_; refine Zv Zmi ?_; refine Zv Zmi ?_; refine Zv Zxsub ?_; refine Zv Zxeql ?_) | (refine ZrN 1 fun _ => ?_; refine Zv Zmi ?_; refine Zv Zai ?_) | (refine ZrN 2 fun _ => ?_; refine Zv Zmi ?_; refine Zv Zai ?_) | (refine Zcd (fun hc => ?_) (fun hc => ?_) <;> (try (exfalso; omega))) | (with_reducible apply WP_block)))
  refine WP_loop [10, 11, 12, 31, 32, 33, 34, 35, 36, 37, 38, 39, 40, 41, 42, 43, 44, 45, 46, 47, 48, 49, 50, 51, 52, 53] (fun st : Nat × Nat × Nat => [(10, .int .i64 st.2.1), (11, .int .i64 st.2.2)]) (fun _ => (b, Blk 97 (us l)) :: L)
    (fun st => bsr (fun h => decide (pc (gt l h) < pc (gt l a))) st.1 st.2.1 st.2.2 = R ∧ st.2.2 - st.2.1 ≤ st.1 ∧ st.2.1 ≤ st.2.2 ∧ st.2.2 ≤ n) (fun st => st.2.2 - st.2.1) (y - m, m, y) (.cons rfl (.cons rfl .nil)) (Wk.refl _) ⟨hR, by dsimp only; omega, by dsimp only; omega, by dsimp only; omega⟩ ?_
  rintro ⟨g, lo, hi⟩ j0 ⟨hB, hg, hlh, hhi⟩
  dsimp only at hB hg hlh hhi ⊢
  by_cases hlt : lo < hi
  · obtain ⟨g, rfl⟩ : ∃ g', g = g' + 1 := ⟨g - 1, by omega⟩
    obtain ⟨h, hh⟩ : ∃ h, (lo + hi) / 2 ^ 1 = h := ⟨_, rfl⟩
    have hb1 : lo ≤ h ∧ h < hi := by omega
    have hB' : (if pc (gt l h) < pc (gt l a) then bsr (fun h => decide (pc (gt l h) < pc (gt l a))) g (h + 1) hi else bsr (fun h => decide (pc (gt l h) < pc (gt l a))) g lo h) = R := by
      rw [← hB]
      show _ = (if _ then (if _ then _ else _) else _)
      rw [if_pos hlt, hh]
      simp only [decide_eq_true_eq]
    have c1 : (us l)[0 + h]? = some (.int .u64 (gt l h : Int)) := us_get (by rw [hl.1]; omega)
    have c2 : (us l)[0 + a]? = some (.int .u64 (gt l a : Int)) := us_get (by rw [hl.1]; omega)
    have hc1 := fun L => cmp_ret N w0 L (gt l h) (gt l a) (hl.gt (by omega)) (hl.gt (by omega))
    have hsh : ∀ {L e d ty pos af g x y' t t'} (hx : ev e x = .int .u64 ((lo : Int) + hi)) (hy : ev e y' = .int .u64 ((1 : Nat) : Int)), Val Try.prog N w0 L e ⟨d, .binOp .shr t x y' t', ty, pos, af, g⟩ (.int .u64 (h : Int)) := by
      intro L e d ty pos af g x y' t t' hx hy
      have := Val_shr (P := Try.prog) (N := N) (w0 := w0) (L := L) (d := d) (ty := ty) (pos := pos) (af := af) (g := g) (t := t) (t' := t') (a := lo + hi) (i := 1) (by rw [hx]; congr 1) hy (by decide)
      rw [hh] at this
      exact this
    repeat' (first | (refine GiP ?_; first | (refine Znh ?_) | (with_reducible refine Znl ?_)) | (refine GiW ?_; first | (refine Zsq fun K hK => ?_) | (refine ZrN 3 fun _ => ?_; refine Zv Zmi ?_; refine Zv Zmi ?_; refine Zv Zxlss ?_) | (refine ZrN 4 fun _ => ?_; refine Zv Zmi ?_; refine Zv Zmi ?_; refine Zv Zxadd ?_; refine Zv Zxco ?_; refine Zv (hsh rfl rfl) ?_; refine Zv Zxco ?_; refine Zv Zai ?_) | (refine ZrN 6 fun _ => ?_; refine Zv Zmi ?_; refine Zv Zxadd ?_; refine Zv Zai ?_) | (refine ZrN 7 fun _ => ?_; refine Zv Zmi ?_; refine Zv Zai ?_) | (refine Zcd (fun hc => ?_) (fun hc => ?_) <;> (try (exfalso; omega))) | (with_reducible apply WP_skip) | (with_reducible apply WP_block) | (refine WP_drawn (id := 5) [0, 1, 2, 3, 4, 5, 6, 7, 8, 9, 10] [] (k := 0) prog_mixed (by kernel_rfl) rfl ?_; refine Zew rfl Zmv ?_; refine Zew rfl Zmv ?_; refine Zew rfl Zmi ?_; refine Zew rfl Zia ?_; refine Zew rfl Zld ?_; refine Zew rfl Zmv ?_; refine Zew rfl Zmi ?_; refine Zew rfl Zia ?_; refine Zew rfl Zld ?_; refine Zec rfl (Enters_val rfl rfl) (fun X => hc1 _) ?_; refine Zew rfl Zxlss ?_)) | (with_reducible apply EWalk_nil) | (refine AnyO_done (by kernel_rfl) ?_; (try with_reducible apply noP_normal); try with_reducible exact key.out) | (refine Zhn ?_) | (with_reducible apply QBlock_normal) | (refine AWalk_0 ?_; refine ZisO ?_; apply shr; intro key))
    · rw [if_pos (by omega)] at hB'
      exact QLoop_normal (g, h + 1, hi) (.cons rfl (.cons rfl .nil)) (by repeat (first | exact Off.frame rfl | exact Off.refl _ _ | refine Off.frameT rfl rfl ?_ | refine Off.upd rfl ?_ | refine Off.updO rfl ?_)) (by repeat (first | exact Wk.refl _ | apply Wk.keep1 | apply Wk.drop | apply Wk.sv | apply Wk.svD | apply Wk.appD)) ⟨hB', by dsimp only; omega, by dsimp only; omega, hhi⟩ (by dsimp only; omega)
    · rw [if_neg (by omega)] at hB'
      exact QLoop_normal (g, lo, h) (.cons rfl (.cons rfl .nil)) (by repeat (first | exact Off.frame rfl | exact Off.refl _ _ | refine Off.frameT rfl rfl ?_ | refine Off.upd rfl ?_ | refine Off.updO rfl ?_)) (by repeat (first | exact Wk.refl _ | apply Wk.keep1 | apply Wk.drop | apply Wk.sv | apply Wk.svD | apply Wk.appD)) ⟨hB', by dsimp only; omega, by dsimp only; omega, by dsimp only; omega⟩ (by dsimp only; omega)
  · have hlR : lo = R := by rw [← hB, bsr_stop hlt]
    subst hlR
    repeat' (first | (refine Znh ?_) | (refine GiW ?_; first | (refine Zsq fun K hK => ?_) | (refine ZrN 3 fun _ => ?_; refine Zv Zmi ?_; refine Zv Zmi ?_; refine Zv Zxlss ?_) | (refine ZrN 8 fun _ => ?_; refine Zv Zmi ?_; refine Zv Zai ?_) | (refine Zcd (fun hc => ?_) (fun hc => ?_) <;> (try (exfalso; omega))) | (with_reducible apply WP_block) | (with_reducible apply WP_exit)) | (refine Zhn ?_) | (refine Zhx ?_) | (with_reducible apply QBlock_hit) | (with_reducible apply QLoop_exit))
    refine WP_loop [13, 55, 56, 57, 58, 59, 60, 61, 62, 63, 64, 65, 66, 67, 68, 69, 70, 71, 72, 73, 74, 75, 76] (fun q : Nat => [(13, .int .i64 ((a + q : Nat) : Int))]) (fun q => (b, Blk 97 (us (shU a q l))) :: L) (fun q => q ≤ lo - 1 - a) (fun q => lo - 1 - a - q) 0 (.cons rfl .nil) (Wk.refl _) (Nat.zero_le _) ?_
    intro q j1 hq
    by_cases hql : q < lo - 1 - a
    · have hs := shU_lt hl (a := a) q (by omega)
      have h1 : (us (shU a q l))[0 + (a + q)]? = some (.int .u64 (gt (shU a q l) (a + q) : Int)) := us_get (by rw [hs.1]; omega)
      have h2 : (us (shU a q l))[0 + (a + q + 1)]? = some (.int .u64 (gt (shU a q l) (a + q + 1) : Int)) := us_get (by rw [hs.1]; omega)
      repeat' (first | (refine GiP ?_; first | (refine Znh ?_) | (with_reducible refine Znl ?_) | (refine Zatn ?_; refine OPS_turnN (Turn_storeG rfl (rfl : _ = Value.int _ _) (by repeat (first | exact Up.here | apply Up.there | apply Up.sv)) rfl (by rw [us_len]; first | (rw [hs.1]; simp only [List.length_singleton]; omega) | (rw [List.length_set, hs.1]; simp only [List.length_singleton]; omega)) us_set rfl rfl) rfl rfl ?_) | (refine Zatd 76 ?_; refine Zv (Val_indexAddr1 rfl rfl (show _ = ((a + q + 1 : Nat) : Int) by omega) (by omega)) ?_)) | (refine GiW ?_; first | (refine Zsq fun K hK => ?_) | (refine ZrN 9 fun _ => ?_; refine Zv Zmi ?_; refine Zv Zmi ?_; refine Zv Zxsub ?_; refine Zv Zxlss ?_) | (refine ZrN 10 fun _ => ?_; refine Zv Zmi ?_; refine Zv Zxadd ?_; refine Zv Zai ?_) | (refine Zcd (fun hc => ?_) (fun hc => ?_) <;> (try (exfalso; omega))) | (with_reducible apply WP_skip) | (with_reducible apply WP_block) | (refine WP_drawnT (id := 11) [2, 3, 4] [0, 1, 2, 3, 4, 5, 6, 7, 8, 9, 10, 11, 12, 13, 14] [] (k := 3) prog_mixed (by kernel_rfl) (by kernel_rfl) rfl ?_; refine Zew rfl Zmv ?_; refine Zew rfl Zmi ?_; refine Zep rfl (fun _ => Zmv) ?_; refine Zep rfl (fun _ => Zmi) ?_; refine Zep rfl (fun _ => Zxadd) ?_; refine Zew rfl Zmv ?_; refine Zew rfl Zmi ?_; refine Zew rfl Zxadd ?_; (first | (refine Zew rfl (Val_indexAddr1 rfl rfl (show _ = ((a + q : Nat) : Int) by omega) (by omega)) ?_) | (refine Zew rfl (Val_indexAddr1 rfl rfl (show _ = ((a + q + 1 : Nat) : Int) by omega) (by omega)) ?_) | (refine Zew rfl Zia ?_)); refine Zew rfl Zld ?_; refine Zew rfl Zmv ?_; refine Zew rfl Zmi ?_; (first | (refine Zew rfl (Val_indexAddr1 rfl rfl (show _ = ((a + q : Nat) : Int) by omega) (by omega)) ?_) | (refine Zew rfl (Val_indexAddr1 rfl rfl (show _ = ((a + q + 1 : Nat) : Int) by omega) (by omega)) ?_) | (refine Zew rfl Zia ?_)); refine Zew rfl Zld ?_; (first | (refine Zew rfl (Val_indexAddr1 rfl rfl (show _ = ((a + q : Nat) : Int) by omega) (by omega)) ?_) | (refine Zew rfl (Val_indexAddr1 rfl rfl (show _ = ((a + q + 1 : Nat) : Int) by omega) (by omega)) ?_) | (refine Zew rfl Zia ?_)))) | (with_reducible apply EWalk_nil) | (refine GiO ?_; first | (refine AnyO_done (by kernel_rfl) ?_; (try with_reducible apply noP_normal); try with_reducible exact key.out) | (refine AnyO_1 15 (by decide +kernel) rfl ?_) | (refine AnyO_1 16 (by decide +kernel) rfl ?_) | (refine AnyO_1 17 (by decide +kernel) rfl ?_)) | (refine Zhn ?_) | (with_reducible apply QBlock_normal) | (refine AWalk_0 ?_; refine ZisO ?_; apply shr; intro key) | (with_reducible apply QAny_normal))
      exact QLoop_normal (q + 1) (.cons rfl .nil) (by repeat (first | exact Off.frame rfl | exact Off.refl _ _ | refine Off.frameT rfl rfl ?_ | refine Off.upd rfl ?_ | refine Off.updO rfl ?_)) (by repeat (first | exact Wk.refl _ | apply Wk.keep1 | apply Wk.drop | apply Wk.sv | apply Wk.svD | apply Wk.appD)) (by omega) (by omega)
    · have hqe : q = lo - 1 - a := by omega
      subst hqe
      repeat' (first | (refine Znh ?_) | (refine GiW ?_; first | (refine Zsq fun K hK => ?_) | (refine ZrN 9 fun _ => ?_; refine Zv Zmi ?_; refine Zv Zmi ?_; refine Zv Zxsub ?_; refine Zv Zxlss ?_) | (refine Zcd (fun hc => ?_) (fun hc => ?_) <;> (try (exfalso; omega))) | (with_reducible apply WP_exit) | (with_reducible apply WP_ret)) | (refine Zhn ?_) | (refine Zhx ?_) | (with_reducible apply QBlock_hit) | (with_reducible apply QLoop_exit) | (refine Zhr ?_))
      exact QBody_ret0 rfl ⟨_, rfl, rfl⟩
theorem sym_two (L : Hp) (n : Nat) (l : List Nat) (hl : Lt32 n l) (hn : n ≤ 1000) (b c f a m y : Nat) (ha : a < m) (hm : m < y) (hy : y ≤ n) (h1 : ¬ m - a = 1) (h2 : y - m = 1) :
    Tri Try.prog N w0 ((b, Blk 97 (us l)) :: L) 112 [.slice (some ⟨b, 0, none⟩) n c, .int .i64 a, .int .i64 m, .int .i64 y, cmpV].toArray fun r L' => ∃ v, r = .returned v ∧ L' = (b, Blk 97 (us (sym (f + 1) a m y l))) :: L := by
  have hF : sym (f + 1) a m y l = shD m (m - bsr (fun h => !decide (pc (gt l m) < pc (gt l h))) (m - a) a m) l := by
    show (if _ then _ else if _ then _ else _) = _; rw [if_neg h1, if_pos h2]
  rw [hF]
  obtain ⟨R, hR⟩ : ∃ R, bsr (fun h => !decide (pc (gt l m) < pc (gt l h))) (m - a) a m = R := ⟨_, rfl⟩
  have hRin := bsr_in (p := fun h => !decide (pc (gt l m) < pc (gt l h))) (m - a) (lo := a) (hi := m) (by omega)
  rw [hR] at hRin ⊢
  unfold cmpV
  refine tri_of_WP Try.func112 rfl (n := 220) rfl (by simp) ?_
  repeat' (first | (refine Znh ?_) | (refine GiW ?_; first | (refine Zsq fun K hK => ?_) | (refine ZrN 0 fun _ => ?_; refine Zv Zmi ?_; refine Zv Zmi ?_; refine Zv Zxsub ?_; refine Zv Zxeql ?_) | (refine ZrN 12 fun _ => ?_; refine Zv Zmi ?_; refine Zv Zmi ?_; refine Zv Zxsub ?_; refine Zv Zxeql ?_) | (refine ZrN 13 fun _ => ?_; refine Zv Zmi ?_; refine Zv Zai ?_) | (refine ZrN 14 fun _ => ?_; refine Zv Zmi ?_; refine Zv Zai ?_) | (refine Zcd (fun hc => ?_) (fun hc => ?_) <;> (try (exfalso; omega))) | (with_reducible apply WP_skip) | (with_reducible apply WP_block)) | (refine Zhn ?_))
  refine WP_loop [14, 15, 16, 83, 84, 85, 86, 87, 88, 89, 90, 91, 92, 93, 94, 95, 96, 97, 98, 99, 100, 101, 102, 103, 104, 105, 106] (fun st : Nat × Nat × Nat => [(14, .int .i64 st.2.1), (15, .int .i64 st.2.2)]) (fun _ => (b, Blk 97 (us l)) :: L)
    (fun st => bsr (fun h => !decide (pc (gt l m) < pc (gt l h))) st.1 st.2.1 st.2.2 = R ∧ st.2.2 - st.2.1 ≤ st.1 ∧ st.2.1 ≤ st.2.2 ∧ st.2.2 ≤ n) (fun st => st.2.2 - st.2.1) (m - a, a, m) (.cons rfl (.cons rfl .nil)) (Wk.refl _) ⟨hR, by dsimp only; omega, by dsimp only; omega, by dsimp only; omega⟩ ?_
  rintro ⟨g, lo, hi⟩ j0 ⟨hB, hg, hlh, hhi⟩
  dsimp only at hB hg hlh hhi ⊢
  by_cases hlt : lo < hi
  · obtain ⟨g, rfl⟩ : ∃ g', g = g' + 1 := ⟨g - 1, by omega⟩
    obtain ⟨h, hh⟩ : ∃ h, (lo + hi) / 2 ^ 1 = h := ⟨_, rfl⟩
    have hb1 : lo ≤ h ∧ h < hi := by omega
    have hB' : (if ¬ pc (gt l m) < pc (gt l h) then bsr (fun h => !decide (pc (gt l m) < pc (gt l h))) g (h + 1) hi else bsr (fun h => !decide (pc (gt l m) < pc (gt l h))) g lo h) = R := by
      rw [← hB]
      show _ = (if _ then (if _ then _ else _) else _)
      rw [if_pos hlt, hh]
      simp only [Bool.not_eq_true', decide_eq_false_iff_not]
    have c1 : (us l)[0 + h]? = some (.int .u64 (gt l h : Int)) := us_get (by rw [hl.1]; omega)
    have c2 : (us l)[0 + m]? = some (.int .u64 (gt l m : Int)) := us_get (by rw [hl.1]; omega)
    have hc1 := fun L => cmp_ret N w0 L (gt l m) (gt l h) (hl.gt (by omega)) (hl.gt (by omega))
    have hsh : ∀ {L e d ty pos af g x y' t t'} (hx : ev e x = .int .u64 ((lo : Int) + hi)) (hy : ev e y' = .int .u64 ((1 : Nat) : Int)), Val Try.prog N w0 L e ⟨d, .binOp .shr t x y' t', ty, pos, af, g⟩ (.int .u64 (h : Int)) := by
      intro L e d ty pos af g x y' t t' hx hy
      have := Val_shr (P := Try.prog) (N := N) (w0 := w0) (L := L) (d := d) (ty := ty) (pos := pos) (af := af) (g := g) (t := t) (t' := t') (a := lo + hi) (i := 1) (by rw [hx]; congr 1) hy (by decide)
      rw [hh] at this
      exact this
    repeat' (first | (refine GiP ?_; first | (refine Znh ?_) | (with_reducible refine Znl ?_)) | (refine GiW ?_; first | (refine Zsq fun K hK => ?_) | (refine ZrN 15 fun _ => ?_; refine Zv Zmi ?_; refine Zv Zmi ?_; refine Zv Zxlss ?_) | (refine ZrN 16 fun _ => ?_; refine Zv Zmi ?_; refine Zv Zmi ?_; refine Zv Zxadd ?_; refine Zv Zxco ?_; refine Zv (hsh rfl rfl) ?_; refine Zv Zxco ?_; refine Zv Zai ?_) | (refine ZrN 18 fun _ => ?_; refine Zv Zmi ?_; refine Zv Zxadd ?_; refine Zv Zai ?_) | (refine ZrN 19 fun _ => ?_; refine Zv Zmi ?_; refine Zv Zai ?_) | (refine Zcd (fun hc => ?_) (fun hc => ?_) <;> (try (exfalso; omega))) | (with_reducible apply WP_skip) | (with_reducible apply WP_block) | (refine WP_drawn (id := 17) [0, 1, 2, 3, 4, 5, 6, 7, 8, 9, 10, 11] [] (k := 0) prog_mixed (by kernel_rfl) rfl ?_; refine Zew rfl Zmv ?_; refine Zew rfl Zmv ?_; refine Zew rfl Zmi ?_; refine Zew rfl Zia ?_; refine Zew rfl Zld ?_; refine Zew rfl Zmv ?_; refine Zew rfl Zmi ?_; refine Zew rfl Zia ?_; refine Zew rfl Zld ?_; refine Zec rfl (Enters_val rfl rfl) (fun X => hc1 _) ?_; refine Zew rfl Zxlss ?_; refine Zew rfl Zxnot ?_)) | (with_reducible apply EWalk_nil) | (refine AnyO_done (by kernel_rfl) ?_; (try with_reducible apply noP_normal); try with_reducible exact key.out) | (refine Zhn ?_) | (with_reducible apply QBlock_normal) | (refine AWalk_0 ?_; refine ZisO ?_; apply shr; intro key))
    · rw [if_pos (by first | omega | (simp at hc; omega))] at hB'
      exact QLoop_normal (g, h + 1, hi) (.cons rfl (.cons rfl .nil)) (by repeat (first | exact Off.frame rfl | exact Off.refl _ _ | refine Off.frameT rfl rfl ?_ | refine Off.upd rfl ?_ | refine Off.updO rfl ?_)) (by repeat (first | exact Wk.refl _ | apply Wk.keep1 | apply Wk.drop | apply Wk.sv | apply Wk.svD | apply Wk.appD)) ⟨hB', by dsimp only; omega, by dsimp only; omega, hhi⟩ (by dsimp only; omega)
    · rw [if_neg (by first | omega | (simp at hc; omega))] at hB'
      exact QLoop_normal (g, lo, h) (.cons rfl (.cons rfl .nil)) (by repeat (first | exact Off.frame rfl | exact Off.refl _ _ | refine Off.frameT rfl rfl ?_ | refine Off.upd rfl ?_ | refine Off.updO rfl ?_)) (by repeat (first | exact Wk.refl _ | apply Wk.keep1 | apply Wk.drop | apply Wk.sv | apply Wk.svD | apply Wk.appD)) ⟨hB', by dsimp only; omega, by dsimp only; omega, by dsimp only; omega⟩ (by dsimp only; omega)
  · have hlR : lo = R := by rw [← hB, bsr_stop hlt]
    subst hlR
    repeat' (first | (refine Znh ?_) | (refine GiW ?_; first | (refine Zsq fun K hK => ?_) | (refine ZrN 15 fun _ => ?_; refine Zv Zmi ?_; refine Zv Zmi ?_; refine Zv Zxlss ?_) | (refine ZrN 20 fun _ => ?_; refine Zv Zmi ?_; refine Zv Zai ?_) | (refine Zcd (fun hc => ?_) (fun hc => ?_) <;> (try (exfalso; omega))) | (with_reducible apply WP_block) | (with_reducible apply WP_exit)) | (refine Zhn ?_) | (refine Zhx ?_) | (with_reducible apply QBlock_hit) | (with_reducible apply QLoop_exit))
    refine WP_loop [17, 108, 109, 110, 111, 112, 113, 114, 115, 116, 117, 118, 119, 120, 121, 122, 123, 124, 125, 126, 127, 128] (fun q : Nat => [(17, .int .i64 ((m - q : Nat) : Int))]) (fun q => (b, Blk 97 (us (shD m q l))) :: L) (fun q => q ≤ m - lo) (fun q => m - lo - q) 0 (.cons rfl .nil) (Wk.refl _) (Nat.zero_le _) ?_
    intro q j1 hq
    by_cases hql : q < m - lo
    · have hs := shD_lt hl (m := m) (by omega) q
      have h1 : (us (shD m q l))[0 + (m - q)]? = some (.int .u64 (gt (shD m q l) (m - q) : Int)) := us_get (by rw [hs.1]; omega)
      have h2 : (us (shD m q l))[0 + (m - q - 1)]? = some (.int .u64 (gt (shD m q l) (m - q - 1) : Int)) := us_get (by rw [hs.1]; omega)
      repeat' (first | (refine GiP ?_; first | (refine Znh ?_) | (with_reducible refine Znl ?_) | (refine Zatn ?_; refine OPS_turnN (Turn_storeG rfl (rfl : _ = Value.int _ _) (by repeat (first | exact Up.here | apply Up.there | apply Up.sv)) rfl (by rw [us_len]; first | (rw [hs.1]; simp only [List.length_singleton]; omega) | (rw [List.length_set, hs.1]; simp only [List.length_singleton]; omega)) us_set rfl rfl) rfl rfl ?_) | (refine Zatd 128 ?_; refine Zv (Val_indexAddr1 rfl rfl (show _ = ((m - q - 1 : Nat) : Int) by omega) (by omega)) ?_)) | (refine GiW ?_; first | (refine Zsq fun K hK => ?_) | (refine ZrN 21 fun _ => ?_; refine Zv Zmi ?_; refine Zv Zmi ?_; refine Zv Zxgtr ?_) | (refine ZrN 22 fun _ => ?_; refine Zv Zmi ?_; refine Zv Zxsub ?_; refine Zv Zai ?_) | (refine Zcd (fun hc => ?_) (fun hc => ?_) <;> (try (exfalso; omega))) | (with_reducible apply WP_skip) | (with_reducible apply WP_block) | (refine WP_drawnT (id := 23) [2, 3, 4] [0, 1, 2, 3, 4, 5, 6, 7, 8, 9, 10, 11, 12, 13, 14] [] (k := 3) prog_mixed (by kernel_rfl) (by kernel_rfl) rfl ?_; refine Zew rfl Zmv ?_; refine Zew rfl Zmi ?_; refine Zep rfl (fun _ => Zmv) ?_; refine Zep rfl (fun _ => Zmi) ?_; refine Zep rfl (fun _ => Zxsub) ?_; refine Zew rfl Zmv ?_; refine Zew rfl Zmi ?_; refine Zew rfl Zxsub ?_; (first | (refine Zew rfl (Val_indexAddr1 rfl rfl (show _ = ((m - q : Nat) : Int) by omega) (by omega)) ?_) | (refine Zew rfl (Val_indexAddr1 rfl rfl (show _ = ((m - q - 1 : Nat) : Int) by omega) (by omega)) ?_) | (refine Zew rfl Zia ?_)); refine Zew rfl Zld ?_; refine Zew rfl Zmv ?_; refine Zew rfl Zmi ?_; (first | (refine Zew rfl (Val_indexAddr1 rfl rfl (show _ = ((m - q : Nat) : Int) by omega) (by omega)) ?_) | (refine Zew rfl (Val_indexAddr1 rfl rfl (show _ = ((m - q - 1 : Nat) : Int) by omega) (by omega)) ?_) | (refine Zew rfl Zia ?_)); refine Zew rfl Zld ?_; (first | (refine Zew rfl (Val_indexAddr1 rfl rfl (show _ = ((m - q : Nat) : Int) by omega) (by omega)) ?_) | (refine Zew rfl (Val_indexAddr1 rfl rfl (show _ = ((m - q - 1 : Nat) : Int) by omega) (by omega)) ?_) | (refine Zew rfl Zia ?_)))) | (with_reducible apply EWalk_nil) | (refine GiO ?_; first | (refine AnyO_done (by kernel_rfl) ?_; (try with_reducible apply noP_normal); try with_reducible exact key.out) | (refine AnyO_1 15 (by decide +kernel) rfl ?_) | (refine AnyO_1 16 (by decide +kernel) rfl ?_) | (refine AnyO_1 17 (by decide +kernel) rfl ?_)) | (refine Zhn ?_) | (with_reducible apply QBlock_normal) | (refine AWalk_0 ?_; refine ZisO ?_; apply shr; intro key) | (with_reducible apply QAny_normal))
      exact QLoop_normal (q + 1) (.cons (by show Value.int .i64 (((m - q : Nat) : Int) - 1) = Value.int .i64 ((m - (q + 1) : Nat) : Int); congr 1; omega) .nil) (by repeat (first | exact Off.frame rfl | exact Off.refl _ _ | refine Off.frameT rfl rfl ?_ | refine Off.upd rfl ?_ | refine Off.updO rfl ?_)) (by repeat (first | exact Wk.refl _ | apply Wk.keep1 | apply Wk.drop | apply Wk.sv | apply Wk.svD | apply Wk.appD)) (by omega) (by omega)
    · have hqe : q = m - lo := by omega
      subst hqe
      repeat' (first | (refine Znh ?_) | (refine GiW ?_; first | (refine Zsq fun K hK => ?_) | (refine ZrN 21 fun _ => ?_; refine Zv Zmi ?_; refine Zv Zmi ?_; refine Zv Zxgtr ?_) | (refine Zcd (fun hc => ?_) (fun hc => ?_) <;> (try (exfalso; omega))) | (with_reducible apply WP_exit) | (with_reducible apply WP_ret)) | (refine Zhn ?_) | (refine Zhx ?_) | (with_reducible apply QBlock_hit) | (with_reducible apply QLoop_exit) | (refine Zhr ?_))
      exact QBody_ret0 rfl ⟨_, rfl, rfl⟩
end
end Go.Proofs.Ytlpahkmfjpjheaa
end

section
namespace Go.Proofs.Ytlpahkmfjpjheaa
open Go.RowKit
attribute [local irreducible] AnyO AnyB QAny QB EWalk AWalk Ev WP OPS QThen QBlock QScope QLoop QBody Val New Turn Tri Enters PostA Blk Ro
section
variable (N : Nat) (w0 : World)
set_option maxRecDepth 100000 in
set_option maxHeartbeats 4000000 in
theorem sym_tri (L : Hp) (n : Nat) (hn : n ≤ 1000) (b c : Nat) : ∀ (f : Nat) (l : List Nat) (a m y : Nat) (A M Y : Int), Lt32 n l → A = a → M = m → Y = y → a < m → m < y → y ≤ n → y - a ≤ f →
    Tri Try.prog N w0 ((b, Blk 97 (us l)) :: L) 112 [.slice (some ⟨b, 0, none⟩) n c, .int .i64 A, .int .i64 M, .int .i64 Y, cmpV].toArray fun r L' => ∃ v, r = .returned v ∧ L' = (b, Blk 97 (us (sym f a m y l))) :: L
  | 0, l, a, m, y, A, M, Y, _, _, _, _, h1, h2, _, h4 => by omega
  | f + 1, l, a, m, y, A, M, Y, hl, hA, hM, hY, ha, hm, hy, hf => by
    subst hA hM hY
    by_cases h1 : m - a = 1
    · exact sym_one N w0 L n l hl hn b c f a m y ha hm hy h1
    by_cases h2 : y - m = 1
    · exact sym_two N w0 L n l hl hn b c f a m y ha hm hy h1 h2
    obtain ⟨mid, hmid⟩ : ∃ mid, (a + y) / 2 ^ 1 = mid := ⟨_, rfl⟩
    obtain ⟨s, hs⟩ : ∃ s, symR l a m y = s := ⟨_, rfl⟩
    obtain ⟨e, he⟩ : ∃ e, mid + m - s = e := ⟨_, rfl⟩
    have hR := symR_in (l := l) ha hm
    rw [hmid, hs, he] at hR
    have hmb : a < mid ∧ mid < y := by omega
    have hF : sym (f + 1) a m y l = (if mid < e ∧ e < y then sym f mid e y (if a < s ∧ s < mid then sym f a s mid (if s < m ∧ m < e then rotL m (m - s + (e - m)) (m - s) (e - m) l else l) else (if s < m ∧ m < e then rotL m (m - s + (e - m)) (m - s) (e - m) l else l)) else (if a < s ∧ s < mid then sym f a s mid (if s < m ∧ m < e then rotL m (m - s + (e - m)) (m - s) (e - m) l else l) else (if s < m ∧ m < e then rotL m (m - s + (e - m)) (m - s) (e - m) l else l))) := by
      show (if _ then _ else if _ then _ else _) = _
      rw [if_neg h1, if_neg h2]
      dsimp only
      rw [hmid, hs, he]
    rw [hF]
    have hsR : (if mid < m then bsr (fun c => !decide (pc (gt l (mid + m - 1 - c)) < pc (gt l c))) (mid - (mid + m - y)) (mid + m - y) mid else bsr (fun c => !decide (pc (gt l (mid + m - 1 - c)) < pc (gt l c))) (m - a) a m) = s := by
      rw [← hs, ← hmid]; rfl
    have ih := sym_tri L n hn b c f
    unfold cmpV at ih ⊢
    have hrot := rot_triI N w0 L n
    unfold cmpV at hrot
    refine tri_of_WP Try.func112 rfl (n := 220) rfl (by simp) ?_
    have hsh : ∀ {L e d ty pos af g x y' t t'} (hx : ev e x = .int .u64 ((a : Int) + y)) (hy : ev e y' = .int .u64 ((1 : Nat) : Int)), Val Try.prog N w0 L e ⟨d, .binOp .shr t x y' t', ty, pos, af, g⟩ (.int .u64 (mid : Int)) := by
      intro L e d ty pos af g x y' t t' hx hy
      have := Val_shr (P := Try.prog) (N := N) (w0 := w0) (L := L) (d := d) (ty := ty) (pos := pos) (af := af) (g := g) (t := t) (t' := t') (a := a + y) (i := 1) (by rw [hx]; congr 1) hy (by decide)
      rw [hmid] at this
      exact this
    by_cases hmm : mid < m
    · rw [if_pos hmm] at hsR
      repeat' (first | (refine Znh ?_) | (refine GiW ?_; first | (refine Zsq fun K hK => ?_) | (refine ZrN 0 fun _ => ?_; refine Zv Zmi ?_; refine Zv Zmi ?_; refine Zv Zxsub ?_; refine Zv Zxeql ?_) | (refine ZrN 12 fun _ => ?_; refine Zv Zmi ?_; refine Zv Zmi ?_; refine Zv Zxsub ?_; refine Zv Zxeql ?_) | (refine ZrN 24 fun _ => ?_; refine Zv Zmi ?_; refine Zv Zmi ?_; refine Zv Zxadd ?_; refine Zv Zxco ?_; refine Zv (hsh rfl rfl) ?_; refine Zv Zxco ?_; refine Zv Zai ?_) | (refine ZrN 25 fun _ => ?_; refine Zv Zmi ?_; refine Zv Zmi ?_; refine Zv Zxadd ?_; refine Zv Zai ?_) | (refine ZrN 26 fun _ => ?_; refine Zv Zai ?_; refine Zv Zai ?_) | (refine ZrN 27 fun _ => ?_; refine Zv Zmi ?_; refine Zv Zmi ?_; refine Zv Zxgtr ?_) | (refine ZrN 28 fun _ => ?_; refine Zv Zmi ?_; refine Zv Zmi ?_; refine Zv Zxsub ?_; refine Zv Zai ?_) | (refine ZrN 29 fun _ => ?_; refine Zv Zmi ?_; refine Zv Zai ?_) | (refine ZrN 32 fun _ => ?_; refine Zv Zmi ?_; refine Zv Zxsub ?_; refine Zv Zai ?_) | (refine Zcd (fun hc => ?_) (fun hc => ?_) <;> (try (exfalso; omega))) | (with_reducible apply WP_skip) | (with_reducible apply WP_block)) | (refine Zhn ?_))
      refine WP_loop [20, 21, 23, 149, 150, 151, 152, 153, 154, 155, 156, 157, 158, 159, 160, 161, 162, 163, 164, 165, 166, 167, 168, 169, 170, 171, 172, 173, 174] (fun st : Nat × Nat × Nat => [(20, .int .i64 st.2.1), (21, .int .i64 st.2.2)]) (fun _ => (b, Blk 97 (us l)) :: L)
        (fun st => bsr (fun c => !decide (pc (gt l (mid + m - 1 - c)) < pc (gt l c))) st.1 st.2.1 st.2.2 = s ∧ st.2.2 - st.2.1 ≤ st.1 ∧ st.2.1 ≤ st.2.2 ∧ mid + m - y ≤ st.2.1 ∧ st.2.2 ≤ mid) (fun st => st.2.2 - st.2.1) (mid - (mid + m - y), mid + m - y, mid) (.cons (by show Value.int .i64 ((mid : Int) + m - y) = Value.int .i64 ((mid + m - y : Nat) : Int); congr 1; omega) (.cons rfl .nil)) (Wk.refl _) ⟨hsR, by dsimp only; omega, by dsimp only; omega, by dsimp only; omega, by dsimp only; omega⟩ ?_
      rintro ⟨g, lo, hi⟩ j0 ⟨hB, hg, hlh, hlo, hhi⟩
      dsimp only at hB hg hlh hlo hhi ⊢
      by_cases hlt : lo < hi
      · obtain ⟨g, rfl⟩ : ∃ g', g = g' + 1 := ⟨g - 1, by omega⟩
        obtain ⟨h, hh⟩ : ∃ h, (lo + hi) / 2 ^ 1 = h := ⟨_, rfl⟩
        have hb1 : lo ≤ h ∧ h < hi := by omega
        obtain ⟨p, hp⟩ : ∃ p, mid + m - 1 - h = p := ⟨_, rfl⟩
        have hpn : p < n := by omega
        have hB' : (if ¬ pc (gt l p) < pc (gt l h) then bsr (fun c => !decide (pc (gt l (mid + m - 1 - c)) < pc (gt l c))) g (h + 1) hi else bsr (fun c => !decide (pc (gt l (mid + m - 1 - c)) < pc (gt l c))) g lo h) = s := by
          rw [← hB]
          show _ = (if _ then (if _ then _ else _) else _)
          rw [if_pos hlt, hh]
          simp only [hp, Bool.not_eq_true', decide_eq_false_iff_not]
        have c1 : (us l)[0 + h]? = some (.int .u64 (gt l h : Int)) := us_get (by rw [hl.1]; omega)
        have c2 : (us l)[0 + p]? = some (.int .u64 (gt l p : Int)) := us_get (by rw [hl.1]; omega)
        have hc1 := fun L => cmp_ret N w0 L (gt l p) (gt l h) (hl.gt (by omega)) (hl.gt (by omega))
        have hsh2 : ∀ {L e d ty pos af g x y' t t'} (hx : ev e x = .int .u64 ((lo : Int) + hi)) (hy : ev e y' = .int .u64 ((1 : Nat) : Int)), Val Try.prog N w0 L e ⟨d, .binOp .shr t x y' t', ty, pos, af, g⟩ (.int .u64 (h : Int)) := by
          intro L e d ty pos af g x y' t t' hx hy
          have := Val_shr (P := Try.prog) (N := N) (w0 := w0) (L := L) (d := d) (ty := ty) (pos := pos) (af := af) (g := g) (t := t) (t' := t') (a := lo + hi) (i := 1) (by rw [hx]; congr 1) hy (by decide)
          rw [hh] at this
          exact this
        repeat' (first | (refine GiP ?_; first | (refine Znh ?_) | (with_reducible refine Znl ?_)) | (refine GiW ?_; first | (refine Zsq fun K hK => ?_) | (refine ZrN 33 fun _ => ?_; refine Zv Zmi ?_; refine Zv Zmi ?_; refine Zv Zxlss ?_) | (refine ZrN 34 fun _ => ?_; refine Zv Zmi ?_; refine Zv Zmi ?_; refine Zv Zxadd ?_; refine Zv Zxco ?_; refine Zv (hsh2 rfl rfl) ?_; refine Zv Zxco ?_; refine Zv Zai ?_) | (refine ZrN 36 fun _ => ?_; refine Zv Zmi ?_; refine Zv Zxadd ?_; refine Zv Zai ?_) | (refine ZrN 37 fun _ => ?_; refine Zv Zmi ?_; refine Zv Zai ?_) | (refine Zcd (fun hc => ?_) (fun hc => ?_) <;> (try (exfalso; omega))) | (with_reducible apply WP_skip) | (with_reducible apply WP_block) | (refine WP_drawn (id := 35) [0, 1, 2, 3, 4, 5, 6, 7, 8, 9, 10, 11, 12, 13] [] (k := 0) prog_mixed (by kernel_rfl) rfl ?_; refine Zew rfl Zmv ?_; refine Zew rfl Zmv ?_; refine Zew rfl Zmi ?_; refine Zew rfl Zmi ?_; refine Zew rfl Zxsub ?_; (first | (refine Zew rfl (Val_indexAddr1 rfl rfl (show _ = ((p : Nat) : Int) by omega) (by omega)) ?_) | (refine Zew rfl Zia ?_)); refine Zew rfl Zld ?_; refine Zew rfl Zmv ?_; refine Zew rfl Zmi ?_; (first | (refine Zew rfl (Val_indexAddr1 rfl rfl (show _ = ((p : Nat) : Int) by omega) (by omega)) ?_) | (refine Zew rfl Zia ?_)); refine Zew rfl Zld ?_; refine Zec rfl (Enters_val rfl rfl) (fun X => hc1 _) ?_; refine Zew rfl Zxlss ?_; refine Zew rfl Zxnot ?_)) | (with_reducible apply EWalk_nil) | (refine AnyO_done (by kernel_rfl) ?_; (try with_reducible apply noP_normal); try with_reducible exact key.out) | (refine Zhn ?_) | (with_reducible apply QBlock_normal) | (refine AWalk_0 ?_; refine ZisO ?_; apply shr; intro key))
        · rw [if_pos (by first | omega | (simp at hc; omega))] at hB'
          exact QLoop_normal (g, h + 1, hi) (.cons rfl (.cons rfl .nil)) (by repeat (first | exact Off.frame rfl | exact Off.refl _ _ | refine Off.frameT rfl rfl ?_ | refine Off.upd rfl ?_ | refine Off.updO rfl ?_)) (by repeat (first | exact Wk.refl _ | apply Wk.keep1 | apply Wk.drop | apply Wk.sv | apply Wk.svD | apply Wk.appD)) ⟨hB', by dsimp only; omega, by dsimp only; omega, by dsimp only; omega, hhi⟩ (by dsimp only; omega)
        · rw [if_neg (by first | omega | (simp at hc; omega))] at hB'
          exact QLoop_normal (g, lo, h) (.cons rfl (.cons rfl .nil)) (by repeat (first | exact Off.frame rfl | exact Off.refl _ _ | refine Off.frameT rfl rfl ?_ | refine Off.upd rfl ?_ | refine Off.updO rfl ?_)) (by repeat (first | exact Wk.refl _ | apply Wk.keep1 | apply Wk.drop | apply Wk.sv | apply Wk.svD | apply Wk.appD)) ⟨hB', by dsimp only; omega, by dsimp only; omega, hlo, by dsimp only; omega⟩ (by dsimp only; omega)
      · have hlR : lo = s := by rw [← hB, bsr_stop hlt]
        subst hlR
        have k1 : lo < m → m < e → Lt32 n (rotL m (m - lo + (e - m)) (m - lo) (e - m) l) := fun _ _ => rotL_lt _ hl (by omega) (by omega)
        have k2 : a < lo → lo < mid → ∀ l', Lt32 n l' → Lt32 n (sym f a lo mid l') := fun _ _ l' h => sym_lt f h (by omega) (by omega) (by omega)
        repeat' (first | (refine GiP ?_; first | (refine Znh ?_) | (with_reducible refine Znl ?_) | (refine Zatd 185 ?_; (first | (refine Zv Zxpt ?_) | (refine Zv Zxpf ?_))) | (refine Zatd 199 ?_; (first | (refine Zv Zxpt ?_) | (refine Zv Zxpf ?_))) | (refine Zatd 213 ?_; (first | (refine Zv Zxpt ?_) | (refine Zv Zxpf ?_))) | (refine Zatd 182 ?_; refine Zv Zmi ?_) | (refine Zatd 183 ?_; refine Zv Zmi ?_) | (refine Zatd 184 ?_; refine Zv Zxlss ?_) | (refine Zatd 196 ?_; refine Zv Zmi ?_) | (refine Zatd 197 ?_; refine Zv Zmi ?_) | (refine Zatd 198 ?_; refine Zv Zxlss ?_) | (refine Zatd 210 ?_; refine Zv Zmi ?_) | (refine Zatd 211 ?_; refine Zv Zmi ?_) | (refine Zatd 212 ?_; refine Zv Zxlss ?_) | (refine Zsk ?_) | (refine Zsp (fun hc => ?_) (fun hc => ?_) <;> (try (exfalso; omega)))) | (refine GiW ?_; first | (refine Zsq fun K hK => ?_) | (refine ZrN 33 fun _ => ?_; refine Zv Zmi ?_; refine Zv Zmi ?_; refine Zv Zxlss ?_) | (refine ZrN 38 fun _ => ?_; refine Zv Zmi ?_; refine Zv Zmi ?_; refine Zv Zxsub ?_; refine Zv Zai ?_) | (refine ZrG 39 ?_; refine Zv Zmi ?_; refine Zv Zmi ?_; refine Zv Zxlss ?_; refine Zv Zmb ?_) | (refine ZrN 40 fun _ => ?_; refine Zv Zmv ?_; refine Zv Zmi ?_; refine Zv Zmi ?_; refine Zv Zmi ?_; refine Zv Zmv ?_; refine OPS_retKS (Enters_fn rfl) (hrot _ hl hn b c lo m e _ _ _ rfl rfl (by omega) (by omega) (by omega) (by omega)) rfl rfl rfl (fun v191 L191 h191 => ?_); subst h191) | (refine ZrG 41 ?_; refine Zv Zmi ?_; refine Zv Zmi ?_; refine Zv Zxlss ?_; refine Zv Zmb ?_) | (refine ZrN 42 fun _ => ?_; refine Zv Zmv ?_; refine Zv Zmi ?_; refine Zv Zmi ?_; refine Zv Zmi ?_; refine Zv Zmv ?_; (first | (refine OPS_retKS (Enters_fn rfl) (ih _ a lo mid _ _ _ (by first | exact hl | exact k1 (by omega) (by omega)) rfl rfl rfl (by omega) (by omega) (by omega) (by omega)) rfl rfl rfl (fun v205 L205 h205 => ?_); subst h205) | (refine OPS_retKS (Enters_fn rfl) (ih _ mid e y _ _ _ (by first | exact hl | exact k1 (by omega) (by omega) | exact k2 (by omega) (by omega) _ hl | exact k2 (by omega) (by omega) _ (k1 (by omega) (by omega))) rfl (by omega) rfl (by omega) (by omega) (by omega) (by omega)) rfl rfl rfl (fun v219 L219 h219 => ?_); subst h219))) | (refine ZrG 43 ?_; refine Zv Zmi ?_; refine Zv Zmi ?_; refine Zv Zxlss ?_; refine Zv Zmb ?_) | (refine ZrN 44 fun _ => ?_; refine Zv Zmv ?_; refine Zv Zmi ?_; refine Zv Zmi ?_; refine Zv Zmi ?_; refine Zv Zmv ?_; (first | (refine OPS_retKS (Enters_fn rfl) (ih _ a lo mid _ _ _ (by first | exact hl | exact k1 (by omega) (by omega)) rfl rfl rfl (by omega) (by omega) (by omega) (by omega)) rfl rfl rfl (fun v205 L205 h205 => ?_); subst h205) | (refine OPS_retKS (Enters_fn rfl) (ih _ mid e y _ _ _ (by first | exact hl | exact k1 (by omega) (by omega) | exact k2 (by omega) (by omega) _ hl | exact k2 (by omega) (by omega) _ (k1 (by omega) (by omega))) rfl (by omega) rfl (by omega) (by omega) (by omega) (by omega)) rfl rfl rfl (fun v219 L219 h219 => ?_); subst h219))) | (refine WP_cond_false rfl ?_) | (refine Zcd (fun hc => ?_) (fun hc => ?_) <;> (try (exfalso; omega))) | (with_reducible apply WP_skip) | (with_reducible apply WP_exit)) | (refine Zhn ?_) | (refine Zhx ?_) | (with_reducible apply QBlock_hit) | (with_reducible apply QLoop_exit))
        all_goals (refine QBody_end0 rfl ⟨_, rfl, ?_⟩; by_cases p1 : lo < m ∧ m < e <;> by_cases p2 : a < lo ∧ lo < mid <;> by_cases p3 : mid < e ∧ e < y <;> first | (exfalso; omega) | ((first | rw [if_pos p3] | rw [if_neg p3]); (first | rw [if_pos p2] | rw [if_neg p2]); (first | rw [if_pos p1] | rw [if_neg p1])))
    · rw [if_neg hmm] at hsR
      repeat' (first | (refine Znh ?_) | (refine GiW ?_; first | (refine Zsq fun K hK => ?_) | (refine ZrN 0 fun _ => ?_; refine Zv Zmi ?_; refine Zv Zmi ?_; refine Zv Zxsub ?_; refine Zv Zxeql ?_) | (refine ZrN 12 fun _ => ?_; refine Zv Zmi ?_; refine Zv Zmi ?_; refine Zv Zxsub ?_; refine Zv Zxeql ?_) | (refine ZrN 24 fun _ => ?_; refine Zv Zmi ?_; refine Zv Zmi ?_; refine Zv Zxadd ?_; refine Zv Zxco ?_; refine Zv (hsh rfl rfl) ?_; refine Zv Zxco ?_; refine Zv Zai ?_) | (refine ZrN 25 fun _ => ?_; refine Zv Zmi ?_; refine Zv Zmi ?_; refine Zv Zxadd ?_; refine Zv Zai ?_) | (refine ZrN 26 fun _ => ?_; refine Zv Zai ?_; refine Zv Zai ?_) | (refine ZrN 27 fun _ => ?_; refine Zv Zmi ?_; refine Zv Zmi ?_; refine Zv Zxgtr ?_) | (refine ZrN 30 fun _ => ?_; refine Zv Zmi ?_; refine Zv Zai ?_) | (refine ZrN 31 fun _ => ?_; refine Zv Zmi ?_; refine Zv Zai ?_) | (refine ZrN 32 fun _ => ?_; refine Zv Zmi ?_; refine Zv Zxsub ?_; refine Zv Zai ?_) | (refine Zcd (fun hc => ?_) (fun hc => ?_) <;> (try (exfalso; omega))) | (with_reducible apply WP_skip) | (with_reducible apply WP_block)) | (refine Zhn ?_))
      refine WP_loop [20, 21, 23, 149, 150, 151, 152, 153, 154, 155, 156, 157, 158, 159, 160, 161, 162, 163, 164, 165, 166, 167, 168, 169, 170, 171, 172, 173, 174] (fun st : Nat × Nat × Nat => [(20, .int .i64 st.2.1), (21, .int .i64 st.2.2)]) (fun _ => (b, Blk 97 (us l)) :: L)
        (fun st => bsr (fun c => !decide (pc (gt l (mid + m - 1 - c)) < pc (gt l c))) st.1 st.2.1 st.2.2 = s ∧ st.2.2 - st.2.1 ≤ st.1 ∧ st.2.1 ≤ st.2.2 ∧ a ≤ st.2.1 ∧ st.2.2 ≤ m) (fun st => st.2.2 - st.2.1) (m - a, a, m) (.cons rfl (.cons rfl .nil)) (Wk.refl _) ⟨hsR, by dsimp only; omega, by dsimp only; omega, by dsimp only; omega, by dsimp only; omega⟩ ?_
      rintro ⟨g, lo, hi⟩ j0 ⟨hB, hg, hlh, hlo, hhi⟩
      dsimp only at hB hg hlh hlo hhi ⊢
      by_cases hlt : lo < hi
      · obtain ⟨g, rfl⟩ : ∃ g', g = g' + 1 := ⟨g - 1, by omega⟩
        obtain ⟨h, hh⟩ : ∃ h, (lo + hi) / 2 ^ 1 = h := ⟨_, rfl⟩
        have hb1 : lo ≤ h ∧ h < hi := by omega
        obtain ⟨p, hp⟩ : ∃ p, mid + m - 1 - h = p := ⟨_, rfl⟩
        have hpn : p < n := by omega
        have hB' : (if ¬ pc (gt l p) < pc (gt l h) then bsr (fun c => !decide (pc (gt l (mid + m - 1 - c)) < pc (gt l c))) g (h + 1) hi else bsr (fun c => !decide (pc (gt l (mid + m - 1 - c)) < pc (gt l c))) g lo h) = s := by
          rw [← hB]
          show _ = (if _ then (if _ then _ else _) else _)
          rw [if_pos hlt, hh]
          simp only [hp, Bool.not_eq_true', decide_eq_false_iff_not]
        have c1 : (us l)[0 + h]? = some (.int .u64 (gt l h : Int)) := us_get (by rw [hl.1]; omega)
        have c2 : (us l)[0 + p]? = some (.int .u64 (gt l p : Int)) := us_get (by rw [hl.1]; omega)
        have hc1 := fun L => cmp_ret N w0 L (gt l p) (gt l h) (hl.gt (by omega)) (hl.gt (by omega))
        have hsh2 : ∀ {L e d ty pos af g x y' t t'} (hx : ev e x = .int .u64 ((lo : Int) + hi)) (hy : ev e y' = .int .u64 ((1 : Nat) : Int)), Val Try.prog N w0 L e ⟨d, .binOp .shr t x y' t', ty, pos, af, g⟩ (.int .u64 (h : Int)) := by
          intro L e d ty pos af g x y' t t' hx hy
          have := Val_shr (P := Try.prog) (N := N) (w0 := w0) (L := L) (d := d) (ty := ty) (pos := pos) (af := af) (g := g) (t := t) (t' := t') (a := lo + hi) (i := 1) (by rw [hx]; congr 1) hy (by decide)
          rw [hh] at this
          exact this
        repeat' (first | (refine GiP ?_; first | (refine Znh ?_) | (with_reducible refine Znl ?_)) | (refine GiW ?_; first | (refine Zsq fun K hK => ?_) | (refine ZrN 33 fun _ => ?_; refine Zv Zmi ?_; refine Zv Zmi ?_; refine Zv Zxlss ?_) | (refine ZrN 34 fun _ => ?_; refine Zv Zmi ?_; refine Zv Zmi ?_; refine Zv Zxadd ?_; refine Zv Zxco ?_; refine Zv (hsh2 rfl rfl) ?_; refine Zv Zxco ?_; refine Zv Zai ?_) | (refine ZrN 36 fun _ => ?_; refine Zv Zmi ?_; refine Zv Zxadd ?_; refine Zv Zai ?_) | (refine ZrN 37 fun _ => ?_; refine Zv Zmi ?_; refine Zv Zai ?_) | (refine Zcd (fun hc => ?_) (fun hc => ?_) <;> (try (exfalso; omega))) | (with_reducible apply WP_skip) | (with_reducible apply WP_block) | (refine WP_drawn (id := 35) [0, 1, 2, 3, 4, 5, 6, 7, 8, 9, 10, 11, 12, 13] [] (k := 0) prog_mixed (by kernel_rfl) rfl ?_; refine Zew rfl Zmv ?_; refine Zew rfl Zmv ?_; refine Zew rfl Zmi ?_; refine Zew rfl Zmi ?_; refine Zew rfl Zxsub ?_; (first | (refine Zew rfl (Val_indexAddr1 rfl rfl (show _ = ((p : Nat) : Int) by omega) (by omega)) ?_) | (refine Zew rfl Zia ?_)); refine Zew rfl Zld ?_; refine Zew rfl Zmv ?_; refine Zew rfl Zmi ?_; (first | (refine Zew rfl (Val_indexAddr1 rfl rfl (show _ = ((p : Nat) : Int) by omega) (by omega)) ?_) | (refine Zew rfl Zia ?_)); refine Zew rfl Zld ?_; refine Zec rfl (Enters_val rfl rfl) (fun X => hc1 _) ?_; refine Zew rfl Zxlss ?_; refine Zew rfl Zxnot ?_)) | (with_reducible apply EWalk_nil) | (refine AnyO_done (by kernel_rfl) ?_; (try with_reducible apply noP_normal); try with_reducible exact key.out) | (refine Zhn ?_) | (with_reducible apply QBlock_normal) | (refine AWalk_0 ?_; refine ZisO ?_; apply shr; intro key))
        · rw [if_pos (by first | omega | (simp at hc; omega))] at hB'
          exact QLoop_normal (g, h + 1, hi) (.cons rfl (.cons rfl .nil)) (by repeat (first | exact Off.frame rfl | exact Off.refl _ _ | refine Off.frameT rfl rfl ?_ | refine Off.upd rfl ?_ | refine Off.updO rfl ?_)) (by repeat (first | exact Wk.refl _ | apply Wk.keep1 | apply Wk.drop | apply Wk.sv | apply Wk.svD | apply Wk.appD)) ⟨hB', by dsimp only; omega, by dsimp only; omega, by dsimp only; omega, hhi⟩ (by dsimp only; omega)
        · rw [if_neg (by first | omega | (simp at hc; omega))] at hB'
          exact QLoop_normal (g, lo, h) (.cons rfl (.cons rfl .nil)) (by repeat (first | exact Off.frame rfl | exact Off.refl _ _ | refine Off.frameT rfl rfl ?_ | refine Off.upd rfl ?_ | refine Off.updO rfl ?_)) (by repeat (first | exact Wk.refl _ | apply Wk.keep1 | apply Wk.drop | apply Wk.sv | apply Wk.svD | apply Wk.appD)) ⟨hB', by dsimp only; omega, by dsimp only; omega, hlo, by dsimp only; omega⟩ (by dsimp only; omega)
      · have hlR : lo = s := by rw [← hB, bsr_stop hlt]
        subst hlR
        have k1 : lo < m → m < e → Lt32 n (rotL m (m - lo + (e - m)) (m - lo) (e - m) l) := fun _ _ => rotL_lt _ hl (by omega) (by omega)
        have k2 : a < lo → lo < mid → ∀ l', Lt32 n l' → Lt32 n (sym f a lo mid l') := fun _ _ l' h => sym_lt f h (by omega) (by omega) (by omega)
        repeat' (first | (refine GiP ?_; first | (refine Znh ?_) | (with_reducible refine Znl ?_) | (refine Zatd 185 ?_; (first | (refine Zv Zxpt ?_) | (refine Zv Zxpf ?_))) | (refine Zatd 199 ?_; (first | (refine Zv Zxpt ?_) | (refine Zv Zxpf ?_))) | (refine Zatd 213 ?_; (first | (refine Zv Zxpt ?_) | (refine Zv Zxpf ?_))) | (refine Zatd 182 ?_; refine Zv Zmi ?_) | (refine Zatd 183 ?_; refine Zv Zmi ?_) | (refine Zatd 184 ?_; refine Zv Zxlss ?_) | (refine Zatd 196 ?_; refine Zv Zmi ?_) | (refine Zatd 197 ?_; refine Zv Zmi ?_) | (refine Zatd 198 ?_; refine Zv Zxlss ?_) | (refine Zatd 210 ?_; refine Zv Zmi ?_) | (refine Zatd 211 ?_; refine Zv Zmi ?_) | (refine Zatd 212 ?_; refine Zv Zxlss ?_) | (refine Zsk ?_) | (refine Zsp (fun hc => ?_) (fun hc => ?_) <;> (try (exfalso; omega)))) | (refine GiW ?_; first | (refine Zsq fun K hK => ?_) | (refine ZrN 33 fun _ => ?_; refine Zv Zmi ?_; refine Zv Zmi ?_; refine Zv Zxlss ?_) | (refine ZrN 38 fun _ => ?_; refine Zv Zmi ?_; refine Zv Zmi ?_; refine Zv Zxsub ?_; refine Zv Zai ?_) | (refine ZrG 39 ?_; refine Zv Zmi ?_; refine Zv Zmi ?_; refine Zv Zxlss ?_; refine Zv Zmb ?_) | (refine ZrN 40 fun _ => ?_; refine Zv Zmv ?_; refine Zv Zmi ?_; refine Zv Zmi ?_; refine Zv Zmi ?_; refine Zv Zmv ?_; refine OPS_retKS (Enters_fn rfl) (hrot _ hl hn b c lo m e _ _ _ rfl rfl (by omega) (by omega) (by omega) (by omega)) rfl rfl rfl (fun v191 L191 h191 => ?_); subst h191) | (refine ZrG 41 ?_; refine Zv Zmi ?_; refine Zv Zmi ?_; refine Zv Zxlss ?_; refine Zv Zmb ?_) | (refine ZrN 42 fun _ => ?_; refine Zv Zmv ?_; refine Zv Zmi ?_; refine Zv Zmi ?_; refine Zv Zmi ?_; refine Zv Zmv ?_; (first | (refine OPS_retKS (Enters_fn rfl) (ih _ a lo mid _ _ _ (by first | exact hl | exact k1 (by omega) (by omega)) rfl rfl rfl (by omega) (by omega) (by omega) (by omega)) rfl rfl rfl (fun v205 L205 h205 => ?_); subst h205) | (refine OPS_retKS (Enters_fn rfl) (ih _ mid e y _ _ _ (by first | exact hl | exact k1 (by omega) (by omega) | exact k2 (by omega) (by omega) _ hl | exact k2 (by omega) (by omega) _ (k1 (by omega) (by omega))) rfl (by omega) rfl (by omega) (by omega) (by omega) (by omega)) rfl rfl rfl (fun v219 L219 h219 => ?_); subst h219))) | (refine ZrG 43 ?_; refine Zv Zmi ?_; refine Zv Zmi ?_; refine Zv Zxlss ?_; refine Zv Zmb ?_) | (refine ZrN 44 fun _ => ?_; refine Zv Zmv ?_; refine Zv Zmi ?_; refine Zv Zmi ?_; refine Zv Zmi ?_; refine Zv Zmv ?_; (first | (refine OPS_retKS (Enters_fn rfl) (ih _ a lo mid _ _ _ (by first | exact hl | exact k1 (by omega) (by omega)) rfl rfl rfl (by omega) (by omega) (by omega) (by omega)) rfl rfl rfl (fun v205 L205 h205 => ?_); subst h205) | (refine OPS_retKS (Enters_fn rfl) (ih _ mid e y _ _ _ (by first | exact hl | exact k1 (by omega) (by omega) | exact k2 (by omega) (by omega) _ hl | exact k2 (by omega) (by omega) _ (k1 (by omega) (by omega))) rfl (by omega) rfl (by omega) (by omega) (by omega) (by omega)) rfl rfl rfl (fun v219 L219 h219 => ?_); subst h219))) | (refine WP_cond_false rfl ?_) | (refine Zcd (fun hc => ?_) (fun hc => ?_) <;> (try (exfalso; omega))) | (with_reducible apply WP_skip) | (with_reducible apply WP_exit)) | (refine Zhn ?_) | (refine Zhx ?_) | (with_reducible apply QBlock_hit) | (with_reducible apply QLoop_exit))
        all_goals (refine QBody_end0 rfl ⟨_, rfl, ?_⟩; by_cases p1 : lo < m ∧ m < e <;> by_cases p2 : a < lo ∧ lo < mid <;> by_cases p3 : mid < e ∧ e < y <;> first | (exfalso; omega) | ((first | rw [if_pos p3] | rw [if_neg p3]); (first | rw [if_pos p2] | rw [if_neg p2]); (first | rw [if_pos p1] | rw [if_neg p1])))
end
end Go.Proofs.Ytlpahkmfjpjheaa
end

section
namespace Go.Proofs.Ytlpahkmfjpjheaa
open Go.RowKit
/-- A type's zero value, of one cell. -/
class TyZ (P : Program) (t : TypeId) (z : outParam Value) : Prop where
  zero : (P.info? t).bind (·.zero) = some z
section
variable {P : Program} {r : Option Nat} {n N : Nat} {w0 : World} {L : Hp} {e : Env} {d : Option Nat} {ty : TypeId} {pos : String} {af : Array Edge} {g : Option (Nat × Bool)} {ops : Array Oper} {rest : List Oper} {Q : Post} {ds : List Deferred}
theorem New_makeSlice {t E : TypeId} [hs : SliceOf P t E] {bt : Nat} [hT : TySz P E false 1 bt] {z : Value} [hZ : TyZ P E z] {x y : Operand} {k k' : IntKind} {m : Nat} (hz1 : z.cells = #[z]) (hx : ev e x = .int k (m : Int)) (hy : ev e y = .int k' (m : Int)) (h1 : bt * m ≤ 281474976710656) (h2 : m ≤ 9223372036854775807) :
    New P e ⟨d, .makeSlice t x y, ty, pos, af, g⟩ (.cells (List.replicate m z).toArray E (0, 0)) (fun b => .slice (some ⟨b, 0, none⟩) m m) := by
  intro w
  have hi := hT.inf
  have hz := hZ.zero
  cases hin : P.info? E with
  | none => rw [hin] at hi; cases hi
  | some i =>
    rw [hin] at hi hz
    simp only [Option.map_some, Option.some.injEq, Prod.mk.injEq] at hi
    simp only [Option.bind_some] at hz
    have hr := run_make_row (P := P) t E i z hs.und hin hz hi.1 hz1 k k' m (by rw [hi.2]; exact h1) h2 w
    have hm : (Go.madeCells #[z] m : Array Value) = (List.replicate m z).toArray := by
      apply Array.ext
      · simp [Go.madeCells]
      · intro j h1 h2
        simp [Go.madeCells, Nat.mod_one]
    rw [hm] at hr
    simp [execOp, hx, hy, hr]
/-- All of a row is copied into another one as long. -/
theorem OPS_copy {t t' E : TypeId} [hs : SliceOf P t E] {bt : Nat} [hT : TySz P E false 1 bt] {x y : Operand} {b b2 m c c2 : Nat} {l l2 : List Value} {L' : Hp} (hx : ev e x = .slice (some ⟨b, 0, none⟩) m c) (hy : ev e y = .slice (some ⟨b2, 0, none⟩) m c2)
    (hu : Up L b (Blk E l) (Blk E l2) L') (hm : Mem b2 (Blk E l2) L) (hl : l.length = m) (hl2 : l2.length = m) (h1 : ones l2 = true)
    (hg : Region.wanted ⟨d, .call { callee := .builtin .copy, args := #[x, y], argTypes := #[t, t'] }, ty, pos, af, g⟩ (yieldE ops e) = true) (hd : dstOk n d = true)
    (h : OPS P r n N w0 ops rest Q (updO e d (.int .i64 m)) ds L') :
    OPS P r n N w0 ops (⟨d, .call { callee := .builtin .copy, args := #[x, y], argTypes := #[t, t'] }, ty, pos, af, g⟩ :: rest) Q e ds L := by
  refine OPS_any (K := fun v L1 => v = .int .i64 m ∧ L1 = L') (fun w hI => ?_) hg rfl hd ?_
  · have hb : w.heap[b]? = some (.cells l.toArray E (0, 0)) := by simpa [Blk, Is] using hI.obj hu.mem
    have hb2 : w.heap[b2]? = some (.cells l2.toArray E (0, 0)) := by simpa [Blk, Is] using hI.obj hm
    have hr := run_copy_row (P := P) w t t' ty E b 0 m c ⟨b2, 0, none⟩ m c2 l.toArray E l2 hs.und (by
      have := hT.inf
      cases hin : P.info? E with
      | none => rw [hin] at this; cases this
      | some i => rw [hin] at this; simp at this; simp [this.1]) hb (by simp [hl2]) (fun j v hj => by
        rw [addr_add, Nat.zero_add]
        simp [World.cell?, hb2, hj]) (by simp [hl, hl2]) (by simpa [ones] using h1)
    have hcur : (l.toArray.toList.take 0 ++ l2 ++ l.toArray.toList.drop (0 + l2.length)).toArray = l2.toArray := by simp [hl, hl2]
    rw [hcur, hl2] at hr
    refine ⟨.int .i64 m, w.setRow b l2.toArray, L', ?_, ?_, rfl, rfl⟩
    · simp [execOp, resolve, invoke, builtin, hx, hy, hr, goInt]
    · refine hI.turn hu rfl rfl rfl (by simp) (fun k _ hk => setRow_other w b k _ hk) ⟨_, setRow_heap w b _ _ E (0, 0) hb, ?_⟩
      simp [Blk, Is]
  · rintro v L1 ⟨rfl, rfl⟩
    exact h
end
instance : TyZ Try.prog 97 (.int .u64 0) := ⟨by kernel_rfl⟩
instance : TyZ Try.prog 3 (.int .i64 0) := ⟨by kernel_rfl⟩
end Go.Proofs.Ytlpahkmfjpjheaa
end

section
namespace Go.Proofs.Ytlpahkmfjpjheaa
open Go.RowKit
/-- What the stable sort makes of a row, of fewer than 20, or of 32. -/
def stab (n : Nat) (l : List Nat) : List Nat := if n < 20 then insS l 0 (n - 1) else sym 32 0 20 32 (insS (insS l 0 (20 - (0 + 1))) 20 (32 - (20 + 1)))
attribute [local irreducible] AnyO AnyB QAny QB EWalk AWalk Ev WP OPS QThen QBlock QScope QLoop QBody Val New Turn Tri Enters PostA Blk Ro
section
variable (N : Nat) (w0 : World)
theorem ins_triI (L : Hp) (n : Nat) (l : List Nat) (hl : Lt32 n l) (hn : n ≤ 1000) (b c x y : Nat) (X Y : Int) (hX : X = x) (hY : Y = y) (hx : x ≤ y) (hy : y ≤ n) :
    Tri Try.prog N w0 ((b, Blk 97 (us l)) :: L) 111 [.slice (some ⟨b, 0, none⟩) n c, .int .i64 X, .int .i64 Y, cmpV].toArray fun r L' => ∃ v, r = .returned v ∧ L' = (b, Blk 97 (us (insS l x (y - (x + 1))))) :: L := by
  subst hX hY
  exact ins_tri N w0 L n l hl hn b c x y hx hy
theorem stable_sm (L : Hp) (n : Nat) (l : List Nat) (hl : Lt32 n l) (hn : n < 20) (b c : Nat) :
    Tri Try.prog N w0 ((b, Blk 97 (us l)) :: L) 107 [.slice (some ⟨b, 0, none⟩) n c, .int .i64 n, cmpV].toArray fun r L' => ∃ v, r = .returned v ∧ L' = (b, Blk 97 (us (stab n l))) :: L := by
  have hst : stab n l = insS l 0 (n - (0 + 1)) := by unfold stab; rw [if_pos hn]
  rw [hst]
  have hins := ins_triI N w0 L n l hl (by omega) b c 0 n
  unfold cmpV at hins ⊢
  refine tri_of_WP Try.func107 rfl (n := 63) rfl (by simp) ?_
  repeat' (first | (refine Znh ?_) | (refine GiW ?_; first | (refine Zsq fun K hK => ?_) | (refine ZrN 0 fun _ => ?_; refine Zv Zai ?_) | (refine ZrN 1 fun _ => ?_; refine Zv Zmi ?_; refine Zv Zai ?_; refine Zv Zai ?_) | (with_reducible apply WP_block)))
  refine WP_loop [7, 8, 11, 12, 13, 14, 15, 16, 17, 18, 19, 20, 21, 22] (fun _ : Unit => [(7, .int .i64 0), (8, .int .i64 20)]) (fun _ => (b, Blk 97 (us l)) :: L) (fun _ => True) (fun _ => 0) () (.cons rfl (.cons rfl .nil)) (Wk.refl _) trivial ?_
  rintro _ j -
  repeat' (first | (refine Znh ?_) | (refine GiW ?_; first | (refine Zsq fun K hK => ?_) | (refine ZrN 2 fun _ => ?_; refine Zv Zmi ?_; refine Zv Zmi ?_; refine Zv Zxleq ?_) | (refine ZrN 6 fun _ => ?_; refine Zv Zmv ?_; refine Zv Zmi ?_; refine Zv Zmi ?_; refine Zv Zmv ?_; refine OPS_retKS (Enters_fn rfl) (hins _ _ rfl rfl (by omega) (by omega)) rfl rfl rfl (fun v27 L27 h27 => ?_); subst h27) | (refine Zcd (fun hc => ?_) (fun hc => ?_) <;> (try (exfalso; omega))) | (with_reducible apply WP_block) | (with_reducible apply WP_exit)) | (refine Zhn ?_) | (refine Zhx ?_) | (with_reducible apply QBlock_hit) | (with_reducible apply QLoop_exit))
  refine WP_loop [6, 7, 8, 9, 28, 29, 30, 31, 32, 33, 34, 35, 36, 37, 38, 39, 40, 41, 42, 43, 44, 45, 46, 47, 48, 49, 50, 51, 52, 53, 54, 55, 56, 57, 58, 59, 60, 61, 62] (fun _ : Unit => [(6, .int .i64 20)]) (fun _ => (b, Blk 97 (us (insS l 0 (n - (0 + 1))))) :: L) (fun _ => True) (fun _ => 0) () (.cons rfl .nil) (Wk.refl _) trivial ?_
  rintro _ j2 -
  repeat' (first | (refine Znh ?_) | (refine GiW ?_; first | (refine Zsq fun K hK => ?_) | (refine ZrN 7 fun _ => ?_; refine Zv Zmi ?_; refine Zv Zmi ?_; refine Zv Zxlss ?_) | (refine Zcd (fun hc => ?_) (fun hc => ?_) <;> (try (exfalso; omega))) | (with_reducible apply WP_exit)) | (refine Zhx ?_) | (with_reducible apply QBlock_hit) | (with_reducible apply QLoop_exit))
  exact QBody_end0 rfl ⟨_, rfl, rfl⟩
theorem stable_32 (L : Hp) (l : List Nat) (hl : Lt32 32 l) (b c : Nat) :
    Tri Try.prog N w0 ((b, Blk 97 (us l)) :: L) 107 [.slice (some ⟨b, 0, none⟩) 32 c, .int .i64 32, cmpV].toArray fun r L' => ∃ v, r = .returned v ∧ L' = (b, Blk 97 (us (stab 32 l))) :: L := by
  obtain ⟨l1, e1⟩ : ∃ l1, insS l 0 (20 - (0 + 1)) = l1 := ⟨_, rfl⟩
  obtain ⟨l2, e2⟩ : ∃ l2, insS l1 20 (32 - (20 + 1)) = l2 := ⟨_, rfl⟩
  obtain ⟨l3, e3⟩ : ∃ l3, sym 32 0 20 32 l2 = l3 := ⟨_, rfl⟩
  have hst : stab 32 l = l3 := by unfold stab; rw [if_neg (by omega), e1, e2, e3]
  rw [hst]
  have hl1 : Lt32 32 l1 := by rw [← e1]; exact insS_lt hl _ (by omega)
  have hl2 : Lt32 32 l2 := by rw [← e2]; exact insS_lt hl1 _ (by omega)
  have hi1 := ins_triI N w0 L 32 l hl (by omega) b c 0 20
  have hi2 := ins_triI N w0 L 32 _ hl1 (by omega) b c 20 32
  have hsy := sym_tri N w0 L 32 (by omega) b c 32 _ 0 20 32 0 20 32 hl2 rfl rfl rfl (by omega) (by omega) (by omega) (by omega)
  rw [e1] at hi1
  rw [e2] at hi2
  rw [e3] at hsy
  unfold cmpV at hi1 hi2 hsy ⊢
  refine tri_of_WP Try.func107 rfl (n := 63) rfl (by simp) ?_
  repeat' (first | (refine Znh ?_) | (refine GiW ?_; first | (refine Zsq fun K hK => ?_) | (refine ZrN 0 fun _ => ?_; refine Zv Zai ?_) | (refine ZrN 1 fun _ => ?_; refine Zv Zmi ?_; refine Zv Zai ?_; refine Zv Zai ?_) | (with_reducible apply WP_block)))
  refine WP_loop [7, 8, 11, 12, 13, 14, 15, 16, 17, 18, 19, 20, 21, 22] (fun q : Int × Int × List Nat => [(7, .int .i64 q.1), (8, .int .i64 q.2.1)]) (fun q => (b, Blk 97 (us q.2.2)) :: L) (fun q => q = (0, 20, l) ∨ q = (20, 40, l1)) (fun q => (40 - q.2.1).toNat) (0, 20, l) (.cons rfl (.cons rfl .nil)) (Wk.refl _) (.inl rfl) ?_
  rintro _ j (rfl | rfl)
  · dsimp only
    repeat' (first | (refine GiP ?_; first | (refine Znh ?_) | (with_reducible refine Znl ?_)) | (refine GiW ?_; first | (refine Zsq fun K hK => ?_) | (refine ZrN 2 fun _ => ?_; refine Zv Zmi ?_; refine Zv Zmi ?_; refine Zv Zxleq ?_) | (refine ZrN 3 fun _ => ?_; refine Zv Zmv ?_; refine Zv Zmi ?_; refine Zv Zmi ?_; refine Zv Zmv ?_; refine OPS_retKS (Enters_fn rfl) (hi1 _ _ rfl rfl (by omega) (by omega)) rfl rfl rfl (fun v18 L18 h18 => ?_); subst h18) | (refine ZrN 4 fun _ => ?_; refine Zv Zmi ?_; refine Zv Zai ?_) | (refine ZrN 5 fun _ => ?_; refine Zv Zmi ?_; refine Zv Zmi ?_; refine Zv Zxadd ?_; refine Zv Zai ?_) | (refine WP_cond_true rfl ?_) | (with_reducible apply WP_skip) | (with_reducible apply WP_block)) | (refine Zhn ?_) | (with_reducible apply QBlock_normal))
    exact QLoop_normal (20, 40, l1) (.cons rfl (.cons rfl .nil)) (by repeat (first | exact Off.frame rfl | exact Off.refl _ _ | refine Off.frameT rfl rfl ?_ | refine Off.upd rfl ?_ | refine Off.updO rfl ?_)) (by repeat (first | exact Wk.refl _ | apply Wk.keep1 | apply Wk.drop | apply Wk.sv | apply Wk.svD | apply Wk.appD)) (.inr rfl) (by dsimp only; decide)
  · dsimp only
    repeat' (first | (refine Znh ?_) | (refine GiW ?_; first | (refine Zsq fun K hK => ?_) | (refine ZrN 2 fun _ => ?_; refine Zv Zmi ?_; refine Zv Zmi ?_; refine Zv Zxleq ?_) | (refine ZrN 6 fun _ => ?_; refine Zv Zmv ?_; refine Zv Zmi ?_; refine Zv Zmi ?_; refine Zv Zmv ?_; refine OPS_retKS (Enters_fn rfl) (hi2 _ _ rfl rfl (by omega) (by omega)) rfl rfl rfl (fun v27 L27 h27 => ?_); subst h27) | (refine WP_cond_false rfl ?_) | (with_reducible apply WP_block) | (with_reducible apply WP_exit)) | (refine Zhn ?_) | (refine Zhx ?_) | (with_reducible apply QBlock_hit) | (with_reducible apply QLoop_exit))
    refine WP_loop [6, 7, 8, 9, 28, 29, 30, 31, 32, 33, 34, 35, 36, 37, 38, 39, 40, 41, 42, 43, 44, 45, 46, 47, 48, 49, 50, 51, 52, 53, 54, 55, 56, 57, 58, 59, 60, 61, 62] (fun q : Int × List Nat => [(6, .int .i64 q.1)]) (fun q => (b, Blk 97 (us q.2)) :: L) (fun q => q = (20, l2) ∨ q = (40, l3)) (fun q => (40 - q.1).toNat) (20, l2) (.cons rfl .nil) (Wk.refl _) (.inl rfl) ?_
    rintro _ j2 (rfl | rfl)
    · dsimp only
      repeat' (first | (refine Znh ?_) | (refine GiW ?_; first | (refine Zsq fun K hK => ?_) | (refine ZrN 7 fun _ => ?_; refine Zv Zmi ?_; refine Zv Zmi ?_; refine Zv Zxlss ?_) | (refine ZrN 8 fun _ => ?_; refine Zv Zmi ?_; refine Zv Zxmul ?_; refine Zv Zai ?_; refine Zv Zai ?_) | (refine WP_cond_true rfl ?_) | (with_reducible apply WP_skip) | (with_reducible apply WP_block)) | (refine Zhn ?_))
      refine WP_loop [7, 8, 33, 34, 35, 36, 37, 38, 39, 40, 41, 42, 43, 44, 45, 46, 47, 48] (fun _ : Unit => [(7, .int .i64 0), (8, .int .i64 40)]) (fun q => (b, Blk 97 (us l2)) :: L) (fun _ => True) (fun _ => 0) () (.cons rfl (.cons rfl .nil)) (Wk.refl _) trivial ?_
      rintro _ j3 -
      repeat' (first | (refine GiP ?_; first | (refine Znh ?_) | (with_reducible refine Znl ?_)) | (refine GiW ?_; first | (refine Zsq fun K hK => ?_) | (refine ZrN 9 fun _ => ?_; refine Zv Zmi ?_; refine Zv Zmi ?_; refine Zv Zxleq ?_) | (refine ZrN 13 fun _ => ?_; refine Zv Zmi ?_; refine Zv Zmi ?_; refine Zv Zxadd ?_; refine Zv Zai ?_) | (refine ZrN 14 fun _ => ?_; refine Zv Zmi ?_; refine Zv Zmi ?_; refine Zv Zxlss ?_) | (refine ZrN 15 fun _ => ?_; refine Zv Zmv ?_; refine Zv Zmi ?_; refine Zv Zmi ?_; refine Zv Zmi ?_; refine Zv Zmv ?_; refine OPS_retKS (Enters_fn rfl) hsy rfl rfl rfl (fun v60 L60 h60 => ?_); subst h60) | (refine ZrN 16 fun _ => ?_; refine Zv Zmi ?_; refine Zv Zxmul ?_; refine Zv Zai ?_) | (refine WP_cond_true rfl ?_) | (refine WP_cond_false rfl ?_) | (with_reducible apply WP_exit)) | (refine Zhn ?_) | (with_reducible apply QBlock_normal) | (refine Zhx ?_) | (with_reducible apply QBlock_hit) | (with_reducible apply QLoop_exit))
      exact QLoop_normal (40, l3) (.cons rfl .nil) (by repeat (first | exact Off.frame rfl | exact Off.refl _ _ | refine Off.frameT rfl rfl ?_ | refine Off.upd rfl ?_ | refine Off.updO rfl ?_)) (by repeat (first | exact Wk.refl _ | apply Wk.keep1 | apply Wk.drop | apply Wk.sv | apply Wk.svD | apply Wk.appD)) (.inr rfl) (by dsimp only; decide)
    · dsimp only
      repeat' (first | (refine Znh ?_) | (refine GiW ?_; first | (refine Zsq fun K hK => ?_) | (refine ZrN 7 fun _ => ?_; refine Zv Zmi ?_; refine Zv Zmi ?_; refine Zv Zxlss ?_) | (refine WP_cond_false rfl ?_) | (with_reducible apply WP_exit)) | (refine Zhx ?_) | (with_reducible apply QBlock_hit) | (with_reducible apply QLoop_exit))
      exact QBody_end0 rfl ⟨_, rfl, rfl⟩
/-- The lists that are sorted here: of fewer than 20, or of 32. -/
theorem sort_tri (L : Hp) (n : Nat) (l : List Nat) (hl : Lt32 n l) (hn : n < 20 ∨ n = 32) (b c : Nat) :
    Tri Try.prog N w0 ((b, Blk 97 (us l)) :: L) 96 [.slice (some ⟨b, 0, none⟩) n c, cmpV].toArray fun r L' => ∃ v, r = .returned v ∧ L' = (b, Blk 97 (us (stab n l))) :: L := by
  have hs : Tri Try.prog N w0 ((b, Blk 97 (us l)) :: L) 107 [.slice (some ⟨b, 0, none⟩) n c, .int .i64 n, cmpV].toArray fun r L' => ∃ v, r = .returned v ∧ L' = (b, Blk 97 (us (stab n l))) :: L := by
    rcases hn with hn | rfl
    · exact stable_sm N w0 L n l hl hn b c
    · exact stable_32 N w0 L l hl b c
  unfold cmpV at hs ⊢
  refine tri_of_WP Try.func96 rfl (n := 9) rfl (by simp) ?_
  repeat' (first | (with_reducible refine Znl ?_) | (refine ZrN 0 fun _ => ?_; refine Zv Zmv ?_; refine Zv Zmv ?_; refine Zv Zxlen ?_; refine Zv Zmv ?_; refine OPS_retKS (Enters_fn rfl) hs rfl rfl rfl (fun v8 L8 h8 => ?_); subst h8))
  exact QBody_end0 rfl ⟨_, rfl, rfl⟩
end
end Go.Proofs.Ytlpahkmfjpjheaa
end

section
namespace Go.Proofs.Ytlpahkmfjpjheaa
open Go.RowKit
def fil (n i : Nat) : List Nat := List.range i ++ List.replicate (n - i) 0
theorem fil_set {n i : Nat} (h : i < n) : (fil n i).set i i = fil n (i + 1) := by
  unfold fil
  obtain ⟨k, hk⟩ : ∃ k, n - i = k + 1 := ⟨n - i - 1, by omega⟩
  have h2 : n - (i + 1) = k := by omega
  rw [hk, h2, List.set_append_right _ _ (by simp), List.range_succ]
  simp [List.replicate_succ]
theorem fil_len {n i : Nat} (h : i ≤ n) : (fil n i).length = n := by simp [fil]; omega
theorem fil_all (n : Nat) : fil n n = List.range n := by simp [fil]
def setsL (h : Hv) : List Nat := stab (2 ^ h.looks.length) (List.range (2 ^ h.looks.length))
theorem pow_small {k : Nat} (h : k ≤ 5) : 1 ≤ 2 ^ k ∧ (2 ^ k < 20 ∨ 2 ^ k = 32) := by
  have : k = 0 ∨ k = 1 ∨ k = 2 ∨ k = 3 ∨ k = 4 ∨ k = 5 := by omega
  rcases this with rfl | rfl | rfl | rfl | rfl | rfl <;> decide
attribute [local irreducible] AnyO AnyB QAny QB EWalk AWalk Ev WP OPS QThen QBlock QScope QLoop QBody Val New Turn Tri Enters PostA Blk Ro
section
variable (N : Nat) (w0 : World)
theorem sets_tri (L : Hp) (g : Bg) (hm : Mem g.b (Blk 94 (bogL g)) L) (hl : g.h.looks.length ≤ 5) : Tri Try.prog N w0 L 71 [.pointer (some ⟨g.b, 0, none⟩)].toArray fun x L' => ∃ v, x = .returned v ∧ ∃ b, v = .slice (some ⟨b, 0, none⟩) (2 ^ g.h.looks.length) (2 ^ g.h.looks.length) ∧ L' = (b, Blk 97 (us (setsL g.h))) :: L := by
  obtain ⟨hn1, hn2⟩ := pow_small hl
  have hev := fun L hm => every_ret N w0 L g hm hl
  unfold setsL
  obtain ⟨n, hn⟩ : ∃ n, 2 ^ g.h.looks.length = n := ⟨_, rfl⟩
  rw [hn] at hn1 hn2 hev ⊢
  have hadd : ∀ {L e d ty pos af g x y t t'} (hx : ev e x = .int .u64 ((n - 1 : Nat) : Int)) (hy : ev e y = .int .u64 1), Val Try.prog N w0 L e ⟨d, .binOp .add t x y t', ty, pos, af, g⟩ (.int .u64 (n : Int)) := by
    intro L e d ty pos af g x y t t' hx hy
    have := Val_add (P := Try.prog) (N := N) (w0 := w0) (L := L) (d := d) (ty := ty) (pos := pos) (af := af) (g := g) (t := t) (t' := t') hx hy (by unfold InK; simp [IntKind.wrap, IntKind.bits, IntKind.signed]; omega)
    rw [show ((n - 1 : Nat) : Int) + 1 = (n : Int) by omega] at this
    exact this
  have hlt : Lt32 n (List.range n) := ⟨by simp, by intro x hx; simp at hx; omega⟩
  have hsort := fun L b c => sort_tri N w0 L n _ hlt hn2 b c
  unfold cmpV at hsort
  refine Tri.fgt ?_
  refine tri_of_WP Try.func71 rfl (n := 30) rfl (by simp) ?_
  have e0 : List.replicate n (Value.int .u64 0) = us (fil n 0) := by simp [us, fil]
  repeat' (first | (refine Znh ?_) | (refine GiW ?_; first | (refine Zsq fun K hK => ?_) | (refine ZrN 0 fun _ => ?_; refine Zv Zav ?_) | (refine ZrN 1 fun _ => ?_; refine Zv Zmv ?_; refine Zcl (Enters_fn rfl) (hev _ (by repeat (first | exact Mem.here | assumption | apply Mem.there | apply Mem.sv | apply Mem.app))) ?_; (first | (refine Zv (hadd rfl rfl) ?_) | (refine Zv (Val_add rfl rfl (InK_i64 (by omega) (by omega))) ?_)); refine OPS_newS blk_is (New_makeSlice rfl rfl rfl (by first | decide | omega) (by first | decide | omega)) rfl rfl rfl (fun b9 => ?_); refine Zv Zav ?_) | (refine ZrN 2 fun _ => ?_; refine Zv Zmv ?_; refine Zv Zxlen ?_; refine Zv Zmi ?_) | (with_reducible apply WP_block)))
  rw [e0]
  refine WP_loop [4, 12, 13, 14, 15, 16, 17, 18, 19, 20] (fun i : Nat => [(12, .int .i64 i)]) (fun i => (b9, Blk 97 (us (fil n i))) :: L) (fun i => i ≤ n) (fun i => n - i) 0 (.cons rfl .nil) (Wk.refl _) (Nat.zero_le _) ?_
  intro i j hi
  by_cases hlt : i < n
  · have hfl := fil_len (n := n) (i := i) (by omega)
    repeat' (first | (refine GiP ?_; first | (refine Znh ?_) | (with_reducible refine Znl ?_)) | (refine GiW ?_; first | (refine Zsq fun K hK => ?_) | (refine ZrN 3 fun _ => ?_; refine Zv Zxlss ?_) | (refine ZrN 4 fun _ => ?_; refine Zv Zmi ?_; refine Zv Zai ?_) | (refine ZrN 5 fun _ => ?_; refine Zv Zmv ?_; refine Zv Zmi ?_; refine Zv Zmi ?_; refine Zv Zxco ?_; refine Zv Zia ?_; (first | (refine Zst ?_) | (refine OPS_turnN (Turn_storeG rfl (rfl : _ = Value.int _ _) (by repeat (first | exact Up.here | apply Up.there | apply Up.sv)) rfl (by rw [us_len, hfl]; simp only [List.length_singleton]; omega) us_set rfl rfl) rfl rfl ?_))) | (refine ZrN 6 fun _ => ?_; refine Zv Zxadd ?_; refine Zv Zmi ?_) | (refine Zcd (fun hc => ?_) (fun hc => ?_) <;> (try (exfalso; omega))) | (with_reducible apply WP_skip) | (with_reducible apply WP_block)) | (refine Zhn ?_) | (with_reducible apply QBlock_normal))
    exact QLoop_normal (i + 1) (.cons rfl .nil) (by repeat (first | exact Off.frame rfl | exact Off.refl _ _ | refine Off.frameT rfl rfl ?_ | refine Off.upd rfl ?_ | refine Off.updO rfl ?_)) (by rw [← fil_set hlt]; exact (by repeat (first | exact Wk.refl _ | apply Wk.keep1 | apply Wk.drop | apply Wk.sv | apply Wk.svD | apply Wk.appD))) (by omega) (by omega)
  · have hie : i = n := by omega
    subst hie
    have e1 : (us (List.range i)).length = i := by rw [us_len]; simp
    rw [fil_all]
    repeat' (first | (refine Znh ?_) | (refine GiW ?_; first | (refine Zsq fun K hK => ?_) | (refine ZrN 3 fun _ => ?_; refine Zv Zxlss ?_) | (refine ZrN 7 fun _ => ?_; refine Zv Zmv ?_; refine Zv Zxlen ?_; refine OPS_newS blk_is (New_makeSlice rfl rfl rfl (by first | decide | omega) (by first | decide | omega)) rfl rfl rfl (fun b23 => ?_); refine Zv Zav ?_) | (refine ZrN 8 fun _ => ?_; refine Zv Zmv ?_; refine Zv Zmv ?_; refine OPS_copy rfl rfl (by repeat (first | exact Up.here | apply Up.there | apply Up.sv)) (by repeat (first | exact Mem.here | assumption | apply Mem.there | apply Mem.sv | apply Mem.app)) (by simp) e1 (by simp [ones, us, Value.oneCell']) rfl rfl ?_) | (refine ZrN 9 fun _ => ?_; refine Zv Zmv ?_; refine OPS_retKS (Enters_fn rfl) (hsort _ _ _) rfl rfl rfl (fun v28 L28 h28 => ?_); subst h28) | (refine ZrN 10 fun _ => ?_; refine Zv Zmv ?_; refine Zv Zav ?_) | (refine Zcd (fun hc => ?_) (fun hc => ?_) <;> (try (exfalso; omega))) | (with_reducible apply WP_exit) | (with_reducible apply WP_ret)) | (refine Zhn ?_) | (refine Zhx ?_) | (with_reducible apply QBlock_hit) | (with_reducible apply QLoop_exit))
    exact QBody_ret1 rfl (rfl : _ = Value.slice _ _ _) ⟨(b23, Blk 97 (us (stab i (List.range i)))) :: L, (by repeat (first | exact Wk.refl _ | apply Wk.keep1 | apply Wk.drop | apply Wk.sv | apply Wk.svD | apply Wk.appD)), _, rfl, b23, rfl, rfl⟩
end
end Go.Proofs.Ytlpahkmfjpjheaa
end

section
namespace Go.Proofs.Ytlpahkmfjpjheaa
open Go.RowKit
def idxI (p : Nat → Bool) (l : List Nat) : Int := match l.findIdx? p with
  | some i => i
  | none => -1
theorem idxI_some {p : Nat → Bool} {l : List Nat} {i : Nat} (hi : i < l.length) (h1 : p (gt l i) = true) (h2 : ∀ k, k < i → p (gt l k) = false) : idxI p l = i := by
  have hg : ∀ k (h : k < l.length), gt l k = l[k] := fun k h => by simp [gt, h]
  have : l.findIdx? p = some i := by
    rw [List.findIdx?_eq_some_iff_getElem]
    refine ⟨hi, by rw [← hg i hi]; exact h1, fun j hj => ?_⟩
    rw [← hg j (by omega), h2 j hj]; simp
  unfold idxI; rw [this]
theorem idxI_none {p : Nat → Bool} {l : List Nat} (h2 : ∀ k, k < l.length → p (gt l k) = false) : idxI p l = -1 := by
  have hg : ∀ k (h : k < l.length), gt l k = l[k] := fun k h => by simp [gt, h]
  have : l.findIdx? p = none := by
    rw [List.findIdx?_eq_none_iff]
    intro x hx
    obtain ⟨k, hk, rfl⟩ := List.mem_iff_getElem.1 hx
    rw [← hg k hk]; exact h2 k hk
  unfold idxI; rw [this]
attribute [local irreducible] AnyO AnyB QAny QB EWalk AWalk Ev WP OPS QThen QBlock QScope QLoop QBody Val New Turn Tri Enters PostA Blk Ro
section
variable (N : Nat) (w0 : World)
theorem index_ret (L : Hp) (l : List Nat) (hl : l.length ≤ 1000) (b c : Nat) (hb : Mem b (Blk 97 (us l)) L) (q : FuncId) [HasBody Try.prog q] (cc : List Value) (p : Nat → Bool) (nd : Hp) (hN : Sub nd L)
    (hq : ∀ x ∈ l, ∀ L', Sub nd L' → Ret Try.prog N w0 L' q (.int .u64 (x : Int) :: cc).toArray (.bool (p x))) :
    Ret Try.prog N w0 L 72 [.slice (some ⟨b, 0, none⟩) l.length c, .func (.func q) #[] cc.toArray].toArray (.int .i64 (idxI p l)) := by
  refine Ret.fgt ?_
  refine tri_of_WP Try.func72 rfl (n := 19) rfl (by simp) ?_
  repeat' (first | (refine Znh ?_) | (refine GiW ?_; first | (refine Zsq fun K hK => ?_) | (refine ZrN 0 fun _ => ?_; refine Zv Zai ?_) | (refine ZrN 1 fun _ => ?_; refine Zv Zmv ?_; refine Zv Zxlen ?_; refine Zv Zmi ?_) | (with_reducible apply WP_block)))
  refine WP_loop [4, 5, 8, 9, 10, 11, 12, 13, 14, 15, 16, 17, 18] (fun i : Nat => [(8, .int .i64 i)]) (fun _ => L) (fun i => i ≤ l.length ∧ ∀ k, k < i → p (gt l k) = false) (fun i => l.length - i) 0 (.cons rfl .nil) (Wk.refl _) ⟨Nat.zero_le _, fun k hk => by omega⟩ ?_
  rintro i j ⟨hi, hno⟩
  by_cases hlt : i < l.length
  · have hc1 : (us l)[0 + i]? = some (.int .u64 (gt l i : Int)) := us_get hlt
    have hcall := fun L' h => hq (gt l i) (gt_mem hlt) L' h
    repeat' (first | (refine GiP ?_; first | (refine Znh ?_) | (with_reducible refine Znl ?_)) | (refine GiW ?_; first | (refine Zsq fun K hK => ?_) | (refine ZrN 2 fun _ => ?_; refine Zv Zxlss ?_) | (refine ZrN 3 fun _ => ?_; refine Zv Zmi ?_; refine Zv Zai ?_) | (refine ZrN 4 fun _ => ?_; refine Zv Zmv ?_; refine Zv Zmv ?_; refine Zv Zmi ?_; refine Zv Zia ?_; refine Zv Zld ?_; refine Zcl (Enters_val rfl rfl) (hcall _ (by repeat (first | exact Sub.refl _ | assumption | exact Sub.left | apply Sub.cons | apply Sub.sv | apply Sub.app))) ?_) | (refine ZrN 5 fun _ => ?_; refine Zv Zmi ?_; refine Zv Zai ?_) | (refine ZrN 6 fun _ => ?_; refine Zv Zxadd ?_; refine Zv Zmi ?_) | (refine Zcd (fun hc => ?_) (fun hc => ?_) <;> (try (exfalso; omega))) | (with_reducible apply WP_skip) | (with_reducible apply WP_block) | (with_reducible apply WP_ret)) | (refine Zhn ?_) | (with_reducible apply QBlock_normal) | (refine Zhr ?_) | (with_reducible apply QBlock_ret) | (with_reducible apply QLoop_ret))
    · refine QBody_ret1 rfl (rfl : _ = Value.int _ _) ⟨?_, (by repeat (first | exact Wk.refl _ | apply Wk.keep1 | apply Wk.drop | apply Wk.sv | apply Wk.svD | apply Wk.appD))⟩
      rw [idxI_some hlt (by assumption) hno]
    · refine QLoop_normal (i + 1) (.cons rfl .nil) (by repeat (first | exact Off.frame rfl | exact Off.refl _ _ | refine Off.frameT rfl rfl ?_ | refine Off.upd rfl ?_ | refine Off.updO rfl ?_)) (by repeat (first | exact Wk.refl _ | apply Wk.keep1 | apply Wk.drop | apply Wk.sv | apply Wk.svD | apply Wk.appD)) ⟨by omega, ?_⟩ (by omega)
      intro k hk
      rcases Nat.lt_succ_iff_lt_or_eq.1 hk with h1 | rfl
      · exact hno k h1
      · assumption
  · repeat' (first | (refine Znh ?_) | (refine GiW ?_; first | (refine Zsq fun K hK => ?_) | (refine ZrN 2 fun _ => ?_; refine Zv Zxlss ?_) | (refine ZrN 7 fun _ => ?_; refine Zv Zai ?_) | (refine Zcd (fun hc => ?_) (fun hc => ?_) <;> (try (exfalso; omega))) | (with_reducible apply WP_exit) | (with_reducible apply WP_ret)) | (refine Zhn ?_) | (refine Zhx ?_) | (with_reducible apply QBlock_hit) | (with_reducible apply QLoop_exit))
    refine QBody_ret1 rfl (rfl : _ = Value.int _ _) ⟨?_, (by repeat (first | exact Wk.refl _ | apply Wk.keep1 | apply Wk.drop | apply Wk.sv | apply Wk.svD | apply Wk.appD))⟩
    rw [idxI_none (fun k hk => hno k (by omega))]
def FalseP (h : Hv) (x : Nat) : Bool := someB h (evL h &&& (2 ^ 64 - 1 - x))
def ClashP (h : Hv) (x : Nat) : Bool := !someB h x
def BoxNd (b1 : Nat) (g : Bg) : Hp := (b1, Blk 77 [.pointer (some ⟨g.b, 0, none⟩)]) :: Bk g
theorem false_ret (g : Bg) (hv : VH g.h) (hA : HeapAt N w0 g) (b1 x : Nat) (hx : x < 32) (L : Hp) (hN : Sub (BoxNd b1 g) L) : Ret Try.prog N w0 L 73 [.int .u64 (x : Int), .pointer (some ⟨b1, 0, none⟩)].toArray (.bool (FalseP g.h x)) := by
  have hnl := hv.nl
  have hev : evL g.h ≤ 31 := by unfold evL; have := Nat.pow_le_pow_right (n := 2) (by omega) hnl; omega
  have hle : evL g.h &&& (2 ^ 64 - 1 - x) ≤ 31 := Nat.le_trans Nat.and_le_left hev
  refine Ret.sub hN fun L0 => ?_
  simp only [BoxNd, List.cons_append]
  refine Ret.fgt ?_
  refine tri_of_WP Try.func73 rfl (n := 10) rfl (by simp) ?_
  repeat' (first | (refine Znh ?_) | (refine GiW ?_; first | (refine Zsq fun K hK => ?_) | (refine ZrN 0 fun _ => ?_; refine Zv Zab ?_) | (with_reducible apply WP_ret) | (refine WP_drawn (id := 1) [0, 1, 2, 3, 4, 5, 6] [] (k := 0) prog_mixed (by kernel_rfl) rfl ?_; refine Zew rfl Zld ?_; refine Zew rfl Zld ?_; refine Zec rfl (Enters_fn rfl) (fun X => every_ret N w0 _ g (Sub.mem (B := Bk g) (by repeat (first | exact Sub.refl _ | assumption | exact Sub.left | apply Sub.cons | apply Sub.sv | apply Sub.app)) .here) hnl) ?_; refine Zew rfl Zmi ?_; refine Zew rfl (Val_andNot rfl rfl rfl (by show evL g.h < 2 ^ 64; omega) (by show x < 2 ^ 64; omega)) ?_; refine Zec rfl (Enters_fn rfl) (fun X => some_ret N w0 _ g (by repeat (first | exact Sub.refl _ | assumption | exact Sub.left | apply Sub.cons | apply Sub.sv | apply Sub.app)) hv hA _ hle) ?_; refine Zew rfl Zab ?_)) | (with_reducible apply EWalk_nil) | (refine AnyO_done (by kernel_rfl) ?_; (try with_reducible apply noP_normal); try with_reducible exact key.out) | (refine Zhn ?_) | (refine AWalk_0 ?_; refine ZisO ?_; apply shr; intro key))
  exact QBody_ret1 rfl (rfl : _ = Value.bool _) ⟨rfl, (by repeat (first | exact Wk.refl _ | apply Wk.keep1 | apply Wk.drop | apply Wk.sv | apply Wk.svD | apply Wk.appD))⟩
theorem clash_ret (g : Bg) (hv : VH g.h) (hA : HeapAt N w0 g) (b1 x : Nat) (hx : x < 32) (L : Hp) (hN : Sub (BoxNd b1 g) L) : Ret Try.prog N w0 L 81 [.int .u64 (x : Int), .pointer (some ⟨b1, 0, none⟩)].toArray (.bool (ClashP g.h x)) := by
  refine Ret.sub hN fun L0 => ?_
  simp only [BoxNd, List.cons_append]
  refine Ret.fgt ?_
  refine tri_of_WP Try.func81 rfl (n := 8) rfl (by simp) ?_
  repeat' (first | (refine Znh ?_) | (refine GiW ?_; first | (refine Zsq fun K hK => ?_) | (refine ZrN 0 fun _ => ?_; refine Zv Zab ?_) | (refine ZrN 1 fun _ => ?_; refine Zv Zld ?_; refine Zv Zmi ?_; refine Zcl (Enters_fn rfl) (some_ret N w0 _ g (by repeat (first | exact Sub.refl _ | assumption | exact Sub.left | apply Sub.cons | apply Sub.sv | apply Sub.app)) hv hA x (by omega)) ?_; refine Zv Zxnot ?_; refine Zv Zab ?_) | (with_reducible apply WP_ret)))
  exact QBody_ret1 rfl (rfl : _ = Value.bool _) ⟨rfl, (by repeat (first | exact Wk.refl _ | apply Wk.keep1 | apply Wk.drop | apply Wk.sv | apply Wk.svD | apply Wk.appD))⟩
end
end Go.Proofs.Ytlpahkmfjpjheaa
end
