/- A stable sort, continued: the walk of a merge as a whole. -/
import Derived.Test.YtakmopiceopcpaaSr
section
namespace Go.Proofs.Ytakmopiceopcpaa
open Go.RowKit
attribute [local irreducible] AnyO AnyB QAny QB EWalk AWalk Ev WP OPS QThen QBlock QScope QLoop QBody Val New Turn Tri Enters PostA Blk Ro
section
variable (N : Nat) (w0 : World)
set_option maxRecDepth 100000 in
set_option maxHeartbeats 4000000 in
theorem sym_tri (tl : List Value) (L : Hp) (n : Nat) (hn : n ≤ 1000) (b c : Nat) : ∀ (f : Nat) (l : List Nat) (a m y : Nat) (A M Y : Int), Lt128 n l → A = a → M = m → Y = y → a < m → m < y → y ≤ n → y - a ≤ f →
    Tri Try.prog N w0 ((b, Blk 93 (ut tl l)) :: L) 112 [.slice (some ⟨b, 0, none⟩) n c, .int .i64 A, .int .i64 M, .int .i64 Y, cmpV].toArray fun r L' => ∃ v, r = .returned v ∧ L' = (b, Blk 93 (ut tl (sym f a m y l))) :: L
  | 0, l, a, m, y, A, M, Y, _, _, _, _, h1, h2, _, h4 => by omega
  | f + 1, l, a, m, y, A, M, Y, hl, hA, hM, hY, ha, hm, hy, hf => by
    subst hA hM hY
    by_cases h1 : m - a = 1
    · exact sym_one N w0 tl L n l hl hn b c f a m y ha hm hy h1
    by_cases h2 : y - m = 1
    · exact sym_two N w0 tl L n l hl hn b c f a m y ha hm hy h1 h2
    obtain ⟨mid, hmid⟩ : ∃ mid, (a + y) / 2 ^ 1 = mid := ⟨_, rfl⟩
    obtain ⟨s, hs⟩ : ∃ s, symR l a m y = s := ⟨_, rfl⟩
    obtain ⟨e, he⟩ : ∃ e, mid + m - s = e := ⟨_, rfl⟩
    have hR := symR_in (l := l) ha hm
    rw [hmid, hs, he] at hR
    have hmb : a < mid ∧ mid < y := by omega
    have hF : sym (f + 1) a m y l = (if mid < e ∧ e < y then sym f mid e y (if a < s ∧ s < mid then sym f a s mid (if s < m ∧ m < e then rotL m (m - s + (e - m)) (m - s) (e - m) l else l) else (if s < m ∧ m < e then rotL m (m - s + (e - m)) (m - s) (e - m) l else l)) else (if a < s ∧ s < mid then sym f a s mid (if s < m ∧ m < e then rotL m (m - s + (e - m)) (m - s) (e - m) l else l) else (if s < m ∧ m < e then rotL m (m - s + (e - m)) (m - s) (e - m) l else l))) := by
      show (if _ then _ else if _ then _ else _) = _
      rw [if_neg h1, if_neg h2]
      dsimp only
      rw [hmid, hs, he]
    rw [hF]
    have hsR : (if mid < m then bsr (fun c => !decide (pc (gt l (mid + m - 1 - c)) < pc (gt l c))) (mid - (mid + m - y)) (mid + m - y) mid else bsr (fun c => !decide (pc (gt l (mid + m - 1 - c)) < pc (gt l c))) (m - a) a m) = s := by
      rw [← hs, ← hmid]; rfl
    have ih := sym_tri tl L n hn b c f
    unfold cmpV at ih ⊢
    have hrot := rot_triI N w0 tl L n
    unfold cmpV at hrot
    refine tri_of_WP Try.func112 rfl (n := 220) rfl (by simp) ?_
    have hsh : ∀ {L e d ty pos af g x y' t t'} (hx : ev e x = .int .u64 ((a : Int) + y)) (hy : ev e y' = .int .u64 ((1 : Nat) : Int)), Val Try.prog N w0 L e ⟨d, .binOp .shr t x y' t', ty, pos, af, g⟩ (.int .u64 (mid : Int)) := by
      intro L e d ty pos af g x y' t t' hx hy
      have := Val_shr (P := Try.prog) (N := N) (w0 := w0) (L := L) (d := d) (ty := ty) (pos := pos) (af := af) (g := g) (t := t) (t' := t') (a := a + y) (i := 1) (by rw [hx]; congr 1) hy (by decide)
      rw [hmid] at this
      exact this
    by_cases hmm : mid < m
    · rw [if_pos hmm] at hsR
      repeat' (first | (refine Znh ?_) | (refine GiW ?_; first | (refine Zsq fun K hK => ?_) | (refine ZrN 0 fun _ => ?_; refine Zv Zmi ?_; refine Zv Zmi ?_; refine Zv Zxsub ?_; refine Zv Zxeql ?_) | (refine ZrN 12 fun _ => ?_; refine Zv Zmi ?_; refine Zv Zmi ?_; refine Zv Zxsub ?_; refine Zv Zxeql ?_) | (refine ZrN 24 fun _ => ?_; refine Zv Zmi ?_; refine Zv Zmi ?_; refine Zv Zxadd ?_; refine Zv Zxco ?_; refine Zv (hsh rfl rfl) ?_; refine Zv Zxco ?_; refine Zv Zai ?_) | (refine ZrN 25 fun _ => ?_; refine Zv Zmi ?_; refine Zv Zmi ?_; refine Zv Zxadd ?_; refine Zv Zai ?_) | (refine ZrN 26 fun _ => ?_; refine Zv Zai ?_; refine Zv Zai ?_) | (refine ZrN 27 fun _ => ?_; refine Zv Zmi ?_; refine Zv Zmi ?_; refine Zv Zxgtr ?_) | (refine ZrN 28 fun _ => ?_; refine Zv Zmi ?_; refine Zv Zmi ?_; refine Zv Zxsub ?_; refine Zv Zai ?_) | (refine ZrN 29 fun _ => ?_; refine Zv Zmi ?_; refine Zv Zai ?_) | (refine ZrN 32 fun _ => ?_; refine Zv Zmi ?_; refine Zv Zxsub ?_; refine Zv Zai ?_) | (refine Zcd (fun hc => ?_) (fun hc => ?_) <;> (try (exfalso; omega))) | (with_reducible apply WP_skip) | (with_reducible apply WP_block)) | (refine Zhn ?_))
      refine WP_loop [20, 21, 23, 149, 150, 151, 152, 153, 154, 155, 156, 157, 158, 159, 160, 161, 162, 163, 164, 165, 166, 167, 168, 169, 170, 171, 172, 173, 174] (fun st : Nat × Nat × Nat => [(20, .int .i64 st.2.1), (21, .int .i64 st.2.2)]) (fun _ => (b, Blk 93 (ut tl l)) :: L)
        (fun st => bsr (fun c => !decide (pc (gt l (mid + m - 1 - c)) < pc (gt l c))) st.1 st.2.1 st.2.2 = s ∧ st.2.2 - st.2.1 ≤ st.1 ∧ st.2.1 ≤ st.2.2 ∧ mid + m - y ≤ st.2.1 ∧ st.2.2 ≤ mid) (fun st => st.2.2 - st.2.1) (mid - (mid + m - y), mid + m - y, mid) (.cons (by show Value.int .i64 ((mid : Int) + m - y) = Value.int .i64 ((mid + m - y : Nat) : Int); congr 1; omega) (.cons rfl .nil)) (Wk.refl _) ⟨hsR, by dsimp only; omega, by dsimp only; omega, by dsimp only; omega, by dsimp only; omega⟩ ?_
      rintro ⟨g, lo, hi⟩ j0 ⟨hB, hg, hlh, hlo, hhi⟩
      dsimp only at hB hg hlh hlo hhi ⊢
      by_cases hlt : lo < hi
      · obtain ⟨g, rfl⟩ : ∃ g', g = g' + 1 := ⟨g - 1, by omega⟩
        obtain ⟨h, hh⟩ : ∃ h, (lo + hi) / 2 ^ 1 = h := ⟨_, rfl⟩
        have hb1 : lo ≤ h ∧ h < hi := by omega
        obtain ⟨p, hp⟩ : ∃ p, mid + m - 1 - h = p := ⟨_, rfl⟩
        have hpn : p < n := by omega
        have hB' : (if ¬ pc (gt l p) < pc (gt l h) then bsr (fun c => !decide (pc (gt l (mid + m - 1 - c)) < pc (gt l c))) g (h + 1) hi else bsr (fun c => !decide (pc (gt l (mid + m - 1 - c)) < pc (gt l c))) g lo h) = s := by
          rw [← hB]
          show _ = (if _ then (if _ then _ else _) else _)
          rw [if_pos hlt, hh]
          simp only [hp, Bool.not_eq_true', decide_eq_false_iff_not]
        have c1 : (ut tl l)[0 + h]? = some (.int .u64 (gt l h : Int)) := ut_get (by rw [hl.1]; omega)
        have c2 : (ut tl l)[0 + p]? = some (.int .u64 (gt l p : Int)) := ut_get (by rw [hl.1]; omega)
        have hc1 := fun L => cmp_ret N w0 L (gt l p) (gt l h) (hl.gt (by omega)) (hl.gt (by omega))
        have hsh2 : ∀ {L e d ty pos af g x y' t t'} (hx : ev e x = .int .u64 ((lo : Int) + hi)) (hy : ev e y' = .int .u64 ((1 : Nat) : Int)), Val Try.prog N w0 L e ⟨d, .binOp .shr t x y' t', ty, pos, af, g⟩ (.int .u64 (h : Int)) := by
          intro L e d ty pos af g x y' t t' hx hy
          have := Val_shr (P := Try.prog) (N := N) (w0 := w0) (L := L) (d := d) (ty := ty) (pos := pos) (af := af) (g := g) (t := t) (t' := t') (a := lo + hi) (i := 1) (by rw [hx]; congr 1) hy (by decide)
          rw [hh] at this
          exact this
        repeat' (first | (refine GiP ?_; first | (refine Znh ?_) | (with_reducible refine Znl ?_)) | (refine GiW ?_; first | (refine Zsq fun K hK => ?_) | (refine ZrN 33 fun _ => ?_; refine Zv Zmi ?_; refine Zv Zmi ?_; refine Zv Zxlss ?_) | (refine ZrN 34 fun _ => ?_; refine Zv Zmi ?_; refine Zv Zmi ?_; refine Zv Zxadd ?_; refine Zv Zxco ?_; refine Zv (hsh2 rfl rfl) ?_; refine Zv Zxco ?_; refine Zv Zai ?_) | (refine ZrN 36 fun _ => ?_; refine Zv Zmi ?_; refine Zv Zxadd ?_; refine Zv Zai ?_) | (refine ZrN 37 fun _ => ?_; refine Zv Zmi ?_; refine Zv Zai ?_) | (refine Zcd (fun hc => ?_) (fun hc => ?_) <;> (try (exfalso; omega))) | (with_reducible apply WP_skip) | (with_reducible apply WP_block) | (refine WP_drawn (id := 35) [0, 1, 2, 3, 4, 5, 6, 7, 8, 9, 10, 11, 12, 13] [] (k := 0) prog_mixed (by kernel_rfl) rfl ?_; refine Zew rfl Zmv ?_; refine Zew rfl Zmv ?_; refine Zew rfl Zmi ?_; refine Zew rfl Zmi ?_; refine Zew rfl Zxsub ?_; (first | (refine Zew rfl (Val_indexAddr1 rfl rfl (show _ = ((p : Nat) : Int) by omega) (by omega)) ?_) | (refine Zew rfl Zia ?_)); refine Zew rfl Zld ?_; refine Zew rfl Zmv ?_; refine Zew rfl Zmi ?_; (first | (refine Zew rfl (Val_indexAddr1 rfl rfl (show _ = ((p : Nat) : Int) by omega) (by omega)) ?_) | (refine Zew rfl Zia ?_)); refine Zew rfl Zld ?_; refine Zec rfl (Enters_val rfl rfl) (fun X => hc1 _) ?_; refine Zew rfl Zxlss ?_; refine Zew rfl Zxnot ?_)) | (with_reducible apply EWalk_nil) | (refine AnyO_done (by kernel_rfl) ?_; (try with_reducible apply noP_normal); try with_reducible exact key.out) | (refine Zhn ?_) | (with_reducible apply QBlock_normal) | (refine AWalk_0 ?_; refine ZisO ?_))
        · rw [if_pos (by first | omega | (simp at hc; omega))] at hB'
          exact QLoop_normal (g, h + 1, hi) (.cons rfl (.cons rfl .nil)) (by repeat (first | exact Off.frame rfl | exact Off.refl _ _ | refine Off.frameT rfl rfl ?_ | refine Off.upd rfl ?_ | refine Off.updO rfl ?_)) (by repeat (first | exact Wk.refl _ | apply Wk.keep1 | apply Wk.drop | apply Wk.sv | apply Wk.svD | apply Wk.appD)) ⟨hB', by dsimp only; omega, by dsimp only; omega, by dsimp only; omega, hhi⟩ (by dsimp only; omega)
        · rw [if_neg (by first | omega | (simp at hc; omega))] at hB'
          exact QLoop_normal (g, lo, h) (.cons rfl (.cons rfl .nil)) (by repeat (first | exact Off.frame rfl | exact Off.refl _ _ | refine Off.frameT rfl rfl ?_ | refine Off.upd rfl ?_ | refine Off.updO rfl ?_)) (by repeat (first | exact Wk.refl _ | apply Wk.keep1 | apply Wk.drop | apply Wk.sv | apply Wk.svD | apply Wk.appD)) ⟨hB', by dsimp only; omega, by dsimp only; omega, hlo, by dsimp only; omega⟩ (by dsimp only; omega)
      · have hlR : lo = s := by rw [← hB, bsr_stop hlt]
        subst hlR
        have k1 : lo < m → m < e → Lt128 n (rotL m (m - lo + (e - m)) (m - lo) (e - m) l) := fun _ _ => rotL_lt _ hl (by omega) (by omega)
        have k2 : a < lo → lo < mid → ∀ l', Lt128 n l' → Lt128 n (sym f a lo mid l') := fun _ _ l' h => sym_lt f h (by omega) (by omega) (by omega)
        repeat' (first | (refine GiP ?_; first | (refine Znh ?_) | (with_reducible refine Znl ?_) | (refine Zatd 185 ?_; (first | (refine Zv Zxpt ?_) | (refine Zv Zxpf ?_))) | (refine Zatd 199 ?_; (first | (refine Zv Zxpt ?_) | (refine Zv Zxpf ?_))) | (refine Zatd 213 ?_; (first | (refine Zv Zxpt ?_) | (refine Zv Zxpf ?_))) | (refine Zatd 182 ?_; first | refine Zsk ?_ | (refine Zv Zmi ?_)) | (refine Zatd 183 ?_; first | refine Zsk ?_ | (refine Zv Zmi ?_)) | (refine Zatd 184 ?_; first | refine Zsk ?_ | (refine Zv Zxlss ?_)) | (refine Zatd 196 ?_; first | refine Zsk ?_ | (refine Zv Zmi ?_)) | (refine Zatd 197 ?_; first | refine Zsk ?_ | (refine Zv Zmi ?_)) | (refine Zatd 198 ?_; first | refine Zsk ?_ | (refine Zv Zxlss ?_)) | (refine Zatd 210 ?_; first | refine Zsk ?_ | (refine Zv Zmi ?_)) | (refine Zatd 211 ?_; first | refine Zsk ?_ | (refine Zv Zmi ?_)) | (refine Zatd 212 ?_; first | refine Zsk ?_ | (refine Zv Zxlss ?_)) | (refine Zsp (fun hc => ?_) (fun hc => ?_) <;> (try (exfalso; omega)))) | (refine GiW ?_; first | (refine Zsq fun K hK => ?_) | (refine ZrN 33 fun _ => ?_; refine Zv Zmi ?_; refine Zv Zmi ?_; refine Zv Zxlss ?_) | (refine ZrN 38 fun _ => ?_; refine Zv Zmi ?_; refine Zv Zmi ?_; refine Zv Zxsub ?_; refine Zv Zai ?_) | (refine ZrG 39 ?_; refine Zv Zmi ?_; refine Zv Zmi ?_; refine Zv Zxlss ?_; refine Zv Zmb ?_) | (refine ZrN 40 fun _ => ?_; refine Zv Zmv ?_; refine Zv Zmi ?_; refine Zv Zmi ?_; refine Zv Zmi ?_; refine Zv Zmv ?_; refine OPS_retKS (Enters_fn rfl) (hrot _ hl hn b c lo m e _ _ _ rfl rfl (by omega) (by omega) (by omega) (by omega)) rfl rfl rfl (fun v191 L191 h191 => ?_); subst h191) | (refine ZrG 41 ?_; refine Zv Zmi ?_; refine Zv Zmi ?_; refine Zv Zxlss ?_; refine Zv Zmb ?_) | (refine ZrN 42 fun _ => ?_; refine Zv Zmv ?_; refine Zv Zmi ?_; refine Zv Zmi ?_; refine Zv Zmi ?_; refine Zv Zmv ?_; (first | (refine OPS_retKS (Enters_fn rfl) (ih _ a lo mid _ _ _ (by first | exact hl | exact k1 (by omega) (by omega)) rfl rfl rfl (by omega) (by omega) (by omega) (by omega)) rfl rfl rfl (fun v205 L205 h205 => ?_); subst h205) | (refine OPS_retKS (Enters_fn rfl) (ih _ mid e y _ _ _ (by first | exact hl | exact k1 (by omega) (by omega) | exact k2 (by omega) (by omega) _ hl | exact k2 (by omega) (by omega) _ (k1 (by omega) (by omega))) rfl (by omega) rfl (by omega) (by omega) (by omega) (by omega)) rfl rfl rfl (fun v219 L219 h219 => ?_); subst h219))) | (refine ZrG 43 ?_; refine Zv Zmi ?_; refine Zv Zmi ?_; refine Zv Zxlss ?_; refine Zv Zmb ?_) | (refine ZrN 44 fun _ => ?_; refine Zv Zmv ?_; refine Zv Zmi ?_; refine Zv Zmi ?_; refine Zv Zmi ?_; refine Zv Zmv ?_; (first | (refine OPS_retKS (Enters_fn rfl) (ih _ a lo mid _ _ _ (by first | exact hl | exact k1 (by omega) (by omega)) rfl rfl rfl (by omega) (by omega) (by omega) (by omega)) rfl rfl rfl (fun v205 L205 h205 => ?_); subst h205) | (refine OPS_retKS (Enters_fn rfl) (ih _ mid e y _ _ _ (by first | exact hl | exact k1 (by omega) (by omega) | exact k2 (by omega) (by omega) _ hl | exact k2 (by omega) (by omega) _ (k1 (by omega) (by omega))) rfl (by omega) rfl (by omega) (by omega) (by omega) (by omega)) rfl rfl rfl (fun v219 L219 h219 => ?_); subst h219))) | (refine WP_cond_false rfl ?_) | (refine Zcd (fun hc => ?_) (fun hc => ?_) <;> (try (exfalso; omega))) | (with_reducible apply WP_skip) | (with_reducible apply WP_exit)) | (refine Zhn ?_) | (refine Zhx ?_) | (with_reducible apply QBlock_hit) | (with_reducible apply QLoop_exit))
        all_goals (refine QBody_end0 rfl ⟨_, rfl, ?_⟩; by_cases p1 : lo < m ∧ m < e <;> by_cases p2 : a < lo ∧ lo < mid <;> by_cases p3 : mid < e ∧ e < y <;> first | (exfalso; omega) | ((first | rw [if_pos p3] | rw [if_neg p3]); (first | rw [if_pos p2] | rw [if_neg p2]); (first | rw [if_pos p1] | rw [if_neg p1])))
    · rw [if_neg hmm] at hsR
      repeat' (first | (refine Znh ?_) | (refine GiW ?_; first | (refine Zsq fun K hK => ?_) | (refine ZrN 0 fun _ => ?_; refine Zv Zmi ?_; refine Zv Zmi ?_; refine Zv Zxsub ?_; refine Zv Zxeql ?_) | (refine ZrN 12 fun _ => ?_; refine Zv Zmi ?_; refine Zv Zmi ?_; refine Zv Zxsub ?_; refine Zv Zxeql ?_) | (refine ZrN 24 fun _ => ?_; refine Zv Zmi ?_; refine Zv Zmi ?_; refine Zv Zxadd ?_; refine Zv Zxco ?_; refine Zv (hsh rfl rfl) ?_; refine Zv Zxco ?_; refine Zv Zai ?_) | (refine ZrN 25 fun _ => ?_; refine Zv Zmi ?_; refine Zv Zmi ?_; refine Zv Zxadd ?_; refine Zv Zai ?_) | (refine ZrN 26 fun _ => ?_; refine Zv Zai ?_; refine Zv Zai ?_) | (refine ZrN 27 fun _ => ?_; refine Zv Zmi ?_; refine Zv Zmi ?_; refine Zv Zxgtr ?_) | (refine ZrN 30 fun _ => ?_; refine Zv Zmi ?_; refine Zv Zai ?_) | (refine ZrN 31 fun _ => ?_; refine Zv Zmi ?_; refine Zv Zai ?_) | (refine ZrN 32 fun _ => ?_; refine Zv Zmi ?_; refine Zv Zxsub ?_; refine Zv Zai ?_) | (refine Zcd (fun hc => ?_) (fun hc => ?_) <;> (try (exfalso; omega))) | (with_reducible apply WP_skip) | (with_reducible apply WP_block)) | (refine Zhn ?_))
      refine WP_loop [20, 21, 23, 149, 150, 151, 152, 153, 154, 155, 156, 157, 158, 159, 160, 161, 162, 163, 164, 165, 166, 167, 168, 169, 170, 171, 172, 173, 174] (fun st : Nat × Nat × Nat => [(20, .int .i64 st.2.1), (21, .int .i64 st.2.2)]) (fun _ => (b, Blk 93 (ut tl l)) :: L)
        (fun st => bsr (fun c => !decide (pc (gt l (mid + m - 1 - c)) < pc (gt l c))) st.1 st.2.1 st.2.2 = s ∧ st.2.2 - st.2.1 ≤ st.1 ∧ st.2.1 ≤ st.2.2 ∧ a ≤ st.2.1 ∧ st.2.2 ≤ m) (fun st => st.2.2 - st.2.1) (m - a, a, m) (.cons rfl (.cons rfl .nil)) (Wk.refl _) ⟨hsR, by dsimp only; omega, by dsimp only; omega, by dsimp only; omega, by dsimp only; omega⟩ ?_
      rintro ⟨g, lo, hi⟩ j0 ⟨hB, hg, hlh, hlo, hhi⟩
      dsimp only at hB hg hlh hlo hhi ⊢
      by_cases hlt : lo < hi
      · obtain ⟨g, rfl⟩ : ∃ g', g = g' + 1 := ⟨g - 1, by omega⟩
        obtain ⟨h, hh⟩ : ∃ h, (lo + hi) / 2 ^ 1 = h := ⟨_, rfl⟩
        have hb1 : lo ≤ h ∧ h < hi := by omega
        obtain ⟨p, hp⟩ : ∃ p, mid + m - 1 - h = p := ⟨_, rfl⟩
        have hpn : p < n := by omega
        have hB' : (if ¬ pc (gt l p) < pc (gt l h) then bsr (fun c => !decide (pc (gt l (mid + m - 1 - c)) < pc (gt l c))) g (h + 1) hi else bsr (fun c => !decide (pc (gt l (mid + m - 1 - c)) < pc (gt l c))) g lo h) = s := by
          rw [← hB]
          show _ = (if _ then (if _ then _ else _) else _)
          rw [if_pos hlt, hh]
          simp only [hp, Bool.not_eq_true', decide_eq_false_iff_not]
        have c1 : (ut tl l)[0 + h]? = some (.int .u64 (gt l h : Int)) := ut_get (by rw [hl.1]; omega)
        have c2 : (ut tl l)[0 + p]? = some (.int .u64 (gt l p : Int)) := ut_get (by rw [hl.1]; omega)
        have hc1 := fun L => cmp_ret N w0 L (gt l p) (gt l h) (hl.gt (by omega)) (hl.gt (by omega))
        have hsh2 : ∀ {L e d ty pos af g x y' t t'} (hx : ev e x = .int .u64 ((lo : Int) + hi)) (hy : ev e y' = .int .u64 ((1 : Nat) : Int)), Val Try.prog N w0 L e ⟨d, .binOp .shr t x y' t', ty, pos, af, g⟩ (.int .u64 (h : Int)) := by
          intro L e d ty pos af g x y' t t' hx hy
          have := Val_shr (P := Try.prog) (N := N) (w0 := w0) (L := L) (d := d) (ty := ty) (pos := pos) (af := af) (g := g) (t := t) (t' := t') (a := lo + hi) (i := 1) (by rw [hx]; congr 1) hy (by decide)
          rw [hh] at this
          exact this
        repeat' (first | (refine GiP ?_; first | (refine Znh ?_) | (with_reducible refine Znl ?_)) | (refine GiW ?_; first | (refine Zsq fun K hK => ?_) | (refine ZrN 33 fun _ => ?_; refine Zv Zmi ?_; refine Zv Zmi ?_; refine Zv Zxlss ?_) | (refine ZrN 34 fun _ => ?_; refine Zv Zmi ?_; refine Zv Zmi ?_; refine Zv Zxadd ?_; refine Zv Zxco ?_; refine Zv (hsh2 rfl rfl) ?_; refine Zv Zxco ?_; refine Zv Zai ?_) | (refine ZrN 36 fun _ => ?_; refine Zv Zmi ?_; refine Zv Zxadd ?_; refine Zv Zai ?_) | (refine ZrN 37 fun _ => ?_; refine Zv Zmi ?_; refine Zv Zai ?_) | (refine Zcd (fun hc => ?_) (fun hc => ?_) <;> (try (exfalso; omega))) | (with_reducible apply WP_skip) | (with_reducible apply WP_block) | (refine WP_drawn (id := 35) [0, 1, 2, 3, 4, 5, 6, 7, 8, 9, 10, 11, 12, 13] [] (k := 0) prog_mixed (by kernel_rfl) rfl ?_; refine Zew rfl Zmv ?_; refine Zew rfl Zmv ?_; refine Zew rfl Zmi ?_; refine Zew rfl Zmi ?_; refine Zew rfl Zxsub ?_; (first | (refine Zew rfl (Val_indexAddr1 rfl rfl (show _ = ((p : Nat) : Int) by omega) (by omega)) ?_) | (refine Zew rfl Zia ?_)); refine Zew rfl Zld ?_; refine Zew rfl Zmv ?_; refine Zew rfl Zmi ?_; (first | (refine Zew rfl (Val_indexAddr1 rfl rfl (show _ = ((p : Nat) : Int) by omega) (by omega)) ?_) | (refine Zew rfl Zia ?_)); refine Zew rfl Zld ?_; refine Zec rfl (Enters_val rfl rfl) (fun X => hc1 _) ?_; refine Zew rfl Zxlss ?_; refine Zew rfl Zxnot ?_)) | (with_reducible apply EWalk_nil) | (refine AnyO_done (by kernel_rfl) ?_; (try with_reducible apply noP_normal); try with_reducible exact key.out) | (refine Zhn ?_) | (with_reducible apply QBlock_normal) | (refine AWalk_0 ?_; refine ZisO ?_))
        · rw [if_pos (by first | omega | (simp at hc; omega))] at hB'
          exact QLoop_normal (g, h + 1, hi) (.cons rfl (.cons rfl .nil)) (by repeat (first | exact Off.frame rfl | exact Off.refl _ _ | refine Off.frameT rfl rfl ?_ | refine Off.upd rfl ?_ | refine Off.updO rfl ?_)) (by repeat (first | exact Wk.refl _ | apply Wk.keep1 | apply Wk.drop | apply Wk.sv | apply Wk.svD | apply Wk.appD)) ⟨hB', by dsimp only; omega, by dsimp only; omega, by dsimp only; omega, hhi⟩ (by dsimp only; omega)
        · rw [if_neg (by first | omega | (simp at hc; omega))] at hB'
          exact QLoop_normal (g, lo, h) (.cons rfl (.cons rfl .nil)) (by repeat (first | exact Off.frame rfl | exact Off.refl _ _ | refine Off.frameT rfl rfl ?_ | refine Off.upd rfl ?_ | refine Off.updO rfl ?_)) (by repeat (first | exact Wk.refl _ | apply Wk.keep1 | apply Wk.drop | apply Wk.sv | apply Wk.svD | apply Wk.appD)) ⟨hB', by dsimp only; omega, by dsimp only; omega, hlo, by dsimp only; omega⟩ (by dsimp only; omega)
      · have hlR : lo = s := by rw [← hB, bsr_stop hlt]
        subst hlR
        have k1 : lo < m → m < e → Lt128 n (rotL m (m - lo + (e - m)) (m - lo) (e - m) l) := fun _ _ => rotL_lt _ hl (by omega) (by omega)
        have k2 : a < lo → lo < mid → ∀ l', Lt128 n l' → Lt128 n (sym f a lo mid l') := fun _ _ l' h => sym_lt f h (by omega) (by omega) (by omega)
        repeat' (first | (refine GiP ?_; first | (refine Znh ?_) | (with_reducible refine Znl ?_) | (refine Zatd 185 ?_; (first | (refine Zv Zxpt ?_) | (refine Zv Zxpf ?_))) | (refine Zatd 199 ?_; (first | (refine Zv Zxpt ?_) | (refine Zv Zxpf ?_))) | (refine Zatd 213 ?_; (first | (refine Zv Zxpt ?_) | (refine Zv Zxpf ?_))) | (refine Zatd 182 ?_; first | refine Zsk ?_ | (refine Zv Zmi ?_)) | (refine Zatd 183 ?_; first | refine Zsk ?_ | (refine Zv Zmi ?_)) | (refine Zatd 184 ?_; first | refine Zsk ?_ | (refine Zv Zxlss ?_)) | (refine Zatd 196 ?_; first | refine Zsk ?_ | (refine Zv Zmi ?_)) | (refine Zatd 197 ?_; first | refine Zsk ?_ | (refine Zv Zmi ?_)) | (refine Zatd 198 ?_; first | refine Zsk ?_ | (refine Zv Zxlss ?_)) | (refine Zatd 210 ?_; first | refine Zsk ?_ | (refine Zv Zmi ?_)) | (refine Zatd 211 ?_; first | refine Zsk ?_ | (refine Zv Zmi ?_)) | (refine Zatd 212 ?_; first | refine Zsk ?_ | (refine Zv Zxlss ?_)) | (refine Zsp (fun hc => ?_) (fun hc => ?_) <;> (try (exfalso; omega)))) | (refine GiW ?_; first | (refine Zsq fun K hK => ?_) | (refine ZrN 33 fun _ => ?_; refine Zv Zmi ?_; refine Zv Zmi ?_; refine Zv Zxlss ?_) | (refine ZrN 38 fun _ => ?_; refine Zv Zmi ?_; refine Zv Zmi ?_; refine Zv Zxsub ?_; refine Zv Zai ?_) | (refine ZrG 39 ?_; refine Zv Zmi ?_; refine Zv Zmi ?_; refine Zv Zxlss ?_; refine Zv Zmb ?_) | (refine ZrN 40 fun _ => ?_; refine Zv Zmv ?_; refine Zv Zmi ?_; refine Zv Zmi ?_; refine Zv Zmi ?_; refine Zv Zmv ?_; refine OPS_retKS (Enters_fn rfl) (hrot _ hl hn b c lo m e _ _ _ rfl rfl (by omega) (by omega) (by omega) (by omega)) rfl rfl rfl (fun v191 L191 h191 => ?_); subst h191) | (refine ZrG 41 ?_; refine Zv Zmi ?_; refine Zv Zmi ?_; refine Zv Zxlss ?_; refine Zv Zmb ?_) | (refine ZrN 42 fun _ => ?_; refine Zv Zmv ?_; refine Zv Zmi ?_; refine Zv Zmi ?_; refine Zv Zmi ?_; refine Zv Zmv ?_; (first | (refine OPS_retKS (Enters_fn rfl) (ih _ a lo mid _ _ _ (by first | exact hl | exact k1 (by omega) (by omega)) rfl rfl rfl (by omega) (by omega) (by omega) (by omega)) rfl rfl rfl (fun v205 L205 h205 => ?_); subst h205) | (refine OPS_retKS (Enters_fn rfl) (ih _ mid e y _ _ _ (by first | exact hl | exact k1 (by omega) (by omega) | exact k2 (by omega) (by omega) _ hl | exact k2 (by omega) (by omega) _ (k1 (by omega) (by omega))) rfl (by omega) rfl (by omega) (by omega) (by omega) (by omega)) rfl rfl rfl (fun v219 L219 h219 => ?_); subst h219))) | (refine ZrG 43 ?_; refine Zv Zmi ?_; refine Zv Zmi ?_; refine Zv Zxlss ?_; refine Zv Zmb ?_) | (refine ZrN 44 fun _ => ?_; refine Zv Zmv ?_; refine Zv Zmi ?_; refine Zv Zmi ?_; refine Zv Zmi ?_; refine Zv Zmv ?_; (first | (refine OPS_retKS (Enters_fn rfl) (ih _ a lo mid _ _ _ (by first | exact hl | exact k1 (by omega) (by omega)) rfl rfl rfl (by omega) (by omega) (by omega) (by omega)) rfl rfl rfl (fun v205 L205 h205 => ?_); subst h205) | (refine OPS_retKS (Enters_fn rfl) (ih _ mid e y _ _ _ (by first | exact hl | exact k1 (by omega) (by omega) | exact k2 (by omega) (by omega) _ hl | exact k2 (by omega) (by omega) _ (k1 (by omega) (by omega))) rfl (by omega) rfl (by omega) (by omega) (by omega) (by omega)) rfl rfl rfl (fun v219 L219 h219 => ?_); subst h219))) | (refine WP_cond_false rfl ?_) | (refine Zcd (fun hc => ?_) (fun hc => ?_) <;> (try (exfalso; omega))) | (with_reducible apply WP_skip) | (with_reducible apply WP_exit)) | (refine Zhn ?_) | (refine Zhx ?_) | (with_reducible apply QBlock_hit) | (with_reducible apply QLoop_exit))
        all_goals (refine QBody_end0 rfl ⟨_, rfl, ?_⟩; by_cases p1 : lo < m ∧ m < e <;> by_cases p2 : a < lo ∧ lo < mid <;> by_cases p3 : mid < e ∧ e < y <;> first | (exfalso; omega) | ((first | rw [if_pos p3] | rw [if_neg p3]); (first | rw [if_pos p2] | rw [if_neg p2]); (first | rw [if_pos p1] | rw [if_neg p1])))
end
end Go.Proofs.Ytakmopiceopcpaa
end
