/- Package bank: what marks ask; in how many ways lines can lie. -/
import Derived.Test.YtakmopiceopcpaaA5
import Derived.Test.YtakmopiceopcpaaAp
import Derived.Test.YtakmopiceopcpaaBt
import Derived.Test.YtakmopiceopcpaaQv
import Derived.Test.YtakmopiceopcpaaMk
section
namespace Go.Proofs.Ytakmopiceopcpaa
open Go.RowKit
def asksF (l : List Ask) : List Value := (l.map askL).flatten
theorem asksF_len (l : List Ask) : (asksF l).length = l.length * 1 := map_flat (f := askL) (sz := 1) (fun _ => rfl) l
theorem asksF_snoc (l : List Ask) (a : Ask) : asksF (l ++ [a]) = asksF l ++ [askV a] := by
  unfold asksF
  rw [List.map_append, List.flatten_append]; rfl
theorem asksF_append (l m : List Ask) : asksF (l ++ m) = asksF l ++ asksF m := by
  unfold asksF
  rw [List.map_append, List.flatten_append]
theorem ask_ones (l : List Ask) : ones (asksF l) = true := by
  refine ones_flat fun r hr => ?_
  obtain ⟨a, _, rfl⟩ := List.mem_map.1 hr
  cases a <;> rfl
def marksT (b : Bn) (k : Nat) : List Ask := .any :: (b.ms.take k).map mkA
theorem marksT_succ {b : Bn} {k : Nat} (h : k < b.ms.length) : marksT b (k + 1) = marksT b k ++ [mkA b.ms[k]] := by
  unfold marksT
  rw [List.take_succ_eq_append_getElem h, List.map_append]; rfl
instance : ConcTy Try.prog 77 := ⟨by kernel_rfl⟩
instance : BuildTy Try.prog 77 (fun i => (#[] : Array (Nat × Nat))[i]?) [] := ⟨fun _ => by kernel_rfl⟩
attribute [local irreducible] AnyO AnyB QAny QB EWalk AWalk Ev WP OPS QThen QBlock QScope QLoop QBody Val New Turn Tri Enters PostA Blk Ro
attribute [local irreducible] AnyC QC
section
variable (N : Nat) (w0 : World)
set_option maxHeartbeats 4000000 in
theorem marks_tri (L : Hp) (g : Fg) (hv : VB g.d) (hA : BkAt N w0 g) : Tri Try.prog N w0 L 67 [bkV g, .int .u64 ((2 ^ g.d.ms.length - 1 : Nat) : Int)].toArray fun x L' => ∃ v, x = .returned v ∧ ∃ s, v = svV s (g.d.ms.length + 1) ∧ svOk s 1 (g.d.ms.length + 1) (asksF (marksA g.d)) ∧ L' = svH 125 1 (g.d.ms.length + 1) (asksF (marksA g.d)) s L := by
  have hnm := hv.nm
  have hp : 2 ^ g.d.ms.length ≤ 2 ^ 6 := Nat.pow_le_pow_right (by omega) hnm
  obtain ⟨set, hset⟩ : ∃ set, 2 ^ g.d.ms.length - 1 = set := ⟨_, rfl⟩
  have hbit := fun j hj => ev_bit6 g.d.ms.length (by omega) j hj
  rw [hset] at hbit ⊢
  have hs64 : set < 2 ^ 64 := by omega
  unfold bkV bkL
  refine Tri.fgt ?_
  refine tri_of_WP Try.func67 rfl (n := _) rfl (by simp) ?_
  have hs0 := svOk_nil 1
  repeat' (first | (refine GiP ?_; first | (refine Znh ?_) | (with_reducible refine Znl ?_)) | (refine GiW ?_; first | (refine Zsq fun K hK => ?_) | (refine ZrN 0 fun _ => ?_; refine Zal 2 fun b2 => ?_; refine Zv Zav ?_) | (refine ZrN 1 fun _ => ?_; refine Zv Zmv ?_; refine Zv Zxbu ?_; refine Zv Zxmi ?_; refine Zal 10 fun b10 => ?_; refine OPS_append (k := 0) (s := none) (xs := []) rfl rfl rfl (Wk.refl _) hs0 (blk_cells .here) rfl rfl (by simp only [maxLen]; omega) (by omega) rfl rfl (fun s11 hs11 => ?_); refine Zv Zav ?_) | (refine ZrN 2 fun _ => ?_; refine Zv Zf0 ?_; refine Zv Zfa ?_; refine Zv Zld ?_; refine Zv Zxlen ?_; refine Zv Zmi ?_) | (refine WP_cond_true rfl ?_) | (refine WP_cond_false rfl ?_) | (refine Zcd (fun hc => ?_) (fun hc => ?_) <;> (try (exfalso; omega))) | (with_reducible apply WP_skip) | (with_reducible apply WP_block) | (with_reducible apply WP_exit) | (with_reducible apply WP_ret)) | (refine Zhn ?_) | (with_reducible apply QBlock_normal) | (refine Zhx ?_) | (with_reducible apply QBlock_hit) | (refine Zqb ?_) | (with_reducible apply QLoop_exit) | (refine Zhr ?_) | (with_reducible apply QBlock_ret) | (with_reducible apply QLoop_ret))
  refine WP_loop [4, 5, 6, 16, 17, 18, 19, 20, 21, 22, 23, 24, 25, 26, 27, 28, 29, 30, 31, 32, 33, 34, 35] (fun q : Nat × Option (Nat × Nat) => [(16, .int .i64 (q.1 : Int)), (4, svV q.2 (q.1 + 1))]) (fun q => svH 125 1 (q.1 + 1) (asksF (marksT g.d q.1)) q.2 ((b2, Blk 71 [.int .i64 g.d.n, .int .i64 g.d.m, .slice g.A1 g.d.ls.length g.c1, .slice g.A2 g.d.ms.length g.c2]) :: L)) (fun q => q.1 ≤ g.d.ms.length ∧ svOk q.2 1 (q.1 + 1) (asksF (marksT g.d q.1))) (fun q => g.d.ms.length - q.1) (0, s11) (.cons rfl (.cons rfl .nil)) (Wk.sv (.drop (Wk.refl _))) ⟨Nat.zero_le _, hs11⟩ ?_
  rintro ⟨k, s⟩ j ⟨hk, hs⟩
  dsimp only at hk hs ⊢
  by_cases hlt : k < g.d.ms.length
  · obtain ⟨bA, oA, hA2, hbA, hcA⟩ := hA.ms.row k hlt
    have hsn := marksT_succ hlt
    have hb := hbit k hlt
    obtain ⟨q, hq⟩ : ∃ q, g.d.ms[k] = q := ⟨_, rfl⟩
    rw [hq] at hcA hsn
    unfold spL at hcA
    obtain ⟨z, hz⟩ : ∃ z, set / 2 ^ k = z := ⟨_, rfl⟩
    have hz64 : z < 2 ^ 64 := by rw [← hz]; exact Nat.lt_of_le_of_lt (Nat.div_le_self _ _) hs64
    have hshr : ∀ {L e d ty pos af g x y' t t'} (hx : ev e x = .int .u64 (set : Int)) (hy : ev e y' = .int .i64 (k : Int)), Val Try.prog N w0 L e ⟨d, .binOp .shr t x y' t', ty, pos, af, g⟩ (.int .u64 (z : Int)) := by
      intro L e d ty pos af g x y' t t' hx hy
      have := Val_shr (P := Try.prog) (N := N) (w0 := w0) (L := L) (d := d) (ty := ty) (pos := pos) (af := af) (g := g) (t := t) (t' := t') (a := set) (i := k) hx hy (by show k ≤ 64; omega)
      rw [hz] at this
      exact this
    rw [hz] at hb
    have hnx : asksF (marksT g.d (k + 1)) = asksF (marksT g.d k) ++ [[Value.iface 79 (.agg #[.int .i64 q.1, .int .i64 q.2])]].flatten := by rw [hsn, asksF_snoc]; rfl
    repeat' (first | (refine GiP ?_; first | (refine Znh ?_) | (with_reducible refine Znl ?_)) | (refine GiW ?_; first | (refine Zsq fun K hK => ?_) | (refine ZrN 3 fun _ => ?_; refine Zv Zxlss ?_) | (refine ZrN 4 fun _ => ?_; refine Zv Zmi ?_; refine Zv Zia ?_; (first | (refine Zv (Val_loadRN rfl hbA hcA rfl) ?_) | (refine Zv Zla ?_)); refine Zal 6 fun b6 => ?_; refine Zv Zai ?_; refine Zst ?_) | (refine ZrN 5 fun _ => ?_; refine Zv Zmi ?_; refine Zv Zmi ?_; refine Zv (hshr rfl rfl) ?_; refine Zv (Val_and1 rfl rfl hz64) ?_; refine Zv Zxeql ?_) | (refine ZrN 6 fun _ => ?_; refine Zv Zmv ?_; refine Zv Zf0 ?_; (first | (refine Zv (Val_loadRN rfl hbA hcA rfl) ?_) | (refine Zv Zld ?_)); refine Zv Zfa ?_; (first | (refine Zv (Val_loadRN rfl hbA hcA rfl) ?_) | (refine Zv Zld ?_)); refine Zv Zxbu ?_; refine Zv Zxmi ?_; refine Zal 33 fun b33 => ?_; refine OPS_append rfl rfl rfl (by repeat (first | exact Wk.refl _ | apply Wk.keep1 | apply Wk.drop | apply Wk.sv | apply Wk.svD | apply Wk.appD)) (by assumption) (blk_cells (by repeat (first | exact Mem.here | assumption | apply Mem.there | apply Mem.sv | apply Mem.app))) rfl rfl (by simp only [maxLen]; omega) (by omega) rfl rfl (fun s34 hs34 => ?_); refine Zv Zav ?_) | (refine ZrN 7 fun _ => ?_; refine Zv Zxadd ?_; refine Zv Zmi ?_) | (refine WP_cond_true rfl ?_) | (refine WP_cond_false rfl ?_) | (refine Zcd (fun hc => ?_) (fun hc => ?_) <;> (try (exfalso; omega))) | (with_reducible apply WP_skip) | (with_reducible apply WP_block) | (with_reducible apply WP_exit) | (with_reducible apply WP_ret)) | (refine Zhn ?_) | (with_reducible apply QBlock_normal) | (refine Zhx ?_) | (with_reducible apply QBlock_hit) | (refine Zqb ?_) | (with_reducible apply QLoop_exit) | (refine Zhr ?_) | (with_reducible apply QBlock_ret) | (with_reducible apply QLoop_ret))
    refine QLoop_normal (k + 1, s34) (.cons rfl (.cons rfl .nil)) (by repeat (first | exact Off.frame rfl | exact Off.refl _ _ | refine Off.frameT rfl rfl ?_ | refine Off.upd rfl ?_ | refine Off.updO rfl ?_)) (by dsimp only; rw [hnx]; exact (by repeat (first | exact Wk.refl _ | apply Wk.keep1 | apply Wk.drop | apply Wk.sv | apply Wk.svD | apply Wk.appD))) ⟨by dsimp only; omega, by dsimp only; rw [hnx]; exact hs34⟩ (by dsimp only; omega)
  · repeat' (first | (refine GiP ?_; first | (refine Znh ?_) | (with_reducible refine Znl ?_)) | (refine GiW ?_; first | (refine Zsq fun K hK => ?_) | (refine ZrN 3 fun _ => ?_; refine Zv Zxlss ?_) | (refine ZrN 8 fun _ => ?_; refine Zv Zmv ?_; refine Zv Zav ?_) | (refine WP_cond_true rfl ?_) | (refine WP_cond_false rfl ?_) | (refine Zcd (fun hc => ?_) (fun hc => ?_) <;> (try (exfalso; omega))) | (with_reducible apply WP_skip) | (with_reducible apply WP_block) | (with_reducible apply WP_exit) | (with_reducible apply WP_ret)) | (refine Zhn ?_) | (with_reducible apply QBlock_normal) | (refine Zhx ?_) | (with_reducible apply QBlock_hit) | (refine Zqb ?_) | (with_reducible apply QLoop_exit) | (refine Zhr ?_) | (with_reducible apply QBlock_ret) | (with_reducible apply QLoop_ret))
    have hke : k = g.d.ms.length := by omega
    subst hke
    have hall : marksT g.d g.d.ms.length = marksA g.d := by unfold marksT marksA; rw [List.take_length]
    rw [hall] at hs ⊢
    exact QBody_ret1 rfl rfl ⟨_, (by repeat (first | exact Wk.refl _ | apply Wk.keep1 | apply Wk.drop | apply Wk.sv | apply Wk.svD | apply Wk.appD)), _, rfl, s, rfl, hs, rfl⟩
set_option maxHeartbeats 4000000 in
theorem ways_ret (L : Hp) (g : Fg) (hv : VB g.d) (hA : BkAt N w0 g) (A : Option Addr) (c : Nat) (aq : List Ask) (hl : aq.length ≤ 500) (hR : RdRows N w0 L A 1 (aq.map askL)) :
    Ret Try.prog N w0 L 55 [bkV g, .slice A aq.length c].toArray (.int .i64 (waysN g.d aq : Int)) := by
  have hnm := hv.nm
  have hml : (marksA g.d).length = g.d.ms.length + 1 := by simp [marksA]
  have hlen : (marksA g.d ++ aq).length = g.d.ms.length + 1 + aq.length := by rw [List.length_append, hml]
  have hev := fun L => every_ret N w0 L g hnm
  have hmk := fun L => marks_tri N w0 L g hv hA
  have hr1 : ∀ r ∈ aq.map askL, r.length = 1 := map_len (f := askL) (fun _ => rfl) aq
  have hcell : ∀ L', Wk L' L → ∀ w, Inv N w0 L' w → ∀ j u, (asksF aq)[j]? = some u → ∃ b o, A = some ⟨b, o, none⟩ ∧ w.cell? ⟨b, o + j, none⟩ = some u := fun L' k w hI => (hR.wk k).flat (by omega) hr1 hI
  have hnone : A = none → aq.length = 0 := by
    intro h
    cases haq : aq with
    | nil => rfl
    | cons a as' =>
      subst haq
      obtain ⟨b, o, h1, _⟩ := hR 0 (by simp)
      rw [h] at h1; cases h1
  have htl := fun L A' c' h => tally_ret N w0 L g hv hA (-1) A' c' (marksA g.d ++ aq) (by rw [hlen]; omega) h
  rw [hlen] at htl
  have hway := waysN_tl hv aq (-1)
  have hal := asksF_len aq
  have hone := ask_ones aq
  have happ : asksF (marksA g.d) ++ asksF aq = (((marksA g.d ++ aq)).map askL).flatten := (asksF_append _ _).symm
  obtain ⟨t, htt⟩ : ∃ t, tl (finR g.d (marksA g.d ++ aq) (-1)) = t := ⟨_, rfl⟩
  obtain ⟨t1, t2, t3⟩ := t
  rw [htt] at htl hway
  dsimp only at hway
  subst hway
  unfold tlV at htl
  unfold bkV bkL at hev hmk htl ⊢
  refine Ret.fgt ?_
  refine tri_of_WP Try.func55 rfl (n := _) rfl (by simp) ?_
  repeat' (first | (refine GiP ?_; first | (refine Znh ?_) | (with_reducible refine Znl ?_) | (refine Zatd 9 ?_; refine OPS_retKS (Enters_fn rfl) (hmk _) rfl rfl rfl (fun v9 L9 h9 => ?_); obtain ⟨s9, rfl, hs9, rfl⟩ := h9) | (refine Zatd 11 ?_; refine OPS_appendX (k := g.d.ms.length + 1) (xs := asksF (marksA g.d)) (s := s9) (news := asksF aq) (sz := 0) rfl rfl rfl (Wk.refl _) hs9 (hcell _ (Wk.svD (.drop (Wk.refl _)))) hnone hal hone (by simp only [maxLen]; omega) (by omega) rfl rfl (fun s11 hs11 => ?_); obtain ⟨A11, c11, h11, hrd11⟩ := RdRows.sv (E := 125) (by omega) hs11; rw [h11]) | (refine Zatd 12 ?_; refine Zcl (Enters_fn rfl) (htl _ A11 c11 (hrd11 _ _ _ _ Wk.sv0 happ (map_len (f := askL) (fun _ => rfl) _))) ?_) | (refine Zatd 13 ?_; refine Zv Zxfi ?_) | (refine Zatd 4 ?_; refine Zv Zai ?_)) | (refine GiW ?_; first | (refine Zsq fun K hK => ?_) | (refine ZrN 0 fun _ => ?_; refine Zal 2 fun b2 => ?_; refine Zv Zai ?_) | (with_reducible apply WP_ret) | (refine WP_drawnS (id := 1) [0, 5] [0, 1, 2, 3, 5] [] [5, 10] (k := 2) (k2 := 3) (by repeat (first | apply Sub.sv | apply Sub.keep | apply Sub.appK | exact Sub.refl _)) (by kernel_rfl) prog_mixed (by kernel_rfl) (by kernel_rfl) rfl ?_; refine Zew rfl Zla ?_; refine Zew rfl Zla ?_; refine Zew rfl Zla ?_; refine Zec rfl (Enters_fn rfl) (fun X => hev _) ?_; refine Zew rfl Zmv ?_)) | (with_reducible apply EWalk_nil) | (refine GiC ?_; first | (refine ZgC [0, 1, 2, 3, 5] ?_; refine ZC1 _ 4 [0, 1, 2, 3, 5, 4] ?_) | (refine ZgC [0, 1, 2, 3, 5, 4] ?_; refine ZC1 _ 6 [0, 1, 2, 3, 5, 4, 6] ?_) | (refine ZgC [0, 1, 2, 3, 5, 4, 6] ?_; refine ZCl _ ?_)) | (refine GiO ?_; first | (refine ZgO [0, 1, 2, 3, 5, 4, 6] ?_; refine ZO1 _ 7 [0, 1, 2, 3, 5, 4, 6, 7] ?_) | (refine ZgO [0, 1, 2, 3, 5, 4, 6, 7] ?_; refine ZO1 _ 8 [0, 1, 2, 3, 5, 4, 6, 7, 8] ?_) | (refine ZgO [0, 1, 2, 3, 5, 4, 6, 7, 8] ?_; refine ZO1 _ 9 [0, 1, 2, 3, 5, 4, 6, 7, 8, 9] ?_) | (refine ZgO [0, 1, 2, 3, 5, 4, 6, 7, 8, 9] ?_; refine ZOd _ ?_; (try with_reducible apply noP_normal); (try with_reducible exact key.out))) | (refine Zhn ?_) | (refine Zhr ?_) | (refine AWalk_0 ?_) | (with_reducible apply QAny_normal) | (with_reducible apply QC_normal))
  exact QBody_ret1 rfl (rfl : _ = Value.int _ _) ⟨rfl, Wk.svD (.drop (Wk.refl _))⟩
end
end Go.Proofs.Ytakmopiceopcpaa
end
