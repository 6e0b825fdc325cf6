/- The law SodEnds: a bank of which all is known. -/
import Derived.Test.YtkaadefndcbdnaaC4
import Derived.Test.YtkaadefndcbdnaaQi
namespace Go.Proofs.Ytkaadefndcbdnaa
open Go.RowKit
/-- The first k spits with one cost. -/
def kUp (f : Spt → Int) (ps : List Spt) (k : Nat) : List Spt := (ps.take k).map (knSp f) ++ ps.drop k
theorem kUp_len (f : Spt → Int) (ps : List Spt) (k : Nat) : (kUp f ps k).length = ps.length := by
  unfold kUp
  rw [List.length_append, List.length_map, List.length_take, List.length_drop]; omega
theorem kUp_set {f : Spt → Int} {ps : List Spt} {k : Nat} (h : k < ps.length) : (kUp f ps k).set k ⟨((kUp f ps k).getD k ⟨0, 0, 0⟩).sods, f ps[k], f ps[k]⟩ = kUp f ps (k + 1) := by
  have hl : ((ps.take k).map (knSp f)).length = k := by rw [List.length_map, List.length_take]; omega
  have hd : ps.drop k = ps[k] :: ps.drop (k + 1) := List.drop_eq_getElem_cons h
  have hg : (kUp f ps k).getD k ⟨0, 0, 0⟩ = ps[k] := by
    unfold kUp
    rw [List.getD_eq_getElem?_getD, List.getElem?_append_right (by omega), hl, Nat.sub_self, hd]; rfl
  rw [hg]
  unfold kUp
  rw [List.set_append_right _ _ (by omega), hl, Nat.sub_self, hd, List.set_cons_zero, List.take_succ_eq_append_getElem h, List.map_append, List.append_assoc]
  rfl
theorem kUp_all (f : Spt → Int) (ps : List Spt) : kUp f ps ps.length = ps.map (knSp f) := by unfold kUp; simp
theorem setL_cost : ∀ (l : List Spt) (p : Nat) (c : Int), p < l.length → setL ((l.map sptL).flatten) (p * 3 + 1) [.int .i64 c, .int .i64 c] = ((l.set p ⟨(l.getD p ⟨0, 0, 0⟩).sods, c, c⟩).map sptL).flatten
  | [], p, c, h => by simp at h
  | x :: l, 0, c, _ => by simp [setL, sptL]
  | x :: l, p + 1, c, h => by
    have ih := setL_cost l p c (by simpa using h)
    rw [List.set_cons_succ, List.map_cons, List.map_cons, List.flatten_cons, List.flatten_cons, List.getD_cons_succ, ← ih, show (p + 1) * 3 + 1 = p * 3 + 1 + 1 + 1 + 1 by omega]
    show setL (_ :: _ :: _ :: _) _ _ = _
    rw [setL_cons, setL_cons, setL_cons]
    rfl
/-- What known lays anew. -/
def KnK (s' : Sd) (v : Value) (X : Hp) : Prop := ∃ g', v = sodV g' ∧ g'.s = s' ∧ ∀ (N : Nat) (w0 : World) (L' : Hp), Sub X L' → SodIn N w0 L' g'
attribute [local irreducible] AnyO AnyB QAny QB EWalk AWalk Ev WP OPS QThen QBlock QScope QLoop QBody Val New Turn Tri Enters PostA Blk Ro
attribute [local irreducible] AnyC QC
section
variable (N : Nat) (w0 : World)
set_option maxRecDepth 100000 in
set_option maxHeartbeats 4000000 in
theorem known_at (L : Hp) (g : Fg) (hA : SodAt N w0 g) (hl0 : g.s.logs = []) (hn : 1 ≤ g.s.spits.length ∧ g.s.spits.length ≤ 3) (hd6 : g.s.days.length ≤ 6) (f : Spt → Int) (Ac : Option Addr) (cc : Nat) (hC : SlAt N w0 Ac 1 (g.s.spits.map fun p => [.int .i64 (f p)])) (hi : Bool) (gd : Sp → Int) (hgd : gd = if hi then (·.2) else (·.1)) :
    Tri Try.prog N w0 L 37 [sodV g, .slice Ac g.s.spits.length cc, .bool hi].toArray fun x L' => ∃ v, x = .returned v ∧ ∃ X, L' = X ++ L ∧ KnK (knownS g.s f gd) v X := by
  refine Tri.fgt ?_
  refine tri_of_WP Try.func37 rfl (n := 61) rfl (by simp) ?_
  have h32 := fun L x y => span32_ret N w0 L x y
  have hsrc : ∀ L', ∀ w, Inv N w0 L' w → ∀ j u, ((g.s.spits.map sptL).flatten)[j]? = some u → ∃ b o, g.A1 = some ⟨b, o, none⟩ ∧ w.cell? ⟨b, o + j, none⟩ = some u := fun L' w hI => (hA.spits.now hI).flat (by omega) (map_len (f := sptL) (fun _ => rfl) _)
  have hl2 : ((g.s.spits.map sptL).flatten).length = g.s.spits.length * (2 + 1) := map_flat (f := sptL) (fun _ => rfl) _
  have ho2 : ones ((g.s.spits.map sptL).flatten) = true := ones_flat (map_ones (f := sptL) (fun _ => rfl) _)
  have hA1n : g.A1 = none → g.s.spits.length = 0 := fun h => by have := slat_none hA.spits h; rw [List.length_map] at this; omega
  unfold sodV sdL
  repeat' (first | (refine GiP ?_; first | (refine Znh ?_) | (with_reducible refine Znl ?_)) | (refine GiW ?_; first | (refine Zsq fun K hK => ?_) | (refine ZrN 0 fun _ => ?_; refine Zal 3 fun b3 => ?_; refine Zal 6 fun b6 => ?_) | (refine ZrN 1 fun _ => ?_; refine Zv Zla ?_; refine Zal 7 fun b7 => ?_; refine Zst ?_) | (refine ZrN 2 fun _ => ?_; refine Zbs fun b13 => ?_; refine Zv Zf0 ?_; refine Zv Zld ?_; refine OPS_append0 rfl rfl rfl (by intro s9; repeat (first | exact Grow.here | apply Grow.there | apply Grow.sv | apply Grow.app)) svOk0 (hsrc _) hA1n hl2 ho2 (by simp only [maxLen]; omega) (by omega) (fun s16 hs16 => ?_); refine Zv Zf0 ?_; refine Zst ?_; refine Zv Zfa ?_; refine Zst ?_) | (refine ZrN 3 fun _ => ?_; refine Zv Zmv ?_; refine Zv Zxlen ?_; refine Zv Zmi ?_) | (refine WP_cond_true rfl ?_) | (refine WP_cond_false rfl ?_) | (refine Zcd (fun hc => ?_) (fun hc => ?_) <;> (try (exfalso; omega))) | (with_reducible apply WP_skip) | (with_reducible apply WP_block) | (with_reducible apply WP_exit) | (with_reducible apply WP_ret)) | (refine Zhn ?_) | (with_reducible apply QBlock_normal) | (refine Zhx ?_) | (with_reducible apply QBlock_hit) | (refine Zqb ?_) | (with_reducible apply QLoop_exit) | (refine Zhr ?_) | (with_reducible apply QBlock_ret) | (with_reducible apply QLoop_ret))
  cases s16 with
  | none => exact absurd (hs16.2 rfl) (by omega)
  | some pr =>
  obtain ⟨bR, cap⟩ := pr
  dsimp only [svH, svV]
  refine WP_loop [8, 9, 21, 22, 23, 24, 25, 26, 27, 28, 29, 30, 31, 32, 33, 34] (fun k : Nat => [(21, .int .i64 k)]) (fun k => (bR, Row 55 3 g.s.spits.length cap ((kUp f g.s.spits k).map sptL).flatten) :: (b7, Blk 26 [.slice (some ⟨bR, 0, none⟩) g.s.spits.length cap, .slice none 0 0, .slice g.A3 g.s.logs.length g.c3]) :: (b6, Blk 26 [.slice none 0 0, .slice none 0 0, .slice none 0 0]) :: (b3, Blk 26 [.slice g.A1 g.s.spits.length g.c1, .slice g.A2 g.s.days.length g.c2, .slice g.A3 g.s.logs.length g.c3]) :: L) (fun k => k ≤ g.s.spits.length) (fun k => g.s.spits.length - k) 0 (.cons rfl .nil) (Wk.refl _) (Nat.zero_le _) ?_
  intro k j1 hk
  by_cases hks : k < g.s.spits.length
  · obtain ⟨bA, oA, hA3, hbA, hcA⟩ := hC.row k (by simpa using hks)
    rw [Nat.mul_one] at hcA
    have hc0 : w0.cell? ⟨bA, oA + k, none⟩ = some (.int .i64 (f g.s.spits[k])) := RoAt hcA 0 _ rfl
    have hset : setL ((kUp f g.s.spits k).map sptL).flatten (0 + k * 3 + 1) [.int .i64 (f g.s.spits[k]), .int .i64 (f g.s.spits[k])] = ((kUp f g.s.spits (k + 1)).map sptL).flatten := by
      rw [Nat.zero_add, setL_cost _ _ _ (by rw [kUp_len]; exact hks), kUp_set hks]
    repeat' (first | (refine GiP ?_; first | (refine Znh ?_) | (with_reducible refine Znl ?_)) | (refine GiW ?_; first | (refine Zsq fun K hK => ?_) | (refine ZrN 4 fun _ => ?_; refine Zv Zylss ?_) | (refine ZrN 5 fun _ => ?_; refine Zv Zmi ?_; refine Zv Zia ?_; refine Zv Zld ?_; refine Zv Zai ?_; refine Zv Zai ?_) | (refine WP_cond_true rfl ?_) | (refine WP_cond_false rfl ?_) | (refine Zcd (fun hc => ?_) (fun hc => ?_) <;> (try (exfalso; omega))) | (with_reducible apply WP_skip) | (with_reducible apply WP_block) | (with_reducible apply WP_exit) | (with_reducible apply WP_ret)) | (refine Zhn ?_) | (with_reducible apply QBlock_normal) | (refine Zhx ?_) | (with_reducible apply QBlock_hit) | (refine Zqb ?_) | (with_reducible apply QLoop_exit) | (refine Zhr ?_) | (with_reducible apply QBlock_ret) | (with_reducible apply QLoop_ret))
    repeat' (first | (refine GiP ?_; first | (refine Znh ?_) | (with_reducible refine Znl ?_) | (refine Zatn ?_; refine OPS_turnN (Turn_storeRow rfl rfl (by repeat (first | exact Up.here | apply Up.there | apply Up.sv)) rfl (by dsimp only [List.length]; omega) hset rfl rfl) rfl rfl ?_)) | (refine GiW ?_; first | (refine Zsq fun K hK => ?_) | (refine WP_cond_true rfl ?_) | (refine WP_cond_false rfl ?_) | (refine Zcd (fun hc => ?_) (fun hc => ?_) <;> (try (exfalso; omega))) | (with_reducible apply WP_skip) | (with_reducible apply WP_block) | (with_reducible apply WP_exit) | (with_reducible apply WP_ret) | (refine WP_drawn (id := 6) [0, 1, 2, 3, 4, 5, 6, 7] [] (k := 1) prog_mixed (by kernel_rfl) rfl ?_; refine Zew rfl Zf0 ?_; refine Zew rfl Zld ?_; refine Zew rfl Zmi ?_; refine Zew rfl Zmi ?_; refine Zew rfl Zmi ?_; refine Zec rfl (Enters_fn rfl) (fun X => h32 _ _ _) ?_; refine Zew rfl Zia ?_; refine Zew rfl Zfa ?_)) | (with_reducible apply EWalk_nil) | (refine GiO ?_; first | (refine AnyO_done (by kernel_rfl) ?_; (try with_reducible apply noP_normal); try with_reducible exact key.out) | (refine AnyO_1 8 (by decide +kernel) rfl ?_)) | (refine Zhn ?_) | (with_reducible apply QBlock_normal) | (refine Zhx ?_) | (with_reducible apply QBlock_hit) | (refine Zqb ?_) | (with_reducible apply QLoop_exit) | (refine Zhr ?_) | (with_reducible apply QBlock_ret) | (with_reducible apply QLoop_ret) | (refine AWalk_0 ?_; refine ZisO ?_) | (with_reducible apply QAny_normal))
    repeat' (first | (refine GiP ?_; first | (refine Znh ?_) | (with_reducible refine Znl ?_)) | (refine GiW ?_; first | (refine Zsq fun K hK => ?_) | (refine ZrN 7 fun _ => ?_; refine Zv Zxadd ?_; refine Zv Zmi ?_) | (refine WP_cond_true rfl ?_) | (refine WP_cond_false rfl ?_) | (refine Zcd (fun hc => ?_) (fun hc => ?_) <;> (try (exfalso; omega))) | (with_reducible apply WP_skip) | (with_reducible apply WP_block) | (with_reducible apply WP_exit) | (with_reducible apply WP_ret)) | (refine Zhn ?_) | (with_reducible apply QBlock_normal) | (refine Zhx ?_) | (with_reducible apply QBlock_hit) | (refine Zqb ?_) | (with_reducible apply QLoop_exit) | (refine Zhr ?_) | (with_reducible apply QBlock_ret) | (with_reducible apply QLoop_ret))

    exact QLoop_normal (k + 1) (.cons rfl .nil) (by repeat (first | exact Off.frame rfl | exact Off.refl _ _ | refine Off.frameT rfl rfl ?_ | refine Off.upd rfl ?_ | refine Off.updO rfl ?_)) (by repeat (first | exact Wk.refl _ | apply Wk.keep1 | apply Wk.drop | apply Wk.sv | apply Wk.svD | apply Wk.appD)) (by omega) (by omega)
  · obtain rfl : k = g.s.spits.length := by omega
    rw [kUp_all]
    repeat' (first | (refine GiP ?_; first | (refine Znh ?_) | (with_reducible refine Znl ?_)) | (refine GiW ?_; first | (refine Zsq fun K hK => ?_) | (refine ZrN 4 fun _ => ?_; refine Zv Zylss ?_) | (refine ZrN 8 fun _ => ?_; refine Zv Zfa ?_; refine Zv Zld ?_; refine Zv Zxlen ?_; refine Zv Zmi ?_) | (refine WP_cond_true rfl ?_) | (refine WP_cond_false rfl ?_) | (refine Zcd (fun hc => ?_) (fun hc => ?_) <;> (try (exfalso; omega))) | (with_reducible apply WP_skip) | (with_reducible apply WP_block) | (with_reducible apply WP_exit) | (with_reducible apply WP_ret)) | (refine Zhn ?_) | (with_reducible apply QBlock_normal) | (refine Zhx ?_) | (with_reducible apply QBlock_hit) | (refine Zqb ?_) | (with_reducible apply QLoop_exit) | (refine Zhr ?_) | (with_reducible apply QBlock_ret) | (with_reducible apply QLoop_ret))
    refine WP_loop [11, 38, 39, 40, 41, 42, 43, 44, 45, 46, 47, 48, 49, 50, 51, 52, 53, 54, 55, 56, 57, 58, 59] (fun st : Nat × Option (Nat × Nat) => [(38, .int .i64 st.1)]) (fun st => (bR, Row 55 3 g.s.spits.length cap ((g.s.spits.map (knSp f)).map sptL).flatten) :: svH 28 2 st.1 (((g.s.days.take st.1).map fun d => spL (gd d, gd d)).flatten) st.2 ((b7, Blk 26 [.slice (some ⟨bR, 0, none⟩) g.s.spits.length cap, svV st.2 st.1, .slice g.A3 g.s.logs.length g.c3]) :: (b6, Blk 26 [.slice none 0 0, .slice none 0 0, .slice none 0 0]) :: (b3, Blk 26 [.slice g.A1 g.s.spits.length g.c1, .slice g.A2 g.s.days.length g.c2, .slice g.A3 g.s.logs.length g.c3]) :: L)) (fun st => st.1 ≤ g.s.days.length ∧ svOk st.2 2 st.1 (((g.s.days.take st.1).map fun d => spL (gd d, gd d)).flatten)) (fun st => g.s.days.length - st.1) (0, none) (.cons rfl .nil) (Wk.refl _) ⟨Nat.zero_le _, svOk_nil _⟩ ?_
    rintro ⟨k, s2⟩ j2 ⟨hk2, hs2⟩
    dsimp only at hk2 hs2 ⊢
    by_cases hkd : k < g.s.days.length
    · obtain ⟨bA, oA, hA2, hbA, hcA⟩ := hA.days.row k (by simpa using hkd)
      obtain ⟨d, hd⟩ : ∃ d, g.s.days[k] = d := ⟨_, rfl⟩
      rw [hd] at hcA
      obtain ⟨d1, d2⟩ := d
      have hnext : ((g.s.days.take (k + 1)).map fun d => spL (gd d, gd d)).flatten = ((g.s.days.take k).map fun d => spL (gd d, gd d)).flatten ++ [.int .i64 (gd (d1, d2)), .int .i64 (gd (d1, d2))] := by
        rw [List.take_succ_eq_append_getElem hkd, hd]; simp [spL]
      unfold spL at hcA
      cases hi with
      | true =>
        obtain rfl : gd = (·.2) := by rw [hgd]; rfl
        dsimp only at hnext
        repeat' (first | (refine GiP ?_; first | (refine Znh ?_) | (with_reducible refine Znl ?_)) | (refine GiW ?_; first | (refine Zsq fun K hK => ?_) | (refine ZrN 9 fun _ => ?_; refine Zv Zylss ?_) | (refine ZrN 10 fun _ => ?_; refine Zv Zia ?_; refine Zv Zla ?_; refine Zal 11 fun b11 => ?_; refine Zst ?_) | (refine ZrN 11 fun _ => ?_; refine Zv Zmb ?_) | (refine ZrN 12 fun _ => ?_; refine Zv Zfa ?_; refine Zv Zld ?_; refine Zv Zfa ?_; refine Zv Zld ?_; refine Zcl (Enters_fn rfl) (h32 _ _ _) ?_; refine Zst ?_) | (refine ZrN 14 fun _ => ?_; refine Zv Zfa ?_; refine Zv Zld ?_; refine Zv Zla ?_; refine Zal 56 fun b56 => ?_; refine Zag (fun s57 hs57 => ?_); refine Zv Zfa ?_; refine Zst ?_) | (refine ZrN 15 fun _ => ?_; refine Zv Zxadd ?_; refine Zv Zmi ?_) | (refine WP_cond_true rfl ?_) | (refine WP_cond_false rfl ?_) | (refine Zcd (fun hc => ?_) (fun hc => ?_) <;> (try (exfalso; omega))) | (with_reducible apply WP_skip) | (with_reducible apply WP_block) | (with_reducible apply WP_exit) | (with_reducible apply WP_ret)) | (refine Zhn ?_) | (with_reducible apply QBlock_normal) | (refine Zhx ?_) | (with_reducible apply QBlock_hit) | (refine Zqb ?_) | (with_reducible apply QLoop_exit) | (refine Zhr ?_) | (with_reducible apply QBlock_ret) | (with_reducible apply QLoop_ret))
        refine QLoop_normal (k + 1, s57) (.cons rfl .nil) (by repeat (first | exact Off.frame rfl | exact Off.refl _ _ | refine Off.frameT rfl rfl ?_ | refine Off.upd rfl ?_ | refine Off.updO rfl ?_)) ?_ ⟨by dsimp only; omega, by dsimp only; rw [hnext]; exact hs57⟩ (by dsimp only; omega)
        dsimp only
        rw [hnext]
        exact (by repeat (first | exact Wk.refl _ | apply Wk.keep1 | apply Wk.drop | apply Wk.sv | apply Wk.svD | apply Wk.appD))
      | false =>
        obtain rfl : gd = (·.1) := by rw [hgd]; rfl
        dsimp only at hnext
        repeat' (first | (refine GiP ?_; first | (refine Znh ?_) | (with_reducible refine Znl ?_)) | (refine GiW ?_; first | (refine Zsq fun K hK => ?_) | (refine ZrN 9 fun _ => ?_; refine Zv Zylss ?_) | (refine ZrN 10 fun _ => ?_; refine Zv Zia ?_; refine Zv Zla ?_; refine Zal 11 fun b11 => ?_; refine Zst ?_) | (refine ZrN 11 fun _ => ?_; refine Zv Zmb ?_) | (refine ZrN 13 fun _ => ?_; refine Zv Zf0 ?_; refine Zv Zld ?_; refine Zv Zf0 ?_; refine Zv Zld ?_; refine Zcl (Enters_fn rfl) (h32 _ _ _) ?_; refine Zst ?_) | (refine ZrN 14 fun _ => ?_; refine Zv Zfa ?_; refine Zv Zld ?_; refine Zv Zla ?_; refine Zal 56 fun b56 => ?_; refine Zag (fun s57 hs57 => ?_); refine Zv Zfa ?_; refine Zst ?_) | (refine ZrN 15 fun _ => ?_; refine Zv Zxadd ?_; refine Zv Zmi ?_) | (refine WP_cond_true rfl ?_) | (refine WP_cond_false rfl ?_) | (refine Zcd (fun hc => ?_) (fun hc => ?_) <;> (try (exfalso; omega))) | (with_reducible apply WP_skip) | (with_reducible apply WP_block) | (with_reducible apply WP_exit) | (with_reducible apply WP_ret)) | (refine Zhn ?_) | (with_reducible apply QBlock_normal) | (refine Zhx ?_) | (with_reducible apply QBlock_hit) | (refine Zqb ?_) | (with_reducible apply QLoop_exit) | (refine Zhr ?_) | (with_reducible apply QBlock_ret) | (with_reducible apply QLoop_ret))
        refine QLoop_normal (k + 1, s57) (.cons rfl .nil) (by repeat (first | exact Off.frame rfl | exact Off.refl _ _ | refine Off.frameT rfl rfl ?_ | refine Off.upd rfl ?_ | refine Off.updO rfl ?_)) ?_ ⟨by dsimp only; omega, by dsimp only; rw [hnext]; exact hs57⟩ (by dsimp only; omega)
        dsimp only
        rw [hnext]
        exact (by repeat (first | exact Wk.refl _ | apply Wk.keep1 | apply Wk.drop | apply Wk.sv | apply Wk.svD | apply Wk.appD))
    · obtain rfl : k = g.s.days.length := by omega
      rw [List.take_length] at hs2 ⊢
      repeat' (first | (refine GiP ?_; first | (refine Znh ?_) | (with_reducible refine Znl ?_)) | (refine GiW ?_; first | (refine Zsq fun K hK => ?_) | (refine ZrN 9 fun _ => ?_; refine Zv Zylss ?_) | (refine ZrN 16 fun _ => ?_; refine Zv Zla ?_; refine Zst ?_) | (refine WP_cond_true rfl ?_) | (refine WP_cond_false rfl ?_) | (refine Zcd (fun hc => ?_) (fun hc => ?_) <;> (try (exfalso; omega))) | (with_reducible apply WP_skip) | (with_reducible apply WP_block) | (with_reducible apply WP_exit) | (with_reducible apply WP_ret)) | (refine Zhn ?_) | (with_reducible apply QBlock_normal) | (refine Zhx ?_) | (with_reducible apply QBlock_hit) | (refine Zqb ?_) | (with_reducible apply QLoop_exit) | (refine Zhr ?_) | (with_reducible apply QBlock_ret) | (with_reducible apply QLoop_ret))
      refine QBody_res rfl (.cellN rfl (by repeat (first | exact Mem.here | assumption | apply Mem.there | apply Mem.sv | apply Mem.app)) (.here (.cons (.cons (.cons .nil)))) .nil) rfl ?_
      have hfl : ((knownS g.s f gd).days.map spL).flatten = (g.s.days.map fun d => spL (gd d, gd d)).flatten := by
        show ((g.s.days.map fun d => (gd d, gd d)).map spL).flatten = _
        rw [List.map_map]; rfl
      obtain ⟨A9, c9, e9, hsl⟩ := sl_sv (E := 28) (by omega) hs2
      refine ⟨(bR, Row 55 3 g.s.spits.length cap ((g.s.spits.map (knSp f)).map sptL).flatten) :: svH 28 2 g.s.days.length ((g.s.days.map fun d => spL (gd d, gd d)).flatten) s2 L, (by repeat (first | exact Wk.refl _ | apply Wk.keep1 | apply Wk.drop | apply Wk.sv | apply Wk.svD | apply Wk.appD)), _, rfl, (bR, Row 55 3 g.s.spits.length cap ((g.s.spits.map (knSp f)).map sptL).flatten) :: svH 28 2 g.s.days.length ((g.s.days.map fun d => spL (gd d, gd d)).flatten) s2 [], ?_, { g with s := knownS g.s f gd, A1 := some ⟨bR, 0, none⟩, c1 := cap, A2 := A9, c2 := c9 }, ?_, rfl, ?_⟩
      · rw [List.cons_append, ← svH_nil]
      · unfold sodV sdL
        dsimp only
        rw [e9, show (knownS g.s f gd).spits.length = g.s.spits.length from by show (g.s.spits.map _).length = _; rw [List.length_map], show (knownS g.s f gd).days.length = g.s.days.length from by show (g.s.days.map _).length = _; rw [List.length_map], hl0]
        rfl
      · intro N' w0' L' hS w hI
        obtain ⟨L0, hp⟩ := hS
        have hI2 := hI.perm hp
        refine ⟨?_, ?_, fun k hk => by simp [knownS] at hk, ?_, Nat.zero_le _⟩
        · refine sl_row hI2 (k := g.s.spits.length) (cap := cap) (by show Mem bR _ ((bR, _) :: _); exact .here) rfl (map_len (f := sptL) (fun _ => rfl) _)
        · refine hsl (L := (bR, Row 55 3 g.s.spits.length cap ((g.s.spits.map (knSp f)).map sptL).flatten) :: L0) (hI2.perm ?_) hfl.symm (map_len (f := spL) (fun _ => rfl) _)
          rw [List.cons_append, svH_nil]
          cases s2 with
          | none => exact .refl _
          | some p => exact List.Perm.swap _ _ _
        · obtain ⟨_, _, cur, _, hc1, _⟩ := hI2.obj' (b := bR) .here
          show (g.s.spits.map _).length ≤ _
          rw [List.length_map]; exact hc1
end
end Go.Proofs.Ytkaadefndcbdnaa
