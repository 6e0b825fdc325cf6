/- The law's own waters. -/
import Derived.Test.YtbhgpnbfdjoglaaE1
section
namespace Go.Proofs.Ytbhgpnbfdjoglaa
open Go.RowKit
def cdL (n : Nat) (nx : Nat → Option Nat) : List Int := (List.range n).map fun a => codeO (nx a)
theorem cdL_lvl {n : Nat} {nx : Nat → Option Nat} {x : Nat} (h : x < n) : lvl (cdL n nx) x = codeO (nx x) := by
  unfold lvl cdL
  rw [List.getD_eq_getElem?_getD, List.getElem?_map, List.getElem?_range h]; rfl
theorem cdL_len (n : Nat) (nx : Nat → Option Nat) : (cdL n nx).length = n := by simp [cdL]
theorem crsO_cdL (d : Dr) (stop : Nat) (lv : List Int) (k : Nat) : crsO d stop lv k = cdL k (nxt (keepL stop d.ways 0) lv) := rfl
theorem ints_get {l : List Int} {x : Nat} (h : x < l.length) : (ints l)[0 + x]? = some (.int .i64 (lvl l x)) := by
  unfold ints lvl
  rw [Nat.zero_add, List.getElem?_map, List.getD_eq_getElem?_getD, List.getElem?_eq_getElem h]; rfl
theorem ints_length (l : List Int) : (ints l).length = l.length := by simp [ints]
theorem sum_bd {n : Nat} {nx : Nat → Option Nat} {y : Nat → Int} (x : Nat) : ∀ k, (∀ z, z < k → 0 ≤ y z ∧ y z ≤ 20) → 0 ≤ sumN k (fun z => if onN n nx x z then y z else 0) ∧ sumN k (fun z => if onN n nx x z then y z else 0) ≤ 20 * (k : Int) := by
  intro k h
  exact sumN_bd (c := 20) (by omega) fun z hz => by
    have := h z hz
    split <;> omega
def tgt (nx : Nat → Option Nat) (q : Int) (o : Option Nat) (li : List Int) (f : Nat) : List Int := match o with
  | none => li
  | some x => addW nx q f x li
attribute [local irreducible] AnyO AnyB QAny QB EWalk AWalk Ev WP OPS QThen QBlock QScope QLoop QBody Val New Turn Tri Enters PostA Blk Ro
attribute [local irreducible] AnyC QC
section
variable (N : Nat) (w0 : World)
set_option maxHeartbeats 4000000 in
theorem lwaters_tri (L : Hp) (n : Nat) (hn : 1 ≤ n ∧ n ≤ 5) (nx : Nat → Option Nat) (l : Nat → Int) (hd : ∀ x y, nx x = some y → y < n ∧ l y < l x) (Ac : Option Addr) (cc : Nat) (hrc : RdI N w0 L Ac (cdL n nx)) (ys : List Int) (hyl : ys.length = n) (hyb : ∀ z, z < n → 0 ≤ lvl ys z ∧ lvl ys z ≤ 20) (Ay : Option Addr) (cy : Nat) (hry : RdI N w0 L Ay ys) :
    Tri Try.prog N w0 L 27 [.slice Ac n cc, .slice Ay n cy].toArray fun x L' => ∃ v, x = .returned v ∧ ∃ b, v = .slice (some ⟨b, 0, none⟩) n n ∧ L' = (b, Blk 3 (ints (wsum n nx (lvl ys) n))) :: L := by
  obtain ⟨bC, oC, rfl⟩ : ∃ bA oA, Ac = some ⟨bA, oA, none⟩ := by
    obtain ⟨b, o, h, _⟩ := RdRows.row hrc 0 (by rw [cdL_len]; omega)
    exact ⟨b, o, h⟩
  obtain ⟨bY, oY, rfl⟩ : ∃ bA oA, Ay = some ⟨bA, oA, none⟩ := by
    obtain ⟨b, o, h, _⟩ := RdRows.row hry 0 (by omega)
    exact ⟨b, o, h⟩
  refine Tri.fgt ?_
  refine tri_of_WP Try.func27 rfl (n := _) rfl (by simp) ?_
  repeat' (first | (refine GiP ?_; first | (refine Znh ?_) | (with_reducible refine Znl ?_)) | (refine GiW ?_; first | (refine Zsq fun K hK => ?_) | (refine ZrN 0 fun _ => ?_; refine Zv Zav ?_) | (refine ZrN 1 fun _ => ?_; refine Zv Zmv ?_; refine Zv Zxlen ?_; refine OPS_makeR (m := n) rfl rfl rfl (Nat.le_refl _) (by omega) (by unfold maxLen; omega) rfl rfl (fun b11 xs11 h11 h11z => ?_); refine Zv Zav ?_) | (refine ZrN 2 fun _ => ?_; refine Zv Zmv ?_; refine Zv Zxlen ?_; refine Zv Zmi ?_) | (refine WP_cond_true rfl ?_) | (refine WP_cond_false rfl ?_) | (refine Zcd (fun hc => ?_) (fun hc => ?_) <;> (try (exfalso; omega))) | (with_reducible apply WP_skip) | (with_reducible apply WP_block) | (with_reducible apply WP_exit) | (with_reducible apply WP_ret)) | (refine Zhn ?_) | (with_reducible apply QBlock_normal) | (refine Zhx ?_) | (with_reducible apply QBlock_hit) | (refine Zqb ?_) | (with_reducible apply QLoop_exit) | (refine Zhr ?_) | (with_reducible apply QBlock_ret) | (with_reducible apply QLoop_ret))
  have hz0 : xs11 = ints (wsum n nx (lvl ys) 0) := by rw [h11z rfl]; simp [wsum, ints]
  refine WP_loop [6, 7, 8, 14, 15, 16, 17, 18, 19, 20, 21, 22, 23, 24, 25, 26, 27, 28, 29, 30, 31, 32, 33] (fun k : Nat => [(14, .int .i64 (k : Int))]) (fun k => (b11, Blk 3 (ints (wsum n nx (lvl ys) k))) :: L) (fun k => k ≤ n) (fun k => n - k) 0 (.cons rfl .nil) (.keep (fun o ho => by rw [← hz0]; exact row_blk ho) (Wk.refl _)) (Nat.zero_le _) ?_
  rintro k j hk
  by_cases hkn : k < n
  · have hy1 : ∀ L', Sub L L' → Rd N w0 L' bY (oY + k) (.int .i64 (lvl ys k)) := fun L' hL => (hry.wk hL).at_ (by omega)
    have hyk := hyb k hkn
    obtain ⟨q, hq⟩ : ∃ q, lvl ys k = q := ⟨_, rfl⟩
    have hw1 : wsum n nx (lvl ys) (k + 1) = addW nx q (n + 1) k (wsum n nx (lvl ys) k) := by rw [← hq]; rfl
    have hbd : ∀ z, 0 ≤ lvl (wsum n nx (lvl ys) k) z ∧ lvl (wsum n nx (lvl ys) k) z ≤ 200 := fun z => by
      have e := wsum_get hd (lvl ys) z k hk
      have h2 := sum_bd (n := n) (nx := nx) (y := lvl ys) z k (fun z hz => hyb z (by omega))
      rw [← e] at h2
      show 0 ≤ (wsum n nx (lvl ys) k).getD z 0 ∧ (wsum n nx (lvl ys) k).getD z 0 ≤ 200
      omega
    have hwl := wsum_len n nx (lvl ys) k
    rw [hq] at hy1 hyk
    obtain ⟨W, hW⟩ : ∃ W, wsum n nx (lvl ys) (k + 1) = W := ⟨_, rfl⟩
    rw [hW] at hw1
    obtain ⟨l0, hl0⟩ : ∃ l0, wsum n nx (lvl ys) k = l0 := ⟨_, rfl⟩
    rw [hl0] at hw1 hbd hwl
    repeat' (first | (refine GiP ?_; first | (refine Znh ?_) | (with_reducible refine Znl ?_)) | (refine GiW ?_; first | (refine Zsq fun K hK => ?_) | (refine ZrN 3 fun _ => ?_; refine Zv Zylss ?_) | (refine ZrN 4 fun _ => ?_; refine Zv Zmi ?_; refine Zv Zia ?_; (first | (refine Zv (Val_loadD1 rfl (hy1 _ (by repeat (first | exact Sub.refl _ | assumption | exact Sub.left | apply Sub.cons | apply Sub.sv | apply Sub.app)))) ?_) | (refine Zv Zld ?_)); refine Zv Zai ?_; refine Zv Zai ?_) | (refine ZrN 5 fun _ => ?_; refine Zv Zmi ?_; refine Zv Zai ?_) | (refine WP_cond_true rfl ?_) | (refine WP_cond_false rfl ?_) | (refine Zcd (fun hc => ?_) (fun hc => ?_) <;> (try (exfalso; omega))) | (with_reducible apply WP_skip) | (with_reducible apply WP_block) | (with_reducible apply WP_exit) | (with_reducible apply WP_ret)) | (refine Zhn ?_) | (with_reducible apply QBlock_normal) | (refine Zhx ?_) | (with_reducible apply QBlock_hit) | (refine Zqb ?_) | (with_reducible apply QLoop_exit) | (refine Zhr ?_) | (with_reducible apply QBlock_ret) | (with_reducible apply QLoop_ret))
    refine WP_loop [8, 20, 21, 22, 23, 24, 25, 26, 27, 28, 29, 30, 31, 32] (fun st : Option Nat × List Int × Nat => [(8, .int .i64 (codeO st.1))]) (fun st => (b11, Blk 3 (ints st.2.1)) :: L) (fun st => st.2.1.length = n ∧ tgt nx q st.1 st.2.1 st.2.2 = W ∧ (∀ x, st.1 = some x → x < n ∧ dnR n l x < st.2.2) ∧ (∀ z, 0 ≤ lvl st.2.1 z ∧ lvl st.2.1 z ≤ 200 + 20 * ((n : Int) + 1 - st.2.2)) ∧ st.2.2 ≤ n + 1) (fun st => st.2.2) (some k, l0, n + 1) (.cons rfl .nil) (by rw [hl0]; exact Wk.refl _) ⟨hwl, hw1.symm, fun x hx => by simp only [Option.some.injEq] at hx; subst hx; have := dnR_n (l := l) hkn; exact ⟨hkn, by dsimp only; omega⟩, fun z => by have := hbd z; dsimp only; omega, Nat.le_refl _⟩ ?_
    rintro ⟨o, li, f⟩ j2 ⟨i1, i2, i3, i4, i5⟩
    dsimp only at i1 i2 i3 i4 i5 ⊢
    cases o with
    | none =>
      dsimp only [codeO]
      have hli : li = W := i2
      repeat' (first | (refine GiP ?_; first | (refine Znh ?_) | (with_reducible refine Znl ?_)) | (refine GiW ?_; first | (refine Zsq fun K hK => ?_) | (refine ZrN 6 fun _ => ?_; refine Zv Zmi ?_; refine Zv Zygeq ?_) | (refine ZrN 9 fun _ => ?_; refine Zv Zxadd ?_; refine Zv Zmi ?_) | (refine WP_cond_true rfl ?_) | (refine WP_cond_false rfl ?_) | (refine Zcd (fun hc => ?_) (fun hc => ?_) <;> (try (exfalso; omega))) | (with_reducible apply WP_skip) | (with_reducible apply WP_block) | (with_reducible apply WP_exit) | (with_reducible apply WP_ret)) | (refine Zhn ?_) | (with_reducible apply QBlock_normal) | (refine Zhx ?_) | (with_reducible apply QBlock_hit) | (refine Zqb ?_) | (with_reducible apply QLoop_exit) | (refine Zhr ?_) | (with_reducible apply QBlock_ret) | (with_reducible apply QLoop_ret))
      exact QLoop_normal (k + 1) (.cons rfl .nil) (by repeat (first | exact Off.frame rfl | exact Off.refl _ _ | refine Off.frameT rfl rfl ?_ | refine Off.upd rfl ?_ | refine Off.updO rfl ?_)) (by rw [hW, ← hli]; exact (by repeat (first | exact Wk.refl _ | apply Wk.keep1 | apply Wk.drop | apply Wk.sv | apply Wk.svD | apply Wk.appD))) (by omega) (by omega)
    | some x =>
      dsimp only [codeO]
      obtain ⟨hx, hf⟩ := i3 x rfl
      obtain ⟨f', rfl⟩ : ∃ f', f = f' + 1 := ⟨f - 1, by omega⟩
      have hcell := ints_get (l := li) (x := x) (by omega)
      have hbx := i4 x
      have hset : setL (ints li) (0 + x) [.int .i64 (lvl li x + q)] = ints (li.set x (lvl li x + q)) := ints_set li x _
      have hil : (ints li).length = n := by rw [ints_length, i1]
      have hnx : ∀ L', Sub L L' → Rd N w0 L' bC (oC + x) (.int .i64 (codeO (nx x))) := fun L' hL => by
        have := (hrc.wk hL).at_ (i := x) (by rw [cdL_len]; exact hx)
        rwa [cdL_lvl hx] at this
      have hnew : ∀ z, 0 ≤ lvl (li.set x (lvl li x + q)) z ∧ lvl (li.set x (lvl li x + q)) z ≤ 200 + 20 * ((n : Int) + 1 - f') := fun z => by
        have h1 := i4 z
        have h2 : lvl (li.set x (lvl li x + q)) z = if z = x then lvl li x + q else lvl li z := by unfold lvl; rw [getD_set li x z _ (by omega)]
        rw [h2]
        split <;> omega
      have htg : tgt nx q (nx x) (li.set x (lvl li x + q)) f' = W := by
        rw [← i2]
        show tgt nx q (nx x) (li.set x (lvl li x + q)) f' = addW nx q (f' + 1) x li
        show _ = (match nx x with | none => li.set x (li.getD x 0 + q) | some y => addW nx q f' y (li.set x (li.getD x 0 + q)))
        cases nx x <;> rfl
      repeat' (first | (refine GiP ?_; first | (refine Znh ?_) | (with_reducible refine Znl ?_)) | (refine GiW ?_; first | (refine Zsq fun K hK => ?_) | (refine ZrN 6 fun _ => ?_; refine Zv Zmi ?_; refine Zv Zygeq ?_) | (refine ZrN 8 fun _ => ?_; refine Zv Zmv ?_; refine Zv Zmi ?_; refine Zv Zia ?_; (first | (refine Zv (Val_loadD1 rfl (hnx _ (by repeat (first | exact Sub.refl _ | assumption | exact Sub.left | apply Sub.cons | apply Sub.sv | apply Sub.app)))) ?_) | (refine Zv Zld ?_)); refine Zv Zmi ?_; refine Zv Zxadd ?_; refine Zv Zia ?_; refine OPS_turnN (Turn_storeG rfl rfl (by repeat (first | exact Up.here | apply Up.there | apply Up.sv)) rfl (by rw [hil]; simp only [List.length_cons, List.length_nil]; omega) hset rfl rfl) rfl rfl ?_) | (refine ZrN 7 fun _ => ?_; refine Zv Zmv ?_; refine Zv Zmi ?_; refine Zv Zia ?_; (first | (refine Zv (Val_loadD1 rfl (hnx _ (by repeat (first | exact Sub.refl _ | assumption | exact Sub.left | apply Sub.cons | apply Sub.sv | apply Sub.app)))) ?_) | (refine Zv Zld ?_)); refine Zv Zai ?_) | (refine WP_cond_true rfl ?_) | (refine WP_cond_false rfl ?_) | (refine Zcd (fun hc => ?_) (fun hc => ?_) <;> (try (exfalso; omega))) | (with_reducible apply WP_skip) | (with_reducible apply WP_block) | (with_reducible apply WP_exit) | (with_reducible apply WP_ret)) | (refine Zhn ?_) | (with_reducible apply QBlock_normal) | (refine Zhx ?_) | (with_reducible apply QBlock_hit) | (refine Zqb ?_) | (with_reducible apply QLoop_exit) | (refine Zhr ?_) | (with_reducible apply QBlock_ret) | (with_reducible apply QLoop_ret))
      refine QLoop_normal (nx x, li.set x (lvl li x + q), f') (.cons rfl .nil) (by repeat (first | exact Off.frame rfl | exact Off.refl _ _ | refine Off.frameT rfl rfl ?_ | refine Off.upd rfl ?_ | refine Off.updO rfl ?_)) ?_ ⟨by dsimp only; rw [List.length_set]; exact i1, htg, fun y hy => ?_, hnew, by dsimp only; omega⟩ (by dsimp only; omega)
      · exact (by repeat (first | exact Wk.refl _ | apply Wk.keep1 | apply Wk.drop | apply Wk.sv | apply Wk.svD | apply Wk.appD))
      · obtain ⟨h1, h2⟩ := hd x y hy
        have := dnR_lt (l := l) h1 h2
        exact ⟨h1, by dsimp only; omega⟩
  · have hke : k = n := by omega
    subst hke
    repeat' (first | (refine GiP ?_; first | (refine Znh ?_) | (with_reducible refine Znl ?_)) | (refine GiW ?_; first | (refine Zsq fun K hK => ?_) | (refine ZrN 3 fun _ => ?_; refine Zv Zxlss ?_) | (refine ZrN 10 fun _ => ?_; refine Zv Zmv ?_; refine Zv Zav ?_) | (refine WP_cond_true rfl ?_) | (refine WP_cond_false rfl ?_) | (refine Zcd (fun hc => ?_) (fun hc => ?_) <;> (try (exfalso; omega))) | (with_reducible apply WP_skip) | (with_reducible apply WP_block) | (with_reducible apply WP_exit) | (with_reducible apply WP_ret)) | (refine Zhn ?_) | (with_reducible apply QBlock_normal) | (refine Zhx ?_) | (with_reducible apply QBlock_hit) | (refine Zqb ?_) | (with_reducible apply QLoop_exit) | (refine Zhr ?_) | (with_reducible apply QBlock_ret) | (with_reducible apply QLoop_ret))
    exact QBody_ret1 rfl (rfl : _ = Value.slice _ _ _) ⟨_, Wk.refl _, _, rfl, b11, rfl, rfl⟩
end
end Go.Proofs.Ytbhgpnbfdjoglaa
end
