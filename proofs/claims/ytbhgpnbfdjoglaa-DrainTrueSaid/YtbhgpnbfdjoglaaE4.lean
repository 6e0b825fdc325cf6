/- The law's own waters. · The law's each: all levels that are right, in order. · The law DrainStop: whether a set of stops keeps all rights. -/
import Derived.Test.YtbhgpnbfdjoglaaE1
section
namespace Go.Proofs.Ytbhgpnbfdjoglaa
open Go.RowKit
def cdL (n : Nat) (nx : Nat → Option Nat) : List Int := (List.range n).map fun a => codeO (nx a)
theorem cdL_lvl {n : Nat} {nx : Nat → Option Nat} {x : Nat} (h : x < n) : lvl (cdL n nx) x = codeO (nx x) := by
  unfold lvl cdL
  rw [List.getD_eq_getElem?_getD, List.getElem?_map, List.getElem?_range h]; rfl
theorem cdL_len (n : Nat) (nx : Nat → Option Nat) : (cdL n nx).length = n := by simp [cdL]
theorem crsO_cdL (d : Dr) (stop : Nat) (lv : List Int) (k : Nat) : crsO d stop lv k = cdL k (nxt (keepL stop d.ways 0) lv) := rfl
theorem ints_get {l : List Int} {x : Nat} (h : x < l.length) : (ints l)[0 + x]? = some (.int .i64 (lvl l x)) := by
  unfold ints lvl
  rw [Nat.zero_add, List.getElem?_map, List.getD_eq_getElem?_getD, List.getElem?_eq_getElem h]; rfl
theorem ints_length (l : List Int) : (ints l).length = l.length := by simp [ints]
theorem sum_bd {n : Nat} {nx : Nat → Option Nat} {y : Nat → Int} (x : Nat) : ∀ k, (∀ z, z < k → 0 ≤ y z ∧ y z ≤ 20) → 0 ≤ sumN k (fun z => if onN n nx x z then y z else 0) ∧ sumN k (fun z => if onN n nx x z then y z else 0) ≤ 20 * (k : Int) := by
  intro k h
  exact sumN_bd (c := 20) (by omega) fun z hz => by
    have := h z hz
    split <;> omega
def tgt (nx : Nat → Option Nat) (q : Int) (o : Option Nat) (li : List Int) (f : Nat) : List Int := match o with
  | none => li
  | some x => addW nx q f x li
attribute [local irreducible] AnyO AnyB QAny QB EWalk AWalk Ev WP OPS QThen QBlock QScope QLoop QBody Val New Turn Tri Enters PostA Blk Ro
attribute [local irreducible] AnyC QC
section
variable (N : Nat) (w0 : World)
set_option maxHeartbeats 4000000 in
theorem lwaters_tri (L : Hp) (n : Nat) (hn : 1 ≤ n ∧ n ≤ 5) (nx : Nat → Option Nat) (l : Nat → Int) (hd : ∀ x y, nx x = some y → y < n ∧ l y < l x) (Ac : Option Addr) (cc : Nat) (hrc : RdI N w0 L Ac (cdL n nx)) (ys : List Int) (hyl : ys.length = n) (hyb : ∀ z, z < n → 0 ≤ lvl ys z ∧ lvl ys z ≤ 20) (Ay : Option Addr) (cy : Nat) (hry : RdI N w0 L Ay ys) :
    Tri Try.prog N w0 L 27 [.slice Ac n cc, .slice Ay n cy].toArray fun x L' => ∃ v, x = .returned v ∧ ∃ b, v = .slice (some ⟨b, 0, none⟩) n n ∧ L' = (b, Blk 3 (ints (wsum n nx (lvl ys) n))) :: L := by
  obtain ⟨bC, oC, rfl⟩ : ∃ bA oA, Ac = some ⟨bA, oA, none⟩ := by
    obtain ⟨b, o, h, _⟩ := RdRows.row hrc 0 (by rw [cdL_len]; omega)
    exact ⟨b, o, h⟩
  obtain ⟨bY, oY, rfl⟩ : ∃ bA oA, Ay = some ⟨bA, oA, none⟩ := by
    obtain ⟨b, o, h, _⟩ := RdRows.row hry 0 (by omega)
    exact ⟨b, o, h⟩
  refine Tri.fgt ?_
  refine tri_of_WP Try.func27 rfl (n := _) rfl (by simp) ?_
  repeat' (first | (refine GiP ?_; first | (refine Znh ?_) | (with_reducible refine Znl ?_)) | (refine GiW ?_; first | (refine Zsq fun K hK => ?_) | (refine ZrN 0 fun _ => ?_; refine Zv Zav ?_) | (refine ZrN 1 fun _ => ?_; refine Zv Zmv ?_; refine Zv Zxlen ?_; refine OPS_makeR (m := n) rfl rfl rfl (Nat.le_refl _) (by omega) (by unfold maxLen; omega) rfl rfl (fun b11 xs11 h11 h11z => ?_); refine Zv Zav ?_) | (refine ZrN 2 fun _ => ?_; refine Zv Zmv ?_; refine Zv Zxlen ?_; refine Zv Zmi ?_) | (refine WP_cond_true rfl ?_) | (refine WP_cond_false rfl ?_) | (refine Zcd (fun hc => ?_) (fun hc => ?_) <;> (try (exfalso; omega))) | (with_reducible apply WP_skip) | (with_reducible apply WP_block) | (with_reducible apply WP_exit) | (with_reducible apply WP_ret)) | (refine Zhn ?_) | (with_reducible apply QBlock_normal) | (refine Zhx ?_) | (with_reducible apply QBlock_hit) | (refine Zqb ?_) | (with_reducible apply QLoop_exit) | (refine Zhr ?_) | (with_reducible apply QBlock_ret) | (with_reducible apply QLoop_ret))
  have hz0 : xs11 = ints (wsum n nx (lvl ys) 0) := by rw [h11z rfl]; simp [wsum, ints]
  refine WP_loop [6, 7, 8, 14, 15, 16, 17, 18, 19, 20, 21, 22, 23, 24, 25, 26, 27, 28, 29, 30, 31, 32, 33] (fun k : Nat => [(14, .int .i64 (k : Int))]) (fun k => (b11, Blk 3 (ints (wsum n nx (lvl ys) k))) :: L) (fun k => k ≤ n) (fun k => n - k) 0 (.cons rfl .nil) (.keep (fun o ho => by rw [← hz0]; exact row_blk ho) (Wk.refl _)) (Nat.zero_le _) ?_
  rintro k j hk
  by_cases hkn : k < n
  · have hy1 : ∀ L', Sub L L' → Rd N w0 L' bY (oY + k) (.int .i64 (lvl ys k)) := fun L' hL => (hry.wk hL).at_ (by omega)
    have hyk := hyb k hkn
    obtain ⟨q, hq⟩ : ∃ q, lvl ys k = q := ⟨_, rfl⟩
    have hw1 : wsum n nx (lvl ys) (k + 1) = addW nx q (n + 1) k (wsum n nx (lvl ys) k) := by rw [← hq]; rfl
    have hbd : ∀ z, 0 ≤ lvl (wsum n nx (lvl ys) k) z ∧ lvl (wsum n nx (lvl ys) k) z ≤ 200 := fun z => by
      have e := wsum_get hd (lvl ys) z k hk
      have h2 := sum_bd (n := n) (nx := nx) (y := lvl ys) z k (fun z hz => hyb z (by omega))
      rw [← e] at h2
      show 0 ≤ (wsum n nx (lvl ys) k).getD z 0 ∧ (wsum n nx (lvl ys) k).getD z 0 ≤ 200
      omega
    have hwl := wsum_len n nx (lvl ys) k
    rw [hq] at hy1 hyk
    obtain ⟨W, hW⟩ : ∃ W, wsum n nx (lvl ys) (k + 1) = W := ⟨_, rfl⟩
    rw [hW] at hw1
    obtain ⟨l0, hl0⟩ : ∃ l0, wsum n nx (lvl ys) k = l0 := ⟨_, rfl⟩
    rw [hl0] at hw1 hbd hwl
    repeat' (first | (refine GiP ?_; first | (refine Znh ?_) | (with_reducible refine Znl ?_)) | (refine GiW ?_; first | (refine Zsq fun K hK => ?_) | (refine ZrN 3 fun _ => ?_; refine Zv Zylss ?_) | (refine ZrN 4 fun _ => ?_; refine Zv Zmi ?_; refine Zv Zia ?_; (first | (refine Zv (Val_loadD1 rfl (hy1 _ (by repeat (first | exact Sub.refl _ | assumption | exact Sub.left | apply Sub.cons | apply Sub.sv | apply Sub.app)))) ?_) | (refine Zv Zld ?_)); refine Zv Zai ?_; refine Zv Zai ?_) | (refine ZrN 5 fun _ => ?_; refine Zv Zmi ?_; refine Zv Zai ?_) | (refine WP_cond_true rfl ?_) | (refine WP_cond_false rfl ?_) | (refine Zcd (fun hc => ?_) (fun hc => ?_) <;> (try (exfalso; omega))) | (with_reducible apply WP_skip) | (with_reducible apply WP_block) | (with_reducible apply WP_exit) | (with_reducible apply WP_ret)) | (refine Zhn ?_) | (with_reducible apply QBlock_normal) | (refine Zhx ?_) | (with_reducible apply QBlock_hit) | (refine Zqb ?_) | (with_reducible apply QLoop_exit) | (refine Zhr ?_) | (with_reducible apply QBlock_ret) | (with_reducible apply QLoop_ret))
    refine WP_loop [8, 20, 21, 22, 23, 24, 25, 26, 27, 28, 29, 30, 31, 32] (fun st : Option Nat × List Int × Nat => [(8, .int .i64 (codeO st.1))]) (fun st => (b11, Blk 3 (ints st.2.1)) :: L) (fun st => st.2.1.length = n ∧ tgt nx q st.1 st.2.1 st.2.2 = W ∧ (∀ x, st.1 = some x → x < n ∧ dnR n l x < st.2.2) ∧ (∀ z, 0 ≤ lvl st.2.1 z ∧ lvl st.2.1 z ≤ 200 + 20 * ((n : Int) + 1 - st.2.2)) ∧ st.2.2 ≤ n + 1) (fun st => st.2.2) (some k, l0, n + 1) (.cons rfl .nil) (by rw [hl0]; exact Wk.refl _) ⟨hwl, hw1.symm, fun x hx => by simp only [Option.some.injEq] at hx; subst hx; have := dnR_n (l := l) hkn; exact ⟨hkn, by dsimp only; omega⟩, fun z => by have := hbd z; dsimp only; omega, Nat.le_refl _⟩ ?_
    rintro ⟨o, li, f⟩ j2 ⟨i1, i2, i3, i4, i5⟩
    dsimp only at i1 i2 i3 i4 i5 ⊢
    cases o with
    | none =>
      dsimp only [codeO]
      have hli : li = W := i2
      repeat' (first | (refine GiP ?_; first | (refine Znh ?_) | (with_reducible refine Znl ?_)) | (refine GiW ?_; first | (refine Zsq fun K hK => ?_) | (refine ZrN 6 fun _ => ?_; refine Zv Zmi ?_; refine Zv Zygeq ?_) | (refine ZrN 9 fun _ => ?_; refine Zv Zxadd ?_; refine Zv Zmi ?_) | (refine WP_cond_true rfl ?_) | (refine WP_cond_false rfl ?_) | (refine Zcd (fun hc => ?_) (fun hc => ?_) <;> (try (exfalso; omega))) | (with_reducible apply WP_skip) | (with_reducible apply WP_block) | (with_reducible apply WP_exit) | (with_reducible apply WP_ret)) | (refine Zhn ?_) | (with_reducible apply QBlock_normal) | (refine Zhx ?_) | (with_reducible apply QBlock_hit) | (refine Zqb ?_) | (with_reducible apply QLoop_exit) | (refine Zhr ?_) | (with_reducible apply QBlock_ret) | (with_reducible apply QLoop_ret))
      exact QLoop_normal (k + 1) (.cons rfl .nil) (by repeat (first | exact Off.frame rfl | exact Off.refl _ _ | refine Off.frameT rfl rfl ?_ | refine Off.upd rfl ?_ | refine Off.updO rfl ?_)) (by rw [hW, ← hli]; exact (by repeat (first | exact Wk.refl _ | apply Wk.keep1 | apply Wk.drop | apply Wk.sv | apply Wk.svD | apply Wk.appD))) (by omega) (by omega)
    | some x =>
      dsimp only [codeO]
      obtain ⟨hx, hf⟩ := i3 x rfl
      obtain ⟨f', rfl⟩ : ∃ f', f = f' + 1 := ⟨f - 1, by omega⟩
      have hcell := ints_get (l := li) (x := x) (by omega)
      have hbx := i4 x
      have hset : setL (ints li) (0 + x) [.int .i64 (lvl li x + q)] = ints (li.set x (lvl li x + q)) := ints_set li x _
      have hil : (ints li).length = n := by rw [ints_length, i1]
      have hnx : ∀ L', Sub L L' → Rd N w0 L' bC (oC + x) (.int .i64 (codeO (nx x))) := fun L' hL => by
        have := (hrc.wk hL).at_ (i := x) (by rw [cdL_len]; exact hx)
        rwa [cdL_lvl hx] at this
      have hnew : ∀ z, 0 ≤ lvl (li.set x (lvl li x + q)) z ∧ lvl (li.set x (lvl li x + q)) z ≤ 200 + 20 * ((n : Int) + 1 - f') := fun z => by
        have h1 := i4 z
        have h2 : lvl (li.set x (lvl li x + q)) z = if z = x then lvl li x + q else lvl li z := by unfold lvl; rw [getD_set li x z _ (by omega)]
        rw [h2]
        split <;> omega
      have htg : tgt nx q (nx x) (li.set x (lvl li x + q)) f' = W := by
        rw [← i2]
        show tgt nx q (nx x) (li.set x (lvl li x + q)) f' = addW nx q (f' + 1) x li
        show _ = (match nx x with | none => li.set x (li.getD x 0 + q) | some y => addW nx q f' y (li.set x (li.getD x 0 + q)))
        cases nx x <;> rfl
      repeat' (first | (refine GiP ?_; first | (refine Znh ?_) | (with_reducible refine Znl ?_)) | (refine GiW ?_; first | (refine Zsq fun K hK => ?_) | (refine ZrN 6 fun _ => ?_; refine Zv Zmi ?_; refine Zv Zygeq ?_) | (refine ZrN 8 fun _ => ?_; refine Zv Zmv ?_; refine Zv Zmi ?_; refine Zv Zia ?_; (first | (refine Zv (Val_loadD1 rfl (hnx _ (by repeat (first | exact Sub.refl _ | assumption | exact Sub.left | apply Sub.cons | apply Sub.sv | apply Sub.app)))) ?_) | (refine Zv Zld ?_)); refine Zv Zmi ?_; refine Zv Zxadd ?_; refine Zv Zia ?_; refine OPS_turnN (Turn_storeG rfl rfl (by repeat (first | exact Up.here | apply Up.there | apply Up.sv)) rfl (by rw [hil]; simp only [List.length_cons, List.length_nil]; omega) hset rfl rfl) rfl rfl ?_) | (refine ZrN 7 fun _ => ?_; refine Zv Zmv ?_; refine Zv Zmi ?_; refine Zv Zia ?_; (first | (refine Zv (Val_loadD1 rfl (hnx _ (by repeat (first | exact Sub.refl _ | assumption | exact Sub.left | apply Sub.cons | apply Sub.sv | apply Sub.app)))) ?_) | (refine Zv Zld ?_)); refine Zv Zai ?_) | (refine WP_cond_true rfl ?_) | (refine WP_cond_false rfl ?_) | (refine Zcd (fun hc => ?_) (fun hc => ?_) <;> (try (exfalso; omega))) | (with_reducible apply WP_skip) | (with_reducible apply WP_block) | (with_reducible apply WP_exit) | (with_reducible apply WP_ret)) | (refine Zhn ?_) | (with_reducible apply QBlock_normal) | (refine Zhx ?_) | (with_reducible apply QBlock_hit) | (refine Zqb ?_) | (with_reducible apply QLoop_exit) | (refine Zhr ?_) | (with_reducible apply QBlock_ret) | (with_reducible apply QLoop_ret))
      refine QLoop_normal (nx x, li.set x (lvl li x + q), f') (.cons rfl .nil) (by repeat (first | exact Off.frame rfl | exact Off.refl _ _ | refine Off.frameT rfl rfl ?_ | refine Off.upd rfl ?_ | refine Off.updO rfl ?_)) ?_ ⟨by dsimp only; rw [List.length_set]; exact i1, htg, fun y hy => ?_, hnew, by dsimp only; omega⟩ (by dsimp only; omega)
      · exact (by repeat (first | exact Wk.refl _ | apply Wk.keep1 | apply Wk.drop | apply Wk.sv | apply Wk.svD | apply Wk.appD))
      · obtain ⟨h1, h2⟩ := hd x y hy
        have := dnR_lt (l := l) h1 h2
        exact ⟨h1, by dsimp only; omega⟩
  · have hke : k = n := by omega
    subst hke
    repeat' (first | (refine GiP ?_; first | (refine Znh ?_) | (with_reducible refine Znl ?_)) | (refine GiW ?_; first | (refine Zsq fun K hK => ?_) | (refine ZrN 3 fun _ => ?_; refine Zv Zxlss ?_) | (refine ZrN 10 fun _ => ?_; refine Zv Zmv ?_; refine Zv Zav ?_) | (refine WP_cond_true rfl ?_) | (refine WP_cond_false rfl ?_) | (refine Zcd (fun hc => ?_) (fun hc => ?_) <;> (try (exfalso; omega))) | (with_reducible apply WP_skip) | (with_reducible apply WP_block) | (with_reducible apply WP_exit) | (with_reducible apply WP_ret)) | (refine Zhn ?_) | (with_reducible apply QBlock_normal) | (refine Zhx ?_) | (with_reducible apply QBlock_hit) | (refine Zqb ?_) | (with_reducible apply QLoop_exit) | (refine Zhr ?_) | (with_reducible apply QBlock_ret) | (with_reducible apply QLoop_ret))
    exact QBody_ret1 rfl (rfl : _ = Value.slice _ _ _) ⟨_, Wk.refl _, _, rfl, b11, rfl, rfl⟩
end
end Go.Proofs.Ytbhgpnbfdjoglaa
end

section
namespace Go.Proofs.Ytbhgpnbfdjoglaa
open Go.RowKit
theorem rightB_no {d : Dr} {lv : List Int} {w : Sp} (hw : w ∈ d.seen) (h : codeO (nxt d.ways lv w.1.toNat) ≠ w.2) : rightB d lv = false := by
  cases hr : rightB d lv with
  | false => rfl
  | true => exact absurd (rightB_iff.1 hr w hw) h
/-- What a law's function does with each level: the heap goes from J k to J (k + 1). -/
structure OnOK (N : Nat) (w0 : World) (d : Dr) (J : Nat → Hp) (q : FuncId) (qc : List Value) : Prop where
  on : ∀ k (hk : k < (rowsD d).length), rightB d (rowsD d)[k] = true → ∀ (F : Hp) (A : Option Addr) (c : Nat), (∀ L', Sub F L' → RdI N w0 L' A (rowsD d)[k]) → Tri Try.prog N w0 (F ++ J k) q (.slice A d.banks.length c :: qc).toArray fun x L' => x = .returned (.tuple #[]) ∧ L' = F ++ J (k + 1)
  no : ∀ k (hk : k < (rowsD d).length), rightB d (rowsD d)[k] = false → J (k + 1) = J k
theorem ints_flat (l : List Int) : ints l = (i1 l).flatten := by
  induction l with
  | nil => rfl
  | cons x l ih => simp only [ints, i1, List.map_cons, List.flatten_cons, List.cons_append, List.nil_append] at ih ⊢; rw [ih]
def eachB (g : Fg) (q : FuncId) (qc : List Value) (b2 b3 b4 : Nat) : Hp := [(b4, Blk 62 [.func (.func 81) #[] #[.pointer (some ⟨b2, 0, none⟩), .pointer (some ⟨b4, 0, none⟩), .pointer (some ⟨b3, 0, none⟩)]]), (b3, Blk 62 [.func (.func q) #[] qc.toArray]), (b2, Blk 29 (drL g))]
attribute [local irreducible] AnyO AnyB QAny QB EWalk AWalk Ev WP OPS QThen QBlock QScope QLoop QBody Val New Turn Tri Enters PostA Blk Ro
attribute [local irreducible] AnyC QC
section
variable (N : Nat) (w0 : World)
set_option maxHeartbeats 8000000 in
/-- All banks have levels. -/
theorem each_leaf (g : Fg) (hA : DrAt N w0 g) (hv : VD g.d) (J : Nat → Hp) (q : FuncId) [HasBody Try.prog q] (qc : List Value) (hon : OnOK N w0 g.d J q qc) (b2 b3 b4 : Nat) (k : Nat) (hk : k < (rowsD g.d).length) (p : List Int) (hp : (rowsD g.d)[k] = p) (F : Hp) (A : Option Addr) (c : Nat) (hrd : ∀ L', Sub F L' → RdI N w0 L' A p) :
    Tri Try.prog N w0 (F ++ (eachB g q qc b2 b3 b4 ++ J k)) 81 [.slice A g.d.banks.length c, .pointer (some ⟨b2, 0, none⟩), .pointer (some ⟨b4, 0, none⟩), .pointer (some ⟨b3, 0, none⟩)].toArray fun x L' => x = .returned (.tuple #[]) ∧ L' = F ++ (eachB g q qc b2 b3 b4 ++ J (k + 1)) := by
  have hnb := hv.nb
  have hns := hv.ns
  have hpl : p.length = g.d.banks.length := by rw [← hp]; exact rowsD_len (List.getElem_mem hk)
  have hcr := fun L h => courses_tri N w0 L g hA hv p hpl A c h 0 (by omega)
  have hk0 : keepL 0 g.d.ways 0 = g.d.ways := keepL_zero _ _
  simp only [crsO_cdL, hk0] at hcr
  rw [hpl] at hcr
  obtain ⟨cl, hcl⟩ : ∃ cl, cdL g.d.banks.length (nxt g.d.ways p) = cl := ⟨_, rfl⟩
  have hlv : ∀ x, x < g.d.banks.length → lvl cl x = codeO (nxt g.d.ways p x) := fun x hx => by rw [← hcl]; exact cdL_lvl hx
  have hcll : cl.length = g.d.banks.length := by rw [← hcl]; exact cdL_len _ _
  rw [hcl] at hcr
  refine Tri.fgt ?_
  refine tri_of_WP Try.func81 rfl (n := _) rfl (by simp) ?_
  have m2 : Mem b2 (Blk 29 [.slice g.A1 g.d.banks.length g.c1, .slice g.A2 g.d.ways.length g.c2, .slice g.A3 g.d.rights.length g.c3, .slice g.A4 g.d.seen.length g.c4]) (F ++ (eachB g q qc b2 b3 b4 ++ J k)) := .app F (.there (.there .here))
  have m3 : Mem b3 (Blk 62 [.func (.func q) #[] qc.toArray]) (F ++ (eachB g q qc b2 b3 b4 ++ J k)) := .app F (.there .here)
  obtain ⟨H, hH⟩ : ∃ H, F ++ (eachB g q qc b2 b3 b4 ++ J k) = H := ⟨_, rfl⟩
  have hFH : Sub F H := by rw [← hH]; exact .left
  rw [hH] at m2 m3 ⊢
  have hcr2 := hcr H (hrd H hFH)
  unfold drV drL at hcr2
  repeat' (first | (refine GiP ?_; first | (refine Znh ?_) | (with_reducible refine Znl ?_)) | (refine GiW ?_; first | (refine Zsq fun K hK => ?_) | (refine ZrN 0 fun _ => ?_; refine Zv Zmv ?_; refine Zv Zxlen ?_; refine Zv Zai ?_) | (refine ZrN 1 fun _ => ?_; refine Zv Zmi ?_; refine Zv Zf0 ?_; refine Zv Zld ?_; refine Zv Zxlen ?_; refine Zv Zxlss ?_) | (refine ZrN 6 fun _ => ?_; refine Zv Zla ?_; refine Zv Zmv ?_; refine OPS_retKS (Enters_fn rfl) hcr2 rfl rfl rfl (fun v45 L45 h45 => ?_); obtain ⟨s45, rfl, hs45, rfl⟩ := h45; refine Zv Zav ?_) | (refine ZrN 7 fun _ => ?_; refine Zv Zfa ?_; refine Zv Zld ?_; refine Zv Zxlen ?_; refine Zv Zmi ?_) | (refine WP_cond_true rfl ?_) | (refine WP_cond_false rfl ?_) | (refine Zcd (fun hc => ?_) (fun hc => ?_) <;> (try (exfalso; omega))) | (with_reducible apply WP_skip) | (with_reducible apply WP_block) | (with_reducible apply WP_exit) | (with_reducible apply WP_ret)) | (refine Zhn ?_) | (with_reducible apply QBlock_normal) | (refine Zhx ?_) | (with_reducible apply QBlock_hit) | (refine Zqb ?_) | (with_reducible apply QLoop_exit) | (refine Zhr ?_) | (with_reducible apply QBlock_ret) | (with_reducible apply QLoop_ret))
  obtain ⟨Ac, cc, ec, hrc⟩ := RdRows.sv (E := 3) (by omega) hs45
  rw [ec]
  have hrcl : ∀ L', Wk L' (svH 3 1 g.d.banks.length (ints cl) s45 []) → RdI N w0 L' Ac cl := fun L' hL => hrc N w0 L' (i1 cl) hL (ints_flat cl) (by intro r hr; simp only [i1, List.mem_map] at hr; obtain ⟨_, _, rfl⟩ := hr; rfl)
  obtain ⟨bC, oC, rfl⟩ : ∃ bC oC, Ac = some ⟨bC, oC, none⟩ := by
    obtain ⟨b, o, h, _⟩ := RdRows.row (hrcl _ Wk.sv0 : RdI N w0 (svH 3 1 g.d.banks.length (ints cl) s45 []) Ac cl) 0 (by omega)
    exact ⟨b, o, h⟩
  refine WP_loop [9, 49, 50, 51, 52, 53, 54, 55, 56, 57, 58, 59, 60, 61] (fun i : Nat => [(49, .int .i64 (i : Int))]) (fun _ => svH 3 1 g.d.banks.length (ints cl) s45 H) (fun i => i ≤ g.d.seen.length ∧ (g.d.seen.take i).all (fun w => codeO (nxt g.d.ways p w.1.toNat) == w.2) = true) (fun i => g.d.seen.length - i) 0 (.cons rfl .nil) (Wk.refl _) ⟨Nat.zero_le _, rfl⟩ ?_
  rintro i j ⟨hi, hall⟩
  by_cases hlt : i < g.d.seen.length
  · obtain ⟨bS, oS, hA4, hbS, hcS⟩ := hA.seen.row i hlt
    have hsn := all_take_succ (p := fun w : Sp => codeO (nxt g.d.ways p w.1.toNat) == w.2) hlt
    rw [hall, Bool.true_and] at hsn
    obtain ⟨t, ht⟩ : ∃ t, g.d.seen[i] = t := ⟨_, rfl⟩
    have htm : t ∈ g.d.seen := by rw [← ht]; exact List.getElem_mem hlt
    have htw := hv.se t htm
    rw [ht] at hcS hsn
    obtain ⟨t1, t2⟩ := t
    dsimp only at htw hsn
    obtain ⟨x1, rfl⟩ : ∃ x : Nat, t1 = x := ⟨t1.toNat, by omega⟩
    unfold spL at hcS
    dsimp only at hcS
    have hld : ∀ L', Wk L' (svH 3 1 g.d.banks.length (ints cl) s45 []) → Rd N w0 L' bC (oC + x1) (.int .i64 (codeO (nxt g.d.ways p x1))) := fun L' hL => by
      have := (hrcl L' hL).at_ (i := x1) (by omega)
      rwa [hlv x1 (by omega)] at this
    rw [Int.toNat_natCast] at hsn
    obtain ⟨z, hz⟩ : ∃ z, codeO (nxt g.d.ways p x1) = z := ⟨_, rfl⟩
    rw [hz] at hld hsn
    by_cases hzt : z = t2
    · repeat' (first | (refine GiP ?_; first | (refine Znh ?_) | (with_reducible refine Znl ?_)) | (refine GiW ?_; first | (refine Zsq fun K hK => ?_) | (refine ZrN 8 fun _ => ?_; refine Zv Zylss ?_) | (refine ZrN 9 fun _ => ?_; refine Zv Zia ?_; (first | (refine Zv (Val_loadD1 rfl (hld _ (.drop Wk.sv0))) ?_) | (refine Zv Zla ?_)); refine Zal 9 fun b9 => ?_; refine Zst ?_) | (refine ZrN 11 fun _ => ?_; refine Zv Zxadd ?_; refine Zv Zmi ?_) | (refine WP_cond_true rfl ?_) | (refine WP_cond_false rfl ?_) | (refine Zcd (fun hc => ?_) (fun hc => ?_) <;> (try (exfalso; omega))) | (with_reducible apply WP_skip) | (with_reducible apply WP_block) | (with_reducible apply WP_exit) | (with_reducible apply WP_ret) | (refine WP_drawn (id := 10) [0, 1, 2, 3, 4, 5, 6, 7] [] (k := 0) prog_mixed (by kernel_rfl) rfl ?_; refine Zew rfl Zmv ?_; refine Zew rfl Zf0 ?_; (first | (refine Zew rfl (Val_loadD1 rfl (hld _ (.drop Wk.sv0))) ?_) | (refine Zew rfl Zld ?_)); refine Zew rfl Zia ?_; (first | (refine Zew rfl (Val_loadD1 rfl (hld _ (.drop Wk.sv0))) ?_) | (refine Zew rfl Zld ?_)); refine Zew rfl Zfa ?_; (first | (refine Zew rfl (Val_loadD1 rfl (hld _ (.drop Wk.sv0))) ?_) | (refine Zew rfl Zld ?_)); refine Zew rfl Zyneq ?_)) | (with_reducible apply EWalk_nil) | (refine AnyO_done (by kernel_rfl) ?_; (try with_reducible apply noP_normal); try with_reducible exact key.out) | (refine Zhn ?_) | (with_reducible apply QBlock_normal) | (refine Zhx ?_) | (with_reducible apply QBlock_hit) | (refine Zqb ?_) | (with_reducible apply QLoop_exit) | (refine Zhr ?_) | (with_reducible apply QBlock_ret) | (with_reducible apply QLoop_ret) | (refine AWalk_0 ?_; refine ZisO ?_) | (with_reducible apply QAny_normal))
      exact QLoop_normal (i + 1) (.cons rfl .nil) (by repeat (first | exact Off.frame rfl | exact Off.refl _ _ | refine Off.frameT rfl rfl ?_ | refine Off.upd rfl ?_ | refine Off.updO rfl ?_)) (by repeat (first | exact Wk.refl _ | apply Wk.keep1 | apply Wk.drop | apply Wk.sv | apply Wk.svD | apply Wk.appD)) ⟨by omega, by rw [hsn]; simp [hzt]⟩ (by omega)
    · have hno : rightB g.d p = false := rightB_no htm (by dsimp only; rw [Int.toNat_natCast, hz]; exact hzt)
      repeat' (first | (refine GiP ?_; first | (refine Znh ?_) | (with_reducible refine Znl ?_)) | (refine GiW ?_; first | (refine Zsq fun K hK => ?_) | (refine ZrN 8 fun _ => ?_; refine Zv Zylss ?_) | (refine ZrN 9 fun _ => ?_; refine Zv Zia ?_; (first | (refine Zv (Val_loadD1 rfl (hld _ (.drop Wk.sv0))) ?_) | (refine Zv Zla ?_)); refine Zal 9 fun b9 => ?_; refine Zst ?_) | (refine ZrN 11 fun _ => ?_; refine Zv Zxadd ?_; refine Zv Zmi ?_) | (refine WP_cond_true rfl ?_) | (refine WP_cond_false rfl ?_) | (refine Zcd (fun hc => ?_) (fun hc => ?_) <;> (try (exfalso; omega))) | (with_reducible apply WP_skip) | (with_reducible apply WP_block) | (with_reducible apply WP_exit) | (with_reducible apply WP_ret) | (refine WP_drawn (id := 10) [0, 1, 2, 3, 4, 5, 6, 7] [] (k := 0) prog_mixed (by kernel_rfl) rfl ?_; refine Zew rfl Zmv ?_; refine Zew rfl Zf0 ?_; (first | (refine Zew rfl (Val_loadD1 rfl (hld _ (.drop Wk.sv0))) ?_) | (refine Zew rfl Zld ?_)); refine Zew rfl Zia ?_; (first | (refine Zew rfl (Val_loadD1 rfl (hld _ (.drop Wk.sv0))) ?_) | (refine Zew rfl Zld ?_)); refine Zew rfl Zfa ?_; (first | (refine Zew rfl (Val_loadD1 rfl (hld _ (.drop Wk.sv0))) ?_) | (refine Zew rfl Zld ?_)); refine Zew rfl Zyneq ?_)) | (with_reducible apply EWalk_nil) | (refine AnyO_done (by kernel_rfl) ?_; (try with_reducible apply noP_normal); try with_reducible exact key.out) | (refine Zhn ?_) | (with_reducible apply QBlock_normal) | (refine Zhx ?_) | (with_reducible apply QBlock_hit) | (refine Zqb ?_) | (with_reducible apply QLoop_exit) | (refine Zhr ?_) | (with_reducible apply QBlock_ret) | (with_reducible apply QLoop_ret) | (refine AWalk_0 ?_; refine ZisO ?_) | (with_reducible apply QAny_normal))
      exact QBody_ret0 rfl ⟨H, (by repeat (first | exact Wk.refl _ | apply Wk.keep1 | apply Wk.drop | apply Wk.sv | apply Wk.svD | apply Wk.appD)), rfl, by rw [hon.no k hk (by rw [hp]; exact hno)]; exact hH.symm⟩
  · have hie : i = g.d.seen.length := by omega
    rw [hie, List.take_length] at hall
    have hyes : rightB g.d p = true := hall
    have hcall := hon.on k hk (by rw [hp]; exact hyes) (svH 3 1 g.d.banks.length (ints cl) s45 [] ++ (F ++ eachB g q qc b2 b3 b4)) A c (by rw [hp]; exact fun L' hL => hrd L' (Sub.trans (.app _ .left) hL))
    have e1 : ∀ k, (svH 3 1 g.d.banks.length (ints cl) s45 [] ++ (F ++ eachB g q qc b2 b3 b4)) ++ J k = svH 3 1 g.d.banks.length (ints cl) s45 (F ++ (eachB g q qc b2 b3 b4 ++ J k)) := fun k => by rw [List.append_assoc, svH_nil, List.append_assoc]
    rw [e1, e1, hH] at hcall
    have hcall2 : Tri Try.prog N w0 (svH 3 1 g.d.banks.length (ints cl) s45 H) q (.slice A g.d.banks.length c :: qc).toArray fun x L' => ∃ v, x = .returned v ∧ L' = svH 3 1 g.d.banks.length (ints cl) s45 (F ++ (eachB g q qc b2 b3 b4 ++ J (k + 1))) := hcall.mono fun x L' h => ⟨_, h.1, h.2⟩
    repeat' (first | (refine GiP ?_; first | (refine Znh ?_) | (with_reducible refine Znl ?_)) | (refine GiW ?_; first | (refine Zsq fun K hK => ?_) | (refine ZrN 8 fun _ => ?_; refine Zv Zxlss ?_) | (refine ZrN 12 fun _ => ?_; refine Zv Zld ?_; refine Zv Zmv ?_; refine OPS_retKS (Enters_val rfl rfl) hcall2 rfl rfl rfl (fun v64 L64 h64 => ?_); subst h64) | (refine WP_cond_true rfl ?_) | (refine WP_cond_false rfl ?_) | (refine Zcd (fun hc => ?_) (fun hc => ?_) <;> (try (exfalso; omega))) | (with_reducible apply WP_skip) | (with_reducible apply WP_block) | (with_reducible apply WP_exit) | (with_reducible apply WP_ret)) | (refine Zhn ?_) | (with_reducible apply QBlock_normal) | (refine Zhx ?_) | (with_reducible apply QBlock_hit) | (refine Zqb ?_) | (with_reducible apply QLoop_exit) | (refine Zhr ?_) | (with_reducible apply QBlock_ret) | (with_reducible apply QLoop_ret))
    exact QBody_end0 rfl ⟨F ++ (eachB g q qc b2 b3 b4 ++ J (k + 1)), (by repeat (first | exact Wk.refl _ | apply Wk.keep1 | apply Wk.drop | apply Wk.sv | apply Wk.svD | apply Wk.appD)), rfl, rfl⟩
theorem RdI.wkk {N : Nat} {w0 : World} {L L' : Hp} {A : Option Addr} {l : List Int} (h : RdI N w0 L A l) (k : Wk L' L) : RdI N w0 L' A l := fun i hi => by
  obtain ⟨b, o, h1, h2⟩ := h i hi
  exact ⟨b, o, h1, fun j v hj w hI => h2 j v hj w (hI.wk k)⟩
theorem rd_src {N : Nat} {w0 : World} {L : Hp} {A : Option Addr} {p : List Int} (h : RdI N w0 L A p) : ∀ w, Inv N w0 L w → ∀ j u, (ints p)[j]? = some u → ∃ b2 o2, A = some ⟨b2, o2, none⟩ ∧ w.cell? ⟨b2, o2 + j, none⟩ = some u := by
  intro w hI j u hu
  have hj : j < p.length := by
    have := (List.getElem?_eq_some_iff.1 hu).1
    rwa [ints_length] at this
  obtain ⟨b, o, rfl, _⟩ := RdRows.row h j hj
  refine ⟨b, o, rfl, ?_⟩
  have h1 := h.at_ hj w hI
  have h2 := ints_get hj
  rw [Nat.zero_add] at h2
  rw [h2] at hu
  simp only [Option.some.injEq] at hu
  rw [← hu]; exact h1
theorem vals_split (s : Sp) {j : Nat} (hj : j < (s.2 - s.1 + 1).toNat) : vals s = (vals s).take j ++ (s.1 + (j : Int)) :: (vals s).drop (j + 1) := by
  have hl : j < (vals s).length := by rw [vals_length]; exact hj
  conv => lhs; rw [← List.take_append_drop j (vals s), List.drop_eq_getElem_cons hl, vals_get s j hl]
theorem flatM_len {α : Type} (f : Int → List α) (n : Nat) : ∀ (l : List Int), (∀ v ∈ l, (f v).length = n) → (l.flatMap f).length = l.length * n
  | [], _ => by simp
  | v :: l, h => by
    rw [List.flatMap_cons, List.length_append, flatM_len f n l (fun x hx => h x (.tail _ hx)), h v (.head _), List.length_cons, Nat.succ_mul]; omega
set_option maxHeartbeats 8000000 in
theorem each_rec (g : Fg) (hA : DrAt N w0 g) (hv : VD g.d) (J : Nat → Hp) (q : FuncId) [HasBody Try.prog q] (qc : List Value) (hon : OnOK N w0 g.d J q qc) (b2 b3 b4 : Nat) :
    ∀ (r : Nat) (p : List Int) (pre post : List (List Int)) (F : Hp) (A : Option Addr) (c : Nat), r + p.length = g.d.banks.length → rowsD g.d = pre ++ ((allR ((g.d.banks.drop p.length).map (·.lv))).map (p ++ ·) ++ post) → (∀ L', Sub F L' → RdI N w0 L' A p) →
      Tri Try.prog N w0 (F ++ (eachB g q qc b2 b3 b4 ++ J pre.length)) 81 [.slice A p.length c, .pointer (some ⟨b2, 0, none⟩), .pointer (some ⟨b4, 0, none⟩), .pointer (some ⟨b3, 0, none⟩)].toArray fun x L' => x = .returned (.tuple #[]) ∧ L' = F ++ (eachB g q qc b2 b3 b4 ++ J (pre.length + (allR ((g.d.banks.drop p.length).map (·.lv))).length)) := by
  have hnb := hv.nb
  intro r
  induction r with
  | zero =>
    intro p pre post F A c hr hrows hrd
    have hpl : p.length = g.d.banks.length := by omega
    have hdr : g.d.banks.drop p.length = [] := List.drop_eq_nil_of_le (by omega)
    rw [hdr] at hrows ⊢
    have hrows2 : rowsD g.d = pre ++ p :: post := by rw [hrows]; simp [allR]
    have hk : pre.length < (rowsD g.d).length := by rw [hrows2]; simp
    have := each_leaf N w0 g hA hv J q qc hon b2 b3 b4 pre.length hk p (by simp [hrows2]) F A c hrd
    rw [hpl]
    exact this
  | succ r ih =>
    intro p pre post F A c hr hrows hrd
    have hpl : p.length < g.d.banks.length := by omega
    rw [List.drop_eq_getElem_cons hpl] at hrows ⊢
    obtain ⟨bA, oA, hA1, hbA, hcA⟩ := hA.banks.row p.length hpl
    obtain ⟨t, ht⟩ : ∃ t, g.d.banks[p.length] = t := ⟨_, rfl⟩
    have htb := hv.bk t (by rw [← ht]; exact List.getElem_mem hpl)
    rw [ht] at hrows hcA ⊢
    rw [List.map_cons] at hrows ⊢
    obtain ⟨R, hR⟩ : ∃ R, (g.d.banks.drop (p.length + 1)).map (·.lv) = R := ⟨_, rfl⟩
    rw [hR] at hrows ⊢
    obtain ⟨cnt, hcnt⟩ : ∃ cnt, (allR R).length = cnt := ⟨_, rfl⟩
    have hlen : (allR (t.lv :: R)).length = (t.lv.2 - t.lv.1 + 1).toNat * cnt := by
      show ((vals t.lv).flatMap fun v => (allR R).map (v :: ·)).length = _
      rw [flatM_len _ cnt _ (fun v _ => by rw [List.length_map, hcnt]), vals_length]
    rw [hlen]
    have hrows2 : rowsD g.d = pre ++ (((vals t.lv).flatMap fun v => (allR R).map (v :: ·)).map (p ++ ·) ++ post) := hrows
    obtain ⟨m, hm⟩ : ∃ m, (t.lv.2 - t.lv.1 + 1).toNat = m := ⟨_, rfl⟩
    rw [hm]
    have hmid : ∀ j, j < m → ∃ pre' post', pre'.length = pre.length + j * cnt ∧ rowsD g.d = pre' ++ ((allR R).map ((p ++ [t.lv.1 + (j : Int)]) ++ ·) ++ post') := by
      intro j hj
      refine ⟨pre ++ (((vals t.lv).take j).flatMap fun v => (allR R).map (v :: ·)).map (p ++ ·), (((vals t.lv).drop (j + 1)).flatMap fun v => (allR R).map (v :: ·)).map (p ++ ·) ++ post, ?_, ?_⟩
      · rw [List.length_append, List.length_map, flatM_len _ cnt _ (fun v _ => by rw [List.length_map, hcnt]), List.length_take, vals_length, hm, Nat.min_eq_left (by omega)]
      · rw [hrows2]
        conv => lhs; rw [vals_split t.lv (j := j) (by omega)]
        simp only [List.flatMap_append, List.flatMap_cons, List.map_append, List.map_map, List.append_assoc, Function.comp_def, List.cons_append, List.nil_append]
    have m2 : ∀ X, Mem b2 (Blk 29 [.slice g.A1 g.d.banks.length g.c1, .slice g.A2 g.d.ways.length g.c2, .slice g.A3 g.d.rights.length g.c3, .slice g.A4 g.d.seen.length g.c4]) (F ++ (eachB g q qc b2 b3 b4 ++ X)) := fun X => .app F (.there (.there .here))
    have m4 : ∀ X, Mem b4 (Blk 62 [.func (.func 81) #[] #[.pointer (some ⟨b2, 0, none⟩), .pointer (some ⟨b4, 0, none⟩), .pointer (some ⟨b3, 0, none⟩)]]) (F ++ (eachB g q qc b2 b3 b4 ++ X)) := fun X => .app F .here
    unfold bkL at hcA
    have c0 := RoAt hcA 0 _ rfl
    have c1 := RoAt hcA 1 _ rfl
    have hAn : A = none → p.length = 0 := fun h => by
      rcases Nat.eq_zero_or_pos p.length with h0 | h0
      · exact h0
      · obtain ⟨b, o, h1, _⟩ := RdRows.row (hrd F (Sub.refl _)) 0 h0
        rw [h] at h1; cases h1
    have hgen : ∀ j, j < m → ∀ s, svOk s 1 (p.length + 1) (ints p ++ [[Value.int .i64 (t.lv.1 + (j : Int))]].flatten) → ∀ F' : Hp, Sub (svH 3 1 (p.length + 1) (ints p ++ [[Value.int .i64 (t.lv.1 + (j : Int))]].flatten) s []) F' → Tri Try.prog N w0 (F' ++ (F ++ (eachB g q qc b2 b3 b4 ++ J (pre.length + j * cnt)))) 81 [svV s (p.length + 1), .pointer (some ⟨b2, 0, none⟩), .pointer (some ⟨b4, 0, none⟩), .pointer (some ⟨b3, 0, none⟩)].toArray fun x L' => ∃ v, x = .returned v ∧ L' = F' ++ (F ++ (eachB g q qc b2 b3 b4 ++ J (pre.length + (j + 1) * cnt))) := by
      intro j hj s hs F' hF'
      obtain ⟨pre', post', hl1, hl2⟩ := hmid j hj
      have hpl2 : (p ++ [t.lv.1 + (j : Int)]).length = p.length + 1 := by simp
      have hxs : ints p ++ [[Value.int .i64 (t.lv.1 + (j : Int))]].flatten = ints (p ++ [t.lv.1 + (j : Int)]) := by simp [ints]
      rw [hxs] at hs hF'
      obtain ⟨Ac, cc, ec, hrc⟩ := RdRows.sv (E := 3) (by omega) hs
      have := ih (p ++ [t.lv.1 + (j : Int)]) pre' post' (F' ++ F) Ac cc (by rw [hpl2]; omega) (by rw [hpl2, hR]; exact hl2) (fun L' hL => by
        have h1 := hrc N w0 _ (i1 (p ++ [t.lv.1 + (j : Int)])) (Wk.refl _) (ints_flat _) (by intro r hr; simp only [i1, List.mem_map] at hr; obtain ⟨_, _, rfl⟩ := hr; rfl)
        exact RdI.wk (h1 : RdI N w0 (svH 3 1 (p.length + 1) (ints (p ++ [t.lv.1 + (j : Int)])) s []) Ac (p ++ [t.lv.1 + (j : Int)])) (Sub.trans (Sub.trans hF' .left) hL))
      rw [hpl2, hR, hl1, hcnt, List.append_assoc, List.append_assoc] at this
      rw [ec]
      refine this.mono fun x L' h => ⟨_, h.1, ?_⟩
      rw [h.2, Nat.succ_mul, Nat.add_assoc]
    have hcA : ∀ j, j < m → ∀ b40 s, svOk s 1 (p.length + 1) (ints p ++ [[Value.int .i64 (t.lv.1 + (j : Int))]].flatten) → Tri Try.prog N w0 ((b40, Blk 3 [[Value.int .i64 (t.lv.1 + (j : Int))]].flatten) :: svH 3 1 (p.length + 1) (ints p ++ [[Value.int .i64 (t.lv.1 + (j : Int))]].flatten) s (F ++ (eachB g q qc b2 b3 b4 ++ J (pre.length + j * cnt)))) 81 [svV s (p.length + 1), .pointer (some ⟨b2, 0, none⟩), .pointer (some ⟨b4, 0, none⟩), .pointer (some ⟨b3, 0, none⟩)].toArray fun x L' => ∃ v, x = .returned v ∧ L' = (b40, Blk 3 [[Value.int .i64 (t.lv.1 + (j : Int))]].flatten) :: svH 3 1 (p.length + 1) (ints p ++ [[Value.int .i64 (t.lv.1 + (j : Int))]].flatten) s (F ++ (eachB g q qc b2 b3 b4 ++ J (pre.length + (j + 1) * cnt))) := by
      intro j hj b40 s hs
      have := hgen j hj s hs ((b40, Blk 3 [[Value.int .i64 (t.lv.1 + (j : Int))]].flatten) :: svH 3 1 (p.length + 1) (ints p ++ [[Value.int .i64 (t.lv.1 + (j : Int))]].flatten) s []) (.cons (Sub.refl _))
      simpa only [List.cons_append, svH_nil] using this
    have hcB : ∀ j, j < m → ∀ b40 s, svOk s 1 (p.length + 1) (ints p ++ [[Value.int .i64 (t.lv.1 + (j : Int))]].flatten) → Tri Try.prog N w0 (svH 3 1 (p.length + 1) (ints p ++ [[Value.int .i64 (t.lv.1 + (j : Int))]].flatten) s ((b40, Blk 3 [[Value.int .i64 (t.lv.1 + (j : Int))]].flatten) :: (F ++ (eachB g q qc b2 b3 b4 ++ J (pre.length + j * cnt))))) 81 [svV s (p.length + 1), .pointer (some ⟨b2, 0, none⟩), .pointer (some ⟨b4, 0, none⟩), .pointer (some ⟨b3, 0, none⟩)].toArray fun x L' => ∃ v, x = .returned v ∧ L' = svH 3 1 (p.length + 1) (ints p ++ [[Value.int .i64 (t.lv.1 + (j : Int))]].flatten) s ((b40, Blk 3 [[Value.int .i64 (t.lv.1 + (j : Int))]].flatten) :: (F ++ (eachB g q qc b2 b3 b4 ++ J (pre.length + (j + 1) * cnt)))) := by
      intro j hj b40 s hs
      have := hgen j hj s hs (svH 3 1 (p.length + 1) (ints p ++ [[Value.int .i64 (t.lv.1 + (j : Int))]].flatten) s [] ++ [(b40, Blk 3 [[Value.int .i64 (t.lv.1 + (j : Int))]].flatten)]) .left
      have e : ∀ Y : Hp, (svH 3 1 (p.length + 1) (ints p ++ [[Value.int .i64 (t.lv.1 + (j : Int))]].flatten) s [] ++ [(b40, Blk 3 [[Value.int .i64 (t.lv.1 + (j : Int))]].flatten)]) ++ Y = svH 3 1 (p.length + 1) (ints p ++ [[Value.int .i64 (t.lv.1 + (j : Int))]].flatten) s ((b40, Blk 3 [[Value.int .i64 (t.lv.1 + (j : Int))]].flatten) :: Y) := fun Y => by rw [List.append_assoc, svH_nil]; rfl
      rw [e, e] at this
      exact this
    refine Tri.fgt ?_
    refine tri_of_WP Try.func81 rfl (n := _) rfl (by simp) ?_
    have m20 := m2 (J pre.length)
    repeat' (first | (refine GiP ?_; first | (refine Znh ?_) | (with_reducible refine Znl ?_)) | (refine GiW ?_; first | (refine Zsq fun K hK => ?_) | (refine ZrN 0 fun _ => ?_; refine Zv Zmv ?_; refine Zv Zxlen ?_; refine Zv Zai ?_) | (refine ZrN 1 fun _ => ?_; refine Zv Zmi ?_; refine Zv Zf0 ?_; refine Zv Zld ?_; refine Zv Zxlen ?_; refine Zv Zxlss ?_) | (refine ZrN 2 fun _ => ?_; refine Zv Zf0 ?_; refine Zv Zld ?_; refine Zv Zmi ?_; refine Zv Zia ?_; refine Zv Zf0 ?_; refine Zv Zf0 ?_; refine Zv Zld ?_; refine Zv Zai ?_) | (refine WP_cond_true rfl ?_) | (refine WP_cond_false rfl ?_) | (refine Zcd (fun hc => ?_) (fun hc => ?_) <;> (try (exfalso; omega))) | (with_reducible apply WP_skip) | (with_reducible apply WP_block) | (with_reducible apply WP_exit) | (with_reducible apply WP_ret)) | (refine Zhn ?_) | (with_reducible apply QBlock_normal) | (refine Zhx ?_) | (with_reducible apply QBlock_hit) | (refine Zqb ?_) | (with_reducible apply QLoop_exit) | (refine Zhr ?_) | (with_reducible apply QBlock_ret) | (with_reducible apply QLoop_ret))
    refine WP_loop [6, 24, 25, 26, 27, 28, 29, 30, 31, 32, 33, 34, 35, 36, 37, 38, 39, 40, 41, 42] (fun j : Nat => [(6, .int .i64 (t.lv.1 + (j : Int)))]) (fun j => F ++ (eachB g q qc b2 b3 b4 ++ J (pre.length + j * cnt))) (fun j => j ≤ m) (fun j => m - j) 0 (.cons (by show Value.int .i64 _ = Value.int .i64 _; congr 1; omega) .nil) (by rw [Nat.zero_mul, Nat.add_zero]; exact Wk.refl _) (Nat.zero_le _) ?_
    intro j jj hj
    have m2j := m2 (J (pre.length + j * cnt))
    have m4j := m4 (J (pre.length + j * cnt))
    by_cases hlt : j < m
    · have hcA2 := hcA j hlt
      have hcB2 := hcB j hlt
      have hs0 : ∀ X Y, Wk Y (F ++ X) → RdI N w0 Y A p := fun X Y hY => (hrd (F ++ X) .left).wkk hY
      repeat' (first | (refine GiP ?_; first | (refine Znh ?_) | (with_reducible refine Znl ?_) | (refine Zatd 36 ?_; refine Zbs fun b36 => ?_) | (refine Zatd 36 ?_; refine Zal 36 fun b36 => ?_) | (refine Zatd 38 ?_; refine OPS_append0 rfl rfl rfl (by intro s9; repeat (first | exact Grow.here | apply Grow.there | apply Grow.sv | apply Grow.app)) svOk0 (rd_src (hs0 _ _ (by repeat (first | exact Wk.refl _ | apply Wk.keep1 | apply Wk.drop | apply Wk.sv | apply Wk.svD | apply Wk.appD)))) hAn (by rw [ints_length]; omega) (ints_ones p) (by simp only [maxLen]; omega) (by omega) (fun s38 hs38 => ?_)) | (refine Zatd 38 ?_; refine Zag (fun s38 hs38 => ?_)) | (refine Zatd 40 ?_; refine Zbs fun b40 => ?_) | (refine Zatd 40 ?_; refine Zal 40 fun b40 => ?_) | (refine Zatd 41 ?_; refine OPS_append0 rfl rfl rfl (by intro s9; repeat (first | exact Grow.here | apply Grow.there | apply Grow.sv | apply Grow.app)) svOk0 (rd_src (hs0 _ _ (by repeat (first | exact Wk.refl _ | apply Wk.keep1 | apply Wk.drop | apply Wk.sv | apply Wk.svD | apply Wk.appD)))) hAn (by rw [ints_length]; omega) (ints_ones p) (by simp only [maxLen]; omega) (by omega) (fun s41 hs41 => ?_)) | (refine Zatd 41 ?_; refine Zag (fun s41 hs41 => ?_)) | (refine Zatd 42 ?_; refine OPS_retKS (Enters_val rfl rfl) (hcA2 b40 s41 hs41) rfl rfl rfl (fun v42 L42 h42 => ?_); subst h42) | (refine Zatd 42 ?_; refine OPS_retKS (Enters_val rfl rfl) (hcB2 b40 s41 hs41) rfl rfl rfl (fun v42 L42 h42 => ?_); subst h42)) | (refine GiW ?_; first | (refine Zsq fun K hK => ?_) | (refine ZrN 3 fun _ => ?_; refine Zv Zmi ?_; refine Zv Zf0 ?_; refine Zv Zld ?_; refine Zv Zmi ?_; refine Zv Zia ?_; refine Zv Zf0 ?_; refine Zv Zfa ?_; refine Zv Zld ?_; refine Zv Zxleq ?_) | (refine ZrN 4 fun _ => ?_; refine Zv Zmi ?_; refine Zv Zxadd ?_; refine Zv Zai ?_) | (refine WP_cond_true rfl ?_) | (refine WP_cond_false rfl ?_) | (refine Zcd (fun hc => ?_) (fun hc => ?_) <;> (try (exfalso; omega))) | (with_reducible apply WP_skip) | (with_reducible apply WP_block) | (with_reducible apply WP_exit) | (with_reducible apply WP_ret) | (refine WP_drawnS (id := 5) [0, 2, 4] [0, 2, 4] [] [35, 37, 39] (k := 4) (k2 := 1) (by repeat (first | apply Sub.sv | apply Sub.keep | apply Sub.appK | exact Sub.refl _)) (by kernel_rfl) prog_mixed (by kernel_rfl) (by kernel_rfl) rfl ?_; refine Zew rfl Zld ?_; refine Zew rfl Zmv ?_; refine Zew rfl Zmi ?_)) | (with_reducible apply EWalk_nil) | (refine GiC ?_; first | (refine ZgC [0, 2, 4] ?_; refine ZC2 _ 1 [0, 2, 4, 1] 5 [0, 2, 4, 5] ?_ ?_) | (refine ZgC [0, 2, 4, 1] ?_; refine ZC2 _ 3 [0, 2, 4, 1, 3] 5 [0, 2, 4, 1, 5] ?_ ?_) | (refine ZgC [0, 2, 4, 1, 3] ?_; refine ZC1 _ 5 [0, 2, 4, 1, 3, 5] ?_) | (refine ZgC [0, 2, 4, 1, 3, 5] ?_; refine ZC1 _ 6 [0, 2, 4, 1, 3, 5, 6] ?_) | (refine ZgC [0, 2, 4, 1, 3, 5, 6] ?_; refine ZCl _ ?_) | (refine ZgC [0, 2, 4, 1, 5] ?_; refine ZC1 _ 3 [0, 2, 4, 1, 3, 5] ?_) | (refine ZgC [0, 2, 4, 5] ?_; refine ZC1 _ 1 [0, 2, 4, 1, 5] ?_)) | (refine GiO ?_; first | (refine ZgO [0, 2, 4, 1, 3, 5, 6] ?_; refine ZO1 _ 7 [0, 2, 4, 1, 3, 5, 6, 7] ?_) | (refine ZgO [0, 2, 4, 1, 3, 5, 6, 7] ?_; refine ZOd _ ?_; (try with_reducible apply noP_normal); (try with_reducible exact key.out))) | (refine Zhn ?_) | (with_reducible apply QBlock_normal) | (refine Zhx ?_) | (with_reducible apply QBlock_hit) | (refine Zqb ?_) | (with_reducible apply QLoop_exit) | (refine Zhr ?_) | (with_reducible apply QBlock_ret) | (with_reducible apply QLoop_ret) | (refine AWalk_0 ?_) | (with_reducible apply QAny_normal) | (with_reducible apply QC_normal))
      all_goals exact QLoop_normal (j + 1) (.cons (by show Value.int .i64 _ = Value.int .i64 _; congr 1; omega) .nil) (by repeat (first | exact Off.frame rfl | exact Off.refl _ _ | refine Off.frameT rfl rfl ?_ | refine Off.upd rfl ?_ | refine Off.updO rfl ?_)) (by repeat (first | exact Wk.refl _ | apply Wk.keep1 | apply Wk.drop | apply Wk.sv | apply Wk.svD | apply Wk.appD)) (by omega) (by omega)
    · have hje : j = m := by omega
      repeat' (first | (refine GiP ?_; first | (refine Znh ?_) | (with_reducible refine Znl ?_)) | (refine GiW ?_; first | (refine Zsq fun K hK => ?_) | (refine ZrN 3 fun _ => ?_; refine Zv Zmi ?_; refine Zv Zf0 ?_; refine Zv Zld ?_; refine Zv Zmi ?_; refine Zv Zia ?_; refine Zv Zf0 ?_; refine Zv Zfa ?_; refine Zv Zld ?_; refine Zv Zxleq ?_) | (refine WP_cond_true rfl ?_) | (refine WP_cond_false rfl ?_) | (refine Zcd (fun hc => ?_) (fun hc => ?_) <;> (try (exfalso; omega))) | (with_reducible apply WP_skip) | (with_reducible apply WP_block) | (with_reducible apply WP_exit) | (with_reducible apply WP_ret)) | (refine Zhn ?_) | (with_reducible apply QBlock_normal) | (refine Zhx ?_) | (with_reducible apply QBlock_hit) | (refine Zqb ?_) | (with_reducible apply QLoop_exit) | (refine Zhr ?_) | (with_reducible apply QBlock_ret) | (with_reducible apply QLoop_ret))
      exact QBody_ret0 rfl ⟨_, Wk.refl _, rfl, by rw [hje]⟩
theorem each_tri (g : Fg) (hA : DrAt N w0 g) (hv : VD g.d) (J : Nat → Hp) (q : FuncId) [HasBody Try.prog q] (qc : List Value) (hon : OnOK N w0 g.d J q qc) :
    Tri Try.prog N w0 (J 0) 30 [drV g, .func (.func q) #[] qc.toArray].toArray fun x L' => ∃ v, x = .returned v ∧ L' = J (rowsD g.d).length := by
  have hrec := fun b2 b3 b4 => each_rec N w0 g hA hv J q qc hon b2 b3 b4 g.d.banks.length [] [] [] [] none 0 (by simp) (by simp [rowsD]) (fun L' _ i hi => absurd hi (by simp [i1]))
  have hl : (([] : List (List Int)).length + (allR ((g.d.banks.drop ([] : List Int).length).map (·.lv))).length) = (rowsD g.d).length := by simp [rowsD]
  rw [hl] at hrec
  have hrec2 : ∀ b2 b3 b4, Tri Try.prog N w0 ((b4, Blk 62 [.func (.func 81) #[] #[.pointer (some ⟨b2, 0, none⟩), .pointer (some ⟨b4, 0, none⟩), .pointer (some ⟨b3, 0, none⟩)]]) :: (b3, Blk 62 [.func (.func q) #[] qc.toArray]) :: (b2, Blk 29 (drL g)) :: J 0) 81 [.slice none 0 0, .pointer (some ⟨b2, 0, none⟩), .pointer (some ⟨b4, 0, none⟩), .pointer (some ⟨b3, 0, none⟩)].toArray fun x L' => ∃ v, x = .returned v ∧ L' = (b4, Blk 62 [.func (.func 81) #[] #[.pointer (some ⟨b2, 0, none⟩), .pointer (some ⟨b4, 0, none⟩), .pointer (some ⟨b3, 0, none⟩)]]) :: (b3, Blk 62 [.func (.func q) #[] qc.toArray]) :: (b2, Blk 29 (drL g)) :: J (rowsD g.d).length := fun b2 b3 b4 => (hrec b2 b3 b4).mono fun x L' h => ⟨_, h.1, h.2⟩
  refine Tri.fgt ?_
  refine tri_of_WP Try.func30 rfl (n := _) rfl (by simp) ?_
  unfold drV drL at *
  repeat' (first | (refine GiP ?_; first | (refine Znh ?_) | (with_reducible refine Znl ?_)) | (refine GiW ?_; first | (refine Zsq fun K hK => ?_) | (refine ZrN 0 fun _ => ?_; refine Zal 2 fun b2 => ?_; refine Zal 3 fun b3 => ?_) | (refine ZrN 1 fun _ => ?_; refine Zal 4 fun b4 => ?_) | (refine ZrN 2 fun _ => ?_; refine Zv Val_makeFunc ?_; refine Zst ?_) | (refine ZrN 3 fun _ => ?_; refine Zv Zld ?_; refine OPS_retKS (Enters_val rfl rfl) (hrec2 b2 b3 b4) rfl rfl rfl (fun v7 L7 h7 => ?_); subst h7)) | (refine Zhn ?_))
  exact QBody_end0 rfl ⟨J (rowsD g.d).length, (by repeat (first | exact Wk.refl _ | apply Wk.keep1 | apply Wk.drop | apply Wk.sv | apply Wk.svD | apply Wk.appD)), _, rfl, rfl⟩
end
end Go.Proofs.Ytbhgpnbfdjoglaa
end

section
namespace Go.Proofs.Ytbhgpnbfdjoglaa
open Go.RowKit
def upsL (d : Dr) : List Int := d.banks.map fun b => b.yd.2
theorem upsL_lvl {d : Dr} : lvl (upsL d) = hiY d := by
  funext z
  unfold lvl upsL hiY
  rw [List.getD_eq_getElem?_getD, List.getD_eq_getElem?_getD, List.getElem?_map, List.getElem?_map]
  cases d.banks[z]? <;> rfl
def lwsL (d : Dr) : List Int := d.banks.map fun b => b.yd.1
theorem lwsL_lvl {d : Dr} : lvl (lwsL d) = loY d := by
  funext z
  unfold lvl lwsL loY
  rw [List.getD_eq_getElem?_getD, List.getD_eq_getElem?_getD, List.getElem?_map, List.getElem?_map]
  cases d.banks[z]? <;> rfl
theorem codeO_eq {o : Option Nat} {b : Nat} : codeO o = (b : Int) ↔ o = some b := by
  cases o with
  | none =>
    refine ⟨fun h => ?_, fun h => by cases h⟩
    simp only [codeO] at h; omega
  | some c => simp only [codeO, Option.some.injEq]; omega
attribute [local irreducible] AnyO AnyB QAny QB EWalk AWalk Ev WP OPS QThen QBlock QScope QLoop QBody Val New Turn Tri Enters PostA Blk Ro
attribute [local irreducible] AnyC QC
section
variable (N : Nat) (w0 : World)
set_option maxHeartbeats 8000000 in
theorem stop11_core (g : Fg) (hA : DrAt N w0 g) (hv : VD g.d) (x : Nat) (hx : x < 128) (bd b3 bu b5 : Nat) (X : Hp) (md : Mem bd (Blk 29 (drL g)) X) (m3 : Mem b3 (Blk 3 [.int .i64 x]) X) (Au : Option Addr) (cu : Nat) (mu : Mem bu (Blk 47 [.slice Au g.d.banks.length cu]) X) (hru : ∀ L', Sub X L' → RdI N w0 L' Au (upsL g.d)) (lv : List Int) (hl : lv.length = g.d.banks.length) (A : Option Addr) (c : Nat) (hrd : ∀ L', Sub X L' → RdI N w0 L' A lv) (u : Bool) :
    Tri Try.prog N w0 ((b5, Blk 4 [.bool u]) :: X) 34 (.slice A g.d.banks.length c :: [.pointer (some ⟨bd, 0, none⟩), .pointer (some ⟨b3, 0, none⟩), .pointer (some ⟨bu, 0, none⟩), .pointer (some ⟨b5, 0, none⟩)]).toArray fun y L' => ∃ v, y = .returned v ∧ v = .tuple #[] ∧ L' = (b5, Blk 4 [.bool (u && keepS1 g.d (nxt (keepL x g.d.ways 0) lv))]) :: X := by
  have hnb := hv.nb
  have hnr := hv.nr
  have hdn : ∀ a y, nxt (keepL x g.d.ways 0) lv a = some y → y < g.d.banks.length ∧ lvl lv y < lvl lv a := fun a y h => by rw [← hl]; exact nxt_dec h
  have hks : keepS1 g.d (nxt (keepL x g.d.ways 0) lv) = kp1 g.d (nxt (keepL x g.d.ways 0) lv) g.d.rights.length := by unfold kp1 keepS1; rw [List.take_length]
  rw [hks]
  have hcr := fun L h => courses_tri N w0 L g hA hv lv hl A c h x hx
  simp only [crsO_cdL] at hcr
  obtain ⟨nx, hnx⟩ : ∃ nx, nxt (keepL x g.d.ways 0) lv = nx := ⟨_, rfl⟩
  rw [hnx] at hcr hdn ⊢
  rw [hl] at hcr
  have hwt := fun L Ac cc hrc h => lwaters_tri N w0 L g.d.banks.length hnb nx _ hdn Ac cc hrc (upsL g.d) (by simp [upsL]) (fun z hz => by rw [upsL_lvl]; have := yd_bd hv z; omega) Au cu h
  rw [upsL_lvl] at hwt
  obtain ⟨W, hW⟩ : ∃ W, wsum g.d.banks.length nx (hiY g.d) g.d.banks.length = W := ⟨_, rfl⟩
  have hWl : W.length = g.d.banks.length := by rw [← hW]; exact wsum_len _ _ _ _
  have hWg : ∀ a, a < g.d.banks.length → lvl W a = watN g.d.banks.length nx (hiY g.d) a := fun a ha => by rw [← hW]; exact wsum_wat hdn (hiY g.d) ha
  rw [hW] at hwt
  refine Tri.fgt ?_
  refine tri_of_WP Try.func34 rfl (n := _) rfl (by simp) ?_
  have hcr2 := hcr _ (hrd ((b5, Blk 4 [.bool u]) :: X) (.cons (Sub.refl _)))
  unfold drV at hcr2
  unfold drL at hcr2 md
  repeat' (first | (refine GiP ?_; first | (refine Znh ?_) | (with_reducible refine Znl ?_)) | (refine GiW ?_; first | (refine Zsq fun K hK => ?_) | (refine ZrN 0 fun _ => ?_; refine Zv Zla ?_; refine Zv Zmv ?_; refine Zv Zld ?_; refine OPS_retKS (Enters_fn rfl) hcr2 rfl rfl rfl (fun v13 L13 h13 => ?_); obtain ⟨s13, rfl, hs13, rfl⟩ := h13; refine Zv Zav ?_) | (refine WP_cond_true rfl ?_) | (refine WP_cond_false rfl ?_) | (refine Zcd (fun hc => ?_) (fun hc => ?_) <;> (try (exfalso; omega))) | (with_reducible apply WP_skip) | (with_reducible apply WP_block) | (with_reducible apply WP_exit)) | (refine Zhn ?_) | (with_reducible apply QBlock_normal) | (refine Zhx ?_) | (with_reducible apply QBlock_hit) | (refine Zqb ?_) | (with_reducible apply QLoop_exit))
  obtain ⟨Ac, cc, ec, hrc⟩ := RdRows.sv (E := 3) (by omega) hs13
  rw [ec]
  have hrcl : ∀ L', Wk L' (svH 3 1 g.d.banks.length (ints (cdL g.d.banks.length nx)) s13 []) → RdI N w0 L' Ac (cdL g.d.banks.length nx) := fun L' hL => hrc N w0 L' (i1 _) hL (ints_flat _) (by intro r hr; simp only [i1, List.mem_map] at hr; obtain ⟨_, _, rfl⟩ := hr; rfl)
  obtain ⟨bC, oC, rfl⟩ : ∃ bC oC, Ac = some ⟨bC, oC, none⟩ := by
    obtain ⟨b, o, h, _⟩ := RdRows.row (hrcl _ Wk.sv0 : RdI N w0 (svH 3 1 g.d.banks.length (ints (cdL g.d.banks.length nx)) s13 []) Ac (cdL g.d.banks.length nx)) 0 (by rw [cdL_len]; omega)
    exact ⟨b, o, h⟩
  have hSX : Sub X (svH 3 1 g.d.banks.length (ints (cdL g.d.banks.length nx)) s13 ((b5, Blk 4 [.bool u]) :: X)) := (by repeat (first | exact Sub.refl _ | assumption | exact Sub.left | apply Sub.cons | apply Sub.sv | apply Sub.app))
  have hwt2 := hwt _ (some ⟨bC, oC, none⟩) cc (hrcl (svH 3 1 g.d.banks.length (ints (cdL g.d.banks.length nx)) s13 ((b5, Blk 4 [.bool u]) :: X)) Wk.sv0) (hru _ hSX)
  repeat' (first | (refine GiP ?_; first | (refine Znh ?_) | (with_reducible refine Znl ?_)) | (refine GiW ?_; first | (refine Zsq fun K hK => ?_) | (refine ZrN 1 fun _ => ?_; refine Zv Zmv ?_; refine Zv Zld ?_; refine OPS_retKS (Enters_fn rfl) hwt2 rfl rfl rfl (fun v16 L16 h16 => ?_); obtain ⟨b16, rfl, rfl⟩ := h16; refine Zv Zav ?_) | (refine ZrN 2 fun _ => ?_; refine Zv Zfa ?_; refine Zv Zld ?_; refine Zv Zxlen ?_; refine Zv Zmi ?_) | (refine WP_cond_true rfl ?_) | (refine WP_cond_false rfl ?_) | (refine Zcd (fun hc => ?_) (fun hc => ?_) <;> (try (exfalso; omega))) | (with_reducible apply WP_skip) | (with_reducible apply WP_block) | (with_reducible apply WP_exit)) | (refine Zhn ?_) | (with_reducible apply QBlock_normal) | (refine Zhx ?_) | (with_reducible apply QBlock_hit) | (refine Zqb ?_) | (with_reducible apply QLoop_exit))
  refine WP_loop [9, 20, 21, 22, 23, 24, 25, 26, 27, 28, 29, 30, 31, 32, 33, 34, 35, 36, 37, 38, 39, 40, 41, 42, 43, 44, 45] (fun st : Nat × Bool => [(20, .int .i64 (st.1 : Int))]) (fun st => (b16, Blk 3 (ints W)) :: svH 3 1 g.d.banks.length (ints (cdL g.d.banks.length nx)) s13 ((b5, Blk 4 [.bool st.2]) :: X)) (fun st => st.1 ≤ g.d.rights.length ∧ st.2 = (u && kp1 g.d nx st.1)) (fun st => g.d.rights.length - st.1) (0, u) (.cons rfl .nil) (Wk.refl _) ⟨Nat.zero_le _, by simp [kp1]⟩ ?_
  rintro ⟨i, w⟩ j ⟨hi, hw⟩
  dsimp only at hi hw ⊢
  by_cases hlt : i < g.d.rights.length
  · obtain ⟨bA, oA, hA3, hbA, hcA⟩ := hA.rights.row i hlt
    have hsn : (u && kp1 g.d nx (i + 1)) = (w && decide ((flowS g.d nx g.d.rights[i].a.toNat g.d.rights[i].b.toNat).2 ≤ g.d.rights[i].most)) := by
      have : kp1 g.d nx (i + 1) = (kp1 g.d nx i && decide ((flowS g.d nx g.d.rights[i].a.toNat g.d.rights[i].b.toNat).2 ≤ g.d.rights[i].most)) := all_take_succ hlt
      rw [this, hw, Bool.and_assoc]
    obtain ⟨t, ht⟩ : ∃ t, g.d.rights[i] = t := ⟨_, rfl⟩
    have htb := hv.rt t (by rw [← ht]; exact List.getElem_mem hlt)
    rw [ht] at hcA hsn
    obtain ⟨ta, tb, tm⟩ := t
    dsimp only at htb hsn
    obtain ⟨a, rfl⟩ : ∃ a : Nat, ta = a := ⟨ta.toNat, by omega⟩
    obtain ⟨b, rfl⟩ : ∃ b : Nat, tb = b := ⟨tb.toNat, by omega⟩
    have hab : a < g.d.banks.length := by omega
    simp only [Int.toNat_natCast] at hsn
    unfold rtL at hcA
    dsimp only at hcA
    have hcd : ∀ L', Wk L' (svH 3 1 g.d.banks.length (ints (cdL g.d.banks.length nx)) s13 []) → Rd N w0 L' bC (oC + a) (.int .i64 (codeO (nx a))) := fun L' hL => by
      have := (hrcl L' hL).at_ (i := a) (by rw [cdL_len]; exact hab)
      rwa [cdL_lvl hab] at this
    have hwc := ints_get (l := W) (x := a) (by omega)
    rw [hWg a hab] at hwc
    have hfl : flowS g.d nx a b = if codeO (nx a) = (b : Int) then watS g.d nx a else (0, 0) := by
      unfold flowS
      by_cases h : nx a = some b
      · rw [if_pos h, if_pos (codeO_eq.2 h)]
      · rw [if_neg h, if_neg (fun h2 => h (codeO_eq.1 h2))]
    simp only [hfl] at hsn
    clear hfl
    have hws : (watS g.d nx a).2 = watN g.d.banks.length nx (hiY g.d) a := rfl
    obtain ⟨z, hz⟩ : ∃ z, codeO (nx a) = z := ⟨_, rfl⟩
    obtain ⟨y, hy⟩ : ∃ y, watN g.d.banks.length nx (hiY g.d) a = y := ⟨_, rfl⟩
    rw [hz] at hcd
    rw [hy] at hwc hws
    clear hw
    cases w with
    | false =>
      repeat' (first | (refine GiP ?_; first | (refine Znh ?_) | (with_reducible refine Znl ?_) | (refine Zatn ?_; refine Zst ?_)) | (refine GiW ?_; first | (refine Zsq fun K hK => ?_) | (refine ZrN 3 fun _ => ?_; refine Zv Zylss ?_) | (refine ZrN 4 fun _ => ?_; refine Zv Zia ?_; (first | (refine Zv (Val_loadD1 rfl (hcd _ (.drop (.drop Wk.sv0)))) ?_) | (refine Zv Zla ?_)); refine Zal 9 fun b9 => ?_; refine Zst ?_) | (refine ZrN 6 fun _ => ?_; refine Zv Zxadd ?_; refine Zv Zmi ?_) | (refine WP_cond_true rfl ?_) | (refine WP_cond_false rfl ?_) | (refine Zcd (fun hc => ?_) (fun hc => ?_) <;> (try (exfalso; omega))) | (with_reducible apply WP_skip) | (with_reducible apply WP_block) | (with_reducible apply WP_exit) | (refine WP_drawn (id := 5) [0, 1, 2, 3, 4, 5, 6, 7, 8, 9, 10, 11, 12, 13, 14, 15, 16, 17, 18, 19, 20] [] (k := 1) prog_mixed (by kernel_rfl) rfl ?_; (first | (refine Zew rfl (Val_loadD1 rfl (hcd _ (.drop (.drop Wk.sv0)))) ?_) | (refine Zew rfl Zld ?_)); refine Zew rfl Zmb ?_)) | (refine GiE ?_; first | (refine Zati 20 ?_; (first | (refine Zew rfl Zxpt ?_) | (refine Zew rfl Zxpf ?_))) | (refine Zati 2 ?_; first | refine Zes ?_ | (refine Zew rfl Zmv ?_)) | (refine Zati 3 ?_; first | refine Zes ?_ | (refine Zew rfl Zf0 ?_)) | (refine Zati 4 ?_; first | refine Zes ?_ | (refine Zew rfl (Val_loadD1 rfl (hcd _ (.drop (.drop Wk.sv0)))) ?_) | (refine Zew rfl Zld ?_)) | (refine Zati 5 ?_; first | refine Zes ?_ | (refine Zew rfl Zia ?_)) | (refine Zati 6 ?_; first | refine Zes ?_ | (refine Zew rfl (Val_loadD1 rfl (hcd _ (.drop (.drop Wk.sv0)))) ?_) | (refine Zew rfl Zld ?_)) | (refine Zati 7 ?_; first | refine Zes ?_ | (refine Zew rfl Zfa ?_)) | (refine Zati 8 ?_; first | refine Zes ?_ | (refine Zew rfl (Val_loadD1 rfl (hcd _ (.drop (.drop Wk.sv0)))) ?_) | (refine Zew rfl Zld ?_)) | (refine Zati 9 ?_; first | refine Zes ?_ | (refine Zew rfl Zyneq ?_)) | (refine Zati 10 ?_; first | refine Zes ?_ | (refine Zew rfl Zmb ?_)) | (refine Zati 11 ?_; first | refine Zes ?_ | (refine Zew rfl Zmv ?_)) | (refine Zati 12 ?_; first | refine Zes ?_ | (refine Zew rfl Zf0 ?_)) | (refine Zati 13 ?_; first | refine Zes ?_ | (refine Zew rfl (Val_loadD1 rfl (hcd _ (.drop (.drop Wk.sv0)))) ?_) | (refine Zew rfl Zld ?_)) | (refine Zati 14 ?_; first | refine Zes ?_ | (refine Zew rfl Zia ?_)) | (refine Zati 15 ?_; first | refine Zes ?_ | (refine Zew rfl (Val_loadD1 rfl (hcd _ (.drop (.drop Wk.sv0)))) ?_) | (refine Zew rfl Zld ?_)) | (refine Zati 16 ?_; first | refine Zes ?_ | (refine Zew rfl Zfa ?_)) | (refine Zati 17 ?_; first | refine Zes ?_ | (refine Zew rfl (Val_loadD1 rfl (hcd _ (.drop (.drop Wk.sv0)))) ?_) | (refine Zew rfl Zld ?_)) | (refine Zati 18 ?_; first | refine Zes ?_ | (refine Zew rfl Zyleq ?_)) | (refine Zati 19 ?_; first | refine Zes ?_ | (refine Zew rfl Zxpt ?_) | (refine Zew rfl Zxpf ?_)) | (refine Zes ?_) | (refine Zesp (fun hc => ?_) (fun hc => ?_) <;> (try (exfalso; omega))) | (with_reducible apply EWalk_nil)) | (refine GiO ?_; first | (refine AnyO_done (by kernel_rfl) ?_; (try with_reducible apply noP_normal); try with_reducible exact key.out) | (refine AnyO_1 21 (by decide +kernel) rfl ?_)) | (refine Zhn ?_) | (with_reducible apply QBlock_normal) | (refine Zhx ?_) | (with_reducible apply QBlock_hit) | (refine Zqb ?_) | (with_reducible apply QLoop_exit) | (refine AWalk_0 ?_; refine ZisO ?_) | (with_reducible apply QAny_normal))
      exact QLoop_normal (i + 1, false) (.cons rfl .nil) (by repeat (first | exact Off.frame rfl | exact Off.refl _ _ | refine Off.frameT rfl rfl ?_ | refine Off.upd rfl ?_ | refine Off.updO rfl ?_)) (by repeat (first | exact Wk.refl _ | apply Wk.keep1 | apply Wk.drop | apply Wk.sv | apply Wk.svD | apply Wk.appD)) ⟨by dsimp only; omega, by dsimp only; rw [hsn]; rfl⟩ (by dsimp only; omega)
    | true =>
      by_cases hzb : z = (b : Int)
      · have hsn2 : (u && kp1 g.d nx (i + 1)) = decide (y ≤ tm) := by rw [hsn, Bool.true_and, if_pos (by rw [hz]; exact hzb), hws]
        by_cases hle : y ≤ tm
        · repeat' (first | (refine GiP ?_; first | (refine Znh ?_) | (with_reducible refine Znl ?_) | (refine Zatn ?_; refine Zst ?_)) | (refine GiW ?_; first | (refine Zsq fun K hK => ?_) | (refine ZrN 3 fun _ => ?_; refine Zv Zylss ?_) | (refine ZrN 4 fun _ => ?_; refine Zv Zia ?_; (first | (refine Zv (Val_loadD1 rfl (hcd _ (.drop (.drop Wk.sv0)))) ?_) | (refine Zv Zla ?_)); refine Zal 9 fun b9 => ?_; refine Zst ?_) | (refine ZrN 6 fun _ => ?_; refine Zv Zxadd ?_; refine Zv Zmi ?_) | (refine WP_cond_true rfl ?_) | (refine WP_cond_false rfl ?_) | (refine Zcd (fun hc => ?_) (fun hc => ?_) <;> (try (exfalso; omega))) | (with_reducible apply WP_skip) | (with_reducible apply WP_block) | (with_reducible apply WP_exit) | (refine WP_drawn (id := 5) [0, 1, 2, 3, 4, 5, 6, 7, 8, 9, 10, 11, 12, 13, 14, 15, 16, 17, 18, 19, 20] [] (k := 1) prog_mixed (by kernel_rfl) rfl ?_; (first | (refine Zew rfl (Val_loadD1 rfl (hcd _ (.drop (.drop Wk.sv0)))) ?_) | (refine Zew rfl Zld ?_)); refine Zew rfl Zmb ?_)) | (refine GiE ?_; first | (refine Zati 20 ?_; (first | (refine Zew rfl Zxpt ?_) | (refine Zew rfl Zxpf ?_))) | (refine Zati 2 ?_; first | refine Zes ?_ | (refine Zew rfl Zmv ?_)) | (refine Zati 3 ?_; first | refine Zes ?_ | (refine Zew rfl Zf0 ?_)) | (refine Zati 4 ?_; first | refine Zes ?_ | (refine Zew rfl (Val_loadD1 rfl (hcd _ (.drop (.drop Wk.sv0)))) ?_) | (refine Zew rfl Zld ?_)) | (refine Zati 5 ?_; first | refine Zes ?_ | (refine Zew rfl Zia ?_)) | (refine Zati 6 ?_; first | refine Zes ?_ | (refine Zew rfl (Val_loadD1 rfl (hcd _ (.drop (.drop Wk.sv0)))) ?_) | (refine Zew rfl Zld ?_)) | (refine Zati 7 ?_; first | refine Zes ?_ | (refine Zew rfl Zfa ?_)) | (refine Zati 8 ?_; first | refine Zes ?_ | (refine Zew rfl (Val_loadD1 rfl (hcd _ (.drop (.drop Wk.sv0)))) ?_) | (refine Zew rfl Zld ?_)) | (refine Zati 9 ?_; first | refine Zes ?_ | (refine Zew rfl Zyneq ?_)) | (refine Zati 10 ?_; first | refine Zes ?_ | (refine Zew rfl Zmb ?_)) | (refine Zati 11 ?_; first | refine Zes ?_ | (refine Zew rfl Zmv ?_)) | (refine Zati 12 ?_; first | refine Zes ?_ | (refine Zew rfl Zf0 ?_)) | (refine Zati 13 ?_; first | refine Zes ?_ | (refine Zew rfl (Val_loadD1 rfl (hcd _ (.drop (.drop Wk.sv0)))) ?_) | (refine Zew rfl Zld ?_)) | (refine Zati 14 ?_; first | refine Zes ?_ | (refine Zew rfl Zia ?_)) | (refine Zati 15 ?_; first | refine Zes ?_ | (refine Zew rfl (Val_loadD1 rfl (hcd _ (.drop (.drop Wk.sv0)))) ?_) | (refine Zew rfl Zld ?_)) | (refine Zati 16 ?_; first | refine Zes ?_ | (refine Zew rfl Zfa ?_)) | (refine Zati 17 ?_; first | refine Zes ?_ | (refine Zew rfl (Val_loadD1 rfl (hcd _ (.drop (.drop Wk.sv0)))) ?_) | (refine Zew rfl Zld ?_)) | (refine Zati 18 ?_; first | refine Zes ?_ | (refine Zew rfl Zyleq ?_)) | (refine Zati 19 ?_; first | refine Zes ?_ | (refine Zew rfl Zxpt ?_) | (refine Zew rfl Zxpf ?_)) | (refine Zes ?_) | (refine Zesp (fun hc => ?_) (fun hc => ?_) <;> (try (exfalso; omega))) | (with_reducible apply EWalk_nil)) | (refine GiO ?_; first | (refine AnyO_done (by kernel_rfl) ?_; (try with_reducible apply noP_normal); try with_reducible exact key.out) | (refine AnyO_1 21 (by decide +kernel) rfl ?_)) | (refine Zhn ?_) | (with_reducible apply QBlock_normal) | (refine Zhx ?_) | (with_reducible apply QBlock_hit) | (refine Zqb ?_) | (with_reducible apply QLoop_exit) | (refine AWalk_0 ?_; refine ZisO ?_) | (with_reducible apply QAny_normal))
          exact QLoop_normal (i + 1, true) (.cons rfl .nil) (by repeat (first | exact Off.frame rfl | exact Off.refl _ _ | refine Off.frameT rfl rfl ?_ | refine Off.upd rfl ?_ | refine Off.updO rfl ?_)) (by repeat (first | exact Wk.refl _ | apply Wk.keep1 | apply Wk.drop | apply Wk.sv | apply Wk.svD | apply Wk.appD)) ⟨by dsimp only; omega, by dsimp only; rw [hsn2]; simp [hle]⟩ (by dsimp only; omega)
        · repeat' (first | (refine GiP ?_; first | (refine Znh ?_) | (with_reducible refine Znl ?_) | (refine Zatn ?_; refine Zst ?_)) | (refine GiW ?_; first | (refine Zsq fun K hK => ?_) | (refine ZrN 3 fun _ => ?_; refine Zv Zylss ?_) | (refine ZrN 4 fun _ => ?_; refine Zv Zia ?_; (first | (refine Zv (Val_loadD1 rfl (hcd _ (.drop (.drop Wk.sv0)))) ?_) | (refine Zv Zla ?_)); refine Zal 9 fun b9 => ?_; refine Zst ?_) | (refine ZrN 6 fun _ => ?_; refine Zv Zxadd ?_; refine Zv Zmi ?_) | (refine WP_cond_true rfl ?_) | (refine WP_cond_false rfl ?_) | (refine Zcd (fun hc => ?_) (fun hc => ?_) <;> (try (exfalso; omega))) | (with_reducible apply WP_skip) | (with_reducible apply WP_block) | (with_reducible apply WP_exit) | (refine WP_drawn (id := 5) [0, 1, 2, 3, 4, 5, 6, 7, 8, 9, 10, 11, 12, 13, 14, 15, 16, 17, 18, 19, 20] [] (k := 1) prog_mixed (by kernel_rfl) rfl ?_; (first | (refine Zew rfl (Val_loadD1 rfl (hcd _ (.drop (.drop Wk.sv0)))) ?_) | (refine Zew rfl Zld ?_)); refine Zew rfl Zmb ?_)) | (refine GiE ?_; first | (refine Zati 20 ?_; (first | (refine Zew rfl Zxpt ?_) | (refine Zew rfl Zxpf ?_))) | (refine Zati 2 ?_; first | refine Zes ?_ | (refine Zew rfl Zmv ?_)) | (refine Zati 3 ?_; first | refine Zes ?_ | (refine Zew rfl Zf0 ?_)) | (refine Zati 4 ?_; first | refine Zes ?_ | (refine Zew rfl (Val_loadD1 rfl (hcd _ (.drop (.drop Wk.sv0)))) ?_) | (refine Zew rfl Zld ?_)) | (refine Zati 5 ?_; first | refine Zes ?_ | (refine Zew rfl Zia ?_)) | (refine Zati 6 ?_; first | refine Zes ?_ | (refine Zew rfl (Val_loadD1 rfl (hcd _ (.drop (.drop Wk.sv0)))) ?_) | (refine Zew rfl Zld ?_)) | (refine Zati 7 ?_; first | refine Zes ?_ | (refine Zew rfl Zfa ?_)) | (refine Zati 8 ?_; first | refine Zes ?_ | (refine Zew rfl (Val_loadD1 rfl (hcd _ (.drop (.drop Wk.sv0)))) ?_) | (refine Zew rfl Zld ?_)) | (refine Zati 9 ?_; first | refine Zes ?_ | (refine Zew rfl Zyneq ?_)) | (refine Zati 10 ?_; first | refine Zes ?_ | (refine Zew rfl Zmb ?_)) | (refine Zati 11 ?_; first | refine Zes ?_ | (refine Zew rfl Zmv ?_)) | (refine Zati 12 ?_; first | refine Zes ?_ | (refine Zew rfl Zf0 ?_)) | (refine Zati 13 ?_; first | refine Zes ?_ | (refine Zew rfl (Val_loadD1 rfl (hcd _ (.drop (.drop Wk.sv0)))) ?_) | (refine Zew rfl Zld ?_)) | (refine Zati 14 ?_; first | refine Zes ?_ | (refine Zew rfl Zia ?_)) | (refine Zati 15 ?_; first | refine Zes ?_ | (refine Zew rfl (Val_loadD1 rfl (hcd _ (.drop (.drop Wk.sv0)))) ?_) | (refine Zew rfl Zld ?_)) | (refine Zati 16 ?_; first | refine Zes ?_ | (refine Zew rfl Zfa ?_)) | (refine Zati 17 ?_; first | refine Zes ?_ | (refine Zew rfl (Val_loadD1 rfl (hcd _ (.drop (.drop Wk.sv0)))) ?_) | (refine Zew rfl Zld ?_)) | (refine Zati 18 ?_; first | refine Zes ?_ | (refine Zew rfl Zyleq ?_)) | (refine Zati 19 ?_; first | refine Zes ?_ | (refine Zew rfl Zxpt ?_) | (refine Zew rfl Zxpf ?_)) | (refine Zes ?_) | (refine Zesp (fun hc => ?_) (fun hc => ?_) <;> (try (exfalso; omega))) | (with_reducible apply EWalk_nil)) | (refine GiO ?_; first | (refine AnyO_done (by kernel_rfl) ?_; (try with_reducible apply noP_normal); try with_reducible exact key.out) | (refine AnyO_1 21 (by decide +kernel) rfl ?_)) | (refine Zhn ?_) | (with_reducible apply QBlock_normal) | (refine Zhx ?_) | (with_reducible apply QBlock_hit) | (refine Zqb ?_) | (with_reducible apply QLoop_exit) | (refine AWalk_0 ?_; refine ZisO ?_) | (with_reducible apply QAny_normal))
          exact QLoop_normal (i + 1, false) (.cons rfl .nil) (by repeat (first | exact Off.frame rfl | exact Off.refl _ _ | refine Off.frameT rfl rfl ?_ | refine Off.upd rfl ?_ | refine Off.updO rfl ?_)) (by repeat (first | exact Wk.refl _ | apply Wk.keep1 | apply Wk.drop | apply Wk.sv | apply Wk.svD | apply Wk.appD)) ⟨by dsimp only; omega, by dsimp only; rw [hsn2]; simp [hle]⟩ (by dsimp only; omega)
      · have hsn2 : (u && kp1 g.d nx (i + 1)) = true := by rw [hsn, Bool.true_and, if_neg (by rw [hz]; exact hzb)]; exact decide_eq_true (by dsimp only; omega)
        repeat' (first | (refine GiP ?_; first | (refine Znh ?_) | (with_reducible refine Znl ?_) | (refine Zatn ?_; refine Zst ?_)) | (refine GiW ?_; first | (refine Zsq fun K hK => ?_) | (refine ZrN 3 fun _ => ?_; refine Zv Zylss ?_) | (refine ZrN 4 fun _ => ?_; refine Zv Zia ?_; (first | (refine Zv (Val_loadD1 rfl (hcd _ (.drop (.drop Wk.sv0)))) ?_) | (refine Zv Zla ?_)); refine Zal 9 fun b9 => ?_; refine Zst ?_) | (refine ZrN 6 fun _ => ?_; refine Zv Zxadd ?_; refine Zv Zmi ?_) | (refine WP_cond_true rfl ?_) | (refine WP_cond_false rfl ?_) | (refine Zcd (fun hc => ?_) (fun hc => ?_) <;> (try (exfalso; omega))) | (with_reducible apply WP_skip) | (with_reducible apply WP_block) | (with_reducible apply WP_exit) | (refine WP_drawn (id := 5) [0, 1, 2, 3, 4, 5, 6, 7, 8, 9, 10, 11, 12, 13, 14, 15, 16, 17, 18, 19, 20] [] (k := 1) prog_mixed (by kernel_rfl) rfl ?_; (first | (refine Zew rfl (Val_loadD1 rfl (hcd _ (.drop (.drop Wk.sv0)))) ?_) | (refine Zew rfl Zld ?_)); refine Zew rfl Zmb ?_)) | (refine GiE ?_; first | (refine Zati 20 ?_; (first | (refine Zew rfl Zxpt ?_) | (refine Zew rfl Zxpf ?_))) | (refine Zati 2 ?_; first | refine Zes ?_ | (refine Zew rfl Zmv ?_)) | (refine Zati 3 ?_; first | refine Zes ?_ | (refine Zew rfl Zf0 ?_)) | (refine Zati 4 ?_; first | refine Zes ?_ | (refine Zew rfl (Val_loadD1 rfl (hcd _ (.drop (.drop Wk.sv0)))) ?_) | (refine Zew rfl Zld ?_)) | (refine Zati 5 ?_; first | refine Zes ?_ | (refine Zew rfl Zia ?_)) | (refine Zati 6 ?_; first | refine Zes ?_ | (refine Zew rfl (Val_loadD1 rfl (hcd _ (.drop (.drop Wk.sv0)))) ?_) | (refine Zew rfl Zld ?_)) | (refine Zati 7 ?_; first | refine Zes ?_ | (refine Zew rfl Zfa ?_)) | (refine Zati 8 ?_; first | refine Zes ?_ | (refine Zew rfl (Val_loadD1 rfl (hcd _ (.drop (.drop Wk.sv0)))) ?_) | (refine Zew rfl Zld ?_)) | (refine Zati 9 ?_; first | refine Zes ?_ | (refine Zew rfl Zyneq ?_)) | (refine Zati 10 ?_; first | refine Zes ?_ | (refine Zew rfl Zmb ?_)) | (refine Zati 11 ?_; first | refine Zes ?_ | (refine Zew rfl Zmv ?_)) | (refine Zati 12 ?_; first | refine Zes ?_ | (refine Zew rfl Zf0 ?_)) | (refine Zati 13 ?_; first | refine Zes ?_ | (refine Zew rfl (Val_loadD1 rfl (hcd _ (.drop (.drop Wk.sv0)))) ?_) | (refine Zew rfl Zld ?_)) | (refine Zati 14 ?_; first | refine Zes ?_ | (refine Zew rfl Zia ?_)) | (refine Zati 15 ?_; first | refine Zes ?_ | (refine Zew rfl (Val_loadD1 rfl (hcd _ (.drop (.drop Wk.sv0)))) ?_) | (refine Zew rfl Zld ?_)) | (refine Zati 16 ?_; first | refine Zes ?_ | (refine Zew rfl Zfa ?_)) | (refine Zati 17 ?_; first | refine Zes ?_ | (refine Zew rfl (Val_loadD1 rfl (hcd _ (.drop (.drop Wk.sv0)))) ?_) | (refine Zew rfl Zld ?_)) | (refine Zati 18 ?_; first | refine Zes ?_ | (refine Zew rfl Zyleq ?_)) | (refine Zati 19 ?_; first | refine Zes ?_ | (refine Zew rfl Zxpt ?_) | (refine Zew rfl Zxpf ?_)) | (refine Zes ?_) | (refine Zesp (fun hc => ?_) (fun hc => ?_) <;> (try (exfalso; omega))) | (with_reducible apply EWalk_nil)) | (refine GiO ?_; first | (refine AnyO_done (by kernel_rfl) ?_; (try with_reducible apply noP_normal); try with_reducible exact key.out) | (refine AnyO_1 21 (by decide +kernel) rfl ?_)) | (refine Zhn ?_) | (with_reducible apply QBlock_normal) | (refine Zhx ?_) | (with_reducible apply QBlock_hit) | (refine Zqb ?_) | (with_reducible apply QLoop_exit) | (refine AWalk_0 ?_; refine ZisO ?_) | (with_reducible apply QAny_normal))
        exact QLoop_normal (i + 1, true) (.cons rfl .nil) (by repeat (first | exact Off.frame rfl | exact Off.refl _ _ | refine Off.frameT rfl rfl ?_ | refine Off.upd rfl ?_ | refine Off.updO rfl ?_)) (by repeat (first | exact Wk.refl _ | apply Wk.keep1 | apply Wk.drop | apply Wk.sv | apply Wk.svD | apply Wk.appD)) ⟨by dsimp only; omega, by dsimp only; rw [hsn2]⟩ (by dsimp only; omega)
  · have hie : i = g.d.rights.length := by omega
    rw [hie] at hw
    repeat' (first | (refine GiP ?_; first | (refine Znh ?_) | (with_reducible refine Znl ?_)) | (refine GiW ?_; first | (refine Zsq fun K hK => ?_) | (refine ZrN 3 fun _ => ?_; refine Zv Zxlss ?_) | (refine WP_cond_true rfl ?_) | (refine WP_cond_false rfl ?_) | (refine Zcd (fun hc => ?_) (fun hc => ?_) <;> (try (exfalso; omega))) | (with_reducible apply WP_skip) | (with_reducible apply WP_block) | (with_reducible apply WP_exit)) | (refine Zhn ?_) | (with_reducible apply QBlock_normal) | (refine Zhx ?_) | (with_reducible apply QBlock_hit) | (refine Zqb ?_) | (with_reducible apply QLoop_exit))
    exact QBody_end0 rfl ⟨(b5, Blk 4 [.bool w]) :: X, (by repeat (first | exact Wk.refl _ | apply Wk.keep1 | apply Wk.drop | apply Wk.sv | apply Wk.svD | apply Wk.appD)), _, rfl, rfl, by rw [hw]⟩
def okS (d : Dr) (f : List Int → Bool) (k : Nat) : Bool := (((rowsD d).take k).filter (rightB d)).all f
theorem okS_yes {d : Dr} {f : List Int → Bool} {k : Nat} (hk : k < (rowsD d).length) (h : rightB d (rowsD d)[k] = true) : okS d f (k + 1) = (okS d f k && f (rowsD d)[k]) := by
  unfold okS
  rw [List.take_succ_eq_append_getElem hk, List.filter_append, List.filter_cons_of_pos h, List.all_append]
  simp
theorem okS_no {d : Dr} {f : List Int → Bool} {k : Nat} (hk : k < (rowsD d).length) (h : rightB d (rowsD d)[k] = false) : okS d f (k + 1) = okS d f k := by
  unfold okS
  rw [List.take_succ_eq_append_getElem hk, List.filter_append, List.filter_cons_of_neg (by rw [h]; simp)]
  simp
theorem okS_all (d : Dr) (f : List Int → Bool) : okS d f (rowsD d).length = (toldD d).all f := by unfold okS toldD; rw [List.take_length]
def stopF (d : Dr) (x : Nat) (lv : List Int) : Bool := keepS1 d (nxt (keepL x d.ways 0) lv)
theorem stop_on (g : Fg) (hA : DrAt N w0 g) (hv : VD g.d) (x : Nat) (hx : x < 128) (bd b3 bu b5 : Nat) (L : Hp) (md : Mem bd (Blk 29 (drL g)) L) (Au : Option Addr) (cu : Nat) (mu : Mem bu (Blk 47 [.slice Au g.d.banks.length cu]) L) (hru : ∀ L', Sub L L' → RdI N w0 L' Au (upsL g.d)) :
    OnOK N w0 g.d (fun k => (b5, Blk 4 [.bool (okS g.d (stopF g.d x) k)]) :: (b3, Blk 3 [.int .i64 x]) :: L) 34 [.pointer (some ⟨bd, 0, none⟩), .pointer (some ⟨b3, 0, none⟩), .pointer (some ⟨bu, 0, none⟩), .pointer (some ⟨b5, 0, none⟩)] where
  on := by
    intro k hk hr F A c hrd
    have hSL : Sub L (F ++ ((b3, Blk 3 [.int .i64 x]) :: L)) := .app F (.cons (Sub.refl _))
    have := stop11_core N w0 g hA hv x hx bd b3 bu b5 (F ++ ((b3, Blk 3 [.int .i64 x]) :: L)) (.app F (.there md)) (.app F .here) Au cu (.app F (.there mu)) (fun L' hL => hru L' (Sub.trans hSL hL)) (rowsD g.d)[k] (rowsD_len (List.getElem_mem hk)) A c (fun L' hL => hrd L' (Sub.trans .left hL)) (okS g.d (stopF g.d x) k)
    refine Tri.pm this List.perm_middle ?_
    rintro y L' ⟨v, rfl, rfl, rfl⟩
    refine ⟨_, List.perm_middle.symm, rfl, ?_⟩
    rw [okS_yes hk hr]; rfl
  no := by
    intro k hk hr
    rw [okS_no hk hr]
theorem stop1_ret (g : Fg) (hA : DrAt N w0 g) (hv : VD g.d) (x : Nat) (hx : x < 128) (bd bu : Nat) (L : Hp) (md : Mem bd (Blk 29 (drL g)) L) (Au : Option Addr) (cu : Nat) (mu : Mem bu (Blk 47 [.slice Au g.d.banks.length cu]) L) (hru : ∀ L', Sub L L' → RdI N w0 L' Au (upsL g.d)) :
    Ret Try.prog N w0 L 33 [.int .i64 x, .pointer (some ⟨bd, 0, none⟩), .pointer (some ⟨bu, 0, none⟩)].toArray (.bool (enoughB g.d x)) := by
  have he := fun b3 b5 => each_tri N w0 g hA hv _ 34 _ (stop_on N w0 g hA hv x hx bd b3 bu b5 L md Au cu mu hru)
  have h0 : okS g.d (stopF g.d x) 0 = true := rfl
  have h1 : okS g.d (stopF g.d x) (rowsD g.d).length = enoughB g.d x := okS_all _ _
  rw [h0, h1] at he
  refine Ret.fgt ?_
  refine tri_of_WP Try.func33 rfl (n := _) rfl (by simp) ?_
  unfold drV at he
  unfold drL at he md
  repeat' (first | (refine GiP ?_; first | (refine Znh ?_) | (with_reducible refine Znl ?_)) | (refine GiW ?_; first | (refine Zsq fun K hK => ?_) | (refine ZrN 0 fun _ => ?_; refine Zal 3 fun b3 => ?_; refine Zv Zab ?_) | (refine ZrN 1 fun _ => ?_; refine Zal 5 fun b5 => ?_; refine Zst ?_) | (refine ZrN 2 fun _ => ?_; refine Zv Zla ?_; refine Zv Val_makeFunc ?_; refine OPS_retKS (Enters_fn rfl) (he b3 b5) rfl rfl rfl (fun v8 L8 h8 => ?_); subst h8) | (refine ZrN 3 fun _ => ?_; refine Zv Zld ?_; refine Zv Zab ?_) | (with_reducible apply WP_ret)) | (refine Zhn ?_) | (refine Zhr ?_))
  exact QBody_ret1 rfl (rfl : _ = Value.bool _) ⟨rfl, (by repeat (first | exact Wk.refl _ | apply Wk.keep1 | apply Wk.drop | apply Wk.sv | apply Wk.svD | apply Wk.appD))⟩
end
end Go.Proofs.Ytbhgpnbfdjoglaa
end
