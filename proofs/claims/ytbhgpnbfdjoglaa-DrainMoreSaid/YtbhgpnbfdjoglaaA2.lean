/- Package drain: joined, lower, sums, ends. · Package drain: whether drains join two banks; where water ends. -/
import Derived.Test.YtbhgpnbfdjoglaaBs
import Derived.Test.YtbhgpnbfdjoglaaRd
import Derived.Test.YtbhgpnbfdjoglaaBt
section
namespace Go.Proofs.Ytbhgpnbfdjoglaa
open Go.RowKit
def sumS (l : List Sp) : Sp := l.foldl (fun s x => (s.1 + x.1, s.2 + x.2)) (0, 0)
theorem sumS_snoc (l : List Sp) (x : Sp) : sumS (l ++ [x]) = ((sumS l).1 + x.1, (sumS l).2 + x.2) := by
  unfold sumS
  rw [List.foldl_append]; rfl
theorem sumS_take {l : List Sp} {k : Nat} (h : k < l.length) : sumS (l.take (k + 1)) = ((sumS (l.take k)).1 + l[k].1, (sumS (l.take k)).2 + l[k].2) := by
  rw [List.take_succ_eq_append_getElem h, sumS_snoc]
theorem sumS_bd : ∀ (k : Nat) (l : List Sp), (∀ x ∈ l, (0 ≤ x.1 ∧ x.1 ≤ 1000000) ∧ 0 ≤ x.2 ∧ x.2 ≤ 1000000) → k ≤ l.length → (0 ≤ (sumS (l.take k)).1 ∧ (sumS (l.take k)).1 ≤ 1000000 * k) ∧ 0 ≤ (sumS (l.take k)).2 ∧ (sumS (l.take k)).2 ≤ 1000000 * k
  | 0, l, _, _ => by simp [sumS]
  | k + 1, l, h, hk => by
    have ih := sumS_bd k l h (by omega)
    have hx := h l[k] (List.getElem_mem (by omega))
    rw [sumS_take (by omega)]
    dsimp only
    omega
attribute [local irreducible] AnyO AnyB QAny QB EWalk AWalk Ev WP OPS QThen QBlock QScope QLoop QBody Val New Turn Tri Enters PostA Blk Ro
attribute [local irreducible] AnyC QC
section
variable (N : Nat) (w0 : World)
theorem joined_ret (L : Hp) (w : Sp) (a b : Int) : Ret Try.prog N w0 L 127 [.agg [.int .i64 w.1, .int .i64 w.2].toArray, .int .i64 a, .int .i64 b].toArray (.bool (joinB w a b)) := by
  refine Ret.fgt ?_
  refine tri_of_WP Try.func127 rfl (n := _) rfl (by simp) ?_
  repeat' (first | (refine GiP ?_; first | (refine Znh ?_) | (with_reducible refine Znl ?_) | (refine Zatd 16 ?_; (first | (refine Zv Zxpt ?_) | (refine Zv Zxpf ?_)); refine Zv Zmb ?_) | (refine Zatd 28 ?_; (first | (refine Zv Zxpt ?_) | (refine Zv Zxpf ?_)); refine Zv Zab ?_) | (refine Zatd 12 ?_; first | refine Zsk ?_ | (refine Zv Zfa ?_)) | (refine Zatd 13 ?_; first | refine Zsk ?_ | (refine Zv Zld ?_)) | (refine Zatd 14 ?_; first | refine Zsk ?_ | (refine Zv Zmi ?_)) | (refine Zatd 15 ?_; first | refine Zsk ?_ | (refine Zv Zxeql ?_)) | (refine Zatd 18 ?_; first | refine Zsk ?_ | (refine Zv Zf0 ?_)) | (refine Zatd 19 ?_; first | refine Zsk ?_ | (refine Zv Zld ?_)) | (refine Zatd 20 ?_; first | refine Zsk ?_ | (refine Zv Zmi ?_)) | (refine Zatd 21 ?_; first | refine Zsk ?_ | (refine Zv Zxeql ?_)) | (refine Zatd 22 ?_; first | refine Zsk ?_ | (refine Zv Zmb ?_)) | (refine Zatd 23 ?_; first | refine Zsk ?_ | (refine Zv Zfa ?_)) | (refine Zatd 24 ?_; first | refine Zsk ?_ | (refine Zv Zld ?_)) | (refine Zatd 25 ?_; first | refine Zsk ?_ | (refine Zv Zmi ?_)) | (refine Zatd 26 ?_; first | refine Zsk ?_ | (refine Zv Zxeql ?_)) | (refine Zatd 27 ?_; first | refine Zsk ?_ | (refine Zv Zxpt ?_) | (refine Zv Zxpf ?_)) | (refine Zsk ?_) | (refine Zsp (fun hc => ?_) (fun hc => ?_) <;> (try (exfalso; omega)))) | (refine GiW ?_; first | (refine Zsq fun K hK => ?_) | (refine ZrN 0 fun _ => ?_; refine Zal 3 fun b3 => ?_; refine Zv Zab ?_) | (refine ZrG 1 ?_; refine Zv Zf0 ?_; refine Zv Zld ?_; refine Zv Zmi ?_; refine Zv Zxeql ?_; refine Zv Zmb ?_) | (with_reducible apply WP_ret)) | (refine Zhn ?_) | (refine Zhr ?_))
  all_goals (refine QBody_ret1 rfl (rfl : _ = Value.bool _) ⟨?_, (by repeat (first | exact Wk.refl _ | apply Wk.keep1 | apply Wk.drop | apply Wk.sv | apply Wk.svD | apply Wk.appD))⟩; congr 2; rw [Bool.eq_iff_iff]; simp only [joinB, Bool.or_eq_true, Bool.and_eq_true, beq_iff_eq, true_iff, Bool.false_eq_true, false_iff]; omega)
theorem joins1_ret (L : Hp) (w : Sp) (a b : Nat) (b1 b2 : Nat) (h1 : Mem b1 (Blk 3 [.int .i64 (a : Int)]) L) (h2 : Mem b2 (Blk 3 [.int .i64 (b : Int)]) L) :
    Ret Try.prog N w0 L 126 [.agg [.int .i64 w.1, .int .i64 w.2].toArray, .pointer (some ⟨b1, 0, none⟩), .pointer (some ⟨b2, 0, none⟩)].toArray (.bool (joinB w a b)) := by
  refine Ret.fgt ?_
  refine tri_of_WP Try.func126 rfl (n := _) rfl (by simp) ?_
  repeat' (first | (refine GiP ?_; first | (refine Znh ?_) | (with_reducible refine Znl ?_)) | (refine GiW ?_; first | (refine Zsq fun K hK => ?_) | (refine ZrN 0 fun _ => ?_; refine Zal 3 fun b3 => ?_; refine Zv Zab ?_) | (refine ZrN 1 fun _ => ?_; refine Zv Zla ?_; refine Zv Zld ?_; refine Zv Zld ?_; refine Zcl (Enters_fn rfl) (joined_ret N w0 _ w a b) ?_; refine Zv Zab ?_) | (with_reducible apply WP_ret)) | (refine Zhn ?_) | (refine Zhr ?_))
  exact QBody_ret1 rfl (rfl : _ = Value.bool _) ⟨rfl, (by repeat (first | exact Wk.refl _ | apply Wk.keep1 | apply Wk.drop | apply Wk.sv | apply Wk.svD | apply Wk.appD))⟩
theorem idxW_ret (L : Hp) (A : Option Addr) (c : Nat) (l : List Sp) (hl : l.length ≤ 1000000) (hR : RdRows N w0 L A 2 (l.map spL)) (q : FuncId) [HasBody Try.prog q] (cc : List Value) (p : Sp → Bool) (nd : Hp) (hN : Sub nd L)
    (hq : ∀ x ∈ l, ∀ L', Sub nd L' → Ret Try.prog N w0 L' q (.agg (spL x).toArray :: cc).toArray (.bool (p x))) :
    Ret Try.prog N w0 L 128 [.slice A l.length c, .func (.func q) #[] cc.toArray].toArray (.int .i64 (idxP p l)) := by
  refine Ret.fgt ?_
  refine tri_of_WP Try.func128 rfl (n := 19) rfl (by simp) ?_
  repeat' (first | (refine GiP ?_; first | (refine Znh ?_) | (with_reducible refine Znl ?_)) | (refine GiW ?_; first | (refine Zsq fun K hK => ?_) | (refine ZrN 0 fun _ => ?_; refine Zv Zai ?_) | (refine ZrN 1 fun _ => ?_; refine Zv Zmv ?_; refine Zv Zxlen ?_; refine Zv Zmi ?_) | (refine ZrN 2 fun _ => ?_; refine Zv Zxlss ?_) | (refine ZrN 3 fun _ => ?_; refine Zv Zmi ?_; refine Zv Zai ?_) | (refine ZrN 4 fun _ => ?_; refine Zv Zmv ?_; refine Zv Zmv ?_; refine Zv Zmi ?_; refine Zv Zia ?_; refine Zv Zla ?_) | (refine ZrN 5 fun _ => ?_; refine Zv Zmi ?_; refine Zv Zai ?_) | (refine ZrN 6 fun _ => ?_; refine Zv Zxadd ?_; refine Zv Zmi ?_) | (refine ZrN 7 fun _ => ?_; refine Zv Zai ?_) | (refine WP_cond_true rfl ?_) | (refine WP_cond_false rfl ?_) | (refine Zcd (fun hc => ?_) (fun hc => ?_) <;> (try (exfalso; omega))) | (with_reducible apply WP_skip) | (with_reducible apply WP_block) | (with_reducible apply WP_exit) | (with_reducible apply WP_ret)) | (refine Zhn ?_) | (with_reducible apply QBlock_normal) | (refine Zhx ?_) | (with_reducible apply QBlock_hit) | (refine Zqb ?_) | (with_reducible apply QLoop_exit) | (refine Zhr ?_) | (with_reducible apply QBlock_ret) | (with_reducible apply QLoop_ret))
  refine WP_loop [4, 5, 8, 9, 10, 11, 12, 13, 14, 15, 16, 17, 18] (fun i : Nat => [(8, .int .i64 i)]) (fun _ => L) (fun i => i ≤ l.length ∧ ∀ x ∈ l.take i, p x = false) (fun i => l.length - i) 0 (.cons rfl .nil) (Wk.refl _) ⟨Nat.zero_le _, fun x hx => by simp at hx⟩ ?_
  rintro i j ⟨hi, hno⟩
  by_cases hlt : i < l.length
  · obtain ⟨b, o, hA1, hrd⟩ := hR.row i hlt
    have hcall := hq l[i] (List.getElem_mem hlt)
    obtain ⟨x, hx⟩ : ∃ x, l[i] = x := ⟨_, rfl⟩
    rw [hx] at hrd hcall
    unfold spL at hrd hcall
    repeat' (first | (refine GiP ?_; first | (refine Znh ?_) | (with_reducible refine Znl ?_)) | (refine GiW ?_; first | (refine Zsq fun K hK => ?_) | (refine ZrN 0 fun _ => ?_; refine Zv Zai ?_) | (refine ZrN 1 fun _ => ?_; refine Zv Zmv ?_; refine Zv Zxlen ?_; refine Zv Zmi ?_) | (refine ZrN 2 fun _ => ?_; refine Zv Zxlss ?_) | (refine ZrN 3 fun _ => ?_; refine Zv Zmi ?_; refine Zv Zai ?_) | (refine ZrN 4 fun _ => ?_; refine Zv Zmv ?_; refine Zv Zmv ?_; refine Zv Zmi ?_; refine Zv Zia ?_; (first | (refine Zv (Val_loadDN rfl hrd rfl) ?_) | (refine Zv Zla ?_)); refine Zcl (Enters_val rfl rfl) (hcall _ (by repeat (first | exact Sub.refl _ | assumption | exact Sub.left | apply Sub.cons | apply Sub.sv | apply Sub.app))) ?_) | (refine ZrN 5 fun _ => ?_; refine Zv Zmi ?_; refine Zv Zai ?_) | (refine ZrN 6 fun _ => ?_; refine Zv Zxadd ?_; refine Zv Zmi ?_) | (refine ZrN 7 fun _ => ?_; refine Zv Zai ?_) | (refine WP_cond_true rfl ?_) | (refine WP_cond_false rfl ?_) | (refine Zcd (fun hc => ?_) (fun hc => ?_) <;> (try (exfalso; omega))) | (with_reducible apply WP_skip) | (with_reducible apply WP_block) | (with_reducible apply WP_exit) | (with_reducible apply WP_ret)) | (refine Zhn ?_) | (with_reducible apply QBlock_normal) | (refine Zhx ?_) | (with_reducible apply QBlock_hit) | (refine Zqb ?_) | (with_reducible apply QLoop_exit) | (refine Zhr ?_) | (with_reducible apply QBlock_ret) | (with_reducible apply QLoop_ret))
    · refine QBody_ret1 rfl (rfl : _ = Value.int _ _) ⟨?_, (by repeat (first | exact Wk.refl _ | apply Wk.keep1 | apply Wk.drop | apply Wk.sv | apply Wk.svD | apply Wk.appD))⟩
      rw [idxP_some hlt (by rw [hx]; assumption) hno]
    · refine QLoop_normal (i + 1) (.cons rfl .nil) (by repeat (first | exact Off.frame rfl | exact Off.refl _ _ | refine Off.frameT rfl rfl ?_ | refine Off.upd rfl ?_ | refine Off.updO rfl ?_)) (by repeat (first | exact Wk.refl _ | apply Wk.keep1 | apply Wk.drop | apply Wk.sv | apply Wk.svD | apply Wk.appD)) ⟨by omega, ?_⟩ (by omega)
      rw [List.take_succ_eq_append_getElem hlt]
      intro y hy
      rcases List.mem_append.1 hy with hy | hy
      · exact hno y hy
      · rw [List.mem_singleton.1 hy, hx]; assumption
  · repeat' (first | (refine GiP ?_; first | (refine Znh ?_) | (with_reducible refine Znl ?_)) | (refine GiW ?_; first | (refine Zsq fun K hK => ?_) | (refine ZrN 0 fun _ => ?_; refine Zv Zai ?_) | (refine ZrN 1 fun _ => ?_; refine Zv Zmv ?_; refine Zv Zxlen ?_; refine Zv Zmi ?_) | (refine ZrN 2 fun _ => ?_; refine Zv Zxlss ?_) | (refine ZrN 3 fun _ => ?_; refine Zv Zmi ?_; refine Zv Zai ?_) | (refine ZrN 4 fun _ => ?_; refine Zv Zmv ?_; refine Zv Zmv ?_; refine Zv Zmi ?_; refine Zv Zia ?_; refine Zv Zla ?_) | (refine ZrN 5 fun _ => ?_; refine Zv Zmi ?_; refine Zv Zai ?_) | (refine ZrN 6 fun _ => ?_; refine Zv Zxadd ?_; refine Zv Zmi ?_) | (refine ZrN 7 fun _ => ?_; refine Zv Zai ?_) | (refine WP_cond_true rfl ?_) | (refine WP_cond_false rfl ?_) | (refine Zcd (fun hc => ?_) (fun hc => ?_) <;> (try (exfalso; omega))) | (with_reducible apply WP_skip) | (with_reducible apply WP_block) | (with_reducible apply WP_exit) | (with_reducible apply WP_ret)) | (refine Zhn ?_) | (with_reducible apply QBlock_normal) | (refine Zhx ?_) | (with_reducible apply QBlock_hit) | (refine Zqb ?_) | (with_reducible apply QLoop_exit) | (refine Zhr ?_) | (with_reducible apply QBlock_ret) | (with_reducible apply QLoop_ret))
    refine QBody_ret1 rfl (rfl : _ = Value.int _ _) ⟨?_, (by repeat (first | exact Wk.refl _ | apply Wk.keep1 | apply Wk.drop | apply Wk.sv | apply Wk.svD | apply Wk.appD))⟩
    rw [show i = l.length by omega, List.take_length] at hno
    rw [idxP_none hno]
theorem cntW_ret (L : Hp) (A : Option Addr) (c : Nat) (l : List Sp) (hl : l.length ≤ 1000000) (hR : RdRows N w0 L A 2 (l.map spL)) (q : FuncId) [HasBody Try.prog q] (cc : List Value) (p : Sp → Bool) (nd : Hp) (hN : Sub nd L)
    (hq : ∀ x ∈ l, ∀ L', Sub nd L' → Ret Try.prog N w0 L' q (.agg (spL x).toArray :: cc).toArray (.bool (p x))) :
    Ret Try.prog N w0 L 125 [.slice A l.length c, .func (.func q) #[] cc.toArray].toArray (.bool (l.any p)) := by
  refine tri_of_WP Try.func125 rfl (n := 9) rfl (by simp) ?_
  repeat' (first | (refine GiP ?_; first | (refine Znh ?_) | (with_reducible refine Znl ?_)) | (refine GiW ?_; first | (refine Zsq fun K hK => ?_) | (refine ZrN 0 fun _ => ?_; refine Zv Zab ?_) | (refine ZrN 1 fun _ => ?_; refine Zv Zmv ?_; refine Zv Zmv ?_; refine Zcl (Enters_fn rfl) (idxW_ret N w0 _ A c l hl hR q cc p nd (by repeat (first | exact Sub.refl _ | assumption | exact Sub.left | apply Sub.cons | apply Sub.sv | apply Sub.app)) hq) ?_; refine Zv Zxgeq ?_; refine Zv Zab ?_) | (with_reducible apply WP_ret)) | (refine Zhn ?_) | (refine Zhr ?_))
  refine QBody_ret1 rfl (rfl : _ = Value.bool _) ⟨?_, rfl⟩
  rw [← idxP_any p l]
theorem whole_ret (L : Hp) (A : Option Addr) (c : Nat) (l : List Sp) (hl : l.length ≤ 1000000) (hR : RdRows N w0 L A 2 (l.map spL)) (a b : Nat) :
    Ret Try.prog N w0 L 124 [.agg [.slice A l.length c].toArray, .int .i64 (a : Int), .int .i64 (b : Int)].toArray (.bool (adj l a b)) := by
  refine Ret.fgt ?_
  refine tri_of_WP Try.func124 rfl (n := _) rfl (by simp) ?_
  have hcn := fun b4 b5 L' hk hN => cntW_ret N w0 L' A c l hl (hR.wk hk) 126 [.pointer (some ⟨b4, 0, none⟩), .pointer (some ⟨b5, 0, none⟩)] (fun w => joinB w a b) [(b4, Blk 3 [.int .i64 (a : Int)]), (b5, Blk 3 [.int .i64 (b : Int)])] hN (fun x _ L'' h => joins1_ret N w0 L'' x a b b4 b5 (h.mem .here) (h.mem (.there .here)))
  repeat' (first | (refine GiP ?_; first | (refine Znh ?_) | (with_reducible refine Znl ?_)) | (refine GiW ?_; first | (refine Zsq fun K hK => ?_) | (refine ZrN 0 fun _ => ?_; refine Zal 3 fun b3 => ?_; refine Zal 4 fun b4 => ?_; refine Zal 5 fun b5 => ?_; refine Zv Zab ?_) | (refine ZrN 1 fun _ => ?_; refine Zv Zf0 ?_; refine Zv Zld ?_; refine Zv Val_makeFunc ?_; refine Zcl (Enters_fn rfl) (hcn b4 b5 _ (by repeat (first | exact Wk.refl _ | apply Wk.keep1 | apply Wk.drop | apply Wk.sv | apply Wk.svD | apply Wk.appD)) (by repeat (first | exact Sub.refl _ | assumption | exact Sub.left | (with_reducible refine Sub.pick (by repeat (first | exact Pick.here | apply Pick.there)) ?_) | apply Sub.cons | apply Sub.sv | apply Sub.app))) ?_; refine Zv Zab ?_) | (with_reducible apply WP_ret)) | (refine Zhn ?_) | (refine Zhr ?_))
  exact QBody_ret1 rfl (rfl : _ = Value.bool _) ⟨rfl, (by repeat (first | exact Wk.refl _ | apply Wk.keep1 | apply Wk.drop | apply Wk.sv | apply Wk.svD | apply Wk.appD))⟩
theorem lower_ret (L : Hp) (lv : List Int) (hl : lv.length = 5) (a b : Nat) (ha : a < 5) (hb : b < 5) :
    Ret Try.prog N w0 L 98 [.agg (ints lv).toArray, .int .i64 (a : Int), .int .i64 (b : Int)].toArray (.bool (decide (lvl lv a < lvl lv b))) := by
  have hg : ∀ i, i < 5 → (ints lv)[0 + i]? = some (.int .i64 (lvl lv i)) := by
    intro i hi
    unfold ints lvl
    rw [Nat.zero_add, List.getElem?_map, List.getD_eq_getElem?_getD, List.getElem?_eq_getElem (by omega)]; rfl
  have h1 := hg a ha
  have h2 := hg b hb
  have hil : (ints lv).length = 5 := by simp [ints, hl]
  refine Ret.fgt ?_
  refine tri_of_WP Try.func98 rfl (n := _) rfl (by simp) ?_
  repeat' (first | (refine GiP ?_; first | (refine Znh ?_) | (with_reducible refine Znl ?_)) | (refine GiW ?_; first | (refine Zsq fun K hK => ?_) | (refine ZrN 0 fun _ => ?_; refine Zal 3 fun b3 => ?_; refine Zv Zab ?_) | (with_reducible apply WP_ret) | (refine WP_drawn (id := 1) [0, 1, 2, 3, 4, 5, 6, 7] [] (k := 0) prog_mixed (by kernel_rfl) rfl ?_; refine Zew rfl Zmi ?_; refine Zew rfl ZiA ?_; refine Zew rfl Zld ?_; refine Zew rfl Zmi ?_; refine Zew rfl ZiA ?_; refine Zew rfl Zld ?_; refine Zew rfl Zxlss ?_; refine Zew rfl Zab ?_)) | (with_reducible apply EWalk_nil) | (refine AnyO_done (by kernel_rfl) ?_; (try with_reducible apply noP_normal); try with_reducible exact key.out) | (refine Zhn ?_) | (refine Zhr ?_) | (refine AWalk_0 ?_; refine ZisO ?_) | (with_reducible apply QAny_normal))
  exact QBody_ret1 rfl (rfl : _ = Value.bool _) ⟨rfl, (by repeat (first | exact Wk.refl _ | apply Wk.keep1 | apply Wk.drop | apply Wk.sv | apply Wk.svD | apply Wk.appD))⟩
theorem sum_ret (L : Hp) (A : Option Addr) (c : Nat) (l : List Sp) (hl : l.length ≤ 1000) (hb : ∀ x ∈ l, (0 ≤ x.1 ∧ x.1 ≤ 1000000) ∧ 0 ≤ x.2 ∧ x.2 ≤ 1000000) (hR : RdRows N w0 L A 2 (l.map spL)) :
    Ret Try.prog N w0 L 87 [.slice A l.length c].toArray (.agg [.int .i64 (sumS l).1, .int .i64 (sumS l).2].toArray) := by
  refine Ret.fgt ?_
  refine tri_of_WP Try.func87 rfl (n := _) rfl (by simp) ?_
  repeat' (first | (refine GiP ?_; first | (refine Znh ?_) | (with_reducible refine Znl ?_)) | (refine GiW ?_; first | (refine Zsq fun K hK => ?_) | (refine ZrN 0 fun _ => ?_; refine Zal 2 fun b2 => ?_) | (refine ZrN 1 fun _ => ?_; refine Zv Zmv ?_; refine Zv Zxlen ?_; refine Zv Zmi ?_) | (refine ZrN 2 fun _ => ?_; refine Zv Zxlss ?_) | (refine ZrN 3 fun _ => ?_; refine Zv Zia ?_; refine Zv Zla ?_; refine Zal 4 fun b4 => ?_; refine Zst ?_) | (refine ZrN 4 fun _ => ?_; refine Zv Zf0 ?_; refine Zv Zld ?_; refine Zv Zf0 ?_; refine Zv Zld ?_; refine Zv Zxadd ?_; refine Zv Zfa ?_; refine Zv Zld ?_; refine Zv Zfa ?_; refine Zv Zld ?_; refine Zv Zxadd ?_; refine Zv Zxbu ?_; refine Zst ?_) | (refine ZrN 5 fun _ => ?_; refine Zv Zxadd ?_; refine Zv Zmi ?_) | (refine ZrN 6 fun _ => ?_; refine Zv Zla ?_; refine Zst ?_) | (refine WP_cond_true rfl ?_) | (refine WP_cond_false rfl ?_) | (refine Zcd (fun hc => ?_) (fun hc => ?_) <;> (try (exfalso; omega))) | (with_reducible apply WP_skip) | (with_reducible apply WP_block) | (with_reducible apply WP_exit) | (with_reducible apply WP_ret)) | (refine Zhn ?_) | (with_reducible apply QBlock_normal) | (refine Zhx ?_) | (with_reducible apply QBlock_hit) | (refine Zqb ?_) | (with_reducible apply QLoop_exit) | (refine Zhr ?_) | (with_reducible apply QBlock_ret) | (with_reducible apply QLoop_ret))
  refine WP_loop [4, 7, 8, 9, 10, 11, 12, 13, 14, 15, 16, 17, 18, 19, 20, 21, 22] (fun k : Nat => [(7, .int .i64 k)]) (fun k => (b2, Blk 35 [.int .i64 (sumS (l.take k)).1, .int .i64 (sumS (l.take k)).2]) :: L) (fun k => k ≤ l.length) (fun k => l.length - k) 0 (.cons rfl .nil) (Wk.refl _) (Nat.zero_le _) ?_
  intro k j hk
  by_cases hlt : k < l.length
  · obtain ⟨b, o, hA1, hrd⟩ := hR.row k hlt
    have hst := sumS_take hlt
    have hbd := sumS_bd k l hb hk
    have hx1 := hb l[k] (List.getElem_mem hlt)
    obtain ⟨x, hx⟩ : ∃ x, l[k] = x := ⟨_, rfl⟩
    rw [hx] at hrd hst hx1
    unfold spL at hrd
    have hrd3 : ∀ L', Wk L' L → ∀ j v, [Value.int .i64 x.1, .int .i64 x.2][j]? = some v → Rd N w0 L' b (o + k * 2 + j) v := fun L' k' j v hj => (hrd j v hj).wk k'
    obtain ⟨y, hy⟩ : ∃ y, sumS (l.take k) = y := ⟨_, rfl⟩
    rw [hy] at hst hbd ⊢
    repeat' (first | (refine GiP ?_; first | (refine Znh ?_) | (with_reducible refine Znl ?_)) | (refine GiW ?_; first | (refine Zsq fun K hK => ?_) | (refine ZrN 0 fun _ => ?_; refine Zal 2 fun b2 => ?_) | (refine ZrN 1 fun _ => ?_; refine Zv Zmv ?_; refine Zv Zxlen ?_; refine Zv Zmi ?_) | (refine ZrN 2 fun _ => ?_; refine Zv Zxlss ?_) | (refine ZrN 3 fun _ => ?_; refine Zv Zia ?_; (first | (refine Zv (Val_loadDN rfl (hrd3 _ (by repeat (first | exact Wk.refl _ | apply Wk.keep1 | apply Wk.drop | apply Wk.sv | apply Wk.svD | apply Wk.appD))) rfl) ?_) | (refine Zv Zla ?_)); refine Zal 4 fun b4 => ?_; refine Zst ?_) | (refine ZrN 4 fun _ => ?_; refine Zv Zf0 ?_; (first | (refine Zv (Val_loadDN rfl (hrd3 _ (by repeat (first | exact Wk.refl _ | apply Wk.keep1 | apply Wk.drop | apply Wk.sv | apply Wk.svD | apply Wk.appD))) rfl) ?_) | (refine Zv Zld ?_)); refine Zv Zf0 ?_; (first | (refine Zv (Val_loadDN rfl (hrd3 _ (by repeat (first | exact Wk.refl _ | apply Wk.keep1 | apply Wk.drop | apply Wk.sv | apply Wk.svD | apply Wk.appD))) rfl) ?_) | (refine Zv Zld ?_)); refine Zv Zxadd ?_; refine Zv Zfa ?_; (first | (refine Zv (Val_loadDN rfl (hrd3 _ (by repeat (first | exact Wk.refl _ | apply Wk.keep1 | apply Wk.drop | apply Wk.sv | apply Wk.svD | apply Wk.appD))) rfl) ?_) | (refine Zv Zld ?_)); refine Zv Zfa ?_; (first | (refine Zv (Val_loadDN rfl (hrd3 _ (by repeat (first | exact Wk.refl _ | apply Wk.keep1 | apply Wk.drop | apply Wk.sv | apply Wk.svD | apply Wk.appD))) rfl) ?_) | (refine Zv Zld ?_)); refine Zv Zxadd ?_; refine Zv Zxbu ?_; refine Zst ?_) | (refine ZrN 5 fun _ => ?_; refine Zv Zxadd ?_; refine Zv Zmi ?_) | (refine ZrN 6 fun _ => ?_; (first | (refine Zv (Val_loadDN rfl (hrd3 _ (by repeat (first | exact Wk.refl _ | apply Wk.keep1 | apply Wk.drop | apply Wk.sv | apply Wk.svD | apply Wk.appD))) rfl) ?_) | (refine Zv Zla ?_)); refine Zst ?_) | (refine WP_cond_true rfl ?_) | (refine WP_cond_false rfl ?_) | (refine Zcd (fun hc => ?_) (fun hc => ?_) <;> (try (exfalso; omega))) | (with_reducible apply WP_skip) | (with_reducible apply WP_block) | (with_reducible apply WP_exit) | (with_reducible apply WP_ret)) | (refine Zhn ?_) | (with_reducible apply QBlock_normal) | (refine Zhx ?_) | (with_reducible apply QBlock_hit) | (refine Zqb ?_) | (with_reducible apply QLoop_exit) | (refine Zhr ?_) | (with_reducible apply QBlock_ret) | (with_reducible apply QLoop_ret))
    exact QLoop_normal (k + 1) (.cons rfl .nil) (by repeat (first | exact Off.frame rfl | exact Off.refl _ _ | refine Off.frameT rfl rfl ?_ | refine Off.upd rfl ?_ | refine Off.updO rfl ?_)) (by rw [hst]; exact (by repeat (first | exact Wk.refl _ | apply Wk.keep1 | apply Wk.drop | apply Wk.sv | apply Wk.svD | apply Wk.appD))) (by omega) (by omega)
  · repeat' (first | (refine GiP ?_; first | (refine Znh ?_) | (with_reducible refine Znl ?_)) | (refine GiW ?_; first | (refine Zsq fun K hK => ?_) | (refine ZrN 0 fun _ => ?_; refine Zal 2 fun b2 => ?_) | (refine ZrN 1 fun _ => ?_; refine Zv Zmv ?_; refine Zv Zxlen ?_; refine Zv Zmi ?_) | (refine ZrN 2 fun _ => ?_; refine Zv Zxlss ?_) | (refine ZrN 3 fun _ => ?_; refine Zv Zia ?_; refine Zv Zla ?_; refine Zal 4 fun b4 => ?_; refine Zst ?_) | (refine ZrN 4 fun _ => ?_; refine Zv Zf0 ?_; refine Zv Zld ?_; refine Zv Zf0 ?_; refine Zv Zld ?_; refine Zv Zxadd ?_; refine Zv Zfa ?_; refine Zv Zld ?_; refine Zv Zfa ?_; refine Zv Zld ?_; refine Zv Zxadd ?_; refine Zv Zxbu ?_; refine Zst ?_) | (refine ZrN 5 fun _ => ?_; refine Zv Zxadd ?_; refine Zv Zmi ?_) | (refine ZrN 6 fun _ => ?_; refine Zv Zla ?_; refine Zst ?_) | (refine WP_cond_true rfl ?_) | (refine WP_cond_false rfl ?_) | (refine Zcd (fun hc => ?_) (fun hc => ?_) <;> (try (exfalso; omega))) | (with_reducible apply WP_skip) | (with_reducible apply WP_block) | (with_reducible apply WP_exit) | (with_reducible apply WP_ret)) | (refine Zhn ?_) | (with_reducible apply QBlock_normal) | (refine Zhx ?_) | (with_reducible apply QBlock_hit) | (refine Zqb ?_) | (with_reducible apply QLoop_exit) | (refine Zhr ?_) | (with_reducible apply QBlock_ret) | (with_reducible apply QLoop_ret))
    refine QBody_res rfl (.cellN rfl (by repeat (first | exact Mem.here | assumption | apply Mem.there | apply Mem.sv | apply Mem.app)) (.here (.cons (.cons .nil))) .nil) rfl ⟨?_, (by repeat (first | exact Wk.refl _ | apply Wk.keep1 | apply Wk.drop | apply Wk.sv | apply Wk.svD | apply Wk.appD))⟩
    rw [show k = l.length by omega, List.take_length]; rfl
end
end Go.Proofs.Ytbhgpnbfdjoglaa
end

section
namespace Go.Proofs.Ytbhgpnbfdjoglaa
open Go.RowKit
theorem adj_keep_snoc {stop : Nat} {l : List Sp} {k : Nat} (hk : k < l.length) (a b : Nat) : adj (keepL stop (l.take (k + 1)) 0) a b = (adj (keepL stop (l.take k) 0) a b || (decide (stop / 2 ^ k % 2 = 0) && joinB l[k] a b)) := by
  rw [List.take_succ_eq_append_getElem hk, keepL_snoc, List.length_take, Nat.min_eq_left (by omega), Nat.zero_add]
  unfold adj
  rw [List.any_append]
  have h : stop / 2 ^ k % 2 = 1 ∨ stop / 2 ^ k % 2 = 0 := by omega
  rcases h with h | h
  · rw [if_pos h]; simp [h]
  · rw [if_neg (by omega)]; simp [h]
theorem adj_keep_mono {stop : Nat} {l : List Sp} {k : Nat} (hk : k < l.length) {a b : Nat} (h1 : stop / 2 ^ k % 2 = 0) (h2 : joinB l[k] a b = true) : adj (keepL stop l 0) a b = true := by
  unfold adj
  rw [List.any_eq_true]
  exact ⟨l[k], keepL_mem.2 ⟨k, List.getElem?_eq_getElem hk, by rw [Nat.zero_add]; omega⟩, h2⟩
/-- A course, as it lies. -/
def crs (n : Nat) (nx : Nat → Option Nat) : List Value := ints ((List.range n).map fun x => codeO (nx x))
theorem crs_get {n : Nat} {nx : Nat → Option Nat} {i : Nat} (h : i < n) : (crs n nx)[0 + i]? = some (.int .i64 (codeO (nx i))) := by
  unfold crs ints
  rw [Nat.zero_add, List.getElem?_map, List.getElem?_map, List.getElem?_range h]; rfl
section
variable {n : Nat} {nx : Nat → Option Nat} {l : Nat → Int} (hd : ∀ x y, nx x = some y → y < n ∧ l y < l x)
include hd
theorem endN_step {x y : Nat} (hx : x < n) (h : nx x = some y) : endN n nx x = endN n nx y := by
  have h1 := hd x y h
  have h2 := dnR_lt h1.1 h1.2
  have h3 := dnR_n (l := l) hx
  obtain ⟨m, rfl⟩ : ∃ m, n = m + 1 := ⟨n - 1, by omega⟩
  show (match nx x with | none => x | some y => endF nx m y) = _
  rw [h]
  exact endF_fuel hd m (m + 1) y (by omega) (by omega)
omit hd in
theorem endN_stop {x : Nat} (h : nx x = none) : endN n nx x = x := by
  unfold endN
  cases n with
  | zero => rfl
  | succ m => unfold endF; rw [h]
end
attribute [local irreducible] AnyO AnyB QAny QB EWalk AWalk Ev WP OPS QThen QBlock QScope QLoop QBody Val New Turn Tri Enters PostA Blk Ro
attribute [local irreducible] AnyC QC
section
variable (N : Nat) (w0 : World)
theorem end_ret (L : Hp) (n : Nat) (_ : n ≤ 1000) (nx : Nat → Option Nat) (l : Nat → Int) (hd : ∀ x y, nx x = some y → y < n ∧ l y < l x) (b : Nat) (hm : Mem b (Blk 3 (crs n nx)) L) (x : Nat) (hx : x < n) :
    Ret Try.prog N w0 L 46 [.slice (some ⟨b, 0, none⟩) n n, .int .i64 (x : Int)].toArray (.int .i64 (endN n nx x : Int)) := by
  refine tri_of_WP Try.func46 rfl (n := _) rfl (by simp) ?_
  repeat' (first | (refine Znh ?_) | (refine GiW ?_; first | (refine Zsq fun K hK => ?_) | (refine ZrN 0 fun _ => ?_; refine Zv Zai ?_) | (with_reducible apply WP_block)))
  refine WP_loop [1, 5, 6, 7, 8, 9, 10, 11, 12, 13] (fun y : Nat => [(1, .int .i64 (y : Int))]) (fun _ => L) (fun y => y < n ∧ endN n nx y = endN n nx x) (fun y => dnR n l y) x (.cons rfl .nil) (Wk.refl _) ⟨hx, rfl⟩ ?_
  rintro y j ⟨hy, he⟩
  have hc := crs_get (nx := nx) hy
  cases hz : nx y with
  | none =>
    rw [hz] at hc
    have hs := endN_stop (n := n) hz
    rw [he] at hs
    unfold codeO at hc
    repeat' (first | (refine Znh ?_) | (refine GiW ?_; first | (refine Zsq fun K hK => ?_) | (refine ZrN 1 fun _ => ?_; refine Zv Zmv ?_; refine Zv Zmi ?_; refine Zv Zia ?_; refine Zv Zld ?_; refine Zv Zxneq ?_) | (refine ZrN 3 fun _ => ?_; refine Zv Zmi ?_; refine Zv Zai ?_) | (refine WP_cond_false rfl ?_) | (with_reducible apply WP_exit) | (with_reducible apply WP_ret)) | (refine Zhn ?_) | (refine Zhx ?_) | (with_reducible apply QBlock_hit) | (with_reducible apply QLoop_exit))
    exact QBody_ret1 rfl (rfl : _ = Value.int _ _) ⟨by rw [hs], rfl⟩
  | some z =>
    rw [hz] at hc
    have h1 := hd y z hz
    have h2 := dnR_lt h1.1 h1.2
    have hs := endN_step hd hy hz
    unfold codeO at hc
    repeat' (first | (refine GiP ?_; first | (refine Znh ?_) | (with_reducible refine Znl ?_)) | (refine GiW ?_; first | (refine Zsq fun K hK => ?_) | (refine ZrN 1 fun _ => ?_; refine Zv Zmv ?_; refine Zv Zmi ?_; refine Zv Zia ?_; refine Zv Zld ?_; refine Zv Zxneq ?_) | (refine ZrN 2 fun _ => ?_; refine Zv Zmv ?_; refine Zv Zmi ?_; refine Zv Zia ?_; refine Zv Zld ?_; refine Zv Zai ?_) | (refine WP_cond_true rfl ?_) | (with_reducible apply WP_skip) | (with_reducible apply WP_block)) | (refine Zhn ?_) | (with_reducible apply QBlock_normal))
    exact QLoop_normal z (.cons rfl .nil) (by repeat (first | exact Off.frame rfl | exact Off.refl _ _ | refine Off.frameT rfl rfl ?_ | refine Off.upd rfl ?_ | refine Off.updO rfl ?_)) (by repeat (first | exact Wk.refl _ | apply Wk.keep1 | apply Wk.drop | apply Wk.sv | apply Wk.svD | apply Wk.appD)) ⟨h1.1, by rw [← hs, he]⟩ h2
theorem some_ret (L : Hp) (A : Option Addr) (c : Nat) (l : List Sp) (hl : l.length ≤ 60) (hR : RdRows N w0 L A 2 (l.map spL)) (stop : Nat) (hs : stop < 2 ^ 64) (a b : Nat) :
    Ret Try.prog N w0 L 129 [.agg [.slice A l.length c, .int .u64 (stop : Int)].toArray, .int .i64 (a : Int), .int .i64 (b : Int)].toArray (.bool (adj (keepL stop l 0) a b)) := by
  refine Ret.fgt ?_
  refine tri_of_WP Try.func129 rfl (n := _) rfl (by simp) ?_
  by_cases h0 : stop = 0
  · subst h0
    rw [keepL_zero]
    have hw := fun L' hk => whole_ret N w0 L' A c l (by omega) (hR.wk hk) a b
    repeat' (first | (refine Znh ?_) | (refine GiW ?_; first | (refine Zsq fun K hK => ?_) | (refine ZrN 0 fun _ => ?_; refine Zal 3 fun b3 => ?_; refine Zv Zab ?_) | (refine ZrN 1 fun _ => ?_; refine Zv Zfa ?_; refine Zv Zld ?_; refine Zv Zxeql ?_) | (refine ZrN 2 fun _ => ?_; refine Zv Zf0 ?_; refine Zv Zla ?_; refine Zv Zmi ?_; refine Zv Zmi ?_; refine Zcl (Enters_fn rfl) (hw _ (by repeat (first | exact Wk.refl _ | apply Wk.keep1 | apply Wk.drop | apply Wk.sv | apply Wk.svD | apply Wk.appD))) ?_; refine Zv Zab ?_) | (refine WP_cond_true rfl ?_) | (with_reducible apply WP_ret)) | (refine Zhr ?_))
    · exact QBody_ret1 rfl (rfl : _ = Value.bool _) ⟨rfl, (by repeat (first | exact Wk.refl _ | apply Wk.keep1 | apply Wk.drop | apply Wk.sv | apply Wk.svD | apply Wk.appD))⟩
    all_goals (exfalso; simp_all; done)
  repeat' (first | (refine Znh ?_) | (refine GiW ?_; first | (refine Zsq fun K hK => ?_) | (refine ZrN 0 fun _ => ?_; refine Zal 3 fun b3 => ?_; refine Zv Zab ?_) | (refine ZrN 1 fun _ => ?_; refine Zv Zfa ?_; refine Zv Zld ?_; refine Zv Zxeql ?_) | (refine Zcd (fun hc => ?_) (fun hc => ?_) <;> (try (exfalso; omega))) | (with_reducible apply WP_skip)) | (refine Zhn ?_))
  repeat' (first | (refine Znh ?_) | (refine GiW ?_; first | (refine ZrN 3 fun _ => ?_; refine Zv Zf0 ?_; refine Zv Zf0 ?_; refine Zv Zld ?_; refine Zv Zxlen ?_; refine Zv Zmi ?_) | (with_reducible apply WP_block)))
  refine WP_loop [6, 7, 8, 21, 22, 23, 24, 25, 26, 27, 28, 29, 30, 31, 32, 33, 34, 35, 36, 37, 38] (fun k : Nat => [(21, .int .i64 k)]) (fun _ => (b3, Blk 139 [.slice A l.length c, .int .u64 (stop : Int)]) :: L) (fun k => k ≤ l.length ∧ adj (keepL stop (l.take k) 0) a b = false) (fun k => l.length - k) 0 (.cons rfl .nil) (Wk.refl _) ⟨Nat.zero_le _, rfl⟩ ?_
  rintro k j ⟨hk, hno⟩
  by_cases hlt : k < l.length
  · obtain ⟨bA, oA, hA1, hrd⟩ := hR.row k hlt
    have hsn := adj_keep_snoc (stop := stop) hlt a b
    have hmo := fun h1 h2 => adj_keep_mono (stop := stop) hlt (a := a) (b := b) h1 h2
    obtain ⟨x, hx⟩ : ∃ x, l[k] = x := ⟨_, rfl⟩
    rw [hx] at hrd hsn hmo
    rw [hno, Bool.false_or] at hsn
    unfold spL at hrd
    have hrd3 : ∀ L', Wk L' L → ∀ j v, [Value.int .i64 x.1, .int .i64 x.2][j]? = some v → Rd N w0 L' bA (oA + k * 2 + j) v := fun L' k' j v hj => (hrd j v hj).wk k'
    have hq : stop / 2 ^ k < 2 ^ 64 := Nat.lt_of_le_of_lt (Nat.div_le_self _ _) hs
    obtain ⟨q, hqe⟩ : ∃ q, stop / 2 ^ k = q := ⟨_, rfl⟩
    have hshr : ∀ {L e d ty pos af g x y' t t'} (hx : ev e x = .int .u64 (stop : Int)) (hy : ev e y' = .int .i64 (k : Int)), Val Try.prog N w0 L e ⟨d, .binOp .shr t x y' t', ty, pos, af, g⟩ (.int .u64 (q : Int)) := by
      intro L e d ty pos af g x y' t t' hx hy
      have := Val_shr (P := Try.prog) (N := N) (w0 := w0) (L := L) (d := d) (ty := ty) (pos := pos) (af := af) (g := g) (t := t) (t' := t') (a := stop) (i := k) hx hy (by show k ≤ 64; omega)
      rw [hqe] at this
      exact this
    rw [hqe] at hsn hq
    rw [hqe] at hmo
    repeat' (first | (refine GiP ?_; first | (refine Znh ?_) | (with_reducible refine Znl ?_) | (refine Zatd 37 ?_; (first | (refine Zv Zxpt ?_) | (refine Zv Zxpf ?_))) | (refine Zatd 33 ?_; first | refine Zsk ?_ | (refine Zv (Val_loadDN rfl (hrd3 _ (by repeat (first | exact Wk.refl _ | apply Wk.keep1 | apply Wk.drop | apply Wk.sv | apply Wk.svD | apply Wk.appD))) rfl) ?_) | (refine Zv Zla ?_)) | (refine Zatd 34 ?_; first | refine Zsk ?_ | (refine Zv Zmi ?_)) | (refine Zatd 35 ?_; first | refine Zsk ?_ | (refine Zv Zmi ?_)) | (refine Zatd 36 ?_; first | refine Zsk ?_ | (refine Zcl (Enters_fn rfl) (joined_ret N w0 _ x a b) ?_)) | (refine Zsp (fun hc => ?_) (fun hc => ?_) <;> (try (exfalso; omega)))) | (refine GiW ?_; first | (refine Zsq fun K hK => ?_) | (refine ZrN 4 fun _ => ?_; refine Zv Zxlss ?_) | (refine ZrN 5 fun _ => ?_; refine Zv Zmi ?_; refine Zv Zia ?_; (first | (refine Zv (Val_loadDN rfl (hrd3 _ (by repeat (first | exact Wk.refl _ | apply Wk.keep1 | apply Wk.drop | apply Wk.sv | apply Wk.svD | apply Wk.appD))) rfl) ?_) | (refine Zv Zla ?_)); refine Zal 8 fun b8 => ?_; refine Zv Zai ?_; refine Zst ?_) | (refine ZrG 6 ?_; refine Zv Zfa ?_; (first | (refine Zv (Val_loadDN rfl (hrd3 _ (by repeat (first | exact Wk.refl _ | apply Wk.keep1 | apply Wk.drop | apply Wk.sv | apply Wk.svD | apply Wk.appD))) rfl) ?_) | (refine Zv Zld ?_)); refine Zv Zmi ?_; refine Zv (hshr rfl rfl) ?_; refine Zv (Val_and1 rfl rfl hq) ?_; refine Zv Zxeql ?_; refine Zv Zmb ?_) | (refine ZrN 7 fun _ => ?_; refine Zv Zab ?_) | (refine ZrN 8 fun _ => ?_; refine Zv Zxadd ?_; refine Zv Zmi ?_) | (refine WP_cond_false rfl ?_) | (refine Zcd (fun hc => ?_) (fun hc => ?_) <;> (try (exfalso; omega))) | (with_reducible apply WP_skip) | (with_reducible apply WP_block) | (with_reducible apply WP_ret)) | (refine Zhn ?_) | (with_reducible apply QBlock_normal) | (refine Zhr ?_) | (with_reducible apply QBlock_ret) | (with_reducible apply QLoop_ret))
    · refine QBody_ret1 rfl (rfl : _ = Value.bool _) ⟨?_, (by repeat (first | exact Wk.refl _ | apply Wk.keep1 | apply Wk.drop | apply Wk.sv | apply Wk.svD | apply Wk.appD))⟩
      rw [hmo (by omega) (by assumption)]
    · exact QLoop_normal (k + 1) (.cons rfl .nil) (by repeat (first | exact Off.frame rfl | exact Off.refl _ _ | refine Off.frameT rfl rfl ?_ | refine Off.upd rfl ?_ | refine Off.updO rfl ?_)) (by repeat (first | exact Wk.refl _ | apply Wk.keep1 | apply Wk.drop | apply Wk.sv | apply Wk.svD | apply Wk.appD)) ⟨by omega, by rw [hsn]; simp [*]⟩ (by omega)
    · exact QLoop_normal (k + 1) (.cons rfl .nil) (by repeat (first | exact Off.frame rfl | exact Off.refl _ _ | refine Off.frameT rfl rfl ?_ | refine Off.upd rfl ?_ | refine Off.updO rfl ?_)) (by repeat (first | exact Wk.refl _ | apply Wk.keep1 | apply Wk.drop | apply Wk.sv | apply Wk.svD | apply Wk.appD)) ⟨by omega, by rw [hsn]; rw [decide_eq_false (by omega)]; rfl⟩ (by omega)
  · repeat' (first | (refine Znh ?_) | (refine GiW ?_; first | (refine Zsq fun K hK => ?_) | (refine ZrN 4 fun _ => ?_; refine Zv Zxlss ?_) | (refine ZrN 9 fun _ => ?_; refine Zv Zab ?_) | (refine Zcd (fun hc => ?_) (fun hc => ?_) <;> (try (exfalso; omega))) | (with_reducible apply WP_exit) | (with_reducible apply WP_ret)) | (refine Zhn ?_) | (refine Zhx ?_) | (with_reducible apply QBlock_hit) | (with_reducible apply QLoop_exit))
    refine QBody_ret1 rfl (rfl : _ = Value.bool _) ⟨?_, (by repeat (first | exact Wk.refl _ | apply Wk.keep1 | apply Wk.drop | apply Wk.sv | apply Wk.svD | apply Wk.appD))⟩
    rw [show k = l.length by omega, List.take_length] at hno
    rw [hno]
end
end Go.Proofs.Ytbhgpnbfdjoglaa
end
