/- Package heap: what is opened. · Package heap: how its functions leave. · Package heap: its exported functions: wetness, rain. · Package heap: its exported functions: rain. · Package heap: its exported functions: whether a heap is dry. · Package heap: its exported functions: when a heap is dry. · Package heap: its exported functions: when all heaps are dry. · Package heap: its exported functions: of which heap least is known. · Package heap: which looks must be false: the sets that there are. · Package heap: its exported functions: which looks must be false, which clash. -/
import Derived.Test.YtlpahkmfjpjheaaM5
import Derived.Test.YtlpahkmfjpjheaaM3
import Derived.Test.YtlpahkmfjpjheaaM2
section
namespace Go.Proofs.Ytlpahkmfjpjheaa
open Go.RowKit
section
variable {r : Option Nat} {n N : Nat} {w0 : World} {L : Hp} {e : Env} {d : Nat} {op : Op} {ty : TypeId} {pos : String} {af : Array Edge} {g : Option (Nat × Bool)} {ops : Array Oper} {rest : List Oper} {Q : Post} {ds : List Deferred}
/-- What must be: it goes on, or all ends. -/
theorem OPS_must {b : Bool} {k : Int} (hv : Enters Try.prog e ⟨some d, op, ty, pos, af, g⟩ 82 [.bool b, .int .i64 k].toArray) (hg : Region.wanted ⟨some d, op, ty, pos, af, g⟩ (yieldE ops e) = true) (hnd : isDefer op = false) (hd : Nat.blt d n = true)
    (h1 : b = true → OPS Try.prog r n N w0 ops rest Q (upd e d (.tuple #[])) ds L) (h0 : b = false → Q (.panic (stopE k)) e ds L) : OPS Try.prog r n N w0 ops (⟨some d, op, ty, pos, af, g⟩ :: rest) Q e ds L := by
  cases b with
  | true => exact OPS_retS hv (must_ok N w0 L k) hg hnd hd (h1 rfl)
  | false => exact OPS_pan hv (must_no N w0 L k) hg hnd (h0 rfl)
end
attribute [local irreducible] AnyO AnyB QAny QB EWalk AWalk Ev WP OPS QThen QBlock QScope QLoop QBody Val New Turn Tri Enters PostA Blk Ro
section
variable (N : Nat) (w0 : World)
set_option maxHeartbeats 4000000 in
theorem open_tri (L : Hp) (g : Bg) (hA : HeapAt N w0 g) (ok : Bool) (q : FuncId) [HasBody Try.prog q] (cc : List Value) (nd : Hp) (hN : Sub nd L)
    (hq : ∀ b m L', Sub ((b, Blk 94 (bogL { g with b := b, m := m })) :: nd) L' → VH g.h → Ret Try.prog N w0 L' q (.pointer (some ⟨b, 0, none⟩) :: cc).toArray (.bool ok)) :
    Tri Try.prog N w0 L 47 [heapV g, .func (.func q) #[] cc.toArray].toArray fun x L' => (vB g.h = true ∧ ok = true ∧ ∃ b m, x = .returned (.pointer (some ⟨b, 0, none⟩)) ∧ L' = Bk { g with b := b, m := m } ++ L) ∨ (vB g.h = true ∧ ok = false ∧ x = .panicked (stopE 2) ∧ L' = L) ∨ (vB g.h = false ∧ x = .panicked (stopE 1) ∧ L' = L) := by
  refine Tri.fgt ?_
  refine tri_of_WP Try.func47 rfl (n := 113) rfl (by simp) ?_
  unfold heapV hvL
  repeat' (first | (refine GiP ?_; first | (refine Znh ?_) | (refine Zatd 25 ?_; (first | (refine Zv Zxpt ?_) | (refine Zv Zxpf ?_)); refine Zv Zmb ?_) | (refine Zatd 30 ?_; (first | (refine Zv Zxpt ?_) | (refine Zv Zxpf ?_)); refine Zv Zmb ?_) | (refine Zatd 36 ?_; (first | (refine Zv Zxpt ?_) | (refine Zv Zxpf ?_)); (refine OPS_must (Enters_fn rfl) rfl rfl rfl (fun hc => ?_) (fun hc => ?_) <;> (try (exfalso; simp at hc; done)))) | (refine Zatd 21 ?_; refine Zv Zfa ?_) | (refine Zatd 22 ?_; refine Zv Zld ?_) | (refine Zatd 23 ?_; refine Zv Zxlen ?_) | (refine Zatd 24 ?_; refine Zcl (Enters_fn rfl) (within_ret N w0 _ _ _ _) ?_) | (refine Zatd 27 ?_; refine Zv Zfa ?_) | (refine Zatd 28 ?_; refine Zv Zld ?_) | (refine Zatd 29 ?_; refine Zcl (Enters_fn rfl) (within_ret N w0 _ _ _ _) ?_) | (refine Zatd 32 ?_; refine Zv Zfa ?_) | (refine Zatd 33 ?_; refine Zv Zld ?_) | (refine Zatd 34 ?_; refine Zv Zxlen ?_) | (refine Zatd 35 ?_; refine Zv Zxleq ?_) | (refine Zsk ?_) | (refine Zsp (fun hc => ?_) (fun hc => ?_) <;> (try (exfalso; omega)))) | (refine GiW ?_; first | (refine Zsq fun K hK => ?_) | (refine ZrN 0 fun _ => ?_; refine Zal 2 fun b2 => ?_; refine Zv Zav ?_) | (refine ZrN 1 fun _ => ?_; refine Zv Zav ?_) | (refine ZrG 2 ?_; refine Zv Zf0 ?_; refine Zv Zld ?_; refine Zv Zxlen ?_; refine Zcl (Enters_fn rfl) (within_ret N w0 _ _ _ _) ?_; refine Zv Zmb ?_) | (refine ZrN 3 fun _ => ?_; refine Zv Zf0 ?_; refine Zv Zld ?_; refine Zv Zxlen ?_; refine Zv Zmi ?_) | (with_reducible apply WP_block)) | (refine Zhp ?_))
  case refine_2.refine_2 => exact QBody_panic ⟨L, (by repeat (first | exact Wk.refl _ | apply Wk.keep1 | apply Wk.drop | apply Wk.sv | apply Wk.svD | apply Wk.appD)), .inr (.inr ⟨vB_num (by simp [numB, *]), rfl, rfl⟩)⟩
  case refine_1.refine_2.refine_2 => exact QBody_panic ⟨L, (by repeat (first | exact Wk.refl _ | apply Wk.keep1 | apply Wk.drop | apply Wk.sv | apply Wk.svD | apply Wk.appD)), .inr (.inr ⟨vB_num (by simp [numB, *]), rfl, rfl⟩)⟩
  case refine_1.refine_1.refine_2.refine_2 => exact QBody_panic ⟨L, (by repeat (first | exact Wk.refl _ | apply Wk.keep1 | apply Wk.drop | apply Wk.sv | apply Wk.svD | apply Wk.appD)), .inr (.inr ⟨vB_num (by simp [numB, *]), rfl, rfl⟩)⟩
  case refine_1.refine_1.refine_1.refine_2 => exact QBody_panic ⟨L, (by repeat (first | exact Wk.refl _ | apply Wk.keep1 | apply Wk.drop | apply Wk.sv | apply Wk.svD | apply Wk.appD)), .inr (.inr ⟨vB_num (by unfold numB; rw [Bool.and_eq_false_iff]; right; simp only [decide_eq_false_iff_not] at hc ⊢; omega), rfl, rfl⟩)⟩
  have hnum : numB g.h = true := by
    unfold numB
    simp only [Bool.and_eq_true]
    refine ⟨⟨⟨by assumption, by assumption⟩, by assumption⟩, ?_⟩
    rw [decide_eq_true_eq] at hc ⊢; omega
  clear hc
  have hnb := hnum
  simp only [numB, within, Bool.and_eq_true, decide_eq_true_eq] at hnb
  refine WP_loop [7, 41, 42, 43, 44, 45, 46, 47, 48, 49, 50, 51, 52, 53, 54, 55] (fun k : Nat => [(41, .int .i64 k)]) (fun _ => (b2, Blk 27 (hvL g)) :: L) (fun k => k ≤ g.h.heaps.length ∧ (g.h.heaps.take k).all tfB = true) (fun k => g.h.heaps.length - k) 0 (.cons rfl .nil) (Wk.refl _) ⟨Nat.zero_le _, rfl⟩ ?_
  rintro k j ⟨hk, hall⟩
  unfold hvL
  by_cases hlt : k < g.h.heaps.length
  · obtain ⟨bA, oA, hA1, hbA, hcA⟩ := hA.heaps.row k hlt
    obtain ⟨t, ht⟩ : ∃ t, g.h.heaps[k] = t := ⟨_, rfl⟩
    have htm : t ∈ g.h.heaps := by rw [← ht]; exact List.getElem_mem hlt
    rw [ht] at hcA
    repeat' (first | (refine GiP ?_; first | (refine Znh ?_) | (with_reducible refine Znl ?_) | (refine Zatd 53 ?_; (first | (refine Zv Zxpt ?_) | (refine Zv Zxpf ?_)); (refine OPS_must (Enters_fn rfl) rfl rfl rfl (fun hc => ?_) (fun hc => ?_) <;> (try (exfalso; simp at hc; done)))) | (refine Zatd 49 ?_; refine Zv Zmv ?_) | (refine Zatd 50 ?_; refine Zv Zfa ?_) | (refine Zatd 51 ?_; refine Zv Zla ?_) | (refine Zatd 52 ?_; refine Zcl (Enters_val rfl rfl) (isSpan_ret N w0 _ (t.lo, t.hi) _ _ (by intro a b c; dsimp only at *; exact InK_i64 (by omega) (by omega))) ?_) | (refine Zsk ?_) | (refine Zsp (fun hc => ?_) (fun hc => ?_) <;> (try (exfalso; omega)))) | (refine GiW ?_; first | (refine Zsq fun K hK => ?_) | (refine ZrN 4 fun _ => ?_; refine Zv Zxlss ?_) | (refine ZrN 5 fun _ => ?_; refine Zv Zia ?_; refine Zv Zla ?_; refine Zal 7 fun b7 => ?_; refine Zst ?_) | (refine ZrG 6 ?_; refine Zv Zf0 ?_; refine Zv Zld ?_; refine Zcl (Enters_fn rfl) (within_ret N w0 _ _ _ _) ?_; refine Zv Zmb ?_) | (refine ZrN 7 fun _ => ?_; refine Zv Zxadd ?_; refine Zv Zmi ?_) | (refine Zcd (fun hc => ?_) (fun hc => ?_) <;> (try (exfalso; omega))) | (with_reducible apply WP_skip) | (with_reducible apply WP_block)) | (refine Zhn ?_) | (with_reducible apply QBlock_normal) | (refine Zhp ?_) | (with_reducible apply QBlock_panic) | (with_reducible apply QLoop_panic))
    · exact QLoop_normal (k + 1) (.cons rfl .nil) (by repeat (first | exact Off.frame rfl | exact Off.refl _ _ | refine Off.frameT rfl rfl ?_ | refine Off.upd rfl ?_ | refine Off.updO rfl ?_)) (by repeat (first | exact Wk.refl _ | apply Wk.keep1 | apply Wk.drop | apply Wk.sv | apply Wk.svD | apply Wk.appD)) ⟨by omega, all_snoc hlt hall (by rw [ht]; simp [tfB, *])⟩ (by omega)
    · exact QBody_panic ⟨L, (by repeat (first | exact Wk.refl _ | apply Wk.keep1 | apply Wk.drop | apply Wk.sv | apply Wk.svD | apply Wk.appD)), .inr (.inr ⟨vB_tf htm (by simp [tfB, *]), rfl, rfl⟩)⟩
    · exact QBody_panic ⟨L, (by repeat (first | exact Wk.refl _ | apply Wk.keep1 | apply Wk.drop | apply Wk.sv | apply Wk.svD | apply Wk.appD)), .inr (.inr ⟨vB_tf htm (by simp [tfB, *]), rfl, rfl⟩)⟩
  have hheaps : g.h.heaps.all tfB = true := by rw [show k = g.h.heaps.length by omega, List.take_length] at hall; exact hall
  repeat' (first | (refine Znh ?_) | (refine GiW ?_; first | (refine Zsq fun K hK => ?_) | (refine ZrN 4 fun _ => ?_; refine Zv Zxlss ?_) | (refine ZrN 8 fun _ => ?_; refine Zv Zfa ?_; refine Zv Zld ?_; refine Zv Zxlen ?_; refine Zv Zmi ?_) | (refine Zcd (fun hc => ?_) (fun hc => ?_) <;> (try (exfalso; omega))) | (with_reducible apply WP_block) | (with_reducible apply WP_exit)) | (refine Zhn ?_) | (refine Zhx ?_) | (with_reducible apply QBlock_hit) | (with_reducible apply QLoop_exit))
  refine WP_loop [9, 59, 60, 61, 62, 63, 64, 65, 66, 67] (fun k : Nat => [(59, .int .i64 k)]) (fun _ => (b2, Blk 27 (hvL g)) :: L) (fun k => k ≤ g.h.rains.length ∧ (g.h.rains.take k).all (fun s => isSpanB s 10 3) = true) (fun k => g.h.rains.length - k) 0 (.cons rfl .nil) (Wk.refl _) ⟨Nat.zero_le _, rfl⟩ ?_
  clear hall hk hlt
  rintro k j2 ⟨hk, hall⟩
  unfold hvL
  by_cases hlt : k < g.h.rains.length
  · obtain ⟨bA, oA, hA2, hbA, hcA⟩ := hA.rains.row k hlt
    obtain ⟨t, ht⟩ : ∃ t, g.h.rains[k] = t := ⟨_, rfl⟩
    have htm : t ∈ g.h.rains := by rw [← ht]; exact List.getElem_mem hlt
    rw [ht] at hcA
    repeat' (first | (refine GiP ?_; first | (refine Znh ?_) | (with_reducible refine Znl ?_)) | (refine GiW ?_; first | (refine Zsq fun K hK => ?_) | (refine ZrN 9 fun _ => ?_; refine Zv Zxlss ?_) | (refine ZrN 10 fun _ => ?_; refine Zv Zia ?_; refine Zv Zla ?_; refine Zal 9 fun b9 => ?_; refine Zst ?_) | (refine ZrN 11 fun _ => ?_; refine Zv Zmv ?_; refine Zv Zla ?_; refine Zcl (Enters_val rfl rfl) (isSpan_ret N w0 _ t _ _ (by intro a b c; exact InK_i64 (by omega) (by omega))) ?_; (refine OPS_must (Enters_fn rfl) rfl rfl rfl (fun hc => ?_) (fun hc => ?_) <;> (try (exfalso; simp at hc; done)))) | (refine ZrN 12 fun _ => ?_; refine Zv Zxadd ?_; refine Zv Zmi ?_) | (refine Zcd (fun hc => ?_) (fun hc => ?_) <;> (try (exfalso; omega))) | (with_reducible apply WP_skip) | (with_reducible apply WP_block)) | (refine Zhn ?_) | (with_reducible apply QBlock_normal) | (refine Zhp ?_) | (with_reducible apply QBlock_panic) | (with_reducible apply QLoop_panic))
    · exact QLoop_normal (k + 1) (.cons rfl .nil) (by repeat (first | exact Off.frame rfl | exact Off.refl _ _ | refine Off.frameT rfl rfl ?_ | refine Off.upd rfl ?_ | refine Off.updO rfl ?_)) (by repeat (first | exact Wk.refl _ | apply Wk.keep1 | apply Wk.drop | apply Wk.sv | apply Wk.svD | apply Wk.appD)) ⟨by omega, all_snoc hlt hall (by rw [ht]; assumption)⟩ (by omega)
    · exact QBody_panic ⟨L, (by repeat (first | exact Wk.refl _ | apply Wk.keep1 | apply Wk.drop | apply Wk.sv | apply Wk.svD | apply Wk.appD)), .inr (.inr ⟨vB_rn htm (by assumption), rfl, rfl⟩)⟩
  have hrains : g.h.rains.all (fun s => isSpanB s 10 3) = true := by rw [show k = g.h.rains.length by omega, List.take_length] at hall; exact hall
  repeat' (first | (refine Znh ?_) | (refine GiW ?_; first | (refine Zsq fun K hK => ?_) | (refine ZrN 9 fun _ => ?_; refine Zv Zxlss ?_) | (refine ZrN 13 fun _ => ?_; refine Zv Zai ?_) | (refine ZrN 14 fun _ => ?_; refine Zv Zfa ?_; refine Zv Zla ?_; refine Zv Zmi ?_) | (refine Zcd (fun hc => ?_) (fun hc => ?_) <;> (try (exfalso; omega))) | (with_reducible apply WP_block) | (with_reducible apply WP_exit)) | (refine Zhn ?_) | (refine Zhx ?_) | (with_reducible apply QBlock_hit) | (with_reducible apply QLoop_exit))
  refine WP_loop [10, 12, 70, 71, 72, 73, 74, 75, 76, 77, 78] (fun q : Nat × Int => [(70, .int .i64 q.1), (10, .int .i64 q.2)]) (fun _ => (b2, Blk 27 (hvL g)) :: L) (fun q => q = (0, 0) ∨ (q = (1, g.h.d0) ∧ within g.h.d0 0 20 = true) ∨ (q = (2, g.h.d1) ∧ within g.h.d0 0 20 = true ∧ within g.h.d1 g.h.d0 20 = true) ∨ (q = (3, g.h.d2) ∧ drB g.h = true)) (fun q => 3 - q.1) (0, 0) (.cons rfl (.cons rfl .nil)) (Wk.refl _) (.inl rfl) ?_
  clear hall hk hlt
  rintro ⟨k, m⟩ j3 hq3
  unfold hvL
  rcases hq3 with hq3 | ⟨hq3, hd0⟩ | ⟨hq3, hd0, hd1⟩ | ⟨hq3, hdr⟩ <;> (injection hq3 with hq3a hq3b; subst hq3a hq3b; dsimp only)
  · repeat' (first | (refine GiP ?_; first | (refine Znh ?_) | (with_reducible refine Znl ?_)) | (refine GiW ?_; first | (refine Zsq fun K hK => ?_) | (refine ZrN 15 fun _ => ?_; refine Zv Zxlss ?_) | (refine ZrN 16 fun _ => ?_; (first | (refine Zv (Val_index1 rfl rfl rfl (by omega) rfl) ?_) | (refine Zv (Val_index1 rfl rfl (show _ = ((0 : Nat) : Int) from rfl) (by decide) rfl) ?_)); refine Zv Zai ?_) | (refine ZrN 17 fun _ => ?_; refine Zv Zmi ?_; refine Zv Zmi ?_; refine Zcl (Enters_fn rfl) (within_ret N w0 _ _ _ _) ?_; (refine OPS_must (Enters_fn rfl) rfl rfl rfl (fun hc => ?_) (fun hc => ?_) <;> (try (exfalso; simp at hc; done)))) | (refine ZrN 18 fun _ => ?_; refine Zv Zmi ?_; refine Zv Zai ?_) | (refine ZrN 19 fun _ => ?_; refine Zv Zxadd ?_; refine Zv Zmi ?_) | (refine WP_cond_true rfl ?_) | (with_reducible apply WP_skip) | (with_reducible apply WP_block)) | (refine Zhn ?_) | (with_reducible apply QBlock_normal) | (refine Zhp ?_) | (with_reducible apply QBlock_panic) | (with_reducible apply QLoop_panic))
    · exact QLoop_normal (1, g.h.d0) (.cons rfl (.cons rfl .nil)) (by repeat (first | exact Off.frame rfl | exact Off.refl _ _ | refine Off.frameT rfl rfl ?_ | refine Off.upd rfl ?_ | refine Off.updO rfl ?_)) (by repeat (first | exact Wk.refl _ | apply Wk.keep1 | apply Wk.drop | apply Wk.sv | apply Wk.svD | apply Wk.appD)) (.inr (.inl ⟨rfl, by assumption⟩)) (by dsimp only; omega)
    · exact QBody_panic ⟨L, (by repeat (first | exact Wk.refl _ | apply Wk.keep1 | apply Wk.drop | apply Wk.sv | apply Wk.svD | apply Wk.appD)), .inr (.inr ⟨vB_dr (by simp [drB, *]), rfl, rfl⟩)⟩
  · repeat' (first | (refine GiP ?_; first | (refine Znh ?_) | (with_reducible refine Znl ?_)) | (refine GiW ?_; first | (refine Zsq fun K hK => ?_) | (refine ZrN 15 fun _ => ?_; refine Zv Zxlss ?_) | (refine ZrN 16 fun _ => ?_; (first | (refine Zv (Val_index1 rfl rfl rfl (by omega) rfl) ?_) | (refine Zv (Val_index1 rfl rfl (show _ = ((1 : Nat) : Int) from rfl) (by decide) rfl) ?_)); refine Zv Zai ?_) | (refine ZrN 17 fun _ => ?_; refine Zv Zmi ?_; refine Zv Zmi ?_; refine Zcl (Enters_fn rfl) (within_ret N w0 _ _ _ _) ?_; (refine OPS_must (Enters_fn rfl) rfl rfl rfl (fun hc => ?_) (fun hc => ?_) <;> (try (exfalso; simp at hc; done)))) | (refine ZrN 18 fun _ => ?_; refine Zv Zmi ?_; refine Zv Zai ?_) | (refine ZrN 19 fun _ => ?_; refine Zv Zxadd ?_; refine Zv Zmi ?_) | (refine WP_cond_true rfl ?_) | (with_reducible apply WP_skip) | (with_reducible apply WP_block)) | (refine Zhn ?_) | (with_reducible apply QBlock_normal) | (refine Zhp ?_) | (with_reducible apply QBlock_panic) | (with_reducible apply QLoop_panic))
    · exact QLoop_normal (2, g.h.d1) (.cons rfl (.cons rfl .nil)) (by repeat (first | exact Off.frame rfl | exact Off.refl _ _ | refine Off.frameT rfl rfl ?_ | refine Off.upd rfl ?_ | refine Off.updO rfl ?_)) (by repeat (first | exact Wk.refl _ | apply Wk.keep1 | apply Wk.drop | apply Wk.sv | apply Wk.svD | apply Wk.appD)) (.inr (.inr (.inl ⟨rfl, hd0, by assumption⟩))) (by dsimp only; omega)
    · exact QBody_panic ⟨L, (by repeat (first | exact Wk.refl _ | apply Wk.keep1 | apply Wk.drop | apply Wk.sv | apply Wk.svD | apply Wk.appD)), .inr (.inr ⟨vB_dr (by simp [drB, *]), rfl, rfl⟩)⟩
  · repeat' (first | (refine GiP ?_; first | (refine Znh ?_) | (with_reducible refine Znl ?_)) | (refine GiW ?_; first | (refine Zsq fun K hK => ?_) | (refine ZrN 15 fun _ => ?_; refine Zv Zxlss ?_) | (refine ZrN 16 fun _ => ?_; (first | (refine Zv (Val_index1 rfl rfl rfl (by omega) rfl) ?_) | (refine Zv (Val_index1 rfl rfl (show _ = ((2 : Nat) : Int) from rfl) (by decide) rfl) ?_)); refine Zv Zai ?_) | (refine ZrN 17 fun _ => ?_; refine Zv Zmi ?_; refine Zv Zmi ?_; refine Zcl (Enters_fn rfl) (within_ret N w0 _ _ _ _) ?_; (refine OPS_must (Enters_fn rfl) rfl rfl rfl (fun hc => ?_) (fun hc => ?_) <;> (try (exfalso; simp at hc; done)))) | (refine ZrN 18 fun _ => ?_; refine Zv Zmi ?_; refine Zv Zai ?_) | (refine ZrN 19 fun _ => ?_; refine Zv Zxadd ?_; refine Zv Zmi ?_) | (refine WP_cond_true rfl ?_) | (with_reducible apply WP_skip) | (with_reducible apply WP_block)) | (refine Zhn ?_) | (with_reducible apply QBlock_normal) | (refine Zhp ?_) | (with_reducible apply QBlock_panic) | (with_reducible apply QLoop_panic))
    · exact QLoop_normal (3, g.h.d2) (.cons rfl (.cons rfl .nil)) (by repeat (first | exact Off.frame rfl | exact Off.refl _ _ | refine Off.frameT rfl rfl ?_ | refine Off.upd rfl ?_ | refine Off.updO rfl ?_)) (by repeat (first | exact Wk.refl _ | apply Wk.keep1 | apply Wk.drop | apply Wk.sv | apply Wk.svD | apply Wk.appD)) (.inr (.inr (.inr ⟨rfl, by simp [drB, *]⟩))) (by dsimp only; omega)
    · exact QBody_panic ⟨L, (by repeat (first | exact Wk.refl _ | apply Wk.keep1 | apply Wk.drop | apply Wk.sv | apply Wk.svD | apply Wk.appD)), .inr (.inr ⟨vB_dr (by simp [drB, *]), rfl, rfl⟩)⟩
  · repeat' (first | (refine Znh ?_) | (refine GiW ?_; first | (refine Zsq fun K hK => ?_) | (refine ZrN 15 fun _ => ?_; refine Zv Zxlss ?_) | (refine ZrN 20 fun _ => ?_; refine Zv Zla ?_; refine Zam 80 fun b80 => ?_; refine Zv Zxbu ?_; refine Zal 82 fun b82 => ?_; refine Zv Zav ?_) | (refine ZrN 21 fun _ => ?_; refine Zv Zfa ?_; refine Zv Zld ?_; refine Zv Zxlen ?_; refine Zv Zmi ?_) | (refine WP_cond_false rfl ?_) | (with_reducible apply WP_block) | (with_reducible apply WP_exit)) | (refine Zhn ?_) | (refine Zhx ?_) | (with_reducible apply QBlock_hit) | (with_reducible apply QLoop_exit))
    obtain ⟨g', hg'⟩ : ∃ g' : Bg, { g with b := b82, m := b80 } = g' := ⟨_, rfl⟩
    have hgh : g'.h = g.h := by rw [← hg']
    have hgb : g'.b = b82 := by rw [← hg']
    have hbl : bogL { g with b := b82, m := b80 } = bogL g' := by rw [hg']
    refine WP_loop [15, 86, 87, 88, 89, 90, 91, 92, 93, 94, 95, 96, 97, 98, 99, 100, 101, 102, 103, 104, 105, 106, 107] (fun k : Nat => [(86, .int .i64 k)]) (fun _ => (b82, Blk 94 (bogL { g with b := b82, m := b80 })) :: (b80, Is (.map #[] 0)) :: (b2, Blk 27 (hvL g)) :: L) (fun k => k ≤ g.h.looks.length ∧ (g.h.looks.take k).all (lkB g.h) = true) (fun k => g.h.looks.length - k) 0 (.cons rfl .nil) (Wk.refl _) ⟨Nat.zero_le _, rfl⟩ ?_
    rintro k j4 ⟨hk, hall⟩
    rw [hbl]
    unfold hvL
    by_cases hlt : k < g.h.looks.length
    · obtain ⟨bA, oA, hA3, hbA, hcA⟩ := hA.looks.row k hlt
      obtain ⟨t, ht⟩ : ∃ t, g.h.looks[k] = t := ⟨_, rfl⟩
      have htm : t ∈ g.h.looks := by rw [← ht]; exact List.getElem_mem hlt
      rw [ht] at hcA
      have hih := fun L n hm => isHeap_ret N w0 L g' n hm (by rw [hgh]; omega)
      have hid := fun L n hm => isDay_ret N w0 L g' n hm (by rw [hgh]; omega)
      rw [hgh, hgb] at hih hid
      repeat' (first | (refine GiP ?_; first | (refine Znh ?_) | (with_reducible refine Znl ?_) | (refine Zatd 99 ?_; (first | (refine Zv Zxpt ?_) | (refine Zv Zxpf ?_)); refine Zv Zmb ?_) | (refine Zatd 105 ?_; (first | (refine Zv Zxpt ?_) | (refine Zv Zxpf ?_)); (refine OPS_must (Enters_fn rfl) rfl rfl rfl (fun hc => ?_) (fun hc => ?_) <;> (try (exfalso; simp at hc; done)))) | (refine Zatd 95 ?_; refine Zv Zmv ?_) | (refine Zatd 96 ?_; refine Zv Zfa ?_) | (refine Zatd 97 ?_; refine Zv Zld ?_) | (refine Zatd 98 ?_; refine Zcl (Enters_fn rfl) (hid _ _ (by repeat (first | exact Mem.here | assumption | apply Mem.there | apply Mem.sv | apply Mem.app))) ?_) | (refine Zatd 101 ?_; refine Zv Zmv ?_) | (refine Zatd 102 ?_; refine Zv Zfa ?_) | (refine Zatd 103 ?_; refine Zv Zla ?_) | (refine Zatd 104 ?_; refine Zcl (Enters_val rfl rfl) (isSpan_ret N w0 _ (t.lo, t.hi) _ _ (by intro a b c; dsimp only at *; exact InK_i64 (by omega) (by omega))) ?_) | (refine Zsk ?_) | (refine Zsp (fun hc => ?_) (fun hc => ?_) <;> (try (exfalso; omega)))) | (refine GiW ?_; first | (refine Zsq fun K hK => ?_) | (refine ZrN 22 fun _ => ?_; refine Zv Zxlss ?_) | (refine ZrN 23 fun _ => ?_; refine Zv Zia ?_; refine Zv Zla ?_; refine Zal 15 fun b15 => ?_; refine Zst ?_) | (refine ZrG 24 ?_; refine Zv Zmv ?_; refine Zv Zf0 ?_; refine Zv Zld ?_; refine Zcl (Enters_fn rfl) (hih _ _ (by repeat (first | exact Mem.here | assumption | apply Mem.there | apply Mem.sv | apply Mem.app))) ?_; refine Zv Zmb ?_) | (refine ZrN 25 fun _ => ?_; refine Zv Zxadd ?_; refine Zv Zmi ?_) | (refine Zcd (fun hc => ?_) (fun hc => ?_) <;> (try (exfalso; omega))) | (with_reducible apply WP_skip) | (with_reducible apply WP_block)) | (refine Zhn ?_) | (with_reducible apply QBlock_normal) | (refine Zhp ?_) | (with_reducible apply QBlock_panic) | (with_reducible apply QLoop_panic))
      · exact QLoop_normal (k + 1) (.cons rfl .nil) (by repeat (first | exact Off.frame rfl | exact Off.refl _ _ | refine Off.frameT rfl rfl ?_ | refine Off.upd rfl ?_ | refine Off.updO rfl ?_)) (by repeat (first | exact Wk.refl _ | apply Wk.keep1 | apply Wk.drop | apply Wk.sv | apply Wk.svD | apply Wk.appD)) ⟨by omega, all_snoc hlt hall (by rw [ht]; simp [lkB, *])⟩ (by omega)
      · exact QBody_panic ⟨L, (by repeat (first | exact Wk.refl _ | apply Wk.keep1 | apply Wk.drop | apply Wk.sv | apply Wk.svD | apply Wk.appD)), .inr (.inr ⟨vB_lk htm (by simp [lkB, *]), rfl, rfl⟩)⟩
      · exact QBody_panic ⟨L, (by repeat (first | exact Wk.refl _ | apply Wk.keep1 | apply Wk.drop | apply Wk.sv | apply Wk.svD | apply Wk.appD)), .inr (.inr ⟨vB_lk htm (by simp [lkB, *]), rfl, rfl⟩)⟩
      · exact QBody_panic ⟨L, (by repeat (first | exact Wk.refl _ | apply Wk.keep1 | apply Wk.drop | apply Wk.sv | apply Wk.svD | apply Wk.appD)), .inr (.inr ⟨vB_lk htm (by simp [lkB, *]), rfl, rfl⟩)⟩
    · have hlooks : g.h.looks.all (lkB g.h) = true := by rw [show k = g.h.looks.length by omega, List.take_length] at hall; exact hall
      have hvb : vB g.h = true := by simp [vB, *]
      have hVH := VH_of hvb
      have hqq := fun L' h => hq b82 b80 L' h hVH
      rw [hbl] at hqq
      repeat' (first | (refine Znh ?_) | (refine GiW ?_; first | (refine Zsq fun K hK => ?_) | (refine ZrN 22 fun _ => ?_; refine Zv Zxlss ?_) | (refine ZrN 26 fun _ => ?_; refine Zv Zmv ?_; refine Zv Zmv ?_; refine Zcl (Enters_val rfl rfl) (hqq _ (by repeat (first | exact Sub.refl _ | assumption | exact Sub.left | (with_reducible refine Sub.pick (by repeat (first | exact Pick.here | apply Pick.there)) ?_) | apply Sub.cons | apply Sub.sv | apply Sub.app))) ?_; (refine OPS_must (Enters_fn rfl) rfl rfl rfl (fun hc => ?_) (fun hc => ?_) <;> (try (exfalso; simp at hc; done)))) | (refine ZrN 27 fun _ => ?_; refine Zv Zmv ?_; refine Zv Zav ?_) | (refine Zcd (fun hc => ?_) (fun hc => ?_) <;> (try (exfalso; omega))) | (with_reducible apply WP_exit) | (with_reducible apply WP_ret)) | (refine Zhn ?_) | (refine Zhx ?_) | (with_reducible apply QBlock_hit) | (with_reducible apply QLoop_exit) | (refine Zhp ?_))
      · refine QBody_ret1 rfl (rfl : _ = Value.pointer _) ⟨Bk g' ++ L, ?_, .inl ⟨hvb, hc, b82, b80, rfl, by rw [hg']⟩⟩
        have hmap : ∀ o, Is (.map #[] 0) o → MapOf qks (keptF g'.h) o := fun o ho => ⟨#[], 0, ho, fun x hx => by simp at hx⟩
        have hm80 : g'.m = b80 := by rw [← hg']
        unfold Bk
        rw [hgb, hm80]
        exact .keep1 (.keep hmap (.drop (Wk.refl _)))
      · exact QBody_panic ⟨L, (by repeat (first | exact Wk.refl _ | apply Wk.keep1 | apply Wk.drop | apply Wk.sv | apply Wk.svD | apply Wk.appD)), .inr (.inl ⟨hvb, hc, rfl, rfl⟩)⟩
end
end Go.Proofs.Ytlpahkmfjpjheaa
end

section
namespace Go.Proofs.Ytlpahkmfjpjheaa
open Go.RowKit
attribute [local irreducible] AnyO AnyB QAny QB EWalk AWalk Ev WP OPS QThen QBlock QScope QLoop QBody Val New Turn Tri Enters PostA Blk Ro
section
variable (N : Nat) (w0 : World)
theorem stopped_up (L L' : Hp) (b : Nat) (k k0 : Int) (hu : Up L b (Blk 32 [.int .i64 k0]) (Blk 32 [.int .i64 k]) L') : Tri Try.prog N w0 L 46 [.iface 111 (.agg #[.int .i64 k]), .pointer (some ⟨b, 0, none⟩)].toArray fun x L'' => x = .returned (.tuple #[]) ∧ L'' = L' := by
  refine Tri.fgt ?_
  refine tri_of_WP Try.func46 rfl (n := 20) rfl (by simp) ?_
  repeat' (first | ((with_reducible apply WP_skip); refine HThen.normal (by assumption) ?_; (with_reducible refine WP_regionN (id := 4) (fun _ => ?_)); refine OPS_valS (Val_move (by exact (rfl : _ = Value.pointer (some ⟨_, _, none⟩)))) rfl rfl rfl ?_; ((refine OPS_valS (Val_fieldAddr0 rfl) rfl rfl rfl ?_)); ((refine OPS_valS (Val_load1 rfl (by repeat (first | exact Mem.here | assumption | apply Mem.there | apply Mem.sv | apply Mem.app)) (by rfl)) rfl rfl rfl ?_)); ((refine OPS_valS (Val_nilCheck_p rfl) rfl rfl rfl ?_)); (first | (refine OPS_turnN (Turn_store rfl (rfl : _ = Value.int _ _) (by repeat (first | exact Up.here | apply Up.there | apply Up.sv)) (by first | (exact svV_cells) | (rfl)) (by repeat (first | exact Over.nil | apply Over.cons | apply PutAt.there | apply PutAt.here)) (by rfl) (by rfl)) rfl rfl ?_) | ((refine OPS_turnN (Turn_store rfl (rfl : _ = Value.int _ _) (by repeat (first | exact hu | apply Up.there)) rfl (by repeat (first | exact Over.nil | apply Over.cons | apply PutAt.there | apply PutAt.here)) rfl rfl) rfl rfl ?_))); (with_reducible apply OPS_nil)) | ((with_reducible apply WP_skip); refine HThen.normal (by assumption) ?_; (with_reducible refine WP_seqK (fun K hK => ?_)); (with_reducible refine WP_regionN (id := 1) (fun _ => ?_)); refine OPS_valS (Val_move (by exact (rfl : _ = Value.iface _ _))) rfl rfl rfl ?_; refine OPS_valS (Val_typeAssert rfl) rfl rfl rfl ?_; refine OPS_valS (Val_move (rfl : _ = Value.tuple _)) rfl rfl rfl ?_; refine OPS_valS (Val_extract rfl rfl) rfl rfl rfl ?_; refine OPS_valS (Val_extract rfl rfl) rfl rfl rfl ?_; refine OPS_newS blk_is New_alloc rfl rfl rfl (fun b4 => ?_); ((refine OPS_turnN (Turn_store rfl (rfl : _ = Value.agg _) (by repeat (first | exact Up.here | apply Up.there | apply Up.sv)) (by first | (exact svV_cells) | (rfl)) (by repeat (first | exact Over.nil | apply Over.cons | apply PutAt.there | apply PutAt.here)) (by rfl) (by rfl)) rfl rfl ?_)); refine OPS_valS (Val_assign (rfl : _ = Value.bool _)) rfl rfl rfl ?_; (with_reducible apply OPS_nil); refine HThen.normal (by assumption) ?_; (with_reducible refine WP_seqK (fun K hK => ?_)); (with_reducible refine WP_seqK (fun K hK => ?_)); (with_reducible refine WP_regionN (id := 2) (fun _ => ?_)); refine OPS_valS (Val_move (rfl : _ = Value.bool _)) rfl rfl rfl ?_; refine OPS_valS (Val_not rfl) rfl rfl rfl ?_; (with_reducible apply OPS_nil); refine HThen.normal (by assumption) ?_; first | (refine WP_cond_true rfl ?_) | (refine WP_cond_false rfl ?_)) | ((with_reducible refine WP_seqK (fun K hK => ?_)); (with_reducible refine WP_seqK (fun K hK => ?_)); (with_reducible refine WP_regionN (id := 0) (fun _ => ?_)); refine OPS_valS (Val_move (by exact (rfl : _ = Value.iface _ _))) rfl rfl rfl ?_; (first | (refine OPS_valS (Val_eqlNil0 rfl) rfl rfl rfl ?_) | (refine OPS_valS (Val_eqlNil1 rfl) rfl rfl rfl ?_)); (with_reducible apply OPS_nil); refine HThen.normal (by assumption) ?_; first | (refine WP_cond_true rfl ?_) | (refine WP_cond_false rfl ?_)))
  exact QBody_end0 rfl ⟨L', (by repeat (first | exact Wk.refl _ | apply Wk.keep1 | apply Wk.drop | apply Wk.sv | apply Wk.svD | apply Wk.appD)), rfl, rfl⟩
/-- The functions that are deferred here. -/
structure Stops (f : FuncId) (fn0 : Func) : Prop where
  fn : Try.prog.funcs[f]? = some fn0
  body : ∃ id pos af pos' af', fn0.body = some (.region id (⟨some 1, .call { callee := .builtin .recover, args := #[], argTypes := #[] }, 20, pos, af, none⟩ :: [⟨some 2, .call { callee := .value (.func 46), args := [Operand.tmp 1, .tmp 0].toArray, argTypes := #[20, 76] }, 0, pos', af', none⟩]).toArray false)
  tmps : fn0.ntmps = 3
  res : fn0.results = #[]
theorem calls_stop {f : FuncId} {fn0 : Func} (hS : Stops f fn0) {L L' : Hp} {b : Nat} {u : FrameMode} {w : World} (hI : Inv N w0 L w) (h : Tri Try.prog N w0 L 46 [(recV u).1, .pointer (some ⟨b, 0, none⟩)].toArray fun x L'' => x = .returned (.tuple #[]) ∧ L'' = L') :
    CallsDIn Fence.wide 0 Try.prog f [.pointer (some ⟨b, 0, none⟩)].toArray u w fun x u' w' => u' = (recV u).2 ∧ ∃ L'', Inv N w0 L'' w' ∧ x = .returned (.tuple #[]) ∧ L'' = L' := by
  obtain ⟨id, pos, af, pos', af', hb⟩ := hS.body
  refine callsD_rec (P := Try.prog) (RR := fun x L'' => x = .returned (.tuple #[]) ∧ L'' = L') hS.fn hb (n := 3) hS.tmps (by simp) rfl hI ?_
  intro ops
  refine OPS_retKS (K := fun v L'' => v = .tuple #[] ∧ L'' = L') (Enters_fn rfl) (h.mono fun x L'' ⟨h1, h2⟩ => ⟨_, h1, rfl, h2⟩) rfl rfl rfl (fun v2 L2 h2 => ?_)
  obtain ⟨rfl, rfl⟩ := h2
  (with_reducible apply OPS_nil)
  exact QBody_end0 hS.res ⟨rfl, rfl⟩
theorem Lv_stop0 {f : FuncId} [HasBody Try.prog f] {fn0 fn : Func} (hS : Stops f fn0) {R : Ending → Hp → Prop} {e : Env} {L : Hp} {ds : List Deferred} {b : Nat} (h : Lv Try.prog fn N w0 R e ds .returning L) :
    Lv Try.prog fn N w0 R e ({ target := .fn (.func f) [.pointer (some ⟨b, 0, none⟩)].toArray, args := #[] } :: ds) .returning L := by
  refine ⟨by simp, .inr ⟨f, _, rfl, fun a w => run_callFunc a w, fun w hI => ?_⟩⟩
  refine (calls_stop (b := b) N w0 hS (u := .returning) hI (L' := L) ?_).mono ?_
  · exact (stopped_nil N w0 L b).mono fun x L'' ⟨h1, h2⟩ => ⟨h1, h2⟩
  · rintro x u' w' ⟨rfl, L'', hI', rfl, rfl⟩
    exact ⟨_, _, rfl, hI', h⟩
theorem Lv_stop1 {f : FuncId} [HasBody Try.prog f] {fn0 fn : Func} (hS : Stops f fn0) {R : Ending → Hp → Prop} {e : Env} {L L' : Hp} {ds : List Deferred} {b : Nat} {k k0 : Int} (hu : Up L b (Blk 32 [.int .i64 k0]) (Blk 32 [.int .i64 k]) L') (h : Lv Try.prog fn N w0 R e ds .returning L') :
    Lv Try.prog fn N w0 R e ({ target := .fn (.func f) [.pointer (some ⟨b, 0, none⟩)].toArray, args := #[] } :: ds) (.panicking (stopE k)) L := by
  refine ⟨by simp, .inr ⟨f, _, rfl, fun a w => run_callFunc a w, fun w hI => ?_⟩⟩
  refine (calls_stop (b := b) N w0 hS (u := .panicking (stopE k)) hI (L' := L') ?_).mono ?_
  · exact stopped_up N w0 L L' b k k0 hu
  · rintro x u' w' ⟨rfl, L'', hI', rfl, rfl⟩
    exact ⟨_, _, rfl, hI', h⟩
theorem stops45 : Stops 45 Try.f45 := ⟨Try.func45, ⟨_, _, _, _, _, rfl⟩, rfl, rfl⟩
theorem stops56 : Stops 56 Try.f56 := ⟨Try.func56, ⟨_, _, _, _, _, rfl⟩, rfl, rfl⟩
theorem stops61 : Stops 61 Try.f61 := ⟨Try.func61, ⟨_, _, _, _, _, rfl⟩, rfl, rfl⟩
theorem stops63 : Stops 63 Try.f63 := ⟨Try.func63, ⟨_, _, _, _, _, rfl⟩, rfl, rfl⟩
theorem stops66 : Stops 66 Try.f66 := ⟨Try.func66, ⟨_, _, _, _, _, rfl⟩, rfl, rfl⟩
theorem stops68 : Stops 68 Try.f68 := ⟨Try.func68, ⟨_, _, _, _, _, rfl⟩, rfl, rfl⟩
theorem stops70 : Stops 70 Try.f70 := ⟨Try.func70, ⟨_, _, _, _, _, rfl⟩, rfl, rfl⟩
theorem stops80 : Stops 80 Try.f80 := ⟨Try.func80, ⟨_, _, _, _, _, rfl⟩, rfl, rfl⟩
end
end Go.Proofs.Ytlpahkmfjpjheaa
end

section
namespace Go.Proofs.Ytlpahkmfjpjheaa
open Go.RowKit
/-- Why there is no answer; 0: there is one. -/
def errE (h : Hv) (ok : Bool) : Int := if vB h = false then 1 else if ok = false then 2 else if toldL h = [] then 10 else 0
attribute [local irreducible] AnyO AnyB QAny QB EWalk AWalk Ev WP OPS QThen QBlock QScope QLoop QBody Val New Turn Tri Enters PostA Blk Ro
attribute [local irreducible] AnyC QC
section
variable (N : Nat) (w0 : World)
def WetOk (h : Hv) (heap day : Int) : Bool := within heap 0 (h.heaps.length - 1) && within day 0 (h.rains.length - 1)
theorem wetOk_ret (g : Bg) (b4 b5 : Nat) (heap day : Int) (b m : Nat) (L' : Hp) (hS : Sub ((b, Blk 94 (bogL { g with b := b, m := m })) :: [(b5, Blk 3 [.int .i64 day]), (b4, Blk 3 [.int .i64 heap])]) L') (hv : VH g.h) :
    Ret Try.prog N w0 L' 48 (.pointer (some ⟨b, 0, none⟩) :: [.pointer (some ⟨b4, 0, none⟩), .pointer (some ⟨b5, 0, none⟩)]).toArray (.bool (WetOk g.h heap day)) := by
  have hnh := hv.nh
  have hnr := hv.nr
  obtain ⟨g', hg'⟩ : ∃ g' : Bg, { g with b := b, m := m } = g' := ⟨_, rfl⟩
  have hgh : g'.h = g.h := by rw [← hg']
  have hgb : g'.b = b := by rw [← hg']
  have hih := fun L n hm => isHeap_ret N w0 L g' n hm (by rw [hgh]; omega)
  have hid := fun L n hm => isDay_ret N w0 L g' n hm (by rw [hgh]; omega)
  rw [hgh, hgb] at hih hid
  rw [hg'] at hS
  refine Ret.sub hS fun L0 => ?_
  simp only [List.cons_append, List.nil_append]
  refine tri_of_WP Try.func48 rfl (n := 13) rfl (by simp) ?_
  repeat' (first | (refine GiP ?_; first | (refine Znh ?_) | (refine Zatd 12 ?_; (first | (refine Zv Zxpt ?_) | (refine Zv Zxpf ?_)); refine Zv Zab ?_) | (refine Zatd 9 ?_; refine Zv Zmv ?_) | (refine Zatd 10 ?_; refine Zv Zld ?_) | (refine Zatd 11 ?_; refine Zcl (Enters_fn rfl) (hid _ _ (by repeat (first | exact Mem.here | assumption | apply Mem.there | apply Mem.sv | apply Mem.app))) ?_) | (refine Zsk ?_) | (refine Zsp (fun hc => ?_) (fun hc => ?_) <;> (try (exfalso; omega)))) | (refine GiW ?_; first | (refine Zsq fun K hK => ?_) | (refine ZrN 0 fun _ => ?_; refine Zv Zab ?_) | (refine ZrG 1 ?_; refine Zv Zmv ?_; refine Zv Zld ?_; refine Zcl (Enters_fn rfl) (hih _ _ (by repeat (first | exact Mem.here | assumption | apply Mem.there | apply Mem.sv | apply Mem.app))) ?_; refine Zv Zmb ?_) | (with_reducible apply WP_ret)))
  · exact QBody_ret1 rfl (rfl : _ = Value.bool _) ⟨by simp [WetOk, *], rfl⟩
  · exact QBody_ret1 rfl (rfl : _ = Value.bool _) ⟨by simp [WetOk, *], rfl⟩
section
variable {g : Bg} {ok : Bool} {q : FuncId} {cc : List Value} {L : Hp}
def OpenR (N : Nat) (w0 : World) (g : Bg) (ok : Bool) (q : FuncId) (cc : List Value) (L : Hp) : Prop :=
  Tri Try.prog N w0 L 47 [heapV g, .func (.func q) #[] cc.toArray].toArray fun x L' => (vB g.h = true ∧ ok = true ∧ ∃ b m, x = .returned (.pointer (some ⟨b, 0, none⟩)) ∧ L' = Bk { g with b := b, m := m } ++ L) ∨ (vB g.h = true ∧ ok = false ∧ x = .panicked (stopE 2) ∧ L' = L) ∨ (vB g.h = false ∧ x = .panicked (stopE 1) ∧ L' = L)
theorem open_ok (h : OpenR N w0 g ok q cc L) (h1 : vB g.h = true) (h2 : ok = true) : Tri Try.prog N w0 L 47 [heapV g, .func (.func q) #[] cc.toArray].toArray fun x L' => ∃ v, x = .returned v ∧ ∃ b m, v = .pointer (some ⟨b, 0, none⟩) ∧ L' = Bk { g with b := b, m := m } ++ L := by
  refine h.mono ?_
  rintro x L' (⟨_, _, b, m, rfl, rfl⟩ | ⟨_, h3, _⟩ | ⟨h3, _⟩)
  · exact ⟨_, rfl, b, m, rfl, rfl⟩
  · rw [h2] at h3; cases h3
  · rw [h1] at h3; cases h3
theorem open_no (h : OpenR N w0 g ok q cc L) (h1 : vB g.h = false ∨ ok = false) : Tri Try.prog N w0 L 47 [heapV g, .func (.func q) #[] cc.toArray].toArray fun x L' => x = .panicked (stopE (errE g.h ok)) ∧ L' = L := by
  refine h.mono ?_
  rintro x L' (⟨h2, h3, _⟩ | ⟨h2, h3, rfl, rfl⟩ | ⟨h3, rfl, rfl⟩)
  · rw [h2, h3] at h1; rcases h1 with h1 | h1 <;> cases h1
  · exact ⟨by simp [errE, h2, h3], rfl⟩
  · exact ⟨by simp [errE, h3], rfl⟩
end
/-- What Wet returns. -/
def WetV (h : Hv) (heap day : Int) : Sp := if errE h (WetOk h heap day) = 0 then wetS h heap.toNat day.toNat else (0, 0)
theorem Wet_ret (L : Hp) (g : Bg) (hA : HeapAt N w0 g) (heap day : Int) :
    Ret Try.prog N w0 L 14 [heapV g, .int .i64 heap, .int .i64 day].toArray (.tuple [.agg [.int .i64 (WetV g.h heap day).1, .int .i64 (WetV g.h heap day).2].toArray, .int .i64 (errE g.h (WetOk g.h heap day))].toArray) := by
  refine Ret.fgt ?_
  refine tri_of_WPL Try.func14 rfl (n := 15) rfl (by simp) ?_
  have hop : ∀ (b4 b5 : Nat) (L : Hp), Sub [(b5, Blk 3 [.int .i64 day]), (b4, Blk 3 [.int .i64 heap])] L → OpenR N w0 g (WetOk g.h heap day) 48 [.pointer (some ⟨b4, 0, none⟩), .pointer (some ⟨b5, 0, none⟩)] L := fun b4 b5 L h =>
    open_tri N w0 L g hA _ 48 _ _ h (fun b m L' h h2 => wetOk_ret N w0 g b4 b5 heap day b m L' h h2)
  by_cases hok : vB g.h = true ∧ WetOk g.h heap day = true
  · obtain ⟨hvb, hwo⟩ := hok
    have hv := VH_of hvb
    have hop' := fun b4 b5 L h => open_ok N w0 (hop b4 b5 L h) hvb hwo
    have hwo2 := hwo
    simp only [WetOk, within, Bool.and_eq_true, decide_eq_true_eq] at hwo2
    obtain ⟨i, rfl⟩ : ∃ i : Nat, heap = i := ⟨heap.toNat, by omega⟩
    obtain ⟨j, rfl⟩ : ∃ j : Nat, day = j := ⟨day.toNat, by omega⟩
    have hi1 : i < g.h.heaps.length := by omega
    have hj1 : j < g.h.rains.length := by omega
    have hA' : ∀ b m, HeapAt N w0 { g with b := b, m := m } := fun b m => ⟨hA.heaps, hA.rains, hA.looks⟩
    by_cases h0 : toldL g.h = []
    · have he : errE g.h (WetOk g.h i j) = 10 := by simp [errE, hvb, hwo, h0]
      have hz : WetV g.h i j = (0, 0) := by unfold WetV; rw [he, if_neg (by omega)]
      have hwet := fun b m L hS => wet_no N w0 L { g with b := b, m := m } hS hv (hA' b m) i j hi1 hj1 h0
      rw [he, hz]
      unfold heapV hvL at hop' ⊢
      repeat' (first | (refine GiP ?_; first | (refine Znh ?_) | (with_reducible refine Znl ?_) | (refine Zatd 11 ?_; refine OPS_retKS (Enters_fn rfl) (hop' b4 b5 _ (by repeat (first | exact Sub.refl _ | assumption | exact Sub.left | apply Sub.cons | apply Sub.sv | apply Sub.app))) rfl rfl rfl (fun v11 L11 h11 => ?_); obtain ⟨bb, mm, rfl, rfl⟩ := h11) | (refine Zatd 14 ?_; refine OPS_pan (Enters_fn rfl) (hwet bb mm _ (by repeat (first | exact Sub.refl _ | assumption | exact Sub.left | apply Sub.cons | apply Sub.sv | apply Sub.app))) rfl rfl ?_)) | (refine GiW ?_; first | (refine Zsq fun K hK => ?_) | (refine ZrN 0 fun _ => ?_; refine Zal 3 fun b3 => ?_; refine Zal 4 fun b4 => ?_; refine Zal 5 fun b5 => ?_; refine Zal 6 fun b6 => ?_; refine Zal 7 fun b7 => ?_) | (refine ZrN 1 fun _ => ?_; refine Zv Val_makeFunc ?_; refine OPS_defer rfl ?_) | (refine WP_drawnC (id := 2) ([(b7, Blk 32 [.int .i64 0]), (b6, Blk 31 [.int .i64 0, .int .i64 0])]) ((b5, Blk 3 [.int .i64 j]) :: (b4, Blk 3 [.int .i64 i]) :: (b3, Blk 27 (hvL g)) :: L) [3, 4] [0, 1, 3, 4] [] [12, 13] (k := 4) (k2 := 0) (by repeat (first | exact List.Perm.refl _ | assumption | (with_reducible refine Perm.pick (by repeat (first | exact Pick.here | apply Pick.there)) ?_))) (by kernel_rfl) prog_mixed (by kernel_rfl) (by kernel_rfl) rfl ?_; refine Zew rfl Zla ?_; refine Zew rfl Val_makeFunc ?_; refine Zew rfl Zld ?_; refine Zew rfl Zld ?_)) | (with_reducible apply EWalk_nil) | (refine GiC ?_; first | (refine AnyC_1 2 (by repeat (first | exact Sub.refl _ | assumption | exact Sub.left | apply Sub.sv | apply Sub.cons | apply Sub.app)) (by decide +kernel) rfl ?_) | (refine AnyC_1 5 (by repeat (first | exact Sub.refl _ | assumption | exact Sub.left | apply Sub.sv | apply Sub.cons | apply Sub.app)) (by decide +kernel) rfl ?_)) | (refine Zhp ?_) | (refine AWalk_0 ?_) | (with_reducible apply QC_normal) | (refine QC_panic (fun e9 he9 => ?_)))
      all_goals ((try refine HThen.panic (by assumption) ?_); refine QLeave_panic ?_; refine Lv_stop1 N w0 stops45 (by repeat (first | exact Up.here | apply Up.there | apply Up.sv)) ?_; refine Lv_nil rfl (.cellN ((he9 6 rfl).trans rfl) (by repeat (first | exact Mem.here | assumption | apply Mem.there | apply Mem.sv | apply Mem.app)) (.here (.cons (.cons .nil))) (.cell1 ((he9 7 rfl).trans rfl) (by repeat (first | exact Mem.here | assumption | apply Mem.there | apply Mem.sv | apply Mem.app)) rfl .nil)) rfl ?_; exact ⟨rfl, (by repeat (first | exact Wk.refl _ | apply Wk.keep1 | apply Wk.drop | apply Wk.sv | apply Wk.svD | apply Wk.appD))⟩)
    · have he : errE g.h (WetOk g.h i j) = 0 := by simp [errE, hvb, hwo, h0]
      have hz : WetV g.h i j = wetS g.h i j := by unfold WetV; rw [he, if_pos rfl]; simp
      have hwet := fun b m L hS => wet_ret N w0 L { g with b := b, m := m } hS hv (hA' b m) i j hi1 hj1 h0
      rw [he, hz]
      unfold heapV hvL at hop' ⊢
      repeat' (first | (refine GiP ?_; first | (refine Znh ?_) | (with_reducible refine Znl ?_) | (refine Zatd 11 ?_; refine OPS_retKS (Enters_fn rfl) (hop' b4 b5 _ (by repeat (first | exact Sub.refl _ | assumption | exact Sub.left | apply Sub.cons | apply Sub.sv | apply Sub.app))) rfl rfl rfl (fun v11 L11 h11 => ?_); obtain ⟨bb, mm, rfl, rfl⟩ := h11) | (refine Zatd 14 ?_; refine Zcl (Enters_fn rfl) (hwet bb mm _ (by repeat (first | exact Sub.refl _ | assumption | exact Sub.left | apply Sub.cons | apply Sub.sv | apply Sub.app))) ?_) | (refine Zatn ?_; refine Zst ?_)) | (refine GiW ?_; first | (refine Zsq fun K hK => ?_) | (refine ZrN 0 fun _ => ?_; refine Zal 3 fun b3 => ?_; refine Zal 4 fun b4 => ?_; refine Zal 5 fun b5 => ?_; refine Zal 6 fun b6 => ?_; refine Zal 7 fun b7 => ?_) | (refine ZrN 1 fun _ => ?_; refine Zv Val_makeFunc ?_; refine OPS_defer rfl ?_) | (with_reducible apply WP_ret) | (refine WP_drawnC (id := 2) ([(b7, Blk 32 [.int .i64 0]), (b6, Blk 31 [.int .i64 0, .int .i64 0])]) ((b5, Blk 3 [.int .i64 j]) :: (b4, Blk 3 [.int .i64 i]) :: (b3, Blk 27 (hvL g)) :: L) [3, 4] [0, 1, 3, 4] [] [12, 13] (k := 4) (k2 := 0) (by repeat (first | exact List.Perm.refl _ | assumption | (with_reducible refine Perm.pick (by repeat (first | exact Pick.here | apply Pick.there)) ?_))) (by kernel_rfl) prog_mixed (by kernel_rfl) (by kernel_rfl) rfl ?_; refine Zew rfl Zla ?_; refine Zew rfl Val_makeFunc ?_; refine Zew rfl Zld ?_; refine Zew rfl Zld ?_)) | (with_reducible apply EWalk_nil) | (refine GiC ?_; first | (refine AnyC_done (by repeat (first | exact Sub.refl _ | assumption | exact Sub.left | apply Sub.sv | apply Sub.cons | apply Sub.app)) (by kernel_rfl) ?_) | (refine AnyC_1 2 (by repeat (first | exact Sub.refl _ | assumption | exact Sub.left | apply Sub.sv | apply Sub.cons | apply Sub.app)) (by decide +kernel) rfl ?_) | (refine AnyC_1 5 (by repeat (first | exact Sub.refl _ | assumption | exact Sub.left | apply Sub.sv | apply Sub.cons | apply Sub.app)) (by decide +kernel) rfl ?_) | (refine AnyC_1 6 (by repeat (first | exact Sub.refl _ | assumption | exact Sub.left | apply Sub.sv | apply Sub.cons | apply Sub.app)) (by decide +kernel) rfl ?_) | (refine AnyC_1 7 (by repeat (first | exact Sub.refl _ | assumption | exact Sub.left | apply Sub.sv | apply Sub.cons | apply Sub.app)) (by decide +kernel) rfl ?_)) | (refine Zhn ?_) | (refine AWalk_0 ?_) | (with_reducible apply QC_normal))
      refine QLeave_ret ?_; refine Lv_stop0 N w0 stops45 ?_; refine Lv_nil rfl (.cellN rfl (by repeat (first | exact Mem.here | assumption | apply Mem.there | apply Mem.sv | apply Mem.app)) (.here (.cons (.cons .nil))) (.cell1 rfl (by repeat (first | exact Mem.here | assumption | apply Mem.there | apply Mem.sv | apply Mem.app)) rfl .nil)) rfl ?_
      exact ⟨rfl, (by repeat (first | exact Wk.refl _ | apply Wk.keep1 | apply Wk.drop | apply Wk.sv | apply Wk.svD | apply Wk.appD))⟩
  · have hno : vB g.h = false ∨ WetOk g.h heap day = false := by
      cases h1 : vB g.h <;> cases h2 : WetOk g.h heap day <;> simp_all
    have hz : WetV g.h heap day = (0, 0) := by
      have : errE g.h (WetOk g.h heap day) ≠ 0 := by unfold errE; rcases hno with h | h <;> simp [h] <;> (split <;> omega)
      unfold WetV; rw [if_neg this]
    have hop' := fun b4 b5 L h => open_no N w0 (hop b4 b5 L h) hno
    rw [hz]
    unfold heapV hvL at hop' ⊢
    repeat' (first | (refine GiP ?_; first | (refine Znh ?_) | (refine Zatd 11 ?_; refine OPS_pan (Enters_fn rfl) (hop' b4 b5 _ (by repeat (first | exact Sub.refl _ | assumption | exact Sub.left | apply Sub.cons | apply Sub.sv | apply Sub.app))) rfl rfl ?_)) | (refine GiW ?_; first | (refine Zsq fun K hK => ?_) | (refine ZrN 0 fun _ => ?_; refine Zal 3 fun b3 => ?_; refine Zal 4 fun b4 => ?_; refine Zal 5 fun b5 => ?_; refine Zal 6 fun b6 => ?_; refine Zal 7 fun b7 => ?_) | (refine ZrN 1 fun _ => ?_; refine Zv Val_makeFunc ?_; refine OPS_defer rfl ?_) | (refine WP_drawnC (id := 2) ([(b7, Blk 32 [.int .i64 0]), (b6, Blk 31 [.int .i64 0, .int .i64 0])]) ((b5, Blk 3 [.int .i64 day]) :: (b4, Blk 3 [.int .i64 heap]) :: (b3, Blk 27 (hvL g)) :: L) [3, 4] [0, 1, 3, 4] [] [12, 13] (k := 4) (k2 := 0) (by repeat (first | exact List.Perm.refl _ | assumption | (with_reducible refine Perm.pick (by repeat (first | exact Pick.here | apply Pick.there)) ?_))) (by kernel_rfl) prog_mixed (by kernel_rfl) (by kernel_rfl) rfl ?_; refine Zew rfl Zla ?_; refine Zew rfl Val_makeFunc ?_; refine Zew rfl Zld ?_; refine Zew rfl Zld ?_)) | (with_reducible apply EWalk_nil) | (refine AnyC_1 2 (by repeat (first | exact Sub.refl _ | assumption | exact Sub.left | apply Sub.sv | apply Sub.cons | apply Sub.app)) (by decide +kernel) rfl ?_) | (refine Zhp ?_) | (refine AWalk_0 ?_) | (refine QC_panic (fun e9 he9 => ?_)))
    all_goals ((try refine HThen.panic (by assumption) ?_); refine QLeave_panic ?_; refine Lv_stop1 N w0 stops45 (by repeat (first | exact Up.here | apply Up.there | apply Up.sv)) ?_; refine Lv_nil rfl (.cellN ((he9 6 rfl).trans rfl) (by repeat (first | exact Mem.here | assumption | apply Mem.there | apply Mem.sv | apply Mem.app)) (.here (.cons (.cons .nil))) (.cell1 ((he9 7 rfl).trans rfl) (by repeat (first | exact Mem.here | assumption | apply Mem.there | apply Mem.sv | apply Mem.app)) rfl .nil)) rfl ?_; exact ⟨rfl, (by repeat (first | exact Wk.refl _ | apply Wk.keep1 | apply Wk.drop | apply Wk.sv | apply Wk.svD | apply Wk.appD))⟩)
end
end Go.Proofs.Ytlpahkmfjpjheaa
end

section
namespace Go.Proofs.Ytlpahkmfjpjheaa
open Go.RowKit
/-- How much rain there was on a day. -/
def rainR (day : Nat) (r : List Int) : Sp := (r.getD day 0, r.getD day 0)
def rainS (h : Hv) (day : Nat) : Sp := jn ((toldL h).map (rainR day))
def DayOk (h : Hv) (day : Int) : Bool := within day 0 (h.rains.length - 1)
def RainV (h : Hv) (day : Int) : Sp := if errE h (DayOk h day) = 0 then rainS h day.toNat else (0, 0)
theorem errE_ne {h : Hv} {ok : Bool} (h1 : vB h = false ∨ ok = false) : errE h ok ≠ 0 := by
  unfold errE; rcases h1 with h | h <;> simp [h] <;> (split <;> omega)
theorem no_of {a b : Bool} (h : ¬ (a = true ∧ b = true)) : a = false ∨ b = false := by cases a <;> cases b <;> simp_all
attribute [local irreducible] AnyO AnyB QAny QB EWalk AWalk Ev WP OPS QThen QBlock QScope QLoop QBody Val New Turn Tri Enters PostA Blk Ro
attribute [local irreducible] AnyC QC
section
variable (N : Nat) (w0 : World)
theorem day57_ret (g : Bg) (b3 : Nat) (day : Int) (b m : Nat) (L' : Hp) (hS : Sub ((b, Blk 94 (bogL { g with b := b, m := m })) :: [(b3, Blk 3 [.int .i64 day])]) L') (hv : VH g.h) :
    Ret Try.prog N w0 L' 57 (.pointer (some ⟨b, 0, none⟩) :: [.pointer (some ⟨b3, 0, none⟩)]).toArray (.bool (DayOk g.h day)) := by
  have hnr := hv.nr
  obtain ⟨g', hg'⟩ : ∃ g' : Bg, { g with b := b, m := m } = g' := ⟨_, rfl⟩
  have hgh : g'.h = g.h := by rw [← hg']
  have hgb : g'.b = b := by rw [← hg']
  have hid := fun L n hm => isDay_ret N w0 L g' n hm (by rw [hgh]; omega)
  rw [hgh, hgb] at hid
  rw [hg'] at hS
  refine Ret.sub hS fun L0 => ?_
  simp only [List.cons_append, List.nil_append]
  refine tri_of_WP Try.func57 rfl (n := 7) rfl (by simp) ?_
  repeat' (first | (refine Znh ?_) | (refine GiW ?_; first | (refine Zsq fun K hK => ?_) | (refine ZrN 0 fun _ => ?_; refine Zv Zab ?_) | (refine ZrN 1 fun _ => ?_; refine Zv Zmv ?_; refine Zv Zld ?_; refine Zcl (Enters_fn rfl) (hid _ _ (by repeat (first | exact Mem.here | assumption | apply Mem.there | apply Mem.sv | apply Mem.app))) ?_; refine Zv Zab ?_) | (with_reducible apply WP_ret)))
  exact QBody_ret1 rfl (rfl : _ = Value.bool _) ⟨rfl, rfl⟩
theorem rain_meas (g : Bg) (hv : VH g.h) (day : Nat) (hd : day < g.h.rains.length) (b3 : Nat) : Meas N w0 g.h 59 [.pointer (some ⟨b3, 0, none⟩)] (rainR day) [(b3, Blk 3 [.int .i64 day])] := by
  intro r0 r1 r2 r3 r4 r5 hr L hS
  have hnr := hv.nr
  obtain ⟨rk, hrk⟩ : ∃ rk, [r0, r1, r2, r3, r4, r5][day]? = some rk := ⟨_, List.getElem?_eq_getElem (by simp; omega)⟩
  have hcell : [Value.int .i64 r0, .int .i64 r1, .int .i64 r2, .int .i64 r3, .int .i64 r4, .int .i64 r5][0 + day]? = some (.int .i64 rk) := by
    have : [Value.int .i64 r0, .int .i64 r1, .int .i64 r2, .int .i64 r3, .int .i64 r4, .int .i64 r5] = [r0, r1, r2, r3, r4, r5].map (Value.int .i64) := rfl
    rw [this, List.getElem?_map, Nat.zero_add, hrk]; rfl
  have hrr : rainR day [r0, r1, r2, r3, r4, r5] = (rk, rk) := by unfold rainR; rw [List.getD_eq_getElem?_getD, hrk]; rfl
  rw [hrr]
  refine Ret.sub hS fun L0 => ?_
  simp only [List.cons_append, List.nil_append]
  refine Ret.fgt ?_
  refine tri_of_WP Try.func59 rfl (n := 11) rfl (by simp) ?_
  repeat' (first | (refine GiP ?_; first | (refine Znh ?_) | (with_reducible refine Znl ?_) | (refine Zatn ?_; refine Zst ?_)) | (refine GiW ?_; first | (refine Zsq fun K hK => ?_) | (refine ZrN 0 fun _ => ?_; refine Zal 2 fun b2 => ?_; refine Zal 3 fun b3 => ?_) | (with_reducible apply WP_ret) | (refine WP_drawn (id := 1) [0, 1, 2, 3, 4, 5, 6] [] (k := 1) prog_mixed (by kernel_rfl) rfl ?_; refine Zew rfl Zld ?_; refine Zew rfl ZiA ?_; refine Zew rfl Zld ?_; refine Zew rfl Zld ?_; refine Zew rfl ZiA ?_; refine Zew rfl Zld ?_; refine Zew rfl Zxbu ?_)) | (with_reducible apply EWalk_nil) | (refine GiO ?_; first | (refine AnyO_done (by kernel_rfl) ?_; (try with_reducible apply noP_normal); try with_reducible exact key.out) | (refine AnyO_1 7 (by decide +kernel) rfl ?_)) | (refine Zhn ?_) | (refine AWalk_0 ?_; refine ZisO ?_; apply shr; intro key) | (with_reducible apply QAny_normal))
  exact QBody_res rfl (.cellN rfl (by repeat (first | exact Mem.here | assumption | apply Mem.there | apply Mem.sv | apply Mem.app)) (.here (.cons (.cons .nil))) .nil) rfl ⟨rfl, (by repeat (first | exact Wk.refl _ | apply Wk.keep1 | apply Wk.drop | apply Wk.sv | apply Wk.svD | apply Wk.appD))⟩
theorem Rain_ret (L : Hp) (g : Bg) (hA : HeapAt N w0 g) (day : Int) :
    Ret Try.prog N w0 L 16 [heapV g, .int .i64 day].toArray (.tuple [.agg [.int .i64 (RainV g.h day).1, .int .i64 (RainV g.h day).2].toArray, .int .i64 (errE g.h (DayOk g.h day))].toArray) := by
  refine Ret.fgt ?_
  refine tri_of_WPL Try.func16 rfl (n := 12) rfl (by simp) ?_
  have hop : ∀ (b3 : Nat) (L : Hp), Sub [(b3, Blk 3 [.int .i64 day])] L → OpenR N w0 g (DayOk g.h day) 57 [.pointer (some ⟨b3, 0, none⟩)] L := fun b3 L h =>
    open_tri N w0 L g hA _ 57 _ _ h (fun b m L' h h2 => day57_ret N w0 g b3 day b m L' h h2)
  by_cases hok : vB g.h = true ∧ DayOk g.h day = true
  · obtain ⟨hvb, hwo⟩ := hok
    have hv := VH_of hvb
    have hop' := fun b3 L h => open_ok N w0 (hop b3 L h) hvb hwo
    have hwo2 := hwo
    simp only [DayOk, within, Bool.and_eq_true, decide_eq_true_eq] at hwo2
    obtain ⟨j, rfl⟩ : ∃ j : Nat, day = j := ⟨day.toNat, by omega⟩
    have hj1 : j < g.h.rains.length := by omega
    have hA' : ∀ b m, HeapAt N w0 { g with b := b, m := m } := fun b m => ⟨hA.heaps, hA.rains, hA.looks⟩
    by_cases h0 : toldL g.h = []
    · have he : errE g.h (DayOk g.h j) = 10 := by simp [errE, hvb, hwo, h0]
      have hz : RainV g.h j = (0, 0) := by unfold RainV; rw [he, if_neg (by omega)]
      have hsp := fun b3 b m L hS hN => span_no N w0 L { g with b := b, m := m } hS hv (hA' b m) 59 _ (rainR j) _ hN (rain_meas N w0 g hv j hj1 b3) h0
      rw [he, hz]
      unfold heapV hvL at hop' ⊢
      repeat' (first | (refine Znh ?_) | (refine GiW ?_; first | (refine Zsq fun K hK => ?_) | (refine ZrN 0 fun _ => ?_; refine Zal 2 fun b2 => ?_; refine Zal 3 fun b3 => ?_; refine Zal 4 fun b4 => ?_; refine Zal 5 fun b5 => ?_) | (refine ZrN 1 fun _ => ?_; refine Zv Val_makeFunc ?_; refine OPS_defer rfl ?_) | (refine ZrN 2 fun _ => ?_; refine Zv Zla ?_; refine Zv Val_makeFunc ?_; refine OPS_retKS (Enters_fn rfl) (hop' b3 _ (by repeat (first | exact Sub.refl _ | assumption | exact Sub.left | apply Sub.cons | apply Sub.sv | apply Sub.app))) rfl rfl rfl (fun v9 L9 h9 => ?_); obtain ⟨bb, mm, rfl, rfl⟩ := h9; refine Zv Val_makeFunc ?_; refine OPS_pan (Enters_fn rfl) (hsp b3 bb mm _ (by repeat (first | exact Sub.refl _ | assumption | exact Sub.left | apply Sub.cons | apply Sub.sv | apply Sub.app)) (by repeat (first | exact Sub.refl _ | assumption | exact Sub.left | apply Sub.cons | apply Sub.sv | apply Sub.app))) rfl rfl ?_)) | (refine Zhp ?_))
      refine QLeave_panic ?_; refine Lv_stop1 N w0 stops56 (by repeat (first | exact Up.here | apply Up.there | apply Up.sv)) ?_; refine Lv_nil rfl (.cellN rfl (by repeat (first | exact Mem.here | assumption | apply Mem.there | apply Mem.sv | apply Mem.app)) (.here (.cons (.cons .nil))) (.cell1 rfl (by repeat (first | exact Mem.here | assumption | apply Mem.there | apply Mem.sv | apply Mem.app)) rfl .nil)) rfl ?_; exact ⟨rfl, (by repeat (first | exact Wk.refl _ | apply Wk.keep1 | apply Wk.drop | apply Wk.sv | apply Wk.svD | apply Wk.appD))⟩
    · have he : errE g.h (DayOk g.h j) = 0 := by simp [errE, hvb, hwo, h0]
      have hz : RainV g.h j = rainS g.h j := by unfold RainV; rw [he, if_pos rfl]; simp
      have hsp := fun b3 b m L hS hN => span_ret N w0 L { g with b := b, m := m } hS hv (hA' b m) 59 _ (rainR j) _ hN (rain_meas N w0 g hv j hj1 b3) h0
      rw [he, hz]
      unfold heapV hvL at hop' ⊢
      repeat' (first | (refine Znh ?_) | (refine GiW ?_; first | (refine Zsq fun K hK => ?_) | (refine ZrN 0 fun _ => ?_; refine Zal 2 fun b2 => ?_; refine Zal 3 fun b3 => ?_; refine Zal 4 fun b4 => ?_; refine Zal 5 fun b5 => ?_) | (refine ZrN 1 fun _ => ?_; refine Zv Val_makeFunc ?_; refine OPS_defer rfl ?_) | (refine ZrN 2 fun _ => ?_; refine Zv Zla ?_; refine Zv Val_makeFunc ?_; refine OPS_retKS (Enters_fn rfl) (hop' b3 _ (by repeat (first | exact Sub.refl _ | assumption | exact Sub.left | apply Sub.cons | apply Sub.sv | apply Sub.app))) rfl rfl rfl (fun v9 L9 h9 => ?_); obtain ⟨bb, mm, rfl, rfl⟩ := h9; refine Zv Val_makeFunc ?_; refine Zcl (Enters_fn rfl) (hsp b3 bb mm _ (by repeat (first | exact Sub.refl _ | assumption | exact Sub.left | apply Sub.cons | apply Sub.sv | apply Sub.app)) (by repeat (first | exact Sub.refl _ | assumption | exact Sub.left | apply Sub.cons | apply Sub.sv | apply Sub.app))) ?_; refine Zst ?_; refine Zst ?_) | (with_reducible apply WP_ret)))
      refine QLeave_ret ?_; refine Lv_stop0 N w0 stops56 ?_; refine Lv_nil rfl (.cellN rfl (by repeat (first | exact Mem.here | assumption | apply Mem.there | apply Mem.sv | apply Mem.app)) (.here (.cons (.cons .nil))) (.cell1 rfl (by repeat (first | exact Mem.here | assumption | apply Mem.there | apply Mem.sv | apply Mem.app)) rfl .nil)) rfl ?_; exact ⟨rfl, (by repeat (first | exact Wk.refl _ | apply Wk.keep1 | apply Wk.drop | apply Wk.sv | apply Wk.svD | apply Wk.appD))⟩
  · have hno := no_of hok
    have hz : RainV g.h day = (0, 0) := by unfold RainV; rw [if_neg (errE_ne hno)]
    have hop' := fun b3 L h => open_no N w0 (hop b3 L h) hno
    rw [hz]
    unfold heapV hvL at hop' ⊢
    repeat' (first | (refine Znh ?_) | (refine GiW ?_; first | (refine Zsq fun K hK => ?_) | (refine ZrN 0 fun _ => ?_; refine Zal 2 fun b2 => ?_; refine Zal 3 fun b3 => ?_; refine Zal 4 fun b4 => ?_; refine Zal 5 fun b5 => ?_) | (refine ZrN 1 fun _ => ?_; refine Zv Val_makeFunc ?_; refine OPS_defer rfl ?_) | (refine ZrN 2 fun _ => ?_; refine Zv Zla ?_; refine Zv Val_makeFunc ?_; refine OPS_pan (Enters_fn rfl) (hop' b3 _ (by repeat (first | exact Sub.refl _ | assumption | exact Sub.left | apply Sub.cons | apply Sub.sv | apply Sub.app))) rfl rfl ?_)) | (refine Zhp ?_))
    refine QLeave_panic ?_; refine Lv_stop1 N w0 stops56 (by repeat (first | exact Up.here | apply Up.there | apply Up.sv)) ?_; refine Lv_nil rfl (.cellN rfl (by repeat (first | exact Mem.here | assumption | apply Mem.there | apply Mem.sv | apply Mem.app)) (.here (.cons (.cons .nil))) (.cell1 rfl (by repeat (first | exact Mem.here | assumption | apply Mem.there | apply Mem.sv | apply Mem.app)) rfl .nil)) rfl ?_; exact ⟨rfl, (by repeat (first | exact Wk.refl _ | apply Wk.keep1 | apply Wk.drop | apply Wk.sv | apply Wk.svD | apply Wk.appD))⟩
end
end Go.Proofs.Ytlpahkmfjpjheaa
end

section
namespace Go.Proofs.Ytlpahkmfjpjheaa
open Go.RowKit
def DryV (h : Hv) (heap day : Int) : Int := if errE h (WetOk h heap day) = 0 then (if (wetS h heap.toNat day.toNat).2 ≤ h.limit then 2 else if (wetS h heap.toNat day.toNat).1 > h.limit then 0 else 1) else 0
attribute [local irreducible] AnyO AnyB QAny QB EWalk AWalk Ev WP OPS QThen QBlock QScope QLoop QBody Val New Turn Tri Enters PostA Blk Ro
attribute [local irreducible] AnyC QC
section
variable (N : Nat) (w0 : World)
theorem dryOk_ret (g : Bg) (b4 b5 : Nat) (heap day : Int) (b m : Nat) (L' : Hp) (hS : Sub ((b, Blk 94 (bogL { g with b := b, m := m })) :: [(b5, Blk 3 [.int .i64 day]), (b4, Blk 3 [.int .i64 heap])]) L') (hv : VH g.h) :
    Ret Try.prog N w0 L' 62 (.pointer (some ⟨b, 0, none⟩) :: [.pointer (some ⟨b4, 0, none⟩), .pointer (some ⟨b5, 0, none⟩)]).toArray (.bool (WetOk g.h heap day)) := by
  have hnh := hv.nh
  have hnr := hv.nr
  obtain ⟨g', hg'⟩ : ∃ g' : Bg, { g with b := b, m := m } = g' := ⟨_, rfl⟩
  have hgh : g'.h = g.h := by rw [← hg']
  have hgb : g'.b = b := by rw [← hg']
  have hih := fun L n hm => isHeap_ret N w0 L g' n hm (by rw [hgh]; omega)
  have hid := fun L n hm => isDay_ret N w0 L g' n hm (by rw [hgh]; omega)
  rw [hgh, hgb] at hih hid
  rw [hg'] at hS
  refine Ret.sub hS fun L0 => ?_
  simp only [List.cons_append, List.nil_append]
  refine tri_of_WP Try.func62 rfl (n := 13) rfl (by simp) ?_
  repeat' (first | (refine GiP ?_; first | (refine Znh ?_) | (refine Zatd 12 ?_; (first | (refine Zv Zxpt ?_) | (refine Zv Zxpf ?_)); refine Zv Zab ?_) | (refine Zatd 9 ?_; refine Zv Zmv ?_) | (refine Zatd 10 ?_; refine Zv Zld ?_) | (refine Zatd 11 ?_; refine Zcl (Enters_fn rfl) (hid _ _ (by repeat (first | exact Mem.here | assumption | apply Mem.there | apply Mem.sv | apply Mem.app))) ?_) | (refine Zsk ?_) | (refine Zsp (fun hc => ?_) (fun hc => ?_) <;> (try (exfalso; omega)))) | (refine GiW ?_; first | (refine Zsq fun K hK => ?_) | (refine ZrN 0 fun _ => ?_; refine Zv Zab ?_) | (refine ZrG 1 ?_; refine Zv Zmv ?_; refine Zv Zld ?_; refine Zcl (Enters_fn rfl) (hih _ _ (by repeat (first | exact Mem.here | assumption | apply Mem.there | apply Mem.sv | apply Mem.app))) ?_; refine Zv Zmb ?_) | (with_reducible apply WP_ret)))
  · exact QBody_ret1 rfl (rfl : _ = Value.bool _) ⟨by simp [WetOk, *], rfl⟩
  · exact QBody_ret1 rfl (rfl : _ = Value.bool _) ⟨by simp [WetOk, *], rfl⟩
set_option maxHeartbeats 2000000 in
theorem Dry_ret (L : Hp) (g : Bg) (hA : HeapAt N w0 g) (heap day : Int) :
    Ret Try.prog N w0 L 18 [heapV g, .int .i64 heap, .int .i64 day].toArray (.tuple [.int .i64 (DryV g.h heap day), .int .i64 (errE g.h (WetOk g.h heap day))].toArray) := by
  refine Ret.fgt ?_
  refine tri_of_WPL Try.func18 rfl (n := 28) rfl (by simp) ?_
  have hop : ∀ (b4 b5 : Nat) (L : Hp), Sub [(b5, Blk 3 [.int .i64 day]), (b4, Blk 3 [.int .i64 heap])] L → OpenR N w0 g (WetOk g.h heap day) 62 [.pointer (some ⟨b4, 0, none⟩), .pointer (some ⟨b5, 0, none⟩)] L := fun b4 b5 L h =>
    open_tri N w0 L g hA _ 62 _ _ h (fun b m L' h h2 => dryOk_ret N w0 g b4 b5 heap day b m L' h h2)
  by_cases hok : vB g.h = true ∧ WetOk g.h heap day = true
  · obtain ⟨hvb, hwo⟩ := hok
    have hv := VH_of hvb
    have hop' := fun b4 b5 L h => open_ok N w0 (hop b4 b5 L h) hvb hwo
    have hwo2 := hwo
    simp only [WetOk, within, Bool.and_eq_true, decide_eq_true_eq] at hwo2
    obtain ⟨i, rfl⟩ : ∃ i : Nat, heap = i := ⟨heap.toNat, by omega⟩
    obtain ⟨j, rfl⟩ : ∃ j : Nat, day = j := ⟨day.toNat, by omega⟩
    have hi1 : i < g.h.heaps.length := by omega
    have hj1 : j < g.h.rains.length := by omega
    have hA' : ∀ b m, HeapAt N w0 { g with b := b, m := m } := fun b m => ⟨hA.heaps, hA.rains, hA.looks⟩
    by_cases h0 : toldL g.h = []
    · have he : errE g.h (WetOk g.h i j) = 10 := by simp [errE, hvb, hwo, h0]
      have hz : DryV g.h i j = 0 := by unfold DryV; rw [he, if_neg (by omega)]
      have hwet := fun b m L hS => wet_no N w0 L { g with b := b, m := m } hS hv (hA' b m) i j hi1 hj1 h0
      rw [he, hz]
      unfold heapV hvL at hop' ⊢
      repeat' (first | (refine GiP ?_; first | (refine Znh ?_) | (with_reducible refine Znl ?_) | (refine Zatd 12 ?_; refine OPS_retKS (Enters_fn rfl) (hop' b4 b5 _ (by repeat (first | exact Sub.refl _ | assumption | exact Sub.left | apply Sub.cons | apply Sub.sv | apply Sub.app))) rfl rfl rfl (fun v12 L12 h12 => ?_); obtain ⟨bb, mm, rfl, rfl⟩ := h12) | (refine Zatd 15 ?_; refine OPS_pan (Enters_fn rfl) (hwet bb mm _ (by repeat (first | exact Sub.refl _ | assumption | exact Sub.left | apply Sub.cons | apply Sub.sv | apply Sub.app))) rfl rfl ?_) | (refine Zatd 8 ?_; refine Zal 8 fun b8 => ?_)) | (refine GiW ?_; first | (refine Zsq fun K hK => ?_) | (refine ZrN 0 fun _ => ?_; refine Zal 3 fun b3 => ?_; refine Zal 4 fun b4 => ?_; refine Zal 5 fun b5 => ?_; refine Zv Zai ?_; refine Zal 7 fun b7 => ?_) | (refine ZrN 1 fun _ => ?_; refine Zv Val_makeFunc ?_; refine OPS_defer rfl ?_) | (refine WP_drawnC (id := 2) ([]) ((b7, Blk 32 [.int .i64 0]) :: (b5, Blk 3 [.int .i64 j]) :: (b4, Blk 3 [.int .i64 i]) :: (b3, Blk 27 (hvL g)) :: L) [0, 1, 3, 4] [0, 1, 3, 4] [] [10, 11, 13, 14] (k := 4) (k2 := 0) (by repeat (first | exact List.Perm.refl _ | assumption | (with_reducible refine Perm.pick (by repeat (first | exact Pick.here | apply Pick.there)) ?_))) (by kernel_rfl) prog_mixed (by kernel_rfl) (by kernel_rfl) rfl ?_; refine Zew rfl Zla ?_; refine Zew rfl Val_makeFunc ?_; refine Zew rfl Zld ?_; refine Zew rfl Zld ?_)) | (with_reducible apply EWalk_nil) | (refine GiC ?_; first | (refine AnyC_1 2 (by repeat (first | exact Sub.refl _ | assumption | exact Sub.left | apply Sub.sv | apply Sub.cons | apply Sub.app)) (by decide +kernel) rfl ?_) | (refine AnyC_2 2 6 (by repeat (first | exact Sub.refl _ | assumption | exact Sub.left | apply Sub.sv | apply Sub.cons | apply Sub.app)) (by decide +kernel) rfl rfl ?_ ?_) | (refine AnyC_1 5 (by repeat (first | exact Sub.refl _ | assumption | exact Sub.left | apply Sub.sv | apply Sub.cons | apply Sub.app)) (by decide +kernel) rfl ?_) | (refine AnyC_2 5 6 (by repeat (first | exact Sub.refl _ | assumption | exact Sub.left | apply Sub.sv | apply Sub.cons | apply Sub.app)) (by decide +kernel) rfl rfl ?_ ?_)) | (refine Zhp ?_) | (refine AWalk_0 ?_) | (with_reducible apply QC_normal) | (refine QC_panic (fun e9 he9 => ?_)))
      all_goals ((repeat (refine HThen.panic (by assumption) ?_)); refine QLeave_panic ?_; refine Lv_stop1 N w0 stops61 (by repeat (first | exact Up.here | apply Up.there | apply Up.sv)) ?_; refine Lv_nil rfl (.tmp ((he9 6 rfl).trans (rfl : _ = Value.int _ _)) (.cell1 ((he9 7 rfl).trans rfl) (by repeat (first | exact Mem.here | assumption | apply Mem.there | apply Mem.sv | apply Mem.app)) rfl .nil)) rfl ?_; exact ⟨rfl, (by repeat (first | exact Wk.refl _ | apply Wk.keep1 | apply Wk.drop | apply Wk.sv | apply Wk.svD | apply Wk.appD))⟩)
    · have he : errE g.h (WetOk g.h i j) = 0 := by simp [errE, hvb, hwo, h0]
      have hz : DryV g.h i j = (if (wetS g.h i j).2 ≤ g.h.limit then 2 else if (wetS g.h i j).1 > g.h.limit then 0 else 1) := by unfold DryV; rw [he, if_pos rfl]; simp
      have hwet := fun b m L hS => wet_ret N w0 L { g with b := b, m := m } hS hv (hA' b m) i j hi1 hj1 h0
      rw [he, hz]
      unfold heapV hvL at hop' ⊢
      repeat' (first | (refine GiP ?_; first | (refine Znh ?_) | (with_reducible refine Znl ?_) | (refine Zatd 12 ?_; refine OPS_retKS (Enters_fn rfl) (hop' b4 b5 _ (by repeat (first | exact Sub.refl _ | assumption | exact Sub.left | apply Sub.cons | apply Sub.sv | apply Sub.app))) rfl rfl rfl (fun v12 L12 h12 => ?_); obtain ⟨bb, mm, rfl, rfl⟩ := h12) | (refine Zatd 15 ?_; refine Zcl (Enters_fn rfl) (hwet bb mm _ (by repeat (first | exact Sub.refl _ | assumption | exact Sub.left | apply Sub.cons | apply Sub.sv | apply Sub.app))) ?_) | (refine Zatd 8 ?_; refine Zal 8 fun b8 => ?_) | (refine Zatn ?_; refine Zst ?_)) | (refine GiW ?_; first | (refine Zsq fun K hK => ?_) | (refine ZrN 0 fun _ => ?_; refine Zal 3 fun b3 => ?_; refine Zal 4 fun b4 => ?_; refine Zal 5 fun b5 => ?_; refine Zv Zai ?_; refine Zal 7 fun b7 => ?_) | (refine ZrN 1 fun _ => ?_; refine Zv Val_makeFunc ?_; refine OPS_defer rfl ?_) | (refine ZrN 3 fun _ => ?_; refine Zv Zfa ?_; refine Zv Zld ?_; refine Zv Zfa ?_; refine Zv Zld ?_; refine Zv Zxleq ?_; refine Zv Zab ?_) | (refine ZrN 4 fun _ => ?_; refine Zv Zai ?_; refine Zst ?_) | (refine ZrN 5 fun _ => ?_; refine Zv Zf0 ?_; refine Zv Zld ?_; refine Zv Zfa ?_; refine Zv Zld ?_; refine Zv Zxgtr ?_; refine Zv Zab ?_) | (refine ZrN 6 fun _ => ?_; refine Zv Zai ?_; refine Zst ?_) | (refine ZrN 7 fun _ => ?_; refine Zv Zai ?_; refine Zst ?_) | (refine Zcd (fun hc => ?_) (fun hc => ?_) <;> (try (exfalso; omega))) | (with_reducible apply WP_skip) | (with_reducible apply WP_block) | (with_reducible apply WP_ret) | (refine WP_drawnC (id := 2) ([]) ((b7, Blk 32 [.int .i64 0]) :: (b5, Blk 3 [.int .i64 j]) :: (b4, Blk 3 [.int .i64 i]) :: (b3, Blk 27 (hvL g)) :: L) [0, 1, 3, 4] [0, 1, 3, 4] [] [10, 11, 13, 14] (k := 4) (k2 := 0) (by repeat (first | exact List.Perm.refl _ | assumption | (with_reducible refine Perm.pick (by repeat (first | exact Pick.here | apply Pick.there)) ?_))) (by kernel_rfl) prog_mixed (by kernel_rfl) (by kernel_rfl) rfl ?_; refine Zew rfl Zla ?_; refine Zew rfl Val_makeFunc ?_; refine Zew rfl Zld ?_; refine Zew rfl Zld ?_)) | (with_reducible apply EWalk_nil) | (refine GiC ?_; first | (refine AnyC_done (by repeat (first | exact Sub.refl _ | assumption | exact Sub.left | apply Sub.sv | apply Sub.cons | apply Sub.app)) (by kernel_rfl) ?_) | (refine AnyC_1 2 (by repeat (first | exact Sub.refl _ | assumption | exact Sub.left | apply Sub.sv | apply Sub.cons | apply Sub.app)) (by decide +kernel) rfl ?_) | (refine AnyC_2 2 6 (by repeat (first | exact Sub.refl _ | assumption | exact Sub.left | apply Sub.sv | apply Sub.cons | apply Sub.app)) (by decide +kernel) rfl rfl ?_ ?_) | (refine AnyC_1 5 (by repeat (first | exact Sub.refl _ | assumption | exact Sub.left | apply Sub.sv | apply Sub.cons | apply Sub.app)) (by decide +kernel) rfl ?_) | (refine AnyC_2 5 6 (by repeat (first | exact Sub.refl _ | assumption | exact Sub.left | apply Sub.sv | apply Sub.cons | apply Sub.app)) (by decide +kernel) rfl rfl ?_ ?_) | (refine AnyC_1 6 (by repeat (first | exact Sub.refl _ | assumption | exact Sub.left | apply Sub.sv | apply Sub.cons | apply Sub.app)) (by decide +kernel) rfl ?_) | (refine AnyC_1 7 (by repeat (first | exact Sub.refl _ | assumption | exact Sub.left | apply Sub.sv | apply Sub.cons | apply Sub.app)) (by decide +kernel) rfl ?_)) | (refine Zhn ?_) | (with_reducible apply QBlock_normal) | (refine Zhr ?_) | (with_reducible apply QBlock_ret) | (refine AWalk_0 ?_) | (with_reducible apply QC_normal))
      all_goals (refine QLeave_ret ?_; refine Lv_stop0 N w0 stops61 ?_; refine Lv_nil rfl (.tmp (rfl : _ = Value.int _ _) (.cell1 rfl (by repeat (first | exact Mem.here | assumption | apply Mem.there | apply Mem.sv | apply Mem.app)) rfl .nil)) rfl ?_; refine ⟨?_, (by repeat (first | exact Wk.refl _ | apply Wk.keep1 | apply Wk.drop | apply Wk.sv | apply Wk.svD | apply Wk.appD))⟩)
      all_goals first | (rw [if_pos (show (wetS g.h i j).2 ≤ g.h.limit from by assumption)]; rfl) | (rw [if_neg (show ¬ (wetS g.h i j).2 ≤ g.h.limit from by assumption), if_pos (show (wetS g.h i j).1 > g.h.limit from by assumption)]; rfl) | (rw [if_neg (show ¬ (wetS g.h i j).2 ≤ g.h.limit from by assumption), if_neg (show ¬ (wetS g.h i j).1 > g.h.limit from by assumption)]; rfl)
  · have hno : vB g.h = false ∨ WetOk g.h heap day = false := by
      cases h1 : vB g.h <;> cases h2 : WetOk g.h heap day <;> simp_all
    have hz : DryV g.h heap day = 0 := by
      have : errE g.h (WetOk g.h heap day) ≠ 0 := by unfold errE; rcases hno with h | h <;> simp [h] <;> (split <;> omega)
      unfold DryV; rw [if_neg this]
    have hop' := fun b4 b5 L h => open_no N w0 (hop b4 b5 L h) hno
    rw [hz]
    unfold heapV hvL at hop' ⊢
    repeat' (first | (refine GiP ?_; first | (refine Znh ?_) | (with_reducible refine Znl ?_) | (refine Zatd 12 ?_; refine OPS_pan (Enters_fn rfl) (hop' b4 b5 _ (by repeat (first | exact Sub.refl _ | assumption | exact Sub.left | apply Sub.cons | apply Sub.sv | apply Sub.app))) rfl rfl ?_) | (refine Zatd 8 ?_; refine Zal 8 fun b8 => ?_)) | (refine GiW ?_; first | (refine Zsq fun K hK => ?_) | (refine ZrN 0 fun _ => ?_; refine Zal 3 fun b3 => ?_; refine Zal 4 fun b4 => ?_; refine Zal 5 fun b5 => ?_; refine Zv Zai ?_; refine Zal 7 fun b7 => ?_) | (refine ZrN 1 fun _ => ?_; refine Zv Val_makeFunc ?_; refine OPS_defer rfl ?_) | (refine WP_drawnC (id := 2) ([]) ((b7, Blk 32 [.int .i64 0]) :: (b5, Blk 3 [.int .i64 day]) :: (b4, Blk 3 [.int .i64 heap]) :: (b3, Blk 27 (hvL g)) :: L) [0, 1, 3, 4] [0, 1, 3, 4] [] [10, 11, 13, 14] (k := 4) (k2 := 0) (by repeat (first | exact List.Perm.refl _ | assumption | (with_reducible refine Perm.pick (by repeat (first | exact Pick.here | apply Pick.there)) ?_))) (by kernel_rfl) prog_mixed (by kernel_rfl) (by kernel_rfl) rfl ?_; refine Zew rfl Zla ?_; refine Zew rfl Val_makeFunc ?_; refine Zew rfl Zld ?_; refine Zew rfl Zld ?_)) | (with_reducible apply EWalk_nil) | (refine GiC ?_; first | (refine AnyC_1 2 (by repeat (first | exact Sub.refl _ | assumption | exact Sub.left | apply Sub.sv | apply Sub.cons | apply Sub.app)) (by decide +kernel) rfl ?_) | (refine AnyC_2 2 6 (by repeat (first | exact Sub.refl _ | assumption | exact Sub.left | apply Sub.sv | apply Sub.cons | apply Sub.app)) (by decide +kernel) rfl rfl ?_ ?_)) | (refine Zhp ?_) | (refine AWalk_0 ?_) | (with_reducible apply QC_normal) | (refine QC_panic (fun e9 he9 => ?_)))
    all_goals ((repeat (refine HThen.panic (by assumption) ?_)); refine QLeave_panic ?_; refine Lv_stop1 N w0 stops61 (by repeat (first | exact Up.here | apply Up.there | apply Up.sv)) ?_; refine Lv_nil rfl (.tmp ((he9 6 rfl).trans (rfl : _ = Value.int _ _)) (.cell1 ((he9 7 rfl).trans rfl) (by repeat (first | exact Mem.here | assumption | apply Mem.there | apply Mem.sv | apply Mem.app)) rfl .nil)) rfl ?_; exact ⟨rfl, (by repeat (first | exact Wk.refl _ | apply Wk.keep1 | apply Wk.drop | apply Wk.sv | apply Wk.svD | apply Wk.appD))⟩)
end
end Go.Proofs.Ytlpahkmfjpjheaa
end

section
namespace Go.Proofs.Ytlpahkmfjpjheaa
open Go.RowKit
def HeapOk (h : Hv) (heap : Int) : Bool := within heap 0 (h.heaps.length - 1)
def errW (h : Hv) (ok : Bool) (w : Option Nat) : Int := if errE h ok = 0 then (if w.isNone then 4 else 0) else errE h ok
def WhenV (h : Hv) (heap : Int) : Int := if errW h (HeapOk h heap) (whenD h [heap.toNat]) = 0 then ((whenD h [heap.toNat]).getD 0 : Nat) else 0
def WhenE (h : Hv) (heap : Int) : Int := errW h (HeapOk h heap) (whenD h [heap.toNat])
theorem when_some {N : Nat} {w0 : World} {L : Hp} {args : Array Value} {h : Hv} {xs : List Nat} {d : Nat} (hw : whenD h xs = some d) (ht : Tri Try.prog N w0 L 65 args fun x L' => L' = L ∧ x = match whenD h xs with
      | some d => .returned (.int .i64 d)
      | none => .panicked (stopE 4)) : Ret Try.prog N w0 L 65 args (.int .i64 d) := by
  refine ht.mono ?_
  rintro x L' ⟨rfl, rfl⟩
  rw [hw]; exact ⟨rfl, rfl⟩
theorem when_none {N : Nat} {w0 : World} {L : Hp} {args : Array Value} {h : Hv} {xs : List Nat} (hw : whenD h xs = none) (ht : Tri Try.prog N w0 L 65 args fun x L' => L' = L ∧ x = match whenD h xs with
      | some d => .returned (.int .i64 d)
      | none => .panicked (stopE 4)) : Tri Try.prog N w0 L 65 args fun x L' => x = .panicked (stopE 4) ∧ L' = L := by
  refine ht.mono ?_
  rintro x L' ⟨rfl, rfl⟩
  rw [hw]; exact ⟨rfl, rfl⟩
attribute [local irreducible] AnyO AnyB QAny QB EWalk AWalk Ev WP OPS QThen QBlock QScope QLoop QBody Val New Turn Tri Enters PostA Blk Ro
attribute [local irreducible] AnyC QC
section
variable (N : Nat) (w0 : World)
theorem heap64_ret (g : Bg) (b3 : Nat) (heap : Int) (b m : Nat) (L' : Hp) (hS : Sub ((b, Blk 94 (bogL { g with b := b, m := m })) :: [(b3, Blk 3 [.int .i64 heap])]) L') (hv : VH g.h) :
    Ret Try.prog N w0 L' 64 (.pointer (some ⟨b, 0, none⟩) :: [.pointer (some ⟨b3, 0, none⟩)]).toArray (.bool (HeapOk g.h heap)) := by
  have hnh := hv.nh
  obtain ⟨g', hg'⟩ : ∃ g' : Bg, { g with b := b, m := m } = g' := ⟨_, rfl⟩
  have hgh : g'.h = g.h := by rw [← hg']
  have hgb : g'.b = b := by rw [← hg']
  have hid := fun L n hm => isHeap_ret N w0 L g' n hm (by rw [hgh]; omega)
  rw [hgh, hgb] at hid
  rw [hg'] at hS
  refine Ret.sub hS fun L0 => ?_
  simp only [List.cons_append, List.nil_append]
  refine tri_of_WP Try.func64 rfl (n := 7) rfl (by simp) ?_
  repeat' (first | (refine Znh ?_) | (refine GiW ?_; first | (refine Zsq fun K hK => ?_) | (refine ZrN 0 fun _ => ?_; refine Zv Zab ?_) | (refine ZrN 1 fun _ => ?_; refine Zv Zmv ?_; refine Zv Zld ?_; refine Zcl (Enters_fn rfl) (hid _ _ (by repeat (first | exact Mem.here | assumption | apply Mem.there | apply Mem.sv | apply Mem.app))) ?_; refine Zv Zab ?_) | (with_reducible apply WP_ret)))
  exact QBody_ret1 rfl (rfl : _ = Value.bool _) ⟨rfl, rfl⟩
theorem When_ret (L : Hp) (g : Bg) (hA : HeapAt N w0 g) (heap : Int) :
    Ret Try.prog N w0 L 20 [heapV g, .int .i64 heap].toArray (.tuple [.int .i64 (WhenV g.h heap), .int .i64 (WhenE g.h heap)].toArray) := by
  refine Ret.fgt ?_
  refine tri_of_WPL Try.func20 rfl (n := 13) rfl (by simp) ?_
  have hop : ∀ (b3 : Nat) (L : Hp), Sub [(b3, Blk 3 [.int .i64 heap])] L → OpenR N w0 g (HeapOk g.h heap) 64 [.pointer (some ⟨b3, 0, none⟩)] L := fun b3 L h =>
    open_tri N w0 L g hA _ 64 _ _ h (fun b m L' h h2 => heap64_ret N w0 g b3 heap b m L' h h2)
  by_cases hok : vB g.h = true ∧ HeapOk g.h heap = true
  · obtain ⟨hvb, hwo⟩ := hok
    have hv := VH_of hvb
    have hop' := fun b3 L h => open_ok N w0 (hop b3 L h) hvb hwo
    have hwo2 := hwo
    simp only [HeapOk, within, Bool.and_eq_true, decide_eq_true_eq] at hwo2
    obtain ⟨i, rfl⟩ : ∃ i : Nat, heap = i := ⟨heap.toNat, by omega⟩
    have hi1 : i < g.h.heaps.length := by omega
    have hA' : ∀ b m, HeapAt N w0 { g with b := b, m := m } := fun b m => ⟨hA.heaps, hA.rains, hA.looks⟩
    have hxs : ∀ k ∈ [i], k < g.h.heaps.length := by intro k hk; rw [List.mem_singleton.1 hk]; exact hi1
    have hcl : ∀ k (h : k < [i].length), [Value.int .i64 i][k]? = some (.int .i64 ([i][k] : Nat)) := by
      intro k h
      have : k = 0 := by simpa using h
      subst this; rfl
    have hton : ((i : Int).toNat) = i := by simp
    by_cases h0 : toldL g.h = []
    · have he : errE g.h (HeapOk g.h i) = 10 := by simp [errE, hvb, hwo, h0]
      have he2 : WhenE g.h i = 10 := by unfold WhenE errW; rw [he, if_neg (by omega)]
      have hz : WhenV g.h i = 0 := by unfold WhenV; rw [show errW g.h (HeapOk g.h i) (whenD g.h [(i : Int).toNat]) = 10 from he2, if_neg (by omega)]
      have hwn := fun b11 b m L hS hb => when_no N w0 L { g with b := b, m := m } hS hv (hA' b m) h0 [i] hxs (by simp) (by simp) b11 1 [.int .i64 i] hb hcl
      rw [he2, hz]
      unfold heapV hvL at hop' ⊢
      repeat' (first | (refine GiP ?_; first | (refine Znh ?_) | (with_reducible refine Znl ?_) | (refine Zatd 9 ?_; refine OPS_retKS (Enters_fn rfl) (hop' b3 _ (by repeat (first | exact Sub.refl _ | assumption | exact Sub.left | apply Sub.cons | apply Sub.sv | apply Sub.app))) rfl rfl rfl (fun v9 L9 h9 => ?_); obtain ⟨bb, mm, rfl, rfl⟩ := h9) | (refine Zatd 11 ?_; refine Zal 11 fun b11 => ?_) | (refine Zatd 12 ?_; refine OPS_pan (Enters_fn rfl) (hwn b11 bb mm _ (by repeat (first | exact Sub.refl _ | assumption | exact Sub.left | apply Sub.cons | apply Sub.sv | apply Sub.app)) (by repeat (first | exact Mem.here | assumption | apply Mem.there | apply Mem.sv | apply Mem.app))) rfl rfl ?_)) | (refine GiW ?_; first | (refine Zsq fun K hK => ?_) | (refine ZrN 0 fun _ => ?_; refine Zal 2 fun b2 => ?_; refine Zal 3 fun b3 => ?_; refine Zv Zai ?_; refine Zal 5 fun b5 => ?_) | (refine ZrN 1 fun _ => ?_; refine Zv Val_makeFunc ?_; refine OPS_defer rfl ?_) | (refine WP_drawnC (id := 2) ([(b5, Blk 32 [.int .i64 0])]) ((b3, Blk 3 [.int .i64 i]) :: (b2, Blk 27 (hvL g)) :: L) [0, 1, 3] [0, 1, 3] [] [7, 8, 10] (k := 5) (k2 := 0) (by repeat (first | exact List.Perm.refl _ | assumption | (with_reducible refine Perm.pick (by repeat (first | exact Pick.here | apply Pick.there)) ?_))) (by kernel_rfl) prog_mixed (by kernel_rfl) (by kernel_rfl) rfl ?_; refine Zew rfl Zla ?_; refine Zew rfl Val_makeFunc ?_; refine Zew rfl Zld ?_)) | (with_reducible apply EWalk_nil) | (refine GiC ?_; first | (refine AnyC_1 2 (by repeat (first | exact Sub.refl _ | assumption | exact Sub.left | apply Sub.sv | apply Sub.cons | apply Sub.app)) (by decide +kernel) rfl ?_) | (refine AnyC_2 2 4 (by repeat (first | exact Sub.refl _ | assumption | exact Sub.left | apply Sub.sv | apply Sub.cons | apply Sub.app)) (by decide +kernel) rfl rfl ?_ ?_) | (refine AnyC_1 4 (by repeat (first | exact Sub.refl _ | assumption | exact Sub.left | apply Sub.sv | apply Sub.cons | apply Sub.app)) (by decide +kernel) rfl ?_) | (refine AnyC_1 5 (by repeat (first | exact Sub.refl _ | assumption | exact Sub.left | apply Sub.sv | apply Sub.cons | apply Sub.app)) (by decide +kernel) rfl ?_)) | (refine Zhp ?_) | (refine AWalk_0 ?_) | (with_reducible apply QC_normal) | (refine QC_panic (fun e9 he9 => ?_)))
      all_goals ((repeat (refine HThen.panic (by assumption) ?_)); refine QLeave_panic ?_; refine Lv_stop1 N w0 stops63 (by repeat (first | exact Up.here | apply Up.there | apply Up.sv)) ?_; refine Lv_nil rfl (.tmp ((he9 4 rfl).trans (rfl : _ = Value.int _ _)) (.cell1 ((he9 5 rfl).trans rfl) (by repeat (first | exact Mem.here | assumption | apply Mem.there | apply Mem.sv | apply Mem.app)) rfl .nil)) rfl ?_; exact ⟨rfl, (by repeat (first | exact Wk.refl _ | apply Wk.keep1 | apply Wk.drop | apply Wk.sv | apply Wk.svD | apply Wk.appD))⟩)
    · have he : errE g.h (HeapOk g.h i) = 0 := by simp [errE, hvb, hwo, h0]
      have hwt := fun b11 b m L hS hb => when_tri N w0 L { g with b := b, m := m } hS hv (hA' b m) h0 [i] hxs (by simp) b11 1 [.int .i64 i] hb hcl
      have he2 : WhenE g.h i = (if (whenD g.h [i]).isNone then 4 else 0) := by unfold WhenE errW; rw [he, if_pos rfl, hton]
      have hz : WhenV g.h i = ((whenD g.h [i]).getD 0 : Nat) := by
        unfold WhenV
        rw [show errW g.h (HeapOk g.h i) (whenD g.h [(i : Int).toNat]) = (if (whenD g.h [i]).isNone then 4 else 0) from he2, hton]
        cases whenD g.h [i] <;> simp
      rw [he2, hz]
      unfold heapV hvL at hop' ⊢
      cases hw : whenD g.h [i] with
      | none =>
        simp only [Option.isNone_none, if_true, Option.getD_none]
        repeat' (first | (refine GiP ?_; first | (refine Znh ?_) | (with_reducible refine Znl ?_) | (refine Zatd 9 ?_; refine OPS_retKS (Enters_fn rfl) (hop' b3 _ (by repeat (first | exact Sub.refl _ | assumption | exact Sub.left | apply Sub.cons | apply Sub.sv | apply Sub.app))) rfl rfl rfl (fun v9 L9 h9 => ?_); obtain ⟨bb, mm, rfl, rfl⟩ := h9) | (refine Zatd 11 ?_; refine Zal 11 fun b11 => ?_) | (refine Zatd 12 ?_; refine OPS_pan (Enters_fn rfl) (when_none hw (hwt b11 bb mm _ (by repeat (first | exact Sub.refl _ | assumption | exact Sub.left | apply Sub.cons | apply Sub.sv | apply Sub.app)) (by repeat (first | exact Mem.here | assumption | apply Mem.there | apply Mem.sv | apply Mem.app)))) rfl rfl ?_)) | (refine GiW ?_; first | (refine Zsq fun K hK => ?_) | (refine ZrN 0 fun _ => ?_; refine Zal 2 fun b2 => ?_; refine Zal 3 fun b3 => ?_; refine Zv Zai ?_; refine Zal 5 fun b5 => ?_) | (refine ZrN 1 fun _ => ?_; refine Zv Val_makeFunc ?_; refine OPS_defer rfl ?_) | (refine WP_drawnC (id := 2) ([(b5, Blk 32 [.int .i64 0])]) ((b3, Blk 3 [.int .i64 i]) :: (b2, Blk 27 (hvL g)) :: L) [0, 1, 3] [0, 1, 3] [] [7, 8, 10] (k := 5) (k2 := 0) (by repeat (first | exact List.Perm.refl _ | assumption | (with_reducible refine Perm.pick (by repeat (first | exact Pick.here | apply Pick.there)) ?_))) (by kernel_rfl) prog_mixed (by kernel_rfl) (by kernel_rfl) rfl ?_; refine Zew rfl Zla ?_; refine Zew rfl Val_makeFunc ?_; refine Zew rfl Zld ?_)) | (with_reducible apply EWalk_nil) | (refine GiC ?_; first | (refine AnyC_1 2 (by repeat (first | exact Sub.refl _ | assumption | exact Sub.left | apply Sub.sv | apply Sub.cons | apply Sub.app)) (by decide +kernel) rfl ?_) | (refine AnyC_2 2 4 (by repeat (first | exact Sub.refl _ | assumption | exact Sub.left | apply Sub.sv | apply Sub.cons | apply Sub.app)) (by decide +kernel) rfl rfl ?_ ?_) | (refine AnyC_1 4 (by repeat (first | exact Sub.refl _ | assumption | exact Sub.left | apply Sub.sv | apply Sub.cons | apply Sub.app)) (by decide +kernel) rfl ?_) | (refine AnyC_1 5 (by repeat (first | exact Sub.refl _ | assumption | exact Sub.left | apply Sub.sv | apply Sub.cons | apply Sub.app)) (by decide +kernel) rfl ?_)) | (refine Zhp ?_) | (refine AWalk_0 ?_) | (with_reducible apply QC_normal) | (refine QC_panic (fun e9 he9 => ?_)))
        all_goals ((repeat (refine HThen.panic (by assumption) ?_)); refine QLeave_panic ?_; refine Lv_stop1 N w0 stops63 (by repeat (first | exact Up.here | apply Up.there | apply Up.sv)) ?_; refine Lv_nil rfl (.tmp ((he9 4 rfl).trans (rfl : _ = Value.int _ _)) (.cell1 ((he9 5 rfl).trans rfl) (by repeat (first | exact Mem.here | assumption | apply Mem.there | apply Mem.sv | apply Mem.app)) rfl .nil)) rfl ?_; exact ⟨rfl, (by repeat (first | exact Wk.refl _ | apply Wk.keep1 | apply Wk.drop | apply Wk.sv | apply Wk.svD | apply Wk.appD))⟩)
      | some d =>
        simp only [Option.isNone_some, Bool.false_eq_true, if_false, Option.getD_some]
        repeat' (first | (refine GiP ?_; first | (refine Znh ?_) | (with_reducible refine Znl ?_) | (refine Zatd 9 ?_; refine OPS_retKS (Enters_fn rfl) (hop' b3 _ (by repeat (first | exact Sub.refl _ | assumption | exact Sub.left | apply Sub.cons | apply Sub.sv | apply Sub.app))) rfl rfl rfl (fun v9 L9 h9 => ?_); obtain ⟨bb, mm, rfl, rfl⟩ := h9) | (refine Zatd 11 ?_; refine Zal 11 fun b11 => ?_) | (refine Zatd 12 ?_; refine Zcl (Enters_fn rfl) (when_some hw (hwt b11 bb mm _ (by repeat (first | exact Sub.refl _ | assumption | exact Sub.left | apply Sub.cons | apply Sub.sv | apply Sub.app)) (by repeat (first | exact Mem.here | assumption | apply Mem.there | apply Mem.sv | apply Mem.app)))) ?_) | (refine Zatd 4 ?_; refine Zv Zai ?_) | (refine Zatn ?_; refine Zst ?_)) | (refine GiW ?_; first | (refine Zsq fun K hK => ?_) | (refine ZrN 0 fun _ => ?_; refine Zal 2 fun b2 => ?_; refine Zal 3 fun b3 => ?_; refine Zv Zai ?_; refine Zal 5 fun b5 => ?_) | (refine ZrN 1 fun _ => ?_; refine Zv Val_makeFunc ?_; refine OPS_defer rfl ?_) | (with_reducible apply WP_ret) | (refine WP_drawnC (id := 2) ([(b5, Blk 32 [.int .i64 0])]) ((b3, Blk 3 [.int .i64 i]) :: (b2, Blk 27 (hvL g)) :: L) [0, 1, 3] [0, 1, 3] [] [7, 8, 10] (k := 5) (k2 := 0) (by repeat (first | exact List.Perm.refl _ | assumption | (with_reducible refine Perm.pick (by repeat (first | exact Pick.here | apply Pick.there)) ?_))) (by kernel_rfl) prog_mixed (by kernel_rfl) (by kernel_rfl) rfl ?_; refine Zew rfl Zla ?_; refine Zew rfl Val_makeFunc ?_; refine Zew rfl Zld ?_)) | (with_reducible apply EWalk_nil) | (refine GiC ?_; first | (refine AnyC_done (by repeat (first | exact Sub.refl _ | assumption | exact Sub.left | apply Sub.sv | apply Sub.cons | apply Sub.app)) (by kernel_rfl) ?_) | (refine AnyC_1 2 (by repeat (first | exact Sub.refl _ | assumption | exact Sub.left | apply Sub.sv | apply Sub.cons | apply Sub.app)) (by decide +kernel) rfl ?_) | (refine AnyC_2 2 4 (by repeat (first | exact Sub.refl _ | assumption | exact Sub.left | apply Sub.sv | apply Sub.cons | apply Sub.app)) (by decide +kernel) rfl rfl ?_ ?_) | (refine AnyC_1 4 (by repeat (first | exact Sub.refl _ | assumption | exact Sub.left | apply Sub.sv | apply Sub.cons | apply Sub.app)) (by decide +kernel) rfl ?_) | (refine AnyC_1 5 (by repeat (first | exact Sub.refl _ | assumption | exact Sub.left | apply Sub.sv | apply Sub.cons | apply Sub.app)) (by decide +kernel) rfl ?_) | (refine AnyC_1 6 (by repeat (first | exact Sub.refl _ | assumption | exact Sub.left | apply Sub.sv | apply Sub.cons | apply Sub.app)) (by decide +kernel) rfl ?_) | (refine AnyC_1 7 (by repeat (first | exact Sub.refl _ | assumption | exact Sub.left | apply Sub.sv | apply Sub.cons | apply Sub.app)) (by decide +kernel) rfl ?_)) | (refine Zhn ?_) | (refine AWalk_0 ?_) | (with_reducible apply QC_normal))
        all_goals (refine QLeave_ret ?_; refine Lv_stop0 N w0 stops63 ?_; refine Lv_nil rfl (.tmp (rfl : _ = Value.int _ _) (.cell1 rfl (by repeat (first | exact Mem.here | assumption | apply Mem.there | apply Mem.sv | apply Mem.app)) rfl .nil)) rfl ?_; exact ⟨rfl, (by repeat (first | exact Wk.refl _ | apply Wk.keep1 | apply Wk.drop | apply Wk.sv | apply Wk.svD | apply Wk.appD))⟩)
  · have hno := no_of hok
    have he2 : WhenE g.h heap = errE g.h (HeapOk g.h heap) := by unfold WhenE errW; rw [if_neg (errE_ne hno)]
    have hz : WhenV g.h heap = 0 := by unfold WhenV; rw [show errW g.h (HeapOk g.h heap) (whenD g.h [heap.toNat]) = errE g.h (HeapOk g.h heap) from he2, if_neg (errE_ne hno)]
    have hop' := fun b3 L h => open_no N w0 (hop b3 L h) hno
    rw [he2, hz]
    unfold heapV hvL at hop' ⊢
    repeat' (first | (refine GiP ?_; first | (refine Znh ?_) | (with_reducible refine Znl ?_) | (refine Zatd 9 ?_; refine OPS_pan (Enters_fn rfl) (hop' b3 _ (by repeat (first | exact Sub.refl _ | assumption | exact Sub.left | apply Sub.cons | apply Sub.sv | apply Sub.app))) rfl rfl ?_) | (refine Zatd 11 ?_; refine Zal 11 fun b11 => ?_)) | (refine GiW ?_; first | (refine Zsq fun K hK => ?_) | (refine ZrN 0 fun _ => ?_; refine Zal 2 fun b2 => ?_; refine Zal 3 fun b3 => ?_; refine Zv Zai ?_; refine Zal 5 fun b5 => ?_) | (refine ZrN 1 fun _ => ?_; refine Zv Val_makeFunc ?_; refine OPS_defer rfl ?_) | (refine WP_drawnC (id := 2) ([(b5, Blk 32 [.int .i64 0])]) ((b3, Blk 3 [.int .i64 heap]) :: (b2, Blk 27 (hvL g)) :: L) [0, 1, 3] [0, 1, 3] [] [7, 8, 10] (k := 5) (k2 := 0) (by repeat (first | exact List.Perm.refl _ | assumption | (with_reducible refine Perm.pick (by repeat (first | exact Pick.here | apply Pick.there)) ?_))) (by kernel_rfl) prog_mixed (by kernel_rfl) (by kernel_rfl) rfl ?_; refine Zew rfl Zla ?_; refine Zew rfl Val_makeFunc ?_; refine Zew rfl Zld ?_)) | (with_reducible apply EWalk_nil) | (refine GiC ?_; first | (refine AnyC_1 2 (by repeat (first | exact Sub.refl _ | assumption | exact Sub.left | apply Sub.sv | apply Sub.cons | apply Sub.app)) (by decide +kernel) rfl ?_) | (refine AnyC_2 2 4 (by repeat (first | exact Sub.refl _ | assumption | exact Sub.left | apply Sub.sv | apply Sub.cons | apply Sub.app)) (by decide +kernel) rfl rfl ?_ ?_)) | (refine Zhp ?_) | (refine AWalk_0 ?_) | (with_reducible apply QC_normal) | (refine QC_panic (fun e9 he9 => ?_)))
    all_goals ((repeat (refine HThen.panic (by assumption) ?_)); refine QLeave_panic ?_; refine Lv_stop1 N w0 stops63 (by repeat (first | exact Up.here | apply Up.there | apply Up.sv)) ?_; refine Lv_nil rfl (.tmp ((he9 4 rfl).trans (rfl : _ = Value.int _ _)) (.cell1 ((he9 5 rfl).trans rfl) (by repeat (first | exact Mem.here | assumption | apply Mem.there | apply Mem.sv | apply Mem.app)) rfl .nil)) rfl ?_; exact ⟨rfl, (by repeat (first | exact Wk.refl _ | apply Wk.keep1 | apply Wk.drop | apply Wk.sv | apply Wk.svD | apply Wk.appD))⟩)
end
end Go.Proofs.Ytlpahkmfjpjheaa
end

section
namespace Go.Proofs.Ytlpahkmfjpjheaa
open Go.RowKit
def natV (xs : List Nat) : List Value := xs.map fun x : Nat => .int .i64 (x : Int)
theorem sv_open {N : Nat} {w0 : World} {L : Hp} {xs : List Nat} {s : Option (Nat × Nat)} {f : FuncId} {args : Value → Array Value} {R : Ending → Prop} (hs : svOk s 1 xs.length (natV xs)) (hne : 0 < xs.length)
    (h : ∀ b cells c, (∀ k (h : k < xs.length), cells[k]? = some (.int .i64 (xs[k] : Nat))) → Tri Try.prog N w0 ((b, Blk 3 cells) :: L) f (args (.slice (some ⟨b, 0, none⟩) xs.length c)) fun x L' => L' = (b, Blk 3 cells) :: L ∧ R x) :
    Tri Try.prog N w0 (svH 3 1 xs.length (natV xs) s L) f (args (svV s xs.length)) fun x L' => L' = svH 3 1 xs.length (natV xs) s L ∧ R x := by
  cases s with
  | none => have := hs.2 rfl; omega
  | some p =>
    obtain ⟨b, cap⟩ := p
    refine Tri.fgt ?_
    refine Tri.opn fun o ho => ?_
    obtain ⟨cur, rfl, h1, h2, h3, h4⟩ := ho
    have hb : (Is (.cells cur 3 (0, 0)) : Obj → Prop) = Blk 3 cur.toList := by simp [Blk]
    rw [hb]
    refine (h b cur.toList cap ?_).mono ?_
    · intro k hk
      have h5 : (natV xs)[k]? = some (.int .i64 (xs[k] : Nat)) := by simp [natV, hk]
      rw [← h4, List.getElem?_take] at h5
      split at h5
      · exact h5
      · cases h5
    · rintro x L' ⟨rfl, hR⟩
      refine ⟨svH 3 1 xs.length (natV xs) (some (b, cap)) L, ?_, rfl, hR⟩
      refine .keep (fun o ho => ?_) (Wk.refl _)
      rw [← hb] at ho
      exact ⟨cur, ho, h1, h2, h3, h4⟩
def AllE (h : Hv) : Int := errW h true (whenD h (List.range h.heaps.length))
def AllV (h : Hv) : Int := if AllE h = 0 then ((whenD h (List.range h.heaps.length)).getD 0 : Nat) else 0
attribute [local irreducible] AnyO AnyB QAny QB EWalk AWalk Ev WP OPS QThen QBlock QScope QLoop QBody Val New Turn Tri Enters PostA Blk Ro
attribute [local irreducible] AnyC QC
section
variable (N : Nat) (w0 : World)
theorem all67_ret (g : Bg) (b m : Nat) (L' : Hp) (_ : Sub ((b, Blk 94 (bogL { g with b := b, m := m })) :: []) L') (_ : VH g.h) :
    Ret Try.prog N w0 L' 67 (.pointer (some ⟨b, 0, none⟩) :: []).toArray (.bool true) := always_ret N w0 L' _
theorem All_ret (L : Hp) (g : Bg) (hA : HeapAt N w0 g) :
    Ret Try.prog N w0 L 22 [heapV g].toArray (.tuple [.int .i64 (AllV g.h), .int .i64 (AllE g.h)].toArray) := by
  refine Ret.fgt ?_
  refine tri_of_WPL Try.func22 rfl (n := 27) rfl (by simp) ?_
  have hop : ∀ (L : Hp), OpenR N w0 g true 67 [] L := fun L =>
    open_tri N w0 L g hA _ 67 [] [] ⟨L, .refl _⟩ (fun b m L' h h2 => all67_ret N w0 g b m L' h h2)
  by_cases hvb : vB g.h = true
  · have hv := VH_of hvb
    have hop' := fun L => open_ok N w0 (hop L) hvb rfl
    have hnh := hv.nh
    have hA' : ∀ b m, HeapAt N w0 { g with b := b, m := m } := fun b m => ⟨hA.heaps, hA.rains, hA.looks⟩
    unfold heapV hvL at hop' ⊢
    repeat' (first | (refine Znh ?_) | (refine GiW ?_; first | (refine Zsq fun K hK => ?_) | (refine ZrN 0 fun _ => ?_; refine Zal 1 fun b1 => ?_; refine Zv Zai ?_; refine Zal 3 fun b3 => ?_) | (refine ZrN 1 fun _ => ?_; refine Zv Val_makeFunc ?_; refine OPS_defer rfl ?_) | (refine ZrN 2 fun _ => ?_; refine Zv Zla ?_; refine OPS_retKS (Enters_fn rfl) (hop' _) rfl rfl rfl (fun v9 L9 h9 => ?_); obtain ⟨bb, mm, rfl, rfl⟩ := h9; refine Zv Zav ?_) | (refine ZrN 3 fun _ => ?_; refine Zv Zav ?_) | (refine ZrN 4 fun _ => ?_; refine Zv Zmv ?_; (first | (refine Zv Zxnp ?_) | (refine Zv Zxnf ?_)); refine Zv Zf0 ?_; refine Zv Zf0 ?_; refine Zv Zld ?_; refine Zv Zxlen ?_; refine Zv Zmi ?_) | (with_reducible apply WP_block)))
    obtain ⟨g', hg'⟩ : ∃ g' : Bg, { g with b := bb, m := mm } = g' := ⟨_, rfl⟩
    have hgh : g'.h = g.h := by rw [← hg']
    have hgb : g'.b = bb := by rw [← hg']
    refine WP_loop [5, 6, 16, 17, 18, 19, 20, 21, 22, 23] (fun q : Nat × Option (Nat × Nat) => [(16, .int .i64 q.1), (5, svV q.2 q.1)]) (fun q => svH 3 1 q.1 (natV (List.range q.1)) q.2 (Bk { g with b := bb, m := mm } ++ (b3, Blk 32 [.int .i64 0]) :: (b1, Blk 27 (hvL g)) :: L)) (fun q => q.1 ≤ g.h.heaps.length ∧ svOk q.2 1 q.1 (natV (List.range q.1))) (fun q => g.h.heaps.length - q.1) (0, none) (.cons rfl (.cons rfl .nil)) (by repeat (first | exact Wk.refl _ | apply Wk.keep1 | apply Wk.drop | apply Wk.sv | apply Wk.svD | apply Wk.appD)) ⟨Nat.zero_le _, svOk_nil 1⟩ ?_
    rintro ⟨k, s⟩ j ⟨hk, hs⟩
    dsimp only at hk hs ⊢
    by_cases hlt : k < g.h.heaps.length
    · have hnat : natV (List.range (k + 1)) = natV (List.range k) ++ [.int .i64 k] := by simp [natV, List.range_succ]
      repeat' (first | (refine GiP ?_; first | (refine Znh ?_) | (with_reducible refine Znl ?_)) | (refine GiW ?_; first | (refine Zsq fun K hK => ?_) | (refine ZrN 5 fun _ => ?_; refine Zv Zxlss ?_) | (refine ZrN 6 fun _ => ?_; refine Zv Zmi ?_; refine Zv Zai ?_) | (refine ZrN 7 fun _ => ?_; refine Zv Zmv ?_; refine Zv Zmi ?_; refine Zal 21 fun b21 => ?_; refine OPS_append rfl rfl rfl (by repeat (first | exact Wk.refl _ | apply Wk.keep1 | apply Wk.drop | apply Wk.sv | apply Wk.svD | apply Wk.appD)) (by assumption) (blk_cells (by repeat (first | exact Mem.here | assumption | apply Mem.there | apply Mem.sv | apply Mem.app))) rfl rfl (by simp only [maxLen]; omega) (by omega) rfl rfl (fun s22 hs22 => ?_); refine Zv Zav ?_) | (refine ZrN 8 fun _ => ?_; refine Zv Zxadd ?_; refine Zv Zmi ?_) | (refine Zcd (fun hc => ?_) (fun hc => ?_) <;> (try (exfalso; omega))) | (with_reducible apply WP_skip) | (with_reducible apply WP_block)) | (refine Zhn ?_) | (with_reducible apply QBlock_normal))
      exact QLoop_normal (k + 1, s22) (.cons rfl (.cons rfl .nil)) (by repeat (first | exact Off.frame rfl | exact Off.refl _ _ | refine Off.frameT rfl rfl ?_ | refine Off.upd rfl ?_ | refine Off.updO rfl ?_)) (by dsimp only; rw [hnat]; exact (by repeat (first | exact Wk.refl _ | apply Wk.keep1 | apply Wk.drop | apply Wk.sv | apply Wk.svD | apply Wk.appD))) ⟨by dsimp only; omega, by dsimp only; rw [hnat]; assumption⟩ (by dsimp only; omega)
    · have hke : k = g.h.heaps.length := by omega
      subst hke
      have hl : (List.range g.h.heaps.length).length = g.h.heaps.length := by simp
      have hs' : svOk s 1 (List.range g.h.heaps.length).length (natV (List.range g.h.heaps.length)) := by rw [hl]; exact hs
      have hxs : ∀ q ∈ List.range g.h.heaps.length, q < g.h.heaps.length := fun q hq => by simpa using hq
      by_cases h0 : toldL g.h = []
      · have he : AllE g.h = 10 := by simp [AllE, errW, errE, hvb, h0]
        have hz : AllV g.h = 0 := by unfold AllV; rw [he, if_neg (by omega)]
        have hwn := sv_open (f := 65) (args := fun v => [.pointer (some ⟨bb, 0, none⟩), v].toArray) (N := N) (w0 := w0) (L := Bk { g with b := bb, m := mm } ++ (b3, Blk 32 [.int .i64 0]) :: (b1, Blk 27 (hvL g)) :: L) (R := fun x => x = .panicked (stopE 10)) hs' (by rw [hl]; omega)
          (fun b cells c hcl => (when_no N w0 _ { g with b := bb, m := mm } (by repeat (first | exact Sub.refl _ | assumption | exact Sub.left | apply Sub.cons | apply Sub.sv | apply Sub.app)) hv (hA' bb mm) h0 _ hxs (by rw [hl]; omega) (by rw [hl]; omega) b c cells .here hcl).mono fun x L' ⟨h1, h2⟩ => ⟨h2, h1⟩)
        rw [hl] at hwn
        repeat' (first | (refine Znh ?_) | (refine GiW ?_; first | (refine Zsq fun K hK => ?_) | (refine ZrN 5 fun _ => ?_; refine Zv Zxlss ?_) | (refine ZrN 9 fun _ => ?_; refine Zv Zmv ?_; refine Zv Zmv ?_; refine OPS_pan (Enters_fn rfl) (hwn.mono fun x L' ⟨h1, h2⟩ => ⟨h2, h1⟩) rfl rfl ?_) | (refine Zcd (fun hc => ?_) (fun hc => ?_) <;> (try (exfalso; omega))) | (with_reducible apply WP_exit)) | (refine Zhn ?_) | (refine Zhx ?_) | (with_reducible apply QBlock_hit) | (with_reducible apply QLoop_exit) | (refine Zhp ?_))
        refine QLeave_panic ?_; refine Lv_stop1 N w0 stops66 (by repeat (first | exact Up.here | apply Up.there | apply Up.sv)) ?_; refine Lv_nil rfl (.tmp (rfl : _ = Value.int _ _) (.cell1 rfl (by repeat (first | exact Mem.here | assumption | apply Mem.there | apply Mem.sv | apply Mem.app)) rfl .nil)) rfl ?_; refine ⟨?_, (by repeat (first | exact Wk.refl _ | apply Wk.keep1 | apply Wk.drop | apply Wk.sv | apply Wk.svD | apply Wk.appD))⟩; rw [he, hz]; rfl
      · have hwt := sv_open (f := 65) (args := fun v => [.pointer (some ⟨bb, 0, none⟩), v].toArray) (N := N) (w0 := w0) (L := Bk { g with b := bb, m := mm } ++ (b3, Blk 32 [.int .i64 0]) :: (b1, Blk 27 (hvL g)) :: L) (R := fun x => x = match whenD g.h (List.range g.h.heaps.length) with
            | some d => .returned (.int .i64 d)
            | none => .panicked (stopE 4)) hs' (by rw [hl]; omega)
          (fun b cells c hcl => when_tri N w0 _ { g with b := bb, m := mm } (by repeat (first | exact Sub.refl _ | assumption | exact Sub.left | apply Sub.cons | apply Sub.sv | apply Sub.app)) hv (hA' bb mm) h0 _ hxs (by rw [hl]; omega) b c cells .here hcl)
        rw [hl] at hwt
        cases hw : whenD g.h (List.range g.h.heaps.length) with
        | none =>
          have he : AllE g.h = 4 := by simp [AllE, errW, errE, hvb, h0, hw]
          have hz : AllV g.h = 0 := by unfold AllV; rw [he, if_neg (by omega)]
          repeat' (first | (refine Znh ?_) | (refine GiW ?_; first | (refine Zsq fun K hK => ?_) | (refine ZrN 5 fun _ => ?_; refine Zv Zxlss ?_) | (refine ZrN 9 fun _ => ?_; refine Zv Zmv ?_; refine Zv Zmv ?_; refine OPS_pan (Enters_fn rfl) (when_none hw hwt) rfl rfl ?_) | (refine Zcd (fun hc => ?_) (fun hc => ?_) <;> (try (exfalso; omega))) | (with_reducible apply WP_exit)) | (refine Zhn ?_) | (refine Zhx ?_) | (with_reducible apply QBlock_hit) | (with_reducible apply QLoop_exit) | (refine Zhp ?_))
          refine QLeave_panic ?_; refine Lv_stop1 N w0 stops66 (by repeat (first | exact Up.here | apply Up.there | apply Up.sv)) ?_; refine Lv_nil rfl (.tmp (rfl : _ = Value.int _ _) (.cell1 rfl (by repeat (first | exact Mem.here | assumption | apply Mem.there | apply Mem.sv | apply Mem.app)) rfl .nil)) rfl ?_; refine ⟨?_, (by repeat (first | exact Wk.refl _ | apply Wk.keep1 | apply Wk.drop | apply Wk.sv | apply Wk.svD | apply Wk.appD))⟩; rw [he, hz]; rfl
        | some d =>
          have he : AllE g.h = 0 := by simp [AllE, errW, errE, hvb, h0, hw]
          have hz : AllV g.h = d := by unfold AllV; rw [he, if_pos rfl, hw]; rfl
          repeat' (first | (refine Znh ?_) | (refine GiW ?_; first | (refine Zsq fun K hK => ?_) | (refine ZrN 5 fun _ => ?_; refine Zv Zxlss ?_) | (refine ZrN 9 fun _ => ?_; refine Zv Zmv ?_; refine Zv Zmv ?_; refine Zcl (Enters_fn rfl) (when_some hw hwt) ?_; refine Zv Zai ?_; refine Zst ?_) | (refine Zcd (fun hc => ?_) (fun hc => ?_) <;> (try (exfalso; omega))) | (with_reducible apply WP_exit) | (with_reducible apply WP_ret)) | (refine Zhn ?_) | (refine Zhx ?_) | (with_reducible apply QBlock_hit) | (with_reducible apply QLoop_exit))
          refine QLeave_ret ?_; refine Lv_stop0 N w0 stops66 ?_; refine Lv_nil rfl (.tmp (rfl : _ = Value.int _ _) (.cell1 rfl (by repeat (first | exact Mem.here | assumption | apply Mem.there | apply Mem.sv | apply Mem.app)) rfl .nil)) rfl ?_; refine ⟨?_, (by repeat (first | exact Wk.refl _ | apply Wk.keep1 | apply Wk.drop | apply Wk.sv | apply Wk.svD | apply Wk.appD))⟩; rw [he, hz]; rfl
  · have hno : vB g.h = false ∨ true = false := .inl (by simpa using hvb)
    have he : AllE g.h = errE g.h true := by unfold AllE errW; rw [if_neg (errE_ne hno)]
    have hz : AllV g.h = 0 := by unfold AllV; rw [he, if_neg (errE_ne hno)]
    have hop' := fun L => open_no N w0 (hop L) hno
    unfold heapV hvL at hop' ⊢
    repeat' (first | (refine Znh ?_) | (refine GiW ?_; first | (refine Zsq fun K hK => ?_) | (refine ZrN 0 fun _ => ?_; refine Zal 1 fun b1 => ?_; refine Zv Zai ?_; refine Zal 3 fun b3 => ?_) | (refine ZrN 1 fun _ => ?_; refine Zv Val_makeFunc ?_; refine OPS_defer rfl ?_) | (refine ZrN 2 fun _ => ?_; refine Zv Zla ?_; refine OPS_pan (Enters_fn rfl) (hop' _) rfl rfl ?_)) | (refine Zhp ?_))
    refine QLeave_panic ?_; refine Lv_stop1 N w0 stops66 (by repeat (first | exact Up.here | apply Up.there | apply Up.sv)) ?_; refine Lv_nil rfl (.tmp (rfl : _ = Value.int _ _) (.cell1 rfl (by repeat (first | exact Mem.here | assumption | apply Mem.there | apply Mem.sv | apply Mem.app)) rfl .nil)) rfl ?_; refine ⟨?_, (by repeat (first | exact Wk.refl _ | apply Wk.keep1 | apply Wk.drop | apply Wk.sv | apply Wk.svD | apply Wk.appD))⟩; rw [he, hz]; rfl
end
end Go.Proofs.Ytlpahkmfjpjheaa
end

section
namespace Go.Proofs.Ytlpahkmfjpjheaa
open Go.RowKit
def P1000 (n : Int) : Prop := -1000 ≤ n ∧ n ≤ 1000
theorem foldl_sm : ∀ (l : List Sp) (s : Sp), (∀ x ∈ l, P1000 x.1 ∧ P1000 x.2) → P1000 s.1 ∧ P1000 s.2 → P1000 (l.foldl (fun s x => (min s.1 x.1, max s.2 x.2)) s).1 ∧ P1000 (l.foldl (fun s x => (min s.1 x.1, max s.2 x.2)) s).2
  | [], s, _, h => h
  | x :: l, s, hl, h => by
    refine foldl_sm l _ (fun y hy => hl y (.tail _ hy)) ?_
    have := hl x (.head _)
    unfold P1000 at *
    dsimp only
    omega
theorem jn_sm {l : List Sp} (hl : ∀ x ∈ l, P1000 x.1 ∧ P1000 x.2) : P1000 (jn l).1 ∧ P1000 (jn l).2 := by
  cases l with
  | nil => unfold jn P1000; dsimp only; omega
  | cons x l => exact foldl_sm l x (fun y hy => hl y (.tail _ hy)) (hl x (.head _))
theorem wetS_sm {h : Hv} (hv : VH h) (i day : Nat) : P1000 (wetS h i day).1 ∧ P1000 (wetS h i day).2 := by
  refine jn_sm ?_
  intro x hx
  obtain ⟨r, hr, rfl⟩ := List.mem_map.1 hx
  obtain ⟨r0, r1, r2, r3, r4, r5, hrr, hb⟩ := rowsL_six hv (List.mem_filter.1 hr).1
  have hr' : ∀ y ∈ r.take (day + 1), 0 ≤ y ∧ y ≤ 100 := by
    intro y hy
    have := List.mem_of_mem_take hy
    rw [hrr] at this
    simp only [List.mem_cons, List.not_mem_nil, or_false] at this
    rcases this with rfl | rfl | rfl | rfl | rfl | rfl <;> omega
  unfold wetR
  cases hg : h.heaps[i]? with
  | none => unfold P1000; dsimp only; omega
  | some t =>
    have hf := firstS_sm hv r i (evL h)
    have hd := hv.dries
    exact ⟨evening_sm hd hf.1 _ hr', evening_sm hd hf.2 _ hr'⟩
/-- Of the first k heaps: that of which least is known, and how wide its span is. -/
def doubtK (h : Hv) (day : Nat) : Nat → Int × Int
  | 0 => (0, -1)
  | k + 1 => if (wetS h k day).2 - (wetS h k day).1 > (doubtK h day k).2 then ((k : Int), (wetS h k day).2 - (wetS h k day).1) else doubtK h day k
def DoubtV (h : Hv) (day : Int) : Int × Int := if errE h (DayOk h day) = 0 then doubtK h day.toNat h.heaps.length else (0, 0)
attribute [local irreducible] AnyO AnyB QAny QB EWalk AWalk Ev WP OPS QThen QBlock QScope QLoop QBody Val New Turn Tri Enters PostA Blk Ro
attribute [local irreducible] AnyC QC
section
variable (N : Nat) (w0 : World)
theorem day69_ret (g : Bg) (b3 : Nat) (day : Int) (b m : Nat) (L' : Hp) (hS : Sub ((b, Blk 94 (bogL { g with b := b, m := m })) :: [(b3, Blk 3 [.int .i64 day])]) L') (hv : VH g.h) :
    Ret Try.prog N w0 L' 69 (.pointer (some ⟨b, 0, none⟩) :: [.pointer (some ⟨b3, 0, none⟩)]).toArray (.bool (DayOk g.h day)) := by
  have hnr := hv.nr
  obtain ⟨g', hg'⟩ : ∃ g' : Bg, { g with b := b, m := m } = g' := ⟨_, rfl⟩
  have hgh : g'.h = g.h := by rw [← hg']
  have hgb : g'.b = b := by rw [← hg']
  have hid := fun L n hm => isDay_ret N w0 L g' n hm (by rw [hgh]; omega)
  rw [hgh, hgb] at hid
  rw [hg'] at hS
  refine Ret.sub hS fun L0 => ?_
  simp only [List.cons_append, List.nil_append]
  refine tri_of_WP Try.func69 rfl (n := 7) rfl (by simp) ?_
  repeat' (first | (refine Znh ?_) | (refine GiW ?_; first | (refine Zsq fun K hK => ?_) | (refine ZrN 0 fun _ => ?_; refine Zv Zab ?_) | (refine ZrN 1 fun _ => ?_; refine Zv Zmv ?_; refine Zv Zld ?_; refine Zcl (Enters_fn rfl) (hid _ _ (by repeat (first | exact Mem.here | assumption | apply Mem.there | apply Mem.sv | apply Mem.app))) ?_; refine Zv Zab ?_) | (with_reducible apply WP_ret)))
  exact QBody_ret1 rfl (rfl : _ = Value.bool _) ⟨rfl, rfl⟩
theorem Doubt_ret (L : Hp) (g : Bg) (hA : HeapAt N w0 g) (day : Int) :
    Ret Try.prog N w0 L 24 [heapV g, .int .i64 day].toArray (.tuple [.int .i64 (DoubtV g.h day).1, .int .i64 (DoubtV g.h day).2, .int .i64 (errE g.h (DayOk g.h day))].toArray) := by
  refine Ret.fgt ?_
  refine tri_of_WPL Try.func24 rfl (n := 45) rfl (by simp) ?_
  have hop : ∀ (b3 : Nat) (L : Hp), Sub [(b3, Blk 3 [.int .i64 day])] L → OpenR N w0 g (DayOk g.h day) 69 [.pointer (some ⟨b3, 0, none⟩)] L := fun b3 L h =>
    open_tri N w0 L g hA _ 69 _ _ h (fun b m L' h h2 => day69_ret N w0 g b3 day b m L' h h2)
  by_cases hok : vB g.h = true ∧ DayOk g.h day = true
  · obtain ⟨hvb, hwo⟩ := hok
    have hv := VH_of hvb
    have hnh := hv.nh
    have hop' := fun b3 L h => open_ok N w0 (hop b3 L h) hvb hwo
    have hwo2 := hwo
    simp only [DayOk, within, Bool.and_eq_true, decide_eq_true_eq] at hwo2
    obtain ⟨j, rfl⟩ : ∃ j : Nat, day = j := ⟨day.toNat, by omega⟩
    have hj1 : j < g.h.rains.length := by omega
    have hA' : ∀ b m, HeapAt N w0 { g with b := b, m := m } := fun b m => ⟨hA.heaps, hA.rains, hA.looks⟩
    by_cases h0 : toldL g.h = []
    · have he : errE g.h (DayOk g.h j) = 10 := by simp [errE, hvb, hwo, h0]
      have hz : DoubtV g.h j = (0, 0) := by unfold DoubtV; rw [he, if_neg (by omega)]
      have hwet := fun b m L hS => wet_no N w0 L { g with b := b, m := m } hS hv (hA' b m) 0 j (by show 0 < g.h.heaps.length; omega) hj1 h0
      rw [he, hz]
      unfold heapV hvL at hop' ⊢
      repeat' (first | (refine Znh ?_) | (refine GiW ?_; first | (refine Zsq fun K hK => ?_) | (refine ZrN 0 fun _ => ?_; refine Zal 2 fun b2 => ?_; refine Zal 3 fun b3 => ?_; refine Zv Zai ?_; refine Zv Zai ?_; refine Zal 6 fun b6 => ?_) | (refine ZrN 1 fun _ => ?_; refine Zv Val_makeFunc ?_; refine OPS_defer rfl ?_) | (refine ZrN 2 fun _ => ?_; refine Zv Zla ?_; refine Zv Val_makeFunc ?_; refine OPS_retKS (Enters_fn rfl) (hop' b3 _ (by repeat (first | exact Sub.refl _ | assumption | exact Sub.left | apply Sub.cons | apply Sub.sv | apply Sub.app))) rfl rfl rfl (fun v9 L9 h9 => ?_); obtain ⟨bb, mm, rfl, rfl⟩ := h9; refine Zv Zav ?_) | (refine ZrN 3 fun _ => ?_; refine Zv Zai ?_; refine Zv Zai ?_) | (refine ZrN 4 fun _ => ?_; refine Zv Zmv ?_; (first | (refine Zv Zxnp ?_) | (refine Zv Zxnf ?_)); refine Zv Zf0 ?_; refine Zv Zf0 ?_; refine Zv Zld ?_; refine Zv Zxlen ?_; refine Zv Zmi ?_) | (with_reducible apply WP_block)))
      refine WP_loop [8, 9, 10, 11, 22, 23, 24, 25, 26, 27, 28, 29, 30, 31, 32, 33, 34, 35, 36, 37, 38, 39, 40, 41, 42] (fun _ : Unit => [(22, .int .i64 0), (8, .int .i64 0), (9, .int .i64 (-1))]) (fun _ => Bk { g with b := bb, m := mm } ++ (b6, Blk 32 [.int .i64 0]) :: (b3, Blk 3 [.int .i64 j]) :: L) (fun _ => True) (fun _ => 0) () (.cons rfl (.cons rfl (.cons rfl .nil))) (by repeat (first | exact Wk.refl _ | apply Wk.keep1 | apply Wk.drop | apply Wk.sv | apply Wk.svD | apply Wk.appD)) trivial ?_
      rintro _ j0 -
      repeat' (first | (refine Znh ?_) | (refine GiW ?_; first | (refine Zsq fun K hK => ?_) | (refine ZrN 5 fun _ => ?_; refine Zv Zxlss ?_) | (refine ZrN 6 fun _ => ?_; refine Zv Zmi ?_; refine Zv Zai ?_) | (refine ZrN 7 fun _ => ?_; refine Zv Zmv ?_; refine Zv Zmi ?_; refine Zv Zld ?_; refine OPS_pan (Enters_fn rfl) (hwet bb mm _ (by repeat (first | exact Sub.refl _ | assumption | exact Sub.left | apply Sub.cons | apply Sub.sv | apply Sub.app))) rfl rfl ?_) | (refine ZrN 11 fun _ => ?_; refine Zv Zmi ?_; refine Zv Zmi ?_; refine Zv Zai ?_; refine Zv Zai ?_; refine Zst ?_) | (refine Zcd (fun hc => ?_) (fun hc => ?_) <;> (try (exfalso; omega))) | (with_reducible apply WP_skip) | (with_reducible apply WP_block) | (with_reducible apply WP_exit) | (with_reducible apply WP_ret)) | (refine Zhn ?_) | (refine Zhx ?_) | (with_reducible apply QBlock_hit) | (with_reducible apply QLoop_exit) | (refine Zhp ?_) | (with_reducible apply QBlock_panic) | (with_reducible apply QLoop_panic))
      · refine QLeave_panic ?_; refine Lv_stop1 N w0 stops68 (by repeat (first | exact Up.here | apply Up.there | apply Up.sv)) ?_; refine Lv_nil rfl (.tmp (rfl : _ = Value.int _ _) (.tmp (rfl : _ = Value.int _ _) (.cell1 rfl (by repeat (first | exact Mem.here | assumption | apply Mem.there | apply Mem.sv | apply Mem.app)) rfl .nil))) rfl ?_; exact ⟨rfl, (by repeat (first | exact Wk.refl _ | apply Wk.keep1 | apply Wk.drop | apply Wk.sv | apply Wk.svD | apply Wk.appD))⟩
      all_goals exact absurd (show (0 : Int) < (g.h.heaps.length : Int) by omega) hc
    · have he : errE g.h (DayOk g.h j) = 0 := by simp [errE, hvb, hwo, h0]
      have hz : DoubtV g.h j = doubtK g.h j g.h.heaps.length := by unfold DoubtV; rw [he, if_pos rfl]; simp
      rw [he, hz]
      unfold heapV hvL at hop' ⊢
      repeat' (first | (refine Znh ?_) | (refine GiW ?_; first | (refine Zsq fun K hK => ?_) | (refine ZrN 0 fun _ => ?_; refine Zal 2 fun b2 => ?_; refine Zal 3 fun b3 => ?_; refine Zv Zai ?_; refine Zv Zai ?_; refine Zal 6 fun b6 => ?_) | (refine ZrN 1 fun _ => ?_; refine Zv Val_makeFunc ?_; refine OPS_defer rfl ?_) | (refine ZrN 2 fun _ => ?_; refine Zv Zla ?_; refine Zv Val_makeFunc ?_; refine OPS_retKS (Enters_fn rfl) (hop' b3 _ (by repeat (first | exact Sub.refl _ | assumption | exact Sub.left | apply Sub.cons | apply Sub.sv | apply Sub.app))) rfl rfl rfl (fun v9 L9 h9 => ?_); obtain ⟨bb, mm, rfl, rfl⟩ := h9; refine Zv Zav ?_) | (refine ZrN 3 fun _ => ?_; refine Zv Zai ?_; refine Zv Zai ?_) | (refine ZrN 4 fun _ => ?_; refine Zv Zmv ?_; (first | (refine Zv Zxnp ?_) | (refine Zv Zxnf ?_)); refine Zv Zf0 ?_; refine Zv Zf0 ?_; refine Zv Zld ?_; refine Zv Zxlen ?_; refine Zv Zmi ?_) | (with_reducible apply WP_block)))
      refine WP_loop [8, 9, 10, 11, 22, 23, 24, 25, 26, 27, 28, 29, 30, 31, 32, 33, 34, 35, 36, 37, 38, 39, 40, 41, 42] (fun k : Nat => [(22, .int .i64 k), (8, .int .i64 (doubtK g.h j k).1), (9, .int .i64 (doubtK g.h j k).2)]) (fun _ => Bk { g with b := bb, m := mm } ++ (b6, Blk 32 [.int .i64 0]) :: (b3, Blk 3 [.int .i64 j]) :: L) (fun k => k ≤ g.h.heaps.length) (fun k => g.h.heaps.length - k) 0 (.cons rfl (.cons rfl (.cons rfl .nil))) (by repeat (first | exact Wk.refl _ | apply Wk.keep1 | apply Wk.drop | apply Wk.sv | apply Wk.svD | apply Wk.appD)) (Nat.zero_le _) ?_
      intro k j0 hk
      by_cases hlt : k < g.h.heaps.length
      · have hwet := fun L hS => wet_ret N w0 L { g with b := bb, m := mm } hS hv (hA' bb mm) k j hlt hj1 h0
        have hsm := wetS_sm hv k j
        unfold P1000 at hsm
        obtain ⟨s, hs⟩ : ∃ s, wetS g.h k j = s := ⟨_, rfl⟩
        have hs2 : jn ((toldL ({ g with b := bb, m := mm } : Bg).h).map (wetR ({ g with b := bb, m := mm } : Bg).h k j)) = s := hs
        rw [hs2] at hwet
        rw [hs] at hsm
        have hdk : doubtK g.h j (k + 1) = if s.2 - s.1 > (doubtK g.h j k).2 then ((k : Int), s.2 - s.1) else doubtK g.h j k := by show (if _ then _ else _) = _; rw [hs]
        repeat' (first | (refine GiP ?_; first | (refine Znh ?_) | (with_reducible refine Znl ?_)) | (refine GiW ?_; first | (refine Zsq fun K hK => ?_) | (refine ZrN 5 fun _ => ?_; refine Zv Zxlss ?_) | (refine ZrN 6 fun _ => ?_; refine Zv Zmi ?_; refine Zv Zai ?_) | (refine ZrN 7 fun _ => ?_; refine Zv Zmv ?_; refine Zv Zmi ?_; refine Zv Zld ?_; refine Zcl (Enters_fn rfl) (hwet _ (by repeat (first | exact Sub.refl _ | assumption | exact Sub.left | apply Sub.cons | apply Sub.sv | apply Sub.app))) ?_; refine Zal 11 fun b11 => ?_; refine Zst ?_) | (refine ZrN 8 fun _ => ?_; refine Zv Zfa ?_; refine Zv Zld ?_; refine Zv Zf0 ?_; refine Zv Zld ?_; refine Zv Zxsub ?_; refine Zv Zmi ?_; refine Zv Zxgtr ?_) | (refine ZrN 10 fun _ => ?_; refine Zv Zxadd ?_; refine Zv Zmi ?_) | (refine ZrN 11 fun _ => ?_; refine Zv Zmi ?_; refine Zv Zmi ?_; refine Zv Zai ?_; refine Zv Zai ?_; refine Zst ?_) | (refine Zcd (fun hc => ?_) (fun hc => ?_) <;> (try (exfalso; omega))) | (with_reducible apply WP_skip) | (with_reducible apply WP_block) | (with_reducible apply WP_exit) | (with_reducible apply WP_ret) | (refine WP_drawn (id := 9) [0, 1, 2, 3, 4, 5, 6, 7] [] (k := 0) prog_mixed (by kernel_rfl) rfl ?_; refine Zew rfl Zmi ?_; refine Zew rfl Zfa ?_; refine Zew rfl Zld ?_; refine Zew rfl Zf0 ?_; refine Zew rfl Zld ?_; refine Zew rfl Zxsub ?_; refine Zew rfl Zai ?_; refine Zew rfl Zai ?_)) | (with_reducible apply EWalk_nil) | (refine AnyO_done (by kernel_rfl) ?_; (try with_reducible apply noP_normal); try with_reducible exact key.out) | (refine Zhn ?_) | (with_reducible apply QBlock_normal) | (refine Zhx ?_) | (with_reducible apply QBlock_hit) | (with_reducible apply QLoop_exit) | (refine AWalk_0 ?_; refine ZisO ?_; apply shr; intro key))
        · refine QLoop_normal (k + 1) (.cons rfl (.cons (by rw [hdk, if_pos hc]; rfl) (.cons (by rw [hdk, if_pos hc]; rfl) .nil))) (by repeat (first | exact Off.frame rfl | exact Off.refl _ _ | refine Off.frameT rfl rfl ?_ | refine Off.upd rfl ?_ | refine Off.updO rfl ?_)) (by repeat (first | exact Wk.refl _ | apply Wk.keep1 | apply Wk.drop | apply Wk.sv | apply Wk.svD | apply Wk.appD)) (by omega) (by omega)
        · refine QLoop_normal (k + 1) (.cons rfl (.cons (by rw [hdk, if_neg hc]; rfl) (.cons (by rw [hdk, if_neg hc]; rfl) .nil))) (by repeat (first | exact Off.frame rfl | exact Off.refl _ _ | refine Off.frameT rfl rfl ?_ | refine Off.upd rfl ?_ | refine Off.updO rfl ?_)) (by repeat (first | exact Wk.refl _ | apply Wk.keep1 | apply Wk.drop | apply Wk.sv | apply Wk.svD | apply Wk.appD)) (by omega) (by omega)
        all_goals exact absurd (show ((k : Nat) : Int) < (g.h.heaps.length : Int) by omega) hc
      · have hke : k = g.h.heaps.length := by omega
        subst hke
        repeat' (first | (refine Znh ?_) | (refine GiW ?_; first | (refine Zsq fun K hK => ?_) | (refine ZrN 5 fun _ => ?_; refine Zv Zxlss ?_) | (refine ZrN 6 fun _ => ?_; refine Zv Zmi ?_; refine Zv Zai ?_) | (refine ZrN 11 fun _ => ?_; refine Zv Zmi ?_; refine Zv Zmi ?_; refine Zv Zai ?_; refine Zv Zai ?_; refine Zst ?_) | (refine Zcd (fun hc => ?_) (fun hc => ?_) <;> (try (exfalso; omega))) | (with_reducible apply WP_skip) | (with_reducible apply WP_block) | (with_reducible apply WP_exit) | (with_reducible apply WP_ret)) | (refine Zhn ?_) | (refine Zhx ?_) | (with_reducible apply QBlock_hit) | (with_reducible apply QLoop_exit))
        all_goals first | (refine QLeave_ret ?_; refine Lv_stop0 N w0 stops68 ?_; refine Lv_nil rfl (.tmp (rfl : _ = Value.int _ _) (.tmp (rfl : _ = Value.int _ _) (.cell1 rfl (by repeat (first | exact Mem.here | assumption | apply Mem.there | apply Mem.sv | apply Mem.app)) rfl .nil))) rfl ?_; exact ⟨rfl, (by repeat (first | exact Wk.refl _ | apply Wk.keep1 | apply Wk.drop | apply Wk.sv | apply Wk.svD | apply Wk.appD))⟩) | (exfalso; dsimp only at *; omega)
  · have hno := no_of hok
    have hz : DoubtV g.h day = (0, 0) := by unfold DoubtV; rw [if_neg (errE_ne hno)]
    have hop' := fun b3 L h => open_no N w0 (hop b3 L h) hno
    rw [hz]
    unfold heapV hvL at hop' ⊢
    repeat' (first | (refine Znh ?_) | (refine GiW ?_; first | (refine Zsq fun K hK => ?_) | (refine ZrN 0 fun _ => ?_; refine Zal 2 fun b2 => ?_; refine Zal 3 fun b3 => ?_; refine Zv Zai ?_; refine Zv Zai ?_; refine Zal 6 fun b6 => ?_) | (refine ZrN 1 fun _ => ?_; refine Zv Val_makeFunc ?_; refine OPS_defer rfl ?_) | (refine ZrN 2 fun _ => ?_; refine Zv Zla ?_; refine Zv Val_makeFunc ?_; refine OPS_pan (Enters_fn rfl) (hop' b3 _ (by repeat (first | exact Sub.refl _ | assumption | exact Sub.left | apply Sub.cons | apply Sub.sv | apply Sub.app))) rfl rfl ?_)) | (refine Zhp ?_))
    refine QLeave_panic ?_; refine Lv_stop1 N w0 stops68 (by repeat (first | exact Up.here | apply Up.there | apply Up.sv)) ?_; refine Lv_nil rfl (.tmp (rfl : _ = Value.int _ _) (.tmp (rfl : _ = Value.int _ _) (.cell1 rfl (by repeat (first | exact Mem.here | assumption | apply Mem.there | apply Mem.sv | apply Mem.app)) rfl .nil))) rfl ?_; exact ⟨rfl, (by repeat (first | exact Wk.refl _ | apply Wk.keep1 | apply Wk.drop | apply Wk.sv | apply Wk.svD | apply Wk.appD))⟩
end
end Go.Proofs.Ytlpahkmfjpjheaa
end

section
namespace Go.Proofs.Ytlpahkmfjpjheaa
open Go.RowKit
theorem verd_none (h : Hv) (r : List Int) (i : Int) (place n : Int) : ∀ (ls : List Lk) (k : Nat), verd h r i 0 place n ls k = 0
  | [], _ => rfl
  | l :: ls, k => by rw [verd_cons, if_pos (.inl (by simp))]; exact verd_none h r i place n ls (k + 1)
theorem outer_none (h : Hv) (r : List Int) (i : Int) (t : Tf) : ∀ (m : Nat) (s : Sp), outer h r i 0 t (m + 1) s = (t.lo, s.2)
  | 0, s => by unfold outer; rw [verd_none]; simp [outer]
  | m + 1, s => by
    have h1 : outer h r i 0 t (m + 2) s = outer h r i 0 t (m + 1) (t.lo + ((m + 1 : Nat) : Int), s.2) := by
      conv => lhs; unfold outer
      rw [verd_none]; simp
    rw [h1, outer_none h r i t m]
theorem firstT_none {h : Hv} {r : List Int} {i : Int} {t : Tf} (ht : t.lo ≤ t.hi) : firstT h r i 0 t = (t.lo, t.hi) := by
  unfold firstT
  obtain ⟨m, hm⟩ : ∃ m, (t.hi - t.lo + 1).toNat = m + 1 := ⟨(t.hi - t.lo).toNat, by omega⟩
  rw [hm, outer_none]
  dsimp only
  rw [if_neg (by omega)]
theorem canB_none {h : Hv} (hv : VH h) (r : List Int) : canB h r 0 = true := by
  refine canB_true fun i hi => ?_
  unfold firstS
  rw [List.getElem?_eq_getElem hi]
  dsimp only
  have := hv.tf h.heaps[i] (List.getElem_mem hi)
  rw [firstT_none (by omega)]
  dsimp only
  omega
theorem allR_ne : ∀ {l : List Sp}, (∀ s ∈ l, s.1 ≤ s.2) → allR l ≠ []
  | [], _ => by simp [allR]
  | s :: l, h => by
    have h1 := allR_ne (l := l) (fun x hx => h x (.tail _ hx))
    have h2 := h s (.head _)
    obtain ⟨q, hq⟩ := List.exists_mem_of_ne_nil _ h1
    have : (s.1 + 0) ∈ vals s := by
      unfold vals
      exact List.mem_map.2 ⟨0, List.mem_range.2 (by omega), by simp⟩
    exact List.ne_nil_of_mem (List.mem_flatMap.2 ⟨_, this, List.mem_map.2 ⟨q, hq, rfl⟩⟩)
theorem someB_none {h : Hv} (hv : VH h) : someB h 0 = true := by
  have h1 : allR h.rains ≠ [] := allR_ne (fun s hs => (hv.rn s hs).2.1)
  obtain ⟨q, hq⟩ := List.exists_mem_of_ne_nil _ h1
  exact List.any_eq_true.2 ⟨_, List.mem_map.2 ⟨q, hq, rfl⟩, canB_none hv _⟩
def stabChk (k : Nat) : Bool := ((stab (2 ^ k) (List.range (2 ^ k))).length == 2 ^ k) && (stab (2 ^ k) (List.range (2 ^ k))).contains (2 ^ k - 1) && (stab (2 ^ k) (List.range (2 ^ k))).all (fun x => Nat.blt x (2 ^ k))
theorem stab_chk : ((List.range 6).all stabChk) = true := by kernel_rfl
theorem stab_spec (k : Nat) (hk : k < 6) : (stab (2 ^ k) (List.range (2 ^ k))).length = 2 ^ k ∧ (2 ^ k - 1) ∈ stab (2 ^ k) (List.range (2 ^ k)) ∧ ∀ x ∈ stab (2 ^ k) (List.range (2 ^ k)), x < 2 ^ k := by
  have h := List.all_eq_true.1 stab_chk k (List.mem_range.2 hk)
  simp only [stabChk, Bool.and_eq_true, beq_iff_eq, List.contains_eq_mem, decide_eq_true_eq, List.all_eq_true, Nat.blt_eq] at h
  exact ⟨h.1.1, h.1.2, h.2⟩
end Go.Proofs.Ytlpahkmfjpjheaa
end

section
namespace Go.Proofs.Ytlpahkmfjpjheaa
open Go.RowKit
theorem idxI_cases (p : Nat → Bool) (l : List Nat) : (∃ i, i < l.length ∧ idxI p l = (i : Int) ∧ p (gt l i) = true ∧ ∀ k, k < i → p (gt l k) = false) ∨ (idxI p l = -1 ∧ ∀ x ∈ l, p x = false) := by
  unfold idxI
  cases h : l.findIdx? p with
  | none =>
    refine .inr ⟨rfl, fun x hx => ?_⟩
    have := List.findIdx?_eq_none_iff.1 h x hx
    simpa using this
  | some i =>
    obtain ⟨hi, h1, h2⟩ := List.findIdx?_eq_some_iff_getElem.1 h
    have hg : ∀ k (h : k < l.length), gt l k = l[k] := fun k h => by simp [gt, h]
    refine .inl ⟨i, hi, rfl, by rw [hg i hi]; exact h1, fun k hk => ?_⟩
    rw [hg k (by omega)]
    have := h2 k hk
    simpa using this
theorem setsL_spec {h : Hv} (hv : VH h) : (setsL h).length = 2 ^ h.looks.length ∧ (2 ^ h.looks.length - 1) ∈ setsL h ∧ (∀ x ∈ setsL h, x < 32) ∧ 2 ^ h.looks.length ≤ 32 := by
  have hnl := hv.nl
  obtain ⟨h1, h2, h3⟩ := stab_spec h.looks.length (by omega)
  have h4 : 2 ^ h.looks.length ≤ 2 ^ 5 := Nat.pow_le_pow_right (by omega) hnl
  exact ⟨h1, h2, fun x hx => by have := h3 x hx; omega, by omega⟩
theorem falseP_all {h : Hv} (hv : VH h) : FalseP h (2 ^ h.looks.length - 1) = true := by
  unfold FalseP evL
  have hnl := hv.nl
  have : (2 ^ h.looks.length - 1) &&& (2 ^ 64 - 1 - (2 ^ h.looks.length - 1)) = 0 := by
    have hk : h.looks.length = 0 ∨ h.looks.length = 1 ∨ h.looks.length = 2 ∨ h.looks.length = 3 ∨ h.looks.length = 4 ∨ h.looks.length = 5 := by omega
    rcases hk with hk | hk | hk | hk | hk | hk <;> rw [hk] <;> decide
  rw [this]
  exact someB_none hv
def firstOf (p : Nat → Bool) (l : List Nat) : Nat := gt l (idxI p l).toNat
def FalseS (h : Hv) : Nat := firstOf (FalseP h) (setsL h)
def ClashS (h : Hv) : Nat := firstOf (ClashP h) (setsL h)
def FalseV (h : Hv) : Int × Int := if vB h = true then ((pc (FalseS h) : Int), (FalseS h : Int)) else (0, 0)
def ClashE (h : Hv) : Int := if vB h = false then 1 else if idxI (ClashP h) (setsL h) = -1 then 4 else 0
def ClashV (h : Hv) : Int := if ClashE h = 0 then (ClashS h : Int) else 0
def FalseE (h : Hv) : Int := if vB h = false then 1 else 0
attribute [local irreducible] AnyO AnyB QAny QB EWalk AWalk Ev WP OPS QThen QBlock QScope QLoop QBody Val New Turn Tri Enters PostA Blk Ro
attribute [local irreducible] AnyC QC
section
variable (N : Nat) (w0 : World)
theorem False_ret (L : Hp) (g : Bg) (hA : HeapAt N w0 g) :
    Ret Try.prog N w0 L 26 [heapV g].toArray (.tuple [.int .i64 (FalseV g.h).1, .int .i64 (FalseV g.h).2, .int .i64 (FalseE g.h)].toArray) := by
  refine Ret.fgt ?_
  refine tri_of_WPL Try.func26 rfl (n := 23) rfl (by simp) ?_
  have hop : ∀ (L : Hp), OpenR N w0 g true 67 [] L := fun L =>
    open_tri N w0 L g hA _ 67 [] [] ⟨L, .refl _⟩ (fun b m L' h h2 => all67_ret N w0 g b m L' h h2)
  by_cases hvb : vB g.h = true
  · have hv := VH_of hvb
    have hop' := fun L => open_ok N w0 (hop L) hvb rfl
    have hA' : ∀ b m, HeapAt N w0 { g with b := b, m := m } := fun b m => ⟨hA.heaps, hA.rains, hA.looks⟩
    obtain ⟨hlen, hall, h32, hn32⟩ := setsL_spec hv
    obtain ⟨i, hi, hix, hp, hno⟩ | ⟨_, hno⟩ := idxI_cases (FalseP g.h) (setsL g.h)
    · have hS : FalseS g.h = gt (setsL g.h) i := by unfold FalseS firstOf; rw [hix]; simp
      have he : FalseE g.h = 0 := by simp [FalseE, hvb]
      have hz : FalseV g.h = ((pc (gt (setsL g.h) i) : Int), (gt (setsL g.h) i : Int)) := by unfold FalseV; rw [if_pos hvb, hS]
      rw [he, hz]
      have hx32 := h32 _ (gt_mem hi)
      obtain ⟨x, hx⟩ : ∃ x, gt (setsL g.h) i = x := ⟨_, rfl⟩
      have hcell : (us (setsL g.h))[0 + i]? = some (.int .u64 (gt (setsL g.h) i : Int)) := us_get hi
      rw [hx] at hx32 hcell ⊢
      have hidx := fun L b c b5 bb mm hb hN hq => index_ret N w0 L (setsL g.h) (by omega) b c hb 73 [.pointer (some ⟨b5, 0, none⟩)] (FalseP g.h) (BoxNd b5 { g with b := bb, m := mm }) hN hq
      rw [hlen, hix] at hidx
      have hin : i < 2 ^ g.h.looks.length := by omega
      have hst := fun L bb mm hm => sets_tri N w0 L { g with b := bb, m := mm } hm hv.nl
      have hfr := fun bb mm b5 y hy L' h => false_ret N w0 { g with b := bb, m := mm } hv (hA' bb mm) b5 y (h32 y hy) L' h
      unfold heapV hvL at hop' ⊢
      repeat' (first | (refine Znh ?_) | (refine GiW ?_; first | (refine Zsq fun K hK => ?_) | (refine ZrN 0 fun _ => ?_; refine Zal 1 fun b1 => ?_; refine Zv Zai ?_; refine Zv Zai ?_; refine Zal 4 fun b4 => ?_) | (refine ZrN 1 fun _ => ?_; refine Zv Val_makeFunc ?_; refine OPS_defer rfl ?_) | (refine ZrN 2 fun _ => ?_; refine Zv Zla ?_; refine OPS_retKS (Enters_fn rfl) (hop' _) rfl rfl rfl (fun v10 L10 h10 => ?_); obtain ⟨bb, mm, rfl, rfl⟩ := h10; refine Zal 5 fun b5 => ?_; refine Zst ?_) | (refine ZrN 3 fun _ => ?_; refine Zv Zld ?_; refine OPS_retKS (Enters_fn rfl) (hst _ bb mm (by repeat (first | exact Mem.here | assumption | apply Mem.there | apply Mem.sv | apply Mem.app))) rfl rfl rfl (fun v12 L12 h12 => ?_); obtain ⟨bs, rfl, rfl⟩ := h12; refine Zv Zav ?_) | (refine ZrN 4 fun _ => ?_; refine Zv Zmv ?_; refine Zv Zmv ?_; refine Zv Val_makeFunc ?_; refine Zcl (Enters_fn rfl) (hidx _ bs _ b5 bb mm (by repeat (first | exact Mem.here | assumption | apply Mem.there | apply Mem.sv | apply Mem.app)) (by unfold BoxNd; exact (by repeat (first | exact Sub.refl _ | assumption | exact Sub.left | (with_reducible refine Sub.pick (by repeat (first | exact Pick.here | apply Pick.there)) ?_) | apply Sub.cons | apply Sub.sv | apply Sub.app))) (hfr bb mm b5)) ?_; refine Zv Zia ?_; refine Zv Zld ?_; refine Zv Zai ?_) | (refine ZrN 5 fun _ => ?_; refine Zv Zmi ?_; refine Zcl (Enters_fn rfl) (ones_ret N w0 _ x hx32) ?_; refine Zv Zmi ?_; refine Zv Zxco ?_; refine Zv Zai ?_; refine Zv Zai ?_; refine Zst ?_) | (with_reducible apply WP_ret)))
      refine QLeave_ret ?_; refine Lv_stop0 N w0 stops70 ?_; refine Lv_nil rfl (.tmp (rfl : _ = Value.int _ _) (.tmp (rfl : _ = Value.int _ _) (.cell1 rfl (by repeat (first | exact Mem.here | assumption | apply Mem.there | apply Mem.sv | apply Mem.app)) rfl .nil))) rfl ?_; exact ⟨rfl, (by repeat (first | exact Wk.refl _ | apply Wk.keep1 | apply Wk.drop | apply Wk.sv | apply Wk.svD | apply Wk.appD))⟩
    · exact absurd (falseP_all hv) (by rw [hno _ hall]; simp)
  · have hvb' : vB g.h = false := by simpa using hvb
    have hno : vB g.h = false ∨ true = false := .inl hvb'
    have he : FalseE g.h = 1 := by simp [FalseE, hvb']
    have hz : FalseV g.h = (0, 0) := by unfold FalseV; rw [if_neg hvb]
    have he1 : errE g.h true = 1 := by simp [errE, hvb']
    have hop' := fun L => open_no N w0 (hop L) hno
    rw [he, hz]
    rw [he1] at hop'
    unfold heapV hvL at hop' ⊢
    repeat' (first | (refine Znh ?_) | (refine GiW ?_; first | (refine Zsq fun K hK => ?_) | (refine ZrN 0 fun _ => ?_; refine Zal 1 fun b1 => ?_; refine Zv Zai ?_; refine Zv Zai ?_; refine Zal 4 fun b4 => ?_) | (refine ZrN 1 fun _ => ?_; refine Zv Val_makeFunc ?_; refine OPS_defer rfl ?_) | (refine ZrN 2 fun _ => ?_; refine Zv Zla ?_; refine OPS_pan (Enters_fn rfl) (hop' _) rfl rfl ?_)) | (refine Zhp ?_))
    refine QLeave_panic ?_; refine Lv_stop1 N w0 stops70 (by repeat (first | exact Up.here | apply Up.there | apply Up.sv)) ?_; refine Lv_nil rfl (.tmp (rfl : _ = Value.int _ _) (.tmp (rfl : _ = Value.int _ _) (.cell1 rfl (by repeat (first | exact Mem.here | assumption | apply Mem.there | apply Mem.sv | apply Mem.app)) rfl .nil))) rfl ?_; exact ⟨rfl, (by repeat (first | exact Wk.refl _ | apply Wk.keep1 | apply Wk.drop | apply Wk.sv | apply Wk.svD | apply Wk.appD))⟩
theorem Clash_ret (L : Hp) (g : Bg) (hA : HeapAt N w0 g) :
    Ret Try.prog N w0 L 28 [heapV g].toArray (.tuple [.int .i64 (ClashV g.h), .int .i64 (ClashE g.h)].toArray) := by
  refine Ret.fgt ?_
  refine tri_of_WPL Try.func28 rfl (n := 23) rfl (by simp) ?_
  have hop : ∀ (L : Hp), OpenR N w0 g true 67 [] L := fun L =>
    open_tri N w0 L g hA _ 67 [] [] ⟨L, .refl _⟩ (fun b m L' h h2 => all67_ret N w0 g b m L' h h2)
  by_cases hvb : vB g.h = true
  · have hv := VH_of hvb
    have hop' := fun L => open_ok N w0 (hop L) hvb rfl
    have hA' : ∀ b m, HeapAt N w0 { g with b := b, m := m } := fun b m => ⟨hA.heaps, hA.rains, hA.looks⟩
    obtain ⟨hlen, hall, h32, hn32⟩ := setsL_spec hv
    have hst := fun L bb mm hm => sets_tri N w0 L { g with b := bb, m := mm } hm hv.nl
    have hidx := fun L b c b5 bb mm hb hN hq => index_ret N w0 L (setsL g.h) (by omega) b c hb 81 [.pointer (some ⟨b5, 0, none⟩)] (ClashP g.h) (BoxNd b5 { g with b := bb, m := mm }) hN hq
    have hfr := fun bb mm b5 y hy L' h => clash_ret N w0 { g with b := bb, m := mm } hv (hA' bb mm) b5 y (h32 y hy) L' h
    obtain ⟨i, hi, hix, hp, hno⟩ | ⟨hix, hno⟩ := idxI_cases (ClashP g.h) (setsL g.h)
    · have hS : ClashS g.h = gt (setsL g.h) i := by unfold ClashS firstOf; rw [hix]; simp
      have he : ClashE g.h = 0 := by simp [ClashE, hvb, hix]
      have hz : ClashV g.h = (gt (setsL g.h) i : Int) := by unfold ClashV; rw [if_pos he, hS]
      rw [he, hz]
      have hx32 := h32 _ (gt_mem hi)
      obtain ⟨x, hx⟩ : ∃ x, gt (setsL g.h) i = x := ⟨_, rfl⟩
      have hcell : (us (setsL g.h))[0 + i]? = some (.int .u64 (gt (setsL g.h) i : Int)) := us_get hi
      rw [hx] at hx32 hcell ⊢
      rw [hlen, hix] at hidx
      have hin : i < 2 ^ g.h.looks.length := by omega
      have hmust : ∀ L, Ret Try.prog N w0 L 82 [.bool (decide ((0 : Int) ≤ (i : Int))), .int .i64 4].toArray (.tuple #[]) := by
        intro L; rw [decide_eq_true (by omega)]; exact must_ok N w0 L 4
      unfold heapV hvL at hop' ⊢
      repeat' (first | (refine Znh ?_) | (refine GiW ?_; first | (refine Zsq fun K hK => ?_) | (refine ZrN 0 fun _ => ?_; refine Zal 1 fun b1 => ?_; refine Zv Zai ?_; refine Zal 3 fun b3 => ?_) | (refine ZrN 1 fun _ => ?_; refine Zv Val_makeFunc ?_; refine OPS_defer rfl ?_) | (refine ZrN 2 fun _ => ?_; refine Zv Zla ?_; refine OPS_retKS (Enters_fn rfl) (hop' _) rfl rfl rfl (fun v9 L9 h9 => ?_); obtain ⟨bb, mm, rfl, rfl⟩ := h9; refine Zal 4 fun b4 => ?_; refine Zst ?_) | (refine ZrN 3 fun _ => ?_; refine Zv Zld ?_; refine OPS_retKS (Enters_fn rfl) (hst _ bb mm (by repeat (first | exact Mem.here | assumption | apply Mem.there | apply Mem.sv | apply Mem.app))) rfl rfl rfl (fun v11 L11 h11 => ?_); obtain ⟨bs, rfl, rfl⟩ := h11; refine Zv Zav ?_) | (refine ZrN 4 fun _ => ?_; refine Zv Zmv ?_; refine Zv Val_makeFunc ?_; refine Zcl (Enters_fn rfl) (hidx _ bs _ b4 bb mm (by repeat (first | exact Mem.here | assumption | apply Mem.there | apply Mem.sv | apply Mem.app)) (by unfold BoxNd; exact (by repeat (first | exact Sub.refl _ | assumption | exact Sub.left | (with_reducible refine Sub.pick (by repeat (first | exact Pick.here | apply Pick.there)) ?_) | apply Sub.cons | apply Sub.sv | apply Sub.app))) (hfr bb mm b4)) ?_; refine Zv Zai ?_) | (refine ZrN 5 fun _ => ?_; refine Zv Zmi ?_; refine Zv Zxgeq ?_; refine Zcl (Enters_fn rfl) (hmust _) ?_) | (refine ZrN 6 fun _ => ?_; refine Zv Zmv ?_; refine Zv Zmi ?_; refine Zv Zia ?_; refine Zv Zld ?_; refine Zv Zxco ?_; refine Zv Zai ?_; refine Zst ?_) | (with_reducible apply WP_ret)))
      refine QLeave_ret ?_; refine Lv_stop0 N w0 stops80 ?_; refine Lv_nil rfl (.tmp (rfl : _ = Value.int _ _) (.cell1 rfl (by repeat (first | exact Mem.here | assumption | apply Mem.there | apply Mem.sv | apply Mem.app)) rfl .nil)) rfl ?_; exact ⟨rfl, (by repeat (first | exact Wk.refl _ | apply Wk.keep1 | apply Wk.drop | apply Wk.sv | apply Wk.svD | apply Wk.appD))⟩
    · have he : ClashE g.h = 4 := by simp [ClashE, hvb, hix]
      have hz : ClashV g.h = 0 := by unfold ClashV; rw [he, if_neg (by omega)]
      rw [he, hz]
      rw [hlen, hix] at hidx
      have hmust : ∀ L, Tri Try.prog N w0 L 82 [.bool (decide ((0 : Int) ≤ -1)), .int .i64 4].toArray fun x L' => x = .panicked (stopE 4) ∧ L' = L := by
        intro L; rw [decide_eq_false (by omega)]; exact must_no N w0 L 4
      unfold heapV hvL at hop' ⊢
      repeat' (first | (refine Znh ?_) | (refine GiW ?_; first | (refine Zsq fun K hK => ?_) | (refine ZrN 0 fun _ => ?_; refine Zal 1 fun b1 => ?_; refine Zv Zai ?_; refine Zal 3 fun b3 => ?_) | (refine ZrN 1 fun _ => ?_; refine Zv Val_makeFunc ?_; refine OPS_defer rfl ?_) | (refine ZrN 2 fun _ => ?_; refine Zv Zla ?_; refine OPS_retKS (Enters_fn rfl) (hop' _) rfl rfl rfl (fun v9 L9 h9 => ?_); obtain ⟨bb, mm, rfl, rfl⟩ := h9; refine Zal 4 fun b4 => ?_; refine Zst ?_) | (refine ZrN 3 fun _ => ?_; refine Zv Zld ?_; refine OPS_retKS (Enters_fn rfl) (hst _ bb mm (by repeat (first | exact Mem.here | assumption | apply Mem.there | apply Mem.sv | apply Mem.app))) rfl rfl rfl (fun v11 L11 h11 => ?_); obtain ⟨bs, rfl, rfl⟩ := h11; refine Zv Zav ?_) | (refine ZrN 4 fun _ => ?_; refine Zv Zmv ?_; refine Zv Val_makeFunc ?_; refine Zcl (Enters_fn rfl) (hidx _ bs _ b4 bb mm (by repeat (first | exact Mem.here | assumption | apply Mem.there | apply Mem.sv | apply Mem.app)) (by unfold BoxNd; exact (by repeat (first | exact Sub.refl _ | assumption | exact Sub.left | (with_reducible refine Sub.pick (by repeat (first | exact Pick.here | apply Pick.there)) ?_) | apply Sub.cons | apply Sub.sv | apply Sub.app))) (hfr bb mm b4)) ?_; refine Zv Zai ?_) | (refine ZrN 5 fun _ => ?_; refine Zv Zmi ?_; refine Zv Zxgeq ?_; refine OPS_pan (Enters_fn rfl) (hmust _) rfl rfl ?_)) | (refine Zhp ?_))
      refine QLeave_panic ?_; refine Lv_stop1 N w0 stops80 (by repeat (first | exact Up.here | apply Up.there | apply Up.sv)) ?_; refine Lv_nil rfl (.tmp (rfl : _ = Value.int _ _) (.cell1 rfl (by repeat (first | exact Mem.here | assumption | apply Mem.there | apply Mem.sv | apply Mem.app)) rfl .nil)) rfl ?_; exact ⟨rfl, (by repeat (first | exact Wk.refl _ | apply Wk.keep1 | apply Wk.drop | apply Wk.sv | apply Wk.svD | apply Wk.appD))⟩
  · have hvb' : vB g.h = false := by simpa using hvb
    have hno : vB g.h = false ∨ true = false := .inl hvb'
    have he : ClashE g.h = 1 := by simp [ClashE, hvb']
    have hz : ClashV g.h = 0 := by unfold ClashV; rw [he, if_neg (by omega)]
    have he1 : errE g.h true = 1 := by simp [errE, hvb']
    have hop' := fun L => open_no N w0 (hop L) hno
    rw [he, hz]
    rw [he1] at hop'
    unfold heapV hvL at hop' ⊢
    repeat' (first | (refine Znh ?_) | (refine GiW ?_; first | (refine Zsq fun K hK => ?_) | (refine ZrN 0 fun _ => ?_; refine Zal 1 fun b1 => ?_; refine Zv Zai ?_; refine Zal 3 fun b3 => ?_) | (refine ZrN 1 fun _ => ?_; refine Zv Val_makeFunc ?_; refine OPS_defer rfl ?_) | (refine ZrN 2 fun _ => ?_; refine Zv Zla ?_; refine OPS_pan (Enters_fn rfl) (hop' _) rfl rfl ?_)) | (refine Zhp ?_))
    refine QLeave_panic ?_; refine Lv_stop1 N w0 stops80 (by repeat (first | exact Up.here | apply Up.there | apply Up.sv)) ?_; refine Lv_nil rfl (.tmp (rfl : _ = Value.int _ _) (.cell1 rfl (by repeat (first | exact Mem.here | assumption | apply Mem.there | apply Mem.sv | apply Mem.app)) rfl .nil)) rfl ?_; exact ⟨rfl, (by repeat (first | exact Wk.refl _ | apply Wk.keep1 | apply Wk.drop | apply Wk.sv | apply Wk.svD | apply Wk.appD))⟩
end
end Go.Proofs.Ytlpahkmfjpjheaa
end
