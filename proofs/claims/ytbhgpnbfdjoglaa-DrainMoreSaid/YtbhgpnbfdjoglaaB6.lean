/- Package drain: all sets by size; the first one that fits; whether a row of levels has one that fits. -/
import Derived.Test.YtbhgpnbfdjoglaaB5
import Derived.Test.YtbhgpnbfdjoglaaQd
section
namespace Go.Proofs.Ytbhgpnbfdjoglaa
open Go.RowKit
section
variable {P : Program} {r : Option Nat} {n N : Nat} {w0 : World} {L : Hp} {e : Env} {Q : Post} {ds : List Deferred}
/-- What a row holds, with what stands behind it. -/
theorem WP_opnR {c : Code} {b E sz k cap : Nat} {xs : List Value} (h : ∀ tl, WP P r n N w0 c Q e ds ((b, Blk E (xs ++ tl)) :: L)) : WP P r n N w0 c Q e ds ((b, Row E sz k cap xs) :: L) := by
  intro a w hs he hd hI
  obtain ⟨o, ho, cur, rfl, h1, h2, h3, h4⟩ := hI.obj' (b := b) .here
  refine h (cur.toList.drop (k * sz)) a w hs he hd ⟨hI.below, hI.big, ?_, ?_⟩
  · have := hI.dis
    rw [List.pairwise_cons] at this ⊢
    exact this
  · intro x hx
    rcases List.mem_cons.1 hx with rfl | hx
    · refine ⟨(hI.own _ List.mem_cons_self).1, _, ho, ?_⟩
      unfold Blk Is
      rw [← h4, List.take_append_drop]
    · exact hI.own x (.tail _ hx)
end
theorem us_snoc (k : Nat) : us (List.range (k + 1)) = us (List.range k) ++ [.int .u64 (k : Int)] := by simp [us, List.range_succ]
attribute [local irreducible] AnyO AnyB QAny QB EWalk AWalk Ev WP OPS QThen QBlock QScope QLoop QBody Val New Turn Tri Enters PostA Blk Ro
attribute [local irreducible] AnyC QC
section
variable (N : Nat) (w0 : World)
set_option maxHeartbeats 2000000 in
theorem sets_tri (L : Hp) (m : Nat) (hm : m < 8) :
    Tri Try.prog N w0 L 69 [.int .i64 m].toArray fun r L' => ∃ v, r = .returned v ∧ ∃ b tl c, v = .slice (some ⟨b, 0, none⟩) ((2 ^ m : Nat)) c ∧ L' = (b, Blk 96 (ut tl (setsL m))) :: L := by
  have hp : 2 ^ m ≤ 2 ^ 7 := Nat.pow_le_pow_right (by omega) (by omega)
  have hp1 : 1 ≤ 2 ^ m := Nat.one_le_two_pow
  have hl : Lt128 (2 ^ m) (List.range (2 ^ m)) := ⟨List.length_range, fun x hx => by rw [List.mem_range] at hx; omega⟩
  have hst : stab (2 ^ m) (List.range (2 ^ m)) = setsL m := rfl
  have hsrt := fun tl L b c => sort_tri N w0 tl L (2 ^ m) (List.range (2 ^ m)) hl (by omega) b c
  rw [hst] at hsrt
  unfold cmpV at hsrt
  refine Tri.fgt ?_
  refine tri_of_WP Try.func69 rfl (n := _) rfl (by simp) ?_
  repeat' (first | (refine GiP ?_; first | (refine Znh ?_) | (with_reducible refine Znl ?_)) | (refine GiW ?_; first | (refine Zsq fun K hK => ?_) | (refine ZrN 0 fun _ => ?_; refine Zv Zav ?_) | (refine ZrN 1 fun _ => ?_; refine Zv Zmi ?_; refine Zv (Val_shl1 (i := m) rfl rfl rfl (by show _ < 64; omega)) ?_; refine Zv Zmi ?_) | (refine WP_cond_true rfl ?_) | (refine WP_cond_false rfl ?_) | (refine Zcd (fun hc => ?_) (fun hc => ?_) <;> (try (exfalso; omega))) | (with_reducible apply WP_skip) | (with_reducible apply WP_block) | (with_reducible apply WP_exit) | (with_reducible apply WP_ret)) | (refine Zhn ?_) | (with_reducible apply QBlock_normal) | (refine Zhx ?_) | (with_reducible apply QBlock_hit) | (refine Zqb ?_) | (with_reducible apply QLoop_exit) | (refine Zhr ?_) | (with_reducible apply QBlock_ret) | (with_reducible apply QLoop_ret))
  refine WP_loop [2, 3, 6, 7, 8, 9, 10, 11, 12, 13] (fun q : Nat × Option (Nat × Nat) => [(6, .int .u64 (q.1 : Int)), (2, svV q.2 q.1)]) (fun q => svH 96 1 q.1 (us (List.range q.1)) q.2 L) (fun q => q.1 ≤ 2 ^ m ∧ svOk q.2 1 q.1 (us (List.range q.1))) (fun q => 2 ^ m - q.1) (0, none) (.cons rfl (.cons rfl .nil)) (Wk.refl _) ⟨Nat.zero_le _, svOk_nil 1⟩ ?_
  rintro ⟨k, s⟩ j ⟨hk, hs⟩
  dsimp only at hk hs ⊢
  by_cases hlt : k < 2 ^ m
  · repeat' (first | (refine GiP ?_; first | (refine Znh ?_) | (with_reducible refine Znl ?_)) | (refine GiW ?_; first | (refine Zsq fun K hK => ?_) | (refine ZrN 2 fun _ => ?_; refine Zv Zxlss ?_) | (refine ZrN 3 fun _ => ?_; refine Zv Zmi ?_; refine Zv Zai ?_) | (refine ZrN 4 fun _ => ?_; refine Zv Zmv ?_; refine Zv Zmi ?_; refine Zal 11 fun b11 => ?_; refine OPS_append rfl rfl rfl (by repeat (first | exact Wk.refl _ | apply Wk.keep1 | apply Wk.drop | apply Wk.sv | apply Wk.svD | apply Wk.appD)) (by assumption) (blk_cells (by repeat (first | exact Mem.here | assumption | apply Mem.there | apply Mem.sv | apply Mem.app))) rfl rfl (by simp only [maxLen]; omega) (by omega) rfl rfl (fun s12 hs12 => ?_); refine Zv Zav ?_) | (refine ZrN 5 fun _ => ?_; refine Zv (Val_addN (a := k) rfl (rfl : _ = Value.int _ ((1 : Nat) : Int)) (by omega)) ?_; refine Zv Zmi ?_) | (refine WP_cond_true rfl ?_) | (refine WP_cond_false rfl ?_) | (refine Zcd (fun hc => ?_) (fun hc => ?_) <;> (try (exfalso; omega))) | (with_reducible apply WP_skip) | (with_reducible apply WP_block) | (with_reducible apply WP_exit) | (with_reducible apply WP_ret)) | (refine Zhn ?_) | (with_reducible apply QBlock_normal) | (refine Zhx ?_) | (with_reducible apply QBlock_hit) | (refine Zqb ?_) | (with_reducible apply QLoop_exit) | (refine Zhr ?_) | (with_reducible apply QBlock_ret) | (with_reducible apply QLoop_ret))
    have hsn := us_snoc k
    rw [show us (List.range k) ++ [[Value.int .u64 (k : Int)]].flatten = us (List.range (k + 1)) by rw [hsn]; rfl] at hs12 ⊢
    exact QLoop_normal (k + 1, s12) (.cons rfl (.cons rfl .nil)) (by repeat (first | exact Off.frame rfl | exact Off.refl _ _ | refine Off.frameT rfl rfl ?_ | refine Off.upd rfl ?_ | refine Off.updO rfl ?_)) (by repeat (first | exact Wk.refl _ | apply Wk.keep1 | apply Wk.drop | apply Wk.sv | apply Wk.svD | apply Wk.appD)) ⟨by dsimp only; omega, hs12⟩ (by dsimp only; omega)
  · have hke : k = 2 ^ m := by omega
    subst hke
    cases s with
    | none => have := hs.2 rfl; omega
    | some q =>
      obtain ⟨b, cap⟩ := q
      unfold svH svV
      dsimp only
      refine WP_opnR fun tl => ?_
      have hsr := hsrt tl L b cap
      unfold ut at hsr
      repeat' (first | (refine GiP ?_; first | (refine Znh ?_) | (with_reducible refine Znl ?_) | (refine Zatd 6 ?_; refine Zv Zmi ?_)) | (refine GiW ?_; first | (refine Zsq fun K hK => ?_) | (refine ZrN 0 fun _ => ?_; refine Zv Zav ?_) | (refine ZrN 1 fun _ => ?_; refine Zv Zmi ?_) | (refine ZrN 2 fun _ => ?_; refine Zv Zxlss ?_) | (refine ZrN 3 fun _ => ?_; refine Zv Zmi ?_; refine Zv Zai ?_) | (refine ZrN 4 fun _ => ?_; refine Zv Zmv ?_; refine Zv Zmi ?_; refine Zal 11 fun b11 => ?_; refine OPS_append rfl rfl rfl (by repeat (first | exact Wk.refl _ | apply Wk.keep1 | apply Wk.drop | apply Wk.sv | apply Wk.svD | apply Wk.appD)) (by assumption) (blk_cells (by repeat (first | exact Mem.here | assumption | apply Mem.there | apply Mem.sv | apply Mem.app))) rfl rfl (by simp only [maxLen]; omega) (by omega) rfl rfl (fun s12 hs12 => ?_); refine Zv Zav ?_) | (refine ZrN 5 fun _ => ?_; refine Zv Zxadd ?_; refine Zv Zmi ?_) | (refine ZrN 6 fun _ => ?_; refine Zv Zmv ?_; refine OPS_retKS (Enters_fn rfl) hsr rfl rfl rfl (fun v8 L8 h8 => ?_); subst h8) | (refine ZrN 7 fun _ => ?_; refine Zv Zmv ?_; refine Zv Zav ?_) | (refine WP_cond_true rfl ?_) | (refine WP_cond_false rfl ?_) | (refine Zcd (fun hc => ?_) (fun hc => ?_) <;> (try (exfalso; omega))) | (with_reducible apply WP_skip) | (with_reducible apply WP_block) | (with_reducible apply WP_exit) | (with_reducible apply WP_ret)) | (refine Zhn ?_) | (with_reducible apply QBlock_normal) | (refine Zhx ?_) | (with_reducible apply QBlock_hit) | (refine Zqb ?_) | (with_reducible apply QLoop_exit) | (refine Zhr ?_) | (with_reducible apply QBlock_ret) | (with_reducible apply QLoop_ret))
      exact QBody_ret1 rfl (rfl : _ = Value.slice _ _ _) ⟨_, Wk.refl _, _, rfl, b, tl, cap, rfl, rfl⟩
/-- Whether a row has one that fits; what is known beside it may change. -/
theorem index_tri {κ : Type} (F : κ → Hp) (k0 : κ) (tl : List (List Int)) (hcnt : tl.length ≤ 1000) (h5 : ∀ lv ∈ tl, ∃ a0 a1 a2 a3 a4 : Int, pad5 lv = [a0, a1, a2, a3, a4]) (Aa : Option Addr) (c : Nat) (hrd : ∀ kk, RdRows N w0 (F kk) Aa 5 (tl.map rowL)) (q : FuncId) [HasBody Try.prog q] (qc : List Value) (p : List Int → Bool)
    (hq : ∀ lv ∈ tl, ∀ kk, Tri Try.prog N w0 (F kk) q (.agg (rowL lv).toArray :: qc).toArray fun x L' => ∃ v, x = .returned v ∧ ∃ kk', v = .bool (p lv) ∧ L' = F kk') :
    Tri Try.prog N w0 (F k0) 93 [.slice Aa tl.length c, .func (.func q) #[] qc.toArray].toArray fun x L' => ∃ v, x = .returned v ∧ ∃ kk' z, v = .int .i64 z ∧ (decide (z ≥ 0) = tl.any p) ∧ L' = F kk' := by
  refine Tri.fgt ?_
  refine tri_of_WP Try.func93 rfl (n := _) rfl (by simp) ?_
  repeat' (first | (refine GiP ?_; first | (refine Znh ?_) | (with_reducible refine Znl ?_)) | (refine GiW ?_; first | (refine Zsq fun K hK => ?_) | (refine ZrN 0 fun _ => ?_; refine Zv Zai ?_) | (refine ZrN 1 fun _ => ?_; refine Zv Zmv ?_; refine Zv Zxlen ?_; refine Zv Zmi ?_) | (refine WP_cond_true rfl ?_) | (refine WP_cond_false rfl ?_) | (refine Zcd (fun hc => ?_) (fun hc => ?_) <;> (try (exfalso; omega))) | (with_reducible apply WP_skip) | (with_reducible apply WP_block) | (with_reducible apply WP_exit) | (with_reducible apply WP_ret)) | (refine Zhn ?_) | (with_reducible apply QBlock_normal) | (refine Zhx ?_) | (with_reducible apply QBlock_hit) | (refine Zqb ?_) | (with_reducible apply QLoop_exit) | (refine Zhr ?_) | (with_reducible apply QBlock_ret) | (with_reducible apply QLoop_ret))
  refine WP_loop [4, 5, 8, 9, 10, 11, 12, 13, 14, 15, 16, 17, 18] (fun st : Nat × κ => [(8, .int .i64 (st.1 : Int))]) (fun st => F st.2) (fun st => st.1 ≤ tl.length ∧ (tl.take st.1).any p = false) (fun st => tl.length - st.1) (0, k0) (.cons rfl .nil) (Wk.refl _) ⟨Nat.zero_le _, rfl⟩ ?_
  rintro ⟨k, kk⟩ j ⟨hk, hall⟩
  dsimp only at hk hall ⊢
  by_cases hlt : k < tl.length
  · have hmem := List.getElem_mem hlt
    have hn := any_take_succ (p := p) hlt
    rw [hall, Bool.false_or] at hn
    have hsome : p tl[k] = true → tl.any p = true := fun h => List.any_eq_true.2 ⟨_, hmem, h⟩
    obtain ⟨a0, a1, a2, a3, a4, ha⟩ := h5 _ hmem
    have hrow := fun kk => (hrd kk).row k hlt
    have hq2 := hq _ hmem
    have hrl : rowL tl[k] = [.int .i64 a0, .int .i64 a1, .int .i64 a2, .int .i64 a3, .int .i64 a4] := by unfold rowL; rw [ha]; rfl
    rw [hrl] at hrow hq2
    obtain ⟨bA, oA, rfl, hrd3⟩ := hrow kk
    obtain ⟨w, hw⟩ : ∃ w, p tl[k] = w := ⟨_, rfl⟩
    rw [hw] at hn hq2 hsome
    cases w with
    | false =>
      repeat' (first | (refine GiP ?_; first | (refine Znh ?_) | (with_reducible refine Znl ?_)) | (refine GiW ?_; first | (refine Zsq fun K hK => ?_) | (refine ZrN 2 fun _ => ?_; refine Zv Zxlss ?_) | (refine ZrN 3 fun _ => ?_; refine Zv Zmi ?_; refine Zv Zai ?_) | (refine ZrN 4 fun _ => ?_; refine Zv Zmv ?_; refine Zv Zmv ?_; refine Zv Zmi ?_; refine Zv Zia ?_; (first | (refine Zv (Val_loadDN rfl hrd3 rfl) ?_) | (refine Zv Zla ?_)); refine OPS_retKS (Enters_val rfl rfl) (hq2 kk) rfl rfl rfl (fun v16 L16 h16 => ?_); obtain ⟨kk2, rfl, rfl⟩ := h16) | (refine ZrN 6 fun _ => ?_; refine Zv Zxadd ?_; refine Zv Zmi ?_) | (refine WP_cond_true rfl ?_) | (refine WP_cond_false rfl ?_) | (refine Zcd (fun hc => ?_) (fun hc => ?_) <;> (try (exfalso; omega))) | (with_reducible apply WP_skip) | (with_reducible apply WP_block) | (with_reducible apply WP_exit) | (with_reducible apply WP_ret)) | (refine Zhn ?_) | (with_reducible apply QBlock_normal) | (refine Zhx ?_) | (with_reducible apply QBlock_hit) | (refine Zqb ?_) | (with_reducible apply QLoop_exit) | (refine Zhr ?_) | (with_reducible apply QBlock_ret) | (with_reducible apply QLoop_ret))
      exact QLoop_normal (k + 1, kk2) (.cons rfl .nil) (by repeat (first | exact Off.frame rfl | exact Off.refl _ _ | refine Off.frameT rfl rfl ?_ | refine Off.upd rfl ?_ | refine Off.updO rfl ?_)) (by repeat (first | exact Wk.refl _ | apply Wk.keep1 | apply Wk.drop | apply Wk.sv | apply Wk.svD | apply Wk.appD)) ⟨by dsimp only; omega, hn⟩ (by dsimp only; omega)
    | true =>
      repeat' (first | (refine GiP ?_; first | (refine Znh ?_) | (with_reducible refine Znl ?_)) | (refine GiW ?_; first | (refine Zsq fun K hK => ?_) | (refine ZrN 2 fun _ => ?_; refine Zv Zxlss ?_) | (refine ZrN 3 fun _ => ?_; refine Zv Zmi ?_; refine Zv Zai ?_) | (refine ZrN 4 fun _ => ?_; refine Zv Zmv ?_; refine Zv Zmv ?_; refine Zv Zmi ?_; refine Zv Zia ?_; (first | (refine Zv (Val_loadDN rfl hrd3 rfl) ?_) | (refine Zv Zla ?_)); refine OPS_retKS (Enters_val rfl rfl) (hq2 kk) rfl rfl rfl (fun v16 L16 h16 => ?_); obtain ⟨kk2, rfl, rfl⟩ := h16) | (refine ZrN 5 fun _ => ?_; refine Zv Zmi ?_; refine Zv Zai ?_) | (refine WP_cond_true rfl ?_) | (refine WP_cond_false rfl ?_) | (refine Zcd (fun hc => ?_) (fun hc => ?_) <;> (try (exfalso; omega))) | (with_reducible apply WP_skip) | (with_reducible apply WP_block) | (with_reducible apply WP_exit) | (with_reducible apply WP_ret)) | (refine Zhn ?_) | (with_reducible apply QBlock_normal) | (refine Zhx ?_) | (with_reducible apply QBlock_hit) | (refine Zqb ?_) | (with_reducible apply QLoop_exit) | (refine Zhr ?_) | (with_reducible apply QBlock_ret) | (with_reducible apply QLoop_ret))
      exact QBody_ret1 rfl (rfl : _ = Value.int _ _) ⟨_, Wk.refl _, _, rfl, kk2, _, rfl, by rw [hsome rfl]; simp, rfl⟩
  · have hke : k = tl.length := by omega
    rw [hke, List.take_length] at hall
    repeat' (first | (refine GiP ?_; first | (refine Znh ?_) | (with_reducible refine Znl ?_)) | (refine GiW ?_; first | (refine Zsq fun K hK => ?_) | (refine ZrN 2 fun _ => ?_; refine Zv Zxlss ?_) | (refine ZrN 7 fun _ => ?_; refine Zv Zai ?_) | (refine WP_cond_true rfl ?_) | (refine WP_cond_false rfl ?_) | (refine Zcd (fun hc => ?_) (fun hc => ?_) <;> (try (exfalso; omega))) | (with_reducible apply WP_skip) | (with_reducible apply WP_block) | (with_reducible apply WP_exit) | (with_reducible apply WP_ret)) | (refine Zhn ?_) | (with_reducible apply QBlock_normal) | (refine Zhx ?_) | (with_reducible apply QBlock_hit) | (refine Zqb ?_) | (with_reducible apply QLoop_exit) | (refine Zhr ?_) | (with_reducible apply QBlock_ret) | (with_reducible apply QLoop_ret))
    exact QBody_ret1 rfl (rfl : _ = Value.int _ _) ⟨_, Wk.refl _, _, rfl, kk, _, rfl, by rw [hall]; rfl, rfl⟩
theorem contains_tri {κ : Type} (F : κ → Hp) (k0 : κ) (tl : List (List Int)) (hcnt : tl.length ≤ 1000) (h5 : ∀ lv ∈ tl, ∃ a0 a1 a2 a3 a4 : Int, pad5 lv = [a0, a1, a2, a3, a4]) (Aa : Option Addr) (c : Nat) (hrd : ∀ kk, RdRows N w0 (F kk) Aa 5 (tl.map rowL)) (q : FuncId) [HasBody Try.prog q] (qc : List Value) (p : List Int → Bool)
    (hq : ∀ lv ∈ tl, ∀ kk, Tri Try.prog N w0 (F kk) q (.agg (rowL lv).toArray :: qc).toArray fun x L' => ∃ v, x = .returned v ∧ ∃ kk', v = .bool (p lv) ∧ L' = F kk') :
    Tri Try.prog N w0 (F k0) 71 [.slice Aa tl.length c, .func (.func q) #[] qc.toArray].toArray fun x L' => ∃ v, x = .returned v ∧ ∃ kk', v = .bool (tl.any p) ∧ L' = F kk' := by
  have hi := index_tri N w0 F k0 tl hcnt h5 Aa c hrd q qc p hq
  refine tri_of_WP Try.func71 rfl (n := _) rfl (by simp) ?_
  repeat' (first | (refine GiP ?_; first | (refine Znh ?_) | (with_reducible refine Znl ?_)) | (refine GiW ?_; first | (refine Zsq fun K hK => ?_) | (refine ZrN 0 fun _ => ?_; refine Zv Zab ?_) | (refine ZrN 1 fun _ => ?_; refine Zv Zmv ?_; refine Zv Zmv ?_; refine OPS_retKS (Enters_fn rfl) hi rfl rfl rfl (fun v7 L7 h7 => ?_); obtain ⟨kk2, z, rfl, hz, rfl⟩ := h7; refine Zv Zxgeq ?_; refine Zv Zab ?_) | (with_reducible apply WP_ret)) | (refine Zhn ?_) | (refine Zhr ?_))
  exact QBody_ret1 rfl (rfl : _ = Value.bool _) ⟨_, rfl, kk2, by rw [hz], rfl⟩
/-- The first one that fits. -/
theorem first_tri {κ : Type} (F : κ → Hp) (k0 : κ) (l : List Nat) (hl : l.length ≤ 1000) (b c : Nat) (tl : List Value) (hm : ∀ kk, Mem b (Blk 96 (ut tl l)) (F kk)) (q : FuncId) [HasBody Try.prog q] (qc : List Value) (p : Nat → Bool)
    (hq : ∀ s ∈ l, ∀ x kk, Tri Try.prog N w0 (x :: F kk) q (.int .u64 (s : Int) :: qc).toArray fun y L' => ∃ v, y = .returned v ∧ ∃ kk', v = .bool (p s) ∧ L' = x :: F kk') :
    Tri Try.prog N w0 (F k0) 68 [.slice (some ⟨b, 0, none⟩) l.length c, .agg [Value.func (.func q) #[] qc.toArray].toArray].toArray fun x L' => ∃ v, x = .returned v ∧ ∃ kk', v = .tuple [.int .u64 (((l.find? p).getD 0 : Nat) : Int), .bool (l.find? p).isSome].toArray ∧ L' = F kk' := by
  refine Tri.fgt ?_
  refine tri_of_WP Try.func68 rfl (n := _) rfl (by simp) ?_
  repeat' (first | (refine GiP ?_; first | (refine Znh ?_) | (with_reducible refine Znl ?_)) | (refine GiW ?_; first | (refine Zsq fun K hK => ?_) | (refine ZrN 0 fun _ => ?_; refine Zal 3 fun b3 => ?_; refine Zv Zai ?_; refine Zv Zab ?_) | (refine ZrN 1 fun _ => ?_; refine Zv Zmv ?_; refine Zv Zxlen ?_; refine Zv Zmi ?_) | (refine WP_cond_true rfl ?_) | (refine WP_cond_false rfl ?_) | (refine Zcd (fun hc => ?_) (fun hc => ?_) <;> (try (exfalso; omega))) | (with_reducible apply WP_skip) | (with_reducible apply WP_block) | (with_reducible apply WP_exit) | (with_reducible apply WP_ret)) | (refine Zhn ?_) | (with_reducible apply QBlock_normal) | (refine Zhx ?_) | (with_reducible apply QBlock_hit) | (refine Zqb ?_) | (with_reducible apply QLoop_exit) | (refine Zhr ?_) | (with_reducible apply QBlock_ret) | (with_reducible apply QLoop_ret))
  refine WP_loop [4, 5, 7, 10, 11, 12, 13, 14, 15, 16, 17, 18, 19] (fun st : Nat × κ => [(10, .int .i64 (st.1 : Int)), (4, .int .u64 0)]) (fun st => (b3, Blk 107 [.func (.func q) #[] qc.toArray]) :: F st.2) (fun st => st.1 ≤ l.length ∧ (l.take st.1).find? p = none) (fun st => l.length - st.1) (0, k0) (.cons rfl (.cons rfl .nil)) (Wk.refl _) ⟨Nat.zero_le _, rfl⟩ ?_
  rintro ⟨k, kk⟩ j ⟨hk, hall⟩
  dsimp only at hk hall ⊢
  by_cases hlt : k < l.length
  · have hmem := List.getElem_mem hlt
    have hg : gt l k = l[k] := by unfold gt; rw [List.getD_eq_getElem?_getD, List.getElem?_eq_getElem hlt]; rfl
    have hcell := ut_get (tl := tl) hlt
    rw [hg] at hcell
    have hm2 := hm kk
    have hq2 := hq _ hmem (b3, Blk 107 [.func (.func q) #[] qc.toArray])
    have hyes : p l[k] = true → l.find? p = some l[k] := fun h => by
      have h1 : l = l.take k ++ l[k] :: l.drop (k + 1) := by rw [List.getElem_cons_drop, List.take_append_drop]
      generalize l[k] = y at h h1
      rw [h1, List.find?_append, hall]
      simp [h]
    have hnot : p l[k] = false → (l.take (k + 1)).find? p = none := fun h => by
      rw [List.take_succ_eq_append_getElem hlt, List.find?_append, hall]
      simp [h]
    obtain ⟨y, hy⟩ : ∃ y, l[k] = y := ⟨_, rfl⟩
    rw [hy] at hcell hq2 hyes hnot
    obtain ⟨w, hw⟩ : ∃ w, p y = w := ⟨_, rfl⟩
    rw [hw] at hq2 hyes hnot
    cases w with
    | false =>
      repeat' (first | (refine GiP ?_; first | (refine Znh ?_) | (with_reducible refine Znl ?_)) | (refine GiW ?_; first | (refine Zsq fun K hK => ?_) | (refine ZrN 2 fun _ => ?_; refine Zv Zxlss ?_) | (refine ZrN 3 fun _ => ?_; refine Zv Zia ?_; refine Zv Zld ?_; refine Zv Zai ?_) | (refine ZrN 4 fun _ => ?_; refine Zv Zf0 ?_; refine Zv Zld ?_; refine Zv Zmi ?_; refine OPS_retKS (Enters_val rfl rfl) (hq2 kk) rfl rfl rfl (fun v17 L17 h17 => ?_); obtain ⟨kk2, rfl, rfl⟩ := h17) | (refine ZrN 6 fun _ => ?_; refine Zv Zxadd ?_; refine Zv Zmi ?_) | (refine WP_cond_true rfl ?_) | (refine WP_cond_false rfl ?_) | (refine Zcd (fun hc => ?_) (fun hc => ?_) <;> (try (exfalso; omega))) | (with_reducible apply WP_skip) | (with_reducible apply WP_block) | (with_reducible apply WP_exit) | (with_reducible apply WP_ret)) | (refine Zhn ?_) | (with_reducible apply QBlock_normal) | (refine Zhx ?_) | (with_reducible apply QBlock_hit) | (refine Zqb ?_) | (with_reducible apply QLoop_exit) | (refine Zhr ?_) | (with_reducible apply QBlock_ret) | (with_reducible apply QLoop_ret))
      exact QLoop_normal (k + 1, kk2) (.cons rfl (.cons rfl .nil)) (by repeat (first | exact Off.frame rfl | exact Off.refl _ _ | refine Off.frameT rfl rfl ?_ | refine Off.upd rfl ?_ | refine Off.updO rfl ?_)) (by repeat (first | exact Wk.refl _ | apply Wk.keep1 | apply Wk.drop | apply Wk.sv | apply Wk.svD | apply Wk.appD)) ⟨by dsimp only; omega, hnot rfl⟩ (by dsimp only; omega)
    | true =>
      repeat' (first | (refine GiP ?_; first | (refine Znh ?_) | (with_reducible refine Znl ?_)) | (refine GiW ?_; first | (refine Zsq fun K hK => ?_) | (refine ZrN 2 fun _ => ?_; refine Zv Zxlss ?_) | (refine ZrN 3 fun _ => ?_; refine Zv Zia ?_; refine Zv Zld ?_; refine Zv Zai ?_) | (refine ZrN 4 fun _ => ?_; refine Zv Zf0 ?_; refine Zv Zld ?_; refine Zv Zmi ?_; refine OPS_retKS (Enters_val rfl rfl) (hq2 kk) rfl rfl rfl (fun v17 L17 h17 => ?_); obtain ⟨kk2, rfl, rfl⟩ := h17) | (refine ZrN 5 fun _ => ?_; refine Zv Zmi ?_; refine Zv Zai ?_; refine Zv Zab ?_) | (refine WP_cond_true rfl ?_) | (refine WP_cond_false rfl ?_) | (refine Zcd (fun hc => ?_) (fun hc => ?_) <;> (try (exfalso; omega))) | (with_reducible apply WP_skip) | (with_reducible apply WP_block) | (with_reducible apply WP_exit) | (with_reducible apply WP_ret)) | (refine Zhn ?_) | (with_reducible apply QBlock_normal) | (refine Zhx ?_) | (with_reducible apply QBlock_hit) | (refine Zqb ?_) | (with_reducible apply QLoop_exit) | (refine Zhr ?_) | (with_reducible apply QBlock_ret) | (with_reducible apply QLoop_ret))
      exact QBody_res rfl (.tmp (rfl : _ = Value.int _ _) (.tmp (rfl : _ = Value.bool _) .nil)) rfl ⟨F kk2, .drop (Wk.refl _), _, rfl, kk2, by rw [hyes rfl]; rfl, rfl⟩
  · have hke : k = l.length := by omega
    rw [hke, List.take_length] at hall
    repeat' (first | (refine GiP ?_; first | (refine Znh ?_) | (with_reducible refine Znl ?_)) | (refine GiW ?_; first | (refine Zsq fun K hK => ?_) | (refine ZrN 2 fun _ => ?_; refine Zv Zxlss ?_) | (refine ZrN 7 fun _ => ?_; refine Zv Zmi ?_; refine Zv Zai ?_; refine Zv Zab ?_) | (refine WP_cond_true rfl ?_) | (refine WP_cond_false rfl ?_) | (refine Zcd (fun hc => ?_) (fun hc => ?_) <;> (try (exfalso; omega))) | (with_reducible apply WP_skip) | (with_reducible apply WP_block) | (with_reducible apply WP_exit) | (with_reducible apply WP_ret)) | (refine Zhn ?_) | (with_reducible apply QBlock_normal) | (refine Zhx ?_) | (with_reducible apply QBlock_hit) | (refine Zqb ?_) | (with_reducible apply QLoop_exit) | (refine Zhr ?_) | (with_reducible apply QBlock_ret) | (with_reducible apply QLoop_ret))
    exact QBody_res rfl (.tmp (rfl : _ = Value.int _ _) (.tmp (rfl : _ = Value.bool _) .nil)) rfl ⟨F kk, .drop (Wk.refl _), _, rfl, kk, by rw [hall]; rfl, rfl⟩
end
end Go.Proofs.Ytbhgpnbfdjoglaa
end
