/- Package drain: whether all rights are kept, where drains are stopped or dug. · Package drain: its exported functions: Breaks. · Package drain: its exported functions: Dig. -/
import Derived.Test.YtbhgpnbfdjoglaaB2
section
namespace Go.Proofs.Ytbhgpnbfdjoglaa
open Go.RowKit
attribute [local irreducible] AnyO AnyB QAny QB EWalk AWalk Ev WP OPS QThen QBlock QScope QLoop QBody Val New Turn Tri Enters PostA Blk Ro
attribute [local irreducible] AnyC QC
section
variable (N : Nat) (w0 : World)
def kp1 (d : Dr) (nx : Nat → Option Nat) (k : Nat) : Bool := (d.rights.take k).all fun r => decide ((flowS d nx r.a.toNat r.b.toNat).2 ≤ r.most)
def kp2 (d : Dr) (nx : Nat → Option Nat) (k : Nat) : Bool := (d.rights.take k).all fun r => decide ((flowS d nx r.a.toNat r.b.toNat).1 ≤ r.most)
theorem all_take_succ {α : Type} {p : α → Bool} {l : List α} {k : Nat} (hk : k < l.length) : (l.take (k + 1)).all p = ((l.take k).all p && p l[k]) := by
  rw [List.take_succ_eq_append_getElem hk, List.all_append]; simp
set_option maxHeartbeats 4000000 in
theorem keeps_tri (A X : Hp) (g : Fg) (hv : VD g.d) (hA : DrAt N w0 g) (Ks : List (Nat × Ly)) (q : Ly) (hq : LyOk g.d q) :
    Tri Try.prog N w0 (A ++ (Fk g Ks ++ X)) 66 [.pointer (some ⟨g.b, 0, none⟩), .agg (keyL q).toArray].toArray fun x L' => ∃ v, x = .returned v ∧ ∃ K', v = .tuple [.bool (keepS1 g.d (nxt (waysK g.d q) q.1)), .bool (keepS2 g.d (nxt (waysK g.d q) q.1))].toArray ∧ L' = A ++ (Fk g K' ++ X) := by
  have hnr := hv.nr
  have hln := hq.len
  have hnb := hv.nb
  have hcr := fun b3 => course_at N w0 ((b3, Blk 98 (keyL q)) :: A) X g hv hA Ks q hq
  have h5' := pad5_len (l := q.1) (by omega)
  obtain ⟨a0, a1, a2, a3, a4, h5⟩ : ∃ a0 a1 a2 a3 a4, pad5 q.1 = [a0, a1, a2, a3, a4] := by
    match h : pad5 q.1, h5' with
    | [a, b, c, d, e], _ => exact ⟨a, b, c, d, e, rfl⟩
  have hmc : ∀ K' bc, (bc, q) ∈ K' → Mem bc (Blk 3 (crs g.d.banks.length (nxt (waysK g.d q) q.1))) (A ++ (Fk g K' ++ X)) := fun K' bc h => mem_fk (fk_crs (g := g) h)
  have hmb : ∀ K', Mem g.b (Blk 85 (bogL g)) (A ++ (Fk g K' ++ X)) := fun K' => mem_fk fk_bog
  have hdn : ∀ x y, nxt (waysK g.d q) q.1 x = some y → y < g.d.banks.length ∧ lvl q.1 y < lvl q.1 x := fun x y h => by rw [← hln]; exact nxt_dec h
  have hfl := fun L bc hm hb a b ha => flow_ret N w0 L g hv hA _ _ hdn bc hm hb a b ha
  have k1 : keepS1 g.d (nxt (waysK g.d q) q.1) = kp1 g.d (nxt (waysK g.d q) q.1) g.d.rights.length := by unfold kp1 keepS1; rw [List.take_length]
  have k2 : keepS2 g.d (nxt (waysK g.d q) q.1) = kp2 g.d (nxt (waysK g.d q) q.1) g.d.rights.length := by unfold kp2 keepS2; rw [List.take_length]
  rw [k1, k2]
  obtain ⟨nx, hnx⟩ : ∃ nx, nxt (waysK g.d q) q.1 = nx := ⟨_, rfl⟩
  rw [hnx] at hmc hfl ⊢
  unfold keyL at hcr ⊢
  rw [h5] at hcr ⊢
  unfold ints at hcr ⊢
  simp only [List.map_cons, List.map_nil, List.cons_append, List.nil_append] at hcr ⊢
  unfold bogL at hmb hfl
  refine Tri.fgt ?_
  refine tri_of_WP Try.func66 rfl (n := _) rfl (by simp) ?_
  repeat' (first | (refine GiP ?_; first | (refine Znh ?_) | (with_reducible refine Znl ?_)) | (refine GiW ?_; first | (refine Zsq fun K hK => ?_) | (refine ZrN 0 fun _ => ?_; refine Zal 3 fun b3 => ?_; refine Zv Zab ?_; refine Zv Zab ?_) | (refine ZrN 1 fun _ => ?_; refine Zv Zmv ?_; refine Zv Zla ?_; refine OPS_retKS (Enters_fn rfl) (hcr b3) rfl rfl rfl (fun v12 L12 h12 => ?_); obtain ⟨K1, bc, rfl, hmK, rfl⟩ := h12; have hmc2 := hmc K1 bc hmK; have hmb2 := hmb K1; refine Zv Zav ?_) | (refine ZrN 2 fun _ => ?_; refine Zv Zab ?_; refine Zv Zab ?_) | (refine ZrN 3 fun _ => ?_; refine Zv Zmv ?_; (first | (refine Zv Zxnp ?_) | (refine Zv Zxnf ?_)); refine Zv Zf0 ?_; refine Zv Zfa ?_; refine Zv Zld ?_; refine Zv Zxlen ?_; refine Zv Zmi ?_) | (refine WP_cond_true rfl ?_) | (refine WP_cond_false rfl ?_) | (refine Zcd (fun hc => ?_) (fun hc => ?_) <;> (try (exfalso; omega))) | (with_reducible apply WP_skip) | (with_reducible apply WP_block) | (with_reducible apply WP_exit) | (with_reducible apply WP_ret)) | (refine Zhn ?_) | (with_reducible apply QBlock_normal) | (refine Zhx ?_) | (with_reducible apply QBlock_hit) | (refine Zqb ?_) | (with_reducible apply QLoop_exit) | (refine Zhr ?_) | (with_reducible apply QBlock_ret) | (with_reducible apply QLoop_ret))
  refine WP_loop [4, 5, 8, 9, 19, 20, 21, 22, 23, 24, 25, 26, 27, 28, 29, 30, 31, 32, 33, 34, 35, 36, 37, 38, 39, 40, 41, 42, 43, 44, 45, 46] (fun st : Nat × Bool × Bool => [(19, .int .i64 (st.1 : Int)), (4, .bool st.2.1), (5, .bool st.2.2)]) (fun _ => (b3, Blk 98 [.int .i64 a0, .int .i64 a1, .int .i64 a2, .int .i64 a3, .int .i64 a4, .int .u64 q.2.1, .int .i64 q.2.2.1, .int .i64 q.2.2.2]) :: (A ++ (Fk g K1 ++ X))) (fun st => st.1 ≤ g.d.rights.length ∧ st.2.1 = kp1 g.d nx st.1 ∧ st.2.2 = kp2 g.d nx st.1) (fun st => g.d.rights.length - st.1) (0, true, true) (.cons rfl (.cons rfl (.cons rfl .nil))) (Wk.refl _) ⟨Nat.zero_le _, rfl, rfl⟩ ?_
  rintro ⟨k, u1, u2⟩ j ⟨hk, hu1, hu2⟩
  dsimp only at hk hu1 hu2 ⊢
  by_cases hlt : k < g.d.rights.length
  · obtain ⟨bA, oA, hA1, hbA, hcA⟩ := hA.rights.row k hlt
    obtain ⟨t, ht⟩ : ∃ t, g.d.rights[k] = t := ⟨_, rfl⟩
    have htm : t ∈ g.d.rights := by rw [← ht]; exact List.getElem_mem hlt
    have hs1 : kp1 g.d nx (k + 1) = (kp1 g.d nx k && decide ((flowS g.d nx t.a.toNat t.b.toNat).2 ≤ t.most)) := by rw [← ht]; exact all_take_succ hlt
    have hs2 : kp2 g.d nx (k + 1) = (kp2 g.d nx k && decide ((flowS g.d nx t.a.toNat t.b.toNat).1 ≤ t.most)) := by rw [← ht]; exact all_take_succ hlt
    rw [ht] at hcA
    have htb := hv.rt t htm
    obtain ⟨ta, tb, tm⟩ := t
    dsimp only at htb hs1 hs2
    obtain ⟨i, rfl⟩ : ∃ i : Nat, ta = i := ⟨ta.toNat, by omega⟩
    obtain ⟨i2, rfl⟩ : ∃ i : Nat, tb = i := ⟨tb.toNat, by omega⟩
    have hfl2 := fun L hm hb => hfl L bc hm hb i i2 (by omega)
    simp only [Int.toNat_natCast] at hs1 hs2
    obtain ⟨⟨f1, f2⟩, hf⟩ : ∃ f, flowS g.d nx i i2 = f := ⟨_, rfl⟩
    simp only [hf] at hfl2 hs1 hs2
    try dsimp only at hfl2 hs1 hs2
    simp only [← hu1] at hs1
    simp only [← hu2] at hs2
    clear hu1 hu2
    unfold rtL at hcA
    dsimp only at hcA
    cases u1 <;> cases u2
    · repeat' (first | (refine GiP ?_; first | (refine Znh ?_) | (with_reducible refine Znl ?_)) | (refine GiW ?_; first | (refine Zsq fun K hK => ?_) | (refine ZrN 4 fun _ => ?_; refine Zv Zxlss ?_) | (refine ZrN 5 fun _ => ?_; refine Zv Zia ?_; refine Zv Zla ?_; refine Zal 8 fun b8 => ?_; refine Zst ?_) | (refine ZrN 6 fun _ => ?_; refine Zv Zmv ?_; refine Zv Zmv ?_; refine Zv Zf0 ?_; refine Zv Zld ?_; refine Zv Zfa ?_; refine Zv Zld ?_; refine Zcl (Enters_fn rfl) (hfl2 _ (by repeat (first | exact Mem.here | assumption | apply Mem.there | apply Mem.sv | apply Mem.app)) (by repeat (first | exact Mem.here | assumption | apply Mem.there | apply Mem.sv | apply Mem.app))) ?_; refine Zal 9 fun b9 => ?_; refine Zst ?_) | (refine ZrN 8 fun _ => ?_; refine Zv Zxadd ?_; refine Zv Zmi ?_) | (refine WP_cond_true rfl ?_) | (refine WP_cond_false rfl ?_) | (refine Zcd (fun hc => ?_) (fun hc => ?_) <;> (try (exfalso; omega))) | (with_reducible apply WP_skip) | (with_reducible apply WP_block) | (with_reducible apply WP_exit) | (with_reducible apply WP_ret) | (refine WP_drawn (id := 7) [0, 1, 2, 3, 4, 5, 6, 7, 8, 9, 10, 11, 12, 13, 14, 15, 16, 17] [] (k := 0) prog_mixed (by kernel_rfl) rfl ?_; refine Zew rfl Zmb ?_; refine Zew rfl Zmb ?_)) | (refine GiE ?_; first | (refine Zati 7 ?_; (first | (refine Zew rfl Zxpt ?_) | (refine Zew rfl Zxpf ?_)); refine Zew rfl Zmb ?_; refine Zew rfl Zmb ?_) | (refine Zati 15 ?_; (first | (refine Zew rfl Zxpt ?_) | (refine Zew rfl Zxpf ?_)); refine Zew rfl Zab ?_; refine Zew rfl Zab ?_) | (refine Zati 2 ?_; first | refine Zes ?_ | (refine Zew rfl Zfa ?_)) | (refine Zati 3 ?_; first | refine Zes ?_ | (refine Zew rfl Zld ?_)) | (refine Zati 4 ?_; first | refine Zes ?_ | (refine Zew rfl Zfa ?_)) | (refine Zati 5 ?_; first | refine Zes ?_ | (refine Zew rfl Zld ?_)) | (refine Zati 6 ?_; first | refine Zes ?_ | (refine Zew rfl Zxleq ?_)) | (refine Zati 10 ?_; first | refine Zes ?_ | (refine Zew rfl Zf0 ?_)) | (refine Zati 11 ?_; first | refine Zes ?_ | (refine Zew rfl Zld ?_)) | (refine Zati 12 ?_; first | refine Zes ?_ | (refine Zew rfl Zfa ?_)) | (refine Zati 13 ?_; first | refine Zes ?_ | (refine Zew rfl Zld ?_)) | (refine Zati 14 ?_; first | refine Zes ?_ | (refine Zew rfl Zxleq ?_)) | (refine Zes ?_) | (refine Zesp (fun hc => ?_) (fun hc => ?_) <;> (try (exfalso; omega))) | (with_reducible apply EWalk_nil)) | (refine AnyO_done (by kernel_rfl) ?_; (try with_reducible apply noP_normal); try with_reducible exact key.out) | (refine Zhn ?_) | (with_reducible apply QBlock_normal) | (refine Zhx ?_) | (with_reducible apply QBlock_hit) | (refine Zqb ?_) | (with_reducible apply QLoop_exit) | (refine Zhr ?_) | (with_reducible apply QBlock_ret) | (with_reducible apply QLoop_ret) | (refine AWalk_0 ?_; refine ZisO ?_) | (with_reducible apply QAny_normal))
      exact QLoop_normal (k + 1, kp1 g.d nx (k + 1), kp2 g.d nx (k + 1)) (.cons rfl (.cons (by dsimp only; rw [hs1]; first | rfl | simp) (.cons (by dsimp only; rw [hs2]; first | rfl | simp) .nil))) (by repeat (first | exact Off.frame rfl | exact Off.refl _ _ | refine Off.frameT rfl rfl ?_ | refine Off.upd rfl ?_ | refine Off.updO rfl ?_)) (by repeat (first | exact Wk.refl _ | apply Wk.keep1 | apply Wk.drop | apply Wk.sv | apply Wk.svD | apply Wk.appD)) ⟨by dsimp only; omega, rfl, rfl⟩ (by dsimp only; omega)
    · repeat' (first | (refine GiP ?_; first | (refine Znh ?_) | (with_reducible refine Znl ?_)) | (refine GiW ?_; first | (refine Zsq fun K hK => ?_) | (refine ZrN 4 fun _ => ?_; refine Zv Zxlss ?_) | (refine ZrN 5 fun _ => ?_; refine Zv Zia ?_; refine Zv Zla ?_; refine Zal 8 fun b8 => ?_; refine Zst ?_) | (refine ZrN 6 fun _ => ?_; refine Zv Zmv ?_; refine Zv Zmv ?_; refine Zv Zf0 ?_; refine Zv Zld ?_; refine Zv Zfa ?_; refine Zv Zld ?_; refine Zcl (Enters_fn rfl) (hfl2 _ (by repeat (first | exact Mem.here | assumption | apply Mem.there | apply Mem.sv | apply Mem.app)) (by repeat (first | exact Mem.here | assumption | apply Mem.there | apply Mem.sv | apply Mem.app))) ?_; refine Zal 9 fun b9 => ?_; refine Zst ?_) | (refine ZrN 8 fun _ => ?_; refine Zv Zxadd ?_; refine Zv Zmi ?_) | (refine WP_cond_true rfl ?_) | (refine WP_cond_false rfl ?_) | (refine Zcd (fun hc => ?_) (fun hc => ?_) <;> (try (exfalso; omega))) | (with_reducible apply WP_skip) | (with_reducible apply WP_block) | (with_reducible apply WP_exit) | (with_reducible apply WP_ret) | (refine WP_drawn (id := 7) [0, 1, 2, 3, 4, 5, 6, 7, 8, 9, 10, 11, 12, 13, 14, 15, 16, 17] [] (k := 0) prog_mixed (by kernel_rfl) rfl ?_; refine Zew rfl Zmb ?_; refine Zew rfl Zmb ?_)) | (refine GiE ?_; first | (refine Zati 7 ?_; (first | (refine Zew rfl Zxpt ?_) | (refine Zew rfl Zxpf ?_)); refine Zew rfl Zmb ?_; refine Zew rfl Zmb ?_) | (refine Zati 15 ?_; (first | (refine Zew rfl Zxpt ?_) | (refine Zew rfl Zxpf ?_)); refine Zew rfl Zab ?_; refine Zew rfl Zab ?_) | (refine Zati 2 ?_; first | refine Zes ?_ | (refine Zew rfl Zfa ?_)) | (refine Zati 3 ?_; first | refine Zes ?_ | (refine Zew rfl Zld ?_)) | (refine Zati 4 ?_; first | refine Zes ?_ | (refine Zew rfl Zfa ?_)) | (refine Zati 5 ?_; first | refine Zes ?_ | (refine Zew rfl Zld ?_)) | (refine Zati 6 ?_; first | refine Zes ?_ | (refine Zew rfl Zxleq ?_)) | (refine Zati 10 ?_; first | refine Zes ?_ | (refine Zew rfl Zf0 ?_)) | (refine Zati 11 ?_; first | refine Zes ?_ | (refine Zew rfl Zld ?_)) | (refine Zati 12 ?_; first | refine Zes ?_ | (refine Zew rfl Zfa ?_)) | (refine Zati 13 ?_; first | refine Zes ?_ | (refine Zew rfl Zld ?_)) | (refine Zati 14 ?_; first | refine Zes ?_ | (refine Zew rfl Zxleq ?_)) | (refine Zes ?_) | (refine Zesp (fun hc => ?_) (fun hc => ?_) <;> (try (exfalso; omega))) | (with_reducible apply EWalk_nil)) | (refine AnyO_done (by kernel_rfl) ?_; (try with_reducible apply noP_normal); try with_reducible exact key.out) | (refine Zhn ?_) | (with_reducible apply QBlock_normal) | (refine Zhx ?_) | (with_reducible apply QBlock_hit) | (refine Zqb ?_) | (with_reducible apply QLoop_exit) | (refine Zhr ?_) | (with_reducible apply QBlock_ret) | (with_reducible apply QLoop_ret) | (refine AWalk_0 ?_; refine ZisO ?_) | (with_reducible apply QAny_normal))
      exact QLoop_normal (k + 1, kp1 g.d nx (k + 1), kp2 g.d nx (k + 1)) (.cons rfl (.cons (by dsimp only; rw [hs1]; first | rfl | simp) (.cons (by dsimp only; rw [hs2]; first | rfl | simp) .nil))) (by repeat (first | exact Off.frame rfl | exact Off.refl _ _ | refine Off.frameT rfl rfl ?_ | refine Off.upd rfl ?_ | refine Off.updO rfl ?_)) (by repeat (first | exact Wk.refl _ | apply Wk.keep1 | apply Wk.drop | apply Wk.sv | apply Wk.svD | apply Wk.appD)) ⟨by dsimp only; omega, rfl, rfl⟩ (by dsimp only; omega)
    · repeat' (first | (refine GiP ?_; first | (refine Znh ?_) | (with_reducible refine Znl ?_)) | (refine GiW ?_; first | (refine Zsq fun K hK => ?_) | (refine ZrN 4 fun _ => ?_; refine Zv Zxlss ?_) | (refine ZrN 5 fun _ => ?_; refine Zv Zia ?_; refine Zv Zla ?_; refine Zal 8 fun b8 => ?_; refine Zst ?_) | (refine ZrN 6 fun _ => ?_; refine Zv Zmv ?_; refine Zv Zmv ?_; refine Zv Zf0 ?_; refine Zv Zld ?_; refine Zv Zfa ?_; refine Zv Zld ?_; refine Zcl (Enters_fn rfl) (hfl2 _ (by repeat (first | exact Mem.here | assumption | apply Mem.there | apply Mem.sv | apply Mem.app)) (by repeat (first | exact Mem.here | assumption | apply Mem.there | apply Mem.sv | apply Mem.app))) ?_; refine Zal 9 fun b9 => ?_; refine Zst ?_) | (refine ZrN 8 fun _ => ?_; refine Zv Zxadd ?_; refine Zv Zmi ?_) | (refine WP_cond_true rfl ?_) | (refine WP_cond_false rfl ?_) | (refine Zcd (fun hc => ?_) (fun hc => ?_) <;> (try (exfalso; omega))) | (with_reducible apply WP_skip) | (with_reducible apply WP_block) | (with_reducible apply WP_exit) | (with_reducible apply WP_ret) | (refine WP_drawn (id := 7) [0, 1, 2, 3, 4, 5, 6, 7, 8, 9, 10, 11, 12, 13, 14, 15, 16, 17] [] (k := 0) prog_mixed (by kernel_rfl) rfl ?_; refine Zew rfl Zmb ?_; refine Zew rfl Zmb ?_)) | (refine GiE ?_; first | (refine Zati 7 ?_; (first | (refine Zew rfl Zxpt ?_) | (refine Zew rfl Zxpf ?_)); refine Zew rfl Zmb ?_; refine Zew rfl Zmb ?_) | (refine Zati 15 ?_; (first | (refine Zew rfl Zxpt ?_) | (refine Zew rfl Zxpf ?_)); refine Zew rfl Zab ?_; refine Zew rfl Zab ?_) | (refine Zati 2 ?_; first | refine Zes ?_ | (refine Zew rfl Zfa ?_)) | (refine Zati 3 ?_; first | refine Zes ?_ | (refine Zew rfl Zld ?_)) | (refine Zati 4 ?_; first | refine Zes ?_ | (refine Zew rfl Zfa ?_)) | (refine Zati 5 ?_; first | refine Zes ?_ | (refine Zew rfl Zld ?_)) | (refine Zati 6 ?_; first | refine Zes ?_ | (refine Zew rfl Zxleq ?_)) | (refine Zati 10 ?_; first | refine Zes ?_ | (refine Zew rfl Zf0 ?_)) | (refine Zati 11 ?_; first | refine Zes ?_ | (refine Zew rfl Zld ?_)) | (refine Zati 12 ?_; first | refine Zes ?_ | (refine Zew rfl Zfa ?_)) | (refine Zati 13 ?_; first | refine Zes ?_ | (refine Zew rfl Zld ?_)) | (refine Zati 14 ?_; first | refine Zes ?_ | (refine Zew rfl Zxleq ?_)) | (refine Zes ?_) | (refine Zesp (fun hc => ?_) (fun hc => ?_) <;> (try (exfalso; omega))) | (with_reducible apply EWalk_nil)) | (refine AnyO_done (by kernel_rfl) ?_; (try with_reducible apply noP_normal); try with_reducible exact key.out) | (refine Zhn ?_) | (with_reducible apply QBlock_normal) | (refine Zhx ?_) | (with_reducible apply QBlock_hit) | (refine Zqb ?_) | (with_reducible apply QLoop_exit) | (refine Zhr ?_) | (with_reducible apply QBlock_ret) | (with_reducible apply QLoop_ret) | (refine AWalk_0 ?_; refine ZisO ?_) | (with_reducible apply QAny_normal))
      exact QLoop_normal (k + 1, kp1 g.d nx (k + 1), kp2 g.d nx (k + 1)) (.cons rfl (.cons (by dsimp only; rw [hs1]; first | rfl | simp) (.cons (by dsimp only; rw [hs2]; first | rfl | simp) .nil))) (by repeat (first | exact Off.frame rfl | exact Off.refl _ _ | refine Off.frameT rfl rfl ?_ | refine Off.upd rfl ?_ | refine Off.updO rfl ?_)) (by repeat (first | exact Wk.refl _ | apply Wk.keep1 | apply Wk.drop | apply Wk.sv | apply Wk.svD | apply Wk.appD)) ⟨by dsimp only; omega, rfl, rfl⟩ (by dsimp only; omega)
    · repeat' (first | (refine GiP ?_; first | (refine Znh ?_) | (with_reducible refine Znl ?_)) | (refine GiW ?_; first | (refine Zsq fun K hK => ?_) | (refine ZrN 4 fun _ => ?_; refine Zv Zxlss ?_) | (refine ZrN 5 fun _ => ?_; refine Zv Zia ?_; refine Zv Zla ?_; refine Zal 8 fun b8 => ?_; refine Zst ?_) | (refine ZrN 6 fun _ => ?_; refine Zv Zmv ?_; refine Zv Zmv ?_; refine Zv Zf0 ?_; refine Zv Zld ?_; refine Zv Zfa ?_; refine Zv Zld ?_; refine Zcl (Enters_fn rfl) (hfl2 _ (by repeat (first | exact Mem.here | assumption | apply Mem.there | apply Mem.sv | apply Mem.app)) (by repeat (first | exact Mem.here | assumption | apply Mem.there | apply Mem.sv | apply Mem.app))) ?_; refine Zal 9 fun b9 => ?_; refine Zst ?_) | (refine ZrN 8 fun _ => ?_; refine Zv Zxadd ?_; refine Zv Zmi ?_) | (refine WP_cond_true rfl ?_) | (refine WP_cond_false rfl ?_) | (refine Zcd (fun hc => ?_) (fun hc => ?_) <;> (try (exfalso; omega))) | (with_reducible apply WP_skip) | (with_reducible apply WP_block) | (with_reducible apply WP_exit) | (with_reducible apply WP_ret) | (refine WP_drawn (id := 7) [0, 1, 2, 3, 4, 5, 6, 7, 8, 9, 10, 11, 12, 13, 14, 15, 16, 17] [] (k := 0) prog_mixed (by kernel_rfl) rfl ?_; refine Zew rfl Zmb ?_; refine Zew rfl Zmb ?_)) | (refine GiE ?_; first | (refine Zati 7 ?_; (first | (refine Zew rfl Zxpt ?_) | (refine Zew rfl Zxpf ?_)); refine Zew rfl Zmb ?_; refine Zew rfl Zmb ?_) | (refine Zati 15 ?_; (first | (refine Zew rfl Zxpt ?_) | (refine Zew rfl Zxpf ?_)); refine Zew rfl Zab ?_; refine Zew rfl Zab ?_) | (refine Zati 2 ?_; first | refine Zes ?_ | (refine Zew rfl Zfa ?_)) | (refine Zati 3 ?_; first | refine Zes ?_ | (refine Zew rfl Zld ?_)) | (refine Zati 4 ?_; first | refine Zes ?_ | (refine Zew rfl Zfa ?_)) | (refine Zati 5 ?_; first | refine Zes ?_ | (refine Zew rfl Zld ?_)) | (refine Zati 6 ?_; first | refine Zes ?_ | (refine Zew rfl Zxleq ?_)) | (refine Zati 10 ?_; first | refine Zes ?_ | (refine Zew rfl Zf0 ?_)) | (refine Zati 11 ?_; first | refine Zes ?_ | (refine Zew rfl Zld ?_)) | (refine Zati 12 ?_; first | refine Zes ?_ | (refine Zew rfl Zfa ?_)) | (refine Zati 13 ?_; first | refine Zes ?_ | (refine Zew rfl Zld ?_)) | (refine Zati 14 ?_; first | refine Zes ?_ | (refine Zew rfl Zxleq ?_)) | (refine Zes ?_) | (refine Zesp (fun hc => ?_) (fun hc => ?_) <;> (try (exfalso; omega))) | (with_reducible apply EWalk_nil)) | (refine AnyO_done (by kernel_rfl) ?_; (try with_reducible apply noP_normal); try with_reducible exact key.out) | (refine Zhn ?_) | (with_reducible apply QBlock_normal) | (refine Zhx ?_) | (with_reducible apply QBlock_hit) | (refine Zqb ?_) | (with_reducible apply QLoop_exit) | (refine Zhr ?_) | (with_reducible apply QBlock_ret) | (with_reducible apply QLoop_ret) | (refine AWalk_0 ?_; refine ZisO ?_) | (with_reducible apply QAny_normal))
      exact QLoop_normal (k + 1, kp1 g.d nx (k + 1), kp2 g.d nx (k + 1)) (.cons rfl (.cons (by dsimp only; rw [hs1]; first | rfl | simp) (.cons (by dsimp only; rw [hs2]; first | rfl | simp) .nil))) (by repeat (first | exact Off.frame rfl | exact Off.refl _ _ | refine Off.frameT rfl rfl ?_ | refine Off.upd rfl ?_ | refine Off.updO rfl ?_)) (by repeat (first | exact Wk.refl _ | apply Wk.keep1 | apply Wk.drop | apply Wk.sv | apply Wk.svD | apply Wk.appD)) ⟨by dsimp only; omega, rfl, rfl⟩ (by dsimp only; omega)
  · have hke : k = g.d.rights.length := by omega
    repeat' (first | (refine GiP ?_; first | (refine Znh ?_) | (with_reducible refine Znl ?_)) | (refine GiW ?_; first | (refine Zsq fun K hK => ?_) | (refine ZrN 4 fun _ => ?_; refine Zv Zxlss ?_) | (refine ZrN 9 fun _ => ?_; refine Zv Zmb ?_; refine Zv Zmb ?_; refine Zv Zab ?_; refine Zv Zab ?_) | (refine WP_cond_true rfl ?_) | (refine WP_cond_false rfl ?_) | (refine Zcd (fun hc => ?_) (fun hc => ?_) <;> (try (exfalso; omega))) | (with_reducible apply WP_skip) | (with_reducible apply WP_block) | (with_reducible apply WP_exit) | (with_reducible apply WP_ret)) | (refine Zhn ?_) | (with_reducible apply QBlock_normal) | (refine Zhx ?_) | (with_reducible apply QBlock_hit) | (refine Zqb ?_) | (with_reducible apply QLoop_exit) | (refine Zhr ?_) | (with_reducible apply QBlock_ret) | (with_reducible apply QLoop_ret))
    exact QBody_res rfl (.tmp (rfl : _ = Value.bool _) (.tmp (rfl : _ = Value.bool _) .nil)) rfl ⟨A ++ (Fk g K1 ++ X), (by repeat (first | exact Wk.refl _ | apply Wk.keep1 | apply Wk.drop | apply Wk.sv | apply Wk.svD | apply Wk.appD)), _, rfl, K1, by rw [hu1, hu2, hke]; rfl, rfl⟩
end
end Go.Proofs.Ytbhgpnbfdjoglaa
end

section
namespace Go.Proofs.Ytbhgpnbfdjoglaa
open Go.RowKit
theorem stopsBreaks : Stops 59 Try.f59 := ⟨Try.func59, ⟨_, _, _, _, _, rfl⟩, rfl, rfl⟩
attribute [local irreducible] AnyO AnyB QAny QB EWalk AWalk Ev WP OPS QThen QBlock QScope QLoop QBody Val New Turn Tri Enters PostA Blk Ro
attribute [local irreducible] AnyC QC
section
variable (N : Nat) (w0 : World)
theorem Breaks2_ret (L : Hp) (g : Fg) (hv : VD g.d) (hA : DrAt N w0 g) (nx : Nat → Option Nat) (l : Nat → Int) (hd : ∀ x y, nx x = some y → y < g.d.banks.length ∧ l y < l x) (bc b6 b9 : Nat) (i j : Nat) (tm : Int) (hi : i < g.d.banks.length) (hm : Mem bc (Blk 3 (crs g.d.banks.length nx)) L) (m2 : Mem b9 (Blk 57 [.int .i64 i, .int .i64 j, .int .i64 tm]) L) (m3 : Mem b6 (Blk 72 [.pointer (some ⟨g.b, 0, none⟩)]) L) (hb : Mem g.b (Blk 85 (bogL g)) L) :
    Ret Try.prog N w0 L 62 (.slice (some ⟨bc, 0, none⟩) g.d.banks.length g.d.banks.length :: [.pointer (some ⟨b6, 0, none⟩), .pointer (some ⟨b9, 0, none⟩)]).toArray (.agg (spL (flowS g.d nx i j)).toArray) := by
  have hfl := fun L hm hb => flow_ret N w0 L g hv hA nx l hd bc hm hb i j hi
  unfold spL
  refine Ret.fgt ?_
  refine tri_of_WP Try.func62 rfl (n := _) rfl (by simp) ?_
  repeat' (first | (refine GiP ?_; first | (refine Znh ?_) | (with_reducible refine Znl ?_)) | (refine GiW ?_; first | (refine Zsq fun K hK => ?_) | (refine ZrN 0 fun _ => ?_; refine Zal 4 fun b4 => ?_) | (refine ZrN 1 fun _ => ?_; refine Zv Zld ?_; refine Zv Zmv ?_; refine Zv Zf0 ?_; refine Zv Zld ?_; refine Zv Zfa ?_; refine Zv Zld ?_; refine Zcl (Enters_fn rfl) (hfl _ (by repeat (first | exact Mem.here | assumption | apply Mem.there | apply Mem.sv | apply Mem.app)) (by repeat (first | exact Mem.here | assumption | apply Mem.there | apply Mem.sv | apply Mem.app))) ?_; refine Zst ?_) | (with_reducible apply WP_ret)) | (refine Zhn ?_) | (refine Zhr ?_))
  exact QBody_res rfl (.cellN rfl (by repeat (first | exact Mem.here | assumption | apply Mem.there | apply Mem.sv | apply Mem.app)) (.here (.cons (.cons .nil))) .nil) rfl ⟨rfl, (by repeat (first | exact Wk.refl _ | apply Wk.keep1 | apply Wk.drop | apply Wk.sv | apply Wk.svD | apply Wk.appD))⟩
theorem bits_lt5 {f : Nat → Bool} {k n : Nat} (hk : k ≤ n) (hn : n ≤ 4) : bitsOf f k < 16 := by
  have := bitsOf_lt f k
  have h2 : 2 ^ k ≤ 2 ^ 4 := Nat.pow_le_pow_right (by omega) (by omega)
  omega
theorem known_no1 (x : Nat × (Obj → Prop)) (X : Hp) (g : Fg) (hv : VD g.d) (hA : DrAt N w0 g) (h0 : someB g.d = false) :
    Tri Try.prog N w0 (x :: (Fk g [] ++ X)) 61 [.pointer (some ⟨g.b, 0, none⟩)].toArray fun x L' => x = .panicked (stopE 10) ∧ L' = X := by
  refine Tri.fgt ((known_no N w0 [x] X g hv hA h0 []).mono ?_)
  rintro y L' ⟨h, K', rfl⟩
  exact ⟨_, .drop (.app (Fk g K') _), h, rfl⟩
theorem known_ok1 (x : Nat × (Obj → Prop)) (X : Hp) (g : Fg) (hv : VD g.d) (hA : DrAt N w0 g) (h0 : someB g.d = true) :
    Tri Try.prog N w0 (x :: (Fk g [] ++ X)) 61 [.pointer (some ⟨g.b, 0, none⟩)].toArray fun y L' => ∃ v, y = .returned v ∧ ∃ K', L' = x :: (Fk g K' ++ X) := by
  refine Tri.fgt ((known_ok N w0 [x] X g hv hA h0 []).mono ?_)
  rintro y L' ⟨v, rfl, K', A2, Aa, c, rfl, h, rfl⟩
  exact ⟨_, .app A2 _, _, rfl, K', rfl⟩
set_option maxHeartbeats 4000000 in
theorem Breaks_ret (L : Hp) (g : Fg) (hA : DrAt N w0 g) :
    Ret Try.prog N w0 L 16 [drV g].toArray (.tuple [.int .i64 ((SureV g.d : Nat) : Int), .int .i64 ((PerhV g.d : Nat) : Int), .int .i64 (errD g.d true)].toArray) := by
  refine Ret.fgt ?_
  refine tri_of_WPL Try.func16 rfl (n := _) rfl (by simp) ?_
  have hop : ∀ (L : Hp), OpenR N w0 g true 60 [] L := fun L =>
    open_tri N w0 L g hA _ 60 _ [] ⟨L, List.Perm.refl _⟩ (fun b m L' h h2 => always_ret N w0 L' _)
  by_cases hvb : vB g.d = true
  · have hv := VD_of hvb
    have hop' := fun L => open_ok (hop L) hvb rfl
    have hA' : ∀ b m, DrAt N w0 { g with b := b, m := m } := fun b m => ⟨hA.banks, hA.ways, hA.rights, hA.seen⟩
    have hnr := hv.nr
    cases h0 : someB g.d with
    | false =>
      have he : errD g.d true = 10 := errD_10 hvb rfl h0
      have hz : SureV g.d = 0 := by unfold SureV; rw [he, if_neg (by omega)]
      have hz2 : PerhV g.d = 0 := by unfold PerhV; rw [he, if_neg (by omega)]
      have hbk := fun b m x X => known_no1 N w0 x X { g with b := b, m := m } hv (hA' b m) h0
      rw [he, hz, hz2]
      unfold drV drL at hop' ⊢
      repeat' (first | (refine GiP ?_; first | (refine Znh ?_) | (with_reducible refine Znl ?_) | (refine Zatd 10 ?_; refine Zal 10 fun b10 => ?_; refine Zst ?_) | (refine Zatd 6 ?_; refine Zv Zai ?_) | (refine Zatd 7 ?_; refine Zv Zai ?_)) | (refine GiW ?_; first | (refine Zsq fun K hK => ?_) | (refine ZrN 0 fun _ => ?_; refine Zal 1 fun b1 => ?_; refine Zv Zai ?_; refine Zv Zai ?_; refine Zal 4 fun b4 => ?_) | (refine ZrN 1 fun _ => ?_; refine Zv Val_makeFunc ?_; refine OPS_defer rfl ?_) | (refine ZrN 2 fun _ => ?_; refine Zv Zla ?_; refine OPS_retKS (Enters_fn rfl) (hop' _) rfl rfl rfl (fun v8 L8 h8 => ?_); obtain ⟨bb, mm, rfl, rfl⟩ := h8; refine Zal 5 fun b5 => ?_; refine Zst ?_) | (refine ZrN 3 fun _ => ?_; refine Zv Zld ?_; refine OPS_pan (Enters_fn rfl) (hbk bb mm _ _) rfl rfl ?_) | (refine ZrN 4 fun _ => ?_; refine Zv Zai ?_; refine Zv Zai ?_) | (refine ZrN 5 fun _ => ?_; refine Zv Zfa ?_; refine Zv Zld ?_; refine Zv Zxlen ?_; refine Zv Zmi ?_) | (refine ZrN 6 fun _ => ?_; refine Zv Zxlss ?_) | (refine ZrN 7 fun _ => ?_; refine Zv Zmi ?_; refine Zv Zia ?_; refine Zv Zla ?_; refine Zal 9 fun b9 => ?_; refine Zv Zai ?_; refine Zst ?_) | (refine ZrN 8 fun _ => ?_; refine Zv Zld ?_; refine Zv Val_makeFunc ?_) | (refine ZrN 9 fun _ => ?_; refine Zv Zf0 ?_; refine Zv Zld ?_; refine Zv Zfa ?_; refine Zv Zld ?_; refine Zv Zxgtr ?_) | (refine ZrN 10 fun _ => ?_; refine Zv Zmi ?_; refine Zv Zmi ?_) | (refine ZrN 11 fun _ => ?_; refine Zv Zfa ?_; refine Zv Zld ?_; refine Zv Zfa ?_; refine Zv Zld ?_; refine Zv Zxgtr ?_) | (refine ZrN 12 fun _ => ?_; refine Zv Zmi ?_; refine Zv Zmi ?_) | (refine ZrN 13 fun _ => ?_; refine Zv Zxadd ?_; refine Zv Zmi ?_) | (refine ZrN 14 fun _ => ?_; refine Zv Zmi ?_; refine Zv Zmi ?_; refine Zv Zai ?_; refine Zv Zai ?_; refine Zst ?_) | (refine WP_cond_true rfl ?_) | (refine WP_cond_false rfl ?_) | (refine Zcd (fun hc => ?_) (fun hc => ?_) <;> (try (exfalso; omega))) | (with_reducible apply WP_skip) | (with_reducible apply WP_block) | (with_reducible apply WP_exit) | (with_reducible apply WP_ret)) | (refine Zhn ?_) | (with_reducible apply QBlock_normal) | (refine Zhx ?_) | (with_reducible apply QBlock_hit) | (refine Zqb ?_) | (with_reducible apply QLoop_exit) | (refine Zhr ?_) | (with_reducible apply QBlock_ret) | (with_reducible apply QLoop_ret) | (refine Zhp ?_) | (with_reducible apply QBlock_panic) | (with_reducible apply QLoop_panic))
      all_goals ((try refine HThen.panic (by assumption) ?_); refine QLeave_panic ?_; refine Lv_stop1 N w0 stopsBreaks (by repeat (first | exact Up.here | apply Up.there | apply Up.sv)) ?_; refine Lv_nil rfl (.tmp (rfl : _ = Value.int _ _) (.tmp (rfl : _ = Value.int _ _) (.cell1 rfl (by repeat (first | exact Mem.here | assumption | apply Mem.there | apply Mem.sv | apply Mem.app)) rfl .nil))) rfl ?_; exact ⟨rfl, (by repeat (first | exact Wk.refl _ | apply Wk.keep1 | apply Wk.drop | apply Wk.sv | apply Wk.svD | apply Wk.appD))⟩)
    | true =>
      have he : errD g.d true = 0 := errD_1 hvb rfl h0
      have hz : SureV g.d = sureS g.d := by unfold SureV; rw [he, if_pos rfl]
      have hz2 : PerhV g.d = perhS g.d := by unfold PerhV; rw [he, if_pos rfl]
      have hbk := fun b m x X => known_ok1 N w0 x X { g with b := b, m := m } hv (hA' b m) h0
      rw [he, hz, hz2]
      unfold drV drL at hop' ⊢
      repeat' (first | (refine GiP ?_; first | (refine Znh ?_) | (with_reducible refine Znl ?_)) | (refine GiW ?_; first | (refine Zsq fun K hK => ?_) | (refine ZrN 0 fun _ => ?_; refine Zal 1 fun b1 => ?_; refine Zv Zai ?_; refine Zv Zai ?_; refine Zal 4 fun b4 => ?_) | (refine ZrN 1 fun _ => ?_; refine Zv Val_makeFunc ?_; refine OPS_defer rfl ?_) | (refine ZrN 2 fun _ => ?_; refine Zv Zla ?_; refine OPS_retKS (Enters_fn rfl) (hop' _) rfl rfl rfl (fun v8 L8 h8 => ?_); obtain ⟨bb, mm, rfl, rfl⟩ := h8; refine Zal 5 fun b5 => ?_; refine Zst ?_) | (refine ZrN 3 fun _ => ?_; refine Zv Zld ?_; refine OPS_retKS (Enters_fn rfl) (hbk bb mm _ _) rfl rfl rfl (fun v15 L15 h15 => ?_); obtain ⟨K15, rfl⟩ := h15) | (refine ZrN 4 fun _ => ?_; refine Zv Zai ?_; refine Zv Zai ?_) | (refine ZrN 5 fun _ => ?_; refine Zv Zfa ?_; refine Zv Zld ?_; refine Zv Zxlen ?_; refine Zv Zmi ?_) | (refine WP_cond_true rfl ?_) | (refine WP_cond_false rfl ?_) | (refine Zcd (fun hc => ?_) (fun hc => ?_) <;> (try (exfalso; omega))) | (with_reducible apply WP_skip) | (with_reducible apply WP_block) | (with_reducible apply WP_exit) | (with_reducible apply WP_ret)) | (refine Zhn ?_) | (with_reducible apply QBlock_normal) | (refine Zhx ?_) | (with_reducible apply QBlock_hit) | (refine Zqb ?_) | (with_reducible apply QLoop_exit) | (refine Zhr ?_) | (with_reducible apply QBlock_ret) | (with_reducible apply QLoop_ret))
      obtain ⟨g', hg'⟩ : ∃ g', { g with b := bb, m := mm } = g' := ⟨_, rfl⟩
      have hA2 : DrAt N w0 g' := by rw [← hg']; exact hA' bb mm
      have hgd : g'.d = g.d := by rw [← hg']
      have hgb : g'.b = bb := by rw [← hg']
      have hsu : sureS g.d = bitsOf (fun i => decide (rtM g.d i < (rtF g.d i).1)) g.d.rights.length := rfl
      have hpe : perhS g.d = bitsOf (fun i => decide (rtM g.d i < (rtF g.d i).2)) g.d.rights.length := rfl
      obtain ⟨F1, hF1⟩ : ∃ F1 : Nat → Bool, (fun i => decide (rtM g.d i < (rtF g.d i).1)) = F1 := ⟨_, rfl⟩
      obtain ⟨F2, hF2⟩ : ∃ F2 : Nat → Bool, (fun i => decide (rtM g.d i < (rtF g.d i).2)) = F2 := ⟨_, rfl⟩
      rw [hF1] at hsu
      rw [hF2] at hpe
      refine WP_loop [6, 7, 8, 9, 10, 19, 20, 21, 22, 23, 24, 25, 26, 27, 28, 29, 30, 31, 32, 33, 34, 35, 36, 37, 38, 39, 40, 41, 42, 43, 44, 45] (fun st : Nat × List (Nat × Ly) => [(19, .int .i64 (st.1 : Int)), (6, .int .i64 (bitsOf F1 st.1 : Int)), (7, .int .i64 (bitsOf F2 st.1 : Int))]) (fun st => (b5, Blk 72 [.pointer (some ⟨bb, 0, none⟩)]) :: (Fk { g with b := bb, m := mm } st.2 ++ ((b4, Blk 22 [.int .i64 0]) :: (b1, Blk 29 [.slice g.A1 g.d.banks.length g.c1, .slice g.A2 g.d.ways.length g.c2, .slice g.A3 g.d.rights.length g.c3, .slice g.A4 g.d.seen.length g.c4]) :: L))) (fun st => st.1 ≤ g.d.rights.length) (fun st => g.d.rights.length - st.1) (0, K15) (.cons rfl (.cons rfl (.cons rfl .nil))) (Wk.refl _) (Nat.zero_le _) ?_
      rintro ⟨k, K1⟩ j hk
      dsimp only at hk ⊢
      by_cases hlt : k < g.d.rights.length
      · obtain ⟨bA, oA, hA1, hbA, hcA⟩ := hA.rights.row k hlt
        obtain ⟨t, ht⟩ : ∃ t, g.d.rights[k] = t := ⟨_, rfl⟩
        have htm : t ∈ g.d.rights := by rw [← ht]; exact List.getElem_mem hlt
        rw [ht] at hcA
        have htb := hv.rt t htm
        have hrF : rtF g.d k = flowsS g.d t.a.toNat t.b.toNat := by unfold rtF; rw [List.getElem?_eq_getElem hlt, ht]
        have hrM : rtM g.d k = t.most := by unfold rtM; rw [List.getElem?_eq_getElem hlt, ht]
        obtain ⟨ta, tb, tm⟩ := t
        dsimp only at htb hrF hrM
        obtain ⟨i, rfl⟩ : ∃ i : Nat, ta = i := ⟨ta.toNat, by omega⟩
        obtain ⟨i2, rfl⟩ : ∃ i : Nat, tb = i := ⟨tb.toNat, by omega⟩
        simp only [Int.toNat_natCast] at hrF
        unfold rtL at hcA
        dsimp only at hcA
        have hf1 : F1 k = decide (tm < (flowsS g.d i i2).1) := by rw [← hF1]; show decide (rtM g.d k < (rtF g.d k).1) = _; rw [hrF, hrM]
        have hf2 : F2 k = decide (tm < (flowsS g.d i i2).2) := by rw [← hF2]; show decide (rtM g.d k < (rtF g.d k).2) = _; rw [hrF, hrM]
        unfold flowsS at hf1 hf2
        have hhu : ∀ b9 X, Tri Try.prog N w0 ((b9, Blk 57 [.int .i64 i, .int .i64 i2, .int .i64 tm]) :: (b5, Blk 72 [.pointer (some ⟨bb, 0, none⟩)]) :: (Fk { g with b := bb, m := mm } K1 ++ X)) 51 [.pointer (some ⟨bb, 0, none⟩), .func (.func 62) #[] [Value.pointer (some ⟨b5, 0, none⟩), .pointer (some ⟨b9, 0, none⟩)].toArray].toArray fun x L' => ∃ v, x = .returned v ∧ ∃ K', v = .agg [.int .i64 (jn ((toldD g.d).map fun lv => flowS g.d (nxt g.d.ways lv) i i2)).1, .int .i64 (jn ((toldD g.d).map fun lv => flowS g.d (nxt g.d.ways lv) i i2)).2].toArray ∧ L' = (b9, Blk 57 [.int .i64 i, .int .i64 i2, .int .i64 tm]) :: (b5, Blk 72 [.pointer (some ⟨bb, 0, none⟩)]) :: (Fk { g with b := bb, m := mm } K' ++ X) := fun b9 X =>
          hull_tri N w0 [(b9, Blk 57 [.int .i64 i, .int .i64 i2, .int .i64 tm]), (b5, Blk 72 [.pointer (some ⟨bb, 0, none⟩)])] X { g with b := bb, m := mm } hv (hA' bb mm) h0 K1 62 [.pointer (some ⟨b5, 0, none⟩), .pointer (some ⟨b9, 0, none⟩)] (fun lv => flowS g.d (nxt g.d.ways lv) i i2) [(b9, Blk 57 [.int .i64 i, .int .i64 i2, .int .i64 tm]), (b5, Blk 72 [.pointer (some ⟨bb, 0, none⟩)]), (bb, Blk 85 (bogL { g with b := bb, m := mm }))] (fun K' => ⟨(mm, MapRel lks (GK g.d K')) :: KH g.d K' ++ X, List.Perm.refl _⟩)
            (fun lv hlv bc L' hm hS' => Breaks2_ret N w0 L' { g with b := bb, m := mm } hv (hA' bb mm) (nxt g.d.ways lv) (lvl lv) (fun x y h => by have h2 := rowsD_len (toldD_mem.1 hlv).1; dsimp only at h2 ⊢; rw [← h2]; exact nxt_dec h) bc b5 b9 i i2 tm (by show i < g.d.banks.length; omega) hm (hS'.mem .here) (hS'.mem (.there .here)) (hS'.mem (.there (.there .here))))
        obtain ⟨⟨s1, s2⟩, hs⟩ : ∃ s, jn ((toldD g.d).map fun lv => flowS g.d (nxt g.d.ways lv) i i2) = s := ⟨_, rfl⟩
        simp only [hs] at hhu hf1 hf2
        have hl1 := bits_lt5 (f := F1) (Nat.le_of_lt hlt) hnr
        have hl2 := bits_lt5 (f := F2) (Nat.le_of_lt hlt) hnr
        have hp4 : 2 ^ k ≤ 2 ^ 4 := Nat.pow_le_pow_right (by omega) (by omega)
        have e1 : bitsOf F1 (k + 1) = if tm < s1 then bitsOf F1 k ||| 2 ^ k else bitsOf F1 k := by
          split
          · next h => exact (bitsOf_or (by rw [hf1, decide_eq_true h])).symm
          · next h => exact bitsOf_no (by rw [hf1, decide_eq_false h])
        have e2 : bitsOf F2 (k + 1) = if tm < s2 then bitsOf F2 k ||| 2 ^ k else bitsOf F2 k := by
          split
          · next h => exact (bitsOf_or (by rw [hf2, decide_eq_true h])).symm
          · next h => exact bitsOf_no (by rw [hf2, decide_eq_false h])
        clear hf1 hf2 hsu hpe hF1 hF2
        repeat' (first | (refine GiP ?_; first | (refine Znh ?_) | (with_reducible refine Znl ?_)) | (refine GiW ?_; first | (refine Zsq fun K hK => ?_) | (refine ZrN 6 fun _ => ?_; refine Zv Zxlss ?_) | (refine ZrN 7 fun _ => ?_; refine Zv Zmi ?_; refine Zv Zia ?_; refine Zv Zla ?_; refine Zal 9 fun b9 => ?_; refine Zv Zai ?_; refine Zst ?_) | (refine ZrN 8 fun _ => ?_; refine Zv Zld ?_; refine Zv Val_makeFunc ?_; refine OPS_retKS (Enters_fn rfl) (hhu b9 _) rfl rfl rfl (fun v26 L26 h26 => ?_); obtain ⟨K26, rfl, rfl⟩ := h26; refine Zal 10 fun b10 => ?_; refine Zst ?_) | (refine ZrN 9 fun _ => ?_; refine Zv Zf0 ?_; refine Zv Zld ?_; refine Zv Zfa ?_; refine Zv Zld ?_; refine Zv Zxgtr ?_) | (refine ZrN 10 fun _ => ?_; refine Zv Zmi ?_; refine Zv Zmi ?_; refine Zv (Val_shlS (i := k) rfl rfl (by omega)) ?_; refine Zv (Val_orS rfl rfl (by omega) (by omega)) ?_; refine Zv Zai ?_) | (refine ZrN 11 fun _ => ?_; refine Zv Zfa ?_; refine Zv Zld ?_; refine Zv Zfa ?_; refine Zv Zld ?_; refine Zv Zxgtr ?_) | (refine ZrN 12 fun _ => ?_; refine Zv Zmi ?_; refine Zv Zmi ?_; refine Zv (Val_shlS (i := k) rfl rfl (by omega)) ?_; refine Zv (Val_orS rfl rfl (by omega) (by omega)) ?_; refine Zv Zai ?_) | (refine ZrN 13 fun _ => ?_; refine Zv Zxadd ?_; refine Zv Zmi ?_) | (refine WP_cond_true rfl ?_) | (refine WP_cond_false rfl ?_) | (refine Zcd (fun hc => ?_) (fun hc => ?_) <;> (try (exfalso; omega))) | (with_reducible apply WP_skip) | (with_reducible apply WP_block) | (with_reducible apply WP_exit) | (with_reducible apply WP_ret)) | (refine Zhn ?_) | (with_reducible apply QBlock_normal) | (refine Zhx ?_) | (with_reducible apply QBlock_hit) | (refine Zqb ?_) | (with_reducible apply QLoop_exit) | (refine Zhr ?_) | (with_reducible apply QBlock_ret) | (with_reducible apply QLoop_ret))
        all_goals exact QLoop_normal (k + 1, K26) (.cons rfl (.cons (by dsimp only; rw [e1]; split <;> first | rfl | omega) (.cons (by dsimp only; rw [e2]; split <;> first | rfl | omega) .nil))) (by repeat (first | exact Off.frame rfl | exact Off.refl _ _ | refine Off.frameT rfl rfl ?_ | refine Off.upd rfl ?_ | refine Off.updO rfl ?_)) (by repeat (first | exact Wk.refl _ | apply Wk.keep1 | apply Wk.drop | apply Wk.sv | apply Wk.svD | apply Wk.appD)) (by dsimp only; omega) (by dsimp only; omega)
      · have hke : k = g.d.rights.length := by omega
        refine WP_sub (B := (b4, Blk 22 [.int .i64 0]) :: (b1, Blk 29 [.slice g.A1 g.d.banks.length g.c1, .slice g.A2 g.d.ways.length g.c2, .slice g.A3 g.d.rights.length g.c3, .slice g.A4 g.d.seen.length g.c4]) :: L) (.cons (.app _ (Sub.refl _))) ?_
        repeat' (first | (refine GiP ?_; first | (refine Znh ?_) | (with_reducible refine Znl ?_)) | (refine GiW ?_; first | (refine Zsq fun K hK => ?_) | (refine ZrN 6 fun _ => ?_; refine Zv Zxlss ?_) | (refine ZrN 14 fun _ => ?_; refine Zv Zmi ?_; refine Zv Zmi ?_; refine Zv Zai ?_; refine Zv Zai ?_; refine Zst ?_) | (refine WP_cond_true rfl ?_) | (refine WP_cond_false rfl ?_) | (refine Zcd (fun hc => ?_) (fun hc => ?_) <;> (try (exfalso; omega))) | (with_reducible apply WP_skip) | (with_reducible apply WP_block) | (with_reducible apply WP_exit) | (with_reducible apply WP_ret)) | (refine Zhn ?_) | (with_reducible apply QBlock_normal) | (refine Zhx ?_) | (with_reducible apply QBlock_hit) | (refine Zqb ?_) | (with_reducible apply QLoop_exit) | (refine Zhr ?_) | (with_reducible apply QBlock_ret) | (with_reducible apply QLoop_ret))
        all_goals (refine QLeave_ret ?_; refine Lv_stop0 N w0 stopsBreaks ?_; refine Lv_nil rfl (.tmp (rfl : _ = Value.int _ _) (.tmp (rfl : _ = Value.int _ _) (.cell1 rfl (by repeat (first | exact Mem.here | assumption | apply Mem.there | apply Mem.sv | apply Mem.app)) rfl .nil))) rfl ?_; exact ⟨by rw [hsu, hpe, ← hke]; rfl, (by repeat (first | exact Wk.refl _ | apply Wk.keep1 | apply Wk.drop | apply Wk.sv | apply Wk.svD | apply Wk.appD))⟩)
  · have hno : vB g.d = false ∨ true = false := by cases h : vB g.d <;> simp_all
    have hz : SureV g.d = 0 := by unfold SureV; rw [if_neg (errD_no hno)]
    have hz2 : PerhV g.d = 0 := by unfold PerhV; rw [if_neg (errD_no hno)]
    have hop' := fun L => open_no (hop L) hno
    rw [hz, hz2]
    unfold drV drL at hop' ⊢
    repeat' (first | (refine GiP ?_; first | (refine Znh ?_) | (with_reducible refine Znl ?_) | (refine Zatd 5 ?_; refine Zal 5 fun b5 => ?_; refine Zst ?_) | (refine Zatd 10 ?_; refine Zal 10 fun b10 => ?_; refine Zst ?_) | (refine Zatd 6 ?_; refine Zv Zai ?_) | (refine Zatd 7 ?_; refine Zv Zai ?_)) | (refine GiW ?_; first | (refine Zsq fun K hK => ?_) | (refine ZrN 0 fun _ => ?_; refine Zal 1 fun b1 => ?_; refine Zv Zai ?_; refine Zv Zai ?_; refine Zal 4 fun b4 => ?_) | (refine ZrN 1 fun _ => ?_; refine Zv Val_makeFunc ?_; refine OPS_defer rfl ?_) | (refine ZrN 2 fun _ => ?_; refine Zv Zla ?_; refine OPS_pan (Enters_fn rfl) (hop' _) rfl rfl ?_) | (refine ZrN 3 fun _ => ?_; refine Zv Zld ?_) | (refine ZrN 4 fun _ => ?_; refine Zv Zai ?_; refine Zv Zai ?_) | (refine ZrN 5 fun _ => ?_; refine Zv Zfa ?_; refine Zv Zld ?_; refine Zv Zxlen ?_; refine Zv Zmi ?_) | (refine ZrN 6 fun _ => ?_; refine Zv Zxlss ?_) | (refine ZrN 7 fun _ => ?_; refine Zv Zmi ?_; refine Zv Zia ?_; refine Zv Zla ?_; refine Zal 9 fun b9 => ?_; refine Zv Zai ?_; refine Zst ?_) | (refine ZrN 8 fun _ => ?_; refine Zv Zld ?_; refine Zv Val_makeFunc ?_) | (refine ZrN 9 fun _ => ?_; refine Zv Zf0 ?_; refine Zv Zld ?_; refine Zv Zfa ?_; refine Zv Zld ?_; refine Zv Zxgtr ?_) | (refine ZrN 10 fun _ => ?_; refine Zv Zmi ?_; refine Zv Zmi ?_) | (refine ZrN 11 fun _ => ?_; refine Zv Zfa ?_; refine Zv Zld ?_; refine Zv Zfa ?_; refine Zv Zld ?_; refine Zv Zxgtr ?_) | (refine ZrN 12 fun _ => ?_; refine Zv Zmi ?_; refine Zv Zmi ?_) | (refine ZrN 13 fun _ => ?_; refine Zv Zxadd ?_; refine Zv Zmi ?_) | (refine ZrN 14 fun _ => ?_; refine Zv Zmi ?_; refine Zv Zmi ?_; refine Zv Zai ?_; refine Zv Zai ?_; refine Zst ?_) | (refine WP_cond_true rfl ?_) | (refine WP_cond_false rfl ?_) | (refine Zcd (fun hc => ?_) (fun hc => ?_) <;> (try (exfalso; omega))) | (with_reducible apply WP_skip) | (with_reducible apply WP_block) | (with_reducible apply WP_exit) | (with_reducible apply WP_ret)) | (refine Zhn ?_) | (with_reducible apply QBlock_normal) | (refine Zhx ?_) | (with_reducible apply QBlock_hit) | (refine Zqb ?_) | (with_reducible apply QLoop_exit) | (refine Zhr ?_) | (with_reducible apply QBlock_ret) | (with_reducible apply QLoop_ret) | (refine Zhp ?_) | (with_reducible apply QBlock_panic) | (with_reducible apply QLoop_panic))
    all_goals ((try refine HThen.panic (by assumption) ?_); refine QLeave_panic ?_; refine Lv_stop1 N w0 stopsBreaks (by repeat (first | exact Up.here | apply Up.there | apply Up.sv)) ?_; refine Lv_nil rfl (.tmp (rfl : _ = Value.int _ _) (.tmp (rfl : _ = Value.int _ _) (.cell1 rfl (by repeat (first | exact Mem.here | assumption | apply Mem.there | apply Mem.sv | apply Mem.app)) rfl .nil))) rfl ?_; exact ⟨rfl, (by repeat (first | exact Wk.refl _ | apply Wk.keep1 | apply Wk.drop | apply Wk.sv | apply Wk.svD | apply Wk.appD))⟩)
end
end Go.Proofs.Ytbhgpnbfdjoglaa
end

section
namespace Go.Proofs.Ytbhgpnbfdjoglaa
open Go.RowKit
theorem stopsDig : Stops 63 Try.f63 := ⟨Try.func63, ⟨_, _, _, _, _, rfl⟩, rfl, rfl⟩
theorem Up.app {b : Nat} {φ φ' : Obj → Prop} (X : Hp) {L L' : Hp} (h : Up L b φ φ' L') : Up (X ++ L) b φ φ' (X ++ L') := by
  induction X with
  | nil => exact h
  | cons x X ih => exact .there ih
theorem any_take_succ {α : Type} {p : α → Bool} {l : List α} {k : Nat} (hk : k < l.length) : (l.take (k + 1)).any p = ((l.take k).any p || p l[k]) := by
  rw [List.take_succ_eq_append_getElem hk, List.any_append]; simp
theorem waysK_dug {d : Dr} {lv : List Int} {s : Sp} (h : s.1 ≠ s.2) : waysK d (lv, 0, s) = d.ways ++ [s] := by
  unfold waysK
  dsimp only
  rw [if_pos h, keepL_zero]
theorem svRows {tl : List (List Int)} {N : Nat} {w0 : World} {A2 : Hp} {Aa : Option Addr} (hrd : ∀ L', Sub A2 L' → RdRows N w0 L' Aa 5 (tl.map rowL)) {k : Nat} (hlt : k < tl.length) {a0 a1 a2 a3 a4 : Int} (h5 : pad5 tl[k] = [a0, a1, a2, a3, a4]) :
    ∃ bA oA, Aa = some ⟨bA, oA, none⟩ ∧ ∀ L', Sub A2 L' → ∀ j v, [Value.int .i64 a0, .int .i64 a1, .int .i64 a2, .int .i64 a3, .int .i64 a4][j]? = some v → Rd N w0 L' bA (oA + k * 5 + j) v := by
  have hrow := fun L' h => (hrd L' h).row k hlt
  have hrl : rowL tl[k] = [.int .i64 a0, .int .i64 a1, .int .i64 a2, .int .i64 a3, .int .i64 a4] := by unfold rowL; rw [h5]; rfl
  rw [hrl] at hrow
  obtain ⟨bA, oA, hAa, -⟩ := hrow A2 (Sub.refl _)
  refine ⟨bA, oA, hAa, ?_⟩
  intro L' hL j v hj
  obtain ⟨b', o', h6, h7⟩ := hrow L' hL
  rw [hAa] at h6
  simp only [Option.some.injEq, Addr.mk.injEq, and_true] at h6
  obtain ⟨rfl, rfl⟩ := h6
  exact h7 j v hj
attribute [local irreducible] AnyO AnyB QAny QB EWalk AWalk Ev WP OPS QThen QBlock QScope QLoop QBody Val New Turn Tri Enters PostA Blk Ro
attribute [local irreducible] AnyC QC
section
variable (N : Nat) (w0 : World)
theorem Dig2_ret (g : Fg) (b3 b4 : Nat) (n o : Int) (b m : Nat) (L' : Hp) (hS : Sub ((b, Blk 85 (bogL { g with b := b, m := m })) :: [(b3, Blk 3 [.int .i64 n]), (b4, Blk 3 [.int .i64 o])]) L') (hv : VD g.d) :
    Ret Try.prog N w0 L' 64 (.pointer (some ⟨b, 0, none⟩) :: [.pointer (some ⟨b3, 0, none⟩), .pointer (some ⟨b4, 0, none⟩)]).toArray (.bool (twoB g.d.banks.length n o)) := by
  have hnb := hv.nb
  have m1 := hS.mem .here
  have m2 := hS.mem (.there .here)
  have m3 := hS.mem (.there (.there .here))
  have hid := fun L hm => areTwo_ret N w0 L { g with b := b, m := m } n o (by show g.d.banks.length ≤ 1000; omega) hm
  refine tri_of_WP Try.func64 rfl (n := 9) rfl (by simp) ?_
  repeat' (first | (refine Znh ?_) | (refine GiW ?_; first | (refine Zsq fun K hK => ?_) | (refine ZrN 0 fun _ => ?_; refine Zv Zab ?_) | (refine ZrN 1 fun _ => ?_; refine Zv Zmv ?_; refine Zv Zld ?_; refine Zv Zld ?_; refine Zcl (Enters_fn rfl) (hid _ (by repeat (first | exact Mem.here | assumption | apply Mem.there | apply Mem.sv | apply Mem.app))) ?_; refine Zv Zab ?_) | (with_reducible apply WP_ret)))
  exact QBody_ret1 rfl (rfl : _ = Value.bool _) ⟨rfl, rfl⟩
theorem known_no0 (X : Hp) (g : Fg) (hv : VD g.d) (hA : DrAt N w0 g) (h0 : someB g.d = false) :
    Tri Try.prog N w0 (Fk g [] ++ X) 61 [.pointer (some ⟨g.b, 0, none⟩)].toArray fun x L' => x = .panicked (stopE 10) ∧ L' = X := by
  refine Tri.fgt ((known_no N w0 [] X g hv hA h0 []).mono ?_)
  rintro y L' ⟨h, K', rfl⟩
  exact ⟨_, .app (Fk g K') _, h, rfl⟩
theorem known_ok0 (X : Hp) (g : Fg) (hv : VD g.d) (hA : DrAt N w0 g) (h0 : someB g.d = true) :
    Tri Try.prog N w0 (Fk g [] ++ X) 61 [.pointer (some ⟨g.b, 0, none⟩)].toArray fun y L' => ∃ v, y = .returned v ∧ ∃ K' A2 Aa c, v = .slice Aa (toldD g.d).length c ∧ (∀ L', Sub A2 L' → RdRows N w0 L' Aa 5 ((toldD g.d).map rowL)) ∧ L' = A2 ++ (Fk g K' ++ X) := known_ok N w0 [] X g hv hA h0 []
def dg1 (d : Dr) (s : Sp) (lv : List Int) : Bool := keepS1 d (nxt (d.ways ++ [s]) lv)
def dg2 (d : Dr) (s : Sp) (lv : List Int) : Bool := keepS2 d (nxt (d.ways ++ [s]) lv)
set_option maxHeartbeats 4000000 in
theorem Dig_ret (L : Hp) (g : Fg) (hA : DrAt N w0 g) (a b : Int) :
    Ret Try.prog N w0 L 17 [drV g, .int .i64 a, .int .i64 b].toArray (.tuple [.int .i64 (DigV g.d a b), .int .i64 (DigE g.d a b)].toArray) := by
  refine Ret.fgt ?_
  refine tri_of_WPL Try.func17 rfl (n := _) rfl (by simp) ?_
  have hop : ∀ (b4 b5 : Nat) (L : Hp), Sub [(b4, Blk 3 [.int .i64 a]), (b5, Blk 3 [.int .i64 b])] L → OpenR N w0 g (twoB g.d.banks.length a b) 64 [.pointer (some ⟨b4, 0, none⟩), .pointer (some ⟨b5, 0, none⟩)] L := fun b4 b5 L h =>
    open_tri N w0 L g hA _ 64 _ _ h (fun bb m L' h h2 => Dig2_ret N w0 g b4 b5 a b bb m L' h h2)
  by_cases hok : vB g.d = true ∧ twoB g.d.banks.length a b = true
  · obtain ⟨hvb, hdo⟩ := hok
    have hv := VD_of hvb
    obtain ⟨i, j, rfl, rfl, hi, hj, hij⟩ := twoB_nat hdo
    have hop' := fun b4 b5 L h => open_ok (hop b4 b5 L h) hvb hdo
    have hA' : ∀ b m, DrAt N w0 { g with b := b, m := m } := fun b m => ⟨hA.banks, hA.ways, hA.rights, hA.seen⟩
    have hnb := hv.nb
    have hnw := hv.nw
    cases h0 : someB g.d with
    | false =>
      have he0 : errD g.d (twoB g.d.banks.length i j) = 10 := errD_10 hvb hdo h0
      have he : DigE g.d i j = 10 := by unfold DigE; rw [he0, if_neg (by omega)]
      have hz : DigV g.d i j = 0 := by unfold DigV; rw [he, if_neg (by omega)]
      have hbk := fun b m X => known_no0 N w0 X { g with b := b, m := m } hv (hA' b m) h0
      rw [he, hz]
      unfold drV drL at hop' ⊢
      repeat' (first | (refine Znh ?_) | (refine GiW ?_; first | (refine Zsq fun K hK => ?_) | (refine ZrN 0 fun _ => ?_; refine Zal 3 fun b3 => ?_; refine Zal 4 fun b4 => ?_; refine Zal 5 fun b5 => ?_; refine Zv Zai ?_; refine Zal 7 fun b7 => ?_) | (refine ZrN 1 fun _ => ?_; refine Zv Val_makeFunc ?_; refine OPS_defer rfl ?_) | (refine ZrN 2 fun _ => ?_; refine Zv Zla ?_; refine Zv Val_makeFunc ?_; refine OPS_retKS (Enters_fn rfl) (hop' b4 b5 _ (by repeat (first | exact Sub.refl _ | assumption | exact Sub.left | (with_reducible refine Sub.pick (by repeat (first | exact Pick.here | apply Pick.there)) ?_) | apply Sub.cons | apply Sub.sv | apply Sub.app))) rfl rfl rfl (fun v8 L8 h8 => ?_); obtain ⟨bb, mm, rfl, rfl⟩ := h8; refine Zv Zav ?_) | (refine ZrN 3 fun _ => ?_; refine Zv Zmv ?_; refine OPS_pan (Enters_fn rfl) (hbk bb mm _) rfl rfl ?_)) | (refine Zhp ?_))
      all_goals ((try refine HThen.panic (by assumption) ?_); refine QLeave_panic ?_; refine Lv_stop1 N w0 stopsDig (by repeat (first | exact Up.here | apply Up.there | apply Up.sv)) ?_; refine Lv_nil rfl (.tmp (rfl : _ = Value.int _ _) (.cell1 rfl (by repeat (first | exact Mem.here | assumption | apply Mem.there | apply Mem.sv | apply Mem.app)) rfl .nil)) rfl ?_; exact ⟨rfl, (by repeat (first | exact Wk.refl _ | apply Wk.keep1 | apply Wk.drop | apply Wk.sv | apply Wk.svD | apply Wk.appD))⟩)
    | true =>
      have he0 : errD g.d (twoB g.d.banks.length i j) = 0 := errD_1 hvb hdo h0
      have hbk := fun b m X => known_ok0 N w0 X { g with b := b, m := m } hv (hA' b m) h0
      unfold drV drL at hop' ⊢
      by_cases hw7 : g.d.ways.length < 7
      · have he : DigE g.d i j = 0 := by unfold DigE; rw [he0, if_pos rfl, if_pos hw7]
        have hz : DigV g.d i j = digS g.d i j := by unfold DigV; rw [he, if_pos rfl]
        rw [he, hz]
        repeat' (first | (refine Znh ?_) | (refine GiW ?_; first | (refine Zsq fun K hK => ?_) | (refine ZrN 0 fun _ => ?_; refine Zal 3 fun b3 => ?_; refine Zal 4 fun b4 => ?_; refine Zal 5 fun b5 => ?_; refine Zv Zai ?_; refine Zal 7 fun b7 => ?_) | (refine ZrN 1 fun _ => ?_; refine Zv Val_makeFunc ?_; refine OPS_defer rfl ?_) | (refine ZrN 2 fun _ => ?_; refine Zv Zla ?_; refine Zv Val_makeFunc ?_; refine OPS_retKS (Enters_fn rfl) (hop' b4 b5 _ (by repeat (first | exact Sub.refl _ | assumption | exact Sub.left | (with_reducible refine Sub.pick (by repeat (first | exact Pick.here | apply Pick.there)) ?_) | apply Sub.cons | apply Sub.sv | apply Sub.app))) rfl rfl rfl (fun v8 L8 h8 => ?_); obtain ⟨bb, mm, rfl, rfl⟩ := h8; refine Zv Zav ?_) | (refine ZrN 3 fun _ => ?_; refine Zv Zmv ?_; refine OPS_retKS (Enters_fn rfl) (hbk bb mm _) rfl rfl rfl (fun v21 L21 h21 => ?_); obtain ⟨K21, A2, Aa, c21, rfl, hrd, rfl⟩ := h21; refine Zv Zav ?_) | (refine ZrN 4 fun _ => ?_; refine Zv Zfa ?_; refine Zv Zld ?_; refine Zv Zxlen ?_; refine Zv Zxlss ?_; (refine OPS_must (Enters_fn rfl) rfl rfl rfl (fun hc => ?_) (fun hc => ?_) <;> (try (exfalso; simp at hc; omega)))) | (refine ZrN 5 fun _ => ?_; refine Zv Zab ?_; refine Zv Zab ?_) | (refine ZrN 6 fun _ => ?_; refine Zv Zmv ?_; refine Zv Zxlen ?_; refine Zv Zmi ?_) | (with_reducible apply WP_block)))
        have hrd' : ∀ L', Sub A2 L' → RdRows N w0 L' Aa 5 ((toldD g.d).map rowL) := hrd
        clear hrd
        have hs2 : digS g.d i j = if (toldD g.d).all (dg1 g.d ((i : Int), (j : Int))) then 2 else if (toldD g.d).any (dg2 g.d ((i : Int), (j : Int))) then 1 else 0 := rfl
        have hly : ∀ lv ∈ toldD g.d, LyOk g.d (lv, 0, (i : Int), (j : Int)) := fun lv h => by
          have h1 := LyOk0 hv (toldD_mem.1 h).1
          exact ⟨h1.len, h1.lv, h1.st, by dsimp only; omega⟩
        have hr5 := fun lv h => told_row5 hv (lv := lv) h
        have hcnt := toldD_count hv
        obtain ⟨tl, htl⟩ : ∃ tl, toldD g.d = tl := ⟨_, rfl⟩
        rw [htl] at hs2 hly hr5 hrd' hcnt
        simp only [htl]
        have hkp := fun A X K1 lv h => keeps_tri N w0 A X { g with b := bb, m := mm } hv (hA' bb mm) K1 (lv, 0, (i : Int), (j : Int)) (hly lv h)
        have hwk : ∀ lv, waysK g.d (lv, 0, (i : Int), (j : Int)) = g.d.ways ++ [((i : Int), (j : Int))] := fun lv => waysK_dug (by dsimp only; omega)
        refine WP_loop [10, 11, 13, 14, 15, 29, 30, 31, 32, 33, 34, 35, 36, 37, 38, 39, 40, 41, 42, 43, 44, 45, 46, 47, 48, 49, 50, 51] (fun st : Nat × List (Nat × Ly) × Bool × Bool => [(29, .int .i64 (st.1 : Int)), (10, .bool st.2.2.1), (11, .bool st.2.2.2)]) (fun st => A2 ++ (Fk { g with b := bb, m := mm } st.2.1 ++ ((b7, Blk 22 [.int .i64 0]) :: (b5, Blk 3 [.int .i64 j]) :: (b4, Blk 3 [.int .i64 i]) :: (b3, Blk 29 [.slice g.A1 g.d.banks.length g.c1, .slice g.A2 g.d.ways.length g.c2, .slice g.A3 g.d.rights.length g.c3, .slice g.A4 g.d.seen.length g.c4]) :: L))) (fun st => st.1 ≤ tl.length ∧ st.2.2.1 = (tl.take st.1).all (dg1 g.d ((i : Int), (j : Int))) ∧ st.2.2.2 = (tl.take st.1).any (dg2 g.d ((i : Int), (j : Int)))) (fun st => tl.length - st.1) (0, K21, true, false) (.cons rfl (.cons rfl (.cons rfl .nil))) (Wk.refl _) ⟨Nat.zero_le _, rfl, rfl⟩ ?_
        rintro ⟨k, K1, u1, u2⟩ jj ⟨hk, hu1, hu2⟩
        dsimp only at hk hu1 hu2 ⊢
        by_cases hlt : k < tl.length
        · have hn1 := all_take_succ (p := dg1 g.d ((i : Int), (j : Int))) hlt
          have hn2 := any_take_succ (p := dg2 g.d ((i : Int), (j : Int))) hlt
          rw [← hu1] at hn1
          rw [← hu2] at hn2
          have hmem := List.getElem_mem hlt
          obtain ⟨a0, a1, a2, a3, a4, h5⟩ := hr5 _ hmem
          obtain ⟨bA, oA, rfl, hrd3⟩ := svRows hrd' hlt h5
          obtain ⟨lv, hlv⟩ : ∃ lv, tl[k] = lv := ⟨_, rfl⟩
          rw [hlv] at hmem h5 hn1 hn2
          have hkp2 := fun b13 => hkp ((b13, Blk 93 [.int .i64 a0, .int .i64 a1, .int .i64 a2, .int .i64 a3, .int .i64 a4]) :: A2) ((b7, Blk 22 [.int .i64 0]) :: (b5, Blk 3 [.int .i64 j]) :: (b4, Blk 3 [.int .i64 i]) :: (b3, Blk 29 [.slice g.A1 g.d.banks.length g.c1, .slice g.A2 g.d.ways.length g.c2, .slice g.A3 g.d.rights.length g.c3, .slice g.A4 g.d.seen.length g.c4]) :: L) K1 lv hmem
          dsimp only at hkp2
          simp only [hwk] at hkp2
          unfold keyL at hkp2
          dsimp only at hkp2
          rw [h5] at hkp2
          unfold ints at hkp2
          simp only [List.map_cons, List.map_nil, List.cons_append, List.nil_append] at hkp2
          have hw1 : keepS1 g.d (nxt (g.d.ways ++ [((i : Int), (j : Int))]) lv) = dg1 g.d ((i : Int), (j : Int)) lv := rfl
          have hw2 : keepS2 g.d (nxt (g.d.ways ++ [((i : Int), (j : Int))]) lv) = dg2 g.d ((i : Int), (j : Int)) lv := rfl
          rw [hw1, hw2] at hkp2
          obtain ⟨w1, hw1⟩ : ∃ w, dg1 g.d ((i : Int), (j : Int)) lv = w := ⟨_, rfl⟩
          obtain ⟨w2, hw2⟩ : ∃ w, dg2 g.d ((i : Int), (j : Int)) lv = w := ⟨_, rfl⟩
          rw [hw1] at hkp2 hn1
          rw [hw2] at hkp2 hn2
          clear hu1 hu2 hw1 hw2
          cases u1 <;> cases u2
          · repeat' (first | (refine GiP ?_; first | (refine Znh ?_) | (with_reducible refine Znl ?_) | (refine Zatd 46 ?_; (first | (refine Zv Zxpt ?_) | (refine Zv Zxpf ?_)); refine Zv Zmb ?_; refine Zv Zmb ?_) | (refine Zatd 50 ?_; (first | (refine Zv Zxpt ?_) | (refine Zv Zxpf ?_)); refine Zv Zab ?_; refine Zv Zab ?_) | (refine Zatd 45 ?_; first | refine Zsk ?_ | (refine Zv Zmb ?_)) | (refine Zatd 49 ?_; first | refine Zsk ?_ | (refine Zv Zmb ?_))) | (refine GiW ?_; first | (refine Zsq fun K hK => ?_) | (refine ZrN 7 fun _ => ?_; refine Zv Zxlss ?_) | (refine ZrN 8 fun _ => ?_; refine Zv Zia ?_; (first | (refine Zv (Val_loadDN rfl (hrd3 _ (by repeat (first | exact Sub.refl _ | assumption | exact Sub.left | apply Sub.cons | apply Sub.sv | apply Sub.app))) rfl) ?_) | (refine Zv Zla ?_)); refine Zal 13 fun b13 => ?_; refine Zst ?_) | (refine ZrN 9 fun _ => ?_; refine Zv Zmv ?_; (first | (refine Zv (Val_loadDN rfl (hrd3 _ (by repeat (first | exact Sub.refl _ | assumption | exact Sub.left | apply Sub.cons | apply Sub.sv | apply Sub.app))) rfl) ?_) | (refine Zv Zla ?_)); (first | (refine Zv (Val_loadDN rfl (hrd3 _ (by repeat (first | exact Sub.refl _ | assumption | exact Sub.left | apply Sub.cons | apply Sub.sv | apply Sub.app))) rfl) ?_) | (refine Zv Zld ?_)); (first | (refine Zv (Val_loadDN rfl (hrd3 _ (by repeat (first | exact Sub.refl _ | assumption | exact Sub.left | apply Sub.cons | apply Sub.sv | apply Sub.app))) rfl) ?_) | (refine Zv Zld ?_)); refine Zv Zxbu ?_; refine Zv Zxbu ?_; refine OPS_retKS (Enters_fn rfl) (hkp2 b13) rfl rfl rfl (fun v40 L40 h40 => ?_); obtain ⟨K2, rfl, rfl⟩ := h40; refine Zv Zmv ?_; refine Zv Zxex ?_; refine Zv Zxex ?_; refine Zv Zab ?_; refine Zv Zab ?_) | (refine ZrG 10 ?_; refine Zv Zmb ?_; refine Zv Zmb ?_) | (refine ZrN 11 fun _ => ?_; refine Zv Zxadd ?_; refine Zv Zmi ?_) | (refine Zcd (fun hc => ?_) (fun hc => ?_) <;> (try (exfalso; omega))) | (with_reducible apply WP_skip) | (with_reducible apply WP_block)) | (refine Zhn ?_) | (with_reducible apply QBlock_normal))
            exact QLoop_normal (k + 1, K2, (tl.take (k + 1)).all (dg1 g.d ((i : Int), (j : Int))), (tl.take (k + 1)).any (dg2 g.d ((i : Int), (j : Int)))) (.cons rfl (.cons (by dsimp only; rw [hn1]; first | rfl | simp) (.cons (by dsimp only; rw [hn2]; first | rfl | simp) .nil))) (by repeat (first | exact Off.frame rfl | exact Off.refl _ _ | refine Off.frameT rfl rfl ?_ | refine Off.upd rfl ?_ | refine Off.updO rfl ?_)) (by repeat (first | exact Wk.refl _ | apply Wk.keep1 | apply Wk.drop | apply Wk.sv | apply Wk.svD | apply Wk.appD)) ⟨by dsimp only; omega, rfl, rfl⟩ (by dsimp only; omega)
          · repeat' (first | (refine GiP ?_; first | (refine Znh ?_) | (with_reducible refine Znl ?_) | (refine Zatd 46 ?_; (first | (refine Zv Zxpt ?_) | (refine Zv Zxpf ?_)); refine Zv Zmb ?_; refine Zv Zmb ?_) | (refine Zatd 50 ?_; (first | (refine Zv Zxpt ?_) | (refine Zv Zxpf ?_)); refine Zv Zab ?_; refine Zv Zab ?_) | (refine Zatd 45 ?_; first | refine Zsk ?_ | (refine Zv Zmb ?_)) | (refine Zatd 49 ?_; first | refine Zsk ?_ | (refine Zv Zmb ?_))) | (refine GiW ?_; first | (refine Zsq fun K hK => ?_) | (refine ZrN 7 fun _ => ?_; refine Zv Zxlss ?_) | (refine ZrN 8 fun _ => ?_; refine Zv Zia ?_; (first | (refine Zv (Val_loadDN rfl (hrd3 _ (by repeat (first | exact Sub.refl _ | assumption | exact Sub.left | apply Sub.cons | apply Sub.sv | apply Sub.app))) rfl) ?_) | (refine Zv Zla ?_)); refine Zal 13 fun b13 => ?_; refine Zst ?_) | (refine ZrN 9 fun _ => ?_; refine Zv Zmv ?_; (first | (refine Zv (Val_loadDN rfl (hrd3 _ (by repeat (first | exact Sub.refl _ | assumption | exact Sub.left | apply Sub.cons | apply Sub.sv | apply Sub.app))) rfl) ?_) | (refine Zv Zla ?_)); (first | (refine Zv (Val_loadDN rfl (hrd3 _ (by repeat (first | exact Sub.refl _ | assumption | exact Sub.left | apply Sub.cons | apply Sub.sv | apply Sub.app))) rfl) ?_) | (refine Zv Zld ?_)); (first | (refine Zv (Val_loadDN rfl (hrd3 _ (by repeat (first | exact Sub.refl _ | assumption | exact Sub.left | apply Sub.cons | apply Sub.sv | apply Sub.app))) rfl) ?_) | (refine Zv Zld ?_)); refine Zv Zxbu ?_; refine Zv Zxbu ?_; refine OPS_retKS (Enters_fn rfl) (hkp2 b13) rfl rfl rfl (fun v40 L40 h40 => ?_); obtain ⟨K2, rfl, rfl⟩ := h40; refine Zv Zmv ?_; refine Zv Zxex ?_; refine Zv Zxex ?_; refine Zv Zab ?_; refine Zv Zab ?_) | (refine ZrG 10 ?_; refine Zv Zmb ?_; refine Zv Zmb ?_) | (refine ZrN 11 fun _ => ?_; refine Zv Zxadd ?_; refine Zv Zmi ?_) | (refine Zcd (fun hc => ?_) (fun hc => ?_) <;> (try (exfalso; omega))) | (with_reducible apply WP_skip) | (with_reducible apply WP_block)) | (refine Zhn ?_) | (with_reducible apply QBlock_normal))
            exact QLoop_normal (k + 1, K2, (tl.take (k + 1)).all (dg1 g.d ((i : Int), (j : Int))), (tl.take (k + 1)).any (dg2 g.d ((i : Int), (j : Int)))) (.cons rfl (.cons (by dsimp only; rw [hn1]; first | rfl | simp) (.cons (by dsimp only; rw [hn2]; first | rfl | simp) .nil))) (by repeat (first | exact Off.frame rfl | exact Off.refl _ _ | refine Off.frameT rfl rfl ?_ | refine Off.upd rfl ?_ | refine Off.updO rfl ?_)) (by repeat (first | exact Wk.refl _ | apply Wk.keep1 | apply Wk.drop | apply Wk.sv | apply Wk.svD | apply Wk.appD)) ⟨by dsimp only; omega, rfl, rfl⟩ (by dsimp only; omega)
          · repeat' (first | (refine GiP ?_; first | (refine Znh ?_) | (with_reducible refine Znl ?_) | (refine Zatd 46 ?_; (first | (refine Zv Zxpt ?_) | (refine Zv Zxpf ?_)); refine Zv Zmb ?_; refine Zv Zmb ?_) | (refine Zatd 50 ?_; (first | (refine Zv Zxpt ?_) | (refine Zv Zxpf ?_)); refine Zv Zab ?_; refine Zv Zab ?_) | (refine Zatd 45 ?_; first | refine Zsk ?_ | (refine Zv Zmb ?_)) | (refine Zatd 49 ?_; first | refine Zsk ?_ | (refine Zv Zmb ?_))) | (refine GiW ?_; first | (refine Zsq fun K hK => ?_) | (refine ZrN 7 fun _ => ?_; refine Zv Zxlss ?_) | (refine ZrN 8 fun _ => ?_; refine Zv Zia ?_; (first | (refine Zv (Val_loadDN rfl (hrd3 _ (by repeat (first | exact Sub.refl _ | assumption | exact Sub.left | apply Sub.cons | apply Sub.sv | apply Sub.app))) rfl) ?_) | (refine Zv Zla ?_)); refine Zal 13 fun b13 => ?_; refine Zst ?_) | (refine ZrN 9 fun _ => ?_; refine Zv Zmv ?_; (first | (refine Zv (Val_loadDN rfl (hrd3 _ (by repeat (first | exact Sub.refl _ | assumption | exact Sub.left | apply Sub.cons | apply Sub.sv | apply Sub.app))) rfl) ?_) | (refine Zv Zla ?_)); (first | (refine Zv (Val_loadDN rfl (hrd3 _ (by repeat (first | exact Sub.refl _ | assumption | exact Sub.left | apply Sub.cons | apply Sub.sv | apply Sub.app))) rfl) ?_) | (refine Zv Zld ?_)); (first | (refine Zv (Val_loadDN rfl (hrd3 _ (by repeat (first | exact Sub.refl _ | assumption | exact Sub.left | apply Sub.cons | apply Sub.sv | apply Sub.app))) rfl) ?_) | (refine Zv Zld ?_)); refine Zv Zxbu ?_; refine Zv Zxbu ?_; refine OPS_retKS (Enters_fn rfl) (hkp2 b13) rfl rfl rfl (fun v40 L40 h40 => ?_); obtain ⟨K2, rfl, rfl⟩ := h40; refine Zv Zmv ?_; refine Zv Zxex ?_; refine Zv Zxex ?_; refine Zv Zab ?_; refine Zv Zab ?_) | (refine ZrG 10 ?_; refine Zv Zmb ?_; refine Zv Zmb ?_) | (refine ZrN 11 fun _ => ?_; refine Zv Zxadd ?_; refine Zv Zmi ?_) | (refine Zcd (fun hc => ?_) (fun hc => ?_) <;> (try (exfalso; omega))) | (with_reducible apply WP_skip) | (with_reducible apply WP_block)) | (refine Zhn ?_) | (with_reducible apply QBlock_normal))
            exact QLoop_normal (k + 1, K2, (tl.take (k + 1)).all (dg1 g.d ((i : Int), (j : Int))), (tl.take (k + 1)).any (dg2 g.d ((i : Int), (j : Int)))) (.cons rfl (.cons (by dsimp only; rw [hn1]; first | rfl | simp) (.cons (by dsimp only; rw [hn2]; first | rfl | simp) .nil))) (by repeat (first | exact Off.frame rfl | exact Off.refl _ _ | refine Off.frameT rfl rfl ?_ | refine Off.upd rfl ?_ | refine Off.updO rfl ?_)) (by repeat (first | exact Wk.refl _ | apply Wk.keep1 | apply Wk.drop | apply Wk.sv | apply Wk.svD | apply Wk.appD)) ⟨by dsimp only; omega, rfl, rfl⟩ (by dsimp only; omega)
          · repeat' (first | (refine GiP ?_; first | (refine Znh ?_) | (with_reducible refine Znl ?_) | (refine Zatd 46 ?_; (first | (refine Zv Zxpt ?_) | (refine Zv Zxpf ?_)); refine Zv Zmb ?_; refine Zv Zmb ?_) | (refine Zatd 50 ?_; (first | (refine Zv Zxpt ?_) | (refine Zv Zxpf ?_)); refine Zv Zab ?_; refine Zv Zab ?_) | (refine Zatd 45 ?_; first | refine Zsk ?_ | (refine Zv Zmb ?_)) | (refine Zatd 49 ?_; first | refine Zsk ?_ | (refine Zv Zmb ?_))) | (refine GiW ?_; first | (refine Zsq fun K hK => ?_) | (refine ZrN 7 fun _ => ?_; refine Zv Zxlss ?_) | (refine ZrN 8 fun _ => ?_; refine Zv Zia ?_; (first | (refine Zv (Val_loadDN rfl (hrd3 _ (by repeat (first | exact Sub.refl _ | assumption | exact Sub.left | apply Sub.cons | apply Sub.sv | apply Sub.app))) rfl) ?_) | (refine Zv Zla ?_)); refine Zal 13 fun b13 => ?_; refine Zst ?_) | (refine ZrN 9 fun _ => ?_; refine Zv Zmv ?_; (first | (refine Zv (Val_loadDN rfl (hrd3 _ (by repeat (first | exact Sub.refl _ | assumption | exact Sub.left | apply Sub.cons | apply Sub.sv | apply Sub.app))) rfl) ?_) | (refine Zv Zla ?_)); (first | (refine Zv (Val_loadDN rfl (hrd3 _ (by repeat (first | exact Sub.refl _ | assumption | exact Sub.left | apply Sub.cons | apply Sub.sv | apply Sub.app))) rfl) ?_) | (refine Zv Zld ?_)); (first | (refine Zv (Val_loadDN rfl (hrd3 _ (by repeat (first | exact Sub.refl _ | assumption | exact Sub.left | apply Sub.cons | apply Sub.sv | apply Sub.app))) rfl) ?_) | (refine Zv Zld ?_)); refine Zv Zxbu ?_; refine Zv Zxbu ?_; refine OPS_retKS (Enters_fn rfl) (hkp2 b13) rfl rfl rfl (fun v40 L40 h40 => ?_); obtain ⟨K2, rfl, rfl⟩ := h40; refine Zv Zmv ?_; refine Zv Zxex ?_; refine Zv Zxex ?_; refine Zv Zab ?_; refine Zv Zab ?_) | (refine ZrG 10 ?_; refine Zv Zmb ?_; refine Zv Zmb ?_) | (refine ZrN 11 fun _ => ?_; refine Zv Zxadd ?_; refine Zv Zmi ?_) | (refine Zcd (fun hc => ?_) (fun hc => ?_) <;> (try (exfalso; omega))) | (with_reducible apply WP_skip) | (with_reducible apply WP_block)) | (refine Zhn ?_) | (with_reducible apply QBlock_normal))
            exact QLoop_normal (k + 1, K2, (tl.take (k + 1)).all (dg1 g.d ((i : Int), (j : Int))), (tl.take (k + 1)).any (dg2 g.d ((i : Int), (j : Int)))) (.cons rfl (.cons (by dsimp only; rw [hn1]; first | rfl | simp) (.cons (by dsimp only; rw [hn2]; first | rfl | simp) .nil))) (by repeat (first | exact Off.frame rfl | exact Off.refl _ _ | refine Off.frameT rfl rfl ?_ | refine Off.upd rfl ?_ | refine Off.updO rfl ?_)) (by repeat (first | exact Wk.refl _ | apply Wk.keep1 | apply Wk.drop | apply Wk.sv | apply Wk.svD | apply Wk.appD)) ⟨by dsimp only; omega, rfl, rfl⟩ (by dsimp only; omega)
        · have hke : k = tl.length := by omega
          rw [hke, List.take_length] at hu1 hu2
          refine WP_sub (B := (b7, Blk 22 [.int .i64 0]) :: (b5, Blk 3 [.int .i64 j]) :: (b4, Blk 3 [.int .i64 i]) :: (b3, Blk 29 [.slice g.A1 g.d.banks.length g.c1, .slice g.A2 g.d.ways.length g.c2, .slice g.A3 g.d.rights.length g.c3, .slice g.A4 g.d.seen.length g.c4]) :: L) (.app _ (.app _ (Sub.refl _))) ?_
          rw [← hu1, ← hu2] at hs2
          cases u1 with
          | true =>
            repeat' (first | (refine Znh ?_) | (refine GiW ?_; first | (refine Zsq fun K hK => ?_) | (refine ZrN 7 fun _ => ?_; refine Zv Zxlss ?_) | (refine ZrN 12 fun _ => ?_; refine Zv Zmb ?_; refine Zv Zab ?_) | (refine ZrN 13 fun _ => ?_; refine Zv Zai ?_; refine Zst ?_) | (refine WP_cond_true rfl ?_) | (refine Zcd (fun hc => ?_) (fun hc => ?_) <;> (try (exfalso; omega))) | (with_reducible apply WP_block) | (with_reducible apply WP_exit) | (with_reducible apply WP_ret)) | (refine Zhn ?_) | (refine Zhx ?_) | (with_reducible apply QBlock_hit) | (with_reducible apply QLoop_exit) | (refine Zhr ?_) | (with_reducible apply QBlock_ret))
            all_goals (refine QLeave_ret ?_; refine Lv_stop0 N w0 stopsDig ?_; refine Lv_nil rfl (.tmp (rfl : _ = Value.int _ _) (.cell1 rfl (by repeat (first | exact Mem.here | assumption | apply Mem.there | apply Mem.sv | apply Mem.app)) rfl .nil)) rfl ?_; exact ⟨by rw [hs2]; rfl, (by repeat (first | exact Wk.refl _ | apply Wk.keep1 | apply Wk.drop | apply Wk.sv | apply Wk.svD | apply Wk.appD))⟩)
          | false =>
            cases u2 with
            | true =>
              repeat' (first | (refine Znh ?_) | (refine GiW ?_; first | (refine Zsq fun K hK => ?_) | (refine ZrN 7 fun _ => ?_; refine Zv Zxlss ?_) | (refine ZrN 12 fun _ => ?_; refine Zv Zmb ?_; refine Zv Zab ?_) | (refine ZrN 14 fun _ => ?_; refine Zv Zmb ?_; refine Zv Zab ?_) | (refine ZrN 15 fun _ => ?_; refine Zv Zai ?_; refine Zst ?_) | (refine WP_cond_true rfl ?_) | (refine WP_cond_false rfl ?_) | (refine Zcd (fun hc => ?_) (fun hc => ?_) <;> (try (exfalso; omega))) | (with_reducible apply WP_block) | (with_reducible apply WP_exit) | (with_reducible apply WP_ret)) | (refine Zhn ?_) | (refine Zhx ?_) | (with_reducible apply QBlock_hit) | (with_reducible apply QLoop_exit) | (refine Zhr ?_) | (with_reducible apply QBlock_ret))
              all_goals (refine QLeave_ret ?_; refine Lv_stop0 N w0 stopsDig ?_; refine Lv_nil rfl (.tmp (rfl : _ = Value.int _ _) (.cell1 rfl (by repeat (first | exact Mem.here | assumption | apply Mem.there | apply Mem.sv | apply Mem.app)) rfl .nil)) rfl ?_; exact ⟨by rw [hs2]; rfl, (by repeat (first | exact Wk.refl _ | apply Wk.keep1 | apply Wk.drop | apply Wk.sv | apply Wk.svD | apply Wk.appD))⟩)
            | false =>
              repeat' (first | (refine Znh ?_) | (refine GiW ?_; first | (refine Zsq fun K hK => ?_) | (refine ZrN 7 fun _ => ?_; refine Zv Zxlss ?_) | (refine ZrN 12 fun _ => ?_; refine Zv Zmb ?_; refine Zv Zab ?_) | (refine ZrN 14 fun _ => ?_; refine Zv Zmb ?_; refine Zv Zab ?_) | (refine ZrN 16 fun _ => ?_; refine Zv Zai ?_; refine Zst ?_) | (refine WP_cond_false rfl ?_) | (refine Zcd (fun hc => ?_) (fun hc => ?_) <;> (try (exfalso; omega))) | (with_reducible apply WP_skip) | (with_reducible apply WP_block) | (with_reducible apply WP_exit) | (with_reducible apply WP_ret)) | (refine Zhn ?_) | (with_reducible apply QBlock_normal) | (refine Zhx ?_) | (with_reducible apply QBlock_hit) | (with_reducible apply QLoop_exit))
              all_goals (refine QLeave_ret ?_; refine Lv_stop0 N w0 stopsDig ?_; refine Lv_nil rfl (.tmp (rfl : _ = Value.int _ _) (.cell1 rfl (by repeat (first | exact Mem.here | assumption | apply Mem.there | apply Mem.sv | apply Mem.app)) rfl .nil)) rfl ?_; exact ⟨by rw [hs2]; rfl, (by repeat (first | exact Wk.refl _ | apply Wk.keep1 | apply Wk.drop | apply Wk.sv | apply Wk.svD | apply Wk.appD))⟩)
      · have he : DigE g.d i j = 9 := by unfold DigE; rw [he0, if_pos rfl, if_neg hw7]
        have hz : DigV g.d i j = 0 := by unfold DigV; rw [he, if_neg (by omega)]
        rw [he, hz]
        repeat' (first | (refine Znh ?_) | (refine GiW ?_; first | (refine Zsq fun K hK => ?_) | (refine ZrN 0 fun _ => ?_; refine Zal 3 fun b3 => ?_; refine Zal 4 fun b4 => ?_; refine Zal 5 fun b5 => ?_; refine Zv Zai ?_; refine Zal 7 fun b7 => ?_) | (refine ZrN 1 fun _ => ?_; refine Zv Val_makeFunc ?_; refine OPS_defer rfl ?_) | (refine ZrN 2 fun _ => ?_; refine Zv Zla ?_; refine Zv Val_makeFunc ?_; refine OPS_retKS (Enters_fn rfl) (hop' b4 b5 _ (by repeat (first | exact Sub.refl _ | assumption | exact Sub.left | (with_reducible refine Sub.pick (by repeat (first | exact Pick.here | apply Pick.there)) ?_) | apply Sub.cons | apply Sub.sv | apply Sub.app))) rfl rfl rfl (fun v8 L8 h8 => ?_); obtain ⟨bb, mm, rfl, rfl⟩ := h8; refine Zv Zav ?_) | (refine ZrN 3 fun _ => ?_; refine Zv Zmv ?_; refine OPS_retKS (Enters_fn rfl) (hbk bb mm _) rfl rfl rfl (fun v21 L21 h21 => ?_); obtain ⟨K21, A2, Aa, c21, rfl, hrd, rfl⟩ := h21; refine Zv Zav ?_) | (refine ZrN 4 fun _ => ?_; refine Zv Zfa ?_; refine Zv Zld ?_; refine Zv Zxlen ?_; refine Zv Zxlss ?_; (refine OPS_must (Enters_fn rfl) rfl rfl rfl (fun hc => ?_) (fun hc => ?_) <;> (try (exfalso; simp at hc; omega))))) | (refine Zhp ?_))
        all_goals ((try refine HThen.panic (by assumption) ?_); refine QLeave_panic ?_; refine Lv_stop1 N w0 stopsDig (Up.app _ (Up.app _ (by repeat (first | exact Up.here | apply Up.there | apply Up.sv)))) ?_; refine Lv_nil rfl (.tmp (rfl : _ = Value.int _ _) (.cell1 rfl (by repeat (first | exact Mem.here | assumption | apply Mem.there | apply Mem.sv | apply Mem.app)) rfl .nil)) rfl ?_; exact ⟨rfl, (by repeat (first | exact Wk.refl _ | apply Wk.keep1 | apply Wk.drop | apply Wk.sv | apply Wk.svD | apply Wk.appD))⟩)
  · have hno := ok_or hok
    have he : DigE g.d a b = errD g.d (twoB g.d.banks.length a b) := by unfold DigE; rw [if_neg (errD_no hno)]
    have hz : DigV g.d a b = 0 := by unfold DigV; rw [he, if_neg (errD_no hno)]
    have hop' := fun b4 b5 L h => open_no (hop b4 b5 L h) hno
    rw [hz, he]
    unfold drV drL at hop' ⊢
    repeat' (first | (refine Znh ?_) | (refine GiW ?_; first | (refine Zsq fun K hK => ?_) | (refine ZrN 0 fun _ => ?_; refine Zal 3 fun b3 => ?_; refine Zal 4 fun b4 => ?_; refine Zal 5 fun b5 => ?_; refine Zv Zai ?_; refine Zal 7 fun b7 => ?_) | (refine ZrN 1 fun _ => ?_; refine Zv Val_makeFunc ?_; refine OPS_defer rfl ?_) | (refine ZrN 2 fun _ => ?_; refine Zv Zla ?_; refine Zv Val_makeFunc ?_; refine OPS_pan (Enters_fn rfl) (hop' b4 b5 _ (by repeat (first | exact Sub.refl _ | assumption | exact Sub.left | (with_reducible refine Sub.pick (by repeat (first | exact Pick.here | apply Pick.there)) ?_) | apply Sub.cons | apply Sub.sv | apply Sub.app))) rfl rfl ?_)) | (refine Zhp ?_))
    all_goals ((try refine HThen.panic (by assumption) ?_); refine QLeave_panic ?_; refine Lv_stop1 N w0 stopsDig (by repeat (first | exact Up.here | apply Up.there | apply Up.sv)) ?_; refine Lv_nil rfl (.tmp (rfl : _ = Value.int _ _) (.cell1 rfl (by repeat (first | exact Mem.here | assumption | apply Mem.there | apply Mem.sv | apply Mem.app)) rfl .nil)) rfl ?_; exact ⟨rfl, (by repeat (first | exact Wk.refl _ | apply Wk.keep1 | apply Wk.drop | apply Wk.sv | apply Wk.svD | apply Wk.appD))⟩)
end
end Go.Proofs.Ytbhgpnbfdjoglaa
end
