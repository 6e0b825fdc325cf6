/- The law BankTrue: its walk. · The law BankTrue: all banks. -/
import Derived.Test.YtakmopiceopcpaaC2
import Derived.Test.YtakmopiceopcpaaC3
import Derived.Test.YtakmopiceopcpaaE1
import Derived.Test.YtakmopiceopcpaaE4
import Derived.Test.YtakmopiceopcpaaQh
import Derived.Test.YtakmopiceopcpaaE5
section
namespace Go.Proofs.Ytakmopiceopcpaa
open Go.RowKit
theorem perm3b {α : Type} {x a b : α} {R : List α} : (x :: a :: b :: R).Perm (a :: b :: x :: R) := (List.Perm.swap a x _).trans (.cons a (.swap b x _))
theorem sub_up2 {E1 E2 : TypeId} {z1 z2 k1 k2 : Nat} {x1 x2 : List Value} {s1 s2 : Option (Nat × Nat)} {x : Nat × (Obj → Prop)} {L : Hp} : Sub (x :: svH E1 z1 k1 x1 s1 (svH E2 z2 k2 x2 s2 L)) (svH E1 z1 k1 x1 s1 (svH E2 z2 k2 x2 s2 (x :: L))) := by
  refine ⟨[], ?_⟩
  rw [List.append_nil]
  have h1 : (svH E2 z2 k2 x2 s2 (x :: L)).Perm (x :: svH E2 z2 k2 x2 s2 L) := (svH_mid (X := [x])).symm
  have h2 : (svH E1 z1 k1 x1 s1 (x :: svH E2 z2 k2 x2 s2 L)).Perm (x :: svH E1 z1 k1 x1 s1 (svH E2 z2 k2 x2 s2 L)) := (svH_mid (X := [x])).symm
  exact (svH_perm h1).trans h2
theorem countW5 (N : Nat) (w0 : World) (L : Hp) (g : Fg) (h : BankIn N w0 L g) (d : Bn) (hv : VB d) (p : Int) (o : Int) (hd : g.d = withB d (p, o)) (h6 : d.ms.length < 6) (hp : 0 ≤ p ∧ p < d.n) (ho : 0 ≤ o ∧ o ≤ d.m) : Ret Try.prog N w0 L 23 [bkV g].toArray (.tuple [.int .i64 ((waysN d [.mine p o] : Nat) : Int), .int .i64 0].toArray) := by
  have hvw := VB_with hv (k := (p, o)) h6 hp ho
  have := Count_in N w0 L g h
  rw [hd, CountE_of hvw, CountV_of hvw, with_ways hp] at this
  exact this
theorem andNot_zero {a b : Nat} (ha : b < 2 ^ 64) (h : ∀ j, a / 2 ^ j % 2 = 1 → b / 2 ^ j % 2 = 1) : a &&& (2 ^ 64 - 1 - b) = 0 := by
  apply Nat.eq_of_testBit_eq
  intro j
  rw [Nat.testBit_and, Nat.zero_testBit, show 2 ^ 64 - 1 - b = 2 ^ 64 - (b + 1) by omega, Nat.testBit_two_pow_sub_succ ha]
  have hj := h j
  rw [Nat.testBit_eq_decide_div_mod_eq, Nat.testBit_eq_decide_div_mod_eq]
  by_cases h1 : a / 2 ^ j % 2 = 1
  · simp [h1, hj h1]
  · simp [h1]
attribute [local irreducible] AnyO AnyB QAny QB EWalk AWalk Ev WP OPS QThen QBlock QScope QLoop QBody Val New Turn Tri Enters PostA Blk Ro
attribute [local irreducible] AnyC QC
section
variable (N : Nat) (w0 : World)
theorem true_law0 (L : Hp) (g : Fg) (hA : BkAt N w0 g) (A : Option Addr) (k c : Nat) (h : farB g.d = true ∨ vB g.d = false) : Ret Try.prog N w0 L 6 [bkV g, .slice A k c].toArray (.bool true) := by
  have h28 := fun L => long_ret N w0 L g
  have h13 := fun L => alive_ret N w0 L
  refine Ret.fgt ?_
  refine tri_of_WP Try.func6 rfl (n := _) rfl (by simp) ?_
  cases hf : farB g.d with
  | true =>
    rw [hf] at h28
    unfold bkV bkL at h28 ⊢
    repeat' (first | (refine GiP ?_; first | (refine Znh ?_) | (with_reducible refine Znl ?_) | (refine Zatd 42 ?_; (first | (refine Zv Zxpt ?_) | (refine Zv Zxpf ?_))) | (refine Zatd 39 ?_; first | refine Zsk ?_ | (refine Zv Zla ?_)) | (refine Zatd 41 ?_; first | refine Zsk ?_ | (refine Zv Zxnot ?_)) | (refine Zsk ?_) | (refine Zsp (fun hc => ?_) (fun hc => ?_) <;> (try (exfalso; omega)))) | (refine GiW ?_; first | (refine Zsq fun K hK => ?_) | (refine ZrN 0 fun _ => ?_; refine Zal 2 fun b2 => ?_; refine Zv Zab ?_) | (refine ZrG 1 ?_; refine Zv Zla ?_; refine Zcl (Enters_fn rfl) (h28 _) ?_; refine Zv Zmb ?_) | (refine ZrN 2 fun _ => ?_; refine Zcl (Enters_fn rfl) (h13 _) ?_; refine Zv Zab ?_) | (refine WP_cond_true rfl ?_) | (refine WP_cond_false rfl ?_) | (refine Zcd (fun hc => ?_) (fun hc => ?_) <;> (try (exfalso; omega))) | (with_reducible apply WP_skip) | (with_reducible apply WP_block) | (with_reducible apply WP_exit) | (with_reducible apply WP_ret)) | (refine Zhn ?_) | (with_reducible apply QBlock_normal) | (refine Zhx ?_) | (with_reducible apply QBlock_hit) | (refine Zqb ?_) | (with_reducible apply QLoop_exit) | (refine Zhr ?_) | (with_reducible apply QBlock_ret) | (with_reducible apply QLoop_ret))
    exact QBody_ret1 rfl (rfl : _ = Value.bool _) ⟨rfl, (by repeat (first | exact Wk.refl _ | apply Wk.keep1 | apply Wk.drop | apply Wk.sv | apply Wk.svD | apply Wk.appD))⟩
  | false =>
    have hvb : vB g.d = false := by rcases h with h | h; rw [hf] at h; cases h; exact h
    have h29 := fun L => rBank_in N w0 L g (BankIn.at_ hA) hf
    rw [hf] at h28
    rw [hvb] at h29
    unfold bkV bkL at h28 h29 ⊢
    repeat' (first | (refine GiP ?_; first | (refine Znh ?_) | (with_reducible refine Znl ?_) | (refine Zatd 42 ?_; (first | (refine Zv Zxpt ?_) | (refine Zv Zxpf ?_))) | (refine Zatd 39 ?_; first | refine Zsk ?_ | (refine Zv Zla ?_)) | (refine Zatd 40 ?_; first | refine Zsk ?_ | (refine Zcl (Enters_fn rfl) (h29 _) ?_)) | (refine Zatd 41 ?_; first | refine Zsk ?_ | (refine Zv Zxnot ?_)) | (refine Zsk ?_) | (refine Zsp (fun hc => ?_) (fun hc => ?_) <;> (try (exfalso; omega)))) | (refine GiW ?_; first | (refine Zsq fun K hK => ?_) | (refine ZrN 0 fun _ => ?_; refine Zal 2 fun b2 => ?_; refine Zv Zab ?_) | (refine ZrG 1 ?_; refine Zv Zla ?_; refine Zcl (Enters_fn rfl) (h28 _) ?_; refine Zv Zmb ?_) | (refine ZrN 2 fun _ => ?_; refine Zcl (Enters_fn rfl) (h13 _) ?_; refine Zv Zab ?_) | (refine WP_cond_true rfl ?_) | (refine WP_cond_false rfl ?_) | (refine Zcd (fun hc => ?_) (fun hc => ?_) <;> (try (exfalso; omega))) | (with_reducible apply WP_skip) | (with_reducible apply WP_block) | (with_reducible apply WP_exit) | (with_reducible apply WP_ret)) | (refine Zhn ?_) | (with_reducible apply QBlock_normal) | (refine Zhx ?_) | (with_reducible apply QBlock_hit) | (refine Zqb ?_) | (with_reducible apply QLoop_exit) | (refine Zhr ?_) | (with_reducible apply QBlock_ret) | (with_reducible apply QLoop_ret))
    exact QBody_ret1 rfl (rfl : _ = Value.bool _) ⟨rfl, (by repeat (first | exact Wk.refl _ | apply Wk.keep1 | apply Wk.drop | apply Wk.sv | apply Wk.svD | apply Wk.appD))⟩
set_option maxRecDepth 100000 in
set_option maxHeartbeats 8000000 in
theorem true_law1 (L : Hp) (g : Fg) (hA : BkAt N w0 g) (A : Option Addr) (c : Nat) (us : List Nat) (hB : SlAt N w0 A 1 (u16L us)) (hu : ∀ u ∈ us, u ≤ 65535) (hvb : vB g.d = true) : Ret Try.prog N w0 L 6 [bkV g, .slice A us.length c].toArray (.bool true) := by
  have hv := VB_of hvb
  have hf := farB_vB hvb
  have hnb := hv.n
  have hmb := hv.m
  have hA' : ∀ L, BankIn N w0 L g := fun L => BankIn.at_ hA
  have h28 := fun L => long_ret N w0 L g
  have h13 := fun L => alive_ret N w0 L
  have h29 := fun L => rBank_in N w0 L g (hA' L) hf
  have hdr := fun L => draws_tri N w0 L A us.length c
  obtain ⟨n, hn⟩ : ∃ n : Nat, g.d.n = n := ⟨g.d.n.toNat, by omega⟩
  obtain ⟨m, hm⟩ : ∃ m : Nat, g.d.m = m := ⟨g.d.m.toNat, by omega⟩
  have htr := fun L bc bu => truly_tri N w0 L g hA hv bc bu A c us hB hu n hn
  rw [hf] at h28
  rw [hvb] at h29
  unfold bkV bkL at h28 h29 htr
  unfold bkV bkL
  rw [hn, hm] at h28 h29 htr ⊢
  refine Ret.fgt ?_
  refine tri_of_WP Try.func6 rfl (n := _) rfl (by simp) ?_
  repeat' (first | (refine GiP ?_; first | (refine Znh ?_) | (with_reducible refine Znl ?_) | (refine Zatd 42 ?_; (first | (refine Zv Zxpt ?_) | (refine Zv Zxpf ?_))) | (refine Zatd 39 ?_; first | refine Zsk ?_ | (refine Zv Zla ?_)) | (refine Zatd 40 ?_; first | refine Zsk ?_ | (refine Zcl (Enters_fn rfl) (h29 _) ?_)) | (refine Zatd 41 ?_; first | refine Zsk ?_ | (refine Zv Zxnot ?_)) | (refine Zsk ?_) | (refine Zsp (fun hc => ?_) (fun hc => ?_) <;> (try (exfalso; omega)))) | (refine GiW ?_; first | (refine Zsq fun K hK => ?_) | (refine ZrN 0 fun _ => ?_; refine Zal 2 fun b2 => ?_; refine Zv Zab ?_) | (refine ZrG 1 ?_; refine Zv Zla ?_; refine Zcl (Enters_fn rfl) (h28 _) ?_; refine Zv Zmb ?_) | (refine WP_cond_true rfl ?_) | (refine WP_cond_false rfl ?_) | (refine Zcd (fun hc => ?_) (fun hc => ?_) <;> (try (exfalso; omega))) | (with_reducible apply WP_skip) | (with_reducible apply WP_block) | (with_reducible apply WP_exit) | (with_reducible apply WP_ret)) | (refine Zhn ?_) | (with_reducible apply QBlock_normal) | (refine Zhx ?_) | (with_reducible apply QBlock_hit) | (refine Zqb ?_) | (with_reducible apply QLoop_exit) | (refine Zhr ?_) | (with_reducible apply QBlock_ret) | (with_reducible apply QLoop_ret))
  refine WP_joinS (by assumption) [5, 6, 44, 45, 46, 47, 48, 49, 50] (fun s : List Sp × List Sp × Option (Nat × Nat) × Option (Nat × Nat) × Nat => [(5, .pointer (some ⟨s.2.2.2.2, 0, none⟩)), (6, svV s.2.2.2.1 n)]) (fun s : List Sp × List Sp × Option (Nat × Nat) × Option (Nat × Nat) × Nat => (s.2.2.2.2, Blk 25 [.int .i64 n, .int .i64 m, .slice g.A1 g.d.ls.length g.c1, svV s.2.2.1 s.2.1.length]) :: svH 53 2 s.2.1.length (s.2.1.map spL).flatten s.2.2.1 (svH 3 1 n (ints (ownsL g.d s.1 n)) s.2.2.2.1 ((b2, Blk 25 [.int .i64 n, .int .i64 m, .slice g.A1 g.d.ls.length g.c1, .slice g.A2 g.d.ms.length g.c2]) :: L))) (fun s : List Sp × List Sp × Option (Nat × Nat) × Option (Nat × Nat) × Nat => s.1 ∈ combos g.d.ls ∧ s.2.1.length ≤ 6 ∧ (∀ k ∈ s.2.1, (0 ≤ k.1 ∧ k.1 < (n : Int)) ∧ ownX g.d s.1 k.1 = k.2) ∧ svOk s.2.2.1 2 s.2.1.length (s.2.1.map spL).flatten ∧ svOk s.2.2.2.1 1 n (ints (ownsL g.d s.1 n))) ?_ ?_
  · intro K' hC
    repeat' (first | (refine GiP ?_; first | (refine Znh ?_) | (with_reducible refine Znl ?_) | (refine Zatd 47 ?_; refine OPS_retKS (Enters_fn rfl) (hdr _) rfl rfl rfl (fun v47 L47 h47 => ?_); obtain ⟨bc, bu, rfl, rfl⟩ := h47) | (refine Zatd 48 ?_; refine OPS_retKS (Enters_fn rfl) (Tri.perm (htr _ bc bu) (by first | exact List.Perm.refl _ | exact perm3b)) rfl rfl rfl (fun v48 L48 h48 => ?_); obtain ⟨x, ms, s3, s4, rfl, hx, hms, hgood, hs3, hs4, rfl⟩ := h48) | (refine Zatd 44 ?_; refine Zv Zmv ?_) | (refine Zatd 49 ?_; refine Zv Zxex ?_) | (refine Zatd 50 ?_; refine Zv Zxex ?_) | (refine Zatd 5 ?_; refine Zal 5 fun b5 => ?_) | (refine Zatn ?_; refine Zst ?_) | (refine Zatd 6 ?_; refine Zv Zav ?_)) | (refine GiW ?_; first | (refine Zsq fun K hK => ?_) | (refine WP_cond_true rfl ?_) | (refine WP_cond_false rfl ?_) | (refine Zcd (fun hc => ?_) (fun hc => ?_) <;> (try (exfalso; omega))) | (with_reducible apply WP_skip) | (with_reducible apply WP_block) | (with_reducible apply WP_exit) | (with_reducible apply WP_ret) | (refine WP_drawnS (id := 3) [0, 1] [0, 1] [] [45, 46] (k := 7) (k2 := 1) (by repeat (first | apply Sub.sv | apply Sub.keep | apply Sub.appK | exact Sub.refl _)) (by kernel_rfl) prog_mixed (by kernel_rfl) (by kernel_rfl) rfl ?_; refine Zew rfl Zla ?_; refine Zew rfl Zmv ?_)) | (with_reducible apply EWalk_nil) | (refine GiC ?_; first | (refine ZgC [0, 1] ?_; refine ZC2 _ 2 [0, 1, 2] 7 [0, 1, 7] ?_ ?_) | (refine ZgC [0, 1, 2] ?_; refine ZC2 _ 3 [0, 1, 2, 3] 7 [0, 1, 2, 7] ?_ ?_) | (refine ZgC [0, 1, 2, 3] ?_; refine ZC2 _ 4 [0, 1, 2, 3, 4] 7 [0, 1, 2, 3, 7] ?_ ?_) | (refine ZgC [0, 1, 2, 3, 4] ?_; refine ZC3 _ 5 [0, 1, 2, 3, 4, 5] 6 [0, 1, 2, 3, 4, 6] 7 [0, 1, 2, 3, 4, 7] ?_ ?_ ?_) | (refine ZgC [0, 1, 2, 3, 4, 5] ?_; refine ZC2 _ 6 [0, 1, 2, 3, 4, 5, 6] 7 [0, 1, 2, 3, 4, 5, 7] ?_ ?_) | (refine ZgC [0, 1, 2, 3, 4, 5, 6] ?_; refine ZC1 _ 7 [0, 1, 2, 3, 4, 5, 6, 7] ?_) | (refine ZgC [0, 1, 2, 3, 4, 5, 6, 7] ?_; refine ZC1 _ 8 [0, 1, 2, 3, 4, 5, 6, 7, 8] ?_) | (refine ZgC [0, 1, 2, 3, 4, 5, 6, 7, 8] ?_; refine ZCl _ ?_) | (refine ZgC [0, 1, 2, 3, 4, 5, 7] ?_; refine ZC2 _ 6 [0, 1, 2, 3, 4, 5, 6, 7] 8 [0, 1, 2, 3, 4, 5, 7, 8] ?_ ?_) | (refine ZgC [0, 1, 2, 3, 4, 5, 7, 8] ?_; refine ZC1 _ 6 [0, 1, 2, 3, 4, 5, 6, 7, 8] ?_) | (refine ZgC [0, 1, 2, 3, 4, 6] ?_; refine ZC2 _ 5 [0, 1, 2, 3, 4, 5, 6] 7 [0, 1, 2, 3, 4, 6, 7] ?_ ?_) | (refine ZgC [0, 1, 2, 3, 4, 6, 7] ?_; refine ZC1 _ 5 [0, 1, 2, 3, 4, 5, 6, 7] ?_) | (refine ZgC [0, 1, 2, 3, 4, 7] ?_; refine ZC2 _ 5 [0, 1, 2, 3, 4, 5, 7] 6 [0, 1, 2, 3, 4, 6, 7] ?_ ?_) | (refine ZgC [0, 1, 2, 3, 7] ?_; refine ZC1 _ 4 [0, 1, 2, 3, 4, 7] ?_) | (refine ZgC [0, 1, 2, 7] ?_; refine ZC1 _ 3 [0, 1, 2, 3, 7] ?_) | (refine ZgC [0, 1, 7] ?_; refine ZC1 _ 2 [0, 1, 2, 7] ?_)) | (refine GiO ?_; first | (refine ZgO [0, 1, 2, 3, 4, 5, 6, 7, 8] ?_; refine ZO1 _ 9 [0, 1, 2, 3, 4, 5, 6, 7, 8, 9] ?_) | (refine ZgO [0, 1, 2, 3, 4, 5, 6, 7, 8, 9] ?_; refine ZOd _ ?_; (try with_reducible apply noP_normal); (try with_reducible exact key.out))) | (refine Zhn ?_) | (with_reducible apply QBlock_normal) | (refine Zhx ?_) | (with_reducible apply QBlock_hit) | (refine Zqb ?_) | (with_reducible apply QLoop_exit) | (refine Zhr ?_) | (with_reducible apply QBlock_ret) | (with_reducible apply QLoop_ret) | (refine AWalk_0 ?_) | (with_reducible apply QAny_normal) | (with_reducible apply QC_normal))
    all_goals exact hC.nor (x, ms, s3, s4, b5) _ _ (.cons rfl (.cons rfl .nil)) (by repeat (first | exact Off.frame rfl | exact Off.refl _ _ | refine Off.frameT rfl rfl ?_ | refine Off.upd rfl ?_ | refine Off.updO rfl ?_)) (by first | exact Sub.refl _ | exact sub_up2 | exact (by repeat (first | exact Sub.nil | exact Sub.refl _ | assumption | exact Sub.left | apply Sub.svK | apply Sub.sv | apply Sub.cons | apply Sub.app))) ⟨hx, hms, hgood, hs3, hs4⟩
  rintro ⟨x, ms, s3, s4, b5⟩ j1 ⟨hx, hms, hgood, hs3, hs4⟩
  dsimp only at hx hms hgood hs3 hs4 ⊢
  clear hdr htr
  have hr := right_of hv hx hms (fun k hk => by rw [hn]; exact hgood k hk)
  obtain ⟨d', hd'⟩ : ∃ d', marksB g.d ms = d' := ⟨_, rfl⟩
  obtain ⟨A9, c9, e9, hin9⟩ := in_ms hA' ms rfl hs3
  rw [show ({ g.d with ms := ms } : Bn) = d' from hd'] at hin9
  rw [hd'] at hr
  have e1 : d'.n = (n : Int) := by rw [← hd']; exact hn
  have e2 : d'.m = (m : Int) := by rw [← hd']; exact hm
  have e3 : d'.ls = g.d.ls := by rw [← hd']; rfl
  have e4 : d'.ms.length = ms.length := by rw [← hd']; rfl
  have hv' := hr.v
  have hvb' := vB_of hv'
  have c27 := fun L h => False_in N w0 L _ (hin9 L h)
  have c29 := fun L h => Clash_in N w0 L _ (hin9 L h)
  have c23 := fun L h => Count_in N w0 L _ (hin9 L h)
  have c25 := fun L h => Ask_in N w0 L _ (hin9 L h)
  have c15 := fun L h p => Whose_in N w0 L _ (hin9 L h) p
  have c21 := fun L h p => Line_in N w0 L _ (hin9 L h) p
  have c17 := fun L h p => Has_in N w0 L _ (hin9 L h) p
  have c19 := fun L h p => Wide_in N w0 L _ (hin9 L h) p
  obtain ⟨z1, z2⟩ := hr.nofalse
  have z3 : FalseN d' = 0 := by unfold FalseN; rw [if_pos hvb', z1]; rfl
  have z4 : FalseV d' = 0 := by unfold FalseV; rw [if_pos hvb', z1]
  have z5 : ClashV d' = 0 := by unfold ClashV; rw [z2]; rfl
  have hpos := hr.pos
  have haf := ask_facts hv'
  rcases haf with ⟨f1, -⟩ | ⟨-, f2, f3, f4, -⟩
  · omega
  obtain ⟨⟨P, W⟩, hPW⟩ : ∃ x, AskV d' = x := ⟨_, rfl⟩
  unfold bkV bkL at c27 c29 c23 c25 c15 c21 c17 c19
  dsimp only at c27 c29 c23 c25 c15 c21 c17 c19
  rw [CountE_of hv', z3, z4] at c27
  rw [z2, z5] at c29
  rw [CountE_of hv', CountV_of hv'] at c23
  rw [f2, hPW] at c25
  rw [hPW] at f3 f4
  dsimp only at c25 f3 f4
  have hb1 := hr.most (p := P)
  rw [f4] at hb1
  have hb0 := hr.mine f3
  have hb2 : (trL d').length ≤ 6561 := by have := ways_bd hv' []; rw [waysN_nil] at this; exact this
  obtain ⟨T, hT⟩ : ∃ T, (trL d').length = T := ⟨_, rfl⟩
  rw [hT] at hpos hb1 hb2 c23
  rw [e1] at f3
  rw [e1, e2, e3, e4] at c27 c29 c23 c25 c15 c21 c17 c19
  rw [e9]
  clear h28 h29
  obtain ⟨Ac, cc, ec, hrc⟩ := RdRows.sv (E := 3) (by omega) hs4
  have hrc2 : ∀ L', Wk L' (svH 3 1 n (ints (ownsL g.d x n)) s4 []) → RdI N w0 L' Ac (ownsL g.d x n) := fun L' hL => hrc N w0 L' (i1 _) hL (ints_flat _) (by intro r hr; simp only [i1, List.mem_map] at hr; obtain ⟨_, _, rfl⟩ := hr; rfl)
  have hol : (ownsL g.d x n).length = n := by simp [ownsL]
  obtain ⟨bC, oC, hC, -⟩ := (hrc2 _ Wk.sv0 : RdI N w0 (svH 3 1 n (ints (ownsL g.d x n)) s4 []) Ac (ownsL g.d x n)).row 0 (by omega)
  have hcq : ∀ q, q < n → ∀ L', Wk L' (svH 3 1 n (ints (ownsL g.d x n)) s4 []) → Rd N w0 L' bC (oC + q) (.int .i64 (ownX g.d x q)) := fun q hqn L' hL => by
    obtain ⟨b', o', h1, h2⟩ := (hrc2 L' hL).row q (by omega)
    rw [hC] at h1
    simp only [Option.some.injEq, Addr.mk.injEq, and_true] at h1
    obtain ⟨rfl, rfl⟩ := h1
    have := h2 L' (Wk.refl _)
    simpa [ownsL] using this
  have hor : ∀ q : Nat, ∃ o : Nat, ownX g.d x q = (o : Int) ∧ o < m + 1 := fun q => by
    have := ownX_range hv x q
    exact ⟨(ownX g.d x q).toNat, by omega, by omega⟩
  have hxx : ∀ q, ownX d' x q = ownX g.d x q := fun q => by rw [← hd']; rfl
  clear hrc hrc2
  rw [ec]
  repeat' (first | (refine GiP ?_; first | (refine Znh ?_) | (with_reducible refine Znl ?_) | (refine Zatd 78 ?_; (first | (refine Zv Zxpt ?_) | (refine Zv Zxpf ?_)); refine Zv Zmb ?_) | (refine Zatd 82 ?_; (first | (refine Zv Zxpt ?_) | (refine Zv Zxpf ?_)); refine Zv Zmb ?_) | (refine Zatd 86 ?_; (first | (refine Zv Zxpt ?_) | (refine Zv Zxpf ?_)); refine Zv Zmb ?_) | (refine Zatd 90 ?_; (first | (refine Zv Zxpt ?_) | (refine Zv Zxpf ?_)); refine Zv Zmb ?_) | (refine Zatd 94 ?_; (first | (refine Zv Zxpt ?_) | (refine Zv Zxpf ?_)); refine Zv Zmb ?_) | (refine Zatd 98 ?_; (first | (refine Zv Zxpt ?_) | (refine Zv Zxpf ?_)); refine Zv Zmb ?_) | (refine Zatd 102 ?_; (first | (refine Zv Zxpt ?_) | (refine Zv Zxpf ?_)); refine Zv Zmb ?_) | (refine Zatd 108 ?_; (first | (refine Zv Zxpt ?_) | (refine Zv Zxpf ?_)); refine Zv Zmb ?_) | (refine Zatd 112 ?_; (first | (refine Zv Zxpt ?_) | (refine Zv Zxpf ?_)); refine Zv Zmb ?_) | (refine Zatd 117 ?_; (first | (refine Zv Zxpt ?_) | (refine Zv Zxpf ?_))) | (refine Zatd 76 ?_; first | refine Zsk ?_ | (refine Zv Zmi ?_)) | (refine Zatd 77 ?_; first | refine Zsk ?_ | (refine Zv Zyneq ?_)) | (refine Zatd 80 ?_; first | refine Zsk ?_ | (refine Zv Zmi ?_)) | (refine Zatd 81 ?_; first | refine Zsk ?_ | (refine Zv Zyneq ?_)) | (refine Zatd 84 ?_; first | refine Zsk ?_ | (refine Zv Zmi ?_)) | (refine Zatd 85 ?_; first | refine Zsk ?_ | (refine Zv Zyneq ?_)) | (refine Zatd 88 ?_; first | refine Zsk ?_ | (refine Zv Zmi ?_)) | (refine Zatd 89 ?_; first | refine Zsk ?_ | (refine Zv Zyneq ?_)) | (refine Zatd 92 ?_; first | refine Zsk ?_ | (refine Zv Zmi ?_)) | (refine Zatd 93 ?_; first | refine Zsk ?_ | (refine Zv Zylss ?_)) | (refine Zatd 96 ?_; first | refine Zsk ?_ | (refine Zv Zmi ?_)) | (refine Zatd 97 ?_; first | refine Zsk ?_ | (refine Zv Zyneq ?_)) | (refine Zatd 100 ?_; first | refine Zsk ?_ | (refine Zv Zmi ?_)) | (refine Zatd 101 ?_; first | refine Zsk ?_ | (refine Zv Zylss ?_)) | (refine Zatd 104 ?_; first | refine Zsk ?_ | (refine Zv Zmi ?_)) | (refine Zatd 105 ?_; first | refine Zsk ?_ | (refine Zv Zf0 ?_)) | (refine Zatd 106 ?_; first | refine Zsk ?_ | (refine Zv Zld ?_)) | (refine Zatd 107 ?_; first | refine Zsk ?_ | (refine Zv Zygeq ?_)) | (refine Zatd 110 ?_; first | refine Zsk ?_ | (refine Zv Zmi ?_)) | (refine Zatd 111 ?_; first | refine Zsk ?_ | (refine Zv Zylss ?_)) | (refine Zatd 114 ?_; first | refine Zsk ?_ | (refine Zv Zmi ?_)) | (refine Zatd 115 ?_; first | refine Zsk ?_ | (refine Zv Zmi ?_)) | (refine Zatd 116 ?_; first | refine Zsk ?_ | (refine Zv Zygtr ?_)) | (refine Zsk ?_) | (refine Zsp (fun hc => ?_) (fun hc => ?_) <;> (try (exfalso; omega)))) | (refine GiW ?_; first | (refine Zsq fun K hK => ?_) | (refine ZrN 4 fun _ => ?_; refine Zv Zla ?_; refine Zcl (Enters_fn rfl) (c27 _ (by repeat (first | exact Sub.nil | exact Sub.refl _ | assumption | exact Sub.left | apply Sub.svK | apply Sub.sv | apply Sub.cons | apply Sub.app))) ?_; refine Zv Zmv ?_; refine Zv Zxex ?_; refine Zv Zxex ?_; refine Zv Zxex ?_; refine Zv Zai ?_; refine Zv Zai ?_; refine Zv Zai ?_) | (refine ZrN 5 fun _ => ?_; refine Zv Zla ?_; refine Zcl (Enters_fn rfl) (c29 _ (by repeat (first | exact Sub.nil | exact Sub.refl _ | assumption | exact Sub.left | apply Sub.svK | apply Sub.sv | apply Sub.cons | apply Sub.app))) ?_; refine Zv Zmv ?_; refine Zv Zxex ?_; refine Zv Zxex ?_; refine Zv Zai ?_; refine Zv Zai ?_) | (refine ZrN 6 fun _ => ?_; refine Zv Zla ?_; refine Zcl (Enters_fn rfl) (c23 _ (by repeat (first | exact Sub.nil | exact Sub.refl _ | assumption | exact Sub.left | apply Sub.svK | apply Sub.sv | apply Sub.cons | apply Sub.app))) ?_; refine Zv Zmv ?_; refine Zv Zxex ?_; refine Zv Zxex ?_; refine Zv Zai ?_; refine Zv Zai ?_) | (refine ZrN 7 fun _ => ?_; refine Zv Zla ?_; refine Zcl (Enters_fn rfl) (c25 _ (by repeat (first | exact Sub.nil | exact Sub.refl _ | assumption | exact Sub.left | apply Sub.svK | apply Sub.sv | apply Sub.cons | apply Sub.app))) ?_; refine Zv Zmv ?_; refine Zv Zxex ?_; refine Zv Zxex ?_; refine Zv Zxex ?_; refine Zv Zai ?_; refine Zv Zai ?_; refine Zv Zai ?_) | (refine ZrG 8 ?_; refine Zv Zmi ?_; refine Zv Zyneq ?_; refine Zv Zmb ?_) | (refine WP_cond_true rfl ?_) | (refine WP_cond_false rfl ?_) | (refine Zcd (fun hc => ?_) (fun hc => ?_) <;> (try (exfalso; omega))) | (with_reducible apply WP_skip) | (with_reducible apply WP_block) | (with_reducible apply WP_exit) | (with_reducible apply WP_ret)) | (refine Zhn ?_) | (with_reducible apply QBlock_normal) | (refine Zhx ?_) | (with_reducible apply QBlock_hit) | (refine Zqb ?_) | (with_reducible apply QLoop_exit) | (refine Zhr ?_) | (with_reducible apply QBlock_ret) | (with_reducible apply QLoop_ret))
  refine WP_gen [2, 5, 6, 12, 14, 15] [(2, .pointer (some ⟨b2, 0, none⟩)), (5, .pointer (some ⟨b5, 0, none⟩)), (6, .slice Ac n cc), (12, .int .i64 (T : Int)), (14, .int .i64 (P : Int)), (15, .int .i64 (W : Int))] (.cons rfl (.cons rfl (.cons rfl (.cons rfl (.cons rfl (.cons rfl .nil)))))) fun e7 => ?_
  clear c27 c29 c23 c25
  repeat' (first | (refine GiP ?_; first | (refine Znh ?_) | (with_reducible refine Znl ?_)) | (refine GiW ?_; first | (refine Zsq fun K hK => ?_) | (refine ZrN 10 fun _ => ?_; refine Zv Zmv ?_; refine Zv Zxlen ?_; refine Zv Zmi ?_) | (refine WP_cond_true rfl ?_) | (refine WP_cond_false rfl ?_) | (refine Zcd (fun hc => ?_) (fun hc => ?_) <;> (try (exfalso; omega))) | (with_reducible apply WP_skip) | (with_reducible apply WP_block) | (with_reducible apply WP_exit) | (with_reducible apply WP_ret)) | (refine Zhn ?_) | (with_reducible apply QBlock_normal) | (refine Zhx ?_) | (with_reducible apply QBlock_hit) | (refine Zqb ?_) | (with_reducible apply QLoop_exit) | (refine Zhr ?_) | (with_reducible apply QBlock_ret) | (with_reducible apply QLoop_ret))
  refine WP_loop [4, 17, 18, 19, 20, 21, 22, 23, 120, 121, 122, 123, 124, 125, 126, 127, 128, 129, 130, 131, 132, 133, 134, 135, 136, 137, 138, 139, 140, 141, 142, 143, 144, 145, 146, 147, 148, 149, 150, 151, 152, 153, 154, 155, 156, 157, 158, 159, 160, 161, 162, 163, 164, 165, 166, 167, 168, 169, 170, 171, 172, 173, 174, 175, 176, 177, 178, 179, 180] (fun k : Nat => [(120, .int .i64 (k : Int))]) (fun _ => _) (fun k => k ≤ n) (fun k => n - k) 0 (.cons rfl .nil) (Wk.refl _) (Nat.zero_le _) ?_
  intro p j2 hp
  by_cases hpn : p < n
  · obtain ⟨o, ho, hom⟩ := hor p
    have hl := fun L h => c15 L h (p : Int)
    have i1' : inB (p : Int) 0 ((n : Int) - 1) = true := decide_eq_true (by omega)
    have he : errT d' true = 0 := errT_0 hvb' rfl (by omega)
    have k1 : WhoseV d' (p : Int) = whoS d' p := by unfold WhoseV; rw [e1, i1', he]; rfl
    rw [i1', he, k1] at hl
    have u1 := hr.who (p := p) (by rw [e1]; omega) (o := o) (by rw [hxx]; exact ho)
    have u2 := who_lt d' (p : Int)
    rw [show d'.m.toNat = m by omega] at u2
    obtain ⟨l, hlw⟩ : ∃ l, whoS d' p = l := ⟨_, rfl⟩
    rw [hlw] at u1 u2 hl
    have b2' : 2 ^ (m + 1) ≤ 2 ^ 5 := Nat.pow_le_pow_right (by omega) (by omega)
    have l0 : l / 2 ^ (m + 1) = 0 := Nat.div_eq_of_lt u2
    obtain ⟨lo, hlo⟩ : ∃ r, l / 2 ^ o = r := ⟨_, rfl⟩
    have y1 : lo < 2 ^ 63 := by rw [← hlo]; exact Nat.lt_of_le_of_lt (Nat.div_le_self _ _) (by omega)
    have hlb : lo &&& 1 = 1 := by rw [Nat.and_one_is_mod, ← hlo]; exact u1
    have hcp := hcq p hpn
    rw [ho] at hcp
    repeat' (first | (refine GiP ?_; first | (refine Znh ?_) | (with_reducible refine Znl ?_) | (refine Zatd 139 ?_; (first | (refine Zv Zxpt ?_) | (refine Zv Zxpf ?_)); refine Zv Zmb ?_) | (refine Zatd 147 ?_; (first | (refine Zv Zxpt ?_) | (refine Zv Zxpf ?_))) | (refine Zatd 134 ?_; first | refine Zsk ?_ | (refine Zv Zmi ?_)) | (refine Zatd 135 ?_; first | refine Zsk ?_ | (refine Zv Zmi ?_)) | (refine Zatd 136 ?_; first | refine Zsk ?_ | (refine Zv (Val_shrE hlo (by omega) rfl rfl) ?_) | (refine Zv (Val_shrE l0 (by omega) rfl rfl) ?_)) | (refine Zatd 137 ?_; first | refine Zsk ?_ | (refine Zv (Val_andE hlb y1 (by omega) rfl rfl) ?_)) | (refine Zatd 138 ?_; first | refine Zsk ?_ | (refine Zv (Zyneq) ?_)) | (refine Zatd 141 ?_; first | refine Zsk ?_ | (refine Zv Zmi ?_)) | (refine Zatd 142 ?_; first | refine Zsk ?_ | (refine Zv Zfa ?_)) | (refine Zatd 143 ?_; first | refine Zsk ?_ | (refine Zv (Val_loadD1 rfl (hcp _ (by repeat (first | exact Wk.sv0 | apply Wk.svD | apply Wk.drop)))) ?_) | (refine Zv Zld ?_)) | (refine Zatd 144 ?_; first | refine Zsk ?_ | (refine Zv Zxadd ?_)) | (refine Zatd 145 ?_; first | refine Zsk ?_ | (refine Zv (Val_shrE hlo (by omega) rfl rfl) ?_) | (refine Zv (Val_shrE l0 (by omega) rfl rfl) ?_)) | (refine Zatd 146 ?_; first | refine Zsk ?_ | (refine Zv (Zyneq) ?_)) | (refine Zsk ?_) | (refine Zsp (fun hc => ?_) (fun hc => ?_) <;> (try (exfalso; omega)))) | (refine GiW ?_; first | (refine Zsq fun K hK => ?_) | (refine ZrN 11 fun _ => ?_; refine Zv Zylss ?_) | (refine ZrN 12 fun _ => ?_; refine Zv Zmi ?_; (first | (refine Zv (Val_indexAddrE1 rfl hC rfl rfl hpn) ?_) | (refine Zv Zia ?_)); (first | (refine Zv (Val_loadD1 rfl (hcp _ (by repeat (first | exact Wk.sv0 | apply Wk.svD | apply Wk.drop)))) ?_) | (refine Zv Zld ?_)); refine Zv Zai ?_; refine Zv Zai ?_) | (refine ZrN 13 fun _ => ?_; (first | (refine Zv (Val_loadD1 rfl (hcp _ (by repeat (first | exact Wk.sv0 | apply Wk.svD | apply Wk.drop)))) ?_) | (refine Zv Zla ?_)); refine Zv Zmi ?_; refine Zcl (Enters_fn rfl) (hl _ (by repeat (first | exact Sub.nil | exact Sub.refl _ | assumption | exact Sub.left | apply Sub.svK | apply Sub.sv | apply Sub.cons | apply Sub.app))) ?_; refine Zv Zmv ?_; refine Zv Zxex ?_; refine Zv Zxex ?_; refine Zv Zai ?_; refine Zv Zai ?_) | (refine ZrG 14 ?_; refine Zv Zmi ?_; refine Zv (Zyneq) ?_; refine Zv Zmb ?_) | (refine WP_cond_true rfl ?_) | (refine WP_cond_false rfl ?_) | (refine Zcd (fun hc => ?_) (fun hc => ?_) <;> (try (exfalso; omega))) | (with_reducible apply WP_skip) | (with_reducible apply WP_block) | (with_reducible apply WP_exit) | (with_reducible apply WP_ret)) | (refine Zhn ?_) | (with_reducible apply QBlock_normal) | (refine Zhx ?_) | (with_reducible apply QBlock_hit) | (refine Zqb ?_) | (with_reducible apply QLoop_exit) | (refine Zhr ?_) | (with_reducible apply QBlock_ret) | (with_reducible apply QLoop_ret))
    by_cases hp0 : p = 0
    · subst hp0
      repeat' (first | (refine GiP ?_; first | (refine Znh ?_) | (with_reducible refine Znl ?_)) | (refine GiW ?_; first | (refine Zsq fun K hK => ?_) | (refine ZrN 16 fun _ => ?_; refine Zv Zmi ?_; refine Zv Zygtr ?_) | (refine ZrN 21 fun _ => ?_; refine Zv Zxadd ?_; refine Zv Zmi ?_) | (refine WP_cond_true rfl ?_) | (refine WP_cond_false rfl ?_) | (refine Zcd (fun hc => ?_) (fun hc => ?_) <;> (try (exfalso; omega))) | (with_reducible apply WP_skip) | (with_reducible apply WP_block) | (with_reducible apply WP_exit) | (with_reducible apply WP_ret)) | (refine Zhn ?_) | (with_reducible apply QBlock_normal) | (refine Zhx ?_) | (with_reducible apply QBlock_hit) | (refine Zqb ?_) | (with_reducible apply QLoop_exit) | (refine Zhr ?_) | (with_reducible apply QBlock_ret) | (with_reducible apply QLoop_ret))
      exact QLoop_normal 1 (.cons rfl .nil) (by repeat (first | exact Off.frame rfl | exact Off.refl _ _ | refine Off.frameT rfl rfl ?_ | refine Off.upd rfl ?_ | refine Off.updO rfl ?_)) (by repeat (first | exact Wk.refl _ | apply Wk.keep1 | apply Wk.drop | apply Wk.sv | apply Wk.svD | apply Wk.appD)) (by omega) (by omega)
    · obtain ⟨o2, ho2, -⟩ := hor (p - 1)
      have hpc : ((p - 1 : Nat) : Int) = (p : Int) - 1 := by omega
      have hcp2 := hcq (p - 1) (by omega)
      rw [ho2] at hcp2
      rw [hpc] at ho2
      have i2' : inB (p : Int) 1 ((n : Int) - 1) = true := decide_eq_true (by omega)
      have hln := fun L h => c21 L h (p : Int)
      have k2 : LineV d' (p : Int) = lineS d' p := by unfold LineV; rw [e1, i2', he]; rfl
      rw [i2', he, k2] at hln
      obtain ⟨v1, v2⟩ := hr.line (p := p) (by omega) (by rw [e1]; omega)
      rw [hxx, hxx, ho, ho2] at v1 v2
      have hk3 : lineS d' p = 2 ∨ lineS d' p = 0 ∨ lineS d' p = 1 := by unfold lineS; split; exact .inl rfl; split; exact .inr (.inl rfl); exact .inr (.inr rfl)
      obtain ⟨Q, hQ⟩ : ∃ Q, lineS d' p = Q := ⟨_, rfl⟩
      rw [hQ] at v1 v2 hk3 hln
      have hcs : (Q = 2 ∧ (o2 : Int) ≠ o) ∨ (Q = 0 ∧ o2 = o) ∨ Q = 1 := by
        rcases hk3 with h | h | h
        · exact .inl ⟨h, fun h2 => v1 h h2.symm⟩
        · exact .inr (.inl ⟨h, by have := v2 h; omega⟩)
        · exact .inr (.inr h)
      clear v1 v2 hk3 hQ
      rcases hcs with ⟨rfl, h2⟩ | ⟨rfl, rfl⟩ | rfl
      all_goals
        repeat' (first | (refine GiP ?_; first | (refine Znh ?_) | (with_reducible refine Znl ?_) | (refine Zatd 172 ?_; (first | (refine Zv Zxpt ?_) | (refine Zv Zxpf ?_)); refine Zv Zmb ?_) | (refine Zatd 179 ?_; (first | (refine Zv Zxpt ?_) | (refine Zv Zxpf ?_))) | (refine Zatd 166 ?_; first | refine Zsk ?_ | (refine Zv Zmi ?_)) | (refine Zatd 167 ?_; first | refine Zsk ?_ | (refine Zv Zyeql ?_)) | (refine Zatd 168 ?_; first | refine Zsk ?_ | (refine Zv Zmb ?_)) | (refine Zatd 169 ?_; first | refine Zsk ?_ | (refine Zv Zmb ?_)) | (refine Zatd 170 ?_; first | refine Zsk ?_ | (refine Zv Zxnot ?_)) | (refine Zatd 171 ?_; first | refine Zsk ?_ | (refine Zv Zxpt ?_) | (refine Zv Zxpf ?_)) | (refine Zatd 174 ?_; first | refine Zsk ?_ | (refine Zv Zmi ?_)) | (refine Zatd 175 ?_; first | refine Zsk ?_ | (refine Zv Zyeql ?_)) | (refine Zatd 176 ?_; first | refine Zsk ?_ | (refine Zv Zmb ?_)) | (refine Zatd 177 ?_; first | refine Zsk ?_ | (refine Zv Zmb ?_)) | (refine Zatd 178 ?_; first | refine Zsk ?_ | (refine Zv Zxpt ?_) | (refine Zv Zxpf ?_)) | (refine Zsk ?_) | (refine Zsp (fun hc => ?_) (fun hc => ?_) <;> (try (exfalso; omega)))) | (refine GiW ?_; first | (refine Zsq fun K hK => ?_) | (refine ZrN 16 fun _ => ?_; refine Zv Zmi ?_; refine Zv Zygtr ?_) | (refine ZrN 17 fun _ => ?_; (first | (refine Zv (Val_loadD1 rfl (hcp2 _ (by repeat (first | exact Wk.sv0 | apply Wk.svD | apply Wk.drop)))) ?_) | (refine Zv Zla ?_)); refine Zv Zmi ?_; refine Zcl (Enters_fn rfl) (hln _ (by repeat (first | exact Sub.nil | exact Sub.refl _ | assumption | exact Sub.left | apply Sub.svK | apply Sub.sv | apply Sub.cons | apply Sub.app))) ?_; refine Zv Zmv ?_; refine Zv Zxex ?_; refine Zv Zxex ?_; refine Zv Zai ?_; refine Zv Zai ?_) | (refine ZrN 18 fun _ => ?_; refine Zv Zmv ?_; refine Zv Zmi ?_; refine Zv Zxsub ?_; (first | (refine Zv (Val_indexAddrE1 rfl hC rfl hpc.symm (by omega)) ?_) | (refine Zv Zia ?_)); (first | (refine Zv (Val_loadD1 rfl (hcp2 _ (by repeat (first | exact Wk.sv0 | apply Wk.svD | apply Wk.drop)))) ?_) | (refine Zv Zld ?_)); refine Zv Zmi ?_; refine Zv Zyneq ?_; refine Zv Zab ?_) | (refine ZrG 19 ?_; refine Zv Zmi ?_; refine Zv Zyneq ?_; refine Zv Zmb ?_) | (refine ZrN 21 fun _ => ?_; refine Zv Zxadd ?_; refine Zv Zmi ?_) | (refine WP_cond_true rfl ?_) | (refine WP_cond_false rfl ?_) | (refine Zcd (fun hc => ?_) (fun hc => ?_) <;> (try (exfalso; omega))) | (with_reducible apply WP_skip) | (with_reducible apply WP_block) | (with_reducible apply WP_exit) | (with_reducible apply WP_ret)) | (refine Zhn ?_) | (with_reducible apply QBlock_normal) | (refine Zhx ?_) | (with_reducible apply QBlock_hit) | (refine Zqb ?_) | (with_reducible apply QLoop_exit) | (refine Zhr ?_) | (with_reducible apply QBlock_ret) | (with_reducible apply QLoop_ret))
        exact QLoop_normal (p + 1) (.cons rfl .nil) (by repeat (first | exact Off.frame rfl | exact Off.refl _ _ | refine Off.frameT rfl rfl ?_ | refine Off.upd rfl ?_ | refine Off.updO rfl ?_)) (by repeat (first | exact Wk.refl _ | apply Wk.keep1 | apply Wk.drop | apply Wk.sv | apply Wk.svD | apply Wk.appD)) (by omega) (by omega)
  · have hpe : n = p := by omega
    subst hpe
    clear c15 c21
    have hn0 : d'.n.toNat = n := by omega
    repeat' (first | (refine GiP ?_; first | (refine Znh ?_) | (with_reducible refine Znl ?_)) | (refine GiW ?_; first | (refine Zsq fun K hK => ?_) | (refine ZrN 11 fun _ => ?_; refine Zv Zylss ?_) | (refine ZrN 22 fun _ => ?_; refine Zv Zfa ?_; refine Zv Zld ?_; refine Zv Zxadd ?_; refine Zv Zmi ?_) | (refine WP_cond_true rfl ?_) | (refine WP_cond_false rfl ?_) | (refine Zcd (fun hc => ?_) (fun hc => ?_) <;> (try (exfalso; omega))) | (with_reducible apply WP_skip) | (with_reducible apply WP_block) | (with_reducible apply WP_exit) | (with_reducible apply WP_ret)) | (refine Zhn ?_) | (with_reducible apply QBlock_normal) | (refine Zhx ?_) | (with_reducible apply QBlock_hit) | (refine Zqb ?_) | (with_reducible apply QLoop_exit) | (refine Zhr ?_) | (with_reducible apply QBlock_ret) | (with_reducible apply QLoop_ret))
    refine WP_loop [4, 24, 25, 26, 27, 28, 29, 30, 31, 32, 33, 184, 185, 186, 187, 188, 189, 190, 191, 192, 193, 194, 195, 196, 197, 198, 199, 200, 201, 202, 203, 204, 205, 206, 207, 208, 209, 210, 211, 212, 213, 214, 215, 216, 217, 218, 219, 220, 221, 222, 223, 224, 225, 226, 227, 228, 229, 230, 231, 232, 233, 234, 235, 236, 237, 238, 239, 240, 241, 242, 243, 244, 245, 246, 247] (fun k : Nat => [(184, .int .i64 (k : Int))]) (fun _ => _) (fun k => k ≤ m + 1) (fun k => m + 1 - k) 0 (.cons rfl .nil) (Wk.refl _) (Nat.zero_le _) ?_
    intro o j3 hom
    by_cases hlt : o < m + 1
    · have he : errT d' true = 0 := f2
      have i3 : inB (o : Int) 0 (m : Int) = true := decide_eq_true (by omega)
      have hh := fun L h => c17 L h (o : Int)
      have hw := fun L h => c19 L h (o : Int)
      have k1 : SureV d' (o : Int) = surS d' o := by unfold SureV; rw [e2, i3, he]; rfl
      have k2 : PerhV d' (o : Int) = perS d' o := by unfold PerhV; rw [e2, i3, he]; rfl
      have k3 : WideV d' (o : Int) = wideS d' o := by unfold WideV; rw [e2, i3, he]; rfl
      rw [i3, he, k1, k2] at hh
      rw [i3, he, k3] at hw
      obtain ⟨S, hS⟩ : ∃ S, surS d' o = S := ⟨_, rfl⟩
      obtain ⟨P2, hP2⟩ : ∃ S, perS d' o = S := ⟨_, rfl⟩
      obtain ⟨⟨wl, wh⟩, hW2⟩ : ∃ S, wideS d' o = S := ⟨_, rfl⟩
      have sw := hr.wide (o : Int)
      rw [hW2] at sw hw
      rw [hS, hP2] at hh
      dsimp only at sw hw
      obtain ⟨hf, hhf⟩ : ∃ f : Nat → Bool, (fun q : Nat => decide (ownX d' x q = (o : Int))) = f := ⟨_, rfl⟩
      have hfq : ∀ q : Nat, hf q = decide (ownX d' x q = (o : Int)) := fun q => by rw [← hhf]
      have s10 : ∀ k, k ≤ n → bitsOf hf k < 2 ^ 10 := fun k hk => Nat.lt_of_lt_of_le (bitsOf_lt _ _) (Nat.pow_le_pow_right (by omega) (by omega))
      have S10 : S < 2 ^ 10 := by rw [← hS]; exact Nat.lt_of_lt_of_le (sur_lt _ _) (Nat.pow_le_pow_right (by omega) (by omega))
      have P10 : P2 < 2 ^ 10 := by rw [← hP2]; exact Nat.lt_of_lt_of_le (per_lt _ _) (Nat.pow_le_pow_right (by omega) (by omega))
      have hz1 : S &&& (2 ^ 64 - 1 - bitsOf hf n) = 0 := by
        refine andNot_zero (by have := s10 n (Nat.le_refl _); omega) fun j hj => ?_
        rw [← hS] at hj
        have := hr.sure hj
        rw [bitsOf_bit, hfq]
        exact ⟨by omega, decide_eq_true this.2⟩
      have hz2 : bitsOf hf n &&& (2 ^ 64 - 1 - P2) = 0 := by
        refine andNot_zero (by omega) fun j hj => ?_
        rw [bitsOf_bit, hfq, decide_eq_true_eq] at hj
        rw [← hP2]
        exact hr.perh (by omega) hj.2
      have hcn : cntX d' (o : Int) x = (((List.range n).filter hf).length : Nat) := by
        unfold cntX
        rw [hn0, ← hhf]
      rw [hcn] at sw
      have hcb : ∀ k, ((List.range k).filter hf).length ≤ k := fun k => by
        have := List.length_filter_le hf (List.range k)
        rw [List.length_range] at this
        exact this
      clear c17 c19 k1 k2 k3 hS hP2 hW2 hcn i3 hhf
      repeat' (first | (refine GiP ?_; first | (refine Znh ?_) | (with_reducible refine Znl ?_)) | (refine GiW ?_; first | (refine Zsq fun K hK => ?_) | (refine ZrN 23 fun _ => ?_; refine Zv Zylss ?_) | (refine ZrN 24 fun _ => ?_; refine Zv Zmi ?_; refine Zv Zai ?_) | (refine ZrN 25 fun _ => ?_; refine Zv Zla ?_; refine Zv Zmi ?_; refine Zcl (Enters_fn rfl) (hh _ (by repeat (first | exact Sub.nil | exact Sub.refl _ | assumption | exact Sub.left | apply Sub.svK | apply Sub.sv | apply Sub.cons | apply Sub.app))) ?_; refine Zv Zmv ?_; refine Zv Zxex ?_; refine Zv Zxex ?_; refine Zv Zxex ?_; refine Zv Zai ?_; refine Zv Zai ?_; refine Zv Zai ?_) | (refine ZrN 26 fun _ => ?_; refine Zv Zla ?_; refine Zv Zmi ?_; refine Zcl (Enters_fn rfl) (hw _ (by repeat (first | exact Sub.nil | exact Sub.refl _ | assumption | exact Sub.left | apply Sub.svK | apply Sub.sv | apply Sub.cons | apply Sub.app))) ?_; refine Zv Zmv ?_; refine Zv Zxex ?_; refine Zv Zxex ?_; refine Zal 28 fun b28 => ?_; refine Zst ?_; refine Zv Zai ?_) | (refine ZrN 27 fun _ => ?_; refine Zv Zai ?_; refine Zv Zai ?_) | (refine ZrN 28 fun _ => ?_; refine Zv Zmv ?_; refine Zv Zxlen ?_; refine Zv Zmi ?_) | (refine WP_cond_true rfl ?_) | (refine WP_cond_false rfl ?_) | (refine Zcd (fun hc => ?_) (fun hc => ?_) <;> (try (exfalso; omega))) | (with_reducible apply WP_skip) | (with_reducible apply WP_block) | (with_reducible apply WP_exit) | (with_reducible apply WP_ret)) | (refine Zhn ?_) | (with_reducible apply QBlock_normal) | (refine Zhx ?_) | (with_reducible apply QBlock_hit) | (refine Zqb ?_) | (with_reducible apply QLoop_exit) | (refine Zhr ?_) | (with_reducible apply QBlock_ret) | (with_reducible apply QLoop_ret))
      refine WP_loop [30, 31, 32, 33, 202, 203, 204, 205, 206, 207, 208, 209, 210, 211, 212, 213, 214, 215, 216] (fun q : Nat => [(202, .int .i64 (q : Int)), (30, .int .i64 (bitsOf hf q : Int)), (31, .int .i64 (((List.range q).filter hf).length : Int))]) (fun _ => _) (fun q => q ≤ n) (fun q => n - q) 0 (.cons rfl (.cons rfl (.cons rfl .nil))) (Wk.refl _) (Nat.zero_le _) ?_
      intro q j4 hq
      have sq := s10 q hq
      by_cases hqn : q < n
      · obtain ⟨oq, hoq, -⟩ := hor q
        have hcp := hcq q hqn
        have hfe := hfq q
        rw [hxx] at hfe
        rw [hoq] at hcp hfe
        have hcb2 := hcb q
        by_cases hqo : (oq : Int) = (o : Int)
        · rw [decide_eq_true hqo] at hfe
          have hor2 := bitsOf_or hfe
          have hlen : (((List.range q).filter hf).length : Int) + 1 = ((((List.range (q + 1)).filter hf).length : Nat) : Int) := by simp [List.range_succ, List.filter_append, hfe]
          have hp5 : 2 ^ q ≤ 2 ^ 10 := Nat.pow_le_pow_right (by omega) (by omega)
          have hvo : ∀ {L e d ty pos af gg x y' t t'} (hx : ev e x = .int .i64 (bitsOf hf q : Int)) (hy : ev e y' = .int .i64 ((2 ^ q : Nat) : Int)), Val Try.prog N w0 L e ⟨d, .binOp .or t x y' t', ty, pos, af, gg⟩ (.int .i64 (bitsOf hf (q + 1) : Int)) := by
            intro L e d ty pos af gg x y' t t' hx hy
            have := Val_orS (P := Try.prog) (N := N) (w0 := w0) (L := L) (d := d) (ty := ty) (pos := pos) (af := af) (g := gg) (t := t) (t' := t') hx hy (by omega) (by omega)
            rw [hor2] at this
            exact this
          repeat' (first | (refine GiP ?_; first | (refine Znh ?_) | (with_reducible refine Znl ?_)) | (refine GiW ?_; first | (refine Zsq fun K hK => ?_) | (refine ZrN 29 fun _ => ?_; refine Zv Zylss ?_) | (refine ZrN 30 fun _ => ?_; refine Zv Zmi ?_; (first | (refine Zv (Val_indexAddrE1 rfl hC rfl rfl hqn) ?_) | (refine Zv Zia ?_)); (first | (refine Zv (Val_loadD1 rfl (hcp _ (by repeat (first | exact Wk.sv0 | apply Wk.svD | apply Wk.drop)))) ?_) | (refine Zv Zld ?_)); refine Zv Zai ?_; refine Zv Zai ?_) | (refine ZrN 31 fun _ => ?_; refine Zv Zmi ?_; refine Zv Zmi ?_; refine Zv Zyeql ?_) | (refine ZrN 32 fun _ => ?_; refine Zv Zmi ?_; refine Zv Zmi ?_; refine Zv (Val_shlS (i := q) rfl rfl (by omega)) ?_; refine Zv (hvo rfl rfl) ?_; refine Zv Zmi ?_; refine Zv Zxadd ?_; refine Zv Zai ?_; refine Zv Zai ?_) | (refine ZrN 33 fun _ => ?_; refine Zv Zxadd ?_; refine Zv Zmi ?_) | (refine WP_cond_true rfl ?_) | (refine WP_cond_false rfl ?_) | (refine Zcd (fun hc => ?_) (fun hc => ?_) <;> (try (exfalso; omega))) | (with_reducible apply WP_skip) | (with_reducible apply WP_block) | (with_reducible apply WP_exit) | (with_reducible apply WP_ret)) | (refine Zhn ?_) | (with_reducible apply QBlock_normal) | (refine Zhx ?_) | (with_reducible apply QBlock_hit) | (refine Zqb ?_) | (with_reducible apply QLoop_exit) | (refine Zhr ?_) | (with_reducible apply QBlock_ret) | (with_reducible apply QLoop_ret))
          exact QLoop_normal (q + 1) (.cons rfl (.cons rfl (.cons (congrArg (Value.int .i64) hlen) .nil))) (by repeat (first | exact Off.frame rfl | exact Off.refl _ _ | refine Off.frameT rfl rfl ?_ | refine Off.upd rfl ?_ | refine Off.updO rfl ?_)) (by repeat (first | exact Wk.refl _ | apply Wk.keep1 | apply Wk.drop | apply Wk.sv | apply Wk.svD | apply Wk.appD)) (by omega) (by omega)
        · rw [decide_eq_false hqo] at hfe
          have hno := bitsOf_no hfe
          have hlen : ((List.range (q + 1)).filter hf).length = ((List.range q).filter hf).length := by simp [List.range_succ, List.filter_append, hfe]
          repeat' (first | (refine GiP ?_; first | (refine Znh ?_) | (with_reducible refine Znl ?_)) | (refine GiW ?_; first | (refine Zsq fun K hK => ?_) | (refine ZrN 29 fun _ => ?_; refine Zv Zylss ?_) | (refine ZrN 30 fun _ => ?_; refine Zv Zmi ?_; (first | (refine Zv (Val_indexAddrE1 rfl hC rfl rfl hqn) ?_) | (refine Zv Zia ?_)); (first | (refine Zv (Val_loadD1 rfl (hcp _ (by repeat (first | exact Wk.sv0 | apply Wk.svD | apply Wk.drop)))) ?_) | (refine Zv Zld ?_)); refine Zv Zai ?_; refine Zv Zai ?_) | (refine ZrN 31 fun _ => ?_; refine Zv Zmi ?_; refine Zv Zmi ?_; refine Zv Zyeql ?_) | (refine ZrN 33 fun _ => ?_; refine Zv Zxadd ?_; refine Zv Zmi ?_) | (refine WP_cond_true rfl ?_) | (refine WP_cond_false rfl ?_) | (refine Zcd (fun hc => ?_) (fun hc => ?_) <;> (try (exfalso; omega))) | (with_reducible apply WP_skip) | (with_reducible apply WP_block) | (with_reducible apply WP_exit) | (with_reducible apply WP_ret)) | (refine Zhn ?_) | (with_reducible apply QBlock_normal) | (refine Zhx ?_) | (with_reducible apply QBlock_hit) | (refine Zqb ?_) | (with_reducible apply QLoop_exit) | (refine Zhr ?_) | (with_reducible apply QBlock_ret) | (with_reducible apply QLoop_ret))
          exact QLoop_normal (q + 1) (.cons rfl (.cons (by rw [hno]; rfl) (.cons (by rw [hlen]; rfl) .nil))) (by repeat (first | exact Off.frame rfl | exact Off.refl _ _ | refine Off.frameT rfl rfl ?_ | refine Off.upd rfl ?_ | refine Off.updO rfl ?_)) (by repeat (first | exact Wk.refl _ | apply Wk.keep1 | apply Wk.drop | apply Wk.sv | apply Wk.svD | apply Wk.appD)) (by omega) (by omega)
      · have hqe : q = n := by omega
        subst hqe
        obtain ⟨hb, hhb⟩ : ∃ hb, bitsOf hf q = hb := ⟨_, rfl⟩
        obtain ⟨cb, hcbe⟩ : ∃ cb, ((List.range q).filter hf).length = cb := ⟨_, rfl⟩
        rw [hhb] at hz1 hz2 sq ⊢
        rw [hcbe] at sw ⊢
        repeat' (first | (refine GiP ?_; first | (refine Znh ?_) | (with_reducible refine Znl ?_) | (refine Zatd 222 ?_; (first | (refine Zv Zxpt ?_) | (refine Zv Zxpf ?_)); refine Zv Zmb ?_) | (refine Zatd 228 ?_; (first | (refine Zv Zxpt ?_) | (refine Zv Zxpf ?_)); refine Zv Zmb ?_) | (refine Zatd 234 ?_; (first | (refine Zv Zxpt ?_) | (refine Zv Zxpf ?_)); refine Zv Zmb ?_) | (refine Zatd 240 ?_; (first | (refine Zv Zxpt ?_) | (refine Zv Zxpf ?_)); refine Zv Zmb ?_) | (refine Zatd 246 ?_; (first | (refine Zv Zxpt ?_) | (refine Zv Zxpf ?_))) | (refine Zatd 220 ?_; first | refine Zsk ?_ | (refine Zv Zmi ?_)) | (refine Zatd 221 ?_; first | refine Zsk ?_ | (refine Zv Zyneq ?_)) | (refine Zatd 224 ?_; first | refine Zsk ?_ | (refine Zv Zmi ?_)) | (refine Zatd 225 ?_; first | refine Zsk ?_ | (refine Zv Zmi ?_)) | (refine Zatd 226 ?_; first | refine Zsk ?_ | (refine Zv (Val_andNotE hz1 (by omega) (by omega) rfl rfl) ?_) | (refine Zv (Val_andNotE hz2 (by omega) (by omega) rfl rfl) ?_)) | (refine Zatd 227 ?_; first | refine Zsk ?_ | (refine Zv Zyneq ?_)) | (refine Zatd 230 ?_; first | refine Zsk ?_ | (refine Zv Zmi ?_)) | (refine Zatd 231 ?_; first | refine Zsk ?_ | (refine Zv Zmi ?_)) | (refine Zatd 232 ?_; first | refine Zsk ?_ | (refine Zv (Val_andNotE hz1 (by omega) (by omega) rfl rfl) ?_) | (refine Zv (Val_andNotE hz2 (by omega) (by omega) rfl rfl) ?_)) | (refine Zatd 233 ?_; first | refine Zsk ?_ | (refine Zv Zyneq ?_)) | (refine Zatd 236 ?_; first | refine Zsk ?_ | (refine Zv Zmi ?_)) | (refine Zatd 237 ?_; first | refine Zsk ?_ | (refine Zv Zf0 ?_)) | (refine Zatd 238 ?_; first | refine Zsk ?_ | (refine Zv Zld ?_)) | (refine Zatd 239 ?_; first | refine Zsk ?_ | (refine Zv Zylss ?_)) | (refine Zatd 242 ?_; first | refine Zsk ?_ | (refine Zv Zmi ?_)) | (refine Zatd 243 ?_; first | refine Zsk ?_ | (refine Zv Zfa ?_)) | (refine Zatd 244 ?_; first | refine Zsk ?_ | (refine Zv Zld ?_)) | (refine Zatd 245 ?_; first | refine Zsk ?_ | (refine Zv Zygtr ?_)) | (refine Zsk ?_) | (refine Zsp (fun hc => ?_) (fun hc => ?_) <;> (try (exfalso; omega)))) | (refine GiW ?_; first | (refine Zsq fun K hK => ?_) | (refine ZrN 29 fun _ => ?_; refine Zv Zylss ?_) | (refine ZrG 34 ?_; refine Zv Zmi ?_; refine Zv Zyneq ?_; refine Zv Zmb ?_) | (refine ZrN 36 fun _ => ?_; refine Zv Zxadd ?_; refine Zv Zmi ?_) | (refine WP_cond_true rfl ?_) | (refine WP_cond_false rfl ?_) | (refine Zcd (fun hc => ?_) (fun hc => ?_) <;> (try (exfalso; omega))) | (with_reducible apply WP_skip) | (with_reducible apply WP_block) | (with_reducible apply WP_exit) | (with_reducible apply WP_ret)) | (refine Zhn ?_) | (with_reducible apply QBlock_normal) | (refine Zhx ?_) | (with_reducible apply QBlock_hit) | (refine Zqb ?_) | (with_reducible apply QLoop_exit) | (refine Zhr ?_) | (with_reducible apply QBlock_ret) | (with_reducible apply QLoop_ret))
        exact QLoop_normal (o + 1) (.cons rfl .nil) (by repeat (first | exact Off.frame rfl | exact Off.refl _ _ | refine Off.frameT rfl rfl ?_ | refine Off.upd rfl ?_ | refine Off.updO rfl ?_)) (by repeat (first | exact Wk.refl _ | apply Wk.keep1 | apply Wk.drop | apply Wk.sv | apply Wk.svD | apply Wk.appD)) (by omega) (by omega)
    · by_cases h6 : ms.length = 6
      · have h6' : (ms.length : Int) = 6 := by omega
        repeat' (first | (refine GiP ?_; first | (refine Znh ?_) | (with_reducible refine Znl ?_)) | (refine GiW ?_; first | (refine Zsq fun K hK => ?_) | (refine ZrN 23 fun _ => ?_; refine Zv Zylss ?_) | (refine ZrN 37 fun _ => ?_; refine Zv Zfa ?_; refine Zv Zld ?_; refine Zv Zxlen ?_; refine Zv Zyeql ?_) | (refine ZrN 38 fun _ => ?_; refine Zcl (Enters_fn rfl) (h13 _) ?_; refine Zv Zab ?_) | (refine WP_cond_true rfl ?_) | (refine WP_cond_false rfl ?_) | (refine Zcd (fun hc => ?_) (fun hc => ?_) <;> (try (exfalso; omega))) | (with_reducible apply WP_skip) | (with_reducible apply WP_block) | (with_reducible apply WP_exit) | (with_reducible apply WP_ret)) | (refine Zhn ?_) | (with_reducible apply QBlock_normal) | (refine Zhx ?_) | (with_reducible apply QBlock_hit) | (refine Zqb ?_) | (with_reducible apply QLoop_exit) | (refine Zhr ?_) | (with_reducible apply QBlock_ret) | (with_reducible apply QLoop_ret))
        exact QBody_ret1 rfl (rfl : _ = Value.bool _) ⟨rfl, (by repeat (first | exact Wk.refl _ | apply Wk.keep1 | apply Wk.drop | apply Wk.sv | apply Wk.svD | apply Wk.appD))⟩
      · obtain ⟨oP, hoP, hoPm⟩ := hor P
        have hcp := hcq P (by omega)
        rw [hoP] at hcp
        rw [hxx, hoP] at hb0 hb1
        obtain ⟨WW, hWW⟩ : ∃ W, waysN d' [.mine (P : Int) oP] = W := ⟨_, rfl⟩
        have hwt := fun L h => with_in N w0 L _ (hin9 L h) (by show A9 = none → d'.ms.length = 0; rw [e4]; exact fun hn => sv_none hs3 e9 hn) (by show d'.ms.length ≤ 40; omega) ((P : Int), (oP : Int))
        have hcw := fun L g' hd h => countW5 N w0 L g' h d' hv' (P : Int) oP hd (by omega) ⟨by omega, by omega⟩ ⟨by omega, by omega⟩
        rw [hWW] at hb0 hb1 hcw
        unfold bkV bkL spL at hwt
        unfold bkV bkL at hcw
        dsimp only at hwt
        rw [e1, e2, e3, e4] at hwt
        repeat' (first | (refine GiP ?_; first | (refine Znh ?_) | (with_reducible refine Znl ?_) | (refine Zatd 261 ?_; refine OPS_retKS (Enters_fn rfl) (hwt _ (by repeat (first | exact Sub.nil | exact Sub.refl _ | assumption | exact Sub.left | apply Sub.svK | apply Sub.sv | apply Sub.cons | apply Sub.app))) rfl rfl rfl (fun v18 L18 h18 => ?_); obtain ⟨g18, X18, rfl, hd18, hA18, hc18, rfl, hin18⟩ := h18) | (refine Zatd 262 ?_; refine OPS_retS (Enters_fn rfl) (hcw _ g18 hd18 hin18) rfl rfl rfl ?_) | (refine Zatd 253 ?_; refine Zv Zmv ?_) | (refine Zatd 263 ?_; refine Zv Zxex ?_) | (refine Zatd 264 ?_; refine Zv Zxex ?_) | (refine Zatd 34 ?_; refine Zv Zai ?_) | (refine Zatd 35 ?_; refine Zv Zai ?_)) | (refine GiW ?_; first | (refine Zsq fun K hK => ?_) | (refine ZrN 23 fun _ => ?_; refine Zv Zylss ?_) | (refine ZrN 37 fun _ => ?_; refine Zv Zfa ?_; (first | (refine Zv (Val_loadD1 rfl (hcp _ (by repeat (first | exact Wk.sv0 | apply Wk.svD | apply Wk.drop)))) ?_) | (refine Zv Zld ?_)); refine Zv Zxlen ?_; refine Zv Zyeql ?_) | (refine WP_cond_true rfl ?_) | (refine WP_cond_false rfl ?_) | (refine Zcd (fun hc => ?_) (fun hc => ?_) <;> (try (exfalso; omega))) | (with_reducible apply WP_skip) | (with_reducible apply WP_block) | (with_reducible apply WP_exit) | (with_reducible apply WP_ret) | (refine WP_drawnS (id := 39) (B := (b5, Blk 25 [.int .i64 n, .int .i64 m, .slice g.A1 g.d.ls.length g.c1, .slice A9 ms.length c9]) :: svH 53 2 ms.length (ms.map spL).flatten s3 (svH 3 1 n (ints (ownsL g.d x n)) s4 ((b2, Blk 25 [.int .i64 n, .int .i64 m, .slice g.A1 g.d.ls.length g.c1, .slice g.A2 g.d.ms.length g.c2]) :: L))) [] [0, 1, 2, 3, 4, 5, 6] [] [] (k := 0) (k2 := 7) (by repeat (first | exact Sub.refl _ | apply Sub.keep | apply Sub.appK | apply Sub.sv | apply Sub.cons | apply Sub.app)) (by kernel_rfl) prog_mixed (by kernel_rfl) (by kernel_rfl) rfl ?_; (first | (refine Zew rfl (Val_loadD1 rfl (hcp _ (by repeat (first | exact Wk.sv0 | apply Wk.svD | apply Wk.drop)))) ?_) | (refine Zew rfl Zla ?_)); refine Zew rfl Zmi ?_; refine Zew rfl Zmv ?_; refine Zew rfl Zmi ?_; (first | (refine Zew rfl (Val_indexAddrE1 rfl hC rfl rfl (by omega)) ?_) | (refine Zew rfl Zia ?_)); (first | (refine Zew rfl (Val_loadD1 rfl (hcp _ (by repeat (first | exact Wk.sv0 | apply Wk.svD | apply Wk.drop)))) ?_) | (refine Zew rfl Zld ?_)); refine Zew rfl Zxbu ?_)) | (with_reducible apply EWalk_nil) | (refine ZgC [0, 1, 2, 3, 4, 5, 6] ?_; refine ZCl _ ?_) | (refine GiO ?_; first | (refine ZgO [0, 1, 2, 3, 4, 5, 6] ?_; refine ZO1 _ 7 [0, 1, 2, 3, 4, 5, 6, 7] ?_) | (refine ZgO [0, 1, 2, 3, 4, 5, 6, 7] ?_; refine ZO1 _ 8 [0, 1, 2, 3, 4, 5, 6, 7, 8] ?_) | (refine ZgO [0, 1, 2, 3, 4, 5, 6, 7, 8] ?_; refine ZO1 _ 9 [0, 1, 2, 3, 4, 5, 6, 7, 8, 9] ?_) | (refine ZgO [0, 1, 2, 3, 4, 5, 6, 7, 8, 9] ?_; refine ZO2 _ 10 [0, 1, 2, 3, 4, 5, 6, 7, 8, 9, 10] 11 [0, 1, 2, 3, 4, 5, 6, 7, 8, 9, 11] ?_ ?_) | (refine ZgO [0, 1, 2, 3, 4, 5, 6, 7, 8, 9, 10] ?_; refine ZO2 _ 11 [0, 1, 2, 3, 4, 5, 6, 7, 8, 9, 10, 11] 12 [0, 1, 2, 3, 4, 5, 6, 7, 8, 9, 10, 12] ?_ ?_) | (refine ZgO [0, 1, 2, 3, 4, 5, 6, 7, 8, 9, 10, 11] ?_; refine ZO1 _ 12 [0, 1, 2, 3, 4, 5, 6, 7, 8, 9, 10, 11, 12] ?_) | (refine ZgO [0, 1, 2, 3, 4, 5, 6, 7, 8, 9, 10, 11, 12] ?_; refine ZO1 _ 13 [0, 1, 2, 3, 4, 5, 6, 7, 8, 9, 10, 11, 12, 13] ?_) | (refine ZgO [0, 1, 2, 3, 4, 5, 6, 7, 8, 9, 10, 11, 12, 13] ?_; refine ZOd _ ?_; (try with_reducible apply noP_normal); (try with_reducible exact key.out)) | (refine ZgO [0, 1, 2, 3, 4, 5, 6, 7, 8, 9, 10, 12] ?_; refine ZO1 _ 11 [0, 1, 2, 3, 4, 5, 6, 7, 8, 9, 10, 11, 12] ?_) | (refine ZgO [0, 1, 2, 3, 4, 5, 6, 7, 8, 9, 11] ?_; refine ZO1 _ 10 [0, 1, 2, 3, 4, 5, 6, 7, 8, 9, 10, 11] ?_)) | (refine Zhn ?_) | (with_reducible apply QBlock_normal) | (refine Zhx ?_) | (with_reducible apply QBlock_hit) | (refine Zqb ?_) | (with_reducible apply QLoop_exit) | (refine Zhr ?_) | (with_reducible apply QBlock_ret) | (with_reducible apply QLoop_ret) | (refine AWalk_0 ?_) | (with_reducible apply QAny_normal) | (with_reducible apply QC_normal))
        all_goals
          repeat' (first | (refine GiP ?_; first | (refine Znh ?_) | (with_reducible refine Znl ?_) | (refine Zatd 270 ?_; (first | (refine Zv Zxpt ?_) | (refine Zv Zxpf ?_)); refine Zv Zmb ?_) | (refine Zatd 275 ?_; (first | (refine Zv Zxpt ?_) | (refine Zv Zxpf ?_)); refine Zv Zmb ?_) | (refine Zatd 278 ?_; (first | (refine Zv Zxpt ?_) | (refine Zv Zxpf ?_)); refine Zv Zab ?_) | (refine Zatd 268 ?_; first | refine Zsk ?_ | (refine Zv Zmi ?_)) | (refine Zatd 269 ?_; first | refine Zsk ?_ | (refine Zv Zygeq ?_)) | (refine Zatd 272 ?_; first | refine Zsk ?_ | (refine Zv Zmi ?_)) | (refine Zatd 273 ?_; first | refine Zsk ?_ | (refine Zv Zmi ?_)) | (refine Zatd 274 ?_; first | refine Zsk ?_ | (refine Zv Zyleq ?_)) | (refine Zatd 277 ?_; first | refine Zsk ?_ | (refine Zcl (Enters_fn rfl) (h13 _) ?_)) | (refine Zsk ?_) | (refine Zsp (fun hc => ?_) (fun hc => ?_) <;> (try (exfalso; omega)))) | (refine GiW ?_; first | (refine Zsq fun K hK => ?_) | (refine ZrG 40 ?_; refine Zv Zmi ?_; refine Zv Zyeql ?_; refine Zv Zmb ?_) | (refine WP_cond_true rfl ?_) | (refine WP_cond_false rfl ?_) | (refine Zcd (fun hc => ?_) (fun hc => ?_) <;> (try (exfalso; omega))) | (with_reducible apply WP_skip) | (with_reducible apply WP_block) | (with_reducible apply WP_exit) | (with_reducible apply WP_ret)) | (refine Zhn ?_) | (with_reducible apply QBlock_normal) | (refine Zhx ?_) | (with_reducible apply QBlock_hit) | (refine Zqb ?_) | (with_reducible apply QLoop_exit) | (refine Zhr ?_) | (with_reducible apply QBlock_ret) | (with_reducible apply QLoop_ret))
          exact QBody_ret1 rfl (rfl : _ = Value.bool _) ⟨rfl, (by repeat (first | exact Wk.refl _ | apply Wk.keep1 | apply Wk.drop | apply Wk.sv | apply Wk.svD | apply Wk.appD))⟩
end
end Go.Proofs.Ytakmopiceopcpaa
end

section
namespace Go.Proofs.Ytakmopiceopcpaa
open Go.RowKit
theorem true_all (N : Nat) (w0 : World) (L : Hp) (g : Fg) (hA : BkAt N w0 g) (A : Option Addr) (c : Nat) (us : List Nat) (hB : SlAt N w0 A 1 (u16L us)) (hu : ∀ u ∈ us, u ≤ 65535) : Ret Try.prog N w0 L 6 [bkV g, .slice A us.length c].toArray (.bool true) := by
  cases hvb : vB g.d with
  | false => exact true_law0 N w0 L g hA A us.length c (.inr hvb)
  | true => exact true_law1 N w0 L g hA A c us hB hu hvb
end Go.Proofs.Ytakmopiceopcpaa
end
