/- The bank laws: numbers by remainders. · The bank laws: a bank of which all marks are right. -/
import Derived.Test.YtakmopiceopcpaaC2
import Derived.Test.YtakmopiceopcpaaE2
section
namespace Go.Proofs.Ytakmopiceopcpaa
open Go.RowKit
theorem Val_remI {P : Program} {N : Nat} {w0 : World} {L : Hp} {e : Env} {d : Option Nat} {ty : TypeId} {pos : String} {af : Array Edge} {g : Option (Nat × Bool)} {x y : Operand} {t t' : TypeId} {k : IntKind} {m n q : Int} (hq : m.tmod n = q) (hn : n ≠ 0) (hx : ev e x = .int k m) (hy : ev e y = .int k n) : Val P N w0 L e ⟨d, .binOp .rem t x y t', ty, pos, af, g⟩ (.int k q) := by
  rw [← hq]; exact Val_rem hx hy hn
/-- Bytes, two at a time. -/
def u16L (us : List Nat) : List (List Value) := us.map fun u : Nat => [.int .u16 (u : Int)]
attribute [local irreducible] AnyO AnyB QAny QB EWalk AWalk Ev WP OPS QThen QBlock QScope QLoop QBody Val New Turn Tri Enters PostA Blk Ro
attribute [local irreducible] AnyC QC
section
variable (N : Nat) (w0 : World)
set_option maxHeartbeats 1000000 in
theorem drawn_tri (L L' : Hp) (b1 b2 : Nat) (A : Option Addr) (c : Nat) (us : List Nat) (hA : SlAt N w0 A 1 (u16L us)) (hu : ∀ u ∈ us, u ≤ 65535) (m : Int) (hs : 1 ≤ m ∧ m ≤ 200) (a : Int) (ha : 0 ≤ a ∧ a ≤ 1000)
    (hup : Up L b1 (Blk 3 [.int .i64 a]) (Blk 3 [.int .i64 (a + 1)]) L') (hm1 : Mem b1 (Blk 3 [.int .i64 a]) L) (hm1' : Mem b1 (Blk 3 [.int .i64 (a + 1)]) L') (hm : Mem b2 (Blk 46 [.slice A us.length c]) L) (hm' : Mem b2 (Blk 46 [.slice A us.length c]) L') :
    Tri Try.prog N w0 L 90 [.int .i64 m, .pointer (some ⟨b1, 0, none⟩), .pointer (some ⟨b2, 0, none⟩)].toArray fun x L2 => ∃ v, x = .returned v ∧ ∃ z : Int, v = .int .i64 z ∧ (0 ≤ z ∧ z < m) ∧ L2 = L' := by
  refine Tri.fgt ?_
  refine tri_of_WP Try.func90 rfl (n := _) rfl (by simp) ?_
  by_cases h0 : us.length = 0
  · obtain ⟨q, hq, hq1⟩ : ∃ q : Int, (a + 1).tmod m = q ∧ 0 ≤ q ∧ q < m := by
      refine ⟨_, rfl, ?_, ?_⟩
      · rw [Int.tmod_eq_emod_of_nonneg (by omega)]; exact Int.emod_nonneg _ (by omega)
      · rw [Int.tmod_eq_emod_of_nonneg (by omega)]
        exact Int.emod_lt_of_pos _ (by omega)
    repeat' (first | (refine GiP ?_; first | (refine Znh ?_) | (with_reducible refine Znl ?_)) | (refine GiW ?_; first | (refine Zsq fun K hK => ?_) | (refine ZrN 0 fun _ => ?_; refine Zv Zai ?_) | (refine ZrN 1 fun _ => ?_; refine Zv Zld ?_; refine Zv Zxadd ?_; refine OPS_turnN (Turn_store rfl rfl hup rfl (by repeat (first | exact Over.nil | apply Over.cons | apply PutAt.there | apply PutAt.here)) (by rfl) rfl) rfl rfl ?_) | (refine ZrN 2 fun _ => ?_; refine Zv Zld ?_; refine Zv Zxlen ?_; refine Zv Zyeql ?_) | (refine ZrN 3 fun _ => ?_; refine Zv Zld ?_; refine Zv Zmi ?_; refine Zv (Val_remI hq (by omega) rfl rfl) ?_; refine Zv Zai ?_) | (refine WP_cond_true rfl ?_) | (refine WP_cond_false rfl ?_) | (refine Zcd (fun hc => ?_) (fun hc => ?_) <;> (try (exfalso; omega))) | (with_reducible apply WP_skip) | (with_reducible apply WP_ret)) | (refine Zhn ?_) | (refine Zhr ?_))
    exact QBody_ret1 rfl (rfl : _ = Value.int _ _) ⟨L', (by repeat (first | exact Wk.refl _ | apply Wk.keep1 | apply Wk.drop | apply Wk.sv | apply Wk.svD | apply Wk.appD)), _, rfl, _, rfl, by omega, rfl⟩
  · obtain ⟨i, hi, hil⟩ : ∃ i : Nat, (a + 1).tmod (us.length : Int) = (i : Int) ∧ i < us.length := by
      refine ⟨((a + 1) % (us.length : Int)).toNat, ?_, ?_⟩
      · rw [Int.tmod_eq_emod_of_nonneg (by omega)]
        have := Int.emod_nonneg (a + 1) (show (us.length : Int) ≠ 0 by omega)
        omega
      · have := Int.emod_lt_of_pos (a + 1) (show (0 : Int) < us.length by omega)
        omega
    obtain ⟨bA, oA, hA1, hbA, hcA0⟩ := SlAt.one (f := fun u : Nat => Value.int .u16 (u : Int)) hA i hil
    obtain ⟨u, hue⟩ : ∃ u, us[i] = u := ⟨_, rfl⟩
    have hub := hu u (by rw [← hue]; exact List.getElem_mem hil)
    rw [hue] at hcA0
    obtain ⟨q, hq, hq1⟩ : ∃ q : Int, ((u : Int) + 59 * (a + 1)).tmod m = q ∧ 0 ≤ q ∧ q < m := by
      refine ⟨_, rfl, ?_, ?_⟩
      · rw [Int.tmod_eq_emod_of_nonneg (by omega)]; exact Int.emod_nonneg _ (by omega)
      · rw [Int.tmod_eq_emod_of_nonneg (by omega)]
        have := Int.emod_lt_of_pos ((u : Int) + 59 * (a + 1)) (show 0 < m by omega)
        omega
    have hne : (us.length : Int) ≠ 0 := by omega
    repeat' (first | (refine GiP ?_; first | (refine Znh ?_) | (with_reducible refine Znl ?_)) | (refine GiW ?_; first | (refine Zsq fun K hK => ?_) | (refine ZrN 0 fun _ => ?_; refine Zv Zai ?_) | (refine ZrN 1 fun _ => ?_; (first | (refine Zv (Val_loadR1 rfl hbA hcA0) ?_) | (refine Zv Zld ?_)); refine Zv Zxadd ?_; refine OPS_turnN (Turn_store rfl rfl hup rfl (by repeat (first | exact Over.nil | apply Over.cons | apply PutAt.there | apply PutAt.here)) (by rfl) rfl) rfl rfl ?_) | (refine ZrN 2 fun _ => ?_; (first | (refine Zv (Val_loadR1 rfl hbA hcA0) ?_) | (refine Zv Zld ?_)); refine Zv Zxlen ?_; refine Zv Zyeql ?_) | (refine WP_cond_true rfl ?_) | (refine WP_cond_false rfl ?_) | (refine Zcd (fun hc => ?_) (fun hc => ?_) <;> (try (exfalso; omega))) | (with_reducible apply WP_skip) | (with_reducible apply WP_ret) | (refine WP_drawn (id := 4) [0, 1, 2, 3, 4, 5, 6, 7, 8, 9, 10, 11, 12, 13] [] (k := 0) prog_mixed (by kernel_rfl) rfl ?_; (first | (refine Zew rfl (Val_loadR1 rfl hbA hcA0) ?_) | (refine Zew rfl Zld ?_)); (first | (refine Zew rfl (Val_loadR1 rfl hbA hcA0) ?_) | (refine Zew rfl Zld ?_)); (first | (refine Zew rfl (Val_loadR1 rfl hbA hcA0) ?_) | (refine Zew rfl Zld ?_)); refine Zew rfl Zxlen ?_; (first | (refine Zew rfl (Val_remI hi hne rfl rfl) ?_) | (refine Zew rfl (Val_remI hq (by omega) rfl rfl) ?_)); (first | (refine Zew rfl (Val_indexAddrE1 rfl hA1 rfl rfl hil) ?_) | (refine Zew rfl Zia ?_)); (first | (refine Zew rfl (Val_loadR1 rfl hbA hcA0) ?_) | (refine Zew rfl Zld ?_)); (first | (refine Zew rfl (Val_convert rfl (InK_i64 (by omega) (by omega))) ?_) | (refine Zew rfl Zxco ?_)); (first | (refine Zew rfl (Val_loadR1 rfl hbA hcA0) ?_) | (refine Zew rfl Zld ?_)); refine Zew rfl Zxmul ?_; refine Zew rfl Zxadd ?_; refine Zew rfl Zmi ?_; (first | (refine Zew rfl (Val_remI hi hne rfl rfl) ?_) | (refine Zew rfl (Val_remI hq (by omega) rfl rfl) ?_)); refine Zew rfl Zai ?_)) | (with_reducible apply EWalk_nil) | (refine AnyO_done (by kernel_rfl) ?_; (try with_reducible apply noP_normal); try with_reducible exact key.out) | (refine Zhn ?_) | (refine Zhr ?_) | (refine AWalk_0 ?_; refine ZisO ?_) | (with_reducible apply QAny_normal))
    exact QBody_ret1 rfl (rfl : _ = Value.int _ _) ⟨L', (by repeat (first | exact Wk.refl _ | apply Wk.keep1 | apply Wk.drop | apply Wk.sv | apply Wk.svD | apply Wk.appD)), _, rfl, _, rfl, by omega, rfl⟩
def drF (b3 b1 : Nat) : Value := .func (.func 90) #[] #[.pointer (some ⟨b3, 0, none⟩), .pointer (some ⟨b1, 0, none⟩)]
theorem draws_tri (L : Hp) (A : Option Addr) (n c : Nat) : Tri Try.prog N w0 L 37 [.slice A n c].toArray fun x L2 => ∃ v, x = .returned v ∧ ∃ b3 b1, v = drF b3 b1 ∧ L2 = (b3, Blk 3 [.int .i64 0]) :: (b1, Blk 46 [.slice A n c]) :: L := by
  refine Tri.fgt ?_
  refine tri_of_WP Try.func37 rfl (n := _) rfl (by simp) ?_
  repeat' (first | (refine GiP ?_; first | (refine Znh ?_) | (with_reducible refine Znl ?_)) | (refine GiW ?_; first | (refine Zsq fun K hK => ?_) | (refine ZrN 0 fun _ => ?_; refine Zal 1 fun b1 => ?_; refine Zv Zav ?_) | (refine ZrN 1 fun _ => ?_; refine Zal 3 fun b3 => ?_; refine Zst ?_) | (refine ZrN 2 fun _ => ?_; refine Zv Val_makeFunc ?_; refine Zv Zav ?_) | (with_reducible apply WP_ret)) | (refine Zhn ?_) | (refine Zhr ?_))
  exact QBody_ret1 rfl (rfl : _ = drF b3 b1) ⟨_, Wk.refl _, _, rfl, _, _, rfl, rfl⟩
end
end Go.Proofs.Ytakmopiceopcpaa
end

section
namespace Go.Proofs.Ytakmopiceopcpaa
open Go.RowKit
theorem combos_snoc : ∀ {ls : List Le} {x : List Sp} {l : Le} {y : Sp}, x ∈ combos ls → y ∈ linesL l → x ++ [y] ∈ combos (ls ++ [l])
  | [], x, l, y, h, hy => by
    have : x = [] := by simpa [combos] using h
    subst this
    exact mem_combos.2 ⟨y, [], rfl, hy, by simp [combos]⟩
  | a :: ls, x, l, y, h, hy => by
    obtain ⟨z, zs, rfl, h1, h2⟩ := mem_combos.1 h
    exact mem_combos.2 ⟨z, zs ++ [y], rfl, h1, combos_snoc h2 hy⟩
attribute [local irreducible] AnyO AnyB QAny QB EWalk AWalk Ev WP OPS QThen QBlock QScope QLoop QBody Val New Turn Tri Enters PostA Blk Ro
attribute [local irreducible] AnyC QC
section
variable (N : Nat) (w0 : World)
set_option maxHeartbeats 8000000 in
theorem truly_tri (L : Hp) (g : Fg) (hA : BkAt N w0 g) (hv : VB g.d) (bc bu : Nat) (A : Option Addr) (c : Nat) (us : List Nat) (hB : SlAt N w0 A 1 (u16L us)) (hu : ∀ u ∈ us, u ≤ 65535) (n : Nat) (hn : g.d.n = n) :
    Tri Try.prog N w0 ((bc, Blk 3 [.int .i64 0]) :: (bu, Blk 46 [.slice A us.length c]) :: L) 36 [bkV g, drF bc bu].toArray fun y L2 => ∃ v, y = .returned v ∧ ∃ (x ms : List Sp) (s3 s4 : Option (Nat × Nat)), v = .tuple [.agg [.int .i64 n, .int .i64 g.d.m, .slice g.A1 g.d.ls.length g.c1, svV s3 ms.length].toArray, svV s4 n].toArray ∧
      x ∈ combos g.d.ls ∧ ms.length ≤ 6 ∧ (∀ k ∈ ms, (0 ≤ k.1 ∧ k.1 < g.d.n) ∧ ownX g.d x k.1 = k.2) ∧ svOk s3 2 ms.length (ms.map spL).flatten ∧ svOk s4 1 n (ints (ownsL g.d x n)) ∧
      L2 = svH 53 2 ms.length (ms.map spL).flatten s3 (svH 3 1 n (ints (ownsL g.d x n)) s4 L) := by
  have hnb := hv.n
  have hnl := hv.nl
  refine Tri.fgt ?_
  refine tri_of_WP Try.func36 rfl (n := _) rfl (by simp) ?_
  unfold bkV bkL drF
  rw [hn]
  repeat' (first | (refine GiP ?_; first | (refine Znh ?_) | (with_reducible refine Znl ?_)) | (refine GiW ?_; first | (refine Zsq fun K hK => ?_) | (refine ZrN 0 fun _ => ?_; refine Zal 2 fun b2 => ?_; refine Zal 4 fun b4 => ?_; refine Zv Zav ?_) | (refine ZrN 1 fun _ => ?_; refine Zv Zav ?_; refine Zv Zav ?_) | (refine ZrN 2 fun _ => ?_; refine Zv Zfa ?_; refine Zv Zld ?_; refine Zv Zxlen ?_; refine Zv Zmi ?_) | (refine WP_cond_true rfl ?_) | (refine WP_cond_false rfl ?_) | (refine Zcd (fun hc => ?_) (fun hc => ?_) <;> (try (exfalso; omega))) | (with_reducible apply WP_skip) | (with_reducible apply WP_block) | (with_reducible apply WP_exit) | (with_reducible apply WP_ret)) | (refine Zhn ?_) | (with_reducible apply QBlock_normal) | (refine Zhx ?_) | (with_reducible apply QBlock_hit) | (refine Zqb ?_) | (with_reducible apply QLoop_exit) | (refine Zhr ?_) | (with_reducible apply QBlock_ret) | (with_reducible apply QLoop_ret))
  refine WP_loop [6, 7, 9, 10, 11, 16, 17, 18, 19, 20, 21, 22, 23, 24, 25, 26, 27, 28, 29, 30, 31, 32, 33, 34, 35, 36, 37, 38, 39, 40, 41, 42, 43, 44, 45, 46, 47, 48, 49, 50, 51, 52, 53, 54, 55, 56, 57, 58, 59, 60, 61, 62, 63] (fun st : Nat × List Sp × Option (Nat × Nat) × Option (Nat × Nat) => [(6, svV st.2.2.1 st.1), (7, svV st.2.2.2 st.1), (16, .int .i64 (st.1 : Int))]) (fun (st : Nat × List Sp × Option (Nat × Nat) × Option (Nat × Nat)) => svH 3 1 st.1 (ints (st.2.1.map (·.2))) st.2.2.2 (svH 3 1 st.1 (ints (st.2.1.map (·.1))) st.2.2.1 ((b4, Blk 25 [.int .i64 0, .int .i64 0, .slice none 0 0, .slice none 0 0]) :: (b2, Blk 25 [.int .i64 n, .int .i64 g.d.m, .slice g.A1 g.d.ls.length g.c1, .slice g.A2 g.d.ms.length g.c2]) :: (bc, Blk 3 [.int .i64 (2 * (st.1 : Int))]) :: (bu, Blk 46 [.slice A us.length c]) :: L)))
    (fun (st : Nat × List Sp × Option (Nat × Nat) × Option (Nat × Nat)) => st.1 ≤ g.d.ls.length ∧ st.2.1 ∈ combos (g.d.ls.take st.1) ∧ svOk st.2.2.1 1 st.1 (ints (st.2.1.map (·.1))) ∧ svOk st.2.2.2 1 st.1 (ints (st.2.1.map (·.2)))) (fun (st : Nat × List Sp × Option (Nat × Nat) × Option (Nat × Nat)) => g.d.ls.length - st.1) (0, [], none, none) (.cons rfl (.cons rfl (.cons rfl .nil))) (Wk.refl _) ⟨Nat.zero_le _, by simp [combos], svOk_nil _, svOk_nil _⟩ ?_
  rintro ⟨k, x, s1, s2⟩ j ⟨hk, hx, hs1, hs2⟩
  dsimp only at hk hx hs1 hs2 ⊢
  by_cases hkl : k < g.d.ls.length
  · obtain ⟨bA, oA, hA1, hbA, hcA⟩ := hA.ls.row k hkl
    obtain ⟨p, hp⟩ : ∃ p, g.d.ls[k] = p := ⟨_, rfl⟩
    have hpv := hv.ls p (by rw [← hp]; exact List.getElem_mem hkl)
    rw [hp] at hcA
    obtain ⟨ph, ⟨f1, f2⟩, t1, t2⟩ := p
    have q1 := hpv.f
    have q2 := hpv.t
    have q3 := hpv.ft
    dsimp only at q1 q2 q3
    have hnext : ∀ y, y ∈ linesL ⟨ph, (f1, f2), (t1, t2)⟩ → x ++ [y] ∈ combos (g.d.ls.take (k + 1)) := fun y hy => by
      rw [List.take_succ_eq_append_getElem hkl, hp]
      exact combos_snoc hx hy
    unfold leL at hcA
    dsimp only at hcA
    repeat' (first | (refine GiP ?_; first | (refine Znh ?_) | (with_reducible refine Znl ?_)) | (refine GiW ?_; first | (refine Zsq fun K hK => ?_) | (refine ZrN 3 fun _ => ?_; refine Zv Zylss ?_) | (refine ZrN 4 fun _ => ?_; refine Zv Zia ?_; refine Zv Zla ?_; refine Zal 9 fun b9 => ?_; refine Zst ?_) | (refine ZrN 5 fun _ => ?_; refine Zv Zfa ?_; refine Zv Zf0 ?_; refine Zv Zld ?_; refine Zv Zfa ?_; refine Zv Zf0 ?_; refine Zv Zld ?_; refine Zv Zxadd ?_; refine Zv Zxmax ?_; refine Zv Zai ?_) | (refine ZrN 6 fun _ => ?_; refine Zv Zmi ?_; refine Zv Zmv ?_; refine Zv Zfa ?_; refine Zv Zfa ?_; refine Zv Zld ?_; refine Zv Zmi ?_; refine Zv Zxsub ?_; refine Zv Zxadd ?_; refine OPS_retKS (Enters_val rfl rfl) (drawn_tri N w0 _ _ bc bu A c us hB hu (t2 - max t1 (f1 + 1) + 1) (by omega) (2 * (k : Int)) (by omega) (by repeat (first | exact Up.here | apply Up.there | apply Up.sv)) (by repeat (first | exact Mem.here | assumption | apply Mem.there | apply Mem.sv | apply Mem.app)) (by repeat (first | exact Mem.here | assumption | apply Mem.there | apply Mem.sv | apply Mem.app)) (by repeat (first | exact Mem.here | assumption | apply Mem.there | apply Mem.sv | apply Mem.app)) (by repeat (first | exact Mem.here | assumption | apply Mem.there | apply Mem.sv | apply Mem.app))) rfl rfl rfl (fun v22 L22 h22 => ?_); obtain ⟨z22, rfl, hz22, rfl⟩ := h22; refine Zv Zxadd ?_; refine Zv Zai ?_) | (refine ZrN 7 fun _ => ?_; refine Zv Zfa ?_; refine Zv Zfa ?_; refine Zv Zld ?_; refine Zv Zmi ?_; refine Zv Zxsub ?_; refine Zv Zxmin ?_; refine Zv Zai ?_) | (refine WP_cond_true rfl ?_) | (refine WP_cond_false rfl ?_) | (refine Zcd (fun hc => ?_) (fun hc => ?_) <;> (try (exfalso; omega))) | (with_reducible apply WP_skip) | (with_reducible apply WP_block) | (with_reducible apply WP_exit) | (with_reducible apply WP_ret)) | (refine Zhn ?_) | (with_reducible apply QBlock_normal) | (refine Zhx ?_) | (with_reducible apply QBlock_hit) | (refine Zqb ?_) | (with_reducible apply QLoop_exit) | (refine Zhr ?_) | (with_reducible apply QBlock_ret) | (with_reducible apply QLoop_ret))
    obtain ⟨K, hK⟩ : ∃ K, max t1 (f1 + 1) + z22 = K := ⟨_, rfl⟩
    have hKb : f1 + 1 ≤ K ∧ t1 ≤ K ∧ K ≤ t2 := by omega
    repeat' (first | (refine GiP ?_; first | (refine Znh ?_) | (with_reducible refine Znl ?_) | (refine Zatd 55 ?_; refine OPS_retKS (Enters_val rfl rfl) (drawn_tri N w0 _ _ bc bu A c us hB hu (min f2 (max t1 (f1 + 1) + z22 - 1) - f1 + 1) (by omega) (2 * (k : Int) + 1) (by omega) (by repeat (first | exact Up.here | apply Up.there | apply Up.sv)) (by repeat (first | exact Mem.here | assumption | apply Mem.there | apply Mem.sv | apply Mem.app)) (by repeat (first | exact Mem.here | assumption | apply Mem.there | apply Mem.sv | apply Mem.app)) (by repeat (first | exact Mem.here | assumption | apply Mem.there | apply Mem.sv | apply Mem.app)) (by repeat (first | exact Mem.here | assumption | apply Mem.there | apply Mem.sv | apply Mem.app))) rfl rfl rfl (fun v55 L55 h55 => ?_); obtain ⟨z55, rfl, hz55, rfl⟩ := h55) | (refine Zatd 56 ?_; refine Zv Zxadd ?_) | (refine Zatd 57 ?_; refine Zal 57 fun b57 => ?_) | (refine Zatd 58 ?_; refine Zag (fun s58 hs58 => ?_)) | (refine Zatd 61 ?_; refine Zal 61 fun b61 => ?_) | (refine Zatd 62 ?_; refine Zag (fun s62 hs62 => ?_)) | (refine Zatd 6 ?_; refine Zv Zav ?_) | (refine Zatd 7 ?_; refine Zv Zav ?_)) | (refine GiW ?_; first | (refine Zsq fun K hK => ?_) | (refine WP_cond_true rfl ?_) | (refine WP_cond_false rfl ?_) | (refine Zcd (fun hc => ?_) (fun hc => ?_) <;> (try (exfalso; omega))) | (with_reducible apply WP_skip) | (with_reducible apply WP_block) | (with_reducible apply WP_exit) | (with_reducible apply WP_ret) | (refine WP_drawnS (id := 8) (B := (b9, Blk 58 [.int .i64 ph, .int .i64 f1, .int .i64 f2, .int .i64 t1, .int .i64 t2]) :: (bu, Blk 46 [.slice A us.length c]) :: L) [0, 1, 2, 3, 4, 5, 6, 7, 8, 9, 10, 15, 16] [0, 1, 2, 3, 4, 5, 6, 7, 8, 9, 10, 15, 16] [] [44, 45, 46, 47, 48, 49, 50, 51, 52, 53, 54, 59, 60] (k := 5) (k2 := 3) (by repeat (first | exact Sub.refl _ | apply Sub.keep | apply Sub.appK | apply Sub.sv | apply Sub.cons | apply Sub.app)) (by kernel_rfl) prog_mixed (by kernel_rfl) (by kernel_rfl) rfl ?_; refine Zew rfl Zmv ?_; refine Zew rfl Zfa ?_; refine Zew rfl Zf0 ?_; refine Zew rfl Zld ?_; refine Zew rfl Zmv ?_; refine Zew rfl Zmi ?_; refine Zew rfl Zfa ?_; refine Zew rfl Zf0 ?_; refine Zew rfl Zld ?_; refine Zew rfl Zxsub ?_; refine Zew rfl Zxadd ?_; refine Zew rfl Zmv ?_; refine Zew rfl Zmi ?_)) | (with_reducible apply EWalk_nil) | (refine GiC ?_; first | (refine ZgC [0, 1, 2, 3, 4, 5, 6, 7, 8, 9, 10, 15, 16] ?_; refine ZC2 _ 11 [0, 1, 2, 3, 4, 5, 6, 7, 8, 9, 10, 15, 16, 11] 17 [0, 1, 2, 3, 4, 5, 6, 7, 8, 9, 10, 15, 16, 17] ?_ ?_) | (refine ZgC [0, 1, 2, 3, 4, 5, 6, 7, 8, 9, 10, 15, 16, 11] ?_; refine ZC2 _ 12 [0, 1, 2, 3, 4, 5, 6, 7, 8, 9, 10, 15, 16, 11, 12] 17 [0, 1, 2, 3, 4, 5, 6, 7, 8, 9, 10, 15, 16, 11, 17] ?_ ?_) | (refine ZgC [0, 1, 2, 3, 4, 5, 6, 7, 8, 9, 10, 15, 16, 11, 12] ?_; refine ZC2 _ 13 [0, 1, 2, 3, 4, 5, 6, 7, 8, 9, 10, 15, 16, 11, 12, 13] 17 [0, 1, 2, 3, 4, 5, 6, 7, 8, 9, 10, 15, 16, 11, 12, 17] ?_ ?_) | (refine ZgC [0, 1, 2, 3, 4, 5, 6, 7, 8, 9, 10, 15, 16, 11, 12, 13] ?_; refine ZC2 _ 14 [0, 1, 2, 3, 4, 5, 6, 7, 8, 9, 10, 15, 16, 11, 12, 13, 14] 17 [0, 1, 2, 3, 4, 5, 6, 7, 8, 9, 10, 15, 16, 11, 12, 13, 17] ?_ ?_) | (refine ZgC [0, 1, 2, 3, 4, 5, 6, 7, 8, 9, 10, 15, 16, 11, 12, 13, 14] ?_; refine ZC1 _ 17 [0, 1, 2, 3, 4, 5, 6, 7, 8, 9, 10, 15, 16, 11, 12, 13, 14, 17] ?_) | (refine ZgC [0, 1, 2, 3, 4, 5, 6, 7, 8, 9, 10, 15, 16, 11, 12, 13, 14, 17] ?_; refine ZCl _ ?_) | (refine ZgC [0, 1, 2, 3, 4, 5, 6, 7, 8, 9, 10, 15, 16, 11, 12, 13, 17] ?_; refine ZC1 _ 14 [0, 1, 2, 3, 4, 5, 6, 7, 8, 9, 10, 15, 16, 11, 12, 13, 14, 17] ?_) | (refine ZgC [0, 1, 2, 3, 4, 5, 6, 7, 8, 9, 10, 15, 16, 11, 12, 17] ?_; refine ZC1 _ 13 [0, 1, 2, 3, 4, 5, 6, 7, 8, 9, 10, 15, 16, 11, 12, 13, 17] ?_) | (refine ZgC [0, 1, 2, 3, 4, 5, 6, 7, 8, 9, 10, 15, 16, 11, 17] ?_; refine ZC1 _ 12 [0, 1, 2, 3, 4, 5, 6, 7, 8, 9, 10, 15, 16, 11, 12, 17] ?_) | (refine ZgC [0, 1, 2, 3, 4, 5, 6, 7, 8, 9, 10, 15, 16, 17] ?_; refine ZC1 _ 11 [0, 1, 2, 3, 4, 5, 6, 7, 8, 9, 10, 15, 16, 11, 17] ?_)) | (refine GiO ?_; first | (refine ZgO [0, 1, 2, 3, 4, 5, 6, 7, 8, 9, 10, 15, 16, 11, 12, 13, 14, 17] ?_; refine ZO1 _ 18 [0, 1, 2, 3, 4, 5, 6, 7, 8, 9, 10, 15, 16, 11, 12, 13, 14, 17, 18] ?_) | (refine ZgO [0, 1, 2, 3, 4, 5, 6, 7, 8, 9, 10, 15, 16, 11, 12, 13, 14, 17, 18] ?_; refine ZO1 _ 19 [0, 1, 2, 3, 4, 5, 6, 7, 8, 9, 10, 15, 16, 11, 12, 13, 14, 17, 18, 19] ?_) | (refine ZgO [0, 1, 2, 3, 4, 5, 6, 7, 8, 9, 10, 15, 16, 11, 12, 13, 14, 17, 18, 19] ?_; refine ZO1 _ 20 [0, 1, 2, 3, 4, 5, 6, 7, 8, 9, 10, 15, 16, 11, 12, 13, 14, 17, 18, 19, 20] ?_) | (refine ZgO [0, 1, 2, 3, 4, 5, 6, 7, 8, 9, 10, 15, 16, 11, 12, 13, 14, 17, 18, 19, 20] ?_; refine ZOd _ ?_; (try with_reducible apply noP_normal); (try with_reducible exact key.out))) | (refine Zhn ?_) | (with_reducible apply QBlock_normal) | (refine Zhx ?_) | (with_reducible apply QBlock_hit) | (refine Zqb ?_) | (with_reducible apply QLoop_exit) | (refine Zhr ?_) | (with_reducible apply QBlock_ret) | (with_reducible apply QLoop_ret) | (refine AWalk_0 ?_) | (with_reducible apply QAny_normal) | (with_reducible apply QC_normal))
    all_goals
      have hy := hnext (f1 + z55, max t1 (f1 + 1) + z22) (mem_linesL.2 ⟨by dsimp only; omega, by dsimp only; omega, by dsimp only; omega⟩)
      have hi1 : ints ((x ++ [(f1 + z55, max t1 (f1 + 1) + z22)]).map (·.1)) = ints (x.map (·.1)) ++ [[.int .i64 (f1 + z55)]].flatten := by simp [ints]
      have hi2 : ints ((x ++ [(f1 + z55, max t1 (f1 + 1) + z22)]).map (·.2)) = ints (x.map (·.2)) ++ [[.int .i64 (max t1 (f1 + 1) + z22)]].flatten := by simp [ints]
      repeat' (first | (refine GiP ?_; first | (refine Znh ?_) | (with_reducible refine Znl ?_)) | (refine GiW ?_; first | (refine Zsq fun K hK => ?_) | (refine ZrN 9 fun _ => ?_; refine Zv Zxadd ?_; refine Zv Zmi ?_) | (refine WP_cond_true rfl ?_) | (refine WP_cond_false rfl ?_) | (refine Zcd (fun hc => ?_) (fun hc => ?_) <;> (try (exfalso; omega))) | (with_reducible apply WP_skip) | (with_reducible apply WP_block) | (with_reducible apply WP_exit) | (with_reducible apply WP_ret)) | (refine Zhn ?_) | (with_reducible apply QBlock_normal) | (refine Zhx ?_) | (with_reducible apply QBlock_hit) | (refine Zqb ?_) | (with_reducible apply QLoop_exit) | (refine Zhr ?_) | (with_reducible apply QBlock_ret) | (with_reducible apply QLoop_ret))
      refine QLoop_normal (k + 1, x ++ [(f1 + z55, max t1 (f1 + 1) + z22)], s58, s62) (.cons rfl (.cons rfl (.cons rfl .nil))) (by repeat (first | exact Off.frame rfl | exact Off.refl _ _ | refine Off.frameT rfl rfl ?_ | refine Off.upd rfl ?_ | refine Off.updO rfl ?_)) ?_ ⟨by dsimp only; omega, hy, by dsimp only; rw [hi1]; exact hs58, by dsimp only; rw [hi2]; exact hs62⟩ (by dsimp only; omega)
      dsimp only
      rw [hi1, hi2, show (2 : Int) * ((k + 1 : Nat) : Int) = 2 * (k : Int) + 1 + 1 by omega]
      exact (by repeat (first | exact Wk.refl _ | apply Wk.keep1 | apply Wk.drop | apply Wk.sv | apply Wk.svD | apply Wk.appD))
  · have hke : k = g.d.ls.length := by omega
    subst hke
    rw [List.take_length] at hx
    have hxl := combos_len hx
    obtain ⟨Al, cl, el, hrl⟩ := RdRows.sv (E := 3) (by omega) hs1
    obtain ⟨Ay, cy, ey, hry⟩ := RdRows.sv (E := 3) (by omega) hs2
    have hrl2 : ∀ L', Wk L' (svH 3 1 g.d.ls.length (ints (x.map (·.1))) s1 []) → RdI N w0 L' Al (x.map (·.1)) := fun L' hL => hrl N w0 L' (i1 _) hL (ints_flat _) (by intro r hr; simp only [i1, List.mem_map] at hr; obtain ⟨_, _, rfl⟩ := hr; rfl)
    have hry2 : ∀ L', Wk L' (svH 3 1 g.d.ls.length (ints (x.map (·.2))) s2 []) → RdI N w0 L' Ay (x.map (·.2)) := fun L' hL => hry N w0 L' (i1 _) hL (ints_flat _) (by intro r hr; simp only [i1, List.mem_map] at hr; obtain ⟨_, _, rfl⟩ := hr; rfl)
    rw [el, ey]
    have how : ∀ L', Wk L' (svH 3 1 g.d.ls.length (ints (x.map (·.1))) s1 []) → Wk L' (svH 3 1 g.d.ls.length (ints (x.map (·.2))) s2 []) → _ := fun L' h1 h2 => owners_tri N w0 L' g hA hv x hxl Al Ay cl cy (hrl2 L' h1) (hry2 L' h2) n hn
    unfold bkV bkL at how
    rw [hxl, hn] at how
    repeat' (first | (refine GiP ?_; first | (refine Znh ?_) | (with_reducible refine Znl ?_) | (refine Zatd 68 ?_; refine OPS_retKS (Enters_fn rfl) (how _ (by repeat (first | exact Wk.sv0 | apply Wk.svD)) (by repeat (first | exact Wk.sv0 | apply Wk.svD))) rfl rfl rfl (fun v68 L68 h68 => ?_); obtain ⟨s68, rfl, hs68, rfl⟩ := h68) | (refine Zatn ?_; refine Zst ?_) | (refine Zatd 5 ?_; refine Zv Zav ?_)) | (refine GiW ?_; first | (refine Zsq fun K hK => ?_) | (refine ZrN 3 fun _ => ?_; refine Zv Zylss ?_) | (refine ZrN 11 fun _ => ?_; refine Zv Zfa ?_; refine Zst ?_) | (refine ZrN 12 fun _ => ?_; refine Zv Zmv ?_; refine OPS_retKS (Enters_val rfl rfl) (drawn_tri N w0 _ _ bc bu A c us hB hu 7 (by omega) (2 * (g.d.ls.length : Int)) (by omega) (by repeat (first | exact Up.here | apply Up.there | apply Up.sv)) (by repeat (first | exact Mem.here | assumption | apply Mem.there | apply Mem.sv | apply Mem.app)) (by repeat (first | exact Mem.here | assumption | apply Mem.there | apply Mem.sv | apply Mem.app)) (by repeat (first | exact Mem.here | assumption | apply Mem.there | apply Mem.sv | apply Mem.app)) (by repeat (first | exact Mem.here | assumption | apply Mem.there | apply Mem.sv | apply Mem.app))) rfl rfl rfl (fun v71 L71 h71 => ?_); obtain ⟨z71, rfl, hz71, rfl⟩ := h71; refine Zv Zmi ?_) | (refine WP_cond_true rfl ?_) | (refine WP_cond_false rfl ?_) | (refine Zcd (fun hc => ?_) (fun hc => ?_) <;> (try (exfalso; omega))) | (with_reducible apply WP_skip) | (with_reducible apply WP_block) | (with_reducible apply WP_exit) | (with_reducible apply WP_ret) | (refine WP_drawnS (id := 10) [0] [0, 1, 2, 3] [] [64] (k := 1) (k2 := 2) (by repeat (first | apply Sub.sv | apply Sub.keep | apply Sub.appK | exact Sub.refl _)) (by kernel_rfl) prog_mixed (by kernel_rfl) (by kernel_rfl) rfl ?_; refine Zew rfl Zla ?_; refine Zew rfl Zla ?_; refine Zew rfl Zmv ?_; refine Zew rfl Zmv ?_)) | (with_reducible apply EWalk_nil) | (refine GiC ?_; first | (refine ZgC [0, 1, 2, 3] ?_; refine ZC1 _ 4 [0, 1, 2, 3, 4] ?_) | (refine ZgC [0, 1, 2, 3, 4] ?_; refine ZCl _ ?_)) | (refine GiO ?_; first | (refine ZgO [0, 1, 2, 3, 4] ?_; refine ZO1 _ 5 [0, 1, 2, 3, 4, 5] ?_) | (refine ZgO [0, 1, 2, 3, 4, 5] ?_; refine ZO1 _ 6 [0, 1, 2, 3, 4, 5, 6] ?_) | (refine ZgO [0, 1, 2, 3, 4, 5, 6] ?_; refine ZOd _ ?_; (try with_reducible apply noP_normal); (try with_reducible exact key.out))) | (refine Zhn ?_) | (with_reducible apply QBlock_normal) | (refine Zhx ?_) | (with_reducible apply QBlock_hit) | (refine Zqb ?_) | (with_reducible apply QLoop_exit) | (refine Zhr ?_) | (with_reducible apply QBlock_ret) | (with_reducible apply QLoop_ret) | (refine AWalk_0 ?_) | (with_reducible apply QAny_normal) | (with_reducible apply QC_normal))
    have hzn : 0 ≤ z71 ∧ z71 < 7 := hz71
    obtain ⟨z, rfl⟩ : ∃ z : Nat, z71 = (z : Int) := ⟨z71.toNat, by omega⟩
    clear hz71
    obtain ⟨Ac, cc, ec, hrc⟩ := RdRows.sv (E := 3) (by omega) hs68
    have hrc2 : ∀ L', Wk L' (svH 3 1 n (ints (ownsL g.d x n)) s68 []) → RdI N w0 L' Ac (ownsL g.d x n) := fun L' hL => hrc N w0 L' (i1 _) hL (ints_flat _) (by intro r hr; simp only [i1, List.mem_map] at hr; obtain ⟨_, _, rfl⟩ := hr; rfl)
    rw [ec]
    refine WP_loop [12, 72, 73, 74, 75, 76, 77, 78, 79, 80, 81, 82, 83, 84, 85, 86, 87, 88, 89] (fun st : Nat × List Sp × Option (Nat × Nat) => [(72, .int .i64 (st.1 : Int))]) (fun (st : Nat × List Sp × Option (Nat × Nat)) => svH 53 2 st.2.1.length (st.2.1.map spL).flatten st.2.2 (svH 3 1 n (ints (ownsL g.d x n)) s68 (svH 3 1 g.d.ls.length (ints (x.map (·.2))) s2 (svH 3 1 g.d.ls.length (ints (x.map (·.1))) s1 ((b4, Blk 25 [.int .i64 n, .int .i64 g.d.m, .slice g.A1 g.d.ls.length g.c1, svV st.2.2 st.2.1.length]) :: (b2, Blk 25 [.int .i64 n, .int .i64 g.d.m, .slice g.A1 g.d.ls.length g.c1, .slice g.A2 g.d.ms.length g.c2]) :: (bc, Blk 3 [.int .i64 (2 * (g.d.ls.length : Int) + 1 + (st.1 : Int))]) :: (bu, Blk 46 [.slice A us.length c]) :: L))))) (fun (st : Nat × List Sp × Option (Nat × Nat)) => st.1 ≤ z ∧ st.2.1.length = st.1 ∧ (∀ k ∈ st.2.1, (0 ≤ k.1 ∧ k.1 < g.d.n) ∧ ownX g.d x k.1 = k.2) ∧ svOk st.2.2 2 st.2.1.length (st.2.1.map spL).flatten) (fun (st : Nat × List Sp × Option (Nat × Nat)) => z - st.1) (0, [], none) (.cons rfl .nil) (by dsimp only; rw [show 2 * (g.d.ls.length : Int) + 1 + ((0 : Nat) : Int) = 2 * (g.d.ls.length : Int) + 1 by omega]; exact Wk.refl _) ⟨Nat.zero_le _, rfl, fun w hw => by simp at hw, svOk_nil _⟩ ?_
    rintro ⟨i, ms, s3⟩ j2 ⟨hi, hml, hgood, hs3⟩
    dsimp only at hi hml hgood hs3 ⊢
    by_cases hil : i < z
    · have hdr := fun L L' => drawn_tri N w0 L L' bc bu A c us hB hu (n : Int) (by omega) (2 * (g.d.ls.length : Int) + 1 + (i : Int)) (by omega)
      repeat' (first | (refine GiP ?_; first | (refine Znh ?_) | (with_reducible refine Znl ?_)) | (refine GiW ?_; first | (refine Zsq fun K hK => ?_) | (refine ZrN 13 fun _ => ?_; refine Zv Zylss ?_) | (refine ZrN 14 fun _ => ?_; refine Zv Zmv ?_; refine Zv Zf0 ?_; refine Zv Zld ?_; refine OPS_retKS (Enters_val rfl rfl) (hdr _ _ (by repeat (first | exact Up.here | apply Up.there | apply Up.sv)) (by repeat (first | exact Mem.here | assumption | apply Mem.there | apply Mem.sv | apply Mem.app)) (by repeat (first | exact Mem.here | assumption | apply Mem.there | apply Mem.sv | apply Mem.app)) (by repeat (first | exact Mem.here | assumption | apply Mem.there | apply Mem.sv | apply Mem.app)) (by repeat (first | exact Mem.here | assumption | apply Mem.there | apply Mem.sv | apply Mem.app))) rfl rfl rfl (fun v77 L77 h77 => ?_); obtain ⟨z77, rfl, hz77, rfl⟩ := h77; refine Zv Zai ?_) | (refine WP_cond_true rfl ?_) | (refine WP_cond_false rfl ?_) | (refine Zcd (fun hc => ?_) (fun hc => ?_) <;> (try (exfalso; omega))) | (with_reducible apply WP_skip) | (with_reducible apply WP_block) | (with_reducible apply WP_exit) | (with_reducible apply WP_ret)) | (refine Zhn ?_) | (with_reducible apply QBlock_normal) | (refine Zhx ?_) | (with_reducible apply QBlock_hit) | (refine Zqb ?_) | (with_reducible apply QLoop_exit) | (refine Zhr ?_) | (with_reducible apply QBlock_ret) | (with_reducible apply QLoop_ret))
      have hzq : 0 ≤ z77 ∧ z77 < (n : Int) := hz77
      obtain ⟨q, rfl⟩ : ∃ q : Nat, z77 = (q : Int) := ⟨z77.toNat, by omega⟩
      clear hz77
      have hqn : q < n := by omega
      have hol : (ownsL g.d x n).length = n := by simp [ownsL]
      obtain ⟨bC, oC, hC, -⟩ := (hrc2 _ Wk.sv0 : RdI N w0 (svH 3 1 n (ints (ownsL g.d x n)) s68 []) Ac (ownsL g.d x n)).row q (by omega)
      have hcq : ∀ L', Wk L' (svH 3 1 n (ints (ownsL g.d x n)) s68 []) → Rd N w0 L' bC (oC + q) (.int .i64 (ownX g.d x q)) := fun L' hL => by
        obtain ⟨b', o', h1, h2⟩ := (hrc2 L' hL).row q (by omega)
        rw [hC] at h1
        simp only [Option.some.injEq, Addr.mk.injEq, and_true] at h1
        obtain ⟨rfl, rfl⟩ := h1
        have := h2 L' (Wk.refl _)
        simpa [ownsL] using this
      obtain ⟨o, ho⟩ : ∃ o, ownX g.d x (q : Int) = o := ⟨_, rfl⟩
      rw [ho] at hcq
      have hbe : (2 * (g.d.ls.length : Int) + 1 + ((i + 1 : Nat) : Int)) = 2 * (g.d.ls.length : Int) + 1 + (i : Int) + 1 := by omega
      have hnx2 : ((ms ++ [((q : Int), o)]).map spL).flatten = (ms.map spL).flatten ++ [.int .i64 (q : Int), .int .i64 o] := by simp [spL]
      have hg2 : ∀ k ∈ ms ++ [((q : Int), o)], (0 ≤ k.1 ∧ k.1 < g.d.n) ∧ ownX g.d x k.1 = k.2 := by
        intro k hk
        rcases List.mem_append.1 hk with h | h
        · exact hgood k h
        · rw [List.mem_singleton] at h
          subst h
          exact ⟨⟨by dsimp only; omega, by dsimp only; omega⟩, ho⟩
      repeat' (first | (refine GiP ?_; first | (refine Znh ?_) | (with_reducible refine Znl ?_) | (refine Zatd 87 ?_; refine Zag (fun s87 hs87 => ?_)) | (refine Zatd 88 ?_; refine Zv Zfa ?_) | (refine Zatn ?_; refine Zst ?_)) | (refine GiW ?_; first | (refine Zsq fun K hK => ?_) | (refine WP_cond_true rfl ?_) | (refine WP_cond_false rfl ?_) | (refine Zcd (fun hc => ?_) (fun hc => ?_) <;> (try (exfalso; omega))) | (with_reducible apply WP_skip) | (with_reducible apply WP_block) | (with_reducible apply WP_exit) | (with_reducible apply WP_ret) | (refine WP_drawn (id := 15) [0, 1, 2, 3, 4, 5, 6, 7] [8] (k := 3) prog_mixed (by kernel_rfl) rfl ?_; refine Zew rfl Zfa ?_; (first | (refine Zew rfl (Val_loadD1 rfl (hcq _ (by repeat (first | exact Wk.sv0 | apply Wk.svD)))) ?_) | (refine Zew rfl Zld ?_)); refine Zew rfl Zmi ?_; refine Zew rfl Zmv ?_; refine Zew rfl Zmi ?_; (first | (refine Zew rfl (Val_indexAddrE1 rfl hC rfl rfl hqn) ?_) | (refine Zew rfl Zia ?_)); (first | (refine Zew rfl (Val_loadD1 rfl (hcq _ (by repeat (first | exact Wk.sv0 | apply Wk.svD)))) ?_) | (refine Zew rfl Zld ?_)); refine Zew rfl Zxbu ?_)) | (with_reducible apply EWalk_nil) | (refine GiO ?_; first | (refine AnyO_done (by kernel_rfl) ?_; (try with_reducible apply noP_normal); try with_reducible exact key.out) | (refine AnyO_1 9 (by decide +kernel) rfl ?_) | (refine AnyO_1 10 (by decide +kernel) rfl ?_) | (refine AnyO_1 11 (by decide +kernel) rfl ?_)) | (refine Zhn ?_) | (with_reducible apply QBlock_normal) | (refine Zhx ?_) | (with_reducible apply QBlock_hit) | (refine Zqb ?_) | (with_reducible apply QLoop_exit) | (refine Zhr ?_) | (with_reducible apply QBlock_ret) | (with_reducible apply QLoop_ret) | (refine AWalk_1S (d := 86) rfl rfl rfl rfl blk_is (New_buildSliceR rfl rfl (by repeat (first | exact CellsR.nil | (apply CellsR.cA rfl) | (apply CellsR.c1S (by constructor) rfl))) rfl (by decide) rfl (by decide)) (fun b86 => ?_); refine ZisO ?_) | (with_reducible apply QAny_normal))
      all_goals
        repeat' (first | (refine GiP ?_; first | (refine Znh ?_) | (with_reducible refine Znl ?_)) | (refine GiW ?_; first | (refine Zsq fun K hK => ?_) | (refine ZrN 16 fun _ => ?_; refine Zv Zxadd ?_; refine Zv Zmi ?_) | (refine WP_cond_true rfl ?_) | (refine WP_cond_false rfl ?_) | (refine Zcd (fun hc => ?_) (fun hc => ?_) <;> (try (exfalso; omega))) | (with_reducible apply WP_skip) | (with_reducible apply WP_block) | (with_reducible apply WP_exit) | (with_reducible apply WP_ret)) | (refine Zhn ?_) | (with_reducible apply QBlock_normal) | (refine Zhx ?_) | (with_reducible apply QBlock_hit) | (refine Zqb ?_) | (with_reducible apply QLoop_exit) | (refine Zhr ?_) | (with_reducible apply QBlock_ret) | (with_reducible apply QLoop_ret))
        refine QLoop_normal (i + 1, ms ++ [((q : Int), o)], s87) (.cons rfl .nil) (by repeat (first | exact Off.frame rfl | exact Off.refl _ _ | refine Off.frameT rfl rfl ?_ | refine Off.upd rfl ?_ | refine Off.updO rfl ?_)) ?_ ⟨by dsimp only; omega, by dsimp only; rw [List.length_append, List.length_singleton]; omega, hg2, by dsimp only; rw [hnx2, List.length_append]; exact hs87⟩ (by dsimp only; omega)
        dsimp only
        rw [hnx2, hbe, List.length_append, List.length_singleton]
        exact (by repeat (first | exact Wk.refl _ | apply Wk.keep1 | apply Wk.drop | apply Wk.sv | apply Wk.svD | apply Wk.appD))
    · have hie : i = z := by omega
      subst hie
      repeat' (first | (refine GiP ?_; first | (refine Znh ?_) | (with_reducible refine Znl ?_)) | (refine GiW ?_; first | (refine Zsq fun K hK => ?_) | (refine ZrN 13 fun _ => ?_; refine Zv Zylss ?_) | (refine ZrN 17 fun _ => ?_; refine Zv Zla ?_; refine Zv Zmv ?_; refine Zst ?_; refine Zv Zav ?_) | (refine WP_cond_true rfl ?_) | (refine WP_cond_false rfl ?_) | (refine Zcd (fun hc => ?_) (fun hc => ?_) <;> (try (exfalso; omega))) | (with_reducible apply WP_skip) | (with_reducible apply WP_block) | (with_reducible apply WP_exit) | (with_reducible apply WP_ret)) | (refine Zhn ?_) | (with_reducible apply QBlock_normal) | (refine Zhx ?_) | (with_reducible apply QBlock_hit) | (refine Zqb ?_) | (with_reducible apply QLoop_exit) | (refine Zhr ?_) | (with_reducible apply QBlock_ret) | (with_reducible apply QLoop_ret))
      refine QBody_res rfl (.cellN rfl (by repeat (first | exact Mem.here | assumption | apply Mem.there | apply Mem.sv | apply Mem.app)) (.here (.cons (.cons (.cons (.cons .nil))))) (.tmp rfl .nil)) rfl ?_
      exact ⟨_, (by repeat (first | exact Wk.refl _ | apply Wk.keep1 | apply Wk.drop | apply Wk.sv | apply Wk.svD | apply Wk.appD)), _, rfl, x, ms, s3, s68, by rw [ec]; rfl, hx, by omega, fun k hk => by rw [← hn]; exact hgood k hk, hs3, hs68, rfl⟩
end
end Go.Proofs.Ytakmopiceopcpaa
end
