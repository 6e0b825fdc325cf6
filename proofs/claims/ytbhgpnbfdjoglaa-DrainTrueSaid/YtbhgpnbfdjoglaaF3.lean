/- The law DrainTrue: numbers by remainders. · The law DrainTrue: drains of which what was seen is right. · The law DrainTrue in plain terms. -/
import Derived.Test.YtbhgpnbfdjoglaaC4
import Derived.Test.YtbhgpnbfdjoglaaE4
import Derived.Test.YtbhgpnbfdjoglaaQe
section
namespace Go.Proofs.Ytbhgpnbfdjoglaa
open Go.RowKit
theorem Val_remI {P : Program} {N : Nat} {w0 : World} {L : Hp} {e : Env} {d : Option Nat} {ty : TypeId} {pos : String} {af : Array Edge} {g : Option (Nat × Bool)} {x y : Operand} {t t' : TypeId} {k : IntKind} {m n q : Int} (hq : m.tmod n = q) (hn : n ≠ 0) (hx : ev e x = .int k m) (hy : ev e y = .int k n) : Val P N w0 L e ⟨d, .binOp .rem t x y t', ty, pos, af, g⟩ (.int k q) := by
  rw [← hq]; exact Val_rem hx hy hn
/-- Bytes, two at a time. -/
def u16L (us : List Nat) : List (List Value) := us.map fun u : Nat => [.int .u16 (u : Int)]
attribute [local irreducible] AnyO AnyB QAny QB EWalk AWalk Ev WP OPS QThen QBlock QScope QLoop QBody Val New Turn Tri Enters PostA Blk Ro
attribute [local irreducible] AnyC QC
section
variable (N : Nat) (w0 : World)
set_option maxHeartbeats 1000000 in
theorem drawn_tri (L L' : Hp) (b1 b2 : Nat) (A : Option Addr) (c : Nat) (us : List Nat) (hA : SlAt N w0 A 1 (u16L us)) (hu : ∀ u ∈ us, u ≤ 65535) (s : Sp) (hs : 0 ≤ s.1 ∧ s.1 ≤ s.2 ∧ s.2 ≤ 200) (a : Int) (ha : 0 ≤ a ∧ a ≤ 1000)
    (hup : Up L b1 (Blk 3 [.int .i64 a]) (Blk 3 [.int .i64 (a + 1)]) L') (hm1 : Mem b1 (Blk 3 [.int .i64 a]) L) (hm1' : Mem b1 (Blk 3 [.int .i64 (a + 1)]) L') (hm : Mem b2 (Blk 45 [.slice A us.length c]) L) (hm' : Mem b2 (Blk 45 [.slice A us.length c]) L') :
    Tri Try.prog N w0 L 80 [.agg [.int .i64 s.1, .int .i64 s.2].toArray, .pointer (some ⟨b1, 0, none⟩), .pointer (some ⟨b2, 0, none⟩)].toArray fun x L2 => ∃ v, x = .returned v ∧ ∃ z : Int, v = .int .i64 z ∧ (s.1 ≤ z ∧ z ≤ s.2) ∧ L2 = L' := by
  refine Tri.fgt ?_
  refine tri_of_WP Try.func80 rfl (n := 33) rfl (by simp) ?_
  by_cases h0 : us.length = 0
  · repeat' (first | (refine GiP ?_; first | (refine Znh ?_) | (with_reducible refine Znl ?_)) | (refine GiW ?_; first | (refine Zsq fun K hK => ?_) | (refine ZrN 0 fun _ => ?_; refine Zal 3 fun b3 => ?_; refine Zv Zai ?_) | (refine ZrN 1 fun _ => ?_; refine Zv Zld ?_; refine Zv Zxadd ?_; refine OPS_turnN (Turn_store rfl rfl (.there hup) rfl (by repeat (first | exact Over.nil | apply Over.cons | apply PutAt.there | apply PutAt.here)) (by rfl) rfl) rfl rfl ?_) | (refine ZrN 2 fun _ => ?_; refine Zv Zld ?_; refine Zv Zxlen ?_; refine Zv Zyeql ?_) | (refine ZrN 3 fun _ => ?_; refine Zv Zf0 ?_; refine Zv Zld ?_; refine Zv Zai ?_) | (refine WP_cond_true rfl ?_) | (refine WP_cond_false rfl ?_) | (refine Zcd (fun hc => ?_) (fun hc => ?_) <;> (try (exfalso; omega))) | (with_reducible apply WP_skip) | (with_reducible apply WP_ret)) | (refine Zhn ?_) | (refine Zhr ?_))
    exact QBody_ret1 rfl (rfl : _ = Value.int _ _) ⟨L', (by repeat (first | exact Wk.refl _ | apply Wk.keep1 | apply Wk.drop | apply Wk.sv | apply Wk.svD | apply Wk.appD)), _, rfl, _, rfl, by omega, rfl⟩
  · obtain ⟨i, hi, hil⟩ : ∃ i : Nat, (a + 1).tmod (us.length : Int) = (i : Int) ∧ i < us.length := by
      refine ⟨((a + 1) % (us.length : Int)).toNat, ?_, ?_⟩
      · rw [Int.tmod_eq_emod_of_nonneg (by omega)]
        have := Int.emod_nonneg (a + 1) (show (us.length : Int) ≠ 0 by omega)
        omega
      · have := Int.emod_lt_of_pos (a + 1) (show (0 : Int) < us.length by omega)
        omega
    obtain ⟨bA, oA, hA1, hbA, hcA0⟩ := SlAt.one (f := fun u : Nat => Value.int .u16 (u : Int)) hA i hil
    obtain ⟨u, hue⟩ : ∃ u, us[i] = u := ⟨_, rfl⟩
    have hub := hu u (by rw [← hue]; exact List.getElem_mem hil)
    rw [hue] at hcA0
    obtain ⟨q, hq, hq1⟩ : ∃ q : Int, ((u : Int) + 47 * (a + 1)).tmod (s.2 - s.1 + 1) = q ∧ 0 ≤ q ∧ q ≤ s.2 - s.1 := by
      refine ⟨_, rfl, ?_, ?_⟩
      · rw [Int.tmod_eq_emod_of_nonneg (by omega)]; exact Int.emod_nonneg _ (by omega)
      · rw [Int.tmod_eq_emod_of_nonneg (by omega)]
        have := Int.emod_lt_of_pos ((u : Int) + 47 * (a + 1)) (show 0 < s.2 - s.1 + 1 by omega)
        omega
    have hne : (us.length : Int) ≠ 0 := by omega
    repeat' (first | (refine GiP ?_; first | (refine Znh ?_) | (with_reducible refine Znl ?_)) | (refine GiW ?_; first | (refine Zsq fun K hK => ?_) | (refine ZrN 0 fun _ => ?_; refine Zal 3 fun b3 => ?_; refine Zv Zai ?_) | (refine ZrN 1 fun _ => ?_; (first | (refine Zv (Val_loadR1 rfl hbA hcA0) ?_) | (refine Zv Zld ?_)); refine Zv Zxadd ?_; refine OPS_turnN (Turn_store rfl rfl (.there hup) rfl (by repeat (first | exact Over.nil | apply Over.cons | apply PutAt.there | apply PutAt.here)) (by rfl) rfl) rfl rfl ?_) | (refine ZrN 2 fun _ => ?_; (first | (refine Zv (Val_loadR1 rfl hbA hcA0) ?_) | (refine Zv Zld ?_)); refine Zv Zxlen ?_; refine Zv Zyeql ?_) | (refine WP_cond_true rfl ?_) | (refine WP_cond_false rfl ?_) | (refine Zcd (fun hc => ?_) (fun hc => ?_) <;> (try (exfalso; omega))) | (with_reducible apply WP_skip) | (with_reducible apply WP_ret) | (refine WP_drawn (id := 4) [0, 1, 2, 3, 4, 5, 6, 7, 8, 9, 10, 11, 12, 13, 14, 15, 16, 17, 18, 19, 20, 21] [] (k := 0) prog_mixed (by kernel_rfl) rfl ?_; refine Zew rfl Zf0 ?_; (first | (refine Zew rfl (Val_loadR1 rfl hbA hcA0) ?_) | (refine Zew rfl Zld ?_)); (first | (refine Zew rfl (Val_loadR1 rfl hbA hcA0) ?_) | (refine Zew rfl Zld ?_)); (first | (refine Zew rfl (Val_loadR1 rfl hbA hcA0) ?_) | (refine Zew rfl Zld ?_)); (first | (refine Zew rfl (Val_loadR1 rfl hbA hcA0) ?_) | (refine Zew rfl Zld ?_)); refine Zew rfl Zxlen ?_; (first | (refine Zew rfl (Val_remI hi hne rfl rfl) ?_) | (refine Zew rfl (Val_remI hq (by omega) rfl rfl) ?_)); (first | (refine Zew rfl (Val_indexAddrE1 rfl hA1 rfl rfl hil) ?_) | (refine Zew rfl Zia ?_)); (first | (refine Zew rfl (Val_loadR1 rfl hbA hcA0) ?_) | (refine Zew rfl Zld ?_)); (first | (refine Zew rfl (Val_convert rfl (InK_i64 (by omega) (by omega))) ?_) | (refine Zew rfl Zxco ?_)); (first | (refine Zew rfl (Val_loadR1 rfl hbA hcA0) ?_) | (refine Zew rfl Zld ?_)); refine Zew rfl Zxmul ?_; refine Zew rfl Zxadd ?_; refine Zew rfl Zfa ?_; (first | (refine Zew rfl (Val_loadR1 rfl hbA hcA0) ?_) | (refine Zew rfl Zld ?_)); refine Zew rfl Zf0 ?_; (first | (refine Zew rfl (Val_loadR1 rfl hbA hcA0) ?_) | (refine Zew rfl Zld ?_)); refine Zew rfl Zxsub ?_; refine Zew rfl Zxadd ?_; (first | (refine Zew rfl (Val_remI hi hne rfl rfl) ?_) | (refine Zew rfl (Val_remI hq (by omega) rfl rfl) ?_)); refine Zew rfl Zxadd ?_; refine Zew rfl Zai ?_)) | (with_reducible apply EWalk_nil) | (refine AnyO_done (by kernel_rfl) ?_; (try with_reducible apply noP_normal); try with_reducible exact key.out) | (refine Zhn ?_) | (refine Zhr ?_) | (refine AWalk_0 ?_; refine ZisO ?_) | (with_reducible apply QAny_normal))
    exact QBody_ret1 rfl (rfl : _ = Value.int _ _) ⟨L', (by repeat (first | exact Wk.refl _ | apply Wk.keep1 | apply Wk.drop | apply Wk.sv | apply Wk.svD | apply Wk.appD)), _, rfl, _, rfl, by omega, rfl⟩
def drF (b3 b1 : Nat) : Value := .func (.func 80) #[] #[.pointer (some ⟨b3, 0, none⟩), .pointer (some ⟨b1, 0, none⟩)]
theorem draws_tri (L : Hp) (A : Option Addr) (n c : Nat) : Tri Try.prog N w0 L 25 [.slice A n c].toArray fun x L2 => ∃ v, x = .returned v ∧ ∃ b3 b1, v = drF b3 b1 ∧ L2 = (b3, Blk 3 [.int .i64 0]) :: (b1, Blk 45 [.slice A n c]) :: L := by
  refine Tri.fgt ?_
  refine tri_of_WP Try.func25 rfl (n := 5) rfl (by simp) ?_
  repeat' (first | (refine GiP ?_; first | (refine Znh ?_) | (with_reducible refine Znl ?_)) | (refine GiW ?_; first | (refine Zsq fun K hK => ?_) | (refine ZrN 0 fun _ => ?_; refine Zal 1 fun b1 => ?_; refine Zv Zav ?_) | (refine ZrN 1 fun _ => ?_; refine Zal 3 fun b3 => ?_; refine Zst ?_) | (refine ZrN 2 fun _ => ?_; refine Zv Val_makeFunc ?_; refine Zv Zav ?_) | (with_reducible apply WP_ret)) | (refine Zhn ?_) | (refine Zhr ?_))
  exact QBody_ret1 rfl (rfl : _ = drF b3 b1) ⟨_, Wk.refl _, _, rfl, _, _, rfl, rfl⟩
end
end Go.Proofs.Ytbhgpnbfdjoglaa
end

section
namespace Go.Proofs.Ytbhgpnbfdjoglaa
open Go.RowKit
theorem InR_snoc : ∀ {l : List Sp} {r : List Int} {s : Sp} {v : Int}, InR l r → s.1 ≤ v ∧ v ≤ s.2 → InR (l ++ [s]) (r ++ [v])
  | [], [], _, _, .nil, h => .cons h .nil
  | _ :: _, _ :: _, _, _, .cons h t, h2 => .cons h (InR_snoc t h2)
def GoodW (d : Dr) (lv : List Int) (w : Sp) : Prop := ∃ a y : Nat, w = ((a : Int), (y : Int)) ∧ a < d.banks.length ∧ nxt d.ways lv a = some y
attribute [local irreducible] AnyO AnyB QAny QB EWalk AWalk Ev WP OPS QThen QBlock QScope QLoop QBody Val New Turn Tri Enters PostA Blk Ro
attribute [local irreducible] AnyC QC
section
variable (N : Nat) (w0 : World)
set_option maxHeartbeats 8000000 in
theorem truly_tri (L : Hp) (g : Fg) (hA : DrAt N w0 g) (hv : VD g.d) (bc bu : Nat) (A : Option Addr) (c : Nat) (us : List Nat) (hB : SlAt N w0 A 1 (u16L us)) (hu : ∀ u ∈ us, u ≤ 65535) :
    Tri Try.prog N w0 ((bc, Blk 3 [.int .i64 0]) :: (bu, Blk 45 [.slice A us.length c]) :: L) 24 [drV g, drF bc bu].toArray fun x L2 => ∃ v, x = .returned v ∧ ∃ (lv ys : List Int) (ss : List Sp) (s1 s2 s3 : Option (Nat × Nat)), v = .tuple [.agg [.slice g.A1 g.d.banks.length g.c1, .slice g.A2 g.d.ways.length g.c2, .slice g.A3 g.d.rights.length g.c3, svV s3 ss.length].toArray, svV s1 g.d.banks.length, svV s2 g.d.banks.length].toArray ∧
      InR (g.d.banks.map (·.lv)) lv ∧ InR (g.d.banks.map (·.yd)) ys ∧ ss.length ≤ 4 ∧ (∀ w ∈ ss, GoodW g.d lv w) ∧ svOk s1 1 g.d.banks.length (ints lv) ∧ svOk s2 1 g.d.banks.length (ints ys) ∧ svOk s3 2 ss.length (ss.map spL).flatten ∧
      L2 = svH 32 2 ss.length (ss.map spL).flatten s3 (svH 3 1 g.d.banks.length (ints ys) s2 (svH 3 1 g.d.banks.length (ints lv) s1 L)) := by
  have hnb := hv.nb
  have h21 := fun L x y => span_ret N w0 L x y
  have h12 := fun L x y => way_ret N w0 L x y
  refine Tri.fgt ?_
  refine tri_of_WP Try.func24 rfl (n := _) rfl (by simp) ?_
  unfold drV drL drF
  repeat' (first | (refine Znh ?_) | (refine GiW ?_; first | (refine Zsq fun K hK => ?_) | (refine ZrN 0 fun _ => ?_; refine Zal 2 fun b2 => ?_; refine Zal 4 fun b4 => ?_; refine Zv Zav ?_; refine Zv Zav ?_) | (refine ZrN 1 fun _ => ?_; refine Zv Zf0 ?_; refine Zv Zld ?_; refine Zv Zxlen ?_; refine Zv Zmi ?_) | (with_reducible apply WP_block)))
  refine WP_loop [5, 6, 8, 14, 15, 16, 17, 18, 19, 20, 21, 22, 23, 24, 25, 26, 27, 28, 29, 30, 31, 32] (fun st : Nat × List Int × List Int × Option (Nat × Nat) × Option (Nat × Nat) => [(5, svV st.2.2.2.1 st.1), (6, svV st.2.2.2.2 st.1), (14, .int .i64 (st.1 : Int))]) (fun (st : Nat × List Int × List Int × Option (Nat × Nat) × Option (Nat × Nat)) => svH 3 1 st.1 (ints st.2.2.1) st.2.2.2.2 (svH 3 1 st.1 (ints st.2.1) st.2.2.2.1 ((b4, Blk 29 [.slice none 0 0, .slice none 0 0, .slice none 0 0, .slice none 0 0]) :: (b2, Blk 29 [.slice g.A1 g.d.banks.length g.c1, .slice g.A2 g.d.ways.length g.c2, .slice g.A3 g.d.rights.length g.c3, .slice g.A4 g.d.seen.length g.c4]) :: (bc, Blk 3 [.int .i64 (2 * (st.1 : Int))]) :: (bu, Blk 45 [.slice A us.length c]) :: L)))
    (fun (st : Nat × List Int × List Int × Option (Nat × Nat) × Option (Nat × Nat)) => st.1 ≤ g.d.banks.length ∧ InR ((g.d.banks.take st.1).map (·.lv)) st.2.1 ∧ InR ((g.d.banks.take st.1).map (·.yd)) st.2.2.1 ∧ svOk st.2.2.2.1 1 st.1 (ints st.2.1) ∧ svOk st.2.2.2.2 1 st.1 (ints st.2.2.1)) (fun (st : Nat × List Int × List Int × Option (Nat × Nat) × Option (Nat × Nat)) => g.d.banks.length - st.1) (0, [], [], none, none) (.cons rfl (.cons rfl (.cons rfl .nil))) (by dsimp only; rw [show (2 : Int) * ((0 : Nat) : Int) = 0 by omega]; exact Wk.refl _) ⟨Nat.zero_le _, .nil, .nil, svOk_nil _, svOk_nil _⟩ ?_
  rintro ⟨k, lv, ys, s1, s2⟩ j ⟨hk, hlv, hys, hs1, hs2⟩
  dsimp only at hk hlv hys hs1 hs2 ⊢
  by_cases hkl : k < g.d.banks.length
  · obtain ⟨bA, oA, hA1, hbA, hcA⟩ := hA.banks.row k hkl
    obtain ⟨p, hp⟩ : ∃ p, g.d.banks[k] = p := ⟨_, rfl⟩
    have hpv := hv.bk p (by rw [← hp]; exact List.getElem_mem hkl)
    rw [hp] at hcA
    obtain ⟨⟨l1, l2⟩, y1, y2⟩ := p
    dsimp only at hpv
    have hn1 : ∀ z, l1 ≤ z ∧ z ≤ l2 → InR ((g.d.banks.take (k + 1)).map (·.lv)) (lv ++ [z]) := fun z hz => by
      rw [map_take_succ (fun b : Bk => b.lv) hkl, hp]
      exact InR_snoc hlv hz
    have hn2 : ∀ z, y1 ≤ z ∧ z ≤ y2 → InR ((g.d.banks.take (k + 1)).map (·.yd)) (ys ++ [z]) := fun z hz => by
      rw [map_take_succ (fun b : Bk => b.yd) hkl, hp]
      exact InR_snoc hys hz
    unfold bkL at hcA
    dsimp only at hcA
    repeat' (first | (refine Znh ?_) | (refine GiW ?_; first | (refine Zsq fun K hK => ?_) | (refine ZrN 2 fun _ => ?_; refine Zv Zylss ?_) | (refine ZrN 3 fun _ => ?_; refine Zv Zia ?_; refine Zv Zla ?_; refine Zal 8 fun b8 => ?_; refine Zst ?_) | (refine WP_cond_true rfl ?_) | (with_reducible apply WP_skip) | (with_reducible apply WP_block)) | (refine Zhn ?_))
    repeat' (first | (refine GiP ?_; first | (with_reducible refine Znl ?_) | (refine Zatd 22 ?_; refine OPS_retKS (Enters_val rfl rfl) (drawn_tri N w0 _ _ bc bu A c us hB hu (l1, l2) (by dsimp only; omega) (2 * (k : Int)) (by omega) (by repeat (first | exact Up.here | apply Up.there | apply Up.sv)) (by repeat (first | exact Mem.here | assumption | apply Mem.there | apply Mem.sv | apply Mem.app)) (by repeat (first | exact Mem.here | assumption | apply Mem.there | apply Mem.sv | apply Mem.app)) (by repeat (first | exact Mem.here | assumption | apply Mem.there | apply Mem.sv | apply Mem.app)) (by repeat (first | exact Mem.here | assumption | apply Mem.there | apply Mem.sv | apply Mem.app))) rfl rfl rfl (fun v22 L22 h22 => ?_); obtain ⟨z22, rfl, hz22, rfl⟩ := h22) | (refine Zatd 23 ?_; refine Zal 23 fun b23 => ?_) | (refine Zatd 24 ?_; refine Zag (fun s24 hs24 => ?_)) | (refine Zatd 29 ?_; refine OPS_retKS (Enters_val rfl rfl) (drawn_tri N w0 _ _ bc bu A c us hB hu (y1, y2) (by dsimp only; omega) (2 * (k : Int) + 1) (by omega) (by repeat (first | exact Up.here | apply Up.there | apply Up.sv)) (by repeat (first | exact Mem.here | assumption | apply Mem.there | apply Mem.sv | apply Mem.app)) (by repeat (first | exact Mem.here | assumption | apply Mem.there | apply Mem.sv | apply Mem.app)) (by repeat (first | exact Mem.here | assumption | apply Mem.there | apply Mem.sv | apply Mem.app)) (by repeat (first | exact Mem.here | assumption | apply Mem.there | apply Mem.sv | apply Mem.app))) rfl rfl rfl (fun v29 L29 h29 => ?_); obtain ⟨z29, rfl, hz29, rfl⟩ := h29) | (refine Zatd 30 ?_; refine Zal 30 fun b30 => ?_) | (refine Zatd 31 ?_; refine Zag (fun s31 hs31 => ?_)) | (refine Zatd 5 ?_; refine Zv Zav ?_) | (refine Zatd 6 ?_; refine Zv Zav ?_)) | (refine WP_drawnS (id := 4) (B := (b8, Blk 60 [.int .i64 l1, .int .i64 l2, .int .i64 y1, .int .i64 y2]) :: (bu, Blk 45 [.slice A us.length c]) :: L) [0, 7, 8, 9, 10] [0, 1, 2, 3, 7, 8, 9, 10] [] [18, 25, 26, 27, 28] (k := 5) (k2 := 3) (by repeat (first | exact Sub.refl _ | apply Sub.keep | apply Sub.appK | apply Sub.sv | apply Sub.cons | apply Sub.app)) (by kernel_rfl) prog_mixed (by kernel_rfl) (by kernel_rfl) rfl ?_; refine Zew rfl Zmv ?_; refine Zew rfl Zmv ?_; refine Zew rfl Zf0 ?_; refine Zew rfl Zla ?_; refine Zew rfl Zmv ?_; refine Zew rfl Zmv ?_; refine Zew rfl Zfa ?_; refine Zew rfl Zla ?_) | (with_reducible apply EWalk_nil) | (refine GiC ?_; first | (refine ZgC [0, 1, 2, 3, 7, 8, 9, 10] ?_; refine ZC1 _ 4 [0, 1, 2, 3, 7, 8, 9, 10, 4] ?_) | (refine ZgC [0, 1, 2, 3, 7, 8, 9, 10, 4] ?_; refine ZC1 _ 5 [0, 1, 2, 3, 7, 8, 9, 10, 4, 5] ?_) | (refine ZgC [0, 1, 2, 3, 7, 8, 9, 10, 4, 5] ?_; refine ZC1 _ 6 [0, 1, 2, 3, 7, 8, 9, 10, 4, 5, 6] ?_) | (refine ZgC [0, 1, 2, 3, 7, 8, 9, 10, 4, 5, 6] ?_; refine ZC1 _ 11 [0, 1, 2, 3, 7, 8, 9, 10, 4, 5, 6, 11] ?_) | (refine ZgC [0, 1, 2, 3, 7, 8, 9, 10, 4, 5, 6, 11] ?_; refine ZC1 _ 12 [0, 1, 2, 3, 7, 8, 9, 10, 4, 5, 6, 11, 12] ?_) | (refine ZgC [0, 1, 2, 3, 7, 8, 9, 10, 4, 5, 6, 11, 12] ?_; refine ZCl _ ?_)) | (refine GiO ?_; first | (refine ZgO [0, 1, 2, 3, 7, 8, 9, 10, 4, 5, 6, 11, 12] ?_; refine ZO1 _ 13 [0, 1, 2, 3, 7, 8, 9, 10, 4, 5, 6, 11, 12, 13] ?_) | (refine ZgO [0, 1, 2, 3, 7, 8, 9, 10, 4, 5, 6, 11, 12, 13] ?_; refine ZO1 _ 14 [0, 1, 2, 3, 7, 8, 9, 10, 4, 5, 6, 11, 12, 13, 14] ?_) | (refine ZgO [0, 1, 2, 3, 7, 8, 9, 10, 4, 5, 6, 11, 12, 13, 14] ?_; refine ZO1 _ 15 [0, 1, 2, 3, 7, 8, 9, 10, 4, 5, 6, 11, 12, 13, 14, 15] ?_) | (refine ZgO [0, 1, 2, 3, 7, 8, 9, 10, 4, 5, 6, 11, 12, 13, 14, 15] ?_; refine ZOd _ ?_; (try with_reducible apply noP_normal); (try with_reducible exact key.out))) | (refine Zhn ?_) | (with_reducible apply QBlock_normal) | (refine AWalk_0 ?_) | (with_reducible apply QAny_normal) | (with_reducible apply QC_normal))
    all_goals
      have hi1 : ints (lv ++ [z22]) = ints lv ++ [[.int .i64 z22]].flatten := by simp [ints]
      have hi2 : ints (ys ++ [z29]) = ints ys ++ [[.int .i64 z29]].flatten := by simp [ints]
      repeat' (first | (with_reducible refine Znl ?_) | (refine ZrN 5 fun _ => ?_; refine Zv Zxadd ?_; refine Zv Zmi ?_))
      refine QLoop_normal (k + 1, lv ++ [z22], ys ++ [z29], s24, s31) (.cons rfl (.cons rfl (.cons rfl .nil))) (by repeat (first | exact Off.frame rfl | exact Off.refl _ _ | refine Off.frameT rfl rfl ?_ | refine Off.upd rfl ?_ | refine Off.updO rfl ?_)) ?_ ⟨by dsimp only; omega, hn1 z22 hz22, hn2 z29 hz29, by dsimp only; rw [hi1]; exact hs24, by dsimp only; rw [hi2]; exact hs31⟩ (by dsimp only; omega)
      dsimp only
      rw [hi1, hi2, show (2 : Int) * ((k + 1 : Nat) : Int) = 2 * (k : Int) + 1 + 1 by omega]
      exact (by repeat (first | exact Wk.refl _ | apply Wk.keep1 | apply Wk.drop | apply Wk.sv | apply Wk.svD | apply Wk.appD))
  · have hke : k = g.d.banks.length := by omega
    subst hke
    rw [List.take_length] at hlv hys
    have hll : lv.length = g.d.banks.length := by rw [hlv.len, List.length_map]
    have hcr := fun L Al cl hrd => courses_tri N w0 L g hA hv lv hll Al cl hrd 0 (by omega)
    have hk0 : keepL 0 g.d.ways 0 = g.d.ways := keepL_zero _ _
    simp only [crsO_cdL, hk0] at hcr
    rw [hll] at hcr
    have hdn : ∀ a y, nxt g.d.ways lv a = some y → y < g.d.banks.length ∧ lvl lv y < lvl lv a := fun a y h => by rw [← hll]; exact nxt_dec h
    obtain ⟨nx, hnx⟩ : ∃ nx, nxt g.d.ways lv = nx := ⟨_, rfl⟩
    rw [hnx] at hcr hdn
    obtain ⟨Al, cl, el, hrl⟩ := RdRows.sv (E := 3) (by omega) hs1
    have hrl2 : ∀ L', Wk L' (svH 3 1 g.d.banks.length (ints lv) s1 []) → RdI N w0 L' Al lv := fun L' hL => hrl N w0 L' (i1 _) hL (ints_flat _) (by intro r hr; simp only [i1, List.mem_map] at hr; obtain ⟨_, _, rfl⟩ := hr; rfl)
    obtain ⟨Ay, cy, ey, -⟩ := sv_slice (E := 3) hs2
    rw [el, ey]
    obtain ⟨H, hH⟩ : ∃ H, svH 3 1 g.d.banks.length (ints ys) s2 (svH 3 1 g.d.banks.length (ints lv) s1 L) = H := ⟨_, rfl⟩
    have hcr2 : ∀ L', Wk L' (svH 3 1 g.d.banks.length (ints lv) s1 []) → _ := fun L' hL => hcr L' Al cl (hrl2 L' hL)
    unfold drV drL at hcr2
    repeat' (first | (refine Znh ?_) | (refine GiW ?_; first | (refine Zsq fun K hK => ?_) | (refine ZrN 2 fun _ => ?_; refine Zv Zylss ?_) | (refine ZrN 6 fun _ => ?_; refine Zv Zla ?_; refine Zst ?_) | (refine ZrN 7 fun _ => ?_; refine Zv Zfa ?_; refine Zst ?_) | (refine ZrN 8 fun _ => ?_; refine Zv Zla ?_; refine Zv Zmv ?_; refine OPS_retKS (Enters_fn rfl) (hcr2 _ (by repeat (first | exact Wk.sv0 | apply Wk.svD))) rfl rfl rfl (fun v37 L37 h37 => ?_); obtain ⟨s37, rfl, hs37, rfl⟩ := h37; refine Zv Zav ?_) | (refine ZrN 9 fun _ => ?_; refine Zv Zmv ?_; refine Zcl (Enters_fn rfl) (h21 _ _ _) ?_; refine OPS_retKS (Enters_val rfl rfl) (drawn_tri N w0 _ _ bc bu A c us hB hu (0, 4) (by dsimp only; omega) (2 * (g.d.banks.length : Int)) (by omega) (by repeat (first | exact Up.here | apply Up.there | apply Up.sv)) (by repeat (first | exact Mem.here | assumption | apply Mem.there | apply Mem.sv | apply Mem.app)) (by repeat (first | exact Mem.here | assumption | apply Mem.there | apply Mem.sv | apply Mem.app)) (by repeat (first | exact Mem.here | assumption | apply Mem.there | apply Mem.sv | apply Mem.app)) (by repeat (first | exact Mem.here | assumption | apply Mem.there | apply Mem.sv | apply Mem.app))) rfl rfl rfl (fun v40 L40 h40 => ?_); obtain ⟨z40, rfl, hz40, rfl⟩ := h40; refine Zv Zmi ?_) | (refine WP_cond_false rfl ?_) | (with_reducible apply WP_block) | (with_reducible apply WP_exit)) | (refine Zhn ?_) | (refine Zhx ?_) | (with_reducible apply QBlock_hit) | (with_reducible apply QLoop_exit))
    have hzn : 0 ≤ z40 ∧ z40 ≤ 4 := hz40
    obtain ⟨z, rfl⟩ : ∃ z : Nat, z40 = (z : Int) := ⟨z40.toNat, by omega⟩
    clear hz40
    obtain ⟨Ac, cc, ec, hrc⟩ := RdRows.sv (E := 3) (by omega) hs37
    rw [ec]
    have hrcl : ∀ L', Wk L' (svH 3 1 g.d.banks.length (ints (cdL g.d.banks.length nx)) s37 []) → RdI N w0 L' Ac (cdL g.d.banks.length nx) := fun L' hL => hrc N w0 L' (i1 _) hL (ints_flat _) (by intro r hr; simp only [i1, List.mem_map] at hr; obtain ⟨_, _, rfl⟩ := hr; rfl)
    obtain ⟨bC, oC, rfl⟩ : ∃ bC oC, Ac = some ⟨bC, oC, none⟩ := by
      obtain ⟨b, o, h, _⟩ := RdRows.row (hrcl _ Wk.sv0 : RdI N w0 (svH 3 1 g.d.banks.length (ints (cdL g.d.banks.length nx)) s37 []) Ac (cdL g.d.banks.length nx)) 0 (by rw [cdL_len]; omega)
      exact ⟨b, o, h⟩
    have hcd : ∀ y, y < g.d.banks.length → ∀ L', Wk L' (svH 3 1 g.d.banks.length (ints (cdL g.d.banks.length nx)) s37 []) → Rd N w0 L' bC (oC + y) (.int .i64 (codeO (nx y))) := fun y hy L' hL => by
      have := (hrcl L' hL).at_ (i := y) (by rw [cdL_len]; exact hy)
      rwa [cdL_lvl hy] at this
    refine WP_loop [10, 41, 42, 43, 44, 45, 46, 47, 48, 49, 50, 51, 52, 53, 54, 55, 56, 57, 58, 59, 60, 61, 62, 63, 64, 65] (fun st : Nat × List Sp × Option (Nat × Nat) => [(41, .int .i64 (st.1 : Int))]) (fun (st : Nat × List Sp × Option (Nat × Nat)) => svH 32 2 st.2.1.length (st.2.1.map spL).flatten st.2.2 (svH 3 1 g.d.banks.length (ints (cdL g.d.banks.length nx)) s37 (svH 3 1 g.d.banks.length (ints ys) s2 (svH 3 1 g.d.banks.length (ints lv) s1 ((b4, Blk 29 [.slice g.A1 g.d.banks.length g.c1, .slice g.A2 g.d.ways.length g.c2, .slice g.A3 g.d.rights.length g.c3, svV st.2.2 st.2.1.length]) :: (b2, Blk 29 [.slice g.A1 g.d.banks.length g.c1, .slice g.A2 g.d.ways.length g.c2, .slice g.A3 g.d.rights.length g.c3, .slice g.A4 g.d.seen.length g.c4]) :: (bc, Blk 3 [.int .i64 (2 * (g.d.banks.length : Int) + 1 + (st.1 : Int))]) :: (bu, Blk 45 [.slice A us.length c]) :: L)))))
      (fun (st : Nat × List Sp × Option (Nat × Nat)) => st.1 ≤ z ∧ st.2.1.length ≤ st.1 ∧ (∀ w ∈ st.2.1, GoodW g.d lv w) ∧ svOk st.2.2 2 st.2.1.length (st.2.1.map spL).flatten) (fun (st : Nat × List Sp × Option (Nat × Nat)) => z - st.1) (0, [], none) (.cons rfl .nil) (by dsimp only; rw [show (2 : Int) * (g.d.banks.length : Int) + 1 + ((0 : Nat) : Int) = 2 * (g.d.banks.length : Int) + 1 by omega]; exact Wk.refl _) ⟨Nat.zero_le _, Nat.le_refl _, fun w hw => by simp at hw, svOk_nil _⟩ ?_
    rintro ⟨i, ss, s3⟩ j2 ⟨hi, hss, hgood, hs3⟩
    dsimp only at hi hss hgood hs3 ⊢
    by_cases hil : i < z
    · have hdr := fun L L' => drawn_tri N w0 L L' bc bu A c us hB hu (0, (g.d.banks.length : Int) - 1) (by dsimp only; omega) (2 * (g.d.banks.length : Int) + 1 + (i : Int)) (by omega)
      repeat' (first | (refine Znh ?_) | (refine GiW ?_; first | (refine Zsq fun K hK => ?_) | (refine ZrN 10 fun _ => ?_; refine Zv Zylss ?_) | (refine ZrN 11 fun _ => ?_; refine Zv Zmv ?_; refine Zv Zmv ?_; refine Zv Zxlen ?_; refine Zv Zxsub ?_; refine Zcl (Enters_fn rfl) (h21 _ _ _) ?_; refine OPS_retKS (Enters_val rfl rfl) (hdr _ _ (by repeat (first | exact Up.here | apply Up.there | apply Up.sv)) (by repeat (first | exact Mem.here | assumption | apply Mem.there | apply Mem.sv | apply Mem.app)) (by repeat (first | exact Mem.here | assumption | apply Mem.there | apply Mem.sv | apply Mem.app)) (by repeat (first | exact Mem.here | assumption | apply Mem.there | apply Mem.sv | apply Mem.app)) (by repeat (first | exact Mem.here | assumption | apply Mem.there | apply Mem.sv | apply Mem.app))) rfl rfl rfl (fun v48 L48 h48 => ?_); obtain ⟨z48, rfl, hz48, rfl⟩ := h48; refine Zv Zai ?_) | (refine WP_cond_true rfl ?_) | (with_reducible apply WP_skip) | (with_reducible apply WP_block)) | (refine Zhn ?_))
      have hzq : 0 ≤ z48 ∧ z48 ≤ (g.d.banks.length : Int) - 1 := hz48
      obtain ⟨q, rfl⟩ : ∃ q : Nat, z48 = (q : Int) := ⟨z48.toNat, by omega⟩
      clear hz48
      have hqn : q < g.d.banks.length := by omega
      have hcq := hcd q hqn
      have hbe : (2 * (g.d.banks.length : Int) + 1 + ((i + 1 : Nat) : Int)) = 2 * (g.d.banks.length : Int) + 1 + (i : Int) + 1 := by omega
      cases hxq : nx q with
      | none =>
        rw [hxq] at hcq
        unfold codeO at hcq
        repeat' (first | (refine GiP ?_; first | (refine Znh ?_) | (with_reducible refine Znl ?_)) | (refine GiW ?_; first | (refine ZrN 12 fun _ => ?_; refine Zv Zmv ?_; refine Zv Zmi ?_; refine Zv Zia ?_; (first | (refine Zv (Val_loadD1 rfl (hcq _ (by repeat (first | exact Wk.sv0 | apply Wk.svD)))) ?_) | (refine Zv Zld ?_)); refine Zv Zygeq ?_) | (refine ZrN 14 fun _ => ?_; refine Zv Zxadd ?_; refine Zv Zmi ?_) | (refine WP_cond_false rfl ?_) | (with_reducible apply WP_skip)) | (refine Zhn ?_) | (with_reducible apply QBlock_normal))
        refine QLoop_normal (i + 1, ss, s3) (.cons rfl .nil) (by repeat (first | exact Off.frame rfl | exact Off.refl _ _ | refine Off.frameT rfl rfl ?_ | refine Off.upd rfl ?_ | refine Off.updO rfl ?_)) ?_ ⟨by dsimp only; omega, by dsimp only; omega, hgood, hs3⟩ (by dsimp only; omega)
        dsimp only
        rw [hbe]
        exact (by repeat (first | exact Wk.refl _ | apply Wk.keep1 | apply Wk.drop | apply Wk.sv | apply Wk.svD | apply Wk.appD))
      | some y =>
        rw [hxq] at hcq
        unfold codeO at hcq
        have hnext : ((ss ++ [((q : Int), (y : Int))]).map spL).flatten = (ss.map spL).flatten ++ [.int .i64 (q : Int), .int .i64 (y : Int)] := by simp [spL]
        have hg2 : ∀ w ∈ ss ++ [((q : Int), (y : Int))], GoodW g.d lv w := by
          intro w hw
          rcases List.mem_append.1 hw with h | h
          · exact hgood w h
          · rw [List.mem_singleton] at h
            exact ⟨q, y, h, hqn, by rw [hnx]; exact hxq⟩
        have hss4 : ss.length ≤ 4 := by omega
        repeat' (first | (refine GiP ?_; first | (refine Znh ?_) | (with_reducible refine Znl ?_) | (refine Zatd 63 ?_; refine Zag (fun s63 hs63 => ?_)) | (refine Zatd 64 ?_; refine Zv Zfa ?_) | (refine Zatn ?_; refine Zst ?_)) | (refine GiW ?_; first | (refine ZrN 12 fun _ => ?_; refine Zv Zmv ?_; refine Zv Zmi ?_; refine Zv Zia ?_; (first | (refine Zv (Val_loadD1 rfl (hcq _ (by repeat (first | exact Wk.sv0 | apply Wk.svD)))) ?_) | (refine Zv Zld ?_)); refine Zv Zygeq ?_) | (refine WP_cond_true rfl ?_) | (refine WP_drawn (id := 13) [0, 1, 2, 3, 4, 5, 6, 7] [8] (k := 3) prog_mixed (by kernel_rfl) rfl ?_; refine Zew rfl Zfa ?_; (first | (refine Zew rfl (Val_loadD1 rfl (hcq _ (by repeat (first | exact Wk.sv0 | apply Wk.svD)))) ?_) | (refine Zew rfl Zld ?_)); refine Zew rfl Zmi ?_; refine Zew rfl Zmv ?_; refine Zew rfl Zmi ?_; refine Zew rfl Zia ?_; (first | (refine Zew rfl (Val_loadD1 rfl (hcq _ (by repeat (first | exact Wk.sv0 | apply Wk.svD)))) ?_) | (refine Zew rfl Zld ?_)); refine Zec rfl (Enters_fn rfl) (fun X => h12 _ _ _) ?_)) | (with_reducible apply EWalk_nil) | (refine GiO ?_; first | (refine AnyO_done (by kernel_rfl) ?_; (try with_reducible apply noP_normal); try with_reducible exact key.out) | (refine AnyO_1 9 (by decide +kernel) rfl ?_) | (refine AnyO_1 10 (by decide +kernel) rfl ?_) | (refine AnyO_1 11 (by decide +kernel) rfl ?_)) | (refine Zhn ?_) | (with_reducible apply QBlock_normal) | (refine AWalk_1S (d := 62) rfl rfl rfl rfl blk_is (New_buildSliceR rfl rfl (by repeat (first | exact CellsR.nil | (apply CellsR.cA rfl) | (apply CellsR.c1S (by constructor) rfl))) rfl (by decide) rfl (by decide)) (fun b62 => ?_); refine ZisO ?_) | (with_reducible apply QAny_normal))
        all_goals
          repeat' (first | (with_reducible refine Znl ?_) | (refine ZrN 14 fun _ => ?_; refine Zv Zxadd ?_; refine Zv Zmi ?_))
          refine QLoop_normal (i + 1, ss ++ [((q : Int), (y : Int))], s63) (.cons rfl .nil) (by repeat (first | exact Off.frame rfl | exact Off.refl _ _ | refine Off.frameT rfl rfl ?_ | refine Off.upd rfl ?_ | refine Off.updO rfl ?_)) ?_ ⟨by dsimp only; omega, by dsimp only; rw [List.length_append, List.length_singleton]; omega, hg2, by dsimp only; rw [hnext, List.length_append]; exact hs63⟩ (by dsimp only; omega)
          dsimp only
          rw [hnext, hbe, List.length_append, List.length_singleton]
          exact (by repeat (first | exact Wk.refl _ | apply Wk.keep1 | apply Wk.drop | apply Wk.sv | apply Wk.svD | apply Wk.appD))
    · have hie : i = z := by omega
      subst hie
      repeat' (first | (refine Znh ?_) | (refine GiW ?_; first | (refine Zsq fun K hK => ?_) | (refine ZrN 10 fun _ => ?_; refine Zv Zylss ?_) | (refine ZrN 15 fun _ => ?_; refine Zv Zla ?_; refine Zv Zmv ?_; refine Zv Zmv ?_; refine Zst ?_; refine Zv Zav ?_; refine Zv Zav ?_) | (refine WP_cond_false rfl ?_) | (with_reducible apply WP_exit) | (with_reducible apply WP_ret)) | (refine Zhn ?_) | (refine Zhx ?_) | (with_reducible apply QBlock_hit) | (with_reducible apply QLoop_exit))
      refine QBody_res rfl (.cellN rfl (by repeat (first | exact Mem.here | assumption | apply Mem.there | apply Mem.sv | apply Mem.app)) (.here (.cons (.cons (.cons (.cons .nil))))) (.tmp rfl (.tmp rfl .nil))) rfl ?_
      exact ⟨_, (by repeat (first | exact Wk.refl _ | apply Wk.keep1 | apply Wk.drop | apply Wk.sv | apply Wk.svD | apply Wk.appD)), _, rfl, lv, ys, ss, s1, s2, s3, by rw [el, ey]; rfl, hlv, hys, by omega, hgood, hs1, hs2, hs3, rfl⟩
end
end Go.Proofs.Ytbhgpnbfdjoglaa
end

section
namespace Go.Proofs.Ytbhgpnbfdjoglaa
open Go.RowKit
theorem InR_at {l : List Sp} {r : List Int} (h : InR l r) {i : Nat} (hi : i < l.length) : l[i].1 ≤ lvl r i ∧ lvl r i ≤ l[i].2 := by
  obtain ⟨v, h1, h2, h3⟩ := h.get (List.getElem?_eq_getElem hi)
  unfold lvl
  rw [List.getD_eq_getElem?_getD, h1]
  exact ⟨h2, h3⟩
theorem yd_at {d : Dr} {ys : List Int} (h : InR (d.banks.map (·.yd)) ys) {z : Nat} (hz : z < d.banks.length) : loY d z ≤ lvl ys z ∧ lvl ys z ≤ hiY d z := by
  have := InR_at h (i := z) (by simpa using hz)
  unfold loY hiY
  rw [List.getD_eq_getElem?_getD, List.getElem?_eq_getElem (by simpa using hz)]
  exact this
theorem someB_only2 {d : Dr} (z : Nat) (h : someB d = true) : someB (onlyD d z) = true := by
  unfold someB at h ⊢
  rw [List.any_eq_true] at h ⊢
  obtain ⟨lv, h1, h2⟩ := h
  exact ⟨lv, h1, rightB_iff.2 fun w hw => rightB_iff.1 h2 w (pickL_sub _ _ _ w hw)⟩
theorem in_seen2 {N : Nat} {w0 : World} {g : Fg} (hin : ∀ L, DrainIn N w0 L g) (ls : List Sp) {s : Option (Nat × Nat)} {xs : List Value} (hx : xs = (ls.map spL).flatten) (hs : svOk s 2 ls.length xs) :
    ∃ A9 c9, svV s ls.length = .slice A9 ls.length c9 ∧ ∀ L', Sub (svH 32 2 ls.length xs s []) L' → DrainIn N w0 L' { g with d := { g.d with seen := ls }, A4 := A9, c4 := c9 } := by
  obtain ⟨A9, c9, e9, hsl⟩ := sl_sv (E := 32) (by omega) hs
  refine ⟨A9, c9, e9, fun L' hS w hI => ?_⟩
  obtain ⟨L0, hp⟩ := hS
  have hI2 := (hI.perm hp)
  rw [svH_nil] at hI2
  have hb := hin L' w hI
  exact ⟨hb.banks, hb.ways, hb.rights, hsl hI2 hx (map_len (f := spL) (fun _ => rfl) _)⟩
theorem bits_sub : ∀ x, x < 16 → ∀ y, y < 16 → (∀ i, i < 4 → x / 2 ^ i % 2 = 1 → y / 2 ^ i % 2 = 1) → x &&& (2 ^ 64 - 1 - y) = 0 := by decide +kernel
def seenD (d : Dr) (ss : List Sp) : Dr := { d with seen := ss }
section
variable {d : Dr} (v : VD d) {lv ys : List Int} {ss : List Sp} (hl : InR (d.banks.map (·.lv)) lv) (hy : InR (d.banks.map (·.yd)) ys) (hs : ss.length ≤ 4) (hg : ∀ w ∈ ss, GoodW d lv w)
include hl in
theorem lv_len : lv.length = d.banks.length := by rw [hl.len, List.length_map]
include v hl hs hg in
theorem seen_VD : VD (seenD d ss) where
  nb := v.nb
  nw := v.nw
  nr := v.nr
  ns := hs
  bk := v.bk
  wy := v.wy
  rt := v.rt
  se := by
    intro w hw
    obtain ⟨a, y, rfl, ha, hn⟩ := hg w hw
    have h1 := nxt_dec hn
    rw [lv_len hl] at h1
    show (0 ≤ (a : Int) ∧ (a : Int) < d.banks.length) ∧ (0 ≤ (y : Int) ∧ (y : Int) < d.banks.length) ∧ (a : Int) ≠ (y : Int)
    refine ⟨by omega, by omega, fun h => ?_⟩
    have h2 : a = y := by omega
    subst h2
    omega
include hl hg in
theorem seen_told : lv ∈ toldD (seenD d ss) := by
  refine toldD_mem.2 ⟨rowsD_iff.2 hl, rightB_iff.2 fun w hw => ?_⟩
  obtain ⟨a, y, rfl, ha, hn⟩ := hg w hw
  show codeO (nxt d.ways lv ((a : Int).toNat)) = (y : Int)
  rw [Int.toNat_natCast, hn]
  rfl
include hl hg in
theorem seen_some : someB (seenD d ss) = true := someB_told.2 (List.ne_nil_of_mem (seen_told hl hg))
include v hl hy in
theorem wat_in (ws : List Sp) {a : Nat} (ha : a < d.banks.length) : watN d.banks.length (nxt ws lv) (loY d) a ≤ watN d.banks.length (nxt ws lv) (lvl ys) a ∧ watN d.banks.length (nxt ws lv) (lvl ys) a ≤ watN d.banks.length (nxt ws lv) (hiY d) a ∧ 0 ≤ watN d.banks.length (nxt ws lv) (lvl ys) a ∧ watN d.banks.length (nxt ws lv) (lvl ys) a ≤ 100 := by
  have hnb := v.nb
  have hd : ∀ x y, nxt ws lv x = some y → y < d.banks.length ∧ lvl lv y < lvl lv x := fun x y h => by rw [← lv_len hl]; exact nxt_dec h
  have h1 := watN_mono hd (fun z hz => (yd_at hy hz).1) ha
  have h2 := watN_mono hd (fun z hz => (yd_at hy hz).2) ha
  have h3 := watN_bd hd (y := lvl ys) (fun z hz => by have := yd_at hy hz; have := yd_bd v z; omega) ha
  have h4 : (20 : Int) * (d.banks.length : Int) ≤ 100 := by omega
  omega
include v hl hy hs hg in
/-- What is returned of a bank. -/
theorem true_bank {a : Nat} (ha : a < d.banks.length) : errD (seenD d ss) (inN d.banks.length a) = 0 ∧
    NextV (seenD d ss) a / 2 ^ ((nxt d.ways lv a).getD d.banks.length) % 2 = 1 ∧ NextV (seenD d ss) a / 2 ^ (d.banks.length + 1) = 0 ∧ NextV (seenD d ss) a < 64 ∧
    EndsV (seenD d ss) a / 2 ^ (endN d.banks.length (nxt d.ways lv) a) % 2 = 1 ∧ EndsV (seenD d ss) a / 2 ^ d.banks.length = 0 ∧ EndsV (seenD d ss) a < 64 ∧
    ((WaterV (seenD d ss) a).1 ≤ watN d.banks.length (nxt d.ways lv) (lvl ys) a ∧ watN d.banks.length (nxt d.ways lv) (lvl ys) a ≤ (WaterV (seenD d ss) a).2) := by
  have hnb := v.nb
  have v' := seen_VD v hl hs hg
  have ht := seen_told hl hg
  have hin : inN d.banks.length (a : Int) = true := by simp only [inN, decide_eq_true_eq]; omega
  have he : errD (seenD d ss) true = 0 := errD_1 (vB_of v') rfl (seen_some hl hg)
  have hin2 : inN (seenD d ss).banks.length (a : Int) = true := hin
  have e1 : NextV (seenD d ss) a = nextS (seenD d ss) a := by unfold NextV; rw [hin2, if_pos he]; rfl
  have e2 : EndsV (seenD d ss) a = endsS (seenD d ss) a := by unfold EndsV; rw [hin2, if_pos he]; rfl
  have e3 : WaterV (seenD d ss) a = waterS (seenD d ss) a := by unfold WaterV; rw [hin2, if_pos he]; rfl
  have hlen : ∀ q ∈ toldD (seenD d ss), q.length = d.banks.length := fun q hq => rowsD_len (d := seenD d ss) (toldD_mem.1 hq).1
  have b1 : nextS (seenD d ss) a < 2 ^ (d.banks.length + 1) := orS_lt fun n hn => by
    obtain ⟨q, hq, rfl⟩ := List.mem_map.1 hn
    show (nxt d.ways q a).getD d.banks.length < _
    cases h : nxt d.ways q a with
    | none => show d.banks.length < _; omega
    | some y => have := (nxt_dec h).1; rw [hlen q hq] at this; show y < _; omega
  have b2 : endsS (seenD d ss) a < 2 ^ d.banks.length := orS_lt fun n hn => by
    obtain ⟨q, hq, rfl⟩ := List.mem_map.1 hn
    show endN d.banks.length (nxt d.ways q) a < _
    exact endF_lt (l := lvl q) (fun x y h => by rw [← hlen q hq]; exact nxt_dec h) _ _ ha
  have hp : 2 ^ (d.banks.length + 1) ≤ 2 ^ 6 := Nat.pow_le_pow_right (by omega) (by omega)
  have hp2 : 2 ^ d.banks.length ≤ 2 ^ 6 := Nat.pow_le_pow_right (by omega) (by omega)
  rw [e1, e2, e3]
  refine ⟨by rw [hin]; exact he, ?_, Nat.div_eq_of_lt b1, by omega, ?_, Nat.div_eq_of_lt b2, by omega, ?_⟩
  · exact orS_bit.2 (List.mem_map.2 ⟨lv, ht, rfl⟩)
  · exact orS_bit.2 (List.mem_map.2 ⟨lv, ht, rfl⟩)
  · have hj : ((toldD (seenD d ss)).map fun lv => watS (seenD d ss) (nxt (seenD d ss).ways lv) a) ≠ [] := by simpa using List.ne_nil_of_mem ht
    have h1 := (jn_hull _ hj).2.2 _ (List.mem_map.2 ⟨lv, ht, rfl⟩)
    have h2 := wat_in v hl hy d.ways ha
    have e : watS (seenD d ss) (nxt (seenD d ss).ways lv) a = (watN d.banks.length (nxt d.ways lv) (loY d) a, watN d.banks.length (nxt d.ways lv) (hiY d) a) := rfl
    rw [e] at h1
    show (jn _).1 ≤ _ ∧ _ ≤ (jn _).2
    dsimp only at h1
    omega
include v hl hy hs hg in
/-- What goes straight to another bank. -/
theorem true_flow {a b : Nat} (ha : a < d.banks.length) (hb : b < d.banks.length) (hab : a ≠ b) : errD (seenD d ss) (twoB d.banks.length a b) = 0 ∧
    (FlowV (seenD d ss) a b).1 ≤ (if nxt d.ways lv a = some b then watN d.banks.length (nxt d.ways lv) (lvl ys) a else 0) ∧ (if nxt d.ways lv a = some b then watN d.banks.length (nxt d.ways lv) (lvl ys) a else 0) ≤ (FlowV (seenD d ss) a b).2 := by
  have v' := seen_VD v hl hs hg
  have ht := seen_told hl hg
  have htw : twoB d.banks.length (a : Int) (b : Int) = true := by simp only [twoB, inN, Bool.and_eq_true, decide_eq_true_eq]; omega
  have htw2 : twoB (seenD d ss).banks.length (a : Int) (b : Int) = true := htw
  have he : errD (seenD d ss) true = 0 := errD_1 (vB_of v') rfl (seen_some hl hg)
  have e3 : FlowV (seenD d ss) a b = flowsS (seenD d ss) a b := by unfold FlowV; rw [htw2, if_pos he]; rfl
  refine ⟨by rw [htw]; exact he, ?_⟩
  rw [e3]
  have hj : ((toldD (seenD d ss)).map fun lv => flowS (seenD d ss) (nxt (seenD d ss).ways lv) a b) ≠ [] := by simpa using List.ne_nil_of_mem ht
  have h1 := (jn_hull _ hj).2.2 _ (List.mem_map.2 ⟨lv, ht, rfl⟩)
  have h2 := wat_in v hl hy d.ways ha
  have e : flowS (seenD d ss) (nxt (seenD d ss).ways lv) a b = if nxt d.ways lv a = some b then (watN d.banks.length (nxt d.ways lv) (loY d) a, watN d.banks.length (nxt d.ways lv) (hiY d) a) else (0, 0) := rfl
  rw [e] at h1
  show (jn _).1 ≤ _ ∧ _ ≤ (jn _).2
  by_cases h : nxt d.ways lv a = some b
  · rw [if_pos h] at h1 ⊢
    dsimp only at h1
    omega
  · rw [if_neg h] at h1 ⊢
    dsimp only at h1
    omega
include v hl hy hs hg in
/-- Rights: those that are broken, those that are kept, and all of them with drains stopped. -/
theorem true_right {i : Nat} (hi : i < d.rights.length) : 
    (nxt d.ways lv d.rights[i].a.toNat = some d.rights[i].b.toNat → d.rights[i].most < watN d.banks.length (nxt d.ways lv) (lvl ys) d.rights[i].a.toNat → perhS (seenD d ss) / 2 ^ i % 2 = 1) ∧
    (¬ (nxt d.ways lv d.rights[i].a.toNat = some d.rights[i].b.toNat ∧ d.rights[i].most < watN d.banks.length (nxt d.ways lv) (lvl ys) d.rights[i].a.toNat) → sureS (seenD d ss) / 2 ^ i % 2 ≠ 1) ∧
    (nxt (keepL (stopS (seenD d ss)) d.ways 0) lv d.rights[i].a.toNat = some d.rights[i].b.toNat → watN d.banks.length (nxt (keepL (stopS (seenD d ss)) d.ways 0) lv) (lvl ys) d.rights[i].a.toNat ≤ d.rights[i].most) := by
  have v' := seen_VD v hl hs hg
  have ht := seen_told hl hg
  have h0 := seen_some hl hg
  have hr := v.rt _ (List.getElem_mem hi)
  have hrm : d.rights[i] ∈ (seenD d ss).rights := List.getElem_mem hi
  obtain ⟨r, hre⟩ : ∃ r, d.rights[i] = r := ⟨_, rfl⟩
  have hF : rtF (seenD d ss) i = flowsS (seenD d ss) r.a.toNat r.b.toNat := by
    unfold rtF
    have : (seenD d ss).rights[i]? = some r := by rw [← hre]; exact List.getElem?_eq_getElem hi
    rw [this]
  have hM : rtM (seenD d ss) i = r.most := by
    unfold rtM
    have : (seenD d ss).rights[i]? = some r := by rw [← hre]; exact List.getElem?_eq_getElem hi
    rw [this]
  rw [hre] at hr hrm ⊢
  have ha : r.a.toNat < d.banks.length := by omega
  have hj : ((toldD (seenD d ss)).map fun lv => flowS (seenD d ss) (nxt (seenD d ss).ways lv) r.a.toNat r.b.toNat) ≠ [] := by simpa using List.ne_nil_of_mem ht
  have h1 : (flowsS (seenD d ss) r.a.toNat r.b.toNat).1 ≤ (flowS (seenD d ss) (nxt d.ways lv) r.a.toNat r.b.toNat).1 ∧ (flowS (seenD d ss) (nxt d.ways lv) r.a.toNat r.b.toNat).2 ≤ (flowsS (seenD d ss) r.a.toNat r.b.toNat).2 := (jn_hull _ hj).2.2 _ (List.mem_map.2 ⟨lv, ht, rfl⟩)
  have h2 := wat_in v hl hy d.ways ha
  have e : ∀ nx : Nat → Option Nat, flowS (seenD d ss) nx r.a.toNat r.b.toNat = if nx r.a.toNat = some r.b.toNat then (watN d.banks.length nx (loY d) r.a.toNat, watN d.banks.length nx (hiY d) r.a.toNat) else (0, 0) := fun _ => rfl
  rw [e] at h1
  refine ⟨fun k1 k2 => ?_, fun k => ?_, fun k => ?_⟩
  · rw [if_pos k1] at h1
    dsimp only at h1
    unfold perhS
    rw [bitsOf_bit, decide_eq_true_eq, hF, hM]
    exact ⟨hi, by omega⟩
  · unfold sureS
    intro hc
    rw [bitsOf_bit, decide_eq_true_eq, hF, hM] at hc
    obtain ⟨_, hc⟩ := hc
    by_cases h : nxt d.ways lv r.a.toNat = some r.b.toNat
    · rw [if_pos h] at h1
      dsimp only at h1
      exact k ⟨h, by omega⟩
    · rw [if_neg h] at h1
      dsimp only at h1
      omega
  · have h3 := (stop_facts v' h0).2.1
    unfold enoughB at h3
    rw [List.all_eq_true] at h3
    have h4 := h3 lv ht
    unfold keepS1 at h4
    rw [List.all_eq_true] at h4
    have h5 := h4 r hrm
    rw [decide_eq_true_eq, e] at h5
    have k' : nxt (keepL (stopS (seenD d ss)) (seenD d ss).ways 0) lv r.a.toNat = some r.b.toNat := k
    rw [if_pos k'] at h5
    have h6 := wat_in v hl hy (keepL (stopS (seenD d ss)) d.ways 0) ha
    have h7 : watN d.banks.length (nxt (keepL (stopS (seenD d ss)) d.ways 0) lv) (hiY d) r.a.toNat ≤ r.most := h5
    omega
include v hl hy hs hg in
theorem true_sets : errD (seenD d ss) true = 0 ∧ ClashE (seenD d ss) = 4 ∧ sureS (seenD d ss) < 16 ∧ perhS (seenD d ss) < 16 ∧ sureS (seenD d ss) &&& (2 ^ 64 - 1 - perhS (seenD d ss)) = 0 ∧ stopS (seenD d ss) < 128 ∧ stopS (seenD d ss) / 2 ^ d.ways.length = 0 := by
  have v' := seen_VD v hl hs hg
  have h0 := seen_some hl hg
  have hnr := v.nr
  have hnw := v.nw
  have hp : 2 ^ d.rights.length ≤ 2 ^ 4 := Nat.pow_le_pow_right (by omega) (by omega)
  have hp7 : 2 ^ d.ways.length ≤ 2 ^ 7 := Nat.pow_le_pow_right (by omega) (by omega)
  have h1 : sureS (seenD d ss) < 2 ^ d.rights.length := bitsOf_lt _ _
  have h2 : perhS (seenD d ss) < 2 ^ d.rights.length := bitsOf_lt _ _
  have h3 : stopS (seenD d ss) < 2 ^ d.ways.length := (stop_facts v' h0).1
  refine ⟨errD_1 (vB_of v') rfl h0, ?_, by omega, by omega, ?_, by omega, Nat.div_eq_of_lt h3⟩
  · have hn : clashS (seenD d ss) = none := by
      unfold clashS
      rw [List.find?_eq_none]
      intro x _
      simp [someB_only2 x h0]
    simp [ClashE, vB_of v', hn]
  · refine bits_sub _ (by omega) _ (by omega) fun i _ h => ?_
    unfold sureS at h
    rw [bitsOf_bit, decide_eq_true_eq] at h
    unfold perhS
    rw [bitsOf_bit, decide_eq_true_eq]
    obtain ⟨hi, h⟩ := h
    have hi2 : i < d.rights.length := hi
    refine ⟨hi, ?_⟩
    have hr := v.rt _ (List.getElem_mem hi2)
    obtain ⟨r, hre⟩ : ∃ r, d.rights[i] = r := ⟨_, rfl⟩
    have hF : rtF (seenD d ss) i = flowsS (seenD d ss) r.a.toNat r.b.toNat := by
      unfold rtF
      have : (seenD d ss).rights[i]? = some r := by rw [← hre]; exact List.getElem?_eq_getElem hi2
      rw [this]
    rw [hre] at hr
    rw [hF] at h ⊢
    have ha : r.a.toNat < d.banks.length := by omega
    have ht := seen_told hl hg
    have hj : ((toldD (seenD d ss)).map fun lv => flowS (seenD d ss) (nxt (seenD d ss).ways lv) r.a.toNat r.b.toNat) ≠ [] := by simpa using List.ne_nil_of_mem ht
    have h1 : (flowsS (seenD d ss) r.a.toNat r.b.toNat).1 ≤ (flowS (seenD d ss) (nxt d.ways lv) r.a.toNat r.b.toNat).1 ∧ (flowS (seenD d ss) (nxt d.ways lv) r.a.toNat r.b.toNat).2 ≤ (flowsS (seenD d ss) r.a.toNat r.b.toNat).2 := (jn_hull _ hj).2.2 _ (List.mem_map.2 ⟨lv, ht, rfl⟩)
    have h2 := wat_in v hl hy d.ways ha
    have e : flowS (seenD d ss) (nxt d.ways lv) r.a.toNat r.b.toNat = if nxt d.ways lv r.a.toNat = some r.b.toNat then (watN d.banks.length (nxt d.ways lv) (loY d) r.a.toNat, watN d.banks.length (nxt d.ways lv) (hiY d) r.a.toNat) else (0, 0) := rfl
    rw [e] at h1
    by_cases h : nxt d.ways lv r.a.toNat = some r.b.toNat
    · rw [if_pos h] at h1
      dsimp only at h1
      omega
    · rw [if_neg h] at h1
      dsimp only at h1
      omega
end
/-- The water of all ends is that of all yields. -/
theorem true_sum {d : Dr} {lv : List Int} (hl : lv.length = d.banks.length) (ys : List Int) : sumN d.banks.length (fun b => if nxt d.ways lv b = none then watN d.banks.length (nxt d.ways lv) (lvl ys) b else 0) = sumN d.banks.length (lvl ys) :=
  ends_sum (l := lvl lv) (fun x y h => by rw [← hl]; exact nxt_dec h) (lvl ys)
end Go.Proofs.Ytbhgpnbfdjoglaa
end
