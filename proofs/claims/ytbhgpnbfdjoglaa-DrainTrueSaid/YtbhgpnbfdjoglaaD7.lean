/- The law DrainTrue: its walk. -/
import Derived.Test.YtbhgpnbfdjoglaaF3
import Derived.Test.YtbhgpnbfdjoglaaC2
import Derived.Test.YtbhgpnbfdjoglaaC3
section
namespace Go.Proofs.Ytbhgpnbfdjoglaa
open Go.RowKit
/-- What is drawn. -/
structure TS where
  lv : List Int
  ys : List Int
  ss : List Sp
  s1 : Option (Nat × Nat)
  s2 : Option (Nat × Nat)
  s3 : Option (Nat × Nat)
  b : Nat
structure TSok (d : Dr) (t : TS) : Prop where
  hl : InR (d.banks.map (·.lv)) t.lv
  hy : InR (d.banks.map (·.yd)) t.ys
  hs : t.ss.length ≤ 4
  hg : ∀ w ∈ t.ss, GoodW d t.lv w
  k1 : svOk t.s1 1 d.banks.length (ints t.lv)
  k2 : svOk t.s2 1 d.banks.length (ints t.ys)
  k3 : svOk t.s3 2 t.ss.length (t.ss.map spL).flatten
section
variable {P : Program} {N : Nat} {w0 : World} {L : Hp} {e : Env} {d : Option Nat} {ty : TypeId} {pos : String} {af : Array Edge} {g : Option (Nat × Bool)}
theorem Val_shrF {x y : Operand} {t t' : TypeId} {a b c : Nat} (hc : a / 2 ^ b = c) (hb : b ≤ 64) (hx : ev e x = .int .i64 (a : Int)) (hy : ev e y = .int .i64 (b : Int)) : Val P N w0 L e ⟨d, .binOp .shr t x y t', ty, pos, af, g⟩ (.int .i64 (c : Int)) := by
  subst hc
  exact Val_shr hx hy (by show b ≤ 64; exact hb)
theorem Val_shrI {x y : Operand} {t t' : TypeId} {a b c : Nat} {z : Int} (hc : a / 2 ^ b = c) (hb : b ≤ 64) (hz : z = (b : Int)) (hx : ev e x = .int .i64 (a : Int)) (hy : ev e y = .int .i64 z) : Val P N w0 L e ⟨d, .binOp .shr t x y t', ty, pos, af, g⟩ (.int .i64 (c : Int)) := by
  subst hz
  exact Val_shrF hc hb hx hy
end
section
variable {P : Program} {r : Option Nat} {n N : Nat} {w0 : World} {Q : Post} {ds : List Deferred} {e : Env} {L : Hp}
variable {ops : Array Oper} {B : Hp} {fl T : List Nat} {k2 n0 fuel : Nat}
theorem AnyC_cutJ {σ : Type} {k : Nat} {D0 : List Nat} (D : List Nat) (ws : List Nat) (sl : σ → List (Nat × Value)) (Lp : σ → Hp) (J : σ → Prop) (h2 : ∀ s j, J s → AnyC P r n N w0 ops Q ds fl B T k2 (k + 1) (doneOf n0 D) (frame ws e (sl s) j) (Lp s))
    (h1 : (∀ s e' L', Slots e' (sl s) → Off ws e' e → Sub (Lp s) L' → J s → AnyC P r n N w0 ops Q ds fl B T k2 (k + 1) (doneOf n0 D) e' L') → AnyC P r n N w0 ops Q ds fl B T k2 fuel (doneOf n0 D0) e L) : AnyC P r n N w0 ops Q ds fl B T k2 fuel (doneOf n0 D0) e L := by
  refine h1 fun s e' L' hs ho hS hJ => ?_
  have hf : e' = frame ws e (sl s) e' := frame_intro hs.look ho
  obtain ⟨a, b, c⟩ := h2 s e' hJ
  rw [← hf] at c
  obtain ⟨L0, hp⟩ := hS
  have hS2 : Sub B L' := by
    obtain ⟨L1, hp1⟩ := a
    exact ⟨L1 ++ L0, hp.trans ((hp1.append_right L0).trans (by rw [List.append_assoc]))⟩
  refine ⟨hS2, b, fun i hi => ?_⟩
  obtain ⟨o, ho, h3⟩ := c i hi
  exact ⟨o, ho, fun a w hs he hd hI => h3 a w hs he hd ((hI.perm (hp.trans List.perm_append_comm)).wk (.app L0 _))⟩
/-- What is known of the tmps, alone. -/
theorem WP_gen {c : Code} (ws : List Nat) (sl : List (Nat × Value)) (hs : Slots e sl) (h : ∀ e1, WP P r n N w0 c Q (frame ws e1 sl e1) ds L) : WP P r n N w0 c Q e ds L := by
  have hf : e = frame ws e sl e := frame_intro hs.look (Off.refl _ _)
  rw [hf]
  exact h e
end
theorem perm3b {α : Type} {x a b : α} {R : List α} : (x :: a :: b :: R).Perm (a :: b :: x :: R) := (List.Perm.swap a x _).trans (.cons a (.swap b x _))
theorem sub_up3 {E1 E2 E3 : TypeId} {z1 z2 z3 k1 k2 k3 : Nat} {x1 x2 x3 : List Value} {s1 s2 s3 : Option (Nat × Nat)} {x : Nat × (Obj → Prop)} {L : Hp} : Sub (x :: svH E1 z1 k1 x1 s1 (svH E2 z2 k2 x2 s2 (svH E3 z3 k3 x3 s3 L))) (svH E1 z1 k1 x1 s1 (svH E2 z2 k2 x2 s2 (svH E3 z3 k3 x3 s3 (x :: L)))) := by
  refine ⟨[], ?_⟩
  rw [List.append_nil]
  have h1 : (svH E3 z3 k3 x3 s3 (x :: L)).Perm (x :: svH E3 z3 k3 x3 s3 L) := (svH_mid (X := [x])).symm
  have h2 : (svH E2 z2 k2 x2 s2 (x :: svH E3 z3 k3 x3 s3 L)).Perm (x :: svH E2 z2 k2 x2 s2 (svH E3 z3 k3 x3 s3 L)) := (svH_mid (X := [x])).symm
  have h3 : (svH E1 z1 k1 x1 s1 (x :: svH E2 z2 k2 x2 s2 (svH E3 z3 k3 x3 s3 L))).Perm (x :: svH E1 z1 k1 x1 s1 (svH E2 z2 k2 x2 s2 (svH E3 z3 k3 x3 s3 L))) := (svH_mid (X := [x])).symm
  exact (svH_perm ((svH_perm h1).trans h2)).trans h3
theorem codeO_eq2 {o : Option Nat} {b : Nat} : codeO o = (b : Int) ↔ o = some b := by
  cases o with
  | none =>
    refine ⟨fun h => ?_, fun h => by cases h⟩
    simp only [codeO] at h; omega
  | some c => simp only [codeO, Option.some.injEq]; omega
theorem sumN_prefix (f : Nat → Int) : ∀ k, (∀ z, z < k → 0 ≤ f z ∧ f z ≤ 100) → 0 ≤ sumN k f ∧ sumN k f ≤ 100 * k := fun k h => sumN_bd (by omega) h
attribute [local irreducible] AnyO AnyB QAny QB EWalk AWalk Ev WP OPS QThen QBlock QScope QLoop QBody Val New Turn Tri Enters PostA Blk Ro
attribute [local irreducible] AnyC QC
section
variable (N : Nat) (w0 : World)
theorem true_law0 (L : Hp) (g : Fg) (hA : DrAt N w0 g) (A : Option Addr) (m c : Nat) (h : farB g.d = true ∨ vB g.d = false) : Ret Try.prog N w0 L 4 [drV g, .slice A m c].toArray (.bool true) := by
  have h28 := fun L => long_ret N w0 L g
  have h13 := fun L => alive_ret N w0 L
  cases hf : farB g.d with
  | true =>
    rw [hf] at h28
    refine Ret.fgt ?_
    refine tri_of_WP Try.func4 rfl (n := _) rfl (by simp) ?_
    unfold drV drL at h28 ⊢
    repeat' (first | (refine GiP ?_; first | (refine Znh ?_) | (refine Zatd 45 ?_; (first | (refine Zv Zxpt ?_) | (refine Zv Zxpf ?_))) | (refine Zatd 42 ?_; first | refine Zsk ?_ | (refine Zv Zla ?_)) | (refine Zatd 44 ?_; first | refine Zsk ?_ | (refine Zv Zxnot ?_)) | (refine Zsk ?_)) | (refine GiW ?_; first | (refine Zsq fun K hK => ?_) | (refine ZrN 0 fun _ => ?_; refine Zal 2 fun b2 => ?_; refine Zv Zab ?_) | (refine ZrG 1 ?_; refine Zv Zla ?_; refine Zcl (Enters_fn rfl) (h28 _) ?_; refine Zv Zmb ?_) | (refine ZrN 2 fun _ => ?_; refine Zcl (Enters_fn rfl) (h13 _) ?_; refine Zv Zab ?_) | (refine WP_cond_true rfl ?_) | (with_reducible apply WP_ret)) | (refine Zhr ?_))
    exact QBody_ret1 rfl (rfl : _ = Value.bool _) ⟨rfl, (by repeat (first | exact Wk.refl _ | apply Wk.keep1 | apply Wk.drop | apply Wk.sv | apply Wk.svD | apply Wk.appD))⟩
  | false =>
    have hvb : vB g.d = false := by rcases h with h | h; rw [h] at hf; cases hf; exact h
    have h29 := fun L => rDrain_in N w0 L g (DrainIn.at_ hA) hf
    rw [hf] at h28
    rw [hvb] at h29
    refine Ret.fgt ?_
    refine tri_of_WP Try.func4 rfl (n := _) rfl (by simp) ?_
    unfold drV drL at h28 h29 ⊢
    repeat' (first | (refine GiP ?_; first | (refine Znh ?_) | (refine Zatd 45 ?_; (first | (refine Zv Zxpt ?_) | (refine Zv Zxpf ?_))) | (refine Zatd 42 ?_; first | refine Zsk ?_ | (refine Zv Zla ?_)) | (refine Zatd 43 ?_; first | refine Zsk ?_ | (refine Zcl (Enters_fn rfl) (h29 _) ?_)) | (refine Zatd 44 ?_; first | refine Zsk ?_ | (refine Zv Zxnot ?_))) | (refine GiW ?_; first | (refine Zsq fun K hK => ?_) | (refine ZrN 0 fun _ => ?_; refine Zal 2 fun b2 => ?_; refine Zv Zab ?_) | (refine ZrG 1 ?_; refine Zv Zla ?_; refine Zcl (Enters_fn rfl) (h28 _) ?_; refine Zv Zmb ?_) | (refine ZrN 2 fun _ => ?_; refine Zcl (Enters_fn rfl) (h13 _) ?_; refine Zv Zab ?_) | (refine WP_cond_true rfl ?_) | (with_reducible apply WP_ret)) | (refine Zhr ?_))
    exact QBody_ret1 rfl (rfl : _ = Value.bool _) ⟨rfl, (by repeat (first | exact Wk.refl _ | apply Wk.keep1 | apply Wk.drop | apply Wk.sv | apply Wk.svD | apply Wk.appD))⟩
set_option maxRecDepth 20000 in
set_option maxHeartbeats 8000000 in
theorem true_law1 (L : Hp) (g : Fg) (hA : DrAt N w0 g) (A : Option Addr) (c : Nat) (us : List Nat) (hB : SlAt N w0 A 1 (u16L us)) (hu : ∀ u ∈ us, u ≤ 65535) (hvb : vB g.d = true) : Ret Try.prog N w0 L 4 [drV g, .slice A us.length c].toArray (.bool true) := by
  have hv := VD_of hvb
  have hnb := hv.nb
  have hnw := hv.nw
  have hnr := hv.nr
  have hf := farB_vB hvb
  have h28 := fun L => long_ret N w0 L g
  have h13 := fun L => alive_ret N w0 L
  have h29 := fun L => rDrain_in N w0 L g (DrainIn.at_ hA) hf
  rw [hf] at h28
  rw [hvb] at h29
  have htr := fun L bc bu => truly_tri N w0 L g hA hv bc bu A c us hB hu
  refine Ret.fgt ?_
  refine tri_of_WP Try.func4 rfl (n := _) rfl (by simp) ?_
  unfold drV drL at h28 h29 htr ⊢
  obtain ⟨n, hn⟩ : ∃ n, g.d.banks.length = n := ⟨_, rfl⟩
  rw [hn] at h28 h29 htr hnb ⊢
  repeat' (first | (refine GiP ?_; first | (refine Znh ?_) | (refine Zatd 45 ?_; (first | (refine Zv Zxpt ?_) | (refine Zv Zxpf ?_))) | (refine Zatd 42 ?_; first | refine Zsk ?_ | (refine Zv Zla ?_)) | (refine Zatd 43 ?_; first | refine Zsk ?_ | (refine Zcl (Enters_fn rfl) (h29 _) ?_)) | (refine Zatd 44 ?_; first | refine Zsk ?_ | (refine Zv Zxnot ?_))) | (refine GiW ?_; first | (refine Zsq fun K hK => ?_) | (refine ZrN 0 fun _ => ?_; refine Zal 2 fun b2 => ?_; refine Zv Zab ?_) | (refine ZrG 1 ?_; refine Zv Zla ?_; refine Zcl (Enters_fn rfl) (h28 _) ?_; refine Zv Zmb ?_) | (refine WP_cond_false rfl ?_) | (with_reducible apply WP_skip)) | (refine Zhn ?_))
  refine WP_joinS (by assumption) [5, 6, 7, 47, 48, 49, 50, 51, 52, 53, 54] (fun t : TS => [(5, .pointer (some ⟨t.b, 0, none⟩)), (6, svV t.s1 n), (7, svV t.s2 n)]) (fun (t : TS) => (t.b, Blk 29 [.slice g.A1 n g.c1, .slice g.A2 g.d.ways.length g.c2, .slice g.A3 g.d.rights.length g.c3, svV t.s3 t.ss.length]) :: svH 32 2 t.ss.length (t.ss.map spL).flatten t.s3 (svH 3 1 n (ints t.ys) t.s2 (svH 3 1 n (ints t.lv) t.s1 ((b2, Blk 29 [.slice g.A1 n g.c1, .slice g.A2 g.d.ways.length g.c2, .slice g.A3 g.d.rights.length g.c3, .slice g.A4 g.d.seen.length g.c4]) :: L)))) (fun (t : TS) => TSok g.d t) ?_ ?_
  · intro K' hC
    repeat' (first | (refine WP_drawnS (id := 3) (B := (b2, Blk 29 [.slice g.A1 n g.c1, .slice g.A2 g.d.ways.length g.c2, .slice g.A3 g.d.rights.length g.c3, .slice g.A4 g.d.seen.length g.c4]) :: L) [0, 1] [0, 1] [] [48, 49] (k := 9) (k2 := 1) (by repeat (first | exact Sub.refl _ | apply Sub.keep | apply Sub.appK | apply Sub.sv | apply Sub.cons | apply Sub.app)) (by kernel_rfl) prog_mixed (by kernel_rfl) (by kernel_rfl) rfl ?_; refine Zew rfl Zla ?_; refine Zew rfl Zmv ?_) | (with_reducible apply EWalk_nil) | (refine AWalk_0 ?_))
    refine AnyC_cutJ (k := 4) (D0 := [0, 1]) [0, 1, 2, 3, 4, 8] [5, 47, 50, 51] (fun t : TS => [(5, .pointer (some ⟨t.b, 0, none⟩)), (47, .tuple [.agg [.slice g.A1 n g.c1, .slice g.A2 g.d.ways.length g.c2, .slice g.A3 g.d.rights.length g.c3, svV t.s3 t.ss.length].toArray, svV t.s1 n, svV t.s2 n].toArray)]) (fun (t : TS) => (t.b, Blk 29 [.slice none 0 0, .slice none 0 0, .slice none 0 0, .slice none 0 0]) :: svH 32 2 t.ss.length (t.ss.map spL).flatten t.s3 (svH 3 1 n (ints t.ys) t.s2 (svH 3 1 n (ints t.lv) t.s1 ((b2, Blk 29 [.slice g.A1 n g.c1, .slice g.A2 g.d.ways.length g.c2, .slice g.A3 g.d.rights.length g.c3, .slice g.A4 g.d.seen.length g.c4]) :: L)))) (fun (t : TS) => TSok g.d t) ?_ ?_
    · rintro ⟨lv, ys, ss, s1, s2, s3, b5⟩ j9 hok
      dsimp only
      repeat' (first | (refine GiP ?_; first | (with_reducible refine Znl ?_) | (refine Zatd 52 ?_; refine Zv Zxex ?_) | (refine Zatd 53 ?_; refine Zv Zxex ?_) | (refine Zatd 54 ?_; refine Zv Zxex ?_) | (refine Zatn ?_; refine Zst ?_) | (refine Zatd 6 ?_; refine Zv Zav ?_) | (refine Zatd 7 ?_; refine Zv Zav ?_)) | (refine GiC ?_; first | (refine ZgC [0, 1, 2, 3, 4, 5, 6, 7, 8] ?_; refine ZC1 _ 9 [0, 1, 2, 3, 4, 5, 6, 7, 8, 9] ?_) | (refine ZgC [0, 1, 2, 3, 4, 5, 6, 7, 8, 9] ?_; refine ZC1 _ 10 [0, 1, 2, 3, 4, 5, 6, 7, 8, 9, 10] ?_) | (refine ZgC [0, 1, 2, 3, 4, 5, 6, 7, 8, 9, 10] ?_; refine ZCl _ ?_) | (refine ZgC [0, 1, 2, 3, 4, 5, 6, 8] ?_; refine ZC2 _ 7 [0, 1, 2, 3, 4, 5, 6, 7, 8] 9 [0, 1, 2, 3, 4, 5, 6, 8, 9] ?_ ?_) | (refine ZgC [0, 1, 2, 3, 4, 5, 6, 8, 9] ?_; refine ZC2 _ 7 [0, 1, 2, 3, 4, 5, 6, 7, 8, 9] 10 [0, 1, 2, 3, 4, 5, 6, 8, 9, 10] ?_ ?_) | (refine ZgC [0, 1, 2, 3, 4, 5, 6, 8, 9, 10] ?_; refine ZC1 _ 7 [0, 1, 2, 3, 4, 5, 6, 7, 8, 9, 10] ?_) | (refine ZgC [0, 1, 2, 3, 4, 5, 7, 8] ?_; refine ZC2 _ 6 [0, 1, 2, 3, 4, 5, 6, 7, 8] 9 [0, 1, 2, 3, 4, 5, 7, 8, 9] ?_ ?_) | (refine ZgC [0, 1, 2, 3, 4, 5, 7, 8, 9] ?_; refine ZC1 _ 6 [0, 1, 2, 3, 4, 5, 6, 7, 8, 9] ?_) | (refine ZgC [0, 1, 2, 3, 4, 5, 8] ?_; refine ZC3 _ 6 [0, 1, 2, 3, 4, 5, 6, 8] 7 [0, 1, 2, 3, 4, 5, 7, 8] 9 [0, 1, 2, 3, 4, 5, 8, 9] ?_ ?_ ?_) | (refine ZgC [0, 1, 2, 3, 4, 5, 8, 9] ?_; refine ZC2 _ 6 [0, 1, 2, 3, 4, 5, 6, 8, 9] 7 [0, 1, 2, 3, 4, 5, 7, 8, 9] ?_ ?_) | (refine ZgC [0, 1, 2, 3, 4, 6, 7, 8] ?_; refine ZC1 _ 5 [0, 1, 2, 3, 4, 5, 6, 7, 8] ?_) | (refine ZgC [0, 1, 2, 3, 4, 6, 8] ?_; refine ZC2 _ 5 [0, 1, 2, 3, 4, 5, 6, 8] 7 [0, 1, 2, 3, 4, 6, 7, 8] ?_ ?_) | (refine ZgC [0, 1, 2, 3, 4, 7, 8] ?_; refine ZC2 _ 5 [0, 1, 2, 3, 4, 5, 7, 8] 6 [0, 1, 2, 3, 4, 6, 7, 8] ?_ ?_) | (refine ZgC [0, 1, 2, 3, 4, 8] ?_; refine ZC3 _ 5 [0, 1, 2, 3, 4, 5, 8] 6 [0, 1, 2, 3, 4, 6, 8] 7 [0, 1, 2, 3, 4, 7, 8] ?_ ?_ ?_)) | (refine GiO ?_; first | (refine ZgO [0, 1, 2, 3, 4, 5, 6, 7, 8, 9, 10] ?_; refine ZO1 _ 11 [0, 1, 2, 3, 4, 5, 6, 7, 8, 9, 10, 11] ?_) | (refine ZgO [0, 1, 2, 3, 4, 5, 6, 7, 8, 9, 10, 11] ?_; refine ZOd _ ?_; (try with_reducible apply noP_normal); (try with_reducible exact key.out))) | (with_reducible apply QAny_normal) | (with_reducible apply QC_normal))
      all_goals exact hC.nor ⟨lv, ys, ss, s1, s2, s3, b5⟩ _ _ (.cons rfl (.cons rfl (.cons rfl .nil))) (by repeat (first | exact Off.frame rfl | exact Off.refl _ _ | refine Off.frameT rfl rfl ?_ | refine Off.upd rfl ?_ | refine Off.updO rfl ?_)) (by first | exact Sub.refl _ | exact sub_up3 | exact (by repeat (first | exact Sub.nil | exact Sub.refl _ | assumption | exact Sub.left | apply Sub.svK | apply Sub.sv | apply Sub.cons | apply Sub.app))) hok
    intro hcut8
    refine AnyC_cutJ (k := 5) (D0 := [0, 1]) [0, 1, 2, 3, 4] [47, 50, 51] (fun t : TS => [(47, .tuple [.agg [.slice g.A1 n g.c1, .slice g.A2 g.d.ways.length g.c2, .slice g.A3 g.d.rights.length g.c3, svV t.s3 t.ss.length].toArray, svV t.s1 n, svV t.s2 n].toArray)]) (fun (t : TS) => svH 32 2 t.ss.length (t.ss.map spL).flatten t.s3 (svH 3 1 n (ints t.ys) t.s2 (svH 3 1 n (ints t.lv) t.s1 ((b2, Blk 29 [.slice g.A1 n g.c1, .slice g.A2 g.d.ways.length g.c2, .slice g.A3 g.d.rights.length g.c3, .slice g.A4 g.d.seen.length g.c4]) :: L)))) (fun (t : TS) => ∀ b, TSok g.d { t with b := b }) ?_ ?_
    · rintro ⟨lv, ys, ss, s1, s2, s3, b0⟩ j9 hok
      dsimp only at hok ⊢
      repeat' (first | (refine GiP ?_; first | (with_reducible refine Znl ?_) | (refine Zatd 52 ?_; refine Zv Zxex ?_) | (refine Zatd 53 ?_; refine Zv Zxex ?_) | (refine Zatd 54 ?_; refine Zv Zxex ?_) | (refine Zatd 5 ?_; refine Zal 5 fun b5 => ?_) | (refine Zatn ?_; refine Zst ?_) | (refine Zatd 6 ?_; refine Zv Zav ?_) | (refine Zatd 7 ?_; refine Zv Zav ?_)) | (refine GiC ?_; first | (refine ZgC [0, 1, 2, 3, 4] ?_; refine ZC4 _ 5 [0, 1, 2, 3, 4, 5] 6 [0, 1, 2, 3, 4, 6] 7 [0, 1, 2, 3, 4, 7] 8 [0, 1, 2, 3, 4, 8] ?_ ?_ ?_ ?_) | (refine ZgC [0, 1, 2, 3, 4, 5] ?_; refine ZC3 _ 6 [0, 1, 2, 3, 4, 5, 6] 7 [0, 1, 2, 3, 4, 5, 7] 8 [0, 1, 2, 3, 4, 5, 8] ?_ ?_ ?_) | (refine ZgC [0, 1, 2, 3, 4, 5, 6] ?_; refine ZC2 _ 7 [0, 1, 2, 3, 4, 5, 6, 7] 8 [0, 1, 2, 3, 4, 5, 6, 8] ?_ ?_) | (refine ZgC [0, 1, 2, 3, 4, 5, 6, 7] ?_; refine ZC1 _ 8 [0, 1, 2, 3, 4, 5, 6, 7, 8] ?_) | (refine ZgC [0, 1, 2, 3, 4, 5, 6, 7, 8] ?_; refine ZC1 _ 9 [0, 1, 2, 3, 4, 5, 6, 7, 8, 9] ?_) | (refine ZgC [0, 1, 2, 3, 4, 5, 6, 7, 8, 9] ?_; refine ZC1 _ 10 [0, 1, 2, 3, 4, 5, 6, 7, 8, 9, 10] ?_) | (refine ZgC [0, 1, 2, 3, 4, 5, 6, 7, 8, 9, 10] ?_; refine ZCl _ ?_) | (refine ZgC [0, 1, 2, 3, 4, 5, 6, 8] ?_; refine ZC2 _ 7 [0, 1, 2, 3, 4, 5, 6, 7, 8] 9 [0, 1, 2, 3, 4, 5, 6, 8, 9] ?_ ?_) | (refine ZgC [0, 1, 2, 3, 4, 5, 6, 8, 9] ?_; refine ZC2 _ 7 [0, 1, 2, 3, 4, 5, 6, 7, 8, 9] 10 [0, 1, 2, 3, 4, 5, 6, 8, 9, 10] ?_ ?_) | (refine ZgC [0, 1, 2, 3, 4, 5, 6, 8, 9, 10] ?_; refine ZC1 _ 7 [0, 1, 2, 3, 4, 5, 6, 7, 8, 9, 10] ?_) | (refine ZgC [0, 1, 2, 3, 4, 5, 7] ?_; refine ZC2 _ 6 [0, 1, 2, 3, 4, 5, 6, 7] 8 [0, 1, 2, 3, 4, 5, 7, 8] ?_ ?_) | (refine ZgC [0, 1, 2, 3, 4, 5, 7, 8] ?_; refine ZC2 _ 6 [0, 1, 2, 3, 4, 5, 6, 7, 8] 9 [0, 1, 2, 3, 4, 5, 7, 8, 9] ?_ ?_) | (refine ZgC [0, 1, 2, 3, 4, 5, 7, 8, 9] ?_; refine ZC1 _ 6 [0, 1, 2, 3, 4, 5, 6, 7, 8, 9] ?_) | (refine ZgC [0, 1, 2, 3, 4, 5, 8] ?_; refine ZC3 _ 6 [0, 1, 2, 3, 4, 5, 6, 8] 7 [0, 1, 2, 3, 4, 5, 7, 8] 9 [0, 1, 2, 3, 4, 5, 8, 9] ?_ ?_ ?_) | (refine ZgC [0, 1, 2, 3, 4, 5, 8, 9] ?_; refine ZC2 _ 6 [0, 1, 2, 3, 4, 5, 6, 8, 9] 7 [0, 1, 2, 3, 4, 5, 7, 8, 9] ?_ ?_) | (refine ZgC [0, 1, 2, 3, 4, 6] ?_; refine ZC3 _ 5 [0, 1, 2, 3, 4, 5, 6] 7 [0, 1, 2, 3, 4, 6, 7] 8 [0, 1, 2, 3, 4, 6, 8] ?_ ?_ ?_) | (refine ZgC [0, 1, 2, 3, 4, 6, 7] ?_; refine ZC2 _ 5 [0, 1, 2, 3, 4, 5, 6, 7] 8 [0, 1, 2, 3, 4, 6, 7, 8] ?_ ?_) | (refine ZgC [0, 1, 2, 3, 4, 6, 7, 8] ?_; refine ZC1 _ 5 [0, 1, 2, 3, 4, 5, 6, 7, 8] ?_) | (refine ZgC [0, 1, 2, 3, 4, 6, 8] ?_; refine ZC2 _ 5 [0, 1, 2, 3, 4, 5, 6, 8] 7 [0, 1, 2, 3, 4, 6, 7, 8] ?_ ?_) | (refine ZgC [0, 1, 2, 3, 4, 7] ?_; refine ZC3 _ 5 [0, 1, 2, 3, 4, 5, 7] 6 [0, 1, 2, 3, 4, 6, 7] 8 [0, 1, 2, 3, 4, 7, 8] ?_ ?_ ?_) | (refine ZgC [0, 1, 2, 3, 4, 7, 8] ?_; refine ZC2 _ 5 [0, 1, 2, 3, 4, 5, 7, 8] 6 [0, 1, 2, 3, 4, 6, 7, 8] ?_ ?_) | (refine ZgC [0, 1, 2, 3, 4, 8] ?_; refine ZC3 _ 5 [0, 1, 2, 3, 4, 5, 8] 6 [0, 1, 2, 3, 4, 6, 8] 7 [0, 1, 2, 3, 4, 7, 8] ?_ ?_ ?_)) | (refine GiO ?_; first | (refine ZgO [0, 1, 2, 3, 4, 5, 6, 7, 8, 9, 10] ?_; refine ZO1 _ 11 [0, 1, 2, 3, 4, 5, 6, 7, 8, 9, 10, 11] ?_) | (refine ZgO [0, 1, 2, 3, 4, 5, 6, 7, 8, 9, 10, 11] ?_; refine ZOd _ ?_; (try with_reducible apply noP_normal); (try with_reducible exact key.out))) | (with_reducible apply QAny_normal) | (with_reducible apply QC_normal))
      all_goals exact hC.nor ⟨lv, ys, ss, s1, s2, s3, b5⟩ _ _ (.cons rfl (.cons rfl (.cons rfl .nil))) (by repeat (first | exact Off.frame rfl | exact Off.refl _ _ | refine Off.frameT rfl rfl ?_ | refine Off.upd rfl ?_ | refine Off.updO rfl ?_)) (by first | exact Sub.refl _ | exact sub_up3 | exact (by repeat (first | exact Sub.nil | exact Sub.refl _ | assumption | exact Sub.left | apply Sub.svK | apply Sub.sv | apply Sub.cons | apply Sub.app))) (hok b5)
    intro hcut
    repeat' (first | (refine GiP ?_; first | (with_reducible refine Znl ?_) | (refine Zatd 50 ?_; refine OPS_retKS (Enters_fn rfl) (draws_tri N w0 _ A us.length c) rfl rfl rfl (fun v50 L50 h50 => ?_); obtain ⟨bc, bu, rfl, rfl⟩ := h50) | (refine Zatd 51 ?_; refine OPS_retKS (Enters_fn rfl) (Tri.perm (htr _ bc bu) (by first | exact List.Perm.refl _ | exact perm3b)) rfl rfl rfl (fun v51 L51 h51 => ?_); obtain ⟨lv, ys, ss, s1, s2, s3, rfl, q1, q2, q3, q4, q5, q6, q7, rfl⟩ := h51) | (refine Zatd 47 ?_; refine Zv Zmv ?_) | (refine Zatd 5 ?_; refine Zal 5 fun b5 => ?_)) | (refine GiC ?_; first | (refine ZgC [0, 1] ?_; refine ZC2 _ 2 [0, 1, 2] 8 [0, 1, 8] ?_ ?_) | (refine ZgC [0, 1, 2] ?_; refine ZC2 _ 3 [0, 1, 2, 3] 8 [0, 1, 2, 8] ?_ ?_) | (refine ZgC [0, 1, 2, 3] ?_; refine ZC2 _ 4 [0, 1, 2, 3, 4] 8 [0, 1, 2, 3, 8] ?_ ?_) | (refine ZgC [0, 1, 2, 3, 4] ?_; refine hcut ⟨lv, ys, ss, s1, s2, s3, 0⟩ _ _ ?_ ?_ ?_ ?_) | (refine ZgC [0, 1, 2, 3, 4, 8] ?_; refine hcut8 ⟨lv, ys, ss, s1, s2, s3, b5⟩ _ _ ?_ ?_ ?_ ?_) | (refine ZgC [0, 1, 2, 3, 8] ?_; refine ZC1 _ 4 [0, 1, 2, 3, 4, 8] ?_) | (refine ZgC [0, 1, 2, 8] ?_; refine ZC1 _ 3 [0, 1, 2, 3, 8] ?_) | (refine ZgC [0, 1, 8] ?_; refine ZC1 _ 2 [0, 1, 2, 8] ?_)) | (with_reducible apply QC_normal))
    all_goals try exact Slots.cons rfl .nil
    all_goals try exact Slots.cons rfl (.cons rfl .nil)
    all_goals try exact (fun b => ⟨q1, q2, q3, q4, by rw [hn]; exact q5, by rw [hn]; exact q6, q7⟩)
    all_goals try exact ⟨q1, q2, q3, q4, by rw [hn]; exact q5, by rw [hn]; exact q6, q7⟩
    all_goals try exact Sub.refl _
    all_goals try exact sub_up3
    all_goals exact (by repeat (first | exact Off.frame rfl | exact Off.refl _ _ | refine Off.frameT rfl rfl ?_ | refine Off.upd rfl ?_ | refine Off.updO rfl ?_))
  rintro ⟨lv, ys, ss, s1, s2, s3, b5⟩ j3 ⟨hl, hy, hs, hg, k1, k2, k3⟩
  dsimp only at hl hy hs hg k1 k2 k3 ⊢
  rw [hn] at k1 k2
  have hll : lv.length = n := by rw [hl.len, List.length_map, hn]
  have hyl : ys.length = n := by rw [hy.len, List.length_map, hn]
  have hv' := seen_VD hv hl hs hg
  obtain ⟨x1, x2, x3, x4, x5, x6, x7⟩ := true_sets hv hl hy hs hg
  obtain ⟨Al, cl, el, hrl⟩ := RdRows.sv (E := 3) (by omega) k1
  obtain ⟨Ay, cy, ey, hry⟩ := RdRows.sv (E := 3) (by omega) k2
  obtain ⟨A9, c9, e9, hin9⟩ := in_seen2 (fun L => DrainIn.at_ (L := L) hA) ss rfl k3
  rw [el, ey, e9]
  obtain ⟨H, hH⟩ : ∃ H, (b5, Blk 29 [.slice g.A1 n g.c1, .slice g.A2 g.d.ways.length g.c2, .slice g.A3 g.d.rights.length g.c3, .slice A9 ss.length c9]) :: svH 32 2 ss.length (ss.map spL).flatten s3 (svH 3 1 n (ints ys) s2 (svH 3 1 n (ints lv) s1 ((b2, Blk 29 [.slice g.A1 n g.c1, .slice g.A2 g.d.ways.length g.c2, .slice g.A3 g.d.rights.length g.c3, .slice g.A4 g.d.seen.length g.c4]) :: L))) = H := ⟨_, rfl⟩
  have m2 : Mem b2 (Blk 29 [.slice g.A1 n g.c1, .slice g.A2 g.d.ways.length g.c2, .slice g.A3 g.d.rights.length g.c3, .slice g.A4 g.d.seen.length g.c4]) H := by rw [← hH]; exact (by repeat (first | exact Mem.here | assumption | apply Mem.there | apply Mem.sv | apply Mem.app))
  have m5 : Mem b5 (Blk 29 [.slice g.A1 n g.c1, .slice g.A2 g.d.ways.length g.c2, .slice g.A3 g.d.rights.length g.c3, .slice A9 ss.length c9]) H := by rw [← hH]; exact (by repeat (first | exact Mem.here | assumption | apply Mem.there | apply Mem.sv | apply Mem.app))
  have hrl2 : ∀ L', Sub H L' → RdI N w0 L' Al lv := fun L' hL => by
    have h1 : RdI N w0 H Al lv := by rw [← hH]; exact hrl N w0 _ (i1 lv) (by repeat (first | exact Wk.sv0 | apply Wk.svD | apply Wk.drop)) (ints_flat _) (by intro r hr; simp only [i1, List.mem_map] at hr; obtain ⟨_, _, rfl⟩ := hr; rfl)
    exact h1.wk hL
  have hry2 : ∀ L', Sub H L' → RdI N w0 L' Ay ys := fun L' hL => by
    have h1 : RdI N w0 H Ay ys := by rw [← hH]; exact hry N w0 _ (i1 ys) (by repeat (first | exact Wk.sv0 | apply Wk.svD | apply Wk.drop)) (ints_flat _) (by intro r hr; simp only [i1, List.mem_map] at hr; obtain ⟨_, _, rfl⟩ := hr; rfl)
    exact h1.wk hL
  have hWH : Wk H L := by rw [← hH]; exact (by repeat (first | exact Wk.refl _ | apply Wk.keep1 | apply Wk.drop | apply Wk.sv | apply Wk.svD | apply Wk.appD))
  obtain ⟨gx, hgx⟩ : ∃ gx : Fg, { g with d := { g.d with seen := ss }, A4 := A9, c4 := c9 } = gx := ⟨_, rfl⟩
  have hd' : gx.d = seenD g.d ss := by rw [← hgx]; rfl
  have hin2 : ∀ L', Sub H L' → DrainIn N w0 L' gx := fun L' hL => by rw [← hgx]; exact hin9 L' (Sub.trans (by rw [← hH, ← svH_nil (B := svH 3 1 n (ints ys) s2 _)]; exact .cons .left) hL)
  have hdr' : drL gx = [.slice g.A1 n g.c1, .slice g.A2 g.d.ways.length g.c2, .slice g.A3 g.d.rights.length g.c3, .slice A9 ss.length c9] := by rw [← hgx]; unfold drL; dsimp only; rw [hn]
  rw [hH]
  clear hH
  -- what is returned
  have c1 := fun L' hL => Clash_in N w0 L' gx (hin2 L' hL)
  have c2 := fun L' hL => Breaks_in N w0 L' gx (hin2 L' hL)
  have c3 := fun L' hL => Stop_in N w0 L' gx (hin2 L' hL)
  have z1 : SureV (seenD g.d ss) = sureS (seenD g.d ss) := by simp [SureV, x1]
  have z2 : PerhV (seenD g.d ss) = perhS (seenD g.d ss) := by simp [PerhV, x1]
  have z3 : StopN (seenD g.d ss) = pc (stopS (seenD g.d ss)) := by simp [StopN, x1]
  have z4 : StopV (seenD g.d ss) = stopS (seenD g.d ss) := by simp [StopV, x1]
  unfold drV at c1 c2 c3
  rw [hd', hdr', x2] at c1
  rw [hd', hdr', x1, z1, z2] at c2
  rw [hd', hdr', x1, z3, z4] at c3
  have c4 := fun L' a hL => Next_in N w0 L' gx (hin2 L' hL) a
  have c5 := fun L' a hL => Ends_in N w0 L' gx (hin2 L' hL) a
  have c6 := fun L' a hL => Water_in N w0 L' gx (hin2 L' hL) a
  have c7 := fun L' a b hL => Flow_in N w0 L' gx (hin2 L' hL) a b
  have hbn : (seenD g.d ss).banks.length = n := hn
  unfold drV at c4 c5 c6 c7
  rw [hd', hdr'] at c4 c5 c6 c7
  rw [hbn] at c4 c5 c6 c7
  have tb := fun a (ha : a < n) => true_bank hv hl hy hs hg (a := a) (by omega)
  have tf := fun a b (ha : a < n) (hb : b < n) hab => true_flow hv hl hy hs hg (a := a) (b := b) (by omega) (by omega) hab
  have tr := fun i (hi : i < g.d.rights.length) => true_right hv hl hy hs hg hi
  have tw := fun ws a (ha : a < n) => wat_in hv hl hy ws (a := a) (by omega)
  have tsum := true_sum (d := g.d) (by rw [hll, hn]) ys
  have tyb := fun z (hz : z < n) => yd_at hy (z := z) (by omega)
  have tyd := fun z => yd_bd hv z
  rw [hn] at tb tf tr tw tsum
  obtain ⟨S, hS⟩ : ∃ y, sureS (seenD g.d ss) = y := ⟨_, rfl⟩
  obtain ⟨P, hP⟩ : ∃ y, perhS (seenD g.d ss) = y := ⟨_, rfl⟩
  obtain ⟨Z, hZ⟩ : ∃ y, stopS (seenD g.d ss) = y := ⟨_, rfl⟩
  rw [hS] at c2 tr x3 x5
  rw [hP] at c2 tr x4 x5
  rw [hZ] at c3 tr x6 x7
  have hsz := fun L => size_ret N w0 L Z x6
  -- the courses and the waters
  have hcr := fun L' hL stop hst => courses_tri N w0 L' g hA hv lv (by rw [hll, hn]) Al cl (hrl2 L' hL) stop hst
  simp only [crsO_cdL] at hcr
  unfold drV drL at hcr
  rw [hll, hn] at hcr
  have hcr1 := fun L' hL => hcr L' hL 0 (by omega)
  have hk0 : keepL 0 g.d.ways 0 = g.d.ways := keepL_zero _ _
  rw [hk0] at hcr1
  have hdn : ∀ ws a y, nxt ws lv a = some y → y < n ∧ lvl lv y < lvl lv a := fun ws a y h => by rw [← hll]; exact nxt_dec h
  have hlw := fun ws L' Ac cc hrc hL => lwaters_tri N w0 L' n hnb (nxt ws lv) (lvl lv) (hdn ws) Ac cc hrc ys hyl (fun z hz => by have := tyb z hz; have := tyd z; omega) Ay cy (hry2 L' hL)
  obtain ⟨nx, hnx⟩ : ∃ nx, nxt g.d.ways lv = nx := ⟨_, rfl⟩
  have hdn1 := hdn g.d.ways
  have hlw1 := hlw g.d.ways
  have tw1 := tw g.d.ways
  rw [hnx] at hcr1 hdn1 hlw1 tb tf tr tw1 tsum
  repeat' (first | (refine Znh ?_) | (refine GiW ?_; first | (refine Zsq fun K hK => ?_) | (refine ZrN 4 fun _ => ?_; refine Zv Zmv ?_; refine Zv Zxlen ?_; refine Zv Zai ?_) | (refine ZrN 5 fun _ => ?_; refine Zv Zla ?_; refine Zv Zmv ?_; refine OPS_retKS (Enters_fn rfl) (hcr1 _ (Sub.refl _)) rfl rfl rfl (fun v59 L59 h59 => ?_); obtain ⟨s59, rfl, hs59, rfl⟩ := h59; refine Zv Zav ?_)))
  obtain ⟨Ac, cc, ec, hrc⟩ := RdRows.sv (E := 3) (by omega) hs59
  rw [ec]
  have hrcl : ∀ L', Wk L' (svH 3 1 n (ints (cdL n nx)) s59 []) → RdI N w0 L' Ac (cdL n nx) := fun L' hL => hrc N w0 L' (i1 _) hL (ints_flat _) (by intro r hr; simp only [i1, List.mem_map] at hr; obtain ⟨_, _, rfl⟩ := hr; rfl)
  obtain ⟨bC, oC, rfl⟩ : ∃ bC oC, Ac = some ⟨bC, oC, none⟩ := by
    obtain ⟨b, o, h, _⟩ := RdRows.row (hrcl _ Wk.sv0 : RdI N w0 (svH 3 1 n (ints (cdL n nx)) s59 []) Ac (cdL n nx)) 0 (by rw [cdL_len]; omega)
    exact ⟨b, o, h⟩
  obtain ⟨bY, oY, rfl⟩ : ∃ bY oY, Ay = some ⟨bY, oY, none⟩ := by
    obtain ⟨b, o, h, _⟩ := RdRows.row (hry2 H (Sub.refl _)) 0 (by omega)
    exact ⟨b, o, h⟩
  have hlw2 := hlw1 (svH 3 1 n (ints (cdL n nx)) s59 H) _ cc (hrcl _ Wk.sv0) (by repeat (first | exact Sub.nil | exact Sub.refl _ | assumption | exact Sub.left | apply Sub.svK | apply Sub.sv | apply Sub.cons | apply Sub.app))
  obtain ⟨W, hW⟩ : ∃ W, wsum n nx (lvl ys) n = W := ⟨_, rfl⟩
  have hWl : W.length = n := by rw [← hW]; exact wsum_len _ _ _ _
  have hWg : ∀ a, a < n → lvl W a = watN n nx (lvl ys) a := fun a ha => by rw [← hW]; exact wsum_wat hdn1 (lvl ys) ha
  rw [hW] at hlw2
  repeat' (first | (refine Znh ?_) | (refine GiW ?_; first | (refine Zsq fun K hK => ?_) | (refine ZrN 6 fun _ => ?_; refine Zv Zmv ?_; refine Zv Zmv ?_; refine OPS_retKS (Enters_fn rfl) hlw2 rfl rfl rfl (fun v62 L62 h62 => ?_); obtain ⟨b62, rfl, rfl⟩ := h62; refine Zv Zav ?_)))
  obtain ⟨H3, hH3⟩ : ∃ H3, (b62, Blk 3 (ints W)) :: svH 3 1 n (ints (cdL n nx)) s59 H = H3 := ⟨_, rfl⟩
  have hS3 : Sub H H3 := by rw [← hH3]; exact (by repeat (first | exact Sub.nil | exact Sub.refl _ | assumption | exact Sub.left | apply Sub.svK | apply Sub.sv | apply Sub.cons | apply Sub.app))
  have m62 : Mem b62 (Blk 3 (ints W)) H3 := by rw [← hH3]; exact .here
  have m23 : Mem b2 (Blk 29 [.slice g.A1 n g.c1, .slice g.A2 g.d.ways.length g.c2, .slice g.A3 g.d.rights.length g.c3, .slice g.A4 g.d.seen.length g.c4]) H3 := by rw [← hH3]; exact (by repeat (first | exact Mem.here | assumption | apply Mem.there | apply Mem.sv | apply Mem.app))
  have m53 : Mem b5 (Blk 29 [.slice g.A1 n g.c1, .slice g.A2 g.d.ways.length g.c2, .slice g.A3 g.d.rights.length g.c3, .slice A9 ss.length c9]) H3 := by rw [← hH3]; exact (by repeat (first | exact Mem.here | assumption | apply Mem.there | apply Mem.sv | apply Mem.app))
  have hWH3 : Wk H3 L := by rw [← hH3]; exact .drop (.svD hWH)
  have hcd : ∀ y, y < n → ∀ L', Wk L' H3 → Rd N w0 L' bC (oC + y) (.int .i64 (codeO (nx y))) := fun y hy L' hL => by
    have h3 : Wk H3 (svH 3 1 n (ints (cdL n nx)) s59 []) := by rw [← hH3]; exact .drop Wk.sv0
    have := ((hrcl H3 h3).wkk hL).at_ (i := y) (by rw [cdL_len]; exact hy)
    rwa [cdL_lvl hy] at this
  have hyd : ∀ y, y < n → ∀ L', Wk L' H3 → Rd N w0 L' bY (oY + y) (.int .i64 (lvl ys y)) := fun y hy L' hL => ((hry2 H3 hS3).wkk hL).at_ (by omega)
  have hWc : ∀ y, y < n → (ints W)[0 + y]? = some (.int .i64 (watN n nx (lvl ys) y)) := fun y hy => by
    have := ints_get (l := W) (x := y) (by omega)
    rwa [hWg y hy] at this
  rw [hH3]
  have d1 := c1 H3 hS3
  have d2 := c2 H3 hS3
  have d3 := c3 H3 hS3
  clear c1 c2 c3 m2 m5 hrcl hlw2 hlw1 hcr1 hrc
  repeat' (first | (refine GiP ?_; first | (refine Znh ?_) | (refine Zatd 85 ?_; (first | (refine Zv Zxpt ?_) | (refine Zv Zxpf ?_)); refine Zv Zmb ?_) | (refine Zatd 91 ?_; (first | (refine Zv Zxpt ?_) | (refine Zv Zxpf ?_)); refine Zv Zmb ?_) | (refine Zatd 95 ?_; (first | (refine Zv Zxpt ?_) | (refine Zv Zxpf ?_)); refine Zv Zmb ?_) | (refine Zatd 99 ?_; (first | (refine Zv Zxpt ?_) | (refine Zv Zxpf ?_)); refine Zv Zmb ?_) | (refine Zatd 107 ?_; (first | (refine Zv Zxpt ?_) | (refine Zv Zxpf ?_)); refine Zv Zmb ?_) | (refine Zatd 113 ?_; (first | (refine Zv Zxpt ?_) | (refine Zv Zxpf ?_))) | (refine Zatd 83 ?_; first | refine Zsk ?_ | (refine Zv Zmi ?_)) | (refine Zatd 84 ?_; first | refine Zsk ?_ | (refine Zv Zyneq ?_)) | (refine Zatd 87 ?_; first | refine Zsk ?_ | (refine Zv Zmi ?_)) | (refine Zatd 88 ?_; first | refine Zsk ?_ | (refine Zv Zmi ?_)) | (refine Zatd 89 ?_; first | refine Zsk ?_ | (refine Zv (Val_andNotE x5 (by omega) (by omega) rfl rfl) ?_)) | (refine Zatd 90 ?_; first | refine Zsk ?_ | (refine Zv Zyneq ?_)) | (refine Zatd 93 ?_; first | refine Zsk ?_ | (refine Zv Zmi ?_)) | (refine Zatd 94 ?_; first | refine Zsk ?_ | (refine Zv Zyneq ?_)) | (refine Zatd 97 ?_; first | refine Zsk ?_ | (refine Zv Zmi ?_)) | (refine Zatd 98 ?_; first | refine Zsk ?_ | (refine Zv Zylss ?_)) | (refine Zatd 101 ?_; first | refine Zsk ?_ | (refine Zv Zmi ?_)) | (refine Zatd 102 ?_; first | refine Zsk ?_ | (refine Zv Zfa ?_)) | (refine Zatd 103 ?_; first | refine Zsk ?_ | (refine Zv Zld ?_)) | (refine Zatd 104 ?_; first | refine Zsk ?_ | (refine Zv Zxlen ?_)) | (refine Zatd 105 ?_; first | refine Zsk ?_ | (refine Zv (Val_shrF x7 (by omega) rfl rfl) ?_)) | (refine Zatd 106 ?_; first | refine Zsk ?_ | (refine Zv Zyneq ?_)) | (refine Zatd 109 ?_; first | refine Zsk ?_ | (refine Zv Zmi ?_)) | (refine Zatd 110 ?_; first | refine Zsk ?_ | (refine Zcl (Enters_fn rfl) (hsz _) ?_)) | (refine Zatd 111 ?_; first | refine Zsk ?_ | (refine Zv Zmi ?_)) | (refine Zatd 112 ?_; first | refine Zsk ?_ | (refine Zv Zyneq ?_))) | (refine GiW ?_; first | (refine Zsq fun K hK => ?_) | (refine ZrN 7 fun _ => ?_; refine Zv Zla ?_; refine Zcl (Enters_fn rfl) (d1) ?_; refine Zv Zmv ?_; refine Zv Zxex ?_; refine Zv Zxex ?_; refine Zv Zai ?_; refine Zv Zai ?_) | (refine ZrN 8 fun _ => ?_; refine Zv Zla ?_; refine Zcl (Enters_fn rfl) (d2) ?_; refine Zv Zmv ?_; refine Zv Zxex ?_; refine Zv Zxex ?_; refine Zv Zxex ?_; refine Zv Zai ?_; refine Zv Zai ?_; refine Zv Zai ?_) | (refine ZrN 9 fun _ => ?_; refine Zv Zla ?_; refine Zcl (Enters_fn rfl) (d3) ?_; refine Zv Zmv ?_; refine Zv Zxex ?_; refine Zv Zxex ?_; refine Zv Zxex ?_; refine Zv Zai ?_; refine Zv Zai ?_; refine Zv Zai ?_) | (refine ZrG 10 ?_; refine Zv Zmi ?_; refine Zv Zyneq ?_; refine Zv Zmb ?_) | (refine ZrN 12 fun _ => ?_; refine Zv Zai ?_; refine Zv Zai ?_) | (refine ZrN 13 fun _ => ?_; refine Zv Zmi ?_; refine Zv Zmi ?_) | (refine WP_cond_false rfl ?_) | (with_reducible apply WP_skip) | (with_reducible apply WP_block)) | (refine Zhn ?_))
  obtain ⟨fo, hfo⟩ : ∃ fo : Nat → Int, (fun b => if nx b = none then watN n nx (lvl ys) b else 0) = fo := ⟨_, rfl⟩
  have hfo2 : ∀ z, fo z = if nx z = none then watN n nx (lvl ys) z else 0 := fun z => by rw [← hfo]
  have hfob : ∀ z, z < n → 0 ≤ fo z ∧ fo z ≤ 100 := fun z hz => by
    rw [hfo2]
    have := tw1 z hz
    split <;> omega
  rw [hfo] at tsum
  have hyb : ∀ z, z < n → 0 ≤ lvl ys z ∧ lvl ys z ≤ 100 := fun z hz => by have := tyb z hz; have := tyd z; omega
  clear d1 d2 d3 h28 h29 htr x1 x2 x5 x7 hsz z1 z2 z3 z4
  refine WP_gen [2, 5, 6, 7, 8, 9, 10, 13, 14, 17, 19, 20, 114, 115] [(2, .pointer (some ⟨b2, 0, none⟩)), (5, .pointer (some ⟨b5, 0, none⟩)), (6, .slice Al n cl), (7, .slice (some ⟨bY, oY, none⟩) n cy), (8, .int .i64 (n : Int)), (9, .slice (some ⟨bC, oC, none⟩) n cc), (10, .slice (some ⟨b62, 0, none⟩) n n), (13, .int .i64 (S : Int)), (14, .int .i64 (P : Int)), (17, .int .i64 (Z : Int)), (19, .int .i64 0), (20, .int .i64 0), (114, .int .i64 (n : Int)), (115, .int .i64 0)] (.cons rfl (.cons rfl (.cons rfl (.cons rfl (.cons rfl (.cons rfl (.cons rfl (.cons rfl (.cons rfl (.cons rfl (.cons rfl (.cons rfl (.cons rfl (.cons rfl .nil)))))))))))))) fun e1 => ?_
  refine WP_loop [4, 19, 20, 21, 22, 23, 24, 25, 26, 27, 28, 29, 30, 31, 32, 33, 115, 116, 117, 118, 119, 120, 121, 122, 123, 124, 125, 126, 127, 128, 129, 130, 131, 132, 133, 134, 135, 136, 137, 138, 139, 140, 141, 142, 143, 144, 145, 146, 147, 148, 149, 150, 151, 152, 153, 154, 155, 156, 157, 158, 159, 160, 161, 162, 163, 164, 165, 166, 167, 168, 169, 170, 171, 172, 173, 174, 175, 176, 177, 178, 179, 180, 181, 182, 183, 184, 185, 186, 187, 188, 189, 190, 191, 192, 193, 194, 195, 196, 197, 198, 199, 200, 201, 202, 203, 204, 205, 206, 207, 208, 209, 210, 211, 212, 213, 214, 215, 216, 217, 218, 219, 220, 221, 222, 223, 224, 225, 226, 227, 228, 229, 230, 231, 232, 233, 234, 235, 236, 237, 238, 239, 240, 241, 242, 243, 244] (fun a : Nat => [(19, .int .i64 (sumN a (lvl ys))), (20, .int .i64 (sumN a fo)), (115, .int .i64 (a : Int))]) (fun _ => H3) (fun a => a ≤ n) (fun a => n - a) 0 (.cons rfl (.cons rfl (.cons rfl .nil))) (Wk.refl _) (Nat.zero_le _) ?_
  intro a j4 hale
  have p1 := sumN_prefix (lvl ys) a (fun z hz => hyb z (by omega))
  have p2 := sumN_prefix fo a (fun z hz => hfob z (by omega))
  by_cases ha : a < n
  · obtain ⟨b1, b2', b3, b4, b5', b6, b7, b8, b9⟩ := tb a ha
    have hca := hcd a ha
    have hya := hyd a ha
    have hwa := hWc a ha
    have e4 := fun L' hL => c4 L' (a : Int) hL
    have e5 := fun L' hL => c5 L' (a : Int) hL
    have e6 := fun L' hL => c6 L' (a : Int) hL
    rw [b1] at e4 e5 e6
    obtain ⟨nv, hnv⟩ : ∃ z, NextV (seenD g.d ss) a = z := ⟨_, rfl⟩
    obtain ⟨env, henv⟩ : ∃ z, EndsV (seenD g.d ss) a = z := ⟨_, rfl⟩
    obtain ⟨⟨u1, u2⟩, hwv⟩ : ∃ z : Sp, WaterV (seenD g.d ss) a = z := ⟨_, rfl⟩
    rw [hnv] at e4 b2' b3 b4
    rw [henv] at e5 b5' b6 b7
    rw [hwv] at e6 b8 b9
    dsimp only at e6 b8 b9
    have hfa := hfob a ha
    have hya2 := hyb a ha
    have hfo3 := hfo2 a
    have hins := fun L => inside_ret N w0 L (watN n nx (lvl ys) a) (u1, u2)
    have hin1 : decide (((u1, u2) : Sp).1 ≤ watN n nx (lvl ys) a ∧ watN n nx (lvl ys) a ≤ ((u1, u2) : Sp).2) = true := decide_eq_true ⟨b8, b9⟩
    rw [hin1] at hins
    have hs1 : sumN (a + 1) (lvl ys) = sumN a (lvl ys) + lvl ys a := rfl
    have hs2 : sumN (a + 1) fo = sumN a fo + fo a := rfl
    obtain ⟨Ya, hYa⟩ : ∃ y, sumN a (lvl ys) = y := ⟨_, rfl⟩
    obtain ⟨Oa, hOa⟩ : ∃ y, sumN a fo = y := ⟨_, rfl⟩
    obtain ⟨wa, hwa9⟩ : ∃ y, watN n nx (lvl ys) a = y := ⟨_, rfl⟩
    obtain ⟨ya, hya9⟩ : ∃ y, lvl ys a = y := ⟨_, rfl⟩
    rw [hYa] at p1 hs1 ⊢
    rw [hOa] at p2 hs2 ⊢
    rw [hwa9] at hwa b8 b9 hins hfo3
    rw [hya9] at hya hya2 hs1
    repeat' (first | (refine Znh ?_) | (refine GiW ?_; first | (refine Zsq fun K hK => ?_) | (refine ZrN 14 fun _ => ?_; refine Zv Zylss ?_) | (refine ZrN 15 fun _ => ?_; refine Zv Zmi ?_; refine Zv Zai ?_) | (refine ZrN 16 fun _ => ?_; refine Zv Zmv ?_; refine Zv Zmi ?_; refine Zv Zia ?_; (first | (refine Zv (Val_loadD1 rfl (hca _ (by repeat (first | exact Wk.refl _ | apply Wk.keep1 | apply Wk.drop | apply Wk.sv | apply Wk.svD | apply Wk.appD)))) ?_) | (refine Zv Zld ?_)); refine Zv Zmi ?_; refine Zv Zai ?_; refine Zv Zai ?_) | (refine WP_cond_true rfl ?_) | (with_reducible apply WP_skip) | (with_reducible apply WP_block)) | (refine Zhn ?_))
    refine WP_loop [23, 123, 124, 125, 126, 127, 128, 129, 130, 131] (fun y : Nat => [(23, .int .i64 (y : Int))]) (fun _ => H3) (fun y => y < n ∧ endN n nx y = endN n nx a) (fun y => dnR n (lvl lv) y) a (.cons rfl .nil) (Wk.refl _) ⟨ha, rfl⟩ ?_
    rintro y j5 ⟨hy5, hye⟩
    have hcy := hcd y hy5
    cases hz : nx y with
    | some z =>
      rw [hz] at hcy
      have h1 := hdn1 y z hz
      have h2 := dnR_lt h1.1 h1.2
      have hs := endN_step hdn1 hy5 hz
      unfold codeO at hcy
      repeat' (first | (refine GiP ?_; first | (refine Znh ?_) | (with_reducible refine Znl ?_)) | (refine GiW ?_; first | (refine Zsq fun K hK => ?_) | (refine ZrN 17 fun _ => ?_; refine Zv Zmv ?_; refine Zv Zmi ?_; refine Zv Zia ?_; (first | (refine Zv (Val_loadD1 rfl (hcy _ (by repeat (first | exact Wk.refl _ | apply Wk.keep1 | apply Wk.drop | apply Wk.sv | apply Wk.svD | apply Wk.appD)))) ?_) | (refine Zv Zld ?_)); refine Zv Zygeq ?_) | (refine ZrN 18 fun _ => ?_; refine Zv Zmv ?_; refine Zv Zmi ?_; refine Zv Zia ?_; (first | (refine Zv (Val_loadD1 rfl (hcy _ (by repeat (first | exact Wk.refl _ | apply Wk.keep1 | apply Wk.drop | apply Wk.sv | apply Wk.svD | apply Wk.appD)))) ?_) | (refine Zv Zld ?_)); refine Zv Zai ?_) | (refine WP_cond_true rfl ?_) | (with_reducible apply WP_skip) | (with_reducible apply WP_block)) | (refine Zhn ?_) | (with_reducible apply QBlock_normal))
      exact QLoop_normal z (.cons rfl .nil) (by repeat (first | exact Off.frame rfl | exact Off.refl _ _ | refine Off.frameT rfl rfl ?_ | refine Off.upd rfl ?_ | refine Off.updO rfl ?_)) (by repeat (first | exact Wk.refl _ | apply Wk.keep1 | apply Wk.drop | apply Wk.sv | apply Wk.svD | apply Wk.appD)) ⟨h1.1, by rw [← hs, hye]⟩ h2
    | none =>
      rw [hz] at hcy
      have hs := endN_stop (n := n) hz
      rw [hye] at hs
      rw [hs] at b5'
      unfold codeO at hcy
      have hto : ∃ to : Nat, (nx a).getD n = to ∧ to ≤ n ∧ ((nx a = none ∧ to = n ∧ codeO (nx a) = -1 ∧ fo a = wa) ∨ (∃ z, nx a = some z ∧ to = z ∧ codeO (nx a) = (z : Int) ∧ z < n ∧ fo a = 0)) := by
        cases hxa : nx a with
        | none => exact ⟨n, rfl, Nat.le_refl _, .inl ⟨rfl, rfl, rfl, by rw [hfo3, if_pos hxa]⟩⟩
        | some z =>
          have h1 := hdn1 a z hxa
          exact ⟨z, rfl, by omega, .inr ⟨z, rfl, rfl, rfl, h1.1, by rw [hfo3, if_neg (by rw [hxa]; simp)]⟩⟩
      obtain ⟨to, hto1, hto2, hto3⟩ := hto
      rw [hto1] at b2'
      obtain ⟨q1, hq1⟩ : ∃ q, nv / 2 ^ to = q := ⟨_, rfl⟩
      obtain ⟨q2, hq2⟩ : ∃ q, env / 2 ^ y = q := ⟨_, rfl⟩
      have hq3 : q1 &&& 1 = 1 := by rw [Nat.and_one_is_mod, ← hq1]; exact b2'
      have hq4 : q2 &&& 1 = 1 := by rw [Nat.and_one_is_mod, ← hq2]; exact b5'
      have hq5 : q1 < 2 ^ 63 := by rw [← hq1]; exact Nat.lt_of_le_of_lt (Nat.div_le_self _ _) (by omega)
      have hq6 : q2 < 2 ^ 63 := by rw [← hq2]; exact Nat.lt_of_le_of_lt (Nat.div_le_self _ _) (by omega)
      obtain ⟨ca, hca9⟩ : ∃ z, codeO (nx a) = z := ⟨_, rfl⟩
      rw [hca9] at hca hto3 ⊢
      clear b2' b5' hye hs tb
      have hfl := tf a
      have hn1 : ((n + 1 : Nat) : Int) = (n : Int) + 1 := by omega
      rcases hto3 with ⟨t1, t2, t3, t4⟩ | ⟨z, t1, t2, t3, t5, t4⟩
      · have t2' := t2.symm
        subst t2'
        subst t3
        rw [t4] at hs2 hfa
        repeat' (first | (refine Znh ?_) | (refine GiW ?_; first | (refine Zsq fun K hK => ?_) | (refine ZrN 17 fun _ => ?_; refine Zv Zmv ?_; refine Zv Zmi ?_; refine Zv Zia ?_; (first | (refine Zv (Val_loadD1 rfl (hcy _ (by repeat (first | exact Wk.refl _ | apply Wk.keep1 | apply Wk.drop | apply Wk.sv | apply Wk.svD | apply Wk.appD)))) ?_) | (refine Zv Zld ?_)); refine Zv Zygeq ?_) | (refine ZrN 19 fun _ => ?_; refine Zv Zmi ?_; refine Zv Zylss ?_) | (refine WP_cond_true rfl ?_) | (refine WP_cond_false rfl ?_) | (with_reducible apply WP_exit) | (refine WP_drawn (id := 20) [0, 1, 2, 3, 4, 5, 6, 7, 8] [] (k := 0) prog_mixed (by kernel_rfl) rfl ?_; refine Zew rfl Zmi ?_; refine Zew rfl Zmi ?_; refine Zew rfl Zmv ?_; refine Zew rfl Zmi ?_; refine Zew rfl Zia ?_; (first | (refine Zew rfl (Val_loadD1 rfl (hcy _ (by repeat (first | exact Wk.refl _ | apply Wk.keep1 | apply Wk.drop | apply Wk.sv | apply Wk.svD | apply Wk.appD)))) ?_) | (refine Zew rfl Zld ?_)); refine Zew rfl Zxadd ?_; refine Zew rfl Zai ?_; refine Zew rfl Zai ?_)) | (with_reducible apply EWalk_nil) | (refine AnyO_done (by kernel_rfl) ?_; (try with_reducible apply noP_normal); try with_reducible exact key.out) | (refine Zhn ?_) | (refine Zhx ?_) | (with_reducible apply QBlock_hit) | (with_reducible apply QLoop_exit) | (refine AWalk_0 ?_; refine ZisO ?_))
        repeat' (first | (refine Znh ?_) | (refine GiW ?_; first | (refine Zsq fun K hK => ?_) | (refine ZrN 21 fun _ => ?_; refine Zv Zmi ?_; refine Zv Zmv ?_; refine Zv Zmi ?_; refine Zv Zia ?_; (first | (refine Zv (Val_loadD1 rfl (hya _ (by repeat (first | exact Wk.refl _ | apply Wk.keep1 | apply Wk.drop | apply Wk.sv | apply Wk.svD | apply Wk.appD)))) ?_) | (refine Zv Zld ?_)); refine Zv Zxadd ?_; refine Zv Zai ?_) | (refine ZrN 22 fun _ => ?_; (first | (refine Zv (Val_loadD1 rfl (hya _ (by repeat (first | exact Wk.refl _ | apply Wk.keep1 | apply Wk.drop | apply Wk.sv | apply Wk.svD | apply Wk.appD)))) ?_) | (refine Zv Zla ?_)); refine Zv Zmi ?_; refine Zcl (Enters_fn rfl) (e4 _ hS3) ?_; refine Zv Zmv ?_; refine Zv Zxex ?_; refine Zv Zxex ?_; refine Zv Zai ?_; refine Zv Zai ?_) | (refine ZrN 23 fun _ => ?_; (first | (refine Zv (Val_loadD1 rfl (hya _ (by repeat (first | exact Wk.refl _ | apply Wk.keep1 | apply Wk.drop | apply Wk.sv | apply Wk.svD | apply Wk.appD)))) ?_) | (refine Zv Zla ?_)); refine Zv Zmi ?_; refine Zcl (Enters_fn rfl) (e5 _ hS3) ?_; refine Zv Zmv ?_; refine Zv Zxex ?_; refine Zv Zxex ?_; refine Zv Zai ?_; refine Zv Zai ?_) | (refine ZrN 24 fun _ => ?_; (first | (refine Zv (Val_loadD1 rfl (hya _ (by repeat (first | exact Wk.refl _ | apply Wk.keep1 | apply Wk.drop | apply Wk.sv | apply Wk.svD | apply Wk.appD)))) ?_) | (refine Zv Zla ?_)); refine Zv Zmi ?_; refine Zcl (Enters_fn rfl) (e6 _ hS3) ?_; refine Zv Zmv ?_; refine Zv Zxex ?_; refine Zv Zxex ?_; refine Zal 28 fun b28 => ?_; refine Zst ?_; refine Zv Zai ?_)))
        refine WP_joinS (by assumption) [165, 166, 167, 168, 169, 170, 171, 172, 173, 174, 175, 176, 177, 178, 179, 180, 181, 182, 183, 184, 185, 186, 187, 188, 189, 190, 191, 192, 193, 194, 195, 196, 197, 198, 199, 200, 201, 202, 203, 204, 205, 206, 207, 208, 209, 210] (fun _ : Unit => [(210, .bool false)]) (fun _ => H3) (fun _ => True) ?_ ?_
        · intro K' hC
          repeat' (first | (refine WP_drawn (id := 25) [0, 1, 2, 3, 4, 5, 6, 7, 8, 9, 10, 11, 12, 13, 14, 15, 16, 17, 18, 19, 20, 21, 22, 23, 24, 25, 26, 27, 28, 29, 30, 31, 32, 33, 34, 35, 36, 37, 38, 39, 40, 41, 42, 43, 44, 45] [] (k := 0) prog_mixed (by kernel_rfl) rfl ?_; refine Zew rfl Zmi ?_; refine Zew rfl Zyneq ?_; refine Zew rfl Zmb ?_) | (refine GiE ?_; first | (refine Zati 5 ?_; (first | (refine Zew rfl Zxpt ?_) | (refine Zew rfl Zxpf ?_)); refine Zew rfl Zmb ?_) | (refine Zati 9 ?_; (first | (refine Zew rfl Zxpt ?_) | (refine Zew rfl Zxpf ?_)); refine Zew rfl Zmb ?_) | (refine Zati 16 ?_; (first | (refine Zew rfl Zxpt ?_) | (refine Zew rfl Zxpf ?_)); refine Zew rfl Zmb ?_) | (refine Zati 23 ?_; (first | (refine Zew rfl Zxpt ?_) | (refine Zew rfl Zxpf ?_)); refine Zew rfl Zmb ?_) | (refine Zati 30 ?_; (first | (refine Zew rfl Zxpt ?_) | (refine Zew rfl Zxpf ?_)); refine Zew rfl Zmb ?_) | (refine Zati 36 ?_; (first | (refine Zew rfl Zxpt ?_) | (refine Zew rfl Zxpf ?_)); refine Zew rfl Zmb ?_) | (refine Zati 45 ?_; (first | (refine Zew rfl Zxpt ?_) | (refine Zew rfl Zxpf ?_))) | (refine Zati 3 ?_; first | refine Zes ?_ | (refine Zew rfl Zmi ?_)) | (refine Zati 4 ?_; first | refine Zes ?_ | (refine Zew rfl Zyneq ?_)) | (refine Zati 7 ?_; first | refine Zes ?_ | (refine Zew rfl Zmi ?_)) | (refine Zati 8 ?_; first | refine Zes ?_ | (refine Zew rfl Zyneq ?_)) | (refine Zati 11 ?_; first | refine Zes ?_ | (refine Zew rfl Zmi ?_)) | (refine Zati 12 ?_; first | refine Zes ?_ | (refine Zew rfl Zmi ?_)) | (refine Zati 13 ?_; first | refine Zes ?_ | (refine Zew rfl (Val_shrF hq1 (by omega) rfl rfl) ?_) | (refine Zew rfl (Val_shrF hq2 (by omega) rfl rfl) ?_) | (refine Zew rfl (Val_shrI b3 (by omega) hn1.symm rfl rfl) ?_) | (refine Zew rfl (Val_shrF b6 (by omega) rfl rfl) ?_)) | (refine Zati 14 ?_; first | refine Zes ?_ | (refine Zew rfl (Val_andE hq3 hq5 (by omega) rfl rfl) ?_) | (refine Zew rfl (Val_andE hq4 hq6 (by omega) rfl rfl) ?_)) | (refine Zati 15 ?_; first | refine Zes ?_ | (refine Zew rfl Zyneq ?_)) | (refine Zati 18 ?_; first | refine Zes ?_ | (refine Zew rfl Zmi ?_)) | (refine Zati 19 ?_; first | refine Zes ?_ | (refine Zew rfl Zmi ?_)) | (refine Zati 20 ?_; first | refine Zes ?_ | (refine Zew rfl Zxadd ?_)) | (refine Zati 21 ?_; first | refine Zes ?_ | (refine Zew rfl (Val_shrF hq1 (by omega) rfl rfl) ?_) | (refine Zew rfl (Val_shrF hq2 (by omega) rfl rfl) ?_) | (refine Zew rfl (Val_shrI b3 (by omega) hn1.symm rfl rfl) ?_) | (refine Zew rfl (Val_shrF b6 (by omega) rfl rfl) ?_)) | (refine Zati 22 ?_; first | refine Zes ?_ | (refine Zew rfl Zyneq ?_)) | (refine Zati 25 ?_; first | refine Zes ?_ | (refine Zew rfl Zmi ?_)) | (refine Zati 26 ?_; first | refine Zes ?_ | (refine Zew rfl Zmi ?_)) | (refine Zati 27 ?_; first | refine Zes ?_ | (refine Zew rfl (Val_shrF hq1 (by omega) rfl rfl) ?_) | (refine Zew rfl (Val_shrF hq2 (by omega) rfl rfl) ?_) | (refine Zew rfl (Val_shrI b3 (by omega) hn1.symm rfl rfl) ?_) | (refine Zew rfl (Val_shrF b6 (by omega) rfl rfl) ?_)) | (refine Zati 28 ?_; first | refine Zes ?_ | (refine Zew rfl (Val_andE hq3 hq5 (by omega) rfl rfl) ?_) | (refine Zew rfl (Val_andE hq4 hq6 (by omega) rfl rfl) ?_)) | (refine Zati 29 ?_; first | refine Zes ?_ | (refine Zew rfl Zyneq ?_)) | (refine Zati 32 ?_; first | refine Zes ?_ | (refine Zew rfl Zmi ?_)) | (refine Zati 33 ?_; first | refine Zes ?_ | (refine Zew rfl Zmi ?_)) | (refine Zati 34 ?_; first | refine Zes ?_ | (refine Zew rfl (Val_shrF hq1 (by omega) rfl rfl) ?_) | (refine Zew rfl (Val_shrF hq2 (by omega) rfl rfl) ?_) | (refine Zew rfl (Val_shrI b3 (by omega) hn1.symm rfl rfl) ?_) | (refine Zew rfl (Val_shrF b6 (by omega) rfl rfl) ?_)) | (refine Zati 35 ?_; first | refine Zes ?_ | (refine Zew rfl Zyneq ?_)) | (refine Zati 38 ?_; first | refine Zes ?_ | (refine Zew rfl Zmv ?_)) | (refine Zati 39 ?_; first | refine Zes ?_ | (refine Zew rfl Zmi ?_)) | (refine Zati 40 ?_; first | refine Zes ?_ | (refine Zew rfl Zia ?_)) | (refine Zati 41 ?_; first | refine Zes ?_ | (refine Zew rfl Zld ?_)) | (refine Zati 42 ?_; first | refine Zes ?_ | (refine Zew rfl Zla ?_)) | (refine Zati 43 ?_; first | refine Zes ?_ | (refine Zec rfl (Enters_fn rfl) (fun X => hins _) ?_)) | (refine Zati 44 ?_; first | refine Zes ?_ | (refine Zew rfl Zxnot ?_)) | (with_reducible apply EWalk_nil)) | (refine AnyO_done (by kernel_rfl) ?_; (try with_reducible apply noP_normal); try with_reducible exact key.out) | (refine AWalk_0 ?_; refine ZisO ?_))
          all_goals exact hC.nor () _ _ (.cons rfl .nil) (by repeat (first | exact Off.frame rfl | exact Off.refl _ _ | refine Off.frameT rfl rfl ?_ | refine Off.upd rfl ?_ | refine Off.updO rfl ?_)) (by repeat (first | exact Sub.nil | exact Sub.refl _ | assumption | exact Sub.left | apply Sub.svK | apply Sub.sv | apply Sub.cons | apply Sub.app)) trivial
        intro _ j7 _
        repeat' (first | (refine Znh ?_) | (refine GiW ?_; first | (refine Zsq fun K hK => ?_) | (refine ZrN 27 fun _ => ?_; refine Zv Zmi ?_; refine Zv Zmi ?_) | (refine WP_cond_false rfl ?_) | (with_reducible apply WP_skip) | (with_reducible apply WP_block)) | (refine Zhn ?_))
        clear hq1 hq2 hq3 hq4 hq5 hq6 e4 e5 e6 b3 b4 b6 b7
        refine WP_loop [4, 30, 31, 32, 33, 212, 213, 214, 215, 216, 217, 218, 219, 220, 221, 222, 223, 224, 225, 226, 227, 228, 229, 230, 231, 232, 233, 234, 235, 236, 237, 238, 239, 240, 241, 242, 243] (fun b : Nat => [(212, .int .i64 (b : Int))]) (fun _ => H3) (fun b => b ≤ n) (fun b => n - b) 0 (.cons rfl .nil) (by repeat (first | exact Wk.refl _ | apply Wk.keep1 | apply Wk.drop | apply Wk.sv | apply Wk.svD | apply Wk.appD)) (Nat.zero_le _) ?_
        intro b j6 hble
        by_cases hbn2 : b < n
        · by_cases hab : a = b
          · repeat' (first | (refine GiP ?_; first | (refine Znh ?_) | (with_reducible refine Znl ?_)) | (refine GiW ?_; first | (refine Zsq fun K hK => ?_) | (refine ZrN 28 fun _ => ?_; refine Zv Zylss ?_) | (refine ZrN 29 fun _ => ?_; refine Zv Zmi ?_; refine Zv Zai ?_) | (refine ZrN 30 fun _ => ?_; refine Zv Zmi ?_; refine Zv Zmi ?_; refine Zv Zyeql ?_) | (refine ZrN 37 fun _ => ?_; refine Zv Zxadd ?_; refine Zv Zmi ?_) | (refine WP_cond_true rfl ?_) | (with_reducible apply WP_skip) | (with_reducible apply WP_block) | (with_reducible apply WP_exit)) | (refine Zhn ?_) | (refine Zhx ?_) | (with_reducible apply QBlock_hit))
            exact QLoop_normal (b + 1) (.cons rfl .nil) (by repeat (first | exact Off.frame rfl | exact Off.refl _ _ | refine Off.frameT rfl rfl ?_ | refine Off.upd rfl ?_ | refine Off.updO rfl ?_)) (by repeat (first | exact Wk.refl _ | apply Wk.keep1 | apply Wk.drop | apply Wk.sv | apply Wk.svD | apply Wk.appD)) (by omega) (by omega)
          · obtain ⟨f1, f2, f3⟩ := hfl b ha hbn2 hab
            have e7 := fun L' hL => c7 L' (a : Int) (b : Int) hL
            rw [f1] at e7
            obtain ⟨⟨v1, v2⟩, hfv⟩ : ∃ z : Sp, FlowV (seenD g.d ss) a b = z := ⟨_, rfl⟩
            rw [hfv] at e7 f2 f3
            dsimp only at e7 f2 f3
            have hcb : codeO (nx a) = (b : Int) ↔ nx a = some b := codeO_eq2
            rw [hca9] at hcb
            rw [hwa9] at f2 f3
            obtain ⟨wn, hwn⟩ : ∃ wn : Int, (if nx a = some b then wa else 0) = wn := ⟨_, rfl⟩
            rw [hwn] at f2 f3
            have hins2 := fun L => inside_ret N w0 L wn (v1, v2)
            have hin2b : decide (((v1, v2) : Sp).1 ≤ wn ∧ wn ≤ ((v1, v2) : Sp).2) = true := decide_eq_true ⟨f2, f3⟩
            rw [hin2b] at hins2
            rw [t1] at hcb hwn
            by_cases hzb : codeO (nx a) = (b : Int)
            · rw [hca9] at hzb
              have hwn2 := hcb.1 hzb
              rw [if_pos hwn2] at hwn
              subst hwn
              repeat' (first | (refine GiP ?_; first | (refine Znh ?_) | (with_reducible refine Znl ?_)) | (refine GiW ?_; first | (refine Zsq fun K hK => ?_) | (refine ZrN 28 fun _ => ?_; refine Zv Zylss ?_) | (refine ZrN 29 fun _ => ?_; refine Zv Zmi ?_; refine Zv Zai ?_) | (refine ZrN 30 fun _ => ?_; refine Zv Zmi ?_; refine Zv Zmi ?_; refine Zv Zyeql ?_) | (refine ZrN 37 fun _ => ?_; refine Zv Zxadd ?_; refine Zv Zmi ?_) | (refine WP_cond_true rfl ?_) | (with_reducible apply WP_skip) | (with_reducible apply WP_block) | (with_reducible apply WP_exit)) | (refine Zhn ?_) | (refine Zhx ?_) | (with_reducible apply QBlock_hit))
              all_goals exact QLoop_normal (b + 1) (.cons rfl .nil) (by repeat (first | exact Off.frame rfl | exact Off.refl _ _ | refine Off.frameT rfl rfl ?_ | refine Off.upd rfl ?_ | refine Off.updO rfl ?_)) (by repeat (first | exact Wk.refl _ | apply Wk.keep1 | apply Wk.drop | apply Wk.sv | apply Wk.svD | apply Wk.appD)) (by omega) (by omega)
            · rw [hca9] at hzb
              have hwn2 := fun h => hzb (hcb.2 h)
              rw [if_neg hwn2] at hwn
              subst hwn
              repeat' (first | (refine GiP ?_; first | (refine Znh ?_) | (with_reducible refine Znl ?_) | (refine Zatd 242 ?_; (first | (refine Zv Zxpt ?_) | (refine Zv Zxpf ?_))) | (refine Zatd 238 ?_; first | refine Zsk ?_ | (refine Zv Zmi ?_)) | (refine Zatd 239 ?_; first | refine Zsk ?_ | (refine Zv (Val_loadD1 rfl (hca _ (by repeat (first | exact Wk.refl _ | apply Wk.keep1 | apply Wk.drop | apply Wk.sv | apply Wk.svD | apply Wk.appD)))) ?_) | (refine Zv Zla ?_)) | (refine Zatd 240 ?_; first | refine Zsk ?_ | (refine Zcl (Enters_fn rfl) (hins2 _) ?_)) | (refine Zatd 241 ?_; first | refine Zsk ?_ | (refine Zv Zxnot ?_))) | (refine GiW ?_; first | (refine Zsq fun K hK => ?_) | (refine ZrN 28 fun _ => ?_; refine Zv Zylss ?_) | (refine ZrN 29 fun _ => ?_; refine Zv Zmi ?_; refine Zv Zai ?_) | (refine ZrN 30 fun _ => ?_; refine Zv Zmi ?_; refine Zv Zmi ?_; refine Zv Zyeql ?_) | (refine ZrN 31 fun _ => ?_; refine Zv Zai ?_) | (refine ZrN 32 fun _ => ?_; refine Zv Zmv ?_; refine Zv Zmi ?_; refine Zv Zia ?_; (first | (refine Zv (Val_loadD1 rfl (hca _ (by repeat (first | exact Wk.refl _ | apply Wk.keep1 | apply Wk.drop | apply Wk.sv | apply Wk.svD | apply Wk.appD)))) ?_) | (refine Zv Zld ?_)); refine Zv Zmi ?_; refine Zv Zyeql ?_) | (refine ZrN 34 fun _ => ?_; (first | (refine Zv (Val_loadD1 rfl (hca _ (by repeat (first | exact Wk.refl _ | apply Wk.keep1 | apply Wk.drop | apply Wk.sv | apply Wk.svD | apply Wk.appD)))) ?_) | (refine Zv Zla ?_)); refine Zv Zmi ?_; refine Zv Zmi ?_; refine Zcl (Enters_fn rfl) (e7 _ (by repeat (first | exact Sub.nil | exact Sub.refl _ | assumption | exact Sub.left | apply Sub.svK | apply Sub.sv | apply Sub.cons | apply Sub.app))) ?_; refine Zv Zmv ?_; refine Zv Zxex ?_; refine Zv Zxex ?_; refine Zal 32 fun b32 => ?_; refine Zst ?_; refine Zv Zai ?_) | (refine ZrG 35 ?_; refine Zv Zmi ?_; refine Zv Zyneq ?_; refine Zv Zmb ?_) | (refine ZrN 37 fun _ => ?_; refine Zv Zxadd ?_; refine Zv Zmi ?_) | (refine WP_cond_true rfl ?_) | (refine WP_cond_false rfl ?_) | (with_reducible apply WP_skip) | (with_reducible apply WP_block)) | (refine Zhn ?_) | (with_reducible apply QBlock_normal))
              all_goals exact QLoop_normal (b + 1) (.cons rfl .nil) (by repeat (first | exact Off.frame rfl | exact Off.refl _ _ | refine Off.frameT rfl rfl ?_ | refine Off.upd rfl ?_ | refine Off.updO rfl ?_)) (by repeat (first | exact Wk.refl _ | apply Wk.keep1 | apply Wk.drop | apply Wk.sv | apply Wk.svD | apply Wk.appD)) (by omega) (by omega)
        · repeat' (first | (refine GiP ?_; first | (refine Znh ?_) | (with_reducible refine Znl ?_)) | (refine GiW ?_; first | (refine Zsq fun K hK => ?_) | (refine ZrN 28 fun _ => ?_; refine Zv Zylss ?_) | (refine ZrN 38 fun _ => ?_; refine Zv Zxadd ?_; refine Zv Zmi ?_) | (refine WP_cond_false rfl ?_) | (with_reducible apply WP_exit)) | (refine Zhn ?_) | (with_reducible apply QBlock_normal) | (refine Zhx ?_) | (with_reducible apply QBlock_hit) | (with_reducible apply QLoop_exit))
          exact QLoop_normal (a + 1) (.cons (by dsimp only; rw [hs1]; rfl) (.cons (by dsimp only; rw [hs2]; first | rfl | (rw [Int.add_zero]; rfl)) (.cons rfl .nil))) (by repeat (first | exact Off.frame rfl | exact Off.refl _ _ | refine Off.frameT rfl rfl ?_ | refine Off.upd rfl ?_ | refine Off.updO rfl ?_)) (by repeat (first | exact Wk.refl _ | apply Wk.keep1 | apply Wk.drop | apply Wk.sv | apply Wk.svD | apply Wk.appD)) (by omega) (by omega)
      · subst t2
        subst t3
        rw [t4] at hs2 hfa
        repeat' (first | (refine Znh ?_) | (refine GiW ?_; first | (refine Zsq fun K hK => ?_) | (refine ZrN 17 fun _ => ?_; refine Zv Zmv ?_; refine Zv Zmi ?_; refine Zv Zia ?_; (first | (refine Zv (Val_loadD1 rfl (hcy _ (by repeat (first | exact Wk.refl _ | apply Wk.keep1 | apply Wk.drop | apply Wk.sv | apply Wk.svD | apply Wk.appD)))) ?_) | (refine Zv Zld ?_)); refine Zv Zygeq ?_) | (refine ZrN 19 fun _ => ?_; refine Zv Zmi ?_; refine Zv Zylss ?_) | (refine WP_cond_false rfl ?_) | (with_reducible apply WP_skip) | (with_reducible apply WP_exit)) | (refine Zhn ?_) | (refine Zhx ?_) | (with_reducible apply QBlock_hit) | (with_reducible apply QLoop_exit))
        repeat' (first | (refine Znh ?_) | (refine GiW ?_; first | (refine Zsq fun K hK => ?_) | (refine ZrN 21 fun _ => ?_; refine Zv Zmi ?_; refine Zv Zmv ?_; refine Zv Zmi ?_; refine Zv Zia ?_; (first | (refine Zv (Val_loadD1 rfl (hya _ (by repeat (first | exact Wk.refl _ | apply Wk.keep1 | apply Wk.drop | apply Wk.sv | apply Wk.svD | apply Wk.appD)))) ?_) | (refine Zv Zld ?_)); refine Zv Zxadd ?_; refine Zv Zai ?_) | (refine ZrN 22 fun _ => ?_; (first | (refine Zv (Val_loadD1 rfl (hya _ (by repeat (first | exact Wk.refl _ | apply Wk.keep1 | apply Wk.drop | apply Wk.sv | apply Wk.svD | apply Wk.appD)))) ?_) | (refine Zv Zla ?_)); refine Zv Zmi ?_; refine Zcl (Enters_fn rfl) (e4 _ hS3) ?_; refine Zv Zmv ?_; refine Zv Zxex ?_; refine Zv Zxex ?_; refine Zv Zai ?_; refine Zv Zai ?_) | (refine ZrN 23 fun _ => ?_; (first | (refine Zv (Val_loadD1 rfl (hya _ (by repeat (first | exact Wk.refl _ | apply Wk.keep1 | apply Wk.drop | apply Wk.sv | apply Wk.svD | apply Wk.appD)))) ?_) | (refine Zv Zla ?_)); refine Zv Zmi ?_; refine Zcl (Enters_fn rfl) (e5 _ hS3) ?_; refine Zv Zmv ?_; refine Zv Zxex ?_; refine Zv Zxex ?_; refine Zv Zai ?_; refine Zv Zai ?_) | (refine ZrN 24 fun _ => ?_; (first | (refine Zv (Val_loadD1 rfl (hya _ (by repeat (first | exact Wk.refl _ | apply Wk.keep1 | apply Wk.drop | apply Wk.sv | apply Wk.svD | apply Wk.appD)))) ?_) | (refine Zv Zla ?_)); refine Zv Zmi ?_; refine Zcl (Enters_fn rfl) (e6 _ hS3) ?_; refine Zv Zmv ?_; refine Zv Zxex ?_; refine Zv Zxex ?_; refine Zal 28 fun b28 => ?_; refine Zst ?_; refine Zv Zai ?_)))
        refine WP_joinS (by assumption) [165, 166, 167, 168, 169, 170, 171, 172, 173, 174, 175, 176, 177, 178, 179, 180, 181, 182, 183, 184, 185, 186, 187, 188, 189, 190, 191, 192, 193, 194, 195, 196, 197, 198, 199, 200, 201, 202, 203, 204, 205, 206, 207, 208, 209, 210] (fun _ : Unit => [(210, .bool false)]) (fun _ => H3) (fun _ => True) ?_ ?_
        · intro K' hC
          repeat' (first | (refine WP_drawn (id := 25) [0, 1, 2, 3, 4, 5, 6, 7, 8, 9, 10, 11, 12, 13, 14, 15, 16, 17, 18, 19, 20, 21, 22, 23, 24, 25, 26, 27, 28, 29, 30, 31, 32, 33, 34, 35, 36, 37, 38, 39, 40, 41, 42, 43, 44, 45] [] (k := 0) prog_mixed (by kernel_rfl) rfl ?_; refine Zew rfl Zmi ?_; refine Zew rfl Zyneq ?_; refine Zew rfl Zmb ?_) | (refine GiE ?_; first | (refine Zati 5 ?_; (first | (refine Zew rfl Zxpt ?_) | (refine Zew rfl Zxpf ?_)); refine Zew rfl Zmb ?_) | (refine Zati 9 ?_; (first | (refine Zew rfl Zxpt ?_) | (refine Zew rfl Zxpf ?_)); refine Zew rfl Zmb ?_) | (refine Zati 16 ?_; (first | (refine Zew rfl Zxpt ?_) | (refine Zew rfl Zxpf ?_)); refine Zew rfl Zmb ?_) | (refine Zati 23 ?_; (first | (refine Zew rfl Zxpt ?_) | (refine Zew rfl Zxpf ?_)); refine Zew rfl Zmb ?_) | (refine Zati 30 ?_; (first | (refine Zew rfl Zxpt ?_) | (refine Zew rfl Zxpf ?_)); refine Zew rfl Zmb ?_) | (refine Zati 36 ?_; (first | (refine Zew rfl Zxpt ?_) | (refine Zew rfl Zxpf ?_)); refine Zew rfl Zmb ?_) | (refine Zati 45 ?_; (first | (refine Zew rfl Zxpt ?_) | (refine Zew rfl Zxpf ?_))) | (refine Zati 3 ?_; first | refine Zes ?_ | (refine Zew rfl Zmi ?_)) | (refine Zati 4 ?_; first | refine Zes ?_ | (refine Zew rfl Zyneq ?_)) | (refine Zati 7 ?_; first | refine Zes ?_ | (refine Zew rfl Zmi ?_)) | (refine Zati 8 ?_; first | refine Zes ?_ | (refine Zew rfl Zyneq ?_)) | (refine Zati 11 ?_; first | refine Zes ?_ | (refine Zew rfl Zmi ?_)) | (refine Zati 12 ?_; first | refine Zes ?_ | (refine Zew rfl Zmi ?_)) | (refine Zati 13 ?_; first | refine Zes ?_ | (refine Zew rfl (Val_shrF hq1 (by omega) rfl rfl) ?_) | (refine Zew rfl (Val_shrF hq2 (by omega) rfl rfl) ?_) | (refine Zew rfl (Val_shrI b3 (by omega) hn1.symm rfl rfl) ?_) | (refine Zew rfl (Val_shrF b6 (by omega) rfl rfl) ?_)) | (refine Zati 14 ?_; first | refine Zes ?_ | (refine Zew rfl (Val_andE hq3 hq5 (by omega) rfl rfl) ?_) | (refine Zew rfl (Val_andE hq4 hq6 (by omega) rfl rfl) ?_)) | (refine Zati 15 ?_; first | refine Zes ?_ | (refine Zew rfl Zyneq ?_)) | (refine Zati 18 ?_; first | refine Zes ?_ | (refine Zew rfl Zmi ?_)) | (refine Zati 19 ?_; first | refine Zes ?_ | (refine Zew rfl Zmi ?_)) | (refine Zati 20 ?_; first | refine Zes ?_ | (refine Zew rfl Zxadd ?_)) | (refine Zati 21 ?_; first | refine Zes ?_ | (refine Zew rfl (Val_shrF hq1 (by omega) rfl rfl) ?_) | (refine Zew rfl (Val_shrF hq2 (by omega) rfl rfl) ?_) | (refine Zew rfl (Val_shrI b3 (by omega) hn1.symm rfl rfl) ?_) | (refine Zew rfl (Val_shrF b6 (by omega) rfl rfl) ?_)) | (refine Zati 22 ?_; first | refine Zes ?_ | (refine Zew rfl Zyneq ?_)) | (refine Zati 25 ?_; first | refine Zes ?_ | (refine Zew rfl Zmi ?_)) | (refine Zati 26 ?_; first | refine Zes ?_ | (refine Zew rfl Zmi ?_)) | (refine Zati 27 ?_; first | refine Zes ?_ | (refine Zew rfl (Val_shrF hq1 (by omega) rfl rfl) ?_) | (refine Zew rfl (Val_shrF hq2 (by omega) rfl rfl) ?_) | (refine Zew rfl (Val_shrI b3 (by omega) hn1.symm rfl rfl) ?_) | (refine Zew rfl (Val_shrF b6 (by omega) rfl rfl) ?_)) | (refine Zati 28 ?_; first | refine Zes ?_ | (refine Zew rfl (Val_andE hq3 hq5 (by omega) rfl rfl) ?_) | (refine Zew rfl (Val_andE hq4 hq6 (by omega) rfl rfl) ?_)) | (refine Zati 29 ?_; first | refine Zes ?_ | (refine Zew rfl Zyneq ?_)) | (refine Zati 32 ?_; first | refine Zes ?_ | (refine Zew rfl Zmi ?_)) | (refine Zati 33 ?_; first | refine Zes ?_ | (refine Zew rfl Zmi ?_)) | (refine Zati 34 ?_; first | refine Zes ?_ | (refine Zew rfl (Val_shrF hq1 (by omega) rfl rfl) ?_) | (refine Zew rfl (Val_shrF hq2 (by omega) rfl rfl) ?_) | (refine Zew rfl (Val_shrI b3 (by omega) hn1.symm rfl rfl) ?_) | (refine Zew rfl (Val_shrF b6 (by omega) rfl rfl) ?_)) | (refine Zati 35 ?_; first | refine Zes ?_ | (refine Zew rfl Zyneq ?_)) | (refine Zati 38 ?_; first | refine Zes ?_ | (refine Zew rfl Zmv ?_)) | (refine Zati 39 ?_; first | refine Zes ?_ | (refine Zew rfl Zmi ?_)) | (refine Zati 40 ?_; first | refine Zes ?_ | (refine Zew rfl Zia ?_)) | (refine Zati 41 ?_; first | refine Zes ?_ | (refine Zew rfl Zld ?_)) | (refine Zati 42 ?_; first | refine Zes ?_ | (refine Zew rfl Zla ?_)) | (refine Zati 43 ?_; first | refine Zes ?_ | (refine Zec rfl (Enters_fn rfl) (fun X => hins _) ?_)) | (refine Zati 44 ?_; first | refine Zes ?_ | (refine Zew rfl Zxnot ?_)) | (with_reducible apply EWalk_nil)) | (refine AnyO_done (by kernel_rfl) ?_; (try with_reducible apply noP_normal); try with_reducible exact key.out) | (refine AWalk_0 ?_; refine ZisO ?_))
          all_goals exact hC.nor () _ _ (.cons rfl .nil) (by repeat (first | exact Off.frame rfl | exact Off.refl _ _ | refine Off.frameT rfl rfl ?_ | refine Off.upd rfl ?_ | refine Off.updO rfl ?_)) (by repeat (first | exact Sub.nil | exact Sub.refl _ | assumption | exact Sub.left | apply Sub.svK | apply Sub.sv | apply Sub.cons | apply Sub.app)) trivial
        intro _ j7 _
        repeat' (first | (refine Znh ?_) | (refine GiW ?_; first | (refine Zsq fun K hK => ?_) | (refine ZrN 27 fun _ => ?_; refine Zv Zmi ?_; refine Zv Zmi ?_) | (refine WP_cond_false rfl ?_) | (with_reducible apply WP_skip) | (with_reducible apply WP_block)) | (refine Zhn ?_))
        clear hq1 hq2 hq3 hq4 hq5 hq6 e4 e5 e6 b3 b4 b6 b7
        refine WP_loop [4, 30, 31, 32, 33, 212, 213, 214, 215, 216, 217, 218, 219, 220, 221, 222, 223, 224, 225, 226, 227, 228, 229, 230, 231, 232, 233, 234, 235, 236, 237, 238, 239, 240, 241, 242, 243] (fun b : Nat => [(212, .int .i64 (b : Int))]) (fun _ => H3) (fun b => b ≤ n) (fun b => n - b) 0 (.cons rfl .nil) (by repeat (first | exact Wk.refl _ | apply Wk.keep1 | apply Wk.drop | apply Wk.sv | apply Wk.svD | apply Wk.appD)) (Nat.zero_le _) ?_
        intro b j6 hble
        by_cases hbn2 : b < n
        · by_cases hab : a = b
          · repeat' (first | (refine GiP ?_; first | (refine Znh ?_) | (with_reducible refine Znl ?_)) | (refine GiW ?_; first | (refine Zsq fun K hK => ?_) | (refine ZrN 28 fun _ => ?_; refine Zv Zylss ?_) | (refine ZrN 29 fun _ => ?_; refine Zv Zmi ?_; refine Zv Zai ?_) | (refine ZrN 30 fun _ => ?_; refine Zv Zmi ?_; refine Zv Zmi ?_; refine Zv Zyeql ?_) | (refine ZrN 37 fun _ => ?_; refine Zv Zxadd ?_; refine Zv Zmi ?_) | (refine WP_cond_true rfl ?_) | (with_reducible apply WP_skip) | (with_reducible apply WP_block) | (with_reducible apply WP_exit)) | (refine Zhn ?_) | (refine Zhx ?_) | (with_reducible apply QBlock_hit))
            exact QLoop_normal (b + 1) (.cons rfl .nil) (by repeat (first | exact Off.frame rfl | exact Off.refl _ _ | refine Off.frameT rfl rfl ?_ | refine Off.upd rfl ?_ | refine Off.updO rfl ?_)) (by repeat (first | exact Wk.refl _ | apply Wk.keep1 | apply Wk.drop | apply Wk.sv | apply Wk.svD | apply Wk.appD)) (by omega) (by omega)
          · obtain ⟨f1, f2, f3⟩ := hfl b ha hbn2 hab
            have e7 := fun L' hL => c7 L' (a : Int) (b : Int) hL
            rw [f1] at e7
            obtain ⟨⟨v1, v2⟩, hfv⟩ : ∃ z : Sp, FlowV (seenD g.d ss) a b = z := ⟨_, rfl⟩
            rw [hfv] at e7 f2 f3
            dsimp only at e7 f2 f3
            have hcb : codeO (nx a) = (b : Int) ↔ nx a = some b := codeO_eq2
            rw [hca9] at hcb
            rw [hwa9] at f2 f3
            obtain ⟨wn, hwn⟩ : ∃ wn : Int, (if nx a = some b then wa else 0) = wn := ⟨_, rfl⟩
            rw [hwn] at f2 f3
            have hins2 := fun L => inside_ret N w0 L wn (v1, v2)
            have hin2b : decide (((v1, v2) : Sp).1 ≤ wn ∧ wn ≤ ((v1, v2) : Sp).2) = true := decide_eq_true ⟨f2, f3⟩
            rw [hin2b] at hins2
            rw [t1] at hcb hwn
            by_cases hzb : codeO (nx a) = (b : Int)
            · rw [hca9] at hzb
              have hwn2 := hcb.1 hzb
              rw [if_pos hwn2] at hwn
              subst hwn
              repeat' (first | (refine GiP ?_; first | (refine Znh ?_) | (with_reducible refine Znl ?_) | (refine Zatd 242 ?_; (first | (refine Zv Zxpt ?_) | (refine Zv Zxpf ?_))) | (refine Zatd 238 ?_; first | refine Zsk ?_ | (refine Zv Zmi ?_)) | (refine Zatd 239 ?_; first | refine Zsk ?_ | (refine Zv (Val_loadD1 rfl (hca _ (by repeat (first | exact Wk.refl _ | apply Wk.keep1 | apply Wk.drop | apply Wk.sv | apply Wk.svD | apply Wk.appD)))) ?_) | (refine Zv Zla ?_)) | (refine Zatd 240 ?_; first | refine Zsk ?_ | (refine Zcl (Enters_fn rfl) (hins2 _) ?_)) | (refine Zatd 241 ?_; first | refine Zsk ?_ | (refine Zv Zxnot ?_))) | (refine GiW ?_; first | (refine Zsq fun K hK => ?_) | (refine ZrN 28 fun _ => ?_; refine Zv Zylss ?_) | (refine ZrN 29 fun _ => ?_; refine Zv Zmi ?_; refine Zv Zai ?_) | (refine ZrN 30 fun _ => ?_; refine Zv Zmi ?_; refine Zv Zmi ?_; refine Zv Zyeql ?_) | (refine ZrN 31 fun _ => ?_; refine Zv Zai ?_) | (refine ZrN 32 fun _ => ?_; refine Zv Zmv ?_; refine Zv Zmi ?_; refine Zv Zia ?_; (first | (refine Zv (Val_loadD1 rfl (hca _ (by repeat (first | exact Wk.refl _ | apply Wk.keep1 | apply Wk.drop | apply Wk.sv | apply Wk.svD | apply Wk.appD)))) ?_) | (refine Zv Zld ?_)); refine Zv Zmi ?_; refine Zv Zyeql ?_) | (refine ZrN 33 fun _ => ?_; refine Zv Zmv ?_; refine Zv Zmi ?_; refine Zv Zia ?_; (first | (refine Zv (Val_loadD1 rfl (hca _ (by repeat (first | exact Wk.refl _ | apply Wk.keep1 | apply Wk.drop | apply Wk.sv | apply Wk.svD | apply Wk.appD)))) ?_) | (refine Zv Zld ?_)); refine Zv Zai ?_) | (refine ZrN 34 fun _ => ?_; (first | (refine Zv (Val_loadD1 rfl (hca _ (by repeat (first | exact Wk.refl _ | apply Wk.keep1 | apply Wk.drop | apply Wk.sv | apply Wk.svD | apply Wk.appD)))) ?_) | (refine Zv Zla ?_)); refine Zv Zmi ?_; refine Zv Zmi ?_; refine Zcl (Enters_fn rfl) (e7 _ (by repeat (first | exact Sub.nil | exact Sub.refl _ | assumption | exact Sub.left | apply Sub.svK | apply Sub.sv | apply Sub.cons | apply Sub.app))) ?_; refine Zv Zmv ?_; refine Zv Zxex ?_; refine Zv Zxex ?_; refine Zal 32 fun b32 => ?_; refine Zst ?_; refine Zv Zai ?_) | (refine ZrG 35 ?_; refine Zv Zmi ?_; refine Zv Zyneq ?_; refine Zv Zmb ?_) | (refine ZrN 37 fun _ => ?_; refine Zv Zxadd ?_; refine Zv Zmi ?_) | (refine WP_cond_true rfl ?_) | (refine WP_cond_false rfl ?_) | (with_reducible apply WP_skip) | (with_reducible apply WP_block)) | (refine Zhn ?_) | (with_reducible apply QBlock_normal))
              all_goals exact QLoop_normal (b + 1) (.cons rfl .nil) (by repeat (first | exact Off.frame rfl | exact Off.refl _ _ | refine Off.frameT rfl rfl ?_ | refine Off.upd rfl ?_ | refine Off.updO rfl ?_)) (by repeat (first | exact Wk.refl _ | apply Wk.keep1 | apply Wk.drop | apply Wk.sv | apply Wk.svD | apply Wk.appD)) (by omega) (by omega)
            · rw [hca9] at hzb
              have hwn2 := fun h => hzb (hcb.2 h)
              rw [if_neg hwn2] at hwn
              subst hwn
              repeat' (first | (refine GiP ?_; first | (refine Znh ?_) | (with_reducible refine Znl ?_) | (refine Zatd 242 ?_; (first | (refine Zv Zxpt ?_) | (refine Zv Zxpf ?_))) | (refine Zatd 238 ?_; first | refine Zsk ?_ | (refine Zv Zmi ?_)) | (refine Zatd 239 ?_; first | refine Zsk ?_ | (refine Zv (Val_loadD1 rfl (hca _ (by repeat (first | exact Wk.refl _ | apply Wk.keep1 | apply Wk.drop | apply Wk.sv | apply Wk.svD | apply Wk.appD)))) ?_) | (refine Zv Zla ?_)) | (refine Zatd 240 ?_; first | refine Zsk ?_ | (refine Zcl (Enters_fn rfl) (hins2 _) ?_)) | (refine Zatd 241 ?_; first | refine Zsk ?_ | (refine Zv Zxnot ?_))) | (refine GiW ?_; first | (refine Zsq fun K hK => ?_) | (refine ZrN 28 fun _ => ?_; refine Zv Zylss ?_) | (refine ZrN 29 fun _ => ?_; refine Zv Zmi ?_; refine Zv Zai ?_) | (refine ZrN 30 fun _ => ?_; refine Zv Zmi ?_; refine Zv Zmi ?_; refine Zv Zyeql ?_) | (refine ZrN 31 fun _ => ?_; refine Zv Zai ?_) | (refine ZrN 32 fun _ => ?_; refine Zv Zmv ?_; refine Zv Zmi ?_; refine Zv Zia ?_; (first | (refine Zv (Val_loadD1 rfl (hca _ (by repeat (first | exact Wk.refl _ | apply Wk.keep1 | apply Wk.drop | apply Wk.sv | apply Wk.svD | apply Wk.appD)))) ?_) | (refine Zv Zld ?_)); refine Zv Zmi ?_; refine Zv Zyeql ?_) | (refine ZrN 34 fun _ => ?_; (first | (refine Zv (Val_loadD1 rfl (hca _ (by repeat (first | exact Wk.refl _ | apply Wk.keep1 | apply Wk.drop | apply Wk.sv | apply Wk.svD | apply Wk.appD)))) ?_) | (refine Zv Zla ?_)); refine Zv Zmi ?_; refine Zv Zmi ?_; refine Zcl (Enters_fn rfl) (e7 _ (by repeat (first | exact Sub.nil | exact Sub.refl _ | assumption | exact Sub.left | apply Sub.svK | apply Sub.sv | apply Sub.cons | apply Sub.app))) ?_; refine Zv Zmv ?_; refine Zv Zxex ?_; refine Zv Zxex ?_; refine Zal 32 fun b32 => ?_; refine Zst ?_; refine Zv Zai ?_) | (refine ZrG 35 ?_; refine Zv Zmi ?_; refine Zv Zyneq ?_; refine Zv Zmb ?_) | (refine ZrN 37 fun _ => ?_; refine Zv Zxadd ?_; refine Zv Zmi ?_) | (refine WP_cond_true rfl ?_) | (refine WP_cond_false rfl ?_) | (with_reducible apply WP_skip) | (with_reducible apply WP_block)) | (refine Zhn ?_) | (with_reducible apply QBlock_normal))
              all_goals exact QLoop_normal (b + 1) (.cons rfl .nil) (by repeat (first | exact Off.frame rfl | exact Off.refl _ _ | refine Off.frameT rfl rfl ?_ | refine Off.upd rfl ?_ | refine Off.updO rfl ?_)) (by repeat (first | exact Wk.refl _ | apply Wk.keep1 | apply Wk.drop | apply Wk.sv | apply Wk.svD | apply Wk.appD)) (by omega) (by omega)
        · repeat' (first | (refine GiP ?_; first | (refine Znh ?_) | (with_reducible refine Znl ?_)) | (refine GiW ?_; first | (refine Zsq fun K hK => ?_) | (refine ZrN 28 fun _ => ?_; refine Zv Zylss ?_) | (refine ZrN 38 fun _ => ?_; refine Zv Zxadd ?_; refine Zv Zmi ?_) | (refine WP_cond_false rfl ?_) | (with_reducible apply WP_exit)) | (refine Zhn ?_) | (with_reducible apply QBlock_normal) | (refine Zhx ?_) | (with_reducible apply QBlock_hit) | (with_reducible apply QLoop_exit))
          exact QLoop_normal (a + 1) (.cons (by dsimp only; rw [hs1]; rfl) (.cons (by dsimp only; rw [hs2]; first | rfl | (rw [Int.add_zero]; rfl)) (.cons rfl .nil))) (by repeat (first | exact Off.frame rfl | exact Off.refl _ _ | refine Off.frameT rfl rfl ?_ | refine Off.upd rfl ?_ | refine Off.updO rfl ?_)) (by repeat (first | exact Wk.refl _ | apply Wk.keep1 | apply Wk.drop | apply Wk.sv | apply Wk.svD | apply Wk.appD)) (by omega) (by omega)
  · have hae : n = a := by omega
    subst hae
    have e39 := hcr H3 hS3 Z (by omega)
    obtain ⟨nx2, hnx2⟩ : ∃ nx2, nxt (keepL Z g.d.ways 0) lv = nx2 := ⟨_, rfl⟩
    have hdn2 := hdn (keepL Z g.d.ways 0)
    have hlw2 := hlw (keepL Z g.d.ways 0)
    rw [hnx2] at e39 hdn2 hlw2 tr
    have hWSL : Sub H H3 := hS3
    rw [tsum]
    clear tb tf hfob hfo2 hfo c4 c5 c6 c7 hcr hlw hdn tw tw1
    repeat' (first | (refine Znh ?_) | (refine GiW ?_; first | (refine Zsq fun K hK => ?_) | (refine ZrN 14 fun _ => ?_; refine Zv Zylss ?_) | (refine ZrN 39 fun _ => ?_; refine Zv Zla ?_; refine Zv Zmv ?_; refine Zv Zmi ?_; refine OPS_retKS (Enters_fn rfl) e39 rfl rfl rfl (fun v248 L248 h248 => ?_); obtain ⟨s248, rfl, hs248, rfl⟩ := h248; refine Zv Zav ?_) | (refine WP_cond_false rfl ?_) | (with_reducible apply WP_exit)) | (refine Zhn ?_) | (refine Zhx ?_) | (with_reducible apply QBlock_hit) | (with_reducible apply QLoop_exit))
    obtain ⟨Ac2, cc2, ec2, hrc2⟩ := RdRows.sv (E := 3) (by omega) hs248
    rw [ec2]
    have hrcl2 : ∀ L', Wk L' (svH 3 1 n (ints (cdL n nx2)) s248 []) → RdI N w0 L' Ac2 (cdL n nx2) := fun L' hL => hrc2 N w0 L' (i1 _) hL (ints_flat _) (by intro r hr; simp only [i1, List.mem_map] at hr; obtain ⟨_, _, rfl⟩ := hr; rfl)
    obtain ⟨bC2, oC2, rfl⟩ : ∃ bC oC, Ac2 = some ⟨bC, oC, none⟩ := by
      obtain ⟨b, o, h, _⟩ := RdRows.row (hrcl2 _ Wk.sv0 : RdI N w0 (svH 3 1 n (ints (cdL n nx2)) s248 []) Ac2 (cdL n nx2)) 0 (by rw [cdL_len]; omega)
      exact ⟨b, o, h⟩
    have hlw3 := hlw2 (svH 3 1 n (ints (cdL n nx2)) s248 H3) _ cc2 (hrcl2 _ Wk.sv0) (Sub.trans hWSL (by repeat (first | exact Sub.nil | exact Sub.refl _ | assumption | exact Sub.left | apply Sub.svK | apply Sub.sv | apply Sub.cons | apply Sub.app)))
    obtain ⟨W2, hW2⟩ : ∃ W2, wsum n nx2 (lvl ys) n = W2 := ⟨_, rfl⟩
    have hW2l : W2.length = n := by rw [← hW2]; exact wsum_len _ _ _ _
    have hW2g : ∀ a, a < n → lvl W2 a = watN n nx2 (lvl ys) a := fun a ha => by rw [← hW2]; exact wsum_wat hdn2 (lvl ys) ha
    rw [hW2] at hlw3
    repeat' (first | (refine Znh ?_) | (refine GiW ?_; first | (refine Zsq fun K hK => ?_) | (refine ZrN 40 fun _ => ?_; refine Zv Zmv ?_; refine Zv Zmv ?_; refine OPS_retKS (Enters_fn rfl) hlw3 rfl rfl rfl (fun v251 L251 h251 => ?_); obtain ⟨b251, rfl, rfl⟩ := h251; refine Zv Zav ?_) | (refine ZrN 41 fun _ => ?_; refine Zv Zfa ?_; refine Zv Zld ?_; refine Zv Zxlen ?_; refine Zv Zmi ?_) | (with_reducible apply WP_block)))
    obtain ⟨H4, hH4⟩ : ∃ H4, (b251, Blk 3 (ints W2)) :: svH 3 1 n (ints (cdL n nx2)) s248 H3 = H4 := ⟨_, rfl⟩
    have hS4 : Sub H3 H4 := by rw [← hH4]; exact (by repeat (first | exact Sub.nil | exact Sub.refl _ | assumption | exact Sub.left | apply Sub.svK | apply Sub.sv | apply Sub.cons | apply Sub.app))
    have hW4 : Wk H4 H3 := by rw [← hH4]; exact (by repeat (first | exact Wk.refl _ | apply Wk.keep1 | apply Wk.drop | apply Wk.sv | apply Wk.svD | apply Wk.appD))
    have m251 : Mem b251 (Blk 3 (ints W2)) H4 := by rw [← hH4]; exact .here
    have m624 : Mem b62 (Blk 3 (ints W)) H4 := by rw [← hH4]; exact (by repeat (first | exact Mem.here | assumption | apply Mem.there | apply Mem.sv | apply Mem.app))
    have m24 : Mem b2 (Blk 29 [.slice g.A1 n g.c1, .slice g.A2 g.d.ways.length g.c2, .slice g.A3 g.d.rights.length g.c3, .slice g.A4 g.d.seen.length g.c4]) H4 := by rw [← hH4]; exact (by repeat (first | exact Mem.here | assumption | apply Mem.there | apply Mem.sv | apply Mem.app))
    have hcd4 : ∀ y, y < n → ∀ L', Wk L' H4 → Rd N w0 L' bC2 (oC2 + y) (.int .i64 (codeO (nx2 y))) := fun y hy L' hL => by
      have h3 : Wk H4 (svH 3 1 n (ints (cdL n nx2)) s248 []) := by rw [← hH4]; exact .drop Wk.sv0
      have := ((hrcl2 H4 h3).wkk hL).at_ (i := y) (by rw [cdL_len]; exact hy)
      rwa [cdL_lvl hy] at this
    have hcd3 : ∀ y, y < n → ∀ L', Wk L' H4 → Rd N w0 L' bC (oC + y) (.int .i64 (codeO (nx y))) := fun y hy L' hL => hcd y hy L' (hL.trans hW4)
    have hW2c : ∀ y, y < n → (ints W2)[0 + y]? = some (.int .i64 (watN n nx2 (lvl ys) y)) := fun y hy => by
      have := ints_get (l := W2) (x := y) (by omega)
      rwa [hW2g y hy] at this
    rw [hH4]
    clear hcd hrcl2 hlw3 e39 hdn1 hdn2 hlw2
    have hWL : Wk H4 L := hW4.trans hWH3
    refine WP_gen [2, 9, 10, 13, 14, 19, 20, 34, 35, 253, 254, 255] [(2, .pointer (some ⟨b2, 0, none⟩)), (9, .slice (some ⟨bC, oC, none⟩) n cc), (10, .slice (some ⟨b62, 0, none⟩) n n), (13, .int .i64 (S : Int)), (14, .int .i64 (P : Int)), (19, .int .i64 (sumN n (lvl ys))), (20, .int .i64 (sumN n (lvl ys))), (34, .slice (some ⟨bC2, oC2, none⟩) n cc2), (35, .slice (some ⟨b251, 0, none⟩) n n), (253, .slice g.A3 g.d.rights.length g.c3), (254, .int .i64 (g.d.rights.length : Int)), (255, .int .i64 0)] (.cons rfl (.cons rfl (.cons rfl (.cons rfl (.cons rfl (.cons rfl (.cons rfl (.cons rfl (.cons rfl (.cons rfl (.cons rfl (.cons rfl .nil)))))))))))) fun e4 => ?_
    refine WP_loop [4, 36, 37, 38, 255, 256, 257, 258, 259, 260, 261, 262, 263, 264, 265, 266, 267, 268, 269, 270, 271, 272, 273, 274, 275, 276, 277, 278, 279, 280, 281, 282, 283, 284, 285, 286, 287, 288, 289, 290, 291, 292, 293, 294, 295, 296, 297, 298, 299, 300, 301, 302, 303, 304, 305, 306, 307, 308, 309, 310, 311, 312, 313, 314, 315, 316, 317] (fun i : Nat => [(255, .int .i64 (i : Int))]) (fun _ => H4) (fun i => i ≤ g.d.rights.length) (fun i => g.d.rights.length - i) 0 (.cons rfl .nil) (Wk.refl _) (Nat.zero_le _) ?_
    intro i j8 hi
    by_cases hil : i < g.d.rights.length
    · obtain ⟨bA, oA, hA3, hbA, hcA⟩ := hA.rights.row i hil
      obtain ⟨r1, r2, r3⟩ := tr i hil
      obtain ⟨t, ht⟩ : ∃ t, g.d.rights[i] = t := ⟨_, rfl⟩
      have htb := hv.rt t (by rw [← ht]; exact List.getElem_mem hil)
      rw [ht] at hcA r1 r2 r3
      rw [hn] at htb
      obtain ⟨ta, tb, tm⟩ := t
      dsimp only at htb r1 r2 r3
      obtain ⟨x, rfl⟩ : ∃ a : Nat, ta = a := ⟨ta.toNat, by omega⟩
      obtain ⟨y, rfl⟩ : ∃ b : Nat, tb = b := ⟨tb.toNat, by omega⟩
      have hx : x < n := by omega
      simp only [Int.toNat_natCast] at r1 r2 r3
      unfold rtL at hcA
      dsimp only at hcA
      have q1 := hcd3 x hx
      have q2 := hcd4 x hx
      have q3 := hWc x hx
      have q4 := hW2c x hx
      have c1 : codeO (nx x) = (y : Int) ↔ nx x = some y := codeO_eq2
      have c2 : codeO (nx2 x) = (y : Int) ↔ nx2 x = some y := codeO_eq2
      rw [← c1] at r1 r2
      rw [← c2] at r3
      obtain ⟨z1, hz1⟩ : ∃ z, codeO (nx x) = z := ⟨_, rfl⟩
      obtain ⟨z2, hz2⟩ : ∃ z, codeO (nx2 x) = z := ⟨_, rfl⟩
      obtain ⟨y1, hy1⟩ : ∃ z, watN n nx (lvl ys) x = z := ⟨_, rfl⟩
      obtain ⟨y2, hy2⟩ : ∃ z, watN n nx2 (lvl ys) x = z := ⟨_, rfl⟩
      rw [hz1] at q1 r1 r2
      rw [hz2] at q2 r3
      rw [hy1] at q3 r1 r2
      rw [hy2] at q4 r3
      clear c1 c2 hz1 hz2 hy1 hy2
      obtain ⟨bs, hbs⟩ : ∃ bt, (S / 2 ^ i) &&& 1 = bt := ⟨_, rfl⟩
      have hbs2 : bs = S / 2 ^ i % 2 := by rw [← hbs]; exact Nat.and_one_is_mod _
      have hsk : S / 2 ^ i < 2 ^ 63 := Nat.lt_of_le_of_lt (Nat.div_le_self _ _) (by omega)
      obtain ⟨bp, hbp⟩ : ∃ bt, (P / 2 ^ i) &&& 1 = bt := ⟨_, rfl⟩
      have hbp2 : bp = P / 2 ^ i % 2 := by rw [← hbp]; exact Nat.and_one_is_mod _
      have hpk : P / 2 ^ i < 2 ^ 63 := Nat.lt_of_le_of_lt (Nat.div_le_self _ _) (by omega)
      rw [← hbs2] at r2
      rw [← hbp2] at r1
      obtain ⟨Sk, hSk⟩ : ∃ z, S / 2 ^ i = z := ⟨_, rfl⟩
      obtain ⟨Pk, hPk⟩ : ∃ z, P / 2 ^ i = z := ⟨_, rfl⟩
      rw [hSk] at hbs hsk
      rw [hPk] at hbp hpk
      clear hbs2 hbp2 tr
      have h1 : (z1 = (y : Int) ∧ tm < y1 ∧ bp = 1) ∨ (z1 = (y : Int) ∧ ¬ tm < y1 ∧ bs ≠ 1) ∨ (z1 ≠ (y : Int) ∧ bs ≠ 1) := by
        by_cases k1 : z1 = (y : Int)
        · by_cases k2 : tm < y1
          · exact .inl ⟨k1, k2, r1 k1 k2⟩
          · exact .inr (.inl ⟨k1, k2, r2 (fun h => k2 h.2)⟩)
        · exact .inr (.inr ⟨k1, r2 (fun h => k1 h.1)⟩)
      have h2 : (z2 = (y : Int) ∧ ¬ tm < y2) ∨ z2 ≠ (y : Int) := by
        by_cases k1 : z2 = (y : Int)
        · exact .inl ⟨k1, by have := r3 k1; omega⟩
        · exact .inr k1
      clear r1 r2 r3
      have hi64 : i ≤ 64 := by omega
      rcases h1 with ⟨k1, k2, k3⟩ | ⟨k1, k2, k3⟩ | ⟨k1, k3⟩ <;> rcases h2 with ⟨k4, k5⟩ | k4
      all_goals
        repeat' (first | (refine Znh ?_) | (refine GiW ?_; first | (refine Zsq fun K hK => ?_) | (refine ZrN 42 fun _ => ?_; refine Zv Zylss ?_) | (refine ZrN 43 fun _ => ?_; refine Zv Zmi ?_; refine Zv Zia ?_; (first | (refine Zv (Val_loadRN rfl hbA hcA rfl) ?_) | (refine Zv Zla ?_)); refine Zal 37 fun b37 => ?_; refine Zv Zai ?_; refine Zst ?_) | (refine WP_cond_true rfl ?_) | (with_reducible apply WP_skip) | (with_reducible apply WP_block)) | (refine Zhn ?_))
        repeat' (first | (refine GiW ?_; first | (refine Zsq fun K hK => ?_) | (refine WP_drawn (id := 44) [0, 1, 2, 3, 4, 5, 6, 7, 8, 9, 10, 11, 12, 13, 14, 15, 16, 17, 18] [] (k := 0) prog_mixed (by kernel_rfl) rfl ?_; refine Zew rfl Zmv ?_; refine Zew rfl Zf0 ?_; (first | (refine Zew rfl (Val_load1 rfl .here rfl) ?_) | (refine Zew rfl (Val_load1 rfl (.there m624) q3) ?_) | (refine Zew rfl (Val_load1 rfl (.there m251) q4) ?_) | (refine Zew rfl (Val_loadD1 rfl (q1 _ (by repeat (first | exact Wk.refl _ | apply Wk.keep1 | apply Wk.drop | apply Wk.sv | apply Wk.svD | apply Wk.appD)))) ?_) | (refine Zew rfl (Val_loadD1 rfl (q2 _ (by repeat (first | exact Wk.refl _ | apply Wk.keep1 | apply Wk.drop | apply Wk.sv | apply Wk.svD | apply Wk.appD)))) ?_) | (refine Zew rfl Zld ?_)); refine Zew rfl Zia ?_; (first | (refine Zew rfl (Val_load1 rfl .here rfl) ?_) | (refine Zew rfl (Val_load1 rfl (.there m624) q3) ?_) | (refine Zew rfl (Val_load1 rfl (.there m251) q4) ?_) | (refine Zew rfl (Val_loadD1 rfl (q1 _ (by repeat (first | exact Wk.refl _ | apply Wk.keep1 | apply Wk.drop | apply Wk.sv | apply Wk.svD | apply Wk.appD)))) ?_) | (refine Zew rfl (Val_loadD1 rfl (q2 _ (by repeat (first | exact Wk.refl _ | apply Wk.keep1 | apply Wk.drop | apply Wk.sv | apply Wk.svD | apply Wk.appD)))) ?_) | (refine Zew rfl Zld ?_)); refine Zew rfl Zfa ?_; (first | (refine Zew rfl (Val_load1 rfl .here rfl) ?_) | (refine Zew rfl (Val_load1 rfl (.there m624) q3) ?_) | (refine Zew rfl (Val_load1 rfl (.there m251) q4) ?_) | (refine Zew rfl (Val_loadD1 rfl (q1 _ (by repeat (first | exact Wk.refl _ | apply Wk.keep1 | apply Wk.drop | apply Wk.sv | apply Wk.svD | apply Wk.appD)))) ?_) | (refine Zew rfl (Val_loadD1 rfl (q2 _ (by repeat (first | exact Wk.refl _ | apply Wk.keep1 | apply Wk.drop | apply Wk.sv | apply Wk.svD | apply Wk.appD)))) ?_) | (refine Zew rfl Zld ?_)); refine Zew rfl Zyeql ?_; refine Zew rfl Zmb ?_)) | (refine GiE ?_; first | (refine Zati 17 ?_; (first | (refine Zew rfl Zxpt ?_) | (refine Zew rfl Zxpf ?_)); refine Zew rfl Zab ?_) | (refine Zati 9 ?_; first | refine Zes ?_ | (refine Zew rfl Zmv ?_)) | (refine Zati 10 ?_; first | refine Zes ?_ | (refine Zew rfl Zf0 ?_)) | (refine Zati 11 ?_; first | refine Zes ?_ | (refine Zew rfl (Val_load1 rfl .here rfl) ?_) | (refine Zew rfl (Val_load1 rfl (.there m624) q3) ?_) | (refine Zew rfl (Val_load1 rfl (.there m251) q4) ?_) | (refine Zew rfl (Val_loadD1 rfl (q1 _ (by repeat (first | exact Wk.refl _ | apply Wk.keep1 | apply Wk.drop | apply Wk.sv | apply Wk.svD | apply Wk.appD)))) ?_) | (refine Zew rfl (Val_loadD1 rfl (q2 _ (by repeat (first | exact Wk.refl _ | apply Wk.keep1 | apply Wk.drop | apply Wk.sv | apply Wk.svD | apply Wk.appD)))) ?_) | (refine Zew rfl Zld ?_)) | (refine Zati 12 ?_; first | refine Zes ?_ | (refine Zew rfl Zia ?_)) | (refine Zati 13 ?_; first | refine Zes ?_ | (refine Zew rfl (Val_load1 rfl .here rfl) ?_) | (refine Zew rfl (Val_load1 rfl (.there m624) q3) ?_) | (refine Zew rfl (Val_load1 rfl (.there m251) q4) ?_) | (refine Zew rfl (Val_loadD1 rfl (q1 _ (by repeat (first | exact Wk.refl _ | apply Wk.keep1 | apply Wk.drop | apply Wk.sv | apply Wk.svD | apply Wk.appD)))) ?_) | (refine Zew rfl (Val_loadD1 rfl (q2 _ (by repeat (first | exact Wk.refl _ | apply Wk.keep1 | apply Wk.drop | apply Wk.sv | apply Wk.svD | apply Wk.appD)))) ?_) | (refine Zew rfl Zld ?_)) | (refine Zati 14 ?_; first | refine Zes ?_ | (refine Zew rfl Zfa ?_)) | (refine Zati 15 ?_; first | refine Zes ?_ | (refine Zew rfl (Val_load1 rfl .here rfl) ?_) | (refine Zew rfl (Val_load1 rfl (.there m624) q3) ?_) | (refine Zew rfl (Val_load1 rfl (.there m251) q4) ?_) | (refine Zew rfl (Val_loadD1 rfl (q1 _ (by repeat (first | exact Wk.refl _ | apply Wk.keep1 | apply Wk.drop | apply Wk.sv | apply Wk.svD | apply Wk.appD)))) ?_) | (refine Zew rfl (Val_loadD1 rfl (q2 _ (by repeat (first | exact Wk.refl _ | apply Wk.keep1 | apply Wk.drop | apply Wk.sv | apply Wk.svD | apply Wk.appD)))) ?_) | (refine Zew rfl Zld ?_)) | (refine Zati 16 ?_; first | refine Zes ?_ | (refine Zew rfl Zygtr ?_)) | (with_reducible apply EWalk_nil)) | (refine AnyO_done (by kernel_rfl) ?_; (try with_reducible apply noP_normal); try with_reducible exact key.out) | (refine Zhn ?_) | (refine AWalk_0 ?_; refine ZisO ?_))
        repeat' (first | (with_reducible refine Znl ?_) | (refine GiW ?_; first | (refine ZrN 47 fun _ => ?_; refine Zv Zxadd ?_; refine Zv Zmi ?_) | (refine WP_cond_false rfl ?_) | (with_reducible apply WP_skip) | (refine WP_drawn (id := 45) [0, 1, 2, 3, 4, 5, 6, 7, 8, 9, 10, 11, 12, 13, 14, 15, 16, 17, 18, 19, 20, 21, 22, 23, 24, 25, 26, 27, 28, 29, 30, 31, 32, 33, 34, 35, 36, 37, 38] [] (k := 0) prog_mixed (by kernel_rfl) rfl ?_; refine Zew rfl Zmb ?_; refine Zew rfl Zmb ?_)) | (refine GiE ?_; first | (refine Zati 7 ?_; (first | (refine Zew rfl Zxpt ?_) | (refine Zew rfl Zxpf ?_)); refine Zew rfl Zmb ?_) | (refine Zati 18 ?_; (first | (refine Zew rfl Zxpt ?_) | (refine Zew rfl Zxpf ?_)); refine Zew rfl Zmb ?_) | (refine Zati 38 ?_; (first | (refine Zew rfl Zxpt ?_) | (refine Zew rfl Zxpf ?_))) | (refine Zati 2 ?_; first | refine Zes ?_ | (refine Zew rfl Zmi ?_)) | (refine Zati 3 ?_; first | refine Zes ?_ | (refine Zew rfl Zmi ?_)) | (refine Zati 4 ?_; first | refine Zes ?_ | (refine Zew rfl (Val_shrF hSk hi64 rfl rfl) ?_) | (refine Zew rfl (Val_shrF hPk hi64 rfl rfl) ?_)) | (refine Zati 5 ?_; first | refine Zes ?_ | (refine Zew rfl (Val_andE hbs hsk (by omega) rfl rfl) ?_) | (refine Zew rfl (Val_andE hbp hpk (by omega) rfl rfl) ?_)) | (refine Zati 6 ?_; first | refine Zes ?_ | (refine Zew rfl Zyeql ?_)) | (refine Zati 9 ?_; first | refine Zes ?_ | (refine Zew rfl Zmb ?_)) | (refine Zati 10 ?_; first | refine Zes ?_ | (refine Zew rfl Zxnot ?_)) | (refine Zati 11 ?_; first | refine Zes ?_ | (refine Zew rfl Zmb ?_)) | (refine Zati 12 ?_; first | refine Zes ?_ | (refine Zew rfl Zmi ?_)) | (refine Zati 13 ?_; first | refine Zes ?_ | (refine Zew rfl Zmi ?_)) | (refine Zati 14 ?_; first | refine Zes ?_ | (refine Zew rfl (Val_shrF hSk hi64 rfl rfl) ?_) | (refine Zew rfl (Val_shrF hPk hi64 rfl rfl) ?_)) | (refine Zati 15 ?_; first | refine Zes ?_ | (refine Zew rfl (Val_andE hbs hsk (by omega) rfl rfl) ?_) | (refine Zew rfl (Val_andE hbp hpk (by omega) rfl rfl) ?_)) | (refine Zati 16 ?_; first | refine Zes ?_ | (refine Zew rfl Zyeql ?_)) | (refine Zati 17 ?_; first | refine Zes ?_ | (refine Zew rfl Zxpt ?_) | (refine Zew rfl Zxpf ?_)) | (refine Zati 20 ?_; first | refine Zes ?_ | (refine Zew rfl Zmv ?_)) | (refine Zati 21 ?_; first | refine Zes ?_ | (refine Zew rfl Zf0 ?_)) | (refine Zati 22 ?_; first | refine Zes ?_ | (refine Zew rfl (Val_load1 rfl .here rfl) ?_) | (refine Zew rfl (Val_load1 rfl (.there m624) q3) ?_) | (refine Zew rfl (Val_load1 rfl (.there m251) q4) ?_) | (refine Zew rfl (Val_loadD1 rfl (q1 _ (by repeat (first | exact Wk.refl _ | apply Wk.keep1 | apply Wk.drop | apply Wk.sv | apply Wk.svD | apply Wk.appD)))) ?_) | (refine Zew rfl (Val_loadD1 rfl (q2 _ (by repeat (first | exact Wk.refl _ | apply Wk.keep1 | apply Wk.drop | apply Wk.sv | apply Wk.svD | apply Wk.appD)))) ?_) | (refine Zew rfl Zld ?_)) | (refine Zati 23 ?_; first | refine Zes ?_ | (refine Zew rfl Zia ?_)) | (refine Zati 24 ?_; first | refine Zes ?_ | (refine Zew rfl (Val_load1 rfl .here rfl) ?_) | (refine Zew rfl (Val_load1 rfl (.there m624) q3) ?_) | (refine Zew rfl (Val_load1 rfl (.there m251) q4) ?_) | (refine Zew rfl (Val_loadD1 rfl (q1 _ (by repeat (first | exact Wk.refl _ | apply Wk.keep1 | apply Wk.drop | apply Wk.sv | apply Wk.svD | apply Wk.appD)))) ?_) | (refine Zew rfl (Val_loadD1 rfl (q2 _ (by repeat (first | exact Wk.refl _ | apply Wk.keep1 | apply Wk.drop | apply Wk.sv | apply Wk.svD | apply Wk.appD)))) ?_) | (refine Zew rfl Zld ?_)) | (refine Zati 25 ?_; first | refine Zes ?_ | (refine Zew rfl Zfa ?_)) | (refine Zati 26 ?_; first | refine Zes ?_ | (refine Zew rfl (Val_load1 rfl .here rfl) ?_) | (refine Zew rfl (Val_load1 rfl (.there m624) q3) ?_) | (refine Zew rfl (Val_load1 rfl (.there m251) q4) ?_) | (refine Zew rfl (Val_loadD1 rfl (q1 _ (by repeat (first | exact Wk.refl _ | apply Wk.keep1 | apply Wk.drop | apply Wk.sv | apply Wk.svD | apply Wk.appD)))) ?_) | (refine Zew rfl (Val_loadD1 rfl (q2 _ (by repeat (first | exact Wk.refl _ | apply Wk.keep1 | apply Wk.drop | apply Wk.sv | apply Wk.svD | apply Wk.appD)))) ?_) | (refine Zew rfl Zld ?_)) | (refine Zati 27 ?_; first | refine Zes ?_ | (refine Zew rfl Zyeql ?_)) | (refine Zati 28 ?_; first | refine Zes ?_ | (refine Zew rfl Zmb ?_)) | (refine Zati 29 ?_; first | refine Zes ?_ | (refine Zew rfl Zmv ?_)) | (refine Zati 30 ?_; first | refine Zes ?_ | (refine Zew rfl Zf0 ?_)) | (refine Zati 31 ?_; first | refine Zes ?_ | (refine Zew rfl (Val_load1 rfl .here rfl) ?_) | (refine Zew rfl (Val_load1 rfl (.there m624) q3) ?_) | (refine Zew rfl (Val_load1 rfl (.there m251) q4) ?_) | (refine Zew rfl (Val_loadD1 rfl (q1 _ (by repeat (first | exact Wk.refl _ | apply Wk.keep1 | apply Wk.drop | apply Wk.sv | apply Wk.svD | apply Wk.appD)))) ?_) | (refine Zew rfl (Val_loadD1 rfl (q2 _ (by repeat (first | exact Wk.refl _ | apply Wk.keep1 | apply Wk.drop | apply Wk.sv | apply Wk.svD | apply Wk.appD)))) ?_) | (refine Zew rfl Zld ?_)) | (refine Zati 32 ?_; first | refine Zes ?_ | (refine Zew rfl Zia ?_)) | (refine Zati 33 ?_; first | refine Zes ?_ | (refine Zew rfl (Val_load1 rfl .here rfl) ?_) | (refine Zew rfl (Val_load1 rfl (.there m624) q3) ?_) | (refine Zew rfl (Val_load1 rfl (.there m251) q4) ?_) | (refine Zew rfl (Val_loadD1 rfl (q1 _ (by repeat (first | exact Wk.refl _ | apply Wk.keep1 | apply Wk.drop | apply Wk.sv | apply Wk.svD | apply Wk.appD)))) ?_) | (refine Zew rfl (Val_loadD1 rfl (q2 _ (by repeat (first | exact Wk.refl _ | apply Wk.keep1 | apply Wk.drop | apply Wk.sv | apply Wk.svD | apply Wk.appD)))) ?_) | (refine Zew rfl Zld ?_)) | (refine Zati 34 ?_; first | refine Zes ?_ | (refine Zew rfl Zfa ?_)) | (refine Zati 35 ?_; first | refine Zes ?_ | (refine Zew rfl (Val_load1 rfl .here rfl) ?_) | (refine Zew rfl (Val_load1 rfl (.there m624) q3) ?_) | (refine Zew rfl (Val_load1 rfl (.there m251) q4) ?_) | (refine Zew rfl (Val_loadD1 rfl (q1 _ (by repeat (first | exact Wk.refl _ | apply Wk.keep1 | apply Wk.drop | apply Wk.sv | apply Wk.svD | apply Wk.appD)))) ?_) | (refine Zew rfl (Val_loadD1 rfl (q2 _ (by repeat (first | exact Wk.refl _ | apply Wk.keep1 | apply Wk.drop | apply Wk.sv | apply Wk.svD | apply Wk.appD)))) ?_) | (refine Zew rfl Zld ?_)) | (refine Zati 36 ?_; first | refine Zes ?_ | (refine Zew rfl Zygtr ?_)) | (refine Zati 37 ?_; first | refine Zes ?_ | (refine Zew rfl Zxpt ?_) | (refine Zew rfl Zxpf ?_)) | (with_reducible apply EWalk_nil)) | (refine AnyO_done (by kernel_rfl) ?_; (try with_reducible apply noP_normal); try with_reducible exact key.out) | (refine Zhn ?_) | (with_reducible apply QBlock_normal) | (refine AWalk_0 ?_; refine ZisO ?_))
        all_goals exact QLoop_normal (i + 1) (.cons rfl .nil) (by repeat (first | exact Off.frame rfl | exact Off.refl _ _ | refine Off.frameT rfl rfl ?_ | refine Off.upd rfl ?_ | refine Off.updO rfl ?_)) (by repeat (first | exact Wk.refl _ | apply Wk.keep1 | apply Wk.drop | apply Wk.sv | apply Wk.svD | apply Wk.appD)) (by omega) (by omega)
    · repeat' (first | (refine GiP ?_; first | (refine Znh ?_) | (refine Zatd 323 ?_; (first | (refine Zv Zxpt ?_) | (refine Zv Zxpf ?_)); refine Zv Zab ?_) | (refine Zatd 322 ?_; first | refine Zsk ?_ | (refine Zcl (Enters_fn rfl) (h13 _) ?_))) | (refine GiW ?_; first | (refine Zsq fun K hK => ?_) | (refine ZrN 42 fun _ => ?_; refine Zv Zylss ?_) | (refine ZrG 48 ?_; refine Zv Zmi ?_; refine Zv Zmi ?_; refine Zv Zyeql ?_; refine Zv Zmb ?_) | (refine WP_cond_false rfl ?_) | (with_reducible apply WP_exit) | (with_reducible apply WP_ret)) | (refine Zhn ?_) | (refine Zhx ?_) | (with_reducible apply QBlock_hit) | (with_reducible apply QLoop_exit))
      all_goals exact QBody_ret1 rfl (rfl : _ = Value.bool _) ⟨rfl, hWL⟩
theorem true_all (L : Hp) (g : Fg) (hA : DrAt N w0 g) (A : Option Addr) (c : Nat) (us : List Nat) (hB : SlAt N w0 A 1 (u16L us)) (hu : ∀ u ∈ us, u ≤ 65535) : Ret Try.prog N w0 L 4 [drV g, .slice A us.length c].toArray (.bool true) := by
  cases h1 : vB g.d with
  | false => exact true_law0 N w0 L g hA A us.length c (.inr h1)
  | true => exact true_law1 N w0 L g hA A c us hB hu h1
end
end Go.Proofs.Ytbhgpnbfdjoglaa
end
