/- The law DrainMore: its walk. -/
import Derived.Test.YtbhgpnbfdjoglaaMq
import Derived.Test.YtbhgpnbfdjoglaaQi
import Derived.Test.YtbhgpnbfdjoglaaC2
import Derived.Test.YtbhgpnbfdjoglaaFl3
section
namespace Go.Proofs.Ytbhgpnbfdjoglaa
open Go.RowKit
theorem Ro.now {N : Nat} {w0 w : World} {L : Hp} {b o : Nat} {vs : List Value} (hI : Inv N w0 L w) (hb : b < N) (h : Ro w0 b o vs) : b < w.heap.size ∧ Ro w b o vs := ⟨Nat.lt_of_lt_of_le hb hI.big, fun j v hj => hI.cellRo hb (h j v hj)⟩
theorem inK4 {a b c d : Int} (ha : -1000000 ≤ a ∧ a ≤ 1000000) (hb : -1000000 ≤ b ∧ b ≤ 1000000) (hc : -1000000 ≤ c ∧ c ≤ 1000000) (hd : -1000000 ≤ d ∧ d ≤ 1000000) : inKs [.i64, .i64, .i64, .i64] [a, b, c, d] := by
  refine ⟨rfl, ?_⟩
  intro p hp
  simp only [List.zip_cons_cons, List.zip_nil_right, List.mem_cons, List.not_mem_nil, or_false] at hp
  rcases hp with rfl | rfl | rfl | rfl <;> (simp [Lit.wf, IntKind.min, IntKind.max, IntKind.bits, IntKind.signed]; omega)
theorem Val_neq4 {P : Program} {N : Nat} {w0 : World} {L : Hp} {e : Env} {dd : Option Nat} {ty : TypeId} {pos : String} {af : Array Edge} {g : Option (Nat × Bool)} {x y : Operand} {t t' : TypeId} [hk : KeyTy P t [.i64, .i64, .i64, .i64]] {a b c d : Int} (hx : ev e x = .agg [.int .i64 a, .int .i64 b, .int .i64 c, .int .i64 d].toArray) (hy : ev e y = .agg [.int .i64 a, .int .i64 b, .int .i64 c, .int .i64 d].toArray) (h : inKs [.i64, .i64, .i64, .i64] [a, b, c, d]) : Val P N w0 L e ⟨dd, .binOp .neq t x y t', ty, pos, af, g⟩ (.bool false) := Val_neqIF (ks := [.i64, .i64, .i64, .i64]) (a := [a, b, c, d]) (b := [a, b, c, d]) hx hy rfl h h
structure P4 where
  b213 : Nat
  b217 : Nat
  b221 : Nat
  b225 : Nat
  sa : Option (Nat × Nat)
  sb : Option (Nat × Nat)
  sc : Option (Nat × Nat)
/-- Drains that lie at a place, box and all. -/
def BoxAt (w : World) (b : Nat) (g : Fg) : Prop := (b < w.heap.size ∧ Ro w b 0 (drL g)) ∧ DrAt w.heap.size w g
theorem in_banksM {N : Nat} {w0 : World} {g : Fg} (hin : ∀ L, DrainIn N w0 L g) (ls : List Bk) {s : Option (Nat × Nat)} {xs : List Value} (hx : xs = (ls.map bkL).flatten) (hs : svOk s 4 ls.length xs) :
    ∃ A9 c9, svV s ls.length = .slice A9 ls.length c9 ∧ ∀ L', Sub (svH 60 4 ls.length xs s []) L' → DrainIn N w0 L' { g with d := { g.d with banks := ls }, A1 := A9, c1 := c9 } := by
  obtain ⟨A9, c9, e9, hsl⟩ := sl_sv (E := 60) (by omega) hs
  refine ⟨A9, c9, e9, fun L' hS w hI => ?_⟩
  obtain ⟨L0, hp⟩ := hS
  have hI2 := (hI.perm hp)
  rw [svH_nil] at hI2
  have hb := hin L' w hI
  exact ⟨hsl hI2 hx (map_len (f := bkL) (fun _ => rfl) _), hb.ways, hb.rights, hb.seen⟩
theorem in_waysM {N : Nat} {w0 : World} {g : Fg} (hin : ∀ L, DrainIn N w0 L g) (ls : List Sp) {s : Option (Nat × Nat)} {xs : List Value} (hx : xs = (ls.map spL).flatten) (hs : svOk s 2 ls.length xs) :
    ∃ A9 c9, svV s ls.length = .slice A9 ls.length c9 ∧ ∀ L', Sub (svH 32 2 ls.length xs s []) L' → DrainIn N w0 L' { g with d := { g.d with ways := ls }, A2 := A9, c2 := c9 } := by
  obtain ⟨A9, c9, e9, hsl⟩ := sl_sv (E := 32) (by omega) hs
  refine ⟨A9, c9, e9, fun L' hS w hI => ?_⟩
  obtain ⟨L0, hp⟩ := hS
  have hI2 := (hI.perm hp)
  rw [svH_nil] at hI2
  have hb := hin L' w hI
  exact ⟨hb.banks, hsl hI2 hx (map_len (f := spL) (fun _ => rfl) _), hb.rights, hb.seen⟩
theorem in_rightsM {N : Nat} {w0 : World} {g : Fg} (hin : ∀ L, DrainIn N w0 L g) (ls : List Rt) {s : Option (Nat × Nat)} {xs : List Value} (hx : xs = (ls.map rtL).flatten) (hs : svOk s 3 ls.length xs) :
    ∃ A9 c9, svV s ls.length = .slice A9 ls.length c9 ∧ ∀ L', Sub (svH 57 3 ls.length xs s []) L' → DrainIn N w0 L' { g with d := { g.d with rights := ls }, A3 := A9, c3 := c9 } := by
  obtain ⟨A9, c9, e9, hsl⟩ := sl_sv (E := 57) (by omega) hs
  refine ⟨A9, c9, e9, fun L' hS w hI => ?_⟩
  obtain ⟨L0, hp⟩ := hS
  have hI2 := (hI.perm hp)
  rw [svH_nil] at hI2
  have hb := hin L' w hI
  exact ⟨hb.banks, hb.ways, hsl hI2 hx (map_len (f := rtL) (fun _ => rfl) _), hb.seen⟩
theorem in_seenM {N : Nat} {w0 : World} {g : Fg} (hin : ∀ L, DrainIn N w0 L g) (ls : List Sp) {s : Option (Nat × Nat)} {xs : List Value} (hx : xs = (ls.map spL).flatten) (hs : svOk s 2 ls.length xs) :
    ∃ A9 c9, svV s ls.length = .slice A9 ls.length c9 ∧ ∀ L', Sub (svH 32 2 ls.length xs s []) L' → DrainIn N w0 L' { g with d := { g.d with seen := ls }, A4 := A9, c4 := c9 } := by
  obtain ⟨A9, c9, e9, hsl⟩ := sl_sv (E := 32) (by omega) hs
  refine ⟨A9, c9, e9, fun L' hS w hI => ?_⟩
  obtain ⟨L0, hp⟩ := hS
  have hI2 := (hI.perm hp)
  rw [svH_nil] at hI2
  have hb := hin L' w hI
  exact ⟨hb.banks, hb.ways, hb.rights, hsl hI2 hx (map_len (f := spL) (fun _ => rfl) _)⟩
attribute [local irreducible] AnyO AnyB QAny QB EWalk AWalk Ev WP OPS QThen QBlock QScope QLoop QBody Val New Turn Tri Enters PostA Blk Ro
attribute [local irreducible] AnyC QC
/-- A goal that is yet to be known (no tactic takes it for another one). -/
structure Hid (P : Prop) : Prop where
  out : P
def cutMk {P G : Prop} (h : Hid P → G) : {P : Prop // P → G} := ⟨P, fun p => h ⟨p⟩⟩
section
variable (N : Nat) (w0 : World)
theorem dmin_ret (L : Hp) (a b c d : Int) (h1 : c ≤ a) (h2 : b ≤ d) : Ret Try.prog N w0 L 36 [.agg [.int .i64 a, .int .i64 b].toArray, .agg [.int .i64 c, .int .i64 d].toArray].toArray (.bool true) := by
  refine Ret.fgt ?_
  refine tri_of_WP Try.func36 rfl (n := _) rfl (by simp) ?_
  repeat' (first | (refine GiP ?_; first | (refine Znh ?_) | (with_reducible refine Znl ?_) | (refine Zatd 16 ?_; (first | (refine Zv Zxpt ?_) | (refine Zv Zxpf ?_)); refine Zv Zab ?_) | (refine Zatd 11 ?_; first | refine Zsk ?_ | (refine Zv Zfa ?_)) | (refine Zatd 12 ?_; first | refine Zsk ?_ | (refine Zv Zld ?_)) | (refine Zatd 13 ?_; first | refine Zsk ?_ | (refine Zv Zfa ?_)) | (refine Zatd 14 ?_; first | refine Zsk ?_ | (refine Zv Zld ?_)) | (refine Zatd 15 ?_; first | refine Zsk ?_ | (refine Zv Zyleq ?_)) | (refine Zsk ?_) | (refine Zsp (fun hc => ?_) (fun hc => ?_) <;> (try (exfalso; omega)))) | (refine GiW ?_; first | (refine Zsq fun K hK => ?_) | (refine ZrN 0 fun _ => ?_; refine Zal 2 fun b2 => ?_; refine Zal 3 fun b3 => ?_; refine Zv Zab ?_) | (refine ZrG 1 ?_; refine Zv Zf0 ?_; refine Zv Zld ?_; refine Zv Zf0 ?_; refine Zv Zld ?_; refine Zv Zygeq ?_; refine Zv Zmb ?_) | (with_reducible apply WP_ret)) | (refine Zhn ?_) | (refine Zhr ?_))
  exact QBody_ret1 rfl (rfl : _ = Value.bool _) ⟨rfl, (by repeat (first | exact Wk.refl _ | apply Wk.keep1 | apply Wk.drop | apply Wk.sv | apply Wk.svD | apply Wk.appD))⟩
theorem more_law0 (L : Hp) (g : Fg) (hA : DrAt N w0 g) (w : Sp) (r : Rt) (a b : Nat) (h : farB g.d = true ∨ vB g.d = false) : Ret Try.prog N w0 L 9 [drV g, .agg (spL w).toArray, .agg (rtL r).toArray, .int .u8 (a : Int), .int .u8 (b : Int)].toArray (.bool true) := by
  have h28 := fun L => long_ret N w0 L g
  have h13 := fun L => alive_ret N w0 L
  cases hf : farB g.d with
  | true =>
    rw [hf] at h28
    refine Ret.fgt ?_
    refine tri_of_WP Try.func9 rfl (n := _) rfl (by simp) ?_
    unfold drV drL at h28 ⊢
    unfold spL rtL
    repeat' (first | (refine GiP ?_; first | (refine Znh ?_) | (with_reducible refine Znl ?_) | (refine Zatd 80 ?_; (first | (refine Zv Zxpt ?_) | (refine Zv Zxpf ?_))) | (refine Zatd 77 ?_; first | refine Zsk ?_ | (refine Zv Zla ?_)) | (refine Zatd 79 ?_; first | refine Zsk ?_ | (refine Zv Zxnot ?_)) | (refine Zsk ?_) | (refine Zsp (fun hc => ?_) (fun hc => ?_) <;> (try (exfalso; omega)))) | (refine GiW ?_; first | (refine Zsq fun K hK => ?_) | (refine ZrN 0 fun _ => ?_; refine Zal 5 fun b5 => ?_; refine Zal 6 fun b6 => ?_; refine Zal 7 fun b7 => ?_; refine Zv Zab ?_) | (refine ZrG 1 ?_; refine Zv Zla ?_; refine Zcl (Enters_fn rfl) (h28 _) ?_; refine Zv Zmb ?_) | (refine ZrN 2 fun _ => ?_; refine Zcl (Enters_fn rfl) (h13 _) ?_; refine Zv Zab ?_) | (refine WP_cond_true rfl ?_) | (refine WP_cond_false rfl ?_) | (refine Zcd (fun hc => ?_) (fun hc => ?_) <;> (try (exfalso; omega))) | (with_reducible apply WP_skip) | (with_reducible apply WP_block) | (with_reducible apply WP_exit) | (with_reducible apply WP_ret)) | (refine Zhn ?_) | (with_reducible apply QBlock_normal) | (refine Zhx ?_) | (with_reducible apply QBlock_hit) | (refine Zqb ?_) | (with_reducible apply QLoop_exit) | (refine Zhr ?_) | (with_reducible apply QBlock_ret) | (with_reducible apply QLoop_ret))
    exact QBody_ret1 rfl (rfl : _ = Value.bool _) ⟨rfl, (by repeat (first | exact Wk.refl _ | apply Wk.keep1 | apply Wk.drop | apply Wk.sv | apply Wk.svD | apply Wk.appD))⟩
  | false =>
    have hvb : vB g.d = false := by rcases h with h | h; rw [h] at hf; cases hf; exact h
    have h29 := fun L => rDrain_in N w0 L g (DrainIn.at_ hA) hf
    rw [hf] at h28
    rw [hvb] at h29
    refine Ret.fgt ?_
    refine tri_of_WP Try.func9 rfl (n := _) rfl (by simp) ?_
    unfold drV drL at h28 h29 ⊢
    unfold spL rtL
    repeat' (first | (refine GiP ?_; first | (refine Znh ?_) | (with_reducible refine Znl ?_) | (refine Zatd 80 ?_; (first | (refine Zv Zxpt ?_) | (refine Zv Zxpf ?_))) | (refine Zatd 77 ?_; first | refine Zsk ?_ | (refine Zv Zla ?_)) | (refine Zatd 78 ?_; first | refine Zsk ?_ | (refine Zcl (Enters_fn rfl) (h29 _) ?_)) | (refine Zatd 79 ?_; first | refine Zsk ?_ | (refine Zv Zxnot ?_)) | (refine Zsk ?_) | (refine Zsp (fun hc => ?_) (fun hc => ?_) <;> (try (exfalso; omega)))) | (refine GiW ?_; first | (refine Zsq fun K hK => ?_) | (refine ZrN 0 fun _ => ?_; refine Zal 5 fun b5 => ?_; refine Zal 6 fun b6 => ?_; refine Zal 7 fun b7 => ?_; refine Zv Zab ?_) | (refine ZrG 1 ?_; refine Zv Zla ?_; refine Zcl (Enters_fn rfl) (h28 _) ?_; refine Zv Zmb ?_) | (refine ZrN 2 fun _ => ?_; refine Zcl (Enters_fn rfl) (h13 _) ?_; refine Zv Zab ?_) | (refine WP_cond_true rfl ?_) | (refine WP_cond_false rfl ?_) | (refine Zcd (fun hc => ?_) (fun hc => ?_) <;> (try (exfalso; omega))) | (with_reducible apply WP_skip) | (with_reducible apply WP_block) | (with_reducible apply WP_exit) | (with_reducible apply WP_ret)) | (refine Zhn ?_) | (with_reducible apply QBlock_normal) | (refine Zhx ?_) | (with_reducible apply QBlock_hit) | (refine Zqb ?_) | (with_reducible apply QLoop_exit) | (refine Zhr ?_) | (with_reducible apply QBlock_ret) | (with_reducible apply QLoop_ret))
    exact QBody_ret1 rfl (rfl : _ = Value.bool _) ⟨rfl, (by repeat (first | exact Wk.refl _ | apply Wk.keep1 | apply Wk.drop | apply Wk.sv | apply Wk.svD | apply Wk.appD))⟩
theorem Sub.permL {B B' L : Hp} (h : Sub B L) (p : B.Perm B') : Sub B' L := by
  obtain ⟨L0, q⟩ := h
  exact ⟨L0, q.trans (p.append_right L0)⟩
theorem pull5 {E1 E2 E3 : TypeId} {z1 z2 z3 k1 k2 k3 : Nat} {x1 x2 x3 : List Value} {s1 s2 s3 : Option (Nat × Nat)} {x y a b c d : Nat × (Obj → Prop)} {R : Hp} : (svH E1 z1 k1 x1 s1 (svH E2 z2 k2 x2 s2 (y :: svH E3 z3 k3 x3 s3 (a :: b :: c :: d :: x :: R)))).Perm (x :: svH E1 z1 k1 x1 s1 (svH E2 z2 k2 x2 s2 (y :: svH E3 z3 k3 x3 s3 (a :: b :: c :: d :: R)))) := by
  have h0 : (a :: b :: c :: d :: x :: R).Perm (x :: a :: b :: c :: d :: R) := List.perm_middle (l₁ := [a, b, c, d])
  have h3 : (svH E3 z3 k3 x3 s3 (a :: b :: c :: d :: x :: R)).Perm (x :: svH E3 z3 k3 x3 s3 (a :: b :: c :: d :: R)) := (svH_perm h0).trans (svH_mid (X := [x])).symm
  have h4 : (y :: svH E3 z3 k3 x3 s3 (a :: b :: c :: d :: x :: R)).Perm (x :: y :: svH E3 z3 k3 x3 s3 (a :: b :: c :: d :: R)) := (h3.cons y).trans (.swap _ _ _)
  have h2 := (svH_perm (E := E2) (sz := z2) (k := k2) (xs := x2) (s := s2) h4).trans (svH_mid (X := [x])).symm
  exact (svH_perm (E := E1) (sz := z1) (k := k1) (xs := x1) (s := s1) h2).trans (svH_mid (X := [x])).symm
end
section
set_option maxRecDepth 100000 in
set_option maxHeartbeats 8000000 in
def cut1 (N : Nat) (w0 : World) (L : Hp) (g : Fg) (hA : DrAt N w0 g) (w1 w2 r1 r2 r3 : Int) (a8 : Nat) (ha8 : a8 ≤ 255) (b8 : Nat) (hb8 : b8 ≤ 255) (hvb : vB g.d = true) : {P : Prop // P → Ret Try.prog N w0 L 9 [drV g, .agg (spL (w1, w2)).toArray, .agg (rtL ⟨r1, r2, r3⟩).toArray, .int .u8 (a8 : Int), .int .u8 (b8 : Int)].toArray (.bool true)} := by
  apply cutMk
  intro hcut
  have hv := VD_of hvb
  have hf := farB_vB hvb
  have hin : ∀ L, DrainIn N w0 L g := fun L => DrainIn.at_ hA
  have h28 := fun L => long_ret N w0 L g
  have h13 := fun L => alive_ret N w0 L
  have h29 := fun L => rDrain_in N w0 L g (hin L) hf
  rw [hf] at h28
  rw [hvb] at h29
  have hnb := hv.nb
  have hnw := hv.nw
  have hnr := hv.nr
  have hns := hv.ns
  obtain ⟨n, hn⟩ : ∃ n, g.d.banks.length = n := ⟨_, rfl⟩
  obtain ⟨m, hm⟩ : ∃ n, g.d.ways.length = n := ⟨_, rfl⟩
  obtain ⟨p, hp⟩ : ∃ n, g.d.rights.length = n := ⟨_, rfl⟩
  obtain ⟨q, hq⟩ : ∃ n, g.d.seen.length = n := ⟨_, rfl⟩
  obtain ⟨a, ha9⟩ : ∃ d, a8 % n = d := ⟨_, rfl⟩
  obtain ⟨b, hb9⟩ : ∃ d, b8 % n = d := ⟨_, rfl⟩
  have ha : a < n := by rw [← ha9]; exact Nat.mod_lt _ (by omega)
  have hb : b < n := by rw [← hb9]; exact Nat.mod_lt _ (by omega)
  refine Ret.fgt ?_
  refine tri_of_WP Try.func9 rfl (n := _) rfl (by simp) ?_
  unfold drV drL at h28 h29 ⊢
  unfold spL rtL
  dsimp only
  rw [hn, hm, hp, hq] at h28 h29 ⊢
  rw [hn] at hnb
  rw [hm] at hnw
  rw [hp] at hnr
  rw [hq] at hns
  repeat' (first | (refine GiP ?_; first | (refine Znh ?_) | (with_reducible refine Znl ?_) | (refine Zatd 80 ?_; (first | (refine Zv Zxpt ?_) | (refine Zv Zxpf ?_))) | (refine Zatd 77 ?_; first | refine Zsk ?_ | (refine Zv Zla ?_)) | (refine Zatd 78 ?_; first | refine Zsk ?_ | (refine Zcl (Enters_fn rfl) (h29 _) ?_)) | (refine Zatd 79 ?_; first | refine Zsk ?_ | (refine Zv Zxnot ?_)) | (refine Zsk ?_) | (refine Zsp (fun hc => ?_) (fun hc => ?_) <;> (try (exfalso; omega)))) | (refine GiW ?_; first | (refine Zsq fun K hK => ?_) | (refine ZrN 0 fun _ => ?_; refine Zal 5 fun b5 => ?_; refine Zal 6 fun b6 => ?_; refine Zal 7 fun b7 => ?_; refine Zv Zab ?_) | (refine ZrG 1 ?_; refine Zv Zla ?_; refine Zcl (Enters_fn rfl) (h28 _) ?_; refine Zv Zmb ?_) | (refine ZrN 3 fun _ => ?_; refine Zv Zf0 ?_; refine Zv Zld ?_; refine Zv Zxlen ?_; refine Zv Zai ?_) | (refine WP_cond_true rfl ?_) | (refine WP_cond_false rfl ?_) | (refine Zcd (fun hc => ?_) (fun hc => ?_) <;> (try (exfalso; omega))) | (with_reducible apply WP_skip) | (with_reducible apply WP_block) | (with_reducible apply WP_exit) | (with_reducible apply WP_ret) | (refine WP_drawn (id := 4) [0, 1, 2, 3, 4, 5, 6, 7, 8, 9] [] (k := 0) prog_mixed (by kernel_rfl) rfl ?_; refine Zew rfl Zmi ?_; refine Zew rfl Zxco ?_; refine Zew rfl Zmi ?_; (first | (refine Zew rfl (Val_remE2 ha9 (by omega) rfl rfl) ?_) | (refine Zew rfl (Val_remE2 hb9 (by omega) rfl rfl) ?_)); refine Zew rfl Zmi ?_; refine Zew rfl Zxco ?_; refine Zew rfl Zmi ?_; (first | (refine Zew rfl (Val_remE2 ha9 (by omega) rfl rfl) ?_) | (refine Zew rfl (Val_remE2 hb9 (by omega) rfl rfl) ?_)); refine Zew rfl Zai ?_; refine Zew rfl Zai ?_)) | (with_reducible apply EWalk_nil) | (refine AnyO_done (by kernel_rfl) ?_; (try with_reducible apply noP_normal); try with_reducible exact key.out) | (refine Zhn ?_) | (with_reducible apply QBlock_normal) | (refine Zhx ?_) | (with_reducible apply QBlock_hit) | (refine Zqb ?_) | (with_reducible apply QLoop_exit) | (refine Zhr ?_) | (with_reducible apply QBlock_ret) | (with_reducible apply QLoop_ret) | (refine AWalk_0 ?_; refine ZisO ?_) | (with_reducible apply QAny_normal))
  repeat' (first | (refine GiP ?_; first | (refine Znh ?_) | (with_reducible refine Znl ?_) | (refine Zatn ?_; refine Zst ?_)) | (refine GiW ?_; first | (refine Zsq fun K hK => ?_) | (refine WP_cond_true rfl ?_) | (refine WP_cond_false rfl ?_) | (refine Zcd (fun hc => ?_) (fun hc => ?_) <;> (try (exfalso; omega))) | (with_reducible apply WP_skip) | (with_reducible apply WP_block) | (with_reducible apply WP_exit) | (with_reducible apply WP_ret) | (refine WP_drawnS (id := 5) [1, 2, 3, 4] [0, 1, 2, 3, 4] [5, 6, 7, 8, 9] [94, 95, 96, 97] (k := 4) (k2 := 1) (by repeat (first | apply Sub.sv | apply Sub.keep | apply Sub.appK | exact Sub.refl _)) (by kernel_rfl) prog_mixed (by kernel_rfl) (by kernel_rfl) rfl ?_; refine Zew rfl Zla ?_; refine Zew rfl Zla ?_; refine Zew rfl Zla ?_; refine Zew rfl Zla ?_; refine Zew rfl Zla ?_)) | (with_reducible apply EWalk_nil) | (refine GiC ?_; first | (refine ZgC [0, 1, 2, 3, 4, 5, 6, 7, 8, 9] ?_; refine ZC1 _ 10 [0, 1, 2, 3, 4, 5, 6, 7, 8, 9, 10] ?_) | (refine ZgC [0, 1, 2, 3, 4, 5, 6, 7, 8, 9, 10] ?_; refine ZC1 _ 11 [0, 1, 2, 3, 4, 5, 6, 7, 8, 9, 10, 11] ?_) | (refine ZgC [0, 1, 2, 3, 4, 5, 6, 7, 8, 9, 10, 11] ?_; refine ZC1 _ 12 [0, 1, 2, 3, 4, 5, 6, 7, 8, 9, 10, 11, 12] ?_) | (refine ZgC [0, 1, 2, 3, 4, 5, 6, 7, 8, 9, 10, 11, 12] ?_; refine ZC1 _ 13 [0, 1, 2, 3, 4, 5, 6, 7, 8, 9, 10, 11, 12, 13] ?_) | (refine ZgC [0, 1, 2, 3, 4, 5, 6, 7, 8, 9, 10, 11, 12, 13] ?_; refine ZCl _ ?_)) | (refine GiO ?_; first | (refine ZgO [0, 1, 2, 3, 4, 5, 6, 7, 8, 9, 10, 11, 12, 13] ?_; refine ZO1 _ 14 [0, 1, 2, 3, 4, 5, 6, 7, 8, 9, 10, 11, 12, 13, 14] ?_) | (refine ZgO [0, 1, 2, 3, 4, 5, 6, 7, 8, 9, 10, 11, 12, 13, 14] ?_; refine ZOd _ ?_; (try with_reducible apply noP_normal); (try with_reducible exact key.out))) | (refine Zhn ?_) | (with_reducible apply QBlock_normal) | (refine Zhx ?_) | (with_reducible apply QBlock_hit) | (refine Zqb ?_) | (with_reducible apply QLoop_exit) | (refine Zhr ?_) | (with_reducible apply QBlock_ret) | (with_reducible apply QLoop_ret) | (refine AWalk_5S (d := 14) (d' := 15) (d'' := 16) (d''' := 17) (d'''' := 18) rfl rfl rfl rfl blk_is New_alloc rfl rfl rfl rfl blk_is New_alloc rfl rfl rfl rfl blk_is New_alloc rfl rfl rfl rfl blk_is New_alloc rfl rfl rfl rfl blk_is New_alloc (fun b14 b15 b16 b17 b18 => ?_)) | (with_reducible apply QAny_normal) | (with_reducible apply QC_normal))
  obtain ⟨xl, hxl⟩ : ∃ xs, (g.d.seen.map spL).flatten = xs := ⟨_, rfl⟩
  have hsrcS : ∀ L', ∀ w, Inv N w0 L' w → ∀ j u, xl[j]? = some u → ∃ b o, g.A4 = some ⟨b, o, none⟩ ∧ w.cell? ⟨b, o + j, none⟩ = some u := fun L' w hI => by rw [← hxl]; exact (RdRows.ofSl (L := L') hA.seen).flat (by omega) (map_len (f := spL) (fun _ => rfl) _) hI
  have hl4 : xl.length = q * (1 + 1) := by rw [← hxl, ← hq]; exact map_flat (f := spL) (fun _ => rfl) _
  have ho4 : ones xl = true := by rw [← hxl]; exact ones_flat (map_ones (f := spL) (fun _ => rfl) _)
  have hA4n : g.A4 = none → q = 0 := fun h => by have := slat_none hA.seen h; rw [List.length_map] at this; omega
  refine WP_joinS (by assumption) [98, 99, 100, 101, 102, 103, 104, 105] (fun _ : Option (Nat × Nat) => []) (fun s => svH 32 2 (q + 1) (xl ++ [.int .i64 w1, .int .i64 w2]) s ((b14, Blk 29 [.slice g.A1 n g.c1, .slice g.A2 m g.c2, .slice g.A3 p g.c3, svV s (q + 1)]) :: (b15, Blk 29 [.slice g.A1 n g.c1, .slice g.A2 m g.c2, .slice g.A3 p g.c3, .slice g.A4 q g.c4]) :: (b16, Blk 29 [.slice g.A1 n g.c1, .slice g.A2 m g.c2, .slice g.A3 p g.c3, .slice g.A4 q g.c4]) :: (b17, Blk 29 [.slice g.A1 n g.c1, .slice g.A2 m g.c2, .slice g.A3 p g.c3, .slice g.A4 q g.c4]) :: (b18, Blk 29 [.slice g.A1 n g.c1, .slice g.A2 m g.c2, .slice g.A3 p g.c3, .slice g.A4 q g.c4]) :: (b7, Blk 57 [.int .i64 r1, .int .i64 r2, .int .i64 r3]) :: (b6, Blk 32 [.int .i64 w1, .int .i64 w2]) :: (b5, Blk 29 [.slice g.A1 n g.c1, .slice g.A2 m g.c2, .slice g.A3 p g.c3, .slice g.A4 q g.c4]) :: L)) (fun s => svOk s 2 (q + 1) (xl ++ [.int .i64 w1, .int .i64 w2])) ?_ ?_
  · intro K' hC
    repeat' (first | (refine GiP ?_; first | (refine Znh ?_) | (with_reducible refine Znl ?_) | (refine Zatd 98 ?_; refine Zbs fun b98 => ?_) | (refine Zatd 98 ?_; refine Zal 98 fun b98 => ?_) | (refine Zatd 101 ?_; refine OPS_append0 rfl rfl rfl (by intro s9; repeat (first | exact Grow.here | apply Grow.there | apply Grow.sv | apply Grow.app)) svOk0 (hsrcS _) hA4n hl4 ho4 (by simp only [maxLen]; omega) (by omega) (fun s101 hs101 => ?_)) | (refine Zatd 101 ?_; refine Zag (fun s101 hs101 => ?_)) | (refine Zatd 103 ?_; refine Zbs fun b103 => ?_) | (refine Zatd 103 ?_; refine Zal 103 fun b103 => ?_) | (refine Zatd 104 ?_; refine OPS_append0 rfl rfl rfl (by intro s9; repeat (first | exact Grow.here | apply Grow.there | apply Grow.sv | apply Grow.app)) svOk0 (hsrcS _) hA4n hl4 ho4 (by simp only [maxLen]; omega) (by omega) (fun s104 hs104 => ?_)) | (refine Zatd 104 ?_; refine Zag (fun s104 hs104 => ?_)) | (refine Zatd 105 ?_; refine Zv Zfa ?_) | (refine Zatn ?_; refine Zst ?_)) | (refine GiW ?_; first | (refine Zsq fun K hK => ?_) | (refine WP_cond_true rfl ?_) | (refine WP_cond_false rfl ?_) | (refine Zcd (fun hc => ?_) (fun hc => ?_) <;> (try (exfalso; omega))) | (with_reducible apply WP_skip) | (with_reducible apply WP_block) | (with_reducible apply WP_exit) | (with_reducible apply WP_ret) | (refine WP_drawnS (id := 6) [1, 2, 4] [1, 2, 4] [] [99, 100, 102] (k := 3) (k2 := 3) (by repeat (first | apply Sub.sv | apply Sub.keep | apply Sub.appK | exact Sub.refl _)) (by kernel_rfl) prog_mixed (by kernel_rfl) (by kernel_rfl) rfl ?_; refine Zew rfl Zfa ?_; refine Zew rfl Zld ?_; refine Zew rfl Zla ?_)) | (with_reducible apply EWalk_nil) | (refine GiC ?_; first | (refine ZgC [1, 2, 4] ?_; refine ZC2 _ 0 [1, 2, 4, 0] 5 [1, 2, 4, 5] ?_ ?_) | (refine ZgC [1, 2, 4, 0] ?_; refine ZC2 _ 3 [1, 2, 4, 0, 3] 5 [1, 2, 4, 0, 5] ?_ ?_) | (refine ZgC [1, 2, 4, 0, 3] ?_; refine ZC1 _ 5 [1, 2, 4, 0, 3, 5] ?_) | (refine ZgC [1, 2, 4, 0, 3, 5] ?_; refine ZCl _ ?_) | (refine ZgC [1, 2, 4, 0, 5] ?_; refine ZC1 _ 3 [1, 2, 4, 0, 3, 5] ?_) | (refine ZgC [1, 2, 4, 5] ?_; refine ZC1 _ 0 [1, 2, 4, 0, 5] ?_)) | (refine GiO ?_; first | (refine ZgO [1, 2, 4, 0, 3, 5] ?_; refine ZO1 _ 6 [1, 2, 4, 0, 3, 5, 6] ?_) | (refine ZgO [1, 2, 4, 0, 3, 5, 6] ?_; refine ZO1 _ 7 [1, 2, 4, 0, 3, 5, 6, 7] ?_) | (refine ZgO [1, 2, 4, 0, 3, 5, 6, 7] ?_; refine ZO1 _ 8 [1, 2, 4, 0, 3, 5, 6, 7, 8] ?_) | (refine ZgO [1, 2, 4, 0, 3, 5, 6, 7, 8] ?_; refine ZOd _ ?_; (try with_reducible apply noP_normal); (try with_reducible exact key.out))) | (refine Zhn ?_) | (with_reducible apply QBlock_normal) | (refine Zhx ?_) | (with_reducible apply QBlock_hit) | (refine Zqb ?_) | (with_reducible apply QLoop_exit) | (refine Zhr ?_) | (with_reducible apply QBlock_ret) | (with_reducible apply QLoop_ret) | (refine AWalk_0 ?_) | (with_reducible apply QAny_normal) | (with_reducible apply QC_normal))
    all_goals exact hC.nor s104 _ _ .nil (by repeat (first | exact Off.frame rfl | exact Off.refl _ _ | refine Off.frameT rfl rfl ?_ | refine Off.upd rfl ?_ | refine Off.updO rfl ?_)) (by repeat (first | exact Sub.nil | exact Sub.refl _ | assumption | exact Sub.left | apply Sub.svK | apply Sub.sv | apply Sub.cons | apply Sub.app)) (by assumption)
  intro sx j1 hsx
  refine WP_gen [3, 4, 5, 6, 7, 11, 12, 13, 14, 15, 16, 17, 18] [(3, .int .u8 (a8 : Int)), (4, .int .u8 (b8 : Int)), (5, .pointer (some ⟨b5, 0, none⟩)), (6, .pointer (some ⟨b6, 0, none⟩)), (7, .pointer (some ⟨b7, 0, none⟩)), (11, .int .i64 (n : Int)), (12, .int .i64 (a : Int)), (13, .int .i64 (b : Int)), (14, .pointer (some ⟨b14, 0, none⟩)), (15, .pointer (some ⟨b15, 0, none⟩)), (16, .pointer (some ⟨b16, 0, none⟩)), (17, .pointer (some ⟨b17, 0, none⟩)), (18, .pointer (some ⟨b18, 0, none⟩))] (.cons rfl (.cons rfl (.cons rfl (.cons rfl (.cons rfl (.cons rfl (.cons rfl (.cons rfl (.cons rfl (.cons rfl (.cons rfl (.cons rfl (.cons rfl .nil))))))))))))) fun e1 => ?_
  obtain ⟨xb, hxb⟩ : ∃ xs, (g.d.banks.map bkL).flatten = xs := ⟨_, rfl⟩
  have hsrcB : ∀ L', ∀ w, Inv N w0 L' w → ∀ j u, xb[j]? = some u → ∃ b o, g.A1 = some ⟨b, o, none⟩ ∧ w.cell? ⟨b, o + j, none⟩ = some u := fun L' w hI => by rw [← hxb]; exact (RdRows.ofSl (L := L') hA.banks).flat (by omega) (map_len (f := bkL) (fun _ => rfl) _) hI
  have hlb : xb.length = n * (3 + 1) := by rw [← hxb, ← hn]; exact map_flat (f := bkL) (fun _ => rfl) _
  have hob : ones xb = true := by rw [← hxb]; exact ones_flat (map_ones (f := bkL) (fun _ => rfl) _)
  have hA1n : g.A1 = none → n = 0 := fun h => by have := slat_none hA.banks h; rw [List.length_map] at this; omega
  repeat' (first | (refine GiP ?_; first | (refine Znh ?_) | (with_reducible refine Znl ?_)) | (refine GiW ?_; first | (refine Zsq fun K hK => ?_) | (refine ZrN 7 fun _ => ?_; refine Zbs fun b106 => ?_; refine Zv Zf0 ?_; refine Zv Zld ?_; refine OPS_append0 rfl rfl rfl (by intro s9; repeat (first | exact Grow.here | apply Grow.there | apply Grow.sv | apply Grow.app)) svOk0 (hsrcB _) hA1n hlb hob (by simp only [maxLen]; omega) (by omega) (fun s109 hs109 => ?_); refine Zv Zf0 ?_; refine Zst ?_; refine Zv Zf0 ?_; refine Zst ?_) | (refine WP_cond_true rfl ?_) | (refine WP_cond_false rfl ?_) | (refine Zcd (fun hc => ?_) (fun hc => ?_) <;> (try (exfalso; omega))) | (with_reducible apply WP_skip) | (with_reducible apply WP_block) | (with_reducible apply WP_exit) | (with_reducible apply WP_ret)) | (refine Zhn ?_) | (with_reducible apply QBlock_normal) | (refine Zhx ?_) | (with_reducible apply QBlock_hit) | (refine Zqb ?_) | (with_reducible apply QLoop_exit) | (refine Zhr ?_) | (with_reducible apply QBlock_ret) | (with_reducible apply QLoop_ret))
  cases s109 with
  | none => exact absurd (hs109.2 rfl) (by omega)
  | some pr =>
  obtain ⟨bB, capB⟩ := pr
  rw [svV_some, svH_some]
  have hbk4 : ∀ r ∈ g.d.banks.map bkL, r.length = 4 := map_len (f := bkL) (fun _ => rfl) _
  have han : a < g.d.banks.length := by omega
  repeat' (first | (refine GiP ?_; first | (refine Znh ?_) | (with_reducible refine Znl ?_)) | (refine GiW ?_; first | (refine Zsq fun K hK => ?_) | (refine ZrN 8 fun _ => ?_; refine Zv Zf0 ?_; refine Zv Zld ?_; refine Zv Zmi ?_; (first | (refine Zv (Val_indexAddr1 rfl rfl rfl ha) ?_) | (refine Zv Zia ?_)); refine Zv Zf0 ?_; refine Zv Zav ?_) | (refine WP_cond_true rfl ?_) | (refine WP_cond_false rfl ?_) | (refine Zcd (fun hc => ?_) (fun hc => ?_) <;> (try (exfalso; omega))) | (with_reducible apply WP_skip) | (with_reducible apply WP_block) | (with_reducible apply WP_exit) | (with_reducible apply WP_ret)) | (refine Zhn ?_) | (with_reducible apply QBlock_normal) | (refine Zhx ?_) | (with_reducible apply QBlock_hit) | (refine Zqb ?_) | (with_reducible apply QLoop_exit) | (refine Zhr ?_) | (with_reducible apply QBlock_ret) | (with_reducible apply QLoop_ret))
  obtain ⟨wq, hwq⟩ : ∃ q, b8 % 2 = q := ⟨_, rfl⟩
  refine WP_joinS (by assumption) [117, 118, 119] (fun tb : Bool => [(119, .bool tb)]) (fun _ => (bB, Row 60 4 n capB xb) :: svH 32 2 (q + 1) (xl ++ [.int .i64 w1, .int .i64 w2]) sx ((b14, Blk 29 [.slice g.A1 n g.c1, .slice g.A2 m g.c2, .slice g.A3 p g.c3, svV sx (q + 1)]) :: (b15, Blk 29 [.slice (some ⟨bB, 0, none⟩) n capB, .slice g.A2 m g.c2, .slice g.A3 p g.c3, .slice g.A4 q g.c4]) :: (b16, Blk 29 [.slice g.A1 n g.c1, .slice g.A2 m g.c2, .slice g.A3 p g.c3, .slice g.A4 q g.c4]) :: (b17, Blk 29 [.slice g.A1 n g.c1, .slice g.A2 m g.c2, .slice g.A3 p g.c3, .slice g.A4 q g.c4]) :: (b18, Blk 29 [.slice none 0 0, .slice g.A2 m g.c2, .slice g.A3 p g.c3, .slice g.A4 q g.c4]) :: (b7, Blk 57 [.int .i64 r1, .int .i64 r2, .int .i64 r3]) :: (b6, Blk 32 [.int .i64 w1, .int .i64 w2]) :: (b5, Blk 29 [.slice g.A1 n g.c1, .slice g.A2 m g.c2, .slice g.A3 p g.c3, .slice g.A4 q g.c4]) :: L)) (fun _ => True) ?_ ?_
  · intro K' hC
    by_cases hq0 : wq = 0
    · repeat' (first | (refine GiP ?_; first | (refine Znh ?_) | (with_reducible refine Znl ?_)) | (refine GiW ?_; first | (refine Zsq fun K hK => ?_) | (refine ZrN 9 fun _ => ?_; refine Zv Zmi ?_; refine Zv (Val_remU hwq (by omega) rfl rfl) ?_; refine Zv Zyeql ?_) | (refine WP_cond_true rfl ?_) | (refine WP_cond_false rfl ?_) | (refine Zcd (fun hc => ?_) (fun hc => ?_) <;> (try (exfalso; omega))) | (with_reducible apply WP_skip) | (with_reducible apply WP_block) | (with_reducible apply WP_exit) | (with_reducible apply WP_ret)) | (refine Zhn ?_) | (with_reducible apply QBlock_normal) | (refine Zhx ?_) | (with_reducible apply QBlock_hit) | (refine Zqb ?_) | (with_reducible apply QLoop_exit) | (refine Zhr ?_) | (with_reducible apply QBlock_ret) | (with_reducible apply QLoop_ret))
      all_goals exact hC.nor true _ _ (.cons rfl .nil) (by repeat (first | exact Off.frame rfl | exact Off.refl _ _ | refine Off.frameT rfl rfl ?_ | refine Off.upd rfl ?_ | refine Off.updO rfl ?_)) (by repeat (first | exact Sub.nil | exact Sub.refl _ | assumption | exact Sub.left | apply Sub.svK | apply Sub.sv | apply Sub.cons | apply Sub.app)) trivial
    · repeat' (first | (refine GiP ?_; first | (refine Znh ?_) | (with_reducible refine Znl ?_)) | (refine GiW ?_; first | (refine Zsq fun K hK => ?_) | (refine ZrN 9 fun _ => ?_; refine Zv Zmi ?_; refine Zv (Val_remU hwq (by omega) rfl rfl) ?_; refine Zv Zyeql ?_) | (refine WP_cond_true rfl ?_) | (refine WP_cond_false rfl ?_) | (refine Zcd (fun hc => ?_) (fun hc => ?_) <;> (try (exfalso; omega))) | (with_reducible apply WP_skip) | (with_reducible apply WP_block) | (with_reducible apply WP_exit) | (with_reducible apply WP_ret)) | (refine Zhn ?_) | (with_reducible apply QBlock_normal) | (refine Zhx ?_) | (with_reducible apply QBlock_hit) | (refine Zqb ?_) | (with_reducible apply QLoop_exit) | (refine Zhr ?_) | (with_reducible apply QBlock_ret) | (with_reducible apply QLoop_ret))
      all_goals exact hC.nor false _ _ (.cons rfl .nil) (by repeat (first | exact Off.frame rfl | exact Off.refl _ _ | refine Off.frameT rfl rfl ?_ | refine Off.upd rfl ?_ | refine Off.updO rfl ?_)) (by repeat (first | exact Sub.nil | exact Sub.refl _ | assumption | exact Sub.left | apply Sub.svK | apply Sub.sv | apply Sub.cons | apply Sub.app)) trivial
  rintro tb j2 _
  refine WP_joinS (by assumption) [120, 121, 122, 123, 124, 125, 126, 127, 128, 129, 130, 131, 132, 133, 134, 135, 136, 137, 138, 139, 140, 141, 142, 143, 144, 145] (fun _ : Sp => []) (fun dq => (bB, Row 60 4 n capB (((bankY g.d a dq).banks.map bkL).flatten)) :: svH 32 2 (q + 1) (xl ++ [.int .i64 w1, .int .i64 w2]) sx ((b14, Blk 29 [.slice g.A1 n g.c1, .slice g.A2 m g.c2, .slice g.A3 p g.c3, svV sx (q + 1)]) :: (b15, Blk 29 [.slice (some ⟨bB, 0, none⟩) n capB, .slice g.A2 m g.c2, .slice g.A3 p g.c3, .slice g.A4 q g.c4]) :: (b16, Blk 29 [.slice g.A1 n g.c1, .slice g.A2 m g.c2, .slice g.A3 p g.c3, .slice g.A4 q g.c4]) :: (b17, Blk 29 [.slice g.A1 n g.c1, .slice g.A2 m g.c2, .slice g.A3 p g.c3, .slice g.A4 q g.c4]) :: (b18, Blk 29 [.slice none 0 0, .slice g.A2 m g.c2, .slice g.A3 p g.c3, .slice g.A4 q g.c4]) :: (b7, Blk 57 [.int .i64 r1, .int .i64 r2, .int .i64 r3]) :: (b6, Blk 32 [.int .i64 w1, .int .i64 w2]) :: (b5, Blk 29 [.slice g.A1 n g.c1, .slice g.A2 m g.c2, .slice g.A3 p g.c3, .slice g.A4 q g.c4]) :: L)) (fun dq => Less (bankY g.d a dq) g.d ∧ VD (bankY g.d a dq)) ?_ ?_
  · intro K' hC
    obtain ⟨⟨⟨rlo, rhi⟩, ryd⟩, hrd⟩ : ∃ q, g.d.banks[a] = q := ⟨_, rfl⟩
    have hrb := hv.bk _ (show (⟨(rlo, rhi), ryd⟩ : Bk) ∈ g.d.banks by rw [← hrd]; exact List.getElem_mem han)
    dsimp only at hrb
    have hcr : ∀ j v, j < 4 → (bkL ⟨(rlo, rhi), ryd⟩)[j]? = some v → xb[a * 4 + j]? = some v := by
      intro j v hj hv
      rw [← hxb, flat_get _ a j (by simpa using han) hbk4 hj, List.getElem_map, hrd]; exact hv
    have hcr0 := hcr 0 _ (by omega) rfl
    have hcr1 := hcr 1 _ (by omega) rfl
    have hyd : (g.d.banks.map (·.yd)).getD a (0, 0) = ryd := by rw [List.getD_eq_getElem?_getD, List.getElem?_map, List.getElem?_eq_getElem han, hrd]; rfl
    have hRlo : ∀ L', Mem bB (Row 60 4 n capB xb) L' → Rd N w0 L' bB (0 + a * 4) (.int .i64 rlo) := fun L' hm => rd_row hm hcr0
    have hRhi : ∀ L', Mem bB (Row 60 4 n capB xb) L' → Rd N w0 L' bB (0 + a * 4 + 1) (.int .i64 rhi) := fun L' hm => by rw [Nat.add_assoc]; exact rd_row hm hcr1
    have hsR0 : ∀ v : Int, setL xb (0 + a * 4) [.int .i64 v] = (((bankY g.d a (v, rhi)).banks.map bkL).flatten) := fun v => by
      have := set_flat _ a (by simpa using han) hbk4 0 (by omega) (.int .i64 v)
      rw [Nat.add_zero] at this
      unfold bankY
      dsimp only
      rw [Nat.zero_add, ← hxb, this, List.getElem_map, hrd, List.map_set, hyd]; rfl
    have hsR1 : ∀ v : Int, setL xb (0 + a * 4 + 1) [.int .i64 v] = (((bankY g.d a (rlo, v)).banks.map bkL).flatten) := fun v => by
      have := set_flat _ a (by simpa using han) hbk4 1 (by omega) (.int .i64 v)
      unfold bankY
      dsimp only
      rw [Nat.zero_add, ← hxb, this, List.getElem_map, hrd, List.map_set, hyd]; rfl
    have hN : ∀ q : Sp, rlo ≤ q.1 → q.1 ≤ q.2 → q.2 ≤ rhi → Less (bankY g.d a q) g.d ∧ VD (bankY g.d a q) := fun q h1 h2 h3 => ⟨less_bank g.d han (by rw [hrd]; exact h1) (by rw [hrd]; exact h3), vd_bank hv han (by rw [hrd]; exact h1) h2 (by rw [hrd]; exact h3)⟩
    cases tb with
    | true =>
      repeat' (first | (refine GiP ?_; first | (refine Znh ?_) | (with_reducible refine Znl ?_) | (refine Zatn ?_; refine OPS_turnN (Turn_storeRow rfl rfl (by repeat (first | exact Up.here | apply Up.there | apply Up.sv)) rfl (by dsimp only [List.length]; omega) (hsR0 _) rfl rfl) rfl rfl ?_)) | (refine GiW ?_; first | (refine Zsq fun K hK => ?_) | (refine WP_cond_true rfl ?_) | (refine WP_cond_false rfl ?_) | (refine Zcd (fun hc => ?_) (fun hc => ?_) <;> (try (exfalso; omega))) | (with_reducible apply WP_skip) | (with_reducible apply WP_block) | (with_reducible apply WP_exit) | (with_reducible apply WP_ret) | (refine WP_drawn (id := 10) [0, 1, 2, 3, 4, 5, 6, 7, 8, 9, 10, 11, 12] [] (k := 1) prog_mixed (by kernel_rfl) rfl ?_; refine Zew rfl Zmv ?_; refine Zew rfl Zmv ?_; (first | (refine Zew rfl Zxnp ?_) | (refine Zew rfl Zxnf ?_)); refine Zew rfl Zfa ?_; (first | (refine Zew rfl (Val_loadD1 rfl (hRlo _ (by repeat (first | exact Mem.here | assumption | apply Mem.there | apply Mem.sv | apply Mem.app)))) ?_) | (refine Zew rfl (Val_loadD1 rfl (hRhi _ (by repeat (first | exact Mem.here | assumption | apply Mem.there | apply Mem.sv | apply Mem.app)))) ?_) | (refine Zew rfl Zld ?_)); refine Zew rfl Zmv ?_; (first | (refine Zew rfl Zxnp ?_) | (refine Zew rfl Zxnf ?_)); refine Zew rfl Zf0 ?_; (first | (refine Zew rfl (Val_loadD1 rfl (hRlo _ (by repeat (first | exact Mem.here | assumption | apply Mem.there | apply Mem.sv | apply Mem.app)))) ?_) | (refine Zew rfl (Val_loadD1 rfl (hRhi _ (by repeat (first | exact Mem.here | assumption | apply Mem.there | apply Mem.sv | apply Mem.app)))) ?_) | (refine Zew rfl Zld ?_)); refine Zew rfl Zxadd ?_; refine Zew rfl Zxmin ?_; (first | (refine Zew rfl Zxnp ?_) | (refine Zew rfl Zxnf ?_)); refine Zew rfl Zf0 ?_)) | (with_reducible apply EWalk_nil) | (refine GiO ?_; first | (refine AnyO_done (by kernel_rfl) ?_; (try with_reducible apply noP_normal); try with_reducible exact key.out) | (refine AnyO_1 13 (by decide +kernel) rfl ?_)) | (refine Zhn ?_) | (with_reducible apply QBlock_normal) | (refine Zhx ?_) | (with_reducible apply QBlock_hit) | (refine Zqb ?_) | (with_reducible apply QLoop_exit) | (refine Zhr ?_) | (with_reducible apply QBlock_ret) | (with_reducible apply QLoop_ret) | (refine AWalk_0 ?_; refine ZisO ?_) | (with_reducible apply QAny_normal))
      all_goals exact hC.nor (min rhi (rlo + 1), rhi) _ _ .nil (by repeat (first | exact Off.frame rfl | exact Off.refl _ _ | refine Off.frameT rfl rfl ?_ | refine Off.upd rfl ?_ | refine Off.updO rfl ?_)) (by repeat (first | exact Sub.nil | exact Sub.refl _ | assumption | exact Sub.left | apply Sub.svK | apply Sub.sv | apply Sub.cons | apply Sub.app)) (hN _ (by dsimp only; omega) (by dsimp only; omega) (by dsimp only; omega))
    | false =>
      repeat' (first | (refine GiP ?_; first | (refine Znh ?_) | (with_reducible refine Znl ?_) | (refine Zatn ?_; refine OPS_turnN (Turn_storeRow rfl rfl (by repeat (first | exact Up.here | apply Up.there | apply Up.sv)) rfl (by dsimp only [List.length]; omega) (hsR1 _) rfl rfl) rfl rfl ?_)) | (refine GiW ?_; first | (refine Zsq fun K hK => ?_) | (refine WP_cond_true rfl ?_) | (refine WP_cond_false rfl ?_) | (refine Zcd (fun hc => ?_) (fun hc => ?_) <;> (try (exfalso; omega))) | (with_reducible apply WP_skip) | (with_reducible apply WP_block) | (with_reducible apply WP_exit) | (with_reducible apply WP_ret) | (refine WP_drawn (id := 11) [0, 1, 2, 3, 4, 5, 6, 7, 8, 9, 10, 11, 12] [] (k := 1) prog_mixed (by kernel_rfl) rfl ?_; refine Zew rfl Zmv ?_; refine Zew rfl Zmv ?_; (first | (refine Zew rfl Zxnp ?_) | (refine Zew rfl Zxnf ?_)); refine Zew rfl Zf0 ?_; (first | (refine Zew rfl (Val_loadD1 rfl (hRlo _ (by repeat (first | exact Mem.here | assumption | apply Mem.there | apply Mem.sv | apply Mem.app)))) ?_) | (refine Zew rfl (Val_loadD1 rfl (hRhi _ (by repeat (first | exact Mem.here | assumption | apply Mem.there | apply Mem.sv | apply Mem.app)))) ?_) | (refine Zew rfl Zld ?_)); refine Zew rfl Zmv ?_; (first | (refine Zew rfl Zxnp ?_) | (refine Zew rfl Zxnf ?_)); refine Zew rfl Zfa ?_; (first | (refine Zew rfl (Val_loadD1 rfl (hRlo _ (by repeat (first | exact Mem.here | assumption | apply Mem.there | apply Mem.sv | apply Mem.app)))) ?_) | (refine Zew rfl (Val_loadD1 rfl (hRhi _ (by repeat (first | exact Mem.here | assumption | apply Mem.there | apply Mem.sv | apply Mem.app)))) ?_) | (refine Zew rfl Zld ?_)); refine Zew rfl Zxsub ?_; refine Zew rfl Zxmax ?_; (first | (refine Zew rfl Zxnp ?_) | (refine Zew rfl Zxnf ?_)); refine Zew rfl Zfa ?_)) | (with_reducible apply EWalk_nil) | (refine GiO ?_; first | (refine AnyO_done (by kernel_rfl) ?_; (try with_reducible apply noP_normal); try with_reducible exact key.out) | (refine AnyO_1 13 (by decide +kernel) rfl ?_)) | (refine Zhn ?_) | (with_reducible apply QBlock_normal) | (refine Zhx ?_) | (with_reducible apply QBlock_hit) | (refine Zqb ?_) | (with_reducible apply QLoop_exit) | (refine Zhr ?_) | (with_reducible apply QBlock_ret) | (with_reducible apply QLoop_ret) | (refine AWalk_0 ?_; refine ZisO ?_) | (with_reducible apply QAny_normal))
      all_goals exact hC.nor (rlo, max rlo (rhi - 1)) _ _ .nil (by repeat (first | exact Off.frame rfl | exact Off.refl _ _ | refine Off.frameT rfl rfl ?_ | refine Off.upd rfl ?_ | refine Off.updO rfl ?_)) (by repeat (first | exact Sub.nil | exact Sub.refl _ | assumption | exact Sub.left | apply Sub.svK | apply Sub.sv | apply Sub.cons | apply Sub.app)) (hN _ (by dsimp only; omega) (by dsimp only; omega) (by dsimp only; omega))
  rintro dq j3 ⟨hyn, hyv⟩
  refine WP_gen [3, 4, 5, 6, 7, 11, 12, 13, 14, 15, 16, 17, 18] [(3, .int .u8 (a8 : Int)), (4, .int .u8 (b8 : Int)), (5, .pointer (some ⟨b5, 0, none⟩)), (6, .pointer (some ⟨b6, 0, none⟩)), (7, .pointer (some ⟨b7, 0, none⟩)), (11, .int .i64 (n : Int)), (12, .int .i64 (a : Int)), (13, .int .i64 (b : Int)), (14, .pointer (some ⟨b14, 0, none⟩)), (15, .pointer (some ⟨b15, 0, none⟩)), (16, .pointer (some ⟨b16, 0, none⟩)), (17, .pointer (some ⟨b17, 0, none⟩)), (18, .pointer (some ⟨b18, 0, none⟩))] (.cons rfl (.cons rfl (.cons rfl (.cons rfl (.cons rfl (.cons rfl (.cons rfl (.cons rfl (.cons rfl (.cons rfl (.cons rfl (.cons rfl (.cons rfl .nil))))))))))))) fun e2 => ?_
  rename_i hid0 hid1 hid2 hid3 hid4 hid5 hid6 hid7 hid8 hid9 hid10 hid11 hid12 hid13 hid14 hid15 hid16 hid17 hid18 hid19 hid20 hid21 hid22 hid23 hid24
  revert hv hf hin h13 n hnb hn m hnw hm p hnr hp q hns h29 h28 hq a ha9 b hb9 ha hb hid0 hid1 hid2 b5 b6 b7 hid3 hid4 hid5 hid6 hid7 hid8 hid9 hid10 hid11 hid12 hid13 b14 b15 b16 b17 b18 hid14 hid15 xl hxl hsrcS hl4 ho4 hA4n sx j1 hsx e1 xb hxb hsrcB hlb hob hA1n hid16 hid17 hid18 b106 hid19 hid20 bB capB hs109 hbk4 han hid21 hid22 hid23 K hK wq hwq tb j2 hid24 dq j3 hyn hyv e2
  exact hcut.out
end
end Go.Proofs.Ytbhgpnbfdjoglaa
end
