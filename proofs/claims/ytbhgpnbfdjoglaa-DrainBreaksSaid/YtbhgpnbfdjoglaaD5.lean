/- DrainBreaks in plain terms; drains with one way more. · The law DrainBreaks: its walk (begun). · The law DrainBreaks: its walk, drains that can be. -/
import Derived.Test.YtbhgpnbfdjoglaaE6
import Derived.Test.YtbhgpnbfdjoglaaC2
import Derived.Test.YtbhgpnbfdjoglaaC3
section
namespace Go.Proofs.Ytbhgpnbfdjoglaa
open Go.RowKit
theorem breaks_facts {d : Dr} (v : VD d) (h0 : someB d = true) : sureS d < 16 ∧ perhS d < 16 ∧ perhS d / 2 ^ d.rights.length = 0 ∧
    ∀ i (hi : i < d.rights.length), ∃ x : Sp, FlowV d d.rights[i].a d.rights[i].b = x ∧ errD d (twoB d.banks.length d.rights[i].a d.rights[i].b) = 0 ∧ (sureS d / 2 ^ i % 2 = 1 ↔ d.rights[i].most < x.1) ∧ (perhS d / 2 ^ i % 2 = 1 ↔ d.rights[i].most < x.2) := by
  have hnr := v.nr
  have hp : 2 ^ d.rights.length ≤ 2 ^ 4 := Nat.pow_le_pow_right (by omega) (by omega)
  have h1 : sureS d < 2 ^ d.rights.length := bitsOf_lt _ _
  have h2 : perhS d < 2 ^ d.rights.length := bitsOf_lt _ _
  refine ⟨by omega, by omega, Nat.div_eq_of_lt h2, fun i hi => ?_⟩
  have hr := v.rt _ (List.getElem_mem hi)
  have htwo : twoB d.banks.length d.rights[i].a d.rights[i].b = true := by
    simp only [twoB, inN, Bool.and_eq_true, decide_eq_true_eq]
    exact ⟨⟨hr.1, hr.2.1⟩, hr.2.2.1⟩
  have he := errD_1 (vB_of v) htwo h0
  have hF : FlowV d d.rights[i].a d.rights[i].b = rtF d i := by
    simp only [FlowV, he, if_true, rtF, List.getElem?_eq_getElem hi]
  have hM : rtM d i = d.rights[i].most := by simp only [rtM, List.getElem?_eq_getElem hi]
  refine ⟨_, rfl, he, ?_, ?_⟩
  · unfold sureS
    rw [bitsOf_bit, decide_eq_true_eq, hF, hM]
    exact ⟨fun h => h.2, fun h => ⟨hi, h⟩⟩
  · unfold perhS
    rw [bitsOf_bit, decide_eq_true_eq, hF, hM]
    exact ⟨fun h => h.2, fun h => ⟨hi, h⟩⟩
/-- One way more. -/
def addW1 (d : Dr) (w : Sp) : Dr := { d with ways := d.ways ++ [w] }
theorem VD_addW {d : Dr} (v : VD d) {w : Sp} (hl : d.ways.length < 7) (hw : (0 ≤ w.1 ∧ w.1 < d.banks.length) ∧ (0 ≤ w.2 ∧ w.2 < d.banks.length) ∧ w.1 ≠ w.2) : VD (addW1 d w) where
  nb := v.nb
  nw := by show (d.ways ++ [w]).length ≤ 7; simp; omega
  nr := v.nr
  ns := v.ns
  bk := v.bk
  wy := by
    intro x hx
    rcases List.mem_append.1 hx with h | h
    · exact v.wy x h
    · rw [List.mem_singleton] at h; subst h; exact hw
  rt := v.rt
  se := v.se
theorem in_ways {N : Nat} {w0 : World} {g : Fg} (hin : ∀ L, DrainIn N w0 L g) (ls : List Sp) {s : Option (Nat × Nat)} {xs : List Value} (hx : xs = (ls.map spL).flatten) (hs : svOk s 2 ls.length xs) :
    ∃ A9 c9, svV s ls.length = .slice A9 ls.length c9 ∧ ∀ L', Sub (svH 32 2 ls.length xs s []) L' → DrainIn N w0 L' { g with d := { g.d with ways := ls }, A2 := A9, c2 := c9 } := by
  obtain ⟨A9, c9, e9, hsl⟩ := sl_sv (E := 32) (by omega) hs
  refine ⟨A9, c9, e9, fun L' hS w hI => ?_⟩
  obtain ⟨L0, hp⟩ := hS
  have hI2 := (hI.perm hp)
  rw [svH_nil] at hI2
  have hb := hin L' w hI
  exact ⟨hb.banks, hsl hI2 hx (map_len (f := spL) (fun _ => rfl) _), hb.rights, hb.seen⟩
section
variable {P : Program} {N : Nat} {w0 : World} {L : Hp} {e : Env} {d : Option Nat} {ty : TypeId} {pos : String} {af : Array Edge} {g : Option (Nat × Bool)}
theorem Val_shrE {x y : Operand} {t t' : TypeId} {a b c : Nat} (hc : a / 2 ^ b = c) (hb : b ≤ 64) (hx : ev e x = .int .i64 (a : Int)) (hy : ev e y = .int .i64 (b : Int)) : Val P N w0 L e ⟨d, .binOp .shr t x y t', ty, pos, af, g⟩ (.int .i64 (c : Int)) := by
  subst hc
  exact Val_shr hx hy (by show b ≤ 64; exact hb)
end
end Go.Proofs.Ytbhgpnbfdjoglaa
end

section
namespace Go.Proofs.Ytbhgpnbfdjoglaa
open Go.RowKit
attribute [local irreducible] AnyO AnyB QAny QB EWalk AWalk Ev WP OPS QThen QBlock QScope QLoop QBody Val New Turn Tri Enters PostA Blk Ro
attribute [local irreducible] AnyC QC
section
variable (N : Nat) (w0 : World)
theorem breaks_law0 (L : Hp) (g : Fg) (hA : DrAt N w0 g) (a b : Nat) (h : farB g.d = true ∨ vB g.d = false) : Ret Try.prog N w0 L 6 [drV g, .int .u8 (a : Int), .int .u8 (b : Int)].toArray (.bool true) := by
  have h28 := fun L => long_ret N w0 L g
  have h13 := fun L => alive_ret N w0 L
  cases hf : farB g.d with
  | true =>
    rw [hf] at h28
    refine Ret.fgt ?_
    refine tri_of_WP Try.func6 rfl (n := 208) rfl (by simp) ?_
    unfold drV drL at h28 ⊢
    repeat' (first | (refine GiP ?_; first | (refine Znh ?_) | (with_reducible refine Znl ?_) | (refine Zatd 32 ?_; (first | (refine Zv Zxpt ?_) | (refine Zv Zxpf ?_))) | (refine Zatd 29 ?_; first | refine Zsk ?_ | (refine Zv Zla ?_)) | (refine Zatd 31 ?_; first | refine Zsk ?_ | (refine Zv Zxnot ?_)) | (refine Zsk ?_) | (refine Zsp (fun hc => ?_) (fun hc => ?_) <;> (try (exfalso; omega)))) | (refine GiW ?_; first | (refine Zsq fun K hK => ?_) | (refine ZrN 0 fun _ => ?_; refine Zal 3 fun b3 => ?_; refine Zv Zab ?_) | (refine ZrG 1 ?_; refine Zv Zla ?_; refine Zcl (Enters_fn rfl) (h28 _) ?_; refine Zv Zmb ?_) | (refine ZrN 2 fun _ => ?_; refine Zcl (Enters_fn rfl) (h13 _) ?_; refine Zv Zab ?_) | (refine WP_cond_true rfl ?_) | (refine WP_cond_false rfl ?_) | (refine Zcd (fun hc => ?_) (fun hc => ?_) <;> (try (exfalso; omega))) | (with_reducible apply WP_skip) | (with_reducible apply WP_block) | (with_reducible apply WP_exit) | (with_reducible apply WP_ret)) | (refine Zhn ?_) | (with_reducible apply QBlock_normal) | (refine Zhx ?_) | (with_reducible apply QBlock_hit) | (refine Zqb ?_) | (with_reducible apply QLoop_exit) | (refine Zhr ?_) | (with_reducible apply QBlock_ret) | (with_reducible apply QLoop_ret))
    exact QBody_ret1 rfl (rfl : _ = Value.bool _) ⟨rfl, (by repeat (first | exact Wk.refl _ | apply Wk.keep1 | apply Wk.drop | apply Wk.sv | apply Wk.svD | apply Wk.appD))⟩
  | false =>
    have hvb : vB g.d = false := by rcases h with h | h; rw [h] at hf; cases hf; exact h
    have h29 := fun L => rDrain_in N w0 L g (DrainIn.at_ hA) hf
    rw [hf] at h28
    rw [hvb] at h29
    refine Ret.fgt ?_
    refine tri_of_WP Try.func6 rfl (n := 208) rfl (by simp) ?_
    unfold drV drL at h28 h29 ⊢
    repeat' (first | (refine GiP ?_; first | (refine Znh ?_) | (with_reducible refine Znl ?_) | (refine Zatd 32 ?_; (first | (refine Zv Zxpt ?_) | (refine Zv Zxpf ?_))) | (refine Zatd 29 ?_; first | refine Zsk ?_ | (refine Zv Zla ?_)) | (refine Zatd 30 ?_; first | refine Zsk ?_ | (refine Zcl (Enters_fn rfl) (h29 _) ?_)) | (refine Zatd 31 ?_; first | refine Zsk ?_ | (refine Zv Zxnot ?_)) | (refine Zsk ?_) | (refine Zsp (fun hc => ?_) (fun hc => ?_) <;> (try (exfalso; omega)))) | (refine GiW ?_; first | (refine Zsq fun K hK => ?_) | (refine ZrN 0 fun _ => ?_; refine Zal 3 fun b3 => ?_; refine Zv Zab ?_) | (refine ZrG 1 ?_; refine Zv Zla ?_; refine Zcl (Enters_fn rfl) (h28 _) ?_; refine Zv Zmb ?_) | (refine ZrN 2 fun _ => ?_; refine Zcl (Enters_fn rfl) (h13 _) ?_; refine Zv Zab ?_) | (refine WP_cond_true rfl ?_) | (refine WP_cond_false rfl ?_) | (refine Zcd (fun hc => ?_) (fun hc => ?_) <;> (try (exfalso; omega))) | (with_reducible apply WP_skip) | (with_reducible apply WP_block) | (with_reducible apply WP_exit) | (with_reducible apply WP_ret)) | (refine Zhn ?_) | (with_reducible apply QBlock_normal) | (refine Zhx ?_) | (with_reducible apply QBlock_hit) | (refine Zqb ?_) | (with_reducible apply QLoop_exit) | (refine Zhr ?_) | (with_reducible apply QBlock_ret) | (with_reducible apply QLoop_ret))
    exact QBody_ret1 rfl (rfl : _ = Value.bool _) ⟨rfl, (by repeat (first | exact Wk.refl _ | apply Wk.keep1 | apply Wk.drop | apply Wk.sv | apply Wk.svD | apply Wk.appD))⟩
theorem breaks_lawN (L : Hp) (g : Fg) (hA : DrAt N w0 g) (a b : Nat) (hvb : vB g.d = true) (h0 : someB g.d = false) : Ret Try.prog N w0 L 6 [drV g, .int .u8 (a : Int), .int .u8 (b : Int)].toArray (.bool true) := by
  have hf := farB_vB hvb
  have h28 := fun L => long_ret N w0 L g
  have h13 := fun L => alive_ret N w0 L
  have h29 := fun L => rDrain_in N w0 L g (DrainIn.at_ hA) hf
  have h27 := fun L => Breaks_in N w0 L g (DrainIn.at_ hA)
  have he : errD g.d true = 10 := errD_10 hvb rfl h0
  have z1 : SureV g.d = 0 := by simp [SureV, he]
  have z2 : PerhV g.d = 0 := by simp [PerhV, he]
  rw [hf] at h28
  rw [hvb] at h29
  rw [he, z1, z2] at h27
  refine Ret.fgt ?_
  refine tri_of_WP Try.func6 rfl (n := 208) rfl (by simp) ?_
  unfold drV drL at h28 h27 h29 ⊢
  repeat' (first | (refine GiP ?_; first | (refine Znh ?_) | (with_reducible refine Znl ?_) | (refine Zatd 32 ?_; (first | (refine Zv Zxpt ?_) | (refine Zv Zxpf ?_))) | (refine Zatd 50 ?_; (first | (refine Zv Zxpt ?_) | (refine Zv Zxpf ?_)); refine Zv Zmb ?_) | (refine Zatd 54 ?_; (first | (refine Zv Zxpt ?_) | (refine Zv Zxpf ?_)); refine Zv Zmb ?_) | (refine Zatd 57 ?_; (first | (refine Zv Zxpt ?_) | (refine Zv Zxpf ?_)); refine Zv Zab ?_) | (refine Zatd 29 ?_; first | refine Zsk ?_ | (refine Zv Zla ?_)) | (refine Zatd 30 ?_; first | refine Zsk ?_ | (refine Zcl (Enters_fn rfl) (h29 _) ?_)) | (refine Zatd 31 ?_; first | refine Zsk ?_ | (refine Zv Zxnot ?_)) | (refine Zatd 48 ?_; first | refine Zsk ?_ | (refine Zv Zmi ?_)) | (refine Zatd 49 ?_; first | refine Zsk ?_ | (refine Zv Zyeql ?_)) | (refine Zatd 52 ?_; first | refine Zsk ?_ | (refine Zv Zmi ?_)) | (refine Zatd 53 ?_; first | refine Zsk ?_ | (refine Zv Zyeql ?_)) | (refine Zatd 56 ?_; first | refine Zsk ?_ | (refine Zcl (Enters_fn rfl) (h13 _) ?_)) | (refine Zsk ?_) | (refine Zsp (fun hc => ?_) (fun hc => ?_) <;> (try (exfalso; omega)))) | (refine GiW ?_; first | (refine Zsq fun K hK => ?_) | (refine ZrN 0 fun _ => ?_; refine Zal 3 fun b3 => ?_; refine Zv Zab ?_) | (refine ZrG 1 ?_; refine Zv Zla ?_; refine Zcl (Enters_fn rfl) (h28 _) ?_; refine Zv Zmb ?_) | (refine ZrN 3 fun _ => ?_; refine Zv Zf0 ?_; refine Zv Zld ?_; refine Zv Zxlen ?_; refine Zv Zai ?_) | (refine ZrN 4 fun _ => ?_; refine Zv Zla ?_; refine Zcl (Enters_fn rfl) (h27 _) ?_; refine Zv Zmv ?_; refine Zv Zxex ?_; refine Zv Zxex ?_; refine Zv Zxex ?_; refine Zv Zai ?_; refine Zv Zai ?_; refine Zv Zai ?_) | (refine ZrN 5 fun _ => ?_; refine Zv Zmi ?_; refine Zv (Zyneq) ?_) | (refine ZrG 6 ?_; refine Zv Zmi ?_; refine Zv Zyeql ?_; refine Zv Zmb ?_) | (refine WP_cond_true rfl ?_) | (refine WP_cond_false rfl ?_) | (refine Zcd (fun hc => ?_) (fun hc => ?_) <;> (try (exfalso; omega))) | (with_reducible apply WP_skip) | (with_reducible apply WP_block) | (with_reducible apply WP_exit) | (with_reducible apply WP_ret)) | (refine Zhn ?_) | (with_reducible apply QBlock_normal) | (refine Zhx ?_) | (with_reducible apply QBlock_hit) | (refine Zqb ?_) | (with_reducible apply QLoop_exit) | (refine Zhr ?_) | (with_reducible apply QBlock_ret) | (with_reducible apply QLoop_ret))
  exact QBody_ret1 rfl (rfl : _ = Value.bool _) ⟨rfl, (by repeat (first | exact Wk.refl _ | apply Wk.keep1 | apply Wk.drop | apply Wk.sv | apply Wk.svD | apply Wk.appD))⟩
end
end Go.Proofs.Ytbhgpnbfdjoglaa
end

section
namespace Go.Proofs.Ytbhgpnbfdjoglaa
open Go.RowKit
attribute [local irreducible] AnyO AnyB QAny QB EWalk AWalk Ev WP OPS QThen QBlock QScope QLoop QBody Val New Turn Tri Enters PostA Blk Ro
attribute [local irreducible] AnyC QC
section
variable (N : Nat) (w0 : World)
set_option maxRecDepth 100000 in
set_option maxHeartbeats 8000000 in
theorem breaks_law1 (L : Hp) (g : Fg) (hA : DrAt N w0 g) (a : Nat) (ha8 : a ≤ 255) (b : Nat) (hb8 : b ≤ 255) (hvb : vB g.d = true) (h0 : someB g.d = true) : Ret Try.prog N w0 L 6 [drV g, .int .u8 (a : Int), .int .u8 (b : Int)].toArray (.bool true) := by
  have hv := VD_of hvb
  have hnw := hv.nw
  have hnb := hv.nb
  have hnr := hv.nr
  have hf := farB_vB hvb
  have h28 := fun L => long_ret N w0 L g
  have h13 := fun L => alive_ret N w0 L
  have h29 := fun L => rDrain_in N w0 L g (DrainIn.at_ hA) hf
  have h27 := fun L => Breaks_in N w0 L g (DrainIn.at_ hA)
  have h25 := fun L x y => Flow_in N w0 L g (DrainIn.at_ hA) x y
  have hdg := fun L x y => Dig_in N w0 L g (DrainIn.at_ hA) x y
  have he : errD g.d true = 0 := errD_1 hvb rfl h0
  obtain ⟨f1, f2, f3, f4⟩ := breaks_facts hv h0
  have z1 : SureV g.d = sureS g.d := by simp [SureV, he]
  have z2 : PerhV g.d = perhS g.d := by simp [PerhV, he]
  rw [hf] at h28
  rw [hvb] at h29
  rw [he, z1, z2] at h27
  obtain ⟨S, hS⟩ : ∃ y, sureS g.d = y := ⟨_, rfl⟩
  obtain ⟨P, hP⟩ : ∃ P, perhS g.d = P := ⟨_, rfl⟩
  rw [hS] at f1 f4 h27
  rw [hP] at f2 f3 f4 h27
  obtain ⟨n, hn⟩ : ∃ n, g.d.rights.length = n := ⟨_, rfl⟩
  refine Ret.fgt ?_
  refine tri_of_WP Try.func6 rfl (n := 208) rfl (by simp) ?_
  unfold drV drL at h28 h25 h27 h29 hdg ⊢
  rw [hn] at h28 h25 h27 h29 hdg f3 ⊢
  repeat' (first | (refine GiP ?_; first | (refine Znh ?_) | (refine Zatd 32 ?_; (first | (refine Zv Zxpt ?_) | (refine Zv Zxpf ?_))) | (refine Zatd 67 ?_; (first | (refine Zv Zxpt ?_) | (refine Zv Zxpf ?_))) | (refine Zatd 29 ?_; first | refine Zsk ?_ | (refine Zv Zla ?_)) | (refine Zatd 30 ?_; first | refine Zsk ?_ | (refine Zcl (Enters_fn rfl) (h29 _) ?_)) | (refine Zatd 31 ?_; first | refine Zsk ?_ | (refine Zv Zxnot ?_)) | (refine Zatd 61 ?_; first | refine Zsk ?_ | (refine Zv Zmi ?_)) | (refine Zatd 62 ?_; first | refine Zsk ?_ | (refine Zv Zfa ?_)) | (refine Zatd 63 ?_; first | refine Zsk ?_ | (refine Zv Zld ?_)) | (refine Zatd 64 ?_; first | refine Zsk ?_ | (refine Zv Zxlen ?_)) | (refine Zatd 65 ?_; first | refine Zsk ?_ | (refine Zv (Val_shrE f3 (by omega) rfl rfl) ?_)) | (refine Zatd 66 ?_; first | refine Zsk ?_ | (refine Zv (ZxneqB) ?_) | (refine Zv (Zyneq) ?_))) | (refine GiW ?_; first | (refine Zsq fun K hK => ?_) | (refine ZrN 0 fun _ => ?_; refine Zal 3 fun b3 => ?_; refine Zv Zab ?_) | (refine ZrG 1 ?_; refine Zv Zla ?_; refine Zcl (Enters_fn rfl) (h28 _) ?_; refine Zv Zmb ?_) | (refine ZrN 3 fun _ => ?_; refine Zv Zf0 ?_; refine Zv Zld ?_; refine Zv Zxlen ?_; refine Zv Zai ?_) | (refine ZrN 4 fun _ => ?_; refine Zv Zla ?_; refine Zcl (Enters_fn rfl) (h27 _) ?_; refine Zv Zmv ?_; refine Zv Zxex ?_; refine Zv Zxex ?_; refine Zv Zxex ?_; refine Zv Zai ?_; refine Zv Zai ?_; refine Zv Zai ?_) | (refine ZrN 5 fun _ => ?_; refine Zv Zmi ?_; (first | (refine Zv (ZxneqB) ?_) | (refine Zv (Zyneq) ?_))) | (refine ZrG 7 ?_; refine Zv Zmi ?_; refine Zv Zylss ?_; refine Zv Zmb ?_) | (refine ZrN 9 fun _ => ?_; refine Zv Zfa ?_; refine Zv Zld ?_; refine Zv Zxlen ?_; refine Zv Zmi ?_) | (refine WP_cond_false rfl ?_) | (with_reducible apply WP_skip) | (with_reducible apply WP_block)) | (refine Zhn ?_))
  refine WP_loop [6, 11, 12, 13, 14, 71, 72, 73, 74, 75, 76, 77, 78, 79, 80, 81, 82, 83, 84, 85, 86, 87, 88, 89, 90, 91, 92, 93, 94, 95, 96, 97, 98, 99, 100, 101, 102, 103, 104, 105, 106, 107, 108, 109, 110, 111, 112, 113] (fun k : Nat => [(71, .int .i64 (k : Int))]) (fun _ => (b3, Blk 29 [.slice g.A1 g.d.banks.length g.c1, .slice g.A2 g.d.ways.length g.c2, .slice g.A3 n g.c3, .slice g.A4 g.d.seen.length g.c4]) :: L) (fun k => k ≤ n) (fun k => n - k) 0 (.cons rfl .nil) (Wk.refl _) (Nat.zero_le _) ?_
  intro k j hk
  by_cases hkn : k < n
  · obtain ⟨bA, oA, hA1, hbA, hcA⟩ := hA.rights.row k (by omega)
    obtain ⟨x, hx1, hx2, hx3, hx4⟩ := f4 k (by omega)
    obtain ⟨t, ht⟩ : ∃ t, g.d.rights[k] = t := ⟨_, rfl⟩
    rw [ht] at hcA hx1 hx2 hx3 hx4
    have h25k := fun L => h25 L t.a t.b
    rw [hx1, hx2] at h25k
    obtain ⟨ta, tb, tm⟩ := t
    unfold rtL at hcA
    dsimp only at hcA h25k hx1 hx2 hx3 hx4
    obtain ⟨x1, x2⟩ := x
    dsimp only at hx3 hx4 h25k
    obtain ⟨bs, hbs⟩ : ∃ bt, (S / 2 ^ k) &&& 1 = bt := ⟨_, rfl⟩
    have hbs2 : bs = S / 2 ^ k % 2 := by rw [← hbs]; exact Nat.and_one_is_mod _
    have hsk : S / 2 ^ k < 2 ^ 63 := Nat.lt_of_le_of_lt (Nat.div_le_self _ _) (by omega)
    obtain ⟨bp, hbp⟩ : ∃ bt, (P / 2 ^ k) &&& 1 = bt := ⟨_, rfl⟩
    have hbp2 : bp = P / 2 ^ k % 2 := by rw [← hbp]; exact Nat.and_one_is_mod _
    have hpk : P / 2 ^ k < 2 ^ 63 := Nat.lt_of_le_of_lt (Nat.div_le_self _ _) (by omega)
    rw [← hbs2] at hx3
    rw [← hbp2] at hx4
    obtain ⟨Sk, hSk⟩ : ∃ z, S / 2 ^ k = z := ⟨_, rfl⟩
    obtain ⟨Pk, hPk⟩ : ∃ z, P / 2 ^ k = z := ⟨_, rfl⟩
    rw [hSk] at hbs hsk
    rw [hPk] at hbp hpk
    clear hbs2 hbp2
    by_cases hs1 : bs = 1
    · have hs2 := hx3.1 hs1
      by_cases hp1 : bp = 1
      · have hp2 := hx4.1 hp1
        repeat' (first | (refine GiP ?_; first | (refine Znh ?_) | (with_reducible refine Znl ?_)) | (refine GiW ?_; first | (refine Zsq fun K hK => ?_) | (refine ZrN 10 fun _ => ?_; refine Zv Zylss ?_) | (refine ZrN 11 fun _ => ?_; refine Zv Zmi ?_; refine Zv Zia ?_; refine Zv Zla ?_; refine Zal 12 fun b12 => ?_; refine Zv Zai ?_; refine Zst ?_) | (refine ZrN 12 fun _ => ?_; refine Zv Zla ?_; refine Zv Zf0 ?_; refine Zv Zld ?_; refine Zv Zfa ?_; refine Zv Zld ?_; refine Zcl (Enters_fn rfl) (h25k _) ?_; refine Zv Zmv ?_; refine Zv Zxex ?_; refine Zv Zxex ?_; refine Zal 13 fun b13 => ?_; refine Zst ?_; refine Zv Zai ?_) | (refine ZrN 15 fun _ => ?_; refine Zv Zxadd ?_; refine Zv Zmi ?_) | (refine WP_cond_true rfl ?_) | (refine WP_cond_false rfl ?_) | (with_reducible apply WP_skip) | (with_reducible apply WP_block) | (refine WP_drawn (id := 13) [0, 1, 2, 3, 4, 5, 6, 7, 8, 9, 10, 11, 12, 13, 14, 15, 16, 17, 18, 19, 20, 21, 22, 23, 24, 25, 26, 27] [] (k := 0) prog_mixed (by kernel_rfl) rfl ?_; refine Zew rfl Zmi ?_; (first | (refine Zew rfl (ZxneqB) ?_) | (refine Zew rfl (Zyneq) ?_)); refine Zew rfl Zmb ?_)) | (refine GiE ?_; first | (refine Zati 14 ?_; (first | (refine Zew rfl Zxpt ?_) | (refine Zew rfl Zxpf ?_)); refine Zew rfl Zmb ?_) | (refine Zati 27 ?_; (first | (refine Zew rfl Zxpt ?_) | (refine Zew rfl Zxpf ?_))) | (refine Zati 3 ?_; first | refine Zes ?_ | (refine Zew rfl Zmi ?_)) | (refine Zati 4 ?_; first | refine Zes ?_ | (refine Zew rfl Zmi ?_)) | (refine Zati 5 ?_; first | refine Zes ?_ | (refine Zew rfl (Val_shrE hSk (by omega) rfl rfl) ?_) | (refine Zew rfl (Val_shrE hPk (by omega) rfl rfl) ?_)) | (refine Zati 6 ?_; first | refine Zes ?_ | (refine Zew rfl (Val_andE hbs hsk (by omega) rfl rfl) ?_) | (refine Zew rfl (Val_andE hbp hpk (by omega) rfl rfl) ?_)) | (refine Zati 7 ?_; first | refine Zes ?_ | (refine Zew rfl Zyeql ?_)) | (refine Zati 8 ?_; first | refine Zes ?_ | (refine Zew rfl Zf0 ?_)) | (refine Zati 9 ?_; first | refine Zes ?_ | (refine Zew rfl Zld ?_)) | (refine Zati 10 ?_; first | refine Zes ?_ | (refine Zew rfl Zfa ?_)) | (refine Zati 11 ?_; first | refine Zes ?_ | (refine Zew rfl Zld ?_)) | (refine Zati 12 ?_; first | refine Zes ?_ | (refine Zew rfl Zygtr ?_)) | (refine Zati 13 ?_; first | refine Zes ?_ | (refine Zew rfl (ZxneqB) ?_) | (refine Zew rfl (Zyneq) ?_)) | (refine Zati 16 ?_; first | refine Zes ?_ | (refine Zew rfl Zmi ?_)) | (refine Zati 17 ?_; first | refine Zes ?_ | (refine Zew rfl Zmi ?_)) | (refine Zati 18 ?_; first | refine Zes ?_ | (refine Zew rfl (Val_shrE hSk (by omega) rfl rfl) ?_) | (refine Zew rfl (Val_shrE hPk (by omega) rfl rfl) ?_)) | (refine Zati 19 ?_; first | refine Zes ?_ | (refine Zew rfl (Val_andE hbs hsk (by omega) rfl rfl) ?_) | (refine Zew rfl (Val_andE hbp hpk (by omega) rfl rfl) ?_)) | (refine Zati 20 ?_; first | refine Zes ?_ | (refine Zew rfl Zyeql ?_)) | (refine Zati 21 ?_; first | refine Zes ?_ | (refine Zew rfl Zfa ?_)) | (refine Zati 22 ?_; first | refine Zes ?_ | (refine Zew rfl Zld ?_)) | (refine Zati 23 ?_; first | refine Zes ?_ | (refine Zew rfl Zfa ?_)) | (refine Zati 24 ?_; first | refine Zes ?_ | (refine Zew rfl Zld ?_)) | (refine Zati 25 ?_; first | refine Zes ?_ | (refine Zew rfl Zygtr ?_)) | (refine Zati 26 ?_; first | refine Zes ?_ | (refine Zew rfl (ZxneqB) ?_) | (refine Zew rfl (Zyneq) ?_)) | (with_reducible apply EWalk_nil)) | (refine AnyO_done (by kernel_rfl) ?_; (try with_reducible apply noP_normal); try with_reducible exact key.out) | (refine Zhn ?_) | (with_reducible apply QBlock_normal) | (refine AWalk_0 ?_; refine ZisO ?_))
        exact QLoop_normal (k + 1) (.cons rfl .nil) (by repeat (first | exact Off.frame rfl | exact Off.refl _ _ | refine Off.frameT rfl rfl ?_ | refine Off.upd rfl ?_ | refine Off.updO rfl ?_)) (by repeat (first | exact Wk.refl _ | apply Wk.keep1 | apply Wk.drop | apply Wk.sv | apply Wk.svD | apply Wk.appD)) (by omega) (by omega)
      · have hp2 : ¬ tm < x2 := fun h => hp1 (hx4.2 h)
        repeat' (first | (refine GiP ?_; first | (refine Znh ?_) | (with_reducible refine Znl ?_)) | (refine GiW ?_; first | (refine Zsq fun K hK => ?_) | (refine ZrN 10 fun _ => ?_; refine Zv Zylss ?_) | (refine ZrN 11 fun _ => ?_; refine Zv Zmi ?_; refine Zv Zia ?_; refine Zv Zla ?_; refine Zal 12 fun b12 => ?_; refine Zv Zai ?_; refine Zst ?_) | (refine ZrN 12 fun _ => ?_; refine Zv Zla ?_; refine Zv Zf0 ?_; refine Zv Zld ?_; refine Zv Zfa ?_; refine Zv Zld ?_; refine Zcl (Enters_fn rfl) (h25k _) ?_; refine Zv Zmv ?_; refine Zv Zxex ?_; refine Zv Zxex ?_; refine Zal 13 fun b13 => ?_; refine Zst ?_; refine Zv Zai ?_) | (refine ZrN 15 fun _ => ?_; refine Zv Zxadd ?_; refine Zv Zmi ?_) | (refine WP_cond_true rfl ?_) | (refine WP_cond_false rfl ?_) | (with_reducible apply WP_skip) | (with_reducible apply WP_block) | (refine WP_drawn (id := 13) [0, 1, 2, 3, 4, 5, 6, 7, 8, 9, 10, 11, 12, 13, 14, 15, 16, 17, 18, 19, 20, 21, 22, 23, 24, 25, 26, 27] [] (k := 0) prog_mixed (by kernel_rfl) rfl ?_; refine Zew rfl Zmi ?_; (first | (refine Zew rfl (ZxneqB) ?_) | (refine Zew rfl (Zyneq) ?_)); refine Zew rfl Zmb ?_)) | (refine GiE ?_; first | (refine Zati 14 ?_; (first | (refine Zew rfl Zxpt ?_) | (refine Zew rfl Zxpf ?_)); refine Zew rfl Zmb ?_) | (refine Zati 27 ?_; (first | (refine Zew rfl Zxpt ?_) | (refine Zew rfl Zxpf ?_))) | (refine Zati 3 ?_; first | refine Zes ?_ | (refine Zew rfl Zmi ?_)) | (refine Zati 4 ?_; first | refine Zes ?_ | (refine Zew rfl Zmi ?_)) | (refine Zati 5 ?_; first | refine Zes ?_ | (refine Zew rfl (Val_shrE hSk (by omega) rfl rfl) ?_) | (refine Zew rfl (Val_shrE hPk (by omega) rfl rfl) ?_)) | (refine Zati 6 ?_; first | refine Zes ?_ | (refine Zew rfl (Val_andE hbs hsk (by omega) rfl rfl) ?_) | (refine Zew rfl (Val_andE hbp hpk (by omega) rfl rfl) ?_)) | (refine Zati 7 ?_; first | refine Zes ?_ | (refine Zew rfl Zyeql ?_)) | (refine Zati 8 ?_; first | refine Zes ?_ | (refine Zew rfl Zf0 ?_)) | (refine Zati 9 ?_; first | refine Zes ?_ | (refine Zew rfl Zld ?_)) | (refine Zati 10 ?_; first | refine Zes ?_ | (refine Zew rfl Zfa ?_)) | (refine Zati 11 ?_; first | refine Zes ?_ | (refine Zew rfl Zld ?_)) | (refine Zati 12 ?_; first | refine Zes ?_ | (refine Zew rfl Zygtr ?_)) | (refine Zati 13 ?_; first | refine Zes ?_ | (refine Zew rfl (ZxneqB) ?_) | (refine Zew rfl (Zyneq) ?_)) | (refine Zati 16 ?_; first | refine Zes ?_ | (refine Zew rfl Zmi ?_)) | (refine Zati 17 ?_; first | refine Zes ?_ | (refine Zew rfl Zmi ?_)) | (refine Zati 18 ?_; first | refine Zes ?_ | (refine Zew rfl (Val_shrE hSk (by omega) rfl rfl) ?_) | (refine Zew rfl (Val_shrE hPk (by omega) rfl rfl) ?_)) | (refine Zati 19 ?_; first | refine Zes ?_ | (refine Zew rfl (Val_andE hbs hsk (by omega) rfl rfl) ?_) | (refine Zew rfl (Val_andE hbp hpk (by omega) rfl rfl) ?_)) | (refine Zati 20 ?_; first | refine Zes ?_ | (refine Zew rfl Zyeql ?_)) | (refine Zati 21 ?_; first | refine Zes ?_ | (refine Zew rfl Zfa ?_)) | (refine Zati 22 ?_; first | refine Zes ?_ | (refine Zew rfl Zld ?_)) | (refine Zati 23 ?_; first | refine Zes ?_ | (refine Zew rfl Zfa ?_)) | (refine Zati 24 ?_; first | refine Zes ?_ | (refine Zew rfl Zld ?_)) | (refine Zati 25 ?_; first | refine Zes ?_ | (refine Zew rfl Zygtr ?_)) | (refine Zati 26 ?_; first | refine Zes ?_ | (refine Zew rfl (ZxneqB) ?_) | (refine Zew rfl (Zyneq) ?_)) | (with_reducible apply EWalk_nil)) | (refine AnyO_done (by kernel_rfl) ?_; (try with_reducible apply noP_normal); try with_reducible exact key.out) | (refine Zhn ?_) | (with_reducible apply QBlock_normal) | (refine AWalk_0 ?_; refine ZisO ?_))
        exact QLoop_normal (k + 1) (.cons rfl .nil) (by repeat (first | exact Off.frame rfl | exact Off.refl _ _ | refine Off.frameT rfl rfl ?_ | refine Off.upd rfl ?_ | refine Off.updO rfl ?_)) (by repeat (first | exact Wk.refl _ | apply Wk.keep1 | apply Wk.drop | apply Wk.sv | apply Wk.svD | apply Wk.appD)) (by omega) (by omega)
    · have hs2 : ¬ tm < x1 := fun h => hs1 (hx3.2 h)
      by_cases hp1 : bp = 1
      · have hp2 := hx4.1 hp1
        repeat' (first | (refine GiP ?_; first | (refine Znh ?_) | (with_reducible refine Znl ?_)) | (refine GiW ?_; first | (refine Zsq fun K hK => ?_) | (refine ZrN 10 fun _ => ?_; refine Zv Zylss ?_) | (refine ZrN 11 fun _ => ?_; refine Zv Zmi ?_; refine Zv Zia ?_; refine Zv Zla ?_; refine Zal 12 fun b12 => ?_; refine Zv Zai ?_; refine Zst ?_) | (refine ZrN 12 fun _ => ?_; refine Zv Zla ?_; refine Zv Zf0 ?_; refine Zv Zld ?_; refine Zv Zfa ?_; refine Zv Zld ?_; refine Zcl (Enters_fn rfl) (h25k _) ?_; refine Zv Zmv ?_; refine Zv Zxex ?_; refine Zv Zxex ?_; refine Zal 13 fun b13 => ?_; refine Zst ?_; refine Zv Zai ?_) | (refine ZrN 15 fun _ => ?_; refine Zv Zxadd ?_; refine Zv Zmi ?_) | (refine WP_cond_true rfl ?_) | (refine WP_cond_false rfl ?_) | (with_reducible apply WP_skip) | (with_reducible apply WP_block) | (refine WP_drawn (id := 13) [0, 1, 2, 3, 4, 5, 6, 7, 8, 9, 10, 11, 12, 13, 14, 15, 16, 17, 18, 19, 20, 21, 22, 23, 24, 25, 26, 27] [] (k := 0) prog_mixed (by kernel_rfl) rfl ?_; refine Zew rfl Zmi ?_; (first | (refine Zew rfl (ZxneqB) ?_) | (refine Zew rfl (Zyneq) ?_)); refine Zew rfl Zmb ?_)) | (refine GiE ?_; first | (refine Zati 14 ?_; (first | (refine Zew rfl Zxpt ?_) | (refine Zew rfl Zxpf ?_)); refine Zew rfl Zmb ?_) | (refine Zati 27 ?_; (first | (refine Zew rfl Zxpt ?_) | (refine Zew rfl Zxpf ?_))) | (refine Zati 3 ?_; first | refine Zes ?_ | (refine Zew rfl Zmi ?_)) | (refine Zati 4 ?_; first | refine Zes ?_ | (refine Zew rfl Zmi ?_)) | (refine Zati 5 ?_; first | refine Zes ?_ | (refine Zew rfl (Val_shrE hSk (by omega) rfl rfl) ?_) | (refine Zew rfl (Val_shrE hPk (by omega) rfl rfl) ?_)) | (refine Zati 6 ?_; first | refine Zes ?_ | (refine Zew rfl (Val_andE hbs hsk (by omega) rfl rfl) ?_) | (refine Zew rfl (Val_andE hbp hpk (by omega) rfl rfl) ?_)) | (refine Zati 7 ?_; first | refine Zes ?_ | (refine Zew rfl Zyeql ?_)) | (refine Zati 8 ?_; first | refine Zes ?_ | (refine Zew rfl Zf0 ?_)) | (refine Zati 9 ?_; first | refine Zes ?_ | (refine Zew rfl Zld ?_)) | (refine Zati 10 ?_; first | refine Zes ?_ | (refine Zew rfl Zfa ?_)) | (refine Zati 11 ?_; first | refine Zes ?_ | (refine Zew rfl Zld ?_)) | (refine Zati 12 ?_; first | refine Zes ?_ | (refine Zew rfl Zygtr ?_)) | (refine Zati 13 ?_; first | refine Zes ?_ | (refine Zew rfl (ZxneqB) ?_) | (refine Zew rfl (Zyneq) ?_)) | (refine Zati 16 ?_; first | refine Zes ?_ | (refine Zew rfl Zmi ?_)) | (refine Zati 17 ?_; first | refine Zes ?_ | (refine Zew rfl Zmi ?_)) | (refine Zati 18 ?_; first | refine Zes ?_ | (refine Zew rfl (Val_shrE hSk (by omega) rfl rfl) ?_) | (refine Zew rfl (Val_shrE hPk (by omega) rfl rfl) ?_)) | (refine Zati 19 ?_; first | refine Zes ?_ | (refine Zew rfl (Val_andE hbs hsk (by omega) rfl rfl) ?_) | (refine Zew rfl (Val_andE hbp hpk (by omega) rfl rfl) ?_)) | (refine Zati 20 ?_; first | refine Zes ?_ | (refine Zew rfl Zyeql ?_)) | (refine Zati 21 ?_; first | refine Zes ?_ | (refine Zew rfl Zfa ?_)) | (refine Zati 22 ?_; first | refine Zes ?_ | (refine Zew rfl Zld ?_)) | (refine Zati 23 ?_; first | refine Zes ?_ | (refine Zew rfl Zfa ?_)) | (refine Zati 24 ?_; first | refine Zes ?_ | (refine Zew rfl Zld ?_)) | (refine Zati 25 ?_; first | refine Zes ?_ | (refine Zew rfl Zygtr ?_)) | (refine Zati 26 ?_; first | refine Zes ?_ | (refine Zew rfl (ZxneqB) ?_) | (refine Zew rfl (Zyneq) ?_)) | (with_reducible apply EWalk_nil)) | (refine AnyO_done (by kernel_rfl) ?_; (try with_reducible apply noP_normal); try with_reducible exact key.out) | (refine Zhn ?_) | (with_reducible apply QBlock_normal) | (refine AWalk_0 ?_; refine ZisO ?_))
        exact QLoop_normal (k + 1) (.cons rfl .nil) (by repeat (first | exact Off.frame rfl | exact Off.refl _ _ | refine Off.frameT rfl rfl ?_ | refine Off.upd rfl ?_ | refine Off.updO rfl ?_)) (by repeat (first | exact Wk.refl _ | apply Wk.keep1 | apply Wk.drop | apply Wk.sv | apply Wk.svD | apply Wk.appD)) (by omega) (by omega)
      · have hp2 : ¬ tm < x2 := fun h => hp1 (hx4.2 h)
        repeat' (first | (refine GiP ?_; first | (refine Znh ?_) | (with_reducible refine Znl ?_)) | (refine GiW ?_; first | (refine Zsq fun K hK => ?_) | (refine ZrN 10 fun _ => ?_; refine Zv Zylss ?_) | (refine ZrN 11 fun _ => ?_; refine Zv Zmi ?_; refine Zv Zia ?_; refine Zv Zla ?_; refine Zal 12 fun b12 => ?_; refine Zv Zai ?_; refine Zst ?_) | (refine ZrN 12 fun _ => ?_; refine Zv Zla ?_; refine Zv Zf0 ?_; refine Zv Zld ?_; refine Zv Zfa ?_; refine Zv Zld ?_; refine Zcl (Enters_fn rfl) (h25k _) ?_; refine Zv Zmv ?_; refine Zv Zxex ?_; refine Zv Zxex ?_; refine Zal 13 fun b13 => ?_; refine Zst ?_; refine Zv Zai ?_) | (refine ZrN 15 fun _ => ?_; refine Zv Zxadd ?_; refine Zv Zmi ?_) | (refine WP_cond_true rfl ?_) | (refine WP_cond_false rfl ?_) | (with_reducible apply WP_skip) | (with_reducible apply WP_block) | (refine WP_drawn (id := 13) [0, 1, 2, 3, 4, 5, 6, 7, 8, 9, 10, 11, 12, 13, 14, 15, 16, 17, 18, 19, 20, 21, 22, 23, 24, 25, 26, 27] [] (k := 0) prog_mixed (by kernel_rfl) rfl ?_; refine Zew rfl Zmi ?_; (first | (refine Zew rfl (ZxneqB) ?_) | (refine Zew rfl (Zyneq) ?_)); refine Zew rfl Zmb ?_)) | (refine GiE ?_; first | (refine Zati 14 ?_; (first | (refine Zew rfl Zxpt ?_) | (refine Zew rfl Zxpf ?_)); refine Zew rfl Zmb ?_) | (refine Zati 27 ?_; (first | (refine Zew rfl Zxpt ?_) | (refine Zew rfl Zxpf ?_))) | (refine Zati 3 ?_; first | refine Zes ?_ | (refine Zew rfl Zmi ?_)) | (refine Zati 4 ?_; first | refine Zes ?_ | (refine Zew rfl Zmi ?_)) | (refine Zati 5 ?_; first | refine Zes ?_ | (refine Zew rfl (Val_shrE hSk (by omega) rfl rfl) ?_) | (refine Zew rfl (Val_shrE hPk (by omega) rfl rfl) ?_)) | (refine Zati 6 ?_; first | refine Zes ?_ | (refine Zew rfl (Val_andE hbs hsk (by omega) rfl rfl) ?_) | (refine Zew rfl (Val_andE hbp hpk (by omega) rfl rfl) ?_)) | (refine Zati 7 ?_; first | refine Zes ?_ | (refine Zew rfl Zyeql ?_)) | (refine Zati 8 ?_; first | refine Zes ?_ | (refine Zew rfl Zf0 ?_)) | (refine Zati 9 ?_; first | refine Zes ?_ | (refine Zew rfl Zld ?_)) | (refine Zati 10 ?_; first | refine Zes ?_ | (refine Zew rfl Zfa ?_)) | (refine Zati 11 ?_; first | refine Zes ?_ | (refine Zew rfl Zld ?_)) | (refine Zati 12 ?_; first | refine Zes ?_ | (refine Zew rfl Zygtr ?_)) | (refine Zati 13 ?_; first | refine Zes ?_ | (refine Zew rfl (ZxneqB) ?_) | (refine Zew rfl (Zyneq) ?_)) | (refine Zati 16 ?_; first | refine Zes ?_ | (refine Zew rfl Zmi ?_)) | (refine Zati 17 ?_; first | refine Zes ?_ | (refine Zew rfl Zmi ?_)) | (refine Zati 18 ?_; first | refine Zes ?_ | (refine Zew rfl (Val_shrE hSk (by omega) rfl rfl) ?_) | (refine Zew rfl (Val_shrE hPk (by omega) rfl rfl) ?_)) | (refine Zati 19 ?_; first | refine Zes ?_ | (refine Zew rfl (Val_andE hbs hsk (by omega) rfl rfl) ?_) | (refine Zew rfl (Val_andE hbp hpk (by omega) rfl rfl) ?_)) | (refine Zati 20 ?_; first | refine Zes ?_ | (refine Zew rfl Zyeql ?_)) | (refine Zati 21 ?_; first | refine Zes ?_ | (refine Zew rfl Zfa ?_)) | (refine Zati 22 ?_; first | refine Zes ?_ | (refine Zew rfl Zld ?_)) | (refine Zati 23 ?_; first | refine Zes ?_ | (refine Zew rfl Zfa ?_)) | (refine Zati 24 ?_; first | refine Zes ?_ | (refine Zew rfl Zld ?_)) | (refine Zati 25 ?_; first | refine Zes ?_ | (refine Zew rfl Zygtr ?_)) | (refine Zati 26 ?_; first | refine Zes ?_ | (refine Zew rfl (ZxneqB) ?_) | (refine Zew rfl (Zyneq) ?_)) | (with_reducible apply EWalk_nil)) | (refine AnyO_done (by kernel_rfl) ?_; (try with_reducible apply noP_normal); try with_reducible exact key.out) | (refine Zhn ?_) | (with_reducible apply QBlock_normal) | (refine AWalk_0 ?_; refine ZisO ?_))
        exact QLoop_normal (k + 1) (.cons rfl .nil) (by repeat (first | exact Off.frame rfl | exact Off.refl _ _ | refine Off.frameT rfl rfl ?_ | refine Off.upd rfl ?_ | refine Off.updO rfl ?_)) (by repeat (first | exact Wk.refl _ | apply Wk.keep1 | apply Wk.drop | apply Wk.sv | apply Wk.svD | apply Wk.appD)) (by omega) (by omega)
  · have hke : k = n := by omega
    clear f4 h25 h27 h29 h28
    obtain ⟨B, hB⟩ : ∃ B, g.d.banks.length = B := ⟨_, rfl⟩
    rw [hB] at hnb hdg ⊢
    obtain ⟨A, hA9⟩ : ∃ A, a % B = A := ⟨_, rfl⟩
    obtain ⟨C, hC9⟩ : ∃ C, b % B = C := ⟨_, rfl⟩
    have hAl : A < B := by rw [← hA9]; exact Nat.mod_lt _ (by omega)
    have hCl : C < B := by rw [← hC9]; exact Nat.mod_lt _ (by omega)
    by_cases hAC : A = C
    · subst hAC
      repeat' (first | (refine Znh ?_) | (refine GiW ?_; first | (refine Zsq fun K hK => ?_) | (refine ZrN 10 fun _ => ?_; refine Zv Zylss ?_) | (refine ZrN 17 fun _ => ?_; refine Zv Zmi ?_; refine Zv Zmi ?_; refine Zv Zyeql ?_) | (refine ZrN 18 fun _ => ?_; refine Zcl (Enters_fn rfl) (h13 _) ?_; refine Zv Zab ?_) | (refine WP_cond_true rfl ?_) | (refine WP_cond_false rfl ?_) | (with_reducible apply WP_exit) | (with_reducible apply WP_ret) | (refine WP_drawn (id := 16) [0, 1, 2, 3, 4, 5, 6, 7, 8, 9] [] (k := 0) prog_mixed (by kernel_rfl) rfl ?_; refine Zew rfl Zmi ?_; refine Zew rfl Zxco ?_; refine Zew rfl Zmi ?_; (first | (refine Zew rfl (Val_remE2 hA9 (by omega) rfl rfl) ?_) | (refine Zew rfl (Val_remE2 hC9 (by omega) rfl rfl) ?_)); refine Zew rfl Zmi ?_; refine Zew rfl Zxco ?_; refine Zew rfl Zmi ?_; (first | (refine Zew rfl (Val_remE2 hA9 (by omega) rfl rfl) ?_) | (refine Zew rfl (Val_remE2 hC9 (by omega) rfl rfl) ?_)); refine Zew rfl Zai ?_; refine Zew rfl Zai ?_)) | (with_reducible apply EWalk_nil) | (refine AnyO_done (by kernel_rfl) ?_; (try with_reducible apply noP_normal); try with_reducible exact key.out) | (refine Zhn ?_) | (refine Zhx ?_) | (with_reducible apply QBlock_hit) | (with_reducible apply QLoop_exit) | (refine Zhr ?_) | (refine AWalk_0 ?_; refine ZisO ?_))
      all_goals exact QBody_ret1 rfl (rfl : _ = Value.bool _) ⟨rfl, (by repeat (first | exact Wk.refl _ | apply Wk.keep1 | apply Wk.drop | apply Wk.sv | apply Wk.svD | apply Wk.appD))⟩
    have htwo : twoB g.d.banks.length (A : Int) (C : Int) = true := by
      simp only [twoB, inN, Bool.and_eq_true, decide_eq_true_eq]
      omega
    have he2 := errD_1 hvb htwo h0
    have hdg2 := fun L => hdg L (A : Int) (C : Int)
    obtain ⟨m, hm⟩ : ∃ m, g.d.ways.length = m := ⟨_, rfl⟩
    rw [hm] at hdg2 hnw ⊢
    by_cases hm7 : m = 7
    · have e1 : DigE g.d A C = 9 := by simp [DigE, he2, hm, hm7]
      have e2 : DigV g.d A C = 0 := by simp [DigV, e1]
      rw [e1, e2] at hdg2
      repeat' (first | (refine GiP ?_; first | (refine Znh ?_) | (refine Zatd 142 ?_; (first | (refine Zv Zxpt ?_) | (refine Zv Zxpf ?_)); refine Zv Zmb ?_) | (refine Zatd 145 ?_; (first | (refine Zv Zxpt ?_) | (refine Zv Zxpf ?_)); refine Zv Zab ?_) | (refine Zatd 140 ?_; first | refine Zsk ?_ | (refine Zv Zmi ?_)) | (refine Zatd 141 ?_; first | refine Zsk ?_ | (refine Zv Zyeql ?_)) | (refine Zatd 144 ?_; first | refine Zsk ?_ | (refine Zcl (Enters_fn rfl) (h13 _) ?_))) | (refine GiW ?_; first | (refine Zsq fun K hK => ?_) | (refine ZrN 10 fun _ => ?_; refine Zv Zylss ?_) | (refine ZrN 17 fun _ => ?_; refine Zv Zmi ?_; refine Zv Zmi ?_; refine Zv Zyeql ?_) | (refine ZrN 19 fun _ => ?_; refine Zv Zla ?_; refine Zv Zmi ?_; refine Zv Zmi ?_; refine Zcl (Enters_fn rfl) (hdg2 _) ?_; refine Zv Zmv ?_; refine Zv Zxex ?_; refine Zv Zxex ?_; refine Zv Zai ?_; refine Zv Zai ?_) | (refine ZrN 20 fun _ => ?_; refine Zv Zfa ?_; refine Zv Zld ?_; refine Zv Zxlen ?_; refine Zv Zyeql ?_) | (refine ZrG 21 ?_; refine Zv Zmi ?_; refine Zv Zyeql ?_; refine Zv Zmb ?_) | (refine WP_cond_true rfl ?_) | (refine WP_cond_false rfl ?_) | (with_reducible apply WP_skip) | (with_reducible apply WP_exit) | (with_reducible apply WP_ret) | (refine WP_drawn (id := 16) [0, 1, 2, 3, 4, 5, 6, 7, 8, 9] [] (k := 0) prog_mixed (by kernel_rfl) rfl ?_; refine Zew rfl Zmi ?_; refine Zew rfl Zxco ?_; refine Zew rfl Zmi ?_; (first | (refine Zew rfl (Val_remE2 hA9 (by omega) rfl rfl) ?_) | (refine Zew rfl (Val_remE2 hC9 (by omega) rfl rfl) ?_)); refine Zew rfl Zmi ?_; refine Zew rfl Zxco ?_; refine Zew rfl Zmi ?_; (first | (refine Zew rfl (Val_remE2 hA9 (by omega) rfl rfl) ?_) | (refine Zew rfl (Val_remE2 hC9 (by omega) rfl rfl) ?_)); refine Zew rfl Zai ?_; refine Zew rfl Zai ?_)) | (with_reducible apply EWalk_nil) | (refine AnyO_done (by kernel_rfl) ?_; (try with_reducible apply noP_normal); try with_reducible exact key.out) | (refine Zhn ?_) | (refine Zhx ?_) | (with_reducible apply QBlock_hit) | (with_reducible apply QLoop_exit) | (refine Zhr ?_) | (refine AWalk_0 ?_; refine ZisO ?_))
      all_goals exact QBody_ret1 rfl (rfl : _ = Value.bool _) ⟨rfl, (by repeat (first | exact Wk.refl _ | apply Wk.keep1 | apply Wk.drop | apply Wk.sv | apply Wk.svD | apply Wk.appD))⟩
    have e1 : DigE g.d A C = 0 := by simp [DigE, he2, hm]; omega
    have e2 : DigV g.d A C = digS g.d A C := by simp [DigV, e1]
    rw [e1, e2] at hdg2
    obtain ⟨dv, hdv⟩ : ∃ z, digS g.d A C = z := ⟨_, rfl⟩
    rw [hdv] at hdg2
    repeat' (first | (refine Znh ?_) | (refine GiW ?_; first | (refine Zsq fun K hK => ?_) | (refine ZrN 10 fun _ => ?_; refine Zv Zylss ?_) | (refine ZrN 17 fun _ => ?_; refine Zv Zmi ?_; refine Zv Zmi ?_; refine Zv Zyeql ?_) | (refine ZrN 19 fun _ => ?_; refine Zv Zla ?_; refine Zv Zmi ?_; refine Zv Zmi ?_; refine Zcl (Enters_fn rfl) (hdg2 _) ?_; refine Zv Zmv ?_; refine Zv Zxex ?_; refine Zv Zxex ?_; refine Zv Zai ?_; refine Zv Zai ?_) | (refine ZrN 20 fun _ => ?_; refine Zv Zfa ?_; refine Zv Zld ?_; refine Zv Zxlen ?_; refine Zv Zyeql ?_) | (refine ZrN 22 fun _ => ?_; refine Zal 19 fun b19 => ?_; refine Zal 20 fun b20 => ?_) | (refine ZrN 23 fun _ => ?_; refine Zv Zf0 ?_; refine Zv Zld ?_; refine Zv Zxlen ?_; refine Zv Zmi ?_) | (refine WP_cond_false rfl ?_) | (with_reducible apply WP_skip) | (with_reducible apply WP_block) | (with_reducible apply WP_exit) | (refine WP_drawn (id := 16) [0, 1, 2, 3, 4, 5, 6, 7, 8, 9] [] (k := 0) prog_mixed (by kernel_rfl) rfl ?_; refine Zew rfl Zmi ?_; refine Zew rfl Zxco ?_; refine Zew rfl Zmi ?_; (first | (refine Zew rfl (Val_remE2 hA9 (by omega) rfl rfl) ?_) | (refine Zew rfl (Val_remE2 hC9 (by omega) rfl rfl) ?_)); refine Zew rfl Zmi ?_; refine Zew rfl Zxco ?_; refine Zew rfl Zmi ?_; (first | (refine Zew rfl (Val_remE2 hA9 (by omega) rfl rfl) ?_) | (refine Zew rfl (Val_remE2 hC9 (by omega) rfl rfl) ?_)); refine Zew rfl Zai ?_; refine Zew rfl Zai ?_)) | (with_reducible apply EWalk_nil) | (refine AnyO_done (by kernel_rfl) ?_; (try with_reducible apply noP_normal); try with_reducible exact key.out) | (refine Zhn ?_) | (refine Zhx ?_) | (with_reducible apply QBlock_hit) | (with_reducible apply QLoop_exit) | (refine AWalk_0 ?_; refine ZisO ?_))
    refine WP_loop [22, 149, 150, 151, 152, 153, 154, 155, 156, 157, 158, 159, 160, 161, 162, 163, 164, 165] (fun st : Nat × Option (Nat × Nat) × Option (Nat × Nat) => [(149, .int .i64 (st.1 : Int))]) (fun (st : Nat × Option (Nat × Nat) × Option (Nat × Nat)) => svH 3 1 st.1 (ints ((g.d.banks.take st.1).map fun b => b.yd.2)) st.2.2 (svH 3 1 st.1 (ints ((g.d.banks.take st.1).map fun b => b.yd.1)) st.2.1 ((b20, Blk 47 [svV st.2.2 st.1]) :: (b19, Blk 47 [svV st.2.1 st.1]) :: (b3, Blk 29 [.slice g.A1 B g.c1, .slice g.A2 m g.c2, .slice g.A3 n g.c3, .slice g.A4 g.d.seen.length g.c4]) :: L)))
      (fun (st : Nat × Option (Nat × Nat) × Option (Nat × Nat)) => st.1 ≤ B ∧ svOk st.2.1 1 st.1 (ints ((g.d.banks.take st.1).map fun b => b.yd.1)) ∧ svOk st.2.2 1 st.1 (ints ((g.d.banks.take st.1).map fun b => b.yd.2))) (fun (st : Nat × Option (Nat × Nat) × Option (Nat × Nat)) => B - st.1) (0, none, none) (.cons rfl .nil) (Wk.refl _) ⟨Nat.zero_le _, svOk_nil 1, svOk_nil 1⟩ ?_
    rintro ⟨k, s1, s2⟩ j ⟨hk, hs1, hs2⟩
    dsimp only at hk hs1 hs2 ⊢
    by_cases hkl : k < B
    · obtain ⟨bA, oA, hA1, hbA, hcA⟩ := hA.banks.row k (by omega)
      obtain ⟨t, ht⟩ : ∃ t, g.d.banks[k] = t := ⟨_, rfl⟩
      rw [ht] at hcA
      unfold bkL at hcA
      have hn1 : ints ((g.d.banks.take k).map fun b => b.yd.1) ++ [[Value.int .i64 t.yd.1]].flatten = ints ((g.d.banks.take (k + 1)).map fun b => b.yd.1) := by
        rw [map_take_succ (fun b : Bk => b.yd.1) (by omega), ht]; simp [ints]
      have hn2 : ints ((g.d.banks.take k).map fun b => b.yd.2) ++ [[Value.int .i64 t.yd.2]].flatten = ints ((g.d.banks.take (k + 1)).map fun b => b.yd.2) := by
        rw [map_take_succ (fun b : Bk => b.yd.2) (by omega), ht]; simp [ints]
      repeat' (first | (refine Znh ?_) | (refine GiW ?_; first | (refine Zsq fun K hK => ?_) | (refine ZrN 24 fun _ => ?_; refine Zv Zylss ?_) | (refine ZrN 25 fun _ => ?_; refine Zv Zia ?_; refine Zv Zla ?_; refine Zal 22 fun b22 => ?_; refine Zst ?_) | (refine WP_cond_true rfl ?_) | (with_reducible apply WP_skip) | (with_reducible apply WP_block)) | (refine Zhn ?_))
      repeat' (first | (refine GiP ?_; first | (with_reducible refine Znl ?_) | (refine Zatd 157 ?_; refine Zal 157 fun b157 => ?_) | (refine Zatd 158 ?_; refine Zag (fun s158 hs158 => ?_)) | (refine Zatd 163 ?_; refine Zal 163 fun b163 => ?_) | (refine Zatd 164 ?_; refine Zag (fun s164 hs164 => ?_)) | (refine Zatn ?_; refine Zst ?_)) | (refine WP_drawnS (id := 26) (B := (b22, Blk 60 [.int .i64 t.lv.1, .int .i64 t.lv.2, .int .i64 t.yd.1, .int .i64 t.yd.2]) :: (b20, Blk 47 [svV s2 k]) :: (b19, Blk 47 [svV s1 k]) :: (b3, Blk 29 [.slice g.A1 B g.c1, .slice g.A2 m g.c2, .slice g.A3 n g.c3, .slice g.A4 g.d.seen.length g.c4]) :: L) [0, 1, 2, 3, 6, 7, 8, 9] [0, 1, 2, 3, 6, 7, 8, 9] [] [153, 154, 155, 156, 159, 160, 161, 162] (k := 3) (k2 := 3) (by repeat (first | exact Sub.refl _ | apply Sub.keep | apply Sub.appK | apply Sub.sv | apply Sub.cons | apply Sub.app)) (by kernel_rfl) prog_mixed (by kernel_rfl) (by kernel_rfl) rfl ?_; refine Zew rfl Zld ?_; refine Zew rfl Zfa ?_; refine Zew rfl Zf0 ?_; refine Zew rfl Zld ?_; refine Zew rfl Zld ?_; refine Zew rfl Zfa ?_; refine Zew rfl Zfa ?_; refine Zew rfl Zld ?_) | (with_reducible apply EWalk_nil) | (refine GiC ?_; first | (refine ZgC [0, 1, 2, 3, 6, 7, 8, 9] ?_; refine ZC2 _ 4 [0, 1, 2, 3, 6, 7, 8, 9, 4] 10 [0, 1, 2, 3, 6, 7, 8, 9, 10] ?_ ?_) | (refine ZgC [0, 1, 2, 3, 6, 7, 8, 9, 4] ?_; refine ZC2 _ 5 [0, 1, 2, 3, 6, 7, 8, 9, 4, 5] 10 [0, 1, 2, 3, 6, 7, 8, 9, 4, 10] ?_ ?_) | (refine ZgC [0, 1, 2, 3, 6, 7, 8, 9, 4, 5] ?_; refine ZC1 _ 10 [0, 1, 2, 3, 6, 7, 8, 9, 4, 5, 10] ?_) | (refine ZgC [0, 1, 2, 3, 6, 7, 8, 9, 4, 5, 10] ?_; refine ZCl _ ?_) | (refine ZgC [0, 1, 2, 3, 6, 7, 8, 9, 4, 10] ?_; refine ZC1 _ 5 [0, 1, 2, 3, 6, 7, 8, 9, 4, 5, 10] ?_) | (refine ZgC [0, 1, 2, 3, 6, 7, 8, 9, 10] ?_; refine ZC1 _ 4 [0, 1, 2, 3, 6, 7, 8, 9, 4, 10] ?_)) | (refine GiO ?_; first | (refine ZgO [0, 1, 2, 3, 6, 7, 8, 9, 4, 5, 10] ?_; refine ZO1 _ 11 [0, 1, 2, 3, 6, 7, 8, 9, 4, 5, 10, 11] ?_) | (refine ZgO [0, 1, 2, 3, 6, 7, 8, 9, 4, 5, 10, 11] ?_; refine ZO1 _ 12 [0, 1, 2, 3, 6, 7, 8, 9, 4, 5, 10, 11, 12] ?_) | (refine ZgO [0, 1, 2, 3, 6, 7, 8, 9, 4, 5, 10, 11, 12] ?_; refine ZO1 _ 13 [0, 1, 2, 3, 6, 7, 8, 9, 4, 5, 10, 11, 12, 13] ?_) | (refine ZgO [0, 1, 2, 3, 6, 7, 8, 9, 4, 5, 10, 11, 12, 13] ?_; refine ZOd _ ?_; (try with_reducible apply noP_normal); (try with_reducible exact key.out))) | (refine Zhn ?_) | (with_reducible apply QBlock_normal) | (refine AWalk_0 ?_) | (with_reducible apply QAny_normal) | (with_reducible apply QC_normal))
      all_goals
        repeat' (first | (with_reducible refine Znl ?_) | (refine ZrN 27 fun _ => ?_; refine Zv Zxadd ?_; refine Zv Zmi ?_))
        rw [hn1] at hs158 ⊢
        rw [hn2] at hs164 ⊢
        exact QLoop_normal (k + 1, s158, s164) (.cons rfl .nil) (by repeat (first | exact Off.frame rfl | exact Off.refl _ _ | refine Off.frameT rfl rfl ?_ | refine Off.upd rfl ?_ | refine Off.updO rfl ?_)) (by repeat (first | exact Wk.refl _ | apply Wk.keep1 | apply Wk.drop | apply Wk.sv | apply Wk.svD | apply Wk.appD)) ⟨by dsimp only; omega, hs158, hs164⟩ (by dsimp only; omega)
    have hke2 : k = B := by omega
    subst hke2
    rw [show g.d.banks.take k = g.d.banks by rw [← hB, List.take_length]] at hs1 hs2 ⊢
    obtain ⟨Al, cl, el, hrl⟩ := RdRows.sv (E := 3) (by omega) hs1
    obtain ⟨Au, cu, eu, hru⟩ := RdRows.sv (E := 3) (by omega) hs2
    rw [el, eu]
    obtain ⟨H, hH⟩ : ∃ H, svH 3 1 k (ints (g.d.banks.map fun b => b.yd.2)) s2 (svH 3 1 k (ints (g.d.banks.map fun b => b.yd.1)) s1 ((b20, Blk 47 [.slice Au k cu]) :: (b19, Blk 47 [.slice Al k cl]) :: (b3, Blk 29 [.slice g.A1 k g.c1, .slice g.A2 m g.c2, .slice g.A3 n g.c3, .slice g.A4 g.d.seen.length g.c4]) :: L)) = H := ⟨_, rfl⟩
    have md : Mem b3 (Blk 29 [.slice g.A1 k g.c1, .slice g.A2 m g.c2, .slice g.A3 n g.c3, .slice g.A4 g.d.seen.length g.c4]) H := by rw [← hH]; exact (by repeat (first | exact Mem.here | assumption | apply Mem.there | apply Mem.sv | apply Mem.app))
    have mu : Mem b20 (Blk 47 [.slice Au k cu]) H := by rw [← hH]; exact (by repeat (first | exact Mem.here | assumption | apply Mem.there | apply Mem.sv | apply Mem.app))
    have ml : Mem b19 (Blk 47 [.slice Al k cl]) H := by rw [← hH]; exact (by repeat (first | exact Mem.here | assumption | apply Mem.there | apply Mem.sv | apply Mem.app))
    have hru2 : ∀ L', Sub H L' → RdI N w0 L' Au (upsL g.d) := fun L' hL => by
      have h1 : RdI N w0 H Au (upsL g.d) := by rw [← hH]; exact hru N w0 _ (i1 (upsL g.d)) Wk.sv0 (ints_flat _) (by intro r hr; simp only [i1, List.mem_map] at hr; obtain ⟨_, _, rfl⟩ := hr; rfl)
      exact h1.wk hL
    have hrl2 : ∀ L', Sub H L' → RdI N w0 L' Al (lwsL g.d) := fun L' hL => by
      have h1 : RdI N w0 H Al (lwsL g.d) := by rw [← hH]; exact hrl N w0 _ (i1 (lwsL g.d)) (by repeat (first | exact Wk.sv0 | apply Wk.svD)) (ints_flat _) (by intro r hr; simp only [i1, List.mem_map] at hr; obtain ⟨_, _, rfl⟩ := hr; rfl)
      exact h1.wk hL
    have hWH : Wk H L := by rw [← hH]; exact (by repeat (first | exact Wk.refl _ | apply Wk.keep1 | apply Wk.drop | apply Wk.sv | apply Wk.svD | apply Wk.appD))
    rw [hH]
    -- the drains with one way more
    obtain ⟨xs, hxs⟩ : ∃ xs, (g.d.ways.map spL).flatten = xs := ⟨_, rfl⟩
    have hsrc : ∀ L', ∀ w, Inv N w0 L' w → ∀ j u, xs[j]? = some u → ∃ b o, g.A2 = some ⟨b, o, none⟩ ∧ w.cell? ⟨b, o + j, none⟩ = some u := fun L' w hI => by rw [← hxs]; exact (RdRows.ofSl (L := L') hA.ways).flat (by omega) (map_len (f := spL) (fun _ => rfl) _) hI
    have hl3 : xs.length = m * (1 + 1) := by rw [← hxs, ← hm]; exact map_flat (f := spL) (fun _ => rfl) _
    have ho3 : ones xs = true := by rw [← hxs]; exact ones_flat (map_ones (f := spL) (fun _ => rfl) _)
    have hAn : g.A2 = none → m = 0 := fun h => by have := slat_none hA.ways h; rw [List.length_map] at this; omega
    have hxs2 : xs ++ [.int .i64 (A : Int), .int .i64 (C : Int)] = ((g.d.ways ++ [((A : Int), (C : Int))]).map spL).flatten := by simp [spL, hxs]
    have hml : (g.d.ways ++ [((A : Int), (C : Int))]).length = m + 1 := by rw [List.length_append, hm]; rfl
    have h12 := fun L x y => way_ret N w0 L x y
    repeat' (first | (refine Znh ?_) | (refine GiW ?_; first | (refine Zsq fun K hK => ?_) | (refine ZrN 24 fun _ => ?_; refine Zv Zylss ?_) | (refine ZrN 28 fun _ => ?_; refine Zv Zla ?_; refine Zal 23 fun b23 => ?_; refine Zst ?_) | (refine WP_cond_false rfl ?_) | (with_reducible apply WP_exit)) | (refine Zhn ?_) | (refine Zhx ?_) | (with_reducible apply QBlock_hit) | (with_reducible apply QLoop_exit))
    refine WP_joinS (by assumption) [167, 168, 169, 170, 171, 172, 173, 174, 175, 176] (fun _ : Option (Nat × Nat) => []) (fun s => svH 32 2 (m + 1) (xs ++ [.int .i64 (A : Int), .int .i64 (C : Int)]) s ((b23, Blk 29 [.slice g.A1 k g.c1, svV s (m + 1), .slice g.A3 n g.c3, .slice g.A4 g.d.seen.length g.c4]) :: H)) (fun s => svOk s 2 (m + 1) (xs ++ [.int .i64 (A : Int), .int .i64 (C : Int)])) ?_ ?_
    · intro K' hC
      repeat' (first | (with_reducible refine Znl ?_) | (refine ZrN 29 fun _ => ?_; (first | (refine Zbs fun b167 => ?_) | (refine Zal 167 fun b167 => ?_)); refine Zv Zfa ?_; refine Zv Zld ?_; (first | (refine OPS_append0 rfl rfl rfl (by intro s9; repeat (first | exact Grow.here | apply Grow.there | apply Grow.sv | apply Grow.app)) svOk0 (hsrc _) hAn hl3 ho3 (by simp only [maxLen]; omega) (by omega) (fun s170 hs170 => ?_)) | (refine Zag (fun s170 hs170 => ?_))); refine Zv Zmi ?_; refine Zv Zmi ?_; refine Zcl (Enters_fn rfl) (h12 _ _ _) ?_; (first | (refine Zbs fun b174 => ?_) | (refine Zal 174 fun b174 => ?_)); (first | (refine OPS_append0 rfl rfl rfl (by intro s9; repeat (first | exact Grow.here | apply Grow.there | apply Grow.sv | apply Grow.app)) svOk0 (hsrc _) hAn hl3 ho3 (by simp only [maxLen]; omega) (by omega) (fun s175 hs175 => ?_)) | (refine Zag (fun s175 hs175 => ?_))); refine Zv Zfa ?_; refine Zst ?_))
      all_goals exact hC.nor s175 _ _ .nil (by repeat (first | exact Off.frame rfl | exact Off.refl _ _ | refine Off.frameT rfl rfl ?_ | refine Off.upd rfl ?_ | refine Off.updO rfl ?_)) (by repeat (first | exact Sub.nil | exact Sub.refl _ | assumption | exact Sub.left | apply Sub.svK | apply Sub.sv | apply Sub.cons | apply Sub.app)) (by assumption)
    intro s175 j175 hs175
    obtain ⟨A9, c9, e9, hin9⟩ := in_ways (fun L => DrainIn.at_ (L := L) hA) (g.d.ways ++ [((A : Int), (C : Int))]) hxs2 (by rw [hml]; exact hs175)
    rw [hml] at e9 hin9
    rw [e9]
    obtain ⟨g', hg'⟩ : ∃ g' : Fg, { g with d := { g.d with ways := g.d.ways ++ [((A : Int), (C : Int))] }, A2 := A9, c2 := c9 } = g' := ⟨_, rfl⟩
    obtain ⟨H2, hH2⟩ : ∃ H2, svH 32 2 (m + 1) (xs ++ [.int .i64 (A : Int), .int .i64 (C : Int)]) s175 ((b23, Blk 29 [.slice g.A1 k g.c1, .slice A9 (m + 1) c9, .slice g.A3 n g.c3, .slice g.A4 g.d.seen.length g.c4]) :: H) = H2 := ⟨_, rfl⟩
    rw [hH2]
    have hd' : g'.d = addW1 g.d ((A : Int), (C : Int)) := by rw [← hg']; rfl
    have hv' : VD g'.d := by rw [hd']; exact VD_addW hv (by omega) (by dsimp only; omega)
    have hbk : g'.d.banks = g.d.banks := by rw [hd']; rfl
    have hwy : g'.d.ways = g.d.ways ++ [((A : Int), (C : Int))] := by rw [hd']; rfl
    have hdr' : drL g' = [.slice g.A1 k g.c1, .slice A9 (m + 1) c9, .slice g.A3 n g.c3, .slice g.A4 g.d.seen.length g.c4] := by rw [← hg']; unfold drL; dsimp only; rw [hB, hml, hn]
    have hdr : drL g = [.slice g.A1 k g.c1, .slice g.A2 m g.c2, .slice g.A3 n g.c3, .slice g.A4 g.d.seen.length g.c4] := by unfold drL; rw [hB, hm, hn]
    have hS2 : Sub H H2 := by rw [← hH2]; exact (by repeat (first | exact Sub.nil | exact Sub.refl _ | assumption | exact Sub.left | apply Sub.svK | apply Sub.sv | apply Sub.cons | apply Sub.app))
    have mx : Mem b23 (Blk 29 (drL g')) H2 := by rw [hdr', ← hH2]; exact (by repeat (first | exact Mem.here | assumption | apply Mem.there | apply Mem.sv | apply Mem.app))
    have md2 : Mem b3 (Blk 29 (drL g)) H2 := by rw [hdr, ← hH2]; exact (by repeat (first | exact Mem.here | assumption | apply Mem.there | apply Mem.sv | apply Mem.app))
    have mu2 : Mem b20 (Blk 47 [.slice Au g.d.banks.length cu]) H2 := by rw [hB, ← hH2]; exact (by repeat (first | exact Mem.here | assumption | apply Mem.there | apply Mem.sv | apply Mem.app))
    have ml2 : Mem b19 (Blk 47 [.slice Al g.d.banks.length cl]) H2 := by rw [hB, ← hH2]; exact (by repeat (first | exact Mem.here | assumption | apply Mem.there | apply Mem.sv | apply Mem.app))
    have hin2 : ∀ L', Sub H2 L' → DrainIn N w0 L' g' := fun L' hL => by rw [← hg']; exact hin9 L' (Sub.trans (by rw [← hH2, ← svH_nil (B := (b23, Blk 29 [.slice g.A1 k g.c1, .slice A9 (m + 1) c9, .slice g.A3 n g.c3, .slice g.A4 g.d.seen.length g.c4]) :: H)]; exact .left) hL)
    have hev := fun b24 b25 => each_tri N w0 g hA hv _ 32 _ (dig_on N w0 g g' hA hv hv' hbk b23 b20 b19 b3 b24 b25 H2 mx hin2 md2 Au cu mu2 (fun L' hL => hru2 L' (Sub.trans hS2 hL)) Al cl ml2 (fun L' hL => hrl2 L' (Sub.trans hS2 hL)))
    have hz0 : ∀ f, okS g.d f 0 = true := fun _ => rfl
    simp only [hz0, okS_all, hwy] at hev
    have hWH2 : Wk H2 L := by rw [← hH2]; exact .svD (.drop hWH)
    have hfin : ∀ b24 b25 q1 q2, ((toldD g.d).all fun lv => keepS1 g.d (nxt (g.d.ways ++ [((A : Int), (C : Int))]) lv)) = q1 → ((toldD g.d).all fun lv => !keepS2 g.d (nxt (g.d.ways ++ [((A : Int), (C : Int))]) lv)) = q2 → Tri Try.prog N w0 ((b25, Blk 4 [.bool true]) :: (b24, Blk 4 [.bool true]) :: H2) 30 [.agg (List.toArray [.slice g.A1 k g.c1, .slice g.A2 m g.c2, .slice g.A3 n g.c3, .slice g.A4 g.d.seen.length g.c4]), .func (.func 32) #[] [.pointer (some ⟨b23, 0, none⟩), .pointer (some ⟨b20, 0, none⟩), .pointer (some ⟨b19, 0, none⟩), .pointer (some ⟨b3, 0, none⟩), .pointer (some ⟨b24, 0, none⟩), .pointer (some ⟨b25, 0, none⟩)].toArray].toArray fun x L' => ∃ v, x = .returned v ∧ L' = (b25, Blk 4 [.bool q2]) :: (b24, Blk 4 [.bool q1]) :: H2 := by
      intro b24 b25 q1 q2 e1 e2
      have h := hev b24 b25
      unfold drV at h
      rw [hdr, e1, e2] at h
      refine Tri.pm h (List.Perm.swap _ _ _) ?_
      rintro x L' ⟨v, rfl, rfl⟩
      exact ⟨_, List.Perm.swap _ _ _, v, rfl, rfl⟩
    clear hev
    rw [hdr] at md2
    rcases dig_facts hv h0 (A : Int) (C : Int) with ⟨d1, d2, d3⟩ | ⟨d1, d2, d3⟩ | ⟨d1, d2, d3⟩
    all_goals
      rw [hdv] at d1
      have hcall := fun b24 b25 => hfin b24 b25 _ _ d2 d3
      repeat' (first | (refine GiP ?_; first | (refine Znh ?_) | (refine Zatd 187 ?_; (first | (refine Zv Zxpt ?_) | (refine Zv Zxpf ?_)); refine Zv Zmb ?_) | (refine Zatd 193 ?_; (first | (refine Zv Zxpt ?_) | (refine Zv Zxpf ?_)); refine Zv Zmb ?_) | (refine Zatd 204 ?_; (first | (refine Zv Zxpt ?_) | (refine Zv Zxpf ?_)); refine Zv Zmb ?_) | (refine Zatd 207 ?_; (first | (refine Zv Zxpt ?_) | (refine Zv Zxpf ?_)); refine Zv Zab ?_) | (refine Zatd 183 ?_; first | refine Zsk ?_ | (refine Zv Zmi ?_)) | (refine Zatd 184 ?_; first | refine Zsk ?_ | (refine Zv Zyeql ?_)) | (refine Zatd 185 ?_; first | refine Zsk ?_ | (refine Zv Zld ?_)) | (refine Zatd 186 ?_; first | refine Zsk ?_ | (refine Zv ZxeqlB ?_)) | (refine Zatd 189 ?_; first | refine Zsk ?_ | (refine Zv Zmi ?_)) | (refine Zatd 190 ?_; first | refine Zsk ?_ | (refine Zv Zyeql ?_)) | (refine Zatd 191 ?_; first | refine Zsk ?_ | (refine Zv Zld ?_)) | (refine Zatd 192 ?_; first | refine Zsk ?_ | (refine Zv ZxeqlB ?_)) | (refine Zatd 195 ?_; first | refine Zsk ?_ | (refine Zv Zmi ?_)) | (refine Zatd 196 ?_; first | refine Zsk ?_ | (refine Zv Zyeql ?_)) | (refine Zatd 197 ?_; first | refine Zsk ?_ | (refine Zv Zld ?_)) | (refine Zatd 198 ?_; first | refine Zsk ?_ | (refine Zv Zxnot ?_)) | (refine Zatd 199 ?_; first | refine Zsk ?_ | (refine Zv Zmb ?_)) | (refine Zatd 200 ?_; first | refine Zsk ?_ | (refine Zv Zld ?_)) | (refine Zatd 201 ?_; first | refine Zsk ?_ | (refine Zv Zxnot ?_)) | (refine Zatd 202 ?_; first | refine Zsk ?_ | (refine Zv Zxpt ?_) | (refine Zv Zxpf ?_)) | (refine Zatd 203 ?_; first | refine Zsk ?_ | (refine Zv ZxeqlB ?_)) | (refine Zatd 206 ?_; first | refine Zsk ?_ | (refine Zcl (Enters_fn rfl) (h13 _) ?_))) | (refine GiW ?_; first | (refine Zsq fun K hK => ?_) | (refine ZrN 30 fun _ => ?_; refine Zal 24 fun b24 => ?_; refine Zal 25 fun b25 => ?_; refine Zst ?_; refine Zst ?_) | (refine ZrN 31 fun _ => ?_; refine Zv Zla ?_; refine Zv Val_makeFunc ?_; refine OPS_retKS (Enters_fn rfl) (hcall b24 b25) rfl rfl rfl (fun v179 L179 h179 => ?_); subst h179) | (refine ZrG 32 ?_; refine Zv Zmi ?_; refine Zv Zyeql ?_; refine Zv Zmb ?_) | (with_reducible apply WP_ret)))
      exact QBody_ret1 rfl (rfl : _ = Value.bool _) ⟨rfl, .drop (.drop hWH2)⟩
theorem breaks_all (L : Hp) (g : Fg) (hA : DrAt N w0 g) (a : Nat) (ha8 : a ≤ 255) (b : Nat) (hb8 : b ≤ 255) : Ret Try.prog N w0 L 6 [drV g, .int .u8 (a : Int), .int .u8 (b : Int)].toArray (.bool true) := by
  cases h1 : vB g.d with
  | false => exact breaks_law0 N w0 L g hA a b (.inr h1)
  | true =>
    cases h2 : someB g.d with
    | false => exact breaks_lawN N w0 L g hA a b h1 h2
    | true => exact breaks_law1 N w0 L g hA a ha8 b hb8 h1 h2
end
end Go.Proofs.Ytbhgpnbfdjoglaa
end
