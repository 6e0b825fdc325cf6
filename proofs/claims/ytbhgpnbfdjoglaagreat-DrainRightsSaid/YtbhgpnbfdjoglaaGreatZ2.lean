/- The document's answer for drains: powers, sets, what a drain of a set joins, the next bank. · The document's answer for drains: ends, what is right, waters, flows, hulls, what is kept. -/
import Derived.Test.YtbhgpnbfdjoglaaGreatC2
import Derived.Test.YtbhgpnbfdjoglaaGreatFl3
import Derived.Test.YtbhgpnbfdjoglaaGreatQe
section
namespace Go.Proofs.YtbhgpnbfdjoglaaGreat
open Go.RowKit
def i1 (l : List Int) : List (List Value) := l.map fun x => [Value.int .i64 x]
/-- Numbers that can be read. -/
def RdI (N : Nat) (w0 : World) (L : Hp) (A : Option Addr) (l : List Int) : Prop := RdRows N w0 L A 1 (i1 l)
theorem RdI.at_ {N : Nat} {w0 : World} {L : Hp} {b o : Nat} {l : List Int} (h : RdI N w0 L (some ⟨b, o, none⟩) l) {i : Nat} (hi : i < l.length) : Rd N w0 L b (o + i) (.int .i64 (lvl l i)) := by
  obtain ⟨b', o', h1, h2⟩ := RdRows.row h i hi
  simp only [Option.some.injEq, Addr.mk.injEq, and_true] at h1
  obtain ⟨rfl, rfl⟩ := h1
  have hv : lvl l i = l[i] := by unfold lvl; rw [List.getD_eq_getElem?_getD, List.getElem?_eq_getElem hi]; rfl
  have := h2 0 (.int .i64 (lvl l i)) (by rw [hv]; rfl)
  simpa using this
theorem RdI.wk {N : Nat} {w0 : World} {L L' : Hp} {A : Option Addr} {l : List Int} (h : RdI N w0 L A l) (k : Sub L L') : RdI N w0 L' A l := RdRows.sub h k
theorem cell_lt {w : World} {b o : Nat} {v : Value} (h : w.cell? ⟨b, o, none⟩ = some v) : b < w.heap.size := by
  unfold World.cell? at h
  apply Classical.byContradiction
  intro hn
  rw [Array.getElem?_eq_none (by dsimp only; omega)] at h
  simp at h
/-- Numbers that were laid anew, as they lie. -/
theorem RdI.now {N : Nat} {w0 w : World} {L : Hp} {A : Option Addr} {l : List Int} (h : RdI N w0 L A l) (hI : Inv N w0 L w) : RdI w.heap.size w [] A l := fun i hi => by
  obtain ⟨b, o, h1, h2⟩ := h i hi
  exact ⟨b, o, h1, fun j v hj => Rd.ro (cell_lt (h2 j v hj w hI)) (h2 j v hj w hI)⟩
theorem RdI.opn {N : Nat} {w0 : World} {L : Hp} {A : Option Addr} {l : List Int} (h : RdI N w0 L A l) (h0 : 0 < l.length) : ∃ b o, A = some ⟨b, o, none⟩ := by
  obtain ⟨b, o, h, _⟩ := RdRows.row h 0 (by simpa [i1] using h0)
  exact ⟨b, o, h⟩
def hasB (s n : Nat) : Bool := decide (s / 2 ^ n % 2 = 1)
theorem adj_step {set : Nat} {l : List Sp} {k : Nat} (hk : k < l.length) (a b : Nat) : adj (pickL set (l.take (k + 1)) 0) a b = (adj (pickL set (l.take k) 0) a b || (hasB set k && joinB l[k] a b)) := by
  rw [List.take_succ_eq_append_getElem hk, pickL_snoc, List.length_take, Nat.min_eq_left (Nat.le_of_lt hk), Nat.zero_add]
  unfold adj hasB
  rw [List.any_append]
  by_cases h : set / 2 ^ k % 2 = 1
  · rw [if_pos h, decide_eq_true h]; simp
  · rw [if_neg h, decide_eq_false h]; simp
theorem adj_hit {set : Nat} {l : List Sp} {k : Nat} (hk : k < l.length) (a b : Nat) (h1 : hasB set k = true) (h2 : joinB l[k] a b = true) : adj (pickL set l 0) a b = true := by
  unfold adj
  rw [List.any_eq_true]
  refine ⟨l[k], pickL_mem.2 ⟨k, List.getElem?_eq_getElem hk, ?_⟩, h2⟩
  rw [Nat.zero_add]; exact of_decide_eq_true h1
attribute [local irreducible] AnyO AnyB QAny QB EWalk AWalk Ev WP OPS QThen QBlock QScope QLoop QBody Val New Turn Tri Enters PostA Blk Ro
attribute [local irreducible] AnyC QC
section
variable (N : Nat) (w0 : World)
theorem power_ret (L : Hp) (n : Nat) (hn : n ≤ 20) : Ret Tryz.prog N w0 L 39 [.int .i64 (n : Int)].toArray (.int .i64 ((2 ^ n : Nat) : Int)) := by
  refine Ret.fgt ?_
  refine tri_of_WP Tryz.func39 rfl (n := 13) rfl (by simp) ?_
  repeat' (first | (refine GiP ?_; first | (refine Znh ?_) | (with_reducible refine Znl ?_)) | (refine GiW ?_; first | (refine Zsq fun K hK => ?_) | (refine ZrN 0 fun _ => ?_; refine Zv Zai ?_) | (refine ZrN 1 fun _ => ?_; refine Zv Zai ?_) | (refine ZrN 2 fun _ => ?_; refine Zv Zai ?_) | (refine WP_cond_true rfl ?_) | (refine WP_cond_false rfl ?_) | (refine Zcd (fun hc => ?_) (fun hc => ?_) <;> (try (exfalso; omega))) | (with_reducible apply WP_skip) | (with_reducible apply WP_block) | (with_reducible apply WP_exit) | (with_reducible apply WP_ret)) | (refine Zhn ?_) | (with_reducible apply QBlock_normal) | (refine Zhx ?_) | (with_reducible apply QBlock_hit) | (refine Zqb ?_) | (with_reducible apply QLoop_exit) | (refine Zhr ?_) | (with_reducible apply QBlock_ret) | (with_reducible apply QLoop_ret))
  refine WP_loop [3, 4, 5, 6, 7, 8, 9, 10, 11] (fun st : Nat × Nat => [(3, .int .i64 (st.2 : Int)), (4, .int .i64 (st.1 : Int))]) (fun _ => L) (fun st => st.1 ≤ n ∧ st.2 = 2 ^ st.1) (fun st => n - st.1) (0, 1) (.cons rfl (.cons rfl .nil)) (Wk.refl _) ⟨Nat.zero_le _, rfl⟩ ?_
  rintro ⟨k, p⟩ j ⟨hk, hp⟩
  dsimp only at hk hp ⊢
  by_cases hlt : k < n
  · have h2 : 2 ^ (k + 1) ≤ 2 ^ 20 := Nat.pow_le_pow_right (by omega) (by omega)
    have h3 : (2 : Nat) ^ (k + 1) = 2 * p := by rw [Nat.pow_succ, hp]; omega
    rw [h3] at h2
    have h5 : p ≤ 1048576 := by omega
    repeat' (first | (refine GiP ?_; first | (refine Znh ?_) | (with_reducible refine Znl ?_)) | (refine GiW ?_; first | (refine Zsq fun K hK => ?_) | (refine ZrN 3 fun _ => ?_; refine Zv Zmi ?_; refine Zv Zmi ?_; refine Zv Zylss ?_) | (refine ZrN 5 fun _ => ?_; refine Zv Zmi ?_; refine Zv Zxmul ?_; refine Zv Zai ?_) | (refine ZrN 4 fun _ => ?_; refine Zv Zmi ?_; refine Zv Zxadd ?_; refine Zv Zai ?_) | (refine WP_cond_true rfl ?_) | (refine WP_cond_false rfl ?_) | (refine Zcd (fun hc => ?_) (fun hc => ?_) <;> (try (exfalso; omega))) | (with_reducible apply WP_skip) | (with_reducible apply WP_block) | (with_reducible apply WP_exit) | (with_reducible apply WP_ret)) | (refine Zhn ?_) | (with_reducible apply QBlock_normal) | (refine Zhx ?_) | (with_reducible apply QBlock_hit) | (refine Zqb ?_) | (with_reducible apply QLoop_exit) | (refine Zhr ?_) | (with_reducible apply QBlock_ret) | (with_reducible apply QLoop_ret))
    exact QLoop_normal (k + 1, 2 * p) (.cons rfl (.cons rfl .nil)) (by repeat (first | exact Off.frame rfl | exact Off.refl _ _ | refine Off.frameT rfl rfl ?_ | refine Off.upd rfl ?_ | refine Off.updO rfl ?_)) (by repeat (first | exact Wk.refl _ | apply Wk.keep1 | apply Wk.drop | apply Wk.sv | apply Wk.svD | apply Wk.appD)) ⟨by dsimp only; omega, h3.symm⟩ (by dsimp only; omega)
  · have : k = n := by omega
    subst this
    repeat' (first | (refine GiP ?_; first | (refine Znh ?_) | (with_reducible refine Znl ?_)) | (refine GiW ?_; first | (refine Zsq fun K hK => ?_) | (refine ZrN 3 fun _ => ?_; refine Zv Zmi ?_; refine Zv Zmi ?_; refine Zv Zylss ?_) | (refine ZrN 6 fun _ => ?_; refine Zv Zmi ?_; refine Zv Zai ?_) | (refine WP_cond_true rfl ?_) | (refine WP_cond_false rfl ?_) | (refine Zcd (fun hc => ?_) (fun hc => ?_) <;> (try (exfalso; omega))) | (with_reducible apply WP_skip) | (with_reducible apply WP_block) | (with_reducible apply WP_exit) | (with_reducible apply WP_ret)) | (refine Zhn ?_) | (with_reducible apply QBlock_normal) | (refine Zhx ?_) | (with_reducible apply QBlock_hit) | (refine Zqb ?_) | (with_reducible apply QLoop_exit) | (refine Zhr ?_) | (with_reducible apply QBlock_ret) | (with_reducible apply QLoop_ret))
    exact QBody_ret1 rfl (rfl : _ = Value.int _ _) ⟨by rw [hp], (by repeat (first | exact Wk.refl _ | apply Wk.keep1 | apply Wk.drop | apply Wk.sv | apply Wk.svD | apply Wk.appD))⟩
theorem has_ret (L : Hp) (s n : Nat) (hs : s ≤ 1000000) (hn : n ≤ 20) : Ret Tryz.prog N w0 L 38 [.int .i64 (s : Int), .int .i64 (n : Int)].toArray (.bool (hasB s n)) := by
  refine Ret.fgt ?_
  refine tri_of_WP Tryz.func38 rfl (n := 11) rfl (by simp) ?_
  have hp := Nat.two_pow_pos n
  obtain ⟨q, hq⟩ : ∃ q, s / 2 ^ n = q := ⟨_, rfl⟩
  obtain ⟨t, ht⟩ : ∃ t, q % 2 = t := ⟨_, rfl⟩
  obtain ⟨bb, hb⟩ : ∃ bb, hasB s n = bb := ⟨_, rfl⟩
  have hb' : bb = decide (t = 1) := by rw [← hb, hasB, hq, ht]
  rw [hb]
  repeat' (first | (refine GiP ?_; first | (refine Znh ?_) | (with_reducible refine Znl ?_)) | (refine GiW ?_; first | (refine Zsq fun K hK => ?_) | (refine ZrN 0 fun _ => ?_; refine Zv Zab ?_) | (refine ZrN 1 fun _ => ?_; refine Zv Zmi ?_; refine Zv Zmi ?_; refine Zcl (Enters_fn rfl) (power_ret N w0 _ n hn) ?_; refine Zv (Val_quoE hq hp hs rfl rfl) ?_; refine Zv (Val_remE2 ht (by omega) rfl rfl) ?_; refine Zv Zxeql ?_; refine Zv Zab ?_) | (with_reducible apply WP_ret)) | (refine Zhn ?_) | (refine Zhr ?_))
  exact QBody_ret1 rfl (rfl : _ = Value.bool _) ⟨by rw [hb', show (((t : Int) == 1) : Bool) = decide (t = 1) by rw [Bool.eq_iff_iff]; simp; omega], (by repeat (first | exact Wk.refl _ | apply Wk.keep1 | apply Wk.drop | apply Wk.sv | apply Wk.svD | apply Wk.appD))⟩
def evD (d : Dr) : Nat := 2 ^ d.ways.length - 1
def alD (d : Dr) : Nat := 2 ^ d.seen.length - 1
theorem every_refR (L : Hp) (g : Fg) (hn : g.d.ways.length ≤ 20) : Ret Tryz.prog N w0 L 37 [drV g].toArray (.int .i64 ((evD g.d : Nat) : Int)) := by
  refine Ret.fgt ?_
  refine tri_of_WP Tryz.func37 rfl (n := 8) rfl (by simp) ?_
  unfold drV drL evD
  have hp := Nat.two_pow_pos g.d.ways.length
  have h2 : 2 ^ g.d.ways.length ≤ 2 ^ 20 := Nat.pow_le_pow_right (by omega) hn
  repeat' (first | (refine GiP ?_; first | (refine Znh ?_) | (with_reducible refine Znl ?_)) | (refine GiW ?_; first | (refine Zsq fun K hK => ?_) | (refine ZrN 0 fun _ => ?_; refine Zal 1 fun b1 => ?_; refine Zv Zai ?_) | (refine ZrN 1 fun _ => ?_; refine Zv Zfa ?_; refine Zv Zld ?_; refine Zv Zxlen ?_; refine Zcl (Enters_fn rfl) (power_ret N w0 _ _ hn) ?_; refine Zv Zxsub ?_; refine Zv Zai ?_) | (with_reducible apply WP_ret)) | (refine Zhn ?_) | (refine Zhr ?_))
  exact QBody_ret1 rfl (rfl : _ = Value.int _ _) ⟨by rw [show ((2 ^ g.d.ways.length - 1 : Nat) : Int) = ((2 ^ g.d.ways.length : Nat) : Int) - 1 by omega], (by repeat (first | exact Wk.refl _ | apply Wk.keep1 | apply Wk.drop | apply Wk.sv | apply Wk.svD | apply Wk.appD))⟩
theorem all_refR (L : Hp) (g : Fg) (hn : g.d.seen.length ≤ 20) : Ret Tryz.prog N w0 L 82 [drV g].toArray (.int .i64 ((alD g.d : Nat) : Int)) := by
  refine Ret.fgt ?_
  refine tri_of_WP Tryz.func82 rfl (n := 8) rfl (by simp) ?_
  unfold drV drL alD
  have hp := Nat.two_pow_pos g.d.seen.length
  have h2 : 2 ^ g.d.seen.length ≤ 2 ^ 20 := Nat.pow_le_pow_right (by omega) hn
  repeat' (first | (refine GiP ?_; first | (refine Znh ?_) | (with_reducible refine Znl ?_)) | (refine GiW ?_; first | (refine Zsq fun K hK => ?_) | (refine ZrN 0 fun _ => ?_; refine Zal 1 fun b1 => ?_; refine Zv Zai ?_) | (refine ZrN 1 fun _ => ?_; refine Zv Zfa ?_; refine Zv Zld ?_; refine Zv Zxlen ?_; refine Zcl (Enters_fn rfl) (power_ret N w0 _ _ hn) ?_; refine Zv Zxsub ?_; refine Zv Zai ?_) | (with_reducible apply WP_ret)) | (refine Zhn ?_) | (refine Zhr ?_))
  exact QBody_ret1 rfl (rfl : _ = Value.int _ _) ⟨by rw [show ((2 ^ g.d.seen.length - 1 : Nat) : Int) = ((2 ^ g.d.seen.length : Nat) : Int) - 1 by omega], (by repeat (first | exact Wk.refl _ | apply Wk.keep1 | apply Wk.drop | apply Wk.sv | apply Wk.svD | apply Wk.appD))⟩
theorem joined_ref (L : Hp) (g : Fg) (hA : DrAt N w0 g) (hnw : g.d.ways.length ≤ 20) (set : Nat) (hs : set ≤ 1000000) (a b : Nat) : Ret Tryz.prog N w0 L 90 [drV g, .int .i64 (set : Int), .int .i64 (a : Int), .int .i64 (b : Int)].toArray (.bool (adj (pickL set g.d.ways 0) a b)) := by
  refine Ret.fgt ?_
  refine tri_of_WP Tryz.func90 rfl (n := _) rfl (by simp) ?_
  unfold drV drL
  repeat' (first | (refine GiP ?_; first | (refine Znh ?_) | (with_reducible refine Znl ?_)) | (refine GiW ?_; first | (refine Zsq fun K hK => ?_) | (refine ZrN 0 fun _ => ?_; refine Zal 4 fun b4 => ?_; refine Zv Zab ?_) | (refine ZrN 1 fun _ => ?_; refine Zv Zai ?_) | (refine WP_cond_true rfl ?_) | (refine WP_cond_false rfl ?_) | (refine Zcd (fun hc => ?_) (fun hc => ?_) <;> (try (exfalso; omega))) | (with_reducible apply WP_skip) | (with_reducible apply WP_block) | (with_reducible apply WP_exit) | (with_reducible apply WP_ret)) | (refine Zhn ?_) | (with_reducible apply QBlock_normal) | (refine Zhx ?_) | (with_reducible apply QBlock_hit) | (refine Zqb ?_) | (with_reducible apply QLoop_exit) | (refine Zhr ?_) | (with_reducible apply QBlock_ret) | (with_reducible apply QLoop_ret))
  refine WP_loop [8, 9, 10, 11, 12, 13, 14, 15, 16, 17, 18, 19, 20, 21, 22, 23, 24, 25, 26, 27, 28, 29, 30, 31, 32, 33, 34, 35, 36, 37, 38, 39, 40, 41, 42, 43, 44, 45, 46, 47, 48, 49] (fun k : Nat => [(9, .int .i64 (k : Int))]) (fun _ => (b4, Blk 26 (drL g)) :: L) (fun k => k ≤ g.d.ways.length ∧ adj (pickL set (g.d.ways.take k) 0) a b = false) (fun k => g.d.ways.length - k) 0 (.cons rfl .nil) (Wk.refl _) ⟨Nat.zero_le _, by simp [pickL, adj]⟩ ?_
  rintro k j ⟨hk, hno⟩
  unfold drL
  by_cases hkl : k < g.d.ways.length
  · obtain ⟨bA, oA, hA1, hbA, hcA⟩ := hA.ways.row k hkl
    have hst := adj_step (set := set) hkl a b
    have hhit := adj_hit (set := set) hkl a b
    rw [hno, Bool.false_or] at hst
    obtain ⟨t, ht⟩ : ∃ t, g.d.ways[k] = t := ⟨_, rfl⟩
    rw [ht] at hcA hst hhit
    obtain ⟨t1, t2⟩ := t
    unfold spL at hcA
    dsimp only at hcA
    have hhas := fun L => has_ret N w0 L set k hs (by omega)
    obtain ⟨u, hu⟩ : ∃ u, hasB set k = u := ⟨_, rfl⟩
    rw [hu] at hhas hst hhit
    cases u with
    | false =>
      repeat' (first | (refine GiP ?_; first | (refine Znh ?_) | (with_reducible refine Znl ?_) | (refine Zatd 49 ?_; (first | (refine Zv Zxpt ?_) | (refine Zv Zxpf ?_))) | (refine Zatd 27 ?_; first | refine Zsk ?_ | (refine Zv Zf0 ?_)) | (refine Zatd 28 ?_; first | refine Zsk ?_ | (refine Zv Zld ?_)) | (refine Zatd 29 ?_; first | refine Zsk ?_ | (refine Zv Zmi ?_)) | (refine Zatd 30 ?_; first | refine Zsk ?_ | (refine Zv Zyeql ?_)) | (refine Zatd 31 ?_; first | refine Zsk ?_ | (refine Zv Zmb ?_)) | (refine Zatd 32 ?_; first | refine Zsk ?_ | (refine Zv Zfa ?_)) | (refine Zatd 33 ?_; first | refine Zsk ?_ | (refine Zv Zld ?_)) | (refine Zatd 34 ?_; first | refine Zsk ?_ | (refine Zv Zmi ?_)) | (refine Zatd 35 ?_; first | refine Zsk ?_ | (refine Zv Zyeql ?_)) | (refine Zatd 36 ?_; first | refine Zsk ?_ | (refine Zv Zxpt ?_) | (refine Zv Zxpf ?_)) | (refine Zatd 37 ?_; first | refine Zsk ?_ | (refine Zv Zmb ?_)) | (refine Zatd 38 ?_; first | refine Zsk ?_ | (refine Zv Zf0 ?_)) | (refine Zatd 39 ?_; first | refine Zsk ?_ | (refine Zv Zld ?_)) | (refine Zatd 40 ?_; first | refine Zsk ?_ | (refine Zv Zmi ?_)) | (refine Zatd 41 ?_; first | refine Zsk ?_ | (refine Zv Zyeql ?_)) | (refine Zatd 42 ?_; first | refine Zsk ?_ | (refine Zv Zmb ?_)) | (refine Zatd 43 ?_; first | refine Zsk ?_ | (refine Zv Zfa ?_)) | (refine Zatd 44 ?_; first | refine Zsk ?_ | (refine Zv Zld ?_)) | (refine Zatd 45 ?_; first | refine Zsk ?_ | (refine Zv Zmi ?_)) | (refine Zatd 46 ?_; first | refine Zsk ?_ | (refine Zv Zyeql ?_)) | (refine Zatd 47 ?_; first | refine Zsk ?_ | (refine Zv Zxpt ?_) | (refine Zv Zxpf ?_)) | (refine Zatd 48 ?_; first | refine Zsk ?_ | (refine Zv Zxpt ?_) | (refine Zv Zxpf ?_)) | (refine Zsk ?_) | (refine Zsp (fun hc => ?_) (fun hc => ?_) <;> (try (exfalso; omega)))) | (refine GiW ?_; first | (refine Zsq fun K hK => ?_) | (refine ZrN 2 fun _ => ?_; refine Zv Zmi ?_; refine Zv Zfa ?_; refine Zv Zld ?_; refine Zv Zxlen ?_; refine Zv Zylss ?_) | (refine ZrN 4 fun _ => ?_; refine Zv Zfa ?_; refine Zv Zld ?_; refine Zv Zmi ?_; refine Zv Zia ?_; refine Zv Zla ?_; refine Zal 10 fun b10 => ?_; refine Zst ?_) | (refine ZrG 5 ?_; refine Zv Zmi ?_; refine Zv Zmi ?_; refine Zcl (Enters_fn rfl) (hhas _) ?_; refine Zv Zmb ?_) | (refine ZrN 3 fun _ => ?_; refine Zv Zmi ?_; refine Zv Zxadd ?_; refine Zv Zai ?_) | (refine WP_cond_true rfl ?_) | (refine WP_cond_false rfl ?_) | (refine Zcd (fun hc => ?_) (fun hc => ?_) <;> (try (exfalso; omega))) | (with_reducible apply WP_skip) | (with_reducible apply WP_block) | (with_reducible apply WP_exit) | (with_reducible apply WP_ret)) | (refine Zhn ?_) | (with_reducible apply QBlock_normal) | (refine Zhx ?_) | (with_reducible apply QBlock_hit) | (refine Zqb ?_) | (with_reducible apply QLoop_exit) | (refine Zhr ?_) | (with_reducible apply QBlock_ret) | (with_reducible apply QLoop_ret))
      exact QLoop_normal (k + 1) (.cons rfl .nil) (by repeat (first | exact Off.frame rfl | exact Off.refl _ _ | refine Off.frameT rfl rfl ?_ | refine Off.upd rfl ?_ | refine Off.updO rfl ?_)) (by repeat (first | exact Wk.refl _ | apply Wk.keep1 | apply Wk.drop | apply Wk.sv | apply Wk.svD | apply Wk.appD)) ⟨by omega, by rw [hst]; rfl⟩ (by omega)
    | true =>
      rw [Bool.true_and] at hst
      have hjb : joinB (t1, t2) a b = decide ((t1 = (a : Int) ∧ t2 = (b : Int)) ∨ (t1 = (b : Int) ∧ t2 = (a : Int))) := by
        unfold joinB; rw [Bool.eq_iff_iff]; simp
      have hhit2 := hhit rfl
      rw [hjb] at hst hhit2
      clear hjb hhit
      by_cases h1 : t1 = (a : Int) <;> by_cases h2 : t2 = (b : Int) <;> by_cases h3 : t1 = (b : Int) <;> by_cases h4 : t2 = (a : Int)
      all_goals
        try (exfalso; omega; done)
        all_goals repeat' (first | (refine GiP ?_; first | (refine Znh ?_) | (with_reducible refine Znl ?_) | (refine Zatd 49 ?_; (first | (refine Zv Zxpt ?_) | (refine Zv Zxpf ?_))) | (refine Zatd 27 ?_; first | refine Zsk ?_ | (refine Zv Zf0 ?_)) | (refine Zatd 28 ?_; first | refine Zsk ?_ | (refine Zv Zld ?_)) | (refine Zatd 29 ?_; first | refine Zsk ?_ | (refine Zv Zmi ?_)) | (refine Zatd 30 ?_; first | refine Zsk ?_ | (refine Zv Zyeql ?_)) | (refine Zatd 31 ?_; first | refine Zsk ?_ | (refine Zv Zmb ?_)) | (refine Zatd 32 ?_; first | refine Zsk ?_ | (refine Zv Zfa ?_)) | (refine Zatd 33 ?_; first | refine Zsk ?_ | (refine Zv Zld ?_)) | (refine Zatd 34 ?_; first | refine Zsk ?_ | (refine Zv Zmi ?_)) | (refine Zatd 35 ?_; first | refine Zsk ?_ | (refine Zv Zyeql ?_)) | (refine Zatd 36 ?_; first | refine Zsk ?_ | (refine Zv Zxpt ?_) | (refine Zv Zxpf ?_)) | (refine Zatd 37 ?_; first | refine Zsk ?_ | (refine Zv Zmb ?_)) | (refine Zatd 38 ?_; first | refine Zsk ?_ | (refine Zv Zf0 ?_)) | (refine Zatd 39 ?_; first | refine Zsk ?_ | (refine Zv Zld ?_)) | (refine Zatd 40 ?_; first | refine Zsk ?_ | (refine Zv Zmi ?_)) | (refine Zatd 41 ?_; first | refine Zsk ?_ | (refine Zv Zyeql ?_)) | (refine Zatd 42 ?_; first | refine Zsk ?_ | (refine Zv Zmb ?_)) | (refine Zatd 43 ?_; first | refine Zsk ?_ | (refine Zv Zfa ?_)) | (refine Zatd 44 ?_; first | refine Zsk ?_ | (refine Zv Zld ?_)) | (refine Zatd 45 ?_; first | refine Zsk ?_ | (refine Zv Zmi ?_)) | (refine Zatd 46 ?_; first | refine Zsk ?_ | (refine Zv Zyeql ?_)) | (refine Zatd 47 ?_; first | refine Zsk ?_ | (refine Zv Zxpt ?_) | (refine Zv Zxpf ?_)) | (refine Zatd 48 ?_; first | refine Zsk ?_ | (refine Zv Zxpt ?_) | (refine Zv Zxpf ?_)) | (refine Zsk ?_) | (refine Zsp (fun hc => ?_) (fun hc => ?_) <;> (try (exfalso; omega)))) | (refine GiW ?_; first | (refine Zsq fun K hK => ?_) | (refine ZrN 2 fun _ => ?_; refine Zv Zmi ?_; refine Zv Zfa ?_; refine Zv Zld ?_; refine Zv Zxlen ?_; refine Zv Zylss ?_) | (refine ZrN 4 fun _ => ?_; refine Zv Zfa ?_; refine Zv Zld ?_; refine Zv Zmi ?_; refine Zv Zia ?_; refine Zv Zla ?_; refine Zal 10 fun b10 => ?_; refine Zst ?_) | (refine ZrG 5 ?_; refine Zv Zmi ?_; refine Zv Zmi ?_; refine Zcl (Enters_fn rfl) (hhas _) ?_; refine Zv Zmb ?_) | (refine ZrN 6 fun _ => ?_; refine Zv Zab ?_) | (refine ZrN 3 fun _ => ?_; refine Zv Zmi ?_; refine Zv Zxadd ?_; refine Zv Zai ?_) | (refine WP_cond_true rfl ?_) | (refine WP_cond_false rfl ?_) | (refine Zcd (fun hc => ?_) (fun hc => ?_) <;> (try (exfalso; omega))) | (with_reducible apply WP_skip) | (with_reducible apply WP_block) | (with_reducible apply WP_exit) | (with_reducible apply WP_ret)) | (refine Zhn ?_) | (with_reducible apply QBlock_normal) | (refine Zhx ?_) | (with_reducible apply QBlock_hit) | (refine Zqb ?_) | (with_reducible apply QLoop_exit) | (refine Zhr ?_) | (with_reducible apply QBlock_ret) | (with_reducible apply QLoop_ret))
        all_goals first
        | exact QBody_ret1 rfl (rfl : _ = Value.bool true) ⟨by rw [hhit2 (decide_eq_true (by omega))], (by repeat (first | exact Wk.refl _ | apply Wk.keep1 | apply Wk.drop | apply Wk.sv | apply Wk.svD | apply Wk.appD))⟩
        | exact QLoop_normal (k + 1) (.cons rfl .nil) (by repeat (first | exact Off.frame rfl | exact Off.refl _ _ | refine Off.frameT rfl rfl ?_ | refine Off.upd rfl ?_ | refine Off.updO rfl ?_)) (by repeat (first | exact Wk.refl _ | apply Wk.keep1 | apply Wk.drop | apply Wk.sv | apply Wk.svD | apply Wk.appD)) ⟨by omega, by rw [hst]; exact decide_eq_false (by omega)⟩ (by omega)
  · have hke : k = g.d.ways.length := by omega
    rw [hke, List.take_length] at hno
    repeat' (first | (refine GiP ?_; first | (refine Znh ?_) | (with_reducible refine Znl ?_)) | (refine GiW ?_; first | (refine Zsq fun K hK => ?_) | (refine ZrN 2 fun _ => ?_; refine Zv Zmi ?_; refine Zv Zfa ?_; refine Zv Zld ?_; refine Zv Zxlen ?_; refine Zv Zylss ?_) | (refine ZrN 7 fun _ => ?_; refine Zv Zab ?_) | (refine WP_cond_true rfl ?_) | (refine WP_cond_false rfl ?_) | (refine Zcd (fun hc => ?_) (fun hc => ?_) <;> (try (exfalso; omega))) | (with_reducible apply WP_skip) | (with_reducible apply WP_block) | (with_reducible apply WP_exit) | (with_reducible apply WP_ret)) | (refine Zhn ?_) | (with_reducible apply QBlock_normal) | (refine Zhx ?_) | (with_reducible apply QBlock_hit) | (refine Zqb ?_) | (with_reducible apply QLoop_exit) | (refine Zhr ?_) | (with_reducible apply QBlock_ret) | (with_reducible apply QLoop_ret))
    exact QBody_ret1 rfl (rfl : _ = Value.bool _) ⟨by rw [hno], (by repeat (first | exact Wk.refl _ | apply Wk.keep1 | apply Wk.drop | apply Wk.sv | apply Wk.svD | apply Wk.appD))⟩
set_option maxHeartbeats 4000000 in
theorem next_ref (L : Hp) (g : Fg) (hA : DrAt N w0 g) (hv : VD g.d) (lv : List Int) (hl : lv.length = g.d.banks.length) (A : Option Addr) (c : Nat) (hrd : RdI N w0 L A lv) (set : Nat) (hs : set ≤ 1000000) (x : Nat) (hx : x < g.d.banks.length) :
    Ret Tryz.prog N w0 L 36 [drV g, .slice A g.d.banks.length c, .int .i64 (set : Int), .int .i64 (x : Int)].toArray (.int .i64 (((nxt (pickL set g.d.ways 0) lv x).getD g.d.banks.length : Nat) : Int)) := by
  have hnb := hv.nb
  have hnw := hv.nw
  have hjo := fun L b => joined_ref N w0 L g hA (by omega) set hs x b
  obtain ⟨bA, oA, rfl⟩ := hrd.opn (by omega)
  obtain ⟨n, hn⟩ : ∃ n, g.d.banks.length = n := ⟨_, rfl⟩
  have hra : ∀ L', Sub L L' → ∀ i, i < n → Rd N w0 L' bA (oA + i) (.int .i64 (lvl lv i)) := fun L' hL i hi => (hrd.wk hL).at_ (by omega)
  have hlx : ∀ L', Sub L L' → Rd N w0 L' bA (oA + x) (.int .i64 (lvl lv x)) := fun L' hL => hra L' hL x (by omega)
  obtain ⟨ws, hws⟩ : ∃ ws, pickL set g.d.ways 0 = ws := ⟨_, rfl⟩
  rw [hws] at hjo ⊢
  unfold nxt
  rw [hl]
  unfold drV drL at hjo ⊢
  rw [hn] at hjo hnb hl hx ⊢
  refine Ret.fgt ?_
  refine tri_of_WP Tryz.func36 rfl (n := _) rfl (by simp) ?_
  repeat' (first | (refine GiP ?_; first | (refine Znh ?_) | (with_reducible refine Znl ?_)) | (refine GiW ?_; first | (refine Zsq fun K hK => ?_) | (refine ZrN 0 fun _ => ?_; refine Zal 4 fun b4 => ?_; refine Zv Zai ?_) | (refine ZrN 1 fun _ => ?_; refine Zv Zf0 ?_; refine Zv Zld ?_; refine Zv Zxlen ?_; refine Zv Zai ?_) | (refine ZrN 2 fun _ => ?_; refine Zv Zai ?_) | (refine WP_cond_true rfl ?_) | (refine WP_cond_false rfl ?_) | (refine Zcd (fun hc => ?_) (fun hc => ?_) <;> (try (exfalso; omega))) | (with_reducible apply WP_skip) | (with_reducible apply WP_block) | (with_reducible apply WP_exit) | (with_reducible apply WP_ret)) | (refine Zhn ?_) | (with_reducible apply QBlock_normal) | (refine Zhx ?_) | (with_reducible apply QBlock_hit) | (refine Zqb ?_) | (with_reducible apply QLoop_exit) | (refine Zhr ?_) | (with_reducible apply QBlock_ret) | (with_reducible apply QLoop_ret))
  refine WP_loop [9, 10, 14, 15, 16, 17, 18, 19, 20, 21, 22, 23, 24, 25, 26, 27, 28, 29, 30, 31, 32, 33, 34, 35, 36, 37, 38, 39, 40, 41, 42, 43, 44, 45, 46, 47, 48, 49, 50, 51, 52, 53, 54, 55] (fun q : Nat × Option Nat => [(9, .int .i64 ((q.2.getD n : Nat) : Int)), (10, .int .i64 (q.1 : Int))]) (fun _ => (b4, Blk 26 [.slice g.A1 n g.c1, .slice g.A2 g.d.ways.length g.c2, .slice g.A3 g.d.rights.length g.c3, .slice g.A4 g.d.seen.length g.c4]) :: L) (fun q => q.1 ≤ n ∧ q.2 = nxtF ws lv x q.1) (fun q => n - q.1) (0, none) (.cons rfl (.cons rfl .nil)) (Wk.refl _) ⟨Nat.zero_le _, rfl⟩ ?_
  rintro ⟨k, o⟩ j ⟨hk, ho⟩
  dsimp only at hk ho ⊢
  by_cases hkn : k < n
  · have hjk := fun L => hjo L k
    have hlk : ∀ L', Sub L L' → Rd N w0 L' bA (oA + k) (.int .i64 (lvl lv k)) := fun L' hL => hra L' hL k hkn
    have hst := nxtF_succ ws lv x k
    rw [← ho] at hst
    unfold stepN at hst
    have hbo := nxtF_best ws lv x k
    rw [← ho] at hbo
    obtain ⟨jb, hjb⟩ : ∃ jb, adj ws x k = jb := ⟨_, rfl⟩
    rw [hjb] at hjk hst
    obtain ⟨lx, hlx9⟩ : ∃ z, lvl lv x = z := ⟨_, rfl⟩
    obtain ⟨lk, hlk9⟩ : ∃ z, lvl lv k = z := ⟨_, rfl⟩
    have hD : (jb = false ∧ nxtF ws lv x (k + 1) = o) ∨ (jb = true ∧ ¬ lk < lx ∧ nxtF ws lv x (k + 1) = o) ∨ (jb = true ∧ lk < lx ∧ o = none ∧ nxtF ws lv x (k + 1) = some k) ∨
        (∃ c, jb = true ∧ lk < lx ∧ o = some c ∧ c < n ∧ ((lk < lvl lv c ∧ nxtF ws lv x (k + 1) = some k) ∨ (¬ lk < lvl lv c ∧ nxtF ws lv x (k + 1) = some c))) := by
      rw [hlx9, hlk9] at hst
      cases jb with
      | false => left; exact ⟨rfl, by rw [hst]; rfl⟩
      | true =>
        right
        by_cases h1 : lk < lx
        · right
          rw [decide_eq_true h1] at hst
          cases o with
          | none => left; exact ⟨rfl, h1, rfl, by rw [hst]; rfl⟩
          | some c =>
            right
            have hbt : betB lv (some c) k = decide (lvl lv k < lvl lv c) := rfl
            rw [hbt, hlk9] at hst
            refine ⟨c, rfl, h1, rfl, by have := hbo.1; omega, ?_⟩
            by_cases h2 : lk < lvl lv c
            · left; exact ⟨h2, by rw [hst, decide_eq_true h2]; rfl⟩
            · right; exact ⟨h2, by rw [hst, decide_eq_false h2]; rfl⟩
        · left; exact ⟨rfl, h1, by rw [hst, decide_eq_false h1]; rfl⟩
    rw [hlx9] at hlx
    rw [hlk9] at hlk
    clear hst hbo
    rcases hD with ⟨rfl, h1⟩ | ⟨rfl, h8, h1⟩ | ⟨rfl, h8, rfl, h1⟩ | ⟨c, rfl, h8, rfl, h9, ⟨h10, h1⟩ | ⟨h10, h1⟩⟩
    all_goals
      try have hlc : ∀ L', Sub L L' → Rd N w0 L' bA (oA + c) (.int .i64 (lvl lv c)) := fun L' hL => hra L' hL c (by omega)
      try dsimp only [Option.getD_some, Option.getD_none]
      repeat' (first | (refine GiP ?_; first | (refine Znh ?_) | (with_reducible refine Znl ?_)) | (refine GiW ?_; first | (refine Zsq fun K hK => ?_) | (refine ZrN 3 fun _ => ?_; refine Zv Zmi ?_; refine Zv Zf0 ?_; (first | (refine Zv (Val_loadD1 rfl (hlk _ (by repeat (first | exact Sub.refl _ | assumption | exact Sub.left | apply Sub.cons | apply Sub.sv | apply Sub.app)))) ?_) | (refine Zv (Val_loadD1 rfl (hlx _ (by repeat (first | exact Sub.refl _ | assumption | exact Sub.left | apply Sub.cons | apply Sub.sv | apply Sub.app)))) ?_) | (refine Zv (Val_loadD1 rfl (hlc _ (by repeat (first | exact Sub.refl _ | assumption | exact Sub.left | apply Sub.cons | apply Sub.sv | apply Sub.app)))) ?_) | (refine Zv Zld ?_)); refine Zv Zxlen ?_; refine Zv Zylss ?_) | (refine ZrN 6 fun _ => ?_; refine Zv Zmi ?_; refine Zv Zai ?_) | (refine ZrN 4 fun _ => ?_; refine Zv Zmi ?_; refine Zv Zxadd ?_; refine Zv Zai ?_) | (refine WP_cond_true rfl ?_) | (refine WP_cond_false rfl ?_) | (refine Zcd (fun hc => ?_) (fun hc => ?_) <;> (try (exfalso; omega))) | (with_reducible apply WP_skip) | (with_reducible apply WP_block) | (with_reducible apply WP_exit) | (with_reducible apply WP_ret) | (refine WP_drawn (id := 5) [0, 1, 2, 3, 4, 5, 6, 7, 8, 9, 10, 11, 12, 13, 14, 15, 16, 17, 18, 19, 20, 21, 22, 23, 24, 25, 26, 27, 28, 29, 30, 31, 32, 33] [] (k := 0) prog_mixed (by kernel_rfl) rfl ?_; (first | (refine Zew rfl (Val_loadD1 rfl (hlk _ (by repeat (first | exact Sub.refl _ | assumption | exact Sub.left | apply Sub.cons | apply Sub.sv | apply Sub.app)))) ?_) | (refine Zew rfl (Val_loadD1 rfl (hlx _ (by repeat (first | exact Sub.refl _ | assumption | exact Sub.left | apply Sub.cons | apply Sub.sv | apply Sub.app)))) ?_) | (refine Zew rfl (Val_loadD1 rfl (hlc _ (by repeat (first | exact Sub.refl _ | assumption | exact Sub.left | apply Sub.cons | apply Sub.sv | apply Sub.app)))) ?_) | (refine Zew rfl Zla ?_)); refine Zew rfl Zmi ?_; refine Zew rfl Zmi ?_; refine Zew rfl Zmi ?_; refine Zec rfl (Enters_fn rfl) (fun X => hjk _) ?_; refine Zew rfl Zmb ?_)) | (refine GiE ?_; first | (refine Zati 15 ?_; (first | (refine Zew rfl Zxpt ?_) | (refine Zew rfl Zxpf ?_)); refine Zew rfl Zmb ?_) | (refine Zati 33 ?_; (first | (refine Zew rfl Zxpt ?_) | (refine Zew rfl Zxpf ?_))) | (refine Zati 6 ?_; first | refine Zes ?_ | (refine Zew rfl Zmv ?_)) | (refine Zati 7 ?_; first | refine Zes ?_ | (refine Zew rfl Zmi ?_)) | (refine Zati 8 ?_; first | refine Zes ?_ | (refine Zew rfl Zia ?_)) | (refine Zati 9 ?_; first | refine Zes ?_ | (refine Zew rfl (Val_loadD1 rfl (hlk _ (by repeat (first | exact Sub.refl _ | assumption | exact Sub.left | apply Sub.cons | apply Sub.sv | apply Sub.app)))) ?_) | (refine Zew rfl (Val_loadD1 rfl (hlx _ (by repeat (first | exact Sub.refl _ | assumption | exact Sub.left | apply Sub.cons | apply Sub.sv | apply Sub.app)))) ?_) | (refine Zew rfl (Val_loadD1 rfl (hlc _ (by repeat (first | exact Sub.refl _ | assumption | exact Sub.left | apply Sub.cons | apply Sub.sv | apply Sub.app)))) ?_) | (refine Zew rfl Zld ?_)) | (refine Zati 10 ?_; first | refine Zes ?_ | (refine Zew rfl Zmv ?_)) | (refine Zati 11 ?_; first | refine Zes ?_ | (refine Zew rfl Zmi ?_)) | (refine Zati 12 ?_; first | refine Zes ?_ | (refine Zew rfl Zia ?_)) | (refine Zati 13 ?_; first | refine Zes ?_ | (refine Zew rfl (Val_loadD1 rfl (hlk _ (by repeat (first | exact Sub.refl _ | assumption | exact Sub.left | apply Sub.cons | apply Sub.sv | apply Sub.app)))) ?_) | (refine Zew rfl (Val_loadD1 rfl (hlx _ (by repeat (first | exact Sub.refl _ | assumption | exact Sub.left | apply Sub.cons | apply Sub.sv | apply Sub.app)))) ?_) | (refine Zew rfl (Val_loadD1 rfl (hlc _ (by repeat (first | exact Sub.refl _ | assumption | exact Sub.left | apply Sub.cons | apply Sub.sv | apply Sub.app)))) ?_) | (refine Zew rfl Zld ?_)) | (refine Zati 14 ?_; first | refine Zes ?_ | (refine Zew rfl Zylss ?_)) | (refine Zati 17 ?_; first | refine Zes ?_ | (refine Zew rfl Zmi ?_)) | (refine Zati 18 ?_; first | refine Zes ?_ | (refine Zew rfl Zf0 ?_)) | (refine Zati 19 ?_; first | refine Zes ?_ | (refine Zew rfl (Val_loadD1 rfl (hlk _ (by repeat (first | exact Sub.refl _ | assumption | exact Sub.left | apply Sub.cons | apply Sub.sv | apply Sub.app)))) ?_) | (refine Zew rfl (Val_loadD1 rfl (hlx _ (by repeat (first | exact Sub.refl _ | assumption | exact Sub.left | apply Sub.cons | apply Sub.sv | apply Sub.app)))) ?_) | (refine Zew rfl (Val_loadD1 rfl (hlc _ (by repeat (first | exact Sub.refl _ | assumption | exact Sub.left | apply Sub.cons | apply Sub.sv | apply Sub.app)))) ?_) | (refine Zew rfl Zld ?_)) | (refine Zati 20 ?_; first | refine Zes ?_ | (refine Zew rfl Zxlen ?_)) | (refine Zati 21 ?_; first | refine Zes ?_ | (refine Zew rfl Zyeql ?_)) | (refine Zati 22 ?_; first | refine Zes ?_ | (refine Zew rfl Zmb ?_)) | (refine Zati 23 ?_; first | refine Zes ?_ | (refine Zew rfl Zmv ?_)) | (refine Zati 24 ?_; first | refine Zes ?_ | (refine Zew rfl Zmi ?_)) | (refine Zati 25 ?_; first | refine Zes ?_ | (refine Zew rfl Zia ?_)) | (refine Zati 26 ?_; first | refine Zes ?_ | (refine Zew rfl (Val_loadD1 rfl (hlk _ (by repeat (first | exact Sub.refl _ | assumption | exact Sub.left | apply Sub.cons | apply Sub.sv | apply Sub.app)))) ?_) | (refine Zew rfl (Val_loadD1 rfl (hlx _ (by repeat (first | exact Sub.refl _ | assumption | exact Sub.left | apply Sub.cons | apply Sub.sv | apply Sub.app)))) ?_) | (refine Zew rfl (Val_loadD1 rfl (hlc _ (by repeat (first | exact Sub.refl _ | assumption | exact Sub.left | apply Sub.cons | apply Sub.sv | apply Sub.app)))) ?_) | (refine Zew rfl Zld ?_)) | (refine Zati 27 ?_; first | refine Zes ?_ | (refine Zew rfl Zmv ?_)) | (refine Zati 28 ?_; first | refine Zes ?_ | (refine Zew rfl Zmi ?_)) | (refine Zati 29 ?_; first | refine Zes ?_ | (refine Zew rfl Zia ?_)) | (refine Zati 30 ?_; first | refine Zes ?_ | (refine Zew rfl (Val_loadD1 rfl (hlk _ (by repeat (first | exact Sub.refl _ | assumption | exact Sub.left | apply Sub.cons | apply Sub.sv | apply Sub.app)))) ?_) | (refine Zew rfl (Val_loadD1 rfl (hlx _ (by repeat (first | exact Sub.refl _ | assumption | exact Sub.left | apply Sub.cons | apply Sub.sv | apply Sub.app)))) ?_) | (refine Zew rfl (Val_loadD1 rfl (hlc _ (by repeat (first | exact Sub.refl _ | assumption | exact Sub.left | apply Sub.cons | apply Sub.sv | apply Sub.app)))) ?_) | (refine Zew rfl Zld ?_)) | (refine Zati 31 ?_; first | refine Zes ?_ | (refine Zew rfl Zylss ?_)) | (refine Zati 32 ?_; first | refine Zes ?_ | (refine Zew rfl Zxpt ?_) | (refine Zew rfl Zxpf ?_)) | (refine Zes ?_) | (refine Zesp (fun hc => ?_) (fun hc => ?_) <;> (try (exfalso; omega))) | (with_reducible apply EWalk_nil)) | (refine AnyO_done (by kernel_rfl) ?_; (try with_reducible apply noP_normal); try with_reducible exact key.out) | (refine Zhn ?_) | (with_reducible apply QBlock_normal) | (refine Zhx ?_) | (with_reducible apply QBlock_hit) | (refine Zqb ?_) | (with_reducible apply QLoop_exit) | (refine Zhr ?_) | (with_reducible apply QBlock_ret) | (with_reducible apply QLoop_ret) | (refine AWalk_0 ?_; refine ZisO ?_) | (with_reducible apply QAny_normal))
      all_goals first
      | exact QLoop_normal (k + 1, o) (.cons rfl (.cons rfl .nil)) (by repeat (first | exact Off.frame rfl | exact Off.refl _ _ | refine Off.frameT rfl rfl ?_ | refine Off.upd rfl ?_ | refine Off.updO rfl ?_)) (by repeat (first | exact Wk.refl _ | apply Wk.keep1 | apply Wk.drop | apply Wk.sv | apply Wk.svD | apply Wk.appD)) ⟨by dsimp only; omega, h1.symm⟩ (by dsimp only; omega)
      | exact QLoop_normal (k + 1, none) (.cons rfl (.cons rfl .nil)) (by repeat (first | exact Off.frame rfl | exact Off.refl _ _ | refine Off.frameT rfl rfl ?_ | refine Off.upd rfl ?_ | refine Off.updO rfl ?_)) (by repeat (first | exact Wk.refl _ | apply Wk.keep1 | apply Wk.drop | apply Wk.sv | apply Wk.svD | apply Wk.appD)) ⟨by dsimp only; omega, h1.symm⟩ (by dsimp only; omega)
      | exact QLoop_normal (k + 1, some k) (.cons rfl (.cons rfl .nil)) (by repeat (first | exact Off.frame rfl | exact Off.refl _ _ | refine Off.frameT rfl rfl ?_ | refine Off.upd rfl ?_ | refine Off.updO rfl ?_)) (by repeat (first | exact Wk.refl _ | apply Wk.keep1 | apply Wk.drop | apply Wk.sv | apply Wk.svD | apply Wk.appD)) ⟨by dsimp only; omega, h1.symm⟩ (by dsimp only; omega)
      | exact QLoop_normal (k + 1, some c) (.cons rfl (.cons rfl .nil)) (by repeat (first | exact Off.frame rfl | exact Off.refl _ _ | refine Off.frameT rfl rfl ?_ | refine Off.upd rfl ?_ | refine Off.updO rfl ?_)) (by repeat (first | exact Wk.refl _ | apply Wk.keep1 | apply Wk.drop | apply Wk.sv | apply Wk.svD | apply Wk.appD)) ⟨by dsimp only; omega, h1.symm⟩ (by dsimp only; omega)
  · have hkn2 : k = n := by omega
    rw [hkn2] at ho
    repeat' (first | (refine GiP ?_; first | (refine Znh ?_) | (with_reducible refine Znl ?_)) | (refine GiW ?_; first | (refine Zsq fun K hK => ?_) | (refine ZrN 3 fun _ => ?_; refine Zv Zmi ?_; refine Zv Zf0 ?_; refine Zv Zld ?_; refine Zv Zxlen ?_; refine Zv Zylss ?_) | (refine ZrN 7 fun _ => ?_; refine Zv Zmi ?_; refine Zv Zai ?_) | (refine WP_cond_true rfl ?_) | (refine WP_cond_false rfl ?_) | (refine Zcd (fun hc => ?_) (fun hc => ?_) <;> (try (exfalso; omega))) | (with_reducible apply WP_skip) | (with_reducible apply WP_block) | (with_reducible apply WP_exit) | (with_reducible apply WP_ret)) | (refine Zhn ?_) | (with_reducible apply QBlock_normal) | (refine Zhx ?_) | (with_reducible apply QBlock_hit) | (refine Zqb ?_) | (with_reducible apply QLoop_exit) | (refine Zhr ?_) | (with_reducible apply QBlock_ret) | (with_reducible apply QLoop_ret))
    exact QBody_ret1 rfl (rfl : _ = Value.int _ _) ⟨by rw [ho], (by repeat (first | exact Wk.refl _ | apply Wk.keep1 | apply Wk.drop | apply Wk.sv | apply Wk.svD | apply Wk.appD))⟩
end
end Go.Proofs.YtbhgpnbfdjoglaaGreat
end

section
namespace Go.Proofs.YtbhgpnbfdjoglaaGreat
open Go.RowKit
theorem pickL_every {α : Type} {x : Nat} : ∀ (l : List α) (k : Nat), (∀ j, j < l.length → x / 2 ^ (k + j) % 2 = 1) → pickL x l k = l
  | [], _, _ => rfl
  | a :: l, k, h => by
    unfold pickL
    rw [if_pos (by have := h 0 (by simp); simpa using this), pickL_every l (k + 1) fun j hj => by
      have := h (j + 1) (by simpa using hj)
      rw [show k + 1 + j = k + (j + 1) by omega]; exact this]
theorem ways_every {d : Dr} (h : d.ways.length < 8) : pickL (evD d) d.ways 0 = d.ways := pickL_every _ _ fun j hj => by rw [Nat.zero_add]; exact evL_bit _ h j hj
def rgB (d : Dr) (lv : List Int) (w : Sp) : Bool := codeO (nxt d.ways lv w.1.toNat) == w.2
theorem right_only (d : Dr) (set : Nat) (lv : List Int) : rightB (onlyD d set) lv = (pickL set d.seen 0).all (rgB d lv) := rfl
theorem right_step {set : Nat} {l : List Sp} {p : Sp → Bool} {k : Nat} (hk : k < l.length) : (pickL set (l.take (k + 1)) 0).all p = ((pickL set (l.take k) 0).all p && (!hasB set k || p l[k])) := by
  rw [List.take_succ_eq_append_getElem hk, pickL_snoc, List.length_take, Nat.min_eq_left (Nat.le_of_lt hk), Nat.zero_add]
  unfold hasB
  rw [List.all_append]
  by_cases h : set / 2 ^ k % 2 = 1
  · rw [if_pos h, decide_eq_true h]; simp
  · rw [if_neg h, decide_eq_false h]; simp
theorem right_hit {set : Nat} {l : List Sp} {p : Sp → Bool} {k : Nat} (hk : k < l.length) (h1 : hasB set k = true) (h2 : p l[k] = false) : (pickL set l 0).all p = false := by
  rw [List.all_eq_false]
  refine ⟨l[k], pickL_mem.2 ⟨k, List.getElem?_eq_getElem hk, ?_⟩, by simp [h2]⟩
  rw [Nat.zero_add]; exact of_decide_eq_true h1
def mmL (l : List Sp) (k : Nat) : Sp := (l.take k).foldl (fun s x => (min s.1 x.1, max s.2 x.2)) (l.getD 0 (0, 0))
theorem mmL_zero (l : List Sp) : mmL l 0 = l.getD 0 (0, 0) := rfl
theorem mmL_succ {l : List Sp} {k : Nat} (hk : k < l.length) : mmL l (k + 1) = (min (mmL l k).1 l[k].1, max (mmL l k).2 l[k].2) := by
  unfold mmL
  rw [List.take_succ_eq_append_getElem hk, List.foldl_append]; rfl
theorem mmL_all {l : List Sp} (h : l ≠ []) : mmL l l.length = jn l := by
  unfold mmL
  rw [List.take_length]
  cases l with
  | nil => exact absurd rfl h
  | cons x l =>
    show List.foldl _ (min x.1 x.1, max x.2 x.2) l = _
    rw [show (min x.1 x.1, max x.2 x.2) = x by ext <;> dsimp only <;> omega]
    rfl
theorem mmL_bd {l : List Sp} {B : Int} (hb : ∀ x ∈ l, -B ≤ x.1 ∧ x.1 ≤ B ∧ -B ≤ x.2 ∧ x.2 ≤ B) (h0 : 0 < l.length) : ∀ k, k ≤ l.length → -B ≤ (mmL l k).1 ∧ (mmL l k).1 ≤ B ∧ -B ≤ (mmL l k).2 ∧ (mmL l k).2 ≤ B
  | 0, _ => by
    rw [mmL_zero, List.getD_eq_getElem?_getD, List.getElem?_eq_getElem h0]
    exact hb _ (List.getElem_mem h0)
  | k + 1, h => by
    have h1 := mmL_bd hb h0 k (by omega)
    have h2 := hb _ (List.getElem_mem (show k < l.length by omega))
    rw [mmL_succ (by omega)]
    dsimp only
    omega
attribute [local irreducible] AnyO AnyB QAny QB EWalk AWalk Ev WP OPS QThen QBlock QScope QLoop QBody Val New Turn Tri Enters PostA Blk Ro
attribute [local irreducible] AnyC QC
section
variable (N : Nat) (w0 : World)
set_option maxHeartbeats 2000000 in
theorem right_ref (L : Hp) (g : Fg) (hA : DrAt N w0 g) (hv : VD g.d) (lv : List Int) (hl : lv.length = g.d.banks.length) (A : Option Addr) (c : Nat) (hrd : RdI N w0 L A lv) (set : Nat) (hs : set ≤ 1000000) :
    Ret Tryz.prog N w0 L 102 [drV g, .slice A g.d.banks.length c, .int .i64 (set : Int)].toArray (.bool (rightB (onlyD g.d set) lv)) := by
  have hnb := hv.nb
  have hns := hv.ns
  have hnw := hv.nw
  have hev := fun L => every_refR N w0 L g (by omega)
  have hp7 : 2 ^ g.d.ways.length ≤ 2 ^ 7 := Nat.pow_le_pow_right (by omega) hnw
  have hel : evD g.d ≤ 1000000 := by unfold evD; omega
  have hnx := fun L h x hx => next_ref N w0 L g hA hv lv hl A c h (evD g.d) hel x hx
  rw [ways_every (by omega)] at hnx
  rw [right_only]
  obtain ⟨n, hn⟩ : ∃ n, g.d.banks.length = n := ⟨_, rfl⟩
  unfold drV drL at hev hnx ⊢
  rw [hn] at hev hnx hnb hl ⊢
  obtain ⟨ed, hed⟩ : ∃ ed, evD g.d = ed := ⟨_, rfl⟩
  rw [hed] at hev hnx
  refine Ret.fgt ?_
  refine tri_of_WP Tryz.func102 rfl (n := _) rfl (by simp) ?_
  repeat' (first | (refine Znh ?_) | (refine GiW ?_; first | (refine Zsq fun K hK => ?_) | (refine ZrN 0 fun _ => ?_; refine Zal 3 fun b3 => ?_; refine Zv Zab ?_) | (refine ZrN 1 fun _ => ?_; refine Zv Zai ?_) | (with_reducible apply WP_block)))
  refine WP_loop [6, 7, 8, 9, 10, 11, 12, 13, 14, 15, 16, 17, 18, 19, 20, 21, 22, 23, 24, 25, 26, 27, 28, 29, 30, 31, 32, 33, 34, 35, 36, 37] (fun k : Nat => [(7, .int .i64 (k : Int))]) (fun _ => (b3, Blk 26 [.slice g.A1 n g.c1, .slice g.A2 g.d.ways.length g.c2, .slice g.A3 g.d.rights.length g.c3, .slice g.A4 g.d.seen.length g.c4]) :: L) (fun k => k ≤ g.d.seen.length ∧ (pickL set (g.d.seen.take k) 0).all (rgB g.d lv) = true) (fun k => g.d.seen.length - k) 0 (.cons rfl .nil) (Wk.refl _) ⟨Nat.zero_le _, by simp [pickL]⟩ ?_
  rintro k j ⟨hk, hno⟩
  by_cases hkl : k < g.d.seen.length
  · obtain ⟨bA, oA, hA1, hbA, hcA⟩ := hA.seen.row k hkl
    have hst := right_step (set := set) (p := rgB g.d lv) hkl
    have hhit := right_hit (set := set) (p := rgB g.d lv) hkl
    rw [hno, Bool.true_and] at hst
    obtain ⟨t, ht⟩ : ∃ t, g.d.seen[k] = t := ⟨_, rfl⟩
    have htw := hv.se t (by rw [← ht]; exact List.getElem_mem hkl)
    rw [ht] at hcA hst hhit
    rw [hn] at htw
    obtain ⟨t1, t2⟩ := t
    unfold spL at hcA
    dsimp only at hcA htw
    obtain ⟨x1, rfl⟩ : ∃ x : Nat, t1 = x := ⟨t1.toNat, by omega⟩
    obtain ⟨x2, rfl⟩ : ∃ x : Nat, t2 = x := ⟨t2.toNat, by omega⟩
    have hhas := fun L => has_ret N w0 L set k hs (by omega)
    have c0 : w0.cell? ⟨bA, oA + k * 2, none⟩ = some (.int .i64 (x1 : Int)) := RoAt hcA 0 _ rfl
    have c1 : w0.cell? ⟨bA, oA + k * 2 + 1, none⟩ = some (.int .i64 (x2 : Int)) := RoAt hcA 1 _ rfl
    obtain ⟨u, hu⟩ : ∃ u, hasB set k = u := ⟨_, rfl⟩
    rw [hu] at hhas hst hhit
    have hn1 := fun L h => hnx L h x1 (by omega)
    cases u with
    | false =>
      repeat' (first | (refine GiP ?_; first | (refine Znh ?_) | (with_reducible refine Znl ?_)) | (refine GiW ?_; first | (refine Zsq fun K hK => ?_) | (refine ZrN 2 fun _ => ?_; refine Zv Zmi ?_; refine Zv Zfa ?_; refine Zv Zld ?_; refine Zv Zxlen ?_; refine Zv Zylss ?_) | (refine ZrN 3 fun _ => ?_; refine Zv Zmi ?_; refine Zv Zxadd ?_; refine Zv Zai ?_) | (refine WP_cond_true rfl ?_) | (refine WP_cond_false rfl ?_) | (with_reducible apply WP_skip) | (with_reducible apply WP_block) | (refine WP_drawn (id := 4) [0, 1, 2, 3, 4, 5, 6, 7, 8, 9, 10, 11, 12, 13, 14, 15, 16, 17, 18, 19, 20, 21, 22] [] (k := 0) prog_mixed (by kernel_rfl) rfl ?_; refine Zew rfl Zmi ?_; refine Zew rfl Zmi ?_; refine Zec rfl (Enters_fn rfl) (fun X => hhas _) ?_; refine Zew rfl Zmb ?_)) | (refine GiE ?_; first | (refine Zati 22 ?_; (first | (refine Zew rfl Zxpt ?_) | (refine Zew rfl Zxpf ?_))) | (refine Zati 4 ?_; first | refine Zes ?_ | (refine Zew rfl Zla ?_)) | (refine Zati 5 ?_; first | refine Zes ?_ | (refine Zew rfl Zmv ?_)) | (refine Zati 6 ?_; first | refine Zes ?_ | (refine Zew rfl Zla ?_)) | (refine Zati 8 ?_; first | refine Zes ?_ | (refine Zew rfl Zfa ?_)) | (refine Zati 9 ?_; first | refine Zes ?_ | (refine Zew rfl Zld ?_)) | (refine Zati 10 ?_; first | refine Zes ?_ | (refine Zew rfl Zmi ?_)) | (refine Zati 11 ?_; first | refine Zes ?_ | (refine Zew rfl Zia ?_)) | (refine Zati 12 ?_; first | refine Zes ?_ | (refine Zew rfl Zf0 ?_)) | (refine Zati 13 ?_; first | refine Zes ?_ | (refine Zew rfl Zld ?_)) | (refine Zati 15 ?_; first | refine Zes ?_ | (refine Zew rfl Zfa ?_)) | (refine Zati 16 ?_; first | refine Zes ?_ | (refine Zew rfl Zld ?_)) | (refine Zati 17 ?_; first | refine Zes ?_ | (refine Zew rfl Zmi ?_)) | (refine Zati 18 ?_; first | refine Zes ?_ | (refine Zew rfl Zia ?_)) | (refine Zati 19 ?_; first | refine Zes ?_ | (refine Zew rfl Zfa ?_)) | (refine Zati 20 ?_; first | refine Zes ?_ | (refine Zew rfl Zld ?_)) | (refine Zati 21 ?_; first | refine Zes ?_ | (refine Zew rfl Zyneq ?_)) | (refine Zes ?_) | (with_reducible apply EWalk_nil)) | (refine AnyO_done (by kernel_rfl) ?_; (try with_reducible apply noP_normal); try with_reducible exact key.out) | (refine Zhn ?_) | (with_reducible apply QBlock_normal) | (refine AWalk_0 ?_; refine ZisO ?_))
      exact QLoop_normal (k + 1) (.cons rfl .nil) (by repeat (first | exact Off.frame rfl | exact Off.refl _ _ | refine Off.frameT rfl rfl ?_ | refine Off.upd rfl ?_ | refine Off.updO rfl ?_)) (by repeat (first | exact Wk.refl _ | apply Wk.keep1 | apply Wk.drop | apply Wk.sv | apply Wk.svD | apply Wk.appD)) ⟨by omega, by rw [hst]; rfl⟩ (by omega)
    | true =>
      have hhit2 := hhit rfl
      rw [Bool.not_true, Bool.false_or] at hst
      have hrg : rgB g.d lv ((x1 : Int), (x2 : Int)) = decide ((nxt g.d.ways lv x1).getD n = x2) := by
        unfold rgB
        dsimp only
        rw [Int.toNat_natCast, Bool.eq_iff_iff, beq_iff_eq, decide_eq_true_eq]
        cases nxt g.d.ways lv x1 with
        | none => simp only [codeO, Option.getD_none]; omega
        | some y => simp only [codeO, Option.getD_some]; omega
      rw [hrg] at hst hhit2
      obtain ⟨y, hy⟩ : ∃ y, (nxt g.d.ways lv x1).getD n = y := ⟨_, rfl⟩
      rw [hy] at hst hhit2 hn1
      by_cases hyx : y = x2
      · rw [decide_eq_true hyx] at hst
        repeat' (first | (refine GiP ?_; first | (refine Znh ?_) | (with_reducible refine Znl ?_)) | (refine GiW ?_; first | (refine Zsq fun K hK => ?_) | (refine ZrN 2 fun _ => ?_; refine Zv Zmi ?_; refine Zv Zfa ?_; (first | (refine Zv (Val_loadR1 rfl hbA c0) ?_) | (refine Zv (Val_loadR1 rfl hbA c1) ?_) | (refine Zv Zld ?_)); refine Zv Zxlen ?_; refine Zv Zylss ?_) | (refine ZrN 3 fun _ => ?_; refine Zv Zmi ?_; refine Zv Zxadd ?_; refine Zv Zai ?_) | (refine WP_cond_true rfl ?_) | (refine WP_cond_false rfl ?_) | (with_reducible apply WP_skip) | (with_reducible apply WP_block) | (refine WP_drawn (id := 4) [0, 1, 2, 3, 4, 5, 6, 7, 8, 9, 10, 11, 12, 13, 14, 15, 16, 17, 18, 19, 20, 21, 22] [] (k := 0) prog_mixed (by kernel_rfl) rfl ?_; refine Zew rfl Zmi ?_; refine Zew rfl Zmi ?_; refine Zec rfl (Enters_fn rfl) (fun X => hhas _) ?_; refine Zew rfl Zmb ?_)) | (refine GiE ?_; first | (refine Zati 22 ?_; (first | (refine Zew rfl Zxpt ?_) | (refine Zew rfl Zxpf ?_))) | (refine Zati 4 ?_; first | refine Zes ?_ | (refine Zew rfl (Val_loadR1 rfl hbA c0) ?_) | (refine Zew rfl (Val_loadR1 rfl hbA c1) ?_) | (refine Zew rfl Zla ?_)) | (refine Zati 5 ?_; first | refine Zes ?_ | (refine Zew rfl Zmv ?_)) | (refine Zati 6 ?_; first | refine Zes ?_ | (refine Zew rfl (Val_loadR1 rfl hbA c0) ?_) | (refine Zew rfl (Val_loadR1 rfl hbA c1) ?_) | (refine Zew rfl Zla ?_)) | (refine Zati 7 ?_; first | refine Zes ?_ | (refine Zec rfl (Enters_fn rfl) (fun X => hev _) ?_)) | (refine Zati 8 ?_; first | refine Zes ?_ | (refine Zew rfl Zfa ?_)) | (refine Zati 9 ?_; first | refine Zes ?_ | (refine Zew rfl (Val_loadR1 rfl hbA c0) ?_) | (refine Zew rfl (Val_loadR1 rfl hbA c1) ?_) | (refine Zew rfl Zld ?_)) | (refine Zati 10 ?_; first | refine Zes ?_ | (refine Zew rfl Zmi ?_)) | (refine Zati 11 ?_; first | refine Zes ?_ | (refine Zew rfl Zia ?_)) | (refine Zati 12 ?_; first | refine Zes ?_ | (refine Zew rfl Zf0 ?_)) | (refine Zati 13 ?_; first | refine Zes ?_ | (refine Zew rfl (Val_loadR1 rfl hbA c0) ?_) | (refine Zew rfl (Val_loadR1 rfl hbA c1) ?_) | (refine Zew rfl Zld ?_)) | (refine Zati 14 ?_; first | refine Zes ?_ | (refine Zec rfl (Enters_fn rfl) (fun X => hn1 _ (hrd.wk (by repeat (first | exact Sub.refl _ | assumption | exact Sub.left | apply Sub.cons | apply Sub.sv | apply Sub.app)))) ?_)) | (refine Zati 15 ?_; first | refine Zes ?_ | (refine Zew rfl Zfa ?_)) | (refine Zati 16 ?_; first | refine Zes ?_ | (refine Zew rfl (Val_loadR1 rfl hbA c0) ?_) | (refine Zew rfl (Val_loadR1 rfl hbA c1) ?_) | (refine Zew rfl Zld ?_)) | (refine Zati 17 ?_; first | refine Zes ?_ | (refine Zew rfl Zmi ?_)) | (refine Zati 18 ?_; first | refine Zes ?_ | (refine Zew rfl Zia ?_)) | (refine Zati 19 ?_; first | refine Zes ?_ | (refine Zew rfl Zfa ?_)) | (refine Zati 20 ?_; first | refine Zes ?_ | (refine Zew rfl (Val_loadR1 rfl hbA c0) ?_) | (refine Zew rfl (Val_loadR1 rfl hbA c1) ?_) | (refine Zew rfl Zld ?_)) | (refine Zati 21 ?_; first | refine Zes ?_ | (refine Zew rfl Zyneq ?_)) | (with_reducible apply EWalk_nil)) | (refine AnyO_done (by kernel_rfl) ?_; (try with_reducible apply noP_normal); try with_reducible exact key.out) | (refine Zhn ?_) | (with_reducible apply QBlock_normal) | (refine AWalk_0 ?_; refine ZisO ?_))
        all_goals exact QLoop_normal (k + 1) (.cons rfl .nil) (by repeat (first | exact Off.frame rfl | exact Off.refl _ _ | refine Off.frameT rfl rfl ?_ | refine Off.upd rfl ?_ | refine Off.updO rfl ?_)) (by repeat (first | exact Wk.refl _ | apply Wk.keep1 | apply Wk.drop | apply Wk.sv | apply Wk.svD | apply Wk.appD)) ⟨by omega, by rw [hst]⟩ (by omega)
      · have h3 := hhit2 (decide_eq_false hyx)
        repeat' (first | (refine Znh ?_) | (refine GiW ?_; first | (refine Zsq fun K hK => ?_) | (refine ZrN 2 fun _ => ?_; refine Zv Zmi ?_; refine Zv Zfa ?_; (first | (refine Zv (Val_loadR1 rfl hbA c0) ?_) | (refine Zv (Val_loadR1 rfl hbA c1) ?_) | (refine Zv Zld ?_)); refine Zv Zxlen ?_; refine Zv Zylss ?_) | (refine ZrN 5 fun _ => ?_; refine Zv Zab ?_) | (refine WP_cond_true rfl ?_) | (with_reducible apply WP_skip) | (with_reducible apply WP_block) | (with_reducible apply WP_ret) | (refine WP_drawn (id := 4) [0, 1, 2, 3, 4, 5, 6, 7, 8, 9, 10, 11, 12, 13, 14, 15, 16, 17, 18, 19, 20, 21, 22] [] (k := 0) prog_mixed (by kernel_rfl) rfl ?_; refine Zew rfl Zmi ?_; refine Zew rfl Zmi ?_; refine Zec rfl (Enters_fn rfl) (fun X => hhas _) ?_; refine Zew rfl Zmb ?_)) | (refine GiE ?_; first | (refine Zati 22 ?_; (first | (refine Zew rfl Zxpt ?_) | (refine Zew rfl Zxpf ?_))) | (refine Zati 4 ?_; first | refine Zes ?_ | (refine Zew rfl (Val_loadR1 rfl hbA c0) ?_) | (refine Zew rfl (Val_loadR1 rfl hbA c1) ?_) | (refine Zew rfl Zla ?_)) | (refine Zati 5 ?_; first | refine Zes ?_ | (refine Zew rfl Zmv ?_)) | (refine Zati 6 ?_; first | refine Zes ?_ | (refine Zew rfl (Val_loadR1 rfl hbA c0) ?_) | (refine Zew rfl (Val_loadR1 rfl hbA c1) ?_) | (refine Zew rfl Zla ?_)) | (refine Zati 7 ?_; first | refine Zes ?_ | (refine Zec rfl (Enters_fn rfl) (fun X => hev _) ?_)) | (refine Zati 8 ?_; first | refine Zes ?_ | (refine Zew rfl Zfa ?_)) | (refine Zati 9 ?_; first | refine Zes ?_ | (refine Zew rfl (Val_loadR1 rfl hbA c0) ?_) | (refine Zew rfl (Val_loadR1 rfl hbA c1) ?_) | (refine Zew rfl Zld ?_)) | (refine Zati 10 ?_; first | refine Zes ?_ | (refine Zew rfl Zmi ?_)) | (refine Zati 11 ?_; first | refine Zes ?_ | (refine Zew rfl Zia ?_)) | (refine Zati 12 ?_; first | refine Zes ?_ | (refine Zew rfl Zf0 ?_)) | (refine Zati 13 ?_; first | refine Zes ?_ | (refine Zew rfl (Val_loadR1 rfl hbA c0) ?_) | (refine Zew rfl (Val_loadR1 rfl hbA c1) ?_) | (refine Zew rfl Zld ?_)) | (refine Zati 14 ?_; first | refine Zes ?_ | (refine Zec rfl (Enters_fn rfl) (fun X => hn1 _ (hrd.wk (by repeat (first | exact Sub.refl _ | assumption | exact Sub.left | apply Sub.cons | apply Sub.sv | apply Sub.app)))) ?_)) | (refine Zati 15 ?_; first | refine Zes ?_ | (refine Zew rfl Zfa ?_)) | (refine Zati 16 ?_; first | refine Zes ?_ | (refine Zew rfl (Val_loadR1 rfl hbA c0) ?_) | (refine Zew rfl (Val_loadR1 rfl hbA c1) ?_) | (refine Zew rfl Zld ?_)) | (refine Zati 17 ?_; first | refine Zes ?_ | (refine Zew rfl Zmi ?_)) | (refine Zati 18 ?_; first | refine Zes ?_ | (refine Zew rfl Zia ?_)) | (refine Zati 19 ?_; first | refine Zes ?_ | (refine Zew rfl Zfa ?_)) | (refine Zati 20 ?_; first | refine Zes ?_ | (refine Zew rfl (Val_loadR1 rfl hbA c0) ?_) | (refine Zew rfl (Val_loadR1 rfl hbA c1) ?_) | (refine Zew rfl Zld ?_)) | (refine Zati 21 ?_; first | refine Zes ?_ | (refine Zew rfl Zyneq ?_)) | (with_reducible apply EWalk_nil)) | (refine AnyO_done (by kernel_rfl) ?_; (try with_reducible apply noP_normal); try with_reducible exact key.out) | (refine Zhn ?_) | (refine Zhr ?_) | (with_reducible apply QBlock_ret) | (with_reducible apply QLoop_ret) | (refine AWalk_0 ?_; refine ZisO ?_))
        all_goals exact QBody_ret1 rfl (rfl : _ = Value.bool _) ⟨by rw [h3], (by repeat (first | exact Wk.refl _ | apply Wk.keep1 | apply Wk.drop | apply Wk.sv | apply Wk.svD | apply Wk.appD))⟩
  · have hke : k = g.d.seen.length := by omega
    rw [hke, List.take_length] at hno
    repeat' (first | (refine Znh ?_) | (refine GiW ?_; first | (refine Zsq fun K hK => ?_) | (refine ZrN 2 fun _ => ?_; refine Zv Zmi ?_; refine Zv Zfa ?_; refine Zv Zld ?_; refine Zv Zxlen ?_; refine Zv Zylss ?_) | (refine ZrN 6 fun _ => ?_; refine Zv Zab ?_) | (refine WP_cond_false rfl ?_) | (with_reducible apply WP_exit) | (with_reducible apply WP_ret)) | (refine Zhn ?_) | (refine Zhx ?_) | (with_reducible apply QBlock_hit) | (with_reducible apply QLoop_exit))
    exact QBody_ret1 rfl (rfl : _ = Value.bool _) ⟨by rw [hno], (by repeat (first | exact Wk.refl _ | apply Wk.keep1 | apply Wk.drop | apply Wk.sv | apply Wk.svD | apply Wk.appD))⟩
set_option maxHeartbeats 4000000 in
theorem wat_ref (g : Fg) (hA : DrAt N w0 g) (hv : VD g.d) (lv : List Int) (hl : lv.length = g.d.banks.length) (A : Option Addr) (c : Nat) (set : Nat) (hs : set ≤ 1000000) (nx : Nat → Option Nat) (hnx9 : nxt (pickL set g.d.ways 0) lv = nx) : ∀ (f x : Nat), x < g.d.banks.length → upR g.d.banks.length (lvl lv) x ≤ f → ∀ (L : Hp), RdI N w0 L A lv →
    Ret Tryz.prog N w0 L 50 [drV g, .slice A g.d.banks.length c, .int .i64 (set : Int), .int .i64 (x : Int)].toArray (.agg (spL (watF g.d.banks.length nx (loY g.d) (f + 1) x, watF g.d.banks.length nx (hiY g.d) (f + 1) x)).toArray) := by
  have hnb := hv.nb
  have hdn : ∀ a y, nx a = some y → y < g.d.banks.length ∧ lvl lv y < lvl lv a := fun a y h => by rw [← hl]; rw [← hnx9] at h; exact nxt_dec h
  intro f
  induction f with
  | zero =>
    intro x hx hf L hrd
    have hnx := fun L h z hz => next_ref N w0 L g hA hv lv hl A c h set hs z hz
    rw [hnx9] at hnx
    have hno : ∀ z, z < g.d.banks.length → nx z ≠ some x := fun z hz h => by
      have := upR_lt (n := g.d.banks.length) (l := lvl lv) hz (hdn z x h).2
      omega
    have hw0 : ∀ y : Nat → Int, watF g.d.banks.length nx y 1 x = y x := fun y => by
      show y x + sumN _ _ = _
      rw [sumN_congr (g := fun _ => 0) (fun z hz => if_neg (hno z hz)), sumN_zero]; omega
    rw [Nat.zero_add, hw0, hw0]
    obtain ⟨bA, oA, hA1, hbA, hcA⟩ := hA.banks.row x hx
    obtain ⟨t, ht⟩ : ∃ t, g.d.banks[x] = t := ⟨_, rfl⟩
    have hlo : loY g.d x = t.yd.1 := by unfold loY; rw [List.getD_eq_getElem?_getD, List.getElem?_map, List.getElem?_eq_getElem hx, ht]; rfl
    have hhi : hiY g.d x = t.yd.2 := by unfold hiY; rw [List.getD_eq_getElem?_getD, List.getElem?_map, List.getElem?_eq_getElem hx, ht]; rfl
    rw [hlo, hhi]
    rw [ht] at hcA
    unfold bkL at hcA
    have c2 : Ro w0 bA (oA + x * 4 + 2) [.int .i64 t.yd.1, .int .i64 t.yd.2] := RoDrop hcA 2
    unfold spL
    dsimp only
    refine Ret.fgt ?_
    refine tri_of_WP Tryz.func50 rfl (n := _) rfl (by simp) ?_
    unfold drV drL at hnx ⊢
    obtain ⟨n, hn⟩ : ∃ n, g.d.banks.length = n := ⟨_, rfl⟩
    rw [hn] at hnx hno hx hnb ⊢
    repeat' (first | (refine Znh ?_) | (refine GiW ?_; first | (refine Zsq fun K hK => ?_) | (refine ZrN 0 fun _ => ?_; refine Zal 4 fun b4 => ?_; refine Zal 8 fun b8 => ?_) | (refine ZrN 1 fun _ => ?_; refine Zv Zf0 ?_; refine Zv Zld ?_; refine Zv Zmi ?_; refine Zv Zia ?_; refine Zv Zfa ?_; refine Zv Zla ?_; refine Zal 9 fun b9 => ?_; refine Zst ?_) | (refine ZrN 2 fun _ => ?_; refine Zv Zai ?_) | (with_reducible apply WP_block)))
    refine WP_loop [10, 11, 18, 19, 20, 21, 22, 23, 24, 25, 26, 27, 28, 29, 30, 31, 32, 33, 34, 35, 36, 37, 38, 39, 40, 41, 42, 43, 44, 45, 46, 47] (fun k : Nat => [(10, .int .i64 (k : Int))]) (fun _ => (b9, Blk 33 [.int .i64 t.yd.1, .int .i64 t.yd.2]) :: (b8, Blk 33 [.int .i64 0, .int .i64 0]) :: (b4, Blk 26 [.slice g.A1 n g.c1, .slice g.A2 g.d.ways.length g.c2, .slice g.A3 g.d.rights.length g.c3, .slice g.A4 g.d.seen.length g.c4]) :: L) (fun k => k ≤ n) (fun k => n - k) 0 (.cons rfl .nil) (Wk.refl _) (Nat.zero_le _) ?_
    intro k j hk
    by_cases hkn : k < n
    · have hn1 := fun L h => hnx L h k hkn
      have hne : (nx k).getD n ≠ x := by
        have := hno k hkn
        cases hz : nx k with
        | none => simp only [Option.getD_none]; omega
        | some y => rw [hz] at this; simp only [Option.getD_some]; intro h; exact this (by rw [h])
      obtain ⟨y, hy⟩ : ∃ y, (nx k).getD n = y := ⟨_, rfl⟩
      rw [hy] at hn1 hne
      repeat' (first | (refine GiP ?_; first | (refine Znh ?_) | (with_reducible refine Znl ?_)) | (refine GiW ?_; first | (refine Zsq fun K hK => ?_) | (refine ZrN 3 fun _ => ?_; refine Zv Zmi ?_; refine Zv Zf0 ?_; refine Zv Zld ?_; refine Zv Zxlen ?_; refine Zv Zylss ?_) | (refine ZrN 5 fun _ => ?_; refine Zv Zla ?_; refine Zv Zmv ?_; refine Zv Zmi ?_; refine Zv Zmi ?_; refine Zcl (Enters_fn rfl) (hn1 _ (hrd.wk (by repeat (first | exact Sub.refl _ | assumption | exact Sub.left | apply Sub.cons | apply Sub.sv | apply Sub.app)))) ?_; refine Zv Zmi ?_; refine Zv Zyeql ?_) | (refine ZrN 4 fun _ => ?_; refine Zv Zmi ?_; refine Zv Zxadd ?_; refine Zv Zai ?_) | (refine WP_cond_true rfl ?_) | (refine WP_cond_false rfl ?_) | (with_reducible apply WP_skip) | (with_reducible apply WP_block)) | (refine Zhn ?_) | (with_reducible apply QBlock_normal))
      exact QLoop_normal (k + 1) (.cons rfl .nil) (by repeat (first | exact Off.frame rfl | exact Off.refl _ _ | refine Off.frameT rfl rfl ?_ | refine Off.upd rfl ?_ | refine Off.updO rfl ?_)) (by repeat (first | exact Wk.refl _ | apply Wk.keep1 | apply Wk.drop | apply Wk.sv | apply Wk.svD | apply Wk.appD)) (by omega) (by omega)
    · repeat' (first | (refine Znh ?_) | (refine GiW ?_; first | (refine Zsq fun K hK => ?_) | (refine ZrN 3 fun _ => ?_; refine Zv Zmi ?_; refine Zv Zf0 ?_; refine Zv Zld ?_; refine Zv Zxlen ?_; refine Zv Zylss ?_) | (refine ZrN 8 fun _ => ?_; refine Zv Zla ?_; refine Zst ?_) | (refine WP_cond_false rfl ?_) | (with_reducible apply WP_exit) | (with_reducible apply WP_ret)) | (refine Zhn ?_) | (refine Zhx ?_) | (with_reducible apply QBlock_hit) | (with_reducible apply QLoop_exit))
      exact QBody_res rfl (.cellN rfl (by repeat (first | exact Mem.here | assumption | apply Mem.there | apply Mem.sv | apply Mem.app)) (.here (.cons (.cons .nil))) .nil) rfl ⟨rfl, (by repeat (first | exact Wk.refl _ | apply Wk.keep1 | apply Wk.drop | apply Wk.sv | apply Wk.svD | apply Wk.appD))⟩
  | succ f ih =>
    intro x hx hf L hrd
    have hnx := fun L h z hz => next_ref N w0 L g hA hv lv hl A c h set hs z hz
    rw [hnx9] at hnx
    have hlt : ∀ z, z < g.d.banks.length → nx z = some x → upR g.d.banks.length (lvl lv) z ≤ f := fun z hz h => by
      have := upR_lt (n := g.d.banks.length) (l := lvl lv) hz (hdn z x h).2
      omega
    have hwb : ∀ z, z < g.d.banks.length → nx z = some x → (0 ≤ watF g.d.banks.length nx (loY g.d) (f + 1) z ∧ watF g.d.banks.length nx (loY g.d) (f + 1) z ≤ 100) ∧ 0 ≤ watF g.d.banks.length nx (hiY g.d) (f + 1) z ∧ watF g.d.banks.length nx (hiY g.d) (f + 1) z ≤ 100 := fun z hz h => by
      have h1 := hlt z hz h
      have e : ∀ y, watF g.d.banks.length nx y (f + 1) z = watN g.d.banks.length nx y z := fun y => watF_fuel hdn y _ _ z (by omega) (Nat.le_of_lt (upR_n hz))
      have b1 := watN_bd hdn (y := loY g.d) (fun z _ => by have := yd_bd hv z; omega) hz
      have b2 := watN_bd hdn (y := hiY g.d) (fun z _ => by have := yd_bd hv z; omega) hz
      rw [e, e]
      omega
    have hf1 : ∀ y : Nat → Int, watF g.d.banks.length nx y (f + 1 + 1) x = y x + sumN g.d.banks.length fun z => if nx z = some x then watF g.d.banks.length nx y (f + 1) z else 0 := fun _ => rfl
    rw [hf1, hf1]
    have ih2 := fun z hz h L hL => ih z hz (hlt z hz h) L hL
    obtain ⟨F, hF⟩ : ∃ F : Nat → Int, (fun z => if nx z = some x then watF g.d.banks.length nx (loY g.d) (f + 1) z else 0) = F := ⟨_, rfl⟩
    obtain ⟨G, hG⟩ : ∃ G : Nat → Int, (fun z => if nx z = some x then watF g.d.banks.length nx (hiY g.d) (f + 1) z else 0) = G := ⟨_, rfl⟩
    have hFz : ∀ z, F z = if nx z = some x then watF g.d.banks.length nx (loY g.d) (f + 1) z else 0 := fun z => by rw [← hF]
    have hGz : ∀ z, G z = if nx z = some x then watF g.d.banks.length nx (hiY g.d) (f + 1) z else 0 := fun z => by rw [← hG]
    have hFb : ∀ z, z < g.d.banks.length → (0 ≤ F z ∧ F z ≤ 100) ∧ 0 ≤ G z ∧ G z ≤ 100 := fun z hz => by
      rw [hFz, hGz]
      by_cases h : nx z = some x
      · rw [if_pos h, if_pos h]; exact hwb z hz h
      · rw [if_neg h, if_neg h]; omega
    rw [hF, hG]
    obtain ⟨bA, oA, hA1, hbA, hcA⟩ := hA.banks.row x hx
    obtain ⟨t, ht⟩ : ∃ t, g.d.banks[x] = t := ⟨_, rfl⟩
    have htb := hv.bk t (by rw [← ht]; exact List.getElem_mem hx)
    have hlo : loY g.d x = t.yd.1 := by unfold loY; rw [List.getD_eq_getElem?_getD, List.getElem?_map, List.getElem?_eq_getElem hx, ht]; rfl
    have hhi : hiY g.d x = t.yd.2 := by unfold hiY; rw [List.getD_eq_getElem?_getD, List.getElem?_map, List.getElem?_eq_getElem hx, ht]; rfl
    rw [hlo, hhi]
    rw [ht] at hcA
    unfold bkL at hcA
    have c2 : Ro w0 bA (oA + x * 4 + 2) [.int .i64 t.yd.1, .int .i64 t.yd.2] := RoDrop hcA 2
    unfold spL at ih2 ⊢
    dsimp only at ih2 ⊢
    refine Ret.fgt ?_
    refine tri_of_WP Tryz.func50 rfl (n := _) rfl (by simp) ?_
    unfold drV drL at hnx ih2 ⊢
    clear hf1 hF hG hwb ih
    obtain ⟨n, hn⟩ : ∃ n, g.d.banks.length = n := ⟨_, rfl⟩
    rw [hn] at hnx hx hnb ih2 hFb ⊢
    simp only [hn] at hFz hGz hdn
    repeat' (first | (refine Znh ?_) | (refine GiW ?_; first | (refine Zsq fun K hK => ?_) | (refine ZrN 0 fun _ => ?_; refine Zal 4 fun b4 => ?_; refine Zal 8 fun b8 => ?_) | (refine ZrN 1 fun _ => ?_; refine Zv Zf0 ?_; refine Zv Zld ?_; refine Zv Zmi ?_; refine Zv Zia ?_; refine Zv Zfa ?_; refine Zv Zla ?_; refine Zal 9 fun b9 => ?_; refine Zst ?_) | (refine ZrN 2 fun _ => ?_; refine Zv Zai ?_) | (with_reducible apply WP_block)))
    refine WP_loop [10, 11, 18, 19, 20, 21, 22, 23, 24, 25, 26, 27, 28, 29, 30, 31, 32, 33, 34, 35, 36, 37, 38, 39, 40, 41, 42, 43, 44, 45, 46, 47] (fun k : Nat => [(10, .int .i64 (k : Int))]) (fun k => (b9, Blk 33 [.int .i64 (t.yd.1 + sumN k F), .int .i64 (t.yd.2 + sumN k G)]) :: (b8, Blk 33 [.int .i64 0, .int .i64 0]) :: (b4, Blk 26 [.slice g.A1 n g.c1, .slice g.A2 g.d.ways.length g.c2, .slice g.A3 g.d.rights.length g.c3, .slice g.A4 g.d.seen.length g.c4]) :: L) (fun k => k ≤ n) (fun k => n - k) 0 (.cons rfl .nil) (by rw [show t.yd.1 + sumN 0 F = t.yd.1 from Int.add_zero _, show t.yd.2 + sumN 0 G = t.yd.2 from Int.add_zero _]; exact Wk.refl _) (Nat.zero_le _) ?_
    intro k j hk
    have p1 := sumN_bd (f := F) (c := 100) (by omega) (n := k) (fun z hz => (hFb z (by omega)).1)
    have p2 := sumN_bd (f := G) (c := 100) (by omega) (n := k) (fun z hz => (hFb z (by omega)).2)
    by_cases hkn : k < n
    · have hn1 := fun L h => hnx L h k hkn
      have s1 : sumN (k + 1) F = sumN k F + F k := rfl
      have s2 : sumN (k + 1) G = sumN k G + G k := rfl
      have hfk := hFb k hkn
      have hFk := hFz k
      have hGk := hGz k
      obtain ⟨S, hS⟩ : ∃ S, sumN k F = S := ⟨_, rfl⟩
      obtain ⟨R, hR⟩ : ∃ R, sumN k G = R := ⟨_, rfl⟩
      rw [hS] at p1 s1 ⊢
      rw [hR] at p2 s2 ⊢
      by_cases hnk : nx k = some x
      · have ih3 := ih2 k hkn hnk
        rw [if_pos hnk] at hFk hGk
        rw [← hFk, ← hGk] at ih3
        rw [hnk, Option.getD_some] at hn1
        obtain ⟨fk, hfk9⟩ : ∃ z, F k = z := ⟨_, rfl⟩
        obtain ⟨gk, hgk9⟩ : ∃ z, G k = z := ⟨_, rfl⟩
        rw [hfk9] at ih3 s1 hfk
        rw [hgk9] at ih3 s2 hfk
        repeat' (first | (refine GiP ?_; first | (refine Znh ?_) | (with_reducible refine Znl ?_)) | (refine GiW ?_; first | (refine Zsq fun K hK => ?_) | (refine ZrN 3 fun _ => ?_; refine Zv Zmi ?_; refine Zv Zf0 ?_; refine Zv Zld ?_; refine Zv Zxlen ?_; refine Zv Zylss ?_) | (refine ZrN 5 fun _ => ?_; refine Zv Zla ?_; refine Zv Zmv ?_; refine Zv Zmi ?_; refine Zv Zmi ?_; refine Zcl (Enters_fn rfl) (hn1 _ (hrd.wk (by repeat (first | exact Sub.refl _ | assumption | exact Sub.left | apply Sub.cons | apply Sub.sv | apply Sub.app)))) ?_; refine Zv Zmi ?_; refine Zv Zyeql ?_) | (refine ZrN 6 fun _ => ?_; refine Zv Zla ?_; refine Zv Zmv ?_; refine Zv Zmi ?_; refine Zv Zmi ?_; refine Zcl (Enters_fn rfl) (ih3 _ (hrd.wk (by repeat (first | exact Sub.refl _ | assumption | exact Sub.left | apply Sub.cons | apply Sub.sv | apply Sub.app)))) ?_; refine Zal 11 fun b11 => ?_; refine Zst ?_) | (refine ZrN 7 fun _ => ?_; refine Zv Zf0 ?_; refine Zv Zld ?_; refine Zv Zf0 ?_; refine Zv Zld ?_; refine Zv Zxadd ?_; refine Zv Zfa ?_; refine Zv Zld ?_; refine Zv Zfa ?_; refine Zv Zld ?_; refine Zv Zxadd ?_; refine Zv Zxbu ?_; refine Zst ?_) | (refine ZrN 4 fun _ => ?_; refine Zv Zmi ?_; refine Zv Zxadd ?_; refine Zv Zai ?_) | (refine WP_cond_true rfl ?_) | (with_reducible apply WP_skip) | (with_reducible apply WP_block)) | (refine Zhn ?_) | (with_reducible apply QBlock_normal))
        exact QLoop_normal (k + 1) (.cons rfl .nil) (by repeat (first | exact Off.frame rfl | exact Off.refl _ _ | refine Off.frameT rfl rfl ?_ | refine Off.upd rfl ?_ | refine Off.updO rfl ?_)) (by rw [s1, s2, ← Int.add_assoc, ← Int.add_assoc]; exact (by repeat (first | exact Wk.refl _ | apply Wk.keep1 | apply Wk.drop | apply Wk.sv | apply Wk.svD | apply Wk.appD))) (by omega) (by omega)
      · have hne : (nx k).getD n ≠ x := by
          cases hz : nx k with
          | none => simp only [Option.getD_none]; omega
          | some y => rw [hz] at hnk; simp only [Option.getD_some]; intro h; exact hnk (by rw [h])
        rw [if_neg hnk] at hFk hGk
        rw [hFk] at s1
        rw [hGk] at s2
        obtain ⟨y, hy⟩ : ∃ y, (nx k).getD n = y := ⟨_, rfl⟩
        rw [hy] at hn1 hne
        repeat' (first | (refine GiP ?_; first | (refine Znh ?_) | (with_reducible refine Znl ?_)) | (refine GiW ?_; first | (refine Zsq fun K hK => ?_) | (refine ZrN 3 fun _ => ?_; refine Zv Zmi ?_; refine Zv Zf0 ?_; refine Zv Zld ?_; refine Zv Zxlen ?_; refine Zv Zylss ?_) | (refine ZrN 5 fun _ => ?_; refine Zv Zla ?_; refine Zv Zmv ?_; refine Zv Zmi ?_; refine Zv Zmi ?_; refine Zcl (Enters_fn rfl) (hn1 _ (hrd.wk (by repeat (first | exact Sub.refl _ | assumption | exact Sub.left | apply Sub.cons | apply Sub.sv | apply Sub.app)))) ?_; refine Zv Zmi ?_; refine Zv Zyeql ?_) | (refine ZrN 4 fun _ => ?_; refine Zv Zmi ?_; refine Zv Zxadd ?_; refine Zv Zai ?_) | (refine WP_cond_true rfl ?_) | (refine WP_cond_false rfl ?_) | (with_reducible apply WP_skip) | (with_reducible apply WP_block)) | (refine Zhn ?_) | (with_reducible apply QBlock_normal))
        exact QLoop_normal (k + 1) (.cons rfl .nil) (by repeat (first | exact Off.frame rfl | exact Off.refl _ _ | refine Off.frameT rfl rfl ?_ | refine Off.upd rfl ?_ | refine Off.updO rfl ?_)) (by rw [s1, s2, Int.add_zero, Int.add_zero]; exact (by repeat (first | exact Wk.refl _ | apply Wk.keep1 | apply Wk.drop | apply Wk.sv | apply Wk.svD | apply Wk.appD))) (by omega) (by omega)
    · have hke : k = n := by omega
      subst hke
      repeat' (first | (refine Znh ?_) | (refine GiW ?_; first | (refine Zsq fun K hK => ?_) | (refine ZrN 3 fun _ => ?_; refine Zv Zmi ?_; refine Zv Zf0 ?_; refine Zv Zld ?_; refine Zv Zxlen ?_; refine Zv Zylss ?_) | (refine ZrN 8 fun _ => ?_; refine Zv Zla ?_; refine Zst ?_) | (refine WP_cond_false rfl ?_) | (with_reducible apply WP_exit) | (with_reducible apply WP_ret)) | (refine Zhn ?_) | (refine Zhx ?_) | (with_reducible apply QBlock_hit) | (with_reducible apply QLoop_exit))
      exact QBody_res rfl (.cellN rfl (by repeat (first | exact Mem.here | assumption | apply Mem.there | apply Mem.sv | apply Mem.app)) (.here (.cons (.cons .nil))) .nil) rfl ⟨rfl, (by repeat (first | exact Wk.refl _ | apply Wk.keep1 | apply Wk.drop | apply Wk.sv | apply Wk.svD | apply Wk.appD))⟩
theorem waters_ref (L : Hp) (g : Fg) (hA : DrAt N w0 g) (hv : VD g.d) (lv : List Int) (hl : lv.length = g.d.banks.length) (A : Option Addr) (c : Nat) (hrd : RdI N w0 L A lv) (set : Nat) (hs : set ≤ 1000000) (x : Nat) (hx : x < g.d.banks.length) :
    Ret Tryz.prog N w0 L 50 [drV g, .slice A g.d.banks.length c, .int .i64 (set : Int), .int .i64 (x : Int)].toArray (.agg (spL (watS g.d (nxt (pickL set g.d.ways 0) lv) x)).toArray) := by
  have hdn : ∀ a y, nxt (pickL set g.d.ways 0) lv a = some y → y < g.d.banks.length ∧ lvl lv y < lvl lv a := fun a y h => by rw [← hl]; exact nxt_dec h
  have hu : upR g.d.banks.length (lvl lv) x < g.d.banks.length := upR_n hx
  have := wat_ref N w0 g hA hv lv hl A c set hs _ rfl g.d.banks.length x hx (by omega) L hrd
  unfold watS watN
  rw [watF_fuel hdn _ (g.d.banks.length + 1) g.d.banks.length x (by omega) (by omega), watF_fuel hdn _ (g.d.banks.length + 1) g.d.banks.length x (by omega) (by omega)] at this
  exact this
theorem flows_ref (L : Hp) (g : Fg) (hA : DrAt N w0 g) (hv : VD g.d) (lv : List Int) (hl : lv.length = g.d.banks.length) (A : Option Addr) (c : Nat) (hrd : RdI N w0 L A lv) (set : Nat) (hs : set ≤ 1000000) (x y : Nat) (hx : x < g.d.banks.length) (hy : y < g.d.banks.length) :
    Ret Tryz.prog N w0 L 58 [drV g, .slice A g.d.banks.length c, .int .i64 (set : Int), .int .i64 (x : Int), .int .i64 (y : Int)].toArray (.agg (spL (flowS g.d (nxt (pickL set g.d.ways 0) lv) x y)).toArray) := by
  have hnx := fun L h => next_ref N w0 L g hA hv lv hl A c h set hs x hx
  have hwa := fun L h => waters_ref N w0 L g hA hv lv hl A c h set hs x hx
  have hnb := hv.nb
  unfold flowS
  obtain ⟨nx, hnx9⟩ : ∃ nx, nxt (pickL set g.d.ways 0) lv = nx := ⟨_, rfl⟩
  rw [hnx9] at hnx hwa ⊢
  obtain ⟨⟨w1, w2⟩, hw⟩ : ∃ w, watS g.d nx x = w := ⟨_, rfl⟩
  rw [hw] at hwa ⊢
  unfold drV drL spL at hwa ⊢
  unfold drV drL at hnx
  refine Ret.fgt ?_
  refine tri_of_WP Tryz.func58 rfl (n := _) rfl (by simp) ?_
  obtain ⟨n, hn⟩ : ∃ n, g.d.banks.length = n := ⟨_, rfl⟩
  rw [hn] at hnx hwa hy hnb ⊢
  by_cases hxy : nx x = some y
  · rw [if_pos hxy]
    rw [hxy, Option.getD_some] at hnx
    repeat' (first | (refine Znh ?_) | (refine GiW ?_; first | (refine Zsq fun K hK => ?_) | (refine ZrN 0 fun _ => ?_; refine Zal 5 fun b5 => ?_; refine Zal 10 fun b10 => ?_) | (refine ZrN 1 fun _ => ?_; refine Zv Zla ?_; refine Zv Zmv ?_; refine Zv Zmi ?_; refine Zv Zmi ?_; refine Zcl (Enters_fn rfl) (hnx _ (hrd.wk (by repeat (first | exact Sub.refl _ | assumption | exact Sub.left | apply Sub.cons | apply Sub.sv | apply Sub.app)))) ?_; refine Zv Zmi ?_; refine Zv Zyneq ?_) | (refine ZrN 3 fun _ => ?_; refine Zv Zla ?_; refine Zv Zmv ?_; refine Zv Zmi ?_; refine Zv Zmi ?_; refine Zcl (Enters_fn rfl) (hwa _ (hrd.wk (by repeat (first | exact Sub.refl _ | assumption | exact Sub.left | apply Sub.cons | apply Sub.sv | apply Sub.app)))) ?_; refine Zst ?_) | (refine WP_cond_false rfl ?_) | (with_reducible apply WP_skip) | (with_reducible apply WP_ret)) | (refine Zhn ?_))
    exact QBody_res rfl (.cellN rfl (by repeat (first | exact Mem.here | assumption | apply Mem.there | apply Mem.sv | apply Mem.app)) (.here (.cons (.cons .nil))) .nil) rfl ⟨rfl, (by repeat (first | exact Wk.refl _ | apply Wk.keep1 | apply Wk.drop | apply Wk.sv | apply Wk.svD | apply Wk.appD))⟩
  · rw [if_neg hxy]
    have hne : (nx x).getD n ≠ y := by
      cases hz : nx x with
      | none => simp only [Option.getD_none]; omega
      | some z => rw [hz] at hxy; simp only [Option.getD_some]; intro h; exact hxy (by rw [h])
    obtain ⟨z, hz⟩ : ∃ z, (nx x).getD n = z := ⟨_, rfl⟩
    rw [hz] at hnx hne
    repeat' (first | (refine Znh ?_) | (refine GiW ?_; first | (refine Zsq fun K hK => ?_) | (refine ZrN 0 fun _ => ?_; refine Zal 5 fun b5 => ?_; refine Zal 10 fun b10 => ?_) | (refine ZrN 1 fun _ => ?_; refine Zv Zla ?_; refine Zv Zmv ?_; refine Zv Zmi ?_; refine Zv Zmi ?_; refine Zcl (Enters_fn rfl) (hnx _ (hrd.wk (by repeat (first | exact Sub.refl _ | assumption | exact Sub.left | apply Sub.cons | apply Sub.sv | apply Sub.app)))) ?_; refine Zv Zmi ?_; refine Zv Zyneq ?_) | (refine ZrN 2 fun _ => ?_; refine Zv Zxbu ?_; refine Zst ?_) | (refine WP_cond_true rfl ?_) | (with_reducible apply WP_ret)) | (refine Zhr ?_))
    exact QBody_res rfl (.cellN rfl (by repeat (first | exact Mem.here | assumption | apply Mem.there | apply Mem.sv | apply Mem.app)) (.here (.cons (.cons .nil))) .nil) rfl ⟨rfl, (by repeat (first | exact Wk.refl _ | apply Wk.keep1 | apply Wk.drop | apply Wk.sv | apply Wk.svD | apply Wk.appD))⟩
theorem hull_ref (L : Hp) (A : Option Addr) (c : Nat) (l : List Sp) (hL : RdRows N w0 L A 2 (l.map spL)) (h0 : 0 < l.length) (hll : l.length ≤ 1000000) (hb : ∀ x ∈ l, 0 ≤ x.1 ∧ x.1 ≤ 100 ∧ 0 ≤ x.2 ∧ x.2 ≤ 100) :
    Ret Tryz.prog N w0 L 51 [.slice A l.length c].toArray (.agg (spL (jn l)).toArray) := by
  have hne : l ≠ [] := by intro h; rw [h] at h0; cases h0
  have hmb := mmL_bd (l := l) (B := 100) (fun x hx => by have := hb x hx; omega) h0
  obtain ⟨bA, oA, rfl, h3⟩ := hL.row 0 h0
  have hrd : ∀ L', Sub L L' → ∀ i (hi : i < l.length), Rd N w0 L' bA (oA + i * 2) (.int .i64 l[i].1) ∧ Rd N w0 L' bA (oA + i * 2 + 1) (.int .i64 l[i].2) := fun L' hS i hi => by
    obtain ⟨b, o, h1, h2⟩ := RdRows.row (RdRows.sub hL hS) i hi
    simp only [Option.some.injEq, Addr.mk.injEq, and_true] at h1
    obtain ⟨rfl, rfl⟩ := h1
    exact ⟨h2 0 _ rfl, h2 1 _ rfl⟩
  have hz := hrd L (Sub.refl _) 0 h0
  have hz0 : mmL l 0 = l[0] := by rw [mmL_zero, List.getD_eq_getElem?_getD, List.getElem?_eq_getElem h0]; rfl
  rw [← mmL_all hne]
  rw [Nat.zero_mul, Nat.add_zero, ← hz0] at hz
  have hzN : ∀ L', Sub L L' → ∀ j v, [Value.int .i64 (mmL l 0).1, .int .i64 (mmL l 0).2][j]? = some v → Rd N w0 L' bA (oA + j) v := fun L' hS j v hj => by
    match j with
    | 0 => simp at hj; subst hj; exact Rd.sub hz.1 hS
    | 1 => simp at hj; subst hj; exact Rd.sub hz.2 hS
    | j + 2 => simp at hj
  unfold spL
  refine Ret.fgt ?_
  refine tri_of_WP Tryz.func51 rfl (n := _) rfl (by simp) ?_
  repeat' (first | (refine Znh ?_) | (refine GiW ?_; first | (refine Zsq fun K hK => ?_) | (refine ZrN 0 fun _ => ?_; refine Zal 2 fun b2 => ?_) | (refine ZrN 1 fun _ => ?_; refine Zv Zmv ?_; refine Zv Zia ?_; (first | (refine Zv (Val_loadDN rfl (hzN _ (by repeat (first | exact Sub.refl _ | assumption | exact Sub.left | apply Sub.cons | apply Sub.sv | apply Sub.app))) rfl) ?_) | (refine Zv Zla ?_)); refine Zal 3 fun b3 => ?_; refine Zst ?_) | (refine ZrN 2 fun _ => ?_; refine Zv Zai ?_) | (with_reducible apply WP_block)))
  refine WP_loop [4, 8, 9, 10, 11, 12, 13, 14, 15, 16, 17, 18, 19, 20, 21, 22, 23, 24, 25, 26, 27, 28, 29, 30] (fun k : Nat => [(4, .int .i64 (k : Int))]) (fun k => (b3, Blk 33 [.int .i64 (mmL l k).1, .int .i64 (mmL l k).2]) :: (b2, Blk 33 [.int .i64 0, .int .i64 0]) :: L) (fun k => k ≤ l.length) (fun k => l.length - k) 0 (.cons rfl .nil) (Wk.refl _) (Nat.zero_le _) ?_
  intro k j hk
  have p1 := hmb k hk
  by_cases hkl : k < l.length
  · obtain ⟨⟨m1, m2⟩, hm⟩ : ∃ m, mmL l k = m := ⟨_, rfl⟩
    have hs := mmL_succ hkl
    have q := hrd L (Sub.refl _) k hkl
    have hbk := hb _ (List.getElem_mem hkl)
    obtain ⟨⟨t1, t2⟩, ht⟩ : ∃ t, l[k] = t := ⟨_, rfl⟩
    rw [hm] at hs p1 ⊢
    rw [ht] at hs q hbk
    dsimp only at hs q hbk p1 ⊢
    obtain ⟨q1, q2⟩ := q
    have r1 : ∀ L', Sub L L' → Rd N w0 L' bA (oA + k * 2) (.int .i64 t1) := fun L' h => Rd.sub q1 h
    have r2 : ∀ L', Sub L L' → Rd N w0 L' bA (oA + k * 2 + 1) (.int .i64 t2) := fun L' h => Rd.sub q2 h
    repeat' (first | (refine GiP ?_; first | (refine Znh ?_) | (with_reducible refine Znl ?_) | (refine Zatn ?_; refine Zst ?_)) | (refine GiW ?_; first | (refine Zsq fun K hK => ?_) | (refine ZrN 3 fun _ => ?_; refine Zv Zmi ?_; refine Zv Zmv ?_; refine Zv Zxlen ?_; refine Zv Zylss ?_) | (refine ZrN 4 fun _ => ?_; refine Zv Zmi ?_; refine Zv Zxadd ?_; refine Zv Zai ?_) | (refine WP_cond_true rfl ?_) | (with_reducible apply WP_skip) | (with_reducible apply WP_block) | (refine WP_drawn (id := 5) [0, 1, 2, 3, 4, 5, 6, 7, 8, 9, 10, 11, 12, 13, 14, 15, 16] [] (k := 1) prog_mixed (by kernel_rfl) rfl ?_; refine Zew rfl Zf0 ?_; (first | (refine Zew rfl (Val_loadD1 rfl (r1 _ (by repeat (first | exact Sub.refl _ | assumption | exact Sub.left | apply Sub.cons | apply Sub.sv | apply Sub.app)))) ?_) | (refine Zew rfl (Val_loadD1 rfl (r2 _ (by repeat (first | exact Sub.refl _ | assumption | exact Sub.left | apply Sub.cons | apply Sub.sv | apply Sub.app)))) ?_) | (refine Zew rfl Zld ?_)); refine Zew rfl Zmv ?_; refine Zew rfl Zmi ?_; refine Zew rfl Zia ?_; refine Zew rfl Zf0 ?_; (first | (refine Zew rfl (Val_loadD1 rfl (r1 _ (by repeat (first | exact Sub.refl _ | assumption | exact Sub.left | apply Sub.cons | apply Sub.sv | apply Sub.app)))) ?_) | (refine Zew rfl (Val_loadD1 rfl (r2 _ (by repeat (first | exact Sub.refl _ | assumption | exact Sub.left | apply Sub.cons | apply Sub.sv | apply Sub.app)))) ?_) | (refine Zew rfl Zld ?_)); refine Zew rfl Zxmin ?_; refine Zew rfl Zfa ?_; (first | (refine Zew rfl (Val_loadD1 rfl (r1 _ (by repeat (first | exact Sub.refl _ | assumption | exact Sub.left | apply Sub.cons | apply Sub.sv | apply Sub.app)))) ?_) | (refine Zew rfl (Val_loadD1 rfl (r2 _ (by repeat (first | exact Sub.refl _ | assumption | exact Sub.left | apply Sub.cons | apply Sub.sv | apply Sub.app)))) ?_) | (refine Zew rfl Zld ?_)); refine Zew rfl Zmv ?_; refine Zew rfl Zmi ?_; refine Zew rfl Zia ?_; refine Zew rfl Zfa ?_; (first | (refine Zew rfl (Val_loadD1 rfl (r1 _ (by repeat (first | exact Sub.refl _ | assumption | exact Sub.left | apply Sub.cons | apply Sub.sv | apply Sub.app)))) ?_) | (refine Zew rfl (Val_loadD1 rfl (r2 _ (by repeat (first | exact Sub.refl _ | assumption | exact Sub.left | apply Sub.cons | apply Sub.sv | apply Sub.app)))) ?_) | (refine Zew rfl Zld ?_)); refine Zew rfl Zxmax ?_; refine Zew rfl Zxbu ?_)) | (with_reducible apply EWalk_nil) | (refine GiO ?_; first | (refine AnyO_done (by kernel_rfl) ?_; (try with_reducible apply noP_normal); try with_reducible exact key.out) | (refine AnyO_1 17 (by decide +kernel) rfl ?_)) | (refine Zhn ?_) | (with_reducible apply QBlock_normal) | (refine AWalk_0 ?_; refine ZisO ?_) | (with_reducible apply QAny_normal))
    all_goals exact QLoop_normal (k + 1) (.cons rfl .nil) (by repeat (first | exact Off.frame rfl | exact Off.refl _ _ | refine Off.frameT rfl rfl ?_ | refine Off.upd rfl ?_ | refine Off.updO rfl ?_)) (by rw [hs]; exact (by repeat (first | exact Wk.refl _ | apply Wk.keep1 | apply Wk.drop | apply Wk.sv | apply Wk.svD | apply Wk.appD))) (by omega) (by omega)
  · have hke : k = l.length := by omega
    subst hke
    repeat' (first | (refine Znh ?_) | (refine GiW ?_; first | (refine Zsq fun K hK => ?_) | (refine ZrN 3 fun _ => ?_; refine Zv Zmi ?_; refine Zv Zmv ?_; refine Zv Zxlen ?_; refine Zv Zylss ?_) | (refine ZrN 6 fun _ => ?_; refine Zv Zla ?_; refine Zst ?_) | (refine WP_cond_false rfl ?_) | (with_reducible apply WP_exit) | (with_reducible apply WP_ret)) | (refine Zhn ?_) | (refine Zhx ?_) | (with_reducible apply QBlock_hit) | (with_reducible apply QLoop_exit))
    exact QBody_res rfl (.cellN rfl (by repeat (first | exact Mem.here | assumption | apply Mem.there | apply Mem.sv | apply Mem.app)) (.here (.cons (.cons .nil))) .nil) rfl ⟨rfl, (by repeat (first | exact Wk.refl _ | apply Wk.keep1 | apply Wk.drop | apply Wk.sv | apply Wk.svD | apply Wk.appD))⟩
set_option maxHeartbeats 2000000 in
theorem kept_ref (L : Hp) (g : Fg) (hA : DrAt N w0 g) (hv : VD g.d) (lv : List Int) (hl : lv.length = g.d.banks.length) (A : Option Addr) (c : Nat) (hrd : RdI N w0 L A lv) (set : Nat) (hs : set ≤ 1000000) :
    Ret Tryz.prog N w0 L 68 [drV g, .slice A g.d.banks.length c, .int .i64 (set : Int)].toArray (.tuple [.bool (keepS1 g.d (nxt (pickL set g.d.ways 0) lv)), .bool (keepS2 g.d (nxt (pickL set g.d.ways 0) lv))].toArray) := by
  have hnr := hv.nr
  have hnb := hv.nb
  have hfl := fun L h x y hx hy => flows_ref N w0 L g hA hv lv hl A c h set hs x y hx hy
  obtain ⟨nx, hnx⟩ : ∃ nx, nxt (pickL set g.d.ways 0) lv = nx := ⟨_, rfl⟩
  rw [hnx] at hfl ⊢
  have k1 : keepS1 g.d nx = kp1 g.d nx g.d.rights.length := by unfold kp1 keepS1; rw [List.take_length]
  have k2 : keepS2 g.d nx = kp2 g.d nx g.d.rights.length := by unfold kp2 keepS2; rw [List.take_length]
  rw [k1, k2]
  unfold drV drL at hfl ⊢
  obtain ⟨n, hn⟩ : ∃ n, g.d.banks.length = n := ⟨_, rfl⟩
  rw [hn] at hfl hnb hl ⊢
  refine Ret.fgt ?_
  refine tri_of_WP Tryz.func68 rfl (n := _) rfl (by simp) ?_
  repeat' (first | (refine Znh ?_) | (refine GiW ?_; first | (refine Zsq fun K hK => ?_) | (refine ZrN 0 fun _ => ?_; refine Zal 3 fun b3 => ?_; refine Zv Zab ?_; refine Zv Zab ?_) | (refine ZrN 1 fun _ => ?_; refine Zv Zab ?_; refine Zv Zab ?_) | (refine ZrN 2 fun _ => ?_; refine Zv Zai ?_) | (with_reducible apply WP_block)))
  refine WP_loop [8, 9, 10, 11, 12, 13, 14, 15, 16, 17, 18, 19, 20, 21, 22, 23, 24, 25, 26, 27, 28, 29, 30, 31, 32, 33, 34, 35, 36, 37, 38, 39, 40, 41, 42, 43, 44, 45, 46, 47, 48] (fun st : Nat × Bool × Bool => [(10, .int .i64 (st.1 : Int)), (8, .bool st.2.1), (9, .bool st.2.2)]) (fun _ => (b3, Blk 26 [.slice g.A1 n g.c1, .slice g.A2 g.d.ways.length g.c2, .slice g.A3 g.d.rights.length g.c3, .slice g.A4 g.d.seen.length g.c4]) :: L) (fun st => st.1 ≤ g.d.rights.length ∧ st.2.1 = kp1 g.d nx st.1 ∧ st.2.2 = kp2 g.d nx st.1) (fun st => g.d.rights.length - st.1) (0, true, true) (.cons rfl (.cons rfl (.cons rfl .nil))) (Wk.refl _) ⟨Nat.zero_le _, rfl, rfl⟩ ?_
  rintro ⟨k, u1, u2⟩ j ⟨hk, hu1, hu2⟩
  dsimp only at hk hu1 hu2 ⊢
  by_cases hlt : k < g.d.rights.length
  · obtain ⟨bA, oA, hA1, hbA, hcA⟩ := hA.rights.row k hlt
    obtain ⟨t, ht⟩ : ∃ t, g.d.rights[k] = t := ⟨_, rfl⟩
    have htm : t ∈ g.d.rights := by rw [← ht]; exact List.getElem_mem hlt
    have hs1 : kp1 g.d nx (k + 1) = (kp1 g.d nx k && decide ((flowS g.d nx t.a.toNat t.b.toNat).2 ≤ t.most)) := by rw [← ht]; exact all_take_succ hlt
    have hs2 : kp2 g.d nx (k + 1) = (kp2 g.d nx k && decide ((flowS g.d nx t.a.toNat t.b.toNat).1 ≤ t.most)) := by rw [← ht]; exact all_take_succ hlt
    rw [ht] at hcA
    have htb := hv.rt t htm
    rw [hn] at htb
    obtain ⟨ta, tb, tm⟩ := t
    dsimp only at htb hs1 hs2
    obtain ⟨x, rfl⟩ : ∃ a : Nat, ta = a := ⟨ta.toNat, by omega⟩
    obtain ⟨y, rfl⟩ : ∃ b : Nat, tb = b := ⟨tb.toNat, by omega⟩
    simp only [Int.toNat_natCast] at hs1 hs2
    have hf := fun L h => hfl L h x y (by omega) (by omega)
    obtain ⟨⟨f1, f2⟩, hf9⟩ : ∃ f, flowS g.d nx x y = f := ⟨_, rfl⟩
    simp only [hf9] at hf hs1 hs2
    try dsimp only at hs1 hs2
    unfold spL at hf
    dsimp only at hf
    unfold rtL at hcA
    dsimp only at hcA
    simp only [← hu1] at hs1
    simp only [← hu2] at hs2
    clear hu1 hu2
    repeat' (first | (refine Znh ?_) | (refine GiW ?_; first | (refine Zsq fun K hK => ?_) | (refine ZrN 3 fun _ => ?_; refine Zv Zmi ?_; refine Zv Zfa ?_; refine Zv Zld ?_; refine Zv Zxlen ?_; refine Zv Zylss ?_) | (refine ZrN 5 fun _ => ?_; refine Zv Zfa ?_; refine Zv Zld ?_; refine Zv Zmi ?_; refine Zv Zia ?_; refine Zv Zla ?_; refine Zal 11 fun b11 => ?_; refine Zst ?_) | (refine ZrN 6 fun _ => ?_; refine Zv Zla ?_; refine Zv Zmv ?_; refine Zv Zmi ?_; refine Zv Zf0 ?_; refine Zv Zld ?_; refine Zv Zfa ?_; refine Zv Zld ?_; refine Zcl (Enters_fn rfl) (hf _ (hrd.wk (by repeat (first | exact Sub.refl _ | assumption | exact Sub.left | apply Sub.cons | apply Sub.sv | apply Sub.app)))) ?_; refine Zal 12 fun b12 => ?_; refine Zst ?_) | (refine WP_cond_true rfl ?_) | (with_reducible apply WP_skip) | (with_reducible apply WP_block)) | (refine Zhn ?_))
    cases u1 <;> cases u2
    all_goals
      repeat' (first | (refine GiP ?_; first | (refine Znh ?_) | (with_reducible refine Znl ?_) | (refine Zatd 40 ?_; (first | (refine Zv Zxpt ?_) | (refine Zv Zxpf ?_)); refine Zv Zab ?_) | (refine Zatd 48 ?_; (first | (refine Zv Zxpt ?_) | (refine Zv Zxpf ?_)); refine Zv Zab ?_) | (refine Zatd 35 ?_; first | refine Zsk ?_ | (refine Zv Zfa ?_)) | (refine Zatd 36 ?_; first | refine Zsk ?_ | (refine Zv Zld ?_)) | (refine Zatd 37 ?_; first | refine Zsk ?_ | (refine Zv Zfa ?_)) | (refine Zatd 38 ?_; first | refine Zsk ?_ | (refine Zv Zld ?_)) | (refine Zatd 39 ?_; first | refine Zsk ?_ | (refine Zv Zxleq ?_)) | (refine Zatd 43 ?_; first | refine Zsk ?_ | (refine Zv Zf0 ?_)) | (refine Zatd 44 ?_; first | refine Zsk ?_ | (refine Zv Zld ?_)) | (refine Zatd 45 ?_; first | refine Zsk ?_ | (refine Zv Zfa ?_)) | (refine Zatd 46 ?_; first | refine Zsk ?_ | (refine Zv Zld ?_)) | (refine Zatd 47 ?_; first | refine Zsk ?_ | (refine Zv Zxleq ?_))) | (refine GiW ?_; first | (refine ZrG 7 ?_; refine Zv Zmb ?_; refine Zv Zmb ?_) | (refine ZrG 8 ?_; refine Zv Zmb ?_; refine Zv Zmb ?_) | (refine ZrN 4 fun _ => ?_; refine Zv Zmi ?_; refine Zv Zxadd ?_; refine Zv Zai ?_)) | (refine Zhn ?_) | (with_reducible apply QBlock_normal))
      all_goals exact QLoop_normal (k + 1, kp1 g.d nx (k + 1), kp2 g.d nx (k + 1)) (.cons rfl (.cons (by dsimp only; rw [hs1]; first | rfl | simp) (.cons (by dsimp only; rw [hs2]; first | rfl | simp) .nil))) (by repeat (first | exact Off.frame rfl | exact Off.refl _ _ | refine Off.frameT rfl rfl ?_ | refine Off.upd rfl ?_ | refine Off.updO rfl ?_)) (by repeat (first | exact Wk.refl _ | apply Wk.keep1 | apply Wk.drop | apply Wk.sv | apply Wk.svD | apply Wk.appD)) ⟨by dsimp only; omega, rfl, rfl⟩ (by dsimp only; omega)
  · have hke : k = g.d.rights.length := by omega
    rw [hke] at hu1 hu2
    repeat' (first | (refine Znh ?_) | (refine GiW ?_; first | (refine Zsq fun K hK => ?_) | (refine ZrN 3 fun _ => ?_; refine Zv Zmi ?_; refine Zv Zfa ?_; refine Zv Zld ?_; refine Zv Zxlen ?_; refine Zv Zylss ?_) | (refine ZrN 9 fun _ => ?_; refine Zv Zmb ?_; refine Zv Zmb ?_; refine Zv Zab ?_; refine Zv Zab ?_) | (refine WP_cond_false rfl ?_) | (with_reducible apply WP_exit) | (with_reducible apply WP_ret)) | (refine Zhn ?_) | (refine Zhx ?_) | (with_reducible apply QBlock_hit) | (with_reducible apply QLoop_exit))
    exact QBody_res rfl (.tmp (rfl : _ = Value.bool _) (.tmp (rfl : _ = Value.bool _) .nil)) rfl ⟨by rw [hu1, hu2]; rfl, (by repeat (first | exact Wk.refl _ | apply Wk.keep1 | apply Wk.drop | apply Wk.sv | apply Wk.svD | apply Wk.appD))⟩
end
end Go.Proofs.YtbhgpnbfdjoglaaGreat
end
