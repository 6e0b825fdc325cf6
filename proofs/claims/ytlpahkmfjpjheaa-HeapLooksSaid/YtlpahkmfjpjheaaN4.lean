/- Bits of whole numbers with a sign, that are not negative. · The heap laws in plain terms: the looks of a set alone. · The law HeapClash: the looks of a set, its size. · The document's answer for heaps: which looks are false, and which clash. · The law HeapLooks: its walk. -/
import Derived.Test.YtlpahkmfjpjheaaN1
import Derived.Test.YtlpahkmfjpjheaaN3
section
namespace Go.Proofs.Ytlpahkmfjpjheaa
open Go.RowKit
section
variable {P : Program} {N : Nat} {w0 : World} {L : Hp} {e : Env} {d : Option Nat} {ty : TypeId} {pos : String} {af : Array Edge} {g : Option (Nat × Bool)} {x y : Operand} {t t' : TypeId} {a b i : Nat}
theorem wrap_i64 {m : Nat} (h : m < 2 ^ 63) : IntKind.wrap .i64 (m : Int) = m := IntWalk.i64_in _ ⟨by omega, by omega⟩
theorem Val_andNotS (hx : ev e x = .int .i64 (a : Int)) (hy : ev e y = .int .i64 (b : Int)) (ha : a < 2 ^ 63) (hb : b < 2 ^ 63) :
    Val P N w0 L e ⟨d, .binOp .andNot t x y t', ty, pos, af, g⟩ (.int .i64 ((a &&& (2 ^ 64 - 1 - b) : Nat) : Int)) := by
  refine Val_bits hx hy rfl fun w => ?_
  have h1 : (BitVec.ofInt IntKind.i64.bits (a : Int) &&& ~~~ BitVec.ofInt IntKind.i64.bits (b : Int)).toNat = a &&& (2 ^ 64 - 1 - b) := by
    have e1 : a % 2 ^ IntKind.i64.bits = a := Nat.mod_eq_of_lt (by show a < 2 ^ 64; omega)
    have e2 : b % 2 ^ IntKind.i64.bits = b := Nat.mod_eq_of_lt (by show b < 2 ^ 64; omega)
    rw [BitVec.toNat_and, BitVec.toNat_not]
    simp only [BitVec.ofInt_natCast, BitVec.toNat_ofNat, e1, e2]
    rfl
  simp only [Op.intBits, h1, Sem.run_pure]
  rw [wrap_i64 (Nat.lt_of_le_of_lt Nat.and_le_left ha)]
theorem Val_shlS {k' : IntKind} (hx : ev e x = .int .i64 1) (hy : ev e y = .int k' (i : Int)) (hi : i < 62) :
    Val P N w0 L e ⟨d, .binOp .shl t x y t', ty, pos, af, g⟩ (.int .i64 ((2 ^ i : Nat) : Int)) := by
  refine Val_shift hx hy rfl fun w => ?_
  have h1 : ¬ ((i : Int) < 0) := by omega
  have h2 : min (i : Int).toNat IntKind.i64.bits = i := by
    have : IntKind.i64.bits = 64 := rfl
    simp; omega
  simp only [Op.shift, if_neg h1, h2, Sem.run_pure]
  have h3 : (1 : Int) * 2 ^ i = ((2 ^ i : Nat) : Int) := by norm_cast; simp
  rw [h3, wrap_i64 (Nat.pow_lt_pow_right (by omega) (by omega))]
end
end Go.Proofs.Ytlpahkmfjpjheaa
end

section
namespace Go.Proofs.Ytlpahkmfjpjheaa
open Go.RowKit
/-- The looks whose bits are set, from bit k on. -/
def selL (s : Nat) : List Lk → Nat → List Lk
  | [], _ => []
  | l :: ls, k => if s / 2 ^ k % 2 = 1 then l :: selL s ls (k + 1) else selL s ls (k + 1)
theorem selL_mem {s : Nat} {l : Lk} : ∀ {ls : List Lk} {k : Nat}, l ∈ selL s ls k ↔ ∃ j, ls[j]? = some l ∧ s / 2 ^ (k + j) % 2 = 1
  | [], k => by simp [selL]
  | q :: ls, k => by
    unfold selL
    have ih := selL_mem (s := s) (l := l) (ls := ls) (k := k + 1)
    have key : (∃ j, (q :: ls)[j]? = some l ∧ s / 2 ^ (k + j) % 2 = 1) ↔ (q = l ∧ s / 2 ^ k % 2 = 1) ∨ ∃ j, ls[j]? = some l ∧ s / 2 ^ (k + 1 + j) % 2 = 1 := by
      constructor
      · rintro ⟨j, h1, h2⟩
        cases j with
        | zero => exact .inl ⟨by simpa using h1, by simpa using h2⟩
        | succ j => exact .inr ⟨j, by simpa using h1, by rw [show k + 1 + j = k + (j + 1) by omega]; exact h2⟩
      · rintro (⟨h1, h2⟩ | ⟨j, h1, h2⟩)
        · exact ⟨0, by simp [h1], by simpa using h2⟩
        · exact ⟨j + 1, by simpa using h1, by rw [show k + (j + 1) = k + 1 + j by omega]; exact h2⟩
    rw [key]
    split
    · rename_i h
      rw [List.mem_cons, ih]
      exact ⟨fun h1 => h1.elim (fun h2 => .inl ⟨h2.symm, h⟩) .inr, fun h1 => h1.elim (fun h2 => .inl h2.1.symm) .inr⟩
    · rename_i h
      rw [ih]
      exact ⟨.inr, fun h1 => h1.elim (fun h2 => absurd h2.2 h) id⟩
theorem selL_len (s : Nat) : ∀ (ls : List Lk) (k : Nat), (selL s ls k).length ≤ ls.length
  | [], _ => Nat.le_refl _
  | _ :: ls, k => by
    have := selL_len s ls (k + 1)
    unfold selL
    split <;> simp <;> omega
theorem selL_snoc (s : Nat) (q : Lk) : ∀ (ls : List Lk) (k : Nat), selL s (ls ++ [q]) k = selL s ls k ++ (if s / 2 ^ (k + ls.length) % 2 = 1 then [q] else [])
  | [], k => by simp [selL]
  | l :: ls, k => by
    simp only [List.cons_append, selL]
    rw [selL_snoc s q ls (k + 1), List.length_cons, show k + 1 + ls.length = k + (ls.length + 1) by omega]
    split <;> simp
def selH (h : Hv) (s : Nat) : Hv := { h with looks := selL s h.looks 0 }
theorem VH_sel {h : Hv} (hv : VH h) (s : Nat) : VH (selH h s) := by
  refine ⟨hv.nh, hv.nr, hv.lim, Nat.le_trans (selL_len s h.looks 0) hv.nl, hv.tf, hv.rn, hv.dr, fun l hl => ?_⟩
  obtain ⟨j, h1, _⟩ := selL_mem.1 hl
  exact hv.lk l (List.mem_of_getElem? h1)
theorem One_sel {h : Hv} {s : Nat} {r : List Int} {i : Nat} {n : Int} : One (selH h s) (evL (selH h s)) r i n ↔ One h s r i n := by
  unfold One
  refine ⟨fun ⟨a, b, c⟩ => ⟨a, b, fun j l hj hs hi => ?_⟩, fun ⟨a, b, c⟩ => ⟨a, b, fun j l hj _ hi => ?_⟩⟩
  · have hm : l ∈ selL s h.looks 0 := selL_mem.2 ⟨j, hj, by simpa using hs⟩
    obtain ⟨q, hq, he⟩ := List.getElem_of_mem hm
    exact c q l (by show (selL s h.looks 0)[q]? = some l; rw [List.getElem?_eq_getElem hq, he]) (evL_bit.2 hq) hi
  · have hm : l ∈ selL s h.looks 0 := List.mem_of_getElem? hj
    obtain ⟨q, hq, hb⟩ := selL_mem.1 hm
    exact c q l hq (by simpa using hb) hi
/-- The looks of a set alone: there is a truth just if they can all be right. -/
theorem sel_told {h : Hv} (hv : VH h) (s : Nat) : toldL (selH h s) ≠ [] ↔ someB h s = true := by
  rw [Ne, toldL_nil (VH_sel hv s), Classical.not_not, someB_iff hv]
  constructor
  · rintro ⟨r, h1, h2⟩
    exact ⟨r, h1, fun i hi => let ⟨n, hn⟩ := h2 i hi; ⟨n, One_sel.1 hn⟩⟩
  · rintro ⟨r, h1, h2⟩
    exact ⟨r, h1, fun i hi => let ⟨n, hn⟩ := h2 i hi; ⟨n, One_sel.2 hn⟩⟩
/-- What is asked of the rain of the first day. -/
theorem sel_rain {h : Hv} (hv : VH h) (s : Nat) : (errE (selH h s) (DayOk (selH h s) ((0 : Nat) : Int)) = 10 ∧ someB h s = false) ∨ (errE (selH h s) (DayOk (selH h s) ((0 : Nat) : Int)) = 0 ∧ someB h s = true) := by
  have hV := VH_sel hv s
  have h0 : 0 < (selH h s).rains.length := by have := hv.nr; show 0 < h.rains.length; omega
  have ht := sel_told hv s
  by_cases h1 : toldL (selH h s) = []
  · refine .inl ⟨(rain_clash (vB_of' hV) h1 h0).2, ?_⟩
    cases h2 : someB h s with
    | false => rfl
    | true => exact absurd h1 (ht.2 h2)
  · exact .inr ⟨(rain_ok (vB_of' hV) h1 h0).2, ht.1 h1⟩
end Go.Proofs.Ytlpahkmfjpjheaa
end

section
namespace Go.Proofs.Ytlpahkmfjpjheaa
open Go.RowKit
/-- How many bits are set. -/
def sizeN : Nat → Nat → Nat
  | 0, _ => 0
  | f + 1, s => if s = 0 then 0 else s % 2 + sizeN f (s / 2)
attribute [local irreducible] AnyO AnyB QAny QB EWalk AWalk Ev WP OPS QThen QBlock QScope QLoop QBody Val New Turn Tri Enters PostA Blk Ro
attribute [local irreducible] AnyC QC
section
variable (N : Nat) (w0 : World)
theorem size43_ret (L : Hp) (s : Nat) (hs : s < 2 ^ 19) : Ret Try.prog N w0 L 43 [.int .i64 (s : Int)].toArray (.int .i64 (sizeN 19 s : Int)) := by
  refine Ret.fgt ?_
  refine tri_of_WP Try.func43 rfl (n := 13) rfl (by simp) ?_
  repeat' (first | (refine GiP ?_; first | (refine Znh ?_) | (with_reducible refine Znl ?_)) | (refine GiW ?_; first | (refine Zsq fun K hK => ?_) | (refine ZrN 0 fun _ => ?_; refine Zv Zai ?_) | (refine ZrN 1 fun _ => ?_; refine Zv Zai ?_) | (refine WP_cond_true rfl ?_) | (refine WP_cond_false rfl ?_) | (refine Zcd (fun hc => ?_) (fun hc => ?_) <;> (try (exfalso; omega))) | (with_reducible apply WP_skip) | (with_reducible apply WP_block) | (with_reducible apply WP_exit) | (with_reducible apply WP_ret)) | (refine Zhn ?_) | (with_reducible apply QBlock_normal) | (refine Zhx ?_) | (with_reducible apply QBlock_hit) | (refine Zqb ?_) | (with_reducible apply QLoop_exit) | (refine Zhr ?_) | (with_reducible apply QBlock_ret) | (with_reducible apply QLoop_ret))
  refine WP_loop [0, 3, 4, 5, 6, 7, 8, 9, 10, 11] (fun st : Nat × Nat × Nat => [(0, .int .i64 (st.1 : Int)), (3, .int .i64 (st.2.1 : Int))]) (fun _ => L) (fun st => st.1 < 2 ^ st.2.2 ∧ st.2.2 ≤ 19 ∧ st.2.1 ≤ 19 - st.2.2 ∧ st.2.1 + sizeN st.2.2 st.1 = sizeN 19 s) (fun st => st.1) (s, 0, 19) (.cons rfl (.cons rfl .nil)) (Wk.refl _) ⟨hs, Nat.le_refl _, Nat.zero_le _, by simp⟩ ?_
  rintro ⟨q, n, f⟩ j ⟨h1, h2, h3, h4⟩
  dsimp only at h1 h2 h3 h4 ⊢
  by_cases hq : q = 0
  · subst hq
    have h5 : sizeN f 0 = 0 := by cases f <;> rfl
    rw [h5, Nat.add_zero] at h4
    repeat' (first | (refine GiP ?_; first | (refine Znh ?_) | (with_reducible refine Znl ?_)) | (refine GiW ?_; first | (refine Zsq fun K hK => ?_) | (refine ZrN 2 fun _ => ?_; refine Zv Zmi ?_; refine Zv Zygtr ?_) | (refine ZrN 4 fun _ => ?_; refine Zv Zmi ?_; refine Zv Zai ?_) | (refine WP_cond_true rfl ?_) | (refine WP_cond_false rfl ?_) | (refine Zcd (fun hc => ?_) (fun hc => ?_) <;> (try (exfalso; omega))) | (with_reducible apply WP_skip) | (with_reducible apply WP_block) | (with_reducible apply WP_exit) | (with_reducible apply WP_ret)) | (refine Zhn ?_) | (with_reducible apply QBlock_normal) | (refine Zhx ?_) | (with_reducible apply QBlock_hit) | (refine Zqb ?_) | (with_reducible apply QLoop_exit) | (refine Zhr ?_) | (with_reducible apply QBlock_ret) | (with_reducible apply QLoop_ret))
    exact QBody_ret1 rfl (rfl : _ = Value.int _ _) ⟨by rw [h4], (by repeat (first | exact Wk.refl _ | apply Wk.keep1 | apply Wk.drop | apply Wk.sv | apply Wk.svD | apply Wk.appD))⟩
  · obtain ⟨f', rfl⟩ : ∃ f', f = f' + 1 := ⟨f - 1, by cases f with | zero => simp at h1; omega | succ f => rfl⟩
    have hp : 2 ^ (f' + 1) ≤ 2 ^ 19 := Nat.pow_le_pow_right (by omega) h2
    have h5 : sizeN (f' + 1) q = q % 2 + sizeN f' (q / 2) := by show (if q = 0 then 0 else _) = _; rw [if_neg hq]
    obtain ⟨r, hr⟩ : ∃ r, q % 2 = r := ⟨_, rfl⟩
    obtain ⟨t, ht⟩ : ∃ t, q / 2 = t := ⟨_, rfl⟩
    have hr2 : r < 2 := by omega
    rw [h5, hr, ht] at h4
    have h6 : q < 524288 := by omega
    repeat' (first | (refine GiP ?_; first | (refine Znh ?_) | (with_reducible refine Znl ?_)) | (refine GiW ?_; first | (refine Zsq fun K hK => ?_) | (refine ZrN 2 fun _ => ?_; refine Zv Zmi ?_; refine Zv Zygtr ?_) | (refine ZrN 3 fun _ => ?_; refine Zv Zmi ?_; refine Zv Zmi ?_; refine Zv (Val_remE2 hr (by omega) rfl rfl) ?_; refine Zv Zxadd ?_; refine Zv Zmi ?_; refine Zv (Val_quoE ht (by omega) (by omega) rfl rfl) ?_; refine Zv Zai ?_; refine Zv Zai ?_) | (refine WP_cond_true rfl ?_) | (refine WP_cond_false rfl ?_) | (refine Zcd (fun hc => ?_) (fun hc => ?_) <;> (try (exfalso; omega))) | (with_reducible apply WP_skip) | (with_reducible apply WP_block) | (with_reducible apply WP_exit) | (with_reducible apply WP_ret)) | (refine Zhn ?_) | (with_reducible apply QBlock_normal) | (refine Zhx ?_) | (with_reducible apply QBlock_hit) | (refine Zqb ?_) | (with_reducible apply QLoop_exit) | (refine Zhr ?_) | (with_reducible apply QBlock_ret) | (with_reducible apply QLoop_ret))
    refine QLoop_normal (t, n + r, f') (.cons rfl (.cons rfl .nil)) (by repeat (first | exact Off.frame rfl | exact Off.refl _ _ | refine Off.frameT rfl rfl ?_ | refine Off.upd rfl ?_ | refine Off.updO rfl ?_)) (by repeat (first | exact Wk.refl _ | apply Wk.keep1 | apply Wk.drop | apply Wk.sv | apply Wk.svD | apply Wk.appD)) ⟨?_, by dsimp only; omega, by dsimp only; omega, by dsimp only; omega⟩ (by dsimp only; omega)
    dsimp only
    rw [Nat.pow_succ] at h1
    omega
theorem size_pc {s : Nat} (hs : s < 32) : sizeN 19 s = pc s := by
  have : ∀ s, s < 32 → sizeN 19 s = pc s := by decide +kernel
  exact this s hs
theorem Val_andE {L : Hp} {e : Env} {d : Option Nat} {ty : TypeId} {pos : String} {af : Array Edge} {g : Option (Nat × Bool)} {x y : Operand} {t t' : TypeId} {a b c : Nat} (hc : a &&& b = c) (ha : a < 2 ^ 63) (hb : b < 2 ^ 63) (hx : ev e x = .int .i64 (a : Int)) (hy : ev e y = .int .i64 (b : Int)) : Val Try.prog N w0 L e ⟨d, .binOp .and t x y t', ty, pos, af, g⟩ (.int .i64 (c : Int)) := by
  subst hc
  exact Val_andS hx hy ha hb
set_option maxRecDepth 100000 in
set_option maxHeartbeats 4000000 in
theorem clash42_ret (L : Hp) (g : Bg) (hA : HeapAt N w0 g) (hv : VH g.h) (bh : Nat) (hm : Mem bh (Blk 27 (hvL g)) L) (s : Nat) (hs : s < 2 ^ 19) : Ret Try.prog N w0 L 42 [.int .i64 (s : Int), .pointer (some ⟨bh, 0, none⟩)].toArray (.bool (!someB g.h s)) := by
  have hnl := hv.nl
  refine Ret.fgt ?_
  refine tri_of_WP Try.func42 rfl (n := 38) rfl (by simp) ?_
  obtain ⟨bv, hbv⟩ : ∃ bv, someB g.h s = bv := ⟨_, rfl⟩
  have hsr := sel_rain hv s
  rw [hbv] at hsr ⊢
  unfold hvL at hm
  repeat' (first | (refine GiP ?_; first | (refine Znh ?_) | (with_reducible refine Znl ?_)) | (refine GiW ?_; first | (refine Zsq fun K hK => ?_) | (refine ZrN 0 fun _ => ?_; refine Zv Zab ?_) | (refine ZrN 1 fun _ => ?_; refine Zv Zla ?_; refine Zal 4 fun b4 => ?_; refine Zst ?_) | (refine ZrN 2 fun _ => ?_; refine Zv Zfa ?_; refine Zst ?_) | (refine ZrN 3 fun _ => ?_; refine Zv Zfa ?_; refine Zv Zld ?_; refine Zv Zxlen ?_; refine Zv Zmi ?_) | (refine WP_cond_true rfl ?_) | (refine WP_cond_false rfl ?_) | (refine Zcd (fun hc => ?_) (fun hc => ?_) <;> (try (exfalso; omega))) | (with_reducible apply WP_skip) | (with_reducible apply WP_block) | (with_reducible apply WP_exit) | (with_reducible apply WP_ret)) | (refine Zhn ?_) | (with_reducible apply QBlock_normal) | (refine Zhx ?_) | (with_reducible apply QBlock_hit) | (refine Zqb ?_) | (with_reducible apply QLoop_exit) | (refine Zhr ?_) | (with_reducible apply QBlock_ret) | (with_reducible apply QLoop_ret))
  refine WP_loop [5, 6, 14, 15, 16, 17, 18, 19, 20, 21, 22, 23, 24, 25, 26, 27, 28, 29, 30] (fun st : Nat × List Lk × List Value × Option (Nat × Nat) => [(14, .int .i64 st.1)]) (fun st => svH 61 4 st.2.1.length st.2.2.1 st.2.2.2 ((b4, Blk 27 [.slice g.A1 g.h.heaps.length g.c1, .slice g.A2 g.h.rains.length g.c2, .int .i64 g.h.d0, .int .i64 g.h.d1, .int .i64 g.h.d2, .int .i64 g.h.limit, svV st.2.2.2 st.2.1.length]) :: L)) (fun st => st.1 ≤ g.h.looks.length ∧ st.2.1 = selL s (g.h.looks.take st.1) 0 ∧ svOk st.2.2.2 4 st.2.1.length st.2.2.1 ∧ st.2.2.1 = (st.2.1.map lkL).flatten) (fun st => g.h.looks.length - st.1) (0, [], [], none) (.cons rfl .nil) (Wk.refl _) ⟨Nat.zero_le _, rfl, svOk_nil _, rfl⟩ ?_
  rintro ⟨k, ys, xs, s3⟩ j ⟨hk, hys, hs3, hxs⟩
  dsimp only at hk hys hs3 hxs ⊢
  have hyl : ys.length ≤ 5 := by rw [hys]; exact Nat.le_trans (selL_len _ _ _) (by rw [List.length_take]; omega)
  by_cases hkl : k < g.h.looks.length
  · obtain ⟨bA, oA, hA3, hbA, hcA⟩ := hA.looks.row k hkl
    obtain ⟨l, hl⟩ : ∃ l, g.h.looks[k] = l := ⟨_, rfl⟩
    rw [hl] at hcA
    obtain ⟨l1, l2, l3, l4⟩ := l
    have hsn := selL_snoc s (⟨l1, l2, l3, l4⟩ : Lk) (g.h.looks.take k) 0
    rw [Nat.zero_add, List.length_take, Nat.min_eq_left hk, ← hl, ← List.take_succ_eq_append_getElem hkl, ← hys, hl] at hsn
    obtain ⟨bt, hbt⟩ : ∃ bt, (s / 2 ^ k) &&& 1 = bt := ⟨_, rfl⟩
    have hb2 : bt = s / 2 ^ k % 2 := by rw [← hbt]; exact Nat.and_one_is_mod _
    have hsk : s / 2 ^ k < 2 ^ 63 := Nat.lt_of_le_of_lt (Nat.div_le_self _ _) (by omega)
    by_cases h1 : bt = 1
    · rw [if_pos (by omega)] at hsn
      repeat' (first | (refine GiP ?_; first | (refine Znh ?_) | (with_reducible refine Znl ?_)) | (refine GiW ?_; first | (refine Zsq fun K hK => ?_) | (refine ZrN 4 fun _ => ?_; refine Zv Zylss ?_) | (refine ZrN 5 fun _ => ?_; refine Zv Zmi ?_; refine Zv Zia ?_; refine Zv Zla ?_; refine Zal 6 fun b6 => ?_; refine Zv Zai ?_; refine Zst ?_) | (refine ZrN 6 fun _ => ?_; refine Zv Zmi ?_; refine Zv Zmi ?_; refine Zv (Val_shr (i := k) rfl rfl (by show k ≤ 64; omega)) ?_; refine Zv (Val_andE N w0 hbt hsk (by omega) rfl rfl) ?_; refine Zv Zyeql ?_) | (refine ZrN 7 fun _ => ?_; refine Zv Zfa ?_; refine Zv Zld ?_; refine Zv Zla ?_; refine Zal 27 fun b27 => ?_; refine Zag (fun s28 hs28 => ?_); refine Zv Zfa ?_; refine Zst ?_) | (refine ZrN 8 fun _ => ?_; refine Zv Zxadd ?_; refine Zv Zmi ?_) | (refine WP_cond_true rfl ?_) | (refine WP_cond_false rfl ?_) | (refine Zcd (fun hc => ?_) (fun hc => ?_) <;> (try (exfalso; omega))) | (with_reducible apply WP_skip) | (with_reducible apply WP_block) | (with_reducible apply WP_exit) | (with_reducible apply WP_ret)) | (refine Zhn ?_) | (with_reducible apply QBlock_normal) | (refine Zhx ?_) | (with_reducible apply QBlock_hit) | (refine Zqb ?_) | (with_reducible apply QLoop_exit) | (refine Zhr ?_) | (with_reducible apply QBlock_ret) | (with_reducible apply QLoop_ret))
      refine QLoop_normal (k + 1, ys ++ [⟨l1, l2, l3, l4⟩], _, s28) (.cons rfl .nil) (by repeat (first | exact Off.frame rfl | exact Off.refl _ _ | refine Off.frameT rfl rfl ?_ | refine Off.upd rfl ?_ | refine Off.updO rfl ?_)) ?_ ⟨by dsimp only; omega, hsn.symm, by rw [List.length_append]; exact hs28, by dsimp only; rw [hxs]; simp [lkL]⟩ (by dsimp only; omega)
      dsimp only
      rw [List.length_append, List.length_singleton]
      exact (by repeat (first | exact Wk.refl _ | apply Wk.keep1 | apply Wk.drop | apply Wk.sv | apply Wk.svD | apply Wk.appD))
    · rw [if_neg (by omega), List.append_nil] at hsn
      repeat' (first | (refine GiP ?_; first | (refine Znh ?_) | (with_reducible refine Znl ?_)) | (refine GiW ?_; first | (refine Zsq fun K hK => ?_) | (refine ZrN 4 fun _ => ?_; refine Zv Zylss ?_) | (refine ZrN 5 fun _ => ?_; refine Zv Zmi ?_; refine Zv Zia ?_; refine Zv Zla ?_; refine Zal 6 fun b6 => ?_; refine Zv Zai ?_; refine Zst ?_) | (refine ZrN 6 fun _ => ?_; refine Zv Zmi ?_; refine Zv Zmi ?_; refine Zv (Val_shr (i := k) rfl rfl (by show k ≤ 64; omega)) ?_; refine Zv (Val_andE N w0 hbt hsk (by omega) rfl rfl) ?_; refine Zv Zyeql ?_) | (refine ZrN 8 fun _ => ?_; refine Zv Zxadd ?_; refine Zv Zmi ?_) | (refine WP_cond_true rfl ?_) | (refine WP_cond_false rfl ?_) | (refine Zcd (fun hc => ?_) (fun hc => ?_) <;> (try (exfalso; omega))) | (with_reducible apply WP_skip) | (with_reducible apply WP_block) | (with_reducible apply WP_exit) | (with_reducible apply WP_ret)) | (refine Zhn ?_) | (with_reducible apply QBlock_normal) | (refine Zhx ?_) | (with_reducible apply QBlock_hit) | (refine Zqb ?_) | (with_reducible apply QLoop_exit) | (refine Zhr ?_) | (with_reducible apply QBlock_ret) | (with_reducible apply QLoop_ret))
      exact QLoop_normal (k + 1, ys, xs, s3) (.cons rfl .nil) (by repeat (first | exact Off.frame rfl | exact Off.refl _ _ | refine Off.frameT rfl rfl ?_ | refine Off.upd rfl ?_ | refine Off.updO rfl ?_)) (by repeat (first | exact Wk.refl _ | apply Wk.keep1 | apply Wk.drop | apply Wk.sv | apply Wk.svD | apply Wk.appD)) ⟨by dsimp only; omega, hsn.symm, hs3, hxs⟩ (by dsimp only; omega)
  · have hkn : k = g.h.looks.length := by omega
    subst hkn
    rw [List.take_length] at hys
    obtain ⟨A3, c3, e3, hr3⟩ := sl_sv (E := 61) (by omega) hs3
    rw [e3]
    have h16 : ∀ L' Lt, Wk L' (svH 61 4 ys.length xs s3 Lt) → Ret Try.prog N w0 L' 16 [.agg [.slice g.A1 g.h.heaps.length g.c1, .slice g.A2 g.h.rains.length g.c2, .int .i64 g.h.d0, .int .i64 g.h.d1, .int .i64 g.h.d2, .int .i64 g.h.limit, .slice A3 ys.length c3].toArray, .int .i64 0].toArray (.tuple [.agg [.int .i64 (RainV (selH g.h s) ((0 : Nat) : Int)).1, .int .i64 (RainV (selH g.h s) ((0 : Nat) : Int)).2].toArray, .int .i64 (errE (selH g.h s) (DayOk (selH g.h s) ((0 : Nat) : Int)))].toArray) := by
      intro L' Lt hk'
      have hin : HeapIn N w0 L' { g with h := selH g.h s, A3 := A3, c3 := c3 } := fun w hI => ⟨hA.heaps.now hI, hA.rains.now hI, by
        have := hr3 (hI.wk hk') hxs (map_len (f := lkL) (fun _ => rfl) _)
        rw [hys] at this
        exact this⟩
      have h1 := Rain_in N w0 L' _ hin ((0 : Nat) : Int)
      unfold heapV hvL at h1
      have hlen : (selH g.h s).looks.length = ys.length := by rw [hys]; rfl
      dsimp only at h1
      rw [hlen] at h1
      exact h1
    rcases hsr with ⟨e1, rfl⟩ | ⟨e1, rfl⟩
    all_goals
      rw [e1] at h16
      repeat' (first | (refine GiP ?_; first | (refine Znh ?_) | (with_reducible refine Znl ?_)) | (refine GiW ?_; first | (refine Zsq fun K hK => ?_) | (refine ZrN 4 fun _ => ?_; refine Zv Zylss ?_) | (refine ZrN 9 fun _ => ?_; refine Zv Zla ?_; refine Zcl (Enters_fn rfl) (h16 _ _ (by repeat (first | exact Wk.refl _ | apply Wk.keep1 | apply Wk.drop | apply Wk.sv | apply Wk.svD | apply Wk.appD))) ?_; refine Zv Zmv ?_; refine Zv Zxex ?_; refine Zv Zxex ?_; refine Zal 7 fun b7 => ?_; refine Zst ?_; refine Zv Zai ?_) | (refine ZrN 10 fun _ => ?_; refine Zv Zmi ?_; refine Zv Zyeql ?_; refine Zv Zab ?_) | (refine WP_cond_true rfl ?_) | (refine WP_cond_false rfl ?_) | (refine Zcd (fun hc => ?_) (fun hc => ?_) <;> (try (exfalso; omega))) | (with_reducible apply WP_skip) | (with_reducible apply WP_block) | (with_reducible apply WP_exit) | (with_reducible apply WP_ret)) | (refine Zhn ?_) | (with_reducible apply QBlock_normal) | (refine Zhx ?_) | (with_reducible apply QBlock_hit) | (refine Zqb ?_) | (with_reducible apply QLoop_exit) | (refine Zhr ?_) | (with_reducible apply QBlock_ret) | (with_reducible apply QLoop_ret))
      exact QBody_ret1 rfl (rfl : _ = Value.bool _) ⟨rfl, (by repeat (first | exact Wk.refl _ | apply Wk.keep1 | apply Wk.drop | apply Wk.sv | apply Wk.svD | apply Wk.appD))⟩
end
end Go.Proofs.Ytlpahkmfjpjheaa
end

section
namespace Go.Proofs.Ytlpahkmfjpjheaa
open Go.RowKit
/-- The best set of the first ones: the fewest, of these the least. -/
structure Best (P : Nat → Bool) (top k b : Nat) : Prop where
  h1 : b = top ∨ b < k ∧ P b = true
  h2 : pc b ≤ pc top
  h3 : ∀ y, y < k → P y = true → pc b ≤ pc y
  h4 : ∀ y, y < k → P y = true → pc y = pc b → b ≤ y ∨ pc b = pc top
theorem pc_max : ∀ k, k < 6 → ∀ x, x < 2 ^ k → (pc x = pc (2 ^ k - 1) → x = 2 ^ k - 1) ∧ pc x ≤ pc (2 ^ k - 1) := by decide +kernel
theorem Best.step {P : Nat → Bool} {top k b : Nat} (h : Best P top k b) : (pc k < pc b ∧ P k = true → Best P top (k + 1) k) ∧ (¬ (pc k < pc b ∧ P k = true) → Best P top (k + 1) b) := by
  obtain ⟨h1, h2, h3, h4⟩ := h
  constructor
  · rintro ⟨a, c⟩
    refine ⟨.inr ⟨by omega, c⟩, by omega, fun y hy hp => ?_, fun y hy hp he => ?_⟩
    · by_cases hyk : y = k
      · rw [hyk]; exact Nat.le_refl _
      · have := h3 y (by omega) hp; omega
    · by_cases hyk : y = k
      · left; omega
      · have := h3 y (by omega) hp; omega
  · intro hc
    refine ⟨h1.imp id fun ⟨a, c⟩ => ⟨by omega, c⟩, h2, fun y hy hp => ?_, fun y hy hp he => ?_⟩
    · by_cases hyk : y = k
      · subst hyk
        by_cases hl : pc y < pc b
        · exact absurd ⟨hl, hp⟩ hc
        · omega
      · exact h3 y (by omega) hp
    · by_cases hyk : y = k
      · subst hyk
        rcases h1 with h1 | h1
        · right; rw [h1]
        · left; omega
      · exact h4 y (by omega) hp he
/-- In the end it is the first one of all, by size, then by value. -/
theorem Best.done {P : Nat → Bool} {n b x : Nat} (hn : n < 6) (h : Best P (2 ^ n - 1) (2 ^ n) b) (hx : x < 2 ^ n) (hp : P x = true) (hmin : ∀ y, y < 2 ^ n → lexB y x = true → P y = false) : b = x := by
  have hp0 := Nat.two_pow_pos n
  obtain ⟨h1, h2, h3, h4⟩ := h
  have hb : b < 2 ^ n := by rcases h1 with h1 | h1; omega; exact h1.1
  have hbx := h3 x hx hp
  obtain ⟨m1, m2⟩ := pc_max n hn x hx
  obtain ⟨m3, m4⟩ := pc_max n hn b hb
  by_cases hbt : pc b = pc (2 ^ n - 1)
  · have e1 := m3 hbt
    have e2 := m1 (by omega)
    omega
  · have hpb : P b = true := by
      rcases h1 with h1 | h1
      · rw [h1] at hbt; exact absurd rfl hbt
      · exact h1.2
    have hlx : lexB b x ≠ true := fun hh => by rw [hmin b hb hh] at hpb; cases hpb
    have hlx' : ¬ (pc b < pc x ∨ (pc b = pc x ∧ b < x)) := fun hh => hlx (decide_eq_true hh)
    rcases h4 x hx hp (by omega) with h5 | h5
    · omega
    · exact absurd h5 hbt
theorem Best.init (P : Nat → Bool) (top : Nat) : Best P top 0 top := ⟨.inl rfl, Nat.le_refl _, fun y hy => absurd hy (Nat.not_lt_zero _), fun y hy => absurd hy (Nat.not_lt_zero _)⟩
attribute [local irreducible] AnyO AnyB QAny QB EWalk AWalk Ev WP OPS QThen QBlock QScope QLoop QBody Val New Turn Tri Enters PostA Blk Ro
attribute [local irreducible] AnyC QC
section
variable (N : Nat) (w0 : World)
/-- How many truths there are: some, or none. -/
theorem truths79_some (L : Hp) (g : Bg) (hA : HeapAt N w0 g) (hv : VH g.h) (s : Nat) (hs : s ≤ 1000000) : Tri Try.prog N w0 L 79 [heapV g, .int .i64 (s : Int)].toArray fun x L2 => ∃ v, x = .returned v ∧ ∃ A n c X, v = .slice A n c ∧ L2 = X ++ L ∧ (someB g.h s = decide (0 < n)) := by
  refine (truths79_tri N w0 L g hA hv s hs).mono ?_
  rintro x L2 ⟨v, rfl, X, rfl, A, c, rfl, _⟩
  refine ⟨_, rfl, A, _, c, X, rfl, rfl, ?_⟩
  rw [Bool.eq_iff_iff, decide_eq_true_eq]
  have h1 := truthsL_some hv (s := s)
  constructor
  · intro h2
    refine List.length_pos_iff.2 fun h3 => ?_
    rw [h1.1 h3] at h2; cases h2
  · intro h2
    cases hs : someB g.h s with
    | true => rfl
    | false => rw [h1.2 hs] at h2; simp at h2
set_option maxRecDepth 100000 in
set_option maxHeartbeats 4000000 in
theorem false27_ret (L : Hp) (g : Bg) (hA : HeapAt N w0 g) (h1 : g.h.heaps.length ≤ 1000000) (h2 : g.h.rains.length ≤ 1000000) (h3 : g.h.looks.length ≤ 1000000) :
    Ret Try.prog N w0 L 27 [heapV g].toArray (.tuple [.int .i64 (FalseV g.h).1, .int .i64 (FalseV g.h).2, .int .i64 (FalseE g.h)].toArray) := by
  have h77 := fun L => check77_ret N w0 L g hA h1 h2 h3 true
  refine Ret.fgt ?_
  refine tri_of_WP Try.func27 rfl (n := 40) rfl (by simp) ?_
  cases hvb : vB g.h with
  | false =>
    rw [show errC g.h true = 1 by simp [errC, hvb]] at h77
    rw [show FalseV g.h = (0, 0) by simp [FalseV, hvb], show FalseE g.h = 1 by simp [FalseE, hvb]]
    unfold heapV hvL at h77 ⊢
    repeat' (first | (refine GiP ?_; first | (refine Znh ?_) | (with_reducible refine Znl ?_)) | (refine GiW ?_; first | (refine Zsq fun K hK => ?_) | (refine ZrN 0 fun _ => ?_; refine Zal 1 fun b1 => ?_; refine Zv Zai ?_; refine Zv Zai ?_; refine Zv Zai ?_) | (refine ZrN 1 fun _ => ?_; refine Zv Zla ?_; refine Zcl (Enters_fn rfl) (h77 _) ?_; refine Zv Zai ?_) | (refine ZrN 2 fun _ => ?_; refine Zv Zmi ?_; refine Zv Zyneq ?_) | (refine ZrN 3 fun _ => ?_; refine Zv Zmi ?_; refine Zv Zai ?_; refine Zv Zai ?_; refine Zv Zai ?_) | (refine WP_cond_true rfl ?_) | (refine WP_cond_false rfl ?_) | (refine Zcd (fun hc => ?_) (fun hc => ?_) <;> (try (exfalso; omega))) | (with_reducible apply WP_skip) | (with_reducible apply WP_block) | (with_reducible apply WP_exit) | (with_reducible apply WP_ret)) | (refine Zhn ?_) | (with_reducible apply QBlock_normal) | (refine Zhx ?_) | (with_reducible apply QBlock_hit) | (refine Zqb ?_) | (with_reducible apply QLoop_exit) | (refine Zhr ?_) | (with_reducible apply QBlock_ret) | (with_reducible apply QLoop_ret))
    exact QBody_res rfl (.tmp rfl (.tmp rfl (.tmp rfl .nil))) rfl ⟨rfl, (by repeat (first | exact Wk.refl _ | apply Wk.keep1 | apply Wk.drop | apply Wk.sv | apply Wk.svD | apply Wk.appD))⟩
  | true =>
    have hv := VH_of hvb
    have hnl := hv.nl
    rw [show errC g.h true = 0 by simp [errC, hvb]] at h77
    obtain ⟨hfe, xf, hfv, hx, hsx, hmin⟩ := false_ok hv hvb
    rw [hfe, hfv]
    have h78 := fun L => every78_ret N w0 L g (by omega)
    have hev : evL g.h = 2 ^ g.h.looks.length - 1 := rfl
    have hp0 := Nat.two_pow_pos g.h.looks.length
    have hev1 := evL_le hv
    have h43 := fun L s hs => size43_ret N w0 L s hs
    have h79 := fun L s hs => truths79_some N w0 L g hA hv s hs
    obtain ⟨ev, hev2⟩ : ∃ ev, evL g.h = ev := ⟨_, rfl⟩
    rw [hev2] at h78 hsx hmin hev1
    unfold heapV hvL at h77 h78 h79 ⊢
    repeat' (first | (refine GiP ?_; first | (refine Znh ?_) | (with_reducible refine Znl ?_)) | (refine GiW ?_; first | (refine Zsq fun K hK => ?_) | (refine ZrN 0 fun _ => ?_; refine Zal 1 fun b1 => ?_; refine Zv Zai ?_; refine Zv Zai ?_; refine Zv Zai ?_) | (refine ZrN 1 fun _ => ?_; refine Zv Zla ?_; refine Zcl (Enters_fn rfl) (h77 _) ?_; refine Zv Zai ?_) | (refine ZrN 2 fun _ => ?_; refine Zv Zmi ?_; refine Zv Zyneq ?_) | (refine ZrN 4 fun _ => ?_; refine Zv Zla ?_; refine Zcl (Enters_fn rfl) (h78 _) ?_; refine Zv Zai ?_) | (refine ZrN 5 fun _ => ?_; refine Zv Zai ?_) | (refine WP_cond_true rfl ?_) | (refine WP_cond_false rfl ?_) | (refine Zcd (fun hc => ?_) (fun hc => ?_) <;> (try (exfalso; omega))) | (with_reducible apply WP_skip) | (with_reducible apply WP_block) | (with_reducible apply WP_exit) | (with_reducible apply WP_ret)) | (refine Zhn ?_) | (with_reducible apply QBlock_normal) | (refine Zhx ?_) | (with_reducible apply QBlock_hit) | (refine Zqb ?_) | (with_reducible apply QLoop_exit) | (refine Zhr ?_) | (with_reducible apply QBlock_ret) | (with_reducible apply QLoop_ret))
    refine WP_loop [6, 7, 15, 16, 17, 18, 19, 20, 21, 22, 23, 24, 25, 26, 27, 28, 29, 30, 31, 32, 33, 34, 35, 36] (fun st : Nat × Nat => [(7, .int .i64 (st.1 : Int)), (6, .int .i64 (st.2 : Int))]) (fun _ => (b1, Blk 27 (hvL g)) :: L) (fun st => st.1 ≤ ev + 1 ∧ Best (fun y => someB g.h (ev - y)) (2 ^ g.h.looks.length - 1) st.1 st.2) (fun st => ev + 1 - st.1) (0, ev) (.cons rfl (.cons rfl .nil)) (by repeat (first | exact Wk.refl _ | apply Wk.keep1 | apply Wk.drop | apply Wk.sv | apply Wk.svD | apply Wk.appD)) ⟨Nat.zero_le _, by dsimp only; rw [← hev2, hev]; exact Best.init _ _⟩ ?_
    rintro ⟨k, b⟩ j ⟨hk, hB⟩
    dsimp only at hk hB ⊢
    unfold hvL
    have hbb : b ≤ ev := by
      rcases hB.h1 with h | h
      · rw [h, ← hev2, hev]; exact Nat.le_refl _
      · omega
    have h43b := fun L => h43 L b (by omega)
    rw [size_pc (by omega)] at h43b
    by_cases hlt : k ≤ ev
    · have h43k := fun L => h43 L k (by omega)
      rw [size_pc (by omega)] at h43k
      have h79k := fun L => h79 L (ev - k) (by omega)
      rw [show ((ev - k : Nat) : Int) = (ev : Int) - k by omega] at h79k
      obtain ⟨sb, hsb⟩ : ∃ sb, someB g.h (ev - k) = sb := ⟨_, rfl⟩
      rw [hsb] at h79k
      obtain ⟨st1, st2⟩ := hB.step
      rw [hsb] at st1 st2
      obtain ⟨pk, hpk⟩ : ∃ x, pc k = x := ⟨_, rfl⟩
      obtain ⟨pb, hpb⟩ : ∃ x, pc b = x := ⟨_, rfl⟩
      rw [hpk] at h43k st1 st2
      rw [hpb] at h43b st1 st2
      by_cases hlp : pk < pb
      · cases sb
        · repeat' (first | (refine GiP ?_; first | (refine Znh ?_) | (with_reducible refine Znl ?_) | (refine Zatd 32 ?_; refine OPS_retKS (Enters_fn rfl) (h79k _) rfl rfl rfl (fun v32 L32 h32 => ?_); obtain ⟨A1, n1, c1, X1, rfl, rfl, hn1⟩ := h32; have hn1 := of_decide_eq_false hn1.symm) | (refine Zatd 33 ?_; refine Zv Zxlen ?_) | (refine Zatd 34 ?_; refine Zv Zygtr ?_) | (refine Zatd 35 ?_; refine Zv Zxpt ?_) | (refine Zatd 35 ?_; refine Zv Zxpf ?_) | (refine Zsk ?_) | (refine Zsp (fun hc => ?_) (fun hc => ?_) <;> (try (exfalso; omega)))) | (refine GiW ?_; first | (refine Zsq fun K hK => ?_) | (refine ZrN 6 fun _ => ?_; refine Zv Zmi ?_; refine Zv Zla ?_; refine Zcl (Enters_fn rfl) (h78 _) ?_; refine Zv Zyleq ?_) | (refine ZrN 7 fun _ => ?_; refine Zv Zmi ?_; refine Zv Zxadd ?_; refine Zv Zai ?_) | (refine WP_cond_true rfl ?_) | (refine WP_cond_false rfl ?_) | (refine Zcd (fun hc => ?_) (fun hc => ?_) <;> (try (exfalso; omega))) | (with_reducible apply WP_skip) | (with_reducible apply WP_block) | (with_reducible apply WP_exit) | (with_reducible apply WP_ret) | (refine WP_drawnS (id := 8) [] [0, 1, 2, 3, 4, 5, 6, 7, 8, 9, 10] [] [] (k := 0) (k2 := 4) (by repeat (first | apply Sub.sv | apply Sub.keep | apply Sub.appK | exact Sub.refl _)) (by kernel_rfl) prog_mixed (by kernel_rfl) (by kernel_rfl) rfl ?_; refine Zew rfl Zmi ?_; (first | (refine Zec rfl (Enters_fn rfl) (fun X => h43k _) ?_) | (refine Zec rfl (Enters_fn rfl) (fun X => h43b _) ?_)); refine Zew rfl Zmi ?_; (first | (refine Zec rfl (Enters_fn rfl) (fun X => h43k _) ?_) | (refine Zec rfl (Enters_fn rfl) (fun X => h43b _) ?_)); refine Zew rfl Zylss ?_; refine Zew rfl Zmb ?_)) | (refine GiE ?_; first | (refine Zati 6 ?_; refine Zew rfl Zla ?_) | (refine Zati 7 ?_; refine Zew rfl Zla ?_) | (refine Zati 8 ?_; refine Zec rfl (Enters_fn rfl) (fun X => h78 _) ?_) | (refine Zati 9 ?_; refine Zew rfl Zmi ?_) | (refine Zati 10 ?_; refine Zew rfl Zxsub ?_) | (refine Zes ?_) | (refine Zesp (fun hc => ?_) (fun hc => ?_) <;> (try (exfalso; omega))) | (with_reducible apply EWalk_nil)) | (refine ZgC [0, 1, 2, 3, 4, 5, 6, 7, 8, 9, 10] ?_; refine ZCl _ ?_) | (refine GiO ?_; first | (refine ZgO [0, 1, 2, 3, 4, 5, 6, 7, 8, 9, 10] ?_; refine ZO1 _ 11 [0, 1, 2, 3, 4, 5, 6, 7, 8, 9, 10, 11] ?_) | (refine ZgO [0, 1, 2, 3, 4, 5, 6, 7, 8, 9, 10, 11] ?_; refine ZO1 _ 12 [0, 1, 2, 3, 4, 5, 6, 7, 8, 9, 10, 11, 12] ?_) | (refine ZgO [0, 1, 2, 3, 4, 5, 6, 7, 8, 9, 10, 11, 12] ?_; refine ZO1 _ 13 [0, 1, 2, 3, 4, 5, 6, 7, 8, 9, 10, 11, 12, 13] ?_) | (refine ZgO [0, 1, 2, 3, 4, 5, 6, 7, 8, 9, 10, 11, 12, 13] ?_; refine ZO1 _ 14 [0, 1, 2, 3, 4, 5, 6, 7, 8, 9, 10, 11, 12, 13, 14] ?_) | (refine ZgO [0, 1, 2, 3, 4, 5, 6, 7, 8, 9, 10, 11, 12, 13, 14] ?_; refine ZOd _ ?_; (try with_reducible apply noP_normal); (try with_reducible exact key.out))) | (refine Zhn ?_) | (with_reducible apply QBlock_normal) | (refine Zhx ?_) | (with_reducible apply QBlock_hit) | (refine Zqb ?_) | (with_reducible apply QLoop_exit) | (refine Zhr ?_) | (with_reducible apply QBlock_ret) | (with_reducible apply QLoop_ret) | (refine AWalk_0 ?_) | (with_reducible apply QAny_normal) | (with_reducible apply QC_normal))
          all_goals exact QLoop_normal (k + 1, b) (.cons rfl (.cons rfl .nil)) (by repeat (first | exact Off.frame rfl | exact Off.refl _ _ | refine Off.frameT rfl rfl ?_ | refine Off.upd rfl ?_ | refine Off.updO rfl ?_)) (by repeat (first | exact Wk.refl _ | apply Wk.keep1 | apply Wk.drop | apply Wk.sv | apply Wk.svD | apply Wk.appD)) ⟨by dsimp only; omega, st2 (by simp)⟩ (by dsimp only; omega)
        · repeat' (first | (refine GiP ?_; first | (refine Znh ?_) | (with_reducible refine Znl ?_) | (refine Zatd 32 ?_; refine OPS_retKS (Enters_fn rfl) (h79k _) rfl rfl rfl (fun v32 L32 h32 => ?_); obtain ⟨A1, n1, c1, X1, rfl, rfl, hn1⟩ := h32; have hn1 := of_decide_eq_true hn1.symm) | (refine Zatd 33 ?_; refine Zv Zxlen ?_) | (refine Zatd 34 ?_; refine Zv Zygtr ?_) | (refine Zatd 35 ?_; refine Zv Zxpt ?_) | (refine Zatd 35 ?_; refine Zv Zxpf ?_) | (refine Zsk ?_) | (refine Zsp (fun hc => ?_) (fun hc => ?_) <;> (try (exfalso; omega)))) | (refine GiW ?_; first | (refine Zsq fun K hK => ?_) | (refine ZrN 6 fun _ => ?_; refine Zv Zmi ?_; refine Zv Zla ?_; refine Zcl (Enters_fn rfl) (h78 _) ?_; refine Zv Zyleq ?_) | (refine ZrN 9 fun _ => ?_; refine Zv Zmi ?_; refine Zv Zai ?_) | (refine ZrN 7 fun _ => ?_; refine Zv Zmi ?_; refine Zv Zxadd ?_; refine Zv Zai ?_) | (refine WP_cond_true rfl ?_) | (refine WP_cond_false rfl ?_) | (refine Zcd (fun hc => ?_) (fun hc => ?_) <;> (try (exfalso; omega))) | (with_reducible apply WP_skip) | (with_reducible apply WP_block) | (with_reducible apply WP_exit) | (with_reducible apply WP_ret) | (refine WP_drawnS (id := 8) [] [0, 1, 2, 3, 4, 5, 6, 7, 8, 9, 10] [] [] (k := 0) (k2 := 4) (by repeat (first | apply Sub.sv | apply Sub.keep | apply Sub.appK | exact Sub.refl _)) (by kernel_rfl) prog_mixed (by kernel_rfl) (by kernel_rfl) rfl ?_; refine Zew rfl Zmi ?_; (first | (refine Zec rfl (Enters_fn rfl) (fun X => h43k _) ?_) | (refine Zec rfl (Enters_fn rfl) (fun X => h43b _) ?_)); refine Zew rfl Zmi ?_; (first | (refine Zec rfl (Enters_fn rfl) (fun X => h43k _) ?_) | (refine Zec rfl (Enters_fn rfl) (fun X => h43b _) ?_)); refine Zew rfl Zylss ?_; refine Zew rfl Zmb ?_)) | (refine GiE ?_; first | (refine Zati 6 ?_; refine Zew rfl Zla ?_) | (refine Zati 7 ?_; refine Zew rfl Zla ?_) | (refine Zati 8 ?_; refine Zec rfl (Enters_fn rfl) (fun X => h78 _) ?_) | (refine Zati 9 ?_; refine Zew rfl Zmi ?_) | (refine Zati 10 ?_; refine Zew rfl Zxsub ?_) | (refine Zes ?_) | (refine Zesp (fun hc => ?_) (fun hc => ?_) <;> (try (exfalso; omega))) | (with_reducible apply EWalk_nil)) | (refine ZgC [0, 1, 2, 3, 4, 5, 6, 7, 8, 9, 10] ?_; refine ZCl _ ?_) | (refine GiO ?_; first | (refine ZgO [0, 1, 2, 3, 4, 5, 6, 7, 8, 9, 10] ?_; refine ZO1 _ 11 [0, 1, 2, 3, 4, 5, 6, 7, 8, 9, 10, 11] ?_) | (refine ZgO [0, 1, 2, 3, 4, 5, 6, 7, 8, 9, 10, 11] ?_; refine ZO1 _ 12 [0, 1, 2, 3, 4, 5, 6, 7, 8, 9, 10, 11, 12] ?_) | (refine ZgO [0, 1, 2, 3, 4, 5, 6, 7, 8, 9, 10, 11, 12] ?_; refine ZO1 _ 13 [0, 1, 2, 3, 4, 5, 6, 7, 8, 9, 10, 11, 12, 13] ?_) | (refine ZgO [0, 1, 2, 3, 4, 5, 6, 7, 8, 9, 10, 11, 12, 13] ?_; refine ZO1 _ 14 [0, 1, 2, 3, 4, 5, 6, 7, 8, 9, 10, 11, 12, 13, 14] ?_) | (refine ZgO [0, 1, 2, 3, 4, 5, 6, 7, 8, 9, 10, 11, 12, 13, 14] ?_; refine ZOd _ ?_; (try with_reducible apply noP_normal); (try with_reducible exact key.out))) | (refine Zhn ?_) | (with_reducible apply QBlock_normal) | (refine Zhx ?_) | (with_reducible apply QBlock_hit) | (refine Zqb ?_) | (with_reducible apply QLoop_exit) | (refine Zhr ?_) | (with_reducible apply QBlock_ret) | (with_reducible apply QLoop_ret) | (refine AWalk_0 ?_) | (with_reducible apply QAny_normal) | (with_reducible apply QC_normal))
          all_goals exact QLoop_normal (k + 1, k) (.cons rfl (.cons rfl .nil)) (by repeat (first | exact Off.frame rfl | exact Off.refl _ _ | refine Off.frameT rfl rfl ?_ | refine Off.upd rfl ?_ | refine Off.updO rfl ?_)) (by repeat (first | exact Wk.refl _ | apply Wk.keep1 | apply Wk.drop | apply Wk.sv | apply Wk.svD | apply Wk.appD)) ⟨by dsimp only; omega, st1 ⟨hlp, rfl⟩⟩ (by dsimp only; omega)
      · repeat' (first | (refine GiP ?_; first | (refine Znh ?_) | (with_reducible refine Znl ?_)) | (refine GiW ?_; first | (refine Zsq fun K hK => ?_) | (refine ZrN 6 fun _ => ?_; refine Zv Zmi ?_; refine Zv Zla ?_; refine Zcl (Enters_fn rfl) (h78 _) ?_; refine Zv Zyleq ?_) | (refine ZrN 7 fun _ => ?_; refine Zv Zmi ?_; refine Zv Zxadd ?_; refine Zv Zai ?_) | (refine WP_cond_true rfl ?_) | (refine WP_cond_false rfl ?_) | (refine Zcd (fun hc => ?_) (fun hc => ?_) <;> (try (exfalso; omega))) | (with_reducible apply WP_skip) | (with_reducible apply WP_block) | (with_reducible apply WP_exit) | (with_reducible apply WP_ret) | (refine WP_drawnS (id := 8) [] [0, 1, 2, 3, 4, 5, 6, 7, 8, 9, 10, 11, 12, 13, 14] [] [] (k := 0) (k2 := 0) (by repeat (first | apply Sub.sv | apply Sub.keep | apply Sub.appK | exact Sub.refl _)) (by kernel_rfl) prog_mixed (by kernel_rfl) (by kernel_rfl) rfl ?_; refine Zew rfl Zmi ?_; (first | (refine Zec rfl (Enters_fn rfl) (fun X => h43k _) ?_) | (refine Zec rfl (Enters_fn rfl) (fun X => h43b _) ?_)); refine Zew rfl Zmi ?_; (first | (refine Zec rfl (Enters_fn rfl) (fun X => h43k _) ?_) | (refine Zec rfl (Enters_fn rfl) (fun X => h43b _) ?_)); refine Zew rfl Zylss ?_; refine Zew rfl Zmb ?_)) | (refine GiE ?_; first | (refine Zati 14 ?_; (first | (refine Zew rfl Zxpt ?_) | (refine Zew rfl Zxpf ?_))) | (refine Zati 6 ?_; refine Zew rfl Zla ?_) | (refine Zati 7 ?_; refine Zew rfl Zla ?_) | (refine Zati 8 ?_; refine Zec rfl (Enters_fn rfl) (fun X => h78 _) ?_) | (refine Zati 9 ?_; refine Zew rfl Zmi ?_) | (refine Zati 10 ?_; refine Zew rfl Zxsub ?_) | (refine Zati 12 ?_; refine Zew rfl Zxlen ?_) | (refine Zati 13 ?_; refine Zew rfl Zygtr ?_) | (refine Zes ?_) | (refine Zesp (fun hc => ?_) (fun hc => ?_) <;> (try (exfalso; omega))) | (with_reducible apply EWalk_nil)) | (refine ZgC [0, 1, 2, 3, 4, 5, 6, 7, 8, 9, 10, 11, 12, 13, 14] ?_; refine ZCd _ ?_) | (refine Zhn ?_) | (with_reducible apply QBlock_normal) | (refine Zhx ?_) | (with_reducible apply QBlock_hit) | (refine Zqb ?_) | (with_reducible apply QLoop_exit) | (refine Zhr ?_) | (with_reducible apply QBlock_ret) | (with_reducible apply QLoop_ret) | (refine AWalk_0 ?_) | (with_reducible apply QC_normal))
        all_goals exact QLoop_normal (k + 1, b) (.cons rfl (.cons rfl .nil)) (by repeat (first | exact Off.frame rfl | exact Off.refl _ _ | refine Off.frameT rfl rfl ?_ | refine Off.upd rfl ?_ | refine Off.updO rfl ?_)) (by repeat (first | exact Wk.refl _ | apply Wk.keep1 | apply Wk.drop | apply Wk.sv | apply Wk.svD | apply Wk.appD)) ⟨by dsimp only; omega, st2 (fun hh => hlp hh.1)⟩ (by dsimp only; omega)
    · have hbx : b = xf := Best.done (P := fun y => someB g.h (ev - y)) (show g.h.looks.length < 6 by omega) (by have hB2 := hB; rw [show k = 2 ^ g.h.looks.length by omega] at hB2; exact hB2) hx hsx hmin
      rw [hbx] at h43b ⊢
      repeat' (first | (refine GiP ?_; first | (refine Znh ?_) | (with_reducible refine Znl ?_)) | (refine GiW ?_; first | (refine Zsq fun K hK => ?_) | (refine ZrN 6 fun _ => ?_; refine Zv Zmi ?_; refine Zv Zla ?_; refine Zcl (Enters_fn rfl) (h78 _) ?_; refine Zv Zyleq ?_) | (refine ZrN 10 fun _ => ?_; refine Zv Zmi ?_; refine Zcl (Enters_fn rfl) (h43b _) ?_; refine Zv Zmi ?_; refine Zv Zai ?_; refine Zv Zai ?_; refine Zv Zai ?_) | (refine WP_cond_true rfl ?_) | (refine WP_cond_false rfl ?_) | (refine Zcd (fun hc => ?_) (fun hc => ?_) <;> (try (exfalso; omega))) | (with_reducible apply WP_skip) | (with_reducible apply WP_block) | (with_reducible apply WP_exit) | (with_reducible apply WP_ret)) | (refine Zhn ?_) | (with_reducible apply QBlock_normal) | (refine Zhx ?_) | (with_reducible apply QBlock_hit) | (refine Zqb ?_) | (with_reducible apply QLoop_exit) | (refine Zhr ?_) | (with_reducible apply QBlock_ret) | (with_reducible apply QLoop_ret))
      exact QBody_res rfl (.tmp rfl (.tmp rfl (.tmp rfl .nil))) rfl ⟨rfl, (by repeat (first | exact Wk.refl _ | apply Wk.keep1 | apply Wk.drop | apply Wk.sv | apply Wk.svD | apply Wk.appD))⟩
set_option maxRecDepth 100000 in
set_option maxHeartbeats 4000000 in
theorem clash29_ret (L : Hp) (g : Bg) (hA : HeapAt N w0 g) (h1 : g.h.heaps.length ≤ 1000000) (h2 : g.h.rains.length ≤ 1000000) (h3 : g.h.looks.length ≤ 1000000) :
    Ret Try.prog N w0 L 29 [heapV g].toArray (.tuple [.int .i64 (ClashV g.h), .int .i64 (ClashE g.h)].toArray) := by
  have h77 := fun L => check77_ret N w0 L g hA h1 h2 h3 true
  refine Ret.fgt ?_
  refine tri_of_WP Try.func29 rfl (n := 38) rfl (by simp) ?_
  cases hvb : vB g.h with
  | false =>
    rw [show errC g.h true = 1 by simp [errC, hvb]] at h77
    have he : ClashE g.h = 1 := by simp [ClashE, hvb]
    rw [show ClashV g.h = 0 by unfold ClashV; rw [he]; rfl, he]
    unfold heapV hvL at h77 ⊢
    repeat' (first | (refine GiP ?_; first | (refine Znh ?_) | (with_reducible refine Znl ?_)) | (refine GiW ?_; first | (refine Zsq fun K hK => ?_) | (refine ZrN 0 fun _ => ?_; refine Zal 1 fun b1 => ?_; refine Zv Zai ?_; refine Zv Zai ?_) | (refine ZrN 1 fun _ => ?_; refine Zv Zla ?_; refine Zcl (Enters_fn rfl) (h77 _) ?_; refine Zv Zai ?_) | (refine ZrN 2 fun _ => ?_; refine Zv Zmi ?_; refine Zv Zyneq ?_) | (refine ZrN 3 fun _ => ?_; refine Zv Zmi ?_; refine Zv Zai ?_; refine Zv Zai ?_) | (refine WP_cond_true rfl ?_) | (refine WP_cond_false rfl ?_) | (refine Zcd (fun hc => ?_) (fun hc => ?_) <;> (try (exfalso; omega))) | (with_reducible apply WP_skip) | (with_reducible apply WP_block) | (with_reducible apply WP_exit) | (with_reducible apply WP_ret)) | (refine Zhn ?_) | (with_reducible apply QBlock_normal) | (refine Zhx ?_) | (with_reducible apply QBlock_hit) | (refine Zqb ?_) | (with_reducible apply QLoop_exit) | (refine Zhr ?_) | (with_reducible apply QBlock_ret) | (with_reducible apply QLoop_ret))
    exact QBody_res rfl (.tmp rfl (.tmp rfl .nil)) rfl ⟨rfl, (by repeat (first | exact Wk.refl _ | apply Wk.keep1 | apply Wk.drop | apply Wk.sv | apply Wk.svD | apply Wk.appD))⟩
  | true =>
    have hv := VH_of hvb
    have hnl := hv.nl
    rw [show errC g.h true = 0 by simp [errC, hvb]] at h77
    have h78 := fun L => every78_ret N w0 L g (by omega)
    have hev : evL g.h = 2 ^ g.h.looks.length - 1 := rfl
    have hp0 := Nat.two_pow_pos g.h.looks.length
    have hev1 := evL_le hv
    have h43 := fun L s hs => size43_ret N w0 L s hs
    have h79 := fun L s hs => truths79_some N w0 L g hA hv s hs
    have h83 : ∀ L, Tri Try.prog N w0 L 83 [heapV g].toArray fun x L2 => ∃ v, x = .returned v ∧ ∃ A n c X, v = .slice A n c ∧ L2 = X ++ L ∧ (someB g.h (evL g.h) = decide (0 < n)) := by
      intro L
      refine (truths83_tri N w0 L g hA hv).mono ?_
      rintro x L2 ⟨v, rfl, X, rfl, A, c, rfl, _⟩
      refine ⟨_, rfl, A, _, c, X, rfl, rfl, ?_⟩
      have h1 := truthsL_some hv (s := evL g.h)
      rw [Bool.eq_iff_iff, decide_eq_true_eq]
      constructor
      · intro h2
        refine List.length_pos_iff.2 fun h3 => ?_
        rw [h1.1 h3] at h2; cases h2
      · intro h2
        cases hs : someB g.h (evL g.h) with
        | true => rfl
        | false => rw [h1.2 hs] at h2; simp at h2
    obtain ⟨sall, hsall⟩ : ∃ s, someB g.h (evL g.h) = s := ⟨_, rfl⟩
    rw [hsall] at h83
    obtain ⟨ev, hev2⟩ : ∃ ev, evL g.h = ev := ⟨_, rfl⟩
    rw [hev2] at h78 hev1
    unfold heapV hvL at h77 h78 h79 h83 ⊢
    cases sall with
    | true =>
      have hno : ClashE g.h = 4 ∧ ClashV g.h = 0 := by
        rcases clash_ok hv hvb with ⟨a, b, _⟩ | ⟨_, x, _, hx, hsx, _⟩
        · exact ⟨a, b⟩
        · exfalso
          obtain ⟨r, hr⟩ := (someB_iff hv).1 hsall
          have : someB g.h x = true := (someB_iff hv).2 ⟨r, hr.1, fun i hi => by
            obtain ⟨n, hn⟩ := hr.2 i hi
            refine ⟨n, hn.1, hn.2.1, fun j l hl hj he => hn.2.2 j l hl ?_ he⟩
            have hjl := (List.getElem?_eq_some_iff.1 hl).1
            have key : ∀ k, k < 6 → ∀ j, j < k → (2 ^ k - 1) / 2 ^ j % 2 = 1 := by decide +kernel
            exact key _ (by omega) _ hjl⟩
          rw [this] at hsx; cases hsx
      rw [hno.1, hno.2]
      repeat' (first | (refine GiP ?_; first | (refine Znh ?_) | (with_reducible refine Znl ?_)) | (refine GiW ?_; first | (refine Zsq fun K hK => ?_) | (refine ZrN 0 fun _ => ?_; refine Zal 1 fun b1 => ?_; refine Zv Zai ?_; refine Zv Zai ?_) | (refine ZrN 1 fun _ => ?_; refine Zv Zla ?_; refine Zcl (Enters_fn rfl) (h77 _) ?_; refine Zv Zai ?_) | (refine ZrN 2 fun _ => ?_; refine Zv Zmi ?_; refine Zv Zyneq ?_) | (refine ZrN 4 fun _ => ?_; refine Zv Zla ?_; refine OPS_retKS (Enters_fn rfl) (h83 _) rfl rfl rfl (fun v13 L13 h13 => ?_); obtain ⟨A1, n1, c1, X1, rfl, rfl, hn1⟩ := h13; have hn1 := of_decide_eq_true hn1.symm; refine Zv Zxlen ?_; refine Zv Zygtr ?_) | (refine ZrN 5 fun _ => ?_; refine Zv Zai ?_; refine Zv Zai ?_) | (refine WP_cond_true rfl ?_) | (refine WP_cond_false rfl ?_) | (refine Zcd (fun hc => ?_) (fun hc => ?_) <;> (try (exfalso; omega))) | (with_reducible apply WP_skip) | (with_reducible apply WP_block) | (with_reducible apply WP_exit) | (with_reducible apply WP_ret)) | (refine Zhn ?_) | (with_reducible apply QBlock_normal) | (refine Zhx ?_) | (with_reducible apply QBlock_hit) | (refine Zqb ?_) | (with_reducible apply QLoop_exit) | (refine Zhr ?_) | (with_reducible apply QBlock_ret) | (with_reducible apply QLoop_ret))
      exact QBody_res rfl (.tmp rfl (.tmp rfl .nil)) rfl ⟨rfl, (by repeat (first | exact Wk.refl _ | apply Wk.keep1 | apply Wk.drop | apply Wk.sv | apply Wk.svD | apply Wk.appD))⟩
    | false =>
      have hpow : ev < 2 ^ g.h.looks.length := by omega
      obtain ⟨hce, xf, hcv, hx, hsx, hmin⟩ : ClashE g.h = 0 ∧ ∃ x : Nat, ClashV g.h = (x : Int) ∧ x < 2 ^ g.h.looks.length ∧ someB g.h x = false ∧ ∀ y, y < 2 ^ g.h.looks.length → lexB y x = true → someB g.h y = true := by
        rcases clash_ok hv hvb with ⟨_, _, a⟩ | h
        · have := a (evL g.h) (by omega)
          rw [hsall] at this; cases this
        · exact h
      rw [hce, hcv]
      repeat' (first | (refine GiP ?_; first | (refine Znh ?_) | (with_reducible refine Znl ?_)) | (refine GiW ?_; first | (refine Zsq fun K hK => ?_) | (refine ZrN 0 fun _ => ?_; refine Zal 1 fun b1 => ?_; refine Zv Zai ?_; refine Zv Zai ?_) | (refine ZrN 1 fun _ => ?_; refine Zv Zla ?_; refine Zcl (Enters_fn rfl) (h77 _) ?_; refine Zv Zai ?_) | (refine ZrN 2 fun _ => ?_; refine Zv Zmi ?_; refine Zv Zyneq ?_) | (refine ZrN 4 fun _ => ?_; refine Zv Zla ?_; refine OPS_retKS (Enters_fn rfl) (h83 _) rfl rfl rfl (fun v13 L13 h13 => ?_); obtain ⟨A1, n1, c1, X1, rfl, rfl, hn1⟩ := h13; have hn1 := of_decide_eq_false hn1.symm; refine Zv Zxlen ?_; refine Zv Zygtr ?_) | (refine ZrN 6 fun _ => ?_; refine Zv Zla ?_; refine Zcl (Enters_fn rfl) (h78 _) ?_; refine Zv Zai ?_) | (refine ZrN 7 fun _ => ?_; refine Zv Zai ?_) | (refine WP_cond_true rfl ?_) | (refine WP_cond_false rfl ?_) | (refine Zcd (fun hc => ?_) (fun hc => ?_) <;> (try (exfalso; omega))) | (with_reducible apply WP_skip) | (with_reducible apply WP_block) | (with_reducible apply WP_exit) | (with_reducible apply WP_ret)) | (refine Zhn ?_) | (with_reducible apply QBlock_normal) | (refine Zhx ?_) | (with_reducible apply QBlock_hit) | (refine Zqb ?_) | (with_reducible apply QLoop_exit) | (refine Zhr ?_) | (with_reducible apply QBlock_ret) | (with_reducible apply QLoop_ret))
      refine WP_loop [5, 6, 18, 19, 20, 21, 22, 23, 24, 25, 26, 27, 28, 29, 30, 31, 32, 33, 34, 35, 36] (fun st : Nat × Nat => [(6, .int .i64 (st.1 : Int)), (5, .int .i64 (st.2 : Int))]) (fun _ => X1 ++ ((b1, Blk 27 (hvL g)) :: L)) (fun st => st.1 ≤ ev + 1 ∧ Best (fun y => !someB g.h y) (2 ^ g.h.looks.length - 1) st.1 st.2) (fun st => ev + 1 - st.1) (0, ev) (.cons rfl (.cons rfl .nil)) (by repeat (first | exact Wk.refl _ | apply Wk.keep1 | apply Wk.drop | apply Wk.sv | apply Wk.svD | apply Wk.appD)) ⟨Nat.zero_le _, by dsimp only; rw [← hev2, hev]; exact Best.init _ _⟩ ?_
      rintro ⟨k, b⟩ j ⟨hk, hB⟩
      dsimp only at hk hB ⊢
      unfold hvL
      have hbb : b ≤ ev := by
        rcases hB.h1 with h | h
        · rw [h, ← hev2, hev]; exact Nat.le_refl _
        · omega
      have h43b := fun L => h43 L b (by omega)
      rw [size_pc (by omega)] at h43b
      by_cases hlt : k ≤ ev
      · have h43k := fun L => h43 L k (by omega)
        rw [size_pc (by omega)] at h43k
        have h79k := fun L => h79 L k (by omega)
        obtain ⟨sb, hsb⟩ : ∃ sb, someB g.h k = sb := ⟨_, rfl⟩
        rw [hsb] at h79k
        obtain ⟨st1, st2⟩ := hB.step
        rw [hsb] at st1 st2
        obtain ⟨pk, hpk⟩ : ∃ x, pc k = x := ⟨_, rfl⟩
        obtain ⟨pb, hpb⟩ : ∃ x, pc b = x := ⟨_, rfl⟩
        rw [hpk] at h43k st1 st2
        rw [hpb] at h43b st1 st2
        by_cases hlp : pk < pb
        · cases sb
          · repeat' (first | (refine GiP ?_; first | (refine Znh ?_) | (with_reducible refine Znl ?_) | (refine Zatd 35 ?_; (first | (refine Zv Zxpt ?_) | (refine Zv Zxpf ?_))) | (refine Zatd 30 ?_; refine Zv Zla ?_) | (refine Zatd 31 ?_; refine Zv Zmi ?_) | (refine Zatd 32 ?_; refine OPS_retKS (Enters_fn rfl) (h79k _) rfl rfl rfl (fun v32 L32 h32 => ?_); obtain ⟨A2, n2, c2, X2, rfl, rfl, hn2⟩ := h32; have hn2 := of_decide_eq_false hn2.symm) | (refine Zatd 33 ?_; refine Zv Zxlen ?_) | (refine Zatd 34 ?_; refine Zv Zyeql ?_) | (refine Zsk ?_) | (refine Zsp (fun hc => ?_) (fun hc => ?_) <;> (try (exfalso; omega)))) | (refine GiW ?_; first | (refine Zsq fun K hK => ?_) | (refine ZrN 8 fun _ => ?_; refine Zv Zmi ?_; refine Zv Zla ?_; refine Zcl (Enters_fn rfl) (h78 _) ?_; refine Zv Zyleq ?_) | (refine ZrG 10 ?_; refine Zv Zmi ?_; (first | (refine Zcl (Enters_fn rfl) (h43k _) ?_) | (refine Zcl (Enters_fn rfl) (h43b _) ?_)); refine Zv Zmi ?_; (first | (refine Zcl (Enters_fn rfl) (h43k _) ?_) | (refine Zcl (Enters_fn rfl) (h43b _) ?_)); refine Zv Zylss ?_; refine Zv Zmb ?_) | (refine ZrN 11 fun _ => ?_; refine Zv Zmi ?_; refine Zv Zai ?_) | (refine ZrN 9 fun _ => ?_; refine Zv Zmi ?_; refine Zv Zxadd ?_; refine Zv Zai ?_) | (refine WP_cond_true rfl ?_) | (refine WP_cond_false rfl ?_) | (refine Zcd (fun hc => ?_) (fun hc => ?_) <;> (try (exfalso; omega))) | (with_reducible apply WP_skip) | (with_reducible apply WP_block) | (with_reducible apply WP_exit) | (with_reducible apply WP_ret)) | (refine Zhn ?_) | (with_reducible apply QBlock_normal) | (refine Zhx ?_) | (with_reducible apply QBlock_hit) | (refine Zqb ?_) | (with_reducible apply QLoop_exit) | (refine Zhr ?_) | (with_reducible apply QBlock_ret) | (with_reducible apply QLoop_ret))
            all_goals exact QLoop_normal (k + 1, k) (.cons rfl (.cons rfl .nil)) (by repeat (first | exact Off.frame rfl | exact Off.refl _ _ | refine Off.frameT rfl rfl ?_ | refine Off.upd rfl ?_ | refine Off.updO rfl ?_)) (by repeat (first | exact Wk.refl _ | apply Wk.keep1 | apply Wk.drop | apply Wk.sv | apply Wk.svD | apply Wk.appD)) ⟨by dsimp only; omega, st1 ⟨hlp, rfl⟩⟩ (by dsimp only; omega)
          · repeat' (first | (refine GiP ?_; first | (refine Znh ?_) | (with_reducible refine Znl ?_) | (refine Zatd 35 ?_; (first | (refine Zv Zxpt ?_) | (refine Zv Zxpf ?_))) | (refine Zatd 30 ?_; refine Zv Zla ?_) | (refine Zatd 31 ?_; refine Zv Zmi ?_) | (refine Zatd 32 ?_; refine OPS_retKS (Enters_fn rfl) (h79k _) rfl rfl rfl (fun v32 L32 h32 => ?_); obtain ⟨A2, n2, c2, X2, rfl, rfl, hn2⟩ := h32; have hn2 := of_decide_eq_true hn2.symm) | (refine Zatd 33 ?_; refine Zv Zxlen ?_) | (refine Zatd 34 ?_; refine Zv Zyeql ?_) | (refine Zsk ?_) | (refine Zsp (fun hc => ?_) (fun hc => ?_) <;> (try (exfalso; omega)))) | (refine GiW ?_; first | (refine Zsq fun K hK => ?_) | (refine ZrN 8 fun _ => ?_; refine Zv Zmi ?_; refine Zv Zla ?_; refine Zcl (Enters_fn rfl) (h78 _) ?_; refine Zv Zyleq ?_) | (refine ZrG 10 ?_; refine Zv Zmi ?_; (first | (refine Zcl (Enters_fn rfl) (h43k _) ?_) | (refine Zcl (Enters_fn rfl) (h43b _) ?_)); refine Zv Zmi ?_; (first | (refine Zcl (Enters_fn rfl) (h43k _) ?_) | (refine Zcl (Enters_fn rfl) (h43b _) ?_)); refine Zv Zylss ?_; refine Zv Zmb ?_) | (refine ZrN 9 fun _ => ?_; refine Zv Zmi ?_; refine Zv Zxadd ?_; refine Zv Zai ?_) | (refine WP_cond_true rfl ?_) | (refine WP_cond_false rfl ?_) | (refine Zcd (fun hc => ?_) (fun hc => ?_) <;> (try (exfalso; omega))) | (with_reducible apply WP_skip) | (with_reducible apply WP_block) | (with_reducible apply WP_exit) | (with_reducible apply WP_ret)) | (refine Zhn ?_) | (with_reducible apply QBlock_normal) | (refine Zhx ?_) | (with_reducible apply QBlock_hit) | (refine Zqb ?_) | (with_reducible apply QLoop_exit) | (refine Zhr ?_) | (with_reducible apply QBlock_ret) | (with_reducible apply QLoop_ret))
            all_goals exact QLoop_normal (k + 1, b) (.cons rfl (.cons rfl .nil)) (by repeat (first | exact Off.frame rfl | exact Off.refl _ _ | refine Off.frameT rfl rfl ?_ | refine Off.upd rfl ?_ | refine Off.updO rfl ?_)) (by repeat (first | exact Wk.refl _ | apply Wk.keep1 | apply Wk.drop | apply Wk.sv | apply Wk.svD | apply Wk.appD)) ⟨by dsimp only; omega, st2 (by simp)⟩ (by dsimp only; omega)
        · repeat' (first | (refine GiP ?_; first | (refine Znh ?_) | (with_reducible refine Znl ?_) | (refine Zatd 35 ?_; (first | (refine Zv Zxpt ?_) | (refine Zv Zxpf ?_))) | (refine Zatd 30 ?_; refine Zv Zla ?_) | (refine Zatd 31 ?_; refine Zv Zmi ?_) | (refine Zatd 33 ?_; refine Zv Zxlen ?_) | (refine Zatd 34 ?_; refine Zv Zyeql ?_) | (refine Zsk ?_) | (refine Zsp (fun hc => ?_) (fun hc => ?_) <;> (try (exfalso; omega)))) | (refine GiW ?_; first | (refine Zsq fun K hK => ?_) | (refine ZrN 8 fun _ => ?_; refine Zv Zmi ?_; refine Zv Zla ?_; refine Zcl (Enters_fn rfl) (h78 _) ?_; refine Zv Zyleq ?_) | (refine ZrG 10 ?_; refine Zv Zmi ?_; (first | (refine Zcl (Enters_fn rfl) (h43k _) ?_) | (refine Zcl (Enters_fn rfl) (h43b _) ?_)); refine Zv Zmi ?_; (first | (refine Zcl (Enters_fn rfl) (h43k _) ?_) | (refine Zcl (Enters_fn rfl) (h43b _) ?_)); refine Zv Zylss ?_; refine Zv Zmb ?_) | (refine ZrN 9 fun _ => ?_; refine Zv Zmi ?_; refine Zv Zxadd ?_; refine Zv Zai ?_) | (refine WP_cond_true rfl ?_) | (refine WP_cond_false rfl ?_) | (refine Zcd (fun hc => ?_) (fun hc => ?_) <;> (try (exfalso; omega))) | (with_reducible apply WP_skip) | (with_reducible apply WP_block) | (with_reducible apply WP_exit) | (with_reducible apply WP_ret)) | (refine Zhn ?_) | (with_reducible apply QBlock_normal) | (refine Zhx ?_) | (with_reducible apply QBlock_hit) | (refine Zqb ?_) | (with_reducible apply QLoop_exit) | (refine Zhr ?_) | (with_reducible apply QBlock_ret) | (with_reducible apply QLoop_ret))
          all_goals exact QLoop_normal (k + 1, b) (.cons rfl (.cons rfl .nil)) (by repeat (first | exact Off.frame rfl | exact Off.refl _ _ | refine Off.frameT rfl rfl ?_ | refine Off.upd rfl ?_ | refine Off.updO rfl ?_)) (by repeat (first | exact Wk.refl _ | apply Wk.keep1 | apply Wk.drop | apply Wk.sv | apply Wk.svD | apply Wk.appD)) ⟨by dsimp only; omega, st2 (fun hh => hlp hh.1)⟩ (by dsimp only; omega)
      · have hbx : b = xf := Best.done (P := fun y => !someB g.h y) (show g.h.looks.length < 6 by omega) (by have hB2 := hB; rw [show k = 2 ^ g.h.looks.length by omega] at hB2; exact hB2) hx (by rw [hsx]; rfl) (fun y hy hl => by rw [hmin y hy hl]; rfl)
        rw [hbx]
        repeat' (first | (refine GiP ?_; first | (refine Znh ?_) | (with_reducible refine Znl ?_)) | (refine GiW ?_; first | (refine Zsq fun K hK => ?_) | (refine ZrN 8 fun _ => ?_; refine Zv Zmi ?_; refine Zv Zla ?_; refine Zcl (Enters_fn rfl) (h78 _) ?_; refine Zv Zyleq ?_) | (refine ZrN 12 fun _ => ?_; refine Zv Zmi ?_; refine Zv Zai ?_; refine Zv Zai ?_) | (refine WP_cond_true rfl ?_) | (refine WP_cond_false rfl ?_) | (refine Zcd (fun hc => ?_) (fun hc => ?_) <;> (try (exfalso; omega))) | (with_reducible apply WP_skip) | (with_reducible apply WP_block) | (with_reducible apply WP_exit) | (with_reducible apply WP_ret)) | (refine Zhn ?_) | (with_reducible apply QBlock_normal) | (refine Zhx ?_) | (with_reducible apply QBlock_hit) | (refine Zqb ?_) | (with_reducible apply QLoop_exit) | (refine Zhr ?_) | (with_reducible apply QBlock_ret) | (with_reducible apply QLoop_ret))
        exact QBody_res rfl (.tmp rfl (.tmp rfl .nil)) rfl ⟨rfl, (by repeat (first | exact Wk.refl _ | apply Wk.keep1 | apply Wk.drop | apply Wk.sv | apply Wk.svD | apply Wk.appD))⟩
end
end Go.Proofs.Ytlpahkmfjpjheaa
end

section
namespace Go.Proofs.Ytlpahkmfjpjheaa
open Go.RowKit
attribute [local irreducible] AnyO AnyB QAny QB EWalk AWalk Ev WP OPS QThen QBlock QScope QLoop QBody Val New Turn Tri Enters PostA Blk Ro
attribute [local irreducible] AnyC QC
section
variable (N : Nat) (w0 : World)
theorem heavy12_tri2 (L : Hp) (g : Bg) (hA : HeapAt N w0 g) (ways : Int) (hlong : longB g.h = false) : Tri Try.prog N w0 L 12 [heapV g, .int .i64 ways].toArray fun x L' => ∃ v, x = .returned v ∧ ∃ b, v = .bool b ∧ L' = L := by
  cases hvb : vB g.h with
  | false =>
    refine (heavy12_bad N w0 L g hA ways hlong hvb).mono ?_
    rintro x L' ⟨rfl, rfl⟩
    exact ⟨_, rfl, false, rfl, rfl⟩
  | true =>
    refine (heavy12_ok N w0 L g hA ways hlong hvb).mono ?_
    rintro x L' ⟨b, rfl, rfl⟩
    exact ⟨_, rfl, b, rfl, rfl⟩
set_option maxRecDepth 100000 in
set_option maxHeartbeats 4000000 in
theorem looks_law0 (L : Hp) (g : Bg) (hlong : longB g.h = true) : Ret Try.prog N w0 L 4 [heapV g].toArray (.bool true) := by
  have h12 := fun L => heavy12_long N w0 L g 300 hlong
  have h13 := fun L => alive_ret N w0 L
  refine Ret.fgt ?_
  refine tri_of_WP Try.func4 rfl (n := 64) rfl (by simp) ?_
  unfold heapV hvL at h12 ⊢
  repeat' (first | (refine GiP ?_; first | (refine Znh ?_) | (with_reducible refine Znl ?_)) | (refine GiW ?_; first | (refine Zsq fun K hK => ?_) | (refine ZrN 0 fun _ => ?_; refine Zal 1 fun b1 => ?_; refine Zv Zab ?_) | (refine ZrN 1 fun _ => ?_; refine Zv Zla ?_; refine Zcl (Enters_fn rfl) (h12 _) ?_) | (refine ZrN 2 fun _ => ?_; refine Zcl (Enters_fn rfl) (h13 _) ?_; refine Zv Zab ?_) | (refine WP_cond_true rfl ?_) | (refine WP_cond_false rfl ?_) | (refine Zcd (fun hc => ?_) (fun hc => ?_) <;> (try (exfalso; omega))) | (with_reducible apply WP_skip) | (with_reducible apply WP_ret)) | (refine Zhn ?_) | (refine Zhr ?_))
  exact QBody_ret1 rfl (rfl : _ = Value.bool _) ⟨rfl, (by repeat (first | exact Wk.refl _ | apply Wk.keep1 | apply Wk.drop | apply Wk.sv | apply Wk.svD | apply Wk.appD))⟩
set_option maxRecDepth 100000 in
set_option maxHeartbeats 16000000 in
theorem looks_law1 (L : Hp) (g : Bg) (hA : HeapAt N w0 g) (hlong : longB g.h = false) : Ret Try.prog N w0 L 4 [heapV g].toArray (.bool true) := by
  obtain ⟨l1, l2, l3⟩ := longB_ok hlong
  have h12 := fun L => heavy12_tri2 N w0 L g hA 300 hlong
  have h13 := fun L => alive_ret N w0 L
  have h26 := fun L => False_ret N w0 L g hA
  have h27 := fun L => false27_ret N w0 L g hA (by omega) (by omega) (by omega)
  have h28 := fun L => Clash_ret N w0 L g hA
  have h29 := fun L => clash29_ret N w0 L g hA (by omega) (by omega) (by omega)
  obtain ⟨⟨a1, a2⟩, ha⟩ : ∃ s, FalseV g.h = s := ⟨_, rfl⟩
  obtain ⟨a3, ha3⟩ : ∃ s, FalseE g.h = s := ⟨_, rfl⟩
  obtain ⟨m, hm⟩ : ∃ s, ClashV g.h = s := ⟨_, rfl⟩
  obtain ⟨n, hn⟩ : ∃ s, ClashE g.h = s := ⟨_, rfl⟩
  rw [ha, ha3] at h26 h27
  rw [hm, hn] at h28 h29
  dsimp only at h26 h27
  clear ha ha3 hm hn
  refine Ret.fgt ?_
  refine tri_of_WP Try.func4 rfl (n := 64) rfl (by simp) ?_
  unfold heapV hvL at h12 h26 h27 h28 h29 ⊢
  repeat' (first | (refine GiP ?_; first | (refine Znh ?_) | (with_reducible refine Znl ?_)) | (refine GiW ?_; first | (refine Zsq fun K hK => ?_) | (refine ZrN 0 fun _ => ?_; refine Zal 1 fun b1 => ?_; refine Zv Zab ?_) | (refine ZrN 1 fun _ => ?_; refine Zv Zla ?_; refine OPS_retKS (Enters_fn rfl) (h12 _) rfl rfl rfl (fun v14 L14 h14 => ?_); obtain ⟨b, rfl, rfl⟩ := h14; cases b) | (refine WP_cond_true rfl ?_) | (refine WP_cond_false rfl ?_) | (refine Zcd (fun hc => ?_) (fun hc => ?_) <;> (try (exfalso; omega))) | (with_reducible apply WP_skip) | (with_reducible apply WP_ret)) | (refine Zhn ?_) | (refine Zhr ?_))
  · repeat' (first | (refine GiP ?_; first | (refine Znh ?_) | (with_reducible refine Znl ?_) | (refine Zatd 45 ?_; (first | (refine Zv Zxpt ?_) | (refine Zv Zxpf ?_)); refine Zv Zmb ?_) | (refine Zatd 50 ?_; (first | (refine Zv Zxpt ?_) | (refine Zv Zxpf ?_)); refine Zv Zmb ?_) | (refine Zatd 55 ?_; (first | (refine Zv Zxpt ?_) | (refine Zv Zxpf ?_)); refine Zv Zmb ?_) | (refine Zatd 60 ?_; (first | (refine Zv Zxpt ?_) | (refine Zv Zxpf ?_)); refine Zv Zmb ?_) | (refine Zatd 63 ?_; (first | (refine Zv Zxpt ?_) | (refine Zv Zxpf ?_)); refine Zv Zab ?_) | (refine Zatd 42 ?_; refine Zv Zmi ?_) | (refine Zatd 43 ?_; refine Zv Zmi ?_) | (refine Zatd 44 ?_; refine Zv Zyeql ?_) | (refine Zatd 47 ?_; refine Zv Zmi ?_) | (refine Zatd 48 ?_; refine Zv Zmi ?_) | (refine Zatd 49 ?_; refine Zv Zyeql ?_) | (refine Zatd 52 ?_; refine Zv Zmi ?_) | (refine Zatd 53 ?_; refine Zv Zmi ?_) | (refine Zatd 54 ?_; refine Zv Zyeql ?_) | (refine Zatd 57 ?_; refine Zv Zmi ?_) | (refine Zatd 58 ?_; refine Zv Zmi ?_) | (refine Zatd 59 ?_; refine Zv Zyeql ?_) | (refine Zatd 62 ?_; refine Zcl (Enters_fn rfl) (h13 _) ?_) | (refine Zsk ?_) | (refine Zsp (fun hc => ?_) (fun hc => ?_) <;> (try (exfalso; omega)))) | (refine GiW ?_; first | (refine Zsq fun K hK => ?_) | (refine ZrN 3 fun _ => ?_; refine Zv Zla ?_; refine Zcl (Enters_fn rfl) (h26 _) ?_; refine Zv Zmv ?_; refine Zv Zxex ?_; refine Zv Zxex ?_; refine Zv Zxex ?_; refine Zv Zai ?_; refine Zv Zai ?_; refine Zv Zai ?_) | (refine ZrN 4 fun _ => ?_; refine Zv Zla ?_; refine Zcl (Enters_fn rfl) (h27 _) ?_; refine Zv Zmv ?_; refine Zv Zxex ?_; refine Zv Zxex ?_; refine Zv Zxex ?_; refine Zv Zai ?_; refine Zv Zai ?_; refine Zv Zai ?_) | (refine ZrN 5 fun _ => ?_; refine Zv Zla ?_; refine Zcl (Enters_fn rfl) (h28 _) ?_; refine Zv Zmv ?_; refine Zv Zxex ?_; refine Zv Zxex ?_; refine Zv Zai ?_; refine Zv Zai ?_) | (refine ZrN 6 fun _ => ?_; refine Zv Zla ?_; refine Zcl (Enters_fn rfl) (h29 _) ?_; refine Zv Zmv ?_; refine Zv Zxex ?_; refine Zv Zxex ?_; refine Zv Zai ?_; refine Zv Zai ?_) | (refine ZrG 7 ?_; refine Zv Zmi ?_; refine Zv Zmi ?_; refine Zv Zyeql ?_; refine Zv Zmb ?_) | (refine WP_cond_true rfl ?_) | (refine WP_cond_false rfl ?_) | (refine Zcd (fun hc => ?_) (fun hc => ?_) <;> (try (exfalso; omega))) | (with_reducible apply WP_skip) | (with_reducible apply WP_ret)) | (refine Zhn ?_) | (refine Zhr ?_))
    exact QBody_ret1 rfl (rfl : _ = Value.bool _) ⟨rfl, (by repeat (first | exact Wk.refl _ | apply Wk.keep1 | apply Wk.drop | apply Wk.sv | apply Wk.svD | apply Wk.appD))⟩
  · repeat' (first | (refine GiP ?_; first | (refine Znh ?_) | (with_reducible refine Znl ?_)) | (refine GiW ?_; first | (refine Zsq fun K hK => ?_) | (refine ZrN 2 fun _ => ?_; refine Zcl (Enters_fn rfl) (h13 _) ?_; refine Zv Zab ?_) | (refine WP_cond_true rfl ?_) | (refine WP_cond_false rfl ?_) | (refine Zcd (fun hc => ?_) (fun hc => ?_) <;> (try (exfalso; omega))) | (with_reducible apply WP_skip) | (with_reducible apply WP_ret)) | (refine Zhn ?_) | (refine Zhr ?_))
    exact QBody_ret1 rfl (rfl : _ = Value.bool _) ⟨rfl, (by repeat (first | exact Wk.refl _ | apply Wk.keep1 | apply Wk.drop | apply Wk.sv | apply Wk.svD | apply Wk.appD))⟩
end
end Go.Proofs.Ytlpahkmfjpjheaa
end
