/- Package bank: all sets of marks by size; the first one that fits. · Package bank: its exported functions: False, Clash. -/
import Derived.Test.YtakmopiceopcpaaB2
import Derived.Test.YtakmopiceopcpaaQd
section
namespace Go.Proofs.Ytakmopiceopcpaa
open Go.RowKit
section
variable {P : Program} {r : Option Nat} {n N : Nat} {w0 : World} {L : Hp} {e : Env} {Q : Post} {ds : List Deferred}
/-- What a row holds, with what stands behind it. -/
theorem WP_opnR {c : Code} {b E sz k cap : Nat} {xs : List Value} (h : ∀ tl, WP P r n N w0 c Q e ds ((b, Blk E (xs ++ tl)) :: L)) : WP P r n N w0 c Q e ds ((b, Row E sz k cap xs) :: L) := by
  intro a w hs he hd hI
  obtain ⟨o, ho, cur, rfl, h1, h2, h3, h4⟩ := hI.obj' (b := b) .here
  refine h (cur.toList.drop (k * sz)) a w hs he hd ⟨hI.below, hI.big, ?_, ?_⟩
  · have := hI.dis
    rw [List.pairwise_cons] at this ⊢
    exact this
  · intro x hx
    rcases List.mem_cons.1 hx with rfl | hx
    · refine ⟨(hI.own _ List.mem_cons_self).1, _, ho, ?_⟩
      unfold Blk Is
      rw [← h4, List.take_append_drop]
    · exact hI.own x (.tail _ hx)
end
theorem us_snoc (k : Nat) : us (List.range (k + 1)) = us (List.range k) ++ [.int .u64 (k : Int)] := by simp [us, List.range_succ]
theorem find_lt {m : Nat} (hm : m < 8) (p : Nat → Bool) : ((setsL m).find? p).getD 0 < 128 := by
  have hp : 2 ^ m ≤ 2 ^ 7 := Nat.pow_le_pow_right (by omega) (by omega)
  cases h : (setsL m).find? p with
  | none => simp
  | some x =>
    have := (sets_lt hm).1 (List.mem_of_find?_eq_some h)
    simp only [Option.getD_some]; omega
theorem setsL_len {m : Nat} (hm : m < 8) : (setsL m).length = 2 ^ m := by
  have hp : 2 ^ m ≤ 2 ^ 7 := Nat.pow_le_pow_right (by omega) (by omega)
  have hl : Lt128 (2 ^ m) (List.range (2 ^ m)) := ⟨List.length_range, fun x hx => by rw [List.mem_range] at hx; omega⟩
  exact (stab_lt hl).1
attribute [local irreducible] AnyO AnyB QAny QB EWalk AWalk Ev WP OPS QThen QBlock QScope QLoop QBody Val New Turn Tri Enters PostA Blk Ro
attribute [local irreducible] AnyC QC
section
variable (N : Nat) (w0 : World)
set_option maxHeartbeats 2000000 in
theorem sets_tri (L : Hp) (g : Fg) (hnm : g.d.ms.length ≤ 6) :
    Tri Try.prog N w0 L 80 [bkV g].toArray fun r L' => ∃ v, r = .returned v ∧ ∃ b tl c, v = .slice (some ⟨b, 0, none⟩) ((2 ^ g.d.ms.length : Nat)) c ∧ L' = (b, Blk 93 (ut tl (setsL g.d.ms.length))) :: L := by
  have hev := fun L => every_ret N w0 L g hnm
  obtain ⟨m, hme⟩ : ∃ m, g.d.ms.length = m := ⟨_, rfl⟩
  unfold bkV bkL at hev ⊢
  rw [hme] at hnm hev ⊢
  have hm : m < 8 := by omega
  have hp : 2 ^ m ≤ 2 ^ 7 := Nat.pow_le_pow_right (by omega) (by omega)
  have hp1 : 1 ≤ 2 ^ m := Nat.one_le_two_pow
  have hl : Lt128 (2 ^ m) (List.range (2 ^ m)) := ⟨List.length_range, fun x hx => by rw [List.mem_range] at hx; omega⟩
  have hst : stab (2 ^ m) (List.range (2 ^ m)) = setsL m := rfl
  have hsrt := fun tl L b c => sort_tri N w0 tl L (2 ^ m) (List.range (2 ^ m)) hl (by omega) b c
  rw [hst] at hsrt
  unfold cmpV at hsrt
  have hadd : ∀ {L e d ty pos af gg x y' t t'} (hx : ev e x = .int .u64 ((2 ^ m - 1 : Nat) : Int)) (hy : ev e y' = .int .u64 ((1 : Nat) : Int)), Val Try.prog N w0 L e ⟨d, .binOp .add t x y' t', ty, pos, af, gg⟩ (.int .u64 ((2 ^ m : Nat) : Int)) := by
    intro L e d ty pos af gg x y' t t' hx hy
    have := Val_addN (P := Try.prog) (N := N) (w0 := w0) (L := L) (d := d) (ty := ty) (pos := pos) (af := af) (g := gg) (t := t) (t' := t') hx hy (by omega)
    rw [show 2 ^ m - 1 + 1 = 2 ^ m by omega] at this
    exact this
  refine Tri.fgt ?_
  refine tri_of_WP Try.func80 rfl (n := _) rfl (by simp) ?_
  repeat' (first | (refine GiP ?_; first | (refine Znh ?_) | (with_reducible refine Znl ?_)) | (refine GiW ?_; first | (refine Zsq fun K hK => ?_) | (refine ZrN 0 fun _ => ?_; refine Zal 1 fun b1 => ?_; refine Zv Zav ?_) | (refine ZrN 1 fun _ => ?_; refine Zv Zla ?_; refine Zcl (Enters_fn rfl) (hev _) ?_; refine Zv (hadd rfl (rfl : _ = Value.int _ ((1 : Nat) : Int))) ?_; refine Zv Zmi ?_) | (refine WP_cond_true rfl ?_) | (refine WP_cond_false rfl ?_) | (refine Zcd (fun hc => ?_) (fun hc => ?_) <;> (try (exfalso; omega))) | (with_reducible apply WP_skip) | (with_reducible apply WP_block) | (with_reducible apply WP_exit) | (with_reducible apply WP_ret)) | (refine Zhn ?_) | (with_reducible apply QBlock_normal) | (refine Zhx ?_) | (with_reducible apply QBlock_hit) | (refine Zqb ?_) | (with_reducible apply QLoop_exit) | (refine Zhr ?_) | (with_reducible apply QBlock_ret) | (with_reducible apply QLoop_ret))
  refine WP_loop [2, 3, 7, 8, 9, 10, 11, 12, 13, 14] (fun q : Nat × Option (Nat × Nat) => [(7, .int .u64 (q.1 : Int)), (2, svV q.2 q.1)]) (fun q => svH 93 1 q.1 (us (List.range q.1)) q.2 ((b1, Blk 71 [.int .i64 g.d.n, .int .i64 g.d.m, .slice g.A1 g.d.ls.length g.c1, .slice g.A2 m g.c2]) :: L)) (fun q => q.1 ≤ 2 ^ m ∧ svOk q.2 1 q.1 (us (List.range q.1))) (fun q => 2 ^ m - q.1) (0, none) (.cons rfl (.cons rfl .nil)) (Wk.refl _) ⟨Nat.zero_le _, svOk_nil 1⟩ ?_
  rintro ⟨k, s⟩ j ⟨hk, hs⟩
  dsimp only at hk hs ⊢
  by_cases hlt : k < 2 ^ m
  · repeat' (first | (refine GiP ?_; first | (refine Znh ?_) | (with_reducible refine Znl ?_)) | (refine GiW ?_; first | (refine Zsq fun K hK => ?_) | (refine ZrN 2 fun _ => ?_; refine Zv Zxlss ?_) | (refine ZrN 3 fun _ => ?_; refine Zv Zmi ?_; refine Zv Zai ?_) | (refine ZrN 4 fun _ => ?_; refine Zv Zmv ?_; refine Zv Zmi ?_; refine Zal 12 fun b12 => ?_; refine OPS_append rfl rfl rfl (by repeat (first | exact Wk.refl _ | apply Wk.keep1 | apply Wk.drop | apply Wk.sv | apply Wk.svD | apply Wk.appD)) (by assumption) (blk_cells (by repeat (first | exact Mem.here | assumption | apply Mem.there | apply Mem.sv | apply Mem.app))) rfl rfl (by simp only [maxLen]; omega) (by omega) rfl rfl (fun s13 hs13 => ?_); refine Zv Zav ?_) | (refine ZrN 5 fun _ => ?_; refine Zv (Val_addN (a := k) rfl (rfl : _ = Value.int _ ((1 : Nat) : Int)) (by omega)) ?_; refine Zv Zmi ?_) | (refine WP_cond_true rfl ?_) | (refine WP_cond_false rfl ?_) | (refine Zcd (fun hc => ?_) (fun hc => ?_) <;> (try (exfalso; omega))) | (with_reducible apply WP_skip) | (with_reducible apply WP_block) | (with_reducible apply WP_exit) | (with_reducible apply WP_ret)) | (refine Zhn ?_) | (with_reducible apply QBlock_normal) | (refine Zhx ?_) | (with_reducible apply QBlock_hit) | (refine Zqb ?_) | (with_reducible apply QLoop_exit) | (refine Zhr ?_) | (with_reducible apply QBlock_ret) | (with_reducible apply QLoop_ret))
    have hsn := us_snoc k
    rw [show us (List.range k) ++ [[Value.int .u64 (k : Int)]].flatten = us (List.range (k + 1)) by rw [hsn]; rfl] at hs13 ⊢
    exact QLoop_normal (k + 1, s13) (.cons rfl (.cons rfl .nil)) (by repeat (first | exact Off.frame rfl | exact Off.refl _ _ | refine Off.frameT rfl rfl ?_ | refine Off.upd rfl ?_ | refine Off.updO rfl ?_)) (by repeat (first | exact Wk.refl _ | apply Wk.keep1 | apply Wk.drop | apply Wk.sv | apply Wk.svD | apply Wk.appD)) ⟨by dsimp only; omega, hs13⟩ (by dsimp only; omega)
  · have hke : k = 2 ^ m := by omega
    subst hke
    cases s with
    | none => have := hs.2 rfl; omega
    | some q =>
      obtain ⟨b, cap⟩ := q
      unfold svH svV
      dsimp only
      refine WP_opnR fun tl => ?_
      have hsr := hsrt tl ((b1, Blk 71 [.int .i64 g.d.n, .int .i64 g.d.m, .slice g.A1 g.d.ls.length g.c1, .slice g.A2 m g.c2]) :: L) b cap
      unfold ut at hsr
      repeat' (first | (refine GiP ?_; first | (refine Znh ?_) | (with_reducible refine Znl ?_)) | (refine GiW ?_; first | (refine Zsq fun K hK => ?_) | (refine ZrN 2 fun _ => ?_; refine Zv Zxlss ?_) | (refine ZrN 6 fun _ => ?_; refine Zv Zmv ?_; refine OPS_retKS (Enters_fn rfl) hsr rfl rfl rfl (fun v8 L8 h8 => ?_); subst h8) | (refine ZrN 7 fun _ => ?_; refine Zv Zmv ?_; refine Zv Zav ?_) | (refine WP_cond_true rfl ?_) | (refine WP_cond_false rfl ?_) | (refine Zcd (fun hc => ?_) (fun hc => ?_) <;> (try (exfalso; omega))) | (with_reducible apply WP_skip) | (with_reducible apply WP_block) | (with_reducible apply WP_exit) | (with_reducible apply WP_ret)) | (refine Zhn ?_) | (with_reducible apply QBlock_normal) | (refine Zhx ?_) | (with_reducible apply QBlock_hit) | (refine Zqb ?_) | (with_reducible apply QLoop_exit) | (refine Zhr ?_) | (with_reducible apply QBlock_ret) | (with_reducible apply QLoop_ret))
      exact QBody_ret1 rfl (rfl : _ = Value.slice _ _ _) ⟨_, .keep1 (.drop (Wk.refl _)), _, rfl, b, tl, cap, rfl, rfl⟩
/-- The first one that fits. -/
theorem first_tri {κ : Type} (F : κ → Hp) (k0 : κ) (l : List Nat) (hl : l.length ≤ 1000) (b c : Nat) (tl : List Value) (hm : ∀ kk, Mem b (Blk 93 (ut tl l)) (F kk)) (q : FuncId) [HasBody Try.prog q] (qc : List Value) (p : Nat → Bool)
    (hq : ∀ s ∈ l, ∀ x kk, Tri Try.prog N w0 (x :: F kk) q (.int .u64 (s : Int) :: qc).toArray fun y L' => ∃ v, y = .returned v ∧ ∃ kk', v = .bool (p s) ∧ L' = x :: F kk') :
    Tri Try.prog N w0 (F k0) 79 [.slice (some ⟨b, 0, none⟩) l.length c, .agg [Value.func (.func q) #[] qc.toArray].toArray].toArray fun x L' => ∃ v, x = .returned v ∧ ∃ kk', v = .tuple [.int .u64 (((l.find? p).getD 0 : Nat) : Int), .bool (l.find? p).isSome].toArray ∧ L' = F kk' := by
  refine Tri.fgt ?_
  refine tri_of_WP Try.func79 rfl (n := _) rfl (by simp) ?_
  repeat' (first | (refine GiP ?_; first | (refine Znh ?_) | (with_reducible refine Znl ?_)) | (refine GiW ?_; first | (refine Zsq fun K hK => ?_) | (refine ZrN 0 fun _ => ?_; refine Zal 3 fun b3 => ?_; refine Zv Zai ?_; refine Zv Zab ?_) | (refine ZrN 1 fun _ => ?_; refine Zv Zmv ?_; refine Zv Zxlen ?_; refine Zv Zmi ?_) | (refine WP_cond_true rfl ?_) | (refine WP_cond_false rfl ?_) | (refine Zcd (fun hc => ?_) (fun hc => ?_) <;> (try (exfalso; omega))) | (with_reducible apply WP_skip) | (with_reducible apply WP_block) | (with_reducible apply WP_exit) | (with_reducible apply WP_ret)) | (refine Zhn ?_) | (with_reducible apply QBlock_normal) | (refine Zhx ?_) | (with_reducible apply QBlock_hit) | (refine Zqb ?_) | (with_reducible apply QLoop_exit) | (refine Zhr ?_) | (with_reducible apply QBlock_ret) | (with_reducible apply QLoop_ret))
  refine WP_loop [4, 5, 7, 10, 11, 12, 13, 14, 15, 16, 17, 18, 19] (fun st : Nat × κ => [(10, .int .i64 (st.1 : Int)), (4, .int .u64 0)]) (fun st => (b3, Blk 106 [.func (.func q) #[] qc.toArray]) :: F st.2) (fun st => st.1 ≤ l.length ∧ (l.take st.1).find? p = none) (fun st => l.length - st.1) (0, k0) (.cons rfl (.cons rfl .nil)) (Wk.refl _) ⟨Nat.zero_le _, rfl⟩ ?_
  rintro ⟨k, kk⟩ j ⟨hk, hall⟩
  dsimp only at hk hall ⊢
  by_cases hlt : k < l.length
  · have hmem := List.getElem_mem hlt
    have hg : gt l k = l[k] := by unfold gt; rw [List.getD_eq_getElem?_getD, List.getElem?_eq_getElem hlt]; rfl
    have hcell := ut_get (tl := tl) hlt
    rw [hg] at hcell
    have hm2 := hm kk
    have hq2 := hq _ hmem (b3, Blk 106 [.func (.func q) #[] qc.toArray])
    have hyes : p l[k] = true → l.find? p = some l[k] := fun h => by
      have h1 : l = l.take k ++ l[k] :: l.drop (k + 1) := by rw [List.getElem_cons_drop, List.take_append_drop]
      generalize l[k] = y at h h1
      rw [h1, List.find?_append, hall]
      simp [h]
    have hnot : p l[k] = false → (l.take (k + 1)).find? p = none := fun h => by
      rw [List.take_succ_eq_append_getElem hlt, List.find?_append, hall]
      simp [h]
    obtain ⟨y, hy⟩ : ∃ y, l[k] = y := ⟨_, rfl⟩
    rw [hy] at hcell hq2 hyes hnot
    obtain ⟨w, hw⟩ : ∃ w, p y = w := ⟨_, rfl⟩
    rw [hw] at hq2 hyes hnot
    cases w with
    | false =>
      repeat' (first | (refine GiP ?_; first | (refine Znh ?_) | (with_reducible refine Znl ?_)) | (refine GiW ?_; first | (refine Zsq fun K hK => ?_) | (refine ZrN 2 fun _ => ?_; refine Zv Zxlss ?_) | (refine ZrN 3 fun _ => ?_; refine Zv Zia ?_; refine Zv Zld ?_; refine Zv Zai ?_) | (refine ZrN 4 fun _ => ?_; refine Zv Zf0 ?_; refine Zv Zld ?_; refine Zv Zmi ?_; refine OPS_retKS (Enters_val rfl rfl) (hq2 kk) rfl rfl rfl (fun v17 L17 h17 => ?_); obtain ⟨kk2, rfl, rfl⟩ := h17) | (refine ZrN 6 fun _ => ?_; refine Zv Zxadd ?_; refine Zv Zmi ?_) | (refine WP_cond_true rfl ?_) | (refine WP_cond_false rfl ?_) | (refine Zcd (fun hc => ?_) (fun hc => ?_) <;> (try (exfalso; omega))) | (with_reducible apply WP_skip) | (with_reducible apply WP_block) | (with_reducible apply WP_exit) | (with_reducible apply WP_ret)) | (refine Zhn ?_) | (with_reducible apply QBlock_normal) | (refine Zhx ?_) | (with_reducible apply QBlock_hit) | (refine Zqb ?_) | (with_reducible apply QLoop_exit) | (refine Zhr ?_) | (with_reducible apply QBlock_ret) | (with_reducible apply QLoop_ret))
      exact QLoop_normal (k + 1, kk2) (.cons rfl (.cons rfl .nil)) (by repeat (first | exact Off.frame rfl | exact Off.refl _ _ | refine Off.frameT rfl rfl ?_ | refine Off.upd rfl ?_ | refine Off.updO rfl ?_)) (by repeat (first | exact Wk.refl _ | apply Wk.keep1 | apply Wk.drop | apply Wk.sv | apply Wk.svD | apply Wk.appD)) ⟨by dsimp only; omega, hnot rfl⟩ (by dsimp only; omega)
    | true =>
      repeat' (first | (refine GiP ?_; first | (refine Znh ?_) | (with_reducible refine Znl ?_)) | (refine GiW ?_; first | (refine Zsq fun K hK => ?_) | (refine ZrN 2 fun _ => ?_; refine Zv Zxlss ?_) | (refine ZrN 3 fun _ => ?_; refine Zv Zia ?_; refine Zv Zld ?_; refine Zv Zai ?_) | (refine ZrN 4 fun _ => ?_; refine Zv Zf0 ?_; refine Zv Zld ?_; refine Zv Zmi ?_; refine OPS_retKS (Enters_val rfl rfl) (hq2 kk) rfl rfl rfl (fun v17 L17 h17 => ?_); obtain ⟨kk2, rfl, rfl⟩ := h17) | (refine ZrN 5 fun _ => ?_; refine Zv Zmi ?_; refine Zv Zai ?_; refine Zv Zab ?_) | (refine WP_cond_true rfl ?_) | (refine WP_cond_false rfl ?_) | (refine Zcd (fun hc => ?_) (fun hc => ?_) <;> (try (exfalso; omega))) | (with_reducible apply WP_skip) | (with_reducible apply WP_block) | (with_reducible apply WP_exit) | (with_reducible apply WP_ret)) | (refine Zhn ?_) | (with_reducible apply QBlock_normal) | (refine Zhx ?_) | (with_reducible apply QBlock_hit) | (refine Zqb ?_) | (with_reducible apply QLoop_exit) | (refine Zhr ?_) | (with_reducible apply QBlock_ret) | (with_reducible apply QLoop_ret))
      exact QBody_res rfl (.tmp (rfl : _ = Value.int _ _) (.tmp (rfl : _ = Value.bool _) .nil)) rfl ⟨F kk2, .drop (Wk.refl _), _, rfl, kk2, by rw [hyes rfl]; rfl, rfl⟩
  · have hke : k = l.length := by omega
    rw [hke, List.take_length] at hall
    repeat' (first | (refine GiP ?_; first | (refine Znh ?_) | (with_reducible refine Znl ?_)) | (refine GiW ?_; first | (refine Zsq fun K hK => ?_) | (refine ZrN 2 fun _ => ?_; refine Zv Zxlss ?_) | (refine ZrN 7 fun _ => ?_; refine Zv Zmi ?_; refine Zv Zai ?_; refine Zv Zab ?_) | (refine WP_cond_true rfl ?_) | (refine WP_cond_false rfl ?_) | (refine Zcd (fun hc => ?_) (fun hc => ?_) <;> (try (exfalso; omega))) | (with_reducible apply WP_skip) | (with_reducible apply WP_block) | (with_reducible apply WP_exit) | (with_reducible apply WP_ret)) | (refine Zhn ?_) | (with_reducible apply QBlock_normal) | (refine Zhx ?_) | (with_reducible apply QBlock_hit) | (refine Zqb ?_) | (with_reducible apply QLoop_exit) | (refine Zhr ?_) | (with_reducible apply QBlock_ret) | (with_reducible apply QLoop_ret))
    exact QBody_res rfl (.tmp (rfl : _ = Value.int _ _) (.tmp (rfl : _ = Value.bool _) .nil)) rfl ⟨F kk, .drop (Wk.refl _), _, rfl, kk, by rw [hall]; rfl, rfl⟩
end
end Go.Proofs.Ytakmopiceopcpaa
end

section
namespace Go.Proofs.Ytakmopiceopcpaa
open Go.RowKit
theorem stopsFalse : Stops 78 Try.f78 := ⟨Try.func78, ⟨_, _, _, _, _, rfl⟩, rfl, rfl⟩
theorem stopsClash : Stops 86 Try.f86 := ⟨Try.func86, ⟨_, _, _, _, _, rfl⟩, rfl, rfl⟩
/-- Whether there is a truth without the marks of a set. -/
def offB (d : Bn) (s : Nat) : Bool := canB d (2 ^ d.ms.length - 1 - s)
def falseS (d : Bn) : Nat := ((setsL d.ms.length).find? (offB d)).getD 0
def FalseN (d : Bn) : Nat := if vB d = true then pc (falseS d) else 0
def FalseV (d : Bn) : Nat := if vB d = true then falseS d else 0
def clashS (d : Bn) : Option Nat := (setsL d.ms.length).find? fun s => !canB d s
def ClashE (d : Bn) : Int := if vB d = true then if (clashS d).isSome then 0 else 4 else 1
def ClashV (d : Bn) : Nat := if ClashE d = 0 then (clashS d).getD 0 else 0
theorem off_bits : ∀ m, m < 7 → ∀ s, s < 2 ^ m → (2 ^ m - 1) &&& (2 ^ 64 - 1 - s) = 2 ^ m - 1 - s := by decide +kernel
attribute [local irreducible] AnyO AnyB QAny QB EWalk AWalk Ev WP OPS QThen QBlock QScope QLoop QBody Val New Turn Tri Enters PostA Blk Ro
attribute [local irreducible] AnyC QC
section
variable (N : Nat) (w0 : World)
theorem False2_ret (L : Hp) (g : Fg) (hv : VB g.d) (hA : BkAt N w0 g) (set : Nat) (hset : set < 2 ^ g.d.ms.length) (b5 : Nat) (hm : Mem b5 (Blk 71 (bkL g)) L) : Ret Try.prog N w0 L 81 (.int .u64 (set : Int) :: [.pointer (some ⟨b5, 0, none⟩)]).toArray (.bool (offB g.d set)) := by
  have hnm := hv.nm
  have hp : 2 ^ g.d.ms.length ≤ 2 ^ 6 := Nat.pow_le_pow_right (by omega) hnm
  have hev := fun L => every_ret N w0 L g hnm
  have hcn := fun L => can_ret N w0 L g hv hA (2 ^ g.d.ms.length - 1 - set) (by omega)
  have hob := off_bits g.d.ms.length (by omega) set hset
  have han : ∀ {L e d ty pos af gg x y' t t'} (hx : ev e x = .int .u64 ((2 ^ g.d.ms.length - 1 : Nat) : Int)) (hy : ev e y' = .int .u64 (set : Int)), Val Try.prog N w0 L e ⟨d, .binOp .andNot t x y' t', ty, pos, af, gg⟩ (.int .u64 ((2 ^ g.d.ms.length - 1 - set : Nat) : Int)) := by
    intro L e d ty pos af gg x y' t t' hx hy
    have := Val_andNot (P := Try.prog) (N := N) (w0 := w0) (L := L) (d := d) (ty := ty) (pos := pos) (af := af) (g := gg) (t := t) (t' := t') (k := .u64) (a := 2 ^ g.d.ms.length - 1) (b := set) rfl hx hy (by show _ < 2 ^ 64; omega) (by show _ < 2 ^ 64; omega)
    rw [show (2 ^ IntKind.u64.bits - 1 - set : Nat) = 2 ^ 64 - 1 - set from rfl, hob] at this
    exact this
  unfold offB
  unfold bkV bkL at hev hcn
  unfold bkL at hm
  refine Ret.fgt ?_
  refine tri_of_WP Try.func81 rfl (n := _) rfl (by simp) ?_
  repeat' (first | (refine GiP ?_; first | (refine Znh ?_) | (with_reducible refine Znl ?_)) | (refine GiW ?_; first | (refine Zsq fun K hK => ?_) | (refine ZrN 0 fun _ => ?_; refine Zv Zab ?_) | (with_reducible apply WP_ret) | (refine WP_drawnS (id := 1) [] [0, 1, 2, 3, 4, 5, 6] [] [] (k := 0) (k2 := 0) (by repeat (first | apply Sub.sv | apply Sub.keep | apply Sub.appK | exact Sub.refl _)) (by kernel_rfl) prog_mixed (by kernel_rfl) (by kernel_rfl) rfl ?_; refine Zew rfl Zla ?_; refine Zew rfl Zla ?_; refine Zec rfl (Enters_fn rfl) (fun X => hev _) ?_; refine Zew rfl Zmi ?_; refine Zew rfl (han rfl rfl) ?_; refine Zec rfl (Enters_fn rfl) (fun X => hcn _) ?_; refine Zew rfl Zab ?_)) | (with_reducible apply EWalk_nil) | (refine ZgC [0, 1, 2, 3, 4, 5, 6] ?_; refine ZCd _ ?_) | (refine Zhn ?_) | (refine Zhr ?_) | (refine AWalk_0 ?_) | (with_reducible apply QC_normal))
  exact QBody_ret1 rfl (rfl : _ = Value.bool _) ⟨rfl, (by repeat (first | exact Wk.refl _ | apply Wk.keep1 | apply Wk.drop | apply Wk.sv | apply Wk.svD | apply Wk.appD))⟩
theorem Clash2_ret (L : Hp) (g : Fg) (hv : VB g.d) (hA : BkAt N w0 g) (set : Nat) (hset : set < 2 ^ g.d.ms.length) (b5 : Nat) (hm : Mem b5 (Blk 71 (bkL g)) L) : Ret Try.prog N w0 L 87 (.int .u64 (set : Int) :: [.pointer (some ⟨b5, 0, none⟩)]).toArray (.bool (!canB g.d set)) := by
  have hcn := fun L => can_ret N w0 L g hv hA set hset
  unfold bkV bkL at hcn
  unfold bkL at hm
  refine Ret.fgt ?_
  refine tri_of_WP Try.func87 rfl (n := _) rfl (by simp) ?_
  repeat' (first | (refine GiP ?_; first | (refine Znh ?_) | (with_reducible refine Znl ?_)) | (refine GiW ?_; first | (refine Zsq fun K hK => ?_) | (refine ZrN 0 fun _ => ?_; refine Zv Zab ?_) | (refine ZrN 1 fun _ => ?_; refine Zv Zla ?_; refine Zv Zmi ?_; refine Zcl (Enters_fn rfl) (hcn _) ?_; refine Zv Zxnot ?_; refine Zv Zab ?_) | (with_reducible apply WP_ret)) | (refine Zhn ?_) | (refine Zhr ?_))
  exact QBody_ret1 rfl (rfl : _ = Value.bool _) ⟨rfl, (by repeat (first | exact Wk.refl _ | apply Wk.keep1 | apply Wk.drop | apply Wk.sv | apply Wk.svD | apply Wk.appD))⟩
set_option maxHeartbeats 4000000 in
theorem False_ret (L : Hp) (g : Fg) (hA : BkAt N w0 g) : Ret Try.prog N w0 L 27 [bkV g].toArray (.tuple [.int .i64 ((FalseN g.d : Nat) : Int), .int .i64 ((FalseV g.d : Nat) : Int), .int .i64 (CountE g.d)].toArray) := by
  have hop : ∀ (L : Hp), OpenR N w0 g true 73 [] L := fun L => open_tri N w0 L g hA true 73 [] [] ⟨L, List.Perm.refl _⟩ (fun L' _ _ => always_ret N w0 L' g)
  refine Ret.fgt ?_
  refine tri_of_WPL Try.func27 rfl (n := _) rfl (by simp) ?_
  by_cases hvb : vB g.d = true
  · have hv := VB_of hvb
    have hop' := fun L => open_ok (hop L) hvb rfl
    have hnm := hv.nm
    have hm8 : g.d.ms.length < 8 := by omega
    have hst := fun L => sets_tri N w0 L g hnm
    have hlen := setsL_len hm8
    have hlt := find_lt hm8 (offB g.d)
    have hss : falseS g.d = ((setsL g.d.ms.length).find? (offB g.d)).getD 0 := rfl
    rw [← hss] at hlt
    have hp : 2 ^ g.d.ms.length ≤ 2 ^ 6 := Nat.pow_le_pow_right (by omega) hnm
    have hfs := fun b5 X b18 tl18 c18 => first_tri N w0 (fun (_ : Unit) => (b18, Blk 93 (ut tl18 (setsL g.d.ms.length))) :: (b5, Blk 71 (bkL g)) :: X) () (setsL g.d.ms.length) (by omega) b18 c18 tl18 (fun _ => .here) 81 [.pointer (some ⟨b5, 0, none⟩)] (offB g.d)
      (fun s hs x _ => (False2_ret N w0 (x :: (b18, Blk 93 (ut tl18 (setsL g.d.ms.length))) :: (b5, Blk 71 (bkL g)) :: X) g hv hA s (by have h1 := (sets_lt hm8).1 hs; omega) b5 (.there (.there .here))).mono fun y L' ⟨h1, h2⟩ => ⟨_, h1, (), rfl, h2⟩)
    rw [hlen, ← hss] at hfs
    have hon := fun L => ones_ret N w0 L (falseS g.d) hlt
    have he : CountE g.d = 0 := by unfold CountE; rw [if_pos hvb]
    have hz : FalseN g.d = pc (falseS g.d) := by unfold FalseN; rw [if_pos hvb]
    have hy : FalseV g.d = falseS g.d := by unfold FalseV; rw [if_pos hvb]
    rw [he, hz, hy]
    unfold bkV at hop' hst ⊢
    unfold bkL at hop' hst hfs ⊢
    repeat' (first | (refine GiP ?_; first | (refine Znh ?_) | (with_reducible refine Znl ?_)) | (refine GiW ?_; first | (refine Zsq fun K hK => ?_) | (refine ZrN 0 fun _ => ?_; refine Zal 1 fun b1 => ?_; refine Zv Zai ?_; refine Zv Zai ?_; refine Zal 4 fun b4 => ?_) | (refine ZrN 1 fun _ => ?_; refine Zv Val_makeFunc ?_; refine OPS_defer rfl ?_) | (refine ZrN 2 fun _ => ?_; refine Zv Zla ?_; refine Zcl (Enters_fn rfl) (hop' _) ?_; refine Zal 5 fun b5 => ?_; refine Zst ?_) | (refine ZrN 3 fun _ => ?_; refine Zv Zla ?_; refine OPS_retKS (Enters_fn rfl) (hst _) rfl rfl rfl (fun v18 L18 h18 => ?_); obtain ⟨b18, tl18, c18, rfl, rfl⟩ := h18; refine Zv Val_makeFunc ?_; refine Zv Zxbu ?_; refine OPS_retKS (Enters_fn rfl) (hfs b5 _ b18 tl18 c18) rfl rfl rfl (fun v21 L21 h21 => ?_); obtain ⟨K21, rfl, rfl⟩ := h21; refine Zv Zmv ?_; refine Zv Zxex ?_; refine Zv Zxex ?_; refine Zv Zai ?_; refine Zv Zab ?_) | (refine ZrN 4 fun _ => ?_; refine Zv Zmi ?_; refine Zcl (Enters_fn rfl) (hon _) ?_; refine Zv Zmi ?_; (first | (refine Zv (Val_convert rfl (InK_i64 (by omega) (by omega))) ?_) | (refine Zv Zxco ?_)); refine Zv Zai ?_; refine Zv Zai ?_; refine Zst ?_) | (with_reducible apply WP_ret)) | (refine Zhn ?_) | (refine Zhr ?_))
    all_goals (refine QLeave_ret ?_; refine Lv_stop0 N w0 stopsFalse ?_; refine Lv_nil rfl (.tmp (rfl : _ = Value.int _ _) (.tmp (rfl : _ = Value.int _ _) (.cell1 rfl (by repeat (first | exact Mem.here | assumption | apply Mem.there | apply Mem.sv | apply Mem.app)) rfl .nil))) rfl ?_; exact ⟨rfl, (by repeat (first | exact Wk.refl _ | apply Wk.keep1 | apply Wk.drop | apply Wk.sv | apply Wk.svD | apply Wk.appD))⟩)
  · have hno : vB g.d = false ∨ true = false := by cases h : vB g.d <;> simp_all
    have hop' := fun L => open_no (hop L) hno
    have he : errD g.d true = CountE g.d := by unfold errD CountE; rw [if_neg hvb, if_neg hvb]
    have hz : FalseN g.d = 0 := by unfold FalseN; rw [if_neg hvb]
    have hy : FalseV g.d = 0 := by unfold FalseV; rw [if_neg hvb]
    rw [he] at hop'
    rw [hz, hy]
    unfold bkV bkL at hop' ⊢
    repeat' (first | (refine GiP ?_; first | (refine Znh ?_) | (with_reducible refine Znl ?_) | (refine Zatd 5 ?_; refine Zal 5 fun b5 => ?_; refine Zst ?_) | (refine Zatd 14 ?_; refine Zv Val_makeFunc ?_; refine Zv Zxbu ?_) | (refine Zatd 11 ?_; refine Zv Zmv ?_; refine Zv Zxex ?_; refine Zv Zxex ?_; refine Zv Zai ?_; refine Zv Zab ?_) | (refine Zatd 21 ?_; refine Zv Zmi ?_; refine Zv Zxco ?_; refine Zv Zai ?_; refine Zv Zai ?_; refine Zst ?_)) | (refine GiW ?_; first | (refine Zsq fun K hK => ?_) | (refine ZrN 0 fun _ => ?_; refine Zal 1 fun b1 => ?_; refine Zv Zai ?_; refine Zv Zai ?_; refine Zal 4 fun b4 => ?_) | (refine ZrN 1 fun _ => ?_; refine Zv Val_makeFunc ?_; refine OPS_defer rfl ?_) | (refine ZrN 2 fun _ => ?_; refine Zv Zla ?_; refine OPS_pan (Enters_fn rfl) (hop' _) rfl rfl ?_) | (refine ZrN 3 fun _ => ?_; refine Zv Zla ?_) | (refine ZrN 4 fun _ => ?_; refine Zv Zmi ?_) | (with_reducible apply WP_ret)) | (refine Zhn ?_) | (refine Zhr ?_) | (refine Zhp ?_))
    all_goals ((try refine HThen.panic (by assumption) ?_); refine QLeave_panic ?_; refine Lv_stop1 N w0 stopsFalse (by repeat (first | exact Up.here | apply Up.there | apply Up.sv)) ?_; refine Lv_nil rfl (.tmp (rfl : _ = Value.int _ _) (.tmp (rfl : _ = Value.int _ _) (.cell1 rfl (by repeat (first | exact Mem.here | assumption | apply Mem.there | apply Mem.sv | apply Mem.app)) rfl .nil))) rfl ?_; exact ⟨rfl, (by repeat (first | exact Wk.refl _ | apply Wk.keep1 | apply Wk.drop | apply Wk.sv | apply Wk.svD | apply Wk.appD))⟩)
set_option maxHeartbeats 4000000 in
theorem Clash_ret (L : Hp) (g : Fg) (hA : BkAt N w0 g) : Ret Try.prog N w0 L 29 [bkV g].toArray (.tuple [.int .i64 ((ClashV g.d : Nat) : Int), .int .i64 (ClashE g.d)].toArray) := by
  have hop : ∀ (L : Hp), OpenR N w0 g true 73 [] L := fun L => open_tri N w0 L g hA true 73 [] [] ⟨L, List.Perm.refl _⟩ (fun L' _ _ => always_ret N w0 L' g)
  refine Ret.fgt ?_
  refine tri_of_WPL Try.func29 rfl (n := _) rfl (by simp) ?_
  by_cases hvb : vB g.d = true
  · have hv := VB_of hvb
    have hop' := fun L => open_ok (hop L) hvb rfl
    have hnm := hv.nm
    have hm8 : g.d.ms.length < 8 := by omega
    have hst := fun L => sets_tri N w0 L g hnm
    have hlen := setsL_len hm8
    have hlt := find_lt hm8 (fun s => !canB g.d s)
    have hss : clashS g.d = (setsL g.d.ms.length).find? fun s => !canB g.d s := rfl
    rw [← hss] at hlt
    have hp : 2 ^ g.d.ms.length ≤ 2 ^ 6 := Nat.pow_le_pow_right (by omega) hnm
    have hfs := fun b4 X b18 tl18 c18 => first_tri N w0 (fun (_ : Unit) => (b18, Blk 93 (ut tl18 (setsL g.d.ms.length))) :: (b4, Blk 71 (bkL g)) :: X) () (setsL g.d.ms.length) (by omega) b18 c18 tl18 (fun _ => .here) 87 [.pointer (some ⟨b4, 0, none⟩)] (fun s => !canB g.d s)
      (fun s hs x _ => (Clash2_ret N w0 (x :: (b18, Blk 93 (ut tl18 (setsL g.d.ms.length))) :: (b4, Blk 71 (bkL g)) :: X) g hv hA s (by have h1 := (sets_lt hm8).1 hs; omega) b4 (.there (.there .here))).mono fun y L' ⟨h1, h2⟩ => ⟨_, h1, (), rfl, h2⟩)
    rw [hlen, ← hss] at hfs
    have he : ClashE g.d = if (clashS g.d).isSome then 0 else 4 := by unfold ClashE; rw [if_pos hvb]
    have hz : ClashV g.d = if (clashS g.d).isSome then (clashS g.d).getD 0 else 0 := by
      unfold ClashV; rw [he]
      cases (clashS g.d).isSome <;> rfl
    rw [he, hz]
    obtain ⟨w, hw⟩ : ∃ w, (clashS g.d).isSome = w := ⟨_, rfl⟩
    rw [hw] at hfs ⊢
    unfold bkV at hop' hst ⊢
    unfold bkL at hop' hst hfs ⊢
    cases w with
    | false =>
      repeat' (first | (refine GiP ?_; first | (refine Znh ?_) | (with_reducible refine Znl ?_)) | (refine GiW ?_; first | (refine Zsq fun K hK => ?_) | (refine ZrN 0 fun _ => ?_; refine Zal 1 fun b1 => ?_; refine Zv Zai ?_; refine Zal 3 fun b3 => ?_) | (refine ZrN 1 fun _ => ?_; refine Zv Val_makeFunc ?_; refine OPS_defer rfl ?_) | (refine ZrN 2 fun _ => ?_; refine Zv Zla ?_; refine Zcl (Enters_fn rfl) (hop' _) ?_; refine Zal 4 fun b4 => ?_; refine Zst ?_) | (refine ZrN 3 fun _ => ?_; refine Zv Zla ?_; refine OPS_retKS (Enters_fn rfl) (hst _) rfl rfl rfl (fun v18 L18 h18 => ?_); obtain ⟨b18, tl18, c18, rfl, rfl⟩ := h18; refine Zv Val_makeFunc ?_; refine Zv Zxbu ?_; refine OPS_retKS (Enters_fn rfl) (hfs b4 _ b18 tl18 c18) rfl rfl rfl (fun v21 L21 h21 => ?_); obtain ⟨K21, rfl, rfl⟩ := h21; refine Zv Zmv ?_; refine Zv Zxex ?_; refine Zv Zxex ?_; refine Zv Zai ?_; refine Zv Zab ?_) | (refine ZrN 4 fun _ => ?_; refine Zv Zmb ?_; (refine OPS_must (Enters_fn rfl) rfl rfl rfl (fun hc => ?_) (fun hc => ?_) <;> (try (exfalso; simp at hc; done)))) | (with_reducible apply WP_ret)) | (refine Zhn ?_) | (refine Zhr ?_) | (refine Zhp ?_))
      all_goals ((try refine HThen.panic (by assumption) ?_); refine QLeave_panic ?_; refine Lv_stop1 N w0 stopsClash (by repeat (first | exact Up.here | apply Up.there | apply Up.sv)) ?_; refine Lv_nil rfl (.tmp (rfl : _ = Value.int _ _) (.cell1 rfl (by repeat (first | exact Mem.here | assumption | apply Mem.there | apply Mem.sv | apply Mem.app)) rfl .nil)) rfl ?_; exact ⟨rfl, (by repeat (first | exact Wk.refl _ | apply Wk.keep1 | apply Wk.drop | apply Wk.sv | apply Wk.svD | apply Wk.appD))⟩)
    | true =>
      repeat' (first | (refine GiP ?_; first | (refine Znh ?_) | (with_reducible refine Znl ?_)) | (refine GiW ?_; first | (refine Zsq fun K hK => ?_) | (refine ZrN 0 fun _ => ?_; refine Zal 1 fun b1 => ?_; refine Zv Zai ?_; refine Zal 3 fun b3 => ?_) | (refine ZrN 1 fun _ => ?_; refine Zv Val_makeFunc ?_; refine OPS_defer rfl ?_) | (refine ZrN 2 fun _ => ?_; refine Zv Zla ?_; refine Zcl (Enters_fn rfl) (hop' _) ?_; refine Zal 4 fun b4 => ?_; refine Zst ?_) | (refine ZrN 3 fun _ => ?_; refine Zv Zla ?_; refine OPS_retKS (Enters_fn rfl) (hst _) rfl rfl rfl (fun v18 L18 h18 => ?_); obtain ⟨b18, tl18, c18, rfl, rfl⟩ := h18; refine Zv Val_makeFunc ?_; refine Zv Zxbu ?_; refine OPS_retKS (Enters_fn rfl) (hfs b4 _ b18 tl18 c18) rfl rfl rfl (fun v21 L21 h21 => ?_); obtain ⟨K21, rfl, rfl⟩ := h21; refine Zv Zmv ?_; refine Zv Zxex ?_; refine Zv Zxex ?_; refine Zv Zai ?_; refine Zv Zab ?_) | (refine ZrN 4 fun _ => ?_; refine Zv Zmb ?_; (refine OPS_must (Enters_fn rfl) rfl rfl rfl (fun hc => ?_) (fun hc => ?_) <;> (try (exfalso; simp at hc; done)))) | (refine ZrN 5 fun _ => ?_; refine Zv Zmi ?_; (first | (refine Zv (Val_convert rfl (InK_i64 (by omega) (by omega))) ?_) | (refine Zv Zxco ?_)); refine Zv Zai ?_; refine Zst ?_) | (with_reducible apply WP_ret)) | (refine Zhn ?_) | (refine Zhr ?_) | (refine Zhp ?_))
      all_goals (refine QLeave_ret ?_; refine Lv_stop0 N w0 stopsClash ?_; refine Lv_nil rfl (.tmp (rfl : _ = Value.int _ _) (.cell1 rfl (by repeat (first | exact Mem.here | assumption | apply Mem.there | apply Mem.sv | apply Mem.app)) rfl .nil)) rfl ?_; exact ⟨rfl, (by repeat (first | exact Wk.refl _ | apply Wk.keep1 | apply Wk.drop | apply Wk.sv | apply Wk.svD | apply Wk.appD))⟩)
  · have hno : vB g.d = false ∨ true = false := by cases h : vB g.d <;> simp_all
    have hop' := fun L => open_no (hop L) hno
    have he : ClashE g.d = 1 := by unfold ClashE; rw [if_neg hvb]
    have he2 : errD g.d true = 1 := by unfold errD; rw [if_neg hvb]
    have hz : ClashV g.d = 0 := by unfold ClashV; rw [he, if_neg (by omega)]
    rw [he2] at hop'
    rw [hz, he]
    unfold bkV bkL at hop' ⊢
    repeat' (first | (refine GiP ?_; first | (refine Znh ?_) | (with_reducible refine Znl ?_) | (refine Zatd 4 ?_; refine Zal 4 fun b4 => ?_; refine Zst ?_) | (refine Zatd 13 ?_; refine Zv Val_makeFunc ?_; refine Zv Zxbu ?_) | (refine Zatd 10 ?_; refine Zv Zmv ?_; refine Zv Zxex ?_; refine Zv Zxex ?_; refine Zv Zai ?_; refine Zv Zab ?_)) | (refine GiW ?_; first | (refine Zsq fun K hK => ?_) | (refine ZrN 0 fun _ => ?_; refine Zal 1 fun b1 => ?_; refine Zv Zai ?_; refine Zal 3 fun b3 => ?_) | (refine ZrN 1 fun _ => ?_; refine Zv Val_makeFunc ?_; refine OPS_defer rfl ?_) | (refine ZrN 2 fun _ => ?_; refine Zv Zla ?_; refine OPS_pan (Enters_fn rfl) (hop' _) rfl rfl ?_) | (refine ZrN 3 fun _ => ?_; refine Zv Zla ?_) | (refine ZrN 4 fun _ => ?_; refine Zv Zmb ?_) | (refine ZrN 5 fun _ => ?_; refine Zv Zmi ?_; refine Zv Zxco ?_; refine Zv Zai ?_; refine Zst ?_) | (with_reducible apply WP_ret)) | (refine Zhn ?_) | (refine Zhr ?_) | (refine Zhp ?_))
    all_goals ((try refine HThen.panic (by assumption) ?_); refine QLeave_panic ?_; refine Lv_stop1 N w0 stopsClash (by repeat (first | exact Up.here | apply Up.there | apply Up.sv)) ?_; refine Lv_nil rfl (.tmp (rfl : _ = Value.int _ _) (.cell1 rfl (by repeat (first | exact Mem.here | assumption | apply Mem.there | apply Mem.sv | apply Mem.app)) rfl .nil)) rfl ?_; exact ⟨rfl, (by repeat (first | exact Wk.refl _ | apply Wk.keep1 | apply Wk.drop | apply Wk.sv | apply Wk.svD | apply Wk.appD))⟩)
end
end Go.Proofs.Ytakmopiceopcpaa
end
