/- The rest of a row is cleared. · Package bank: the bank with the marks of a set alone. -/
import Derived.Test.YtakmopiceopcpaaMk
import Derived.Test.YtakmopiceopcpaaA6
section
namespace Go.Proofs.Ytakmopiceopcpaa
open Go.RowKit
section
variable {P : Program} {r : Option Nat} {n N : Nat} {w0 : World} {L : Hp} {e : Env} {d : Option Nat} {ty : TypeId} {pos : String} {af : Array Edge} {g : Option (Nat × Bool)} {ops : Array Oper} {rest : List Oper} {Q : Post} {ds : List Deferred}
theorem OPS_clearR {t E : TypeId} [hs : SliceOf P t E] {sz : Nat} {z : List Value} [hZ : TyZero P E z] (hz : z.length = sz) (hzo : ones z = true) {x : Operand} {b i q c k cap o : Nat} {xs : List Value} {F : List Value → Hp} (hx : ev e x = .slice (some ⟨b, o, none⟩) q c) (hq0 : 0 < q) (ho : o = i * sz) (him : i + q ≤ k)
    (hu : ∀ xs', Up L b (Row E sz k cap xs) (Row E sz k cap xs') (F xs')) (hg : Region.wanted ⟨none, .call { callee := .builtin .clear, args := #[x], argTypes := #[t] }, ty, pos, af, g⟩ (yieldE ops e) = true)
    (h : ∀ xs', xs'.length = xs.length → xs'.take (i * sz) = xs.take (i * sz) → OPS P r n N w0 ops rest Q e ds (F xs')) :
    OPS P r n N w0 ops (⟨none, .call { callee := .builtin .clear, args := #[x], argTypes := #[t] }, ty, pos, af, g⟩ :: rest) Q e ds L := by
  obtain ⟨m, rfl⟩ : ∃ m, q = m + 1 := ⟨q - 1, by omega⟩
  refine OPS_any (K := fun _ L1 => ∃ xs', xs'.length = xs.length ∧ xs'.take (i * sz) = xs.take (i * sz) ∧ L1 = F xs') (fun w hI => ?_) hg rfl rfl ?_
  · obtain ⟨ob, hob, cur, rfl, hc1, hc2, hc3, hc4⟩ := hI.obj' (hu xs).mem
    have hzz := hZ.zero
    cases hin : P.info? E with
    | none => rw [hin] at hzz; cases hzz
    | some inf =>
      rw [hin] at hzz
      cases hiz : inf.zero with
      | none => simp [hiz] at hzz
      | some zv =>
        simp only [Option.bind_some, hiz, Option.map_some, Option.some.injEq] at hzz
        have hzs : zv.cells.size = sz := by rw [← Array.length_toList, hzz, hz]
        obtain ⟨vs, hvs⟩ : ∃ vs, (Builtin.zeroCells zv.cells (m + 1)).toList = vs := ⟨_, rfl⟩
        have hvl : vs.length = (m + 1) * sz := by rw [← hvs]; simp [Builtin.zeroCells, hzs]
        have hvo : ∀ v ∈ vs, v.oneCell' = true := by
          intro v hv
          rw [← hvs] at hv
          unfold Builtin.zeroCells at hv
          rw [Array.toList_map, List.mem_map] at hv
          obtain ⟨q, hq, rfl⟩ := hv
          rw [Array.toList_range, List.mem_range] at hq
          have hpos : 0 < zv.cells.size := by
            rcases Nat.eq_zero_or_pos zv.cells.size with h0 | h0
            · rw [h0, Nat.mul_zero] at hq; omega
            · exact h0
          have hlt : q % zv.cells.size < zv.cells.size := Nat.mod_lt _ hpos
          rw [getElem!_pos zv.cells _ hlt]
          unfold ones at hzo
          rw [List.all_eq_true] at hzo
          refine hzo _ ?_
          rw [← hzz]
          exact Array.getElem_mem_toList hlt
        have hks : k * sz ≤ cap * sz := Nat.mul_le_mul_right _ hc1
        have his : i * sz + (m + 1) * sz ≤ k * sz := by rw [← Nat.add_mul]; exact Nat.mul_le_mul_right _ him
        have hst := run_storeCells_at P b (i * sz) E vs 0 cur w hob (by rw [hvl, hc3]; omega) hvo
        rw [Nat.add_zero] at hst
        have hcl : (Builtin.clear_ #[t] ty #[.slice (some ⟨b, o, none⟩) (m + 1) c]).run P w = .ok (.tuple #[]) (w.setRow b (cur.toList.take (i * sz) ++ vs ++ cur.toList.drop (i * sz + vs.length)).toArray) := by
          rw [ho]
          simp [Builtin.clear_, run_underlying hs.und, zeroValue, typeInfo, hin, hiz, hvs, hst]
        refine ⟨.tuple #[], w.setRow b (cur.toList.take (i * sz) ++ vs ++ cur.toList.drop (i * sz + vs.length)).toArray, F ((cur.toList.take (i * sz) ++ vs ++ cur.toList.drop (i * sz + vs.length)).take (k * sz)), by simp [execOp, resolve, invoke, builtin, hx, hcl], ?_, _, ?_, ?_, rfl⟩
        · refine hI.turn (hu _) rfl rfl rfl (by simp) (fun j _ hj => setRow_other w b j _ hj) ⟨_, setRow_heap w b cur _ E _ hob, _, rfl, hc1, hc2, ?_, ?_⟩
          · simp only [Nat.add_zero, List.size_toArray, List.length_append, List.length_take, List.length_drop, Array.length_toList]
            omega
          · simp
        · rw [← hc4]
          simp only [List.length_take, List.length_append, List.length_drop, Array.length_toList]
          omega
        · rw [← hc4, List.take_take, List.take_take, Nat.min_eq_left (by omega), List.append_assoc, List.take_append_of_le_length (by simp; omega), List.take_take, Nat.min_self]
  · rintro v L1 ⟨xs', h1, h2, rfl⟩
    exact h xs' h1 h2
end
end Go.Proofs.Ytakmopiceopcpaa
end

section
namespace Go.Proofs.Ytakmopiceopcpaa
open Go.RowKit
theorem rd_row {N : Nat} {w0 : World} {L : Hp} {E : TypeId} {sz k cap b o : Nat} {xs : List Value} {v : Value} (hm : Mem b (Row E sz k cap xs) L) (hv : xs[o]? = some v) : Rd N w0 L b (0 + o) v := by
  intro w hI
  obtain ⟨o', ho, cur, rfl, h1, h2, h3, h4⟩ := hI.obj' hm
  rw [cell_of_row w b (0 + o) cur E (0, 0) ho, Nat.zero_add]
  have hlt := (List.getElem?_eq_some_iff.1 hv).1
  rw [← h4] at hv hlt
  rw [List.getElem?_take] at hv
  split at hv
  · simpa using hv
  · cases hv
def marksF (l : List Sp) : List Value := (l.map spL).flatten
theorem marksF_len (l : List Sp) : (marksF l).length = l.length * 2 := map_flat (f := spL) (sz := 2) (fun _ => rfl) l
theorem marksF_get {l : List Sp} {k : Nat} (hk : k < l.length) : ∀ j v, (spL l[k])[j]? = some v → (marksF l)[k * 2 + j]? = some v := by
  intro j v hj
  have hj2 : j < 2 := (List.getElem?_eq_some_iff.1 hj).1
  unfold marksF
  rw [flat_get _ k j (by simpa using hk) (map_len (f := spL) (fun _ => rfl) l) hj2, List.getElem_map]
  exact hj
/-- The counter's box is ahead; the set's box is somewhere. -/
def cntH (bn : Nat) (i : Nat) (L : Hp) : Hp := (bn, Blk 3 [.int .i64 ((i : Int) - 1)]) :: L
theorem setL_fill : ∀ (vs xs : List Value) (o : Nat), o + vs.length ≤ xs.length → (setL xs o vs).take (o + vs.length) = xs.take o ++ vs
  | [], xs, o, _ => by simp [setL]
  | v :: vs, xs, o, h => by
    simp only [List.length_cons] at h
    have ih := setL_fill vs (xs.set o v) (o + 1) (by simp; omega)
    show (setL (xs.set o v) (o + 1) vs).take (o + (vs.length + 1)) = _
    rw [show o + (vs.length + 1) = o + 1 + vs.length by omega, ih, List.take_succ_eq_append_getElem (by simp; omega), List.take_set, List.set_eq_of_length_le (by simp; omega)]
    simp
theorem setL_behind : ∀ (vs xs : List Value) (o q : Nat), o + vs.length ≤ q → (setL xs o vs)[q]? = xs[q]?
  | [], xs, o, q, _ => rfl
  | v :: vs, xs, o, q, h => by
    simp only [List.length_cons] at h
    show (setL (xs.set o v) (o + 1) vs)[q]? = _
    rw [setL_behind vs (xs.set o v) (o + 1) q (by omega), List.getElem?_set_ne (by omega)]
attribute [local irreducible] AnyO AnyB QAny QB EWalk AWalk Ev WP OPS QThen QBlock QScope QLoop QBody Val New Turn Tri Enters PostA Blk Ro
attribute [local irreducible] AnyC QC
section
variable (N : Nat) (w0 : World)
theorem only1_tri (L : Hp) (set : Nat) (hset : set < 2 ^ 64) (bn bs i : Nat) (hi : i ≤ 64) (hs : Mem bs (Blk 93 [.int .u64 (set : Int)]) L) (k : Sp) :
    Tri Try.prog N w0 (cntH bn i L) 108 [.agg [.int .i64 k.1, .int .i64 k.2].toArray, .pointer (some ⟨bn, 0, none⟩), .pointer (some ⟨bs, 0, none⟩)].toArray fun x L' => ∃ v, x = .returned v ∧ v = .bool (decide (set / 2 ^ i % 2 ≠ 1)) ∧ L' = cntH bn (i + 1) L := by
  obtain ⟨z, hz⟩ : ∃ z, set / 2 ^ i = z := ⟨_, rfl⟩
  have hz64 : z < 2 ^ 64 := by rw [← hz]; exact Nat.lt_of_le_of_lt (Nat.div_le_self _ _) hset
  have hshr : ∀ {L e d ty pos af g x y' t t'} (hx : ev e x = .int .u64 (set : Int)) (hy : ev e y' = .int .i64 ((i : Int) - 1 + 1)), Val Try.prog N w0 L e ⟨d, .binOp .shr t x y' t', ty, pos, af, g⟩ (.int .u64 (z : Int)) := by
    intro L e d ty pos af g x y' t t' hx hy
    have := Val_shr (P := Try.prog) (N := N) (w0 := w0) (L := L) (d := d) (ty := ty) (pos := pos) (af := af) (g := g) (t := t) (t' := t') (a := set) (i := i) hx (by rw [hy]; congr 1; omega) (by show i ≤ 64; omega)
    rw [hz] at this
    exact this
  rw [hz]
  unfold cntH
  refine Tri.fgt ?_
  refine tri_of_WP Try.func108 rfl (n := _) rfl (by simp) ?_
  repeat' (first | (refine GiP ?_; first | (refine Znh ?_) | (with_reducible refine Znl ?_)) | (refine GiW ?_; first | (refine Zsq fun K hK => ?_) | (refine ZrN 0 fun _ => ?_; refine Zal 3 fun b3 => ?_; refine Zv Zab ?_) | (refine ZrN 1 fun _ => ?_; refine Zv Zld ?_; refine Zv Zxadd ?_; refine Zst ?_) | (refine ZrN 2 fun _ => ?_; refine Zv Zld ?_; refine Zv Zld ?_; refine Zv (hshr rfl rfl) ?_; refine Zv (Val_and1 rfl rfl hz64) ?_; refine Zv Zxeql ?_; refine Zv Zab ?_) | (with_reducible apply WP_ret)) | (refine Zhn ?_) | (refine Zhr ?_))
  refine QBody_ret1 rfl (rfl : _ = Value.bool _) ⟨_, .drop (Wk.refl _), _, rfl, ?_, ?_⟩
  · congr 1
    rw [Bool.eq_iff_iff]
    simp only [beq_iff_eq, decide_eq_true_eq]
    omega
  · have e : (i : Int) - 1 + 1 = ((i + 1 : Nat) : Int) - 1 := by omega
    rw [e]
theorem only1_at (x : Nat × (Obj → Prop)) (L : Hp) (set : Nat) (hset : set < 2 ^ 64) (bn bs i : Nat) (hi : i ≤ 64) (hs : Mem bs (Blk 93 [.int .u64 (set : Int)]) L) (k : Sp) :
    Tri Try.prog N w0 (x :: cntH bn i L) 108 [.agg [.int .i64 k.1, .int .i64 k.2].toArray, .pointer (some ⟨bn, 0, none⟩), .pointer (some ⟨bs, 0, none⟩)].toArray fun y L' => ∃ v, y = .returned v ∧ v = .bool (decide (set / 2 ^ i % 2 ≠ 1)) ∧ L' = x :: cntH bn (i + 1) L := by
  refine Tri.pm (only1_tri N w0 (x :: L) set hset bn bs i hi (.there hs) k) (List.Perm.swap _ _ _) ?_
  rintro y L' ⟨v, rfl, rfl, rfl⟩
  exact ⟨_, List.Perm.swap _ _ _, _, rfl, rfl, rfl⟩
/-- The first mark that is left out, and how far it was counted. -/
theorem idxM_tri (L : Hp) (set : Nat) (hset : set < 2 ^ 64) (bn bs br : Nat) (ms : List Sp) (hm : ms.length ≤ 6) (cap : Nat) (hs : Mem bs (Blk 93 [.int .u64 (set : Int)]) L) (hr : Mem br (Row 53 2 ms.length cap (marksF ms)) L) :
    Tri Try.prog N w0 (cntH bn 0 L) 113 [.slice (some ⟨br, 0, none⟩) ms.length cap, .func (.func 108) #[] [.pointer (some ⟨bn, 0, none⟩), .pointer (some ⟨bs, 0, none⟩)].toArray].toArray
      fun x L' => ∃ v, x = .returned v ∧ ((v = .int .i64 (-1) ∧ (∀ j, j < ms.length → set / 2 ^ j % 2 = 1) ∧ L' = cntH bn ms.length L) ∨ ∃ i, i < ms.length ∧ v = .int .i64 (i : Int) ∧ (∀ j, j < i → set / 2 ^ j % 2 = 1) ∧ set / 2 ^ i % 2 ≠ 1 ∧ L' = cntH bn (i + 1) L) := by
  refine Tri.fgt ?_
  refine tri_of_WP Try.func113 rfl (n := _) rfl (by simp) ?_
  repeat' (first | (refine GiP ?_; first | (refine Znh ?_) | (with_reducible refine Znl ?_)) | (refine GiW ?_; first | (refine Zsq fun K hK => ?_) | (refine ZrN 0 fun _ => ?_; refine Zv Zai ?_) | (refine ZrN 1 fun _ => ?_; refine Zv Zmv ?_; refine Zv Zxlen ?_; refine Zv Zmi ?_) | (refine WP_cond_true rfl ?_) | (refine WP_cond_false rfl ?_) | (refine Zcd (fun hc => ?_) (fun hc => ?_) <;> (try (exfalso; omega))) | (with_reducible apply WP_skip) | (with_reducible apply WP_block) | (with_reducible apply WP_exit) | (with_reducible apply WP_ret)) | (refine Zhn ?_) | (with_reducible apply QBlock_normal) | (refine Zhx ?_) | (with_reducible apply QBlock_hit) | (refine Zqb ?_) | (with_reducible apply QLoop_exit) | (refine Zhr ?_) | (with_reducible apply QBlock_ret) | (with_reducible apply QLoop_ret))
  refine WP_loop [4, 5, 8, 9, 10, 11, 12, 13, 14, 15, 16, 17, 18] (fun i : Nat => [(8, .int .i64 (i : Int))]) (fun i => cntH bn i L) (fun i => i ≤ ms.length ∧ ∀ j, j < i → set / 2 ^ j % 2 = 1) (fun i => ms.length - i) 0 (.cons rfl .nil) (Wk.refl _) ⟨Nat.zero_le _, fun j hj => by omega⟩ ?_
  rintro i j ⟨hi, hno⟩
  have h1 := fun L i hi hs k => only1_tri N w0 L set hset bn bs i hi hs k
  by_cases hlt : i < ms.length
  · have hget := marksF_get hlt
    obtain ⟨k, hk⟩ : ∃ k, ms[i] = k := ⟨_, rfl⟩
    rw [hk] at hget
    unfold spL at hget
    have hrd : ∀ L', Mem br (Row 53 2 ms.length cap (marksF ms)) L' → ∀ j v, [Value.int .i64 k.1, .int .i64 k.2][j]? = some v → Rd N w0 L' br (0 + i * 2 + j) v := fun L' hm j v hj => by
      rw [Nat.add_assoc]
      exact rd_row hm (hget j v hj)
    obtain ⟨bb, hbb⟩ : ∃ bb, decide (set / 2 ^ i % 2 ≠ 1) = bb := ⟨_, rfl⟩
    have h1i := h1 L i (by omega) hs k
    rw [hbb] at h1i
    have hrL : Mem br (Row 53 2 ms.length cap (marksF ms)) (cntH bn i L) := .there hr
    cases bb with
    | false =>
      rw [decide_eq_false_iff_not, ne_eq, Decidable.not_not] at hbb
      repeat' (first | (refine GiP ?_; first | (refine Znh ?_) | (with_reducible refine Znl ?_)) | (refine GiW ?_; first | (refine Zsq fun K hK => ?_) | (refine ZrN 2 fun _ => ?_; refine Zv Zxlss ?_) | (refine ZrN 3 fun _ => ?_; refine Zv Zmi ?_; refine Zv Zai ?_) | (refine ZrN 4 fun _ => ?_; refine Zv Zmv ?_; refine Zv Zmv ?_; refine Zv Zmi ?_; refine Zv Zia ?_; (first | (refine Zv (Val_loadDN rfl (hrd _ hrL) rfl) ?_) | (refine Zv Zla ?_)); refine OPS_retKS (Enters_val (cf := []) (cc := [.pointer (some ⟨bn, 0, none⟩), .pointer (some ⟨bs, 0, none⟩)]) rfl rfl) h1i rfl rfl rfl (fun v16 L16 h16 => ?_); obtain ⟨rfl, rfl⟩ := h16) | (refine ZrN 6 fun _ => ?_; refine Zv Zxadd ?_; refine Zv Zmi ?_) | (refine WP_cond_true rfl ?_) | (refine WP_cond_false rfl ?_) | (refine Zcd (fun hc => ?_) (fun hc => ?_) <;> (try (exfalso; omega))) | (with_reducible apply WP_skip) | (with_reducible apply WP_block) | (with_reducible apply WP_exit) | (with_reducible apply WP_ret)) | (refine Zhn ?_) | (with_reducible apply QBlock_normal) | (refine Zhx ?_) | (with_reducible apply QBlock_hit) | (refine Zqb ?_) | (with_reducible apply QLoop_exit) | (refine Zhr ?_) | (with_reducible apply QBlock_ret) | (with_reducible apply QLoop_ret))
      refine QLoop_normal (i + 1) (.cons rfl .nil) (by repeat (first | exact Off.frame rfl | exact Off.refl _ _ | refine Off.frameT rfl rfl ?_ | refine Off.upd rfl ?_ | refine Off.updO rfl ?_)) (Wk.refl _) ⟨by omega, fun q hq => ?_⟩ (by omega)
      by_cases hqi : q = i
      · subst hqi; exact hbb
      · exact hno q (by omega)
    | true =>
      rw [decide_eq_true_eq] at hbb
      repeat' (first | (refine GiP ?_; first | (refine Znh ?_) | (with_reducible refine Znl ?_)) | (refine GiW ?_; first | (refine Zsq fun K hK => ?_) | (refine ZrN 2 fun _ => ?_; refine Zv Zxlss ?_) | (refine ZrN 3 fun _ => ?_; refine Zv Zmi ?_; refine Zv Zai ?_) | (refine ZrN 4 fun _ => ?_; refine Zv Zmv ?_; refine Zv Zmv ?_; refine Zv Zmi ?_; refine Zv Zia ?_; (first | (refine Zv (Val_loadDN rfl (hrd _ hrL) rfl) ?_) | (refine Zv Zla ?_)); refine OPS_retKS (Enters_val (cf := []) (cc := [.pointer (some ⟨bn, 0, none⟩), .pointer (some ⟨bs, 0, none⟩)]) rfl rfl) h1i rfl rfl rfl (fun v16 L16 h16 => ?_); obtain ⟨rfl, rfl⟩ := h16) | (refine ZrN 5 fun _ => ?_; refine Zv Zmi ?_; refine Zv Zai ?_) | (refine WP_cond_true rfl ?_) | (refine WP_cond_false rfl ?_) | (refine Zcd (fun hc => ?_) (fun hc => ?_) <;> (try (exfalso; omega))) | (with_reducible apply WP_skip) | (with_reducible apply WP_block) | (with_reducible apply WP_exit) | (with_reducible apply WP_ret)) | (refine Zhn ?_) | (with_reducible apply QBlock_normal) | (refine Zhx ?_) | (with_reducible apply QBlock_hit) | (refine Zqb ?_) | (with_reducible apply QLoop_exit) | (refine Zhr ?_) | (with_reducible apply QBlock_ret) | (with_reducible apply QLoop_ret))
      exact QBody_ret1 rfl (rfl : _ = Value.int _ _) ⟨_, Wk.refl _, _, rfl, .inr ⟨i, hlt, rfl, hno, hbb, rfl⟩⟩
  · have hie : i = ms.length := by omega
    subst hie
    repeat' (first | (refine GiP ?_; first | (refine Znh ?_) | (with_reducible refine Znl ?_)) | (refine GiW ?_; first | (refine Zsq fun K hK => ?_) | (refine ZrN 2 fun _ => ?_; refine Zv Zxlss ?_) | (refine ZrN 7 fun _ => ?_; refine Zv Zai ?_) | (refine WP_cond_true rfl ?_) | (refine WP_cond_false rfl ?_) | (refine Zcd (fun hc => ?_) (fun hc => ?_) <;> (try (exfalso; omega))) | (with_reducible apply WP_skip) | (with_reducible apply WP_block) | (with_reducible apply WP_exit) | (with_reducible apply WP_ret)) | (refine Zhn ?_) | (with_reducible apply QBlock_normal) | (refine Zhx ?_) | (with_reducible apply QBlock_hit) | (refine Zqb ?_) | (with_reducible apply QLoop_exit) | (refine Zhr ?_) | (with_reducible apply QBlock_ret) | (with_reducible apply QLoop_ret))
    exact QBody_ret1 rfl (rfl : _ = Value.int _ _) ⟨_, Wk.refl _, _, rfl, .inl ⟨rfl, hno, rfl⟩⟩
structure DelOk (set : Nat) (ms : List Sp) (j i : Nat) (xs : List Value) : Prop where
  jm : j ≤ ms.length
  ij : i < j
  cnt : (pickL set (ms.take j) 0).length = i
  len : xs.length = ms.length * 2
  pre : xs.take (i * 2) = marksF (pickL set (ms.take j) 0)
  beh : ∀ q, j * 2 ≤ q → xs[q]? = (marksF ms)[q]?
theorem DelOk.first {set : Nat} {ms : List Sp} {i : Nat} (hi : i < ms.length) (h1 : ∀ j, j < i → set / 2 ^ j % 2 = 1) (h2 : set / 2 ^ i % 2 ≠ 1) : DelOk set ms (i + 1) i (marksF ms) := by
  have hp : pickL set (ms.take (i + 1)) 0 = ms.take i := by
    rw [pick_take hi, if_neg h2, List.append_nil]
    exact pickL_full _ 0 fun j hj => by
      rw [Nat.zero_add]
      rw [List.length_take] at hj
      exact h1 j (by omega)
  refine ⟨by omega, by omega, by rw [hp, List.length_take]; omega, marksF_len ms, ?_, fun _ _ => rfl⟩
  rw [hp]
  have := marksF_len (ms.take i)
  rw [List.length_take, Nat.min_eq_left (by omega)] at this
  have e : marksF ms = marksF (ms.take i) ++ marksF (ms.drop i) := by
    unfold marksF
    rw [← List.flatten_append, ← List.map_append, List.take_append_drop]
  rw [e, List.take_append_of_le_length (by omega), List.take_of_length_le (by omega)]
theorem DelOk.no {set : Nat} {ms : List Sp} {j i : Nat} {xs : List Value} (h : DelOk set ms j i xs) (hj : j < ms.length) (h2 : set / 2 ^ j % 2 ≠ 1) : DelOk set ms (j + 1) i xs := by
  have h1 := h.ij
  have hp : pickL set (ms.take (j + 1)) 0 = pickL set (ms.take j) 0 := by rw [pick_take hj, if_neg h2, List.append_nil]
  exact ⟨by omega, by omega, by rw [hp]; exact h.cnt, h.len, by rw [hp]; exact h.pre, fun q hq => h.beh q (by omega)⟩
theorem DelOk.yes {set : Nat} {ms : List Sp} {j i : Nat} {xs : List Value} (h : DelOk set ms j i xs) (hj : j < ms.length) (h2 : set / 2 ^ j % 2 = 1) : DelOk set ms (j + 1) (i + 1) (setL xs (i * 2) (spL ms[j])) := by
  have h1 := h.ij
  have hl := h.len
  have hp : pickL set (ms.take (j + 1)) 0 = pickL set (ms.take j) 0 ++ [ms[j]] := by rw [pick_take hj, if_pos h2]
  have hf := setL_fill (spL ms[j]) xs (i * 2) (by simp [spL]; omega)
  have hlen2 : (spL ms[j]).length = 2 := rfl
  refine ⟨by omega, by omega, by rw [hp, List.length_append, h.cnt]; rfl, by rw [setL_length]; exact hl, ?_, fun q hq => ?_⟩
  · rw [hlen2, show i * 2 + 2 = (i + 1) * 2 by omega] at hf
    rw [hf, hp, h.pre]
    unfold marksF
    simp
  · rw [setL_behind _ _ _ _ (by rw [hlen2]; omega)]
    exact h.beh q (by omega)
theorem DelOk.get {set : Nat} {ms : List Sp} {j i : Nat} {xs : List Value} (h : DelOk set ms j i xs) (hj : j < ms.length) : ∀ q v, (spL ms[j])[q]? = some v → xs[j * 2 + q]? = some v := by
  intro q v hq
  rw [h.beh _ (by omega)]
  exact marksF_get hj q v hq
set_option maxHeartbeats 4000000 in
theorem delM_tri (L : Hp) (set : Nat) (hset : set < 2 ^ 64) (bn bs br : Nat) (ms : List Sp) (hm : ms.length ≤ 6) (hs : Mem bs (Blk 93 [.int .u64 (set : Int)]) L) :
    Tri Try.prog N w0 (cntH bn 0 ((br, Row 53 2 ms.length ms.length (marksF ms)) :: L)) 107 [.slice (some ⟨br, 0, none⟩) ms.length ms.length, .func (.func 108) #[] [.pointer (some ⟨bn, 0, none⟩), .pointer (some ⟨bs, 0, none⟩)].toArray].toArray
      fun x L' => ∃ v, x = .returned v ∧ ∃ xs, v = .slice (some ⟨br, 0, none⟩) (pickL set ms 0).length ms.length ∧ xs.length = ms.length * 2 ∧ xs.take ((pickL set ms 0).length * 2) = marksF (pickL set ms 0) ∧ L' = cntH bn ms.length ((br, Row 53 2 ms.length ms.length xs) :: L) := by
  have hidx := idxM_tri N w0 ((br, Row 53 2 ms.length ms.length (marksF ms)) :: L) set hset bn bs br ms hm ms.length (.there hs) .here
  have h1 := fun x xs i hi k => only1_at N w0 x ((br, Row 53 2 ms.length ms.length xs) :: L) set hset bn bs i hi (.there hs) k
  refine Tri.fgt ?_
  refine tri_of_WP Try.func107 rfl (n := _) rfl (by simp) ?_
  by_cases hall : ∀ j, j < ms.length → set / 2 ^ j % 2 = 1
  · have hidx' : Tri Try.prog N w0 (cntH bn 0 ((br, Row 53 2 ms.length ms.length (marksF ms)) :: L)) 113 [.slice (some ⟨br, 0, none⟩) ms.length ms.length, .func (.func 108) #[] [.pointer (some ⟨bn, 0, none⟩), .pointer (some ⟨bs, 0, none⟩)].toArray].toArray fun x L' => ∃ v, x = .returned v ∧ v = .int .i64 (-1) ∧ L' = cntH bn ms.length ((br, Row 53 2 ms.length ms.length (marksF ms)) :: L) := by
      refine Tri.mono hidx ?_
      rintro x L' ⟨v, rfl, ⟨rfl, _, rfl⟩ | ⟨i, hi, _, _, h2, _⟩⟩
      · exact ⟨_, rfl, rfl, rfl⟩
      · exact absurd (hall i hi) h2
    have hfull : pickL set ms 0 = ms := pickL_full ms 0 fun j hj => by rw [Nat.zero_add]; exact hall j hj
    repeat' (first | (refine GiP ?_; first | (refine Znh ?_) | (with_reducible refine Znl ?_)) | (refine GiW ?_; first | (refine Zsq fun K hK => ?_) | (refine ZrN 0 fun _ => ?_; refine Zv Zav ?_) | (refine ZrN 1 fun _ => ?_; refine Zv Zmv ?_; refine Zv Zmv ?_; refine OPS_retKS (Enters_fn rfl) hidx' rfl rfl rfl (fun v10 L10 h10 => ?_); obtain ⟨rfl, rfl⟩ := h10; refine Zv Zai ?_) | (refine ZrN 2 fun _ => ?_; refine Zv Zmi ?_; refine Zv Zxeql ?_) | (refine ZrN 3 fun _ => ?_; refine Zv Zmv ?_; refine Zv Zav ?_) | (refine WP_cond_true rfl ?_) | (refine WP_cond_false rfl ?_) | (refine Zcd (fun hc => ?_) (fun hc => ?_) <;> (try (exfalso; omega))) | (with_reducible apply WP_skip) | (with_reducible apply WP_block) | (with_reducible apply WP_exit) | (with_reducible apply WP_ret)) | (refine Zhn ?_) | (with_reducible apply QBlock_normal) | (refine Zhx ?_) | (with_reducible apply QBlock_hit) | (refine Zqb ?_) | (with_reducible apply QLoop_exit) | (refine Zhr ?_) | (with_reducible apply QBlock_ret) | (with_reducible apply QLoop_ret))
    rw [hfull]
    have hml := marksF_len ms
    exact QBody_ret1 rfl (rfl : _ = Value.slice _ _ _) ⟨_, Wk.refl _, _, rfl, marksF ms, rfl, hml, by rw [← hml, List.take_length], rfl⟩
  · have hidx' : Tri Try.prog N w0 (cntH bn 0 ((br, Row 53 2 ms.length ms.length (marksF ms)) :: L)) 113 [.slice (some ⟨br, 0, none⟩) ms.length ms.length, .func (.func 108) #[] [.pointer (some ⟨bn, 0, none⟩), .pointer (some ⟨bs, 0, none⟩)].toArray].toArray fun x L' => ∃ v, x = .returned v ∧ ∃ i, i < ms.length ∧ v = .int .i64 (i : Int) ∧ (∀ j, j < i → set / 2 ^ j % 2 = 1) ∧ set / 2 ^ i % 2 ≠ 1 ∧ L' = cntH bn (i + 1) ((br, Row 53 2 ms.length ms.length (marksF ms)) :: L) := by
      refine Tri.mono hidx ?_
      rintro x L' ⟨v, rfl, ⟨_, h1, _⟩ | h⟩
      · exact absurd h1 hall
      · exact ⟨_, rfl, h⟩
    repeat' (first | (refine GiP ?_; first | (refine Znh ?_) | (with_reducible refine Znl ?_)) | (refine GiW ?_; first | (refine Zsq fun K hK => ?_) | (refine ZrN 0 fun _ => ?_; refine Zv Zav ?_) | (refine ZrN 1 fun _ => ?_; refine Zv Zmv ?_; refine Zv Zmv ?_; refine OPS_retKS (Enters_fn rfl) hidx' rfl rfl rfl (fun v10 L10 h10 => ?_); obtain ⟨i0, hi0, rfl, hb1, hb2, rfl⟩ := h10; refine Zv Zai ?_) | (refine ZrN 2 fun _ => ?_; refine Zv Zmi ?_; refine Zv Zxeql ?_) | (refine ZrN 4 fun _ => ?_; refine Zv Zmi ?_; refine Zv Zxadd ?_; refine Zv Zai ?_) | (refine WP_cond_true rfl ?_) | (refine WP_cond_false rfl ?_) | (refine Zcd (fun hc => ?_) (fun hc => ?_) <;> (try (exfalso; omega))) | (with_reducible apply WP_skip) | (with_reducible apply WP_block) | (with_reducible apply WP_exit) | (with_reducible apply WP_ret)) | (refine Zhn ?_) | (with_reducible apply QBlock_normal) | (refine Zhx ?_) | (with_reducible apply QBlock_hit) | (refine Zqb ?_) | (with_reducible apply QLoop_exit) | (refine Zhr ?_) | (with_reducible apply QBlock_ret) | (with_reducible apply QLoop_ret))
    refine WP_loop [5, 6, 7, 16, 17, 18, 19, 20, 21, 22, 23, 24, 25, 26, 27, 28, 29, 30, 31, 32, 33, 34, 35] (fun q : Nat × Nat × List Value => [(6, .int .i64 (q.1 : Int)), (5, .int .i64 (q.2.1 : Int))]) (fun q => cntH bn q.1 ((br, Row 53 2 ms.length ms.length q.2.2) :: L)) (fun q => DelOk set ms q.1 q.2.1 q.2.2) (fun q => ms.length - q.1) (i0 + 1, i0, marksF ms) (.cons rfl (.cons rfl .nil)) (Wk.refl _) (DelOk.first hi0 hb1 hb2) ?_
    rintro ⟨j, i, xs⟩ jj hok
    dsimp only at hok ⊢
    have hjm := hok.jm
    have hij := hok.ij
    have hxl := hok.len
    by_cases hlt : j < ms.length
    · have hget := hok.get hlt
      have hno := hok.no hlt
      have hyes := hok.yes hlt
      obtain ⟨k, hk⟩ : ∃ k, ms[j] = k := ⟨_, rfl⟩
      rw [hk] at hget hyes
      unfold spL at hget hyes
      have hrd : ∀ L', Mem br (Row 53 2 ms.length ms.length xs) L' → ∀ q v, [Value.int .i64 k.1, .int .i64 k.2][q]? = some v → Rd N w0 L' br (0 + j * 2 + q) v := fun L' hm q v hq => by
        rw [Nat.add_assoc]
        exact rd_row hm (hget q v hq)
      obtain ⟨bb, hbb⟩ : ∃ bb, decide (set / 2 ^ j % 2 ≠ 1) = bb := ⟨_, rfl⟩
      have h1j := fun x => h1 x xs j (by omega) k
      rw [hbb] at h1j
      unfold cntH at h1j ⊢
      cases bb with
      | true =>
        rw [decide_eq_true_eq] at hbb
        repeat' (first | (refine GiP ?_; first | (refine Znh ?_) | (with_reducible refine Znl ?_)) | (refine GiW ?_; first | (refine Zsq fun K hK => ?_) | (refine ZrN 5 fun _ => ?_; refine Zv Zmi ?_; refine Zv Zmv ?_; refine Zv Zxlen ?_; refine Zv Zxlss ?_) | (refine ZrN 7 fun _ => ?_; refine Zv Zmv ?_; refine Zv Zmi ?_; refine Zv Zia ?_; (first | (refine Zv (Val_loadDN rfl (hrd _ (by repeat (first | exact Mem.here | assumption | apply Mem.there | apply Mem.sv | apply Mem.app))) rfl) ?_) | (refine Zv Zla ?_)); refine Zal 7 fun b7 => ?_; refine Zst ?_) | (refine ZrN 8 fun _ => ?_; refine Zv Zmv ?_; (first | (refine Zv (Val_loadDN rfl (hrd _ (by repeat (first | exact Mem.here | assumption | apply Mem.there | apply Mem.sv | apply Mem.app))) rfl) ?_) | (refine Zv Zla ?_)); refine OPS_retKS (Enters_val (cf := []) (cc := [.pointer (some ⟨bn, 0, none⟩), .pointer (some ⟨bs, 0, none⟩)]) rfl rfl) (h1j _) rfl rfl rfl (fun v28 L28 h28 => ?_); obtain ⟨rfl, rfl⟩ := h28; refine Zv Zxnot ?_) | (refine ZrN 6 fun _ => ?_; refine Zv Zmi ?_; refine Zv Zxadd ?_; refine Zv Zai ?_) | (refine WP_cond_true rfl ?_) | (refine WP_cond_false rfl ?_) | (refine Zcd (fun hc => ?_) (fun hc => ?_) <;> (try (exfalso; omega))) | (with_reducible apply WP_skip) | (with_reducible apply WP_block) | (with_reducible apply WP_exit) | (with_reducible apply WP_ret)) | (refine Zhn ?_) | (with_reducible apply QBlock_normal) | (refine Zhx ?_) | (with_reducible apply QBlock_hit) | (refine Zqb ?_) | (with_reducible apply QLoop_exit) | (refine Zhr ?_) | (with_reducible apply QBlock_ret) | (with_reducible apply QLoop_ret))
        exact QLoop_normal (j + 1, i, xs) (.cons rfl (.cons rfl .nil)) (by repeat (first | exact Off.frame rfl | exact Off.refl _ _ | refine Off.frameT rfl rfl ?_ | refine Off.upd rfl ?_ | refine Off.updO rfl ?_)) (by repeat (first | exact Wk.refl _ | apply Wk.keep1 | apply Wk.drop | apply Wk.sv | apply Wk.svD | apply Wk.appD)) (hno hbb) (by dsimp only; omega)
      | false =>
        rw [decide_eq_false_iff_not, ne_eq, Decidable.not_not] at hbb
        have hst : setL xs (0 + i * 2) [.int .i64 k.1, .int .i64 k.2] = setL xs (i * 2) [.int .i64 k.1, .int .i64 k.2] := by rw [Nat.zero_add]
        repeat' (first | (refine GiP ?_; first | (refine Znh ?_) | (with_reducible refine Znl ?_)) | (refine GiW ?_; first | (refine Zsq fun K hK => ?_) | (refine ZrN 5 fun _ => ?_; refine Zv Zmi ?_; refine Zv Zmv ?_; refine Zv Zxlen ?_; refine Zv Zxlss ?_) | (refine ZrN 7 fun _ => ?_; refine Zv Zmv ?_; refine Zv Zmi ?_; refine Zv Zia ?_; (first | (refine Zv (Val_loadDN rfl (hrd _ (by repeat (first | exact Mem.here | assumption | apply Mem.there | apply Mem.sv | apply Mem.app))) rfl) ?_) | (refine Zv Zla ?_)); refine Zal 7 fun b7 => ?_; refine Zst ?_) | (refine ZrN 8 fun _ => ?_; refine Zv Zmv ?_; (first | (refine Zv (Val_loadDN rfl (hrd _ (by repeat (first | exact Mem.here | assumption | apply Mem.there | apply Mem.sv | apply Mem.app))) rfl) ?_) | (refine Zv Zla ?_)); refine OPS_retKS (Enters_val (cf := []) (cc := [.pointer (some ⟨bn, 0, none⟩), .pointer (some ⟨bs, 0, none⟩)]) rfl rfl) (h1j _) rfl rfl rfl (fun v28 L28 h28 => ?_); obtain ⟨rfl, rfl⟩ := h28; refine Zv Zxnot ?_) | (refine WP_cond_true rfl ?_) | (refine WP_cond_false rfl ?_) | (refine Zcd (fun hc => ?_) (fun hc => ?_) <;> (try (exfalso; omega))) | (with_reducible apply WP_skip) | (with_reducible apply WP_block) | (with_reducible apply WP_exit) | (with_reducible apply WP_ret)) | (refine Zhn ?_) | (with_reducible apply QBlock_normal) | (refine Zhx ?_) | (with_reducible apply QBlock_hit) | (refine Zqb ?_) | (with_reducible apply QLoop_exit) | (refine Zhr ?_) | (with_reducible apply QBlock_ret) | (with_reducible apply QLoop_ret))
        repeat' (first | (refine GiP ?_; first | (refine Znh ?_) | (with_reducible refine Znl ?_)) | (refine GiW ?_; first | (refine Zsq fun K hK => ?_) | (refine ZrN 9 fun _ => ?_; refine Zv Zmv ?_; refine Zv Zmi ?_; refine Zv Zla ?_; refine Zv Zia ?_; refine OPS_turnN (Turn_storeRow rfl rfl (by repeat (first | exact Up.here | apply Up.there | apply Up.sv)) rfl (by dsimp only [List.length]; omega) hst rfl rfl) rfl rfl ?_) | (refine ZrN 10 fun _ => ?_; refine Zv Zmi ?_; refine Zv Zxadd ?_; refine Zv Zai ?_) | (refine ZrN 6 fun _ => ?_; refine Zv Zmi ?_; refine Zv Zxadd ?_; refine Zv Zai ?_) | (refine WP_cond_true rfl ?_) | (refine WP_cond_false rfl ?_) | (refine Zcd (fun hc => ?_) (fun hc => ?_) <;> (try (exfalso; omega))) | (with_reducible apply WP_skip) | (with_reducible apply WP_block) | (with_reducible apply WP_exit) | (with_reducible apply WP_ret)) | (refine Zhn ?_) | (with_reducible apply QBlock_normal) | (refine Zhx ?_) | (with_reducible apply QBlock_hit) | (refine Zqb ?_) | (with_reducible apply QLoop_exit) | (refine Zhr ?_) | (with_reducible apply QBlock_ret) | (with_reducible apply QLoop_ret))
        exact QLoop_normal (j + 1, i + 1, setL xs (i * 2) [.int .i64 k.1, .int .i64 k.2]) (.cons rfl (.cons rfl .nil)) (by repeat (first | exact Off.frame rfl | exact Off.refl _ _ | refine Off.frameT rfl rfl ?_ | refine Off.upd rfl ?_ | refine Off.updO rfl ?_)) (by repeat (first | exact Wk.refl _ | apply Wk.keep1 | apply Wk.drop | apply Wk.sv | apply Wk.svD | apply Wk.appD)) (hyes hbb) (by dsimp only; omega)
    · have hje : j = ms.length := by omega
      subst hje
      have hcnt := hok.cnt
      have hpre := hok.pre
      rw [List.take_length] at hcnt hpre
      unfold cntH
      repeat' (first | (refine GiP ?_; first | (refine Znh ?_) | (with_reducible refine Znl ?_)) | (refine GiW ?_; first | (refine Zsq fun K hK => ?_) | (refine ZrN 5 fun _ => ?_; refine Zv Zmi ?_; refine Zv Zmv ?_; refine Zv Zxlen ?_; refine Zv Zxlss ?_) | (refine ZrN 11 fun _ => ?_; refine Zv Zmv ?_; refine Zv Zmi ?_; (first | (refine Zv (Val_sliceLo rfl rfl rfl (by omega) (by omega)) ?_) | (refine Zv (Val_sliceHi rfl rfl rfl (by omega)) ?_)); refine OPS_clearR (i := i) (sz := 2) (F := fun xs' => (bn, Blk 3 [.int .i64 ((ms.length : Int) - 1)]) :: (br, Row 53 2 ms.length ms.length xs') :: L) rfl rfl rfl (by omega) (by omega) (by omega) (fun xs' => .there .here) rfl (fun xs2 hx1 hx2 => ?_)) | (refine ZrN 12 fun _ => ?_; refine Zv Zmv ?_; refine Zv Zmi ?_; (first | (refine Zv (Val_sliceLo rfl rfl rfl (by omega) (by omega)) ?_) | (refine Zv (Val_sliceHi rfl rfl rfl (by omega)) ?_)); refine Zv Zav ?_) | (refine WP_cond_true rfl ?_) | (refine WP_cond_false rfl ?_) | (refine Zcd (fun hc => ?_) (fun hc => ?_) <;> (try (exfalso; omega))) | (with_reducible apply WP_skip) | (with_reducible apply WP_block) | (with_reducible apply WP_exit) | (with_reducible apply WP_ret)) | (refine Zhn ?_) | (with_reducible apply QBlock_normal) | (refine Zhx ?_) | (with_reducible apply QBlock_hit) | (refine Zqb ?_) | (with_reducible apply QLoop_exit) | (refine Zhr ?_) | (with_reducible apply QBlock_ret) | (with_reducible apply QLoop_ret))
      exact QBody_ret1 rfl (rfl : _ = Value.slice _ _ _) ⟨_, Wk.refl _, _, rfl, xs2, by rw [hcnt], by rw [hx1, hxl], by rw [hcnt, hx2, hpre], rfl⟩
end
/-- A bank whose lists lie somewhere, as the world is. -/
def BankIn (N : Nat) (w0 : World) (L : Hp) (g : Fg) : Prop := ∀ w, Inv N w0 L w → BkAt w.heap.size w g
theorem BankIn.at_ {N : Nat} {w0 : World} {L : Hp} {g : Fg} (h : BkAt N w0 g) : BankIn N w0 L g := fun _ hI => ⟨h.ls.now hI, h.ms.now hI⟩
theorem BankIn.sub {N : Nat} {w0 : World} {B L : Hp} {g : Fg} (h : BankIn N w0 B g) (k : Sub B L) : BankIn N w0 L g := fun w hI => by
  obtain ⟨L0, k⟩ := k
  exact h w ((hI.perm (k.trans List.perm_append_comm)).wk (.app L0 B))
theorem row_short {E sz k k' cap : Nat} {xs : List Value} {o : Obj} (h : Row E sz k cap xs o) (hk : k' ≤ k) : Row E sz k' cap (xs.take (k' * sz)) o := by
  obtain ⟨cur, rfl, h1, h2, h3, h4⟩ := h
  refine ⟨cur, rfl, by omega, h2, h3, ?_⟩
  rw [← h4, List.take_take, Nat.min_eq_left (Nat.mul_le_mul_right _ hk)]
section
variable (N : Nat) (w0 : World)
set_option maxHeartbeats 4000000 in
theorem only_tri (L : Hp) (g : Fg) (hv : VB g.d) (hA : BkAt N w0 g) (set : Nat) (hset : set < 2 ^ 64) : Tri Try.prog N w0 L 98 [bkV g, .int .u64 (set : Int)].toArray fun x L' => ∃ v, x = .returned v ∧ ∃ g' X, v = bkV g' ∧ g'.d = onlyB g.d set ∧ L' = X :: L ∧ BankIn N w0 [X] g' := by
  have hnm := hv.nm
  have hkl := pickL_len set g.d.ms 0
  have hdel := fun bn bs br L hs => delM_tri N w0 L set hset bn bs br g.d.ms hnm hs
  have hsrc : ∀ L', RdRows N w0 L' g.A2 2 (g.d.ms.map spL) := fun L' => RdRows.ofSl hA.ms
  have hrl : ∀ r ∈ g.d.ms.map spL, r.length = 2 := map_len (f := spL) (fun _ => rfl) _
  have hro : ∀ r ∈ g.d.ms.map spL, ones r = true := map_ones (f := spL) (fun _ => rfl) _
  unfold bkV bkL
  refine Tri.fgt ?_
  refine tri_of_WP Try.func98 rfl (n := _) rfl (by simp) ?_
  repeat' (first | (refine GiP ?_; first | (refine Znh ?_) | (with_reducible refine Znl ?_)) | (refine GiW ?_; first | (refine Zsq fun K hK => ?_) | (refine ZrN 0 fun _ => ?_; refine Zal 2 fun b2 => ?_; refine Zal 3 fun b3 => ?_; refine Zal 4 fun b4 => ?_) | (refine ZrN 1 fun _ => ?_; refine Zv Zf0 ?_; refine Zv Zfa ?_; refine Zv Zld ?_; refine Zv Zxlen ?_; refine OPS_makeR (m := g.d.ms.length) rfl rfl rfl (Nat.le_refl _) (by omega) (by unfold maxLen; omega) rfl rfl (fun b11 xs11 h11 h11z => ?_); refine Zv Zav ?_) | (refine ZrN 2 fun _ => ?_; refine Zv Zmv ?_; refine Zv Zf0 ?_; refine Zv Zfa ?_; refine Zv Zld ?_; refine OPS_copyR (k := g.d.ms.length) rfl rfl (by repeat (first | exact Up.here | apply Up.there | apply Up.sv)) (by simp) (hsrc _) hrl hro rfl rfl ?_) | (refine ZrN 3 fun _ => ?_; refine Zal 6 fun b6 => ?_; refine Zst ?_) | (with_reducible apply WP_ret)) | (refine Zhn ?_) | (refine Zhr ?_))
  have e0 : ((0 : Nat) : Int) - 1 = -1 := rfl
  have hdel' := hdel b6 b3 b11 ((b4, Blk 71 [.int .i64 0, .int .i64 0, .slice none 0 0, .slice none 0 0]) :: (b3, Blk 93 [.int .u64 (set : Int)]) :: (b2, Blk 71 [.int .i64 g.d.n, .int .i64 g.d.m, .slice g.A1 g.d.ls.length g.c1, .slice g.A2 g.d.ms.length g.c2]) :: L) (.there .here)
  unfold cntH marksF at hdel'
  rw [e0] at hdel'
  repeat' (first | (refine GiP ?_; first | (refine Znh ?_) | (with_reducible refine Znl ?_)) | (refine GiW ?_; first | (refine Zsq fun K hK => ?_) | (refine ZrN 4 fun _ => ?_; refine Zv Zmv ?_; refine Zv Val_makeFunc ?_; refine OPS_retKS (Enters_fn rfl) hdel' rfl rfl rfl (fun v19 L19 h19 => ?_); obtain ⟨xs, rfl, hxl, hxt, rfl⟩ := h19; refine Zv Zf0 ?_; refine Zv Zfa ?_; refine Zst ?_) | (refine ZrN 5 fun _ => ?_; refine Zv Zla ?_; refine Zst ?_) | (with_reducible apply WP_ret)) | (refine Zhn ?_) | (refine Zhr ?_))
  refine QBody_res rfl (.cellN rfl (by repeat (first | exact Mem.here | assumption | apply Mem.there | apply Mem.sv | apply Mem.app)) (.here (.cons (.cons (.cons (.cons .nil))))) .nil) rfl ⟨(b11, Row 53 2 (pickL set g.d.ms 0).length g.d.ms.length (marksF (pickL set g.d.ms 0))) :: L, ?_, _, rfl, ⟨onlyB g.d set, g.A1, g.c1, some ⟨b11, 0, none⟩, g.d.ms.length⟩, (b11, Row 53 2 (pickL set g.d.ms 0).length g.d.ms.length (marksF (pickL set g.d.ms 0))), rfl, rfl, rfl, ?_⟩
  · refine .drop (.keep (fun o ho => ?_) (.drop (.drop (.drop (Wk.refl _)))))
    have := row_short (k' := (pickL set g.d.ms 0).length) ho hkl
    rw [hxt] at this
    exact this
  · intro w hI
    exact ⟨hA.ls.now hI, sl_row hI .here rfl (map_len (f := spL) (fun _ => rfl) _)⟩
/-- In how many ways lines can lie, of a bank that was laid anew. -/
theorem ways_in (L : Hp) (g : Fg) (hv : VB g.d) (hin : BankIn N w0 L g) : Ret Try.prog N w0 L 55 [bkV g, .slice none 0 0].toArray (.int .i64 ((trL g.d).length : Int)) := by
  refine Ret.re fun w hI => ?_
  have := ways_ret w.heap.size w [] g hv (hin w hI) none 0 [] (by simp) (fun k hk => by simp at hk)
  rw [waysN_nil] at this
  exact this
/-- Whether there is a truth by the marks of a set. -/
def canB (b : Bn) (set : Nat) : Bool := decide (0 < (trL (onlyB b set)).length)
theorem can_ret (L : Hp) (g : Fg) (hv : VB g.d) (hA : BkAt N w0 g) (set : Nat) (hset : set < 2 ^ g.d.ms.length) : Ret Try.prog N w0 L 82 [bkV g, .int .u64 (set : Int)].toArray (.bool (canB g.d set)) := by
  have hnm := hv.nm
  have hp : 2 ^ g.d.ms.length ≤ 2 ^ 6 := Nat.pow_le_pow_right (by omega) hnm
  have hev := fun L => every_ret N w0 L g hnm
  have hon := fun L => only_tri N w0 L g hv hA set (by omega)
  have hand : set &&& (2 ^ g.d.ms.length - 1) = set := by rw [Nat.and_two_pow_sub_one_eq_mod]; exact Nat.mod_eq_of_lt hset
  have hav : ∀ {L e d ty pos af gg x y' t t'} (hx : ev e x = .int .u64 (set : Int)) (hy : ev e y' = .int .u64 ((2 ^ g.d.ms.length - 1 : Nat) : Int)), Val Try.prog N w0 L e ⟨d, .binOp .and t x y' t', ty, pos, af, gg⟩ (.int .u64 (set : Int)) := by
    intro L e d ty pos af gg x y' t t' hx hy
    have := Val_and (P := Try.prog) (N := N) (w0 := w0) (L := L) (d := d) (ty := ty) (pos := pos) (af := af) (g := gg) (t := t) (t' := t') (k := .u64) rfl hx hy (by show _ < 2 ^ 64; omega) (by show _ < 2 ^ 64; omega)
    rw [hand] at this
    exact this
  unfold canB
  unfold bkV bkL at hev hon ⊢
  refine Ret.fgt ?_
  refine tri_of_WP Try.func82 rfl (n := _) rfl (by simp) ?_
  repeat' (first | (refine GiP ?_; first | (refine Znh ?_) | (with_reducible refine Znl ?_) | (refine Zatd 12 ?_; refine OPS_retKS (Enters_fn rfl) (hon _) rfl rfl rfl (fun v12 L12 h12 => ?_); obtain ⟨g', X12, rfl, hd12, rfl, hin12⟩ := h12) | (refine Zatd 13 ?_; refine Zcl (Enters_fn rfl) (ways_in N w0 _ g' (by rw [hd12]; exact VB_only hv set) (hin12.sub (L := X12 :: _) ⟨_, List.Perm.refl _⟩)) ?_) | (refine Zatd 14 ?_; refine Zv Zxgtr ?_) | (refine Zatd 4 ?_; refine Zv Zab ?_)) | (refine GiW ?_; first | (refine Zsq fun K hK => ?_) | (refine ZrN 0 fun _ => ?_; refine Zal 2 fun b2 => ?_; refine Zv Zab ?_) | (refine ZrN 1 fun _ => ?_; refine Zv Zav ?_) | (with_reducible apply WP_ret) | (refine WP_drawnS (id := 2) [] [0, 1, 2, 3, 4, 5] [] [] (k := 0) (k2 := 4) (by repeat (first | apply Sub.sv | apply Sub.keep | apply Sub.appK | exact Sub.refl _)) (by kernel_rfl) prog_mixed (by kernel_rfl) (by kernel_rfl) rfl ?_; refine Zew rfl Zla ?_; refine Zew rfl Zmi ?_; refine Zew rfl Zmv ?_; refine Zew rfl Zla ?_; refine Zec rfl (Enters_val rfl rfl) (fun X => hev _) ?_; refine Zew rfl (hav rfl rfl) ?_)) | (with_reducible apply EWalk_nil) | (refine ZgC [0, 1, 2, 3, 4, 5] ?_; refine ZCl _ ?_) | (refine GiO ?_; first | (refine ZgO [0, 1, 2, 3, 4, 5] ?_; refine ZO1 _ 6 [0, 1, 2, 3, 4, 5, 6] ?_) | (refine ZgO [0, 1, 2, 3, 4, 5, 6] ?_; refine ZO1 _ 7 [0, 1, 2, 3, 4, 5, 6, 7] ?_) | (refine ZgO [0, 1, 2, 3, 4, 5, 6, 7] ?_; refine ZO1 _ 8 [0, 1, 2, 3, 4, 5, 6, 7, 8] ?_) | (refine ZgO [0, 1, 2, 3, 4, 5, 6, 7, 8] ?_; refine ZO1 _ 9 [0, 1, 2, 3, 4, 5, 6, 7, 8, 9] ?_) | (refine ZgO [0, 1, 2, 3, 4, 5, 6, 7, 8, 9] ?_; refine ZOd _ ?_; (try with_reducible apply noP_normal); (try with_reducible exact key.out))) | (refine Zhn ?_) | (refine Zhr ?_) | (refine AWalk_0 ?_) | (with_reducible apply QAny_normal) | (with_reducible apply QC_normal))
  refine QBody_ret1 rfl (rfl : _ = Value.bool _) ⟨?_, .drop (.drop (Wk.refl _))⟩
  rw [hd12]
  congr 2
  rw [Bool.eq_iff_iff]
  simp only [decide_eq_true_eq]
  omega
theorem told_ok (L : Hp) (g : Fg) (hv : VB g.d) (hA : BkAt N w0 g) (h0 : 0 < (trL g.d).length) : Ret Try.prog N w0 L 54 [bkV g].toArray (bkV g) := by
  have hw := fun L => ways_in N w0 L g hv (BankIn.at_ hA)
  unfold bkV bkL at hw ⊢
  refine Ret.fgt ?_
  refine tri_of_WP Try.func54 rfl (n := _) rfl (by simp) ?_
  repeat' (first | (refine GiP ?_; first | (refine Znh ?_) | (with_reducible refine Znl ?_)) | (refine GiW ?_; first | (refine Zsq fun K hK => ?_) | (refine ZrN 0 fun _ => ?_; refine Zal 1 fun b1 => ?_; refine Zal 2 fun b2 => ?_) | (refine ZrN 1 fun _ => ?_; refine Zv Zla ?_; refine Zcl (Enters_fn rfl) (hw _) ?_; refine Zv Zxgtr ?_; (refine OPS_must (Enters_fn rfl) rfl rfl rfl (fun hc => ?_) (fun hc => ?_) <;> (try (exfalso; rw [decide_eq_false_iff_not] at hc; omega)))) | (refine ZrN 2 fun _ => ?_; refine Zv Zla ?_; refine Zst ?_) | (with_reducible apply WP_ret)) | (refine Zhn ?_) | (refine Zhr ?_) | (refine Zhp ?_))
  exact QBody_res rfl (.cellN rfl (by repeat (first | exact Mem.here | assumption | apply Mem.there | apply Mem.sv | apply Mem.app)) (.here (.cons (.cons (.cons (.cons .nil))))) .nil) rfl ⟨rfl, .drop (.drop (Wk.refl _))⟩
theorem told_no (L : Hp) (g : Fg) (hv : VB g.d) (hA : BkAt N w0 g) (h0 : (trL g.d).length = 0) : Tri Try.prog N w0 L 54 [bkV g].toArray fun x L' => x = .panicked (stopE 10) ∧ L' = L := by
  have hw := fun L => ways_in N w0 L g hv (BankIn.at_ hA)
  rw [h0] at hw
  unfold bkV bkL at hw ⊢
  refine Tri.pan ?_
  refine tri_of_WP Try.func54 rfl (n := _) rfl (by simp) ?_
  repeat' (first | (refine GiP ?_; first | (refine Znh ?_) | (with_reducible refine Znl ?_)) | (refine GiW ?_; first | (refine Zsq fun K hK => ?_) | (refine ZrN 0 fun _ => ?_; refine Zal 1 fun b1 => ?_; refine Zal 2 fun b2 => ?_) | (refine ZrN 1 fun _ => ?_; refine Zv Zla ?_; refine Zcl (Enters_fn rfl) (hw _) ?_; refine Zv Zxgtr ?_; (refine OPS_must (Enters_fn rfl) rfl rfl rfl (fun hc => ?_) (fun hc => ?_) <;> (try (exfalso; simp at hc; done)))) | (refine ZrN 2 fun _ => ?_; refine Zv Zla ?_; refine Zst ?_) | (with_reducible apply WP_ret)) | (refine Zhn ?_) | (refine Zhr ?_) | (refine Zhp ?_))
  exact QBody_panic ⟨rfl, .drop (.drop (Wk.refl _))⟩
end
end Go.Proofs.Ytakmopiceopcpaa
end
