/- A stable sort of few numbers; rows that are made with room, and filled by copies. -/
import Derived.Test.YtkaadefndcbdnaaHo
import Derived.Laws.MakeOwn
import Derived.Laws.CopyRow
namespace Go.Proofs.Ytkaadefndcbdnaa
open Go.RowKit
/-- What the stable sort makes of a row of fewer than 20. -/
def stab (n : Nat) (l : List Nat) : List Nat := insS l 0 (n - (0 + 1))
section
variable {P : Program} {r : Option Nat} {n N : Nat} {w0 : World} {L : Hp} {e : Env} {d : Option Nat} {ty : TypeId} {pos : String} {af : Array Edge} {g : Option (Nat × Bool)} {ops : Array Oper} {rest : List Oper} {Q : Post} {ds : List Deferred}
/-- What a row holds, with what stands behind it. -/
theorem WP_opnR {c : Code} {b E sz k cap : Nat} {xs : List Value} (h : ∀ tl, WP P r n N w0 c Q e ds ((b, Blk E (xs ++ tl)) :: L)) : WP P r n N w0 c Q e ds ((b, Row E sz k cap xs) :: L) := by
  intro a w hs he hd hI
  obtain ⟨o, ho, cur, rfl, h1, h2, h3, h4⟩ := hI.obj' (b := b) .here
  refine h (cur.toList.drop (k * sz)) a w hs he hd ⟨hI.below, hI.big, ?_, ?_⟩
  · have := hI.dis
    rw [List.pairwise_cons] at this ⊢
    exact this
  · intro x hx
    rcases List.mem_cons.1 hx with rfl | hx
    · refine ⟨(hI.own _ List.mem_cons_self).1, _, ho, ?_⟩
      unfold Blk Is
      rw [← h4, List.take_append_drop]
    · exact hI.own x (.tail _ hx)
/-- A row with room, without elements. -/
theorem OPS_make0 {t E : TypeId} [hs : SliceOf P t E] {g' : Bool} {sz bt : Nat} [hT : TySz P E g' (sz + 1) bt] {z : List Value} [hZ : TyZero P E z] (hz : z.length = sz + 1) {x y : Operand} {m d : Nat} (hx : ev e x = .int .i64 0) (hy : ev e y = .int .i64 (m : Int)) (h1 : bt * m ≤ 281474976710656) (h2 : m ≤ maxLen)
    (hg : Region.wanted ⟨some d, .makeSlice t x y, ty, pos, af, g⟩ (yieldE ops e) = true) (hd : Nat.blt d n = true)
    (h : ∀ b, OPS P r n N w0 ops rest Q (upd e d (.slice (some ⟨b, 0, none⟩) 0 m)) ds ((b, Row E (sz + 1) 0 m []) :: L)) :
    OPS P r n N w0 ops (⟨some d, .makeSlice t x y, ty, pos, af, g⟩ :: rest) Q e ds L := by
  refine OPS_any (K := fun v L2 => ∃ b, v = .slice (some ⟨b, 0, none⟩) 0 m ∧ L2 = (b, Row E (sz + 1) 0 m []) :: L) (fun w hI => ?_) hg rfl hd ?_
  · have hi := hT.inf
    have hzz := hZ.zero
    cases hin : P.info? E with
    | none => rw [hin] at hi; cases hi
    | some i =>
      rw [hin] at hi hzz
      simp only [Option.map_some, Option.some.injEq, Prod.mk.injEq] at hi
      cases hiz : i.zero with
      | none => simp [hiz] at hzz
      | some zv =>
        simp only [Option.bind_some, hiz, Option.map_some, Option.some.injEq] at hzz
        have hzs : zv.cells.size = sz + 1 := by rw [← Array.length_toList, hzz, hz]
        have hbm : (i.bytes : Int) * (m : Int) ≤ 281474976710656 := by
          rw [hi.2, ← Int.natCast_mul]; omega
        have hr := run_make (P := P) w t E i zv hs.und hin hiz .i64 .i64 0 m (Int.le_refl _) (by omega) hbm (by unfold maxLen at h2; omega)
        simp only [Int.toNat_natCast, hi.1] at hr
        refine ⟨.slice (some ⟨w.heap.size, 0, none⟩) 0 m, w.alloc (.cells (madeCells zv.cells (m * (sz + 1))) E), (w.heap.size, Row E (sz + 1) 0 m []) :: L, by simp [execOp, hx, hy, hr], ?_, w.heap.size, rfl, rfl⟩
        exact hI.alloc ⟨_, rfl, Nat.zero_le _, h2, by simp [madeCells], by simp⟩
  · rintro v L2 ⟨b, rfl, rfl⟩
    exact h b
theorem copy_take {cur : List Value} {k sz : Nat} {xs vs : List Value} (h1 : cur.take (k * sz) = xs) (h2 : k * sz + vs.length ≤ cur.length) (h3 : vs.length = sz) : (cur.take (k * sz) ++ vs ++ cur.drop (k * sz + vs.length)).take ((k + 1) * sz) = xs ++ vs := by
  rw [h1, List.take_append_of_le_length (by rw [List.length_append, ← h1, List.length_take, Nat.succ_mul]; omega)]
  rw [List.take_of_length_le (by rw [List.length_append, ← h1, List.length_take, Nat.succ_mul]; omega)]
/-- One element is copied behind a row's own. -/
theorem OPS_copy1 {t t' E : TypeId} [hs : SliceOf P t E] {g' : Bool} {sz bt : Nat} [hT : TySz P E g' sz bt] {x y : Operand} {b k m c c2 o2 : Nat} {a : Addr} {xs vs : List Value} {L' : Hp}
    (hx : ev e x = .slice (some ⟨b, o2, none⟩) 1 c) (ho : o2 = 0 + k * sz) (hy : ev e y = .slice (some a) 1 c2) (hu : Up L b (Row E sz k m xs) (Row E sz (k + 1) m (xs ++ vs)) L') (hk : k < m)
    (hsrc : ∀ w, Inv N w0 L w → ∀ j v, vs[j]? = some v → w.cell? (a.add j) = some v) (hl : vs.length = sz) (h1 : ones vs = true)
    (hg : Region.wanted ⟨d, .call { callee := .builtin .copy, args := #[x, y], argTypes := #[t, t'] }, ty, pos, af, g⟩ (yieldE ops e) = true) (hd : dstOk n d = true)
    (h : OPS P r n N w0 ops rest Q (updO e d (.int .i64 1)) ds L') :
    OPS P r n N w0 ops (⟨d, .call { callee := .builtin .copy, args := #[x, y], argTypes := #[t, t'] }, ty, pos, af, g⟩ :: rest) Q e ds L := by
  subst ho
  refine OPS_any (K := fun v L1 => v = .int .i64 1 ∧ L1 = L') (fun w hI => ?_) hg rfl hd ?_
  · obtain ⟨ob, hob, cur, rfl, hc1, hc2, hc3, hc4⟩ := hI.obj' hu.mem
    have hi := hT.inf
    have hfit : k * sz + vs.length ≤ cur.size := by rw [hc3, hl, ← Nat.succ_mul]; exact Nat.mul_le_mul_right sz hk
    have hld := run_loadCells_list (P := P) w a vs (hsrc w hI)
    have hst := run_storeCells_at P b (0 + k * sz) E vs 0 cur w hob (by simpa using hfit) (by simp only [ones, List.all_eq_true] at h1; exact h1)
    cases hin : P.info? E with
    | none => rw [hin] at hi; cases hi
    | some i =>
      rw [hin] at hi
      simp only [Option.map_some, Option.some.injEq, Prod.mk.injEq] at hi
      refine ⟨.int .i64 1, w.setRow b (cur.toList.take (0 + k * sz) ++ vs ++ cur.toList.drop (0 + k * sz + vs.length)).toArray, L', ?_, ?_, rfl, rfl⟩
      · simp [execOp, resolve, invoke, builtin, hx, hy, Builtin.copy_, run_underlying hs.und, Builtin.lenOf, Builtin.firstCells, sizeOf, typeInfo, hin, hi.1]
        rw [hl] at hld
        simp only [Nat.add_zero, Nat.zero_add] at hst
        simp [hld, hst, goInt]
      · simp only [Nat.zero_add]
        refine hI.turn hu rfl rfl rfl (by simp) (fun j _ hj => setRow_other w b j _ hj) ⟨_, setRow_heap w b cur _ E _ hob, _, rfl, hk, hc2, ?_, ?_⟩
        · simp; omega
        · rw [List.toList_toArray]
          exact copy_take hc4 (by simpa using hfit) hl
  · rintro v L1 ⟨rfl, rfl⟩
    exact h
end
attribute [local irreducible] AnyO AnyB QAny QB EWalk AWalk Ev WP OPS QThen QBlock QScope QLoop QBody Val New Turn Tri Enters PostA Blk Ro
section
variable (N : Nat) (w0 : World)
theorem stable_sm (tl : List Value) (L : Hp) (n : Nat) (l : List Nat) (hl : Lt32 n l) (hn : n < 20) (b c : Nat) :
    Tri Try.prog N w0 ((b, Blk 116 (ut tl l)) :: L) 102 [.slice (some ⟨b, 0, none⟩) n c, .int .i64 n, cmpV].toArray fun r L' => ∃ v, r = .returned v ∧ L' = (b, Blk 116 (ut tl (stab n l))) :: L := by
  have hst : stab n l = insS l 0 (n - (0 + 1)) := rfl
  rw [hst]
  have hins := ins_tri N w0 tl L n l hl (by omega) b c 0 n (Nat.zero_le _) (Nat.le_refl _)
  unfold cmpV at hins ⊢
  refine tri_of_WP Try.func102 rfl (n := 63) rfl (by simp) ?_
  repeat' (first | (refine GiP ?_; first | (refine Znh ?_) | (with_reducible refine Znl ?_)) | (refine GiW ?_; first | (refine Zsq fun K hK => ?_) | (refine ZrN 0 fun _ => ?_; refine Zv Zai ?_) | (refine ZrN 1 fun _ => ?_; refine Zv Zmi ?_; refine Zv Zai ?_; refine Zv Zai ?_) | (refine ZrN 2 fun _ => ?_; refine Zv Zmi ?_; refine Zv Zmi ?_; refine Zv Zxleq ?_) | (refine ZrN 3 fun _ => ?_; refine Zv Zmv ?_; refine Zv Zmi ?_; refine Zv Zmi ?_; refine Zv Zmv ?_) | (refine ZrN 4 fun _ => ?_; refine Zv Zmi ?_; refine Zv Zai ?_) | (refine ZrN 5 fun _ => ?_; refine Zv Zmi ?_; refine Zv Zmi ?_; refine Zv Zxadd ?_; refine Zv Zai ?_) | (refine ZrN 6 fun _ => ?_; refine Zv Zmv ?_; refine Zv Zmi ?_; refine Zv Zmi ?_; refine Zv Zmv ?_) | (refine ZrN 7 fun _ => ?_; refine Zv Zmi ?_; refine Zv Zmi ?_; refine Zv Zxlss ?_) | (refine ZrN 8 fun _ => ?_; refine Zv Zmi ?_; refine Zv Zxmul ?_; refine Zv Zai ?_; refine Zv Zai ?_) | (refine ZrN 9 fun _ => ?_; refine Zv Zmi ?_; refine Zv Zmi ?_; refine Zv Zxleq ?_) | (refine ZrN 10 fun _ => ?_; refine Zv Zmv ?_; refine Zv Zmi ?_; refine Zv Zmi ?_; refine Zv Zmi ?_; refine Zv Zxadd ?_; refine Zv Zmi ?_; refine Zv Zmv ?_) | (refine ZrN 11 fun _ => ?_; refine Zv Zmi ?_; refine Zv Zai ?_) | (refine ZrN 12 fun _ => ?_; refine Zv Zmi ?_; refine Zv Zmi ?_; refine Zv Zxmul ?_; refine Zv Zxadd ?_; refine Zv Zai ?_) | (refine ZrN 13 fun _ => ?_; refine Zv Zmi ?_; refine Zv Zmi ?_; refine Zv Zxadd ?_; refine Zv Zai ?_) | (refine ZrN 14 fun _ => ?_; refine Zv Zmi ?_; refine Zv Zmi ?_; refine Zv Zxlss ?_) | (refine ZrN 15 fun _ => ?_; refine Zv Zmv ?_; refine Zv Zmi ?_; refine Zv Zmi ?_; refine Zv Zmi ?_; refine Zv Zmv ?_) | (refine ZrN 16 fun _ => ?_; refine Zv Zmi ?_; refine Zv Zxmul ?_; refine Zv Zai ?_) | (refine WP_cond_true rfl ?_) | (refine WP_cond_false rfl ?_) | (refine Zcd (fun hc => ?_) (fun hc => ?_) <;> (try (exfalso; omega))) | (with_reducible apply WP_skip) | (with_reducible apply WP_block) | (with_reducible apply WP_exit)) | (refine Zhn ?_) | (with_reducible apply QBlock_normal) | (refine Zhx ?_) | (with_reducible apply QBlock_hit) | (refine Zqb ?_) | (with_reducible apply QLoop_exit))
  refine WP_loop [7, 8, 11, 12, 13, 14, 15, 16, 17, 18, 19, 20, 21, 22] (fun _ : Unit => [(7, .int .i64 0), (8, .int .i64 20)]) (fun _ => (b, Blk 116 (ut tl l)) :: L) (fun _ => True) (fun _ => 0) () (.cons rfl (.cons rfl .nil)) (Wk.refl _) trivial ?_
  rintro _ j -
  repeat' (first | (refine GiP ?_; first | (refine Znh ?_) | (with_reducible refine Znl ?_)) | (refine GiW ?_; first | (refine Zsq fun K hK => ?_) | (refine ZrN 0 fun _ => ?_; refine Zv Zai ?_) | (refine ZrN 1 fun _ => ?_; refine Zv Zmi ?_; refine Zv Zai ?_; refine Zv Zai ?_) | (refine ZrN 2 fun _ => ?_; refine Zv Zmi ?_; refine Zv Zmi ?_; refine Zv Zxleq ?_) | (refine ZrN 3 fun _ => ?_; refine Zv Zmv ?_; refine Zv Zmi ?_; refine Zv Zmi ?_; refine Zv Zmv ?_; refine OPS_retKS (Enters_fn rfl) hins rfl rfl rfl (fun v27 L27 h27 => ?_); subst h27) | (refine ZrN 4 fun _ => ?_; refine Zv Zmi ?_; refine Zv Zai ?_) | (refine ZrN 5 fun _ => ?_; refine Zv Zmi ?_; refine Zv Zmi ?_; refine Zv Zxadd ?_; refine Zv Zai ?_) | (refine ZrN 6 fun _ => ?_; refine Zv Zmv ?_; refine Zv Zmi ?_; refine Zv Zmi ?_; refine Zv Zmv ?_; refine OPS_retKS (Enters_fn rfl) hins rfl rfl rfl (fun v27 L27 h27 => ?_); subst h27) | (refine ZrN 7 fun _ => ?_; refine Zv Zmi ?_; refine Zv Zmi ?_; refine Zv Zxlss ?_) | (refine ZrN 8 fun _ => ?_; refine Zv Zmi ?_; refine Zv Zxmul ?_; refine Zv Zai ?_; refine Zv Zai ?_) | (refine ZrN 9 fun _ => ?_; refine Zv Zmi ?_; refine Zv Zmi ?_; refine Zv Zxleq ?_) | (refine ZrN 10 fun _ => ?_; refine Zv Zmv ?_; refine Zv Zmi ?_; refine Zv Zmi ?_; refine Zv Zmi ?_; refine Zv Zxadd ?_; refine Zv Zmi ?_; refine Zv Zmv ?_) | (refine ZrN 11 fun _ => ?_; refine Zv Zmi ?_; refine Zv Zai ?_) | (refine ZrN 12 fun _ => ?_; refine Zv Zmi ?_; refine Zv Zmi ?_; refine Zv Zxmul ?_; refine Zv Zxadd ?_; refine Zv Zai ?_) | (refine ZrN 13 fun _ => ?_; refine Zv Zmi ?_; refine Zv Zmi ?_; refine Zv Zxadd ?_; refine Zv Zai ?_) | (refine ZrN 14 fun _ => ?_; refine Zv Zmi ?_; refine Zv Zmi ?_; refine Zv Zxlss ?_) | (refine ZrN 15 fun _ => ?_; refine Zv Zmv ?_; refine Zv Zmi ?_; refine Zv Zmi ?_; refine Zv Zmi ?_; refine Zv Zmv ?_) | (refine ZrN 16 fun _ => ?_; refine Zv Zmi ?_; refine Zv Zxmul ?_; refine Zv Zai ?_) | (refine WP_cond_true rfl ?_) | (refine WP_cond_false rfl ?_) | (refine Zcd (fun hc => ?_) (fun hc => ?_) <;> (try (exfalso; omega))) | (with_reducible apply WP_skip) | (with_reducible apply WP_block) | (with_reducible apply WP_exit)) | (refine Zhn ?_) | (with_reducible apply QBlock_normal) | (refine Zhx ?_) | (with_reducible apply QBlock_hit) | (refine Zqb ?_) | (with_reducible apply QLoop_exit))
  refine WP_loop [6, 7, 8, 9, 28, 29, 30, 31, 32, 33, 34, 35, 36, 37, 38, 39, 40, 41, 42, 43, 44, 45, 46, 47, 48, 49, 50, 51, 52, 53, 54, 55, 56, 57, 58, 59, 60, 61, 62] (fun _ : Unit => [(6, .int .i64 20)]) (fun _ => (b, Blk 116 (ut tl (insS l 0 (n - (0 + 1))))) :: L) (fun _ => True) (fun _ => 0) () (.cons rfl .nil) (Wk.refl _) trivial ?_
  rintro _ j2 -
  repeat' (first | (refine GiP ?_; first | (refine Znh ?_) | (with_reducible refine Znl ?_)) | (refine GiW ?_; first | (refine Zsq fun K hK => ?_) | (refine ZrN 0 fun _ => ?_; refine Zv Zai ?_) | (refine ZrN 1 fun _ => ?_; refine Zv Zmi ?_; refine Zv Zai ?_; refine Zv Zai ?_) | (refine ZrN 2 fun _ => ?_; refine Zv Zmi ?_; refine Zv Zmi ?_; refine Zv Zxleq ?_) | (refine ZrN 3 fun _ => ?_; refine Zv Zmv ?_; refine Zv Zmi ?_; refine Zv Zmi ?_; refine Zv Zmv ?_) | (refine ZrN 4 fun _ => ?_; refine Zv Zmi ?_; refine Zv Zai ?_) | (refine ZrN 5 fun _ => ?_; refine Zv Zmi ?_; refine Zv Zmi ?_; refine Zv Zxadd ?_; refine Zv Zai ?_) | (refine ZrN 6 fun _ => ?_; refine Zv Zmv ?_; refine Zv Zmi ?_; refine Zv Zmi ?_; refine Zv Zmv ?_) | (refine ZrN 7 fun _ => ?_; refine Zv Zmi ?_; refine Zv Zmi ?_; refine Zv Zxlss ?_) | (refine ZrN 8 fun _ => ?_; refine Zv Zmi ?_; refine Zv Zxmul ?_; refine Zv Zai ?_; refine Zv Zai ?_) | (refine ZrN 9 fun _ => ?_; refine Zv Zmi ?_; refine Zv Zmi ?_; refine Zv Zxleq ?_) | (refine ZrN 10 fun _ => ?_; refine Zv Zmv ?_; refine Zv Zmi ?_; refine Zv Zmi ?_; refine Zv Zmi ?_; refine Zv Zxadd ?_; refine Zv Zmi ?_; refine Zv Zmv ?_) | (refine ZrN 11 fun _ => ?_; refine Zv Zmi ?_; refine Zv Zai ?_) | (refine ZrN 12 fun _ => ?_; refine Zv Zmi ?_; refine Zv Zmi ?_; refine Zv Zxmul ?_; refine Zv Zxadd ?_; refine Zv Zai ?_) | (refine ZrN 13 fun _ => ?_; refine Zv Zmi ?_; refine Zv Zmi ?_; refine Zv Zxadd ?_; refine Zv Zai ?_) | (refine ZrN 14 fun _ => ?_; refine Zv Zmi ?_; refine Zv Zmi ?_; refine Zv Zxlss ?_) | (refine ZrN 15 fun _ => ?_; refine Zv Zmv ?_; refine Zv Zmi ?_; refine Zv Zmi ?_; refine Zv Zmi ?_; refine Zv Zmv ?_) | (refine ZrN 16 fun _ => ?_; refine Zv Zmi ?_; refine Zv Zxmul ?_; refine Zv Zai ?_) | (refine WP_cond_true rfl ?_) | (refine WP_cond_false rfl ?_) | (refine Zcd (fun hc => ?_) (fun hc => ?_) <;> (try (exfalso; omega))) | (with_reducible apply WP_skip) | (with_reducible apply WP_block) | (with_reducible apply WP_exit)) | (refine Zhn ?_) | (with_reducible apply QBlock_normal) | (refine Zhx ?_) | (with_reducible apply QBlock_hit) | (refine Zqb ?_) | (with_reducible apply QLoop_exit))
  exact QBody_end0 rfl ⟨_, rfl, rfl⟩
theorem sort_tri (tl : List Value) (L : Hp) (n : Nat) (l : List Nat) (hl : Lt32 n l) (hn : n < 20) (b c : Nat) :
    Tri Try.prog N w0 ((b, Blk 116 (ut tl l)) :: L) 84 [.slice (some ⟨b, 0, none⟩) n c, cmpV].toArray fun r L' => ∃ v, r = .returned v ∧ L' = (b, Blk 116 (ut tl (stab n l))) :: L := by
  have hs := stable_sm N w0 tl L n l hl hn b c
  unfold cmpV at hs ⊢
  refine tri_of_WP Try.func84 rfl (n := 9) rfl (by simp) ?_
  repeat' (first | (refine GiP ?_; first | (refine Znh ?_) | (with_reducible refine Znl ?_)) | (refine GiW ?_; first | (refine Zsq fun K hK => ?_) | (refine ZrN 0 fun _ => ?_; refine Zv Zmv ?_; refine Zv Zmv ?_; refine Zv Zxlen ?_; refine Zv Zmv ?_; refine OPS_retKS (Enters_fn rfl) hs rfl rfl rfl (fun v8 L8 h8 => ?_); subst h8)) | (refine Zhn ?_))
  exact QBody_end0 rfl ⟨_, rfl, rfl⟩
end
end Go.Proofs.Ytkaadefndcbdnaa
