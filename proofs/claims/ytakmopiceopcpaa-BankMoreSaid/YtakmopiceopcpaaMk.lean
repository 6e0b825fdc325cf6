/- Rows that are made, and filled by copies. -/
import Derived.Test.YtakmopiceopcpaaRd
import Derived.Laws.MakeOwn
import Derived.Laws.CopyRow
section
namespace Go.Proofs.Ytakmopiceopcpaa
open Go.RowKit
theorem RdRows.flat {N : Nat} {w0 : World} {L : Hp} {A : Option Addr} {sz : Nat} {rows : List (List Value)} (h : RdRows N w0 L A sz rows) (hs : 0 < sz) (hr : ∀ r ∈ rows, r.length = sz) {w : World} (hI : Inv N w0 L w) : ∀ j u, rows.flatten[j]? = some u → ∃ b o, A = some ⟨b, o, none⟩ ∧ w.cell? ⟨b, o + j, none⟩ = some u := by
  intro j u hj
  obtain ⟨hk, hu⟩ := flat_at hs hr hj
  obtain ⟨b, o, h1, h3⟩ := h _ hk
  refine ⟨b, o, h1, ?_⟩
  have := h3 (j % sz) u hu w hI
  rwa [Nat.add_assoc, show j / sz * sz + j % sz = j by rw [Nat.mul_comm]; exact Nat.div_add_mod j sz] at this
theorem rows_flat_len {sz : Nat} : ∀ {rows : List (List Value)}, (∀ r ∈ rows, r.length = sz) → rows.flatten.length = rows.length * sz
  | [], _ => by simp
  | r :: rows, h => by
    rw [List.flatten_cons, List.length_append, rows_flat_len (fun x hx => h x (.tail _ hx)), h r (.head _), List.length_cons, Nat.succ_mul, Nat.add_comm]
section
variable {P : Program} {r : Option Nat} {n N : Nat} {w0 : World} {L : Hp} {e : Env} {d : Option Nat} {ty : TypeId} {pos : String} {af : Array Edge} {g : Option (Nat × Bool)} {ops : Array Oper} {rest : List Oper} {Q : Post} {ds : List Deferred}
/-- A row that is made, of k elements, with room. -/
theorem OPS_makeR {t E : TypeId} [hs : SliceOf P t E] {g' : Bool} {sz bt : Nat} [hT : TySz P E g' (sz + 1) bt] {z : List Value} [hZ : TyZero P E z] (hz : z.length = sz + 1) {x y : Operand} {k m d : Nat} (hx : ev e x = .int .i64 (k : Int)) (hy : ev e y = .int .i64 (m : Int)) (hkm : k ≤ m) (h1 : bt * m ≤ 281474976710656) (h2 : m ≤ maxLen)
    (hg : Region.wanted ⟨some d, .makeSlice t x y, ty, pos, af, g⟩ (yieldE ops e) = true) (hd : Nat.blt d n = true)
    (h : ∀ b xs, xs.length = k * (sz + 1) → (sz = 0 → xs = List.replicate k (z.headD undef)) → OPS P r n N w0 ops rest Q (upd e d (.slice (some ⟨b, 0, none⟩) k m)) ds ((b, Row E (sz + 1) k m xs) :: L)) :
    OPS P r n N w0 ops (⟨some d, .makeSlice t x y, ty, pos, af, g⟩ :: rest) Q e ds L := by
  refine OPS_any (K := fun v L2 => ∃ b xs, (xs.length = k * (sz + 1) ∧ (sz = 0 → xs = List.replicate k (z.headD undef))) ∧ v = .slice (some ⟨b, 0, none⟩) k m ∧ L2 = (b, Row E (sz + 1) k m xs) :: L) (fun w hI => ?_) hg rfl hd ?_
  · have hi := hT.inf
    have hzz := hZ.zero
    cases hin : P.info? E with
    | none => rw [hin] at hi; cases hi
    | some i =>
      rw [hin] at hi hzz
      simp only [Option.map_some, Option.some.injEq, Prod.mk.injEq] at hi
      cases hiz : i.zero with
      | none => simp [hiz] at hzz
      | some zv =>
        simp only [Option.bind_some, hiz, Option.map_some, Option.some.injEq] at hzz
        have hzs : zv.cells.size = sz + 1 := by rw [← Array.length_toList, hzz, hz]
        have hbm : (i.bytes : Int) * (m : Int) ≤ 281474976710656 := by
          rw [hi.2, ← Int.natCast_mul]; omega
        have hr := run_make (P := P) w t E i zv hs.und hin hiz .i64 .i64 (k : Int) m (by omega) (by omega) hbm (by unfold maxLen at h2; omega)
        simp only [Int.toNat_natCast, hi.1] at hr
        have hle : k * (sz + 1) ≤ m * (sz + 1) := Nat.mul_le_mul_right _ hkm
        refine ⟨.slice (some ⟨w.heap.size, 0, none⟩) k m, w.alloc (.cells (madeCells zv.cells (m * (sz + 1))) E), (w.heap.size, Row E (sz + 1) k m ((madeCells zv.cells (m * (sz + 1))).toList.take (k * (sz + 1)))) :: L, by simp [execOp, hx, hy, hr], ?_, w.heap.size, _, ⟨?_, ?_⟩, rfl, rfl⟩
        · exact hI.alloc ⟨_, rfl, hkm, h2, by simp [madeCells], rfl⟩
        · have hsz : (madeCells zv.cells (m * (sz + 1))).size = m * (sz + 1) := by simp [madeCells]
          rw [List.length_take, Array.length_toList, hsz]
          exact Nat.min_eq_left hle
        · intro h0
          subst h0
          obtain ⟨z0, hz0⟩ : ∃ z0, z = [z0] := List.length_eq_one_iff.1 hz
          have hc : zv.cells = #[z0] := by
            apply Array.ext'
            rw [hzz, hz0]
          rw [hz0, hc]
          apply List.ext_getElem?
          intro j
          by_cases hj : j < k
          · rw [List.getElem?_take, if_pos (by omega)]
            simp [madeCells, hj, show j < m by omega, Nat.mod_one]
          · rw [List.getElem?_eq_none (by simp [madeCells]; omega), List.getElem?_eq_none (by simp; omega)]
  · rintro v L2 ⟨b, xs, ⟨h3, h4⟩, rfl, rfl⟩
    exact h b xs h3 h4
/-- All of a row is overwritten by a copy. -/
theorem OPS_copyR {t t' E : TypeId} [hs : SliceOf P t E] {g' : Bool} {sz bt : Nat} [hT : TySz P E g' (sz + 1) bt] {x y : Operand} {b k m c c2 : Nat} {A : Option Addr} {xs : List Value} {rows : List (List Value)} {L' : Hp}
    (hx : ev e x = .slice (some ⟨b, 0, none⟩) k c) (hy : ev e y = .slice A k c2) (hu : Up L b (Row E (sz + 1) k m xs) (Row E (sz + 1) k m rows.flatten) L') (hk : rows.length = k)
    (hsrc : RdRows N w0 L A (sz + 1) rows) (hr : ∀ r ∈ rows, r.length = sz + 1) (h1 : ∀ r ∈ rows, ones r = true)
    (hg : Region.wanted ⟨d, .call { callee := .builtin .copy, args := #[x, y], argTypes := #[t, t'] }, ty, pos, af, g⟩ (yieldE ops e) = true) (hd : dstOk n d = true)
    (h : OPS P r n N w0 ops rest Q (updO e d (.int .i64 k)) ds L') :
    OPS P r n N w0 ops (⟨d, .call { callee := .builtin .copy, args := #[x, y], argTypes := #[t, t'] }, ty, pos, af, g⟩ :: rest) Q e ds L := by
  refine OPS_any (K := fun v L1 => v = .int .i64 k ∧ L1 = L') (fun w hI => ?_) hg rfl hd ?_
  · obtain ⟨ob, hob, cur, rfl, hc1, hc2, hc3, hc4⟩ := hI.obj' hu.mem
    have hi := hT.inf
    have hfl := rows_flat_len hr
    rw [hk] at hfl
    have hfit : 0 + 0 + rows.flatten.length ≤ cur.size := by rw [hc3, hfl]; simpa using Nat.mul_le_mul_right _ hc1
    have hst := run_storeCells_at P b 0 E rows.flatten 0 cur w hob hfit (by have := ones_flat h1; simp only [ones, List.all_eq_true] at this; exact this)
    have hld : (Builtin.firstCells (sz + 1) k (.slice A k c2)).run P w = .ok rows.flatten.toArray w := by
      cases A with
      | none =>
        have hr0 : rows = [] := by
          cases rows with
          | nil => rfl
          | cons q rows => obtain ⟨b', o', h5, _⟩ := hsrc 0 (by simp); cases h5
        subst hr0
        simp [Builtin.firstCells]
      | some a =>
        have := run_loadCells_list (P := P) w a rows.flatten (fun j v hj => by
          obtain ⟨b', o', h5, h6⟩ := hsrc.flat (by omega) hr hI j v hj
          injection h5 with h5
          rw [h5, addr_add]; exact h6)
        rw [hfl] at this
        simpa [Builtin.firstCells] using this
    cases hin : P.info? E with
    | none => rw [hin] at hi; cases hi
    | some i =>
      rw [hin] at hi
      simp only [Option.map_some, Option.some.injEq, Prod.mk.injEq] at hi
      refine ⟨.int .i64 k, w.setRow b (cur.toList.take (0 + 0) ++ rows.flatten ++ cur.toList.drop (0 + 0 + rows.flatten.length)).toArray, L', ?_, ?_, rfl, rfl⟩
      · simp only [Nat.add_zero, Nat.zero_add] at hst
        simp [execOp, resolve, invoke, builtin, hx, hy, Builtin.copy_, run_underlying hs.und, Builtin.lenOf, sizeOf, typeInfo, hin, hi.1, hld, hst, goInt]
      · refine hI.turn hu rfl rfl rfl (by simp) (fun j _ hj => setRow_other w b j _ hj) ⟨_, setRow_heap w b cur _ E _ hob, _, rfl, hc1, hc2, ?_, ?_⟩
        · simp only [Nat.add_zero, List.take_zero, List.nil_append, Nat.zero_add, List.size_toArray, List.length_append, List.length_drop, Array.length_toList]
          rw [hfl, hc3]
          have := Nat.mul_le_mul_right (sz + 1) hc1
          omega
        · rw [List.toList_toArray]
          simp only [Nat.add_zero, List.take_zero, List.nil_append]
          rw [List.take_append_of_le_length (by rw [hfl]; exact Nat.le_refl _), List.take_of_length_le (by rw [hfl]; exact Nat.le_refl _)]
  · rintro v L1 ⟨rfl, rfl⟩
    exact h
end
end Go.Proofs.Ytakmopiceopcpaa
end
