/- Maps whose every entry is as it should be, by keys of whole numbers: the values are known by a relation. · Rows that are made, and filled by copies. · Contracts whose state is known in another order; iterators, step by step. -/
import Derived.Test.YtbhgpnbfdjoglaaMaps
import Derived.Test.YtbhgpnbfdjoglaaRd
import Derived.Laws.MakeOwn
import Derived.Laws.CopyRow
import Derived.Test.YtbhgpnbfdjoglaaSl
import Derived.Test.YtbhgpnbfdjoglaaRange
section
namespace Go.Proofs.Ytbhgpnbfdjoglaa
open Go.RowKit
def MGoodR (ks : List IntKind) (G : List Int → Value → Prop) (es : Array MapEntry) : Prop := ∀ x ∈ es.toList, ∃ is, inKs ks is ∧ x.key = intsV ks is ∧ G is x.val
def MapRel (ks : List IntKind) (G : List Int → Value → Prop) : Obj → Prop := fun o => ∃ es clock, o = .map es clock ∧ MGoodR ks G es
theorem MGoodR.mono {ks : List IntKind} {G G' : List Int → Value → Prop} {es : Array MapEntry} (h : MGoodR ks G es) (hG : ∀ is v, G is v → G' is v) : MGoodR ks G' es := fun x hx => by
  obtain ⟨is, h1, h2, h3⟩ := h x hx
  exact ⟨is, h1, h2, hG _ _ h3⟩
theorem mapRel_new (ks : List IntKind) (G : List Int → Value → Prop) : MapRel ks G (.map #[] 0) := ⟨#[], 0, rfl, fun x hx => by simp at hx⟩
theorem zipV_inj {ks : List IntKind} : ∀ {a b : List Int}, a.length = ks.length → b.length = ks.length → ((ks.zip a).map fun p => Value.int p.1 p.2) = ((ks.zip b).map fun p => Value.int p.1 p.2) → a = b := by
  induction ks with
  | nil => intro a b ha hb _; rw [List.eq_nil_of_length_eq_zero ha, List.eq_nil_of_length_eq_zero hb]
  | cons k ks ih =>
    intro a b ha hb h
    cases a with
    | nil => simp at ha
    | cons x a =>
      cases b with
      | nil => simp at hb
      | cons y b =>
        simp only [List.zip_cons_cons, List.map_cons, List.cons.injEq, Value.int.injEq, true_and] at h
        rw [h.1, ih (by simpa using ha) (by simpa using hb) h.2]
theorem intsV_inj {ks : List IntKind} {a b : List Int} (ha : inKs ks a) (hb : inKs ks b) (h : intsV ks a = intsV ks b) : a = b := by
  unfold intsV at h
  simp only [Value.agg.injEq] at h
  exact zipV_inj ha.1 hb.1 (by simpa using congrArg Array.toList h)
section
variable {P : Program}
theorem run_findAskingR {t : TypeId} {ks : List IntKind} [hk : KeyTy P t ks] {is : List Int} (hi : inKs ks is) : ∀ (es : List MapEntry) (i : Nat), (∀ x ∈ es, ∃ is, inKs ks is ∧ x.key = intsV ks is) →
    ∃ r : Option (Nat × Value), (∀ w, (Instr.findAsking t (intsV ks is) es i).run P w = .ok r w) ∧ (r = none ∨ ∃ j x, r = some (i + j, x.val) ∧ es[j]? = some x ∧ x.key = intsV ks is)
  | [], i, _ => ⟨none, fun w => by simp [Instr.findAsking], .inl rfl⟩
  | x :: es, i, h => by
    obtain ⟨is', h1, h2⟩ := h x List.mem_cons_self
    have heq := fun w => run_equal_ints (P := P) (t := t) hi h1 w
    by_cases he : is = is'
    · subst he
      exact ⟨some (i, x.val), fun w => by simp [Instr.findAsking, h2, heq], .inr ⟨0, x, by simp, by simp, h2⟩⟩
    · obtain ⟨r, hr, hc⟩ := run_findAskingR (t := t) hi es (i + 1) (fun y hy => h y (List.mem_cons_of_mem _ hy))
      refine ⟨r, fun w => by simp [Instr.findAsking, h2, heq, he, hr], ?_⟩
      rcases hc with hc | ⟨j, y, hc, hy, hyk⟩
      · exact .inl hc
      · exact .inr ⟨j + 1, y, by rw [hc]; congr 2; omega, by simpa using hy, hyk⟩
theorem run_findKey_intsR {t : TypeId} {ks : List IntKind} [hk : KeyTy P t ks] {is : List Int} (hi : inKs ks is) (es : List MapEntry) (h : ∀ x ∈ es, ∃ is, inKs ks is ∧ x.key = intsV ks is) :
    ∃ r : Option (Nat × Value), (∀ w, (Instr.findKey t (intsV ks is) es).run P w = .ok r w) ∧ (r = none ∨ ∃ j x, r = some (j, x.val) ∧ es[j]? = some x ∧ x.key = intsV ks is) := by
  have hw := hk.wide
  cases hu : P.underlying t with
  | none => rw [hu] at hw; cases hw
  | some d =>
    cases es with
    | nil => exact ⟨none, fun w => by simp [Instr.findKey, run_underlying hu, Instr.findNow], .inl rfl⟩
    | cons x es =>
      obtain ⟨r, hr, hc⟩ := run_findAskingR (P := P) (t := t) hi (x :: es) 0 h
      refine ⟨r, fun w => ?_, by simpa using hc⟩
      have hn : Instr.findNow d (intsV ks is) (x :: es) 0 = none := by
        rw [hu] at hw
        cases d <;> simp at hw <;> simp [Instr.findNow, Instr.sameNow]
      simp [Instr.findKey, run_underlying hu, hn, hr]
end
section
variable {P : Program} {r : Option Nat} {n N : Nat} {w0 : World} {L : Hp} {e : Env} {d : Option Nat} {ty : TypeId} {pos : String} {af : Array Edge} {g : Option (Nat × Bool)}
/-- A look into the map: there, or not. -/
theorem lookup_rel (P : Program) {t k v : TypeId} {zv : Value} [hm : MapTy P t k v] {ks : List IntKind} [hk : KeyTy P k ks] [hz : ZeroV P v zv] {m clock : Nat} {es : Array MapEntry} {G : List Int → Value → Prop} {is : List Int} (hi : inKs ks is) (hg : MGoodR ks G es) :
    ∃ (ok : Bool) (u : Value), (ok = true → G is u) ∧ ∀ {N : Nat} {w0 : World} {L : Hp} {e : Env} {d : Option Nat} {ty : TypeId} {pos : String} {af : Array Edge} {g : Option (Nat × Bool)} {x y : Operand}, ev e x = .map (some m) → ev e y = intsV ks is → Mem m (Is (.map es clock)) L →
      Val P N w0 L e ⟨d, .lookup t x y true, ty, pos, af, g⟩ (.tuple [if ok then u else zv, .bool ok].toArray) := by
  have hgk : ∀ x ∈ es.toList, ∃ is, inKs ks is ∧ x.key = intsV ks is := fun x hx => by
    obtain ⟨is, h1, h2, _⟩ := hg x hx
    exact ⟨is, h1, h2⟩
  obtain ⟨r, hr, hc⟩ := run_findKey_intsR (P := P) (t := k) hi es.toList hgk
  rcases hc with rfl | ⟨j, x', rfl, hj, hxk⟩
  · refine ⟨false, undef, fun h => (by cases h), ?_⟩
    intro N w0 L e d ty pos af g x y hx hy hmem w hI
    have hrun : (getObj m).run P w = .ok (.map es clock) w := by simp [getObj, Sem.run, hI.obj hmem]
    simp [execOp, hx, hy, Instr.lookup, run_underlying hm.und, hrun, run_checkKey_ints (P := P) (t := k) hi, hr, run_zeroV (P := P) (t := v)]
  · refine ⟨true, x'.val, fun _ => ?_, ?_⟩
    · obtain ⟨is', h1, h2, h3⟩ := hg x' (List.mem_of_getElem? hj)
      rwa [intsV_inj hi h1 (hxk.symm.trans h2)]
    intro N w0 L e d ty pos af g x y hx hy hmem w hI
    have hrun : (getObj m).run P w = .ok (.map es clock) w := by simp [getObj, Sem.run, hI.obj hmem]
    simp [execOp, hx, hy, Instr.lookup, run_underlying hm.und, hrun, run_checkKey_ints (P := P) (t := k) hi, hr]
/-- What is put into the map is right. -/
theorem Turn_mapUpdateR {t k v : TypeId} [hm : MapTy P t k v] {ks : List IntKind} [hk : KeyTy P k ks] {x y z : Operand} {m clock : Nat} {es : Array MapEntry} {G G' : List Int → Value → Prop} {is : List Int} {L' : Hp} {w' : Value} (hx : ev e x = .map (some m)) (hy : ev e y = intsV ks is) (hi : inKs ks is) (hz : ev e z = w') (hw : G' is w') (hG : ∀ is v, G is v → G' is v)
    (hup : Up L m (Is (.map es clock)) (MapRel ks G') L') (hg0 : MGoodR ks G es) : Turn P N w0 L e ⟨d, .mapUpdate t x y z, ty, pos, af, g⟩ L' := by
  have hg := hg0.mono hG
  intro w hI
  have hgk : ∀ x ∈ es.toList, ∃ is, inKs ks is ∧ x.key = intsV ks is := fun x hx => by
    obtain ⟨is, h1, h2, _⟩ := hg x hx
    exact ⟨is, h1, h2⟩
  obtain ⟨r, hr, hc⟩ := run_findKey_intsR (P := P) (t := k) hi es.toList hgk
  have ho := hI.obj hup.mem
  have hrun : (getObj m).run P w = .ok (.map es clock) w := by simp [getObj, Sem.run, ho]
  have hset : ∀ o', (setObj m o').run P w = .ok () (w.putObj m o') := fun o' => by simp [setObj, Sem.run, ho, World.putObj]
  have hfin : ∀ o', MapRel ks G' o' → ∃ w', Result.ok (Next.skip) (w.putObj m o') = .ok .skip w' ∧ Inv N w0 L' w' := fun o' ho' => ⟨_, rfl, hI.putObj hup ho'⟩
  rcases hc with rfl | ⟨j, x', rfl, hj, hxk⟩
  · obtain ⟨w1, h1, h2⟩ := hfin (.map (es.push { key := intsV ks is, val := w', born := clock }) (clock + 1)) ⟨_, _, rfl, fun y hy => by
      simp only [Array.toList_push, List.mem_append, List.mem_singleton] at hy
      rcases hy with hy | rfl
      · exact hg y hy
      · exact ⟨is, hi, rfl, hw⟩⟩
    exact ⟨w1, by rw [← h1]; simp [execOp, hx, hy, hz, Instr.mapUpdate, run_underlying hm.und, hrun, run_checkKey_ints (P := P) (t := k) hi, hr, hset], h2⟩
  · have hes : es[j]? = some x' := by simpa using hj
    obtain ⟨w1, h1, h2⟩ := hfin (.map (es.modify j fun q => { q with key := intsV ks is, val := w' }) clock) ⟨_, _, rfl, fun y hy => by
      obtain ⟨i, hi', he⟩ := List.getElem_of_mem hy
      simp only [Array.toList_modify] at he hi'
      rw [List.getElem_modify] at he
      split at he
      · subst he
        exact ⟨is, hi, rfl, hw⟩
      · subst he
        exact hg _ (List.getElem_mem _)⟩
    exact ⟨w1, by rw [← h1]; simp [execOp, hx, hy, hz, Instr.mapUpdate, run_underlying hm.und, hrun, run_checkKey_ints (P := P) (t := k) hi, hr, hset, hes, hxk, Instr.keyThatStays, sameBits_ints], h2⟩
end
end Go.Proofs.Ytbhgpnbfdjoglaa
end

section
namespace Go.Proofs.Ytbhgpnbfdjoglaa
open Go.RowKit
theorem RdRows.flat {N : Nat} {w0 : World} {L : Hp} {A : Option Addr} {sz : Nat} {rows : List (List Value)} (h : RdRows N w0 L A sz rows) (hs : 0 < sz) (hr : ∀ r ∈ rows, r.length = sz) {w : World} (hI : Inv N w0 L w) : ∀ j u, rows.flatten[j]? = some u → ∃ b o, A = some ⟨b, o, none⟩ ∧ w.cell? ⟨b, o + j, none⟩ = some u := by
  intro j u hj
  obtain ⟨hk, hu⟩ := flat_at hs hr hj
  obtain ⟨b, o, h1, h3⟩ := h _ hk
  refine ⟨b, o, h1, ?_⟩
  have := h3 (j % sz) u hu w hI
  rwa [Nat.add_assoc, show j / sz * sz + j % sz = j by rw [Nat.mul_comm]; exact Nat.div_add_mod j sz] at this
theorem rows_flat_len {sz : Nat} : ∀ {rows : List (List Value)}, (∀ r ∈ rows, r.length = sz) → rows.flatten.length = rows.length * sz
  | [], _ => by simp
  | r :: rows, h => by
    rw [List.flatten_cons, List.length_append, rows_flat_len (fun x hx => h x (.tail _ hx)), h r (.head _), List.length_cons, Nat.succ_mul, Nat.add_comm]
section
variable {P : Program} {r : Option Nat} {n N : Nat} {w0 : World} {L : Hp} {e : Env} {d : Option Nat} {ty : TypeId} {pos : String} {af : Array Edge} {g : Option (Nat × Bool)} {ops : Array Oper} {rest : List Oper} {Q : Post} {ds : List Deferred}
/-- A row that is made, of k elements, with room. -/
theorem OPS_makeR {t E : TypeId} [hs : SliceOf P t E] {g' : Bool} {sz bt : Nat} [hT : TySz P E g' (sz + 1) bt] {z : List Value} [hZ : TyZero P E z] (hz : z.length = sz + 1) {x y : Operand} {k m d : Nat} (hx : ev e x = .int .i64 (k : Int)) (hy : ev e y = .int .i64 (m : Int)) (hkm : k ≤ m) (h1 : bt * m ≤ 281474976710656) (h2 : m ≤ maxLen)
    (hg : Region.wanted ⟨some d, .makeSlice t x y, ty, pos, af, g⟩ (yieldE ops e) = true) (hd : Nat.blt d n = true)
    (h : ∀ b xs, xs.length = k * (sz + 1) → (sz = 0 → xs = List.replicate k (z.headD undef)) → OPS P r n N w0 ops rest Q (upd e d (.slice (some ⟨b, 0, none⟩) k m)) ds ((b, Row E (sz + 1) k m xs) :: L)) :
    OPS P r n N w0 ops (⟨some d, .makeSlice t x y, ty, pos, af, g⟩ :: rest) Q e ds L := by
  refine OPS_any (K := fun v L2 => ∃ b xs, (xs.length = k * (sz + 1) ∧ (sz = 0 → xs = List.replicate k (z.headD undef))) ∧ v = .slice (some ⟨b, 0, none⟩) k m ∧ L2 = (b, Row E (sz + 1) k m xs) :: L) (fun w hI => ?_) hg rfl hd ?_
  · have hi := hT.inf
    have hzz := hZ.zero
    cases hin : P.info? E with
    | none => rw [hin] at hi; cases hi
    | some i =>
      rw [hin] at hi hzz
      simp only [Option.map_some, Option.some.injEq, Prod.mk.injEq] at hi
      cases hiz : i.zero with
      | none => simp [hiz] at hzz
      | some zv =>
        simp only [Option.bind_some, hiz, Option.map_some, Option.some.injEq] at hzz
        have hzs : zv.cells.size = sz + 1 := by rw [← Array.length_toList, hzz, hz]
        have hbm : (i.bytes : Int) * (m : Int) ≤ 281474976710656 := by
          rw [hi.2, ← Int.natCast_mul]; omega
        have hr := run_make (P := P) w t E i zv hs.und hin hiz .i64 .i64 (k : Int) m (by omega) (by omega) hbm (by unfold maxLen at h2; omega)
        simp only [Int.toNat_natCast, hi.1] at hr
        have hle : k * (sz + 1) ≤ m * (sz + 1) := Nat.mul_le_mul_right _ hkm
        refine ⟨.slice (some ⟨w.heap.size, 0, none⟩) k m, w.alloc (.cells (madeCells zv.cells (m * (sz + 1))) E), (w.heap.size, Row E (sz + 1) k m ((madeCells zv.cells (m * (sz + 1))).toList.take (k * (sz + 1)))) :: L, by simp [execOp, hx, hy, hr], ?_, w.heap.size, _, ⟨?_, ?_⟩, rfl, rfl⟩
        · exact hI.alloc ⟨_, rfl, hkm, h2, by simp [madeCells], rfl⟩
        · have hsz : (madeCells zv.cells (m * (sz + 1))).size = m * (sz + 1) := by simp [madeCells]
          rw [List.length_take, Array.length_toList, hsz]
          exact Nat.min_eq_left hle
        · intro h0
          subst h0
          obtain ⟨z0, hz0⟩ : ∃ z0, z = [z0] := List.length_eq_one_iff.1 hz
          have hc : zv.cells = #[z0] := by
            apply Array.ext'
            rw [hzz, hz0]
          rw [hz0, hc]
          apply List.ext_getElem?
          intro j
          by_cases hj : j < k
          · rw [List.getElem?_take, if_pos (by omega)]
            simp [madeCells, hj, show j < m by omega, Nat.mod_one]
          · rw [List.getElem?_eq_none (by simp [madeCells]; omega), List.getElem?_eq_none (by simp; omega)]
  · rintro v L2 ⟨b, xs, ⟨h3, h4⟩, rfl, rfl⟩
    exact h b xs h3 h4
/-- All of a row is overwritten by a copy. -/
theorem OPS_copyR {t t' E : TypeId} [hs : SliceOf P t E] {g' : Bool} {sz bt : Nat} [hT : TySz P E g' (sz + 1) bt] {x y : Operand} {b k m c c2 : Nat} {A : Option Addr} {xs : List Value} {rows : List (List Value)} {L' : Hp}
    (hx : ev e x = .slice (some ⟨b, 0, none⟩) k c) (hy : ev e y = .slice A k c2) (hu : Up L b (Row E (sz + 1) k m xs) (Row E (sz + 1) k m rows.flatten) L') (hk : rows.length = k)
    (hsrc : RdRows N w0 L A (sz + 1) rows) (hr : ∀ r ∈ rows, r.length = sz + 1) (h1 : ∀ r ∈ rows, ones r = true)
    (hg : Region.wanted ⟨d, .call { callee := .builtin .copy, args := #[x, y], argTypes := #[t, t'] }, ty, pos, af, g⟩ (yieldE ops e) = true) (hd : dstOk n d = true)
    (h : OPS P r n N w0 ops rest Q (updO e d (.int .i64 k)) ds L') :
    OPS P r n N w0 ops (⟨d, .call { callee := .builtin .copy, args := #[x, y], argTypes := #[t, t'] }, ty, pos, af, g⟩ :: rest) Q e ds L := by
  refine OPS_any (K := fun v L1 => v = .int .i64 k ∧ L1 = L') (fun w hI => ?_) hg rfl hd ?_
  · obtain ⟨ob, hob, cur, rfl, hc1, hc2, hc3, hc4⟩ := hI.obj' hu.mem
    have hi := hT.inf
    have hfl := rows_flat_len hr
    rw [hk] at hfl
    have hfit : 0 + 0 + rows.flatten.length ≤ cur.size := by rw [hc3, hfl]; simpa using Nat.mul_le_mul_right _ hc1
    have hst := run_storeCells_at P b 0 E rows.flatten 0 cur w hob hfit (by have := ones_flat h1; simp only [ones, List.all_eq_true] at this; exact this)
    have hld : (Builtin.firstCells (sz + 1) k (.slice A k c2)).run P w = .ok rows.flatten.toArray w := by
      cases A with
      | none =>
        have hr0 : rows = [] := by
          cases rows with
          | nil => rfl
          | cons q rows => obtain ⟨b', o', h5, _⟩ := hsrc 0 (by simp); cases h5
        subst hr0
        simp [Builtin.firstCells]
      | some a =>
        have := run_loadCells_list (P := P) w a rows.flatten (fun j v hj => by
          obtain ⟨b', o', h5, h6⟩ := hsrc.flat (by omega) hr hI j v hj
          injection h5 with h5
          rw [h5, addr_add]; exact h6)
        rw [hfl] at this
        simpa [Builtin.firstCells] using this
    cases hin : P.info? E with
    | none => rw [hin] at hi; cases hi
    | some i =>
      rw [hin] at hi
      simp only [Option.map_some, Option.some.injEq, Prod.mk.injEq] at hi
      refine ⟨.int .i64 k, w.setRow b (cur.toList.take (0 + 0) ++ rows.flatten ++ cur.toList.drop (0 + 0 + rows.flatten.length)).toArray, L', ?_, ?_, rfl, rfl⟩
      · simp only [Nat.add_zero, Nat.zero_add] at hst
        simp [execOp, resolve, invoke, builtin, hx, hy, Builtin.copy_, run_underlying hs.und, Builtin.lenOf, sizeOf, typeInfo, hin, hi.1, hld, hst, goInt]
      · refine hI.turn hu rfl rfl rfl (by simp) (fun j _ hj => setRow_other w b j _ hj) ⟨_, setRow_heap w b cur _ E _ hob, _, rfl, hc1, hc2, ?_, ?_⟩
        · simp only [Nat.add_zero, List.take_zero, List.nil_append, Nat.zero_add, List.size_toArray, List.length_append, List.length_drop, Array.length_toList]
          rw [hfl, hc3]
          have := Nat.mul_le_mul_right (sz + 1) hc1
          omega
        · rw [List.toList_toArray]
          simp only [Nat.add_zero, List.take_zero, List.nil_append]
          rw [List.take_append_of_le_length (by rw [hfl]; exact Nat.le_refl _), List.take_of_length_le (by rw [hfl]; exact Nat.le_refl _)]
  · rintro v L1 ⟨rfl, rfl⟩
    exact h
end
end Go.Proofs.Ytbhgpnbfdjoglaa
end

section
namespace Go.Proofs.Ytbhgpnbfdjoglaa
open Go.RowKit
theorem Ret.perm {P : Program} {N : Nat} {w0 : World} {L L2 : Hp} {f : FuncId} {args : Array Value} {v : Value} (h : Ret P N w0 L2 f args v) (hp : L2.Perm L) : Ret P N w0 L f args v := by
  intro w hI
  refine (h w (hI.perm hp.symm)).mono ?_
  rintro x w' ⟨L', hI', rfl, rfl⟩
  exact ⟨L, hI'.perm hp, rfl, rfl⟩
theorem RoAt {w0 : World} {b o : Nat} {vs : List Value} (h : Ro w0 b o vs) (j : Nat) (v : Value) (hj : vs[j]? = some v) : w0.cell? ⟨b, o + j, none⟩ = some v := h j v hj
theorem YieldOK.at {P : Program} {N : Nat} {w0 : World} {J : Nat → Hp → Prop} {Jx : Hp → Prop} {xs : List (List Value)} {Y : Value} (h : YieldOK P N w0 J Jx xs Y) (A X : Hp) {k : Nat} (hk : k < xs.length) {Fr : Hp} (hJ : J k Fr) :
    CV P N w0 (A ++ (Fr ++ X)) Y xs[k] fun x L' => ∃ v, x = .returned v ∧ ∃ (bv : Bool) (Fr' : Hp), v = .bool bv ∧ L' = A ++ (Fr' ++ X) ∧ ((bv = true ∧ J (k + 1) Fr') ∨ (bv = false ∧ Jx Fr')) := by
  have hperm : ∀ F : Hp, (A ++ (F ++ X)).Perm (F ++ (A ++ X)) := by
    intro F
    have := (List.perm_append_comm (l₁ := A) (l₂ := F)).append_right X
    simpa using this
  refine (h (A ++ X) k hk Fr hJ).pm (hperm Fr) ?_
  rintro x L' ⟨v, rfl, Fr', rfl, hc⟩
  refine ⟨_, (hperm Fr').symm, v, rfl, ?_⟩
  rcases hc with ⟨rfl, hc⟩ | ⟨rfl, hc⟩
  · exact ⟨true, Fr', rfl, rfl, .inl ⟨rfl, hc⟩⟩
  · exact ⟨false, Fr', rfl, rfl, .inr ⟨rfl, hc⟩⟩
theorem Tri.pm {P : Program} {N : Nat} {w0 : World} {L L2 : Hp} {f : FuncId} {args : Array Value} {R R' : Ending → Hp → Prop} (h : Tri P N w0 L2 f args R) (hp : L.Perm L2) (hr : ∀ x L', R x L' → ∃ L'', L'.Perm L'' ∧ R' x L'') : Tri P N w0 L f args R' := by
  intro w hI
  refine (h w (hI.perm hp)).mono ?_
  rintro x w' ⟨L', hI', hR⟩
  obtain ⟨L'', hp', hR'⟩ := hr x L' hR
  exact ⟨L'', hI'.perm hp', hR'⟩
theorem Pre.of : ∀ {l vs : List Value} {n : Nat}, vs.length = n → (∀ (j : Nat) (v : Value), vs[j]? = some v → l[j]? = some v) → Pre l n vs
  | l, [], 0, _, _ => .nil
  | [], v :: vs, n + 1, _, h => by have := h 0 v rfl; simp at this
  | x :: l, v :: vs, n + 1, hl, h => by
    have h0 := h 0 v rfl
    simp only [List.getElem?_cons_zero, Option.some.injEq] at h0
    subst h0
    exact .cons (Pre.of (by simpa using hl) fun j u hj => by simpa using h (j + 1) u (by simpa using hj))
  | _, [], _ + 1, h, _ => by simp at h
  | _, _ :: _, 0, h, _ => by simp at h
theorem Cut.of : ∀ {i n : Nat} {l vs : List Value}, vs.length = n → 0 < n → (∀ (j : Nat) (v : Value), vs[j]? = some v → l[i + j]? = some v) → Cut l i n vs
  | 0, n, l, vs, hl, _, h => .here (Pre.of hl fun j v hj => by simpa using h j v hj)
  | i + 1, n, [], vs, hl, h0, h => by
    have := h 0 _ (List.getElem?_eq_getElem (by omega))
    simp at this
  | i + 1, n, x :: l, vs, hl, h0, h => .there (Cut.of hl h0 fun j v hj => by
      have := h j v hj
      rwa [show i + 1 + j = (i + j) + 1 by omega, List.getElem?_cons_succ] at this)
theorem Cut.whole {l : List Value} {n : Nat} (h : l.length = n) : Cut l 0 n l := .here (Pre.of h fun _ _ hj => hj)
theorem Wk.nil_ : ∀ L : Hp, Wk L []
  | [] => .refl _
  | _ :: L => .drop (Wk.nil_ L)
theorem Wk.sv0 {E : TypeId} {sz k : Nat} {xs : List Value} {s : Option (Nat × Nat)} {L : Hp} : Wk (svH E sz k xs s L) (svH E sz k xs s []) := by
  cases s with
  | none => exact Wk.nil_ L
  | some p => exact .keep1 (Wk.nil_ L)
end Go.Proofs.Ytbhgpnbfdjoglaa
end
