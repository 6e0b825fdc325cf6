/- Panics, methods of interface values, slices of slices, appends. -/
import Derived.Test.YtakmopiceopcpaaMem2
section
namespace Go.Proofs.Ytakmopiceopcpaa
open Go.RowKit

class MethodOf (P : Program) (t : TypeId) (name : String) (f : outParam FuncId) : Prop where
  run : ∀ v w, (method (P.types.size + Made.depth) t v name).run P w = .ok (f, v) w

section
variable {P : Program} {r : Option Nat} {n N : Nat} {w0 : World} {L : Hp} {e : Env} {d : Option Nat} {ty : TypeId} {pos : String} {af : Array Edge} {g : Option (Nat × Bool)} {ops : Array Oper} {rest : List Oper} {Q : Post} {ds : List Deferred}

theorem OPS_panicV {x : Operand} {t : TypeId} {v : Value} (hx : ev e x = .iface t v) (hg : Region.wanted ⟨d, .panic x, ty, pos, af, g⟩ (yieldE ops e) = true)
    (h : Q (.panic [{ v := .iface t v, recovered := false }]) e ds L) : OPS P r n N w0 ops (⟨d, .panic x, ty, pos, af, g⟩ :: rest) Q e ds L :=
  OPS_panic (fun w => by simp [execOp, hx, Instr.panic, goPanic, Sem.run]) hg rfl h
theorem Enters_inv {x : Operand} {t : TypeId} {v : Value} {name : String} {f : FuncId} [hm : MethodOf P t name f] [HasBody P f] {xs : List Operand} {ts : Array TypeId} {vs : List Value} (hx : ev e x = .iface t v) (hv : v :: xs.map (ev e) = vs) :
    Enters P e ⟨d, .call { callee := .invoke x name, args := xs.toArray, argTypes := ts }, ty, pos, af, g⟩ f vs.toArray := by
  intro w
  subst hv
  have ht : List.take xs.length (xs.map (ev e)) = xs.map (ev e) := List.take_of_length_le (by simp)
  simp [execOp, resolve, hx, invoke, callMethod, hm.run, run_callFunc, ht]
theorem run_sliceLo {t E : TypeId} [ha : SliceOf P t E] {g' : Bool} {sz bt : Nat} [TySz P E g' sz bt] {a : Option Addr} {len cap lo : Nat} (w : World) (h1 : lo ≤ len) :
    (Instr.sliceAt t (.slice a len cap) (some (.int .i64 lo)) none none).run P w = .ok (.slice (if cap = lo then a else a.map (·.add (lo * sz))) (len - lo) (cap - lo)) w := by
  simp [Instr.sliceAt, Instr.slice, run_underlying ha.und, Instr.sliceBounds, Instr.sliceBound, asIntOf, h1, run_sizeOf (P := P) (t := E)]
theorem run_sliceHi {t E : TypeId} [ha : SliceOf P t E] {g' : Bool} {sz bt : Nat} [TySz P E g' sz bt] {a : Option Addr} {len cap hi : Nat} (w : World) (h2 : hi ≤ cap) :
    (Instr.sliceAt t (.slice a len cap) none (some (.int .i64 hi)) none).run P w = .ok (.slice (if cap = 0 then a else a.map (·.add (0 * sz))) hi cap) w := by
  simp [Instr.sliceAt, Instr.slice, run_underlying ha.und, Instr.sliceBounds, Instr.sliceBound, asIntOf, h2, run_sizeOf (P := P) (t := E)]

/-! ## A slice that grows -/
def Row (E : TypeId) (sz k cap : Nat) (xs : List Value) : Obj → Prop := fun o => ∃ cur : Array Value, o = .cells cur E (0, 0) ∧ k ≤ cap ∧ cap ≤ maxLen ∧ cur.size = cap * sz ∧ cur.toList.take (k * sz) = xs
def svV (s : Option (Nat × Nat)) (k : Nat) : Value := match s with
  | none => .slice none 0 0
  | some (b, cap) => .slice (some ⟨b, 0, none⟩) k cap
def svH (E : TypeId) (sz k : Nat) (xs : List Value) (s : Option (Nat × Nat)) (L : Hp) : Hp := match s with
  | none => L
  | some (b, cap) => (b, Row E sz k cap xs) :: L
/-- What goes with it: nil has no elements. -/
def svOk (s : Option (Nat × Nat)) (sz k : Nat) (xs : List Value) : Prop := xs.length = k * sz ∧ (s = none → k = 0)

theorem svOk_nil (sz : Nat) : svOk none sz 0 [] := ⟨by simp, fun _ => rfl⟩
theorem owns_of {E : TypeId} {sz k : Nat} {xs : List Value} {s : Option (Nat × Nat)} {w : World} (hI : Inv N w0 (svH E sz k xs s L) w) (hs : svOk s sz k xs) : w.ownsRow N E sz (svV s k) k xs := by
  refine ⟨hs.1, ?_⟩
  cases s with
  | none => exact .inl ⟨rfl, hs.2 rfl⟩
  | some p =>
    obtain ⟨b, cap⟩ := p
    obtain ⟨hb, o, ho, cur, rfl, h1, h2, h3, h4⟩ := hI.own _ (List.mem_cons_self)
    exact .inr ⟨b, cap, cur, rfl, hb, ho, h1, h2, h3, h4⟩

theorem run_append_sv {t E : TypeId} [hE : SliceOf P t E] {g' : Bool} {sz bt : Nat} [hS : TySz P E g' (sz + 1) bt] {z : List Value} [hZ : TyZero P E z] (hz : z.length = sz + 1)
    {k m c : Nat} {xs news : List Value} {s : Option (Nat × Nat)} {a : Addr} {w : World} (hI : Inv N w0 (svH E (sz + 1) k xs s L) w) (hs : svOk s (sz + 1) k xs)
    (hl : news.length = m * (sz + 1)) (hn : ∀ j u, news[j]? = some u → w.cell? (a.add j) = some u) (h1 : ones news = true) (h63 : k + m ≤ maxLen) (hby : (k + m) * bt ≤ 140737488355328) :
    ∃ s' w', (Builtin.append_ #[t, t] ty #[svV s k, .slice (some a) m c]).run P w = .ok (svV s' (k + m)) w' ∧ Inv N w0 (svH E (sz + 1) (k + m) (xs ++ news) s' L) w' ∧ svOk s' (sz + 1) (k + m) (xs ++ news) := by
  have hi := hS.inf
  have hzz := hZ.zero
  cases hin : P.info? E with
  | none => rw [hin] at hi; cases hi
  | some i =>
    rw [hin] at hi hzz
    simp only [Option.map_some, Option.some.injEq, Prod.mk.injEq] at hi
    cases hiz : i.zero with
    | none => simp [hiz] at hzz
    | some zv =>
      simp only [Option.bind_some, hiz, Option.map_some, Option.some.injEq] at hzz
      have hzs : zv.cells.size = sz + 1 := by rw [← Array.length_toList, hzz, hz]
      obtain ⟨v', w', hr, hown, hg, _, hat⟩ := run_append_own_at (P := P) w N t ty E i zv (sz + 1) bt hE.und hin hiz hi.1 hi.2 hzs (by omega) (svV s k) k xs (owns_of hI hs) a m c news hl hn
        (fun u hu => by simp only [ones, List.all_eq_true] at h1; exact h1 u hu) h63 hby hI.big
      obtain ⟨hl', hcase⟩ := hown
      have hbase : Inv N w0 L w := by
        cases s with
        | none => exact hI
        | some p => exact hI.wk (.drop (.refl _))
      have hne : ∀ y ∈ L, some y.1 ≠ (svV s k).ownBlock := by
        intro y hy
        cases s with
        | none => simp [svV, Value.ownBlock]
        | some p =>
          have := hI.dis
          simp only [svH, List.pairwise_cons] at this
          have := this.1 y hy
          simp only [svV, Value.ownBlock, ne_eq, Option.some.injEq]
          exact fun h => this h.symm
      have hlow : ∀ j, some j = (svV s k).ownBlock → N ≤ j := by
        intro j hj
        cases s with
        | none => simp [svV, Value.ownBlock] at hj
        | some p =>
          have := (hI.own _ List.mem_cons_self).1
          simp only [svV, Value.ownBlock, Option.some.injEq] at hj
          rw [hj]; exact this
      have hL' : Inv N w0 L w' := by
        refine ⟨⟨hg.os.trans hbase.below.os, hg.tape.trans hbase.below.tape, hg.output.trans hbase.below.output, Nat.le_trans hbase.below.size hg.size, fun j hj => ?_⟩, Nat.le_trans hbase.big hg.size, hbase.dis, fun y hy => ?_⟩
        · rw [hg.block j (Nat.lt_of_lt_of_le hj hbase.big) (fun h => by have := hlow j h; omega)]
          exact hbase.below.block j hj
        · obtain ⟨h1, o, ho, hφ⟩ := hbase.own y hy
          exact ⟨h1, o, (hg.block _ (hbase.lt hy) (hne y hy)).trans ho, hφ⟩
      rcases hcase with ⟨rfl, h0⟩ | ⟨gb, cap, cur, rfl, hgb, hh, hc1, hc2, hc3, hc4⟩
      · refine ⟨none, w', ?_, hL', hl', fun _ => h0⟩
        rw [hr]; simp [svV]
      · refine ⟨some (gb, cap), w', hr, ⟨hL'.below, hL'.big, ?_, ?_⟩, hl', fun h => by cases h⟩
        · simp only [svH, List.pairwise_cons]
          refine ⟨fun y hy => ?_, hL'.dis⟩
          have hylt := hbase.lt hy
          have hat' : some gb = (svV s k).ownBlock ∨ some gb = some w.heap.size := hat
          rcases hat' with h | h
          · exact fun e => hne y hy (by rw [← e, ← h])
          · have h := Option.some.inj h
            show gb ≠ y.1
            omega
        · intro x hx
          rcases List.mem_cons.1 hx with rfl | hx
          · exact ⟨hgb, _, hh, cur, rfl, hc1, hc2, hc3, hc4⟩
          · exact hL'.own x hx

theorem OPS_append {t E : TypeId} [hE : SliceOf P t E] {g' : Bool} {sz bt : Nat} [hS : TySz P E g' (sz + 1) bt] {z : List Value} [hZ : TyZero P E z] (hz : z.length = sz + 1)
    {x y : Operand} {k m c b2 o2 : Nat} {xs news : List Value} {s : Option (Nat × Nat)} {Lb : Hp} (hx : ev e x = svV s k) (hy : ev e y = .slice (some ⟨b2, o2, none⟩) m c) (hL : Wk L (svH E (sz + 1) k xs s Lb))
    (hs : svOk s (sz + 1) k xs) (hn : ∀ w, Inv N w0 L w → ∀ j u, news[j]? = some u → w.cell? ⟨b2, o2 + j, none⟩ = some u) (hl : news.length = m * (sz + 1)) (h1 : ones news = true) (h63 : k + m ≤ maxLen) (hby : (k + m) * bt ≤ 140737488355328)
    (hg : Region.wanted ⟨d, .call { callee := .builtin .append, args := #[x, y], argTypes := #[t, t] }, ty, pos, af, g⟩ (yieldE ops e) = true) (hd : dstOk n d = true)
    (h : ∀ s', svOk s' (sz + 1) (k + m) (xs ++ news) → OPS P r n N w0 ops rest Q (updO e d (svV s' (k + m))) ds (svH E (sz + 1) (k + m) (xs ++ news) s' Lb)) :
    OPS P r n N w0 ops (⟨d, .call { callee := .builtin .append, args := #[x, y], argTypes := #[t, t] }, ty, pos, af, g⟩ :: rest) Q e ds L := by
  refine OPS_any (K := fun v L' => ∃ s', v = svV s' (k + m) ∧ L' = svH E (sz + 1) (k + m) (xs ++ news) s' Lb ∧ svOk s' (sz + 1) (k + m) (xs ++ news)) (fun w hI => ?_) hg rfl hd ?_
  · obtain ⟨s', w', hr, hI', hs'⟩ := run_append_sv (P := P) (ty := ty) (t := t) (E := E) (a := ⟨b2, o2, none⟩) (m := m) (c := c) hz (hI.wk hL) hs hl (fun j u hj => by rw [addr_add]; exact hn w hI j u hj) h1 h63 hby
    exact ⟨_, w', _, by simp [execOp, resolve, invoke, builtin, hx, hy, hr], hI', s', rfl, rfl, hs'⟩
  · rintro v L' ⟨s', rfl, rfl, hs'⟩
    exact h s' hs'
theorem blk_cells {b : Nat} {T : TypeId} {l : List Value} (hm : Mem b (Blk T l) L) : ∀ w, Inv N w0 L w → ∀ j u, l[j]? = some u → w.cell? ⟨b, 0 + j, none⟩ = some u := by
  intro w hI j u hj
  rw [Nat.zero_add, hI.cell hm]; simpa using hj
end

/-! ## Results -/
section
variable {P : Program} {N : Nat} {w0 : World} {L : Hp} {e : Env}
inductive ResR (P : Program) (e : Env) (L : Hp) : List ResultVar → List Value → Prop
  | nil : ResR P e L [] []
  | tmp {t : Nat} {v : Value} {rs : List ResultVar} {vs : List Value} (h : e t = v) (k : ResR P e L rs vs) : ResR P e L (.tmp t :: rs) (v :: vs)
  | cell1 {a t n bt b o : Nat} {T : TypeId} {l : List Value} {v : Value} {rs : List ResultVar} {vs : List Value} [TySz P t false n bt] (h : e a = .pointer (some ⟨b, o, none⟩)) (hm : Mem b (Blk T l) L) (hv : l[o]? = some v) (k : ResR P e L rs vs) : ResR P e L (.cell a t :: rs) (v :: vs)
  | cellN {a t n bt b o : Nat} {T : TypeId} {l us : List Value} {rs : List ResultVar} {vs : List Value} [TySz P t true n bt] (h : e a = .pointer (some ⟨b, o, none⟩)) (hm : Mem b (Blk T l) L) (hv : Cut l o n us) (k : ResR P e L rs vs) : ResR P e L (.cell a t :: rs) (.agg us.toArray :: vs)
theorem asAddr_ptr (a : Addr) : asAddr (.pointer (some a)) = pure a := rfl
theorem ResR.run {rs : List ResultVar} {vs : List Value} (h : ResR P e L rs vs) {a : Act} {w : World} (he : envOf a = e) (hI : Inv N w0 L w) :
    (rs.mapM fun | .tmp t => pure (a.tmps.getD t undef) | .cell x t => do loadVar t (← asAddr (a.tmps.getD x undef)) : Sem (List Value)).run P w = .ok vs w := by
  subst he
  induction h with
  | nil => simp
  | tmp h k ih =>
    have h' : a.tmps.getD _ undef = _ := h
    simp only [List.mapM_cons, Sem.run_bind, Sem.run_pure, Result.andThen_ok, ih, h']
  | cell1 h hm hv k ih =>
    rename_i x t n bt b o T l v rs vs _
    have h' : a.tmps.getD x undef = .pointer (some ⟨b, o, none⟩) := h
    have hc : w.cell? ⟨b, o, none⟩ = some v := by rw [hI.cell hm]; simpa using hv
    simp only [List.mapM_cons, Sem.run_bind, h', asAddr_ptr, Sem.run_pure, Result.andThen_ok, run_loadVar1 (P := P) (t := t) hc, ih]
  | cellN h hm hv k ih =>
    rename_i x t n bt b o T l us rs vs _
    have h' : a.tmps.getD x undef = .pointer (some ⟨b, o, none⟩) := h
    obtain ⟨h1, h2⟩ := hv.at_
    have hl := run_loadVarN (P := P) (w := w) (t := t) (a := ⟨b, o, none⟩) h1 (fun j hj => by rw [addr_add, hI.cell hm]; simpa using h2 j hj)
    simp only [List.mapM_cons, Sem.run_bind, h', asAddr_ptr, Sem.run_pure, Result.andThen_ok, hl, ih]
def resV : List Value → Value
  | [u] => u
  | vs => .tuple vs.toArray
theorem resV_eq (vs : List Value) : (if h : vs.toArray.size = 1 then vs.toArray[0] else Value.tuple vs.toArray) = resV vs := by
  match vs with
  | [] => rfl
  | [u] => rfl
  | u :: u' :: vs => simp [resV]
theorem QBody_res {fn : Func} {R : Ending → Hp → Prop} {rs : List ResultVar} {vs : List Value} {v : Value} (hr : fn.results = rs.toArray) (h : ResR P e L rs vs) (hv : resV vs = v) (hR : R (.returned v) L) : QBody P fn N w0 R .ret e [] L := by
  refine ⟨rfl, v, fun a w he hI => ?_, hR⟩
  have h1 := h.run he hI
  subst hv
  unfold results
  rw [hr]
  simp only [List.mapM_toArray, Sem.run_bind, Sem.run_map, Sem.run_pure]
  have h2 := congrArg (fun r : Result (List Value) => (r.andThen fun a w' => Result.ok a.toArray w').andThen fun a w' => Result.ok (if h : a.size = 1 then a[0] else Value.tuple a) w') h1
  refine Eq.trans h2 ?_
  simp only [Result.andThen_ok, resV_eq]
end
end Go.Proofs.Ytakmopiceopcpaa
end
