/- Maps whose every entry is right, by keys of whole numbers; made slices, copies. -/
import Derived.Test.YtbhgpnbfdjoglaaMore
section
namespace Go.Proofs.Ytbhgpnbfdjoglaa
open Go.RowKit

def MGood (ks : List IntKind) (F : List Int → Value) (es : Array MapEntry) : Prop := ∀ x ∈ es.toList, ∃ is, inKs ks is ∧ x.key = intsV ks is ∧ x.val = F is
/-- A map whose every entry is that of F. -/
def MapOf (ks : List IntKind) (F : List Int → Value) : Obj → Prop := fun o => ∃ es clock, o = .map es clock ∧ MGood ks F es
class MapTy (P : Program) (t : TypeId) (k v : outParam TypeId) : Prop where
  und : P.underlying t = some (.map k v)
class ZeroV (P : Program) (t : TypeId) (v : outParam Value) : Prop where
  zero : (P.info? t).bind (·.zero) = some v

section
variable {P : Program}
theorem run_zeroV {t : TypeId} {v : Value} [h : ZeroV P t v] (w : World) : (zeroValue t).run P w = .ok v w := by
  have := h.zero
  cases hu : P.info? t with
  | none => rw [hu] at this; cases this
  | some i =>
    rw [hu] at this
    have : i.zero = some v := by simpa using this
    simp [zeroValue, typeInfo, hu, this]
theorem run_findAsking {t : TypeId} {ks : List IntKind} [hk : KeyTy P t ks] {F : List Int → Value} {is : List Int} (hi : inKs ks is) : ∀ (es : List MapEntry) (i : Nat), (∀ x ∈ es, ∃ is, inKs ks is ∧ x.key = intsV ks is ∧ x.val = F is) →
    ∃ r : Option (Nat × Value), (∀ w, (Instr.findAsking t (intsV ks is) es i).run P w = .ok r w) ∧ (r = none ∨ ∃ j x, r = some (i + j, F is) ∧ es[j]? = some x ∧ x.key = intsV ks is)
  | [], i, _ => ⟨none, fun w => by simp [Instr.findAsking], .inl rfl⟩
  | x :: es, i, h => by
    obtain ⟨is', h1, h2, h3⟩ := h x List.mem_cons_self
    have heq := fun w => run_equal_ints (P := P) (t := t) hi h1 w
    by_cases he : is = is'
    · subst he
      exact ⟨some (i, F is), fun w => by simp [Instr.findAsking, h2, h3, heq], .inr ⟨0, x, by simp, by simp, h2⟩⟩
    · obtain ⟨r, hr, hc⟩ := run_findAsking (t := t) hi es (i + 1) (fun y hy => h y (List.mem_cons_of_mem _ hy))
      refine ⟨r, fun w => by simp [Instr.findAsking, h2, heq, he, hr], ?_⟩
      rcases hc with hc | ⟨j, y, hc, hy, hyk⟩
      · exact .inl hc
      · exact .inr ⟨j + 1, y, by rw [hc]; congr 2; omega, by simpa using hy, hyk⟩
theorem run_findKey_ints {t : TypeId} {ks : List IntKind} [hk : KeyTy P t ks] {F : List Int → Value} {is : List Int} (hi : inKs ks is) (es : List MapEntry) (h : ∀ x ∈ es, ∃ is, inKs ks is ∧ x.key = intsV ks is ∧ x.val = F is) :
    ∃ r : Option (Nat × Value), (∀ w, (Instr.findKey t (intsV ks is) es).run P w = .ok r w) ∧ (r = none ∨ ∃ j x, r = some (j, F is) ∧ es[j]? = some x ∧ x.key = intsV ks is) := by
  have hw := hk.wide
  cases hu : P.underlying t with
  | none => rw [hu] at hw; cases hw
  | some d =>
    cases es with
    | nil => exact ⟨none, fun w => by simp [Instr.findKey, run_underlying hu, Instr.findNow], .inl rfl⟩
    | cons x es =>
      obtain ⟨r, hr, hc⟩ := run_findAsking (P := P) (t := t) hi (x :: es) 0 h
      refine ⟨r, fun w => ?_, by simpa using hc⟩
      have hn : Instr.findNow d (intsV ks is) (x :: es) 0 = none := by
        rw [hu] at hw
        cases d <;> simp at hw <;> simp [Instr.findNow, Instr.sameNow]
      simp [Instr.findKey, run_underlying hu, hn, hr]
theorem run_checkKey_ints {t : TypeId} {ks : List IntKind} [hk : KeyTy P t ks] {is : List Int} (hi : inKs ks is) (em : Bool) (w : World) : (Instr.checkKey em 10000 t (intsV ks is)).run P w = .ok () w :=
  run_checkKey_deep em 9994 6 t hk.dt w 6 (intsV ks is) _ (intsV_formed hi) (hk.ls is hi.1 hi.2)
theorem sameBits_ints (ks : List IntKind) (is : List Int) : Instr.sameBits 10000 (intsV ks is) (intsV ks is) = true := by
  show Instr.sameBits (9999 + 1) _ _ = true
  unfold intsV
  simp only [Instr.sameBits, beq_self_eq_true, Bool.true_and, List.all_eq_true]
  rintro ⟨x, y⟩ hxy
  have : x = y ∧ ∃ k n, x = .int k n := by
    rw [List.zip_eq_zipWith] at hxy
    obtain ⟨i, hi, he⟩ := List.getElem_of_mem hxy
    simp only [List.getElem_zipWith, Prod.mk.injEq] at he
    obtain ⟨rfl, rfl⟩ := he
    refine ⟨rfl, ?_⟩
    simp only [List.getElem_map]
    exact ⟨_, _, rfl⟩
  obtain ⟨rfl, k, n, rfl⟩ := this
  simp [Instr.sameBits]
end

section
variable {P : Program} {r : Option Nat} {n N : Nat} {w0 : World} {L : Hp} {e : Env} {d : Option Nat} {ty : TypeId} {pos : String} {af : Array Edge} {g : Option (Nat × Bool)}
/-- A look into the map: there, or not. -/
theorem lookup_dec (P : Program) {t k v : TypeId} {zv : Value} [hm : MapTy P t k v] {ks : List IntKind} [hk : KeyTy P k ks] [hz : ZeroV P v zv] {m clock : Nat} {es : Array MapEntry} {F : List Int → Value} {is : List Int} (hi : inKs ks is) (hg : MGood ks F es) :
    ∃ ok : Bool, ∀ {N : Nat} {w0 : World} {L : Hp} {e : Env} {d : Option Nat} {ty : TypeId} {pos : String} {af : Array Edge} {g : Option (Nat × Bool)} {x y : Operand}, ev e x = .map (some m) → ev e y = intsV ks is → Mem m (Is (.map es clock)) L →
      Val P N w0 L e ⟨d, .lookup t x y true, ty, pos, af, g⟩ (.tuple [if ok then F is else zv, .bool ok].toArray) := by
  obtain ⟨r, hr, hc⟩ := run_findKey_ints (P := P) (t := k) hi es.toList hg
  rcases hc with rfl | ⟨j, x', rfl, _, _⟩
  · refine ⟨false, ?_⟩
    intro N w0 L e d ty pos af g x y hx hy hmem w hI
    have hrun : (getObj m).run P w = .ok (.map es clock) w := by simp [getObj, Sem.run, hI.obj hmem]
    simp [execOp, hx, hy, Instr.lookup, run_underlying hm.und, hrun, run_checkKey_ints (P := P) (t := k) hi, hr, run_zeroV (P := P) (t := v)]
  · refine ⟨true, ?_⟩
    intro N w0 L e d ty pos af g x y hx hy hmem w hI
    have hrun : (getObj m).run P w = .ok (.map es clock) w := by simp [getObj, Sem.run, hI.obj hmem]
    simp [execOp, hx, hy, Instr.lookup, run_underlying hm.und, hrun, run_checkKey_ints (P := P) (t := k) hi, hr]
/-- What is put into the map is right. -/
theorem Turn_mapUpdate {t k v : TypeId} [hm : MapTy P t k v] {ks : List IntKind} [hk : KeyTy P k ks] {x y z : Operand} {m clock : Nat} {es : Array MapEntry} {F : List Int → Value} {is : List Int} {L' : Hp} {w' : Value} (hx : ev e x = .map (some m)) (hy : ev e y = intsV ks is) (hi : inKs ks is) (hz : ev e z = w') (hw : w' = F is)
    (hup : Up L m (Is (.map es clock)) (MapOf ks F) L') (hg : MGood ks F es) : Turn P N w0 L e ⟨d, .mapUpdate t x y z, ty, pos, af, g⟩ L' := by
  intro w hI
  subst hw
  obtain ⟨r, hr, hc⟩ := run_findKey_ints (P := P) (t := k) hi es.toList hg
  have ho := hI.obj hup.mem
  have hrun : (getObj m).run P w = .ok (.map es clock) w := by simp [getObj, Sem.run, ho]
  have hset : ∀ o', (setObj m o').run P w = .ok () (w.putObj m o') := fun o' => by simp [setObj, Sem.run, ho, World.putObj]
  have hfin : ∀ o', MapOf ks F o' → ∃ w', Result.ok (Next.skip) (w.putObj m o') = .ok .skip w' ∧ Inv N w0 L' w' := fun o' ho' => ⟨_, rfl, hI.putObj hup ho'⟩
  rcases hc with rfl | ⟨j, x', rfl, hj, hxk⟩
  · obtain ⟨w1, h1, h2⟩ := hfin (.map (es.push { key := intsV ks is, val := F is, born := clock }) (clock + 1)) ⟨_, _, rfl, fun y hy => by
      simp only [Array.toList_push, List.mem_append, List.mem_singleton] at hy
      rcases hy with hy | rfl
      · exact hg y hy
      · exact ⟨is, hi, rfl, rfl⟩⟩
    exact ⟨w1, by rw [← h1]; simp [execOp, hx, hy, hz, Instr.mapUpdate, run_underlying hm.und, hrun, run_checkKey_ints (P := P) (t := k) hi, hr, hset], h2⟩
  · have hes : es[j]? = some x' := by simpa using hj
    obtain ⟨w1, h1, h2⟩ := hfin (.map (es.modify j fun q => { q with key := intsV ks is, val := F is }) clock) ⟨_, _, rfl, fun y hy => by
      obtain ⟨i, hi', he⟩ := List.getElem_of_mem hy
      simp only [Array.toList_modify] at he hi'
      rw [List.getElem_modify] at he
      split at he
      · subst he
        exact ⟨is, hi, rfl, rfl⟩
      · subst he
        exact hg _ (List.getElem_mem _)⟩
    exact ⟨w1, by rw [← h1]; simp [execOp, hx, hy, hz, Instr.mapUpdate, run_underlying hm.und, hrun, run_checkKey_ints (P := P) (t := k) hi, hr, hset, hes, hxk, Instr.keyThatStays, sameBits_ints], h2⟩
end
end Go.Proofs.Ytbhgpnbfdjoglaa
end
