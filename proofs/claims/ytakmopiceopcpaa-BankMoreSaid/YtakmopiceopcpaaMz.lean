/- Maps that are known whole, by keys of whole numbers; a loop over one. -/
import Derived.Test.YtakmopiceopcpaaMr
import Derived.Test.YtakmopiceopcpaaRange
import Derived.Laws.IdiomRangeMap
section
namespace Go.Proofs.Ytakmopiceopcpaa
open Go.RowKit
/-- A map's entries: one for each key that M has, with its value. -/
structure MapIs (ks : List IntKind) (M : List Int → Option Value) (es : Array MapEntry) (clock : Nat) : Prop where
  ent : ∀ x ∈ es.toList, ∃ is, inKs ks is ∧ x.key = intsV ks is ∧ M is = some x.val
  all : ∀ is v, inKs ks is → M is = some v → ∃ x ∈ es.toList, x.key = intsV ks is
  key : es.toList.Pairwise fun x y => x.key ≠ y.key
  bor : es.toList.Pairwise fun x y => x.born ≠ y.born
  clk : ∀ x ∈ es.toList, x.born < clock
def MapFn (ks : List IntKind) (M : List Int → Option Value) : Obj → Prop := fun o => ∃ es clock, o = .map es clock ∧ MapIs ks M es clock
theorem mapFn_new (ks : List IntKind) : MapFn ks (fun _ => none) (.map #[] 0) := ⟨#[], 0, rfl, ⟨fun x hx => by simp at hx, fun _ _ _ h => by simp at h, by simp, by simp, fun x hx => by simp at hx⟩⟩
theorem MapFn.congr {ks : List IntKind} {M M' : List Int → Option Value} (h : ∀ is, inKs ks is → M is = M' is) {o : Obj} (ho : MapFn ks M o) : MapFn ks M' o := by
  obtain ⟨es, clock, rfl, h1⟩ := ho
  refine ⟨es, clock, rfl, fun x hx => ?_, fun is v hi hm => h1.all is v hi ((h is hi).trans hm), h1.key, h1.bor, h1.clk⟩
  obtain ⟨is, h2, h3, h4⟩ := h1.ent x hx
  exact ⟨is, h2, h3, (h is h2).symm.trans h4⟩
section
variable {P : Program}
theorem run_findAskingF {t : TypeId} {ks : List IntKind} [hk : KeyTy P t ks] {is : List Int} (hi : inKs ks is) : ∀ (es : List MapEntry) (i : Nat), (∀ x ∈ es, ∃ is, inKs ks is ∧ x.key = intsV ks is) →
    ∃ r : Option (Nat × Value), (∀ w, (Instr.findAsking t (intsV ks is) es i).run P w = .ok r w) ∧ ((r = none ∧ ∀ x ∈ es, x.key ≠ intsV ks is) ∨ ∃ j x, r = some (i + j, x.val) ∧ es[j]? = some x ∧ x.key = intsV ks is)
  | [], i, _ => ⟨none, fun w => by simp [Instr.findAsking], .inl ⟨rfl, fun x hx => by cases hx⟩⟩
  | x :: es, i, h => by
    obtain ⟨is', h1, h2⟩ := h x List.mem_cons_self
    have heq := fun w => run_equal_ints (P := P) (t := t) hi h1 w
    by_cases he : is = is'
    · subst he
      exact ⟨some (i, x.val), fun w => by simp [Instr.findAsking, h2, heq], .inr ⟨0, x, by simp, by simp, h2⟩⟩
    · obtain ⟨r, hr, hc⟩ := run_findAskingF (t := t) hi es (i + 1) (fun y hy => h y (List.mem_cons_of_mem _ hy))
      refine ⟨r, fun w => by simp [Instr.findAsking, h2, heq, he, hr], ?_⟩
      rcases hc with ⟨hc, hn⟩ | ⟨j, y, hc, hy, hyk⟩
      · refine .inl ⟨hc, fun y hy => ?_⟩
        rcases List.mem_cons.1 hy with rfl | hy
        · rw [h2]
          intro he'
          exact he (intsV_inj hi h1 he'.symm)
        · exact hn y hy
      · exact .inr ⟨j + 1, y, by rw [hc]; congr 2; omega, by simpa using hy, hyk⟩
theorem run_findKeyF {t : TypeId} {ks : List IntKind} [hk : KeyTy P t ks] {is : List Int} (hi : inKs ks is) (es : List MapEntry) (h : ∀ x ∈ es, ∃ is, inKs ks is ∧ x.key = intsV ks is) :
    ∃ r : Option (Nat × Value), (∀ w, (Instr.findKey t (intsV ks is) es).run P w = .ok r w) ∧ ((r = none ∧ ∀ x ∈ es, x.key ≠ intsV ks is) ∨ ∃ j x, r = some (j, x.val) ∧ es[j]? = some x ∧ x.key = intsV ks is) := by
  have hw := hk.wide
  cases hu : P.underlying t with
  | none => rw [hu] at hw; cases hw
  | some d =>
    cases es with
    | nil => exact ⟨none, fun w => by simp [Instr.findKey, run_underlying hu, Instr.findNow], .inl ⟨rfl, fun x hx => by cases hx⟩⟩
    | cons x es =>
      obtain ⟨r, hr, hc⟩ := run_findAskingF (P := P) (t := t) hi (x :: es) 0 h
      refine ⟨r, fun w => ?_, by simpa using hc⟩
      have hn : Instr.findNow d (intsV ks is) (x :: es) 0 = none := by
        rw [hu] at hw
        cases d <;> simp at hw <;> simp [Instr.findNow, Instr.sameNow]
      simp [Instr.findKey, run_underlying hu, hn, hr]
end
section
variable {P : Program} {r : Option Nat} {n N : Nat} {w0 : World} {L : Hp} {e : Env} {d : Option Nat} {ty : TypeId} {pos : String} {af : Array Edge} {g : Option (Nat × Bool)}
/-- A look into a map that is known whole. -/
theorem Val_lookupF {t k v : TypeId} {zv : Value} [hm : MapTy P t k v] {ks : List IntKind} [hk : KeyTy P k ks] [hz : ZeroV P v zv] {m : Nat} {M : List Int → Option Value} {is : List Int} {x y : Operand} (hx : ev e x = .map (some m)) (hy : ev e y = intsV ks is) (hi : inKs ks is) (hmem : Mem m (MapFn ks M) L) :
    Val P N w0 L e ⟨d, .lookup t x y true, ty, pos, af, g⟩ (.tuple [(M is).getD zv, .bool (M is).isSome].toArray) := by
  intro w hI
  obtain ⟨o, ho, es, clock, rfl, hM⟩ := hI.obj' hmem
  have hgk : ∀ x ∈ es.toList, ∃ is, inKs ks is ∧ x.key = intsV ks is := fun x hx => by
    obtain ⟨is, h1, h2, _⟩ := hM.ent x hx
    exact ⟨is, h1, h2⟩
  obtain ⟨r, hr, hc⟩ := run_findKeyF (P := P) (t := k) hi es.toList hgk
  have hrun : (getObj m).run P w = .ok (.map es clock) w := by simp [getObj, Sem.run, ho]
  rcases hc with ⟨rfl, hno⟩ | ⟨j, x', rfl, hj, hxk⟩
  · have : M is = none := by
      cases hq : M is with
      | none => rfl
      | some u =>
        obtain ⟨x', hx', hk'⟩ := hM.all is u hi hq
        exact absurd hk' (hno x' hx')
    simp [execOp, hx, hy, Instr.lookup, run_underlying hm.und, hrun, run_checkKey_ints (P := P) (t := k) hi, hr, run_zeroV (P := P) (t := v), this]
  · obtain ⟨is', h1, h2, h3⟩ := hM.ent x' (List.mem_of_getElem? hj)
    have : is' = is := intsV_inj h1 hi (h2.symm.trans hxk)
    subst this
    simp [execOp, hx, hy, Instr.lookup, run_underlying hm.und, hrun, run_checkKey_ints (P := P) (t := k) hi, hr, h3]
theorem pw_push {α : Type} {R : α → α → Prop} {l : List α} {a : α} (h : l.Pairwise R) (ha : ∀ x ∈ l, R x a) : (l ++ [a]).Pairwise R := by
  rw [List.pairwise_append]
  exact ⟨h, by simp, fun x hx y hy => by rw [List.mem_singleton.1 hy]; exact ha x hx⟩
theorem pw_modify {α β : Type} {f : α → β} {g : α → α} {l : List α} {j : Nat} (hg : ∀ a, l[j]? = some a → f (g a) = f a) (h : l.Pairwise fun x y => f x ≠ f y) : (l.modify j g).Pairwise fun x y => f x ≠ f y := by
  have e : (l.modify j g).map f = l.map f := by
    apply List.ext_getElem?
    intro i
    rw [List.getElem?_map, List.getElem?_map, List.getElem?_modify]
    by_cases hij : j = i
    · subst hij
      cases hl : l[j]? with
      | none => rfl
      | some a => simp [hg a hl]
    · cases l[i]? <;> simp [hij]
  have h' : (l.map f).Pairwise (· ≠ ·) := List.pairwise_map.2 h
  rw [← e] at h'
  exact List.pairwise_map.1 h'
/-- What is put into a map that is known whole. -/
theorem Turn_mapUpdateF {t k v : TypeId} [hm : MapTy P t k v] {ks : List IntKind} [hk : KeyTy P k ks] {x y z : Operand} {m : Nat} {M : List Int → Option Value} {is : List Int} {L' : Hp} {w' : Value} (hx : ev e x = .map (some m)) (hy : ev e y = intsV ks is) (hz : ev e z = w') (hi : inKs ks is)
    (hup : Up L m (MapFn ks M) (MapFn ks fun k => if k = is then some w' else M k) L') : Turn P N w0 L e ⟨d, .mapUpdate t x y z, ty, pos, af, g⟩ L' := by
  intro w hI
  obtain ⟨o, ho, es, clock, rfl, hM⟩ := hI.obj' hup.mem
  have hgk : ∀ x ∈ es.toList, ∃ is, inKs ks is ∧ x.key = intsV ks is := fun x hx => by
    obtain ⟨is, h1, h2, _⟩ := hM.ent x hx
    exact ⟨is, h1, h2⟩
  obtain ⟨r, hr, hc⟩ := run_findKeyF (P := P) (t := k) hi es.toList hgk
  have hrun : (getObj m).run P w = .ok (.map es clock) w := by simp [getObj, Sem.run, ho]
  have hset : ∀ o', (setObj m o').run P w = .ok () (w.putObj m o') := fun o' => by simp [setObj, Sem.run, ho, World.putObj]
  have hfin : ∀ o', MapFn ks (fun k => if k = is then some w' else M k) o' → ∃ w1, Result.ok (Next.skip) (w.putObj m o') = .ok .skip w1 ∧ Inv N w0 L' w1 := fun o' ho' => ⟨_, rfl, hI.putObj hup ho'⟩
  rcases hc with ⟨rfl, hno⟩ | ⟨j, x', rfl, hj, hxk⟩
  · obtain ⟨w1, h1, h2⟩ := hfin (.map (es.push { key := intsV ks is, val := w', born := clock }) (clock + 1)) ⟨_, _, rfl, by
      refine ⟨fun y hy => ?_, fun is' v hi' hm' => ?_, ?_, ?_, fun y hy => ?_⟩
      · simp only [Array.toList_push, List.mem_append, List.mem_singleton] at hy
        rcases hy with hy | rfl
        · obtain ⟨is', h1, h2, h3⟩ := hM.ent y hy
          refine ⟨is', h1, h2, ?_⟩
          rw [if_neg (fun he => hno y hy (by rw [h2, he])), h3]
        · exact ⟨is, hi, rfl, if_pos rfl⟩
      · by_cases he : is' = is
        · subst he
          exact ⟨{ key := intsV ks is', val := w', born := clock }, by simp, rfl⟩
        · rw [if_neg he] at hm'
          obtain ⟨y, hy, hyk⟩ := hM.all is' v hi' hm'
          exact ⟨y, by simp [hy], hyk⟩
      · rw [Array.toList_push]
        exact pw_push hM.key hno
      · rw [Array.toList_push]
        exact pw_push hM.bor fun y hy => Nat.ne_of_lt (hM.clk y hy)
      · simp only [Array.toList_push, List.mem_append, List.mem_singleton] at hy
        rcases hy with hy | rfl
        · exact Nat.lt_succ_of_lt (hM.clk y hy)
        · exact Nat.lt_succ_self _⟩
    exact ⟨w1, by rw [← h1]; simp [execOp, hx, hy, hz, Instr.mapUpdate, run_underlying hm.und, hrun, run_checkKey_ints (P := P) (t := k) hi, hr, hset], h2⟩
  · have hes : es[j]? = some x' := by simpa using hj
    have hmod : ∀ y ∈ (es.toList.modify j fun q => { q with key := intsV ks is, val := w' }), (y ∈ es.toList ∧ y.key ≠ intsV ks is) ∨ (y.key = intsV ks is ∧ y.val = w' ∧ y.born = x'.born) := by
      intro y hy
      obtain ⟨i, hi', he⟩ := List.getElem_of_mem hy
      rw [List.getElem_modify] at he
      have hil : i < es.toList.length := by simpa using hi'
      split at he
      · rename_i hij
        subst hij
        subst he
        refine .inr ⟨rfl, rfl, ?_⟩
        rw [List.getElem?_eq_getElem hil] at hj
        injection hj with hj
        rw [hj]
      · rename_i hij
        subst he
        refine .inl ⟨List.getElem_mem _, fun hk' => ?_⟩
        have hp := hM.key
        rw [List.pairwise_iff_getElem] at hp
        have hjl : j < es.toList.length := (List.getElem?_eq_some_iff.1 hj).1
        have hje : es.toList[j] = x' := (List.getElem?_eq_some_iff.1 hj).2
        rcases Nat.lt_or_gt_of_ne hij with h | h
        · exact hp j i hjl hil h (by rw [hje, hxk, hk'])
        · exact hp i j hil hjl h (by rw [hje, hxk, hk'])
    obtain ⟨w1, h1, h2⟩ := hfin (.map (es.modify j fun q => { q with key := intsV ks is, val := w' }) clock) ⟨_, _, rfl, by
      have hx'm := List.mem_of_getElem? hj
      refine ⟨fun y hy => ?_, fun is' v hi' hm' => ?_, ?_, ?_, fun y hy => ?_⟩
      · rw [Array.toList_modify] at hy
        rcases hmod y hy with ⟨h1, h2⟩ | ⟨h1, h2, _⟩
        · obtain ⟨is', h3, h4, h5⟩ := hM.ent y h1
          exact ⟨is', h3, h4, by rw [if_neg (fun he => h2 (by rw [h4, he])), h5]⟩
        · exact ⟨is, hi, h1, by rw [if_pos rfl, h2]⟩
      · rw [Array.toList_modify]
        by_cases he : is' = is
        · subst he
          refine ⟨{ x' with key := intsV ks is', val := w' }, ?_, rfl⟩
          rw [List.mem_iff_getElem?]
          exact ⟨j, by simp [hj]⟩
        · rw [if_neg he] at hm'
          obtain ⟨y, hy, hyk⟩ := hM.all is' v hi' hm'
          refine ⟨y, ?_, hyk⟩
          obtain ⟨i, hi2, hiy⟩ := List.getElem_of_mem hy
          rw [List.mem_iff_getElem?]
          refine ⟨i, ?_⟩
          rw [List.getElem?_modify, List.getElem?_eq_getElem hi2, hiy]
          by_cases hji : j = i
          · subst hji
            rw [List.getElem?_eq_getElem hi2, hiy] at hj
            injection hj with hj
            subst hj
            exact absurd (intsV_inj hi' hi (hyk.symm.trans hxk)) he
          · simp [hji]
      · rw [Array.toList_modify]
        exact pw_modify (f := fun q : MapEntry => q.key) (fun a ha => by
          rw [hj] at ha
          injection ha with ha
          rw [← ha, hxk]) hM.key
      · rw [Array.toList_modify]
        exact pw_modify (f := fun q : MapEntry => q.born) (fun a _ => rfl) hM.bor
      · rw [Array.toList_modify] at hy
        rcases hmod y hy with ⟨h1, _⟩ | ⟨_, _, h1⟩
        · exact hM.clk y h1
        · rw [h1]; exact hM.clk x' hx'm⟩
    exact ⟨w1, by rw [← h1]; simp [execOp, hx, hy, hz, Instr.mapUpdate, run_underlying hm.und, hrun, run_checkKey_ints (P := P) (t := k) hi, hr, hset, hes, hxk, Instr.keyThatStays, sameBits_ints], h2⟩
end
/-! ## A loop over a map that it does not write -/
/-- The iterator: it has handed out the entries of sn. -/
def IterAt (bm : Nat) (es : Array MapEntry) (clock : Nat) (sn : List MapEntry) : Obj → Prop := fun o => ∃ seen c0, o = .mapIter (some bm) clock seen c0 ∧ clock ≤ c0 ∧ (sn ≠ [] → c0 = clock) ∧ (∀ x ∈ es.toList, seen.contains x.born = true ↔ x ∈ sn) ∧ seen.back? = sn.getLast?.map (·.born)
section
variable {P : Program} {r : Option Nat} {n N : Nat} {w0 : World} {Q : Post} {ds : List Deferred} {L : Hp} {e : Env} {ops : Array Oper} {rest : List Oper} {d : Nat} {ty : TypeId} {pos : String} {af : Array Edge} {g : Option (Nat × Bool)}
theorem WP_openF {c : Code} {m : Nat} {ks : List IntKind} {M : List Int → Option Value} (h : ∀ es clock, MapIs ks M es clock → WP P r n N w0 c Q e ds ((m, Is (.map es clock)) :: L)) : WP P r n N w0 c Q e ds ((m, MapFn ks M) :: L) := by
  intro a w hs he hd hI
  obtain ⟨o, ho, es, clock, rfl, h1⟩ := hI.obj' (b := m) .here
  refine h es clock h1 a w hs he hd ⟨hI.below, hI.big, ?_, ?_⟩
  · have := hI.dis
    rw [List.pairwise_cons] at this ⊢
    exact this
  · intro x hx
    rcases List.mem_cons.1 hx with rfl | hx
    · exact ⟨(hI.own _ List.mem_cons_self).1, _, ho, rfl⟩
    · exact hI.own x (.tail _ hx)
/-- The loop begins. -/
theorem OPS_rangeF {t k v : TypeId} [hm : MapTy P t k v] {x : Operand} {m clock : Nat} {es : Array MapEntry} (hx : ev e x = .map (some m)) (hmem : Mem m (Is (.map es clock)) L) (hg : Region.wanted ⟨some d, .range t x, ty, pos, af, g⟩ (yieldE ops e) = true) (hd : Nat.blt d n = true)
    (h : ∀ b, OPS P r n N w0 ops rest Q (upd e d (.pointer (some ⟨b, 0, none⟩))) ds ((b, IterAt m es clock []) :: L)) : OPS P r n N w0 ops (⟨some d, .range t x, ty, pos, af, g⟩ :: rest) Q e ds L := by
  refine OPS_any (K := fun u L2 => ∃ b, u = .pointer (some ⟨b, 0, none⟩) ∧ L2 = (b, IterAt m es clock []) :: L) (fun w hI => ?_) hg rfl hd ?_
  · have hr := run_range_map (P := P) w t k v m es clock hm.und (hI.obj hmem)
    exact ⟨_, _, _, by simp [execOp, hx, hr], hI.alloc ⟨#[], clock, rfl, Nat.le_refl _, fun h => absurd rfl h, fun y _ => by simp, by simp⟩, w.heap.size, rfl, rfl⟩
  · rintro u L2 ⟨b, rfl, rfl⟩
    exact h b
/-- Its next step: none is left, or one that is left comes out. -/
theorem OPS_nextF {x : Operand} {b m clock : Nat} {es : Array MapEntry} {sn : List MapEntry} {F : List MapEntry → Hp} (hx : ev e x = .pointer (some ⟨b, 0, none⟩)) (hmem : Mem m (Is (.map es clock)) L) (hit : Mem b (IterAt m es clock sn) L) (hclk : ∀ x ∈ es.toList, x.born < clock) (hbor : es.toList.Pairwise fun x y => x.born ≠ y.born)
    (hup : ∀ sn', Up L b (IterAt m es clock sn) (IterAt m es clock sn') (F sn')) (hg : Region.wanted ⟨some d, .next x false, ty, pos, af, g⟩ (yieldE ops e) = true) (hd : Nat.blt d n = true)
    (hno : (∀ y ∈ es.toList, y ∈ sn) → OPS P r n N w0 ops rest Q (upd e d (.tuple [.bool false].toArray)) ds L)
    (hyes : ∀ y ∈ es.toList, y ∉ sn → OPS P r n N w0 ops rest Q (upd e d (.tuple [.bool true, y.key, y.val].toArray)) ds (F (sn ++ [y]))) : OPS P r n N w0 ops (⟨some d, .next x false, ty, pos, af, g⟩ :: rest) Q e ds L := by
  refine OPS_any (K := fun u L2 => (u = .tuple [.bool false].toArray ∧ L2 = L ∧ ∀ y ∈ es.toList, y ∈ sn) ∨ ∃ y ∈ es.toList, y ∉ sn ∧ u = .tuple [.bool true, y.key, y.val].toArray ∧ L2 = F (sn ++ [y])) (fun w hI => ?_) hg rfl hd ?_
  · obtain ⟨o, ho, seen, c0, rfl, hc0, hc1, hsn, hbk⟩ := hI.obj' hit
    have hbm := hI.obj hmem
    have hgb : (getObj b).run P w = .ok (.mapIter (some m) clock seen c0) w := by simp [getObj, Sem.run, ho]
    have hgm : (getObj m).run P w = .ok (.map es clock) w := by simp [getObj, Sem.run, hbm]
    have htest := next_test_false seen es clock c0 hclk hc0
    have hl1 : ∀ y, y ∈ (es.filter fun e => !seen.contains e.born).toList ↔ y ∈ es.toList ∧ y ∉ sn := by
      intro y
      rw [Array.toList_filter, List.mem_filter]
      constructor
      · rintro ⟨h1, h2⟩
        refine ⟨h1, fun h3 => ?_⟩
        have := (hsn y h1).2 h3
        rw [this] at h2; cases h2
      · rintro ⟨h1, h2⟩
        refine ⟨h1, ?_⟩
        cases hc : seen.contains y.born with
        | false => rfl
        | true => exact absurd ((hsn y h1).1 hc) h2
    have hold : ((es.filter fun e => !seen.contains e.born).filter fun x => decide (x.born < clock)) = es.filter fun e => !seen.contains e.born := Array.filter_eq_self.2 (fun x hx => by
      have := (hl1 x).1 (by simpa using hx)
      simpa using hclk x this.1)
    have hnew : ((es.filter fun e => !seen.contains e.born).filter fun x => decide (x.born ≥ clock)) = #[] := by
      rw [Array.filter_eq_empty_iff]
      intro x hx
      have := hclk x ((hl1 x).1 (by simpa using hx)).1
      simp
      omega
    generalize hLe : (es.filter fun e => !seen.contains e.born) = Lf at hl1 hold hnew
    by_cases h0 : Lf.size = 0
    · have hemp : Lf = #[] := Array.eq_empty_of_size_eq_zero h0
      subst hemp
      refine ⟨_, w, L, ?_, hI, .inl ⟨rfl, rfl, fun y hy => ?_⟩⟩
      · simp only [execOp, hx, Instr.next, Sem.run_bind, hgb, hgm, Result.andThen, htest, Bool.false_eq_true, if_false, hLe, hold, hnew]
        simp [choose, Sem.run, Question.forced]
      · refine Classical.byContradiction fun hc => ?_
        have := (hl1 y).2 ⟨hy, hc⟩
        simp at this
    · have hne : Lf.isEmpty = false := by simp [Array.isEmpty, h0]
      have hch : ∃ (j : Nat) (w1 : World), j < Lf.size ∧ Inv N w0 L w1 ∧ w1.heap = w.heap ∧ (choose (Question.mapNext Lf.size)).run P w = .ok j w1 := by
        by_cases hf : Lf.size ≤ 1
        · exact ⟨0, w, by omega, hI, rfl, by simp [choose, Sem.run, Question.forced, hf]⟩
        · exact ⟨_, { w with drawn := w.drawn + 1 }, Nat.mod_lt _ (by omega), hI.drew, rfl, by
            simp only [choose, Sem.run, Question.forced, decide_eq_true_eq, hf, if_false, Question.cut]
            rfl⟩
      obtain ⟨j, w1, hj, hI1, hwe, hrun⟩ := hch
      have hjm : Lf[j] ∈ Lf.toList := by simp
      obtain ⟨hje, hjn⟩ := (hl1 Lf[j]).1 hjm
      have hob1 : w1.heap[b]? = some (.mapIter (some m) clock seen c0) := by rw [hwe, ho]
      have hset : ∀ o', (setObj b o').run P w1 = .ok () (w1.putObj b o') := fun o' => by simp [setObj, Sem.run, hob1, World.putObj]
      refine ⟨_, _, F (sn ++ [Lf[j]]), ?_, hI1.putObj (hup (sn ++ [Lf[j]])) (o := .mapIter (some m) clock (seen.push Lf[j].born) clock) ⟨_, _, rfl, Nat.le_refl _, fun _ => rfl, fun y hy => ?_, by simp⟩, .inr ⟨Lf[j], hje, hjn, rfl, rfl⟩⟩
      · simp only [execOp, hx, Instr.next, Sem.run_bind, hgb, hgm, Result.andThen, htest, Bool.false_eq_true, if_false, hLe, hold, hnew, hne, Array.append_empty, Array.empty_append, Array.size_map, hrun, Array.getElem?_map, Array.getElem?_eq_getElem hj, Option.map_some, hset]
        rfl
      · rw [List.mem_append, List.mem_singleton, ← hsn y hy]
        simp only [Array.contains_push, Bool.or_eq_true, beq_iff_eq]
        refine or_congr Iff.rfl ⟨fun he => ?_, fun he => by rw [he]⟩
        refine Classical.byContradiction fun hc => ?_
        obtain ⟨i1, hi1, rfl⟩ := List.getElem_of_mem hy
        obtain ⟨i2, hi2, he2⟩ := List.getElem_of_mem hje
        have hp := hbor
        rw [List.pairwise_iff_getElem] at hp
        rw [← he2] at he hc
        rcases Nat.lt_trichotomy i1 i2 with h | h | h
        · exact hp _ _ hi1 hi2 h he
        · subst h; exact hc rfl
        · exact hp _ _ hi2 hi1 h he.symm
  · rintro u L2 (⟨rfl, rfl, h⟩ | ⟨y, hy, hn, rfl, rfl⟩)
    · exact hno h
    · exact hyes y hy hn
/-- What came out last. -/
theorem Val_entryF {o : Option Nat} {x : Operand} {b m clock : Nat} {es : Array MapEntry} {sn : List MapEntry} {y : MapEntry} (hx : ev e x = .pointer (some ⟨b, 0, none⟩)) (hmem : Mem m (Is (.map es clock)) L) (hit : Mem b (IterAt m es clock (sn ++ [y])) L) (hy : y ∈ es.toList) (hbor : es.toList.Pairwise fun x y => x.born ≠ y.born) :
    Val P N w0 L e ⟨o, .entry x, ty, pos, af, g⟩ (.tuple [y.key, y.val].toArray) := by
  intro w hI
  obtain ⟨ob, ho, seen, c0, rfl, hc0, hc1, hsn, hbk⟩ := hI.obj' hit
  have hbm := hI.obj hmem
  have hgb : (getObj b).run P w = .ok (.mapIter (some m) clock seen c0) w := by simp [getObj, Sem.run, ho]
  have hgm : (getObj m).run P w = .ok (.map es clock) w := by simp [getObj, Sem.run, hbm]
  have hc := hc1 (by simp)
  subst hc
  have hb : seen.back? = some y.born := by rw [hbk]; simp
  have hf : es.find? (·.born == y.born) = some y := by
    rw [← Array.find?_toList]
    exact find_born y es.toList (List.pairwise_map.2 hbor) hy
  simp [execOp, hx, Instr.entry, hgb, hgm, hb, hf]
/-- A map's first entries. -/
theorem Turn_insertF {o : Option Nat} {t k v : TypeId} [hm : MapTy P t k v] {ks : List IntKind} [hk : KeyTy P k ks] {x y z : Operand} {m : Nat} {M : List Int → Option Value} {is : List Int} {L' : Hp} {w' : Value} (hx : ev e x = .map (some m)) (hy : ev e y = intsV ks is) (hz : ev e z = w') (hi : inKs ks is)
    (hup : Up L m (MapFn ks M) (MapFn ks fun k => if k = is then some w' else M k) L') : Turn P N w0 L e ⟨o, .insert t x y z, ty, pos, af, g⟩ L' := fun w hI =>
  Turn_mapUpdateF (d := o) (ty := ty) (pos := pos) (af := af) (g := g) (t := t) hx hy hz hi hup w hI
end
/-- The entries that came out, and their keys. -/
structure Vis (ks : List IntKind) (es : Array MapEntry) (sn : List MapEntry) (K : List (List Int)) : Prop where
  sub : ∀ y ∈ sn, y ∈ es.toList
  bor : (sn.map (·.born)).Nodup
  key : K.map (intsV ks) = sn.map (·.key)
  nod : K.Nodup
  ks : ∀ is ∈ K, inKs ks is
theorem Vis.nil (ks : List IntKind) (es : Array MapEntry) : Vis ks es [] [] := ⟨fun _ h => (by cases h), by simp, rfl, by simp, fun _ h => (by cases h)⟩
theorem pw_eq {α β : Type} {f : α → β} : ∀ {l : List α}, (l.Pairwise fun x y => f x ≠ f y) → ∀ {x y : α}, x ∈ l → y ∈ l → f x = f y → x = y
  | [], _, _, _, hx, _, _ => by cases hx
  | a :: l, h, x, y, hx, hy, he => by
    rw [List.pairwise_cons] at h
    rcases List.mem_cons.1 hx with rfl | hx'
    · rcases List.mem_cons.1 hy with rfl | hy'
      · rfl
      · exact absurd he (h.1 y hy')
    · rcases List.mem_cons.1 hy with rfl | hy'
      · exact absurd he.symm (h.1 x hx')
      · exact pw_eq h.2 hx' hy' he
theorem Vis.step {ks : List IntKind} {M : List Int → Option Value} {es : Array MapEntry} {clock : Nat} {sn : List MapEntry} {K : List (List Int)} {y : MapEntry} {is : List Int} (hM : MapIs ks M es clock) (h : Vis ks es sn K) (hy : y ∈ es.toList) (hn : y ∉ sn) (hk : y.key = intsV ks is) (hi : inKs ks is) : Vis ks es (sn ++ [y]) (K ++ [is]) ∧ sn.length + 1 ≤ es.size := by
  have hb : (List.map (·.born) (sn ++ [y])).Nodup := by
    rw [List.map_append, List.nodup_append]
    refine ⟨h.bor, by simp, ?_⟩
    intro a ha b hb hab
    obtain ⟨z, hz, rfl⟩ := List.mem_map.1 ha
    have hb' : b = y.born := by simpa using hb
    exact hn (pw_eq hM.bor (h.sub z hz) hy (hab.trans hb') ▸ hz)
  have hs : ∀ z ∈ sn ++ [y], z ∈ es.toList := by
    intro z hz
    rcases List.mem_append.1 hz with hz | hz
    · exact h.sub z hz
    · rw [List.mem_singleton.1 hz]; exact hy
  refine ⟨⟨hs, hb, by rw [List.map_append, List.map_append, h.key, List.map_singleton, List.map_singleton, hk], ?_, ?_⟩, ?_⟩
  · rw [List.nodup_append]
    refine ⟨h.nod, by simp, ?_⟩
    intro a ha b hb' hab
    have hb2 : b = is := by simpa using hb'
    subst hb2
    subst hab
    have hm : intsV ks a ∈ sn.map (·.key) := by rw [← h.key]; exact List.mem_map.2 ⟨a, ha, rfl⟩
    obtain ⟨z, hz, hzk⟩ := List.mem_map.1 hm
    exact hn (pw_eq hM.key (h.sub z hz) hy (hzk.trans hk.symm) ▸ hz)
  · intro a ha
    rcases List.mem_append.1 ha with ha | ha
    · exact h.ks a ha
    · rw [List.mem_singleton.1 ha]; exact hi
  · have := List.Nodup.length_le_of_subset hb (l₂ := es.toList.map (·.born)) fun a ha => by
      obtain ⟨z, hz, rfl⟩ := List.mem_map.1 ha
      exact List.mem_map.2 ⟨z, hs z hz, rfl⟩
    simpa using this
theorem Vis.all {ks : List IntKind} {M : List Int → Option Value} {es : Array MapEntry} {clock : Nat} {sn : List MapEntry} {K : List (List Int)} (hM : MapIs ks M es clock) (h : Vis ks es sn K) (hall : ∀ y ∈ es.toList, y ∈ sn) {is : List Int} {v : Value} (hi : inKs ks is) (hm : M is = some v) : is ∈ K := by
  obtain ⟨y, hy, hk⟩ := hM.all is v hi hm
  have : intsV ks is ∈ K.map (intsV ks) := by
    rw [h.key, ← hk]
    exact List.mem_map.2 ⟨y, hall y hy, rfl⟩
  obtain ⟨is', h1, h2⟩ := List.mem_map.1 this
  rw [← intsV_inj (h.ks is' h1) hi h2]
  exact h1
end Go.Proofs.Ytakmopiceopcpaa
end
