/- Ways that meet again. · append to a slice that grows, wherever it stands among what is owned, of a whole slice that can be read, nil or not. · More rules: where memory lies as it lay, calls that give what is new, spans compared. · How wet each heap is in the evening of each day, by the words of the chapter. · The law functions that lay heaps anew: with a look more. · The heap laws in plain terms: both ends. · The law HeapDry: its walk. · The document's answer for heaps, in plain terms: all truths, and what they have. · The document's answer for heaps: powers, sets, what is valid. · The document's answer for heaps: all lists of numbers of spans. · The document's answer for heaps: how wet a heap is, and whether looks are right. · The document's answer for heaps: whether looks are right. -/
import Derived.Test.YtlpahkmfjpjheaaM2
import Derived.Test.YtlpahkmfjpjheaaM7
import Derived.Test.YtlpahkmfjpjheaaM8
section
namespace Go.Proofs.Ytlpahkmfjpjheaa
open Go.RowKit
section
variable {P : Program} {r : Option Nat} {n N : Nat} {w0 : World} {Q K : Post} {e : Env} {ds : List Deferred} {L : Hp}
/-- Where ways meet: what is known there (nor); any other way out is as it was (oth). -/
structure HCut {σ : Type} (ws : List Nat) (base : Env) (sl : σ → List (Nat × Value)) (Lp : σ → Hp) (J : σ → Prop) (ds : List Deferred) (K K' : Post) : Prop where
  nor : ∀ (s : σ) (e : Env) (L : Hp), Slots e (sl s) → Off ws e base → Wk L (Lp s) → J s → K' .normal e ds L
  oth : ∀ x e ds L, x ≠ .normal → K x e ds L → K' x e ds L
theorem WP_join {σ : Type} {c y : Code} (hK : HThen P r n N w0 y Q K) (ws : List Nat) (sl : σ → List (Nat × Value)) (Lp : σ → Hp) (J : σ → Prop)
    (h1 : ∀ K', HCut ws e sl Lp J ds K K' → WP P r n N w0 c K' e ds L) (h2 : ∀ s j, J s → WP P r n N w0 y Q (frame ws e (sl s) j) ds (Lp s)) : WP P r n N w0 c K e ds L := by
  refine WP_mono (h1 (fun x e' ds' L' => match x with
    | .normal => ds' = ds ∧ ∃ s, Slots e' (sl s) ∧ Off ws e' e ∧ Wk L' (Lp s) ∧ J s
    | x => K x e' ds' L') ⟨fun s e' L' a b c d => ⟨rfl, s, a, b, c, d⟩, fun x _ _ _ hx h => by cases x <;> first | exact absurd rfl hx | exact h⟩) ?_
  intro x e' ds' L' h
  cases x with
  | normal =>
    obtain ⟨rfl, s, a, b, c, d⟩ := h
    have hf : e' = frame ws e (sl s) e' := frame_intro a.look b
    rw [hf]
    exact hK.normal (WP_wk c (h2 s e' d))
  | _ => exact h
theorem HCut.ret {σ : Type} {ws : List Nat} {base : Env} {sl : σ → List (Nat × Value)} {Lp : σ → Hp} {J : σ → Prop} {ds0 : List Deferred} {K' : Post} (h : HCut ws base sl Lp J ds0 K K') (k : K .ret e ds L) : K' .ret e ds L := h.oth _ _ _ _ (by simp) k
theorem HCut.exit {σ : Type} {ws : List Nat} {base : Env} {sl : σ → List (Nat × Value)} {Lp : σ → Hp} {J : σ → Prop} {ds0 : List Deferred} {K' : Post} {id : Nat} (h : HCut ws base sl Lp J ds0 K K') (k : K (.exit id) e ds L) : K' (.exit id) e ds L := h.oth _ _ _ _ (by simp) k
theorem HCut.panic {σ : Type} {ws : List Nat} {base : Env} {sl : σ → List (Nat × Value)} {Lp : σ → Hp} {J : σ → Prop} {ds0 : List Deferred} {K' : Post} {ch : List PanicEntry} (h : HCut ws base sl Lp J ds0 K K') (k : K (.panic ch) e ds L) : K' (.panic ch) e ds L := h.oth _ _ _ _ (by simp) k
end
end Go.Proofs.Ytlpahkmfjpjheaa
end

section
namespace Go.Proofs.Ytlpahkmfjpjheaa
open Go.RowKit
section
variable {P : Program} {r : Option Nat} {n N : Nat} {w0 : World} {L : Hp} {ops : Array Oper} {rest : List Oper} {Q : Post} {e : Env} {ds : List Deferred} {ty : TypeId} {pos : String} {af : Array Edge} {g : Option (Nat × Bool)} {d : Option Nat}
theorem run_append_svN {t E : TypeId} [hE : SliceOf P t E] {g' : Bool} {sz bt : Nat} [hS : TySz P E g' sz bt] {k c : Nat} {xs : List Value} {s : Option (Nat × Nat)} {w : World} (hI : Inv N w0 (svH E sz k xs s L) w) (hs : svOk s sz k xs) :
    (Builtin.append_ #[t, t] ty #[svV s k, .slice none 0 c]).run P w = .ok (svV s k) w := by
  have hi := hS.inf
  cases hin : P.info? E with
  | none => rw [hin] at hi; cases hi
  | some i =>
    cases s with
    | none =>
      have := hs.2 rfl
      subst this
      simp [svV, Builtin.append_, run_underlying hE.und, sizeOf, typeInfo, hin, Builtin.lenOf, Builtin.firstCells]
    | some p =>
      obtain ⟨b, cap⟩ := p
      obtain ⟨_, o, _, cur, _, h1, _⟩ := hI.own _ (List.mem_cons_self)
      simp [svV, Builtin.append_, run_underlying hE.und, sizeOf, typeInfo, hin, Builtin.lenOf, Builtin.firstCells, h1, storeCells]
/-- A slice that grows, in its place. -/
inductive Grow (E : TypeId) (sz k : Nat) (xs : List Value) (s : Option (Nat × Nat)) (k' : Nat) (xs' : List Value) (s' : Option (Nat × Nat)) : Hp → Hp → Prop
  | here {L : Hp} : Grow E sz k xs s k' xs' s' (svH E sz k xs s L) (svH E sz k' xs' s' L)
  | there {x : Nat × (Obj → Prop)} {L L' : Hp} (h : Grow E sz k xs s k' xs' s' L L') : Grow E sz k xs s k' xs' s' (x :: L) (x :: L')
  | sv {E2 : TypeId} {sz2 k2 : Nat} {xs2 : List Value} {s2 : Option (Nat × Nat)} {L L' : Hp} (h : Grow E sz k xs s k' xs' s' L L') : Grow E sz k xs s k' xs' s' (svH E2 sz2 k2 xs2 s2 L) (svH E2 sz2 k2 xs2 s2 L')
  | app {X L L' : Hp} (h : Grow E sz k xs s k' xs' s' L L') : Grow E sz k xs s k' xs' s' (X ++ L) (X ++ L')
theorem svH_app {E : TypeId} {sz k : Nat} {xs : List Value} {s : Option (Nat × Nat)} {A B : Hp} : svH E sz k xs s (A ++ B) = svH E sz k xs s A ++ B := by cases s <;> rfl
theorem svH_nil {E : TypeId} {sz k : Nat} {xs : List Value} {s : Option (Nat × Nat)} {B : Hp} : svH E sz k xs s [] ++ B = svH E sz k xs s B := by cases s <;> rfl
theorem svH_perm {E : TypeId} {sz k : Nat} {xs : List Value} {s : Option (Nat × Nat)} {A B : Hp} (h : A.Perm B) : (svH E sz k xs s A).Perm (svH E sz k xs s B) := by
  cases s with
  | none => exact h
  | some p => exact h.cons _
theorem svH_mid {E : TypeId} {sz k : Nat} {xs : List Value} {s : Option (Nat × Nat)} {X L : Hp} : (X ++ svH E sz k xs s L).Perm (svH E sz k xs s (X ++ L)) := by
  cases s with
  | none => exact .refl _
  | some p => exact List.perm_middle
theorem Grow.perm {E : TypeId} {sz k : Nat} {xs : List Value} {s : Option (Nat × Nat)} {k' : Nat} {xs' : List Value} {s' : Option (Nat × Nat)} {L L' : Hp} (h : Grow E sz k xs s k' xs' s' L L') : ∃ Lb, L.Perm (svH E sz k xs s Lb) ∧ L'.Perm (svH E sz k' xs' s' Lb) := by
  induction h with
  | @here L => exact ⟨L, .refl _, .refl _⟩
  | @there x L L' h ih =>
    obtain ⟨Lb, h1, h2⟩ := ih
    exact ⟨x :: Lb, (h1.cons x).trans (svH_mid (X := [x])), (h2.cons x).trans (svH_mid (X := [x]))⟩
  | @sv E2 sz2 k2 xs2 s2 L L' h ih =>
    obtain ⟨Lb, h1, h2⟩ := ih
    refine ⟨svH E2 sz2 k2 xs2 s2 [] ++ Lb, (svH_perm h1).trans ?_, (svH_perm h2).trans ?_⟩
    · rw [← svH_nil]; exact svH_mid
    · rw [← svH_nil]; exact svH_mid
  | @app X L L' h ih =>
    obtain ⟨Lb, h1, h2⟩ := ih
    exact ⟨X ++ Lb, (h1.append_left X).trans svH_mid, (h2.append_left X).trans svH_mid⟩
theorem svV_inj {s s2 : Option (Nat × Nat)} {k : Nat} (h : svV s k = svV s2 k) : s = s2 := by
  cases s with
  | none => cases s2 with
    | none => rfl
    | some q => obtain ⟨q1, q2⟩ := q; simp [svV] at h
  | some p => cases s2 with
    | none => obtain ⟨q1, q2⟩ := p; simp [svV] at h
    | some q => obtain ⟨p1, p2⟩ := p; obtain ⟨q1, q2⟩ := q; simp [svV] at h; simp [h.1, h.2]
/-- What is appended can be read; nil has nothing. -/
theorem OPS_appendG {t E : TypeId} [hE : SliceOf P t E] {g' : Bool} {sz bt : Nat} [hS : TySz P E g' (sz + 1) bt] {z : List Value} [hZ : TyZero P E z] (hz : z.length = sz + 1)
    {x y : Operand} {k m c : Nat} {A : Option Addr} {xs news : List Value} {s : Option (Nat × Nat)} {L' : Option (Nat × Nat) → Hp} {d : Nat} (hx : ev e x = svV s k) (hy : ev e y = .slice A m c) (hL : ∀ s', Grow E (sz + 1) k xs s (k + m) (xs ++ news) s' L (L' s'))
    (hs : svOk s (sz + 1) k xs) (hn : ∀ w, Inv N w0 L w → ∀ j u, news[j]? = some u → ∃ b2 o2, A = some ⟨b2, o2, none⟩ ∧ w.cell? ⟨b2, o2 + j, none⟩ = some u) (hA : A = none → m = 0) (hl : news.length = m * (sz + 1)) (h1 : ones news = true) (h63 : k + m ≤ maxLen) (hby : (k + m) * bt ≤ 140737488355328)
    (h : ∀ s', svOk s' (sz + 1) (k + m) (xs ++ news) → OPS P r n N w0 ops rest Q (upd e d (svV s' (k + m))) ds (L' s'))
    (hg : Region.wanted ⟨some d, .call { callee := .builtin .append, args := #[x, y], argTypes := #[t, t] }, ty, pos, af, g⟩ (yieldE ops e) = true := by rfl) (hd : Nat.blt d n = true := by rfl) :
    OPS P r n N w0 ops (⟨some d, .call { callee := .builtin .append, args := #[x, y], argTypes := #[t, t] }, ty, pos, af, g⟩ :: rest) Q e ds L := by
  refine OPS_any (K := fun v L2 => ∃ s', v = svV s' (k + m) ∧ L2 = L' s' ∧ svOk s' (sz + 1) (k + m) (xs ++ news)) (fun w hI => ?_) hg rfl hd ?_
  · obtain ⟨Lb0, hp0, _⟩ := (hL s).perm
    have hI0 := hI.perm hp0
    cases A with
    | none =>
      have hm := hA rfl
      subst hm
      have hnw : news = [] := List.eq_nil_of_length_eq_zero (by rw [hl]; omega)
      subst hnw
      have hr := run_append_svN (P := P) (ty := ty) (t := t) (E := E) (c := c) hI0 hs
      obtain ⟨Lb, hp1, hp2⟩ := (hL s).perm
      refine ⟨_, w, _, by simp [execOp, resolve, invoke, builtin, hx, hy, hr], ?_, s, rfl, rfl, by simpa using hs⟩
      refine Inv.perm ?_ hp2.symm
      simp only [Nat.add_zero, List.append_nil]
      exact hI.perm hp1
    | some a =>
      have key := fun Lb (hI' : Inv N w0 (svH E (sz + 1) k xs s Lb) w) => run_append_sv (P := P) (ty := ty) (t := t) (E := E) (a := a) (m := m) (c := c) hz hI' hs hl (fun j u hj => by
        obtain ⟨b2, o2, ha, hc⟩ := hn w hI j u hj
        simp only [Option.some.injEq] at ha
        subst ha
        rw [addr_add]; exact hc) h1 h63 hby
      obtain ⟨s', w', hr, hI', hs'⟩ := key Lb0 hI0
      obtain ⟨Lb, hp1, hp2⟩ := (hL s').perm
      obtain ⟨s2, w2, hr2, hI2, hs2⟩ := key Lb (hI.perm hp1)
      have he : s2 = s' ∧ w2 = w' := by
        rw [hr] at hr2
        simp only [Result.ok.injEq] at hr2
        obtain ⟨h3, h4⟩ := hr2
        exact ⟨(svV_inj (by simpa using h3)).symm, h4.symm⟩
      obtain ⟨rfl, rfl⟩ := he
      exact ⟨_, w2, _, by simp [execOp, resolve, invoke, builtin, hx, hy, hr], hI2.perm hp2.symm, s2, rfl, rfl, hs'⟩
  · rintro v L2 ⟨s', rfl, rfl, hs'⟩
    exact h s' hs'
/-- To a slice without elements. -/
theorem OPS_append0 {t E : TypeId} [hE : SliceOf P t E] {g' : Bool} {sz bt : Nat} [hS : TySz P E g' (sz + 1) bt] {z : List Value} [hZ : TyZero P E z] (hz : z.length = sz + 1)
    {x y : Operand} {m c : Nat} {A : Option Addr} {news : List Value} {s : Option (Nat × Nat)} {L' : Option (Nat × Nat) → Hp} {d : Nat} (hx : ev e x = svV s 0) (hy : ev e y = .slice A m c) (hL : ∀ s', Grow E (sz + 1) 0 [] s m news s' L (L' s'))
    (hs : svOk s (sz + 1) 0 []) (hn : ∀ w, Inv N w0 L w → ∀ j u, news[j]? = some u → ∃ b2 o2, A = some ⟨b2, o2, none⟩ ∧ w.cell? ⟨b2, o2 + j, none⟩ = some u) (hA : A = none → m = 0) (hl : news.length = m * (sz + 1)) (h1 : ones news = true) (h63 : m ≤ maxLen) (hby : m * bt ≤ 140737488355328)
    (h : ∀ s', svOk s' (sz + 1) m news → OPS P r n N w0 ops rest Q (upd e d (svV s' m)) ds (L' s'))
    (hg : Region.wanted ⟨some d, .call { callee := .builtin .append, args := #[x, y], argTypes := #[t, t] }, ty, pos, af, g⟩ (yieldE ops e) = true := by rfl) (hd : Nat.blt d n = true := by rfl) :
    OPS P r n N w0 ops (⟨some d, .call { callee := .builtin .append, args := #[x, y], argTypes := #[t, t] }, ty, pos, af, g⟩ :: rest) Q e ds L := by
  have e1 : 0 + m = m := Nat.zero_add m
  refine OPS_appendG (L' := L') (k := 0) (xs := []) hz hx hy (fun s' => ?_) hs hn hA hl h1 (by omega) (by rw [e1]; exact hby) (fun s' hs' => ?_) hg hd
  · rw [e1]; exact hL s'
  · rw [e1] at hs' ⊢; exact h s' hs'
theorem blk_src {b T : Nat} {l : List Value} (hm : Mem b (Blk T l) L) : ∀ w, Inv N w0 L w → ∀ j u, l[j]? = some u → ∃ b2 o2, some (⟨b, 0, none⟩ : Addr) = some ⟨b2, o2, none⟩ ∧ w.cell? ⟨b2, o2 + j, none⟩ = some u := fun w hI j u hj => ⟨b, 0, rfl, blk_cells hm w hI j u hj⟩
/-- append of elements that were just laid. -/
theorem Zag {t E : TypeId} [hE : SliceOf P t E] {g' : Bool} {sz bt : Nat} [hS : TySz P E g' (sz + 1) bt] {z : List Value} [hZ : TyZero P E z] {x y : Operand} {k m c b T : Nat} {xs news : List Value} {s : Option (Nat × Nat)} {L' : Option (Nat × Nat) → Hp} {d : Nat}
    (h : ∀ s', svOk s' (sz + 1) (k + m) (xs ++ news) → OPS P r n N w0 ops rest Q (upd e d (svV s' (k + m))) ds (L' s')) (hz : z.length = sz + 1 := by rfl) (hx : ev e x = svV s k := by rfl) (hy : ev e y = .slice (some ⟨b, 0, none⟩) m c := by rfl)
    (hm : Mem b (Blk T news) L := by repeat (first | exact Mem.here | assumption | apply Mem.there | apply Mem.sv | apply Mem.app)) (hs : svOk s (sz + 1) k xs := by assumption) (hL : ∀ s', Grow E (sz + 1) k xs s (k + m) (xs ++ news) s' L (L' s') := by intro s'; repeat (first | exact Grow.here | apply Grow.there | apply Grow.sv | apply Grow.app))
    (hl : news.length = m * (sz + 1) := by rfl) (h1 : ones news = true := by rfl) (h63 : k + m ≤ maxLen := by simp only [maxLen]; omega) (hby : (k + m) * bt ≤ 140737488355328 := by omega)
    (hg : Region.wanted ⟨some d, .call { callee := .builtin .append, args := #[x, y], argTypes := #[t, t] }, ty, pos, af, g⟩ (yieldE ops e) = true := by rfl) (hd : Nat.blt d n = true := by rfl) :
    OPS P r n N w0 ops (⟨some d, .call { callee := .builtin .append, args := #[x, y], argTypes := #[t, t] }, ty, pos, af, g⟩ :: rest) Q e ds L :=
  OPS_appendG hz hx hy hL hs (blk_src hm) (fun h => by cases h) hl h1 h63 hby h hg hd
theorem OPS_perm {l : List Oper} {L2 : Hp} (k : L.Perm L2) (h : OPS P r n N w0 ops l Q e ds L2) : OPS P r n N w0 ops l Q e ds L := fun a w hs he hd hI => h a w hs he hd (hI.perm k)
/-- A new row without elements, to append to. -/
theorem Row_nil {E : TypeId} {sz : Nat} : ∀ o, Blk E [] o → Row E sz 0 0 [] o := by
  intro o ho
  unfold Blk Is at ho
  subst ho
  exact ⟨#[], rfl, Nat.le_refl _, by unfold maxLen; omega, by simp, by simp⟩
theorem Wk.appK (X : Hp) {L L' : Hp} (h : Wk L L') : Wk (X ++ L) (X ++ L') := by
  induction X with
  | nil => exact h
  | cons x X ih => exact .keep1 ih

/-! ## What can be read -/
/-- A cell that reads so as long as X is owned, whatever else is. -/
def RdX (X : Hp) (b o : Nat) (v : Value) : Prop := ∀ (N : Nat) (w0 w : World), Inv N w0 X w → w.cell? ⟨b, o, none⟩ = some v
/-- A cell that reads so here. -/
def Rd (N : Nat) (w0 : World) (L : Hp) (b o : Nat) (v : Value) : Prop := ∀ w, Inv N w0 L w → w.cell? ⟨b, o, none⟩ = some v
theorem RdX.wk {X L : Hp} {b o : Nat} {v : Value} (h : RdX X b o v) (k : Wk L X) : RdX L b o v := fun N w0 w hI => h N w0 w (hI.wk k)
theorem RdX.sub {X L : Hp} {b o : Nat} {v : Value} (h : RdX X b o v) (k : Sub X L) : RdX L b o v := fun N w0 w hI => by
  obtain ⟨L0, k⟩ := k
  refine h N w0 w ((hI.perm (k.trans List.perm_append_comm)).wk (.app L0 X))
theorem RdX.rd {X : Hp} {b o : Nat} {v : Value} (h : RdX X b o v) : Rd N w0 X b o v := fun w hI => h N w0 w hI
theorem Rd.wk {X : Hp} {b o : Nat} {v : Value} (h : Rd N w0 X b o v) (k : Wk L X) : Rd N w0 L b o v := fun w hI => h w (hI.wk k)
theorem Rd.ro {b o : Nat} {v : Value} (hb : b < N) (hv : w0.cell? ⟨b, o, none⟩ = some v) : Rd N w0 L b o v := fun _ hI => hI.cellRo hb hv
theorem Val_loadD1 {t : TypeId} {n bt : Nat} [TySz P t false n bt] {x : Operand} {b o : Nat} {v : Value} (hx : ev e x = .pointer (some ⟨b, o, none⟩)) (hv : Rd N w0 L b o v) : Val P N w0 L e ⟨d, .load t x, ty, pos, af, g⟩ v := by
  intro w hI
  simp [execOp, hx, Instr.loadAt, Instr.sureAddr, run_loadVar1 (hv w hI)]
theorem Val_loadDN {t : TypeId} {n bt : Nat} [TySz P t true n bt] {x : Operand} {b o : Nat} {vs : List Value} (hx : ev e x = .pointer (some ⟨b, o, none⟩)) (hv : ∀ j v, vs[j]? = some v → Rd N w0 L b (o + j) v) (hl : vs.length = n) : Val P N w0 L e ⟨d, .load t x, ty, pos, af, g⟩ (.agg vs.toArray) := by
  intro w hI
  simp [execOp, hx, Instr.loadAt, Instr.sureAddr, run_loadVarN hl (fun j hj => by
    have hj' : j < vs.length := by omega
    rw [addr_add, List.getElem?_eq_getElem hj']; exact hv j _ (List.getElem?_eq_getElem hj') w hI)]
end
end Go.Proofs.Ytlpahkmfjpjheaa
end

section
namespace Go.Proofs.Ytlpahkmfjpjheaa
open Go.RowKit
section
variable {P : Program} {r : Option Nat} {n N : Nat} {w0 : World} {L B : Hp} {e : Env} {ds : List Deferred} {Q : Post} {d : Option Nat} {ty : TypeId} {pos : String} {af : Array Edge} {g : Option (Nat × Bool)}
theorem SlAt.now {A : Option Addr} {sz : Nat} {rows : List (List Value)} (h : SlAt N w0 A sz rows) {w : World} (hI : Inv N w0 L w) : SlAt w.heap.size w A sz rows := by
  intro k hk
  obtain ⟨b, o, h1, h2, h3⟩ := h k hk
  exact ⟨b, o, h1, Nat.lt_of_lt_of_le h2 hI.big, fun j v hj => hI.cellRo h2 (h3 j v hj)⟩
/-- The rows of a slice that grew. -/
theorem sl_sv {E : TypeId} {sz k : Nat} {xs : List Value} {s : Option (Nat × Nat)} (hz : 0 < sz) (hs : svOk s sz k xs) : ∃ A c, svV s k = .slice A k c ∧ ∀ {N : Nat} {w0 : World} {L : Hp} {w : World} {rows : List (List Value)}, Inv N w0 (svH E sz k xs s L) w → xs = rows.flatten → (∀ r ∈ rows, r.length = sz) → SlAt w.heap.size w A sz rows := by
  obtain ⟨A, c, h1, h2⟩ := sv_slice (E := E) hs
  refine ⟨A, c, h1, fun {N w0 L w rows} hI hx hr i hi => ?_⟩
  have hj : ∀ j v, rows[i][j]? = some v → xs[i * sz + j]? = some v := by
    intro j v hj
    have hj2 : j < sz := by
      have := (List.getElem?_eq_some_iff.1 hj).1
      rw [hr _ (List.getElem_mem hi)] at this
      exact this
    rw [hx, flat_get rows i j hi hr hj2]
    exact hj
  obtain ⟨v0, hv0⟩ : ∃ v, rows[i][0]? = some v := ⟨_, List.getElem?_eq_getElem (by rw [hr _ (List.getElem_mem hi)]; omega)⟩
  obtain ⟨b, hA, hb, _⟩ := h2 hI _ _ (hj 0 v0 hv0)
  refine ⟨b, 0, hA, hb, fun j v hjv => ?_⟩
  obtain ⟨b', hA', _, hc⟩ := h2 hI _ _ (hj j v hjv)
  rw [hA] at hA'
  simp only [Option.some.injEq, Addr.mk.injEq, and_true] at hA'
  rw [Nat.zero_add, hA']; exact hc
theorem Inv.on2 {w w' : World} {X : Hp} (h : Inv N w0 L w) (h' : Inv w.heap.size w X w') : Inv N w0 (X ++ L) w' := by
  have h1 := h.on h'
  refine ⟨h1.below, h1.big, ?_, ?_⟩
  · rw [List.pairwise_append]
    refine ⟨h'.dis, h.dis, fun x hx y hy => ?_⟩
    have := (h'.own x hx).1
    have := h.lt hy
    omega
  · intro x hx
    rcases List.mem_append.1 hx with hx | hx
    · obtain ⟨h2, h3⟩ := h'.own x hx
      exact ⟨Nat.le_trans h.big h2, h3⟩
    · exact h1.own x hx
/-- A call that is known from what lies there now, with what it lays anew. -/
theorem Tri.re2 {f : FuncId} {args : Array Value} {K : Value → Hp → Prop} (h : ∀ w, Inv N w0 L w → Tri P w.heap.size w [] f args fun x L' => ∃ v, x = .returned v ∧ ∃ X, L' = X ++ [] ∧ K v X) : Tri P N w0 L f args fun x L' => ∃ v, x = .returned v ∧ ∃ X, L' = X ++ L ∧ K v X := by
  intro w hI
  refine (h w hI w hI.at_).mono ?_
  rintro x w' ⟨L', hI', v, rfl, X, rfl, hK⟩
  rw [List.append_nil] at hI'
  exact ⟨X ++ L, hI.on2 hI', v, rfl, X, rfl, hK⟩
/-- Ways meet: what is owned besides is as it was. -/
theorem WP_joinL {σ : Type} {c y : Code} {K : Post} (hK : HThen P r n N w0 y Q K) (ws : List Nat) (sl : σ → List (Nat × Value)) (X : σ → Hp) (J : σ → Prop)
    (h1 : ∀ K', HCut ws e sl (fun s => X s ++ L) J ds K K' → WP P r n N w0 c K' e ds L) (h2 : ∀ s j, J s → WP P r n N w0 y Q (frame ws e (sl s) j) ds (X s ++ L)) : WP P r n N w0 c K e ds L := WP_join hK ws sl _ J h1 h2
/-- Ways meet at the end of what stands inside. -/
theorem WP_joinQ {σ : Type} {c : Code} (ws : List Nat) (sl : σ → List (Nat × Value)) (Lp : σ → Hp) (J : σ → Prop)
    (h1 : ∀ K', HCut ws e sl Lp J ds Q K' → WP P r n N w0 c K' e ds L) (h2 : ∀ s j L', J s → Wk L' (Lp s) → Q .normal (frame ws e (sl s) j) ds L') : WP P r n N w0 c Q e ds L := by
  refine WP_mono (h1 (fun x e' ds' L' => match x with
    | .normal => ds' = ds ∧ ∃ s, Slots e' (sl s) ∧ Off ws e' e ∧ Wk L' (Lp s) ∧ J s
    | x => Q x e' ds' L') ⟨fun s e' L' a b c d => ⟨rfl, s, a, b, c, d⟩, fun x _ _ _ hx h => by cases x <;> first | exact absurd rfl hx | exact h⟩) ?_
  intro x e' ds' L' h
  cases x with
  | normal =>
    obtain ⟨rfl, s, a, b, c, d⟩ := h
    have hf : e' = frame ws e (sl s) e' := frame_intro a.look b
    rw [hf]
    exact h2 s e' L' d c
  | _ => exact h
/-- One block, wherever it stands. -/
inductive PickH (x : Nat × (Obj → Prop)) : Hp → Hp → Prop
  | here {L : Hp} : PickH x (x :: L) L
  | there {y : Nat × (Obj → Prop)} {L L' : Hp} (h : PickH x L L') : PickH x (y :: L) (y :: L')
  | sv {E sz k : Nat} {xs : List Value} {s : Option (Nat × Nat)} {L L' : Hp} (h : PickH x L L') : PickH x (svH E sz k xs s L) (svH E sz k xs s L')
  | app {X L L' : Hp} (h : PickH x L L') : PickH x (X ++ L) (X ++ L')
theorem PickH.perm {x : Nat × (Obj → Prop)} {L L' : Hp} (h : PickH x L L') : L.Perm (x :: L') := by
  induction h with
  | here => exact .refl _
  | @there y L L' h ih => exact (ih.cons y).trans (.swap _ _ _)
  | @sv E sz k xs s L L' h ih =>
    refine (svH_perm ih).trans ?_
    cases s with
    | none => exact .refl _
    | some p => exact .swap _ _ _
  | @app X L L' h ih => exact (ih.append_left X).trans List.perm_middle
theorem Sub.pickH {x : Nat × (Obj → Prop)} {L' : Hp} (h : PickH x L L') (k : Sub B L') : Sub (x :: B) L := let ⟨L0, k⟩ := k; ⟨L0, h.perm.trans (k.cons x)⟩
theorem Sub.nil : Sub [] L := ⟨L, .refl _⟩
theorem Sub.svK {E sz k : Nat} {xs : List Value} {s : Option (Nat × Nat)} (h : Sub B L) : Sub (svH E sz k xs s B) (svH E sz k xs s L) := by
  obtain ⟨L0, h⟩ := h
  refine ⟨L0, (svH_perm h).trans ?_⟩
  rw [svH_app]
theorem WP_sub {c : Code} (hS : Sub B L) (h : WP P r n N w0 c Q e ds B) : WP P r n N w0 c Q e ds L := by
  obtain ⟨L0, hp⟩ := hS
  exact fun a w hs he hd hI => h a w hs he hd ((hI.perm (hp.trans List.perm_append_comm)).wk (.app L0 B))
/-- Ways meet, what is owned in any order. -/
structure HCutS {σ : Type} (ws : List Nat) (base : Env) (sl : σ → List (Nat × Value)) (Lp : σ → Hp) (J : σ → Prop) (ds : List Deferred) (K K' : Post) : Prop where
  nor : ∀ (s : σ) (e : Env) (L : Hp), Slots e (sl s) → Off ws e base → Sub (Lp s) L → J s → K' .normal e ds L
  oth : ∀ x e ds L, x ≠ .normal → K x e ds L → K' x e ds L
theorem WP_joinS {σ : Type} {c y : Code} {K : Post} (hK : HThen P r n N w0 y Q K) (ws : List Nat) (sl : σ → List (Nat × Value)) (Lp : σ → Hp) (J : σ → Prop)
    (h1 : ∀ K', HCutS ws e sl Lp J ds K K' → WP P r n N w0 c K' e ds L) (h2 : ∀ s j, J s → WP P r n N w0 y Q (frame ws e (sl s) j) ds (Lp s)) : WP P r n N w0 c K e ds L := by
  refine WP_mono (h1 (fun x e' ds' L' => match x with
    | .normal => ds' = ds ∧ ∃ s, Slots e' (sl s) ∧ Off ws e' e ∧ Sub (Lp s) L' ∧ J s
    | x => K x e' ds' L') ⟨fun s e' L' a b c d => ⟨rfl, s, a, b, c, d⟩, fun x _ _ _ hx h => by cases x <;> first | exact absurd rfl hx | exact h⟩) ?_
  intro x e' ds' L' h
  cases x with
  | normal =>
    obtain ⟨rfl, s, a, b, c, d⟩ := h
    have hf : e' = frame ws e (sl s) e' := frame_intro a.look b
    rw [hf]
    exact hK.normal (WP_sub c (h2 s e' d))
  | _ => exact h
/-- A region whose order is left open: what comes ahead of what writes reads B. -/
theorem WP_drawnS {id : Nat} {l : List Oper} (T E A fl : List Nat) {k k2 : Nat} (hS : Sub B L) (hfl : (T.all fun i => match l[i]? with | some o => (match o.dst with | some t => fl.contains t | none => true) | none => true) = true) (hm : P.follows .mixedOrders = true) (hc : drawChk l.toArray T E A = true) (hf : floatChk n l.toArray T E A = true) (hk : l.length = E.length + A.length + (k + k2))
    (h : EWalk P n N w0 l.toArray [] B E e fun ef => AWalk P n l.toArray A ef ef fun e' A' => AnyC P r n N w0 l.toArray Q ds fl B T k2 k (doneOf l.length (E ++ A)) e' (A' ++ L)) : WP P r n N w0 (.region id l.toArray true) Q e ds L := by
  obtain ⟨L0, hp⟩ := hS
  refine WP_drawnC L0 B T E A fl (hp.trans List.perm_append_comm) hfl hm hc hf hk ?_
  obtain ⟨ef, h1, S, h2, h3, h4⟩ := h
  refine ⟨ef, h1, S, h2, h3, h4.mono fun e' A' h5 => h5.perm ?_⟩
  exact List.Perm.append_left A' (hp.trans List.perm_append_comm).symm
/-! ## A row that grew is written -/
theorem setL_take : ∀ (vs l : List Value) (o m : Nat), o + vs.length ≤ m → (setL l o vs).take m = setL (l.take m) o vs
  | [], _, _, _, _ => rfl
  | v :: vs, l, o, m, h => by
    simp only [List.length_cons] at h
    simp only [setL]
    rw [setL_take vs _ (o + 1) m (by omega), List.take_set]
theorem Row.len {E : TypeId} {sz k cap : Nat} {xs : List Value} {o : Obj} (h : Row E sz k cap xs o) : xs.length = k * sz := by
  obtain ⟨cur, _, h1, _, h2, h3⟩ := h
  rw [← h3, List.length_take, Array.length_toList, h2]
  exact Nat.min_eq_left (Nat.mul_le_mul_right sz h1)
theorem Turn_storeRow {t : TypeId} {g' : Bool} {n bt : Nat} [TySz P t g' n bt] {x y : Operand} {b o : Nat} {E : TypeId} {sz k cap : Nat} {v : Value} {xs vs xs' : List Value} {L' : Hp} (hx : ev e x = .pointer (some ⟨b, o, none⟩)) (hy : ev e y = v) (hu : Up L b (Row E sz k cap xs) (Row E sz k cap xs') L')
    (hv : v.cells = vs.toArray) (hl : o + vs.length ≤ k * sz) (hp : setL xs o vs = xs') (hn : vs.length = n) (h1 : ones vs = true) :
    Turn P N w0 L e ⟨d, .store t x y, ty, pos, af, g⟩ L' := by
  intro w hI
  obtain ⟨ob, hob, cur, rfl, hc1, hc2, hc3, hc4⟩ := hI.obj' hu.mem
  have hb : w.heap[b]? = some (.cells cur.toList.toArray E (0, 0)) := by simpa using hob
  have hle : k * sz ≤ cur.toList.length := by rw [Array.length_toList, hc3]; exact Nat.mul_le_mul_right sz hc1
  obtain ⟨w', hr, h2, h3, h4, h5, h6, h7⟩ := run_storeVar (P := P) (w := w) (t := t) (T := E) (l := cur.toList) hv hn h1 (Nat.le_trans hl hle) hb
  refine ⟨w', by simp [execOp, hx, hy, Instr.storeAt, Instr.sureAddr, hr], hI.turn hu h3 h4 h5 (by omega) (fun k _ hk => h7 k hk) ⟨_, h2, _, rfl, hc1, hc2, ?_, ?_⟩⟩
  · rw [List.size_toArray, setL_length, Array.length_toList, hc3]
  · show (setL cur.toList o vs).take (k * sz) = xs'
    rw [setL_take _ _ _ _ hl, hc4, hp]
/-- The rows of a row that grew. -/
theorem sl_row {E sz k cap b : Nat} {xs : List Value} {rows : List (List Value)} {w : World} (hI : Inv N w0 L w) (hm : Mem b (Row E sz k cap xs) L) (hx : xs = rows.flatten) (hr : ∀ r ∈ rows, r.length = sz) : SlAt w.heap.size w (some ⟨b, 0, none⟩) sz rows := by
  obtain ⟨ob, hob, cur, rfl, hc1, hc2, hc3, hc4⟩ := hI.obj' hm
  intro i hi
  refine ⟨b, 0, rfl, (Array.getElem?_eq_some_iff.1 hob).1, fun j v hj => ?_⟩
  have hj2 : j < sz := by
    have := (List.getElem?_eq_some_iff.1 hj).1
    rw [hr _ (List.getElem_mem hi)] at this
    exact this
  have hg := flat_get rows i j hi hr hj2
  rw [← hx, hj] at hg
  rw [Nat.zero_add, cell_of_row w b _ cur E (0, 0) hob]
  have h5 : (cur.toList.take (k * sz))[i * sz + j]? = some v := by rw [hc4]; exact hg
  rw [List.getElem?_take] at h5
  split at h5
  · simpa using h5
  · cases h5
/-- One of the rows is another. -/
theorem setL_row {sz : Nat} : ∀ (rows : List (List Value)) (i : Nat) (r : List Value), (∀ q ∈ rows, q.length = sz) → r.length = sz → i < rows.length → setL rows.flatten (i * sz) r = (rows.set i r).flatten
  | [], _, _, _, _, hi => by simp at hi
  | q :: rows, 0, r, hq, hr, _ => by
    have h1 := hq q (.head _)
    rw [List.set_cons_zero, List.flatten_cons, List.flatten_cons, Nat.zero_mul]
    have key : ∀ (r q l : List Value), r.length = q.length → setL (q ++ l) 0 r = r ++ l := by
      intro r
      induction r with
      | nil => intro q l h; rw [List.eq_nil_of_length_eq_zero (Eq.symm (by simpa using h)) (l := q)]; rfl
      | cons x r ih =>
        intro q l h
        cases q with
        | nil => simp at h
        | cons y q =>
          simp only [List.cons_append, setL, List.set_cons_zero]
          rw [setL_cons, ih q l (by simpa using h)]
    exact key r q _ (by omega)
  | q :: rows, i + 1, r, hq, hr, hi => by
    have h1 := hq q (.head _)
    have ih := setL_row rows i r (fun x hx => hq x (.tail _ hx)) hr (by simpa using hi)
    rw [List.set_cons_succ, List.flatten_cons, List.flatten_cons, ← ih]
    have key : ∀ (q l : List Value) (o : Nat), setL (q ++ l) (o + q.length) r = q ++ setL l o r := by
      intro q
      induction q with
      | nil => intro l o; rfl
      | cons y q ih => intro l o; rw [List.cons_append, List.length_cons, ← Nat.add_assoc, setL_cons, ih]; rfl
    have := key q rows.flatten (i * sz)
    rw [h1] at this
    rw [Nat.succ_mul]
    exact this
/-- '[]T{}': a row without elements, to append to. -/
theorem New_buildSlice0 {t E : TypeId} [hs : SliceOf P t E] {g' : Bool} {sz bt : Nat} [TySz P E g' sz bt] : New P e ⟨d, .buildSlice t 0 #[], ty, pos, af, g⟩ (.cells #[] E (0, 0)) (fun b => svV (some (b, 0)) 0) := by
  intro w
  simp only [execOp, Instr.buildSlice, Sem.run_bind, run_underlying hs.und, Result.andThen_ok, run_sizeOf (P := P) (t := E)]
  have h0 : Array.range 0 = (#[] : Array Nat) := by apply Array.ext'; simp
  simp [newRow, newObj, Sem.run, Instr.fill, svV, h0]
theorem row0 {E : TypeId} {sz : Nat} : Row E sz 0 0 [] (.cells #[] E (0, 0)) := ⟨#[], rfl, Nat.le_refl _, by unfold maxLen; omega, by simp, by simp⟩
theorem svOk0 {b sz : Nat} : svOk (some (b, 0)) sz 0 [] := ⟨by simp, fun h => by cases h⟩
theorem Zbs {ops : Array Oper} {rest : List Oper} {t E : TypeId} [hs : SliceOf P t E] {g' : Bool} {sz bt : Nat} [TySz P E g' sz bt] {d : Nat} (h : ∀ b, OPS P r n N w0 ops rest Q (upd e d (svV (some (b, 0)) 0)) ds (svH E sz 0 [] (some (b, 0)) L))
    (hg : Region.wanted ⟨some d, .buildSlice t 0 #[], ty, pos, af, g⟩ (yieldE ops e) = true := by rfl) (hd : Nat.blt d n = true := by rfl) : OPS P r n N w0 ops (⟨some d, .buildSlice t 0 #[], ty, pos, af, g⟩ :: rest) Q e ds L :=
  OPS_newS (row0 (E := E) (sz := sz)) (New_buildSlice0 (sz := sz) (bt := bt) (g' := g')) hg rfl hd h
theorem inKw {a b : Int} (ha : -1000000 ≤ a ∧ a ≤ 1000000) (hb : -1000000 ≤ b ∧ b ≤ 1000000) : inKs [.i64, .i64] [a, b] := by
  refine ⟨rfl, ?_⟩
  intro p hp
  simp only [List.zip_cons_cons, List.zip_nil_right, List.mem_cons, List.not_mem_nil, or_false] at hp
  rcases hp with rfl | rfl <;> (simp [Lit.wf, IntKind.min, IntKind.max, IntKind.bits, IntKind.signed]; omega)
section
variable {x y : Operand} {t t' : TypeId} {ks : List IntKind} [hk : KeyTy P t ks] {a b : List Int}
theorem Val_neqIF (hx : ev e x = intsV ks a) (hy : ev e y = intsV ks b) (h : a = b) (ha : inKs ks a) (hb : inKs ks b) : Val P N w0 L e ⟨d, .binOp .neq t x y t', ty, pos, af, g⟩ (.bool false) := by
  have := Val_neqI (P := P) (N := N) (w0 := w0) (L := L) (d := d) (t := t) (t' := t') (ty := ty) (pos := pos) (af := af) (g := g) hx hy rfl rfl ha hb
  rwa [decide_eq_true h] at this
theorem Val_neqIT (hx : ev e x = intsV ks a) (hy : ev e y = intsV ks b) (h : a ≠ b) (ha : inKs ks a) (hb : inKs ks b) : Val P N w0 L e ⟨d, .binOp .neq t x y t', ty, pos, af, g⟩ (.bool true) := by
  have := Val_neqI (P := P) (N := N) (w0 := w0) (L := L) (d := d) (t := t) (t' := t') (ty := ty) (pos := pos) (af := af) (g := g) hx hy rfl rfl ha hb
  rwa [decide_eq_false h] at this
end
/-- Spans that are the same. -/
theorem Val_neqS {x y : Operand} {t t' : TypeId} [hk : KeyTy P t [.i64, .i64]] {a b a' b' : Int} (hx : ev e x = .agg [.int .i64 a, .int .i64 b].toArray) (hy : ev e y = .agg [.int .i64 a', .int .i64 b'].toArray) (h1 : a = a') (h2 : b = b') (ha : -1000000 ≤ a ∧ a ≤ 1000000) (hb : -1000000 ≤ b ∧ b ≤ 1000000) : Val P N w0 L e ⟨d, .binOp .neq t x y t', ty, pos, af, g⟩ (.bool false) := by
  subst h1 h2
  exact Val_neqIF (ks := [.i64, .i64]) (a := [a, b]) (b := [a, b]) hx hy rfl (inKw ha hb) (inKw ha hb)
theorem Val_neqU {x y : Operand} {t t' : TypeId} [hk : KeyTy P t [.i64, .i64]] {a b a' b' : Int} (hx : ev e x = .agg [.int .i64 a, .int .i64 b].toArray) (hy : ev e y = .agg [.int .i64 a', .int .i64 b'].toArray) (h1 : a ≠ a' ∨ b ≠ b') (ha : -1000000 ≤ a ∧ a ≤ 1000000) (hb : -1000000 ≤ b ∧ b ≤ 1000000) (ha' : -1000000 ≤ a' ∧ a' ≤ 1000000) (hb' : -1000000 ≤ b' ∧ b' ≤ 1000000) : Val P N w0 L e ⟨d, .binOp .neq t x y t', ty, pos, af, g⟩ (.bool true) :=
  Val_neqIT (ks := [.i64, .i64]) (a := [a, b]) (b := [a', b']) hx hy (by intro h; simp only [List.cons.injEq, and_true] at h; omega) (inKw ha hb) (inKw ha' hb')
theorem Val_remE2 {x y : Operand} {t t' : TypeId} {a b c : Nat} (hc : a % b = c) (hb : 0 < b) (hx : ev e x = .int .i64 (a : Int)) (hy : ev e y = .int .i64 (b : Int)) : Val P N w0 L e ⟨d, .binOp .rem t x y t', ty, pos, af, g⟩ (.int .i64 (c : Int)) := by
  have := Val_rem (P := P) (N := N) (w0 := w0) (L := L) (d := d) (ty := ty) (pos := pos) (af := af) (g := g) (t := t) (t' := t') hx hy (by omega)
  have e : ((a : Int).tmod b) = (c : Int) := by rw [Int.tmod_eq_emod_of_nonneg (by omega), ← hc]; omega
  rwa [e] at this
theorem Val_quoE {x y : Operand} {t t' : TypeId} {a b c : Nat} (hc : a / b = c) (hb : 0 < b) (ha : a ≤ 1000000) (hx : ev e x = .int .i64 (a : Int)) (hy : ev e y = .int .i64 (b : Int)) : Val P N w0 L e ⟨d, .binOp .quo t x y t', ty, pos, af, g⟩ (.int .i64 (c : Int)) := by
  have h1 : ((a : Int).tdiv b) = (c : Int) := by rw [Int.tdiv_eq_ediv_of_nonneg (by omega), ← hc]; omega
  have h2 : c ≤ a := by rw [← hc]; exact Nat.div_le_self a b
  have := Val_quo (P := P) (N := N) (w0 := w0) (L := L) (d := d) (ty := ty) (pos := pos) (af := af) (g := g) (t := t) (t' := t') hx hy (by omega) (by rw [h1]; exact InK_i64 (by omega) (by omega))
  rwa [h1] at this
end
end Go.Proofs.Ytlpahkmfjpjheaa
end

section
namespace Go.Proofs.Ytlpahkmfjpjheaa
open Go.RowKit
def dryOf (h : Hv) (place : Int) : Int := if place = 0 then h.d0 else if place = 1 then h.d1 else h.d2
def wetN (h : Hv) (place n r : Int) : Int := max 0 (min 100 ((if r = 0 then n - dryOf h place else n) + r))
/-- The wetness of a heap in the evenings of days. -/
def wetF (h : Hv) (place : Int) : Int → List Int → List Int
  | _, [] => []
  | n, r :: rs => wetN h place n r :: wetF h place (wetN h place n r) rs
theorem wetF_len (h : Hv) (place : Int) : ∀ (rs : List Int) (n : Int), (wetF h place n rs).length = rs.length
  | [], _ => rfl
  | _ :: rs, n => by rw [wetF, List.length_cons, wetF_len h place rs, List.length_cons]
theorem wetF_bd (h : Hv) (place : Int) : ∀ (rs : List Int) (n : Int), ∀ x ∈ wetF h place n rs, 0 ≤ x ∧ x ≤ 100
  | [], _, x, hx => by cases hx
  | r :: rs, n, x, hx => by
    rcases List.mem_cons.1 hx with h1 | h1
    · rw [h1]; unfold wetN; omega
    · exact wetF_bd h place rs _ x h1
def lastN (h : Hv) (place n : Int) (rs : List Int) : Int := rs.foldl (wetN h place) n
theorem wetF_snoc (h : Hv) (place : Int) : ∀ (rs : List Int) (n r : Int), wetF h place n (rs ++ [r]) = wetF h place n rs ++ [wetN h place (lastN h place n rs) r]
  | [], _, _ => rfl
  | q :: rs, n, r => by simp only [List.cons_append, wetF, wetF_snoc h place rs, lastN, List.foldl_cons]
theorem lastN_snoc (h : Hv) (place n : Int) (rs : List Int) (r : Int) : lastN h place n (rs ++ [r]) = wetN h place (lastN h place n rs) r := by simp [lastN]
theorem wetN_bd (h : Hv) (place n r : Int) : 0 ≤ wetN h place n r ∧ wetN h place n r ≤ 100 := by unfold wetN; omega
theorem lastN_bd (h : Hv) (place : Int) {n : Int} (hn : 0 ≤ n ∧ n ≤ 100) : ∀ rs : List Int, 0 ≤ lastN h place n rs ∧ lastN h place n rs ≤ 100
  | [] => hn
  | r :: rs => lastN_bd h place (wetN_bd h place n r) rs
/-- A list of numbers, read. -/
def RdL (X : Hp) (v : Value) (row : List Int) : Prop := ∃ A c, v = .slice A row.length c ∧ ∀ (j : Nat) (x : Int), row[j]? = some x → ∃ b, A = some ⟨b, 0, none⟩ ∧ RdX X b j (.int .i64 x)
/-- A list of lists of numbers. -/
def RdLL (X : Hp) (v : Value) (rows : List (List Int)) : Prop := ∃ A c, v = .slice A rows.length c ∧ ∀ (i : Nat) (row : List Int), rows[i]? = some row → ∃ b u, A = some ⟨b, 0, none⟩ ∧ RdX X b i u ∧ RdL X u row
theorem RdL.wk {X L : Hp} {v : Value} {row : List Int} (h : RdL X v row) (k : Wk L X) : RdL L v row := by
  obtain ⟨A, c, rfl, h⟩ := h
  exact ⟨A, c, rfl, fun j x hj => let ⟨b, h1, h2⟩ := h j x hj; ⟨b, h1, h2.wk k⟩⟩
theorem RdLL.wk {X L : Hp} {v : Value} {rows : List (List Int)} (h : RdLL X v rows) (k : Wk L X) : RdLL L v rows := by
  obtain ⟨A, c, rfl, h⟩ := h
  exact ⟨A, c, rfl, fun j x hj => let ⟨b, u, h1, h2, h3⟩ := h j x hj; ⟨b, u, h1, h2.wk k, h3.wk k⟩⟩
theorem RdX.perm {X L : Hp} {b o : Nat} {v : Value} (h : RdX X b o v) (k : L.Perm X) : RdX L b o v := fun N w0 w hI => h N w0 w (hI.perm k)
theorem RdL.perm {X L : Hp} {v : Value} {row : List Int} (h : RdL X v row) (k : L.Perm X) : RdL L v row := by
  obtain ⟨A, c, rfl, h⟩ := h
  exact ⟨A, c, rfl, fun j x hj => let ⟨b, h1, h2⟩ := h j x hj; ⟨b, h1, h2.perm k⟩⟩
theorem RdLL.perm {X L : Hp} {v : Value} {rows : List (List Int)} (h : RdLL X v rows) (k : L.Perm X) : RdLL L v rows := by
  obtain ⟨A, c, rfl, h⟩ := h
  exact ⟨A, c, rfl, fun j x hj => let ⟨b, u, h1, h2, h3⟩ := h j x hj; ⟨b, u, h1, h2.perm k, h3.perm k⟩⟩
def intL (row : List Int) : List Value := row.map fun x => .int .i64 x
theorem intL_flat (l : List Int) : intL l = (l.map fun x => [Value.int .i64 x]).flatten := by
  unfold intL
  induction l with
  | nil => rfl
  | cons x l ih => rw [List.map_cons, List.map_cons, List.flatten_cons, ih]; rfl
theorem one_len (l : List Int) : ∀ r ∈ l.map (fun x => [Value.int .i64 x]), r.length = 1 := by
  intro r hr
  obtain ⟨x, _, rfl⟩ := List.mem_map.1 hr
  rfl
/-- A list of numbers that grew. -/
theorem RdL.sv {E : TypeId} {s : Option (Nat × Nat)} {row : List Int} {L : Hp} (hs : svOk s 1 row.length (intL row)) : RdL (svH E 1 row.length (intL row) s L) (svV s row.length) row := by
  obtain ⟨A, c, h1, h2⟩ := sv_slice (E := E) hs
  refine ⟨A, c, h1, fun j x hj => ?_⟩
  have hj' : (intL row)[j]? = some (.int .i64 x) := by unfold intL; rw [List.getElem?_map, hj]; rfl
  cases s with
  | none =>
    have := hs.2 rfl
    rw [List.eq_nil_of_length_eq_zero this] at hj; simp at hj
  | some p =>
    obtain ⟨b, cap⟩ := p
    simp only [svV, Value.slice.injEq] at h1
    refine ⟨b, h1.1.symm, fun N w0 w hI => ?_⟩
    obtain ⟨b', hb, _, hc⟩ := h2 hI j _ hj'
    rw [← h1.1] at hb
    simp only [Option.some.injEq, Addr.mk.injEq, and_true] at hb
    rw [hb]; exact hc
/-- A list of lists that grew. -/
theorem RdLL.sv {E : TypeId} {s : Option (Nat × Nat)} {vals : List Value} {rows : List (List Int)} {X : Hp} (hs : svOk s 1 rows.length vals) (h : ∀ (i : Nat) (row : List Int), rows[i]? = some row → ∃ u, vals[i]? = some u ∧ RdL X u row) : RdLL (svH E 1 rows.length vals s X) (svV s rows.length) rows := by
  obtain ⟨A, c, h1, h2⟩ := sv_slice (E := E) hs
  refine ⟨A, c, h1, fun i row hi => ?_⟩
  obtain ⟨u, hu, hr⟩ := h i row hi
  cases s with
  | none =>
    have := hs.2 rfl
    rw [List.eq_nil_of_length_eq_zero this] at hi; simp at hi
  | some p =>
    obtain ⟨b, cap⟩ := p
    simp only [svV, Value.slice.injEq] at h1
    refine ⟨b, u, h1.1.symm, fun N w0 w hI => ?_, hr.wk (.drop (.refl _))⟩
    obtain ⟨b', hb, _, hc⟩ := h2 hI i _ hu
    rw [← h1.1] at hb
    simp only [Option.some.injEq, Addr.mk.injEq, and_true] at hb
    rw [hb]; exact hc
theorem SlAt.cell1 {N : Nat} {w0 : World} {A : Option Addr} {l : List Int} (h : SlAt N w0 A 1 (l.map fun x => [.int .i64 x])) (k : Nat) (hk : k < l.length) : ∃ b o, A = some ⟨b, o, none⟩ ∧ b < N ∧ w0.cell? ⟨b, o + k, none⟩ = some (.int .i64 l[k]) := by
  obtain ⟨b, o, h1, h2, h3⟩ := h k (by simpa using hk)
  refine ⟨b, o, h1, h2, ?_⟩
  have := h3 0 (.int .i64 l[k]) (by simp)
  simpa using this
theorem take_one {α : Type} {l : List α} {k : Nat} (hk : k < l.length) : l.take (k + 1) = l.take k ++ [l[k]] := List.take_succ_eq_append_getElem hk
def wetRow (h : Hv) (first rains : List Int) (i : Nat) : List Int := wetF h (tfOf h i).place (first.getD i 0) rains
def wetL (h : Hv) (first rains : List Int) : List (List Int) := (List.range h.heaps.length).map (wetRow h first rains)
theorem wetL_len (h : Hv) (first rains : List Int) : (wetL h first rains).length = h.heaps.length := by simp [wetL]
theorem wetL_get {h : Hv} {first rains : List Int} {i : Nat} (hi : i < h.heaps.length) : (wetL h first rains)[i]? = some (wetRow h first rains i) := by
  unfold wetL; rw [List.getElem?_map, List.getElem?_range hi]; rfl
end Go.Proofs.Ytlpahkmfjpjheaa
end

section
namespace Go.Proofs.Ytlpahkmfjpjheaa
open Go.RowKit
theorem flat_at {sz : Nat} (hs : 0 < sz) {rows : List (List Value)} (hr : ∀ r ∈ rows, r.length = sz) {j : Nat} {u : Value} (h : rows.flatten[j]? = some u) : ∃ hk : j / sz < rows.length, rows[j / sz][j % sz]? = some u := by
  have hl : ∀ l : List (List Value), (∀ r ∈ l, r.length = sz) → l.flatten.length = l.length * sz := by
    intro l
    induction l with
    | nil => intro _; simp
    | cons r l ih => intro h; rw [List.flatten_cons, List.length_append, ih (fun x hx => h x (.tail _ hx)), h r (.head _), List.length_cons, Nat.succ_mul, Nat.add_comm]
  have hj := (List.getElem?_eq_some_iff.1 h).1
  rw [hl rows hr] at hj
  have hk : j / sz < rows.length := Nat.div_lt_of_lt_mul (by rw [Nat.mul_comm]; exact hj)
  refine ⟨hk, ?_⟩
  have e : j = j / sz * sz + j % sz := by rw [Nat.mul_comm]; exact (Nat.div_add_mod j sz).symm
  rw [e, flat_get rows (j / sz) (j % sz) hk hr (Nat.mod_lt _ hs)] at h
  exact h
theorem SlAt.flat {M : Nat} {w : World} {A : Option Addr} {sz : Nat} {rows : List (List Value)} (hs : 0 < sz) (h : SlAt M w A sz rows) (hr : ∀ r ∈ rows, r.length = sz) : ∀ j u, rows.flatten[j]? = some u → ∃ b o, A = some ⟨b, o, none⟩ ∧ w.cell? ⟨b, o + j, none⟩ = some u := by
  intro j u hj
  obtain ⟨hk, hu⟩ := flat_at hs hr hj
  obtain ⟨b, o, h1, _, h3⟩ := h _ hk
  refine ⟨b, o, h1, ?_⟩
  have := h3 (j % sz) u hu
  rwa [Nat.add_assoc, show j / sz * sz + j % sz = j by rw [Nat.mul_comm]; exact Nat.div_add_mod j sz] at this
theorem ones_flat : ∀ {rows : List (List Value)}, (∀ r ∈ rows, ones r = true) → ones rows.flatten = true
  | [], _ => rfl
  | r :: rows, h => by
    have h1 := h r (.head _)
    have h2 := ones_flat fun x hx => h x (.tail _ hx)
    unfold ones at h1 h2 ⊢
    rw [List.flatten_cons, List.all_append, h1, h2]; rfl
theorem map_len {α : Type} {f : α → List Value} {sz : Nat} (hf : ∀ x, (f x).length = sz) (l : List α) : ∀ r ∈ l.map f, r.length = sz := by
  intro r hr
  obtain ⟨x, _, rfl⟩ := List.mem_map.1 hr
  exact hf x
theorem map_ones {α : Type} {f : α → List Value} (hf : ∀ x, ones (f x) = true) (l : List α) : ∀ r ∈ l.map f, ones r = true := by
  intro r hr
  obtain ⟨x, _, rfl⟩ := List.mem_map.1 hr
  exact hf x
theorem map_flat {α : Type} {f : α → List Value} {sz : Nat} (hf : ∀ x, (f x).length = sz) (l : List α) : ((l.map f).flatten).length = l.length * sz := by
  induction l with
  | nil => simp
  | cons x l ih => rw [List.map_cons, List.flatten_cons, List.length_append, ih, List.length_cons, hf, Nat.succ_mul, Nat.add_comm]
attribute [local irreducible] AnyO AnyB QAny QB EWalk AWalk Ev WP OPS QThen QBlock QScope QLoop QBody Val New Turn Tri Enters PostA Blk Ro
attribute [local irreducible] AnyC QC
section
variable (N : Nat) (w0 : World)
set_option maxHeartbeats 2000000 in
theorem with39_a (L : Hp) (g : Bg) (l : Lk) (hlk : ∀ w, Inv N w0 L w → SlAt w.heap.size w g.A3 4 (g.h.looks.map lkL)) (hn : g.h.looks.length ≤ 1000) (hA : g.A3 = none → g.h.looks.length = 0) : Tri Try.prog N w0 L 39 [heapV g, .agg (lkL l).toArray].toArray fun x L' =>
    ∃ s, x = .returned (.agg [.slice g.A1 g.h.heaps.length g.c1, .slice g.A2 g.h.rains.length g.c2, .int .i64 g.h.d0, .int .i64 g.h.d1, .int .i64 g.h.d2, .int .i64 g.h.limit, svV s (g.h.looks.length + 1)].toArray) ∧ svOk s 4 (g.h.looks.length + 1) ((g.h.looks.map lkL).flatten ++ lkL l) ∧ L' = svH 61 4 (g.h.looks.length + 1) ((g.h.looks.map lkL).flatten ++ lkL l) s L := by
  refine Tri.fgt ?_
  refine tri_of_WP Try.func39 rfl (n := 14) rfl (by simp) ?_
  have hsrc : ∀ L', Wk L' L → ∀ w, Inv N w0 L' w → ∀ j u, ((g.h.looks.map lkL).flatten)[j]? = some u → ∃ b o, g.A3 = some ⟨b, o, none⟩ ∧ w.cell? ⟨b, o + j, none⟩ = some u := fun L' hS w hI => (hlk w (hI.wk hS)).flat (by omega) (map_len (f := lkL) (fun _ => rfl) _)
  have hl4 : ((g.h.looks.map lkL).flatten).length = g.h.looks.length * (3 + 1) := map_flat (f := lkL) (fun _ => rfl) _
  have ho4 : ones ((g.h.looks.map lkL).flatten) = true := ones_flat (map_ones (f := lkL) (fun _ => rfl) _)
  obtain ⟨m, hm⟩ : ∃ m, g.h.looks.length = m := ⟨_, rfl⟩
  obtain ⟨xs, hxs⟩ : ∃ xs, (g.h.looks.map lkL).flatten = xs := ⟨_, rfl⟩
  unfold heapV hvL
  rw [hxs] at hsrc hl4 ho4 ⊢
  rw [hm] at hl4 hn hA ⊢
  unfold lkL
  repeat' (first | (refine GiP ?_; first | (refine Znh ?_) | (with_reducible refine Znl ?_) | (refine Zatd 5 ?_; refine Zbs fun b5 => ?_) | (refine Zatd 8 ?_; refine OPS_append0 rfl rfl rfl (by intro s9; repeat (first | exact Grow.here | apply Grow.there | apply Grow.sv | apply Grow.app)) svOk0 (hsrc _ (by repeat (first | exact Wk.refl _ | apply Wk.keep1 | apply Wk.drop | apply Wk.sv | apply Wk.svD | apply Wk.appD))) hA hl4 ho4 (by simp only [maxLen]; omega) (by omega) (fun s8 hs8 => ?_)) | (refine Zatd 10 ?_; refine Zal 10 fun b10 => ?_) | (refine Zatd 11 ?_; refine Zag (fun s11 hs11 => ?_)) | (refine Zatd 12 ?_; refine Zv Zfa ?_) | (refine Zatn ?_; refine Zst ?_)) | (refine GiW ?_; first | (refine Zsq fun K hK => ?_) | (refine ZrN 0 fun _ => ?_; refine Zal 2 fun b2 => ?_; refine Zal 3 fun b3 => ?_; refine Zal 4 fun b4 => ?_) | (refine ZrN 2 fun _ => ?_; refine Zv Zla ?_; refine Zst ?_) | (with_reducible apply WP_ret) | (refine WP_drawnS (id := 1) [1, 2, 4] [1, 2, 4] [] [6, 7, 9] (k := 3) (k2 := 3) (by repeat (first | apply Sub.sv | apply Sub.keep | apply Sub.appK | exact Sub.refl _)) (by kernel_rfl) prog_mixed (by kernel_rfl) (by kernel_rfl) rfl ?_; refine Zew rfl Zfa ?_; refine Zew rfl Zld ?_; refine Zew rfl Zla ?_)) | (with_reducible apply EWalk_nil) | (refine GiC ?_; first | (refine ZgC [1, 2, 4] ?_; refine ZC2 _ 0 [1, 2, 4, 0] 5 [1, 2, 4, 5] ?_ ?_) | (refine ZgC [1, 2, 4, 0] ?_; refine ZC2 _ 3 [1, 2, 4, 0, 3] 5 [1, 2, 4, 0, 5] ?_ ?_) | (refine ZgC [1, 2, 4, 0, 3] ?_; refine ZC1 _ 5 [1, 2, 4, 0, 3, 5] ?_) | (refine ZgC [1, 2, 4, 0, 3, 5] ?_; refine ZCl _ ?_) | (refine ZgC [1, 2, 4, 0, 5] ?_; refine ZC1 _ 3 [1, 2, 4, 0, 3, 5] ?_) | (refine ZgC [1, 2, 4, 5] ?_; refine ZC1 _ 0 [1, 2, 4, 0, 5] ?_)) | (refine GiO ?_; first | (refine ZgO [1, 2, 4, 0, 3, 5] ?_; refine ZO1 _ 6 [1, 2, 4, 0, 3, 5, 6] ?_) | (refine ZgO [1, 2, 4, 0, 3, 5, 6] ?_; refine ZO1 _ 7 [1, 2, 4, 0, 3, 5, 6, 7] ?_) | (refine ZgO [1, 2, 4, 0, 3, 5, 6, 7] ?_; refine ZO1 _ 8 [1, 2, 4, 0, 3, 5, 6, 7, 8] ?_) | (refine ZgO [1, 2, 4, 0, 3, 5, 6, 7, 8] ?_; refine ZOd _ ?_; (try with_reducible apply noP_normal); (try with_reducible exact key.out))) | (refine Zhn ?_) | (refine AWalk_0 ?_) | (with_reducible apply QAny_normal) | (with_reducible apply QC_normal))
  all_goals
    refine QBody_res rfl (.cellN rfl (by repeat (first | exact Mem.here | assumption | apply Mem.there | apply Mem.sv | apply Mem.app)) (.here (.cons (.cons (.cons (.cons (.cons (.cons (.cons .nil)))))))) .nil) rfl ?_
    exact ⟨svH 61 4 (m + 1) (xs ++ [.int .i64 l.heap, .int .i64 l.day, .int .i64 l.lo, .int .i64 l.hi]) _ L, (by repeat (first | exact Wk.refl _ | apply Wk.keep1 | apply Wk.drop | apply Wk.sv | apply Wk.svD | apply Wk.appD)), _, rfl, by assumption, rfl⟩
theorem with39_tri (L : Hp) (g : Bg) (l : Lk) (hlk : ∀ w, Inv N w0 L w → SlAt w.heap.size w g.A3 4 (g.h.looks.map lkL)) (hn : g.h.looks.length ≤ 1000) (hA : g.A3 = none → g.h.looks.length = 0) : Tri Try.prog N w0 L 39 [heapV g, .agg (lkL l).toArray].toArray fun x L' => ∃ v, x = .returned v ∧ ∃ b cap, v = heapV { g with h := addL g.h l, A3 := some ⟨b, 0, none⟩, c3 := cap } ∧ L' = (b, Row 61 4 (g.h.looks.length + 1) cap (((g.h.looks ++ [l]).map lkL).flatten)) :: L := by
  refine (with39_a N w0 L g l hlk hn hA).mono ?_
  rintro x L' ⟨s, rfl, hs, rfl⟩
  cases s with
  | none => have := hs.2 rfl; omega
  | some p =>
    obtain ⟨b, cap⟩ := p
    have e : ((g.h.looks ++ [l]).map lkL).flatten = (g.h.looks.map lkL).flatten ++ lkL l := by simp
    refine ⟨_, rfl, b, cap, ?_, ?_⟩
    · unfold heapV hvL
      have : (addL g.h l).looks.length = g.h.looks.length + 1 := by simp [addL]
      dsimp only
      rw [this]
      rfl
    · rw [e]; rfl
end
end Go.Proofs.Ytlpahkmfjpjheaa
end

section
namespace Go.Proofs.Ytlpahkmfjpjheaa
open Go.RowKit
theorem vB_of' {h : Hv} (v : VH h) : vB h = true := by
  have h1 := v.nh
  have h2 := v.nr
  have h3 := v.lim
  have h4 := v.nl
  have h5 := v.dr
  simp only [vB, numB, drB, Bool.and_eq_true, List.all_eq_true, within, isSpanB, tfB, lkB, decide_eq_true_eq]
  refine ⟨⟨⟨⟨?_, fun t ht => ?_⟩, fun s hs => ?_⟩, ?_⟩, fun l hl => ?_⟩
  · refine ⟨⟨⟨?_, ?_⟩, ?_⟩, h4⟩ <;> constructor <;> omega
  · have := v.tf t ht; refine ⟨⟨?_, ?_⟩, ?_⟩ <;> omega
  · have := v.rn s hs; omega
  · refine ⟨⟨⟨?_, ?_⟩, ?_, ?_⟩, ?_, ?_⟩ <;> omega
  · have := v.lk l hl; refine ⟨⟨⟨?_, ?_⟩, ?_, ?_⟩, ?_⟩ <;> omega
/-- Heaps that are not valid. -/
theorem errE_bad {h : Hv} (hb : vB h = false) (ok : Bool) : errE h ok = 1 := by simp [errE, hb]
theorem wetV_bad {h : Hv} (hb : vB h = false) (i d : Int) : WetV h i d = (0, 0) := by
  unfold WetV; rw [errE_bad hb, if_neg (by omega)]
theorem all_bad {h : Hv} (hb : vB h = false) : AllE h = 1 ∧ AllV h = 0 := by
  have : AllE h = 1 := by unfold AllE errW; rw [errE_bad hb, if_neg (by omega)]
  exact ⟨this, by unfold AllV; rw [this, if_neg (by omega)]⟩
/-- What is none. -/
theorem errE_none {h : Hv} (hb : vB h = true) : errE h false = 2 := by simp [errE, hb]
theorem none_wet (h : Hv) : WetOk h h.heaps.length 0 = false := by unfold WetOk within; simp; omega
theorem none_rain (h : Hv) : DayOk h h.rains.length = false := by unfold DayOk within; simp; omega
theorem none_dry (h : Hv) : WetOk h 0 (-1) = false := by unfold WetOk within; simp
theorem none_day (h : Hv) : DayOk h (-1) = false := by unfold DayOk within; simp
theorem none_when {h : Hv} (hb : vB h = true) : WhenE h (-1) = 2 := by
  have h1 : HeapOk h (-1) = false := by unfold HeapOk within; simp
  unfold WhenE errW
  rw [h1, errE_none hb, if_neg (by omega)]
section
variable {h : Hv} (hv : VH h) (h0 : toldL h ≠ [])
include hv h0
theorem ends_rain {d : Nat} (hd : d < h.rains.length) {c : Int} (hc : h.rains[d].1 ≤ c ∧ c ≤ h.rains[d].2) :
    (errE (setR h d (c, c)) (DayOk (setR h d (c, c)) d) = 0 ∧ RainV (setR h d (c, c)) d = (c, c) ∧ (rainS h d).1 ≤ c ∧ c ≤ (rainS h d).2) ∨
    (errE (setR h d (c, c)) (DayOk (setR h d (c, c)) d) = 10 ∧ RainV (setR h d (c, c)) d = (0, 0) ∧ c ≠ (rainS h d).1 ∧ c ≠ (rainS h d).2) := by
  have hv' : VH (setR h d (c, c)) := VH_setR hv hd (by dsimp only; omega)
  have hd' : d < (setR h d (c, c)).rains.length := by show d < (h.rains.set d (c, c)).length; rw [List.length_set]; exact hd
  obtain ⟨k1, k2⟩ := rain_known hv h0 hd hc
  by_cases h1 : toldL (setR h d (c, c)) = []
  · have := rain_clash (vB_of' hv') h1 hd'
    refine .inr ⟨this.2, this.1, fun he => k2 (.inl he) h1, fun he => k2 (.inr he) h1⟩
  · have := rain_ok (vB_of' hv') h1 hd'
    obtain ⟨a, b, e⟩ := k1 h1
    exact .inl ⟨this.2, by rw [this.1, e], a, b⟩
theorem ends_look {i d : Nat} (hi : i < h.heaps.length) (hd : d < h.rains.length) (hn : h.looks.length < 5) {c : Int} (hc : 0 ≤ c ∧ c ≤ 100) (he : c = (wetS h i d).1 - 1 ∨ c = (wetS h i d).1 ∨ c = (wetS h i d).2 ∨ c = (wetS h i d).2 + 1) :
    (errE (addL h ⟨i, d, c, c⟩) (WetOk (addL h ⟨i, d, c, c⟩) i d) = 0 ∧ WetV (addL h ⟨i, d, c, c⟩) i d = (c, c) ∧ (wetS h i d).1 ≤ c ∧ c ≤ (wetS h i d).2) ∨
    (errE (addL h ⟨i, d, c, c⟩) (WetOk (addL h ⟨i, d, c, c⟩) i d) = 10 ∧ WetV (addL h ⟨i, d, c, c⟩) i d = (0, 0) ∧ ¬ ((wetS h i d).1 ≤ c ∧ c ≤ (wetS h i d).2)) := by
  obtain ⟨hv', h1, h2⟩ := look_known hv h0 hi hd hn hc
  have hH := wetS_hull hv h0 hi hd
  by_cases h3 : toldL (addL h ⟨i, d, c, c⟩) = []
  · have := wet_clash (vB_of' hv') h3 (i := i) (d := d) hi hd
    refine .inr ⟨this.2, this.1, fun hh => ?_⟩
    have hp : ¬ WetP h i d c := fun hp => h1.2 hp h3
    have e1 : c ≠ (wetS h i d).1 := fun e => hp (e ▸ hH.1)
    have e2 : c ≠ (wetS h i d).2 := fun e => hp (e ▸ hH.2.1)
    omega
  · have := wet_ok (vB_of' hv') h3 (i := i) (d := d) hi hd
    have hb := hH.2.2 c (h1.1 h3)
    exact .inl ⟨this.2, by rw [this.1, h2 h3], hb⟩
end
end Go.Proofs.Ytlpahkmfjpjheaa
end

section
namespace Go.Proofs.Ytlpahkmfjpjheaa
open Go.RowKit
attribute [local irreducible] AnyO AnyB QAny QB EWalk AWalk Ev WP OPS QThen QBlock QScope QLoop QBody Val New Turn Tri Enters PostA Blk Ro
attribute [local irreducible] AnyC QC
theorem Val_remE {N : Nat} {w0 : World} {L : Hp} {e : Env} {d : Option Nat} {ty : TypeId} {pos : String} {af : Array Edge} {g : Option (Nat × Bool)} {x y : Operand} {t t' : TypeId} {a b c : Nat} (hc : a % b = c) (hb : 0 < b) (hx : ev e x = .int .i64 (a : Int)) (hy : ev e y = .int .i64 (b : Int)) : Val Try.prog N w0 L e ⟨d, .binOp .rem t x y t', ty, pos, af, g⟩ (.int .i64 (c : Int)) := by
  have := Val_rem (P := Try.prog) (N := N) (w0 := w0) (L := L) (d := d) (ty := ty) (pos := pos) (af := af) (g := g) (t := t) (t' := t') hx hy (by omega)
  have e : ((a : Int).tmod b) = (c : Int) := by rw [Int.tmod_eq_emod_of_nonneg (by omega), ← hc]; omega
  rwa [e] at this
theorem longB_ok {h : Hv} (hl : longB h = false) : h.heaps.length ≤ 40 ∧ h.rains.length ≤ 40 ∧ h.looks.length ≤ 40 := by
  unfold longB at hl
  simp only [decide_eq_false_iff_not] at hl
  omega
section
variable (N : Nat) (w0 : World)
/-- Far too long, or not valid: the examples alone. -/
theorem dry_law0 (L : Hp) (g : Bg) (hA : HeapAt N w0 g) (which at_ : Nat) (h0 : longB g.h = true ∨ vB g.h = false) : Ret Try.prog N w0 L 8 [heapV g, .int .u8 (which : Int), .int .u8 (at_ : Int)].toArray (.bool true) := by
  refine Ret.fgt ?_
  refine tri_of_WP Try.func8 rfl (n := 287) rfl (by simp) ?_
  have h34 := fun L => long_ret N w0 L g
  have h13 := fun L => alive_ret N w0 L
  cases hlong : longB g.h with
  | true =>
    rw [hlong] at h34
    unfold heapV hvL at h34 ⊢
    repeat' (first | (refine GiP ?_; first | (refine Znh ?_) | (refine Zatd 31 ?_; (first | (refine Zv Zxpt ?_) | (refine Zv Zxpf ?_))) | (refine Zsk ?_)) | (refine GiW ?_; first | (refine Zsq fun K hK => ?_) | (refine ZrN 0 fun _ => ?_; refine Zal 3 fun b3 => ?_; refine Zv Zab ?_) | (refine ZrG 1 ?_; refine Zv Zla ?_; refine Zcl (Enters_fn rfl) (h34 _) ?_; refine Zv Zmb ?_) | (refine ZrN 2 fun _ => ?_; refine Zcl (Enters_fn rfl) (h13 _) ?_; refine Zv Zab ?_) | (refine WP_cond_true rfl ?_) | (with_reducible apply WP_ret)) | (refine Zhr ?_))
    exact QBody_ret1 rfl (rfl : _ = Value.bool _) ⟨rfl, (by repeat (first | exact Wk.refl _ | apply Wk.keep1 | apply Wk.drop | apply Wk.sv | apply Wk.svD | apply Wk.appD))⟩
  | false =>
    obtain ⟨l1, l2, l3⟩ := longB_ok hlong
    have h35 := fun L => Heaps_ret N w0 L g hA (by omega) (by omega) (by omega)
    have hvb : vB g.h = false := by rcases h0 with h0 | h0; rw [hlong] at h0; cases h0; exact h0
    rw [hlong] at h34
    rw [hvb] at h35
    unfold heapV hvL at h34 h35 ⊢
    repeat' (first | (refine GiP ?_; first | (refine Znh ?_) | (refine Zatd 31 ?_; (first | (refine Zv Zxpt ?_) | (refine Zv Zxpf ?_))) | (refine Zatd 28 ?_; refine Zv Zla ?_) | (refine Zatd 29 ?_; refine Zcl (Enters_fn rfl) (h35 _) ?_) | (refine Zatd 30 ?_; refine Zv Zxnot ?_)) | (refine GiW ?_; first | (refine Zsq fun K hK => ?_) | (refine ZrN 0 fun _ => ?_; refine Zal 3 fun b3 => ?_; refine Zv Zab ?_) | (refine ZrG 1 ?_; refine Zv Zla ?_; refine Zcl (Enters_fn rfl) (h34 _) ?_; refine Zv Zmb ?_) | (refine ZrN 2 fun _ => ?_; refine Zcl (Enters_fn rfl) (h13 _) ?_; refine Zv Zab ?_) | (refine WP_cond_true rfl ?_) | (with_reducible apply WP_ret)) | (refine Zhr ?_))
    exact QBody_ret1 rfl (rfl : _ = Value.bool _) ⟨rfl, (by repeat (first | exact Wk.refl _ | apply Wk.keep1 | apply Wk.drop | apply Wk.sv | apply Wk.svD | apply Wk.appD))⟩
end
end Go.Proofs.Ytlpahkmfjpjheaa
end

section
namespace Go.Proofs.Ytlpahkmfjpjheaa
open Go.RowKit
/-- A truth: how wet heaps were at first, and the rains. -/
abbrev Tru := List Int × List Int
def evnT (h : Hv) (t : Tru) (i d : Nat) : Int := evn h i (t.1.getD i 0) t.2 d
/-- Is a look right, if it is in the set? -/
def lkT (h : Hv) (t : Tru) (s j : Nat) (l : Lk) : Bool := !(decide (s / 2 ^ j % 2 = 1)) || (decide (l.lo ≤ evnT h t l.heap.toNat l.day.toNat) && decide (evnT h t l.heap.toNat l.day.toNat ≤ l.hi))
def lkG (h : Hv) (t : Tru) (s j : Nat) : Bool := match h.looks[j]? with
  | some l => lkT h t s j l
  | none => true
def rightB (h : Hv) (t : Tru) (s : Nat) : Bool := (List.range h.looks.length).all (lkG h t s)
def firstsL (h : Hv) : List Sp := h.heaps.map fun t => (t.lo, t.hi)
def allT (h : Hv) : List Tru := (allR (firstsL h)).flatMap fun a => (allR h.rains).map fun b => (a, b)
def truthsL (h : Hv) (s : Nat) : List Tru := (allT h).filter fun t => rightB h t s
theorem rightB_iff {h : Hv} {t : Tru} {s : Nat} : rightB h t s = true ↔ ∀ (j : Nat) (l : Lk), h.looks[j]? = some l → s / 2 ^ j % 2 = 1 → l.lo ≤ evnT h t l.heap.toNat l.day.toNat ∧ evnT h t l.heap.toNat l.day.toNat ≤ l.hi := by
  unfold rightB
  rw [List.all_eq_true]
  constructor
  · intro hh j l hl hs
    have h1 := hh j (List.mem_range.2 (List.getElem?_eq_some_iff.1 hl).1)
    unfold lkG at h1
    rw [hl] at h1
    simpa [lkT, hs] using h1
  · intro hh j hj
    unfold lkG
    cases hl : h.looks[j]? with
    | none => rfl
    | some l =>
      by_cases hs : s / 2 ^ j % 2 = 1
      · have := hh j l hl hs
        simp [lkT, hs, this.1, this.2]
      · simp [lkT, hs]
theorem allT_mem {h : Hv} {t : Tru} : t ∈ allT h ↔ InR (firstsL h) t.1 ∧ InR h.rains t.2 := by
  unfold allT
  simp only [List.mem_flatMap, List.mem_map]
  constructor
  · rintro ⟨a, ha, b, hb, rfl⟩
    exact ⟨allR_iff.1 ha, allR_iff.1 hb⟩
  · rintro ⟨h1, h2⟩
    exact ⟨t.1, allR_iff.2 h1, t.2, allR_iff.2 h2, rfl⟩
theorem truthsL_mem {h : Hv} {t : Tru} {s : Nat} : t ∈ truthsL h s ↔ InR (firstsL h) t.1 ∧ InR h.rains t.2 ∧ ∀ (j : Nat) (l : Lk), h.looks[j]? = some l → s / 2 ^ j % 2 = 1 → l.lo ≤ evnT h t l.heap.toNat l.day.toNat ∧ evnT h t l.heap.toNat l.day.toNat ≤ l.hi := by
  unfold truthsL
  rw [List.mem_filter, allT_mem, rightB_iff, and_assoc]
theorem firstsL_get {h : Hv} {i : Nat} (hi : i < h.heaps.length) : (firstsL h)[i]? = some ((tfOf h i).lo, (tfOf h i).hi) := by
  unfold firstsL; rw [List.getElem?_map, tfOf_get hi]; rfl
theorem firstsL_len {h : Hv} : (firstsL h).length = h.heaps.length := by simp [firstsL]
theorem getD_get {a : List Int} {i : Nat} (hi : i < a.length) : a[i]? = some (a.getD i 0) := by
  rw [List.getD_eq_getElem?_getD, List.getElem?_eq_getElem hi]; rfl
/-- A truth's first wetness, heap by heap. -/
theorem one_of {h : Hv} {t : Tru} {s : Nat} (ht : t ∈ truthsL h s) {i : Nat} (hi : i < h.heaps.length) : One h s t.2 i (t.1.getD i 0) := by
  obtain ⟨h1, h2, h3⟩ := truthsL_mem.1 ht
  have h4 := h1.2 i _ _ (firstsL_get hi) (getD_get (by rw [h1.1, firstsL_len]; exact hi))
  refine ⟨h4.1, h4.2, fun j l hl hs hi' => ?_⟩
  have h5 := h3 j l hl hs
  unfold evnT at h5
  rw [show l.heap.toNat = i by omega] at h5
  exact h5
theorem tr_of {h : Hv} {t : Tru} {s : Nat} (ht : t ∈ truthsL h s) : Tr h s t.2 := ⟨(truthsL_mem.1 ht).2.1, fun _ hi => ⟨_, one_of ht hi⟩⟩
/-- Rains with which there is a truth have one, with any wetness at first that a heap can have had. -/
theorem tru_of {h : Hv} (hv : VH h) {s : Nat} {r : List Int} (hr : Tr h s r) {i : Nat} {n : Int} (hn : One h s r i n) : ∃ a, (a, r) ∈ truthsL h s ∧ (i < h.heaps.length → a.getD i 0 = n) := by
  obtain ⟨h1, h2⟩ := hr
  have hc : ∀ k : Nat, ∃ m : Int, k < h.heaps.length → One h s r k m := fun k => by
    by_cases hk : k < h.heaps.length
    · obtain ⟨m, hm⟩ := h2 k hk; exact ⟨m, fun _ => hm⟩
    · exact ⟨0, fun h => absurd h hk⟩
  obtain ⟨m, hm⟩ : ∃ m : Nat → Int, ∀ k, k < h.heaps.length → One h s r k (m k) := ⟨fun k => (hc k).choose, fun k => (hc k).choose_spec⟩
  obtain ⟨m', hm'⟩ : ∃ m' : Nat → Int, m' = fun k => if k = i then n else m k := ⟨_, rfl⟩
  have hone : ∀ k, k < h.heaps.length → One h s r k (m' k) := by
    intro k hk
    rw [hm']
    dsimp only
    by_cases hki : k = i
    · rw [if_pos hki, hki]; exact hn
    · rw [if_neg hki]; exact hm k hk
  have hg : ∀ k, k < h.heaps.length → ((List.range h.heaps.length).map m').getD k 0 = m' k := by
    intro k hk
    rw [List.getD_eq_getElem?_getD, List.getElem?_map, List.getElem?_range hk]; rfl
  refine ⟨(List.range h.heaps.length).map m', truthsL_mem.2 ⟨⟨by simp [firstsL], fun d sp v hs hd => ?_⟩, h1, fun j l hl hs => ?_⟩, fun hi => ?_⟩
  · have hd' := (List.getElem?_eq_some_iff.1 hd).1
    rw [List.length_map, List.length_range] at hd'
    rw [firstsL_get hd'] at hs
    rw [List.getElem?_map, List.getElem?_range hd'] at hd
    simp only [Option.some.injEq, Option.map_some] at hs hd
    subst hs hd
    exact ⟨(hone d hd').1, (hone d hd').2.1⟩
  · have hlm := hv.lk l (List.mem_of_getElem? hl)
    have hi' : l.heap.toNat < h.heaps.length := by omega
    unfold evnT
    dsimp only
    rw [hg _ hi']
    exact (hone _ hi').2.2 j l hl hs (by omega)
  · rw [hg i hi, hm']; simp
theorem tru_any {h : Hv} (hv : VH h) {s : Nat} {r : List Int} (hr : Tr h s r) : ∃ a, (a, r) ∈ truthsL h s := by
  have hnh := hv.nh
  obtain ⟨n, hn⟩ := hr.2 0 (by omega)
  obtain ⟨a, ha, _⟩ := tru_of hv hr hn
  exact ⟨a, ha⟩
theorem truthsL_some {h : Hv} (hv : VH h) {s : Nat} : truthsL h s = [] ↔ someB h s = false := by
  rw [← Bool.not_eq_true, someB_iff hv, List.eq_nil_iff_forall_not_mem]
  constructor
  · rintro hh ⟨r, hr⟩
    obtain ⟨a, ha⟩ := tru_any hv hr
    exact hh _ ha
  · intro hh t ht
    exact hh ⟨_, tr_of ht⟩
theorem truthsL_told {h : Hv} (hv : VH h) : truthsL h (evL h) = [] ↔ toldL h = [] := by
  rw [truthsL_some hv, ← Bool.not_eq_true, someB_told hv]
  exact Classical.not_not
/-- The span of some numbers. -/
def hullL : List Int → Sp
  | [] => (0, 0)
  | x :: l => (x :: l).foldl (fun s v => (min s.1 v, max s.2 v)) (x, x)
theorem hullL_snd : ∀ (l : List Int) (s : Sp), l.foldl (fun s v => (min s.1 v, max s.2 v)) s = (l.map fun v => (v, v)).foldl (fun (s : Sp) (x : Sp) => (min s.1 x.1, max s.2 x.2)) s
  | [], _ => rfl
  | v :: l, s => by rw [List.foldl_cons, List.map_cons, List.foldl_cons, hullL_snd l]
theorem hullL_jn {l : List Int} (hl : l ≠ []) : hullL l = jn (l.map fun v => (v, v)) := by
  cases l with
  | nil => exact absurd rfl hl
  | cons x l =>
    show (x :: l).foldl (fun s v => (min s.1 v, max s.2 v)) (x, x) = (l.map fun v => (v, v)).foldl (fun (s : Sp) (x : Sp) => (min s.1 x.1, max s.2 x.2)) (x, x)
    rw [List.foldl_cons]
    simp only [Int.min_self, Int.max_self]
    exact hullL_snd l _
theorem hullL_hull {l : List Int} (hl : l ≠ []) : Hull (· ∈ l) (hullL l) := by
  rw [hullL_jn hl]
  obtain ⟨⟨x, hx, h1⟩, ⟨y, hy, h2⟩, h3⟩ := jn_hull (l := l.map fun v => (v, v)) (by simpa using hl)
  obtain ⟨a, ha, rfl⟩ := List.mem_map.1 hx
  obtain ⟨b, hb, rfl⟩ := List.mem_map.1 hy
  refine ⟨by show _ ∈ l; rw [h1]; exact ha, by show _ ∈ l; rw [h2]; exact hb, fun v hv => ?_⟩
  exact h3 (v, v) (List.mem_map.2 ⟨v, hv, rfl⟩)
def wetQ (h : Hv) (l : List Tru) (i d : Nat) : Sp := hullL (l.map fun t => evnT h t i d)
def rainQ (l : List Tru) (d : Nat) : Sp := hullL (l.map fun t => t.2.getD d 0)
theorem wetQ_ok {h : Hv} (hv : VH h) (h0 : toldL h ≠ []) {i d : Nat} (hi : i < h.heaps.length) (hd : d < h.rains.length) : wetQ h (truthsL h (evL h)) i d = wetS h i d := by
  have hne : truthsL h (evL h) ≠ [] := fun hh => h0 ((truthsL_told hv).1 hh)
  refine Hull.uniq (p := WetP h i d) ((hullL_hull (by simpa using hne)).iff fun v => ?_) (wetS_hull hv h0 hi hd)
  rw [List.mem_map]
  constructor
  · rintro ⟨t, ht, rfl⟩
    exact ⟨t.2, tr_of ht, _, one_of ht hi, rfl⟩
  · rintro ⟨r, hr, n, hn, rfl⟩
    obtain ⟨a, ha, h1⟩ := tru_of hv hr hn
    exact ⟨(a, r), ha, by unfold evnT; dsimp only; rw [h1 hi]⟩
theorem rainQ_ok {h : Hv} (hv : VH h) (h0 : toldL h ≠ []) {d : Nat} (hd : d < h.rains.length) : rainQ (truthsL h (evL h)) d = rainS h d := by
  have hne : truthsL h (evL h) ≠ [] := fun hh => h0 ((truthsL_told hv).1 hh)
  refine Hull.uniq (p := RainP h d) ((hullL_hull (by simpa using hne)).iff fun v => ?_) (rainS_hull hv h0 hd)
  rw [List.mem_map]
  constructor
  · rintro ⟨t, ht, rfl⟩
    exact ⟨t.2, tr_of ht, getD_get (by rw [(truthsL_mem.1 ht).2.1.1]; exact hd)⟩
  · rintro ⟨r, hr, hrd⟩
    obtain ⟨a, ha⟩ := tru_any hv hr
    exact ⟨(a, r), ha, by dsimp only; rw [List.getD_eq_getElem?_getD, hrd]; rfl⟩
end Go.Proofs.Ytlpahkmfjpjheaa
end

section
namespace Go.Proofs.Ytlpahkmfjpjheaa
open Go.RowKit
attribute [local irreducible] AnyO AnyB QAny QB EWalk AWalk Ev WP OPS QThen QBlock QScope QLoop QBody Val New Turn Tri Enters PostA Blk Ro
attribute [local irreducible] AnyC QC
section
variable (N : Nat) (w0 : World)
theorem power102_ret (L : Hp) (n : Nat) (hn : n ≤ 20) : Ret Try.prog N w0 L 102 [.int .i64 (n : Int)].toArray (.int .i64 ((2 ^ n : Nat) : Int)) := by
  refine Ret.fgt ?_
  refine tri_of_WP Try.func102 rfl (n := 13) rfl (by simp) ?_
  repeat' (first | (refine GiP ?_; first | (refine Znh ?_) | (with_reducible refine Znl ?_)) | (refine GiW ?_; first | (refine Zsq fun K hK => ?_) | (refine ZrN 0 fun _ => ?_; refine Zv Zai ?_) | (refine ZrN 1 fun _ => ?_; refine Zv Zai ?_) | (refine ZrN 2 fun _ => ?_; refine Zv Zai ?_) | (refine WP_cond_true rfl ?_) | (refine WP_cond_false rfl ?_) | (refine Zcd (fun hc => ?_) (fun hc => ?_) <;> (try (exfalso; omega))) | (with_reducible apply WP_skip) | (with_reducible apply WP_block) | (with_reducible apply WP_exit) | (with_reducible apply WP_ret)) | (refine Zhn ?_) | (with_reducible apply QBlock_normal) | (refine Zhx ?_) | (with_reducible apply QBlock_hit) | (refine Zqb ?_) | (with_reducible apply QLoop_exit) | (refine Zhr ?_) | (with_reducible apply QBlock_ret) | (with_reducible apply QLoop_ret))
  refine WP_loop [3, 4, 5, 6, 7, 8, 9, 10, 11] (fun st : Nat × Nat => [(3, .int .i64 (st.2 : Int)), (4, .int .i64 (st.1 : Int))]) (fun _ => L) (fun st => st.1 ≤ n ∧ st.2 = 2 ^ st.1) (fun st => n - st.1) (0, 1) (.cons rfl (.cons rfl .nil)) (Wk.refl _) ⟨Nat.zero_le _, rfl⟩ ?_
  rintro ⟨k, p⟩ j ⟨hk, hp⟩
  dsimp only at hk hp ⊢
  by_cases hlt : k < n
  · have h2 : 2 ^ (k + 1) ≤ 2 ^ 20 := Nat.pow_le_pow_right (by omega) (by omega)
    have h3 : (2 : Nat) ^ (k + 1) = 2 * p := by rw [Nat.pow_succ, hp]; omega
    rw [h3] at h2
    have h5 : p ≤ 1048576 := by omega
    repeat' (first | (refine GiP ?_; first | (refine Znh ?_) | (with_reducible refine Znl ?_)) | (refine GiW ?_; first | (refine Zsq fun K hK => ?_) | (refine ZrN 3 fun _ => ?_; refine Zv Zmi ?_; refine Zv Zmi ?_; refine Zv Zylss ?_) | (refine ZrN 5 fun _ => ?_; refine Zv Zmi ?_; refine Zv Zxmul ?_; refine Zv Zai ?_) | (refine ZrN 4 fun _ => ?_; refine Zv Zmi ?_; refine Zv Zxadd ?_; refine Zv Zai ?_) | (refine WP_cond_true rfl ?_) | (refine WP_cond_false rfl ?_) | (refine Zcd (fun hc => ?_) (fun hc => ?_) <;> (try (exfalso; omega))) | (with_reducible apply WP_skip) | (with_reducible apply WP_block) | (with_reducible apply WP_exit) | (with_reducible apply WP_ret)) | (refine Zhn ?_) | (with_reducible apply QBlock_normal) | (refine Zhx ?_) | (with_reducible apply QBlock_hit) | (refine Zqb ?_) | (with_reducible apply QLoop_exit) | (refine Zhr ?_) | (with_reducible apply QBlock_ret) | (with_reducible apply QLoop_ret))
    exact QLoop_normal (k + 1, 2 * p) (.cons rfl (.cons rfl .nil)) (by repeat (first | exact Off.frame rfl | exact Off.refl _ _ | refine Off.frameT rfl rfl ?_ | refine Off.upd rfl ?_ | refine Off.updO rfl ?_)) (by repeat (first | exact Wk.refl _ | apply Wk.keep1 | apply Wk.drop | apply Wk.sv | apply Wk.svD | apply Wk.appD)) ⟨by dsimp only; omega, h3.symm⟩ (by dsimp only; omega)
  · have : k = n := by omega
    subst this
    repeat' (first | (refine GiP ?_; first | (refine Znh ?_) | (with_reducible refine Znl ?_)) | (refine GiW ?_; first | (refine Zsq fun K hK => ?_) | (refine ZrN 3 fun _ => ?_; refine Zv Zmi ?_; refine Zv Zmi ?_; refine Zv Zylss ?_) | (refine ZrN 6 fun _ => ?_; refine Zv Zmi ?_; refine Zv Zai ?_) | (refine WP_cond_true rfl ?_) | (refine WP_cond_false rfl ?_) | (refine Zcd (fun hc => ?_) (fun hc => ?_) <;> (try (exfalso; omega))) | (with_reducible apply WP_skip) | (with_reducible apply WP_block) | (with_reducible apply WP_exit) | (with_reducible apply WP_ret)) | (refine Zhn ?_) | (with_reducible apply QBlock_normal) | (refine Zhx ?_) | (with_reducible apply QBlock_hit) | (refine Zqb ?_) | (with_reducible apply QLoop_exit) | (refine Zhr ?_) | (with_reducible apply QBlock_ret) | (with_reducible apply QLoop_ret))
    exact QBody_ret1 rfl (rfl : _ = Value.int _ _) ⟨by rw [hp], (by repeat (first | exact Wk.refl _ | apply Wk.keep1 | apply Wk.drop | apply Wk.sv | apply Wk.svD | apply Wk.appD))⟩
/-- Is a number in a set? -/
def hasB (s n : Nat) : Bool := decide (s / 2 ^ n % 2 = 1)
theorem has110_ret (L : Hp) (s n : Nat) (hs : s ≤ 1000000) (hn : n ≤ 20) : Ret Try.prog N w0 L 110 [.int .i64 (s : Int), .int .i64 (n : Int)].toArray (.bool (hasB s n)) := by
  refine Ret.fgt ?_
  refine tri_of_WP Try.func110 rfl (n := 11) rfl (by simp) ?_
  have hp := Nat.two_pow_pos n
  obtain ⟨q, hq⟩ : ∃ q, s / 2 ^ n = q := ⟨_, rfl⟩
  obtain ⟨t, ht⟩ : ∃ t, q % 2 = t := ⟨_, rfl⟩
  obtain ⟨bb, hb⟩ : ∃ bb, hasB s n = bb := ⟨_, rfl⟩
  have hb' : bb = decide (t = 1) := by rw [← hb, hasB, hq, ht]
  rw [hb]
  repeat' (first | (refine GiP ?_; first | (refine Znh ?_) | (with_reducible refine Znl ?_)) | (refine GiW ?_; first | (refine Zsq fun K hK => ?_) | (refine ZrN 0 fun _ => ?_; refine Zv Zab ?_) | (refine ZrN 1 fun _ => ?_; refine Zv Zmi ?_; refine Zv Zmi ?_; refine Zcl (Enters_fn rfl) (power102_ret N w0 _ n hn) ?_; refine Zv (Val_quoE hq hp hs rfl rfl) ?_; refine Zv (Val_remE2 ht (by omega) rfl rfl) ?_; refine Zv Zxeql ?_; refine Zv Zab ?_) | (with_reducible apply WP_ret)) | (refine Zhn ?_) | (refine Zhr ?_))
  exact QBody_ret1 rfl (rfl : _ = Value.bool _) ⟨by rw [hb', show (((t : Int) == 1) : Bool) = decide (t = 1) by rw [Bool.eq_iff_iff]; simp; omega], (by repeat (first | exact Wk.refl _ | apply Wk.keep1 | apply Wk.drop | apply Wk.sv | apply Wk.svD | apply Wk.appD))⟩
theorem every78_ret (L : Hp) (g : Bg) (hn : g.h.looks.length ≤ 20) : Ret Try.prog N w0 L 78 [heapV g].toArray (.int .i64 (evL g.h : Int)) := by
  refine Ret.fgt ?_
  refine tri_of_WP Try.func78 rfl (n := 8) rfl (by simp) ?_
  unfold heapV hvL
  have hp := Nat.two_pow_pos g.h.looks.length
  have h2 : 2 ^ g.h.looks.length ≤ 2 ^ 20 := Nat.pow_le_pow_right (by omega) hn
  repeat' (first | (refine GiP ?_; first | (refine Znh ?_) | (with_reducible refine Znl ?_)) | (refine GiW ?_; first | (refine Zsq fun K hK => ?_) | (refine ZrN 0 fun _ => ?_; refine Zal 1 fun b1 => ?_; refine Zv Zai ?_) | (refine ZrN 1 fun _ => ?_; refine Zv Zfa ?_; refine Zv Zld ?_; refine Zv Zxlen ?_; refine Zcl (Enters_fn rfl) (power102_ret N w0 _ _ hn) ?_; refine Zv Zxsub ?_; refine Zv Zai ?_) | (with_reducible apply WP_ret)) | (refine Zhn ?_) | (refine Zhr ?_))
  exact QBody_ret1 rfl (rfl : _ = Value.int _ _) ⟨by rw [show ((evL g.h : Nat) : Int) = ((2 ^ g.h.looks.length : Nat) : Int) - 1 by unfold evL; omega], (by repeat (first | exact Wk.refl _ | apply Wk.keep1 | apply Wk.drop | apply Wk.sv | apply Wk.svD | apply Wk.appD))⟩
/-- Why something is not known: what is not valid, or is none. -/
def errC (h : Hv) (ok : Bool) : Int := if vB h = false then 1 else if ok = false then 2 else 0
theorem check77_ret (L : Hp) (g : Bg) (hA : HeapAt N w0 g) (h1 : g.h.heaps.length ≤ 1000000) (h2 : g.h.rains.length ≤ 1000000) (h3 : g.h.looks.length ≤ 1000000) (ok : Bool) : Ret Try.prog N w0 L 77 [heapV g, .bool ok].toArray (.int .i64 (errC g.h ok)) := by
  refine Ret.fgt ?_
  refine tri_of_WP Try.func77 rfl (n := 10) rfl (by simp) ?_
  have h35 := fun L => Heaps_ret N w0 L g hA h1 h2 h3
  obtain ⟨vb, hvb⟩ : ∃ vb, vB g.h = vb := ⟨_, rfl⟩
  unfold errC
  rw [hvb] at h35 ⊢
  unfold heapV hvL at h35 ⊢
  cases vb <;> cases ok
  all_goals repeat' (first | (refine GiP ?_; first | (refine Znh ?_) | (with_reducible refine Znl ?_)) | (refine GiW ?_; first | (refine Zsq fun K hK => ?_) | (refine ZrN 0 fun _ => ?_; refine Zal 2 fun b2 => ?_; refine Zv Zai ?_) | (refine ZrN 1 fun _ => ?_; refine Zv Zla ?_; refine Zcl (Enters_fn rfl) (h35 _) ?_; refine Zv Zxnot ?_) | (refine ZrN 2 fun _ => ?_; refine Zv Zai ?_) | (refine ZrN 3 fun _ => ?_; refine Zv Zmb ?_; refine Zv Zxnot ?_) | (refine ZrN 4 fun _ => ?_; refine Zv Zai ?_) | (refine ZrN 5 fun _ => ?_; refine Zv Zai ?_) | (refine WP_cond_true rfl ?_) | (refine WP_cond_false rfl ?_) | (refine Zcd (fun hc => ?_) (fun hc => ?_) <;> (try (exfalso; omega))) | (with_reducible apply WP_skip) | (with_reducible apply WP_ret)) | (refine Zhn ?_) | (refine Zhr ?_))
  all_goals exact QBody_ret1 rfl (rfl : _ = Value.int _ _) ⟨rfl, (by repeat (first | exact Wk.refl _ | apply Wk.keep1 | apply Wk.drop | apply Wk.sv | apply Wk.svD | apply Wk.appD))⟩
end
end Go.Proofs.Ytlpahkmfjpjheaa
end

section
namespace Go.Proofs.Ytlpahkmfjpjheaa
open Go.RowKit
/-- Lists, as the values of a row read. -/
def RdV (X : Hp) (vals : List Value) (rows : List (List Int)) : Prop := ∀ (i : Nat) (row : List Int), rows[i]? = some row → ∃ u, vals[i]? = some u ∧ RdL X u row
theorem RdV.wk {X L : Hp} {vals : List Value} {rows : List (List Int)} (h : RdV X vals rows) (k : Wk L X) : RdV L vals rows := fun i row hi => let ⟨u, h1, h2⟩ := h i row hi; ⟨u, h1, h2.wk k⟩
theorem RdV.snoc {X : Hp} {vals : List Value} {rows : List (List Int)} {u : Value} {row : List Int} (h : RdV X vals rows) (hl : vals.length = rows.length) (hu : RdL X u row) : RdV X (vals ++ [u]) (rows ++ [row]) := by
  intro i r hi
  by_cases hil : i < rows.length
  · rw [List.getElem?_append_left hil] at hi
    obtain ⟨u', h1, h2⟩ := h i r hi
    exact ⟨u', by rw [List.getElem?_append_left (by omega)]; exact h1, h2⟩
  · rw [List.getElem?_append_right (by omega)] at hi
    have hii : i = rows.length := by
      have := (List.getElem?_eq_some_iff.1 hi).1
      simp at this; omega
    subst hii
    simp only [Nat.sub_self, List.getElem?_cons_zero, Option.some.injEq] at hi
    subst hi
    exact ⟨u, by rw [List.getElem?_append_right (by omega), hl]; simp, hu⟩
theorem svH_swap {E E2 : TypeId} {sz k sz2 k2 : Nat} {xs xs2 : List Value} {s s2 : Option (Nat × Nat)} {L : Hp} : (svH E sz k xs s (svH E2 sz2 k2 xs2 s2 L)).Perm (svH E2 sz2 k2 xs2 s2 (svH E sz k xs s L)) := by
  cases s with
  | none => exact .refl _
  | some p => cases s2 with
    | none => exact .refl _
    | some q => exact .swap _ _ _
theorem svH_in {E : TypeId} {sz k : Nat} {xs : List Value} {s : Option (Nat × Nat)} {x : Nat × (Obj → Prop)} {L : Hp} : (x :: svH E sz k xs s L).Perm (svH E sz k xs s (x :: L)) := by
  cases s with
  | none => exact .refl _
  | some p => exact .swap _ _ _
theorem Wk.none_ : ∀ L : Hp, Wk L []
  | [] => .refl _
  | _ :: L => .drop (Wk.none_ L)
theorem Wk.appR (X L : Hp) : Wk (X ++ L) X := by
  induction X with
  | nil => exact Wk.none_ L
  | cons x X ih => exact .keep1 ih
theorem RdL.nilS (X : Hp) (c : Nat) : RdL X (.slice none 0 c) [] := ⟨none, c, rfl, fun j x h => by simp at h⟩
/-- The cells that a list reads from. -/
theorem RdL.src {X L : Hp} {A : Option Addr} {n c : Nat} {row : List Int} {N : Nat} {w0 : World} (h : RdL X (.slice A n c) row) (k : Wk L X) : (∀ w, Inv N w0 L w → ∀ j u, (intL row)[j]? = some u → ∃ b o, A = some ⟨b, o, none⟩ ∧ w.cell? ⟨b, o + j, none⟩ = some u) ∧ (A = none → row.length = 0) := by
  obtain ⟨A', c', h1, h2⟩ := h
  simp only [Value.slice.injEq] at h1
  obtain ⟨rfl, _, _⟩ := h1
  refine ⟨fun w hI j u hj => ?_, fun hA => ?_⟩
  · unfold intL at hj
    rw [List.getElem?_map] at hj
    cases hr : row[j]? with
    | none => rw [hr] at hj; cases hj
    | some x =>
      rw [hr] at hj
      simp only [Option.map_some, Option.some.injEq] at hj
      subst hj
      obtain ⟨b, h3, h4⟩ := h2 j x hr
      exact ⟨b, 0, h3, by rw [Nat.zero_add]; exact h4 N w0 w (hI.wk k)⟩
  · cases row with
    | nil => rfl
    | cons x row =>
      obtain ⟨b, h3, _⟩ := h2 0 x rfl
      rw [hA] at h3; cases h3
theorem intL_len (row : List Int) : (intL row).length = row.length := by simp [intL]
theorem intL_ones (row : List Int) : ones (intL row) = true := by
  unfold intL ones
  rw [List.all_map, List.all_eq_true]
  intro x _
  rfl
theorem intL_snoc (row : List Int) (v : Int) : intL (row ++ [v]) = intL row ++ [.int .i64 v] := by simp [intL]
theorem flatMap_len {α β : Type} (f : α → List β) (M : Nat) (hf : ∀ x, (f x).length = M) : ∀ l : List α, (l.flatMap f).length = l.length * M
  | [] => by simp
  | x :: l => by rw [List.flatMap_cons, List.length_append, hf, flatMap_len f M hf l, List.length_cons, Nat.succ_mul, Nat.add_comm]
theorem allR_cons_len (s : Sp) (l : List Sp) : (allR (s :: l)).length = (vals s).length * (allR l).length := flatMap_len _ _ (fun x => by simp) _
/-- The lists that begin so. -/
def lsF (begin : List Int) (l : List Sp) : List (List Int) := (allR l).map (begin ++ ·)
theorem lsF_cons (begin : List Int) (s : Sp) (l : List Sp) : lsF begin (s :: l) = (vals s).flatMap fun v => lsF (begin ++ [v]) l := by
  unfold lsF
  simp only [allR, List.map_flatMap, List.map_map]
  congr 1
  funext v
  apply List.map_congr_left
  intro q _
  simp
theorem lsF_len (begin : List Int) (l : List Sp) : (lsF begin l).length = (allR l).length := by simp [lsF]
structure LsSt where
  c : Nat
  x : Int
  rows : List (List Int)
  X : Hp
  vals : List Value
  s : Option (Nat × Nat)
attribute [local irreducible] AnyO AnyB QAny QB EWalk AWalk Ev WP OPS QThen QBlock QScope QLoop QBody Val New Turn Tri Enters PostA Blk Ro
attribute [local irreducible] AnyC QC
section
variable (N : Nat) (w0 : World)
set_option maxRecDepth 100000 in
set_option maxHeartbeats 4000000 in
theorem lists103_a (A : Option Addr) (cp : Nat) (sp : List Sp) (hS : SlAt N w0 A 2 (sp.map spL)) (hsp : ∀ s ∈ sp, -1000 ≤ s.1 ∧ s.2 ≤ 1000) (hspl : sp.length ≤ 1000) : ∀ (rest : List Sp) (begin : List Int), begin.length + rest.length = sp.length → sp.drop begin.length = rest →
    ∀ (L X : Hp) (vb : Value) (rows : List (List Int)) (vals : List Value) (s : Option (Nat × Nat)), RdL X vb begin → svOk s 1 rows.length vals → RdV X vals rows → rows.length + (allR rest).length ≤ 1000000 →
    Tri Try.prog N w0 (svH 52 1 rows.length vals s (X ++ L)) 103 [.slice A sp.length cp, vb, svV s rows.length].toArray fun x L2 => ∃ v, x = .returned v ∧ ∃ (rows' : List (List Int)) (X2 : Hp) (vals' : List Value) (s' : Option (Nat × Nat)), v = svV s' rows'.length ∧ rows' = rows ++ lsF begin rest ∧ svOk s' 1 rows'.length vals' ∧ RdV (X2 ++ X) vals' rows' ∧ L2 = svH 52 1 rows'.length vals' s' ((X2 ++ X) ++ L)
  | [], begin, hlen, hdrop, L, X, vb, rows, vals, s, hvb, hs, hrd, hb => by
    obtain ⟨Ab, cb, rfl, hbr⟩ := hvb
    have hvb : RdL X (.slice Ab begin.length cb) begin := ⟨Ab, cb, rfl, hbr⟩
    simp only [List.length_nil, Nat.add_zero] at hlen
    have hvl : vals.length = rows.length := by have := hs.1; omega
    refine Tri.fgt ?_
    refine tri_of_WP Try.func103 rfl (n := 43) rfl (by simp) ?_
    simp only [allR, List.length_singleton] at hb
    rw [hlen]
    rw [hlen] at hvb
    repeat' (first | (refine GiP ?_; first | (refine Znh ?_) | (with_reducible refine Znl ?_)) | (refine GiW ?_; first | (refine Zsq fun K hK => ?_) | (refine ZrN 0 fun _ => ?_; refine Zv Zav ?_) | (refine ZrN 1 fun _ => ?_; refine Zv Zmv ?_; refine Zv Zxlen ?_; refine Zv Zai ?_) | (refine ZrN 2 fun _ => ?_; refine Zv Zmi ?_; refine Zv Zmv ?_; refine Zv Zxlen ?_; refine Zv Zxeql ?_) | (refine ZrN 3 fun _ => ?_; refine Zv Zmv ?_; refine Zv Zmv ?_; refine Zal 17 fun b17 => ?_; refine Zag (fun s18 hs18 => ?_) (h1 := rfl); refine Zv Zav ?_) | (refine WP_cond_true rfl ?_) | (refine WP_cond_false rfl ?_) | (refine Zcd (fun hc => ?_) (fun hc => ?_) <;> (try (exfalso; omega))) | (with_reducible apply WP_skip) | (with_reducible apply WP_block) | (with_reducible apply WP_exit) | (with_reducible apply WP_ret)) | (refine Zhn ?_) | (with_reducible apply QBlock_normal) | (refine Zhx ?_) | (with_reducible apply QBlock_hit) | (refine Zqb ?_) | (with_reducible apply QLoop_exit) | (refine Zhr ?_) | (with_reducible apply QBlock_ret) | (with_reducible apply QLoop_ret))
    refine QBody_ret1 rfl rfl ⟨svH 52 1 (rows.length + 1) (vals ++ [.slice Ab sp.length cb]) s18 (X ++ L), (by repeat (first | exact Wk.refl _ | apply Wk.keep1 | apply Wk.drop | apply Wk.sv | apply Wk.svD | apply Wk.appD)), _, rfl, rows ++ [begin], [], vals ++ [.slice Ab sp.length cb], s18, by rw [List.length_append]; rfl, by simp [lsF, allR], by rw [List.length_append]; exact hs18, hrd.snoc hvl hvb, by rw [List.length_append]; rfl⟩
  | q :: rest, begin, hlen, hdrop, L, X, vb, rows, vals, s, hvb, hs, hrd, hb => by
    obtain ⟨Ab, cb, rfl, hbr⟩ := hvb
    have hvb : RdL X (.slice Ab begin.length cb) begin := ⟨Ab, cb, rfl, hbr⟩
    rw [List.length_cons] at hlen
    have hlt : begin.length < sp.length := by omega
    obtain ⟨bA, oA, hA2, hbA, hcA⟩ := hS.row _ hlt
    have hq : sp[begin.length] = q := by
      have h1 : (sp.drop begin.length)[0]? = some q := by rw [hdrop]; rfl
      rw [List.getElem?_drop, Nat.add_zero, List.getElem?_eq_getElem hlt] at h1
      simpa using h1
    have hdrop2 : sp.drop (begin.length + 1) = rest := by rw [← List.drop_drop, hdrop]; rfl
    rw [hq] at hcA
    obtain ⟨lo, hi⟩ := q
    have hq2 := hsp (lo, hi) (by rw [← hq]; exact List.getElem_mem hlt)
    dsimp only at hq2
    obtain ⟨nb, hnb⟩ : ∃ nb, begin.length = nb := ⟨_, rfl⟩
    have c0 := RoAt' hcA 0 _ rfl
    have c1 := RoAt' hcA 1 _ rfl
    rw [allR_cons_len] at hb
    rw [hnb] at hvb hlt hlen hcA c0 c1 hdrop2 ⊢
    have hW := vals_length (lo, hi)
    obtain ⟨W, hWe⟩ : ∃ W, (Go.Proofs.Ytlpahkmfjpjheaa.vals (lo, hi)).length = W := ⟨_, rfl⟩
    rw [hWe] at hb hW
    dsimp only at hW
    refine Tri.fgt ?_
    refine tri_of_WP Try.func103 rfl (n := 43) rfl (by simp) ?_
    repeat' (first | (refine GiP ?_; first | (refine Znh ?_) | (with_reducible refine Znl ?_)) | (refine GiW ?_; first | (refine Zsq fun K hK => ?_) | (refine ZrN 0 fun _ => ?_; refine Zv Zav ?_) | (refine ZrN 1 fun _ => ?_; refine Zv Zmv ?_; refine Zv Zxlen ?_; refine Zv Zai ?_) | (refine ZrN 2 fun _ => ?_; refine Zv Zmi ?_; refine Zv Zmv ?_; refine Zv Zxlen ?_; refine Zv Zyeql ?_) | (refine ZrN 4 fun _ => ?_; refine Zv Zmv ?_; refine Zv Zmi ?_; refine Zv Zia ?_; refine Zv Zf0 ?_; refine Zv Zld ?_; refine Zv Zai ?_) | (refine WP_cond_true rfl ?_) | (refine WP_cond_false rfl ?_) | (refine Zcd (fun hc => ?_) (fun hc => ?_) <;> (try (exfalso; omega))) | (with_reducible apply WP_skip) | (with_reducible apply WP_block) | (with_reducible apply WP_exit) | (with_reducible apply WP_ret)) | (refine Zhn ?_) | (with_reducible apply QBlock_normal) | (refine Zhx ?_) | (with_reducible apply QBlock_hit) | (refine Zqb ?_) | (with_reducible apply QLoop_exit) | (refine Zhr ?_) | (with_reducible apply QBlock_ret) | (with_reducible apply QLoop_ret))
    refine WP_loop [2, 8, 24, 25, 26, 27, 28, 29, 30, 31, 32, 33, 34, 35, 36, 37, 38, 39, 40, 41] (fun st : LsSt => [(8, .int .i64 st.x), (2, svV st.s st.rows.length)]) (fun st => svH 52 1 st.rows.length st.vals st.s (st.X ++ L)) (fun st => st.c ≤ W ∧ st.x = lo + (st.c : Int) ∧ st.rows = rows ++ ((Go.Proofs.Ytlpahkmfjpjheaa.vals (lo, hi)).take st.c).flatMap (fun v => lsF (begin ++ [v]) rest) ∧ svOk st.s 1 st.rows.length st.vals ∧ RdV st.X st.vals st.rows ∧ ∃ X2, st.X = X2 ++ X) (fun st => W - st.c) ⟨0, lo, rows, X, vals, s⟩ (.cons rfl (.cons rfl .nil)) (Wk.refl _) ⟨Nat.zero_le _, by simp, by simp, hs, hrd, [], rfl⟩ ?_
    rintro ⟨c, x, rowsC, XC, valsC, sC⟩ j ⟨hc, hx, hrows, hsC, hrdC, X2, hX2⟩
    dsimp only at hc hx hrows hsC hrdC hX2 ⊢
    have hrl : rowsC.length = rows.length + c * (allR rest).length := by
      rw [hrows, List.length_append, flatMap_len _ (allR rest).length (fun v => lsF_len _ _), List.length_take, hWe, Nat.min_eq_left hc]
    by_cases hcw : c < W
    · have hm : (c + 1) * (allR rest).length ≤ W * (allR rest).length := Nat.mul_le_mul_right _ hcw
      rw [Nat.succ_mul] at hm
      have hvbC : RdL XC (.slice Ab nb cb) begin := by rw [hX2]; exact hvb.wk (.app X2 X)
      obtain ⟨hsrc, hAb⟩ : (∀ L', Wk L' (XC ++ L) → ∀ w, Inv N w0 L' w → ∀ j u, (intL begin)[j]? = some u → ∃ b o, Ab = some ⟨b, o, none⟩ ∧ w.cell? ⟨b, o + j, none⟩ = some u) ∧ (Ab = none → nb = 0) := by
        have h1 := fun L' (k : Wk L' (XC ++ L)) => (hvbC.src (N := N) (w0 := w0) (k.trans (Wk.appR XC L))).1
        exact ⟨h1, by rw [← hnb]; exact (hvbC.src (N := N) (w0 := w0) (Wk.refl _)).2⟩
      have hln : (intL begin).length = nb * (0 + 1) := by rw [intL_len, hnb]; omega
      have hon := intL_ones begin
      have hrow : ∀ s9, svOk s9 (0 + 1) (nb + 1) (intL begin ++ [.int .i64 x]) → RdL (svH 3 1 (nb + 1) (intL begin ++ [.int .i64 x]) s9 XC) (svV s9 (nb + 1)) (begin ++ [x]) := by
        intro s9 h9
        have e1 : (begin ++ [x]).length = nb + 1 := by rw [List.length_append, List.length_singleton, hnb]
        have := RdL.sv (E := 3) (row := begin ++ [x]) (L := XC) (s := s9) (by rw [e1, intL_snoc]; exact h9)
        rw [e1, intL_snoc] at this
        exact this
      have ih : ∀ (L1 : Hp) (s9 : Option (Nat × Nat)), svOk s9 (0 + 1) (nb + 1) (intL begin ++ [.int .i64 x]) → Tri Try.prog N w0 (svH 52 1 rowsC.length valsC sC (svH 3 1 (nb + 1) (intL begin ++ [.int .i64 x]) s9 XC ++ L1)) 103 [.slice A sp.length cp, svV s9 (nb + 1), svV sC rowsC.length].toArray fun y L2 => ∃ v, y = .returned v ∧ ∃ (rows' : List (List Int)) (X2 : Hp) (vals' : List Value) (s' : Option (Nat × Nat)), v = svV s' rows'.length ∧ rows' = rowsC ++ lsF (begin ++ [x]) rest ∧ svOk s' 1 rows'.length vals' ∧ RdV (X2 ++ svH 3 1 (nb + 1) (intL begin ++ [.int .i64 x]) s9 XC) vals' rows' ∧ L2 = svH 52 1 rows'.length vals' s' ((X2 ++ svH 3 1 (nb + 1) (intL begin ++ [.int .i64 x]) s9 XC) ++ L1) := fun L1 s9 h9 =>
        lists103_a A cp sp hS hsp hspl rest (begin ++ [x]) (by rw [List.length_append, List.length_singleton, hnb]; omega) (by rw [List.length_append, List.length_singleton, hnb]; exact hdrop2) L1 _ _ rowsC valsC sC (hrow s9 h9) hsC (hrdC.wk (Wk.svD (Wk.refl _))) (by omega)
      have hpm : ∀ (b : Nat) (l : List Value) (s9 : Option (Nat × Nat)), ((b, Blk 3 l) :: svH 3 1 (nb + 1) (intL begin ++ [.int .i64 x]) s9 (svH 52 1 rowsC.length valsC sC (XC ++ L))).Perm (svH 52 1 rowsC.length valsC sC (svH 3 1 (nb + 1) (intL begin ++ [.int .i64 x]) s9 XC ++ ((b, Blk 3 l) :: L))) := fun b l s9 =>
        (svH_swap.cons _).trans (svH_in.trans (svH_perm (by rw [svH_app]; exact List.perm_middle.symm)))
      repeat' (first | (refine GiP ?_; first | (refine Znh ?_) | (with_reducible refine Znl ?_)) | (refine GiW ?_; first | (refine Zsq fun K hK => ?_) | (refine ZrN 5 fun _ => ?_; refine Zv Zmi ?_; refine Zv Zmv ?_; refine Zv Zmi ?_; refine Zv Zia ?_; refine Zv Zfa ?_; refine Zv Zld ?_; refine Zv Zyleq ?_) | (refine ZrN 7 fun _ => ?_; refine Zv Zmv ?_; (first | (refine Zbs fun b34 => ?_) | (refine Zal 34 fun b34 => ?_)); refine Zv Zmv ?_; (first | (refine OPS_append0 rfl rfl rfl (by intro s9; repeat (first | exact Grow.here | apply Grow.there | apply Grow.sv | apply Grow.app)) svOk0 (hsrc _ (by repeat (first | exact Wk.refl _ | apply Wk.keep1 | apply Wk.drop | apply Wk.sv | apply Wk.svD | apply Wk.appD))) hAb hln hon (by simp only [maxLen]; omega) (by omega) (fun s36 hs36 => ?_)) | (refine Zag (fun s36 hs36 => ?_))); refine Zv Zmi ?_; (first | (refine Zbs fun b38 => ?_) | (refine Zal 38 fun b38 => ?_)); (first | (refine OPS_append0 rfl rfl rfl (by intro s9; repeat (first | exact Grow.here | apply Grow.there | apply Grow.sv | apply Grow.app)) svOk0 (hsrc _ (by repeat (first | exact Wk.refl _ | apply Wk.keep1 | apply Wk.drop | apply Wk.sv | apply Wk.svD | apply Wk.appD))) hAb hln hon (by simp only [maxLen]; omega) (by omega) (fun s39 hs39 => ?_)) | (refine Zag (fun s39 hs39 => ?_))); refine Zv Zmv ?_; refine OPS_retKS (Enters_fn rfl) (Tri.perm (ih ((b38, Blk 3 [.int .i64 x]) :: L) s39 hs39) (hpm _ _ _)) rfl rfl rfl (fun v41 L41 h41 => ?_); obtain ⟨rows2, X3, vals2, s2, rfl, hr2, hs2, hrd2, rfl⟩ := h41; refine Zv Zav ?_) | (refine ZrN 6 fun _ => ?_; refine Zv Zmi ?_; refine Zv Zxadd ?_; refine Zv Zai ?_) | (refine WP_cond_true rfl ?_) | (refine WP_cond_false rfl ?_) | (refine Zcd (fun hc => ?_) (fun hc => ?_) <;> (try (exfalso; omega))) | (with_reducible apply WP_skip) | (with_reducible apply WP_block) | (with_reducible apply WP_exit) | (with_reducible apply WP_ret)) | (refine Zhn ?_) | (with_reducible apply QBlock_normal) | (refine Zhx ?_) | (with_reducible apply QBlock_hit) | (refine Zqb ?_) | (with_reducible apply QLoop_exit) | (refine Zhr ?_) | (with_reducible apply QBlock_ret) | (with_reducible apply QLoop_ret))
      refine QLoop_normal ⟨c + 1, x + 1, rows2, X3 ++ svH 3 1 (nb + 1) (intL begin ++ [.int .i64 x]) s39 XC, vals2, s2⟩ (.cons rfl (.cons rfl .nil)) (by repeat (first | exact Off.frame rfl | exact Off.refl _ _ | refine Off.frameT rfl rfl ?_ | refine Off.upd rfl ?_ | refine Off.updO rfl ?_)) (Wk.sv (Wk.appK _ (.drop (.refl _)))) ⟨by dsimp only; omega, by dsimp only; omega, ?_, hs2, hrd2, X3 ++ svH 3 1 (nb + 1) (intL begin ++ [.int .i64 x]) s39 X2, ?_⟩ (by dsimp only; omega)
      · dsimp only
        rw [hr2, hrows, List.append_assoc, List.take_succ_eq_append_getElem (by omega), List.flatMap_append, List.flatMap_singleton, vals_get _ _ (by omega), hx]
      · dsimp only
        rw [hX2, svH_app, List.append_assoc]
    · have hcW : c = W := by omega
      subst hcW
      repeat' (first | (refine GiP ?_; first | (refine Znh ?_) | (with_reducible refine Znl ?_)) | (refine GiW ?_; first | (refine Zsq fun K hK => ?_) | (refine ZrN 5 fun _ => ?_; refine Zv Zmi ?_; refine Zv Zmv ?_; refine Zv Zmi ?_; refine Zv Zia ?_; refine Zv Zfa ?_; refine Zv Zld ?_; refine Zv Zyleq ?_) | (refine ZrN 8 fun _ => ?_; refine Zv Zmv ?_; refine Zv Zav ?_) | (refine WP_cond_true rfl ?_) | (refine WP_cond_false rfl ?_) | (refine Zcd (fun hc => ?_) (fun hc => ?_) <;> (try (exfalso; omega))) | (with_reducible apply WP_skip) | (with_reducible apply WP_block) | (with_reducible apply WP_exit) | (with_reducible apply WP_ret)) | (refine Zhn ?_) | (with_reducible apply QBlock_normal) | (refine Zhx ?_) | (with_reducible apply QBlock_hit) | (refine Zqb ?_) | (with_reducible apply QLoop_exit) | (refine Zhr ?_) | (with_reducible apply QBlock_ret) | (with_reducible apply QLoop_ret))
      refine QBody_ret1 rfl rfl ⟨svH 52 1 rowsC.length valsC sC (XC ++ L), (by repeat (first | exact Wk.refl _ | apply Wk.keep1 | apply Wk.drop | apply Wk.sv | apply Wk.svD | apply Wk.appD)), _, rfl, rowsC, X2, valsC, sC, rfl, ?_, hsC, by rw [← hX2]; exact hrdC, by rw [← hX2]⟩
      rw [hrows, lsF_cons, List.take_of_length_le (by omega)]
end
end Go.Proofs.Ytlpahkmfjpjheaa
end

section
namespace Go.Proofs.Ytlpahkmfjpjheaa
open Go.RowKit
/-- A list that is not empty lies somewhere. -/
theorem RdL.opn {X : Hp} {v : Value} {row : List Int} (h : RdL X v row) (hne : 0 < row.length) : ∃ b c, v = .slice (some ⟨b, 0, none⟩) row.length c ∧ ∀ (j : Nat) (x : Int), row[j]? = some x → RdX X b (0 + j) (.int .i64 x) := by
  obtain ⟨A, c, rfl, h⟩ := h
  obtain ⟨b, rfl, _⟩ := h 0 _ (List.getElem?_eq_getElem hne)
  refine ⟨b, c, rfl, fun j x hj => ?_⟩
  obtain ⟨b', h1, h2⟩ := h j x hj
  simp only [Option.some.injEq, Addr.mk.injEq, and_true] at h1
  rw [h1, Nat.zero_add]; exact h2
/-- A truth that there can be. -/
structure TruOk (h : Hv) (t : Tru) : Prop where
  fl : t.1.length = h.heaps.length
  rl : t.2.length = h.rains.length
  fb : ∀ x ∈ t.1, 0 ≤ x ∧ x ≤ 100
  rb : ∀ x ∈ t.2, 0 ≤ x ∧ x ≤ 10
theorem tru_ok {h : Hv} (hv : VH h) {t : Tru} (h1 : InR (firstsL h) t.1) (h2 : InR h.rains t.2) : TruOk h t := by
  refine ⟨by rw [h1.1, firstsL_len], h2.1, fun x hx => ?_, fun x hx => ?_⟩
  · obtain ⟨k, hk, rfl⟩ := List.getElem_of_mem hx
    have hk' : k < h.heaps.length := by rw [h1.1, firstsL_len] at hk; exact hk
    have h3 := h1.2 k _ _ (firstsL_get hk') (List.getElem?_eq_getElem hk)
    have h4 := hv.tf _ (tfOf_mem hk')
    dsimp only at h3
    omega
  · obtain ⟨k, hk, rfl⟩ := List.getElem_of_mem hx
    have hk' : k < h.rains.length := by rw [← h2.1]; exact hk
    have h3 := h2.2 k _ _ (List.getElem?_eq_getElem hk') (List.getElem?_eq_getElem hk)
    have h4 := hv.rn _ (List.getElem_mem hk')
    omega
theorem evening_take {h : Hv} {place n : Int} {rs : List Int} {k : Nat} (hk : k < rs.length) : evening h place n (rs.take (k + 1)) = after h.d0 h.d1 h.d2 place (evening h place n (rs.take k)) rs[k] := by
  unfold evening
  rw [List.take_succ_eq_append_getElem hk, List.foldl_append]; rfl
theorem evening_bd {h : Hv} (hv : VH h) {place : Int} {rs : List Int} (hr : ∀ x ∈ rs, 0 ≤ x ∧ x ≤ 10) : ∀ {n : Int}, 0 ≤ n ∧ n ≤ 100 → 0 ≤ evening h place n rs ∧ evening h place n rs ≤ 100 := by
  have hd := hv.dr
  unfold evening
  induction rs with
  | nil => intro n hn; exact hn
  | cons x rs ih =>
    intro n hn
    rw [List.foldl_cons]
    refine ih (fun y hy => hr y (.tail _ hy)) ?_
    have := hr x (.head _)
    unfold after afterDry
    split
    · split
      · omega
      · split <;> omega
    · omega
attribute [local irreducible] AnyO AnyB QAny QB EWalk AWalk Ev WP OPS QThen QBlock QScope QLoop QBody Val New Turn Tri Enters PostA Blk Ro
attribute [local irreducible] AnyC QC
section
variable (N : Nat) (w0 : World)
set_option maxRecDepth 100000 in
set_option maxHeartbeats 4000000 in
theorem in93_ret (L : Hp) (g : Bg) (hA : HeapAt N w0 g) (hv : VH g.h) (t : Tru) (ht : TruOk g.h t) (u v : Value) (hu : RdL L u t.1) (hvv : RdL L v t.2) (i d : Nat) (hi : i < g.h.heaps.length) (hd : d < g.h.rains.length) :
    Ret Try.prog N w0 L 93 [heapV g, .agg [u, v].toArray, .int .i64 (i : Int), .int .i64 (d : Int)].toArray (.int .i64 (evnT g.h t i d)) := by
  have hnh := hv.nh
  have hnr := hv.nr
  obtain ⟨first, rains⟩ := t
  obtain ⟨fl, rl, fb, rb⟩ := ht
  dsimp only at fl rl fb rb hu hvv
  obtain ⟨bF, cF, rfl, hF⟩ := hu.opn (by omega)
  obtain ⟨bR, cR, rfl, hR⟩ := hvv.opn (by omega)
  have hif : i < first.length := by omega
  obtain ⟨n0, hn0⟩ : ∃ n0, first[i] = n0 := ⟨_, rfl⟩
  have hn0b := fb n0 (by rw [← hn0]; exact List.getElem_mem hif)
  have hrF := hF i n0 (by rw [List.getElem?_eq_getElem hif, hn0])
  obtain ⟨bA, oA, hA1, hbA, hcA⟩ := hA.heaps.row i hi
  obtain ⟨tf, htf0⟩ : ∃ t, g.h.heaps[i] = t := ⟨_, rfl⟩
  have htf : tfOf g.h i = tf := by have := tfOf_get hi; rw [List.getElem?_eq_getElem hi, htf0] at this; simpa using this.symm
  have htb := hv.tf tf (by rw [← htf0]; exact List.getElem_mem hi)
  rw [htf0] at hcA
  obtain ⟨p, lo, hi'⟩ := tf
  dsimp only at htb
  obtain ⟨q, hq⟩ : ∃ q : Nat, p = q := ⟨p.toNat, by omega⟩
  subst hq
  have c0 := RoAt' hcA 0 _ rfl
  have hdr := hv.dr
  have hev : evnT g.h (first, rains) i d = evening g.h q n0 (rains.take (d + 1)) := by
    unfold evnT evn
    rw [htf, List.getD_eq_getElem?_getD, List.getElem?_eq_getElem hif, hn0]; rfl
  rw [hev]
  refine Ret.fgt ?_
  refine tri_of_WP Try.func93 rfl (n := 48) rfl (by simp) ?_
  unfold heapV hvL
  repeat' (first | (refine GiP ?_; first | (refine Znh ?_) | (with_reducible refine Znl ?_)) | (refine GiW ?_; first | (refine Zsq fun K hK => ?_) | (refine ZrN 0 fun _ => ?_; refine Zal 4 fun b4 => ?_; refine Zal 5 fun b5 => ?_; refine Zv Zai ?_) | (refine ZrN 1 fun _ => ?_; refine Zv Zf0 ?_; (first | (refine Zv (Val_loadD1 rfl (RdX.rd (RdX.wk hrF (by repeat (first | exact Wk.refl _ | apply Wk.keep1 | apply Wk.drop | apply Wk.sv | apply Wk.svD | apply Wk.appD))))) ?_) | (refine Zv Zld ?_)); refine Zv Zmi ?_; refine Zv Zia ?_; (first | (refine Zv (Val_loadD1 rfl (RdX.rd (RdX.wk hrF (by repeat (first | exact Wk.refl _ | apply Wk.keep1 | apply Wk.drop | apply Wk.sv | apply Wk.svD | apply Wk.appD))))) ?_) | (refine Zv Zld ?_)); refine Zv Zai ?_) | (refine ZrN 2 fun _ => ?_; refine Zv Zai ?_) | (refine WP_cond_true rfl ?_) | (refine WP_cond_false rfl ?_) | (refine Zcd (fun hc => ?_) (fun hc => ?_) <;> (try (exfalso; omega))) | (with_reducible apply WP_skip) | (with_reducible apply WP_block) | (with_reducible apply WP_exit) | (with_reducible apply WP_ret)) | (refine Zhn ?_) | (with_reducible apply QBlock_normal) | (refine Zhx ?_) | (with_reducible apply QBlock_hit) | (refine Zqb ?_) | (with_reducible apply QLoop_exit) | (refine Zhr ?_) | (with_reducible apply QBlock_ret) | (with_reducible apply QLoop_ret))
  refine WP_loop [9, 10, 16, 17, 18, 19, 20, 21, 22, 23, 24, 25, 26, 27, 28, 29, 30, 31, 32, 33, 34, 35, 36, 37, 38, 39, 40, 41, 42, 43, 44, 45, 46] (fun st : Nat × Int => [(10, .int .i64 (st.1 : Int)), (9, .int .i64 st.2)]) (fun _ => (b5, Blk 89 [.slice (some ⟨bF, 0, none⟩) first.length cF, .slice (some ⟨bR, 0, none⟩) rains.length cR]) :: (b4, Blk 27 (hvL g)) :: L) (fun st => st.1 ≤ d + 1 ∧ st.2 = evening g.h q n0 (rains.take st.1)) (fun st => d + 1 - st.1) (0, n0) (.cons rfl (.cons rfl .nil)) (by repeat (first | exact Wk.refl _ | apply Wk.keep1 | apply Wk.drop | apply Wk.sv | apply Wk.svD | apply Wk.appD)) ⟨Nat.zero_le _, rfl⟩ ?_
  rintro ⟨k, m⟩ j ⟨hk, hm⟩
  dsimp only at hk hm ⊢
  unfold hvL
  by_cases hlt : k < d + 1
  · have hkr : k < rains.length := by omega
    obtain ⟨r, hr⟩ : ∃ r, rains[k] = r := ⟨_, rfl⟩
    have hrb := rb r (by rw [← hr]; exact List.getElem_mem hkr)
    have hrR := hR k r (by rw [List.getElem?_eq_getElem hkr, hr])
    have hnx := evening_take (h := g.h) (place := q) (n := n0) hkr
    have hmb : 0 ≤ m ∧ m ≤ 100 := by rw [hm]; exact evening_bd hv (fun x hx => rb x (List.mem_of_mem_take hx)) hn0b
    rw [← hm, hr] at hnx
    by_cases hr0 : r = 0
    · subst hr0
      have hq3 : q = 0 ∨ q = 1 ∨ q = 2 := by omega
      rcases hq3 with rfl | rfl | rfl
      all_goals repeat' (first | (refine GiP ?_; first | (refine Znh ?_) | (with_reducible refine Znl ?_)) | (refine GiW ?_; first | (refine Zsq fun K hK => ?_) | (refine ZrN 3 fun _ => ?_; refine Zv Zmi ?_; refine Zv Zmi ?_; refine Zv Zyleq ?_) | (refine ZrN 5 fun _ => ?_; refine Zv Zfa ?_; (first | (refine Zv (Val_loadD1 rfl (RdX.rd (RdX.wk hrR (by repeat (first | exact Wk.refl _ | apply Wk.keep1 | apply Wk.drop | apply Wk.sv | apply Wk.svD | apply Wk.appD))))) ?_) | (refine Zv Zld ?_)); refine Zv Zmi ?_; refine Zv Zia ?_; (first | (refine Zv (Val_loadD1 rfl (RdX.rd (RdX.wk hrR (by repeat (first | exact Wk.refl _ | apply Wk.keep1 | apply Wk.drop | apply Wk.sv | apply Wk.svD | apply Wk.appD))))) ?_) | (refine Zv Zld ?_)); refine Zv Zygtr ?_) | (refine ZrN 7 fun _ => ?_; refine Zv Zmi ?_; refine Zv Zf0 ?_; (first | (refine Zv (Val_loadD1 rfl (RdX.rd (RdX.wk hrR (by repeat (first | exact Wk.refl _ | apply Wk.keep1 | apply Wk.drop | apply Wk.sv | apply Wk.svD | apply Wk.appD))))) ?_) | (refine Zv Zld ?_)); refine Zv Zmi ?_; refine Zv Zia ?_; refine Zv Zf0 ?_; (first | (refine Zv (Val_loadD1 rfl (RdX.rd (RdX.wk hrR (by repeat (first | exact Wk.refl _ | apply Wk.keep1 | apply Wk.drop | apply Wk.sv | apply Wk.svD | apply Wk.appD))))) ?_) | (refine Zv Zld ?_)); refine Zv Zfa ?_; refine Zv ZiA ?_; (first | (refine Zv (Val_loadD1 rfl (RdX.rd (RdX.wk hrR (by repeat (first | exact Wk.refl _ | apply Wk.keep1 | apply Wk.drop | apply Wk.sv | apply Wk.svD | apply Wk.appD))))) ?_) | (refine Zv Zld ?_)); refine Zv Zxsub ?_; refine Zv Zxmax ?_; refine Zv Zai ?_) | (refine ZrN 4 fun _ => ?_; refine Zv Zmi ?_; refine Zv Zxadd ?_; refine Zv Zai ?_) | (refine WP_cond_true rfl ?_) | (refine WP_cond_false rfl ?_) | (refine Zcd (fun hc => ?_) (fun hc => ?_) <;> (try (exfalso; omega))) | (with_reducible apply WP_skip) | (with_reducible apply WP_block) | (with_reducible apply WP_exit) | (with_reducible apply WP_ret)) | (refine Zhn ?_) | (with_reducible apply QBlock_normal) | (refine Zhx ?_) | (with_reducible apply QBlock_hit) | (refine Zqb ?_) | (with_reducible apply QLoop_exit) | (refine Zhr ?_) | (with_reducible apply QBlock_ret) | (with_reducible apply QLoop_ret))
      all_goals exact QLoop_normal (k + 1, _) (.cons rfl (.cons rfl .nil)) (by repeat (first | exact Off.frame rfl | exact Off.refl _ _ | refine Off.frameT rfl rfl ?_ | refine Off.upd rfl ?_ | refine Off.updO rfl ?_)) (by repeat (first | exact Wk.refl _ | apply Wk.keep1 | apply Wk.drop | apply Wk.sv | apply Wk.svD | apply Wk.appD)) ⟨by dsimp only; omega, by dsimp only; rw [hnx]; unfold after afterDry; simp⟩ (by dsimp only; omega)
    · repeat' (first | (refine GiP ?_; first | (refine Znh ?_) | (with_reducible refine Znl ?_)) | (refine GiW ?_; first | (refine Zsq fun K hK => ?_) | (refine ZrN 3 fun _ => ?_; refine Zv Zmi ?_; refine Zv Zmi ?_; refine Zv Zyleq ?_) | (refine ZrN 5 fun _ => ?_; refine Zv Zfa ?_; (first | (refine Zv (Val_loadD1 rfl (RdX.rd (RdX.wk hrR (by repeat (first | exact Wk.refl _ | apply Wk.keep1 | apply Wk.drop | apply Wk.sv | apply Wk.svD | apply Wk.appD))))) ?_) | (refine Zv Zld ?_)); refine Zv Zmi ?_; refine Zv Zia ?_; (first | (refine Zv (Val_loadD1 rfl (RdX.rd (RdX.wk hrR (by repeat (first | exact Wk.refl _ | apply Wk.keep1 | apply Wk.drop | apply Wk.sv | apply Wk.svD | apply Wk.appD))))) ?_) | (refine Zv Zld ?_)); refine Zv Zygtr ?_) | (refine ZrN 6 fun _ => ?_; refine Zv Zmi ?_; refine Zv Zfa ?_; (first | (refine Zv (Val_loadD1 rfl (RdX.rd (RdX.wk hrR (by repeat (first | exact Wk.refl _ | apply Wk.keep1 | apply Wk.drop | apply Wk.sv | apply Wk.svD | apply Wk.appD))))) ?_) | (refine Zv Zld ?_)); refine Zv Zmi ?_; refine Zv Zia ?_; (first | (refine Zv (Val_loadD1 rfl (RdX.rd (RdX.wk hrR (by repeat (first | exact Wk.refl _ | apply Wk.keep1 | apply Wk.drop | apply Wk.sv | apply Wk.svD | apply Wk.appD))))) ?_) | (refine Zv Zld ?_)); refine Zv Zxadd ?_; refine Zv Zxmin ?_; refine Zv Zai ?_) | (refine ZrN 4 fun _ => ?_; refine Zv Zmi ?_; refine Zv Zxadd ?_; refine Zv Zai ?_) | (refine WP_cond_true rfl ?_) | (refine WP_cond_false rfl ?_) | (refine Zcd (fun hc => ?_) (fun hc => ?_) <;> (try (exfalso; omega))) | (with_reducible apply WP_skip) | (with_reducible apply WP_block) | (with_reducible apply WP_exit) | (with_reducible apply WP_ret)) | (refine Zhn ?_) | (with_reducible apply QBlock_normal) | (refine Zhx ?_) | (with_reducible apply QBlock_hit) | (refine Zqb ?_) | (with_reducible apply QLoop_exit) | (refine Zhr ?_) | (with_reducible apply QBlock_ret) | (with_reducible apply QLoop_ret))
      exact QLoop_normal (k + 1, _) (.cons rfl (.cons rfl .nil)) (by repeat (first | exact Off.frame rfl | exact Off.refl _ _ | refine Off.frameT rfl rfl ?_ | refine Off.upd rfl ?_ | refine Off.updO rfl ?_)) (by repeat (first | exact Wk.refl _ | apply Wk.keep1 | apply Wk.drop | apply Wk.sv | apply Wk.svD | apply Wk.appD)) ⟨by dsimp only; omega, by dsimp only; rw [hnx]; unfold after; rw [if_neg hr0]⟩ (by dsimp only; omega)
  · have hkd : k = d + 1 := by omega
    subst hkd
    repeat' (first | (refine GiP ?_; first | (refine Znh ?_) | (with_reducible refine Znl ?_)) | (refine GiW ?_; first | (refine Zsq fun K hK => ?_) | (refine ZrN 3 fun _ => ?_; refine Zv Zmi ?_; refine Zv Zmi ?_; refine Zv Zyleq ?_) | (refine ZrN 8 fun _ => ?_; refine Zv Zmi ?_; refine Zv Zai ?_) | (refine WP_cond_true rfl ?_) | (refine WP_cond_false rfl ?_) | (refine Zcd (fun hc => ?_) (fun hc => ?_) <;> (try (exfalso; omega))) | (with_reducible apply WP_skip) | (with_reducible apply WP_block) | (with_reducible apply WP_exit) | (with_reducible apply WP_ret)) | (refine Zhn ?_) | (with_reducible apply QBlock_normal) | (refine Zhx ?_) | (with_reducible apply QBlock_hit) | (refine Zqb ?_) | (with_reducible apply QLoop_exit) | (refine Zhr ?_) | (with_reducible apply QBlock_ret) | (with_reducible apply QLoop_ret))
    exact QBody_ret1 rfl (rfl : _ = Value.int _ _) ⟨by rw [hm], (by repeat (first | exact Wk.refl _ | apply Wk.keep1 | apply Wk.drop | apply Wk.sv | apply Wk.svD | apply Wk.appD))⟩
end
end Go.Proofs.Ytlpahkmfjpjheaa
end

section
namespace Go.Proofs.Ytlpahkmfjpjheaa
open Go.RowKit
theorem right_not {h : Hv} {t : Tru} {s k : Nat} (hk : k < h.looks.length) (h1 : lkG h t s k = false) : rightB h t s = false := by
  unfold rightB
  rw [← Bool.not_eq_true, List.all_eq_true]
  intro hh
  rw [hh k (List.mem_range.2 hk)] at h1; cases h1
theorem range_all {p : Nat → Bool} {k : Nat} (h : (List.range k).all p = true) (hk : p k = true) : (List.range (k + 1)).all p = true := by
  rw [List.range_succ, List.all_append, h]; simp [hk]
attribute [local irreducible] AnyO AnyB QAny QB EWalk AWalk Ev WP OPS QThen QBlock QScope QLoop QBody Val New Turn Tri Enters PostA Blk Ro
attribute [local irreducible] AnyC QC
section
variable (N : Nat) (w0 : World)
set_option maxRecDepth 100000 in
set_option maxHeartbeats 4000000 in
theorem right104_ret (L : Hp) (g : Bg) (hA : HeapAt N w0 g) (hv : VH g.h) (t : Tru) (ht : TruOk g.h t) (u v : Value) (hu : RdL L u t.1) (hvv : RdL L v t.2) (s : Nat) (hs : s ≤ 1000000) :
    Ret Try.prog N w0 L 104 [heapV g, .agg [u, v].toArray, .int .i64 (s : Int)].toArray (.bool (rightB g.h t s)) := by
  have hnl := hv.nl
  have hnh := hv.nh
  have hnr := hv.nr
  have h93 := fun (L2 : Hp) (hk : Wk L2 L) => in93_ret N w0 L2 g hA hv t ht u v (hu.wk hk) (hvv.wk hk)
  obtain ⟨bF, cF, rfl, _⟩ := hu.opn (by rw [ht.fl]; omega)
  obtain ⟨bR, cR, rfl, _⟩ := hvv.opn (by rw [ht.rl]; omega)
  refine Ret.fgt ?_
  refine tri_of_WP Try.func104 rfl (n := 41) rfl (by simp) ?_
  unfold heapV hvL at h93 ⊢
  repeat' (first | (refine GiP ?_; first | (refine Znh ?_) | (with_reducible refine Znl ?_)) | (refine GiW ?_; first | (refine Zsq fun K hK => ?_) | (refine ZrN 0 fun _ => ?_; refine Zal 3 fun b3 => ?_; refine Zal 4 fun b4 => ?_; refine Zv Zab ?_) | (refine ZrN 1 fun _ => ?_; refine Zv Zai ?_) | (refine WP_cond_true rfl ?_) | (refine WP_cond_false rfl ?_) | (refine Zcd (fun hc => ?_) (fun hc => ?_) <;> (try (exfalso; omega))) | (with_reducible apply WP_skip) | (with_reducible apply WP_block) | (with_reducible apply WP_exit) | (with_reducible apply WP_ret)) | (refine Zhn ?_) | (with_reducible apply QBlock_normal) | (refine Zhx ?_) | (with_reducible apply QBlock_hit) | (refine Zqb ?_) | (with_reducible apply QLoop_exit) | (refine Zhr ?_) | (with_reducible apply QBlock_ret) | (with_reducible apply QLoop_ret))
  refine WP_loop [6, 7, 8, 9, 10, 11, 12, 13, 14, 15, 16, 17, 18, 19, 20, 21, 22, 23, 24, 25, 26, 27, 28, 29, 30, 31, 32, 33, 34, 35, 36, 37, 38, 39, 40] (fun st : Nat => [(7, .int .i64 (st : Int))]) (fun _ => (b4, Blk 89 [.slice (some ⟨bF, 0, none⟩) t.1.length cF, .slice (some ⟨bR, 0, none⟩) t.2.length cR]) :: (b3, Blk 27 (hvL g)) :: L) (fun st => st ≤ g.h.looks.length ∧ (List.range st).all (lkG g.h t s) = true) (fun st => g.h.looks.length - st) 0 (.cons rfl .nil) (by repeat (first | exact Wk.refl _ | apply Wk.keep1 | apply Wk.drop | apply Wk.sv | apply Wk.svD | apply Wk.appD)) ⟨Nat.zero_le _, rfl⟩ ?_
  rintro k j ⟨hk, hall⟩
  dsimp only at hk hall ⊢
  unfold hvL
  by_cases hlt : k < g.h.looks.length
  · obtain ⟨bA, oA, hA3, hbA, hcA⟩ := hA.looks.row k hlt
    obtain ⟨l, hl⟩ : ∃ l, g.h.looks[k] = l := ⟨_, rfl⟩
    have hlm := hv.lk l (by rw [← hl]; exact List.getElem_mem hlt)
    have hlg : lkG g.h t s k = lkT g.h t s k l := by unfold lkG; rw [List.getElem?_eq_getElem hlt, hl]
    rw [hl] at hcA
    obtain ⟨lh, ld, lo, hi⟩ := l
    dsimp only at hlm
    obtain ⟨i, rfl⟩ : ∃ i : Nat, lh = i := ⟨lh.toNat, by omega⟩
    obtain ⟨d, rfl⟩ : ∃ d : Nat, ld = d := ⟨ld.toNat, by omega⟩
    have h110 := fun L => has110_ret N w0 L s k hs (by omega)
    have h93' := fun L hk => h93 L hk i d (by omega) (by omega)
    obtain ⟨hb, hhb⟩ : ∃ hb, hasB s k = hb := ⟨_, rfl⟩
    obtain ⟨e, he⟩ : ∃ e, evnT g.h t i d = e := ⟨_, rfl⟩
    have hlk : lkT g.h t s k ⟨i, d, lo, hi⟩ = (!hb || within e lo hi) := by
      unfold lkT within
      rw [← hhb, ← he]; rfl
    rw [hhb] at h110
    rw [he] at h93'
    have h84 := fun L => in84_ret N w0 L e lo hi
    obtain ⟨wi, hwi⟩ : ∃ wi, within e lo hi = wi := ⟨_, rfl⟩
    rw [hwi] at h84 hlk
    rw [hlk] at hlg
    cases hb
    · repeat' (first | (refine GiP ?_; first | (refine Znh ?_) | (with_reducible refine Znl ?_)) | (refine GiW ?_; first | (refine Zsq fun K hK => ?_) | (refine ZrN 2 fun _ => ?_; refine Zv Zmi ?_; refine Zv Zfa ?_; refine Zv Zld ?_; refine Zv Zxlen ?_; refine Zv Zylss ?_) | (refine ZrN 4 fun _ => ?_; refine Zv Zfa ?_; refine Zv Zld ?_; refine Zv Zmi ?_; refine Zv Zia ?_; refine Zv Zla ?_; refine Zal 8 fun b8 => ?_; refine Zst ?_) | (refine ZrN 3 fun _ => ?_; refine Zv Zmi ?_; refine Zv Zxadd ?_; refine Zv Zai ?_) | (refine WP_cond_true rfl ?_) | (refine WP_cond_false rfl ?_) | (refine Zcd (fun hc => ?_) (fun hc => ?_) <;> (try (exfalso; omega))) | (with_reducible apply WP_skip) | (with_reducible apply WP_block) | (with_reducible apply WP_exit) | (with_reducible apply WP_ret) | (refine WP_drawn (id := 5) [0, 1, 2, 3, 4, 5, 6, 7, 8, 9, 10, 11, 12, 13, 14, 15, 16, 17, 18, 19] [] (k := 0) prog_mixed (by kernel_rfl) rfl ?_; refine Zew rfl Zmi ?_; refine Zew rfl Zmi ?_; refine Zec rfl (Enters_fn rfl) (fun X => h110 _) ?_; refine Zew rfl Zmb ?_)) | (refine GiE ?_; first | (refine Zati 19 ?_; (first | (refine Zew rfl Zxpt ?_) | (refine Zew rfl Zxpf ?_))) | (refine Zati 4 ?_; refine Zew rfl Zla ?_) | (refine Zati 5 ?_; refine Zew rfl Zla ?_) | (refine Zati 6 ?_; refine Zew rfl Zf0 ?_) | (refine Zati 7 ?_; refine Zew rfl Zld ?_) | (refine Zati 8 ?_; refine Zew rfl Zfa ?_) | (refine Zati 9 ?_; refine Zew rfl Zld ?_) | (refine Zati 11 ?_; refine Zew rfl Zfa ?_) | (refine Zati 12 ?_; refine Zew rfl Zf0 ?_) | (refine Zati 13 ?_; refine Zew rfl Zld ?_) | (refine Zati 14 ?_; refine Zew rfl Zfa ?_) | (refine Zati 15 ?_; refine Zew rfl Zfa ?_) | (refine Zati 16 ?_; refine Zew rfl Zld ?_) | (refine Zati 18 ?_; refine Zew rfl Zxnot ?_) | (refine Zes ?_) | (refine Zesp (fun hc => ?_) (fun hc => ?_) <;> (try (exfalso; omega))) | (with_reducible apply EWalk_nil)) | (refine AnyO_done (by kernel_rfl) ?_; (try with_reducible apply noP_normal); try with_reducible exact key.out) | (refine Zhn ?_) | (with_reducible apply QBlock_normal) | (refine Zhx ?_) | (with_reducible apply QBlock_hit) | (refine Zqb ?_) | (with_reducible apply QLoop_exit) | (refine Zhr ?_) | (with_reducible apply QBlock_ret) | (with_reducible apply QLoop_ret) | (refine AWalk_0 ?_; refine ZisO ?_; apply shr; intro key) | (with_reducible apply QAny_normal))
      exact QLoop_normal (k + 1) (.cons rfl .nil) (by repeat (first | exact Off.frame rfl | exact Off.refl _ _ | refine Off.frameT rfl rfl ?_ | refine Off.upd rfl ?_ | refine Off.updO rfl ?_)) (by repeat (first | exact Wk.refl _ | apply Wk.keep1 | apply Wk.drop | apply Wk.sv | apply Wk.svD | apply Wk.appD)) ⟨by omega, range_all hall hlg⟩ (by omega)
    · cases wi
      · repeat' (first | (refine GiP ?_; first | (refine Znh ?_) | (with_reducible refine Znl ?_)) | (refine GiW ?_; first | (refine Zsq fun K hK => ?_) | (refine ZrN 2 fun _ => ?_; refine Zv Zmi ?_; refine Zv Zfa ?_; refine Zv Zld ?_; refine Zv Zxlen ?_; refine Zv Zylss ?_) | (refine ZrN 4 fun _ => ?_; refine Zv Zfa ?_; refine Zv Zld ?_; refine Zv Zmi ?_; refine Zv Zia ?_; refine Zv Zla ?_; refine Zal 8 fun b8 => ?_; refine Zst ?_) | (refine ZrN 6 fun _ => ?_; refine Zv Zab ?_) | (refine WP_cond_true rfl ?_) | (refine WP_cond_false rfl ?_) | (refine Zcd (fun hc => ?_) (fun hc => ?_) <;> (try (exfalso; omega))) | (with_reducible apply WP_skip) | (with_reducible apply WP_block) | (with_reducible apply WP_exit) | (with_reducible apply WP_ret) | (refine WP_drawn (id := 5) [0, 1, 2, 3, 4, 5, 6, 7, 8, 9, 10, 11, 12, 13, 14, 15, 16, 17, 18, 19] [] (k := 0) prog_mixed (by kernel_rfl) rfl ?_; refine Zew rfl Zmi ?_; refine Zew rfl Zmi ?_; refine Zec rfl (Enters_fn rfl) (fun X => h110 _) ?_; refine Zew rfl Zmb ?_)) | (refine GiE ?_; first | (refine Zati 19 ?_; (first | (refine Zew rfl Zxpt ?_) | (refine Zew rfl Zxpf ?_))) | (refine Zati 4 ?_; refine Zew rfl Zla ?_) | (refine Zati 5 ?_; refine Zew rfl Zla ?_) | (refine Zati 6 ?_; refine Zew rfl Zf0 ?_) | (refine Zati 7 ?_; refine Zew rfl Zld ?_) | (refine Zati 8 ?_; refine Zew rfl Zfa ?_) | (refine Zati 9 ?_; refine Zew rfl Zld ?_) | (refine Zati 10 ?_; refine Zec rfl (Enters_fn rfl) (fun X => h93' _ (by repeat (first | exact Wk.refl _ | apply Wk.keep1 | apply Wk.drop | apply Wk.sv | apply Wk.svD | apply Wk.appD))) ?_) | (refine Zati 11 ?_; refine Zew rfl Zfa ?_) | (refine Zati 12 ?_; refine Zew rfl Zf0 ?_) | (refine Zati 13 ?_; refine Zew rfl Zld ?_) | (refine Zati 14 ?_; refine Zew rfl Zfa ?_) | (refine Zati 15 ?_; refine Zew rfl Zfa ?_) | (refine Zati 16 ?_; refine Zew rfl Zld ?_) | (refine Zati 17 ?_; refine Zec rfl (Enters_fn rfl) (fun X => h84 _) ?_) | (refine Zati 18 ?_; refine Zew rfl Zxnot ?_) | (refine Zes ?_) | (refine Zesp (fun hc => ?_) (fun hc => ?_) <;> (try (exfalso; omega))) | (with_reducible apply EWalk_nil)) | (refine AnyO_done (by kernel_rfl) ?_; (try with_reducible apply noP_normal); try with_reducible exact key.out) | (refine Zhn ?_) | (with_reducible apply QBlock_normal) | (refine Zhx ?_) | (with_reducible apply QBlock_hit) | (refine Zqb ?_) | (with_reducible apply QLoop_exit) | (refine Zhr ?_) | (with_reducible apply QBlock_ret) | (with_reducible apply QLoop_ret) | (refine AWalk_0 ?_; refine ZisO ?_; apply shr; intro key) | (with_reducible apply QAny_normal))
        exact QBody_ret1 rfl (rfl : _ = Value.bool _) ⟨by rw [right_not hlt hlg], (by repeat (first | exact Wk.refl _ | apply Wk.keep1 | apply Wk.drop | apply Wk.sv | apply Wk.svD | apply Wk.appD))⟩
      · repeat' (first | (refine GiP ?_; first | (refine Znh ?_) | (with_reducible refine Znl ?_)) | (refine GiW ?_; first | (refine Zsq fun K hK => ?_) | (refine ZrN 2 fun _ => ?_; refine Zv Zmi ?_; refine Zv Zfa ?_; refine Zv Zld ?_; refine Zv Zxlen ?_; refine Zv Zylss ?_) | (refine ZrN 4 fun _ => ?_; refine Zv Zfa ?_; refine Zv Zld ?_; refine Zv Zmi ?_; refine Zv Zia ?_; refine Zv Zla ?_; refine Zal 8 fun b8 => ?_; refine Zst ?_) | (refine ZrN 3 fun _ => ?_; refine Zv Zmi ?_; refine Zv Zxadd ?_; refine Zv Zai ?_) | (refine WP_cond_true rfl ?_) | (refine WP_cond_false rfl ?_) | (refine Zcd (fun hc => ?_) (fun hc => ?_) <;> (try (exfalso; omega))) | (with_reducible apply WP_skip) | (with_reducible apply WP_block) | (with_reducible apply WP_exit) | (with_reducible apply WP_ret) | (refine WP_drawn (id := 5) [0, 1, 2, 3, 4, 5, 6, 7, 8, 9, 10, 11, 12, 13, 14, 15, 16, 17, 18, 19] [] (k := 0) prog_mixed (by kernel_rfl) rfl ?_; refine Zew rfl Zmi ?_; refine Zew rfl Zmi ?_; refine Zec rfl (Enters_fn rfl) (fun X => h110 _) ?_; refine Zew rfl Zmb ?_)) | (refine GiE ?_; first | (refine Zati 19 ?_; (first | (refine Zew rfl Zxpt ?_) | (refine Zew rfl Zxpf ?_))) | (refine Zati 4 ?_; refine Zew rfl Zla ?_) | (refine Zati 5 ?_; refine Zew rfl Zla ?_) | (refine Zati 6 ?_; refine Zew rfl Zf0 ?_) | (refine Zati 7 ?_; refine Zew rfl Zld ?_) | (refine Zati 8 ?_; refine Zew rfl Zfa ?_) | (refine Zati 9 ?_; refine Zew rfl Zld ?_) | (refine Zati 10 ?_; refine Zec rfl (Enters_fn rfl) (fun X => h93' _ (by repeat (first | exact Wk.refl _ | apply Wk.keep1 | apply Wk.drop | apply Wk.sv | apply Wk.svD | apply Wk.appD))) ?_) | (refine Zati 11 ?_; refine Zew rfl Zfa ?_) | (refine Zati 12 ?_; refine Zew rfl Zf0 ?_) | (refine Zati 13 ?_; refine Zew rfl Zld ?_) | (refine Zati 14 ?_; refine Zew rfl Zfa ?_) | (refine Zati 15 ?_; refine Zew rfl Zfa ?_) | (refine Zati 16 ?_; refine Zew rfl Zld ?_) | (refine Zati 17 ?_; refine Zec rfl (Enters_fn rfl) (fun X => h84 _) ?_) | (refine Zati 18 ?_; refine Zew rfl Zxnot ?_) | (refine Zes ?_) | (refine Zesp (fun hc => ?_) (fun hc => ?_) <;> (try (exfalso; omega))) | (with_reducible apply EWalk_nil)) | (refine AnyO_done (by kernel_rfl) ?_; (try with_reducible apply noP_normal); try with_reducible exact key.out) | (refine Zhn ?_) | (with_reducible apply QBlock_normal) | (refine Zhx ?_) | (with_reducible apply QBlock_hit) | (refine Zqb ?_) | (with_reducible apply QLoop_exit) | (refine Zhr ?_) | (with_reducible apply QBlock_ret) | (with_reducible apply QLoop_ret) | (refine AWalk_0 ?_; refine ZisO ?_; apply shr; intro key) | (with_reducible apply QAny_normal))
        exact QLoop_normal (k + 1) (.cons rfl .nil) (by repeat (first | exact Off.frame rfl | exact Off.refl _ _ | refine Off.frameT rfl rfl ?_ | refine Off.upd rfl ?_ | refine Off.updO rfl ?_)) (by repeat (first | exact Wk.refl _ | apply Wk.keep1 | apply Wk.drop | apply Wk.sv | apply Wk.svD | apply Wk.appD)) ⟨by omega, range_all hall hlg⟩ (by omega)
  · have hkl : k = g.h.looks.length := by omega
    repeat' (first | (refine GiP ?_; first | (refine Znh ?_) | (with_reducible refine Znl ?_)) | (refine GiW ?_; first | (refine Zsq fun K hK => ?_) | (refine ZrN 2 fun _ => ?_; refine Zv Zmi ?_; refine Zv Zfa ?_; refine Zv Zld ?_; refine Zv Zxlen ?_; refine Zv Zylss ?_) | (refine ZrN 7 fun _ => ?_; refine Zv Zab ?_) | (refine WP_cond_true rfl ?_) | (refine WP_cond_false rfl ?_) | (refine Zcd (fun hc => ?_) (fun hc => ?_) <;> (try (exfalso; omega))) | (with_reducible apply WP_skip) | (with_reducible apply WP_block) | (with_reducible apply WP_exit) | (with_reducible apply WP_ret)) | (refine Zhn ?_) | (with_reducible apply QBlock_normal) | (refine Zhx ?_) | (with_reducible apply QBlock_hit) | (refine Zqb ?_) | (with_reducible apply QLoop_exit) | (refine Zhr ?_) | (with_reducible apply QBlock_ret) | (with_reducible apply QLoop_ret))
    exact QBody_ret1 rfl (rfl : _ = Value.bool _) ⟨by rw [hkl] at hall; rw [show rightB g.h t s = true from hall], (by repeat (first | exact Wk.refl _ | apply Wk.keep1 | apply Wk.drop | apply Wk.sv | apply Wk.svD | apply Wk.appD))⟩
end
end Go.Proofs.Ytlpahkmfjpjheaa
end
