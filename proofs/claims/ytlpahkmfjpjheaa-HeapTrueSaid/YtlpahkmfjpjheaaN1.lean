/- Ways that meet again. · append to a slice that grows, wherever it stands among what is owned, of a whole slice that can be read, nil or not. · More rules: where memory lies as it lay, calls that give what is new, spans compared. · How wet each heap is in the evening of each day, by the words of the chapter. · The heap laws in plain terms: two heaps of the same wetness; how wet they are by the words of the chapter. · How wet each heap is in the evening of each day: its walk. · The law functions that lay heaps anew: with a look more. · The heap laws in plain terms: both ends. · The law HeapDry: its walk. · The law HeapEnds: its walk. · What is drawn: it lies in its span; one number more was drawn. -/
import Derived.Test.YtlpahkmfjpjheaaM2
import Derived.Test.YtlpahkmfjpjheaaM7
import Derived.Test.YtlpahkmfjpjheaaM8
section
namespace Go.Proofs.Ytlpahkmfjpjheaa
open Go.RowKit
section
variable {P : Program} {r : Option Nat} {n N : Nat} {w0 : World} {Q K : Post} {e : Env} {ds : List Deferred} {L : Hp}
/-- Where ways meet: what is known there (nor); any other way out is as it was (oth). -/
structure HCut {σ : Type} (ws : List Nat) (base : Env) (sl : σ → List (Nat × Value)) (Lp : σ → Hp) (J : σ → Prop) (ds : List Deferred) (K K' : Post) : Prop where
  nor : ∀ (s : σ) (e : Env) (L : Hp), Slots e (sl s) → Off ws e base → Wk L (Lp s) → J s → K' .normal e ds L
  oth : ∀ x e ds L, x ≠ .normal → K x e ds L → K' x e ds L
theorem WP_join {σ : Type} {c y : Code} (hK : HThen P r n N w0 y Q K) (ws : List Nat) (sl : σ → List (Nat × Value)) (Lp : σ → Hp) (J : σ → Prop)
    (h1 : ∀ K', HCut ws e sl Lp J ds K K' → WP P r n N w0 c K' e ds L) (h2 : ∀ s j, J s → WP P r n N w0 y Q (frame ws e (sl s) j) ds (Lp s)) : WP P r n N w0 c K e ds L := by
  refine WP_mono (h1 (fun x e' ds' L' => match x with
    | .normal => ds' = ds ∧ ∃ s, Slots e' (sl s) ∧ Off ws e' e ∧ Wk L' (Lp s) ∧ J s
    | x => K x e' ds' L') ⟨fun s e' L' a b c d => ⟨rfl, s, a, b, c, d⟩, fun x _ _ _ hx h => by cases x <;> first | exact absurd rfl hx | exact h⟩) ?_
  intro x e' ds' L' h
  cases x with
  | normal =>
    obtain ⟨rfl, s, a, b, c, d⟩ := h
    have hf : e' = frame ws e (sl s) e' := frame_intro a.look b
    rw [hf]
    exact hK.normal (WP_wk c (h2 s e' d))
  | _ => exact h
theorem HCut.ret {σ : Type} {ws : List Nat} {base : Env} {sl : σ → List (Nat × Value)} {Lp : σ → Hp} {J : σ → Prop} {ds0 : List Deferred} {K' : Post} (h : HCut ws base sl Lp J ds0 K K') (k : K .ret e ds L) : K' .ret e ds L := h.oth _ _ _ _ (by simp) k
theorem HCut.exit {σ : Type} {ws : List Nat} {base : Env} {sl : σ → List (Nat × Value)} {Lp : σ → Hp} {J : σ → Prop} {ds0 : List Deferred} {K' : Post} {id : Nat} (h : HCut ws base sl Lp J ds0 K K') (k : K (.exit id) e ds L) : K' (.exit id) e ds L := h.oth _ _ _ _ (by simp) k
theorem HCut.panic {σ : Type} {ws : List Nat} {base : Env} {sl : σ → List (Nat × Value)} {Lp : σ → Hp} {J : σ → Prop} {ds0 : List Deferred} {K' : Post} {ch : List PanicEntry} (h : HCut ws base sl Lp J ds0 K K') (k : K (.panic ch) e ds L) : K' (.panic ch) e ds L := h.oth _ _ _ _ (by simp) k
end
end Go.Proofs.Ytlpahkmfjpjheaa
end

section
namespace Go.Proofs.Ytlpahkmfjpjheaa
open Go.RowKit
section
variable {P : Program} {r : Option Nat} {n N : Nat} {w0 : World} {L : Hp} {ops : Array Oper} {rest : List Oper} {Q : Post} {e : Env} {ds : List Deferred} {ty : TypeId} {pos : String} {af : Array Edge} {g : Option (Nat × Bool)} {d : Option Nat}
theorem run_append_svN {t E : TypeId} [hE : SliceOf P t E] {g' : Bool} {sz bt : Nat} [hS : TySz P E g' sz bt] {k c : Nat} {xs : List Value} {s : Option (Nat × Nat)} {w : World} (hI : Inv N w0 (svH E sz k xs s L) w) (hs : svOk s sz k xs) :
    (Builtin.append_ #[t, t] ty #[svV s k, .slice none 0 c]).run P w = .ok (svV s k) w := by
  have hi := hS.inf
  cases hin : P.info? E with
  | none => rw [hin] at hi; cases hi
  | some i =>
    cases s with
    | none =>
      have := hs.2 rfl
      subst this
      simp [svV, Builtin.append_, run_underlying hE.und, sizeOf, typeInfo, hin, Builtin.lenOf, Builtin.firstCells]
    | some p =>
      obtain ⟨b, cap⟩ := p
      obtain ⟨_, o, _, cur, _, h1, _⟩ := hI.own _ (List.mem_cons_self)
      simp [svV, Builtin.append_, run_underlying hE.und, sizeOf, typeInfo, hin, Builtin.lenOf, Builtin.firstCells, h1, storeCells]
/-- A slice that grows, in its place. -/
inductive Grow (E : TypeId) (sz k : Nat) (xs : List Value) (s : Option (Nat × Nat)) (k' : Nat) (xs' : List Value) (s' : Option (Nat × Nat)) : Hp → Hp → Prop
  | here {L : Hp} : Grow E sz k xs s k' xs' s' (svH E sz k xs s L) (svH E sz k' xs' s' L)
  | there {x : Nat × (Obj → Prop)} {L L' : Hp} (h : Grow E sz k xs s k' xs' s' L L') : Grow E sz k xs s k' xs' s' (x :: L) (x :: L')
  | sv {E2 : TypeId} {sz2 k2 : Nat} {xs2 : List Value} {s2 : Option (Nat × Nat)} {L L' : Hp} (h : Grow E sz k xs s k' xs' s' L L') : Grow E sz k xs s k' xs' s' (svH E2 sz2 k2 xs2 s2 L) (svH E2 sz2 k2 xs2 s2 L')
  | app {X L L' : Hp} (h : Grow E sz k xs s k' xs' s' L L') : Grow E sz k xs s k' xs' s' (X ++ L) (X ++ L')
theorem svH_app {E : TypeId} {sz k : Nat} {xs : List Value} {s : Option (Nat × Nat)} {A B : Hp} : svH E sz k xs s (A ++ B) = svH E sz k xs s A ++ B := by cases s <;> rfl
theorem svH_nil {E : TypeId} {sz k : Nat} {xs : List Value} {s : Option (Nat × Nat)} {B : Hp} : svH E sz k xs s [] ++ B = svH E sz k xs s B := by cases s <;> rfl
theorem svH_perm {E : TypeId} {sz k : Nat} {xs : List Value} {s : Option (Nat × Nat)} {A B : Hp} (h : A.Perm B) : (svH E sz k xs s A).Perm (svH E sz k xs s B) := by
  cases s with
  | none => exact h
  | some p => exact h.cons _
theorem svH_mid {E : TypeId} {sz k : Nat} {xs : List Value} {s : Option (Nat × Nat)} {X L : Hp} : (X ++ svH E sz k xs s L).Perm (svH E sz k xs s (X ++ L)) := by
  cases s with
  | none => exact .refl _
  | some p => exact List.perm_middle
theorem Grow.perm {E : TypeId} {sz k : Nat} {xs : List Value} {s : Option (Nat × Nat)} {k' : Nat} {xs' : List Value} {s' : Option (Nat × Nat)} {L L' : Hp} (h : Grow E sz k xs s k' xs' s' L L') : ∃ Lb, L.Perm (svH E sz k xs s Lb) ∧ L'.Perm (svH E sz k' xs' s' Lb) := by
  induction h with
  | @here L => exact ⟨L, .refl _, .refl _⟩
  | @there x L L' h ih =>
    obtain ⟨Lb, h1, h2⟩ := ih
    exact ⟨x :: Lb, (h1.cons x).trans (svH_mid (X := [x])), (h2.cons x).trans (svH_mid (X := [x]))⟩
  | @sv E2 sz2 k2 xs2 s2 L L' h ih =>
    obtain ⟨Lb, h1, h2⟩ := ih
    refine ⟨svH E2 sz2 k2 xs2 s2 [] ++ Lb, (svH_perm h1).trans ?_, (svH_perm h2).trans ?_⟩
    · rw [← svH_nil]; exact svH_mid
    · rw [← svH_nil]; exact svH_mid
  | @app X L L' h ih =>
    obtain ⟨Lb, h1, h2⟩ := ih
    exact ⟨X ++ Lb, (h1.append_left X).trans svH_mid, (h2.append_left X).trans svH_mid⟩
theorem svV_inj {s s2 : Option (Nat × Nat)} {k : Nat} (h : svV s k = svV s2 k) : s = s2 := by
  cases s with
  | none => cases s2 with
    | none => rfl
    | some q => obtain ⟨q1, q2⟩ := q; simp [svV] at h
  | some p => cases s2 with
    | none => obtain ⟨q1, q2⟩ := p; simp [svV] at h
    | some q => obtain ⟨p1, p2⟩ := p; obtain ⟨q1, q2⟩ := q; simp [svV] at h; simp [h.1, h.2]
/-- What is appended can be read; nil has nothing. -/
theorem OPS_appendG {t E : TypeId} [hE : SliceOf P t E] {g' : Bool} {sz bt : Nat} [hS : TySz P E g' (sz + 1) bt] {z : List Value} [hZ : TyZero P E z] (hz : z.length = sz + 1)
    {x y : Operand} {k m c : Nat} {A : Option Addr} {xs news : List Value} {s : Option (Nat × Nat)} {L' : Option (Nat × Nat) → Hp} {d : Nat} (hx : ev e x = svV s k) (hy : ev e y = .slice A m c) (hL : ∀ s', Grow E (sz + 1) k xs s (k + m) (xs ++ news) s' L (L' s'))
    (hs : svOk s (sz + 1) k xs) (hn : ∀ w, Inv N w0 L w → ∀ j u, news[j]? = some u → ∃ b2 o2, A = some ⟨b2, o2, none⟩ ∧ w.cell? ⟨b2, o2 + j, none⟩ = some u) (hA : A = none → m = 0) (hl : news.length = m * (sz + 1)) (h1 : ones news = true) (h63 : k + m ≤ maxLen) (hby : (k + m) * bt ≤ 140737488355328)
    (h : ∀ s', svOk s' (sz + 1) (k + m) (xs ++ news) → OPS P r n N w0 ops rest Q (upd e d (svV s' (k + m))) ds (L' s'))
    (hg : Region.wanted ⟨some d, .call { callee := .builtin .append, args := #[x, y], argTypes := #[t, t] }, ty, pos, af, g⟩ (yieldE ops e) = true := by rfl) (hd : Nat.blt d n = true := by rfl) :
    OPS P r n N w0 ops (⟨some d, .call { callee := .builtin .append, args := #[x, y], argTypes := #[t, t] }, ty, pos, af, g⟩ :: rest) Q e ds L := by
  refine OPS_any (K := fun v L2 => ∃ s', v = svV s' (k + m) ∧ L2 = L' s' ∧ svOk s' (sz + 1) (k + m) (xs ++ news)) (fun w hI => ?_) hg rfl hd ?_
  · obtain ⟨Lb0, hp0, _⟩ := (hL s).perm
    have hI0 := hI.perm hp0
    cases A with
    | none =>
      have hm := hA rfl
      subst hm
      have hnw : news = [] := List.eq_nil_of_length_eq_zero (by rw [hl]; omega)
      subst hnw
      have hr := run_append_svN (P := P) (ty := ty) (t := t) (E := E) (c := c) hI0 hs
      obtain ⟨Lb, hp1, hp2⟩ := (hL s).perm
      refine ⟨_, w, _, by simp [execOp, resolve, invoke, builtin, hx, hy, hr], ?_, s, rfl, rfl, by simpa using hs⟩
      refine Inv.perm ?_ hp2.symm
      simp only [Nat.add_zero, List.append_nil]
      exact hI.perm hp1
    | some a =>
      have key := fun Lb (hI' : Inv N w0 (svH E (sz + 1) k xs s Lb) w) => run_append_sv (P := P) (ty := ty) (t := t) (E := E) (a := a) (m := m) (c := c) hz hI' hs hl (fun j u hj => by
        obtain ⟨b2, o2, ha, hc⟩ := hn w hI j u hj
        simp only [Option.some.injEq] at ha
        subst ha
        rw [addr_add]; exact hc) h1 h63 hby
      obtain ⟨s', w', hr, hI', hs'⟩ := key Lb0 hI0
      obtain ⟨Lb, hp1, hp2⟩ := (hL s').perm
      obtain ⟨s2, w2, hr2, hI2, hs2⟩ := key Lb (hI.perm hp1)
      have he : s2 = s' ∧ w2 = w' := by
        rw [hr] at hr2
        simp only [Result.ok.injEq] at hr2
        obtain ⟨h3, h4⟩ := hr2
        exact ⟨(svV_inj (by simpa using h3)).symm, h4.symm⟩
      obtain ⟨rfl, rfl⟩ := he
      exact ⟨_, w2, _, by simp [execOp, resolve, invoke, builtin, hx, hy, hr], hI2.perm hp2.symm, s2, rfl, rfl, hs'⟩
  · rintro v L2 ⟨s', rfl, rfl, hs'⟩
    exact h s' hs'
/-- To a slice without elements. -/
theorem OPS_append0 {t E : TypeId} [hE : SliceOf P t E] {g' : Bool} {sz bt : Nat} [hS : TySz P E g' (sz + 1) bt] {z : List Value} [hZ : TyZero P E z] (hz : z.length = sz + 1)
    {x y : Operand} {m c : Nat} {A : Option Addr} {news : List Value} {s : Option (Nat × Nat)} {L' : Option (Nat × Nat) → Hp} {d : Nat} (hx : ev e x = svV s 0) (hy : ev e y = .slice A m c) (hL : ∀ s', Grow E (sz + 1) 0 [] s m news s' L (L' s'))
    (hs : svOk s (sz + 1) 0 []) (hn : ∀ w, Inv N w0 L w → ∀ j u, news[j]? = some u → ∃ b2 o2, A = some ⟨b2, o2, none⟩ ∧ w.cell? ⟨b2, o2 + j, none⟩ = some u) (hA : A = none → m = 0) (hl : news.length = m * (sz + 1)) (h1 : ones news = true) (h63 : m ≤ maxLen) (hby : m * bt ≤ 140737488355328)
    (h : ∀ s', svOk s' (sz + 1) m news → OPS P r n N w0 ops rest Q (upd e d (svV s' m)) ds (L' s'))
    (hg : Region.wanted ⟨some d, .call { callee := .builtin .append, args := #[x, y], argTypes := #[t, t] }, ty, pos, af, g⟩ (yieldE ops e) = true := by rfl) (hd : Nat.blt d n = true := by rfl) :
    OPS P r n N w0 ops (⟨some d, .call { callee := .builtin .append, args := #[x, y], argTypes := #[t, t] }, ty, pos, af, g⟩ :: rest) Q e ds L := by
  have e1 : 0 + m = m := Nat.zero_add m
  refine OPS_appendG (L' := L') (k := 0) (xs := []) hz hx hy (fun s' => ?_) hs hn hA hl h1 (by omega) (by rw [e1]; exact hby) (fun s' hs' => ?_) hg hd
  · rw [e1]; exact hL s'
  · rw [e1] at hs' ⊢; exact h s' hs'
theorem blk_src {b T : Nat} {l : List Value} (hm : Mem b (Blk T l) L) : ∀ w, Inv N w0 L w → ∀ j u, l[j]? = some u → ∃ b2 o2, some (⟨b, 0, none⟩ : Addr) = some ⟨b2, o2, none⟩ ∧ w.cell? ⟨b2, o2 + j, none⟩ = some u := fun w hI j u hj => ⟨b, 0, rfl, blk_cells hm w hI j u hj⟩
/-- append of elements that were just laid. -/
theorem Zag {t E : TypeId} [hE : SliceOf P t E] {g' : Bool} {sz bt : Nat} [hS : TySz P E g' (sz + 1) bt] {z : List Value} [hZ : TyZero P E z] {x y : Operand} {k m c b T : Nat} {xs news : List Value} {s : Option (Nat × Nat)} {L' : Option (Nat × Nat) → Hp} {d : Nat}
    (h : ∀ s', svOk s' (sz + 1) (k + m) (xs ++ news) → OPS P r n N w0 ops rest Q (upd e d (svV s' (k + m))) ds (L' s')) (hz : z.length = sz + 1 := by rfl) (hx : ev e x = svV s k := by rfl) (hy : ev e y = .slice (some ⟨b, 0, none⟩) m c := by rfl)
    (hm : Mem b (Blk T news) L := by repeat (first | exact Mem.here | assumption | apply Mem.there | apply Mem.sv | apply Mem.app)) (hs : svOk s (sz + 1) k xs := by assumption) (hL : ∀ s', Grow E (sz + 1) k xs s (k + m) (xs ++ news) s' L (L' s') := by intro s'; repeat (first | exact Grow.here | apply Grow.there | apply Grow.sv | apply Grow.app))
    (hl : news.length = m * (sz + 1) := by rfl) (h1 : ones news = true := by rfl) (h63 : k + m ≤ maxLen := by simp only [maxLen]; omega) (hby : (k + m) * bt ≤ 140737488355328 := by omega)
    (hg : Region.wanted ⟨some d, .call { callee := .builtin .append, args := #[x, y], argTypes := #[t, t] }, ty, pos, af, g⟩ (yieldE ops e) = true := by rfl) (hd : Nat.blt d n = true := by rfl) :
    OPS P r n N w0 ops (⟨some d, .call { callee := .builtin .append, args := #[x, y], argTypes := #[t, t] }, ty, pos, af, g⟩ :: rest) Q e ds L :=
  OPS_appendG hz hx hy hL hs (blk_src hm) (fun h => by cases h) hl h1 h63 hby h hg hd
theorem OPS_perm {l : List Oper} {L2 : Hp} (k : L.Perm L2) (h : OPS P r n N w0 ops l Q e ds L2) : OPS P r n N w0 ops l Q e ds L := fun a w hs he hd hI => h a w hs he hd (hI.perm k)
/-- A new row without elements, to append to. -/
theorem Row_nil {E : TypeId} {sz : Nat} : ∀ o, Blk E [] o → Row E sz 0 0 [] o := by
  intro o ho
  unfold Blk Is at ho
  subst ho
  exact ⟨#[], rfl, Nat.le_refl _, by unfold maxLen; omega, by simp, by simp⟩
theorem Wk.appK (X : Hp) {L L' : Hp} (h : Wk L L') : Wk (X ++ L) (X ++ L') := by
  induction X with
  | nil => exact h
  | cons x X ih => exact .keep1 ih

/-! ## What can be read -/
/-- A cell that reads so as long as X is owned, whatever else is. -/
def RdX (X : Hp) (b o : Nat) (v : Value) : Prop := ∀ (N : Nat) (w0 w : World), Inv N w0 X w → w.cell? ⟨b, o, none⟩ = some v
/-- A cell that reads so here. -/
def Rd (N : Nat) (w0 : World) (L : Hp) (b o : Nat) (v : Value) : Prop := ∀ w, Inv N w0 L w → w.cell? ⟨b, o, none⟩ = some v
theorem RdX.wk {X L : Hp} {b o : Nat} {v : Value} (h : RdX X b o v) (k : Wk L X) : RdX L b o v := fun N w0 w hI => h N w0 w (hI.wk k)
theorem RdX.sub {X L : Hp} {b o : Nat} {v : Value} (h : RdX X b o v) (k : Sub X L) : RdX L b o v := fun N w0 w hI => by
  obtain ⟨L0, k⟩ := k
  refine h N w0 w ((hI.perm (k.trans List.perm_append_comm)).wk (.app L0 X))
theorem RdX.rd {X : Hp} {b o : Nat} {v : Value} (h : RdX X b o v) : Rd N w0 X b o v := fun w hI => h N w0 w hI
theorem Rd.wk {X : Hp} {b o : Nat} {v : Value} (h : Rd N w0 X b o v) (k : Wk L X) : Rd N w0 L b o v := fun w hI => h w (hI.wk k)
theorem Rd.ro {b o : Nat} {v : Value} (hb : b < N) (hv : w0.cell? ⟨b, o, none⟩ = some v) : Rd N w0 L b o v := fun _ hI => hI.cellRo hb hv
theorem Val_loadD1 {t : TypeId} {n bt : Nat} [TySz P t false n bt] {x : Operand} {b o : Nat} {v : Value} (hx : ev e x = .pointer (some ⟨b, o, none⟩)) (hv : Rd N w0 L b o v) : Val P N w0 L e ⟨d, .load t x, ty, pos, af, g⟩ v := by
  intro w hI
  simp [execOp, hx, Instr.loadAt, Instr.sureAddr, run_loadVar1 (hv w hI)]
theorem Val_loadDN {t : TypeId} {n bt : Nat} [TySz P t true n bt] {x : Operand} {b o : Nat} {vs : List Value} (hx : ev e x = .pointer (some ⟨b, o, none⟩)) (hv : ∀ j v, vs[j]? = some v → Rd N w0 L b (o + j) v) (hl : vs.length = n) : Val P N w0 L e ⟨d, .load t x, ty, pos, af, g⟩ (.agg vs.toArray) := by
  intro w hI
  simp [execOp, hx, Instr.loadAt, Instr.sureAddr, run_loadVarN hl (fun j hj => by
    have hj' : j < vs.length := by omega
    rw [addr_add, List.getElem?_eq_getElem hj']; exact hv j _ (List.getElem?_eq_getElem hj') w hI)]
end
end Go.Proofs.Ytlpahkmfjpjheaa
end

section
namespace Go.Proofs.Ytlpahkmfjpjheaa
open Go.RowKit
section
variable {P : Program} {r : Option Nat} {n N : Nat} {w0 : World} {L B : Hp} {e : Env} {ds : List Deferred} {Q : Post} {d : Option Nat} {ty : TypeId} {pos : String} {af : Array Edge} {g : Option (Nat × Bool)}
theorem SlAt.now {A : Option Addr} {sz : Nat} {rows : List (List Value)} (h : SlAt N w0 A sz rows) {w : World} (hI : Inv N w0 L w) : SlAt w.heap.size w A sz rows := by
  intro k hk
  obtain ⟨b, o, h1, h2, h3⟩ := h k hk
  exact ⟨b, o, h1, Nat.lt_of_lt_of_le h2 hI.big, fun j v hj => hI.cellRo h2 (h3 j v hj)⟩
/-- The rows of a slice that grew. -/
theorem sl_sv {E : TypeId} {sz k : Nat} {xs : List Value} {s : Option (Nat × Nat)} (hz : 0 < sz) (hs : svOk s sz k xs) : ∃ A c, svV s k = .slice A k c ∧ ∀ {N : Nat} {w0 : World} {L : Hp} {w : World} {rows : List (List Value)}, Inv N w0 (svH E sz k xs s L) w → xs = rows.flatten → (∀ r ∈ rows, r.length = sz) → SlAt w.heap.size w A sz rows := by
  obtain ⟨A, c, h1, h2⟩ := sv_slice (E := E) hs
  refine ⟨A, c, h1, fun {N w0 L w rows} hI hx hr i hi => ?_⟩
  have hj : ∀ j v, rows[i][j]? = some v → xs[i * sz + j]? = some v := by
    intro j v hj
    have hj2 : j < sz := by
      have := (List.getElem?_eq_some_iff.1 hj).1
      rw [hr _ (List.getElem_mem hi)] at this
      exact this
    rw [hx, flat_get rows i j hi hr hj2]
    exact hj
  obtain ⟨v0, hv0⟩ : ∃ v, rows[i][0]? = some v := ⟨_, List.getElem?_eq_getElem (by rw [hr _ (List.getElem_mem hi)]; omega)⟩
  obtain ⟨b, hA, hb, _⟩ := h2 hI _ _ (hj 0 v0 hv0)
  refine ⟨b, 0, hA, hb, fun j v hjv => ?_⟩
  obtain ⟨b', hA', _, hc⟩ := h2 hI _ _ (hj j v hjv)
  rw [hA] at hA'
  simp only [Option.some.injEq, Addr.mk.injEq, and_true] at hA'
  rw [Nat.zero_add, hA']; exact hc
theorem Inv.on2 {w w' : World} {X : Hp} (h : Inv N w0 L w) (h' : Inv w.heap.size w X w') : Inv N w0 (X ++ L) w' := by
  have h1 := h.on h'
  refine ⟨h1.below, h1.big, ?_, ?_⟩
  · rw [List.pairwise_append]
    refine ⟨h'.dis, h.dis, fun x hx y hy => ?_⟩
    have := (h'.own x hx).1
    have := h.lt hy
    omega
  · intro x hx
    rcases List.mem_append.1 hx with hx | hx
    · obtain ⟨h2, h3⟩ := h'.own x hx
      exact ⟨Nat.le_trans h.big h2, h3⟩
    · exact h1.own x hx
/-- A call that is known from what lies there now, with what it lays anew. -/
theorem Tri.re2 {f : FuncId} {args : Array Value} {K : Value → Hp → Prop} (h : ∀ w, Inv N w0 L w → Tri P w.heap.size w [] f args fun x L' => ∃ v, x = .returned v ∧ ∃ X, L' = X ++ [] ∧ K v X) : Tri P N w0 L f args fun x L' => ∃ v, x = .returned v ∧ ∃ X, L' = X ++ L ∧ K v X := by
  intro w hI
  refine (h w hI w hI.at_).mono ?_
  rintro x w' ⟨L', hI', v, rfl, X, rfl, hK⟩
  rw [List.append_nil] at hI'
  exact ⟨X ++ L, hI.on2 hI', v, rfl, X, rfl, hK⟩
/-- Ways meet: what is owned besides is as it was. -/
theorem WP_joinL {σ : Type} {c y : Code} {K : Post} (hK : HThen P r n N w0 y Q K) (ws : List Nat) (sl : σ → List (Nat × Value)) (X : σ → Hp) (J : σ → Prop)
    (h1 : ∀ K', HCut ws e sl (fun s => X s ++ L) J ds K K' → WP P r n N w0 c K' e ds L) (h2 : ∀ s j, J s → WP P r n N w0 y Q (frame ws e (sl s) j) ds (X s ++ L)) : WP P r n N w0 c K e ds L := WP_join hK ws sl _ J h1 h2
/-- Ways meet at the end of what stands inside. -/
theorem WP_joinQ {σ : Type} {c : Code} (ws : List Nat) (sl : σ → List (Nat × Value)) (Lp : σ → Hp) (J : σ → Prop)
    (h1 : ∀ K', HCut ws e sl Lp J ds Q K' → WP P r n N w0 c K' e ds L) (h2 : ∀ s j L', J s → Wk L' (Lp s) → Q .normal (frame ws e (sl s) j) ds L') : WP P r n N w0 c Q e ds L := by
  refine WP_mono (h1 (fun x e' ds' L' => match x with
    | .normal => ds' = ds ∧ ∃ s, Slots e' (sl s) ∧ Off ws e' e ∧ Wk L' (Lp s) ∧ J s
    | x => Q x e' ds' L') ⟨fun s e' L' a b c d => ⟨rfl, s, a, b, c, d⟩, fun x _ _ _ hx h => by cases x <;> first | exact absurd rfl hx | exact h⟩) ?_
  intro x e' ds' L' h
  cases x with
  | normal =>
    obtain ⟨rfl, s, a, b, c, d⟩ := h
    have hf : e' = frame ws e (sl s) e' := frame_intro a.look b
    rw [hf]
    exact h2 s e' L' d c
  | _ => exact h
/-- One block, wherever it stands. -/
inductive PickH (x : Nat × (Obj → Prop)) : Hp → Hp → Prop
  | here {L : Hp} : PickH x (x :: L) L
  | there {y : Nat × (Obj → Prop)} {L L' : Hp} (h : PickH x L L') : PickH x (y :: L) (y :: L')
  | sv {E sz k : Nat} {xs : List Value} {s : Option (Nat × Nat)} {L L' : Hp} (h : PickH x L L') : PickH x (svH E sz k xs s L) (svH E sz k xs s L')
  | app {X L L' : Hp} (h : PickH x L L') : PickH x (X ++ L) (X ++ L')
theorem PickH.perm {x : Nat × (Obj → Prop)} {L L' : Hp} (h : PickH x L L') : L.Perm (x :: L') := by
  induction h with
  | here => exact .refl _
  | @there y L L' h ih => exact (ih.cons y).trans (.swap _ _ _)
  | @sv E sz k xs s L L' h ih =>
    refine (svH_perm ih).trans ?_
    cases s with
    | none => exact .refl _
    | some p => exact .swap _ _ _
  | @app X L L' h ih => exact (ih.append_left X).trans List.perm_middle
theorem Sub.pickH {x : Nat × (Obj → Prop)} {L' : Hp} (h : PickH x L L') (k : Sub B L') : Sub (x :: B) L := let ⟨L0, k⟩ := k; ⟨L0, h.perm.trans (k.cons x)⟩
theorem Sub.nil : Sub [] L := ⟨L, .refl _⟩
theorem Sub.svK {E sz k : Nat} {xs : List Value} {s : Option (Nat × Nat)} (h : Sub B L) : Sub (svH E sz k xs s B) (svH E sz k xs s L) := by
  obtain ⟨L0, h⟩ := h
  refine ⟨L0, (svH_perm h).trans ?_⟩
  rw [svH_app]
theorem WP_sub {c : Code} (hS : Sub B L) (h : WP P r n N w0 c Q e ds B) : WP P r n N w0 c Q e ds L := by
  obtain ⟨L0, hp⟩ := hS
  exact fun a w hs he hd hI => h a w hs he hd ((hI.perm (hp.trans List.perm_append_comm)).wk (.app L0 B))
/-- Ways meet, what is owned in any order. -/
structure HCutS {σ : Type} (ws : List Nat) (base : Env) (sl : σ → List (Nat × Value)) (Lp : σ → Hp) (J : σ → Prop) (ds : List Deferred) (K K' : Post) : Prop where
  nor : ∀ (s : σ) (e : Env) (L : Hp), Slots e (sl s) → Off ws e base → Sub (Lp s) L → J s → K' .normal e ds L
  oth : ∀ x e ds L, x ≠ .normal → K x e ds L → K' x e ds L
theorem WP_joinS {σ : Type} {c y : Code} {K : Post} (hK : HThen P r n N w0 y Q K) (ws : List Nat) (sl : σ → List (Nat × Value)) (Lp : σ → Hp) (J : σ → Prop)
    (h1 : ∀ K', HCutS ws e sl Lp J ds K K' → WP P r n N w0 c K' e ds L) (h2 : ∀ s j, J s → WP P r n N w0 y Q (frame ws e (sl s) j) ds (Lp s)) : WP P r n N w0 c K e ds L := by
  refine WP_mono (h1 (fun x e' ds' L' => match x with
    | .normal => ds' = ds ∧ ∃ s, Slots e' (sl s) ∧ Off ws e' e ∧ Sub (Lp s) L' ∧ J s
    | x => K x e' ds' L') ⟨fun s e' L' a b c d => ⟨rfl, s, a, b, c, d⟩, fun x _ _ _ hx h => by cases x <;> first | exact absurd rfl hx | exact h⟩) ?_
  intro x e' ds' L' h
  cases x with
  | normal =>
    obtain ⟨rfl, s, a, b, c, d⟩ := h
    have hf : e' = frame ws e (sl s) e' := frame_intro a.look b
    rw [hf]
    exact hK.normal (WP_sub c (h2 s e' d))
  | _ => exact h
/-- A region whose order is left open: what comes ahead of what writes reads B. -/
theorem WP_drawnS {id : Nat} {l : List Oper} (T E A fl : List Nat) {k k2 : Nat} (hS : Sub B L) (hfl : (T.all fun i => match l[i]? with | some o => (match o.dst with | some t => fl.contains t | none => true) | none => true) = true) (hm : P.follows .mixedOrders = true) (hc : drawChk l.toArray T E A = true) (hf : floatChk n l.toArray T E A = true) (hk : l.length = E.length + A.length + (k + k2))
    (h : EWalk P n N w0 l.toArray [] B E e fun ef => AWalk P n l.toArray A ef ef fun e' A' => AnyC P r n N w0 l.toArray Q ds fl B T k2 k (doneOf l.length (E ++ A)) e' (A' ++ L)) : WP P r n N w0 (.region id l.toArray true) Q e ds L := by
  obtain ⟨L0, hp⟩ := hS
  refine WP_drawnC L0 B T E A fl (hp.trans List.perm_append_comm) hfl hm hc hf hk ?_
  obtain ⟨ef, h1, S, h2, h3, h4⟩ := h
  refine ⟨ef, h1, S, h2, h3, h4.mono fun e' A' h5 => h5.perm ?_⟩
  exact List.Perm.append_left A' (hp.trans List.perm_append_comm).symm
/-! ## A row that grew is written -/
theorem setL_take : ∀ (vs l : List Value) (o m : Nat), o + vs.length ≤ m → (setL l o vs).take m = setL (l.take m) o vs
  | [], _, _, _, _ => rfl
  | v :: vs, l, o, m, h => by
    simp only [List.length_cons] at h
    simp only [setL]
    rw [setL_take vs _ (o + 1) m (by omega), List.take_set]
theorem Row.len {E : TypeId} {sz k cap : Nat} {xs : List Value} {o : Obj} (h : Row E sz k cap xs o) : xs.length = k * sz := by
  obtain ⟨cur, _, h1, _, h2, h3⟩ := h
  rw [← h3, List.length_take, Array.length_toList, h2]
  exact Nat.min_eq_left (Nat.mul_le_mul_right sz h1)
theorem Turn_storeRow {t : TypeId} {g' : Bool} {n bt : Nat} [TySz P t g' n bt] {x y : Operand} {b o : Nat} {E : TypeId} {sz k cap : Nat} {v : Value} {xs vs xs' : List Value} {L' : Hp} (hx : ev e x = .pointer (some ⟨b, o, none⟩)) (hy : ev e y = v) (hu : Up L b (Row E sz k cap xs) (Row E sz k cap xs') L')
    (hv : v.cells = vs.toArray) (hl : o + vs.length ≤ k * sz) (hp : setL xs o vs = xs') (hn : vs.length = n) (h1 : ones vs = true) :
    Turn P N w0 L e ⟨d, .store t x y, ty, pos, af, g⟩ L' := by
  intro w hI
  obtain ⟨ob, hob, cur, rfl, hc1, hc2, hc3, hc4⟩ := hI.obj' hu.mem
  have hb : w.heap[b]? = some (.cells cur.toList.toArray E (0, 0)) := by simpa using hob
  have hle : k * sz ≤ cur.toList.length := by rw [Array.length_toList, hc3]; exact Nat.mul_le_mul_right sz hc1
  obtain ⟨w', hr, h2, h3, h4, h5, h6, h7⟩ := run_storeVar (P := P) (w := w) (t := t) (T := E) (l := cur.toList) hv hn h1 (Nat.le_trans hl hle) hb
  refine ⟨w', by simp [execOp, hx, hy, Instr.storeAt, Instr.sureAddr, hr], hI.turn hu h3 h4 h5 (by omega) (fun k _ hk => h7 k hk) ⟨_, h2, _, rfl, hc1, hc2, ?_, ?_⟩⟩
  · rw [List.size_toArray, setL_length, Array.length_toList, hc3]
  · show (setL cur.toList o vs).take (k * sz) = xs'
    rw [setL_take _ _ _ _ hl, hc4, hp]
/-- The rows of a row that grew. -/
theorem sl_row {E sz k cap b : Nat} {xs : List Value} {rows : List (List Value)} {w : World} (hI : Inv N w0 L w) (hm : Mem b (Row E sz k cap xs) L) (hx : xs = rows.flatten) (hr : ∀ r ∈ rows, r.length = sz) : SlAt w.heap.size w (some ⟨b, 0, none⟩) sz rows := by
  obtain ⟨ob, hob, cur, rfl, hc1, hc2, hc3, hc4⟩ := hI.obj' hm
  intro i hi
  refine ⟨b, 0, rfl, (Array.getElem?_eq_some_iff.1 hob).1, fun j v hj => ?_⟩
  have hj2 : j < sz := by
    have := (List.getElem?_eq_some_iff.1 hj).1
    rw [hr _ (List.getElem_mem hi)] at this
    exact this
  have hg := flat_get rows i j hi hr hj2
  rw [← hx, hj] at hg
  rw [Nat.zero_add, cell_of_row w b _ cur E (0, 0) hob]
  have h5 : (cur.toList.take (k * sz))[i * sz + j]? = some v := by rw [hc4]; exact hg
  rw [List.getElem?_take] at h5
  split at h5
  · simpa using h5
  · cases h5
/-- One of the rows is another. -/
theorem setL_row {sz : Nat} : ∀ (rows : List (List Value)) (i : Nat) (r : List Value), (∀ q ∈ rows, q.length = sz) → r.length = sz → i < rows.length → setL rows.flatten (i * sz) r = (rows.set i r).flatten
  | [], _, _, _, _, hi => by simp at hi
  | q :: rows, 0, r, hq, hr, _ => by
    have h1 := hq q (.head _)
    rw [List.set_cons_zero, List.flatten_cons, List.flatten_cons, Nat.zero_mul]
    have key : ∀ (r q l : List Value), r.length = q.length → setL (q ++ l) 0 r = r ++ l := by
      intro r
      induction r with
      | nil => intro q l h; rw [List.eq_nil_of_length_eq_zero (Eq.symm (by simpa using h)) (l := q)]; rfl
      | cons x r ih =>
        intro q l h
        cases q with
        | nil => simp at h
        | cons y q =>
          simp only [List.cons_append, setL, List.set_cons_zero]
          rw [setL_cons, ih q l (by simpa using h)]
    exact key r q _ (by omega)
  | q :: rows, i + 1, r, hq, hr, hi => by
    have h1 := hq q (.head _)
    have ih := setL_row rows i r (fun x hx => hq x (.tail _ hx)) hr (by simpa using hi)
    rw [List.set_cons_succ, List.flatten_cons, List.flatten_cons, ← ih]
    have key : ∀ (q l : List Value) (o : Nat), setL (q ++ l) (o + q.length) r = q ++ setL l o r := by
      intro q
      induction q with
      | nil => intro l o; rfl
      | cons y q ih => intro l o; rw [List.cons_append, List.length_cons, ← Nat.add_assoc, setL_cons, ih]; rfl
    have := key q rows.flatten (i * sz)
    rw [h1] at this
    rw [Nat.succ_mul]
    exact this
/-- '[]T{}': a row without elements, to append to. -/
theorem New_buildSlice0 {t E : TypeId} [hs : SliceOf P t E] {g' : Bool} {sz bt : Nat} [TySz P E g' sz bt] : New P e ⟨d, .buildSlice t 0 #[], ty, pos, af, g⟩ (.cells #[] E (0, 0)) (fun b => svV (some (b, 0)) 0) := by
  intro w
  simp only [execOp, Instr.buildSlice, Sem.run_bind, run_underlying hs.und, Result.andThen_ok, run_sizeOf (P := P) (t := E)]
  have h0 : Array.range 0 = (#[] : Array Nat) := by apply Array.ext'; simp
  simp [newRow, newObj, Sem.run, Instr.fill, svV, h0]
theorem row0 {E : TypeId} {sz : Nat} : Row E sz 0 0 [] (.cells #[] E (0, 0)) := ⟨#[], rfl, Nat.le_refl _, by unfold maxLen; omega, by simp, by simp⟩
theorem svOk0 {b sz : Nat} : svOk (some (b, 0)) sz 0 [] := ⟨by simp, fun h => by cases h⟩
theorem Zbs {ops : Array Oper} {rest : List Oper} {t E : TypeId} [hs : SliceOf P t E] {g' : Bool} {sz bt : Nat} [TySz P E g' sz bt] {d : Nat} (h : ∀ b, OPS P r n N w0 ops rest Q (upd e d (svV (some (b, 0)) 0)) ds (svH E sz 0 [] (some (b, 0)) L))
    (hg : Region.wanted ⟨some d, .buildSlice t 0 #[], ty, pos, af, g⟩ (yieldE ops e) = true := by rfl) (hd : Nat.blt d n = true := by rfl) : OPS P r n N w0 ops (⟨some d, .buildSlice t 0 #[], ty, pos, af, g⟩ :: rest) Q e ds L :=
  OPS_newS (row0 (E := E) (sz := sz)) (New_buildSlice0 (sz := sz) (bt := bt) (g' := g')) hg rfl hd h
theorem inKw {a b : Int} (ha : -1000000 ≤ a ∧ a ≤ 1000000) (hb : -1000000 ≤ b ∧ b ≤ 1000000) : inKs [.i64, .i64] [a, b] := by
  refine ⟨rfl, ?_⟩
  intro p hp
  simp only [List.zip_cons_cons, List.zip_nil_right, List.mem_cons, List.not_mem_nil, or_false] at hp
  rcases hp with rfl | rfl <;> (simp [Lit.wf, IntKind.min, IntKind.max, IntKind.bits, IntKind.signed]; omega)
section
variable {x y : Operand} {t t' : TypeId} {ks : List IntKind} [hk : KeyTy P t ks] {a b : List Int}
theorem Val_neqIF (hx : ev e x = intsV ks a) (hy : ev e y = intsV ks b) (h : a = b) (ha : inKs ks a) (hb : inKs ks b) : Val P N w0 L e ⟨d, .binOp .neq t x y t', ty, pos, af, g⟩ (.bool false) := by
  have := Val_neqI (P := P) (N := N) (w0 := w0) (L := L) (d := d) (t := t) (t' := t') (ty := ty) (pos := pos) (af := af) (g := g) hx hy rfl rfl ha hb
  rwa [decide_eq_true h] at this
theorem Val_neqIT (hx : ev e x = intsV ks a) (hy : ev e y = intsV ks b) (h : a ≠ b) (ha : inKs ks a) (hb : inKs ks b) : Val P N w0 L e ⟨d, .binOp .neq t x y t', ty, pos, af, g⟩ (.bool true) := by
  have := Val_neqI (P := P) (N := N) (w0 := w0) (L := L) (d := d) (t := t) (t' := t') (ty := ty) (pos := pos) (af := af) (g := g) hx hy rfl rfl ha hb
  rwa [decide_eq_false h] at this
end
/-- Spans that are the same. -/
theorem Val_neqS {x y : Operand} {t t' : TypeId} [hk : KeyTy P t [.i64, .i64]] {a b a' b' : Int} (hx : ev e x = .agg [.int .i64 a, .int .i64 b].toArray) (hy : ev e y = .agg [.int .i64 a', .int .i64 b'].toArray) (h1 : a = a') (h2 : b = b') (ha : -1000000 ≤ a ∧ a ≤ 1000000) (hb : -1000000 ≤ b ∧ b ≤ 1000000) : Val P N w0 L e ⟨d, .binOp .neq t x y t', ty, pos, af, g⟩ (.bool false) := by
  subst h1 h2
  exact Val_neqIF (ks := [.i64, .i64]) (a := [a, b]) (b := [a, b]) hx hy rfl (inKw ha hb) (inKw ha hb)
theorem Val_neqU {x y : Operand} {t t' : TypeId} [hk : KeyTy P t [.i64, .i64]] {a b a' b' : Int} (hx : ev e x = .agg [.int .i64 a, .int .i64 b].toArray) (hy : ev e y = .agg [.int .i64 a', .int .i64 b'].toArray) (h1 : a ≠ a' ∨ b ≠ b') (ha : -1000000 ≤ a ∧ a ≤ 1000000) (hb : -1000000 ≤ b ∧ b ≤ 1000000) (ha' : -1000000 ≤ a' ∧ a' ≤ 1000000) (hb' : -1000000 ≤ b' ∧ b' ≤ 1000000) : Val P N w0 L e ⟨d, .binOp .neq t x y t', ty, pos, af, g⟩ (.bool true) :=
  Val_neqIT (ks := [.i64, .i64]) (a := [a, b]) (b := [a', b']) hx hy (by intro h; simp only [List.cons.injEq, and_true] at h; omega) (inKw ha hb) (inKw ha' hb')
theorem Val_remE2 {x y : Operand} {t t' : TypeId} {a b c : Nat} (hc : a % b = c) (hb : 0 < b) (hx : ev e x = .int .i64 (a : Int)) (hy : ev e y = .int .i64 (b : Int)) : Val P N w0 L e ⟨d, .binOp .rem t x y t', ty, pos, af, g⟩ (.int .i64 (c : Int)) := by
  have := Val_rem (P := P) (N := N) (w0 := w0) (L := L) (d := d) (ty := ty) (pos := pos) (af := af) (g := g) (t := t) (t' := t') hx hy (by omega)
  have e : ((a : Int).tmod b) = (c : Int) := by rw [Int.tmod_eq_emod_of_nonneg (by omega), ← hc]; omega
  rwa [e] at this
theorem Val_quoE {x y : Operand} {t t' : TypeId} {a b c : Nat} (hc : a / b = c) (hb : 0 < b) (ha : a ≤ 1000000) (hx : ev e x = .int .i64 (a : Int)) (hy : ev e y = .int .i64 (b : Int)) : Val P N w0 L e ⟨d, .binOp .quo t x y t', ty, pos, af, g⟩ (.int .i64 (c : Int)) := by
  have h1 : ((a : Int).tdiv b) = (c : Int) := by rw [Int.tdiv_eq_ediv_of_nonneg (by omega), ← hc]; omega
  have h2 : c ≤ a := by rw [← hc]; exact Nat.div_le_self a b
  have := Val_quo (P := P) (N := N) (w0 := w0) (L := L) (d := d) (ty := ty) (pos := pos) (af := af) (g := g) (t := t) (t' := t') hx hy (by omega) (by rw [h1]; exact InK_i64 (by omega) (by omega))
  rwa [h1] at this
end
end Go.Proofs.Ytlpahkmfjpjheaa
end

section
namespace Go.Proofs.Ytlpahkmfjpjheaa
open Go.RowKit
def dryOf (h : Hv) (place : Int) : Int := if place = 0 then h.d0 else if place = 1 then h.d1 else h.d2
def wetN (h : Hv) (place n r : Int) : Int := max 0 (min 100 ((if r = 0 then n - dryOf h place else n) + r))
/-- The wetness of a heap in the evenings of days. -/
def wetF (h : Hv) (place : Int) : Int → List Int → List Int
  | _, [] => []
  | n, r :: rs => wetN h place n r :: wetF h place (wetN h place n r) rs
theorem wetF_len (h : Hv) (place : Int) : ∀ (rs : List Int) (n : Int), (wetF h place n rs).length = rs.length
  | [], _ => rfl
  | _ :: rs, n => by rw [wetF, List.length_cons, wetF_len h place rs, List.length_cons]
theorem wetF_bd (h : Hv) (place : Int) : ∀ (rs : List Int) (n : Int), ∀ x ∈ wetF h place n rs, 0 ≤ x ∧ x ≤ 100
  | [], _, x, hx => by cases hx
  | r :: rs, n, x, hx => by
    rcases List.mem_cons.1 hx with h1 | h1
    · rw [h1]; unfold wetN; omega
    · exact wetF_bd h place rs _ x h1
def lastN (h : Hv) (place n : Int) (rs : List Int) : Int := rs.foldl (wetN h place) n
theorem wetF_snoc (h : Hv) (place : Int) : ∀ (rs : List Int) (n r : Int), wetF h place n (rs ++ [r]) = wetF h place n rs ++ [wetN h place (lastN h place n rs) r]
  | [], _, _ => rfl
  | q :: rs, n, r => by simp only [List.cons_append, wetF, wetF_snoc h place rs, lastN, List.foldl_cons]
theorem lastN_snoc (h : Hv) (place n : Int) (rs : List Int) (r : Int) : lastN h place n (rs ++ [r]) = wetN h place (lastN h place n rs) r := by simp [lastN]
theorem wetN_bd (h : Hv) (place n r : Int) : 0 ≤ wetN h place n r ∧ wetN h place n r ≤ 100 := by unfold wetN; omega
theorem lastN_bd (h : Hv) (place : Int) {n : Int} (hn : 0 ≤ n ∧ n ≤ 100) : ∀ rs : List Int, 0 ≤ lastN h place n rs ∧ lastN h place n rs ≤ 100
  | [] => hn
  | r :: rs => lastN_bd h place (wetN_bd h place n r) rs
/-- A list of numbers, read. -/
def RdL (X : Hp) (v : Value) (row : List Int) : Prop := ∃ A c, v = .slice A row.length c ∧ ∀ (j : Nat) (x : Int), row[j]? = some x → ∃ b, A = some ⟨b, 0, none⟩ ∧ RdX X b j (.int .i64 x)
/-- A list of lists of numbers. -/
def RdLL (X : Hp) (v : Value) (rows : List (List Int)) : Prop := ∃ A c, v = .slice A rows.length c ∧ ∀ (i : Nat) (row : List Int), rows[i]? = some row → ∃ b u, A = some ⟨b, 0, none⟩ ∧ RdX X b i u ∧ RdL X u row
theorem RdL.wk {X L : Hp} {v : Value} {row : List Int} (h : RdL X v row) (k : Wk L X) : RdL L v row := by
  obtain ⟨A, c, rfl, h⟩ := h
  exact ⟨A, c, rfl, fun j x hj => let ⟨b, h1, h2⟩ := h j x hj; ⟨b, h1, h2.wk k⟩⟩
theorem RdLL.wk {X L : Hp} {v : Value} {rows : List (List Int)} (h : RdLL X v rows) (k : Wk L X) : RdLL L v rows := by
  obtain ⟨A, c, rfl, h⟩ := h
  exact ⟨A, c, rfl, fun j x hj => let ⟨b, u, h1, h2, h3⟩ := h j x hj; ⟨b, u, h1, h2.wk k, h3.wk k⟩⟩
theorem RdX.perm {X L : Hp} {b o : Nat} {v : Value} (h : RdX X b o v) (k : L.Perm X) : RdX L b o v := fun N w0 w hI => h N w0 w (hI.perm k)
theorem RdL.perm {X L : Hp} {v : Value} {row : List Int} (h : RdL X v row) (k : L.Perm X) : RdL L v row := by
  obtain ⟨A, c, rfl, h⟩ := h
  exact ⟨A, c, rfl, fun j x hj => let ⟨b, h1, h2⟩ := h j x hj; ⟨b, h1, h2.perm k⟩⟩
theorem RdLL.perm {X L : Hp} {v : Value} {rows : List (List Int)} (h : RdLL X v rows) (k : L.Perm X) : RdLL L v rows := by
  obtain ⟨A, c, rfl, h⟩ := h
  exact ⟨A, c, rfl, fun j x hj => let ⟨b, u, h1, h2, h3⟩ := h j x hj; ⟨b, u, h1, h2.perm k, h3.perm k⟩⟩
def intL (row : List Int) : List Value := row.map fun x => .int .i64 x
theorem intL_flat (l : List Int) : intL l = (l.map fun x => [Value.int .i64 x]).flatten := by
  unfold intL
  induction l with
  | nil => rfl
  | cons x l ih => rw [List.map_cons, List.map_cons, List.flatten_cons, ih]; rfl
theorem one_len (l : List Int) : ∀ r ∈ l.map (fun x => [Value.int .i64 x]), r.length = 1 := by
  intro r hr
  obtain ⟨x, _, rfl⟩ := List.mem_map.1 hr
  rfl
/-- A list of numbers that grew. -/
theorem RdL.sv {E : TypeId} {s : Option (Nat × Nat)} {row : List Int} {L : Hp} (hs : svOk s 1 row.length (intL row)) : RdL (svH E 1 row.length (intL row) s L) (svV s row.length) row := by
  obtain ⟨A, c, h1, h2⟩ := sv_slice (E := E) hs
  refine ⟨A, c, h1, fun j x hj => ?_⟩
  have hj' : (intL row)[j]? = some (.int .i64 x) := by unfold intL; rw [List.getElem?_map, hj]; rfl
  cases s with
  | none =>
    have := hs.2 rfl
    rw [List.eq_nil_of_length_eq_zero this] at hj; simp at hj
  | some p =>
    obtain ⟨b, cap⟩ := p
    simp only [svV, Value.slice.injEq] at h1
    refine ⟨b, h1.1.symm, fun N w0 w hI => ?_⟩
    obtain ⟨b', hb, _, hc⟩ := h2 hI j _ hj'
    rw [← h1.1] at hb
    simp only [Option.some.injEq, Addr.mk.injEq, and_true] at hb
    rw [hb]; exact hc
/-- A list of lists that grew. -/
theorem RdLL.sv {E : TypeId} {s : Option (Nat × Nat)} {vals : List Value} {rows : List (List Int)} {X : Hp} (hs : svOk s 1 rows.length vals) (h : ∀ (i : Nat) (row : List Int), rows[i]? = some row → ∃ u, vals[i]? = some u ∧ RdL X u row) : RdLL (svH E 1 rows.length vals s X) (svV s rows.length) rows := by
  obtain ⟨A, c, h1, h2⟩ := sv_slice (E := E) hs
  refine ⟨A, c, h1, fun i row hi => ?_⟩
  obtain ⟨u, hu, hr⟩ := h i row hi
  cases s with
  | none =>
    have := hs.2 rfl
    rw [List.eq_nil_of_length_eq_zero this] at hi; simp at hi
  | some p =>
    obtain ⟨b, cap⟩ := p
    simp only [svV, Value.slice.injEq] at h1
    refine ⟨b, u, h1.1.symm, fun N w0 w hI => ?_, hr.wk (.drop (.refl _))⟩
    obtain ⟨b', hb, _, hc⟩ := h2 hI i _ hu
    rw [← h1.1] at hb
    simp only [Option.some.injEq, Addr.mk.injEq, and_true] at hb
    rw [hb]; exact hc
theorem SlAt.cell1 {N : Nat} {w0 : World} {A : Option Addr} {l : List Int} (h : SlAt N w0 A 1 (l.map fun x => [.int .i64 x])) (k : Nat) (hk : k < l.length) : ∃ b o, A = some ⟨b, o, none⟩ ∧ b < N ∧ w0.cell? ⟨b, o + k, none⟩ = some (.int .i64 l[k]) := by
  obtain ⟨b, o, h1, h2, h3⟩ := h k (by simpa using hk)
  refine ⟨b, o, h1, h2, ?_⟩
  have := h3 0 (.int .i64 l[k]) (by simp)
  simpa using this
theorem take_one {α : Type} {l : List α} {k : Nat} (hk : k < l.length) : l.take (k + 1) = l.take k ++ [l[k]] := List.take_succ_eq_append_getElem hk
def wetRow (h : Hv) (first rains : List Int) (i : Nat) : List Int := wetF h (tfOf h i).place (first.getD i 0) rains
def wetL (h : Hv) (first rains : List Int) : List (List Int) := (List.range h.heaps.length).map (wetRow h first rains)
theorem wetL_len (h : Hv) (first rains : List Int) : (wetL h first rains).length = h.heaps.length := by simp [wetL]
theorem wetL_get {h : Hv} {first rains : List Int} {i : Nat} (hi : i < h.heaps.length) : (wetL h first rains)[i]? = some (wetRow h first rains i) := by
  unfold wetL; rw [List.getElem?_map, List.getElem?_range hi]; rfl
end Go.Proofs.Ytlpahkmfjpjheaa
end

section
namespace Go.Proofs.Ytlpahkmfjpjheaa
open Go.RowKit
theorem vB_of {h : Hv} (v : VH h) : vB h = true := by
  have h1 := v.nh
  have h2 := v.nr
  have h3 := v.lim
  have h4 := v.nl
  have h5 := v.dr
  simp only [vB, numB, drB, Bool.and_eq_true, List.all_eq_true, within, isSpanB, tfB, lkB, decide_eq_true_eq]
  refine ⟨⟨⟨⟨?_, fun t ht => ?_⟩, fun s hs => ?_⟩, ?_⟩, fun l hl => ?_⟩
  · refine ⟨⟨⟨?_, ?_⟩, ?_⟩, h4⟩ <;> constructor <;> omega
  · have := v.tf t ht; refine ⟨⟨?_, ?_⟩, ?_⟩ <;> omega
  · have := v.rn s hs; omega
  · refine ⟨⟨⟨?_, ?_⟩, ?_, ?_⟩, ?_, ?_⟩ <;> omega
  · have := v.lk l hl; refine ⟨⟨⟨?_, ?_⟩, ?_, ?_⟩, ?_⟩ <;> omega
theorem idxF_le {p q : Nat → Bool} (h : ∀ k, p k = true → q k = true) : ∀ n, 0 ≤ idxF p n → 0 ≤ idxF q n ∧ idxF q n ≤ idxF p n
  | 0, h0 => by rw [idxF_zero] at h0; omega
  | n + 1, h0 => by
    have ih := idxF_le h n
    have b1 := idxF_bd p n
    have b2 := idxF_bd q n
    have eq : idxF q (n + 1) = if idxF q n < 0 ∧ q n = true then (n : Int) else idxF q n := idxF_succ q n
    by_cases h1 : idxF p n < 0
    · by_cases h2 : p n = true
      · have h3 := h n h2
        have ep : idxF p (n + 1) = n := by rw [idxF_succ, if_pos ⟨h1, h2⟩]
        rw [ep, eq]
        by_cases h4 : idxF q n < 0
        · rw [if_pos ⟨h4, h3⟩]; omega
        · rw [if_neg (fun h => h4 h.1)]; omega
      · have ep : idxF p (n + 1) = idxF p n := by rw [idxF_succ, if_neg (fun h => h2 h.2)]
        omega
    · have h5 := ih (by omega)
      have ep : idxF p (n + 1) = idxF p n := by rw [idxF_succ, if_neg (fun h => h1 h.1)]
      rw [ep, eq, if_neg (fun h => by omega)]
      exact h5
/-- Two heaps, in two places, of the same wetness; no looks. -/
def highH (h : Hv) (a b f l f2 : Int) (rains : List Sp) : Hv := { h with heaps := [⟨a, f, l⟩, ⟨b, f2, l⟩], rains := rains, looks := [] }
section
variable {h : Hv} (hv : VH h) {a b f l : Int} (ha : 0 ≤ a ∧ a ≤ b ∧ b ≤ 2) (hf : 0 ≤ f ∧ f ≤ l ∧ l ≤ 100 ∧ l - f ≤ 5)
include hv ha hf
theorem VH_high : VH (highH h a b f l f h.rains) := by
  refine ⟨by show 1 ≤ 2 ∧ 2 ≤ 3; omega, hv.nr, hv.lim, by show 0 ≤ 5; omega, fun t ht => ?_, hv.rn, hv.dr, fun l hl => by cases hl⟩
  have ht' : t = ⟨a, f, l⟩ ∨ t = ⟨b, f, l⟩ := by simpa [highH] using ht
  rcases ht' with rfl | rfl <;> dsimp only <;> omega
theorem high_wet {d : Nat} (hd : d < h.rains.length) (i : Nat) (hi : i < 2) : WetV (highH h a b f l f h.rains) i d = wetS (highH h a b f l f h.rains) i d ∧ errE (highH h a b f l f h.rains) (WetOk (highH h a b f l f h.rains) i d) = 0 :=
  wet_ok (vB_of (VH_high hv ha hf)) (told_free (VH_high hv ha hf) rfl) hi hd
theorem high_le {d : Nat} (hd : d < h.rains.length) : (wetS (highH h a b f l f h.rains) 1 d).1 ≤ (wetS (highH h a b f l f h.rains) 0 d).1 ∧ (wetS (highH h a b f l f h.rains) 1 d).2 ≤ (wetS (highH h a b f l f h.rains) 0 d).2 :=
  wetS_place (i := 0) (j := 1) (VH_high hv ha hf) rfl (by show 0 < 2; omega) (by show 1 < 2; omega) hd rfl rfl ha.2.1
theorem high_eq (hab : a = b) {d : Nat} (hd : d < h.rains.length) : wetS (highH h a b f l f h.rains) 1 d = wetS (highH h a b f l f h.rains) 0 d := by
  have h1 := high_le hv ha hf hd
  have h2 := wetS_place (i := 1) (j := 0) (VH_high hv ha hf) rfl (by show 1 < 2; omega) (by show 0 < 2; omega) hd rfl rfl (show b ≤ a by omega)
  exact Prod.ext (by omega) (by omega)
theorem high_when : WhenE (highH h a b f l f h.rains) ((0 : Nat) : Int) = 0 → WhenE (highH h a b f l f h.rains) ((1 : Nat) : Int) = 0 ∧ WhenV (highH h a b f l f h.rains) ((1 : Nat) : Int) ≤ WhenV (highH h a b f l f h.rains) ((0 : Nat) : Int) := by
  intro h0
  have hV := VH_high hv ha hf
  have ht := told_free hV rfl
  have h1 := when_ok hV (vB_of hV) ht (i := 0) (by show 0 < 2; omega)
  have h2 := when_ok hV (vB_of hV) ht (i := 1) (by show 1 < 2; omega)
  rcases h1 with ⟨e1, v1, p1⟩ | ⟨e1, _, _⟩
  · have key : ∀ n, n ≤ h.rains.length → 0 ≤ idxF (dr (highH h a b f l f h.rains) 0) n → 0 ≤ idxF (dr (highH h a b f l f h.rains) 1) n ∧ idxF (dr (highH h a b f l f h.rains) 1) n ≤ idxF (dr (highH h a b f l f h.rains) 0) n := by
      intro n hn
      have hc : ∀ p : Nat → Bool, idxF p n = idxF (fun k => p k && decide (k < h.rains.length)) n := by
        intro p
        have : ∀ m, m ≤ n → idxF p m = idxF (fun k => p k && decide (k < h.rains.length)) m := by
          intro m
          induction m with
          | zero => intro _; rfl
          | succ m ih =>
            intro hm
            have hd : decide (m < h.rains.length) = true := by rw [decide_eq_true_eq]; omega
            rw [idxF_succ, idxF_succ, ih (by omega), hd, Bool.and_true]
        exact this n (Nat.le_refl _)
      rw [hc (dr (highH h a b f l f h.rains) 0), hc (dr (highH h a b f l f h.rains) 1)]
      refine idxF_le (fun k hk => ?_) n
      simp only [Bool.and_eq_true, decide_eq_true_eq] at hk ⊢
      refine ⟨?_, hk.2⟩
      have h3 := (high_le hv ha hf hk.2).2
      have h4 := hk.1
      unfold dr at h4 ⊢
      rw [decide_eq_true_eq] at h4 ⊢
      exact Int.le_trans h3 h4
    have := key _ (Nat.le_refl _) p1
    rcases h2 with ⟨e2, v2, _⟩ | ⟨_, _, p2⟩
    · exact ⟨e2, by rw [v1, v2]; exact this.2⟩
    · have h5 := this.1
      have h6 : idxF (dr (highH h a b f l f h.rains) 1) h.rains.length = -1 := p2
      omega
  · rw [e1] at h0; omega
end
/-! ## All is known -/
def tops (l : List Sp) : List Sp := l.map fun r => (r.2, r.2)
theorem wetN_after {h : Hv} (hv : VH h) {place n r : Int} (hn : 0 ≤ n ∧ n ≤ 100) (hr : 0 ≤ r ∧ r ≤ 10) : wetN h place n r = after h.d0 h.d1 h.d2 place n r := by
  have := hv.dr
  unfold wetN after afterDry dryOf
  split
  · split <;> (try split) <;> omega
  · omega
theorem lastN_evening {h : Hv} (hv : VH h) {place : Int} : ∀ (rs : List Int) {n : Int}, (0 ≤ n ∧ n ≤ 100) → (∀ r ∈ rs, 0 ≤ r ∧ r ≤ 10) → lastN h place n rs = evening h place n rs
  | [], _, _, _ => rfl
  | r :: rs, n, hn, hr => by
    show lastN h place (wetN h place n r) rs = evening h place (after h.d0 h.d1 h.d2 place n r) rs
    rw [← wetN_after hv hn (hr r (.head _))]
    exact lastN_evening hv rs (wetN_bd h place n r) fun x hx => hr x (.tail _ hx)
theorem wetF_get {h : Hv} {place : Int} : ∀ (rs : List Int) (n : Int) (d : Nat), d < rs.length → (wetF h place n rs)[d]? = some (lastN h place n (rs.take (d + 1)))
  | r :: rs, n, 0, _ => by simp [wetF, lastN]
  | r :: rs, n, d + 1, hd => by
    rw [wetF, List.getElem?_cons_succ, wetF_get rs _ d (by simpa using hd), List.take_succ_cons]
    rfl
theorem known_wet {h : Hv} (hv : VH h) {a b f l : Int} (ha : 0 ≤ a ∧ a ≤ b ∧ b ≤ 2) (hf : 0 ≤ f ∧ f ≤ l ∧ l ≤ 100 ∧ l - f ≤ 5) :
    VH { highH h a b f l f (tops h.rains) with heaps := [⟨a, f, f⟩, ⟨b, f, l⟩] } ∧ ∀ d, d < h.rains.length → ∃ v, (wetRow { highH h a b f l f (tops h.rains) with heaps := [⟨a, f, f⟩, ⟨b, f, l⟩] } [f, f] (h.rains.map (·.2)) 0)[d]? = some v ∧
      wetS { highH h a b f l f (tops h.rains) with heaps := [⟨a, f, f⟩, ⟨b, f, l⟩] } 0 d = (v, v) := by
  obtain ⟨x, hx⟩ : ∃ x, ({ highH h a b f l f (tops h.rains) with heaps := [⟨a, f, f⟩, ⟨b, f, l⟩] } : Hv) = x := ⟨_, rfl⟩
  have hh : x.heaps = [⟨a, f, f⟩, ⟨b, f, l⟩] := by rw [← hx]
  have hr : x.rains = tops h.rains := by rw [← hx]; rfl
  have hk : x.looks = [] := by rw [← hx]; rfl
  have hlen : x.rains.length = h.rains.length := by rw [hr]; simp [tops]
  have hV : VH x := by
    refine ⟨by rw [hh]; show 1 ≤ 2 ∧ 2 ≤ 3; omega, by rw [hlen]; exact hv.nr, by rw [← hx]; exact hv.lim, by rw [hk]; show 0 ≤ 5; omega, fun t ht => ?_, fun r hr' => ?_, by rw [← hx]; exact hv.dr, fun l hl => by rw [hk] at hl; cases hl⟩
    · rw [hh] at ht
      have ht' : t = ⟨a, f, f⟩ ∨ t = ⟨b, f, l⟩ := by simpa using ht
      rcases ht' with rfl | rfl <;> dsimp only <;> omega
    · rw [hr] at hr'
      obtain ⟨s, hs, rfl⟩ := List.mem_map.1 hr'
      have := hv.rn s hs
      dsimp only; omega
  rw [hx]
  refine ⟨hV, fun d hd => ?_⟩
  have hd' : d < x.rains.length := by omega
  have h0 : tfOf x 0 = ⟨a, f, f⟩ := by unfold tfOf; rw [hh]; rfl
  have hw := wetS_known (i := 0) (d := d) hV hk (by rw [hh]; show 0 < 2; omega) hd' (by rw [h0]) (fun s hs => by rw [hr] at hs; obtain ⟨q, _, rfl⟩ := List.mem_map.1 hs; rfl)
  have hm : x.rains.map (·.1) = h.rains.map (·.2) := by rw [hr]; simp [tops]
  refine ⟨_, ?_, hw⟩
  unfold wetRow evn
  rw [h0, hm]
  show (wetF x a f (h.rains.map (·.2)))[d]? = _
  rw [wetF_get _ _ d (by simpa using hd)]
  congr 1
  refine lastN_evening hV _ (by omega) fun r hr' => ?_
  have := List.mem_of_mem_take hr'
  obtain ⟨s, hs, rfl⟩ := List.mem_map.1 this
  have := hv.rn s hs
  omega
end Go.Proofs.Ytlpahkmfjpjheaa
end

section
namespace Go.Proofs.Ytlpahkmfjpjheaa
open Go.RowKit
attribute [local irreducible] AnyO AnyB QAny QB EWalk AWalk Ev WP OPS QThen QBlock QScope QLoop QBody Val New Turn Tri Enters PostA Blk Ro
attribute [local irreducible] AnyC QC
section
variable (N : Nat) (w0 : World)
set_option maxHeartbeats 2000000 in
theorem wetness41_tri (L : Hp) (g : Bg) (hA : HeapAt N w0 g) (hv : VH g.h) (first rains : List Int) (Af Ar : Option Addr) (cf cr : Nat) (hF : SlAt N w0 Af 1 (first.map fun x => [.int .i64 x])) (hR : SlAt N w0 Ar 1 (rains.map fun x => [.int .i64 x]))
    (hfl : g.h.heaps.length ≤ first.length) (hfb : ∀ x ∈ first, 0 ≤ x ∧ x ≤ 100) (hrb : ∀ x ∈ rains, 0 ≤ x ∧ x ≤ 10) (hrl : rains.length ≤ 6) : Tri Try.prog N w0 L 41 [heapV g, .slice Af first.length cf, .slice Ar rains.length cr].toArray
      fun x L' => ∃ v, x = .returned v ∧ ∃ X, L' = X ++ L ∧ RdLL X v (wetL g.h first rains) := by
  have hnh := hv.nh
  refine Tri.fgt ?_
  refine tri_of_WP Try.func41 rfl (n := 56) rfl (by simp) ?_
  unfold heapV hvL
  repeat' (first | (refine Znh ?_) | (refine GiW ?_; first | (refine Zsq fun K hK => ?_) | (refine ZrN 0 fun _ => ?_; refine Zal 3 fun b3 => ?_; refine Zv Zav ?_) | (refine ZrN 1 fun _ => ?_; refine Zv Zf0 ?_; refine Zv Zld ?_; refine Zv Zxlen ?_; refine Zv Zmi ?_) | (with_reducible apply WP_block)))
  refine WP_loop [6, 7, 8, 9, 10, 12, 16, 17, 18, 19, 20, 21, 22, 23, 24, 25, 26, 27, 28, 29, 30, 31, 32, 33, 34, 35, 36, 37, 38, 39, 40, 41, 42, 43, 44, 45, 46, 47, 48, 49, 50, 51, 52, 53, 54] (fun st : Nat × Hp × List Value × Option (Nat × Nat) => [(16, .int .i64 st.1), (6, svV st.2.2.2 st.1)]) (fun st => st.2.1 ++ svH 52 1 st.1 st.2.2.1 st.2.2.2 ((b3, Blk 27 (hvL g)) :: L)) (fun st => st.1 ≤ g.h.heaps.length ∧ svOk st.2.2.2 1 st.1 st.2.2.1 ∧ ∀ (i : Nat) (row : List Int), ((List.range st.1).map (wetRow g.h first rains))[i]? = some row → ∃ u, st.2.2.1[i]? = some u ∧ RdL st.2.1 u row) (fun st => g.h.heaps.length - st.1) (0, [], [], none) (.cons rfl (.cons rfl .nil)) (Wk.refl _) ⟨Nat.zero_le _, svOk_nil _, fun i row h => by simp at h⟩ ?_
  rintro ⟨i, X, vals, so⟩ j ⟨hi, hso, hrd⟩
  dsimp only at hi hso hrd ⊢
  unfold hvL
  by_cases hlt : i < g.h.heaps.length
  · obtain ⟨bA, oA, hA1, hbA, hcA⟩ := hA.heaps.row i hlt
    obtain ⟨t, ht⟩ : ∃ t, g.h.heaps[i] = t := ⟨_, rfl⟩
    have htf : tfOf g.h i = t := by have := tfOf_get hlt; rw [List.getElem?_eq_getElem hlt, ht] at this; simpa using this.symm
    have htb := hv.tf t (by rw [← ht]; exact List.getElem_mem hlt)
    rw [ht] at hcA
    have hif : i < first.length := by omega
    obtain ⟨bF, oF, hA2, hbF, cF⟩ := hF.cell1 i hif
    obtain ⟨n0, hn0⟩ : ∃ n0, first[i] = n0 := ⟨_, rfl⟩
    have hfd : first.getD i 0 = n0 := by rw [List.getD_eq_getElem?_getD, List.getElem?_eq_getElem hif, hn0]; rfl
    have hn0b := hfb n0 (by rw [← hn0]; exact List.getElem_mem hif)
    rw [hn0] at cF
    obtain ⟨p, lo, hi'⟩ := t
    dsimp only at htb
    obtain ⟨q, hq⟩ : ∃ q : Nat, p = q := ⟨p.toNat, by omega⟩
    subst hq
    have hdr := hv.dr
    repeat' (first | (refine Znh ?_) | (refine GiW ?_; first | (refine Zsq fun K hK => ?_) | (refine ZrN 2 fun _ => ?_; refine Zv Zxlss ?_) | (refine ZrN 3 fun _ => ?_; refine Zv Zmi ?_; refine Zv Zia ?_; refine Zv Zla ?_; refine Zal 8 fun b8 => ?_; refine Zv Zai ?_; refine Zst ?_) | (refine ZrN 4 fun _ => ?_; refine Zv Zmv ?_; refine Zv Zmi ?_; refine Zv Zia ?_; refine Zv Zld ?_; refine Zv Zai ?_) | (refine ZrN 5 fun _ => ?_; refine Zv Zav ?_) | (refine ZrN 6 fun _ => ?_; refine Zv Zmv ?_; refine Zv Zxlen ?_; refine Zv Zmi ?_) | (refine Zcd (fun hc => ?_) (fun hc => ?_) <;> (try (exfalso; omega))) | (with_reducible apply WP_skip) | (with_reducible apply WP_block)) | (refine Zhn ?_))
    refine WP_loop [9, 10, 12, 27, 28, 29, 30, 31, 32, 33, 34, 35, 36, 37, 38, 39, 40, 41, 42, 43, 44, 45, 46, 47, 48, 49] (fun st : Nat × Int × List Value × Option (Nat × Nat) => [(27, .int .i64 st.1), (9, .int .i64 st.2.1), (10, svV st.2.2.2 st.1)]) (fun st => svH 3 1 st.1 st.2.2.1 st.2.2.2 ((b8, Blk 65 [.int .i64 (q : Int), .int .i64 lo, .int .i64 hi']) :: (X ++ svH 52 1 i vals so ((b3, Blk 27 (hvL g)) :: L)))) (fun st => st.1 ≤ rains.length ∧ st.2.1 = lastN g.h q n0 (rains.take st.1) ∧ st.2.2.1 = intL (wetF g.h q n0 (rains.take st.1)) ∧ svOk st.2.2.2 1 st.1 st.2.2.1) (fun st => rains.length - st.1) (0, n0, [], none) (.cons rfl (.cons rfl (.cons rfl .nil))) (Wk.refl _) ⟨Nat.zero_le _, rfl, rfl, svOk_nil _⟩ ?_
    rintro ⟨k, n, ds, si⟩ j2 ⟨hk, hn, hds, hsi⟩
    dsimp only at hk hn hds hsi ⊢
    unfold hvL
    by_cases hkl : k < rains.length
    · obtain ⟨bR, oR, hA3, hbR, cR⟩ := hR.cell1 k hkl
      obtain ⟨r, hr⟩ : ∃ r, rains[k] = r := ⟨_, rfl⟩
      have hrb' := hrb r (by rw [← hr]; exact List.getElem_mem hkl)
      rw [hr] at cR
      have hnb := lastN_bd g.h q hn0b (rains.take k)
      rw [← hn] at hnb
      have hnx : lastN g.h q n0 (rains.take (k + 1)) = wetN g.h q n r := by rw [take_one hkl, lastN_snoc, hr, ← hn]
      have hdx : intL (wetF g.h q n0 (rains.take (k + 1))) = ds ++ [.int .i64 (wetN g.h q n r)] := by rw [take_one hkl, wetF_snoc, hr, ← hn, hds]; simp [intL]
      by_cases hr0 : r = 0
      · subst hr0
        have hq3 : q = 0 ∨ q = 1 ∨ q = 2 := by omega
        rcases hq3 with rfl | rfl | rfl
        all_goals repeat' (first | (refine GiP ?_; first | (refine Znh ?_) | (with_reducible refine Znl ?_)) | (refine GiW ?_; first | (refine Zsq fun K hK => ?_) | (refine ZrN 7 fun _ => ?_; refine Zv Zxlss ?_) | (refine ZrN 8 fun _ => ?_; refine Zv Zia ?_; refine Zv Zld ?_; refine Zv Zai ?_) | (refine ZrN 9 fun _ => ?_; refine Zv Zmi ?_; refine Zv Zxeql ?_) | (refine ZrN 10 fun _ => ?_; refine Zv Zmi ?_; refine Zv Zf0 ?_; refine Zv Zld ?_; refine Zv Zfa ?_; refine Zv ZiA ?_; refine Zv Zld ?_; refine Zv Zxsub ?_; refine Zv Zai ?_) | (refine ZrN 11 fun _ => ?_; refine Zv Zmi ?_; refine Zv Zmi ?_; refine Zv Zxadd ?_; refine Zv Zxmin ?_; refine Zv Zxmax ?_; refine Zv Zai ?_) | (refine ZrN 12 fun _ => ?_; refine Zv Zmv ?_; refine Zv Zmi ?_; refine Zal 47 fun b47 => ?_; refine Zag (fun s48 hs48 => ?_); refine Zv Zav ?_) | (refine ZrN 13 fun _ => ?_; refine Zv Zxadd ?_; refine Zv Zmi ?_) | (refine WP_cond_true rfl ?_) | (refine Zcd (fun hc => ?_) (fun hc => ?_) <;> (try (exfalso; omega))) | (with_reducible apply WP_skip) | (with_reducible apply WP_block)) | (refine Zhn ?_) | (with_reducible apply QBlock_normal))
        all_goals exact QLoop_normal (k + 1, _, _, _) (.cons rfl (.cons rfl (.cons rfl .nil))) (by repeat (first | exact Off.frame rfl | exact Off.refl _ _ | refine Off.frameT rfl rfl ?_ | refine Off.upd rfl ?_ | refine Off.updO rfl ?_)) (by repeat (first | exact Wk.refl _ | apply Wk.keep1 | apply Wk.drop | apply Wk.sv | apply Wk.svD | apply Wk.appD)) ⟨by dsimp only; omega, by dsimp only; rw [hnx]; unfold wetN dryOf; simp, by dsimp only; rw [hdx]; unfold wetN dryOf; simp, by assumption⟩ (by dsimp only; omega)
      · repeat' (first | (refine GiP ?_; first | (refine Znh ?_) | (with_reducible refine Znl ?_)) | (refine GiW ?_; first | (refine Zsq fun K hK => ?_) | (refine ZrN 7 fun _ => ?_; refine Zv Zxlss ?_) | (refine ZrN 8 fun _ => ?_; refine Zv Zia ?_; refine Zv Zld ?_; refine Zv Zai ?_) | (refine ZrN 9 fun _ => ?_; refine Zv Zmi ?_; refine Zv Zxeql ?_) | (refine ZrN 11 fun _ => ?_; refine Zv Zmi ?_; refine Zv Zmi ?_; refine Zv Zxadd ?_; refine Zv Zxmin ?_; refine Zv Zxmax ?_; refine Zv Zai ?_) | (refine ZrN 12 fun _ => ?_; refine Zv Zmv ?_; refine Zv Zmi ?_; refine Zal 47 fun b47 => ?_; refine Zag (fun s48 hs48 => ?_); refine Zv Zav ?_) | (refine ZrN 13 fun _ => ?_; refine Zv Zxadd ?_; refine Zv Zmi ?_) | (refine Zcd (fun hc => ?_) (fun hc => ?_) <;> (try (exfalso; omega))) | (with_reducible apply WP_skip) | (with_reducible apply WP_block)) | (refine Zhn ?_) | (with_reducible apply QBlock_normal))
        exact QLoop_normal (k + 1, _, _, _) (.cons rfl (.cons rfl (.cons rfl .nil))) (by repeat (first | exact Off.frame rfl | exact Off.refl _ _ | refine Off.frameT rfl rfl ?_ | refine Off.upd rfl ?_ | refine Off.updO rfl ?_)) (by repeat (first | exact Wk.refl _ | apply Wk.keep1 | apply Wk.drop | apply Wk.sv | apply Wk.svD | apply Wk.appD)) ⟨by dsimp only; omega, by dsimp only; rw [hnx]; unfold wetN; rw [if_neg hr0], by dsimp only; rw [hdx]; unfold wetN; rw [if_neg hr0]; rfl, by assumption⟩ (by dsimp only; omega)
    · have hkn : k = rains.length := by omega
      subst hkn
      rw [List.take_length] at hds
      repeat' (first | (refine GiP ?_; first | (refine Znh ?_) | (with_reducible refine Znl ?_)) | (refine GiW ?_; first | (refine Zsq fun K hK => ?_) | (refine ZrN 7 fun _ => ?_; refine Zv Zxlss ?_) | (refine ZrN 14 fun _ => ?_; refine Zv Zmv ?_; refine Zv Zmv ?_; refine OPS_newS blk_is (New_buildSliceR rfl rfl (.c1S (by constructor) svV_cells .nil) rfl (by decide) rfl (by decide)) rfl rfl rfl (fun b52 => ?_); refine Zag (fun s53 hs53 => ?_) (h1 := svV_ones); refine Zv Zav ?_) | (refine ZrN 15 fun _ => ?_; refine Zv Zxadd ?_; refine Zv Zmi ?_) | (refine Zcd (fun hc => ?_) (fun hc => ?_) <;> (try (exfalso; omega))) | (with_reducible apply WP_exit)) | (refine Zhn ?_) | (with_reducible apply QBlock_normal) | (refine Zhx ?_) | (with_reducible apply QBlock_hit) | (with_reducible apply QLoop_exit))
      refine QLoop_normal (i + 1, svH 3 1 rains.length ds si X, vals ++ [svV si rains.length], s53) (.cons rfl (.cons rfl .nil)) (by repeat (first | exact Off.frame rfl | exact Off.refl _ _ | refine Off.frameT rfl rfl ?_ | refine Off.upd rfl ?_ | refine Off.updO rfl ?_)) ?_ ⟨by dsimp only; omega, by assumption, fun i' row hrow => ?_⟩ (by dsimp only; omega)
      · dsimp only
        rw [← svH_app]
        repeat (first | exact Wk.refl _ | apply Wk.drop | apply Wk.sv | apply Wk.appK)
      · dsimp only
        have hvl : vals.length = i := by have := hso.1; omega
        have hlen : (wetRow g.h first rains i).length = rains.length := wetF_len _ _ _ _
        have hds' : ds = intL (wetRow g.h first rains i) := by unfold wetRow; rw [htf, hfd]; exact hds
        rw [List.range_succ, List.map_append, List.map_singleton] at hrow
        by_cases hil : i' < i
        · rw [List.getElem?_append_left (by simpa using hil)] at hrow
          obtain ⟨u, h1, h2⟩ := hrd i' row hrow
          exact ⟨u, by rw [List.getElem?_append_left (by omega)]; exact h1, h2.wk (Wk.svD (.refl _))⟩
        · rw [List.getElem?_append_right (by simpa using hil)] at hrow
          have hii : i' = i := by
            have := (List.getElem?_eq_some_iff.1 hrow).1
            simp at this; omega
          subst hii
          simp only [List.length_map, List.length_range, Nat.sub_self, List.getElem?_cons_zero, Option.some.injEq] at hrow
          subst hrow
          refine ⟨svV si rains.length, by rw [List.getElem?_append_right (by omega), hvl]; simp, ?_⟩
          have := RdL.sv (E := 3) (s := si) (row := wetRow g.h first rains i') (L := X) (by rw [hlen, ← hds']; exact hsi)
          rw [hlen, ← hds'] at this
          exact this
  · have hin : i = g.h.heaps.length := by omega
    subst hin
    repeat' (first | (refine Znh ?_) | (refine GiW ?_; first | (refine Zsq fun K hK => ?_) | (refine ZrN 2 fun _ => ?_; refine Zv Zxlss ?_) | (refine ZrN 16 fun _ => ?_; refine Zv Zmv ?_; refine Zv Zav ?_) | (refine Zcd (fun hc => ?_) (fun hc => ?_) <;> (try (exfalso; omega))) | (with_reducible apply WP_exit) | (with_reducible apply WP_ret)) | (refine Zhn ?_) | (refine Zhx ?_) | (with_reducible apply QBlock_hit) | (with_reducible apply QLoop_exit))
    refine QBody_ret1 rfl rfl ⟨(X ++ svH 52 1 g.h.heaps.length vals so []) ++ L, ?_, _, rfl, X ++ svH 52 1 g.h.heaps.length vals so [], rfl, ?_⟩
    · rw [List.append_assoc, svH_nil]
      exact .appK X (.sv (.drop (.refl _)))
    · have := RdLL.sv (E := 52) (s := so) (vals := vals) (rows := wetL g.h first rains) (X := X) (by rw [wetL_len]; exact hso) hrd
      rw [wetL_len] at this
      refine this.perm ?_
      have h2 := svH_mid (E := 52) (sz := 1) (k := g.h.heaps.length) (xs := vals) (s := so) (X := X) (L := [])
      rwa [List.append_nil] at h2
end
end Go.Proofs.Ytlpahkmfjpjheaa
end

section
namespace Go.Proofs.Ytlpahkmfjpjheaa
open Go.RowKit
theorem flat_at {sz : Nat} (hs : 0 < sz) {rows : List (List Value)} (hr : ∀ r ∈ rows, r.length = sz) {j : Nat} {u : Value} (h : rows.flatten[j]? = some u) : ∃ hk : j / sz < rows.length, rows[j / sz][j % sz]? = some u := by
  have hl : ∀ l : List (List Value), (∀ r ∈ l, r.length = sz) → l.flatten.length = l.length * sz := by
    intro l
    induction l with
    | nil => intro _; simp
    | cons r l ih => intro h; rw [List.flatten_cons, List.length_append, ih (fun x hx => h x (.tail _ hx)), h r (.head _), List.length_cons, Nat.succ_mul, Nat.add_comm]
  have hj := (List.getElem?_eq_some_iff.1 h).1
  rw [hl rows hr] at hj
  have hk : j / sz < rows.length := Nat.div_lt_of_lt_mul (by rw [Nat.mul_comm]; exact hj)
  refine ⟨hk, ?_⟩
  have e : j = j / sz * sz + j % sz := by rw [Nat.mul_comm]; exact (Nat.div_add_mod j sz).symm
  rw [e, flat_get rows (j / sz) (j % sz) hk hr (Nat.mod_lt _ hs)] at h
  exact h
theorem SlAt.flat {M : Nat} {w : World} {A : Option Addr} {sz : Nat} {rows : List (List Value)} (hs : 0 < sz) (h : SlAt M w A sz rows) (hr : ∀ r ∈ rows, r.length = sz) : ∀ j u, rows.flatten[j]? = some u → ∃ b o, A = some ⟨b, o, none⟩ ∧ w.cell? ⟨b, o + j, none⟩ = some u := by
  intro j u hj
  obtain ⟨hk, hu⟩ := flat_at hs hr hj
  obtain ⟨b, o, h1, _, h3⟩ := h _ hk
  refine ⟨b, o, h1, ?_⟩
  have := h3 (j % sz) u hu
  rwa [Nat.add_assoc, show j / sz * sz + j % sz = j by rw [Nat.mul_comm]; exact Nat.div_add_mod j sz] at this
theorem ones_flat : ∀ {rows : List (List Value)}, (∀ r ∈ rows, ones r = true) → ones rows.flatten = true
  | [], _ => rfl
  | r :: rows, h => by
    have h1 := h r (.head _)
    have h2 := ones_flat fun x hx => h x (.tail _ hx)
    unfold ones at h1 h2 ⊢
    rw [List.flatten_cons, List.all_append, h1, h2]; rfl
theorem map_len {α : Type} {f : α → List Value} {sz : Nat} (hf : ∀ x, (f x).length = sz) (l : List α) : ∀ r ∈ l.map f, r.length = sz := by
  intro r hr
  obtain ⟨x, _, rfl⟩ := List.mem_map.1 hr
  exact hf x
theorem map_ones {α : Type} {f : α → List Value} (hf : ∀ x, ones (f x) = true) (l : List α) : ∀ r ∈ l.map f, ones r = true := by
  intro r hr
  obtain ⟨x, _, rfl⟩ := List.mem_map.1 hr
  exact hf x
theorem map_flat {α : Type} {f : α → List Value} {sz : Nat} (hf : ∀ x, (f x).length = sz) (l : List α) : ((l.map f).flatten).length = l.length * sz := by
  induction l with
  | nil => simp
  | cons x l ih => rw [List.map_cons, List.flatten_cons, List.length_append, ih, List.length_cons, hf, Nat.succ_mul, Nat.add_comm]
attribute [local irreducible] AnyO AnyB QAny QB EWalk AWalk Ev WP OPS QThen QBlock QScope QLoop QBody Val New Turn Tri Enters PostA Blk Ro
attribute [local irreducible] AnyC QC
section
variable (N : Nat) (w0 : World)
set_option maxHeartbeats 2000000 in
theorem with39_a (L : Hp) (g : Bg) (l : Lk) (hlk : ∀ w, Inv N w0 L w → SlAt w.heap.size w g.A3 4 (g.h.looks.map lkL)) (hn : g.h.looks.length ≤ 1000) (hA : g.A3 = none → g.h.looks.length = 0) : Tri Try.prog N w0 L 39 [heapV g, .agg (lkL l).toArray].toArray fun x L' =>
    ∃ s, x = .returned (.agg [.slice g.A1 g.h.heaps.length g.c1, .slice g.A2 g.h.rains.length g.c2, .int .i64 g.h.d0, .int .i64 g.h.d1, .int .i64 g.h.d2, .int .i64 g.h.limit, svV s (g.h.looks.length + 1)].toArray) ∧ svOk s 4 (g.h.looks.length + 1) ((g.h.looks.map lkL).flatten ++ lkL l) ∧ L' = svH 61 4 (g.h.looks.length + 1) ((g.h.looks.map lkL).flatten ++ lkL l) s L := by
  refine Tri.fgt ?_
  refine tri_of_WP Try.func39 rfl (n := 14) rfl (by simp) ?_
  have hsrc : ∀ L', Wk L' L → ∀ w, Inv N w0 L' w → ∀ j u, ((g.h.looks.map lkL).flatten)[j]? = some u → ∃ b o, g.A3 = some ⟨b, o, none⟩ ∧ w.cell? ⟨b, o + j, none⟩ = some u := fun L' hS w hI => (hlk w (hI.wk hS)).flat (by omega) (map_len (f := lkL) (fun _ => rfl) _)
  have hl4 : ((g.h.looks.map lkL).flatten).length = g.h.looks.length * (3 + 1) := map_flat (f := lkL) (fun _ => rfl) _
  have ho4 : ones ((g.h.looks.map lkL).flatten) = true := ones_flat (map_ones (f := lkL) (fun _ => rfl) _)
  obtain ⟨m, hm⟩ : ∃ m, g.h.looks.length = m := ⟨_, rfl⟩
  obtain ⟨xs, hxs⟩ : ∃ xs, (g.h.looks.map lkL).flatten = xs := ⟨_, rfl⟩
  unfold heapV hvL
  rw [hxs] at hsrc hl4 ho4 ⊢
  rw [hm] at hl4 hn hA ⊢
  unfold lkL
  repeat' (first | (refine GiP ?_; first | (refine Znh ?_) | (with_reducible refine Znl ?_) | (refine Zatd 5 ?_; refine Zbs fun b5 => ?_) | (refine Zatd 8 ?_; refine OPS_append0 rfl rfl rfl (by intro s9; repeat (first | exact Grow.here | apply Grow.there | apply Grow.sv | apply Grow.app)) svOk0 (hsrc _ (by repeat (first | exact Wk.refl _ | apply Wk.keep1 | apply Wk.drop | apply Wk.sv | apply Wk.svD | apply Wk.appD))) hA hl4 ho4 (by simp only [maxLen]; omega) (by omega) (fun s8 hs8 => ?_)) | (refine Zatd 10 ?_; refine Zal 10 fun b10 => ?_) | (refine Zatd 11 ?_; refine Zag (fun s11 hs11 => ?_)) | (refine Zatd 12 ?_; refine Zv Zfa ?_) | (refine Zatn ?_; refine Zst ?_)) | (refine GiW ?_; first | (refine Zsq fun K hK => ?_) | (refine ZrN 0 fun _ => ?_; refine Zal 2 fun b2 => ?_; refine Zal 3 fun b3 => ?_; refine Zal 4 fun b4 => ?_) | (refine ZrN 2 fun _ => ?_; refine Zv Zla ?_; refine Zst ?_) | (with_reducible apply WP_ret) | (refine WP_drawnS (id := 1) [1, 2, 4] [1, 2, 4] [] [6, 7, 9] (k := 3) (k2 := 3) (by repeat (first | apply Sub.sv | apply Sub.keep | apply Sub.appK | exact Sub.refl _)) (by kernel_rfl) prog_mixed (by kernel_rfl) (by kernel_rfl) rfl ?_; refine Zew rfl Zfa ?_; refine Zew rfl Zld ?_; refine Zew rfl Zla ?_)) | (with_reducible apply EWalk_nil) | (refine GiC ?_; first | (refine ZgC [1, 2, 4] ?_; refine ZC2 _ 0 [1, 2, 4, 0] 5 [1, 2, 4, 5] ?_ ?_) | (refine ZgC [1, 2, 4, 0] ?_; refine ZC2 _ 3 [1, 2, 4, 0, 3] 5 [1, 2, 4, 0, 5] ?_ ?_) | (refine ZgC [1, 2, 4, 0, 3] ?_; refine ZC1 _ 5 [1, 2, 4, 0, 3, 5] ?_) | (refine ZgC [1, 2, 4, 0, 3, 5] ?_; refine ZCl _ ?_) | (refine ZgC [1, 2, 4, 0, 5] ?_; refine ZC1 _ 3 [1, 2, 4, 0, 3, 5] ?_) | (refine ZgC [1, 2, 4, 5] ?_; refine ZC1 _ 0 [1, 2, 4, 0, 5] ?_)) | (refine GiO ?_; first | (refine ZgO [1, 2, 4, 0, 3, 5] ?_; refine ZO1 _ 6 [1, 2, 4, 0, 3, 5, 6] ?_) | (refine ZgO [1, 2, 4, 0, 3, 5, 6] ?_; refine ZO1 _ 7 [1, 2, 4, 0, 3, 5, 6, 7] ?_) | (refine ZgO [1, 2, 4, 0, 3, 5, 6, 7] ?_; refine ZO1 _ 8 [1, 2, 4, 0, 3, 5, 6, 7, 8] ?_) | (refine ZgO [1, 2, 4, 0, 3, 5, 6, 7, 8] ?_; refine ZOd _ ?_; (try with_reducible apply noP_normal); (try with_reducible exact key.out))) | (refine Zhn ?_) | (refine AWalk_0 ?_) | (with_reducible apply QAny_normal) | (with_reducible apply QC_normal))
  all_goals
    refine QBody_res rfl (.cellN rfl (by repeat (first | exact Mem.here | assumption | apply Mem.there | apply Mem.sv | apply Mem.app)) (.here (.cons (.cons (.cons (.cons (.cons (.cons (.cons .nil)))))))) .nil) rfl ?_
    exact ⟨svH 61 4 (m + 1) (xs ++ [.int .i64 l.heap, .int .i64 l.day, .int .i64 l.lo, .int .i64 l.hi]) _ L, (by repeat (first | exact Wk.refl _ | apply Wk.keep1 | apply Wk.drop | apply Wk.sv | apply Wk.svD | apply Wk.appD)), _, rfl, by assumption, rfl⟩
theorem with39_tri (L : Hp) (g : Bg) (l : Lk) (hlk : ∀ w, Inv N w0 L w → SlAt w.heap.size w g.A3 4 (g.h.looks.map lkL)) (hn : g.h.looks.length ≤ 1000) (hA : g.A3 = none → g.h.looks.length = 0) : Tri Try.prog N w0 L 39 [heapV g, .agg (lkL l).toArray].toArray fun x L' => ∃ v, x = .returned v ∧ ∃ b cap, v = heapV { g with h := addL g.h l, A3 := some ⟨b, 0, none⟩, c3 := cap } ∧ L' = (b, Row 61 4 (g.h.looks.length + 1) cap (((g.h.looks ++ [l]).map lkL).flatten)) :: L := by
  refine (with39_a N w0 L g l hlk hn hA).mono ?_
  rintro x L' ⟨s, rfl, hs, rfl⟩
  cases s with
  | none => have := hs.2 rfl; omega
  | some p =>
    obtain ⟨b, cap⟩ := p
    have e : ((g.h.looks ++ [l]).map lkL).flatten = (g.h.looks.map lkL).flatten ++ lkL l := by simp
    refine ⟨_, rfl, b, cap, ?_, ?_⟩
    · unfold heapV hvL
      have : (addL g.h l).looks.length = g.h.looks.length + 1 := by simp [addL]
      dsimp only
      rw [this]
      rfl
    · rw [e]; rfl
end
end Go.Proofs.Ytlpahkmfjpjheaa
end

section
namespace Go.Proofs.Ytlpahkmfjpjheaa
open Go.RowKit
theorem vB_of' {h : Hv} (v : VH h) : vB h = true := by
  have h1 := v.nh
  have h2 := v.nr
  have h3 := v.lim
  have h4 := v.nl
  have h5 := v.dr
  simp only [vB, numB, drB, Bool.and_eq_true, List.all_eq_true, within, isSpanB, tfB, lkB, decide_eq_true_eq]
  refine ⟨⟨⟨⟨?_, fun t ht => ?_⟩, fun s hs => ?_⟩, ?_⟩, fun l hl => ?_⟩
  · refine ⟨⟨⟨?_, ?_⟩, ?_⟩, h4⟩ <;> constructor <;> omega
  · have := v.tf t ht; refine ⟨⟨?_, ?_⟩, ?_⟩ <;> omega
  · have := v.rn s hs; omega
  · refine ⟨⟨⟨?_, ?_⟩, ?_, ?_⟩, ?_, ?_⟩ <;> omega
  · have := v.lk l hl; refine ⟨⟨⟨?_, ?_⟩, ?_, ?_⟩, ?_⟩ <;> omega
/-- Heaps that are not valid. -/
theorem errE_bad {h : Hv} (hb : vB h = false) (ok : Bool) : errE h ok = 1 := by simp [errE, hb]
theorem wetV_bad {h : Hv} (hb : vB h = false) (i d : Int) : WetV h i d = (0, 0) := by
  unfold WetV; rw [errE_bad hb, if_neg (by omega)]
theorem all_bad {h : Hv} (hb : vB h = false) : AllE h = 1 ∧ AllV h = 0 := by
  have : AllE h = 1 := by unfold AllE errW; rw [errE_bad hb, if_neg (by omega)]
  exact ⟨this, by unfold AllV; rw [this, if_neg (by omega)]⟩
/-- What is none. -/
theorem errE_none {h : Hv} (hb : vB h = true) : errE h false = 2 := by simp [errE, hb]
theorem none_wet (h : Hv) : WetOk h h.heaps.length 0 = false := by unfold WetOk within; simp; omega
theorem none_rain (h : Hv) : DayOk h h.rains.length = false := by unfold DayOk within; simp; omega
theorem none_dry (h : Hv) : WetOk h 0 (-1) = false := by unfold WetOk within; simp
theorem none_day (h : Hv) : DayOk h (-1) = false := by unfold DayOk within; simp
theorem none_when {h : Hv} (hb : vB h = true) : WhenE h (-1) = 2 := by
  have h1 : HeapOk h (-1) = false := by unfold HeapOk within; simp
  unfold WhenE errW
  rw [h1, errE_none hb, if_neg (by omega)]
section
variable {h : Hv} (hv : VH h) (h0 : toldL h ≠ [])
include hv h0
theorem ends_rain {d : Nat} (hd : d < h.rains.length) {c : Int} (hc : h.rains[d].1 ≤ c ∧ c ≤ h.rains[d].2) :
    (errE (setR h d (c, c)) (DayOk (setR h d (c, c)) d) = 0 ∧ RainV (setR h d (c, c)) d = (c, c) ∧ (rainS h d).1 ≤ c ∧ c ≤ (rainS h d).2) ∨
    (errE (setR h d (c, c)) (DayOk (setR h d (c, c)) d) = 10 ∧ RainV (setR h d (c, c)) d = (0, 0) ∧ c ≠ (rainS h d).1 ∧ c ≠ (rainS h d).2) := by
  have hv' : VH (setR h d (c, c)) := VH_setR hv hd (by dsimp only; omega)
  have hd' : d < (setR h d (c, c)).rains.length := by show d < (h.rains.set d (c, c)).length; rw [List.length_set]; exact hd
  obtain ⟨k1, k2⟩ := rain_known hv h0 hd hc
  by_cases h1 : toldL (setR h d (c, c)) = []
  · have := rain_clash (vB_of' hv') h1 hd'
    refine .inr ⟨this.2, this.1, fun he => k2 (.inl he) h1, fun he => k2 (.inr he) h1⟩
  · have := rain_ok (vB_of' hv') h1 hd'
    obtain ⟨a, b, e⟩ := k1 h1
    exact .inl ⟨this.2, by rw [this.1, e], a, b⟩
theorem ends_look {i d : Nat} (hi : i < h.heaps.length) (hd : d < h.rains.length) (hn : h.looks.length < 5) {c : Int} (hc : 0 ≤ c ∧ c ≤ 100) (he : c = (wetS h i d).1 - 1 ∨ c = (wetS h i d).1 ∨ c = (wetS h i d).2 ∨ c = (wetS h i d).2 + 1) :
    (errE (addL h ⟨i, d, c, c⟩) (WetOk (addL h ⟨i, d, c, c⟩) i d) = 0 ∧ WetV (addL h ⟨i, d, c, c⟩) i d = (c, c) ∧ (wetS h i d).1 ≤ c ∧ c ≤ (wetS h i d).2) ∨
    (errE (addL h ⟨i, d, c, c⟩) (WetOk (addL h ⟨i, d, c, c⟩) i d) = 10 ∧ WetV (addL h ⟨i, d, c, c⟩) i d = (0, 0) ∧ ¬ ((wetS h i d).1 ≤ c ∧ c ≤ (wetS h i d).2)) := by
  obtain ⟨hv', h1, h2⟩ := look_known hv h0 hi hd hn hc
  have hH := wetS_hull hv h0 hi hd
  by_cases h3 : toldL (addL h ⟨i, d, c, c⟩) = []
  · have := wet_clash (vB_of' hv') h3 (i := i) (d := d) hi hd
    refine .inr ⟨this.2, this.1, fun hh => ?_⟩
    have hp : ¬ WetP h i d c := fun hp => h1.2 hp h3
    have e1 : c ≠ (wetS h i d).1 := fun e => hp (e ▸ hH.1)
    have e2 : c ≠ (wetS h i d).2 := fun e => hp (e ▸ hH.2.1)
    omega
  · have := wet_ok (vB_of' hv') h3 (i := i) (d := d) hi hd
    have hb := hH.2.2 c (h1.1 h3)
    exact .inl ⟨this.2, by rw [this.1, h2 h3], hb⟩
end
end Go.Proofs.Ytlpahkmfjpjheaa
end

section
namespace Go.Proofs.Ytlpahkmfjpjheaa
open Go.RowKit
attribute [local irreducible] AnyO AnyB QAny QB EWalk AWalk Ev WP OPS QThen QBlock QScope QLoop QBody Val New Turn Tri Enters PostA Blk Ro
attribute [local irreducible] AnyC QC
theorem Val_remE {N : Nat} {w0 : World} {L : Hp} {e : Env} {d : Option Nat} {ty : TypeId} {pos : String} {af : Array Edge} {g : Option (Nat × Bool)} {x y : Operand} {t t' : TypeId} {a b c : Nat} (hc : a % b = c) (hb : 0 < b) (hx : ev e x = .int .i64 (a : Int)) (hy : ev e y = .int .i64 (b : Int)) : Val Try.prog N w0 L e ⟨d, .binOp .rem t x y t', ty, pos, af, g⟩ (.int .i64 (c : Int)) := by
  have := Val_rem (P := Try.prog) (N := N) (w0 := w0) (L := L) (d := d) (ty := ty) (pos := pos) (af := af) (g := g) (t := t) (t' := t') hx hy (by omega)
  have e : ((a : Int).tmod b) = (c : Int) := by rw [Int.tmod_eq_emod_of_nonneg (by omega), ← hc]; omega
  rwa [e] at this
theorem longB_ok {h : Hv} (hl : longB h = false) : h.heaps.length ≤ 40 ∧ h.rains.length ≤ 40 ∧ h.looks.length ≤ 40 := by
  unfold longB at hl
  simp only [decide_eq_false_iff_not] at hl
  omega
section
variable (N : Nat) (w0 : World)
/-- Far too long, or not valid: the examples alone. -/
theorem dry_law0 (L : Hp) (g : Bg) (hA : HeapAt N w0 g) (which at_ : Nat) (h0 : longB g.h = true ∨ vB g.h = false) : Ret Try.prog N w0 L 8 [heapV g, .int .u8 (which : Int), .int .u8 (at_ : Int)].toArray (.bool true) := by
  refine Ret.fgt ?_
  refine tri_of_WP Try.func8 rfl (n := 287) rfl (by simp) ?_
  have h34 := fun L => long_ret N w0 L g
  have h13 := fun L => alive_ret N w0 L
  cases hlong : longB g.h with
  | true =>
    rw [hlong] at h34
    unfold heapV hvL at h34 ⊢
    repeat' (first | (refine GiP ?_; first | (refine Znh ?_) | (refine Zatd 31 ?_; (first | (refine Zv Zxpt ?_) | (refine Zv Zxpf ?_))) | (refine Zsk ?_)) | (refine GiW ?_; first | (refine Zsq fun K hK => ?_) | (refine ZrN 0 fun _ => ?_; refine Zal 3 fun b3 => ?_; refine Zv Zab ?_) | (refine ZrG 1 ?_; refine Zv Zla ?_; refine Zcl (Enters_fn rfl) (h34 _) ?_; refine Zv Zmb ?_) | (refine ZrN 2 fun _ => ?_; refine Zcl (Enters_fn rfl) (h13 _) ?_; refine Zv Zab ?_) | (refine WP_cond_true rfl ?_) | (with_reducible apply WP_ret)) | (refine Zhr ?_))
    exact QBody_ret1 rfl (rfl : _ = Value.bool _) ⟨rfl, (by repeat (first | exact Wk.refl _ | apply Wk.keep1 | apply Wk.drop | apply Wk.sv | apply Wk.svD | apply Wk.appD))⟩
  | false =>
    obtain ⟨l1, l2, l3⟩ := longB_ok hlong
    have h35 := fun L => Heaps_ret N w0 L g hA (by omega) (by omega) (by omega)
    have hvb : vB g.h = false := by rcases h0 with h0 | h0; rw [hlong] at h0; cases h0; exact h0
    rw [hlong] at h34
    rw [hvb] at h35
    unfold heapV hvL at h34 h35 ⊢
    repeat' (first | (refine GiP ?_; first | (refine Znh ?_) | (refine Zatd 31 ?_; (first | (refine Zv Zxpt ?_) | (refine Zv Zxpf ?_))) | (refine Zatd 28 ?_; refine Zv Zla ?_) | (refine Zatd 29 ?_; refine Zcl (Enters_fn rfl) (h35 _) ?_) | (refine Zatd 30 ?_; refine Zv Zxnot ?_)) | (refine GiW ?_; first | (refine Zsq fun K hK => ?_) | (refine ZrN 0 fun _ => ?_; refine Zal 3 fun b3 => ?_; refine Zv Zab ?_) | (refine ZrG 1 ?_; refine Zv Zla ?_; refine Zcl (Enters_fn rfl) (h34 _) ?_; refine Zv Zmb ?_) | (refine ZrN 2 fun _ => ?_; refine Zcl (Enters_fn rfl) (h13 _) ?_; refine Zv Zab ?_) | (refine WP_cond_true rfl ?_) | (with_reducible apply WP_ret)) | (refine Zhr ?_))
    exact QBody_ret1 rfl (rfl : _ = Value.bool _) ⟨rfl, (by repeat (first | exact Wk.refl _ | apply Wk.keep1 | apply Wk.drop | apply Wk.sv | apply Wk.svD | apply Wk.appD))⟩
end
end Go.Proofs.Ytlpahkmfjpjheaa
end

section
namespace Go.Proofs.Ytlpahkmfjpjheaa
open Go.RowKit
attribute [local irreducible] AnyO AnyB QAny QB EWalk AWalk Ev WP OPS QThen QBlock QScope QLoop QBody Val New Turn Tri Enters PostA Blk Ro
attribute [local irreducible] AnyC QC
section
variable (N : Nat) (w0 : World)
/-- Is a number in a span? -/
def insB (n lo hi : Int) : Bool := decide (lo ≤ n) && decide (n ≤ hi)
theorem inside38_ret (L : Hp) (n lo hi : Int) : Ret Try.prog N w0 L 38 [.int .i64 n, .agg [.int .i64 lo, .int .i64 hi].toArray].toArray (.bool (insB n lo hi)) := by
  refine Ret.fgt ?_
  refine tri_of_WP Try.func38 rfl (n := 15) rfl (by simp) ?_
  repeat' (first | (refine GiP ?_; first | (refine Znh ?_) | (refine Zatd 14 ?_; (first | (refine Zv Zxpt ?_) | (refine Zv Zxpf ?_)); refine Zv Zab ?_) | (refine Zatd 10 ?_; refine Zv Zmi ?_) | (refine Zatd 11 ?_; refine Zv Zfa ?_) | (refine Zatd 12 ?_; refine Zv Zld ?_) | (refine Zatd 13 ?_; refine Zv Zxleq ?_) | (refine Zsk ?_) | (refine Zsp (fun hc => ?_) (fun hc => ?_) <;> (try (exfalso; omega)))) | (refine GiW ?_; first | (refine Zsq fun K hK => ?_) | (refine ZrN 0 fun _ => ?_; refine Zal 3 fun b3 => ?_; refine Zv Zab ?_) | (refine ZrG 1 ?_; refine Zv Zf0 ?_; refine Zv Zld ?_; refine Zv Zmi ?_; refine Zv Zxleq ?_; refine Zv Zmb ?_) | (with_reducible apply WP_ret)))
  all_goals (refine QBody_ret1 rfl (rfl : _ = Value.bool _) ⟨?_, (by repeat (first | exact Wk.refl _ | apply Wk.keep1 | apply Wk.drop | apply Wk.sv | apply Wk.svD | apply Wk.appD))⟩; simp [insB, *])
theorem Val_eqlS {L : Hp} {e : Env} {d : Option Nat} {ty : TypeId} {pos : String} {af : Array Edge} {g : Option (Nat × Bool)} {x y : Operand} {t t' : TypeId} [hk : KeyTy Try.prog t [.i64, .i64]] {a b a' b' : Int} (hx : ev e x = .agg [.int .i64 a, .int .i64 b].toArray) (hy : ev e y = .agg [.int .i64 a', .int .i64 b'].toArray) (h1 : a = a') (h2 : b = b') (ha : -1000000 ≤ a ∧ a ≤ 1000000) (hb : -1000000 ≤ b ∧ b ≤ 1000000) : Val Try.prog N w0 L e ⟨d, .binOp .eql t x y t', ty, pos, af, g⟩ (.bool true) := by
  subst h1 h2
  have := Val_eqlI (P := Try.prog) (N := N) (w0 := w0) (L := L) (d := d) (t := t) (t' := t') (ty := ty) (pos := pos) (af := af) (g := g) (ks := [.i64, .i64]) (a := [a, b]) (b := [a, b]) hx hy rfl rfl (inKw ha hb) (inKw ha hb)
  rwa [decide_eq_true rfl] at this
/-- Too long: the examples alone. -/
theorem ends_law0 (L : Hp) (g : Bg) (which at_ : Nat) (hlong : longB g.h = true) : Ret Try.prog N w0 L 7 [heapV g, .int .u8 (which : Int), .int .u8 (at_ : Int)].toArray (.bool true) := by
  refine Ret.fgt ?_
  refine tri_of_WP Try.func7 rfl (n := 327) rfl (by simp) ?_
  have h34 := fun L => long_ret N w0 L g
  have h13 := fun L => alive_ret N w0 L
  rw [hlong] at h34
  unfold heapV hvL at h34 ⊢
  repeat' (first | (refine Znh ?_) | (refine GiW ?_; first | (refine Zsq fun K hK => ?_) | (refine ZrN 0 fun _ => ?_; refine Zal 3 fun b3 => ?_; refine Zv Zab ?_) | (refine ZrN 1 fun _ => ?_; refine Zv Zla ?_; refine Zcl (Enters_fn rfl) (h34 _) ?_) | (refine ZrN 2 fun _ => ?_; refine Zcl (Enters_fn rfl) (h13 _) ?_; refine Zv Zab ?_) | (refine WP_cond_true rfl ?_) | (with_reducible apply WP_ret)) | (refine Zhr ?_))
  exact QBody_ret1 rfl (rfl : _ = Value.bool _) ⟨rfl, (by repeat (first | exact Wk.refl _ | apply Wk.keep1 | apply Wk.drop | apply Wk.sv | apply Wk.svD | apply Wk.appD))⟩
theorem ends_law1 (L : Hp) (g : Bg) (hA : HeapAt N w0 g) (which at_ : Nat) (hlong : longB g.h = false) (hvb : vB g.h = false) : Ret Try.prog N w0 L 7 [heapV g, .int .u8 (which : Int), .int .u8 (at_ : Int)].toArray (.bool true) := by
  refine Ret.fgt ?_
  refine tri_of_WP Try.func7 rfl (n := 327) rfl (by simp) ?_
  obtain ⟨l1, l2, l3⟩ := longB_ok hlong
  have h34 := fun L => long_ret N w0 L g
  have h13 := fun L => alive_ret N w0 L
  have h35 := fun L => Heaps_ret N w0 L g hA (by omega) (by omega) (by omega)
  have h14 := fun L => Wet_ret N w0 L g hA 0 0
  have h22 := fun L => All_ret N w0 L g hA
  rw [hlong] at h34
  rw [hvb] at h35
  rw [wetV_bad hvb, errE_bad hvb] at h14
  rw [(all_bad hvb).1, (all_bad hvb).2] at h22
  unfold heapV hvL at h34 h35 h14 h22 ⊢
  repeat' (first | (refine GiP ?_; first | (refine Znh ?_) | (refine Zatd 60 ?_; (first | (refine Zv Zxpt ?_) | (refine Zv Zxpf ?_)); refine Zv Zmb ?_) | (refine Zatd 65 ?_; (first | (refine Zv Zxpt ?_) | (refine Zv Zxpf ?_)); refine Zv Zmb ?_) | (refine Zatd 69 ?_; (first | (refine Zv Zxpt ?_) | (refine Zv Zxpf ?_)); refine Zv Zmb ?_) | (refine Zatd 72 ?_; (first | (refine Zv Zxpt ?_) | (refine Zv Zxpf ?_)); refine Zv Zab ?_) | (refine Zatd 57 ?_; refine Zv Zmi ?_) | (refine Zatd 58 ?_; refine Zv Zmi ?_) | (refine Zatd 59 ?_; refine Zv (Zyeql) ?_) | (refine Zatd 62 ?_; refine Zv Zla ?_) | (refine Zatd 63 ?_; refine Zv Zxbu ?_) | (refine Zatd 64 ?_; refine Zv (Val_eqlS N w0 rfl rfl rfl rfl (by omega) (by omega)) ?_) | (refine Zatd 67 ?_; refine Zv Zmi ?_) | (refine Zatd 68 ?_; refine Zv (Zyeql) ?_) | (refine Zatd 71 ?_; refine Zcl (Enters_fn rfl) (h13 _) ?_)) | (refine GiW ?_; first | (refine Zsq fun K hK => ?_) | (refine ZrN 0 fun _ => ?_; refine Zal 3 fun b3 => ?_; refine Zv Zab ?_) | (refine ZrN 1 fun _ => ?_; refine Zv Zla ?_; refine Zcl (Enters_fn rfl) (h34 _) ?_) | (refine ZrN 3 fun _ => ?_; refine Zv Zla ?_; refine Zcl (Enters_fn rfl) (h35 _) ?_; refine Zv Zxnot ?_) | (refine ZrN 4 fun _ => ?_; refine Zv Zla ?_; refine Zcl (Enters_fn rfl) (h14 _) ?_; refine Zv Zmv ?_; refine Zv Zxex ?_; refine Zv Zxex ?_; refine Zal 7 fun b7 => ?_; refine Zst ?_; refine Zv Zai ?_) | (refine ZrN 5 fun _ => ?_; refine Zv Zla ?_; refine Zcl (Enters_fn rfl) (h22 _) ?_; refine Zv Zmv ?_; refine Zv Zxex ?_; refine Zv Zxex ?_; refine Zv Zai ?_; refine Zv Zai ?_) | (refine ZrG 6 ?_; refine Zv Zmi ?_; (first | (refine Zv (Val_eqlS N w0 rfl rfl rfl rfl (by omega) (by omega)) ?_) | (refine Zv (Zyeql) ?_)); refine Zv Zmb ?_) | (refine WP_cond_true rfl ?_) | (refine WP_cond_false rfl ?_) | (with_reducible apply WP_skip) | (with_reducible apply WP_ret)) | (refine Zhn ?_) | (refine Zhr ?_))
  exact QBody_ret1 rfl (rfl : _ = Value.bool _) ⟨rfl, (by repeat (first | exact Wk.refl _ | apply Wk.keep1 | apply Wk.drop | apply Wk.sv | apply Wk.svD | apply Wk.appD))⟩
set_option maxRecDepth 100000 in
set_option maxHeartbeats 4000000 in
theorem ends_law2 (L : Hp) (g : Bg) (hA : HeapAt N w0 g) (which at_ : Nat) (hw8 : which ≤ 255) (ha8 : at_ ≤ 255) (hlong : longB g.h = false) (hvb : vB g.h = true) (h0 : toldL g.h = []) : Ret Try.prog N w0 L 7 [heapV g, .int .u8 (which : Int), .int .u8 (at_ : Int)].toArray (.bool true) := by
  have hv := VH_of hvb
  have hnh := hv.nh
  have hnr := hv.nr
  refine Ret.fgt ?_
  refine tri_of_WP Try.func7 rfl (n := 327) rfl (by simp) ?_
  obtain ⟨l1, l2, l3⟩ := longB_ok hlong
  obtain ⟨i, hi⟩ : ∃ i, which % g.h.heaps.length = i := ⟨_, rfl⟩
  obtain ⟨d, hd⟩ : ∃ d, at_ % g.h.rains.length = d := ⟨_, rfl⟩
  have hi1 : i < g.h.heaps.length := by rw [← hi]; exact Nat.mod_lt _ (by omega)
  have hd1 : d < g.h.rains.length := by rw [← hd]; exact Nat.mod_lt _ (by omega)
  have h34 := fun L => long_ret N w0 L g
  have h13 := fun L => alive_ret N w0 L
  have h35 := fun L => Heaps_ret N w0 L g hA (by omega) (by omega) (by omega)
  have h14 := fun L => Wet_ret N w0 L g hA i d
  have h16 := fun L => Rain_ret N w0 L g hA d
  have h14b := fun L => Wet_ret N w0 L g hA g.h.heaps.length 0
  have h16b := fun L => Rain_ret N w0 L g hA g.h.rains.length
  have h18 := fun L => Dry_ret N w0 L g hA 0 (-1)
  have h24 := fun L => Doubt_ret N w0 L g hA (-1)
  have h20 := fun L => When_ret N w0 L g hA (-1)
  have h28 := fun L => Clash_ret N w0 L g hA
  rw [(wet_clash hvb h0 hi1 hd1).1, (wet_clash hvb h0 hi1 hd1).2] at h14
  rw [(rain_clash hvb h0 hd1).1, (rain_clash hvb h0 hd1).2] at h16
  rw [none_wet, errE_none hvb] at h14b
  rw [none_rain, errE_none hvb] at h16b
  rw [none_dry, errE_none hvb] at h18
  rw [none_day, errE_none hvb] at h24
  rw [none_when hvb] at h20
  have hcl := clash_told hv hvb
  have hce : ClashE g.h = 0 := by rcases hcl with ⟨_, _, h1⟩ | ⟨h1, _⟩; exact absurd h0 h1; exact h1
  rw [hce] at h28
  rw [hlong] at h34
  rw [hvb] at h35
  unfold heapV hvL at h34 h35 h14 h16 h14b h16b h18 h24 h20 h28 ⊢
  repeat' (first | (refine GiP ?_; first | (refine Znh ?_) | (refine Zatd 141 ?_; (first | (refine Zv Zxpt ?_) | (refine Zv Zxpf ?_)); refine Zv Zmb ?_) | (refine Zatd 146 ?_; (first | (refine Zv Zxpt ?_) | (refine Zv Zxpf ?_)); refine Zv Zmb ?_) | (refine Zatd 151 ?_; (first | (refine Zv Zxpt ?_) | (refine Zv Zxpf ?_)); refine Zv Zmb ?_) | (refine Zatd 156 ?_; (first | (refine Zv Zxpt ?_) | (refine Zv Zxpf ?_)); refine Zv Zmb ?_) | (refine Zatd 161 ?_; (first | (refine Zv Zxpt ?_) | (refine Zv Zxpf ?_)); refine Zv Zmb ?_) | (refine Zatd 168 ?_; (first | (refine Zv Zxpt ?_) | (refine Zv Zxpf ?_))) | (refine Zatd 177 ?_; (first | (refine Zv Zxpt ?_) | (refine Zv Zxpf ?_)); refine Zv Zmb ?_) | (refine Zatd 182 ?_; (first | (refine Zv Zxpt ?_) | (refine Zv Zxpf ?_)); refine Zv Zmb ?_) | (refine Zatd 185 ?_; (first | (refine Zv Zxpt ?_) | (refine Zv Zxpf ?_)); refine Zv Zab ?_) | (refine Zatd 138 ?_; refine Zv Zmi ?_) | (refine Zatd 139 ?_; refine Zv Zmi ?_) | (refine Zatd 140 ?_; refine Zv (Zyneq) ?_) | (refine Zatd 143 ?_; refine Zv Zmi ?_) | (refine Zatd 144 ?_; refine Zv Zmi ?_) | (refine Zatd 145 ?_; refine Zv (Zyneq) ?_) | (refine Zatd 148 ?_; refine Zv Zmi ?_) | (refine Zatd 149 ?_; refine Zv Zmi ?_) | (refine Zatd 150 ?_; refine Zv (Zyneq) ?_) | (refine Zatd 153 ?_; refine Zv Zmi ?_) | (refine Zatd 154 ?_; refine Zv Zmi ?_) | (refine Zatd 155 ?_; refine Zv (Zyneq) ?_) | (refine Zatd 158 ?_; refine Zv Zmi ?_) | (refine Zatd 159 ?_; refine Zv Zmi ?_) | (refine Zatd 160 ?_; refine Zv (Zyneq) ?_) | (refine Zatd 163 ?_; refine Zv Zmi ?_) | (refine Zatd 164 ?_; refine Zv (Zyeql) ?_) | (refine Zatd 165 ?_; refine Zv Zmi ?_) | (refine Zatd 166 ?_; refine Zv (Zyeql) ?_) | (refine Zatd 167 ?_; refine Zv (ZxneqB) ?_) | (refine Zatd 174 ?_; refine Zv Zla ?_) | (refine Zatd 175 ?_; refine Zv Zxbu ?_) | (refine Zatd 176 ?_; refine Zv (Val_eqlS N w0 rfl rfl rfl rfl (by omega) (by omega)) ?_) | (refine Zatd 179 ?_; refine Zv Zla ?_) | (refine Zatd 180 ?_; refine Zv Zxbu ?_) | (refine Zatd 181 ?_; refine Zv (Val_eqlS N w0 rfl rfl rfl rfl (by omega) (by omega)) ?_) | (refine Zatd 184 ?_; refine Zcl (Enters_fn rfl) (h13 _) ?_)) | (refine GiW ?_; first | (refine Zsq fun K hK => ?_) | (refine ZrN 0 fun _ => ?_; refine Zal 3 fun b3 => ?_; refine Zv Zab ?_) | (refine ZrN 1 fun _ => ?_; refine Zv Zla ?_; refine Zcl (Enters_fn rfl) (h34 _) ?_) | (refine ZrN 3 fun _ => ?_; refine Zv Zla ?_; refine Zcl (Enters_fn rfl) (h35 _) ?_; refine Zv Zxnot ?_) | (refine ZrN 8 fun _ => ?_; refine Zv Zla ?_; refine Zv Zmi ?_; refine Zv Zmi ?_; (first | (refine Zcl (Enters_fn rfl) (h14 _) ?_) | (refine Zcl (Enters_fn rfl) (h14b _) ?_)); refine Zv Zmv ?_; refine Zv Zxex ?_; refine Zv Zxex ?_; refine Zal 13 fun b13 => ?_; refine Zst ?_; refine Zv Zai ?_) | (refine ZrN 9 fun _ => ?_; refine Zv Zla ?_; refine Zv Zmi ?_; (first | (refine Zcl (Enters_fn rfl) (h16 _) ?_) | (refine Zcl (Enters_fn rfl) (h16b _) ?_)); refine Zv Zmv ?_; refine Zv Zxex ?_; refine Zv Zxex ?_; refine Zal 15 fun b15 => ?_; refine Zst ?_; refine Zv Zai ?_) | (refine ZrN 10 fun _ => ?_; refine Zv Zla ?_; refine Zv Zf0 ?_; refine Zv Zld ?_; refine Zv Zxlen ?_; (first | (refine Zcl (Enters_fn rfl) (h14 _) ?_) | (refine Zcl (Enters_fn rfl) (h14b _) ?_)); refine Zv Zmv ?_; refine Zv Zxex ?_; refine Zv Zxex ?_; refine Zal 17 fun b17 => ?_; refine Zst ?_; refine Zv Zai ?_) | (refine ZrN 11 fun _ => ?_; refine Zv Zla ?_; refine Zv Zfa ?_; refine Zv Zld ?_; refine Zv Zxlen ?_; (first | (refine Zcl (Enters_fn rfl) (h16 _) ?_) | (refine Zcl (Enters_fn rfl) (h16b _) ?_)); refine Zv Zmv ?_; refine Zv Zxex ?_; refine Zv Zxex ?_; refine Zal 19 fun b19 => ?_; refine Zst ?_; refine Zv Zai ?_) | (refine ZrN 12 fun _ => ?_; refine Zv Zla ?_; refine Zcl (Enters_fn rfl) (h18 _) ?_; refine Zv Zmv ?_; refine Zv Zxex ?_; refine Zv Zxex ?_; refine Zv Zai ?_; refine Zv Zai ?_) | (refine ZrN 13 fun _ => ?_; refine Zv Zla ?_; refine Zcl (Enters_fn rfl) (h24 _) ?_; refine Zv Zmv ?_; refine Zv Zxex ?_; refine Zv Zxex ?_; refine Zv Zxex ?_; refine Zv Zai ?_; refine Zv Zai ?_; refine Zv Zai ?_) | (refine ZrN 14 fun _ => ?_; refine Zv Zla ?_; refine Zcl (Enters_fn rfl) (h20 _) ?_; refine Zv Zmv ?_; refine Zv Zxex ?_; refine Zv Zxex ?_; refine Zv Zai ?_; refine Zv Zai ?_) | (refine ZrN 15 fun _ => ?_; refine Zv Zla ?_; refine Zcl (Enters_fn rfl) (h28 _) ?_; refine Zv Zmv ?_; refine Zv Zxex ?_; refine Zv Zxex ?_; refine Zv Zai ?_; refine Zv Zai ?_) | (refine ZrG 16 ?_; refine Zv Zmi ?_; (first | (refine Zv (ZxneqB) ?_) | (refine Zv (Zyneq) ?_)); refine Zv Zmb ?_) | (refine ZrN 18 fun _ => ?_; refine Zv Zmi ?_; (first | (refine Zv (ZxneqB) ?_) | (refine Zv (Zyneq) ?_))) | (refine ZrG 19 ?_; refine Zv Zmi ?_; (first | (refine Zv (Val_eqlS N w0 rfl rfl rfl rfl (by omega) (by omega)) ?_) | (refine Zv (Zyeql) ?_)); refine Zv Zmb ?_) | (refine WP_cond_true rfl ?_) | (refine WP_cond_false rfl ?_) | (with_reducible apply WP_skip) | (with_reducible apply WP_ret) | (refine WP_drawn (id := 7) [0, 1, 2, 3, 4, 5, 6, 7, 8, 9, 10, 11, 12, 13] [] (k := 0) prog_mixed (by kernel_rfl) rfl ?_; refine Zew rfl Zmi ?_; refine Zew rfl Zxco ?_; refine Zew rfl Zf0 ?_; refine Zew rfl Zld ?_; refine Zew rfl Zxlen ?_; (first | (refine Zew rfl (Val_remE2 hi (by omega) rfl rfl) ?_) | (refine Zew rfl (Val_remE2 hd (by omega) rfl rfl) ?_)); refine Zew rfl Zmi ?_; refine Zew rfl Zxco ?_; refine Zew rfl Zfa ?_; refine Zew rfl Zld ?_; refine Zew rfl Zxlen ?_; (first | (refine Zew rfl (Val_remE2 hi (by omega) rfl rfl) ?_) | (refine Zew rfl (Val_remE2 hd (by omega) rfl rfl) ?_)); refine Zew rfl Zai ?_; refine Zew rfl Zai ?_)) | (with_reducible apply EWalk_nil) | (refine AnyO_done (by kernel_rfl) ?_; (try with_reducible apply noP_normal); try with_reducible exact key.out) | (refine Zhn ?_) | (refine Zhr ?_) | (refine AWalk_0 ?_; refine ZisO ?_; apply shr; intro key))
  exact QBody_ret1 rfl (rfl : _ = Value.bool _) ⟨rfl, (by repeat (first | exact Wk.refl _ | apply Wk.keep1 | apply Wk.drop | apply Wk.sv | apply Wk.svD | apply Wk.appD))⟩
end
end Go.Proofs.Ytlpahkmfjpjheaa
end

section
namespace Go.Proofs.Ytlpahkmfjpjheaa
open Go.RowKit
attribute [local irreducible] AnyO AnyB QAny QB EWalk AWalk Ev WP OPS QThen QBlock QScope QLoop QBody Val New Turn Tri Enters PostA Blk Ro
attribute [local irreducible] AnyC QC
section
variable (N : Nat) (w0 : World)
theorem tmod_bd {a b : Int} (ha : 0 ≤ a) (hb : 0 < b) : 0 ≤ a.tmod b ∧ a.tmod b < b := ⟨Int.tmod_nonneg b ha, Int.tmod_lt_of_pos a hb⟩
theorem Val_remB {L : Hp} {e : Env} {d : Option Nat} {ty : TypeId} {pos : String} {af : Array Edge} {g : Option (Nat × Bool)} {x y : Operand} {t t' : TypeId} {m n v : Int} (hx : ev e x = .int .i64 m) (hy : ev e y = .int .i64 n) (h0 : n ≠ 0) (hv : m.tmod n = v) : Val Try.prog N w0 L e ⟨d, .binOp .rem t x y t', ty, pos, af, g⟩ (.int .i64 v) := by
  subst hv
  exact Val_rem hx hy h0
theorem _root_.Go.Proofs.Ytlpahkmfjpjheaa.Up.new {b : Nat} {φ φ' : Obj → Prop} {L L' : Hp} (h : Up L b φ φ' L') : Mem b φ' L' := by
  induction h with
  | here => exact .here
  | there _ ih => exact .there ih
/-- The numbers that are drawn from: at Ab, nb of them. -/
structure ByAt (N : Nat) (w0 : World) (Ab : Option Addr) (by_ : List Nat) : Prop where
  at_ : ∀ k (h : k < by_.length), ∃ b o, Ab = some ⟨b, o, none⟩ ∧ b < N ∧ w0.cell? ⟨b, o + k, none⟩ = some (.int .u16 (by_[k] : Int))
  bd : ∀ x ∈ by_, x ≤ 65535
set_option maxHeartbeats 2000000 in
theorem draw86_tri (L L' : Hp) (bc bb : Nat) (at_ : Int) (Ab : Option Addr) (cb : Nat) (by_ : List Nat) (hB : ByAt N w0 Ab by_) (hu : Up L bc (Blk 3 [.int .i64 at_]) (Blk 3 [.int .i64 (at_ + 1)]) L') (hm' : Mem bb (Blk 50 [.slice Ab by_.length cb]) L') (ha : 0 ≤ at_ ∧ at_ ≤ 1000) (lo hi : Int) (h0 : -1000 ≤ lo) (h1 : lo ≤ hi) (h2 : hi ≤ 1000) :
    Tri Try.prog N w0 L 86 [.agg [.int .i64 lo, .int .i64 hi].toArray, .pointer (some ⟨bc, 0, none⟩), .pointer (some ⟨bb, 0, none⟩)].toArray fun x L2 => ∃ v, x = .returned v ∧ ∃ m : Int, v = .int .i64 m ∧ lo ≤ m ∧ m ≤ hi ∧ L2 = L' := by
  have hmc := hu.mem
  obtain ⟨an, han⟩ : ∃ an : Nat, at_ = an := ⟨at_.toNat, by omega⟩
  subst han
  refine Tri.fgt ?_
  refine tri_of_WP Try.func86 rfl (n := 33) rfl (by simp) ?_
  have hfin : ∀ (m : Int), lo ≤ m → m ≤ hi → ∀ bx, (fun x L2 => ∃ L'', Wk L2 L'' ∧ ∃ v, x = Ending.returned v ∧ ∃ m : Int, v = .int .i64 m ∧ lo ≤ m ∧ m ≤ hi ∧ L'' = L') (.returned (.int .i64 m)) ((bx, Blk 31 [.int .i64 lo, .int .i64 hi]) :: L') := fun m a b bx => ⟨L', .drop (.refl _), _, rfl, m, rfl, a, b, rfl⟩
  repeat' (first | (refine Znh ?_) | (refine GiW ?_; first | (refine Zsq fun K hK => ?_) | (refine ZrN 0 fun _ => ?_; refine Zal 3 fun b3 => ?_; refine Zv Zai ?_) | (refine ZrN 1 fun _ => ?_; refine Zv Zld ?_; refine Zv Zxadd ?_; refine OPS_turnN (Turn_store rfl rfl (.there hu) rfl (.here (.cons .nil)) rfl rfl) rfl rfl ?_)))
  have hmc' : Mem bc (Blk 3 [.int .i64 ((an : Int) + 1)]) L' := hu.new
  by_cases hz : by_.length = 0
  · repeat' (first | (refine Znh ?_) | (refine GiW ?_; first | (refine Zsq fun K hK => ?_) | (refine ZrN 2 fun _ => ?_; refine Zv Zld ?_; refine Zv Zxlen ?_; refine Zv Zyeql ?_) | (refine ZrN 3 fun _ => ?_; refine Zv Zf0 ?_; refine Zv Zld ?_; refine Zv Zai ?_) | (refine WP_cond_true rfl ?_) | (with_reducible apply WP_ret)) | (refine Zhr ?_))
    exact QBody_ret1 rfl (rfl : _ = Value.int _ _) (hfin lo (Int.le_refl _) h1 _)
  · obtain ⟨q, hq⟩ : ∃ q, (an + 1) % by_.length = q := ⟨_, rfl⟩
    have hql : q < by_.length := by rw [← hq]; exact Nat.mod_lt _ (by omega)
    obtain ⟨b, o, hA, hb, hc⟩ := hB.at_ q hql
    have hx := hB.bd _ (List.getElem_mem hql)
    obtain ⟨x, hxe⟩ : ∃ x, by_[q] = x := ⟨_, rfl⟩
    rw [hxe] at hc hx
    obtain ⟨v, hv⟩ : ∃ v, ((x : Int) + 73 * ((an : Int) + 1)).tmod (hi - lo + 1) = v := ⟨_, rfl⟩
    have hvb := tmod_bd (a := (x : Int) + 73 * ((an : Int) + 1)) (b := hi - lo + 1) (by omega) (by omega)
    rw [hv] at hvb
    repeat' (first | (refine Znh ?_) | (refine GiW ?_; first | (refine Zsq fun K hK => ?_) | (refine ZrN 2 fun _ => ?_; refine Zv Zld ?_; refine Zv Zxlen ?_; refine Zv Zyeql ?_) | (refine WP_cond_false rfl ?_) | (with_reducible apply WP_skip) | (with_reducible apply WP_ret) | (refine WP_drawn (id := 4) [0, 1, 2, 3, 4, 5, 6, 7, 8, 9, 10, 11, 12, 13, 14, 15, 16, 17, 18, 19, 20, 21] [] (k := 0) prog_mixed (by kernel_rfl) rfl ?_; refine Zew rfl Zf0 ?_; refine Zew rfl Zld ?_; refine Zew rfl Zld ?_; refine Zew rfl Zld ?_; refine Zew rfl Zld ?_; refine Zew rfl Zxlen ?_; (first | (refine Zew rfl (Val_remE2 hq (by omega) rfl rfl) ?_) | (refine Zew rfl (Val_remB N w0 rfl rfl (by omega) hv) ?_)); refine Zew rfl Zia ?_; refine Zew rfl Zld ?_; refine Zew rfl Zxco ?_; refine Zew rfl Zld ?_; refine Zew rfl Zxmul ?_; refine Zew rfl Zxadd ?_; refine Zew rfl Zfa ?_; refine Zew rfl Zld ?_; refine Zew rfl Zf0 ?_; refine Zew rfl Zld ?_; refine Zew rfl Zxsub ?_; refine Zew rfl Zxadd ?_; (first | (refine Zew rfl (Val_remE2 hq (by omega) rfl rfl) ?_) | (refine Zew rfl (Val_remB N w0 rfl rfl (by omega) hv) ?_)); refine Zew rfl Zxadd ?_; refine Zew rfl Zai ?_)) | (with_reducible apply EWalk_nil) | (refine AnyO_done (by kernel_rfl) ?_; (try with_reducible apply noP_normal); try with_reducible exact key.out) | (refine Zhn ?_) | (refine AWalk_0 ?_; refine ZisO ?_; apply shr; intro key))
    exact QBody_ret1 rfl (rfl : _ = Value.int _ _) (hfin (lo + v) (by omega) (by omega) _)
theorem draws37_tri (L : Hp) (Ab : Option Addr) (nb cb : Nat) : Tri Try.prog N w0 L 37 [.slice Ab nb cb].toArray fun x L2 => ∃ v, x = .returned v ∧ ∃ bc bb, v = .func (.func 86) #[] [.pointer (some ⟨bc, 0, none⟩), .pointer (some ⟨bb, 0, none⟩)].toArray ∧ L2 = (bc, Blk 3 [.int .i64 0]) :: (bb, Blk 50 [.slice Ab nb cb]) :: L := by
  refine Tri.fgt ?_
  refine tri_of_WP Try.func37 rfl (n := 5) rfl (by simp) ?_
  repeat' (first | (refine Znh ?_) | (refine GiW ?_; first | (refine Zsq fun K hK => ?_) | (refine ZrN 0 fun _ => ?_; refine Zal 1 fun b1 => ?_; refine Zv Zav ?_) | (refine ZrN 1 fun _ => ?_; refine Zal 3 fun b3 => ?_; refine Zst ?_) | (refine ZrN 2 fun _ => ?_; refine Zv Val_makeFunc ?_; refine Zv Zav ?_) | (with_reducible apply WP_ret)))
  exact QBody_ret1 rfl rfl ⟨(b3, Blk 3 [.int .i64 0]) :: (b1, Blk 50 [.slice Ab nb cb]) :: L, (by repeat (first | exact Wk.refl _ | apply Wk.keep1 | apply Wk.drop | apply Wk.sv | apply Wk.svD | apply Wk.appD)), _, rfl, b3, b1, rfl, rfl⟩
end
end Go.Proofs.Ytlpahkmfjpjheaa
end
