/- Ways that meet again. · append to a slice that grows, wherever it stands among what is owned, of a whole slice that can be read, nil or not. · More rules: where memory lies as it lay, calls that give what is new, spans compared. · The law functions that lay heaps anew: with a look more. · The heap laws in plain terms: both ends. · The law HeapDry: its walk. · The law HeapMore in plain terms: what is known better, and what is numbered otherwise. · The law HeapMore: of what is not valid; and whether a span is in another one. -/
import Derived.Test.YtlpahkmfjpjheaaM2
import Derived.Test.YtlpahkmfjpjheaaM7
import Derived.Test.YtlpahkmfjpjheaaM8
section
namespace Go.Proofs.Ytlpahkmfjpjheaa
open Go.RowKit
section
variable {P : Program} {r : Option Nat} {n N : Nat} {w0 : World} {Q K : Post} {e : Env} {ds : List Deferred} {L : Hp}
/-- Where ways meet: what is known there (nor); any other way out is as it was (oth). -/
structure HCut {σ : Type} (ws : List Nat) (base : Env) (sl : σ → List (Nat × Value)) (Lp : σ → Hp) (J : σ → Prop) (ds : List Deferred) (K K' : Post) : Prop where
  nor : ∀ (s : σ) (e : Env) (L : Hp), Slots e (sl s) → Off ws e base → Wk L (Lp s) → J s → K' .normal e ds L
  oth : ∀ x e ds L, x ≠ .normal → K x e ds L → K' x e ds L
theorem WP_join {σ : Type} {c y : Code} (hK : HThen P r n N w0 y Q K) (ws : List Nat) (sl : σ → List (Nat × Value)) (Lp : σ → Hp) (J : σ → Prop)
    (h1 : ∀ K', HCut ws e sl Lp J ds K K' → WP P r n N w0 c K' e ds L) (h2 : ∀ s j, J s → WP P r n N w0 y Q (frame ws e (sl s) j) ds (Lp s)) : WP P r n N w0 c K e ds L := by
  refine WP_mono (h1 (fun x e' ds' L' => match x with
    | .normal => ds' = ds ∧ ∃ s, Slots e' (sl s) ∧ Off ws e' e ∧ Wk L' (Lp s) ∧ J s
    | x => K x e' ds' L') ⟨fun s e' L' a b c d => ⟨rfl, s, a, b, c, d⟩, fun x _ _ _ hx h => by cases x <;> first | exact absurd rfl hx | exact h⟩) ?_
  intro x e' ds' L' h
  cases x with
  | normal =>
    obtain ⟨rfl, s, a, b, c, d⟩ := h
    have hf : e' = frame ws e (sl s) e' := frame_intro a.look b
    rw [hf]
    exact hK.normal (WP_wk c (h2 s e' d))
  | _ => exact h
theorem HCut.ret {σ : Type} {ws : List Nat} {base : Env} {sl : σ → List (Nat × Value)} {Lp : σ → Hp} {J : σ → Prop} {ds0 : List Deferred} {K' : Post} (h : HCut ws base sl Lp J ds0 K K') (k : K .ret e ds L) : K' .ret e ds L := h.oth _ _ _ _ (by simp) k
theorem HCut.exit {σ : Type} {ws : List Nat} {base : Env} {sl : σ → List (Nat × Value)} {Lp : σ → Hp} {J : σ → Prop} {ds0 : List Deferred} {K' : Post} {id : Nat} (h : HCut ws base sl Lp J ds0 K K') (k : K (.exit id) e ds L) : K' (.exit id) e ds L := h.oth _ _ _ _ (by simp) k
theorem HCut.panic {σ : Type} {ws : List Nat} {base : Env} {sl : σ → List (Nat × Value)} {Lp : σ → Hp} {J : σ → Prop} {ds0 : List Deferred} {K' : Post} {ch : List PanicEntry} (h : HCut ws base sl Lp J ds0 K K') (k : K (.panic ch) e ds L) : K' (.panic ch) e ds L := h.oth _ _ _ _ (by simp) k
end
end Go.Proofs.Ytlpahkmfjpjheaa
end

section
namespace Go.Proofs.Ytlpahkmfjpjheaa
open Go.RowKit
section
variable {P : Program} {r : Option Nat} {n N : Nat} {w0 : World} {L : Hp} {ops : Array Oper} {rest : List Oper} {Q : Post} {e : Env} {ds : List Deferred} {ty : TypeId} {pos : String} {af : Array Edge} {g : Option (Nat × Bool)} {d : Option Nat}
theorem run_append_svN {t E : TypeId} [hE : SliceOf P t E] {g' : Bool} {sz bt : Nat} [hS : TySz P E g' sz bt] {k c : Nat} {xs : List Value} {s : Option (Nat × Nat)} {w : World} (hI : Inv N w0 (svH E sz k xs s L) w) (hs : svOk s sz k xs) :
    (Builtin.append_ #[t, t] ty #[svV s k, .slice none 0 c]).run P w = .ok (svV s k) w := by
  have hi := hS.inf
  cases hin : P.info? E with
  | none => rw [hin] at hi; cases hi
  | some i =>
    cases s with
    | none =>
      have := hs.2 rfl
      subst this
      simp [svV, Builtin.append_, run_underlying hE.und, sizeOf, typeInfo, hin, Builtin.lenOf, Builtin.firstCells]
    | some p =>
      obtain ⟨b, cap⟩ := p
      obtain ⟨_, o, _, cur, _, h1, _⟩ := hI.own _ (List.mem_cons_self)
      simp [svV, Builtin.append_, run_underlying hE.und, sizeOf, typeInfo, hin, Builtin.lenOf, Builtin.firstCells, h1, storeCells]
/-- A slice that grows, in its place. -/
inductive Grow (E : TypeId) (sz k : Nat) (xs : List Value) (s : Option (Nat × Nat)) (k' : Nat) (xs' : List Value) (s' : Option (Nat × Nat)) : Hp → Hp → Prop
  | here {L : Hp} : Grow E sz k xs s k' xs' s' (svH E sz k xs s L) (svH E sz k' xs' s' L)
  | there {x : Nat × (Obj → Prop)} {L L' : Hp} (h : Grow E sz k xs s k' xs' s' L L') : Grow E sz k xs s k' xs' s' (x :: L) (x :: L')
  | sv {E2 : TypeId} {sz2 k2 : Nat} {xs2 : List Value} {s2 : Option (Nat × Nat)} {L L' : Hp} (h : Grow E sz k xs s k' xs' s' L L') : Grow E sz k xs s k' xs' s' (svH E2 sz2 k2 xs2 s2 L) (svH E2 sz2 k2 xs2 s2 L')
  | app {X L L' : Hp} (h : Grow E sz k xs s k' xs' s' L L') : Grow E sz k xs s k' xs' s' (X ++ L) (X ++ L')
theorem svH_app {E : TypeId} {sz k : Nat} {xs : List Value} {s : Option (Nat × Nat)} {A B : Hp} : svH E sz k xs s (A ++ B) = svH E sz k xs s A ++ B := by cases s <;> rfl
theorem svH_nil {E : TypeId} {sz k : Nat} {xs : List Value} {s : Option (Nat × Nat)} {B : Hp} : svH E sz k xs s [] ++ B = svH E sz k xs s B := by cases s <;> rfl
theorem svH_perm {E : TypeId} {sz k : Nat} {xs : List Value} {s : Option (Nat × Nat)} {A B : Hp} (h : A.Perm B) : (svH E sz k xs s A).Perm (svH E sz k xs s B) := by
  cases s with
  | none => exact h
  | some p => exact h.cons _
theorem svH_mid {E : TypeId} {sz k : Nat} {xs : List Value} {s : Option (Nat × Nat)} {X L : Hp} : (X ++ svH E sz k xs s L).Perm (svH E sz k xs s (X ++ L)) := by
  cases s with
  | none => exact .refl _
  | some p => exact List.perm_middle
theorem Grow.perm {E : TypeId} {sz k : Nat} {xs : List Value} {s : Option (Nat × Nat)} {k' : Nat} {xs' : List Value} {s' : Option (Nat × Nat)} {L L' : Hp} (h : Grow E sz k xs s k' xs' s' L L') : ∃ Lb, L.Perm (svH E sz k xs s Lb) ∧ L'.Perm (svH E sz k' xs' s' Lb) := by
  induction h with
  | @here L => exact ⟨L, .refl _, .refl _⟩
  | @there x L L' h ih =>
    obtain ⟨Lb, h1, h2⟩ := ih
    exact ⟨x :: Lb, (h1.cons x).trans (svH_mid (X := [x])), (h2.cons x).trans (svH_mid (X := [x]))⟩
  | @sv E2 sz2 k2 xs2 s2 L L' h ih =>
    obtain ⟨Lb, h1, h2⟩ := ih
    refine ⟨svH E2 sz2 k2 xs2 s2 [] ++ Lb, (svH_perm h1).trans ?_, (svH_perm h2).trans ?_⟩
    · rw [← svH_nil]; exact svH_mid
    · rw [← svH_nil]; exact svH_mid
  | @app X L L' h ih =>
    obtain ⟨Lb, h1, h2⟩ := ih
    exact ⟨X ++ Lb, (h1.append_left X).trans svH_mid, (h2.append_left X).trans svH_mid⟩
theorem svV_inj {s s2 : Option (Nat × Nat)} {k : Nat} (h : svV s k = svV s2 k) : s = s2 := by
  cases s with
  | none => cases s2 with
    | none => rfl
    | some q => obtain ⟨q1, q2⟩ := q; simp [svV] at h
  | some p => cases s2 with
    | none => obtain ⟨q1, q2⟩ := p; simp [svV] at h
    | some q => obtain ⟨p1, p2⟩ := p; obtain ⟨q1, q2⟩ := q; simp [svV] at h; simp [h.1, h.2]
/-- What is appended can be read; nil has nothing. -/
theorem OPS_appendG {t E : TypeId} [hE : SliceOf P t E] {g' : Bool} {sz bt : Nat} [hS : TySz P E g' (sz + 1) bt] {z : List Value} [hZ : TyZero P E z] (hz : z.length = sz + 1)
    {x y : Operand} {k m c : Nat} {A : Option Addr} {xs news : List Value} {s : Option (Nat × Nat)} {L' : Option (Nat × Nat) → Hp} {d : Nat} (hx : ev e x = svV s k) (hy : ev e y = .slice A m c) (hL : ∀ s', Grow E (sz + 1) k xs s (k + m) (xs ++ news) s' L (L' s'))
    (hs : svOk s (sz + 1) k xs) (hn : ∀ w, Inv N w0 L w → ∀ j u, news[j]? = some u → ∃ b2 o2, A = some ⟨b2, o2, none⟩ ∧ w.cell? ⟨b2, o2 + j, none⟩ = some u) (hA : A = none → m = 0) (hl : news.length = m * (sz + 1)) (h1 : ones news = true) (h63 : k + m ≤ maxLen) (hby : (k + m) * bt ≤ 140737488355328)
    (h : ∀ s', svOk s' (sz + 1) (k + m) (xs ++ news) → OPS P r n N w0 ops rest Q (upd e d (svV s' (k + m))) ds (L' s'))
    (hg : Region.wanted ⟨some d, .call { callee := .builtin .append, args := #[x, y], argTypes := #[t, t] }, ty, pos, af, g⟩ (yieldE ops e) = true := by rfl) (hd : Nat.blt d n = true := by rfl) :
    OPS P r n N w0 ops (⟨some d, .call { callee := .builtin .append, args := #[x, y], argTypes := #[t, t] }, ty, pos, af, g⟩ :: rest) Q e ds L := by
  refine OPS_any (K := fun v L2 => ∃ s', v = svV s' (k + m) ∧ L2 = L' s' ∧ svOk s' (sz + 1) (k + m) (xs ++ news)) (fun w hI => ?_) hg rfl hd ?_
  · obtain ⟨Lb0, hp0, _⟩ := (hL s).perm
    have hI0 := hI.perm hp0
    cases A with
    | none =>
      have hm := hA rfl
      subst hm
      have hnw : news = [] := List.eq_nil_of_length_eq_zero (by rw [hl]; omega)
      subst hnw
      have hr := run_append_svN (P := P) (ty := ty) (t := t) (E := E) (c := c) hI0 hs
      obtain ⟨Lb, hp1, hp2⟩ := (hL s).perm
      refine ⟨_, w, _, by simp [execOp, resolve, invoke, builtin, hx, hy, hr], ?_, s, rfl, rfl, by simpa using hs⟩
      refine Inv.perm ?_ hp2.symm
      simp only [Nat.add_zero, List.append_nil]
      exact hI.perm hp1
    | some a =>
      have key := fun Lb (hI' : Inv N w0 (svH E (sz + 1) k xs s Lb) w) => run_append_sv (P := P) (ty := ty) (t := t) (E := E) (a := a) (m := m) (c := c) hz hI' hs hl (fun j u hj => by
        obtain ⟨b2, o2, ha, hc⟩ := hn w hI j u hj
        simp only [Option.some.injEq] at ha
        subst ha
        rw [addr_add]; exact hc) h1 h63 hby
      obtain ⟨s', w', hr, hI', hs'⟩ := key Lb0 hI0
      obtain ⟨Lb, hp1, hp2⟩ := (hL s').perm
      obtain ⟨s2, w2, hr2, hI2, hs2⟩ := key Lb (hI.perm hp1)
      have he : s2 = s' ∧ w2 = w' := by
        rw [hr] at hr2
        simp only [Result.ok.injEq] at hr2
        obtain ⟨h3, h4⟩ := hr2
        exact ⟨(svV_inj (by simpa using h3)).symm, h4.symm⟩
      obtain ⟨rfl, rfl⟩ := he
      exact ⟨_, w2, _, by simp [execOp, resolve, invoke, builtin, hx, hy, hr], hI2.perm hp2.symm, s2, rfl, rfl, hs'⟩
  · rintro v L2 ⟨s', rfl, rfl, hs'⟩
    exact h s' hs'
/-- To a slice without elements. -/
theorem OPS_append0 {t E : TypeId} [hE : SliceOf P t E] {g' : Bool} {sz bt : Nat} [hS : TySz P E g' (sz + 1) bt] {z : List Value} [hZ : TyZero P E z] (hz : z.length = sz + 1)
    {x y : Operand} {m c : Nat} {A : Option Addr} {news : List Value} {s : Option (Nat × Nat)} {L' : Option (Nat × Nat) → Hp} {d : Nat} (hx : ev e x = svV s 0) (hy : ev e y = .slice A m c) (hL : ∀ s', Grow E (sz + 1) 0 [] s m news s' L (L' s'))
    (hs : svOk s (sz + 1) 0 []) (hn : ∀ w, Inv N w0 L w → ∀ j u, news[j]? = some u → ∃ b2 o2, A = some ⟨b2, o2, none⟩ ∧ w.cell? ⟨b2, o2 + j, none⟩ = some u) (hA : A = none → m = 0) (hl : news.length = m * (sz + 1)) (h1 : ones news = true) (h63 : m ≤ maxLen) (hby : m * bt ≤ 140737488355328)
    (h : ∀ s', svOk s' (sz + 1) m news → OPS P r n N w0 ops rest Q (upd e d (svV s' m)) ds (L' s'))
    (hg : Region.wanted ⟨some d, .call { callee := .builtin .append, args := #[x, y], argTypes := #[t, t] }, ty, pos, af, g⟩ (yieldE ops e) = true := by rfl) (hd : Nat.blt d n = true := by rfl) :
    OPS P r n N w0 ops (⟨some d, .call { callee := .builtin .append, args := #[x, y], argTypes := #[t, t] }, ty, pos, af, g⟩ :: rest) Q e ds L := by
  have e1 : 0 + m = m := Nat.zero_add m
  refine OPS_appendG (L' := L') (k := 0) (xs := []) hz hx hy (fun s' => ?_) hs hn hA hl h1 (by omega) (by rw [e1]; exact hby) (fun s' hs' => ?_) hg hd
  · rw [e1]; exact hL s'
  · rw [e1] at hs' ⊢; exact h s' hs'
theorem blk_src {b T : Nat} {l : List Value} (hm : Mem b (Blk T l) L) : ∀ w, Inv N w0 L w → ∀ j u, l[j]? = some u → ∃ b2 o2, some (⟨b, 0, none⟩ : Addr) = some ⟨b2, o2, none⟩ ∧ w.cell? ⟨b2, o2 + j, none⟩ = some u := fun w hI j u hj => ⟨b, 0, rfl, blk_cells hm w hI j u hj⟩
/-- append of elements that were just laid. -/
theorem Zag {t E : TypeId} [hE : SliceOf P t E] {g' : Bool} {sz bt : Nat} [hS : TySz P E g' (sz + 1) bt] {z : List Value} [hZ : TyZero P E z] {x y : Operand} {k m c b T : Nat} {xs news : List Value} {s : Option (Nat × Nat)} {L' : Option (Nat × Nat) → Hp} {d : Nat}
    (h : ∀ s', svOk s' (sz + 1) (k + m) (xs ++ news) → OPS P r n N w0 ops rest Q (upd e d (svV s' (k + m))) ds (L' s')) (hz : z.length = sz + 1 := by rfl) (hx : ev e x = svV s k := by rfl) (hy : ev e y = .slice (some ⟨b, 0, none⟩) m c := by rfl)
    (hm : Mem b (Blk T news) L := by repeat (first | exact Mem.here | assumption | apply Mem.there | apply Mem.sv | apply Mem.app)) (hs : svOk s (sz + 1) k xs := by assumption) (hL : ∀ s', Grow E (sz + 1) k xs s (k + m) (xs ++ news) s' L (L' s') := by intro s'; repeat (first | exact Grow.here | apply Grow.there | apply Grow.sv | apply Grow.app))
    (hl : news.length = m * (sz + 1) := by rfl) (h1 : ones news = true := by rfl) (h63 : k + m ≤ maxLen := by simp only [maxLen]; omega) (hby : (k + m) * bt ≤ 140737488355328 := by omega)
    (hg : Region.wanted ⟨some d, .call { callee := .builtin .append, args := #[x, y], argTypes := #[t, t] }, ty, pos, af, g⟩ (yieldE ops e) = true := by rfl) (hd : Nat.blt d n = true := by rfl) :
    OPS P r n N w0 ops (⟨some d, .call { callee := .builtin .append, args := #[x, y], argTypes := #[t, t] }, ty, pos, af, g⟩ :: rest) Q e ds L :=
  OPS_appendG hz hx hy hL hs (blk_src hm) (fun h => by cases h) hl h1 h63 hby h hg hd
theorem OPS_perm {l : List Oper} {L2 : Hp} (k : L.Perm L2) (h : OPS P r n N w0 ops l Q e ds L2) : OPS P r n N w0 ops l Q e ds L := fun a w hs he hd hI => h a w hs he hd (hI.perm k)
/-- A new row without elements, to append to. -/
theorem Row_nil {E : TypeId} {sz : Nat} : ∀ o, Blk E [] o → Row E sz 0 0 [] o := by
  intro o ho
  unfold Blk Is at ho
  subst ho
  exact ⟨#[], rfl, Nat.le_refl _, by unfold maxLen; omega, by simp, by simp⟩
theorem Wk.appK (X : Hp) {L L' : Hp} (h : Wk L L') : Wk (X ++ L) (X ++ L') := by
  induction X with
  | nil => exact h
  | cons x X ih => exact .keep1 ih

/-! ## What can be read -/
/-- A cell that reads so as long as X is owned, whatever else is. -/
def RdX (X : Hp) (b o : Nat) (v : Value) : Prop := ∀ (N : Nat) (w0 w : World), Inv N w0 X w → w.cell? ⟨b, o, none⟩ = some v
/-- A cell that reads so here. -/
def Rd (N : Nat) (w0 : World) (L : Hp) (b o : Nat) (v : Value) : Prop := ∀ w, Inv N w0 L w → w.cell? ⟨b, o, none⟩ = some v
theorem RdX.wk {X L : Hp} {b o : Nat} {v : Value} (h : RdX X b o v) (k : Wk L X) : RdX L b o v := fun N w0 w hI => h N w0 w (hI.wk k)
theorem RdX.sub {X L : Hp} {b o : Nat} {v : Value} (h : RdX X b o v) (k : Sub X L) : RdX L b o v := fun N w0 w hI => by
  obtain ⟨L0, k⟩ := k
  refine h N w0 w ((hI.perm (k.trans List.perm_append_comm)).wk (.app L0 X))
theorem RdX.rd {X : Hp} {b o : Nat} {v : Value} (h : RdX X b o v) : Rd N w0 X b o v := fun w hI => h N w0 w hI
theorem Rd.wk {X : Hp} {b o : Nat} {v : Value} (h : Rd N w0 X b o v) (k : Wk L X) : Rd N w0 L b o v := fun w hI => h w (hI.wk k)
theorem Rd.ro {b o : Nat} {v : Value} (hb : b < N) (hv : w0.cell? ⟨b, o, none⟩ = some v) : Rd N w0 L b o v := fun _ hI => hI.cellRo hb hv
theorem Val_loadD1 {t : TypeId} {n bt : Nat} [TySz P t false n bt] {x : Operand} {b o : Nat} {v : Value} (hx : ev e x = .pointer (some ⟨b, o, none⟩)) (hv : Rd N w0 L b o v) : Val P N w0 L e ⟨d, .load t x, ty, pos, af, g⟩ v := by
  intro w hI
  simp [execOp, hx, Instr.loadAt, Instr.sureAddr, run_loadVar1 (hv w hI)]
theorem Val_loadDN {t : TypeId} {n bt : Nat} [TySz P t true n bt] {x : Operand} {b o : Nat} {vs : List Value} (hx : ev e x = .pointer (some ⟨b, o, none⟩)) (hv : ∀ j v, vs[j]? = some v → Rd N w0 L b (o + j) v) (hl : vs.length = n) : Val P N w0 L e ⟨d, .load t x, ty, pos, af, g⟩ (.agg vs.toArray) := by
  intro w hI
  simp [execOp, hx, Instr.loadAt, Instr.sureAddr, run_loadVarN hl (fun j hj => by
    have hj' : j < vs.length := by omega
    rw [addr_add, List.getElem?_eq_getElem hj']; exact hv j _ (List.getElem?_eq_getElem hj') w hI)]
end
end Go.Proofs.Ytlpahkmfjpjheaa
end

section
namespace Go.Proofs.Ytlpahkmfjpjheaa
open Go.RowKit
section
variable {P : Program} {r : Option Nat} {n N : Nat} {w0 : World} {L B : Hp} {e : Env} {ds : List Deferred} {Q : Post} {d : Option Nat} {ty : TypeId} {pos : String} {af : Array Edge} {g : Option (Nat × Bool)}
theorem SlAt.now {A : Option Addr} {sz : Nat} {rows : List (List Value)} (h : SlAt N w0 A sz rows) {w : World} (hI : Inv N w0 L w) : SlAt w.heap.size w A sz rows := by
  intro k hk
  obtain ⟨b, o, h1, h2, h3⟩ := h k hk
  exact ⟨b, o, h1, Nat.lt_of_lt_of_le h2 hI.big, fun j v hj => hI.cellRo h2 (h3 j v hj)⟩
/-- The rows of a slice that grew. -/
theorem sl_sv {E : TypeId} {sz k : Nat} {xs : List Value} {s : Option (Nat × Nat)} (hz : 0 < sz) (hs : svOk s sz k xs) : ∃ A c, svV s k = .slice A k c ∧ ∀ {N : Nat} {w0 : World} {L : Hp} {w : World} {rows : List (List Value)}, Inv N w0 (svH E sz k xs s L) w → xs = rows.flatten → (∀ r ∈ rows, r.length = sz) → SlAt w.heap.size w A sz rows := by
  obtain ⟨A, c, h1, h2⟩ := sv_slice (E := E) hs
  refine ⟨A, c, h1, fun {N w0 L w rows} hI hx hr i hi => ?_⟩
  have hj : ∀ j v, rows[i][j]? = some v → xs[i * sz + j]? = some v := by
    intro j v hj
    have hj2 : j < sz := by
      have := (List.getElem?_eq_some_iff.1 hj).1
      rw [hr _ (List.getElem_mem hi)] at this
      exact this
    rw [hx, flat_get rows i j hi hr hj2]
    exact hj
  obtain ⟨v0, hv0⟩ : ∃ v, rows[i][0]? = some v := ⟨_, List.getElem?_eq_getElem (by rw [hr _ (List.getElem_mem hi)]; omega)⟩
  obtain ⟨b, hA, hb, _⟩ := h2 hI _ _ (hj 0 v0 hv0)
  refine ⟨b, 0, hA, hb, fun j v hjv => ?_⟩
  obtain ⟨b', hA', _, hc⟩ := h2 hI _ _ (hj j v hjv)
  rw [hA] at hA'
  simp only [Option.some.injEq, Addr.mk.injEq, and_true] at hA'
  rw [Nat.zero_add, hA']; exact hc
theorem Inv.on2 {w w' : World} {X : Hp} (h : Inv N w0 L w) (h' : Inv w.heap.size w X w') : Inv N w0 (X ++ L) w' := by
  have h1 := h.on h'
  refine ⟨h1.below, h1.big, ?_, ?_⟩
  · rw [List.pairwise_append]
    refine ⟨h'.dis, h.dis, fun x hx y hy => ?_⟩
    have := (h'.own x hx).1
    have := h.lt hy
    omega
  · intro x hx
    rcases List.mem_append.1 hx with hx | hx
    · obtain ⟨h2, h3⟩ := h'.own x hx
      exact ⟨Nat.le_trans h.big h2, h3⟩
    · exact h1.own x hx
/-- A call that is known from what lies there now, with what it lays anew. -/
theorem Tri.re2 {f : FuncId} {args : Array Value} {K : Value → Hp → Prop} (h : ∀ w, Inv N w0 L w → Tri P w.heap.size w [] f args fun x L' => ∃ v, x = .returned v ∧ ∃ X, L' = X ++ [] ∧ K v X) : Tri P N w0 L f args fun x L' => ∃ v, x = .returned v ∧ ∃ X, L' = X ++ L ∧ K v X := by
  intro w hI
  refine (h w hI w hI.at_).mono ?_
  rintro x w' ⟨L', hI', v, rfl, X, rfl, hK⟩
  rw [List.append_nil] at hI'
  exact ⟨X ++ L, hI.on2 hI', v, rfl, X, rfl, hK⟩
/-- Ways meet: what is owned besides is as it was. -/
theorem WP_joinL {σ : Type} {c y : Code} {K : Post} (hK : HThen P r n N w0 y Q K) (ws : List Nat) (sl : σ → List (Nat × Value)) (X : σ → Hp) (J : σ → Prop)
    (h1 : ∀ K', HCut ws e sl (fun s => X s ++ L) J ds K K' → WP P r n N w0 c K' e ds L) (h2 : ∀ s j, J s → WP P r n N w0 y Q (frame ws e (sl s) j) ds (X s ++ L)) : WP P r n N w0 c K e ds L := WP_join hK ws sl _ J h1 h2
/-- Ways meet at the end of what stands inside. -/
theorem WP_joinQ {σ : Type} {c : Code} (ws : List Nat) (sl : σ → List (Nat × Value)) (Lp : σ → Hp) (J : σ → Prop)
    (h1 : ∀ K', HCut ws e sl Lp J ds Q K' → WP P r n N w0 c K' e ds L) (h2 : ∀ s j L', J s → Wk L' (Lp s) → Q .normal (frame ws e (sl s) j) ds L') : WP P r n N w0 c Q e ds L := by
  refine WP_mono (h1 (fun x e' ds' L' => match x with
    | .normal => ds' = ds ∧ ∃ s, Slots e' (sl s) ∧ Off ws e' e ∧ Wk L' (Lp s) ∧ J s
    | x => Q x e' ds' L') ⟨fun s e' L' a b c d => ⟨rfl, s, a, b, c, d⟩, fun x _ _ _ hx h => by cases x <;> first | exact absurd rfl hx | exact h⟩) ?_
  intro x e' ds' L' h
  cases x with
  | normal =>
    obtain ⟨rfl, s, a, b, c, d⟩ := h
    have hf : e' = frame ws e (sl s) e' := frame_intro a.look b
    rw [hf]
    exact h2 s e' L' d c
  | _ => exact h
/-- One block, wherever it stands. -/
inductive PickH (x : Nat × (Obj → Prop)) : Hp → Hp → Prop
  | here {L : Hp} : PickH x (x :: L) L
  | there {y : Nat × (Obj → Prop)} {L L' : Hp} (h : PickH x L L') : PickH x (y :: L) (y :: L')
  | sv {E sz k : Nat} {xs : List Value} {s : Option (Nat × Nat)} {L L' : Hp} (h : PickH x L L') : PickH x (svH E sz k xs s L) (svH E sz k xs s L')
  | app {X L L' : Hp} (h : PickH x L L') : PickH x (X ++ L) (X ++ L')
theorem PickH.perm {x : Nat × (Obj → Prop)} {L L' : Hp} (h : PickH x L L') : L.Perm (x :: L') := by
  induction h with
  | here => exact .refl _
  | @there y L L' h ih => exact (ih.cons y).trans (.swap _ _ _)
  | @sv E sz k xs s L L' h ih =>
    refine (svH_perm ih).trans ?_
    cases s with
    | none => exact .refl _
    | some p => exact .swap _ _ _
  | @app X L L' h ih => exact (ih.append_left X).trans List.perm_middle
theorem Sub.pickH {x : Nat × (Obj → Prop)} {L' : Hp} (h : PickH x L L') (k : Sub B L') : Sub (x :: B) L := let ⟨L0, k⟩ := k; ⟨L0, h.perm.trans (k.cons x)⟩
theorem Sub.nil : Sub [] L := ⟨L, .refl _⟩
theorem Sub.svK {E sz k : Nat} {xs : List Value} {s : Option (Nat × Nat)} (h : Sub B L) : Sub (svH E sz k xs s B) (svH E sz k xs s L) := by
  obtain ⟨L0, h⟩ := h
  refine ⟨L0, (svH_perm h).trans ?_⟩
  rw [svH_app]
theorem WP_sub {c : Code} (hS : Sub B L) (h : WP P r n N w0 c Q e ds B) : WP P r n N w0 c Q e ds L := by
  obtain ⟨L0, hp⟩ := hS
  exact fun a w hs he hd hI => h a w hs he hd ((hI.perm (hp.trans List.perm_append_comm)).wk (.app L0 B))
/-- Ways meet, what is owned in any order. -/
structure HCutS {σ : Type} (ws : List Nat) (base : Env) (sl : σ → List (Nat × Value)) (Lp : σ → Hp) (J : σ → Prop) (ds : List Deferred) (K K' : Post) : Prop where
  nor : ∀ (s : σ) (e : Env) (L : Hp), Slots e (sl s) → Off ws e base → Sub (Lp s) L → J s → K' .normal e ds L
  oth : ∀ x e ds L, x ≠ .normal → K x e ds L → K' x e ds L
theorem WP_joinS {σ : Type} {c y : Code} {K : Post} (hK : HThen P r n N w0 y Q K) (ws : List Nat) (sl : σ → List (Nat × Value)) (Lp : σ → Hp) (J : σ → Prop)
    (h1 : ∀ K', HCutS ws e sl Lp J ds K K' → WP P r n N w0 c K' e ds L) (h2 : ∀ s j, J s → WP P r n N w0 y Q (frame ws e (sl s) j) ds (Lp s)) : WP P r n N w0 c K e ds L := by
  refine WP_mono (h1 (fun x e' ds' L' => match x with
    | .normal => ds' = ds ∧ ∃ s, Slots e' (sl s) ∧ Off ws e' e ∧ Sub (Lp s) L' ∧ J s
    | x => K x e' ds' L') ⟨fun s e' L' a b c d => ⟨rfl, s, a, b, c, d⟩, fun x _ _ _ hx h => by cases x <;> first | exact absurd rfl hx | exact h⟩) ?_
  intro x e' ds' L' h
  cases x with
  | normal =>
    obtain ⟨rfl, s, a, b, c, d⟩ := h
    have hf : e' = frame ws e (sl s) e' := frame_intro a.look b
    rw [hf]
    exact hK.normal (WP_sub c (h2 s e' d))
  | _ => exact h
/-- A region whose order is left open: what comes ahead of what writes reads B. -/
theorem WP_drawnS {id : Nat} {l : List Oper} (T E A fl : List Nat) {k k2 : Nat} (hS : Sub B L) (hfl : (T.all fun i => match l[i]? with | some o => (match o.dst with | some t => fl.contains t | none => true) | none => true) = true) (hm : P.follows .mixedOrders = true) (hc : drawChk l.toArray T E A = true) (hf : floatChk n l.toArray T E A = true) (hk : l.length = E.length + A.length + (k + k2))
    (h : EWalk P n N w0 l.toArray [] B E e fun ef => AWalk P n l.toArray A ef ef fun e' A' => AnyC P r n N w0 l.toArray Q ds fl B T k2 k (doneOf l.length (E ++ A)) e' (A' ++ L)) : WP P r n N w0 (.region id l.toArray true) Q e ds L := by
  obtain ⟨L0, hp⟩ := hS
  refine WP_drawnC L0 B T E A fl (hp.trans List.perm_append_comm) hfl hm hc hf hk ?_
  obtain ⟨ef, h1, S, h2, h3, h4⟩ := h
  refine ⟨ef, h1, S, h2, h3, h4.mono fun e' A' h5 => h5.perm ?_⟩
  exact List.Perm.append_left A' (hp.trans List.perm_append_comm).symm
/-! ## A row that grew is written -/
theorem setL_take : ∀ (vs l : List Value) (o m : Nat), o + vs.length ≤ m → (setL l o vs).take m = setL (l.take m) o vs
  | [], _, _, _, _ => rfl
  | v :: vs, l, o, m, h => by
    simp only [List.length_cons] at h
    simp only [setL]
    rw [setL_take vs _ (o + 1) m (by omega), List.take_set]
theorem Row.len {E : TypeId} {sz k cap : Nat} {xs : List Value} {o : Obj} (h : Row E sz k cap xs o) : xs.length = k * sz := by
  obtain ⟨cur, _, h1, _, h2, h3⟩ := h
  rw [← h3, List.length_take, Array.length_toList, h2]
  exact Nat.min_eq_left (Nat.mul_le_mul_right sz h1)
theorem Turn_storeRow {t : TypeId} {g' : Bool} {n bt : Nat} [TySz P t g' n bt] {x y : Operand} {b o : Nat} {E : TypeId} {sz k cap : Nat} {v : Value} {xs vs xs' : List Value} {L' : Hp} (hx : ev e x = .pointer (some ⟨b, o, none⟩)) (hy : ev e y = v) (hu : Up L b (Row E sz k cap xs) (Row E sz k cap xs') L')
    (hv : v.cells = vs.toArray) (hl : o + vs.length ≤ k * sz) (hp : setL xs o vs = xs') (hn : vs.length = n) (h1 : ones vs = true) :
    Turn P N w0 L e ⟨d, .store t x y, ty, pos, af, g⟩ L' := by
  intro w hI
  obtain ⟨ob, hob, cur, rfl, hc1, hc2, hc3, hc4⟩ := hI.obj' hu.mem
  have hb : w.heap[b]? = some (.cells cur.toList.toArray E (0, 0)) := by simpa using hob
  have hle : k * sz ≤ cur.toList.length := by rw [Array.length_toList, hc3]; exact Nat.mul_le_mul_right sz hc1
  obtain ⟨w', hr, h2, h3, h4, h5, h6, h7⟩ := run_storeVar (P := P) (w := w) (t := t) (T := E) (l := cur.toList) hv hn h1 (Nat.le_trans hl hle) hb
  refine ⟨w', by simp [execOp, hx, hy, Instr.storeAt, Instr.sureAddr, hr], hI.turn hu h3 h4 h5 (by omega) (fun k _ hk => h7 k hk) ⟨_, h2, _, rfl, hc1, hc2, ?_, ?_⟩⟩
  · rw [List.size_toArray, setL_length, Array.length_toList, hc3]
  · show (setL cur.toList o vs).take (k * sz) = xs'
    rw [setL_take _ _ _ _ hl, hc4, hp]
/-- The rows of a row that grew. -/
theorem sl_row {E sz k cap b : Nat} {xs : List Value} {rows : List (List Value)} {w : World} (hI : Inv N w0 L w) (hm : Mem b (Row E sz k cap xs) L) (hx : xs = rows.flatten) (hr : ∀ r ∈ rows, r.length = sz) : SlAt w.heap.size w (some ⟨b, 0, none⟩) sz rows := by
  obtain ⟨ob, hob, cur, rfl, hc1, hc2, hc3, hc4⟩ := hI.obj' hm
  intro i hi
  refine ⟨b, 0, rfl, (Array.getElem?_eq_some_iff.1 hob).1, fun j v hj => ?_⟩
  have hj2 : j < sz := by
    have := (List.getElem?_eq_some_iff.1 hj).1
    rw [hr _ (List.getElem_mem hi)] at this
    exact this
  have hg := flat_get rows i j hi hr hj2
  rw [← hx, hj] at hg
  rw [Nat.zero_add, cell_of_row w b _ cur E (0, 0) hob]
  have h5 : (cur.toList.take (k * sz))[i * sz + j]? = some v := by rw [hc4]; exact hg
  rw [List.getElem?_take] at h5
  split at h5
  · simpa using h5
  · cases h5
/-- One of the rows is another. -/
theorem setL_row {sz : Nat} : ∀ (rows : List (List Value)) (i : Nat) (r : List Value), (∀ q ∈ rows, q.length = sz) → r.length = sz → i < rows.length → setL rows.flatten (i * sz) r = (rows.set i r).flatten
  | [], _, _, _, _, hi => by simp at hi
  | q :: rows, 0, r, hq, hr, _ => by
    have h1 := hq q (.head _)
    rw [List.set_cons_zero, List.flatten_cons, List.flatten_cons, Nat.zero_mul]
    have key : ∀ (r q l : List Value), r.length = q.length → setL (q ++ l) 0 r = r ++ l := by
      intro r
      induction r with
      | nil => intro q l h; rw [List.eq_nil_of_length_eq_zero (Eq.symm (by simpa using h)) (l := q)]; rfl
      | cons x r ih =>
        intro q l h
        cases q with
        | nil => simp at h
        | cons y q =>
          simp only [List.cons_append, setL, List.set_cons_zero]
          rw [setL_cons, ih q l (by simpa using h)]
    exact key r q _ (by omega)
  | q :: rows, i + 1, r, hq, hr, hi => by
    have h1 := hq q (.head _)
    have ih := setL_row rows i r (fun x hx => hq x (.tail _ hx)) hr (by simpa using hi)
    rw [List.set_cons_succ, List.flatten_cons, List.flatten_cons, ← ih]
    have key : ∀ (q l : List Value) (o : Nat), setL (q ++ l) (o + q.length) r = q ++ setL l o r := by
      intro q
      induction q with
      | nil => intro l o; rfl
      | cons y q ih => intro l o; rw [List.cons_append, List.length_cons, ← Nat.add_assoc, setL_cons, ih]; rfl
    have := key q rows.flatten (i * sz)
    rw [h1] at this
    rw [Nat.succ_mul]
    exact this
/-- '[]T{}': a row without elements, to append to. -/
theorem New_buildSlice0 {t E : TypeId} [hs : SliceOf P t E] {g' : Bool} {sz bt : Nat} [TySz P E g' sz bt] : New P e ⟨d, .buildSlice t 0 #[], ty, pos, af, g⟩ (.cells #[] E (0, 0)) (fun b => svV (some (b, 0)) 0) := by
  intro w
  simp only [execOp, Instr.buildSlice, Sem.run_bind, run_underlying hs.und, Result.andThen_ok, run_sizeOf (P := P) (t := E)]
  have h0 : Array.range 0 = (#[] : Array Nat) := by apply Array.ext'; simp
  simp [newRow, newObj, Sem.run, Instr.fill, svV, h0]
theorem row0 {E : TypeId} {sz : Nat} : Row E sz 0 0 [] (.cells #[] E (0, 0)) := ⟨#[], rfl, Nat.le_refl _, by unfold maxLen; omega, by simp, by simp⟩
theorem svOk0 {b sz : Nat} : svOk (some (b, 0)) sz 0 [] := ⟨by simp, fun h => by cases h⟩
theorem Zbs {ops : Array Oper} {rest : List Oper} {t E : TypeId} [hs : SliceOf P t E] {g' : Bool} {sz bt : Nat} [TySz P E g' sz bt] {d : Nat} (h : ∀ b, OPS P r n N w0 ops rest Q (upd e d (svV (some (b, 0)) 0)) ds (svH E sz 0 [] (some (b, 0)) L))
    (hg : Region.wanted ⟨some d, .buildSlice t 0 #[], ty, pos, af, g⟩ (yieldE ops e) = true := by rfl) (hd : Nat.blt d n = true := by rfl) : OPS P r n N w0 ops (⟨some d, .buildSlice t 0 #[], ty, pos, af, g⟩ :: rest) Q e ds L :=
  OPS_newS (row0 (E := E) (sz := sz)) (New_buildSlice0 (sz := sz) (bt := bt) (g' := g')) hg rfl hd h
theorem inKw {a b : Int} (ha : -1000000 ≤ a ∧ a ≤ 1000000) (hb : -1000000 ≤ b ∧ b ≤ 1000000) : inKs [.i64, .i64] [a, b] := by
  refine ⟨rfl, ?_⟩
  intro p hp
  simp only [List.zip_cons_cons, List.zip_nil_right, List.mem_cons, List.not_mem_nil, or_false] at hp
  rcases hp with rfl | rfl <;> (simp [Lit.wf, IntKind.min, IntKind.max, IntKind.bits, IntKind.signed]; omega)
section
variable {x y : Operand} {t t' : TypeId} {ks : List IntKind} [hk : KeyTy P t ks] {a b : List Int}
theorem Val_neqIF (hx : ev e x = intsV ks a) (hy : ev e y = intsV ks b) (h : a = b) (ha : inKs ks a) (hb : inKs ks b) : Val P N w0 L e ⟨d, .binOp .neq t x y t', ty, pos, af, g⟩ (.bool false) := by
  have := Val_neqI (P := P) (N := N) (w0 := w0) (L := L) (d := d) (t := t) (t' := t') (ty := ty) (pos := pos) (af := af) (g := g) hx hy rfl rfl ha hb
  rwa [decide_eq_true h] at this
theorem Val_neqIT (hx : ev e x = intsV ks a) (hy : ev e y = intsV ks b) (h : a ≠ b) (ha : inKs ks a) (hb : inKs ks b) : Val P N w0 L e ⟨d, .binOp .neq t x y t', ty, pos, af, g⟩ (.bool true) := by
  have := Val_neqI (P := P) (N := N) (w0 := w0) (L := L) (d := d) (t := t) (t' := t') (ty := ty) (pos := pos) (af := af) (g := g) hx hy rfl rfl ha hb
  rwa [decide_eq_false h] at this
end
/-- Spans that are the same. -/
theorem Val_neqS {x y : Operand} {t t' : TypeId} [hk : KeyTy P t [.i64, .i64]] {a b a' b' : Int} (hx : ev e x = .agg [.int .i64 a, .int .i64 b].toArray) (hy : ev e y = .agg [.int .i64 a', .int .i64 b'].toArray) (h1 : a = a') (h2 : b = b') (ha : -1000000 ≤ a ∧ a ≤ 1000000) (hb : -1000000 ≤ b ∧ b ≤ 1000000) : Val P N w0 L e ⟨d, .binOp .neq t x y t', ty, pos, af, g⟩ (.bool false) := by
  subst h1 h2
  exact Val_neqIF (ks := [.i64, .i64]) (a := [a, b]) (b := [a, b]) hx hy rfl (inKw ha hb) (inKw ha hb)
theorem Val_neqU {x y : Operand} {t t' : TypeId} [hk : KeyTy P t [.i64, .i64]] {a b a' b' : Int} (hx : ev e x = .agg [.int .i64 a, .int .i64 b].toArray) (hy : ev e y = .agg [.int .i64 a', .int .i64 b'].toArray) (h1 : a ≠ a' ∨ b ≠ b') (ha : -1000000 ≤ a ∧ a ≤ 1000000) (hb : -1000000 ≤ b ∧ b ≤ 1000000) (ha' : -1000000 ≤ a' ∧ a' ≤ 1000000) (hb' : -1000000 ≤ b' ∧ b' ≤ 1000000) : Val P N w0 L e ⟨d, .binOp .neq t x y t', ty, pos, af, g⟩ (.bool true) :=
  Val_neqIT (ks := [.i64, .i64]) (a := [a, b]) (b := [a', b']) hx hy (by intro h; simp only [List.cons.injEq, and_true] at h; omega) (inKw ha hb) (inKw ha' hb')
theorem Val_remE2 {x y : Operand} {t t' : TypeId} {a b c : Nat} (hc : a % b = c) (hb : 0 < b) (hx : ev e x = .int .i64 (a : Int)) (hy : ev e y = .int .i64 (b : Int)) : Val P N w0 L e ⟨d, .binOp .rem t x y t', ty, pos, af, g⟩ (.int .i64 (c : Int)) := by
  have := Val_rem (P := P) (N := N) (w0 := w0) (L := L) (d := d) (ty := ty) (pos := pos) (af := af) (g := g) (t := t) (t' := t') hx hy (by omega)
  have e : ((a : Int).tmod b) = (c : Int) := by rw [Int.tmod_eq_emod_of_nonneg (by omega), ← hc]; omega
  rwa [e] at this
theorem Val_quoE {x y : Operand} {t t' : TypeId} {a b c : Nat} (hc : a / b = c) (hb : 0 < b) (ha : a ≤ 1000000) (hx : ev e x = .int .i64 (a : Int)) (hy : ev e y = .int .i64 (b : Int)) : Val P N w0 L e ⟨d, .binOp .quo t x y t', ty, pos, af, g⟩ (.int .i64 (c : Int)) := by
  have h1 : ((a : Int).tdiv b) = (c : Int) := by rw [Int.tdiv_eq_ediv_of_nonneg (by omega), ← hc]; omega
  have h2 : c ≤ a := by rw [← hc]; exact Nat.div_le_self a b
  have := Val_quo (P := P) (N := N) (w0 := w0) (L := L) (d := d) (ty := ty) (pos := pos) (af := af) (g := g) (t := t) (t' := t') hx hy (by omega) (by rw [h1]; exact InK_i64 (by omega) (by omega))
  rwa [h1] at this
end
end Go.Proofs.Ytlpahkmfjpjheaa
end

section
namespace Go.Proofs.Ytlpahkmfjpjheaa
open Go.RowKit
theorem flat_at {sz : Nat} (hs : 0 < sz) {rows : List (List Value)} (hr : ∀ r ∈ rows, r.length = sz) {j : Nat} {u : Value} (h : rows.flatten[j]? = some u) : ∃ hk : j / sz < rows.length, rows[j / sz][j % sz]? = some u := by
  have hl : ∀ l : List (List Value), (∀ r ∈ l, r.length = sz) → l.flatten.length = l.length * sz := by
    intro l
    induction l with
    | nil => intro _; simp
    | cons r l ih => intro h; rw [List.flatten_cons, List.length_append, ih (fun x hx => h x (.tail _ hx)), h r (.head _), List.length_cons, Nat.succ_mul, Nat.add_comm]
  have hj := (List.getElem?_eq_some_iff.1 h).1
  rw [hl rows hr] at hj
  have hk : j / sz < rows.length := Nat.div_lt_of_lt_mul (by rw [Nat.mul_comm]; exact hj)
  refine ⟨hk, ?_⟩
  have e : j = j / sz * sz + j % sz := by rw [Nat.mul_comm]; exact (Nat.div_add_mod j sz).symm
  rw [e, flat_get rows (j / sz) (j % sz) hk hr (Nat.mod_lt _ hs)] at h
  exact h
theorem SlAt.flat {M : Nat} {w : World} {A : Option Addr} {sz : Nat} {rows : List (List Value)} (hs : 0 < sz) (h : SlAt M w A sz rows) (hr : ∀ r ∈ rows, r.length = sz) : ∀ j u, rows.flatten[j]? = some u → ∃ b o, A = some ⟨b, o, none⟩ ∧ w.cell? ⟨b, o + j, none⟩ = some u := by
  intro j u hj
  obtain ⟨hk, hu⟩ := flat_at hs hr hj
  obtain ⟨b, o, h1, _, h3⟩ := h _ hk
  refine ⟨b, o, h1, ?_⟩
  have := h3 (j % sz) u hu
  rwa [Nat.add_assoc, show j / sz * sz + j % sz = j by rw [Nat.mul_comm]; exact Nat.div_add_mod j sz] at this
theorem ones_flat : ∀ {rows : List (List Value)}, (∀ r ∈ rows, ones r = true) → ones rows.flatten = true
  | [], _ => rfl
  | r :: rows, h => by
    have h1 := h r (.head _)
    have h2 := ones_flat fun x hx => h x (.tail _ hx)
    unfold ones at h1 h2 ⊢
    rw [List.flatten_cons, List.all_append, h1, h2]; rfl
theorem map_len {α : Type} {f : α → List Value} {sz : Nat} (hf : ∀ x, (f x).length = sz) (l : List α) : ∀ r ∈ l.map f, r.length = sz := by
  intro r hr
  obtain ⟨x, _, rfl⟩ := List.mem_map.1 hr
  exact hf x
theorem map_ones {α : Type} {f : α → List Value} (hf : ∀ x, ones (f x) = true) (l : List α) : ∀ r ∈ l.map f, ones r = true := by
  intro r hr
  obtain ⟨x, _, rfl⟩ := List.mem_map.1 hr
  exact hf x
theorem map_flat {α : Type} {f : α → List Value} {sz : Nat} (hf : ∀ x, (f x).length = sz) (l : List α) : ((l.map f).flatten).length = l.length * sz := by
  induction l with
  | nil => simp
  | cons x l ih => rw [List.map_cons, List.flatten_cons, List.length_append, ih, List.length_cons, hf, Nat.succ_mul, Nat.add_comm]
attribute [local irreducible] AnyO AnyB QAny QB EWalk AWalk Ev WP OPS QThen QBlock QScope QLoop QBody Val New Turn Tri Enters PostA Blk Ro
attribute [local irreducible] AnyC QC
section
variable (N : Nat) (w0 : World)
set_option maxHeartbeats 2000000 in
theorem with39_a (L : Hp) (g : Bg) (l : Lk) (hlk : ∀ w, Inv N w0 L w → SlAt w.heap.size w g.A3 4 (g.h.looks.map lkL)) (hn : g.h.looks.length ≤ 1000) (hA : g.A3 = none → g.h.looks.length = 0) : Tri Try.prog N w0 L 39 [heapV g, .agg (lkL l).toArray].toArray fun x L' =>
    ∃ s, x = .returned (.agg [.slice g.A1 g.h.heaps.length g.c1, .slice g.A2 g.h.rains.length g.c2, .int .i64 g.h.d0, .int .i64 g.h.d1, .int .i64 g.h.d2, .int .i64 g.h.limit, svV s (g.h.looks.length + 1)].toArray) ∧ svOk s 4 (g.h.looks.length + 1) ((g.h.looks.map lkL).flatten ++ lkL l) ∧ L' = svH 61 4 (g.h.looks.length + 1) ((g.h.looks.map lkL).flatten ++ lkL l) s L := by
  refine Tri.fgt ?_
  refine tri_of_WP Try.func39 rfl (n := 14) rfl (by simp) ?_
  have hsrc : ∀ L', Wk L' L → ∀ w, Inv N w0 L' w → ∀ j u, ((g.h.looks.map lkL).flatten)[j]? = some u → ∃ b o, g.A3 = some ⟨b, o, none⟩ ∧ w.cell? ⟨b, o + j, none⟩ = some u := fun L' hS w hI => (hlk w (hI.wk hS)).flat (by omega) (map_len (f := lkL) (fun _ => rfl) _)
  have hl4 : ((g.h.looks.map lkL).flatten).length = g.h.looks.length * (3 + 1) := map_flat (f := lkL) (fun _ => rfl) _
  have ho4 : ones ((g.h.looks.map lkL).flatten) = true := ones_flat (map_ones (f := lkL) (fun _ => rfl) _)
  obtain ⟨m, hm⟩ : ∃ m, g.h.looks.length = m := ⟨_, rfl⟩
  obtain ⟨xs, hxs⟩ : ∃ xs, (g.h.looks.map lkL).flatten = xs := ⟨_, rfl⟩
  unfold heapV hvL
  rw [hxs] at hsrc hl4 ho4 ⊢
  rw [hm] at hl4 hn hA ⊢
  unfold lkL
  repeat' (first | (refine GiP ?_; first | (refine Znh ?_) | (with_reducible refine Znl ?_) | (refine Zatd 5 ?_; refine Zbs fun b5 => ?_) | (refine Zatd 8 ?_; refine OPS_append0 rfl rfl rfl (by intro s9; repeat (first | exact Grow.here | apply Grow.there | apply Grow.sv | apply Grow.app)) svOk0 (hsrc _ (by repeat (first | exact Wk.refl _ | apply Wk.keep1 | apply Wk.drop | apply Wk.sv | apply Wk.svD | apply Wk.appD))) hA hl4 ho4 (by simp only [maxLen]; omega) (by omega) (fun s8 hs8 => ?_)) | (refine Zatd 10 ?_; refine Zal 10 fun b10 => ?_) | (refine Zatd 11 ?_; refine Zag (fun s11 hs11 => ?_)) | (refine Zatd 12 ?_; refine Zv Zfa ?_) | (refine Zatn ?_; refine Zst ?_)) | (refine GiW ?_; first | (refine Zsq fun K hK => ?_) | (refine ZrN 0 fun _ => ?_; refine Zal 2 fun b2 => ?_; refine Zal 3 fun b3 => ?_; refine Zal 4 fun b4 => ?_) | (refine ZrN 2 fun _ => ?_; refine Zv Zla ?_; refine Zst ?_) | (with_reducible apply WP_ret) | (refine WP_drawnS (id := 1) [1, 2, 4] [1, 2, 4] [] [6, 7, 9] (k := 3) (k2 := 3) (by repeat (first | apply Sub.sv | apply Sub.keep | apply Sub.appK | exact Sub.refl _)) (by kernel_rfl) prog_mixed (by kernel_rfl) (by kernel_rfl) rfl ?_; refine Zew rfl Zfa ?_; refine Zew rfl Zld ?_; refine Zew rfl Zla ?_)) | (with_reducible apply EWalk_nil) | (refine GiC ?_; first | (refine ZgC [1, 2, 4] ?_; refine ZC2 _ 0 [1, 2, 4, 0] 5 [1, 2, 4, 5] ?_ ?_) | (refine ZgC [1, 2, 4, 0] ?_; refine ZC2 _ 3 [1, 2, 4, 0, 3] 5 [1, 2, 4, 0, 5] ?_ ?_) | (refine ZgC [1, 2, 4, 0, 3] ?_; refine ZC1 _ 5 [1, 2, 4, 0, 3, 5] ?_) | (refine ZgC [1, 2, 4, 0, 3, 5] ?_; refine ZCl _ ?_) | (refine ZgC [1, 2, 4, 0, 5] ?_; refine ZC1 _ 3 [1, 2, 4, 0, 3, 5] ?_) | (refine ZgC [1, 2, 4, 5] ?_; refine ZC1 _ 0 [1, 2, 4, 0, 5] ?_)) | (refine GiO ?_; first | (refine ZgO [1, 2, 4, 0, 3, 5] ?_; refine ZO1 _ 6 [1, 2, 4, 0, 3, 5, 6] ?_) | (refine ZgO [1, 2, 4, 0, 3, 5, 6] ?_; refine ZO1 _ 7 [1, 2, 4, 0, 3, 5, 6, 7] ?_) | (refine ZgO [1, 2, 4, 0, 3, 5, 6, 7] ?_; refine ZO1 _ 8 [1, 2, 4, 0, 3, 5, 6, 7, 8] ?_) | (refine ZgO [1, 2, 4, 0, 3, 5, 6, 7, 8] ?_; refine ZOd _ ?_; (try with_reducible apply noP_normal); (try with_reducible exact key.out))) | (refine Zhn ?_) | (refine AWalk_0 ?_) | (with_reducible apply QAny_normal) | (with_reducible apply QC_normal))
  all_goals
    refine QBody_res rfl (.cellN rfl (by repeat (first | exact Mem.here | assumption | apply Mem.there | apply Mem.sv | apply Mem.app)) (.here (.cons (.cons (.cons (.cons (.cons (.cons (.cons .nil)))))))) .nil) rfl ?_
    exact ⟨svH 61 4 (m + 1) (xs ++ [.int .i64 l.heap, .int .i64 l.day, .int .i64 l.lo, .int .i64 l.hi]) _ L, (by repeat (first | exact Wk.refl _ | apply Wk.keep1 | apply Wk.drop | apply Wk.sv | apply Wk.svD | apply Wk.appD)), _, rfl, by assumption, rfl⟩
theorem with39_tri (L : Hp) (g : Bg) (l : Lk) (hlk : ∀ w, Inv N w0 L w → SlAt w.heap.size w g.A3 4 (g.h.looks.map lkL)) (hn : g.h.looks.length ≤ 1000) (hA : g.A3 = none → g.h.looks.length = 0) : Tri Try.prog N w0 L 39 [heapV g, .agg (lkL l).toArray].toArray fun x L' => ∃ v, x = .returned v ∧ ∃ b cap, v = heapV { g with h := addL g.h l, A3 := some ⟨b, 0, none⟩, c3 := cap } ∧ L' = (b, Row 61 4 (g.h.looks.length + 1) cap (((g.h.looks ++ [l]).map lkL).flatten)) :: L := by
  refine (with39_a N w0 L g l hlk hn hA).mono ?_
  rintro x L' ⟨s, rfl, hs, rfl⟩
  cases s with
  | none => have := hs.2 rfl; omega
  | some p =>
    obtain ⟨b, cap⟩ := p
    have e : ((g.h.looks ++ [l]).map lkL).flatten = (g.h.looks.map lkL).flatten ++ lkL l := by simp
    refine ⟨_, rfl, b, cap, ?_, ?_⟩
    · unfold heapV hvL
      have : (addL g.h l).looks.length = g.h.looks.length + 1 := by simp [addL]
      dsimp only
      rw [this]
      rfl
    · rw [e]; rfl
end
end Go.Proofs.Ytlpahkmfjpjheaa
end

section
namespace Go.Proofs.Ytlpahkmfjpjheaa
open Go.RowKit
theorem vB_of' {h : Hv} (v : VH h) : vB h = true := by
  have h1 := v.nh
  have h2 := v.nr
  have h3 := v.lim
  have h4 := v.nl
  have h5 := v.dr
  simp only [vB, numB, drB, Bool.and_eq_true, List.all_eq_true, within, isSpanB, tfB, lkB, decide_eq_true_eq]
  refine ⟨⟨⟨⟨?_, fun t ht => ?_⟩, fun s hs => ?_⟩, ?_⟩, fun l hl => ?_⟩
  · refine ⟨⟨⟨?_, ?_⟩, ?_⟩, h4⟩ <;> constructor <;> omega
  · have := v.tf t ht; refine ⟨⟨?_, ?_⟩, ?_⟩ <;> omega
  · have := v.rn s hs; omega
  · refine ⟨⟨⟨?_, ?_⟩, ?_, ?_⟩, ?_, ?_⟩ <;> omega
  · have := v.lk l hl; refine ⟨⟨⟨?_, ?_⟩, ?_, ?_⟩, ?_⟩ <;> omega
/-- Heaps that are not valid. -/
theorem errE_bad {h : Hv} (hb : vB h = false) (ok : Bool) : errE h ok = 1 := by simp [errE, hb]
theorem wetV_bad {h : Hv} (hb : vB h = false) (i d : Int) : WetV h i d = (0, 0) := by
  unfold WetV; rw [errE_bad hb, if_neg (by omega)]
theorem all_bad {h : Hv} (hb : vB h = false) : AllE h = 1 ∧ AllV h = 0 := by
  have : AllE h = 1 := by unfold AllE errW; rw [errE_bad hb, if_neg (by omega)]
  exact ⟨this, by unfold AllV; rw [this, if_neg (by omega)]⟩
/-- What is none. -/
theorem errE_none {h : Hv} (hb : vB h = true) : errE h false = 2 := by simp [errE, hb]
theorem none_wet (h : Hv) : WetOk h h.heaps.length 0 = false := by unfold WetOk within; simp; omega
theorem none_rain (h : Hv) : DayOk h h.rains.length = false := by unfold DayOk within; simp; omega
theorem none_dry (h : Hv) : WetOk h 0 (-1) = false := by unfold WetOk within; simp
theorem none_day (h : Hv) : DayOk h (-1) = false := by unfold DayOk within; simp
theorem none_when {h : Hv} (hb : vB h = true) : WhenE h (-1) = 2 := by
  have h1 : HeapOk h (-1) = false := by unfold HeapOk within; simp
  unfold WhenE errW
  rw [h1, errE_none hb, if_neg (by omega)]
section
variable {h : Hv} (hv : VH h) (h0 : toldL h ≠ [])
include hv h0
theorem ends_rain {d : Nat} (hd : d < h.rains.length) {c : Int} (hc : h.rains[d].1 ≤ c ∧ c ≤ h.rains[d].2) :
    (errE (setR h d (c, c)) (DayOk (setR h d (c, c)) d) = 0 ∧ RainV (setR h d (c, c)) d = (c, c) ∧ (rainS h d).1 ≤ c ∧ c ≤ (rainS h d).2) ∨
    (errE (setR h d (c, c)) (DayOk (setR h d (c, c)) d) = 10 ∧ RainV (setR h d (c, c)) d = (0, 0) ∧ c ≠ (rainS h d).1 ∧ c ≠ (rainS h d).2) := by
  have hv' : VH (setR h d (c, c)) := VH_setR hv hd (by dsimp only; omega)
  have hd' : d < (setR h d (c, c)).rains.length := by show d < (h.rains.set d (c, c)).length; rw [List.length_set]; exact hd
  obtain ⟨k1, k2⟩ := rain_known hv h0 hd hc
  by_cases h1 : toldL (setR h d (c, c)) = []
  · have := rain_clash (vB_of' hv') h1 hd'
    refine .inr ⟨this.2, this.1, fun he => k2 (.inl he) h1, fun he => k2 (.inr he) h1⟩
  · have := rain_ok (vB_of' hv') h1 hd'
    obtain ⟨a, b, e⟩ := k1 h1
    exact .inl ⟨this.2, by rw [this.1, e], a, b⟩
theorem ends_look {i d : Nat} (hi : i < h.heaps.length) (hd : d < h.rains.length) (hn : h.looks.length < 5) {c : Int} (hc : 0 ≤ c ∧ c ≤ 100) (he : c = (wetS h i d).1 - 1 ∨ c = (wetS h i d).1 ∨ c = (wetS h i d).2 ∨ c = (wetS h i d).2 + 1) :
    (errE (addL h ⟨i, d, c, c⟩) (WetOk (addL h ⟨i, d, c, c⟩) i d) = 0 ∧ WetV (addL h ⟨i, d, c, c⟩) i d = (c, c) ∧ (wetS h i d).1 ≤ c ∧ c ≤ (wetS h i d).2) ∨
    (errE (addL h ⟨i, d, c, c⟩) (WetOk (addL h ⟨i, d, c, c⟩) i d) = 10 ∧ WetV (addL h ⟨i, d, c, c⟩) i d = (0, 0) ∧ ¬ ((wetS h i d).1 ≤ c ∧ c ≤ (wetS h i d).2)) := by
  obtain ⟨hv', h1, h2⟩ := look_known hv h0 hi hd hn hc
  have hH := wetS_hull hv h0 hi hd
  by_cases h3 : toldL (addL h ⟨i, d, c, c⟩) = []
  · have := wet_clash (vB_of' hv') h3 (i := i) (d := d) hi hd
    refine .inr ⟨this.2, this.1, fun hh => ?_⟩
    have hp : ¬ WetP h i d c := fun hp => h1.2 hp h3
    have e1 : c ≠ (wetS h i d).1 := fun e => hp (e ▸ hH.1)
    have e2 : c ≠ (wetS h i d).2 := fun e => hp (e ▸ hH.2.1)
    omega
  · have := wet_ok (vB_of' hv') h3 (i := i) (d := d) hi hd
    have hb := hH.2.2 c (h1.1 h3)
    exact .inl ⟨this.2, by rw [this.1, h2 h3], hb⟩
end
end Go.Proofs.Ytlpahkmfjpjheaa
end

section
namespace Go.Proofs.Ytlpahkmfjpjheaa
open Go.RowKit
attribute [local irreducible] AnyO AnyB QAny QB EWalk AWalk Ev WP OPS QThen QBlock QScope QLoop QBody Val New Turn Tri Enters PostA Blk Ro
attribute [local irreducible] AnyC QC
theorem Val_remE {N : Nat} {w0 : World} {L : Hp} {e : Env} {d : Option Nat} {ty : TypeId} {pos : String} {af : Array Edge} {g : Option (Nat × Bool)} {x y : Operand} {t t' : TypeId} {a b c : Nat} (hc : a % b = c) (hb : 0 < b) (hx : ev e x = .int .i64 (a : Int)) (hy : ev e y = .int .i64 (b : Int)) : Val Try.prog N w0 L e ⟨d, .binOp .rem t x y t', ty, pos, af, g⟩ (.int .i64 (c : Int)) := by
  have := Val_rem (P := Try.prog) (N := N) (w0 := w0) (L := L) (d := d) (ty := ty) (pos := pos) (af := af) (g := g) (t := t) (t' := t') hx hy (by omega)
  have e : ((a : Int).tmod b) = (c : Int) := by rw [Int.tmod_eq_emod_of_nonneg (by omega), ← hc]; omega
  rwa [e] at this
theorem longB_ok {h : Hv} (hl : longB h = false) : h.heaps.length ≤ 40 ∧ h.rains.length ≤ 40 ∧ h.looks.length ≤ 40 := by
  unfold longB at hl
  simp only [decide_eq_false_iff_not] at hl
  omega
section
variable (N : Nat) (w0 : World)
/-- Far too long, or not valid: the examples alone. -/
theorem dry_law0 (L : Hp) (g : Bg) (hA : HeapAt N w0 g) (which at_ : Nat) (h0 : longB g.h = true ∨ vB g.h = false) : Ret Try.prog N w0 L 8 [heapV g, .int .u8 (which : Int), .int .u8 (at_ : Int)].toArray (.bool true) := by
  refine Ret.fgt ?_
  refine tri_of_WP Try.func8 rfl (n := 287) rfl (by simp) ?_
  have h34 := fun L => long_ret N w0 L g
  have h13 := fun L => alive_ret N w0 L
  cases hlong : longB g.h with
  | true =>
    rw [hlong] at h34
    unfold heapV hvL at h34 ⊢
    repeat' (first | (refine GiP ?_; first | (refine Znh ?_) | (refine Zatd 31 ?_; (first | (refine Zv Zxpt ?_) | (refine Zv Zxpf ?_))) | (refine Zsk ?_)) | (refine GiW ?_; first | (refine Zsq fun K hK => ?_) | (refine ZrN 0 fun _ => ?_; refine Zal 3 fun b3 => ?_; refine Zv Zab ?_) | (refine ZrG 1 ?_; refine Zv Zla ?_; refine Zcl (Enters_fn rfl) (h34 _) ?_; refine Zv Zmb ?_) | (refine ZrN 2 fun _ => ?_; refine Zcl (Enters_fn rfl) (h13 _) ?_; refine Zv Zab ?_) | (refine WP_cond_true rfl ?_) | (with_reducible apply WP_ret)) | (refine Zhr ?_))
    exact QBody_ret1 rfl (rfl : _ = Value.bool _) ⟨rfl, (by repeat (first | exact Wk.refl _ | apply Wk.keep1 | apply Wk.drop | apply Wk.sv | apply Wk.svD | apply Wk.appD))⟩
  | false =>
    obtain ⟨l1, l2, l3⟩ := longB_ok hlong
    have h35 := fun L => Heaps_ret N w0 L g hA (by omega) (by omega) (by omega)
    have hvb : vB g.h = false := by rcases h0 with h0 | h0; rw [hlong] at h0; cases h0; exact h0
    rw [hlong] at h34
    rw [hvb] at h35
    unfold heapV hvL at h34 h35 ⊢
    repeat' (first | (refine GiP ?_; first | (refine Znh ?_) | (refine Zatd 31 ?_; (first | (refine Zv Zxpt ?_) | (refine Zv Zxpf ?_))) | (refine Zatd 28 ?_; refine Zv Zla ?_) | (refine Zatd 29 ?_; refine Zcl (Enters_fn rfl) (h35 _) ?_) | (refine Zatd 30 ?_; refine Zv Zxnot ?_)) | (refine GiW ?_; first | (refine Zsq fun K hK => ?_) | (refine ZrN 0 fun _ => ?_; refine Zal 3 fun b3 => ?_; refine Zv Zab ?_) | (refine ZrG 1 ?_; refine Zv Zla ?_; refine Zcl (Enters_fn rfl) (h34 _) ?_; refine Zv Zmb ?_) | (refine ZrN 2 fun _ => ?_; refine Zcl (Enters_fn rfl) (h13 _) ?_; refine Zv Zab ?_) | (refine WP_cond_true rfl ?_) | (with_reducible apply WP_ret)) | (refine Zhr ?_))
    exact QBody_ret1 rfl (rfl : _ = Value.bool _) ⟨rfl, (by repeat (first | exact Wk.refl _ | apply Wk.keep1 | apply Wk.drop | apply Wk.sv | apply Wk.svD | apply Wk.appD))⟩
end
end Go.Proofs.Ytlpahkmfjpjheaa
end

section
namespace Go.Proofs.Ytlpahkmfjpjheaa
open Go.RowKit
/-- The least number of looks that must be false. -/
theorem false_least {h : Hv} (hv : VH h) : FalseE h = 0 ∧ ∃ x : Nat, FalseV h = ((pc x : Int), (x : Int)) ∧ x < 2 ^ h.looks.length ∧ someB h (evL h - x) = true ∧ ∀ y, y < 2 ^ h.looks.length → someB h (evL h - y) = true → pc x ≤ pc y := by
  obtain ⟨h1, x, h2, h3, h4, h5⟩ := false_ok hv (vB_of' hv)
  refine ⟨h1, x, h2, h3, h4, fun y hy hs => ?_⟩
  by_cases hl : lexB y x = true
  · rw [h5 y hy hl] at hs; cases hs
  · unfold lexB at hl
    have h6 : ¬ (pc y < pc x ∨ (pc y = pc x ∧ y < x)) := fun hh => hl (decide_eq_true hh)
    omega
/-- All that can be of one can be of another one. -/
structure Fine (q h : Hv) : Prop where
  nh : q.heaps.length = h.heaps.length
  nr : q.rains.length = h.rains.length
  lim : q.limit = h.limit
  wet : ∀ i d v, i < h.heaps.length → WetP q i d v → WetP h i d v
  rain : ∀ d v, RainP q d v → RainP h d v
  tr : ∀ r, Tr q (evL q) r → Tr h (evL h) r
  few : (FalseV h).1 ≤ (FalseV q).1
section
variable {q h : Hv} (hq : VH q) (hh : VH h) (F : Fine q h)
include hq hh F
theorem Fine.told (h0 : toldL q ≠ []) : toldL h ≠ [] := by
  have h1 := (someB_told hq).2 h0
  obtain ⟨r, hr⟩ := (someB_iff hq).1 h1
  exact (someB_told hh).1 ((someB_iff hh).2 ⟨r, F.tr r hr⟩)
theorem Fine.wetS (h0 : toldL q ≠ []) {i d : Nat} (hi : i < h.heaps.length) (hd : d < h.rains.length) : (wetS h i d).1 ≤ (wetS q i d).1 ∧ (wetS q i d).2 ≤ (wetS h i d).2 := by
  have h1 := wetS_hull hq h0 (i := i) (d := d) (by rw [F.nh]; exact hi) (by rw [F.nr]; exact hd)
  have h2 := wetS_hull hh (F.told hq hh h0) hi hd
  exact ⟨(h2.2.2 _ (F.wet _ _ _ hi h1.1)).1, (h2.2.2 _ (F.wet _ _ _ hi h1.2.1)).2⟩
theorem Fine.rainS (h0 : toldL q ≠ []) {d : Nat} (hd : d < h.rains.length) : (rainS h d).1 ≤ (rainS q d).1 ∧ (rainS q d).2 ≤ (rainS h d).2 := by
  have h1 := rainS_hull hq h0 (d := d) (by rw [F.nr]; exact hd)
  have h2 := rainS_hull hh (F.told hq hh h0) hd
  exact ⟨(h2.2.2 _ (F.rain _ _ h1.1)).1, (h2.2.2 _ (F.rain _ _ h1.2.1)).2⟩
end
theorem idxF_le {p q : Nat → Bool} : ∀ n : Nat, (∀ d, d < n → p d = true → q d = true) → 0 ≤ idxF p n → 0 ≤ idxF q n ∧ idxF q n ≤ idxF p n
  | 0, _, h0 => by rw [idxF_zero] at h0; omega
  | n + 1, hpq, h0 => by
    have hb := idxF_bd q n
    have hbp := idxF_bd p n
    rw [idxF_succ] at h0 ⊢
    rw [idxF_succ p n]
    by_cases hp : 0 ≤ idxF p n
    · have ih := idxF_le n (fun d hd => hpq d (by omega)) hp
      rw [if_neg (by omega), if_neg (by omega)]
      exact ih
    · by_cases hc : idxF p n < 0 ∧ p n = true
      · rw [if_pos hc]
        have := hpq n (by omega) hc.2
        by_cases hc2 : idxF q n < 0 ∧ q n = true
        · rw [if_pos hc2]; omega
        · rw [if_neg hc2]
          have : ¬ idxF q n < 0 := fun hh => hc2 ⟨hh, this⟩
          omega
      · rw [if_neg hc] at h0
        omega
/-- What is returned of something known better. -/
structure Better (q h : Hv) (i d : Nat) : Prop where
  e : errE q (WetOk q i d) = 0 ∨ errE q (WetOk q i d) = 10
  r : errE q (DayOk q d) = errE q (WetOk q i d)
  few : (FalseV h).1 ≤ (FalseV q).1
  f : FalseE q = 0
  ok : errE q (WetOk q i d) = 0 → errE h (WetOk h i d) = 0 ∧ ((WetV h i d).1 ≤ (WetV q i d).1 ∧ (WetV q i d).2 ≤ (WetV h i d).2) ∧ ((RainV h d).1 ≤ (RainV q d).1 ∧ (RainV q d).2 ≤ (RainV h d).2) ∧ (WhenE h i = 0 → WhenE q i = 0 ∧ WhenV q i ≤ WhenV h i)
theorem better_of {q h : Hv} (hq : VH q) (hh : VH h) (F : Fine q h) {i d : Nat} (hi : i < h.heaps.length) (hd : d < h.rains.length) : Better q h i d := by
  have hi' : i < q.heaps.length := by rw [F.nh]; exact hi
  have hd' : d < q.rains.length := by rw [F.nr]; exact hd
  have bq := vB_of' hq
  have bh := vB_of' hh
  by_cases h0 : toldL q = []
  · have e1 := wet_clash bq h0 hi' hd'
    have e2 := rain_clash bq h0 hd'
    refine ⟨.inr e1.2, by rw [e1.2, e2.2], F.few, (false_ok hq bq).1, fun h1 => ?_⟩
    rw [e1.2] at h1; cases h1
  · have e1 := wet_ok bq h0 hi' hd'
    have e2 := rain_ok bq h0 hd'
    have h1 := F.told hq hh h0
    have e3 := wet_ok bh h1 hi hd
    have e4 := rain_ok bh h1 hd
    refine ⟨.inl e1.2, by rw [e1.2, e2.2], F.few, (false_ok hq bq).1, fun _ => ⟨e3.2, ?_, ?_, fun hw => ?_⟩⟩
    · rw [e1.1, e3.1]; exact F.wetS hq hh h0 hi hd
    · rw [e2.1, e4.1]; exact F.rainS hq hh h0 hd
    · have hmono : ∀ d', d' < h.rains.length → dr h i d' = true → dr q i d' = true := by
        intro d' hd2 hdr
        unfold dr at hdr ⊢
        have h2 := of_decide_eq_true hdr
        have h3 := F.wetS hq hh h0 hi hd2
        have h4 := F.lim
        exact decide_eq_true (by omega)
      rcases when_ok hh bh h1 hi with ⟨a, b, c⟩ | ⟨a, _, _⟩
      · have h5 := idxF_le _ hmono c
        rcases when_ok hq bq h0 hi' with ⟨a', b', c'⟩ | ⟨_, _, c'⟩
        · rw [F.nr] at b'
          exact ⟨a', by rw [b, b']; exact h5.2⟩
        · rw [F.nr] at c'
          omega
      · rw [a] at hw; cases hw
/-! ## The same looks, or rains, known better -/
/-- Each look, and each rain, is within the other one's. -/
structure Nar (q h : Hv) : Prop where
  heaps : q.heaps = h.heaps
  d0 : q.d0 = h.d0
  d1 : q.d1 = h.d1
  d2 : q.d2 = h.d2
  lim : q.limit = h.limit
  nr : q.rains.length = h.rains.length
  rn : ∀ (d : Nat) (s : Sp), q.rains[d]? = some s → ∃ s' : Sp, h.rains[d]? = some s' ∧ s'.1 ≤ s.1 ∧ s.2 ≤ s'.2
  nl : q.looks.length = h.looks.length
  lk : ∀ (j : Nat) (l : Lk), h.looks[j]? = some l → ∃ l' : Lk, q.looks[j]? = some l' ∧ l'.heap = l.heap ∧ l'.day = l.day ∧ l.lo ≤ l'.lo ∧ l'.hi ≤ l.hi
section
variable {q h : Hv} (K : Nar q h)
include K
theorem Nar.inR {r : List Int} (hr : InR q.rains r) : InR h.rains r := by
  refine ⟨by rw [hr.1, K.nr], fun d s v hs hv => ?_⟩
  have hd : d < q.rains.length := by rw [K.nr]; exact (List.getElem?_eq_some_iff.1 hs).1
  obtain ⟨s', h1, h2⟩ := K.rn d _ (List.getElem?_eq_getElem hd)
  rw [hs] at h1
  simp only [Option.some.injEq] at h1
  subst h1
  have := hr.2 d _ v (List.getElem?_eq_getElem hd) hv
  omega
theorem Nar.evn (i : Nat) (n : Int) (r : List Int) (d : Nat) : evn q i n r d = Go.Proofs.Ytlpahkmfjpjheaa.evn h i n r d := by
  unfold Go.Proofs.Ytlpahkmfjpjheaa.evn evening tfOf
  rw [K.heaps, K.d0, K.d1, K.d2]
theorem Nar.one {s : Nat} {r : List Int} {i : Nat} {n : Int} (h1 : One q s r i n) : One h s r i n := by
  have ht : tfOf q i = tfOf h i := by unfold tfOf; rw [K.heaps]
  obtain ⟨a, b, c⟩ := h1
  rw [ht] at a b
  refine ⟨a, b, fun j l hl hs hi => ?_⟩
  obtain ⟨l', h2, h3, h4, h5, h6⟩ := K.lk j l hl
  have := c j l' h2 hs (by rw [h3]; exact hi)
  rw [h4, K.evn] at this
  omega
theorem Nar.tr {s : Nat} {r : List Int} (h1 : Tr q s r) : Tr h s r := ⟨K.inR h1.1, fun i hi => let ⟨n, hn⟩ := h1.2 i (by rw [K.heaps]; exact hi); ⟨n, K.one hn⟩⟩
theorem Nar.ev : evL q = evL h := by unfold evL; rw [K.nl]
theorem Nar.fine (hq : VH q) (hh : VH h) : Fine q h := by
  refine ⟨by rw [K.heaps], K.nr, K.lim, ?_, ?_, fun r hr => by rw [← K.ev]; exact K.tr hr, ?_⟩
  · rintro i d v hi ⟨r, h1, n, h2, rfl⟩
    rw [K.ev] at h1 h2
    exact ⟨r, K.tr h1, n, K.one h2, K.evn _ _ _ _⟩
  · rintro d v ⟨r, h1, h2⟩
    rw [K.ev] at h1
    exact ⟨r, K.tr h1, h2⟩
  · obtain ⟨_, x, e1, hx, _, hmin⟩ := false_least hh
    obtain ⟨_, y, e2, hy, hs, _⟩ := false_least hq
    rw [e1, e2]
    rw [K.nl] at hy
    obtain ⟨r, hr⟩ := (someB_iff hq).1 hs
    rw [K.ev] at hr
    have := hmin y hy ((someB_iff hh).2 ⟨r, K.tr hr⟩)
    show (pc x : Int) ≤ pc y
    omega
end
/-! ## A look more -/
theorem bits_low : ∀ k, k < 5 → ∀ x, x < 2 ^ (k + 1) → x % 2 ^ k < 2 ^ k ∧ pc (x % 2 ^ k) ≤ pc x ∧ ∀ j, j < k → (2 ^ (k + 1) - 1 - x) / 2 ^ j % 2 = (2 ^ k - 1 - x % 2 ^ k) / 2 ^ j % 2 := by decide +kernel
theorem bits_more : ∀ k, k < 5 → ∀ x, x < 2 ^ k → x + 2 ^ k < 2 ^ (k + 1) ∧ pc (x + 2 ^ k) = pc x + 1 ∧ 2 ^ (k + 1) - 1 - (x + 2 ^ k) = 2 ^ k - 1 - x ∧ (2 ^ k - 1 - x) / 2 ^ k % 2 = 0 := by decide +kernel
section
variable {h : Hv} {l : Lk}
theorem more_one {s s' : Nat} (hs : ∀ j, j < h.looks.length → s' / 2 ^ j % 2 = s / 2 ^ j % 2) {r : List Int} {i : Nat} {n : Int} (h1 : One (addL h l) s' r i n) : One h s r i n := by
  obtain ⟨a, b, c⟩ := h1
  refine ⟨a, b, fun j l' hl hj hi => ?_⟩
  have hjl := (List.getElem?_eq_some_iff.1 hl).1
  exact c j l' (by show (h.looks ++ [l])[j]? = _; rw [List.getElem?_append_left hjl]; exact hl) (by rw [hs j hjl]; exact hj) hi
theorem one_more {s : Nat} (hs : s / 2 ^ h.looks.length % 2 = 0) {r : List Int} {i : Nat} {n : Int} (h1 : One h s r i n) : One (addL h l) s r i n := by
  obtain ⟨a, b, c⟩ := h1
  refine ⟨a, b, fun j l' hl hj hi => ?_⟩
  have hl' : (h.looks ++ [l])[j]? = some l' := hl
  by_cases hjl : j < h.looks.length
  · rw [List.getElem?_append_left hjl] at hl'
    exact c j l' hl' hj hi
  · have h2 := (List.getElem?_eq_some_iff.1 hl').1
    rw [List.length_append, List.length_singleton] at h2
    have : j = h.looks.length := by omega
    subst this
    rw [hs] at hj; cases hj
theorem more_fine (hq : VH (addL h l)) (hh : VH h) : Fine (addL h l) h ∧ (FalseV (addL h l)).1 ≤ (FalseV h).1 + 1 := by
  have hk : h.looks.length < 5 := by
    have h1 := hq.nl
    have h2 : (addL h l).looks.length = h.looks.length + 1 := by show (h.looks ++ [l]).length = _; simp
    omega
  have hlen : (addL h l).looks.length = h.looks.length + 1 := by show (h.looks ++ [l]).length = _; simp
  have hev : evL (addL h l) = 2 ^ (h.looks.length + 1) - 1 := by unfold evL; rw [hlen]
  have hone : ∀ {r i n}, One (addL h l) (evL (addL h l)) r i n → One h (evL h) r i n := fun hn => (One_addL.1 hn).1
  have htr : ∀ r, Tr (addL h l) (evL (addL h l)) r → Tr h (evL h) r := fun r hr => ⟨hr.1, fun i hi => let ⟨n, hn⟩ := hr.2 i hi; ⟨n, hone hn⟩⟩
  obtain ⟨_, x, e1, hx, hsx, hminx⟩ := false_least hh
  obtain ⟨_, y, e2, hy, hsy, hminy⟩ := false_least hq
  rw [hlen] at hy hminy
  rw [hev] at hsy hminy
  refine ⟨⟨rfl, rfl, rfl, ?_, ?_, htr, ?_⟩, ?_⟩
  · rintro i d v hi ⟨r, h1, n, h2, rfl⟩
    exact ⟨r, htr r h1, n, hone h2, rfl⟩
  · rintro d v ⟨r, h1, h2⟩
    exact ⟨r, htr r h1, h2⟩
  · rw [e1, e2]
    obtain ⟨b1, b2, b3⟩ := bits_low _ hk y hy
    obtain ⟨r, hr⟩ := (someB_iff hq).1 hsy
    have := hminx _ b1 ((someB_iff hh).2 ⟨r, hr.1, fun i hi => let ⟨n, hn⟩ := hr.2 i hi; ⟨n, more_one (s := evL h - y % 2 ^ h.looks.length) (fun j hj => b3 j hj) hn⟩⟩)
    show (pc x : Int) ≤ pc y
    omega
  · rw [e1, e2]
    obtain ⟨b1, b2, b3, b4⟩ := bits_more _ hk x hx
    obtain ⟨r, hr⟩ := (someB_iff hh).1 hsx
    have := hminy _ b1 (by
      rw [b3]
      exact (someB_iff hq).2 ⟨r, hr.1, fun i hi => let ⟨n, hn⟩ := hr.2 i hi; ⟨n, one_more b4 hn⟩⟩)
    show (pc y : Int) ≤ pc x + 1
    omega
end
/-! ## Numbered otherwise -/
def revK (n : Nat) (l : Lk) : Lk := { l with heap := (n : Int) - 1 - l.heap }
def revH (h : Hv) : Hv := { h with heaps := h.heaps.reverse, looks := h.looks.reverse.map (revK h.heaps.length) }
def revS (k x : Nat) : Nat := (List.range k).foldl (fun a j => a + x / 2 ^ j % 2 * 2 ^ (k - 1 - j)) 0
theorem revS_ok : ∀ k, k < 6 → ∀ x, x < 2 ^ k → revS k x < 2 ^ k ∧ pc (revS k x) = pc x ∧ revS k (2 ^ k - 1 - x) = 2 ^ k - 1 - revS k x ∧ (∀ j, j < k → revS k x / 2 ^ (k - 1 - j) % 2 = x / 2 ^ j % 2) ∧ revS k (revS k x) = x := by decide +kernel
section
variable {h : Hv} (hv : VH h)
include hv
theorem VH_rev : VH (revH h) := by
  have h1 : (revH h).heaps.length = h.heaps.length := by show h.heaps.reverse.length = _; simp
  have h2 : (revH h).looks.length = h.looks.length := by show (h.looks.reverse.map _).length = _; simp
  refine ⟨by rw [h1]; exact hv.nh, hv.nr, hv.lim, by rw [h2]; exact hv.nl, fun t ht => hv.tf t (List.mem_reverse.1 ht), hv.rn, hv.dr, fun l hl => ?_⟩
  obtain ⟨l', hl', rfl⟩ := List.mem_map.1 hl
  have := hv.lk l' (List.mem_reverse.1 hl')
  rw [h1]
  refine ⟨?_, this.2⟩
  show 0 ≤ (h.heaps.length : Int) - 1 - l'.heap ∧ (h.heaps.length : Int) - 1 - l'.heap < _
  omega
omit hv in
theorem tf_rev {i : Nat} (hi : i < h.heaps.length) : tfOf (revH h) (h.heaps.length - 1 - i) = tfOf h i := by
  have h1 : (revH h).heaps[h.heaps.length - 1 - i]? = some (tfOf h i) := by
    show h.heaps.reverse[h.heaps.length - 1 - i]? = _
    rw [List.getElem?_reverse (by omega), show h.heaps.length - 1 - (h.heaps.length - 1 - i) = i by omega, tfOf_get hi]
  unfold tfOf at h1 ⊢
  rw [List.getD_eq_getElem?_getD, h1]; rfl
omit hv in
theorem evn_rev {i : Nat} (hi : i < h.heaps.length) (n : Int) (r : List Int) (d : Nat) : evn (revH h) (h.heaps.length - 1 - i) n r d = evn h i n r d := by
  unfold evn
  rw [tf_rev hi]
  rfl
omit hv in
theorem lk_rev {j : Nat} (hj : j < h.looks.length) : (revH h).looks[h.looks.length - 1 - j]? = some (revK h.heaps.length h.looks[j]) := by
  show (h.looks.reverse.map (revK h.heaps.length))[h.looks.length - 1 - j]? = _
  rw [List.getElem?_map, List.getElem?_reverse (by omega), show h.looks.length - 1 - (h.looks.length - 1 - j) = j by omega, List.getElem?_eq_getElem hj]; rfl
omit hv in
theorem lk_rev' {j : Nat} {l : Lk} (hl : (revH h).looks[j]? = some l) : j < h.looks.length := by
  have := (List.getElem?_eq_some_iff.1 hl).1
  have h2 : (revH h).looks.length = h.looks.length := by show (h.looks.reverse.map _).length = _; simp
  omega
/-- A set, and the one of the same looks in the other order. -/
def Mir (h : Hv) (s s' : Nat) : Prop := ∀ j, j < h.looks.length → s' / 2 ^ (h.looks.length - 1 - j) % 2 = s / 2 ^ j % 2
omit hv in
theorem one_rev {s s' : Nat} (hs : Mir h s s') {r : List Int} {i : Nat} (hi : i < h.heaps.length) {n : Int} : One (revH h) s' r (h.heaps.length - 1 - i) n ↔ One h s r i n := by
  unfold One
  rw [tf_rev hi]
  constructor
  · rintro ⟨a, b, c⟩
    refine ⟨a, b, fun j l hl hj he => ?_⟩
    obtain ⟨hjl, hlg⟩ := List.getElem?_eq_some_iff.1 hl
    have := c _ _ (lk_rev hjl) (by rw [hs j hjl]; exact hj) (by rw [hlg]; show (h.heaps.length : Int) - 1 - l.heap = _; omega)
    rw [hlg, evn_rev hi] at this
    exact this
  · rintro ⟨a, b, c⟩
    refine ⟨a, b, fun j l hl hj he => ?_⟩
    have hjl := lk_rev' hl
    have h1 := lk_rev (h := h) (j := h.looks.length - 1 - j) (by omega)
    rw [show h.looks.length - 1 - (h.looks.length - 1 - j) = j by omega, hl] at h1
    simp only [Option.some.injEq] at h1
    have h2 := hs (h.looks.length - 1 - j) (by omega)
    rw [show h.looks.length - 1 - (h.looks.length - 1 - j) = j by omega] at h2
    have := c (h.looks.length - 1 - j) _ (List.getElem?_eq_getElem (by omega)) (by rw [← h2]; exact hj) (by rw [h1] at he; have he' : (h.heaps.length : Int) - 1 - (h.looks[h.looks.length - 1 - j]).heap = ((h.heaps.length - 1 - i : Nat) : Int) := he; omega)
    rw [evn_rev hi, h1]
    exact this
omit hv in
theorem tr_rev {s s' : Nat} (hs : Mir h s s') {r : List Int} : Tr (revH h) s' r ↔ Tr h s r := by
  have h1 : (revH h).heaps.length = h.heaps.length := by show h.heaps.reverse.length = _; simp
  unfold Tr
  rw [h1]
  constructor
  · rintro ⟨a, b⟩
    refine ⟨a, fun i hi => ?_⟩
    obtain ⟨n, hn⟩ := b (h.heaps.length - 1 - i) (by omega)
    exact ⟨n, (one_rev hs hi).1 hn⟩
  · rintro ⟨a, b⟩
    refine ⟨a, fun i hi => ?_⟩
    obtain ⟨n, hn⟩ := b (h.heaps.length - 1 - i) (by omega)
    have := (one_rev hs (i := h.heaps.length - 1 - i) (by omega)).2 hn
    rw [show h.heaps.length - 1 - (h.heaps.length - 1 - i) = i by omega] at this
    exact ⟨n, this⟩
theorem mir_ev : Mir h (evL h) (evL (revH h)) := by
  have h2 : (revH h).looks.length = h.looks.length := by show (h.looks.reverse.map _).length = _; simp
  unfold Mir evL
  rw [h2]
  have := hv.nl
  have key : ∀ k, k < 6 → ∀ j, j < k → (2 ^ k - 1) / 2 ^ (k - 1 - j) % 2 = (2 ^ k - 1) / 2 ^ j % 2 := by decide +kernel
  exact key _ (by omega)
theorem some_rev {s s' : Nat} (hs : Mir h s s') : someB (revH h) s' = someB h s := by
  rw [Bool.eq_iff_iff, someB_iff hv, someB_iff (VH_rev hv)]
  exact ⟨fun ⟨r, hr⟩ => ⟨r, (tr_rev hs).1 hr⟩, fun ⟨r, hr⟩ => ⟨r, (tr_rev hs).2 hr⟩⟩
theorem told_rev : toldL (revH h) = [] ↔ toldL h = [] := by
  have h1 := some_rev hv (mir_ev hv)
  have h2 := someB_told hv
  have h3 := someB_told (VH_rev hv)
  rw [h1] at h3
  constructor
  · intro hh; exact Classical.not_not.1 fun hc => (h3.1 (h2.2 hc)) hh
  · intro hh; exact Classical.not_not.1 fun hc => (h2.1 (h3.2 hc)) hh
theorem wetS_rev (h0 : toldL h ≠ []) {i d : Nat} (hi : i < h.heaps.length) (hd : d < h.rains.length) : wetS (revH h) (h.heaps.length - 1 - i) d = wetS h i d := by
  have h1 : (revH h).heaps.length = h.heaps.length := by show h.heaps.reverse.length = _; simp
  refine Hull.uniq (p := WetP h i d) ((wetS_hull (VH_rev hv) (fun hh => h0 ((told_rev hv).1 hh)) (by rw [h1]; omega) hd).iff fun v => ?_) (wetS_hull hv h0 hi hd)
  unfold WetP
  constructor
  · rintro ⟨r, a, n, b, rfl⟩
    exact ⟨r, (tr_rev (mir_ev hv)).1 a, n, (one_rev (mir_ev hv) hi).1 b, evn_rev hi _ _ _⟩
  · rintro ⟨r, a, n, b, rfl⟩
    exact ⟨r, (tr_rev (mir_ev hv)).2 a, n, (one_rev (mir_ev hv) hi).2 b, (evn_rev hi _ _ _).symm⟩
theorem rainS_rev (h0 : toldL h ≠ []) {d : Nat} (hd : d < h.rains.length) : rainS (revH h) d = rainS h d := by
  refine Hull.uniq (p := RainP h d) ((rainS_hull (VH_rev hv) (fun hh => h0 ((told_rev hv).1 hh)) hd).iff fun v => ?_) (rainS_hull hv h0 hd)
  unfold RainP
  constructor
  · rintro ⟨r, a, b⟩
    exact ⟨r, (tr_rev (mir_ev hv)).1 a, b⟩
  · rintro ⟨r, a, b⟩
    exact ⟨r, (tr_rev (mir_ev hv)).2 a, b⟩
omit hv in
theorem rev_len : (revH h).heaps.length = h.heaps.length ∧ (revH h).looks.length = h.looks.length := ⟨by show h.heaps.reverse.length = _; simp, by show (h.looks.reverse.map _).length = _; simp⟩
theorem rev_false : (FalseV (revH h)).1 = (FalseV h).1 ∧ FalseE (revH h) = FalseE h := by
  have hq := VH_rev hv
  have h2 := (rev_len (h := h)).2
  obtain ⟨f1, x, e1, hx, hsx, hminx⟩ := false_least hv
  obtain ⟨f2, y, e2, hy, hsy, hminy⟩ := false_least hq
  rw [h2] at hy hminy
  refine ⟨?_, by rw [f1, f2]⟩
  have hn := hv.nl
  have hev : evL (revH h) = evL h := by unfold evL; rw [h2]
  have mir : ∀ x, x < 2 ^ h.looks.length → Mir h (evL h - x) (evL h - revS h.looks.length x) := by
    intro x hx j hj
    have hr := revS_ok h.looks.length (by omega)
    have hc := (hr x hx).2.2.1
    unfold evL
    rw [← hc]
    have hx' : 2 ^ h.looks.length - 1 - x < 2 ^ h.looks.length := by have := Nat.two_pow_pos h.looks.length; omega
    exact (hr _ hx').2.2.2.1 j hj
  have hr := revS_ok h.looks.length (by omega)
  have a := (hr x hx).1
  have b := (hr x hx).2.1
  have a' := (hr y hy).1
  have b' := (hr y hy).2.1
  have e' := (hr y hy).2.2.2.2
  clear hr
  rw [hev] at hsy hminy
  have q1 := hminy _ a (by rw [some_rev hv (mir x hx)]; exact hsx)
  have q2 := hminx _ a' (by
    have := some_rev hv (mir _ a')
    rw [e'] at this
    rw [← this]; exact hsy)
  rw [e1, e2]
  rw [b] at q1
  rw [b'] at q2
  show (pc y : Int) = pc x
  rw [Nat.le_antisymm q1 q2]
theorem rev_wet {i d : Nat} (hi : i < h.heaps.length) (hd : d < h.rains.length) : WetV (revH h) (h.heaps.length - 1 - i : Nat) d = WetV h i d ∧ errE (revH h) (WetOk (revH h) (h.heaps.length - 1 - i : Nat) d) = errE h (WetOk h i d) := by
  have hi' : h.heaps.length - 1 - i < (revH h).heaps.length := by rw [(rev_len (h := h)).1]; omega
  have hd' : d < (revH h).rains.length := hd
  have bq := vB_of' (VH_rev hv)
  have bh := vB_of' hv
  by_cases h0 : toldL h = []
  · have e1 := wet_clash bq ((told_rev hv).2 h0) hi' hd'
    have e2 := wet_clash bh h0 hi hd
    exact ⟨by rw [e1.1, e2.1], by rw [e1.2, e2.2]⟩
  · have e1 := wet_ok bq (fun hh => h0 ((told_rev hv).1 hh)) hi' hd'
    have e2 := wet_ok bh h0 hi hd
    exact ⟨by rw [e1.1, e2.1, wetS_rev hv h0 hi hd], by rw [e1.2, e2.2]⟩
theorem rev_rain {d : Nat} (hd : d < h.rains.length) : RainV (revH h) d = RainV h d ∧ errE (revH h) (DayOk (revH h) d) = errE h (DayOk h d) := by
  have hd' : d < (revH h).rains.length := hd
  have bq := vB_of' (VH_rev hv)
  have bh := vB_of' hv
  by_cases h0 : toldL h = []
  · have e1 := rain_clash bq ((told_rev hv).2 h0) hd'
    have e2 := rain_clash bh h0 hd
    exact ⟨by rw [e1.1, e2.1], by rw [e1.2, e2.2]⟩
  · have e1 := rain_ok bq (fun hh => h0 ((told_rev hv).1 hh)) hd'
    have e2 := rain_ok bh h0 hd
    exact ⟨by rw [e1.1, e2.1, rainS_rev hv h0 hd], by rw [e1.2, e2.2]⟩
theorem idx_rev (h0 : toldL h ≠ []) {i : Nat} (hi : i < h.heaps.length) : ∀ n, n ≤ h.rains.length → idxF (dr (revH h) (h.heaps.length - 1 - i)) n = idxF (dr h i) n
  | 0, _ => by rw [idxF_zero, idxF_zero]
  | n + 1, hn => by
    rw [idxF_succ, idxF_succ, idx_rev h0 hi n (by omega)]
    have : dr (revH h) (h.heaps.length - 1 - i) n = dr h i n := by
      have hl : (revH h).limit = h.limit := rfl
      unfold dr
      rw [wetS_rev hv h0 hi (by omega), hl]
    rw [this]
theorem rev_when {i : Nat} (hi : i < h.heaps.length) : WhenV (revH h) (h.heaps.length - 1 - i : Nat) = WhenV h i ∧ WhenE (revH h) (h.heaps.length - 1 - i : Nat) = WhenE h i := by
  have hi' : h.heaps.length - 1 - i < (revH h).heaps.length := by rw [(rev_len (h := h)).1]; omega
  have bq := vB_of' (VH_rev hv)
  have bh := vB_of' hv
  by_cases h0 : toldL h = []
  · have e1 := when_clash bq ((told_rev hv).2 h0) hi'
    have e2 := when_clash bh h0 hi
    exact ⟨by rw [e1.2, e2.2], by rw [e1.1, e2.1]⟩
  · have e1 := when_ok (VH_rev hv) bq (fun hh => h0 ((told_rev hv).1 hh)) hi'
    have e2 := when_ok hv bh h0 hi
    have e3 : idxF (dr (revH h) (h.heaps.length - 1 - i)) (revH h).rains.length = idxF (dr h i) h.rains.length := idx_rev hv h0 hi _ (Nat.le_refl _)
    rw [e3] at e1
    rcases e1 with ⟨a, b, c⟩ | ⟨a, b, c⟩ <;> rcases e2 with ⟨a2, b2, c2⟩ | ⟨a2, b2, c2⟩
    · exact ⟨by rw [b, b2], by rw [a, a2]⟩
    · omega
    · omega
    · exact ⟨by rw [b, b2], by rw [a, a2]⟩
/-! ## A greater limit -/
def limH (h : Hv) (x : Int) : Hv := { h with limit := x }
theorem VH_lim {x : Int} (hx : h.limit ≤ x ∧ x ≤ 100) : VH (limH h x) := ⟨hv.nh, hv.nr, ⟨by have := hv.lim; show 0 ≤ x; omega, hx.2⟩, hv.nl, hv.tf, hv.rn, hv.dr, hv.lk⟩
theorem told_lim {x : Int} (hx : h.limit ≤ x ∧ x ≤ 100) : toldL (limH h x) = [] ↔ toldL h = [] := by
  rw [toldL_nil hv, toldL_nil (VH_lim hv hx)]
  exact Iff.rfl
theorem wetS_lim {x : Int} (hx : h.limit ≤ x ∧ x ≤ 100) (h0 : toldL h ≠ []) {i d : Nat} (hi : i < h.heaps.length) (hd : d < h.rains.length) : wetS (limH h x) i d = wetS h i d :=
  Hull.uniq (p := WetP h i d) ((wetS_hull (VH_lim hv hx) (fun hh => h0 ((told_lim hv hx).1 hh)) (i := i) (d := d) hi hd).iff fun _ => Iff.rfl) (wetS_hull hv h0 hi hd)
theorem lim_ok {x : Int} (hx : h.limit ≤ x ∧ x ≤ 100) {i : Nat} (hi : i < h.heaps.length) : WhenE h i = 0 → WhenE (limH h x) i = 0 ∧ WhenV (limH h x) i ≤ WhenV h i := by
  have hq := VH_lim hv hx
  intro hw
  by_cases h0 : toldL h = []
  · rw [(when_clash (vB_of' hv) h0 hi).1] at hw; cases hw
  · have h0' : toldL (limH h x) ≠ [] := fun hh => h0 ((told_lim hv hx).1 hh)
    rcases when_ok hv (vB_of' hv) h0 hi with ⟨a, b, c⟩ | ⟨a, _, _⟩
    · have h5 := idxF_le (p := dr h i) (q := dr (limH h x) i) h.rains.length (fun d hd hdr => by
        unfold dr at hdr ⊢
        have h2 := of_decide_eq_true hdr
        rw [wetS_lim hv hx h0 hi hd]
        exact decide_eq_true (by show _ ≤ x; omega)) c
      have hr : (limH h x).rains.length = h.rains.length := rfl
      rcases when_ok hq (vB_of' hq) h0' (i := i) hi with ⟨a', b', c'⟩ | ⟨_, _, c'⟩
      · rw [hr] at b'
        exact ⟨a', by rw [b, b']; exact h5.2⟩
      · rw [hr] at c'
        omega
    · rw [a] at hw; cases hw
end
end Go.Proofs.Ytlpahkmfjpjheaa
end

section
namespace Go.Proofs.Ytlpahkmfjpjheaa
open Go.RowKit
/-- One slice that grew, wherever it stands. -/
inductive PickS (E : TypeId) (sz k : Nat) (xs : List Value) (s : Option (Nat × Nat)) : Hp → Hp → Prop
  | here {L : Hp} : PickS E sz k xs s (svH E sz k xs s L) L
  | there {y : Nat × (Obj → Prop)} {L L' : Hp} (h : PickS E sz k xs s L L') : PickS E sz k xs s (y :: L) (y :: L')
  | sv {E2 : TypeId} {sz2 k2 : Nat} {xs2 : List Value} {s2 : Option (Nat × Nat)} {L L' : Hp} (h : PickS E sz k xs s L L') : PickS E sz k xs s (svH E2 sz2 k2 xs2 s2 L) (svH E2 sz2 k2 xs2 s2 L')
  | app {X L L' : Hp} (h : PickS E sz k xs s L L') : PickS E sz k xs s (X ++ L) (X ++ L')
theorem svH_swap2 {E E2 : TypeId} {sz k sz2 k2 : Nat} {xs xs2 : List Value} {s s2 : Option (Nat × Nat)} {L : Hp} : (svH E sz k xs s (svH E2 sz2 k2 xs2 s2 L)).Perm (svH E2 sz2 k2 xs2 s2 (svH E sz k xs s L)) := by
  cases s with
  | none => exact .refl _
  | some p => cases s2 with
    | none => exact .refl _
    | some q => exact .swap _ _ _
theorem PickS.perm {E : TypeId} {sz k : Nat} {xs : List Value} {s : Option (Nat × Nat)} {L L' : Hp} (h : PickS E sz k xs s L L') : L.Perm (svH E sz k xs s L') := by
  induction h with
  | here => exact .refl _
  | @there y L L' h ih =>
    refine (ih.cons y).trans ?_
    cases s with
    | none => exact .refl _
    | some p => exact .swap _ _ _
  | sv h ih => exact (svH_perm ih).trans svH_swap2
  | @app X L L' h ih => exact (ih.append_left X).trans svH_mid
theorem Sub.pickS {E : TypeId} {sz k : Nat} {xs : List Value} {s : Option (Nat × Nat)} {B L L' : Hp} (h : PickS E sz k xs s L L') (q : Sub B L') : Sub (svH E sz k xs s B) L := by
  obtain ⟨L0, q⟩ := q
  exact ⟨L0, h.perm.trans ((svH_perm q).trans (by rw [svH_app]))⟩
section
variable {P : Program} {r : Option Nat} {n N : Nat} {w0 : World} {ops : Array Oper} {Q : Post} {ds : List Deferred} {e : Env} {L B : Hp} {fl T : List Nat} {k2 n0 fuel : Nat}
theorem ZC5 (D : List Nat) (i : Nat) (D1 : List Nat) (j : Nat) (D2 : List Nat) (k : Nat) (D3 : List Nat) (m : Nat) (D4 : List Nat) (m5 : Nat) (D5 : List Nat) {o1 o2 o3 o4 o5 : Oper} (h1 : OPS P r n N w0 ops [o1] (QC ds fl Q (AnyC P r n N w0 ops Q ds fl B T k2 fuel (doneOf n0 D1))) e ds L) (h2 : OPS P r n N w0 ops [o2] (QC ds fl Q (AnyC P r n N w0 ops Q ds fl B T k2 fuel (doneOf n0 D2))) e ds L) (h3 : OPS P r n N w0 ops [o3] (QC ds fl Q (AnyC P r n N w0 ops Q ds fl B T k2 fuel (doneOf n0 D3))) e ds L) (h4 : OPS P r n N w0 ops [o4] (QC ds fl Q (AnyC P r n N w0 ops Q ds fl B T k2 fuel (doneOf n0 D4))) e ds L) (h5 : OPS P r n N w0 ops [o5] (QC ds fl Q (AnyC P r n N w0 ops Q ds fl B T k2 fuel (doneOf n0 D5))) e ds L) (hs : Sub B L := by repeat (first | exact Sub.refl _ | apply Sub.keep | apply Sub.appK | apply Sub.sv | apply Sub.cons | apply Sub.app)) (hr : Region.ready .any ops (doneOf n0 D) = [i, j, k, m, m5] := by kernel_rfl) (e1 : (doneOf n0 D).setIfInBounds i true = doneOf n0 D1 := by kernel_rfl) (e2 : (doneOf n0 D).setIfInBounds j true = doneOf n0 D2 := by kernel_rfl) (e3 : (doneOf n0 D).setIfInBounds k true = doneOf n0 D3 := by kernel_rfl) (e4 : (doneOf n0 D).setIfInBounds m true = doneOf n0 D4 := by kernel_rfl) (e5 : (doneOf n0 D).setIfInBounds m5 true = doneOf n0 D5 := by kernel_rfl) (p1 : ops[i]? = some o1 := by rfl) (p2 : ops[j]? = some o2 := by rfl) (p3 : ops[k]? = some o3 := by rfl) (p4 : ops[m]? = some o4 := by rfl) (p5 : ops[m5]? = some o5 := by rfl) : AnyC P r n N w0 ops Q ds fl B T k2 (fuel + 1) (doneOf n0 D) e L := by
  refine ⟨hs, by rw [hr]; simp, fun q hq => ?_⟩
  rw [hr] at hq
  rcases List.mem_cons.1 hq with rfl | hq
  · exact ⟨o1, p1, by rw [e1]; exact h1⟩
  · skip
    rcases List.mem_cons.1 hq with rfl | hq
    · exact ⟨o2, p2, by rw [e2]; exact h2⟩
    · skip
      rcases List.mem_cons.1 hq with rfl | hq
      · exact ⟨o3, p3, by rw [e3]; exact h3⟩
      · skip
        rcases List.mem_cons.1 hq with rfl | hq
        · exact ⟨o4, p4, by rw [e4]; exact h4⟩
        · skip
          rcases List.mem_cons.1 hq with rfl | hq
          · exact ⟨o5, p5, by rw [e5]; exact h5⟩
          · cases hq
/-- What is known of the tmps, alone. -/
theorem WP_gen {c : Code} (ws : List Nat) (sl : List (Nat × Value)) (hs : Slots e sl) (h : ∀ e1, WP P r n N w0 c Q (frame ws e1 sl e1) ds L) : WP P r n N w0 c Q e ds L := by
  have hf : e = frame ws e sl e := frame_intro hs.look (Off.refl _ _)
  rw [hf]
  exact h e
theorem AnyC_cutJ {σ : Type} {k : Nat} {D0 : List Nat} (D : List Nat) (ws : List Nat) (sl : σ → List (Nat × Value)) (Lp : σ → Hp) (J : σ → Prop) (h2 : ∀ s j, J s → AnyC P r n N w0 ops Q ds fl B T k2 (k + 1) (doneOf n0 D) (frame ws e (sl s) j) (Lp s))
    (h1 : (∀ s e' L', Slots e' (sl s) → Off ws e' e → Sub (Lp s) L' → J s → AnyC P r n N w0 ops Q ds fl B T k2 (k + 1) (doneOf n0 D) e' L') → AnyC P r n N w0 ops Q ds fl B T k2 fuel (doneOf n0 D0) e L) : AnyC P r n N w0 ops Q ds fl B T k2 fuel (doneOf n0 D0) e L := by
  refine h1 fun s e' L' hs ho hS hJ => ?_
  have hf : e' = frame ws e (sl s) e' := frame_intro hs.look ho
  obtain ⟨a, b, c⟩ := h2 s e' hJ
  rw [← hf] at c
  obtain ⟨L0, hp⟩ := hS
  have hS2 : Sub B L' := by
    obtain ⟨L1, hp1⟩ := a
    exact ⟨L1 ++ L0, hp.trans ((hp1.append_right L0).trans (by rw [List.append_assoc]))⟩
  refine ⟨hS2, b, fun i hi => ?_⟩
  obtain ⟨o, ho, h3⟩ := c i hi
  exact ⟨o, ho, fun a w hs he hd hI => h3 a w hs he hd ((hI.perm (hp.trans List.perm_append_comm)).wk (.app L0 _))⟩
theorem AnyC_cut0 {σ : Type} {D0 : List Nat} (D : List Nat) (ws : List Nat) (sl : σ → List (Nat × Value)) (Lp : σ → Hp) (J : σ → Prop) (h2 : ∀ s j, J s → AnyC P r n N w0 ops Q ds fl B T k2 0 (doneOf n0 D) (frame ws e (sl s) j) (Lp s))
    (h1 : (∀ s e' L', Slots e' (sl s) → Off ws e' e → Sub (Lp s) L' → J s → AnyC P r n N w0 ops Q ds fl B T k2 0 (doneOf n0 D) e' L') → AnyC P r n N w0 ops Q ds fl B T k2 fuel (doneOf n0 D0) e L) : AnyC P r n N w0 ops Q ds fl B T k2 fuel (doneOf n0 D0) e L := by
  refine h1 fun s e' L' hs ho hS hJ => ?_
  have hf : e' = frame ws e (sl s) e' := frame_intro hs.look ho
  obtain ⟨a, b, L2, hp2, c⟩ := h2 s e' hJ
  rw [← hf] at c
  obtain ⟨L0, hp⟩ := hS
  have hS2 : Sub B L' := by
    obtain ⟨L1, hp1⟩ := a
    exact ⟨L1 ++ L0, hp.trans ((hp1.append_right L0).trans (by rw [List.append_assoc]))⟩
  exact ⟨hS2, b, L', .refl _, fun a w hs he hd hI => c a w hs he hd (((hI.perm (hp.trans List.perm_append_comm)).wk (.app L0 _)).perm hp2)⟩
/-- A state that many orders reach, known by what its slots are. -/
theorem AnyC_cut {σ : Type} {k : Nat} {D0 : List Nat} (D : List Nat) (ws : List Nat) (sl : σ → List (Nat × Value)) (Lp : σ → Hp) (h2 : ∀ s j, AnyC P r n N w0 ops Q ds fl B T k2 (k + 1) (doneOf n0 D) (frame ws e (sl s) j) (Lp s))
    (h1 : (∀ s e' L', Slots e' (sl s) → Off ws e' e → Sub (Lp s) L' → AnyC P r n N w0 ops Q ds fl B T k2 (k + 1) (doneOf n0 D) e' L') → AnyC P r n N w0 ops Q ds fl B T k2 fuel (doneOf n0 D0) e L) : AnyC P r n N w0 ops Q ds fl B T k2 fuel (doneOf n0 D0) e L := by
  refine h1 fun s e' L' hs ho hS => ?_
  have hf : e' = frame ws e (sl s) e' := frame_intro hs.look ho
  obtain ⟨a, b, c⟩ := h2 s e'
  rw [← hf] at c
  obtain ⟨L0, hp⟩ := hS
  have hS2 : Sub B L' := by
    obtain ⟨L1, hp1⟩ := a
    exact ⟨L1 ++ L0, hp.trans ((hp1.append_right L0).trans (by rw [List.append_assoc]))⟩
  refine ⟨hS2, b, fun i hi => ?_⟩
  obtain ⟨o, ho, h3⟩ := c i hi
  exact ⟨o, ho, fun a w hs he hd hI => h3 a w hs he hd ((hI.perm (hp.trans List.perm_append_comm)).wk (.app L0 _))⟩
end
theorem nar_rain {h : Hv} {d : Nat} (hd : d < h.rains.length) {q s : Sp} (hs : h.rains[d] = s) (h1 : s.1 ≤ q.1) (h2 : q.2 ≤ s.2) : Nar { h with rains := h.rains.set d q, looks := h.looks } h := by
  refine ⟨rfl, rfl, rfl, rfl, rfl, by simp, fun k t ht => ?_, rfl, fun j l hl => ⟨l, hl, rfl, rfl, Int.le_refl _, Int.le_refl _⟩⟩
  by_cases hk : k = d
  · subst hk
    have ht' : (h.rains.set k q)[k]? = some t := ht
    rw [List.getElem?_set_self hd] at ht'
    simp only [Option.some.injEq] at ht'
    subst ht'
    exact ⟨s, by rw [List.getElem?_eq_getElem hd, hs], h1, h2⟩
  · have ht' : (h.rains.set d q)[k]? = some t := ht
    rw [List.getElem?_set_ne (fun hh => hk hh.symm)] at ht'
    exact ⟨t, ht', Int.le_refl _, Int.le_refl _⟩
theorem nar_look {h : Hv} {j : Nat} (hj : j < h.looks.length) {q s : Lk} (hs : h.looks[j] = s) (e1 : q.heap = s.heap) (e2 : q.day = s.day) (h1 : s.lo ≤ q.lo) (h2 : q.hi ≤ s.hi) : Nar { h with rains := h.rains, looks := h.looks.set j q } h := by
  refine ⟨rfl, rfl, rfl, rfl, rfl, rfl, fun k t ht => ⟨t, ht, Int.le_refl _, Int.le_refl _⟩, by simp, fun k l hl => ?_⟩
  by_cases hk : k = j
  · subst hk
    rw [List.getElem?_eq_getElem hj, hs] at hl
    simp only [Option.some.injEq] at hl
    subst hl
    exact ⟨q, List.getElem?_set_self hj, e1, e2, h1, h2⟩
  · exact ⟨l, by show (h.looks.set j q)[k]? = _; rw [List.getElem?_set_ne (fun hh => hk hh.symm)]; exact hl, rfl, rfl, Int.le_refl _, Int.le_refl _⟩
theorem inK3 {a b c : Int} (ha : -1000000 ≤ a ∧ a ≤ 1000000) (hb : -1000000 ≤ b ∧ b ≤ 1000000) (hc : -1000000 ≤ c ∧ c ≤ 1000000) : inKs [.i64, .i64, .i64] [a, b, c] := by
  refine ⟨rfl, ?_⟩
  intro p hp
  simp only [List.zip_cons_cons, List.zip_nil_right, List.mem_cons, List.not_mem_nil, or_false] at hp
  rcases hp with rfl | rfl | rfl <;> (simp [Lit.wf, IntKind.min, IntKind.max, IntKind.bits, IntKind.signed]; omega)
theorem inK4 {a b c d : Int} (ha : -1000000 ≤ a ∧ a ≤ 1000000) (hb : -1000000 ≤ b ∧ b ≤ 1000000) (hc : -1000000 ≤ c ∧ c ≤ 1000000) (hd : -1000000 ≤ d ∧ d ≤ 1000000) : inKs [.i64, .i64, .i64, .i64] [a, b, c, d] := by
  refine ⟨rfl, ?_⟩
  intro p hp
  simp only [List.zip_cons_cons, List.zip_nil_right, List.mem_cons, List.not_mem_nil, or_false] at hp
  rcases hp with rfl | rfl | rfl | rfl <;> (simp [Lit.wf, IntKind.min, IntKind.max, IntKind.bits, IntKind.signed]; omega)
theorem WetV_bd {h : Hv} (hv : VH h) {i d : Nat} (hi : i < h.heaps.length) (hd : d < h.rains.length) : P1000 (WetV h i d).1 ∧ P1000 (WetV h i d).2 := by
  by_cases h0 : toldL h = []
  · rw [(wet_clash (vB_of' hv) h0 hi hd).1]; unfold P1000; dsimp only; omega
  · rw [(wet_ok (vB_of' hv) h0 hi hd).1]; exact wetS_sm hv _ _
theorem RainV_bd {h : Hv} (hv : VH h) {d : Nat} (hd : d < h.rains.length) : P1000 (RainV h d).1 ∧ P1000 (RainV h d).2 := by
  by_cases h0 : toldL h = []
  · rw [(rain_clash (vB_of' hv) h0 hd).1]; unfold P1000; dsimp only; omega
  · rw [(rain_ok (vB_of' hv) h0 hd).1]
    have hH := rainS_hull hv h0 hd
    have key : ∀ v, RainP h d v → P1000 v := by
      rintro v ⟨r, hr, hrk⟩
      have h3 := hr.1.2 d _ _ (List.getElem?_eq_getElem hd) hrk
      have h4 := hv.rn _ (List.getElem_mem hd)
      unfold P1000; omega
    exact ⟨key _ hH.1, key _ hH.2.1⟩
theorem errE_in {h : Hv} (hv : VH h) {i d : Nat} (hi : i < h.heaps.length) (hd : d < h.rains.length) : errE h (DayOk h d) = errE h (WetOk h i d) ∧ (errE h (WetOk h i d) = 0 ∨ errE h (WetOk h i d) = 10) := by
  rw [WetOk_in hi hd, DayOk_in hd]
  refine ⟨rfl, ?_⟩
  by_cases h0 : toldL h = []
  · exact .inr (errE_clash (vB_of' hv) h0)
  · exact .inl (errE_ok (vB_of' hv) h0)
/-- The rows of a slice that grew, cell by cell. -/
theorem sv_rows {E : TypeId} {sz k : Nat} {xs : List Value} {s : Option (Nat × Nat)} {rows : List (List Value)} (hs : svOk s sz k xs) (hx : rows.flatten = xs) (hr : ∀ r ∈ rows, r.length = sz) : ∃ A c, svV s k = .slice A k c ∧ ∀ (i : Nat) (r : List Value), rows[i]? = some r → 0 < sz → ∃ b, A = some ⟨b, 0, none⟩ ∧ ∀ (j : Nat) (v : Value), r[j]? = some v → RdX (svH E sz k xs s []) b (0 + i * sz + j) v := by
  obtain ⟨A, c, h1, h2⟩ := sv_slice (E := E) hs
  refine ⟨A, c, h1, fun i r hi hz => ?_⟩
  obtain ⟨hil, hig⟩ := List.getElem?_eq_some_iff.1 hi
  have hrl : r.length = sz := hr r (by rw [← hig]; exact List.getElem_mem hil)
  have hj : ∀ (j : Nat) (v : Value), r[j]? = some v → xs[i * sz + j]? = some v := by
    intro j v hj
    have hj2 : j < sz := by rw [← hrl]; exact (List.getElem?_eq_some_iff.1 hj).1
    rw [← hx, flat_get rows i j hil hr hj2, hig]; exact hj
  cases s with
  | none =>
    exfalso
    have h3 := hj 0 _ (List.getElem?_eq_getElem (by omega))
    have := hs.2 rfl
    have h4 : xs.length = 0 := by rw [hs.1, this]; omega
    have := (List.getElem?_eq_some_iff.1 h3).1
    omega
  | some p =>
    obtain ⟨b, cap⟩ := p
    simp only [svV, Value.slice.injEq] at h1
    refine ⟨b, h1.1.symm, fun j v hjv N w0 w hI => ?_⟩
    obtain ⟨b', hb, _, hc⟩ := h2 hI _ _ (hj j v hjv)
    rw [← h1.1] at hb
    simp only [Option.some.injEq, Addr.mk.injEq, and_true] at hb
    rw [hb, Nat.zero_add]; exact hc
theorem rdA {N : Nat} {w0 : World} {X Y L : Hp} {z : Nat × (Obj → Prop)} {b o : Nat} {v : Value} (h : RdX X b o v) : Rd N w0 (Y ++ (z :: (X ++ L))) b o v := RdX.rd (h.sub (Sub.app _ (Sub.cons Sub.left)))
theorem rdB {N : Nat} {w0 : World} {X L : Hp} {z : Nat × (Obj → Prop)} {b o : Nat} {v : Value} (h : RdX X b o v) : Rd N w0 (z :: (X ++ L)) b o v := RdX.rd (h.sub (Sub.cons Sub.left))
theorem Val_neq3 {P : Program} {N : Nat} {w0 : World} {L : Hp} {e : Env} {dd : Option Nat} {ty : TypeId} {pos : String} {af : Array Edge} {g : Option (Nat × Bool)} {x y : Operand} {t t' : TypeId} [hk : KeyTy P t [.i64, .i64, .i64]] {a b c : Int} (hx : ev e x = .agg [.int .i64 a, .int .i64 b, .int .i64 c].toArray) (hy : ev e y = .agg [.int .i64 a, .int .i64 b, .int .i64 c].toArray) (h : inKs [.i64, .i64, .i64] [a, b, c]) : Val P N w0 L e ⟨dd, .binOp .neq t x y t', ty, pos, af, g⟩ (.bool false) := Val_neqIF (ks := [.i64, .i64, .i64]) (a := [a, b, c]) (b := [a, b, c]) hx hy rfl h h
theorem Val_neq4 {P : Program} {N : Nat} {w0 : World} {L : Hp} {e : Env} {dd : Option Nat} {ty : TypeId} {pos : String} {af : Array Edge} {g : Option (Nat × Bool)} {x y : Operand} {t t' : TypeId} [hk : KeyTy P t [.i64, .i64, .i64, .i64]] {a b c d : Int} (hx : ev e x = .agg [.int .i64 a, .int .i64 b, .int .i64 c, .int .i64 d].toArray) (hy : ev e y = .agg [.int .i64 a, .int .i64 b, .int .i64 c, .int .i64 d].toArray) (h : inKs [.i64, .i64, .i64, .i64] [a, b, c, d]) : Val P N w0 L e ⟨dd, .binOp .neq t x y t', ty, pos, af, g⟩ (.bool false) := Val_neqIF (ks := [.i64, .i64, .i64, .i64]) (a := [a, b, c, d]) (b := [a, b, c, d]) hx hy rfl h h
theorem Wk.noneL : ∀ L : Hp, Wk L []
  | [] => .refl _
  | _ :: L => .drop (Wk.noneL L)
theorem Wk.appRt (X L : Hp) : Wk (X ++ L) X := by
  induction X with
  | nil => exact Wk.noneL L
  | cons x X ih => exact .keep1 ih
theorem svV_some (b c k : Nat) : svV (some (b, c)) k = .slice (some ⟨b, 0, none⟩) k c := rfl
theorem svH_some (E : TypeId) (sz k : Nat) (xs : List Value) (b c : Nat) (L : Hp) : svH E sz k xs (some (b, c)) L = (b, Row E sz k c xs) :: L := rfl
theorem set_flat {sz : Nat} : ∀ (rows : List (List Value)) (i : Nat) (hi : i < rows.length), (∀ r ∈ rows, r.length = sz) → ∀ (j : Nat), j < sz → ∀ v : Value, setL rows.flatten (i * sz + j) [v] = (rows.set i (rows[i].set j v)).flatten
  | [], i, hi, _, _, _, _ => absurd hi (Nat.not_lt_zero _)
  | r :: rows, 0, _, hr, j, hj, v => by
    have h1 := hr r (.head _)
    simp only [setL, Nat.zero_mul, Nat.zero_add, List.flatten_cons, List.set_cons_zero, List.getElem_cons_zero]
    rw [List.set_append_left _ _ (by omega)]
  | r :: rows, i + 1, hi, hr, j, hj, v => by
    have h1 := hr r (.head _)
    have ih := set_flat rows i (by simpa using hi) (fun x hx => hr x (.tail _ hx)) j hj v
    simp only [setL, List.flatten_cons, List.set_cons_succ, List.getElem_cons_succ] at ih ⊢
    rw [List.set_append_right _ _ (by rw [Nat.succ_mul]; omega), h1, show (i + 1) * sz + j - sz = i * sz + j by rw [Nat.succ_mul]; omega, ih]
/-- A cell of a row that grew. -/
theorem rd_row {N : Nat} {w0 : World} {L : Hp} {E : TypeId} {sz k cap b o : Nat} {xs : List Value} {v : Value} (hm : Mem b (Row E sz k cap xs) L) (hv : xs[o]? = some v) : Rd N w0 L b (0 + o) v := by
  intro w hI
  obtain ⟨ob, hob, cur, rfl, hc1, hc2, hc3, hc4⟩ := hI.obj' hm
  rw [Nat.zero_add, cell_of_row w b _ cur E (0, 0) hob]
  rw [← hc4, List.getElem?_take] at hv
  split at hv
  · simpa using hv
  · cases hv
theorem Val_remU {P : Program} {N : Nat} {w0 : World} {L : Hp} {e : Env} {d : Option Nat} {ty : TypeId} {pos : String} {af : Array Edge} {g : Option (Nat × Bool)} {x y : Operand} {t t' : TypeId} {a b c : Nat} (hc : a % b = c) (hb : 0 < b) (hx : ev e x = .int .u8 (a : Int)) (hy : ev e y = .int .u8 (b : Int)) : Val P N w0 L e ⟨d, .binOp .rem t x y t', ty, pos, af, g⟩ (.int .u8 (c : Int)) := by
  have := Val_rem (P := P) (N := N) (w0 := w0) (L := L) (d := d) (ty := ty) (pos := pos) (af := af) (g := g) (t := t) (t' := t') hx hy (by omega)
  have e : ((a : Int).tmod b) = (c : Int) := by rw [Int.tmod_eq_emod_of_nonneg (by omega), ← hc]; omega
  rwa [e] at this
attribute [local irreducible] AnyO AnyB QAny QB EWalk AWalk Ev WP OPS QThen QBlock QScope QLoop QBody Val New Turn Tri Enters PostA Blk Ro
attribute [local irreducible] AnyC QC
section
variable (N : Nat) (w0 : World)
set_option maxRecDepth 100000 in
set_option maxHeartbeats 4000000 in
theorem more_law0 (L : Hp) (g : Bg) (hA : HeapAt N w0 g) (l : Lk) (wh at_ what : Nat) (h0 : longB g.h = true ∨ vB g.h = false) : Ret Try.prog N w0 L 11 [heapV g, .agg (lkL l).toArray, .int .u8 (wh : Int), .int .u8 (at_ : Int), .int .u8 (what : Int)].toArray (.bool true) := by
  refine Ret.fgt ?_
  refine tri_of_WP Try.func11 rfl (n := 494) rfl (by simp) ?_
  have h34 := fun L => long_ret N w0 L g
  have h13 := fun L => alive_ret N w0 L
  unfold lkL
  cases hlong : longB g.h with
  | true =>
    rw [hlong] at h34
    unfold heapV hvL at h34 ⊢
    repeat' (first | (refine GiP ?_; first | (refine Znh ?_) | (with_reducible refine Znl ?_) | (refine Zatd 64 ?_; (first | (refine Zv Zxpt ?_) | (refine Zv Zxpf ?_))) | (refine Zatd 61 ?_; refine Zv Zla ?_) | (refine Zatd 63 ?_; refine Zv Zxnot ?_) | (refine Zsk ?_) | (refine Zsp (fun hc => ?_) (fun hc => ?_) <;> (try (exfalso; omega)))) | (refine GiW ?_; first | (refine Zsq fun K hK => ?_) | (refine ZrN 0 fun _ => ?_; refine Zal 5 fun b5 => ?_; refine Zal 6 fun b6 => ?_; refine Zv Zab ?_) | (refine ZrG 1 ?_; refine Zv Zla ?_; refine Zcl (Enters_fn rfl) (h34 _) ?_; refine Zv Zmb ?_) | (refine ZrN 2 fun _ => ?_; refine Zcl (Enters_fn rfl) (h13 _) ?_; refine Zv Zab ?_) | (refine WP_cond_true rfl ?_) | (refine WP_cond_false rfl ?_) | (refine Zcd (fun hc => ?_) (fun hc => ?_) <;> (try (exfalso; omega))) | (with_reducible apply WP_skip) | (with_reducible apply WP_block) | (with_reducible apply WP_exit) | (with_reducible apply WP_ret)) | (refine Zhn ?_) | (with_reducible apply QBlock_normal) | (refine Zhx ?_) | (with_reducible apply QBlock_hit) | (refine Zqb ?_) | (with_reducible apply QLoop_exit) | (refine Zhr ?_) | (with_reducible apply QBlock_ret) | (with_reducible apply QLoop_ret))
    exact QBody_ret1 rfl (rfl : _ = Value.bool _) ⟨rfl, (by repeat (first | exact Wk.refl _ | apply Wk.keep1 | apply Wk.drop | apply Wk.sv | apply Wk.svD | apply Wk.appD))⟩
  | false =>
    obtain ⟨l1, l2, l3⟩ := longB_ok hlong
    have h35 := fun L => Heaps_ret N w0 L g hA (by omega) (by omega) (by omega)
    have hvb : vB g.h = false := by rcases h0 with h0 | h0; rw [hlong] at h0; cases h0; exact h0
    rw [hlong] at h34
    rw [hvb] at h35
    unfold heapV hvL at h34 h35 ⊢
    repeat' (first | (refine GiP ?_; first | (refine Znh ?_) | (with_reducible refine Znl ?_) | (refine Zatd 64 ?_; (first | (refine Zv Zxpt ?_) | (refine Zv Zxpf ?_))) | (refine Zatd 61 ?_; refine Zv Zla ?_) | (refine Zatd 62 ?_; refine Zcl (Enters_fn rfl) (h35 _) ?_) | (refine Zatd 63 ?_; refine Zv Zxnot ?_) | (refine Zsk ?_) | (refine Zsp (fun hc => ?_) (fun hc => ?_) <;> (try (exfalso; omega)))) | (refine GiW ?_; first | (refine Zsq fun K hK => ?_) | (refine ZrN 0 fun _ => ?_; refine Zal 5 fun b5 => ?_; refine Zal 6 fun b6 => ?_; refine Zv Zab ?_) | (refine ZrG 1 ?_; refine Zv Zla ?_; refine Zcl (Enters_fn rfl) (h34 _) ?_; refine Zv Zmb ?_) | (refine ZrN 2 fun _ => ?_; refine Zcl (Enters_fn rfl) (h13 _) ?_; refine Zv Zab ?_) | (refine WP_cond_true rfl ?_) | (refine WP_cond_false rfl ?_) | (refine Zcd (fun hc => ?_) (fun hc => ?_) <;> (try (exfalso; omega))) | (with_reducible apply WP_skip) | (with_reducible apply WP_block) | (with_reducible apply WP_exit) | (with_reducible apply WP_ret)) | (refine Zhn ?_) | (with_reducible apply QBlock_normal) | (refine Zhx ?_) | (with_reducible apply QBlock_hit) | (refine Zqb ?_) | (with_reducible apply QLoop_exit) | (refine Zhr ?_) | (with_reducible apply QBlock_ret) | (with_reducible apply QLoop_ret))
    exact QBody_ret1 rfl (rfl : _ = Value.bool _) ⟨rfl, (by repeat (first | exact Wk.refl _ | apply Wk.keep1 | apply Wk.drop | apply Wk.sv | apply Wk.svD | apply Wk.appD))⟩
theorem in44_ret (L : Hp) (a b c d : Int) (h1 : c ≤ a) (h2 : b ≤ d) : Ret Try.prog N w0 L 44 [.agg [.int .i64 a, .int .i64 b].toArray, .agg [.int .i64 c, .int .i64 d].toArray].toArray (.bool true) := by
  refine Ret.fgt ?_
  refine tri_of_WP Try.func44 rfl (n := 17) rfl (by simp) ?_
  repeat' (first | (refine GiP ?_; first | (refine Znh ?_) | (with_reducible refine Znl ?_) | (refine Zatd 16 ?_; (first | (refine Zv Zxpt ?_) | (refine Zv Zxpf ?_)); refine Zv Zab ?_) | (refine Zatd 11 ?_; refine Zv Zfa ?_) | (refine Zatd 12 ?_; refine Zv Zld ?_) | (refine Zatd 13 ?_; refine Zv Zfa ?_) | (refine Zatd 14 ?_; refine Zv Zld ?_) | (refine Zatd 15 ?_; refine Zv Zyleq ?_) | (refine Zsk ?_) | (refine Zsp (fun hc => ?_) (fun hc => ?_) <;> (try (exfalso; omega)))) | (refine GiW ?_; first | (refine Zsq fun K hK => ?_) | (refine ZrN 0 fun _ => ?_; refine Zal 2 fun b2 => ?_; refine Zal 3 fun b3 => ?_; refine Zv Zab ?_) | (refine ZrG 1 ?_; refine Zv Zf0 ?_; refine Zv Zld ?_; refine Zv Zf0 ?_; refine Zv Zld ?_; refine Zv Zygeq ?_; refine Zv Zmb ?_) | (with_reducible apply WP_ret)) | (refine Zhn ?_) | (refine Zhr ?_))
  exact QBody_ret1 rfl (rfl : _ = Value.bool _) ⟨rfl, (by repeat (first | exact Wk.refl _ | apply Wk.keep1 | apply Wk.drop | apply Wk.sv | apply Wk.svD | apply Wk.appD))⟩
theorem Heaps_in (L : Hp) (g : Bg) (h : HeapIn N w0 L g) (h1 : g.h.heaps.length ≤ 1000000) (h2 : g.h.rains.length ≤ 1000000) (h3 : g.h.looks.length ≤ 1000000) : Ret Try.prog N w0 L 35 [heapV g].toArray (.bool (vB g.h)) :=
  Ret.re fun w hI => Heaps_ret w.heap.size w [] g (h w hI) h1 h2 h3
end
end Go.Proofs.Ytlpahkmfjpjheaa
end
