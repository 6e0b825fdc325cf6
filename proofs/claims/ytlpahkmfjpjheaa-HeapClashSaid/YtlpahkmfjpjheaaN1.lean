/- Ways that meet again. · append to a slice that grows, wherever it stands among what is owned, of a whole slice that can be read, nil or not. · More rules: where memory lies as it lay, calls that give what is new, spans compared. · The law functions that lay heaps anew: with a look more. · The heap laws in plain terms: both ends. · The law HeapDry: its walk. · Bits of whole numbers with a sign, that are not negative. · The heap laws in plain terms: the looks of a set alone. · The law HeapClash: the looks of a set, its size. · The heap laws in plain terms: which looks clash, which must be false, and no others. -/
import Derived.Test.YtlpahkmfjpjheaaM2
import Derived.Test.YtlpahkmfjpjheaaM7
import Derived.Test.YtlpahkmfjpjheaaM8
section
namespace Go.Proofs.Ytlpahkmfjpjheaa
open Go.RowKit
section
variable {P : Program} {r : Option Nat} {n N : Nat} {w0 : World} {Q K : Post} {e : Env} {ds : List Deferred} {L : Hp}
/-- Where ways meet: what is known there (nor); any other way out is as it was (oth). -/
structure HCut {σ : Type} (ws : List Nat) (base : Env) (sl : σ → List (Nat × Value)) (Lp : σ → Hp) (J : σ → Prop) (ds : List Deferred) (K K' : Post) : Prop where
  nor : ∀ (s : σ) (e : Env) (L : Hp), Slots e (sl s) → Off ws e base → Wk L (Lp s) → J s → K' .normal e ds L
  oth : ∀ x e ds L, x ≠ .normal → K x e ds L → K' x e ds L
theorem WP_join {σ : Type} {c y : Code} (hK : HThen P r n N w0 y Q K) (ws : List Nat) (sl : σ → List (Nat × Value)) (Lp : σ → Hp) (J : σ → Prop)
    (h1 : ∀ K', HCut ws e sl Lp J ds K K' → WP P r n N w0 c K' e ds L) (h2 : ∀ s j, J s → WP P r n N w0 y Q (frame ws e (sl s) j) ds (Lp s)) : WP P r n N w0 c K e ds L := by
  refine WP_mono (h1 (fun x e' ds' L' => match x with
    | .normal => ds' = ds ∧ ∃ s, Slots e' (sl s) ∧ Off ws e' e ∧ Wk L' (Lp s) ∧ J s
    | x => K x e' ds' L') ⟨fun s e' L' a b c d => ⟨rfl, s, a, b, c, d⟩, fun x _ _ _ hx h => by cases x <;> first | exact absurd rfl hx | exact h⟩) ?_
  intro x e' ds' L' h
  cases x with
  | normal =>
    obtain ⟨rfl, s, a, b, c, d⟩ := h
    have hf : e' = frame ws e (sl s) e' := frame_intro a.look b
    rw [hf]
    exact hK.normal (WP_wk c (h2 s e' d))
  | _ => exact h
theorem HCut.ret {σ : Type} {ws : List Nat} {base : Env} {sl : σ → List (Nat × Value)} {Lp : σ → Hp} {J : σ → Prop} {ds0 : List Deferred} {K' : Post} (h : HCut ws base sl Lp J ds0 K K') (k : K .ret e ds L) : K' .ret e ds L := h.oth _ _ _ _ (by simp) k
theorem HCut.exit {σ : Type} {ws : List Nat} {base : Env} {sl : σ → List (Nat × Value)} {Lp : σ → Hp} {J : σ → Prop} {ds0 : List Deferred} {K' : Post} {id : Nat} (h : HCut ws base sl Lp J ds0 K K') (k : K (.exit id) e ds L) : K' (.exit id) e ds L := h.oth _ _ _ _ (by simp) k
theorem HCut.panic {σ : Type} {ws : List Nat} {base : Env} {sl : σ → List (Nat × Value)} {Lp : σ → Hp} {J : σ → Prop} {ds0 : List Deferred} {K' : Post} {ch : List PanicEntry} (h : HCut ws base sl Lp J ds0 K K') (k : K (.panic ch) e ds L) : K' (.panic ch) e ds L := h.oth _ _ _ _ (by simp) k
end
end Go.Proofs.Ytlpahkmfjpjheaa
end

section
namespace Go.Proofs.Ytlpahkmfjpjheaa
open Go.RowKit
section
variable {P : Program} {r : Option Nat} {n N : Nat} {w0 : World} {L : Hp} {ops : Array Oper} {rest : List Oper} {Q : Post} {e : Env} {ds : List Deferred} {ty : TypeId} {pos : String} {af : Array Edge} {g : Option (Nat × Bool)} {d : Option Nat}
theorem run_append_svN {t E : TypeId} [hE : SliceOf P t E] {g' : Bool} {sz bt : Nat} [hS : TySz P E g' sz bt] {k c : Nat} {xs : List Value} {s : Option (Nat × Nat)} {w : World} (hI : Inv N w0 (svH E sz k xs s L) w) (hs : svOk s sz k xs) :
    (Builtin.append_ #[t, t] ty #[svV s k, .slice none 0 c]).run P w = .ok (svV s k) w := by
  have hi := hS.inf
  cases hin : P.info? E with
  | none => rw [hin] at hi; cases hi
  | some i =>
    cases s with
    | none =>
      have := hs.2 rfl
      subst this
      simp [svV, Builtin.append_, run_underlying hE.und, sizeOf, typeInfo, hin, Builtin.lenOf, Builtin.firstCells]
    | some p =>
      obtain ⟨b, cap⟩ := p
      obtain ⟨_, o, _, cur, _, h1, _⟩ := hI.own _ (List.mem_cons_self)
      simp [svV, Builtin.append_, run_underlying hE.und, sizeOf, typeInfo, hin, Builtin.lenOf, Builtin.firstCells, h1, storeCells]
/-- A slice that grows, in its place. -/
inductive Grow (E : TypeId) (sz k : Nat) (xs : List Value) (s : Option (Nat × Nat)) (k' : Nat) (xs' : List Value) (s' : Option (Nat × Nat)) : Hp → Hp → Prop
  | here {L : Hp} : Grow E sz k xs s k' xs' s' (svH E sz k xs s L) (svH E sz k' xs' s' L)
  | there {x : Nat × (Obj → Prop)} {L L' : Hp} (h : Grow E sz k xs s k' xs' s' L L') : Grow E sz k xs s k' xs' s' (x :: L) (x :: L')
  | sv {E2 : TypeId} {sz2 k2 : Nat} {xs2 : List Value} {s2 : Option (Nat × Nat)} {L L' : Hp} (h : Grow E sz k xs s k' xs' s' L L') : Grow E sz k xs s k' xs' s' (svH E2 sz2 k2 xs2 s2 L) (svH E2 sz2 k2 xs2 s2 L')
  | app {X L L' : Hp} (h : Grow E sz k xs s k' xs' s' L L') : Grow E sz k xs s k' xs' s' (X ++ L) (X ++ L')
theorem svH_app {E : TypeId} {sz k : Nat} {xs : List Value} {s : Option (Nat × Nat)} {A B : Hp} : svH E sz k xs s (A ++ B) = svH E sz k xs s A ++ B := by cases s <;> rfl
theorem svH_nil {E : TypeId} {sz k : Nat} {xs : List Value} {s : Option (Nat × Nat)} {B : Hp} : svH E sz k xs s [] ++ B = svH E sz k xs s B := by cases s <;> rfl
theorem svH_perm {E : TypeId} {sz k : Nat} {xs : List Value} {s : Option (Nat × Nat)} {A B : Hp} (h : A.Perm B) : (svH E sz k xs s A).Perm (svH E sz k xs s B) := by
  cases s with
  | none => exact h
  | some p => exact h.cons _
theorem svH_mid {E : TypeId} {sz k : Nat} {xs : List Value} {s : Option (Nat × Nat)} {X L : Hp} : (X ++ svH E sz k xs s L).Perm (svH E sz k xs s (X ++ L)) := by
  cases s with
  | none => exact .refl _
  | some p => exact List.perm_middle
theorem Grow.perm {E : TypeId} {sz k : Nat} {xs : List Value} {s : Option (Nat × Nat)} {k' : Nat} {xs' : List Value} {s' : Option (Nat × Nat)} {L L' : Hp} (h : Grow E sz k xs s k' xs' s' L L') : ∃ Lb, L.Perm (svH E sz k xs s Lb) ∧ L'.Perm (svH E sz k' xs' s' Lb) := by
  induction h with
  | @here L => exact ⟨L, .refl _, .refl _⟩
  | @there x L L' h ih =>
    obtain ⟨Lb, h1, h2⟩ := ih
    exact ⟨x :: Lb, (h1.cons x).trans (svH_mid (X := [x])), (h2.cons x).trans (svH_mid (X := [x]))⟩
  | @sv E2 sz2 k2 xs2 s2 L L' h ih =>
    obtain ⟨Lb, h1, h2⟩ := ih
    refine ⟨svH E2 sz2 k2 xs2 s2 [] ++ Lb, (svH_perm h1).trans ?_, (svH_perm h2).trans ?_⟩
    · rw [← svH_nil]; exact svH_mid
    · rw [← svH_nil]; exact svH_mid
  | @app X L L' h ih =>
    obtain ⟨Lb, h1, h2⟩ := ih
    exact ⟨X ++ Lb, (h1.append_left X).trans svH_mid, (h2.append_left X).trans svH_mid⟩
theorem svV_inj {s s2 : Option (Nat × Nat)} {k : Nat} (h : svV s k = svV s2 k) : s = s2 := by
  cases s with
  | none => cases s2 with
    | none => rfl
    | some q => obtain ⟨q1, q2⟩ := q; simp [svV] at h
  | some p => cases s2 with
    | none => obtain ⟨q1, q2⟩ := p; simp [svV] at h
    | some q => obtain ⟨p1, p2⟩ := p; obtain ⟨q1, q2⟩ := q; simp [svV] at h; simp [h.1, h.2]
/-- What is appended can be read; nil has nothing. -/
theorem OPS_appendG {t E : TypeId} [hE : SliceOf P t E] {g' : Bool} {sz bt : Nat} [hS : TySz P E g' (sz + 1) bt] {z : List Value} [hZ : TyZero P E z] (hz : z.length = sz + 1)
    {x y : Operand} {k m c : Nat} {A : Option Addr} {xs news : List Value} {s : Option (Nat × Nat)} {L' : Option (Nat × Nat) → Hp} {d : Nat} (hx : ev e x = svV s k) (hy : ev e y = .slice A m c) (hL : ∀ s', Grow E (sz + 1) k xs s (k + m) (xs ++ news) s' L (L' s'))
    (hs : svOk s (sz + 1) k xs) (hn : ∀ w, Inv N w0 L w → ∀ j u, news[j]? = some u → ∃ b2 o2, A = some ⟨b2, o2, none⟩ ∧ w.cell? ⟨b2, o2 + j, none⟩ = some u) (hA : A = none → m = 0) (hl : news.length = m * (sz + 1)) (h1 : ones news = true) (h63 : k + m ≤ maxLen) (hby : (k + m) * bt ≤ 140737488355328)
    (h : ∀ s', svOk s' (sz + 1) (k + m) (xs ++ news) → OPS P r n N w0 ops rest Q (upd e d (svV s' (k + m))) ds (L' s'))
    (hg : Region.wanted ⟨some d, .call { callee := .builtin .append, args := #[x, y], argTypes := #[t, t] }, ty, pos, af, g⟩ (yieldE ops e) = true := by rfl) (hd : Nat.blt d n = true := by rfl) :
    OPS P r n N w0 ops (⟨some d, .call { callee := .builtin .append, args := #[x, y], argTypes := #[t, t] }, ty, pos, af, g⟩ :: rest) Q e ds L := by
  refine OPS_any (K := fun v L2 => ∃ s', v = svV s' (k + m) ∧ L2 = L' s' ∧ svOk s' (sz + 1) (k + m) (xs ++ news)) (fun w hI => ?_) hg rfl hd ?_
  · obtain ⟨Lb0, hp0, _⟩ := (hL s).perm
    have hI0 := hI.perm hp0
    cases A with
    | none =>
      have hm := hA rfl
      subst hm
      have hnw : news = [] := List.eq_nil_of_length_eq_zero (by rw [hl]; omega)
      subst hnw
      have hr := run_append_svN (P := P) (ty := ty) (t := t) (E := E) (c := c) hI0 hs
      obtain ⟨Lb, hp1, hp2⟩ := (hL s).perm
      refine ⟨_, w, _, by simp [execOp, resolve, invoke, builtin, hx, hy, hr], ?_, s, rfl, rfl, by simpa using hs⟩
      refine Inv.perm ?_ hp2.symm
      simp only [Nat.add_zero, List.append_nil]
      exact hI.perm hp1
    | some a =>
      have key := fun Lb (hI' : Inv N w0 (svH E (sz + 1) k xs s Lb) w) => run_append_sv (P := P) (ty := ty) (t := t) (E := E) (a := a) (m := m) (c := c) hz hI' hs hl (fun j u hj => by
        obtain ⟨b2, o2, ha, hc⟩ := hn w hI j u hj
        simp only [Option.some.injEq] at ha
        subst ha
        rw [addr_add]; exact hc) h1 h63 hby
      obtain ⟨s', w', hr, hI', hs'⟩ := key Lb0 hI0
      obtain ⟨Lb, hp1, hp2⟩ := (hL s').perm
      obtain ⟨s2, w2, hr2, hI2, hs2⟩ := key Lb (hI.perm hp1)
      have he : s2 = s' ∧ w2 = w' := by
        rw [hr] at hr2
        simp only [Result.ok.injEq] at hr2
        obtain ⟨h3, h4⟩ := hr2
        exact ⟨(svV_inj (by simpa using h3)).symm, h4.symm⟩
      obtain ⟨rfl, rfl⟩ := he
      exact ⟨_, w2, _, by simp [execOp, resolve, invoke, builtin, hx, hy, hr], hI2.perm hp2.symm, s2, rfl, rfl, hs'⟩
  · rintro v L2 ⟨s', rfl, rfl, hs'⟩
    exact h s' hs'
/-- To a slice without elements. -/
theorem OPS_append0 {t E : TypeId} [hE : SliceOf P t E] {g' : Bool} {sz bt : Nat} [hS : TySz P E g' (sz + 1) bt] {z : List Value} [hZ : TyZero P E z] (hz : z.length = sz + 1)
    {x y : Operand} {m c : Nat} {A : Option Addr} {news : List Value} {s : Option (Nat × Nat)} {L' : Option (Nat × Nat) → Hp} {d : Nat} (hx : ev e x = svV s 0) (hy : ev e y = .slice A m c) (hL : ∀ s', Grow E (sz + 1) 0 [] s m news s' L (L' s'))
    (hs : svOk s (sz + 1) 0 []) (hn : ∀ w, Inv N w0 L w → ∀ j u, news[j]? = some u → ∃ b2 o2, A = some ⟨b2, o2, none⟩ ∧ w.cell? ⟨b2, o2 + j, none⟩ = some u) (hA : A = none → m = 0) (hl : news.length = m * (sz + 1)) (h1 : ones news = true) (h63 : m ≤ maxLen) (hby : m * bt ≤ 140737488355328)
    (h : ∀ s', svOk s' (sz + 1) m news → OPS P r n N w0 ops rest Q (upd e d (svV s' m)) ds (L' s'))
    (hg : Region.wanted ⟨some d, .call { callee := .builtin .append, args := #[x, y], argTypes := #[t, t] }, ty, pos, af, g⟩ (yieldE ops e) = true := by rfl) (hd : Nat.blt d n = true := by rfl) :
    OPS P r n N w0 ops (⟨some d, .call { callee := .builtin .append, args := #[x, y], argTypes := #[t, t] }, ty, pos, af, g⟩ :: rest) Q e ds L := by
  have e1 : 0 + m = m := Nat.zero_add m
  refine OPS_appendG (L' := L') (k := 0) (xs := []) hz hx hy (fun s' => ?_) hs hn hA hl h1 (by omega) (by rw [e1]; exact hby) (fun s' hs' => ?_) hg hd
  · rw [e1]; exact hL s'
  · rw [e1] at hs' ⊢; exact h s' hs'
theorem blk_src {b T : Nat} {l : List Value} (hm : Mem b (Blk T l) L) : ∀ w, Inv N w0 L w → ∀ j u, l[j]? = some u → ∃ b2 o2, some (⟨b, 0, none⟩ : Addr) = some ⟨b2, o2, none⟩ ∧ w.cell? ⟨b2, o2 + j, none⟩ = some u := fun w hI j u hj => ⟨b, 0, rfl, blk_cells hm w hI j u hj⟩
/-- append of elements that were just laid. -/
theorem Zag {t E : TypeId} [hE : SliceOf P t E] {g' : Bool} {sz bt : Nat} [hS : TySz P E g' (sz + 1) bt] {z : List Value} [hZ : TyZero P E z] {x y : Operand} {k m c b T : Nat} {xs news : List Value} {s : Option (Nat × Nat)} {L' : Option (Nat × Nat) → Hp} {d : Nat}
    (h : ∀ s', svOk s' (sz + 1) (k + m) (xs ++ news) → OPS P r n N w0 ops rest Q (upd e d (svV s' (k + m))) ds (L' s')) (hz : z.length = sz + 1 := by rfl) (hx : ev e x = svV s k := by rfl) (hy : ev e y = .slice (some ⟨b, 0, none⟩) m c := by rfl)
    (hm : Mem b (Blk T news) L := by repeat (first | exact Mem.here | assumption | apply Mem.there | apply Mem.sv | apply Mem.app)) (hs : svOk s (sz + 1) k xs := by assumption) (hL : ∀ s', Grow E (sz + 1) k xs s (k + m) (xs ++ news) s' L (L' s') := by intro s'; repeat (first | exact Grow.here | apply Grow.there | apply Grow.sv | apply Grow.app))
    (hl : news.length = m * (sz + 1) := by rfl) (h1 : ones news = true := by rfl) (h63 : k + m ≤ maxLen := by simp only [maxLen]; omega) (hby : (k + m) * bt ≤ 140737488355328 := by omega)
    (hg : Region.wanted ⟨some d, .call { callee := .builtin .append, args := #[x, y], argTypes := #[t, t] }, ty, pos, af, g⟩ (yieldE ops e) = true := by rfl) (hd : Nat.blt d n = true := by rfl) :
    OPS P r n N w0 ops (⟨some d, .call { callee := .builtin .append, args := #[x, y], argTypes := #[t, t] }, ty, pos, af, g⟩ :: rest) Q e ds L :=
  OPS_appendG hz hx hy hL hs (blk_src hm) (fun h => by cases h) hl h1 h63 hby h hg hd
theorem OPS_perm {l : List Oper} {L2 : Hp} (k : L.Perm L2) (h : OPS P r n N w0 ops l Q e ds L2) : OPS P r n N w0 ops l Q e ds L := fun a w hs he hd hI => h a w hs he hd (hI.perm k)
/-- A new row without elements, to append to. -/
theorem Row_nil {E : TypeId} {sz : Nat} : ∀ o, Blk E [] o → Row E sz 0 0 [] o := by
  intro o ho
  unfold Blk Is at ho
  subst ho
  exact ⟨#[], rfl, Nat.le_refl _, by unfold maxLen; omega, by simp, by simp⟩
theorem Wk.appK (X : Hp) {L L' : Hp} (h : Wk L L') : Wk (X ++ L) (X ++ L') := by
  induction X with
  | nil => exact h
  | cons x X ih => exact .keep1 ih

/-! ## What can be read -/
/-- A cell that reads so as long as X is owned, whatever else is. -/
def RdX (X : Hp) (b o : Nat) (v : Value) : Prop := ∀ (N : Nat) (w0 w : World), Inv N w0 X w → w.cell? ⟨b, o, none⟩ = some v
/-- A cell that reads so here. -/
def Rd (N : Nat) (w0 : World) (L : Hp) (b o : Nat) (v : Value) : Prop := ∀ w, Inv N w0 L w → w.cell? ⟨b, o, none⟩ = some v
theorem RdX.wk {X L : Hp} {b o : Nat} {v : Value} (h : RdX X b o v) (k : Wk L X) : RdX L b o v := fun N w0 w hI => h N w0 w (hI.wk k)
theorem RdX.sub {X L : Hp} {b o : Nat} {v : Value} (h : RdX X b o v) (k : Sub X L) : RdX L b o v := fun N w0 w hI => by
  obtain ⟨L0, k⟩ := k
  refine h N w0 w ((hI.perm (k.trans List.perm_append_comm)).wk (.app L0 X))
theorem RdX.rd {X : Hp} {b o : Nat} {v : Value} (h : RdX X b o v) : Rd N w0 X b o v := fun w hI => h N w0 w hI
theorem Rd.wk {X : Hp} {b o : Nat} {v : Value} (h : Rd N w0 X b o v) (k : Wk L X) : Rd N w0 L b o v := fun w hI => h w (hI.wk k)
theorem Rd.ro {b o : Nat} {v : Value} (hb : b < N) (hv : w0.cell? ⟨b, o, none⟩ = some v) : Rd N w0 L b o v := fun _ hI => hI.cellRo hb hv
theorem Val_loadD1 {t : TypeId} {n bt : Nat} [TySz P t false n bt] {x : Operand} {b o : Nat} {v : Value} (hx : ev e x = .pointer (some ⟨b, o, none⟩)) (hv : Rd N w0 L b o v) : Val P N w0 L e ⟨d, .load t x, ty, pos, af, g⟩ v := by
  intro w hI
  simp [execOp, hx, Instr.loadAt, Instr.sureAddr, run_loadVar1 (hv w hI)]
theorem Val_loadDN {t : TypeId} {n bt : Nat} [TySz P t true n bt] {x : Operand} {b o : Nat} {vs : List Value} (hx : ev e x = .pointer (some ⟨b, o, none⟩)) (hv : ∀ j v, vs[j]? = some v → Rd N w0 L b (o + j) v) (hl : vs.length = n) : Val P N w0 L e ⟨d, .load t x, ty, pos, af, g⟩ (.agg vs.toArray) := by
  intro w hI
  simp [execOp, hx, Instr.loadAt, Instr.sureAddr, run_loadVarN hl (fun j hj => by
    have hj' : j < vs.length := by omega
    rw [addr_add, List.getElem?_eq_getElem hj']; exact hv j _ (List.getElem?_eq_getElem hj') w hI)]
end
end Go.Proofs.Ytlpahkmfjpjheaa
end

section
namespace Go.Proofs.Ytlpahkmfjpjheaa
open Go.RowKit
section
variable {P : Program} {r : Option Nat} {n N : Nat} {w0 : World} {L B : Hp} {e : Env} {ds : List Deferred} {Q : Post} {d : Option Nat} {ty : TypeId} {pos : String} {af : Array Edge} {g : Option (Nat × Bool)}
theorem SlAt.now {A : Option Addr} {sz : Nat} {rows : List (List Value)} (h : SlAt N w0 A sz rows) {w : World} (hI : Inv N w0 L w) : SlAt w.heap.size w A sz rows := by
  intro k hk
  obtain ⟨b, o, h1, h2, h3⟩ := h k hk
  exact ⟨b, o, h1, Nat.lt_of_lt_of_le h2 hI.big, fun j v hj => hI.cellRo h2 (h3 j v hj)⟩
/-- The rows of a slice that grew. -/
theorem sl_sv {E : TypeId} {sz k : Nat} {xs : List Value} {s : Option (Nat × Nat)} (hz : 0 < sz) (hs : svOk s sz k xs) : ∃ A c, svV s k = .slice A k c ∧ ∀ {N : Nat} {w0 : World} {L : Hp} {w : World} {rows : List (List Value)}, Inv N w0 (svH E sz k xs s L) w → xs = rows.flatten → (∀ r ∈ rows, r.length = sz) → SlAt w.heap.size w A sz rows := by
  obtain ⟨A, c, h1, h2⟩ := sv_slice (E := E) hs
  refine ⟨A, c, h1, fun {N w0 L w rows} hI hx hr i hi => ?_⟩
  have hj : ∀ j v, rows[i][j]? = some v → xs[i * sz + j]? = some v := by
    intro j v hj
    have hj2 : j < sz := by
      have := (List.getElem?_eq_some_iff.1 hj).1
      rw [hr _ (List.getElem_mem hi)] at this
      exact this
    rw [hx, flat_get rows i j hi hr hj2]
    exact hj
  obtain ⟨v0, hv0⟩ : ∃ v, rows[i][0]? = some v := ⟨_, List.getElem?_eq_getElem (by rw [hr _ (List.getElem_mem hi)]; omega)⟩
  obtain ⟨b, hA, hb, _⟩ := h2 hI _ _ (hj 0 v0 hv0)
  refine ⟨b, 0, hA, hb, fun j v hjv => ?_⟩
  obtain ⟨b', hA', _, hc⟩ := h2 hI _ _ (hj j v hjv)
  rw [hA] at hA'
  simp only [Option.some.injEq, Addr.mk.injEq, and_true] at hA'
  rw [Nat.zero_add, hA']; exact hc
theorem Inv.on2 {w w' : World} {X : Hp} (h : Inv N w0 L w) (h' : Inv w.heap.size w X w') : Inv N w0 (X ++ L) w' := by
  have h1 := h.on h'
  refine ⟨h1.below, h1.big, ?_, ?_⟩
  · rw [List.pairwise_append]
    refine ⟨h'.dis, h.dis, fun x hx y hy => ?_⟩
    have := (h'.own x hx).1
    have := h.lt hy
    omega
  · intro x hx
    rcases List.mem_append.1 hx with hx | hx
    · obtain ⟨h2, h3⟩ := h'.own x hx
      exact ⟨Nat.le_trans h.big h2, h3⟩
    · exact h1.own x hx
/-- A call that is known from what lies there now, with what it lays anew. -/
theorem Tri.re2 {f : FuncId} {args : Array Value} {K : Value → Hp → Prop} (h : ∀ w, Inv N w0 L w → Tri P w.heap.size w [] f args fun x L' => ∃ v, x = .returned v ∧ ∃ X, L' = X ++ [] ∧ K v X) : Tri P N w0 L f args fun x L' => ∃ v, x = .returned v ∧ ∃ X, L' = X ++ L ∧ K v X := by
  intro w hI
  refine (h w hI w hI.at_).mono ?_
  rintro x w' ⟨L', hI', v, rfl, X, rfl, hK⟩
  rw [List.append_nil] at hI'
  exact ⟨X ++ L, hI.on2 hI', v, rfl, X, rfl, hK⟩
/-- Ways meet: what is owned besides is as it was. -/
theorem WP_joinL {σ : Type} {c y : Code} {K : Post} (hK : HThen P r n N w0 y Q K) (ws : List Nat) (sl : σ → List (Nat × Value)) (X : σ → Hp) (J : σ → Prop)
    (h1 : ∀ K', HCut ws e sl (fun s => X s ++ L) J ds K K' → WP P r n N w0 c K' e ds L) (h2 : ∀ s j, J s → WP P r n N w0 y Q (frame ws e (sl s) j) ds (X s ++ L)) : WP P r n N w0 c K e ds L := WP_join hK ws sl _ J h1 h2
/-- Ways meet at the end of what stands inside. -/
theorem WP_joinQ {σ : Type} {c : Code} (ws : List Nat) (sl : σ → List (Nat × Value)) (Lp : σ → Hp) (J : σ → Prop)
    (h1 : ∀ K', HCut ws e sl Lp J ds Q K' → WP P r n N w0 c K' e ds L) (h2 : ∀ s j L', J s → Wk L' (Lp s) → Q .normal (frame ws e (sl s) j) ds L') : WP P r n N w0 c Q e ds L := by
  refine WP_mono (h1 (fun x e' ds' L' => match x with
    | .normal => ds' = ds ∧ ∃ s, Slots e' (sl s) ∧ Off ws e' e ∧ Wk L' (Lp s) ∧ J s
    | x => Q x e' ds' L') ⟨fun s e' L' a b c d => ⟨rfl, s, a, b, c, d⟩, fun x _ _ _ hx h => by cases x <;> first | exact absurd rfl hx | exact h⟩) ?_
  intro x e' ds' L' h
  cases x with
  | normal =>
    obtain ⟨rfl, s, a, b, c, d⟩ := h
    have hf : e' = frame ws e (sl s) e' := frame_intro a.look b
    rw [hf]
    exact h2 s e' L' d c
  | _ => exact h
/-- One block, wherever it stands. -/
inductive PickH (x : Nat × (Obj → Prop)) : Hp → Hp → Prop
  | here {L : Hp} : PickH x (x :: L) L
  | there {y : Nat × (Obj → Prop)} {L L' : Hp} (h : PickH x L L') : PickH x (y :: L) (y :: L')
  | sv {E sz k : Nat} {xs : List Value} {s : Option (Nat × Nat)} {L L' : Hp} (h : PickH x L L') : PickH x (svH E sz k xs s L) (svH E sz k xs s L')
  | app {X L L' : Hp} (h : PickH x L L') : PickH x (X ++ L) (X ++ L')
theorem PickH.perm {x : Nat × (Obj → Prop)} {L L' : Hp} (h : PickH x L L') : L.Perm (x :: L') := by
  induction h with
  | here => exact .refl _
  | @there y L L' h ih => exact (ih.cons y).trans (.swap _ _ _)
  | @sv E sz k xs s L L' h ih =>
    refine (svH_perm ih).trans ?_
    cases s with
    | none => exact .refl _
    | some p => exact .swap _ _ _
  | @app X L L' h ih => exact (ih.append_left X).trans List.perm_middle
theorem Sub.pickH {x : Nat × (Obj → Prop)} {L' : Hp} (h : PickH x L L') (k : Sub B L') : Sub (x :: B) L := let ⟨L0, k⟩ := k; ⟨L0, h.perm.trans (k.cons x)⟩
theorem Sub.nil : Sub [] L := ⟨L, .refl _⟩
theorem Sub.svK {E sz k : Nat} {xs : List Value} {s : Option (Nat × Nat)} (h : Sub B L) : Sub (svH E sz k xs s B) (svH E sz k xs s L) := by
  obtain ⟨L0, h⟩ := h
  refine ⟨L0, (svH_perm h).trans ?_⟩
  rw [svH_app]
theorem WP_sub {c : Code} (hS : Sub B L) (h : WP P r n N w0 c Q e ds B) : WP P r n N w0 c Q e ds L := by
  obtain ⟨L0, hp⟩ := hS
  exact fun a w hs he hd hI => h a w hs he hd ((hI.perm (hp.trans List.perm_append_comm)).wk (.app L0 B))
/-- Ways meet, what is owned in any order. -/
structure HCutS {σ : Type} (ws : List Nat) (base : Env) (sl : σ → List (Nat × Value)) (Lp : σ → Hp) (J : σ → Prop) (ds : List Deferred) (K K' : Post) : Prop where
  nor : ∀ (s : σ) (e : Env) (L : Hp), Slots e (sl s) → Off ws e base → Sub (Lp s) L → J s → K' .normal e ds L
  oth : ∀ x e ds L, x ≠ .normal → K x e ds L → K' x e ds L
theorem WP_joinS {σ : Type} {c y : Code} {K : Post} (hK : HThen P r n N w0 y Q K) (ws : List Nat) (sl : σ → List (Nat × Value)) (Lp : σ → Hp) (J : σ → Prop)
    (h1 : ∀ K', HCutS ws e sl Lp J ds K K' → WP P r n N w0 c K' e ds L) (h2 : ∀ s j, J s → WP P r n N w0 y Q (frame ws e (sl s) j) ds (Lp s)) : WP P r n N w0 c K e ds L := by
  refine WP_mono (h1 (fun x e' ds' L' => match x with
    | .normal => ds' = ds ∧ ∃ s, Slots e' (sl s) ∧ Off ws e' e ∧ Sub (Lp s) L' ∧ J s
    | x => K x e' ds' L') ⟨fun s e' L' a b c d => ⟨rfl, s, a, b, c, d⟩, fun x _ _ _ hx h => by cases x <;> first | exact absurd rfl hx | exact h⟩) ?_
  intro x e' ds' L' h
  cases x with
  | normal =>
    obtain ⟨rfl, s, a, b, c, d⟩ := h
    have hf : e' = frame ws e (sl s) e' := frame_intro a.look b
    rw [hf]
    exact hK.normal (WP_sub c (h2 s e' d))
  | _ => exact h
/-- A region whose order is left open: what comes ahead of what writes reads B. -/
theorem WP_drawnS {id : Nat} {l : List Oper} (T E A fl : List Nat) {k k2 : Nat} (hS : Sub B L) (hfl : (T.all fun i => match l[i]? with | some o => (match o.dst with | some t => fl.contains t | none => true) | none => true) = true) (hm : P.follows .mixedOrders = true) (hc : drawChk l.toArray T E A = true) (hf : floatChk n l.toArray T E A = true) (hk : l.length = E.length + A.length + (k + k2))
    (h : EWalk P n N w0 l.toArray [] B E e fun ef => AWalk P n l.toArray A ef ef fun e' A' => AnyC P r n N w0 l.toArray Q ds fl B T k2 k (doneOf l.length (E ++ A)) e' (A' ++ L)) : WP P r n N w0 (.region id l.toArray true) Q e ds L := by
  obtain ⟨L0, hp⟩ := hS
  refine WP_drawnC L0 B T E A fl (hp.trans List.perm_append_comm) hfl hm hc hf hk ?_
  obtain ⟨ef, h1, S, h2, h3, h4⟩ := h
  refine ⟨ef, h1, S, h2, h3, h4.mono fun e' A' h5 => h5.perm ?_⟩
  exact List.Perm.append_left A' (hp.trans List.perm_append_comm).symm
/-! ## A row that grew is written -/
theorem setL_take : ∀ (vs l : List Value) (o m : Nat), o + vs.length ≤ m → (setL l o vs).take m = setL (l.take m) o vs
  | [], _, _, _, _ => rfl
  | v :: vs, l, o, m, h => by
    simp only [List.length_cons] at h
    simp only [setL]
    rw [setL_take vs _ (o + 1) m (by omega), List.take_set]
theorem Row.len {E : TypeId} {sz k cap : Nat} {xs : List Value} {o : Obj} (h : Row E sz k cap xs o) : xs.length = k * sz := by
  obtain ⟨cur, _, h1, _, h2, h3⟩ := h
  rw [← h3, List.length_take, Array.length_toList, h2]
  exact Nat.min_eq_left (Nat.mul_le_mul_right sz h1)
theorem Turn_storeRow {t : TypeId} {g' : Bool} {n bt : Nat} [TySz P t g' n bt] {x y : Operand} {b o : Nat} {E : TypeId} {sz k cap : Nat} {v : Value} {xs vs xs' : List Value} {L' : Hp} (hx : ev e x = .pointer (some ⟨b, o, none⟩)) (hy : ev e y = v) (hu : Up L b (Row E sz k cap xs) (Row E sz k cap xs') L')
    (hv : v.cells = vs.toArray) (hl : o + vs.length ≤ k * sz) (hp : setL xs o vs = xs') (hn : vs.length = n) (h1 : ones vs = true) :
    Turn P N w0 L e ⟨d, .store t x y, ty, pos, af, g⟩ L' := by
  intro w hI
  obtain ⟨ob, hob, cur, rfl, hc1, hc2, hc3, hc4⟩ := hI.obj' hu.mem
  have hb : w.heap[b]? = some (.cells cur.toList.toArray E (0, 0)) := by simpa using hob
  have hle : k * sz ≤ cur.toList.length := by rw [Array.length_toList, hc3]; exact Nat.mul_le_mul_right sz hc1
  obtain ⟨w', hr, h2, h3, h4, h5, h6, h7⟩ := run_storeVar (P := P) (w := w) (t := t) (T := E) (l := cur.toList) hv hn h1 (Nat.le_trans hl hle) hb
  refine ⟨w', by simp [execOp, hx, hy, Instr.storeAt, Instr.sureAddr, hr], hI.turn hu h3 h4 h5 (by omega) (fun k _ hk => h7 k hk) ⟨_, h2, _, rfl, hc1, hc2, ?_, ?_⟩⟩
  · rw [List.size_toArray, setL_length, Array.length_toList, hc3]
  · show (setL cur.toList o vs).take (k * sz) = xs'
    rw [setL_take _ _ _ _ hl, hc4, hp]
/-- The rows of a row that grew. -/
theorem sl_row {E sz k cap b : Nat} {xs : List Value} {rows : List (List Value)} {w : World} (hI : Inv N w0 L w) (hm : Mem b (Row E sz k cap xs) L) (hx : xs = rows.flatten) (hr : ∀ r ∈ rows, r.length = sz) : SlAt w.heap.size w (some ⟨b, 0, none⟩) sz rows := by
  obtain ⟨ob, hob, cur, rfl, hc1, hc2, hc3, hc4⟩ := hI.obj' hm
  intro i hi
  refine ⟨b, 0, rfl, (Array.getElem?_eq_some_iff.1 hob).1, fun j v hj => ?_⟩
  have hj2 : j < sz := by
    have := (List.getElem?_eq_some_iff.1 hj).1
    rw [hr _ (List.getElem_mem hi)] at this
    exact this
  have hg := flat_get rows i j hi hr hj2
  rw [← hx, hj] at hg
  rw [Nat.zero_add, cell_of_row w b _ cur E (0, 0) hob]
  have h5 : (cur.toList.take (k * sz))[i * sz + j]? = some v := by rw [hc4]; exact hg
  rw [List.getElem?_take] at h5
  split at h5
  · simpa using h5
  · cases h5
/-- One of the rows is another. -/
theorem setL_row {sz : Nat} : ∀ (rows : List (List Value)) (i : Nat) (r : List Value), (∀ q ∈ rows, q.length = sz) → r.length = sz → i < rows.length → setL rows.flatten (i * sz) r = (rows.set i r).flatten
  | [], _, _, _, _, hi => by simp at hi
  | q :: rows, 0, r, hq, hr, _ => by
    have h1 := hq q (.head _)
    rw [List.set_cons_zero, List.flatten_cons, List.flatten_cons, Nat.zero_mul]
    have key : ∀ (r q l : List Value), r.length = q.length → setL (q ++ l) 0 r = r ++ l := by
      intro r
      induction r with
      | nil => intro q l h; rw [List.eq_nil_of_length_eq_zero (Eq.symm (by simpa using h)) (l := q)]; rfl
      | cons x r ih =>
        intro q l h
        cases q with
        | nil => simp at h
        | cons y q =>
          simp only [List.cons_append, setL, List.set_cons_zero]
          rw [setL_cons, ih q l (by simpa using h)]
    exact key r q _ (by omega)
  | q :: rows, i + 1, r, hq, hr, hi => by
    have h1 := hq q (.head _)
    have ih := setL_row rows i r (fun x hx => hq x (.tail _ hx)) hr (by simpa using hi)
    rw [List.set_cons_succ, List.flatten_cons, List.flatten_cons, ← ih]
    have key : ∀ (q l : List Value) (o : Nat), setL (q ++ l) (o + q.length) r = q ++ setL l o r := by
      intro q
      induction q with
      | nil => intro l o; rfl
      | cons y q ih => intro l o; rw [List.cons_append, List.length_cons, ← Nat.add_assoc, setL_cons, ih]; rfl
    have := key q rows.flatten (i * sz)
    rw [h1] at this
    rw [Nat.succ_mul]
    exact this
/-- '[]T{}': a row without elements, to append to. -/
theorem New_buildSlice0 {t E : TypeId} [hs : SliceOf P t E] {g' : Bool} {sz bt : Nat} [TySz P E g' sz bt] : New P e ⟨d, .buildSlice t 0 #[], ty, pos, af, g⟩ (.cells #[] E (0, 0)) (fun b => svV (some (b, 0)) 0) := by
  intro w
  simp only [execOp, Instr.buildSlice, Sem.run_bind, run_underlying hs.und, Result.andThen_ok, run_sizeOf (P := P) (t := E)]
  have h0 : Array.range 0 = (#[] : Array Nat) := by apply Array.ext'; simp
  simp [newRow, newObj, Sem.run, Instr.fill, svV, h0]
theorem row0 {E : TypeId} {sz : Nat} : Row E sz 0 0 [] (.cells #[] E (0, 0)) := ⟨#[], rfl, Nat.le_refl _, by unfold maxLen; omega, by simp, by simp⟩
theorem svOk0 {b sz : Nat} : svOk (some (b, 0)) sz 0 [] := ⟨by simp, fun h => by cases h⟩
theorem Zbs {ops : Array Oper} {rest : List Oper} {t E : TypeId} [hs : SliceOf P t E] {g' : Bool} {sz bt : Nat} [TySz P E g' sz bt] {d : Nat} (h : ∀ b, OPS P r n N w0 ops rest Q (upd e d (svV (some (b, 0)) 0)) ds (svH E sz 0 [] (some (b, 0)) L))
    (hg : Region.wanted ⟨some d, .buildSlice t 0 #[], ty, pos, af, g⟩ (yieldE ops e) = true := by rfl) (hd : Nat.blt d n = true := by rfl) : OPS P r n N w0 ops (⟨some d, .buildSlice t 0 #[], ty, pos, af, g⟩ :: rest) Q e ds L :=
  OPS_newS (row0 (E := E) (sz := sz)) (New_buildSlice0 (sz := sz) (bt := bt) (g' := g')) hg rfl hd h
theorem inKw {a b : Int} (ha : -1000000 ≤ a ∧ a ≤ 1000000) (hb : -1000000 ≤ b ∧ b ≤ 1000000) : inKs [.i64, .i64] [a, b] := by
  refine ⟨rfl, ?_⟩
  intro p hp
  simp only [List.zip_cons_cons, List.zip_nil_right, List.mem_cons, List.not_mem_nil, or_false] at hp
  rcases hp with rfl | rfl <;> (simp [Lit.wf, IntKind.min, IntKind.max, IntKind.bits, IntKind.signed]; omega)
section
variable {x y : Operand} {t t' : TypeId} {ks : List IntKind} [hk : KeyTy P t ks] {a b : List Int}
theorem Val_neqIF (hx : ev e x = intsV ks a) (hy : ev e y = intsV ks b) (h : a = b) (ha : inKs ks a) (hb : inKs ks b) : Val P N w0 L e ⟨d, .binOp .neq t x y t', ty, pos, af, g⟩ (.bool false) := by
  have := Val_neqI (P := P) (N := N) (w0 := w0) (L := L) (d := d) (t := t) (t' := t') (ty := ty) (pos := pos) (af := af) (g := g) hx hy rfl rfl ha hb
  rwa [decide_eq_true h] at this
theorem Val_neqIT (hx : ev e x = intsV ks a) (hy : ev e y = intsV ks b) (h : a ≠ b) (ha : inKs ks a) (hb : inKs ks b) : Val P N w0 L e ⟨d, .binOp .neq t x y t', ty, pos, af, g⟩ (.bool true) := by
  have := Val_neqI (P := P) (N := N) (w0 := w0) (L := L) (d := d) (t := t) (t' := t') (ty := ty) (pos := pos) (af := af) (g := g) hx hy rfl rfl ha hb
  rwa [decide_eq_false h] at this
end
/-- Spans that are the same. -/
theorem Val_neqS {x y : Operand} {t t' : TypeId} [hk : KeyTy P t [.i64, .i64]] {a b a' b' : Int} (hx : ev e x = .agg [.int .i64 a, .int .i64 b].toArray) (hy : ev e y = .agg [.int .i64 a', .int .i64 b'].toArray) (h1 : a = a') (h2 : b = b') (ha : -1000000 ≤ a ∧ a ≤ 1000000) (hb : -1000000 ≤ b ∧ b ≤ 1000000) : Val P N w0 L e ⟨d, .binOp .neq t x y t', ty, pos, af, g⟩ (.bool false) := by
  subst h1 h2
  exact Val_neqIF (ks := [.i64, .i64]) (a := [a, b]) (b := [a, b]) hx hy rfl (inKw ha hb) (inKw ha hb)
theorem Val_neqU {x y : Operand} {t t' : TypeId} [hk : KeyTy P t [.i64, .i64]] {a b a' b' : Int} (hx : ev e x = .agg [.int .i64 a, .int .i64 b].toArray) (hy : ev e y = .agg [.int .i64 a', .int .i64 b'].toArray) (h1 : a ≠ a' ∨ b ≠ b') (ha : -1000000 ≤ a ∧ a ≤ 1000000) (hb : -1000000 ≤ b ∧ b ≤ 1000000) (ha' : -1000000 ≤ a' ∧ a' ≤ 1000000) (hb' : -1000000 ≤ b' ∧ b' ≤ 1000000) : Val P N w0 L e ⟨d, .binOp .neq t x y t', ty, pos, af, g⟩ (.bool true) :=
  Val_neqIT (ks := [.i64, .i64]) (a := [a, b]) (b := [a', b']) hx hy (by intro h; simp only [List.cons.injEq, and_true] at h; omega) (inKw ha hb) (inKw ha' hb')
theorem Val_remE2 {x y : Operand} {t t' : TypeId} {a b c : Nat} (hc : a % b = c) (hb : 0 < b) (hx : ev e x = .int .i64 (a : Int)) (hy : ev e y = .int .i64 (b : Int)) : Val P N w0 L e ⟨d, .binOp .rem t x y t', ty, pos, af, g⟩ (.int .i64 (c : Int)) := by
  have := Val_rem (P := P) (N := N) (w0 := w0) (L := L) (d := d) (ty := ty) (pos := pos) (af := af) (g := g) (t := t) (t' := t') hx hy (by omega)
  have e : ((a : Int).tmod b) = (c : Int) := by rw [Int.tmod_eq_emod_of_nonneg (by omega), ← hc]; omega
  rwa [e] at this
theorem Val_quoE {x y : Operand} {t t' : TypeId} {a b c : Nat} (hc : a / b = c) (hb : 0 < b) (ha : a ≤ 1000000) (hx : ev e x = .int .i64 (a : Int)) (hy : ev e y = .int .i64 (b : Int)) : Val P N w0 L e ⟨d, .binOp .quo t x y t', ty, pos, af, g⟩ (.int .i64 (c : Int)) := by
  have h1 : ((a : Int).tdiv b) = (c : Int) := by rw [Int.tdiv_eq_ediv_of_nonneg (by omega), ← hc]; omega
  have h2 : c ≤ a := by rw [← hc]; exact Nat.div_le_self a b
  have := Val_quo (P := P) (N := N) (w0 := w0) (L := L) (d := d) (ty := ty) (pos := pos) (af := af) (g := g) (t := t) (t' := t') hx hy (by omega) (by rw [h1]; exact InK_i64 (by omega) (by omega))
  rwa [h1] at this
end
end Go.Proofs.Ytlpahkmfjpjheaa
end

section
namespace Go.Proofs.Ytlpahkmfjpjheaa
open Go.RowKit
theorem flat_at {sz : Nat} (hs : 0 < sz) {rows : List (List Value)} (hr : ∀ r ∈ rows, r.length = sz) {j : Nat} {u : Value} (h : rows.flatten[j]? = some u) : ∃ hk : j / sz < rows.length, rows[j / sz][j % sz]? = some u := by
  have hl : ∀ l : List (List Value), (∀ r ∈ l, r.length = sz) → l.flatten.length = l.length * sz := by
    intro l
    induction l with
    | nil => intro _; simp
    | cons r l ih => intro h; rw [List.flatten_cons, List.length_append, ih (fun x hx => h x (.tail _ hx)), h r (.head _), List.length_cons, Nat.succ_mul, Nat.add_comm]
  have hj := (List.getElem?_eq_some_iff.1 h).1
  rw [hl rows hr] at hj
  have hk : j / sz < rows.length := Nat.div_lt_of_lt_mul (by rw [Nat.mul_comm]; exact hj)
  refine ⟨hk, ?_⟩
  have e : j = j / sz * sz + j % sz := by rw [Nat.mul_comm]; exact (Nat.div_add_mod j sz).symm
  rw [e, flat_get rows (j / sz) (j % sz) hk hr (Nat.mod_lt _ hs)] at h
  exact h
theorem SlAt.flat {M : Nat} {w : World} {A : Option Addr} {sz : Nat} {rows : List (List Value)} (hs : 0 < sz) (h : SlAt M w A sz rows) (hr : ∀ r ∈ rows, r.length = sz) : ∀ j u, rows.flatten[j]? = some u → ∃ b o, A = some ⟨b, o, none⟩ ∧ w.cell? ⟨b, o + j, none⟩ = some u := by
  intro j u hj
  obtain ⟨hk, hu⟩ := flat_at hs hr hj
  obtain ⟨b, o, h1, _, h3⟩ := h _ hk
  refine ⟨b, o, h1, ?_⟩
  have := h3 (j % sz) u hu
  rwa [Nat.add_assoc, show j / sz * sz + j % sz = j by rw [Nat.mul_comm]; exact Nat.div_add_mod j sz] at this
theorem ones_flat : ∀ {rows : List (List Value)}, (∀ r ∈ rows, ones r = true) → ones rows.flatten = true
  | [], _ => rfl
  | r :: rows, h => by
    have h1 := h r (.head _)
    have h2 := ones_flat fun x hx => h x (.tail _ hx)
    unfold ones at h1 h2 ⊢
    rw [List.flatten_cons, List.all_append, h1, h2]; rfl
theorem map_len {α : Type} {f : α → List Value} {sz : Nat} (hf : ∀ x, (f x).length = sz) (l : List α) : ∀ r ∈ l.map f, r.length = sz := by
  intro r hr
  obtain ⟨x, _, rfl⟩ := List.mem_map.1 hr
  exact hf x
theorem map_ones {α : Type} {f : α → List Value} (hf : ∀ x, ones (f x) = true) (l : List α) : ∀ r ∈ l.map f, ones r = true := by
  intro r hr
  obtain ⟨x, _, rfl⟩ := List.mem_map.1 hr
  exact hf x
theorem map_flat {α : Type} {f : α → List Value} {sz : Nat} (hf : ∀ x, (f x).length = sz) (l : List α) : ((l.map f).flatten).length = l.length * sz := by
  induction l with
  | nil => simp
  | cons x l ih => rw [List.map_cons, List.flatten_cons, List.length_append, ih, List.length_cons, hf, Nat.succ_mul, Nat.add_comm]
attribute [local irreducible] AnyO AnyB QAny QB EWalk AWalk Ev WP OPS QThen QBlock QScope QLoop QBody Val New Turn Tri Enters PostA Blk Ro
attribute [local irreducible] AnyC QC
section
variable (N : Nat) (w0 : World)
set_option maxHeartbeats 2000000 in
theorem with39_a (L : Hp) (g : Bg) (l : Lk) (hlk : ∀ w, Inv N w0 L w → SlAt w.heap.size w g.A3 4 (g.h.looks.map lkL)) (hn : g.h.looks.length ≤ 1000) (hA : g.A3 = none → g.h.looks.length = 0) : Tri Try.prog N w0 L 39 [heapV g, .agg (lkL l).toArray].toArray fun x L' =>
    ∃ s, x = .returned (.agg [.slice g.A1 g.h.heaps.length g.c1, .slice g.A2 g.h.rains.length g.c2, .int .i64 g.h.d0, .int .i64 g.h.d1, .int .i64 g.h.d2, .int .i64 g.h.limit, svV s (g.h.looks.length + 1)].toArray) ∧ svOk s 4 (g.h.looks.length + 1) ((g.h.looks.map lkL).flatten ++ lkL l) ∧ L' = svH 61 4 (g.h.looks.length + 1) ((g.h.looks.map lkL).flatten ++ lkL l) s L := by
  refine Tri.fgt ?_
  refine tri_of_WP Try.func39 rfl (n := 14) rfl (by simp) ?_
  have hsrc : ∀ L', Wk L' L → ∀ w, Inv N w0 L' w → ∀ j u, ((g.h.looks.map lkL).flatten)[j]? = some u → ∃ b o, g.A3 = some ⟨b, o, none⟩ ∧ w.cell? ⟨b, o + j, none⟩ = some u := fun L' hS w hI => (hlk w (hI.wk hS)).flat (by omega) (map_len (f := lkL) (fun _ => rfl) _)
  have hl4 : ((g.h.looks.map lkL).flatten).length = g.h.looks.length * (3 + 1) := map_flat (f := lkL) (fun _ => rfl) _
  have ho4 : ones ((g.h.looks.map lkL).flatten) = true := ones_flat (map_ones (f := lkL) (fun _ => rfl) _)
  obtain ⟨m, hm⟩ : ∃ m, g.h.looks.length = m := ⟨_, rfl⟩
  obtain ⟨xs, hxs⟩ : ∃ xs, (g.h.looks.map lkL).flatten = xs := ⟨_, rfl⟩
  unfold heapV hvL
  rw [hxs] at hsrc hl4 ho4 ⊢
  rw [hm] at hl4 hn hA ⊢
  unfold lkL
  repeat' (first | (refine GiP ?_; first | (refine Znh ?_) | (with_reducible refine Znl ?_) | (refine Zatd 5 ?_; refine Zbs fun b5 => ?_) | (refine Zatd 8 ?_; refine OPS_append0 rfl rfl rfl (by intro s9; repeat (first | exact Grow.here | apply Grow.there | apply Grow.sv | apply Grow.app)) svOk0 (hsrc _ (by repeat (first | exact Wk.refl _ | apply Wk.keep1 | apply Wk.drop | apply Wk.sv | apply Wk.svD | apply Wk.appD))) hA hl4 ho4 (by simp only [maxLen]; omega) (by omega) (fun s8 hs8 => ?_)) | (refine Zatd 10 ?_; refine Zal 10 fun b10 => ?_) | (refine Zatd 11 ?_; refine Zag (fun s11 hs11 => ?_)) | (refine Zatd 12 ?_; refine Zv Zfa ?_) | (refine Zatn ?_; refine Zst ?_)) | (refine GiW ?_; first | (refine Zsq fun K hK => ?_) | (refine ZrN 0 fun _ => ?_; refine Zal 2 fun b2 => ?_; refine Zal 3 fun b3 => ?_; refine Zal 4 fun b4 => ?_) | (refine ZrN 2 fun _ => ?_; refine Zv Zla ?_; refine Zst ?_) | (with_reducible apply WP_ret) | (refine WP_drawnS (id := 1) [1, 2, 4] [1, 2, 4] [] [6, 7, 9] (k := 3) (k2 := 3) (by repeat (first | apply Sub.sv | apply Sub.keep | apply Sub.appK | exact Sub.refl _)) (by kernel_rfl) prog_mixed (by kernel_rfl) (by kernel_rfl) rfl ?_; refine Zew rfl Zfa ?_; refine Zew rfl Zld ?_; refine Zew rfl Zla ?_)) | (with_reducible apply EWalk_nil) | (refine GiC ?_; first | (refine ZgC [1, 2, 4] ?_; refine ZC2 _ 0 [1, 2, 4, 0] 5 [1, 2, 4, 5] ?_ ?_) | (refine ZgC [1, 2, 4, 0] ?_; refine ZC2 _ 3 [1, 2, 4, 0, 3] 5 [1, 2, 4, 0, 5] ?_ ?_) | (refine ZgC [1, 2, 4, 0, 3] ?_; refine ZC1 _ 5 [1, 2, 4, 0, 3, 5] ?_) | (refine ZgC [1, 2, 4, 0, 3, 5] ?_; refine ZCl _ ?_) | (refine ZgC [1, 2, 4, 0, 5] ?_; refine ZC1 _ 3 [1, 2, 4, 0, 3, 5] ?_) | (refine ZgC [1, 2, 4, 5] ?_; refine ZC1 _ 0 [1, 2, 4, 0, 5] ?_)) | (refine GiO ?_; first | (refine ZgO [1, 2, 4, 0, 3, 5] ?_; refine ZO1 _ 6 [1, 2, 4, 0, 3, 5, 6] ?_) | (refine ZgO [1, 2, 4, 0, 3, 5, 6] ?_; refine ZO1 _ 7 [1, 2, 4, 0, 3, 5, 6, 7] ?_) | (refine ZgO [1, 2, 4, 0, 3, 5, 6, 7] ?_; refine ZO1 _ 8 [1, 2, 4, 0, 3, 5, 6, 7, 8] ?_) | (refine ZgO [1, 2, 4, 0, 3, 5, 6, 7, 8] ?_; refine ZOd _ ?_; (try with_reducible apply noP_normal); (try with_reducible exact key.out))) | (refine Zhn ?_) | (refine AWalk_0 ?_) | (with_reducible apply QAny_normal) | (with_reducible apply QC_normal))
  all_goals
    refine QBody_res rfl (.cellN rfl (by repeat (first | exact Mem.here | assumption | apply Mem.there | apply Mem.sv | apply Mem.app)) (.here (.cons (.cons (.cons (.cons (.cons (.cons (.cons .nil)))))))) .nil) rfl ?_
    exact ⟨svH 61 4 (m + 1) (xs ++ [.int .i64 l.heap, .int .i64 l.day, .int .i64 l.lo, .int .i64 l.hi]) _ L, (by repeat (first | exact Wk.refl _ | apply Wk.keep1 | apply Wk.drop | apply Wk.sv | apply Wk.svD | apply Wk.appD)), _, rfl, by assumption, rfl⟩
theorem with39_tri (L : Hp) (g : Bg) (l : Lk) (hlk : ∀ w, Inv N w0 L w → SlAt w.heap.size w g.A3 4 (g.h.looks.map lkL)) (hn : g.h.looks.length ≤ 1000) (hA : g.A3 = none → g.h.looks.length = 0) : Tri Try.prog N w0 L 39 [heapV g, .agg (lkL l).toArray].toArray fun x L' => ∃ v, x = .returned v ∧ ∃ b cap, v = heapV { g with h := addL g.h l, A3 := some ⟨b, 0, none⟩, c3 := cap } ∧ L' = (b, Row 61 4 (g.h.looks.length + 1) cap (((g.h.looks ++ [l]).map lkL).flatten)) :: L := by
  refine (with39_a N w0 L g l hlk hn hA).mono ?_
  rintro x L' ⟨s, rfl, hs, rfl⟩
  cases s with
  | none => have := hs.2 rfl; omega
  | some p =>
    obtain ⟨b, cap⟩ := p
    have e : ((g.h.looks ++ [l]).map lkL).flatten = (g.h.looks.map lkL).flatten ++ lkL l := by simp
    refine ⟨_, rfl, b, cap, ?_, ?_⟩
    · unfold heapV hvL
      have : (addL g.h l).looks.length = g.h.looks.length + 1 := by simp [addL]
      dsimp only
      rw [this]
      rfl
    · rw [e]; rfl
end
end Go.Proofs.Ytlpahkmfjpjheaa
end

section
namespace Go.Proofs.Ytlpahkmfjpjheaa
open Go.RowKit
theorem vB_of' {h : Hv} (v : VH h) : vB h = true := by
  have h1 := v.nh
  have h2 := v.nr
  have h3 := v.lim
  have h4 := v.nl
  have h5 := v.dr
  simp only [vB, numB, drB, Bool.and_eq_true, List.all_eq_true, within, isSpanB, tfB, lkB, decide_eq_true_eq]
  refine ⟨⟨⟨⟨?_, fun t ht => ?_⟩, fun s hs => ?_⟩, ?_⟩, fun l hl => ?_⟩
  · refine ⟨⟨⟨?_, ?_⟩, ?_⟩, h4⟩ <;> constructor <;> omega
  · have := v.tf t ht; refine ⟨⟨?_, ?_⟩, ?_⟩ <;> omega
  · have := v.rn s hs; omega
  · refine ⟨⟨⟨?_, ?_⟩, ?_, ?_⟩, ?_, ?_⟩ <;> omega
  · have := v.lk l hl; refine ⟨⟨⟨?_, ?_⟩, ?_, ?_⟩, ?_⟩ <;> omega
/-- Heaps that are not valid. -/
theorem errE_bad {h : Hv} (hb : vB h = false) (ok : Bool) : errE h ok = 1 := by simp [errE, hb]
theorem wetV_bad {h : Hv} (hb : vB h = false) (i d : Int) : WetV h i d = (0, 0) := by
  unfold WetV; rw [errE_bad hb, if_neg (by omega)]
theorem all_bad {h : Hv} (hb : vB h = false) : AllE h = 1 ∧ AllV h = 0 := by
  have : AllE h = 1 := by unfold AllE errW; rw [errE_bad hb, if_neg (by omega)]
  exact ⟨this, by unfold AllV; rw [this, if_neg (by omega)]⟩
/-- What is none. -/
theorem errE_none {h : Hv} (hb : vB h = true) : errE h false = 2 := by simp [errE, hb]
theorem none_wet (h : Hv) : WetOk h h.heaps.length 0 = false := by unfold WetOk within; simp; omega
theorem none_rain (h : Hv) : DayOk h h.rains.length = false := by unfold DayOk within; simp; omega
theorem none_dry (h : Hv) : WetOk h 0 (-1) = false := by unfold WetOk within; simp
theorem none_day (h : Hv) : DayOk h (-1) = false := by unfold DayOk within; simp
theorem none_when {h : Hv} (hb : vB h = true) : WhenE h (-1) = 2 := by
  have h1 : HeapOk h (-1) = false := by unfold HeapOk within; simp
  unfold WhenE errW
  rw [h1, errE_none hb, if_neg (by omega)]
section
variable {h : Hv} (hv : VH h) (h0 : toldL h ≠ [])
include hv h0
theorem ends_rain {d : Nat} (hd : d < h.rains.length) {c : Int} (hc : h.rains[d].1 ≤ c ∧ c ≤ h.rains[d].2) :
    (errE (setR h d (c, c)) (DayOk (setR h d (c, c)) d) = 0 ∧ RainV (setR h d (c, c)) d = (c, c) ∧ (rainS h d).1 ≤ c ∧ c ≤ (rainS h d).2) ∨
    (errE (setR h d (c, c)) (DayOk (setR h d (c, c)) d) = 10 ∧ RainV (setR h d (c, c)) d = (0, 0) ∧ c ≠ (rainS h d).1 ∧ c ≠ (rainS h d).2) := by
  have hv' : VH (setR h d (c, c)) := VH_setR hv hd (by dsimp only; omega)
  have hd' : d < (setR h d (c, c)).rains.length := by show d < (h.rains.set d (c, c)).length; rw [List.length_set]; exact hd
  obtain ⟨k1, k2⟩ := rain_known hv h0 hd hc
  by_cases h1 : toldL (setR h d (c, c)) = []
  · have := rain_clash (vB_of' hv') h1 hd'
    refine .inr ⟨this.2, this.1, fun he => k2 (.inl he) h1, fun he => k2 (.inr he) h1⟩
  · have := rain_ok (vB_of' hv') h1 hd'
    obtain ⟨a, b, e⟩ := k1 h1
    exact .inl ⟨this.2, by rw [this.1, e], a, b⟩
theorem ends_look {i d : Nat} (hi : i < h.heaps.length) (hd : d < h.rains.length) (hn : h.looks.length < 5) {c : Int} (hc : 0 ≤ c ∧ c ≤ 100) (he : c = (wetS h i d).1 - 1 ∨ c = (wetS h i d).1 ∨ c = (wetS h i d).2 ∨ c = (wetS h i d).2 + 1) :
    (errE (addL h ⟨i, d, c, c⟩) (WetOk (addL h ⟨i, d, c, c⟩) i d) = 0 ∧ WetV (addL h ⟨i, d, c, c⟩) i d = (c, c) ∧ (wetS h i d).1 ≤ c ∧ c ≤ (wetS h i d).2) ∨
    (errE (addL h ⟨i, d, c, c⟩) (WetOk (addL h ⟨i, d, c, c⟩) i d) = 10 ∧ WetV (addL h ⟨i, d, c, c⟩) i d = (0, 0) ∧ ¬ ((wetS h i d).1 ≤ c ∧ c ≤ (wetS h i d).2)) := by
  obtain ⟨hv', h1, h2⟩ := look_known hv h0 hi hd hn hc
  have hH := wetS_hull hv h0 hi hd
  by_cases h3 : toldL (addL h ⟨i, d, c, c⟩) = []
  · have := wet_clash (vB_of' hv') h3 (i := i) (d := d) hi hd
    refine .inr ⟨this.2, this.1, fun hh => ?_⟩
    have hp : ¬ WetP h i d c := fun hp => h1.2 hp h3
    have e1 : c ≠ (wetS h i d).1 := fun e => hp (e ▸ hH.1)
    have e2 : c ≠ (wetS h i d).2 := fun e => hp (e ▸ hH.2.1)
    omega
  · have := wet_ok (vB_of' hv') h3 (i := i) (d := d) hi hd
    have hb := hH.2.2 c (h1.1 h3)
    exact .inl ⟨this.2, by rw [this.1, h2 h3], hb⟩
end
end Go.Proofs.Ytlpahkmfjpjheaa
end

section
namespace Go.Proofs.Ytlpahkmfjpjheaa
open Go.RowKit
attribute [local irreducible] AnyO AnyB QAny QB EWalk AWalk Ev WP OPS QThen QBlock QScope QLoop QBody Val New Turn Tri Enters PostA Blk Ro
attribute [local irreducible] AnyC QC
theorem Val_remE {N : Nat} {w0 : World} {L : Hp} {e : Env} {d : Option Nat} {ty : TypeId} {pos : String} {af : Array Edge} {g : Option (Nat × Bool)} {x y : Operand} {t t' : TypeId} {a b c : Nat} (hc : a % b = c) (hb : 0 < b) (hx : ev e x = .int .i64 (a : Int)) (hy : ev e y = .int .i64 (b : Int)) : Val Try.prog N w0 L e ⟨d, .binOp .rem t x y t', ty, pos, af, g⟩ (.int .i64 (c : Int)) := by
  have := Val_rem (P := Try.prog) (N := N) (w0 := w0) (L := L) (d := d) (ty := ty) (pos := pos) (af := af) (g := g) (t := t) (t' := t') hx hy (by omega)
  have e : ((a : Int).tmod b) = (c : Int) := by rw [Int.tmod_eq_emod_of_nonneg (by omega), ← hc]; omega
  rwa [e] at this
theorem longB_ok {h : Hv} (hl : longB h = false) : h.heaps.length ≤ 40 ∧ h.rains.length ≤ 40 ∧ h.looks.length ≤ 40 := by
  unfold longB at hl
  simp only [decide_eq_false_iff_not] at hl
  omega
section
variable (N : Nat) (w0 : World)
/-- Far too long, or not valid: the examples alone. -/
theorem dry_law0 (L : Hp) (g : Bg) (hA : HeapAt N w0 g) (which at_ : Nat) (h0 : longB g.h = true ∨ vB g.h = false) : Ret Try.prog N w0 L 8 [heapV g, .int .u8 (which : Int), .int .u8 (at_ : Int)].toArray (.bool true) := by
  refine Ret.fgt ?_
  refine tri_of_WP Try.func8 rfl (n := 287) rfl (by simp) ?_
  have h34 := fun L => long_ret N w0 L g
  have h13 := fun L => alive_ret N w0 L
  cases hlong : longB g.h with
  | true =>
    rw [hlong] at h34
    unfold heapV hvL at h34 ⊢
    repeat' (first | (refine GiP ?_; first | (refine Znh ?_) | (refine Zatd 31 ?_; (first | (refine Zv Zxpt ?_) | (refine Zv Zxpf ?_))) | (refine Zsk ?_)) | (refine GiW ?_; first | (refine Zsq fun K hK => ?_) | (refine ZrN 0 fun _ => ?_; refine Zal 3 fun b3 => ?_; refine Zv Zab ?_) | (refine ZrG 1 ?_; refine Zv Zla ?_; refine Zcl (Enters_fn rfl) (h34 _) ?_; refine Zv Zmb ?_) | (refine ZrN 2 fun _ => ?_; refine Zcl (Enters_fn rfl) (h13 _) ?_; refine Zv Zab ?_) | (refine WP_cond_true rfl ?_) | (with_reducible apply WP_ret)) | (refine Zhr ?_))
    exact QBody_ret1 rfl (rfl : _ = Value.bool _) ⟨rfl, (by repeat (first | exact Wk.refl _ | apply Wk.keep1 | apply Wk.drop | apply Wk.sv | apply Wk.svD | apply Wk.appD))⟩
  | false =>
    obtain ⟨l1, l2, l3⟩ := longB_ok hlong
    have h35 := fun L => Heaps_ret N w0 L g hA (by omega) (by omega) (by omega)
    have hvb : vB g.h = false := by rcases h0 with h0 | h0; rw [hlong] at h0; cases h0; exact h0
    rw [hlong] at h34
    rw [hvb] at h35
    unfold heapV hvL at h34 h35 ⊢
    repeat' (first | (refine GiP ?_; first | (refine Znh ?_) | (refine Zatd 31 ?_; (first | (refine Zv Zxpt ?_) | (refine Zv Zxpf ?_))) | (refine Zatd 28 ?_; refine Zv Zla ?_) | (refine Zatd 29 ?_; refine Zcl (Enters_fn rfl) (h35 _) ?_) | (refine Zatd 30 ?_; refine Zv Zxnot ?_)) | (refine GiW ?_; first | (refine Zsq fun K hK => ?_) | (refine ZrN 0 fun _ => ?_; refine Zal 3 fun b3 => ?_; refine Zv Zab ?_) | (refine ZrG 1 ?_; refine Zv Zla ?_; refine Zcl (Enters_fn rfl) (h34 _) ?_; refine Zv Zmb ?_) | (refine ZrN 2 fun _ => ?_; refine Zcl (Enters_fn rfl) (h13 _) ?_; refine Zv Zab ?_) | (refine WP_cond_true rfl ?_) | (with_reducible apply WP_ret)) | (refine Zhr ?_))
    exact QBody_ret1 rfl (rfl : _ = Value.bool _) ⟨rfl, (by repeat (first | exact Wk.refl _ | apply Wk.keep1 | apply Wk.drop | apply Wk.sv | apply Wk.svD | apply Wk.appD))⟩
end
end Go.Proofs.Ytlpahkmfjpjheaa
end

section
namespace Go.Proofs.Ytlpahkmfjpjheaa
open Go.RowKit
section
variable {P : Program} {N : Nat} {w0 : World} {L : Hp} {e : Env} {d : Option Nat} {ty : TypeId} {pos : String} {af : Array Edge} {g : Option (Nat × Bool)} {x y : Operand} {t t' : TypeId} {a b i : Nat}
theorem wrap_i64 {m : Nat} (h : m < 2 ^ 63) : IntKind.wrap .i64 (m : Int) = m := IntWalk.i64_in _ ⟨by omega, by omega⟩
theorem Val_andNotS (hx : ev e x = .int .i64 (a : Int)) (hy : ev e y = .int .i64 (b : Int)) (ha : a < 2 ^ 63) (hb : b < 2 ^ 63) :
    Val P N w0 L e ⟨d, .binOp .andNot t x y t', ty, pos, af, g⟩ (.int .i64 ((a &&& (2 ^ 64 - 1 - b) : Nat) : Int)) := by
  refine Val_bits hx hy rfl fun w => ?_
  have h1 : (BitVec.ofInt IntKind.i64.bits (a : Int) &&& ~~~ BitVec.ofInt IntKind.i64.bits (b : Int)).toNat = a &&& (2 ^ 64 - 1 - b) := by
    have e1 : a % 2 ^ IntKind.i64.bits = a := Nat.mod_eq_of_lt (by show a < 2 ^ 64; omega)
    have e2 : b % 2 ^ IntKind.i64.bits = b := Nat.mod_eq_of_lt (by show b < 2 ^ 64; omega)
    rw [BitVec.toNat_and, BitVec.toNat_not]
    simp only [BitVec.ofInt_natCast, BitVec.toNat_ofNat, e1, e2]
    rfl
  simp only [Op.intBits, h1, Sem.run_pure]
  rw [wrap_i64 (Nat.lt_of_le_of_lt Nat.and_le_left ha)]
theorem Val_shlS {k' : IntKind} (hx : ev e x = .int .i64 1) (hy : ev e y = .int k' (i : Int)) (hi : i < 62) :
    Val P N w0 L e ⟨d, .binOp .shl t x y t', ty, pos, af, g⟩ (.int .i64 ((2 ^ i : Nat) : Int)) := by
  refine Val_shift hx hy rfl fun w => ?_
  have h1 : ¬ ((i : Int) < 0) := by omega
  have h2 : min (i : Int).toNat IntKind.i64.bits = i := by
    have : IntKind.i64.bits = 64 := rfl
    simp; omega
  simp only [Op.shift, if_neg h1, h2, Sem.run_pure]
  have h3 : (1 : Int) * 2 ^ i = ((2 ^ i : Nat) : Int) := by norm_cast; simp
  rw [h3, wrap_i64 (Nat.pow_lt_pow_right (by omega) (by omega))]
end
end Go.Proofs.Ytlpahkmfjpjheaa
end

section
namespace Go.Proofs.Ytlpahkmfjpjheaa
open Go.RowKit
/-- The looks whose bits are set, from bit k on. -/
def selL (s : Nat) : List Lk → Nat → List Lk
  | [], _ => []
  | l :: ls, k => if s / 2 ^ k % 2 = 1 then l :: selL s ls (k + 1) else selL s ls (k + 1)
theorem selL_mem {s : Nat} {l : Lk} : ∀ {ls : List Lk} {k : Nat}, l ∈ selL s ls k ↔ ∃ j, ls[j]? = some l ∧ s / 2 ^ (k + j) % 2 = 1
  | [], k => by simp [selL]
  | q :: ls, k => by
    unfold selL
    have ih := selL_mem (s := s) (l := l) (ls := ls) (k := k + 1)
    have key : (∃ j, (q :: ls)[j]? = some l ∧ s / 2 ^ (k + j) % 2 = 1) ↔ (q = l ∧ s / 2 ^ k % 2 = 1) ∨ ∃ j, ls[j]? = some l ∧ s / 2 ^ (k + 1 + j) % 2 = 1 := by
      constructor
      · rintro ⟨j, h1, h2⟩
        cases j with
        | zero => exact .inl ⟨by simpa using h1, by simpa using h2⟩
        | succ j => exact .inr ⟨j, by simpa using h1, by rw [show k + 1 + j = k + (j + 1) by omega]; exact h2⟩
      · rintro (⟨h1, h2⟩ | ⟨j, h1, h2⟩)
        · exact ⟨0, by simp [h1], by simpa using h2⟩
        · exact ⟨j + 1, by simpa using h1, by rw [show k + (j + 1) = k + 1 + j by omega]; exact h2⟩
    rw [key]
    split
    · rename_i h
      rw [List.mem_cons, ih]
      exact ⟨fun h1 => h1.elim (fun h2 => .inl ⟨h2.symm, h⟩) .inr, fun h1 => h1.elim (fun h2 => .inl h2.1.symm) .inr⟩
    · rename_i h
      rw [ih]
      exact ⟨.inr, fun h1 => h1.elim (fun h2 => absurd h2.2 h) id⟩
theorem selL_len (s : Nat) : ∀ (ls : List Lk) (k : Nat), (selL s ls k).length ≤ ls.length
  | [], _ => Nat.le_refl _
  | _ :: ls, k => by
    have := selL_len s ls (k + 1)
    unfold selL
    split <;> simp <;> omega
theorem selL_snoc (s : Nat) (q : Lk) : ∀ (ls : List Lk) (k : Nat), selL s (ls ++ [q]) k = selL s ls k ++ (if s / 2 ^ (k + ls.length) % 2 = 1 then [q] else [])
  | [], k => by simp [selL]
  | l :: ls, k => by
    simp only [List.cons_append, selL]
    rw [selL_snoc s q ls (k + 1), List.length_cons, show k + 1 + ls.length = k + (ls.length + 1) by omega]
    split <;> simp
def selH (h : Hv) (s : Nat) : Hv := { h with looks := selL s h.looks 0 }
theorem VH_sel {h : Hv} (hv : VH h) (s : Nat) : VH (selH h s) := by
  refine ⟨hv.nh, hv.nr, hv.lim, Nat.le_trans (selL_len s h.looks 0) hv.nl, hv.tf, hv.rn, hv.dr, fun l hl => ?_⟩
  obtain ⟨j, h1, _⟩ := selL_mem.1 hl
  exact hv.lk l (List.mem_of_getElem? h1)
theorem One_sel {h : Hv} {s : Nat} {r : List Int} {i : Nat} {n : Int} : One (selH h s) (evL (selH h s)) r i n ↔ One h s r i n := by
  unfold One
  refine ⟨fun ⟨a, b, c⟩ => ⟨a, b, fun j l hj hs hi => ?_⟩, fun ⟨a, b, c⟩ => ⟨a, b, fun j l hj _ hi => ?_⟩⟩
  · have hm : l ∈ selL s h.looks 0 := selL_mem.2 ⟨j, hj, by simpa using hs⟩
    obtain ⟨q, hq, he⟩ := List.getElem_of_mem hm
    exact c q l (by show (selL s h.looks 0)[q]? = some l; rw [List.getElem?_eq_getElem hq, he]) (evL_bit.2 hq) hi
  · have hm : l ∈ selL s h.looks 0 := List.mem_of_getElem? hj
    obtain ⟨q, hq, hb⟩ := selL_mem.1 hm
    exact c q l hq (by simpa using hb) hi
/-- The looks of a set alone: there is a truth just if they can all be right. -/
theorem sel_told {h : Hv} (hv : VH h) (s : Nat) : toldL (selH h s) ≠ [] ↔ someB h s = true := by
  rw [Ne, toldL_nil (VH_sel hv s), Classical.not_not, someB_iff hv]
  constructor
  · rintro ⟨r, h1, h2⟩
    exact ⟨r, h1, fun i hi => let ⟨n, hn⟩ := h2 i hi; ⟨n, One_sel.1 hn⟩⟩
  · rintro ⟨r, h1, h2⟩
    exact ⟨r, h1, fun i hi => let ⟨n, hn⟩ := h2 i hi; ⟨n, One_sel.2 hn⟩⟩
/-- What is asked of the rain of the first day. -/
theorem sel_rain {h : Hv} (hv : VH h) (s : Nat) : (errE (selH h s) (DayOk (selH h s) ((0 : Nat) : Int)) = 10 ∧ someB h s = false) ∨ (errE (selH h s) (DayOk (selH h s) ((0 : Nat) : Int)) = 0 ∧ someB h s = true) := by
  have hV := VH_sel hv s
  have h0 : 0 < (selH h s).rains.length := by have := hv.nr; show 0 < h.rains.length; omega
  have ht := sel_told hv s
  by_cases h1 : toldL (selH h s) = []
  · refine .inl ⟨(rain_clash (vB_of' hV) h1 h0).2, ?_⟩
    cases h2 : someB h s with
    | false => rfl
    | true => exact absurd h1 (ht.2 h2)
  · exact .inr ⟨(rain_ok (vB_of' hV) h1 h0).2, ht.1 h1⟩
end Go.Proofs.Ytlpahkmfjpjheaa
end

section
namespace Go.Proofs.Ytlpahkmfjpjheaa
open Go.RowKit
/-- How many bits are set. -/
def sizeN : Nat → Nat → Nat
  | 0, _ => 0
  | f + 1, s => if s = 0 then 0 else s % 2 + sizeN f (s / 2)
attribute [local irreducible] AnyO AnyB QAny QB EWalk AWalk Ev WP OPS QThen QBlock QScope QLoop QBody Val New Turn Tri Enters PostA Blk Ro
attribute [local irreducible] AnyC QC
section
variable (N : Nat) (w0 : World)
theorem size43_ret (L : Hp) (s : Nat) (hs : s < 2 ^ 19) : Ret Try.prog N w0 L 43 [.int .i64 (s : Int)].toArray (.int .i64 (sizeN 19 s : Int)) := by
  refine Ret.fgt ?_
  refine tri_of_WP Try.func43 rfl (n := 13) rfl (by simp) ?_
  repeat' (first | (refine GiP ?_; first | (refine Znh ?_) | (with_reducible refine Znl ?_)) | (refine GiW ?_; first | (refine Zsq fun K hK => ?_) | (refine ZrN 0 fun _ => ?_; refine Zv Zai ?_) | (refine ZrN 1 fun _ => ?_; refine Zv Zai ?_) | (refine WP_cond_true rfl ?_) | (refine WP_cond_false rfl ?_) | (refine Zcd (fun hc => ?_) (fun hc => ?_) <;> (try (exfalso; omega))) | (with_reducible apply WP_skip) | (with_reducible apply WP_block) | (with_reducible apply WP_exit) | (with_reducible apply WP_ret)) | (refine Zhn ?_) | (with_reducible apply QBlock_normal) | (refine Zhx ?_) | (with_reducible apply QBlock_hit) | (refine Zqb ?_) | (with_reducible apply QLoop_exit) | (refine Zhr ?_) | (with_reducible apply QBlock_ret) | (with_reducible apply QLoop_ret))
  refine WP_loop [0, 3, 4, 5, 6, 7, 8, 9, 10, 11] (fun st : Nat × Nat × Nat => [(0, .int .i64 (st.1 : Int)), (3, .int .i64 (st.2.1 : Int))]) (fun _ => L) (fun st => st.1 < 2 ^ st.2.2 ∧ st.2.2 ≤ 19 ∧ st.2.1 ≤ 19 - st.2.2 ∧ st.2.1 + sizeN st.2.2 st.1 = sizeN 19 s) (fun st => st.1) (s, 0, 19) (.cons rfl (.cons rfl .nil)) (Wk.refl _) ⟨hs, Nat.le_refl _, Nat.zero_le _, by simp⟩ ?_
  rintro ⟨q, n, f⟩ j ⟨h1, h2, h3, h4⟩
  dsimp only at h1 h2 h3 h4 ⊢
  by_cases hq : q = 0
  · subst hq
    have h5 : sizeN f 0 = 0 := by cases f <;> rfl
    rw [h5, Nat.add_zero] at h4
    repeat' (first | (refine GiP ?_; first | (refine Znh ?_) | (with_reducible refine Znl ?_)) | (refine GiW ?_; first | (refine Zsq fun K hK => ?_) | (refine ZrN 2 fun _ => ?_; refine Zv Zmi ?_; refine Zv Zygtr ?_) | (refine ZrN 4 fun _ => ?_; refine Zv Zmi ?_; refine Zv Zai ?_) | (refine WP_cond_true rfl ?_) | (refine WP_cond_false rfl ?_) | (refine Zcd (fun hc => ?_) (fun hc => ?_) <;> (try (exfalso; omega))) | (with_reducible apply WP_skip) | (with_reducible apply WP_block) | (with_reducible apply WP_exit) | (with_reducible apply WP_ret)) | (refine Zhn ?_) | (with_reducible apply QBlock_normal) | (refine Zhx ?_) | (with_reducible apply QBlock_hit) | (refine Zqb ?_) | (with_reducible apply QLoop_exit) | (refine Zhr ?_) | (with_reducible apply QBlock_ret) | (with_reducible apply QLoop_ret))
    exact QBody_ret1 rfl (rfl : _ = Value.int _ _) ⟨by rw [h4], (by repeat (first | exact Wk.refl _ | apply Wk.keep1 | apply Wk.drop | apply Wk.sv | apply Wk.svD | apply Wk.appD))⟩
  · obtain ⟨f', rfl⟩ : ∃ f', f = f' + 1 := ⟨f - 1, by cases f with | zero => simp at h1; omega | succ f => rfl⟩
    have hp : 2 ^ (f' + 1) ≤ 2 ^ 19 := Nat.pow_le_pow_right (by omega) h2
    have h5 : sizeN (f' + 1) q = q % 2 + sizeN f' (q / 2) := by show (if q = 0 then 0 else _) = _; rw [if_neg hq]
    obtain ⟨r, hr⟩ : ∃ r, q % 2 = r := ⟨_, rfl⟩
    obtain ⟨t, ht⟩ : ∃ t, q / 2 = t := ⟨_, rfl⟩
    have hr2 : r < 2 := by omega
    rw [h5, hr, ht] at h4
    have h6 : q < 524288 := by omega
    repeat' (first | (refine GiP ?_; first | (refine Znh ?_) | (with_reducible refine Znl ?_)) | (refine GiW ?_; first | (refine Zsq fun K hK => ?_) | (refine ZrN 2 fun _ => ?_; refine Zv Zmi ?_; refine Zv Zygtr ?_) | (refine ZrN 3 fun _ => ?_; refine Zv Zmi ?_; refine Zv Zmi ?_; refine Zv (Val_remE2 hr (by omega) rfl rfl) ?_; refine Zv Zxadd ?_; refine Zv Zmi ?_; refine Zv (Val_quoE ht (by omega) (by omega) rfl rfl) ?_; refine Zv Zai ?_; refine Zv Zai ?_) | (refine WP_cond_true rfl ?_) | (refine WP_cond_false rfl ?_) | (refine Zcd (fun hc => ?_) (fun hc => ?_) <;> (try (exfalso; omega))) | (with_reducible apply WP_skip) | (with_reducible apply WP_block) | (with_reducible apply WP_exit) | (with_reducible apply WP_ret)) | (refine Zhn ?_) | (with_reducible apply QBlock_normal) | (refine Zhx ?_) | (with_reducible apply QBlock_hit) | (refine Zqb ?_) | (with_reducible apply QLoop_exit) | (refine Zhr ?_) | (with_reducible apply QBlock_ret) | (with_reducible apply QLoop_ret))
    refine QLoop_normal (t, n + r, f') (.cons rfl (.cons rfl .nil)) (by repeat (first | exact Off.frame rfl | exact Off.refl _ _ | refine Off.frameT rfl rfl ?_ | refine Off.upd rfl ?_ | refine Off.updO rfl ?_)) (by repeat (first | exact Wk.refl _ | apply Wk.keep1 | apply Wk.drop | apply Wk.sv | apply Wk.svD | apply Wk.appD)) ⟨?_, by dsimp only; omega, by dsimp only; omega, by dsimp only; omega⟩ (by dsimp only; omega)
    dsimp only
    rw [Nat.pow_succ] at h1
    omega
theorem size_pc {s : Nat} (hs : s < 32) : sizeN 19 s = pc s := by
  have : ∀ s, s < 32 → sizeN 19 s = pc s := by decide +kernel
  exact this s hs
theorem Val_andE {L : Hp} {e : Env} {d : Option Nat} {ty : TypeId} {pos : String} {af : Array Edge} {g : Option (Nat × Bool)} {x y : Operand} {t t' : TypeId} {a b c : Nat} (hc : a &&& b = c) (ha : a < 2 ^ 63) (hb : b < 2 ^ 63) (hx : ev e x = .int .i64 (a : Int)) (hy : ev e y = .int .i64 (b : Int)) : Val Try.prog N w0 L e ⟨d, .binOp .and t x y t', ty, pos, af, g⟩ (.int .i64 (c : Int)) := by
  subst hc
  exact Val_andS hx hy ha hb
set_option maxRecDepth 100000 in
set_option maxHeartbeats 4000000 in
theorem clash42_ret (L : Hp) (g : Bg) (hA : HeapAt N w0 g) (hv : VH g.h) (bh : Nat) (hm : Mem bh (Blk 27 (hvL g)) L) (s : Nat) (hs : s < 2 ^ 19) : Ret Try.prog N w0 L 42 [.int .i64 (s : Int), .pointer (some ⟨bh, 0, none⟩)].toArray (.bool (!someB g.h s)) := by
  have hnl := hv.nl
  refine Ret.fgt ?_
  refine tri_of_WP Try.func42 rfl (n := 38) rfl (by simp) ?_
  obtain ⟨bv, hbv⟩ : ∃ bv, someB g.h s = bv := ⟨_, rfl⟩
  have hsr := sel_rain hv s
  rw [hbv] at hsr ⊢
  unfold hvL at hm
  repeat' (first | (refine GiP ?_; first | (refine Znh ?_) | (with_reducible refine Znl ?_)) | (refine GiW ?_; first | (refine Zsq fun K hK => ?_) | (refine ZrN 0 fun _ => ?_; refine Zv Zab ?_) | (refine ZrN 1 fun _ => ?_; refine Zv Zla ?_; refine Zal 4 fun b4 => ?_; refine Zst ?_) | (refine ZrN 2 fun _ => ?_; refine Zv Zfa ?_; refine Zst ?_) | (refine ZrN 3 fun _ => ?_; refine Zv Zfa ?_; refine Zv Zld ?_; refine Zv Zxlen ?_; refine Zv Zmi ?_) | (refine WP_cond_true rfl ?_) | (refine WP_cond_false rfl ?_) | (refine Zcd (fun hc => ?_) (fun hc => ?_) <;> (try (exfalso; omega))) | (with_reducible apply WP_skip) | (with_reducible apply WP_block) | (with_reducible apply WP_exit) | (with_reducible apply WP_ret)) | (refine Zhn ?_) | (with_reducible apply QBlock_normal) | (refine Zhx ?_) | (with_reducible apply QBlock_hit) | (refine Zqb ?_) | (with_reducible apply QLoop_exit) | (refine Zhr ?_) | (with_reducible apply QBlock_ret) | (with_reducible apply QLoop_ret))
  refine WP_loop [5, 6, 14, 15, 16, 17, 18, 19, 20, 21, 22, 23, 24, 25, 26, 27, 28, 29, 30] (fun st : Nat × List Lk × List Value × Option (Nat × Nat) => [(14, .int .i64 st.1)]) (fun st => svH 61 4 st.2.1.length st.2.2.1 st.2.2.2 ((b4, Blk 27 [.slice g.A1 g.h.heaps.length g.c1, .slice g.A2 g.h.rains.length g.c2, .int .i64 g.h.d0, .int .i64 g.h.d1, .int .i64 g.h.d2, .int .i64 g.h.limit, svV st.2.2.2 st.2.1.length]) :: L)) (fun st => st.1 ≤ g.h.looks.length ∧ st.2.1 = selL s (g.h.looks.take st.1) 0 ∧ svOk st.2.2.2 4 st.2.1.length st.2.2.1 ∧ st.2.2.1 = (st.2.1.map lkL).flatten) (fun st => g.h.looks.length - st.1) (0, [], [], none) (.cons rfl .nil) (Wk.refl _) ⟨Nat.zero_le _, rfl, svOk_nil _, rfl⟩ ?_
  rintro ⟨k, ys, xs, s3⟩ j ⟨hk, hys, hs3, hxs⟩
  dsimp only at hk hys hs3 hxs ⊢
  have hyl : ys.length ≤ 5 := by rw [hys]; exact Nat.le_trans (selL_len _ _ _) (by rw [List.length_take]; omega)
  by_cases hkl : k < g.h.looks.length
  · obtain ⟨bA, oA, hA3, hbA, hcA⟩ := hA.looks.row k hkl
    obtain ⟨l, hl⟩ : ∃ l, g.h.looks[k] = l := ⟨_, rfl⟩
    rw [hl] at hcA
    obtain ⟨l1, l2, l3, l4⟩ := l
    have hsn := selL_snoc s (⟨l1, l2, l3, l4⟩ : Lk) (g.h.looks.take k) 0
    rw [Nat.zero_add, List.length_take, Nat.min_eq_left hk, ← hl, ← List.take_succ_eq_append_getElem hkl, ← hys, hl] at hsn
    obtain ⟨bt, hbt⟩ : ∃ bt, (s / 2 ^ k) &&& 1 = bt := ⟨_, rfl⟩
    have hb2 : bt = s / 2 ^ k % 2 := by rw [← hbt]; exact Nat.and_one_is_mod _
    have hsk : s / 2 ^ k < 2 ^ 63 := Nat.lt_of_le_of_lt (Nat.div_le_self _ _) (by omega)
    by_cases h1 : bt = 1
    · rw [if_pos (by omega)] at hsn
      repeat' (first | (refine GiP ?_; first | (refine Znh ?_) | (with_reducible refine Znl ?_)) | (refine GiW ?_; first | (refine Zsq fun K hK => ?_) | (refine ZrN 4 fun _ => ?_; refine Zv Zylss ?_) | (refine ZrN 5 fun _ => ?_; refine Zv Zmi ?_; refine Zv Zia ?_; refine Zv Zla ?_; refine Zal 6 fun b6 => ?_; refine Zv Zai ?_; refine Zst ?_) | (refine ZrN 6 fun _ => ?_; refine Zv Zmi ?_; refine Zv Zmi ?_; refine Zv (Val_shr (i := k) rfl rfl (by show k ≤ 64; omega)) ?_; refine Zv (Val_andE N w0 hbt hsk (by omega) rfl rfl) ?_; refine Zv Zyeql ?_) | (refine ZrN 7 fun _ => ?_; refine Zv Zfa ?_; refine Zv Zld ?_; refine Zv Zla ?_; refine Zal 27 fun b27 => ?_; refine Zag (fun s28 hs28 => ?_); refine Zv Zfa ?_; refine Zst ?_) | (refine ZrN 8 fun _ => ?_; refine Zv Zxadd ?_; refine Zv Zmi ?_) | (refine WP_cond_true rfl ?_) | (refine WP_cond_false rfl ?_) | (refine Zcd (fun hc => ?_) (fun hc => ?_) <;> (try (exfalso; omega))) | (with_reducible apply WP_skip) | (with_reducible apply WP_block) | (with_reducible apply WP_exit) | (with_reducible apply WP_ret)) | (refine Zhn ?_) | (with_reducible apply QBlock_normal) | (refine Zhx ?_) | (with_reducible apply QBlock_hit) | (refine Zqb ?_) | (with_reducible apply QLoop_exit) | (refine Zhr ?_) | (with_reducible apply QBlock_ret) | (with_reducible apply QLoop_ret))
      refine QLoop_normal (k + 1, ys ++ [⟨l1, l2, l3, l4⟩], _, s28) (.cons rfl .nil) (by repeat (first | exact Off.frame rfl | exact Off.refl _ _ | refine Off.frameT rfl rfl ?_ | refine Off.upd rfl ?_ | refine Off.updO rfl ?_)) ?_ ⟨by dsimp only; omega, hsn.symm, by rw [List.length_append]; exact hs28, by dsimp only; rw [hxs]; simp [lkL]⟩ (by dsimp only; omega)
      dsimp only
      rw [List.length_append, List.length_singleton]
      exact (by repeat (first | exact Wk.refl _ | apply Wk.keep1 | apply Wk.drop | apply Wk.sv | apply Wk.svD | apply Wk.appD))
    · rw [if_neg (by omega), List.append_nil] at hsn
      repeat' (first | (refine GiP ?_; first | (refine Znh ?_) | (with_reducible refine Znl ?_)) | (refine GiW ?_; first | (refine Zsq fun K hK => ?_) | (refine ZrN 4 fun _ => ?_; refine Zv Zylss ?_) | (refine ZrN 5 fun _ => ?_; refine Zv Zmi ?_; refine Zv Zia ?_; refine Zv Zla ?_; refine Zal 6 fun b6 => ?_; refine Zv Zai ?_; refine Zst ?_) | (refine ZrN 6 fun _ => ?_; refine Zv Zmi ?_; refine Zv Zmi ?_; refine Zv (Val_shr (i := k) rfl rfl (by show k ≤ 64; omega)) ?_; refine Zv (Val_andE N w0 hbt hsk (by omega) rfl rfl) ?_; refine Zv Zyeql ?_) | (refine ZrN 8 fun _ => ?_; refine Zv Zxadd ?_; refine Zv Zmi ?_) | (refine WP_cond_true rfl ?_) | (refine WP_cond_false rfl ?_) | (refine Zcd (fun hc => ?_) (fun hc => ?_) <;> (try (exfalso; omega))) | (with_reducible apply WP_skip) | (with_reducible apply WP_block) | (with_reducible apply WP_exit) | (with_reducible apply WP_ret)) | (refine Zhn ?_) | (with_reducible apply QBlock_normal) | (refine Zhx ?_) | (with_reducible apply QBlock_hit) | (refine Zqb ?_) | (with_reducible apply QLoop_exit) | (refine Zhr ?_) | (with_reducible apply QBlock_ret) | (with_reducible apply QLoop_ret))
      exact QLoop_normal (k + 1, ys, xs, s3) (.cons rfl .nil) (by repeat (first | exact Off.frame rfl | exact Off.refl _ _ | refine Off.frameT rfl rfl ?_ | refine Off.upd rfl ?_ | refine Off.updO rfl ?_)) (by repeat (first | exact Wk.refl _ | apply Wk.keep1 | apply Wk.drop | apply Wk.sv | apply Wk.svD | apply Wk.appD)) ⟨by dsimp only; omega, hsn.symm, hs3, hxs⟩ (by dsimp only; omega)
  · have hkn : k = g.h.looks.length := by omega
    subst hkn
    rw [List.take_length] at hys
    obtain ⟨A3, c3, e3, hr3⟩ := sl_sv (E := 61) (by omega) hs3
    rw [e3]
    have h16 : ∀ L' Lt, Wk L' (svH 61 4 ys.length xs s3 Lt) → Ret Try.prog N w0 L' 16 [.agg [.slice g.A1 g.h.heaps.length g.c1, .slice g.A2 g.h.rains.length g.c2, .int .i64 g.h.d0, .int .i64 g.h.d1, .int .i64 g.h.d2, .int .i64 g.h.limit, .slice A3 ys.length c3].toArray, .int .i64 0].toArray (.tuple [.agg [.int .i64 (RainV (selH g.h s) ((0 : Nat) : Int)).1, .int .i64 (RainV (selH g.h s) ((0 : Nat) : Int)).2].toArray, .int .i64 (errE (selH g.h s) (DayOk (selH g.h s) ((0 : Nat) : Int)))].toArray) := by
      intro L' Lt hk'
      have hin : HeapIn N w0 L' { g with h := selH g.h s, A3 := A3, c3 := c3 } := fun w hI => ⟨hA.heaps.now hI, hA.rains.now hI, by
        have := hr3 (hI.wk hk') hxs (map_len (f := lkL) (fun _ => rfl) _)
        rw [hys] at this
        exact this⟩
      have h1 := Rain_in N w0 L' _ hin ((0 : Nat) : Int)
      unfold heapV hvL at h1
      have hlen : (selH g.h s).looks.length = ys.length := by rw [hys]; rfl
      dsimp only at h1
      rw [hlen] at h1
      exact h1
    rcases hsr with ⟨e1, rfl⟩ | ⟨e1, rfl⟩
    all_goals
      rw [e1] at h16
      repeat' (first | (refine GiP ?_; first | (refine Znh ?_) | (with_reducible refine Znl ?_)) | (refine GiW ?_; first | (refine Zsq fun K hK => ?_) | (refine ZrN 4 fun _ => ?_; refine Zv Zylss ?_) | (refine ZrN 9 fun _ => ?_; refine Zv Zla ?_; refine Zcl (Enters_fn rfl) (h16 _ _ (by repeat (first | exact Wk.refl _ | apply Wk.keep1 | apply Wk.drop | apply Wk.sv | apply Wk.svD | apply Wk.appD))) ?_; refine Zv Zmv ?_; refine Zv Zxex ?_; refine Zv Zxex ?_; refine Zal 7 fun b7 => ?_; refine Zst ?_; refine Zv Zai ?_) | (refine ZrN 10 fun _ => ?_; refine Zv Zmi ?_; refine Zv Zyeql ?_; refine Zv Zab ?_) | (refine WP_cond_true rfl ?_) | (refine WP_cond_false rfl ?_) | (refine Zcd (fun hc => ?_) (fun hc => ?_) <;> (try (exfalso; omega))) | (with_reducible apply WP_skip) | (with_reducible apply WP_block) | (with_reducible apply WP_exit) | (with_reducible apply WP_ret)) | (refine Zhn ?_) | (with_reducible apply QBlock_normal) | (refine Zhx ?_) | (with_reducible apply QBlock_hit) | (refine Zqb ?_) | (with_reducible apply QLoop_exit) | (refine Zhr ?_) | (with_reducible apply QBlock_ret) | (with_reducible apply QLoop_ret))
      exact QBody_ret1 rfl (rfl : _ = Value.bool _) ⟨rfl, (by repeat (first | exact Wk.refl _ | apply Wk.keep1 | apply Wk.drop | apply Wk.sv | apply Wk.svD | apply Wk.appD))⟩
end
end Go.Proofs.Ytlpahkmfjpjheaa
end

section
namespace Go.Proofs.Ytlpahkmfjpjheaa
open Go.RowKit
theorem lex_no {a b : Nat} (h : lexB a b = false) : pc b ≤ pc a ∧ (pc a = pc b → b ≤ a) := by
  unfold lexB at h
  rw [decide_eq_false_iff_not] at h
  omega
theorem bits_apart (k : Nat) {x : Nat} (hx : x < 2 ^ k) (y : Nat) (h0 : y &&& x = 0) (j : Nat) (hj : j < k) (hy : y / 2 ^ j % 2 = 1) : (2 ^ k - 1 - x) / 2 ^ j % 2 = 1 := by
  rw [bit_iff] at hy ⊢
  have h1 : (y &&& x).testBit j = false := by rw [h0]; exact Nat.zero_testBit j
  rw [Nat.testBit_and, hy, Bool.true_and] at h1
  rw [show 2 ^ k - 1 - x = 2 ^ k - (x + 1) by omega, Nat.testBit_two_pow_sub_succ hx, h1]
  simp [hj]
theorem bits_not : ∀ k, k < 6 → ∀ x, x < 2 ^ k → (2 ^ k - 1) &&& (2 ^ 64 - 1 - x) = 2 ^ k - 1 - x := by decide +kernel
theorem bits_less : ∀ y, y < 32 → ∀ k, k < 5 → y / 2 ^ k % 2 = 1 → y &&& (2 ^ 64 - 1 - 2 ^ k) = y - 2 ^ k ∧ pc (y - 2 ^ k) < pc y := by decide +kernel
theorem bits_zero : ∀ y, y < 32 → pc y = 0 → y = 0 := by decide +kernel
section
variable {h : Hv} (hv : VH h) (hb : vB h = true)
include hv
theorem some_mono {s s' : Nat} (hs : ∀ j, j < h.looks.length → s / 2 ^ j % 2 = 1 → s' / 2 ^ j % 2 = 1) (h1 : someB h s' = true) : someB h s = true := by
  obtain ⟨r, hr⟩ := (someB_iff hv).1 h1
  exact (someB_iff hv).2 ⟨r, Tr_mono hs hr⟩
theorem some_none : someB h 0 = true := by
  obtain ⟨r, hr⟩ := InR_some (l := h.rains) (fun s hs => (hv.rn s hs).2.1)
  refine (someB_iff hv).2 ⟨r, hr, fun i hi => ⟨(tfOf h i).lo, Int.le_refl _, (hv.tf _ (tfOf_mem hi)).2.2.1, fun j l _ hs _ => ?_⟩⟩
  rw [Nat.zero_div] at hs
  omega
include hb
theorem false_facts : FalseE h = 0 ∧ ∃ x : Nat, FalseV h = ((pc x : Int), (x : Int)) ∧ x < 2 ^ h.looks.length ∧ someB h (evL h - x) = true ∧ ∀ y, y < 2 ^ h.looks.length → someB h (evL h - y) = true → pc x ≤ pc y ∧ (pc y = pc x → x ≤ y) := by
  obtain ⟨h1, x, h2, h3, h4, h5⟩ := false_ok hv hb
  refine ⟨h1, x, h2, h3, h4, fun y hy hs => lex_no ?_⟩
  cases hl : lexB y x with
  | false => rfl
  | true => rw [h5 y hy hl] at hs; cases hs
theorem clash_facts {x : Nat} (hF : FalseV h = ((pc x : Int), (x : Int))) (hx : x < 2 ^ h.looks.length) (hs : someB h (evL h - x) = true) :
    (ClashE h = 4 ∧ ClashV h = 0 ∧ someB h (evL h) = true ∧ pc x = 0) ∨
    (ClashE h = 0 ∧ someB h (evL h) = false ∧ 0 < pc x ∧ ∃ y : Nat, ClashV h = (y : Int) ∧ 1 ≤ y ∧ y < 2 ^ h.looks.length ∧ someB h y = false ∧ y &&& x ≠ 0 ∧
      (∀ k, k < h.looks.length → y / 2 ^ k % 2 = 1 → y &&& (2 ^ 64 - 1 - 2 ^ k) = y - 2 ^ k ∧ someB h (y - 2 ^ k) = true) ∧ ∀ z, z < 2 ^ h.looks.length → someB h z = false → pc y ≤ pc z ∧ (pc z = pc y → y ≤ z)) := by
  have hnl := hv.nl
  have hp := Nat.two_pow_pos h.looks.length
  have h32 : 2 ^ h.looks.length ≤ 2 ^ 5 := Nat.pow_le_pow_right (by omega) hnl
  have hev : evL h < 2 ^ h.looks.length := by unfold evL; omega
  have hft := false_told hv hb
  rw [hF] at hft
  rcases clash_ok hv hb with ⟨h1, h2, h3⟩ | ⟨h1, y, h2, h3, h4, h5⟩
  · have hse := h3 _ hev
    refine .inl ⟨h1, h2, hse, ?_⟩
    rcases hft with ⟨h6, _⟩ | ⟨_, h6⟩
    · simp only [Prod.mk.injEq] at h6; omega
    · exact absurd h6 ((someB_told hv).1 hse)
  · have hse : someB h (evL h) = false := by
      cases hc : someB h (evL h) with
      | false => rfl
      | true =>
        rw [some_mono hv (s := y) (fun j hj _ => evL_bit.2 hj) hc] at h4; cases h4
    refine .inr ⟨h1, hse, ?_, y, h2, ?_, h3, h4, fun h0 => ?_, fun k hk hbit => ?_, fun z hz hzs => lex_no ?_⟩
    · rcases hft with ⟨_, h6⟩ | ⟨h6, _⟩
      · rw [(someB_told hv).2 h6] at hse; cases hse
      · have h7 : (0 : Int) < (pc x : Int) := h6
        omega
    · cases y with
      | zero => rw [some_none hv] at h4; cases h4
      | succ y => omega
    · have := some_mono hv (s := y) (s' := evL h - x) (fun j hj hyj => by
        have := bits_apart h.looks.length hx y h0 j hj hyj
        unfold evL
        exact this) hs
      rw [this] at h4; cases h4
    · obtain ⟨e1, e2⟩ := bits_less y (by omega) k (by omega) hbit
      refine ⟨e1, h5 _ (Nat.lt_of_le_of_lt (Nat.sub_le _ _) h3) ?_⟩
      unfold lexB
      rw [decide_eq_true_eq]
      exact .inl e2
    · cases hl : lexB z y with
      | false => rfl
      | true => rw [h5 z hz hl] at hzs; cases hzs
end
theorem clash_bad {h : Hv} (hb : vB h = false) : ClashE h = 1 ∧ ClashV h = 0 := by
  have : ClashE h = 1 := by simp [ClashE, hb]
  exact ⟨this, by unfold ClashV; rw [this, if_neg (by omega)]⟩
theorem false_bad {h : Hv} (hb : vB h = false) : FalseE h = 1 ∧ FalseV h = (0, 0) := by simp [FalseE, FalseV, hb]
end Go.Proofs.Ytlpahkmfjpjheaa
end
