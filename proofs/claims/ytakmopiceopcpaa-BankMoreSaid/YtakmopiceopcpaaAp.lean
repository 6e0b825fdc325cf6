/- append of a whole slice, wherever it lies, nil or not. -/
import Derived.Test.YtakmopiceopcpaaJn
section
namespace Go.Proofs.Ytakmopiceopcpaa
open Go.RowKit
section
variable {P : Program} {r : Option Nat} {n N : Nat} {w0 : World} {L : Hp} {ops : Array Oper} {rest : List Oper} {Q : Post} {e : Env} {ds : List Deferred} {ty : TypeId} {pos : String} {af : Array Edge} {g : Option (Nat × Bool)} {d : Option Nat}
theorem run_append_svN {t E : TypeId} [hE : SliceOf P t E] {g' : Bool} {sz bt : Nat} [hS : TySz P E g' sz bt] {k c : Nat} {xs : List Value} {s : Option (Nat × Nat)} {w : World} (hI : Inv N w0 (svH E sz k xs s L) w) (hs : svOk s sz k xs) :
    (Builtin.append_ #[t, t] ty #[svV s k, .slice none 0 c]).run P w = .ok (svV s k) w := by
  have hi := hS.inf
  cases hin : P.info? E with
  | none => rw [hin] at hi; cases hi
  | some i =>
    cases s with
    | none =>
      have := hs.2 rfl
      subst this
      simp [svV, Builtin.append_, run_underlying hE.und, sizeOf, typeInfo, hin, Builtin.lenOf, Builtin.firstCells]
    | some p =>
      obtain ⟨b, cap⟩ := p
      obtain ⟨_, o, _, cur, _, h1, _⟩ := hI.own _ (List.mem_cons_self)
      simp [svV, Builtin.append_, run_underlying hE.und, sizeOf, typeInfo, hin, Builtin.lenOf, Builtin.firstCells, h1, storeCells]
/-- What is appended can be read; nil has nothing. -/
theorem OPS_appendX {t E : TypeId} [hE : SliceOf P t E] {g' : Bool} {sz bt : Nat} [hS : TySz P E g' (sz + 1) bt] {z : List Value} [hZ : TyZero P E z] (hz : z.length = sz + 1)
    {x y : Operand} {k m c : Nat} {A : Option Addr} {xs news : List Value} {s : Option (Nat × Nat)} {Lb : Hp} (hx : ev e x = svV s k) (hy : ev e y = .slice A m c) (hL : Wk L (svH E (sz + 1) k xs s Lb))
    (hs : svOk s (sz + 1) k xs) (hn : ∀ w, Inv N w0 L w → ∀ j u, news[j]? = some u → ∃ b2 o2, A = some ⟨b2, o2, none⟩ ∧ w.cell? ⟨b2, o2 + j, none⟩ = some u) (hA : A = none → m = 0) (hl : news.length = m * (sz + 1)) (h1 : ones news = true) (h63 : k + m ≤ maxLen) (hby : (k + m) * bt ≤ 140737488355328)
    (hg : Region.wanted ⟨d, .call { callee := .builtin .append, args := #[x, y], argTypes := #[t, t] }, ty, pos, af, g⟩ (yieldE ops e) = true) (hd : dstOk n d = true)
    (h : ∀ s', svOk s' (sz + 1) (k + m) (xs ++ news) → OPS P r n N w0 ops rest Q (updO e d (svV s' (k + m))) ds (svH E (sz + 1) (k + m) (xs ++ news) s' Lb)) :
    OPS P r n N w0 ops (⟨d, .call { callee := .builtin .append, args := #[x, y], argTypes := #[t, t] }, ty, pos, af, g⟩ :: rest) Q e ds L := by
  refine OPS_any (K := fun v L' => ∃ s', v = svV s' (k + m) ∧ L' = svH E (sz + 1) (k + m) (xs ++ news) s' Lb ∧ svOk s' (sz + 1) (k + m) (xs ++ news)) (fun w hI => ?_) hg rfl hd ?_
  · cases A with
    | none =>
      have hm := hA rfl
      subst hm
      have hnw : news = [] := List.eq_nil_of_length_eq_zero (by rw [hl]; omega)
      subst hnw
      have hr := run_append_svN (P := P) (ty := ty) (t := t) (E := E) (c := c) (hI.wk hL) hs
      exact ⟨_, w, _, by simp [execOp, resolve, invoke, builtin, hx, hy, hr], hI.wk hL, s, rfl, by simp, by simpa using hs⟩
    | some a =>
      obtain ⟨s', w', hr, hI', hs'⟩ := run_append_sv (P := P) (ty := ty) (t := t) (E := E) (a := a) (m := m) (c := c) hz (hI.wk hL) hs hl (fun j u hj => by
        obtain ⟨b2, o2, ha, hc⟩ := hn w hI j u hj
        simp only [Option.some.injEq] at ha
        subst ha
        rw [addr_add]; exact hc) h1 h63 hby
      exact ⟨_, w', _, by simp [execOp, resolve, invoke, builtin, hx, hy, hr], hI', s', rfl, rfl, hs'⟩
  · rintro v L' ⟨s', rfl, rfl, hs'⟩
    exact h s' hs'
end
end Go.Proofs.Ytakmopiceopcpaa
end
