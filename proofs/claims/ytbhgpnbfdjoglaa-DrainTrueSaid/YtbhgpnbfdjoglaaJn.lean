/- Ways that meet again. -/
import Derived.Test.YtbhgpnbfdjoglaaDec
section
namespace Go.Proofs.Ytbhgpnbfdjoglaa
open Go.RowKit
section
variable {P : Program} {r : Option Nat} {n N : Nat} {w0 : World} {Q K : Post} {e : Env} {ds : List Deferred} {L : Hp}
/-- Where ways meet: what is known there (nor); any other way out is as it was (oth). -/
structure HCut {σ : Type} (ws : List Nat) (base : Env) (sl : σ → List (Nat × Value)) (Lp : σ → Hp) (J : σ → Prop) (ds : List Deferred) (K K' : Post) : Prop where
  nor : ∀ (s : σ) (e : Env) (L : Hp), Slots e (sl s) → Off ws e base → Wk L (Lp s) → J s → K' .normal e ds L
  oth : ∀ x e ds L, x ≠ .normal → K x e ds L → K' x e ds L
theorem WP_join {σ : Type} {c y : Code} (hK : HThen P r n N w0 y Q K) (ws : List Nat) (sl : σ → List (Nat × Value)) (Lp : σ → Hp) (J : σ → Prop)
    (h1 : ∀ K', HCut ws e sl Lp J ds K K' → WP P r n N w0 c K' e ds L) (h2 : ∀ s j, J s → WP P r n N w0 y Q (frame ws e (sl s) j) ds (Lp s)) : WP P r n N w0 c K e ds L := by
  refine WP_mono (h1 (fun x e' ds' L' => match x with
    | .normal => ds' = ds ∧ ∃ s, Slots e' (sl s) ∧ Off ws e' e ∧ Wk L' (Lp s) ∧ J s
    | x => K x e' ds' L') ⟨fun s e' L' a b c d => ⟨rfl, s, a, b, c, d⟩, fun x _ _ _ hx h => by cases x <;> first | exact absurd rfl hx | exact h⟩) ?_
  intro x e' ds' L' h
  cases x with
  | normal =>
    obtain ⟨rfl, s, a, b, c, d⟩ := h
    have hf : e' = frame ws e (sl s) e' := frame_intro a.look b
    rw [hf]
    exact hK.normal (WP_wk c (h2 s e' d))
  | _ => exact h
theorem HCut.ret {σ : Type} {ws : List Nat} {base : Env} {sl : σ → List (Nat × Value)} {Lp : σ → Hp} {J : σ → Prop} {ds0 : List Deferred} {K' : Post} (h : HCut ws base sl Lp J ds0 K K') (k : K .ret e ds L) : K' .ret e ds L := h.oth _ _ _ _ (by simp) k
theorem HCut.exit {σ : Type} {ws : List Nat} {base : Env} {sl : σ → List (Nat × Value)} {Lp : σ → Hp} {J : σ → Prop} {ds0 : List Deferred} {K' : Post} {id : Nat} (h : HCut ws base sl Lp J ds0 K K') (k : K (.exit id) e ds L) : K' (.exit id) e ds L := h.oth _ _ _ _ (by simp) k
theorem HCut.panic {σ : Type} {ws : List Nat} {base : Env} {sl : σ → List (Nat × Value)} {Lp : σ → Hp} {J : σ → Prop} {ds0 : List Deferred} {K' : Post} {ch : List PanicEntry} (h : HCut ws base sl Lp J ds0 K K') (k : K (.panic ch) e ds L) : K' (.panic ch) e ds L := h.oth _ _ _ _ (by simp) k
end
end Go.Proofs.Ytbhgpnbfdjoglaa
end
