/- Ways that meet again. -/
import Derived.Test.YtakmopiceopcpaaDec
section
namespace Go.Proofs.Ytakmopiceopcpaa
open Go.RowKit
section
variable {P : Program} {r : Option Nat} {n N : Nat} {w0 : World} {Q K : Post} {e : Env} {ds : List Deferred} {L : Hp}
/-- Where ways meet: what is known there (nor); any other way out is as it was (oth). -/
structure HCut {σ : Type} (ws : List Nat) (base : Env) (sl : σ → List (Nat × Value)) (Lp : σ → Hp) (J : σ → Prop) (ds : List Deferred) (K K' : Post) : Prop where
  nor : ∀ (s : σ) (e : Env) (L : Hp), Slots e (sl s) → Off ws e base → Wk L (Lp s) → J s → K' .normal e ds L
  oth : ∀ x e ds L, x ≠ .normal → K x e ds L → K' x e ds L
theorem HCut.ret {σ : Type} {ws : List Nat} {base : Env} {sl : σ → List (Nat × Value)} {Lp : σ → Hp} {J : σ → Prop} {ds0 : List Deferred} {K' : Post} (h : HCut ws base sl Lp J ds0 K K') (k : K .ret e ds L) : K' .ret e ds L := h.oth _ _ _ _ (by simp) k
theorem HCut.exit {σ : Type} {ws : List Nat} {base : Env} {sl : σ → List (Nat × Value)} {Lp : σ → Hp} {J : σ → Prop} {ds0 : List Deferred} {K' : Post} {id : Nat} (h : HCut ws base sl Lp J ds0 K K') (k : K (.exit id) e ds L) : K' (.exit id) e ds L := h.oth _ _ _ _ (by simp) k
theorem HCut.panic {σ : Type} {ws : List Nat} {base : Env} {sl : σ → List (Nat × Value)} {Lp : σ → Hp} {J : σ → Prop} {ds0 : List Deferred} {K' : Post} {ch : List PanicEntry} (h : HCut ws base sl Lp J ds0 K K') (k : K (.panic ch) e ds L) : K' (.panic ch) e ds L := h.oth _ _ _ _ (by simp) k
end
end Go.Proofs.Ytakmopiceopcpaa
end
