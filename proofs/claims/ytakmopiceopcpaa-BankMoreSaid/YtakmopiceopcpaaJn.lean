/- Comparisons, decided where they can be. · Ways that meet again. -/
import Derived.Test.YtakmopiceopcpaaSh
section
namespace Go.Proofs.Ytakmopiceopcpaa
open Go.RowKit
section
variable {P : Program} {N : Nat} {w0 : World} {L : Hp} {e : Env} {d : Option Nat} {ty : TypeId} {pos : String} {af : Array Edge} {g : Option (Nat × Bool)} {x y : Operand} {t t' : TypeId} {k : IntKind} {m n : Int}
theorem Val_lssT (hx : ev e x = .int k m) (hy : ev e y = .int k n) (h : m < n) : Val P N w0 L e ⟨d, .binOp .lss t x y t', ty, pos, af, g⟩ (.bool true) := by have := Val_lss (P := P) (N := N) (w0 := w0) (L := L) (d := d) (ty := ty) (pos := pos) (af := af) (g := g) (t := t) (t' := t') hx hy; rwa [decide_eq_true h] at this
theorem Val_lssF (hx : ev e x = .int k m) (hy : ev e y = .int k n) (h : ¬ m < n) : Val P N w0 L e ⟨d, .binOp .lss t x y t', ty, pos, af, g⟩ (.bool false) := by have := Val_lss (P := P) (N := N) (w0 := w0) (L := L) (d := d) (ty := ty) (pos := pos) (af := af) (g := g) (t := t) (t' := t') hx hy; rwa [decide_eq_false h] at this
theorem Val_gtrT (hx : ev e x = .int k m) (hy : ev e y = .int k n) (h : n < m) : Val P N w0 L e ⟨d, .binOp .gtr t x y t', ty, pos, af, g⟩ (.bool true) := by have := Val_gtr (P := P) (N := N) (w0 := w0) (L := L) (d := d) (ty := ty) (pos := pos) (af := af) (g := g) (t := t) (t' := t') hx hy; rwa [decide_eq_true h] at this
theorem Val_gtrF (hx : ev e x = .int k m) (hy : ev e y = .int k n) (h : ¬ n < m) : Val P N w0 L e ⟨d, .binOp .gtr t x y t', ty, pos, af, g⟩ (.bool false) := by have := Val_gtr (P := P) (N := N) (w0 := w0) (L := L) (d := d) (ty := ty) (pos := pos) (af := af) (g := g) (t := t) (t' := t') hx hy; rwa [decide_eq_false h] at this
theorem Val_eqlT (hx : ev e x = .int k m) (hy : ev e y = .int k n) (h : m = n) : Val P N w0 L e ⟨d, .binOp .eql t x y t', ty, pos, af, g⟩ (.bool true) := by have := Val_eql (P := P) (N := N) (w0 := w0) (L := L) (d := d) (ty := ty) (pos := pos) (af := af) (g := g) (t := t) (t' := t') hx hy; rwa [show (m == n) = true from by simpa using h] at this
theorem Val_eqlF (hx : ev e x = .int k m) (hy : ev e y = .int k n) (h : m ≠ n) : Val P N w0 L e ⟨d, .binOp .eql t x y t', ty, pos, af, g⟩ (.bool false) := by have := Val_eql (P := P) (N := N) (w0 := w0) (L := L) (d := d) (ty := ty) (pos := pos) (af := af) (g := g) (t := t) (t' := t') hx hy; rwa [show (m == n) = false from by simpa using h] at this
theorem Val_neqT (hx : ev e x = .int k m) (hy : ev e y = .int k n) (h : m ≠ n) : Val P N w0 L e ⟨d, .binOp .neq t x y t', ty, pos, af, g⟩ (.bool true) := by have := Val_neq (P := P) (N := N) (w0 := w0) (L := L) (d := d) (ty := ty) (pos := pos) (af := af) (g := g) (t := t) (t' := t') hx hy; rwa [show (m != n) = true from by simpa using h] at this
theorem Val_neqF (hx : ev e x = .int k m) (hy : ev e y = .int k n) (h : m = n) : Val P N w0 L e ⟨d, .binOp .neq t x y t', ty, pos, af, g⟩ (.bool false) := by have := Val_neq (P := P) (N := N) (w0 := w0) (L := L) (d := d) (ty := ty) (pos := pos) (af := af) (g := g) (t := t) (t' := t') hx hy; rwa [show (m != n) = false from by simpa using h] at this
theorem Zylss {b : Bool} (h : Val P N w0 L e ⟨d, .binOp .lss t x y t', ty, pos, af, g⟩ (.bool b) := by first | exact Val_lssT rfl rfl (by omega) | exact Val_lssF rfl rfl (by omega) | exact Val_lss rfl rfl) : Val P N w0 L e ⟨d, .binOp .lss t x y t', ty, pos, af, g⟩ (.bool b) := h
theorem Zygtr {b : Bool} (h : Val P N w0 L e ⟨d, .binOp .gtr t x y t', ty, pos, af, g⟩ (.bool b) := by first | exact Val_gtrT rfl rfl (by omega) | exact Val_gtrF rfl rfl (by omega) | exact Val_gtr rfl rfl) : Val P N w0 L e ⟨d, .binOp .gtr t x y t', ty, pos, af, g⟩ (.bool b) := h
theorem Zyeql {b : Bool} (h : Val P N w0 L e ⟨d, .binOp .eql t x y t', ty, pos, af, g⟩ (.bool b) := by first | exact Val_eqlT rfl rfl (by omega) | exact Val_eqlF rfl rfl (by omega) | exact Val_eql rfl rfl) : Val P N w0 L e ⟨d, .binOp .eql t x y t', ty, pos, af, g⟩ (.bool b) := h
theorem Zyneq {b : Bool} (h : Val P N w0 L e ⟨d, .binOp .neq t x y t', ty, pos, af, g⟩ (.bool b) := by first | exact Val_neqT rfl rfl (by omega) | exact Val_neqF rfl rfl (by omega) | exact Val_neq rfl rfl) : Val P N w0 L e ⟨d, .binOp .neq t x y t', ty, pos, af, g⟩ (.bool b) := h
end
end Go.Proofs.Ytakmopiceopcpaa
end

section
namespace Go.Proofs.Ytakmopiceopcpaa
open Go.RowKit
section
variable {P : Program} {r : Option Nat} {n N : Nat} {w0 : World} {Q K : Post} {e : Env} {ds : List Deferred} {L : Hp}
/-- Where ways meet: what is known there (nor); any other way out is as it was (oth). -/
structure HCut {σ : Type} (ws : List Nat) (base : Env) (sl : σ → List (Nat × Value)) (Lp : σ → Hp) (J : σ → Prop) (ds : List Deferred) (K K' : Post) : Prop where
  nor : ∀ (s : σ) (e : Env) (L : Hp), Slots e (sl s) → Off ws e base → Wk L (Lp s) → J s → K' .normal e ds L
  oth : ∀ x e ds L, x ≠ .normal → K x e ds L → K' x e ds L
theorem HCut.ret {σ : Type} {ws : List Nat} {base : Env} {sl : σ → List (Nat × Value)} {Lp : σ → Hp} {J : σ → Prop} {ds0 : List Deferred} {K' : Post} (h : HCut ws base sl Lp J ds0 K K') (k : K .ret e ds L) : K' .ret e ds L := h.oth _ _ _ _ (by simp) k
theorem HCut.exit {σ : Type} {ws : List Nat} {base : Env} {sl : σ → List (Nat × Value)} {Lp : σ → Hp} {J : σ → Prop} {ds0 : List Deferred} {K' : Post} {id : Nat} (h : HCut ws base sl Lp J ds0 K K') (k : K (.exit id) e ds L) : K' (.exit id) e ds L := h.oth _ _ _ _ (by simp) k
theorem HCut.panic {σ : Type} {ws : List Nat} {base : Env} {sl : σ → List (Nat × Value)} {Lp : σ → Hp} {J : σ → Prop} {ds0 : List Deferred} {K' : Post} {ch : List PanicEntry} (h : HCut ws base sl Lp J ds0 K K') (k : K (.panic ch) e ds L) : K' (.panic ch) e ds L := h.oth _ _ _ _ (by simp) k
end
end Go.Proofs.Ytakmopiceopcpaa
end
