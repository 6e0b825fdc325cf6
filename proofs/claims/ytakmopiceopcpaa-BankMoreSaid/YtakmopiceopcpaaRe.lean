/- Code that is looked at from the world as it is; slices of slices. -/
import Derived.Test.YtakmopiceopcpaaMem3
import Derived.Test.YtakmopiceopcpaaMore
section
namespace Go.Proofs.Ytakmopiceopcpaa
open Go.RowKit
section
variable {P : Program} {r : Option Nat} {n N : Nat} {w0 : World} {L : Hp} {Q : Post} {e : Env} {ds : List Deferred}
/-- From the world as it is: what is owned stays as it is, what is laid anew is left. -/
theorem WP_re {c : Code} (h : ∀ w, Inv N w0 L w → WP P r n w.heap.size w c (fun x e ds _ => Q x e ds L) e ds []) : WP P r n N w0 c Q e ds L := by
  intro a w hs he hd hI
  refine Go.wpIn_mono (h w hI a w hs he hd hI.at_) ?_
  rintro x a' w' ⟨hs', L', hI', hq⟩
  exact ⟨hs', L, hI.on hI', hq⟩
end
section
variable {P : Program} {N : Nat} {w0 : World} {L : Hp} {e : Env} {d : Option Nat} {ty : TypeId} {pos : String} {af : Array Edge} {g : Option (Nat × Bool)}
theorem Val_sliceHi {x y : Operand} {t E : TypeId} [ha : SliceOf P t E] {g' : Bool} {sz bt : Nat} [TySz P E g' sz bt] {a : Option Addr} {len cap hi : Nat} {q : Int} (hx : ev e x = .slice a len cap) (hy : ev e y = .int .i64 q) (hq : q = (hi : Int)) (h2 : hi ≤ cap) :
    Val P N w0 L e ⟨d, .slice t x none (some y) none, ty, pos, af, g⟩ (.slice a hi cap) := by
  intro w _
  subst hq
  have := run_sliceHi (P := P) (t := t) (a := a) (len := len) w h2
  have hz : (if cap = 0 then a else a.map (·.add (0 * sz))) = a := by
    split
    · rfl
    · cases a with
      | none => rfl
      | some a => simp [Addr.add]
  rw [hz] at this
  simp [execOp, hx, hy, this]
theorem Val_sliceLo {x y : Operand} {t E : TypeId} [ha : SliceOf P t E] {g' : Bool} {sz bt : Nat} [TySz P E g' sz bt] {b o : Nat} {len cap lo : Nat} {q : Int} (hx : ev e x = .slice (some ⟨b, o, none⟩) len cap) (hy : ev e y = .int .i64 q) (hq : q = (lo : Int)) (h1 : lo ≤ len) (h2 : lo < cap) :
    Val P N w0 L e ⟨d, .slice t x (some y) none none, ty, pos, af, g⟩ (.slice (some ⟨b, o + lo * sz, none⟩) (len - lo) (cap - lo)) := by
  intro w _
  subst hq
  have := run_sliceLo (P := P) (t := t) (a := some ⟨b, o, none⟩) (cap := cap) w h1
  rw [if_neg (by omega)] at this
  simp [execOp, hx, hy, this, Addr.add]
end
end Go.Proofs.Ytakmopiceopcpaa
end
