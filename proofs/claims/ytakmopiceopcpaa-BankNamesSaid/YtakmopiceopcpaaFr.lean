/- The frame of the laws: what arguments that can be read hold, and when a law's statement is met. -/
import Derived.Test.YtakmopiceopcpaaCalc
import Derived.ProofKit
import Derived.OpenShut
import Derived.Carry
import Derived.Deep.Slices
section
namespace Go.Proofs.Ytakmopiceopcpaa
open Go.ChangeShapes Go.WideShapes Go.ChangeAt Go.RowKit

/-! ## The end -/
section
variable {H : Type} {enc : TypeId × Value → H} {P : Program}
def readB (P : Program) (ts : List TypeId) : Bool := ts.all fun t => P.readableRec t && decide (t < P.types.size)
theorem trodAll_stays (hl : laidOutB P = true) {W W' : World} (hb : Below W.heap.size W W') : ∀ {ts : List TypeId} {vs : List Value} {ds : List (DataW H)} {ps : List MemPlace}, readB P ts = true →
    DataW.TrodAll enc P W 0 (fun _ => true) true ts vs ds ps → (∀ x ∈ ps, x.block < W.heap.size) → DataW.TrodAll enc P W' 0 (fun b => decide (b < W.heap.size)) true ts vs ds ps
  | [], _, _, _, _, h, _ => by
    obtain ⟨rfl, rfl, rfl⟩ := trodAll_nil h
    exact trodAll_mk0
  | t :: ts, _, _, _, hr, h, hlt => by
    obtain ⟨v, vs1, d, ds1, a, b, rfl, rfl, rfl, h1, h2⟩ := trodAll_cons h
    simp only [readB, List.all_cons, Bool.and_eq_true, decide_eq_true_eq] at hr
    exact ⟨a, b, Below.trod hl hr.1.1 hr.1.2 h1 hb (fun x hx => hlt x (List.mem_append_left _ hx)), trodAll_stays hl hb (by simpa [readB] using hr.2) h2 (fun x hx => hlt x (List.mem_append_right _ hx)), rfl⟩
/-- Whoever returns true, and leaves what was there as it was, meets the law's statement. -/
theorem post_law {f : Func} {s : ChangeSpec} {W W' : World} {args : Array Value} {ds gs : List (DataW H)} {before : List MemPlace} {tb : TypeId}
    (hW : DataW.Whole enc P f.params.toList s.vars false W args.toList ds gs before) (hv : s.vars = []) (hl : laidOutB P = true) (hr : readB P f.params.toList = true) (hb : Below W.heap.size W W')
    (hs : (s.fn H (ds ++ gs)).results = [.lit (.bool true)]) (ha : (s.fn H (ds ++ gs)).args = ds) (hvs : (s.fn H (ds ++ gs)).vars = []) (ht : f.resultTypes = #[tb]) (hu : P.underlying tb = some .bool) :
    s.post enc P f false true false false W args (.bool true) W' := by
  have hW' := hW
  obtain ⟨p, q, hA, hV, rfl, hfz, hnd⟩ := hW
  rw [hv] at hV
  have hlt : ∀ x ∈ p, x.block < W.heap.size := fun x hx => hW'.lt x (List.mem_append_left _ hx)
  refine ⟨ds, gs, p ++ q, [], p, [], hW', ?_, ?_, ?_, hb.frame _, fun h => by cases h⟩
  · rw [hs, ht]
    exact ⟨[], [], shut_bool hu true, rfl, rfl⟩
  · rw [ha]
    exact trodAll_stays hl hb hr hA hlt
  · rw [hvs, hv]; rfl
end

/-! ## The beginning -/
inductive CK where
  | i (k : IntKind)
  | b
  | s (e : TypeId)
inductive Fit (R : CK → Value → Prop) : List CK → List Value → Prop
  | nil : Fit R [] []
  | cons {c : CK} {v : Value} {ks : List CK} {cs : List Value} (h : R c v) (t : Fit R ks cs) : Fit R (c :: ks) (v :: cs)
theorem Fit.len {R : CK → Value → Prop} {ks : List CK} {cs : List Value} (h : Fit R ks cs) : cs.length = ks.length := by
  induction h with
  | nil => rfl
  | cons _ _ ih => simp [ih]
theorem Fit.app {R : CK → Value → Prop} {ks1 ks2 : List CK} {cs1 cs2 : List Value} (h1 : Fit R ks1 cs1) (h2 : Fit R ks2 cs2) : Fit R (ks1 ++ ks2) (cs1 ++ cs2) := by
  induction h1 with
  | nil => exact h2
  | cons h _ ih => exact .cons h ih
theorem Fit.mono {R R' : CK → Value → Prop} (hR : ∀ c v, R c v → R' c v) {ks : List CK} {cs : List Value} (h : Fit R ks cs) : Fit R' ks cs := by
  induction h with
  | nil => exact .nil
  | cons h _ ih => exact .cons (hR _ _ h) ih
section
variable {H : Type} {enc : TypeId × Value → H} {P : Program} {W : World} {spare : Nat → Bool} {held : Bool}
end
end Go.Proofs.Ytakmopiceopcpaa
end
