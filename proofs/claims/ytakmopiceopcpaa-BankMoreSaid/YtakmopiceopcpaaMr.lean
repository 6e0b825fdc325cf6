/- Maps whose every entry is as it should be, by keys of whole numbers: the values are known by a relation. -/
import Derived.Test.YtakmopiceopcpaaMaps
section
namespace Go.Proofs.Ytakmopiceopcpaa
open Go.RowKit
def MGoodR (ks : List IntKind) (G : List Int → Value → Prop) (es : Array MapEntry) : Prop := ∀ x ∈ es.toList, ∃ is, inKs ks is ∧ x.key = intsV ks is ∧ G is x.val
theorem MGoodR.mono {ks : List IntKind} {G G' : List Int → Value → Prop} {es : Array MapEntry} (h : MGoodR ks G es) (hG : ∀ is v, G is v → G' is v) : MGoodR ks G' es := fun x hx => by
  obtain ⟨is, h1, h2, h3⟩ := h x hx
  exact ⟨is, h1, h2, hG _ _ h3⟩
theorem zipV_inj {ks : List IntKind} : ∀ {a b : List Int}, a.length = ks.length → b.length = ks.length → ((ks.zip a).map fun p => Value.int p.1 p.2) = ((ks.zip b).map fun p => Value.int p.1 p.2) → a = b := by
  induction ks with
  | nil => intro a b ha hb _; rw [List.eq_nil_of_length_eq_zero ha, List.eq_nil_of_length_eq_zero hb]
  | cons k ks ih =>
    intro a b ha hb h
    cases a with
    | nil => simp at ha
    | cons x a =>
      cases b with
      | nil => simp at hb
      | cons y b =>
        simp only [List.zip_cons_cons, List.map_cons, List.cons.injEq, Value.int.injEq, true_and] at h
        rw [h.1, ih (by simpa using ha) (by simpa using hb) h.2]
theorem intsV_inj {ks : List IntKind} {a b : List Int} (ha : inKs ks a) (hb : inKs ks b) (h : intsV ks a = intsV ks b) : a = b := by
  unfold intsV at h
  simp only [Value.agg.injEq] at h
  exact zipV_inj ha.1 hb.1 (by simpa using congrArg Array.toList h)
section
variable {P : Program}
end
section
variable {P : Program} {r : Option Nat} {n N : Nat} {w0 : World} {L : Hp} {e : Env} {d : Option Nat} {ty : TypeId} {pos : String} {af : Array Edge} {g : Option (Nat × Bool)}
end
end Go.Proofs.Ytakmopiceopcpaa
end
