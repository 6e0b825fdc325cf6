/- The frame of the laws: what arguments that can be read hold, and when a law's statement is met. -/
import Derived.Test.YtakmopiceopcpaaCalc
import Derived.ProofKit
import Derived.OpenShut
import Derived.Carry
import Derived.Deep.Slices
section
namespace Go.Proofs.Ytakmopiceopcpaa
open Go.ChangeShapes Go.WideShapes Go.ChangeAt Go.RowKit

/-! ## The end -/
section
variable {H : Type} {enc : TypeId × Value → H} {P : Program}
def readB (P : Program) (ts : List TypeId) : Bool := ts.all fun t => P.readableRec t && decide (t < P.types.size)
theorem trodAll_stays (hl : laidOutB P = true) {W W' : World} (hb : Below W.heap.size W W') : ∀ {ts : List TypeId} {vs : List Value} {ds : List (DataW H)} {ps : List MemPlace}, readB P ts = true →
    DataW.TrodAll enc P W 0 (fun _ => true) true ts vs ds ps → (∀ x ∈ ps, x.block < W.heap.size) → DataW.TrodAll enc P W' 0 (fun b => decide (b < W.heap.size)) true ts vs ds ps
  | [], _, _, _, _, h, _ => by
    obtain ⟨rfl, rfl, rfl⟩ := trodAll_nil h
    exact trodAll_mk0
  | t :: ts, _, _, _, hr, h, hlt => by
    obtain ⟨v, vs1, d, ds1, a, b, rfl, rfl, rfl, h1, h2⟩ := trodAll_cons h
    simp only [readB, List.all_cons, Bool.and_eq_true, decide_eq_true_eq] at hr
    exact ⟨a, b, Below.trod hl hr.1.1 hr.1.2 h1 hb (fun x hx => hlt x (List.mem_append_left _ hx)), trodAll_stays hl hb (by simpa [readB] using hr.2) h2 (fun x hx => hlt x (List.mem_append_right _ hx)), rfl⟩
/-- Whoever returns true, and leaves what was there as it was, meets the law's statement. -/
theorem post_law {f : Func} {s : ChangeSpec} {W W' : World} {args : Array Value} {ds gs : List (DataW H)} {before : List MemPlace} {tb : TypeId}
    (hW : DataW.Whole enc P f.params.toList s.vars false W args.toList ds gs before) (hv : s.vars = []) (hl : laidOutB P = true) (hr : readB P f.params.toList = true) (hb : Below W.heap.size W W')
    (hs : (s.fn H (ds ++ gs)).results = [.lit (.bool true)]) (ha : (s.fn H (ds ++ gs)).args = ds) (hvs : (s.fn H (ds ++ gs)).vars = []) (ht : f.resultTypes = #[tb]) (hu : P.underlying tb = some .bool) :
    s.post enc P f false true false false W args (.bool true) W' := by
  have hW' := hW
  obtain ⟨p, q, hA, hV, rfl, hfz, hnd⟩ := hW
  rw [hv] at hV
  have hlt : ∀ x ∈ p, x.block < W.heap.size := fun x hx => hW'.lt x (List.mem_append_left _ hx)
  refine ⟨ds, gs, p ++ q, [], p, [], hW', ?_, ?_, ?_, hb.frame _, fun h => by cases h⟩
  · rw [hs, ht]
    exact ⟨[], [], shut_bool hu true, rfl, rfl⟩
  · rw [ha]
    exact trodAll_stays hl hb hr hA hlt
  · rw [hvs, hv]; rfl
end

/-! ## The beginning -/
inductive CK where
  | i (k : IntKind)
  | b
  | s (e : TypeId)
inductive Fit (R : CK → Value → Prop) : List CK → List Value → Prop
  | nil : Fit R [] []
  | cons {c : CK} {v : Value} {ks : List CK} {cs : List Value} (h : R c v) (t : Fit R ks cs) : Fit R (c :: ks) (v :: cs)
theorem Fit.len {R : CK → Value → Prop} {ks : List CK} {cs : List Value} (h : Fit R ks cs) : cs.length = ks.length := by
  induction h with
  | nil => rfl
  | cons _ _ ih => simp [ih]
theorem Fit.app {R : CK → Value → Prop} {ks1 ks2 : List CK} {cs1 cs2 : List Value} (h1 : Fit R ks1 cs1) (h2 : Fit R ks2 cs2) : Fit R (ks1 ++ ks2) (cs1 ++ cs2) := by
  induction h1 with
  | nil => exact h2
  | cons h _ ih => exact .cons h ih
theorem Fit.mono {R R' : CK → Value → Prop} (hR : ∀ c v, R c v → R' c v) {ks : List CK} {cs : List Value} (h : Fit R ks cs) : Fit R' ks cs := by
  induction h with
  | nil => exact .nil
  | cons h _ ih => exact .cons (hR _ _ h) ih
def tile : Nat → List (Nat × Option (List CK) × Nat) → Option (List CK)
  | _, [] => some []
  | a, (o, some ks, c) :: l => if o = a ∧ ks.length = c then (tile (a + c) l).map (ks ++ ·) else none
  | _, (_, none, _) :: _ => none
def kindsOf (P : Program) : Nat → TypeId → Option (List CK)
  | 0, _ => none
  | n + 1, t => match P.underlying t with
    | some (.int k) => some [.i k]
    | some .bool => some [.b]
    | some (.slice e) => some [.s e]
    | some (.struct fs) => (tile 0 (fs.toList.map fun f => (f.offset, kindsOf P n f.type, P.cellsOf f.type))).bind fun ks => if ks.length = P.cellsOf t then some ks else none
    | some (.array m e) => (kindsOf P n e).bind fun ks => if ks.length = P.cellsOf e ∧ m * ks.length = P.cellsOf t then some (List.replicate m ks).flatten else none
    | _ => none
section
variable {H : Type} {enc : TypeId × Value → H} {P : Program} {W : World} {spare : Nat → Bool} {held : Bool}
/-- What a cell of a kind holds. -/
def CkR (enc : TypeId × Value → H) (P : Program) (W : World) (spare : Nat → Bool) (held : Bool) : CK → Value → Prop
  | .i k, v => ∃ m, v = .int k m ∧ (Lit.int k m).wf = true
  | .b, v => ∃ b, v = .bool b
  | .s e, v => ∃ A len cap, v = .slice A len cap ∧ len ≤ cap ∧ cap ≤ maxLen ∧ ∀ i, i < len → ∃ a cs x fuel, A = some a ∧ W.cells? 0 (a.add (i * P.cellsOf e)) (P.cellsOf e) = some cs ∧ DataW.trod enc P W 0 spare held fuel e cs = some x
theorem tile_fit {R : CK → Value → Prop} {cs : List Value} : ∀ {l : List (Nat × Option (List CK) × Nat)} {a : Nat} {ks : List CK}, tile a l = some ks →
    (∀ o ks' c, (o, some ks', c) ∈ l → Fit R ks' ((cs.drop o).take c)) → Fit R ks ((cs.drop a).take ks.length)
  | [], _, _, h, _ => by simp [tile] at h; subst h; simp; exact .nil
  | (o, some ks', c) :: l, a, ks, h, hf => by
    unfold tile at h
    split at h
    · rename_i hc
      obtain ⟨rfl, hl⟩ := hc
      cases ht : tile (o + c) l with
      | none => rw [ht] at h; cases h
      | some k2 =>
        rw [ht] at h
        simp only [Option.map_some, Option.some.injEq] at h
        subst h
        have h1 := hf o ks' c (.head _)
        have h2 := tile_fit ht (fun o k c hm => hf o k c (.tail _ hm))
        have hle : c ≤ (cs.drop o).length := by
          have := h1.len
          rw [List.length_take, hl] at this
          omega
        have e : (cs.drop o).take (ks' ++ k2).length = (cs.drop o).take c ++ ((cs.drop (o + c)).take k2.length) := by
          rw [List.length_append, hl, List.take_add, List.drop_drop]
        rw [e]
        exact h1.app h2
    · cases h
  | (_, none, _) :: _, _, _, h, _ => by simp [tile] at h
theorem rep_fit {R : CK → Value → Prop} {ks : List CK} : ∀ {m : Nat} {cs : List Value}, cs.length = m * ks.length → (∀ i, i < m → Fit R ks ((cs.drop (i * ks.length)).take ks.length)) → Fit R (List.replicate m ks).flatten cs
  | 0, cs, h, _ => by
    have : cs = [] := List.eq_nil_of_length_eq_zero (by simpa using h)
    subst this
    exact .nil
  | m + 1, cs, h, hf => by
    rw [List.replicate_succ, List.flatten_cons, ← List.take_append_drop ks.length cs]
    refine Fit.app (by simpa using hf 0 (by omega)) (rep_fit (by rw [List.length_drop, h, Nat.succ_mul]; omega) fun i hi => ?_)
    have := hf (i + 1) (by omega)
    rw [List.drop_drop]
    rwa [Nat.add_comm ks.length, ← Nat.succ_mul]
theorem kinds_fit : ∀ {n : Nat} {t : TypeId} {ks : List CK} {fuel : Nat} {cs : List Value} {x : DataW H × List MemPlace}, kindsOf P n t = some ks → DataW.trod enc P W 0 spare held fuel t cs = some x → Fit (CkR enc P W spare held) ks cs
  | 0, _, _, _, _, _, h, _ => by simp [kindsOf] at h
  | n + 1, t, ks, fuel, cs, x, h, hx => by
    unfold kindsOf at h
    split at h
    · rename_i k hu
      simp only [Option.some.injEq] at h
      subst h
      obtain ⟨m, rfl, _, hw⟩ := DataW.trod_int hu hx
      exact .cons ⟨m, rfl, hw⟩ .nil
    · rename_i hu
      simp only [Option.some.injEq] at h
      subst h
      obtain ⟨b, rfl, _⟩ := DataW.trod_bool hu hx
      exact .cons ⟨b, rfl⟩ .nil
    · rename_i e hu
      simp only [Option.some.injEq] at h
      subst h
      rcases Deep.open_slice hu hx with ⟨rfl, _⟩ | ⟨a, len, cap, m, n', D, Pl, rfl, _, h1, h2, h3, _, h4⟩
      · exact .cons ⟨none, 0, 0, rfl, Nat.le_refl _, by unfold maxLen; omega, fun i hi => absurd hi (Nat.not_lt_zero _)⟩ .nil
      · refine .cons ⟨some a, len, cap, rfl, h1, h2, fun i hi => ?_⟩ .nil
        have him : i < m := by rw [h3]; split <;> omega
        obtain ⟨cs', hc, ht⟩ := h4 i him
        exact ⟨a, cs', _, n', rfl, hc, ht⟩
    · rename_i fs hu
      cases ht : tile 0 (fs.toList.map fun f => (f.offset, kindsOf P n f.type, P.cellsOf f.type)) with
      | none => rw [ht] at h; cases h
      | some k2 =>
        rw [ht] at h
        simp only [Option.bind_some] at h
        split at h
        · rename_i hl
          simp only [Option.some.injEq] at h
          subst h
          obtain ⟨xs, m, rfl, _, hlen, hsz, hf⟩ := DataW.trod_struct hu hx
          have := tile_fit (R := CkR enc P W spare held) (cs := cs) ht fun o ks' c hm => by
            obtain ⟨f, hfm, he⟩ := List.mem_map.1 hm
            simp only [Prod.mk.injEq] at he
            obtain ⟨rfl, hk, rfl⟩ := he
            obtain ⟨i, hi, he⟩ := List.getElem_of_mem hfm
            have hi' : fs[i]? = some f := by rw [← he]; simp
            have h5 := hf i f hi'
            have hxi : i < xs.length := by rw [hsz]; simpa using hi
            rw [List.getElem?_eq_getElem hxi] at h5
            exact kinds_fit hk h5
          rw [hl, ← hlen] at this
          simpa using this
        · cases h
    · rename_i m e hu
      cases hk : kindsOf P n e with
      | none => rw [hk] at h; cases h
      | some k2 =>
        rw [hk] at h
        simp only [Option.bind_some] at h
        split at h
        · rename_i hl
          simp only [Option.some.injEq] at h
          subst h
          obtain ⟨xs, m', rfl, _, hlen, hsz, hf⟩ := DataW.trod_array hu hx
          refine rep_fit (by rw [hlen, hl.2]) fun i hi => ?_
          have h5 := hf i hi
          have hxi : i < xs.length := by rw [hsz]; exact hi
          rw [List.getElem?_eq_getElem hxi] at h5
          rw [hl.1]
          exact kinds_fit hk h5
        · cases h
    · cases h
theorem cells_get {a : Addr} {n : Nat} {cs : List Value} (h : W.cells? 0 a n = some cs) : cs.length = n ∧ ∀ j v, cs[j]? = some v → W.cell? (a.add j) = some v := by
  unfold World.cells? at h
  rw [if_pos (Nat.zero_le _)] at h
  refine ⟨by simpa using mapM_some_length h, fun j v hj => ?_⟩
  have hj' : j < cs.length := (List.getElem?_eq_some_iff.1 hj).1
  have hl : cs.length = n := by simpa using mapM_some_length h
  have := mapM_some_get h j j (List.getElem?_range (by omega))
  rw [this, hj]
/-- The rows of a slice. -/
theorem rows_of {e : TypeId} {ks : List CK} {m n : Nat} {v : Value} (hk : kindsOf P m e = some ks) (hn : P.cellsOf e = n + 1) (h : CkR enc P W spare held (.s e) v) :
    ∃ (A : Option Addr) (len cap : Nat) (rows : List (List Value)), v = .slice A len cap ∧ len ≤ cap ∧ cap ≤ maxLen ∧ rows.length = len ∧ (∀ r ∈ rows, Fit (CkR enc P W spare held) ks r) ∧
      ∀ k (hk : k < rows.length), ∃ b off, A = some ⟨b, off, none⟩ ∧ b < W.heap.size ∧ ∀ j v, rows[k][j]? = some v → W.cell? ⟨b, off + k * (n + 1) + j, none⟩ = some v := by
  obtain ⟨A, len, cap, rfl, h1, h2, h3⟩ := h
  have h4 : ∀ i, ∃ cs, i < len → ∃ a, A = some a ∧ W.cells? 0 (a.add (i * (n + 1))) (n + 1) = some cs ∧ Fit (CkR enc P W spare held) ks cs := by
    intro i
    by_cases hi : i < len
    · obtain ⟨a, cs, x, fuel, hA, hc, hx⟩ := h3 i hi
      rw [hn] at hc
      exact ⟨cs, fun _ => ⟨a, hA, hc, kinds_fit hk hx⟩⟩
    · exact ⟨[], fun h => absurd h hi⟩
  refine ⟨A, len, cap, (List.range len).map fun i => (Classical.choose (h4 i)), rfl, h1, h2, by simp, ?_, ?_⟩
  · intro r hr
    obtain ⟨i, hi, rfl⟩ := List.mem_map.1 hr
    obtain ⟨_, _, _, hf⟩ := Classical.choose_spec (h4 i) (List.mem_range.1 hi)
    exact hf
  · intro k hk
    have hk' : k < len := by simpa using hk
    obtain ⟨a, hA, hc, hf⟩ := Classical.choose_spec (h4 k) hk'
    obtain ⟨b, off, spot⟩ := a
    obtain ⟨hl, hg⟩ := cells_get hc
    have h0 : ∃ v0, (Classical.choose (h4 k))[0]? = some v0 := ⟨_, List.getElem?_eq_getElem (by omega)⟩
    obtain ⟨v0, h0⟩ := h0
    have hc0 := hg 0 v0 h0
    have hcz : W.cells? 0 ((⟨b, off, spot⟩ : Addr).add (0 * (n + 1))) (n + 1) = some (Classical.choose (h4 0)) := by
      obtain ⟨a', hA', hc', _⟩ := Classical.choose_spec (h4 0) (by omega)
      rw [hA] at hA'
      simp only [Option.some.injEq] at hA'
      subst hA'
      exact hc'
    obtain ⟨hl0, hg0⟩ := cells_get hcz
    have hspot : spot = none := by
      have := World.cell?_spot (hg0 0 _ (List.getElem?_eq_getElem (by omega)))
      simpa [Addr.add] using this
    subst hspot
    refine ⟨b, off, hA, ?_, fun j v hj => ?_⟩
    · rw [WideShapes.add_plain, WideShapes.add_plain] at hc0
      have : ∃ o, W.heap[b]? = some o := by
        unfold World.cell? at hc0
        split at hc0
        · exact ⟨_, by assumption⟩
        · cases hc0
      obtain ⟨o, ho⟩ := this
      exact (Array.getElem?_eq_some_iff.1 ho).1
    · have := hg j v (by simpa using hj)
      rwa [WideShapes.add_plain, WideShapes.add_plain] at this
end
end Go.Proofs.Ytakmopiceopcpaa
end
