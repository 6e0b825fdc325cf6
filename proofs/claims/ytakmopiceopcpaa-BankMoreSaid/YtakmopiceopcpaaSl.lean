/- Slices that lie somewhere, and what grew, read row by row. -/
import Derived.Test.YtakmopiceopcpaaGr
import Derived.Test.YtakmopiceopcpaaSh
section
namespace Go.Proofs.Ytakmopiceopcpaa
open Go.RowKit
theorem Ret.fgt {P : Program} {N : Nat} {w0 : World} {L : Hp} {f : FuncId} {args : Array Value} {v : Value} (h : Tri P N w0 L f args fun x L' => x = .returned v ∧ Wk L' L) : Ret P N w0 L f args v := by
  intro w hI
  refine (h w hI).mono ?_
  rintro x w' ⟨L', hI', hx, hk⟩
  exact ⟨L, hI'.wk hk, hx, rfl⟩
theorem Tri.pan {P : Program} {N : Nat} {w0 : World} {L : Hp} {f : FuncId} {args : Array Value} {ch : List PanicEntry} (h : Tri P N w0 L f args fun x L' => x = .panicked ch ∧ Wk L' L) : Tri P N w0 L f args fun x L' => x = .panicked ch ∧ L' = L :=
  Tri.fgt (h.mono fun _ _ ⟨h1, h2⟩ => ⟨L, h2, h1, rfl⟩)
/-- A slice's elements, where they lie. -/
def SlAt (N : Nat) (w0 : World) (A : Option Addr) (sz : Nat) (rows : List (List Value)) : Prop :=
  ∀ k (h : k < rows.length), ∃ b off, A = some ⟨b, off, none⟩ ∧ b < N ∧ Ro w0 b (off + k * sz) rows[k]
theorem SlAt.row {N : Nat} {w0 : World} {A : Option Addr} {sz : Nat} {α : Type} {f : α → List Value} {l : List α} (h : SlAt N w0 A sz (l.map f)) (k : Nat) (hk : k < l.length) : ∃ b off, A = some ⟨b, off, none⟩ ∧ b < N ∧ Ro w0 b (off + k * sz) (f l[k]) := by
  obtain ⟨b, off, h1, h2, h3⟩ := h k (by simpa using hk)
  exact ⟨b, off, h1, h2, by simpa using h3⟩
theorem SlAt.one {N : Nat} {w0 : World} {A : Option Addr} {α : Type} {f : α → Value} {l : List α} (h : SlAt N w0 A 1 (l.map fun x => [f x])) (k : Nat) (hk : k < l.length) : ∃ b off, A = some ⟨b, off, none⟩ ∧ b < N ∧ w0.cell? ⟨b, off + k, none⟩ = some (f l[k]) := by
  obtain ⟨b, off, h1, h2, h3⟩ := h.row k hk
  exact ⟨b, off, h1, h2, by simpa using h3 0 (f l[k]) rfl⟩
theorem flat_get {sz : Nat} : ∀ (rows : List (List Value)) (k j : Nat) (hk : k < rows.length), (∀ r ∈ rows, r.length = sz) → j < sz → rows.flatten[k * sz + j]? = rows[k][j]?
  | [], k, j, hk, _, _ => by simp at hk
  | r :: rows, 0, j, hk, hr, hj => by
    have := hr r (.head _)
    rw [List.flatten_cons, List.getElem?_append_left (by omega)]
    simp
  | r :: rows, k + 1, j, hk, hr, hj => by
    have h1 := hr r (.head _)
    have h2 : (k + 1) * sz + j - r.length = k * sz + j := by rw [h1, Nat.succ_mul]; omega
    rw [List.flatten_cons, List.getElem?_append_right (by rw [h1, Nat.succ_mul]; omega), h2, flat_get rows k j (by simpa using hk) (fun x hx => hr x (.tail _ hx)) hj]
    simp
theorem sl_of {N : Nat} {w0 w : World} {L : Hp} {b T sz : Nat} {cells : List Value} {rows : List (List Value)} (hI : Inv N w0 L w) (hm : Mem b (Blk T cells) L) (hc : cells = rows.flatten) (hr : ∀ r ∈ rows, r.length = sz) : SlAt w.heap.size w (some ⟨b, 0, none⟩) sz rows := by
  intro k hk
  refine ⟨b, 0, rfl, hI.lt hm.mem, ?_⟩
  intro j v hj
  have hj2 : j < sz := by
    have := (List.getElem?_eq_some_iff.1 hj).1
    rw [hr _ (List.getElem_mem hk)] at this
    exact this
  rw [Nat.zero_add, hI.cell hm, hc]
  have := flat_get rows k j hk hr hj2
  simpa [this] using hj
theorem flat_at {sz : Nat} (hs : 0 < sz) {rows : List (List Value)} (hr : ∀ r ∈ rows, r.length = sz) {j : Nat} {u : Value} (h : rows.flatten[j]? = some u) : ∃ hk : j / sz < rows.length, rows[j / sz][j % sz]? = some u := by
  have hl : ∀ l : List (List Value), (∀ r ∈ l, r.length = sz) → l.flatten.length = l.length * sz := by
    intro l
    induction l with
    | nil => intro _; simp
    | cons r l ih => intro h; rw [List.flatten_cons, List.length_append, ih (fun x hx => h x (.tail _ hx)), h r (.head _), List.length_cons, Nat.succ_mul, Nat.add_comm]
  have hj := (List.getElem?_eq_some_iff.1 h).1
  rw [hl rows hr] at hj
  have hk : j / sz < rows.length := Nat.div_lt_of_lt_mul (by rw [Nat.mul_comm]; exact hj)
  refine ⟨hk, ?_⟩
  have e : j = j / sz * sz + j % sz := by rw [Nat.mul_comm]; exact (Nat.div_add_mod j sz).symm
  rw [e, flat_get rows (j / sz) (j % sz) hk hr (Nat.mod_lt _ hs)] at h
  exact h
theorem SlAt.flat {M : Nat} {w : World} {A : Option Addr} {sz : Nat} {rows : List (List Value)} (hs : 0 < sz) (h : SlAt M w A sz rows) (hr : ∀ r ∈ rows, r.length = sz) : ∀ j u, rows.flatten[j]? = some u → ∃ b o, A = some ⟨b, o, none⟩ ∧ w.cell? ⟨b, o + j, none⟩ = some u := by
  intro j u hj
  obtain ⟨hk, hu⟩ := flat_at hs hr hj
  obtain ⟨b, o, h1, _, h3⟩ := h _ hk
  refine ⟨b, o, h1, ?_⟩
  have := h3 (j % sz) u hu
  rwa [Nat.add_assoc, show j / sz * sz + j % sz = j by rw [Nat.mul_comm]; exact Nat.div_add_mod j sz] at this
theorem ones_flat : ∀ {rows : List (List Value)}, (∀ r ∈ rows, ones r = true) → ones rows.flatten = true
  | [], _ => rfl
  | r :: rows, h => by
    have h1 := h r (.head _)
    have h2 := ones_flat fun x hx => h x (.tail _ hx)
    unfold ones at h1 h2 ⊢
    rw [List.flatten_cons, List.all_append, h1, h2]; rfl
theorem map_len {α : Type} {f : α → List Value} {sz : Nat} (hf : ∀ x, (f x).length = sz) (l : List α) : ∀ r ∈ l.map f, r.length = sz := by
  intro r hr
  obtain ⟨x, _, rfl⟩ := List.mem_map.1 hr
  exact hf x
theorem map_ones {α : Type} {f : α → List Value} (hf : ∀ x, ones (f x) = true) (l : List α) : ∀ r ∈ l.map f, ones r = true := by
  intro r hr
  obtain ⟨x, _, rfl⟩ := List.mem_map.1 hr
  exact hf x
theorem map_flat {α : Type} {f : α → List Value} {sz : Nat} (hf : ∀ x, (f x).length = sz) (l : List α) : ((l.map f).flatten).length = l.length * sz := by
  induction l with
  | nil => simp
  | cons x l ih => rw [List.map_cons, List.flatten_cons, List.length_append, ih, List.length_cons, hf, Nat.succ_mul, Nat.add_comm]
theorem slat_none {M : Nat} {w : World} {A : Option Addr} {sz : Nat} {rows : List (List Value)} (h : SlAt M w A sz rows) : A = none → rows.length = 0 := by
  intro hA
  subst hA
  cases rows with
  | nil => rfl
  | cons r rows => obtain ⟨b, o, h1, _⟩ := h 0 (by simp); cases h1
section
variable {P : Program} {r : Option Nat} {n N : Nat} {w0 : World} {L B : Hp} {e : Env} {ds : List Deferred} {Q : Post} {d : Option Nat} {ty : TypeId} {pos : String} {af : Array Edge} {g : Option (Nat × Bool)}
theorem SlAt.now {A : Option Addr} {sz : Nat} {rows : List (List Value)} (h : SlAt N w0 A sz rows) {w : World} (hI : Inv N w0 L w) : SlAt w.heap.size w A sz rows := by
  intro k hk
  obtain ⟨b, o, h1, h2, h3⟩ := h k hk
  exact ⟨b, o, h1, Nat.lt_of_lt_of_le h2 hI.big, fun j v hj => hI.cellRo h2 (h3 j v hj)⟩
/-- The rows of a slice that grew. -/
theorem sl_sv {E : TypeId} {sz k : Nat} {xs : List Value} {s : Option (Nat × Nat)} (hz : 0 < sz) (hs : svOk s sz k xs) : ∃ A c, svV s k = .slice A k c ∧ ∀ {N : Nat} {w0 : World} {L : Hp} {w : World} {rows : List (List Value)}, Inv N w0 (svH E sz k xs s L) w → xs = rows.flatten → (∀ r ∈ rows, r.length = sz) → SlAt w.heap.size w A sz rows := by
  obtain ⟨A, c, h1, h2⟩ := sv_slice (E := E) hs
  refine ⟨A, c, h1, fun {N w0 L w rows} hI hx hr i hi => ?_⟩
  have hj : ∀ j v, rows[i][j]? = some v → xs[i * sz + j]? = some v := by
    intro j v hj
    have hj2 : j < sz := by
      have := (List.getElem?_eq_some_iff.1 hj).1
      rw [hr _ (List.getElem_mem hi)] at this
      exact this
    rw [hx, flat_get rows i j hi hr hj2]
    exact hj
  obtain ⟨v0, hv0⟩ : ∃ v, rows[i][0]? = some v := ⟨_, List.getElem?_eq_getElem (by rw [hr _ (List.getElem_mem hi)]; omega)⟩
  obtain ⟨b, hA, hb, _⟩ := h2 hI _ _ (hj 0 v0 hv0)
  refine ⟨b, 0, hA, hb, fun j v hjv => ?_⟩
  obtain ⟨b', hA', _, hc⟩ := h2 hI _ _ (hj j v hjv)
  rw [hA] at hA'
  simp only [Option.some.injEq, Addr.mk.injEq, and_true] at hA'
  rw [Nat.zero_add, hA']; exact hc
/-- Ways meet at the end of what stands inside. -/
theorem WP_joinQ {σ : Type} {c : Code} (ws : List Nat) (sl : σ → List (Nat × Value)) (Lp : σ → Hp) (J : σ → Prop)
    (h1 : ∀ K', HCut ws e sl Lp J ds Q K' → WP P r n N w0 c K' e ds L) (h2 : ∀ s j L', J s → Wk L' (Lp s) → Q .normal (frame ws e (sl s) j) ds L') : WP P r n N w0 c Q e ds L := by
  refine WP_mono (h1 (fun x e' ds' L' => match x with
    | .normal => ds' = ds ∧ ∃ s, Slots e' (sl s) ∧ Off ws e' e ∧ Wk L' (Lp s) ∧ J s
    | x => Q x e' ds' L') ⟨fun s e' L' a b c d => ⟨rfl, s, a, b, c, d⟩, fun x _ _ _ hx h => by cases x <;> first | exact absurd rfl hx | exact h⟩) ?_
  intro x e' ds' L' h
  cases x with
  | normal =>
    obtain ⟨rfl, s, a, b, c, d⟩ := h
    have hf : e' = frame ws e (sl s) e' := frame_intro a.look b
    rw [hf]
    exact h2 s e' L' d c
  | _ => exact h
/-- One block, wherever it stands. -/
inductive PickH (x : Nat × (Obj → Prop)) : Hp → Hp → Prop
  | here {L : Hp} : PickH x (x :: L) L
  | there {y : Nat × (Obj → Prop)} {L L' : Hp} (h : PickH x L L') : PickH x (y :: L) (y :: L')
  | sv {E sz k : Nat} {xs : List Value} {s : Option (Nat × Nat)} {L L' : Hp} (h : PickH x L L') : PickH x (svH E sz k xs s L) (svH E sz k xs s L')
  | app {X L L' : Hp} (h : PickH x L L') : PickH x (X ++ L) (X ++ L')
theorem PickH.perm {x : Nat × (Obj → Prop)} {L L' : Hp} (h : PickH x L L') : L.Perm (x :: L') := by
  induction h with
  | here => exact .refl _
  | @there y L L' h ih => exact (ih.cons y).trans (.swap _ _ _)
  | @sv E sz k xs s L L' h ih =>
    refine (svH_perm ih).trans ?_
    cases s with
    | none => exact .refl _
    | some p => exact .swap _ _ _
  | @app X L L' h ih => exact (ih.append_left X).trans List.perm_middle
theorem Sub.pickH {x : Nat × (Obj → Prop)} {L' : Hp} (h : PickH x L L') (k : Sub B L') : Sub (x :: B) L := let ⟨L0, k⟩ := k; ⟨L0, h.perm.trans (k.cons x)⟩
theorem Sub.nil : Sub [] L := ⟨L, .refl _⟩
theorem Sub.svK {E sz k : Nat} {xs : List Value} {s : Option (Nat × Nat)} (h : Sub B L) : Sub (svH E sz k xs s B) (svH E sz k xs s L) := by
  obtain ⟨L0, h⟩ := h
  refine ⟨L0, (svH_perm h).trans ?_⟩
  rw [svH_app]
theorem WP_sub {c : Code} (hS : Sub B L) (h : WP P r n N w0 c Q e ds B) : WP P r n N w0 c Q e ds L := by
  obtain ⟨L0, hp⟩ := hS
  exact fun a w hs he hd hI => h a w hs he hd ((hI.perm (hp.trans List.perm_append_comm)).wk (.app L0 B))
/-- Ways meet, what is owned in any order. -/
structure HCutS {σ : Type} (ws : List Nat) (base : Env) (sl : σ → List (Nat × Value)) (Lp : σ → Hp) (J : σ → Prop) (ds : List Deferred) (K K' : Post) : Prop where
  nor : ∀ (s : σ) (e : Env) (L : Hp), Slots e (sl s) → Off ws e base → Sub (Lp s) L → J s → K' .normal e ds L
  oth : ∀ x e ds L, x ≠ .normal → K x e ds L → K' x e ds L
theorem WP_joinS {σ : Type} {c y : Code} {K : Post} (hK : HThen P r n N w0 y Q K) (ws : List Nat) (sl : σ → List (Nat × Value)) (Lp : σ → Hp) (J : σ → Prop)
    (h1 : ∀ K', HCutS ws e sl Lp J ds K K' → WP P r n N w0 c K' e ds L) (h2 : ∀ s j, J s → WP P r n N w0 y Q (frame ws e (sl s) j) ds (Lp s)) : WP P r n N w0 c K e ds L := by
  refine WP_mono (h1 (fun x e' ds' L' => match x with
    | .normal => ds' = ds ∧ ∃ s, Slots e' (sl s) ∧ Off ws e' e ∧ Sub (Lp s) L' ∧ J s
    | x => K x e' ds' L') ⟨fun s e' L' a b c d => ⟨rfl, s, a, b, c, d⟩, fun x _ _ _ hx h => by cases x <;> first | exact absurd rfl hx | exact h⟩) ?_
  intro x e' ds' L' h
  cases x with
  | normal =>
    obtain ⟨rfl, s, a, b, c, d⟩ := h
    have hf : e' = frame ws e (sl s) e' := frame_intro a.look b
    rw [hf]
    exact hK.normal (WP_sub c (h2 s e' d))
  | _ => exact h
/-- A region whose order is left open: what comes ahead of what writes reads B. -/
theorem WP_drawnS {id : Nat} {l : List Oper} (T E A fl : List Nat) {k k2 : Nat} (hS : Sub B L) (hfl : (T.all fun i => match l[i]? with | some o => (match o.dst with | some t => fl.contains t | none => true) | none => true) = true) (hm : P.follows .mixedOrders = true) (hc : drawChk l.toArray T E A = true) (hf : floatChk n l.toArray T E A = true) (hk : l.length = E.length + A.length + (k + k2))
    (h : EWalk P n N w0 l.toArray [] B E e fun ef => AWalk P n l.toArray A ef ef fun e' A' => AnyC P r n N w0 l.toArray Q ds fl B T k2 k (doneOf l.length (E ++ A)) e' (A' ++ L)) : WP P r n N w0 (.region id l.toArray true) Q e ds L := by
  obtain ⟨L0, hp⟩ := hS
  refine WP_drawnC L0 B T E A fl (hp.trans List.perm_append_comm) hfl hm hc hf hk ?_
  obtain ⟨ef, h1, S, h2, h3, h4⟩ := h
  refine ⟨ef, h1, S, h2, h3, h4.mono fun e' A' h5 => h5.perm ?_⟩
  exact List.Perm.append_left A' (hp.trans List.perm_append_comm).symm
/-! ## A row that grew is written -/
theorem setL_take : ∀ (vs l : List Value) (o m : Nat), o + vs.length ≤ m → (setL l o vs).take m = setL (l.take m) o vs
  | [], _, _, _, _ => rfl
  | v :: vs, l, o, m, h => by
    simp only [List.length_cons] at h
    simp only [setL]
    rw [setL_take vs _ (o + 1) m (by omega), List.take_set]
theorem Row.len {E : TypeId} {sz k cap : Nat} {xs : List Value} {o : Obj} (h : Row E sz k cap xs o) : xs.length = k * sz := by
  obtain ⟨cur, _, h1, _, h2, h3⟩ := h
  rw [← h3, List.length_take, Array.length_toList, h2]
  exact Nat.min_eq_left (Nat.mul_le_mul_right sz h1)
theorem Turn_storeRow {t : TypeId} {g' : Bool} {n bt : Nat} [TySz P t g' n bt] {x y : Operand} {b o : Nat} {E : TypeId} {sz k cap : Nat} {v : Value} {xs vs xs' : List Value} {L' : Hp} (hx : ev e x = .pointer (some ⟨b, o, none⟩)) (hy : ev e y = v) (hu : Up L b (Row E sz k cap xs) (Row E sz k cap xs') L')
    (hv : v.cells = vs.toArray) (hl : o + vs.length ≤ k * sz) (hp : setL xs o vs = xs') (hn : vs.length = n) (h1 : ones vs = true) :
    Turn P N w0 L e ⟨d, .store t x y, ty, pos, af, g⟩ L' := by
  intro w hI
  obtain ⟨ob, hob, cur, rfl, hc1, hc2, hc3, hc4⟩ := hI.obj' hu.mem
  have hb : w.heap[b]? = some (.cells cur.toList.toArray E (0, 0)) := by simpa using hob
  have hle : k * sz ≤ cur.toList.length := by rw [Array.length_toList, hc3]; exact Nat.mul_le_mul_right sz hc1
  obtain ⟨w', hr, h2, h3, h4, h5, h6, h7⟩ := run_storeVar (P := P) (w := w) (t := t) (T := E) (l := cur.toList) hv hn h1 (Nat.le_trans hl hle) hb
  refine ⟨w', by simp [execOp, hx, hy, Instr.storeAt, Instr.sureAddr, hr], hI.turn hu h3 h4 h5 (by omega) (fun k _ hk => h7 k hk) ⟨_, h2, _, rfl, hc1, hc2, ?_, ?_⟩⟩
  · rw [List.size_toArray, setL_length, Array.length_toList, hc3]
  · show (setL cur.toList o vs).take (k * sz) = xs'
    rw [setL_take _ _ _ _ hl, hc4, hp]
/-- The rows of a row that grew. -/
theorem sl_row {E sz k cap b : Nat} {xs : List Value} {rows : List (List Value)} {w : World} (hI : Inv N w0 L w) (hm : Mem b (Row E sz k cap xs) L) (hx : xs = rows.flatten) (hr : ∀ r ∈ rows, r.length = sz) : SlAt w.heap.size w (some ⟨b, 0, none⟩) sz rows := by
  obtain ⟨ob, hob, cur, rfl, hc1, hc2, hc3, hc4⟩ := hI.obj' hm
  intro i hi
  refine ⟨b, 0, rfl, (Array.getElem?_eq_some_iff.1 hob).1, fun j v hj => ?_⟩
  have hj2 : j < sz := by
    have := (List.getElem?_eq_some_iff.1 hj).1
    rw [hr _ (List.getElem_mem hi)] at this
    exact this
  have hg := flat_get rows i j hi hr hj2
  rw [← hx, hj] at hg
  rw [Nat.zero_add, cell_of_row w b _ cur E (0, 0) hob]
  have h5 : (cur.toList.take (k * sz))[i * sz + j]? = some v := by rw [hc4]; exact hg
  rw [List.getElem?_take] at h5
  split at h5
  · simpa using h5
  · cases h5
/-- '[]T{}': a row without elements, to append to. -/
theorem New_buildSlice0 {t E : TypeId} [hs : SliceOf P t E] {g' : Bool} {sz bt : Nat} [TySz P E g' sz bt] : New P e ⟨d, .buildSlice t 0 #[], ty, pos, af, g⟩ (.cells #[] E (0, 0)) (fun b => svV (some (b, 0)) 0) := by
  intro w
  simp only [execOp, Instr.buildSlice, Sem.run_bind, run_underlying hs.und, Result.andThen_ok, run_sizeOf (P := P) (t := E)]
  have h0 : Array.range 0 = (#[] : Array Nat) := by apply Array.ext'; simp
  simp [newRow, newObj, Sem.run, Instr.fill, svV, h0]
theorem row0 {E : TypeId} {sz : Nat} : Row E sz 0 0 [] (.cells #[] E (0, 0)) := ⟨#[], rfl, Nat.le_refl _, by unfold maxLen; omega, by simp, by simp⟩
theorem svOk0 {b sz : Nat} : svOk (some (b, 0)) sz 0 [] := ⟨by simp, fun h => by cases h⟩
theorem Zbs {ops : Array Oper} {rest : List Oper} {t E : TypeId} [hs : SliceOf P t E] {g' : Bool} {sz bt : Nat} [TySz P E g' sz bt] {d : Nat} (h : ∀ b, OPS P r n N w0 ops rest Q (upd e d (svV (some (b, 0)) 0)) ds (svH E sz 0 [] (some (b, 0)) L))
    (hg : Region.wanted ⟨some d, .buildSlice t 0 #[], ty, pos, af, g⟩ (yieldE ops e) = true := by rfl) (hd : Nat.blt d n = true := by rfl) : OPS P r n N w0 ops (⟨some d, .buildSlice t 0 #[], ty, pos, af, g⟩ :: rest) Q e ds L :=
  OPS_newS (row0 (E := E) (sz := sz)) (New_buildSlice0 (sz := sz) (bt := bt) (g' := g')) hg rfl hd h
theorem inKw {a b : Int} (ha : -1000000 ≤ a ∧ a ≤ 1000000) (hb : -1000000 ≤ b ∧ b ≤ 1000000) : inKs [.i64, .i64] [a, b] := by
  refine ⟨rfl, ?_⟩
  intro p hp
  simp only [List.zip_cons_cons, List.zip_nil_right, List.mem_cons, List.not_mem_nil, or_false] at hp
  rcases hp with rfl | rfl <;> (simp [Lit.wf, IntKind.min, IntKind.max, IntKind.bits, IntKind.signed]; omega)
section
variable {x y : Operand} {t t' : TypeId} {ks : List IntKind} [hk : KeyTy P t ks] {a b : List Int}
theorem Val_neqIF (hx : ev e x = intsV ks a) (hy : ev e y = intsV ks b) (h : a = b) (ha : inKs ks a) (hb : inKs ks b) : Val P N w0 L e ⟨d, .binOp .neq t x y t', ty, pos, af, g⟩ (.bool false) := by
  have := Val_neqI (P := P) (N := N) (w0 := w0) (L := L) (d := d) (t := t) (t' := t') (ty := ty) (pos := pos) (af := af) (g := g) hx hy rfl rfl ha hb
  rwa [decide_eq_true h] at this
end
/-- Spans that are the same. -/
theorem Val_neqS {x y : Operand} {t t' : TypeId} [hk : KeyTy P t [.i64, .i64]] {a b a' b' : Int} (hx : ev e x = .agg [.int .i64 a, .int .i64 b].toArray) (hy : ev e y = .agg [.int .i64 a', .int .i64 b'].toArray) (h1 : a = a') (h2 : b = b') (ha : -1000000 ≤ a ∧ a ≤ 1000000) (hb : -1000000 ≤ b ∧ b ≤ 1000000) : Val P N w0 L e ⟨d, .binOp .neq t x y t', ty, pos, af, g⟩ (.bool false) := by
  subst h1 h2
  exact Val_neqIF (ks := [.i64, .i64]) (a := [a, b]) (b := [a, b]) hx hy rfl (inKw ha hb) (inKw ha hb)
theorem Val_remE2 {x y : Operand} {t t' : TypeId} {a b c : Nat} (hc : a % b = c) (hb : 0 < b) (hx : ev e x = .int .i64 (a : Int)) (hy : ev e y = .int .i64 (b : Int)) : Val P N w0 L e ⟨d, .binOp .rem t x y t', ty, pos, af, g⟩ (.int .i64 (c : Int)) := by
  have := Val_rem (P := P) (N := N) (w0 := w0) (L := L) (d := d) (ty := ty) (pos := pos) (af := af) (g := g) (t := t) (t' := t') hx hy (by omega)
  have e : ((a : Int).tmod b) = (c : Int) := by rw [Int.tmod_eq_emod_of_nonneg (by omega), ← hc]; omega
  rwa [e] at this
end
end Go.Proofs.Ytakmopiceopcpaa
end
