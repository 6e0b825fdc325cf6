/- Rules for laws that lay many things anew: slices wherever they stand, what lies there is read. -/
import Derived.Test.YtbhgpnbfdjoglaaC3
import Derived.Test.YtbhgpnbfdjoglaaF3
section
namespace Go.Proofs.Ytbhgpnbfdjoglaa
open Go.RowKit
/-- One slice that grew, wherever it stands. -/
inductive PickS (E : TypeId) (sz k : Nat) (xs : List Value) (s : Option (Nat × Nat)) : Hp → Hp → Prop
  | here {L : Hp} : PickS E sz k xs s (svH E sz k xs s L) L
  | there {y : Nat × (Obj → Prop)} {L L' : Hp} (h : PickS E sz k xs s L L') : PickS E sz k xs s (y :: L) (y :: L')
  | sv {E2 : TypeId} {sz2 k2 : Nat} {xs2 : List Value} {s2 : Option (Nat × Nat)} {L L' : Hp} (h : PickS E sz k xs s L L') : PickS E sz k xs s (svH E2 sz2 k2 xs2 s2 L) (svH E2 sz2 k2 xs2 s2 L')
  | app {X L L' : Hp} (h : PickS E sz k xs s L L') : PickS E sz k xs s (X ++ L) (X ++ L')
theorem svH_swap2 {E E2 : TypeId} {sz k sz2 k2 : Nat} {xs xs2 : List Value} {s s2 : Option (Nat × Nat)} {L : Hp} : (svH E sz k xs s (svH E2 sz2 k2 xs2 s2 L)).Perm (svH E2 sz2 k2 xs2 s2 (svH E sz k xs s L)) := by
  cases s with
  | none => exact .refl _
  | some p => cases s2 with
    | none => exact .refl _
    | some q => exact .swap _ _ _
theorem PickS.perm {E : TypeId} {sz k : Nat} {xs : List Value} {s : Option (Nat × Nat)} {L L' : Hp} (h : PickS E sz k xs s L L') : L.Perm (svH E sz k xs s L') := by
  induction h with
  | here => exact .refl _
  | @there y L L' h ih =>
    refine (ih.cons y).trans ?_
    cases s with
    | none => exact .refl _
    | some p => exact .swap _ _ _
  | sv h ih => exact (svH_perm ih).trans svH_swap2
  | @app X L L' h ih => exact (ih.append_left X).trans svH_mid
theorem Sub.pickS {E : TypeId} {sz k : Nat} {xs : List Value} {s : Option (Nat × Nat)} {B L L' : Hp} (h : PickS E sz k xs s L L') (q : Sub B L') : Sub (svH E sz k xs s B) L := by
  obtain ⟨L0, q⟩ := q
  exact ⟨L0, h.perm.trans ((svH_perm q).trans (by rw [svH_app]))⟩
section
variable {P : Program} {r : Option Nat} {n N : Nat} {w0 : World} {ops : Array Oper} {Q : Post} {ds : List Deferred} {e : Env} {L B : Hp} {fl T : List Nat} {k2 n0 fuel : Nat}
/-- What is known of the tmps, alone. -/
theorem WP_gen {c : Code} (ws : List Nat) (sl : List (Nat × Value)) (hs : Slots e sl) (h : ∀ e1, WP P r n N w0 c Q (frame ws e1 sl e1) ds L) : WP P r n N w0 c Q e ds L := by
  have hf : e = frame ws e sl e := frame_intro hs.look (Off.refl _ _)
  rw [hf]
  exact h e
theorem AnyC_cutJ {σ : Type} {k : Nat} {D0 : List Nat} (D : List Nat) (ws : List Nat) (sl : σ → List (Nat × Value)) (Lp : σ → Hp) (J : σ → Prop) (h2 : ∀ s j, J s → AnyC P r n N w0 ops Q ds fl B T k2 (k + 1) (doneOf n0 D) (frame ws e (sl s) j) (Lp s))
    (h1 : (∀ s e' L', Slots e' (sl s) → Off ws e' e → Sub (Lp s) L' → J s → AnyC P r n N w0 ops Q ds fl B T k2 (k + 1) (doneOf n0 D) e' L') → AnyC P r n N w0 ops Q ds fl B T k2 fuel (doneOf n0 D0) e L) : AnyC P r n N w0 ops Q ds fl B T k2 fuel (doneOf n0 D0) e L := by
  refine h1 fun s e' L' hs ho hS hJ => ?_
  have hf : e' = frame ws e (sl s) e' := frame_intro hs.look ho
  obtain ⟨a, b, c⟩ := h2 s e' hJ
  rw [← hf] at c
  obtain ⟨L0, hp⟩ := hS
  have hS2 : Sub B L' := by
    obtain ⟨L1, hp1⟩ := a
    exact ⟨L1 ++ L0, hp.trans ((hp1.append_right L0).trans (by rw [List.append_assoc]))⟩
  refine ⟨hS2, b, fun i hi => ?_⟩
  obtain ⟨o, ho, h3⟩ := c i hi
  exact ⟨o, ho, fun a w hs he hd hI => h3 a w hs he hd ((hI.perm (hp.trans List.perm_append_comm)).wk (.app L0 _))⟩
theorem AnyC_cut0 {σ : Type} {D0 : List Nat} (D : List Nat) (ws : List Nat) (sl : σ → List (Nat × Value)) (Lp : σ → Hp) (J : σ → Prop) (h2 : ∀ s j, J s → AnyC P r n N w0 ops Q ds fl B T k2 0 (doneOf n0 D) (frame ws e (sl s) j) (Lp s))
    (h1 : (∀ s e' L', Slots e' (sl s) → Off ws e' e → Sub (Lp s) L' → J s → AnyC P r n N w0 ops Q ds fl B T k2 0 (doneOf n0 D) e' L') → AnyC P r n N w0 ops Q ds fl B T k2 fuel (doneOf n0 D0) e L) : AnyC P r n N w0 ops Q ds fl B T k2 fuel (doneOf n0 D0) e L := by
  refine h1 fun s e' L' hs ho hS hJ => ?_
  have hf : e' = frame ws e (sl s) e' := frame_intro hs.look ho
  obtain ⟨a, b, L2, hp2, c⟩ := h2 s e' hJ
  rw [← hf] at c
  obtain ⟨L0, hp⟩ := hS
  have hS2 : Sub B L' := by
    obtain ⟨L1, hp1⟩ := a
    exact ⟨L1 ++ L0, hp.trans ((hp1.append_right L0).trans (by rw [List.append_assoc]))⟩
  exact ⟨hS2, b, L', .refl _, fun a w hs he hd hI => c a w hs he hd (((hI.perm (hp.trans List.perm_append_comm)).wk (.app L0 _)).perm hp2)⟩
end
section
variable {P : Program} {n : Nat} {ops : Array Oper} {e : Env}
theorem AWalk_5S {i j k m l d d' d'' d''' d'''' : Nat} {o o' o'' o3 o4 : Oper} {obj obj' obj'' obj3 obj4 : Obj} {φ φ' φ'' φ3 φ4 : Obj → Prop} {mk mk' mk'' mk3 mk4 : Nat → Value} {K : Env → Hp → Prop}
    (ho : ops[i]? = some o) (hd : o.dst = some d) (hf : fine n o = true) (hg : Region.wanted o (yieldE ops e) = true) (hφ : φ obj) (hn : New P e o obj mk)
    (ho' : ops[j]? = some o') (hd' : o'.dst = some d') (hf' : fine n o' = true) (hg' : Region.wanted o' (yieldE ops e) = true) (hφ' : φ' obj') (hn' : New P e o' obj' mk')
    (ho'' : ops[k]? = some o'') (hd'' : o''.dst = some d'') (hf'' : fine n o'' = true) (hg'' : Region.wanted o'' (yieldE ops e) = true) (hφ'' : φ'' obj'') (hn'' : New P e o'' obj'' mk'')
    (ho3 : ops[m]? = some o3) (hd3 : o3.dst = some d''') (hf3 : fine n o3 = true) (hg3 : Region.wanted o3 (yieldE ops e) = true) (hφ3 : φ3 obj3) (hn3 : New P e o3 obj3 mk3)
    (ho4 : ops[l]? = some o4) (hd4 : o4.dst = some d'''') (hf4 : fine n o4 = true) (hg4 : Region.wanted o4 (yieldE ops e) = true) (hφ4 : φ4 obj4) (hn4 : New P e o4 obj4 mk4)
    (h : ∀ b b' b'' b3 b4, K (upd (upd (upd (upd (upd e d (mk b)) d' (mk' b')) d'' (mk'' b'')) d''' (mk3 b3)) d'''' (mk4 b4)) [(b, φ), (b', φ'), (b'', φ''), (b3, φ3), (b4, φ4)]) : AWalk P n ops [i, j, k, m, l] e e K :=
  ⟨[⟨i, o, obj, φ, mk⟩, ⟨j, o', obj', φ', mk'⟩, ⟨k, o'', obj'', φ'', mk''⟩, ⟨m, o3, obj3, φ3, mk3⟩, ⟨l, o4, obj4, φ4, mk4⟩], rfl, (by intro s hs; rcases List.mem_cons.1 hs with rfl | hs; (exact ⟨ho, hf, hg, hφ, hn⟩); rcases List.mem_cons.1 hs with rfl | hs; (exact ⟨ho', hf', hg', hφ', hn'⟩); rcases List.mem_cons.1 hs with rfl | hs; (exact ⟨ho'', hf'', hg'', hφ'', hn''⟩); rcases List.mem_cons.1 hs with rfl | hs; (exact ⟨ho3, hf3, hg3, hφ3, hn3⟩); rcases List.mem_cons.1 hs with rfl | hs; (exact ⟨ho4, hf4, hg4, hφ4, hn4⟩); cases hs), by
    intro b b' b'' b3 b4
    show K (updO (updO (updO (updO (updO e o.dst (mk b)) o'.dst (mk' b')) o''.dst (mk'' b'')) o3.dst (mk3 b3)) o4.dst (mk4 b4)) [(b, φ), (b', φ'), (b'', φ''), (b3, φ3), (b4, φ4)]
    rw [hd, hd', hd'', hd3, hd4]
    exact h b b' b'' b3 b4⟩
end
theorem inK3 {a b c : Int} (ha : -1000000 ≤ a ∧ a ≤ 1000000) (hb : -1000000 ≤ b ∧ b ≤ 1000000) (hc : -1000000 ≤ c ∧ c ≤ 1000000) : inKs [.i64, .i64, .i64] [a, b, c] := by
  refine ⟨rfl, ?_⟩
  intro p hp
  simp only [List.zip_cons_cons, List.zip_nil_right, List.mem_cons, List.not_mem_nil, or_false] at hp
  rcases hp with rfl | rfl | rfl <;> (simp [Lit.wf, IntKind.min, IntKind.max, IntKind.bits, IntKind.signed]; omega)
theorem Val_neq3 {P : Program} {N : Nat} {w0 : World} {L : Hp} {e : Env} {dd : Option Nat} {ty : TypeId} {pos : String} {af : Array Edge} {g : Option (Nat × Bool)} {x y : Operand} {t t' : TypeId} [hk : KeyTy P t [.i64, .i64, .i64]] {a b c : Int} (hx : ev e x = .agg [.int .i64 a, .int .i64 b, .int .i64 c].toArray) (hy : ev e y = .agg [.int .i64 a, .int .i64 b, .int .i64 c].toArray) (h : inKs [.i64, .i64, .i64] [a, b, c]) : Val P N w0 L e ⟨dd, .binOp .neq t x y t', ty, pos, af, g⟩ (.bool false) := Val_neqIF (ks := [.i64, .i64, .i64]) (a := [a, b, c]) (b := [a, b, c]) hx hy rfl h h
theorem Val_subN {P : Program} {N : Nat} {w0 : World} {L : Hp} {e : Env} {d : Option Nat} {ty : TypeId} {pos : String} {af : Array Edge} {g : Option (Nat × Bool)} {x y : Operand} {t t' : TypeId} {m n : Int} {q : Nat} (hq : m - n = (q : Int)) (h2 : q ≤ 1000000) (hx : ev e x = .int .i64 m) (hy : ev e y = .int .i64 n) : Val P N w0 L e ⟨d, .binOp .sub t x y t', ty, pos, af, g⟩ (.int .i64 (q : Int)) := by
  rw [← hq]
  exact Val_sub hx hy (by rw [hq]; exact InK_i64 (by omega) (by omega))
theorem svV_some (b c k : Nat) : svV (some (b, c)) k = .slice (some ⟨b, 0, none⟩) k c := rfl
theorem svH_some (E : TypeId) (sz k : Nat) (xs : List Value) (b c : Nat) (L : Hp) : svH E sz k xs (some (b, c)) L = (b, Row E sz k c xs) :: L := rfl
theorem set_flat {sz : Nat} : ∀ (rows : List (List Value)) (i : Nat) (hi : i < rows.length), (∀ r ∈ rows, r.length = sz) → ∀ (j : Nat), j < sz → ∀ v : Value, setL rows.flatten (i * sz + j) [v] = (rows.set i (rows[i].set j v)).flatten
  | [], i, hi, _, _, _, _ => absurd hi (Nat.not_lt_zero _)
  | r :: rows, 0, _, hr, j, hj, v => by
    have h1 := hr r (.head _)
    simp only [setL, Nat.zero_mul, Nat.zero_add, List.flatten_cons, List.set_cons_zero, List.getElem_cons_zero]
    rw [List.set_append_left _ _ (by omega)]
  | r :: rows, i + 1, hi, hr, j, hj, v => by
    have h1 := hr r (.head _)
    have ih := set_flat rows i (by simpa using hi) (fun x hx => hr x (.tail _ hx)) j hj v
    simp only [setL, List.flatten_cons, List.set_cons_succ, List.getElem_cons_succ] at ih ⊢
    rw [List.set_append_right _ _ (by rw [Nat.succ_mul]; omega), h1, show (i + 1) * sz + j - sz = i * sz + j by rw [Nat.succ_mul]; omega, ih]
/-- A cell of a row that grew. -/
theorem rd_row {N : Nat} {w0 : World} {L : Hp} {E : TypeId} {sz k cap b o : Nat} {xs : List Value} {v : Value} (hm : Mem b (Row E sz k cap xs) L) (hv : xs[o]? = some v) : Rd N w0 L b (0 + o) v := by
  intro w hI
  obtain ⟨ob, hob, cur, rfl, hc1, hc2, hc3, hc4⟩ := hI.obj' hm
  rw [Nat.zero_add, cell_of_row w b _ cur E (0, 0) hob]
  rw [← hc4, List.getElem?_take] at hv
  split at hv
  · simpa using hv
  · cases hv
theorem Val_remU {P : Program} {N : Nat} {w0 : World} {L : Hp} {e : Env} {d : Option Nat} {ty : TypeId} {pos : String} {af : Array Edge} {g : Option (Nat × Bool)} {x y : Operand} {t t' : TypeId} {a b c : Nat} (hc : a % b = c) (hb : 0 < b) (hx : ev e x = .int .u8 (a : Int)) (hy : ev e y = .int .u8 (b : Int)) : Val P N w0 L e ⟨d, .binOp .rem t x y t', ty, pos, af, g⟩ (.int .u8 (c : Int)) := by
  have := Val_rem (P := P) (N := N) (w0 := w0) (L := L) (d := d) (ty := ty) (pos := pos) (af := af) (g := g) (t := t) (t' := t') hx hy (by omega)
  have e : ((a : Int).tmod b) = (c : Int) := by rw [Int.tmod_eq_emod_of_nonneg (by omega), ← hc]; omega
  rwa [e] at this
theorem ro_blk {N : Nat} {w0 w : World} {L : Hp} {b T : Nat} {cells : List Value} (hI : Inv N w0 L w) (hm : Mem b (Blk T cells) L) : b < w.heap.size ∧ Ro w b 0 cells :=
  ⟨hI.lt hm.mem, fun j v hj => by rw [Nat.zero_add, hI.cell hm]; simpa using hj⟩
theorem Ro.at_ {w : World} {b o : Nat} {vs us : List Value} (h : Ro w b o vs) (i : Nat) (hu : ∀ j v, us[j]? = some v → vs[i + j]? = some v) : Ro w b (o + i) us := fun j v hj => by
  rw [Nat.add_assoc]; exact h (i + j) v (hu j v hj)
/-- What is owned is given a name. -/
theorem WP_nm {P : Program} {r : Option Nat} {n N : Nat} {w0 : World} {L : Hp} {Q : Post} {e : Env} {ds : List Deferred} {c : Code} (h : ∀ L2, L = L2 → WP P r n N w0 c Q e ds L2) : WP P r n N w0 c Q e ds L := h L rfl
end Go.Proofs.Ytbhgpnbfdjoglaa
end
