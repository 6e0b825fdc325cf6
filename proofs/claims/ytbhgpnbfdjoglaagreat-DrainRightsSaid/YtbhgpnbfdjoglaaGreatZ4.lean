/- The document's answer for drains: lists that were laid anew, read; all levels. · The document's answer for drains: all levels, what is known; next banks, ends, water, flows. -/
import Derived.Test.YtbhgpnbfdjoglaaGreatZ2
section
namespace Go.Proofs.YtbhgpnbfdjoglaaGreat
open Go.RowKit
/-- A list of numbers, read. -/
def RdL (X : Hp) (v : Value) (row : List Int) : Prop := ∃ A c, v = .slice A row.length c ∧ ∀ (j : Nat) (x : Int), row[j]? = some x → ∃ b, A = some ⟨b, 0, none⟩ ∧ RdX X b j (.int .i64 x)
/-- A list of lists of numbers. -/
def RdLL (X : Hp) (v : Value) (rows : List (List Int)) : Prop := ∃ A c, v = .slice A rows.length c ∧ ∀ (i : Nat) (row : List Int), rows[i]? = some row → ∃ b u, A = some ⟨b, 0, none⟩ ∧ RdX X b i u ∧ RdL X u row
theorem RdL.wk {X L : Hp} {v : Value} {row : List Int} (h : RdL X v row) (k : Wk L X) : RdL L v row := by
  obtain ⟨A, c, rfl, h⟩ := h
  exact ⟨A, c, rfl, fun j x hj => let ⟨b, h1, h2⟩ := h j x hj; ⟨b, h1, h2.wk k⟩⟩
theorem RdLL.wk {X L : Hp} {v : Value} {rows : List (List Int)} (h : RdLL X v rows) (k : Wk L X) : RdLL L v rows := by
  obtain ⟨A, c, rfl, h⟩ := h
  exact ⟨A, c, rfl, fun j x hj => let ⟨b, u, h1, h2, h3⟩ := h j x hj; ⟨b, u, h1, h2.wk k, h3.wk k⟩⟩
theorem RdX.perm {X L : Hp} {b o : Nat} {v : Value} (h : RdX X b o v) (k : L.Perm X) : RdX L b o v := fun N w0 w hI => h N w0 w (hI.perm k)
theorem RdL.perm {X L : Hp} {v : Value} {row : List Int} (h : RdL X v row) (k : L.Perm X) : RdL L v row := by
  obtain ⟨A, c, rfl, h⟩ := h
  exact ⟨A, c, rfl, fun j x hj => let ⟨b, h1, h2⟩ := h j x hj; ⟨b, h1, h2.perm k⟩⟩
theorem RdLL.perm {X L : Hp} {v : Value} {rows : List (List Int)} (h : RdLL X v rows) (k : L.Perm X) : RdLL L v rows := by
  obtain ⟨A, c, rfl, h⟩ := h
  exact ⟨A, c, rfl, fun j x hj => let ⟨b, u, h1, h2, h3⟩ := h j x hj; ⟨b, u, h1, h2.perm k, h3.perm k⟩⟩
def intL (row : List Int) : List Value := row.map fun x => .int .i64 x
/-- A list of numbers that grew. -/
theorem RdL.sv {E : TypeId} {s : Option (Nat × Nat)} {row : List Int} {L : Hp} (hs : svOk s 1 row.length (intL row)) : RdL (svH E 1 row.length (intL row) s L) (svV s row.length) row := by
  obtain ⟨A, c, h1, h2⟩ := sv_slice (E := E) hs
  refine ⟨A, c, h1, fun j x hj => ?_⟩
  have hj' : (intL row)[j]? = some (.int .i64 x) := by unfold intL; rw [List.getElem?_map, hj]; rfl
  cases s with
  | none =>
    have := hs.2 rfl
    rw [List.eq_nil_of_length_eq_zero this] at hj; simp at hj
  | some p =>
    obtain ⟨b, cap⟩ := p
    simp only [svV, Value.slice.injEq] at h1
    refine ⟨b, h1.1.symm, fun N w0 w hI => ?_⟩
    obtain ⟨b', hb, _, hc⟩ := h2 hI j _ hj'
    rw [← h1.1] at hb
    simp only [Option.some.injEq, Addr.mk.injEq, and_true] at hb
    rw [hb]; exact hc
/-- A list of lists that grew. -/
theorem RdLL.sv {E : TypeId} {s : Option (Nat × Nat)} {vals : List Value} {rows : List (List Int)} {X : Hp} (hs : svOk s 1 rows.length vals) (h : ∀ (i : Nat) (row : List Int), rows[i]? = some row → ∃ u, vals[i]? = some u ∧ RdL X u row) : RdLL (svH E 1 rows.length vals s X) (svV s rows.length) rows := by
  obtain ⟨A, c, h1, h2⟩ := sv_slice (E := E) hs
  refine ⟨A, c, h1, fun i row hi => ?_⟩
  obtain ⟨u, hu, hr⟩ := h i row hi
  cases s with
  | none =>
    have := hs.2 rfl
    rw [List.eq_nil_of_length_eq_zero this] at hi; simp at hi
  | some p =>
    obtain ⟨b, cap⟩ := p
    simp only [svV, Value.slice.injEq] at h1
    refine ⟨b, u, h1.1.symm, fun N w0 w hI => ?_, hr.wk (.drop (.refl _))⟩
    obtain ⟨b', hb, _, hc⟩ := h2 hI i _ hu
    rw [← h1.1] at hb
    simp only [Option.some.injEq, Addr.mk.injEq, and_true] at hb
    rw [hb]; exact hc
/-- Lists, as the values of a row read. -/
def RdV (X : Hp) (vals : List Value) (rows : List (List Int)) : Prop := ∀ (i : Nat) (row : List Int), rows[i]? = some row → ∃ u, vals[i]? = some u ∧ RdL X u row
theorem RdV.wk {X L : Hp} {vals : List Value} {rows : List (List Int)} (h : RdV X vals rows) (k : Wk L X) : RdV L vals rows := fun i row hi => let ⟨u, h1, h2⟩ := h i row hi; ⟨u, h1, h2.wk k⟩
theorem RdV.snoc {X : Hp} {vals : List Value} {rows : List (List Int)} {u : Value} {row : List Int} (h : RdV X vals rows) (hl : vals.length = rows.length) (hu : RdL X u row) : RdV X (vals ++ [u]) (rows ++ [row]) := by
  intro i r hi
  by_cases hil : i < rows.length
  · rw [List.getElem?_append_left hil] at hi
    obtain ⟨u', h1, h2⟩ := h i r hi
    exact ⟨u', by rw [List.getElem?_append_left (by omega)]; exact h1, h2⟩
  · rw [List.getElem?_append_right (by omega)] at hi
    have hii : i = rows.length := by
      have := (List.getElem?_eq_some_iff.1 hi).1
      simp at this; omega
    subst hii
    simp only [Nat.sub_self, List.getElem?_cons_zero, Option.some.injEq] at hi
    subst hi
    exact ⟨u, by rw [List.getElem?_append_right (by omega), hl]; simp, hu⟩
theorem svH_swap {E E2 : TypeId} {sz k sz2 k2 : Nat} {xs xs2 : List Value} {s s2 : Option (Nat × Nat)} {L : Hp} : (svH E sz k xs s (svH E2 sz2 k2 xs2 s2 L)).Perm (svH E2 sz2 k2 xs2 s2 (svH E sz k xs s L)) := by
  cases s with
  | none => exact .refl _
  | some p => cases s2 with
    | none => exact .refl _
    | some q => exact .swap _ _ _
theorem svH_in {E : TypeId} {sz k : Nat} {xs : List Value} {s : Option (Nat × Nat)} {x : Nat × (Obj → Prop)} {L : Hp} : (x :: svH E sz k xs s L).Perm (svH E sz k xs s (x :: L)) := by
  cases s with
  | none => exact .refl _
  | some p => exact .swap _ _ _
theorem Wk.none_ : ∀ L : Hp, Wk L []
  | [] => .refl _
  | _ :: L => .drop (Wk.none_ L)
theorem Wk.appR (X L : Hp) : Wk (X ++ L) X := by
  induction X with
  | nil => exact Wk.none_ L
  | cons x X ih => exact .keep1 ih
theorem RdL.nilS (X : Hp) (c : Nat) : RdL X (.slice none 0 c) [] := ⟨none, c, rfl, fun j x h => by simp at h⟩
/-- The cells that a list reads from. -/
theorem RdL.src {X L : Hp} {A : Option Addr} {n c : Nat} {row : List Int} {N : Nat} {w0 : World} (h : RdL X (.slice A n c) row) (k : Wk L X) : (∀ w, Inv N w0 L w → ∀ j u, (intL row)[j]? = some u → ∃ b o, A = some ⟨b, o, none⟩ ∧ w.cell? ⟨b, o + j, none⟩ = some u) ∧ (A = none → row.length = 0) := by
  obtain ⟨A', c', h1, h2⟩ := h
  simp only [Value.slice.injEq] at h1
  obtain ⟨rfl, _, _⟩ := h1
  refine ⟨fun w hI j u hj => ?_, fun hA => ?_⟩
  · unfold intL at hj
    rw [List.getElem?_map] at hj
    cases hr : row[j]? with
    | none => rw [hr] at hj; cases hj
    | some x =>
      rw [hr] at hj
      simp only [Option.map_some, Option.some.injEq] at hj
      subst hj
      obtain ⟨b, h3, h4⟩ := h2 j x hr
      exact ⟨b, 0, h3, by rw [Nat.zero_add]; exact h4 N w0 w (hI.wk k)⟩
  · cases row with
    | nil => rfl
    | cons x row =>
      obtain ⟨b, h3, _⟩ := h2 0 x rfl
      rw [hA] at h3; cases h3
theorem intL_len (row : List Int) : (intL row).length = row.length := by simp [intL]
theorem intL_ones (row : List Int) : ones (intL row) = true := by
  unfold intL ones
  rw [List.all_map, List.all_eq_true]
  intro x _
  rfl
theorem intL_snoc (row : List Int) (v : Int) : intL (row ++ [v]) = intL row ++ [.int .i64 v] := by simp [intL]
theorem flatMap_len {α β : Type} (f : α → List β) (M : Nat) (hf : ∀ x, (f x).length = M) : ∀ l : List α, (l.flatMap f).length = l.length * M
  | [] => by simp
  | x :: l => by rw [List.flatMap_cons, List.length_append, hf, flatMap_len f M hf l, List.length_cons, Nat.succ_mul, Nat.add_comm]
theorem allR_cons_len (s : Sp) (l : List Sp) : (allR (s :: l)).length = (vals s).length * (allR l).length := flatMap_len _ _ (fun x => by simp) _
/-- The lists that begin so. -/
def lsF (begin : List Int) (l : List Sp) : List (List Int) := (allR l).map (begin ++ ·)
theorem lsF_cons (begin : List Int) (s : Sp) (l : List Sp) : lsF begin (s :: l) = (vals s).flatMap fun v => lsF (begin ++ [v]) l := by
  unfold lsF
  simp only [allR, List.map_flatMap, List.map_map]
  congr 1
  funext v
  apply List.map_congr_left
  intro q _
  simp
theorem lsF_len (begin : List Int) (l : List Sp) : (lsF begin l).length = (allR l).length := by simp [lsF]
theorem RdL.opn {X : Hp} {v : Value} {row : List Int} (h : RdL X v row) (hne : 0 < row.length) : ∃ b c, v = .slice (some ⟨b, 0, none⟩) row.length c ∧ ∀ (j : Nat) (x : Int), row[j]? = some x → RdX X b (0 + j) (.int .i64 x) := by
  obtain ⟨A, c, rfl, h⟩ := h
  obtain ⟨b, rfl, _⟩ := h 0 _ (List.getElem?_eq_getElem hne)
  refine ⟨b, c, rfl, fun j x hj => ?_⟩
  obtain ⟨b', h1, h2⟩ := h j x hj
  simp only [Option.some.injEq, Addr.mk.injEq, and_true] at h1
  rw [h1, Nat.zero_add]; exact h2
/-- A truth that there can be. -/
theorem RdLL.opn {X : Hp} {v : Value} {rows : List (List Int)} (h : RdLL X v rows) (hne : 0 < rows.length) : ∃ b c, v = .slice (some ⟨b, 0, none⟩) rows.length c ∧ ∀ (i : Nat) (row : List Int), rows[i]? = some row → ∃ u, RdX X b (0 + i) u ∧ RdL X u row := by
  obtain ⟨A, c, rfl, h⟩ := h
  obtain ⟨b, _, rfl, _⟩ := h 0 _ (List.getElem?_eq_getElem hne)
  refine ⟨b, c, rfl, fun i row hi => ?_⟩
  obtain ⟨b', u, h1, h2, h3⟩ := h i row hi
  simp only [Option.some.injEq, Addr.mk.injEq, and_true] at h1
  exact ⟨u, by rw [h1, Nat.zero_add]; exact h2, h3⟩
theorem RdL.rdI {X L : Hp} {A : Option Addr} {n c : Nat} {row : List Int} {N : Nat} {w0 : World} (h : RdL X (.slice A n c) row) (k : Wk L X) : RdI N w0 L A row := fun i hi => by
  obtain ⟨A', c', h1, h2⟩ := h
  simp only [Value.slice.injEq] at h1
  obtain ⟨rfl, _, _⟩ := h1
  have hi2 : i < row.length := by simpa [i1] using hi
  obtain ⟨b, h3, h4⟩ := h2 i row[i] (List.getElem?_eq_getElem hi2)
  refine ⟨b, 0, h3, fun j v hj w hI => ?_⟩
  have hr : (i1 row)[i] = [Value.int .i64 row[i]] := by simp [i1]
  rw [hr] at hj
  match j with
  | 0 =>
    simp at hj
    subst hj
    rw [Nat.mul_one, Nat.add_zero, Nat.zero_add]
    exact h4 N w0 w (hI.wk k)
  | j + 1 => simp at hj
structure LsSt where
  c : Nat
  x : Int
  rows : List (List Int)
  X : Hp
  vals : List Value
  s : Option (Nat × Nat)
theorem pm_costs {E E2 : TypeId} {sz k sz2 k2 : Nat} {xs xs2 : List Value} {s s2 : Option (Nat × Nat)} {X M : Hp} (x : Nat × (Obj → Prop)) : (x :: svH E sz k xs s (svH E2 sz2 k2 xs2 s2 (X ++ M))).Perm (svH E2 sz2 k2 xs2 s2 (svH E sz k xs s X ++ (x :: M))) :=
  (svH_swap.cons _).trans (svH_in.trans (svH_perm (by rw [svH_app]; exact List.perm_middle.symm)))
theorem sub_in {E : TypeId} {sz k : Nat} {xs : List Value} {s : Option (Nat × Nat)} {X L : Hp} (x : Nat × (Obj → Prop)) : Sub (svH E sz k xs s (X ++ (x :: L))) (x :: svH E sz k xs s (X ++ L)) :=
  ⟨[], by rw [List.append_nil]; exact svH_in.trans (svH_perm List.perm_middle.symm)⟩
def fsF (d : Dr) (set : Nat) (begin : List Int) (l : List Sp) : List (List Int) := (lsF begin l).filter (rightB (onlyD d set))
theorem fsF_le (d : Dr) (set : Nat) (begin : List Int) (l : List Sp) : (fsF d set begin l).length ≤ (allR l).length := by
  rw [← lsF_len begin l]; exact List.length_filter_le _ _
theorem fsF_cons (d : Dr) (set : Nat) (begin : List Int) (s : Sp) (l : List Sp) : fsF d set begin (s :: l) = (vals s).flatMap fun v => fsF d set (begin ++ [v]) l := by
  unfold fsF
  rw [lsF_cons, List.filter_flatMap]
theorem fsF_flat (d : Dr) (set : Nat) (begin : List Int) (l : List Sp) : ∀ vs : List Int, (vs.flatMap fun v => fsF d set (begin ++ [v]) l).length ≤ vs.length * (allR l).length
  | [] => by simp
  | v :: vs => by
    have := fsF_flat d set begin l vs
    have := fsF_le d set (begin ++ [v]) l
    rw [List.flatMap_cons, List.length_append, List.length_cons, Nat.succ_mul]
    omega
attribute [local irreducible] AnyO AnyB QAny QB EWalk AWalk Ev WP OPS QThen QBlock QScope QLoop QBody Val New Turn Tri Enters PostA Blk Ro
attribute [local irreducible] AnyC QC
section
variable (N : Nat) (w0 : World)
set_option maxRecDepth 100000 in
set_option maxHeartbeats 4000000 in
theorem from_a (g : Fg) (hA : DrAt N w0 g) (hv : VD g.d) (set : Nat) (hset : set ≤ 1000000) : ∀ (rest : List Bk) (begin : List Int), begin.length + rest.length = g.d.banks.length → g.d.banks.drop begin.length = rest →
    ∀ (L X : Hp) (vb : Value) (rows : List (List Int)) (vals : List Value) (s : Option (Nat × Nat)), RdL X vb begin → svOk s 1 rows.length vals → RdV X vals rows → rows.length + (allR (rest.map (·.lv))).length ≤ 1000000 →
    Tri Tryz.prog N w0 (svH 55 1 rows.length vals s (X ++ L)) 83 [drV g, .int .i64 (set : Int), vb, svV s rows.length].toArray fun x L2 => ∃ v, x = .returned v ∧ ∃ (rows' : List (List Int)) (X2 : Hp) (vals' : List Value) (s' : Option (Nat × Nat)), v = svV s' rows'.length ∧ rows' = rows ++ fsF g.d set begin (rest.map (·.lv)) ∧ svOk s' 1 rows'.length vals' ∧ RdV (X2 ++ X) vals' rows' ∧ L2 = svH 55 1 rows'.length vals' s' ((X2 ++ X) ++ L)
  | [], begin, hlen, hdrop, L, X, vb, rows, vals, s, hvb, hs, hrd, hb => by
    obtain ⟨Ab, cb, rfl, hbr⟩ := hvb
    have hvb : RdL X (.slice Ab begin.length cb) begin := ⟨Ab, cb, rfl, hbr⟩
    simp only [List.length_nil, Nat.add_zero] at hlen
    have hvl : vals.length = rows.length := by have := hs.1; omega
    have hri := fun L' k => right_ref N w0 L' g hA hv begin hlen Ab cb (hvb.rdI k) set hset
    have hnb := hv.nb
    have hfs : fsF g.d set begin (([] : List Bk).map (·.lv)) = if rightB (onlyD g.d set) begin = true then [begin] else [] := by
      unfold fsF lsF
      simp only [List.map_nil, allR, List.map_cons, List.append_nil, List.filter_cons, List.filter_nil]
    rw [hfs]
    refine Tri.fgt ?_
    refine tri_of_WP Tryz.func83 rfl (n := _) rfl (by simp) ?_
    simp only [List.map_nil, allR, List.length_singleton] at hb
    unfold drV drL at hri ⊢
    rw [hlen]
    rw [hlen] at hvb
    obtain ⟨n, hn⟩ : ∃ n, g.d.banks.length = n := ⟨_, rfl⟩
    rw [hn] at hri hvb hnb ⊢
    have hwk : ∀ b x, Wk ((b, x) :: svH 55 1 rows.length vals s (X ++ L)) X := fun b x => .drop (.svD (Wk.appR X L))
    cases hr : rightB (onlyD g.d set) begin with
    | true =>
      rw [hr] at hri
      rw [if_pos rfl]
      repeat' (first | (refine GiP ?_; first | (refine Znh ?_) | (with_reducible refine Znl ?_)) | (refine GiW ?_; first | (refine Zsq fun K hK => ?_) | (refine ZrN 0 fun _ => ?_; refine Zal 4 fun b4 => ?_; refine Zv Zav ?_) | (refine ZrN 1 fun _ => ?_; refine Zv Zmv ?_; refine Zv Zxlen ?_; refine Zv Zai ?_) | (refine ZrN 2 fun _ => ?_; refine Zv Zmi ?_; refine Zv Zf0 ?_; refine Zv Zld ?_; refine Zv Zxlen ?_; refine Zv Zxeql ?_) | (refine ZrN 3 fun _ => ?_; refine Zv Zla ?_; refine Zv Zmv ?_; refine Zv Zmi ?_; refine Zcl (Enters_fn rfl) (hri _ (hwk _ _)) ?_) | (refine ZrN 4 fun _ => ?_; refine Zv Zmv ?_; refine Zv Zmv ?_; refine Zal 24 fun b24 => ?_; refine Zag (fun s25 hs25 => ?_) (h1 := rfl); refine Zv Zav ?_) | (refine ZrN 5 fun _ => ?_; refine Zv Zmv ?_; refine Zv Zav ?_) | (refine WP_cond_true rfl ?_) | (refine WP_cond_false rfl ?_) | (refine Zcd (fun hc => ?_) (fun hc => ?_) <;> (try (exfalso; omega))) | (with_reducible apply WP_skip) | (with_reducible apply WP_block) | (with_reducible apply WP_exit) | (with_reducible apply WP_ret)) | (refine Zhn ?_) | (with_reducible apply QBlock_normal) | (refine Zhx ?_) | (with_reducible apply QBlock_hit) | (refine Zqb ?_) | (with_reducible apply QLoop_exit) | (refine Zhr ?_) | (with_reducible apply QBlock_ret) | (with_reducible apply QLoop_ret))
      refine QBody_ret1 rfl rfl ⟨svH 55 1 (rows.length + 1) (vals ++ [.slice Ab n cb]) s25 (X ++ L), (by repeat (first | exact Wk.refl _ | apply Wk.keep1 | apply Wk.drop | apply Wk.sv | apply Wk.svD | apply Wk.appD)), _, rfl, rows ++ [begin], [], vals ++ [.slice Ab n cb], s25, by rw [List.length_append]; rfl, rfl, by rw [List.length_append]; exact hs25, hrd.snoc hvl hvb, by rw [List.length_append]; rfl⟩
    | false =>
      rw [hr] at hri
      rw [if_neg (by simp), List.append_nil]
      repeat' (first | (refine GiP ?_; first | (refine Znh ?_) | (with_reducible refine Znl ?_)) | (refine GiW ?_; first | (refine Zsq fun K hK => ?_) | (refine ZrN 0 fun _ => ?_; refine Zal 4 fun b4 => ?_; refine Zv Zav ?_) | (refine ZrN 1 fun _ => ?_; refine Zv Zmv ?_; refine Zv Zxlen ?_; refine Zv Zai ?_) | (refine ZrN 2 fun _ => ?_; refine Zv Zmi ?_; refine Zv Zf0 ?_; refine Zv Zld ?_; refine Zv Zxlen ?_; refine Zv Zxeql ?_) | (refine ZrN 3 fun _ => ?_; refine Zv Zla ?_; refine Zv Zmv ?_; refine Zv Zmi ?_; refine Zcl (Enters_fn rfl) (hri _ (hwk _ _)) ?_) | (refine ZrN 5 fun _ => ?_; refine Zv Zmv ?_; refine Zv Zav ?_) | (refine WP_cond_true rfl ?_) | (refine WP_cond_false rfl ?_) | (refine Zcd (fun hc => ?_) (fun hc => ?_) <;> (try (exfalso; omega))) | (with_reducible apply WP_skip) | (with_reducible apply WP_block) | (with_reducible apply WP_exit) | (with_reducible apply WP_ret)) | (refine Zhn ?_) | (with_reducible apply QBlock_normal) | (refine Zhx ?_) | (with_reducible apply QBlock_hit) | (refine Zqb ?_) | (with_reducible apply QLoop_exit) | (refine Zhr ?_) | (with_reducible apply QBlock_ret) | (with_reducible apply QLoop_ret))
      refine QBody_ret1 rfl rfl ⟨svH 55 1 rows.length vals s (X ++ L), (by repeat (first | exact Wk.refl _ | apply Wk.keep1 | apply Wk.drop | apply Wk.sv | apply Wk.svD | apply Wk.appD)), _, rfl, rows, [], vals, s, rfl, rfl, hs, hrd, rfl⟩
  | q :: rest, begin, hlen, hdrop, L, X, vb, rows, vals, s, hvb, hs, hrd, hb => by
    obtain ⟨Ab, cb, rfl, hbr⟩ := hvb
    have hvb : RdL X (.slice Ab begin.length cb) begin := ⟨Ab, cb, rfl, hbr⟩
    have hnb := hv.nb
    rw [List.length_cons] at hlen
    have hlt : begin.length < g.d.banks.length := by omega
    obtain ⟨bA, oA, hA1, hbA, hcA⟩ := hA.banks.row _ hlt
    have hq : g.d.banks[begin.length] = q := by
      have h1 : (g.d.banks.drop begin.length)[0]? = some q := by rw [hdrop]; rfl
      rw [List.getElem?_drop, Nat.add_zero, List.getElem?_eq_getElem hlt] at h1
      simpa using h1
    have hdrop2 : g.d.banks.drop (begin.length + 1) = rest := by rw [← List.drop_drop, hdrop]; rfl
    rw [hq] at hcA
    obtain ⟨⟨lo, hi⟩, yd⟩ := q
    have hq2 := hv.bk ⟨(lo, hi), yd⟩ (by rw [← hq]; exact List.getElem_mem hlt)
    dsimp only at hq2
    obtain ⟨nb, hnb9⟩ : ∃ nb, begin.length = nb := ⟨_, rfl⟩
    unfold bkL at hcA
    have c0 : w0.cell? ⟨bA, oA + begin.length * 4, none⟩ = some (.int .i64 lo) := RoAt hcA 0 _ rfl
    have c1 : w0.cell? ⟨bA, oA + begin.length * 4 + 1, none⟩ = some (.int .i64 hi) := RoAt hcA 1 _ rfl
    rw [List.map_cons, allR_cons_len] at hb
    dsimp only at hb
    rw [hnb9] at hvb hlt hlen hcA c0 c1 hdrop2 ⊢
    have hW := vals_length (lo, hi)
    obtain ⟨W, hWe⟩ : ∃ W, (Go.Proofs.YtbhgpnbfdjoglaaGreat.vals (lo, hi)).length = W := ⟨_, rfl⟩
    rw [hWe] at hb hW
    dsimp only at hW
    refine Tri.fgt ?_
    refine tri_of_WP Tryz.func83 rfl (n := _) rfl (by simp) ?_
    unfold drV
    repeat' (first | (refine GiP ?_; first | (refine Znh ?_) | (with_reducible refine Znl ?_)) | (refine GiW ?_; first | (refine Zsq fun K hK => ?_) | (refine ZrN 0 fun _ => ?_; refine Zal 4 fun b4 => ?_; refine Zv Zav ?_) | (refine ZrN 1 fun _ => ?_; refine Zv Zmv ?_; refine Zv Zxlen ?_; refine Zv Zai ?_) | (refine ZrN 2 fun _ => ?_; refine Zv Zmi ?_; refine Zv Zf0 ?_; refine Zv Zld ?_; refine Zv Zxlen ?_; refine Zv Zyeql ?_) | (refine ZrN 6 fun _ => ?_; refine Zv Zf0 ?_; refine Zv Zld ?_; refine Zv Zmi ?_; refine Zv Zia ?_; refine Zv Zf0 ?_; refine Zv Zf0 ?_; refine Zv Zld ?_; refine Zv Zai ?_) | (refine WP_cond_true rfl ?_) | (refine WP_cond_false rfl ?_) | (refine Zcd (fun hc => ?_) (fun hc => ?_) <;> (try (exfalso; omega))) | (with_reducible apply WP_skip) | (with_reducible apply WP_block) | (with_reducible apply WP_exit) | (with_reducible apply WP_ret)) | (refine Zhn ?_) | (with_reducible apply QBlock_normal) | (refine Zhx ?_) | (with_reducible apply QBlock_hit) | (refine Zqb ?_) | (with_reducible apply QLoop_exit) | (refine Zhr ?_) | (with_reducible apply QBlock_ret) | (with_reducible apply QLoop_ret))
    refine WP_sub (sub_in _) ?_
    refine WP_loop [3, 10, 34, 35, 36, 37, 38, 39, 40, 41, 42, 43, 44, 45, 46, 47, 48, 49, 50, 51, 52, 53, 54] (fun st : LsSt => [(10, .int .i64 st.x), (3, svV st.s st.rows.length)]) (fun st => svH 55 1 st.rows.length st.vals st.s (st.X ++ ((b4, Blk 26 (drL g)) :: L))) (fun st => st.c ≤ W ∧ st.x = lo + (st.c : Int) ∧ st.rows = rows ++ ((Go.Proofs.YtbhgpnbfdjoglaaGreat.vals (lo, hi)).take st.c).flatMap (fun v => fsF g.d set (begin ++ [v]) (rest.map (·.lv))) ∧ svOk st.s 1 st.rows.length st.vals ∧ RdV st.X st.vals st.rows ∧ ∃ X2, st.X = X2 ++ X) (fun st => W - st.c) ⟨0, lo, rows, X, vals, s⟩ (.cons rfl (.cons rfl .nil)) (Wk.refl _) ⟨Nat.zero_le _, by simp, by simp, hs, hrd, [], rfl⟩ ?_
    rintro ⟨c, x, rowsC, XC, valsC, sC⟩ j ⟨hc, hx, hrows, hsC, hrdC, X2, hX2⟩
    dsimp only at hc hx hrows hsC hrdC hX2 ⊢
    have hrl : rowsC.length ≤ rows.length + c * (allR (rest.map (·.lv))).length := by
      have h1 := fsF_flat g.d set begin (rest.map (·.lv)) ((Go.Proofs.YtbhgpnbfdjoglaaGreat.vals (lo, hi)).take c)
      rw [hrows, List.length_append]
      rw [List.length_take, hWe, Nat.min_eq_left hc] at h1
      omega
    by_cases hcw : c < W
    · have hm : (c + 1) * (allR (rest.map (·.lv))).length ≤ W * (allR (rest.map (·.lv))).length := Nat.mul_le_mul_right _ hcw
      rw [Nat.succ_mul] at hm
      have hvbC : RdL XC (.slice Ab nb cb) begin := by rw [hX2]; exact hvb.wk (.app X2 X)
      obtain ⟨hsrc, hAb⟩ : (∀ L', Wk L' (XC ++ ((b4, Blk 26 (drL g)) :: L)) → ∀ w, Inv N w0 L' w → ∀ j u, (intL begin)[j]? = some u → ∃ b o, Ab = some ⟨b, o, none⟩ ∧ w.cell? ⟨b, o + j, none⟩ = some u) ∧ (Ab = none → nb = 0) := by
        have h1 := fun L' (k : Wk L' (XC ++ ((b4, Blk 26 (drL g)) :: L))) => (hvbC.src (N := N) (w0 := w0) (k.trans (Wk.appR XC _))).1
        exact ⟨h1, by rw [← hnb9]; exact (hvbC.src (N := N) (w0 := w0) (Wk.refl _)).2⟩
      have hln : (intL begin).length = nb * (0 + 1) := by rw [intL_len, hnb9]; omega
      have hon := intL_ones begin
      have hrow : ∀ s9, svOk s9 (0 + 1) (nb + 1) (intL begin ++ [.int .i64 x]) → RdL (svH 3 1 (nb + 1) (intL begin ++ [.int .i64 x]) s9 XC) (svV s9 (nb + 1)) (begin ++ [x]) := by
        intro s9 h9
        have e1 : (begin ++ [x]).length = nb + 1 := by rw [List.length_append, List.length_singleton, hnb9]
        have := RdL.sv (E := 3) (row := begin ++ [x]) (L := XC) (s := s9) (by rw [e1, intL_snoc]; exact h9)
        rw [e1, intL_snoc] at this
        exact this
      have ih : ∀ (L1 : Hp) (s9 : Option (Nat × Nat)), svOk s9 (0 + 1) (nb + 1) (intL begin ++ [.int .i64 x]) → Tri Tryz.prog N w0 (svH 55 1 rowsC.length valsC sC (svH 3 1 (nb + 1) (intL begin ++ [.int .i64 x]) s9 XC ++ L1)) 83 [drV g, .int .i64 (set : Int), svV s9 (nb + 1), svV sC rowsC.length].toArray fun y L2 => ∃ v, y = .returned v ∧ ∃ (rows' : List (List Int)) (X2 : Hp) (vals' : List Value) (s' : Option (Nat × Nat)), v = svV s' rows'.length ∧ rows' = rowsC ++ fsF g.d set (begin ++ [x]) (rest.map (·.lv)) ∧ svOk s' 1 rows'.length vals' ∧ RdV (X2 ++ svH 3 1 (nb + 1) (intL begin ++ [.int .i64 x]) s9 XC) vals' rows' ∧ L2 = svH 55 1 rows'.length vals' s' ((X2 ++ svH 3 1 (nb + 1) (intL begin ++ [.int .i64 x]) s9 XC) ++ L1) := fun L1 s9 h9 =>
        from_a g hA hv set hset rest (begin ++ [x]) (by rw [List.length_append, List.length_singleton, hnb9]; omega) (by rw [List.length_append, List.length_singleton, hnb9]; exact hdrop2) L1 _ _ rowsC valsC sC (hrow s9 h9) hsC (hrdC.wk (Wk.svD (Wk.refl _))) (by omega)
      have hp1 : ∀ (b : Nat) (s9 : Option (Nat × Nat)), ((b, Blk 3 [.int .i64 x]) :: svH 3 1 (nb + 1) (intL begin ++ [.int .i64 x]) s9 (svH 55 1 rowsC.length valsC sC (XC ++ ((b4, Blk 26 (drL g)) :: L)))).Perm (svH 55 1 rowsC.length valsC sC (svH 3 1 (nb + 1) (intL begin ++ [.int .i64 x]) s9 XC ++ ((b, Blk 3 [.int .i64 x]) :: (b4, Blk 26 (drL g)) :: L))) := fun b s9 => pm_costs _
      have hp2 : ∀ (b : Nat) (s9 : Option (Nat × Nat)), (svH 3 1 (nb + 1) (intL begin ++ [.int .i64 x]) s9 ((b, Blk 3 [.int .i64 x]) :: svH 55 1 rowsC.length valsC sC (XC ++ ((b4, Blk 26 (drL g)) :: L)))).Perm (svH 55 1 rowsC.length valsC sC (svH 3 1 (nb + 1) (intL begin ++ [.int .i64 x]) s9 XC ++ ((b, Blk 3 [.int .i64 x]) :: (b4, Blk 26 (drL g)) :: L))) := fun b s9 => svH_in.symm.trans (pm_costs _)
      unfold drV at ih
      repeat' (first | (refine GiP ?_; first | (refine Znh ?_) | (with_reducible refine Znl ?_) | (refine Zatd 47 ?_; refine Zbs fun b47 => ?_) | (refine Zatd 47 ?_; refine Zal 47 fun b47 => ?_) | (refine Zatd 49 ?_; refine OPS_append0 rfl rfl rfl (by intro s9; repeat (first | exact Grow.here | apply Grow.there | apply Grow.sv | apply Grow.app)) svOk0 (hsrc _ (by repeat (first | exact Wk.refl _ | apply Wk.keep1 | apply Wk.drop | apply Wk.sv | apply Wk.svD | apply Wk.appD))) hAb hln hon (by simp only [maxLen]; omega) (by omega) (fun s49 hs49 => ?_)) | (refine Zatd 49 ?_; refine Zag (fun s49 hs49 => ?_)) | (refine Zatd 51 ?_; refine Zbs fun b51 => ?_) | (refine Zatd 51 ?_; refine Zal 51 fun b51 => ?_) | (refine Zatd 52 ?_; refine OPS_append0 rfl rfl rfl (by intro s9; repeat (first | exact Grow.here | apply Grow.there | apply Grow.sv | apply Grow.app)) svOk0 (hsrc _ (by repeat (first | exact Wk.refl _ | apply Wk.keep1 | apply Wk.drop | apply Wk.sv | apply Wk.svD | apply Wk.appD))) hAb hln hon (by simp only [maxLen]; omega) (by omega) (fun s52 hs52 => ?_)) | (refine Zatd 52 ?_; refine Zag (fun s52 hs52 => ?_)) | (refine Zatd 54 ?_; refine OPS_retKS (Enters_fn rfl) (Tri.perm (ih ((b51, Blk 3 [.int .i64 x]) :: (b4, Blk 26 (drL g)) :: L) s52 hs52) (hp1 _ _)) rfl rfl rfl (fun v54 L54 h54 => ?_); obtain ⟨rows2, X3, vals2, s2, rfl, hr2, hs2, hrd2, rfl⟩ := h54) | (refine Zatd 54 ?_; refine OPS_retKS (Enters_fn rfl) (Tri.perm (ih ((b51, Blk 3 [.int .i64 x]) :: (b4, Blk 26 (drL g)) :: L) s52 hs52) (hp2 _ _)) rfl rfl rfl (fun v54 L54 h54 => ?_); obtain ⟨rows2, X3, vals2, s2, rfl, hr2, hs2, hrd2, rfl⟩ := h54) | (refine Zatd 3 ?_; refine Zv Zav ?_)) | (refine GiW ?_; first | (refine Zsq fun K hK => ?_) | (refine ZrN 7 fun _ => ?_; refine Zv Zmi ?_; refine Zv Zf0 ?_; refine Zv Zld ?_; refine Zv Zmi ?_; refine Zv Zia ?_; refine Zv Zf0 ?_; refine Zv Zfa ?_; refine Zv Zld ?_; refine Zv Zyleq ?_) | (refine ZrN 8 fun _ => ?_; refine Zv Zmi ?_; refine Zv Zxadd ?_; refine Zv Zai ?_) | (refine WP_cond_true rfl ?_) | (refine WP_cond_false rfl ?_) | (refine Zcd (fun hc => ?_) (fun hc => ?_) <;> (try (exfalso; omega))) | (with_reducible apply WP_skip) | (with_reducible apply WP_block) | (with_reducible apply WP_exit) | (with_reducible apply WP_ret) | (refine WP_drawnS (id := 9) [0, 1, 3, 5, 8] [0, 1, 3, 5, 8] [] [45, 46, 48, 50, 53] (k := 4) (k2 := 2) (by repeat (first | apply Sub.sv | apply Sub.keep | apply Sub.appK | exact Sub.refl _)) (by kernel_rfl) prog_mixed (by kernel_rfl) (by kernel_rfl) rfl ?_; refine Zew rfl Zla ?_; refine Zew rfl Zmi ?_; refine Zew rfl Zmv ?_; refine Zew rfl Zmi ?_; refine Zew rfl Zmv ?_)) | (with_reducible apply EWalk_nil) | (refine GiC ?_; first | (refine ZgC [0, 1, 3, 5, 8] ?_; refine ZC2 _ 2 [0, 1, 3, 5, 8, 2] 6 [0, 1, 3, 5, 8, 6] ?_ ?_) | (refine ZgC [0, 1, 3, 5, 8, 2] ?_; refine ZC2 _ 4 [0, 1, 3, 5, 8, 2, 4] 6 [0, 1, 3, 5, 8, 2, 6] ?_ ?_) | (refine ZgC [0, 1, 3, 5, 8, 2, 4] ?_; refine ZC1 _ 6 [0, 1, 3, 5, 8, 2, 4, 6] ?_) | (refine ZgC [0, 1, 3, 5, 8, 2, 4, 6] ?_; refine ZC1 _ 7 [0, 1, 3, 5, 8, 2, 4, 6, 7] ?_) | (refine ZgC [0, 1, 3, 5, 8, 2, 4, 6, 7] ?_; refine ZCl _ ?_) | (refine ZgC [0, 1, 3, 5, 8, 2, 6] ?_; refine ZC1 _ 4 [0, 1, 3, 5, 8, 2, 4, 6] ?_) | (refine ZgC [0, 1, 3, 5, 8, 6] ?_; refine ZC1 _ 2 [0, 1, 3, 5, 8, 2, 6] ?_)) | (refine GiO ?_; first | (refine ZgO [0, 1, 3, 5, 8, 2, 4, 6, 7] ?_; refine ZO1 _ 9 [0, 1, 3, 5, 8, 2, 4, 6, 7, 9] ?_) | (refine ZgO [0, 1, 3, 5, 8, 2, 4, 6, 7, 9] ?_; refine ZO1 _ 10 [0, 1, 3, 5, 8, 2, 4, 6, 7, 9, 10] ?_) | (refine ZgO [0, 1, 3, 5, 8, 2, 4, 6, 7, 9, 10] ?_; refine ZOd _ ?_; (try with_reducible apply noP_normal); (try with_reducible exact key.out))) | (refine Zhn ?_) | (with_reducible apply QBlock_normal) | (refine Zhx ?_) | (with_reducible apply QBlock_hit) | (refine Zqb ?_) | (with_reducible apply QLoop_exit) | (refine Zhr ?_) | (with_reducible apply QBlock_ret) | (with_reducible apply QLoop_ret) | (refine AWalk_0 ?_) | (with_reducible apply QAny_normal) | (with_reducible apply QC_normal))
      all_goals exact QLoop_normal ⟨c + 1, x + 1, rows2, X3 ++ svH 3 1 (nb + 1) (intL begin ++ [.int .i64 x]) s52 XC, vals2, s2⟩ (.cons rfl (.cons rfl .nil)) (by repeat (first | exact Off.frame rfl | exact Off.refl _ _ | refine Off.frameT rfl rfl ?_ | refine Off.upd rfl ?_ | refine Off.updO rfl ?_)) (Wk.sv (Wk.appK _ (.drop (.refl _)))) ⟨by dsimp only; omega, by dsimp only; omega, by dsimp only; rw [hr2, hrows, List.append_assoc, List.take_succ_eq_append_getElem (by omega), List.flatMap_append, List.flatMap_singleton, vals_get _ _ (by omega), hx], hs2, hrd2, X3 ++ svH 3 1 (nb + 1) (intL begin ++ [.int .i64 x]) s52 X2, by dsimp only; rw [hX2, svH_app, List.append_assoc]⟩ (by dsimp only; omega)
    · have hcW : c = W := by omega
      subst hcW
      repeat' (first | (refine GiP ?_; first | (refine Znh ?_) | (with_reducible refine Znl ?_)) | (refine GiW ?_; first | (refine Zsq fun K hK => ?_) | (refine ZrN 7 fun _ => ?_; refine Zv Zmi ?_; refine Zv Zf0 ?_; refine Zv Zld ?_; refine Zv Zmi ?_; refine Zv Zia ?_; refine Zv Zf0 ?_; refine Zv Zfa ?_; refine Zv Zld ?_; refine Zv Zyleq ?_) | (refine ZrN 10 fun _ => ?_; refine Zv Zmv ?_; refine Zv Zav ?_) | (refine WP_cond_true rfl ?_) | (refine WP_cond_false rfl ?_) | (refine Zcd (fun hc => ?_) (fun hc => ?_) <;> (try (exfalso; omega))) | (with_reducible apply WP_skip) | (with_reducible apply WP_block) | (with_reducible apply WP_exit) | (with_reducible apply WP_ret)) | (refine Zhn ?_) | (with_reducible apply QBlock_normal) | (refine Zhx ?_) | (with_reducible apply QBlock_hit) | (refine Zqb ?_) | (with_reducible apply QLoop_exit) | (refine Zhr ?_) | (with_reducible apply QBlock_ret) | (with_reducible apply QLoop_ret))
      refine QBody_ret1 rfl rfl ⟨svH 55 1 rowsC.length valsC sC (XC ++ L), Wk.sv (Wk.appK _ (.drop (.refl _))), _, rfl, rowsC, X2, valsC, sC, rfl, ?_, hsC, by rw [← hX2]; exact hrdC, by rw [← hX2]⟩
      show _ = rows ++ fsF g.d set begin ((lo, hi) :: rest.map (·.lv))
      rw [hrows, fsF_cons, List.take_of_length_le (by omega)]
end
end Go.Proofs.YtbhgpnbfdjoglaaGreat
end

section
namespace Go.Proofs.YtbhgpnbfdjoglaaGreat
open Go.RowKit
theorem jn_bd {l : List Sp} (h : l ≠ []) (hb : ∀ x ∈ l, 0 ≤ x.1 ∧ x.1 ≤ 100 ∧ 0 ≤ x.2 ∧ x.2 ≤ 100) : 0 ≤ (jn l).1 ∧ (jn l).1 ≤ 100 ∧ 0 ≤ (jn l).2 ∧ (jn l).2 ≤ 100 := by
  obtain ⟨⟨x, hx, e1⟩, ⟨y, hy, e2⟩, _⟩ := jn_hull l h
  have := hb x hx
  have := hb y hy
  omega
theorem watS_bd {d : Dr} (v : VD d) {lv : List Int} (hl : lv.length = d.banks.length) (ws : List Sp) {a : Nat} (ha : a < d.banks.length) : 0 ≤ (watS d (nxt ws lv) a).1 ∧ (watS d (nxt ws lv) a).1 ≤ 100 ∧ 0 ≤ (watS d (nxt ws lv) a).2 ∧ (watS d (nxt ws lv) a).2 ≤ 100 := by
  have hnb := v.nb
  have hd : ∀ x y, nxt ws lv x = some y → y < d.banks.length ∧ lvl lv y < lvl lv x := fun x y h => by rw [← hl]; exact nxt_dec h
  have h1 := watN_bd hd (y := loY d) (fun z _ => by have := yd_bd v z; omega) ha
  have h2 := watN_bd hd (y := hiY d) (fun z _ => by have := yd_bd v z; omega) ha
  have e : watS d (nxt ws lv) a = (watN d.banks.length (nxt ws lv) (loY d) a, watN d.banks.length (nxt ws lv) (hiY d) a) := rfl
  rw [e]
  dsimp only
  have h3 : (20 : Int) * (d.banks.length : Int) ≤ 100 := by omega
  omega
theorem flowS_bd {d : Dr} (v : VD d) {lv : List Int} (hl : lv.length = d.banks.length) (ws : List Sp) {a b : Nat} (ha : a < d.banks.length) : 0 ≤ (flowS d (nxt ws lv) a b).1 ∧ (flowS d (nxt ws lv) a b).1 ≤ 100 ∧ 0 ≤ (flowS d (nxt ws lv) a b).2 ∧ (flowS d (nxt ws lv) a b).2 ≤ 100 := by
  unfold flowS
  split
  · exact watS_bd v hl ws ha
  · dsimp only; omega
theorem seen_every {d : Dr} (h : d.seen.length < 8) : pickL (alD d) d.seen 0 = d.seen := pickL_every _ _ fun j hj => by rw [Nat.zero_add]; exact evL_bit _ h j hj
theorem fsF_all {d : Dr} (h : d.seen.length < 8) : fsF d (alD d) [] (d.banks.map (·.lv)) = toldD d := by
  unfold fsF lsF toldD rowsD onlyD
  rw [seen_every h]
  simp
def fsO (d : Dr) (set : Nat) : List (List Int) := fsF d set [] (d.banks.map (·.lv))
theorem fsO_told {d : Dr} {set : Nat} : fsO d set = toldD (onlyD d set) := by
  unfold fsO fsF lsF toldD rowsD onlyD
  simp
structure WtSt where
  k : Nat
  s : Option (Nat × Nat)
theorem spl_snoc {l : List (List Int)} {f : List Int → Sp} {k : Nat} (hk : k < l.length) : (((l.take (k + 1)).map f).map spL).flatten = (((l.take k).map f).map spL).flatten ++ spL (f l[k]) := by
  rw [List.take_succ_eq_append_getElem hk, List.map_append, List.map_append, List.flatten_append]
  simp
attribute [local irreducible] AnyO AnyB QAny QB EWalk AWalk Ev WP OPS QThen QBlock QScope QLoop QBody Val New Turn Tri Enters PostA Blk Ro
attribute [local irreducible] AnyC QC
section
variable (N : Nat) (w0 : World)
theorem from_all (L : Hp) (g : Fg) (hA : DrAt N w0 g) (hv : VD g.d) (set : Nat) (hset : set ≤ 1000000) :
    Tri Tryz.prog N w0 L 83 [drV g, .int .i64 (set : Int), .slice none 0 0, .slice none 0 0].toArray fun x L2 => ∃ v, x = .returned v ∧ ∃ X, RdLL X v (fsO g.d set) ∧ L2 = X ++ L := by
  have hcnt := rowsD_count hv
  have h := from_a N w0 g hA hv set hset g.d.banks [] (by simp) rfl L [] (.slice none 0 0) [] [] none (RdL.nilS [] 0) (svOk_nil _) (fun i row hi => by simp at hi) (by unfold rowsD at hcnt; simp; omega)
  refine Tri.mono h ?_
  rintro x L2 ⟨v, rfl, rows, X2, vals, s, rfl, hrows, hs, hrd, rfl⟩
  have hr : rows = fsO g.d set := by rw [hrows]; rfl
  rw [List.append_nil] at hrd ⊢
  have hfin := (RdLL.sv (E := 55) hs hrd)
  rw [hr] at hfin ⊢
  exact ⟨_, rfl, _, hfin, by rw [svH_app]⟩
theorem levels_ref (L : Hp) (g : Fg) (hA : DrAt N w0 g) (hv : VD g.d) :
    Tri Tryz.prog N w0 L 81 [drV g].toArray fun x L2 => ∃ v, x = .returned v ∧ ∃ X, RdLL X v (toldD g.d) ∧ L2 = X ++ L := by
  have hns := hv.ns
  have hp : 2 ^ g.d.seen.length ≤ 2 ^ 7 := Nat.pow_le_pow_right (by omega) (by omega)
  have hal := fun L => all_refR N w0 L g (by omega)
  have hfr := fun L => from_all N w0 L g hA hv (alD g.d) (by unfold alD; omega)
  have he : fsO g.d (alD g.d) = toldD g.d := fsF_all (by omega)
  rw [he] at hfr
  refine Tri.fgt ?_
  refine tri_of_WP Tryz.func81 rfl (n := _) rfl (by simp) ?_
  unfold drV drL at hal hfr ⊢
  repeat' (first | (refine GiP ?_; first | (refine Znh ?_) | (with_reducible refine Znl ?_) | (refine Zatd 6 ?_; refine OPS_retKS (Enters_fn rfl) (hfr _) rfl rfl rfl (fun v6 L6 h6 => ?_); obtain ⟨X6, hr6, rfl⟩ := h6; have hr7 := hr6; obtain ⟨A6, c6, rfl, -⟩ := hr7) | (refine Zatd 2 ?_; refine Zv Zav ?_)) | (refine GiW ?_; first | (refine Zsq fun K hK => ?_) | (refine ZrN 0 fun _ => ?_; refine Zal 1 fun b1 => ?_; refine Zv Zav ?_) | (with_reducible apply WP_ret) | (refine WP_drawnS (id := 1) [] [0, 1, 2] [] [] (k := 0) (k2 := 2) (by repeat (first | apply Sub.sv | apply Sub.keep | apply Sub.appK | exact Sub.refl _)) (by kernel_rfl) prog_mixed (by kernel_rfl) (by kernel_rfl) rfl ?_; refine Zew rfl Zla ?_; refine Zew rfl Zla ?_; refine Zec rfl (Enters_fn rfl) (fun X => hal _) ?_)) | (with_reducible apply EWalk_nil) | (refine ZgC [0, 1, 2] ?_; refine ZCl _ ?_) | (refine GiO ?_; first | (refine ZgO [0, 1, 2] ?_; refine ZO1 _ 3 [0, 1, 2, 3] ?_) | (refine ZgO [0, 1, 2, 3] ?_; refine ZO1 _ 4 [0, 1, 2, 3, 4] ?_) | (refine ZgO [0, 1, 2, 3, 4] ?_; refine ZOd _ ?_; (try with_reducible apply noP_normal); (try with_reducible exact key.out))) | (refine Zhn ?_) | (refine Zhr ?_) | (refine AWalk_0 ?_) | (with_reducible apply QAny_normal) | (with_reducible apply QC_normal))
  all_goals exact QBody_ret1 rfl (rfl : _ = Value.slice _ _ _) ⟨X6 ++ L, Wk.appK X6 (.drop (.refl _)), _, rfl, X6, hr6, rfl⟩
theorem check_ref (L : Hp) (g : Fg) (hA : DrAt N w0 g) (hf : farB g.d = false) (ok : Bool) :
    Ret Tryz.prog N w0 L 80 [drV g, .bool ok].toArray (.int .i64 (if vB g.d then if ok then 0 else 2 else 1)) := by
  have hdr := fun L => rDrain_ret N w0 L g hA hf
  refine Ret.fgt ?_
  refine tri_of_WP Tryz.func80 rfl (n := _) rfl (by simp) ?_
  unfold drV drL at hdr ⊢
  obtain ⟨b, hb⟩ : ∃ b, vB g.d = b := ⟨_, rfl⟩
  rw [hb] at hdr ⊢
  cases b <;> cases ok
  all_goals
    repeat' (first | (refine GiP ?_; first | (refine Znh ?_) | (with_reducible refine Znl ?_)) | (refine GiW ?_; first | (refine Zsq fun K hK => ?_) | (refine ZrN 0 fun _ => ?_; refine Zal 2 fun b2 => ?_; refine Zv Zai ?_) | (refine ZrN 1 fun _ => ?_; refine Zv Zla ?_; refine Zcl (Enters_fn rfl) (hdr _) ?_; refine Zv Zxnot ?_) | (refine ZrN 2 fun _ => ?_; refine Zv Zai ?_) | (refine ZrN 3 fun _ => ?_; refine Zv Zmb ?_; refine Zv Zxnot ?_) | (refine ZrN 4 fun _ => ?_; refine Zv Zai ?_) | (refine ZrN 5 fun _ => ?_; refine Zv Zai ?_) | (refine WP_cond_true rfl ?_) | (refine WP_cond_false rfl ?_) | (refine Zcd (fun hc => ?_) (fun hc => ?_) <;> (try (exfalso; omega))) | (with_reducible apply WP_skip) | (with_reducible apply WP_ret)) | (refine Zhn ?_) | (refine Zhr ?_))
    all_goals exact QBody_ret1 rfl (rfl : _ = Value.int _ _) ⟨rfl, (by repeat (first | exact Wk.refl _ | apply Wk.keep1 | apply Wk.drop | apply Wk.sv | apply Wk.svD | apply Wk.appD))⟩
/-- What is known, or the error. -/
theorem known_ref (L : Hp) (g : Fg) (hA : DrAt N w0 g) (hf : farB g.d = false) (ok : Bool) :
    Tri Tryz.prog N w0 L 34 [drV g, .bool ok].toArray fun x L2 => ∃ v, x = .returned v ∧ ∃ A n c X, v = .tuple [.slice A n c, .int .i64 (errD g.d ok)].toArray ∧ L2 = X ++ L ∧ (errD g.d ok = 0 → RdLL X (.slice A n c) (toldD g.d)) := by
  have hck := fun L => check_ref N w0 L g hA hf ok
  have he : errD g.d ok = if vB g.d then if ok then if someB g.d then 0 else 10 else 2 else 1 := rfl
  refine Tri.fgt ?_
  refine tri_of_WP Tryz.func34 rfl (n := _) rfl (by simp) ?_
  cases hb : vB g.d with
  | false =>
    rw [hb] at hck he
    simp only [Bool.false_eq_true, if_false] at hck he
    rw [he]
    unfold drV drL at hck ⊢
    repeat' (first | (refine GiP ?_; first | (refine Znh ?_) | (with_reducible refine Znl ?_)) | (refine GiW ?_; first | (refine Zsq fun K hK => ?_) | (refine ZrN 0 fun _ => ?_; refine Zal 2 fun b2 => ?_; refine Zv Zav ?_; refine Zv Zai ?_) | (refine ZrN 1 fun _ => ?_; refine Zv Zla ?_; refine Zv Zmb ?_; refine Zcl (Enters_fn rfl) (hck _) ?_; refine Zv Zai ?_) | (refine ZrN 2 fun _ => ?_; refine Zv Zmi ?_; refine Zv Zxneq ?_) | (refine ZrN 3 fun _ => ?_; refine Zv Zmi ?_; refine Zv Zav ?_; refine Zv Zai ?_) | (refine WP_cond_true rfl ?_) | (refine WP_cond_false rfl ?_) | (refine Zcd (fun hc => ?_) (fun hc => ?_) <;> (try (exfalso; omega))) | (with_reducible apply WP_skip) | (with_reducible apply WP_ret)) | (refine Zhn ?_) | (refine Zhr ?_))
    exact QBody_res rfl (.tmp (rfl : _ = Value.slice _ _ _) (.tmp (rfl : _ = Value.int _ _) .nil)) rfl ⟨L, (by repeat (first | exact Wk.refl _ | apply Wk.keep1 | apply Wk.drop | apply Wk.sv | apply Wk.svD | apply Wk.appD)), _, rfl, none, 0, 0, [], rfl, rfl, fun h => by omega⟩
  | true =>
    rw [hb] at hck he
    have hv := VD_of hb
    simp only [if_true] at hck he
    cases ok with
    | false =>
      simp only [Bool.false_eq_true, if_false] at hck he
      rw [he]
      unfold drV drL at hck ⊢
      repeat' (first | (refine GiP ?_; first | (refine Znh ?_) | (with_reducible refine Znl ?_)) | (refine GiW ?_; first | (refine Zsq fun K hK => ?_) | (refine ZrN 0 fun _ => ?_; refine Zal 2 fun b2 => ?_; refine Zv Zav ?_; refine Zv Zai ?_) | (refine ZrN 1 fun _ => ?_; refine Zv Zla ?_; refine Zv Zmb ?_; refine Zcl (Enters_fn rfl) (hck _) ?_; refine Zv Zai ?_) | (refine ZrN 2 fun _ => ?_; refine Zv Zmi ?_; refine Zv Zxneq ?_) | (refine ZrN 3 fun _ => ?_; refine Zv Zmi ?_; refine Zv Zav ?_; refine Zv Zai ?_) | (refine WP_cond_true rfl ?_) | (refine WP_cond_false rfl ?_) | (refine Zcd (fun hc => ?_) (fun hc => ?_) <;> (try (exfalso; omega))) | (with_reducible apply WP_skip) | (with_reducible apply WP_ret)) | (refine Zhn ?_) | (refine Zhr ?_))
      exact QBody_res rfl (.tmp (rfl : _ = Value.slice _ _ _) (.tmp (rfl : _ = Value.int _ _) .nil)) rfl ⟨L, (by repeat (first | exact Wk.refl _ | apply Wk.keep1 | apply Wk.drop | apply Wk.sv | apply Wk.svD | apply Wk.appD)), _, rfl, none, 0, 0, [], rfl, rfl, fun h => by omega⟩
    | true =>
      simp only [if_true] at hck he
      have hlv := fun L => levels_ref N w0 L g hA hv
      have hcnt := toldD_count hv
      obtain ⟨T, hT⟩ : ∃ T, toldD g.d = T := ⟨_, rfl⟩
      rw [hT] at hlv hcnt
      cases h0 : someB g.d with
      | false =>
        have hT0 : T = [] := by rw [← hT]; exact someB_no.1 h0
        rw [h0] at he
        simp only [Bool.false_eq_true, if_false] at he
        rw [he]
        subst hT0
        unfold drV drL at hck hlv ⊢
        repeat' (first | (refine GiP ?_; first | (refine Znh ?_) | (with_reducible refine Znl ?_)) | (refine GiW ?_; first | (refine Zsq fun K hK => ?_) | (refine ZrN 0 fun _ => ?_; refine Zal 2 fun b2 => ?_; refine Zv Zav ?_; refine Zv Zai ?_) | (refine ZrN 1 fun _ => ?_; refine Zv Zla ?_; refine Zv Zmb ?_; refine Zcl (Enters_fn rfl) (hck _) ?_; refine Zv Zai ?_) | (refine ZrN 2 fun _ => ?_; refine Zv Zmi ?_; refine Zv Zyneq ?_) | (refine ZrN 4 fun _ => ?_; refine Zv Zla ?_; refine OPS_retKS (Enters_fn rfl) (hlv _) rfl rfl rfl (fun v6 L6 h6 => ?_); obtain ⟨X6, hr6, rfl⟩ := h6; have hr7 := hr6; obtain ⟨A6, c6, rfl, -⟩ := hr7; refine Zv Zav ?_) | (refine ZrN 5 fun _ => ?_; refine Zv Zmv ?_; refine Zv Zxlen ?_; refine Zv Zyeql ?_) | (refine ZrN 6 fun _ => ?_; refine Zv Zav ?_; refine Zv Zai ?_) | (refine WP_cond_true rfl ?_) | (refine WP_cond_false rfl ?_) | (refine Zcd (fun hc => ?_) (fun hc => ?_) <;> (try (exfalso; omega))) | (with_reducible apply WP_skip) | (with_reducible apply WP_ret)) | (refine Zhn ?_) | (refine Zhr ?_))
        exact QBody_res rfl (.tmp (rfl : _ = Value.slice _ _ _) (.tmp (rfl : _ = Value.int _ _) .nil)) rfl ⟨X6 ++ L, Wk.appK X6 (.drop (.refl _)), _, rfl, none, 0, 0, X6, rfl, rfl, fun h => by omega⟩
      | true =>
        have hT0 : 0 < T.length := by rw [← hT]; exact List.length_pos_iff.2 (someB_told.1 h0)
        rw [h0] at he
        simp only [if_true] at he
        rw [he, hT]
        unfold drV drL at hck hlv ⊢
        repeat' (first | (refine GiP ?_; first | (refine Znh ?_) | (with_reducible refine Znl ?_)) | (refine GiW ?_; first | (refine Zsq fun K hK => ?_) | (refine ZrN 0 fun _ => ?_; refine Zal 2 fun b2 => ?_; refine Zv Zav ?_; refine Zv Zai ?_) | (refine ZrN 1 fun _ => ?_; refine Zv Zla ?_; refine Zv Zmb ?_; refine Zcl (Enters_fn rfl) (hck _) ?_; refine Zv Zai ?_) | (refine ZrN 2 fun _ => ?_; refine Zv Zmi ?_; refine Zv Zyneq ?_) | (refine ZrN 4 fun _ => ?_; refine Zv Zla ?_; refine OPS_retKS (Enters_fn rfl) (hlv _) rfl rfl rfl (fun v6 L6 h6 => ?_); obtain ⟨X6, hr6, rfl⟩ := h6; have hr7 := hr6; obtain ⟨A6, c6, rfl, -⟩ := hr7; refine Zv Zav ?_) | (refine ZrN 5 fun _ => ?_; refine Zv Zmv ?_; refine Zv Zxlen ?_; refine Zv Zyeql ?_) | (refine ZrN 7 fun _ => ?_; refine Zv Zmv ?_; refine Zv Zav ?_; refine Zv Zai ?_) | (refine WP_cond_true rfl ?_) | (refine WP_cond_false rfl ?_) | (refine Zcd (fun hc => ?_) (fun hc => ?_) <;> (try (exfalso; omega))) | (with_reducible apply WP_skip) | (with_reducible apply WP_ret)) | (refine Zhn ?_) | (refine Zhr ?_))
        exact QBody_res rfl (.tmp (rfl : _ = Value.slice _ _ _) (.tmp (rfl : _ = Value.int _ _) .nil)) rfl ⟨X6 ++ L, Wk.appK X6 (.drop (.refl _)), _, rfl, A6, T.length, c6, X6, rfl, rfl, fun _ => hr6⟩
/-- Each row that is known, read. -/
theorem rows_rd {X H : Hp} {u : Value} {rows : List (List Int)} (h : RdLL X u rows) (h0 : 0 < rows.length) (hk : Wk H X) : ∃ b c, u = .slice (some ⟨b, 0, none⟩) rows.length c ∧ ∀ i (hi : i < rows.length), ∃ A c', ∀ L', Wk L' H → Rd N w0 L' b (0 + i) (.slice A rows[i].length c') ∧ RdI N w0 L' A rows[i] := by
  obtain ⟨b, c, rfl, h1⟩ := h.opn h0
  refine ⟨b, c, rfl, fun i hi => ?_⟩
  obtain ⟨u, h2, h3⟩ := h1 i rows[i] (List.getElem?_eq_getElem hi)
  have h4 := h3
  obtain ⟨A, c', rfl, _⟩ := h3
  exact ⟨A, c', fun L' hL => ⟨fun w hI => h2 N w0 w (hI.wk (hL.trans hk)), h4.rdI (hL.trans hk)⟩⟩
end
end Go.Proofs.YtbhgpnbfdjoglaaGreat
end
