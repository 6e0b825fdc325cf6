/- The document's answer for heaps: all truths. · The document's answer for heaps: spans of what truths have. · The document's answer for heaps: all truths, or why there are none. · The document's answer for heaps: how wet, and how much rain. · The document's answer for heaps: how much rain, and whether a heap is dry. -/
import Derived.Test.YtlpahkmfjpjheaaN1
section
namespace Go.Proofs.Ytlpahkmfjpjheaa
open Go.RowKit
theorem allR_le (c : Nat) : ∀ l : List Sp, (∀ s ∈ l, (vals s).length ≤ c) → (allR l).length ≤ c ^ l.length
  | [], _ => by simp [allR]
  | s :: l, h => by
    rw [allR_cons_len, List.length_cons, Nat.pow_succ, Nat.mul_comm]
    exact Nat.mul_le_mul (allR_le c l fun x hx => h x (.tail _ hx)) (h s (.head _))
theorem allR_pos : ∀ l : List Sp, (∀ s ∈ l, s.1 ≤ s.2) → 0 < (allR l).length
  | [], _ => by simp [allR]
  | s :: l, h => by
    rw [allR_cons_len, vals_length]
    have := h s (.head _)
    exact Nat.mul_pos (by omega) (allR_pos l fun x hx => h x (.tail _ hx))
section
variable {h : Hv} (hv : VH h)
include hv
theorem firsts_cnt : 0 < (allR (firstsL h)).length ∧ (allR (firstsL h)).length ≤ 216 := by
  have hn := hv.nh
  have h1 : ∀ s ∈ firstsL h, s.1 ≤ s.2 ∧ s.2 - s.1 ≤ 5 := by
    intro s hs
    obtain ⟨t, ht, rfl⟩ := List.mem_map.1 hs
    have := hv.tf t ht
    dsimp only
    omega
  refine ⟨allR_pos _ fun s hs => (h1 s hs).1, Nat.le_trans (allR_le 6 _ fun s hs => ?_) (Nat.le_trans (Nat.pow_le_pow_right (by omega) (show (firstsL h).length ≤ 3 by rw [firstsL_len]; exact hn.2)) (by decide))⟩
  rw [vals_length]
  have := h1 s hs
  omega
theorem rains_cnt : 0 < (allR h.rains).length ∧ (allR h.rains).length ≤ 4096 := by
  have hn := hv.nr
  refine ⟨allR_pos _ fun s hs => (hv.rn s hs).2.1, Nat.le_trans (allR_le 4 _ fun s hs => ?_) (Nat.le_trans (Nat.pow_le_pow_right (by omega) hn.2) (by decide))⟩
  rw [vals_length]
  have := hv.rn s hs
  omega
omit hv in
theorem allT_len : (allT h).length = (allR (firstsL h)).length * (allR h.rains).length := flatMap_len _ _ (fun a => by simp) _
omit hv in
theorem allT_get {i k : Nat} (hi : i < (allR (firstsL h)).length) (hk : k < (allR h.rains).length) : (allT h)[i * (allR h.rains).length + k]? = some ((allR (firstsL h))[i], (allR h.rains)[k]) := by
  have e : allT h = ((allR (firstsL h)).map fun a => (allR h.rains).map fun b => (a, b)).flatten := by unfold allT; rw [List.flatMap_def]
  rw [e]
  have key : ∀ (l : List (List Int)) (i : Nat) (hi : i < l.length), ((l.map fun a => (allR h.rains).map fun b => (a, b)).flatten)[i * (allR h.rains).length + k]? = some (l[i], (allR h.rains)[k]) := by
    intro l
    induction l with
    | nil => intro i hi; simp at hi
    | cons a l ih =>
      intro i hi
      rw [List.map_cons, List.flatten_cons]
      cases i with
      | zero =>
        rw [Nat.zero_mul, Nat.zero_add, List.getElem?_append_left (by simpa using hk), List.getElem?_map, List.getElem?_eq_getElem hk]; rfl
      | succ i =>
        rw [List.getElem?_append_right (by rw [List.length_map, Nat.succ_mul]; omega), List.length_map, Nat.succ_mul, show i * (allR h.rains).length + (allR h.rains).length + k - (allR h.rains).length = i * (allR h.rains).length + k by omega]
        exact ih i (by simpa using hi)
  exact key _ i hi
end
/-- A list of truths, read. -/
def RdT (X : Hp) (v : Value) (l : List Tru) : Prop := ∃ A c, v = .slice A l.length c ∧ ∀ (j : Nat) (t : Tru), l[j]? = some t → ∃ b u q, A = some ⟨b, 0, none⟩ ∧ RdX X b (0 + j * 2) u ∧ RdX X b (0 + j * 2 + 1) q ∧ RdL X u t.1 ∧ RdL X q t.2
theorem RdT.wk {X L : Hp} {v : Value} {l : List Tru} (h : RdT X v l) (k : Wk L X) : RdT L v l := by
  obtain ⟨A, c, rfl, h⟩ := h
  exact ⟨A, c, rfl, fun j t hj => let ⟨b, u, q, h1, h2, h3, h4, h5⟩ := h j t hj; ⟨b, u, q, h1, h2.wk k, h3.wk k, h4.wk k, h5.wk k⟩⟩
/-- Truths, as the values of a row read. -/
def RdU (X : Hp) (vals : List Value) (l : List Tru) : Prop := ∀ (j : Nat) (t : Tru), l[j]? = some t → ∃ u q, vals[j * 2]? = some u ∧ vals[j * 2 + 1]? = some q ∧ RdL X u t.1 ∧ RdL X q t.2
theorem RdU.snoc {X : Hp} {vals : List Value} {l : List Tru} {u q : Value} {t : Tru} (h : RdU X vals l) (hl : vals.length = l.length * 2) (hu : RdL X u t.1) (hq : RdL X q t.2) : RdU X (vals ++ [u, q]) (l ++ [t]) := by
  intro i r hi
  by_cases hil : i < l.length
  · rw [List.getElem?_append_left hil] at hi
    obtain ⟨u', q', h1, h2, h3, h4⟩ := h i r hi
    exact ⟨u', q', by rw [List.getElem?_append_left (by omega)]; exact h1, by rw [List.getElem?_append_left (by omega)]; exact h2, h3, h4⟩
  · rw [List.getElem?_append_right (by omega)] at hi
    have hii : i = l.length := by
      have := (List.getElem?_eq_some_iff.1 hi).1
      simp at this; omega
    subst hii
    simp only [Nat.sub_self, List.getElem?_cons_zero, Option.some.injEq] at hi
    subst hi
    exact ⟨u, q, by rw [List.getElem?_append_right (by omega), hl]; simp, by rw [List.getElem?_append_right (by omega), hl, Nat.add_sub_cancel_left]; rfl, hu, hq⟩
theorem RdT.sv {E : TypeId} {s : Option (Nat × Nat)} {vals : List Value} {l : List Tru} {X : Hp} (hs : svOk s 2 l.length vals) (h : RdU X vals l) : RdT (svH E 2 l.length vals s X) (svV s l.length) l := by
  obtain ⟨A, c, h1, h2⟩ := sv_slice (E := E) hs
  refine ⟨A, c, h1, fun i t hi => ?_⟩
  obtain ⟨u, q, hu, hq, h3, h4⟩ := h i t hi
  cases s with
  | none =>
    have := hs.2 rfl
    rw [List.eq_nil_of_length_eq_zero this] at hi; simp at hi
  | some p =>
    obtain ⟨b, cap⟩ := p
    simp only [svV, Value.slice.injEq] at h1
    have hc : ∀ (j : Nat) (v : Value), vals[j]? = some v → RdX (svH E 2 l.length vals (some (b, cap)) X) b (0 + j) v := by
      intro j v hj N w0 w hI
      obtain ⟨b', hb, _, hc⟩ := h2 hI j _ hj
      rw [← h1.1] at hb
      simp only [Option.some.injEq, Addr.mk.injEq, and_true] at hb
      rw [hb, Nat.zero_add]; exact hc
    exact ⟨b, u, q, h1.1.symm, hc _ _ hu, hc _ _ hq, h3.wk (.drop (.refl _)), h4.wk (.drop (.refl _))⟩
theorem RdLL.opn {X : Hp} {v : Value} {rows : List (List Int)} (h : RdLL X v rows) (hne : 0 < rows.length) : ∃ b c, v = .slice (some ⟨b, 0, none⟩) rows.length c ∧ ∀ (i : Nat) (row : List Int), rows[i]? = some row → ∃ u, RdX X b (0 + i) u ∧ RdL X u row := by
  obtain ⟨A, c, rfl, h⟩ := h
  obtain ⟨b, _, rfl, _⟩ := h 0 _ (List.getElem?_eq_getElem hne)
  refine ⟨b, c, rfl, fun i row hi => ?_⟩
  obtain ⟨b', u, h1, h2, h3⟩ := h i row hi
  simp only [Option.some.injEq, Addr.mk.injEq, and_true] at h1
  exact ⟨u, by rw [h1, Nat.zero_add]; exact h2, h3⟩
structure LsAt where
  b : Nat
  c : Nat
  X : Hp
def LsAt.ok (p : LsAt) (rows : List (List Int)) : Prop := ∀ (i : Nat) (row : List Int), rows[i]? = some row → ∃ u, RdX p.X p.b (0 + i) u ∧ RdL p.X u row
structure TrSt where
  c : Nat
  out : List Tru
  xs : List Value
  s : Option (Nat × Nat)
attribute [local irreducible] AnyO AnyB QAny QB EWalk AWalk Ev WP OPS QThen QBlock QScope QLoop QBody Val New Turn Tri Enters PostA Blk Ro
attribute [local irreducible] AnyC QC
section
variable (N : Nat) (w0 : World)
/-- All lists, laid anew. -/
theorem lists103_tri (L : Hp) (A : Option Addr) (cp : Nat) (sp : List Sp) (hS : ∀ w, Inv N w0 L w → SlAt w.heap.size w A 2 (sp.map spL)) (hsp : ∀ s ∈ sp, -1000 ≤ s.1 ∧ s.2 ≤ 1000) (hspl : sp.length ≤ 1000) (hb : (allR sp).length ≤ 1000000) :
    Tri Try.prog N w0 L 103 [.slice A sp.length cp, .slice none 0 0, .slice none 0 0].toArray fun x L2 => ∃ v, x = .returned v ∧ ∃ X, L2 = X ++ L ∧ RdLL X v (allR sp) := by
  refine Tri.re2 (K := fun v X => RdLL X v (allR sp)) fun w hI => ?_
  have h := lists103_a w.heap.size w A cp sp (hS w hI) hsp hspl sp [] (by simp) (by simp) [] [] (.slice none 0 0) [] [] none (RdL.nilS _ _) (svOk_nil _) (fun i row h => by simp at h) (by simpa using hb)
  refine h.mono ?_
  rintro x L2 ⟨v, rfl, rows', X2, vals', s', rfl, hr, hs', hrd, rfl⟩
  have hr' : rows' = allR sp := by rw [hr]; simp [lsF]
  subst hr'
  refine ⟨_, rfl, svH 52 1 (allR sp).length vals' s' ((X2 ++ []) ++ []), by simp, ?_⟩
  rw [List.append_nil]
  exact RdLL.sv hs' hrd
set_option maxRecDepth 100000 in
set_option maxHeartbeats 8000000 in
theorem truths79_tri (L : Hp) (g : Bg) (hA : HeapAt N w0 g) (hv : VH g.h) (sn : Nat) (hsn : sn ≤ 1000000) : Tri Try.prog N w0 L 79 [heapV g, .int .i64 (sn : Int)].toArray fun x L2 => ∃ v, x = .returned v ∧ ∃ X, L2 = X ++ L ∧ RdT X v (truthsL g.h sn) := by
  have hnh := hv.nh
  have hnr := hv.nr
  obtain ⟨f1, f2⟩ := firsts_cnt hv
  obtain ⟨r1, r2⟩ := rains_cnt hv
  have hlen := allT_len (h := g.h)
  have hle : (allT g.h).length ≤ 216 * 4096 := by rw [hlen]; exact Nat.mul_le_mul f2 r2
  refine Tri.fgt ?_
  refine tri_of_WP Try.func79 rfl (n := 64) rfl (by simp) ?_
  unfold heapV hvL
  repeat' (first | (refine GiP ?_; first | (refine Znh ?_) | (with_reducible refine Znl ?_)) | (refine GiW ?_; first | (refine Zsq fun K hK => ?_) | (refine ZrN 0 fun _ => ?_; refine Zal 2 fun b2 => ?_; refine Zv Zav ?_) | (refine ZrN 1 fun _ => ?_; refine Zv Zav ?_) | (refine ZrN 2 fun _ => ?_; refine Zv Zai ?_) | (refine WP_cond_true rfl ?_) | (refine WP_cond_false rfl ?_) | (refine Zcd (fun hc => ?_) (fun hc => ?_) <;> (try (exfalso; omega))) | (with_reducible apply WP_skip) | (with_reducible apply WP_block) | (with_reducible apply WP_exit) | (with_reducible apply WP_ret)) | (refine Zhn ?_) | (with_reducible apply QBlock_normal) | (refine Zhx ?_) | (with_reducible apply QBlock_hit) | (refine Zqb ?_) | (with_reducible apply QLoop_exit) | (refine Zhr ?_) | (with_reducible apply QBlock_ret) | (with_reducible apply QLoop_ret))
  refine WP_loop [5, 6, 13, 14, 15, 16, 17, 18, 19, 20, 21, 22, 23, 24, 25, 26, 27, 28] (fun st : Nat × List Value × Option (Nat × Nat) => [(6, .int .i64 (st.1 : Int)), (5, svV st.2.2 st.1)]) (fun st => svH 31 2 st.1 st.2.1 st.2.2 ((b2, Blk 27 (hvL g)) :: L)) (fun st => st.1 ≤ g.h.heaps.length ∧ svOk st.2.2 2 st.1 st.2.1 ∧ st.2.1 = (((firstsL g.h).take st.1).map spL).flatten) (fun st => g.h.heaps.length - st.1) (0, [], none) (.cons rfl (.cons rfl .nil)) (by repeat (first | exact Wk.refl _ | apply Wk.keep1 | apply Wk.drop | apply Wk.sv | apply Wk.svD | apply Wk.appD)) ⟨Nat.zero_le _, svOk_nil _, rfl⟩ ?_
  rintro ⟨k, xs, s⟩ j ⟨hk, hs, hxs⟩
  dsimp only at hk hs hxs ⊢
  unfold hvL
  by_cases hlt : k < g.h.heaps.length
  · obtain ⟨bA, oA, hA1, hbA, hcA⟩ := hA.heaps.row k hlt
    obtain ⟨t, ht⟩ : ∃ t, g.h.heaps[k] = t := ⟨_, rfl⟩
    have hfk : (firstsL g.h)[k]? = some (t.lo, t.hi) := by unfold firstsL; rw [List.getElem?_map, List.getElem?_eq_getElem hlt, ht]; rfl
    rw [ht] at hcA
    obtain ⟨p, lo, hi⟩ := t
    have cs : Ro w0 bA (oA + k * 3 + 1) [.int .i64 lo, .int .i64 hi] := RoDrop hcA 1
    repeat' (first | (refine GiP ?_; first | (refine Znh ?_) | (with_reducible refine Znl ?_)) | (refine GiW ?_; first | (refine Zsq fun K hK => ?_) | (refine ZrN 3 fun _ => ?_; refine Zv Zmi ?_; refine Zv Zf0 ?_; refine Zv Zld ?_; refine Zv Zxlen ?_; refine Zv Zylss ?_) | (refine ZrN 5 fun _ => ?_; refine Zv Zmv ?_; refine Zv Zf0 ?_; refine Zv Zld ?_; refine Zv Zmi ?_; refine Zv Zia ?_; refine Zv Zfa ?_; refine Zv Zla ?_; refine Zal 27 fun b27 => ?_; refine Zag (fun s28 hs28 => ?_); refine Zv Zav ?_) | (refine ZrN 4 fun _ => ?_; refine Zv Zmi ?_; refine Zv Zxadd ?_; refine Zv Zai ?_) | (refine WP_cond_true rfl ?_) | (refine WP_cond_false rfl ?_) | (refine Zcd (fun hc => ?_) (fun hc => ?_) <;> (try (exfalso; omega))) | (with_reducible apply WP_skip) | (with_reducible apply WP_block) | (with_reducible apply WP_exit) | (with_reducible apply WP_ret)) | (refine Zhn ?_) | (with_reducible apply QBlock_normal) | (refine Zhx ?_) | (with_reducible apply QBlock_hit) | (refine Zqb ?_) | (with_reducible apply QLoop_exit) | (refine Zhr ?_) | (with_reducible apply QBlock_ret) | (with_reducible apply QLoop_ret))
    refine QLoop_normal (k + 1, _, _) (.cons rfl (.cons rfl .nil)) (by repeat (first | exact Off.frame rfl | exact Off.refl _ _ | refine Off.frameT rfl rfl ?_ | refine Off.upd rfl ?_ | refine Off.updO rfl ?_)) (by repeat (first | exact Wk.refl _ | apply Wk.keep1 | apply Wk.drop | apply Wk.sv | apply Wk.svD | apply Wk.appD)) ⟨by dsimp only; omega, by assumption, ?_⟩ (by dsimp only; omega)
    dsimp only
    have hkl : k < (firstsL g.h).length := by rw [firstsL_len]; exact hlt
    rw [List.take_succ_eq_append_getElem hkl, List.map_append, List.flatten_append, ← hxs]
    rw [List.getElem?_eq_getElem hkl] at hfk
    simp only [Option.some.injEq] at hfk
    rw [hfk]; rfl
  have hkn : k = g.h.heaps.length := by omega
  subst hkn
  rw [List.take_of_length_le (by rw [firstsL_len]; omega)] at hxs
  have h103b := fun L => lists103_tri N w0 L g.A2 g.c2 g.h.rains (fun w hI => hA.rains.now hI) (fun s hs => by have := hv.rn s hs; omega) (by omega) (by omega)
  obtain ⟨A1, c1, e1, hrd1⟩ := sl_sv (E := 31) (by omega) hs
  have h103a : ∀ L' Lt, Wk L' (svH 31 2 g.h.heaps.length xs s Lt) → Tri Try.prog N w0 L' 103 [.slice A1 g.h.heaps.length c1, .slice none 0 0, .slice none 0 0].toArray fun x L2 => ∃ v, x = .returned v ∧ ∃ X, L2 = X ++ L' ∧ RdLL X v (allR (firstsL g.h)) := fun L' Lt hk => by
    have := lists103_tri N w0 L' A1 c1 (firstsL g.h) (fun w hI => hrd1 (hI.wk hk) hxs (by intro r hr; obtain ⟨x, _, rfl⟩ := List.mem_map.1 hr; rfl)) (fun s hs => by obtain ⟨t, ht, rfl⟩ := List.mem_map.1 hs; have := hv.tf t ht; dsimp only; omega) (by rw [firstsL_len]; omega) (by omega)
    rw [firstsL_len] at this
    exact this
  rw [e1]
  repeat' (first | (refine GiP ?_; first | (refine Znh ?_) | (with_reducible refine Znl ?_)) | (refine GiW ?_; first | (refine Zsq fun K hK => ?_) | (refine ZrN 3 fun _ => ?_; refine Zv Zmi ?_; refine Zv Zf0 ?_; refine Zv Zld ?_; refine Zv Zxlen ?_; refine Zv Zylss ?_) | (refine WP_cond_true rfl ?_) | (refine WP_cond_false rfl ?_) | (refine Zcd (fun hc => ?_) (fun hc => ?_) <;> (try (exfalso; omega))) | (with_reducible apply WP_skip) | (with_reducible apply WP_block) | (with_reducible apply WP_exit) | (with_reducible apply WP_ret)) | (refine Zhn ?_) | (with_reducible apply QBlock_normal) | (refine Zhx ?_) | (with_reducible apply QBlock_hit) | (refine Zqb ?_) | (with_reducible apply QLoop_exit) | (refine Zhr ?_) | (with_reducible apply QBlock_ret) | (with_reducible apply QLoop_ret))
  refine WP_joinS (by assumption) [7, 8, 29, 30, 31, 32, 33] (fun p : LsAt × LsAt => [(7, .slice (some ⟨p.1.b, 0, none⟩) (allR (firstsL g.h)).length p.1.c), (8, .slice (some ⟨p.2.b, 0, none⟩) (allR g.h.rains).length p.2.c)]) (fun p => p.2.X ++ (p.1.X ++ ((b2, Blk 27 (hvL g)) :: L))) (fun p => p.1.ok (allR (firstsL g.h)) ∧ p.2.ok (allR g.h.rains)) ?_ ?_
  · intro K' hC
    repeat' (first | (refine GiP ?_; first | (refine Znh ?_) | (with_reducible refine Znl ?_) | (refine Zatd 30 ?_; refine OPS_retKS (Enters_fn rfl) (h103a _ _ (by repeat (first | exact Wk.refl _ | apply Wk.keep1 | apply Wk.drop | apply Wk.sv | apply Wk.svD | apply Wk.appD))) rfl rfl rfl (fun v30 L30 h30 => ?_); obtain ⟨X1, rfl, hY1⟩ := h30; obtain ⟨bb1, cc1, rfl, hX1⟩ := hY1.opn f1) | (refine Zatd 30 ?_; refine OPS_retKS (Enters_fn rfl) (h103b _) rfl rfl rfl (fun v30 L30 h30 => ?_); obtain ⟨X2, rfl, hY2⟩ := h30; obtain ⟨bb2, cc2, rfl, hX2⟩ := hY2.opn r1) | (refine Zatd 33 ?_; refine OPS_retKS (Enters_fn rfl) (h103a _ _ (by repeat (first | exact Wk.refl _ | apply Wk.keep1 | apply Wk.drop | apply Wk.sv | apply Wk.svD | apply Wk.appD))) rfl rfl rfl (fun v33 L33 h33 => ?_); obtain ⟨X1, rfl, hY1⟩ := h33; obtain ⟨bb1, cc1, rfl, hX1⟩ := hY1.opn f1) | (refine Zatd 33 ?_; refine OPS_retKS (Enters_fn rfl) (h103b _) rfl rfl rfl (fun v33 L33 h33 => ?_); obtain ⟨X2, rfl, hY2⟩ := h33; obtain ⟨bb2, cc2, rfl, hX2⟩ := hY2.opn r1) | (refine Zatd 7 ?_; refine Zv Zav ?_) | (refine Zatd 8 ?_; refine Zv Zav ?_)) | (refine GiW ?_; first | (refine Zsq fun K hK => ?_) | (refine WP_cond_true rfl ?_) | (refine WP_cond_false rfl ?_) | (refine Zcd (fun hc => ?_) (fun hc => ?_) <;> (try (exfalso; omega))) | (with_reducible apply WP_skip) | (with_reducible apply WP_block) | (with_reducible apply WP_exit) | (with_reducible apply WP_ret) | (refine WP_drawnS (id := 6) [2, 3] [0, 2, 3] [] [31, 32] (k := 1) (k2 := 3) (by repeat (first | apply Sub.sv | apply Sub.keep | apply Sub.appK | exact Sub.refl _)) (by kernel_rfl) prog_mixed (by kernel_rfl) (by kernel_rfl) rfl ?_; refine Zew rfl Zmv ?_; refine Zew rfl Zfa ?_; refine Zew rfl Zld ?_)) | (with_reducible apply EWalk_nil) | (refine GiC ?_; first | (refine ZgC [0, 2, 3] ?_; refine ZC1 _ 1 [0, 2, 3, 1] ?_) | (refine ZgC [0, 2, 3, 1] ?_; refine ZCl _ ?_)) | (refine GiO ?_; first | (refine ZgO [0, 2, 3, 1] ?_; refine ZO1 _ 4 [0, 2, 3, 1, 4] ?_) | (refine ZgO [0, 2, 3, 1, 4] ?_; refine ZO1 _ 5 [0, 2, 3, 1, 4, 5] ?_) | (refine ZgO [0, 2, 3, 1, 4, 5] ?_; refine ZO1 _ 6 [0, 2, 3, 1, 4, 5, 6] ?_) | (refine ZgO [0, 2, 3, 1, 4, 5, 6] ?_; refine ZOd _ ?_; (try with_reducible apply noP_normal); (try with_reducible exact key.out))) | (refine Zhn ?_) | (with_reducible apply QBlock_normal) | (refine Zhx ?_) | (with_reducible apply QBlock_hit) | (refine Zqb ?_) | (with_reducible apply QLoop_exit) | (refine Zhr ?_) | (with_reducible apply QBlock_ret) | (with_reducible apply QLoop_ret) | (refine AWalk_0 ?_) | (with_reducible apply QAny_normal) | (with_reducible apply QC_normal))
    all_goals exact hC.nor (⟨bb1, cc1, X1⟩, ⟨bb2, cc2, X2⟩) _ _ (.cons rfl (.cons rfl .nil)) (by repeat (first | exact Off.frame rfl | exact Off.refl _ _ | refine Off.frameT rfl rfl ?_ | refine Off.upd rfl ?_ | refine Off.updO rfl ?_)) (Sub.appK (Sub.appK (by repeat (first | exact Sub.refl _ | assumption | exact Sub.left | (with_reducible refine Sub.pick (by repeat (first | exact Pick.here | apply Pick.there)) ?_) | apply Sub.cons | apply Sub.sv | apply Sub.app)))) ⟨hX1, hX2⟩
  rintro ⟨⟨bb1, cc1, X1⟩, ⟨bb2, cc2, X2⟩⟩ j2 ⟨hX1, hX2⟩
  unfold LsAt.ok at hX1 hX2
  dsimp only at hX1 hX2 ⊢
  unfold hvL
  obtain ⟨n1, hn1⟩ : ∃ n1, (allR (firstsL g.h)).length = n1 := ⟨_, rfl⟩
  obtain ⟨n2, hn2⟩ : ∃ n2, (allR g.h.rains).length = n2 := ⟨_, rfl⟩
  rw [hn1, hn2] at hlen
  rw [hn1] at f1 f2 ⊢
  rw [hn2] at r1 r2 ⊢
  obtain ⟨fil, hfil⟩ : ∃ fil : Nat → List Tru, fil = fun m => ((allT g.h).take m).filter fun t => rightB g.h t sn := ⟨_, rfl⟩
  have hfl : ∀ m, (fil m).length ≤ 216 * 4096 := by
    intro m
    rw [hfil]
    refine Nat.le_trans (List.length_filter_le _ _) (Nat.le_trans ?_ hle)
    rw [List.length_take]; exact Nat.min_le_right _ _
  have hf0 : fil 0 = [] := by rw [hfil]; simp
  repeat' (first | (refine GiP ?_; first | (refine Znh ?_) | (with_reducible refine Znl ?_)) | (refine GiW ?_; first | (refine Zsq fun K hK => ?_) | (refine ZrN 7 fun _ => ?_; refine Zv Zav ?_) | (refine ZrN 8 fun _ => ?_; refine Zv Zai ?_) | (refine WP_cond_true rfl ?_) | (refine WP_cond_false rfl ?_) | (refine Zcd (fun hc => ?_) (fun hc => ?_) <;> (try (exfalso; omega))) | (with_reducible apply WP_skip) | (with_reducible apply WP_block) | (with_reducible apply WP_exit) | (with_reducible apply WP_ret)) | (refine Zhn ?_) | (with_reducible apply QBlock_normal) | (refine Zhx ?_) | (with_reducible apply QBlock_hit) | (refine Zqb ?_) | (with_reducible apply QLoop_exit) | (refine Zhr ?_) | (with_reducible apply QBlock_ret) | (with_reducible apply QLoop_ret))
  refine WP_loop [9, 10, 11, 12, 34, 35, 36, 37, 38, 39, 40, 41, 42, 43, 44, 45, 46, 47, 48, 49, 50, 51, 52, 53, 54, 55, 56, 57, 58, 59, 60, 61, 62] (fun st : TrSt => [(10, .int .i64 (st.c : Int)), (9, svV st.s st.out.length)]) (fun st => svH 89 2 st.out.length st.xs st.s (X2 ++ (X1 ++ ((b2, Blk 27 (hvL g)) :: L)))) (fun st => st.c ≤ n1 ∧ st.out = fil (st.c * n2) ∧ svOk st.s 2 st.out.length st.xs ∧ RdU (X2 ++ X1) st.xs st.out) (fun st => n1 - st.c) ⟨0, [], [], none⟩ (.cons rfl (.cons rfl .nil)) (by repeat (first | exact Wk.refl _ | apply Wk.keep1 | apply Wk.drop | apply Wk.sv | apply Wk.svD | apply Wk.appD)) ⟨Nat.zero_le _, by rw [Nat.zero_mul, hf0], svOk_nil _, fun j t h => by simp at h⟩ ?_
  rintro ⟨i, out, xs3, s3⟩ j3 ⟨hi, hout, hs3, hrd3⟩
  dsimp only at hi hout hs3 hrd3 ⊢
  unfold hvL
  by_cases hin : i < n1
  · obtain ⟨u1, hu1, hr1⟩ := hX1 i _ (List.getElem?_eq_getElem (by omega))
    obtain ⟨fa, hfa⟩ : ∃ fa, (allR (firstsL g.h))[i]'(by omega) = fa := ⟨_, rfl⟩
    rw [hfa] at hr1
    obtain ⟨Au, cu, rfl, hru⟩ := hr1
    have hr1 : RdL X1 (.slice Au fa.length cu) fa := ⟨Au, cu, rfl, hru⟩
    repeat' (first | (refine GiP ?_; first | (refine Znh ?_) | (with_reducible refine Znl ?_)) | (refine GiW ?_; first | (refine Zsq fun K hK => ?_) | (refine ZrN 9 fun _ => ?_; refine Zv Zmi ?_; refine Zv Zmv ?_; refine Zv Zxlen ?_; refine Zv Zylss ?_) | (refine ZrN 11 fun _ => ?_; refine Zv Zai ?_) | (refine WP_cond_true rfl ?_) | (refine WP_cond_false rfl ?_) | (refine Zcd (fun hc => ?_) (fun hc => ?_) <;> (try (exfalso; omega))) | (with_reducible apply WP_skip) | (with_reducible apply WP_block) | (with_reducible apply WP_exit) | (with_reducible apply WP_ret)) | (refine Zhn ?_) | (with_reducible apply QBlock_normal) | (refine Zhx ?_) | (with_reducible apply QBlock_hit) | (refine Zqb ?_) | (with_reducible apply QLoop_exit) | (refine Zhr ?_) | (with_reducible apply QBlock_ret) | (with_reducible apply QLoop_ret))
    refine WP_loop [9, 11, 12, 40, 41, 42, 43, 44, 45, 46, 47, 48, 49, 50, 51, 52, 53, 54, 55, 56, 57, 58, 59, 60, 61, 62] (fun st : TrSt => [(11, .int .i64 (st.c : Int)), (9, svV st.s st.out.length)]) (fun st => svH 89 2 st.out.length st.xs st.s (X2 ++ (X1 ++ ((b2, Blk 27 (hvL g)) :: L)))) (fun st => st.c ≤ n2 ∧ st.out = fil (i * n2 + st.c) ∧ svOk st.s 2 st.out.length st.xs ∧ RdU (X2 ++ X1) st.xs st.out) (fun st => n2 - st.c) ⟨0, out, xs3, s3⟩ (.cons rfl (.cons rfl .nil)) (by repeat (first | exact Wk.refl _ | apply Wk.keep1 | apply Wk.drop | apply Wk.sv | apply Wk.svD | apply Wk.appD)) ⟨Nat.zero_le _, hout, hs3, hrd3⟩ ?_
    clear hout hs3 hrd3
    rintro ⟨k, out, xs3, s3⟩ j4 ⟨hk, hout, hs3, hrd3⟩
    dsimp only at hk hout hs3 hrd3 ⊢
    unfold hvL
    by_cases hkn : k < n2
    · obtain ⟨u2, hu2, hr2⟩ := hX2 k _ (List.getElem?_eq_getElem (by omega))
      obtain ⟨ra, hra⟩ : ∃ ra, (allR g.h.rains)[k]'(by omega) = ra := ⟨_, rfl⟩
      rw [hra] at hr2
      obtain ⟨Aq, cq, rfl, hrq⟩ := hr2
      have hr2 : RdL X2 (.slice Aq ra.length cq) ra := ⟨Aq, cq, rfl, hrq⟩
      have hTok : TruOk g.h (fa, ra) := tru_ok hv (allR_iff.1 (by rw [← hfa]; exact List.getElem_mem _)) (allR_iff.1 (by rw [← hra]; exact List.getElem_mem _))
      have hget : (allT g.h)[i * n2 + k]? = some (fa, ra) := by
        have := allT_get (h := g.h) (i := i) (k := k) (by omega) (by omega)
        rw [hfa, hra, hn2] at this
        exact this
      have hnx : fil (i * n2 + (k + 1)) = fil (i * n2 + k) ++ if rightB g.h (fa, ra) sn = true then [(fa, ra)] else [] := by
        obtain ⟨hlt2, hg2⟩ := List.getElem?_eq_some_iff.1 hget
        rw [hfil, ← Nat.add_assoc]
        dsimp only
        rw [List.take_succ_eq_append_getElem hlt2, List.filter_append, hg2]
        congr 1
        by_cases hb : rightB g.h (fa, ra) sn = true <;> simp [hb]
      have hol := hfl (i * n2 + k)
      rw [← hout] at hol hnx
      have h104 := fun (L' Lt : Hp) (k : Wk L' (X2 ++ (X1 ++ Lt))) => right104_ret N w0 L' g hA hv (fa, ra) hTok _ _ (hr1.wk (k.trans ((Wk.app X2 _).trans (Wk.appR X1 Lt)))) (hr2.wk (k.trans (Wk.appR X2 _))) sn hsn
      obtain ⟨rb, hrb⟩ : ∃ rb, rightB g.h (fa, ra) sn = rb := ⟨_, rfl⟩
      rw [hrb] at h104 hnx
      unfold heapV hvL at h104
      cases rb
      · rw [if_neg (by simp), List.append_nil] at hnx
        repeat' (first | (refine GiP ?_; first | (refine Znh ?_) | (with_reducible refine Znl ?_) | (refine Zatn ?_; refine Zst ?_)) | (refine GiW ?_; first | (refine Zsq fun K hK => ?_) | (refine ZrN 12 fun _ => ?_; refine Zv Zmi ?_; refine Zv Zmv ?_; refine Zv Zxlen ?_; refine Zv Zylss ?_) | (refine ZrN 15 fun _ => ?_; (first | (refine Zv (Val_loadD1 rfl (RdX.rd (RdX.sub hu1 (by repeat (first | exact Sub.nil | exact Sub.refl _ | assumption | exact Sub.left | apply Sub.svK | apply Sub.sv | apply Sub.cons | apply Sub.app))))) ?_) | (refine Zv (Val_loadD1 rfl (RdX.rd (RdX.sub hu2 (by repeat (first | exact Sub.nil | exact Sub.refl _ | assumption | exact Sub.left | apply Sub.svK | apply Sub.sv | apply Sub.cons | apply Sub.app))))) ?_) | (refine Zv Zla ?_)); (first | (refine Zv (Val_loadD1 rfl (RdX.rd (RdX.sub hu1 (by repeat (first | exact Sub.nil | exact Sub.refl _ | assumption | exact Sub.left | apply Sub.svK | apply Sub.sv | apply Sub.cons | apply Sub.app))))) ?_) | (refine Zv (Val_loadD1 rfl (RdX.rd (RdX.sub hu2 (by repeat (first | exact Sub.nil | exact Sub.refl _ | assumption | exact Sub.left | apply Sub.svK | apply Sub.sv | apply Sub.cons | apply Sub.app))))) ?_) | (refine Zv Zla ?_)); refine Zv Zmi ?_; refine Zcl (Enters_fn rfl) (h104 _ _ (by repeat (first | exact Wk.refl _ | apply Wk.keep1 | apply Wk.drop | apply Wk.sv | apply Wk.svD | apply Wk.appD))) ?_) | (refine ZrN 13 fun _ => ?_; refine Zv Zmi ?_; refine Zv Zxadd ?_; refine Zv Zai ?_) | (refine WP_cond_true rfl ?_) | (refine WP_cond_false rfl ?_) | (refine Zcd (fun hc => ?_) (fun hc => ?_) <;> (try (exfalso; omega))) | (with_reducible apply WP_skip) | (with_reducible apply WP_block) | (with_reducible apply WP_exit) | (with_reducible apply WP_ret) | (refine WP_drawn (id := 14) [0, 1, 2, 3, 4, 5, 6, 7, 8] [9] (k := 1) prog_mixed (by kernel_rfl) rfl ?_; refine Zew rfl Zmv ?_; refine Zew rfl Zmi ?_; refine Zew rfl Zia ?_; (first | (refine Zew rfl (Val_loadD1 rfl (RdX.rd (RdX.sub hu1 (by repeat (first | exact Sub.nil | exact Sub.refl _ | assumption | exact Sub.left | apply Sub.svK | apply Sub.sv | apply Sub.cons | apply Sub.app))))) ?_) | (refine Zew rfl (Val_loadD1 rfl (RdX.rd (RdX.sub hu2 (by repeat (first | exact Sub.nil | exact Sub.refl _ | assumption | exact Sub.left | apply Sub.svK | apply Sub.sv | apply Sub.cons | apply Sub.app))))) ?_) | (refine Zew rfl Zld ?_)); refine Zew rfl Zmv ?_; refine Zew rfl Zmi ?_; refine Zew rfl Zia ?_; (first | (refine Zew rfl (Val_loadD1 rfl (RdX.rd (RdX.sub hu1 (by repeat (first | exact Sub.nil | exact Sub.refl _ | assumption | exact Sub.left | apply Sub.svK | apply Sub.sv | apply Sub.cons | apply Sub.app))))) ?_) | (refine Zew rfl (Val_loadD1 rfl (RdX.rd (RdX.sub hu2 (by repeat (first | exact Sub.nil | exact Sub.refl _ | assumption | exact Sub.left | apply Sub.svK | apply Sub.sv | apply Sub.cons | apply Sub.app))))) ?_) | (refine Zew rfl Zld ?_)); refine Zew rfl Zxbu ?_)) | (with_reducible apply EWalk_nil) | (refine GiO ?_; first | (refine AnyO_done (by kernel_rfl) ?_; (try with_reducible apply noP_normal); try with_reducible exact key.out) | (refine AnyO_1 10 (by decide +kernel) rfl ?_)) | (refine Zhn ?_) | (with_reducible apply QBlock_normal) | (refine Zhx ?_) | (with_reducible apply QBlock_hit) | (refine Zqb ?_) | (with_reducible apply QLoop_exit) | (refine Zhr ?_) | (with_reducible apply QBlock_ret) | (with_reducible apply QLoop_ret) | (refine AWalk_1S (d := 12) rfl rfl rfl rfl blk_is New_alloc (fun b12 => ?_); refine ZisO ?_; apply shr; intro key) | (with_reducible apply QAny_normal))
        exact QLoop_normal ⟨k + 1, out, xs3, s3⟩ (.cons rfl (.cons rfl .nil)) (by repeat (first | exact Off.frame rfl | exact Off.refl _ _ | refine Off.frameT rfl rfl ?_ | refine Off.upd rfl ?_ | refine Off.updO rfl ?_)) (by repeat (first | exact Wk.refl _ | apply Wk.keep1 | apply Wk.drop | apply Wk.sv | apply Wk.svD | apply Wk.appD)) ⟨by dsimp only; omega, hnx.symm, hs3, hrd3⟩ (by dsimp only; omega)
      · rw [if_pos rfl] at hnx
        repeat' (first | (refine GiP ?_; first | (refine Znh ?_) | (with_reducible refine Znl ?_) | (refine Zatn ?_; refine Zst ?_)) | (refine GiW ?_; first | (refine Zsq fun K hK => ?_) | (refine ZrN 12 fun _ => ?_; refine Zv Zmi ?_; refine Zv Zmv ?_; refine Zv Zxlen ?_; refine Zv Zylss ?_) | (refine ZrN 15 fun _ => ?_; (first | (refine Zv (Val_loadD1 rfl (RdX.rd (RdX.sub hu1 (by repeat (first | exact Sub.nil | exact Sub.refl _ | assumption | exact Sub.left | apply Sub.svK | apply Sub.sv | apply Sub.cons | apply Sub.app))))) ?_) | (refine Zv (Val_loadD1 rfl (RdX.rd (RdX.sub hu2 (by repeat (first | exact Sub.nil | exact Sub.refl _ | assumption | exact Sub.left | apply Sub.svK | apply Sub.sv | apply Sub.cons | apply Sub.app))))) ?_) | (refine Zv Zla ?_)); (first | (refine Zv (Val_loadD1 rfl (RdX.rd (RdX.sub hu1 (by repeat (first | exact Sub.nil | exact Sub.refl _ | assumption | exact Sub.left | apply Sub.svK | apply Sub.sv | apply Sub.cons | apply Sub.app))))) ?_) | (refine Zv (Val_loadD1 rfl (RdX.rd (RdX.sub hu2 (by repeat (first | exact Sub.nil | exact Sub.refl _ | assumption | exact Sub.left | apply Sub.svK | apply Sub.sv | apply Sub.cons | apply Sub.app))))) ?_) | (refine Zv Zla ?_)); refine Zv Zmi ?_; refine Zcl (Enters_fn rfl) (h104 _ _ (by repeat (first | exact Wk.refl _ | apply Wk.keep1 | apply Wk.drop | apply Wk.sv | apply Wk.svD | apply Wk.appD))) ?_) | (refine ZrN 16 fun _ => ?_; refine Zv Zmv ?_; (first | (refine Zv (Val_loadD1 rfl (RdX.rd (RdX.sub hu1 (by repeat (first | exact Sub.nil | exact Sub.refl _ | assumption | exact Sub.left | apply Sub.svK | apply Sub.sv | apply Sub.cons | apply Sub.app))))) ?_) | (refine Zv (Val_loadD1 rfl (RdX.rd (RdX.sub hu2 (by repeat (first | exact Sub.nil | exact Sub.refl _ | assumption | exact Sub.left | apply Sub.svK | apply Sub.sv | apply Sub.cons | apply Sub.app))))) ?_) | (refine Zv Zla ?_)); refine Zal 61 fun b61 => ?_; refine Zag (fun s62 hs62 => ?_); refine Zv Zav ?_) | (refine ZrN 13 fun _ => ?_; refine Zv Zmi ?_; refine Zv Zxadd ?_; refine Zv Zai ?_) | (refine WP_cond_true rfl ?_) | (refine WP_cond_false rfl ?_) | (refine Zcd (fun hc => ?_) (fun hc => ?_) <;> (try (exfalso; omega))) | (with_reducible apply WP_skip) | (with_reducible apply WP_block) | (with_reducible apply WP_exit) | (with_reducible apply WP_ret) | (refine WP_drawn (id := 14) [0, 1, 2, 3, 4, 5, 6, 7, 8] [9] (k := 1) prog_mixed (by kernel_rfl) rfl ?_; refine Zew rfl Zmv ?_; refine Zew rfl Zmi ?_; refine Zew rfl Zia ?_; (first | (refine Zew rfl (Val_loadD1 rfl (RdX.rd (RdX.sub hu1 (by repeat (first | exact Sub.nil | exact Sub.refl _ | assumption | exact Sub.left | apply Sub.svK | apply Sub.sv | apply Sub.cons | apply Sub.app))))) ?_) | (refine Zew rfl (Val_loadD1 rfl (RdX.rd (RdX.sub hu2 (by repeat (first | exact Sub.nil | exact Sub.refl _ | assumption | exact Sub.left | apply Sub.svK | apply Sub.sv | apply Sub.cons | apply Sub.app))))) ?_) | (refine Zew rfl Zld ?_)); refine Zew rfl Zmv ?_; refine Zew rfl Zmi ?_; refine Zew rfl Zia ?_; (first | (refine Zew rfl (Val_loadD1 rfl (RdX.rd (RdX.sub hu1 (by repeat (first | exact Sub.nil | exact Sub.refl _ | assumption | exact Sub.left | apply Sub.svK | apply Sub.sv | apply Sub.cons | apply Sub.app))))) ?_) | (refine Zew rfl (Val_loadD1 rfl (RdX.rd (RdX.sub hu2 (by repeat (first | exact Sub.nil | exact Sub.refl _ | assumption | exact Sub.left | apply Sub.svK | apply Sub.sv | apply Sub.cons | apply Sub.app))))) ?_) | (refine Zew rfl Zld ?_)); refine Zew rfl Zxbu ?_)) | (with_reducible apply EWalk_nil) | (refine GiO ?_; first | (refine AnyO_done (by kernel_rfl) ?_; (try with_reducible apply noP_normal); try with_reducible exact key.out) | (refine AnyO_1 10 (by decide +kernel) rfl ?_)) | (refine Zhn ?_) | (with_reducible apply QBlock_normal) | (refine Zhx ?_) | (with_reducible apply QBlock_hit) | (refine Zqb ?_) | (with_reducible apply QLoop_exit) | (refine Zhr ?_) | (with_reducible apply QBlock_ret) | (with_reducible apply QLoop_ret) | (refine AWalk_1S (d := 12) rfl rfl rfl rfl blk_is New_alloc (fun b12 => ?_); refine ZisO ?_; apply shr; intro key) | (with_reducible apply QAny_normal))
        have hxl : xs3.length = out.length * 2 := hs3.1
        refine QLoop_normal ⟨k + 1, out ++ [(fa, ra)], _, s62⟩ (.cons rfl (.cons (by dsimp only; rw [List.length_append]; rfl) .nil)) (by repeat (first | exact Off.frame rfl | exact Off.refl _ _ | refine Off.frameT rfl rfl ?_ | refine Off.upd rfl ?_ | refine Off.updO rfl ?_)) ?_ ⟨by dsimp only; omega, hnx.symm, by dsimp only; rw [List.length_append]; exact hs62, ?_⟩ (by dsimp only; omega)
        · dsimp only
          rw [List.length_append]
          exact (by repeat (first | exact Wk.refl _ | apply Wk.keep1 | apply Wk.drop | apply Wk.sv | apply Wk.svD | apply Wk.appD))
        · dsimp only
          exact hrd3.snoc hxl (hr1.wk (Wk.app X2 X1)) (hr2.wk (Wk.appR X2 X1))
    · have hkn2 : k = n2 := by omega
      subst hkn2
      repeat' (first | (refine GiP ?_; first | (refine Znh ?_) | (with_reducible refine Znl ?_)) | (refine GiW ?_; first | (refine Zsq fun K hK => ?_) | (refine ZrN 12 fun _ => ?_; refine Zv Zmi ?_; refine Zv Zmv ?_; refine Zv Zxlen ?_; refine Zv Zylss ?_) | (refine ZrN 10 fun _ => ?_; refine Zv Zmi ?_; refine Zv Zxadd ?_; refine Zv Zai ?_) | (refine WP_cond_true rfl ?_) | (refine WP_cond_false rfl ?_) | (refine Zcd (fun hc => ?_) (fun hc => ?_) <;> (try (exfalso; omega))) | (with_reducible apply WP_skip) | (with_reducible apply WP_block) | (with_reducible apply WP_exit) | (with_reducible apply WP_ret)) | (refine Zhn ?_) | (with_reducible apply QBlock_normal) | (refine Zhx ?_) | (with_reducible apply QBlock_hit) | (refine Zqb ?_) | (with_reducible apply QLoop_exit) | (refine Zhr ?_) | (with_reducible apply QBlock_ret) | (with_reducible apply QLoop_ret))
      exact QLoop_normal ⟨i + 1, out, xs3, s3⟩ (.cons rfl (.cons rfl .nil)) (by repeat (first | exact Off.frame rfl | exact Off.refl _ _ | refine Off.frameT rfl rfl ?_ | refine Off.upd rfl ?_ | refine Off.updO rfl ?_)) (by repeat (first | exact Wk.refl _ | apply Wk.keep1 | apply Wk.drop | apply Wk.sv | apply Wk.svD | apply Wk.appD)) ⟨by dsimp only; omega, by dsimp only; rw [hout, Nat.succ_mul], hs3, hrd3⟩ (by dsimp only; omega)
  · have hin2 : i = n1 := by omega
    subst hin2
    have hfin : out = truthsL g.h sn := by
      rw [hout, ← hlen, hfil]
      dsimp only
      rw [List.take_length]; rfl
    repeat' (first | (refine GiP ?_; first | (refine Znh ?_) | (with_reducible refine Znl ?_)) | (refine GiW ?_; first | (refine Zsq fun K hK => ?_) | (refine ZrN 9 fun _ => ?_; refine Zv Zmi ?_; refine Zv Zmv ?_; refine Zv Zxlen ?_; refine Zv Zylss ?_) | (refine ZrN 17 fun _ => ?_; refine Zv Zmv ?_; refine Zv Zav ?_) | (refine WP_cond_true rfl ?_) | (refine WP_cond_false rfl ?_) | (refine Zcd (fun hc => ?_) (fun hc => ?_) <;> (try (exfalso; omega))) | (with_reducible apply WP_skip) | (with_reducible apply WP_block) | (with_reducible apply WP_exit) | (with_reducible apply WP_ret)) | (refine Zhn ?_) | (with_reducible apply QBlock_normal) | (refine Zhx ?_) | (with_reducible apply QBlock_hit) | (refine Zqb ?_) | (with_reducible apply QLoop_exit) | (refine Zhr ?_) | (with_reducible apply QBlock_ret) | (with_reducible apply QLoop_ret))
    refine QBody_ret1 rfl rfl ⟨svH 89 2 out.length xs3 s3 (X2 ++ X1) ++ L, ?_, _, rfl, svH 89 2 out.length xs3 s3 (X2 ++ X1), rfl, by rw [← hfin]; exact RdT.sv hs3 hrd3⟩
    rw [← svH_app, List.append_assoc]
    exact .sv (.appK X2 (.appK X1 (.drop (.refl _))))
end
end Go.Proofs.Ytlpahkmfjpjheaa
end

section
namespace Go.Proofs.Ytlpahkmfjpjheaa
open Go.RowKit
def mmF (s : Sp) (v : Int) : Sp := (min s.1 v, max s.2 v)
theorem hullL_mm (x : Int) (l : List Int) : hullL (x :: l) = (x :: l).foldl mmF (x, x) := rfl
theorem foldl_snoc {row : List Int} {s : Sp} {k : Nat} (hk : k < row.length) : (row.take (k + 1)).foldl mmF s = mmF ((row.take k).foldl mmF s) row[k] := by
  rw [List.take_succ_eq_append_getElem hk, List.foldl_append]; rfl
theorem rd2 {N : Nat} {w0 : World} {X L : Hp} {b o : Nat} {u q : Value} (hu : RdX X b o u) (hq : RdX X b (o + 1) q) (k : Sub X L) : ∀ (j : Nat) (v : Value), [u, q][j]? = some v → Rd N w0 L b (o + j) v := by
  intro j v hj
  match j with
  | 0 => simp only [List.getElem?_cons_zero, Option.some.injEq] at hj; subst hj; exact RdX.rd (hu.sub k)
  | 1 => simp only [List.getElem?_cons_succ, List.getElem?_cons_zero, Option.some.injEq] at hj; subst hj; exact RdX.rd (hq.sub k)
  | j + 2 => simp at hj
theorem RdT.opn {X : Hp} {v : Value} {l : List Tru} (h : RdT X v l) (hne : 0 < l.length) : ∃ b c, v = .slice (some ⟨b, 0, none⟩) l.length c ∧ ∀ (j : Nat) (t : Tru), l[j]? = some t → ∃ u q, RdX X b (0 + j * 2) u ∧ RdX X b (0 + j * 2 + 1) q ∧ RdL X u t.1 ∧ RdL X q t.2 := by
  obtain ⟨A, c, rfl, h⟩ := h
  obtain ⟨b, _, _, rfl, _⟩ := h 0 _ (List.getElem?_eq_getElem hne)
  refine ⟨b, c, rfl, fun i t hi => ?_⟩
  obtain ⟨b', u, q, h1, h2, h3, h4, h5⟩ := h i t hi
  simp only [Option.some.injEq, Addr.mk.injEq, and_true] at h1
  rw [h1]
  exact ⟨u, q, h2, h3, h4, h5⟩
theorem intL_take {row : List Int} {k : Nat} (hk : k < row.length) : intL (row.take (k + 1)) = intL (row.take k) ++ [.int .i64 row[k]] := by
  rw [List.take_succ_eq_append_getElem hk, intL_snoc]
attribute [local irreducible] AnyO AnyB QAny QB EWalk AWalk Ev WP OPS QThen QBlock QScope QLoop QBody Val New Turn Tri Enters PostA Blk Ro
attribute [local irreducible] AnyC QC
section
variable (N : Nat) (w0 : World)
set_option maxRecDepth 100000 in
set_option maxHeartbeats 4000000 in
theorem hull60_ret (L : Hp) (v : Value) (row : List Int) (hrow : RdL L v row) (hne : 0 < row.length) (hsz : row.length ≤ 1000000) : Ret Try.prog N w0 L 60 [v].toArray (.agg [.int .i64 (hullL row).1, .int .i64 (hullL row).2].toArray) := by
  obtain ⟨b, c, rfl, hrd⟩ := hrow.opn hne
  obtain ⟨x0, hx0⟩ : ∃ x0, row[0] = x0 := ⟨_, rfl⟩
  have hr0 := hrd 0 x0 (by rw [List.getElem?_eq_getElem hne, hx0])
  have hfin : hullL row = row.foldl mmF (x0, x0) := by
    cases row with
    | nil => simp at hne
    | cons x l => rw [hullL_mm]; simp only [List.getElem_cons_zero] at hx0; rw [hx0]
  refine Ret.fgt ?_
  refine tri_of_WP Try.func60 rfl (n := 34) rfl (by simp) ?_
  repeat' (first | (refine GiP ?_; first | (refine Znh ?_) | (with_reducible refine Znl ?_) | (refine Zatn ?_; refine Zst ?_)) | (refine GiW ?_; first | (refine Zsq fun K hK => ?_) | (refine ZrN 0 fun _ => ?_; refine Zal 2 fun b2 => ?_) | (refine ZrN 2 fun _ => ?_; refine Zv Zai ?_) | (refine WP_cond_true rfl ?_) | (refine WP_cond_false rfl ?_) | (refine Zcd (fun hc => ?_) (fun hc => ?_) <;> (try (exfalso; omega))) | (with_reducible apply WP_skip) | (with_reducible apply WP_block) | (with_reducible apply WP_exit) | (with_reducible apply WP_ret) | (refine WP_drawn (id := 1) [0, 1, 2, 3, 4, 5, 6] [7] (k := 1) prog_mixed (by kernel_rfl) rfl ?_; refine Zew rfl Zmv ?_; refine Zew rfl Zia ?_; (first | (refine Zew rfl (Val_loadD1 rfl (RdX.rd (RdX.sub hr0 (by repeat (first | exact Sub.nil | exact Sub.refl _ | assumption | exact Sub.left | apply Sub.svK | apply Sub.sv | apply Sub.cons | apply Sub.app))))) ?_) | (refine Zew rfl Zld ?_)); refine Zew rfl Zmv ?_; refine Zew rfl Zia ?_; (first | (refine Zew rfl (Val_loadD1 rfl (RdX.rd (RdX.sub hr0 (by repeat (first | exact Sub.nil | exact Sub.refl _ | assumption | exact Sub.left | apply Sub.svK | apply Sub.sv | apply Sub.cons | apply Sub.app))))) ?_) | (refine Zew rfl Zld ?_)); refine Zew rfl Zxbu ?_)) | (with_reducible apply EWalk_nil) | (refine GiO ?_; first | (refine AnyO_done (by kernel_rfl) ?_; (try with_reducible apply noP_normal); try with_reducible exact key.out) | (refine AnyO_1 8 (by decide +kernel) rfl ?_)) | (refine Zhn ?_) | (with_reducible apply QBlock_normal) | (refine Zhx ?_) | (with_reducible apply QBlock_hit) | (refine Zqb ?_) | (with_reducible apply QLoop_exit) | (refine Zhr ?_) | (with_reducible apply QBlock_ret) | (with_reducible apply QLoop_ret) | (refine AWalk_1S (d := 3) rfl rfl rfl rfl blk_is New_alloc (fun b3 => ?_); refine ZisO ?_; apply shr; intro key) | (with_reducible apply QAny_normal))
  refine WP_loop [4, 12, 13, 14, 15, 16, 17, 18, 19, 20, 21, 22, 23, 24, 25, 26, 27, 28, 29, 30, 31, 32] (fun st : Nat × Sp => [(4, .int .i64 (st.1 : Int))]) (fun st => (b3, Blk 31 [.int .i64 st.2.1, .int .i64 st.2.2]) :: (b2, Blk 31 [.int .i64 0, .int .i64 0]) :: L) (fun st => st.1 ≤ row.length ∧ st.2 = (row.take st.1).foldl mmF (x0, x0)) (fun st => row.length - st.1) (0, (x0, x0)) (.cons rfl .nil) (by repeat (first | exact Wk.refl _ | apply Wk.keep1 | apply Wk.drop | apply Wk.sv | apply Wk.svD | apply Wk.appD)) ⟨Nat.zero_le _, rfl⟩ ?_
  rintro ⟨k, s⟩ j ⟨hk, hs⟩
  dsimp only at hk hs ⊢
  by_cases hlt : k < row.length
  · obtain ⟨x, hx⟩ : ∃ x, row[k] = x := ⟨_, rfl⟩
    have hrk := hrd k x (by rw [List.getElem?_eq_getElem hlt, hx])
    repeat' (first | (refine GiP ?_; first | (refine Znh ?_) | (with_reducible refine Znl ?_) | (refine Zatn ?_; refine Zst ?_)) | (refine GiW ?_; first | (refine Zsq fun K hK => ?_) | (refine ZrN 3 fun _ => ?_; refine Zv Zmi ?_; refine Zv Zmv ?_; refine Zv Zxlen ?_; refine Zv Zylss ?_) | (refine ZrN 4 fun _ => ?_; refine Zv Zmi ?_; refine Zv Zxadd ?_; refine Zv Zai ?_) | (refine WP_cond_true rfl ?_) | (refine WP_cond_false rfl ?_) | (refine Zcd (fun hc => ?_) (fun hc => ?_) <;> (try (exfalso; omega))) | (with_reducible apply WP_skip) | (with_reducible apply WP_block) | (with_reducible apply WP_exit) | (with_reducible apply WP_ret) | (refine WP_drawn (id := 5) [0, 1, 2, 3, 4, 5, 6, 7, 8, 9, 10, 11, 12, 13, 14] [] (k := 1) prog_mixed (by kernel_rfl) rfl ?_; refine Zew rfl Zf0 ?_; (first | (refine Zew rfl (Val_loadD1 rfl (RdX.rd (RdX.sub hrk (by repeat (first | exact Sub.nil | exact Sub.refl _ | assumption | exact Sub.left | apply Sub.svK | apply Sub.sv | apply Sub.cons | apply Sub.app))))) ?_) | (refine Zew rfl Zld ?_)); refine Zew rfl Zmv ?_; refine Zew rfl Zmi ?_; refine Zew rfl Zia ?_; (first | (refine Zew rfl (Val_loadD1 rfl (RdX.rd (RdX.sub hrk (by repeat (first | exact Sub.nil | exact Sub.refl _ | assumption | exact Sub.left | apply Sub.svK | apply Sub.sv | apply Sub.cons | apply Sub.app))))) ?_) | (refine Zew rfl Zld ?_)); refine Zew rfl Zxmin ?_; refine Zew rfl Zfa ?_; (first | (refine Zew rfl (Val_loadD1 rfl (RdX.rd (RdX.sub hrk (by repeat (first | exact Sub.nil | exact Sub.refl _ | assumption | exact Sub.left | apply Sub.svK | apply Sub.sv | apply Sub.cons | apply Sub.app))))) ?_) | (refine Zew rfl Zld ?_)); refine Zew rfl Zmv ?_; refine Zew rfl Zmi ?_; refine Zew rfl Zia ?_; (first | (refine Zew rfl (Val_loadD1 rfl (RdX.rd (RdX.sub hrk (by repeat (first | exact Sub.nil | exact Sub.refl _ | assumption | exact Sub.left | apply Sub.svK | apply Sub.sv | apply Sub.cons | apply Sub.app))))) ?_) | (refine Zew rfl Zld ?_)); refine Zew rfl Zxmax ?_; refine Zew rfl Zxbu ?_)) | (with_reducible apply EWalk_nil) | (refine GiO ?_; first | (refine AnyO_done (by kernel_rfl) ?_; (try with_reducible apply noP_normal); try with_reducible exact key.out) | (refine AnyO_1 15 (by decide +kernel) rfl ?_)) | (refine Zhn ?_) | (with_reducible apply QBlock_normal) | (refine Zhx ?_) | (with_reducible apply QBlock_hit) | (refine Zqb ?_) | (with_reducible apply QLoop_exit) | (refine Zhr ?_) | (with_reducible apply QBlock_ret) | (with_reducible apply QLoop_ret) | (refine AWalk_0 ?_; refine ZisO ?_; apply shr; intro key) | (with_reducible apply QAny_normal))
    exact QLoop_normal (k + 1, mmF s x) (.cons rfl .nil) (by repeat (first | exact Off.frame rfl | exact Off.refl _ _ | refine Off.frameT rfl rfl ?_ | refine Off.upd rfl ?_ | refine Off.updO rfl ?_)) (by repeat (first | exact Wk.refl _ | apply Wk.keep1 | apply Wk.drop | apply Wk.sv | apply Wk.svD | apply Wk.appD)) ⟨by dsimp only; omega, by dsimp only; rw [foldl_snoc hlt, ← hs, hx]⟩ (by dsimp only; omega)
  · have hkn : k = row.length := by omega
    have hs' : s = hullL row := by rw [hs, hkn, List.take_length, hfin]
    repeat' (first | (refine GiP ?_; first | (refine Znh ?_) | (with_reducible refine Znl ?_)) | (refine GiW ?_; first | (refine Zsq fun K hK => ?_) | (refine ZrN 3 fun _ => ?_; refine Zv Zmi ?_; refine Zv Zmv ?_; refine Zv Zxlen ?_; refine Zv Zylss ?_) | (refine ZrN 6 fun _ => ?_; refine Zv Zla ?_; refine Zst ?_) | (refine WP_cond_true rfl ?_) | (refine WP_cond_false rfl ?_) | (refine Zcd (fun hc => ?_) (fun hc => ?_) <;> (try (exfalso; omega))) | (with_reducible apply WP_skip) | (with_reducible apply WP_block) | (with_reducible apply WP_exit) | (with_reducible apply WP_ret)) | (refine Zhn ?_) | (with_reducible apply QBlock_normal) | (refine Zhx ?_) | (with_reducible apply QBlock_hit) | (refine Zqb ?_) | (with_reducible apply QLoop_exit) | (refine Zhr ?_) | (with_reducible apply QBlock_ret) | (with_reducible apply QLoop_ret))
    exact QBody_res rfl (.cellN rfl (by repeat (first | exact Mem.here | assumption | apply Mem.there | apply Mem.sv | apply Mem.app)) (.here (.cons (.cons .nil))) .nil) rfl ⟨by rw [hs']; rfl, (by repeat (first | exact Wk.refl _ | apply Wk.keep1 | apply Wk.drop | apply Wk.sv | apply Wk.svD | apply Wk.appD))⟩
set_option maxRecDepth 100000 in
set_option maxHeartbeats 4000000 in
theorem wetness55_ret (L : Hp) (g : Bg) (hA : HeapAt N w0 g) (hv : VH g.h) (v : Value) (l : List Tru) (hl : RdT L v l) (hne : 0 < l.length) (hsz : l.length ≤ 1000000) (hok : ∀ t ∈ l, TruOk g.h t) (i d : Nat) (hi : i < g.h.heaps.length) (hd : d < g.h.rains.length) :
    Ret Try.prog N w0 L 55 [heapV g, v, .int .i64 (i : Int), .int .i64 (d : Int)].toArray (.agg [.int .i64 (wetQ g.h l i d).1, .int .i64 (wetQ g.h l i d).2].toArray) := by
  obtain ⟨b, c, rfl, hrd⟩ := hl.opn hne
  obtain ⟨row, hrow⟩ : ∃ row, (l.map fun t => evnT g.h t i d) = row := ⟨_, rfl⟩
  have hrl : row.length = l.length := by rw [← hrow, List.length_map]
  have hq : wetQ g.h l i d = hullL row := by rw [← hrow]; rfl
  rw [hq]
  have hnh := hv.nh
  have hnr := hv.nr
  refine Ret.fgt ?_
  refine tri_of_WP Try.func55 rfl (n := 30) rfl (by simp) ?_
  unfold heapV hvL
  repeat' (first | (refine GiP ?_; first | (refine Znh ?_) | (with_reducible refine Znl ?_)) | (refine GiW ?_; first | (refine Zsq fun K hK => ?_) | (refine ZrN 0 fun _ => ?_; refine Zal 4 fun b4 => ?_; refine Zal 8 fun b8 => ?_) | (refine ZrN 1 fun _ => ?_; refine Zv Zav ?_) | (refine ZrN 2 fun _ => ?_; refine Zv Zai ?_) | (refine WP_cond_true rfl ?_) | (refine WP_cond_false rfl ?_) | (refine Zcd (fun hc => ?_) (fun hc => ?_) <;> (try (exfalso; omega))) | (with_reducible apply WP_skip) | (with_reducible apply WP_block) | (with_reducible apply WP_exit) | (with_reducible apply WP_ret)) | (refine Zhn ?_) | (with_reducible apply QBlock_normal) | (refine Zhx ?_) | (with_reducible apply QBlock_hit) | (refine Zqb ?_) | (with_reducible apply QLoop_exit) | (refine Zhr ?_) | (with_reducible apply QBlock_ret) | (with_reducible apply QLoop_ret))
  refine WP_loop [9, 10, 11, 12, 13, 14, 15, 16, 17, 18, 19, 20, 21, 22, 23, 24, 25, 26, 27] (fun st : Nat × Option (Nat × Nat) => [(10, .int .i64 (st.1 : Int)), (9, svV st.2 st.1)]) (fun st => svH 3 1 st.1 (intL (row.take st.1)) st.2 ((b8, Blk 31 [.int .i64 0, .int .i64 0]) :: (b4, Blk 27 (hvL g)) :: L)) (fun st => st.1 ≤ l.length ∧ svOk st.2 1 st.1 (intL (row.take st.1))) (fun st => l.length - st.1) (0, none) (.cons rfl (.cons rfl .nil)) (by repeat (first | exact Wk.refl _ | apply Wk.keep1 | apply Wk.drop | apply Wk.sv | apply Wk.svD | apply Wk.appD)) ⟨Nat.zero_le _, svOk_nil _⟩ ?_
  rintro ⟨k, s⟩ j ⟨hk, hs⟩
  dsimp only at hk hs ⊢
  unfold hvL
  by_cases hlt : k < l.length
  · obtain ⟨t, ht⟩ : ∃ t, l[k] = t := ⟨_, rfl⟩
    have htm : t ∈ l := by rw [← ht]; exact List.getElem_mem hlt
    obtain ⟨u, q, hu1, hq1, hu2, hq2⟩ := hrd k t (by rw [List.getElem?_eq_getElem hlt, ht])
    obtain ⟨Au, cu, rfl, hu3⟩ := hu2
    have hu2 : RdL L (.slice Au t.1.length cu) t.1 := ⟨Au, cu, rfl, hu3⟩
    obtain ⟨Aq, cq, rfl, hq3⟩ := hq2
    have hq2 : RdL L (.slice Aq t.2.length cq) t.2 := ⟨Aq, cq, rfl, hq3⟩
    have h93 := fun (L2 : Hp) (hk : Wk L2 L) => in93_ret N w0 L2 g hA hv t (hok t htm) _ _ (hu2.wk hk) (hq2.wk hk) i d hi hd
    have hkr : k < row.length := by omega
    have hnx := intL_take hkr
    have hre : row[k] = evnT g.h t i d := by
      have h1 : row[k]? = some (evnT g.h t i d) := by rw [← hrow, List.getElem?_map, List.getElem?_eq_getElem hlt, ht]; rfl
      rw [List.getElem?_eq_getElem hkr] at h1
      simpa using h1
    rw [hre] at hnx
    unfold heapV hvL at h93
    repeat' (first | (refine GiP ?_; first | (refine Znh ?_) | (with_reducible refine Znl ?_) | (refine Zatd 27 ?_; refine Zag (fun s27 hs27 => ?_)) | (refine Zatd 9 ?_; refine Zv Zav ?_)) | (refine GiW ?_; first | (refine Zsq fun K hK => ?_) | (refine ZrN 3 fun _ => ?_; refine Zv Zmi ?_; refine Zv Zmv ?_; refine Zv Zxlen ?_; refine Zv Zylss ?_) | (refine ZrN 4 fun _ => ?_; refine Zv Zmi ?_; refine Zv Zxadd ?_; refine Zv Zai ?_) | (refine WP_cond_true rfl ?_) | (refine WP_cond_false rfl ?_) | (refine Zcd (fun hc => ?_) (fun hc => ?_) <;> (try (exfalso; omega))) | (with_reducible apply WP_skip) | (with_reducible apply WP_block) | (with_reducible apply WP_exit) | (with_reducible apply WP_ret) | (refine WP_drawnS (id := 5) [] [0, 1, 2, 3, 4, 5, 6, 7, 8] [9] [] (k := 0) (k2 := 2) (by repeat (first | apply Sub.sv | apply Sub.keep | apply Sub.appK | exact Sub.refl _)) (by kernel_rfl) prog_mixed (by kernel_rfl) (by kernel_rfl) rfl ?_; refine Zew rfl Zmv ?_; (first | (refine Zew rfl (Val_loadDN rfl (rd2 hu1 hq1 (by repeat (first | exact Sub.nil | exact Sub.refl _ | assumption | exact Sub.left | apply Sub.svK | apply Sub.sv | apply Sub.cons | apply Sub.app))) rfl) ?_) | (refine Zew rfl Zla ?_)); refine Zew rfl Zmv ?_; refine Zew rfl Zmi ?_; refine Zew rfl Zia ?_; (first | (refine Zew rfl (Val_loadDN rfl (rd2 hu1 hq1 (by repeat (first | exact Sub.nil | exact Sub.refl _ | assumption | exact Sub.left | apply Sub.svK | apply Sub.sv | apply Sub.cons | apply Sub.app))) rfl) ?_) | (refine Zew rfl Zla ?_)); refine Zew rfl Zmi ?_; refine Zew rfl Zmi ?_; refine Zec rfl (Enters_fn rfl) (fun X => h93 _ (by repeat (first | exact Wk.refl _ | apply Wk.keep1 | apply Wk.drop | apply Wk.sv | apply Wk.svD | apply Wk.appD))) ?_)) | (with_reducible apply EWalk_nil) | (refine ZgC [0, 1, 2, 3, 4, 5, 6, 7, 8, 9] ?_; refine ZCl _ ?_) | (refine GiO ?_; first | (refine ZgO [0, 1, 2, 3, 4, 5, 6, 7, 8, 9] ?_; refine ZO1 _ 10 [0, 1, 2, 3, 4, 5, 6, 7, 8, 9, 10] ?_) | (refine ZgO [0, 1, 2, 3, 4, 5, 6, 7, 8, 9, 10] ?_; refine ZO1 _ 11 [0, 1, 2, 3, 4, 5, 6, 7, 8, 9, 10, 11] ?_) | (refine ZgO [0, 1, 2, 3, 4, 5, 6, 7, 8, 9, 10, 11] ?_; refine ZOd _ ?_; (try with_reducible apply noP_normal); (try with_reducible exact key.out))) | (refine Zhn ?_) | (with_reducible apply QBlock_normal) | (refine Zhx ?_) | (with_reducible apply QBlock_hit) | (refine Zqb ?_) | (with_reducible apply QLoop_exit) | (refine Zhr ?_) | (with_reducible apply QBlock_ret) | (with_reducible apply QLoop_ret) | (refine AWalk_1S (d := 26) rfl rfl rfl rfl blk_is (New_buildSliceR rfl rfl (by repeat (first | exact CellsR.nil | (apply CellsR.cA rfl) | (apply CellsR.c1S (by constructor) rfl))) rfl (by decide) rfl (by decide)) (fun b26 => ?_)) | (with_reducible apply QAny_normal) | (with_reducible apply QC_normal))
    exact QLoop_normal (k + 1, s27) (.cons rfl (.cons rfl .nil)) (by repeat (first | exact Off.frame rfl | exact Off.refl _ _ | refine Off.frameT rfl rfl ?_ | refine Off.upd rfl ?_ | refine Off.updO rfl ?_)) (by dsimp only; rw [hnx]; exact (by repeat (first | exact Wk.refl _ | apply Wk.keep1 | apply Wk.drop | apply Wk.sv | apply Wk.svD | apply Wk.appD))) ⟨by dsimp only; omega, by dsimp only; rw [hnx]; exact hs27⟩ (by dsimp only; omega)
  · have hkn : k = l.length := by omega
    subst hkn
    rw [List.take_of_length_le (by omega)] at hs ⊢
    have hR : RdL (svH 3 1 l.length (intL row) s []) (svV s l.length) row := by
      have := RdL.sv (E := 3) (s := s) (row := row) (L := []) (by rw [hrl]; exact hs)
      rw [hrl] at this
      exact this
    have h60 := fun (L2 Lt : Hp) (hk : Wk L2 (svH 3 1 l.length (intL row) s Lt)) => hull60_ret N w0 L2 _ row (hR.wk (hk.trans (Wk.sv (Wk.none_ Lt)))) (by omega) (by omega)
    repeat' (first | (refine GiP ?_; first | (refine Znh ?_) | (with_reducible refine Znl ?_)) | (refine GiW ?_; first | (refine Zsq fun K hK => ?_) | (refine ZrN 3 fun _ => ?_; refine Zv Zmi ?_; refine Zv Zmv ?_; refine Zv Zxlen ?_; refine Zv Zylss ?_) | (refine ZrN 6 fun _ => ?_; refine Zv Zmv ?_; refine Zcl (Enters_fn rfl) (h60 _ _ (by repeat (first | exact Wk.refl _ | apply Wk.keep1 | apply Wk.drop | apply Wk.sv | apply Wk.svD | apply Wk.appD))) ?_; refine Zst ?_) | (refine WP_cond_true rfl ?_) | (refine WP_cond_false rfl ?_) | (refine Zcd (fun hc => ?_) (fun hc => ?_) <;> (try (exfalso; omega))) | (with_reducible apply WP_skip) | (with_reducible apply WP_block) | (with_reducible apply WP_exit) | (with_reducible apply WP_ret)) | (refine Zhn ?_) | (with_reducible apply QBlock_normal) | (refine Zhx ?_) | (with_reducible apply QBlock_hit) | (refine Zqb ?_) | (with_reducible apply QLoop_exit) | (refine Zhr ?_) | (with_reducible apply QBlock_ret) | (with_reducible apply QLoop_ret))
    exact QBody_res rfl (.cellN rfl (by repeat (first | exact Mem.here | assumption | apply Mem.there | apply Mem.sv | apply Mem.app)) (.here (.cons (.cons .nil))) .nil) rfl ⟨rfl, (by repeat (first | exact Wk.refl _ | apply Wk.keep1 | apply Wk.drop | apply Wk.sv | apply Wk.svD | apply Wk.appD))⟩
end
end Go.Proofs.Ytlpahkmfjpjheaa
end

section
namespace Go.Proofs.Ytlpahkmfjpjheaa
open Go.RowKit
theorem truths_ok {h : Hv} (hv : VH h) {s : Nat} : ∀ t ∈ truthsL h s, TruOk h t := fun t ht => by
  obtain ⟨h1, h2, _⟩ := truthsL_mem.1 ht
  exact tru_ok hv h1 h2
theorem truths_le {h : Hv} (hv : VH h) (s : Nat) : (truthsL h s).length ≤ 216 * 4096 := by
  refine Nat.le_trans (List.length_filter_le _ _) ?_
  rw [allT_len]
  exact Nat.mul_le_mul (firsts_cnt hv).2 (rains_cnt hv).2
theorem evL_le {h : Hv} (hv : VH h) : evL h ≤ 31 := by
  have := Nat.pow_le_pow_right (show 0 < 2 by omega) hv.nl
  unfold evL; omega
attribute [local irreducible] AnyO AnyB QAny QB EWalk AWalk Ev WP OPS QThen QBlock QScope QLoop QBody Val New Turn Tri Enters PostA Blk Ro
attribute [local irreducible] AnyC QC
section
variable (N : Nat) (w0 : World)
theorem truths83_tri (L : Hp) (g : Bg) (hA : HeapAt N w0 g) (hv : VH g.h) : Tri Try.prog N w0 L 83 [heapV g].toArray fun x L2 => ∃ v, x = .returned v ∧ ∃ X, L2 = X ++ L ∧ RdT X v (truthsL g.h (evL g.h)) := by
  have hnl := hv.nl
  have h78 := fun L => every78_ret N w0 L g (by omega)
  have h79 := fun L => truths79_tri N w0 L g hA hv (evL g.h) (by have := evL_le hv; omega)
  refine Tri.fgt ?_
  refine tri_of_WP Try.func83 rfl (n := 7) rfl (by simp) ?_
  unfold heapV hvL at h78 h79 ⊢
  repeat' (first | (refine GiP ?_; first | (refine Znh ?_) | (with_reducible refine Znl ?_) | (refine Zatd 6 ?_; refine OPS_retKS (Enters_fn rfl) (h79 _) rfl rfl rfl (fun v6 L6 h6 => ?_); obtain ⟨X1, rfl, A1, c1, rfl, hX1⟩ := h6) | (refine Zatd 2 ?_; refine Zv Zav ?_)) | (refine GiW ?_; first | (refine Zsq fun K hK => ?_) | (refine ZrN 0 fun _ => ?_; refine Zal 1 fun b1 => ?_; refine Zv Zav ?_) | (with_reducible apply WP_ret) | (refine WP_drawnS (id := 1) [] [0, 1, 2] [] [] (k := 0) (k2 := 2) (by repeat (first | apply Sub.sv | apply Sub.keep | apply Sub.appK | exact Sub.refl _)) (by kernel_rfl) prog_mixed (by kernel_rfl) (by kernel_rfl) rfl ?_; refine Zew rfl Zla ?_; refine Zew rfl Zla ?_; refine Zec rfl (Enters_fn rfl) (fun X => h78 _) ?_)) | (with_reducible apply EWalk_nil) | (refine ZgC [0, 1, 2] ?_; refine ZCl _ ?_) | (refine GiO ?_; first | (refine ZgO [0, 1, 2] ?_; refine ZO1 _ 3 [0, 1, 2, 3] ?_) | (refine ZgO [0, 1, 2, 3] ?_; refine ZO1 _ 4 [0, 1, 2, 3, 4] ?_) | (refine ZgO [0, 1, 2, 3, 4] ?_; refine ZOd _ ?_; (try with_reducible apply noP_normal); (try with_reducible exact key.out))) | (refine Zhn ?_) | (refine Zhr ?_) | (refine AWalk_0 ?_) | (with_reducible apply QAny_normal) | (with_reducible apply QC_normal))
  all_goals exact QBody_ret1 rfl (rfl : _ = Value.slice _ _ _) ⟨X1 ++ L, (.appK X1 (.drop (.refl _))), _, rfl, X1, rfl, A1, c1, rfl, hX1⟩
/-- What is not known. -/
theorem known52_err (L : Hp) (g : Bg) (hA : HeapAt N w0 g) (h1 : g.h.heaps.length ≤ 1000000) (h2 : g.h.rains.length ≤ 1000000) (h3 : g.h.looks.length ≤ 1000000) (ok : Bool) (he : errE g.h ok ≠ 0) :
    Ret Try.prog N w0 L 52 [heapV g, .bool ok].toArray (.tuple [.slice none 0 0, .int .i64 (errE g.h ok)].toArray) := by
  have h77 := fun L => check77_ret N w0 L g hA h1 h2 h3 ok
  refine Ret.fgt ?_
  refine tri_of_WP Try.func52 rfl (n := 20) rfl (by simp) ?_
  by_cases hc : errC g.h ok = 0
  · have hvb : vB g.h = true := by
      unfold errC at hc
      cases hvb : vB g.h with
      | true => rfl
      | false => rw [hvb] at hc; simp at hc
    have hok : ok = true := by
      unfold errC at hc
      rw [hvb] at hc
      cases ok with
      | true => rfl
      | false => simp at hc
    have hv := VH_of hvb
    subst hok
    have h0 : toldL g.h = [] := by
      by_cases h0 : toldL g.h = []
      · exact h0
      · exact absurd (errE_ok hvb h0) he
    rw [errE_clash hvb h0]
    have hn : truthsL g.h (evL g.h) = [] := (truthsL_told hv).2 h0
    have h83 := fun L => truths83_tri N w0 L g hA hv
    rw [hn] at h83
    rw [hc] at h77
    unfold heapV hvL at h77 h83 ⊢
    repeat' (first | (refine GiP ?_; first | (refine Znh ?_) | (with_reducible refine Znl ?_)) | (refine GiW ?_; first | (refine Zsq fun K hK => ?_) | (refine ZrN 0 fun _ => ?_; refine Zal 2 fun b2 => ?_; refine Zv Zav ?_; refine Zv Zai ?_) | (refine ZrN 1 fun _ => ?_; refine Zv Zla ?_; refine Zv Zmb ?_; refine Zcl (Enters_fn rfl) (h77 _) ?_; refine Zv Zai ?_) | (refine ZrN 2 fun _ => ?_; refine Zv Zmi ?_; refine Zv Zyneq ?_) | (refine ZrN 3 fun _ => ?_; refine Zv Zmi ?_; refine Zv Zav ?_; refine Zv Zai ?_) | (refine ZrN 4 fun _ => ?_; refine Zv Zla ?_; refine OPS_retKS (Enters_fn rfl) (h83 _) rfl rfl rfl (fun v15 L15 h15 => ?_); obtain ⟨X1, rfl, A1, c1, rfl, hX1⟩ := h15; rw [List.length_nil]; refine Zv Zav ?_) | (refine ZrN 5 fun _ => ?_; refine Zv Zmv ?_; refine Zv Zxlen ?_; refine Zv Zyeql ?_) | (refine ZrN 6 fun _ => ?_; refine Zv Zav ?_; refine Zv Zai ?_) | (refine ZrN 7 fun _ => ?_; refine Zv Zmv ?_; refine Zv Zav ?_; refine Zv Zai ?_) | (refine WP_cond_true rfl ?_) | (refine WP_cond_false rfl ?_) | (refine Zcd (fun hc => ?_) (fun hc => ?_) <;> (try (exfalso; omega))) | (with_reducible apply WP_skip) | (with_reducible apply WP_ret)) | (refine Zhn ?_) | (refine Zhr ?_))
    exact QBody_res rfl (.tmp rfl (.tmp rfl .nil)) rfl ⟨rfl, (by repeat (first | exact Wk.refl _ | apply Wk.keep1 | apply Wk.drop | apply Wk.sv | apply Wk.svD | apply Wk.appD))⟩
  · have hce : errE g.h ok = errC g.h ok := by
      unfold errE errC at *
      split
      · rfl
      · split
        · rfl
        · rename_i a b; rw [if_neg a, if_neg b] at hc; exact absurd rfl hc
    rw [hce]
    obtain ⟨ec, hec⟩ : ∃ ec, errC g.h ok = ec := ⟨_, rfl⟩
    rw [hec] at h77 hc ⊢
    unfold heapV hvL at h77 ⊢
    repeat' (first | (refine GiP ?_; first | (refine Znh ?_) | (with_reducible refine Znl ?_)) | (refine GiW ?_; first | (refine Zsq fun K hK => ?_) | (refine ZrN 0 fun _ => ?_; refine Zal 2 fun b2 => ?_; refine Zv Zav ?_; refine Zv Zai ?_) | (refine ZrN 1 fun _ => ?_; refine Zv Zla ?_; refine Zv Zmb ?_; refine Zcl (Enters_fn rfl) (h77 _) ?_; refine Zv Zai ?_) | (refine ZrN 2 fun _ => ?_; refine Zv Zmi ?_; refine Zv Zyneq ?_) | (refine ZrN 3 fun _ => ?_; refine Zv Zmi ?_; refine Zv Zav ?_; refine Zv Zai ?_) | (refine WP_cond_true rfl ?_) | (refine WP_cond_false rfl ?_) | (refine Zcd (fun hc => ?_) (fun hc => ?_) <;> (try (exfalso; omega))) | (with_reducible apply WP_skip) | (with_reducible apply WP_ret)) | (refine Zhn ?_) | (refine Zhr ?_))
    exact QBody_res rfl (.tmp rfl (.tmp rfl .nil)) rfl ⟨rfl, (by repeat (first | exact Wk.refl _ | apply Wk.keep1 | apply Wk.drop | apply Wk.sv | apply Wk.svD | apply Wk.appD))⟩
theorem known52_ok (L : Hp) (g : Bg) (hA : HeapAt N w0 g) (hv : VH g.h) (h0 : toldL g.h ≠ []) :
    Tri Try.prog N w0 L 52 [heapV g, .bool true].toArray fun x L2 => ∃ v, x = .returned v ∧ ∃ b c X, v = .tuple [.slice (some ⟨b, 0, none⟩) (truthsL g.h (evL g.h)).length c, .int .i64 0].toArray ∧ L2 = X ++ L ∧ RdT X (.slice (some ⟨b, 0, none⟩) (truthsL g.h (evL g.h)).length c) (truthsL g.h (evL g.h)) := by
  have hnl := hv.nl
  have hnh := hv.nh
  have hnr := hv.nr
  have hvb := vB_of' hv
  have h77 := fun L => check77_ret N w0 L g hA (by omega) (by omega) (by omega) true
  rw [show errC g.h true = 0 by simp [errC, hvb]] at h77
  have h83 := fun L => truths83_tri N w0 L g hA hv
  have hne : truthsL g.h (evL g.h) ≠ [] := fun hh => h0 ((truthsL_told hv).1 hh)
  obtain ⟨l, hl⟩ : ∃ l, truthsL g.h (evL g.h) = l := ⟨_, rfl⟩
  rw [hl] at h83 hne ⊢
  have hpos : 0 < l.length := List.length_pos_iff.2 hne
  refine Tri.fgt ?_
  refine tri_of_WP Try.func52 rfl (n := 20) rfl (by simp) ?_
  unfold heapV hvL at h77 h83 ⊢
  repeat' (first | (refine GiP ?_; first | (refine Znh ?_) | (with_reducible refine Znl ?_)) | (refine GiW ?_; first | (refine Zsq fun K hK => ?_) | (refine ZrN 0 fun _ => ?_; refine Zal 2 fun b2 => ?_; refine Zv Zav ?_; refine Zv Zai ?_) | (refine ZrN 1 fun _ => ?_; refine Zv Zla ?_; refine Zv Zmb ?_; refine Zcl (Enters_fn rfl) (h77 _) ?_; refine Zv Zai ?_) | (refine ZrN 2 fun _ => ?_; refine Zv Zmi ?_; refine Zv Zyneq ?_) | (refine ZrN 3 fun _ => ?_; refine Zv Zmi ?_; refine Zv Zav ?_; refine Zv Zai ?_) | (refine ZrN 4 fun _ => ?_; refine Zv Zla ?_; refine OPS_retKS (Enters_fn rfl) (h83 _) rfl rfl rfl (fun v15 L15 h15 => ?_); obtain ⟨X1, rfl, hX1⟩ := h15; obtain ⟨b1, c1, rfl, _⟩ := hX1.opn hpos; refine Zv Zav ?_) | (refine ZrN 5 fun _ => ?_; refine Zv Zmv ?_; refine Zv Zxlen ?_; refine Zv Zyeql ?_) | (refine ZrN 6 fun _ => ?_; refine Zv Zav ?_; refine Zv Zai ?_) | (refine ZrN 7 fun _ => ?_; refine Zv Zmv ?_; refine Zv Zav ?_; refine Zv Zai ?_) | (refine WP_cond_true rfl ?_) | (refine WP_cond_false rfl ?_) | (refine Zcd (fun hc => ?_) (fun hc => ?_) <;> (try (exfalso; omega))) | (with_reducible apply WP_skip) | (with_reducible apply WP_ret)) | (refine Zhn ?_) | (refine Zhr ?_))
  exact QBody_res rfl (.tmp rfl (.tmp rfl .nil)) rfl ⟨X1 ++ L, (.appK X1 (.drop (.refl _))), _, rfl, b1, c1, X1, rfl, rfl, hX1⟩
end
end Go.Proofs.Ytlpahkmfjpjheaa
end

section
namespace Go.Proofs.Ytlpahkmfjpjheaa
open Go.RowKit
theorem Up.app {b : Nat} {φ φ' : Obj → Prop} {X L L' : Hp} (h : Up L b φ φ' L') : Up (X ++ L) b φ φ' (X ++ L') := by
  induction X with
  | nil => exact h
  | cons x X ih => exact .there ih
theorem errE_zero {h : Hv} {ok : Bool} (he : errE h ok = 0) : vB h = true ∧ ok = true ∧ toldL h ≠ [] := by
  unfold errE at he
  cases hvb : vB h with
  | false => rw [hvb] at he; simp at he
  | true =>
    rw [hvb] at he
    cases ok with
    | false => simp at he
    | true =>
      refine ⟨rfl, rfl, fun h0 => ?_⟩
      rw [h0] at he; simp at he
theorem within_nat {n : Int} {m : Nat} (h : within n 0 (m - 1) = true) : ∃ k : Nat, n = k ∧ k < m := by
  unfold within at h
  simp only [Bool.and_eq_true, decide_eq_true_eq] at h
  exact ⟨n.toNat, by omega, by omega⟩
theorem truths_pos {h : Hv} (hv : VH h) (h0 : toldL h ≠ []) : 0 < (truthsL h (evL h)).length := List.length_pos_iff.2 fun hh => h0 ((truthsL_told hv).1 hh)
attribute [local irreducible] AnyO AnyB QAny QB EWalk AWalk Ev WP OPS QThen QBlock QScope QLoop QBody Val New Turn Tri Enters PostA Blk Ro
attribute [local irreducible] AnyC QC
section
variable (N : Nat) (w0 : World)
theorem wet55_told (L : Hp) (g : Bg) (hA : HeapAt N w0 g) (hv : VH g.h) (h0 : toldL g.h ≠ []) (v : Value) (hl : RdT L v (truthsL g.h (evL g.h))) (i d : Nat) (hi : i < g.h.heaps.length) (hd : d < g.h.rains.length) :
    Ret Try.prog N w0 L 55 [heapV g, v, .int .i64 (i : Int), .int .i64 (d : Int)].toArray (.agg [.int .i64 (wetS g.h i d).1, .int .i64 (wetS g.h i d).2].toArray) := by
  have := wetness55_ret N w0 L g hA hv v _ hl (truths_pos hv h0) (by have := truths_le hv (evL g.h); omega) (truths_ok hv) i d hi hd
  rw [wetQ_ok hv h0 hi hd] at this
  exact this
set_option maxRecDepth 100000 in
set_option maxHeartbeats 4000000 in
theorem wet15_ret (L : Hp) (g : Bg) (hA : HeapAt N w0 g) (h1 : g.h.heaps.length ≤ 1000000) (h2 : g.h.rains.length ≤ 1000000) (h3 : g.h.looks.length ≤ 1000000) (heap day : Int) :
    Ret Try.prog N w0 L 15 [heapV g, .int .i64 heap, .int .i64 day].toArray (.tuple [.agg [.int .i64 (WetV g.h heap day).1, .int .i64 (WetV g.h heap day).2].toArray, .int .i64 (errE g.h (WetOk g.h heap day))].toArray) := by
  have h53 := fun L => heap53_ret N w0 L g heap h1
  have h54 := fun L => day54_ret N w0 L g day h2
  refine Ret.fgt ?_
  refine tri_of_WP Try.func15 rfl (n := 32) rfl (by simp) ?_
  by_cases he : errE g.h (WetOk g.h heap day) = 0
  · obtain ⟨hvb, hok, h0⟩ := errE_zero he
    have hv := VH_of hvb
    have hw : WetV g.h heap day = wetS g.h heap.toNat day.toNat := by unfold WetV; rw [if_pos he]
    rw [he, hw]
    unfold WetOk at hok
    rw [Bool.and_eq_true] at hok
    rw [hok.1] at h53
    rw [hok.2] at h54
    obtain ⟨i, rfl, hi⟩ := within_nat hok.1
    obtain ⟨d, rfl, hd⟩ := within_nat hok.2
    simp only [Int.toNat_natCast]
    have h52 := fun L => known52_ok N w0 L g hA hv h0
    have h55 := fun L v hl => wet55_told N w0 L g hA hv h0 v hl i d hi hd
    unfold heapV hvL at h52 h53 h54 h55 ⊢
    repeat' (first | (refine GiP ?_; first | (refine Znh ?_) | (with_reducible refine Znl ?_) | (refine Zatd 20 ?_; refine OPS_retKS (Enters_fn rfl) (h52 _) rfl rfl rfl (fun v20 L20 h20 => ?_); obtain ⟨b1, c1, X1, rfl, rfl, hX1⟩ := h20) | (refine Zatd 10 ?_; refine Zv Zmv ?_) | (refine Zatd 21 ?_; refine Zv Zxex ?_) | (refine Zatd 22 ?_; refine Zv Zxex ?_) | (refine Zatd 8 ?_; refine Zv Zav ?_) | (refine Zatd 9 ?_; refine Zv Zai ?_)) | (refine GiW ?_; first | (refine Zsq fun K hK => ?_) | (refine ZrN 0 fun _ => ?_; refine Zal 3 fun b3 => ?_; refine Zal 6 fun b6 => ?_; refine Zv Zai ?_) | (refine ZrN 2 fun _ => ?_; refine Zv Zmi ?_; refine Zv Zyneq ?_) | (refine ZrN 3 fun _ => ?_; refine Zv Zxbu ?_; refine Zv Zmi ?_; refine OPS_turnN (Turn_store rfl rfl (by repeat (first | exact Up.here | apply Up.there | apply Up.sv | apply Up.app)) rfl (.here (.cons (.cons .nil))) rfl rfl) rfl rfl ?_; refine Zv Zai ?_) | (refine ZrN 4 fun _ => ?_; refine Zv Zla ?_; refine Zv Zmv ?_; refine Zv Zmi ?_; refine Zv Zmi ?_; refine Zcl (Enters_fn rfl) (h55 _ _ (hX1.wk (by repeat (first | exact Wk.appR _ _ | apply Wk.drop | apply Wk.svD)))) ?_; refine OPS_turnN (Turn_store rfl rfl (by repeat (first | exact Up.here | apply Up.there | apply Up.sv | apply Up.app)) rfl (.here (.cons (.cons .nil))) rfl rfl) rfl rfl ?_; refine Zv Zai ?_) | (refine WP_cond_true rfl ?_) | (refine WP_cond_false rfl ?_) | (refine Zcd (fun hc => ?_) (fun hc => ?_) <;> (try (exfalso; omega))) | (with_reducible apply WP_skip) | (with_reducible apply WP_ret) | (refine WP_drawnS (id := 1) [] [0, 1, 2, 3, 4, 5, 6, 7, 8] [] [] (k := 0) (k2 := 6) (by repeat (first | apply Sub.sv | apply Sub.keep | apply Sub.appK | exact Sub.refl _)) (by kernel_rfl) prog_mixed (by kernel_rfl) (by kernel_rfl) rfl ?_; refine Zew rfl Zla ?_; refine Zew rfl Zla ?_; refine Zew rfl Zmi ?_; refine Zec rfl (Enters_fn rfl) (fun X => h53 _) ?_; refine Zew rfl Zmb ?_)) | (refine GiE ?_; first | (refine Zati 8 ?_; (first | (refine Zew rfl Zxpt ?_) | (refine Zew rfl Zxpf ?_))) | (refine Zati 5 ?_; refine Zew rfl Zla ?_) | (refine Zati 6 ?_; refine Zew rfl Zmi ?_) | (refine Zati 7 ?_; refine Zec rfl (Enters_fn rfl) (fun X => h54 _) ?_) | (refine Zes ?_) | (refine Zesp (fun hc => ?_) (fun hc => ?_) <;> (try (exfalso; omega))) | (with_reducible apply EWalk_nil)) | (refine ZgC [0, 1, 2, 3, 4, 5, 6, 7, 8] ?_; refine ZCl _ ?_) | (refine GiO ?_; first | (refine ZgO [0, 1, 2, 3, 4, 5, 6, 7, 8] ?_; refine ZO1 _ 9 [0, 1, 2, 3, 4, 5, 6, 7, 8, 9] ?_) | (refine ZgO [0, 1, 2, 3, 4, 5, 6, 7, 8, 9] ?_; refine ZO1 _ 10 [0, 1, 2, 3, 4, 5, 6, 7, 8, 9, 10] ?_) | (refine ZgO [0, 1, 2, 3, 4, 5, 6, 7, 8, 9, 10] ?_; refine ZO2 _ 11 [0, 1, 2, 3, 4, 5, 6, 7, 8, 9, 10, 11] 12 [0, 1, 2, 3, 4, 5, 6, 7, 8, 9, 10, 12] ?_ ?_) | (refine ZgO [0, 1, 2, 3, 4, 5, 6, 7, 8, 9, 10, 11] ?_; refine ZO2 _ 12 [0, 1, 2, 3, 4, 5, 6, 7, 8, 9, 10, 11, 12] 13 [0, 1, 2, 3, 4, 5, 6, 7, 8, 9, 10, 11, 13] ?_ ?_) | (refine ZgO [0, 1, 2, 3, 4, 5, 6, 7, 8, 9, 10, 11, 12] ?_; refine ZO1 _ 13 [0, 1, 2, 3, 4, 5, 6, 7, 8, 9, 10, 11, 12, 13] ?_) | (refine ZgO [0, 1, 2, 3, 4, 5, 6, 7, 8, 9, 10, 11, 12, 13] ?_; refine ZO1 _ 14 [0, 1, 2, 3, 4, 5, 6, 7, 8, 9, 10, 11, 12, 13, 14] ?_) | (refine ZgO [0, 1, 2, 3, 4, 5, 6, 7, 8, 9, 10, 11, 12, 13, 14] ?_; refine ZOd _ ?_; (try with_reducible apply noP_normal); (try with_reducible exact key.out)) | (refine ZgO [0, 1, 2, 3, 4, 5, 6, 7, 8, 9, 10, 11, 13] ?_; refine ZO1 _ 12 [0, 1, 2, 3, 4, 5, 6, 7, 8, 9, 10, 11, 12, 13] ?_) | (refine ZgO [0, 1, 2, 3, 4, 5, 6, 7, 8, 9, 10, 12] ?_; refine ZO1 _ 11 [0, 1, 2, 3, 4, 5, 6, 7, 8, 9, 10, 11, 12] ?_)) | (refine Zhn ?_) | (refine Zhr ?_) | (refine AWalk_0 ?_) | (with_reducible apply QAny_normal) | (with_reducible apply QC_normal))
    all_goals exact QBody_res rfl (.cellN rfl (by repeat (first | exact Mem.here | assumption | apply Mem.there | apply Mem.sv | apply Mem.app)) (.here (.cons (.cons .nil))) (.tmp rfl .nil)) rfl ⟨rfl, (by repeat (first | exact Wk.refl _ | apply Wk.keep1 | apply Wk.drop | apply Wk.sv | apply Wk.svD | apply Wk.appD))⟩
  · have hw : WetV g.h heap day = (0, 0) := by unfold WetV; rw [if_neg he]
    rw [hw]
    have h52 := fun L => known52_err N w0 L g hA h1 h2 h3 (WetOk g.h heap day) he
    obtain ⟨e, hee⟩ : ∃ e, errE g.h (WetOk g.h heap day) = e := ⟨_, rfl⟩
    rw [hee] at h52 he ⊢
    clear hee
    unfold WetOk at h52
    obtain ⟨b1, hb1⟩ : ∃ b, within heap 0 (g.h.heaps.length - 1) = b := ⟨_, rfl⟩
    obtain ⟨b2, hb2⟩ : ∃ b, within day 0 (g.h.rains.length - 1) = b := ⟨_, rfl⟩
    rw [hb1, hb2] at h52
    rw [hb1] at h53
    rw [hb2] at h54
    unfold heapV hvL at h52 h53 h54 ⊢
    cases b1 <;> cases b2
    all_goals simp only [Bool.and_true, Bool.and_false, Bool.false_and, Bool.true_and, Bool.and_self] at h52
    all_goals repeat' (first | (refine GiP ?_; first | (refine Znh ?_) | (with_reducible refine Znl ?_)) | (refine GiW ?_; first | (refine Zsq fun K hK => ?_) | (refine ZrN 0 fun _ => ?_; refine Zal 3 fun b3 => ?_; refine Zal 6 fun b6 => ?_; refine Zv Zai ?_) | (refine ZrN 2 fun _ => ?_; refine Zv Zmi ?_; refine Zv Zyneq ?_) | (refine ZrN 3 fun _ => ?_; refine Zv Zxbu ?_; refine Zv Zmi ?_; refine Zst ?_; refine Zv Zai ?_) | (refine WP_cond_true rfl ?_) | (refine WP_cond_false rfl ?_) | (refine Zcd (fun hc => ?_) (fun hc => ?_) <;> (try (exfalso; omega))) | (with_reducible apply WP_skip) | (with_reducible apply WP_ret) | (refine WP_drawnS (id := 1) [] [0, 1, 2, 3, 4, 5, 6, 7, 8, 9, 10, 11, 12, 13, 14] [] [] (k := 0) (k2 := 0) (by repeat (first | apply Sub.sv | apply Sub.keep | apply Sub.appK | exact Sub.refl _)) (by kernel_rfl) prog_mixed (by kernel_rfl) (by kernel_rfl) rfl ?_; refine Zew rfl Zla ?_; refine Zew rfl Zla ?_; refine Zew rfl Zmi ?_; refine Zec rfl (Enters_fn rfl) (fun X => h53 _) ?_; refine Zew rfl Zmb ?_)) | (refine GiE ?_; first | (refine Zati 8 ?_; (first | (refine Zew rfl Zxpt ?_) | (refine Zew rfl Zxpf ?_)); refine Zec rfl (Enters_fn rfl) (fun X => h52 _) ?_; refine Zew rfl Zmv ?_; refine Zew rfl Zxex ?_; refine Zew rfl Zxex ?_; refine Zew rfl Zav ?_; refine Zew rfl Zai ?_) | (refine Zati 5 ?_; refine Zew rfl Zla ?_) | (refine Zati 6 ?_; refine Zew rfl Zmi ?_) | (refine Zati 7 ?_; refine Zec rfl (Enters_fn rfl) (fun X => h54 _) ?_) | (refine Zes ?_) | (refine Zesp (fun hc => ?_) (fun hc => ?_) <;> (try (exfalso; omega))) | (with_reducible apply EWalk_nil)) | (refine ZgC [0, 1, 2, 3, 4, 5, 6, 7, 8, 9, 10, 11, 12, 13, 14] ?_; refine ZCd _ ?_) | (refine Zhn ?_) | (refine Zhr ?_) | (refine AWalk_0 ?_) | (with_reducible apply QC_normal))
    all_goals exact QBody_res rfl (.cellN rfl (by repeat (first | exact Mem.here | assumption | apply Mem.there | apply Mem.sv | apply Mem.app)) (.here (.cons (.cons .nil))) (.tmp rfl .nil)) rfl ⟨rfl, (by repeat (first | exact Wk.refl _ | apply Wk.keep1 | apply Wk.drop | apply Wk.sv | apply Wk.svD | apply Wk.appD))⟩
end
end Go.Proofs.Ytlpahkmfjpjheaa
end

section
namespace Go.Proofs.Ytlpahkmfjpjheaa
open Go.RowKit
structure KnSt where
  b : Nat
  c : Nat
  X : Hp
theorem rain_row {l : List Tru} {d k : Nat} (hk : k < l.length) : (l.map fun t => t.2.getD d 0)[k]? = some (l[k].2.getD d 0) := by
  rw [List.getElem?_map, List.getElem?_eq_getElem hk]; rfl
attribute [local irreducible] AnyO AnyB QAny QB EWalk AWalk Ev WP OPS QThen QBlock QScope QLoop QBody Val New Turn Tri Enters PostA Blk Ro
attribute [local irreducible] AnyC QC
section
variable (N : Nat) (w0 : World)
set_option maxRecDepth 100000 in
set_option maxHeartbeats 4000000 in
theorem rain17_ret (L : Hp) (g : Bg) (hA : HeapAt N w0 g) (h1 : g.h.heaps.length ≤ 1000000) (h2 : g.h.rains.length ≤ 1000000) (h3 : g.h.looks.length ≤ 1000000) (day : Int) :
    Ret Try.prog N w0 L 17 [heapV g, .int .i64 day].toArray (.tuple [.agg [.int .i64 (RainV g.h day).1, .int .i64 (RainV g.h day).2].toArray, .int .i64 (errE g.h (DayOk g.h day))].toArray) := by
  have h54 := fun L => day54_ret N w0 L g day h2
  refine Ret.fgt ?_
  refine tri_of_WP Try.func17 rfl (n := 41) rfl (by simp) ?_
  by_cases he : errE g.h (DayOk g.h day) = 0
  · obtain ⟨hvb, hok, h0⟩ := errE_zero he
    have hv := VH_of hvb
    have hw : RainV g.h day = rainS g.h day.toNat := by unfold RainV; rw [if_pos he]
    rw [he, hw]
    unfold DayOk at hok
    rw [hok] at h54
    obtain ⟨d, rfl, hd⟩ := within_nat hok
    simp only [Int.toNat_natCast]
    rw [← rainQ_ok hv h0 hd]
    have h52 := fun L => known52_ok N w0 L g hA hv h0
    have hpos := truths_pos hv h0
    have hsz : (truthsL g.h (evL g.h)).length ≤ 216 * 4096 := truths_le hv (evL g.h)
    have hok2 := truths_ok hv (s := evL g.h)
    obtain ⟨l, hl⟩ : ∃ l, truthsL g.h (evL g.h) = l := ⟨_, rfl⟩
    rw [hl] at h52 hpos hsz hok2 ⊢
    obtain ⟨row, hrow⟩ : ∃ row, (l.map fun t => t.2.getD d 0) = row := ⟨_, rfl⟩
    have hrl : row.length = l.length := by rw [← hrow, List.length_map]
    rw [show rainQ l d = hullL row by rw [← hrow]; rfl]
    unfold heapV hvL at h52 h54 ⊢
    repeat' (first | (refine GiP ?_; first | (refine Znh ?_) | (with_reducible refine Znl ?_)) | (refine GiW ?_; first | (refine Zsq fun K hK => ?_) | (refine ZrN 0 fun _ => ?_; refine Zal 2 fun b2 => ?_; refine Zal 4 fun b4 => ?_; refine Zv Zai ?_) | (refine WP_cond_true rfl ?_) | (refine WP_cond_false rfl ?_) | (refine Zcd (fun hc => ?_) (fun hc => ?_) <;> (try (exfalso; omega))) | (with_reducible apply WP_skip) | (with_reducible apply WP_block) | (with_reducible apply WP_exit) | (with_reducible apply WP_ret)) | (refine Zhn ?_) | (with_reducible apply QBlock_normal) | (refine Zhx ?_) | (with_reducible apply QBlock_hit) | (refine Zqb ?_) | (with_reducible apply QLoop_exit) | (refine Zhr ?_) | (with_reducible apply QBlock_ret) | (with_reducible apply QLoop_ret))
    refine WP_joinS (by assumption) [6, 7, 10, 11, 12, 13, 14, 15, 16, 17] (fun p : KnSt => [(6, .slice (some ⟨p.b, 0, none⟩) l.length p.c), (7, .int .i64 0)]) (fun p => p.X ++ ((b4, Blk 31 [.int .i64 0, .int .i64 0]) :: (b2, Blk 27 (hvL g)) :: L)) (fun p => RdT p.X (.slice (some ⟨p.b, 0, none⟩) l.length p.c) l) ?_ ?_
    · intro K' hC
      unfold hvL at hC
      repeat' (first | (refine GiP ?_; first | (refine Znh ?_) | (with_reducible refine Znl ?_) | (refine Zatd 15 ?_; refine OPS_retKS (Enters_fn rfl) (h52 _) rfl rfl rfl (fun v15 L15 h15 => ?_); obtain ⟨b1, c1, X1, rfl, rfl, hX1⟩ := h15) | (refine Zatd 10 ?_; refine Zv Zmv ?_) | (refine Zatd 16 ?_; refine Zv Zxex ?_) | (refine Zatd 17 ?_; refine Zv Zxex ?_) | (refine Zatd 6 ?_; refine Zv Zav ?_) | (refine Zatd 7 ?_; refine Zv Zai ?_)) | (refine GiW ?_; first | (refine Zsq fun K hK => ?_) | (refine WP_cond_true rfl ?_) | (refine WP_cond_false rfl ?_) | (refine Zcd (fun hc => ?_) (fun hc => ?_) <;> (try (exfalso; omega))) | (with_reducible apply WP_skip) | (with_reducible apply WP_block) | (with_reducible apply WP_exit) | (with_reducible apply WP_ret) | (refine WP_drawnS (id := 1) [] [0, 1, 2, 3] [] [] (k := 0) (k2 := 6) (by repeat (first | apply Sub.sv | apply Sub.keep | apply Sub.appK | exact Sub.refl _)) (by kernel_rfl) prog_mixed (by kernel_rfl) (by kernel_rfl) rfl ?_; refine Zew rfl Zla ?_; refine Zew rfl Zla ?_; refine Zew rfl Zmi ?_; refine Zec rfl (Enters_fn rfl) (fun X => h54 _) ?_)) | (with_reducible apply EWalk_nil) | (refine ZgC [0, 1, 2, 3] ?_; refine ZCl _ ?_) | (refine GiO ?_; first | (refine ZgO [0, 1, 2, 3] ?_; refine ZO1 _ 4 [0, 1, 2, 3, 4] ?_) | (refine ZgO [0, 1, 2, 3, 4] ?_; refine ZO1 _ 5 [0, 1, 2, 3, 4, 5] ?_) | (refine ZgO [0, 1, 2, 3, 4, 5] ?_; refine ZO2 _ 6 [0, 1, 2, 3, 4, 5, 6] 7 [0, 1, 2, 3, 4, 5, 7] ?_ ?_) | (refine ZgO [0, 1, 2, 3, 4, 5, 6] ?_; refine ZO2 _ 7 [0, 1, 2, 3, 4, 5, 6, 7] 8 [0, 1, 2, 3, 4, 5, 6, 8] ?_ ?_) | (refine ZgO [0, 1, 2, 3, 4, 5, 6, 7] ?_; refine ZO1 _ 8 [0, 1, 2, 3, 4, 5, 6, 7, 8] ?_) | (refine ZgO [0, 1, 2, 3, 4, 5, 6, 7, 8] ?_; refine ZO1 _ 9 [0, 1, 2, 3, 4, 5, 6, 7, 8, 9] ?_) | (refine ZgO [0, 1, 2, 3, 4, 5, 6, 7, 8, 9] ?_; refine ZOd _ ?_; (try with_reducible apply noP_normal); (try with_reducible exact key.out)) | (refine ZgO [0, 1, 2, 3, 4, 5, 6, 8] ?_; refine ZO1 _ 7 [0, 1, 2, 3, 4, 5, 6, 7, 8] ?_) | (refine ZgO [0, 1, 2, 3, 4, 5, 7] ?_; refine ZO1 _ 6 [0, 1, 2, 3, 4, 5, 6, 7] ?_)) | (refine Zhn ?_) | (with_reducible apply QBlock_normal) | (refine Zhx ?_) | (with_reducible apply QBlock_hit) | (refine Zqb ?_) | (with_reducible apply QLoop_exit) | (refine Zhr ?_) | (with_reducible apply QBlock_ret) | (with_reducible apply QLoop_ret) | (refine AWalk_0 ?_) | (with_reducible apply QAny_normal) | (with_reducible apply QC_normal))
      all_goals exact hC.nor ⟨b1, c1, X1⟩ _ _ (.cons rfl (.cons rfl .nil)) (by repeat (first | exact Off.frame rfl | exact Off.refl _ _ | refine Off.frameT rfl rfl ?_ | refine Off.upd rfl ?_ | refine Off.updO rfl ?_)) (Sub.appK (by repeat (first | exact Sub.refl _ | assumption | exact Sub.left | (with_reducible refine Sub.pick (by repeat (first | exact Pick.here | apply Pick.there)) ?_) | apply Sub.cons | apply Sub.sv | apply Sub.app))) hX1
    rintro ⟨b1, c1, X1⟩ j1 hX1
    dsimp only at hX1 ⊢
    unfold hvL
    obtain ⟨b1', c1', hbc, hrd⟩ := hX1.opn hpos
    simp only [Value.slice.injEq, Option.some.injEq, Addr.mk.injEq, and_true, true_and] at hbc
    obtain ⟨rfl, rfl⟩ := hbc
    repeat' (first | (refine GiP ?_; first | (refine Znh ?_) | (with_reducible refine Znl ?_)) | (refine GiW ?_; first | (refine Zsq fun K hK => ?_) | (refine ZrN 2 fun _ => ?_; refine Zv Zmi ?_; refine Zv Zyneq ?_) | (refine ZrN 4 fun _ => ?_; refine Zv Zav ?_) | (refine ZrN 5 fun _ => ?_; refine Zv Zai ?_) | (refine WP_cond_true rfl ?_) | (refine WP_cond_false rfl ?_) | (refine Zcd (fun hc => ?_) (fun hc => ?_) <;> (try (exfalso; omega))) | (with_reducible apply WP_skip) | (with_reducible apply WP_block) | (with_reducible apply WP_exit) | (with_reducible apply WP_ret)) | (refine Zhn ?_) | (with_reducible apply QBlock_normal) | (refine Zhx ?_) | (with_reducible apply QBlock_hit) | (refine Zqb ?_) | (with_reducible apply QLoop_exit) | (refine Zhr ?_) | (with_reducible apply QBlock_ret) | (with_reducible apply QLoop_ret))
    refine WP_loop [8, 9, 22, 23, 24, 25, 26, 27, 28, 29, 30, 31, 32, 33, 34, 35, 36, 37, 38] (fun st : Nat × Option (Nat × Nat) => [(9, .int .i64 (st.1 : Int)), (8, svV st.2 st.1)]) (fun st => svH 3 1 st.1 (intL (row.take st.1)) st.2 (X1 ++ ((b4, Blk 31 [.int .i64 0, .int .i64 0]) :: (b2, Blk 27 (hvL g)) :: L))) (fun st => st.1 ≤ l.length ∧ svOk st.2 1 st.1 (intL (row.take st.1))) (fun st => l.length - st.1) (0, none) (.cons rfl (.cons rfl .nil)) (by repeat (first | exact Wk.refl _ | apply Wk.keep1 | apply Wk.drop | apply Wk.sv | apply Wk.svD | apply Wk.appD)) ⟨Nat.zero_le _, svOk_nil _⟩ ?_
    rintro ⟨k, s⟩ j ⟨hk, hs⟩
    dsimp only at hk hs ⊢
    unfold hvL
    by_cases hlt : k < l.length
    · obtain ⟨t, ht⟩ : ∃ t, l[k] = t := ⟨_, rfl⟩
      have htk := hok2 t (by rw [← ht]; exact List.getElem_mem hlt)
      obtain ⟨u, q, hu1, hq1, hu2, hq2⟩ := hrd k t (by rw [List.getElem?_eq_getElem hlt, ht])
      have hnr := hv.nr
      obtain ⟨bq, cq, rfl, hq3⟩ := hq2.opn (by rw [htk.rl]; omega)
      have hdt : d < t.2.length := by rw [htk.rl]; exact hd
      have hq4 := hq3 d _ (getD_get hdt)
      have hkr : k < row.length := by omega
      have hnx := intL_take hkr
      have hre : row[k] = t.2.getD d 0 := by
        have h1 : row[k]? = some (t.2.getD d 0) := by rw [← hrow, rain_row hlt, ht]
        rw [List.getElem?_eq_getElem hkr] at h1
        simpa using h1
      rw [hre] at hnx
      repeat' (first | (refine GiP ?_; first | (refine Znh ?_) | (with_reducible refine Znl ?_)) | (refine GiW ?_; first | (refine Zsq fun K hK => ?_) | (refine ZrN 6 fun _ => ?_; refine Zv Zmi ?_; refine Zv Zmv ?_; refine Zv Zxlen ?_; refine Zv Zylss ?_) | (refine ZrN 8 fun _ => ?_; refine Zv Zmv ?_; refine Zv Zmv ?_; refine Zv Zmi ?_; refine Zv Zia ?_; refine Zv Zfa ?_; (first | (refine Zv (Val_loadD1 rfl (RdX.rd (RdX.sub hq1 (by repeat (first | exact Sub.nil | exact Sub.refl _ | assumption | exact Sub.left | apply Sub.svK | apply Sub.sv | apply Sub.cons | apply Sub.app))))) ?_) | (refine Zv (Val_loadD1 rfl (RdX.rd (RdX.sub hq4 (by repeat (first | exact Sub.nil | exact Sub.refl _ | assumption | exact Sub.left | apply Sub.svK | apply Sub.sv | apply Sub.cons | apply Sub.app))))) ?_) | (refine Zv Zld ?_)); refine Zv Zmi ?_; refine Zv Zia ?_; (first | (refine Zv (Val_loadD1 rfl (RdX.rd (RdX.sub hq1 (by repeat (first | exact Sub.nil | exact Sub.refl _ | assumption | exact Sub.left | apply Sub.svK | apply Sub.sv | apply Sub.cons | apply Sub.app))))) ?_) | (refine Zv (Val_loadD1 rfl (RdX.rd (RdX.sub hq4 (by repeat (first | exact Sub.nil | exact Sub.refl _ | assumption | exact Sub.left | apply Sub.svK | apply Sub.sv | apply Sub.cons | apply Sub.app))))) ?_) | (refine Zv Zld ?_)); refine Zal 37 fun b37 => ?_; refine Zag (fun s38 hs38 => ?_); refine Zv Zav ?_) | (refine ZrN 7 fun _ => ?_; refine Zv Zmi ?_; refine Zv Zxadd ?_; refine Zv Zai ?_) | (refine WP_cond_true rfl ?_) | (refine WP_cond_false rfl ?_) | (refine Zcd (fun hc => ?_) (fun hc => ?_) <;> (try (exfalso; omega))) | (with_reducible apply WP_skip) | (with_reducible apply WP_block) | (with_reducible apply WP_exit) | (with_reducible apply WP_ret)) | (refine Zhn ?_) | (with_reducible apply QBlock_normal) | (refine Zhx ?_) | (with_reducible apply QBlock_hit) | (refine Zqb ?_) | (with_reducible apply QLoop_exit) | (refine Zhr ?_) | (with_reducible apply QBlock_ret) | (with_reducible apply QLoop_ret))
      exact QLoop_normal (k + 1, s38) (.cons rfl (.cons rfl .nil)) (by repeat (first | exact Off.frame rfl | exact Off.refl _ _ | refine Off.frameT rfl rfl ?_ | refine Off.upd rfl ?_ | refine Off.updO rfl ?_)) (by dsimp only; rw [hnx]; exact (by repeat (first | exact Wk.refl _ | apply Wk.keep1 | apply Wk.drop | apply Wk.sv | apply Wk.svD | apply Wk.appD))) ⟨by dsimp only; omega, by dsimp only; rw [hnx]; exact hs38⟩ (by dsimp only; omega)
    · have hkn : k = l.length := by omega
      subst hkn
      rw [List.take_of_length_le (by omega)] at hs ⊢
      have hR : RdL (svH 3 1 l.length (intL row) s []) (svV s l.length) row := by
        have := RdL.sv (E := 3) (s := s) (row := row) (L := []) (by rw [hrl]; exact hs)
        rw [hrl] at this
        exact this
      have h60 := fun (L2 Lt : Hp) (hk : Wk L2 (svH 3 1 l.length (intL row) s Lt)) => hull60_ret N w0 L2 _ row (hR.wk (hk.trans (Wk.sv (Wk.none_ Lt)))) (by omega) (by omega)
      repeat' (first | (refine GiP ?_; first | (refine Znh ?_) | (with_reducible refine Znl ?_)) | (refine GiW ?_; first | (refine Zsq fun K hK => ?_) | (refine ZrN 6 fun _ => ?_; refine Zv Zmi ?_; refine Zv Zmv ?_; refine Zv Zxlen ?_; refine Zv Zylss ?_) | (refine ZrN 9 fun _ => ?_; refine Zv Zmv ?_; refine Zcl (Enters_fn rfl) (h60 _ _ (by repeat (first | exact Wk.refl _ | apply Wk.keep1 | apply Wk.drop | apply Wk.sv | apply Wk.svD | apply Wk.appD))) ?_; refine OPS_turnN (Turn_store rfl rfl (by repeat (first | exact Up.here | apply Up.there | apply Up.sv | apply Up.app)) rfl (.here (.cons (.cons .nil))) rfl rfl) rfl rfl ?_; refine Zv Zai ?_) | (refine WP_cond_true rfl ?_) | (refine WP_cond_false rfl ?_) | (refine Zcd (fun hc => ?_) (fun hc => ?_) <;> (try (exfalso; omega))) | (with_reducible apply WP_skip) | (with_reducible apply WP_block) | (with_reducible apply WP_exit) | (with_reducible apply WP_ret)) | (refine Zhn ?_) | (with_reducible apply QBlock_normal) | (refine Zhx ?_) | (with_reducible apply QBlock_hit) | (refine Zqb ?_) | (with_reducible apply QLoop_exit) | (refine Zhr ?_) | (with_reducible apply QBlock_ret) | (with_reducible apply QLoop_ret))
      exact QBody_res rfl (.cellN rfl (by repeat (first | exact Mem.here | assumption | apply Mem.there | apply Mem.sv | apply Mem.app)) (.here (.cons (.cons .nil))) (.tmp rfl .nil)) rfl ⟨rfl, (by repeat (first | exact Wk.refl _ | apply Wk.keep1 | apply Wk.drop | apply Wk.sv | apply Wk.svD | apply Wk.appD))⟩
  · have hw : RainV g.h day = (0, 0) := by unfold RainV; rw [if_neg he]
    rw [hw]
    have h52 := fun L => known52_err N w0 L g hA h1 h2 h3 (DayOk g.h day) he
    obtain ⟨e, hee⟩ : ∃ e, errE g.h (DayOk g.h day) = e := ⟨_, rfl⟩
    rw [hee] at h52 he ⊢
    clear hee
    unfold DayOk at h52
    obtain ⟨b2, hb2⟩ : ∃ b, within day 0 (g.h.rains.length - 1) = b := ⟨_, rfl⟩
    rw [hb2] at h52 h54
    unfold heapV hvL at h52 h54 ⊢
    repeat' (first | (refine GiP ?_; first | (refine Znh ?_) | (with_reducible refine Znl ?_)) | (refine GiW ?_; first | (refine Zsq fun K hK => ?_) | (refine ZrN 0 fun _ => ?_; refine Zal 2 fun b2 => ?_; refine Zal 4 fun b4 => ?_; refine Zv Zai ?_) | (refine ZrN 2 fun _ => ?_; refine Zv Zmi ?_; refine Zv Zyneq ?_) | (refine ZrN 3 fun _ => ?_; refine Zv Zxbu ?_; refine Zv Zmi ?_; refine Zst ?_; refine Zv Zai ?_) | (refine WP_cond_true rfl ?_) | (refine WP_cond_false rfl ?_) | (refine Zcd (fun hc => ?_) (fun hc => ?_) <;> (try (exfalso; omega))) | (with_reducible apply WP_skip) | (with_reducible apply WP_block) | (with_reducible apply WP_exit) | (with_reducible apply WP_ret) | (refine WP_drawnS (id := 1) [] [0, 1, 2, 3, 4, 5, 6, 7, 8, 9] [] [] (k := 0) (k2 := 0) (by repeat (first | apply Sub.sv | apply Sub.keep | apply Sub.appK | exact Sub.refl _)) (by kernel_rfl) prog_mixed (by kernel_rfl) (by kernel_rfl) rfl ?_; refine Zew rfl Zla ?_; refine Zew rfl Zla ?_; refine Zew rfl Zmi ?_; refine Zec rfl (Enters_fn rfl) (fun X => h54 _) ?_; refine Zec rfl (Enters_fn rfl) (fun X => h52 _) ?_; refine Zew rfl Zmv ?_; refine Zew rfl Zxex ?_; refine Zew rfl Zxex ?_; refine Zew rfl Zav ?_; refine Zew rfl Zai ?_)) | (with_reducible apply EWalk_nil) | (refine ZgC [0, 1, 2, 3, 4, 5, 6, 7, 8, 9] ?_; refine ZCd _ ?_) | (refine Zhn ?_) | (with_reducible apply QBlock_normal) | (refine Zhx ?_) | (with_reducible apply QBlock_hit) | (refine Zqb ?_) | (with_reducible apply QLoop_exit) | (refine Zhr ?_) | (with_reducible apply QBlock_ret) | (with_reducible apply QLoop_ret) | (refine AWalk_0 ?_) | (with_reducible apply QC_normal))
    all_goals exact QBody_res rfl (.cellN rfl (by repeat (first | exact Mem.here | assumption | apply Mem.there | apply Mem.sv | apply Mem.app)) (.here (.cons (.cons .nil))) (.tmp rfl .nil)) rfl ⟨rfl, (by repeat (first | exact Wk.refl _ | apply Wk.keep1 | apply Wk.drop | apply Wk.sv | apply Wk.svD | apply Wk.appD))⟩
set_option maxRecDepth 100000 in
set_option maxHeartbeats 4000000 in
theorem dry19_ret (L : Hp) (g : Bg) (hA : HeapAt N w0 g) (h1 : g.h.heaps.length ≤ 1000000) (h2 : g.h.rains.length ≤ 1000000) (h3 : g.h.looks.length ≤ 1000000) (heap day : Int) :
    Ret Try.prog N w0 L 19 [heapV g, .int .i64 heap, .int .i64 day].toArray (.tuple [.int .i64 (DryV g.h heap day), .int .i64 (errE g.h (WetOk g.h heap day))].toArray) := by
  have h53 := fun L => heap53_ret N w0 L g heap h1
  have h54 := fun L => day54_ret N w0 L g day h2
  refine Ret.fgt ?_
  refine tri_of_WP Try.func19 rfl (n := 42) rfl (by simp) ?_
  by_cases he : errE g.h (WetOk g.h heap day) = 0
  · obtain ⟨hvb, hok, h0⟩ := errE_zero he
    have hv := VH_of hvb
    have hw : DryV g.h heap day = if (wetS g.h heap.toNat day.toNat).2 ≤ g.h.limit then 2 else if (wetS g.h heap.toNat day.toNat).1 > g.h.limit then 0 else 1 := by unfold DryV; rw [if_pos he]
    rw [he, hw]
    unfold WetOk at hok
    rw [Bool.and_eq_true] at hok
    rw [hok.1] at h53
    rw [hok.2] at h54
    obtain ⟨i, rfl, hi⟩ := within_nat hok.1
    obtain ⟨d, rfl, hd⟩ := within_nat hok.2
    simp only [Int.toNat_natCast]
    have h52 := fun L => known52_ok N w0 L g hA hv h0
    have h55 := fun L v hl => wet55_told N w0 L g hA hv h0 v hl i d hi hd
    obtain ⟨⟨wl, wh⟩, hws⟩ : ∃ s : Sp, wetS g.h i d = s := ⟨_, rfl⟩
    obtain ⟨dv, hdv⟩ : ∃ dv : Int, (if (wetS g.h i d).2 ≤ g.h.limit then 2 else if (wetS g.h i d).1 > g.h.limit then 0 else 1) = dv := ⟨_, rfl⟩
    rw [hdv]
    rw [hws] at h55
    simp only [hws] at hdv
    dsimp only at h55 hdv
    obtain ⟨lim, hlim⟩ : ∃ x, g.h.limit = x := ⟨_, rfl⟩
    unfold heapV hvL at h52 h53 h54 h55 ⊢
    rw [hlim] at h52 h53 h54 h55 hdv ⊢
    repeat' (first | (refine GiP ?_; first | (refine Znh ?_) | (with_reducible refine Znl ?_)) | (refine GiW ?_; first | (refine Zsq fun K hK => ?_) | (refine ZrN 0 fun _ => ?_; refine Zal 3 fun b3 => ?_; refine Zv Zai ?_; refine Zv Zai ?_) | (refine WP_cond_true rfl ?_) | (refine WP_cond_false rfl ?_) | (refine Zcd (fun hc => ?_) (fun hc => ?_) <;> (try (exfalso; omega))) | (with_reducible apply WP_skip) | (with_reducible apply WP_ret)) | (refine Zhn ?_) | (refine Zhr ?_))
    refine WP_joinS (by assumption) [8, 9, 11, 12, 13, 14, 15, 16, 17, 18, 19, 20, 21, 22, 23] (fun p : KnSt => [(8, .slice (some ⟨p.b, 0, none⟩) (truthsL g.h (evL g.h)).length p.c), (9, .int .i64 0)]) (fun p => p.X ++ ((b3, Blk 27 [.slice g.A1 g.h.heaps.length g.c1, .slice g.A2 g.h.rains.length g.c2, .int .i64 g.h.d0, .int .i64 g.h.d1, .int .i64 g.h.d2, .int .i64 lim, .slice g.A3 g.h.looks.length g.c3]) :: L)) (fun p => RdT p.X (.slice (some ⟨p.b, 0, none⟩) (truthsL g.h (evL g.h)).length p.c) (truthsL g.h (evL g.h))) ?_ ?_
    · intro K' hC
      repeat' (first | (refine GiP ?_; first | (refine Znh ?_) | (with_reducible refine Znl ?_) | (refine Zatd 21 ?_; refine OPS_retKS (Enters_fn rfl) (h52 _) rfl rfl rfl (fun v21 L21 h21 => ?_); obtain ⟨b1, c1, X1, rfl, rfl, hX1⟩ := h21) | (refine Zatd 11 ?_; refine Zv Zmv ?_) | (refine Zatd 22 ?_; refine Zv Zxex ?_) | (refine Zatd 23 ?_; refine Zv Zxex ?_) | (refine Zatd 8 ?_; refine Zv Zav ?_) | (refine Zatd 9 ?_; refine Zv Zai ?_)) | (refine GiW ?_; first | (refine Zsq fun K hK => ?_) | (refine WP_cond_true rfl ?_) | (refine WP_cond_false rfl ?_) | (refine Zcd (fun hc => ?_) (fun hc => ?_) <;> (try (exfalso; omega))) | (with_reducible apply WP_skip) | (with_reducible apply WP_ret) | (refine WP_drawnS (id := 1) [] [0, 1, 2, 3, 4, 5, 6, 7, 8] [] [] (k := 0) (k2 := 6) (by repeat (first | apply Sub.sv | apply Sub.keep | apply Sub.appK | exact Sub.refl _)) (by kernel_rfl) prog_mixed (by kernel_rfl) (by kernel_rfl) rfl ?_; refine Zew rfl Zla ?_; refine Zew rfl Zla ?_; refine Zew rfl Zmi ?_; refine Zec rfl (Enters_fn rfl) (fun X => h53 _) ?_; refine Zew rfl Zmb ?_)) | (refine GiE ?_; first | (refine Zati 8 ?_; (first | (refine Zew rfl Zxpt ?_) | (refine Zew rfl Zxpf ?_))) | (refine Zati 5 ?_; refine Zew rfl Zla ?_) | (refine Zati 6 ?_; refine Zew rfl Zmi ?_) | (refine Zati 7 ?_; refine Zec rfl (Enters_fn rfl) (fun X => h54 _) ?_) | (refine Zes ?_) | (refine Zesp (fun hc => ?_) (fun hc => ?_) <;> (try (exfalso; omega))) | (with_reducible apply EWalk_nil)) | (refine ZgC [0, 1, 2, 3, 4, 5, 6, 7, 8] ?_; refine ZCl _ ?_) | (refine GiO ?_; first | (refine ZgO [0, 1, 2, 3, 4, 5, 6, 7, 8] ?_; refine ZO1 _ 9 [0, 1, 2, 3, 4, 5, 6, 7, 8, 9] ?_) | (refine ZgO [0, 1, 2, 3, 4, 5, 6, 7, 8, 9] ?_; refine ZO1 _ 10 [0, 1, 2, 3, 4, 5, 6, 7, 8, 9, 10] ?_) | (refine ZgO [0, 1, 2, 3, 4, 5, 6, 7, 8, 9, 10] ?_; refine ZO2 _ 11 [0, 1, 2, 3, 4, 5, 6, 7, 8, 9, 10, 11] 12 [0, 1, 2, 3, 4, 5, 6, 7, 8, 9, 10, 12] ?_ ?_) | (refine ZgO [0, 1, 2, 3, 4, 5, 6, 7, 8, 9, 10, 11] ?_; refine ZO2 _ 12 [0, 1, 2, 3, 4, 5, 6, 7, 8, 9, 10, 11, 12] 13 [0, 1, 2, 3, 4, 5, 6, 7, 8, 9, 10, 11, 13] ?_ ?_) | (refine ZgO [0, 1, 2, 3, 4, 5, 6, 7, 8, 9, 10, 11, 12] ?_; refine ZO1 _ 13 [0, 1, 2, 3, 4, 5, 6, 7, 8, 9, 10, 11, 12, 13] ?_) | (refine ZgO [0, 1, 2, 3, 4, 5, 6, 7, 8, 9, 10, 11, 12, 13] ?_; refine ZO1 _ 14 [0, 1, 2, 3, 4, 5, 6, 7, 8, 9, 10, 11, 12, 13, 14] ?_) | (refine ZgO [0, 1, 2, 3, 4, 5, 6, 7, 8, 9, 10, 11, 12, 13, 14] ?_; refine ZOd _ ?_; (try with_reducible apply noP_normal); (try with_reducible exact key.out)) | (refine ZgO [0, 1, 2, 3, 4, 5, 6, 7, 8, 9, 10, 11, 13] ?_; refine ZO1 _ 12 [0, 1, 2, 3, 4, 5, 6, 7, 8, 9, 10, 11, 12, 13] ?_) | (refine ZgO [0, 1, 2, 3, 4, 5, 6, 7, 8, 9, 10, 12] ?_; refine ZO1 _ 11 [0, 1, 2, 3, 4, 5, 6, 7, 8, 9, 10, 11, 12] ?_)) | (refine Zhn ?_) | (refine Zhr ?_) | (refine AWalk_0 ?_) | (with_reducible apply QAny_normal) | (with_reducible apply QC_normal))
      all_goals exact hC.nor ⟨b1, c1, X1⟩ _ _ (.cons rfl (.cons rfl .nil)) (by repeat (first | exact Off.frame rfl | exact Off.refl _ _ | refine Off.frameT rfl rfl ?_ | refine Off.upd rfl ?_ | refine Off.updO rfl ?_)) (Sub.appK (by repeat (first | exact Sub.refl _ | assumption | exact Sub.left | (with_reducible refine Sub.pick (by repeat (first | exact Pick.here | apply Pick.there)) ?_) | apply Sub.cons | apply Sub.sv | apply Sub.app))) hX1
    rintro ⟨b1, c1, X1⟩ j1 hX1
    dsimp only at hX1 ⊢
    by_cases hc1 : wh ≤ lim
    · rw [if_pos hc1] at hdv; subst hdv
      repeat' (first | (refine GiP ?_; first | (refine Znh ?_) | (with_reducible refine Znl ?_)) | (refine GiW ?_; first | (refine Zsq fun K hK => ?_) | (refine ZrN 2 fun _ => ?_; refine Zv Zmi ?_; refine Zv Zyneq ?_) | (refine ZrN 4 fun _ => ?_; refine Zv Zla ?_; refine Zv Zmv ?_; refine Zv Zmi ?_; refine Zv Zmi ?_; refine Zcl (Enters_fn rfl) (h55 _ _ (hX1.wk (Wk.appR _ _))) ?_; refine Zal 10 fun b10 => ?_; refine Zst ?_) | (refine ZrN 5 fun _ => ?_; refine Zv Zfa ?_; refine Zv Zld ?_; refine Zv Zfa ?_; refine Zv Zld ?_; refine Zv Zyleq ?_) | (refine ZrN 6 fun _ => ?_; refine Zv Zai ?_; refine Zv Zai ?_) | (refine WP_cond_true rfl ?_) | (refine WP_cond_false rfl ?_) | (refine Zcd (fun hc => ?_) (fun hc => ?_) <;> (try (exfalso; omega))) | (with_reducible apply WP_skip) | (with_reducible apply WP_ret)) | (refine Zhn ?_) | (refine Zhr ?_))
      exact QBody_res rfl (.tmp rfl (.tmp rfl .nil)) rfl ⟨rfl, (by repeat (first | exact Wk.refl _ | apply Wk.keep1 | apply Wk.drop | apply Wk.sv | apply Wk.svD | apply Wk.appD))⟩
    · rw [if_neg hc1] at hdv
      by_cases hc2 : wl > lim
      · rw [if_pos hc2] at hdv; subst hdv
        repeat' (first | (refine GiP ?_; first | (refine Znh ?_) | (with_reducible refine Znl ?_)) | (refine GiW ?_; first | (refine Zsq fun K hK => ?_) | (refine ZrN 2 fun _ => ?_; refine Zv Zmi ?_; refine Zv Zyneq ?_) | (refine ZrN 4 fun _ => ?_; refine Zv Zla ?_; refine Zv Zmv ?_; refine Zv Zmi ?_; refine Zv Zmi ?_; refine Zcl (Enters_fn rfl) (h55 _ _ (hX1.wk (Wk.appR _ _))) ?_; refine Zal 10 fun b10 => ?_; refine Zst ?_) | (refine ZrN 5 fun _ => ?_; refine Zv Zfa ?_; refine Zv Zld ?_; refine Zv Zfa ?_; refine Zv Zld ?_; refine Zv Zyleq ?_) | (refine ZrN 7 fun _ => ?_; refine Zv Zf0 ?_; refine Zv Zld ?_; refine Zv Zfa ?_; refine Zv Zld ?_; refine Zv Zygtr ?_) | (refine ZrN 8 fun _ => ?_; refine Zv Zai ?_; refine Zv Zai ?_) | (refine WP_cond_true rfl ?_) | (refine WP_cond_false rfl ?_) | (refine Zcd (fun hc => ?_) (fun hc => ?_) <;> (try (exfalso; omega))) | (with_reducible apply WP_skip) | (with_reducible apply WP_ret)) | (refine Zhn ?_) | (refine Zhr ?_))
        exact QBody_res rfl (.tmp rfl (.tmp rfl .nil)) rfl ⟨rfl, (by repeat (first | exact Wk.refl _ | apply Wk.keep1 | apply Wk.drop | apply Wk.sv | apply Wk.svD | apply Wk.appD))⟩
      · rw [if_neg hc2] at hdv; subst hdv
        repeat' (first | (refine GiP ?_; first | (refine Znh ?_) | (with_reducible refine Znl ?_)) | (refine GiW ?_; first | (refine Zsq fun K hK => ?_) | (refine ZrN 2 fun _ => ?_; refine Zv Zmi ?_; refine Zv Zyneq ?_) | (refine ZrN 4 fun _ => ?_; refine Zv Zla ?_; refine Zv Zmv ?_; refine Zv Zmi ?_; refine Zv Zmi ?_; refine Zcl (Enters_fn rfl) (h55 _ _ (hX1.wk (Wk.appR _ _))) ?_; refine Zal 10 fun b10 => ?_; refine Zst ?_) | (refine ZrN 5 fun _ => ?_; refine Zv Zfa ?_; refine Zv Zld ?_; refine Zv Zfa ?_; refine Zv Zld ?_; refine Zv Zyleq ?_) | (refine ZrN 7 fun _ => ?_; refine Zv Zf0 ?_; refine Zv Zld ?_; refine Zv Zfa ?_; refine Zv Zld ?_; refine Zv Zygtr ?_) | (refine ZrN 9 fun _ => ?_; refine Zv Zai ?_; refine Zv Zai ?_) | (refine WP_cond_true rfl ?_) | (refine WP_cond_false rfl ?_) | (refine Zcd (fun hc => ?_) (fun hc => ?_) <;> (try (exfalso; omega))) | (with_reducible apply WP_skip) | (with_reducible apply WP_ret)) | (refine Zhn ?_) | (refine Zhr ?_))
        exact QBody_res rfl (.tmp rfl (.tmp rfl .nil)) rfl ⟨rfl, (by repeat (first | exact Wk.refl _ | apply Wk.keep1 | apply Wk.drop | apply Wk.sv | apply Wk.svD | apply Wk.appD))⟩
  · have hw : DryV g.h heap day = 0 := by unfold DryV; rw [if_neg he]
    rw [hw]
    have h52 := fun L => known52_err N w0 L g hA h1 h2 h3 (WetOk g.h heap day) he
    obtain ⟨e, hee⟩ : ∃ e, errE g.h (WetOk g.h heap day) = e := ⟨_, rfl⟩
    rw [hee] at h52 he ⊢
    clear hee
    unfold WetOk at h52
    obtain ⟨b1, hb1⟩ : ∃ b, within heap 0 (g.h.heaps.length - 1) = b := ⟨_, rfl⟩
    obtain ⟨b2, hb2⟩ : ∃ b, within day 0 (g.h.rains.length - 1) = b := ⟨_, rfl⟩
    rw [hb1, hb2] at h52
    rw [hb1] at h53
    rw [hb2] at h54
    unfold heapV hvL at h52 h53 h54 ⊢
    cases b1 <;> cases b2
    all_goals simp only [Bool.and_true, Bool.and_false, Bool.and_self] at h52
    all_goals repeat' (first | (refine GiP ?_; first | (refine Znh ?_) | (with_reducible refine Znl ?_)) | (refine GiW ?_; first | (refine Zsq fun K hK => ?_) | (refine ZrN 0 fun _ => ?_; refine Zal 3 fun b3 => ?_; refine Zv Zai ?_; refine Zv Zai ?_) | (refine ZrN 2 fun _ => ?_; refine Zv Zmi ?_; refine Zv Zyneq ?_) | (refine ZrN 3 fun _ => ?_; refine Zv Zmi ?_; refine Zv Zai ?_; refine Zv Zai ?_) | (refine WP_cond_true rfl ?_) | (refine WP_cond_false rfl ?_) | (refine Zcd (fun hc => ?_) (fun hc => ?_) <;> (try (exfalso; omega))) | (with_reducible apply WP_skip) | (with_reducible apply WP_ret) | (refine WP_drawnS (id := 1) [] [0, 1, 2, 3, 4, 5, 6, 7, 8, 9, 10, 11, 12, 13, 14] [] [] (k := 0) (k2 := 0) (by repeat (first | apply Sub.sv | apply Sub.keep | apply Sub.appK | exact Sub.refl _)) (by kernel_rfl) prog_mixed (by kernel_rfl) (by kernel_rfl) rfl ?_; refine Zew rfl Zla ?_; refine Zew rfl Zla ?_; refine Zew rfl Zmi ?_; refine Zec rfl (Enters_fn rfl) (fun X => h53 _) ?_; refine Zew rfl Zmb ?_)) | (refine GiE ?_; first | (refine Zati 8 ?_; (first | (refine Zew rfl Zxpt ?_) | (refine Zew rfl Zxpf ?_)); refine Zec rfl (Enters_fn rfl) (fun X => h52 _) ?_; refine Zew rfl Zmv ?_; refine Zew rfl Zxex ?_; refine Zew rfl Zxex ?_; refine Zew rfl Zav ?_; refine Zew rfl Zai ?_) | (refine Zati 5 ?_; refine Zew rfl Zla ?_) | (refine Zati 6 ?_; refine Zew rfl Zmi ?_) | (refine Zati 7 ?_; refine Zec rfl (Enters_fn rfl) (fun X => h54 _) ?_) | (refine Zes ?_) | (refine Zesp (fun hc => ?_) (fun hc => ?_) <;> (try (exfalso; omega))) | (with_reducible apply EWalk_nil)) | (refine ZgC [0, 1, 2, 3, 4, 5, 6, 7, 8, 9, 10, 11, 12, 13, 14] ?_; refine ZCd _ ?_) | (refine Zhn ?_) | (refine Zhr ?_) | (refine AWalk_0 ?_) | (with_reducible apply QC_normal))
    all_goals exact QBody_res rfl (.tmp rfl (.tmp rfl .nil)) rfl ⟨rfl, (by repeat (first | exact Wk.refl _ | apply Wk.keep1 | apply Wk.drop | apply Wk.sv | apply Wk.svD | apply Wk.appD))⟩
end
end Go.Proofs.Ytlpahkmfjpjheaa
end
