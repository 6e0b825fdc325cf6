/- The document's answer for banks: all ways. · The document's answer for banks: all ways, or why they are not known; the span of some numbers. · The document's answer for banks: what is cut, what a sod takes, what is needed. · The document's answer for banks: what a sod takes, what is needed. · The document's answer for banks: whether a count can be. · The laws SodReads, SodLooks: whether a bank is one that is gone through. · The law SodReads: its walk. -/
import Derived.Test.YtkaadefndcbdnaaRA
import Derived.Test.YtkaadefndcbdnaaMp
section
namespace Go.Proofs.Ytkaadefndcbdnaa
open Go.RowKit
abbrev Wy := List Int × List (List Int)
/-- A list of truths, read. -/
def RdT (X : Hp) (v : Value) (l : List Wy) : Prop := ∃ A c, v = .slice A l.length c ∧ ∀ (j : Nat) (t : Wy), l[j]? = some t → ∃ b u q, A = some ⟨b, 0, none⟩ ∧ RdX X b (0 + j * 2) u ∧ RdX X b (0 + j * 2 + 1) q ∧ RdL X u t.1 ∧ RdLL X q t.2
theorem RdT.wk {X L : Hp} {v : Value} {l : List Wy} (h : RdT X v l) (k : Wk L X) : RdT L v l := by
  obtain ⟨A, c, rfl, h⟩ := h
  exact ⟨A, c, rfl, fun j t hj => let ⟨b, u, q, h1, h2, h3, h4, h5⟩ := h j t hj; ⟨b, u, q, h1, h2.wk k, h3.wk k, h4.wk k, h5.wk k⟩⟩
/-- Wyths, as the values of a row read. -/
def RdU (X : Hp) (vals : List Value) (l : List Wy) : Prop := ∀ (j : Nat) (t : Wy), l[j]? = some t → ∃ u q, vals[j * 2]? = some u ∧ vals[j * 2 + 1]? = some q ∧ RdL X u t.1 ∧ RdLL X q t.2
theorem RdU.snoc {X : Hp} {vals : List Value} {l : List Wy} {u q : Value} {t : Wy} (h : RdU X vals l) (hl : vals.length = l.length * 2) (hu : RdL X u t.1) (hq : RdLL X q t.2) : RdU X (vals ++ [u, q]) (l ++ [t]) := by
  intro i r hi
  by_cases hil : i < l.length
  · rw [List.getElem?_append_left hil] at hi
    obtain ⟨u', q', h1, h2, h3, h4⟩ := h i r hi
    exact ⟨u', q', by rw [List.getElem?_append_left (by omega)]; exact h1, by rw [List.getElem?_append_left (by omega)]; exact h2, h3, h4⟩
  · rw [List.getElem?_append_right (by omega)] at hi
    have hii : i = l.length := by
      have := (List.getElem?_eq_some_iff.1 hi).1
      simp at this; omega
    subst hii
    simp only [Nat.sub_self, List.getElem?_cons_zero, Option.some.injEq] at hi
    subst hi
    exact ⟨u, q, by rw [List.getElem?_append_right (by omega), hl]; simp, by rw [List.getElem?_append_right (by omega), hl, Nat.add_sub_cancel_left]; rfl, hu, hq⟩
theorem RdT.sv {E : TypeId} {s : Option (Nat × Nat)} {vals : List Value} {l : List Wy} {X : Hp} (hs : svOk s 2 l.length vals) (h : RdU X vals l) : RdT (svH E 2 l.length vals s X) (svV s l.length) l := by
  obtain ⟨A, c, h1, h2⟩ := sv_slice (E := E) hs
  refine ⟨A, c, h1, fun i t hi => ?_⟩
  obtain ⟨u, q, hu, hq, h3, h4⟩ := h i t hi
  cases s with
  | none =>
    have := hs.2 rfl
    rw [List.eq_nil_of_length_eq_zero this] at hi; simp at hi
  | some p =>
    obtain ⟨b, cap⟩ := p
    simp only [svV, Value.slice.injEq] at h1
    have hc : ∀ (j : Nat) (v : Value), vals[j]? = some v → RdX (svH E 2 l.length vals (some (b, cap)) X) b (0 + j) v := by
      intro j v hj N w0 w hI
      obtain ⟨b', hb, _, hc⟩ := h2 hI j _ hj
      rw [← h1.1] at hb
      simp only [Option.some.injEq, Addr.mk.injEq, and_true] at hb
      rw [hb, Nat.zero_add]; exact hc
    exact ⟨b, u, q, h1.1.symm, hc _ _ hu, hc _ _ hq, h3.wk (.drop (.refl _)), h4.wk (.drop (.refl _))⟩
theorem RdU.wk {X L : Hp} {vals : List Value} {l : List Wy} (h : RdU X vals l) (k : Wk L X) : RdU L vals l := fun j t hj => let ⟨u, q, h2, h3, h4, h5⟩ := h j t hj; ⟨u, q, h2, h3, h4.wk k, h5.wk k⟩
theorem RdT.perm {X L : Hp} {v : Value} {l : List Wy} (h : RdT X v l) (k : L.Perm X) : RdT L v l := by
  obtain ⟨A, c, rfl, h⟩ := h
  exact ⟨A, c, rfl, fun j t hj => let ⟨b, u, q, h1, h2, h3, h4, h5⟩ := h j t hj; ⟨b, u, q, h1, h2.perm k, h3.perm k, h4.perm k, h5.perm k⟩⟩
/-- All ways, by the counts of a set. -/
def wyP (s : Sd) (set : Nat) (cs : List Int) : Option Wy := if canS (only s set) cs = true then some (cs, wayL s set cs) else none
def waysP (s : Sd) (set : Nat) : List Wy := (allR (s.spits.map costR)).filterMap (wyP s set)
theorem fm_snoc {α β : Type} {l : List α} {f : α → Option β} {k : Nat} (hk : k < l.length) : (l.take (k + 1)).filterMap f = (l.take k).filterMap f ++ (f l[k]).toList := by
  rw [List.take_succ_eq_append_getElem hk, List.filterMap_append]
  congr 1
theorem allR_vals : ∀ (l : List Sp), ∀ r ∈ allR l, ∀ x ∈ l, x.1 ≤ x.2 := by
  intro l
  induction l with
  | nil => intro r _ x hx; cases hx
  | cons s l ih =>
    intro r hr x hx
    simp only [allR, List.mem_flatMap, List.mem_map] at hr
    obtain ⟨v, hv, q, hq, rfl⟩ := hr
    rcases List.mem_cons.1 hx with rfl | hx
    · have := vals_iff.1 hv; omega
    · exact ih q hq x hx
theorem wayL_len {s : Sd} (v : VS s) {set : Nat} {cs : List Int} : (canS (only s set) cs = true → (wayL s set cs).length = s.days.length) ∧ (canS (only s set) cs = false → wayL s set cs = []) := by
  refine ⟨fun h => ?_, fun h => ?_⟩
  · unfold wayL
    have hnd := v.nd
    obtain ⟨r, rs, h1, h2, _⟩ := bw_cons (s := only s set) (c := cs) (s.days.length - 1) 0 (by show 0 + (s.days.length - 1) + 1 = s.days.length; omega)
    rw [if_pos h, bw_zero h, h1, List.length_map, List.length_cons, h2]
    omega
  · unfold wayL; rw [if_neg (by rw [h]; simp)]
theorem allR_cnt (c : Nat) : ∀ l : List Sp, (∀ s ∈ l, (vals s).length ≤ c) → (allR l).length ≤ c ^ l.length
  | [], _ => by simp [allR]
  | s :: l, h => by
    rw [allR_cons_len, List.length_cons, Nat.pow_succ, Nat.mul_comm]
    exact Nat.mul_le_mul (allR_cnt c l fun x hx => h x (.tail _ hx)) (h s (.head _))
theorem costs_cnt {s : Sd} (v : VS s) : (allR (s.spits.map costR)).length ≤ 27 := by
  have h := allR_cnt 3 (s.spits.map costR) fun x hx => by
    obtain ⟨p, hp, rfl⟩ := List.mem_map.1 hx
    have := v.sp p hp
    rw [vals_length]
    unfold costR
    dsimp only
    omega
  rw [List.length_map] at h
  have h3 : (3 : Nat) ^ s.spits.length ≤ 3 ^ 3 := Nat.pow_le_pow_right (by omega) v.np.2
  omega
theorem fm_le {α β : Type} (f : α → Option β) (l : List α) : (l.filterMap f).length ≤ l.length := List.length_filterMap_le f l
structure WyStt where
  k : Nat
  Y : Hp
  l : List Wy
  vals : List Value
  s : Option (Nat × Nat)
attribute [local irreducible] AnyO AnyB QAny QB EWalk AWalk Ev WP OPS QThen QBlock QScope QLoop QBody Val New Turn Tri Enters PostA Blk Ro
attribute [local irreducible] AnyC QC
section
variable (N : Nat) (w0 : World)
theorem way_in (L : Hp) (g : Fg) (hA : SodAt N w0 g) (hv : VS g.s) (va : Value) (cs : List Int) (X : Hp) (hC : RdL X va cs) (hk : Wk L X) (hcin : CIn g.s.spits cs) (hl : cs.length = g.s.spits.length) (set : Nat) (hset : set ≤ 1000000) (hvo : VS (only g.s set)) :
    Tri Try.prog N w0 L 106 [sodV g, va, .int .i64 (set : Int)].toArray fun y L2 => ∃ v, y = .returned v ∧ ∃ X, RdLL X v (wayL g.s set cs) ∧ L2 = X ++ L := by
  have := Tri.re2 (P := Try.prog) (N := N) (w0 := w0) (L := L) (f := 106) (args := [sodV g, va, .int .i64 (set : Int)].toArray) (K := fun v X => RdLL X v (wayL g.s set cs)) (fun w hI => by
    obtain ⟨A, c, rfl, hC2⟩ := hC.now hI hk
    rw [hl]
    refine (way_tri w.heap.size w [] g (SodIn.at_ hA w hI) hv A c cs hC2 hcin hl set hset hvo).mono ?_
    rintro y L2 ⟨v, rfl, X1, vals, s, rfl, hs, hrd, rfl⟩
    refine ⟨_, rfl, X1 ++ svH 43 1 (wayL g.s set cs).length vals s [], (List.append_nil _).symm, ?_⟩
    have h1 := RdLL.sv (E := 43) hs hrd
    refine h1.perm (svH_mid.trans ?_)
    rw [List.append_nil])
  refine this.mono ?_
  rintro y L2 ⟨v, rfl, X2, rfl, h⟩
  exact ⟨_, rfl, X2, h, rfl⟩
set_option maxHeartbeats 2000000 in
theorem ways_tri (L : Hp) (g : Fg) (hA : SodAt N w0 g) (hv : VS g.s) (set : Nat) (hset : set ≤ 1000000) (hvo : VS (only g.s set)) :
    Tri Try.prog N w0 L 87 [sodV g, .int .i64 (set : Int)].toArray fun y L2 => ∃ v, y = .returned v ∧ ∃ X, RdT X v (waysP g.s set) ∧ L2 = X ++ L := by
  have hcnt := costs_cnt hv
  have hco := fun L' => costs_a N w0 g hA (fun p hp => by have := hv.sp p hp; omega) (by have := hv.np; omega) g.s.spits [] (by simp) rfl L' [] (.slice none 0 0) [] [] none (RdL.nilS [] 0) (svOk_nil _) (fun i row hi => by simp at hi) (by simp; omega)
  refine Tri.fgt ?_
  refine tri_of_WP Try.func87 rfl (n := 37) rfl (by simp) ?_
  unfold sodV sdL at hco ⊢
  repeat' (first | (refine Znh ?_) | (refine GiW ?_; first | (refine Zsq fun K hK => ?_) | (refine ZrN 0 fun _ => ?_; refine Zal 2 fun b2 => ?_; refine Zv Zav ?_) | (refine ZrN 1 fun _ => ?_; refine Zv Zla ?_; refine OPS_retKS (Enters_fn rfl) (hco _) rfl rfl rfl (fun v9 L9 h9 => ?_); obtain ⟨rows, X2, vals0, s0, rfl, hrows, hs0, hrd0, rfl⟩ := h9; refine Zv Zav ?_) | (refine ZrN 2 fun _ => ?_; refine Zv Zav ?_) | (refine ZrN 3 fun _ => ?_; refine Zv Zai ?_) | (with_reducible apply WP_block)))
  have hra : rows = allR (g.s.spits.map costR) := by rw [hrows]; simp [lsF]
  rw [List.append_nil] at hrd0 ⊢
  have hpos : 0 < rows.length := by
    obtain ⟨c0, hc0⟩ := rows_some hv
    unfold rowsC at hc0
    rw [← hra] at hc0
    obtain ⟨q, hq, _⟩ := List.mem_map.1 hc0
    exact List.length_pos_of_mem hq
  obtain ⟨bs, cap, rfl⟩ : ∃ b c, s0 = some (b, c) := by
    cases s0 with
    | none => exact absurd (hs0.2 rfl) (by omega)
    | some q => exact ⟨q.1, q.2, rfl⟩
  rw [← hra] at hcnt
  rw [svV_some, svH_some]
  refine WP_loop [6, 7, 8, 11, 12, 13, 14, 15, 16, 17, 18, 19, 20, 21, 22, 23, 24, 25, 26, 27, 28, 29, 30, 31, 32, 33, 34, 35] (fun st : WyStt => [(6, svV st.s st.l.length), (7, .int .i64 (st.k : Int))]) (fun st => st.Y ++ svH 97 2 st.l.length st.vals st.s ((bs, Row 43 1 rows.length cap vals0) :: (X2 ++ ((b2, Blk 26 (sdL g)) :: L)))) (fun st => st.k ≤ rows.length ∧ st.l = (rows.take st.k).filterMap (wyP g.s set) ∧ svOk st.s 2 st.l.length st.vals ∧ RdU (st.Y ++ X2) st.vals st.l) (fun st => rows.length - st.k) ⟨0, [], [], [], none⟩ (.cons rfl (.cons rfl .nil)) (Wk.refl _) ⟨Nat.zero_le _, by simp, svOk_nil _, fun j t hj => by simp at hj⟩ ?_
  rintro ⟨k, Y, l, vals, s⟩ j ⟨hk, hle, hs, hrd⟩
  dsimp only at hk hle hs hrd ⊢
  unfold sdL
  have hll : l.length ≤ 27 := by
    have h1 := fm_le (wyP g.s set) (rows.take k)
    rw [← hle, List.length_take] at h1
    omega
  by_cases hkl : k < rows.length
  · obtain ⟨cs, hcs⟩ : ∃ cs, rows[k]? = some cs := ⟨_, List.getElem?_eq_getElem hkl⟩
    have hmem : cs ∈ allR (g.s.spits.map costR) := by rw [← hra]; exact List.mem_of_getElem? hcs
    have hcin : CIn g.s.spits cs := by have := allR_cin (z := []) hmem; rwa [List.append_nil] at this
    have hcl : cs.length = g.s.spits.length := by rw [allR_len _ _ hmem, List.length_map]
    obtain ⟨u, hu, hrl⟩ := hrd0 k cs hcs
    have hrl2 := hrl
    obtain ⟨Au, cu, rfl, -⟩ := hrl2
    have hR : ∀ L', Mem bs (Row 43 1 rows.length cap vals0) L' → Rd N w0 L' bs (0 + k) (.slice Au cs.length cu) := fun L' hm => rd_row hm hu
    have hwy := fun L' hk' => way_in N w0 L' g hA hv (.slice Au cs.length cu) cs X2 hrl hk' hcin hcl set hset hvo
    have hsn := fm_snoc (f := wyP g.s set) (k := k) hkl
    rw [← hle, (List.getElem?_eq_some_iff.1 hcs).2] at hsn
    unfold wyP at hsn
    obtain ⟨w1, w2⟩ := wayL_len hv (set := set) (cs := cs)
    have hnd := hv.nd
    have hwk : Wk (Y ++ svH 97 2 l.length vals s ((bs, Row 43 1 rows.length cap vals0) :: (X2 ++ ((b2, Blk 26 [.slice g.A1 g.s.spits.length g.c1, .slice g.A2 g.s.days.length g.c2, .slice g.A3 g.s.logs.length g.c3]) :: L)))) X2 := (Wk.app _ _).trans (Wk.svD (.drop (Wk.appR X2 _)))
    unfold sodV sdL at hwy
    cases hcan : canS (only g.s set) cs with
    | true =>
      have hwl := w1 hcan
      rw [if_pos hcan] at hsn
      repeat' (first | (refine GiP ?_; first | (refine Znh ?_) | (with_reducible refine Znl ?_) | (refine Zatd 23 ?_; refine OPS_retKS (Enters_fn rfl) (hwy _ hwk) rfl rfl rfl (fun v9 L9 h9 => ?_); obtain ⟨X8, hr8, rfl⟩ := h9; have hr9 := hr8; obtain ⟨A8, c8, rfl, -⟩ := hr8) | (refine Zatd 8 ?_; refine Zv Zav ?_)) | (refine GiW ?_; first | (refine Zsq fun K hK => ?_) | (refine ZrN 4 fun _ => ?_; refine Zv Zmi ?_; refine Zv Zmv ?_; refine Zv Zxlen ?_; refine Zv Zylss ?_) | (refine ZrN 7 fun _ => ?_; refine Zv Zmv ?_; refine Zv Zxlen ?_; refine Zv Zygtr ?_) | (refine ZrN 8 fun _ => ?_; refine Zv Zmv ?_; refine Zv Zmv ?_; refine Zv Zmi ?_; (first | (refine Zv (Val_indexAddr1 rfl rfl rfl hkl) ?_) | (refine Zv Zia ?_)); (first | (refine Zv (Val_loadD1 rfl (hR _ (by repeat (first | exact Mem.here | assumption | apply Mem.there | apply Mem.sv | apply Mem.app)))) ?_) | (refine Zv Zld ?_)); refine Zv Zmv ?_; refine Zv Zxbu ?_; refine Zal 34 fun b34 => ?_; refine Zag (fun s35 hs35 => ?_); refine Zv Zav ?_) | (refine ZrN 5 fun _ => ?_; refine Zv Zmi ?_; refine Zv Zxadd ?_; refine Zv Zai ?_) | (refine WP_cond_true rfl ?_) | (with_reducible apply WP_skip) | (with_reducible apply WP_block) | (refine WP_drawn (id := 6) [0, 1, 2, 3, 4, 5] [] (k := 2) prog_mixed (by kernel_rfl) rfl ?_; (first | (refine Zew rfl (Val_loadD1 rfl (hR _ (by repeat (first | exact Mem.here | assumption | apply Mem.there | apply Mem.sv | apply Mem.app)))) ?_) | (refine Zew rfl Zla ?_)); refine Zew rfl Zmv ?_; refine Zew rfl Zmi ?_; (first | (refine Zew rfl (Val_indexAddr1 rfl rfl rfl hkl) ?_) | (refine Zew rfl Zia ?_)); (first | (refine Zew rfl (Val_loadD1 rfl (hR _ (by repeat (first | exact Mem.here | assumption | apply Mem.there | apply Mem.sv | apply Mem.app)))) ?_) | (refine Zew rfl Zld ?_)); refine Zew rfl Zmi ?_)) | (with_reducible apply EWalk_nil) | (refine GiO ?_; first | (refine AnyO_done (by kernel_rfl) ?_; (try with_reducible apply noP_normal); try with_reducible exact key.out) | (refine AnyO_1 6 (by decide +kernel) rfl ?_) | (refine AnyO_1 7 (by decide +kernel) rfl ?_)) | (refine Zhn ?_) | (with_reducible apply QBlock_normal) | (refine AWalk_0 ?_; refine ZisO ?_) | (with_reducible apply QAny_normal))
      have e1 : (l ++ [(cs, wayL g.s set cs)]).length = l.length + 1 := by rw [List.length_append]; rfl
      refine QLoop_normal ⟨k + 1, X8 ++ Y, l ++ [(cs, wayL g.s set cs)], vals ++ [.slice Au cs.length cu, .slice A8 (wayL g.s set cs).length c8], s35⟩ (.cons (by dsimp only; rw [e1]; rfl) (.cons rfl .nil)) (by repeat (first | exact Off.frame rfl | exact Off.refl _ _ | refine Off.frameT rfl rfl ?_ | refine Off.upd rfl ?_ | refine Off.updO rfl ?_)) ?_ ⟨by dsimp only; omega, hsn.symm, by dsimp only; rw [e1]; exact hs35, ?_⟩ (by dsimp only; omega)
      · dsimp only
        rw [e1, List.append_assoc]
        exact (by repeat (first | exact Wk.refl _ | apply Wk.keep1 | apply Wk.drop | apply Wk.sv | apply Wk.svD | apply Wk.appD))
      · dsimp only
        rw [List.append_assoc]
        exact (hrd.wk (Wk.app X8 _)).snoc hs.1 (hrl.wk ((Wk.app X8 _).trans (Wk.app Y _))) (hr9.wk (Wk.appR X8 _))
    | false =>
      have hwl := w2 hcan
      rw [if_neg (by rw [hcan]; simp), Option.toList_none, List.append_nil] at hsn
      rw [hwl] at hwy
      repeat' (first | (refine GiP ?_; first | (refine Znh ?_) | (with_reducible refine Znl ?_) | (refine Zatd 23 ?_; refine OPS_retKS (Enters_fn rfl) (hwy _ hwk) rfl rfl rfl (fun v9 L9 h9 => ?_); obtain ⟨X8, hr8, rfl⟩ := h9; obtain ⟨A8, c8, rfl, -⟩ := hr8) | (refine Zatd 8 ?_; refine Zv Zav ?_)) | (refine GiW ?_; first | (refine Zsq fun K hK => ?_) | (refine ZrN 4 fun _ => ?_; refine Zv Zmi ?_; refine Zv Zmv ?_; refine Zv Zxlen ?_; refine Zv Zylss ?_) | (refine ZrN 7 fun _ => ?_; refine Zv Zmv ?_; refine Zv Zxlen ?_; refine Zv Zygtr ?_) | (refine ZrN 5 fun _ => ?_; refine Zv Zmi ?_; refine Zv Zxadd ?_; refine Zv Zai ?_) | (refine WP_cond_true rfl ?_) | (refine WP_cond_false rfl ?_) | (with_reducible apply WP_skip) | (with_reducible apply WP_block) | (refine WP_drawn (id := 6) [0, 1, 2, 3, 4, 5] [] (k := 2) prog_mixed (by kernel_rfl) rfl ?_; (first | (refine Zew rfl (Val_loadD1 rfl (hR _ (by repeat (first | exact Mem.here | assumption | apply Mem.there | apply Mem.sv | apply Mem.app)))) ?_) | (refine Zew rfl Zla ?_)); refine Zew rfl Zmv ?_; refine Zew rfl Zmi ?_; (first | (refine Zew rfl (Val_indexAddr1 rfl rfl rfl hkl) ?_) | (refine Zew rfl Zia ?_)); (first | (refine Zew rfl (Val_loadD1 rfl (hR _ (by repeat (first | exact Mem.here | assumption | apply Mem.there | apply Mem.sv | apply Mem.app)))) ?_) | (refine Zew rfl Zld ?_)); refine Zew rfl Zmi ?_)) | (with_reducible apply EWalk_nil) | (refine GiO ?_; first | (refine AnyO_done (by kernel_rfl) ?_; (try with_reducible apply noP_normal); try with_reducible exact key.out) | (refine AnyO_1 6 (by decide +kernel) rfl ?_) | (refine AnyO_1 7 (by decide +kernel) rfl ?_)) | (refine Zhn ?_) | (with_reducible apply QBlock_normal) | (refine AWalk_0 ?_; refine ZisO ?_) | (with_reducible apply QAny_normal))
      exact QLoop_normal ⟨k + 1, Y, l, vals, s⟩ (.cons rfl (.cons rfl .nil)) (by repeat (first | exact Off.frame rfl | exact Off.refl _ _ | refine Off.frameT rfl rfl ?_ | refine Off.upd rfl ?_ | refine Off.updO rfl ?_)) (Wk.app X8 _) ⟨by dsimp only; omega, hsn.symm, hs, hrd⟩ (by dsimp only; omega)
  · have hke : k = rows.length := by omega
    subst hke
    rw [List.take_length, hra] at hle
    have hfin := (RdT.sv (E := 97) hs hrd).perm svH_mid
    rw [show l = waysP g.s set from hle] at hfin ⊢
    repeat' (first | (refine Znh ?_) | (refine GiW ?_; first | (refine Zsq fun K hK => ?_) | (refine ZrN 4 fun _ => ?_; refine Zv Zmi ?_; refine Zv Zmv ?_; refine Zv Zxlen ?_; refine Zv Zylss ?_) | (refine ZrN 9 fun _ => ?_; refine Zv Zmv ?_; refine Zv Zav ?_) | (refine WP_cond_false rfl ?_) | (with_reducible apply WP_exit) | (with_reducible apply WP_ret)) | (refine Zhn ?_) | (refine Zhx ?_) | (with_reducible apply QBlock_hit) | (with_reducible apply QLoop_exit))
    refine QBody_ret1 rfl rfl ⟨(Y ++ svH 97 2 (waysP g.s set).length vals s X2) ++ L, ?_, _, rfl, _, hfin, rfl⟩
    rw [List.append_assoc, ← svH_app]
    exact Wk.appK _ (Wk.sv (.drop (Wk.appK _ (.drop (.refl _)))))
end
end Go.Proofs.Ytkaadefndcbdnaa
end

section
namespace Go.Proofs.Ytkaadefndcbdnaa
open Go.RowKit
/-- All counts. -/
def evN (s : Sd) : Nat := 2 ^ s.logs.length - 1
theorem ways_ne {s : Sd} (x : Nat) : waysP s x ≠ [] ↔ someB (only s x) = true := by
  rw [someB_told]
  unfold waysP toldC
  constructor
  · intro h
    obtain ⟨w, hw⟩ := List.exists_mem_of_ne_nil _ h
    obtain ⟨cs, hcs, h2⟩ := List.mem_filterMap.1 hw
    unfold wyP at h2
    split at h2
    · rename_i hcan
      have hcin : CIn s.spits cs := by have := allR_cin (z := []) hcs; rwa [List.append_nil] at this
      have hm : pad3 cs ∈ (rowsC (only s x)).filter (canS (only s x)) := List.mem_filter.2 ⟨List.mem_map.2 ⟨cs, hcs, rfl⟩, by rw [canS_pad (show CIn (only s x).spits cs from hcin)]; exact hcan⟩
      exact List.ne_nil_of_mem hm
    · cases h2
  · intro h
    obtain ⟨c, hc⟩ := List.exists_mem_of_ne_nil _ h
    obtain ⟨h1, h2⟩ := List.mem_filter.1 hc
    obtain ⟨cs, hcs, rfl⟩ := List.mem_map.1 h1
    have hcin : CIn s.spits cs := by have := allR_cin (z := []) (show cs ∈ allR (s.spits.map costR) from hcs); rwa [List.append_nil] at this
    have hcan : canS (only s x) cs = true := by rw [← canS_pad (show CIn (only s x).spits cs from hcin)]; exact h2
    have hm : (cs, wayL s x cs) ∈ (allR (s.spits.map costR)).filterMap (wyP s x) := List.mem_filterMap.2 ⟨cs, hcs, by unfold wyP; rw [if_pos hcan]⟩
    exact List.ne_nil_of_mem hm
/-- Ways, as they lie in memory as it was. -/
def IsWs (N : Nat) (w0 : World) (A : Option Addr) (l : List Wy) : Prop := ∀ (j : Nat) (t : Wy), l[j]? = some t → ∃ b o, A = some ⟨b, o, none⟩ ∧ b < N ∧ ∃ Au cu At ct, w0.cell? ⟨b, o + j * 2, none⟩ = some (.slice Au t.1.length cu) ∧ w0.cell? ⟨b, o + j * 2 + 1, none⟩ = some (.slice At t.2.length ct) ∧ IsL N w0 Au t.1 ∧ ∀ (d : Nat) (row : List Int), t.2[d]? = some row → ∃ b' o' Ar cr, At = some ⟨b', o', none⟩ ∧ b' < N ∧ w0.cell? ⟨b', o' + d, none⟩ = some (.slice Ar row.length cr) ∧ IsL N w0 Ar row
theorem RdT.now {X L : Hp} {v : Value} {l : List Wy} (h : RdT X v l) {N : Nat} {w0 w : World} (hI : Inv N w0 L w) (k : Wk L X) : ∃ A c, v = .slice A l.length c ∧ IsWs w.heap.size w A l := by
  obtain ⟨A, c, h1, h2⟩ := h
  refine ⟨A, c, h1, fun j t hj => ?_⟩
  obtain ⟨b, u, q, h3, h4, h5, h6, h7⟩ := h2 j t hj
  obtain ⟨Au, cu, rfl, h8⟩ := h6.now hI k
  obtain ⟨At, ct, rfl, h9⟩ := h7
  have c4 := h4 N w0 w (hI.wk k)
  have c5 := h5 N w0 w (hI.wk k)
  refine ⟨b, 0, h3, cell_lt c4, Au, cu, At, ct, c4, c5, h8, fun d row hd => ?_⟩
  obtain ⟨b', u', h10, h11, h12⟩ := h9 d row hd
  obtain ⟨Ar, cr, rfl, h13⟩ := h12.now hI k
  have c11 := h11 N w0 w (hI.wk k)
  exact ⟨b', 0, Ar, cr, h10, cell_lt c11, by rw [Nat.zero_add]; exact c11, h13⟩
/-- The span of some numbers. -/
def hullI (l : List Int) : Sp := l.foldl (fun a x => (min a.1 x, max a.2 x)) (l.getD 0 0, l.getD 0 0)
theorem hullI_fold : ∀ (l : List Int) (a : Sp), (∀ x ∈ l, (l.foldl (fun a x => (min a.1 x, max a.2 x)) a).1 ≤ x ∧ x ≤ (l.foldl (fun a x => (min a.1 x, max a.2 x)) a).2) ∧ (l.foldl (fun a x => (min a.1 x, max a.2 x)) a).1 ≤ a.1 ∧ a.2 ≤ (l.foldl (fun a x => (min a.1 x, max a.2 x)) a).2 ∧ ((l.foldl (fun a x => (min a.1 x, max a.2 x)) a).1 = a.1 ∨ (l.foldl (fun a x => (min a.1 x, max a.2 x)) a).1 ∈ l) ∧ ((l.foldl (fun a x => (min a.1 x, max a.2 x)) a).2 = a.2 ∨ (l.foldl (fun a x => (min a.1 x, max a.2 x)) a).2 ∈ l)
  | [], a => by simp
  | y :: l, a => by
    obtain ⟨h1, h2, h3, h4, h5⟩ := hullI_fold l (min a.1 y, max a.2 y)
    dsimp only at h2 h3 h4 h5
    rw [List.foldl_cons]
    refine ⟨fun x hx => ?_, by omega, by omega, ?_, ?_⟩
    · rcases List.mem_cons.1 hx with rfl | hx
      · omega
      · exact h1 x hx
    · rcases h4 with h | h
      · by_cases hy : a.1 ≤ y
        · exact .inl (by omega)
        · exact .inr (by rw [h, show min a.1 y = y by omega]; exact .head _)
      · exact .inr (.tail _ h)
    · rcases h5 with h | h
      · by_cases hy : y ≤ a.2
        · exact .inl (by omega)
        · exact .inr (by rw [h, show max a.2 y = y by omega]; exact .head _)
      · exact .inr (.tail _ h)
theorem hullI_hull {l : List Int} (h : l ≠ []) : Hull (hullI l) fun n => n ∈ l := by
  obtain ⟨x, l, rfl⟩ : ∃ x l', l = x :: l' := by cases l with | nil => exact absurd rfl h | cons x l => exact ⟨x, l, rfl⟩
  obtain ⟨h1, h2, h3, h4, h5⟩ := hullI_fold (x :: l) (x, x)
  refine ⟨?_, ?_, fun n hn => h1 n hn⟩
  · show (hullI (x :: l)).1 ∈ x :: l
    rcases h4 with h | h
    · have e : (hullI (x :: l)).1 = x := h
      rw [e]; exact List.mem_cons_self
    · exact h
  · show (hullI (x :: l)).2 ∈ x :: l
    rcases h5 with h | h
    · have e : (hullI (x :: l)).2 = x := h
      rw [e]; exact List.mem_cons_self
    · exact h
theorem hullI_take (l : List Int) (k : Nat) (hk : k < l.length) : (l.take (k + 1)).foldl (fun (a : Sp) x => (min a.1 x, max a.2 x)) (l.getD 0 0, l.getD 0 0) = (min ((l.take k).foldl (fun (a : Sp) x => (min a.1 x, max a.2 x)) (l.getD 0 0, l.getD 0 0)).1 l[k], max ((l.take k).foldl (fun (a : Sp) x => (min a.1 x, max a.2 x)) (l.getD 0 0, l.getD 0 0)).2 l[k]) := by
  rw [List.take_succ_eq_append_getElem hk, List.foldl_append]; rfl
attribute [local irreducible] AnyO AnyB QAny QB EWalk AWalk Ev WP OPS QThen QBlock QScope QLoop QBody Val New Turn Tri Enters PostA Blk Ro
attribute [local irreducible] AnyC QC
section
variable (N : Nat) (w0 : World)
set_option maxHeartbeats 1000000 in
theorem told_tri (L : Hp) (g : Fg) (hA : SodAt N w0 g) (h1 : g.s.spits.length ≤ 1000) (h2 : g.s.days.length ≤ 1000) (h3 : g.s.logs.length ≤ 1000) (ok : Bool) :
    Tri Try.prog N w0 L 50 [sodV g, .bool ok].toArray fun y L2 => ∃ v, y = .returned v ∧ ∃ A n c X, v = .tuple [.slice A n c, .int .i64 (errE g.s ok)].toArray ∧ (errE g.s ok = 0 → RdT X (.slice A n c) (waysP g.s (evN g.s))) ∧ L2 = X ++ L := by
  have hS := fun L' => rSod_ret N w0 L' g hA h1 h2 h3
  refine Tri.fgt ?_
  refine tri_of_WP Try.func50 rfl (n := 20) rfl (by simp) ?_
  unfold sodV sdL at hS ⊢
  cases hvb : vB g.s with
  | false =>
    have he : errE g.s ok = 1 := by unfold errE; rw [if_pos hvb]
    rw [hvb] at hS
    repeat' (first | (refine Znh ?_) | (refine GiW ?_; first | (refine Zsq fun K hK => ?_) | (refine ZrN 0 fun _ => ?_; refine Zal 2 fun b2 => ?_; refine Zv Zav ?_; refine Zv Zai ?_) | (refine ZrN 1 fun _ => ?_; refine Zv Zla ?_; refine Zcl (Enters_fn rfl) (hS _) ?_; refine Zv Zxnot ?_) | (refine ZrN 2 fun _ => ?_; refine Zv Zav ?_; refine Zv Zai ?_) | (refine WP_cond_true rfl ?_) | (with_reducible apply WP_ret)) | (refine Zhr ?_))
    refine QBody_res rfl (.tmp (rfl : _ = Value.slice _ _ _) (.tmp (rfl : _ = Value.int _ _) .nil)) rfl ?_
    exact ⟨[] ++ L, (by repeat (first | exact Wk.refl _ | apply Wk.keep1 | apply Wk.drop | apply Wk.sv | apply Wk.svD | apply Wk.appD)), _, rfl, _, _, _, [], by rw [he]; rfl, fun h => by rw [he] at h; omega, rfl⟩
  | true =>
    have hv := VS_of hvb
    rw [hvb] at hS
    cases ok with
    | false =>
      have he : errE g.s false = 2 := by unfold errE; rw [if_neg (by rw [hvb]; simp), if_pos rfl]
      repeat' (first | (refine Znh ?_) | (refine GiW ?_; first | (refine Zsq fun K hK => ?_) | (refine ZrN 0 fun _ => ?_; refine Zal 2 fun b2 => ?_; refine Zv Zav ?_; refine Zv Zai ?_) | (refine ZrN 1 fun _ => ?_; refine Zv Zla ?_; refine Zcl (Enters_fn rfl) (hS _) ?_; refine Zv Zxnot ?_) | (refine ZrN 3 fun _ => ?_; refine Zv Zmb ?_; refine Zv Zxnot ?_) | (refine ZrN 4 fun _ => ?_; refine Zv Zav ?_; refine Zv Zai ?_) | (refine WP_cond_true rfl ?_) | (refine WP_cond_false rfl ?_) | (with_reducible apply WP_skip) | (with_reducible apply WP_ret)) | (refine Zhn ?_) | (refine Zhr ?_))
      refine QBody_res rfl (.tmp (rfl : _ = Value.slice _ _ _) (.tmp (rfl : _ = Value.int _ _) .nil)) rfl ?_
      exact ⟨[] ++ L, (by repeat (first | exact Wk.refl _ | apply Wk.keep1 | apply Wk.drop | apply Wk.sv | apply Wk.svD | apply Wk.appD)), _, rfl, _, _, _, [], by rw [he]; rfl, fun h => by rw [he] at h; omega, rfl⟩
    | true =>
      have hnl := hv.nl
      have hvo := VS_only hv (evN g.s)
      have hE : evN g.s ≤ 15 := by
        unfold evN
        have : 2 ^ g.s.logs.length ≤ 2 ^ 4 := Nat.pow_le_pow_right (by omega) hnl
        omega
      have hev := fun L' => every_ret N w0 L' g (by omega)
      have hwy := fun L' => ways_tri N w0 L' g hA hv (evN g.s) (by omega) hvo
      rw [show 2 ^ g.s.logs.length - 1 = evN g.s from rfl] at hev
      have hne := ways_ne (s := g.s) (evN g.s)
      have hall : someB (only g.s (evN g.s)) = someB g.s := only_all hv
      rw [hall] at hne
      unfold sodV sdL at hev hwy
      obtain ⟨E, hEe⟩ : ∃ E, evN g.s = E := ⟨_, rfl⟩
      rw [hEe] at hev hwy hne
      repeat' (first | (refine Znh ?_) | (refine GiW ?_; first | (refine Zsq fun K hK => ?_) | (refine ZrN 0 fun _ => ?_; refine Zal 2 fun b2 => ?_; refine Zv Zav ?_; refine Zv Zai ?_) | (refine ZrN 1 fun _ => ?_; refine Zv Zla ?_; refine Zcl (Enters_fn rfl) (hS _) ?_; refine Zv Zxnot ?_) | (refine ZrN 3 fun _ => ?_; refine Zv Zmb ?_; refine Zv Zxnot ?_) | (refine WP_cond_false rfl ?_) | (with_reducible apply WP_skip)) | (refine Zhn ?_))
      repeat' (first | (refine GiP ?_; first | (with_reducible refine Znl ?_) | (refine Zatd 15 ?_; refine OPS_retKS (Enters_fn rfl) (hwy _) rfl rfl rfl (fun v9 L9 h9 => ?_); obtain ⟨X8, hr8, rfl⟩ := h9; have hr9 := hr8; obtain ⟨A8, c8, rfl, -⟩ := hr8) | (refine Zatd 6 ?_; refine Zv Zav ?_)) | (refine GiW ?_; first | (refine Zsq fun K hK => ?_) | (refine WP_drawn (id := 5) [0, 1, 2] [] (k := 2) prog_mixed (by kernel_rfl) rfl ?_; refine Zew rfl Zla ?_; refine Zew rfl Zla ?_; refine Zec rfl (Enters_fn rfl) (fun X => hev _) ?_)) | (with_reducible apply EWalk_nil) | (refine GiO ?_; first | (refine AnyO_done (by kernel_rfl) ?_; (try with_reducible apply noP_normal); try with_reducible exact key.out) | (refine AnyO_1 3 (by decide +kernel) rfl ?_) | (refine AnyO_1 4 (by decide +kernel) rfl ?_)) | (refine Zhn ?_) | (refine AWalk_0 ?_; refine ZisO ?_) | (with_reducible apply QAny_normal))
      cases hsb : someB g.s with
      | false =>
        have he : errE g.s true = 10 := by unfold errE; rw [if_neg (by rw [hvb]; simp), if_neg (by simp), if_pos hsb]
        have hl0 : (waysP g.s E).length = 0 := by
          apply Classical.byContradiction
          intro h
          have := hne.1 (fun h2 => h (by rw [h2]; rfl))
          rw [hsb] at this; cases this
        repeat' (first | (refine Znh ?_) | (refine GiW ?_; first | (refine Zsq fun K hK => ?_) | (refine ZrN 6 fun _ => ?_; refine Zv Zmv ?_; refine Zv Zxlen ?_; refine Zv Zyeql ?_) | (refine ZrN 7 fun _ => ?_; refine Zv Zav ?_; refine Zv Zai ?_) | (refine WP_cond_true rfl ?_) | (with_reducible apply WP_ret)) | (refine Zhr ?_))
        refine QBody_res rfl (.tmp (rfl : _ = Value.slice _ _ _) (.tmp (rfl : _ = Value.int _ _) .nil)) rfl ?_
        exact ⟨[] ++ L, (by repeat (first | exact Wk.refl _ | apply Wk.keep1 | apply Wk.drop | apply Wk.sv | apply Wk.svD | apply Wk.appD)), _, rfl, _, _, _, [], by rw [he]; rfl, fun h => by rw [he] at h; omega, rfl⟩
      | true =>
        have he : errE g.s true = 0 := by unfold errE; rw [if_neg (by rw [hvb]; simp), if_neg (by simp), if_neg (by rw [hsb]; simp)]
        have hl0 : (waysP g.s E).length ≠ 0 := fun h => hne.2 hsb (List.eq_nil_of_length_eq_zero h)
        repeat' (first | (refine Znh ?_) | (refine GiW ?_; first | (refine Zsq fun K hK => ?_) | (refine ZrN 6 fun _ => ?_; refine Zv Zmv ?_; refine Zv Zxlen ?_; refine Zv Zyeql ?_) | (refine ZrN 8 fun _ => ?_; refine Zv Zmv ?_; refine Zv Zav ?_; refine Zv Zai ?_) | (refine WP_cond_false rfl ?_) | (with_reducible apply WP_skip) | (with_reducible apply WP_ret)) | (refine Zhn ?_))
        refine QBody_res rfl (.tmp (rfl : _ = Value.slice _ _ _) (.tmp (rfl : _ = Value.int _ _) .nil)) rfl ?_
        exact ⟨X8 ++ L, Wk.appK _ (by repeat (first | exact Wk.refl _ | apply Wk.keep1 | apply Wk.drop | apply Wk.sv | apply Wk.svD | apply Wk.appD)), _, rfl, _, _, _, X8, by rw [he]; rfl, fun _ => by rw [hEe]; exact hr9, rfl⟩
theorem rhull_ret (L : Hp) (A : Option Addr) (c : Nat) (l : List Int) (hL : IsL N w0 A l) (hne : 0 < l.length) (hll : l.length ≤ 1000000) : Ret Try.prog N w0 L 52 [.slice A l.length c].toArray (.agg [.int .i64 (hullI l).1, .int .i64 (hullI l).2].toArray) := by
  obtain ⟨x0, hx0⟩ : ∃ x, l[0]? = some x := ⟨_, List.getElem?_eq_getElem hne⟩
  have hg0 : l.getD 0 0 = x0 := by rw [List.getD_eq_getElem?_getD, hx0]; rfl
  obtain ⟨b0, o0, hA0, hb0, hc0⟩ := hL.get hx0
  rw [Nat.add_zero] at hc0
  refine Ret.fgt ?_
  refine tri_of_WP Try.func52 rfl (n := 34) rfl (by simp) ?_
  repeat' (first | (refine GiP ?_; first | (refine Znh ?_) | (with_reducible refine Znl ?_) | (refine Zatn ?_; refine Zst ?_)) | (refine GiW ?_; first | (refine Zsq fun K hK => ?_) | (refine ZrN 0 fun _ => ?_; refine Zal 2 fun b2 => ?_) | (refine ZrN 2 fun _ => ?_; refine Zv Zai ?_) | (with_reducible apply WP_block) | (refine WP_drawn (id := 1) [0, 1, 2, 3, 4, 5, 6] [7] (k := 1) prog_mixed (by kernel_rfl) rfl ?_; refine Zew rfl Zmv ?_; (first | (refine Zew rfl (Val_indexAddrE1 rfl hA0 rfl (rfl : _ = ((0 : Nat) : Int)) hne) ?_) | (refine Zew rfl Zia ?_)); (first | (refine Zew rfl (Val_loadR1 rfl hb0 hc0) ?_) | (refine Zew rfl Zld ?_)); refine Zew rfl Zmv ?_; (first | (refine Zew rfl (Val_indexAddrE1 rfl hA0 rfl (rfl : _ = ((0 : Nat) : Int)) hne) ?_) | (refine Zew rfl Zia ?_)); (first | (refine Zew rfl (Val_loadR1 rfl hb0 hc0) ?_) | (refine Zew rfl Zld ?_)); refine Zew rfl Zxbu ?_)) | (with_reducible apply EWalk_nil) | (refine GiO ?_; first | (refine AnyO_done (by kernel_rfl) ?_; (try with_reducible apply noP_normal); try with_reducible exact key.out) | (refine AnyO_1 8 (by decide +kernel) rfl ?_)) | (refine Zhn ?_) | (refine AWalk_1S (d := 3) rfl rfl rfl rfl blk_is New_alloc (fun b3 => ?_); refine ZisO ?_) | (with_reducible apply QAny_normal))
  have hF : hullI l = (l.take l.length).foldl (fun (a : Sp) x => (min a.1 x, max a.2 x)) (x0, x0) := by unfold hullI; rw [hg0, List.take_length]
  refine WP_loop [4, 12, 13, 14, 15, 16, 17, 18, 19, 20, 21, 22, 23, 24, 25, 26, 27, 28, 29, 30, 31, 32] (fun k : Nat => [(4, .int .i64 (k : Int))]) (fun k => (b3, Blk 28 [.int .i64 ((l.take k).foldl (fun (a : Sp) x => (min a.1 x, max a.2 x)) (x0, x0)).1, .int .i64 ((l.take k).foldl (fun (a : Sp) x => (min a.1 x, max a.2 x)) (x0, x0)).2]) :: (b2, Blk 28 [.int .i64 0, .int .i64 0]) :: L) (fun k => k ≤ l.length) (fun k => l.length - k) 0 (.cons rfl .nil) (Wk.refl _) (Nat.zero_le _) ?_
  intro k j hk
  by_cases hkl : k < l.length
  · obtain ⟨x, hx⟩ : ∃ x, l[k]? = some x := ⟨_, List.getElem?_eq_getElem hkl⟩
    obtain ⟨bA, oA, hA1, hbA, hcA⟩ := hL.get hx
    have hsn := hullI_take l k hkl
    rw [hg0, (List.getElem?_eq_some_iff.1 hx).2] at hsn
    obtain ⟨⟨f1, f2⟩, hf⟩ : ∃ f, (l.take k).foldl (fun (a : Sp) x => (min a.1 x, max a.2 x)) (x0, x0) = f := ⟨_, rfl⟩
    rw [hf] at hsn ⊢
    dsimp only at hsn ⊢
    repeat' (first | (refine GiP ?_; first | (refine Znh ?_) | (with_reducible refine Znl ?_) | (refine Zatn ?_; refine Zst ?_)) | (refine GiW ?_; first | (refine Zsq fun K hK => ?_) | (refine ZrN 3 fun _ => ?_; refine Zv Zmi ?_; refine Zv Zmv ?_; refine Zv Zxlen ?_; refine Zv Zylss ?_) | (refine ZrN 4 fun _ => ?_; refine Zv Zmi ?_; refine Zv Zxadd ?_; refine Zv Zai ?_) | (refine WP_cond_true rfl ?_) | (with_reducible apply WP_skip) | (with_reducible apply WP_block) | (refine WP_drawn (id := 5) [0, 1, 2, 3, 4, 5, 6, 7, 8, 9, 10, 11, 12, 13, 14] [] (k := 1) prog_mixed (by kernel_rfl) rfl ?_; refine Zew rfl Zf0 ?_; (first | (refine Zew rfl (Val_loadR1 rfl hbA hcA) ?_) | (refine Zew rfl Zld ?_)); refine Zew rfl Zmv ?_; refine Zew rfl Zmi ?_; (first | (refine Zew rfl (Val_indexAddrE1 rfl hA1 rfl rfl hkl) ?_) | (refine Zew rfl Zia ?_)); (first | (refine Zew rfl (Val_loadR1 rfl hbA hcA) ?_) | (refine Zew rfl Zld ?_)); refine Zew rfl Zxmin ?_; refine Zew rfl Zfa ?_; (first | (refine Zew rfl (Val_loadR1 rfl hbA hcA) ?_) | (refine Zew rfl Zld ?_)); refine Zew rfl Zmv ?_; refine Zew rfl Zmi ?_; (first | (refine Zew rfl (Val_indexAddrE1 rfl hA1 rfl rfl hkl) ?_) | (refine Zew rfl Zia ?_)); (first | (refine Zew rfl (Val_loadR1 rfl hbA hcA) ?_) | (refine Zew rfl Zld ?_)); refine Zew rfl Zxmax ?_; refine Zew rfl Zxbu ?_)) | (with_reducible apply EWalk_nil) | (refine GiO ?_; first | (refine AnyO_done (by kernel_rfl) ?_; (try with_reducible apply noP_normal); try with_reducible exact key.out) | (refine AnyO_1 15 (by decide +kernel) rfl ?_)) | (refine Zhn ?_) | (with_reducible apply QBlock_normal) | (refine AWalk_0 ?_; refine ZisO ?_) | (with_reducible apply QAny_normal))
    refine QLoop_normal (k + 1) (.cons rfl .nil) (by repeat (first | exact Off.frame rfl | exact Off.refl _ _ | refine Off.frameT rfl rfl ?_ | refine Off.upd rfl ?_ | refine Off.updO rfl ?_)) ?_ (by omega) (by omega)
    rw [hsn]
    exact (by repeat (first | exact Wk.refl _ | apply Wk.keep1 | apply Wk.drop | apply Wk.sv | apply Wk.svD | apply Wk.appD))
  · have hke : k = l.length := by omega
    subst hke
    rw [← hF]
    repeat' (first | (refine Znh ?_) | (refine GiW ?_; first | (refine Zsq fun K hK => ?_) | (refine ZrN 3 fun _ => ?_; refine Zv Zmi ?_; refine Zv Zmv ?_; refine Zv Zxlen ?_; refine Zv Zylss ?_) | (refine ZrN 6 fun _ => ?_; refine Zv Zla ?_; refine Zst ?_) | (refine WP_cond_false rfl ?_) | (with_reducible apply WP_exit) | (with_reducible apply WP_ret)) | (refine Zhn ?_) | (refine Zhx ?_) | (with_reducible apply QBlock_hit) | (with_reducible apply QLoop_exit))
    exact QBody_res rfl (.cellN rfl (by repeat (first | exact Mem.here | assumption | apply Mem.there | apply Mem.sv | apply Mem.app)) (.here (.cons (.cons .nil))) .nil) rfl ⟨rfl, (by repeat (first | exact Wk.refl _ | apply Wk.keep1 | apply Wk.drop | apply Wk.sv | apply Wk.svD | apply Wk.appD))⟩
/-- 'hull' of what was laid anew. -/
theorem rhull_in (L : Hp) (v : Value) (l : List Int) (X : Hp) (h : RdL X v l) (hk : Wk L X) (hne : 0 < l.length) (hll : l.length ≤ 1000000) : Ret Try.prog N w0 L 52 [v].toArray (.agg [.int .i64 (hullI l).1, .int .i64 (hullI l).2].toArray) := Ret.re fun w hI => by
  obtain ⟨A, c, rfl, h2⟩ := h.now hI hk
  exact rhull_ret w.heap.size w [] A c l h2 hne hll
/-- What is cut by a day, of all ways. -/
def cutL (s : Sd) (d : Nat) (l : List Wy) : List Int := l.flatMap fun t => (t.2.getD d []).map (cutS s.spits t.1 0)
theorem cutL_snoc (s : Sd) (d : Nat) (l : List Wy) (k : Nat) (hk : k < l.length) : cutL s d (l.take (k + 1)) = cutL s d (l.take k) ++ (l[k].2.getD d []).map (cutS s.spits l[k].1 0) := by
  unfold cutL
  rw [List.take_succ_eq_append_getElem hk, List.flatMap_append, List.flatMap_singleton]
/-- What is known of ways. -/
structure WyOk (s : Sd) (l : List Wy) : Prop where
  n : l.length ≤ 27
  c : ∀ t ∈ l, CIn s.spits t.1 ∧ t.1.length = s.spits.length ∧ t.2.length = s.days.length ∧ ∀ r ∈ t.2, r.length ≤ 601 ∧ ∀ x ∈ r, 0 ≤ x ∧ x ≤ 600
set_option maxHeartbeats 2000000 in
theorem rcut_tri (L : Hp) (g : Fg) (hA : SodAt N w0 g) (hv : VS g.s) (A : Option Addr) (c : Nat) (l : List Wy) (hW : IsWs N w0 A l) (hok : WyOk g.s l) (d : Nat) (hd : d < g.s.days.length) :
    Tri Try.prog N w0 L 53 [sodV g, .slice A l.length c, .int .i64 (d : Int)].toArray fun y L2 => ∃ v, y = .returned v ∧ ∃ X, RdL X v (cutL g.s d l) ∧ L2 = X ++ L := by
  refine Tri.fgt ?_
  refine tri_of_WP Try.func53 rfl (n := 51) rfl (by simp) ?_
  unfold sodV sdL
  repeat' (first | (refine Znh ?_) | (refine GiW ?_; first | (refine Zsq fun K hK => ?_) | (refine ZrN 0 fun _ => ?_; refine Zal 3 fun b3 => ?_; refine Zv Zav ?_) | (refine ZrN 1 fun _ => ?_; refine Zv Zav ?_) | (refine ZrN 2 fun _ => ?_; refine Zv Zai ?_) | (with_reducible apply WP_block)))
  refine WP_loop [7, 8, 9, 10, 11, 12, 13, 14, 15, 16, 17, 18, 19, 20, 21, 22, 23, 24, 25, 26, 27, 28, 29, 30, 31, 32, 33, 34, 35, 36, 37, 38, 39, 40, 41, 42, 43, 44, 45, 46, 47, 48, 49] (fun st : Nat × List Int × Option (Nat × Nat) => [(7, svV st.2.2 st.2.1.length), (8, .int .i64 (st.1 : Int))]) (fun st => svH 3 1 st.2.1.length (intL st.2.1) st.2.2 ((b3, Blk 26 (sdL g)) :: L)) (fun st => st.1 ≤ l.length ∧ st.2.1 = cutL g.s d (l.take st.1) ∧ st.2.1.length ≤ st.1 * 601 ∧ svOk st.2.2 1 st.2.1.length (intL st.2.1)) (fun st => l.length - st.1) (0, [], none) (.cons rfl (.cons rfl .nil)) (Wk.refl _) ⟨Nat.zero_le _, by simp [cutL], Nat.zero_le _, svOk_nil _⟩ ?_
  rintro ⟨k, rows, s⟩ j ⟨hk, hrows, hrl, hs⟩
  dsimp only at hk hrows hrl hs ⊢
  have hln := hok.n
  unfold sdL
  by_cases hkl : k < l.length
  · obtain ⟨⟨cs, tt⟩, hte⟩ : ∃ t, l[k]? = some t := ⟨_, List.getElem?_eq_getElem hkl⟩
    obtain ⟨hcin, hcl, htl, hr⟩ := hok.c _ (List.mem_of_getElem? hte)
    dsimp only at hcin hcl htl hr
    obtain ⟨bW, oW, hW1, hbW, Au, cu, At, ct, hc0, hc1, hLc, hrw⟩ := hW k _ hte
    dsimp only at hc0 hc1 hLc hrw
    obtain ⟨row, hrow⟩ : ∃ r, tt[d]? = some r := ⟨_, List.getElem?_eq_getElem (by omega)⟩
    obtain ⟨bR, oR, Ar, cr, hR1, hbR, hcR, hLr⟩ := hrw d row hrow
    obtain ⟨hrl2, hrb⟩ := hr row (List.mem_of_getElem? hrow)
    have hsn := cutL_snoc g.s d l k hkl
    rw [← hrows, (List.getElem?_eq_some_iff.1 hte).2, List.getD_eq_getElem?_getD, hrow, Option.getD_some] at hsn
    rw [hcl] at hc0
    have hdt : d < tt.length := by omega
    have LD : True := trivial
    repeat' (first | (refine Znh ?_) | (refine GiW ?_; first | (refine Zsq fun K hK => ?_) | (refine ZrN 3 fun _ => ?_; refine Zv Zmi ?_; refine Zv Zmv ?_; refine Zv Zxlen ?_; refine Zv Zylss ?_) | (refine ZrN 5 fun _ => ?_; refine Zv Zai ?_) | (refine WP_cond_true rfl ?_) | (with_reducible apply WP_skip) | (with_reducible apply WP_block)) | (refine Zhn ?_))
    refine WP_loop [7, 9, 16, 17, 18, 19, 20, 21, 22, 23, 24, 25, 26, 27, 28, 29, 30, 31, 32, 33, 34, 35, 36, 37, 38, 39, 40, 41, 42, 43, 44, 45, 46, 47, 48, 49] (fun st : Nat × List Int × Option (Nat × Nat) => [(7, svV st.2.2 st.2.1.length), (9, .int .i64 (st.1 : Int))]) (fun st => svH 3 1 st.2.1.length (intL st.2.1) st.2.2 ((b3, Blk 26 (sdL g)) :: L)) (fun st => st.1 ≤ row.length ∧ st.2.1 = rows ++ (row.take st.1).map (cutS g.s.spits cs 0) ∧ svOk st.2.2 1 st.2.1.length (intL st.2.1)) (fun st => row.length - st.1) (0, rows, s) (.cons rfl (.cons rfl .nil)) (Wk.refl _) ⟨Nat.zero_le _, by simp, hs⟩ ?_
    rintro ⟨i, rw1, s1⟩ j2 ⟨hi, hrw1, hs1⟩
    dsimp only at hi hrw1 hs1 ⊢
    unfold sdL
    have hr1l : rw1.length = rows.length + i := by rw [hrw1, List.length_append, List.length_map, List.length_take]; omega
    by_cases hil : i < row.length
    · obtain ⟨x, hx⟩ : ∃ x, row[i]? = some x := ⟨_, List.getElem?_eq_getElem hil⟩
      obtain ⟨bX, oX, hX1, hbX, hcX⟩ := hLr.get hx
      have hxb := hrb x (List.mem_of_getElem? hx)
      have hsd := fun L' => rsods_ret N w0 L' g hA hv Au cu cs hLc hcin hcl x (by omega)
      obtain ⟨C, hC⟩ : ∃ C, cutS g.s.spits cs 0 x = C := ⟨_, rfl⟩
      have hnext : rows ++ (row.take (i + 1)).map (cutS g.s.spits cs 0) = rw1 ++ [C] := by
        rw [hrw1, List.take_succ_eq_append_getElem hil, (List.getElem?_eq_some_iff.1 hx).2, List.map_append, ← hC, List.append_assoc]; rfl
      rw [hC] at hsd
      unfold sodV sdL at hsd
      repeat' (first | (refine GiP ?_; first | (refine Znh ?_) | (with_reducible refine Znl ?_) | (refine Zatd 49 ?_; refine Zag (fun s49 hs49 => ?_)) | (refine Zatd 7 ?_; refine Zv Zav ?_)) | (refine GiW ?_; first | (refine Zsq fun K hK => ?_) | (refine ZrN 6 fun _ => ?_; refine Zv Zmi ?_; refine Zv Zmv ?_; refine Zv Zmi ?_; (first | (refine Zv (Val_indexAddrE rfl hW1 rfl rfl hkl) ?_) | (refine Zv (Val_indexAddrE1 rfl hR1 rfl rfl hdt) ?_) | (refine Zv (Val_indexAddrE1 rfl hX1 rfl rfl hil) ?_) | (refine Zv Zia ?_)); refine Zv Zfa ?_; (first | (refine Zv (Val_loadR1 rfl hbW hc0) ?_) | (refine Zv (Val_loadR1 rfl hbW hc1) ?_) | (refine Zv (Val_loadR1 rfl hbR hcR) ?_) | (refine Zv (Val_loadR1 rfl hbX hcX) ?_) | (refine Zv Zld ?_)); refine Zv Zmi ?_; (first | (refine Zv (Val_indexAddrE rfl hW1 rfl rfl hkl) ?_) | (refine Zv (Val_indexAddrE1 rfl hR1 rfl rfl hdt) ?_) | (refine Zv (Val_indexAddrE1 rfl hX1 rfl rfl hil) ?_) | (refine Zv Zia ?_)); (first | (refine Zv (Val_loadR1 rfl hbW hc0) ?_) | (refine Zv (Val_loadR1 rfl hbW hc1) ?_) | (refine Zv (Val_loadR1 rfl hbR hcR) ?_) | (refine Zv (Val_loadR1 rfl hbX hcX) ?_) | (refine Zv Zld ?_)); refine Zv Zxlen ?_; refine Zv Zylss ?_) | (refine ZrN 7 fun _ => ?_; refine Zv Zmi ?_; refine Zv Zxadd ?_; refine Zv Zai ?_) | (refine WP_cond_true rfl ?_) | (with_reducible apply WP_skip) | (with_reducible apply WP_block) | (refine WP_drawnS (id := 8) [] [0, 1, 2, 3, 4, 5, 6, 7, 8, 9, 10, 11, 12, 13, 14, 15, 16, 17, 18] [19] [] (k := 0) (k2 := 2) (by repeat (first | apply Sub.sv | apply Sub.keep | apply Sub.appK | exact Sub.refl _)) (by kernel_rfl) prog_mixed (by kernel_rfl) (by kernel_rfl) rfl ?_; refine Zew rfl Zmv ?_; (first | (refine Zew rfl (Val_loadR1 rfl hbW hc0) ?_) | (refine Zew rfl (Val_loadR1 rfl hbW hc1) ?_) | (refine Zew rfl (Val_loadR1 rfl hbR hcR) ?_) | (refine Zew rfl (Val_loadR1 rfl hbX hcX) ?_) | (refine Zew rfl Zla ?_)); refine Zew rfl Zmv ?_; refine Zew rfl Zmi ?_; (first | (refine Zew rfl (Val_indexAddrE rfl hW1 rfl rfl hkl) ?_) | (refine Zew rfl (Val_indexAddrE1 rfl hR1 rfl rfl hdt) ?_) | (refine Zew rfl (Val_indexAddrE1 rfl hX1 rfl rfl hil) ?_) | (refine Zew rfl Zia ?_)); refine Zew rfl Zf0 ?_; (first | (refine Zew rfl (Val_loadR1 rfl hbW hc0) ?_) | (refine Zew rfl (Val_loadR1 rfl hbW hc1) ?_) | (refine Zew rfl (Val_loadR1 rfl hbR hcR) ?_) | (refine Zew rfl (Val_loadR1 rfl hbX hcX) ?_) | (refine Zew rfl Zld ?_)); refine Zew rfl Zmv ?_; refine Zew rfl Zmi ?_; (first | (refine Zew rfl (Val_indexAddrE rfl hW1 rfl rfl hkl) ?_) | (refine Zew rfl (Val_indexAddrE1 rfl hR1 rfl rfl hdt) ?_) | (refine Zew rfl (Val_indexAddrE1 rfl hX1 rfl rfl hil) ?_) | (refine Zew rfl Zia ?_)); refine Zew rfl Zfa ?_; (first | (refine Zew rfl (Val_loadR1 rfl hbW hc0) ?_) | (refine Zew rfl (Val_loadR1 rfl hbW hc1) ?_) | (refine Zew rfl (Val_loadR1 rfl hbR hcR) ?_) | (refine Zew rfl (Val_loadR1 rfl hbX hcX) ?_) | (refine Zew rfl Zld ?_)); refine Zew rfl Zmi ?_; (first | (refine Zew rfl (Val_indexAddrE rfl hW1 rfl rfl hkl) ?_) | (refine Zew rfl (Val_indexAddrE1 rfl hR1 rfl rfl hdt) ?_) | (refine Zew rfl (Val_indexAddrE1 rfl hX1 rfl rfl hil) ?_) | (refine Zew rfl Zia ?_)); (first | (refine Zew rfl (Val_loadR1 rfl hbW hc0) ?_) | (refine Zew rfl (Val_loadR1 rfl hbW hc1) ?_) | (refine Zew rfl (Val_loadR1 rfl hbR hcR) ?_) | (refine Zew rfl (Val_loadR1 rfl hbX hcX) ?_) | (refine Zew rfl Zld ?_)); refine Zew rfl Zmi ?_; (first | (refine Zew rfl (Val_indexAddrE rfl hW1 rfl rfl hkl) ?_) | (refine Zew rfl (Val_indexAddrE1 rfl hR1 rfl rfl hdt) ?_) | (refine Zew rfl (Val_indexAddrE1 rfl hX1 rfl rfl hil) ?_) | (refine Zew rfl Zia ?_)); (first | (refine Zew rfl (Val_loadR1 rfl hbW hc0) ?_) | (refine Zew rfl (Val_loadR1 rfl hbW hc1) ?_) | (refine Zew rfl (Val_loadR1 rfl hbR hcR) ?_) | (refine Zew rfl (Val_loadR1 rfl hbX hcX) ?_) | (refine Zew rfl Zld ?_)); refine Zec rfl (Enters_fn rfl) (fun X => hsd _) ?_)) | (with_reducible apply EWalk_nil) | (refine ZgC [0, 1, 2, 3, 4, 5, 6, 7, 8, 9, 10, 11, 12, 13, 14, 15, 16, 17, 18, 19] ?_; refine ZCl _ ?_) | (refine GiO ?_; first | (refine ZgO [0, 1, 2, 3, 4, 5, 6, 7, 8, 9, 10, 11, 12, 13, 14, 15, 16, 17, 18, 19] ?_; refine ZO1 _ 20 [0, 1, 2, 3, 4, 5, 6, 7, 8, 9, 10, 11, 12, 13, 14, 15, 16, 17, 18, 19, 20] ?_) | (refine ZgO [0, 1, 2, 3, 4, 5, 6, 7, 8, 9, 10, 11, 12, 13, 14, 15, 16, 17, 18, 19, 20] ?_; refine ZO1 _ 21 [0, 1, 2, 3, 4, 5, 6, 7, 8, 9, 10, 11, 12, 13, 14, 15, 16, 17, 18, 19, 20, 21] ?_) | (refine ZgO [0, 1, 2, 3, 4, 5, 6, 7, 8, 9, 10, 11, 12, 13, 14, 15, 16, 17, 18, 19, 20, 21] ?_; refine ZOd _ ?_; (try with_reducible apply noP_normal); (try with_reducible exact key.out))) | (refine Zhn ?_) | (with_reducible apply QBlock_normal) | (refine AWalk_1S (d := 48) rfl rfl rfl rfl blk_is (New_buildSliceR rfl rfl (by repeat (first | exact CellsR.nil | (apply CellsR.cA rfl) | (apply CellsR.c1S (by constructor) rfl))) rfl (by decide) rfl (by decide)) (fun b48 => ?_)) | (with_reducible apply QAny_normal))
      have e1 : (rw1 ++ [C]).length = rw1.length + 1 := by rw [List.length_append]; rfl
      refine QLoop_normal (i + 1, rw1 ++ [C], s49) (.cons (by dsimp only; rw [e1]; rfl) (.cons rfl .nil)) (by repeat (first | exact Off.frame rfl | exact Off.refl _ _ | refine Off.frameT rfl rfl ?_ | refine Off.upd rfl ?_ | refine Off.updO rfl ?_)) ?_ ⟨by dsimp only; omega, hnext.symm, by dsimp only; rw [e1, intL_snoc]; exact hs49⟩ (by dsimp only; omega)
      dsimp only
      rw [e1, intL_snoc]
      exact (by repeat (first | exact Wk.refl _ | apply Wk.keep1 | apply Wk.drop | apply Wk.sv | apply Wk.svD | apply Wk.appD))
    · have hie : i = row.length := by omega
      subst hie
      rw [List.take_length] at hrw1
      repeat' (first | (refine GiP ?_; first | (refine Znh ?_) | (with_reducible refine Znl ?_)) | (refine GiW ?_; first | (refine Zsq fun K hK => ?_) | (refine ZrN 6 fun _ => ?_; refine Zv Zmi ?_; refine Zv Zmv ?_; refine Zv Zmi ?_; (first | (refine Zv (Val_indexAddrE rfl hW1 rfl rfl hkl) ?_) | (refine Zv (Val_indexAddrE1 rfl hR1 rfl rfl hdt) ?_) | (refine Zv Zia ?_)); refine Zv Zfa ?_; (first | (refine Zv (Val_loadR1 rfl hbW hc1) ?_) | (refine Zv (Val_loadR1 rfl hbR hcR) ?_) | (refine Zv Zld ?_)); refine Zv Zmi ?_; (first | (refine Zv (Val_indexAddrE rfl hW1 rfl rfl hkl) ?_) | (refine Zv (Val_indexAddrE1 rfl hR1 rfl rfl hdt) ?_) | (refine Zv Zia ?_)); (first | (refine Zv (Val_loadR1 rfl hbW hc1) ?_) | (refine Zv (Val_loadR1 rfl hbR hcR) ?_) | (refine Zv Zld ?_)); refine Zv Zxlen ?_; refine Zv Zylss ?_) | (refine ZrN 4 fun _ => ?_; refine Zv Zmi ?_; refine Zv Zxadd ?_; refine Zv Zai ?_) | (refine WP_cond_false rfl ?_) | (with_reducible apply WP_exit)) | (refine Zhn ?_) | (with_reducible apply QBlock_normal) | (refine Zhx ?_) | (with_reducible apply QBlock_hit) | (with_reducible apply QLoop_exit))
      exact QLoop_normal (k + 1, rw1, s1) (.cons rfl (.cons rfl .nil)) (by repeat (first | exact Off.frame rfl | exact Off.refl _ _ | refine Off.frameT rfl rfl ?_ | refine Off.upd rfl ?_ | refine Off.updO rfl ?_)) (by repeat (first | exact Wk.refl _ | apply Wk.keep1 | apply Wk.drop | apply Wk.sv | apply Wk.svD | apply Wk.appD)) ⟨by dsimp only; omega, by dsimp only; rw [hsn, hrw1], by dsimp only; omega, hs1⟩ (by dsimp only; omega)
  · have hke : k = l.length := by omega
    subst hke
    rw [List.take_length] at hrows
    subst hrows
    repeat' (first | (refine Znh ?_) | (refine GiW ?_; first | (refine Zsq fun K hK => ?_) | (refine ZrN 3 fun _ => ?_; refine Zv Zmi ?_; refine Zv Zmv ?_; refine Zv Zxlen ?_; refine Zv Zylss ?_) | (refine ZrN 9 fun _ => ?_; refine Zv Zmv ?_; refine Zv Zav ?_) | (refine WP_cond_false rfl ?_) | (with_reducible apply WP_exit) | (with_reducible apply WP_ret)) | (refine Zhn ?_) | (refine Zhx ?_) | (with_reducible apply QBlock_hit) | (with_reducible apply QLoop_exit))
    refine QBody_ret1 rfl rfl ⟨svH 3 1 (cutL g.s d l).length (intL (cutL g.s d l)) s [] ++ L, ?_, _, rfl, _, RdL.sv hs, rfl⟩
    rw [← svH_app]
    exact (by repeat (first | exact Wk.refl _ | apply Wk.keep1 | apply Wk.drop | apply Wk.sv | apply Wk.svD | apply Wk.appD))
end
end Go.Proofs.Ytkaadefndcbdnaa
end

section
namespace Go.Proofs.Ytkaadefndcbdnaa
open Go.RowKit
theorem errE_ok {s : Sd} {ok : Bool} (h : errE s ok = 0) : vB s = true ∧ ok = true ∧ someB s = true := by
  unfold errE at h
  cases h1 : vB s <;> cases ok <;> cases h3 : someB s <;> simp_all
theorem pickL_full {α : Type} {x : Nat} : ∀ (ls : List α) (k : Nat), (∀ j, j < ls.length → x / 2 ^ (k + j) % 2 = 1) → pickL x ls k = ls
  | [], _, _ => rfl
  | a :: ls, k, h => by
    unfold pickL
    have h0 := h 0 (by simp)
    rw [Nat.add_zero] at h0
    rw [if_pos h0, pickL_full ls (k + 1) fun j hj => by
      have := h (j + 1) (by simpa using hj)
      rwa [show k + (j + 1) = k + 1 + j by omega] at this]
theorem only_ev {s : Sd} (v : VS s) : only s (evN s) = s := by
  unfold only evN
  rw [pickL_full _ _ fun j hj => by rw [Nat.zero_add]; exact evL_bit _ (by have := v.nl; omega) j hj]
theorem ways_mem {s : Sd} (v : VS s) {t : Wy} : t ∈ waysP s (evN s) ↔ t.1 ∈ allR (s.spits.map costR) ∧ canS s t.1 = true ∧ t.2 = (daysS s t.1).map vals := by
  unfold waysP
  rw [List.mem_filterMap]
  constructor
  · rintro ⟨cs, hcs, h⟩
    unfold wyP wayL at h
    rw [only_ev v] at h
    split at h
    · rename_i hc
      obtain rfl := Option.some.inj h
      exact ⟨hcs, hc, rfl⟩
    · cases h
  · rintro ⟨h1, h2, h3⟩
    refine ⟨t.1, h1, ?_⟩
    unfold wyP wayL
    rw [only_ev v, if_pos h2, if_pos h2, ← h3]
section
variable {s : Sd} (v : VS s)
include v
theorem way_told {t : Wy} (h : t ∈ waysP s (evN s)) : (CIn s.spits t.1 ∧ t.1.length = s.spits.length) ∧ pad3 t.1 ∈ toldC s ∧ t.2.length = s.days.length ∧ ∀ (d : Nat), d < s.days.length → t.2[d]? = some (vals (dayS s (pad3 t.1) d)) := by
  obtain ⟨h1, h2, h3⟩ := (ways_mem v).1 h
  have hcin : CIn s.spits t.1 := by have := allR_cin (z := []) h1; rwa [List.append_nil] at this
  have hcl : t.1.length = s.spits.length := by rw [allR_len _ _ h1, List.length_map]
  have ht : pad3 t.1 ∈ toldC s := List.mem_filter.2 ⟨List.mem_map.2 ⟨t.1, h1, rfl⟩, by rw [canS_pad hcin]; exact h2⟩
  have hdl := days_len v ht
  rw [daysS_pad hcin] at hdl
  refine ⟨⟨hcin, hcl⟩, ht, by rw [h3, List.length_map]; exact hdl, fun d hd => ?_⟩
  have hg := days_get v ht hd
  rw [daysS_pad hcin] at hg
  rw [h3, List.getElem?_map, hg]; rfl
theorem told_way {c : List Int} (h : c ∈ toldC s) : ∃ t, t ∈ waysP s (evN s) ∧ c = pad3 t.1 := by
  obtain ⟨h1, h2⟩ := List.mem_filter.1 h
  obtain ⟨cs, hcs, rfl⟩ := List.mem_map.1 h1
  have hcin : CIn s.spits cs := by have := allR_cin (z := []) hcs; rwa [List.append_nil] at this
  exact ⟨(cs, (daysS s cs).map vals), (ways_mem v).2 ⟨hcs, by rw [← canS_pad hcin]; exact h2, rfl⟩, rfl⟩
theorem ways_ok : WyOk s (waysP s (evN s)) := by
  refine ⟨Nat.le_trans (fm_le _ _) (costs_cnt v), fun t ht => ?_⟩
  obtain ⟨⟨h1, h2⟩, h3, h4, h5⟩ := way_told v ht
  refine ⟨h1, h2, h4, fun r hr => ?_⟩
  obtain ⟨d, hd⟩ := List.mem_iff_getElem?.1 hr
  have hdl : d < s.days.length := by have := (List.getElem?_eq_some_iff.1 hd).1; omega
  rw [h5 d hdl] at hd
  obtain rfl := Option.some.inj hd
  have hb := day_bd v h3 hdl
  refine ⟨by rw [vals_length]; omega, fun x hx => ?_⟩
  have := vals_iff.1 hx
  omega
/-- What is read of all ways, by a day. -/
theorem day_mem {d : Nat} (hd : d < s.days.length) (f : List Int → Int → Int) (n : Int) : n ∈ ((waysP s (evN s)).flatMap fun t => (t.2.getD d []).map (f (pad3 t.1))) ↔ ∃ c ts t, Tru s c ts ∧ ts[d]? = some t ∧ n = f c t := by
  rw [List.mem_flatMap]
  constructor
  · rintro ⟨t, ht, hn⟩
    obtain ⟨_, h3, _, h5⟩ := way_told v ht
    rw [List.getD_eq_getElem?_getD, h5 d hd, Option.getD_some] at hn
    obtain ⟨u, hu, rfl⟩ := List.mem_map.1 hn
    obtain ⟨ts, h6, h7⟩ := (day_iff v h3 hd u).1 (vals_iff.1 hu)
    exact ⟨_, ts, u, h6, h7, rfl⟩
  · rintro ⟨c, ts, u, h1, h2, rfl⟩
    have hc : c ∈ toldC s := (told_iff v).2 ⟨ts, h1⟩
    obtain ⟨t, ht, rfl⟩ := told_way v hc
    obtain ⟨_, h3, _, h5⟩ := way_told v ht
    refine ⟨t, ht, ?_⟩
    rw [List.getD_eq_getElem?_getD, h5 d hd, Option.getD_some]
    exact List.mem_map.2 ⟨u, vals_iff.2 ((day_iff v h3 hd u).2 ⟨ts, h1, h2⟩), rfl⟩
theorem cutL_len {d : Nat} (hd : d < s.days.length) : (cutL s d (waysP s (evN s))).length ≤ 1000000 := by
  have hok := ways_ok v
  have : ∀ l : List Wy, (∀ t ∈ l, (t.2.getD d []).length ≤ 601) → (cutL s d l).length ≤ l.length * 601 := by
    intro l
    induction l with
    | nil => intro _; simp [cutL]
    | cons t l ih =>
      intro h
      have h1 := ih fun x hx => h x (.tail _ hx)
      have h2 := h t (.head _)
      unfold cutL at h1 ⊢
      rw [List.flatMap_cons, List.length_append, List.length_map, List.length_cons]
      omega
  have h1 := this _ fun t ht => by
    obtain ⟨_, h2, h3, h4⟩ := hok.c t ht
    rw [List.getD_eq_getElem?_getD, List.getElem?_eq_getElem (by omega), Option.getD_some]
    exact (h4 _ (List.getElem_mem _)).1
  have h2 := hok.n
  omega
theorem cutL_eq (d : Nat) : cutL s d (waysP s (evN s)) = (waysP s (evN s)).flatMap fun t => (t.2.getD d []).map (cutS s.spits (pad3 t.1) 0) := by
  unfold cutL
  rw [List.flatMap_def, List.flatMap_def]
  congr 1
  apply List.map_congr_left
  intro t ht
  obtain ⟨⟨h1, _⟩, _⟩ := way_told v ht
  apply List.map_congr_left
  intro x _
  unfold pad3
  rw [cutS_app _ _ _ h1]
theorem cutL_hull (h0 : toldC s ≠ []) {d : Nat} (hd : d < s.days.length) : 0 < (cutL s d (waysP s (evN s))).length ∧ hullI (cutL s d (waysP s (evN s))) = cutV s d := by
  have hm := day_mem v hd (fun c t => cutS s.spits c 0 t)
  rw [cutL_eq v d]
  have hh := cut_hull v h0 hd
  have hne : ((waysP s (evN s)).flatMap fun t => (t.2.getD d []).map (cutS s.spits (pad3 t.1) 0)) ≠ [] := List.ne_nil_of_mem ((hm _).2 hh.1)
  exact ⟨List.length_pos_iff.2 hne, (hullI_hull hne).uniq (hh.congr fun n => (hm n).symm)⟩
end
attribute [local irreducible] AnyO AnyB QAny QB EWalk AWalk Ev WP OPS QThen QBlock QScope QLoop QBody Val New Turn Tri Enters PostA Blk Ro
attribute [local irreducible] AnyC QC
section
variable (N : Nat) (w0 : World)
theorem rcut_in (L : Hp) (g : Fg) (hA : SodAt N w0 g) (hv : VS g.s) (va : Value) (X : Hp) (l : List Wy) (h : RdT X va l) (hk : Wk L X) (hok : WyOk g.s l) (d : Nat) (hd : d < g.s.days.length) :
    Tri Try.prog N w0 L 53 [sodV g, va, .int .i64 (d : Int)].toArray fun y L2 => ∃ v, y = .returned v ∧ ∃ X, RdL X v (cutL g.s d l) ∧ L2 = X ++ L := by
  have := Tri.re2 (P := Try.prog) (N := N) (w0 := w0) (L := L) (f := 53) (args := [sodV g, va, .int .i64 (d : Int)].toArray) (K := fun v X => RdL X v (cutL g.s d l)) (fun w hI => by
    obtain ⟨A, c, rfl, hW⟩ := h.now hI hk
    refine (rcut_tri w.heap.size w [] g (SodIn.at_ hA w hI) hv A c l hW hok d hd).mono ?_
    rintro y L2 ⟨v, rfl, X1, h1, rfl⟩
    exact ⟨_, rfl, X1, rfl, h1⟩)
  refine this.mono ?_
  rintro y L2 ⟨v, rfl, X2, rfl, h⟩
  exact ⟨_, rfl, X2, h, rfl⟩
end
end Go.Proofs.Ytkaadefndcbdnaa
end

section
namespace Go.Proofs.Ytkaadefndcbdnaa
open Go.RowKit
def costL (l : List Wy) (p : Nat) : List Int := l.map fun t => t.1.getD p 0
theorem costL_hull {s : Sd} (v : VS s) (h0 : toldC s ≠ []) {p : Nat} (hp : p < s.spits.length) : 0 < (costL (waysP s (evN s)) p).length ∧ (costL (waysP s (evN s)) p).length ≤ 1000000 ∧ hullI (costL (waysP s (evN s)) p) = costV s p := by
  have hm : ∀ n, n ∈ costL (waysP s (evN s)) p ↔ ∃ c ts, Tru s c ts ∧ n = c.getD p 0 := by
    intro n
    unfold costL
    rw [List.mem_map]
    have hpad : ∀ cs : List Int, p < cs.length → (pad3 cs).getD p 0 = cs.getD p 0 := fun cs h => by
      unfold pad3
      rw [List.getD_eq_getElem?_getD, List.getElem?_append_left h, List.getD_eq_getElem?_getD]
    constructor
    · rintro ⟨t, ht, rfl⟩
      obtain ⟨⟨_, h2⟩, h3, _⟩ := way_told v ht
      obtain ⟨ts, h4⟩ := (told_iff v).1 h3
      exact ⟨_, ts, h4, (hpad _ (by omega)).symm⟩
    · rintro ⟨c, ts, h1, rfl⟩
      obtain ⟨t, ht, rfl⟩ := told_way v ((told_iff v).2 ⟨ts, h1⟩)
      obtain ⟨⟨_, h2⟩, _⟩ := way_told v ht
      exact ⟨t, ht, (hpad _ (by omega)).symm⟩
  have hh := cost_hull v h0 p
  have hne : costL (waysP s (evN s)) p ≠ [] := List.ne_nil_of_mem ((hm _).2 hh.1)
  have hok := ways_ok v
  exact ⟨List.length_pos_iff.2 hne, by unfold costL; rw [List.length_map]; have := hok.n; omega, (hullI_hull hne).uniq (hh.congr fun n => (hm n).symm)⟩
def needL (s : Sd) (d : Nat) (l : List Wy) : List Int := l.flatMap fun t => (t.2.getD d []).map fun x => max 0 (totC s.spits t.1 - x)
theorem needL_snoc (s : Sd) (d : Nat) (l : List Wy) (k : Nat) (hk : k < l.length) : needL s d (l.take (k + 1)) = needL s d (l.take k) ++ (l[k].2.getD d []).map fun x => max 0 (totC s.spits l[k].1 - x) := by
  unfold needL
  rw [List.take_succ_eq_append_getElem hk, List.flatMap_append, List.flatMap_singleton]
theorem needL_hull {s : Sd} (v : VS s) (h0 : toldC s ≠ []) {d : Nat} (hd : d < s.days.length) : 0 < (needL s d (waysP s (evN s))).length ∧ hullI (needL s d (waysP s (evN s))) = needV s d := by
  have hm := day_mem v hd (fun c t => max 0 (wholeS s c s.spits.length - t))
  have he : needL s d (waysP s (evN s)) = (waysP s (evN s)).flatMap fun t => (t.2.getD d []).map ((fun c t => max 0 (wholeS s c s.spits.length - t)) (pad3 t.1)) := by
    unfold needL
    rw [List.flatMap_def, List.flatMap_def]
    congr 1
    apply List.map_congr_left
    intro t ht
    obtain ⟨⟨h1, _⟩, _⟩ := way_told v ht
    apply List.map_congr_left
    intro x _
    have : wholeS s (pad3 t.1) s.spits.length = totC s.spits t.1 := by
      unfold wholeS
      rw [List.take_length]
      unfold pad3
      rw [strk_app _ _ _ h1, strk_all _ v.spOk h1, Int.zero_add]
    simp only [this]
  rw [he]
  have hh := need_hull v h0 hd
  have hne : ((waysP s (evN s)).flatMap fun t => (t.2.getD d []).map ((fun c t => max 0 (wholeS s c s.spits.length - t)) (pad3 t.1))) ≠ [] := List.ne_nil_of_mem ((hm _).2 hh.1)
  exact ⟨List.length_pos_iff.2 hne, (hullI_hull hne).uniq (hh.congr fun n => (hm n).symm)⟩
attribute [local irreducible] AnyO AnyB QAny QB EWalk AWalk Ev WP OPS QThen QBlock QScope QLoop QBody Val New Turn Tri Enters PostA Blk Ro
attribute [local irreducible] AnyC QC
section
variable (N : Nat) (w0 : World)
theorem rwhole_in (L : Hp) (g : Fg) (hA : SodAt N w0 g) (hv : VS g.s) (va : Value) (cs : List Int) (X : Hp) (h : RdL X va cs) (hk : Wk L X) (hcin : CIn g.s.spits cs) (hl : cs.length = g.s.spits.length) (n : Nat) (hn : n ≤ g.s.spits.length) : Ret Try.prog N w0 L 62 [sodV g, va, .int .i64 (n : Int)].toArray (.int .i64 (totC (g.s.spits.take n) (cs.take n))) := Ret.re fun w hI => by
  obtain ⟨A, c, rfl, h2⟩ := h.now hI hk
  rw [hl]
  exact rwhole_ret w.heap.size w [] g (SodIn.at_ hA w hI) hv A c cs h2 hcin hl n hn
end
end Go.Proofs.Ytkaadefndcbdnaa
end

section
namespace Go.Proofs.Ytkaadefndcbdnaa
open Go.RowKit
def wd (a : Sp) : Int := a.2 - a.1 + 1
def hvD (s : Sd) (k : Nat) : Int := ((s.days.take k).map wd).sum
def hvP (s : Sd) (k : Nat) : Int := (s.spits.take k).foldl (fun n p => n * wd (p.lo, p.hi)) (hvD s s.days.length)
theorem hvD_snoc {s : Sd} {k : Nat} (hk : k < s.days.length) : hvD s (k + 1) = hvD s k + wd s.days[k] := by
  unfold hvD
  rw [List.take_succ_eq_append_getElem hk, List.map_append, List.sum_append]; simp
theorem hvD_bd {s : Sd} (v : VS s) : ∀ k, k ≤ s.days.length → 0 ≤ hvD s k ∧ hvD s k ≤ 101 * k
  | 0, _ => by simp [hvD]
  | k + 1, h => by
    have ih := hvD_bd v k (by omega)
    have := v.dy _ (List.getElem_mem (show k < s.days.length by omega))
    rw [hvD_snoc (by omega)]
    unfold wd
    omega
theorem hvP_snoc {s : Sd} {k : Nat} (hk : k < s.spits.length) : hvP s (k + 1) = hvP s k * wd (s.spits[k].lo, s.spits[k].hi) := by
  unfold hvP
  rw [List.take_succ_eq_append_getElem hk, List.foldl_append]; rfl
theorem hvP_bd {s : Sd} (v : VS s) : ∀ k, k ≤ s.spits.length → 0 ≤ hvP s k ∧ hvP s k ≤ 606 * 3 ^ k
  | 0, _ => by
    have := hvD_bd v s.days.length (Nat.le_refl _)
    have := v.nd
    show 0 ≤ hvD s s.days.length ∧ hvD s s.days.length ≤ _
    simp
    omega
  | k + 1, h => by
    have ih := hvP_bd v k (by omega)
    have := v.sp _ (List.getElem_mem (show k < s.spits.length by omega))
    rw [hvP_snoc (by omega)]
    have h1 : 0 ≤ hvP s k * wd (s.spits[k].lo, s.spits[k].hi) := Int.mul_nonneg ih.1 (by unfold wd; dsimp only; omega)
    have h2 : hvP s k * wd (s.spits[k].lo, s.spits[k].hi) ≤ hvP s k * 3 := Int.mul_le_mul_of_nonneg_left (by unfold wd; dsimp only; omega) ih.1
    rw [Int.pow_succ]
    omega
theorem three_le {k : Nat} (h : k ≤ 3) : (3 : Int) ^ k ≤ 27 := by
  rcases (show k = 0 ∨ k = 1 ∨ k = 2 ∨ k = 3 by omega) with rfl | rfl | rfl | rfl <;> decide
attribute [local irreducible] AnyO AnyB QAny QB EWalk AWalk Ev WP OPS QThen QBlock QScope QLoop QBody Val New Turn Tri Enters PostA Blk Ro
attribute [local irreducible] AnyC QC
section
variable (N : Nat) (w0 : World)
set_option maxHeartbeats 1000000 in
theorem heavy_ex (g : Fg) (hA : SodAt N w0 g) : ∃ b, (∀ L, Ret Try.prog N w0 L 12 [sodV g].toArray (.bool b)) ∧ (b = false → g.s.spits.length ≤ 40 ∧ g.s.days.length ≤ 40 ∧ g.s.logs.length ≤ 40) := by
  have hf := fun L => far_ret N w0 L g
  cases hfar : farB g.s with
  | true =>
    refine ⟨true, fun L => ?_, fun h => by cases h⟩
    rw [hfar] at hf
    refine Ret.fgt ?_
    refine tri_of_WP Try.func12 rfl (n := 53) rfl (by simp) ?_
    unfold sodV sdL at hf ⊢
    repeat' (first | (refine GiP ?_; first | (refine Znh ?_) | (refine Zatd 14 ?_; (first | (refine Zv Zxpt ?_) | (refine Zv Zxpf ?_))) | (refine Zatd 11 ?_; first | refine Zsk ?_ | (refine Zv Zla ?_)) | (refine Zatd 13 ?_; first | refine Zsk ?_ | (refine Zv Zxnot ?_)) | (refine Zsk ?_)) | (refine GiW ?_; first | (refine Zsq fun K hK => ?_) | (refine ZrN 0 fun _ => ?_; refine Zal 1 fun b1 => ?_; refine Zv Zab ?_) | (refine ZrG 1 ?_; refine Zv Zla ?_; refine Zcl (Enters_fn rfl) (hf _) ?_; refine Zv Zmb ?_) | (refine ZrN 2 fun _ => ?_; refine Zv Zla ?_; refine Zcl (Enters_fn rfl) (hf _) ?_; refine Zv Zab ?_) | (refine WP_cond_true rfl ?_) | (with_reducible apply WP_ret)) | (refine Zhr ?_))
    exact QBody_ret1 rfl (rfl : _ = Value.bool _) ⟨rfl, (by repeat (first | exact Wk.refl _ | apply Wk.keep1 | apply Wk.drop | apply Wk.sv | apply Wk.svD | apply Wk.appD))⟩
  | false =>
    have hl := farB_ok hfar
    have hS := fun L => rSod_ret N w0 L g hA (by omega) (by omega) (by omega)
    rw [hfar] at hf
    cases hvb : vB g.s with
    | false =>
      refine ⟨false, fun L => ?_, fun _ => hl⟩
      rw [hvb] at hS
      refine Ret.fgt ?_
      refine tri_of_WP Try.func12 rfl (n := 53) rfl (by simp) ?_
      unfold sodV sdL at hf hS ⊢
      repeat' (first | (refine GiP ?_; first | (refine Znh ?_) | (refine Zatd 14 ?_; (first | (refine Zv Zxpt ?_) | (refine Zv Zxpf ?_))) | (refine Zatd 11 ?_; first | refine Zsk ?_ | (refine Zv Zla ?_)) | (refine Zatd 12 ?_; first | refine Zsk ?_ | (refine Zcl (Enters_fn rfl) (hS _) ?_)) | (refine Zatd 13 ?_; first | refine Zsk ?_ | (refine Zv Zxnot ?_))) | (refine GiW ?_; first | (refine Zsq fun K hK => ?_) | (refine ZrN 0 fun _ => ?_; refine Zal 1 fun b1 => ?_; refine Zv Zab ?_) | (refine ZrG 1 ?_; refine Zv Zla ?_; refine Zcl (Enters_fn rfl) (hf _) ?_; refine Zv Zmb ?_) | (refine ZrN 2 fun _ => ?_; refine Zv Zla ?_; refine Zcl (Enters_fn rfl) (hf _) ?_; refine Zv Zab ?_) | (refine WP_cond_true rfl ?_) | (with_reducible apply WP_ret)) | (refine Zhr ?_))
      exact QBody_ret1 rfl (rfl : _ = Value.bool _) ⟨rfl, (by repeat (first | exact Wk.refl _ | apply Wk.keep1 | apply Wk.drop | apply Wk.sv | apply Wk.svD | apply Wk.appD))⟩
    | true =>
      have hv := VS_of hvb
      have hnp := hv.np
      have hnd := hv.nd
      refine ⟨decide (600 < hvP g.s g.s.spits.length), fun L => ?_, fun _ => hl⟩
      rw [hvb] at hS
      refine Ret.fgt ?_
      refine tri_of_WP Try.func12 rfl (n := 53) rfl (by simp) ?_
      unfold sodV sdL at hf hS ⊢
      repeat' (first | (refine GiP ?_; first | (refine Znh ?_) | (refine Zatd 14 ?_; (first | (refine Zv Zxpt ?_) | (refine Zv Zxpf ?_))) | (refine Zatd 11 ?_; first | refine Zsk ?_ | (refine Zv Zla ?_)) | (refine Zatd 12 ?_; first | refine Zsk ?_ | (refine Zcl (Enters_fn rfl) (hS _) ?_)) | (refine Zatd 13 ?_; first | refine Zsk ?_ | (refine Zv Zxnot ?_))) | (refine GiW ?_; first | (refine Zsq fun K hK => ?_) | (refine ZrN 0 fun _ => ?_; refine Zal 1 fun b1 => ?_; refine Zv Zab ?_) | (refine ZrG 1 ?_; refine Zv Zla ?_; refine Zcl (Enters_fn rfl) (hf _) ?_; refine Zv Zmb ?_) | (refine ZrN 3 fun _ => ?_; refine Zv Zai ?_) | (refine ZrN 4 fun _ => ?_; refine Zv Zfa ?_; refine Zv Zld ?_; refine Zv Zxlen ?_; refine Zv Zmi ?_) | (refine WP_cond_false rfl ?_) | (with_reducible apply WP_skip) | (with_reducible apply WP_block)) | (refine Zhn ?_))
      refine WP_loop [3, 5, 20, 21, 22, 23, 24, 25, 26, 27, 28, 29, 30, 31, 32] (fun k : Nat => [(3, .int .i64 (hvD g.s k)), (20, .int .i64 (k : Int))]) (fun _ => (b1, Blk 26 (sdL g)) :: L) (fun k => k ≤ g.s.days.length) (fun k => g.s.days.length - k) 0 (.cons rfl (.cons rfl .nil)) (Wk.refl _) (Nat.zero_le _) ?_
      intro k j hk
      unfold sdL
      by_cases hkl : k < g.s.days.length
      · obtain ⟨bA, oA, hA1, hbA, hcA⟩ := hA.days.row k hkl
        obtain ⟨p, hp⟩ : ∃ p, g.s.days[k] = p := ⟨_, rfl⟩
        have hpv := hv.dy p (by rw [← hp]; exact List.getElem_mem hkl)
        have hsn := hvD_snoc hkl
        have hb := hvD_bd hv k hk
        rw [hp] at hcA hsn
        unfold wd at hsn
        unfold spL at hcA
        obtain ⟨D, hD⟩ : ∃ D, hvD g.s k = D := ⟨_, rfl⟩
        rw [hD] at hsn hb ⊢
        repeat' (first | (refine GiP ?_; first | (refine Znh ?_) | (with_reducible refine Znl ?_)) | (refine GiW ?_; first | (refine Zsq fun K hK => ?_) | (refine ZrN 5 fun _ => ?_; refine Zv Zylss ?_) | (refine ZrN 6 fun _ => ?_; (first | (refine Zv (Val_indexAddrE rfl hA1 rfl rfl hkl) ?_) | (refine Zv Zia ?_)); (first | (refine Zv (Val_loadRN rfl hbA hcA rfl) ?_) | (refine Zv Zla ?_)); refine Zal 5 fun b5 => ?_; refine Zst ?_) | (refine ZrN 7 fun _ => ?_; refine Zv Zmi ?_; refine Zv Zfa ?_; (first | (refine Zv (Val_loadRN rfl hbA hcA rfl) ?_) | (refine Zv Zld ?_)); refine Zv Zf0 ?_; (first | (refine Zv (Val_loadRN rfl hbA hcA rfl) ?_) | (refine Zv Zld ?_)); refine Zv Zxsub ?_; refine Zv Zxadd ?_; refine Zv Zxadd ?_; refine Zv Zai ?_) | (refine ZrN 8 fun _ => ?_; refine Zv Zxadd ?_; refine Zv Zmi ?_) | (refine WP_cond_true rfl ?_) | (with_reducible apply WP_skip) | (with_reducible apply WP_block)) | (refine Zhn ?_) | (with_reducible apply QBlock_normal))
        exact QLoop_normal (k + 1) (.cons (by rw [hsn]; rfl) (.cons rfl .nil)) (by repeat (first | exact Off.frame rfl | exact Off.refl _ _ | refine Off.frameT rfl rfl ?_ | refine Off.upd rfl ?_ | refine Off.updO rfl ?_)) (by repeat (first | exact Wk.refl _ | apply Wk.keep1 | apply Wk.drop | apply Wk.sv | apply Wk.svD | apply Wk.appD)) (by omega) (by omega)
      · have hke : k = g.s.days.length := by omega
        subst hke
        repeat' (first | (refine Znh ?_) | (refine GiW ?_; first | (refine Zsq fun K hK => ?_) | (refine ZrN 5 fun _ => ?_; refine Zv Zylss ?_) | (refine ZrN 9 fun _ => ?_; refine Zv Zf0 ?_; refine Zv Zld ?_; refine Zv Zxlen ?_; refine Zv Zmi ?_) | (refine WP_cond_false rfl ?_) | (with_reducible apply WP_block) | (with_reducible apply WP_exit)) | (refine Zhn ?_) | (refine Zhx ?_) | (with_reducible apply QBlock_hit) | (with_reducible apply QLoop_exit))
        refine WP_loop [3, 7, 36, 37, 38, 39, 40, 41, 42, 43, 44, 45, 46, 47, 48, 49, 50] (fun k : Nat => [(3, .int .i64 (hvP g.s k)), (36, .int .i64 (k : Int))]) (fun _ => (b1, Blk 26 [.slice g.A1 g.s.spits.length g.c1, .slice g.A2 g.s.days.length g.c2, .slice g.A3 g.s.logs.length g.c3]) :: L) (fun k => k ≤ g.s.spits.length) (fun k => g.s.spits.length - k) 0 (.cons rfl (.cons rfl .nil)) (Wk.refl _) (Nat.zero_le _) ?_
        intro k j2 hk
        by_cases hkl : k < g.s.spits.length
        · obtain ⟨bA, oA, hA1, hbA, hcA⟩ := hA.spits.row k hkl
          obtain ⟨p, hp⟩ : ∃ p, g.s.spits[k] = p := ⟨_, rfl⟩
          have hpv := hv.sp p (by rw [← hp]; exact List.getElem_mem hkl)
          have hsn := hvP_snoc hkl
          have hb := hvP_bd hv k hk
          have hb2 := hvP_bd hv (k + 1) hkl
          have h27 := three_le (k := k) (by omega)
          have h28 := three_le (k := k + 1) (by omega)
          rw [hp] at hcA hsn
          unfold wd at hsn
          dsimp only at hsn
          unfold sptL at hcA
          obtain ⟨P, hP⟩ : ∃ P, hvP g.s k = P := ⟨_, rfl⟩
          obtain ⟨P2, hP2⟩ : ∃ P, hvP g.s (k + 1) = P := ⟨_, rfl⟩
          rw [hP, hP2] at hsn
          rw [hP] at hb
          rw [hP2] at hb2
          rw [hP]
          repeat' (first | (refine GiP ?_; first | (refine Znh ?_) | (with_reducible refine Znl ?_)) | (refine GiW ?_; first | (refine Zsq fun K hK => ?_) | (refine ZrN 10 fun _ => ?_; refine Zv Zylss ?_) | (refine ZrN 11 fun _ => ?_; (first | (refine Zv (Val_indexAddrE rfl hA1 rfl rfl hkl) ?_) | (refine Zv Zia ?_)); (first | (refine Zv (Val_loadRN rfl hbA hcA rfl) ?_) | (refine Zv Zla ?_)); refine Zal 7 fun b7 => ?_; refine Zst ?_) | (refine ZrN 12 fun _ => ?_; refine Zv Zmi ?_; refine Zv Zfa ?_; refine Zv Zfa ?_; (first | (refine Zv (Val_loadRN rfl hbA hcA rfl) ?_) | (refine Zv Zld ?_)); refine Zv Zfa ?_; refine Zv Zf0 ?_; (first | (refine Zv (Val_loadRN rfl hbA hcA rfl) ?_) | (refine Zv Zld ?_)); refine Zv Zxsub ?_; refine Zv Zxadd ?_; refine Zv (Val_mul rfl rfl (by rw [← hsn]; exact InK_i64 (by omega) (by omega))) ?_; refine Zv Zai ?_) | (refine ZrN 13 fun _ => ?_; refine Zv Zxadd ?_; refine Zv Zmi ?_) | (refine WP_cond_true rfl ?_) | (with_reducible apply WP_skip) | (with_reducible apply WP_block)) | (refine Zhn ?_) | (with_reducible apply QBlock_normal))
          exact QLoop_normal (k + 1) (.cons (by rw [hP2, hsn]; rfl) (.cons rfl .nil)) (by repeat (first | exact Off.frame rfl | exact Off.refl _ _ | refine Off.frameT rfl rfl ?_ | refine Off.upd rfl ?_ | refine Off.updO rfl ?_)) (by repeat (first | exact Wk.refl _ | apply Wk.keep1 | apply Wk.drop | apply Wk.sv | apply Wk.svD | apply Wk.appD)) (by omega) (by omega)
        · have hke : k = g.s.spits.length := by omega
          subst hke
          repeat' (first | (refine Znh ?_) | (refine GiW ?_; first | (refine Zsq fun K hK => ?_) | (refine ZrN 10 fun _ => ?_; refine Zv Zxlss ?_) | (refine ZrN 14 fun _ => ?_; refine Zv Zmi ?_; refine Zv Zxgtr ?_; refine Zv Zab ?_) | (refine Zcd (fun hc => ?_) (fun hc => ?_) <;> (try (exfalso; omega))) | (with_reducible apply WP_exit) | (with_reducible apply WP_ret)) | (refine Zhn ?_) | (refine Zhx ?_) | (with_reducible apply QBlock_hit) | (with_reducible apply QLoop_exit))
          exact QBody_ret1 rfl (rfl : _ = Value.bool _) ⟨rfl, (by repeat (first | exact Wk.refl _ | apply Wk.keep1 | apply Wk.drop | apply Wk.sv | apply Wk.svD | apply Wk.appD))⟩
end
end Go.Proofs.Ytkaadefndcbdnaa
end
