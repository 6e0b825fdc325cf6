/- Heaps whose looks are right, and how wet each truly is: what is drawn. · The heap laws in plain terms: what is true is told. -/
import Derived.Test.YtlpahkmfjpjheaaN1
section
namespace Go.Proofs.Ytlpahkmfjpjheaa
open Go.RowKit
/-- A look that is right, of what truly was. -/
def LkTrue (h : Hv) (first rains : List Int) (l : Lk) : Prop := ∃ (i d : Nat) (n : Int), l.heap = i ∧ i < h.heaps.length ∧ l.day = d ∧ d < h.rains.length ∧ (wetRow h first rains i)[d]? = some n ∧ 0 ≤ l.lo ∧ l.lo ≤ n ∧ n ≤ l.hi ∧ l.hi ≤ 100
/-- What each heap's wetness at first was, of the first ones. -/
def FirstOk (h : Hv) (first : List Int) : Prop := ∀ (k : Nat) (x : Int), first[k]? = some x → (tfOf h k).lo ≤ x ∧ x ≤ (tfOf h k).hi
def RainOk (h : Hv) (rains : List Int) : Prop := ∀ (k : Nat) (x : Int) (s : Sp), rains[k]? = some x → h.rains[k]? = some s → s.1 ≤ x ∧ x ≤ s.2
theorem snoc_get {α : Type} {l : List α} {x y : α} {k : Nat} (h : (l ++ [x])[k]? = some y) : l[k]? = some y ∨ (k = l.length ∧ y = x) := by
  by_cases hk : k < l.length
  · rw [List.getElem?_append_left hk] at h; exact .inl h
  · rw [List.getElem?_append_right (by omega)] at h
    have := (List.getElem?_eq_some_iff.1 h).1
    simp at this
    have hk' : k = l.length := by omega
    subst hk'
    simp at h
    exact .inr ⟨rfl, h.symm⟩
theorem Up.app {b : Nat} {φ φ' : Obj → Prop} {X L L' : Hp} (h : Up L b φ φ' L') : Up (X ++ L) b φ φ' (X ++ L') := by
  induction X with
  | nil => exact h
  | cons x X ih => exact .there ih
attribute [local irreducible] AnyO AnyB QAny QB EWalk AWalk Ev WP OPS QThen QBlock QScope QLoop QBody Val New Turn Tri Enters PostA Blk Ro
attribute [local irreducible] AnyC QC
section
variable (N : Nat) (w0 : World)
theorem wetness41_in (L : Hp) (g : Bg) (hin : HeapIn N w0 L g) (hv : VH g.h) (first rains : List Int) (Af Ar : Option Addr) (cf cr : Nat) (hF : ∀ w, Inv N w0 L w → SlAt w.heap.size w Af 1 (first.map fun x => [.int .i64 x])) (hR : ∀ w, Inv N w0 L w → SlAt w.heap.size w Ar 1 (rains.map fun x => [.int .i64 x]))
    (hfl : g.h.heaps.length ≤ first.length) (hfb : ∀ x ∈ first, 0 ≤ x ∧ x ≤ 100) (hrb : ∀ x ∈ rains, 0 ≤ x ∧ x ≤ 10) (hrl : rains.length ≤ 6) : Tri Try.prog N w0 L 41 [heapV g, .slice Af first.length cf, .slice Ar rains.length cr].toArray
      fun x L' => ∃ v, x = .returned v ∧ ∃ X, L' = X ++ L ∧ RdLL X v (wetL g.h first rains) :=
  Tri.re2 (K := fun v X => RdLL X v (wetL g.h first rains)) fun w hI => wetness41_tri w.heap.size w [] g (hin w hI) hv first rains Af Ar cf cr (hF w hI) (hR w hI) hfl hfb hrb hrl
theorem in_base (L : Hp) (g : Bg) (hA : HeapAt N w0 g) : HeapIn N w0 L g := fun _ hI => ⟨hA.heaps.now hI, hA.rains.now hI, hA.looks.now hI⟩
set_option maxRecDepth 100000 in
set_option maxHeartbeats 8000000 in
theorem truly36_a (L1 : Hp) (g : Bg) (hA : HeapAt N w0 g) (hv : VH g.h) (bc bb : Nat) (Ab : Option Addr) (cb : Nat) (by_ : List Nat) (hB : ByAt N w0 Ab by_) :
    Tri Try.prog N w0 ((bc, Blk 3 [.int .i64 0]) :: (bb, Blk 50 [.slice Ab by_.length cb]) :: L1) 36 [heapV g, .func (.func 86) #[] [.pointer (some ⟨bc, 0, none⟩), .pointer (some ⟨bb, 0, none⟩)].toArray].toArray fun x L2 =>
      ∃ v, x = .returned v ∧ ∃ (first rains : List Int) (ls : List Lk) (s2 s3 : Option (Nat × Nat)) (wv : Value) (X : Hp), v = .tuple [.agg [.slice g.A1 g.h.heaps.length g.c1, .slice g.A2 g.h.rains.length g.c2, .int .i64 g.h.d0, .int .i64 g.h.d1, .int .i64 g.h.d2, .int .i64 g.h.limit, svV s3 ls.length].toArray, wv, svV s2 rains.length].toArray ∧
        first.length = g.h.heaps.length ∧ rains.length = g.h.rains.length ∧ FirstOk g.h first ∧ RainOk g.h rains ∧ ls.length ≤ 5 ∧ (∀ l ∈ ls, LkTrue g.h first rains l) ∧ svOk s3 4 ls.length ((ls.map lkL).flatten) ∧ svOk s2 1 rains.length (intL rains) ∧ RdLL X wv (wetL g.h first rains) ∧
        L2 = svH 61 4 ls.length ((ls.map lkL).flatten) s3 (X ++ svH 3 1 rains.length (intL rains) s2 L1) := by
  have hnh := hv.nh
  have hnr := hv.nr
  refine Tri.fgt ?_
  refine tri_of_WP Try.func36 rfl (n := 100) rfl (by simp) ?_
  unfold heapV hvL
  repeat' (first | (refine Znh ?_) | (refine GiW ?_; first | (refine Zsq fun K hK => ?_) | (refine ZrN 0 fun _ => ?_; refine Zal 2 fun b2 => ?_; refine Zal 4 fun b4 => ?_; refine Zv Zav ?_; refine Zv Zav ?_) | (refine ZrN 1 fun _ => ?_; refine Zv Zav ?_) | (refine ZrN 2 fun _ => ?_; refine Zv Zf0 ?_; refine Zv Zld ?_; refine Zv Zxlen ?_; refine Zv Zmi ?_) | (with_reducible apply WP_block)))
  refine WP_loop [7, 9, 18, 19, 20, 21, 22, 23, 24, 25, 26, 27, 28, 29] (fun st : Nat × List Int × List Value × Option (Nat × Nat) => [(18, .int .i64 st.1), (7, svV st.2.2.2 st.1)]) (fun st => svH 3 1 st.1 st.2.2.1 st.2.2.2 ((b4, Blk 27 [.slice none 0 0, .slice none 0 0, .int .i64 0, .int .i64 0, .int .i64 0, .int .i64 0, .slice none 0 0]) :: (b2, Blk 27 (hvL g)) :: (bc, Blk 3 [.int .i64 (st.1 : Int)]) :: (bb, Blk 50 [.slice Ab by_.length cb]) :: L1)) (fun st => st.1 ≤ g.h.heaps.length ∧ st.2.1.length = st.1 ∧ svOk st.2.2.2 1 st.1 st.2.2.1 ∧ st.2.2.1 = intL st.2.1 ∧ FirstOk g.h st.2.1) (fun st => g.h.heaps.length - st.1) (0, [], [], none) (.cons rfl (.cons rfl .nil)) (Wk.refl _) ⟨Nat.zero_le _, rfl, svOk_nil _, rfl, fun k x h => by simp at h⟩ ?_
  rintro ⟨i, first, xs1, s1⟩ j ⟨hi, hfl, hs1, hx1, hf⟩
  dsimp only at hi hfl hs1 hx1 hf ⊢
  unfold hvL
  by_cases hlt : i < g.h.heaps.length
  · obtain ⟨bA, oA, hA1, hbA, hcA⟩ := hA.heaps.row i hlt
    have htf := tfOf_get hlt
    rw [List.getElem?_eq_getElem hlt] at htf
    simp only [Option.some.injEq] at htf
    obtain ⟨t, ht⟩ : ∃ t, g.h.heaps[i] = t := ⟨_, rfl⟩
    have htb := hv.tf t (by rw [← ht]; exact List.getElem_mem hlt)
    rw [ht] at hcA htf
    obtain ⟨tp, tlo, thi⟩ := t
    dsimp only at htb
    repeat' (first | (refine GiP ?_; first | (refine Znh ?_) | (with_reducible refine Znl ?_)) | (refine GiW ?_; first | (refine Zsq fun K hK => ?_) | (refine ZrN 3 fun _ => ?_; refine Zv Zxlss ?_) | (refine ZrN 4 fun _ => ?_; refine Zv Zia ?_; refine Zv Zla ?_; refine Zal 9 fun b9 => ?_; refine Zst ?_) | (refine ZrN 5 fun _ => ?_; refine Zv Zmv ?_; refine Zv Zmv ?_; refine Zv Zfa ?_; refine Zv Zla ?_; refine OPS_retKS (Enters_val rfl rfl) (draw86_tri N w0 _ _ bc bb _ Ab cb by_ hB (by repeat (first | exact Up.here | apply Up.there | apply Up.sv)) (by repeat (first | exact Mem.here | assumption | apply Mem.there | apply Mem.sv | apply Mem.app)) (by omega) tlo thi (by omega) (by omega) (by omega)) rfl rfl rfl (fun v L h => ?_); obtain ⟨m, rfl, hm1, hm2, rfl⟩ := h; refine Zal 27 fun b27 => ?_; refine Zag (fun s28 hs28 => ?_); refine Zv Zav ?_) | (refine ZrN 6 fun _ => ?_; refine Zv Zxadd ?_; refine Zv Zmi ?_) | (refine Zcd (fun hc => ?_) (fun hc => ?_) <;> (try (exfalso; omega))) | (with_reducible apply WP_skip) | (with_reducible apply WP_block)) | (refine Zhn ?_) | (with_reducible apply QBlock_normal))
    exact QLoop_normal (i + 1, first ++ [m], _, _) (.cons rfl (.cons rfl .nil)) (by repeat (first | exact Off.frame rfl | exact Off.refl _ _ | refine Off.frameT rfl rfl ?_ | refine Off.upd rfl ?_ | refine Off.updO rfl ?_)) (by repeat (first | exact Wk.refl _ | apply Wk.keep1 | apply Wk.drop | apply Wk.sv | apply Wk.svD | apply Wk.appD)) ⟨by dsimp only; omega, by simp [hfl], by assumption, by dsimp only; rw [hx1]; simp [intL], fun k x hk => by
      rcases snoc_get hk with h | ⟨h1, h2⟩
      · exact hf k x h
      · rw [h1, hfl, h2, ← htf]; exact ⟨hm1, hm2⟩⟩ (by dsimp only; omega)
  have hin : i = g.h.heaps.length := by omega
  subst hin
  repeat' (first | (refine Znh ?_) | (refine GiW ?_; first | (refine Zsq fun K hK => ?_) | (refine ZrN 3 fun _ => ?_; refine Zv Zxlss ?_) | (refine ZrN 7 fun _ => ?_; refine Zv Zfa ?_; refine Zv Zld ?_; refine Zv Zxlen ?_; refine Zv Zmi ?_) | (refine Zcd (fun hc => ?_) (fun hc => ?_) <;> (try (exfalso; omega))) | (with_reducible apply WP_block) | (with_reducible apply WP_exit)) | (refine Zhn ?_) | (refine Zhx ?_) | (with_reducible apply QBlock_hit) | (with_reducible apply QLoop_exit))
  refine WP_loop [6, 11, 33, 34, 35, 36, 37, 38, 39, 40, 41, 42, 43] (fun st : Nat × List Int × List Value × Option (Nat × Nat) => [(33, .int .i64 st.1), (6, svV st.2.2.2 st.1)]) (fun st => svH 3 1 st.1 st.2.2.1 st.2.2.2 (svH 3 1 g.h.heaps.length xs1 s1 ((b4, Blk 27 [.slice none 0 0, .slice none 0 0, .int .i64 0, .int .i64 0, .int .i64 0, .int .i64 0, .slice none 0 0]) :: (b2, Blk 27 (hvL g)) :: (bc, Blk 3 [.int .i64 ((g.h.heaps.length : Int) + (st.1 : Int))]) :: (bb, Blk 50 [.slice Ab by_.length cb]) :: L1))) (fun st => st.1 ≤ g.h.rains.length ∧ st.2.1.length = st.1 ∧ svOk st.2.2.2 1 st.1 st.2.2.1 ∧ st.2.2.1 = intL st.2.1 ∧ RainOk g.h st.2.1) (fun st => g.h.rains.length - st.1) (0, [], [], none) (.cons rfl (.cons rfl .nil)) (Wk.refl _) ⟨Nat.zero_le _, rfl, svOk_nil _, rfl, fun k x s h => by simp at h⟩ ?_
  rintro ⟨k, rains, xs2, s2⟩ j2 ⟨hk, hrl, hs2, hx2, hr⟩
  dsimp only at hk hrl hs2 hx2 hr ⊢
  unfold hvL
  by_cases hlk : k < g.h.rains.length
  · obtain ⟨bA, oA, hA1, hbA, hcA⟩ := hA.rains.row k hlk
    obtain ⟨t, ht⟩ : ∃ t, g.h.rains[k] = t := ⟨_, rfl⟩
    have htb := hv.rn t (by rw [← ht]; exact List.getElem_mem hlk)
    rw [ht] at hcA
    obtain ⟨tlo, thi⟩ := t
    dsimp only at htb
    repeat' (first | (refine GiP ?_; first | (refine Znh ?_) | (with_reducible refine Znl ?_)) | (refine GiW ?_; first | (refine Zsq fun K hK => ?_) | (refine ZrN 8 fun _ => ?_; refine Zv Zxlss ?_) | (refine ZrN 9 fun _ => ?_; refine Zv Zia ?_; refine Zv Zla ?_; refine Zal 11 fun b11 => ?_; refine Zst ?_) | (refine ZrN 10 fun _ => ?_; refine Zv Zmv ?_; refine Zv Zmv ?_; refine Zv Zla ?_; refine OPS_retKS (Enters_val rfl rfl) (draw86_tri N w0 _ _ bc bb _ Ab cb by_ hB (by repeat (first | exact Up.here | apply Up.there | apply Up.sv)) (by repeat (first | exact Mem.here | assumption | apply Mem.there | apply Mem.sv | apply Mem.app)) (by omega) tlo thi (by omega) (by omega) (by omega)) rfl rfl rfl (fun v L h => ?_); obtain ⟨m, rfl, hm1, hm2, rfl⟩ := h; refine Zal 41 fun b41 => ?_; refine Zag (fun s42 hs42 => ?_); refine Zv Zav ?_) | (refine ZrN 11 fun _ => ?_; refine Zv Zxadd ?_; refine Zv Zmi ?_) | (refine Zcd (fun hc => ?_) (fun hc => ?_) <;> (try (exfalso; omega))) | (with_reducible apply WP_skip) | (with_reducible apply WP_block)) | (refine Zhn ?_) | (with_reducible apply QBlock_normal))
    exact QLoop_normal (k + 1, rains ++ [m], _, _) (.cons rfl (.cons rfl .nil)) (by repeat (first | exact Off.frame rfl | exact Off.refl _ _ | refine Off.frameT rfl rfl ?_ | refine Off.upd rfl ?_ | refine Off.updO rfl ?_)) (by repeat (first | exact Wk.refl _ | apply Wk.keep1 | apply Wk.drop | apply Wk.sv | apply Wk.svD | apply Wk.appD)) ⟨by dsimp only; omega, by simp [hrl], by assumption, by dsimp only; rw [hx2]; simp [intL], fun k' x s hk' hs' => by
      rcases snoc_get hk' with h | ⟨h1, h2⟩
      · exact hr k' x s h hs'
      · rw [h1, hrl, List.getElem?_eq_getElem hlk, ht] at hs'
        simp only [Option.some.injEq] at hs'
        subst hs'
        rw [h2]; exact ⟨hm1, hm2⟩⟩ (by dsimp only; omega)
  have hkn : k = g.h.rains.length := by omega
  subst hkn
  have hfb : ∀ x ∈ first, 0 ≤ x ∧ x ≤ 100 := by
    intro x hx
    obtain ⟨q, hq, rfl⟩ := List.getElem_of_mem hx
    have h1 := hf q _ (List.getElem?_eq_getElem hq)
    have h2 := hv.tf _ (tfOf_mem (h := g.h) (i := q) (by omega))
    omega
  have hrb : ∀ x ∈ rains, 0 ≤ x ∧ x ≤ 10 := by
    intro x hx
    obtain ⟨q, hq, rfl⟩ := List.getElem_of_mem hx
    have h1 := hr q _ _ (List.getElem?_eq_getElem hq) (List.getElem?_eq_getElem (by omega))
    have h2 := hv.rn _ (List.getElem_mem (show q < g.h.rains.length by omega))
    omega
  obtain ⟨A2, c2, e1, hr1⟩ := sl_sv (E := 3) (by omega) hs1
  obtain ⟨A3, c3, e2, hr2⟩ := sl_sv (E := 3) (by omega) hs2
  have h41 : ∀ L' Lt Lt', Wk L' (svH 3 1 g.h.heaps.length xs1 s1 Lt) → Wk L' (svH 3 1 g.h.rains.length xs2 s2 Lt') → Tri Try.prog N w0 L' 41 [heapV g, svV s1 g.h.heaps.length, svV s2 g.h.rains.length].toArray fun x L2 => ∃ v, x = .returned v ∧ ∃ X, L2 = X ++ L' ∧ RdLL X v (wetL g.h first rains) := by
    intro L' Lt Lt' k1 k2
    have := wetness41_in N w0 L' g (in_base N w0 L' g hA) hv first rains A2 A3 c2 c3 (fun w hI => hr1 (hI.wk k1) (by rw [hx1]; exact intL_flat _) (one_len _)) (fun w hI => hr2 (hI.wk k2) (by rw [hx2]; exact intL_flat _) (one_len _)) (by omega) hfb hrb (by omega)
    rw [hfl, hrl] at this
    rw [e1, e2]
    exact this
  unfold heapV hvL at h41
  repeat' (first | (refine GiP ?_; first | (refine Znh ?_) | (with_reducible refine Znl ?_) | (refine Zatd 48 ?_; refine OPS_retKS (Enters_fn rfl) (h41 _ _ _ (by repeat (first | exact Wk.refl _ | apply Wk.keep1 | apply Wk.drop | apply Wk.sv | apply Wk.svD | apply Wk.appD)) (by repeat (first | exact Wk.refl _ | apply Wk.keep1 | apply Wk.drop | apply Wk.sv | apply Wk.svD | apply Wk.appD))) rfl rfl rfl (fun vs Ls hs => ?_); obtain ⟨X, rfl, hX⟩ := hs) | (refine Zatn ?_; refine OPS_turnN (Turn_store rfl rfl (by repeat (first | exact Up.here | apply Up.there | apply Up.sv | apply Up.app)) rfl (.here (.cons (.cons (.cons (.cons (.cons (.cons (.cons .nil)))))))) rfl rfl) rfl rfl ?_) | (refine Zatd 5 ?_; refine Zv Zav ?_)) | (refine GiW ?_; first | (refine Zsq fun K hK => ?_) | (refine ZrN 8 fun _ => ?_; refine Zv Zxlss ?_) | (refine Zcd (fun hc => ?_) (fun hc => ?_) <;> (try (exfalso; omega))) | (with_reducible apply WP_exit) | (refine WP_drawnS (id := 12) [0] [0, 1, 2, 3] [] [44] (k := 1) (k2 := 2) (by repeat (first | apply Sub.sv | apply Sub.keep | apply Sub.appK | exact Sub.refl _)) (by kernel_rfl) prog_mixed (by kernel_rfl) (by kernel_rfl) rfl ?_; refine Zew rfl Zla ?_; refine Zew rfl Zla ?_; refine Zew rfl Zmv ?_; refine Zew rfl Zmv ?_)) | (with_reducible apply EWalk_nil) | (refine GiC ?_; first | (refine ZgC [0, 1, 2, 3] ?_; refine ZC1 _ 4 [0, 1, 2, 3, 4] ?_) | (refine ZgC [0, 1, 2, 3, 4] ?_; refine ZCl _ ?_)) | (refine GiO ?_; first | (refine ZgO [0, 1, 2, 3, 4] ?_; refine ZO1 _ 5 [0, 1, 2, 3, 4, 5] ?_) | (refine ZgO [0, 1, 2, 3, 4, 5] ?_; refine ZO1 _ 6 [0, 1, 2, 3, 4, 5, 6] ?_) | (refine ZgO [0, 1, 2, 3, 4, 5, 6] ?_; refine ZOd _ ?_; (try with_reducible apply noP_normal); (try with_reducible exact key.out))) | (refine Zhn ?_) | (refine Zhx ?_) | (with_reducible apply QBlock_hit) | (with_reducible apply QLoop_exit) | (refine AWalk_0 ?_) | (with_reducible apply QAny_normal) | (with_reducible apply QC_normal))
  repeat' (first | (refine Znh ?_) | (refine GiW ?_; first | (refine Zsq fun K hK => ?_) | (refine ZrN 13 fun _ => ?_; refine Zv Zfa ?_; refine OPS_turnN (Turn_store rfl rfl (by repeat (first | exact Up.here | apply Up.there | apply Up.sv | apply Up.app)) rfl (.there (.there (.there (.there (.there (.there (.here (.cons .nil)))))))) rfl rfl) rfl rfl ?_) | (refine ZrN 14 fun _ => ?_; refine Zv Zmv ?_; refine Zcl (Enters_fn rfl) (span31_ret N w0 _ _ _) ?_; refine OPS_retKS (Enters_val rfl rfl) (draw86_tri N w0 _ _ bc bb _ Ab cb by_ hB (by repeat (first | exact Up.here | apply Up.there | apply Up.sv | apply Up.app)) (by repeat (first | exact Mem.here | assumption | apply Mem.there | apply Mem.sv | apply Mem.app)) (by omega) 0 5 (by omega) (by omega) (by omega)) rfl rfl rfl (fun v L h => ?_); obtain ⟨nl, rfl, hnl1, hnl2, rfl⟩ := h; refine Zv Zmi ?_) | (with_reducible apply WP_block)))
  obtain ⟨Ao, co, rfl, hrow⟩ := hX
  obtain ⟨bo, u0, rfl, _, _⟩ := hrow 0 _ (wetL_get (by omega))
  rw [wetL_len]
  obtain ⟨nN, hnN⟩ : ∃ nN : Nat, nl = nN := ⟨nl.toNat, by omega⟩
  subst hnN
  refine WP_loop [12, 13, 14, 53, 54, 55, 56, 57, 58, 59, 60, 61, 62, 63, 64, 65, 66, 67, 68, 69, 70, 71, 72, 73, 74, 75, 76, 77, 78, 79, 80, 81, 82, 83, 84, 85, 86, 87, 88, 89, 90, 91, 92, 93, 94, 95, 96] (fun st : Nat × List Lk × List Value × Option (Nat × Nat) => [(53, .int .i64 st.1)]) (fun st => svH 61 4 st.1 st.2.2.1 st.2.2.2 (X ++ svH 3 1 g.h.rains.length xs2 s2 (svH 3 1 g.h.heaps.length xs1 s1 ((b4, Blk 27 [.slice g.A1 g.h.heaps.length g.c1, .slice g.A2 g.h.rains.length g.c2, .int .i64 g.h.d0, .int .i64 g.h.d1, .int .i64 g.h.d2, .int .i64 g.h.limit, svV st.2.2.2 st.1]) :: (b2, Blk 27 (hvL g)) :: (bc, Blk 3 [.int .i64 ((g.h.heaps.length : Int) + (g.h.rains.length : Int) + 1 + 4 * (st.1 : Int))]) :: (bb, Blk 50 [.slice Ab by_.length cb]) :: L1)))) (fun st => st.1 ≤ nN ∧ st.2.1.length = st.1 ∧ svOk st.2.2.2 4 st.1 st.2.2.1 ∧ st.2.2.1 = (st.2.1.map lkL).flatten ∧ ∀ l ∈ st.2.1, LkTrue g.h first rains l) (fun st => nN - st.1) (0, [], [], none) (.cons rfl .nil) ?_ ⟨Nat.zero_le _, rfl, svOk_nil _, rfl, fun l h => by cases h⟩ ?_
  · dsimp only [svH, svV]
    rw [show (g.h.heaps.length : Int) + (g.h.rains.length : Int) + 1 + 4 * ((0 : Nat) : Int) = (g.h.heaps.length : Int) + (g.h.rains.length : Int) + 1 by omega]
    exact Wk.refl _
  rintro ⟨k, ls, xs3, s3⟩ j3 ⟨hk, hll, hs3, hx3, hls⟩
  dsimp only at hk hll hs3 hx3 hls ⊢
  unfold hvL
  by_cases hlk : k < nN
  · repeat' (first | (refine GiP ?_; first | (refine Znh ?_) | (with_reducible refine Znl ?_) | (refine Zatd 61 ?_; refine OPS_retKS (Enters_val rfl rfl) (draw86_tri N w0 _ _ bc bb _ Ab cb by_ hB (by repeat (first | exact Up.here | apply Up.there | apply Up.sv | apply Up.app)) (by repeat (first | exact Mem.here | assumption | apply Mem.there | apply Mem.sv | apply Mem.app)) (by omega) 0 ((g.h.heaps.length : Int) - 1) (by omega) (by omega) (by omega)) rfl rfl rfl (fun v L h => ?_); obtain ⟨di, rfl, hdi1, hdi2, rfl⟩ := h) | (refine Zatd 67 ?_; refine Zcl (Enters_fn rfl) (span31_ret N w0 _ _ _) ?_) | (refine Zatd 68 ?_; refine OPS_retKS (Enters_val rfl rfl) (draw86_tri N w0 _ _ bc bb _ Ab cb by_ hB (by repeat (first | exact Up.here | apply Up.there | apply Up.sv | apply Up.app)) (by repeat (first | exact Mem.here | assumption | apply Mem.there | apply Mem.sv | apply Mem.app)) (by omega) 0 ((g.h.rains.length : Int) - 1) (by omega) (by omega) (by omega)) rfl rfl rfl (fun v L h => ?_); obtain ⟨dd, rfl, hdd1, hdd2, rfl⟩ := h) | (refine Zatd 12 ?_; refine Zv Zai ?_) | (refine Zatd 13 ?_; refine Zv Zai ?_)) | (refine GiW ?_; first | (refine Zsq fun K hK => ?_) | (refine ZrN 15 fun _ => ?_; refine Zv Zxlss ?_) | (refine Zcd (fun hc => ?_) (fun hc => ?_) <;> (try (exfalso; omega))) | (with_reducible apply WP_skip) | (with_reducible apply WP_block) | (refine WP_drawnS (id := 16) (B := (b2, Blk 27 [.slice g.A1 g.h.heaps.length g.c1, .slice g.A2 g.h.rains.length g.c2, .int .i64 g.h.d0, .int .i64 g.h.d1, .int .i64 g.h.d2, .int .i64 g.h.limit, .slice g.A3 g.h.looks.length g.c3]) :: (bb, Blk 50 [.slice Ab by_.length cb]) :: L1) [7, 8, 9, 10, 11] [0, 1, 2, 3, 4, 5, 7, 8, 9, 10, 11] [] [62, 63, 64, 65, 66] (k := 2) (k2 := 3) (by repeat (first | exact Sub.refl _ | apply Sub.keep | apply Sub.appK | apply Sub.sv | apply Sub.cons | apply Sub.app)) (by kernel_rfl) prog_mixed (by kernel_rfl) (by kernel_rfl) rfl ?_; refine Zew rfl Zmv ?_; refine Zew rfl Zf0 ?_; refine Zew rfl Zld ?_; refine Zew rfl Zxlen ?_; refine Zew rfl Zxsub ?_; refine Zec rfl (Enters_fn rfl) (fun X => span31_ret N w0 _ _ _) ?_; refine Zew rfl Zmv ?_; refine Zew rfl Zfa ?_; refine Zew rfl Zld ?_; refine Zew rfl Zxlen ?_; refine Zew rfl Zxsub ?_)) | (with_reducible apply EWalk_nil) | (refine GiC ?_; first | (refine ZgC [0, 1, 2, 3, 4, 5, 7, 8, 9, 10, 11] ?_; refine ZC1 _ 6 [0, 1, 2, 3, 4, 5, 7, 8, 9, 10, 11, 6] ?_) | (refine ZgC [0, 1, 2, 3, 4, 5, 7, 8, 9, 10, 11, 6] ?_; refine ZC1 _ 12 [0, 1, 2, 3, 4, 5, 7, 8, 9, 10, 11, 6, 12] ?_) | (refine ZgC [0, 1, 2, 3, 4, 5, 7, 8, 9, 10, 11, 6, 12] ?_; refine ZCl _ ?_)) | (refine GiO ?_; first | (refine ZgO [0, 1, 2, 3, 4, 5, 7, 8, 9, 10, 11, 6, 12] ?_; refine ZO1 _ 13 [0, 1, 2, 3, 4, 5, 7, 8, 9, 10, 11, 6, 12, 13] ?_) | (refine ZgO [0, 1, 2, 3, 4, 5, 7, 8, 9, 10, 11, 6, 12, 13] ?_; refine ZO1 _ 14 [0, 1, 2, 3, 4, 5, 7, 8, 9, 10, 11, 6, 12, 13, 14] ?_) | (refine ZgO [0, 1, 2, 3, 4, 5, 7, 8, 9, 10, 11, 6, 12, 13, 14] ?_; refine ZO1 _ 15 [0, 1, 2, 3, 4, 5, 7, 8, 9, 10, 11, 6, 12, 13, 14, 15] ?_) | (refine ZgO [0, 1, 2, 3, 4, 5, 7, 8, 9, 10, 11, 6, 12, 13, 14, 15] ?_; refine ZOd _ ?_; (try with_reducible apply noP_normal); (try with_reducible exact key.out))) | (refine Zhn ?_) | (refine AWalk_0 ?_) | (with_reducible apply QAny_normal) | (with_reducible apply QC_normal))
    obtain ⟨iN, hiN⟩ : ∃ iN : Nat, di = iN := ⟨di.toNat, by omega⟩
    subst hiN
    obtain ⟨dN, hdN⟩ : ∃ dN : Nat, dd = dN := ⟨dd.toNat, by omega⟩
    subst hdN
    obtain ⟨bo2, u, hbo, hu, Ai, ci, rfl, hcell⟩ := hrow iN _ (wetL_get (by omega))
    simp only [Option.some.injEq, Addr.mk.injEq, and_true] at hbo
    subst hbo
    have hlen : (wetRow g.h first rains iN).length = g.h.rains.length := by unfold wetRow; rw [wetF_len, hrl]
    rw [hlen] at hu
    obtain ⟨n, hn⟩ : ∃ n, (wetRow g.h first rains iN)[dN]? = some n := ⟨_, List.getElem?_eq_getElem (by omega)⟩
    have hnb : 0 ≤ n ∧ n ≤ 100 := wetF_bd g.h _ _ _ n (List.mem_of_getElem? hn)
    obtain ⟨bi, rfl, hcd⟩ := hcell dN n hn
    have hu' : RdX X bo (0 + iN) (.slice (some ⟨bi, 0, none⟩) g.h.rains.length ci) := by rw [Nat.zero_add]; exact hu
    have hcd' : RdX X bi (0 + dN) (.int .i64 n) := by rw [Nat.zero_add]; exact hcd
    repeat' (first | (refine Znh ?_) | (refine ZrN 17 fun _ => ?_; refine Zv Zmv ?_; refine Zv Zmi ?_; refine Zv Zia ?_; (first | (refine Zv (Val_loadD1 rfl (RdX.rd (RdX.sub hu' (by repeat (first | exact Sub.refl _ | assumption | exact Sub.left | apply Sub.cons | apply Sub.sv | apply Sub.app))))) ?_) | (refine Zv (Val_loadD1 rfl (RdX.rd (RdX.sub hcd' (by repeat (first | exact Sub.refl _ | assumption | exact Sub.left | apply Sub.cons | apply Sub.sv | apply Sub.app))))) ?_) | (refine Zv Zld ?_)); refine Zv Zmi ?_; refine Zv Zia ?_; (first | (refine Zv (Val_loadD1 rfl (RdX.rd (RdX.sub hu' (by repeat (first | exact Sub.refl _ | assumption | exact Sub.left | apply Sub.cons | apply Sub.sv | apply Sub.app))))) ?_) | (refine Zv (Val_loadD1 rfl (RdX.rd (RdX.sub hcd' (by repeat (first | exact Sub.refl _ | assumption | exact Sub.left | apply Sub.cons | apply Sub.sv | apply Sub.app))))) ?_) | (refine Zv Zld ?_)); refine Zv Zai ?_))
    refine WP_joinQ [76, 77, 78, 79, 80, 81, 82, 83, 84, 85, 86, 87, 88, 89, 90, 91, 92, 93, 94, 95] (fun _ : Int × Int × Option (Nat × Nat) => []) (fun st => svH 61 4 (k + 1) (xs3 ++ [.int .i64 (iN : Int), .int .i64 (dN : Int), .int .i64 st.1, .int .i64 st.2.1]) st.2.2 (X ++ svH 3 1 g.h.rains.length xs2 s2 (svH 3 1 g.h.heaps.length xs1 s1 ((b4, Blk 27 [.slice g.A1 g.h.heaps.length g.c1, .slice g.A2 g.h.rains.length g.c2, .int .i64 g.h.d0, .int .i64 g.h.d1, .int .i64 g.h.d2, .int .i64 g.h.limit, svV st.2.2 (k + 1)]) :: (b2, Blk 27 (hvL g)) :: (bc, Blk 3 [.int .i64 ((g.h.heaps.length : Int) + (g.h.rains.length : Int) + 1 + 4 * ((k + 1 : Nat) : Int))]) :: (bb, Blk 50 [.slice Ab by_.length cb]) :: L1)))) (fun st => (0 ≤ st.1 ∧ st.1 ≤ n ∧ n ≤ st.2.1 ∧ st.2.1 ≤ 100) ∧ svOk st.2.2 4 (k + 1) (xs3 ++ [.int .i64 (iN : Int), .int .i64 (dN : Int), .int .i64 st.1, .int .i64 st.2.1])) ?_ ?_
    · intro K' hC
      have hcnt : (g.h.heaps.length : Int) + (g.h.rains.length : Int) + 1 + 4 * (k : Int) + 1 + 1 + 1 + 1 = (g.h.heaps.length : Int) + (g.h.rains.length : Int) + 1 + 4 * ((k + 1 : Nat) : Int) := by omega
      repeat' (first | (refine GiP ?_; first | (with_reducible refine Znl ?_) | (refine Zatd 83 ?_; refine OPS_retKS (Enters_val rfl rfl) (draw86_tri N w0 _ _ bc bb _ Ab cb by_ hB (by repeat (first | exact Up.here | apply Up.there | apply Up.sv | apply Up.app)) (by repeat (first | exact Mem.here | assumption | apply Mem.there | apply Mem.sv | apply Mem.app)) (by omega) 0 3 (by omega) (by omega) (by omega)) rfl rfl rfl (fun v L h => ?_); obtain ⟨m, rfl, hm1, hm2, rfl⟩ := h) | (refine Zatd 84 ?_; refine Zv Zxsub ?_) | (refine Zatd 85 ?_; refine Zv Zxmax ?_) | (refine Zatd 88 ?_; refine Zcl (Enters_fn rfl) (span31_ret N w0 _ _ _) ?_) | (refine Zatd 89 ?_; refine OPS_retKS (Enters_val rfl rfl) (draw86_tri N w0 _ _ bc bb _ Ab cb by_ hB (by repeat (first | exact Up.here | apply Up.there | apply Up.sv | apply Up.app)) (by repeat (first | exact Mem.here | assumption | apply Mem.there | apply Mem.sv | apply Mem.app)) (by omega) 0 3 (by omega) (by omega) (by omega)) rfl rfl rfl (fun v L h => ?_); obtain ⟨m, rfl, hm1, hm2, rfl⟩ := h) | (refine Zatd 90 ?_; refine Zv Zxadd ?_) | (refine Zatd 91 ?_; refine Zv Zxmin ?_) | (refine Zatd 92 ?_; refine Zcl (Enters_fn rfl) (look40_ret N w0 _ _ _ _ _) ?_) | (refine Zatd 93 ?_; refine Zal 93 fun b93 => ?_) | (refine Zatd 94 ?_; refine Zag (fun s94 hs94 => ?_)) | (refine Zatd 95 ?_; refine Zv Zfa ?_) | (refine Zatn ?_; refine OPS_turnN (Turn_store rfl rfl (by repeat (first | exact Up.here | apply Up.there | apply Up.sv | apply Up.app)) svV_cells (.there (.there (.there (.there (.there (.there (.here (.cons .nil)))))))) rfl svV_ones) rfl rfl ?_)) | (refine WP_drawnS (id := 18) (B := (b4, Blk 27 [.slice g.A1 g.h.heaps.length g.c1, .slice g.A2 g.h.rains.length g.c2, .int .i64 g.h.d0, .int .i64 g.h.d1, .int .i64 g.h.d2, .int .i64 g.h.limit, svV s3 k]) :: (b2, Blk 27 [.slice g.A1 g.h.heaps.length g.c1, .slice g.A2 g.h.rains.length g.c2, .int .i64 g.h.d0, .int .i64 g.h.d1, .int .i64 g.h.d2, .int .i64 g.h.limit, .slice g.A3 g.h.looks.length g.c3]) :: (bb, Blk 50 [.slice Ab by_.length cb]) :: L1) [0, 1, 2, 3, 4, 10, 11] [0, 1, 2, 3, 4, 5, 6, 10, 11] [] [76, 77, 78, 79, 80, 86, 87] (k := 9) (k2 := 3) (by repeat (first | exact Sub.refl _ | apply Sub.keep | apply Sub.appK | apply Sub.sv | apply Sub.cons | apply Sub.app)) (by kernel_rfl) prog_mixed (by kernel_rfl) (by kernel_rfl) rfl ?_; refine Zew rfl Zfa ?_; refine Zew rfl Zld ?_; refine Zew rfl Zmi ?_; refine Zew rfl Zmi ?_; refine Zew rfl Zmi ?_; refine Zew rfl Zmv ?_; refine Zec rfl (Enters_fn rfl) (fun X => span31_ret N w0 _ _ _) ?_; refine Zew rfl Zmi ?_; refine Zew rfl Zmv ?_) | (with_reducible apply EWalk_nil) | (refine GiC ?_; first | (refine ZgC [0, 1, 2, 3, 4, 5, 6, 10, 11] ?_; refine ZC1 _ 7 [0, 1, 2, 3, 4, 5, 6, 10, 11, 7] ?_) | (refine ZgC [0, 1, 2, 3, 4, 5, 6, 10, 11, 7] ?_; refine ZC2 _ 8 [0, 1, 2, 3, 4, 5, 6, 10, 11, 7, 8] 12 [0, 1, 2, 3, 4, 5, 6, 10, 11, 7, 12] ?_ ?_) | (refine ZgC [0, 1, 2, 3, 4, 5, 6, 10, 11, 7, 8] ?_; refine ZC2 _ 9 [0, 1, 2, 3, 4, 5, 6, 10, 11, 7, 8, 9] 12 [0, 1, 2, 3, 4, 5, 6, 10, 11, 7, 8, 12] ?_ ?_) | (refine ZgC [0, 1, 2, 3, 4, 5, 6, 10, 11, 7, 8, 9] ?_; refine ZC1 _ 12 [0, 1, 2, 3, 4, 5, 6, 10, 11, 7, 8, 9, 12] ?_) | (refine ZgC [0, 1, 2, 3, 4, 5, 6, 10, 11, 7, 8, 9, 12] ?_; refine ZC1 _ 13 [0, 1, 2, 3, 4, 5, 6, 10, 11, 7, 8, 9, 12, 13] ?_) | (refine ZgC [0, 1, 2, 3, 4, 5, 6, 10, 11, 7, 8, 9, 12, 13] ?_; refine ZC1 _ 14 [0, 1, 2, 3, 4, 5, 6, 10, 11, 7, 8, 9, 12, 13, 14] ?_) | (refine ZgC [0, 1, 2, 3, 4, 5, 6, 10, 11, 7, 8, 9, 12, 13, 14] ?_; refine ZC1 _ 15 [0, 1, 2, 3, 4, 5, 6, 10, 11, 7, 8, 9, 12, 13, 14, 15] ?_) | (refine ZgC [0, 1, 2, 3, 4, 5, 6, 10, 11, 7, 8, 9, 12, 13, 14, 15] ?_; refine ZC1 _ 16 [0, 1, 2, 3, 4, 5, 6, 10, 11, 7, 8, 9, 12, 13, 14, 15, 16] ?_) | (refine ZgC [0, 1, 2, 3, 4, 5, 6, 10, 11, 7, 8, 9, 12, 13, 14, 15, 16] ?_; refine ZC1 _ 17 [0, 1, 2, 3, 4, 5, 6, 10, 11, 7, 8, 9, 12, 13, 14, 15, 16, 17] ?_) | (refine ZgC [0, 1, 2, 3, 4, 5, 6, 10, 11, 7, 8, 9, 12, 13, 14, 15, 16, 17] ?_; refine ZCl _ ?_) | (refine ZgC [0, 1, 2, 3, 4, 5, 6, 10, 11, 7, 8, 12] ?_; refine ZC2 _ 9 [0, 1, 2, 3, 4, 5, 6, 10, 11, 7, 8, 9, 12] 13 [0, 1, 2, 3, 4, 5, 6, 10, 11, 7, 8, 12, 13] ?_ ?_) | (refine ZgC [0, 1, 2, 3, 4, 5, 6, 10, 11, 7, 8, 12, 13] ?_; refine ZC2 _ 9 [0, 1, 2, 3, 4, 5, 6, 10, 11, 7, 8, 9, 12, 13] 14 [0, 1, 2, 3, 4, 5, 6, 10, 11, 7, 8, 12, 13, 14] ?_ ?_) | (refine ZgC [0, 1, 2, 3, 4, 5, 6, 10, 11, 7, 8, 12, 13, 14] ?_; refine ZC2 _ 9 [0, 1, 2, 3, 4, 5, 6, 10, 11, 7, 8, 9, 12, 13, 14] 15 [0, 1, 2, 3, 4, 5, 6, 10, 11, 7, 8, 12, 13, 14, 15] ?_ ?_) | (refine ZgC [0, 1, 2, 3, 4, 5, 6, 10, 11, 7, 8, 12, 13, 14, 15] ?_; refine ZC1 _ 9 [0, 1, 2, 3, 4, 5, 6, 10, 11, 7, 8, 9, 12, 13, 14, 15] ?_) | (refine ZgC [0, 1, 2, 3, 4, 5, 6, 10, 11, 7, 12] ?_; refine ZC2 _ 8 [0, 1, 2, 3, 4, 5, 6, 10, 11, 7, 8, 12] 13 [0, 1, 2, 3, 4, 5, 6, 10, 11, 7, 12, 13] ?_ ?_) | (refine ZgC [0, 1, 2, 3, 4, 5, 6, 10, 11, 7, 12, 13] ?_; refine ZC2 _ 8 [0, 1, 2, 3, 4, 5, 6, 10, 11, 7, 8, 12, 13] 14 [0, 1, 2, 3, 4, 5, 6, 10, 11, 7, 12, 13, 14] ?_ ?_) | (refine ZgC [0, 1, 2, 3, 4, 5, 6, 10, 11, 7, 12, 13, 14] ?_; refine ZC2 _ 8 [0, 1, 2, 3, 4, 5, 6, 10, 11, 7, 8, 12, 13, 14] 15 [0, 1, 2, 3, 4, 5, 6, 10, 11, 7, 12, 13, 14, 15] ?_ ?_) | (refine ZgC [0, 1, 2, 3, 4, 5, 6, 10, 11, 7, 12, 13, 14, 15] ?_; refine ZC1 _ 8 [0, 1, 2, 3, 4, 5, 6, 10, 11, 7, 8, 12, 13, 14, 15] ?_)) | (refine GiO ?_; first | (refine ZgO [0, 1, 2, 3, 4, 5, 6, 10, 11, 7, 8, 9, 12, 13, 14, 15, 16, 17] ?_; refine ZO1 _ 18 [0, 1, 2, 3, 4, 5, 6, 10, 11, 7, 8, 9, 12, 13, 14, 15, 16, 17, 18] ?_) | (refine ZgO [0, 1, 2, 3, 4, 5, 6, 10, 11, 7, 8, 9, 12, 13, 14, 15, 16, 17, 18] ?_; refine ZO1 _ 19 [0, 1, 2, 3, 4, 5, 6, 10, 11, 7, 8, 9, 12, 13, 14, 15, 16, 17, 18, 19] ?_) | (refine ZgO [0, 1, 2, 3, 4, 5, 6, 10, 11, 7, 8, 9, 12, 13, 14, 15, 16, 17, 18, 19] ?_; refine ZO1 _ 20 [0, 1, 2, 3, 4, 5, 6, 10, 11, 7, 8, 9, 12, 13, 14, 15, 16, 17, 18, 19, 20] ?_) | (refine ZgO [0, 1, 2, 3, 4, 5, 6, 10, 11, 7, 8, 9, 12, 13, 14, 15, 16, 17, 18, 19, 20] ?_; refine ZOd _ ?_; (try with_reducible apply noP_normal); (try with_reducible exact key.out))) | (refine AWalk_0 ?_) | (with_reducible apply QAny_normal) | (with_reducible apply QC_normal))
      all_goals
        rw [hcnt]
        refine hC.nor (_, _, _) _ _ .nil (by repeat (first | exact Off.frame rfl | exact Off.refl _ _ | refine Off.frameT rfl rfl ?_ | refine Off.upd rfl ?_ | refine Off.updO rfl ?_)) ?_ ⟨?_, by assumption⟩
        · exact (by repeat (first | exact Wk.refl _ | apply Wk.keep1 | apply Wk.drop | apply Wk.sv | apply Wk.svD | apply Wk.appD))
        · dsimp only; omega
    rintro ⟨lo, hi', s4⟩ j4 L' ⟨hb4, hs4⟩ hw
    dsimp only at hb4 hs4
    apply QBlock_normal
    refine Zhn ?_
    refine WP_wk hw ?_
    dsimp only
    unfold hvL
    repeat' (first | (with_reducible refine Znl ?_) | (refine ZrN 19 fun _ => ?_; refine Zv Zxadd ?_; refine Zv Zmi ?_))
    refine QLoop_normal (k + 1, ls ++ [⟨iN, dN, lo, hi'⟩], _, s4) (.cons rfl .nil) (by repeat (first | exact Off.frame rfl | exact Off.refl _ _ | refine Off.frameT rfl rfl ?_ | refine Off.upd rfl ?_ | refine Off.updO rfl ?_)) (by repeat (first | exact Wk.refl _ | apply Wk.keep1 | apply Wk.drop | apply Wk.sv | apply Wk.svD | apply Wk.appD)) ⟨by dsimp only; omega, by simp [hll], hs4, by dsimp only; rw [hx3]; simp [lkL], fun l hl => ?_⟩ (by dsimp only; omega)
    rcases List.mem_append.1 hl with h | h
    · exact hls l h
    · rw [List.mem_singleton] at h
      subst h
      exact ⟨iN, dN, n, rfl, by omega, rfl, by omega, hn, hb4.1, hb4.2.1, hb4.2.2.1, hb4.2.2.2⟩
  · have hkn : k = nN := by omega
    subst hkn
    repeat' (first | (refine Znh ?_) | (refine GiW ?_; first | (refine Zsq fun K hK => ?_) | (refine ZrN 15 fun _ => ?_; refine Zv Zxlss ?_) | (refine Zcd (fun hc => ?_) (fun hc => ?_) <;> (try (exfalso; omega))) | (with_reducible apply WP_exit)) | (refine Zhn ?_) | (refine Zhx ?_) | (with_reducible apply QBlock_hit) | (with_reducible apply QLoop_exit))
    repeat' (first | (refine Znh ?_) | (refine GiW ?_; first | (refine ZrN 20 fun _ => ?_; refine Zv Zla ?_; refine Zv Zmv ?_; refine Zv Zmv ?_; refine OPS_turnN (Turn_store rfl rfl (by repeat (first | exact Up.here | apply Up.there | apply Up.sv | apply Up.app)) rfl (.here (.cons (.cons (.cons (.cons (.cons (.cons (.cons .nil)))))))) rfl (by cases s3 <;> rfl)) rfl rfl ?_; refine Zv Zav ?_; refine Zv Zav ?_) | (with_reducible apply WP_ret)))
    refine QBody_res rfl (.cellN rfl (by repeat (first | exact Mem.here | assumption | apply Mem.there | apply Mem.sv | apply Mem.app)) (.here (.cons (.cons (.cons (.cons (.cons (.cons (.cons .nil)))))))) (.tmp (v := .slice (some ⟨bo, 0, none⟩) g.h.heaps.length co) rfl (.tmp (v := svV s2 g.h.rains.length) rfl .nil))) rfl ?_
    refine ⟨svH 61 4 k xs3 s3 (X ++ svH 3 1 g.h.rains.length xs2 s2 L1), ?_, _, rfl, first, rains, ls, s2, s3, .slice (some ⟨bo, 0, none⟩) g.h.heaps.length co, X, ?_, hfl, hrl, hf, hr, by omega, hls, ?_, ?_, ?_, ?_⟩
    · exact .sv (.appK X (.sv (by repeat (first | exact Wk.refl _ | apply Wk.drop | apply Wk.svD))))
    · rw [hll, hrl]; rfl
    · rw [hll, ← hx3]; exact hs3
    · rw [hrl, ← hx2]; exact hs2
    · rw [← wetL_len g.h first rains]; exact ⟨some ⟨bo, 0, none⟩, co, rfl, hrow⟩
    · rw [hll, hrl, hx3, hx2]
end
end Go.Proofs.Ytlpahkmfjpjheaa
end

section
namespace Go.Proofs.Ytlpahkmfjpjheaa
open Go.RowKit
theorem idxF_at (p : Nat → Bool) : ∀ n, 0 ≤ idxF p n → p (idxF p n).toNat = true
  | 0, h0 => by rw [idxF_zero] at h0; omega
  | n + 1, h0 => by
    rw [idxF_succ] at h0 ⊢
    by_cases hc : idxF p n < 0 ∧ p n = true
    · rw [if_pos hc, Int.toNat_natCast]; exact hc.2
    · rw [if_neg hc] at h0 ⊢; exact idxF_at p n h0
/-- Heaps whose looks are right. -/
def trueH (h : Hv) (ls : List Lk) : Hv := { h with looks := ls }
section
variable {h : Hv} (hv : VH h) {first rains : List Int} {ls : List Lk} (hfl : first.length = h.heaps.length) (hrl : rains.length = h.rains.length) (hf : FirstOk h first) (hr : RainOk h rains) (hn : ls.length ≤ 5) (hl : ∀ l ∈ ls, LkTrue h first rains l)
include hv hr hrl hf hfl
omit hr hrl hv in
theorem first_get {i : Nat} (hi : i < h.heaps.length) : ∃ n, first.getD i 0 = n ∧ (tfOf h i).lo ≤ n ∧ n ≤ (tfOf h i).hi := by
  have h1 : i < first.length := by omega
  refine ⟨first[i], by rw [List.getD_eq_getElem?_getD, List.getElem?_eq_getElem h1]; rfl, hf i _ (List.getElem?_eq_getElem h1)⟩
/-- How wet a heap truly is. -/
theorem wetRow_get {i d : Nat} (hi : i < h.heaps.length) (hd : d < h.rains.length) : (wetRow h first rains i)[d]? = some (evn h i (first.getD i 0) rains d) := by
  obtain ⟨n, hn, h1, h2⟩ := first_get hfl hf hi
  have ht := hv.tf _ (tfOf_mem hi)
  unfold wetRow evn
  rw [wetF_get _ _ d (by omega), hn]
  congr 1
  refine lastN_evening hv _ (by omega) fun r hr' => ?_
  have := List.mem_of_mem_take hr'
  obtain ⟨k, hk, rfl⟩ := List.getElem_of_mem this
  have h3 := hr k _ _ (List.getElem?_eq_getElem hk) (List.getElem?_eq_getElem (by omega))
  have h4 := hv.rn _ (List.getElem_mem (show k < h.rains.length by omega))
  omega
include hl
omit hr hrl hf hfl in
theorem VH_true (hn : ls.length ≤ 5) : VH (trueH h ls) := by
  refine ⟨hv.nh, hv.nr, hv.lim, hn, hv.tf, hv.rn, hv.dr, fun l hm => ?_⟩
  obtain ⟨i, d, n, h1, h2, h3, h4, h5, h6, h7, h8, h9⟩ := hl l hm
  show (0 ≤ l.heap ∧ l.heap < (h.heaps.length : Int)) ∧ (0 ≤ l.day ∧ l.day < (h.rains.length : Int)) ∧ _
  omega
/-- The truth is one. -/
theorem true_one {i : Nat} (hi : i < h.heaps.length) : One (trueH h ls) (evL (trueH h ls)) rains i (first.getD i 0) := by
  obtain ⟨n, hn, h1, h2⟩ := first_get hfl hf hi
  refine ⟨by rw [hn]; exact h1, by rw [hn]; exact h2, fun j l hj _ hli => ?_⟩
  obtain ⟨i', d, n', e1, e2, e3, e4, e5, e6, e7, e8, e9⟩ := hl l (List.mem_of_getElem? hj)
  have : i' = i := by omega
  subst this
  have h3 := wetRow_get hv hfl hrl hf hr hi e4
  rw [e5] at h3
  simp only [Option.some.injEq] at h3
  have h4 : l.day.toNat = d := by omega
  rw [h4]
  show l.lo ≤ evn h i' _ rains d ∧ evn h i' _ rains d ≤ l.hi
  omega
theorem true_tr : Tr (trueH h ls) (evL (trueH h ls)) rains := by
  refine ⟨⟨hrl, fun d s v h1 h2 => hr d v s h2 h1⟩, fun i hi => ⟨_, true_one hv hfl hrl hf hr hl hi⟩⟩
include hn
theorem true_told : toldL (trueH h ls) ≠ [] := by
  rw [Ne, toldL_nil (VH_true hv hl hn)]
  exact fun hh => hh ⟨_, true_tr hv hfl hrl hf hr hl⟩
theorem true_rain {d : Nat} (hd : d < h.rains.length) {v : Int} (hvd : rains[d]? = some v) :
    RainV (trueH h ls) d = rainS (trueH h ls) d ∧ errE (trueH h ls) (DayOk (trueH h ls) d) = 0 ∧ (rainS (trueH h ls) d).1 ≤ v ∧ v ≤ (rainS (trueH h ls) d).2 ∧ h.rains[d].1 ≤ (rainS (trueH h ls) d).1 ∧ (rainS (trueH h ls) d).2 ≤ h.rains[d].2 := by
  have hV := VH_true hv hl hn
  have h0 := true_told hv hfl hrl hf hr hn hl
  have h1 := rain_ok (vB_of' hV) h0 (d := d) hd
  have hH := rainS_hull hV h0 (d := d) hd
  have h2 := hH.2.2 v ⟨rains, true_tr hv hfl hrl hf hr hl, hvd⟩
  obtain ⟨ra, hra, hva⟩ := hH.1
  obtain ⟨rb, hrb, hvb⟩ := hH.2.1
  have h3 := hra.1.2 d _ _ (List.getElem?_eq_getElem (show d < h.rains.length from hd)) hva
  have h4 := hrb.1.2 d _ _ (List.getElem?_eq_getElem (show d < h.rains.length from hd)) hvb
  exact ⟨h1.1, h1.2, h2.1, h2.2, h3.1, h4.2⟩
theorem true_wet {i d : Nat} (hi : i < h.heaps.length) (hd : d < h.rains.length) {n : Int} (hnd : (wetRow h first rains i)[d]? = some n) :
    WetV (trueH h ls) i d = wetS (trueH h ls) i d ∧ errE (trueH h ls) (WetOk (trueH h ls) i d) = 0 ∧ (wetS (trueH h ls) i d).1 ≤ n ∧ n ≤ (wetS (trueH h ls) i d).2 ∧
      ((DryV (trueH h ls) i d = 2 ∧ n ≤ h.limit) ∨ (DryV (trueH h ls) i d = 0 ∧ h.limit < n) ∨ DryV (trueH h ls) i d = 1) := by
  have hV := VH_true hv hl hn
  have h0 := true_told hv hfl hrl hf hr hn hl
  have h1 := wet_ok (vB_of' hV) h0 (i := i) (d := d) hi hd
  have hH := wetS_hull hV h0 (i := i) (d := d) hi hd
  rw [wetRow_get hv hfl hrl hf hr hi hd] at hnd
  simp only [Option.some.injEq] at hnd
  have h2 := hH.2.2 n ⟨rains, true_tr hv hfl hrl hf hr hl, _, true_one hv hfl hrl hf hr hl hi, hnd.symm⟩
  have h3 := dry_ok (vB_of' hV) h0 (i := i) (d := d) hi hd
  refine ⟨h1.1, h1.2, h2.1, h2.2, ?_⟩
  have hlim : (trueH h ls).limit = h.limit := rfl
  rw [hlim] at h3
  rcases h3 with ⟨a, b⟩ | ⟨a, b, _⟩ | ⟨a, _, _⟩
  · exact .inl ⟨a, by omega⟩
  · exact .inr (.inl ⟨a, by omega⟩)
  · exact .inr (.inr a)
theorem true_dry {i d : Nat} (hi : i < h.heaps.length) (hd : d < h.rains.length) (hdr : dr (trueH h ls) i d = true) {n : Int} (hnd : (wetRow h first rains i)[d]? = some n) : n ≤ h.limit := by
  have h1 := (true_wet hv hfl hrl hf hr hn hl hi hd hnd).2.2.2.1
  unfold dr at hdr
  have h2 := of_decide_eq_true hdr
  have hlim : (trueH h ls).limit = h.limit := rfl
  omega
theorem true_when {i : Nat} (hi : i < h.heaps.length) : (WhenE (trueH h ls) i = 0 ∧ ∃ d : Nat, WhenV (trueH h ls) i = d ∧ d < h.rains.length ∧ ∀ n, (wetRow h first rains i)[d]? = some n → n ≤ h.limit) ∨ (WhenE (trueH h ls) i = 4 ∧ WhenV (trueH h ls) i = 0) := by
  have hV := VH_true hv hl hn
  have h0 := true_told hv hfl hrl hf hr hn hl
  have hb := idxF_bd (dr (trueH h ls) i) h.rains.length
  rcases when_ok hV (vB_of' hV) h0 (i := i) hi with ⟨e, v, p⟩ | ⟨e, v, _⟩
  · refine .inl ⟨e, (idxF (dr (trueH h ls) i) h.rains.length).toNat, ?_, ?_, fun n hnd => ?_⟩
    · rw [v]; show idxF (dr (trueH h ls) i) h.rains.length = _
      have : 0 ≤ idxF (dr (trueH h ls) i) h.rains.length := p
      omega
    · have : 0 ≤ idxF (dr (trueH h ls) i) h.rains.length := p
      omega
    · have hp : 0 ≤ idxF (dr (trueH h ls) i) h.rains.length := p
      exact true_dry hv hfl hrl hf hr hn hl hi (by omega) (idxF_at _ _ hp) hnd
  · exact .inr ⟨e, v⟩
theorem true_all : (AllE (trueH h ls) = 0 ∧ ∃ d : Nat, AllV (trueH h ls) = d ∧ d < h.rains.length ∧ ∀ i, i < h.heaps.length → (∀ n, (wetRow h first rains i)[d]? = some n → n ≤ h.limit) ∧ WhenE (trueH h ls) i = 0 ∧ WhenV (trueH h ls) i ≤ d) ∨ (AllE (trueH h ls) = 4 ∧ AllV (trueH h ls) = 0) := by
  have hV := VH_true hv hl hn
  have h0 := true_told hv hfl hrl hf hr hn hl
  obtain ⟨q, hq⟩ : ∃ q : Nat → Bool, (fun d => (List.range (trueH h ls).heaps.length).all fun k => dr (trueH h ls) k d) = q := ⟨_, rfl⟩
  have hb := idxF_bd q h.rains.length
  have hall := all_ok hV (vB_of' hV) h0
  rw [hq] at hall
  rcases hall with ⟨e, v, p⟩ | ⟨e, v, _⟩
  · have hp : 0 ≤ idxF q h.rains.length := p
    refine .inl ⟨e, (idxF q h.rains.length).toNat, ?_, by omega, fun i hi => ?_⟩
    · rw [v]; show idxF q h.rains.length = _; omega
    · have hqi : ∀ k, q k = true → dr (trueH h ls) i k = true := by
        intro k hk
        rw [← hq] at hk
        exact (List.all_eq_true.1 hk) i (List.mem_range.2 hi)
      refine ⟨fun n hnd => true_dry hv hfl hrl hf hr hn hl hi (by omega) (hqi _ (idxF_at q _ hp)) hnd, ?_⟩
      have hle := idxF_le hqi h.rains.length hp
      rcases when_ok hV (vB_of' hV) h0 (i := i) hi with ⟨e', v', _⟩ | ⟨_, _, p'⟩
      · refine ⟨e', ?_⟩
        rw [v']
        show idxF (dr (trueH h ls) i) h.rains.length ≤ _
        omega
      · have : idxF (dr (trueH h ls) i) h.rains.length = -1 := p'
        omega
  · exact .inr ⟨e, v⟩
theorem true_false : FalseV (trueH h ls) = (0, 0) ∧ FalseE (trueH h ls) = 0 ∧ ClashE (trueH h ls) = 4 := by
  have hV := VH_true hv hl hn
  have h0 := true_told hv hfl hrl hf hr hn hl
  refine ⟨?_, (false_ok hV (vB_of' hV)).1, ?_⟩
  · rcases false_told hV (vB_of' hV) with ⟨h1, _⟩ | ⟨_, h1⟩
    · exact h1
    · exact absurd h1 h0
  · rcases clash_told hV (vB_of' hV) with ⟨h1, _, _⟩ | ⟨_, h1⟩
    · exact h1
    · exact absurd h1 h0
end
end Go.Proofs.Ytlpahkmfjpjheaa
end
