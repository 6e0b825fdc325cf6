/- The law SodEnds in plain terms: banks of which all is known; days in a row. -/
import Derived.Test.YtkaadefndcbdnaaQg
namespace Go.Proofs.Ytkaadefndcbdnaa
open Go.RowKit
def knSp (f : Spt → Int) (p : Spt) : Spt := ⟨p.sods, f p, f p⟩
def knownS (s : Sd) (f : Spt → Int) (g : Sp → Int) : Sd := ⟨s.spits.map (knSp f), s.days.map fun d => (g d, g d), []⟩
def bareS (s : Sd) : Sd := { s with logs := [] }
theorem VS_bare {s : Sd} (v : VS s) : VS (bareS s) := ⟨v.np, v.nd, Nat.zero_le _, v.sp, v.dy, fun l hl => by cases hl⟩
theorem VS_known {s : Sd} (v : VS s) {f : Spt → Int} {g : Sp → Int} (hf : ∀ p ∈ s.spits, p.lo ≤ f p ∧ f p ≤ p.hi) (hg : ∀ d ∈ s.days, d.1 ≤ g d ∧ g d ≤ d.2) : VS (knownS s f g) := by
  refine ⟨?_, ?_, Nat.zero_le _, fun q hq => ?_, fun q hq => ?_, fun l hl => by cases hl⟩
  · show 1 ≤ (s.spits.map _).length ∧ (s.spits.map _).length ≤ 3
    rw [List.length_map]; exact v.np
  · show 1 ≤ (s.days.map _).length ∧ (s.days.map _).length ≤ 6
    rw [List.length_map]; exact v.nd
  · obtain ⟨p, hp, rfl⟩ := List.mem_map.1 hq
    have h1 := v.sp p hp
    have h2 := hf p hp
    exact ⟨h1.1, by show 1 ≤ f p; omega, Int.le_refl _, by show f p ≤ 6; omega, by show f p - f p ≤ 2; omega⟩
  · obtain ⟨d, hd, rfl⟩ := List.mem_map.1 hq
    have h1 := v.dy d hd
    have h2 := hg d hd
    exact ⟨by show 0 ≤ g d; omega, Int.le_refl _, by show g d ≤ 100; omega⟩
/-- Costs that are no greater. -/
def LeC : List Int → List Int → Prop
  | [], [] => True
  | a :: l, b :: m => a ≤ b ∧ LeC l m
  | _, _ => False
theorem LeC.app : ∀ {l m : List Int} (z : List Int), LeC l m → LeC (l ++ z) (m ++ z)
  | [], [], z, _ => by
    induction z with
    | nil => trivial
    | cons a z ih => exact ⟨Int.le_refl _, ih⟩
  | a :: l, b :: m, z, h => ⟨h.1, LeC.app z h.2⟩
  | [], _ :: _, _, h => h.elim
  | _ :: _, [], _, h => h.elim
theorem LeC.len : ∀ {l m : List Int}, LeC l m → l.length = m.length
  | [], [], _ => rfl
  | a :: l, b :: m, h => by simp [LeC.len h.2]
  | [], _ :: _, h => h.elim
  | _ :: _, [], h => h.elim
theorem LeC.pad {l m : List Int} (h : LeC l m) : LeC (pad3 l) (pad3 m) := by
  unfold pad3
  rw [h.len]
  exact h.app _
theorem strk_cost : ∀ (ps : List Spt) (c c' : List Int) (n n' k : Int), SpOk ps → 0 ≤ k → LeC c c' → n ≤ n' → strk ps c n k ≤ strk ps c' n' k
  | [], _, _, n, n', k, _, _, _, hn => by unfold strk; split <;> omega
  | p :: ps, [], [], n, n', k, _, _, _, hn => by unfold strk; split <;> omega
  | p :: ps, a :: c, b :: c', n, n', k, hp, hk, h, hn => by
    unfold strk
    have h1 := (hp p (.head _)).1
    refine strk_cost ps c c' _ _ _ hp.tail (by omega) h.2 ?_
    have : min k p.sods * a ≤ min k p.sods * b := Int.mul_le_mul_of_nonneg_left h.1 (by omega)
    omega
  | _ :: _, [], _ :: _, _, _, _, _, _, h, _ => h.elim
  | _ :: _, _ :: _, [], _, _, _, _, _, h, _ => h.elim
theorem cutS_cost {ps : List Spt} {c c' : List Int} {t : Int} (hp : SpOk ps) (h1 : CIn ps c) (h2 : CIn ps c') (h : LeC c c') (ht : 0 ≤ t) (hf : t < far) : cutS ps c' 0 t ≤ cutS ps c 0 t := by
  have h0 := cutS_nonneg ps c' t hp h2 ht
  have h3 := (strk_le ps c' 0 (cutS ps c' 0 t) t hp h2 h0 ht (by omega) (by omega)).2 (Int.le_refl _)
  have h4 := strk_cost ps c c' 0 0 (cutS ps c' 0 t) hp h0 h (Int.le_refl _)
  exact (strk_le ps c 0 (cutS ps c' 0 t) t hp h1 h0 ht (by omega) (by omega)).1 (by omega)
theorem cin_known {f : Spt → Int} : ∀ {ps : List Spt} {r : List Int}, (∀ p ∈ ps, p.lo ≤ f p ∧ f p ≤ p.hi) → CIn (ps.map (knSp f)) r → CIn ps r
  | [], _, _, _ => .nil
  | p :: ps, r, hf, h => by
    rw [List.map_cons] at h
    cases h with | cons h1 h2 =>
    have := hf p (.head _)
    exact .cons (by unfold knSp at h1; dsimp only at h1; omega) (cin_known (fun q hq => hf q (.tail _ hq)) h2)
theorem cin_most : ∀ {ps : List Spt} {r r' : List Int}, r.length = ps.length → r'.length = ps.length → CIn (ps.map (knSp (·.hi))) r → CIn ps r' → LeC r' r
  | [], [], [], _, _, _, _ => trivial
  | p :: ps, a :: r, b :: r', hl, hl', h, h' => by
    rw [List.map_cons] at h
    cases h with | cons h1 h2 =>
    cases h' with | cons h3 h4 =>
    exact ⟨by unfold knSp at h1; dsimp only at h1; omega, cin_most (by simpa using hl) (by simpa using hl') h2 h4⟩
  | [], _ :: _, _, h, _, _, _ => by simp at h
  | [], _, _ :: _, _, h, _, _ => by simp at h
  | _ :: _, [], _, h, _, _, _ => by simp at h
  | _ :: _, _ :: _, [], _, h, _, _ => by simp at h
theorem cin_least : ∀ {ps : List Spt} {r r' : List Int}, r.length = ps.length → r'.length = ps.length → CIn (ps.map (knSp (·.lo))) r → CIn ps r' → LeC r r'
  | [], [], [], _, _, _, _ => trivial
  | p :: ps, a :: r, b :: r', hl, hl', h, h' => by
    rw [List.map_cons] at h
    cases h with | cons h1 h2 =>
    cases h' with | cons h3 h4 =>
    exact ⟨by unfold knSp at h1; dsimp only at h1; omega, cin_least (by simpa using hl) (by simpa using hl') h2 h4⟩
  | [], _ :: _, _, h, _, _, _ => by simp at h
  | [], _, _ :: _, _, h, _, _ => by simp at h
  | _ :: _, [], _, h, _, _, _ => by simp at h
  | _ :: _, _ :: _, [], _, h, _, _ => by simp at h
theorem steps_known {g : Sp → Int} : ∀ {xs : List Sp} {a : Int} {ts : List Int}, (∀ d ∈ xs, d.1 ≤ g d ∧ g d ≤ d.2) → Steps a (xs.map fun d => (g d, g d)) ts → Steps a xs ts
  | [], _, _, _, h => h
  | x :: xs, a, t :: ts, hg, h => by
    have h0 := hg x (.head _)
    obtain ⟨h1, h2, h3⟩ := h
    exact ⟨by dsimp only at h1; omega, by dsimp only at h2; omega, steps_known (fun d hd => hg d (.tail _ hd)) h3⟩
  | _ :: _, _, [], _, h => h.elim
theorem steps_few : ∀ {xs : List Sp} {a a' : Int} {ts ts' : List Int}, a ≤ a' → Steps a (xs.map fun d => (d.1, d.1)) ts → Steps a' xs ts' → ∀ (d : Nat) (t t' : Int), ts[d]? = some t → ts'[d]? = some t' → t ≤ t'
  | [], _, _, ts, _, _, h, _, d, t, t', ht, _ => by
    have h : ts = [] := h
    subst h; simp at ht
  | x :: xs, a, a', t :: ts, t' :: ts', ha, h, h', d, u, u', hu, hu' => by
    obtain ⟨h1, h2, h3⟩ := h
    obtain ⟨h4, h5, h6⟩ := h'
    dsimp only at h1 h2
    cases d with
    | zero =>
      simp only [List.getElem?_cons_zero, Option.some.injEq] at hu hu'
      omega
    | succ d => exact steps_few (by omega) h3 h6 d u u' (by simpa using hu) (by simpa using hu')
  | _ :: _, _, _, [], _, _, h, _, _, _, _, _, _ => h.elim
  | _ :: _, _, _, _ :: _, [], _, _, h, _, _, _, _, _ => h.elim
theorem steps_many : ∀ {xs : List Sp} {a a' : Int} {ts ts' : List Int}, a' ≤ a → Steps a (xs.map fun d => (d.2, d.2)) ts → Steps a' xs ts' → ∀ (d : Nat) (t t' : Int), ts[d]? = some t → ts'[d]? = some t' → t' ≤ t
  | [], _, _, ts, _, _, h, _, d, t, t', ht, _ => by
    have h : ts = [] := h
    subst h; simp at ht
  | x :: xs, a, a', t :: ts, t' :: ts', ha, h, h', d, u, u', hu, hu' => by
    obtain ⟨h1, h2, h3⟩ := h
    obtain ⟨h4, h5, h6⟩ := h'
    dsimp only at h1 h2
    cases d with
    | zero =>
      simp only [List.getElem?_cons_zero, Option.some.injEq] at hu hu'
      omega
    | succ d => exact steps_many (by omega) h3 h6 d u u' (by simpa using hu) (by simpa using hu')
  | _ :: _, _, _, [], _, _, h, _, _, _, _, _, _ => h.elim
  | _ :: _, _, _, _ :: _, [], _, _, h, _, _, _, _, _ => h.elim
theorem Hull.low {v w : Sp} {P Q : Int → Prop} (h : Hull v P) (k : Hull w Q) (hs : ∀ n, P n → Q n) (hl : ∀ n m, P n → Q m → n ≤ m) : v = (w.1, w.1) := by
  have h1 := h.sub k hs
  have h2 := hl _ _ h.1 k.1
  have h3 := hl _ _ h.2.1 k.1
  have h4 := h.2.2 _ h.2.1
  exact Prod.ext (by dsimp only; omega) (by dsimp only; omega)
theorem Hull.high {v w : Sp} {P Q : Int → Prop} (h : Hull v P) (k : Hull w Q) (hs : ∀ n, P n → Q n) (hl : ∀ n m, P n → Q m → m ≤ n) : v = (w.2, w.2) := by
  have h1 := h.sub k hs
  have h2 := hl _ _ h.1 k.2.1
  have h3 := hl _ _ h.2.1 k.2.1
  have h4 := h.2.2 _ h.2.1
  exact Prod.ext (by dsimp only; omega) (by dsimp only; omega)
theorem knSp_sods (f : Spt → Int) (ps : List Spt) : (ps.map (knSp f)).map (·.sods) = ps.map (·.sods) := by rw [List.map_map]; rfl
theorem strk_congr : ∀ (ps qs : List Spt) (cs : List Int) (n k : Int), ps.map (·.sods) = qs.map (·.sods) → strk ps cs n k = strk qs cs n k
  | [], [], cs, n, k, _ => rfl
  | p :: ps, q :: qs, [], n, k, _ => by simp [strk]
  | p :: ps, q :: qs, c :: cs, n, k, h => by
    simp only [List.map_cons, List.cons.injEq] at h
    unfold strk
    rw [h.1, strk_congr ps qs cs _ _ h.2]
  | [], _ :: _, _, _, _, h => by simp at h
  | _ :: _, [], _, _, _, h => by simp at h
theorem cutS_congr2 : ∀ (ps qs : List Spt) (cs : List Int) (n t : Int), ps.map (·.sods) = qs.map (·.sods) → cutS ps cs n t = cutS qs cs n t
  | [], [], cs, n, t, _ => rfl
  | p :: ps, q :: qs, [], n, t, _ => by simp [cutS]
  | p :: ps, q :: qs, c :: cs, n, t, h => by
    simp only [List.map_cons, List.cons.injEq] at h
    unfold cutS
    rw [h.1, cutS_congr2 ps qs cs _ _ h.2]
  | [], _ :: _, _, _, _, h => by simp at h
  | _ :: _, [], _, _, _, h => by simp at h
theorem strk_few : ∀ (ps : List Spt) (c : List Int) (n k : Int), SpOk ps → CIn ps c → 0 ≤ k → k ≤ (ps.map (·.sods)).sum → strk ps c n k ≤ n + 6 * k
  | [], _, n, k, _, _, hk, h => by
    simp at h
    unfold strk
    split <;> omega
  | p :: ps, [], _, _, _, h, _, _ => by cases h
  | p :: ps, a :: c, n, k, hp, hc, hk, h => by
    cases hc with | cons h1 h2 =>
    unfold strk
    rw [List.map_cons, List.sum_cons] at h
    have h3 := hp p (.head _)
    have h4 : min k p.sods * a ≤ min k p.sods * 6 := Int.mul_le_mul_of_nonneg_left (by omega) (by omega)
    have := strk_few ps c (n + min k p.sods * a) (k - min k p.sods) hp.tail h2 (by omega) (by
      have := sum_nonneg ps fun q hq => by have := (hp q (.tail _ hq)).1; omega
      omega)
    omega
section
variable {s : Sd} (v : VS s)
include v
theorem need_few (h0 : toldC s ≠ []) {d : Nat} (hd : d < s.days.length) : (needV s d).2 ≤ 540 := by
  obtain ⟨c, ts, t, h, ht, he⟩ := (need_hull v h0 hd).2.1
  have b := h.bd v (List.mem_of_getElem? ht)
  have h1 := sumT_bd v s.spits.length
  have hw : sumT s s.spits.length = ((s.spits.take s.spits.length).map (·.sods)).sum := rfl
  have h2 := strk_few s.spits c 0 (sumT s s.spits.length) v.spOk (rowsC_cin h.1) h1.1 (by rw [hw, List.take_length]; exact Int.le_refl _)
  have h3 : wholeS s c s.spits.length = strk s.spits c 0 (sumT s s.spits.length) := rfl
  omega
omit v in
theorem tru_known {f : Spt → Int} {g : Sp → Int} (hf : ∀ p ∈ s.spits, p.lo ≤ f p ∧ f p ≤ p.hi) (hg : ∀ d ∈ s.days, d.1 ≤ g d ∧ g d ≤ d.2) {c ts : List Int} (h : Tru (knownS s f g) c ts) : Tru (bareS s) c ts := by
  obtain ⟨h1, h2, _⟩ := tru_iff.1 h
  obtain ⟨r, h3, h4, h5⟩ := rowsC_iff.1 h1
  refine tru_iff.2 ⟨rowsC_iff.2 ⟨r, ?_, cin_known hf h4, h5⟩, steps_known hg h2, fun l hl => by cases hl⟩
  rw [h3]
  show (s.spits.map _).length = s.spits.length
  rw [List.length_map]
theorem known_ends {f : Spt → Int} {g : Sp → Int} (hf : ∀ p ∈ s.spits, p.lo ≤ f p ∧ f p ≤ p.hi) (hg : ∀ d ∈ s.days, d.1 ≤ g d ∧ g d ≤ d.2) {d : Nat} (hd : d < s.days.length) :
    VS (knownS s f g) ∧ toldC (knownS s f g) ≠ [] ∧ toldC (bareS s) ≠ [] ∧
    ((∀ c ts c' ts', Tru (knownS s f g) c ts → Tru (bareS s) c' ts' → LeC c' c ∧ ∀ (d : Nat) (t t' : Int), ts[d]? = some t → ts'[d]? = some t' → t ≤ t') → cutV (knownS s f g) d = ((cutV (bareS s) d).1, (cutV (bareS s) d).1) ∧ needV (knownS s f g) d = ((needV (bareS s) d).2, (needV (bareS s) d).2)) ∧
    ((∀ c ts c' ts', Tru (knownS s f g) c ts → Tru (bareS s) c' ts' → LeC c c' ∧ ∀ (d : Nat) (t t' : Int), ts[d]? = some t → ts'[d]? = some t' → t' ≤ t) → cutV (knownS s f g) d = ((cutV (bareS s) d).2, (cutV (bareS s) d).2) ∧ needV (knownS s f g) d = ((needV (bareS s) d).1, (needV (bareS s) d).1)) := by
  have vk := VS_known v hf hg
  have vb := VS_bare v
  have hk := (told_ne vk).2 (bare_some vk rfl)
  have hb := (told_ne vb).2 (bare_some vb rfl)
  have hdk : d < (knownS s f g).days.length := by show d < (s.days.map _).length; rw [List.length_map]; exact hd
  have e1 : ∀ c n t, cutS (knownS s f g).spits c n t = cutS s.spits c n t := fun c n t => cutS_congr2 _ _ c n t (knSp_sods f s.spits)
  have el : (knownS s f g).spits.length = s.spits.length := by show (s.spits.map _).length = _; rw [List.length_map]
  have e2 : ∀ c, wholeS (knownS s f g) c (knownS s f g).spits.length = wholeS s c s.spits.length := fun c => by
    unfold wholeS
    rw [List.map_take, List.map_take, el, show (knownS s f g).spits.map (·.sods) = s.spits.map (·.sods) from knSp_sods f s.spits]
    exact strk_congr _ _ _ _ _ (knSp_sods f s.spits)
  have h1 := cut_hull vk hk hdk
  have h2 := cut_hull vb hb (d := d) hd
  have h3 := need_hull vk hk hdk
  have h4 := need_hull vb hb (d := d) hd
  have cin : ∀ {c ts}, Tru (bareS s) c ts → CIn s.spits c := fun h => rowsC_cin h.1
  have hsum : 0 ≤ ((s.spits.take s.spits.length).map (·.sods)).sum := by
    refine sum_nonneg _ fun p hp => ?_
    have := (v.sp p (List.mem_of_mem_take hp)).1
    omega
  have hs1 : ∀ n, (∃ c ts t, Tru (knownS s f g) c ts ∧ ts[d]? = some t ∧ n = cutS (knownS s f g).spits c 0 t) → ∃ c ts t, Tru (bareS s) c ts ∧ ts[d]? = some t ∧ n = cutS (bareS s).spits c 0 t := by
    rintro n ⟨c, ts, t, a1, a2, a3⟩
    exact ⟨c, ts, t, tru_known hf hg a1, a2, by rw [a3, e1]; rfl⟩
  have hs2 : ∀ n, (∃ c ts t, Tru (knownS s f g) c ts ∧ ts[d]? = some t ∧ n = max 0 (wholeS (knownS s f g) c (knownS s f g).spits.length - t)) → ∃ c ts t, Tru (bareS s) c ts ∧ ts[d]? = some t ∧ n = max 0 (wholeS (bareS s) c (bareS s).spits.length - t) := by
    rintro n ⟨c, ts, t, a1, a2, a3⟩
    exact ⟨c, ts, t, tru_known hf hg a1, a2, by rw [a3, e2]; rfl⟩
  refine ⟨vk, hk, hb, fun hle => ⟨h1.low h2 hs1 ?_, h3.high h4 hs2 ?_⟩, fun hle => ⟨h1.high h2 hs1 ?_, h3.low h4 hs2 ?_⟩⟩
  · rintro n m ⟨c, ts, t, a1, a2, rfl⟩ ⟨c', ts', t', b1, b2, rfl⟩
    obtain ⟨l1, l2⟩ := hle _ _ _ _ a1 b1
    have a4 := tru_known hf hg a1
    have l3 := l2 d t t' a2 b2
    have d1 := a4.bd vb (List.mem_of_getElem? a2)
    have d2 := b1.bd vb (List.mem_of_getElem? b2)
    rw [e1]
    have m1 := cutS_cost v.spOk (cin b1) (cin a4) l1 d1.1 (by unfold far; omega)
    have m2 := cutS_mono v.spOk (cin b1) d1.1 l3 (by unfold far; omega)
    exact Int.le_trans m1 m2
  · rintro n m ⟨c, ts, t, a1, a2, rfl⟩ ⟨c', ts', t', b1, b2, rfl⟩
    obtain ⟨l1, l2⟩ := hle _ _ _ _ a1 b1
    have l3 := l2 d t t' a2 b2
    have m1 := strk_cost s.spits c' c 0 0 _ v.spOk hsum l1 (Int.le_refl _)
    have m1 : wholeS s c' s.spits.length ≤ wholeS s c s.spits.length := m1
    rw [e2]
    show max 0 (wholeS s c' s.spits.length - t') ≤ _
    omega
  · rintro n m ⟨c, ts, t, a1, a2, rfl⟩ ⟨c', ts', t', b1, b2, rfl⟩
    obtain ⟨l1, l2⟩ := hle _ _ _ _ a1 b1
    have a4 := tru_known hf hg a1
    have l3 := l2 d t t' a2 b2
    have d1 := a4.bd vb (List.mem_of_getElem? a2)
    have d2 := b1.bd vb (List.mem_of_getElem? b2)
    rw [e1]
    have m1 := cutS_cost v.spOk (cin a4) (cin b1) l1 d2.1 (by unfold far; omega)
    have m2 := cutS_mono v.spOk (cin a4) d2.1 l3 (by unfold far; omega)
    exact Int.le_trans m1 m2
  · rintro n m ⟨c, ts, t, a1, a2, rfl⟩ ⟨c', ts', t', b1, b2, rfl⟩
    obtain ⟨l1, l2⟩ := hle _ _ _ _ a1 b1
    have l3 := l2 d t t' a2 b2
    have m1 := strk_cost s.spits c c' 0 0 _ v.spOk hsum l1 (Int.le_refl _)
    have m1 : wholeS s c s.spits.length ≤ wholeS s c' s.spits.length := m1
    rw [e2]
    show _ ≤ max 0 (wholeS s c' s.spits.length - t')
    omega
/-- Both ends without counts. -/
theorem ends_facts {d : Nat} (hd : d < s.days.length) : VS (bareS s) ∧ toldC (bareS s) ≠ [] ∧
    (VS (knownS s (·.hi) (·.1)) ∧ toldC (knownS s (·.hi) (·.1)) ≠ [] ∧ cutV (knownS s (·.hi) (·.1)) d = ((cutV (bareS s) d).1, (cutV (bareS s) d).1) ∧ needV (knownS s (·.hi) (·.1)) d = ((needV (bareS s) d).2, (needV (bareS s) d).2)) ∧
    (VS (knownS s (·.lo) (·.2)) ∧ toldC (knownS s (·.lo) (·.2)) ≠ [] ∧ cutV (knownS s (·.lo) (·.2)) d = ((cutV (bareS s) d).2, (cutV (bareS s) d).2) ∧ needV (knownS s (·.lo) (·.2)) d = ((needV (bareS s) d).1, (needV (bareS s) d).1)) := by
  have hl : ∀ p ∈ s.spits, p.lo ≤ p.hi := fun p hp => (v.sp p hp).2.2.1
  have hd2 : ∀ d ∈ s.days, d.1 ≤ d.2 := fun d hd => (v.dy d hd).2.1
  obtain ⟨a1, a2, a3, a4, _⟩ := known_ends v (f := (·.hi)) (g := (·.1)) (fun p hp => ⟨hl p hp, Int.le_refl _⟩) (fun d hd => ⟨Int.le_refl _, hd2 d hd⟩) hd
  obtain ⟨b1, b2, b3, _, b5⟩ := known_ends v (f := (·.lo)) (g := (·.2)) (fun p hp => ⟨Int.le_refl _, hl p hp⟩) (fun d hd => ⟨hd2 d hd, Int.le_refl _⟩) hd
  refine ⟨VS_bare v, a3, ⟨a1, a2, a4 ?_⟩, b1, b2, b5 ?_⟩
  · intro c ts c' ts' h h'
    obtain ⟨h1, h2, _⟩ := tru_iff.1 h
    obtain ⟨h3, h4, _⟩ := tru_iff.1 h'
    obtain ⟨r, x1, x2, rfl⟩ := rowsC_iff.1 h1
    obtain ⟨r', y1, y2, rfl⟩ := rowsC_iff.1 h3
    exact ⟨(cin_most (ps := s.spits) (by rw [x1]; exact List.length_map ..) y1 x2 y2).pad, steps_few (Int.le_refl _) h2 h4⟩
  · intro c ts c' ts' h h'
    obtain ⟨h1, h2, _⟩ := tru_iff.1 h
    obtain ⟨h3, h4, _⟩ := tru_iff.1 h'
    obtain ⟨r, x1, x2, rfl⟩ := rowsC_iff.1 h1
    obtain ⟨r', y1, y2, rfl⟩ := rowsC_iff.1 h3
    exact ⟨(cin_least (ps := s.spits) (by rw [x1]; exact List.length_map ..) y1 x2 y2).pad, steps_many (Int.le_refl _) h2 h4⟩
/-- By a later day no fewer sods are cut, and no more strokes are needed. -/
theorem later_facts (h0 : toldC s ≠ []) {d : Nat} (hd : d + 1 < s.days.length) : (cutV s d).1 ≤ (cutV s (d + 1)).1 ∧ (cutV s d).2 ≤ (cutV s (d + 1)).2 ∧ (needV s (d + 1)).1 ≤ (needV s d).1 ∧ (needV s (d + 1)).2 ≤ (needV s d).2 := by
  have hd0 : d < s.days.length := by omega
  have h1 := cut_hull v h0 hd0
  have h2 := cut_hull v h0 hd
  have h3 := need_hull v h0 hd0
  have h4 := need_hull v h0 hd
  have step : ∀ c ts t u, Tru s c ts → ts[d]? = some t → ts[d + 1]? = some u → cutS s.spits c 0 t ≤ cutS s.spits c 0 u ∧ t ≤ u := by
    intro c ts t u h ht hu
    have hle := h.up v (Nat.le_succ d) ht hu
    have b1 := h.bd v (List.mem_of_getElem? ht)
    have b2 := h.bd v (List.mem_of_getElem? hu)
    exact ⟨cutS_mono v.spOk (rowsC_cin h.1) b1.1 hle (by unfold far; omega), hle⟩
  refine ⟨?_, ?_, ?_, ?_⟩
  · obtain ⟨c, ts, u, a1, a2, a3⟩ := h2.1
    obtain ⟨t, ht⟩ := a1.get hd0
    have := (h1.2.2 _ ⟨c, ts, t, a1, ht, rfl⟩).1
    have := step c ts t u a1 ht a2
    omega
  · obtain ⟨c, ts, t, a1, a2, a3⟩ := h1.2.1
    obtain ⟨u, hu⟩ := a1.get hd
    have := (h2.2.2 _ ⟨c, ts, u, a1, hu, rfl⟩).2
    have := step c ts t u a1 a2 hu
    omega
  · obtain ⟨c, ts, t, a1, a2, a3⟩ := h3.1
    obtain ⟨u, hu⟩ := a1.get hd
    have := (h4.2.2 _ ⟨c, ts, u, a1, hu, rfl⟩).1
    have := step c ts t u a1 a2 hu
    omega
  · obtain ⟨c, ts, u, a1, a2, a3⟩ := h4.2.1
    obtain ⟨t, ht⟩ := a1.get hd0
    have := (h3.2.2 _ ⟨c, ts, t, a1, ht, rfl⟩).2
    have := step c ts t u a1 ht a2
    omega
end
end Go.Proofs.Ytkaadefndcbdnaa
