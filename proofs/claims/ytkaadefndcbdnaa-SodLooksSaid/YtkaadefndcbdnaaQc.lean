/- Layer sod in plain terms: truths, and the spans of what they have. -/
import Derived.Test.YtkaadefndcbdnaaQb
namespace Go.Proofs.Ytkaadefndcbdnaa
open Go.RowKit
/-- A truth: costs, and strokes by each day. -/
def Tru (s : Sd) (c ts : List Int) : Prop := c ∈ rowsC s ∧ Path s c 0 s.days 0 ts
/-- The span of what is so. -/
def Hull (v : Sp) (P : Int → Prop) : Prop := P v.1 ∧ P v.2 ∧ ∀ n, P n → v.1 ≤ n ∧ n ≤ v.2
theorem Hull.uniq {v w : Sp} {P : Int → Prop} (h : Hull v P) (k : Hull w P) : v = w := by
  have h1 := h.2.2 _ k.1
  have h2 := h.2.2 _ k.2.1
  have h3 := k.2.2 _ h.1
  have h4 := k.2.2 _ h.2.1
  exact Prod.ext (by omega) (by omega)
theorem Hull.congr {v : Sp} {P Q : Int → Prop} (h : Hull v P) (k : ∀ n, P n ↔ Q n) : Hull v Q := ⟨(k _).1 h.1, (k _).1 h.2.1, fun n hn => h.2.2 n ((k n).2 hn)⟩
theorem Hull.sub {v w : Sp} {P Q : Int → Prop} (h : Hull v P) (k : Hull w Q) (hs : ∀ n, P n → Q n) : w.1 ≤ v.1 ∧ v.2 ≤ w.2 := ⟨(k.2.2 _ (hs _ h.1)).1, (k.2.2 _ (hs _ h.2.1)).2⟩
theorem jn_cons (x y : Sp) (l : List Sp) : jn (x :: y :: l) = jn ((min x.1 y.1, max x.2 y.2) :: l) := rfl
theorem jn_hull : ∀ (l : List Sp), l ≠ [] → (∃ x ∈ l, x.1 = (jn l).1) ∧ (∃ x ∈ l, x.2 = (jn l).2) ∧ ∀ x ∈ l, (jn l).1 ≤ x.1 ∧ x.2 ≤ (jn l).2
  | [], h => absurd rfl h
  | [x], _ => ⟨⟨x, by simp, rfl⟩, ⟨x, by simp, rfl⟩, fun y hy => by rw [List.mem_singleton.1 hy]; exact ⟨Int.le_refl _, Int.le_refl _⟩⟩
  | x :: y :: l, _ => by
    obtain ⟨⟨a, ha, h1⟩, ⟨b, hb, h2⟩, h3⟩ := jn_hull ((min x.1 y.1, max x.2 y.2) :: l) (by simp)
    rw [jn_cons]
    have h4 := h3 _ (.head _)
    dsimp only at h4
    refine ⟨?_, ?_, ?_⟩
    · rcases List.mem_cons.1 ha with rfl | ha
      · dsimp only at h1
        by_cases hm : x.1 ≤ y.1
        · exact ⟨x, by simp, by omega⟩
        · exact ⟨y, by simp, by omega⟩
      · exact ⟨a, by simp [ha], h1⟩
    · rcases List.mem_cons.1 hb with rfl | hb
      · dsimp only at h2
        by_cases hm : x.2 ≤ y.2
        · exact ⟨y, by simp, by omega⟩
        · exact ⟨x, by simp, by omega⟩
      · exact ⟨b, by simp [hb], h2⟩
    · intro z hz
      rcases List.mem_cons.1 hz with rfl | hz
      · omega
      · rcases List.mem_cons.1 hz with rfl | hz
        · omega
        · exact h3 z (.tail _ hz)
termination_by l => l.length
theorem path_len {s : Sd} {c : List Int} : ∀ (xs : List Sp) (a : Int) (d : Nat) (ts : List Int), Path s c a xs d ts → ts.length = xs.length
  | [], _, _, ts, h => by have : ts = [] := h; simp [this]
  | x :: xs, a, d, [], h => h.elim
  | x :: xs, a, d, t :: ts, h => by simp [path_len xs t (d + 1) ts h.2.2.2]
theorem path_bd {s : Sd} {c : List Int} : ∀ (xs : List Sp) (a : Int) (d : Nat) (ts : List Int), (∀ x ∈ xs, 0 ≤ x.1 ∧ x.1 ≤ x.2 ∧ x.2 ≤ 100) → Path s c a xs d ts → ∀ t ∈ ts, a ≤ t ∧ t ≤ a + 100 * xs.length
  | [], _, _, ts, _, h, t, ht => by have : ts = [] := h; rw [this] at ht; cases ht
  | x :: xs, a, d, [], _, h, _, _ => h.elim
  | x :: xs, a, d, u :: ts, hx, h, t, ht => by
    obtain ⟨h1, h2, _, h4⟩ := h
    have h0 := hx x (.head _)
    simp only [List.length_cons]
    rcases List.mem_cons.1 ht with rfl | ht
    · omega
    · have := path_bd xs u (d + 1) ts (fun y hy => hx y (.tail _ hy)) h4 t ht
      omega
/-- Strokes grow from day to day. -/
theorem path_up {s : Sd} {c : List Int} : ∀ (xs : List Sp) (a : Int) (d : Nat) (ts : List Int), (∀ x ∈ xs, 0 ≤ x.1 ∧ x.1 ≤ x.2 ∧ x.2 ≤ 100) → Path s c a xs d ts → ∀ (i j : Nat) (t u : Int), i ≤ j → ts[i]? = some t → ts[j]? = some u → t ≤ u
  | [], _, _, ts, _, h, i, j, t, u, _, hi, _ => by have : ts = [] := h; rw [this] at hi; simp at hi
  | x :: xs, a, d, [], _, h, _, _, _, _, _, _, _ => h.elim
  | x :: xs, a, d, v :: ts, hx, h, i, j, t, u, hij, hi, hj => by
    obtain ⟨h1, h2, _, h4⟩ := h
    cases i with
    | zero =>
      simp only [List.getElem?_cons_zero, Option.some.injEq] at hi
      subst hi
      cases j with
      | zero => simp only [List.getElem?_cons_zero, Option.some.injEq] at hj; omega
      | succ j => exact (path_bd xs v (d + 1) ts (fun y hy => hx y (.tail _ hy)) h4 u (List.mem_of_getElem? (by simpa using hj))).1
    | succ i =>
      cases j with
      | zero => omega
      | succ j => exact path_up xs v (d + 1) ts (fun y hy => hx y (.tail _ hy)) h4 i j t u (by omega) (by simpa using hi) (by simpa using hj)
section
variable {s : Sd}
theorem Tru.len {c ts : List Int} (h : Tru s c ts) : ts.length = s.days.length := path_len _ _ _ _ h.2
theorem Tru.bd (v : VS s) {c ts : List Int} (h : Tru s c ts) {t : Int} (ht : t ∈ ts) : 0 ≤ t ∧ t ≤ 600 := by
  have := path_bd _ _ _ _ v.dy h.2 t ht
  have := v.nd
  omega
theorem Tru.up (v : VS s) {c ts : List Int} (h : Tru s c ts) {i j : Nat} {t u : Int} (hij : i ≤ j) (hi : ts[i]? = some t) (hj : ts[j]? = some u) : t ≤ u := path_up _ _ _ _ v.dy h.2 i j t u hij hi hj
theorem Tru.get {c ts : List Int} (h : Tru s c ts) {d : Nat} (hd : d < s.days.length) : ∃ t, ts[d]? = some t := ⟨_, List.getElem?_eq_getElem (by rw [h.len]; exact hd)⟩
theorem chain_s (v : VS s) {c : List Int} (hc : c ∈ rowsC s) : (canS s c = true ↔ ∃ ts, Tru s c ts) ∧ (canS s c = true → ∀ (d : Nat) (n : Int), d < s.days.length → (inS n (dayS s c d) ↔ ∃ ts, Tru s c ts ∧ ts[d]? = some n) ∧ (dayS s c d).1 ≤ (dayS s c d).2) := by
  have hnd := v.nd
  obtain ⟨x, xs, hx⟩ : ∃ x xs, s.days = x :: xs := by
    cases h : s.days with
    | nil => rw [h] at hnd; simp at hnd
    | cons x xs => exact ⟨x, xs, rfl⟩
  have hlen : xs.length + 1 = s.days.length := by rw [hx]; rfl
  obtain ⟨h1, h2⟩ := chain s c v.spOk (rowsC_cin hc) (fun l hl => by have := v.lg l hl; omega) xs x 0 (0, 0) (by rw [← hx]; exact v.dy) (Int.le_refl _) (Int.le_refl _) (by unfold far; dsimp only; omega)
  have key : ∀ ts, (∃ a, inS a (0, 0) ∧ Path s c a (x :: xs) 0 ts) ↔ Tru s c ts := by
    intro ts
    unfold Tru
    rw [hx]
    constructor
    · rintro ⟨a, h3, h4⟩
      have : a = 0 := by unfold inS at h3; dsimp only at h3; omega
      subst this
      exact ⟨hc, h4⟩
    · rintro ⟨_, h4⟩
      exact ⟨0, ⟨Int.le_refl _, Int.le_refl _⟩, h4⟩
  rw [← hx] at h1 h2
  have hcan : canS s c = true ↔ ∃ ts, Tru s c ts := by
    unfold canS
    rw [h1]
    constructor
    · rintro ⟨a, ts, h3, h4⟩
      exact ⟨ts, (key ts).1 ⟨a, h3, by rw [hx] at h4; exact h4⟩⟩
    · rintro ⟨ts, h3⟩
      obtain ⟨a, h4, h5⟩ := (key ts).2 h3
      exact ⟨a, ts, h4, by rw [hx]; exact h5⟩
  refine ⟨hcan, fun h d n hd => ?_⟩
  have h' := h
  unfold canS at h'
  obtain ⟨h3, h4⟩ := h2 h' d n (by omega)
  have hfl := fwd_len s c s.days 0 (0, 0) h'
  have hbl := bwd_len (fwd s c s.days 0 (0, 0)).1 xs (by rw [hfl, hlen])
  have hdr : s.days.drop 1 = xs := by rw [hx]; rfl
  have hday : dayS s c d = (bwd (fwd s c s.days 0 (0, 0)).1 xs).getD d (1, 0) := by
    unfold dayS daysS
    rw [if_pos h, hdr, List.getD_eq_getElem?_getD, List.getD_eq_getElem?_getD, List.getElem?_eq_getElem (by omega)]
    rfl
  rw [hday]
  refine ⟨?_, h4⟩
  rw [h3]
  constructor
  · rintro ⟨a, ts, h5, h6, h7⟩
    exact ⟨ts, (key ts).1 ⟨a, h5, by rw [hx] at h6; exact h6⟩, h7⟩
  · rintro ⟨ts, h5, h6⟩
    obtain ⟨a, h7, h8⟩ := (key ts).2 h5
    exact ⟨a, ts, h7, by rw [hx]; exact h8, h6⟩
theorem told_iff (v : VS s) {c : List Int} : c ∈ toldC s ↔ ∃ ts, Tru s c ts := by
  unfold toldC
  rw [List.mem_filter]
  constructor
  · rintro ⟨h1, h2⟩
    exact (chain_s v h1).1.1 h2
  · rintro ⟨ts, h⟩
    exact ⟨h.1, (chain_s v h.1).1.2 ⟨ts, h⟩⟩
theorem day_iff (v : VS s) {c : List Int} (hc : c ∈ toldC s) {d : Nat} (hd : d < s.days.length) (n : Int) : ((dayS s c d).1 ≤ n ∧ n ≤ (dayS s c d).2) ↔ ∃ ts, Tru s c ts ∧ ts[d]? = some n := by
  obtain ⟨h1, h2⟩ := List.mem_filter.1 hc
  exact ((chain_s v h1).2 h2 d n hd).1
theorem day_le (v : VS s) {c : List Int} (hc : c ∈ toldC s) {d : Nat} (hd : d < s.days.length) : (dayS s c d).1 ≤ (dayS s c d).2 := by
  obtain ⟨h1, h2⟩ := List.mem_filter.1 hc
  exact ((chain_s v h1).2 h2 d 0 hd).2
theorem day_bd (v : VS s) {c : List Int} (hc : c ∈ toldC s) {d : Nat} (hd : d < s.days.length) : 0 ≤ (dayS s c d).1 ∧ (dayS s c d).2 ≤ 600 := by
  have h := day_le v hc hd
  obtain ⟨ts, h1, h2⟩ := (day_iff v hc hd _).1 ⟨Int.le_refl _, h⟩
  obtain ⟨us, h3, h4⟩ := (day_iff v hc hd _).1 ⟨h, Int.le_refl _⟩
  exact ⟨(h1.bd v (List.mem_of_getElem? h2)).1, (h3.bd v (List.mem_of_getElem? h4)).2⟩
/-- The span of what is so by a day: what it is of costs lies between both ends. -/
theorem span_hull (v : VS s) (h0 : toldC s ≠ []) {d : Nat} (hd : d < s.days.length) (f : List Int → Int → Int) (R : List Int → Sp) (hR : ∀ c ∈ toldC s, (R c).1 = f c (dayS s c d).1 ∧ (R c).2 = f c (dayS s c d).2)
    (hm : ∀ c ∈ toldC s, ∀ t u, 0 ≤ t → t ≤ u → u ≤ 600 → f c t ≤ f c u) : Hull (jn ((toldC s).map R)) fun n => ∃ c ts t, Tru s c ts ∧ ts[d]? = some t ∧ n = f c t := by
  obtain ⟨⟨x, hx, h1⟩, ⟨y, hy, h2⟩, h3⟩ := jn_hull ((toldC s).map R) (by simpa using h0)
  obtain ⟨a, ha, rfl⟩ := List.mem_map.1 hx
  obtain ⟨b, hb, rfl⟩ := List.mem_map.1 hy
  refine ⟨?_, ?_, ?_⟩
  · obtain ⟨ts, h4, h5⟩ := (day_iff v ha hd _).1 ⟨Int.le_refl _, day_le v ha hd⟩
    exact ⟨a, ts, _, h4, h5, by rw [← h1]; exact (hR a ha).1⟩
  · obtain ⟨ts, h4, h5⟩ := (day_iff v hb hd _).1 ⟨day_le v hb hd, Int.le_refl _⟩
    exact ⟨b, ts, _, h4, h5, by rw [← h2]; exact (hR b hb).2⟩
  · rintro n ⟨c, ts, t, h4, h5, rfl⟩
    have hc := (told_iff v).2 ⟨ts, h4⟩
    have h6 := (day_iff v hc hd t).2 ⟨ts, h4, h5⟩
    have h7 := day_bd v hc hd
    have h8 := h3 (R c) (List.mem_map.2 ⟨c, hc, rfl⟩)
    have h9 := hm c hc _ _ h7.1 h6.1 (by omega)
    have h10 := hm c hc _ _ (by omega) h6.2 h7.2
    have := hR c hc
    omega
theorem cut_hull (v : VS s) (h0 : toldC s ≠ []) {d : Nat} (hd : d < s.days.length) : Hull (cutV s d) fun n => ∃ c ts t, Tru s c ts ∧ ts[d]? = some t ∧ n = cutS s.spits c 0 t :=
  span_hull v h0 hd (fun c t => cutS s.spits c 0 t) (cutR s d) (fun _ _ => ⟨rfl, rfl⟩) fun c hc t u h1 h2 h3 => cutS_mono v.spOk (rowsC_cin (List.mem_filter.1 hc).1) h1 h2 (by unfold far; omega)
theorem jn_swap {α : Type} {l : List α} {R : α → Sp} : ((jn (l.map R)).1, (jn (l.map R)).2) = jn (l.map R) := rfl
theorem need_hull (v : VS s) (h0 : toldC s ≠ []) {d : Nat} (hd : d < s.days.length) : Hull (needV s d) fun n => ∃ c ts t, Tru s c ts ∧ ts[d]? = some t ∧ n = max 0 (wholeS s c s.spits.length - t) := by
  obtain ⟨⟨x, hx, h1⟩, ⟨y, hy, h2⟩, h3⟩ := jn_hull ((toldC s).map (needR s d)) (by simpa using h0)
  obtain ⟨a, ha, rfl⟩ := List.mem_map.1 hx
  obtain ⟨b, hb, rfl⟩ := List.mem_map.1 hy
  refine ⟨?_, ?_, ?_⟩
  · obtain ⟨ts, h4, h5⟩ := (day_iff v ha hd _).1 ⟨day_le v ha hd, Int.le_refl _⟩
    exact ⟨a, ts, _, h4, h5, h1.symm⟩
  · obtain ⟨ts, h4, h5⟩ := (day_iff v hb hd _).1 ⟨Int.le_refl _, day_le v hb hd⟩
    exact ⟨b, ts, _, h4, h5, h2.symm⟩
  · rintro n ⟨c, ts, t, h4, h5, rfl⟩
    have hc := (told_iff v).2 ⟨ts, h4⟩
    have h6 := (day_iff v hc hd t).2 ⟨ts, h4, h5⟩
    have h8 := h3 (needR s d c) (List.mem_map.2 ⟨c, hc, rfl⟩)
    unfold needR at h8
    dsimp only at h8 ⊢
    show (needV s d).1 ≤ _ ∧ _ ≤ (needV s d).2
    unfold needV
    unfold needR
    omega
theorem cost_hull (v : VS s) (h0 : toldC s ≠ []) (p : Nat) : Hull (costV s p) fun n => ∃ c ts, Tru s c ts ∧ n = c.getD p 0 := by
  obtain ⟨⟨x, hx, h1⟩, ⟨y, hy, h2⟩, h3⟩ := jn_hull ((toldC s).map (costP p)) (by simpa using h0)
  obtain ⟨a, ha, rfl⟩ := List.mem_map.1 hx
  obtain ⟨b, hb, rfl⟩ := List.mem_map.1 hy
  refine ⟨?_, ?_, ?_⟩
  · obtain ⟨ts, h4⟩ := (told_iff v).1 ha
    exact ⟨a, ts, h4, h1.symm⟩
  · obtain ⟨ts, h4⟩ := (told_iff v).1 hb
    exact ⟨b, ts, h4, h2.symm⟩
  · rintro n ⟨c, ts, h4, rfl⟩
    exact h3 (costP p c) (List.mem_map.2 ⟨c, (told_iff v).2 ⟨ts, h4⟩, rfl⟩)
theorem firstG_eq {w : Int} : ∀ {l : List Int} {k : Nat}, k ≤ l.length → (∀ j t, j < k → l[j]? = some t → t < w) → (∀ t, l[k]? = some t → w ≤ t) → firstG w l = k
  | [], k, hk, _, _ => by simp at hk; subst hk; rfl
  | x :: l, 0, _, _, h2 => by unfold firstG; rw [if_pos (h2 x rfl)]
  | x :: l, k + 1, hk, h1, h2 => by
    unfold firstG
    rw [if_neg (by have := h1 0 x (by omega) rfl; omega), firstG_eq (l := l) (k := k) (by simpa using hk) (fun j t hj ht => h1 (j + 1) t (by omega) (by simpa using ht)) (fun t ht => h2 t (by simpa using ht))]
theorem firstG_spec (w : Int) : ∀ (l : List Int), firstG w l ≤ l.length ∧ (∀ j t, j < firstG w l → l[j]? = some t → t < w) ∧ ∀ t, l[firstG w l]? = some t → w ≤ t
  | [] => ⟨Nat.le_refl _, fun j t hj => by simp [firstG] at hj, fun t ht => by simp at ht⟩
  | x :: l => by
    obtain ⟨h1, h2, h3⟩ := firstG_spec w l
    unfold firstG
    split
    · rename_i h
      exact ⟨Nat.zero_le _, fun j t hj => by omega, fun t ht => by simp at ht; omega⟩
    · rename_i h
      refine ⟨by simpa using h1, fun j t hj ht => ?_, fun t ht => h3 t (by simpa using ht)⟩
      cases j with
      | zero => simp at ht; omega
      | succ j => exact h2 j t (by omega) (by simpa using ht)
theorem days_len (v : VS s) {c : List Int} (hc : c ∈ toldC s) : (daysS s c).length = s.days.length := by
  have hcan := (List.mem_filter.1 hc).2
  have hnd := v.nd
  unfold daysS
  rw [if_pos hcan, bwd_len, fwd_len s c _ _ _ hcan]
  rw [fwd_len s c _ _ _ hcan, List.length_drop]; omega
theorem days_get (v : VS s) {c : List Int} (hc : c ∈ toldC s) {d : Nat} (hd : d < s.days.length) : (daysS s c)[d]? = some (dayS s c d) := by
  have := days_len v hc
  unfold dayS
  rw [List.getD_eq_getElem?_getD, List.getElem?_eq_getElem (by omega)]; rfl
/-- By which day all is finished first, in a truth. -/
def finS (s : Sd) (c ts : List Int) : Nat := firstG (wholeS s c s.spits.length) ts
theorem done_hull (v : VS s) (h0 : toldC s ≠ []) : Hull (doneV s) fun n => ∃ c ts, Tru s c ts ∧ n = (finS s c ts : Int) := by
  obtain ⟨⟨x, hx, h1⟩, ⟨y, hy, h2⟩, h3⟩ := jn_hull ((toldC s).map (doneR s)) (by simpa using h0)
  obtain ⟨a, ha, rfl⟩ := List.mem_map.1 hx
  obtain ⟨b, hb, rfl⟩ := List.mem_map.1 hy
  have lo : ∀ c ∈ toldC s, ∀ j t, ((daysS s c).map (·.1))[j]? = some t → j < s.days.length ∧ t = (dayS s c j).1 := by
    intro c hc j t h
    have hj := (List.getElem?_eq_some_iff.1 h).1
    rw [List.length_map, days_len v hc] at hj
    rw [List.getElem?_map, days_get v hc hj] at h
    simp only [Option.map_some, Option.some.injEq] at h
    exact ⟨hj, h.symm⟩
  have hi : ∀ c ∈ toldC s, ∀ j t, ((daysS s c).map (·.2))[j]? = some t → j < s.days.length ∧ t = (dayS s c j).2 := by
    intro c hc j t h
    have hj := (List.getElem?_eq_some_iff.1 h).1
    rw [List.length_map, days_len v hc] at hj
    rw [List.getElem?_map, days_get v hc hj] at h
    simp only [Option.map_some, Option.some.injEq] at h
    exact ⟨hj, h.symm⟩
  have lo' : ∀ c ∈ toldC s, ∀ j, j < s.days.length → ((daysS s c).map (·.1))[j]? = some (dayS s c j).1 := fun c hc j hj => by rw [List.getElem?_map, days_get v hc hj]; rfl
  have hi' : ∀ c ∈ toldC s, ∀ j, j < s.days.length → ((daysS s c).map (·.2))[j]? = some (dayS s c j).2 := fun c hc j hj => by rw [List.getElem?_map, days_get v hc hj]; rfl
  -- what a truth has by a day lies between both ends
  have btw : ∀ c ts, Tru s c ts → ∀ j t, ts[j]? = some t → j < s.days.length ∧ (dayS s c j).1 ≤ t ∧ t ≤ (dayS s c j).2 := by
    intro c ts h j t ht
    have hj := (List.getElem?_eq_some_iff.1 ht).1
    rw [h.len] at hj
    exact ⟨hj, (day_iff v ((told_iff v).2 ⟨ts, h⟩) hj t).2 ⟨ts, h, ht⟩⟩
  refine ⟨?_, ?_, ?_⟩
  · obtain ⟨f1, f2, f3⟩ := firstG_spec (wholeS s a s.spits.length) ((daysS s a).map (·.2))
    have e1 : (doneV s).1 = (firstG (wholeS s a s.spits.length) ((daysS s a).map (·.2)) : Int) := h1.symm
    rw [e1]
    obtain ⟨k, hk⟩ : ∃ k, firstG (wholeS s a s.spits.length) ((daysS s a).map (·.2)) = k := ⟨_, rfl⟩
    rw [hk] at f1 f2 f3 ⊢
    rw [List.length_map, days_len v ha] at f1
    by_cases hkl : k < s.days.length
    · obtain ⟨ts, h4, h5⟩ := (day_iff v ha hkl _).1 ⟨day_le v ha hkl, Int.le_refl _⟩
      refine ⟨a, ts, h4, ?_⟩
      have : finS s a ts = k := firstG_eq (by rw [h4.len]; exact f1) (fun j t hj ht => by
        obtain ⟨b1, _, b3⟩ := btw a ts h4 j t ht
        have := f2 j _ hj (hi' a ha j b1)
        omega) (fun t ht => by
        rw [h5] at ht
        simp only [Option.some.injEq] at ht
        have := f3 _ (hi' a ha k hkl)
        omega)
      rw [this]
    · obtain ⟨ts, h4⟩ := (told_iff v).1 ha
      refine ⟨a, ts, h4, ?_⟩
      have : finS s a ts = k := firstG_eq (by rw [h4.len]; exact f1) (fun j t hj ht => by
        obtain ⟨b1, _, b3⟩ := btw a ts h4 j t ht
        have := f2 j _ hj (hi' a ha j b1)
        omega) (fun t ht => by
        obtain ⟨b1, _, _⟩ := btw a ts h4 k t ht
        omega)
      rw [this]
  · obtain ⟨f1, f2, f3⟩ := firstG_spec (wholeS s b s.spits.length) ((daysS s b).map (·.1))
    have e1 : (doneV s).2 = (firstG (wholeS s b s.spits.length) ((daysS s b).map (·.1)) : Int) := h2.symm
    rw [e1]
    obtain ⟨k, hk⟩ : ∃ k, firstG (wholeS s b s.spits.length) ((daysS s b).map (·.1)) = k := ⟨_, rfl⟩
    rw [hk] at f1 f2 f3 ⊢
    rw [List.length_map, days_len v hb] at f1
    cases k with
    | zero =>
      obtain ⟨ts, h4⟩ := (told_iff v).1 hb
      refine ⟨b, ts, h4, ?_⟩
      have : finS s b ts = 0 := firstG_eq (Nat.zero_le _) (fun j t hj _ => by omega) (fun t ht => by
        obtain ⟨b1, b2, _⟩ := btw b ts h4 0 t ht
        have := f3 _ (lo' b hb 0 b1)
        omega)
      rw [this]
    | succ k =>
      obtain ⟨ts, h4, h5⟩ := (day_iff v hb (d := k) (by omega) _).1 ⟨Int.le_refl _, day_le v hb (by omega)⟩
      refine ⟨b, ts, h4, ?_⟩
      have : finS s b ts = k + 1 := firstG_eq (by rw [h4.len]; exact f1) (fun j t hj ht => by
        have h6 := h4.up v (i := j) (j := k) (by omega) ht h5
        have := f2 k _ (by omega) (lo' b hb k (by omega))
        omega) (fun t ht => by
        obtain ⟨b1, b2, _⟩ := btw b ts h4 (k + 1) t ht
        have := f3 _ (lo' b hb (k + 1) b1)
        omega)
      rw [this]
  · rintro n ⟨c, ts, h4, rfl⟩
    have hc := (told_iff v).2 ⟨ts, h4⟩
    have h8 := h3 (doneR s c) (List.mem_map.2 ⟨c, hc, rfl⟩)
    obtain ⟨f1, f2, f3⟩ := firstG_spec (wholeS s c s.spits.length) ts
    obtain ⟨g1, g2, g3⟩ := firstG_spec (wholeS s c s.spits.length) ((daysS s c).map (·.2))
    obtain ⟨p1, p2, p3⟩ := firstG_spec (wholeS s c s.spits.length) ((daysS s c).map (·.1))
    rw [List.length_map, days_len v hc] at g1 p1
    rw [h4.len] at f1
    have k1 : firstG (wholeS s c s.spits.length) ((daysS s c).map (·.2)) ≤ finS s c ts := by
      apply Nat.le_of_not_lt
      intro hlt
      unfold finS at hlt
      obtain ⟨t, ht⟩ := h4.get (d := firstG (wholeS s c s.spits.length) ts) (by omega)
      obtain ⟨b1, _, b3⟩ := btw c ts h4 _ t ht
      have := f3 t ht
      have := g2 _ _ hlt (hi' c hc _ b1)
      omega
    have k2 : finS s c ts ≤ firstG (wholeS s c s.spits.length) ((daysS s c).map (·.1)) := by
      apply Nat.le_of_not_lt
      intro hlt
      unfold finS at hlt
      obtain ⟨t, ht⟩ := h4.get (d := firstG (wholeS s c s.spits.length) ((daysS s c).map (·.1))) (by omega)
      obtain ⟨b1, b2, _⟩ := btw c ts h4 _ t ht
      have := f2 _ t hlt ht
      have := p3 _ (lo' c hc _ b1)
      omega
    unfold doneR at h8
    dsimp only at h8
    show (doneV s).1 ≤ _ ∧ _ ≤ (doneV s).2
    unfold doneV
    unfold doneR
    omega
theorem sure_iff (v : VS s) {d : Nat} (hd : d < s.days.length) (p : Nat) : sureB s d p = true ↔ ∀ c ts t, Tru s c ts → ts[d]? = some t → wholeS s c (p + 1) ≤ t := by
  unfold sureB
  simp only [List.all_eq_true, decide_eq_true_eq]
  constructor
  · intro h c ts t h1 h2
    have hc := (told_iff v).2 ⟨ts, h1⟩
    have := h c hc
    have := (day_iff v hc hd t).2 ⟨ts, h1, h2⟩
    omega
  · intro h c hc
    obtain ⟨ts, h1, h2⟩ := (day_iff v hc hd _).1 ⟨Int.le_refl _, day_le v hc hd⟩
    exact h c ts _ h1 h2
theorem can_iff (v : VS s) {d : Nat} (hd : d < s.days.length) (p : Nat) : canB s d p = true ↔ ∃ c ts t, Tru s c ts ∧ ts[d]? = some t ∧ wholeS s c (p + 1) ≤ t := by
  unfold canB
  simp only [List.any_eq_true, decide_eq_true_eq]
  constructor
  · rintro ⟨c, hc, h⟩
    obtain ⟨ts, h1, h2⟩ := (day_iff v hc hd _).1 ⟨day_le v hc hd, Int.le_refl _⟩
    exact ⟨c, ts, _, h1, h2, h⟩
  · rintro ⟨c, ts, t, h1, h2, h3⟩
    have hc := (told_iff v).2 ⟨ts, h1⟩
    have := (day_iff v hc hd t).2 ⟨ts, h1, h2⟩
    exact ⟨c, hc, by omega⟩
/-- Between two numbers of strokes any number of sods between is cut. -/
theorem cut_between {ps : List Spt} {cs : List Int} (hp : SpOk ps) (h : CIn ps cs) : ∀ (k : Nat) (t : Int), 0 ≤ t → t + k < far → ∀ n, cutS ps cs 0 t ≤ n → n ≤ cutS ps cs 0 (t + k) → ∃ u, t ≤ u ∧ u ≤ t + k ∧ cutS ps cs 0 u = n
  | 0, t, _, _, n, h1, h2 => ⟨t, Int.le_refl _, by omega, by simp at h2; omega⟩
  | k + 1, t, ht, hf, n, h1, h2 => by
    by_cases he : cutS ps cs 0 t = n
    · exact ⟨t, Int.le_refl _, by omega, he⟩
    · have h3 := cutS_step ps cs t hp h ht
      obtain ⟨u, h4, h5, h6⟩ := cut_between hp h k (t + 1) (by omega) (by omega) n (by omega) (by rw [show t + 1 + (k : Int) = t + ((k + 1 : Nat) : Int) by omega]; exact h2)
      exact ⟨u, by omega, by omega, h6⟩
/-- Which grade a count has. -/
theorem fits_iff (v : VS s) (h0 : toldC s ≠ []) {d : Nat} (hd : d < s.days.length) (x : Sp) (hx : x.1 ≤ x.2) :
    (fitsV s d x = 2 ∧ ∀ c ts t, Tru s c ts → ts[d]? = some t → x.1 ≤ cutS s.spits c 0 t ∧ cutS s.spits c 0 t ≤ x.2) ∨
    (fitsV s d x = 1 ∧ (¬ ∀ c ts t, Tru s c ts → ts[d]? = some t → x.1 ≤ cutS s.spits c 0 t ∧ cutS s.spits c 0 t ≤ x.2) ∧ ∃ c ts t, Tru s c ts ∧ ts[d]? = some t ∧ x.1 ≤ cutS s.spits c 0 t ∧ cutS s.spits c 0 t ≤ x.2) ∨
    (fitsV s d x = 0 ∧ (¬ ∀ c ts t, Tru s c ts → ts[d]? = some t → x.1 ≤ cutS s.spits c 0 t ∧ cutS s.spits c 0 t ≤ x.2) ∧ ¬ ∃ c ts t, Tru s c ts ∧ ts[d]? = some t ∧ x.1 ≤ cutS s.spits c 0 t ∧ cutS s.spits c 0 t ≤ x.2) := by
  have mono : ∀ c ∈ toldC s, ∀ t u, 0 ≤ t → t ≤ u → u ≤ 600 → cutS s.spits c 0 t ≤ cutS s.spits c 0 u := fun c hc t u h1 h2 h3 => cutS_mono v.spOk (rowsC_cin (List.mem_filter.1 hc).1) h1 h2 (by unfold far; omega)
  have a1 : ((toldC s).all fun c => decide (x.1 ≤ (cutR s d c).1 ∧ (cutR s d c).2 ≤ x.2)) = true ↔ ∀ c ts t, Tru s c ts → ts[d]? = some t → x.1 ≤ cutS s.spits c 0 t ∧ cutS s.spits c 0 t ≤ x.2 := by
    simp only [List.all_eq_true, decide_eq_true_eq]
    constructor
    · intro h c ts t h1 h2
      have hc := (told_iff v).2 ⟨ts, h1⟩
      have h3 := h c hc
      have h4 := (day_iff v hc hd t).2 ⟨ts, h1, h2⟩
      have h5 := day_bd v hc hd
      have h6 := mono c hc _ _ h5.1 h4.1 (by omega)
      have h7 := mono c hc _ _ (by omega) h4.2 h5.2
      unfold cutR at h3
      dsimp only at h3
      omega
    · intro h c hc
      obtain ⟨ts, h1, h2⟩ := (day_iff v hc hd _).1 ⟨Int.le_refl _, day_le v hc hd⟩
      obtain ⟨us, h3, h4⟩ := (day_iff v hc hd _).1 ⟨day_le v hc hd, Int.le_refl _⟩
      exact ⟨(h c ts _ h1 h2).1, (h c us _ h3 h4).2⟩
  have a2 : ((toldC s).any fun c => decide ((cutR s d c).1 ≤ x.2 ∧ x.1 ≤ (cutR s d c).2)) = true ↔ ∃ c ts t, Tru s c ts ∧ ts[d]? = some t ∧ x.1 ≤ cutS s.spits c 0 t ∧ cutS s.spits c 0 t ≤ x.2 := by
    simp only [List.any_eq_true, decide_eq_true_eq]
    constructor
    · rintro ⟨c, hc, h1, h2⟩
      unfold cutR at h1 h2
      dsimp only at h1 h2
      have h3 := day_bd v hc hd
      have h4 := day_le v hc hd
      have h5 := mono c hc _ _ h3.1 h4 h3.2
      obtain ⟨k, hk⟩ : ∃ k : Nat, (dayS s c d).2 = (dayS s c d).1 + k := ⟨((dayS s c d).2 - (dayS s c d).1).toNat, by omega⟩
      rw [hk] at h2 h5
      obtain ⟨u, h6, h7, h8⟩ := cut_between v.spOk (rowsC_cin (List.mem_filter.1 hc).1) k _ h3.1 (by unfold far; omega) (max x.1 (cutS s.spits c 0 (dayS s c d).1)) (by omega) (by omega)
      obtain ⟨ts, h9, h10⟩ := (day_iff v hc hd u).1 ⟨h6, by omega⟩
      exact ⟨c, ts, u, h9, h10, by omega, by omega⟩
    · rintro ⟨c, ts, t, h1, h2, h3, h4⟩
      have hc := (told_iff v).2 ⟨ts, h1⟩
      have h5 := (day_iff v hc hd t).2 ⟨ts, h1, h2⟩
      have h6 := day_bd v hc hd
      have h7 := mono c hc _ _ h6.1 h5.1 (by omega)
      have h8 := mono c hc _ _ (by omega) h5.2 h6.2
      refine ⟨c, hc, ?_, ?_⟩ <;> (unfold cutR; dsimp only; omega)
  have hne : ∃ c ts t, Tru s c ts ∧ ts[d]? = some t := by
    obtain ⟨c, hc⟩ := List.exists_mem_of_ne_nil _ h0
    obtain ⟨ts, h1⟩ := (told_iff v).1 hc
    obtain ⟨t, h2⟩ := h1.get hd
    exact ⟨c, ts, t, h1, h2⟩
  unfold fitsV
  by_cases h1 : ((toldC s).all fun c => decide (x.1 ≤ (cutR s d c).1 ∧ (cutR s d c).2 ≤ x.2)) = true
  · rw [if_pos h1]
    exact .inl ⟨rfl, a1.1 h1⟩
  · rw [if_neg h1]
    rw [a1] at h1
    by_cases h2 : ((toldC s).any fun c => decide ((cutR s d c).1 ≤ x.2 ∧ x.1 ≤ (cutR s d c).2)) = true
    · rw [if_pos h2]
      exact .inr (.inl ⟨rfl, h1, a2.1 h2⟩)
    · rw [if_neg h2]
      rw [a2] at h2
      exact .inr (.inr ⟨rfl, h1, h2⟩)
end
end Go.Proofs.Ytkaadefndcbdnaa
