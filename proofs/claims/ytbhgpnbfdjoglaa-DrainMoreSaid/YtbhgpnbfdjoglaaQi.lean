/- DrainEnds in plain terms: what has been told after k rows. · DrainMore in plain terms: other drains of which the same, or less, can be. · DrainMore in plain terms: what is returned of each. -/
import Derived.Test.YtbhgpnbfdjoglaaE4
import Derived.Test.YtbhgpnbfdjoglaaQe
import Derived.Test.YtbhgpnbfdjoglaaF3
section
namespace Go.Proofs.Ytbhgpnbfdjoglaa
open Go.RowKit
theorem jn_bd {l : List Sp} (h : l ≠ []) (hb : ∀ x ∈ l, 0 ≤ x.1 ∧ x.1 ≤ 100 ∧ 0 ≤ x.2 ∧ x.2 ≤ 100) : 0 ≤ (jn l).1 ∧ (jn l).1 ≤ 100 ∧ 0 ≤ (jn l).2 ∧ (jn l).2 ≤ 100 := by
  obtain ⟨⟨x, hx, e1⟩, ⟨y, hy, e2⟩, _⟩ := jn_hull l h
  have := hb x hx
  have := hb y hy
  omega
theorem watS_bd {d : Dr} (v : VD d) {lv : List Int} (hl : lv.length = d.banks.length) (ws : List Sp) {a : Nat} (ha : a < d.banks.length) : 0 ≤ (watS d (nxt ws lv) a).1 ∧ (watS d (nxt ws lv) a).1 ≤ 100 ∧ 0 ≤ (watS d (nxt ws lv) a).2 ∧ (watS d (nxt ws lv) a).2 ≤ 100 := by
  have hnb := v.nb
  have hd : ∀ x y, nxt ws lv x = some y → y < d.banks.length ∧ lvl lv y < lvl lv x := fun x y h => by rw [← hl]; exact nxt_dec h
  have h1 := watN_bd hd (y := loY d) (fun z _ => by have := yd_bd v z; omega) ha
  have h2 := watN_bd hd (y := hiY d) (fun z _ => by have := yd_bd v z; omega) ha
  have e : watS d (nxt ws lv) a = (watN d.banks.length (nxt ws lv) (loY d) a, watN d.banks.length (nxt ws lv) (hiY d) a) := rfl
  rw [e]
  dsimp only
  have h3 : (20 : Int) * (d.banks.length : Int) ≤ 100 := by omega
  omega
theorem flowS_bd {d : Dr} (v : VD d) {lv : List Int} (hl : lv.length = d.banks.length) (ws : List Sp) {a b : Nat} (ha : a < d.banks.length) : 0 ≤ (flowS d (nxt ws lv) a b).1 ∧ (flowS d (nxt ws lv) a b).1 ≤ 100 ∧ 0 ≤ (flowS d (nxt ws lv) a b).2 ∧ (flowS d (nxt ws lv) a b).2 ≤ 100 := by
  unfold flowS
  split
  · exact watS_bd v hl ws ha
  · dsimp only; omega
def toF (d : Dr) (a : Nat) (lv : List Int) : Nat := (nxt d.ways lv a).getD d.banks.length
def endF1 (d : Dr) (a : Nat) (lv : List Int) : Nat := endN d.banks.length (nxt d.ways lv) a
theorem toF_le {d : Dr} {lv : List Int} (hl : lv.length = d.banks.length) (a : Nat) : toF d a lv ≤ d.banks.length := by
  unfold toF
  cases h : nxt d.ways lv a with
  | none => exact Nat.le_refl _
  | some y => have := (nxt_dec h).1; show y ≤ _; omega
theorem endF1_lt {d : Dr} {lv : List Int} (hl : lv.length = d.banks.length) {a : Nat} (ha : a < d.banks.length) : endF1 d a lv < d.banks.length := by
  unfold endF1
  exact endF_lt (l := lvl lv) (fun x y h => by rw [← hl]; exact nxt_dec h) _ _ ha
section
variable {d : Dr} {a b k : Nat} (hk : k < (rowsD d).length)
end
end Go.Proofs.Ytbhgpnbfdjoglaa
end

section
namespace Go.Proofs.Ytbhgpnbfdjoglaa
open Go.RowKit
theorem andNot_sub {a b : Nat} (hb : b < 2 ^ 63) (h : ∀ k, a / 2 ^ k % 2 = 1 → b / 2 ^ k % 2 = 1) : a &&& (2 ^ 64 - 1 - b) = 0 := by
  apply Nat.eq_of_testBit_eq
  intro i
  rw [Nat.testBit_and, Nat.zero_testBit, show 2 ^ 64 - 1 - b = 2 ^ 64 - (b + 1) by omega, Nat.testBit_two_pow_sub_succ (by omega)]
  cases hi : a.testBit i with
  | false => rfl
  | true =>
    have h1 := h i (by rw [Nat.testBit_eq_decide_div_mod_eq] at hi; simpa using hi)
    have h2 : b.testBit i = true := by rw [Nat.testBit_eq_decide_div_mod_eq]; simpa using h1
    rw [h2]; simp
theorem jn_in {l m : List Sp} (h0 : l ≠ []) (h : ∀ x ∈ l, x ∈ m) : (jn m).1 ≤ (jn l).1 ∧ (jn l).2 ≤ (jn m).2 := by
  obtain ⟨⟨x, hx, h1⟩, ⟨y, hy, h2⟩, _⟩ := jn_hull l h0
  have hm : m ≠ [] := fun e => by have := h x hx; rw [e] at this; cases this
  have h3 := (jn_hull m hm).2.2
  have := h3 x (h x hx)
  have := h3 y (h y hy)
  omega
theorem orS_in {l m : List Nat} (h : ∀ x ∈ l, x ∈ m) (k : Nat) : orS l / 2 ^ k % 2 = 1 → orS m / 2 ^ k % 2 = 1 := fun hk => orS_bit.2 (h k (orS_bit.1 hk))
/-- Drains of which no more can be true. -/
structure Less (q d : Dr) : Prop where
  nb : q.banks.length = d.banks.length
  wy : q.ways = d.ways
  yd : q.banks.map (·.yd) = d.banks.map (·.yd)
  rt : q.rights = d.rights
  told : ∀ lv ∈ toldD q, lv ∈ toldD d
section
variable {q d : Dr} (h : Less q d)
include h
theorem Less.wat (nx : Nat → Option Nat) (b : Nat) : watS q nx b = watS d nx b := by
  unfold watS
  have e1 : loY q = loY d := by funext i; unfold loY; rw [h.yd]
  have e2 : hiY q = hiY d := by funext i; unfold hiY; rw [h.yd]
  rw [h.nb, e1, e2]
theorem Less.flow (nx : Nat → Option Nat) (a b : Nat) : flowS q nx a b = flowS d nx a b := by unfold flowS; rw [h.wat]
theorem Less.keep1 (nx : Nat → Option Nat) : keepS1 q nx = keepS1 d nx := by
  unfold keepS1; rw [h.rt]; simp only [h.flow]
theorem Less.enough {set : Nat} (he : enoughB d set = true) : enoughB q set = true := by
  unfold enoughB at he ⊢
  rw [List.all_eq_true] at he ⊢
  intro lv hlv
  rw [h.keep1, h.wy]
  exact he lv (h.told lv hlv)
theorem Less.some_ (hs : someB q = true) : someB d = true := by
  rw [someB_told] at hs ⊢
  intro e
  obtain ⟨x, hx⟩ := List.exists_mem_of_ne_nil _ hs
  have := h.told x hx
  rw [e] at this; cases this
theorem Less.next (b k : Nat) : nextS q b / 2 ^ k % 2 = 1 → nextS d b / 2 ^ k % 2 = 1 := by
  unfold nextS
  refine orS_in (fun x hx => ?_) k
  obtain ⟨lv, hlv, rfl⟩ := List.mem_map.1 hx
  rw [h.nb, h.wy]
  exact List.mem_map.2 ⟨lv, h.told lv hlv, rfl⟩
theorem Less.ends (b k : Nat) : endsS q b / 2 ^ k % 2 = 1 → endsS d b / 2 ^ k % 2 = 1 := by
  unfold endsS
  refine orS_in (fun x hx => ?_) k
  obtain ⟨lv, hlv, rfl⟩ := List.mem_map.1 hx
  rw [h.nb, h.wy]
  exact List.mem_map.2 ⟨lv, h.told lv hlv, rfl⟩
theorem Less.water (hs : someB q = true) (b : Nat) : (waterS d b).1 ≤ (waterS q b).1 ∧ (waterS q b).2 ≤ (waterS d b).2 := by
  unfold waterS
  refine jn_in (by simpa using someB_told.1 hs) (fun x hx => ?_)
  obtain ⟨lv, hlv, rfl⟩ := List.mem_map.1 hx
  rw [h.wat, h.wy]
  exact List.mem_map.2 ⟨lv, h.told lv hlv, rfl⟩
theorem Less.flows (hs : someB q = true) (a b : Nat) : (flowsS d a b).1 ≤ (flowsS q a b).1 ∧ (flowsS q a b).2 ≤ (flowsS d a b).2 := by
  unfold flowsS
  refine jn_in (by simpa using someB_told.1 hs) (fun x hx => ?_)
  obtain ⟨lv, hlv, rfl⟩ := List.mem_map.1 hx
  rw [h.flow, h.wy]
  exact List.mem_map.2 ⟨lv, h.told lv hlv, rfl⟩
theorem Less.stop (vq : VD q) (vd : VD d) (hs : someB q = true) : pc (stopS q) ≤ pc (stopS d) := by
  have f1 := stop_facts vd (h.some_ hs)
  have f2 := stop_facts vq hs
  exact (f2.2.2.2.2 (stopS d) (by rw [h.wy]; exact f1.1) (h.enough f1.2.1)).1
end
def seenX (d : Dr) (w : Sp) : Dr := { d with seen := d.seen ++ [w] }
def bankY (d : Dr) (a : Nat) (s : Sp) : Dr := { d with banks := d.banks.set a ⟨s, (d.banks.map (·.yd)).getD a (0, 0)⟩ }
theorem less_seen (d : Dr) (w : Sp) : Less (seenX d w) d where
  nb := rfl
  wy := rfl
  yd := rfl
  rt := rfl
  told := fun lv h => by
    obtain ⟨h1, h2⟩ := toldD_mem.1 h
    refine toldD_mem.2 ⟨h1, rightB_iff.2 fun w hw => rightB_iff.1 h2 w (List.mem_append_left _ hw)⟩
theorem yd_set (d : Dr) (a : Nat) (s : Sp) : (bankY d a s).banks.map (·.yd) = d.banks.map (·.yd) := by
  unfold bankY
  dsimp only
  rw [List.map_set]
  dsimp only
  apply List.ext_getElem?
  intro i
  rw [List.getElem?_set]
  split
  · rename_i hi
    subst hi
    split
    · rename_i ha
      rw [List.length_map] at ha
      rw [List.getD_eq_getElem?_getD, List.getElem?_map, List.getElem?_eq_getElem ha]; rfl
    · rename_i ha
      rw [List.getElem?_eq_none (by omega)]
  · rfl
theorem InR.sub : ∀ {l l' : List Sp} {r : List Int}, InR l r → l.length = l'.length → (∀ (i : Nat) (s s' : Sp), l[i]? = some s → l'[i]? = some s' → s'.1 ≤ s.1 ∧ s.2 ≤ s'.2) → InR l' r
  | [], [], _, h, _, _ => h
  | [], _ :: _, _, _, h, _ => by simp at h
  | _ :: _, [], _, _, h, _ => by simp at h
  | s :: l, s' :: l', _, h, hl, k => by
    cases h with | cons h t =>
    have := k 0 s s' rfl rfl
    exact .cons (by omega) (t.sub (by simpa using hl) fun i s s' h1 h2 => k (i + 1) s s' (by simpa using h1) (by simpa using h2))
theorem less_bank (d : Dr) {a : Nat} (ha : a < d.banks.length) {s : Sp} (h1 : d.banks[a].lv.1 ≤ s.1) (h2 : s.2 ≤ d.banks[a].lv.2) : Less (bankY d a s) d where
  nb := by unfold bankY; simp
  wy := rfl
  yd := yd_set d a s
  rt := rfl
  told := fun lv h => by
    obtain ⟨h3, h4⟩ := toldD_mem.1 h
    refine toldD_mem.2 ⟨rowsD_iff.2 ((rowsD_iff.1 h3).sub (by unfold bankY; simp) fun i x y hx hy => ?_), h4⟩
    unfold bankY at hx
    rw [List.getElem?_map, List.getElem?_set] at hx
    rw [List.getElem?_map] at hy
    split at hx
    · rename_i hi
      subst hi
      rw [List.getElem?_eq_getElem ha] at hy
      simp only [Option.map_some, Option.some.injEq] at hx hy
      subst hx hy
      exact ⟨h1, h2⟩
    · rw [hx] at hy
      simp only [Option.some.injEq] at hy
      subst hy
      omega
/-- A right more. -/
def rightT (d : Dr) (r : Rt) : Dr := { d with rights := d.rights ++ [r] }
theorem right_more {d : Dr} {r : Rt} (vd : VD d) (vt : VD (rightT d r)) (hs : someB d = true) : someB (rightT d r) = true ∧ pc (stopS d) ≤ pc (stopS (rightT d r)) := by
  have hs2 : someB (rightT d r) = true := hs
  refine ⟨hs2, ?_⟩
  have f1 := stop_facts vd hs
  have f2 := stop_facts vt hs2
  refine (f1.2.2.2.2 (stopS (rightT d r)) f2.1 ?_).1
  have h := f2.2.1
  unfold enoughB at h ⊢
  rw [List.all_eq_true] at h ⊢
  intro lv hlv
  have h2 := h lv hlv
  unfold keepS1 at h2 ⊢
  rw [List.all_eq_true] at h2 ⊢
  intro x hx
  exact h2 x (List.mem_append_left _ hx)
/-- All levels greater by one. -/
def up1 (s : Sp) : Sp := (s.1 + 1, s.2 + 1)
def levU (d : Dr) : Dr := { d with banks := d.banks.map fun b => ⟨up1 b.lv, b.yd⟩ }
theorem vals_up (s : Sp) : vals (up1 s) = (vals s).map (· + 1) := by
  unfold vals up1
  rw [List.map_map]
  dsimp only
  rw [show s.2 + 1 - (s.1 + 1) + 1 = s.2 - s.1 + 1 by omega]
  apply List.map_congr_left
  intro c _
  simp only [Function.comp]
  omega
theorem allR_up : ∀ l : List Sp, allR (l.map up1) = (allR l).map fun r => r.map (· + 1)
  | [] => rfl
  | s :: l => by
    simp only [List.map_cons, allR, vals_up, allR_up l, List.flatMap_map, List.map_flatMap, List.map_map]
    congr 1
theorem rowsD_up (d : Dr) : rowsD (levU d) = (rowsD d).map fun r => r.map (· + 1) := by
  unfold rowsD levU
  rw [← allR_up]
  simp only [List.map_map]
  congr 1
theorem lvl_up {lv : List Int} {i : Nat} (h : i < lv.length) : lvl (lv.map (· + 1)) i = lvl lv i + 1 := by
  unfold lvl
  simp [List.getD_eq_getElem?_getD, List.getElem?_eq_getElem h]
theorem stepN_up {ws : List Sp} {lv : List Int} {x y : Nat} {o : Option Nat} (hx : x < lv.length) (hy : y < lv.length) (ho : ∀ b, o = some b → b < lv.length) : stepN ws (lv.map (· + 1)) x o y = stepN ws lv x o y := by
  unfold stepN
  rw [lvl_up hx, lvl_up hy]
  have e : betB (lv.map (· + 1)) o y = betB lv o y := by
    cases o with
    | none => rfl
    | some b =>
      show decide (lvl (lv.map (· + 1)) y < lvl (lv.map (· + 1)) b) = decide (lvl lv y < lvl lv b)
      rw [lvl_up hy, lvl_up (ho b rfl)]
      simp
  rw [e]
  simp
theorem nxtF_up {ws : List Sp} {lv : List Int} {x : Nat} (hx : x < lv.length) : ∀ n, n ≤ lv.length → nxtF ws (lv.map (· + 1)) x n = nxtF ws lv x n
  | 0, _ => rfl
  | n + 1, h => by
    rw [nxtF_succ, nxtF_succ, nxtF_up hx n (by omega)]
    refine stepN_up hx (by omega) fun b hb => ?_
    have := nxtF_best ws lv x n
    rw [hb] at this
    have := this.1
    omega
theorem nxt_up {ws : List Sp} {lv : List Int} {x : Nat} (hx : x < lv.length) : nxt ws (lv.map (· + 1)) x = nxt ws lv x := by
  unfold nxt
  rw [List.length_map]
  exact nxtF_up hx _ (Nat.le_refl _)
theorem watF_congr {n : Nat} {nx nx' : Nat → Option Nat} (h : ∀ x, x < n → nx x = nx' x) (y : Nat → Int) : ∀ k b, watF n nx y k b = watF n nx' y k b
  | 0, _ => rfl
  | k + 1, b => by
    unfold watF
    congr 1
    refine sumN_congr fun x hx => ?_
    rw [h x hx, watF_congr h y k x]
theorem endF_congr {n : Nat} {nx nx' : Nat → Option Nat} (h : ∀ x, x < n → nx x = nx' x) (hn : ∀ x y, nx x = some y → y < n) : ∀ k b, b < n → endF nx k b = endF nx' k b
  | 0, _, _ => rfl
  | k + 1, b, hb => by
    unfold endF
    rw [← h b hb]
    cases e : nx b with
    | none => rfl
    | some y => exact endF_congr h hn k y (hn b y e)
/-- Drains of which just the same can be. -/
structure Same (q d : Dr) (f : List Int → List Int) : Prop where
  nb : q.banks.length = d.banks.length
  yd : q.banks.map (·.yd) = d.banks.map (·.yd)
  rt : q.rights = d.rights
  told : toldD q = (toldD d).map f
  fl : ∀ lv, (f lv).length = lv.length
  nx : ∀ lv ∈ toldD d, ∀ x, x < d.banks.length → nxt q.ways (f lv) x = nxt d.ways lv x
section
variable {q d : Dr} {f : List Int → List Int} (h : Same q d f)
include h
theorem Same.wat {nx nx' : Nat → Option Nat} (hx : ∀ x, x < d.banks.length → nx x = nx' x) (b : Nat) : watS q nx b = watS d nx' b := by
  unfold watS
  have e1 : loY q = loY d := by funext i; unfold loY; rw [h.yd]
  have e2 : hiY q = hiY d := by funext i; unfold hiY; rw [h.yd]
  unfold watN
  rw [h.nb, e1, e2, watF_congr hx, watF_congr hx]
theorem Same.flow {nx nx' : Nat → Option Nat} (hx : ∀ x, x < d.banks.length → nx x = nx' x) {a : Nat} (ha : a < d.banks.length) (b : Nat) : flowS q nx a b = flowS d nx' a b := by unfold flowS; rw [h.wat hx, hx a ha]
theorem Same.keep1 (vd : VD d) {nx nx' : Nat → Option Nat} (hx : ∀ x, x < d.banks.length → nx x = nx' x) : keepS1 q nx = keepS1 d nx' := by
  unfold keepS1
  rw [h.rt, Bool.eq_iff_iff, List.all_eq_true, List.all_eq_true]
  refine forall_congr' fun r => forall_congr' fun hr => ?_
  have := vd.rt r hr
  rw [h.flow hx (by omega)]
theorem Same.some_ : someB q = someB d := by
  have h1 := someB_told (d := q)
  have h2 := someB_told (d := d)
  rw [h.told] at h1
  rw [Bool.eq_iff_iff, h1, h2]
  simp
theorem Same.next {b : Nat} (hb : b < d.banks.length) : nextS q b = nextS d b := by
  unfold nextS
  rw [h.told, List.map_map, h.nb]
  congr 1
  apply List.map_congr_left
  intro lv hlv
  simp only [Function.comp]
  rw [h.nx lv hlv b hb]
theorem Same.ends {b : Nat} (hb : b < d.banks.length) : endsS q b = endsS d b := by
  unfold endsS
  rw [h.told, List.map_map, h.nb]
  congr 1
  apply List.map_congr_left
  intro lv hlv
  simp only [Function.comp]
  have hl := rowsD_len (toldD_mem.1 hlv).1
  exact endF_congr (fun x hx => h.nx lv hlv x hx) (fun x y hxy => by have := (nxt_dec hxy).1; rw [h.fl] at this; omega) _ _ hb
theorem Same.water (b : Nat) : waterS q b = waterS d b := by
  unfold waterS
  rw [h.told, List.map_map]
  congr 1
  apply List.map_congr_left
  intro lv hlv
  simp only [Function.comp]
  exact h.wat (fun x hx => h.nx lv hlv x hx) b
theorem Same.flows {a : Nat} (ha : a < d.banks.length) (b : Nat) : flowsS q a b = flowsS d a b := by
  unfold flowsS
  rw [h.told, List.map_map]
  congr 1
  apply List.map_congr_left
  intro lv hlv
  simp only [Function.comp]
  exact h.flow (fun x hx => h.nx lv hlv x hx) ha b
/-- As many must be stopped, where sets of one are as good as sets of the other. -/
theorem Same.stop (vq : VD q) (vd : VD d) (hs : someB d = true) (g : Nat → Nat) (hw : q.ways.length = d.ways.length) (hg : ∀ s, s < 2 ^ d.ways.length → g s < 2 ^ d.ways.length ∧ pc (g s) = pc s ∧ (enoughB q s = true → enoughB d (g s) = true) ∧ (enoughB d s = true → enoughB q (g s) = true)) : pc (stopS q) = pc (stopS d) := by
  have f1 := stop_facts vd hs
  have f2 := stop_facts vq (by rw [h.some_]; exact hs)
  rw [hw] at f2
  have g1 := hg (stopS d) f1.1
  have g2 := hg (stopS q) f2.1
  have h1 := (f1.2.2.2.2 (g (stopS q)) g2.1 (g2.2.2.1 f2.2.1)).1
  have h2 := (f2.2.2.2.2 (g (stopS d)) g1.1 (g1.2.2.2 f1.2.1)).1
  omega
end
theorem same_up {d : Dr} (v : VD d) : Same (levU d) d fun r => r.map (· + 1) := by
  have hr : ∀ lv ∈ rowsD d, ∀ x, x < d.banks.length → nxt d.ways (lv.map (· + 1)) x = nxt d.ways lv x := fun lv hlv x hx => nxt_up (by rw [rowsD_len hlv]; exact hx)
  refine ⟨by simp [levU], by simp [levU, Function.comp_def], rfl, ?_, fun _ => by simp, fun lv hlv x hx => hr lv (toldD_mem.1 hlv).1 x hx⟩
  unfold toldD
  rw [rowsD_up, List.filter_map]
  congr 1
  apply List.filter_congr
  intro lv hlv
  simp only [Function.comp]
  unfold rightB
  rw [Bool.eq_iff_iff, List.all_eq_true, List.all_eq_true]
  refine forall_congr' fun w => forall_congr' fun hw => ?_
  have := v.se w hw
  show (codeO (nxt d.ways _ _) == _) = true ↔ _
  rw [hr lv hlv w.1.toNat (by omega)]
theorem up_enough {d : Dr} (v : VD d) (s : Nat) : enoughB (levU d) s = enoughB d s := by
  unfold enoughB
  rw [(same_up v).told, List.all_map]
  rw [Bool.eq_iff_iff, List.all_eq_true, List.all_eq_true]
  refine forall_congr' fun lv => forall_congr' fun hlv => ?_
  simp only [Function.comp]
  have := (same_up v).keep1 v (nx := nxt (keepL s (levU d).ways 0) (lv.map (· + 1))) (nx' := nxt (keepL s d.ways 0) lv) fun x hx => nxt_up (by rw [rowsD_len (toldD_mem.1 hlv).1]; exact hx)
  rw [this]
theorem up_stop {d : Dr} (v : VD d) (vu : VD (levU d)) (hs : someB d = true) : pc (stopS (levU d)) = pc (stopS d) :=
  (same_up v).stop vu v hs id rfl fun s h => ⟨h, rfl, fun e => by rw [← up_enough v]; exact e, fun e => by rw [id, up_enough v]; exact e⟩
/-- The drains in another order, each the other way round. -/
def turnZ (d : Dr) : Dr := { d with ways := d.ways.reverse.map fun w => (w.2, w.1) }
theorem join_swap (w : Sp) (a b : Int) : joinB (w.2, w.1) a b = joinB w a b := by
  unfold joinB
  dsimp only
  cases h1 : w.1 == a <;> cases h2 : w.1 == b <;> cases h3 : w.2 == a <;> cases h4 : w.2 == b <;> rfl
theorem stepN_adj {ws ws' : List Sp} (h : ∀ x y, adj ws x y = adj ws' x y) (lv : List Int) (x : Nat) (o : Option Nat) (y : Nat) : stepN ws lv x o y = stepN ws' lv x o y := by unfold stepN; rw [h]
theorem nxtF_adj {ws ws' : List Sp} (h : ∀ x y, adj ws x y = adj ws' x y) (lv : List Int) (x : Nat) : ∀ n, nxtF ws lv x n = nxtF ws' lv x n
  | 0 => rfl
  | n + 1 => by rw [nxtF_succ, nxtF_succ, nxtF_adj h lv x n, stepN_adj h]
theorem nxt_adj {ws ws' : List Sp} (h : ∀ x y, adj ws x y = adj ws' x y) (lv : List Int) (x : Nat) : nxt ws lv x = nxt ws' lv x := nxtF_adj h lv x _
theorem adj_iff {ws : List Sp} {x y : Nat} : adj ws x y = true ↔ ∃ w ∈ ws, joinB w x y = true := List.any_eq_true
def rvS (m s : Nat) : Nat := bitsOf (fun i => decide (s / 2 ^ (m - 1 - i) % 2 = 1)) m
set_option maxRecDepth 100000 in
theorem rvS_pc : ∀ m, m < 8 → ∀ s, s < 2 ^ m → pc (rvS m s) = pc s := by decide +kernel
theorem turn_get (d : Dr) {j : Nat} (hj : j < d.ways.length) : (turnZ d).ways[j]? = some (d.ways[d.ways.length - 1 - j].2, d.ways[d.ways.length - 1 - j].1) := by
  unfold turnZ
  dsimp only
  rw [List.getElem?_map, List.getElem?_reverse hj, List.getElem?_eq_getElem (by omega)]; rfl
theorem turn_len (d : Dr) : (turnZ d).ways.length = d.ways.length := by simp [turnZ]
theorem turn_adj (d : Dr) (s : Nat) (x y : Nat) : adj (keepL s (turnZ d).ways 0) x y = adj (keepL (rvS d.ways.length s) d.ways 0) x y := by
  have bit : ∀ i, rvS d.ways.length s / 2 ^ i % 2 = 1 ↔ i < d.ways.length ∧ s / 2 ^ (d.ways.length - 1 - i) % 2 = 1 := fun i => by
    unfold rvS; rw [bitsOf_bit]; simp
  rw [Bool.eq_iff_iff, adj_iff, adj_iff]
  constructor
  · rintro ⟨w, hw, hj⟩
    obtain ⟨j, h1, h2⟩ := keepL_mem.1 hw
    rw [Nat.zero_add] at h2
    have hjl : j < d.ways.length := by have := (List.getElem?_eq_some_iff.1 h1).1; rw [turn_len] at this; exact this
    rw [turn_get d hjl] at h1
    simp only [Option.some.injEq] at h1
    subst h1
    rw [join_swap] at hj
    refine ⟨_, keepL_mem.2 ⟨d.ways.length - 1 - j, List.getElem?_eq_getElem (by omega), ?_⟩, hj⟩
    rw [Nat.zero_add, ne_eq, bit]
    rintro ⟨_, h3⟩
    exact h2 (by rw [show d.ways.length - 1 - (d.ways.length - 1 - j) = j by omega] at h3; exact h3)
  · rintro ⟨w, hw, hj⟩
    obtain ⟨j, h1, h2⟩ := keepL_mem.1 hw
    rw [Nat.zero_add] at h2
    have hjl : j < d.ways.length := (List.getElem?_eq_some_iff.1 h1).1
    rw [List.getElem?_eq_getElem hjl] at h1
    simp only [Option.some.injEq] at h1
    subst h1
    refine ⟨(d.ways[j].2, d.ways[j].1), keepL_mem.2 ⟨d.ways.length - 1 - j, ?_, ?_⟩, by rw [join_swap]; exact hj⟩
    · rw [turn_get d (by omega)]
      simp only [show d.ways.length - 1 - (d.ways.length - 1 - j) = j by omega]
    · rw [Nat.zero_add]
      intro h3
      exact h2 ((bit j).2 ⟨hjl, h3⟩)
theorem turn_adj0 (d : Dr) (x y : Nat) : adj (turnZ d).ways x y = adj d.ways x y := by
  have := turn_adj d 0 x y
  rw [keepL_zero] at this
  have e : rvS d.ways.length 0 = 0 := by
    unfold rvS
    rw [bitsOf_zero]
    intro k _
    simp
  rw [e, keepL_zero] at this
  exact this
theorem same_turn (d : Dr) : Same (turnZ d) d id where
  nb := rfl
  yd := rfl
  rt := rfl
  told := by
    unfold toldD
    rw [List.map_id]
    apply List.filter_congr
    intro lv _
    unfold rightB
    congr 1
    funext w
    rw [nxt_adj (turn_adj0 d)]
  fl := fun _ => rfl
  nx := fun lv _ x _ => nxt_adj (turn_adj0 d) lv x
theorem turn_enough {d : Dr} (v : VD d) (s : Nat) : enoughB (turnZ d) s = enoughB d (rvS d.ways.length s) := by
  unfold enoughB
  rw [(same_turn d).told, List.map_id]
  congr 1
  funext lv
  exact (same_turn d).keep1 v fun x _ => nxt_adj (turn_adj d s) lv x
theorem rv_lt (m s : Nat) : rvS m s < 2 ^ m := bitsOf_lt _ _
theorem rv_rv {m s : Nat} (h : s < 2 ^ m) : rvS m (rvS m s) = s := by
  refine bits_eq (rv_lt _ _) h fun k hk => ?_
  have bit : ∀ t i, rvS m t / 2 ^ i % 2 = 1 ↔ i < m ∧ t / 2 ^ (m - 1 - i) % 2 = 1 := fun t i => by
    unfold rvS; rw [bitsOf_bit]; simp
  rw [bit, bit, show m - 1 - (m - 1 - k) = k by omega]
  constructor
  · rintro ⟨_, _, h⟩; exact h
  · intro h; exact ⟨hk, by omega, h⟩
theorem turn_stop {d : Dr} (v : VD d) (vz : VD (turnZ d)) (hs : someB d = true) : pc (stopS (turnZ d)) = pc (stopS d) :=
  (same_turn d).stop vz v hs (rvS d.ways.length) (turn_len d) fun s h => ⟨rv_lt _ _, rvS_pc _ (by have := v.nw; omega) s h, fun e => by rw [← turn_enough v]; exact e, fun e => by rw [turn_enough v, rv_rv h]; exact e⟩
theorem vd_turn {d : Dr} (v : VD d) : VD (turnZ d) where
  nb := v.nb
  nw := by rw [turn_len]; exact v.nw
  nr := v.nr
  ns := v.ns
  bk := v.bk
  wy := fun w hw => by
    unfold turnZ at hw
    dsimp only at hw
    obtain ⟨x, hx, rfl⟩ := List.mem_map.1 hw
    have := v.wy x (List.mem_reverse.1 hx)
    exact ⟨this.2.1, this.1, fun e => this.2.2 e.symm⟩
  rt := v.rt
  se := v.se
end Go.Proofs.Ytbhgpnbfdjoglaa
end

section
namespace Go.Proofs.Ytbhgpnbfdjoglaa
open Go.RowKit
theorem in_nat {n a : Nat} (h : a < n) : inN n (a : Int) = true := by simp only [inN, decide_eq_true_eq]; omega
theorem two_nat {n a b : Nat} (ha : a < n) (hb : b < n) (h : a ≠ b) : twoB n (a : Int) (b : Int) = true := by
  simp only [twoB, inN, Bool.and_eq_true, decide_eq_true_eq]; omega
theorem two_same (n a : Nat) : twoB n (a : Int) (a : Int) = false := by simp [twoB]
theorem vals_ok {d : Dr} (v : VD d) (h0 : someB d = true) {a b : Nat} (ha : a < d.banks.length) (hb : b < d.banks.length) : errD d true = 0 ∧ NextV d a = nextS d a ∧ EndsV d a = endsS d a ∧ WaterV d a = waterS d a ∧ (a ≠ b → FlowV d a b = flowsS d a b ∧ errD d (twoB d.banks.length a b) = 0) ∧ StopN d = pc (stopS d) := by
  have hvb := vB_of v
  have he := errD_1 hvb rfl h0
  have hi := in_nat ha
  refine ⟨he, by simp [NextV, hi, he], by simp [EndsV, hi, he], by simp [WaterV, hi, he], fun h => ?_, by unfold StopN; rw [he, if_pos rfl]⟩
  have ht := two_nat ha hb h
  exact ⟨by simp [FlowV, ht, he], by rw [ht]; exact he⟩
theorem vals_clash {d : Dr} (v : VD d) (h0 : someB d = false) {a b : Nat} (ha : a < d.banks.length) : errD d true = 10 ∧ NextV d a = 0 ∧ EndsV d a = 0 ∧ WaterV d a = (0, 0) ∧ FlowV d a b = (0, 0) ∧ StopN d = 0 := by
  have hvb := vB_of v
  have he : errD d true = 10 := errD_10 hvb rfl h0
  have hne : ∀ ok, errD d ok ≠ 0 := fun ok => by
    cases ok with
    | true => omega
    | false => exact errD_no (.inr rfl)
  exact ⟨he, by unfold NextV; rw [if_neg (hne _)], by unfold EndsV; rw [if_neg (hne _)], by unfold WaterV; rw [if_neg (hne _)], by unfold FlowV; rw [if_neg (hne _)], by unfold StopN; rw [if_neg (hne _)]⟩
theorem two_err {d : Dr} (v : VD d) {a b : Nat} (ha : a < d.banks.length) (hb : b < d.banks.length) : errD d (twoB d.banks.length a b) = if a = b then 2 else errD d true := by
  by_cases h : a = b
  · subst h
    rw [if_pos rfl, two_same]
    simp [errD, vB_of v]
  · rw [if_neg h, two_nat ha hb h]
theorem vals_bnd {d : Dr} (v : VD d) {a b : Nat} (ha : a < d.banks.length) (hb : b < d.banks.length) : NextV d a < 64 ∧ EndsV d a < 64 ∧ (0 ≤ (WaterV d a).1 ∧ (WaterV d a).1 ≤ 100 ∧ 0 ≤ (WaterV d a).2 ∧ (WaterV d a).2 ≤ 100) ∧ (0 ≤ (FlowV d a b).1 ∧ (FlowV d a b).1 ≤ 100 ∧ 0 ≤ (FlowV d a b).2 ∧ (FlowV d a b).2 ≤ 100) ∧ StopN d ≤ 7 ∧ (errD d true = 0 ∨ errD d true = 10) := by
  have hnb := v.nb
  cases h0 : someB d with
  | false =>
    obtain ⟨h1, h2, h3, h4, h5, h6⟩ := vals_clash (b := b) v h0 ha
    rw [h1, h2, h3, h4, h5, h6]
    dsimp only
    omega
  | true =>
    obtain ⟨h1, h2, h3, h4, h5, h6⟩ := vals_ok v h0 ha hb
    have hrow : ∀ lv ∈ toldD d, lv.length = d.banks.length := fun lv h => rowsD_len (toldD_mem.1 h).1
    have hne := someB_told.1 h0
    have p7 : pc (stopS d) ≤ 7 := by unfold pc; omega
    refine ⟨?_, ?_, ?_, ?_, by rw [h6]; exact p7, .inl h1⟩
    · rw [h2]
      exact orS_lt (m := 6) fun x hx => by
        obtain ⟨lv, hlv, rfl⟩ := List.mem_map.1 hx
        have := toF_le (hrow lv hlv) a
        unfold toF at this
        omega
    · rw [h3]
      exact orS_lt (m := 6) fun x hx => by
        obtain ⟨lv, hlv, rfl⟩ := List.mem_map.1 hx
        have := endF1_lt (hrow lv hlv) ha
        unfold endF1 at this
        omega
    · rw [h4]
      exact jn_bd (by simpa using hne) fun y hy => by
        obtain ⟨lv, hlv, rfl⟩ := List.mem_map.1 hy
        exact watS_bd v (hrow lv hlv) _ ha
    · by_cases hab : a = b
      · subst hab
        have : FlowV d a a = (0, 0) := by unfold FlowV; rw [two_same, if_neg (errD_no (.inr rfl))]
        rw [this]; dsimp only; omega
      · rw [(h5 hab).1]
        exact jn_bd (by simpa using hne) fun y hy => by
          obtain ⟨lv, hlv, rfl⟩ := List.mem_map.1 hy
          exact flowS_bd v (hrow lv hlv) _ ha
/-- What is compared where no more can be true. -/
def LessV (q d : Dr) (a b : Nat) : Prop := errD q true = 10 ∨ (errD q true = 0 ∧ errD d true = 0 ∧ NextV q a &&& (2 ^ 64 - 1 - NextV d a) = 0 ∧ EndsV q a &&& (2 ^ 64 - 1 - EndsV d a) = 0 ∧ ((WaterV d a).1 ≤ (WaterV q a).1 ∧ (WaterV q a).2 ≤ (WaterV d a).2) ∧ (a ≠ b → (FlowV d a b).1 ≤ (FlowV q a b).1 ∧ (FlowV q a b).2 ≤ (FlowV d a b).2) ∧ StopN q ≤ StopN d)
theorem less_vals {q d : Dr} (h : Less q d) (vq : VD q) (vd : VD d) {a b : Nat} (ha : a < d.banks.length) (hb : b < d.banks.length) : LessV q d a b := by
  have ha' : a < q.banks.length := by rw [h.nb]; exact ha
  have hb' : b < q.banks.length := by rw [h.nb]; exact hb
  cases h0 : someB q with
  | false => exact .inl (vals_clash (b := b) vq h0 ha').1
  | true =>
    right
    have h1 := h.some_ h0
    obtain ⟨q1, q2, q3, q4, q5, q6⟩ := vals_ok vq h0 ha' hb'
    obtain ⟨d1, d2, d3, d4, d5, d6⟩ := vals_ok vd h1 ha hb
    have bd := vals_bnd vd ha hb
    refine ⟨q1, d1, andNot_sub (by omega) ?_, andNot_sub (by omega) ?_, ?_, ?_, ?_⟩
    · intro k; rw [q2, d2]; exact h.next a k
    · intro k; rw [q3, d3]; exact h.ends a k
    · rw [q4, d4]; exact h.water h0 a
    · intro hab; rw [(q5 hab).1, (d5 hab).1]; exact h.flows h0 a b
    · rw [q6, d6]; exact h.stop vq vd h0
/-- What is compared where just the same can be true. -/
def SameV (q d : Dr) (a b : Nat) : Prop := errD q true = errD d true ∧ NextV q a = NextV d a ∧ EndsV q a = EndsV d a ∧ WaterV q a = WaterV d a ∧ FlowV q a b = FlowV d a b ∧ StopN q = StopN d
theorem same_vals {q d : Dr} {f : List Int → List Int} (h : Same q d f) (vq : VD q) (vd : VD d) (hst : someB d = true → pc (stopS q) = pc (stopS d)) {a b : Nat} (ha : a < d.banks.length) (hb : b < d.banks.length) : SameV q d a b := by
  have ha' : a < q.banks.length := by rw [h.nb]; exact ha
  have hb' : b < q.banks.length := by rw [h.nb]; exact hb
  cases h0 : someB d with
  | false =>
    obtain ⟨q1, q2, q3, q4, q5, q6⟩ := vals_clash (b := b) vq (by rw [h.some_]; exact h0) ha'
    obtain ⟨d1, d2, d3, d4, d5, d6⟩ := vals_clash (b := b) vd h0 ha
    exact ⟨by rw [q1, d1], by rw [q2, d2], by rw [q3, d3], by rw [q4, d4], by rw [q5, d5], by rw [q6, d6]⟩
  | true =>
    obtain ⟨q1, q2, q3, q4, q5, q6⟩ := vals_ok vq (by rw [h.some_]; exact h0) ha' hb'
    obtain ⟨d1, d2, d3, d4, d5, d6⟩ := vals_ok vd h0 ha hb
    refine ⟨by rw [q1, d1], by rw [q2, d2, h.next ha], by rw [q3, d3, h.ends ha], by rw [q4, d4, h.water], ?_, by rw [q6, d6, hst h0]⟩
    by_cases hab : a = b
    · subst hab
      unfold FlowV
      rw [two_same, two_same, if_neg (errD_no (.inr rfl)), if_neg (errD_no (.inr rfl))]
    · rw [(q5 hab).1, (d5 hab).1, h.flows ha]
theorem right_vals {d : Dr} {r : Rt} (vd : VD d) (vt : VD (rightT d r)) : errD (rightT d r) true = errD d true ∧ StopN d ≤ StopN (rightT d r) := by
  have he : errD (rightT d r) true = errD d true := by
    unfold errD
    rw [vB_of vd, vB_of vt]
    rfl
  refine ⟨he, ?_⟩
  unfold StopN
  rw [he]
  by_cases h0 : errD d true = 0
  · rw [if_pos h0, if_pos h0]
    have hs : someB d = true := by
      cases h : someB d with
      | true => rfl
      | false => rw [errD_10 (vB_of vd) rfl h] at h0; omega
    exact (right_more vd vt hs).2
  · rw [if_neg h0]; exact Nat.zero_le _
theorem turn_vals {d : Dr} (vd : VD d) {a b : Nat} (ha : a < d.banks.length) (hb : b < d.banks.length) : SameV (turnZ d) d a b := same_vals (same_turn d) (vd_turn vd) vd (turn_stop vd (vd_turn vd)) ha hb
theorem up_vals {d : Dr} (vd : VD d) (vu : VD (levU d)) {a b : Nat} (ha : a < d.banks.length) (hb : b < d.banks.length) : SameV (levU d) d a b := same_vals (same_up vd) vu vd (up_stop vd vu) ha hb
theorem vd_up {d : Dr} (vd : VD d) (h : ∀ b ∈ d.banks, b.lv.2 + 1 ≤ 20) : VD (levU d) where
  nb := by unfold levU; simpa using vd.nb
  nw := vd.nw
  nr := vd.nr
  ns := vd.ns
  bk := fun x hx => by
    unfold levU at hx
    dsimp only at hx
    obtain ⟨y, hy, rfl⟩ := List.mem_map.1 hx
    have := vd.bk y hy
    have := h y hy
    unfold up1
    dsimp only
    omega
  wy := by unfold levU; simpa using vd.wy
  rt := by unfold levU; simpa using vd.rt
  se := by unfold levU; simpa using vd.se
theorem vd_bank {d : Dr} (vd : VD d) {a : Nat} (ha : a < d.banks.length) {s : Sp} (h1 : d.banks[a].lv.1 ≤ s.1) (h2 : s.1 ≤ s.2) (h3 : s.2 ≤ d.banks[a].lv.2) : VD (bankY d a s) where
  nb := by unfold bankY; simpa using vd.nb
  nw := vd.nw
  nr := vd.nr
  ns := vd.ns
  bk := fun x hx => by
    unfold bankY at hx
    dsimp only at hx
    rcases List.mem_or_eq_of_mem_set hx with h | h
    · exact vd.bk x h
    · subst h
      have hb := vd.bk _ (List.getElem_mem ha)
      have e : (d.banks.map (·.yd)).getD a (0, 0) = d.banks[a].yd := by rw [List.getD_eq_getElem?_getD, List.getElem?_map, List.getElem?_eq_getElem ha]; rfl
      rw [e]
      dsimp only
      omega
  wy := by unfold bankY; simpa using vd.wy
  rt := by unfold bankY; simpa using vd.rt
  se := by unfold bankY; simpa using vd.se
end Go.Proofs.Ytbhgpnbfdjoglaa
end
