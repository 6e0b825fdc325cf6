/- DrainEnds in plain terms: what has been told after k rows. · The law DrainEnds: what is kept of each of all levels. · The law DrainEnds: all levels. -/
import Derived.Test.YtbhgpnbfdjoglaaE4
import Derived.Test.YtbhgpnbfdjoglaaFl3
section
namespace Go.Proofs.Ytbhgpnbfdjoglaa
open Go.RowKit
def tkD (d : Dr) (k : Nat) : List (List Int) := ((rowsD d).take k).filter (rightB d)
theorem tkD_yes {d : Dr} {k : Nat} (hk : k < (rowsD d).length) (h : rightB d (rowsD d)[k] = true) : tkD d (k + 1) = tkD d k ++ [(rowsD d)[k]] := by
  unfold tkD
  rw [List.take_succ_eq_append_getElem hk, List.filter_append, List.filter_cons_of_pos h]
  rfl
theorem tkD_no {d : Dr} {k : Nat} (hk : k < (rowsD d).length) (h : rightB d (rowsD d)[k] = false) : tkD d (k + 1) = tkD d k := by
  unfold tkD
  rw [List.take_succ_eq_append_getElem hk, List.filter_append, List.filter_cons_of_neg (by rw [h]; simp)]
  simp
theorem tkD_all (d : Dr) : tkD d (rowsD d).length = toldD d := by unfold tkD toldD; rw [List.take_length]
theorem tkD_zero (d : Dr) : tkD d 0 = [] := rfl
theorem tkD_rows {d : Dr} {k : Nat} {lv : List Int} (h : lv ∈ tkD d k) : lv.length = d.banks.length := by
  unfold tkD at h
  exact rowsD_len (List.mem_of_mem_take (List.mem_filter.1 h).1)
def mmS (l : List Sp) : Sp := l.foldl (fun s x => (min s.1 x.1, max s.2 x.2)) (1048576, -1)
theorem mmS_snoc (l : List Sp) (x : Sp) : mmS (l ++ [x]) = (min (mmS l).1 x.1, max (mmS l).2 x.2) := by
  unfold mmS; rw [List.foldl_append]; rfl
theorem mmS_jn : ∀ (n : Nat) (l : List Sp), l.length = n → l ≠ [] → (∀ x ∈ l, x.1 ≤ 1048576 ∧ -1 ≤ x.2) → mmS l = jn l := by
  intro n
  induction n with
  | zero => intro l hl hne; exact absurd (List.length_eq_zero_iff.1 hl) hne
  | succ n ih =>
    intro l hl hne hb
    obtain ⟨l', x, rfl⟩ : ∃ l' x, l = l' ++ [x] := ⟨l.dropLast, l.getLast hne, (List.dropLast_concat_getLast hne).symm⟩
    rw [mmS_snoc, jn_snoc]
    have hx := hb x (by simp)
    split
    · next h0 =>
      subst h0
      have e1 : (mmS []).1 = 1048576 := rfl
      have e2 : (mmS []).2 = -1 := rfl
      rw [e1, e2]
      ext <;> dsimp only <;> omega
    · next h0 =>
      rw [ih l' (by simpa using hl) h0 fun y hy => hb y (by simp [hy])]
theorem jn_bd {l : List Sp} (h : l ≠ []) (hb : ∀ x ∈ l, 0 ≤ x.1 ∧ x.1 ≤ 100 ∧ 0 ≤ x.2 ∧ x.2 ≤ 100) : 0 ≤ (jn l).1 ∧ (jn l).1 ≤ 100 ∧ 0 ≤ (jn l).2 ∧ (jn l).2 ≤ 100 := by
  obtain ⟨⟨x, hx, e1⟩, ⟨y, hy, e2⟩, _⟩ := jn_hull l h
  have := hb x hx
  have := hb y hy
  omega
theorem watS_bd {d : Dr} (v : VD d) {lv : List Int} (hl : lv.length = d.banks.length) (ws : List Sp) {a : Nat} (ha : a < d.banks.length) : 0 ≤ (watS d (nxt ws lv) a).1 ∧ (watS d (nxt ws lv) a).1 ≤ 100 ∧ 0 ≤ (watS d (nxt ws lv) a).2 ∧ (watS d (nxt ws lv) a).2 ≤ 100 := by
  have hnb := v.nb
  have hd : ∀ x y, nxt ws lv x = some y → y < d.banks.length ∧ lvl lv y < lvl lv x := fun x y h => by rw [← hl]; exact nxt_dec h
  have h1 := watN_bd hd (y := loY d) (fun z _ => by have := yd_bd v z; omega) ha
  have h2 := watN_bd hd (y := hiY d) (fun z _ => by have := yd_bd v z; omega) ha
  have e : watS d (nxt ws lv) a = (watN d.banks.length (nxt ws lv) (loY d) a, watN d.banks.length (nxt ws lv) (hiY d) a) := rfl
  rw [e]
  dsimp only
  have h3 : (20 : Int) * (d.banks.length : Int) ≤ 100 := by omega
  omega
theorem flowS_bd {d : Dr} (v : VD d) {lv : List Int} (hl : lv.length = d.banks.length) (ws : List Sp) {a b : Nat} (ha : a < d.banks.length) : 0 ≤ (flowS d (nxt ws lv) a b).1 ∧ (flowS d (nxt ws lv) a b).1 ≤ 100 ∧ 0 ≤ (flowS d (nxt ws lv) a b).2 ∧ (flowS d (nxt ws lv) a b).2 ≤ 100 := by
  unfold flowS
  split
  · exact watS_bd v hl ws ha
  · dsimp only; omega
def toF (d : Dr) (a : Nat) (lv : List Int) : Nat := (nxt d.ways lv a).getD d.banks.length
def endF1 (d : Dr) (a : Nat) (lv : List Int) : Nat := endN d.banks.length (nxt d.ways lv) a
theorem toF_le {d : Dr} {lv : List Int} (hl : lv.length = d.banks.length) (a : Nat) : toF d a lv ≤ d.banks.length := by
  unfold toF
  cases h : nxt d.ways lv a with
  | none => exact Nat.le_refl _
  | some y => have := (nxt_dec h).1; show y ≤ _; omega
theorem endF1_lt {d : Dr} {lv : List Int} (hl : lv.length = d.banks.length) {a : Nat} (ha : a < d.banks.length) : endF1 d a lv < d.banks.length := by
  unfold endF1
  exact endF_lt (l := lvl lv) (fun x y h => by rw [← hl]; exact nxt_dec h) _ _ ha
def canK (d : Dr) (a k : Nat) : Nat := orS ((tkD d k).map (toF d a))
def lastK (d : Dr) (a k : Nat) : Nat := orS ((tkD d k).map (endF1 d a))
def someK (d : Dr) (k : Nat) : Bool := !(tkD d k).isEmpty
def allK (d : Dr) (a k : Nat) : Sp := mmS ((tkD d k).map fun lv => watS d (nxt d.ways lv) a)
def wentK (d : Dr) (a b k : Nat) : Sp := mmS ((tkD d k).map fun lv => flowS d (nxt d.ways lv) a b)
theorem canK_lt {d : Dr} (v : VD d) (a k : Nat) : canK d a k < 64 := by
  have hnb := v.nb
  exact orS_lt (m := 6) fun n hn => by
    obtain ⟨lv, hlv, rfl⟩ := List.mem_map.1 hn
    have := toF_le (tkD_rows hlv) a
    omega
theorem lastK_lt {d : Dr} (v : VD d) {a : Nat} (ha : a < d.banks.length) (k : Nat) : lastK d a k < 64 := by
  have hnb := v.nb
  exact orS_lt (m := 6) fun n hn => by
    obtain ⟨lv, hlv, rfl⟩ := List.mem_map.1 hn
    have := endF1_lt (tkD_rows hlv) ha
    omega
section
variable {d : Dr} {a b k : Nat} (hk : k < (rowsD d).length)
theorem K_yes (h : rightB d (rowsD d)[k] = true) : canK d a (k + 1) = canK d a k ||| 2 ^ toF d a (rowsD d)[k] ∧ lastK d a (k + 1) = lastK d a k ||| 2 ^ endF1 d a (rowsD d)[k] ∧ someK d (k + 1) = true ∧
    allK d a (k + 1) = (min (allK d a k).1 (watS d (nxt d.ways (rowsD d)[k]) a).1, max (allK d a k).2 (watS d (nxt d.ways (rowsD d)[k]) a).2) ∧
    wentK d a b (k + 1) = (min (wentK d a b k).1 (flowS d (nxt d.ways (rowsD d)[k]) a b).1, max (wentK d a b k).2 (flowS d (nxt d.ways (rowsD d)[k]) a b).2) := by
  unfold canK lastK someK allK wentK
  rw [tkD_yes hk h]
  simp only [List.map_append, List.map_cons, List.map_nil, orS_snoc, mmS_snoc]
  simp
theorem K_no (h : rightB d (rowsD d)[k] = false) : canK d a (k + 1) = canK d a k ∧ lastK d a (k + 1) = lastK d a k ∧ someK d (k + 1) = someK d k ∧ allK d a (k + 1) = allK d a k ∧ wentK d a b (k + 1) = wentK d a b k := by
  unfold canK lastK someK allK wentK
  rw [tkD_no hk h]
  simp
end
/-- What DrainEnds compares, where there is a truth. -/
theorem ends_facts {d : Dr} (v : VD d) (h0 : someB d = true) {a b : Nat} (ha : a < d.banks.length) : nextS d a = canK d a (rowsD d).length ∧ endsS d a = lastK d a (rowsD d).length ∧ someK d (rowsD d).length = true ∧ waterS d a = allK d a (rowsD d).length ∧ flowsS d a b = wentK d a b (rowsD d).length ∧
    (0 ≤ (waterS d a).1 ∧ (waterS d a).1 ≤ 100 ∧ 0 ≤ (waterS d a).2 ∧ (waterS d a).2 ≤ 100) ∧ (0 ≤ (flowsS d a b).1 ∧ (flowsS d a b).1 ≤ 100 ∧ 0 ≤ (flowsS d a b).2 ∧ (flowsS d a b).2 ≤ 100) := by
  have hne := someB_told.1 h0
  unfold canK lastK someK allK wentK
  rw [tkD_all]
  have hrow : ∀ lv ∈ toldD d, lv.length = d.banks.length := fun lv h => rowsD_len (toldD_mem.1 h).1
  have hb1 : ∀ x ∈ ((toldD d).map fun lv => watS d (nxt d.ways lv) a), 0 ≤ x.1 ∧ x.1 ≤ 100 ∧ 0 ≤ x.2 ∧ x.2 ≤ 100 := fun x hx => by
    obtain ⟨lv, hlv, rfl⟩ := List.mem_map.1 hx
    exact watS_bd v (hrow lv hlv) _ ha
  have hb2 : ∀ x ∈ ((toldD d).map fun lv => flowS d (nxt d.ways lv) a b), 0 ≤ x.1 ∧ x.1 ≤ 100 ∧ 0 ≤ x.2 ∧ x.2 ≤ 100 := fun x hx => by
    obtain ⟨lv, hlv, rfl⟩ := List.mem_map.1 hx
    exact flowS_bd v (hrow lv hlv) _ ha
  have hn1 : ((toldD d).map fun lv => watS d (nxt d.ways lv) a) ≠ [] := by simpa using hne
  have hn2 : ((toldD d).map fun lv => flowS d (nxt d.ways lv) a b) ≠ [] := by simpa using hne
  refine ⟨rfl, rfl, ?_, ?_, ?_, jn_bd hn1 hb1, jn_bd hn2 hb2⟩
  · cases h : toldD d with
    | nil => exact absurd h hne
    | cons x l => rfl
  · exact (mmS_jn _ _ rfl hn1 fun x hx => by have := hb1 x hx; omega).symm
  · exact (mmS_jn _ _ rfl hn2 fun x hx => by have := hb2 x hx; omega).symm
theorem ends_none {d : Dr} (h0 : someB d = false) : someK d (rowsD d).length = false := by
  unfold someK
  rw [tkD_all, someB_no.1 h0]
  rfl
end Go.Proofs.Ytbhgpnbfdjoglaa
end

section
namespace Go.Proofs.Ytbhgpnbfdjoglaa
open Go.RowKit
attribute [local irreducible] AnyO AnyB QAny QB EWalk AWalk Ev WP OPS QThen QBlock QScope QLoop QBody Val New Turn Tri Enters PostA Blk Ro
attribute [local irreducible] AnyC QC
section
variable (N : Nat) (w0 : World)
set_option maxHeartbeats 8000000 in
theorem ends1_core (g : Fg) (hA : DrAt N w0 g) (hv : VD g.d) (a b : Nat) (ha : a < g.d.banks.length) (hb : b < g.d.banks.length) (bd ba bn bl bu bb b35 b36 b37 b38 b39 : Nat) (X : Hp) (md : Mem bd (Blk 29 (drL g)) X) (ma : Mem ba (Blk 3 [.int .i64 (a : Int)]) X) (mb : Mem bb (Blk 3 [.int .i64 (b : Int)]) X) (mn : Mem bn (Blk 3 [.int .i64 (g.d.banks.length : Int)]) X)
    (Au : Option Addr) (cu : Nat) (mu : Mem bu (Blk 47 [.slice Au g.d.banks.length cu]) X) (hru : ∀ L', Sub X L' → RdI N w0 L' Au (upsL g.d)) (Al : Option Addr) (cl : Nat) (ml : Mem bl (Blk 47 [.slice Al g.d.banks.length cl]) X) (hrl : ∀ L', Sub X L' → RdI N w0 L' Al (lwsL g.d))
    (lv : List Int) (hl : lv.length = g.d.banks.length) (A : Option Addr) (c : Nat) (hrd : ∀ L', Sub X L' → RdI N w0 L' A lv) (cn en : Nat) (hcn : cn < 64) (hen : en < 64) (sm : Bool) (al1 al2 we1 we2 : Int) :
    Tri Try.prog N w0 ((b39, Blk 35 [.int .i64 we1, .int .i64 we2]) :: (b38, Blk 35 [.int .i64 al1, .int .i64 al2]) :: (b37, Blk 4 [.bool sm]) :: (b36, Blk 3 [.int .i64 (en : Int)]) :: (b35, Blk 3 [.int .i64 (cn : Int)]) :: X) 31 (.slice A g.d.banks.length c :: [.pointer (some ⟨bd, 0, none⟩), .pointer (some ⟨ba, 0, none⟩), .pointer (some ⟨bn, 0, none⟩), .pointer (some ⟨bl, 0, none⟩), .pointer (some ⟨bu, 0, none⟩), .pointer (some ⟨b35, 0, none⟩), .pointer (some ⟨b36, 0, none⟩), .pointer (some ⟨b37, 0, none⟩), .pointer (some ⟨b38, 0, none⟩), .pointer (some ⟨bb, 0, none⟩), .pointer (some ⟨b39, 0, none⟩)]).toArray fun y L' => ∃ v, y = .returned v ∧ v = .tuple #[] ∧
      L' = (b39, Blk 35 [.int .i64 (min we1 (flowS g.d (nxt g.d.ways lv) a b).1), .int .i64 (max we2 (flowS g.d (nxt g.d.ways lv) a b).2)]) :: (b38, Blk 35 [.int .i64 (min al1 (watS g.d (nxt g.d.ways lv) a).1), .int .i64 (max al2 (watS g.d (nxt g.d.ways lv) a).2)]) :: (b37, Blk 4 [.bool true]) :: (b36, Blk 3 [.int .i64 ((en ||| 2 ^ endF1 g.d a lv : Nat) : Int)]) :: (b35, Blk 3 [.int .i64 ((cn ||| 2 ^ toF g.d a lv : Nat) : Int)]) :: X := by
  have hnb := hv.nb
  have h21 := fun L x y => span_ret N w0 L x y
  have hdn : ∀ a y, nxt g.d.ways lv a = some y → y < g.d.banks.length ∧ lvl lv y < lvl lv a := fun a y h => by rw [← hl]; exact nxt_dec h
  have hcr := fun L h => courses_tri N w0 L g hA hv lv hl A c h 0 (by omega)
  have hk0 : keepL 0 g.d.ways 0 = g.d.ways := keepL_zero _ _
  simp only [crsO_cdL, hk0] at hcr
  have htl := toF_le (d := g.d) hl a
  have hel := endF1_lt (d := g.d) hl ha
  obtain ⟨to, hto⟩ : ∃ to, toF g.d a lv = to := ⟨_, rfl⟩
  rw [hto] at htl ⊢
  unfold toF at hto
  unfold endF1 at hel ⊢
  obtain ⟨nx, hnx⟩ : ∃ nx, nxt g.d.ways lv = nx := ⟨_, rfl⟩
  rw [hnx] at hcr hdn hto hel ⊢
  rw [hl] at hcr
  have hwt := fun L Ac cc hrc h => lwaters_tri N w0 L g.d.banks.length hnb nx _ hdn Ac cc hrc (upsL g.d) (by simp [upsL]) (fun z hz => by rw [upsL_lvl]; have := yd_bd hv z; omega) Au cu h
  have hwl := fun L Ac cc hrc h => lwaters_tri N w0 L g.d.banks.length hnb nx _ hdn Ac cc hrc (lwsL g.d) (by simp [lwsL]) (fun z hz => by rw [lwsL_lvl]; have := yd_bd hv z; omega) Al cl h
  rw [upsL_lvl] at hwt
  rw [lwsL_lvl] at hwl
  obtain ⟨W, hW⟩ : ∃ W, wsum g.d.banks.length nx (hiY g.d) g.d.banks.length = W := ⟨_, rfl⟩
  obtain ⟨V, hV⟩ : ∃ V, wsum g.d.banks.length nx (loY g.d) g.d.banks.length = V := ⟨_, rfl⟩
  have hWl : W.length = g.d.banks.length := by rw [← hW]; exact wsum_len _ _ _ _
  have hVl : V.length = g.d.banks.length := by rw [← hV]; exact wsum_len _ _ _ _
  have hWg : ∀ a, a < g.d.banks.length → lvl W a = watN g.d.banks.length nx (hiY g.d) a := fun a ha => by rw [← hW]; exact wsum_wat hdn (hiY g.d) ha
  have hVg : ∀ a, a < g.d.banks.length → lvl V a = watN g.d.banks.length nx (loY g.d) a := fun a ha => by rw [← hV]; exact wsum_wat hdn (loY g.d) ha
  rw [hW] at hwt
  rw [hV] at hwl
  have hwc := ints_get (l := W) (x := a) (by omega)
  have hvc := ints_get (l := V) (x := a) (by omega)
  rw [hWg a ha] at hwc
  rw [hVg a ha] at hvc
  have hws : watS g.d nx a = (watN g.d.banks.length nx (loY g.d) a, watN g.d.banks.length nx (hiY g.d) a) := rfl
  have hfl : flowS g.d nx a b = if to = b then watS g.d nx a else (0, 0) := by
    unfold flowS
    rw [← hto]
    cases h : nx a with
    | none => rw [if_neg (by simp), if_neg (by show ¬ g.d.banks.length = b; omega)]
    | some z =>
      by_cases hz : z = b
      · rw [if_pos (by rw [hz]), if_pos (by show z = b; exact hz)]
      · rw [if_neg (by simpa using hz), if_neg (by show ¬ z = b; exact hz)]
  rw [hfl, hws]
  obtain ⟨wl, hwl9⟩ : ∃ y, watN g.d.banks.length nx (loY g.d) a = y := ⟨_, rfl⟩
  obtain ⟨wu, hwu9⟩ : ∃ y, watN g.d.banks.length nx (hiY g.d) a = y := ⟨_, rfl⟩
  rw [hwu9] at hwc ⊢
  rw [hwl9] at hvc ⊢
  obtain ⟨en2, hen2⟩ : ∃ z, endN g.d.banks.length nx a = z := ⟨_, rfl⟩
  rw [hen2] at hel ⊢
  have hp1 : 2 ^ to < 2 ^ 62 := Nat.pow_lt_pow_right (by omega) (by omega)
  have hp2 : 2 ^ en2 < 2 ^ 62 := Nat.pow_lt_pow_right (by omega) (by omega)
  clear hfl hws
  refine Tri.fgt ?_
  refine tri_of_WP Try.func31 rfl (n := _) rfl (by simp) ?_
  have hS0 : Sub X ((b39, Blk 35 [.int .i64 we1, .int .i64 we2]) :: (b38, Blk 35 [.int .i64 al1, .int .i64 al2]) :: (b37, Blk 4 [.bool sm]) :: (b36, Blk 3 [.int .i64 (en : Int)]) :: (b35, Blk 3 [.int .i64 (cn : Int)]) :: X) := .cons (.cons (.cons (.cons (.cons (Sub.refl _)))))
  have hcr2 := hcr _ (hrd _ hS0)
  unfold drV at hcr2
  unfold drL at hcr2 md
  repeat' (first | (refine Znh ?_) | (refine GiW ?_; first | (refine Zsq fun K hK => ?_) | (refine ZrN 0 fun _ => ?_; refine Zv Zla ?_; refine Zv Zmv ?_; refine OPS_retKS (Enters_fn rfl) hcr2 rfl rfl rfl (fun v20 L20 h20 => ?_); obtain ⟨s20, rfl, hs20, rfl⟩ := h20; refine Zv Zav ?_)))
  obtain ⟨Ac, cc, ec, hrc⟩ := RdRows.sv (E := 3) (by omega) hs20
  rw [ec]
  have hrcl : ∀ L', Wk L' (svH 3 1 g.d.banks.length (ints (cdL g.d.banks.length nx)) s20 []) → RdI N w0 L' Ac (cdL g.d.banks.length nx) := fun L' hL => hrc N w0 L' (i1 _) hL (ints_flat _) (by intro r hr; simp only [i1, List.mem_map] at hr; obtain ⟨_, _, rfl⟩ := hr; rfl)
  obtain ⟨bC, oC, rfl⟩ : ∃ bC oC, Ac = some ⟨bC, oC, none⟩ := by
    obtain ⟨b, o, h, _⟩ := RdRows.row (hrcl _ Wk.sv0 : RdI N w0 (svH 3 1 g.d.banks.length (ints (cdL g.d.banks.length nx)) s20 []) Ac (cdL g.d.banks.length nx)) 0 (by rw [cdL_len]; omega)
    exact ⟨b, o, h⟩
  have hSX : Sub X (svH 3 1 g.d.banks.length (ints (cdL g.d.banks.length nx)) s20 ((b39, Blk 35 [.int .i64 we1, .int .i64 we2]) :: (b38, Blk 35 [.int .i64 al1, .int .i64 al2]) :: (b37, Blk 4 [.bool sm]) :: (b36, Blk 3 [.int .i64 (en : Int)]) :: (b35, Blk 3 [.int .i64 (cn : Int)]) :: X)) := (by repeat (first | exact Sub.refl _ | assumption | exact Sub.left | apply Sub.cons | apply Sub.sv | apply Sub.app))
  have hwl2 := hwl _ (some ⟨bC, oC, none⟩) cc (hrcl (svH 3 1 g.d.banks.length (ints (cdL g.d.banks.length nx)) s20 ((b39, Blk 35 [.int .i64 we1, .int .i64 we2]) :: (b38, Blk 35 [.int .i64 al1, .int .i64 al2]) :: (b37, Blk 4 [.bool sm]) :: (b36, Blk 3 [.int .i64 (en : Int)]) :: (b35, Blk 3 [.int .i64 (cn : Int)]) :: X)) Wk.sv0) (hrl _ hSX)
  have hwt2 := fun b40 : Nat => hwt _ (some ⟨bC, oC, none⟩) cc (hrcl ((b40, Blk 3 (ints V)) :: svH 3 1 g.d.banks.length (ints (cdL g.d.banks.length nx)) s20 ((b39, Blk 35 [.int .i64 we1, .int .i64 we2]) :: (b38, Blk 35 [.int .i64 al1, .int .i64 al2]) :: (b37, Blk 4 [.bool sm]) :: (b36, Blk 3 [.int .i64 (en : Int)]) :: (b35, Blk 3 [.int .i64 (cn : Int)]) :: X)) (.drop Wk.sv0)) (hru _ (.cons hSX))
  have hcd : ∀ y, y < g.d.banks.length → ∀ L', Wk L' (svH 3 1 g.d.banks.length (ints (cdL g.d.banks.length nx)) s20 []) → Rd N w0 L' bC (oC + y) (.int .i64 (codeO (nx y))) := fun y hy L' hL => by
    have := (hrcl L' hL).at_ (i := y) (by rw [cdL_len]; exact hy)
    rwa [cdL_lvl hy] at this
  have hca := hcd a ha
  obtain ⟨n, hn⟩ : ∃ n, g.d.banks.length = n := ⟨_, rfl⟩
  repeat' (first | (refine GiW ?_; first | (refine Zsq fun K hK => ?_) | (with_reducible apply WP_block) | (refine WP_drawn (id := 1) [0, 1, 2, 3, 4, 5, 6] [] (k := 0) prog_mixed (by kernel_rfl) rfl ?_; refine Zew rfl Zmv ?_; (first | (refine Zew rfl (Val_loadD1 rfl (hca _ Wk.sv0)) ?_) | (refine Zew rfl Zld ?_)); refine Zew rfl Zia ?_; (first | (refine Zew rfl (Val_loadD1 rfl (hca _ Wk.sv0)) ?_) | (refine Zew rfl Zld ?_)); (first | (refine Zew rfl (Val_loadD1 rfl (hca _ Wk.sv0)) ?_) | (refine Zew rfl Zld ?_)); refine Zew rfl Zai ?_; refine Zew rfl Zai ?_)) | (with_reducible apply EWalk_nil) | (refine AnyO_done (by kernel_rfl) ?_; (try with_reducible apply noP_normal); try with_reducible exact key.out) | (refine Zhn ?_) | (refine AWalk_0 ?_; refine ZisO ?_))
  refine WP_loop [15, 26, 27, 28, 29, 30, 31, 32, 33, 34] (fun y : Nat => [(15, .int .i64 (y : Int))]) (fun _ => svH 3 1 g.d.banks.length (ints (cdL g.d.banks.length nx)) s20 ((b39, Blk 35 [.int .i64 we1, .int .i64 we2]) :: (b38, Blk 35 [.int .i64 al1, .int .i64 al2]) :: (b37, Blk 4 [.bool sm]) :: (b36, Blk 3 [.int .i64 (en : Int)]) :: (b35, Blk 3 [.int .i64 (cn : Int)]) :: X)) (fun y => y < g.d.banks.length ∧ endN g.d.banks.length nx y = en2) (fun y => dnR g.d.banks.length (lvl lv) y) a (.cons rfl .nil) (Wk.refl _) ⟨ha, hen2⟩ ?_
  rintro y j ⟨hy, hye⟩
  have hcy := hcd y hy
  cases hz : nx y with
  | some z =>
    rw [hz] at hcy
    have h1 := hdn y z hz
    have h2 := dnR_lt h1.1 h1.2
    have hs := endN_step hdn hy hz
    unfold codeO at hcy
    repeat' (first | (refine GiP ?_; first | (refine Znh ?_) | (with_reducible refine Znl ?_)) | (refine GiW ?_; first | (refine Zsq fun K hK => ?_) | (refine ZrN 2 fun _ => ?_; refine Zv Zmv ?_; refine Zv Zmi ?_; refine Zv Zia ?_; (first | (refine Zv (Val_loadD1 rfl (hcy _ Wk.sv0)) ?_) | (refine Zv Zld ?_)); refine Zv Zygeq ?_) | (refine ZrN 3 fun _ => ?_; refine Zv Zmv ?_; refine Zv Zmi ?_; refine Zv Zia ?_; (first | (refine Zv (Val_loadD1 rfl (hcy _ Wk.sv0)) ?_) | (refine Zv Zld ?_)); refine Zv Zai ?_) | (refine WP_cond_true rfl ?_) | (with_reducible apply WP_skip) | (with_reducible apply WP_block)) | (refine Zhn ?_) | (with_reducible apply QBlock_normal))
    exact QLoop_normal z (.cons rfl .nil) (by repeat (first | exact Off.frame rfl | exact Off.refl _ _ | refine Off.frameT rfl rfl ?_ | refine Off.upd rfl ?_ | refine Off.updO rfl ?_)) (by repeat (first | exact Wk.refl _ | apply Wk.keep1 | apply Wk.drop | apply Wk.sv | apply Wk.svD | apply Wk.appD)) ⟨h1.1, by rw [← hs, hye]⟩ h2
  | none =>
    rw [hz] at hcy
    have hs := endN_stop (n := g.d.banks.length) hz
    rw [hye] at hs
    subst hs
    unfold codeO at hcy
    cases hxa : nx a with
    | none =>
      rw [hxa] at hto
      have hto2 : g.d.banks.length = to := hto
      have hcn0 : codeO none = (-1 : Int) := rfl
      subst hto2
      have hnb2 : g.d.banks.length ≠ b := by omega
      repeat' (first | (refine Znh ?_) | (refine GiW ?_; first | (refine Zsq fun K hK => ?_) | (refine ZrN 2 fun _ => ?_; refine Zv Zmv ?_; refine Zv Zmi ?_; refine Zv Zia ?_; (first | (refine Zv (Val_loadD1 rfl (hcy _ Wk.sv0)) ?_) | (refine Zv Zld ?_)); refine Zv Zygeq ?_) | (refine ZrN 4 fun _ => ?_; refine Zv Zmi ?_; refine Zv Zylss ?_) | (refine ZrN 5 fun _ => ?_; (first | (refine Zv (Val_loadD1 rfl (hcy _ Wk.sv0)) ?_) | (refine Zv Zld ?_)); refine Zv Zai ?_) | (refine WP_cond_true rfl ?_) | (refine WP_cond_false rfl ?_) | (with_reducible apply WP_exit)) | (refine Zhn ?_) | (refine Zhx ?_) | (with_reducible apply QBlock_hit) | (with_reducible apply QLoop_exit))
      refine WP_joinS (by assumption) [16, 17, 38, 39, 40, 41, 42, 43, 44, 45, 46, 47, 48, 49] (fun _ : Unit => [(16, .int .i64 wl), (17, .int .i64 wu)]) (fun _ => svH 3 1 g.d.banks.length (ints (cdL g.d.banks.length nx)) s20 ((b39, Blk 35 [.int .i64 we1, .int .i64 we2]) :: (b38, Blk 35 [.int .i64 al1, .int .i64 al2]) :: (b37, Blk 4 [.bool sm]) :: (b36, Blk 3 [.int .i64 (en : Int)]) :: (b35, Blk 3 [.int .i64 (cn : Int)]) :: X)) (fun _ => True) ?_ ?_
      · intro K' hC
        repeat' (first | (refine GiP ?_; first | (with_reducible refine Znl ?_) | (refine Zatd 40 ?_; refine OPS_retKS (Enters_fn rfl) hwl2 rfl rfl rfl (fun v40 L40 h40 => ?_); obtain ⟨b40, rfl, rfl⟩ := h40) | (refine Zatd 42 ?_; refine Zv Zia ?_) | (refine Zatd 43 ?_; refine Zv Zld ?_) | (refine Zatd 46 ?_; refine OPS_retKS (Enters_fn rfl) (hwt2 b40) rfl rfl rfl (fun v46 L46 h46 => ?_); obtain ⟨b46, rfl, rfl⟩ := h46) | (refine Zatd 48 ?_; refine Zv Zia ?_) | (refine Zatd 49 ?_; refine Zv Zld ?_) | (refine Zatd 16 ?_; refine Zv Zai ?_) | (refine Zatd 17 ?_; refine Zv Zai ?_)) | (refine WP_drawnS (id := 6) [3, 6, 7, 9] [0, 1, 3, 6, 7, 9] [] [41, 44, 45, 47] (k := 7) (k2 := 1) (by repeat (first | apply Sub.sv | apply Sub.keep | apply Sub.appK | exact Sub.refl _)) (by kernel_rfl) prog_mixed (by kernel_rfl) (by kernel_rfl) rfl ?_; refine Zew rfl Zmv ?_; refine Zew rfl Zld ?_; refine Zew rfl Zld ?_; refine Zew rfl Zmv ?_; refine Zew rfl Zld ?_; refine Zew rfl Zld ?_) | (with_reducible apply EWalk_nil) | (refine GiC ?_; first | (refine ZgC [0, 1, 3, 6, 7, 9] ?_; refine ZC1 _ 2 [0, 1, 3, 6, 7, 9, 2] ?_) | (refine ZgC [0, 1, 3, 6, 7, 9, 2] ?_; refine ZC2 _ 4 [0, 1, 3, 6, 7, 9, 2, 4] 8 [0, 1, 3, 6, 7, 9, 2, 8] ?_ ?_) | (refine ZgC [0, 1, 3, 6, 7, 9, 2, 4] ?_; refine ZC2 _ 5 [0, 1, 3, 6, 7, 9, 2, 4, 5] 8 [0, 1, 3, 6, 7, 9, 2, 4, 8] ?_ ?_) | (refine ZgC [0, 1, 3, 6, 7, 9, 2, 4, 5] ?_; refine ZC1 _ 8 [0, 1, 3, 6, 7, 9, 2, 4, 5, 8] ?_) | (refine ZgC [0, 1, 3, 6, 7, 9, 2, 4, 5, 8] ?_; refine ZC2 _ 10 [0, 1, 3, 6, 7, 9, 2, 4, 5, 8, 10] 12 [0, 1, 3, 6, 7, 9, 2, 4, 5, 8, 12] ?_ ?_) | (refine ZgC [0, 1, 3, 6, 7, 9, 2, 4, 5, 8, 10] ?_; refine ZC2 _ 11 [0, 1, 3, 6, 7, 9, 2, 4, 5, 8, 10, 11] 12 [0, 1, 3, 6, 7, 9, 2, 4, 5, 8, 10, 12] ?_ ?_) | (refine ZgC [0, 1, 3, 6, 7, 9, 2, 4, 5, 8, 10, 11] ?_; refine ZC1 _ 12 [0, 1, 3, 6, 7, 9, 2, 4, 5, 8, 10, 11, 12] ?_) | (refine ZgC [0, 1, 3, 6, 7, 9, 2, 4, 5, 8, 10, 11, 12] ?_; refine ZCl _ ?_) | (refine ZgC [0, 1, 3, 6, 7, 9, 2, 4, 5, 8, 10, 12] ?_; refine ZC1 _ 11 [0, 1, 3, 6, 7, 9, 2, 4, 5, 8, 10, 11, 12] ?_) | (refine ZgC [0, 1, 3, 6, 7, 9, 2, 4, 5, 8, 12] ?_; refine ZC1 _ 10 [0, 1, 3, 6, 7, 9, 2, 4, 5, 8, 10, 12] ?_) | (refine ZgC [0, 1, 3, 6, 7, 9, 2, 4, 8] ?_; refine ZC2 _ 5 [0, 1, 3, 6, 7, 9, 2, 4, 5, 8] 10 [0, 1, 3, 6, 7, 9, 2, 4, 8, 10] ?_ ?_) | (refine ZgC [0, 1, 3, 6, 7, 9, 2, 4, 8, 10] ?_; refine ZC2 _ 5 [0, 1, 3, 6, 7, 9, 2, 4, 5, 8, 10] 11 [0, 1, 3, 6, 7, 9, 2, 4, 8, 10, 11] ?_ ?_) | (refine ZgC [0, 1, 3, 6, 7, 9, 2, 4, 8, 10, 11] ?_; refine ZC1 _ 5 [0, 1, 3, 6, 7, 9, 2, 4, 5, 8, 10, 11] ?_) | (refine ZgC [0, 1, 3, 6, 7, 9, 2, 8] ?_; refine ZC2 _ 4 [0, 1, 3, 6, 7, 9, 2, 4, 8] 10 [0, 1, 3, 6, 7, 9, 2, 8, 10] ?_ ?_) | (refine ZgC [0, 1, 3, 6, 7, 9, 2, 8, 10] ?_; refine ZC2 _ 4 [0, 1, 3, 6, 7, 9, 2, 4, 8, 10] 11 [0, 1, 3, 6, 7, 9, 2, 8, 10, 11] ?_ ?_) | (refine ZgC [0, 1, 3, 6, 7, 9, 2, 8, 10, 11] ?_; refine ZC1 _ 4 [0, 1, 3, 6, 7, 9, 2, 4, 8, 10, 11] ?_)) | (refine GiO ?_; first | (refine ZgO [0, 1, 3, 6, 7, 9, 2, 4, 5, 8, 10, 11, 12] ?_; refine ZO1 _ 13 [0, 1, 3, 6, 7, 9, 2, 4, 5, 8, 10, 11, 12, 13] ?_) | (refine ZgO [0, 1, 3, 6, 7, 9, 2, 4, 5, 8, 10, 11, 12, 13] ?_; refine ZOd _ ?_; (try with_reducible apply noP_normal); (try with_reducible exact key.out))) | (refine AWalk_0 ?_) | (with_reducible apply QAny_normal) | (with_reducible apply QC_normal))
        all_goals exact hC.nor () _ _ (.cons rfl (.cons rfl .nil)) (by repeat (first | exact Off.frame rfl | exact Off.refl _ _ | refine Off.frameT rfl rfl ?_ | refine Off.upd rfl ?_ | refine Off.updO rfl ?_)) (by repeat (first | exact Sub.nil | exact Sub.refl _ | assumption | exact Sub.left | apply Sub.svK | apply Sub.sv | apply Sub.cons | apply Sub.app)) trivial
      intro _ j6 _
      refine Zsq fun K7 hK7 => ?_
      refine WP_joinS (by assumption) [50, 51, 52, 53, 54, 55, 56, 57] (fun _ : Unit => []) (fun _ => svH 3 1 g.d.banks.length (ints (cdL g.d.banks.length nx)) s20 ((b39, Blk 35 [.int .i64 we1, .int .i64 we2]) :: (b38, Blk 35 [.int .i64 al1, .int .i64 al2]) :: (b37, Blk 4 [.bool true]) :: (b36, Blk 3 [.int .i64 ((en ||| 2 ^ en2 : Nat) : Int)]) :: (b35, Blk 3 [.int .i64 ((cn ||| 2 ^ g.d.banks.length : Nat) : Int)]) :: X)) (fun _ => True) ?_ ?_
      · intro K' hC
        repeat' (first | (refine GiP ?_; first | (with_reducible refine Znl ?_) | (refine Zatn ?_; refine Zst ?_)) | (refine WP_drawnQ (id := 7) ((b39, Blk 35 [.int .i64 we1, .int .i64 we2]) :: (b38, Blk 35 [.int .i64 al1, .int .i64 al2]) :: (b37, Blk 4 [.bool sm]) :: (b36, Blk 3 [.int .i64 (en : Int)]) :: X) [4, 5, 6, 7] [0, 1, 2, 3, 4, 5, 6, 7] [] [54, 55, 56, 57] (k := 1) (k2 := 2) (by kernel_rfl) prog_mixed (by kernel_rfl) (by kernel_rfl) rfl ?_; (first | refine ZqY rfl Zld ?_ | refine ZqB rfl Zld ?_); (first | refine ZqY rfl Zmi ?_ | refine ZqB rfl Zmi ?_); (first | refine ZqY rfl (Val_shlS rfl rfl (by omega)) ?_ | refine ZqB rfl (Val_shlS rfl rfl (by omega)) ?_); (first | ((first | refine ZqY rfl (Val_orS rfl rfl (by omega) hp1) ?_ | refine ZqB rfl (Val_orS rfl rfl (by omega) hp1) ?_)) | ((first | refine ZqY rfl (Val_orS rfl rfl (by omega) hp2) ?_ | refine ZqB rfl (Val_orS rfl rfl (by omega) hp2) ?_))); (first | refine ZqY rfl Zld ?_ | refine ZqB rfl Zld ?_); (first | refine ZqY rfl Zmi ?_ | refine ZqB rfl Zmi ?_); (first | refine ZqY rfl (Val_shlS rfl rfl (by omega)) ?_ | refine ZqB rfl (Val_shlS rfl rfl (by omega)) ?_); (first | ((first | refine ZqY rfl (Val_orS rfl rfl (by omega) hp1) ?_ | refine ZqB rfl (Val_orS rfl rfl (by omega) hp1) ?_)) | ((first | refine ZqY rfl (Val_orS rfl rfl (by omega) hp2) ?_ | refine ZqB rfl (Val_orS rfl rfl (by omega) hp2) ?_)))) | (with_reducible apply EWalkQ_nil) | (refine GiC ?_; first | (refine ZgC [0, 1, 2, 3, 4, 5, 6, 7] ?_; refine ZC1 _ 8 [0, 1, 2, 3, 4, 5, 6, 7, 8] ?_) | (refine ZgC [0, 1, 2, 3, 4, 5, 6, 7, 8] ?_; refine ZCl _ ?_)) | (refine GiO ?_; first | (refine ZgO [0, 1, 2, 3, 4, 5, 6, 7, 8] ?_; refine ZO1 _ 9 [0, 1, 2, 3, 4, 5, 6, 7, 8, 9] ?_) | (refine ZgO [0, 1, 2, 3, 4, 5, 6, 7, 8, 9] ?_; refine ZO1 _ 10 [0, 1, 2, 3, 4, 5, 6, 7, 8, 9, 10] ?_) | (refine ZgO [0, 1, 2, 3, 4, 5, 6, 7, 8, 9, 10] ?_; refine ZOd _ ?_; (try with_reducible apply noP_normal); (try with_reducible exact key.out))) | (refine AWalk_0 ?_) | (with_reducible apply QAny_normal) | (with_reducible apply QC_normal))
        all_goals exact hC.nor () _ _ .nil (by repeat (first | exact Off.frame rfl | exact Off.refl _ _ | refine Off.frameT rfl rfl ?_ | refine Off.upd rfl ?_ | refine Off.updO rfl ?_)) (by repeat (first | exact Sub.nil | exact Sub.refl _ | assumption | exact Sub.left | apply Sub.svK | apply Sub.sv | apply Sub.cons | apply Sub.app)) trivial
      intro _ j7 _
      repeat' (first | (refine GiP ?_; first | (refine Znh ?_) | (with_reducible refine Znl ?_)) | (refine GiW ?_; first | (refine Zsq fun K hK => ?_) | (refine ZrN 8 fun _ => ?_; refine Zv Zf0 ?_; refine Zv Zld ?_; refine Zv Zmi ?_; refine Zv Zxmin ?_; refine Zv Zfa ?_; refine Zv Zld ?_; refine Zv Zmi ?_; refine Zv Zxmax ?_; refine Zcl (Enters_fn rfl) (h21 _ _ _) ?_; refine Zst ?_) | (refine ZrN 9 fun _ => ?_; refine Zv Zmi ?_; refine Zv Zld ?_; refine Zv Zyneq ?_) | (refine ZrN 10 fun _ => ?_; refine Zv Zai ?_; refine Zv Zai ?_) | (refine ZrN 11 fun _ => ?_; refine Zv Zf0 ?_; refine Zv Zld ?_; refine Zv Zmi ?_; refine Zv Zxmin ?_; refine Zv Zfa ?_; refine Zv Zld ?_; refine Zv Zmi ?_; refine Zv Zxmax ?_; refine Zcl (Enters_fn rfl) (h21 _ _ _) ?_; refine Zst ?_) | (refine WP_cond_true rfl ?_)))
      exact QBody_end0 rfl ⟨_, (by rw [if_neg hnb2]; exact Wk.svD (Wk.refl _)), _, rfl, rfl, rfl⟩
    | some z =>
      rw [hxa] at hto
      have hto2 : z = to := hto
      have hcz0 : codeO (some z) = (z : Int) := rfl
      subst hto2
      have hzl := (hdn a z hxa).1
      by_cases hnb2 : z = b
      · repeat' (first | (refine Znh ?_) | (refine GiW ?_; first | (refine Zsq fun K hK => ?_) | (refine ZrN 2 fun _ => ?_; refine Zv Zmv ?_; refine Zv Zmi ?_; refine Zv Zia ?_; (first | (refine Zv (Val_loadD1 rfl (hcy _ Wk.sv0)) ?_) | (refine Zv Zld ?_)); refine Zv Zygeq ?_) | (refine ZrN 4 fun _ => ?_; refine Zv Zmi ?_; refine Zv Zylss ?_) | (refine WP_cond_false rfl ?_) | (with_reducible apply WP_skip) | (with_reducible apply WP_exit)) | (refine Zhn ?_) | (refine Zhx ?_) | (with_reducible apply QBlock_hit) | (with_reducible apply QLoop_exit))
        refine WP_joinS (by assumption) [16, 17, 38, 39, 40, 41, 42, 43, 44, 45, 46, 47, 48, 49] (fun _ : Unit => [(16, .int .i64 wl), (17, .int .i64 wu)]) (fun _ => svH 3 1 g.d.banks.length (ints (cdL g.d.banks.length nx)) s20 ((b39, Blk 35 [.int .i64 we1, .int .i64 we2]) :: (b38, Blk 35 [.int .i64 al1, .int .i64 al2]) :: (b37, Blk 4 [.bool sm]) :: (b36, Blk 3 [.int .i64 (en : Int)]) :: (b35, Blk 3 [.int .i64 (cn : Int)]) :: X)) (fun _ => True) ?_ ?_
        · intro K' hC
          repeat' (first | (refine GiP ?_; first | (with_reducible refine Znl ?_) | (refine Zatd 40 ?_; refine OPS_retKS (Enters_fn rfl) hwl2 rfl rfl rfl (fun v40 L40 h40 => ?_); obtain ⟨b40, rfl, rfl⟩ := h40) | (refine Zatd 42 ?_; refine Zv Zia ?_) | (refine Zatd 43 ?_; refine Zv Zld ?_) | (refine Zatd 46 ?_; refine OPS_retKS (Enters_fn rfl) (hwt2 b40) rfl rfl rfl (fun v46 L46 h46 => ?_); obtain ⟨b46, rfl, rfl⟩ := h46) | (refine Zatd 48 ?_; refine Zv Zia ?_) | (refine Zatd 49 ?_; refine Zv Zld ?_) | (refine Zatd 16 ?_; refine Zv Zai ?_) | (refine Zatd 17 ?_; refine Zv Zai ?_)) | (refine WP_drawnS (id := 6) [3, 6, 7, 9] [0, 1, 3, 6, 7, 9] [] [41, 44, 45, 47] (k := 7) (k2 := 1) (by repeat (first | apply Sub.sv | apply Sub.keep | apply Sub.appK | exact Sub.refl _)) (by kernel_rfl) prog_mixed (by kernel_rfl) (by kernel_rfl) rfl ?_; refine Zew rfl Zmv ?_; refine Zew rfl Zld ?_; refine Zew rfl Zld ?_; refine Zew rfl Zmv ?_; refine Zew rfl Zld ?_; refine Zew rfl Zld ?_) | (with_reducible apply EWalk_nil) | (refine GiC ?_; first | (refine ZgC [0, 1, 3, 6, 7, 9] ?_; refine ZC1 _ 2 [0, 1, 3, 6, 7, 9, 2] ?_) | (refine ZgC [0, 1, 3, 6, 7, 9, 2] ?_; refine ZC2 _ 4 [0, 1, 3, 6, 7, 9, 2, 4] 8 [0, 1, 3, 6, 7, 9, 2, 8] ?_ ?_) | (refine ZgC [0, 1, 3, 6, 7, 9, 2, 4] ?_; refine ZC2 _ 5 [0, 1, 3, 6, 7, 9, 2, 4, 5] 8 [0, 1, 3, 6, 7, 9, 2, 4, 8] ?_ ?_) | (refine ZgC [0, 1, 3, 6, 7, 9, 2, 4, 5] ?_; refine ZC1 _ 8 [0, 1, 3, 6, 7, 9, 2, 4, 5, 8] ?_) | (refine ZgC [0, 1, 3, 6, 7, 9, 2, 4, 5, 8] ?_; refine ZC2 _ 10 [0, 1, 3, 6, 7, 9, 2, 4, 5, 8, 10] 12 [0, 1, 3, 6, 7, 9, 2, 4, 5, 8, 12] ?_ ?_) | (refine ZgC [0, 1, 3, 6, 7, 9, 2, 4, 5, 8, 10] ?_; refine ZC2 _ 11 [0, 1, 3, 6, 7, 9, 2, 4, 5, 8, 10, 11] 12 [0, 1, 3, 6, 7, 9, 2, 4, 5, 8, 10, 12] ?_ ?_) | (refine ZgC [0, 1, 3, 6, 7, 9, 2, 4, 5, 8, 10, 11] ?_; refine ZC1 _ 12 [0, 1, 3, 6, 7, 9, 2, 4, 5, 8, 10, 11, 12] ?_) | (refine ZgC [0, 1, 3, 6, 7, 9, 2, 4, 5, 8, 10, 11, 12] ?_; refine ZCl _ ?_) | (refine ZgC [0, 1, 3, 6, 7, 9, 2, 4, 5, 8, 10, 12] ?_; refine ZC1 _ 11 [0, 1, 3, 6, 7, 9, 2, 4, 5, 8, 10, 11, 12] ?_) | (refine ZgC [0, 1, 3, 6, 7, 9, 2, 4, 5, 8, 12] ?_; refine ZC1 _ 10 [0, 1, 3, 6, 7, 9, 2, 4, 5, 8, 10, 12] ?_) | (refine ZgC [0, 1, 3, 6, 7, 9, 2, 4, 8] ?_; refine ZC2 _ 5 [0, 1, 3, 6, 7, 9, 2, 4, 5, 8] 10 [0, 1, 3, 6, 7, 9, 2, 4, 8, 10] ?_ ?_) | (refine ZgC [0, 1, 3, 6, 7, 9, 2, 4, 8, 10] ?_; refine ZC2 _ 5 [0, 1, 3, 6, 7, 9, 2, 4, 5, 8, 10] 11 [0, 1, 3, 6, 7, 9, 2, 4, 8, 10, 11] ?_ ?_) | (refine ZgC [0, 1, 3, 6, 7, 9, 2, 4, 8, 10, 11] ?_; refine ZC1 _ 5 [0, 1, 3, 6, 7, 9, 2, 4, 5, 8, 10, 11] ?_) | (refine ZgC [0, 1, 3, 6, 7, 9, 2, 8] ?_; refine ZC2 _ 4 [0, 1, 3, 6, 7, 9, 2, 4, 8] 10 [0, 1, 3, 6, 7, 9, 2, 8, 10] ?_ ?_) | (refine ZgC [0, 1, 3, 6, 7, 9, 2, 8, 10] ?_; refine ZC2 _ 4 [0, 1, 3, 6, 7, 9, 2, 4, 8, 10] 11 [0, 1, 3, 6, 7, 9, 2, 8, 10, 11] ?_ ?_) | (refine ZgC [0, 1, 3, 6, 7, 9, 2, 8, 10, 11] ?_; refine ZC1 _ 4 [0, 1, 3, 6, 7, 9, 2, 4, 8, 10, 11] ?_)) | (refine GiO ?_; first | (refine ZgO [0, 1, 3, 6, 7, 9, 2, 4, 5, 8, 10, 11, 12] ?_; refine ZO1 _ 13 [0, 1, 3, 6, 7, 9, 2, 4, 5, 8, 10, 11, 12, 13] ?_) | (refine ZgO [0, 1, 3, 6, 7, 9, 2, 4, 5, 8, 10, 11, 12, 13] ?_; refine ZOd _ ?_; (try with_reducible apply noP_normal); (try with_reducible exact key.out))) | (refine AWalk_0 ?_) | (with_reducible apply QAny_normal) | (with_reducible apply QC_normal))
          all_goals exact hC.nor () _ _ (.cons rfl (.cons rfl .nil)) (by repeat (first | exact Off.frame rfl | exact Off.refl _ _ | refine Off.frameT rfl rfl ?_ | refine Off.upd rfl ?_ | refine Off.updO rfl ?_)) (by repeat (first | exact Sub.nil | exact Sub.refl _ | assumption | exact Sub.left | apply Sub.svK | apply Sub.sv | apply Sub.cons | apply Sub.app)) trivial
        intro _ j6 _
        refine Zsq fun K7 hK7 => ?_
        refine WP_joinS (by assumption) [50, 51, 52, 53, 54, 55, 56, 57] (fun _ : Unit => []) (fun _ => svH 3 1 g.d.banks.length (ints (cdL g.d.banks.length nx)) s20 ((b39, Blk 35 [.int .i64 we1, .int .i64 we2]) :: (b38, Blk 35 [.int .i64 al1, .int .i64 al2]) :: (b37, Blk 4 [.bool true]) :: (b36, Blk 3 [.int .i64 ((en ||| 2 ^ en2 : Nat) : Int)]) :: (b35, Blk 3 [.int .i64 ((cn ||| 2 ^ z : Nat) : Int)]) :: X)) (fun _ => True) ?_ ?_
        · intro K' hC
          repeat' (first | (refine GiP ?_; first | (with_reducible refine Znl ?_) | (refine Zatn ?_; refine Zst ?_)) | (refine WP_drawnQ (id := 7) ((b39, Blk 35 [.int .i64 we1, .int .i64 we2]) :: (b38, Blk 35 [.int .i64 al1, .int .i64 al2]) :: (b37, Blk 4 [.bool sm]) :: (b36, Blk 3 [.int .i64 (en : Int)]) :: X) [4, 5, 6, 7] [0, 1, 2, 3, 4, 5, 6, 7] [] [54, 55, 56, 57] (k := 1) (k2 := 2) (by kernel_rfl) prog_mixed (by kernel_rfl) (by kernel_rfl) rfl ?_; (first | refine ZqY rfl Zld ?_ | refine ZqB rfl Zld ?_); (first | refine ZqY rfl Zmi ?_ | refine ZqB rfl Zmi ?_); (first | refine ZqY rfl (Val_shlS rfl rfl (by omega)) ?_ | refine ZqB rfl (Val_shlS rfl rfl (by omega)) ?_); (first | ((first | refine ZqY rfl (Val_orS rfl rfl (by omega) hp1) ?_ | refine ZqB rfl (Val_orS rfl rfl (by omega) hp1) ?_)) | ((first | refine ZqY rfl (Val_orS rfl rfl (by omega) hp2) ?_ | refine ZqB rfl (Val_orS rfl rfl (by omega) hp2) ?_))); (first | refine ZqY rfl Zld ?_ | refine ZqB rfl Zld ?_); (first | refine ZqY rfl Zmi ?_ | refine ZqB rfl Zmi ?_); (first | refine ZqY rfl (Val_shlS rfl rfl (by omega)) ?_ | refine ZqB rfl (Val_shlS rfl rfl (by omega)) ?_); (first | ((first | refine ZqY rfl (Val_orS rfl rfl (by omega) hp1) ?_ | refine ZqB rfl (Val_orS rfl rfl (by omega) hp1) ?_)) | ((first | refine ZqY rfl (Val_orS rfl rfl (by omega) hp2) ?_ | refine ZqB rfl (Val_orS rfl rfl (by omega) hp2) ?_)))) | (with_reducible apply EWalkQ_nil) | (refine GiC ?_; first | (refine ZgC [0, 1, 2, 3, 4, 5, 6, 7] ?_; refine ZC1 _ 8 [0, 1, 2, 3, 4, 5, 6, 7, 8] ?_) | (refine ZgC [0, 1, 2, 3, 4, 5, 6, 7, 8] ?_; refine ZCl _ ?_)) | (refine GiO ?_; first | (refine ZgO [0, 1, 2, 3, 4, 5, 6, 7, 8] ?_; refine ZO1 _ 9 [0, 1, 2, 3, 4, 5, 6, 7, 8, 9] ?_) | (refine ZgO [0, 1, 2, 3, 4, 5, 6, 7, 8, 9] ?_; refine ZO1 _ 10 [0, 1, 2, 3, 4, 5, 6, 7, 8, 9, 10] ?_) | (refine ZgO [0, 1, 2, 3, 4, 5, 6, 7, 8, 9, 10] ?_; refine ZOd _ ?_; (try with_reducible apply noP_normal); (try with_reducible exact key.out))) | (refine AWalk_0 ?_) | (with_reducible apply QAny_normal) | (with_reducible apply QC_normal))
          all_goals exact hC.nor () _ _ .nil (by repeat (first | exact Off.frame rfl | exact Off.refl _ _ | refine Off.frameT rfl rfl ?_ | refine Off.upd rfl ?_ | refine Off.updO rfl ?_)) (by repeat (first | exact Sub.nil | exact Sub.refl _ | assumption | exact Sub.left | apply Sub.svK | apply Sub.sv | apply Sub.cons | apply Sub.app)) trivial
        intro _ j7 _
        repeat' (first | (refine GiP ?_; first | (refine Znh ?_) | (with_reducible refine Znl ?_)) | (refine GiW ?_; first | (refine Zsq fun K hK => ?_) | (refine ZrN 8 fun _ => ?_; refine Zv Zf0 ?_; refine Zv Zld ?_; refine Zv Zmi ?_; refine Zv Zxmin ?_; refine Zv Zfa ?_; refine Zv Zld ?_; refine Zv Zmi ?_; refine Zv Zxmax ?_; refine Zcl (Enters_fn rfl) (h21 _ _ _) ?_; refine Zst ?_) | (refine ZrN 9 fun _ => ?_; refine Zv Zmi ?_; refine Zv Zld ?_; refine Zv Zyneq ?_) | (refine ZrN 11 fun _ => ?_; refine Zv Zf0 ?_; refine Zv Zld ?_; refine Zv Zmi ?_; refine Zv Zxmin ?_; refine Zv Zfa ?_; refine Zv Zld ?_; refine Zv Zmi ?_; refine Zv Zxmax ?_; refine Zcl (Enters_fn rfl) (h21 _ _ _) ?_; refine Zst ?_) | (refine WP_cond_false rfl ?_) | (with_reducible apply WP_skip)) | (refine Zhn ?_))
        exact QBody_end0 rfl ⟨_, (by rw [if_pos hnb2]; exact Wk.svD (Wk.refl _)), _, rfl, rfl, rfl⟩
      · repeat' (first | (refine Znh ?_) | (refine GiW ?_; first | (refine Zsq fun K hK => ?_) | (refine ZrN 2 fun _ => ?_; refine Zv Zmv ?_; refine Zv Zmi ?_; refine Zv Zia ?_; (first | (refine Zv (Val_loadD1 rfl (hcy _ Wk.sv0)) ?_) | (refine Zv Zld ?_)); refine Zv Zygeq ?_) | (refine ZrN 4 fun _ => ?_; refine Zv Zmi ?_; refine Zv Zylss ?_) | (refine WP_cond_false rfl ?_) | (with_reducible apply WP_skip) | (with_reducible apply WP_exit)) | (refine Zhn ?_) | (refine Zhx ?_) | (with_reducible apply QBlock_hit) | (with_reducible apply QLoop_exit))
        refine WP_joinS (by assumption) [16, 17, 38, 39, 40, 41, 42, 43, 44, 45, 46, 47, 48, 49] (fun _ : Unit => [(16, .int .i64 wl), (17, .int .i64 wu)]) (fun _ => svH 3 1 g.d.banks.length (ints (cdL g.d.banks.length nx)) s20 ((b39, Blk 35 [.int .i64 we1, .int .i64 we2]) :: (b38, Blk 35 [.int .i64 al1, .int .i64 al2]) :: (b37, Blk 4 [.bool sm]) :: (b36, Blk 3 [.int .i64 (en : Int)]) :: (b35, Blk 3 [.int .i64 (cn : Int)]) :: X)) (fun _ => True) ?_ ?_
        · intro K' hC
          repeat' (first | (refine GiP ?_; first | (with_reducible refine Znl ?_) | (refine Zatd 40 ?_; refine OPS_retKS (Enters_fn rfl) hwl2 rfl rfl rfl (fun v40 L40 h40 => ?_); obtain ⟨b40, rfl, rfl⟩ := h40) | (refine Zatd 42 ?_; refine Zv Zia ?_) | (refine Zatd 43 ?_; refine Zv Zld ?_) | (refine Zatd 46 ?_; refine OPS_retKS (Enters_fn rfl) (hwt2 b40) rfl rfl rfl (fun v46 L46 h46 => ?_); obtain ⟨b46, rfl, rfl⟩ := h46) | (refine Zatd 48 ?_; refine Zv Zia ?_) | (refine Zatd 49 ?_; refine Zv Zld ?_) | (refine Zatd 16 ?_; refine Zv Zai ?_) | (refine Zatd 17 ?_; refine Zv Zai ?_)) | (refine WP_drawnS (id := 6) [3, 6, 7, 9] [0, 1, 3, 6, 7, 9] [] [41, 44, 45, 47] (k := 7) (k2 := 1) (by repeat (first | apply Sub.sv | apply Sub.keep | apply Sub.appK | exact Sub.refl _)) (by kernel_rfl) prog_mixed (by kernel_rfl) (by kernel_rfl) rfl ?_; refine Zew rfl Zmv ?_; refine Zew rfl Zld ?_; refine Zew rfl Zld ?_; refine Zew rfl Zmv ?_; refine Zew rfl Zld ?_; refine Zew rfl Zld ?_) | (with_reducible apply EWalk_nil) | (refine GiC ?_; first | (refine ZgC [0, 1, 3, 6, 7, 9] ?_; refine ZC1 _ 2 [0, 1, 3, 6, 7, 9, 2] ?_) | (refine ZgC [0, 1, 3, 6, 7, 9, 2] ?_; refine ZC2 _ 4 [0, 1, 3, 6, 7, 9, 2, 4] 8 [0, 1, 3, 6, 7, 9, 2, 8] ?_ ?_) | (refine ZgC [0, 1, 3, 6, 7, 9, 2, 4] ?_; refine ZC2 _ 5 [0, 1, 3, 6, 7, 9, 2, 4, 5] 8 [0, 1, 3, 6, 7, 9, 2, 4, 8] ?_ ?_) | (refine ZgC [0, 1, 3, 6, 7, 9, 2, 4, 5] ?_; refine ZC1 _ 8 [0, 1, 3, 6, 7, 9, 2, 4, 5, 8] ?_) | (refine ZgC [0, 1, 3, 6, 7, 9, 2, 4, 5, 8] ?_; refine ZC2 _ 10 [0, 1, 3, 6, 7, 9, 2, 4, 5, 8, 10] 12 [0, 1, 3, 6, 7, 9, 2, 4, 5, 8, 12] ?_ ?_) | (refine ZgC [0, 1, 3, 6, 7, 9, 2, 4, 5, 8, 10] ?_; refine ZC2 _ 11 [0, 1, 3, 6, 7, 9, 2, 4, 5, 8, 10, 11] 12 [0, 1, 3, 6, 7, 9, 2, 4, 5, 8, 10, 12] ?_ ?_) | (refine ZgC [0, 1, 3, 6, 7, 9, 2, 4, 5, 8, 10, 11] ?_; refine ZC1 _ 12 [0, 1, 3, 6, 7, 9, 2, 4, 5, 8, 10, 11, 12] ?_) | (refine ZgC [0, 1, 3, 6, 7, 9, 2, 4, 5, 8, 10, 11, 12] ?_; refine ZCl _ ?_) | (refine ZgC [0, 1, 3, 6, 7, 9, 2, 4, 5, 8, 10, 12] ?_; refine ZC1 _ 11 [0, 1, 3, 6, 7, 9, 2, 4, 5, 8, 10, 11, 12] ?_) | (refine ZgC [0, 1, 3, 6, 7, 9, 2, 4, 5, 8, 12] ?_; refine ZC1 _ 10 [0, 1, 3, 6, 7, 9, 2, 4, 5, 8, 10, 12] ?_) | (refine ZgC [0, 1, 3, 6, 7, 9, 2, 4, 8] ?_; refine ZC2 _ 5 [0, 1, 3, 6, 7, 9, 2, 4, 5, 8] 10 [0, 1, 3, 6, 7, 9, 2, 4, 8, 10] ?_ ?_) | (refine ZgC [0, 1, 3, 6, 7, 9, 2, 4, 8, 10] ?_; refine ZC2 _ 5 [0, 1, 3, 6, 7, 9, 2, 4, 5, 8, 10] 11 [0, 1, 3, 6, 7, 9, 2, 4, 8, 10, 11] ?_ ?_) | (refine ZgC [0, 1, 3, 6, 7, 9, 2, 4, 8, 10, 11] ?_; refine ZC1 _ 5 [0, 1, 3, 6, 7, 9, 2, 4, 5, 8, 10, 11] ?_) | (refine ZgC [0, 1, 3, 6, 7, 9, 2, 8] ?_; refine ZC2 _ 4 [0, 1, 3, 6, 7, 9, 2, 4, 8] 10 [0, 1, 3, 6, 7, 9, 2, 8, 10] ?_ ?_) | (refine ZgC [0, 1, 3, 6, 7, 9, 2, 8, 10] ?_; refine ZC2 _ 4 [0, 1, 3, 6, 7, 9, 2, 4, 8, 10] 11 [0, 1, 3, 6, 7, 9, 2, 8, 10, 11] ?_ ?_) | (refine ZgC [0, 1, 3, 6, 7, 9, 2, 8, 10, 11] ?_; refine ZC1 _ 4 [0, 1, 3, 6, 7, 9, 2, 4, 8, 10, 11] ?_)) | (refine GiO ?_; first | (refine ZgO [0, 1, 3, 6, 7, 9, 2, 4, 5, 8, 10, 11, 12] ?_; refine ZO1 _ 13 [0, 1, 3, 6, 7, 9, 2, 4, 5, 8, 10, 11, 12, 13] ?_) | (refine ZgO [0, 1, 3, 6, 7, 9, 2, 4, 5, 8, 10, 11, 12, 13] ?_; refine ZOd _ ?_; (try with_reducible apply noP_normal); (try with_reducible exact key.out))) | (refine AWalk_0 ?_) | (with_reducible apply QAny_normal) | (with_reducible apply QC_normal))
          all_goals exact hC.nor () _ _ (.cons rfl (.cons rfl .nil)) (by repeat (first | exact Off.frame rfl | exact Off.refl _ _ | refine Off.frameT rfl rfl ?_ | refine Off.upd rfl ?_ | refine Off.updO rfl ?_)) (by repeat (first | exact Sub.nil | exact Sub.refl _ | assumption | exact Sub.left | apply Sub.svK | apply Sub.sv | apply Sub.cons | apply Sub.app)) trivial
        intro _ j6 _
        refine Zsq fun K7 hK7 => ?_
        refine WP_joinS (by assumption) [50, 51, 52, 53, 54, 55, 56, 57] (fun _ : Unit => []) (fun _ => svH 3 1 g.d.banks.length (ints (cdL g.d.banks.length nx)) s20 ((b39, Blk 35 [.int .i64 we1, .int .i64 we2]) :: (b38, Blk 35 [.int .i64 al1, .int .i64 al2]) :: (b37, Blk 4 [.bool true]) :: (b36, Blk 3 [.int .i64 ((en ||| 2 ^ en2 : Nat) : Int)]) :: (b35, Blk 3 [.int .i64 ((cn ||| 2 ^ z : Nat) : Int)]) :: X)) (fun _ => True) ?_ ?_
        · intro K' hC
          repeat' (first | (refine GiP ?_; first | (with_reducible refine Znl ?_) | (refine Zatn ?_; refine Zst ?_)) | (refine WP_drawnQ (id := 7) ((b39, Blk 35 [.int .i64 we1, .int .i64 we2]) :: (b38, Blk 35 [.int .i64 al1, .int .i64 al2]) :: (b37, Blk 4 [.bool sm]) :: (b36, Blk 3 [.int .i64 (en : Int)]) :: X) [4, 5, 6, 7] [0, 1, 2, 3, 4, 5, 6, 7] [] [54, 55, 56, 57] (k := 1) (k2 := 2) (by kernel_rfl) prog_mixed (by kernel_rfl) (by kernel_rfl) rfl ?_; (first | refine ZqY rfl Zld ?_ | refine ZqB rfl Zld ?_); (first | refine ZqY rfl Zmi ?_ | refine ZqB rfl Zmi ?_); (first | refine ZqY rfl (Val_shlS rfl rfl (by omega)) ?_ | refine ZqB rfl (Val_shlS rfl rfl (by omega)) ?_); (first | ((first | refine ZqY rfl (Val_orS rfl rfl (by omega) hp1) ?_ | refine ZqB rfl (Val_orS rfl rfl (by omega) hp1) ?_)) | ((first | refine ZqY rfl (Val_orS rfl rfl (by omega) hp2) ?_ | refine ZqB rfl (Val_orS rfl rfl (by omega) hp2) ?_))); (first | refine ZqY rfl Zld ?_ | refine ZqB rfl Zld ?_); (first | refine ZqY rfl Zmi ?_ | refine ZqB rfl Zmi ?_); (first | refine ZqY rfl (Val_shlS rfl rfl (by omega)) ?_ | refine ZqB rfl (Val_shlS rfl rfl (by omega)) ?_); (first | ((first | refine ZqY rfl (Val_orS rfl rfl (by omega) hp1) ?_ | refine ZqB rfl (Val_orS rfl rfl (by omega) hp1) ?_)) | ((first | refine ZqY rfl (Val_orS rfl rfl (by omega) hp2) ?_ | refine ZqB rfl (Val_orS rfl rfl (by omega) hp2) ?_)))) | (with_reducible apply EWalkQ_nil) | (refine GiC ?_; first | (refine ZgC [0, 1, 2, 3, 4, 5, 6, 7] ?_; refine ZC1 _ 8 [0, 1, 2, 3, 4, 5, 6, 7, 8] ?_) | (refine ZgC [0, 1, 2, 3, 4, 5, 6, 7, 8] ?_; refine ZCl _ ?_)) | (refine GiO ?_; first | (refine ZgO [0, 1, 2, 3, 4, 5, 6, 7, 8] ?_; refine ZO1 _ 9 [0, 1, 2, 3, 4, 5, 6, 7, 8, 9] ?_) | (refine ZgO [0, 1, 2, 3, 4, 5, 6, 7, 8, 9] ?_; refine ZO1 _ 10 [0, 1, 2, 3, 4, 5, 6, 7, 8, 9, 10] ?_) | (refine ZgO [0, 1, 2, 3, 4, 5, 6, 7, 8, 9, 10] ?_; refine ZOd _ ?_; (try with_reducible apply noP_normal); (try with_reducible exact key.out))) | (refine AWalk_0 ?_) | (with_reducible apply QAny_normal) | (with_reducible apply QC_normal))
          all_goals exact hC.nor () _ _ .nil (by repeat (first | exact Off.frame rfl | exact Off.refl _ _ | refine Off.frameT rfl rfl ?_ | refine Off.upd rfl ?_ | refine Off.updO rfl ?_)) (by repeat (first | exact Sub.nil | exact Sub.refl _ | assumption | exact Sub.left | apply Sub.svK | apply Sub.sv | apply Sub.cons | apply Sub.app)) trivial
        intro _ j7 _
        repeat' (first | (refine GiP ?_; first | (refine Znh ?_) | (with_reducible refine Znl ?_)) | (refine GiW ?_; first | (refine Zsq fun K hK => ?_) | (refine ZrN 8 fun _ => ?_; refine Zv Zf0 ?_; refine Zv Zld ?_; refine Zv Zmi ?_; refine Zv Zxmin ?_; refine Zv Zfa ?_; refine Zv Zld ?_; refine Zv Zmi ?_; refine Zv Zxmax ?_; refine Zcl (Enters_fn rfl) (h21 _ _ _) ?_; refine Zst ?_) | (refine ZrN 9 fun _ => ?_; refine Zv Zmi ?_; refine Zv Zld ?_; refine Zv Zyneq ?_) | (refine ZrN 10 fun _ => ?_; refine Zv Zai ?_; refine Zv Zai ?_) | (refine ZrN 11 fun _ => ?_; refine Zv Zf0 ?_; refine Zv Zld ?_; refine Zv Zmi ?_; refine Zv Zxmin ?_; refine Zv Zfa ?_; refine Zv Zld ?_; refine Zv Zmi ?_; refine Zv Zxmax ?_; refine Zcl (Enters_fn rfl) (h21 _ _ _) ?_; refine Zst ?_) | (refine WP_cond_true rfl ?_)))
        exact QBody_end0 rfl ⟨_, (by rw [if_neg hnb2]; exact Wk.svD (Wk.refl _)), _, rfl, rfl, rfl⟩
end
end Go.Proofs.Ytbhgpnbfdjoglaa
end

section
namespace Go.Proofs.Ytbhgpnbfdjoglaa
open Go.RowKit
def endsB (d : Dr) (a b b35 b36 b37 b38 b39 : Nat) (L : Hp) (k : Nat) : Hp := (b39, Blk 35 [.int .i64 (wentK d a b k).1, .int .i64 (wentK d a b k).2]) :: (b38, Blk 35 [.int .i64 (allK d a k).1, .int .i64 (allK d a k).2]) :: (b37, Blk 4 [.bool (someK d k)]) :: (b36, Blk 3 [.int .i64 ((lastK d a k : Nat) : Int)]) :: (b35, Blk 3 [.int .i64 ((canK d a k : Nat) : Int)]) :: L
attribute [local irreducible] AnyO AnyB QAny QB EWalk AWalk Ev WP OPS QThen QBlock QScope QLoop QBody Val New Turn Tri Enters PostA Blk Ro
attribute [local irreducible] AnyC QC
section
variable (N : Nat) (w0 : World)
theorem ends_on (g : Fg) (hA : DrAt N w0 g) (hv : VD g.d) (a b : Nat) (ha : a < g.d.banks.length) (hb : b < g.d.banks.length) (bd ba bn bl bu bb b35 b36 b37 b38 b39 : Nat) (L : Hp) (md : Mem bd (Blk 29 (drL g)) L) (ma : Mem ba (Blk 3 [.int .i64 (a : Int)]) L) (mb : Mem bb (Blk 3 [.int .i64 (b : Int)]) L) (mn : Mem bn (Blk 3 [.int .i64 (g.d.banks.length : Int)]) L)
    (Au : Option Addr) (cu : Nat) (mu : Mem bu (Blk 47 [.slice Au g.d.banks.length cu]) L) (hru : ∀ L', Sub L L' → RdI N w0 L' Au (upsL g.d)) (Al : Option Addr) (cl : Nat) (ml : Mem bl (Blk 47 [.slice Al g.d.banks.length cl]) L) (hrl : ∀ L', Sub L L' → RdI N w0 L' Al (lwsL g.d)) :
    OnOK N w0 g.d (endsB g.d a b b35 b36 b37 b38 b39 L) 31 [.pointer (some ⟨bd, 0, none⟩), .pointer (some ⟨ba, 0, none⟩), .pointer (some ⟨bn, 0, none⟩), .pointer (some ⟨bl, 0, none⟩), .pointer (some ⟨bu, 0, none⟩), .pointer (some ⟨b35, 0, none⟩), .pointer (some ⟨b36, 0, none⟩), .pointer (some ⟨b37, 0, none⟩), .pointer (some ⟨b38, 0, none⟩), .pointer (some ⟨bb, 0, none⟩), .pointer (some ⟨b39, 0, none⟩)] where
  on := by
    intro k hk hr F A c hrd
    have hSL : Sub L (F ++ L) := .app F (Sub.refl _)
    have := ends1_core N w0 g hA hv a b ha hb bd ba bn bl bu bb b35 b36 b37 b38 b39 (F ++ L) (.app F md) (.app F ma) (.app F mb) (.app F mn) Au cu (.app F mu) (fun L' hL => hru L' (Sub.trans hSL hL)) Al cl (.app F ml) (fun L' hL => hrl L' (Sub.trans hSL hL)) (rowsD g.d)[k] (rowsD_len (List.getElem_mem hk)) A c (fun L' hL => hrd L' (Sub.trans .left hL)) (canK g.d a k) (lastK g.d a k) (canK_lt hv a k) (lastK_lt hv ha k) (someK g.d k) (allK g.d a k).1 (allK g.d a k).2 (wentK g.d a b k).1 (wentK g.d a b k).2
    obtain ⟨e1, e2, e3, e4, e5⟩ := K_yes (a := a) (b := b) hk hr
    have hp : ∀ x1 x2 x3 x4 x5 : Nat × (Obj → Prop), (F ++ (x1 :: x2 :: x3 :: x4 :: x5 :: L)).Perm (x1 :: x2 :: x3 :: x4 :: x5 :: (F ++ L)) := fun x1 x2 x3 x4 x5 => List.perm_append_comm_assoc F [x1, x2, x3, x4, x5] L
    refine Tri.pm this (hp _ _ _ _ _) ?_
    rintro y L' ⟨v, rfl, rfl, rfl⟩
    refine ⟨_, (hp _ _ _ _ _).symm, rfl, ?_⟩
    unfold endsB
    rw [e1, e2, e3, e4, e5]
  no := by
    intro k hk hr
    obtain ⟨e1, e2, e3, e4, e5⟩ := K_no (a := a) (b := b) hk hr
    unfold endsB
    rw [e1, e2, e3, e4, e5]
end
end Go.Proofs.Ytbhgpnbfdjoglaa
end
