/- The document's answer for drains: sets that are gone through; drains with one way more; rights that are broken. · The document's answer for drains: which must be stopped, what clashes. · The document's answer for drains: whether a drain may be dug. -/
import Derived.Test.YtbhgpnbfdjoglaaGreatZ6
section
namespace Go.Proofs.YtbhgpnbfdjoglaaGreat
open Go.RowKit
set_option maxRecDepth 100000 in
theorem pc_full : ∀ m, m < 8 → ∀ k, k < 2 ^ m → pc k ≤ pc (2 ^ m - 1) ∧ (pc k = pc (2 ^ m - 1) → k = 2 ^ m - 1) := by decide +kernel
/-- The best set of those below k. -/
structure Scan (p : Nat → Bool) (m k b : Nat) : Prop where
  lt : b < 2 ^ m
  ok : p b = true
  pl : b < k ∨ b = 2 ^ m - 1
  mn : ∀ y, y < k → p y = true → pc b < pc y ∨ (pc b = pc y ∧ b ≤ y)
theorem Scan.zero {p : Nat → Bool} {m : Nat} (h : p (2 ^ m - 1) = true) : Scan p m 0 (2 ^ m - 1) := ⟨by have := Nat.two_pow_pos m; omega, h, .inr rfl, fun y hy => absurd hy (by omega)⟩
theorem Scan.yes {p : Nat → Bool} {m k b : Nat} (h : Scan p m k b) (hk : k < 2 ^ m) (h1 : pc k < pc b) (h2 : p k = true) : Scan p m (k + 1) k := by
  refine ⟨hk, h2, .inl (by omega), fun y hy hp => ?_⟩
  by_cases e : y = k
  · subst e; exact .inr ⟨rfl, Nat.le_refl _⟩
  · rcases h.mn y (by omega) hp with h3 | h3
    · exact .inl (by omega)
    · exact .inl (by omega)
theorem Scan.no {p : Nat → Bool} {m k b : Nat} (hm : m < 8) (h : Scan p m k b) (hk : k < 2 ^ m) (h1 : pc k < pc b → p k = false) : Scan p m (k + 1) b := by
  refine ⟨h.lt, h.ok, by rcases h.pl with h | h; exact .inl (by omega); exact .inr h, fun y hy hp => ?_⟩
  by_cases e : y = k
  · subst e
    have h2 : ¬ pc y < pc b := fun h3 => by rw [h1 h3] at hp; cases hp
    by_cases h3 : pc b < pc y
    · exact .inl h3
    · right
      refine ⟨by omega, ?_⟩
      rcases h.pl with h4 | h4
      · omega
      · have := (pc_full m hm y hk).2 (by rw [← h4]; omega)
        omega
  · exact h.mn y (by omega) hp
theorem Scan.end_ {p : Nat → Bool} {m b x : Nat} (h : Scan p m (2 ^ m) b) (h1 : x < 2 ^ m) (h2 : p x = true) (h3 : ∀ y, y < 2 ^ m → p y = true → pc x ≤ pc y ∧ (pc y = pc x → x ≤ y)) : b = x := by
  have a := h.mn x h1 h2
  have c := h3 b h.lt h.ok
  omega
theorem pick_keep {α : Type} {x s : Nat} : ∀ (l : List α) (k : Nat), (∀ j, j < l.length → (x / 2 ^ (k + j) % 2 = 1 ↔ ¬ s / 2 ^ (k + j) % 2 = 1)) → pickL x l k = keepL s l k
  | [], _, _ => rfl
  | a :: l, k, h => by
    have h0 := h 0 (by simp)
    rw [Nat.add_zero] at h0
    have ih := pick_keep (x := x) (s := s) l (k + 1) fun j hj => by
      have := h (j + 1) (by simpa using hj)
      rw [show k + 1 + j = k + (j + 1) by omega]; exact this
    unfold pickL keepL
    by_cases hs : s / 2 ^ k % 2 = 1
    · rw [if_pos hs, if_neg (by rw [h0]; simp [hs]), ih]
    · rw [if_neg hs, if_pos (h0.2 hs), ih]
theorem pick_sub {d : Dr} {s : Nat} (hs : s < 2 ^ d.ways.length) : pickL (evD d - s) d.ways 0 = keepL s d.ways 0 := by
  refine pick_keep _ _ fun j hj => ?_
  rw [Nat.zero_add]
  have h1 : ∀ x : Nat, (x / 2 ^ j % 2 = 1) ↔ x.testBit j = true := fun x => by rw [Nat.testBit_eq_decide_div_mod_eq, decide_eq_true_eq]
  rw [h1, h1]
  unfold evD
  rw [show 2 ^ d.ways.length - 1 - s = 2 ^ d.ways.length - (s + 1) by omega, Nat.testBit_two_pow_sub_succ hs]
  simp [hj]
theorem only_all {d : Dr} (h : d.seen.length < 8) : onlyD d (2 ^ d.seen.length - 1) = d := by
  have := seen_every h
  unfold alD at this
  unfold onlyD
  rw [this]
theorem clash_some {d : Dr} (v : VD d) (h0 : someB d = false) : ∃ x, clashS d = some x ∧ x < 2 ^ d.seen.length ∧ (!someB (onlyD d x)) = true ∧ ∀ y, y < 2 ^ d.seen.length → (!someB (onlyD d y)) = true → pc x ≤ pc y ∧ (pc y = pc x → x ≤ y) := by
  have hns := v.ns
  have hm8 : d.seen.length < 8 := by omega
  have hpos := Nat.two_pow_pos d.seen.length
  cases hf : (setsL d.seen.length).find? (fun s => !someB (onlyD d s)) with
  | none =>
    have := sets_none hm8 hf (2 ^ d.seen.length - 1) (by omega)
    rw [only_all hm8, h0] at this
    cases this
  | some y =>
    obtain ⟨h1, h2, h3⟩ := sets_find hm8 hf
    refine ⟨y, hf, h2, h1, fun z hz hs => ?_⟩
    rcases h3 z hz hs with h | h
    · subst h; exact ⟨Nat.le_refl _, fun _ => Nat.le_refl _⟩
    · unfold LexLt at h; omega
theorem clash_none {d : Dr} (v : VD d) (h0 : someB d = true) : clashS d = none := by
  have hns := v.ns
  have hm8 : d.seen.length < 8 := by omega
  cases hf : clashS d with
  | none => rfl
  | some y =>
    obtain ⟨h1, h2, _⟩ := sets_find hm8 hf
    exfalso
    have h3 : someB (onlyD d y) = false := by simpa using h1
    rw [someB_no] at h3
    have h4 := someB_told.1 h0
    obtain ⟨lv, hlv⟩ := List.exists_mem_of_ne_nil _ h4
    obtain ⟨h5, h6⟩ := toldD_mem.1 hlv
    have : lv ∈ toldD (onlyD d y) := toldD_mem.2 ⟨h5, rightB_iff.2 fun w hw => rightB_iff.1 h6 w (pickL_sub y d.seen 0 w hw)⟩
    rw [h3] at this; cases this
def addW1 (d : Dr) (w : Sp) : Dr := { d with ways := d.ways ++ [w] }
theorem VD_addW {d : Dr} (v : VD d) {w : Sp} (hl : d.ways.length < 7) (hw : (0 ≤ w.1 ∧ w.1 < d.banks.length) ∧ (0 ≤ w.2 ∧ w.2 < d.banks.length) ∧ w.1 ≠ w.2) : VD (addW1 d w) where
  nb := v.nb
  nw := by show (d.ways ++ [w]).length ≤ 7; simp; omega
  nr := v.nr
  ns := v.ns
  bk := v.bk
  wy := by
    intro x hx
    rcases List.mem_append.1 hx with h | h
    · exact v.wy x h
    · rw [List.mem_singleton] at h; subst h; exact hw
  rt := v.rt
  se := v.se
theorem in_ways {N : Nat} {w0 : World} {g : Fg} (hin : ∀ L, DrainIn N w0 L g) (ls : List Sp) {s : Option (Nat × Nat)} {xs : List Value} (hx : xs = (ls.map spL).flatten) (hs : svOk s 2 ls.length xs) :
    ∃ A9 c9, svV s ls.length = .slice A9 ls.length c9 ∧ ∀ L', Sub (svH 45 2 ls.length xs s []) L' → DrainIn N w0 L' { g with d := { g.d with ways := ls }, A2 := A9, c2 := c9 } := by
  obtain ⟨A9, c9, e9, hsl⟩ := sl_sv (E := 45) (by omega) hs
  refine ⟨A9, c9, e9, fun L' hS w hI => ?_⟩
  obtain ⟨L0, hp⟩ := hS
  have hI2 := (hI.perm hp)
  rw [svH_nil] at hI2
  have hb := hin L' w hI
  exact ⟨hb.banks, hsl hI2 hx (map_len (f := spL) (fun _ => rfl) _), hb.rights, hb.seen⟩
theorem flowV_rt {d : Dr} (v : VD d) (h0 : someB d = true) {i : Nat} (hi : i < d.rights.length) : FlowV d d.rights[i].a d.rights[i].b = rtF d i ∧ errD d (twoB d.banks.length d.rights[i].a d.rights[i].b) = 0 ∧ rtM d i = d.rights[i].most := by
  have hr := v.rt d.rights[i] (List.getElem_mem hi)
  have h1 : twoB d.banks.length d.rights[i].a d.rights[i].b = true := by simp only [twoB, inN, Bool.and_eq_true, decide_eq_true_eq]; omega
  have h2 : errD d (twoB d.banks.length d.rights[i].a d.rights[i].b) = 0 := errD_1 (vB_of v) h1 h0
  refine ⟨?_, h2, by unfold rtM; rw [List.getElem?_eq_getElem hi]⟩
  unfold FlowV rtF
  rw [if_pos h2, List.getElem?_eq_getElem hi]
attribute [local irreducible] AnyO AnyB QAny QB EWalk AWalk Ev WP OPS QThen QBlock QScope QLoop QBody Val New Turn Tri Enters PostA Blk Ro
attribute [local irreducible] AnyC QC
section
variable (N : Nat) (w0 : World)
set_option maxHeartbeats 4000000 in
theorem rBreaks_ret (L : Hp) (g : Fg) (hA : DrAt N w0 g) (hf : farB g.d = false) :
    Ret Tryz.prog N w0 L 17 [drV g].toArray (.tuple [.int .i64 ((SureV g.d : Nat) : Int), .int .i64 ((PerhV g.d : Nat) : Int), .int .i64 (errD g.d true)].toArray) := by
  have hkn := fun L => known_ref N w0 L g hA hf true
  obtain ⟨e, he⟩ : ∃ e, errD g.d true = e := ⟨_, rfl⟩
  rw [he] at hkn ⊢
  by_cases h0 : e = 0
  · subst h0
    obtain ⟨hvb, _, hs0⟩ := errD_ok he
    have hv := VD_of hvb
    have hnr := hv.nr
    have z1 : SureV g.d = sureS g.d := by unfold SureV; rw [he, if_pos rfl]
    have z2 : PerhV g.d = perhS g.d := by unfold PerhV; rw [he, if_pos rfl]
    rw [z1, z2]
    unfold sureS perhS
    obtain ⟨f1, hf1⟩ : ∃ f : Nat → Bool, (fun i => decide (rtM g.d i < (rtF g.d i).1)) = f := ⟨_, rfl⟩
    obtain ⟨f2, hf2⟩ : ∃ f : Nat → Bool, (fun i => decide (rtM g.d i < (rtF g.d i).2)) = f := ⟨_, rfl⟩
    have hf1e : ∀ i, f1 i = decide (rtM g.d i < (rtF g.d i).1) := fun i => by rw [← hf1]
    have hf2e : ∀ i, f2 i = decide (rtM g.d i < (rtF g.d i).2) := fun i => by rw [← hf2]
    rw [hf1, hf2]
    have hfl := fun L a b => rFlow_ret N w0 L g hA hf a b
    refine Ret.fgt ?_
    refine tri_of_WP Tryz.func17 rfl (n := _) rfl (by simp) ?_
    unfold drV drL at hkn hfl ⊢
    repeat' (first | (refine Znh ?_) | (refine GiW ?_; first | (refine Zsq fun K hK => ?_) | (refine ZrN 0 fun _ => ?_; refine Zal 1 fun b1 => ?_; refine Zv Zai ?_; refine Zv Zai ?_; refine Zv Zai ?_) | (refine ZrN 1 fun _ => ?_; refine Zv Zla ?_; refine OPS_retKS (Enters_fn rfl) (hkn _) rfl rfl rfl (fun v15 L15 h15 => ?_); obtain ⟨A9, n9, c9, X9, rfl, rfl, _⟩ := h15; refine Zv Zmv ?_; refine Zv Zxex ?_; refine Zv Zxex ?_; refine Zv Zav ?_; refine Zv Zai ?_) | (refine ZrN 2 fun _ => ?_; refine Zv Zmi ?_; refine Zv Zyneq ?_) | (refine ZrN 4 fun _ => ?_; refine Zv Zai ?_; refine Zv Zai ?_) | (refine ZrN 5 fun _ => ?_; refine Zv Zai ?_) | (refine WP_cond_false rfl ?_) | (with_reducible apply WP_skip) | (with_reducible apply WP_block)) | (refine Zhn ?_))
    obtain ⟨H, hH⟩ : ∃ H, X9 ++ ((b1, Blk 26 [.slice g.A1 g.d.banks.length g.c1, .slice g.A2 g.d.ways.length g.c2, .slice g.A3 g.d.rights.length g.c3, .slice g.A4 g.d.seen.length g.c4]) :: L) = H := ⟨_, rfl⟩
    have m1 : Mem b1 (Blk 26 [.slice g.A1 g.d.banks.length g.c1, .slice g.A2 g.d.ways.length g.c2, .slice g.A3 g.d.rights.length g.c3, .slice g.A4 g.d.seen.length g.c4]) H := by rw [← hH]; exact .app X9 .here
    have hWH : Wk H L := by rw [← hH]; exact (Wk.app X9 _).trans (.drop (.refl _))
    rw [hH]
    refine WP_loop [7, 8, 9, 10, 11, 12, 21, 22, 23, 24, 25, 26, 27, 28, 29, 30, 31, 32, 33, 34, 35, 36, 37, 38, 39, 40, 41, 42, 43, 44, 45, 46, 47, 48, 49, 50, 51, 52, 53, 54, 55, 56, 57, 58, 59] (fun k : Nat => [(7, .int .i64 ((bitsOf f1 k : Nat) : Int)), (8, .int .i64 ((bitsOf f2 k : Nat) : Int)), (9, .int .i64 (k : Int))]) (fun _ => H) (fun k => k ≤ g.d.rights.length) (fun k => g.d.rights.length - k) 0 (.cons rfl (.cons rfl (.cons rfl .nil))) (Wk.refl _) (Nat.zero_le _) ?_
    intro k j hk
    by_cases hkl : k < g.d.rights.length
    · obtain ⟨bA, oA, hA1, hbA, hcA⟩ := hA.rights.row k hkl
      obtain ⟨q1, q2, q3⟩ := flowV_rt hv hs0 hkl
      have s1 : bitsOf f1 (k + 1) = bitsOf f1 k + if f1 k then 2 ^ k else 0 := rfl
      have s2 : bitsOf f2 (k + 1) = bitsOf f2 k + if f2 k then 2 ^ k else 0 := rfl
      have l1 := bitsOf_lt f1 k
      have l2 := bitsOf_lt f2 k
      have hp4 : 2 ^ k ≤ 2 ^ 4 := Nat.pow_le_pow_right (by omega) (by omega)
      have hpw := fun L => power_ret N w0 L k (by omega)
      rw [hf1e] at s1
      rw [hf2e] at s2
      rw [q3] at s1 s2
      have hfb := FlowV_bd g.d g.d.rights[k].a g.d.rights[k].b
      rw [← q1] at s1 s2
      obtain ⟨t, ht⟩ : ∃ t, g.d.rights[k] = t := ⟨_, rfl⟩
      rw [ht] at hcA s1 s2 q2 hfb
      have htb := hv.rt t (by rw [← ht]; exact List.getElem_mem hkl)
      have hfk := fun L => hfl L t.a t.b
      rw [q2] at hfk
      obtain ⟨⟨u1, u2⟩, hu⟩ : ∃ u, FlowV g.d t.a t.b = u := ⟨_, rfl⟩
      simp only [hu] at hfk s1 s2 hfb
      clear q1 q2 q3 hu
      obtain ⟨ta, tb, tm⟩ := t
      unfold rtL at hcA
      dsimp only at hcA s1 s2 hfk hfb htb
      obtain ⟨o1, ho1⟩ : ∃ o, bitsOf f1 k = o := ⟨_, rfl⟩
      obtain ⟨o2, ho2⟩ : ∃ o, bitsOf f2 k = o := ⟨_, rfl⟩
      obtain ⟨p, hp⟩ : ∃ p, 2 ^ k = p := ⟨_, rfl⟩
      rw [hp] at hpw hp4 s1 s2 l1 l2
      rw [ho1] at s1 l1 ⊢
      rw [ho2] at s2 l2 ⊢
      by_cases c1 : tm < u1 <;> by_cases c2 : tm < u2
      all_goals
        simp only [c1, c2, decide_true, decide_false, if_true, Bool.false_eq_true, if_false] at s1 s2
        repeat' (first | (refine GiP ?_; first | (refine Znh ?_) | (with_reducible refine Znl ?_)) | (refine GiW ?_; first | (refine Zsq fun K hK => ?_) | (refine ZrN 6 fun _ => ?_; refine Zv Zmi ?_; refine Zv Zfa ?_; refine Zv Zld ?_; refine Zv Zxlen ?_; refine Zv Zylss ?_) | (refine ZrN 8 fun _ => ?_; refine Zv Zfa ?_; refine Zv Zld ?_; refine Zv Zmi ?_; refine Zv Zia ?_; refine Zv Zla ?_; refine Zal 10 fun b10 => ?_; refine Zst ?_) | (refine ZrN 9 fun _ => ?_; refine Zv Zla ?_; refine Zv Zf0 ?_; refine Zv Zld ?_; refine Zv Zfa ?_; refine Zv Zld ?_; refine Zcl (Enters_fn rfl) (hfk _) ?_; refine Zv Zmv ?_; refine Zv Zxex ?_; refine Zv Zxex ?_; refine Zal 11 fun b11 => ?_; refine Zst ?_; refine Zv Zai ?_) | (refine ZrN 10 fun _ => ?_; refine Zv Zf0 ?_; refine Zv Zld ?_; refine Zv Zfa ?_; refine Zv Zld ?_; refine Zv Zygtr ?_) | (refine ZrN 11 fun _ => ?_; refine Zv Zmi ?_; refine Zv Zmi ?_; refine Zcl (Enters_fn rfl) (hpw _) ?_; refine Zv Zxadd ?_; refine Zv Zai ?_) | (refine ZrN 12 fun _ => ?_; refine Zv Zfa ?_; refine Zv Zld ?_; refine Zv Zfa ?_; refine Zv Zld ?_; refine Zv Zygtr ?_) | (refine ZrN 13 fun _ => ?_; refine Zv Zmi ?_; refine Zv Zmi ?_; refine Zcl (Enters_fn rfl) (hpw _) ?_; refine Zv Zxadd ?_; refine Zv Zai ?_) | (refine ZrN 7 fun _ => ?_; refine Zv Zmi ?_; refine Zv Zxadd ?_; refine Zv Zai ?_) | (refine WP_cond_true rfl ?_) | (refine WP_cond_false rfl ?_) | (with_reducible apply WP_skip) | (with_reducible apply WP_block)) | (refine Zhn ?_) | (with_reducible apply QBlock_normal))
        all_goals exact QLoop_normal (k + 1) (.cons (by first | (rw [s1]; done) | (rw [s1]; rfl)) (.cons (by first | (rw [s2]; done) | (rw [s2]; rfl)) (.cons rfl .nil))) (by repeat (first | exact Off.frame rfl | exact Off.refl _ _ | refine Off.frameT rfl rfl ?_ | refine Off.upd rfl ?_ | refine Off.updO rfl ?_)) (by repeat (first | exact Wk.refl _ | apply Wk.keep1 | apply Wk.drop | apply Wk.sv | apply Wk.svD | apply Wk.appD)) (by omega) (by omega)
    · have hke : k = g.d.rights.length := by omega
      rw [hke]
      repeat' (first | (refine Znh ?_) | (refine GiW ?_; first | (refine Zsq fun K hK => ?_) | (refine ZrN 6 fun _ => ?_; refine Zv Zmi ?_; refine Zv Zfa ?_; refine Zv Zld ?_; refine Zv Zxlen ?_; refine Zv Zylss ?_) | (refine ZrN 14 fun _ => ?_; refine Zv Zmi ?_; refine Zv Zmi ?_; refine Zv Zai ?_; refine Zv Zai ?_; refine Zv Zai ?_) | (refine WP_cond_false rfl ?_) | (with_reducible apply WP_exit) | (with_reducible apply WP_ret)) | (refine Zhn ?_) | (refine Zhx ?_) | (with_reducible apply QBlock_hit) | (with_reducible apply QLoop_exit))
      exact QBody_res rfl (.tmp (rfl : _ = Value.int _ _) (.tmp (rfl : _ = Value.int _ _) (.tmp (rfl : _ = Value.int _ _) .nil))) rfl ⟨rfl, hWH⟩
  · have z1 : SureV g.d = 0 := by unfold SureV; rw [he, if_neg h0]
    have z2 : PerhV g.d = 0 := by unfold PerhV; rw [he, if_neg h0]
    rw [z1, z2]
    have heb : 0 ≤ e ∧ e ≤ 10 := by rw [← he]; unfold errD; cases vB g.d <;> cases someB g.d <;> decide
    refine Ret.fgt ?_
    refine tri_of_WP Tryz.func17 rfl (n := _) rfl (by simp) ?_
    unfold drV drL at hkn ⊢
    repeat' (first | (refine Znh ?_) | (refine GiW ?_; first | (refine Zsq fun K hK => ?_) | (refine ZrN 0 fun _ => ?_; refine Zal 1 fun b1 => ?_; refine Zv Zai ?_; refine Zv Zai ?_; refine Zv Zai ?_) | (refine ZrN 1 fun _ => ?_; refine Zv Zla ?_; refine OPS_retKS (Enters_fn rfl) (hkn _) rfl rfl rfl (fun v15 L15 h15 => ?_); obtain ⟨A9, n9, c9, X9, rfl, rfl, _⟩ := h15; refine Zv Zmv ?_; refine Zv Zxex ?_; refine Zv Zxex ?_; refine Zv Zav ?_; refine Zv Zai ?_) | (refine ZrN 2 fun _ => ?_; refine Zv Zmi ?_; refine Zv Zyneq ?_) | (refine ZrN 3 fun _ => ?_; refine Zv Zmi ?_; refine Zv Zai ?_; refine Zv Zai ?_; refine Zv Zai ?_) | (refine WP_cond_true rfl ?_) | (with_reducible apply WP_ret)) | (refine Zhr ?_))
    all_goals exact QBody_res rfl (.tmp (rfl : _ = Value.int _ _) (.tmp (rfl : _ = Value.int _ _) (.tmp (rfl : _ = Value.int _ _) .nil))) rfl ⟨rfl, (Wk.app X9 _).trans (.drop (.refl _))⟩
end
end Go.Proofs.YtbhgpnbfdjoglaaGreat
end

section
namespace Go.Proofs.YtbhgpnbfdjoglaaGreat
open Go.RowKit
theorem eachK {T : List (List Int)} {p : List Int → Bool} {k : Nat} (hk : k < T.length) : (T.take (k + 1)).all p = ((T.take k).all p && p T[k]) := by
  rw [List.take_succ_eq_append_getElem hk, List.all_append]; simp
section
variable {P : Program} {N : Nat} {w0 : World} {L : Hp} {e : Env} {d : Option Nat} {ty : TypeId} {pos : String} {af : Array Edge} {g : Option (Nat × Bool)}
theorem Val_subE {x y : Operand} {t t' : TypeId} {m n : Int} {c : Nat} (hc : m - n = (c : Int)) (hb : c ≤ 1000000) (hx : ev e x = .int .i64 m) (hy : ev e y = .int .i64 n) : Val P N w0 L e ⟨d, .binOp .sub t x y t', ty, pos, af, g⟩ (.int .i64 (c : Int)) := by
  rw [← hc]
  exact Val_sub hx hy (InK_i64 (by omega) (by omega))
end
attribute [local irreducible] AnyO AnyB QAny QB EWalk AWalk Ev WP OPS QThen QBlock QScope QLoop QBody Val New Turn Tri Enters PostA Blk Ro
attribute [local irreducible] AnyC QC
section
variable (N : Nat) (w0 : World)
set_option maxHeartbeats 4000000 in
theorem rStop_ret (L : Hp) (g : Fg) (hA : DrAt N w0 g) (hf : farB g.d = false) :
    Ret Tryz.prog N w0 L 21 [drV g].toArray (.tuple [.int .i64 ((StopN g.d : Nat) : Int), .int .i64 ((StopV g.d : Nat) : Int), .int .i64 (errD g.d true)].toArray) := by
  have hkn := fun L => known_ref N w0 L g hA hf true
  obtain ⟨e, he⟩ : ∃ e, errD g.d true = e := ⟨_, rfl⟩
  rw [he] at hkn ⊢
  by_cases h0 : e = 0
  · subst h0
    obtain ⟨hvb, _, hs0⟩ := errD_ok he
    have hv := VD_of hvb
    have hnb := hv.nb
    have hnw := hv.nw
    have z1 : StopN g.d = pc (stopS g.d) := by unfold StopN; rw [he, if_pos rfl]
    have z2 : StopV g.d = stopS g.d := by unfold StopV; rw [he, if_pos rfl]
    rw [z1, z2]
    obtain ⟨f1, f2, _, _, f5⟩ := stop_facts hv hs0
    obtain ⟨m, hm⟩ : ∃ m, g.d.ways.length = m := ⟨_, rfl⟩
    rw [hm] at f1 f5 hnw
    have hfin := fun b (h : Scan (enoughB g.d) m (2 ^ m) b) => h.end_ f1 f2 f5
    obtain ⟨S, hS⟩ : ∃ S, stopS g.d = S := ⟨_, rfl⟩
    rw [hS] at hfin ⊢
    clear f1 f2 f5 z1 z2 hS
    have hfull := enough_full hv
    rw [hm] at hfull
    have hev := fun L => every_refR N w0 L g (by omega)
    have hp7 : 2 ^ m ≤ 2 ^ 7 := Nat.pow_le_pow_right (by omega) hnw
    have hp0 := Nat.two_pow_pos m
    have hed : evD g.d = 2 ^ m - 1 := by unfold evD; rw [hm]
    have hcall := fun L lv hl A c h s (hs : s < 2 ^ m) => kept_ref N w0 L g hA hv lv hl A c h (evD g.d - s) (by omega)
    have hpk := fun s (hs : s < 2 ^ m) => pick_sub (d := g.d) (s := s) (by rw [hm]; exact hs)
    have hcnt := toldD_count hv
    have hpos : 0 < (toldD g.d).length := List.length_pos_iff.2 (someB_told.1 hs0)
    have hrow : ∀ lv ∈ toldD g.d, lv.length = g.d.banks.length := fun lv h => rowsD_len (toldD_mem.1 h).1
    have hen : ∀ s, enoughB g.d s = (toldD g.d).all (fun lv => keepS1 g.d (nxt (keepL s g.d.ways 0) lv)) := fun _ => rfl
    have hkn3 := fun L => (hkn L).mono (R' := fun x L2 => ∃ v, x = .returned v ∧ ∃ A n c X, v = .tuple [.slice A n c, .int .i64 0].toArray ∧ L2 = X ++ L ∧ RdLL X (.slice A n c) (toldD g.d)) (by rintro y L2 ⟨v, rfl, A, n, c, X, rfl, rfl, h⟩; exact ⟨_, rfl, A, n, c, X, rfl, rfl, h rfl⟩)
    clear hkn
    rw [hed] at hev hcall
    simp only [hed] at hpk
    obtain ⟨M, hM⟩ : ∃ M, 2 ^ m = M := ⟨_, rfl⟩
    rw [hM] at hev hcall hpk hfull hp7 hp0 hfin
    unfold drV drL at hkn3 hev hcall ⊢
    obtain ⟨n, hn⟩ : ∃ n, g.d.banks.length = n := ⟨_, rfl⟩
    rw [hn] at hkn3 hev hcall hnb hrow ⊢
    rw [hm] at hkn3 hev hcall ⊢
    obtain ⟨T, hT⟩ : ∃ T, toldD g.d = T := ⟨_, rfl⟩
    rw [hT] at hkn3 hcnt hpos hrow
    simp only [hT] at hen
    have hsz := fun L x h => size_ret N w0 L x h
    refine Ret.fgt ?_
    refine tri_of_WP Tryz.func21 rfl (n := _) rfl (by simp) ?_
    repeat' (first | (refine Znh ?_) | (refine GiW ?_; first | (refine Zsq fun K hK => ?_) | (refine ZrN 0 fun _ => ?_; refine Zal 1 fun b1 => ?_; refine Zv Zai ?_; refine Zv Zai ?_; refine Zv Zai ?_) | (refine ZrN 1 fun _ => ?_; refine Zv Zla ?_; refine OPS_retKS (Enters_fn rfl) (hkn3 _) rfl rfl rfl (fun v15 L15 h15 => ?_); obtain ⟨A9, n9, c9, X9, rfl, rfl, hr9⟩ := h15; refine Zv Zmv ?_; refine Zv Zxex ?_; refine Zv Zxex ?_; refine Zv Zav ?_; refine Zv Zai ?_) | (refine ZrN 2 fun _ => ?_; refine Zv Zmi ?_; refine Zv Zyneq ?_) | (refine WP_cond_false rfl ?_) | (with_reducible apply WP_skip)) | (refine Zhn ?_))
    obtain ⟨H, hH⟩ : ∃ H, X9 ++ ((b1, Blk 26 [.slice g.A1 n g.c1, .slice g.A2 m g.c2, .slice g.A3 g.d.rights.length g.c3, .slice g.A4 g.d.seen.length g.c4]) :: L) = H := ⟨_, rfl⟩
    obtain ⟨b9, c8, e9, hrr⟩ := rows_rd N w0 hr9 hpos (H := H) (by rw [← hH]; exact Wk.appR X9 _)
    have m1 : Mem b1 (Blk 26 [.slice g.A1 n g.c1, .slice g.A2 m g.c2, .slice g.A3 g.d.rights.length g.c3, .slice g.A4 g.d.seen.length g.c4]) H := by rw [← hH]; exact .app X9 .here
    have hWH : Wk H L := by rw [← hH]; exact (Wk.app X9 _).trans (.drop (.refl _))
    simp only [Value.slice.injEq] at e9
    obtain ⟨rfl, rfl, rfl⟩ := e9
    rw [hH]
    have hMI : ((M - 1 : Nat) : Int) = (M : Int) - 1 := by omega
    repeat' (first | (refine Znh ?_) | (refine GiW ?_; first | (refine Zsq fun K hK => ?_) | (refine ZrN 4 fun _ => ?_; refine Zv Zla ?_; refine Zcl (Enters_fn rfl) (hev _) ?_; refine Zv Zai ?_) | (refine ZrN 5 fun _ => ?_; refine Zv Zai ?_) | (with_reducible apply WP_block)))
    have hz0 : Scan (enoughB g.d) m 0 (M - 1) := by rw [← hM] at hfull ⊢; exact Scan.zero hfull
    refine WP_loop [7, 8, 9, 10, 11, 12, 23, 24, 25, 26, 27, 28, 29, 30, 31, 32, 33, 34, 35, 36, 37, 38, 39, 40, 41, 42, 43, 44, 45, 46, 47, 48, 49, 50, 51, 52, 53, 54, 55, 56, 57, 58] (fun q : Nat × Nat => [(7, .int .i64 (q.2 : Int)), (8, .int .i64 (q.1 : Int))]) (fun _ => H) (fun q => q.1 ≤ M ∧ Scan (enoughB g.d) m q.1 q.2) (fun q => M - q.1) (0, M - 1) (.cons rfl (.cons rfl .nil)) (Wk.refl _) ⟨Nat.zero_le _, hz0⟩ ?_
    rintro ⟨k, b⟩ j ⟨hk, hsc⟩
    dsimp only at hk hsc ⊢
    have hbM : b < M := by rw [← hM]; exact hsc.lt
    by_cases hkM : k < M
    · have s1 := fun L => hsz L k (by omega)
      have s2 := fun L => hsz L b (by omega)
      have pk : pc k ≤ 7 := by unfold pc; omega
      have pb : pc b ≤ 7 := by unfold pc; omega
      by_cases hlt : pc k < pc b
      · obtain ⟨u, hu⟩ : ∃ u, pc k = u := ⟨_, rfl⟩
        obtain ⟨w, hw⟩ : ∃ w, pc b = w := ⟨_, rfl⟩
        have hlt2 := hlt
        rw [hu] at s1 hlt2 pk
        rw [hw] at s2 hlt2 pb
        repeat' (first | (refine Znh ?_) | (refine GiW ?_; first | (refine Zsq fun K hK => ?_) | (refine ZrN 6 fun _ => ?_; refine Zv Zmi ?_; refine Zv Zla ?_; refine Zcl (Enters_fn rfl) (hev _) ?_; refine Zv Zyleq ?_) | (refine ZrN 8 fun _ => ?_; refine Zv Zmi ?_; (first | (refine Zcl (Enters_fn rfl) (s1 _) ?_) | (refine Zcl (Enters_fn rfl) (s2 _) ?_)); refine Zv Zmi ?_; (first | (refine Zcl (Enters_fn rfl) (s1 _) ?_) | (refine Zcl (Enters_fn rfl) (s2 _) ?_)); refine Zv Zygeq ?_) | (refine ZrN 9 fun _ => ?_; refine Zv Zab ?_) | (refine ZrN 10 fun _ => ?_; refine Zv Zai ?_) | (refine WP_cond_true rfl ?_) | (refine WP_cond_false rfl ?_) | (with_reducible apply WP_skip) | (with_reducible apply WP_block)) | (refine Zhn ?_))
        refine WP_loop [9, 10, 11, 12, 34, 35, 36, 37, 38, 39, 40, 41, 42, 43, 44, 45, 46, 47, 48, 49, 50, 51, 52, 53, 54, 55, 56] (fun i : Nat => [(9, .bool ((T.take i).all (fun lv => keepS1 g.d (nxt (keepL k g.d.ways 0) lv)))), (10, .int .i64 (i : Int))]) (fun _ => H) (fun i => i ≤ T.length) (fun i => T.length - i) 0 (.cons rfl (.cons rfl .nil)) (Wk.refl _) (Nat.zero_le _) ?_
        intro i j2 hi
        by_cases hil : i < T.length
        · have hTm : T[i] ∈ T := List.getElem_mem hil
          have hlk := hrow _ hTm
          have hst := eachK (p := fun lv => keepS1 g.d (nxt (keepL k g.d.ways 0) lv)) hil
          obtain ⟨A4, c4', hrk⟩ := hrr i hil
          have hck := fun L' (h : Wk L' H) => hcall L' T[i] hlk A4 c4' (hrk L' h).2 k hkM
          rw [hpk k hkM] at hck
          obtain ⟨r, hr⟩ : ∃ r, T[i] = r := ⟨_, rfl⟩
          rw [hr] at hst hck hrk hlk
          rw [hlk] at hrk
          obtain ⟨a1, ha1⟩ : ∃ z, keepS1 g.d (nxt (keepL k g.d.ways 0) r) = z := ⟨_, rfl⟩
          obtain ⟨a2, ha2⟩ : ∃ z, keepS2 g.d (nxt (keepL k g.d.ways 0) r) = z := ⟨_, rfl⟩
          rw [ha1, ha2] at hck
          rw [ha1] at hst
          obtain ⟨o, ho⟩ : ∃ o, (T.take i).all (fun lv => keepS1 g.d (nxt (keepL k g.d.ways 0) lv)) = o := ⟨_, rfl⟩
          rw [ho] at hst ⊢
          have hsub : ((M : Int) - 1) - (k : Int) = ((M - 1 - k : Nat) : Int) := by omega
          have hsub2 : ((M - 1 : Nat) : Int) - (k : Int) = ((M - 1 - k : Nat) : Int) := by omega
          cases o
          all_goals
            repeat' (first | (refine GiP ?_; first | (refine Znh ?_) | (with_reducible refine Znl ?_) | (refine Zatd 56 ?_; (first | (refine Zv Zxpt ?_) | (refine Zv Zxpf ?_)); refine Zv Zab ?_) | (refine Zatd 55 ?_; first | refine Zsk ?_ | (refine Zv Zmb ?_))) | (refine GiW ?_; first | (refine Zsq fun K hK => ?_) | (refine ZrN 11 fun _ => ?_; refine Zv Zmi ?_; refine Zv Zmv ?_; refine Zv Zxlen ?_; refine Zv Zylss ?_) | (refine ZrG 14 ?_; refine Zv Zmb ?_; refine Zv Zmb ?_) | (refine ZrN 12 fun _ => ?_; refine Zv Zmi ?_; refine Zv Zxadd ?_; refine Zv Zai ?_) | (refine WP_cond_true rfl ?_) | (with_reducible apply WP_skip) | (with_reducible apply WP_block) | (refine WP_drawn (id := 13) [0, 1, 2, 3, 4, 5, 6, 7, 8, 9, 10, 11, 12, 13, 14] [] (k := 0) prog_mixed (by kernel_rfl) rfl ?_; (first | (refine Zew rfl (Val_loadD1 rfl (hrk _ (by repeat (first | exact Wk.refl _ | apply Wk.keep1 | apply Wk.drop | apply Wk.sv | apply Wk.svD | apply Wk.appD))).1) ?_) | (refine Zew rfl Zla ?_)); refine Zew rfl Zmv ?_; refine Zew rfl Zmi ?_; (first | (refine Zew rfl (Val_indexAddr1 rfl rfl rfl hil) ?_) | (refine Zew rfl Zia ?_)); (first | (refine Zew rfl (Val_loadD1 rfl (hrk _ (by repeat (first | exact Wk.refl _ | apply Wk.keep1 | apply Wk.drop | apply Wk.sv | apply Wk.svD | apply Wk.appD))).1) ?_) | (refine Zew rfl Zld ?_)); (first | (refine Zew rfl (Val_loadD1 rfl (hrk _ (by repeat (first | exact Wk.refl _ | apply Wk.keep1 | apply Wk.drop | apply Wk.sv | apply Wk.svD | apply Wk.appD))).1) ?_) | (refine Zew rfl Zla ?_)); refine Zec rfl (Enters_fn rfl) (fun X => hev _) ?_; refine Zew rfl Zmi ?_; refine Zew rfl (Val_subE hsub2 (by omega) rfl rfl) ?_; refine Zec rfl (Enters_fn rfl) (fun X => hck _ (by repeat (first | exact Wk.refl _ | apply Wk.keep1 | apply Wk.drop | apply Wk.sv | apply Wk.svD | apply Wk.appD))) ?_; refine Zew rfl Zmv ?_; refine Zew rfl Zxex ?_; refine Zew rfl Zxex ?_; refine Zew rfl Zab ?_; refine Zew rfl Zab ?_)) | (with_reducible apply EWalk_nil) | (refine AnyO_done (by kernel_rfl) ?_; (try with_reducible apply noP_normal); try with_reducible exact key.out) | (refine Zhn ?_) | (with_reducible apply QBlock_normal) | (refine AWalk_0 ?_; refine ZisO ?_))
            all_goals exact QLoop_normal (i + 1) (.cons (by rw [hst]; rfl) (.cons rfl .nil)) (by repeat (first | exact Off.frame rfl | exact Off.refl _ _ | refine Off.frameT rfl rfl ?_ | refine Off.upd rfl ?_ | refine Off.updO rfl ?_)) (by repeat (first | exact Wk.refl _ | apply Wk.keep1 | apply Wk.drop | apply Wk.sv | apply Wk.svD | apply Wk.appD)) (by omega) (by omega)
        · have hie : i = T.length := by omega
          rw [hie, List.take_length, ← hen]
          obtain ⟨en, hene⟩ : ∃ en, enoughB g.d k = en := ⟨_, rfl⟩
          rw [hene]
          cases en with
          | true =>
            repeat' (first | (refine GiP ?_; first | (refine Znh ?_) | (with_reducible refine Znl ?_)) | (refine GiW ?_; first | (refine Zsq fun K hK => ?_) | (refine ZrN 11 fun _ => ?_; refine Zv Zmi ?_; refine Zv Zmv ?_; refine Zv Zxlen ?_; refine Zv Zylss ?_) | (refine ZrN 15 fun _ => ?_; refine Zv Zmb ?_) | (refine ZrN 16 fun _ => ?_; refine Zv Zmi ?_; refine Zv Zai ?_) | (refine ZrN 7 fun _ => ?_; refine Zv Zmi ?_; refine Zv Zxadd ?_; refine Zv Zai ?_) | (refine WP_cond_true rfl ?_) | (refine WP_cond_false rfl ?_) | (with_reducible apply WP_exit)) | (refine Zhn ?_) | (with_reducible apply QBlock_normal) | (refine Zhx ?_) | (with_reducible apply QBlock_hit) | (with_reducible apply QLoop_exit))
            exact QLoop_normal (k + 1, k) (.cons rfl (.cons rfl .nil)) (by repeat (first | exact Off.frame rfl | exact Off.refl _ _ | refine Off.frameT rfl rfl ?_ | refine Off.upd rfl ?_ | refine Off.updO rfl ?_)) (by repeat (first | exact Wk.refl _ | apply Wk.keep1 | apply Wk.drop | apply Wk.sv | apply Wk.svD | apply Wk.appD)) ⟨by dsimp only; omega, hsc.yes (by rw [hM]; exact hkM) hlt hene⟩ (by dsimp only; omega)
          | false =>
            repeat' (first | (refine GiP ?_; first | (refine Znh ?_) | (with_reducible refine Znl ?_)) | (refine GiW ?_; first | (refine Zsq fun K hK => ?_) | (refine ZrN 11 fun _ => ?_; refine Zv Zmi ?_; refine Zv Zmv ?_; refine Zv Zxlen ?_; refine Zv Zylss ?_) | (refine ZrN 15 fun _ => ?_; refine Zv Zmb ?_) | (refine ZrN 7 fun _ => ?_; refine Zv Zmi ?_; refine Zv Zxadd ?_; refine Zv Zai ?_) | (refine WP_cond_false rfl ?_) | (with_reducible apply WP_skip) | (with_reducible apply WP_exit)) | (refine Zhn ?_) | (with_reducible apply QBlock_normal) | (refine Zhx ?_) | (with_reducible apply QBlock_hit) | (with_reducible apply QLoop_exit))
            exact QLoop_normal (k + 1, b) (.cons rfl (.cons rfl .nil)) (by repeat (first | exact Off.frame rfl | exact Off.refl _ _ | refine Off.frameT rfl rfl ?_ | refine Off.upd rfl ?_ | refine Off.updO rfl ?_)) (by repeat (first | exact Wk.refl _ | apply Wk.keep1 | apply Wk.drop | apply Wk.sv | apply Wk.svD | apply Wk.appD)) ⟨by dsimp only; omega, hsc.no (by omega) (by rw [hM]; exact hkM) (fun _ => hene)⟩ (by dsimp only; omega)
      · have hno := hsc.no (by omega) (by rw [hM]; exact hkM) (fun h => absurd h hlt)
        obtain ⟨u, hu⟩ : ∃ u, pc k = u := ⟨_, rfl⟩
        obtain ⟨w, hw⟩ : ∃ w, pc b = w := ⟨_, rfl⟩
        rw [hu] at s1 hlt pk
        rw [hw] at s2 hlt pb
        repeat' (first | (refine GiP ?_; first | (refine Znh ?_) | (with_reducible refine Znl ?_)) | (refine GiW ?_; first | (refine Zsq fun K hK => ?_) | (refine ZrN 6 fun _ => ?_; refine Zv Zmi ?_; refine Zv Zla ?_; refine Zcl (Enters_fn rfl) (hev _) ?_; refine Zv Zyleq ?_) | (refine ZrN 8 fun _ => ?_; refine Zv Zmi ?_; (first | (refine Zcl (Enters_fn rfl) (s1 _) ?_) | (refine Zcl (Enters_fn rfl) (s2 _) ?_)); refine Zv Zmi ?_; (first | (refine Zcl (Enters_fn rfl) (s1 _) ?_) | (refine Zcl (Enters_fn rfl) (s2 _) ?_)); refine Zv Zygeq ?_) | (refine ZrN 7 fun _ => ?_; refine Zv Zmi ?_; refine Zv Zxadd ?_; refine Zv Zai ?_) | (refine WP_cond_true rfl ?_) | (with_reducible apply WP_skip) | (with_reducible apply WP_block) | (with_reducible apply WP_exit)) | (refine Zhn ?_) | (refine Zhx ?_) | (with_reducible apply QBlock_hit))
        exact QLoop_normal (k + 1, b) (.cons rfl (.cons rfl .nil)) (by repeat (first | exact Off.frame rfl | exact Off.refl _ _ | refine Off.frameT rfl rfl ?_ | refine Off.upd rfl ?_ | refine Off.updO rfl ?_)) (by repeat (first | exact Wk.refl _ | apply Wk.keep1 | apply Wk.drop | apply Wk.sv | apply Wk.svD | apply Wk.appD)) ⟨by dsimp only; omega, hno⟩ (by dsimp only; omega)
    · have hke : k = M := by omega
      rw [hke, ← hM] at hsc
      have hb := hfin b (by rw [← hM]; exact hsc)
      subst hb
      have s2 := fun L => hsz L b (by omega)
      repeat' (first | (refine Znh ?_) | (refine GiW ?_; first | (refine Zsq fun K hK => ?_) | (refine ZrN 6 fun _ => ?_; refine Zv Zmi ?_; refine Zv Zla ?_; refine Zcl (Enters_fn rfl) (hev _) ?_; refine Zv Zyleq ?_) | (refine ZrN 17 fun _ => ?_; refine Zv Zmi ?_; refine Zcl (Enters_fn rfl) (s2 _) ?_; refine Zv Zmi ?_; refine Zv Zai ?_; refine Zv Zai ?_; refine Zv Zai ?_) | (refine WP_cond_false rfl ?_) | (with_reducible apply WP_exit) | (with_reducible apply WP_ret)) | (refine Zhn ?_) | (refine Zhx ?_) | (with_reducible apply QBlock_hit) | (with_reducible apply QLoop_exit))
      exact QBody_res rfl (.tmp (rfl : _ = Value.int _ _) (.tmp (rfl : _ = Value.int _ _) (.tmp (rfl : _ = Value.int _ _) .nil))) rfl ⟨rfl, hWH⟩
  · have z1 : StopN g.d = 0 := by unfold StopN; rw [he, if_neg h0]
    have z2 : StopV g.d = 0 := by unfold StopV; rw [he, if_neg h0]
    rw [z1, z2]
    have heb : 0 ≤ e ∧ e ≤ 10 := by rw [← he]; unfold errD; cases vB g.d <;> cases someB g.d <;> decide
    refine Ret.fgt ?_
    refine tri_of_WP Tryz.func21 rfl (n := _) rfl (by simp) ?_
    unfold drV drL at hkn ⊢
    repeat' (first | (refine Znh ?_) | (refine GiW ?_; first | (refine Zsq fun K hK => ?_) | (refine ZrN 0 fun _ => ?_; refine Zal 1 fun b1 => ?_; refine Zv Zai ?_; refine Zv Zai ?_; refine Zv Zai ?_) | (refine ZrN 1 fun _ => ?_; refine Zv Zla ?_; refine OPS_retKS (Enters_fn rfl) (hkn _) rfl rfl rfl (fun v15 L15 h15 => ?_); obtain ⟨A9, n9, c9, X9, rfl, rfl, _⟩ := h15; refine Zv Zmv ?_; refine Zv Zxex ?_; refine Zv Zxex ?_; refine Zv Zav ?_; refine Zv Zai ?_) | (refine ZrN 2 fun _ => ?_; refine Zv Zmi ?_; refine Zv Zyneq ?_) | (refine ZrN 3 fun _ => ?_; refine Zv Zmi ?_; refine Zv Zai ?_; refine Zv Zai ?_; refine Zv Zai ?_) | (refine WP_cond_true rfl ?_) | (with_reducible apply WP_ret)) | (refine Zhr ?_))
    all_goals exact QBody_res rfl (.tmp (rfl : _ = Value.int _ _) (.tmp (rfl : _ = Value.int _ _) (.tmp (rfl : _ = Value.int _ _) .nil))) rfl ⟨rfl, (Wk.app X9 _).trans (.drop (.refl _))⟩
set_option maxHeartbeats 4000000 in
theorem rClash_ret (L : Hp) (g : Fg) (hA : DrAt N w0 g) (hf : farB g.d = false) :
    Ret Tryz.prog N w0 L 23 [drV g].toArray (.tuple [.int .i64 ((ClashV g.d : Nat) : Int), .int .i64 (ClashE g.d)].toArray) := by
  have hck := fun L => check_ref N w0 L g hA hf true
  cases hvb : vB g.d with
  | false =>
    have z1 : ClashE g.d = 1 := by simp [ClashE, hvb]
    have z2 : ClashV g.d = 0 := by unfold ClashV; rw [z1, if_neg (by omega)]
    rw [z1, z2]
    rw [hvb] at hck
    simp only [Bool.false_eq_true, if_false] at hck
    refine Ret.fgt ?_
    refine tri_of_WP Tryz.func23 rfl (n := _) rfl (by simp) ?_
    unfold drV drL at hck ⊢
    repeat' (first | (refine Znh ?_) | (refine GiW ?_; first | (refine Zsq fun K hK => ?_) | (refine ZrN 0 fun _ => ?_; refine Zal 1 fun b1 => ?_; refine Zv Zai ?_; refine Zv Zai ?_) | (refine ZrN 1 fun _ => ?_; refine Zv Zla ?_; refine Zcl (Enters_fn rfl) (hck _) ?_; refine Zv Zai ?_) | (refine ZrN 2 fun _ => ?_; refine Zv Zmi ?_; refine Zv Zyneq ?_) | (refine ZrN 3 fun _ => ?_; refine Zv Zmi ?_; refine Zv Zai ?_; refine Zv Zai ?_) | (refine WP_cond_true rfl ?_) | (with_reducible apply WP_ret)) | (refine Zhr ?_))
    exact QBody_res rfl (.tmp (rfl : _ = Value.int _ _) (.tmp (rfl : _ = Value.int _ _) .nil)) rfl ⟨rfl, (by repeat (first | exact Wk.refl _ | apply Wk.keep1 | apply Wk.drop | apply Wk.sv | apply Wk.svD | apply Wk.appD))⟩
  | true =>
    have hv := VD_of hvb
    have hns := hv.ns
    have hlv := fun L => levels_ref N w0 L g hA hv
    have hcnt := toldD_count hv
    rw [hvb] at hck
    simp only [if_true] at hck
    cases hs0 : someB g.d with
    | true =>
      have hpos : 0 < (toldD g.d).length := List.length_pos_iff.2 (someB_told.1 hs0)
      have hcl := clash_none hv hs0
      have z1 : ClashE g.d = 4 := by simp [ClashE, hvb, hcl]
      have z2 : ClashV g.d = 0 := by unfold ClashV; rw [z1, if_neg (by omega)]
      rw [z1, z2]
      obtain ⟨T, hT⟩ : ∃ T, toldD g.d = T := ⟨_, rfl⟩
      rw [hT] at hlv hcnt hpos
      refine Ret.fgt ?_
      refine tri_of_WP Tryz.func23 rfl (n := _) rfl (by simp) ?_
      unfold drV drL at hck hlv ⊢
      repeat' (first | (refine Znh ?_) | (refine GiW ?_; first | (refine Zsq fun K hK => ?_) | (refine ZrN 0 fun _ => ?_; refine Zal 1 fun b1 => ?_; refine Zv Zai ?_; refine Zv Zai ?_) | (refine ZrN 1 fun _ => ?_; refine Zv Zla ?_; refine Zcl (Enters_fn rfl) (hck _) ?_; refine Zv Zai ?_) | (refine ZrN 2 fun _ => ?_; refine Zv Zmi ?_; refine Zv Zyneq ?_) | (refine ZrN 4 fun _ => ?_; refine Zv Zla ?_; refine OPS_retKS (Enters_fn rfl) (hlv _) rfl rfl rfl (fun v6 L6 h6 => ?_); obtain ⟨X6, hr6, rfl⟩ := h6; obtain ⟨A6, c6, rfl, -⟩ := hr6; refine Zv Zxlen ?_; refine Zv Zygtr ?_) | (refine ZrN 5 fun _ => ?_; refine Zv Zai ?_; refine Zv Zai ?_) | (refine WP_cond_true rfl ?_) | (refine WP_cond_false rfl ?_) | (with_reducible apply WP_skip) | (with_reducible apply WP_ret)) | (refine Zhn ?_) | (refine Zhr ?_))
      exact QBody_res rfl (.tmp (rfl : _ = Value.int _ _) (.tmp (rfl : _ = Value.int _ _) .nil)) rfl ⟨rfl, (Wk.app X6 _).trans (.drop (.refl _))⟩
    | false =>
      have hT0 : toldD g.d = [] := someB_no.1 hs0
      obtain ⟨S, hcl, f1, f2, f5⟩ := clash_some hv hs0
      have z1 : ClashE g.d = 0 := by simp [ClashE, hvb, hcl]
      have z2 : ClashV g.d = S := by unfold ClashV; rw [z1, if_pos rfl, hcl]; rfl
      rw [z1, z2]
      rw [hT0] at hlv
      obtain ⟨m, hm⟩ : ∃ m, g.d.seen.length = m := ⟨_, rfl⟩
      rw [hm] at f1 f5 hns
      have hfin := fun b (h : Scan (fun s => !someB (onlyD g.d s)) m (2 ^ m) b) => h.end_ f1 f2 f5
      have hfull : (!someB (onlyD g.d (2 ^ m - 1))) = true := by rw [← hm, only_all (by omega), hs0]; rfl
      have hal := fun L => all_refR N w0 L g (by omega)
      have hp7 : 2 ^ m ≤ 2 ^ 4 := Nat.pow_le_pow_right (by omega) hns
      have hp0 := Nat.two_pow_pos m
      have had : alD g.d = 2 ^ m - 1 := by unfold alD; rw [hm]
      rw [had] at hal
      have hfr := fun L s (hs : s < 2 ^ m) => from_all N w0 L g hA hv s (by omega)
      obtain ⟨M, hM⟩ : ∃ M, 2 ^ m = M := ⟨_, rfl⟩
      rw [hM] at hal hfull hp7 hp0 hfin hfr
      have hsz := fun L x h => size_ret N w0 L x h
      refine Ret.fgt ?_
      refine tri_of_WP Tryz.func23 rfl (n := _) rfl (by simp) ?_
      unfold drV drL at hck hlv hal hfr ⊢
      rw [hm] at hck hlv hal hfr ⊢
      repeat' (first | (refine Znh ?_) | (refine GiW ?_; first | (refine Zsq fun K hK => ?_) | (refine ZrN 0 fun _ => ?_; refine Zal 1 fun b1 => ?_; refine Zv Zai ?_; refine Zv Zai ?_) | (refine ZrN 1 fun _ => ?_; refine Zv Zla ?_; refine Zcl (Enters_fn rfl) (hck _) ?_; refine Zv Zai ?_) | (refine ZrN 2 fun _ => ?_; refine Zv Zmi ?_; refine Zv Zyneq ?_) | (refine ZrN 4 fun _ => ?_; refine Zv Zla ?_; refine OPS_retKS (Enters_fn rfl) (hlv _) rfl rfl rfl (fun v6 L6 h6 => ?_); obtain ⟨X6, hr6, rfl⟩ := h6; obtain ⟨A6, c6, rfl, -⟩ := hr6; refine Zv Zxlen ?_; refine Zv Zygtr ?_) | (refine ZrN 6 fun _ => ?_; refine Zv Zla ?_; refine Zcl (Enters_fn rfl) (hal _) ?_; refine Zv Zai ?_) | (refine ZrN 7 fun _ => ?_; refine Zv Zai ?_) | (refine WP_cond_false rfl ?_) | (with_reducible apply WP_skip) | (with_reducible apply WP_block)) | (refine Zhn ?_))
      have hz0 : Scan (fun s => !someB (onlyD g.d s)) m 0 (M - 1) := by rw [← hM] at hfull ⊢; exact Scan.zero hfull
      refine WP_sub (B := (b1, Blk 26 [.slice g.A1 g.d.banks.length g.c1, .slice g.A2 g.d.ways.length g.c2, .slice g.A3 g.d.rights.length g.c3, .slice g.A4 m g.c4]) :: L) ⟨X6, List.perm_append_comm⟩ ?_
      refine WP_loop [5, 6, 18, 19, 20, 21, 22, 23, 24, 25, 26, 27, 28, 29, 30, 31, 32, 33, 34, 35, 36] (fun q : Nat × Nat => [(5, .int .i64 (q.2 : Int)), (6, .int .i64 (q.1 : Int))]) (fun _ => (b1, Blk 26 [.slice g.A1 g.d.banks.length g.c1, .slice g.A2 g.d.ways.length g.c2, .slice g.A3 g.d.rights.length g.c3, .slice g.A4 m g.c4]) :: L) (fun q => q.1 ≤ M ∧ Scan (fun s => !someB (onlyD g.d s)) m q.1 q.2) (fun q => M - q.1) (0, M - 1) (.cons rfl (.cons rfl .nil)) (Wk.refl _) ⟨Nat.zero_le _, hz0⟩ ?_
      rintro ⟨k, b⟩ j ⟨hk, hsc⟩
      dsimp only at hk hsc ⊢
      have hbM : b < M := by rw [← hM]; exact hsc.lt
      by_cases hkM : k < M
      · have s1 := fun L => hsz L k (by omega)
        have s2 := fun L => hsz L b (by omega)
        have pk : pc k ≤ 7 := by unfold pc; omega
        have pb : pc b ≤ 7 := by unfold pc; omega
        by_cases hlt : pc k < pc b
        · have hfk := fun L => hfr L k hkM
          obtain ⟨u, hu⟩ : ∃ u, pc k = u := ⟨_, rfl⟩
          obtain ⟨w, hw⟩ : ∃ w, pc b = w := ⟨_, rfl⟩
          have hlt2 := hlt
          rw [hu] at s1 hlt2 pk
          rw [hw] at s2 hlt2 pb
          have hF : fsO g.d k = toldD (onlyD g.d k) := fsO_told
          have hFc : (toldD (onlyD g.d k)).length ≤ 243 := Nat.le_trans (List.length_filter_le _ _) (by show (rowsD g.d).length ≤ 243; exact rowsD_count hv)
          obtain ⟨F, hFe⟩ : ∃ F, toldD (onlyD g.d k) = F := ⟨_, rfl⟩
          rw [hFe] at hF hFc
          rw [hF] at hfk
          cases en : someB (onlyD g.d k) with
          | false =>
            have hF0 : F = [] := by rw [← hFe]; exact someB_no.1 en
            subst hF0
            repeat' (first | (refine GiP ?_; first | (refine Znh ?_) | (with_reducible refine Znl ?_) | (refine Zatd 35 ?_; (first | (refine Zv Zxpt ?_) | (refine Zv Zxpf ?_))) | (refine Zatd 30 ?_; first | refine Zsk ?_ | (refine Zv Zla ?_)) | (refine Zatd 31 ?_; first | refine Zsk ?_ | (refine Zv Zmi ?_)) | (refine Zatd 32 ?_; first | refine Zsk ?_ | (refine OPS_retKS (Enters_fn rfl) (hfk _) rfl rfl rfl (fun v6 L6 h6 => ?_); obtain ⟨X7, hr7, rfl⟩ := h6; obtain ⟨A7, c7, rfl, -⟩ := hr7)) | (refine Zatd 33 ?_; first | refine Zsk ?_ | (refine Zv Zxlen ?_)) | (refine Zatd 34 ?_; first | refine Zsk ?_ | (refine Zv Zyeql ?_))) | (refine GiW ?_; first | (refine Zsq fun K hK => ?_) | (refine ZrN 8 fun _ => ?_; refine Zv Zmi ?_; refine Zv Zla ?_; refine Zcl (Enters_fn rfl) (hal _) ?_; refine Zv Zyleq ?_) | (refine ZrG 10 ?_; refine Zv Zmi ?_; (first | (refine Zcl (Enters_fn rfl) (s1 _) ?_) | (refine Zcl (Enters_fn rfl) (s2 _) ?_)); refine Zv Zmi ?_; (first | (refine Zcl (Enters_fn rfl) (s1 _) ?_) | (refine Zcl (Enters_fn rfl) (s2 _) ?_)); refine Zv Zylss ?_; refine Zv Zmb ?_) | (refine ZrN 11 fun _ => ?_; refine Zv Zmi ?_; refine Zv Zai ?_) | (refine ZrN 9 fun _ => ?_; refine Zv Zmi ?_; refine Zv Zxadd ?_; refine Zv Zai ?_) | (refine WP_cond_true rfl ?_) | (with_reducible apply WP_skip) | (with_reducible apply WP_block)) | (refine Zhn ?_) | (with_reducible apply QBlock_normal))
            exact QLoop_normal (k + 1, k) (.cons rfl (.cons rfl .nil)) (by repeat (first | exact Off.frame rfl | exact Off.refl _ _ | refine Off.frameT rfl rfl ?_ | refine Off.upd rfl ?_ | refine Off.updO rfl ?_)) (Wk.app X7 _) ⟨by dsimp only; omega, hsc.yes (by rw [hM]; exact hkM) hlt (by rw [en]; rfl)⟩ (by dsimp only; omega)
          | true =>
            have hF0 : 0 < F.length := by rw [← hFe]; exact List.length_pos_iff.2 (someB_told.1 en)
            repeat' (first | (refine GiP ?_; first | (refine Znh ?_) | (with_reducible refine Znl ?_) | (refine Zatd 35 ?_; (first | (refine Zv Zxpt ?_) | (refine Zv Zxpf ?_))) | (refine Zatd 30 ?_; first | refine Zsk ?_ | (refine Zv Zla ?_)) | (refine Zatd 31 ?_; first | refine Zsk ?_ | (refine Zv Zmi ?_)) | (refine Zatd 32 ?_; first | refine Zsk ?_ | (refine OPS_retKS (Enters_fn rfl) (hfk _) rfl rfl rfl (fun v6 L6 h6 => ?_); obtain ⟨X7, hr7, rfl⟩ := h6; obtain ⟨A7, c7, rfl, -⟩ := hr7)) | (refine Zatd 33 ?_; first | refine Zsk ?_ | (refine Zv Zxlen ?_)) | (refine Zatd 34 ?_; first | refine Zsk ?_ | (refine Zv Zyeql ?_))) | (refine GiW ?_; first | (refine Zsq fun K hK => ?_) | (refine ZrN 8 fun _ => ?_; refine Zv Zmi ?_; refine Zv Zla ?_; refine Zcl (Enters_fn rfl) (hal _) ?_; refine Zv Zyleq ?_) | (refine ZrG 10 ?_; refine Zv Zmi ?_; (first | (refine Zcl (Enters_fn rfl) (s1 _) ?_) | (refine Zcl (Enters_fn rfl) (s2 _) ?_)); refine Zv Zmi ?_; (first | (refine Zcl (Enters_fn rfl) (s1 _) ?_) | (refine Zcl (Enters_fn rfl) (s2 _) ?_)); refine Zv Zylss ?_; refine Zv Zmb ?_) | (refine ZrN 9 fun _ => ?_; refine Zv Zmi ?_; refine Zv Zxadd ?_; refine Zv Zai ?_) | (refine WP_cond_true rfl ?_) | (refine WP_cond_false rfl ?_) | (with_reducible apply WP_skip) | (with_reducible apply WP_block)) | (refine Zhn ?_) | (with_reducible apply QBlock_normal))
            exact QLoop_normal (k + 1, b) (.cons rfl (.cons rfl .nil)) (by repeat (first | exact Off.frame rfl | exact Off.refl _ _ | refine Off.frameT rfl rfl ?_ | refine Off.upd rfl ?_ | refine Off.updO rfl ?_)) (Wk.app X7 _) ⟨by dsimp only; omega, hsc.no (by omega) (by rw [hM]; exact hkM) (fun _ => by rw [en]; rfl)⟩ (by dsimp only; omega)
        · have hno := hsc.no (by omega) (by rw [hM]; exact hkM) (fun h => absurd h hlt)
          obtain ⟨u, hu⟩ : ∃ u, pc k = u := ⟨_, rfl⟩
          obtain ⟨w, hw⟩ : ∃ w, pc b = w := ⟨_, rfl⟩
          rw [hu] at s1 hlt pk
          rw [hw] at s2 hlt pb
          repeat' (first | (refine GiP ?_; first | (refine Znh ?_) | (with_reducible refine Znl ?_) | (refine Zatd 35 ?_; (first | (refine Zv Zxpt ?_) | (refine Zv Zxpf ?_))) | (refine Zatd 30 ?_; first | refine Zsk ?_ | (refine Zv Zla ?_)) | (refine Zatd 31 ?_; first | refine Zsk ?_ | (refine Zv Zmi ?_)) | (refine Zatd 33 ?_; first | refine Zsk ?_ | (refine Zv Zxlen ?_)) | (refine Zatd 34 ?_; first | refine Zsk ?_ | (refine Zv Zyeql ?_)) | (refine Zsk ?_)) | (refine GiW ?_; first | (refine Zsq fun K hK => ?_) | (refine ZrN 8 fun _ => ?_; refine Zv Zmi ?_; refine Zv Zla ?_; refine Zcl (Enters_fn rfl) (hal _) ?_; refine Zv Zyleq ?_) | (refine ZrG 10 ?_; refine Zv Zmi ?_; (first | (refine Zcl (Enters_fn rfl) (s1 _) ?_) | (refine Zcl (Enters_fn rfl) (s2 _) ?_)); refine Zv Zmi ?_; (first | (refine Zcl (Enters_fn rfl) (s1 _) ?_) | (refine Zcl (Enters_fn rfl) (s2 _) ?_)); refine Zv Zylss ?_; refine Zv Zmb ?_) | (refine ZrN 9 fun _ => ?_; refine Zv Zmi ?_; refine Zv Zxadd ?_; refine Zv Zai ?_) | (refine WP_cond_true rfl ?_) | (refine WP_cond_false rfl ?_) | (with_reducible apply WP_skip) | (with_reducible apply WP_block)) | (refine Zhn ?_) | (with_reducible apply QBlock_normal))
          exact QLoop_normal (k + 1, b) (.cons rfl (.cons rfl .nil)) (by repeat (first | exact Off.frame rfl | exact Off.refl _ _ | refine Off.frameT rfl rfl ?_ | refine Off.upd rfl ?_ | refine Off.updO rfl ?_)) (by repeat (first | exact Wk.refl _ | apply Wk.keep1 | apply Wk.drop | apply Wk.sv | apply Wk.svD | apply Wk.appD)) ⟨by dsimp only; omega, hno⟩ (by dsimp only; omega)
      · have hke : k = M := by omega
        rw [hke, ← hM] at hsc
        have hb := hfin b (by rw [← hM]; exact hsc)
        subst hb
        repeat' (first | (refine Znh ?_) | (refine GiW ?_; first | (refine Zsq fun K hK => ?_) | (refine ZrN 8 fun _ => ?_; refine Zv Zmi ?_; refine Zv Zla ?_; refine Zcl (Enters_fn rfl) (hal _) ?_; refine Zv Zyleq ?_) | (refine ZrN 12 fun _ => ?_; refine Zv Zmi ?_; refine Zv Zai ?_; refine Zv Zai ?_) | (refine WP_cond_false rfl ?_) | (with_reducible apply WP_exit) | (with_reducible apply WP_ret)) | (refine Zhn ?_) | (refine Zhx ?_) | (with_reducible apply QBlock_hit) | (with_reducible apply QLoop_exit))
        exact QBody_res rfl (.tmp (rfl : _ = Value.int _ _) (.tmp (rfl : _ = Value.int _ _) .nil)) rfl ⟨rfl, .drop (.refl _)⟩
end
end Go.Proofs.YtbhgpnbfdjoglaaGreat
end

section
namespace Go.Proofs.YtbhgpnbfdjoglaaGreat
open Go.RowKit
theorem someK2 {T : List (List Int)} {p : List Int → Bool} {k : Nat} (hk : k < T.length) : (T.take (k + 1)).any p = ((T.take k).any p || p T[k]) := by
  rw [List.take_succ_eq_append_getElem hk, List.any_append]; simp
attribute [local irreducible] AnyO AnyB QAny QB EWalk AWalk Ev WP OPS QThen QBlock QScope QLoop QBody Val New Turn Tri Enters PostA Blk Ro
attribute [local irreducible] AnyC QC
section
variable (N : Nat) (w0 : World)
theorem kept_in (L : Hp) (g : Fg) (h : DrainIn N w0 L g) (hv : VD g.d) (lv : List Int) (hl : lv.length = g.d.banks.length) (A : Option Addr) (c : Nat) (hrd : RdI N w0 L A lv) (set : Nat) (hs : set ≤ 1000000) :
    Ret Tryz.prog N w0 L 68 [drV g, .slice A g.d.banks.length c, .int .i64 (set : Int)].toArray (.tuple [.bool (keepS1 g.d (nxt (pickL set g.d.ways 0) lv)), .bool (keepS2 g.d (nxt (pickL set g.d.ways 0) lv))].toArray) :=
  Ret.re fun w hI => kept_ref _ w [] g (h w hI) hv lv hl A c (hrd.now hI) set hs
set_option maxHeartbeats 4000000 in
theorem rDig_ret (L : Hp) (g : Fg) (hA : DrAt N w0 g) (hf : farB g.d = false) (a b : Int) :
    Ret Tryz.prog N w0 L 19 [drV g, .int .i64 a, .int .i64 b].toArray (.tuple [.int .i64 (DigV g.d a b), .int .i64 (DigE g.d a b)].toArray) := by
  have hfo := farB_ok hf
  have hbk := fun L => rtwo_ret N w0 L g a b (by omega)
  have hkn := fun L ok => known_ref N w0 L g hA hf ok
  obtain ⟨ok, hok⟩ : ∃ ok, twoB g.d.banks.length a b = ok := ⟨_, rfl⟩
  have hDE : DigE g.d a b = if errD g.d ok = 0 then if g.d.ways.length < 7 then 0 else 9 else errD g.d ok := by rw [← hok]; rfl
  rw [hok] at hbk
  have hkn2 := fun L => hkn L ok
  obtain ⟨e, he⟩ : ∃ e, errD g.d ok = e := ⟨_, rfl⟩
  rw [he] at hkn2 hDE
  by_cases h0 : e = 0
  · subst h0
    obtain ⟨hvb, hokt, hs0⟩ := errD_ok he
    subst hokt
    have hv := VD_of hvb
    have hnb := hv.nb
    have hnw := hv.nw
    obtain ⟨x, y, rfl, rfl, hx, hy, hxy⟩ := twoB_nat hok
    rw [if_pos rfl] at hDE
    have hcnt := toldD_count hv
    have hpos : 0 < (toldD g.d).length := List.length_pos_iff.2 (someB_told.1 hs0)
    have hrow : ∀ lv ∈ toldD g.d, lv.length = g.d.banks.length := fun lv h => rowsD_len (toldD_mem.1 h).1
    have hkn3 := fun L => (hkn2 L).mono (R' := fun x L2 => ∃ v, x = .returned v ∧ ∃ A n c X, v = .tuple [.slice A n c, .int .i64 0].toArray ∧ L2 = X ++ L ∧ RdLL X (.slice A n c) (toldD g.d)) (by rintro y L2 ⟨v, rfl, A, n, c, X, rfl, rfl, h⟩; exact ⟨_, rfl, A, n, c, X, rfl, rfl, h rfl⟩)
    clear hkn hkn2
    obtain ⟨m, hm⟩ : ∃ m, g.d.ways.length = m := ⟨_, rfl⟩
    obtain ⟨n, hn⟩ : ∃ n, g.d.banks.length = n := ⟨_, rfl⟩
    by_cases h7 : m < 7
    · rw [hm, if_pos h7] at hDE
      have hDV : DigV g.d x y = digS g.d x y := by unfold DigV; rw [hDE, if_pos rfl]
      rw [hDE, hDV]
      unfold digS
      obtain ⟨T, hT⟩ : ∃ T, toldD g.d = T := ⟨_, rfl⟩
      rw [hT] at hkn3 hcnt hpos hrow ⊢
      obtain ⟨xs, hxs⟩ : ∃ xs, (g.d.ways.map spL).flatten = xs := ⟨_, rfl⟩
      have hsrc : ∀ L', ∀ w, Inv N w0 L' w → ∀ j u, xs[j]? = some u → ∃ b o, g.A2 = some ⟨b, o, none⟩ ∧ w.cell? ⟨b, o + j, none⟩ = some u := fun L' w hI => by rw [← hxs]; exact (RdRows.ofSl (L := L') hA.ways).flat (by omega) (map_len (f := spL) (fun _ => rfl) _) hI
      have hl3 : xs.length = m * (1 + 1) := by rw [← hxs, ← hm]; exact map_flat (f := spL) (fun _ => rfl) _
      have ho3 : ones xs = true := by rw [← hxs]; exact ones_flat (map_ones (f := spL) (fun _ => rfl) _)
      have hAn : g.A2 = none → m = 0 := fun h => by have := slat_none hA.ways h; rw [List.length_map] at this; omega
      have hxs2 : xs ++ [.int .i64 (x : Int), .int .i64 (y : Int)] = ((g.d.ways ++ [((x : Int), (y : Int))]).map spL).flatten := by simp [spL, hxs]
      have hml : (g.d.ways ++ [((x : Int), (y : Int))]).length = m + 1 := by rw [List.length_append, hm]; rfl
      refine Ret.fgt ?_
      refine tri_of_WP Tryz.func19 rfl (n := _) rfl (by simp) ?_
      unfold drV drL at hbk hkn3 ⊢
      rw [hn, hm] at hbk hkn3 ⊢
      repeat' (first | (refine GiP ?_; first | (refine Znh ?_) | (with_reducible refine Znl ?_) | (refine Zatd 22 ?_; refine OPS_retKS (Enters_fn rfl) (hkn3 _) rfl rfl rfl (fun v15 L15 h15 => ?_); obtain ⟨A9, n9, c9, X9, rfl, rfl, hr9⟩ := h15) | (refine Zatd 16 ?_; refine Zv Zmv ?_) | (refine Zatd 23 ?_; refine Zv Zxex ?_) | (refine Zatd 24 ?_; refine Zv Zxex ?_) | (refine Zatd 8 ?_; refine Zv Zav ?_) | (refine Zatd 9 ?_; refine Zv Zai ?_)) | (refine GiW ?_; first | (refine Zsq fun K hK => ?_) | (refine ZrN 0 fun _ => ?_; refine Zal 3 fun b3 => ?_; refine Zv Zai ?_; refine Zv Zai ?_) | (refine WP_drawnS (id := 1) [] [0, 1, 2, 3, 4] [] [] (k := 0) (k2 := 6) (by repeat (first | apply Sub.sv | apply Sub.keep | apply Sub.appK | exact Sub.refl _)) (by kernel_rfl) prog_mixed (by kernel_rfl) (by kernel_rfl) rfl ?_; refine Zew rfl Zla ?_; refine Zew rfl Zla ?_; refine Zew rfl Zmi ?_; refine Zew rfl Zmi ?_; refine Zec rfl (Enters_fn rfl) (fun X => hbk _) ?_)) | (with_reducible apply EWalk_nil) | (refine ZgC [0, 1, 2, 3, 4] ?_; refine ZCl _ ?_) | (refine GiO ?_; first | (refine ZgO [0, 1, 2, 3, 4] ?_; refine ZO1 _ 5 [0, 1, 2, 3, 4, 5] ?_) | (refine ZgO [0, 1, 2, 3, 4, 5] ?_; refine ZO1 _ 6 [0, 1, 2, 3, 4, 5, 6] ?_) | (refine ZgO [0, 1, 2, 3, 4, 5, 6] ?_; refine ZO2 _ 7 [0, 1, 2, 3, 4, 5, 6, 7] 8 [0, 1, 2, 3, 4, 5, 6, 8] ?_ ?_) | (refine ZgO [0, 1, 2, 3, 4, 5, 6, 7] ?_; refine ZO2 _ 8 [0, 1, 2, 3, 4, 5, 6, 7, 8] 9 [0, 1, 2, 3, 4, 5, 6, 7, 9] ?_ ?_) | (refine ZgO [0, 1, 2, 3, 4, 5, 6, 7, 8] ?_; refine ZO1 _ 9 [0, 1, 2, 3, 4, 5, 6, 7, 8, 9] ?_) | (refine ZgO [0, 1, 2, 3, 4, 5, 6, 7, 8, 9] ?_; refine ZO1 _ 10 [0, 1, 2, 3, 4, 5, 6, 7, 8, 9, 10] ?_) | (refine ZgO [0, 1, 2, 3, 4, 5, 6, 7, 8, 9, 10] ?_; refine ZOd _ ?_; (try with_reducible apply noP_normal); (try with_reducible exact key.out)) | (refine ZgO [0, 1, 2, 3, 4, 5, 6, 7, 9] ?_; refine ZO1 _ 8 [0, 1, 2, 3, 4, 5, 6, 7, 8, 9] ?_) | (refine ZgO [0, 1, 2, 3, 4, 5, 6, 8] ?_; refine ZO1 _ 7 [0, 1, 2, 3, 4, 5, 6, 7, 8] ?_)) | (refine Zhn ?_) | (refine AWalk_0 ?_) | (with_reducible apply QAny_normal))
      all_goals
        obtain ⟨H, hH⟩ : ∃ H, X9 ++ ((b3, Blk 26 [.slice g.A1 n g.c1, .slice g.A2 m g.c2, .slice g.A3 g.d.rights.length g.c3, .slice g.A4 g.d.seen.length g.c4]) :: L) = H := ⟨_, rfl⟩
        obtain ⟨b9, c8, e9, hrr⟩ := rows_rd N w0 hr9 hpos (H := H) (by rw [← hH]; exact Wk.appR X9 _)
        have m3 : Mem b3 (Blk 26 [.slice g.A1 n g.c1, .slice g.A2 m g.c2, .slice g.A3 g.d.rights.length g.c3, .slice g.A4 g.d.seen.length g.c4]) H := by rw [← hH]; exact .app X9 .here
        have hWH : Wk H L := by rw [← hH]; exact (Wk.app X9 _).trans (.drop (.refl _))
        simp only [Value.slice.injEq] at e9
        obtain ⟨rfl, rfl, rfl⟩ := e9
        rw [List.nil_append, hH]
        repeat' (first | (refine Znh ?_) | (refine GiW ?_; first | (refine Zsq fun K hK => ?_) | (refine ZrN 2 fun _ => ?_; refine Zv Zmi ?_; refine Zv Zyneq ?_) | (refine ZrN 4 fun _ => ?_; refine Zv Zfa ?_; refine Zv Zld ?_; refine Zv Zxlen ?_; refine Zv Zyeql ?_) | (refine ZrN 6 fun _ => ?_; refine Zv Zla ?_; refine Zal 10 fun b10 => ?_; refine Zst ?_) | (refine ZrN 7 fun _ => ?_; (first | (refine Zbs fun b33 => ?_) | (refine Zal 33 fun b33 => ?_)); refine Zv Zfa ?_; refine Zv Zld ?_; (first | (refine OPS_append0 rfl rfl rfl (by intro s9; repeat (first | exact Grow.here | apply Grow.there | apply Grow.sv | apply Grow.app)) svOk0 (hsrc _) hAn hl3 ho3 (by simp only [maxLen]; omega) (by omega) (fun s36 hs36 => ?_)) | (refine Zag (fun s36 hs36 => ?_))); refine Zv Zmi ?_; refine Zv Zmi ?_; refine Zv Zxbu ?_; (first | (refine Zbs fun b40 => ?_) | (refine Zal 40 fun b40 => ?_)); (first | (refine OPS_append0 rfl rfl rfl (by intro s9; repeat (first | exact Grow.here | apply Grow.there | apply Grow.sv | apply Grow.app)) svOk0 (hsrc _) hAn hl3 ho3 (by simp only [maxLen]; omega) (by omega) (fun s41 hs41 => ?_)) | (refine Zag (fun s41 hs41 => ?_))); refine Zv Zfa ?_; refine Zst ?_) | (refine ZrN 8 fun _ => ?_; refine Zv Zab ?_; refine Zv Zab ?_) | (refine ZrN 9 fun _ => ?_; refine Zv Zai ?_) | (refine WP_cond_false rfl ?_) | (with_reducible apply WP_skip) | (with_reducible apply WP_block)) | (refine Zhn ?_))
        all_goals
          obtain ⟨A7, c7, e7, hin7⟩ := in_ways (fun L => DrainIn.at_ (L := L) hA) (g.d.ways ++ [((x : Int), (y : Int))]) hxs2 (by rw [hml]; exact hs41)
          rw [hml] at e7 hin7
          rw [e7]
          obtain ⟨g', hg'⟩ : ∃ g' : Fg, { g with d := { g.d with ways := g.d.ways ++ [((x : Int), (y : Int))] }, A2 := A7, c2 := c7 } = g' := ⟨_, rfl⟩
          have hd' : g'.d = addW1 g.d ((x : Int), (y : Int)) := by rw [← hg']; rfl
          have hv' : VD g'.d := by rw [hd']; exact VD_addW hv (by omega) (by dsimp only; omega)
          have hbl : g'.d.banks.length = n := by rw [hd', ← hn]; rfl
          have hwy : g'.d.ways = g.d.ways ++ [((x : Int), (y : Int))] := by rw [hd']; rfl
          have hwl : g'.d.ways.length = m + 1 := by rw [hwy, hml]
          have hk1 : ∀ nx, keepS1 g'.d nx = keepS1 g.d nx := fun nx => by rw [hd']; rfl
          have hk2 : ∀ nx, keepS2 g'.d nx = keepS2 g.d nx := fun nx => by rw [hd']; rfl
          have hdr' : drV g' = .agg [.slice g.A1 n g.c1, .slice A7 (m + 1) c7, .slice g.A3 g.d.rights.length g.c3, .slice g.A4 g.d.seen.length g.c4].toArray := by rw [← hg']; unfold drV drL; dsimp only; rw [hn, hml]
          have hp8 : 2 ^ (m + 1) ≤ 2 ^ 7 := Nat.pow_le_pow_right (by omega) (by omega)
          have hev := fun L => every_refR N w0 L g' (by omega)
          have hel : evD g'.d ≤ 1000000 := by unfold evD; rw [hwl]; omega
          have hcall := fun L hI lv hl A c h => kept_in N w0 L g' hI hv' lv hl A c h (evD g'.d) hel
          rw [ways_every (by omega), hwy] at hcall
          simp only [hk1, hk2] at hcall
          rw [hdr', hbl] at hcall
          rw [hdr'] at hev
          obtain ⟨ed, hed⟩ : ∃ ed, evD g'.d = ed := ⟨_, rfl⟩
          rw [hed] at hcall hev
          obtain ⟨H2, hH2⟩ : ∃ H2, svH 45 2 (m + 1) (xs ++ [.int .i64 (x : Int), .int .i64 (y : Int)]) s41 ((b10, Blk 26 [.slice g.A1 n g.c1, .slice A7 (m + 1) c7, .slice g.A3 g.d.rights.length g.c3, .slice g.A4 g.d.seen.length g.c4]) :: H) = H2 := ⟨_, rfl⟩
          have hW2 : Wk H2 H := by rw [← hH2]; exact .svD (.drop (.refl _))
          have m10 : Mem b10 (Blk 26 [.slice g.A1 n g.c1, .slice A7 (m + 1) c7, .slice g.A3 g.d.rights.length g.c3, .slice g.A4 g.d.seen.length g.c4]) H2 := by rw [← hH2]; exact (by repeat (first | exact Mem.here | assumption | apply Mem.there | apply Mem.sv | apply Mem.app))
          have hin8 : ∀ L', Sub H2 L' → DrainIn N w0 L' g' := fun L' h => by
            have := hin7 L' (Sub.trans (by rw [← hH2]; exact ⟨(b10, _) :: H, by rw [svH_nil]⟩) h)
            rw [hg'] at this
            exact this
          refine WP_sub (B := H2) (by rw [← hH2]; exact .cons (Sub.refl _)) ?_
          refine WP_loop [11, 12, 13, 14, 15, 43, 44, 45, 46, 47, 48, 49, 50, 51, 52, 53, 54, 55, 56, 57, 58, 59, 60, 61, 62, 63, 64, 65, 66, 67] (fun k : Nat => [(11, .bool ((T.take k).all (fun lv => keepS1 g.d (nxt (g.d.ways ++ [((x : Int), (y : Int))]) lv)))), (12, .bool ((T.take k).any (fun lv => keepS2 g.d (nxt (g.d.ways ++ [((x : Int), (y : Int))]) lv)))), (13, .int .i64 (k : Int))]) (fun _ => H2) (fun k => k ≤ T.length) (fun k => T.length - k) 0 (.cons rfl (.cons rfl (.cons rfl .nil))) (Wk.refl _) (Nat.zero_le _) ?_
          intro k j hk
          by_cases hkl : k < T.length
          · have hTm : T[k] ∈ T := List.getElem_mem hkl
            have hlk := hrow _ hTm
            have hst := eachK (p := fun lv => keepS1 g.d (nxt (g.d.ways ++ [((x : Int), (y : Int))]) lv)) hkl
            have hst2 := someK2 (p := fun lv => keepS2 g.d (nxt (g.d.ways ++ [((x : Int), (y : Int))]) lv)) hkl
            obtain ⟨A4, c4', hrk⟩ := hrr k hkl
            have hrk2 := fun L' (h : Wk L' H2) => hrk L' (h.trans hW2)
            rw [hn] at hlk
            have hck := fun L' (h : Sub H2 L') (h2 : Wk L' H2) => hcall L' (hin8 L' h) T[k] hlk A4 c4' (hrk2 L' h2).2
            obtain ⟨r, hr⟩ : ∃ r, T[k] = r := ⟨_, rfl⟩
            rw [hr] at hst hst2 hck hrk2 hlk
            rw [hlk] at hrk2
            obtain ⟨a1, ha1⟩ : ∃ z, keepS1 g.d (nxt (g.d.ways ++ [((x : Int), (y : Int))]) r) = z := ⟨_, rfl⟩
            obtain ⟨a2, ha2⟩ : ∃ z, keepS2 g.d (nxt (g.d.ways ++ [((x : Int), (y : Int))]) r) = z := ⟨_, rfl⟩
            rw [ha1, ha2] at hck
            rw [ha1] at hst
            rw [ha2] at hst2
            obtain ⟨o, ho⟩ : ∃ o, (T.take k).all (fun lv => keepS1 g.d (nxt (g.d.ways ++ [((x : Int), (y : Int))]) lv)) = o := ⟨_, rfl⟩
            obtain ⟨o2, ho2⟩ : ∃ o, (T.take k).any (fun lv => keepS2 g.d (nxt (g.d.ways ++ [((x : Int), (y : Int))]) lv)) = o := ⟨_, rfl⟩
            rw [ho] at hst ⊢
            rw [ho2] at hst2 ⊢
            clear hrk hcall hin7 hrr
            repeat' (first | (refine Znh ?_) | (refine GiW ?_; first | (refine Zsq fun K hK => ?_) | (refine ZrN 10 fun _ => ?_; refine Zv Zmi ?_; refine Zv Zmv ?_; refine Zv Zxlen ?_; refine Zv Zylss ?_) | (refine WP_cond_true rfl ?_) | (with_reducible apply WP_skip) | (with_reducible apply WP_block) | (refine WP_drawn (id := 12) [0, 1, 2, 3, 4, 5, 6, 7, 8, 9, 10, 11, 12] [] (k := 0) prog_mixed (by kernel_rfl) rfl ?_; (first | (refine Zew rfl (Val_loadD1 rfl (hrk2 _ (by repeat (first | exact Wk.refl _ | apply Wk.keep1 | apply Wk.drop | apply Wk.sv | apply Wk.svD | apply Wk.appD))).1) ?_) | (refine Zew rfl Zla ?_)); refine Zew rfl Zmv ?_; refine Zew rfl Zmi ?_; (first | (refine Zew rfl (Val_indexAddr1 rfl rfl rfl hkl) ?_) | (refine Zew rfl Zia ?_)); (first | (refine Zew rfl (Val_loadD1 rfl (hrk2 _ (by repeat (first | exact Wk.refl _ | apply Wk.keep1 | apply Wk.drop | apply Wk.sv | apply Wk.svD | apply Wk.appD))).1) ?_) | (refine Zew rfl Zld ?_)); (first | (refine Zew rfl (Val_loadD1 rfl (hrk2 _ (by repeat (first | exact Wk.refl _ | apply Wk.keep1 | apply Wk.drop | apply Wk.sv | apply Wk.svD | apply Wk.appD))).1) ?_) | (refine Zew rfl Zla ?_)); refine Zec rfl (Enters_fn rfl) (fun X => hev _) ?_; refine Zec rfl (Enters_fn rfl) (fun X => hck _ (by repeat (first | exact Sub.refl _ | assumption | exact Sub.left | apply Sub.cons | apply Sub.sv | apply Sub.app)) (by repeat (first | exact Wk.refl _ | apply Wk.keep1 | apply Wk.drop | apply Wk.sv | apply Wk.svD | apply Wk.appD))) ?_; refine Zew rfl Zmv ?_; refine Zew rfl Zxex ?_; refine Zew rfl Zxex ?_; refine Zew rfl Zab ?_; refine Zew rfl Zab ?_)) | (with_reducible apply EWalk_nil) | (refine AnyO_done (by kernel_rfl) ?_; (try with_reducible apply noP_normal); try with_reducible exact key.out) | (refine Zhn ?_) | (refine AWalk_0 ?_; refine ZisO ?_))
            all_goals
              cases o <;> cases o2
              all_goals
                repeat' (first | (refine GiP ?_; first | (with_reducible refine Znl ?_) | (refine Zatd 63 ?_; (first | (refine Zv Zxpt ?_) | (refine Zv Zxpf ?_)); refine Zv Zmb ?_; refine Zv Zmb ?_) | (refine Zatd 67 ?_; (first | (refine Zv Zxpt ?_) | (refine Zv Zxpf ?_)); refine Zv Zab ?_; refine Zv Zab ?_) | (refine Zatd 62 ?_; first | refine Zsk ?_ | (refine Zv Zmb ?_)) | (refine Zatd 66 ?_; first | refine Zsk ?_ | (refine Zv Zmb ?_))) | (refine GiW ?_; first | (refine ZrG 13 ?_; refine Zv Zmb ?_; refine Zv Zmb ?_) | (refine ZrN 11 fun _ => ?_; refine Zv Zmi ?_; refine Zv Zxadd ?_; refine Zv Zai ?_)) | (refine Zhn ?_) | (with_reducible apply QBlock_normal))
                all_goals exact QLoop_normal (k + 1) (.cons (by rw [hst]; rfl) (.cons (by rw [hst2]; rfl) (.cons rfl .nil))) (by repeat (first | exact Off.frame rfl | exact Off.refl _ _ | refine Off.frameT rfl rfl ?_ | refine Off.upd rfl ?_ | refine Off.updO rfl ?_)) (by repeat (first | exact Wk.refl _ | apply Wk.keep1 | apply Wk.drop | apply Wk.sv | apply Wk.svD | apply Wk.appD)) (by omega) (by omega)
          · have hke : k = T.length := by omega
            rw [hke, List.take_length]
            obtain ⟨o, ho⟩ : ∃ o, T.all (fun lv => keepS1 g.d (nxt (g.d.ways ++ [((x : Int), (y : Int))]) lv)) = o := ⟨_, rfl⟩
            obtain ⟨o2, ho2⟩ : ∃ o, T.any (fun lv => keepS2 g.d (nxt (g.d.ways ++ [((x : Int), (y : Int))]) lv)) = o := ⟨_, rfl⟩
            rw [ho, ho2]
            cases o <;> cases o2
            all_goals
              repeat' (first | (refine Znh ?_) | (refine GiW ?_; first | (refine Zsq fun K hK => ?_) | (refine ZrN 10 fun _ => ?_; refine Zv Zmi ?_; refine Zv Zmv ?_; refine Zv Zxlen ?_; refine Zv Zylss ?_) | (refine ZrN 14 fun _ => ?_; refine Zv Zmb ?_) | (refine ZrN 15 fun _ => ?_; refine Zv Zai ?_; refine Zv Zai ?_) | (refine ZrN 16 fun _ => ?_; refine Zv Zmb ?_) | (refine ZrN 17 fun _ => ?_; refine Zv Zai ?_; refine Zv Zai ?_) | (refine ZrN 18 fun _ => ?_; refine Zv Zai ?_; refine Zv Zai ?_) | (refine WP_cond_true rfl ?_) | (refine WP_cond_false rfl ?_) | (with_reducible apply WP_skip) | (with_reducible apply WP_exit) | (with_reducible apply WP_ret)) | (refine Zhn ?_) | (refine Zhx ?_) | (with_reducible apply QBlock_hit) | (with_reducible apply QLoop_exit) | (refine Zhr ?_))
              all_goals exact QBody_res rfl (.tmp (rfl : _ = Value.int _ _) (.tmp (rfl : _ = Value.int _ _) .nil)) rfl ⟨by rw [ho, ho2]; rfl, hW2.trans hWH⟩
    · rw [hm, if_neg h7] at hDE
      have hDV : DigV g.d x y = 0 := by unfold DigV; rw [hDE, if_neg (by omega)]
      rw [hDE, hDV]
      have hm7 : m = 7 := by omega
      refine Ret.fgt ?_
      refine tri_of_WP Tryz.func19 rfl (n := _) rfl (by simp) ?_
      unfold drV drL at hbk hkn3 ⊢
      rw [hm] at hbk hkn3 ⊢
      repeat' (first | (refine GiP ?_; first | (refine Znh ?_) | (with_reducible refine Znl ?_) | (refine Zatd 22 ?_; refine OPS_retKS (Enters_fn rfl) (hkn3 _) rfl rfl rfl (fun v15 L15 h15 => ?_); obtain ⟨A9, n9, c9, X9, rfl, rfl, hr9⟩ := h15) | (refine Zatd 16 ?_; refine Zv Zmv ?_) | (refine Zatd 23 ?_; refine Zv Zxex ?_) | (refine Zatd 24 ?_; refine Zv Zxex ?_) | (refine Zatd 8 ?_; refine Zv Zav ?_) | (refine Zatd 9 ?_; refine Zv Zai ?_)) | (refine GiW ?_; first | (refine Zsq fun K hK => ?_) | (refine ZrN 0 fun _ => ?_; refine Zal 3 fun b3 => ?_; refine Zv Zai ?_; refine Zv Zai ?_) | (refine ZrN 2 fun _ => ?_; refine Zv Zmi ?_; refine Zv Zyneq ?_) | (refine ZrN 4 fun _ => ?_; refine Zv Zfa ?_; refine Zv Zld ?_; refine Zv Zxlen ?_; refine Zv Zyeql ?_) | (refine ZrN 5 fun _ => ?_; refine Zv Zai ?_; refine Zv Zai ?_) | (refine WP_cond_true rfl ?_) | (refine WP_cond_false rfl ?_) | (with_reducible apply WP_skip) | (with_reducible apply WP_ret) | (refine WP_drawnS (id := 1) [] [0, 1, 2, 3, 4] [] [] (k := 0) (k2 := 6) (by repeat (first | apply Sub.sv | apply Sub.keep | apply Sub.appK | exact Sub.refl _)) (by kernel_rfl) prog_mixed (by kernel_rfl) (by kernel_rfl) rfl ?_; refine Zew rfl Zla ?_; refine Zew rfl Zla ?_; refine Zew rfl Zmi ?_; refine Zew rfl Zmi ?_; refine Zec rfl (Enters_fn rfl) (fun X => hbk _) ?_)) | (with_reducible apply EWalk_nil) | (refine ZgC [0, 1, 2, 3, 4] ?_; refine ZCl _ ?_) | (refine GiO ?_; first | (refine ZgO [0, 1, 2, 3, 4] ?_; refine ZO1 _ 5 [0, 1, 2, 3, 4, 5] ?_) | (refine ZgO [0, 1, 2, 3, 4, 5] ?_; refine ZO1 _ 6 [0, 1, 2, 3, 4, 5, 6] ?_) | (refine ZgO [0, 1, 2, 3, 4, 5, 6] ?_; refine ZO2 _ 7 [0, 1, 2, 3, 4, 5, 6, 7] 8 [0, 1, 2, 3, 4, 5, 6, 8] ?_ ?_) | (refine ZgO [0, 1, 2, 3, 4, 5, 6, 7] ?_; refine ZO2 _ 8 [0, 1, 2, 3, 4, 5, 6, 7, 8] 9 [0, 1, 2, 3, 4, 5, 6, 7, 9] ?_ ?_) | (refine ZgO [0, 1, 2, 3, 4, 5, 6, 7, 8] ?_; refine ZO1 _ 9 [0, 1, 2, 3, 4, 5, 6, 7, 8, 9] ?_) | (refine ZgO [0, 1, 2, 3, 4, 5, 6, 7, 8, 9] ?_; refine ZO1 _ 10 [0, 1, 2, 3, 4, 5, 6, 7, 8, 9, 10] ?_) | (refine ZgO [0, 1, 2, 3, 4, 5, 6, 7, 8, 9, 10] ?_; refine ZOd _ ?_; (try with_reducible apply noP_normal); (try with_reducible exact key.out)) | (refine ZgO [0, 1, 2, 3, 4, 5, 6, 7, 9] ?_; refine ZO1 _ 8 [0, 1, 2, 3, 4, 5, 6, 7, 8, 9] ?_) | (refine ZgO [0, 1, 2, 3, 4, 5, 6, 8] ?_; refine ZO1 _ 7 [0, 1, 2, 3, 4, 5, 6, 7, 8] ?_)) | (refine Zhn ?_) | (refine Zhr ?_) | (refine AWalk_0 ?_) | (with_reducible apply QAny_normal))
      all_goals exact QBody_res rfl (.tmp (rfl : _ = Value.int _ _) (.tmp (rfl : _ = Value.int _ _) .nil)) rfl ⟨rfl, (Wk.app X9 _).trans (.drop (.refl _))⟩
  · rw [if_neg h0] at hDE
    have hDV : DigV g.d a b = 0 := by unfold DigV; rw [hDE, if_neg h0]
    rw [hDE, hDV]
    have heb : 0 ≤ e ∧ e ≤ 10 := by rw [← he]; unfold errD; cases vB g.d <;> cases ok <;> cases someB g.d <;> decide
    refine Ret.fgt ?_
    refine tri_of_WP Tryz.func19 rfl (n := _) rfl (by simp) ?_
    unfold drV drL at hbk hkn2 ⊢
    repeat' (first | (refine GiP ?_; first | (refine Znh ?_) | (with_reducible refine Znl ?_) | (refine Zatd 22 ?_; refine OPS_retKS (Enters_fn rfl) (hkn2 _) rfl rfl rfl (fun v15 L15 h15 => ?_); obtain ⟨A9, n9, c9, X9, rfl, rfl, hr9⟩ := h15) | (refine Zatd 16 ?_; refine Zv Zmv ?_) | (refine Zatd 23 ?_; refine Zv Zxex ?_) | (refine Zatd 24 ?_; refine Zv Zxex ?_) | (refine Zatd 8 ?_; refine Zv Zav ?_) | (refine Zatd 9 ?_; refine Zv Zai ?_)) | (refine GiW ?_; first | (refine Zsq fun K hK => ?_) | (refine ZrN 0 fun _ => ?_; refine Zal 3 fun b3 => ?_; refine Zv Zai ?_; refine Zv Zai ?_) | (refine ZrN 2 fun _ => ?_; refine Zv Zmi ?_; refine Zv Zyneq ?_) | (refine ZrN 3 fun _ => ?_; refine Zv Zmi ?_; refine Zv Zai ?_; refine Zv Zai ?_) | (refine WP_cond_true rfl ?_) | (with_reducible apply WP_ret) | (refine WP_drawnS (id := 1) [] [0, 1, 2, 3, 4] [] [] (k := 0) (k2 := 6) (by repeat (first | apply Sub.sv | apply Sub.keep | apply Sub.appK | exact Sub.refl _)) (by kernel_rfl) prog_mixed (by kernel_rfl) (by kernel_rfl) rfl ?_; refine Zew rfl Zla ?_; refine Zew rfl Zla ?_; refine Zew rfl Zmi ?_; refine Zew rfl Zmi ?_; refine Zec rfl (Enters_fn rfl) (fun X => hbk _) ?_)) | (with_reducible apply EWalk_nil) | (refine ZgC [0, 1, 2, 3, 4] ?_; refine ZCl _ ?_) | (refine GiO ?_; first | (refine ZgO [0, 1, 2, 3, 4] ?_; refine ZO1 _ 5 [0, 1, 2, 3, 4, 5] ?_) | (refine ZgO [0, 1, 2, 3, 4, 5] ?_; refine ZO1 _ 6 [0, 1, 2, 3, 4, 5, 6] ?_) | (refine ZgO [0, 1, 2, 3, 4, 5, 6] ?_; refine ZO2 _ 7 [0, 1, 2, 3, 4, 5, 6, 7] 8 [0, 1, 2, 3, 4, 5, 6, 8] ?_ ?_) | (refine ZgO [0, 1, 2, 3, 4, 5, 6, 7] ?_; refine ZO2 _ 8 [0, 1, 2, 3, 4, 5, 6, 7, 8] 9 [0, 1, 2, 3, 4, 5, 6, 7, 9] ?_ ?_) | (refine ZgO [0, 1, 2, 3, 4, 5, 6, 7, 8] ?_; refine ZO1 _ 9 [0, 1, 2, 3, 4, 5, 6, 7, 8, 9] ?_) | (refine ZgO [0, 1, 2, 3, 4, 5, 6, 7, 8, 9] ?_; refine ZO1 _ 10 [0, 1, 2, 3, 4, 5, 6, 7, 8, 9, 10] ?_) | (refine ZgO [0, 1, 2, 3, 4, 5, 6, 7, 8, 9, 10] ?_; refine ZOd _ ?_; (try with_reducible apply noP_normal); (try with_reducible exact key.out)) | (refine ZgO [0, 1, 2, 3, 4, 5, 6, 7, 9] ?_; refine ZO1 _ 8 [0, 1, 2, 3, 4, 5, 6, 7, 8, 9] ?_) | (refine ZgO [0, 1, 2, 3, 4, 5, 6, 8] ?_; refine ZO1 _ 7 [0, 1, 2, 3, 4, 5, 6, 7, 8] ?_)) | (refine Zhn ?_) | (refine Zhr ?_) | (refine AWalk_0 ?_) | (with_reducible apply QAny_normal))
    all_goals exact QBody_res rfl (.tmp (rfl : _ = Value.int _ _) (.tmp (rfl : _ = Value.int _ _) .nil)) rfl ⟨rfl, (Wk.app X9 _).trans (.drop (.refl _))⟩
end
end Go.Proofs.YtbhgpnbfdjoglaaGreat
end
