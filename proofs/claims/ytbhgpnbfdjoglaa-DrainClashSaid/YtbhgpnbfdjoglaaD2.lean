/- The law DrainClash: sets of what was seen in plain terms; its walk. -/
import Derived.Test.YtbhgpnbfdjoglaaC2
import Derived.Test.YtbhgpnbfdjoglaaC3
section
namespace Go.Proofs.Ytbhgpnbfdjoglaa
open Go.RowKit
theorem someB_only {d : Dr} (z : Nat) (h : someB d = true) : someB (onlyD d z) = true := by
  unfold someB at h ⊢
  rw [List.any_eq_true] at h ⊢
  obtain ⟨lv, h1, h2⟩ := h
  exact ⟨lv, h1, rightB_iff.2 fun w hw => rightB_iff.1 h2 w (pickL_sub _ _ _ w hw)⟩
theorem InR_low : ∀ (l : List Bk), (∀ b ∈ l, b.lv.1 ≤ b.lv.2) → InR (l.map (·.lv)) (l.map (·.lv.1))
  | [], _ => .nil
  | b :: l, h => .cons ⟨Int.le_refl _, h b (.head _)⟩ (InR_low l fun x hx => h x (.tail _ hx))
theorem someB_zero {d : Dr} (v : VD d) : someB (onlyD d 0) = true := by
  unfold someB
  rw [List.any_eq_true]
  refine ⟨d.banks.map (·.lv.1), (rowsD_iff (d := d)).2 (InR_low d.banks fun b hb => (v.bk b hb).1.2.1), rightB_iff.2 fun w hw => ?_⟩
  obtain ⟨j, _, h⟩ := pickL_mem.1 hw
  simp at h
theorem clash_facts {d : Dr} (v : VD d) : (someB d = true ∧ ClashE d = 4 ∧ ClashV d = 0) ∨
    (someB d = false ∧ ClashE d = 0 ∧ 1 ≤ ClashV d ∧ ClashV d < 2 ^ d.seen.length ∧ someB (onlyD d (ClashV d)) = false ∧
      (∀ k, k < d.seen.length → ClashV d / 2 ^ k % 2 = 1 → ClashV d &&& (2 ^ 64 - 1 - 2 ^ k) = ClashV d - 2 ^ k ∧ someB (onlyD d (ClashV d - 2 ^ k)) = true) ∧
      ∀ z, z < 2 ^ d.seen.length → someB (onlyD d z) = false → pc (ClashV d) ≤ pc z ∧ (pc z = pc (ClashV d) → ClashV d ≤ z)) := by
  have hns := v.ns
  have hm8 : d.seen.length < 8 := by omega
  have hvb := vB_of v
  have hp7 : 2 ^ d.seen.length ≤ 2 ^ 7 := Nat.pow_le_pow_right (by omega) (by omega)
  have hpos := Nat.two_pow_pos d.seen.length
  cases h0 : someB d with
  | true =>
    left
    have hn : clashS d = none := by
      unfold clashS
      rw [List.find?_eq_none]
      intro x _
      simp [someB_only x h0]
    exact ⟨rfl, by simp [ClashE, hvb, hn], by simp [ClashV, ClashE, hvb, hn]⟩
  | false =>
    right
    cases hf : clashS d with
    | none =>
      have := sets_none hm8 hf (2 ^ d.seen.length - 1) (by omega)
      rw [onlyD_all v, h0] at this
      simp at this
    | some y =>
      have hE : ClashE d = 0 := by simp [ClashE, hvb, hf]
      have hV : ClashV d = y := by simp [ClashV, hE, hf]
      rw [hV]
      obtain ⟨h1, h2, h3⟩ := sets_find hm8 hf
      have hy0 : someB (onlyD d y) = false := by simpa using h1
      have hless : ∀ z, z < 2 ^ d.seen.length → someB (onlyD d z) = false → z = y ∨ LexLt y z := fun z hz hs => h3 z hz (by simp [hs])
      refine ⟨rfl, hE, ?_, h2, hy0, ?_, ?_⟩
      · cases y with
        | zero => rw [someB_zero v] at hy0; cases hy0
        | succ y => omega
      · intro k hk hb
        obtain ⟨b1, b2⟩ := bits_less y (by omega) k (by omega) hb
        refine ⟨b1, ?_⟩
        cases hc : someB (onlyD d (y - 2 ^ k)) with
        | true => rfl
        | false =>
          have := hless (y - 2 ^ k) (Nat.lt_of_le_of_lt (Nat.sub_le _ _) h2) hc
          rcases this with h | h
          · have hp := Nat.two_pow_pos k
            have : 2 ^ k ≤ y := by
              apply Nat.le_of_not_lt
              intro hlt
              rw [Nat.div_eq_of_lt hlt] at hb
              simp at hb
            omega
          · unfold LexLt at h; omega
      · intro z hz hs
        rcases hless z hz hs with h | h
        · subst h; exact ⟨Nat.le_refl _, fun _ => Nat.le_refl _⟩
        · unfold LexLt at h; omega
theorem in_seen {N : Nat} {w0 : World} {g : Fg} (hin : ∀ L, DrainIn N w0 L g) (ls : List Sp) {s : Option (Nat × Nat)} {xs : List Value} (hx : xs = (ls.map spL).flatten) (hs : svOk s 2 ls.length xs) :
    ∃ A9 c9, svV s ls.length = .slice A9 ls.length c9 ∧ ∀ L', Sub (svH 32 2 ls.length xs s []) L' → DrainIn N w0 L' { g with d := { g.d with seen := ls }, A4 := A9, c4 := c9 } := by
  obtain ⟨A9, c9, e9, hsl⟩ := sl_sv (E := 32) (by omega) hs
  refine ⟨A9, c9, e9, fun L' hS w hI => ?_⟩
  obtain ⟨L0, hp⟩ := hS
  have hI2 := (hI.perm hp)
  rw [svH_nil] at hI2
  have hb := hin L' w hI
  exact ⟨hb.banks, hb.ways, hb.rights, hsl hI2 hx (map_len (f := spL) (fun _ => rfl) _)⟩
section
variable {P : Program} {N : Nat} {w0 : World} {L : Hp} {e : Env} {d : Option Nat} {ty : TypeId} {pos : String} {af : Array Edge} {g : Option (Nat × Bool)}
theorem Val_andE {x y : Operand} {t t' : TypeId} {a b c : Nat} (hc : a &&& b = c) (ha : a < 2 ^ 63) (hb : b < 2 ^ 63) (hx : ev e x = .int .i64 (a : Int)) (hy : ev e y = .int .i64 (b : Int)) : Val P N w0 L e ⟨d, .binOp .and t x y t', ty, pos, af, g⟩ (.int .i64 (c : Int)) := by
  subst hc
  exact Val_andS hx hy ha hb
theorem Val_andNotE {x y : Operand} {t t' : TypeId} {a b c : Nat} (hc : a &&& (2 ^ 64 - 1 - b) = c) (ha : a < 2 ^ 63) (hb : b < 2 ^ 63) (hx : ev e x = .int .i64 (a : Int)) (hy : ev e y = .int .i64 (b : Int)) : Val P N w0 L e ⟨d, .binOp .andNot t x y t', ty, pos, af, g⟩ (.int .i64 (c : Int)) := by
  subst hc
  exact Val_andNotS hx hy ha hb
end
attribute [local irreducible] AnyO AnyB QAny QB EWalk AWalk Ev WP OPS QThen QBlock QScope QLoop QBody Val New Turn Tri Enters PostA Blk Ro
attribute [local irreducible] AnyC QC
section
variable (N : Nat) (w0 : World)
set_option maxRecDepth 100000 in
set_option maxHeartbeats 4000000 in
theorem clash1_ret (L : Hp) (g : Fg) (hA : DrAt N w0 g) (hv : VD g.d) (bh : Nat) (hm : Mem bh (Blk 29 (drL g)) L) (x : Nat) (hx : x < 128) : Ret Try.prog N w0 L 35 [.int .i64 (x : Int), .pointer (some ⟨bh, 0, none⟩)].toArray (.bool (!someB (onlyD g.d x))) := by
  have hns := hv.ns
  have hnb := hv.nb
  have hvx := VD_only hv x
  refine Ret.fgt ?_
  refine tri_of_WP Try.func35 rfl (n := 38) rfl (by simp) ?_
  unfold drL at hm
  repeat' (first | (refine GiP ?_; first | (refine Znh ?_) | (with_reducible refine Znl ?_)) | (refine GiW ?_; first | (refine Zsq fun K hK => ?_) | (refine ZrN 0 fun _ => ?_; refine Zv Zab ?_) | (refine ZrN 1 fun _ => ?_; refine Zv Zla ?_; refine Zal 4 fun b4 => ?_; refine Zst ?_) | (refine ZrN 2 fun _ => ?_; refine Zv Zfa ?_; refine Zst ?_) | (refine ZrN 3 fun _ => ?_; refine Zv Zfa ?_; refine Zv Zld ?_; refine Zv Zxlen ?_; refine Zv Zmi ?_) | (refine WP_cond_true rfl ?_) | (refine WP_cond_false rfl ?_) | (refine Zcd (fun hc => ?_) (fun hc => ?_) <;> (try (exfalso; omega))) | (with_reducible apply WP_skip) | (with_reducible apply WP_block) | (with_reducible apply WP_exit) | (with_reducible apply WP_ret)) | (refine Zhn ?_) | (with_reducible apply QBlock_normal) | (refine Zhx ?_) | (with_reducible apply QBlock_hit) | (refine Zqb ?_) | (with_reducible apply QLoop_exit) | (refine Zhr ?_) | (with_reducible apply QBlock_ret) | (with_reducible apply QLoop_ret))
  refine WP_loop [5, 6, 14, 15, 16, 17, 18, 19, 20, 21, 22, 23, 24, 25, 26, 27, 28, 29, 30] (fun st : Nat × List Sp × Option (Nat × Nat) => [(14, .int .i64 st.1)]) (fun st => svH 32 2 st.2.1.length ((st.2.1.map spL).flatten) st.2.2 ((b4, Blk 29 [.slice g.A1 g.d.banks.length g.c1, .slice g.A2 g.d.ways.length g.c2, .slice g.A3 g.d.rights.length g.c3, svV st.2.2 st.2.1.length]) :: L)) (fun st => st.1 ≤ g.d.seen.length ∧ st.2.1 = pickL x (g.d.seen.take st.1) 0 ∧ svOk st.2.2 2 st.2.1.length ((st.2.1.map spL).flatten)) (fun st => g.d.seen.length - st.1) (0, [], none) (.cons rfl .nil) (Wk.refl _) ⟨Nat.zero_le _, rfl, svOk_nil _⟩ ?_
  rintro ⟨k, ys, s3⟩ j ⟨hk, hys, hs3⟩
  dsimp only at hk hys hs3 ⊢
  have hyl : ys.length ≤ 4 := by rw [hys]; exact Nat.le_trans (pickL_len _ _ _) (by rw [List.length_take]; omega)
  by_cases hkl : k < g.d.seen.length
  · obtain ⟨bA, oA, hA3, hbA, hcA⟩ := hA.seen.row k hkl
    obtain ⟨l, hl⟩ : ∃ l, g.d.seen[k] = l := ⟨_, rfl⟩
    rw [hl] at hcA
    obtain ⟨l1, l2⟩ := l
    have hsn := pickL_snoc x ((l1, l2) : Sp) (g.d.seen.take k) 0
    rw [Nat.zero_add, List.length_take, Nat.min_eq_left hk, ← hl, ← List.take_succ_eq_append_getElem hkl, ← hys, hl] at hsn
    obtain ⟨bt, hbt⟩ : ∃ bt, (x / 2 ^ k) &&& 1 = bt := ⟨_, rfl⟩
    have hb2 : bt = x / 2 ^ k % 2 := by rw [← hbt]; exact Nat.and_one_is_mod _
    have hsk : x / 2 ^ k < 2 ^ 63 := Nat.lt_of_le_of_lt (Nat.div_le_self _ _) (by omega)
    unfold spL at hcA
    dsimp only at hcA
    by_cases h1 : bt = 1
    · rw [if_pos (by omega)] at hsn
      have hnext : ((ys ++ [((l1, l2) : Sp)]).map spL).flatten = (ys.map spL).flatten ++ [.int .i64 l1, .int .i64 l2] := by simp [spL]
      repeat' (first | (refine GiP ?_; first | (refine Znh ?_) | (with_reducible refine Znl ?_)) | (refine GiW ?_; first | (refine Zsq fun K hK => ?_) | (refine ZrN 4 fun _ => ?_; refine Zv Zylss ?_) | (refine ZrN 5 fun _ => ?_; refine Zv Zmi ?_; refine Zv Zia ?_; refine Zv Zla ?_; refine Zal 6 fun b6 => ?_; refine Zv Zai ?_; refine Zst ?_) | (refine ZrN 6 fun _ => ?_; refine Zv Zmi ?_; refine Zv Zmi ?_; refine Zv (Val_shr (i := k) rfl rfl (by show k ≤ 64; omega)) ?_; refine Zv (Val_andE hbt hsk (by omega) rfl rfl) ?_; refine Zv Zyeql ?_) | (refine ZrN 7 fun _ => ?_; refine Zv Zfa ?_; refine Zv Zld ?_; refine Zv Zla ?_; refine Zal 27 fun b27 => ?_; refine Zag (fun s28 hs28 => ?_); refine Zv Zfa ?_; refine Zst ?_) | (refine ZrN 8 fun _ => ?_; refine Zv Zxadd ?_; refine Zv Zmi ?_) | (refine WP_cond_true rfl ?_) | (refine WP_cond_false rfl ?_) | (refine Zcd (fun hc => ?_) (fun hc => ?_) <;> (try (exfalso; omega))) | (with_reducible apply WP_skip) | (with_reducible apply WP_block) | (with_reducible apply WP_exit) | (with_reducible apply WP_ret)) | (refine Zhn ?_) | (with_reducible apply QBlock_normal) | (refine Zhx ?_) | (with_reducible apply QBlock_hit) | (refine Zqb ?_) | (with_reducible apply QLoop_exit) | (refine Zhr ?_) | (with_reducible apply QBlock_ret) | (with_reducible apply QLoop_ret))
      refine QLoop_normal (k + 1, ys ++ [(l1, l2)], s28) (.cons rfl .nil) (by repeat (first | exact Off.frame rfl | exact Off.refl _ _ | refine Off.frameT rfl rfl ?_ | refine Off.upd rfl ?_ | refine Off.updO rfl ?_)) ?_ ⟨by dsimp only; omega, hsn.symm, by dsimp only; rw [hnext, List.length_append]; exact hs28⟩ (by dsimp only; omega)
      dsimp only
      rw [hnext, List.length_append, List.length_singleton]
      exact (by repeat (first | exact Wk.refl _ | apply Wk.keep1 | apply Wk.drop | apply Wk.sv | apply Wk.svD | apply Wk.appD))
    · rw [if_neg (by omega), List.append_nil] at hsn
      repeat' (first | (refine GiP ?_; first | (refine Znh ?_) | (with_reducible refine Znl ?_)) | (refine GiW ?_; first | (refine Zsq fun K hK => ?_) | (refine ZrN 4 fun _ => ?_; refine Zv Zylss ?_) | (refine ZrN 5 fun _ => ?_; refine Zv Zmi ?_; refine Zv Zia ?_; refine Zv Zla ?_; refine Zal 6 fun b6 => ?_; refine Zv Zai ?_; refine Zst ?_) | (refine ZrN 6 fun _ => ?_; refine Zv Zmi ?_; refine Zv Zmi ?_; refine Zv (Val_shr (i := k) rfl rfl (by show k ≤ 64; omega)) ?_; refine Zv (Val_andE hbt hsk (by omega) rfl rfl) ?_; refine Zv Zyeql ?_) | (refine ZrN 8 fun _ => ?_; refine Zv Zxadd ?_; refine Zv Zmi ?_) | (refine WP_cond_true rfl ?_) | (refine WP_cond_false rfl ?_) | (refine Zcd (fun hc => ?_) (fun hc => ?_) <;> (try (exfalso; omega))) | (with_reducible apply WP_skip) | (with_reducible apply WP_block) | (with_reducible apply WP_exit) | (with_reducible apply WP_ret)) | (refine Zhn ?_) | (with_reducible apply QBlock_normal) | (refine Zhx ?_) | (with_reducible apply QBlock_hit) | (refine Zqb ?_) | (with_reducible apply QLoop_exit) | (refine Zhr ?_) | (with_reducible apply QBlock_ret) | (with_reducible apply QLoop_ret))
      exact QLoop_normal (k + 1, ys, s3) (.cons rfl .nil) (by repeat (first | exact Off.frame rfl | exact Off.refl _ _ | refine Off.frameT rfl rfl ?_ | refine Off.upd rfl ?_ | refine Off.updO rfl ?_)) (by repeat (first | exact Wk.refl _ | apply Wk.keep1 | apply Wk.drop | apply Wk.sv | apply Wk.svD | apply Wk.appD)) ⟨by dsimp only; omega, hsn.symm, hs3⟩ (by dsimp only; omega)
  · have hke : k = g.d.seen.length := by omega
    rw [hke, List.take_length] at hys
    obtain ⟨A9, c9, e9, hin9⟩ := in_seen (fun L => DrainIn.at_ (L := L) hA) ys rfl hs3
    rw [e9]
    have hox : ({ g.d with seen := ys } : Dr) = onlyD g.d x := by unfold onlyD; rw [hys]
    rw [hox] at hin9
    have h24 := fun L h => Next_in N w0 L _ (hin9 L h) 0
    have hyl2 : (onlyD g.d x).seen.length = ys.length := by rw [hys]; rfl
    unfold drV drL at h24
    dsimp only at h24
    rw [hyl2] at h24
    have e1 : (onlyD g.d x).banks = g.d.banks := rfl
    have e2 : (onlyD g.d x).ways = g.d.ways := rfl
    have e3 : (onlyD g.d x).rights = g.d.rights := rfl
    rw [e1, e2, e3] at h24
    have hok : inN g.d.banks.length 0 = true := by simp only [inN, decide_eq_true_eq]; omega
    rw [hok] at h24
    cases h0 : someB (onlyD g.d x) with
    | false =>
      rw [errD_10 (vB_of hvx) rfl h0] at h24
      repeat' (first | (refine GiP ?_; first | (refine Znh ?_) | (with_reducible refine Znl ?_)) | (refine GiW ?_; first | (refine Zsq fun K hK => ?_) | (refine ZrN 4 fun _ => ?_; refine Zv Zylss ?_) | (refine ZrN 9 fun _ => ?_; refine Zv Zla ?_; refine Zcl (Enters_fn rfl) (h24 _ (by repeat (first | exact Sub.nil | exact Sub.refl _ | assumption | exact Sub.left | apply Sub.svK | apply Sub.sv | apply Sub.cons | apply Sub.app))) ?_; refine Zv Zmv ?_; refine Zv Zxex ?_; refine Zv Zxex ?_; refine Zv Zai ?_; refine Zv Zai ?_) | (refine ZrN 10 fun _ => ?_; refine Zv Zmi ?_; refine Zv Zyeql ?_; refine Zv Zab ?_) | (refine WP_cond_true rfl ?_) | (refine WP_cond_false rfl ?_) | (refine Zcd (fun hc => ?_) (fun hc => ?_) <;> (try (exfalso; omega))) | (with_reducible apply WP_skip) | (with_reducible apply WP_block) | (with_reducible apply WP_exit) | (with_reducible apply WP_ret)) | (refine Zhn ?_) | (with_reducible apply QBlock_normal) | (refine Zhx ?_) | (with_reducible apply QBlock_hit) | (refine Zqb ?_) | (with_reducible apply QLoop_exit) | (refine Zhr ?_) | (with_reducible apply QBlock_ret) | (with_reducible apply QLoop_ret))
      exact QBody_ret1 rfl (rfl : _ = Value.bool _) ⟨by rw [h0]; rfl, (by repeat (first | exact Wk.refl _ | apply Wk.keep1 | apply Wk.drop | apply Wk.sv | apply Wk.svD | apply Wk.appD))⟩
    | true =>
      rw [errD_1 (vB_of hvx) rfl h0] at h24
      repeat' (first | (refine GiP ?_; first | (refine Znh ?_) | (with_reducible refine Znl ?_)) | (refine GiW ?_; first | (refine Zsq fun K hK => ?_) | (refine ZrN 4 fun _ => ?_; refine Zv Zylss ?_) | (refine ZrN 9 fun _ => ?_; refine Zv Zla ?_; refine Zcl (Enters_fn rfl) (h24 _ (by repeat (first | exact Sub.nil | exact Sub.refl _ | assumption | exact Sub.left | apply Sub.svK | apply Sub.sv | apply Sub.cons | apply Sub.app))) ?_; refine Zv Zmv ?_; refine Zv Zxex ?_; refine Zv Zxex ?_; refine Zv Zai ?_; refine Zv Zai ?_) | (refine ZrN 10 fun _ => ?_; refine Zv Zmi ?_; refine Zv Zyeql ?_; refine Zv Zab ?_) | (refine WP_cond_true rfl ?_) | (refine WP_cond_false rfl ?_) | (refine Zcd (fun hc => ?_) (fun hc => ?_) <;> (try (exfalso; omega))) | (with_reducible apply WP_skip) | (with_reducible apply WP_block) | (with_reducible apply WP_exit) | (with_reducible apply WP_ret)) | (refine Zhn ?_) | (with_reducible apply QBlock_normal) | (refine Zhx ?_) | (with_reducible apply QBlock_hit) | (refine Zqb ?_) | (with_reducible apply QLoop_exit) | (refine Zhr ?_) | (with_reducible apply QBlock_ret) | (with_reducible apply QLoop_ret))
      exact QBody_ret1 rfl (rfl : _ = Value.bool _) ⟨by rw [h0]; rfl, (by repeat (first | exact Wk.refl _ | apply Wk.keep1 | apply Wk.drop | apply Wk.sv | apply Wk.svD | apply Wk.appD))⟩
theorem clash_law0 (L : Hp) (g : Fg) (a : Nat) (h : farB g.d = true) : Ret Try.prog N w0 L 8 [drV g, .int .u8 (a : Int)].toArray (.bool true) := by
  have h28 := fun L => long_ret N w0 L g
  have h13 := fun L => alive_ret N w0 L
  rw [h] at h28
  refine Ret.fgt ?_
  refine tri_of_WP Try.func8 rfl (n := 126) rfl (by simp) ?_
  unfold drV drL at h28 ⊢
  repeat' (first | (refine GiP ?_; first | (refine Znh ?_) | (with_reducible refine Znl ?_)) | (refine GiW ?_; first | (refine Zsq fun K hK => ?_) | (refine ZrN 0 fun _ => ?_; refine Zal 2 fun b2 => ?_; refine Zv Zab ?_) | (refine ZrN 1 fun _ => ?_; refine Zv Zla ?_; refine Zcl (Enters_fn rfl) (h28 _) ?_) | (refine ZrN 2 fun _ => ?_; refine Zcl (Enters_fn rfl) (h13 _) ?_; refine Zv Zab ?_) | (refine WP_cond_true rfl ?_) | (refine WP_cond_false rfl ?_) | (refine Zcd (fun hc => ?_) (fun hc => ?_) <;> (try (exfalso; omega))) | (with_reducible apply WP_skip) | (with_reducible apply WP_block) | (with_reducible apply WP_exit) | (with_reducible apply WP_ret)) | (refine Zhn ?_) | (with_reducible apply QBlock_normal) | (refine Zhx ?_) | (with_reducible apply QBlock_hit) | (refine Zqb ?_) | (with_reducible apply QLoop_exit) | (refine Zhr ?_) | (with_reducible apply QBlock_ret) | (with_reducible apply QLoop_ret))
  exact QBody_ret1 rfl (rfl : _ = Value.bool _) ⟨rfl, (by repeat (first | exact Wk.refl _ | apply Wk.keep1 | apply Wk.drop | apply Wk.sv | apply Wk.svD | apply Wk.appD))⟩
theorem clash_lawN (L : Hp) (g : Fg) (hA : DrAt N w0 g) (a : Nat) (h : farB g.d = false) (hvb : vB g.d = false) : Ret Try.prog N w0 L 8 [drV g, .int .u8 (a : Int)].toArray (.bool true) := by
  have h28 := fun L => long_ret N w0 L g
  have h13 := fun L => alive_ret N w0 L
  have h29 := fun L => rDrain_in N w0 L g (DrainIn.at_ hA) h
  have h26 := fun L => Clash_in N w0 L g (DrainIn.at_ hA)
  have he : ClashE g.d = 1 := by simp [ClashE, hvb]
  have hz : ClashV g.d = 0 := by simp [ClashV, he]
  rw [h] at h28
  rw [hvb] at h29
  rw [he, hz] at h26
  refine Ret.fgt ?_
  refine tri_of_WP Try.func8 rfl (n := 126) rfl (by simp) ?_
  unfold drV drL at h28 h26 h29 ⊢
  repeat' (first | (refine GiP ?_; first | (refine Znh ?_) | (with_reducible refine Znl ?_) | (refine Zatd 28 ?_; (first | (refine Zv Zxpt ?_) | (refine Zv Zxpf ?_)); refine Zv Zmb ?_) | (refine Zatd 31 ?_; (first | (refine Zv Zxpt ?_) | (refine Zv Zxpf ?_)); refine Zv Zab ?_) | (refine Zatd 26 ?_; first | refine Zsk ?_ | (refine Zv Zmi ?_)) | (refine Zatd 27 ?_; first | refine Zsk ?_ | (refine Zv Zyeql ?_)) | (refine Zatd 30 ?_; first | refine Zsk ?_ | (refine Zcl (Enters_fn rfl) (h13 _) ?_)) | (refine Zsk ?_) | (refine Zsp (fun hc => ?_) (fun hc => ?_) <;> (try (exfalso; omega)))) | (refine GiW ?_; first | (refine Zsq fun K hK => ?_) | (refine ZrN 0 fun _ => ?_; refine Zal 2 fun b2 => ?_; refine Zv Zab ?_) | (refine ZrN 1 fun _ => ?_; refine Zv Zla ?_; refine Zcl (Enters_fn rfl) (h28 _) ?_) | (refine ZrN 3 fun _ => ?_; refine Zv Zla ?_; refine Zcl (Enters_fn rfl) (h26 _) ?_; refine Zv Zmv ?_; refine Zv Zxex ?_; refine Zv Zxex ?_; refine Zv Zai ?_; refine Zv Zai ?_) | (refine ZrN 4 fun _ => ?_; refine Zv Zla ?_; refine Zcl (Enters_fn rfl) (h29 _) ?_; refine Zv Zxnot ?_) | (refine ZrG 5 ?_; refine Zv Zmi ?_; refine Zv Zyeql ?_; refine Zv Zmb ?_) | (refine WP_cond_true rfl ?_) | (refine WP_cond_false rfl ?_) | (refine Zcd (fun hc => ?_) (fun hc => ?_) <;> (try (exfalso; omega))) | (with_reducible apply WP_skip) | (with_reducible apply WP_block) | (with_reducible apply WP_exit) | (with_reducible apply WP_ret)) | (refine Zhn ?_) | (with_reducible apply QBlock_normal) | (refine Zhx ?_) | (with_reducible apply QBlock_hit) | (refine Zqb ?_) | (with_reducible apply QLoop_exit) | (refine Zhr ?_) | (with_reducible apply QBlock_ret) | (with_reducible apply QLoop_ret))
  exact QBody_ret1 rfl (rfl : _ = Value.bool _) ⟨rfl, (by repeat (first | exact Wk.refl _ | apply Wk.keep1 | apply Wk.drop | apply Wk.sv | apply Wk.svD | apply Wk.appD))⟩
set_option maxRecDepth 100000 in
set_option maxHeartbeats 4000000 in
theorem clash_law1 (L : Hp) (g : Fg) (hA : DrAt N w0 g) (a : Nat) (ha8 : a ≤ 255) (hvb : vB g.d = true) : Ret Try.prog N w0 L 8 [drV g, .int .u8 (a : Int)].toArray (.bool true) := by
  have hv := VD_of hvb
  have hns := hv.ns
  have h := farB_vB hvb
  have h28 := fun L => long_ret N w0 L g
  have h13 := fun L => alive_ret N w0 L
  have h29 := fun L => rDrain_in N w0 L g (DrainIn.at_ hA) h
  have h26 := fun L => Clash_in N w0 L g (DrainIn.at_ hA)
  rw [h] at h28
  rw [hvb] at h29
  obtain ⟨n, hn⟩ : ∃ n, g.d.seen.length = n := ⟨_, rfl⟩
  have h32 : 2 ^ n ≤ 2 ^ 4 := Nat.pow_le_pow_right (by omega) (by omega)
  have hpos := Nat.two_pow_pos n
  obtain ⟨E, hE⟩ : ∃ E, 2 ^ n - 1 = E := ⟨_, rfl⟩
  have hall : onlyD g.d E = g.d := by rw [← hE, ← hn]; exact onlyD_all hv
  obtain ⟨own, hown⟩ : ∃ o, a &&& E = o := ⟨_, rfl⟩
  have hown' : own < 2 ^ n := by rw [← hown]; exact Nat.and_lt_two_pow _ (by omega)
  have h39 : ∀ L' (v : Nat), v < 128 → Ret Try.prog N w0 L' 28 [.int .i64 (v : Int)].toArray (.int .i64 (pc v : Int)) := fun L' v hv' => size_ret N w0 L' v hv'
  have h38 : ∀ L' bh (v : Nat), v < 128 → Mem bh (Blk 29 (drL g)) L' → Ret Try.prog N w0 L' 35 [.int .i64 (v : Int), .pointer (some ⟨bh, 0, none⟩)].toArray (.bool (!someB (onlyD g.d v))) := fun L' bh v hv' hm => clash1_ret N w0 L' g hA hv bh hm v hv'
  have hA3 : ((2 ^ n : Nat) : Int) - 1 = (E : Int) := by omega
  have hsub : ∀ {L e d ty pos af gg x y' t t'} (hx : ev e x = .int .i64 ((2 ^ n : Nat) : Int)) (hy : ev e y' = .int .i64 1), Val Try.prog N w0 L e ⟨d, .binOp .sub t x y' t', ty, pos, af, gg⟩ (.int .i64 (E : Int)) := by
    intro L e d ty pos af gg x y' t t' hx hy
    rw [← hA3]
    exact Val_sub hx hy (InK_i64 (by omega) (by omega))
  have hE38 := fun L' bh hm => h38 L' bh E (by omega) hm
  rw [hall] at hE38
  refine Ret.fgt ?_
  refine tri_of_WP Try.func8 rfl (n := 126) rfl (by simp) ?_
  rcases clash_facts hv with ⟨f1, f2, f3⟩ | ⟨f1, f2, f3, f4, f5, f6, f7⟩
  · rw [f2, f3] at h26
    rw [f1] at hE38
    unfold drL at hE38
    unfold drV drL at h28 h26 h29 ⊢
    rw [hn] at h28 h26 h29 hE38 ⊢
    repeat' (first | (refine GiP ?_; first | (refine Znh ?_) | (with_reducible refine Znl ?_) | (refine Zatd 55 ?_; (first | (refine Zv Zxpt ?_) | (refine Zv Zxpf ?_))) | (refine Zatd 45 ?_; first | refine Zsk ?_ | (refine Zv Zmi ?_)) | (refine Zatd 46 ?_; first | refine Zsk ?_ | (refine Zv (ZxneqB) ?_) | (refine Zv (Zyneq) ?_)) | (refine Zatd 47 ?_; first | refine Zsk ?_ | (refine Zv Zmb ?_)) | (refine Zatd 48 ?_; first | refine Zsk ?_ | (refine Zv Zmi ?_)) | (refine Zatd 49 ?_; first | refine Zsk ?_ | (refine Zv (ZxneqB) ?_) | (refine Zv (Zyneq) ?_)) | (refine Zatd 50 ?_; first | refine Zsk ?_ | (refine Zv Zmb ?_)) | (refine Zatd 51 ?_; first | refine Zsk ?_ | (refine Zv Zmi ?_)) | (refine Zatd 52 ?_; first | refine Zsk ?_ | (refine Zv (ZxneqB) ?_) | (refine Zv (Zyneq) ?_)) | (refine Zatd 53 ?_; first | refine Zsk ?_ | (refine Zv Zxpt ?_) | (refine Zv Zxpf ?_)) | (refine Zatd 54 ?_; first | refine Zsk ?_ | (refine Zv Zxpt ?_) | (refine Zv Zxpf ?_)) | (refine Zsk ?_) | (refine Zsp (fun hc => ?_) (fun hc => ?_) <;> (try (exfalso; omega)))) | (refine GiW ?_; first | (refine Zsq fun K hK => ?_) | (refine ZrN 0 fun _ => ?_; refine Zal 2 fun b2 => ?_; refine Zv Zab ?_) | (refine ZrN 1 fun _ => ?_; refine Zv Zla ?_; refine Zcl (Enters_fn rfl) (h28 _) ?_) | (refine ZrN 3 fun _ => ?_; refine Zv Zla ?_; refine Zcl (Enters_fn rfl) (h26 _) ?_; refine Zv Zmv ?_; refine Zv Zxex ?_; refine Zv Zxex ?_; refine Zv Zai ?_; refine Zv Zai ?_) | (refine ZrN 4 fun _ => ?_; refine Zv Zla ?_; refine Zcl (Enters_fn rfl) (h29 _) ?_; refine Zv Zxnot ?_) | (refine ZrN 6 fun _ => ?_; refine Zv Val_makeFunc ?_; refine Zv Zav ?_) | (refine ZrN 7 fun _ => ?_; refine Zv Zfa ?_; refine Zv Zld ?_; refine Zv Zxlen ?_; refine Zv (Val_shlS rfl rfl (by omega)) ?_; refine Zv (hsub rfl rfl) ?_; refine Zv Zai ?_) | (refine ZrG 8 ?_; refine Zv Zmi ?_; refine Zv Zyeql ?_; refine Zv Zmv ?_; refine Zv Zmi ?_; refine Zcl (Enters_val rfl rfl) (hE38 _ b2 (by repeat (first | exact Mem.here | assumption | apply Mem.there | apply Mem.sv | apply Mem.app))) ?_; (first | (refine Zv (ZxneqB) ?_) | (refine Zv (Zyneq) ?_)); refine Zv Zmb ?_) | (refine ZrN 10 fun _ => ?_; refine Zv Zmi ?_; (first | (refine Zv (ZxneqB) ?_) | (refine Zv (Zyneq) ?_))) | (refine ZrN 11 fun _ => ?_; refine Zcl (Enters_fn rfl) (h13 _) ?_; refine Zv Zab ?_) | (refine WP_cond_true rfl ?_) | (refine WP_cond_false rfl ?_) | (refine Zcd (fun hc => ?_) (fun hc => ?_) <;> (try (exfalso; omega))) | (with_reducible apply WP_skip) | (with_reducible apply WP_block) | (with_reducible apply WP_exit) | (with_reducible apply WP_ret)) | (refine Zhn ?_) | (with_reducible apply QBlock_normal) | (refine Zhx ?_) | (with_reducible apply QBlock_hit) | (refine Zqb ?_) | (with_reducible apply QLoop_exit) | (refine Zhr ?_) | (with_reducible apply QBlock_ret) | (with_reducible apply QLoop_ret))
    all_goals exact QBody_ret1 rfl (rfl : _ = Value.bool _) ⟨rfl, (by repeat (first | exact Wk.refl _ | apply Wk.keep1 | apply Wk.drop | apply Wk.sv | apply Wk.svD | apply Wk.appD))⟩
  · obtain ⟨y, hy⟩ : ∃ y, ClashV g.d = y := ⟨_, rfl⟩
    rw [hy] at f3 f4 f5 f6 f7 h26
    rw [f2] at h26
    rw [hn] at f4 f6 f7
    rw [f1] at hE38
    unfold drL at h38 hE38
    unfold drV drL at h28 h26 h29 ⊢
    rw [hn] at h28 h26 h29 h38 hE38 ⊢
    repeat' (first | (refine GiP ?_; first | (refine Znh ?_) | (with_reducible refine Znl ?_) | (refine Zatd 55 ?_; (first | (refine Zv Zxpt ?_) | (refine Zv Zxpf ?_))) | (refine Zatd 45 ?_; first | refine Zsk ?_ | (refine Zv Zmi ?_)) | (refine Zatd 46 ?_; first | refine Zsk ?_ | (refine Zv (ZxneqB) ?_) | (refine Zv (Zyneq) ?_)) | (refine Zatd 47 ?_; first | refine Zsk ?_ | (refine Zv Zmb ?_)) | (refine Zatd 48 ?_; first | refine Zsk ?_ | (refine Zv Zmi ?_)) | (refine Zatd 49 ?_; first | refine Zsk ?_ | (refine Zv (ZxneqB) ?_) | (refine Zv (Zyneq) ?_)) | (refine Zatd 50 ?_; first | refine Zsk ?_ | (refine Zv Zmb ?_)) | (refine Zatd 51 ?_; first | refine Zsk ?_ | (refine Zv Zmi ?_)) | (refine Zatd 52 ?_; first | refine Zsk ?_ | (refine Zv (ZxneqB) ?_) | (refine Zv (Zyneq) ?_)) | (refine Zatd 53 ?_; first | refine Zsk ?_ | (refine Zv Zxpt ?_) | (refine Zv Zxpf ?_)) | (refine Zatd 54 ?_; first | refine Zsk ?_ | (refine Zv Zxpt ?_) | (refine Zv Zxpf ?_)) | (refine Zsk ?_) | (refine Zsp (fun hc => ?_) (fun hc => ?_) <;> (try (exfalso; omega)))) | (refine GiW ?_; first | (refine Zsq fun K hK => ?_) | (refine ZrN 0 fun _ => ?_; refine Zal 2 fun b2 => ?_; refine Zv Zab ?_) | (refine ZrN 1 fun _ => ?_; refine Zv Zla ?_; refine Zcl (Enters_fn rfl) (h28 _) ?_) | (refine ZrN 3 fun _ => ?_; refine Zv Zla ?_; refine Zcl (Enters_fn rfl) (h26 _) ?_; refine Zv Zmv ?_; refine Zv Zxex ?_; refine Zv Zxex ?_; refine Zv Zai ?_; refine Zv Zai ?_) | (refine ZrN 4 fun _ => ?_; refine Zv Zla ?_; refine Zcl (Enters_fn rfl) (h29 _) ?_; refine Zv Zxnot ?_) | (refine ZrN 6 fun _ => ?_; refine Zv Val_makeFunc ?_; refine Zv Zav ?_) | (refine ZrN 7 fun _ => ?_; refine Zv Zfa ?_; refine Zv Zld ?_; refine Zv Zxlen ?_; refine Zv (Val_shlS rfl rfl (by omega)) ?_; refine Zv (hsub rfl rfl) ?_; refine Zv Zai ?_) | (refine ZrG 8 ?_; refine Zv Zmi ?_; refine Zv Zyeql ?_; refine Zv Zmv ?_; refine Zv Zmi ?_; refine Zcl (Enters_val rfl rfl) (hE38 _ b2 (by repeat (first | exact Mem.here | assumption | apply Mem.there | apply Mem.sv | apply Mem.app))) ?_; (first | (refine Zv (ZxneqB) ?_) | (refine Zv (Zyneq) ?_)); refine Zv Zmb ?_) | (refine ZrN 10 fun _ => ?_; refine Zv Zmi ?_; (first | (refine Zv (ZxneqB) ?_) | (refine Zv (Zyneq) ?_))) | (refine WP_cond_true rfl ?_) | (refine WP_cond_false rfl ?_) | (refine Zcd (fun hc => ?_) (fun hc => ?_) <;> (try (exfalso; omega))) | (with_reducible apply WP_skip) | (with_reducible apply WP_block) | (with_reducible apply WP_exit) | (with_reducible apply WP_ret)) | (refine Zhn ?_) | (with_reducible apply QBlock_normal) | (refine Zhx ?_) | (with_reducible apply QBlock_hit) | (refine Zqb ?_) | (with_reducible apply QLoop_exit) | (refine Zhr ?_) | (with_reducible apply QBlock_ret) | (with_reducible apply QLoop_ret))
    have hy38 := fun L' hm => h38 L' b2 y (by omega) hm
    rw [f5] at hy38
    have ho38 := fun L' hm => h38 L' b2 own (by omega) hm
    repeat' (first | (refine GiP ?_; first | (refine Znh ?_) | (with_reducible refine Znl ?_) | (refine Zatd 65 ?_; (first | (refine Zv Zxpt ?_) | (refine Zv Zxpf ?_)); refine Zv Zmb ?_) | (refine Zatd 71 ?_; (first | (refine Zv Zxpt ?_) | (refine Zv Zxpf ?_))) | (refine Zatd 62 ?_; first | refine Zsk ?_ | (refine Zv Zmi ?_)) | (refine Zatd 63 ?_; first | refine Zsk ?_ | (refine Zv Zmi ?_)) | (refine Zatd 64 ?_; first | refine Zsk ?_ | (refine Zv Zygtr ?_)) | (refine Zatd 67 ?_; first | refine Zsk ?_ | (refine Zv Zmv ?_)) | (refine Zatd 68 ?_; first | refine Zsk ?_ | (refine Zv Zmi ?_)) | (refine Zatd 69 ?_; first | refine Zsk ?_ | (refine Zcl (Enters_val rfl rfl) (hy38 _ (by repeat (first | exact Mem.here | assumption | apply Mem.there | apply Mem.sv | apply Mem.app))) ?_)) | (refine Zatd 70 ?_; first | refine Zsk ?_ | (refine Zv Zxnot ?_)) | (refine Zsk ?_) | (refine Zsp (fun hc => ?_) (fun hc => ?_) <;> (try (exfalso; omega)))) | (refine GiW ?_; first | (refine Zsq fun K hK => ?_) | (refine ZrG 12 ?_; refine Zv Zmi ?_; refine Zv Zylss ?_; refine Zv Zmb ?_) | (refine ZrN 14 fun _ => ?_; refine Zv Zfa ?_; refine Zv Zld ?_; refine Zv Zxlen ?_; refine Zv Zmi ?_) | (refine WP_cond_true rfl ?_) | (refine WP_cond_false rfl ?_) | (refine Zcd (fun hc => ?_) (fun hc => ?_) <;> (try (exfalso; omega))) | (with_reducible apply WP_skip) | (with_reducible apply WP_block) | (with_reducible apply WP_exit) | (with_reducible apply WP_ret)) | (refine Zhn ?_) | (with_reducible apply QBlock_normal) | (refine Zhx ?_) | (with_reducible apply QBlock_hit) | (refine Zqb ?_) | (with_reducible apply QLoop_exit) | (refine Zhr ?_) | (with_reducible apply QBlock_ret) | (with_reducible apply QLoop_ret))
    refine WP_loop [4, 9, 75, 76, 77, 78, 79, 80, 81, 82, 83, 84, 85, 86, 87, 88, 89, 90, 91] (fun k : Nat => [(75, .int .i64 k)]) (fun _ => _) (fun k => k ≤ n) (fun k => n - k) 0 (.cons rfl .nil) (Wk.refl _) (Nat.zero_le _) ?_
    intro k j4 hk
    by_cases hkn : k < n
    · obtain ⟨bt, hbt⟩ : ∃ bt, (y / 2 ^ k) &&& 1 = bt := ⟨_, rfl⟩
      have hb2 : bt = y / 2 ^ k % 2 := by rw [← hbt]; exact Nat.and_one_is_mod _
      have hyk : y / 2 ^ k < 2 ^ 63 := Nat.lt_of_le_of_lt (Nat.div_le_self _ _) (by omega)
      by_cases h1 : bt = 1
      · obtain ⟨z1, z2⟩ := f6 k hkn (by omega)
        have hz38 := fun L' hm => h38 L' b2 (y - 2 ^ k) (Nat.lt_of_le_of_lt (Nat.sub_le _ _) (by omega)) hm
        rw [z2] at hz38
        have h2k : 2 ^ k < 2 ^ 63 := Nat.pow_lt_pow_right (by omega) (by omega)
        repeat' (first | (refine GiP ?_; first | (refine Znh ?_) | (with_reducible refine Znl ?_) | (refine Zatd 90 ?_; (first | (refine Zv Zxpt ?_) | (refine Zv Zxpf ?_))) | (refine Zatd 84 ?_; first | refine Zsk ?_ | (refine Zv Zmv ?_)) | (refine Zatd 85 ?_; first | refine Zsk ?_ | (refine Zv Zmi ?_)) | (refine Zatd 86 ?_; first | refine Zsk ?_ | (refine Zv Zmi ?_)) | (refine Zatd 87 ?_; first | refine Zsk ?_ | (refine Zv (Val_shlS (i := k) rfl rfl (by omega)) ?_)) | (refine Zatd 88 ?_; first | refine Zsk ?_ | (refine Zv (Val_andNotE z1 (by omega) h2k rfl rfl) ?_)) | (refine Zatd 89 ?_; first | refine Zsk ?_ | (refine Zcl (Enters_val rfl rfl) (hz38 _ (by repeat (first | exact Mem.here | assumption | apply Mem.there | apply Mem.sv | apply Mem.app))) ?_)) | (refine Zsk ?_) | (refine Zsp (fun hc => ?_) (fun hc => ?_) <;> (try (exfalso; omega)))) | (refine GiW ?_; first | (refine Zsq fun K hK => ?_) | (refine ZrN 15 fun _ => ?_; refine Zv Zylss ?_) | (refine ZrN 16 fun _ => ?_; refine Zv Zmi ?_; refine Zv Zai ?_) | (refine ZrG 17 ?_; refine Zv Zmi ?_; refine Zv Zmi ?_; refine Zv (Val_shr (i := k) rfl rfl (by show k ≤ 64; omega)) ?_; refine Zv (Val_andE hbt hyk (by omega) rfl rfl) ?_; refine Zv Zyeql ?_; refine Zv Zmb ?_) | (refine ZrN 19 fun _ => ?_; refine Zv Zxadd ?_; refine Zv Zmi ?_) | (refine WP_cond_true rfl ?_) | (refine WP_cond_false rfl ?_) | (refine Zcd (fun hc => ?_) (fun hc => ?_) <;> (try (exfalso; omega))) | (with_reducible apply WP_skip) | (with_reducible apply WP_block) | (with_reducible apply WP_exit) | (with_reducible apply WP_ret)) | (refine Zhn ?_) | (with_reducible apply QBlock_normal) | (refine Zhx ?_) | (with_reducible apply QBlock_hit) | (refine Zqb ?_) | (with_reducible apply QLoop_exit) | (refine Zhr ?_) | (with_reducible apply QBlock_ret) | (with_reducible apply QLoop_ret))
        exact QLoop_normal (k + 1) (.cons rfl .nil) (by repeat (first | exact Off.frame rfl | exact Off.refl _ _ | refine Off.frameT rfl rfl ?_ | refine Off.upd rfl ?_ | refine Off.updO rfl ?_)) (by repeat (first | exact Wk.refl _ | apply Wk.keep1 | apply Wk.drop | apply Wk.sv | apply Wk.svD | apply Wk.appD)) (by omega) (by omega)
      · repeat' (first | (refine GiP ?_; first | (refine Znh ?_) | (with_reducible refine Znl ?_) | (refine Zatd 90 ?_; (first | (refine Zv Zxpt ?_) | (refine Zv Zxpf ?_))) | (refine Zatd 84 ?_; first | refine Zsk ?_ | (refine Zv Zmv ?_)) | (refine Zatd 85 ?_; first | refine Zsk ?_ | (refine Zv Zmi ?_)) | (refine Zatd 86 ?_; first | refine Zsk ?_ | (refine Zv Zmi ?_)) | (refine Zsk ?_) | (refine Zsp (fun hc => ?_) (fun hc => ?_) <;> (try (exfalso; omega)))) | (refine GiW ?_; first | (refine Zsq fun K hK => ?_) | (refine ZrN 15 fun _ => ?_; refine Zv Zylss ?_) | (refine ZrN 16 fun _ => ?_; refine Zv Zmi ?_; refine Zv Zai ?_) | (refine ZrG 17 ?_; refine Zv Zmi ?_; refine Zv Zmi ?_; refine Zv (Val_shr (i := k) rfl rfl (by show k ≤ 64; omega)) ?_; refine Zv (Val_andE hbt hyk (by omega) rfl rfl) ?_; refine Zv Zyeql ?_; refine Zv Zmb ?_) | (refine ZrN 19 fun _ => ?_; refine Zv Zxadd ?_; refine Zv Zmi ?_) | (refine WP_cond_true rfl ?_) | (refine WP_cond_false rfl ?_) | (refine Zcd (fun hc => ?_) (fun hc => ?_) <;> (try (exfalso; omega))) | (with_reducible apply WP_skip) | (with_reducible apply WP_block) | (with_reducible apply WP_exit) | (with_reducible apply WP_ret)) | (refine Zhn ?_) | (with_reducible apply QBlock_normal) | (refine Zhx ?_) | (with_reducible apply QBlock_hit) | (refine Zqb ?_) | (with_reducible apply QLoop_exit) | (refine Zhr ?_) | (with_reducible apply QBlock_ret) | (with_reducible apply QLoop_ret))
        exact QLoop_normal (k + 1) (.cons rfl .nil) (by repeat (first | exact Off.frame rfl | exact Off.refl _ _ | refine Off.frameT rfl rfl ?_ | refine Off.upd rfl ?_ | refine Off.updO rfl ?_)) (by repeat (first | exact Wk.refl _ | apply Wk.keep1 | apply Wk.drop | apply Wk.sv | apply Wk.svD | apply Wk.appD)) (by omega) (by omega)
    · have hy7 := f7 own hown'
      cases hb1 : someB (onlyD g.d own) with
      | true =>
        rw [hb1] at ho38
        repeat' (first | (refine GiP ?_; first | (refine Znh ?_) | (with_reducible refine Znl ?_) | (refine Zatd 108 ?_; (first | (refine Zv Zxpt ?_) | (refine Zv Zxpf ?_)); refine Zv Zmb ?_) | (refine Zatd 122 ?_; (first | (refine Zv Zxpt ?_) | (refine Zv Zxpf ?_)); refine Zv Zmb ?_) | (refine Zatd 125 ?_; (first | (refine Zv Zxpt ?_) | (refine Zv Zxpf ?_)); refine Zv Zab ?_) | (refine Zatd 101 ?_; first | refine Zsk ?_ | (refine Zv Zmv ?_)) | (refine Zatd 102 ?_; first | refine Zsk ?_ | (refine Zv Zmi ?_)) | (refine Zatd 103 ?_; first | refine Zsk ?_ | (refine Zcl (Enters_val rfl rfl) (ho38 _ (by repeat (first | exact Mem.here | assumption | apply Mem.there | apply Mem.sv | apply Mem.app))) ?_)) | (refine Zatd 104 ?_; first | refine Zsk ?_ | (refine Zv Zmv ?_)) | (refine Zatd 105 ?_; first | refine Zsk ?_ | (refine Zv Zmi ?_)) | (refine Zatd 106 ?_; first | refine Zsk ?_ | (refine Zcl (Enters_val rfl rfl) (ho38 _ (by repeat (first | exact Mem.here | assumption | apply Mem.there | apply Mem.sv | apply Mem.app))) ?_)) | (refine Zatd 107 ?_; first | refine Zsk ?_ | (refine Zv Zygtr ?_)) | (refine Zatd 110 ?_; first | refine Zsk ?_ | (refine Zv Zmv ?_)) | (refine Zatd 111 ?_; first | refine Zsk ?_ | (refine Zv Zmi ?_)) | (refine Zatd 112 ?_; first | refine Zsk ?_ | (refine Zcl (Enters_val rfl rfl) (ho38 _ (by repeat (first | exact Mem.here | assumption | apply Mem.there | apply Mem.sv | apply Mem.app))) ?_)) | (refine Zatd 113 ?_; first | refine Zsk ?_ | (refine Zv Zmv ?_)) | (refine Zatd 114 ?_; first | refine Zsk ?_ | (refine Zv Zmi ?_)) | (refine Zatd 115 ?_; first | refine Zsk ?_ | (refine Zcl (Enters_val rfl rfl) (ho38 _ (by repeat (first | exact Mem.here | assumption | apply Mem.there | apply Mem.sv | apply Mem.app))) ?_)) | (refine Zatd 116 ?_; first | refine Zsk ?_ | (refine Zv Zyeql ?_)) | (refine Zatd 117 ?_; first | refine Zsk ?_ | (refine Zv Zmb ?_)) | (refine Zatd 118 ?_; first | refine Zsk ?_ | (refine Zv Zmi ?_)) | (refine Zatd 119 ?_; first | refine Zsk ?_ | (refine Zv Zmi ?_)) | (refine Zatd 120 ?_; first | refine Zsk ?_ | (refine Zv Zygeq ?_)) | (refine Zatd 121 ?_; first | refine Zsk ?_ | (refine Zv Zxpt ?_) | (refine Zv Zxpf ?_)) | (refine Zatd 124 ?_; first | refine Zsk ?_ | (refine Zcl (Enters_fn rfl) (h13 _) ?_)) | (refine Zsk ?_) | (refine Zsp (fun hc => ?_) (fun hc => ?_) <;> (try (exfalso; omega)))) | (refine GiW ?_; first | (refine Zsq fun K hK => ?_) | (refine ZrN 15 fun _ => ?_; refine Zv Zylss ?_) | (refine ZrN 20 fun _ => ?_; refine Zv Zmi ?_; refine Zv Zxco ?_; refine Zv Zmi ?_; refine Zv (Val_andE hown (by omega) (by omega) rfl rfl) ?_; refine Zv Zai ?_; refine Zv Zav ?_) | (refine ZrG 21 ?_; refine Zv Zmv ?_; refine Zv Zmi ?_; refine Zcl (Enters_val rfl rfl) (ho38 _ (by repeat (first | exact Mem.here | assumption | apply Mem.there | apply Mem.sv | apply Mem.app))) ?_; refine Zv Zxnot ?_; refine Zv Zmb ?_) | (refine WP_cond_true rfl ?_) | (refine WP_cond_false rfl ?_) | (refine Zcd (fun hc => ?_) (fun hc => ?_) <;> (try (exfalso; omega))) | (with_reducible apply WP_skip) | (with_reducible apply WP_block) | (with_reducible apply WP_exit) | (with_reducible apply WP_ret)) | (refine Zhn ?_) | (with_reducible apply QBlock_normal) | (refine Zhx ?_) | (with_reducible apply QBlock_hit) | (refine Zqb ?_) | (with_reducible apply QLoop_exit) | (refine Zhr ?_) | (with_reducible apply QBlock_ret) | (with_reducible apply QLoop_ret))
        exact QBody_ret1 rfl (rfl : _ = Value.bool _) ⟨rfl, (by repeat (first | exact Wk.refl _ | apply Wk.keep1 | apply Wk.drop | apply Wk.sv | apply Wk.svD | apply Wk.appD))⟩
      | false =>
        obtain ⟨m1, m2⟩ := hy7 hb1
        rw [hb1] at ho38
        by_cases hgt : pc own = pc y
        · have m3 := m2 hgt
          repeat' (first | (refine GiP ?_; first | (refine Znh ?_) | (with_reducible refine Znl ?_) | (refine Zatd 108 ?_; (first | (refine Zv Zxpt ?_) | (refine Zv Zxpf ?_)); refine Zv Zmb ?_) | (refine Zatd 122 ?_; (first | (refine Zv Zxpt ?_) | (refine Zv Zxpf ?_)); refine Zv Zmb ?_) | (refine Zatd 125 ?_; (first | (refine Zv Zxpt ?_) | (refine Zv Zxpf ?_)); refine Zv Zab ?_) | (refine Zatd 101 ?_; first | refine Zsk ?_ | (refine Zv Zmv ?_)) | (refine Zatd 102 ?_; first | refine Zsk ?_ | (refine Zv Zmi ?_)) | (refine Zatd 103 ?_; first | refine Zsk ?_ | (refine Zcl (Enters_val rfl rfl) (ho38 _ (by repeat (first | exact Mem.here | assumption | apply Mem.there | apply Mem.sv | apply Mem.app))) ?_) | (refine Zcl (Enters_val rfl rfl) (h39 _ _ (by omega)) ?_)) | (refine Zatd 104 ?_; first | refine Zsk ?_ | (refine Zv Zmv ?_)) | (refine Zatd 105 ?_; first | refine Zsk ?_ | (refine Zv Zmi ?_)) | (refine Zatd 106 ?_; first | refine Zsk ?_ | (refine Zcl (Enters_val rfl rfl) (ho38 _ (by repeat (first | exact Mem.here | assumption | apply Mem.there | apply Mem.sv | apply Mem.app))) ?_) | (refine Zcl (Enters_val rfl rfl) (h39 _ _ (by omega)) ?_)) | (refine Zatd 107 ?_; first | refine Zsk ?_ | (refine Zv Zygtr ?_)) | (refine Zatd 110 ?_; first | refine Zsk ?_ | (refine Zv Zmv ?_)) | (refine Zatd 111 ?_; first | refine Zsk ?_ | (refine Zv Zmi ?_)) | (refine Zatd 112 ?_; first | refine Zsk ?_ | (refine Zcl (Enters_val rfl rfl) (ho38 _ (by repeat (first | exact Mem.here | assumption | apply Mem.there | apply Mem.sv | apply Mem.app))) ?_) | (refine Zcl (Enters_val rfl rfl) (h39 _ _ (by omega)) ?_)) | (refine Zatd 113 ?_; first | refine Zsk ?_ | (refine Zv Zmv ?_)) | (refine Zatd 114 ?_; first | refine Zsk ?_ | (refine Zv Zmi ?_)) | (refine Zatd 115 ?_; first | refine Zsk ?_ | (refine Zcl (Enters_val rfl rfl) (ho38 _ (by repeat (first | exact Mem.here | assumption | apply Mem.there | apply Mem.sv | apply Mem.app))) ?_) | (refine Zcl (Enters_val rfl rfl) (h39 _ _ (by omega)) ?_)) | (refine Zatd 116 ?_; first | refine Zsk ?_ | (refine Zv Zyeql ?_)) | (refine Zatd 117 ?_; first | refine Zsk ?_ | (refine Zv Zmb ?_)) | (refine Zatd 118 ?_; first | refine Zsk ?_ | (refine Zv Zmi ?_)) | (refine Zatd 119 ?_; first | refine Zsk ?_ | (refine Zv Zmi ?_)) | (refine Zatd 120 ?_; first | refine Zsk ?_ | (refine Zv Zygeq ?_)) | (refine Zatd 121 ?_; first | refine Zsk ?_ | (refine Zv Zxpt ?_) | (refine Zv Zxpf ?_)) | (refine Zatd 124 ?_; first | refine Zsk ?_ | (refine Zcl (Enters_fn rfl) (h13 _) ?_)) | (refine Zsk ?_) | (refine Zsp (fun hc => ?_) (fun hc => ?_) <;> (try (exfalso; omega)))) | (refine GiW ?_; first | (refine Zsq fun K hK => ?_) | (refine ZrN 15 fun _ => ?_; refine Zv Zylss ?_) | (refine ZrN 20 fun _ => ?_; refine Zv Zmi ?_; refine Zv Zxco ?_; refine Zv Zmi ?_; refine Zv (Val_andE hown (by omega) (by omega) rfl rfl) ?_; refine Zv Zai ?_; refine Zv Zav ?_) | (refine ZrG 21 ?_; refine Zv Zmv ?_; refine Zv Zmi ?_; (first | (refine Zcl (Enters_val rfl rfl) (ho38 _ (by repeat (first | exact Mem.here | assumption | apply Mem.there | apply Mem.sv | apply Mem.app))) ?_) | (refine Zcl (Enters_val rfl rfl) (h39 _ _ (by omega)) ?_)); refine Zv Zxnot ?_; refine Zv Zmb ?_) | (refine WP_cond_true rfl ?_) | (refine WP_cond_false rfl ?_) | (refine Zcd (fun hc => ?_) (fun hc => ?_) <;> (try (exfalso; omega))) | (with_reducible apply WP_skip) | (with_reducible apply WP_block) | (with_reducible apply WP_exit) | (with_reducible apply WP_ret)) | (refine Zhn ?_) | (with_reducible apply QBlock_normal) | (refine Zhx ?_) | (with_reducible apply QBlock_hit) | (refine Zqb ?_) | (with_reducible apply QLoop_exit) | (refine Zhr ?_) | (with_reducible apply QBlock_ret) | (with_reducible apply QLoop_ret))
          exact QBody_ret1 rfl (rfl : _ = Value.bool _) ⟨rfl, (by repeat (first | exact Wk.refl _ | apply Wk.keep1 | apply Wk.drop | apply Wk.sv | apply Wk.svD | apply Wk.appD))⟩
        · repeat' (first | (refine GiP ?_; first | (refine Znh ?_) | (with_reducible refine Znl ?_) | (refine Zatd 108 ?_; (first | (refine Zv Zxpt ?_) | (refine Zv Zxpf ?_)); refine Zv Zmb ?_) | (refine Zatd 122 ?_; (first | (refine Zv Zxpt ?_) | (refine Zv Zxpf ?_)); refine Zv Zmb ?_) | (refine Zatd 125 ?_; (first | (refine Zv Zxpt ?_) | (refine Zv Zxpf ?_)); refine Zv Zab ?_) | (refine Zatd 101 ?_; first | refine Zsk ?_ | (refine Zv Zmv ?_)) | (refine Zatd 102 ?_; first | refine Zsk ?_ | (refine Zv Zmi ?_)) | (refine Zatd 103 ?_; first | refine Zsk ?_ | (refine Zcl (Enters_val rfl rfl) (ho38 _ (by repeat (first | exact Mem.here | assumption | apply Mem.there | apply Mem.sv | apply Mem.app))) ?_) | (refine Zcl (Enters_val rfl rfl) (h39 _ _ (by omega)) ?_)) | (refine Zatd 104 ?_; first | refine Zsk ?_ | (refine Zv Zmv ?_)) | (refine Zatd 105 ?_; first | refine Zsk ?_ | (refine Zv Zmi ?_)) | (refine Zatd 106 ?_; first | refine Zsk ?_ | (refine Zcl (Enters_val rfl rfl) (ho38 _ (by repeat (first | exact Mem.here | assumption | apply Mem.there | apply Mem.sv | apply Mem.app))) ?_) | (refine Zcl (Enters_val rfl rfl) (h39 _ _ (by omega)) ?_)) | (refine Zatd 107 ?_; first | refine Zsk ?_ | (refine Zv Zygtr ?_)) | (refine Zatd 110 ?_; first | refine Zsk ?_ | (refine Zv Zmv ?_)) | (refine Zatd 111 ?_; first | refine Zsk ?_ | (refine Zv Zmi ?_)) | (refine Zatd 112 ?_; first | refine Zsk ?_ | (refine Zcl (Enters_val rfl rfl) (ho38 _ (by repeat (first | exact Mem.here | assumption | apply Mem.there | apply Mem.sv | apply Mem.app))) ?_) | (refine Zcl (Enters_val rfl rfl) (h39 _ _ (by omega)) ?_)) | (refine Zatd 113 ?_; first | refine Zsk ?_ | (refine Zv Zmv ?_)) | (refine Zatd 114 ?_; first | refine Zsk ?_ | (refine Zv Zmi ?_)) | (refine Zatd 115 ?_; first | refine Zsk ?_ | (refine Zcl (Enters_val rfl rfl) (ho38 _ (by repeat (first | exact Mem.here | assumption | apply Mem.there | apply Mem.sv | apply Mem.app))) ?_) | (refine Zcl (Enters_val rfl rfl) (h39 _ _ (by omega)) ?_)) | (refine Zatd 116 ?_; first | refine Zsk ?_ | (refine Zv Zyeql ?_)) | (refine Zatd 117 ?_; first | refine Zsk ?_ | (refine Zv Zmb ?_)) | (refine Zatd 118 ?_; first | refine Zsk ?_ | (refine Zv Zmi ?_)) | (refine Zatd 119 ?_; first | refine Zsk ?_ | (refine Zv Zmi ?_)) | (refine Zatd 120 ?_; first | refine Zsk ?_ | (refine Zv Zygeq ?_)) | (refine Zatd 121 ?_; first | refine Zsk ?_ | (refine Zv Zxpt ?_) | (refine Zv Zxpf ?_)) | (refine Zatd 124 ?_; first | refine Zsk ?_ | (refine Zcl (Enters_fn rfl) (h13 _) ?_)) | (refine Zsk ?_) | (refine Zsp (fun hc => ?_) (fun hc => ?_) <;> (try (exfalso; omega)))) | (refine GiW ?_; first | (refine Zsq fun K hK => ?_) | (refine ZrN 15 fun _ => ?_; refine Zv Zylss ?_) | (refine ZrN 20 fun _ => ?_; refine Zv Zmi ?_; refine Zv Zxco ?_; refine Zv Zmi ?_; refine Zv (Val_andE hown (by omega) (by omega) rfl rfl) ?_; refine Zv Zai ?_; refine Zv Zav ?_) | (refine ZrG 21 ?_; refine Zv Zmv ?_; refine Zv Zmi ?_; (first | (refine Zcl (Enters_val rfl rfl) (ho38 _ (by repeat (first | exact Mem.here | assumption | apply Mem.there | apply Mem.sv | apply Mem.app))) ?_) | (refine Zcl (Enters_val rfl rfl) (h39 _ _ (by omega)) ?_)); refine Zv Zxnot ?_; refine Zv Zmb ?_) | (refine WP_cond_true rfl ?_) | (refine WP_cond_false rfl ?_) | (refine Zcd (fun hc => ?_) (fun hc => ?_) <;> (try (exfalso; omega))) | (with_reducible apply WP_skip) | (with_reducible apply WP_block) | (with_reducible apply WP_exit) | (with_reducible apply WP_ret)) | (refine Zhn ?_) | (with_reducible apply QBlock_normal) | (refine Zhx ?_) | (with_reducible apply QBlock_hit) | (refine Zqb ?_) | (with_reducible apply QLoop_exit) | (refine Zhr ?_) | (with_reducible apply QBlock_ret) | (with_reducible apply QLoop_ret))
          exact QBody_ret1 rfl (rfl : _ = Value.bool _) ⟨rfl, (by repeat (first | exact Wk.refl _ | apply Wk.keep1 | apply Wk.drop | apply Wk.sv | apply Wk.svD | apply Wk.appD))⟩
theorem clash_all (L : Hp) (g : Fg) (hA : DrAt N w0 g) (a : Nat) (ha8 : a ≤ 255) : Ret Try.prog N w0 L 8 [drV g, .int .u8 (a : Int)].toArray (.bool true) := by
  cases h0 : farB g.d with
  | true => exact clash_law0 N w0 L g a h0
  | false =>
    cases h1 : vB g.d with
    | false => exact clash_lawN N w0 L g hA a h0 h1
    | true => exact clash_law1 N w0 L g hA a ha8 h1
end
end Go.Proofs.Ytbhgpnbfdjoglaa
end
