/- Layer bank in plain terms: a mark more; whom to ask. · Layer bank in plain terms: whose a perch can be. · What the bank laws share: marks that were laid anew, sets by bits. · The bank laws' own function: a bank with a mark more. -/
import Derived.Test.YtakmopiceopcpaaQv
import Derived.Test.YtakmopiceopcpaaC2
section
namespace Go.Proofs.Ytakmopiceopcpaa
open Go.RowKit
/-- The bank with a mark more. -/
def withB (b : Bn) (k : Sp) : Bn := { b with ms := b.ms ++ [k] }
theorem VB_with {b : Bn} (v : VB b) {k : Sp} (h6 : b.ms.length < 6) (h1 : 0 ≤ k.1 ∧ k.1 < b.n) (h2 : 0 ≤ k.2 ∧ k.2 ≤ b.m) : VB (withB b k) :=
  ⟨v.n, v.m, v.nl, by show (b.ms ++ [k]).length ≤ 6; rw [List.length_append, List.length_singleton]; omega, v.ls, fun x hx => by
    rcases List.mem_append.1 hx with hx | hx
    · exact v.ms x hx
    · rw [List.mem_singleton] at hx; subst hx; exact ⟨h1, h2⟩⟩
theorem with_ways {b : Bn} {p : Int} (h1 : 0 ≤ p ∧ p < b.n) (o : Int) : (trL (withB b (p, o))).length = waysN b [.mine p o] := by
  unfold waysN trL
  rw [List.filter_filter]
  congr 2
  funext x
  rw [okX_mine h1]
  show ((b.ms ++ [(p, o)]).all fun k => decide (ownX b x k.1 = k.2)) = _
  rw [List.all_append, Bool.and_comm]
  simp [rightX]
end Go.Proofs.Ytakmopiceopcpaa
end

section
namespace Go.Proofs.Ytakmopiceopcpaa
open Go.RowKit
theorem own_range : ∀ {ls : List Le} {x : List Sp} {p o m : Int}, (∀ l ∈ ls, 0 ≤ l.h ∧ l.h < m) → 0 ≤ o ∧ o ≤ m → 0 ≤ own ls x p o ∧ own ls x p o ≤ m := by
  intro ls
  induction ls with
  | nil => intro x p o m _ h; cases x <;> exact h
  | cons l ls ih =>
    intro x p o m hl h
    cases x with
    | nil => exact h
    | cons y ys =>
      have hl0 := hl l (.head _)
      unfold own
      refine ih (fun l hl' => hl l (.tail _ hl')) ?_
      split
      · omega
      · exact h
theorem ownX_range {d : Bn} (v : VB d) (x : List Sp) (p : Int) : 0 ≤ ownX d x p ∧ ownX d x p ≤ d.m := by
  have := v.m
  exact own_range (fun l hl => (v.ls l hl).h) ⟨by omega, by omega⟩
/-- In how many truths a perch is that of one of the first k. -/
def sumF (d : Bn) (p : Int) : Nat → Nat
  | 0 => 0
  | k + 1 => sumF d p k + waysN d [.mine p k]
theorem ways_mine {d : Bn} {p : Int} (hp : 0 ≤ p ∧ p < d.n) (o : Int) : waysN d [.mine p o] = ((trL d).filter fun x => decide (ownX d x p = o)).length := by
  unfold waysN
  congr 2
  funext x
  exact okX_mine hp o x
theorem sum_lt {d : Bn} {p : Int} (hp : 0 ≤ p ∧ p < d.n) : ∀ k : Nat, sumF d p k = ((trL d).filter fun x => decide (0 ≤ ownX d x p ∧ ownX d x p < k)).length
  | 0 => by
    unfold sumF
    rw [List.filter_eq_nil_iff.2 fun x _ => by rw [decide_eq_true_eq]; omega]
    rfl
  | k + 1 => by
    unfold sumF
    rw [sum_lt hp k, ways_mine hp]
    generalize trL d = l
    induction l with
    | nil => rfl
    | cons a l ih =>
      simp only [List.filter_cons]
      by_cases h1 : 0 ≤ ownX d a p ∧ ownX d a p < (k : Int)
      · have h2 : ¬ ownX d a p = (k : Int) := by omega
        have h3 : 0 ≤ ownX d a p ∧ ownX d a p < ((k + 1 : Nat) : Int) := by omega
        rw [if_pos (decide_eq_true h1), if_neg (by simpa using h2), if_pos (decide_eq_true h3), List.length_cons, List.length_cons]
        omega
      · by_cases h2 : ownX d a p = (k : Int)
        · have h3 : 0 ≤ ownX d a p ∧ ownX d a p < ((k + 1 : Nat) : Int) := by omega
          rw [if_neg (by simpa using h1), if_pos (decide_eq_true h2), if_pos (decide_eq_true h3), List.length_cons, List.length_cons]
          omega
        · have h3 : ¬ (0 ≤ ownX d a p ∧ ownX d a p < ((k + 1 : Nat) : Int)) := by omega
          rw [if_neg (by simpa using h1), if_neg (by simpa using h2), if_neg (by simpa using h3)]
          exact ih
theorem sum_all {d : Bn} (v : VB d) {p : Int} (hp : 0 ≤ p ∧ p < d.n) : sumF d p (d.m.toNat + 1) = (trL d).length := by
  rw [sum_lt hp, List.filter_eq_self.2 fun x _ => ?_]
  have := ownX_range v x p
  have := v.m
  exact decide_eq_true (by omega)
theorem sum_one {d : Bn} {p : Int} {h : Nat} : ∀ {k : Nat}, (∀ j, j < k → j ≠ h → waysN d [.mine p j] = 0) → sumF d p k = if h < k then waysN d [.mine p h] else 0
  | 0, _ => rfl
  | k + 1, hz => by
    unfold sumF
    rw [sum_one fun j hj => hz j (by omega)]
    by_cases hk : k = h
    · subst hk
      rw [if_neg (by omega), if_pos (by omega)]; omega
    · rw [hz k (by omega) hk]
      by_cases h1 : h < k
      · rw [if_pos h1, if_pos (by omega), Nat.add_zero]
      · rw [if_neg h1, if_neg (by omega)]
theorem sum_ge {d : Bn} {p : Int} {h : Nat} : ∀ {k : Nat}, h < k → waysN d [.mine p h] ≤ sumF d p k
  | 0, h' => by omega
  | k + 1, h' => by
    unfold sumF
    by_cases hk : k = h
    · subst hk; omega
    · have := sum_ge (d := d) (p := p) (h := h) (k := k) (by omega)
      omega
theorem sum_two {d : Bn} {p : Int} {h j : Nat} (hj : j ≠ h) : ∀ {k : Nat}, h < k → j < k → waysN d [.mine p h] + waysN d [.mine p j] ≤ sumF d p k
  | 0, h', _ => by omega
  | k + 1, h1, h2 => by
    unfold sumF
    by_cases hk : k = h
    · subst hk
      have := sum_ge (d := d) (p := p) (h := j) (k := k) (by omega)
      omega
    · by_cases hk2 : k = j
      · subst hk2
        have := sum_ge (d := d) (p := p) (h := h) (k := k) (by omega)
        omega
      · have := sum_two (d := d) (p := p) hj (k := k) (by omega) (by omega)
        omega
theorem sum_mono {d : Bn} {p : Int} : ∀ {k j : Nat}, k ≤ j → sumF d p k ≤ sumF d p j
  | k, 0, h => by have h0 : k = 0 := by { omega }
                  subst h0
                  exact Nat.le_refl _
  | k, j + 1, h => by
    by_cases hk : k = j + 1
    · subst hk; exact Nat.le_refl _
    · have := sum_mono (d := d) (p := p) (k := k) (j := j) (by omega)
      show sumF d p k ≤ sumF d p j + waysN d [.mine p j]
      omega
theorem who_bit {d : Bn} (p : Int) (j : Nat) : whoS d p / 2 ^ j % 2 = 1 ↔ j < d.m.toNat + 1 ∧ 0 < waysN d [.mine p j] := by
  unfold whoS
  rw [bitsOf_bit, decide_eq_true_eq]
theorem sur_bit {d : Bn} (h : Int) (j : Nat) : surS d h / 2 ^ j % 2 = 1 ↔ j < d.n.toNat ∧ waysN d [.mine j h] = (trL d).length := by
  unfold surS
  rw [bitsOf_bit, decide_eq_true_eq]
theorem per_bit {d : Bn} (h : Int) (j : Nat) : perS d h / 2 ^ j % 2 = 1 ↔ j < d.n.toNat ∧ 0 < waysN d [.mine j h] := by
  unfold perS
  rw [bitsOf_bit, decide_eq_true_eq]
theorem eq_pow_of_bits {x h : Nat} (hb : ∀ j, x / 2 ^ j % 2 = 1 ↔ h = j) : x = 2 ^ h := by
  apply Nat.eq_of_testBit_eq
  intro j
  rw [Nat.testBit_eq_decide_div_mod_eq, Nat.testBit_eq_decide_div_mod_eq, Bool.eq_iff_iff, decide_eq_true_eq, decide_eq_true_eq, hb, bit_pow]
theorem who_one {d : Bn} (v : VB d) {p : Int} (hp : 0 ≤ p ∧ p < d.n) (h0 : 0 < (trL d).length) {h : Nat} (hh : (h : Int) ≤ d.m) : whoS d p = 2 ^ h ↔ waysN d [.mine p h] = (trL d).length := by
  have hs := sum_all v hp
  have hm := v.m
  constructor
  · intro he
    have hz : ∀ j, j < d.m.toNat + 1 → j ≠ h → waysN d [.mine p j] = 0 := by
      intro j hj hne
      apply Nat.eq_zero_of_not_pos
      intro hpos
      have := (who_bit p j).2 ⟨hj, hpos⟩
      rw [he, bit_pow] at this
      exact hne this.symm
    rw [sum_one hz, if_pos (by omega)] at hs
    exact hs
  · intro he
    refine eq_pow_of_bits fun j => ?_
    rw [who_bit]
    constructor
    · rintro ⟨h1, h2⟩
      apply Classical.byContradiction
      intro hne
      have := sum_two (d := d) (p := p) (h := h) (j := j) (fun h => hne h.symm) (k := d.m.toNat + 1) (by omega) h1
      omega
    · intro hj
      subst hj
      exact ⟨by omega, by omega⟩
theorem who_pos {d : Bn} (v : VB d) {p : Int} (hp : 0 ≤ p ∧ p < d.n) (h0 : 0 < (trL d).length) : 1 ≤ whoS d p := by
  have hs := sum_all v hp
  have hm := v.m
  apply Classical.byContradiction
  intro hlt
  have hz : whoS d p = 0 := by omega
  have : sumF d p (d.m.toNat + 1) = 0 := by
    rw [sum_one (h := d.m.toNat + 1) fun j hj _ => ?_, if_neg (by omega)]
    apply Nat.eq_zero_of_not_pos
    intro hpos
    have := (who_bit p j).2 ⟨hj, hpos⟩
    rw [hz] at this
    simp at this
  omega
theorem who_lt (d : Bn) (p : Int) : whoS d p < 2 ^ (d.m.toNat + 1) := bitsOf_lt _ _
theorem sur_lt (d : Bn) (h : Int) : surS d h < 2 ^ d.n.toNat := bitsOf_lt _ _
theorem per_lt (d : Bn) (h : Int) : perS d h < 2 ^ d.n.toNat := bitsOf_lt _ _
end Go.Proofs.Ytakmopiceopcpaa
end

section
namespace Go.Proofs.Ytakmopiceopcpaa
open Go.RowKit
theorem in_ms {N : Nat} {w0 : World} {g : Fg} (hin : ∀ L, BankIn N w0 L g) (ls : List Sp) {s : Option (Nat × Nat)} {xs : List Value} (hx : xs = (ls.map spL).flatten) (hs : svOk s 2 ls.length xs) :
    ∃ A9 c9, svV s ls.length = .slice A9 ls.length c9 ∧ ∀ L', Sub (svH 53 2 ls.length xs s []) L' → BankIn N w0 L' { g with d := { g.d with ms := ls }, A2 := A9, c2 := c9 } := by
  obtain ⟨A9, c9, e9, hsl⟩ := sl_sv (E := 53) (by omega) hs
  refine ⟨A9, c9, e9, fun L' hS w hI => ?_⟩
  obtain ⟨L0, hp⟩ := hS
  have hI2 := (hI.perm hp)
  rw [svH_nil] at hI2
  have hb := hin L' w hI
  exact ⟨hb.ls, hsl hI2 hx (map_len (f := spL) (fun _ => rfl) _)⟩
section
variable {P : Program} {N : Nat} {w0 : World} {L : Hp} {e : Env} {d : Option Nat} {ty : TypeId} {pos : String} {af : Array Edge} {g : Option (Nat × Bool)}
theorem Val_andE {x y : Operand} {t t' : TypeId} {a b c : Nat} (hc : a &&& b = c) (ha : a < 2 ^ 63) (hb : b < 2 ^ 63) (hx : ev e x = .int .i64 (a : Int)) (hy : ev e y = .int .i64 (b : Int)) : Val P N w0 L e ⟨d, .binOp .and t x y t', ty, pos, af, g⟩ (.int .i64 (c : Int)) := by
  subst hc
  exact Val_andS hx hy ha hb
theorem Val_shrE {x y : Operand} {t t' : TypeId} {a i c : Nat} (hc : a / 2 ^ i = c) (hi : i ≤ 64) (hx : ev e x = .int .i64 (a : Int)) (hy : ev e y = .int .i64 (i : Int)) : Val P N w0 L e ⟨d, .binOp .shr t x y t', ty, pos, af, g⟩ (.int .i64 (c : Int)) := by
  subst hc
  exact Val_shr hx hy (by show i ≤ 64; omega)
end
theorem CountE_of {d : Bn} (v : VB d) : CountE d = 0 := by unfold CountE; rw [if_pos (vB_of v)]
theorem CountV_of {d : Bn} (v : VB d) : CountV d = (trL d).length := by unfold CountV; rw [if_pos (vB_of v)]
section
variable {P : Program} {r : Option Nat} {n N : Nat} {w0 : World} {Q : Post} {e : Env} {L : Hp} {ds : List Deferred}
/-- The slots that are known are named, the rest is forgotten. -/
theorem WP_gen {c : Code} (ws : List Nat) (sl : List (Nat × Value)) (hs : Slots e sl) (h : ∀ e1, WP P r n N w0 c Q (frame ws e1 sl e1) ds L) : WP P r n N w0 c Q e ds L := by
  have hf : e = frame ws e sl e := frame_intro hs.look (Off.refl _ _)
  rw [hf]
  exact h e
end
end Go.Proofs.Ytakmopiceopcpaa
end

section
namespace Go.Proofs.Ytakmopiceopcpaa
open Go.RowKit
attribute [local irreducible] AnyO AnyB QAny QB EWalk AWalk Ev WP OPS QThen QBlock QScope QLoop QBody Val New Turn Tri Enters PostA Blk Ro
attribute [local irreducible] AnyC QC
section
variable (N : Nat) (w0 : World)
set_option maxHeartbeats 4000000 in
theorem with_tri (L : Hp) (g : Fg) (hA : BkAt N w0 g) (hl : g.d.ms.length ≤ 40) (k : Sp) : Tri Try.prog N w0 L 38 [bkV g, .agg (spL k).toArray].toArray fun x L' => ∃ v, x = .returned v ∧ ∃ g' X, v = bkV g' ∧ g'.d = withB g.d k ∧ g'.A1 = g.A1 ∧ g'.c1 = g.c1 ∧ L' = X ++ L ∧ BankIn N w0 X g' := by
  obtain ⟨k1, k2⟩ := k
  refine Tri.fgt ?_
  refine tri_of_WP Try.func38 rfl (n := _) rfl (by simp) ?_
  obtain ⟨q, hq⟩ : ∃ n, g.d.ms.length = n := ⟨_, rfl⟩
  obtain ⟨xl, hxl⟩ : ∃ xs, (g.d.ms.map spL).flatten = xs := ⟨_, rfl⟩
  have hsrcS : ∀ L', ∀ w, Inv N w0 L' w → ∀ j u, xl[j]? = some u → ∃ b o, g.A2 = some ⟨b, o, none⟩ ∧ w.cell? ⟨b, o + j, none⟩ = some u := fun L' w hI => by rw [← hxl]; exact (RdRows.ofSl (L := L') hA.ms).flat (by omega) (map_len (f := spL) (fun _ => rfl) _) hI
  have hl4 : xl.length = q * (1 + 1) := by rw [← hxl, ← hq]; exact map_flat (f := spL) (fun _ => rfl) _
  have ho4 : ones xl = true := by rw [← hxl]; exact ones_flat (map_ones (f := spL) (fun _ => rfl) _)
  have hA4n : g.A2 = none → q = 0 := fun h => by have := slat_none hA.ms h; rw [List.length_map] at this; omega
  have hx1 : (g.d.ms ++ [(k1, k2)]).length = q + 1 := by rw [List.length_append, hq]; rfl
  unfold bkV bkL spL
  rw [hq] at hl ⊢
  dsimp only
  repeat' (first | (refine GiP ?_; first | (refine Znh ?_) | (with_reducible refine Znl ?_) | (refine Zatd 5 ?_; refine Zbs fun b5 => ?_) | (refine Zatd 5 ?_; refine Zal 5 fun b5 => ?_) | (refine Zatd 8 ?_; refine OPS_append0 rfl rfl rfl (by intro s9; repeat (first | exact Grow.here | apply Grow.there | apply Grow.sv | apply Grow.app)) svOk0 (hsrcS _) hA4n hl4 ho4 (by simp only [maxLen]; omega) (by omega) (fun s8 hs8 => ?_)) | (refine Zatd 8 ?_; refine Zag (fun s8 hs8 => ?_)) | (refine Zatd 10 ?_; refine Zbs fun b10 => ?_) | (refine Zatd 10 ?_; refine Zal 10 fun b10 => ?_) | (refine Zatd 11 ?_; refine OPS_append0 rfl rfl rfl (by intro s9; repeat (first | exact Grow.here | apply Grow.there | apply Grow.sv | apply Grow.app)) svOk0 (hsrcS _) hA4n hl4 ho4 (by simp only [maxLen]; omega) (by omega) (fun s11 hs11 => ?_)) | (refine Zatd 11 ?_; refine Zag (fun s11 hs11 => ?_)) | (refine Zatd 12 ?_; refine Zv Zfa ?_) | (refine Zatn ?_; refine Zst ?_)) | (refine GiW ?_; first | (refine Zsq fun K hK => ?_) | (refine ZrN 0 fun _ => ?_; refine Zal 2 fun b2 => ?_; refine Zal 3 fun b3 => ?_; refine Zal 4 fun b4 => ?_) | (refine ZrN 2 fun _ => ?_; refine Zv Zla ?_; refine Zst ?_) | (with_reducible apply WP_ret) | (refine WP_drawnS (id := 1) [1, 2, 4] [1, 2, 4] [] [6, 7, 9] (k := 3) (k2 := 3) (by repeat (first | apply Sub.sv | apply Sub.keep | apply Sub.appK | exact Sub.refl _)) (by kernel_rfl) prog_mixed (by kernel_rfl) (by kernel_rfl) rfl ?_; refine Zew rfl Zfa ?_; refine Zew rfl Zld ?_; refine Zew rfl Zla ?_)) | (with_reducible apply EWalk_nil) | (refine GiC ?_; first | (refine ZgC [1, 2, 4] ?_; refine ZC2 _ 0 [1, 2, 4, 0] 5 [1, 2, 4, 5] ?_ ?_) | (refine ZgC [1, 2, 4, 0] ?_; refine ZC2 _ 3 [1, 2, 4, 0, 3] 5 [1, 2, 4, 0, 5] ?_ ?_) | (refine ZgC [1, 2, 4, 0, 3] ?_; refine ZC1 _ 5 [1, 2, 4, 0, 3, 5] ?_) | (refine ZgC [1, 2, 4, 0, 3, 5] ?_; refine ZCl _ ?_) | (refine ZgC [1, 2, 4, 0, 5] ?_; refine ZC1 _ 3 [1, 2, 4, 0, 3, 5] ?_) | (refine ZgC [1, 2, 4, 5] ?_; refine ZC1 _ 0 [1, 2, 4, 0, 5] ?_)) | (refine GiO ?_; first | (refine ZgO [1, 2, 4, 0, 3, 5] ?_; refine ZO1 _ 6 [1, 2, 4, 0, 3, 5, 6] ?_) | (refine ZgO [1, 2, 4, 0, 3, 5, 6] ?_; refine ZO1 _ 7 [1, 2, 4, 0, 3, 5, 6, 7] ?_) | (refine ZgO [1, 2, 4, 0, 3, 5, 6, 7] ?_; refine ZO1 _ 8 [1, 2, 4, 0, 3, 5, 6, 7, 8] ?_) | (refine ZgO [1, 2, 4, 0, 3, 5, 6, 7, 8] ?_; refine ZOd _ ?_; (try with_reducible apply noP_normal); (try with_reducible exact key.out))) | (refine Zhn ?_) | (refine Zhr ?_) | (refine AWalk_0 ?_) | (with_reducible apply QAny_normal) | (with_reducible apply QC_normal))
  all_goals
    obtain ⟨Ax, cx, ex, hinx⟩ := in_ms (fun L => BankIn.at_ (L := L) hA) (g.d.ms ++ [(k1, k2)]) (xs := xl ++ [.int .i64 k1, .int .i64 k2]) (s := s11) (by rw [List.map_append, List.flatten_append, hxl]; simp [spL]) (by rw [hx1]; exact hs11)
    rw [hx1] at ex
    rw [ex]
    refine QBody_res rfl (.cellN rfl (by repeat (first | exact Mem.here | assumption | apply Mem.there | apply Mem.sv | apply Mem.app)) (.here (.cons (.cons (.cons (.cons .nil))))) .nil) rfl ?_
    refine ⟨svH 53 2 (q + 1) (xl ++ [.int .i64 k1, .int .i64 k2]) s11 L, (by repeat (first | exact Wk.refl _ | apply Wk.keep1 | apply Wk.drop | apply Wk.sv | apply Wk.svD | apply Wk.appD)), _, rfl, ⟨withB g.d (k1, k2), g.A1, g.c1, Ax, cx⟩, svH 53 2 (q + 1) (xl ++ [.int .i64 k1, .int .i64 k2]) s11 [], ?_, rfl, rfl, rfl, svH_nil.symm, hinx _ (by rw [hx1]; exact Sub.refl _)⟩
    show _ = Value.agg #[.int .i64 g.d.n, .int .i64 g.d.m, .slice g.A1 g.d.ls.length g.c1, .slice Ax (g.d.ms ++ [(k1, k2)]).length cx]
    rw [hx1]
    rfl
end
end Go.Proofs.Ytakmopiceopcpaa
end
