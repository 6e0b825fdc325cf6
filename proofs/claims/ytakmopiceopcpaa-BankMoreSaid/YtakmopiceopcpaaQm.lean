/- What the law BankMore wants: rows that grew, written; leases that are known better. · What the law BankMore compares, in plain terms. -/
import Derived.Test.YtakmopiceopcpaaE2
import Derived.Test.YtakmopiceopcpaaE8
import Derived.Test.YtakmopiceopcpaaQk
section
namespace Go.Proofs.Ytakmopiceopcpaa
open Go.RowKit
theorem Val_subN {P : Program} {N : Nat} {w0 : World} {L : Hp} {e : Env} {d : Option Nat} {ty : TypeId} {pos : String} {af : Array Edge} {g : Option (Nat × Bool)} {x y : Operand} {t t' : TypeId} {m n : Int} {q : Nat} (hq : m - n = (q : Int)) (h2 : q ≤ 1000000) (hx : ev e x = .int .i64 m) (hy : ev e y = .int .i64 n) : Val P N w0 L e ⟨d, .binOp .sub t x y t', ty, pos, af, g⟩ (.int .i64 (q : Int)) := by
  rw [← hq]
  exact Val_sub hx hy (by rw [hq]; exact InK_i64 (by omega) (by omega))
theorem svV_some (b c k : Nat) : svV (some (b, c)) k = .slice (some ⟨b, 0, none⟩) k c := rfl
theorem svH_some (E : TypeId) (sz k : Nat) (xs : List Value) (b c : Nat) (L : Hp) : svH E sz k xs (some (b, c)) L = (b, Row E sz k c xs) :: L := rfl
theorem set_flat {sz : Nat} : ∀ (rows : List (List Value)) (i : Nat) (hi : i < rows.length), (∀ r ∈ rows, r.length = sz) → ∀ (j : Nat), j < sz → ∀ v : Value, setL rows.flatten (i * sz + j) [v] = (rows.set i (rows[i].set j v)).flatten
  | [], i, hi, _, _, _, _ => absurd hi (Nat.not_lt_zero _)
  | r :: rows, 0, _, hr, j, hj, v => by
    have h1 := hr r (.head _)
    simp only [setL, Nat.zero_mul, Nat.zero_add, List.flatten_cons, List.set_cons_zero, List.getElem_cons_zero]
    rw [List.set_append_left _ _ (by omega)]
  | r :: rows, i + 1, hi, hr, j, hj, v => by
    have h1 := hr r (.head _)
    have ih := set_flat rows i (by simpa using hi) (fun x hx => hr x (.tail _ hx)) j hj v
    simp only [setL, List.flatten_cons, List.set_cons_succ, List.getElem_cons_succ] at ih ⊢
    rw [List.set_append_right _ _ (by rw [Nat.succ_mul]; omega), h1, show (i + 1) * sz + j - sz = i * sz + j by rw [Nat.succ_mul]; omega, ih]
theorem Val_remU {P : Program} {N : Nat} {w0 : World} {L : Hp} {e : Env} {d : Option Nat} {ty : TypeId} {pos : String} {af : Array Edge} {g : Option (Nat × Bool)} {x y : Operand} {t t' : TypeId} {a b c : Nat} (hc : a % b = c) (hb : 0 < b) (hx : ev e x = .int .u8 (a : Int)) (hy : ev e y = .int .u8 (b : Int)) : Val P N w0 L e ⟨d, .binOp .rem t x y t', ty, pos, af, g⟩ (.int .u8 (c : Int)) := by
  have := Val_rem (P := P) (N := N) (w0 := w0) (L := L) (d := d) (ty := ty) (pos := pos) (af := af) (g := g) (t := t) (t' := t') hx hy (by omega)
  have e : ((a : Int).tmod b) = (c : Int) := by rw [Int.tmod_eq_emod_of_nonneg (by omega), ← hc]; omega
  rwa [e] at this
theorem ro_blk {N : Nat} {w0 w : World} {L : Hp} {b T : Nat} {cells : List Value} (hI : Inv N w0 L w) (hm : Mem b (Blk T cells) L) : b < w.heap.size ∧ Ro w b 0 cells :=
  ⟨hI.lt hm.mem, fun j v hj => by rw [Nat.zero_add, hI.cell hm]; simpa using hj⟩
/-- What is owned is given a name. -/
theorem WP_nm {P : Program} {r : Option Nat} {n N : Nat} {w0 : World} {L : Hp} {Q : Post} {e : Env} {ds : List Deferred} {c : Code} (h : ∀ L2, L = L2 → WP P r n N w0 c Q e ds L2) : WP P r n N w0 c Q e ds L := h L rfl
theorem VB_ls {d : Bn} (v : VB d) {ls : List Le} (hl : ls.length = d.ls.length) (h : ∀ l ∈ ls, LeOk d.n d.m l) : VB (lsB d ls) := ⟨v.n, v.m, by show ls.length ≤ 4; rw [hl]; exact v.nl, v.nm, h, v.ms⟩
theorem set_ok {d : Bn} (v : VB d) {i : Nat} (a : Le) (h : LeOk d.n d.m a) : ∀ l ∈ d.ls.set i a, LeOk d.n d.m l := fun l hl => by
  rcases List.mem_or_eq_of_mem_set hl with h1 | h1
  · exact v.ls l h1
  · rw [h1]; exact h
theorem andNot_zero {a b : Nat} (ha : b < 2 ^ 64) (h : ∀ j, a / 2 ^ j % 2 = 1 → b / 2 ^ j % 2 = 1) : a &&& (2 ^ 64 - 1 - b) = 0 := by
  apply Nat.eq_of_testBit_eq
  intro j
  rw [Nat.testBit_and, Nat.zero_testBit, show 2 ^ 64 - 1 - b = 2 ^ 64 - (b + 1) by omega, Nat.testBit_two_pow_sub_succ ha]
  have hj := h j
  rw [Nat.testBit_eq_decide_div_mod_eq, Nat.testBit_eq_decide_div_mod_eq]
  by_cases h1 : a / 2 ^ j % 2 = 1
  · simp [h1, hj h1]
  · simp [h1]
/-- Leases that were laid anew, as they lie. -/
theorem ls_sv {N : Nat} {w0 : World} {ls : List Le} {s : Option (Nat × Nat)} {xs : List Value} (hx : xs = (ls.map leL).flatten) (hs : svOk s 5 ls.length xs) :
    ∃ A c, svV s ls.length = .slice A ls.length c ∧ ∀ L', Sub (svH 58 5 ls.length xs s []) L' → ∀ w, Inv N w0 L' w → SlAt w.heap.size w A 5 (ls.map leL) := by
  obtain ⟨A9, c9, e9, hsl⟩ := sl_sv (E := 58) (by omega) hs
  refine ⟨A9, c9, e9, fun L' hS w hI => ?_⟩
  obtain ⟨L0, hp⟩ := hS
  have hI2 := (hI.perm hp)
  rw [svH_nil] at hI2
  exact hsl hI2 hx (map_len (f := leL) (fun _ => rfl) _)
theorem ms_sv {N : Nat} {w0 : World} {ls : List Sp} {s : Option (Nat × Nat)} {xs : List Value} (hx : xs = (ls.map spL).flatten) (hs : svOk s 2 ls.length xs) :
    ∃ A c, svV s ls.length = .slice A ls.length c ∧ ∀ L', Sub (svH 53 2 ls.length xs s []) L' → ∀ w, Inv N w0 L' w → SlAt w.heap.size w A 2 (ls.map spL) := by
  obtain ⟨A9, c9, e9, hsl⟩ := sl_sv (E := 53) (by omega) hs
  refine ⟨A9, c9, e9, fun L' hS w hI => ?_⟩
  obtain ⟨L0, hp⟩ := hS
  have hI2 := (hI.perm hp)
  rw [svH_nil] at hI2
  exact hsl hI2 hx (map_len (f := spL) (fun _ => rfl) _)
/-- A bank that lies at a place, box and all. -/
def BoxAt (w : World) (b : Nat) (g : Fg) : Prop := (b < w.heap.size ∧ Ro w b 0 (bkL g)) ∧ BkAt w.heap.size w g
/-- The first k bits turned round. -/
def revP (n s : Nat) : Nat → Nat
  | 0 => 0
  | k + 1 => if s / 2 ^ k % 2 = 1 then revP n s k ||| 2 ^ (n - 1 - k) else revP n s k
theorem revP_bit (n s j : Nat) : ∀ k, k ≤ n → (revP n s k / 2 ^ j % 2 = 1 ↔ j < n ∧ n - 1 - j < k ∧ s / 2 ^ (n - 1 - j) % 2 = 1)
  | 0, _ => by simp [revP]
  | k + 1, hk => by
    have ih := revP_bit n s j k (by omega)
    unfold revP
    by_cases h : s / 2 ^ k % 2 = 1
    · rw [if_pos h, bit_or, ih, bit_pow]
      constructor
      · rintro (⟨h1, h2, h3⟩ | h1)
        · exact ⟨h1, by omega, h3⟩
        · have : n - 1 - j = k := by omega
          exact ⟨by omega, by omega, by rw [this]; exact h⟩
      · rintro ⟨h1, h2, h3⟩
        by_cases hj : n - 1 - j = k
        · exact .inr (by omega)
        · exact .inl ⟨h1, by omega, h3⟩
    · rw [if_neg h, ih]
      constructor
      · rintro ⟨h1, h2, h3⟩; exact ⟨h1, by omega, h3⟩
      · rintro ⟨h1, h2, h3⟩
        refine ⟨h1, ?_, h3⟩
        by_cases hj : n - 1 - j = k
        · rw [hj] at h3; exact absurd h3 h
        · omega
theorem revP_all (n s : Nat) : revP n s n = revN n s := bits_ext fun j => by
  rw [revP_bit n s j n (Nat.le_refl _), revN_bit]
  constructor
  · rintro ⟨h1, _, h3⟩; exact ⟨h1, h3⟩
  · rintro ⟨h1, h3⟩; exact ⟨h1, by omega, h3⟩
theorem revP_lt (n s : Nat) (k : Nat) (hk : k ≤ n) : revP n s k < 2 ^ n := by
  induction k with
  | zero => exact Nat.two_pow_pos n
  | succ k ih =>
    unfold revP
    split
    · exact Nat.or_lt_two_pow (ih (by omega)) (Nat.pow_lt_pow_right (by omega) (by omega))
    · exact ih (by omega)
attribute [local irreducible] AnyO AnyB QAny QB EWalk AWalk Ev WP OPS QThen QBlock QScope QLoop QBody Val New Turn Tri Enters PostA Blk Ro
attribute [local irreducible] AnyC QC
section
variable (N : Nat) (w0 : World)
theorem turned_ret (L : Hp) (g : Fg) (b4 : Nat) (n s : Nat) (hn : g.d.n = n) (hn10 : n ≤ 10) (hs : s < 2 ^ n) (hb : b4 < N) (hR : Ro w0 b4 0 (bkL g)) : Ret Try.prog N w0 L 44 [.int .i64 (s : Int), .pointer (some ⟨b4, 0, none⟩)].toArray (.int .i64 ((revN n s : Nat) : Int)) := by
  have hp10 : 2 ^ n ≤ 2 ^ 10 := Nat.pow_le_pow_right (by omega) hn10
  have c0 := RoAt hR 0 _ rfl
  rw [hn] at c0
  refine Ret.fgt ?_
  refine tri_of_WP Try.func44 rfl (n := _) rfl (by simp) ?_
  repeat' (first | ((with_reducible refine GiP ?_); first | (refine Znh ?_) | (with_reducible refine Znl ?_)) | ((with_reducible refine GiW ?_); first | (refine Zsq fun K hK => ?_) | (refine ZrN 0 fun _ => ?_; refine Zv Zai ?_) | (refine ZrN 1 fun _ => ?_; refine Zv Zf0 ?_; refine Zv Zld ?_; refine Zv Zmi ?_) | (refine WP_cond_true rfl ?_) | (refine WP_cond_false rfl ?_) | (refine Zcd (fun hc => ?_) (fun hc => ?_) <;> (try (exfalso; omega))) | (with_reducible apply WP_skip) | (with_reducible apply WP_block) | (with_reducible apply WP_exit) | (with_reducible apply WP_ret)) | (refine Zhn ?_) | (with_reducible apply QBlock_normal) | (refine Zhx ?_) | (with_reducible apply QBlock_hit) | (refine Zqb ?_) | (with_reducible apply QLoop_exit) | (refine Zhr ?_) | (with_reducible apply QBlock_ret) | (with_reducible apply QLoop_ret))
  refine WP_loop [3, 4, 7, 8, 9, 10, 11, 12, 13, 14, 15, 16, 17, 18, 19, 20, 21, 22, 23] (fun k : Nat => [(7, .int .i64 (k : Int)), (3, .int .i64 ((revP n s k : Nat) : Int))]) (fun _ => L) (fun k => k ≤ n) (fun k => n - k) 0 (.cons rfl (.cons rfl .nil)) (Wk.refl _) (Nat.zero_le _) ?_
  intro k j hk
  have hlt := revP_lt n s k hk
  by_cases hkn : k < n
  · obtain ⟨sk, hsk⟩ : ∃ r, s / 2 ^ k = r := ⟨_, rfl⟩
    have y1 : sk < 2 ^ 63 := by rw [← hsk]; exact Nat.lt_of_le_of_lt (Nat.div_le_self _ _) (by omega)
    obtain ⟨bt, hbt⟩ : ∃ r, sk &&& 1 = r := ⟨_, rfl⟩
    have hb2 : bt = sk % 2 := by rw [← hbt]; exact Nat.and_one_is_mod _
    have hst : revP n s (k + 1) = if bt = 1 then revP n s k ||| 2 ^ (n - 1 - k) else revP n s k := by
      rw [hb2, ← hsk]; rfl
    have hs1 : ((n : Int) - 1) - (k : Int) = ((n - 1 - k : Nat) : Int) := by omega
    have hp2 : 2 ^ (n - 1 - k) ≤ 2 ^ 10 := Nat.pow_le_pow_right (by omega) (by omega)
    by_cases h1 : bt = 1
    · rw [if_pos h1] at hst
      obtain ⟨x, hx⟩ : ∃ x, revP n s k = x := ⟨_, rfl⟩
      rw [hx] at hst hlt ⊢
      have hvo : ∀ {L e d ty pos af gg x' y' t t'} (hx : ev e x' = .int .i64 (x : Int)) (hy : ev e y' = .int .i64 ((2 ^ (n - 1 - k) : Nat) : Int)), Val Try.prog N w0 L e ⟨d, .binOp .or t x' y' t', ty, pos, af, gg⟩ (.int .i64 ((revP n s (k + 1) : Nat) : Int)) := by
        intro L e d ty pos af gg x' y' t t' hx hy
        have := Val_orS (P := Try.prog) (N := N) (w0 := w0) (L := L) (d := d) (ty := ty) (pos := pos) (af := af) (g := gg) (t := t) (t' := t') hx hy (by omega) (by omega)
        rw [← hst] at this
        exact this
      repeat' (first | ((with_reducible refine GiP ?_); first | (refine Znh ?_) | (with_reducible refine Znl ?_)) | ((with_reducible refine GiW ?_); first | (refine Zsq fun K hK => ?_) | (refine ZrN 2 fun _ => ?_; refine Zv Zylss ?_) | (refine ZrN 3 fun _ => ?_; refine Zv Zmi ?_; refine Zv Zai ?_) | (refine ZrN 4 fun _ => ?_; refine Zv Zmi ?_; refine Zv Zmi ?_; refine Zv (Val_shrE hsk (by omega) rfl rfl) ?_; refine Zv (Val_andE hbt y1 (by omega) rfl rfl) ?_; refine Zv Zyeql ?_) | (refine ZrN 5 fun _ => ?_; refine Zv Zmi ?_; refine Zv Zf0 ?_; refine Zv Zld ?_; (first | (refine Zv (Val_subN hs1 (by omega) rfl rfl) ?_) | (refine Zv (Val_sub rfl rfl (InK_i64 (by omega) (by omega))) ?_)); refine Zv Zmi ?_; (first | (refine Zv (Val_subN hs1 (by omega) rfl rfl) ?_) | (refine Zv (Val_sub rfl rfl (InK_i64 (by omega) (by omega))) ?_)); refine Zv (Val_shlS (i := n - 1 - k) rfl rfl (by omega)) ?_; refine Zv (hvo rfl rfl) ?_; refine Zv Zai ?_) | (refine ZrN 6 fun _ => ?_; refine Zv Zxadd ?_; refine Zv Zmi ?_) | (refine WP_cond_true rfl ?_) | (refine WP_cond_false rfl ?_) | (refine Zcd (fun hc => ?_) (fun hc => ?_) <;> (try (exfalso; omega))) | (with_reducible apply WP_skip) | (with_reducible apply WP_block) | (with_reducible apply WP_exit) | (with_reducible apply WP_ret)) | (refine Zhn ?_) | (with_reducible apply QBlock_normal) | (refine Zhx ?_) | (with_reducible apply QBlock_hit) | (refine Zqb ?_) | (with_reducible apply QLoop_exit) | (refine Zhr ?_) | (with_reducible apply QBlock_ret) | (with_reducible apply QLoop_ret))
      exact QLoop_normal (k + 1) (.cons rfl (.cons rfl .nil)) (by repeat (first | exact Off.frame rfl | exact Off.refl _ _ | refine Off.frameT rfl rfl ?_ | refine Off.upd rfl ?_ | refine Off.updO rfl ?_)) (by repeat (first | exact Wk.refl _ | apply Wk.keep1 | apply Wk.drop | apply Wk.sv | apply Wk.svD | apply Wk.appD)) (by omega) (by omega)
    · rw [if_neg h1] at hst
      repeat' (first | ((with_reducible refine GiP ?_); first | (refine Znh ?_) | (with_reducible refine Znl ?_)) | ((with_reducible refine GiW ?_); first | (refine Zsq fun K hK => ?_) | (refine ZrN 2 fun _ => ?_; refine Zv Zylss ?_) | (refine ZrN 3 fun _ => ?_; refine Zv Zmi ?_; refine Zv Zai ?_) | (refine ZrN 4 fun _ => ?_; refine Zv Zmi ?_; refine Zv Zmi ?_; refine Zv (Val_shrE hsk (by omega) rfl rfl) ?_; refine Zv (Val_andE hbt y1 (by omega) rfl rfl) ?_; refine Zv Zyeql ?_) | (refine ZrN 6 fun _ => ?_; refine Zv Zxadd ?_; refine Zv Zmi ?_) | (refine WP_cond_true rfl ?_) | (refine WP_cond_false rfl ?_) | (refine Zcd (fun hc => ?_) (fun hc => ?_) <;> (try (exfalso; omega))) | (with_reducible apply WP_skip) | (with_reducible apply WP_block) | (with_reducible apply WP_exit) | (with_reducible apply WP_ret)) | (refine Zhn ?_) | (with_reducible apply QBlock_normal) | (refine Zhx ?_) | (with_reducible apply QBlock_hit) | (refine Zqb ?_) | (with_reducible apply QLoop_exit) | (refine Zhr ?_) | (with_reducible apply QBlock_ret) | (with_reducible apply QLoop_ret))
      exact QLoop_normal (k + 1) (.cons rfl (.cons (by rw [hst]; rfl) .nil)) (by repeat (first | exact Off.frame rfl | exact Off.refl _ _ | refine Off.frameT rfl rfl ?_ | refine Off.upd rfl ?_ | refine Off.updO rfl ?_)) (by repeat (first | exact Wk.refl _ | apply Wk.keep1 | apply Wk.drop | apply Wk.sv | apply Wk.svD | apply Wk.appD)) (by omega) (by omega)
  · have hke : k = n := by omega
    subst hke
    rw [revP_all]
    repeat' (first | ((with_reducible refine GiP ?_); first | (refine Znh ?_) | (with_reducible refine Znl ?_)) | ((with_reducible refine GiW ?_); first | (refine Zsq fun K hK => ?_) | (refine ZrN 2 fun _ => ?_; refine Zv Zylss ?_) | (refine ZrN 7 fun _ => ?_; refine Zv Zmi ?_; refine Zv Zai ?_) | (refine WP_cond_true rfl ?_) | (refine WP_cond_false rfl ?_) | (refine Zcd (fun hc => ?_) (fun hc => ?_) <;> (try (exfalso; omega))) | (with_reducible apply WP_skip) | (with_reducible apply WP_block) | (with_reducible apply WP_exit) | (with_reducible apply WP_ret)) | (refine Zhn ?_) | (with_reducible apply QBlock_normal) | (refine Zhx ?_) | (with_reducible apply QBlock_hit) | (refine Zqb ?_) | (with_reducible apply QLoop_exit) | (refine Zhr ?_) | (with_reducible apply QBlock_ret) | (with_reducible apply QLoop_ret))
    exact QBody_ret1 rfl (rfl : _ = Value.int _ _) ⟨rfl, (by repeat (first | exact Wk.refl _ | apply Wk.keep1 | apply Wk.drop | apply Wk.sv | apply Wk.svD | apply Wk.appD))⟩
end
end Go.Proofs.Ytakmopiceopcpaa
end

section
namespace Go.Proofs.Ytakmopiceopcpaa
open Go.RowKit
theorem errT_two {d : Bn} (v : VB d) : errT d true = 10 ∧ (trL d).length = 0 ∨ errT d true = 0 ∧ 0 < (trL d).length := by
  by_cases h : (trL d).length = 0
  · exact .inl ⟨errT_10 (vB_of v) rfl h, h⟩
  · exact .inr ⟨errT_0 (vB_of v) rfl (by omega), by omega⟩
theorem whoV_eq {d : Bn} {p : Nat} (hp : (p : Int) < d.n) : WhoseV d p = if errT d true = 0 then whoS d p else 0 := by
  unfold WhoseV
  rw [show inB (p : Int) 0 (d.n - 1) = true from decide_eq_true (by omega)]
theorem surV_eq {d : Bn} {h : Nat} (hh : (h : Int) ≤ d.m) : SureV d h = if errT d true = 0 then surS d h else 0 := by
  unfold SureV
  rw [show inB (h : Int) 0 d.m = true from decide_eq_true (by omega)]
theorem perV_eq {d : Bn} {h : Nat} (hh : (h : Int) ≤ d.m) : PerhV d h = if errT d true = 0 then perS d h else 0 := by
  unfold PerhV
  rw [show inB (h : Int) 0 d.m = true from decide_eq_true (by omega)]
theorem widV_eq {d : Bn} {h : Nat} (hh : (h : Int) ≤ d.m) : WideV d h = if errT d true = 0 then wideS d h else (0, 0) := by
  unfold WideV
  rw [show inB (h : Int) 0 d.m = true from decide_eq_true (by omega)]
theorem who10 {d : Bn} (v : VB d) (p : Int) : whoS d p < 2 ^ 10 := Nat.lt_of_lt_of_le (who_lt d p) (Nat.pow_le_pow_right (by omega) (by have := v.m; omega))
theorem sur10 {d : Bn} (v : VB d) (h : Int) : surS d h < 2 ^ 10 := Nat.lt_of_lt_of_le (sur_lt d h) (Nat.pow_le_pow_right (by omega) (by have := v.n; omega))
theorem per10 {d : Bn} (v : VB d) (h : Int) : perS d h < 2 ^ 10 := Nat.lt_of_lt_of_le (per_lt d h) (Nat.pow_le_pow_right (by omega) (by have := v.n; omega))
/-- What is known better is returned no less exactly. -/
theorem less_vals {q d : Bn} (l : Less q d) (vq : VB q) (vd : VB d) {p h : Nat} (hp : (p : Int) < d.n) (hh : (h : Int) ≤ d.m) :
    (errT q true = 10 ∨ (errT q true = 0 ∧ errT d true = 0 ∧ WhoseV q p &&& (2 ^ 64 - 1 - WhoseV d p) = 0 ∧ SureV d h &&& (2 ^ 64 - 1 - SureV q h) = 0 ∧ PerhV q h &&& (2 ^ 64 - 1 - PerhV d h) = 0 ∧ (WideV d h).1 ≤ (WideV q h).1 ∧ (WideV q h).2 ≤ (WideV d h).2)) ∧ CountV q ≤ CountV d := by
  refine ⟨?_, by rw [CountV_of vq, CountV_of vd]; exact l.all⟩
  rcases errT_two vq with ⟨h1, _⟩ | ⟨h1, h2⟩
  · exact .inl h1
  · have h3 := l.all
    have h4 : errT d true = 0 := errT_0 (vB_of vd) rfl (by omega)
    refine .inr ⟨h1, h4, ?_, ?_, ?_, ?_⟩
    · rw [whoV_eq (d := q) (by rw [l.n]; exact hp), whoV_eq hp, if_pos h1, if_pos h4]
      exact andNot_zero (by have := who10 vd (p : Int); omega) fun j hj => l.who ⟨by omega, hp⟩ j hj
    · rw [surV_eq (d := q) (by rw [l.m]; exact hh), surV_eq hh, if_pos h1, if_pos h4]
      exact andNot_zero (by have := sur10 vq (h : Int); omega) fun j hj => l.sur _ j hj
    · rw [perV_eq (d := q) (by rw [l.m]; exact hh), perV_eq hh, if_pos h1, if_pos h4]
      exact andNot_zero (by have := per10 vd (h : Int); omega) fun j hj => l.per _ j hj
    · rw [widV_eq (d := q) (by rw [l.m]; exact hh), widV_eq hh, if_pos h1, if_pos h4]
      exact l.wide _ h2
/-- The bank turned round: perches only change their numbers. -/
theorem turn_vals {d : Bn} (v : VB d) {n p h : Nat} (hn : d.n = n) (hp : p < n) (hh : (h : Int) ≤ d.m) :
    errT (turnB d) true = errT d true ∧ WhoseV (turnB d) ((n : Int) - 1 - p) = WhoseV d p ∧ SureV (turnB d) h = revN n (SureV d h) ∧ PerhV (turnB d) h = revN n (PerhV d h) ∧ WideV (turnB d) h = WideV d h ∧ CountV (turnB d) = CountV d ∧ FalseN (turnB d) = FalseN d := by
  have vt := VB_turn v
  have hnb := v.n
  have he : errT (turnB d) true = errT d true := by
    have h1 := turn_all d
    rcases errT_two vt with ⟨a, b⟩ | ⟨a, b⟩ <;> rcases errT_two v with ⟨c, e⟩ | ⟨c, e⟩ <;> omega
  have hr0 : revN n 0 = 0 := bits_ext fun j => by rw [revN_bit]; simp
  refine ⟨he, ?_, ?_, ?_, ?_, ?_, ?_⟩
  · obtain ⟨p', hp'⟩ : ∃ p' : Nat, (n : Int) - 1 - p = p' := ⟨n - 1 - p, by omega⟩
    rw [hp', whoV_eq (d := turnB d) (by show (p' : Int) < d.n; omega), whoV_eq (d := d) (by omega), he, ← hp', ← hn, turn_who ⟨by omega, by omega⟩]
  · rw [surV_eq (d := turnB d) hh, surV_eq hh, he]
    split
    · rw [turn_sur, show d.n.toNat = n by omega]
    · exact hr0.symm
  · rw [perV_eq (d := turnB d) hh, perV_eq hh, he]
    split
    · rw [turn_per, show d.n.toNat = n by omega]
    · exact hr0.symm
  · rw [widV_eq (d := turnB d) hh, widV_eq hh, he, turn_wide (by omega)]
  · rw [CountV_of vt, CountV_of v, turn_all]
  · unfold FalseN
    rw [if_pos (vB_of vt), if_pos (vB_of v), false_turn v]
theorem vals_bnd {d : Bn} (v : VB d) {p h : Nat} (hp : (p : Int) < d.n) (hh : (h : Int) ≤ d.m) : WhoseV d p < 2 ^ 10 ∧ SureV d h < 2 ^ 10 ∧ PerhV d h < 2 ^ 10 ∧ (0 ≤ (WideV d h).1 ∧ (WideV d h).1 ≤ 10 ∧ 0 ≤ (WideV d h).2 ∧ (WideV d h).2 ≤ 10) ∧ CountV d ≤ 6561 ∧ FalseN d ≤ 7 ∧ SureV d h < 2 ^ d.n.toNat ∧ PerhV d h < 2 ^ d.n.toNat := by
  have hnb := v.n
  have hz := Nat.two_pow_pos d.n.toNat
  rw [whoV_eq hp, surV_eq hh, perV_eq hh, widV_eq hh, CountV_of v]
  have h1 := who10 v (p : Int)
  have h2 := sur10 v (h : Int)
  have h3 := per10 v (h : Int)
  have h4 := sur_lt d (h : Int)
  have h5 := per_lt d (h : Int)
  have h6 : (trL d).length ≤ 6561 := by have := ways_bd v []; rw [waysN_nil] at this; exact this
  have h7 : FalseN d ≤ 7 := by
    unfold FalseN
    split
    · unfold pc; omega
    · omega
  rcases errT_two v with ⟨e, _⟩ | ⟨e, e0⟩
  · simp only [e]
    rw [if_neg (by omega), if_neg (by omega), if_neg (by omega), if_neg (by omega)]
    dsimp only
    omega
  · rw [if_pos e, if_pos e, if_pos e, if_pos e]
    have hb := cnF_bd v (h : Int) 0 (combos d.ls).length
    rw [cnF_all] at hb
    rw [cnA_wide v (h : Int) 0 e0]
    dsimp only
    omega
end Go.Proofs.Ytakmopiceopcpaa
end
