/- The document's answer for banks: all truths, the error; in how many a perch is that of one. · The document's answer for banks: its functions, walked. · The document's answer for banks: its functions, walked, further. · The document's answer for banks: its functions, walked, further. · The document's answer for banks: how few marks must be false, which clash. -/
import Derived.Test.YtakmopiceopcpaaY2
section
namespace Go.Proofs.Ytakmopiceopcpaa
open Go.RowKit
/-- Lists of lines that can be read. -/
def RdT (N : Nat) (w0 : World) (L : Hp) (A : Option Addr) (rows : List (List Sp)) : Prop := ∀ i (hi : i < rows.length), ∃ b A1 c1 A2 c2, A = some ⟨b, 0, none⟩ ∧ ∀ L', Wk L' L → (∀ j v, [Value.slice A1 rows[i].length c1, .slice A2 rows[i].length c2][j]? = some v → Rd N w0 L' b (0 + i * 2 + j) v) ∧ RdI N w0 L' A1 (rows[i].map (·.1)) ∧ RdI N w0 L' A2 (rows[i].map (·.2))
theorem RdT.wk {N : Nat} {w0 : World} {L L' : Hp} {A : Option Addr} {rows : List (List Sp)} (h : RdT N w0 L A rows) (k : Wk L' L) : RdT N w0 L' A rows := fun i hi => by
  obtain ⟨b, A1, c1, A2, c2, h1, h2⟩ := h i hi
  exact ⟨b, A1, c1, A2, c2, h1, fun L2 k2 => h2 L2 (k2.trans k)⟩
theorem fsF_tr (d : Bn) (set : Nat) : fsF d set [] d.ls = trL (onlyB d set) := by
  unfold fsF trL
  congr 1
  simp
  rfl
theorem tr_every {d : Bn} (v : VB d) : trL (onlyB d (evB d)) = trL d := by
  unfold evB
  rw [only_all v]
theorem tr_bd {d : Bn} (v : VB d) : (trL d).length ≤ 6561 := by have := ways_bd v []; rw [waysN_nil] at this; exact this
attribute [local irreducible] AnyO AnyB QAny QB EWalk AWalk Ev WP OPS QThen QBlock QScope QLoop QBody Val New Turn Tri Enters PostA Blk Ro
attribute [local irreducible] AnyC QC
section
variable (N : Nat) (w0 : World)
theorem truths_ref (L : Hp) (g : Fg) (hA : BkAt N w0 g) (hv : VB g.d) (set : Nat) (hset : set ≤ 1000000) :
    Tri Try.prog N w0 L 85 [bkV g, .int .i64 (set : Int)].toArray fun x L2 => ∃ v, x = .returned v ∧ ∃ X A c, v = .slice A (trL (onlyB g.d set)).length c ∧ RdLL X v (trL (onlyB g.d set)) ∧ L2 = X ++ L := by
  have hfr : ∀ L, Tri Try.prog N w0 L 101 [bkV g, .agg [.slice none 0 0, .slice none 0 0].toArray, .int .i64 (set : Int), .slice none 0 0].toArray fun x L2 => ∃ v, x = .returned v ∧ ∃ X A c, v = .slice A (trL (onlyB g.d set)).length c ∧ RdLL X v (trL (onlyB g.d set)) ∧ L2 = X ++ L := by
    intro L
    have hnl := hv.nl
    have h9 : 9 ^ g.d.ls.length ≤ 9 ^ 4 := Nat.pow_le_pow_right (by omega) hnl
    have h := from_a N w0 g hA hv set hset g.d.ls [] (by simp) rfl L [] (.slice none 0 0) (.slice none 0 0) [] [] none ⟨RdL.nilS [] 0, RdL.nilS [] 0⟩ (svOk_nil _) (fun i row hi => by simp at hi) (by simp; omega)
    refine Tri.mono h ?_
    rintro x L2 ⟨v, rfl, rows, X2, vals, s, rfl, hrows, hs, hrd, rfl⟩
    have hr : rows = trL (onlyB g.d set) := by rw [hrows, List.nil_append, fsF_tr]
    rw [List.append_nil] at hrd ⊢
    have hfin := (RdLL.sv (E := 85) hs hrd)
    rw [hr] at hfin ⊢
    have hfin2 := hfin
    obtain ⟨A, c, he, -⟩ := hfin2
    exact ⟨_, rfl, _, A, c, he, hfin, by rw [svH_app]⟩
  refine Tri.fgt ?_
  refine tri_of_WP Try.func85 rfl (n := _) rfl (by simp) ?_
  unfold bkV bkL at hfr ⊢
  repeat' (first | (refine GiP ?_; first | (refine Znh ?_) | (with_reducible refine Znl ?_)) | (refine GiW ?_; first | (refine Zsq fun K hK => ?_) | (refine ZrN 0 fun _ => ?_; refine Zal 2 fun b2 => ?_; refine Zv Zav ?_) | (refine ZrN 1 fun _ => ?_; refine Zv Zla ?_; refine Zv Zxbu ?_; refine Zv Zmi ?_; refine OPS_retKS (Enters_fn rfl) (hfr _) rfl rfl rfl (fun v8 L8 h8 => ?_); obtain ⟨X8, A8, c8, rfl, hr8, rfl⟩ := h8; refine Zv Zav ?_) | (with_reducible apply WP_ret)) | (refine Zhn ?_) | (refine Zhr ?_))
  exact QBody_ret1 rfl (rfl : _ = Value.slice _ _ _) ⟨X8 ++ L, Wk.appK X8 (.drop (.refl _)), _, rfl, X8, A8, c8, rfl, hr8, rfl⟩
theorem truthsAll_ref (L : Hp) (g : Fg) (hA : BkAt N w0 g) (hv : VB g.d) :
    Tri Try.prog N w0 L 75 [bkV g].toArray fun x L2 => ∃ v, x = .returned v ∧ ∃ X A c, v = .slice A (trL g.d).length c ∧ RdLL X v (trL g.d) ∧ L2 = X ++ L := by
  have hnm := hv.nm
  have hp : 2 ^ g.d.ms.length ≤ 2 ^ 7 := Nat.pow_le_pow_right (by omega) (by omega)
  have hev := fun L => every_refR N w0 L g (by omega)
  have htr := fun L => truths_ref N w0 L g hA hv (evB g.d) (by unfold evB; omega)
  rw [tr_every hv] at htr
  refine Tri.fgt ?_
  refine tri_of_WP Try.func75 rfl (n := _) rfl (by simp) ?_
  unfold bkV bkL at hev htr ⊢
  repeat' (first | (refine GiP ?_; first | (refine Znh ?_) | (with_reducible refine Znl ?_) | (refine Zatd 6 ?_; refine OPS_retKS (Enters_fn rfl) (htr _) rfl rfl rfl (fun v6 L6 h6 => ?_); obtain ⟨X6, A6, c6, rfl, hr6, rfl⟩ := h6) | (refine Zatd 2 ?_; refine Zv Zav ?_)) | (refine GiW ?_; first | (refine Zsq fun K hK => ?_) | (refine ZrN 0 fun _ => ?_; refine Zal 1 fun b1 => ?_; refine Zv Zav ?_) | (with_reducible apply WP_ret) | (refine WP_drawnS (id := 1) [] [0, 1, 2] [] [] (k := 0) (k2 := 2) (by repeat (first | apply Sub.sv | apply Sub.keep | apply Sub.appK | exact Sub.refl _)) (by kernel_rfl) prog_mixed (by kernel_rfl) (by kernel_rfl) rfl ?_; refine Zew rfl Zla ?_; refine Zew rfl Zla ?_; refine Zec rfl (Enters_fn rfl) (fun X => hev _) ?_)) | (with_reducible apply EWalk_nil) | (refine ZgC [0, 1, 2] ?_; refine ZCl _ ?_) | (refine GiO ?_; first | (refine ZgO [0, 1, 2] ?_; refine ZO1 _ 3 [0, 1, 2, 3] ?_) | (refine ZgO [0, 1, 2, 3] ?_; refine ZO1 _ 4 [0, 1, 2, 3, 4] ?_) | (refine ZgO [0, 1, 2, 3, 4] ?_; refine ZOd _ ?_; (try with_reducible apply noP_normal); (try with_reducible exact key.out))) | (refine Zhn ?_) | (refine Zhr ?_) | (refine AWalk_0 ?_) | (with_reducible apply QAny_normal) | (with_reducible apply QC_normal))
  all_goals exact QBody_ret1 rfl (rfl : _ = Value.slice _ _ _) ⟨X6 ++ L, Wk.appK X6 (.drop (.refl _)), _, rfl, X6, A6, c6, rfl, hr6, rfl⟩
theorem check_ref (L : Hp) (g : Fg) (hA : BkAt N w0 g) (hf : farB g.d = false) (ok : Bool) :
    Ret Try.prog N w0 L 74 [bkV g, .bool ok].toArray (.int .i64 (if vB g.d then if ok then 0 else 2 else 1)) := by
  have hdr := fun L => rBank_in N w0 L g (BankIn.at_ hA) hf
  refine Ret.fgt ?_
  refine tri_of_WP Try.func74 rfl (n := _) rfl (by simp) ?_
  unfold bkV bkL at hdr ⊢
  obtain ⟨b, hb⟩ : ∃ b, vB g.d = b := ⟨_, rfl⟩
  rw [hb] at hdr ⊢
  cases b <;> cases ok
  all_goals
    repeat' (first | (refine GiP ?_; first | (refine Znh ?_) | (with_reducible refine Znl ?_)) | (refine GiW ?_; first | (refine Zsq fun K hK => ?_) | (refine ZrN 0 fun _ => ?_; refine Zal 2 fun b2 => ?_; refine Zv Zai ?_) | (refine ZrN 1 fun _ => ?_; refine Zv Zla ?_; refine Zcl (Enters_fn rfl) (hdr _) ?_; refine Zv Zxnot ?_) | (refine ZrN 2 fun _ => ?_; refine Zv Zai ?_) | (refine ZrN 3 fun _ => ?_; refine Zv Zmb ?_; refine Zv Zxnot ?_) | (refine ZrN 4 fun _ => ?_; refine Zv Zai ?_) | (refine ZrN 5 fun _ => ?_; refine Zv Zai ?_) | (refine WP_cond_true rfl ?_) | (refine WP_cond_false rfl ?_) | (refine Zcd (fun hc => ?_) (fun hc => ?_) <;> (try (exfalso; omega))) | (with_reducible apply WP_skip) | (with_reducible apply WP_ret)) | (refine Zhn ?_) | (refine Zhr ?_))
    all_goals exact QBody_ret1 rfl (rfl : _ = Value.int _ _) ⟨rfl, (by repeat (first | exact Wk.refl _ | apply Wk.keep1 | apply Wk.drop | apply Wk.sv | apply Wk.svD | apply Wk.appD))⟩
end
end Go.Proofs.Ytakmopiceopcpaa
end

section
namespace Go.Proofs.Ytakmopiceopcpaa
open Go.RowKit
attribute [local irreducible] AnyO AnyB QAny QB EWalk AWalk Ev WP OPS QThen QBlock QScope QLoop QBody Val New Turn Tri Enters PostA Blk Ro
attribute [local irreducible] AnyC QC
section
variable (N : Nat) (w0 : World)
end
end Go.Proofs.Ytakmopiceopcpaa
end

section
namespace Go.Proofs.Ytakmopiceopcpaa
open Go.RowKit
attribute [local irreducible] AnyO AnyB QAny QB EWalk AWalk Ev WP OPS QThen QBlock QScope QLoop QBody Val New Turn Tri Enters PostA Blk Ro
attribute [local irreducible] AnyC QC
section
variable (N : Nat) (w0 : World)
end
end Go.Proofs.Ytakmopiceopcpaa
end

section
namespace Go.Proofs.Ytakmopiceopcpaa
open Go.RowKit
attribute [local irreducible] AnyO AnyB QAny QB EWalk AWalk Ev WP OPS QThen QBlock QScope QLoop QBody Val New Turn Tri Enters PostA Blk Ro
attribute [local irreducible] AnyC QC
section
variable (N : Nat) (w0 : World)
end
end Go.Proofs.Ytakmopiceopcpaa
end

section
namespace Go.Proofs.Ytakmopiceopcpaa
open Go.RowKit
set_option maxRecDepth 100000 in
theorem pc_full : ∀ m, m < 8 → ∀ k, k < 2 ^ m → pc k ≤ pc (2 ^ m - 1) ∧ (pc k = pc (2 ^ m - 1) → k = 2 ^ m - 1) := by decide +kernel
/-- The best set of those below k. -/
structure Scan (p : Nat → Bool) (m k b : Nat) : Prop where
  lt : b < 2 ^ m
  ok : p b = true
  pl : b < k ∨ b = 2 ^ m - 1
  mn : ∀ y, y < k → p y = true → pc b < pc y ∨ (pc b = pc y ∧ b ≤ y)
theorem Scan.zero {p : Nat → Bool} {m : Nat} (h : p (2 ^ m - 1) = true) : Scan p m 0 (2 ^ m - 1) := ⟨by have := Nat.two_pow_pos m; omega, h, .inr rfl, fun y hy => absurd hy (by omega)⟩
theorem Scan.yes {p : Nat → Bool} {m k b : Nat} (h : Scan p m k b) (hk : k < 2 ^ m) (h1 : pc k < pc b) (h2 : p k = true) : Scan p m (k + 1) k := by
  refine ⟨hk, h2, .inl (by omega), fun y hy hp => ?_⟩
  by_cases e : y = k
  · subst e; exact .inr ⟨rfl, Nat.le_refl _⟩
  · rcases h.mn y (by omega) hp with h3 | h3
    · exact .inl (by omega)
    · exact .inl (by omega)
theorem Scan.no {p : Nat → Bool} {m k b : Nat} (hm : m < 8) (h : Scan p m k b) (hk : k < 2 ^ m) (h1 : pc k < pc b → p k = false) : Scan p m (k + 1) b := by
  refine ⟨h.lt, h.ok, by rcases h.pl with h | h; exact .inl (by omega); exact .inr h, fun y hy hp => ?_⟩
  by_cases e : y = k
  · subst e
    have h2 : ¬ pc y < pc b := fun h3 => by rw [h1 h3] at hp; cases hp
    by_cases h3 : pc b < pc y
    · exact .inl h3
    · right
      refine ⟨by omega, ?_⟩
      rcases h.pl with h4 | h4
      · omega
      · have := (pc_full m hm y hk).2 (by rw [← h4]; omega)
        omega
  · exact h.mn y (by omega) hp
theorem Scan.end_ {p : Nat → Bool} {m b x : Nat} (h : Scan p m (2 ^ m) b) (h1 : x < 2 ^ m) (h2 : p x = true) (h3 : ∀ y, y < 2 ^ m → p y = true → pc x ≤ pc y ∧ (pc y = pc x → x ≤ y)) : b = x := by
  have a := h.mn x h1 h2
  have c := h3 b h.lt h.ok
  omega
theorem Val_subE {P : Program} {N : Nat} {w0 : World} {L : Hp} {e : Env} {d : Option Nat} {ty : TypeId} {pos : String} {af : Array Edge} {g : Option (Nat × Bool)} {x y : Operand} {t t' : TypeId} {m n : Int} {c : Nat} (hc : m - n = (c : Int)) (hb : c ≤ 1000000) (hx : ev e x = .int .i64 m) (hy : ev e y = .int .i64 n) : Val P N w0 L e ⟨d, .binOp .sub t x y t', ty, pos, af, g⟩ (.int .i64 (c : Int)) := by
  rw [← hc]
  exact Val_sub hx hy (InK_i64 (by omega) (by omega))
attribute [local irreducible] AnyO AnyB QAny QB EWalk AWalk Ev WP OPS QThen QBlock QScope QLoop QBody Val New Turn Tri Enters PostA Blk Ro
attribute [local irreducible] AnyC QC
section
variable (N : Nat) (w0 : World)
set_option maxHeartbeats 4000000 in
theorem rFalse_ret (L : Hp) (g : Fg) (hA : BkAt N w0 g) (hf : farB g.d = false) :
    Ret Try.prog N w0 L 28 [bkV g].toArray (.tuple [.int .i64 ((FalseN g.d : Nat) : Int), .int .i64 ((FalseV g.d : Nat) : Int), .int .i64 (CountE g.d)].toArray) := by
  have hck := fun L => check_ref N w0 L g hA hf true
  cases hvb : vB g.d with
  | false =>
    have z1 : CountE g.d = 1 := by simp [CountE, hvb]
    have z2 : FalseN g.d = 0 := by simp [FalseN, hvb]
    have z3 : FalseV g.d = 0 := by simp [FalseV, hvb]
    rw [z1, z2, z3]
    rw [hvb] at hck
    simp only [Bool.false_eq_true, if_false] at hck
    refine Ret.fgt ?_
    refine tri_of_WP Try.func28 rfl (n := _) rfl (by simp) ?_
    unfold bkV bkL at hck ⊢
    repeat' (first | (refine GiP ?_; first | (refine Znh ?_) | (with_reducible refine Znl ?_)) | (refine GiW ?_; first | (refine Zsq fun K hK => ?_) | (refine ZrN 0 fun _ => ?_; refine Zal 1 fun b1 => ?_; refine Zv Zai ?_; refine Zv Zai ?_; refine Zv Zai ?_) | (refine ZrN 1 fun _ => ?_; refine Zv Zla ?_; refine Zcl (Enters_fn rfl) (hck _) ?_; refine Zv Zai ?_) | (refine ZrN 2 fun _ => ?_; refine Zv Zmi ?_; refine Zv Zyneq ?_) | (refine ZrN 3 fun _ => ?_; refine Zv Zmi ?_; refine Zv Zai ?_; refine Zv Zai ?_; refine Zv Zai ?_) | (refine WP_cond_true rfl ?_) | (refine WP_cond_false rfl ?_) | (refine Zcd (fun hc => ?_) (fun hc => ?_) <;> (try (exfalso; omega))) | (with_reducible apply WP_skip) | (with_reducible apply WP_block) | (with_reducible apply WP_exit) | (with_reducible apply WP_ret)) | (refine Zhn ?_) | (with_reducible apply QBlock_normal) | (refine Zhx ?_) | (with_reducible apply QBlock_hit) | (refine Zqb ?_) | (with_reducible apply QLoop_exit) | (refine Zhr ?_) | (with_reducible apply QBlock_ret) | (with_reducible apply QLoop_ret))
    exact QBody_res rfl (.tmp (rfl : _ = Value.int _ _) (.tmp (rfl : _ = Value.int _ _) (.tmp (rfl : _ = Value.int _ _) .nil))) rfl ⟨rfl, (by repeat (first | exact Wk.refl _ | apply Wk.keep1 | apply Wk.drop | apply Wk.sv | apply Wk.svD | apply Wk.appD))⟩
  | true =>
      have hv := VB_of hvb
      have hnm := hv.nm
      obtain ⟨f1, f2, f5⟩ := false_facts hv
      rw [CountE_of hv, show FalseN g.d = pc (falseS g.d) by simp [FalseN, hvb], show FalseV g.d = falseS g.d by simp [FalseV, hvb]]
      rw [hvb] at hck
      simp only [if_true] at hck
      obtain ⟨m, hm⟩ : ∃ m, g.d.ms.length = m := ⟨_, rfl⟩
      have hp7 : 2 ^ m ≤ 2 ^ 6 := Nat.pow_le_pow_right (by omega) (by omega)
      have hp0 := Nat.two_pow_pos m
      have hbd : ∀ s, (trL (onlyB g.d s)).length ≤ 6561 := fun s => tr_bd (VB_only hv s)
      have had : evB g.d = 2 ^ m - 1 := by unfold evB; rw [hm]
      have hal := fun L => every_refR N w0 L g (by omega)
      rw [had] at hal
      have hfr := fun L s (hs : s < 2 ^ m) => truths_ref N w0 L g hA hv s (by omega)
      have hsz := fun L x h => size_ret N w0 L x h
      rw [hm] at f1 f2 f5
      obtain ⟨S, hS⟩ : ∃ S, falseS g.d = S := ⟨_, rfl⟩
      rw [hS] at f1 f2 f5 ⊢
      have hfin := fun b (h : Scan (fun s => canB g.d (2 ^ m - 1 - s)) m (2 ^ m) b) => h.end_ f1 f2 f5
      have hfull : canB g.d (2 ^ m - 1 - (2 ^ m - 1)) = true := by rw [Nat.sub_self]; exact can_zero hv
      obtain ⟨M, hM⟩ : ∃ M, 2 ^ m = M := ⟨_, rfl⟩
      rw [hM] at hal hp7 hp0 hfr f1
      have hpS : pc S ≤ 7 := by unfold pc; omega
      refine Ret.fgt ?_
      refine tri_of_WP Try.func28 rfl (n := _) rfl (by simp) ?_
      unfold bkV bkL at hck hal hfr ⊢
      rw [hm] at hck hal hfr ⊢
      repeat' (first | (refine GiP ?_; first | (refine Znh ?_) | (with_reducible refine Znl ?_)) | (refine GiW ?_; first | (refine Zsq fun K hK => ?_) | (refine ZrN 0 fun _ => ?_; refine Zal 1 fun b1 => ?_; refine Zv Zai ?_; refine Zv Zai ?_; refine Zv Zai ?_) | (refine ZrN 1 fun _ => ?_; refine Zv Zla ?_; refine Zcl (Enters_fn rfl) (hck _) ?_; refine Zv Zai ?_) | (refine ZrN 2 fun _ => ?_; refine Zv Zmi ?_; refine Zv Zyneq ?_) | (refine ZrN 4 fun _ => ?_; refine Zv Zla ?_; refine Zcl (Enters_fn rfl) (hal _) ?_; refine Zv Zai ?_) | (refine ZrN 5 fun _ => ?_; refine Zv Zai ?_) | (refine WP_cond_true rfl ?_) | (refine WP_cond_false rfl ?_) | (refine Zcd (fun hc => ?_) (fun hc => ?_) <;> (try (exfalso; omega))) | (with_reducible apply WP_skip) | (with_reducible apply WP_block) | (with_reducible apply WP_exit) | (with_reducible apply WP_ret)) | (refine Zhn ?_) | (with_reducible apply QBlock_normal) | (refine Zhx ?_) | (with_reducible apply QBlock_hit) | (refine Zqb ?_) | (with_reducible apply QLoop_exit) | (refine Zhr ?_) | (with_reducible apply QBlock_ret) | (with_reducible apply QLoop_ret))
      have hz0 : Scan (fun s => canB g.d (2 ^ m - 1 - s)) m 0 (M - 1) := by rw [← hM]; exact Scan.zero (by first | exact hfull | (rw [hM]; exact hfull))
      refine WP_loop [6, 7, 15, 16, 17, 18, 19, 20, 21, 22, 23, 24, 25, 26, 27, 28, 29, 30, 31, 32, 33, 34, 35, 36] (fun q : Nat × Nat => [(6, .int .i64 (q.2 : Int)), (7, .int .i64 (q.1 : Int))]) (fun _ => (b1, Blk 25 [.int .i64 g.d.n, .int .i64 g.d.m, .slice g.A1 g.d.ls.length g.c1, .slice g.A2 m g.c2]) :: L) (fun q => q.1 ≤ M ∧ Scan (fun s => canB g.d (2 ^ m - 1 - s)) m q.1 q.2) (fun q => M - q.1) (0, M - 1) (.cons rfl (.cons rfl .nil)) (Wk.refl _) ⟨Nat.zero_le _, hz0⟩ ?_
      rintro ⟨k, b⟩ j ⟨hk, hsc⟩
      dsimp only at hk hsc ⊢
      have hbM : b < M := by rw [← hM]; exact hsc.lt
      by_cases hkM : k < M
      · have s1 := fun L => hsz L k (by omega)
        have s2 := fun L => hsz L b (by omega)
        have pk : pc k ≤ 7 := by unfold pc; omega
        have pb : pc b ≤ 7 := by unfold pc; omega
        by_cases hlt : pc k < pc b
        · have hfk := fun L => hfr L (M - 1 - k) (by omega)
          obtain ⟨u, hu⟩ : ∃ u, pc k = u := ⟨_, rfl⟩
          obtain ⟨w, hw⟩ : ∃ w, pc b = w := ⟨_, rfl⟩
          have hlt2 := hlt
          rw [hu] at s1 hlt2 pk
          rw [hw] at s2 hlt2 pb
          have hcan : canB g.d (M - 1 - k) = decide (0 < (trL (onlyB g.d (M - 1 - k))).length) := rfl
          have hFc := hbd (M - 1 - k)
          obtain ⟨F9, hFe⟩ : ∃ F, trL (onlyB g.d (M - 1 - k)) = F := ⟨_, rfl⟩
          rw [hFe] at hcan hFc hfk
          have hsb : ((M - 1 : Nat) : Int) - (k : Int) = ((M - 1 - k : Nat) : Int) := by omega
          have hMm : 2 ^ m = M := hM
          by_cases en : 0 < F9.length
          · rw [decide_eq_true en] at hcan
            repeat' (first | (refine GiP ?_; first | (refine Znh ?_) | (with_reducible refine Znl ?_) | (refine Zatd 32 ?_; refine OPS_retKS (Enters_fn rfl) (hfk _) rfl rfl rfl (fun v6 L6 h6 => ?_); obtain ⟨X7, A7, c7, rfl, hr7, rfl⟩ := h6) | (refine Zatd 33 ?_; refine Zv Zxlen ?_) | (refine Zatd 34 ?_; refine Zv Zygtr ?_) | (refine Zatd 35 ?_; refine Zv Zxpt ?_) | (refine Zatd 35 ?_; refine Zv Zxpf ?_) | (refine Zsk ?_) | (refine Zsp (fun hc => ?_) (fun hc => ?_) <;> (try (exfalso; omega)))) | (refine GiW ?_; first | (refine Zsq fun K hK => ?_) | (refine ZrN 6 fun _ => ?_; refine Zv Zmi ?_; refine Zv Zla ?_; refine Zcl (Enters_fn rfl) (hal _) ?_; refine Zv Zyleq ?_) | (refine ZrN 9 fun _ => ?_; refine Zv Zmi ?_; refine Zv Zai ?_) | (refine ZrN 7 fun _ => ?_; refine Zv Zmi ?_; refine Zv Zxadd ?_; refine Zv Zai ?_) | (refine WP_cond_true rfl ?_) | (refine WP_cond_false rfl ?_) | (refine Zcd (fun hc => ?_) (fun hc => ?_) <;> (try (exfalso; omega))) | (with_reducible apply WP_skip) | (with_reducible apply WP_block) | (with_reducible apply WP_exit) | (with_reducible apply WP_ret) | (refine WP_drawnS (id := 8) [] [0, 1, 2, 3, 4, 5, 6, 7, 8, 9, 10] [] [] (k := 0) (k2 := 4) (by repeat (first | apply Sub.sv | apply Sub.keep | apply Sub.appK | exact Sub.refl _)) (by kernel_rfl) prog_mixed (by kernel_rfl) (by kernel_rfl) rfl ?_; refine Zew rfl Zmi ?_; (first | (refine Zec rfl (Enters_fn rfl) (fun X => s1 _) ?_) | (refine Zec rfl (Enters_fn rfl) (fun X => s2 _) ?_)); refine Zew rfl Zmi ?_; (first | (refine Zec rfl (Enters_fn rfl) (fun X => s1 _) ?_) | (refine Zec rfl (Enters_fn rfl) (fun X => s2 _) ?_)); refine Zew rfl Zylss ?_; refine Zew rfl Zmb ?_)) | (refine GiE ?_; first | (refine Zati 6 ?_; first | refine Zes ?_ | (refine Zew rfl Zla ?_)) | (refine Zati 7 ?_; first | refine Zes ?_ | (refine Zew rfl Zla ?_)) | (refine Zati 8 ?_; first | refine Zes ?_ | (refine Zec rfl (Enters_fn rfl) (fun X => hal _) ?_)) | (refine Zati 9 ?_; first | refine Zes ?_ | (refine Zew rfl Zmi ?_)) | (refine Zati 10 ?_; first | refine Zes ?_ | (refine Zew rfl (Val_subE hsb (by omega) rfl rfl) ?_)) | (refine Zes ?_) | (refine Zesp (fun hc => ?_) (fun hc => ?_) <;> (try (exfalso; omega))) | (with_reducible apply EWalk_nil)) | (refine ZgC [0, 1, 2, 3, 4, 5, 6, 7, 8, 9, 10] ?_; refine ZCl _ ?_) | (refine GiO ?_; first | (refine ZgO [0, 1, 2, 3, 4, 5, 6, 7, 8, 9, 10] ?_; refine ZO1 _ 11 [0, 1, 2, 3, 4, 5, 6, 7, 8, 9, 10, 11] ?_) | (refine ZgO [0, 1, 2, 3, 4, 5, 6, 7, 8, 9, 10, 11] ?_; refine ZO1 _ 12 [0, 1, 2, 3, 4, 5, 6, 7, 8, 9, 10, 11, 12] ?_) | (refine ZgO [0, 1, 2, 3, 4, 5, 6, 7, 8, 9, 10, 11, 12] ?_; refine ZO1 _ 13 [0, 1, 2, 3, 4, 5, 6, 7, 8, 9, 10, 11, 12, 13] ?_) | (refine ZgO [0, 1, 2, 3, 4, 5, 6, 7, 8, 9, 10, 11, 12, 13] ?_; refine ZO1 _ 14 [0, 1, 2, 3, 4, 5, 6, 7, 8, 9, 10, 11, 12, 13, 14] ?_) | (refine ZgO [0, 1, 2, 3, 4, 5, 6, 7, 8, 9, 10, 11, 12, 13, 14] ?_; refine ZOd _ ?_; (try with_reducible apply noP_normal); (try with_reducible exact key.out))) | (refine Zhn ?_) | (with_reducible apply QBlock_normal) | (refine Zhx ?_) | (with_reducible apply QBlock_hit) | (refine Zqb ?_) | (with_reducible apply QLoop_exit) | (refine Zhr ?_) | (with_reducible apply QBlock_ret) | (with_reducible apply QLoop_ret) | (refine AWalk_0 ?_) | (with_reducible apply QAny_normal) | (with_reducible apply QC_normal))
            all_goals exact QLoop_normal (k + 1, k) (.cons rfl (.cons rfl .nil)) (by repeat (first | exact Off.frame rfl | exact Off.refl _ _ | refine Off.frameT rfl rfl ?_ | refine Off.upd rfl ?_ | refine Off.updO rfl ?_)) (Wk.app X7 _) ⟨by dsimp only; omega, hsc.yes (by rw [hM]; exact hkM) hlt (by rw [hMm]; exact hcan)⟩ (by dsimp only; omega)
          · rw [decide_eq_false en] at hcan
            have en2 : F9.length = 0 := by omega
            rw [en2] at hfk
            repeat' (first | (refine GiP ?_; first | (refine Znh ?_) | (with_reducible refine Znl ?_) | (refine Zatd 32 ?_; refine OPS_retKS (Enters_fn rfl) (hfk _) rfl rfl rfl (fun v6 L6 h6 => ?_); obtain ⟨X7, A7, c7, rfl, hr7, rfl⟩ := h6) | (refine Zatd 33 ?_; refine Zv Zxlen ?_) | (refine Zatd 34 ?_; refine Zv Zygtr ?_) | (refine Zatd 35 ?_; refine Zv Zxpt ?_) | (refine Zatd 35 ?_; refine Zv Zxpf ?_) | (refine Zsk ?_) | (refine Zsp (fun hc => ?_) (fun hc => ?_) <;> (try (exfalso; omega)))) | (refine GiW ?_; first | (refine Zsq fun K hK => ?_) | (refine ZrN 6 fun _ => ?_; refine Zv Zmi ?_; refine Zv Zla ?_; refine Zcl (Enters_fn rfl) (hal _) ?_; refine Zv Zyleq ?_) | (refine ZrN 7 fun _ => ?_; refine Zv Zmi ?_; refine Zv Zxadd ?_; refine Zv Zai ?_) | (refine WP_cond_true rfl ?_) | (refine WP_cond_false rfl ?_) | (refine Zcd (fun hc => ?_) (fun hc => ?_) <;> (try (exfalso; omega))) | (with_reducible apply WP_skip) | (with_reducible apply WP_block) | (with_reducible apply WP_exit) | (with_reducible apply WP_ret) | (refine WP_drawnS (id := 8) [] [0, 1, 2, 3, 4, 5, 6, 7, 8, 9, 10] [] [] (k := 0) (k2 := 4) (by repeat (first | apply Sub.sv | apply Sub.keep | apply Sub.appK | exact Sub.refl _)) (by kernel_rfl) prog_mixed (by kernel_rfl) (by kernel_rfl) rfl ?_; refine Zew rfl Zmi ?_; (first | (refine Zec rfl (Enters_fn rfl) (fun X => s1 _) ?_) | (refine Zec rfl (Enters_fn rfl) (fun X => s2 _) ?_)); refine Zew rfl Zmi ?_; (first | (refine Zec rfl (Enters_fn rfl) (fun X => s1 _) ?_) | (refine Zec rfl (Enters_fn rfl) (fun X => s2 _) ?_)); refine Zew rfl Zylss ?_; refine Zew rfl Zmb ?_)) | (refine GiE ?_; first | (refine Zati 6 ?_; first | refine Zes ?_ | (refine Zew rfl Zla ?_)) | (refine Zati 7 ?_; first | refine Zes ?_ | (refine Zew rfl Zla ?_)) | (refine Zati 8 ?_; first | refine Zes ?_ | (refine Zec rfl (Enters_fn rfl) (fun X => hal _) ?_)) | (refine Zati 9 ?_; first | refine Zes ?_ | (refine Zew rfl Zmi ?_)) | (refine Zati 10 ?_; first | refine Zes ?_ | (refine Zew rfl (Val_subE hsb (by omega) rfl rfl) ?_)) | (refine Zes ?_) | (refine Zesp (fun hc => ?_) (fun hc => ?_) <;> (try (exfalso; omega))) | (with_reducible apply EWalk_nil)) | (refine ZgC [0, 1, 2, 3, 4, 5, 6, 7, 8, 9, 10] ?_; refine ZCl _ ?_) | (refine GiO ?_; first | (refine ZgO [0, 1, 2, 3, 4, 5, 6, 7, 8, 9, 10] ?_; refine ZO1 _ 11 [0, 1, 2, 3, 4, 5, 6, 7, 8, 9, 10, 11] ?_) | (refine ZgO [0, 1, 2, 3, 4, 5, 6, 7, 8, 9, 10, 11] ?_; refine ZO1 _ 12 [0, 1, 2, 3, 4, 5, 6, 7, 8, 9, 10, 11, 12] ?_) | (refine ZgO [0, 1, 2, 3, 4, 5, 6, 7, 8, 9, 10, 11, 12] ?_; refine ZO1 _ 13 [0, 1, 2, 3, 4, 5, 6, 7, 8, 9, 10, 11, 12, 13] ?_) | (refine ZgO [0, 1, 2, 3, 4, 5, 6, 7, 8, 9, 10, 11, 12, 13] ?_; refine ZO1 _ 14 [0, 1, 2, 3, 4, 5, 6, 7, 8, 9, 10, 11, 12, 13, 14] ?_) | (refine ZgO [0, 1, 2, 3, 4, 5, 6, 7, 8, 9, 10, 11, 12, 13, 14] ?_; refine ZOd _ ?_; (try with_reducible apply noP_normal); (try with_reducible exact key.out))) | (refine Zhn ?_) | (with_reducible apply QBlock_normal) | (refine Zhx ?_) | (with_reducible apply QBlock_hit) | (refine Zqb ?_) | (with_reducible apply QLoop_exit) | (refine Zhr ?_) | (with_reducible apply QBlock_ret) | (with_reducible apply QLoop_ret) | (refine AWalk_0 ?_) | (with_reducible apply QAny_normal) | (with_reducible apply QC_normal))
            all_goals exact QLoop_normal (k + 1, b) (.cons rfl (.cons rfl .nil)) (by repeat (first | exact Off.frame rfl | exact Off.refl _ _ | refine Off.frameT rfl rfl ?_ | refine Off.upd rfl ?_ | refine Off.updO rfl ?_)) (Wk.app X7 _) ⟨by dsimp only; omega, hsc.no (by omega) (by rw [hM]; exact hkM) (fun _ => by rw [hMm]; exact hcan)⟩ (by dsimp only; omega)
        · have hno := hsc.no (by omega) (by rw [hM]; exact hkM) (fun h => absurd h hlt)
          obtain ⟨u, hu⟩ : ∃ u, pc k = u := ⟨_, rfl⟩
          obtain ⟨w, hw⟩ : ∃ w, pc b = w := ⟨_, rfl⟩
          rw [hu] at s1 hlt pk
          rw [hw] at s2 hlt pb
          repeat' (first | (refine GiP ?_; first | (refine Znh ?_) | (with_reducible refine Znl ?_)) | (refine GiW ?_; first | (refine Zsq fun K hK => ?_) | (refine ZrN 6 fun _ => ?_; refine Zv Zmi ?_; refine Zv Zla ?_; refine Zcl (Enters_fn rfl) (hal _) ?_; refine Zv Zyleq ?_) | (refine ZrN 7 fun _ => ?_; refine Zv Zmi ?_; refine Zv Zxadd ?_; refine Zv Zai ?_) | (refine WP_cond_true rfl ?_) | (refine WP_cond_false rfl ?_) | (refine Zcd (fun hc => ?_) (fun hc => ?_) <;> (try (exfalso; omega))) | (with_reducible apply WP_skip) | (with_reducible apply WP_block) | (with_reducible apply WP_exit) | (with_reducible apply WP_ret) | (refine WP_drawnS (id := 8) [] [0, 1, 2, 3, 4, 5, 6, 7, 8, 9, 10, 11, 12, 13, 14] [] [] (k := 0) (k2 := 0) (by repeat (first | apply Sub.sv | apply Sub.keep | apply Sub.appK | exact Sub.refl _)) (by kernel_rfl) prog_mixed (by kernel_rfl) (by kernel_rfl) rfl ?_; refine Zew rfl Zmi ?_; (first | (refine Zec rfl (Enters_fn rfl) (fun X => s1 _) ?_) | (refine Zec rfl (Enters_fn rfl) (fun X => s2 _) ?_)); refine Zew rfl Zmi ?_; (first | (refine Zec rfl (Enters_fn rfl) (fun X => s1 _) ?_) | (refine Zec rfl (Enters_fn rfl) (fun X => s2 _) ?_)); refine Zew rfl Zylss ?_; refine Zew rfl Zmb ?_)) | (refine GiE ?_; first | (refine Zati 14 ?_; (first | (refine Zew rfl Zxpt ?_) | (refine Zew rfl Zxpf ?_))) | (refine Zati 6 ?_; first | refine Zes ?_ | (refine Zew rfl Zla ?_)) | (refine Zati 7 ?_; first | refine Zes ?_ | (refine Zew rfl Zla ?_)) | (refine Zati 8 ?_; first | refine Zes ?_ | (refine Zec rfl (Enters_fn rfl) (fun X => hal _) ?_)) | (refine Zati 9 ?_; first | refine Zes ?_ | (refine Zew rfl Zmi ?_)) | (refine Zati 10 ?_; first | refine Zes ?_ | (refine Zew rfl Zxsub ?_)) | (refine Zati 12 ?_; first | refine Zes ?_ | (refine Zew rfl Zxlen ?_)) | (refine Zati 13 ?_; first | refine Zes ?_ | (refine Zew rfl Zygtr ?_)) | (refine Zes ?_) | (refine Zesp (fun hc => ?_) (fun hc => ?_) <;> (try (exfalso; omega))) | (with_reducible apply EWalk_nil)) | (refine ZgC [0, 1, 2, 3, 4, 5, 6, 7, 8, 9, 10, 11, 12, 13, 14] ?_; refine ZCd _ ?_) | (refine Zhn ?_) | (with_reducible apply QBlock_normal) | (refine Zhx ?_) | (with_reducible apply QBlock_hit) | (refine Zqb ?_) | (with_reducible apply QLoop_exit) | (refine Zhr ?_) | (with_reducible apply QBlock_ret) | (with_reducible apply QLoop_ret) | (refine AWalk_0 ?_) | (with_reducible apply QC_normal))
          all_goals exact QLoop_normal (k + 1, b) (.cons rfl (.cons rfl .nil)) (by repeat (first | exact Off.frame rfl | exact Off.refl _ _ | refine Off.frameT rfl rfl ?_ | refine Off.upd rfl ?_ | refine Off.updO rfl ?_)) (by repeat (first | exact Wk.refl _ | apply Wk.keep1 | apply Wk.drop | apply Wk.sv | apply Wk.svD | apply Wk.appD)) ⟨by dsimp only; omega, hno⟩ (by dsimp only; omega)
      · have hke : k = M := by omega
        rw [hke, ← hM] at hsc
        have hb := hfin b hsc
        subst hb
        have s2 := fun L => hsz L b (by omega)
        repeat' (first | (refine GiP ?_; first | (refine Znh ?_) | (with_reducible refine Znl ?_)) | (refine GiW ?_; first | (refine Zsq fun K hK => ?_) | (refine ZrN 6 fun _ => ?_; refine Zv Zmi ?_; refine Zv Zla ?_; refine Zcl (Enters_fn rfl) (hal _) ?_; refine Zv Zyleq ?_) | (refine ZrN 10 fun _ => ?_; refine Zv Zmi ?_; refine Zcl (Enters_fn rfl) (s2 _) ?_; refine Zv Zmi ?_; refine Zv Zai ?_; refine Zv Zai ?_; refine Zv Zai ?_) | (refine WP_cond_true rfl ?_) | (refine WP_cond_false rfl ?_) | (refine Zcd (fun hc => ?_) (fun hc => ?_) <;> (try (exfalso; omega))) | (with_reducible apply WP_skip) | (with_reducible apply WP_block) | (with_reducible apply WP_exit) | (with_reducible apply WP_ret)) | (refine Zhn ?_) | (with_reducible apply QBlock_normal) | (refine Zhx ?_) | (with_reducible apply QBlock_hit) | (refine Zqb ?_) | (with_reducible apply QLoop_exit) | (refine Zhr ?_) | (with_reducible apply QBlock_ret) | (with_reducible apply QLoop_ret))
        exact QBody_res rfl (.tmp (rfl : _ = Value.int _ _) (.tmp (rfl : _ = Value.int _ _) (.tmp (rfl : _ = Value.int _ _) .nil))) rfl ⟨rfl, .drop (.refl _)⟩
set_option maxHeartbeats 4000000 in
theorem rClash_ret (L : Hp) (g : Fg) (hA : BkAt N w0 g) (hf : farB g.d = false) :
    Ret Try.prog N w0 L 30 [bkV g].toArray (.tuple [.int .i64 ((ClashV g.d : Nat) : Int), .int .i64 (ClashE g.d)].toArray) := by
  have hck := fun L => check_ref N w0 L g hA hf true
  cases hvb : vB g.d with
  | false =>
    have z1 : ClashE g.d = 1 := by simp [ClashE, hvb]
    have z2 : ClashV g.d = 0 := by unfold ClashV; rw [z1, if_neg (by omega)]
    rw [z1, z2]
    rw [hvb] at hck
    simp only [Bool.false_eq_true, if_false] at hck
    refine Ret.fgt ?_
    refine tri_of_WP Try.func30 rfl (n := _) rfl (by simp) ?_
    unfold bkV bkL at hck ⊢
    repeat' (first | (refine GiP ?_; first | (refine Znh ?_) | (with_reducible refine Znl ?_)) | (refine GiW ?_; first | (refine Zsq fun K hK => ?_) | (refine ZrN 0 fun _ => ?_; refine Zal 1 fun b1 => ?_; refine Zv Zai ?_; refine Zv Zai ?_) | (refine ZrN 1 fun _ => ?_; refine Zv Zla ?_; refine Zcl (Enters_fn rfl) (hck _) ?_; refine Zv Zai ?_) | (refine ZrN 2 fun _ => ?_; refine Zv Zmi ?_; refine Zv Zyneq ?_) | (refine ZrN 3 fun _ => ?_; refine Zv Zmi ?_; refine Zv Zai ?_; refine Zv Zai ?_) | (refine WP_cond_true rfl ?_) | (refine WP_cond_false rfl ?_) | (refine Zcd (fun hc => ?_) (fun hc => ?_) <;> (try (exfalso; omega))) | (with_reducible apply WP_skip) | (with_reducible apply WP_block) | (with_reducible apply WP_exit) | (with_reducible apply WP_ret)) | (refine Zhn ?_) | (with_reducible apply QBlock_normal) | (refine Zhx ?_) | (with_reducible apply QBlock_hit) | (refine Zqb ?_) | (with_reducible apply QLoop_exit) | (refine Zhr ?_) | (with_reducible apply QBlock_ret) | (with_reducible apply QLoop_ret))
    exact QBody_res rfl (.tmp (rfl : _ = Value.int _ _) (.tmp (rfl : _ = Value.int _ _) .nil)) rfl ⟨rfl, (by repeat (first | exact Wk.refl _ | apply Wk.keep1 | apply Wk.drop | apply Wk.sv | apply Wk.svD | apply Wk.appD))⟩
  | true =>
    have hv := VB_of hvb
    have hnm := hv.nm
    have hlv := fun L => truthsAll_ref N w0 L g hA hv
    have hcnt := tr_bd hv
    have hce := can_every hv
    rw [hvb] at hck
    simp only [if_true] at hck
    rcases clash_facts hv with ⟨c1, -, c3, c4⟩ | ⟨c1, -, c3, c4, c5, c6, -, -, c9⟩
    · rw [c1] at hce
      have hpos : 0 < (trL g.d).length := of_decide_eq_true hce.symm
      rw [c3, c4]
      obtain ⟨T, hT⟩ : ∃ T, trL g.d = T := ⟨_, rfl⟩
      rw [hT] at hlv hcnt hpos
      refine Ret.fgt ?_
      refine tri_of_WP Try.func30 rfl (n := _) rfl (by simp) ?_
      unfold bkV bkL at hck hlv ⊢
      repeat' (first | (refine GiP ?_; first | (refine Znh ?_) | (with_reducible refine Znl ?_)) | (refine GiW ?_; first | (refine Zsq fun K hK => ?_) | (refine ZrN 0 fun _ => ?_; refine Zal 1 fun b1 => ?_; refine Zv Zai ?_; refine Zv Zai ?_) | (refine ZrN 1 fun _ => ?_; refine Zv Zla ?_; refine Zcl (Enters_fn rfl) (hck _) ?_; refine Zv Zai ?_) | (refine ZrN 2 fun _ => ?_; refine Zv Zmi ?_; refine Zv Zyneq ?_) | (refine ZrN 4 fun _ => ?_; refine Zv Zla ?_; refine OPS_retKS (Enters_fn rfl) (hlv _) rfl rfl rfl (fun v6 L6 h6 => ?_); obtain ⟨X6, A6, c6, rfl, hr6, rfl⟩ := h6; refine Zv Zxlen ?_; refine Zv Zygtr ?_) | (refine ZrN 5 fun _ => ?_; refine Zv Zai ?_; refine Zv Zai ?_) | (refine WP_cond_true rfl ?_) | (refine WP_cond_false rfl ?_) | (refine Zcd (fun hc => ?_) (fun hc => ?_) <;> (try (exfalso; omega))) | (with_reducible apply WP_skip) | (with_reducible apply WP_block) | (with_reducible apply WP_exit) | (with_reducible apply WP_ret)) | (refine Zhn ?_) | (with_reducible apply QBlock_normal) | (refine Zhx ?_) | (with_reducible apply QBlock_hit) | (refine Zqb ?_) | (with_reducible apply QLoop_exit) | (refine Zhr ?_) | (with_reducible apply QBlock_ret) | (with_reducible apply QLoop_ret))
      exact QBody_res rfl (.tmp (rfl : _ = Value.int _ _) (.tmp (rfl : _ = Value.int _ _) .nil)) rfl ⟨rfl, (Wk.app X6 _).trans (.drop (.refl _))⟩
    · rw [c1] at hce
      have hT0 : (trL g.d).length = 0 := by
        have := of_decide_eq_false hce.symm
        omega
      rw [c3]
      rw [hT0] at hlv
      obtain ⟨S, hS⟩ : ∃ S, ClashV g.d = S := ⟨_, rfl⟩
      rw [hS] at c4 c5 c6 c9 ⊢
      obtain ⟨m, hm⟩ : ∃ m, g.d.ms.length = m := ⟨_, rfl⟩
      have hp7 : 2 ^ m ≤ 2 ^ 6 := Nat.pow_le_pow_right (by omega) (by omega)
      have hp0 := Nat.two_pow_pos m
      have hbd : ∀ s, (trL (onlyB g.d s)).length ≤ 6561 := fun s => tr_bd (VB_only hv s)
      have had : evB g.d = 2 ^ m - 1 := by unfold evB; rw [hm]
      have hal := fun L => every_refR N w0 L g (by omega)
      rw [had] at hal
      have hfr := fun L s (hs : s < 2 ^ m) => truths_ref N w0 L g hA hv s (by omega)
      have hsz := fun L x h => size_ret N w0 L x h
      rw [hm] at c1 c5 c9
      have hfin := fun b (h : Scan (fun s => !canB g.d s) m (2 ^ m) b) => h.end_ c5 (by rw [c6]; rfl) (fun y hy hq => c9 y hy (by simpa using hq))
      have hfull : (!canB g.d (2 ^ m - 1)) = true := by rw [c1]; rfl
      obtain ⟨M, hM⟩ : ∃ M, 2 ^ m = M := ⟨_, rfl⟩
      rw [hM] at hal hp7 hp0 hfr hfull c5
      refine Ret.fgt ?_
      refine tri_of_WP Try.func30 rfl (n := _) rfl (by simp) ?_
      unfold bkV bkL at hck hlv hal hfr ⊢
      rw [hm] at hck hlv hal hfr ⊢
      repeat' (first | (refine GiP ?_; first | (refine Znh ?_) | (with_reducible refine Znl ?_)) | (refine GiW ?_; first | (refine Zsq fun K hK => ?_) | (refine ZrN 0 fun _ => ?_; refine Zal 1 fun b1 => ?_; refine Zv Zai ?_; refine Zv Zai ?_) | (refine ZrN 1 fun _ => ?_; refine Zv Zla ?_; refine Zcl (Enters_fn rfl) (hck _) ?_; refine Zv Zai ?_) | (refine ZrN 2 fun _ => ?_; refine Zv Zmi ?_; refine Zv Zyneq ?_) | (refine ZrN 4 fun _ => ?_; refine Zv Zla ?_; refine OPS_retKS (Enters_fn rfl) (hlv _) rfl rfl rfl (fun v6 L6 h6 => ?_); obtain ⟨X6, A6, c6', rfl, hr6, rfl⟩ := h6; refine Zv Zxlen ?_; refine Zv Zygtr ?_) | (refine ZrN 6 fun _ => ?_; refine Zv Zla ?_; refine Zcl (Enters_fn rfl) (hal _) ?_; refine Zv Zai ?_) | (refine ZrN 7 fun _ => ?_; refine Zv Zai ?_) | (refine WP_cond_true rfl ?_) | (refine WP_cond_false rfl ?_) | (refine Zcd (fun hc => ?_) (fun hc => ?_) <;> (try (exfalso; omega))) | (with_reducible apply WP_skip) | (with_reducible apply WP_block) | (with_reducible apply WP_exit) | (with_reducible apply WP_ret)) | (refine Zhn ?_) | (with_reducible apply QBlock_normal) | (refine Zhx ?_) | (with_reducible apply QBlock_hit) | (refine Zqb ?_) | (with_reducible apply QLoop_exit) | (refine Zhr ?_) | (with_reducible apply QBlock_ret) | (with_reducible apply QLoop_ret))
      have hz0 : Scan (fun s => !canB g.d s) m 0 (M - 1) := by rw [← hM]; exact Scan.zero (by first | exact hfull | (rw [hM]; exact hfull))
      refine WP_sub (B := (b1, Blk 25 [.int .i64 g.d.n, .int .i64 g.d.m, .slice g.A1 g.d.ls.length g.c1, .slice g.A2 m g.c2]) :: L) ⟨X6, List.perm_append_comm⟩ ?_
      refine WP_loop [5, 6, 18, 19, 20, 21, 22, 23, 24, 25, 26, 27, 28, 29, 30, 31, 32, 33, 34, 35, 36] (fun q : Nat × Nat => [(5, .int .i64 (q.2 : Int)), (6, .int .i64 (q.1 : Int))]) (fun _ => (b1, Blk 25 [.int .i64 g.d.n, .int .i64 g.d.m, .slice g.A1 g.d.ls.length g.c1, .slice g.A2 m g.c2]) :: L) (fun q => q.1 ≤ M ∧ Scan (fun s => !canB g.d s) m q.1 q.2) (fun q => M - q.1) (0, M - 1) (.cons rfl (.cons rfl .nil)) (Wk.refl _) ⟨Nat.zero_le _, hz0⟩ ?_
      rintro ⟨k, b⟩ j ⟨hk, hsc⟩
      dsimp only at hk hsc ⊢
      have hbM : b < M := by rw [← hM]; exact hsc.lt
      by_cases hkM : k < M
      · have s1 := fun L => hsz L k (by omega)
        have s2 := fun L => hsz L b (by omega)
        have pk : pc k ≤ 7 := by unfold pc; omega
        have pb : pc b ≤ 7 := by unfold pc; omega
        by_cases hlt : pc k < pc b
        · have hfk := fun L => hfr L (k) (by omega)
          obtain ⟨u, hu⟩ : ∃ u, pc k = u := ⟨_, rfl⟩
          obtain ⟨w, hw⟩ : ∃ w, pc b = w := ⟨_, rfl⟩
          have hlt2 := hlt
          rw [hu] at s1 hlt2 pk
          rw [hw] at s2 hlt2 pb
          have hcan : canB g.d (k) = decide (0 < (trL (onlyB g.d (k))).length) := rfl
          have hFc := hbd (k)
          obtain ⟨F9, hFe⟩ : ∃ F, trL (onlyB g.d (k)) = F := ⟨_, rfl⟩
          rw [hFe] at hcan hFc hfk
          have hsb : ((M - 1 : Nat) : Int) - (k : Int) = ((M - 1 - k : Nat) : Int) := by omega
          have hMm : 2 ^ m = M := hM
          by_cases en : 0 < F9.length
          · rw [decide_eq_true en] at hcan
            repeat' (first | (refine GiP ?_; first | (refine Znh ?_) | (with_reducible refine Znl ?_) | (refine Zatd 35 ?_; (first | (refine Zv Zxpt ?_) | (refine Zv Zxpf ?_))) | (refine Zatd 30 ?_; first | refine Zsk ?_ | (refine Zv Zla ?_)) | (refine Zatd 31 ?_; first | refine Zsk ?_ | (refine Zv Zmi ?_)) | (refine Zatd 32 ?_; first | refine Zsk ?_ | (refine OPS_retKS (Enters_fn rfl) (hfk _) rfl rfl rfl (fun v6 L6 h6 => ?_); obtain ⟨X7, A7, c7, rfl, hr7, rfl⟩ := h6)) | (refine Zatd 33 ?_; first | refine Zsk ?_ | (refine Zv Zxlen ?_)) | (refine Zatd 34 ?_; first | refine Zsk ?_ | (refine Zv Zyeql ?_)) | (refine Zsk ?_) | (refine Zsp (fun hc => ?_) (fun hc => ?_) <;> (try (exfalso; omega)))) | (refine GiW ?_; first | (refine Zsq fun K hK => ?_) | (refine ZrN 8 fun _ => ?_; refine Zv Zmi ?_; refine Zv Zla ?_; refine Zcl (Enters_fn rfl) (hal _) ?_; refine Zv Zyleq ?_) | (refine ZrG 10 ?_; refine Zv Zmi ?_; (first | (refine Zcl (Enters_fn rfl) (s1 _) ?_) | (refine Zcl (Enters_fn rfl) (s2 _) ?_)); refine Zv Zmi ?_; (first | (refine Zcl (Enters_fn rfl) (s1 _) ?_) | (refine Zcl (Enters_fn rfl) (s2 _) ?_)); refine Zv Zylss ?_; refine Zv Zmb ?_) | (refine ZrN 9 fun _ => ?_; refine Zv Zmi ?_; refine Zv Zxadd ?_; refine Zv Zai ?_) | (refine WP_cond_true rfl ?_) | (refine WP_cond_false rfl ?_) | (refine Zcd (fun hc => ?_) (fun hc => ?_) <;> (try (exfalso; omega))) | (with_reducible apply WP_skip) | (with_reducible apply WP_block) | (with_reducible apply WP_exit) | (with_reducible apply WP_ret)) | (refine Zhn ?_) | (with_reducible apply QBlock_normal) | (refine Zhx ?_) | (with_reducible apply QBlock_hit) | (refine Zqb ?_) | (with_reducible apply QLoop_exit) | (refine Zhr ?_) | (with_reducible apply QBlock_ret) | (with_reducible apply QLoop_ret))
            all_goals exact QLoop_normal (k + 1, b) (.cons rfl (.cons rfl .nil)) (by repeat (first | exact Off.frame rfl | exact Off.refl _ _ | refine Off.frameT rfl rfl ?_ | refine Off.upd rfl ?_ | refine Off.updO rfl ?_)) (Wk.app X7 _) ⟨by dsimp only; omega, hsc.no (by omega) (by rw [hM]; exact hkM) (fun _ => by rw [hcan]; rfl)⟩ (by dsimp only; omega)
          · rw [decide_eq_false en] at hcan
            have en2 : F9.length = 0 := by omega
            rw [en2] at hfk
            repeat' (first | (refine GiP ?_; first | (refine Znh ?_) | (with_reducible refine Znl ?_) | (refine Zatd 35 ?_; (first | (refine Zv Zxpt ?_) | (refine Zv Zxpf ?_))) | (refine Zatd 30 ?_; first | refine Zsk ?_ | (refine Zv Zla ?_)) | (refine Zatd 31 ?_; first | refine Zsk ?_ | (refine Zv Zmi ?_)) | (refine Zatd 32 ?_; first | refine Zsk ?_ | (refine OPS_retKS (Enters_fn rfl) (hfk _) rfl rfl rfl (fun v6 L6 h6 => ?_); obtain ⟨X7, A7, c7, rfl, hr7, rfl⟩ := h6)) | (refine Zatd 33 ?_; first | refine Zsk ?_ | (refine Zv Zxlen ?_)) | (refine Zatd 34 ?_; first | refine Zsk ?_ | (refine Zv Zyeql ?_)) | (refine Zsk ?_) | (refine Zsp (fun hc => ?_) (fun hc => ?_) <;> (try (exfalso; omega)))) | (refine GiW ?_; first | (refine Zsq fun K hK => ?_) | (refine ZrN 8 fun _ => ?_; refine Zv Zmi ?_; refine Zv Zla ?_; refine Zcl (Enters_fn rfl) (hal _) ?_; refine Zv Zyleq ?_) | (refine ZrG 10 ?_; refine Zv Zmi ?_; (first | (refine Zcl (Enters_fn rfl) (s1 _) ?_) | (refine Zcl (Enters_fn rfl) (s2 _) ?_)); refine Zv Zmi ?_; (first | (refine Zcl (Enters_fn rfl) (s1 _) ?_) | (refine Zcl (Enters_fn rfl) (s2 _) ?_)); refine Zv Zylss ?_; refine Zv Zmb ?_) | (refine ZrN 11 fun _ => ?_; refine Zv Zmi ?_; refine Zv Zai ?_) | (refine ZrN 9 fun _ => ?_; refine Zv Zmi ?_; refine Zv Zxadd ?_; refine Zv Zai ?_) | (refine WP_cond_true rfl ?_) | (refine WP_cond_false rfl ?_) | (refine Zcd (fun hc => ?_) (fun hc => ?_) <;> (try (exfalso; omega))) | (with_reducible apply WP_skip) | (with_reducible apply WP_block) | (with_reducible apply WP_exit) | (with_reducible apply WP_ret)) | (refine Zhn ?_) | (with_reducible apply QBlock_normal) | (refine Zhx ?_) | (with_reducible apply QBlock_hit) | (refine Zqb ?_) | (with_reducible apply QLoop_exit) | (refine Zhr ?_) | (with_reducible apply QBlock_ret) | (with_reducible apply QLoop_ret))
            all_goals exact QLoop_normal (k + 1, k) (.cons rfl (.cons rfl .nil)) (by repeat (first | exact Off.frame rfl | exact Off.refl _ _ | refine Off.frameT rfl rfl ?_ | refine Off.upd rfl ?_ | refine Off.updO rfl ?_)) (Wk.app X7 _) ⟨by dsimp only; omega, hsc.yes (by rw [hM]; exact hkM) hlt (by rw [hcan]; rfl)⟩ (by dsimp only; omega)
        · have hno := hsc.no (by omega) (by rw [hM]; exact hkM) (fun h => absurd h hlt)
          obtain ⟨u, hu⟩ : ∃ u, pc k = u := ⟨_, rfl⟩
          obtain ⟨w, hw⟩ : ∃ w, pc b = w := ⟨_, rfl⟩
          rw [hu] at s1 hlt pk
          rw [hw] at s2 hlt pb
          repeat' (first | (refine GiP ?_; first | (refine Znh ?_) | (with_reducible refine Znl ?_) | (refine Zatd 35 ?_; (first | (refine Zv Zxpt ?_) | (refine Zv Zxpf ?_))) | (refine Zatd 30 ?_; first | refine Zsk ?_ | (refine Zv Zla ?_)) | (refine Zatd 31 ?_; first | refine Zsk ?_ | (refine Zv Zmi ?_)) | (refine Zatd 33 ?_; first | refine Zsk ?_ | (refine Zv Zxlen ?_)) | (refine Zatd 34 ?_; first | refine Zsk ?_ | (refine Zv Zyeql ?_)) | (refine Zsk ?_) | (refine Zsp (fun hc => ?_) (fun hc => ?_) <;> (try (exfalso; omega)))) | (refine GiW ?_; first | (refine Zsq fun K hK => ?_) | (refine ZrN 8 fun _ => ?_; refine Zv Zmi ?_; refine Zv Zla ?_; refine Zcl (Enters_fn rfl) (hal _) ?_; refine Zv Zyleq ?_) | (refine ZrG 10 ?_; refine Zv Zmi ?_; (first | (refine Zcl (Enters_fn rfl) (s1 _) ?_) | (refine Zcl (Enters_fn rfl) (s2 _) ?_)); refine Zv Zmi ?_; (first | (refine Zcl (Enters_fn rfl) (s1 _) ?_) | (refine Zcl (Enters_fn rfl) (s2 _) ?_)); refine Zv Zylss ?_; refine Zv Zmb ?_) | (refine ZrN 9 fun _ => ?_; refine Zv Zmi ?_; refine Zv Zxadd ?_; refine Zv Zai ?_) | (refine WP_cond_true rfl ?_) | (refine WP_cond_false rfl ?_) | (refine Zcd (fun hc => ?_) (fun hc => ?_) <;> (try (exfalso; omega))) | (with_reducible apply WP_skip) | (with_reducible apply WP_block) | (with_reducible apply WP_exit) | (with_reducible apply WP_ret)) | (refine Zhn ?_) | (with_reducible apply QBlock_normal) | (refine Zhx ?_) | (with_reducible apply QBlock_hit) | (refine Zqb ?_) | (with_reducible apply QLoop_exit) | (refine Zhr ?_) | (with_reducible apply QBlock_ret) | (with_reducible apply QLoop_ret))
          all_goals exact QLoop_normal (k + 1, b) (.cons rfl (.cons rfl .nil)) (by repeat (first | exact Off.frame rfl | exact Off.refl _ _ | refine Off.frameT rfl rfl ?_ | refine Off.upd rfl ?_ | refine Off.updO rfl ?_)) (by repeat (first | exact Wk.refl _ | apply Wk.keep1 | apply Wk.drop | apply Wk.sv | apply Wk.svD | apply Wk.appD)) ⟨by dsimp only; omega, hno⟩ (by dsimp only; omega)
      · have hke : k = M := by omega
        rw [hke, ← hM] at hsc
        have hb := hfin b hsc
        subst hb
        have s2 := fun L => hsz L b (by omega)
        repeat' (first | (refine GiP ?_; first | (refine Znh ?_) | (with_reducible refine Znl ?_)) | (refine GiW ?_; first | (refine Zsq fun K hK => ?_) | (refine ZrN 8 fun _ => ?_; refine Zv Zmi ?_; refine Zv Zla ?_; refine Zcl (Enters_fn rfl) (hal _) ?_; refine Zv Zyleq ?_) | (refine ZrN 12 fun _ => ?_; refine Zv Zmi ?_; refine Zv Zai ?_; refine Zv Zai ?_) | (refine WP_cond_true rfl ?_) | (refine WP_cond_false rfl ?_) | (refine Zcd (fun hc => ?_) (fun hc => ?_) <;> (try (exfalso; omega))) | (with_reducible apply WP_skip) | (with_reducible apply WP_block) | (with_reducible apply WP_exit) | (with_reducible apply WP_ret)) | (refine Zhn ?_) | (with_reducible apply QBlock_normal) | (refine Zhx ?_) | (with_reducible apply QBlock_hit) | (refine Zqb ?_) | (with_reducible apply QLoop_exit) | (refine Zhr ?_) | (with_reducible apply QBlock_ret) | (with_reducible apply QLoop_ret))
        exact QBody_res rfl (.tmp (rfl : _ = Value.int _ _) (.tmp (rfl : _ = Value.int _ _) .nil)) rfl ⟨rfl, .drop (.refl _)⟩
end
end Go.Proofs.Ytakmopiceopcpaa
end
