/- Package bank: what is opened. -/
import Derived.Test.YtakmopiceopcpaaA7
section
namespace Go.Proofs.Ytakmopiceopcpaa
open Go.RowKit
theorem vB_num {d : Bn} (h : numB d = false) : vB d = false := by simp [vB, h]
theorem vB_le {d : Bn} {l : Le} (hb : l ∈ d.ls) (h : leB d l = false) : vB d = false := by
  have : d.ls.all (leB d) = false := List.all_eq_false.2 ⟨l, hb, by simp [h]⟩
  simp [vB, this]
theorem vB_mk {d : Bn} {k : Sp} (hb : k ∈ d.ms) (h : mkB d k = false) : vB d = false := by
  have : d.ms.all (mkB d) = false := List.all_eq_false.2 ⟨k, hb, by simp [h]⟩
  simp [vB, this]
theorem all_snoc {α : Type} {p : α → Bool} {l : List α} {k : Nat} (hk : k < l.length) (h : (l.take k).all p = true) (h1 : p l[k] = true) : (l.take (k + 1)).all p = true := by
  rw [List.take_succ_eq_append_getElem hk, List.all_append, h]; simp [h1]
theorem vB_all {d : Bn} (h1 : numB d = true) (h2 : d.ls.all (leB d) = true) (h3 : d.ms.all (mkB d) = true) : vB d = true := by
  simp only [vB, h1, h2, h3, Bool.and_self]
/-- Why there is no answer: the bank is none, or what is asked is none, or there is no truth. -/
def errD (d : Bn) (ok : Bool) : Int := if vB d = true then if ok = true then 0 else 2 else 1
attribute [local irreducible] AnyO AnyB QAny QB EWalk AWalk Ev WP OPS QThen QBlock QScope QLoop QBody Val New Turn Tri Enters PostA Blk Ro
attribute [local irreducible] AnyC QC
section
variable (N : Nat) (w0 : World)
theorem within_i (L : Hp) (n l h : Int) : Ret Try.prog N w0 L 71 [.int .i64 n, .int .i64 l, .int .i64 h].toArray (.bool (inB n l h)) := by
  have := within_ret N w0 L n l h
  have e : within n l h = inB n l h := by rw [Bool.eq_iff_iff]; simp [within, inB]
  rwa [e] at this
def OpenR (g : Fg) (ok : Bool) (q : FuncId) (cc : List Value) (L : Hp) : Prop :=
  Tri Try.prog N w0 L 51 [bkV g, .func (.func q) #[] cc.toArray].toArray fun x L' => (vB g.d = true ∧ ok = true ∧ x = .returned (bkV g) ∧ L' = L) ∨ (vB g.d = true ∧ ok = false ∧ x = .panicked (stopE 2) ∧ L' = L) ∨ (vB g.d = false ∧ x = .panicked (stopE 1) ∧ L' = L)
set_option maxHeartbeats 4000000 in
theorem open_tri (L : Hp) (g : Fg) (hA : BkAt N w0 g) (ok : Bool) (q : FuncId) [HasBody Try.prog q] (cc : List Value) (nd : Hp) (hN : Sub nd L)
    (hq : ∀ L', Sub nd L' → VB g.d → Ret Try.prog N w0 L' q (bkV g :: cc).toArray (.bool ok)) : OpenR N w0 g ok q cc L := by
  unfold OpenR
  refine Tri.fgt ?_
  refine tri_of_WP Try.func51 rfl (n := _) rfl (by simp) ?_
  have hpe := fun L p hn => isPerch_ret N w0 L g hn p
  have hho := fun L p => isHolder_ret N w0 L g p
  unfold bkV bkL at hq hpe hho ⊢
  have hnumE : numB g.d = (inB g.d.n 1 10 && inB g.d.m 1 4 && decide (g.d.ls.length ≤ 4) && decide (g.d.ms.length ≤ 6)) := rfl
  have hw1 := fun L => within_i N w0 L g.d.n 1 10
  have hw2 := fun L => within_i N w0 L g.d.m 1 4
  obtain ⟨x1, hx1⟩ : ∃ x, inB g.d.n 1 10 = x := ⟨_, rfl⟩
  obtain ⟨x2, hx2⟩ : ∃ x, inB g.d.m 1 4 = x := ⟨_, rfl⟩
  rw [hx1] at hw1 hnumE
  rw [hx2] at hw2 hnumE
  repeat' (first | (refine GiP ?_; first | (refine Znh ?_) | (with_reducible refine Znl ?_) | (refine Zatd 20 ?_; (first | (refine Zv Zxpt ?_) | (refine Zv Zxpf ?_)); refine Zv Zmb ?_) | (refine Zatd 26 ?_; (first | (refine Zv Zxpt ?_) | (refine Zv Zxpf ?_)); refine Zv Zmb ?_) | (refine Zatd 32 ?_; (first | (refine Zv Zxpt ?_) | (refine Zv Zxpf ?_)); (refine OPS_must (Enters_fn rfl) rfl rfl rfl (fun hc => ?_) (fun hc => ?_) <;> (try (exfalso; simp at hc; done)))) | (refine Zatd 17 ?_; first | refine Zsk ?_ | (refine Zv Zfa ?_)) | (refine Zatd 18 ?_; first | refine Zsk ?_ | (refine Zv Zld ?_)) | (refine Zatd 19 ?_; first | refine Zsk ?_ | (refine Zcl (Enters_fn rfl) (hw1 _) ?_) | (refine Zcl (Enters_fn rfl) (hw2 _) ?_)) | (refine Zatd 22 ?_; first | refine Zsk ?_ | (refine Zv Zfa ?_)) | (refine Zatd 23 ?_; first | refine Zsk ?_ | (refine Zv Zld ?_)) | (refine Zatd 24 ?_; first | refine Zsk ?_ | (refine Zv Zxlen ?_)) | (refine Zatd 25 ?_; first | refine Zsk ?_ | (refine Zv Zxleq ?_)) | (refine Zatd 28 ?_; first | refine Zsk ?_ | (refine Zv Zfa ?_)) | (refine Zatd 29 ?_; first | refine Zsk ?_ | (refine Zv Zld ?_)) | (refine Zatd 30 ?_; first | refine Zsk ?_ | (refine Zv Zxlen ?_)) | (refine Zatd 31 ?_; first | refine Zsk ?_ | (refine Zv Zxleq ?_)) | (refine Zsk ?_) | (refine Zsp (fun hc => ?_) (fun hc => ?_) <;> (try (exfalso; omega)))) | (refine GiW ?_; first | (refine Zsq fun K hK => ?_) | (refine ZrN 0 fun _ => ?_; refine Zal 2 fun b2 => ?_; refine Zal 4 fun b4 => ?_) | (refine ZrN 1 fun _ => ?_; refine Zv Zla ?_; refine Zv Zxbu ?_; refine Zal 5 fun b5 => ?_; refine Zst ?_) | (refine ZrG 2 ?_; refine Zv Zf0 ?_; refine Zv Zld ?_; (first | (refine Zcl (Enters_fn rfl) (hw1 _) ?_) | (refine Zcl (Enters_fn rfl) (hw2 _) ?_)); refine Zv Zmb ?_) | (refine WP_cond_true rfl ?_) | (refine WP_cond_false rfl ?_) | (refine Zcd (fun hc => ?_) (fun hc => ?_) <;> (try (exfalso; omega))) | (with_reducible apply WP_skip) | (with_reducible apply WP_block) | (with_reducible apply WP_exit) | (with_reducible apply WP_ret)) | (refine Zhn ?_) | (with_reducible apply QBlock_normal) | (refine Zhx ?_) | (with_reducible apply QBlock_hit) | (refine Zqb ?_) | (with_reducible apply QLoop_exit) | (refine Zhr ?_) | (with_reducible apply QBlock_ret) | (with_reducible apply QLoop_ret) | (refine Zhp ?_) | (with_reducible apply QBlock_panic) | (with_reducible apply QLoop_panic))
  all_goals try exact QBody_panic ⟨L, (by repeat (first | exact Wk.refl _ | apply Wk.keep1 | apply Wk.drop | apply Wk.sv | apply Wk.svD | apply Wk.appD)), .inr (.inr ⟨vB_num (by
    rw [hnumE, Bool.eq_false_iff]
    intro h9
    simp only [Bool.and_eq_true, decide_eq_true_eq] at h9
    simp only [decide_eq_false_iff_not] at hc
    first | (simp_all; done) | omega), rfl, rfl⟩)⟩
  have hl4 : g.d.ls.length ≤ 4 := by omega
  have hm6 : g.d.ms.length ≤ 6 := by
    simp only [decide_eq_true_eq] at hc
    omega
  have hnum : numB g.d = true := by
    rw [hnumE]
    simp only [Bool.and_eq_true, decide_eq_true_eq]
    exact ⟨⟨⟨by assumption, by assumption⟩, hl4⟩, hm6⟩
  clear hc
  have hn10 : 1 ≤ g.d.n ∧ g.d.n ≤ 10 := by
    simp only [hnumE, Bool.and_eq_true] at hnum
    rw [hnum.1.1.1] at hx1
    simpa [inB] using hx1
  have hm4 : 1 ≤ g.d.m ∧ g.d.m ≤ 4 := by
    simp only [hnumE, Bool.and_eq_true] at hnum
    rw [hnum.1.1.2] at hx2
    simpa [inB] using hx2
  repeat' (first | (refine GiP ?_; first | (refine Znh ?_) | (with_reducible refine Znl ?_)) | (refine GiW ?_; first | (refine Zsq fun K hK => ?_) | (refine ZrN 3 fun _ => ?_; refine Zv Zav ?_) | (refine ZrN 4 fun _ => ?_; refine Zv Zfa ?_; refine Zv Zld ?_; refine Zv Zxlen ?_; refine Zv Zmi ?_) | (refine WP_cond_true rfl ?_) | (refine WP_cond_false rfl ?_) | (refine Zcd (fun hc => ?_) (fun hc => ?_) <;> (try (exfalso; omega))) | (with_reducible apply WP_skip) | (with_reducible apply WP_block) | (with_reducible apply WP_exit) | (with_reducible apply WP_ret)) | (refine Zhn ?_) | (with_reducible apply QBlock_normal) | (refine Zhx ?_) | (with_reducible apply QBlock_hit) | (refine Zqb ?_) | (with_reducible apply QLoop_exit) | (refine Zhr ?_) | (with_reducible apply QBlock_ret) | (with_reducible apply QLoop_ret))
  refine WP_loop [8, 37, 38, 39, 40, 41, 42, 43, 44, 45, 46, 47, 48, 49, 50, 51, 52, 53, 54, 55, 56, 57, 58, 59, 60, 61, 62, 63, 64, 65, 66, 67, 68, 69, 70, 71, 72, 73, 74] (fun k : Nat => [(37, .int .i64 (k : Int))]) (fun _ => (b5, Blk 71 [.int .i64 g.d.n, .int .i64 g.d.m, .slice g.A1 g.d.ls.length g.c1, .slice g.A2 g.d.ms.length g.c2]) :: (b4, Blk 71 [.int .i64 0, .int .i64 0, .slice none 0 0, .slice none 0 0]) :: (b2, Blk 25 [.int .i64 g.d.n, .int .i64 g.d.m, .slice g.A1 g.d.ls.length g.c1, .slice g.A2 g.d.ms.length g.c2]) :: L) (fun k => k ≤ g.d.ls.length ∧ (g.d.ls.take k).all (leB g.d) = true) (fun k => g.d.ls.length - k) 0 (.cons rfl .nil) (Wk.refl _) ⟨Nat.zero_le _, rfl⟩ ?_
  rintro k j ⟨hk, hall⟩
  by_cases hlt : k < g.d.ls.length
  · obtain ⟨bA, oA, hA1, hbA, hcA⟩ := hA.ls.row k hlt
    obtain ⟨t, ht⟩ : ∃ t, g.d.ls[k] = t := ⟨_, rfl⟩
    have htm : t ∈ g.d.ls := by rw [← ht]; exact List.getElem_mem hlt
    rw [ht] at hcA
    unfold leL at hcA
    have h0 := fun L => within_i N w0 L t.h 0 (g.d.m - 1)
    have h1 := fun L => isSpan_ret N w0 L t.f 0 (g.d.n - 1) (by omega) (by omega)
    have h2 := fun L => isSpan_ret N w0 L t.t 1 g.d.n (by omega) (by omega)
    have hle : leB g.d t = (inB t.h 0 (g.d.m - 1) && spB t.f 0 (g.d.n - 1) && spB t.t 1 g.d.n && decide (t.f.1 < t.t.2)) := rfl
    obtain ⟨y0, hy0⟩ : ∃ x, inB t.h 0 (g.d.m - 1) = x := ⟨_, rfl⟩
    obtain ⟨y1, hy1⟩ : ∃ x, spB t.f 0 (g.d.n - 1) = x := ⟨_, rfl⟩
    obtain ⟨y2, hy2⟩ : ∃ x, spB t.t 1 g.d.n = x := ⟨_, rfl⟩
    rw [hy0] at h0 hle
    rw [hy1] at h1 hle
    rw [hy2] at h2 hle
    repeat' (first | (refine GiP ?_; first | (refine Znh ?_) | (with_reducible refine Znl ?_) | (refine Zatd 55 ?_; (first | (refine Zv Zxpt ?_) | (refine Zv Zxpf ?_)); refine Zv Zmb ?_) | (refine Zatd 63 ?_; (first | (refine Zv Zxpt ?_) | (refine Zv Zxpf ?_)); refine Zv Zmb ?_) | (refine Zatd 72 ?_; (first | (refine Zv Zxpt ?_) | (refine Zv Zxpf ?_)); (refine OPS_must (Enters_fn rfl) rfl rfl rfl (fun hc => ?_) (fun hc => ?_) <;> (try (exfalso; simp at hc; done)))) | (refine Zatd 48 ?_; first | refine Zsk ?_ | (refine Zv Zmv ?_)) | (refine Zatd 49 ?_; first | refine Zsk ?_ | (refine Zv Zfa ?_)) | (refine Zatd 50 ?_; first | refine Zsk ?_ | (refine Zv (Val_loadRN rfl hbA hcA rfl) ?_) | (refine Zv Zla ?_)) | (refine Zatd 51 ?_; first | refine Zsk ?_ | (refine Zv Zf0 ?_)) | (refine Zatd 52 ?_; first | refine Zsk ?_ | (refine Zv (Val_loadRN rfl hbA hcA rfl) ?_) | (refine Zv Zld ?_)) | (refine Zatd 53 ?_; first | refine Zsk ?_ | (refine Zv Zxsub ?_)) | (refine Zatd 54 ?_; first | refine Zsk ?_ | (refine Zcl (Enters_val rfl rfl) (h1 _) ?_) | (refine Zcl (Enters_val rfl rfl) (h2 _) ?_)) | (refine Zatd 57 ?_; first | refine Zsk ?_ | (refine Zv Zmv ?_)) | (refine Zatd 58 ?_; first | refine Zsk ?_ | (refine Zv Zfa ?_)) | (refine Zatd 59 ?_; first | refine Zsk ?_ | (refine Zv (Val_loadRN rfl hbA hcA rfl) ?_) | (refine Zv Zla ?_)) | (refine Zatd 60 ?_; first | refine Zsk ?_ | (refine Zv Zf0 ?_)) | (refine Zatd 61 ?_; first | refine Zsk ?_ | (refine Zv (Val_loadRN rfl hbA hcA rfl) ?_) | (refine Zv Zld ?_)) | (refine Zatd 62 ?_; first | refine Zsk ?_ | (refine Zcl (Enters_val rfl rfl) (h1 _) ?_) | (refine Zcl (Enters_val rfl rfl) (h2 _) ?_)) | (refine Zatd 65 ?_; first | refine Zsk ?_ | (refine Zv Zfa ?_)) | (refine Zatd 66 ?_; first | refine Zsk ?_ | (refine Zv Zf0 ?_)) | (refine Zatd 67 ?_; first | refine Zsk ?_ | (refine Zv (Val_loadRN rfl hbA hcA rfl) ?_) | (refine Zv Zld ?_)) | (refine Zatd 68 ?_; first | refine Zsk ?_ | (refine Zv Zfa ?_)) | (refine Zatd 69 ?_; first | refine Zsk ?_ | (refine Zv Zfa ?_)) | (refine Zatd 70 ?_; first | refine Zsk ?_ | (refine Zv (Val_loadRN rfl hbA hcA rfl) ?_) | (refine Zv Zld ?_)) | (refine Zatd 71 ?_; first | refine Zsk ?_ | (refine Zv Zxlss ?_)) | (refine Zsk ?_) | (refine Zsp (fun hc => ?_) (fun hc => ?_) <;> (try (exfalso; omega)))) | (refine GiW ?_; first | (refine Zsq fun K hK => ?_) | (refine ZrN 5 fun _ => ?_; refine Zv Zxlss ?_) | (refine ZrN 6 fun _ => ?_; refine Zv Zia ?_; (first | (refine Zv (Val_loadRN rfl hbA hcA rfl) ?_) | (refine Zv Zla ?_)); refine Zal 8 fun b8 => ?_; refine Zst ?_) | (refine ZrG 7 ?_; refine Zv Zf0 ?_; (first | (refine Zv (Val_loadRN rfl hbA hcA rfl) ?_) | (refine Zv Zld ?_)); refine Zv Zfa ?_; (first | (refine Zv (Val_loadRN rfl hbA hcA rfl) ?_) | (refine Zv Zld ?_)); refine Zv Zxsub ?_; refine Zcl (Enters_fn rfl) (h0 _) ?_; refine Zv Zmb ?_) | (refine ZrN 8 fun _ => ?_; refine Zv Zxadd ?_; refine Zv Zmi ?_) | (refine WP_cond_true rfl ?_) | (refine WP_cond_false rfl ?_) | (refine Zcd (fun hc => ?_) (fun hc => ?_) <;> (try (exfalso; omega))) | (with_reducible apply WP_skip) | (with_reducible apply WP_block) | (with_reducible apply WP_exit) | (with_reducible apply WP_ret)) | (refine Zhn ?_) | (with_reducible apply QBlock_normal) | (refine Zhx ?_) | (with_reducible apply QBlock_hit) | (refine Zqb ?_) | (with_reducible apply QLoop_exit) | (refine Zhr ?_) | (with_reducible apply QBlock_ret) | (with_reducible apply QLoop_ret) | (refine Zhp ?_) | (with_reducible apply QBlock_panic) | (with_reducible apply QLoop_panic))
    · exact QLoop_normal (k + 1) (.cons rfl .nil) (by repeat (first | exact Off.frame rfl | exact Off.refl _ _ | refine Off.frameT rfl rfl ?_ | refine Off.upd rfl ?_ | refine Off.updO rfl ?_)) (by repeat (first | exact Wk.refl _ | apply Wk.keep1 | apply Wk.drop | apply Wk.sv | apply Wk.svD | apply Wk.appD)) ⟨by omega, all_snoc hlt hall (by rw [ht, hle, hc]; simp [*])⟩ (by omega)
    · exact QBody_panic ⟨L, (by repeat (first | exact Wk.refl _ | apply Wk.keep1 | apply Wk.drop | apply Wk.sv | apply Wk.svD | apply Wk.appD)), .inr (.inr ⟨vB_le htm (by rw [hle, hc]; simp), rfl, rfl⟩)⟩
    all_goals exact QBody_panic ⟨L, (by repeat (first | exact Wk.refl _ | apply Wk.keep1 | apply Wk.drop | apply Wk.sv | apply Wk.svD | apply Wk.appD)), .inr (.inr ⟨vB_le htm (by rw [hle]; simp [*]), rfl, rfl⟩)⟩
  have hlsA : g.d.ls.all (leB g.d) = true := by rw [show k = g.d.ls.length by omega, List.take_length] at hall; exact hall
  clear hall
  repeat' (first | (refine GiP ?_; first | (refine Znh ?_) | (with_reducible refine Znl ?_)) | (refine GiW ?_; first | (refine Zsq fun K hK => ?_) | (refine ZrN 5 fun _ => ?_; refine Zv Zxlss ?_) | (refine ZrN 9 fun _ => ?_; refine Zv Zfa ?_; refine Zv Zld ?_; refine Zv Zxlen ?_; refine Zv Zmi ?_) | (refine WP_cond_true rfl ?_) | (refine WP_cond_false rfl ?_) | (refine Zcd (fun hc => ?_) (fun hc => ?_) <;> (try (exfalso; omega))) | (with_reducible apply WP_skip) | (with_reducible apply WP_block) | (with_reducible apply WP_exit) | (with_reducible apply WP_ret)) | (refine Zhn ?_) | (with_reducible apply QBlock_normal) | (refine Zhx ?_) | (with_reducible apply QBlock_hit) | (refine Zqb ?_) | (with_reducible apply QLoop_exit) | (refine Zhr ?_) | (with_reducible apply QBlock_ret) | (with_reducible apply QLoop_ret))
  refine WP_loop [10, 78, 79, 80, 81, 82, 83, 84, 85, 86, 87, 88, 89, 90, 91, 92, 93] (fun k : Nat => [(78, .int .i64 (k : Int))]) (fun _ => (b5, Blk 71 [.int .i64 g.d.n, .int .i64 g.d.m, .slice g.A1 g.d.ls.length g.c1, .slice g.A2 g.d.ms.length g.c2]) :: (b4, Blk 71 [.int .i64 0, .int .i64 0, .slice none 0 0, .slice none 0 0]) :: (b2, Blk 25 [.int .i64 g.d.n, .int .i64 g.d.m, .slice g.A1 g.d.ls.length g.c1, .slice g.A2 g.d.ms.length g.c2]) :: L) (fun k => k ≤ g.d.ms.length ∧ (g.d.ms.take k).all (mkB g.d) = true) (fun k => g.d.ms.length - k) 0 (.cons rfl .nil) (Wk.refl _) ⟨Nat.zero_le _, rfl⟩ ?_
  rintro k2 j2 ⟨hk2, hall2⟩
  by_cases hlt2 : k2 < g.d.ms.length
  · obtain ⟨bA, oA, hA1, hbA, hcA⟩ := hA.ms.row k2 hlt2
    obtain ⟨t, ht⟩ : ∃ t, g.d.ms[k2] = t := ⟨_, rfl⟩
    have htm : t ∈ g.d.ms := by rw [← ht]; exact List.getElem_mem hlt2
    rw [ht] at hcA
    unfold spL at hcA
    have h0 := fun L => hpe L t.1 hn10
    have h1 := fun L => hho L t.2
    have hle : mkB g.d t = (inB t.1 0 (g.d.n - 1) && inB t.2 0 g.d.m) := rfl
    obtain ⟨y0, hy0⟩ : ∃ x, inB t.1 0 (g.d.n - 1) = x := ⟨_, rfl⟩
    obtain ⟨y1, hy1⟩ : ∃ x, inB t.2 0 g.d.m = x := ⟨_, rfl⟩
    rw [hy0] at h0 hle
    rw [hy1] at h1 hle
    repeat' (first | (refine GiP ?_; first | (refine Znh ?_) | (with_reducible refine Znl ?_) | (refine Zatd 91 ?_; (first | (refine Zv Zxpt ?_) | (refine Zv Zxpf ?_)); (refine OPS_must (Enters_fn rfl) rfl rfl rfl (fun hc => ?_) (fun hc => ?_) <;> (try (exfalso; simp at hc; done)))) | (refine Zatd 87 ?_; first | refine Zsk ?_ | (refine Zv (Val_loadRN rfl hbA hcA rfl) ?_) | (refine Zv Zla ?_)) | (refine Zatd 88 ?_; first | refine Zsk ?_ | (refine Zv Zfa ?_)) | (refine Zatd 89 ?_; first | refine Zsk ?_ | (refine Zv (Val_loadRN rfl hbA hcA rfl) ?_) | (refine Zv Zld ?_)) | (refine Zatd 90 ?_; first | refine Zsk ?_ | (refine Zcl (Enters_fn rfl) (h1 _) ?_)) | (refine Zsk ?_) | (refine Zsp (fun hc => ?_) (fun hc => ?_) <;> (try (exfalso; omega)))) | (refine GiW ?_; first | (refine Zsq fun K hK => ?_) | (refine ZrN 10 fun _ => ?_; refine Zv Zxlss ?_) | (refine ZrN 11 fun _ => ?_; refine Zv Zia ?_; (first | (refine Zv (Val_loadRN rfl hbA hcA rfl) ?_) | (refine Zv Zla ?_)); refine Zal 10 fun b10 => ?_; refine Zst ?_) | (refine ZrG 12 ?_; (first | (refine Zv (Val_loadRN rfl hbA hcA rfl) ?_) | (refine Zv Zla ?_)); refine Zv Zf0 ?_; (first | (refine Zv (Val_loadRN rfl hbA hcA rfl) ?_) | (refine Zv Zld ?_)); refine Zcl (Enters_fn rfl) (h0 _) ?_; refine Zv Zmb ?_) | (refine ZrN 13 fun _ => ?_; refine Zv Zxadd ?_; refine Zv Zmi ?_) | (refine WP_cond_true rfl ?_) | (refine WP_cond_false rfl ?_) | (refine Zcd (fun hc => ?_) (fun hc => ?_) <;> (try (exfalso; omega))) | (with_reducible apply WP_skip) | (with_reducible apply WP_block) | (with_reducible apply WP_exit) | (with_reducible apply WP_ret)) | (refine Zhn ?_) | (with_reducible apply QBlock_normal) | (refine Zhx ?_) | (with_reducible apply QBlock_hit) | (refine Zqb ?_) | (with_reducible apply QLoop_exit) | (refine Zhr ?_) | (with_reducible apply QBlock_ret) | (with_reducible apply QLoop_ret) | (refine Zhp ?_) | (with_reducible apply QBlock_panic) | (with_reducible apply QLoop_panic))
    · exact QLoop_normal (k2 + 1) (.cons rfl .nil) (by repeat (first | exact Off.frame rfl | exact Off.refl _ _ | refine Off.frameT rfl rfl ?_ | refine Off.upd rfl ?_ | refine Off.updO rfl ?_)) (by repeat (first | exact Wk.refl _ | apply Wk.keep1 | apply Wk.drop | apply Wk.sv | apply Wk.svD | apply Wk.appD)) ⟨by omega, all_snoc hlt2 hall2 (by rw [ht, hle, hc]; simp [*])⟩ (by omega)
    · exact QBody_panic ⟨L, (by repeat (first | exact Wk.refl _ | apply Wk.keep1 | apply Wk.drop | apply Wk.sv | apply Wk.svD | apply Wk.appD)), .inr (.inr ⟨vB_mk htm (by rw [hle, hc]; simp), rfl, rfl⟩)⟩
    all_goals exact QBody_panic ⟨L, (by repeat (first | exact Wk.refl _ | apply Wk.keep1 | apply Wk.drop | apply Wk.sv | apply Wk.svD | apply Wk.appD)), .inr (.inr ⟨vB_mk htm (by rw [hle]; simp [*]), rfl, rfl⟩)⟩
  have hmsA : g.d.ms.all (mkB g.d) = true := by rw [show k2 = g.d.ms.length by omega, List.take_length] at hall2; exact hall2
  have hvb := vB_all hnum hlsA hmsA
  have hqb := fun L' h => hq L' h (VB_of hvb)
  repeat' (first | (refine GiP ?_; first | (refine Znh ?_) | (with_reducible refine Znl ?_)) | (refine GiW ?_; first | (refine Zsq fun K hK => ?_) | (refine ZrN 10 fun _ => ?_; refine Zv Zxlss ?_) | (refine ZrN 14 fun _ => ?_; refine Zv Zmv ?_; refine Zv Zla ?_; refine Zcl (Enters_val rfl rfl) (hqb _ (.cons (.cons (.cons hN)))) ?_; (refine OPS_must (Enters_fn rfl) rfl rfl rfl (fun hc => ?_) (fun hc => ?_) <;> (try (exfalso; simp at hc; done)))) | (refine ZrN 15 fun _ => ?_; refine Zv Zla ?_; refine Zst ?_) | (refine WP_cond_true rfl ?_) | (refine WP_cond_false rfl ?_) | (refine Zcd (fun hc => ?_) (fun hc => ?_) <;> (try (exfalso; omega))) | (with_reducible apply WP_skip) | (with_reducible apply WP_block) | (with_reducible apply WP_exit) | (with_reducible apply WP_ret)) | (refine Zhn ?_) | (with_reducible apply QBlock_normal) | (refine Zhx ?_) | (with_reducible apply QBlock_hit) | (refine Zqb ?_) | (with_reducible apply QLoop_exit) | (refine Zhr ?_) | (with_reducible apply QBlock_ret) | (with_reducible apply QLoop_ret) | (refine Zhp ?_) | (with_reducible apply QBlock_panic) | (with_reducible apply QLoop_panic))
  · exact QBody_res rfl (.cellN rfl (by repeat (first | exact Mem.here | assumption | apply Mem.there | apply Mem.sv | apply Mem.app)) (.here (.cons (.cons (.cons (.cons .nil))))) .nil) rfl ⟨L, (by repeat (first | exact Wk.refl _ | apply Wk.keep1 | apply Wk.drop | apply Wk.sv | apply Wk.svD | apply Wk.appD)), .inl ⟨hvb, hc, rfl, rfl⟩⟩
  · exact QBody_panic ⟨L, (by repeat (first | exact Wk.refl _ | apply Wk.keep1 | apply Wk.drop | apply Wk.sv | apply Wk.svD | apply Wk.appD)), .inr (.inl ⟨hvb, hc, rfl, rfl⟩)⟩
end
section
variable {N : Nat} {w0 : World} {g : Fg} {ok : Bool} {q : FuncId} {cc : List Value} {L : Hp}
theorem open_ok (h : OpenR N w0 g ok q cc L) (h1 : vB g.d = true) (h2 : ok = true) : Ret Try.prog N w0 L 51 [bkV g, .func (.func q) #[] cc.toArray].toArray (bkV g) := by
  refine Tri.mono h ?_
  rintro x L' (⟨_, _, rfl, rfl⟩ | ⟨_, h3, _⟩ | ⟨h3, _⟩)
  · exact ⟨rfl, rfl⟩
  · rw [h2] at h3; cases h3
  · rw [h1] at h3; cases h3
theorem open_no (h : OpenR N w0 g ok q cc L) (h1 : vB g.d = false ∨ ok = false) : Tri Try.prog N w0 L 51 [bkV g, .func (.func q) #[] cc.toArray].toArray fun x L' => x = .panicked (stopE (errD g.d ok)) ∧ L' = L := by
  refine Tri.mono h ?_
  rintro x L' (⟨h2, h3, _⟩ | ⟨h2, h3, rfl, rfl⟩ | ⟨h3, rfl, rfl⟩)
  · rw [h2, h3] at h1; rcases h1 with h1 | h1 <;> cases h1
  · exact ⟨by simp [errD, h2, h3], rfl⟩
  · exact ⟨by simp [errD, h3], rfl⟩
end
end Go.Proofs.Ytakmopiceopcpaa
end
