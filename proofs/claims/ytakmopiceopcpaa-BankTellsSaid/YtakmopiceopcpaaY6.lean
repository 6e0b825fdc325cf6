/- The document's answer for banks: all truths, the error; in how many a perch is that of one. · The document's answer for banks: its functions, walked. · The document's answer for banks: its functions, walked, further. · The document's answer for banks: its functions, walked, further. -/
import Derived.Test.YtakmopiceopcpaaY2
section
namespace Go.Proofs.Ytakmopiceopcpaa
open Go.RowKit
/-- Lists of lines that can be read. -/
def RdT (N : Nat) (w0 : World) (L : Hp) (A : Option Addr) (rows : List (List Sp)) : Prop := ∀ i (hi : i < rows.length), ∃ b A1 c1 A2 c2, A = some ⟨b, 0, none⟩ ∧ ∀ L', Wk L' L → (∀ j v, [Value.slice A1 rows[i].length c1, .slice A2 rows[i].length c2][j]? = some v → Rd N w0 L' b (0 + i * 2 + j) v) ∧ RdI N w0 L' A1 (rows[i].map (·.1)) ∧ RdI N w0 L' A2 (rows[i].map (·.2))
theorem RdT.wk {N : Nat} {w0 : World} {L L' : Hp} {A : Option Addr} {rows : List (List Sp)} (h : RdT N w0 L A rows) (k : Wk L' L) : RdT N w0 L' A rows := fun i hi => by
  obtain ⟨b, A1, c1, A2, c2, h1, h2⟩ := h i hi
  exact ⟨b, A1, c1, A2, c2, h1, fun L2 k2 => h2 L2 (k2.trans k)⟩
theorem RdLL.rdT {X H : Hp} {A : Option Addr} {n c : Nat} {rows : List (List Sp)} {N : Nat} {w0 : World} (h : RdLL X (.slice A n c) rows) (k : Wk H X) : RdT N w0 H A rows := fun i hi => by
  obtain ⟨A', c', h1, h2⟩ := h
  simp only [Value.slice.injEq] at h1
  obtain ⟨rfl, _, _⟩ := h1
  obtain ⟨b, u, v, h3, h4, h5, h6⟩ := h2 i rows[i] (List.getElem?_eq_getElem hi)
  obtain ⟨A1, c1, rfl, -⟩ := h6.1.opn
  obtain ⟨A2, c2, rfl, -⟩ := h6.2.opn
  refine ⟨b, A1, c1, A2, c2, h3, fun L' hL => ⟨?_, h6.1.rdI (hL.trans k), h6.2.rdI (hL.trans k)⟩⟩
  intro j v hj w hI
  match j with
  | 0 =>
    simp only [List.getElem?_cons_zero, Option.some.injEq] at hj
    subst hj
    have := h4 N w0 w (hI.wk (hL.trans k))
    rw [List.length_map] at this
    simpa using this
  | 1 =>
    simp only [List.getElem?_cons_succ, List.getElem?_cons_zero, Option.some.injEq] at hj
    subst hj
    have := h5 N w0 w (hI.wk (hL.trans k))
    rw [List.length_map] at this
    simpa using this
  | j + 2 => simp at hj
theorem fsF_tr (d : Bn) (set : Nat) : fsF d set [] d.ls = trL (onlyB d set) := by
  unfold fsF trL
  congr 1
  simp
  rfl
theorem tr_every {d : Bn} (v : VB d) : trL (onlyB d (evB d)) = trL d := by
  unfold evB
  rw [only_all v]
theorem trL_len {d : Bn} {x : List Sp} (h : x ∈ trL d) : x.length = d.ls.length := combos_len (List.mem_filter.1 h).1
theorem tr_bd {d : Bn} (v : VB d) : (trL d).length ≤ 6561 := by have := ways_bd v []; rw [waysN_nil] at this; exact this
def cntO (d : Bn) (p o : Int) (T : List (List Sp)) : Nat := (T.filter fun x => decide (ownX d x p = o)).length
theorem cntO_snoc (d : Bn) (p o : Int) (T : List (List Sp)) (x : List Sp) : cntO d p o (T ++ [x]) = cntO d p o T + if ownX d x p = o then 1 else 0 := by
  unfold cntO
  rw [List.filter_append, List.length_append]
  congr 1
  by_cases h : ownX d x p = o
  · rw [if_pos h, List.filter_cons, if_pos (decide_eq_true h)]; rfl
  · rw [if_neg h, List.filter_cons, if_neg (by simpa using h)]; rfl
theorem cntO_le (d : Bn) (p o : Int) (T : List (List Sp)) : cntO d p o T ≤ T.length := List.length_filter_le _ _
theorem cntO_ways {d : Bn} {p : Int} (hp : 0 ≤ p ∧ p < d.n) (o : Int) : cntO d p o (trL d) = waysN d [.mine p o] := (ways_mine hp o).symm
attribute [local irreducible] AnyO AnyB QAny QB EWalk AWalk Ev WP OPS QThen QBlock QScope QLoop QBody Val New Turn Tri Enters PostA Blk Ro
attribute [local irreducible] AnyC QC
section
variable (N : Nat) (w0 : World)
theorem truths_ref (L : Hp) (g : Fg) (hA : BkAt N w0 g) (hv : VB g.d) (set : Nat) (hset : set ≤ 1000000) :
    Tri Try.prog N w0 L 85 [bkV g, .int .i64 (set : Int)].toArray fun x L2 => ∃ v, x = .returned v ∧ ∃ X A c, v = .slice A (trL (onlyB g.d set)).length c ∧ RdLL X v (trL (onlyB g.d set)) ∧ L2 = X ++ L := by
  have hfr : ∀ L, Tri Try.prog N w0 L 101 [bkV g, .agg [.slice none 0 0, .slice none 0 0].toArray, .int .i64 (set : Int), .slice none 0 0].toArray fun x L2 => ∃ v, x = .returned v ∧ ∃ X A c, v = .slice A (trL (onlyB g.d set)).length c ∧ RdLL X v (trL (onlyB g.d set)) ∧ L2 = X ++ L := by
    intro L
    have hnl := hv.nl
    have h9 : 9 ^ g.d.ls.length ≤ 9 ^ 4 := Nat.pow_le_pow_right (by omega) hnl
    have h := from_a N w0 g hA hv set hset g.d.ls [] (by simp) rfl L [] (.slice none 0 0) (.slice none 0 0) [] [] none ⟨RdL.nilS [] 0, RdL.nilS [] 0⟩ (svOk_nil _) (fun i row hi => by simp at hi) (by simp; omega)
    refine Tri.mono h ?_
    rintro x L2 ⟨v, rfl, rows, X2, vals, s, rfl, hrows, hs, hrd, rfl⟩
    have hr : rows = trL (onlyB g.d set) := by rw [hrows, List.nil_append, fsF_tr]
    rw [List.append_nil] at hrd ⊢
    have hfin := (RdLL.sv (E := 85) hs hrd)
    rw [hr] at hfin ⊢
    have hfin2 := hfin
    obtain ⟨A, c, he, -⟩ := hfin2
    exact ⟨_, rfl, _, A, c, he, hfin, by rw [svH_app]⟩
  refine Tri.fgt ?_
  refine tri_of_WP Try.func85 rfl (n := _) rfl (by simp) ?_
  unfold bkV bkL at hfr ⊢
  repeat' (first | (refine GiP ?_; first | (refine Znh ?_) | (with_reducible refine Znl ?_)) | (refine GiW ?_; first | (refine Zsq fun K hK => ?_) | (refine ZrN 0 fun _ => ?_; refine Zal 2 fun b2 => ?_; refine Zv Zav ?_) | (refine ZrN 1 fun _ => ?_; refine Zv Zla ?_; refine Zv Zxbu ?_; refine Zv Zmi ?_; refine OPS_retKS (Enters_fn rfl) (hfr _) rfl rfl rfl (fun v8 L8 h8 => ?_); obtain ⟨X8, A8, c8, rfl, hr8, rfl⟩ := h8; refine Zv Zav ?_) | (with_reducible apply WP_ret)) | (refine Zhn ?_) | (refine Zhr ?_))
  exact QBody_ret1 rfl (rfl : _ = Value.slice _ _ _) ⟨X8 ++ L, Wk.appK X8 (.drop (.refl _)), _, rfl, X8, A8, c8, rfl, hr8, rfl⟩
theorem truthsAll_ref (L : Hp) (g : Fg) (hA : BkAt N w0 g) (hv : VB g.d) :
    Tri Try.prog N w0 L 75 [bkV g].toArray fun x L2 => ∃ v, x = .returned v ∧ ∃ X A c, v = .slice A (trL g.d).length c ∧ RdLL X v (trL g.d) ∧ L2 = X ++ L := by
  have hnm := hv.nm
  have hp : 2 ^ g.d.ms.length ≤ 2 ^ 7 := Nat.pow_le_pow_right (by omega) (by omega)
  have hev := fun L => every_refR N w0 L g (by omega)
  have htr := fun L => truths_ref N w0 L g hA hv (evB g.d) (by unfold evB; omega)
  rw [tr_every hv] at htr
  refine Tri.fgt ?_
  refine tri_of_WP Try.func75 rfl (n := _) rfl (by simp) ?_
  unfold bkV bkL at hev htr ⊢
  repeat' (first | (refine GiP ?_; first | (refine Znh ?_) | (with_reducible refine Znl ?_) | (refine Zatd 6 ?_; refine OPS_retKS (Enters_fn rfl) (htr _) rfl rfl rfl (fun v6 L6 h6 => ?_); obtain ⟨X6, A6, c6, rfl, hr6, rfl⟩ := h6) | (refine Zatd 2 ?_; refine Zv Zav ?_)) | (refine GiW ?_; first | (refine Zsq fun K hK => ?_) | (refine ZrN 0 fun _ => ?_; refine Zal 1 fun b1 => ?_; refine Zv Zav ?_) | (with_reducible apply WP_ret) | (refine WP_drawnS (id := 1) [] [0, 1, 2] [] [] (k := 0) (k2 := 2) (by repeat (first | apply Sub.sv | apply Sub.keep | apply Sub.appK | exact Sub.refl _)) (by kernel_rfl) prog_mixed (by kernel_rfl) (by kernel_rfl) rfl ?_; refine Zew rfl Zla ?_; refine Zew rfl Zla ?_; refine Zec rfl (Enters_fn rfl) (fun X => hev _) ?_)) | (with_reducible apply EWalk_nil) | (refine ZgC [0, 1, 2] ?_; refine ZCl _ ?_) | (refine GiO ?_; first | (refine ZgO [0, 1, 2] ?_; refine ZO1 _ 3 [0, 1, 2, 3] ?_) | (refine ZgO [0, 1, 2, 3] ?_; refine ZO1 _ 4 [0, 1, 2, 3, 4] ?_) | (refine ZgO [0, 1, 2, 3, 4] ?_; refine ZOd _ ?_; (try with_reducible apply noP_normal); (try with_reducible exact key.out))) | (refine Zhn ?_) | (refine Zhr ?_) | (refine AWalk_0 ?_) | (with_reducible apply QAny_normal) | (with_reducible apply QC_normal))
  all_goals exact QBody_ret1 rfl (rfl : _ = Value.slice _ _ _) ⟨X6 ++ L, Wk.appK X6 (.drop (.refl _)), _, rfl, X6, A6, c6, rfl, hr6, rfl⟩
theorem check_ref (L : Hp) (g : Fg) (hA : BkAt N w0 g) (hf : farB g.d = false) (ok : Bool) :
    Ret Try.prog N w0 L 74 [bkV g, .bool ok].toArray (.int .i64 (if vB g.d then if ok then 0 else 2 else 1)) := by
  have hdr := fun L => rBank_in N w0 L g (BankIn.at_ hA) hf
  refine Ret.fgt ?_
  refine tri_of_WP Try.func74 rfl (n := _) rfl (by simp) ?_
  unfold bkV bkL at hdr ⊢
  obtain ⟨b, hb⟩ : ∃ b, vB g.d = b := ⟨_, rfl⟩
  rw [hb] at hdr ⊢
  cases b <;> cases ok
  all_goals
    repeat' (first | (refine GiP ?_; first | (refine Znh ?_) | (with_reducible refine Znl ?_)) | (refine GiW ?_; first | (refine Zsq fun K hK => ?_) | (refine ZrN 0 fun _ => ?_; refine Zal 2 fun b2 => ?_; refine Zv Zai ?_) | (refine ZrN 1 fun _ => ?_; refine Zv Zla ?_; refine Zcl (Enters_fn rfl) (hdr _) ?_; refine Zv Zxnot ?_) | (refine ZrN 2 fun _ => ?_; refine Zv Zai ?_) | (refine ZrN 3 fun _ => ?_; refine Zv Zmb ?_; refine Zv Zxnot ?_) | (refine ZrN 4 fun _ => ?_; refine Zv Zai ?_) | (refine ZrN 5 fun _ => ?_; refine Zv Zai ?_) | (refine WP_cond_true rfl ?_) | (refine WP_cond_false rfl ?_) | (refine Zcd (fun hc => ?_) (fun hc => ?_) <;> (try (exfalso; omega))) | (with_reducible apply WP_skip) | (with_reducible apply WP_ret)) | (refine Zhn ?_) | (refine Zhr ?_))
    all_goals exact QBody_ret1 rfl (rfl : _ = Value.int _ _) ⟨rfl, (by repeat (first | exact Wk.refl _ | apply Wk.keep1 | apply Wk.drop | apply Wk.sv | apply Wk.svD | apply Wk.appD))⟩
/-- All truths, or the error. -/
theorem told_ref (L : Hp) (g : Fg) (hA : BkAt N w0 g) (hf : farB g.d = false) (ok : Bool) :
    Tri Try.prog N w0 L 56 [bkV g, .bool ok].toArray fun x L2 => ∃ v, x = .returned v ∧ ∃ A n c X, v = .tuple [.slice A n c, .int .i64 (errT g.d ok)].toArray ∧ L2 = X ++ L ∧ (errT g.d ok = 0 → n = (trL g.d).length ∧ RdLL X (.slice A n c) (trL g.d)) := by
  have hck := fun L => check_ref N w0 L g hA hf ok
  refine Tri.fgt ?_
  refine tri_of_WP Try.func56 rfl (n := _) rfl (by simp) ?_
  cases hb : vB g.d with
  | false =>
    have he : errT g.d ok = 1 := by simp [errT, hb]
    rw [hb] at hck
    simp only [Bool.false_eq_true, if_false] at hck
    rw [he]
    unfold bkV bkL at hck ⊢
    repeat' (first | (refine GiP ?_; first | (refine Znh ?_) | (with_reducible refine Znl ?_)) | (refine GiW ?_; first | (refine Zsq fun K hK => ?_) | (refine ZrN 0 fun _ => ?_; refine Zal 2 fun b2 => ?_; refine Zv Zav ?_; refine Zv Zai ?_) | (refine ZrN 1 fun _ => ?_; refine Zv Zla ?_; refine Zv Zmb ?_; refine Zcl (Enters_fn rfl) (hck _) ?_; refine Zv Zai ?_) | (refine ZrN 2 fun _ => ?_; refine Zv Zmi ?_; refine Zv Zxneq ?_) | (refine ZrN 3 fun _ => ?_; refine Zv Zmi ?_; refine Zv Zav ?_; refine Zv Zai ?_) | (refine WP_cond_true rfl ?_) | (refine WP_cond_false rfl ?_) | (refine Zcd (fun hc => ?_) (fun hc => ?_) <;> (try (exfalso; omega))) | (with_reducible apply WP_skip) | (with_reducible apply WP_ret)) | (refine Zhn ?_) | (refine Zhr ?_))
    exact QBody_res rfl (.tmp (rfl : _ = Value.slice _ _ _) (.tmp (rfl : _ = Value.int _ _) .nil)) rfl ⟨L, (by repeat (first | exact Wk.refl _ | apply Wk.keep1 | apply Wk.drop | apply Wk.sv | apply Wk.svD | apply Wk.appD)), _, rfl, none, 0, 0, [], rfl, rfl, fun h => by omega⟩
  | true =>
    rw [hb] at hck
    have hv := VB_of hb
    simp only [if_true] at hck
    cases ok with
    | false =>
      have he : errT g.d false = 2 := by simp [errT, hb]
      simp only [Bool.false_eq_true, if_false] at hck
      rw [he]
      unfold bkV bkL at hck ⊢
      repeat' (first | (refine GiP ?_; first | (refine Znh ?_) | (with_reducible refine Znl ?_)) | (refine GiW ?_; first | (refine Zsq fun K hK => ?_) | (refine ZrN 0 fun _ => ?_; refine Zal 2 fun b2 => ?_; refine Zv Zav ?_; refine Zv Zai ?_) | (refine ZrN 1 fun _ => ?_; refine Zv Zla ?_; refine Zv Zmb ?_; refine Zcl (Enters_fn rfl) (hck _) ?_; refine Zv Zai ?_) | (refine ZrN 2 fun _ => ?_; refine Zv Zmi ?_; refine Zv Zxneq ?_) | (refine ZrN 3 fun _ => ?_; refine Zv Zmi ?_; refine Zv Zav ?_; refine Zv Zai ?_) | (refine WP_cond_true rfl ?_) | (refine WP_cond_false rfl ?_) | (refine Zcd (fun hc => ?_) (fun hc => ?_) <;> (try (exfalso; omega))) | (with_reducible apply WP_skip) | (with_reducible apply WP_ret)) | (refine Zhn ?_) | (refine Zhr ?_))
      exact QBody_res rfl (.tmp (rfl : _ = Value.slice _ _ _) (.tmp (rfl : _ = Value.int _ _) .nil)) rfl ⟨L, (by repeat (first | exact Wk.refl _ | apply Wk.keep1 | apply Wk.drop | apply Wk.sv | apply Wk.svD | apply Wk.appD)), _, rfl, none, 0, 0, [], rfl, rfl, fun h => by omega⟩
    | true =>
      simp only [if_true] at hck
      have hlv := fun L => truthsAll_ref N w0 L g hA hv
      have hcnt := tr_bd hv
      obtain ⟨T, hT⟩ : ∃ T, trL g.d = T := ⟨_, rfl⟩
      by_cases h0 : T.length = 0
      · have he : errT g.d true = 10 := errT_10 hb rfl (by rw [hT]; exact h0)
        rw [hT] at hlv hcnt
        rw [he]
        rw [h0] at hlv
        unfold bkV bkL at hck hlv ⊢
        repeat' (first | (refine GiP ?_; first | (refine Znh ?_) | (with_reducible refine Znl ?_)) | (refine GiW ?_; first | (refine Zsq fun K hK => ?_) | (refine ZrN 0 fun _ => ?_; refine Zal 2 fun b2 => ?_; refine Zv Zav ?_; refine Zv Zai ?_) | (refine ZrN 1 fun _ => ?_; refine Zv Zla ?_; refine Zv Zmb ?_; refine Zcl (Enters_fn rfl) (hck _) ?_; refine Zv Zai ?_) | (refine ZrN 2 fun _ => ?_; refine Zv Zmi ?_; refine Zv Zyneq ?_) | (refine ZrN 4 fun _ => ?_; refine Zv Zla ?_; refine OPS_retKS (Enters_fn rfl) (hlv _) rfl rfl rfl (fun v6 L6 h6 => ?_); obtain ⟨X6, A6, c6, rfl, hr6, rfl⟩ := h6; refine Zv Zav ?_) | (refine ZrN 5 fun _ => ?_; refine Zv Zmv ?_; refine Zv Zxlen ?_; refine Zv Zyeql ?_) | (refine ZrN 6 fun _ => ?_; refine Zv Zav ?_; refine Zv Zai ?_) | (refine WP_cond_true rfl ?_) | (refine WP_cond_false rfl ?_) | (refine Zcd (fun hc => ?_) (fun hc => ?_) <;> (try (exfalso; omega))) | (with_reducible apply WP_skip) | (with_reducible apply WP_ret)) | (refine Zhn ?_) | (refine Zhr ?_))
        exact QBody_res rfl (.tmp (rfl : _ = Value.slice _ _ _) (.tmp (rfl : _ = Value.int _ _) .nil)) rfl ⟨X6 ++ L, Wk.appK X6 (.drop (.refl _)), _, rfl, none, 0, 0, X6, rfl, rfl, fun h => by omega⟩
      · have he : errT g.d true = 0 := errT_0 hb rfl (by rw [hT]; omega)
        rw [hT] at hlv hcnt
        rw [he, hT]
        unfold bkV bkL at hck hlv ⊢
        repeat' (first | (refine GiP ?_; first | (refine Znh ?_) | (with_reducible refine Znl ?_)) | (refine GiW ?_; first | (refine Zsq fun K hK => ?_) | (refine ZrN 0 fun _ => ?_; refine Zal 2 fun b2 => ?_; refine Zv Zav ?_; refine Zv Zai ?_) | (refine ZrN 1 fun _ => ?_; refine Zv Zla ?_; refine Zv Zmb ?_; refine Zcl (Enters_fn rfl) (hck _) ?_; refine Zv Zai ?_) | (refine ZrN 2 fun _ => ?_; refine Zv Zmi ?_; refine Zv Zyneq ?_) | (refine ZrN 4 fun _ => ?_; refine Zv Zla ?_; refine OPS_retKS (Enters_fn rfl) (hlv _) rfl rfl rfl (fun v6 L6 h6 => ?_); obtain ⟨X6, A6, c6, rfl, hr6, rfl⟩ := h6; refine Zv Zav ?_) | (refine ZrN 5 fun _ => ?_; refine Zv Zmv ?_; refine Zv Zxlen ?_; refine Zv Zyeql ?_) | (refine ZrN 7 fun _ => ?_; refine Zv Zmv ?_; refine Zv Zav ?_; refine Zv Zai ?_) | (refine WP_cond_true rfl ?_) | (refine WP_cond_false rfl ?_) | (refine Zcd (fun hc => ?_) (fun hc => ?_) <;> (try (exfalso; omega))) | (with_reducible apply WP_skip) | (with_reducible apply WP_ret)) | (refine Zhn ?_) | (refine Zhr ?_))
        exact QBody_res rfl (.tmp (rfl : _ = Value.slice _ _ _) (.tmp (rfl : _ = Value.int _ _) .nil)) rfl ⟨X6 ++ L, Wk.appK X6 (.drop (.refl _)), _, rfl, A6, T.length, c6, X6, rfl, rfl, fun _ => ⟨rfl, hr6⟩⟩
theorem many_ref (L : Hp) (g : Fg) (hA : BkAt N w0 g) (hv : VB g.d) (T : List (List Sp)) (A : Option Addr) (c : Nat) (hT : RdT N w0 L A T) (hlen : ∀ x ∈ T, x.length = g.d.ls.length) (hbd : T.length ≤ 6561) (p o : Int) :
    Ret Try.prog N w0 L 63 [bkV g, .slice A T.length c, .int .i64 p, .int .i64 o].toArray (.int .i64 ((cntO g.d p o T : Nat) : Int)) := by
  have hof := fun L' x hx A1 A2 c1 c2 h1 h2 => of_ref N w0 L' g hA hv x hx A1 A2 c1 c2 h1 h2 p
  refine Ret.fgt ?_
  refine tri_of_WP Try.func63 rfl (n := _) rfl (by simp) ?_
  unfold bkV bkL at hof ⊢
  repeat' (first | (refine GiP ?_; first | (refine Znh ?_) | (with_reducible refine Znl ?_)) | (refine GiW ?_; first | (refine Zsq fun K hK => ?_) | (refine ZrN 0 fun _ => ?_; refine Zal 4 fun b4 => ?_; refine Zv Zai ?_) | (refine ZrN 1 fun _ => ?_; refine Zv Zai ?_) | (refine ZrN 2 fun _ => ?_; refine Zv Zai ?_) | (refine WP_cond_true rfl ?_) | (refine WP_cond_false rfl ?_) | (refine Zcd (fun hc => ?_) (fun hc => ?_) <;> (try (exfalso; omega))) | (with_reducible apply WP_skip) | (with_reducible apply WP_block) | (with_reducible apply WP_exit) | (with_reducible apply WP_ret)) | (refine Zhn ?_) | (with_reducible apply QBlock_normal) | (refine Zhx ?_) | (with_reducible apply QBlock_hit) | (refine Zqb ?_) | (with_reducible apply QLoop_exit) | (refine Zhr ?_) | (with_reducible apply QBlock_ret) | (with_reducible apply QLoop_ret))
  refine WP_loop [9, 10, 11, 12, 13, 14, 15, 16, 17, 18, 19, 20, 21, 22, 23, 24, 25, 26, 27] (fun k : Nat => [(10, .int .i64 (k : Int)), (9, .int .i64 ((cntO g.d p o (T.take k) : Nat) : Int))]) (fun _ => _) (fun k => k ≤ T.length) (fun k => T.length - k) 0 (.cons rfl (.cons rfl .nil)) (Wk.refl _) (Nat.zero_le _) ?_
  intro k j hk
  by_cases hkl : k < T.length
  · obtain ⟨b, A1, c1, A2, c2, rfl, h2⟩ := hT k hkl
    have hl := hlen _ (List.getElem_mem hkl)
    have hst := cntO_snoc g.d p o (T.take k) T[k]
    rw [← List.take_succ_eq_append_getElem hkl] at hst
    have hc0 := cntO_le g.d p o (T.take k)
    rw [List.length_take, Nat.min_eq_left hk] at hc0
    obtain ⟨x, hx⟩ : ∃ x, T[k] = x := ⟨_, rfl⟩
    rw [hx] at h2 hl hst
    have hcall := fun L' (h : Wk L' L) => hof L' x hl A1 A2 c1 c2 (h2 L' h).2.1 (h2 L' h).2.2
    obtain ⟨z, hz⟩ : ∃ z, ownX g.d x p = z := ⟨_, rfl⟩
    rw [hz] at hcall hst
    obtain ⟨q, hq⟩ : ∃ q, cntO g.d p o (T.take k) = q := ⟨_, rfl⟩
    rw [hq] at hst hc0 ⊢
    by_cases hzo : z = o
    · rw [if_pos hzo] at hst
      have hnx : (q : Int) + 1 = ((cntO g.d p o (T.take (k + 1)) : Nat) : Int) := by rw [hst]; omega
      repeat' (first | (refine GiP ?_; first | (refine Znh ?_) | (with_reducible refine Znl ?_)) | (refine GiW ?_; first | (refine Zsq fun K hK => ?_) | (refine ZrN 3 fun _ => ?_; refine Zv Zmi ?_; refine Zv Zmv ?_; refine Zv Zxlen ?_; refine Zv Zylss ?_) | (refine ZrN 6 fun _ => ?_; refine Zv Zmi ?_; refine Zv Zxadd ?_; refine Zv Zai ?_) | (refine ZrN 4 fun _ => ?_; refine Zv Zmi ?_; refine Zv Zxadd ?_; refine Zv Zai ?_) | (refine WP_cond_true rfl ?_) | (refine WP_cond_false rfl ?_) | (refine Zcd (fun hc => ?_) (fun hc => ?_) <;> (try (exfalso; omega))) | (with_reducible apply WP_skip) | (with_reducible apply WP_block) | (with_reducible apply WP_exit) | (with_reducible apply WP_ret) | (refine WP_drawn (id := 5) [0, 1, 2, 3, 4, 5, 6, 7, 8] [] (k := 0) prog_mixed (by kernel_rfl) rfl ?_; (first | (refine Zew rfl (Val_loadDN rfl (h2 _ (by repeat (first | exact Wk.refl _ | apply Wk.keep1 | apply Wk.drop | apply Wk.sv | apply Wk.svD | apply Wk.appD))).1 rfl) ?_) | (refine Zew rfl Zla ?_)); refine Zew rfl Zmv ?_; refine Zew rfl Zmi ?_; (first | (refine Zew rfl (Val_indexAddr rfl rfl rfl hkl) ?_) | (refine Zew rfl Zia ?_)); (first | (refine Zew rfl (Val_loadDN rfl (h2 _ (by repeat (first | exact Wk.refl _ | apply Wk.keep1 | apply Wk.drop | apply Wk.sv | apply Wk.svD | apply Wk.appD))).1 rfl) ?_) | (refine Zew rfl Zla ?_)); refine Zew rfl Zmi ?_; refine Zec rfl (Enters_fn rfl) (fun X => hcall _ (by repeat (first | exact Wk.refl _ | apply Wk.keep1 | apply Wk.drop | apply Wk.sv | apply Wk.svD | apply Wk.appD))) ?_; refine Zew rfl Zmi ?_; refine Zew rfl Zyeql ?_)) | (with_reducible apply EWalk_nil) | (refine AnyO_done (by kernel_rfl) ?_; (try with_reducible apply noP_normal); try with_reducible exact key.out) | (refine Zhn ?_) | (with_reducible apply QBlock_normal) | (refine Zhx ?_) | (with_reducible apply QBlock_hit) | (refine Zqb ?_) | (with_reducible apply QLoop_exit) | (refine Zhr ?_) | (with_reducible apply QBlock_ret) | (with_reducible apply QLoop_ret) | (refine AWalk_0 ?_; refine ZisO ?_) | (with_reducible apply QAny_normal))
      all_goals exact QLoop_normal (k + 1) (.cons rfl (.cons (congrArg (Value.int .i64) hnx) .nil)) (by repeat (first | exact Off.frame rfl | exact Off.refl _ _ | refine Off.frameT rfl rfl ?_ | refine Off.upd rfl ?_ | refine Off.updO rfl ?_)) (by repeat (first | exact Wk.refl _ | apply Wk.keep1 | apply Wk.drop | apply Wk.sv | apply Wk.svD | apply Wk.appD)) (by omega) (by omega)
    · rw [if_neg hzo, Nat.add_zero] at hst
      repeat' (first | (refine GiP ?_; first | (refine Znh ?_) | (with_reducible refine Znl ?_)) | (refine GiW ?_; first | (refine Zsq fun K hK => ?_) | (refine ZrN 3 fun _ => ?_; refine Zv Zmi ?_; refine Zv Zmv ?_; refine Zv Zxlen ?_; refine Zv Zylss ?_) | (refine ZrN 6 fun _ => ?_; refine Zv Zmi ?_; refine Zv Zxadd ?_; refine Zv Zai ?_) | (refine ZrN 4 fun _ => ?_; refine Zv Zmi ?_; refine Zv Zxadd ?_; refine Zv Zai ?_) | (refine WP_cond_true rfl ?_) | (refine WP_cond_false rfl ?_) | (refine Zcd (fun hc => ?_) (fun hc => ?_) <;> (try (exfalso; omega))) | (with_reducible apply WP_skip) | (with_reducible apply WP_block) | (with_reducible apply WP_exit) | (with_reducible apply WP_ret) | (refine WP_drawn (id := 5) [0, 1, 2, 3, 4, 5, 6, 7, 8] [] (k := 0) prog_mixed (by kernel_rfl) rfl ?_; (first | (refine Zew rfl (Val_loadDN rfl (h2 _ (by repeat (first | exact Wk.refl _ | apply Wk.keep1 | apply Wk.drop | apply Wk.sv | apply Wk.svD | apply Wk.appD))).1 rfl) ?_) | (refine Zew rfl Zla ?_)); refine Zew rfl Zmv ?_; refine Zew rfl Zmi ?_; (first | (refine Zew rfl (Val_indexAddr rfl rfl rfl hkl) ?_) | (refine Zew rfl Zia ?_)); (first | (refine Zew rfl (Val_loadDN rfl (h2 _ (by repeat (first | exact Wk.refl _ | apply Wk.keep1 | apply Wk.drop | apply Wk.sv | apply Wk.svD | apply Wk.appD))).1 rfl) ?_) | (refine Zew rfl Zla ?_)); refine Zew rfl Zmi ?_; refine Zec rfl (Enters_fn rfl) (fun X => hcall _ (by repeat (first | exact Wk.refl _ | apply Wk.keep1 | apply Wk.drop | apply Wk.sv | apply Wk.svD | apply Wk.appD))) ?_; refine Zew rfl Zmi ?_; refine Zew rfl Zyeql ?_)) | (with_reducible apply EWalk_nil) | (refine AnyO_done (by kernel_rfl) ?_; (try with_reducible apply noP_normal); try with_reducible exact key.out) | (refine Zhn ?_) | (with_reducible apply QBlock_normal) | (refine Zhx ?_) | (with_reducible apply QBlock_hit) | (refine Zqb ?_) | (with_reducible apply QLoop_exit) | (refine Zhr ?_) | (with_reducible apply QBlock_ret) | (with_reducible apply QLoop_ret) | (refine AWalk_0 ?_; refine ZisO ?_) | (with_reducible apply QAny_normal))
      all_goals exact QLoop_normal (k + 1) (.cons rfl (.cons (by rw [hst]; rfl) .nil)) (by repeat (first | exact Off.frame rfl | exact Off.refl _ _ | refine Off.frameT rfl rfl ?_ | refine Off.upd rfl ?_ | refine Off.updO rfl ?_)) (by repeat (first | exact Wk.refl _ | apply Wk.keep1 | apply Wk.drop | apply Wk.sv | apply Wk.svD | apply Wk.appD)) (by omega) (by omega)
  · have hke : k = T.length := by omega
    subst hke
    rw [List.take_length]
    repeat' (first | (refine GiP ?_; first | (refine Znh ?_) | (with_reducible refine Znl ?_)) | (refine GiW ?_; first | (refine Zsq fun K hK => ?_) | (refine ZrN 3 fun _ => ?_; refine Zv Zmi ?_; refine Zv Zmv ?_; refine Zv Zxlen ?_; refine Zv Zylss ?_) | (refine ZrN 7 fun _ => ?_; refine Zv Zmi ?_; refine Zv Zai ?_) | (refine WP_cond_true rfl ?_) | (refine WP_cond_false rfl ?_) | (refine Zcd (fun hc => ?_) (fun hc => ?_) <;> (try (exfalso; omega))) | (with_reducible apply WP_skip) | (with_reducible apply WP_block) | (with_reducible apply WP_exit) | (with_reducible apply WP_ret)) | (refine Zhn ?_) | (with_reducible apply QBlock_normal) | (refine Zhx ?_) | (with_reducible apply QBlock_hit) | (refine Zqb ?_) | (with_reducible apply QLoop_exit) | (refine Zhr ?_) | (with_reducible apply QBlock_ret) | (with_reducible apply QLoop_ret))
    exact QBody_ret1 rfl (rfl : _ = Value.int _ _) ⟨rfl, (by repeat (first | exact Wk.refl _ | apply Wk.keep1 | apply Wk.drop | apply Wk.sv | apply Wk.svD | apply Wk.appD))⟩
end
end Go.Proofs.Ytakmopiceopcpaa
end

section
namespace Go.Proofs.Ytakmopiceopcpaa
open Go.RowKit
theorem errT_zero {d : Bn} {ok : Bool} (h : errT d ok = 0) : vB d = true ∧ ok = true ∧ 0 < (trL d).length := by
  unfold errT at h
  by_cases h1 : vB d = true
  · rw [if_pos h1] at h
    by_cases h2 : ok = true
    · rw [if_pos h2] at h
      by_cases h3 : (trL d).length = 0
      · rw [if_pos h3] at h; omega
      · exact ⟨h1, h2, by omega⟩
    · rw [if_neg h2] at h; omega
  · rw [if_neg h1] at h; omega
theorem errT_bd (d : Bn) (ok : Bool) : 0 ≤ errT d ok ∧ errT d ok ≤ 10 := by
  unfold errT
  split
  · split
    · split <;> omega
    · omega
  · omega
theorem bits_add {f f' : Nat → Bool} {o : Nat} (h : ∀ j, f' j = (f j || decide (j = o))) : ∀ M, o < M → bitsOf f' M = if f o then bitsOf f M else bitsOf f M + 2 ^ o := by
  have hlow : ∀ M, M ≤ o → bitsOf f' M = bitsOf f M := by
    intro M
    induction M with
    | zero => intro _; rfl
    | succ M ih =>
      intro hM
      unfold bitsOf
      rw [ih (by omega), h M, decide_eq_false (by omega), Bool.or_false]
  intro M
  induction M with
  | zero => intro h0; omega
  | succ M ih =>
    intro hM
    unfold bitsOf
    by_cases hMo : M = o
    · subst hMo
      rw [hlow M (Nat.le_refl _), h M, decide_eq_true rfl, Bool.or_true]
      cases f M <;> simp
    · rw [ih (by omega), h M, decide_eq_false hMo, Bool.or_false]
      split <;> omega
theorem bits_none {f : Nat → Bool} (h : ∀ j, f j = false) : ∀ {M : Nat}, bitsOf f M = 0
  | 0 => rfl
  | M + 1 => by unfold bitsOf; rw [bits_none h, h M]; rfl
theorem who_step {d : Bn} {p : Int} {T : List (List Sp)} {k : Nat} (hk : k < T.length) {o : Nat} (ho : ownX d T[k] p = (o : Int)) (j : Nat) : decide (0 < cntO d p (j : Int) (T.take (k + 1))) = (decide (0 < cntO d p (j : Int) (T.take k)) || decide (j = o)) := by
  rw [List.take_succ_eq_append_getElem hk, cntO_snoc, ho]
  by_cases h : j = o
  · subst h; rw [if_pos rfl]; simp
  · rw [if_neg (by omega)]; simp [h]
def wdF (d : Bn) (h : Int) (T : List (List Sp)) (k : Nat) : Cn := (T.take k).foldl (cnS d h 0) ⟨0, 0, d.n, 0⟩
theorem wdF_succ {d : Bn} {h : Int} {T : List (List Sp)} {k : Nat} (hk : k < T.length) (hr : rightX d T[k] = true) : (wdF d h T (k + 1)).lo = min (wdF d h T k).lo (cntX d h T[k]) ∧ (wdF d h T (k + 1)).hi = max (wdF d h T k).hi (cntX d h T[k]) := by
  unfold wdF
  rw [List.take_succ_eq_append_getElem hk, List.foldl_append]
  show (cnS d h 0 _ T[k]).lo = _ ∧ (cnS d h 0 _ T[k]).hi = _
  unfold cnS
  rw [if_pos hr]
  exact ⟨rfl, rfl⟩
theorem wdF_bd {d : Bn} (v : VB d) (h : Int) (T : List (List Sp)) (k : Nat) : (0 ≤ (wdF d h T k).lo ∧ (wdF d h T k).lo ≤ d.n) ∧ 0 ≤ (wdF d h T k).hi ∧ (wdF d h T k).hi ≤ d.n := by
  have hn := v.n
  obtain ⟨i1, i2, ⟨i3, i4, i5⟩, i6, i7, i8⟩ := cn_fold d h 0 (T.take k) ⟨0, 0, d.n, 0⟩
  unfold wdF
  dsimp only at i3 i5 i6 i8
  refine ⟨⟨?_, i3⟩, i6, ?_⟩
  · clear i8
    rcases i5 with h5 | ⟨x, _, h5⟩
    · omega
    · rw [h5]; exact (cntX_bd (by omega) h x).1
  · clear i5
    rcases i8 with h5 | ⟨x, _, h5⟩
    · omega
    · rw [h5]; exact (cntX_bd (by omega) h x).2
theorem right_tr {d : Bn} {x : List Sp} (h : x ∈ trL d) : rightX d x = true := (List.mem_filter.1 h).2
theorem wdF_all {d : Bn} (v : VB d) (h : Int) (h0 : 0 < (trL d).length) : wideS d h = ((wdF d h (trL d) (trL d).length).lo, (wdF d h (trL d) (trL d).length).hi) := by
  have hn := v.n
  have hw : wdF d h (trL d) (trL d).length = (trL d).foldl (cnS d h 0) ⟨0, 0, d.n, 0⟩ := by unfold wdF; rw [List.take_length]
  obtain ⟨_, _, ⟨i3, i4, i5⟩, i6, i7, i8⟩ := cn_fold d h 0 (trL d) ⟨0, 0, d.n, 0⟩
  have hfil : (trL d).filter (rightX d) = trL d := List.filter_eq_self.2 fun x hx => right_tr hx
  rw [hfil] at i4 i5 i7 i8
  rw [← hw] at i3 i4 i5 i6 i7 i8
  dsimp only at i3 i5 i6 i8
  obtain ⟨x0, hx0⟩ : ∃ x, x ∈ trL d := by
    cases hl : trL d with
    | nil => rw [hl] at h0; cases h0
    | cons a l => exact ⟨a, .head _⟩
  have hb := fun x => cntX_bd (d := d) (by omega) h x
  generalize wdF d h (trL d) (trL d).length = F at i3 i4 i5 i6 i7 i8 ⊢
  have ha : F.lo ∈ (trL d).map (cntX d h) := by
    clear i8
    rcases i5 with h5 | ⟨x, hx, h5⟩
    · have h6 := i4 x0 hx0
      have h7 := hb x0
      exact List.mem_map.2 ⟨x0, hx0, by omega⟩
    · exact List.mem_map.2 ⟨x, hx, h5.symm⟩
  have hc : F.hi ∈ (trL d).map (cntX d h) := by
    clear i5
    rcases i8 with h5 | ⟨x, hx, h5⟩
    · have h6 := i7 x0 hx0
      have h7 := hb x0
      exact List.mem_map.2 ⟨x0, hx0, by omega⟩
    · exact List.mem_map.2 ⟨x, hx, h5.symm⟩
  unfold wideS
  rw [tl_eq ha (fun y hy => by obtain ⟨x, hx, rfl⟩ := List.mem_map.1 hy; exact i4 x hx) hc (fun y hy => by obtain ⟨x, hx, rfl⟩ := List.mem_map.1 hy; exact i7 x hx)]
def cntL (d : Bn) (p : Int) (T : List (List Sp)) : Nat := (T.filter (lineX d p)).length
theorem cntL_snoc (d : Bn) (p : Int) (T : List (List Sp)) (x : List Sp) : cntL d p (T ++ [x]) = cntL d p T + if lineX d p x = true then 1 else 0 := by
  unfold cntL
  rw [List.filter_append, List.length_append]
  congr 1
  by_cases h : lineX d p x = true
  · rw [if_pos h, List.filter_cons, if_pos h]; rfl
  · rw [if_neg h, List.filter_cons, if_neg h]; rfl
theorem cntL_le (d : Bn) (p : Int) (T : List (List Sp)) : cntL d p T ≤ T.length := List.length_filter_le _ _
theorem line_cases {d : Bn} {p : Int} (hp : 1 ≤ p ∧ p < d.n) : (cntL d p (trL d) = (trL d).length ∧ lineS d p = 2) ∨ (cntL d p (trL d) ≠ (trL d).length ∧ cntL d p (trL d) = 0 ∧ lineS d p = 0) ∨ (cntL d p (trL d) ≠ (trL d).length ∧ cntL d p (trL d) ≠ 0 ∧ lineS d p = 1) := by
  have h2 := line_ways hp true
  have h3 := line_ways hp false
  have e2 : (fun x => lineX d p x == true) = lineX d p := by funext x; cases lineX d p x <;> rfl
  have e3 : (fun x => lineX d p x == false) = fun x => !(lineX d p x) := by funext x; cases lineX d p x <;> rfl
  rw [e2] at h2
  rw [e3] at h3
  have h4 := filter_two (lineX d p) (trL d)
  have h5 : cntL d p (trL d) = ((trL d).filter (lineX d p)).length := rfl
  unfold lineS
  by_cases a : waysN d [.line p false] = 0
  · rw [if_pos a]; exact .inl ⟨by omega, rfl⟩
  · rw [if_neg a]
    by_cases b : waysN d [.line p true] = 0
    · rw [if_pos b]; exact .inr (.inl ⟨by omega, by omega, rfl⟩)
    · rw [if_neg b]; exact .inr (.inr ⟨by omega, by omega, rfl⟩)
attribute [local irreducible] AnyO AnyB QAny QB EWalk AWalk Ev WP OPS QThen QBlock QScope QLoop QBody Val New Turn Tri Enters PostA Blk Ro
attribute [local irreducible] AnyC QC
section
variable (N : Nat) (w0 : World)
theorem most_ref (L : Hp) (g : Fg) (hA : BkAt N w0 g) (hv : VB g.d) (A : Option Addr) (c : Nat) (hT : RdT N w0 L A (trL g.d)) (p : Nat) (hp : (p : Int) < g.d.n) :
    Ret Try.prog N w0 L 77 [bkV g, .slice A (trL g.d).length c, .int .i64 (p : Int)].toArray (.int .i64 ((mostS g.d p : Nat) : Int)) := by
  have hmb := hv.m
  have hmn := fun L' (k : Wk L' L) o => many_ref N w0 L' g hA hv (trL g.d) A c (hT.wk k) (fun x hx => trL_len hx) (tr_bd hv) (p : Int) o
  simp only [cntO_ways ⟨Int.natCast_nonneg p, hp⟩] at hmn
  have hbd := fun k => mostF_bd hv (p : Int) k
  have hwb := fun o => ways_bd hv [.mine (p : Int) o]
  have hfin : mostS g.d p = mostF g.d p (g.d.m.toNat + 1) := rfl
  have hms := fun k => show mostF g.d (p : Int) (k + 1) = max (mostF g.d p k) (waysN g.d [.mine p k]) from rfl
  rw [hfin]
  refine Ret.fgt ?_
  refine tri_of_WP Try.func77 rfl (n := _) rfl (by simp) ?_
  unfold bkV bkL at hmn ⊢
  obtain ⟨m, hm⟩ : ∃ m : Nat, g.d.m = m := ⟨g.d.m.toNat, by omega⟩
  rw [hm] at hmn ⊢
  rw [show ((m : Nat) : Int).toNat + 1 = m + 1 by omega]
  repeat' (first | (refine GiP ?_; first | (refine Znh ?_) | (with_reducible refine Znl ?_)) | (refine GiW ?_; first | (refine Zsq fun K hK => ?_) | (refine ZrN 0 fun _ => ?_; refine Zal 3 fun b3 => ?_; refine Zv Zai ?_) | (refine ZrN 1 fun _ => ?_; refine Zv Zai ?_) | (refine ZrN 2 fun _ => ?_; refine Zv Zai ?_) | (refine WP_cond_true rfl ?_) | (refine WP_cond_false rfl ?_) | (refine Zcd (fun hc => ?_) (fun hc => ?_) <;> (try (exfalso; omega))) | (with_reducible apply WP_skip) | (with_reducible apply WP_block) | (with_reducible apply WP_exit) | (with_reducible apply WP_ret)) | (refine Zhn ?_) | (with_reducible apply QBlock_normal) | (refine Zhx ?_) | (with_reducible apply QBlock_hit) | (refine Zqb ?_) | (with_reducible apply QLoop_exit) | (refine Zhr ?_) | (with_reducible apply QBlock_ret) | (with_reducible apply QLoop_ret))
  refine WP_loop [7, 8, 9, 10, 11, 12, 13, 14, 15, 16, 17, 18, 19, 20, 21] (fun k : Nat => [(8, .int .i64 (k : Int)), (7, .int .i64 ((mostF g.d (p : Int) k : Nat) : Int))]) (fun _ => _) (fun k => k ≤ m + 1) (fun k => m + 1 - k) 0 (.cons rfl (.cons rfl .nil)) (Wk.refl _) (Nat.zero_le _) ?_
  intro k j hk
  by_cases hkl : k < m + 1
  · have h1 := hms k
    have h2 := hbd k
    have h3 := hwb (k : Int)
    have hc := fun L' h => hmn L' h (k : Int)
    obtain ⟨q, hq⟩ : ∃ q, mostF g.d (p : Int) k = q := ⟨_, rfl⟩
    obtain ⟨z, hz⟩ : ∃ z, waysN g.d [.mine (p : Int) k] = z := ⟨_, rfl⟩
    rw [hq] at h1 h2 ⊢
    rw [hz] at h1 h3 hc
    have hnx : max (q : Int) (z : Int) = ((mostF g.d (p : Int) (k + 1) : Nat) : Int) := by rw [h1]; omega
    repeat' (first | (refine GiP ?_; first | (refine Znh ?_) | (with_reducible refine Znl ?_)) | (refine GiW ?_; first | (refine Zsq fun K hK => ?_) | (refine ZrN 3 fun _ => ?_; refine Zv Zmi ?_; refine Zv Zfa ?_; refine Zv Zld ?_; refine Zv Zyleq ?_) | (refine ZrN 5 fun _ => ?_; refine Zv Zmi ?_; refine Zv Zla ?_; refine Zv Zmv ?_; refine Zv Zmi ?_; refine Zv Zmi ?_; refine Zcl (Enters_fn rfl) (hc _ (by repeat (first | exact Wk.refl _ | apply Wk.keep1 | apply Wk.drop | apply Wk.sv | apply Wk.svD | apply Wk.appD))) ?_; refine Zv Zxmax ?_; refine Zv Zai ?_) | (refine ZrN 4 fun _ => ?_; refine Zv Zmi ?_; refine Zv Zxadd ?_; refine Zv Zai ?_) | (refine WP_cond_true rfl ?_) | (refine WP_cond_false rfl ?_) | (refine Zcd (fun hc => ?_) (fun hc => ?_) <;> (try (exfalso; omega))) | (with_reducible apply WP_skip) | (with_reducible apply WP_block) | (with_reducible apply WP_exit) | (with_reducible apply WP_ret)) | (refine Zhn ?_) | (with_reducible apply QBlock_normal) | (refine Zhx ?_) | (with_reducible apply QBlock_hit) | (refine Zqb ?_) | (with_reducible apply QLoop_exit) | (refine Zhr ?_) | (with_reducible apply QBlock_ret) | (with_reducible apply QLoop_ret))
    all_goals exact QLoop_normal (k + 1) (.cons rfl (.cons (congrArg (Value.int .i64) hnx) .nil)) (by repeat (first | exact Off.frame rfl | exact Off.refl _ _ | refine Off.frameT rfl rfl ?_ | refine Off.upd rfl ?_ | refine Off.updO rfl ?_)) (by repeat (first | exact Wk.refl _ | apply Wk.keep1 | apply Wk.drop | apply Wk.sv | apply Wk.svD | apply Wk.appD)) (by omega) (by omega)
  · have hke : k = m + 1 := by omega
    subst hke
    repeat' (first | (refine GiP ?_; first | (refine Znh ?_) | (with_reducible refine Znl ?_)) | (refine GiW ?_; first | (refine Zsq fun K hK => ?_) | (refine ZrN 3 fun _ => ?_; refine Zv Zmi ?_; refine Zv Zfa ?_; refine Zv Zld ?_; refine Zv Zyleq ?_) | (refine ZrN 6 fun _ => ?_; refine Zv Zmi ?_; refine Zv Zai ?_) | (refine WP_cond_true rfl ?_) | (refine WP_cond_false rfl ?_) | (refine Zcd (fun hc => ?_) (fun hc => ?_) <;> (try (exfalso; omega))) | (with_reducible apply WP_skip) | (with_reducible apply WP_block) | (with_reducible apply WP_exit) | (with_reducible apply WP_ret)) | (refine Zhn ?_) | (with_reducible apply QBlock_normal) | (refine Zhx ?_) | (with_reducible apply QBlock_hit) | (refine Zqb ?_) | (with_reducible apply QLoop_exit) | (refine Zhr ?_) | (with_reducible apply QBlock_ret) | (with_reducible apply QLoop_ret))
    exact QBody_ret1 rfl (rfl : _ = Value.int _ _) ⟨rfl, (by repeat (first | exact Wk.refl _ | apply Wk.keep1 | apply Wk.drop | apply Wk.sv | apply Wk.svD | apply Wk.appD))⟩
set_option maxHeartbeats 4000000 in
theorem rWhose_ret (L : Hp) (g : Fg) (hA : BkAt N w0 g) (hf : farB g.d = false) (p : Int) (hbn : -1000000 ≤ g.d.n ∧ g.d.n ≤ 1000000) :
    Ret Try.prog N w0 L 16 [bkV g, .int .i64 p].toArray (.tuple [.int .i64 ((WhoseV g.d p : Nat) : Int), .int .i64 (errT g.d (inB p 0 (g.d.n - 1)))].toArray) := by
  have hok9 := fun L => rperch_ret N w0 L g p hbn
  have hto := fun L ok => told_ref N w0 L g hA hf ok
  obtain ⟨ok, hok⟩ : ∃ ok, (inB p 0 (g.d.n - 1)) = ok := ⟨_, rfl⟩
  rw [hok] at hok9 ⊢
  have hto2 := fun L => hto L ok
  obtain ⟨e, he⟩ : ∃ e, errT g.d ok = e := ⟨_, rfl⟩
  rw [he] at hto2 ⊢
  refine Ret.fgt ?_
  refine tri_of_WP Try.func16 rfl (n := _) rfl (by simp) ?_
  by_cases h0 : e = 0
  · subst h0
    obtain ⟨hvb, rfl, hpos⟩ := errT_zero he
    have hv := VB_of hvb
    have hnb := hv.n
    have hmb := hv.m
    have hnl := hv.nl
    have hto3 := fun L => (hto2 L).mono (R' := fun x L2 => ∃ v, x = .returned v ∧ ∃ A c X, v = .tuple [.slice A (trL g.d).length c, .int .i64 0].toArray ∧ L2 = X ++ L ∧ RdLL X (.slice A (trL g.d).length c) (trL g.d)) (by rintro y L2 ⟨v, rfl, A, n, c, X, rfl, rfl, h⟩; obtain ⟨rfl, h2⟩ := h rfl; exact ⟨_, rfl, A, c, X, rfl, rfl, h2⟩)
    clear hto hto2
    have hcnt := tr_bd hv
    have hof := fun L' x hx A1 A2 c1 c2 h1 h2 p => of_ref N w0 L' g hA hv x hx A1 A2 c1 c2 h1 h2 p
    have hmn := fun L' A c (hT : RdT N w0 L' A (trL g.d)) p o => many_ref N w0 L' g hA hv (trL g.d) A c hT (fun x hx => trL_len hx) (tr_bd hv) p o
    have hmo := fun L' A c (hT : RdT N w0 L' A (trL g.d)) p hp => most_ref N w0 L' g hA hv A c hT p hp
    have hlen := fun x (hx : x ∈ trL g.d) => trL_len hx
    obtain ⟨n, hn⟩ : ∃ n : Nat, g.d.n = n := ⟨g.d.n.toNat, by omega⟩
    obtain ⟨m, hm⟩ : ∃ m : Nat, g.d.m = m := ⟨g.d.m.toNat, by omega⟩
    have hz : WhoseV g.d p = whoS g.d p := by unfold WhoseV; rw [hok, he]; rfl
    rw [hz]
    have hpr : 0 ≤ p ∧ p < g.d.n := by
      unfold inB at hok
      rw [decide_eq_true_eq] at hok
      omega
    have hwf : whoS g.d p = bitsOf (fun h : Nat => decide (0 < cntO g.d p (h : Int) ((trL g.d).take (trL g.d).length))) (g.d.m.toNat + 1) := by
      unfold whoS
      rw [List.take_length]
      congr 1
      funext h
      rw [cntO_ways hpr]
    rw [hwf]
    have hrg := fun x => ownX_range hv x p
    unfold bkV bkL at hok9 hto3 hof hmn hmo ⊢
    rw [hn, hm] at hok9 hto3 hof hmn hmo ⊢
    obtain ⟨T, hT⟩ : ∃ T, trL g.d = T := ⟨_, rfl⟩
    simp only [hT] at hto3 hmn hmo hlen
    rw [hT] at hpos hcnt
    repeat' (first | (refine GiP ?_; first | (refine Znh ?_) | (with_reducible refine Znl ?_) | (refine Zatd 16 ?_; refine OPS_retKS (Enters_fn rfl) (hto3 _) rfl rfl rfl (fun v15 L15 h15 => ?_); obtain ⟨A9, c9, X9, rfl, rfl, hr9⟩ := h15) | (refine Zatd 11 ?_; refine Zv Zmv ?_) | (refine Zatd 17 ?_; refine Zv Zxex ?_) | (refine Zatd 18 ?_; refine Zv Zxex ?_) | (refine Zatd 6 ?_; refine Zv Zav ?_) | (refine Zatd 7 ?_; refine Zv Zai ?_)) | (refine GiW ?_; first | (refine Zsq fun K hK => ?_) | (refine ZrN 0 fun _ => ?_; refine Zal 2 fun b2 => ?_; refine Zv Zai ?_; refine Zv Zai ?_) | (refine WP_cond_true rfl ?_) | (refine WP_cond_false rfl ?_) | (refine Zcd (fun hc => ?_) (fun hc => ?_) <;> (try (exfalso; omega))) | (with_reducible apply WP_skip) | (with_reducible apply WP_block) | (with_reducible apply WP_exit) | (with_reducible apply WP_ret) | (refine WP_drawnS (id := 1) [] [0, 1, 2, 3] [] [] (k := 0) (k2 := 6) (by repeat (first | apply Sub.sv | apply Sub.keep | apply Sub.appK | exact Sub.refl _)) (by kernel_rfl) prog_mixed (by kernel_rfl) (by kernel_rfl) rfl ?_; refine Zew rfl Zla ?_; refine Zew rfl Zla ?_; refine Zew rfl Zmi ?_; refine Zec rfl (Enters_fn rfl) (fun X => hok9 _) ?_)) | (with_reducible apply EWalk_nil) | (refine ZgC [0, 1, 2, 3] ?_; refine ZCl _ ?_) | (refine GiO ?_; first | (refine ZgO [0, 1, 2, 3] ?_; refine ZO1 _ 4 [0, 1, 2, 3, 4] ?_) | (refine ZgO [0, 1, 2, 3, 4] ?_; refine ZO1 _ 5 [0, 1, 2, 3, 4, 5] ?_) | (refine ZgO [0, 1, 2, 3, 4, 5] ?_; refine ZO2 _ 6 [0, 1, 2, 3, 4, 5, 6] 7 [0, 1, 2, 3, 4, 5, 7] ?_ ?_) | (refine ZgO [0, 1, 2, 3, 4, 5, 6] ?_; refine ZO2 _ 7 [0, 1, 2, 3, 4, 5, 6, 7] 8 [0, 1, 2, 3, 4, 5, 6, 8] ?_ ?_) | (refine ZgO [0, 1, 2, 3, 4, 5, 6, 7] ?_; refine ZO1 _ 8 [0, 1, 2, 3, 4, 5, 6, 7, 8] ?_) | (refine ZgO [0, 1, 2, 3, 4, 5, 6, 7, 8] ?_; refine ZO1 _ 9 [0, 1, 2, 3, 4, 5, 6, 7, 8, 9] ?_) | (refine ZgO [0, 1, 2, 3, 4, 5, 6, 7, 8, 9] ?_; refine ZOd _ ?_; (try with_reducible apply noP_normal); (try with_reducible exact key.out)) | (refine ZgO [0, 1, 2, 3, 4, 5, 6, 8] ?_; refine ZO1 _ 7 [0, 1, 2, 3, 4, 5, 6, 7, 8] ?_) | (refine ZgO [0, 1, 2, 3, 4, 5, 7] ?_; refine ZO1 _ 6 [0, 1, 2, 3, 4, 5, 6, 7] ?_)) | (refine Zhn ?_) | (with_reducible apply QBlock_normal) | (refine Zhx ?_) | (with_reducible apply QBlock_hit) | (refine Zqb ?_) | (with_reducible apply QLoop_exit) | (refine Zhr ?_) | (with_reducible apply QBlock_ret) | (with_reducible apply QLoop_ret) | (refine AWalk_0 ?_) | (with_reducible apply QAny_normal) | (with_reducible apply QC_normal))
    all_goals
      obtain ⟨H, hH⟩ : ∃ H, X9 ++ ((b2, Blk 25 [.int .i64 n, .int .i64 m, .slice g.A1 g.d.ls.length g.c1, .slice g.A2 g.d.ms.length g.c2]) :: L) = H := ⟨_, rfl⟩
      have hrt : RdT N w0 H A9 T := by rw [← hH]; exact hr9.rdT (Wk.appR X9 _)
      have m2 : Mem b2 (Blk 25 [.int .i64 n, .int .i64 m, .slice g.A1 g.d.ls.length g.c1, .slice g.A2 g.d.ms.length g.c2]) H := by rw [← hH]; exact .app X9 (by repeat (first | exact Mem.here | assumption | apply Mem.there | apply Mem.sv | apply Mem.app))
      have hWH : Wk H L := by rw [← hH]; exact (Wk.app X9 _).trans (.drop (.refl _))
      have hmn2 := fun L' (k : Wk L' H) p o => hmn L' A9 c9 (hrt.wk k) p o
      have hmo2 := fun L' (k : Wk L' H) p hp => hmo L' A9 c9 (hrt.wk k) p hp
      rw [List.nil_append, hH]
      rw [show ((m : Nat) : Int).toNat + 1 = m + 1 by omega] at *
      rw [hm] at hrg
      repeat' (first | (refine GiP ?_; first | (refine Znh ?_) | (with_reducible refine Znl ?_)) | (refine GiW ?_; first | (refine Zsq fun K hK => ?_) | (refine ZrN 2 fun _ => ?_; refine Zv Zmi ?_; refine Zv Zyneq ?_) | (refine ZrN 4 fun _ => ?_; refine Zv Zai ?_) | (refine ZrN 5 fun _ => ?_; refine Zv Zai ?_) | (refine WP_cond_true rfl ?_) | (refine WP_cond_false rfl ?_) | (refine Zcd (fun hc => ?_) (fun hc => ?_) <;> (try (exfalso; omega))) | (with_reducible apply WP_skip) | (with_reducible apply WP_block) | (with_reducible apply WP_exit) | (with_reducible apply WP_ret)) | (refine Zhn ?_) | (with_reducible apply QBlock_normal) | (refine Zhx ?_) | (with_reducible apply QBlock_hit) | (refine Zqb ?_) | (with_reducible apply QLoop_exit) | (refine Zhr ?_) | (with_reducible apply QBlock_ret) | (with_reducible apply QLoop_ret))
      refine WP_loop [8, 9, 10, 22, 23, 24, 25, 26, 27, 28, 29, 30, 31, 32, 33, 34, 35, 36, 37, 38, 39, 40, 41, 42] (fun k : Nat => [(8, .int .i64 ((bitsOf (fun h : Nat => decide (0 < cntO g.d p (h : Int) (T.take k))) (m + 1) : Nat) : Int)), (9, .int .i64 (k : Int))]) (fun _ => H) (fun k => k ≤ T.length) (fun k => T.length - k) 0 (.cons (by show Value.int .i64 _ = Value.int .i64 _; rw [show (bitsOf (fun h : Nat => decide (0 < cntO g.d p (h : Int) (T.take 0))) (m + 1)) = 0 from bits_none fun j => by simp [cntO]]; rfl) (.cons rfl .nil)) (Wk.refl _) (Nat.zero_le _) ?_
      intro k j hk
      by_cases hkl : k < T.length
      · obtain ⟨b, A1, c1, A2, c2, rfl, h2⟩ := hrt k hkl
        have hl := hlen _ (List.getElem_mem hkl)
        have hx1 := hrg T[k]
        obtain ⟨o, ho⟩ : ∃ o : Nat, ownX g.d T[k] p = (o : Int) := ⟨(ownX g.d T[k] p).toNat, by omega⟩
        rw [ho] at hx1
        have hst := bits_add (fun j => who_step (d := g.d) (p := p) hkl ho j) (m + 1) (by omega)
        have hob := bitsOf_lt (fun h : Nat => decide (0 < cntO g.d p (h : Int) (T.take k))) (m + 1)
        have hbt := bitsOf_bit (fun h : Nat => decide (0 < cntO g.d p (h : Int) (T.take k))) o (m + 1)
        have hp5 : 2 ^ (m + 1) ≤ 2 ^ 5 := Nat.pow_le_pow_right (by omega) (by omega)
        have hcall := fun L' (h : Wk L' H) => hof L' T[k] hl A1 A2 c1 c2 (h2 L' h).2.1 (h2 L' h).2.2 p
        rw [ho] at hcall
        have h21 := fun L' h => (h2 L' h).1
        rw [hl] at h21 hcall
        obtain ⟨q, hq⟩ : ∃ q, bitsOf (fun h : Nat => decide (0 < cntO g.d p (h : Int) (T.take k))) (m + 1) = q := ⟨_, rfl⟩
        rw [hq] at hst hob hbt ⊢
        have hhas := fun L => has_ret N w0 L q o (by omega) (by omega)
        have hpw := fun L => power_ret N w0 L o (by omega)
        have hpb : 2 ^ o ≤ 2 ^ 5 := Nat.pow_le_pow_right (by omega) (by omega)
        obtain ⟨pw, hpw9⟩ : ∃ z, 2 ^ o = z := ⟨_, rfl⟩
        rw [hpw9] at hpb hpw hst
        obtain ⟨bt, hbt9⟩ : ∃ bt, decide (0 < cntO g.d p (o : Int) (T.take k)) = bt := ⟨_, rfl⟩
        rw [hbt9] at hst
        have hhe : hasB q o = bt := by
          unfold hasB
          rw [Bool.eq_iff_iff, decide_eq_true_eq, hbt, ← hbt9]
          exact ⟨fun h => h.2, fun h => ⟨by omega, h⟩⟩
        rw [hhe] at hhas
        clear hbt hhe hbt9 hof hmn2 hmo2
        cases bt with
        | true =>
          rw [if_pos rfl] at hst
          repeat' (first | (refine GiP ?_; first | (refine Znh ?_) | (with_reducible refine Znl ?_)) | (refine GiW ?_; first | (refine Zsq fun K hK => ?_) | (refine ZrN 6 fun _ => ?_; refine Zv Zmi ?_; refine Zv Zmv ?_; refine Zv Zxlen ?_; refine Zv Zylss ?_) | (refine ZrN 9 fun _ => ?_; refine Zv Zmi ?_; refine Zv Zmi ?_; refine Zcl (Enters_fn rfl) (hhas _) ?_; refine Zv Zxnot ?_) | (refine ZrN 7 fun _ => ?_; refine Zv Zmi ?_; refine Zv Zxadd ?_; refine Zv Zai ?_) | (refine WP_cond_true rfl ?_) | (refine WP_cond_false rfl ?_) | (refine Zcd (fun hc => ?_) (fun hc => ?_) <;> (try (exfalso; omega))) | (with_reducible apply WP_skip) | (with_reducible apply WP_block) | (with_reducible apply WP_exit) | (with_reducible apply WP_ret) | (refine WP_drawn (id := 8) [0, 1, 2, 3, 4, 5, 6, 7] [] (k := 0) prog_mixed (by kernel_rfl) rfl ?_; (first | (refine Zew rfl (Val_loadDN rfl (h21 _ (by repeat (first | exact Wk.refl _ | apply Wk.keep1 | apply Wk.drop | apply Wk.sv | apply Wk.svD | apply Wk.appD))) rfl) ?_) | (refine Zew rfl Zla ?_)); refine Zew rfl Zmv ?_; refine Zew rfl Zmi ?_; (first | (refine Zew rfl (Val_indexAddr rfl rfl rfl hkl) ?_) | (refine Zew rfl Zia ?_)); (first | (refine Zew rfl (Val_loadDN rfl (h21 _ (by repeat (first | exact Wk.refl _ | apply Wk.keep1 | apply Wk.drop | apply Wk.sv | apply Wk.svD | apply Wk.appD))) rfl) ?_) | (refine Zew rfl Zla ?_)); refine Zew rfl Zmi ?_; refine Zec rfl (Enters_fn rfl) (fun X => hcall _ (by repeat (first | exact Wk.refl _ | apply Wk.keep1 | apply Wk.drop | apply Wk.sv | apply Wk.svD | apply Wk.appD))) ?_; refine Zew rfl Zai ?_)) | (with_reducible apply EWalk_nil) | (refine AnyO_done (by kernel_rfl) ?_; (try with_reducible apply noP_normal); try with_reducible exact key.out) | (refine Zhn ?_) | (with_reducible apply QBlock_normal) | (refine Zhx ?_) | (with_reducible apply QBlock_hit) | (refine Zqb ?_) | (with_reducible apply QLoop_exit) | (refine Zhr ?_) | (with_reducible apply QBlock_ret) | (with_reducible apply QLoop_ret) | (refine AWalk_0 ?_; refine ZisO ?_) | (with_reducible apply QAny_normal))
          all_goals exact QLoop_normal (k + 1) (.cons (by rw [hst]; rfl) (.cons rfl .nil)) (by repeat (first | exact Off.frame rfl | exact Off.refl _ _ | refine Off.frameT rfl rfl ?_ | refine Off.upd rfl ?_ | refine Off.updO rfl ?_)) (by repeat (first | exact Wk.refl _ | apply Wk.keep1 | apply Wk.drop | apply Wk.sv | apply Wk.svD | apply Wk.appD)) (by omega) (by omega)
        | false =>
          rw [if_neg (by simp)] at hst
          have hnx : (q : Int) + (pw : Int) = ((bitsOf (fun h : Nat => decide (0 < cntO g.d p (h : Int) (T.take (k + 1)))) (m + 1) : Nat) : Int) := by rw [hst]; omega
          repeat' (first | (refine GiP ?_; first | (refine Znh ?_) | (with_reducible refine Znl ?_)) | (refine GiW ?_; first | (refine Zsq fun K hK => ?_) | (refine ZrN 6 fun _ => ?_; refine Zv Zmi ?_; refine Zv Zmv ?_; refine Zv Zxlen ?_; refine Zv Zylss ?_) | (refine ZrN 9 fun _ => ?_; refine Zv Zmi ?_; refine Zv Zmi ?_; refine Zcl (Enters_fn rfl) (hhas _) ?_; refine Zv Zxnot ?_) | (refine ZrN 10 fun _ => ?_; refine Zv Zmi ?_; refine Zv Zmi ?_; refine Zcl (Enters_fn rfl) (hpw _) ?_; refine Zv Zxadd ?_; refine Zv Zai ?_) | (refine ZrN 7 fun _ => ?_; refine Zv Zmi ?_; refine Zv Zxadd ?_; refine Zv Zai ?_) | (refine WP_cond_true rfl ?_) | (refine WP_cond_false rfl ?_) | (refine Zcd (fun hc => ?_) (fun hc => ?_) <;> (try (exfalso; omega))) | (with_reducible apply WP_skip) | (with_reducible apply WP_block) | (with_reducible apply WP_exit) | (with_reducible apply WP_ret) | (refine WP_drawn (id := 8) [0, 1, 2, 3, 4, 5, 6, 7] [] (k := 0) prog_mixed (by kernel_rfl) rfl ?_; (first | (refine Zew rfl (Val_loadDN rfl (h21 _ (by repeat (first | exact Wk.refl _ | apply Wk.keep1 | apply Wk.drop | apply Wk.sv | apply Wk.svD | apply Wk.appD))) rfl) ?_) | (refine Zew rfl Zla ?_)); refine Zew rfl Zmv ?_; refine Zew rfl Zmi ?_; (first | (refine Zew rfl (Val_indexAddr rfl rfl rfl hkl) ?_) | (refine Zew rfl Zia ?_)); (first | (refine Zew rfl (Val_loadDN rfl (h21 _ (by repeat (first | exact Wk.refl _ | apply Wk.keep1 | apply Wk.drop | apply Wk.sv | apply Wk.svD | apply Wk.appD))) rfl) ?_) | (refine Zew rfl Zla ?_)); refine Zew rfl Zmi ?_; refine Zec rfl (Enters_fn rfl) (fun X => hcall _ (by repeat (first | exact Wk.refl _ | apply Wk.keep1 | apply Wk.drop | apply Wk.sv | apply Wk.svD | apply Wk.appD))) ?_; refine Zew rfl Zai ?_)) | (with_reducible apply EWalk_nil) | (refine AnyO_done (by kernel_rfl) ?_; (try with_reducible apply noP_normal); try with_reducible exact key.out) | (refine Zhn ?_) | (with_reducible apply QBlock_normal) | (refine Zhx ?_) | (with_reducible apply QBlock_hit) | (refine Zqb ?_) | (with_reducible apply QLoop_exit) | (refine Zhr ?_) | (with_reducible apply QBlock_ret) | (with_reducible apply QLoop_ret) | (refine AWalk_0 ?_; refine ZisO ?_) | (with_reducible apply QAny_normal))
          all_goals exact QLoop_normal (k + 1) (.cons (congrArg (Value.int .i64) hnx) (.cons rfl .nil)) (by repeat (first | exact Off.frame rfl | exact Off.refl _ _ | refine Off.frameT rfl rfl ?_ | refine Off.upd rfl ?_ | refine Off.updO rfl ?_)) (by repeat (first | exact Wk.refl _ | apply Wk.keep1 | apply Wk.drop | apply Wk.sv | apply Wk.svD | apply Wk.appD)) (by omega) (by omega)
      · have hke : k = T.length := by omega
        subst hke
        repeat' (first | (refine GiP ?_; first | (refine Znh ?_) | (with_reducible refine Znl ?_)) | (refine GiW ?_; first | (refine Zsq fun K hK => ?_) | (refine ZrN 6 fun _ => ?_; refine Zv Zmi ?_; refine Zv Zmv ?_; refine Zv Zxlen ?_; refine Zv Zylss ?_) | (refine ZrN 11 fun _ => ?_; refine Zv Zmi ?_; refine Zv Zai ?_; refine Zv Zai ?_) | (refine WP_cond_true rfl ?_) | (refine WP_cond_false rfl ?_) | (refine Zcd (fun hc => ?_) (fun hc => ?_) <;> (try (exfalso; omega))) | (with_reducible apply WP_skip) | (with_reducible apply WP_block) | (with_reducible apply WP_exit) | (with_reducible apply WP_ret)) | (refine Zhn ?_) | (with_reducible apply QBlock_normal) | (refine Zhx ?_) | (with_reducible apply QBlock_hit) | (refine Zqb ?_) | (with_reducible apply QLoop_exit) | (refine Zhr ?_) | (with_reducible apply QBlock_ret) | (with_reducible apply QLoop_ret))
        exact QBody_res rfl (.tmp (rfl : _ = Value.int _ _) (.tmp (rfl : _ = Value.int _ _) .nil)) rfl ⟨by rw [← hT]; rfl, hWH⟩
  · have heb := errT_bd g.d ok
    rw [he] at heb
    have hz : WhoseV g.d p = 0 := by unfold WhoseV; rw [hok, he, if_neg h0]
    rw [hz]
    unfold bkV bkL at hok9 hto2 ⊢
    repeat' (first | (refine GiP ?_; first | (refine Znh ?_) | (with_reducible refine Znl ?_) | (refine Zatd 16 ?_; refine OPS_retKS (Enters_fn rfl) (hto2 _) rfl rfl rfl (fun v15 L15 h15 => ?_); obtain ⟨A9, n9, c9, X9, rfl, rfl, hr9⟩ := h15) | (refine Zatd 11 ?_; refine Zv Zmv ?_) | (refine Zatd 17 ?_; refine Zv Zxex ?_) | (refine Zatd 18 ?_; refine Zv Zxex ?_) | (refine Zatd 6 ?_; refine Zv Zav ?_) | (refine Zatd 7 ?_; refine Zv Zai ?_)) | (refine GiW ?_; first | (refine Zsq fun K hK => ?_) | (refine ZrN 0 fun _ => ?_; refine Zal 2 fun b2 => ?_; refine Zv Zai ?_; refine Zv Zai ?_) | (refine ZrN 2 fun _ => ?_; refine Zv Zmi ?_; refine Zv Zyneq ?_) | (refine ZrN 3 fun _ => ?_; refine Zv Zmi ?_; refine Zv Zai ?_; refine Zv Zai ?_) | (refine WP_cond_true rfl ?_) | (refine WP_cond_false rfl ?_) | (refine Zcd (fun hc => ?_) (fun hc => ?_) <;> (try (exfalso; omega))) | (with_reducible apply WP_skip) | (with_reducible apply WP_block) | (with_reducible apply WP_exit) | (with_reducible apply WP_ret) | (refine WP_drawnS (id := 1) [] [0, 1, 2, 3] [] [] (k := 0) (k2 := 6) (by repeat (first | apply Sub.sv | apply Sub.keep | apply Sub.appK | exact Sub.refl _)) (by kernel_rfl) prog_mixed (by kernel_rfl) (by kernel_rfl) rfl ?_; refine Zew rfl Zla ?_; refine Zew rfl Zla ?_; refine Zew rfl Zmi ?_; refine Zec rfl (Enters_fn rfl) (fun X => hok9 _) ?_)) | (with_reducible apply EWalk_nil) | (refine ZgC [0, 1, 2, 3] ?_; refine ZCl _ ?_) | (refine GiO ?_; first | (refine ZgO [0, 1, 2, 3] ?_; refine ZO1 _ 4 [0, 1, 2, 3, 4] ?_) | (refine ZgO [0, 1, 2, 3, 4] ?_; refine ZO1 _ 5 [0, 1, 2, 3, 4, 5] ?_) | (refine ZgO [0, 1, 2, 3, 4, 5] ?_; refine ZO2 _ 6 [0, 1, 2, 3, 4, 5, 6] 7 [0, 1, 2, 3, 4, 5, 7] ?_ ?_) | (refine ZgO [0, 1, 2, 3, 4, 5, 6] ?_; refine ZO2 _ 7 [0, 1, 2, 3, 4, 5, 6, 7] 8 [0, 1, 2, 3, 4, 5, 6, 8] ?_ ?_) | (refine ZgO [0, 1, 2, 3, 4, 5, 6, 7] ?_; refine ZO1 _ 8 [0, 1, 2, 3, 4, 5, 6, 7, 8] ?_) | (refine ZgO [0, 1, 2, 3, 4, 5, 6, 7, 8] ?_; refine ZO1 _ 9 [0, 1, 2, 3, 4, 5, 6, 7, 8, 9] ?_) | (refine ZgO [0, 1, 2, 3, 4, 5, 6, 7, 8, 9] ?_; refine ZOd _ ?_; (try with_reducible apply noP_normal); (try with_reducible exact key.out)) | (refine ZgO [0, 1, 2, 3, 4, 5, 6, 8] ?_; refine ZO1 _ 7 [0, 1, 2, 3, 4, 5, 6, 7, 8] ?_) | (refine ZgO [0, 1, 2, 3, 4, 5, 7] ?_; refine ZO1 _ 6 [0, 1, 2, 3, 4, 5, 6, 7] ?_)) | (refine Zhn ?_) | (with_reducible apply QBlock_normal) | (refine Zhx ?_) | (with_reducible apply QBlock_hit) | (refine Zqb ?_) | (with_reducible apply QLoop_exit) | (refine Zhr ?_) | (with_reducible apply QBlock_ret) | (with_reducible apply QLoop_ret) | (refine AWalk_0 ?_) | (with_reducible apply QAny_normal) | (with_reducible apply QC_normal))
    all_goals exact QBody_res rfl (.tmp (rfl : _ = Value.int _ _) (.tmp (rfl : _ = Value.int _ _) .nil)) rfl ⟨rfl, (Wk.app X9 _).trans (.drop (.refl _))⟩
set_option maxHeartbeats 4000000 in
theorem rHas_ret (L : Hp) (g : Fg) (hA : BkAt N w0 g) (hf : farB g.d = false) (o : Int) :
    Ret Try.prog N w0 L 18 [bkV g, .int .i64 o].toArray (.tuple [.int .i64 ((SureV g.d o : Nat) : Int), .int .i64 ((PerhV g.d o : Nat) : Int), .int .i64 (errT g.d (inB o 0 g.d.m))].toArray) := by
  have hok9 := fun L => rholder_ret N w0 L g o
  have hto := fun L ok => told_ref N w0 L g hA hf ok
  obtain ⟨ok, hok⟩ : ∃ ok, (inB o 0 g.d.m) = ok := ⟨_, rfl⟩
  rw [hok] at hok9 ⊢
  have hto2 := fun L => hto L ok
  obtain ⟨e, he⟩ : ∃ e, errT g.d ok = e := ⟨_, rfl⟩
  rw [he] at hto2 ⊢
  refine Ret.fgt ?_
  refine tri_of_WP Try.func18 rfl (n := _) rfl (by simp) ?_
  by_cases h0 : e = 0
  · subst h0
    obtain ⟨hvb, rfl, hpos⟩ := errT_zero he
    have hv := VB_of hvb
    have hnb := hv.n
    have hmb := hv.m
    have hnl := hv.nl
    have hto3 := fun L => (hto2 L).mono (R' := fun x L2 => ∃ v, x = .returned v ∧ ∃ A c X, v = .tuple [.slice A (trL g.d).length c, .int .i64 0].toArray ∧ L2 = X ++ L ∧ RdLL X (.slice A (trL g.d).length c) (trL g.d)) (by rintro y L2 ⟨v, rfl, A, n, c, X, rfl, rfl, h⟩; obtain ⟨rfl, h2⟩ := h rfl; exact ⟨_, rfl, A, c, X, rfl, rfl, h2⟩)
    clear hto hto2
    have hcnt := tr_bd hv
    have hof := fun L' x hx A1 A2 c1 c2 h1 h2 p => of_ref N w0 L' g hA hv x hx A1 A2 c1 c2 h1 h2 p
    have hmn := fun L' A c (hT : RdT N w0 L' A (trL g.d)) p o => many_ref N w0 L' g hA hv (trL g.d) A c hT (fun x hx => trL_len hx) (tr_bd hv) p o
    have hmo := fun L' A c (hT : RdT N w0 L' A (trL g.d)) p hp => most_ref N w0 L' g hA hv A c hT p hp
    have hlen := fun x (hx : x ∈ trL g.d) => trL_len hx
    obtain ⟨n, hn⟩ : ∃ n : Nat, g.d.n = n := ⟨g.d.n.toNat, by omega⟩
    obtain ⟨m, hm⟩ : ∃ m : Nat, g.d.m = m := ⟨g.d.m.toNat, by omega⟩
    have hz : SureV g.d o = surS g.d o := by unfold SureV; rw [hok, he]; rfl
    have hz2 : PerhV g.d o = perS g.d o := by unfold PerhV; rw [hok, he]; rfl
    rw [hz, hz2]
    unfold surS perS
    have hcw := fun p hp => cntO_ways (d := g.d) (p := p) hp o
    have hwb := fun p => ways_bd hv [.mine (p : Int) o]
    rw [show g.d.n.toNat = n by omega]
    obtain ⟨f1, hf1⟩ : ∃ f : Nat → Bool, (fun p : Nat => decide (waysN g.d [.mine (p : Int) o] = (trL g.d).length)) = f := ⟨_, rfl⟩
    obtain ⟨f2, hf2⟩ : ∃ f : Nat → Bool, (fun p : Nat => decide (0 < waysN g.d [.mine (p : Int) o])) = f := ⟨_, rfl⟩
    have hfe1 : ∀ p : Nat, f1 p = decide (waysN g.d [.mine (p : Int) o] = (trL g.d).length) := fun p => by rw [← hf1]
    have hfe2 : ∀ p : Nat, f2 p = decide (0 < waysN g.d [.mine (p : Int) o]) := fun p => by rw [← hf2]
    rw [hf1, hf2]
    unfold bkV bkL at hok9 hto3 hof hmn hmo ⊢
    rw [hn, hm] at hok9 hto3 hof hmn hmo ⊢
    obtain ⟨T, hT⟩ : ∃ T, trL g.d = T := ⟨_, rfl⟩
    simp only [hT] at hto3 hmn hmo hlen
    rw [hT] at hpos hcnt
    repeat' (first | (refine GiP ?_; first | (refine Znh ?_) | (with_reducible refine Znl ?_) | (refine Zatd 18 ?_; refine OPS_retKS (Enters_fn rfl) (hto3 _) rfl rfl rfl (fun v15 L15 h15 => ?_); obtain ⟨A9, c9, X9, rfl, rfl, hr9⟩ := h15) | (refine Zatd 13 ?_; refine Zv Zmv ?_) | (refine Zatd 19 ?_; refine Zv Zxex ?_) | (refine Zatd 20 ?_; refine Zv Zxex ?_) | (refine Zatd 7 ?_; refine Zv Zav ?_) | (refine Zatd 8 ?_; refine Zv Zai ?_)) | (refine GiW ?_; first | (refine Zsq fun K hK => ?_) | (refine ZrN 0 fun _ => ?_; refine Zal 2 fun b2 => ?_; refine Zv Zai ?_; refine Zv Zai ?_; refine Zv Zai ?_) | (refine WP_cond_true rfl ?_) | (refine WP_cond_false rfl ?_) | (refine Zcd (fun hc => ?_) (fun hc => ?_) <;> (try (exfalso; omega))) | (with_reducible apply WP_skip) | (with_reducible apply WP_block) | (with_reducible apply WP_exit) | (with_reducible apply WP_ret) | (refine WP_drawnS (id := 1) [] [0, 1, 2, 3] [] [] (k := 0) (k2 := 6) (by repeat (first | apply Sub.sv | apply Sub.keep | apply Sub.appK | exact Sub.refl _)) (by kernel_rfl) prog_mixed (by kernel_rfl) (by kernel_rfl) rfl ?_; refine Zew rfl Zla ?_; refine Zew rfl Zla ?_; refine Zew rfl Zmi ?_; refine Zec rfl (Enters_fn rfl) (fun X => hok9 _) ?_)) | (with_reducible apply EWalk_nil) | (refine ZgC [0, 1, 2, 3] ?_; refine ZCl _ ?_) | (refine GiO ?_; first | (refine ZgO [0, 1, 2, 3] ?_; refine ZO1 _ 4 [0, 1, 2, 3, 4] ?_) | (refine ZgO [0, 1, 2, 3, 4] ?_; refine ZO1 _ 5 [0, 1, 2, 3, 4, 5] ?_) | (refine ZgO [0, 1, 2, 3, 4, 5] ?_; refine ZO2 _ 6 [0, 1, 2, 3, 4, 5, 6] 7 [0, 1, 2, 3, 4, 5, 7] ?_ ?_) | (refine ZgO [0, 1, 2, 3, 4, 5, 6] ?_; refine ZO2 _ 7 [0, 1, 2, 3, 4, 5, 6, 7] 8 [0, 1, 2, 3, 4, 5, 6, 8] ?_ ?_) | (refine ZgO [0, 1, 2, 3, 4, 5, 6, 7] ?_; refine ZO1 _ 8 [0, 1, 2, 3, 4, 5, 6, 7, 8] ?_) | (refine ZgO [0, 1, 2, 3, 4, 5, 6, 7, 8] ?_; refine ZO1 _ 9 [0, 1, 2, 3, 4, 5, 6, 7, 8, 9] ?_) | (refine ZgO [0, 1, 2, 3, 4, 5, 6, 7, 8, 9] ?_; refine ZOd _ ?_; (try with_reducible apply noP_normal); (try with_reducible exact key.out)) | (refine ZgO [0, 1, 2, 3, 4, 5, 6, 8] ?_; refine ZO1 _ 7 [0, 1, 2, 3, 4, 5, 6, 7, 8] ?_) | (refine ZgO [0, 1, 2, 3, 4, 5, 7] ?_; refine ZO1 _ 6 [0, 1, 2, 3, 4, 5, 6, 7] ?_)) | (refine Zhn ?_) | (with_reducible apply QBlock_normal) | (refine Zhx ?_) | (with_reducible apply QBlock_hit) | (refine Zqb ?_) | (with_reducible apply QLoop_exit) | (refine Zhr ?_) | (with_reducible apply QBlock_ret) | (with_reducible apply QLoop_ret) | (refine AWalk_0 ?_) | (with_reducible apply QAny_normal) | (with_reducible apply QC_normal))
    all_goals
      obtain ⟨H, hH⟩ : ∃ H, X9 ++ ((b2, Blk 25 [.int .i64 n, .int .i64 m, .slice g.A1 g.d.ls.length g.c1, .slice g.A2 g.d.ms.length g.c2]) :: L) = H := ⟨_, rfl⟩
      have hrt : RdT N w0 H A9 T := by rw [← hH]; exact hr9.rdT (Wk.appR X9 _)
      have m2 : Mem b2 (Blk 25 [.int .i64 n, .int .i64 m, .slice g.A1 g.d.ls.length g.c1, .slice g.A2 g.d.ms.length g.c2]) H := by rw [← hH]; exact .app X9 (by repeat (first | exact Mem.here | assumption | apply Mem.there | apply Mem.sv | apply Mem.app))
      have hWH : Wk H L := by rw [← hH]; exact (Wk.app X9 _).trans (.drop (.refl _))
      have hmn2 := fun L' (k : Wk L' H) p o => hmn L' A9 c9 (hrt.wk k) p o
      have hmo2 := fun L' (k : Wk L' H) p hp => hmo L' A9 c9 (hrt.wk k) p hp
      rw [List.nil_append, hH]
      simp only [hT] at hcw hfe1
      repeat' (first | (refine GiP ?_; first | (refine Znh ?_) | (with_reducible refine Znl ?_)) | (refine GiW ?_; first | (refine Zsq fun K hK => ?_) | (refine ZrN 2 fun _ => ?_; refine Zv Zmi ?_; refine Zv Zyneq ?_) | (refine ZrN 4 fun _ => ?_; refine Zv Zai ?_; refine Zv Zai ?_) | (refine ZrN 5 fun _ => ?_; refine Zv Zai ?_) | (refine WP_cond_true rfl ?_) | (refine WP_cond_false rfl ?_) | (refine Zcd (fun hc => ?_) (fun hc => ?_) <;> (try (exfalso; omega))) | (with_reducible apply WP_skip) | (with_reducible apply WP_block) | (with_reducible apply WP_exit) | (with_reducible apply WP_ret)) | (refine Zhn ?_) | (with_reducible apply QBlock_normal) | (refine Zhx ?_) | (with_reducible apply QBlock_hit) | (refine Zqb ?_) | (with_reducible apply QLoop_exit) | (refine Zhr ?_) | (with_reducible apply QBlock_ret) | (with_reducible apply QLoop_ret))
      refine WP_loop [9, 10, 11, 12, 24, 25, 26, 27, 28, 29, 30, 31, 32, 33, 34, 35, 36, 37, 38, 39, 40, 41, 42, 43, 44, 45, 46, 47, 48] (fun p : Nat => [(9, .int .i64 ((bitsOf f1 p : Nat) : Int)), (10, .int .i64 ((bitsOf f2 p : Nat) : Int)), (11, .int .i64 (p : Int))]) (fun _ => H) (fun p => p ≤ n) (fun p => n - p) 0 (.cons rfl (.cons rfl (.cons rfl .nil))) (Wk.refl _) (Nat.zero_le _) ?_
      intro p j hp
      by_cases hpn : p < n
      · have hc := fun L' h => hmn2 L' h (p : Int) o
        rw [hcw (p : Int) ⟨by omega, by omega⟩] at hc
        have h1 := hfe1 p
        have h2 := hfe2 p
        have h3 := hwb (p : Int)
        have hpw := fun L => power_ret N w0 L p (by omega)
        have hpb : 2 ^ p ≤ 2 ^ 10 := Nat.pow_le_pow_right (by omega) (by omega)
        have b1 := bitsOf_lt f1 p
        have b2' := bitsOf_lt f2 p
        have s1 : bitsOf f1 (p + 1) = bitsOf f1 p + if f1 p = true then 2 ^ p else 0 := rfl
        have s2 : bitsOf f2 (p + 1) = bitsOf f2 p + if f2 p = true then 2 ^ p else 0 := rfl
        obtain ⟨z, hz9⟩ : ∃ z, waysN g.d [.mine (p : Int) o] = z := ⟨_, rfl⟩
        obtain ⟨x1, hx1⟩ : ∃ z, bitsOf f1 p = z := ⟨_, rfl⟩
        obtain ⟨x2, hx2⟩ : ∃ z, bitsOf f2 p = z := ⟨_, rfl⟩
        obtain ⟨pw, hpw9⟩ : ∃ z, 2 ^ p = z := ⟨_, rfl⟩
        rw [hz9] at hc h1 h2 h3
        rw [hx1] at b1 s1
        rw [hx2] at b2' s2
        rw [hpw9] at hpw hpb b1 b2' s1 s2
        rw [hx1, hx2]
        rw [h1] at s1
        rw [h2] at s2
        have hc3 : (z = T.length ∧ (x1 : Int) + (pw : Int) = ((bitsOf f1 (p + 1) : Nat) : Int)) ∨ (z ≠ T.length ∧ (x1 : Int) = ((bitsOf f1 (p + 1) : Nat) : Int)) := by
          by_cases hq : z = T.length
          · rw [decide_eq_true hq, if_pos rfl] at s1; exact .inl ⟨hq, by rw [s1]; omega⟩
          · rw [decide_eq_false hq, if_neg (by simp)] at s1; exact .inr ⟨hq, by rw [s1]; omega⟩
        have hc4 : (0 < z ∧ (x2 : Int) + (pw : Int) = ((bitsOf f2 (p + 1) : Nat) : Int)) ∨ (z = 0 ∧ (x2 : Int) = ((bitsOf f2 (p + 1) : Nat) : Int)) := by
          by_cases hq : 0 < z
          · rw [decide_eq_true hq, if_pos rfl] at s2; exact .inl ⟨hq, by rw [s2]; omega⟩
          · rw [decide_eq_false hq, if_neg (by simp)] at s2; exact .inr ⟨by omega, by rw [s2]; omega⟩
        clear s1 s2 h1 h2 hmn2 hmo2 hfe1 hfe2
        rcases hc3 with ⟨q1, e1⟩ | ⟨q1, e1⟩ <;> rcases hc4 with ⟨q2, e2⟩ | ⟨q2, e2⟩
        all_goals
          repeat' (first | (refine GiP ?_; first | (refine Znh ?_) | (with_reducible refine Znl ?_)) | (refine GiW ?_; first | (refine Zsq fun K hK => ?_) | (refine ZrN 6 fun _ => ?_; refine Zv Zmi ?_; refine Zv Zf0 ?_; refine Zv Zld ?_; refine Zv Zylss ?_) | (refine ZrN 8 fun _ => ?_; refine Zv Zla ?_; refine Zv Zmv ?_; refine Zv Zmi ?_; refine Zv Zmi ?_; refine Zcl (Enters_fn rfl) (hc _ (by repeat (first | exact Wk.refl _ | apply Wk.keep1 | apply Wk.drop | apply Wk.sv | apply Wk.svD | apply Wk.appD))) ?_; refine Zv Zai ?_) | (refine ZrN 9 fun _ => ?_; refine Zv Zmi ?_; refine Zv Zmv ?_; refine Zv Zxlen ?_; refine Zv Zyeql ?_) | (refine ZrN 10 fun _ => ?_; refine Zv Zmi ?_; refine Zv Zmi ?_; refine Zcl (Enters_fn rfl) (hpw _) ?_; refine Zv Zxadd ?_; refine Zv Zai ?_) | (refine ZrN 11 fun _ => ?_; refine Zv Zmi ?_; refine Zv Zygtr ?_) | (refine ZrN 12 fun _ => ?_; refine Zv Zmi ?_; refine Zv Zmi ?_; refine Zcl (Enters_fn rfl) (hpw _) ?_; refine Zv Zxadd ?_; refine Zv Zai ?_) | (refine ZrN 7 fun _ => ?_; refine Zv Zmi ?_; refine Zv Zxadd ?_; refine Zv Zai ?_) | (refine WP_cond_true rfl ?_) | (refine WP_cond_false rfl ?_) | (refine Zcd (fun hc => ?_) (fun hc => ?_) <;> (try (exfalso; omega))) | (with_reducible apply WP_skip) | (with_reducible apply WP_block) | (with_reducible apply WP_exit) | (with_reducible apply WP_ret)) | (refine Zhn ?_) | (with_reducible apply QBlock_normal) | (refine Zhx ?_) | (with_reducible apply QBlock_hit) | (refine Zqb ?_) | (with_reducible apply QLoop_exit) | (refine Zhr ?_) | (with_reducible apply QBlock_ret) | (with_reducible apply QLoop_ret))
          first | (exfalso; omega) | exact QLoop_normal (p + 1) (.cons (congrArg (Value.int .i64) e1) (.cons (congrArg (Value.int .i64) e2) (.cons rfl .nil))) (by repeat (first | exact Off.frame rfl | exact Off.refl _ _ | refine Off.frameT rfl rfl ?_ | refine Off.upd rfl ?_ | refine Off.updO rfl ?_)) (by repeat (first | exact Wk.refl _ | apply Wk.keep1 | apply Wk.drop | apply Wk.sv | apply Wk.svD | apply Wk.appD)) (by omega) (by omega)
      · have hpe : p = n := by omega
        subst hpe
        repeat' (first | (refine GiP ?_; first | (refine Znh ?_) | (with_reducible refine Znl ?_)) | (refine GiW ?_; first | (refine Zsq fun K hK => ?_) | (refine ZrN 6 fun _ => ?_; refine Zv Zmi ?_; refine Zv Zf0 ?_; refine Zv Zld ?_; refine Zv Zylss ?_) | (refine ZrN 13 fun _ => ?_; refine Zv Zmi ?_; refine Zv Zmi ?_; refine Zv Zai ?_; refine Zv Zai ?_; refine Zv Zai ?_) | (refine WP_cond_true rfl ?_) | (refine WP_cond_false rfl ?_) | (refine Zcd (fun hc => ?_) (fun hc => ?_) <;> (try (exfalso; omega))) | (with_reducible apply WP_skip) | (with_reducible apply WP_block) | (with_reducible apply WP_exit) | (with_reducible apply WP_ret)) | (refine Zhn ?_) | (with_reducible apply QBlock_normal) | (refine Zhx ?_) | (with_reducible apply QBlock_hit) | (refine Zqb ?_) | (with_reducible apply QLoop_exit) | (refine Zhr ?_) | (with_reducible apply QBlock_ret) | (with_reducible apply QLoop_ret))
        exact QBody_res rfl (.tmp (rfl : _ = Value.int _ _) (.tmp (rfl : _ = Value.int _ _) (.tmp (rfl : _ = Value.int _ _) .nil))) rfl ⟨rfl, hWH⟩
  · have heb := errT_bd g.d ok
    rw [he] at heb
    have hz : SureV g.d o = 0 := by unfold SureV; rw [hok, he, if_neg h0]
    have hz2 : PerhV g.d o = 0 := by unfold PerhV; rw [hok, he, if_neg h0]
    rw [hz, hz2]
    unfold bkV bkL at hok9 hto2 ⊢
    repeat' (first | (refine GiP ?_; first | (refine Znh ?_) | (with_reducible refine Znl ?_) | (refine Zatd 18 ?_; refine OPS_retKS (Enters_fn rfl) (hto2 _) rfl rfl rfl (fun v15 L15 h15 => ?_); obtain ⟨A9, n9, c9, X9, rfl, rfl, hr9⟩ := h15) | (refine Zatd 13 ?_; refine Zv Zmv ?_) | (refine Zatd 19 ?_; refine Zv Zxex ?_) | (refine Zatd 20 ?_; refine Zv Zxex ?_) | (refine Zatd 7 ?_; refine Zv Zav ?_) | (refine Zatd 8 ?_; refine Zv Zai ?_)) | (refine GiW ?_; first | (refine Zsq fun K hK => ?_) | (refine ZrN 0 fun _ => ?_; refine Zal 2 fun b2 => ?_; refine Zv Zai ?_; refine Zv Zai ?_; refine Zv Zai ?_) | (refine ZrN 2 fun _ => ?_; refine Zv Zmi ?_; refine Zv Zyneq ?_) | (refine ZrN 3 fun _ => ?_; refine Zv Zmi ?_; refine Zv Zai ?_; refine Zv Zai ?_; refine Zv Zai ?_) | (refine WP_cond_true rfl ?_) | (refine WP_cond_false rfl ?_) | (refine Zcd (fun hc => ?_) (fun hc => ?_) <;> (try (exfalso; omega))) | (with_reducible apply WP_skip) | (with_reducible apply WP_block) | (with_reducible apply WP_exit) | (with_reducible apply WP_ret) | (refine WP_drawnS (id := 1) [] [0, 1, 2, 3] [] [] (k := 0) (k2 := 6) (by repeat (first | apply Sub.sv | apply Sub.keep | apply Sub.appK | exact Sub.refl _)) (by kernel_rfl) prog_mixed (by kernel_rfl) (by kernel_rfl) rfl ?_; refine Zew rfl Zla ?_; refine Zew rfl Zla ?_; refine Zew rfl Zmi ?_; refine Zec rfl (Enters_fn rfl) (fun X => hok9 _) ?_)) | (with_reducible apply EWalk_nil) | (refine ZgC [0, 1, 2, 3] ?_; refine ZCl _ ?_) | (refine GiO ?_; first | (refine ZgO [0, 1, 2, 3] ?_; refine ZO1 _ 4 [0, 1, 2, 3, 4] ?_) | (refine ZgO [0, 1, 2, 3, 4] ?_; refine ZO1 _ 5 [0, 1, 2, 3, 4, 5] ?_) | (refine ZgO [0, 1, 2, 3, 4, 5] ?_; refine ZO2 _ 6 [0, 1, 2, 3, 4, 5, 6] 7 [0, 1, 2, 3, 4, 5, 7] ?_ ?_) | (refine ZgO [0, 1, 2, 3, 4, 5, 6] ?_; refine ZO2 _ 7 [0, 1, 2, 3, 4, 5, 6, 7] 8 [0, 1, 2, 3, 4, 5, 6, 8] ?_ ?_) | (refine ZgO [0, 1, 2, 3, 4, 5, 6, 7] ?_; refine ZO1 _ 8 [0, 1, 2, 3, 4, 5, 6, 7, 8] ?_) | (refine ZgO [0, 1, 2, 3, 4, 5, 6, 7, 8] ?_; refine ZO1 _ 9 [0, 1, 2, 3, 4, 5, 6, 7, 8, 9] ?_) | (refine ZgO [0, 1, 2, 3, 4, 5, 6, 7, 8, 9] ?_; refine ZOd _ ?_; (try with_reducible apply noP_normal); (try with_reducible exact key.out)) | (refine ZgO [0, 1, 2, 3, 4, 5, 6, 8] ?_; refine ZO1 _ 7 [0, 1, 2, 3, 4, 5, 6, 7, 8] ?_) | (refine ZgO [0, 1, 2, 3, 4, 5, 7] ?_; refine ZO1 _ 6 [0, 1, 2, 3, 4, 5, 6, 7] ?_)) | (refine Zhn ?_) | (with_reducible apply QBlock_normal) | (refine Zhx ?_) | (with_reducible apply QBlock_hit) | (refine Zqb ?_) | (with_reducible apply QLoop_exit) | (refine Zhr ?_) | (with_reducible apply QBlock_ret) | (with_reducible apply QLoop_ret) | (refine AWalk_0 ?_) | (with_reducible apply QAny_normal) | (with_reducible apply QC_normal))
    all_goals exact QBody_res rfl (.tmp (rfl : _ = Value.int _ _) (.tmp (rfl : _ = Value.int _ _) (.tmp (rfl : _ = Value.int _ _) .nil))) rfl ⟨rfl, (Wk.app X9 _).trans (.drop (.refl _))⟩
end
end Go.Proofs.Ytakmopiceopcpaa
end

section
namespace Go.Proofs.Ytakmopiceopcpaa
open Go.RowKit
attribute [local irreducible] AnyO AnyB QAny QB EWalk AWalk Ev WP OPS QThen QBlock QScope QLoop QBody Val New Turn Tri Enters PostA Blk Ro
attribute [local irreducible] AnyC QC
section
variable (N : Nat) (w0 : World)
set_option maxHeartbeats 4000000 in
theorem rLine_ret (L : Hp) (g : Fg) (hA : BkAt N w0 g) (hf : farB g.d = false) (p : Int) (hbn : -1000000 ≤ g.d.n ∧ g.d.n ≤ 1000000) :
    Ret Try.prog N w0 L 22 [bkV g, .int .i64 p].toArray (.tuple [.int .i64 (LineV g.d p), .int .i64 (errT g.d (inB p 1 (g.d.n - 1)))].toArray) := by
  have hok9 := fun L => rin_ret N w0 L p 1 (g.d.n - 1)
  have hto := fun L ok => told_ref N w0 L g hA hf ok
  obtain ⟨ok, hok⟩ : ∃ ok, (inB p 1 (g.d.n - 1)) = ok := ⟨_, rfl⟩
  rw [hok] at hok9 ⊢
  have hto2 := fun L => hto L ok
  obtain ⟨e, he⟩ : ∃ e, errT g.d ok = e := ⟨_, rfl⟩
  rw [he] at hto2 ⊢
  refine Ret.fgt ?_
  refine tri_of_WP Try.func22 rfl (n := _) rfl (by simp) ?_
  by_cases h0 : e = 0
  · subst h0
    obtain ⟨hvb, rfl, hpos⟩ := errT_zero he
    have hv := VB_of hvb
    have hnb := hv.n
    have hmb := hv.m
    have hnl := hv.nl
    have hto3 := fun L => (hto2 L).mono (R' := fun x L2 => ∃ v, x = .returned v ∧ ∃ A c X, v = .tuple [.slice A (trL g.d).length c, .int .i64 0].toArray ∧ L2 = X ++ L ∧ RdLL X (.slice A (trL g.d).length c) (trL g.d)) (by rintro y L2 ⟨v, rfl, A, n, c, X, rfl, rfl, h⟩; obtain ⟨rfl, h2⟩ := h rfl; exact ⟨_, rfl, A, c, X, rfl, rfl, h2⟩)
    clear hto hto2
    have hcnt := tr_bd hv
    have hof := fun L' x hx A1 A2 c1 c2 h1 h2 p => of_ref N w0 L' g hA hv x hx A1 A2 c1 c2 h1 h2 p
    have hmn := fun L' A c (hT : RdT N w0 L' A (trL g.d)) p o => many_ref N w0 L' g hA hv (trL g.d) A c hT (fun x hx => trL_len hx) (tr_bd hv) p o
    have hmo := fun L' A c (hT : RdT N w0 L' A (trL g.d)) p hp => most_ref N w0 L' g hA hv A c hT p hp
    have hlen := fun x (hx : x ∈ trL g.d) => trL_len hx
    obtain ⟨n, hn⟩ : ∃ n : Nat, g.d.n = n := ⟨g.d.n.toNat, by omega⟩
    obtain ⟨m, hm⟩ : ∃ m : Nat, g.d.m = m := ⟨g.d.m.toNat, by omega⟩
    have hz : LineV g.d p = lineS g.d p := by unfold LineV; rw [hok, he]; rfl
    rw [hz]
    have hpr : 1 ≤ p ∧ p < g.d.n := by
      unfold inB at hok
      rw [decide_eq_true_eq] at hok
      omega
    have hlc := line_cases hpr
    unfold bkV bkL at hto3 hof hmn hmo ⊢
    rw [hn, hm] at hto3 hof hmn hmo ⊢
    obtain ⟨T, hT⟩ : ∃ T, trL g.d = T := ⟨_, rfl⟩
    simp only [hT] at hto3 hmn hmo hlen
    rw [hT] at hpos hcnt
    rw [hn] at hok9
    repeat' (first | (refine GiP ?_; first | (refine Znh ?_) | (with_reducible refine Znl ?_) | (refine Zatd 17 ?_; refine OPS_retKS (Enters_fn rfl) (hto3 _) rfl rfl rfl (fun v15 L15 h15 => ?_); obtain ⟨A9, c9, X9, rfl, rfl, hr9⟩ := h15) | (refine Zatd 10 ?_; refine Zv Zmv ?_) | (refine Zatd 18 ?_; refine Zv Zxex ?_) | (refine Zatd 19 ?_; refine Zv Zxex ?_) | (refine Zatd 6 ?_; refine Zv Zav ?_) | (refine Zatd 7 ?_; refine Zv Zai ?_)) | (refine GiW ?_; first | (refine Zsq fun K hK => ?_) | (refine ZrN 0 fun _ => ?_; refine Zal 2 fun b2 => ?_; refine Zv Zai ?_; refine Zv Zai ?_) | (refine WP_cond_true rfl ?_) | (refine WP_cond_false rfl ?_) | (refine Zcd (fun hc => ?_) (fun hc => ?_) <;> (try (exfalso; omega))) | (with_reducible apply WP_skip) | (with_reducible apply WP_block) | (with_reducible apply WP_exit) | (with_reducible apply WP_ret) | (refine WP_drawnS (id := 1) [] [0, 1, 2, 3, 4, 5] [] [] (k := 0) (k2 := 6) (by repeat (first | apply Sub.sv | apply Sub.keep | apply Sub.appK | exact Sub.refl _)) (by kernel_rfl) prog_mixed (by kernel_rfl) (by kernel_rfl) rfl ?_; refine Zew rfl Zla ?_; refine Zew rfl Zmi ?_; refine Zew rfl Zf0 ?_; refine Zew rfl Zld ?_; refine Zew rfl Zxsub ?_; refine Zec rfl (Enters_fn rfl) (fun X => hok9 _) ?_)) | (with_reducible apply EWalk_nil) | (refine ZgC [0, 1, 2, 3, 4, 5] ?_; refine ZCl _ ?_) | (refine GiO ?_; first | (refine ZgO [0, 1, 2, 3, 4, 5] ?_; refine ZO1 _ 6 [0, 1, 2, 3, 4, 5, 6] ?_) | (refine ZgO [0, 1, 2, 3, 4, 5, 6] ?_; refine ZO1 _ 7 [0, 1, 2, 3, 4, 5, 6, 7] ?_) | (refine ZgO [0, 1, 2, 3, 4, 5, 6, 7] ?_; refine ZO2 _ 8 [0, 1, 2, 3, 4, 5, 6, 7, 8] 9 [0, 1, 2, 3, 4, 5, 6, 7, 9] ?_ ?_) | (refine ZgO [0, 1, 2, 3, 4, 5, 6, 7, 8] ?_; refine ZO2 _ 9 [0, 1, 2, 3, 4, 5, 6, 7, 8, 9] 10 [0, 1, 2, 3, 4, 5, 6, 7, 8, 10] ?_ ?_) | (refine ZgO [0, 1, 2, 3, 4, 5, 6, 7, 8, 9] ?_; refine ZO1 _ 10 [0, 1, 2, 3, 4, 5, 6, 7, 8, 9, 10] ?_) | (refine ZgO [0, 1, 2, 3, 4, 5, 6, 7, 8, 9, 10] ?_; refine ZO1 _ 11 [0, 1, 2, 3, 4, 5, 6, 7, 8, 9, 10, 11] ?_) | (refine ZgO [0, 1, 2, 3, 4, 5, 6, 7, 8, 9, 10, 11] ?_; refine ZOd _ ?_; (try with_reducible apply noP_normal); (try with_reducible exact key.out)) | (refine ZgO [0, 1, 2, 3, 4, 5, 6, 7, 8, 10] ?_; refine ZO1 _ 9 [0, 1, 2, 3, 4, 5, 6, 7, 8, 9, 10] ?_) | (refine ZgO [0, 1, 2, 3, 4, 5, 6, 7, 9] ?_; refine ZO1 _ 8 [0, 1, 2, 3, 4, 5, 6, 7, 8, 9] ?_)) | (refine Zhn ?_) | (with_reducible apply QBlock_normal) | (refine Zhx ?_) | (with_reducible apply QBlock_hit) | (refine Zqb ?_) | (with_reducible apply QLoop_exit) | (refine Zhr ?_) | (with_reducible apply QBlock_ret) | (with_reducible apply QLoop_ret) | (refine AWalk_0 ?_) | (with_reducible apply QAny_normal) | (with_reducible apply QC_normal))
    all_goals
      obtain ⟨H, hH⟩ : ∃ H, X9 ++ ((b2, Blk 25 [.int .i64 n, .int .i64 m, .slice g.A1 g.d.ls.length g.c1, .slice g.A2 g.d.ms.length g.c2]) :: L) = H := ⟨_, rfl⟩
      have hrt : RdT N w0 H A9 T := by rw [← hH]; exact hr9.rdT (Wk.appR X9 _)
      have m2 : Mem b2 (Blk 25 [.int .i64 n, .int .i64 m, .slice g.A1 g.d.ls.length g.c1, .slice g.A2 g.d.ms.length g.c2]) H := by rw [← hH]; exact .app X9 (by repeat (first | exact Mem.here | assumption | apply Mem.there | apply Mem.sv | apply Mem.app))
      have hWH : Wk H L := by rw [← hH]; exact (Wk.app X9 _).trans (.drop (.refl _))
      have hmn2 := fun L' (k : Wk L' H) p o => hmn L' A9 c9 (hrt.wk k) p o
      have hmo2 := fun L' (k : Wk L' H) p hp => hmo L' A9 c9 (hrt.wk k) p hp
      rw [List.nil_append, hH]
      rw [hT] at hlc
      repeat' (first | (refine GiP ?_; first | (refine Znh ?_) | (with_reducible refine Znl ?_)) | (refine GiW ?_; first | (refine Zsq fun K hK => ?_) | (refine ZrN 2 fun _ => ?_; refine Zv Zmi ?_; refine Zv Zyneq ?_) | (refine ZrN 4 fun _ => ?_; refine Zv Zai ?_) | (refine ZrN 5 fun _ => ?_; refine Zv Zai ?_) | (refine WP_cond_true rfl ?_) | (refine WP_cond_false rfl ?_) | (refine Zcd (fun hc => ?_) (fun hc => ?_) <;> (try (exfalso; omega))) | (with_reducible apply WP_skip) | (with_reducible apply WP_block) | (with_reducible apply WP_exit) | (with_reducible apply WP_ret)) | (refine Zhn ?_) | (with_reducible apply QBlock_normal) | (refine Zhx ?_) | (with_reducible apply QBlock_hit) | (refine Zqb ?_) | (with_reducible apply QLoop_exit) | (refine Zhr ?_) | (with_reducible apply QBlock_ret) | (with_reducible apply QLoop_ret))
      refine WP_loop [8, 9, 23, 24, 25, 26, 27, 28, 29, 30, 31, 32, 33, 34, 35, 36, 37, 38, 39, 40, 41, 42, 43, 44, 45, 46] (fun k : Nat => [(8, .int .i64 ((cntL g.d p (T.take k) : Nat) : Int)), (9, .int .i64 (k : Int))]) (fun _ => H) (fun k => k ≤ T.length) (fun k => T.length - k) 0 (.cons rfl (.cons rfl .nil)) (Wk.refl _) (Nat.zero_le _) ?_
      intro k j hk
      by_cases hkl : k < T.length
      · obtain ⟨b, A1, c1, A2, c2, rfl, h2⟩ := hrt k hkl
        have hl := hlen _ (List.getElem_mem hkl)
        have hst := cntL_snoc g.d p (T.take k) T[k]
        rw [← List.take_succ_eq_append_getElem hkl] at hst
        have hc0 := cntL_le g.d p (T.take k)
        rw [List.length_take, Nat.min_eq_left hk] at hc0
        have hlx : lineX g.d p T[k] = decide (ownX g.d T[k] p ≠ ownX g.d T[k] (p - 1)) := by
          unfold lineX
          rw [Bool.eq_iff_iff, decide_eq_true_eq, decide_eq_true_eq]
          exact ⟨fun h => h.2, fun h => ⟨by omega, h⟩⟩
        have hcall := fun L' (h : Wk L' H) => hof L' T[k] hl A1 A2 c1 c2 (h2 L' h).2.1 (h2 L' h).2.2 p
        have hcall2 := fun L' (h : Wk L' H) => hof L' T[k] hl A1 A2 c1 c2 (h2 L' h).2.1 (h2 L' h).2.2 (p - 1)
        have h21 := fun L' h => (h2 L' h).1
        obtain ⟨z, hz9⟩ : ∃ z, ownX g.d T[k] p = z := ⟨_, rfl⟩
        obtain ⟨y, hy9⟩ : ∃ z, ownX g.d T[k] (p - 1) = z := ⟨_, rfl⟩
        rw [hz9] at hcall hlx
        rw [hy9] at hcall2 hlx
        rw [hl] at h21 hcall hcall2
        rw [hlx] at hst
        obtain ⟨q, hq⟩ : ∃ q, cntL g.d p (T.take k) = q := ⟨_, rfl⟩
        rw [hq] at hst hc0 ⊢
        clear hof hmn2 hmo2
        by_cases hzy : z = y
        · rw [decide_eq_false (fun h => h hzy), if_neg (by simp), Nat.add_zero] at hst
          repeat' (first | (refine GiP ?_; first | (refine Znh ?_) | (with_reducible refine Znl ?_)) | (refine GiW ?_; first | (refine Zsq fun K hK => ?_) | (refine ZrN 6 fun _ => ?_; refine Zv Zmi ?_; refine Zv Zmv ?_; refine Zv Zxlen ?_; refine Zv Zylss ?_) | (refine ZrN 9 fun _ => ?_; refine Zv Zmi ?_; refine Zv Zxadd ?_; refine Zv Zai ?_) | (refine ZrN 7 fun _ => ?_; refine Zv Zmi ?_; refine Zv Zxadd ?_; refine Zv Zai ?_) | (refine WP_cond_true rfl ?_) | (refine WP_cond_false rfl ?_) | (refine Zcd (fun hc => ?_) (fun hc => ?_) <;> (try (exfalso; omega))) | (with_reducible apply WP_skip) | (with_reducible apply WP_block) | (with_reducible apply WP_exit) | (with_reducible apply WP_ret) | (refine WP_drawn (id := 8) [0, 1, 2, 3, 4, 5, 6, 7, 8, 9, 10, 11, 12, 13, 14, 15] [] (k := 0) prog_mixed (by kernel_rfl) rfl ?_; (first | (refine Zew rfl (Val_loadDN rfl (h21 _ (by repeat (first | exact Wk.refl _ | apply Wk.keep1 | apply Wk.drop | apply Wk.sv | apply Wk.svD | apply Wk.appD))) rfl) ?_) | (refine Zew rfl Zla ?_)); refine Zew rfl Zmv ?_; refine Zew rfl Zmi ?_; (first | (refine Zew rfl (Val_indexAddr rfl rfl rfl hkl) ?_) | (refine Zew rfl Zia ?_)); (first | (refine Zew rfl (Val_loadDN rfl (h21 _ (by repeat (first | exact Wk.refl _ | apply Wk.keep1 | apply Wk.drop | apply Wk.sv | apply Wk.svD | apply Wk.appD))) rfl) ?_) | (refine Zew rfl Zla ?_)); refine Zew rfl Zmi ?_; (first | (refine Zec rfl (Enters_fn rfl) (fun X => hcall _ (by repeat (first | exact Wk.refl _ | apply Wk.keep1 | apply Wk.drop | apply Wk.sv | apply Wk.svD | apply Wk.appD))) ?_) | (refine Zec rfl (Enters_fn rfl) (fun X => hcall2 _ (by repeat (first | exact Wk.refl _ | apply Wk.keep1 | apply Wk.drop | apply Wk.sv | apply Wk.svD | apply Wk.appD))) ?_)); (first | (refine Zew rfl (Val_loadDN rfl (h21 _ (by repeat (first | exact Wk.refl _ | apply Wk.keep1 | apply Wk.drop | apply Wk.sv | apply Wk.svD | apply Wk.appD))) rfl) ?_) | (refine Zew rfl Zla ?_)); refine Zew rfl Zmv ?_; refine Zew rfl Zmi ?_; (first | (refine Zew rfl (Val_indexAddr rfl rfl rfl hkl) ?_) | (refine Zew rfl Zia ?_)); (first | (refine Zew rfl (Val_loadDN rfl (h21 _ (by repeat (first | exact Wk.refl _ | apply Wk.keep1 | apply Wk.drop | apply Wk.sv | apply Wk.svD | apply Wk.appD))) rfl) ?_) | (refine Zew rfl Zla ?_)); refine Zew rfl Zmi ?_; refine Zew rfl Zxsub ?_; (first | (refine Zec rfl (Enters_fn rfl) (fun X => hcall _ (by repeat (first | exact Wk.refl _ | apply Wk.keep1 | apply Wk.drop | apply Wk.sv | apply Wk.svD | apply Wk.appD))) ?_) | (refine Zec rfl (Enters_fn rfl) (fun X => hcall2 _ (by repeat (first | exact Wk.refl _ | apply Wk.keep1 | apply Wk.drop | apply Wk.sv | apply Wk.svD | apply Wk.appD))) ?_)); refine Zew rfl Zyneq ?_)) | (with_reducible apply EWalk_nil) | (refine AnyO_done (by kernel_rfl) ?_; (try with_reducible apply noP_normal); try with_reducible exact key.out) | (refine Zhn ?_) | (with_reducible apply QBlock_normal) | (refine Zhx ?_) | (with_reducible apply QBlock_hit) | (refine Zqb ?_) | (with_reducible apply QLoop_exit) | (refine Zhr ?_) | (with_reducible apply QBlock_ret) | (with_reducible apply QLoop_ret) | (refine AWalk_0 ?_; refine ZisO ?_) | (with_reducible apply QAny_normal))
          all_goals exact QLoop_normal (k + 1) (.cons (by rw [hst]; rfl) (.cons rfl .nil)) (by repeat (first | exact Off.frame rfl | exact Off.refl _ _ | refine Off.frameT rfl rfl ?_ | refine Off.upd rfl ?_ | refine Off.updO rfl ?_)) (by repeat (first | exact Wk.refl _ | apply Wk.keep1 | apply Wk.drop | apply Wk.sv | apply Wk.svD | apply Wk.appD)) (by omega) (by omega)
        · rw [decide_eq_true hzy, if_pos rfl] at hst
          have hnx : (q : Int) + 1 = ((cntL g.d p (T.take (k + 1)) : Nat) : Int) := by rw [hst]; omega
          repeat' (first | (refine GiP ?_; first | (refine Znh ?_) | (with_reducible refine Znl ?_)) | (refine GiW ?_; first | (refine Zsq fun K hK => ?_) | (refine ZrN 6 fun _ => ?_; refine Zv Zmi ?_; refine Zv Zmv ?_; refine Zv Zxlen ?_; refine Zv Zylss ?_) | (refine ZrN 9 fun _ => ?_; refine Zv Zmi ?_; refine Zv Zxadd ?_; refine Zv Zai ?_) | (refine ZrN 7 fun _ => ?_; refine Zv Zmi ?_; refine Zv Zxadd ?_; refine Zv Zai ?_) | (refine WP_cond_true rfl ?_) | (refine WP_cond_false rfl ?_) | (refine Zcd (fun hc => ?_) (fun hc => ?_) <;> (try (exfalso; omega))) | (with_reducible apply WP_skip) | (with_reducible apply WP_block) | (with_reducible apply WP_exit) | (with_reducible apply WP_ret) | (refine WP_drawn (id := 8) [0, 1, 2, 3, 4, 5, 6, 7, 8, 9, 10, 11, 12, 13, 14, 15] [] (k := 0) prog_mixed (by kernel_rfl) rfl ?_; (first | (refine Zew rfl (Val_loadDN rfl (h21 _ (by repeat (first | exact Wk.refl _ | apply Wk.keep1 | apply Wk.drop | apply Wk.sv | apply Wk.svD | apply Wk.appD))) rfl) ?_) | (refine Zew rfl Zla ?_)); refine Zew rfl Zmv ?_; refine Zew rfl Zmi ?_; (first | (refine Zew rfl (Val_indexAddr rfl rfl rfl hkl) ?_) | (refine Zew rfl Zia ?_)); (first | (refine Zew rfl (Val_loadDN rfl (h21 _ (by repeat (first | exact Wk.refl _ | apply Wk.keep1 | apply Wk.drop | apply Wk.sv | apply Wk.svD | apply Wk.appD))) rfl) ?_) | (refine Zew rfl Zla ?_)); refine Zew rfl Zmi ?_; (first | (refine Zec rfl (Enters_fn rfl) (fun X => hcall _ (by repeat (first | exact Wk.refl _ | apply Wk.keep1 | apply Wk.drop | apply Wk.sv | apply Wk.svD | apply Wk.appD))) ?_) | (refine Zec rfl (Enters_fn rfl) (fun X => hcall2 _ (by repeat (first | exact Wk.refl _ | apply Wk.keep1 | apply Wk.drop | apply Wk.sv | apply Wk.svD | apply Wk.appD))) ?_)); (first | (refine Zew rfl (Val_loadDN rfl (h21 _ (by repeat (first | exact Wk.refl _ | apply Wk.keep1 | apply Wk.drop | apply Wk.sv | apply Wk.svD | apply Wk.appD))) rfl) ?_) | (refine Zew rfl Zla ?_)); refine Zew rfl Zmv ?_; refine Zew rfl Zmi ?_; (first | (refine Zew rfl (Val_indexAddr rfl rfl rfl hkl) ?_) | (refine Zew rfl Zia ?_)); (first | (refine Zew rfl (Val_loadDN rfl (h21 _ (by repeat (first | exact Wk.refl _ | apply Wk.keep1 | apply Wk.drop | apply Wk.sv | apply Wk.svD | apply Wk.appD))) rfl) ?_) | (refine Zew rfl Zla ?_)); refine Zew rfl Zmi ?_; refine Zew rfl Zxsub ?_; (first | (refine Zec rfl (Enters_fn rfl) (fun X => hcall _ (by repeat (first | exact Wk.refl _ | apply Wk.keep1 | apply Wk.drop | apply Wk.sv | apply Wk.svD | apply Wk.appD))) ?_) | (refine Zec rfl (Enters_fn rfl) (fun X => hcall2 _ (by repeat (first | exact Wk.refl _ | apply Wk.keep1 | apply Wk.drop | apply Wk.sv | apply Wk.svD | apply Wk.appD))) ?_)); refine Zew rfl Zyneq ?_)) | (with_reducible apply EWalk_nil) | (refine AnyO_done (by kernel_rfl) ?_; (try with_reducible apply noP_normal); try with_reducible exact key.out) | (refine Zhn ?_) | (with_reducible apply QBlock_normal) | (refine Zhx ?_) | (with_reducible apply QBlock_hit) | (refine Zqb ?_) | (with_reducible apply QLoop_exit) | (refine Zhr ?_) | (with_reducible apply QBlock_ret) | (with_reducible apply QLoop_ret) | (refine AWalk_0 ?_; refine ZisO ?_) | (with_reducible apply QAny_normal))
          all_goals exact QLoop_normal (k + 1) (.cons (congrArg (Value.int .i64) hnx) (.cons rfl .nil)) (by repeat (first | exact Off.frame rfl | exact Off.refl _ _ | refine Off.frameT rfl rfl ?_ | refine Off.upd rfl ?_ | refine Off.updO rfl ?_)) (by repeat (first | exact Wk.refl _ | apply Wk.keep1 | apply Wk.drop | apply Wk.sv | apply Wk.svD | apply Wk.appD)) (by omega) (by omega)
      · have hke : k = T.length := by omega
        subst hke
        rw [List.take_length]
        obtain ⟨q, hq⟩ : ∃ q, cntL g.d p T = q := ⟨_, rfl⟩
        rw [hq] at hlc ⊢
        rcases hlc with ⟨q1, q2⟩ | ⟨q1, q2, q3⟩ | ⟨q1, q2, q3⟩
        all_goals
          repeat' (first | (refine GiP ?_; first | (refine Znh ?_) | (with_reducible refine Znl ?_)) | (refine GiW ?_; first | (refine Zsq fun K hK => ?_) | (refine ZrN 6 fun _ => ?_; refine Zv Zmi ?_; refine Zv Zmv ?_; refine Zv Zxlen ?_; refine Zv Zylss ?_) | (refine ZrN 10 fun _ => ?_; refine Zv Zmi ?_; refine Zv Zmv ?_; refine Zv Zxlen ?_; refine Zv Zyeql ?_) | (refine ZrN 11 fun _ => ?_; refine Zv Zai ?_; refine Zv Zai ?_) | (refine ZrN 12 fun _ => ?_; refine Zv Zmi ?_; refine Zv Zyeql ?_) | (refine ZrN 13 fun _ => ?_; refine Zv Zai ?_; refine Zv Zai ?_) | (refine ZrN 14 fun _ => ?_; refine Zv Zai ?_; refine Zv Zai ?_) | (refine WP_cond_true rfl ?_) | (refine WP_cond_false rfl ?_) | (refine Zcd (fun hc => ?_) (fun hc => ?_) <;> (try (exfalso; omega))) | (with_reducible apply WP_skip) | (with_reducible apply WP_block) | (with_reducible apply WP_exit) | (with_reducible apply WP_ret)) | (refine Zhn ?_) | (with_reducible apply QBlock_normal) | (refine Zhx ?_) | (with_reducible apply QBlock_hit) | (refine Zqb ?_) | (with_reducible apply QLoop_exit) | (refine Zhr ?_) | (with_reducible apply QBlock_ret) | (with_reducible apply QLoop_ret))
        · exact QBody_res rfl (.tmp (rfl : _ = Value.int _ _) (.tmp (rfl : _ = Value.int _ _) .nil)) rfl ⟨by rw [q2]; rfl, hWH⟩
        · exact QBody_res rfl (.tmp (rfl : _ = Value.int _ _) (.tmp (rfl : _ = Value.int _ _) .nil)) rfl ⟨by rw [q3]; rfl, hWH⟩
        · exact QBody_res rfl (.tmp (rfl : _ = Value.int _ _) (.tmp (rfl : _ = Value.int _ _) .nil)) rfl ⟨by rw [q3]; rfl, hWH⟩
  · have heb := errT_bd g.d ok
    rw [he] at heb
    have hz : LineV g.d p = 0 := by unfold LineV; rw [hok, he, if_neg h0]
    rw [hz]
    unfold bkV bkL at hto2 ⊢
    repeat' (first | (refine GiP ?_; first | (refine Znh ?_) | (with_reducible refine Znl ?_) | (refine Zatd 17 ?_; refine OPS_retKS (Enters_fn rfl) (hto2 _) rfl rfl rfl (fun v15 L15 h15 => ?_); obtain ⟨A9, n9, c9, X9, rfl, rfl, hr9⟩ := h15) | (refine Zatd 10 ?_; refine Zv Zmv ?_) | (refine Zatd 18 ?_; refine Zv Zxex ?_) | (refine Zatd 19 ?_; refine Zv Zxex ?_) | (refine Zatd 6 ?_; refine Zv Zav ?_) | (refine Zatd 7 ?_; refine Zv Zai ?_)) | (refine GiW ?_; first | (refine Zsq fun K hK => ?_) | (refine ZrN 0 fun _ => ?_; refine Zal 2 fun b2 => ?_; refine Zv Zai ?_; refine Zv Zai ?_) | (refine ZrN 2 fun _ => ?_; refine Zv Zmi ?_; refine Zv Zyneq ?_) | (refine ZrN 3 fun _ => ?_; refine Zv Zmi ?_; refine Zv Zai ?_; refine Zv Zai ?_) | (refine WP_cond_true rfl ?_) | (refine WP_cond_false rfl ?_) | (refine Zcd (fun hc => ?_) (fun hc => ?_) <;> (try (exfalso; omega))) | (with_reducible apply WP_skip) | (with_reducible apply WP_block) | (with_reducible apply WP_exit) | (with_reducible apply WP_ret) | (refine WP_drawnS (id := 1) [] [0, 1, 2, 3, 4, 5] [] [] (k := 0) (k2 := 6) (by repeat (first | apply Sub.sv | apply Sub.keep | apply Sub.appK | exact Sub.refl _)) (by kernel_rfl) prog_mixed (by kernel_rfl) (by kernel_rfl) rfl ?_; refine Zew rfl Zla ?_; refine Zew rfl Zmi ?_; refine Zew rfl Zf0 ?_; refine Zew rfl Zld ?_; refine Zew rfl Zxsub ?_; refine Zec rfl (Enters_fn rfl) (fun X => hok9 _) ?_)) | (with_reducible apply EWalk_nil) | (refine ZgC [0, 1, 2, 3, 4, 5] ?_; refine ZCl _ ?_) | (refine GiO ?_; first | (refine ZgO [0, 1, 2, 3, 4, 5] ?_; refine ZO1 _ 6 [0, 1, 2, 3, 4, 5, 6] ?_) | (refine ZgO [0, 1, 2, 3, 4, 5, 6] ?_; refine ZO1 _ 7 [0, 1, 2, 3, 4, 5, 6, 7] ?_) | (refine ZgO [0, 1, 2, 3, 4, 5, 6, 7] ?_; refine ZO2 _ 8 [0, 1, 2, 3, 4, 5, 6, 7, 8] 9 [0, 1, 2, 3, 4, 5, 6, 7, 9] ?_ ?_) | (refine ZgO [0, 1, 2, 3, 4, 5, 6, 7, 8] ?_; refine ZO2 _ 9 [0, 1, 2, 3, 4, 5, 6, 7, 8, 9] 10 [0, 1, 2, 3, 4, 5, 6, 7, 8, 10] ?_ ?_) | (refine ZgO [0, 1, 2, 3, 4, 5, 6, 7, 8, 9] ?_; refine ZO1 _ 10 [0, 1, 2, 3, 4, 5, 6, 7, 8, 9, 10] ?_) | (refine ZgO [0, 1, 2, 3, 4, 5, 6, 7, 8, 9, 10] ?_; refine ZO1 _ 11 [0, 1, 2, 3, 4, 5, 6, 7, 8, 9, 10, 11] ?_) | (refine ZgO [0, 1, 2, 3, 4, 5, 6, 7, 8, 9, 10, 11] ?_; refine ZOd _ ?_; (try with_reducible apply noP_normal); (try with_reducible exact key.out)) | (refine ZgO [0, 1, 2, 3, 4, 5, 6, 7, 8, 10] ?_; refine ZO1 _ 9 [0, 1, 2, 3, 4, 5, 6, 7, 8, 9, 10] ?_) | (refine ZgO [0, 1, 2, 3, 4, 5, 6, 7, 9] ?_; refine ZO1 _ 8 [0, 1, 2, 3, 4, 5, 6, 7, 8, 9] ?_)) | (refine Zhn ?_) | (with_reducible apply QBlock_normal) | (refine Zhx ?_) | (with_reducible apply QBlock_hit) | (refine Zqb ?_) | (with_reducible apply QLoop_exit) | (refine Zhr ?_) | (with_reducible apply QBlock_ret) | (with_reducible apply QLoop_ret) | (refine AWalk_0 ?_) | (with_reducible apply QAny_normal) | (with_reducible apply QC_normal))
    all_goals exact QBody_res rfl (.tmp (rfl : _ = Value.int _ _) (.tmp (rfl : _ = Value.int _ _) .nil)) rfl ⟨rfl, (Wk.app X9 _).trans (.drop (.refl _))⟩
set_option maxHeartbeats 4000000 in
theorem rAsk_ret (L : Hp) (g : Fg) (hA : BkAt N w0 g) (hf : farB g.d = false) :
    Ret Try.prog N w0 L 26 [bkV g].toArray (.tuple [.int .i64 ((AskV g.d).1 : Int), .int .i64 ((AskV g.d).2 : Int), .int .i64 (errT g.d true)].toArray) := by
  have hto := fun L ok => told_ref N w0 L g hA hf ok
  obtain ⟨ok, hok⟩ : ∃ ok, true = ok := ⟨_, rfl⟩
  rw [hok]
  have hto2 := fun L => hto L ok
  obtain ⟨e, he⟩ : ∃ e, errT g.d ok = e := ⟨_, rfl⟩
  rw [he] at hto2 ⊢
  refine Ret.fgt ?_
  refine tri_of_WP Try.func26 rfl (n := _) rfl (by simp) ?_
  by_cases h0 : e = 0
  · subst h0
    obtain ⟨hvb, rfl, hpos⟩ := errT_zero he
    have hv := VB_of hvb
    have hnb := hv.n
    have hmb := hv.m
    have hnl := hv.nl
    have hto3 := fun L => (hto2 L).mono (R' := fun x L2 => ∃ v, x = .returned v ∧ ∃ A c X, v = .tuple [.slice A (trL g.d).length c, .int .i64 0].toArray ∧ L2 = X ++ L ∧ RdLL X (.slice A (trL g.d).length c) (trL g.d)) (by rintro y L2 ⟨v, rfl, A, n, c, X, rfl, rfl, h⟩; obtain ⟨rfl, h2⟩ := h rfl; exact ⟨_, rfl, A, c, X, rfl, rfl, h2⟩)
    clear hto hto2
    have hcnt := tr_bd hv
    have hof := fun L' x hx A1 A2 c1 c2 h1 h2 p => of_ref N w0 L' g hA hv x hx A1 A2 c1 c2 h1 h2 p
    have hmn := fun L' A c (hT : RdT N w0 L' A (trL g.d)) p o => many_ref N w0 L' g hA hv (trL g.d) A c hT (fun x hx => trL_len hx) (tr_bd hv) p o
    have hmo := fun L' A c (hT : RdT N w0 L' A (trL g.d)) p hp => most_ref N w0 L' g hA hv A c hT p hp
    have hlen := fun x (hx : x ∈ trL g.d) => trL_len hx
    obtain ⟨n, hn⟩ : ∃ n : Nat, g.d.n = n := ⟨g.d.n.toNat, by omega⟩
    obtain ⟨m, hm⟩ : ∃ m : Nat, g.d.m = m := ⟨g.d.m.toNat, by omega⟩
    have hz : AskV g.d = askF g.d g.d.n.toNat := by unfold AskV; rw [he]; rfl
    rw [hz, show g.d.n.toNat = n by omega]
    have hsp := fun k h => askF_spec (d := g.d) (k := k) h
    have hab := fun k => askF_bd hv k
    have hmb2 := fun p => mostS_bd hv p
    have hsu := fun p : Nat => show askF g.d (p + 1) = if p = 0 ∨ mostS g.d p < (askF g.d p).2 then (p, mostS g.d p) else askF g.d p from rfl
    unfold bkV bkL at hto3 hof hmn hmo ⊢
    rw [hn, hm] at hto3 hof hmn hmo ⊢
    obtain ⟨T, hT⟩ : ∃ T, trL g.d = T := ⟨_, rfl⟩
    simp only [hT] at hto3 hmn hmo hlen
    rw [hT] at hpos hcnt
    repeat' (first | (refine GiP ?_; first | (refine Znh ?_) | (with_reducible refine Znl ?_)) | (refine GiW ?_; first | (refine Zsq fun K hK => ?_) | (refine ZrN 0 fun _ => ?_; refine Zal 1 fun b1 => ?_; refine Zv Zai ?_; refine Zv Zai ?_; refine Zv Zai ?_) | (refine ZrN 1 fun _ => ?_; refine Zv Zla ?_; refine OPS_retKS (Enters_fn rfl) (hto3 _) rfl rfl rfl (fun v15 L15 h15 => ?_); obtain ⟨A9, c9, X9, rfl, rfl, hr9⟩ := h15; refine Zv Zmv ?_; refine Zv Zxex ?_; refine Zv Zxex ?_; refine Zv Zav ?_; refine Zv Zai ?_) | (refine WP_cond_true rfl ?_) | (refine WP_cond_false rfl ?_) | (refine Zcd (fun hc => ?_) (fun hc => ?_) <;> (try (exfalso; omega))) | (with_reducible apply WP_skip) | (with_reducible apply WP_block) | (with_reducible apply WP_exit) | (with_reducible apply WP_ret)) | (refine Zhn ?_) | (with_reducible apply QBlock_normal) | (refine Zhx ?_) | (with_reducible apply QBlock_hit) | (refine Zqb ?_) | (with_reducible apply QLoop_exit) | (refine Zhr ?_) | (with_reducible apply QBlock_ret) | (with_reducible apply QLoop_ret))
    all_goals
      obtain ⟨H, hH⟩ : ∃ H, X9 ++ ((b1, Blk 25 [.int .i64 n, .int .i64 m, .slice g.A1 g.d.ls.length g.c1, .slice g.A2 g.d.ms.length g.c2]) :: L) = H := ⟨_, rfl⟩
      have hrt : RdT N w0 H A9 T := by rw [← hH]; exact hr9.rdT (Wk.appR X9 _)
      have m2 : Mem b1 (Blk 25 [.int .i64 n, .int .i64 m, .slice g.A1 g.d.ls.length g.c1, .slice g.A2 g.d.ms.length g.c2]) H := by rw [← hH]; exact .app X9 (by repeat (first | exact Mem.here | assumption | apply Mem.there | apply Mem.sv | apply Mem.app))
      have hWH : Wk H L := by rw [← hH]; exact (Wk.app X9 _).trans (.drop (.refl _))
      have hmn2 := fun L' (k : Wk L' H) p o => hmn L' A9 c9 (hrt.wk k) p o
      have hmo2 := fun L' (k : Wk L' H) p hp => hmo L' A9 c9 (hrt.wk k) p hp
      rw [hH]
      repeat' (first | (refine GiP ?_; first | (refine Znh ?_) | (with_reducible refine Znl ?_)) | (refine GiW ?_; first | (refine Zsq fun K hK => ?_) | (refine ZrN 2 fun _ => ?_; refine Zv Zmi ?_; refine Zv Zyneq ?_) | (refine ZrN 4 fun _ => ?_; refine Zv Zai ?_) | (refine ZrN 5 fun _ => ?_; refine Zv Zai ?_) | (refine WP_cond_true rfl ?_) | (refine WP_cond_false rfl ?_) | (refine Zcd (fun hc => ?_) (fun hc => ?_) <;> (try (exfalso; omega))) | (with_reducible apply WP_skip) | (with_reducible apply WP_block) | (with_reducible apply WP_exit) | (with_reducible apply WP_ret)) | (refine Zhn ?_) | (with_reducible apply QBlock_normal) | (refine Zhx ?_) | (with_reducible apply QBlock_hit) | (refine Zqb ?_) | (with_reducible apply QLoop_exit) | (refine Zhr ?_) | (with_reducible apply QBlock_ret) | (with_reducible apply QLoop_ret))
      refine WP_loop [7, 8, 17, 18, 19, 20, 21, 22, 23, 24, 25, 26, 27, 28, 29, 30, 31, 32] (fun p : Nat => [(7, .int .i64 ((askF g.d (p + 1)).1 : Int)), (8, .int .i64 ((p : Int) + 1))]) (fun _ => H) (fun p => p + 1 ≤ n) (fun p => n - p) 0 (.cons rfl (.cons rfl .nil)) (Wk.refl _) (by omega) ?_
      intro p j hp
      obtain ⟨g1, g2, -⟩ := hsp (p + 1) (by omega)
      have hc1 := fun L' h => hmo2 L' h (askF g.d (p + 1)).1 (by omega)
      rw [← g2] at hc1
      have hy1 := (hab (p + 1)).2
      by_cases hpn : p + 1 < n
      · have hc2 := fun L' h => hmo2 L' h (p + 1) (by omega)
        have hs2 := hsu (p + 1)
        have hy2 := hmb2 ((p + 1 : Nat) : Int)
        obtain ⟨⟨a1, a2⟩, ha⟩ : ∃ a, askF g.d (p + 1) = a := ⟨_, rfl⟩
        obtain ⟨z, hz9⟩ : ∃ z, mostS g.d ((p + 1 : Nat) : Int) = z := ⟨_, rfl⟩
        rw [ha] at hc1 hs2 hy1 g1 ⊢
        rw [hz9] at hc2 hs2 hy2
        dsimp only at hc1 hs2 hy1 g1 ⊢
        have hpp : ((p + 1 : Nat) : Int) = (p : Int) + 1 := by omega
        rw [hpp] at hc2
        clear hmo2 hmn2 hsp hab hmb2 hsu
        by_cases hza : z < a2
        · rw [if_pos (.inr hza)] at hs2
          repeat' (first | (refine GiP ?_; first | (refine Znh ?_) | (with_reducible refine Znl ?_)) | (refine GiW ?_; first | (refine Zsq fun K hK => ?_) | (refine ZrN 6 fun _ => ?_; refine Zv Zmi ?_; refine Zv Zf0 ?_; refine Zv Zld ?_; refine Zv Zylss ?_) | (refine ZrN 9 fun _ => ?_; refine Zv Zmi ?_; refine Zv Zai ?_) | (refine ZrN 7 fun _ => ?_; refine Zv Zmi ?_; refine Zv Zxadd ?_; refine Zv Zai ?_) | (refine WP_cond_true rfl ?_) | (refine WP_cond_false rfl ?_) | (refine Zcd (fun hc => ?_) (fun hc => ?_) <;> (try (exfalso; omega))) | (with_reducible apply WP_skip) | (with_reducible apply WP_block) | (with_reducible apply WP_exit) | (with_reducible apply WP_ret) | (refine WP_drawn (id := 8) [0, 1, 2, 3, 4, 5, 6, 7, 8] [] (k := 0) prog_mixed (by kernel_rfl) rfl ?_; refine Zew rfl Zla ?_; refine Zew rfl Zmv ?_; refine Zew rfl Zmi ?_; (first | (refine Zec rfl (Enters_fn rfl) (fun X => hc2 _ (by repeat (first | exact Wk.refl _ | apply Wk.keep1 | apply Wk.drop | apply Wk.sv | apply Wk.svD | apply Wk.appD))) ?_) | (refine Zec rfl (Enters_fn rfl) (fun X => hc1 _ (by repeat (first | exact Wk.refl _ | apply Wk.keep1 | apply Wk.drop | apply Wk.sv | apply Wk.svD | apply Wk.appD))) ?_)); refine Zew rfl Zla ?_; refine Zew rfl Zmv ?_; refine Zew rfl Zmi ?_; (first | (refine Zec rfl (Enters_fn rfl) (fun X => hc2 _ (by repeat (first | exact Wk.refl _ | apply Wk.keep1 | apply Wk.drop | apply Wk.sv | apply Wk.svD | apply Wk.appD))) ?_) | (refine Zec rfl (Enters_fn rfl) (fun X => hc1 _ (by repeat (first | exact Wk.refl _ | apply Wk.keep1 | apply Wk.drop | apply Wk.sv | apply Wk.svD | apply Wk.appD))) ?_)); refine Zew rfl Zylss ?_)) | (with_reducible apply EWalk_nil) | (refine AnyO_done (by kernel_rfl) ?_; (try with_reducible apply noP_normal); try with_reducible exact key.out) | (refine Zhn ?_) | (with_reducible apply QBlock_normal) | (refine Zhx ?_) | (with_reducible apply QBlock_hit) | (refine Zqb ?_) | (with_reducible apply QLoop_exit) | (refine Zhr ?_) | (with_reducible apply QBlock_ret) | (with_reducible apply QLoop_ret) | (refine AWalk_0 ?_; refine ZisO ?_) | (with_reducible apply QAny_normal))
          all_goals exact QLoop_normal (p + 1) (.cons (by rw [hs2]; rfl) (.cons rfl .nil)) (by repeat (first | exact Off.frame rfl | exact Off.refl _ _ | refine Off.frameT rfl rfl ?_ | refine Off.upd rfl ?_ | refine Off.updO rfl ?_)) (by repeat (first | exact Wk.refl _ | apply Wk.keep1 | apply Wk.drop | apply Wk.sv | apply Wk.svD | apply Wk.appD)) (by omega) (by omega)
        · rw [if_neg (by omega)] at hs2
          repeat' (first | (refine GiP ?_; first | (refine Znh ?_) | (with_reducible refine Znl ?_)) | (refine GiW ?_; first | (refine Zsq fun K hK => ?_) | (refine ZrN 6 fun _ => ?_; refine Zv Zmi ?_; refine Zv Zf0 ?_; refine Zv Zld ?_; refine Zv Zylss ?_) | (refine ZrN 9 fun _ => ?_; refine Zv Zmi ?_; refine Zv Zai ?_) | (refine ZrN 7 fun _ => ?_; refine Zv Zmi ?_; refine Zv Zxadd ?_; refine Zv Zai ?_) | (refine WP_cond_true rfl ?_) | (refine WP_cond_false rfl ?_) | (refine Zcd (fun hc => ?_) (fun hc => ?_) <;> (try (exfalso; omega))) | (with_reducible apply WP_skip) | (with_reducible apply WP_block) | (with_reducible apply WP_exit) | (with_reducible apply WP_ret) | (refine WP_drawn (id := 8) [0, 1, 2, 3, 4, 5, 6, 7, 8] [] (k := 0) prog_mixed (by kernel_rfl) rfl ?_; refine Zew rfl Zla ?_; refine Zew rfl Zmv ?_; refine Zew rfl Zmi ?_; (first | (refine Zec rfl (Enters_fn rfl) (fun X => hc2 _ (by repeat (first | exact Wk.refl _ | apply Wk.keep1 | apply Wk.drop | apply Wk.sv | apply Wk.svD | apply Wk.appD))) ?_) | (refine Zec rfl (Enters_fn rfl) (fun X => hc1 _ (by repeat (first | exact Wk.refl _ | apply Wk.keep1 | apply Wk.drop | apply Wk.sv | apply Wk.svD | apply Wk.appD))) ?_)); refine Zew rfl Zla ?_; refine Zew rfl Zmv ?_; refine Zew rfl Zmi ?_; (first | (refine Zec rfl (Enters_fn rfl) (fun X => hc2 _ (by repeat (first | exact Wk.refl _ | apply Wk.keep1 | apply Wk.drop | apply Wk.sv | apply Wk.svD | apply Wk.appD))) ?_) | (refine Zec rfl (Enters_fn rfl) (fun X => hc1 _ (by repeat (first | exact Wk.refl _ | apply Wk.keep1 | apply Wk.drop | apply Wk.sv | apply Wk.svD | apply Wk.appD))) ?_)); refine Zew rfl Zylss ?_)) | (with_reducible apply EWalk_nil) | (refine AnyO_done (by kernel_rfl) ?_; (try with_reducible apply noP_normal); try with_reducible exact key.out) | (refine Zhn ?_) | (with_reducible apply QBlock_normal) | (refine Zhx ?_) | (with_reducible apply QBlock_hit) | (refine Zqb ?_) | (with_reducible apply QLoop_exit) | (refine Zhr ?_) | (with_reducible apply QBlock_ret) | (with_reducible apply QLoop_ret) | (refine AWalk_0 ?_; refine ZisO ?_) | (with_reducible apply QAny_normal))
          all_goals exact QLoop_normal (p + 1) (.cons (by rw [hs2]; rfl) (.cons rfl .nil)) (by repeat (first | exact Off.frame rfl | exact Off.refl _ _ | refine Off.frameT rfl rfl ?_ | refine Off.upd rfl ?_ | refine Off.updO rfl ?_)) (by repeat (first | exact Wk.refl _ | apply Wk.keep1 | apply Wk.drop | apply Wk.sv | apply Wk.svD | apply Wk.appD)) (by omega) (by omega)
      · have hpe : n = p + 1 := by omega
        subst hpe
        obtain ⟨⟨a1, a2⟩, ha⟩ : ∃ a, askF g.d (p + 1) = a := ⟨_, rfl⟩
        rw [ha] at hc1 ⊢
        dsimp only at hc1 ⊢
        repeat' (first | (refine GiP ?_; first | (refine Znh ?_) | (with_reducible refine Znl ?_)) | (refine GiW ?_; first | (refine Zsq fun K hK => ?_) | (refine ZrN 6 fun _ => ?_; refine Zv Zmi ?_; refine Zv Zf0 ?_; refine Zv Zld ?_; refine Zv Zylss ?_) | (refine ZrN 10 fun _ => ?_; refine Zv Zmi ?_; refine Zv Zla ?_; refine Zv Zmv ?_; refine Zv Zmi ?_; refine Zcl (Enters_fn rfl) (hc1 _ (by repeat (first | exact Wk.refl _ | apply Wk.keep1 | apply Wk.drop | apply Wk.sv | apply Wk.svD | apply Wk.appD))) ?_; refine Zv Zai ?_; refine Zv Zai ?_; refine Zv Zai ?_) | (refine WP_cond_true rfl ?_) | (refine WP_cond_false rfl ?_) | (refine Zcd (fun hc => ?_) (fun hc => ?_) <;> (try (exfalso; omega))) | (with_reducible apply WP_skip) | (with_reducible apply WP_block) | (with_reducible apply WP_exit) | (with_reducible apply WP_ret)) | (refine Zhn ?_) | (with_reducible apply QBlock_normal) | (refine Zhx ?_) | (with_reducible apply QBlock_hit) | (refine Zqb ?_) | (with_reducible apply QLoop_exit) | (refine Zhr ?_) | (with_reducible apply QBlock_ret) | (with_reducible apply QLoop_ret))
        exact QBody_res rfl (.tmp (rfl : _ = Value.int _ _) (.tmp (rfl : _ = Value.int _ _) (.tmp (rfl : _ = Value.int _ _) .nil))) rfl ⟨by rw [ha]; rfl, hWH⟩
  · have heb := errT_bd g.d ok
    rw [he] at heb
    subst hok
    have hz : AskV g.d = (0, 0) := by unfold AskV; rw [he, if_neg h0]
    rw [hz]
    unfold bkV bkL at hto2 ⊢
    repeat' (first | (refine GiP ?_; first | (refine Znh ?_) | (with_reducible refine Znl ?_)) | (refine GiW ?_; first | (refine Zsq fun K hK => ?_) | (refine ZrN 0 fun _ => ?_; refine Zal 1 fun b1 => ?_; refine Zv Zai ?_; refine Zv Zai ?_; refine Zv Zai ?_) | (refine ZrN 1 fun _ => ?_; refine Zv Zla ?_; refine OPS_retKS (Enters_fn rfl) (hto2 _) rfl rfl rfl (fun v15 L15 h15 => ?_); obtain ⟨A9, n9, c9, X9, rfl, rfl, hr9⟩ := h15; refine Zv Zmv ?_; refine Zv Zxex ?_; refine Zv Zxex ?_; refine Zv Zav ?_; refine Zv Zai ?_) | (refine ZrN 2 fun _ => ?_; refine Zv Zmi ?_; refine Zv Zyneq ?_) | (refine ZrN 3 fun _ => ?_; refine Zv Zmi ?_; refine Zv Zai ?_; refine Zv Zai ?_; refine Zv Zai ?_) | (refine WP_cond_true rfl ?_) | (refine WP_cond_false rfl ?_) | (refine Zcd (fun hc => ?_) (fun hc => ?_) <;> (try (exfalso; omega))) | (with_reducible apply WP_skip) | (with_reducible apply WP_block) | (with_reducible apply WP_exit) | (with_reducible apply WP_ret)) | (refine Zhn ?_) | (with_reducible apply QBlock_normal) | (refine Zhx ?_) | (with_reducible apply QBlock_hit) | (refine Zqb ?_) | (with_reducible apply QLoop_exit) | (refine Zhr ?_) | (with_reducible apply QBlock_ret) | (with_reducible apply QLoop_ret))
    all_goals exact QBody_res rfl (.tmp (rfl : _ = Value.int _ _) (.tmp (rfl : _ = Value.int _ _) (.tmp (rfl : _ = Value.int _ _) .nil))) rfl ⟨rfl, (Wk.app X9 _).trans (.drop (.refl _))⟩
end
end Go.Proofs.Ytakmopiceopcpaa
end

section
namespace Go.Proofs.Ytakmopiceopcpaa
open Go.RowKit
theorem Val_subW {P : Program} {N : Nat} {w0 : World} {L : Hp} {e : Env} {d : Option Nat} {ty : TypeId} {pos : String} {af : Array Edge} {g : Option (Nat × Bool)} {x y : Operand} {t t' : TypeId} {k : IntKind} {m n : Int} (hx : ev e x = .int k m) (hy : ev e y = .int k n) : Val P N w0 L e ⟨d, .binOp .sub t x y t', ty, pos, af, g⟩ (.int k (k.wrap (m - n))) := by
  intro w _; simp [execOp, hx, hy, binOp, Op.intArith, eqGuard]
attribute [local irreducible] AnyO AnyB QAny QB EWalk AWalk Ev WP OPS QThen QBlock QScope QLoop QBody Val New Turn Tri Enters PostA Blk Ro
attribute [local irreducible] AnyC QC
section
variable (N : Nat) (w0 : World)
set_option maxHeartbeats 4000000 in
theorem rWide_ret (L : Hp) (g : Fg) (hA : BkAt N w0 g) (hf : farB g.d = false) (o : Int) :
    Ret Try.prog N w0 L 20 [bkV g, .int .i64 o].toArray (.tuple [.agg [.int .i64 (WideV g.d o).1, .int .i64 (WideV g.d o).2].toArray, .int .i64 (errT g.d (inB o 0 g.d.m))].toArray) := by
  have hok9 := fun L => rholder_ret N w0 L g o
  have hto := fun L ok => told_ref N w0 L g hA hf ok
  obtain ⟨ok, hok⟩ : ∃ ok, (inB o 0 g.d.m) = ok := ⟨_, rfl⟩
  rw [hok] at hok9 ⊢
  have hto2 := fun L => hto L ok
  obtain ⟨e, he⟩ : ∃ e, errT g.d ok = e := ⟨_, rfl⟩
  rw [he] at hto2 ⊢
  refine Ret.fgt ?_
  refine tri_of_WP Try.func20 rfl (n := _) rfl (by simp) ?_
  by_cases h0 : e = 0
  · subst h0
    obtain ⟨hvb, rfl, hpos⟩ := errT_zero he
    have hv := VB_of hvb
    have hnb := hv.n
    have hmb := hv.m
    have hnl := hv.nl
    have hto3 := fun L => (hto2 L).mono (R' := fun x L2 => ∃ v, x = .returned v ∧ ∃ A c X, v = .tuple [.slice A (trL g.d).length c, .int .i64 0].toArray ∧ L2 = X ++ L ∧ RdLL X (.slice A (trL g.d).length c) (trL g.d)) (by rintro y L2 ⟨v, rfl, A, n, c, X, rfl, rfl, h⟩; obtain ⟨rfl, h2⟩ := h rfl; exact ⟨_, rfl, A, c, X, rfl, rfl, h2⟩)
    clear hto hto2
    have hcnt := tr_bd hv
    have hof := fun L' x hx A1 A2 c1 c2 h1 h2 p => of_ref N w0 L' g hA hv x hx A1 A2 c1 c2 h1 h2 p
    have hmn := fun L' A c (hT : RdT N w0 L' A (trL g.d)) p o => many_ref N w0 L' g hA hv (trL g.d) A c hT (fun x hx => trL_len hx) (tr_bd hv) p o
    have hmo := fun L' A c (hT : RdT N w0 L' A (trL g.d)) p hp => most_ref N w0 L' g hA hv A c hT p hp
    have hlen := fun x (hx : x ∈ trL g.d) => trL_len hx
    obtain ⟨n, hn⟩ : ∃ n : Nat, g.d.n = n := ⟨g.d.n.toNat, by omega⟩
    obtain ⟨m, hm⟩ : ∃ m : Nat, g.d.m = m := ⟨g.d.m.toNat, by omega⟩
    have hz : WideV g.d o = wideS g.d o := by unfold WideV; rw [hok, he]; rfl
    rw [hz, wdF_all hv o hpos]
    have hwb := fun k => wdF_bd hv o (trL g.d) k
    have hws := fun k h => wdF_succ (h := o) (k := k) h (right_tr (d := g.d) (List.getElem_mem h))
    dsimp only
    unfold bkV bkL at hok9 hto3 hof hmn hmo ⊢
    rw [hn, hm] at hok9 hto3 hof hmn hmo ⊢
    obtain ⟨T, hT⟩ : ∃ T, trL g.d = T := ⟨_, rfl⟩
    simp only [hT] at hto3 hmn hmo hlen
    rw [hT] at hpos hcnt
    repeat' (first | (refine GiP ?_; first | (refine Znh ?_) | (with_reducible refine Znl ?_) | (refine Zatd 17 ?_; refine OPS_retKS (Enters_fn rfl) (hto3 _) rfl rfl rfl (fun v15 L15 h15 => ?_); obtain ⟨A9, c9, X9, rfl, rfl, hr9⟩ := h15) | (refine Zatd 12 ?_; refine Zv Zmv ?_) | (refine Zatd 18 ?_; refine Zv Zxex ?_) | (refine Zatd 19 ?_; refine Zv Zxex ?_) | (refine Zatd 6 ?_; refine Zv Zav ?_) | (refine Zatd 7 ?_; refine Zv Zai ?_)) | (refine GiW ?_; first | (refine Zsq fun K hK => ?_) | (refine ZrN 0 fun _ => ?_; refine Zal 2 fun b2 => ?_; refine Zal 4 fun b4 => ?_; refine Zv Zai ?_) | (refine WP_cond_true rfl ?_) | (refine WP_cond_false rfl ?_) | (refine Zcd (fun hc => ?_) (fun hc => ?_) <;> (try (exfalso; omega))) | (with_reducible apply WP_skip) | (with_reducible apply WP_block) | (with_reducible apply WP_exit) | (with_reducible apply WP_ret) | (refine WP_drawnS (id := 1) [] [0, 1, 2, 3] [] [] (k := 0) (k2 := 6) (by repeat (first | apply Sub.sv | apply Sub.keep | apply Sub.appK | exact Sub.refl _)) (by kernel_rfl) prog_mixed (by kernel_rfl) (by kernel_rfl) rfl ?_; refine Zew rfl Zla ?_; refine Zew rfl Zla ?_; refine Zew rfl Zmi ?_; refine Zec rfl (Enters_fn rfl) (fun X => hok9 _) ?_)) | (with_reducible apply EWalk_nil) | (refine ZgC [0, 1, 2, 3] ?_; refine ZCl _ ?_) | (refine GiO ?_; first | (refine ZgO [0, 1, 2, 3] ?_; refine ZO1 _ 4 [0, 1, 2, 3, 4] ?_) | (refine ZgO [0, 1, 2, 3, 4] ?_; refine ZO1 _ 5 [0, 1, 2, 3, 4, 5] ?_) | (refine ZgO [0, 1, 2, 3, 4, 5] ?_; refine ZO2 _ 6 [0, 1, 2, 3, 4, 5, 6] 7 [0, 1, 2, 3, 4, 5, 7] ?_ ?_) | (refine ZgO [0, 1, 2, 3, 4, 5, 6] ?_; refine ZO2 _ 7 [0, 1, 2, 3, 4, 5, 6, 7] 8 [0, 1, 2, 3, 4, 5, 6, 8] ?_ ?_) | (refine ZgO [0, 1, 2, 3, 4, 5, 6, 7] ?_; refine ZO1 _ 8 [0, 1, 2, 3, 4, 5, 6, 7, 8] ?_) | (refine ZgO [0, 1, 2, 3, 4, 5, 6, 7, 8] ?_; refine ZO1 _ 9 [0, 1, 2, 3, 4, 5, 6, 7, 8, 9] ?_) | (refine ZgO [0, 1, 2, 3, 4, 5, 6, 7, 8, 9] ?_; refine ZOd _ ?_; (try with_reducible apply noP_normal); (try with_reducible exact key.out)) | (refine ZgO [0, 1, 2, 3, 4, 5, 6, 8] ?_; refine ZO1 _ 7 [0, 1, 2, 3, 4, 5, 6, 7, 8] ?_) | (refine ZgO [0, 1, 2, 3, 4, 5, 7] ?_; refine ZO1 _ 6 [0, 1, 2, 3, 4, 5, 6, 7] ?_)) | (refine Zhn ?_) | (with_reducible apply QBlock_normal) | (refine Zhx ?_) | (with_reducible apply QBlock_hit) | (refine Zqb ?_) | (with_reducible apply QLoop_exit) | (refine Zhr ?_) | (with_reducible apply QBlock_ret) | (with_reducible apply QLoop_ret) | (refine AWalk_0 ?_) | (with_reducible apply QAny_normal) | (with_reducible apply QC_normal))
    all_goals
      obtain ⟨H, hH⟩ : ∃ H, X9 ++ ((b4, Blk 34 [.int .i64 0, .int .i64 0]) :: (b2, Blk 25 [.int .i64 n, .int .i64 m, .slice g.A1 g.d.ls.length g.c1, .slice g.A2 g.d.ms.length g.c2]) :: L) = H := ⟨_, rfl⟩
      have hrt : RdT N w0 H A9 T := by rw [← hH]; exact hr9.rdT (Wk.appR X9 _)
      have m2 : Mem b2 (Blk 25 [.int .i64 n, .int .i64 m, .slice g.A1 g.d.ls.length g.c1, .slice g.A2 g.d.ms.length g.c2]) H := by rw [← hH]; exact .app X9 (by repeat (first | exact Mem.here | assumption | apply Mem.there | apply Mem.sv | apply Mem.app))
      have hWH : Wk H L := by rw [← hH]; exact (Wk.app X9 _).trans (.drop (.drop (.refl _)))
      have hmn2 := fun L' (k : Wk L' H) p o => hmn L' A9 c9 (hrt.wk k) p o
      have hmo2 := fun L' (k : Wk L' H) p hp => hmo L' A9 c9 (hrt.wk k) p hp
      rw [List.nil_append, hH]
      simp only [hT] at hwb hws
      have hz0 : wdF g.d o T 0 = ⟨0, 0, g.d.n, 0⟩ := rfl
      rw [hn] at hz0
      have hcx : ∀ x : List Sp, cntX g.d o x = (((List.range n).filter fun q : Nat => decide (ownX g.d x q = o)).length : Nat) := fun x => by
        unfold cntX
        rw [hn]; rfl
      clear hmn2 hmo2
      repeat' (first | (refine GiP ?_; first | (refine Znh ?_) | (with_reducible refine Znl ?_)) | (refine GiW ?_; first | (refine Zsq fun K hK => ?_) | (refine ZrN 2 fun _ => ?_; refine Zv Zmi ?_; refine Zv Zyneq ?_) | (refine ZrN 4 fun _ => ?_; refine Zv Zf0 ?_; refine Zv Zld ?_; refine Zv Zxbu ?_; refine Zal 8 fun b8 => ?_; refine Zst ?_) | (refine ZrN 5 fun _ => ?_; refine Zv Zai ?_) | (refine WP_cond_true rfl ?_) | (refine WP_cond_false rfl ?_) | (refine Zcd (fun hc => ?_) (fun hc => ?_) <;> (try (exfalso; omega))) | (with_reducible apply WP_skip) | (with_reducible apply WP_block) | (with_reducible apply WP_exit) | (with_reducible apply WP_ret)) | (refine Zhn ?_) | (with_reducible apply QBlock_normal) | (refine Zhx ?_) | (with_reducible apply QBlock_hit) | (refine Zqb ?_) | (with_reducible apply QLoop_exit) | (refine Zhr ?_) | (with_reducible apply QBlock_ret) | (with_reducible apply QLoop_ret))
      refine WP_loop [9, 10, 11, 27, 28, 29, 30, 31, 32, 33, 34, 35, 36, 37, 38, 39, 40, 41, 42, 43, 44, 45, 46, 47, 48, 49, 50, 51, 52, 53, 54, 55, 56, 57, 58] (fun k : Nat => [(9, .int .i64 (k : Int))]) (fun k => (b8, Blk 34 [.int .i64 (wdF g.d o T k).lo, .int .i64 (wdF g.d o T k).hi]) :: H) (fun k => k ≤ T.length) (fun k => T.length - k) 0 (.cons rfl .nil) (by rw [hz0]; exact Wk.refl _) (Nat.zero_le _) ?_
      intro k j hk
      by_cases hkl : k < T.length
      · obtain ⟨b, A1, c1, A2, c2, rfl, h2⟩ := hrt k hkl
        have hl := hlen _ (List.getElem_mem hkl)
        have hcall := fun L' h q => hof L' T[k] hl A1 A2 c1 c2 (h2 L' h).2.1 (h2 L' h).2.2 q
        have h21 := fun L' h => (h2 L' h).1
        obtain ⟨w1, w2⟩ := hws k hkl
        have hb1 := hwb k
        rw [hcx] at w1 w2
        obtain ⟨x, hx⟩ : ∃ x, T[k] = x := ⟨_, rfl⟩
        rw [hx] at w1 w2
        simp only [hx] at hcall h21
        rw [hx] at hl
        rw [hl] at h21 hcall
        obtain ⟨f, hf9⟩ : ∃ f : Nat → Bool, (fun q : Nat => decide (ownX g.d x q = o)) = f := ⟨_, rfl⟩
        have hfq : ∀ q : Nat, f q = decide (ownX g.d x q = o) := fun q => by rw [← hf9]
        rw [hf9] at w1 w2
        have hcb : ∀ k, ((List.range k).filter f).length ≤ k := fun k => by
          have := List.length_filter_le f (List.range k)
          rw [List.length_range] at this
          exact this
        obtain ⟨⟨sm, sl, lo, hi⟩, hS⟩ : ∃ s, wdF g.d o T k = s := ⟨_, rfl⟩
        rw [hS] at w1 w2 hb1 ⊢
        dsimp only at w1 w2 hb1 ⊢
        clear hwb hws hof hS
        repeat' (first | (refine GiP ?_; first | (refine Znh ?_) | (with_reducible refine Znl ?_)) | (refine GiW ?_; first | (refine Zsq fun K hK => ?_) | (refine ZrN 6 fun _ => ?_; refine Zv Zmi ?_; refine Zv Zmv ?_; refine Zv Zxlen ?_; refine Zv Zylss ?_) | (refine ZrN 8 fun _ => ?_; refine Zv Zai ?_) | (refine ZrN 9 fun _ => ?_; refine Zv Zai ?_) | (refine WP_cond_true rfl ?_) | (refine WP_cond_false rfl ?_) | (refine Zcd (fun hc => ?_) (fun hc => ?_) <;> (try (exfalso; omega))) | (with_reducible apply WP_skip) | (with_reducible apply WP_block) | (with_reducible apply WP_exit) | (with_reducible apply WP_ret)) | (refine Zhn ?_) | (with_reducible apply QBlock_normal) | (refine Zhx ?_) | (with_reducible apply QBlock_hit) | (refine Zqb ?_) | (with_reducible apply QLoop_exit) | (refine Zhr ?_) | (with_reducible apply QBlock_ret) | (with_reducible apply QLoop_ret))
        refine WP_loop [10, 11, 33, 34, 35, 36, 37, 38, 39, 40, 41, 42, 43, 44, 45, 46, 47, 48, 49] (fun q : Nat => [(11, .int .i64 (q : Int)), (10, .int .i64 (((List.range q).filter f).length : Int))]) (fun _ => _) (fun q => q ≤ n) (fun q => n - q) 0 (.cons rfl (.cons rfl .nil)) (Wk.refl _) (Nat.zero_le _) ?_
        intro q j2 hq
        by_cases hqn : q < n
        · have hfe := hfq q
          have hcb2 := hcb q
          have hcl := fun L' h => hcall L' h (q : Int)
          obtain ⟨z, hz9⟩ : ∃ z, ownX g.d x q = z := ⟨_, rfl⟩
          rw [hz9] at hfe hcl
          by_cases hzo : z = o
          · rw [decide_eq_true hzo] at hfe
            have hnx : (((List.range q).filter f).length : Int) + 1 = ((((List.range (q + 1)).filter f).length : Nat) : Int) := by simp [List.range_succ, List.filter_append, hfe]
            repeat' (first | (refine GiP ?_; first | (refine Znh ?_) | (with_reducible refine Znl ?_)) | (refine GiW ?_; first | (refine Zsq fun K hK => ?_) | (refine ZrN 10 fun _ => ?_; refine Zv Zmi ?_; refine Zv Zf0 ?_; (first | (refine Zv (Val_loadDN rfl (h21 _ (by repeat (first | exact Wk.refl _ | apply Wk.keep1 | apply Wk.drop | apply Wk.sv | apply Wk.svD | apply Wk.appD))) rfl) ?_) | (refine Zv Zld ?_)); refine Zv Zylss ?_) | (refine ZrN 13 fun _ => ?_; refine Zv Zmi ?_; refine Zv Zxadd ?_; refine Zv Zai ?_) | (refine ZrN 11 fun _ => ?_; refine Zv Zmi ?_; refine Zv Zxadd ?_; refine Zv Zai ?_) | (refine WP_cond_true rfl ?_) | (refine WP_cond_false rfl ?_) | (refine Zcd (fun hc => ?_) (fun hc => ?_) <;> (try (exfalso; omega))) | (with_reducible apply WP_skip) | (with_reducible apply WP_block) | (with_reducible apply WP_exit) | (with_reducible apply WP_ret) | (refine WP_drawn (id := 12) [0, 1, 2, 3, 4, 5, 6, 7, 8] [] (k := 0) prog_mixed (by kernel_rfl) rfl ?_; (first | (refine Zew rfl (Val_loadDN rfl (h21 _ (by repeat (first | exact Wk.refl _ | apply Wk.keep1 | apply Wk.drop | apply Wk.sv | apply Wk.svD | apply Wk.appD))) rfl) ?_) | (refine Zew rfl Zla ?_)); refine Zew rfl Zmv ?_; refine Zew rfl Zmi ?_; (first | (refine Zew rfl (Val_indexAddr rfl rfl rfl hkl) ?_) | (refine Zew rfl Zia ?_)); (first | (refine Zew rfl (Val_loadDN rfl (h21 _ (by repeat (first | exact Wk.refl _ | apply Wk.keep1 | apply Wk.drop | apply Wk.sv | apply Wk.svD | apply Wk.appD))) rfl) ?_) | (refine Zew rfl Zla ?_)); refine Zew rfl Zmi ?_; refine Zec rfl (Enters_fn rfl) (fun X => hcl _ (by repeat (first | exact Wk.refl _ | apply Wk.keep1 | apply Wk.drop | apply Wk.sv | apply Wk.svD | apply Wk.appD))) ?_; refine Zew rfl Zmi ?_; refine Zew rfl Zyeql ?_)) | (with_reducible apply EWalk_nil) | (refine AnyO_done (by kernel_rfl) ?_; (try with_reducible apply noP_normal); try with_reducible exact key.out) | (refine Zhn ?_) | (with_reducible apply QBlock_normal) | (refine Zhx ?_) | (with_reducible apply QBlock_hit) | (refine Zqb ?_) | (with_reducible apply QLoop_exit) | (refine Zhr ?_) | (with_reducible apply QBlock_ret) | (with_reducible apply QLoop_ret) | (refine AWalk_0 ?_; refine ZisO ?_) | (with_reducible apply QAny_normal))
            all_goals exact QLoop_normal (q + 1) (.cons rfl (.cons (congrArg (Value.int .i64) hnx) .nil)) (by repeat (first | exact Off.frame rfl | exact Off.refl _ _ | refine Off.frameT rfl rfl ?_ | refine Off.upd rfl ?_ | refine Off.updO rfl ?_)) (by repeat (first | exact Wk.refl _ | apply Wk.keep1 | apply Wk.drop | apply Wk.sv | apply Wk.svD | apply Wk.appD)) (by omega) (by omega)
          · rw [decide_eq_false hzo] at hfe
            have hnx : ((List.range (q + 1)).filter f).length = ((List.range q).filter f).length := by simp [List.range_succ, List.filter_append, hfe]
            repeat' (first | (refine GiP ?_; first | (refine Znh ?_) | (with_reducible refine Znl ?_)) | (refine GiW ?_; first | (refine Zsq fun K hK => ?_) | (refine ZrN 10 fun _ => ?_; refine Zv Zmi ?_; refine Zv Zf0 ?_; (first | (refine Zv (Val_loadDN rfl (h21 _ (by repeat (first | exact Wk.refl _ | apply Wk.keep1 | apply Wk.drop | apply Wk.sv | apply Wk.svD | apply Wk.appD))) rfl) ?_) | (refine Zv Zld ?_)); refine Zv Zylss ?_) | (refine ZrN 13 fun _ => ?_; refine Zv Zmi ?_; refine Zv Zxadd ?_; refine Zv Zai ?_) | (refine ZrN 11 fun _ => ?_; refine Zv Zmi ?_; refine Zv Zxadd ?_; refine Zv Zai ?_) | (refine WP_cond_true rfl ?_) | (refine WP_cond_false rfl ?_) | (refine Zcd (fun hc => ?_) (fun hc => ?_) <;> (try (exfalso; omega))) | (with_reducible apply WP_skip) | (with_reducible apply WP_block) | (with_reducible apply WP_exit) | (with_reducible apply WP_ret) | (refine WP_drawn (id := 12) [0, 1, 2, 3, 4, 5, 6, 7, 8] [] (k := 0) prog_mixed (by kernel_rfl) rfl ?_; (first | (refine Zew rfl (Val_loadDN rfl (h21 _ (by repeat (first | exact Wk.refl _ | apply Wk.keep1 | apply Wk.drop | apply Wk.sv | apply Wk.svD | apply Wk.appD))) rfl) ?_) | (refine Zew rfl Zla ?_)); refine Zew rfl Zmv ?_; refine Zew rfl Zmi ?_; (first | (refine Zew rfl (Val_indexAddr rfl rfl rfl hkl) ?_) | (refine Zew rfl Zia ?_)); (first | (refine Zew rfl (Val_loadDN rfl (h21 _ (by repeat (first | exact Wk.refl _ | apply Wk.keep1 | apply Wk.drop | apply Wk.sv | apply Wk.svD | apply Wk.appD))) rfl) ?_) | (refine Zew rfl Zla ?_)); refine Zew rfl Zmi ?_; refine Zec rfl (Enters_fn rfl) (fun X => hcl _ (by repeat (first | exact Wk.refl _ | apply Wk.keep1 | apply Wk.drop | apply Wk.sv | apply Wk.svD | apply Wk.appD))) ?_; refine Zew rfl Zmi ?_; refine Zew rfl Zyeql ?_)) | (with_reducible apply EWalk_nil) | (refine AnyO_done (by kernel_rfl) ?_; (try with_reducible apply noP_normal); try with_reducible exact key.out) | (refine Zhn ?_) | (with_reducible apply QBlock_normal) | (refine Zhx ?_) | (with_reducible apply QBlock_hit) | (refine Zqb ?_) | (with_reducible apply QLoop_exit) | (refine Zhr ?_) | (with_reducible apply QBlock_ret) | (with_reducible apply QLoop_ret) | (refine AWalk_0 ?_; refine ZisO ?_) | (with_reducible apply QAny_normal))
            all_goals exact QLoop_normal (q + 1) (.cons rfl (.cons (by rw [hnx]; rfl) .nil)) (by repeat (first | exact Off.frame rfl | exact Off.refl _ _ | refine Off.frameT rfl rfl ?_ | refine Off.upd rfl ?_ | refine Off.updO rfl ?_)) (by repeat (first | exact Wk.refl _ | apply Wk.keep1 | apply Wk.drop | apply Wk.sv | apply Wk.svD | apply Wk.appD)) (by omega) (by omega)
        · have hqe : q = n := by omega
          subst hqe
          have hcb2 := hcb q
          obtain ⟨cb, hcb9⟩ : ∃ cb, ((List.range q).filter f).length = cb := ⟨_, rfl⟩
          rw [hcb9] at w1 w2 hcb2 ⊢
          repeat' (first | (refine GiP ?_; first | (refine Znh ?_) | (with_reducible refine Znl ?_)) | (refine GiW ?_; first | (refine Zsq fun K hK => ?_) | (refine ZrN 10 fun _ => ?_; refine Zv Zmi ?_; refine Zv Zf0 ?_; refine Zv Zld ?_; refine Zv Zylss ?_) | (refine ZrN 14 fun _ => ?_; refine Zv Zf0 ?_; refine Zv Zld ?_; refine Zv Zmi ?_; refine Zv Zxmin ?_; refine Zv Zfa ?_; refine Zv Zld ?_; refine Zv Zmi ?_; refine Zv Zxmax ?_; refine Zv Zxbu ?_; refine Zst ?_) | (refine ZrN 7 fun _ => ?_; refine Zv Zmi ?_; refine Zv Zxadd ?_; refine Zv Zai ?_) | (refine WP_cond_true rfl ?_) | (refine WP_cond_false rfl ?_) | (refine Zcd (fun hc => ?_) (fun hc => ?_) <;> (try (exfalso; omega))) | (with_reducible apply WP_skip) | (with_reducible apply WP_block) | (with_reducible apply WP_exit) | (with_reducible apply WP_ret)) | (refine Zhn ?_) | (with_reducible apply QBlock_normal) | (refine Zhx ?_) | (with_reducible apply QBlock_hit) | (refine Zqb ?_) | (with_reducible apply QLoop_exit) | (refine Zhr ?_) | (with_reducible apply QBlock_ret) | (with_reducible apply QLoop_ret))
          exact QLoop_normal (k + 1) (.cons rfl .nil) (by repeat (first | exact Off.frame rfl | exact Off.refl _ _ | refine Off.frameT rfl rfl ?_ | refine Off.upd rfl ?_ | refine Off.updO rfl ?_)) (by rw [w1, w2]; exact Wk.refl _) (by omega) (by omega)
      · have hke : k = T.length := by omega
        rw [hke, ← hH]
        repeat' (first | (refine GiP ?_; first | (refine Znh ?_) | (with_reducible refine Znl ?_)) | (refine GiW ?_; first | (refine Zsq fun K hK => ?_) | (refine ZrN 6 fun _ => ?_; refine Zv Zmi ?_; refine Zv Zmv ?_; refine Zv Zxlen ?_; refine Zv Zylss ?_) | (refine ZrN 15 fun _ => ?_; refine Zv Zla ?_; refine OPS_turnN (Turn_storeS rfl (by constructor) (by repeat (first | exact Up.here | apply Up.there | apply Up.sv | apply Up.app)) rfl (by repeat (first | exact Over.nil | apply Over.cons | apply PutAt.there | apply PutAt.here)) (by rfl) rfl) rfl rfl ?_; refine Zv Zai ?_) | (refine WP_cond_true rfl ?_) | (refine WP_cond_false rfl ?_) | (refine Zcd (fun hc => ?_) (fun hc => ?_) <;> (try (exfalso; omega))) | (with_reducible apply WP_skip) | (with_reducible apply WP_block) | (with_reducible apply WP_exit) | (with_reducible apply WP_ret)) | (refine Zhn ?_) | (with_reducible apply QBlock_normal) | (refine Zhx ?_) | (with_reducible apply QBlock_hit) | (refine Zqb ?_) | (with_reducible apply QLoop_exit) | (refine Zhr ?_) | (with_reducible apply QBlock_ret) | (with_reducible apply QLoop_ret))
        exact QBody_res rfl (.cellN rfl (by repeat (first | exact Mem.here | assumption | apply Mem.there | apply Mem.sv | apply Mem.app)) (.here (.cons (.cons .nil))) (.tmp (rfl : _ = Value.int _ _) .nil)) rfl ⟨by rw [← hT]; rfl, .drop ((Wk.app X9 _).trans (.drop (.drop (.refl _))))⟩
  · have heb := errT_bd g.d ok
    rw [he] at heb
    have hz : WideV g.d o = (0, 0) := by unfold WideV; rw [hok, he, if_neg h0]
    rw [hz]
    unfold bkV bkL at hok9 hto2 ⊢
    repeat' (first | (refine GiP ?_; first | (refine Znh ?_) | (with_reducible refine Znl ?_) | (refine Zatd 17 ?_; refine OPS_retKS (Enters_fn rfl) (hto2 _) rfl rfl rfl (fun v15 L15 h15 => ?_); obtain ⟨A9, n9, c9, X9, rfl, rfl, hr9⟩ := h15) | (refine Zatd 12 ?_; refine Zv Zmv ?_) | (refine Zatd 18 ?_; refine Zv Zxex ?_) | (refine Zatd 19 ?_; refine Zv Zxex ?_) | (refine Zatd 6 ?_; refine Zv Zav ?_) | (refine Zatd 7 ?_; refine Zv Zai ?_)) | (refine GiW ?_; first | (refine Zsq fun K hK => ?_) | (refine ZrN 0 fun _ => ?_; refine Zal 2 fun b2 => ?_; refine Zal 4 fun b4 => ?_; refine Zv Zai ?_) | (refine ZrN 2 fun _ => ?_; refine Zv Zmi ?_; refine Zv Zyneq ?_) | (refine ZrN 3 fun _ => ?_; refine Zv Zxbu ?_; refine Zv Zmi ?_; refine OPS_turnN (Turn_storeS rfl (by constructor) (by repeat (first | exact Up.here | apply Up.there | apply Up.sv | apply Up.app)) rfl (by repeat (first | exact Over.nil | apply Over.cons | apply PutAt.there | apply PutAt.here)) (by rfl) rfl) rfl rfl ?_; refine Zv Zai ?_) | (refine WP_cond_true rfl ?_) | (refine WP_cond_false rfl ?_) | (refine Zcd (fun hc => ?_) (fun hc => ?_) <;> (try (exfalso; omega))) | (with_reducible apply WP_skip) | (with_reducible apply WP_block) | (with_reducible apply WP_exit) | (with_reducible apply WP_ret) | (refine WP_drawnS (id := 1) [] [0, 1, 2, 3] [] [] (k := 0) (k2 := 6) (by repeat (first | apply Sub.sv | apply Sub.keep | apply Sub.appK | exact Sub.refl _)) (by kernel_rfl) prog_mixed (by kernel_rfl) (by kernel_rfl) rfl ?_; refine Zew rfl Zla ?_; refine Zew rfl Zla ?_; refine Zew rfl Zmi ?_; refine Zec rfl (Enters_fn rfl) (fun X => hok9 _) ?_)) | (with_reducible apply EWalk_nil) | (refine ZgC [0, 1, 2, 3] ?_; refine ZCl _ ?_) | (refine GiO ?_; first | (refine ZgO [0, 1, 2, 3] ?_; refine ZO1 _ 4 [0, 1, 2, 3, 4] ?_) | (refine ZgO [0, 1, 2, 3, 4] ?_; refine ZO1 _ 5 [0, 1, 2, 3, 4, 5] ?_) | (refine ZgO [0, 1, 2, 3, 4, 5] ?_; refine ZO2 _ 6 [0, 1, 2, 3, 4, 5, 6] 7 [0, 1, 2, 3, 4, 5, 7] ?_ ?_) | (refine ZgO [0, 1, 2, 3, 4, 5, 6] ?_; refine ZO2 _ 7 [0, 1, 2, 3, 4, 5, 6, 7] 8 [0, 1, 2, 3, 4, 5, 6, 8] ?_ ?_) | (refine ZgO [0, 1, 2, 3, 4, 5, 6, 7] ?_; refine ZO1 _ 8 [0, 1, 2, 3, 4, 5, 6, 7, 8] ?_) | (refine ZgO [0, 1, 2, 3, 4, 5, 6, 7, 8] ?_; refine ZO1 _ 9 [0, 1, 2, 3, 4, 5, 6, 7, 8, 9] ?_) | (refine ZgO [0, 1, 2, 3, 4, 5, 6, 7, 8, 9] ?_; refine ZOd _ ?_; (try with_reducible apply noP_normal); (try with_reducible exact key.out)) | (refine ZgO [0, 1, 2, 3, 4, 5, 6, 8] ?_; refine ZO1 _ 7 [0, 1, 2, 3, 4, 5, 6, 7, 8] ?_) | (refine ZgO [0, 1, 2, 3, 4, 5, 7] ?_; refine ZO1 _ 6 [0, 1, 2, 3, 4, 5, 6, 7] ?_)) | (refine Zhn ?_) | (with_reducible apply QBlock_normal) | (refine Zhx ?_) | (with_reducible apply QBlock_hit) | (refine Zqb ?_) | (with_reducible apply QLoop_exit) | (refine Zhr ?_) | (with_reducible apply QBlock_ret) | (with_reducible apply QLoop_ret) | (refine AWalk_0 ?_) | (with_reducible apply QAny_normal) | (with_reducible apply QC_normal))
    all_goals exact QBody_res rfl (.cellN rfl (by repeat (first | exact Mem.here | assumption | apply Mem.there | apply Mem.sv | apply Mem.app)) (.here (.cons (.cons .nil))) (.tmp (rfl : _ = Value.int _ _) .nil)) rfl ⟨rfl, (Wk.app X9 _).trans (.drop (.drop (.refl _)))⟩
theorem perchW_ret (L : Hp) (g : Fg) (n : Int) : Ret Try.prog N w0 L 47 [bkV g, .int .i64 n].toArray (.bool (inB n 0 (IntKind.i64.wrap (g.d.n - 1)))) := by
  refine Ret.fgt ?_
  refine tri_of_WP Try.func47 rfl (n := _) rfl (by simp) ?_
  unfold bkV bkL
  repeat' (first | (refine GiP ?_; first | (refine Znh ?_) | (with_reducible refine Znl ?_)) | (refine GiW ?_; first | (refine Zsq fun K hK => ?_) | (refine ZrN 0 fun _ => ?_; refine Zal 2 fun b2 => ?_; refine Zv Zab ?_) | (refine ZrN 1 fun _ => ?_; refine Zv Zmi ?_; refine Zv Zf0 ?_; refine Zv Zld ?_; refine Zv (Val_subW rfl rfl) ?_; refine Zcl (Enters_fn rfl) (rin_ret N w0 _ _ _ _) ?_; refine Zv Zab ?_) | (with_reducible apply WP_ret)) | (refine Zhn ?_) | (refine Zhr ?_))
  exact QBody_ret1 rfl (rfl : _ = Value.bool _) ⟨rfl, (by repeat (first | exact Wk.refl _ | apply Wk.keep1 | apply Wk.drop | apply Wk.sv | apply Wk.svD | apply Wk.appD))⟩
theorem rWhose0_ret (L : Hp) (g : Fg) (hA : BkAt N w0 g) (hf : farB g.d = false) (p : Int) (hb : vB g.d = false) :
    Ret Try.prog N w0 L 16 [bkV g, .int .i64 p].toArray (.tuple [.int .i64 0, .int .i64 1].toArray) := by
  have hok9 := fun L => perchW_ret N w0 L g p
  have hto2 := fun L ok => told_ref N w0 L g hA hf ok
  have he : ∀ ok, errT g.d ok = 1 := fun ok => by simp [errT, hb]
  simp only [he] at hto2
  refine Ret.fgt ?_
  refine tri_of_WP Try.func16 rfl (n := _) rfl (by simp) ?_
  unfold bkV bkL at hok9 hto2 ⊢
  repeat' (first | (refine GiP ?_; first | (refine Znh ?_) | (with_reducible refine Znl ?_) | (refine Zatd 16 ?_; refine OPS_retKS (Enters_fn rfl) (hto2 _ _) rfl rfl rfl (fun v15 L15 h15 => ?_); obtain ⟨A9, n9, c9, X9, rfl, rfl, hr9⟩ := h15) | (refine Zatd 11 ?_; refine Zv Zmv ?_) | (refine Zatd 17 ?_; refine Zv Zxex ?_) | (refine Zatd 18 ?_; refine Zv Zxex ?_) | (refine Zatd 6 ?_; refine Zv Zav ?_) | (refine Zatd 7 ?_; refine Zv Zai ?_)) | (refine GiW ?_; first | (refine Zsq fun K hK => ?_) | (refine ZrN 0 fun _ => ?_; refine Zal 2 fun b2 => ?_; refine Zv Zai ?_; refine Zv Zai ?_) | (refine ZrN 2 fun _ => ?_; refine Zv Zmi ?_; refine Zv Zyneq ?_) | (refine ZrN 3 fun _ => ?_; refine Zv Zmi ?_; refine Zv Zai ?_; refine Zv Zai ?_) | (refine WP_cond_true rfl ?_) | (refine WP_cond_false rfl ?_) | (refine Zcd (fun hc => ?_) (fun hc => ?_) <;> (try (exfalso; omega))) | (with_reducible apply WP_skip) | (with_reducible apply WP_block) | (with_reducible apply WP_exit) | (with_reducible apply WP_ret) | (refine WP_drawnS (id := 1) [] [0, 1, 2, 3] [] [] (k := 0) (k2 := 6) (by repeat (first | apply Sub.sv | apply Sub.keep | apply Sub.appK | exact Sub.refl _)) (by kernel_rfl) prog_mixed (by kernel_rfl) (by kernel_rfl) rfl ?_; refine Zew rfl Zla ?_; refine Zew rfl Zla ?_; refine Zew rfl Zmi ?_; refine Zec rfl (Enters_fn rfl) (fun X => hok9 _) ?_)) | (with_reducible apply EWalk_nil) | (refine ZgC [0, 1, 2, 3] ?_; refine ZCl _ ?_) | (refine GiO ?_; first | (refine ZgO [0, 1, 2, 3] ?_; refine ZO1 _ 4 [0, 1, 2, 3, 4] ?_) | (refine ZgO [0, 1, 2, 3, 4] ?_; refine ZO1 _ 5 [0, 1, 2, 3, 4, 5] ?_) | (refine ZgO [0, 1, 2, 3, 4, 5] ?_; refine ZO2 _ 6 [0, 1, 2, 3, 4, 5, 6] 7 [0, 1, 2, 3, 4, 5, 7] ?_ ?_) | (refine ZgO [0, 1, 2, 3, 4, 5, 6] ?_; refine ZO2 _ 7 [0, 1, 2, 3, 4, 5, 6, 7] 8 [0, 1, 2, 3, 4, 5, 6, 8] ?_ ?_) | (refine ZgO [0, 1, 2, 3, 4, 5, 6, 7] ?_; refine ZO1 _ 8 [0, 1, 2, 3, 4, 5, 6, 7, 8] ?_) | (refine ZgO [0, 1, 2, 3, 4, 5, 6, 7, 8] ?_; refine ZO1 _ 9 [0, 1, 2, 3, 4, 5, 6, 7, 8, 9] ?_) | (refine ZgO [0, 1, 2, 3, 4, 5, 6, 7, 8, 9] ?_; refine ZOd _ ?_; (try with_reducible apply noP_normal); (try with_reducible exact key.out)) | (refine ZgO [0, 1, 2, 3, 4, 5, 6, 8] ?_; refine ZO1 _ 7 [0, 1, 2, 3, 4, 5, 6, 7, 8] ?_) | (refine ZgO [0, 1, 2, 3, 4, 5, 7] ?_; refine ZO1 _ 6 [0, 1, 2, 3, 4, 5, 6, 7] ?_)) | (refine Zhn ?_) | (with_reducible apply QBlock_normal) | (refine Zhx ?_) | (with_reducible apply QBlock_hit) | (refine Zqb ?_) | (with_reducible apply QLoop_exit) | (refine Zhr ?_) | (with_reducible apply QBlock_ret) | (with_reducible apply QLoop_ret) | (refine AWalk_0 ?_) | (with_reducible apply QAny_normal) | (with_reducible apply QC_normal))
  all_goals exact QBody_res rfl (.tmp (rfl : _ = Value.int _ _) (.tmp (rfl : _ = Value.int _ _) .nil)) rfl ⟨rfl, (Wk.app X9 _).trans (.drop (.refl _))⟩
theorem rLine0_ret (L : Hp) (g : Fg) (hA : BkAt N w0 g) (hf : farB g.d = false) (p : Int) (hb : vB g.d = false) :
    Ret Try.prog N w0 L 22 [bkV g, .int .i64 p].toArray (.tuple [.int .i64 0, .int .i64 1].toArray) := by
  have hok9 := fun L => rin_ret N w0 L p 1 (IntKind.i64.wrap (g.d.n - 1))
  have hto2 := fun L ok => told_ref N w0 L g hA hf ok
  have he : ∀ ok, errT g.d ok = 1 := fun ok => by simp [errT, hb]
  simp only [he] at hto2
  refine Ret.fgt ?_
  refine tri_of_WP Try.func22 rfl (n := _) rfl (by simp) ?_
  unfold bkV bkL at hto2 ⊢
  repeat' (first | (refine GiP ?_; first | (refine Znh ?_) | (with_reducible refine Znl ?_) | (refine Zatd 17 ?_; refine OPS_retKS (Enters_fn rfl) (hto2 _ _) rfl rfl rfl (fun v15 L15 h15 => ?_); obtain ⟨A9, n9, c9, X9, rfl, rfl, hr9⟩ := h15) | (refine Zatd 10 ?_; refine Zv Zmv ?_) | (refine Zatd 18 ?_; refine Zv Zxex ?_) | (refine Zatd 19 ?_; refine Zv Zxex ?_) | (refine Zatd 6 ?_; refine Zv Zav ?_) | (refine Zatd 7 ?_; refine Zv Zai ?_)) | (refine GiW ?_; first | (refine Zsq fun K hK => ?_) | (refine ZrN 0 fun _ => ?_; refine Zal 2 fun b2 => ?_; refine Zv Zai ?_; refine Zv Zai ?_) | (refine ZrN 2 fun _ => ?_; refine Zv Zmi ?_; refine Zv Zyneq ?_) | (refine ZrN 3 fun _ => ?_; refine Zv Zmi ?_; refine Zv Zai ?_; refine Zv Zai ?_) | (refine WP_cond_true rfl ?_) | (refine WP_cond_false rfl ?_) | (refine Zcd (fun hc => ?_) (fun hc => ?_) <;> (try (exfalso; omega))) | (with_reducible apply WP_skip) | (with_reducible apply WP_block) | (with_reducible apply WP_exit) | (with_reducible apply WP_ret) | (refine WP_drawnS (id := 1) [] [0, 1, 2, 3, 4, 5] [] [] (k := 0) (k2 := 6) (by repeat (first | apply Sub.sv | apply Sub.keep | apply Sub.appK | exact Sub.refl _)) (by kernel_rfl) prog_mixed (by kernel_rfl) (by kernel_rfl) rfl ?_; refine Zew rfl Zla ?_; refine Zew rfl Zmi ?_; refine Zew rfl Zf0 ?_; refine Zew rfl Zld ?_; refine Zew rfl (Val_subW rfl rfl) ?_; refine Zec rfl (Enters_fn rfl) (fun X => hok9 _) ?_)) | (with_reducible apply EWalk_nil) | (refine ZgC [0, 1, 2, 3, 4, 5] ?_; refine ZCl _ ?_) | (refine GiO ?_; first | (refine ZgO [0, 1, 2, 3, 4, 5] ?_; refine ZO1 _ 6 [0, 1, 2, 3, 4, 5, 6] ?_) | (refine ZgO [0, 1, 2, 3, 4, 5, 6] ?_; refine ZO1 _ 7 [0, 1, 2, 3, 4, 5, 6, 7] ?_) | (refine ZgO [0, 1, 2, 3, 4, 5, 6, 7] ?_; refine ZO2 _ 8 [0, 1, 2, 3, 4, 5, 6, 7, 8] 9 [0, 1, 2, 3, 4, 5, 6, 7, 9] ?_ ?_) | (refine ZgO [0, 1, 2, 3, 4, 5, 6, 7, 8] ?_; refine ZO2 _ 9 [0, 1, 2, 3, 4, 5, 6, 7, 8, 9] 10 [0, 1, 2, 3, 4, 5, 6, 7, 8, 10] ?_ ?_) | (refine ZgO [0, 1, 2, 3, 4, 5, 6, 7, 8, 9] ?_; refine ZO1 _ 10 [0, 1, 2, 3, 4, 5, 6, 7, 8, 9, 10] ?_) | (refine ZgO [0, 1, 2, 3, 4, 5, 6, 7, 8, 9, 10] ?_; refine ZO1 _ 11 [0, 1, 2, 3, 4, 5, 6, 7, 8, 9, 10, 11] ?_) | (refine ZgO [0, 1, 2, 3, 4, 5, 6, 7, 8, 9, 10, 11] ?_; refine ZOd _ ?_; (try with_reducible apply noP_normal); (try with_reducible exact key.out)) | (refine ZgO [0, 1, 2, 3, 4, 5, 6, 7, 8, 10] ?_; refine ZO1 _ 9 [0, 1, 2, 3, 4, 5, 6, 7, 8, 9, 10] ?_) | (refine ZgO [0, 1, 2, 3, 4, 5, 6, 7, 9] ?_; refine ZO1 _ 8 [0, 1, 2, 3, 4, 5, 6, 7, 8, 9] ?_)) | (refine Zhn ?_) | (with_reducible apply QBlock_normal) | (refine Zhx ?_) | (with_reducible apply QBlock_hit) | (refine Zqb ?_) | (with_reducible apply QLoop_exit) | (refine Zhr ?_) | (with_reducible apply QBlock_ret) | (with_reducible apply QLoop_ret) | (refine AWalk_0 ?_) | (with_reducible apply QAny_normal) | (with_reducible apply QC_normal))
  all_goals exact QBody_res rfl (.tmp (rfl : _ = Value.int _ _) (.tmp (rfl : _ = Value.int _ _) .nil)) rfl ⟨rfl, (Wk.app X9 _).trans (.drop (.refl _))⟩
theorem rCount_ret (L : Hp) (g : Fg) (hA : BkAt N w0 g) (hf : farB g.d = false) :
    Ret Try.prog N w0 L 24 [bkV g].toArray (.tuple [.int .i64 ((CountV g.d : Nat) : Int), .int .i64 (CountE g.d)].toArray) := by
  have hck := fun L => check_ref N w0 L g hA hf true
  refine Ret.fgt ?_
  refine tri_of_WP Try.func24 rfl (n := _) rfl (by simp) ?_
  cases hb : vB g.d with
  | false =>
    have e1 : CountE g.d = 1 := by simp [CountE, hb]
    have e2 : CountV g.d = 0 := by simp [CountV, hb]
    rw [hb] at hck
    simp only [Bool.false_eq_true, if_false] at hck
    rw [e1, e2]
    unfold bkV bkL at hck ⊢
    repeat' (first | (refine GiP ?_; first | (refine Znh ?_) | (with_reducible refine Znl ?_)) | (refine GiW ?_; first | (refine Zsq fun K hK => ?_) | (refine ZrN 0 fun _ => ?_; refine Zal 1 fun b1 => ?_; refine Zv Zai ?_; refine Zv Zai ?_) | (refine ZrN 1 fun _ => ?_; refine Zv Zla ?_; refine Zcl (Enters_fn rfl) (hck _) ?_; refine Zv Zai ?_) | (refine ZrN 2 fun _ => ?_; refine Zv Zmi ?_; refine Zv Zyneq ?_) | (refine ZrN 3 fun _ => ?_; refine Zv Zmi ?_; refine Zv Zai ?_; refine Zv Zai ?_) | (refine WP_cond_true rfl ?_) | (refine WP_cond_false rfl ?_) | (refine Zcd (fun hc => ?_) (fun hc => ?_) <;> (try (exfalso; omega))) | (with_reducible apply WP_skip) | (with_reducible apply WP_ret)) | (refine Zhn ?_) | (refine Zhr ?_))
    exact QBody_res rfl (.tmp (rfl : _ = Value.int _ _) (.tmp (rfl : _ = Value.int _ _) .nil)) rfl ⟨rfl, (by repeat (first | exact Wk.refl _ | apply Wk.keep1 | apply Wk.drop | apply Wk.sv | apply Wk.svD | apply Wk.appD))⟩
  | true =>
    have hv := VB_of hb
    rw [hb] at hck
    simp only [if_true] at hck
    rw [CountE_of hv, CountV_of hv]
    have hlv := fun L => truthsAll_ref N w0 L g hA hv
    obtain ⟨T, hT⟩ : ∃ T, trL g.d = T := ⟨_, rfl⟩
    rw [hT] at hlv ⊢
    unfold bkV bkL at hck hlv ⊢
    repeat' (first | (refine GiP ?_; first | (refine Znh ?_) | (with_reducible refine Znl ?_)) | (refine GiW ?_; first | (refine Zsq fun K hK => ?_) | (refine ZrN 0 fun _ => ?_; refine Zal 1 fun b1 => ?_; refine Zv Zai ?_; refine Zv Zai ?_) | (refine ZrN 1 fun _ => ?_; refine Zv Zla ?_; refine Zcl (Enters_fn rfl) (hck _) ?_; refine Zv Zai ?_) | (refine ZrN 2 fun _ => ?_; refine Zv Zmi ?_; refine Zv Zyneq ?_) | (refine ZrN 4 fun _ => ?_; refine Zv Zla ?_; refine OPS_retKS (Enters_fn rfl) (hlv _) rfl rfl rfl (fun v6 L6 h6 => ?_); obtain ⟨X6, A6, c6, rfl, hr6, rfl⟩ := h6; refine Zv Zxlen ?_; refine Zv Zai ?_; refine Zv Zai ?_) | (refine WP_cond_true rfl ?_) | (refine WP_cond_false rfl ?_) | (refine Zcd (fun hc => ?_) (fun hc => ?_) <;> (try (exfalso; omega))) | (with_reducible apply WP_skip) | (with_reducible apply WP_ret)) | (refine Zhn ?_) | (refine Zhr ?_))
    exact QBody_res rfl (.tmp (rfl : _ = Value.int _ _) (.tmp (rfl : _ = Value.int _ _) .nil)) rfl ⟨rfl, (Wk.app X6 _).trans (.drop (.refl _))⟩
end
end Go.Proofs.Ytakmopiceopcpaa
end
