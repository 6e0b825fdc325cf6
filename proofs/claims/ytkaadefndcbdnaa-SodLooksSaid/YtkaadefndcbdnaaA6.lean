/- Package sod: what there can have been by each day, of costs: the walk. -/
import Derived.Test.YtkaadefndcbdnaaA5
namespace Go.Proofs.Ytkaadefndcbdnaa
open Go.RowKit
theorem Ret.perm {P : Program} {N : Nat} {w0 : World} {L L2 : Hp} {f : FuncId} {args : Array Value} {v : Value} (h : Ret P N w0 L2 f args v) (hp : L2.Perm L) : Ret P N w0 L f args v := by
  intro w hI
  refine (h w (hI.perm hp.symm)).mono ?_
  rintro x w' ⟨L', hI', rfl, rfl⟩
  exact ⟨L, hI'.perm hp, rfl, rfl⟩
theorem setL_whole : ∀ {l vs : List Value}, l.length = vs.length → setL l 0 vs = vs
  | [], [], _ => rfl
  | x :: l, v :: vs, h => by
    show setL (v :: l) (0 + 1) vs = _
    rw [setL_cons, setL_whole (by simpa using h)]
  | [], _ :: _, h => by simp at h
  | _ :: _, [], h => by simp at h
theorem cellsD_ones (l : List Sp) (b : Bool) : ones (cellsD l b) = true := by
  unfold ones cellsD
  rw [List.all_append, Bool.and_eq_true]
  refine ⟨?_, rfl⟩
  rw [List.all_eq_true]
  intro x hx
  obtain ⟨s, _, hs⟩ := List.mem_flatMap.1 hx
  unfold spL at hs
  simp only [List.mem_cons, List.not_mem_nil, or_false] at hs
  rcases hs with rfl | rfl <;> rfl
theorem inKs3 {a b c : Int} (h : ∀ x ∈ [a, b, c], 0 ≤ x ∧ x ≤ 100) : inKs lks [a, b, c] := by
  refine ⟨rfl, ?_⟩
  have h1 := h a (by simp)
  have h2 := h b (by simp)
  have h3 := h c (by simp)
  intro p hp
  simp only [lks, List.zip_cons_cons, List.zip_nil_right, List.mem_cons, List.not_mem_nil, or_false] at hp
  rcases hp with rfl | rfl | rfl <;> (simp [Lit.wf, IntKind.min, IntKind.max, IntKind.bits, IntKind.signed]; omega)
theorem bwd_len' {ms xs : List Sp} (h : xs.length + 1 = ms.length) : (bwd ms xs).length = ms.length := bwd_len ms xs h
theorem logL_len {s : Sd} (v : VS s) (c : List Int) : (logL s c).length = 13 := by
  unfold logL
  have h1 : (daysS s c).length ≤ 6 := by
    have hb := fwd_bd s c s.days 0 (0, 0)
    have hd := v.nd
    unfold daysS
    split
    · rename_i hc
      have hl := fwd_len s c s.days 0 (0, 0) hc
      rw [bwd_len _ _ (by rw [hl]; simp; omega)]; omega
    · omega
  rw [cellsD_len, pad6_len h1]
theorem logL_no {s : Sd} {c : List Int} {acc : List Sp} (h : fwd s c s.days 0 (0, 0) = (acc, false)) : logL s c = cellsD (pad6 acc) false := by
  unfold logL daysS canS
  rw [h]; rfl
theorem logL_yes {s : Sd} {c : List Int} {acc : List Sp} (h : fwd s c s.days 0 (0, 0) = (acc, true)) : logL s c = cellsD (pad6 (bwd acc (s.days.drop 1))) true := by
  unfold logL daysS canS
  rw [h]; rfl
theorem bwd_bd : ∀ (ms xs : List Sp), (∀ m ∈ ms, 0 ≤ m.1 ∧ m.1 ≤ 1000 ∧ 0 ≤ m.2 ∧ m.2 ≤ 1000) → (∀ x ∈ xs, 0 ≤ x.1 ∧ x.1 ≤ 100 ∧ 0 ≤ x.2 ∧ x.2 ≤ 100) → ∀ y ∈ bwd ms xs, (0 ≤ y.1 ∧ y.1 ≤ 1000) ∧ -(100 * (ms.length : Int)) ≤ y.2 ∧ y.2 ≤ 1000
  | [], xs, _, _, y, hy => by unfold bwd at hy; simp at hy
  | [m], [], hm, _, y, hy => by
    have : y = m := by simpa [bwd] using hy
    subst this
    have := hm y (by simp)
    simp only [List.length_singleton]
    omega
  | _ :: _ :: _, [], _, _, y, hy => by unfold bwd at hy; simp at hy
  | m :: ms, x :: xs, hm, hx, y, hy => by
    have ih := bwd_bd ms xs (fun z hz => hm z (.tail _ hz)) (fun z hz => hx z (.tail _ hz))
    have h1 := hm m (.head _)
    have h2 := hx x (.head _)
    simp only [List.length_cons]
    cases hb : bwd ms xs with
    | nil =>
      unfold bwd at hy
      rw [hb] at hy
      have : y = m := by simpa using hy
      subst this
      omega
    | cons r rs =>
      rw [bwd_cons hb] at hy
      rw [hb] at ih
      have h3 := ih r (.head _)
      rcases List.mem_cons.1 hy with rfl | hy
      · dsimp only
        omega
      · have := ih y hy
        omega
theorem take_drop_set {α : Type} {acc B : List α} {d : Nat} {y : α} (hd : d < acc.length) (hB : B[d]? = some y) : (acc.take (d + 1) ++ B.drop (d + 1)).set d y = acc.take d ++ B.drop d := by
  rw [drop_cons' hB, List.take_succ_eq_append_getElem hd, List.append_assoc, List.set_append_right _ _ (by rw [List.length_take]; omega)]
  rw [List.length_take, Nat.min_eq_left (Nat.le_of_lt hd), Nat.sub_self]
  rfl
attribute [local irreducible] AnyO AnyB QAny QB EWalk AWalk Ev WP OPS QThen QBlock QScope QLoop QBody Val New Turn Tri Enters PostA Blk Ro
section
variable (N : Nat) (w0 : World)
set_option maxHeartbeats 4000000 in
theorem log_ret (L0 : Hp) (g : Fg) (hv : VS g.s) (hA : SodAt N w0 g) (a b c : Int) (hc3 : ∀ x ∈ [a, b, c], 0 ≤ x ∧ x ≤ 100) :
    Ret Try.prog N w0 (Fk g ++ L0) 98 [.pointer (some ⟨g.b, 0, none⟩), .agg (cost3 a b c).toArray].toArray (.agg (logL g.s [a, b, c]).toArray) := by
  have hnd := hv.nd
  have hin := inKs3 hc3
  refine Ret.perm ?_ (List.Perm.swap (g.b, Blk 128 (faceL g)) (g.m, MapOf lks (keptF g.s)) L0)
  refine Ret.fgt ?_
  refine Tri.opn fun o ho => ?_
  obtain ⟨es, clock, rfl, hg⟩ := ho
  obtain ⟨ok, hlook⟩ := lookup_dec Try.prog (t := 126) (m := g.m) (clock := clock) hin hg
  obtain ⟨lv, hlv⟩ : ∃ lv, logL g.s [a, b, c] = lv := ⟨_, rfl⟩
  have hF : keptF g.s [a, b, c] = .agg lv.toArray := by unfold keptF; rw [hlv]
  have hlen := logL_len hv [a, b, c]
  have hones : ones lv = true := by rw [← hlv]; exact cellsD_ones _ _
  rw [hF] at hlook
  rw [hlv] at hlen ⊢
  refine tri_of_WP Try.func98 rfl (n := 104) rfl (by simp) ?_
  unfold cost3
  cases ok
  · simp only [Bool.false_eq_true, if_false] at hlook
    repeat' (first | (refine GiP ?_; first | (refine Znh ?_) | (with_reducible refine Znl ?_) | (refine Zatn ?_; refine Zst ?_) | (refine Zatd 6 ?_; refine Zv Zab ?_)) | (refine GiW ?_; first | (refine Zsq fun K hK => ?_) | (refine ZrN 0 fun _ => ?_; refine Zal 3 fun b3 => ?_; refine Zal 4 fun b4 => ?_) | (refine ZrN 2 fun _ => ?_; refine Zv Zmb ?_) | (refine ZrN 4 fun _ => ?_; refine Zv Zxbu ?_; refine Zal 7 fun b7 => ?_; refine Zst ?_) | (refine ZrN 5 fun _ => ?_; refine Zv Zmv ?_; (first | (refine Zv Zxnp ?_) | (refine Zv Zxnf ?_)); refine Zv Zf0 ?_; refine Zv Zfa ?_; refine Zv Zld ?_; refine Zv Zxlen ?_; refine Zv Zmi ?_) | (refine WP_cond_false rfl ?_) | (with_reducible apply WP_skip) | (with_reducible apply WP_block) | (refine WP_drawnT (id := 1) [8] [0, 1, 2, 3, 4, 5, 6, 7, 8] [9] (k := 2) prog_mixed (by kernel_rfl) (by kernel_rfl) rfl ?_; refine Zew rfl Zmv ?_; (first | (refine Zew rfl Zxnp ?_) | (refine Zew rfl Zxnf ?_)); refine Zew rfl Zfa ?_; refine Zew rfl Zld ?_; refine Zew rfl Zla ?_; refine Zew rfl (hlook rfl rfl (by repeat (first | exact Mem.here | assumption | apply Mem.there | apply Mem.sv | apply Mem.app))) ?_; refine Zew rfl Zmv ?_; refine Zew rfl Zxex ?_; refine Zep rfl (fun _ => Zxex) ?_)) | (with_reducible apply EWalk_nil) | (refine GiO ?_; first | (refine AnyO_done (by kernel_rfl) ?_; (try with_reducible apply noP_normal); try with_reducible exact key.out) | (refine AnyO_1 10 (by decide +kernel) rfl ?_) | (refine AnyO_1 11 (by decide +kernel) rfl ?_)) | (refine Zhn ?_) | (refine AWalk_1S (d := 5) rfl rfl rfl rfl blk_is New_alloc (fun b5 => ?_); refine ZisO ?_) | (with_reducible apply QAny_normal))
    have hdz : g.s.days.drop 0 = g.s.days := rfl
    refine WP_loop [8, 9, 10, 31, 32, 33, 34, 35, 36, 37, 38, 39, 40, 41, 42, 43, 44, 45, 46, 47, 48, 49, 50, 51, 52, 53, 54, 55, 56, 57, 58, 59] (fun q : Nat × Sp × List Sp => [(31, .int .i64 q.1)]) (fun q => (b7, Blk 88 [.int .i64 q.2.1.1, .int .i64 q.2.1.2]) :: (b4, Blk 91 (cellsD (pad6 q.2.2) false)) :: (b3, Blk 86 [.int .i64 a, .int .i64 b, .int .i64 c]) :: (g.m, Is (.map es clock)) :: (g.b, Blk 128 (faceL g)) :: L0)
      (fun q => q.1 ≤ g.s.days.length ∧ (0 ≤ q.2.1.1 ∧ q.2.1.1 ≤ q.2.1.2 ∧ q.2.1.2 ≤ 100 * q.1) ∧ (q.2.2.length = q.1 ∧ ∀ y ∈ q.2.2, 0 ≤ y.1 ∧ y.1 ≤ 1000 ∧ 0 ≤ y.2 ∧ y.2 ≤ 1000) ∧ fwd g.s [a, b, c] g.s.days 0 (0, 0) = (q.2.2 ++ (fwd g.s [a, b, c] (g.s.days.drop q.1) q.1 q.2.1).1, (fwd g.s [a, b, c] (g.s.days.drop q.1) q.1 q.2.1).2)) (fun q => g.s.days.length - q.1) (0, (0, 0), []) (.cons rfl .nil) (by repeat (first | exact Wk.refl _ | apply Wk.keep1 | apply Wk.drop | apply Wk.sv | apply Wk.svD | apply Wk.appD)) ⟨Nat.zero_le _, ⟨Int.le_refl _, Int.le_refl _, by dsimp only; omega⟩, ⟨rfl, fun y hy => by cases hy⟩, rfl⟩ ?_
    rintro ⟨k, m, acc⟩ j ⟨hk, hm, ⟨hal, hab⟩, he⟩
    dsimp only at hk hm hal hab he ⊢
    by_cases hlt : k < g.s.days.length
    · obtain ⟨bA, oA, hA1, hbA, hcA⟩ := hA.days.row k hlt
      have hxv := hv.dy g.s.days[k] (List.getElem_mem hlt)
      have hd1 : g.s.days.drop k = g.s.days[k] :: g.s.days.drop (k + 1) := List.drop_eq_getElem_cons hlt
      obtain ⟨x, hx⟩ : ∃ x, g.s.days[k] = x := ⟨_, rfl⟩
      rw [hx] at hcA hxv hd1
      rw [hd1] at he
      unfold spL at hcA
      have hcl := cntS_lo g.s [a, b, c] k g.s.logs (m.1 + x.1, m.2 + x.2)
      have hcnt := fun L hm => counts_ret N w0 L g hm hA hv a b c hc3 k (m.1 + x.1, m.2 + x.2) (by unfold big; dsimp only; omega) (by unfold big; dsimp only; omega)
      have hun : fwd g.s [a, b, c] (x :: g.s.days.drop (k + 1)) k m = if (cntS g.s [a, b, c] k g.s.logs (m.1 + x.1, m.2 + x.2)).1 ≤ (cntS g.s [a, b, c] k g.s.logs (m.1 + x.1, m.2 + x.2)).2 then (cntS g.s [a, b, c] k g.s.logs (m.1 + x.1, m.2 + x.2) :: (fwd g.s [a, b, c] (g.s.days.drop (k + 1)) (k + 1) (cntS g.s [a, b, c] k g.s.logs (m.1 + x.1, m.2 + x.2))).1, (fwd g.s [a, b, c] (g.s.days.drop (k + 1)) (k + 1) (cntS g.s [a, b, c] k g.s.logs (m.1 + x.1, m.2 + x.2))).2) else ([], false) := rfl
      rw [hun] at he
      obtain ⟨m', hm'⟩ : ∃ m', cntS g.s [a, b, c] k g.s.logs (m.1 + x.1, m.2 + x.2) = m' := ⟨_, rfl⟩
      rw [hm'] at he hcl hcnt
      dsimp only at hcl
      by_cases hsm : m'.1 ≤ m'.2
      · rw [if_pos hsm] at he
        have hso : ∀ L, Ret Try.prog N w0 L 112 [.agg [.int .i64 m'.1, .int .i64 m'.2].toArray].toArray (.bool true) := fun L => by have := some_ret N w0 L m'; rw [decide_eq_true hsm] at this; exact this
        have hset : setL (cellsD (pad6 acc) false) (0 + k * 2) [.int .i64 m'.1, .int .i64 m'.2] = cellsD (pad6 (acc ++ [m'])) false := by
          rw [cellsD_set (by rw [pad6_len (by omega)]; omega), ← hal, pad6_set (by omega)]
        have hcll : 0 + k * 2 + 2 ≤ (cellsD (pad6 acc) false).length := by rw [cellsD_len, pad6_len (by omega)]; omega
        repeat' (first | (refine GiP ?_; first | (refine Znh ?_) | (with_reducible refine Znl ?_) | (refine Zatn ?_; refine Zst ?_)) | (refine GiW ?_; first | (refine Zsq fun K hK => ?_) | (refine ZrN 6 fun _ => ?_; refine Zv Zxlss ?_) | (refine ZrN 7 fun _ => ?_; refine Zv Zmi ?_; refine Zv Zia ?_; refine Zv Zla ?_; refine Zal 9 fun b9 => ?_; refine Zv Zai ?_; (first | (refine Zst ?_) | (refine OPS_turnN (Turn_storeG rfl rfl (by repeat (first | exact Up.here | apply Up.there | apply Up.sv)) rfl hcll hset rfl rfl) rfl rfl ?_))) | (refine ZrN 8 fun _ => ?_; refine Zv Zla ?_; refine Zv Val_makeFunc ?_; refine Zv Zav ?_) | (refine ZrN 10 fun _ => ?_; refine Zv Zla ?_; refine Zcl (Enters_fn rfl) (hso _) ?_; refine Zv Zxnot ?_) | (refine ZrN 13 fun _ => ?_; refine Zv Zmi ?_; refine Zv Zla ?_; refine Zv Zf0 ?_; refine Zv ZiA ?_; (first | (refine Zst ?_) | (refine OPS_turnN (Turn_storeG rfl rfl (by repeat (first | exact Up.here | apply Up.there | apply Up.sv)) rfl hcll hset rfl rfl) rfl rfl ?_))) | (refine ZrN 14 fun _ => ?_; refine Zv Zxadd ?_; refine Zv Zmi ?_) | (refine WP_cond_false rfl ?_) | (refine Zcd (fun hc => ?_) (fun hc => ?_) <;> (try (exfalso; omega))) | (with_reducible apply WP_skip) | (with_reducible apply WP_block) | (refine WP_drawn (id := 9) [0, 1, 2, 3, 4, 5, 6] [] (k := 1) prog_mixed (by kernel_rfl) rfl ?_; refine Zew rfl Zmv ?_; refine Zew rfl Zla ?_; refine Zew rfl Zmi ?_; refine Zew rfl Zmv ?_; refine Zew rfl Zla ?_; refine Zec rfl (Enters_val rfl rfl) (fun X => later_ret N w0 _ m x (by unfold sm; omega) (by unfold sm; omega) (by unfold sm; omega) (by unfold sm; omega)) ?_; refine Zec rfl (Enters_fn rfl) (fun X => hcnt _ (by repeat (first | exact Mem.here | assumption | apply Mem.there | apply Mem.sv | apply Mem.app))) ?_)) | (with_reducible apply EWalk_nil) | (refine GiO ?_; first | (refine AnyO_done (by kernel_rfl) ?_; (try with_reducible apply noP_normal); try with_reducible exact key.out) | (refine AnyO_1 7 (by decide +kernel) rfl ?_)) | (refine Zhn ?_) | (with_reducible apply QBlock_normal) | (with_reducible apply QAny_normal) | (refine AWalk_0 ?_; refine ZisO ?_))
        refine QLoop_normal (k + 1, m', acc ++ [m']) (.cons rfl .nil) (by repeat (first | exact Off.frame rfl | exact Off.refl _ _ | refine Off.frameT rfl rfl ?_ | refine Off.upd rfl ?_ | refine Off.updO rfl ?_)) (by repeat (first | exact Wk.refl _ | apply Wk.keep1 | apply Wk.drop | apply Wk.sv | apply Wk.svD | apply Wk.appD)) ⟨by dsimp only; omega, ⟨by dsimp only; omega, by dsimp only; omega, by dsimp only; omega⟩, ⟨by simp [hal], ?_⟩, ?_⟩ (by dsimp only; omega)
        · intro y hy
          rcases List.mem_append.1 hy with hy | hy
          · exact hab y hy
          · rw [List.mem_singleton.1 hy]; omega
        · rw [he]; simp
      · rw [if_neg hsm] at he
        have hso : ∀ L, Ret Try.prog N w0 L 112 [.agg [.int .i64 m'.1, .int .i64 m'.2].toArray].toArray (.bool false) := fun L => by have := some_ret N w0 L m'; rw [decide_eq_false hsm] at this; exact this
        have hno : lv = cellsD (pad6 acc) false := by rw [← hlv]; exact logL_no (by rw [he]; simp)
        have hcut : Cut (cellsD (pad6 acc) false) 0 13 (cellsD (pad6 acc) false) := Cut.whole (by rw [← hno]; exact hlen)
        have hlen' : (cellsD (pad6 acc) false).length = 13 := by rw [← hno]; exact hlen
        repeat' (first | (refine GiP ?_; first | (refine Znh ?_) | (with_reducible refine Znl ?_) | (refine Zatn ?_; refine Zst ?_) | (refine Zatn ?_; refine OPS_turnN (Turn_mapUpdate rfl rfl hin rfl (by rw [hF, hno]; rfl) (by repeat (first | exact Up.here | apply Up.there | apply Up.sv)) hg) rfl rfl ?_)) | (refine GiW ?_; first | (refine Zsq fun K hK => ?_) | (refine ZrN 6 fun _ => ?_; refine Zv Zxlss ?_) | (refine ZrN 7 fun _ => ?_; refine Zv Zmi ?_; refine Zv Zia ?_; (first | (refine Zv (Val_loadN rfl (by repeat (first | exact Mem.here | assumption | apply Mem.there | apply Mem.sv | apply Mem.app)) hcut) ?_) | (refine Zv Zla ?_)); refine Zal 9 fun b9 => ?_; refine Zv Zai ?_; (first | (refine Zst ?_) | (refine OPS_turnN (Turn_storeG rfl rfl (by repeat (first | exact Up.here | apply Up.there | apply Up.sv)) rfl (by simp [hlen']) (setL_whole rfl) hlen' (cellsD_ones _ _)) rfl rfl ?_))) | (refine ZrN 8 fun _ => ?_; (first | (refine Zv (Val_loadN rfl (by repeat (first | exact Mem.here | assumption | apply Mem.there | apply Mem.sv | apply Mem.app)) hcut) ?_) | (refine Zv Zla ?_)); refine Zv Val_makeFunc ?_; refine Zv Zav ?_) | (refine ZrN 10 fun _ => ?_; (first | (refine Zv (Val_loadN rfl (by repeat (first | exact Mem.here | assumption | apply Mem.there | apply Mem.sv | apply Mem.app)) hcut) ?_) | (refine Zv Zla ?_)); refine Zcl (Enters_fn rfl) (hso _) ?_; refine Zv Zxnot ?_) | (refine ZrN 12 fun _ => ?_; (first | (refine Zv (Val_loadN rfl (by repeat (first | exact Mem.here | assumption | apply Mem.there | apply Mem.sv | apply Mem.app)) hcut) ?_) | (refine Zv Zla ?_)); (first | (refine Zst ?_) | (refine OPS_turnN (Turn_storeG rfl rfl (by repeat (first | exact Up.here | apply Up.there | apply Up.sv)) rfl (by simp [hlen']) (setL_whole rfl) hlen' (cellsD_ones _ _)) rfl rfl ?_))) | (refine WP_cond_true rfl ?_) | (refine Zcd (fun hc => ?_) (fun hc => ?_) <;> (try (exfalso; omega))) | (with_reducible apply WP_skip) | (with_reducible apply WP_block) | (with_reducible apply WP_ret) | (refine WP_drawn (id := 9) [0, 1, 2, 3, 4, 5, 6] [] (k := 1) prog_mixed (by kernel_rfl) rfl ?_; refine Zew rfl Zmv ?_; (first | (refine Zew rfl (Val_loadN rfl (by repeat (first | exact Mem.here | assumption | apply Mem.there | apply Mem.sv | apply Mem.app)) hcut) ?_) | (refine Zew rfl Zla ?_)); refine Zew rfl Zmi ?_; refine Zew rfl Zmv ?_; (first | (refine Zew rfl (Val_loadN rfl (by repeat (first | exact Mem.here | assumption | apply Mem.there | apply Mem.sv | apply Mem.app)) hcut) ?_) | (refine Zew rfl Zla ?_)); refine Zec rfl (Enters_val rfl rfl) (fun X => later_ret N w0 _ m x (by unfold sm; omega) (by unfold sm; omega) (by unfold sm; omega) (by unfold sm; omega)) ?_; refine Zec rfl (Enters_fn rfl) (fun X => hcnt _ (by repeat (first | exact Mem.here | assumption | apply Mem.there | apply Mem.sv | apply Mem.app))) ?_) | (refine WP_drawn (id := 11) [0, 1, 2, 3, 4, 5] [] (k := 1) prog_mixed (by kernel_rfl) rfl ?_; refine Zew rfl Zmv ?_; (first | (refine Zew rfl Zxnp ?_) | (refine Zew rfl Zxnf ?_)); refine Zew rfl Zfa ?_; (first | (refine Zew rfl (Val_loadN rfl (by repeat (first | exact Mem.here | assumption | apply Mem.there | apply Mem.sv | apply Mem.app)) hcut) ?_) | (refine Zew rfl Zld ?_)); (first | (refine Zew rfl (Val_loadN rfl (by repeat (first | exact Mem.here | assumption | apply Mem.there | apply Mem.sv | apply Mem.app)) hcut) ?_) | (refine Zew rfl Zla ?_)); (first | (refine Zew rfl (Val_loadN rfl (by repeat (first | exact Mem.here | assumption | apply Mem.there | apply Mem.sv | apply Mem.app)) hcut) ?_) | (refine Zew rfl Zla ?_)))) | (with_reducible apply EWalk_nil) | (refine GiO ?_; first | (refine AnyO_done (by kernel_rfl) ?_; (try with_reducible apply noP_normal); try with_reducible exact key.out) | (refine AnyO_1 7 (by decide +kernel) rfl ?_) | (refine AnyO_1 6 (by decide +kernel) rfl ?_)) | (refine Zhn ?_) | (refine Zhr ?_) | (with_reducible apply QBlock_ret) | (with_reducible apply QLoop_ret) | (with_reducible apply QAny_normal) | (refine AWalk_0 ?_; refine ZisO ?_))
        refine QBody_res rfl (.cellN rfl (by repeat (first | exact Mem.here | assumption | apply Mem.there | apply Mem.sv | apply Mem.app)) hcut .nil) (by rw [hno]; rfl) ⟨rfl, (by repeat (first | exact Wk.refl _ | apply Wk.keep1 | apply Wk.drop | apply Wk.sv | apply Wk.svD | apply Wk.appD))⟩
    · have hke : k = g.s.days.length := by omega
      rw [hke, List.drop_length] at he
      have he' : fwd g.s [a, b, c] g.s.days 0 (0, 0) = (acc, true) := by rw [he]; simp [fwd]
      have hyes := logL_yes he'
      rw [hlv] at hyes
      obtain ⟨B, hB⟩ : ∃ B, bwd acc (g.s.days.drop 1) = B := ⟨_, rfl⟩
      rw [hB] at hyes
      have hxl : (g.s.days.drop 1).length + 1 = acc.length := by simp; omega
      have hBl := bwd_len acc (g.s.days.drop 1) hxl
      rw [hB] at hBl
      have hlast := bwd_last hxl
      rw [hB] at hlast
      have hBb := bwd_bd acc (g.s.days.drop 1) hab (fun x hx => by have := hv.dy x (List.mem_of_mem_drop hx); omega)
      rw [hB] at hBb
      have hst := fun (d : Nat) (m x r : Sp) (h1 : acc[d]? = some m) (h2 : (g.s.days.drop 1)[d]? = some x) (h3 : B[d + 1]? = some r) => by have := bwd_at hxl h1 h2 (by rw [hB]; exact h3); rw [hB] at this; exact this
      have hxn : (g.s.days.drop 1).length = g.s.days.length - 1 := by simp
      rw [hxn] at hlast
      repeat' (first | (refine Znh ?_) | (refine GiW ?_; first | (refine Zsq fun K hK => ?_) | (refine ZrN 6 fun _ => ?_; refine Zv Zxlss ?_) | (refine ZrN 15 fun _ => ?_; refine Zv Zav ?_) | (refine ZrN 16 fun _ => ?_; refine Zv Zmv ?_; (first | (refine Zv Zxnp ?_) | (refine Zv Zxnf ?_)); refine Zv Zf0 ?_; refine Zv Zfa ?_; refine Zv Zld ?_; refine Zv Zxlen ?_; refine Zv Zxsub ?_; refine Zv Zai ?_) | (refine Zcd (fun hc => ?_) (fun hc => ?_) <;> (try (exfalso; omega))) | (with_reducible apply WP_block) | (with_reducible apply WP_exit)) | (refine Zhn ?_) | (refine Zhx ?_) | (with_reducible apply QBlock_hit) | (with_reducible apply QLoop_exit))
      refine WP_loop [12, 67, 68, 69, 70, 71, 72, 73, 74, 75, 76, 77, 78, 79, 80, 81, 82, 83, 84, 85, 86, 87, 88, 89, 90, 91, 92, 93, 94, 95] (fun n : Nat => [(12, .int .i64 ((n : Int) - 1))]) (fun n => (b7, Blk 88 [.int .i64 m.1, .int .i64 m.2]) :: (b4, Blk 91 (cellsD (pad6 (acc.take n ++ B.drop n)) false)) :: (b3, Blk 86 [.int .i64 a, .int .i64 b, .int .i64 c]) :: (g.m, Is (.map es clock)) :: (g.b, Blk 128 (faceL g)) :: L0)
        (fun n => n ≤ g.s.days.length - 1) (fun n => n) (g.s.days.length - 1) (.cons ((rfl : _ = Value.int .i64 ((g.s.days.length : Int) - 2)).trans (by congr 1; omega)) .nil) (by rw [hlast, List.take_append_drop]; exact (by repeat (first | exact Wk.refl _ | apply Wk.keep1 | apply Wk.drop | apply Wk.sv | apply Wk.svD | apply Wk.appD))) (Nat.le_refl _) ?_
      rintro n j2 hn
      cases n with
      | succ d =>
        have e1 : ((d + 1 : Nat) : Int) - 1 = d := by omega
        rw [e1]
        have hda : d < acc.length := by omega
        have hdx : d < (g.s.days.drop 1).length := by omega
        obtain ⟨p, hp⟩ : ∃ p, acc[d]? = some p := ⟨_, List.getElem?_eq_getElem hda⟩
        obtain ⟨x, hx⟩ : ∃ x, (g.s.days.drop 1)[d]? = some x := ⟨_, List.getElem?_eq_getElem hdx⟩
        obtain ⟨q, hq⟩ : ∃ q, B[d + 1]? = some q := ⟨_, List.getElem?_eq_getElem (by omega)⟩
        have hBd := hst d p x q hp hx hq
        have hpb := hab p (List.mem_of_getElem? hp)
        have hqb := hBb q (List.mem_of_getElem? hq)
        have hx' : g.s.days[d + 1]? = some x := by rw [List.getElem?_drop] at hx; rwa [Nat.add_comm] at hx
        obtain ⟨hd1, hxe⟩ := List.getElem?_eq_some_iff.1 hx'
        have hxv := hv.dy x (List.mem_of_getElem? hx')
        obtain ⟨bA, oA, hA1, hbA, hcA⟩ := hA.days.row (d + 1) hd1
        rw [hxe] at hcA
        unfold spL at hcA
        have hlen2 : (acc.take (d + 1) ++ B.drop (d + 1)).length = g.s.days.length := by simp; omega
        have hg1 : (pad6 (acc.take (d + 1) ++ B.drop (d + 1)))[d]? = some p := pad6_get (by rw [List.getElem?_append_left (by simp; omega), List.getElem?_take, if_pos (by omega)]; exact hp)
        have hg2 : (pad6 (acc.take (d + 1) ++ B.drop (d + 1)))[d + 1]? = some q := pad6_get (by rw [List.getElem?_append_right (by simp; omega), List.getElem?_drop, List.length_take, show d + 1 + (d + 1 - min (d + 1) acc.length) = d + 1 by omega]; exact hq)
        have hset : setL (cellsD (pad6 (acc.take (d + 1) ++ B.drop (d + 1))) false) (0 + d * 2) [.int .i64 (max p.1 (q.1 - x.2)), .int .i64 (min p.2 (q.2 - x.1))] = cellsD (pad6 (acc.take d ++ B.drop d)) false := by
          have := cellsD_set (l := pad6 (acc.take (d + 1) ++ B.drop (d + 1))) (b := false) (d := d) (x := (max p.1 (q.1 - x.2), min p.2 (q.2 - x.1))) (by rw [pad6_len (by omega)]; omega)
          rw [pad6_upd (by omega), take_drop_set hda hBd] at this
          exact this
        have hcll : 0 + d * 2 + 2 ≤ (cellsD (pad6 (acc.take (d + 1) ++ B.drop (d + 1))) false).length := by rw [cellsD_len, pad6_len (by omega)]; omega
        have hc1 := cellsD_cut (b := false) hg1
        have hc2 := cellsD_cut (b := false) hg2
        unfold spL at hc1 hc2
        clear hlast hBb hst
        repeat' (first | (refine GiP ?_; first | (refine Znh ?_) | (with_reducible refine Znl ?_) | (refine Zatn ?_; refine OPS_turnN (Turn_storeG rfl rfl (by repeat (first | exact Up.here | apply Up.there | apply Up.sv)) rfl hcll hset rfl rfl) rfl rfl ?_) | (refine Zatd 93 ?_; refine Zcl (Enters_fn rfl) (common_ret N w0 _ _ _ _ _ _ (by repeat (first | exact Mem.here | assumption | apply Mem.there | apply Mem.sv | apply Mem.app))) ?_) | (refine Zatd 95 ?_; refine Zv ZiA ?_)) | (refine GiW ?_; first | (refine Zsq fun K hK => ?_) | (refine ZrN 17 fun _ => ?_; refine Zv Zmi ?_; refine Zv Zxgeq ?_) | (refine ZrN 18 fun _ => ?_; refine Zv Zmi ?_; refine Zv Zxsub ?_; refine Zv Zai ?_) | (refine WP_cond_true rfl ?_) | (with_reducible apply WP_skip) | (with_reducible apply WP_block) | (refine WP_drawnT (id := 19) [0, 23] [0, 1, 2, 3, 4, 5, 6, 7, 8, 9, 10, 11, 12, 13, 14, 15, 16, 17, 18, 19, 20, 23] [21] (k := 3) prog_mixed (by kernel_rfl) (by kernel_rfl) rfl ?_; refine Zep rfl (fun _ => Zmi) ?_; refine Zew rfl Zmi ?_; refine Zew rfl Zf0 ?_; (first | (refine Zew rfl (Val_indexAddrA (i := d + 1) rfl rfl (by omega) (by omega)) ?_) | (refine Zew rfl (Val_indexAddr (i := d + 1) rfl rfl (by omega) (by omega)) ?_) | (refine Zew rfl ZiA ?_)); (first | (refine Zew rfl (Val_loadN rfl (by repeat (first | exact Mem.here | assumption | apply Mem.there | apply Mem.sv | apply Mem.app)) hc1) ?_) | (refine Zew rfl (Val_loadN rfl (by repeat (first | exact Mem.here | assumption | apply Mem.there | apply Mem.sv | apply Mem.app)) hc2) ?_) | (refine Zew rfl Zla ?_)); refine Zew rfl Zmv ?_; refine Zew rfl Zmi ?_; refine Zew rfl Zxadd ?_; refine Zew rfl Zf0 ?_; (first | (refine Zew rfl (Val_indexAddrA (i := d + 1) rfl rfl (by omega) (by omega)) ?_) | (refine Zew rfl (Val_indexAddr (i := d + 1) rfl rfl (by omega) (by omega)) ?_) | (refine Zew rfl ZiA ?_)); (first | (refine Zew rfl (Val_loadN rfl (by repeat (first | exact Mem.here | assumption | apply Mem.there | apply Mem.sv | apply Mem.app)) hc1) ?_) | (refine Zew rfl (Val_loadN rfl (by repeat (first | exact Mem.here | assumption | apply Mem.there | apply Mem.sv | apply Mem.app)) hc2) ?_) | (refine Zew rfl Zla ?_)); refine Zew rfl Zmv ?_; (first | (refine Zew rfl Zxnp ?_) | (refine Zew rfl Zxnf ?_)); refine Zew rfl Zf0 ?_; refine Zew rfl Zfa ?_; (first | (refine Zew rfl (Val_loadN rfl (by repeat (first | exact Mem.here | assumption | apply Mem.there | apply Mem.sv | apply Mem.app)) hc1) ?_) | (refine Zew rfl (Val_loadN rfl (by repeat (first | exact Mem.here | assumption | apply Mem.there | apply Mem.sv | apply Mem.app)) hc2) ?_) | (refine Zew rfl Zld ?_)); refine Zew rfl Zmi ?_; refine Zew rfl Zxadd ?_; (first | (refine Zew rfl (Val_indexAddrA (i := d + 1) rfl rfl (by omega) (by omega)) ?_) | (refine Zew rfl (Val_indexAddr (i := d + 1) rfl rfl (by omega) (by omega)) ?_) | (refine Zew rfl Zia ?_)); (first | (refine Zew rfl (Val_loadN rfl (by repeat (first | exact Mem.here | assumption | apply Mem.there | apply Mem.sv | apply Mem.app)) hc1) ?_) | (refine Zew rfl (Val_loadN rfl (by repeat (first | exact Mem.here | assumption | apply Mem.there | apply Mem.sv | apply Mem.app)) hc2) ?_) | (refine Zew rfl Zla ?_)); refine Zec rfl (Enters_val rfl rfl) (fun X => earlier_ret N w0 _ q x (by unfold sm; omega) (by unfold sm; omega) (by unfold sm; omega) (by unfold sm; omega)) ?_; refine Zep rfl (fun _ => Zf0) ?_)) | (with_reducible apply EWalk_nil) | (refine GiO ?_; first | (refine AnyO_done (by kernel_rfl) ?_; (try with_reducible apply noP_normal); try with_reducible exact key.out) | (refine AnyO_1 22 (by decide +kernel) rfl ?_) | (refine AnyO_1 24 (by decide +kernel) rfl ?_) | (refine AnyO_1 25 (by decide +kernel) rfl ?_)) | (refine Zhn ?_) | (with_reducible apply QBlock_normal) | (with_reducible apply QAny_normal) | (refine AWalk_1S (d := 92) rfl rfl rfl rfl blk_is (New_buildSliceR rfl rfl (by repeat (first | exact CellsR.nil | (apply CellsR.cA rfl) | (apply CellsR.c1S (by constructor) rfl))) rfl (by decide) rfl (by decide)) (fun b92 => ?_); refine ZisO ?_))
        exact QLoop_normal d (.cons rfl .nil) (by repeat (first | exact Off.frame rfl | exact Off.refl _ _ | refine Off.frameT rfl rfl ?_ | refine Off.upd rfl ?_ | refine Off.updO rfl ?_)) (by repeat (first | exact Wk.refl _ | apply Wk.keep1 | apply Wk.drop | apply Wk.sv | apply Wk.svD | apply Wk.appD)) (by omega) (Nat.lt_succ_self _)
      | zero =>
        have e0 : ((0 : Nat) : Int) - 1 = -1 := rfl
        rw [e0, List.take_zero, List.nil_append, List.drop_zero]
        have hB6 : (pad6 B).length = 6 := pad6_len (by omega)
        have hput : setL (cellsD (pad6 B) false) (0 + 12) [.bool true] = lv := by rw [hyes]; exact cellsD_put hB6
        have hpl : 0 + 12 + 1 ≤ (cellsD (pad6 B) false).length := by rw [cellsD_len, hB6]; omega
        have hcut : Cut lv 0 13 lv := Cut.whole hlen
        clear hlast hBb hst hyes hab
        repeat' (first | (refine GiP ?_; first | (refine Znh ?_) | (with_reducible refine Znl ?_) | (refine Zatn ?_; refine OPS_turnN (Turn_mapUpdate rfl rfl hin rfl (by rw [hF]; rfl) (by repeat (first | exact Up.here | apply Up.there | apply Up.sv)) hg) rfl rfl ?_)) | (refine GiW ?_; first | (refine Zsq fun K hK => ?_) | (refine ZrN 17 fun _ => ?_; refine Zv Zmi ?_; refine Zv Zxgeq ?_) | (refine ZrN 20 fun _ => ?_; refine Zv Zfa ?_; (first | (refine Zst ?_) | (refine OPS_turnN (Turn_storeG rfl rfl (by repeat (first | exact Up.here | apply Up.there | apply Up.sv)) rfl hpl hput rfl rfl) rfl rfl ?_) | (refine OPS_turnN (Turn_storeG rfl rfl (by repeat (first | exact Up.here | apply Up.there | apply Up.sv)) rfl (by simp [hlen]) (setL_whole rfl) hlen hones) rfl rfl ?_))) | (refine ZrN 22 fun _ => ?_; (first | (refine Zv (Val_loadN rfl (by repeat (first | exact Mem.here | assumption | apply Mem.there | apply Mem.sv | apply Mem.app)) hcut) ?_) | (refine Zv Zla ?_)); (first | (refine Zst ?_) | (refine OPS_turnN (Turn_storeG rfl rfl (by repeat (first | exact Up.here | apply Up.there | apply Up.sv)) rfl hpl hput rfl rfl) rfl rfl ?_) | (refine OPS_turnN (Turn_storeG rfl rfl (by repeat (first | exact Up.here | apply Up.there | apply Up.sv)) rfl (by simp [hlen]) (setL_whole rfl) hlen hones) rfl rfl ?_))) | (refine WP_cond_false rfl ?_) | (with_reducible apply WP_exit) | (with_reducible apply WP_ret) | (refine WP_drawn (id := 21) [0, 1, 2, 3, 4, 5] [] (k := 1) prog_mixed (by kernel_rfl) rfl ?_; refine Zew rfl Zmv ?_; (first | (refine Zew rfl Zxnp ?_) | (refine Zew rfl Zxnf ?_)); refine Zew rfl Zfa ?_; (first | (refine Zew rfl (Val_loadN rfl (by repeat (first | exact Mem.here | assumption | apply Mem.there | apply Mem.sv | apply Mem.app)) hcut) ?_) | (refine Zew rfl Zld ?_)); (first | (refine Zew rfl (Val_loadN rfl (by repeat (first | exact Mem.here | assumption | apply Mem.there | apply Mem.sv | apply Mem.app)) hcut) ?_) | (refine Zew rfl Zla ?_)); (first | (refine Zew rfl (Val_loadN rfl (by repeat (first | exact Mem.here | assumption | apply Mem.there | apply Mem.sv | apply Mem.app)) hcut) ?_) | (refine Zew rfl Zla ?_)))) | (with_reducible apply EWalk_nil) | (refine GiO ?_; first | (refine AnyO_done (by kernel_rfl) ?_; (try with_reducible apply noP_normal); try with_reducible exact key.out) | (refine AnyO_1 6 (by decide +kernel) rfl ?_)) | (refine Zhn ?_) | (refine Zhx ?_) | (with_reducible apply QBlock_hit) | (with_reducible apply QLoop_exit) | (with_reducible apply QAny_normal) | (refine AWalk_0 ?_; refine ZisO ?_))
        exact QBody_res rfl (.cellN rfl (by repeat (first | exact Mem.here | assumption | apply Mem.there | apply Mem.sv | apply Mem.app)) hcut .nil) rfl ⟨rfl, (by repeat (first | exact Wk.refl _ | apply Wk.keep1 | apply Wk.drop | apply Wk.sv | apply Wk.svD | apply Wk.appD))⟩
  · simp only [if_true] at hlook
    repeat' (first | (refine GiP ?_; first | (refine Znh ?_) | (with_reducible refine Znl ?_) | (refine Zatn ?_; refine OPS_turnN (Turn_storeG rfl rfl (by repeat (first | exact Up.here | apply Up.there | apply Up.sv)) rfl (by simp [hlen]) (setL_whole (by rw [hlen]; rfl)) hlen hones) rfl rfl ?_) | (refine Zatd 6 ?_; refine Zv Zab ?_)) | (refine GiW ?_; first | (refine Zsq fun K hK => ?_) | (refine ZrN 0 fun _ => ?_; refine Zal 3 fun b3 => ?_; refine Zal 4 fun b4 => ?_) | (refine ZrN 2 fun _ => ?_; refine Zv Zmb ?_) | (refine ZrN 3 fun _ => ?_; refine Zv Zla ?_; (first | (refine Zst ?_) | (refine OPS_turnN (Turn_storeG rfl rfl (by repeat (first | exact Up.here | apply Up.there | apply Up.sv)) rfl (by simp [hlen]) (setL_whole (by rw [hlen]; rfl)) hlen hones) rfl rfl ?_))) | (refine WP_cond_true rfl ?_) | (with_reducible apply WP_ret) | (refine WP_drawnT (id := 1) [8] [0, 1, 2, 3, 4, 5, 6, 7, 8] [9] (k := 2) prog_mixed (by kernel_rfl) (by kernel_rfl) rfl ?_; refine Zew rfl Zmv ?_; (first | (refine Zew rfl Zxnp ?_) | (refine Zew rfl Zxnf ?_)); refine Zew rfl Zfa ?_; refine Zew rfl Zld ?_; refine Zew rfl Zla ?_; refine Zew rfl (hlook rfl rfl (by repeat (first | exact Mem.here | assumption | apply Mem.there | apply Mem.sv | apply Mem.app))) ?_; refine Zew rfl Zmv ?_; refine Zew rfl Zxex ?_; refine Zep rfl (fun _ => Zxex) ?_)) | (with_reducible apply EWalk_nil) | (refine GiO ?_; first | (refine AnyO_done (by kernel_rfl) ?_; (try with_reducible apply noP_normal); try with_reducible exact key.out) | (refine AnyO_1 10 (by decide +kernel) rfl ?_) | (refine AnyO_1 11 (by decide +kernel) rfl ?_)) | (refine Zhn ?_) | (refine Zhr ?_) | (refine AWalk_1S (d := 5) rfl rfl rfl rfl blk_is New_alloc (fun b5 => ?_); refine ZisO ?_) | (with_reducible apply QAny_normal))
    refine QBody_res rfl (.cellN rfl (by repeat (first | exact Mem.here | assumption | apply Mem.there | apply Mem.sv | apply Mem.app)) (Cut.whole hlen) .nil) rfl ⟨rfl, ?_⟩
    exact .drop (.drop (.drop (.keep (fun o ho => ⟨es, clock, ho, hg⟩) (.refl _))))
end
end Go.Proofs.Ytkaadefndcbdnaa
