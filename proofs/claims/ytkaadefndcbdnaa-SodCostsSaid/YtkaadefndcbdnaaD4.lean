/- The law SodCosts: its walk. -/
import Derived.Test.YtkaadefndcbdnaaC4
import Derived.Test.YtkaadefndcbdnaaQg
import Derived.Test.YtkaadefndcbdnaaQh
namespace Go.Proofs.Ytkaadefndcbdnaa
open Go.RowKit
theorem SpitOk_in {s : Sd} {p : Nat} (hp : p < s.spits.length) : SpitOk s p = true := by
  simp only [SpitOk, within, Bool.and_eq_true, decide_eq_true_eq]; omega
theorem CostV_no {s : Sd} (v : VS s) {p : Nat} (hp : p < s.spits.length) (h0 : toldC s = []) : CostV s p = (0, 0) ∧ errE s (SpitOk s p) = 10 := by
  rcases errE_of v (SpitOk_in hp) with ⟨_, h⟩ | ⟨h, _⟩
  · exact ⟨by unfold CostV; rw [h, if_neg (by omega)], h⟩
  · exact absurd h0 h
theorem CostV_yes {s : Sd} (v : VS s) {p : Nat} (hp : p < s.spits.length) (h0 : toldC s ≠ []) : CostV s p = costV s p ∧ errE s (SpitOk s p) = 0 := by
  rcases errE_of v (SpitOk_in hp) with ⟨h, _⟩ | ⟨_, h⟩
  · exact absurd h h0
  · exact ⟨by unfold CostV; rw [h, if_pos rfl]; simp, h⟩
theorem ClashE_no {s : Sd} (v : VS s) (h0 : toldC s = []) : ClashE s = 0 := by
  rcases clash_facts v with ⟨h, _⟩ | ⟨_, h, _⟩
  · exact absurd h0 (someB_told.1 h)
  · exact h
theorem ClashE_yes {s : Sd} (v : VS s) (h0 : toldC s ≠ []) : ClashE s = 4 ∧ ClashV s = 0 := by
  rcases clash_facts v with ⟨_, h, h'⟩ | ⟨h, _⟩
  · exact ⟨h, h'⟩
  · rw [someB_told.2 h0] at h; cases h
theorem setL_cost : ∀ (l : List Spt) (p : Nat) (c : Int), p < l.length → setL ((l.map sptL).flatten) (p * 3 + 1) [.int .i64 c, .int .i64 c] = ((l.set p ⟨(l.getD p ⟨0, 0, 0⟩).sods, c, c⟩).map sptL).flatten
  | [], p, c, h => by simp at h
  | x :: l, 0, c, _ => by simp [setL, sptL]
  | x :: l, p + 1, c, h => by
    have ih := setL_cost l p c (by simpa using h)
    rw [List.set_cons_succ, List.map_cons, List.map_cons, List.flatten_cons, List.flatten_cons, List.getD_cons_succ, ← ih, show (p + 1) * 3 + 1 = p * 3 + 1 + 1 + 1 + 1 by omega]
    show setL (_ :: _ :: _ :: _) _ _ = _
    rw [setL_cons, setL_cons, setL_cons]
    rfl
/-- A bank with other spits, laid anew. -/
theorem in_spits {N : Nat} {w0 : World} {g : Fg} (hin : ∀ L, SodIn N w0 L g) (ls : List Spt) {b cap : Nat} {xs : List Value} (hx : xs = (ls.map sptL).flatten) {L' : Hp} (hm : Mem b (Row 55 3 ls.length cap xs) L') :
    SodIn N w0 L' { g with s := { g.s with spits := ls }, A1 := some ⟨b, 0, none⟩, c1 := cap } := by
  intro w hI
  have hb := hin L' w hI
  refine ⟨sl_row hI hm hx (map_len (f := sptL) (fun _ => rfl) _), hb.days, hb.logs, ?_, hb.cap3⟩
  obtain ⟨_, _, cur, _, hc1, _⟩ := hI.obj' hm
  exact hc1
attribute [local irreducible] AnyO AnyB QAny QB EWalk AWalk Ev WP OPS QThen QBlock QScope QLoop QBody Val New Turn Tri Enters PostA Blk Ro
attribute [local irreducible] AnyC QC
section
variable (N : Nat) (w0 : World)
theorem costs_law0 (L : Hp) (g : Fg) (hA : SodAt N w0 g) (a b : Nat) (h : vB g.s = false) : Ret Try.prog N w0 L 7 [sodV g, .int .u8 (a : Int), .int .u8 (b : Int)].toArray (.bool true) := by
  have h28 := fun L => fine_in N w0 L g (SodIn.at_ hA)
  have h13 := fun L => awake_ret N w0 L
  rw [h] at h28
  refine Ret.fgt ?_
  refine tri_of_WP Try.func7 rfl (n := 178) rfl (by simp) ?_
  unfold sodV sdL at h28 ⊢
  repeat' (first | (refine GiP ?_; first | (refine Znh ?_) | (with_reducible refine Znl ?_)) | (refine GiW ?_; first | (refine Zsq fun K hK => ?_) | (refine ZrN 0 fun _ => ?_; refine Zal 3 fun b3 => ?_; refine Zv Zab ?_) | (refine ZrN 1 fun _ => ?_; refine Zv Zla ?_; refine Zcl (Enters_fn rfl) (h28 _) ?_; refine Zv Zxnot ?_) | (refine ZrN 2 fun _ => ?_; refine Zcl (Enters_fn rfl) (h13 _) ?_; refine Zv Zab ?_) | (refine WP_cond_true rfl ?_) | (refine WP_cond_false rfl ?_) | (refine Zcd (fun hc => ?_) (fun hc => ?_) <;> (try (exfalso; omega))) | (with_reducible apply WP_skip) | (with_reducible apply WP_block) | (with_reducible apply WP_exit) | (with_reducible apply WP_ret)) | (refine Zhn ?_) | (with_reducible apply QBlock_normal) | (refine Zhx ?_) | (with_reducible apply QBlock_hit) | (refine Zqb ?_) | (with_reducible apply QLoop_exit) | (refine Zhr ?_) | (with_reducible apply QBlock_ret) | (with_reducible apply QLoop_ret))
  exact QBody_ret1 rfl (rfl : _ = Value.bool _) ⟨rfl, (by repeat (first | exact Wk.refl _ | apply Wk.keep1 | apply Wk.drop | apply Wk.sv | apply Wk.svD | apply Wk.appD))⟩
set_option maxRecDepth 100000 in
set_option maxHeartbeats 4000000 in
theorem costs_law1 (L : Hp) (g : Fg) (hA : SodAt N w0 g) (a b : Nat) (ha8 : a ≤ 255) (hb8 : b ≤ 255) (hvb : vB g.s = true) : Ret Try.prog N w0 L 7 [sodV g, .int .u8 (a : Int), .int .u8 (b : Int)].toArray (.bool true) := by
  have hv := VS_of hvb
  have hnd := hv.nd
  have hnp := hv.np
  have hin : ∀ L, SodIn N w0 L g := fun L => SodIn.at_ hA
  have h28 := fun L => fine_in N w0 L g (hin L)
  have h13 := fun L => awake_ret N w0 L
  rw [hvb] at h28
  obtain ⟨p, hpp⟩ : ∃ p, a % g.s.spits.length = p := ⟨_, rfl⟩
  have hp : p < g.s.spits.length := by rw [← hpp]; exact Nat.mod_lt _ (by omega)
  obtain ⟨d, hdd⟩ : ∃ d, b % g.s.days.length = d := ⟨_, rfl⟩
  have hd : d < g.s.days.length := by rw [← hdd]; exact Nat.mod_lt _ (by omega)
  have h16 := fun L => Cost_in N w0 L g (hin L) (by omega) p
  have h14 := fun L => Cut_in N w0 L g (hin L) (by omega) d
  have h26 := fun L => Clash_in N w0 L g (hin L) (by omega)
  obtain ⟨q, hq⟩ : ∃ q, g.s.spits[p] = q := ⟨_, rfl⟩
  have hqv := hv.sp q (by rw [← hq]; exact List.getElem_mem hp)
  obtain ⟨bA, oA, hA1, hbA, hcA⟩ := hA.spits.row p hp
  rw [hq] at hcA
  have hc1 : w0.cell? ⟨bA, oA + p * 3 + 1, none⟩ = some (.int .i64 q.lo) := RoAt hcA 1 _ rfl
  have hc2 : w0.cell? ⟨bA, oA + p * 3 + 1 + 1, none⟩ = some (.int .i64 q.hi) := RoAt hcA 2 _ rfl
  refine Ret.fgt ?_
  refine tri_of_WP Try.func7 rfl (n := 178) rfl (by simp) ?_
  unfold sodV sdL at h28 h16 h14 h26 ⊢
  have h32 := fun L x y => span32_ret N w0 L x y
  obtain ⟨E, hE⟩ : ∃ E, errE g.s (SpitOk g.s p) = E := ⟨_, rfl⟩
  have hcut2 : errE g.s (DayOk g.s d) = E := by
    rcases errE_of hv (SpitOk_in hp) with ⟨u, h1⟩ | ⟨u, h1⟩
    · rw [(CutV_no hv hd u).2, ← hE, h1]
    · rw [(CutV_yes hv hd u).2, ← hE, h1]
  obtain ⟨ce, hce⟩ : ∃ x, ClashE g.s = x := ⟨_, rfl⟩
  rw [hce] at h26
  rw [hE] at h16
  rw [hcut2] at h14
  have hsrc : ∀ L', ∀ w, Inv N w0 L' w → ∀ j u, ((g.s.spits.map sptL).flatten)[j]? = some u → ∃ b o, g.A1 = some ⟨b, o, none⟩ ∧ w.cell? ⟨b, o + j, none⟩ = some u := fun L' w hI => (hin L' w hI).spits.flat (by omega) (map_len (f := sptL) (fun _ => rfl) _)
  have hl2 : ((g.s.spits.map sptL).flatten).length = g.s.spits.length * (2 + 1) := map_flat (f := sptL) (fun _ => rfl) _
  have ho2 : ones ((g.s.spits.map sptL).flatten) = true := ones_flat (map_ones (f := sptL) (fun _ => rfl) _)
  have hA1n : g.A1 = none → g.s.spits.length = 0 := fun hh => by rw [hA1] at hh; cases hh
  obtain ⟨s1, s2, s3⟩ := q
  dsimp only at hc1 hc2 hqv
  have hqp : s1 = g.s.spits[p].sods ∧ s2 = g.s.spits[p].lo ∧ s3 = g.s.spits[p].hi := by rw [hq]; exact ⟨rfl, rfl, rfl⟩
  repeat' (first | (refine GiP ?_; first | (refine Znh ?_) | (with_reducible refine Znl ?_)) | (refine GiW ?_; first | (refine Zsq fun K hK => ?_) | (refine ZrN 0 fun _ => ?_; refine Zal 3 fun b3 => ?_; refine Zv Zab ?_) | (refine ZrN 1 fun _ => ?_; refine Zv Zla ?_; refine Zcl (Enters_fn rfl) (h28 _) ?_; refine Zv Zxnot ?_) | (refine ZrN 4 fun _ => ?_; refine Zv Zla ?_; refine Zv Zmi ?_; refine Zcl (Enters_fn rfl) (h16 _) ?_; refine Zv Zmv ?_; refine Zv Zxex ?_; refine Zv Zxex ?_; refine Zal 9 fun b9 => ?_; refine Zst ?_; refine Zv Zai ?_) | (refine ZrN 5 fun _ => ?_; refine Zv Zla ?_; refine Zv Zmi ?_; refine Zcl (Enters_fn rfl) (h14 _) ?_; refine Zv Zmv ?_; refine Zv Zxex ?_; refine Zv Zxex ?_; refine Zal 11 fun b11 => ?_; refine Zst ?_; refine Zv Zai ?_) | (refine ZrN 6 fun _ => ?_; refine Zv Zla ?_; refine Zcl (Enters_fn rfl) (h26 _) ?_; refine Zv Zmv ?_; refine Zv Zxex ?_; refine Zv Zxex ?_; refine Zv Zai ?_; refine Zv Zai ?_) | (refine WP_cond_true rfl ?_) | (refine WP_cond_false rfl ?_) | (refine Zcd (fun hc => ?_) (fun hc => ?_) <;> (try (exfalso; omega))) | (with_reducible apply WP_skip) | (with_reducible apply WP_block) | (with_reducible apply WP_exit) | (with_reducible apply WP_ret) | (refine WP_drawn (id := 3) [0, 1, 2, 3, 4, 5, 6, 7, 8, 9, 10, 11, 12, 13] [] (k := 0) prog_mixed (by kernel_rfl) rfl ?_; refine Zew rfl Zmi ?_; refine Zew rfl Zxco ?_; refine Zew rfl Zf0 ?_; refine Zew rfl Zld ?_; refine Zew rfl Zxlen ?_; (first | (refine Zew rfl (Val_remE2 hpp (by omega) rfl rfl) ?_) | (refine Zew rfl (Val_remE2 hdd (by omega) rfl rfl) ?_)); refine Zew rfl Zmi ?_; refine Zew rfl Zxco ?_; refine Zew rfl Zfa ?_; refine Zew rfl Zld ?_; refine Zew rfl Zxlen ?_; (first | (refine Zew rfl (Val_remE2 hpp (by omega) rfl rfl) ?_) | (refine Zew rfl (Val_remE2 hdd (by omega) rfl rfl) ?_)); refine Zew rfl Zai ?_; refine Zew rfl Zai ?_)) | (with_reducible apply EWalk_nil) | (refine AnyO_done (by kernel_rfl) ?_; (try with_reducible apply noP_normal); try with_reducible exact key.out) | (refine Zhn ?_) | (with_reducible apply QBlock_normal) | (refine Zhx ?_) | (with_reducible apply QBlock_hit) | (refine Zqb ?_) | (with_reducible apply QLoop_exit) | (refine Zhr ?_) | (with_reducible apply QBlock_ret) | (with_reducible apply QLoop_ret) | (refine AWalk_0 ?_; refine ZisO ?_) | (with_reducible apply QAny_normal))
  obtain ⟨av, hav⟩ : ∃ x, CostV g.s p = x := ⟨_, rfl⟩
  obtain ⟨bv, hbv⟩ : ∃ x, CutV g.s d = x := ⟨_, rfl⟩
  rw [hav, hbv]
  refine WP_joinS (by assumption) [53, 54, 55, 56, 57, 58, 59, 60, 61, 62, 63, 64, 65, 66, 67, 68, 69, 70, 71, 72, 73, 74, 75] (fun _ : Unit => [(75, .bool false)]) (fun _ => (b11, Blk 28 [.int .i64 bv.1, .int .i64 bv.2]) :: (b9, Blk 28 [.int .i64 av.1, .int .i64 av.2]) :: (b3, Blk 26 [.slice g.A1 g.s.spits.length g.c1, .slice g.A2 g.s.days.length g.c2, .slice g.A3 g.s.logs.length g.c3]) :: L) (fun _ => True) ?_ ?_
  · intro K' hC
    by_cases h0 : toldC g.s = []
    · obtain ⟨a1, a2⟩ := CostV_no hv hp h0
      obtain rfl : ce = 0 := by rw [← hce, ClashE_no hv h0]
      obtain rfl : av = (0, 0) := by rw [← hav, a1]
      obtain rfl : E = 10 := by rw [← hE, a2]
      repeat' (first | (refine GiP ?_; first | (refine Znh ?_) | (with_reducible refine Znl ?_) | (refine Zatd 62 ?_; (first | (refine Zv Zxpt ?_) | (refine Zv Zxpf ?_)); refine Zv Zmb ?_) | (refine Zatd 75 ?_; (first | (refine Zv Zxpt ?_) | (refine Zv Zxpf ?_))) | (refine Zatd 57 ?_; refine Zv Zmi ?_) | (refine Zatd 58 ?_; refine Zv Zyeql ?_) | (refine Zatd 59 ?_; refine Zv Zmi ?_) | (refine Zatd 60 ?_; refine Zv Zyeql ?_) | (refine Zatd 61 ?_; refine Zv (Val_neqS rfl rfl rfl rfl (by omega) (by omega)) ?_) | (refine Zatd 61 ?_; refine Zv (ZxneqB) ?_) | (refine Zatd 61 ?_; refine Zv (Zyneq) ?_) | (refine Zatd 64 ?_; refine Zv Zmi ?_) | (refine Zatd 65 ?_; refine Zv (Val_neqS rfl rfl rfl rfl (by omega) (by omega)) ?_) | (refine Zatd 65 ?_; refine Zv (ZxneqB) ?_) | (refine Zatd 65 ?_; refine Zv (Zyneq) ?_) | (refine Zatd 66 ?_; refine Zv Zmb ?_) | (refine Zatd 67 ?_; refine Zv Zmi ?_) | (refine Zatd 68 ?_; refine Zv (Val_neqS rfl rfl rfl rfl (by omega) (by omega)) ?_) | (refine Zatd 68 ?_; refine Zv (ZxneqB) ?_) | (refine Zatd 68 ?_; refine Zv (Zyneq) ?_) | (refine Zatd 69 ?_; refine Zv Zmb ?_) | (refine Zatd 70 ?_; refine Zv Zla ?_) | (refine Zatd 71 ?_; refine Zv Zxbu ?_) | (refine Zatd 72 ?_; refine Zv (Val_neqS rfl rfl rfl rfl (by omega) (by omega)) ?_) | (refine Zatd 72 ?_; refine Zv (ZxneqB) ?_) | (refine Zatd 72 ?_; refine Zv (Zyneq) ?_) | (refine Zatd 73 ?_; refine Zv Zxpt ?_) | (refine Zatd 73 ?_; refine Zv Zxpf ?_) | (refine Zatd 74 ?_; refine Zv Zxpt ?_) | (refine Zatd 74 ?_; refine Zv Zxpf ?_) | (refine Zsk ?_) | (refine Zsp (fun hc => ?_) (fun hc => ?_) <;> (try (exfalso; omega)))) | (refine GiW ?_; first | (refine Zsq fun K hK => ?_) | (refine ZrG 7 ?_; refine Zv Zmi ?_; refine Zv Zmi ?_; (first | (refine Zv (Val_neqS rfl rfl rfl rfl (by omega) (by omega)) ?_) | (refine Zv (ZxneqB) ?_) | (refine Zv (Zyneq) ?_)); refine Zv Zmb ?_) | (refine WP_cond_true rfl ?_) | (refine WP_cond_false rfl ?_) | (refine Zcd (fun hc => ?_) (fun hc => ?_) <;> (try (exfalso; omega))) | (with_reducible apply WP_skip) | (with_reducible apply WP_block) | (with_reducible apply WP_exit) | (with_reducible apply WP_ret)) | (refine Zhn ?_) | (with_reducible apply QBlock_normal) | (refine Zhx ?_) | (with_reducible apply QBlock_hit) | (refine Zqb ?_) | (with_reducible apply QLoop_exit) | (refine Zhr ?_) | (with_reducible apply QBlock_ret) | (with_reducible apply QLoop_ret))
      all_goals exact hC.nor () _ _ (.cons rfl .nil) (by repeat (first | exact Off.frame rfl | exact Off.refl _ _ | refine Off.frameT rfl rfl ?_ | refine Off.upd rfl ?_ | refine Off.updO rfl ?_)) (by repeat (first | exact Sub.nil | exact Sub.refl _ | assumption | exact Sub.left | apply Sub.svK | apply Sub.sv | apply Sub.cons | apply Sub.app)) trivial
    · obtain ⟨a1, a2⟩ := CostV_yes hv hp h0
      obtain rfl : ce = 4 := by rw [← hce, (ClashE_yes hv h0).1]
      obtain rfl : E = 0 := by rw [← hE, a2]
      repeat' (first | (refine GiP ?_; first | (refine Znh ?_) | (with_reducible refine Znl ?_) | (refine Zatd 62 ?_; (first | (refine Zv Zxpt ?_) | (refine Zv Zxpf ?_)); refine Zv Zmb ?_) | (refine Zatd 75 ?_; (first | (refine Zv Zxpt ?_) | (refine Zv Zxpf ?_))) | (refine Zatd 57 ?_; refine Zv Zmi ?_) | (refine Zatd 58 ?_; refine Zv Zyeql ?_) | (refine Zatd 59 ?_; refine Zv Zmi ?_) | (refine Zatd 60 ?_; refine Zv Zyeql ?_) | (refine Zatd 61 ?_; refine Zv (Val_neqS rfl rfl rfl rfl (by omega) (by omega)) ?_) | (refine Zatd 61 ?_; refine Zv (ZxneqB) ?_) | (refine Zatd 61 ?_; refine Zv (Zyneq) ?_) | (refine Zatd 64 ?_; refine Zv Zmi ?_) | (refine Zatd 65 ?_; refine Zv (Val_neqS rfl rfl rfl rfl (by omega) (by omega)) ?_) | (refine Zatd 65 ?_; refine Zv (ZxneqB) ?_) | (refine Zatd 65 ?_; refine Zv (Zyneq) ?_) | (refine Zatd 66 ?_; refine Zv Zmb ?_) | (refine Zatd 67 ?_; refine Zv Zmi ?_) | (refine Zatd 68 ?_; refine Zv (Val_neqS rfl rfl rfl rfl (by omega) (by omega)) ?_) | (refine Zatd 68 ?_; refine Zv (ZxneqB) ?_) | (refine Zatd 68 ?_; refine Zv (Zyneq) ?_) | (refine Zatd 69 ?_; refine Zv Zmb ?_) | (refine Zatd 70 ?_; refine Zv Zla ?_) | (refine Zatd 71 ?_; refine Zv Zxbu ?_) | (refine Zatd 72 ?_; refine Zv (Val_neqS rfl rfl rfl rfl (by omega) (by omega)) ?_) | (refine Zatd 72 ?_; refine Zv (ZxneqB) ?_) | (refine Zatd 72 ?_; refine Zv (Zyneq) ?_) | (refine Zatd 73 ?_; refine Zv Zxpt ?_) | (refine Zatd 73 ?_; refine Zv Zxpf ?_) | (refine Zatd 74 ?_; refine Zv Zxpt ?_) | (refine Zatd 74 ?_; refine Zv Zxpf ?_) | (refine Zsk ?_) | (refine Zsp (fun hc => ?_) (fun hc => ?_) <;> (try (exfalso; omega)))) | (refine GiW ?_; first | (refine Zsq fun K hK => ?_) | (refine ZrG 7 ?_; refine Zv Zmi ?_; refine Zv Zmi ?_; (first | (refine Zv (Val_neqS rfl rfl rfl rfl (by omega) (by omega)) ?_) | (refine Zv (ZxneqB) ?_) | (refine Zv (Zyneq) ?_)); refine Zv Zmb ?_) | (refine WP_cond_true rfl ?_) | (refine WP_cond_false rfl ?_) | (refine Zcd (fun hc => ?_) (fun hc => ?_) <;> (try (exfalso; omega))) | (with_reducible apply WP_skip) | (with_reducible apply WP_block) | (with_reducible apply WP_exit) | (with_reducible apply WP_ret)) | (refine Zhn ?_) | (with_reducible apply QBlock_normal) | (refine Zhx ?_) | (with_reducible apply QBlock_hit) | (refine Zqb ?_) | (with_reducible apply QLoop_exit) | (refine Zhr ?_) | (with_reducible apply QBlock_ret) | (with_reducible apply QLoop_ret))
      all_goals exact hC.nor () _ _ (.cons rfl .nil) (by repeat (first | exact Off.frame rfl | exact Off.refl _ _ | refine Off.frameT rfl rfl ?_ | refine Off.upd rfl ?_ | refine Off.updO rfl ?_)) (by repeat (first | exact Sub.nil | exact Sub.refl _ | assumption | exact Sub.left | apply Sub.svK | apply Sub.sv | apply Sub.cons | apply Sub.app)) trivial
  intro _ j _
  have h39 := fun L => inside_ret N w0 L
  repeat' (first | (refine GiP ?_; first | (refine Znh ?_) | (with_reducible refine Znl ?_)) | (refine GiW ?_; first | (refine Zsq fun K hK => ?_) | (refine ZrN 9 fun _ => ?_; refine Zcl (Enters_fn rfl) (h32 _ _ _) ?_; refine Zal 15 fun b15 => ?_; refine Zst ?_) | (refine ZrN 10 fun _ => ?_; refine Zv Zf0 ?_; refine Zv Zld ?_; refine Zv Zmi ?_; refine Zv Zia ?_; refine Zv Zfa ?_; refine Zv Zf0 ?_; refine Zv Zld ?_; refine Zv Zai ?_) | (refine WP_cond_true rfl ?_) | (refine WP_cond_false rfl ?_) | (refine Zcd (fun hc => ?_) (fun hc => ?_) <;> (try (exfalso; omega))) | (with_reducible apply WP_skip) | (with_reducible apply WP_block) | (with_reducible apply WP_exit) | (with_reducible apply WP_ret)) | (refine Zhn ?_) | (with_reducible apply QBlock_normal) | (refine Zhx ?_) | (with_reducible apply QBlock_hit) | (refine Zqb ?_) | (with_reducible apply QLoop_exit) | (refine Zhr ?_) | (with_reducible apply QBlock_ret) | (with_reducible apply QLoop_ret))
  refine WP_loop [6, 16, 17, 18, 19, 84, 85, 86, 87, 88, 89, 90, 91, 92, 93, 94, 95, 96, 97, 98, 99, 100, 101, 102, 103, 104, 105, 106, 107, 108, 109, 110, 111, 112, 113, 114, 115, 116, 117, 118, 119, 120, 121, 122, 123, 124, 125, 126, 127, 128, 129, 130, 131, 132, 133, 134, 135, 136, 137, 138, 139, 140, 141, 142, 143, 144, 145, 146, 147, 148, 149, 150, 151, 152, 153, 154, 155, 156, 157, 158, 159, 160, 161, 162, 163, 164, 165, 166, 167] (fun k : Nat => [(16, .int .i64 (s2 + (k : Int)))]) (fun k => (b15, Blk 28 [.int .i64 (jo (byC g.s p d s2 k)).1, .int .i64 (jo (byC g.s p d s2 k)).2]) :: (b11, Blk 28 [.int .i64 bv.1, .int .i64 bv.2]) :: (b9, Blk 28 [.int .i64 av.1, .int .i64 av.2]) :: (b3, Blk 26 [.slice g.A1 g.s.spits.length g.c1, .slice g.A2 g.s.days.length g.c2, .slice g.A3 g.s.logs.length g.c3]) :: L) (fun k => s2 + k ≤ s3 + 1) (fun k => (s3 + 1 - (s2 + k)).toNat) 0 (.cons (by rw [Int.natCast_zero, Int.add_zero]; rfl) .nil) (Wk.refl _) (by omega) ?_
  intro k j2 hk
  obtain ⟨c, hc⟩ : ∃ c, s2 + (k : Int) = c := ⟨_, rfl⟩
  rw [hc] at hk ⊢
  by_cases hle : c ≤ s3
  · have hset : setL (g.s.spits.map sptL).flatten (0 + p * 3 + 1) [.int .i64 c, .int .i64 c] = ((setC g.s p c).spits.map sptL).flatten := by
      rw [Nat.zero_add, setL_cost _ _ _ hp]; rfl
    have hcr : g.s.spits[p].lo ≤ c ∧ c ≤ g.s.spits[p].hi := by omega
    obtain ⟨k1, k2⟩ := costs_one hv hp hcr
    have v' := VS_setC hv hp hcr
    repeat' (first | (refine GiP ?_; first | (refine Znh ?_) | (with_reducible refine Znl ?_)) | (refine GiW ?_; first | (refine Zsq fun K hK => ?_) | (refine ZrN 11 fun _ => ?_; refine Zv Zmi ?_; refine Zv Zf0 ?_; refine Zv Zld ?_; refine Zv Zmi ?_; refine Zv Zia ?_; refine Zv Zfa ?_; refine Zv Zfa ?_; refine Zv Zld ?_; refine Zv Zyleq ?_) | (refine ZrN 13 fun _ => ?_; refine Zv Zla ?_; refine Zal 17 fun b17 => ?_; refine Zst ?_) | (refine ZrN 14 fun _ => ?_; refine Zbs fun b96 => ?_; refine Zv Zf0 ?_; refine Zv Zld ?_; refine OPS_append0 rfl rfl rfl (by intro s9; repeat (first | exact Grow.here | apply Grow.there | apply Grow.sv | apply Grow.app)) svOk0 (hsrc _) hA1n hl2 ho2 (by simp only [maxLen]; omega) (by omega) (fun s99 hs99 => ?_); refine Zv Zf0 ?_; refine Zst ?_) | (refine WP_cond_true rfl ?_) | (refine WP_cond_false rfl ?_) | (refine Zcd (fun hc => ?_) (fun hc => ?_) <;> (try (exfalso; omega))) | (with_reducible apply WP_skip) | (with_reducible apply WP_block) | (with_reducible apply WP_exit) | (with_reducible apply WP_ret)) | (refine Zhn ?_) | (with_reducible apply QBlock_normal) | (refine Zhx ?_) | (with_reducible apply QBlock_hit) | (refine Zqb ?_) | (with_reducible apply QLoop_exit) | (refine Zhr ?_) | (with_reducible apply QBlock_ret) | (with_reducible apply QLoop_ret))
    cases s99 with
    | none => exact absurd (hs99.2 rfl) (by omega)
    | some pr =>
    obtain ⟨bR, cap⟩ := pr
    dsimp only [svH, svV]
    have hlen : (setC g.s p c).spits.length = g.s.spits.length := by show (g.s.spits.set p _).length = _; rw [List.length_set]
    obtain ⟨h, hh⟩ : ∃ h, errE (setC g.s p c) (DayOk (setC g.s p c) d) = h := ⟨_, rfl⟩
    obtain ⟨nv, hnv⟩ : ∃ n, CutV (setC g.s p c) d = n := ⟨_, rfl⟩
    have h14c : ∀ L', Mem bR (Row 55 3 g.s.spits.length cap ((setC g.s p c).spits.map sptL).flatten) L' → Ret Try.prog N w0 L' 14 [.agg [.slice (some ⟨bR, 0, none⟩) g.s.spits.length cap, .slice g.A2 g.s.days.length g.c2, .slice g.A3 g.s.logs.length g.c3].toArray, .int .i64 d].toArray (.tuple [.agg [.int .i64 nv.1, .int .i64 nv.2].toArray, .int .i64 h].toArray) := by
      intro L' hm
      rw [← hlen] at hm
      have h1 := Cut_in N w0 L' _ (in_spits hin (setC g.s p c).spits rfl hm) (by show g.s.days.length ≤ 1000; omega) d
      unfold sodV sdL at h1
      dsimp only at h1
      rw [show ({ g.s with spits := (setC g.s p c).spits } : Sd) = setC g.s p c from rfl, hlen, hh, hnv] at h1
      exact h1
    repeat' (first | (refine GiP ?_; first | (refine Znh ?_) | (with_reducible refine Znl ?_) | (refine Zatn ?_; refine OPS_turnN (Turn_storeRow rfl rfl (by repeat (first | exact Up.here | apply Up.there | apply Up.sv)) rfl (by dsimp only [List.length]; omega) hset rfl rfl) rfl rfl ?_)) | (refine GiW ?_; first | (refine Zsq fun K hK => ?_) | (refine WP_cond_true rfl ?_) | (refine WP_cond_false rfl ?_) | (refine Zcd (fun hc => ?_) (fun hc => ?_) <;> (try (exfalso; omega))) | (with_reducible apply WP_skip) | (with_reducible apply WP_block) | (with_reducible apply WP_exit) | (with_reducible apply WP_ret) | (refine WP_drawn (id := 15) [0, 1, 2, 3, 4, 5, 6, 7] [] (k := 1) prog_mixed (by kernel_rfl) rfl ?_; refine Zew rfl Zf0 ?_; refine Zew rfl Zld ?_; refine Zew rfl Zmi ?_; refine Zew rfl Zmi ?_; refine Zew rfl Zmi ?_; refine Zec rfl (Enters_fn rfl) (fun X => h32 _ _ _) ?_; refine Zew rfl Zia ?_; refine Zew rfl Zfa ?_)) | (with_reducible apply EWalk_nil) | (refine GiO ?_; first | (refine AnyO_done (by kernel_rfl) ?_; (try with_reducible apply noP_normal); try with_reducible exact key.out) | (refine AnyO_1 8 (by decide +kernel) rfl ?_)) | (refine Zhn ?_) | (with_reducible apply QBlock_normal) | (refine Zhx ?_) | (with_reducible apply QBlock_hit) | (refine Zqb ?_) | (with_reducible apply QLoop_exit) | (refine Zhr ?_) | (with_reducible apply QBlock_ret) | (with_reducible apply QLoop_ret) | (refine AWalk_0 ?_; refine ZisO ?_) | (with_reducible apply QAny_normal))
    repeat' (first | (refine GiP ?_; first | (refine Znh ?_) | (with_reducible refine Znl ?_)) | (refine GiW ?_; first | (refine Zsq fun K hK => ?_) | (refine ZrN 16 fun _ => ?_; refine Zv Zla ?_; refine Zv Zmi ?_; refine Zcl (Enters_fn rfl) (h14c _ (by repeat (first | exact Mem.here | assumption | apply Mem.there | apply Mem.sv | apply Mem.app))) ?_; refine Zv Zmv ?_; refine Zv Zxex ?_; refine Zv Zxex ?_; refine Zal 18 fun b18 => ?_; refine Zst ?_; refine Zv Zai ?_) | (refine WP_cond_true rfl ?_) | (refine WP_cond_false rfl ?_) | (refine Zcd (fun hc => ?_) (fun hc => ?_) <;> (try (exfalso; omega))) | (with_reducible apply WP_skip) | (with_reducible apply WP_block) | (with_reducible apply WP_exit) | (with_reducible apply WP_ret)) | (refine Zhn ?_) | (with_reducible apply QBlock_normal) | (refine Zhx ?_) | (with_reducible apply QBlock_hit) | (refine Zqb ?_) | (with_reducible apply QLoop_exit) | (refine Zhr ?_) | (with_reducible apply QBlock_ret) | (with_reducible apply QLoop_ret))
    have hsn := byC_snoc g.s p d s2 k
    rw [hc] at hsn
    by_cases h1 : toldC (setC g.s p c) = []
    · obtain rfl : h = 10 := by rw [← hh, (CutV_no v' hd h1).2]
      rw [if_pos h1, List.append_nil] at hsn
      rw [← hsn]
      by_cases h0 : toldC g.s = []
      · obtain rfl : E = 10 := by rw [← hE, (CostV_no hv hp h0).2]
        repeat' (first | (refine GiP ?_; first | (refine Znh ?_) | (with_reducible refine Znl ?_) | (refine Zatd 120 ?_; (first | (refine Zv Zxpt ?_) | (refine Zv Zxpf ?_)); refine Zv Zmb ?_) | (refine Zatd 134 ?_; (first | (refine Zv Zxpt ?_) | (refine Zv Zxpf ?_)); refine Zv Zmb ?_) | (refine Zatd 154 ?_; (first | (refine Zv Zxpt ?_) | (refine Zv Zxpf ?_))) | (refine Zatd 118 ?_; refine Zv Zmi ?_) | (refine Zatd 119 ?_; refine Zv Zyneq ?_) | (refine Zatd 122 ?_; refine Zv Zmi ?_) | (refine Zatd 123 ?_; refine Zv Zyeql ?_) | (refine Zatd 124 ?_; refine Zv Zmb ?_) | (refine Zatd 125 ?_; refine Zv Zmi ?_) | (refine Zatd 126 ?_; refine Zv Zyneq ?_) | (refine Zatd 127 ?_; refine Zv Zmb ?_) | (refine Zatd 128 ?_; refine Zv Zmi ?_) | (refine Zatd 129 ?_; refine Zv Zla ?_) | (refine Zatd 131 ?_; refine Zv Zxnot ?_) | (refine Zatd 132 ?_; refine Zv Zxpt ?_) | (refine Zatd 132 ?_; refine Zv Zxpf ?_) | (refine Zatd 133 ?_; refine Zv Zxpt ?_) | (refine Zatd 133 ?_; refine Zv Zxpf ?_) | (refine Zatd 136 ?_; refine Zv Zmi ?_) | (refine Zatd 137 ?_; refine Zv Zyneq ?_) | (refine Zatd 138 ?_; refine Zv Zmb ?_) | (refine Zatd 139 ?_; refine Zv Zmi ?_) | (refine Zatd 140 ?_; refine Zv Zyeql ?_) | (refine Zatd 141 ?_; refine Zv Zxpt ?_) | (refine Zatd 141 ?_; refine Zv Zxpf ?_) | (refine Zatd 142 ?_; refine Zv Zmb ?_) | (refine Zatd 143 ?_; refine Zv Zmi ?_) | (refine Zatd 144 ?_; refine Zv Zf0 ?_) | (refine Zatd 145 ?_; refine Zv Zld ?_) | (refine Zatd 146 ?_; refine Zv Zyeql ?_) | (refine Zatd 147 ?_; refine Zv Zmb ?_) | (refine Zatd 148 ?_; refine Zv Zmi ?_) | (refine Zatd 149 ?_; refine Zv Zfa ?_) | (refine Zatd 150 ?_; refine Zv Zld ?_) | (refine Zatd 151 ?_; refine Zv Zyeql ?_) | (refine Zatd 152 ?_; refine Zv Zxpt ?_) | (refine Zatd 152 ?_; refine Zv Zxpf ?_) | (refine Zatd 153 ?_; refine Zv Zxpt ?_) | (refine Zatd 153 ?_; refine Zv Zxpf ?_) | (refine Zsk ?_) | (refine Zsp (fun hc => ?_) (fun hc => ?_) <;> (try (exfalso; omega)))) | (refine GiW ?_; first | (refine Zsq fun K hK => ?_) | (refine ZrG 17 ?_; refine Zv Zmi ?_; refine Zv Zyneq ?_; refine Zv Zmb ?_) | (refine ZrN 19 fun _ => ?_; refine Zv Zmi ?_; refine Zv Zyeql ?_) | (refine ZrN 12 fun _ => ?_; refine Zv Zmi ?_; refine Zv Zxadd ?_; refine Zv Zai ?_) | (refine WP_cond_true rfl ?_) | (refine WP_cond_false rfl ?_) | (refine Zcd (fun hc => ?_) (fun hc => ?_) <;> (try (exfalso; omega))) | (with_reducible apply WP_skip) | (with_reducible apply WP_block) | (with_reducible apply WP_exit) | (with_reducible apply WP_ret)) | (refine Zhn ?_) | (with_reducible apply QBlock_normal) | (refine Zhx ?_) | (with_reducible apply QBlock_hit) | (refine Zqb ?_) | (with_reducible apply QLoop_exit) | (refine Zhr ?_) | (with_reducible apply QBlock_ret) | (with_reducible apply QLoop_ret))
        exact QLoop_normal (k + 1) (.cons (by rw [Int.natCast_add, Int.natCast_one, ← Int.add_assoc, hc]; rfl) .nil) (by repeat (first | exact Off.frame rfl | exact Off.refl _ _ | refine Off.frameT rfl rfl ?_ | refine Off.upd rfl ?_ | refine Off.updO rfl ?_)) (by repeat (first | exact Wk.refl _ | apply Wk.keep1 | apply Wk.drop | apply Wk.sv | apply Wk.svD | apply Wk.appD)) (by omega) (by omega)
      · obtain ⟨a1, a2⟩ := CostV_yes hv hp h0
        obtain rfl : E = 0 := by rw [← hE, a2]
        have k3 := k2 h0 h1
        rw [a1] at hav
        rw [hav] at k3
        repeat' (first | (refine GiP ?_; first | (refine Znh ?_) | (with_reducible refine Znl ?_) | (refine Zatd 120 ?_; (first | (refine Zv Zxpt ?_) | (refine Zv Zxpf ?_)); refine Zv Zmb ?_) | (refine Zatd 134 ?_; (first | (refine Zv Zxpt ?_) | (refine Zv Zxpf ?_)); refine Zv Zmb ?_) | (refine Zatd 154 ?_; (first | (refine Zv Zxpt ?_) | (refine Zv Zxpf ?_))) | (refine Zatd 118 ?_; refine Zv Zmi ?_) | (refine Zatd 119 ?_; refine Zv Zyneq ?_) | (refine Zatd 122 ?_; refine Zv Zmi ?_) | (refine Zatd 123 ?_; refine Zv Zyeql ?_) | (refine Zatd 124 ?_; refine Zv Zmb ?_) | (refine Zatd 125 ?_; refine Zv Zmi ?_) | (refine Zatd 126 ?_; refine Zv Zyneq ?_) | (refine Zatd 127 ?_; refine Zv Zmb ?_) | (refine Zatd 128 ?_; refine Zv Zmi ?_) | (refine Zatd 129 ?_; refine Zv Zla ?_) | (refine Zatd 131 ?_; refine Zv Zxnot ?_) | (refine Zatd 132 ?_; refine Zv Zxpt ?_) | (refine Zatd 132 ?_; refine Zv Zxpf ?_) | (refine Zatd 133 ?_; refine Zv Zxpt ?_) | (refine Zatd 133 ?_; refine Zv Zxpf ?_) | (refine Zatd 136 ?_; refine Zv Zmi ?_) | (refine Zatd 137 ?_; refine Zv Zyneq ?_) | (refine Zatd 138 ?_; refine Zv Zmb ?_) | (refine Zatd 139 ?_; refine Zv Zmi ?_) | (refine Zatd 140 ?_; refine Zv Zyeql ?_) | (refine Zatd 141 ?_; refine Zv Zxpt ?_) | (refine Zatd 141 ?_; refine Zv Zxpf ?_) | (refine Zatd 142 ?_; refine Zv Zmb ?_) | (refine Zatd 143 ?_; refine Zv Zmi ?_) | (refine Zatd 144 ?_; refine Zv Zf0 ?_) | (refine Zatd 145 ?_; refine Zv Zld ?_) | (refine Zatd 146 ?_; refine Zv Zyeql ?_) | (refine Zatd 147 ?_; refine Zv Zmb ?_) | (refine Zatd 148 ?_; refine Zv Zmi ?_) | (refine Zatd 149 ?_; refine Zv Zfa ?_) | (refine Zatd 150 ?_; refine Zv Zld ?_) | (refine Zatd 151 ?_; refine Zv Zyeql ?_) | (refine Zatd 152 ?_; refine Zv Zxpt ?_) | (refine Zatd 152 ?_; refine Zv Zxpf ?_) | (refine Zatd 153 ?_; refine Zv Zxpt ?_) | (refine Zatd 153 ?_; refine Zv Zxpf ?_) | (refine Zsk ?_) | (refine Zsp (fun hc => ?_) (fun hc => ?_) <;> (try (exfalso; omega)))) | (refine GiW ?_; first | (refine Zsq fun K hK => ?_) | (refine ZrG 17 ?_; refine Zv Zmi ?_; refine Zv Zyneq ?_; refine Zv Zmb ?_) | (refine ZrN 19 fun _ => ?_; refine Zv Zmi ?_; refine Zv Zyeql ?_) | (refine ZrN 12 fun _ => ?_; refine Zv Zmi ?_; refine Zv Zxadd ?_; refine Zv Zai ?_) | (refine WP_cond_true rfl ?_) | (refine WP_cond_false rfl ?_) | (refine Zcd (fun hc => ?_) (fun hc => ?_) <;> (try (exfalso; omega))) | (with_reducible apply WP_skip) | (with_reducible apply WP_block) | (with_reducible apply WP_exit) | (with_reducible apply WP_ret)) | (refine Zhn ?_) | (with_reducible apply QBlock_normal) | (refine Zhx ?_) | (with_reducible apply QBlock_hit) | (refine Zqb ?_) | (with_reducible apply QLoop_exit) | (refine Zhr ?_) | (with_reducible apply QBlock_ret) | (with_reducible apply QLoop_ret))
        exact QLoop_normal (k + 1) (.cons (by rw [Int.natCast_add, Int.natCast_one, ← Int.add_assoc, hc]; rfl) .nil) (by repeat (first | exact Off.frame rfl | exact Off.refl _ _ | refine Off.frameT rfl rfl ?_ | refine Off.upd rfl ?_ | refine Off.updO rfl ?_)) (by repeat (first | exact Wk.refl _ | apply Wk.keep1 | apply Wk.drop | apply Wk.sv | apply Wk.svD | apply Wk.appD)) (by omega) (by omega)
    · obtain ⟨c1, c2⟩ := CutV_yes v' hd h1
      obtain rfl : h = 0 := by rw [← hh, c2]
      obtain ⟨h0, k3⟩ := k1 h1
      obtain ⟨a1, a2⟩ := CostV_yes hv hp h0
      obtain rfl : E = 0 := by rw [← hE, a2]
      rw [a1] at hav
      rw [hav] at k3
      have h39c := fun L => h39 L c av
      rw [decide_eq_true k3] at h39c
      rw [if_neg h1, ← c1, hnv] at hsn
      have hjs := jo_snoc (byC g.s p d s2 k) nv
      rw [← hsn] at hjs
      repeat' (first | (refine GiP ?_; first | (refine Znh ?_) | (with_reducible refine Znl ?_) | (refine Zatd 120 ?_; (first | (refine Zv Zxpt ?_) | (refine Zv Zxpf ?_)); refine Zv Zmb ?_) | (refine Zatd 134 ?_; (first | (refine Zv Zxpt ?_) | (refine Zv Zxpf ?_)); refine Zv Zmb ?_) | (refine Zatd 154 ?_; (first | (refine Zv Zxpt ?_) | (refine Zv Zxpf ?_))) | (refine Zatd 118 ?_; refine Zv Zmi ?_) | (refine Zatd 119 ?_; refine Zv Zyneq ?_) | (refine Zatd 122 ?_; refine Zv Zmi ?_) | (refine Zatd 123 ?_; refine Zv Zyeql ?_) | (refine Zatd 124 ?_; refine Zv Zmb ?_) | (refine Zatd 125 ?_; refine Zv Zmi ?_) | (refine Zatd 126 ?_; refine Zv Zyneq ?_) | (refine Zatd 127 ?_; refine Zv Zmb ?_) | (refine Zatd 128 ?_; refine Zv Zmi ?_) | (refine Zatd 129 ?_; refine Zv Zla ?_) | (refine Zatd 130 ?_; refine Zcl (Enters_fn rfl) (h39c _) ?_) | (refine Zatd 131 ?_; refine Zv Zxnot ?_) | (refine Zatd 132 ?_; refine Zv Zxpt ?_) | (refine Zatd 132 ?_; refine Zv Zxpf ?_) | (refine Zatd 133 ?_; refine Zv Zxpt ?_) | (refine Zatd 133 ?_; refine Zv Zxpf ?_) | (refine Zatd 136 ?_; refine Zv Zmi ?_) | (refine Zatd 137 ?_; refine Zv Zyneq ?_) | (refine Zatd 138 ?_; refine Zv Zmb ?_) | (refine Zatd 139 ?_; refine Zv Zmi ?_) | (refine Zatd 140 ?_; refine Zv Zyeql ?_) | (refine Zatd 141 ?_; refine Zv Zxpt ?_) | (refine Zatd 141 ?_; refine Zv Zxpf ?_) | (refine Zatd 142 ?_; refine Zv Zmb ?_) | (refine Zatd 143 ?_; refine Zv Zmi ?_) | (refine Zatd 144 ?_; refine Zv Zf0 ?_) | (refine Zatd 145 ?_; refine Zv Zld ?_) | (refine Zatd 146 ?_; refine Zv Zyeql ?_) | (refine Zatd 147 ?_; refine Zv Zmb ?_) | (refine Zatd 148 ?_; refine Zv Zmi ?_) | (refine Zatd 149 ?_; refine Zv Zfa ?_) | (refine Zatd 150 ?_; refine Zv Zld ?_) | (refine Zatd 151 ?_; refine Zv Zyeql ?_) | (refine Zatd 152 ?_; refine Zv Zxpt ?_) | (refine Zatd 152 ?_; refine Zv Zxpf ?_) | (refine Zatd 153 ?_; refine Zv Zxpt ?_) | (refine Zatd 153 ?_; refine Zv Zxpf ?_) | (refine Zsk ?_) | (refine Zsp (fun hc => ?_) (fun hc => ?_) <;> (try (exfalso; omega)))) | (refine GiW ?_; first | (refine Zsq fun K hK => ?_) | (refine ZrG 17 ?_; refine Zv Zmi ?_; refine Zv Zyneq ?_; refine Zv Zmb ?_) | (refine ZrN 19 fun _ => ?_; refine Zv Zmi ?_; refine Zv Zyeql ?_) | (refine ZrN 20 fun _ => ?_; refine Zv Zf0 ?_; refine Zv Zld ?_; refine Zv Zf0 ?_; refine Zv Zld ?_; refine Zv Zxmin ?_; refine Zv Zfa ?_; refine Zv Zld ?_; refine Zv Zfa ?_; refine Zv Zld ?_; refine Zv Zxmax ?_; refine Zcl (Enters_fn rfl) (h32 _ _ _) ?_; refine Zst ?_) | (refine ZrN 12 fun _ => ?_; refine Zv Zmi ?_; refine Zv Zxadd ?_; refine Zv Zai ?_) | (refine WP_cond_true rfl ?_) | (refine WP_cond_false rfl ?_) | (refine Zcd (fun hc => ?_) (fun hc => ?_) <;> (try (exfalso; omega))) | (with_reducible apply WP_skip) | (with_reducible apply WP_block) | (with_reducible apply WP_exit) | (with_reducible apply WP_ret)) | (refine Zhn ?_) | (with_reducible apply QBlock_normal) | (refine Zhx ?_) | (with_reducible apply QBlock_hit) | (refine Zqb ?_) | (with_reducible apply QLoop_exit) | (refine Zhr ?_) | (with_reducible apply QBlock_ret) | (with_reducible apply QLoop_ret))
      refine QLoop_normal (k + 1) (.cons (by rw [Int.natCast_add, Int.natCast_one, ← Int.add_assoc, hc]; rfl) .nil) (by repeat (first | exact Off.frame rfl | exact Off.refl _ _ | refine Off.frameT rfl rfl ?_ | refine Off.upd rfl ?_ | refine Off.updO rfl ?_)) ?_ (by omega) (by omega)
      rw [hjs]
      exact (by repeat (first | exact Wk.refl _ | apply Wk.keep1 | apply Wk.drop | apply Wk.sv | apply Wk.svD | apply Wk.appD))
  · obtain rfl : c = s3 + 1 := by omega
    by_cases h0 : toldC g.s = []
    · obtain rfl : E = 10 := by rw [← hE, (CostV_no hv hp h0).2]
      repeat' (first | (refine GiP ?_; first | (refine Znh ?_) | (with_reducible refine Znl ?_) | (refine Zatd 174 ?_; (first | (refine Zv Zxpt ?_) | (refine Zv Zxpf ?_)); refine Zv Zmb ?_) | (refine Zatd 177 ?_; (first | (refine Zv Zxpt ?_) | (refine Zv Zxpf ?_)); refine Zv Zab ?_) | (refine Zatd 171 ?_; refine Zv Zla ?_) | (refine Zatd 172 ?_; refine Zv Zla ?_) | (refine Zatd 176 ?_; refine Zcl (Enters_fn rfl) (h13 _) ?_) | (refine Zsk ?_) | (refine Zsp (fun hc => ?_) (fun hc => ?_) <;> (try (exfalso; omega)))) | (refine GiW ?_; first | (refine Zsq fun K hK => ?_) | (refine ZrN 11 fun _ => ?_; refine Zv Zmi ?_; refine Zv Zf0 ?_; refine Zv Zld ?_; refine Zv Zmi ?_; refine Zv Zia ?_; refine Zv Zfa ?_; refine Zv Zfa ?_; refine Zv Zld ?_; refine Zv Zyleq ?_) | (refine ZrG 21 ?_; refine Zv Zmi ?_; refine Zv Zyneq ?_; refine Zv Zmb ?_) | (refine WP_cond_true rfl ?_) | (refine WP_cond_false rfl ?_) | (refine Zcd (fun hc => ?_) (fun hc => ?_) <;> (try (exfalso; omega))) | (with_reducible apply WP_skip) | (with_reducible apply WP_block) | (with_reducible apply WP_exit) | (with_reducible apply WP_ret)) | (refine Zhn ?_) | (with_reducible apply QBlock_normal) | (refine Zhx ?_) | (with_reducible apply QBlock_hit) | (refine Zqb ?_) | (with_reducible apply QLoop_exit) | (refine Zhr ?_) | (with_reducible apply QBlock_ret) | (with_reducible apply QLoop_ret))
      exact QBody_ret1 rfl (rfl : _ = Value.bool _) ⟨rfl, (by repeat (first | exact Wk.refl _ | apply Wk.keep1 | apply Wk.drop | apply Wk.sv | apply Wk.svD | apply Wk.appD))⟩
    · obtain ⟨a1, a2⟩ := CostV_yes hv hp h0
      obtain rfl : E = 0 := by rw [← hE, a2]
      have hall := costs_all hv hp hd h0 (k := k) (by omega)
      obtain ⟨c1, c2⟩ := CutV_yes hv hd h0
      have hcb := cutV_bd hv h0 hd
      have hsb := sumT_bd hv g.s.spits.length
      rw [← hqp.2.1, ← c1, hbv] at hall
      rw [← c1, hbv] at hcb
      rw [hall]
      repeat' (first | (refine GiP ?_; first | (refine Znh ?_) | (with_reducible refine Znl ?_) | (refine Zatd 174 ?_; (first | (refine Zv Zxpt ?_) | (refine Zv Zxpf ?_)); refine Zv Zmb ?_) | (refine Zatd 177 ?_; (first | (refine Zv Zxpt ?_) | (refine Zv Zxpf ?_)); refine Zv Zab ?_) | (refine Zatd 171 ?_; refine Zv Zla ?_) | (refine Zatd 172 ?_; refine Zv Zla ?_) | (refine Zatd 173 ?_; refine Zv (Val_eqlS rfl rfl rfl rfl (by omega) (by omega)) ?_) | (refine Zatd 173 ?_; refine Zv (Zyeql) ?_) | (refine Zatd 176 ?_; refine Zcl (Enters_fn rfl) (h13 _) ?_) | (refine Zsk ?_) | (refine Zsp (fun hc => ?_) (fun hc => ?_) <;> (try (exfalso; omega)))) | (refine GiW ?_; first | (refine Zsq fun K hK => ?_) | (refine ZrN 11 fun _ => ?_; refine Zv Zmi ?_; refine Zv Zf0 ?_; refine Zv Zld ?_; refine Zv Zmi ?_; refine Zv Zia ?_; refine Zv Zfa ?_; refine Zv Zfa ?_; refine Zv Zld ?_; refine Zv Zyleq ?_) | (refine ZrG 21 ?_; refine Zv Zmi ?_; refine Zv Zyneq ?_; refine Zv Zmb ?_) | (refine WP_cond_true rfl ?_) | (refine WP_cond_false rfl ?_) | (refine Zcd (fun hc => ?_) (fun hc => ?_) <;> (try (exfalso; omega))) | (with_reducible apply WP_skip) | (with_reducible apply WP_block) | (with_reducible apply WP_exit) | (with_reducible apply WP_ret)) | (refine Zhn ?_) | (with_reducible apply QBlock_normal) | (refine Zhx ?_) | (with_reducible apply QBlock_hit) | (refine Zqb ?_) | (with_reducible apply QLoop_exit) | (refine Zhr ?_) | (with_reducible apply QBlock_ret) | (with_reducible apply QLoop_ret))
      exact QBody_ret1 rfl (rfl : _ = Value.bool _) ⟨rfl, (by repeat (first | exact Wk.refl _ | apply Wk.keep1 | apply Wk.drop | apply Wk.sv | apply Wk.svD | apply Wk.appD))⟩
theorem costs_all' (L : Hp) (g : Fg) (hA : SodAt N w0 g) (a : Nat) (ha8 : a ≤ 255) (b : Nat) (hb8 : b ≤ 255) : Ret Try.prog N w0 L 7 [sodV g, .int .u8 (a : Int), .int .u8 (b : Int)].toArray (.bool true) := by
  cases h1 : vB g.s with
  | false => exact costs_law0 N w0 L g hA a b h1
  | true => exact costs_law1 N w0 L g hA a b ha8 hb8 h1
end
end Go.Proofs.Ytkaadefndcbdnaa
