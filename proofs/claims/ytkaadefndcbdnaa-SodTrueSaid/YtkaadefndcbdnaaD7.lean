/- The law SodTrue: its walk. -/
import Derived.Test.YtkaadefndcbdnaaD7a
namespace Go.Proofs.Ytkaadefndcbdnaa
open Go.RowKit
theorem flat_one (l : List Int) : (l.map fun x => [Value.int .i64 x]).flatten = ints l := by
  induction l with
  | nil => rfl
  | cons x l ih => rw [List.map_cons, List.flatten_cons, ih]; rfl
theorem Ro.now {N : Nat} {w0 w : World} {L : Hp} {b o : Nat} {vs : List Value} (h : Ro w0 b o vs) (hb : b < N) (hI : Inv N w0 L w) : Ro w b o vs := fun j v hj => hI.cellRo hb (h j v hj)
theorem clash_yes {s : Sd} (v : VS s) (h : toldC s ≠ []) : (DoneV s = doneV s ∧ errE s true = 0) ∧ ClashV s = 0 ∧ ClashE s = 4 := by
  refine ⟨DoneV_yes v h, ?_⟩
  rcases clash_facts v with ⟨_, f2, f3⟩ | ⟨f1, _⟩
  · exact ⟨f3, f2⟩
  · rw [someB_told.2 h] at f1; cases f1
theorem sub_bits {i k : Nat} (h : i ≤ k) (hk : k ≤ 3) : (2 ^ i - 1) &&& (2 ^ 64 - 1 - (2 ^ k - 1)) = 0 := bits_sub i k h hk
theorem two_bd {k : Nat} (hk : k ≤ 3) : 1 ≤ 2 ^ k ∧ 2 ^ k ≤ 8 := by
  have h1 := Nat.two_pow_pos k
  have h2 : 2 ^ k ≤ 2 ^ 3 := Nat.pow_le_pow_right (by omega) hk
  omega
attribute [local irreducible] AnyO AnyB QAny QB EWalk AWalk Ev WP OPS QThen QBlock QScope QLoop QBody Val New Turn Tri Enters PostA Blk Ro
attribute [local irreducible] AnyC QC
section
variable (N : Nat) (w0 : World)
theorem strue_law0 (L : Hp) (g : Fg) (hA : SodAt N w0 g) (A : Option Addr) (n c : Nat) (h : vB g.s = false) : Ret Try.prog N w0 L 5 [sodV g, .slice A n c].toArray (.bool true) := by
  have h28 := fun L => fine_in N w0 L g (SodIn.at_ hA)
  have h13 := fun L => awake_ret N w0 L
  rw [h] at h28
  refine Ret.fgt ?_
  refine tri_of_WP Try.func5 rfl (n := 191) rfl (by simp) ?_
  unfold sodV sdL at h28 ⊢
  repeat' (first | (refine GiP ?_; first | (refine Znh ?_) | (with_reducible refine Znl ?_)) | (refine GiW ?_; first | (refine Zsq fun K hK => ?_) | (refine ZrN 0 fun _ => ?_; refine Zal 2 fun b2 => ?_; refine Zv Zab ?_) | (refine ZrN 1 fun _ => ?_; refine Zv Zla ?_; refine Zcl (Enters_fn rfl) (h28 _) ?_; refine Zv Zxnot ?_) | (refine ZrN 2 fun _ => ?_; refine Zcl (Enters_fn rfl) (h13 _) ?_; refine Zv Zab ?_) | (refine WP_cond_true rfl ?_) | (refine WP_cond_false rfl ?_) | (refine Zcd (fun hc => ?_) (fun hc => ?_) <;> (try (exfalso; omega))) | (with_reducible apply WP_skip) | (with_reducible apply WP_block) | (with_reducible apply WP_exit) | (with_reducible apply WP_ret)) | (refine Zhn ?_) | (with_reducible apply QBlock_normal) | (refine Zhx ?_) | (with_reducible apply QBlock_hit) | (refine Zqb ?_) | (with_reducible apply QLoop_exit) | (refine Zhr ?_) | (with_reducible apply QBlock_ret) | (with_reducible apply QLoop_ret))
  exact QBody_ret1 rfl (rfl : _ = Value.bool _) ⟨rfl, (by repeat (first | exact Wk.refl _ | apply Wk.keep1 | apply Wk.drop | apply Wk.sv | apply Wk.svD | apply Wk.appD))⟩
set_option maxRecDepth 100000 in
set_option maxHeartbeats 8000000 in
theorem strue_law1 (L : Hp) (g : Fg) (hA : SodAt N w0 g) (A : Option Addr) (c : Nat) (us : List Nat) (hB : SlAt N w0 A 1 (u16L us)) (hu : ∀ u ∈ us, u ≤ 65535) (hvb : vB g.s = true) : Ret Try.prog N w0 L 5 [sodV g, .slice A us.length c].toArray (.bool true) := by
  have hv := VS_of hvb
  have hnd := hv.nd
  have hnp := hv.np
  have hnl := hv.nl
  have h28 := fun L => fine_in N w0 L g (SodIn.at_ hA)
  have h13 := fun L => awake_ret N w0 L
  rw [hvb] at h28
  have htr := fun L => truly_tri N w0 L g hA hv A c us hB hu
  refine Ret.fgt ?_
  refine tri_of_WP Try.func5 rfl (n := 191) rfl (by simp) ?_
  unfold sodV sdL at h28 htr ⊢
  repeat' (first | (refine GiP ?_; first | (refine Znh ?_) | (with_reducible refine Znl ?_)) | (refine GiW ?_; first | (refine Zsq fun K hK => ?_) | (refine ZrN 0 fun _ => ?_; refine Zal 2 fun b2 => ?_; refine Zv Zab ?_) | (refine ZrN 1 fun _ => ?_; refine Zv Zla ?_; refine Zcl (Enters_fn rfl) (h28 _) ?_; refine Zv Zxnot ?_) | (refine WP_cond_true rfl ?_) | (refine WP_cond_false rfl ?_) | (refine Zcd (fun hc => ?_) (fun hc => ?_) <;> (try (exfalso; omega))) | (with_reducible apply WP_skip) | (with_reducible apply WP_block) | (with_reducible apply WP_exit) | (with_reducible apply WP_ret)) | (refine Zhn ?_) | (with_reducible apply QBlock_normal) | (refine Zhx ?_) | (with_reducible apply QBlock_hit) | (refine Zqb ?_) | (with_reducible apply QLoop_exit) | (refine Zhr ?_) | (with_reducible apply QBlock_ret) | (with_reducible apply QLoop_ret))
  repeat' (first | (refine GiP ?_; first | (refine Znh ?_) | (with_reducible refine Znl ?_)) | (refine GiW ?_; first | (refine ZrN 3 fun _ => ?_; refine Zv Zla ?_; refine Zv Zmv ?_; refine OPS_retKS (Enters_fn rfl) (htr _) rfl rfl rfl (fun v9 L9 h9 => ?_); obtain ⟨cs, ts, s1, s2, rfl, hcin, hcl, hst, hs1, hs2, rfl⟩ := h9; obtain ⟨A1, c1, e1, hr1⟩ := sl_sv (E := 3) (by omega) hs1; obtain ⟨A2, c2, e2, hr2⟩ := sl_sv (E := 3) (by omega) hs2; rw [e1, e2]; refine Zal 5 fun b5 => ?_; refine Zst ?_) | (refine WP_cond_true rfl ?_) | (refine WP_cond_false rfl ?_) | (refine Zcd (fun hc => ?_) (fun hc => ?_) <;> (try (exfalso; omega))) | (with_reducible apply WP_skip) | (with_reducible apply WP_block) | (with_reducible apply WP_exit) | (with_reducible apply WP_ret)) | (refine Zhn ?_) | (with_reducible apply QBlock_normal) | (refine Zhx ?_) | (with_reducible apply QBlock_hit) | (refine Zqb ?_) | (with_reducible apply QLoop_exit) | (refine Zhr ?_) | (with_reducible apply QBlock_ret) | (with_reducible apply QLoop_ret))
  refine WP_re fun w hI => ?_
  have hT : TrAt w.heap.size w g A1 A2 cs ts := ⟨hr1 (hI.perm (PickS.perm (by repeat (first | (with_reducible exact PickS.here) | (with_reducible apply PickS.there) | (with_reducible apply PickS.sv))))) (by rw [flat_one]) (map_len (f := fun x : Int => [Value.int .i64 x]) (fun _ => rfl) _), hr2 (hI.perm (PickS.perm (by repeat (first | (with_reducible exact PickS.here) | (with_reducible apply PickS.there) | (with_reducible apply PickS.sv))))) (by rw [flat_one]) (map_len (f := fun x : Int => [Value.int .i64 x]) (fun _ => rfl) _), hcin, hcl, hst⟩
  have hAw : SodAt w.heap.size w g := SodIn.at_ hA w hI
  obtain ⟨hb5, r5⟩ := ro_blk hI (show Mem b5 (Blk _ _) _ from (by repeat (first | exact Mem.here | assumption | apply Mem.there | apply Mem.sv | apply Mem.app)))
  obtain ⟨hb2, r2⟩ := ro_blk hI (show Mem b2 (Blk _ _) _ from (by repeat (first | exact Mem.here | assumption | apply Mem.there | apply Mem.sv | apply Mem.app)))
  clear hI hr1 hr2 hs1 hs2 e1 e2 htr h28
  have hri := fun L' => tright_tri w.heap.size w L' g hAw hv A1 A2 c1 c2 cs ts hT
  unfold sodV sdL at hri
  refine Zsq fun K4 hK4 => ?_
  set_option maxRecDepth 2000 in repeat' (first | (refine GiP ?_; first | (refine Znh ?_) | (with_reducible refine Znl ?_)) | (refine GiW ?_; first | (refine ZrN 4 fun _ => ?_; (first | (refine Zv (Val_loadRN rfl hb5 r5 rfl) ?_) | (refine Zv (Val_loadRN rfl hb2 r2 rfl) ?_) | (refine Zv Zla ?_)); (first | (refine Zv (Val_loadRN rfl hb5 r5 rfl) ?_) | (refine Zv (Val_loadRN rfl hb2 r2 rfl) ?_) | (refine Zv Zla ?_)); refine OPS_retKS (Enters_fn rfl) (hri _) rfl rfl rfl (fun v9 L9 h9 => ?_); obtain ⟨s3, rfl, hs3, rfl⟩ := h9; obtain ⟨A3, c3, e3, hin3⟩ := in_logs (N := w.heap.size) (w0 := w) (g := g) (fun L => SodIn.at_ hAw) (g.s.logs.map (rightL g.s.spits cs ts)) rfl (by rw [List.length_map]; exact hs3); rw [List.length_map] at e3 hin3; rw [e3]; refine Zal 6 fun b6 => ?_; refine Zst ?_) | (refine WP_cond_true rfl ?_) | (refine WP_cond_false rfl ?_) | (refine Zcd (fun hc => ?_) (fun hc => ?_) <;> (try (exfalso; omega))) | (with_reducible apply WP_skip) | (with_reducible apply WP_block) | (with_reducible apply WP_exit) | (with_reducible apply WP_ret)) | (refine Zhn ?_) | (with_reducible apply QBlock_normal) | (refine Zhx ?_) | (with_reducible apply QBlock_hit) | (refine Zqb ?_) | (with_reducible apply QLoop_exit) | (refine Zhr ?_) | (with_reducible apply QBlock_ret) | (with_reducible apply QLoop_ret))
  refine WP_re fun w2 hI2 => ?_
  have hT2 : TrAt w2.heap.size w2 g A1 A2 cs ts := ⟨hT.c.now hI2, hT.t.now hI2, hcin, hcl, hst⟩
  have hA2 : SodAt w2.heap.size w2 g := SodIn.at_ hAw w2 hI2
  have hAx : SodAt w2.heap.size w2 { g with s := rightS g.s cs ts, A3 := A3, c3 := c3 } := hin3 _ (by repeat (first | exact Sub.nil | exact Sub.refl _ | assumption | exact Sub.left | apply Sub.svK | apply Sub.sv | apply Sub.cons | apply Sub.app)) w2 hI2
  obtain ⟨hb6, r6⟩ := ro_blk hI2 (show Mem b6 (Blk _ _) _ from (by repeat (first | exact Mem.here | assumption | apply Mem.there | apply Mem.sv | apply Mem.app)))
  have s5 : Ro w2 b5 0 [.slice A1 g.s.spits.length c1, .slice A2 g.s.days.length c2] := r5.now hb5 hI2
  have s2 : Ro w2 b2 0 (sdL g) := r2.now hb2 hI2
  have z5 : b5 < w2.heap.size := Nat.lt_of_lt_of_le hb5 hI2.big
  have z2 : b2 < w2.heap.size := Nat.lt_of_lt_of_le hb2 hI2.big
  unfold sdL at s2
  clear hI2 hin3 hs3 e3 hri r5 r2 hb5 hb2 hAw hT hA
  -- what is returned
  have vx := VS_right hv hcin hst
  have h0 := true_told hv hcin hcl hst
  have hxl : (rightS g.s cs ts).logs.length = g.s.logs.length := List.length_map _
  have hn2 : (rightS g.s cs ts).days.length ≤ 1000 := by show g.s.days.length ≤ 1000; omega
  obtain ⟨f1, f2, f3⟩ := clash_yes vx h0
  have q1 := fun L' => Clash_ret w2.heap.size w2 L' _ hAx hn2
  have q2 := fun L' => Done_ret w2.heap.size w2 L' _ hAx hn2
  have q3 := fun L' (d : Nat) => Cut_ret w2.heap.size w2 L' _ hAx hn2 d
  have q4 := fun L' (d : Nat) => Need_ret w2.heap.size w2 L' _ hAx hn2 d
  have q5 := fun L' (d : Nat) => Finished_ret w2.heap.size w2 L' _ hAx hn2 d
  have q6 := fun L' (d : Nat) (x : Sp) => Fits_ret w2.heap.size w2 L' _ hAx hn2 d x
  have q7 := fun L' (d : Nat) => Cost_ret w2.heap.size w2 L' _ hAx hn2 d
  have q8 := fun L' (d : Nat) (hd : d < g.s.days.length) (t : Int) (ht : ts[d]? = some t) => tcut_tri w2.heap.size w2 L' g hA2 hv A1 A2 c1 c2 cs ts hT2 d hd t ht
  have q9 := fun L' => twhole_ret w2.heap.size w2 L' g hA2 hv A1 A2 c1 c2 cs ts hT2
  have qi := fun L' n s => inside_ret w2.heap.size w2 L' n s
  have qs := fun L' n m => span32_ret w2.heap.size w2 L' n m
  have h13' := fun L' => awake_ret w2.heap.size w2 L'
  unfold sodV sdL at q1 q2 q3 q4 q5 q6 q7 q8 q9
  dsimp only at q1 q2 q3 q4 q5 q6 q7
  have ex1 : (rightS g.s cs ts).spits = g.s.spits := rfl
  have ex2 : (rightS g.s cs ts).days = g.s.days := rfl
  rw [hxl, ex1, ex2] at q1 q2 q3 q4 q5 q6 q7
  rw [f2, f3] at q1
  rw [f1.1, f1.2] at q2
  obtain ⟨T, hTe⟩ : ∃ T, totC g.s.spits cs = T := ⟨_, rfl⟩
  rw [hTe] at q9
  obtain ⟨D1, D2, hDe⟩ : ∃ D1 D2, doneV (rightS g.s cs ts) = (D1, D2) := ⟨_, _, rfl⟩
  rw [hDe] at q2
  dsimp only at q2
  set_option maxRecDepth 2000 in repeat' (first | (refine GiP ?_; first | (refine Znh ?_) | (with_reducible refine Znl ?_) | (refine Zatd 53 ?_; (first | (refine Zv Zxpt ?_) | (refine Zv Zxpf ?_))) | (refine Zatd 51 ?_; first | refine Zsk ?_ | (refine Zv Zmi ?_)) | (refine Zatd 52 ?_; first | refine Zsk ?_ | (refine Zv Zyneq ?_)) | (refine Zsk ?_) | (refine Zsp (fun hc => ?_) (fun hc => ?_) <;> (try (exfalso; omega)))) | (refine GiW ?_; first | (refine Zsq fun K hK => ?_) | (refine ZrN 5 fun _ => ?_; (first | (refine Zv (Val_loadRN rfl z5 s5 rfl) ?_) | (refine Zv (Val_loadRN rfl z2 s2 rfl) ?_) | (refine Zv (Val_loadRN rfl hb6 r6 rfl) ?_) | (refine Zv (Val_loadR1 rfl z2 (RoAt s2 1 _ rfl)) ?_) | (refine Zv Zla ?_)); refine Zcl (Enters_fn rfl) (q1 _) ?_; refine Zv Zmv ?_; refine Zv Zxex ?_; refine Zv Zxex ?_; refine Zv Zai ?_; refine Zv Zai ?_) | (refine ZrN 6 fun _ => ?_; (first | (refine Zv (Val_loadRN rfl z5 s5 rfl) ?_) | (refine Zv (Val_loadRN rfl z2 s2 rfl) ?_) | (refine Zv (Val_loadRN rfl hb6 r6 rfl) ?_) | (refine Zv (Val_loadR1 rfl z2 (RoAt s2 1 _ rfl)) ?_) | (refine Zv Zla ?_)); refine Zcl (Enters_fn rfl) (q2 _) ?_; refine Zv Zmv ?_; refine Zv Zxex ?_; refine Zv Zxex ?_; refine Zal 9 fun b9 => ?_; refine Zst ?_; refine Zv Zai ?_) | (refine ZrG 7 ?_; refine Zv Zmi ?_; refine Zv Zyneq ?_; refine Zv Zmb ?_) | (refine ZrN 9 fun _ => ?_; refine Zv Zfa ?_; (first | (refine Zv (Val_loadRN rfl z5 s5 rfl) ?_) | (refine Zv (Val_loadRN rfl z2 s2 rfl) ?_) | (refine Zv (Val_loadRN rfl hb6 r6 rfl) ?_) | (refine Zv (Val_loadR1 rfl z2 (RoAt s2 1 _ rfl)) ?_) | (refine Zv Zld ?_)); refine Zv Zxlen ?_; refine Zv Zai ?_) | (refine ZrN 10 fun _ => ?_; refine Zv Zfa ?_; (first | (refine Zv (Val_loadRN rfl z5 s5 rfl) ?_) | (refine Zv (Val_loadRN rfl z2 s2 rfl) ?_) | (refine Zv (Val_loadRN rfl hb6 r6 rfl) ?_) | (refine Zv (Val_loadR1 rfl z2 (RoAt s2 1 _ rfl)) ?_) | (refine Zv Zld ?_)); refine Zv Zxlen ?_; refine Zv Zmi ?_) | (refine WP_cond_true rfl ?_) | (refine WP_cond_false rfl ?_) | (refine Zcd (fun hc => ?_) (fun hc => ?_) <;> (try (exfalso; omega))) | (with_reducible apply WP_skip) | (with_reducible apply WP_block) | (with_reducible apply WP_exit) | (with_reducible apply WP_ret)) | (refine Zhn ?_) | (with_reducible apply QBlock_normal) | (refine Zhx ?_) | (with_reducible apply QBlock_hit) | (refine Zqb ?_) | (with_reducible apply QLoop_exit) | (refine Zhr ?_) | (with_reducible apply QBlock_ret) | (with_reducible apply QLoop_ret))
  have hlen := steps_len hst
  refine WP_loop [4, 11, 12, 13, 14, 15, 16, 17, 18, 19, 20, 21, 22, 23, 60, 61, 62, 63, 64, 65, 66, 67, 68, 69, 70, 71, 72, 73, 74, 75, 76, 77, 78, 79, 80, 81, 82, 83, 84, 85, 86, 87, 88, 89, 90, 91, 92, 93, 94, 95, 96, 97, 98, 99, 100, 101, 102, 103, 104, 105, 106, 107, 108, 109, 110, 111, 112, 113, 114, 115, 116, 117, 118, 119, 120, 121, 122, 123, 124, 125, 126, 127, 128, 129, 130, 131, 132, 133, 134, 135, 136, 137, 138, 139, 140, 141, 142, 143, 144, 145, 146, 147, 148, 149, 150, 151, 152, 153, 154, 155, 156, 157, 158, 159, 160, 161] (fun st : Nat × Nat => [(11, .int .i64 (st.2 : Int)), (60, .int .i64 st.1)]) (fun _ => [(b9, Blk 28 [.int .i64 D1, .int .i64 D2])]) (fun st => st.1 ≤ g.s.days.length ∧ st.2 ≤ g.s.days.length ∧ (∀ (j : Nat) (t : Int), j < st.1 → j < st.2 → ts[j]? = some t → t < T) ∧ (∀ t, ts[st.2]? = some t → T ≤ t) ∧ (st.2 < st.1 ∨ st.2 = g.s.days.length)) (fun st => g.s.days.length - st.1) (0, g.s.days.length) (.cons rfl (.cons rfl .nil)) (Wk.refl _) (by refine ⟨Nat.zero_le _, Nat.le_refl _, fun j t h _ _ => absurd h (Nat.not_lt_zero _), ?_, .inr rfl⟩; intro t h; dsimp only at h; rw [List.getElem?_eq_none (by omega)] at h; cases h) ?_
  rintro ⟨d, f⟩ j1 ⟨hd, hf, hlo, hhi, hfd⟩
  dsimp only at hd hf hlo hhi hfd ⊢
  by_cases hdl : d < g.s.days.length
  · obtain ⟨t, ht, bT, oT, hT1, hbT, hcT⟩ := hT2.tg w2.heap.size w2 hdl
    have hds : d < (rightS g.s cs ts).days.length := hdl
    have htb := true_bd hv hcin hst ht
    have p8 := fun L' => q8 L' d hdl t ht
    obtain ⟨⟨v1, v2, v3, v4, v5, v6⟩, e1, e2, e3⟩ := vals_yes vx h0 hds (show 0 < (rightS g.s cs ts).spits.length from hnp.1)
    have hfo : FitsOk (rightS g.s cs ts) d (cutS g.s.spits cs 0 t, cutS g.s.spits cs 0 t) = true := by
      unfold FitsOk
      rw [DayOk_in hds, Bool.true_and]
      simp only [isSpanB, decide_eq_true_eq]
      omega
    have efo := (errE_of vx hfo).resolve_left (fun h => h0 h.1)
    have hfv : FitsV (rightS g.s cs ts) d (cutS g.s.spits cs 0 t, cutS g.s.spits cs 0 t) = fitsV (rightS g.s cs ts) d (cutS g.s.spits cs 0 t, cutS g.s.spits cs 0 t) := by
      unfold FitsV; rw [efo.2, if_pos rfl, Int.toNat_natCast]
    have p3 := fun L' => q3 L' d
    have p4 := fun L' => q4 L' d
    have p5 := fun L' => q5 L' d
    have p6 := fun L' => q6 L' d (cutS g.s.spits cs 0 t, cutS g.s.spits cs 0 t)
    rw [v1, e1] at p3
    rw [v4, e1] at p4
    rw [v5, v6, e1] at p5
    rw [hfv, efo.2] at p6
    have hday := fun (k : Nat) (hk : CutK g.s cs t k) => true_day hv hcin hcl hst ht hk.1 hk.2
    rw [hTe] at hday
    obtain ⟨C, hC⟩ : ∃ C, cutS g.s.spits cs 0 t = C := ⟨_, rfl⟩
    obtain ⟨⟨u1, u2⟩, hU⟩ : ∃ u, cutV (rightS g.s cs ts) d = u := ⟨_, rfl⟩
    obtain ⟨⟨n1, n2⟩, hN⟩ : ∃ u, needV (rightS g.s cs ts) d = u := ⟨_, rfl⟩
    obtain ⟨F, hF⟩ : ∃ F, fitsV (rightS g.s cs ts) d (C, C) = F := ⟨_, rfl⟩
    obtain ⟨S5, hS5⟩ : ∃ F, sureV (rightS g.s cs ts) d = F := ⟨_, rfl⟩
    obtain ⟨S6, hS6⟩ : ∃ F, canV (rightS g.s cs ts) d = F := ⟨_, rfl⟩
    rw [hC] at p6 p8 htb
    rw [hF] at p6
    rw [hU] at p3
    rw [hN] at p4
    rw [hS5, hS6] at p5
    dsimp only at p3 p4 p6
    have hday' : ∀ k, CutK g.s cs t k → (u1 ≤ C ∧ C ≤ u2) ∧ (n1 ≤ max 0 (T - t) ∧ max 0 (T - t) ≤ n2) ∧ (∃ i j, i ≤ k ∧ k ≤ j ∧ j ≤ g.s.spits.length ∧ S5 = 2 ^ i - 1 ∧ S6 = 2 ^ j - 1) ∧ F ≠ 0 ∧ (k = g.s.spits.length ↔ T ≤ t) := fun k hk => by
      have := hday k hk
      rw [hC, hU, hN, hS5, hS6, hF] at this
      exact this
    have hTb := totC_bd hv.spOk hcin
    rw [hTe] at hTb
    clear hday q1 q2 q3 q4 q5 q6 q7 q8 hU hN hS5 hS6 hF v1 v2 v3 v4 v5 v6 e1 e2 e3 hfo efo hfv f1 f2 f3 vx hAx hds hDe
    set_option maxRecDepth 2000 in repeat' (first | (refine GiP ?_; first | (refine Znh ?_) | (with_reducible refine Znl ?_)) | (refine GiW ?_; first | (refine Zsq fun K hK => ?_) | (refine ZrN 11 fun _ => ?_; refine Zv Zylss ?_) | (refine ZrN 12 fun _ => ?_; refine Zv Zmi ?_; refine Zv Zai ?_) | (refine ZrN 13 fun _ => ?_; (first | (refine Zv (Val_loadRN rfl z5 s5 rfl) ?_) | (refine Zv (Val_loadRN rfl z2 s2 rfl) ?_) | (refine Zv (Val_loadRN rfl hb6 r6 rfl) ?_) | (refine Zv (Val_loadR1 rfl z2 (RoAt s2 0 _ rfl)) ?_) | (refine Zv (Val_loadR1 rfl z5 (RoAt s5 0 _ rfl)) ?_) | (refine Zv (Val_loadR1 rfl z5 (RoAt s5 1 _ rfl)) ?_) | (refine Zv Zla ?_)); (first | (refine Zv (Val_loadRN rfl z5 s5 rfl) ?_) | (refine Zv (Val_loadRN rfl z2 s2 rfl) ?_) | (refine Zv (Val_loadRN rfl hb6 r6 rfl) ?_) | (refine Zv (Val_loadR1 rfl z2 (RoAt s2 0 _ rfl)) ?_) | (refine Zv (Val_loadR1 rfl z5 (RoAt s5 0 _ rfl)) ?_) | (refine Zv (Val_loadR1 rfl z5 (RoAt s5 1 _ rfl)) ?_) | (refine Zv Zla ?_)); refine Zv Zmi ?_; refine OPS_retKS (Enters_fn rfl) (p8 _) rfl rfl rfl (fun v9 L9 h9 => ?_); obtain ⟨k, rfl, hk, rfl⟩ := h9; refine Zv Zmv ?_; refine Zv Zxex ?_; refine Zv Zxex ?_; refine Zv Zai ?_; refine Zv Zai ?_) | (refine ZrN 14 fun _ => ?_; (first | (refine Zv (Val_loadRN rfl z5 s5 rfl) ?_) | (refine Zv (Val_loadRN rfl z2 s2 rfl) ?_) | (refine Zv (Val_loadRN rfl hb6 r6 rfl) ?_) | (refine Zv (Val_loadR1 rfl z2 (RoAt s2 0 _ rfl)) ?_) | (refine Zv (Val_loadR1 rfl z5 (RoAt s5 0 _ rfl)) ?_) | (refine Zv (Val_loadR1 rfl z5 (RoAt s5 1 _ rfl)) ?_) | (refine Zv Zla ?_)); refine Zv Zmi ?_; refine Zcl (Enters_fn rfl) (p3 _) ?_; refine Zv Zmv ?_; refine Zv Zxex ?_; refine Zv Zxex ?_; refine Zal 15 fun b15 => ?_; refine Zst ?_; refine Zv Zai ?_) | (refine ZrN 15 fun _ => ?_; (first | (refine Zv (Val_loadRN rfl z5 s5 rfl) ?_) | (refine Zv (Val_loadRN rfl z2 s2 rfl) ?_) | (refine Zv (Val_loadRN rfl hb6 r6 rfl) ?_) | (refine Zv (Val_loadR1 rfl z2 (RoAt s2 0 _ rfl)) ?_) | (refine Zv (Val_loadR1 rfl z5 (RoAt s5 0 _ rfl)) ?_) | (refine Zv (Val_loadR1 rfl z5 (RoAt s5 1 _ rfl)) ?_) | (refine Zv Zla ?_)); refine Zv Zmi ?_; refine Zcl (Enters_fn rfl) (p4 _) ?_; refine Zv Zmv ?_; refine Zv Zxex ?_; refine Zv Zxex ?_; refine Zal 17 fun b17 => ?_; refine Zst ?_; refine Zv Zai ?_) | (refine ZrN 16 fun _ => ?_; (first | (refine Zv (Val_loadRN rfl z5 s5 rfl) ?_) | (refine Zv (Val_loadRN rfl z2 s2 rfl) ?_) | (refine Zv (Val_loadRN rfl hb6 r6 rfl) ?_) | (refine Zv (Val_loadR1 rfl z2 (RoAt s2 0 _ rfl)) ?_) | (refine Zv (Val_loadR1 rfl z5 (RoAt s5 0 _ rfl)) ?_) | (refine Zv (Val_loadR1 rfl z5 (RoAt s5 1 _ rfl)) ?_) | (refine Zv Zla ?_)); refine Zv Zmi ?_; refine Zcl (Enters_fn rfl) (p5 _) ?_; refine Zv Zmv ?_; refine Zv Zxex ?_; refine Zv Zxex ?_; refine Zv Zxex ?_; refine Zv Zai ?_; refine Zv Zai ?_; refine Zv Zai ?_) | (refine WP_cond_true rfl ?_) | (refine WP_cond_false rfl ?_) | (refine Zcd (fun hc => ?_) (fun hc => ?_) <;> (try (exfalso; omega))) | (with_reducible apply WP_skip) | (with_reducible apply WP_block) | (with_reducible apply WP_exit) | (with_reducible apply WP_ret)) | (refine Zhn ?_) | (with_reducible apply QBlock_normal) | (refine Zhx ?_) | (with_reducible apply QBlock_hit) | (refine Zqb ?_) | (with_reducible apply QLoop_exit) | (refine Zhr ?_) | (with_reducible apply QBlock_ret) | (with_reducible apply QLoop_ret))
    obtain ⟨⟨a1, a2⟩, ⟨a3, a4⟩, ⟨i, j, a5, a6, a7, rfl, rfl⟩, a8, a9⟩ := hday' k hk
    clear hday'
    have hk3 : k ≤ 3 := by omega
    have b1 := two_bd hk3
    have b2 := two_bd (show i ≤ 3 by omega)
    have b3 := two_bd (show j ≤ 3 by omega)
    have c1 := sub_bits a5 hk3
    have c2 := sub_bits a6 (show j ≤ 3 by omega)
    have c3 : ((2 ^ k : Nat) : Int) - 1 = ((2 ^ k - 1 : Nat) : Int) := by omega
    obtain ⟨Kk, hKk⟩ : ∃ K, 2 ^ k - 1 = K := ⟨_, rfl⟩
    obtain ⟨Ki, hKi⟩ : ∃ K, 2 ^ i - 1 = K := ⟨_, rfl⟩
    obtain ⟨Kj, hKj⟩ : ∃ K, 2 ^ j - 1 = K := ⟨_, rfl⟩
    rw [hKk] at c1 c2 c3
    rw [hKi] at c1 ⊢
    rw [hKj] at c2 ⊢
    set_option maxRecDepth 2000 in repeat' (first | (refine GiP ?_; first | (refine Znh ?_) | (with_reducible refine Znl ?_)) | (refine GiW ?_; first | (refine Zsq fun K hK => ?_) | (refine WP_cond_true rfl ?_) | (refine WP_cond_false rfl ?_) | (refine Zcd (fun hc => ?_) (fun hc => ?_) <;> (try (exfalso; omega))) | (with_reducible apply WP_skip) | (with_reducible apply WP_block) | (with_reducible apply WP_exit) | (with_reducible apply WP_ret) | (refine WP_drawn (id := 17) [0, 1, 2, 3, 4, 5, 6, 7, 8, 9, 10] [] (k := 0) prog_mixed (by kernel_rfl) rfl ?_; (first | (refine Zew rfl (Val_loadRN rfl z5 s5 rfl) ?_) | (refine Zew rfl (Val_loadRN rfl z2 s2 rfl) ?_) | (refine Zew rfl (Val_loadRN rfl hb6 r6 rfl) ?_) | (refine Zew rfl (Val_loadR1 rfl z2 (RoAt s2 0 _ rfl)) ?_) | (refine Zew rfl (Val_loadR1 rfl z5 (RoAt s5 0 _ rfl)) ?_) | (refine Zew rfl (Val_loadR1 rfl z5 (RoAt s5 1 _ rfl)) ?_) | (refine Zew rfl Zla ?_)); refine Zew rfl Zmi ?_; refine Zew rfl Zmi ?_; refine Zew rfl Zmi ?_; refine Zec rfl (Enters_fn rfl) (fun X => qs _ _ _) ?_; refine Zec rfl (Enters_fn rfl) (fun X => p6 _) ?_; refine Zew rfl Zmv ?_; refine Zew rfl Zxex ?_; refine Zew rfl Zxex ?_; refine Zew rfl Zai ?_; refine Zew rfl Zai ?_)) | (with_reducible apply EWalk_nil) | (refine AnyO_done (by kernel_rfl) ?_; (try with_reducible apply noP_normal); try with_reducible exact key.out) | (refine Zhn ?_) | (with_reducible apply QBlock_normal) | (refine Zhx ?_) | (with_reducible apply QBlock_hit) | (refine Zqb ?_) | (with_reducible apply QLoop_exit) | (refine Zhr ?_) | (with_reducible apply QBlock_ret) | (with_reducible apply QLoop_ret) | (refine AWalk_0 ?_; refine ZisO ?_) | (with_reducible apply QAny_normal))
    have hi1 := fun L' => qi L' C (u1, u2)
    have hi2 := fun L' => qi L' (max 0 (T - t)) (n1, n2)
    rw [decide_eq_true (show (u1, u2).1 ≤ C ∧ C ≤ (u1, u2).2 from ⟨a1, a2⟩)] at hi1
    rw [decide_eq_true (show (n1, n2).1 ≤ max 0 (T - t) ∧ max 0 (T - t) ≤ (n1, n2).2 from ⟨a3, a4⟩)] at hi2
    dsimp only at hi1 hi2
    set_option maxRecDepth 2000 in repeat' (first | (refine GiP ?_; first | (refine Znh ?_) | (with_reducible refine Znl ?_)) | (refine GiW ?_; first | (refine Zsq fun K hK => ?_) | (refine WP_cond_true rfl ?_) | (refine WP_cond_false rfl ?_) | (refine Zcd (fun hc => ?_) (fun hc => ?_) <;> (try (exfalso; omega))) | (with_reducible apply WP_skip) | (with_reducible apply WP_block) | (with_reducible apply WP_exit) | (with_reducible apply WP_ret) | (refine WP_drawn (id := 18) [0, 1, 2, 3, 4, 5, 6, 7, 8, 9, 10, 11, 12, 13, 14, 15, 16, 17, 18, 19, 20, 21, 22, 23, 24, 25, 26, 27, 28, 29, 30, 31, 32, 33, 34, 35, 36, 37, 38, 39, 40, 41, 42, 43, 44, 45, 46, 47, 48, 49, 50, 51, 52, 53, 54] [] (k := 0) prog_mixed (by kernel_rfl) rfl ?_; refine Zew rfl Zmi ?_; refine Zew rfl Zyneq ?_; refine Zew rfl Zmb ?_)) | (refine GiE ?_; first | (refine Zati 7 ?_; (first | (refine Zew rfl Zxpt ?_) | (refine Zew rfl Zxpf ?_)); refine Zew rfl Zmb ?_) | (refine Zati 11 ?_; (first | (refine Zew rfl Zxpt ?_) | (refine Zew rfl Zxpf ?_)); refine Zew rfl Zmb ?_) | (refine Zati 26 ?_; (first | (refine Zew rfl Zxpt ?_) | (refine Zew rfl Zxpf ?_)); refine Zew rfl Zmb ?_) | (refine Zati 30 ?_; (first | (refine Zew rfl Zxpt ?_) | (refine Zew rfl Zxpf ?_)); refine Zew rfl Zmb ?_) | (refine Zati 38 ?_; (first | (refine Zew rfl Zxpt ?_) | (refine Zew rfl Zxpf ?_)); refine Zew rfl Zmb ?_) | (refine Zati 46 ?_; (first | (refine Zew rfl Zxpt ?_) | (refine Zew rfl Zxpf ?_)); refine Zew rfl Zmb ?_) | (refine Zati 50 ?_; (first | (refine Zew rfl Zxpt ?_) | (refine Zew rfl Zxpf ?_)); refine Zew rfl Zmb ?_) | (refine Zati 54 ?_; (first | (refine Zew rfl Zxpt ?_) | (refine Zew rfl Zxpf ?_))) | (refine Zati 3 ?_; first | refine Zes ?_ | (refine Zew rfl Zmi ?_)) | (refine Zati 4 ?_; first | refine Zes ?_ | (refine Zew rfl (Val_loadRN rfl z5 s5 rfl) ?_) | (refine Zew rfl (Val_loadRN rfl z2 s2 rfl) ?_) | (refine Zew rfl (Val_loadRN rfl hb6 r6 rfl) ?_) | (refine Zew rfl (Val_loadR1 rfl z2 (RoAt s2 0 _ rfl)) ?_) | (refine Zew rfl (Val_loadR1 rfl z5 (RoAt s5 0 _ rfl)) ?_) | (refine Zew rfl (Val_loadR1 rfl z5 (RoAt s5 1 _ rfl)) ?_) | (refine Zew rfl (Val_loadR1 rfl hbT hcT) ?_) | (refine Zew rfl Zla ?_)) | (refine Zati 5 ?_; first | refine Zes ?_ | (refine Zec rfl (Enters_fn rfl) (fun X => hi1 _) ?_) | (refine Zec rfl (Enters_fn rfl) (fun X => hi2 _) ?_)) | (refine Zati 6 ?_; first | refine Zes ?_ | (refine Zew rfl Zxnot ?_)) | (refine Zati 9 ?_; first | refine Zes ?_ | (refine Zew rfl Zmi ?_)) | (refine Zati 10 ?_; first | refine Zes ?_ | (refine Zew rfl Zyneq ?_)) | (refine Zati 13 ?_; first | refine Zes ?_ | (refine Zew rfl (Val_loadRN rfl z5 s5 rfl) ?_) | (refine Zew rfl (Val_loadRN rfl z2 s2 rfl) ?_) | (refine Zew rfl (Val_loadRN rfl hb6 r6 rfl) ?_) | (refine Zew rfl (Val_loadR1 rfl z2 (RoAt s2 0 _ rfl)) ?_) | (refine Zew rfl (Val_loadR1 rfl z5 (RoAt s5 0 _ rfl)) ?_) | (refine Zew rfl (Val_loadR1 rfl z5 (RoAt s5 1 _ rfl)) ?_) | (refine Zew rfl (Val_loadR1 rfl hbT hcT) ?_) | (refine Zew rfl Zla ?_)) | (refine Zati 14 ?_; first | refine Zes ?_ | (refine Zew rfl (Val_loadRN rfl z5 s5 rfl) ?_) | (refine Zew rfl (Val_loadRN rfl z2 s2 rfl) ?_) | (refine Zew rfl (Val_loadRN rfl hb6 r6 rfl) ?_) | (refine Zew rfl (Val_loadR1 rfl z2 (RoAt s2 0 _ rfl)) ?_) | (refine Zew rfl (Val_loadR1 rfl z5 (RoAt s5 0 _ rfl)) ?_) | (refine Zew rfl (Val_loadR1 rfl z5 (RoAt s5 1 _ rfl)) ?_) | (refine Zew rfl (Val_loadR1 rfl hbT hcT) ?_) | (refine Zew rfl Zla ?_)) | (refine Zati 15 ?_; first | refine Zes ?_ | (refine Zec rfl (Enters_fn rfl) (fun X => q9 _) ?_)) | (refine Zati 16 ?_; first | refine Zes ?_ | (refine Zew rfl Zfa ?_)) | (refine Zati 17 ?_; first | refine Zes ?_ | (refine Zew rfl (Val_loadRN rfl z5 s5 rfl) ?_) | (refine Zew rfl (Val_loadRN rfl z2 s2 rfl) ?_) | (refine Zew rfl (Val_loadRN rfl hb6 r6 rfl) ?_) | (refine Zew rfl (Val_loadR1 rfl z2 (RoAt s2 0 _ rfl)) ?_) | (refine Zew rfl (Val_loadR1 rfl z5 (RoAt s5 0 _ rfl)) ?_) | (refine Zew rfl (Val_loadR1 rfl z5 (RoAt s5 1 _ rfl)) ?_) | (refine Zew rfl (Val_loadR1 rfl hbT hcT) ?_) | (refine Zew rfl Zld ?_)) | (refine Zati 18 ?_; first | refine Zes ?_ | (refine Zew rfl Zmi ?_)) | (refine Zati 19 ?_; first | refine Zes ?_ | (refine Zew rfl (Val_indexAddrE1 rfl hT1 rfl rfl hdl) ?_) | (refine Zew rfl Zia ?_)) | (refine Zati 20 ?_; first | refine Zes ?_ | (refine Zew rfl (Val_loadRN rfl z5 s5 rfl) ?_) | (refine Zew rfl (Val_loadRN rfl z2 s2 rfl) ?_) | (refine Zew rfl (Val_loadRN rfl hb6 r6 rfl) ?_) | (refine Zew rfl (Val_loadR1 rfl z2 (RoAt s2 0 _ rfl)) ?_) | (refine Zew rfl (Val_loadR1 rfl z5 (RoAt s5 0 _ rfl)) ?_) | (refine Zew rfl (Val_loadR1 rfl z5 (RoAt s5 1 _ rfl)) ?_) | (refine Zew rfl (Val_loadR1 rfl hbT hcT) ?_) | (refine Zew rfl Zld ?_)) | (refine Zati 21 ?_; first | refine Zes ?_ | (refine Zew rfl (Val_subN c3 (by omega) rfl rfl) ?_) | (refine Zew rfl (Zxsub) ?_)) | (refine Zati 22 ?_; first | refine Zes ?_ | (refine Zew rfl Zxmax ?_)) | (refine Zati 23 ?_; first | refine Zes ?_ | (refine Zew rfl (Val_loadRN rfl z5 s5 rfl) ?_) | (refine Zew rfl (Val_loadRN rfl z2 s2 rfl) ?_) | (refine Zew rfl (Val_loadRN rfl hb6 r6 rfl) ?_) | (refine Zew rfl (Val_loadR1 rfl z2 (RoAt s2 0 _ rfl)) ?_) | (refine Zew rfl (Val_loadR1 rfl z5 (RoAt s5 0 _ rfl)) ?_) | (refine Zew rfl (Val_loadR1 rfl z5 (RoAt s5 1 _ rfl)) ?_) | (refine Zew rfl (Val_loadR1 rfl hbT hcT) ?_) | (refine Zew rfl Zla ?_)) | (refine Zati 24 ?_; first | refine Zes ?_ | (refine Zec rfl (Enters_fn rfl) (fun X => hi1 _) ?_) | (refine Zec rfl (Enters_fn rfl) (fun X => hi2 _) ?_)) | (refine Zati 25 ?_; first | refine Zes ?_ | (refine Zew rfl Zxnot ?_)) | (refine Zati 28 ?_; first | refine Zes ?_ | (refine Zew rfl Zmi ?_)) | (refine Zati 29 ?_; first | refine Zes ?_ | (refine Zew rfl Zyneq ?_)) | (refine Zati 32 ?_; first | refine Zes ?_ | (refine Zew rfl Zmi ?_)) | (refine Zati 33 ?_; first | refine Zes ?_ | (refine Zew rfl Zmi ?_)) | (refine Zati 34 ?_; first | refine Zes ?_ | (refine Zew rfl (Val_shlS rfl rfl (by omega)) ?_)) | (refine Zati 35 ?_; first | refine Zes ?_ | (refine Zew rfl (Val_subN c3 (by omega) rfl rfl) ?_) | (refine Zew rfl (Zxsub) ?_)) | (refine Zati 36 ?_; first | refine Zes ?_ | (refine Zew rfl (Val_andNotE c1 (by omega) (by omega) rfl rfl) ?_) | (refine Zew rfl (Val_andNotE c2 (by omega) (by omega) rfl rfl) ?_)) | (refine Zati 37 ?_; first | refine Zes ?_ | (refine Zew rfl Zyneq ?_)) | (refine Zati 40 ?_; first | refine Zes ?_ | (refine Zew rfl Zmi ?_)) | (refine Zati 41 ?_; first | refine Zes ?_ | (refine Zew rfl (Val_shlS rfl rfl (by omega)) ?_)) | (refine Zati 42 ?_; first | refine Zes ?_ | (refine Zew rfl (Val_subN c3 (by omega) rfl rfl) ?_) | (refine Zew rfl (Zxsub) ?_)) | (refine Zati 43 ?_; first | refine Zes ?_ | (refine Zew rfl Zmi ?_)) | (refine Zati 44 ?_; first | refine Zes ?_ | (refine Zew rfl (Val_andNotE c1 (by omega) (by omega) rfl rfl) ?_) | (refine Zew rfl (Val_andNotE c2 (by omega) (by omega) rfl rfl) ?_)) | (refine Zati 45 ?_; first | refine Zes ?_ | (refine Zew rfl Zyneq ?_)) | (refine Zati 48 ?_; first | refine Zes ?_ | (refine Zew rfl Zmi ?_)) | (refine Zati 49 ?_; first | refine Zes ?_ | (refine Zew rfl Zyneq ?_)) | (refine Zati 52 ?_; first | refine Zes ?_ | (refine Zew rfl Zmi ?_)) | (refine Zati 53 ?_; first | refine Zes ?_ | (refine Zew rfl Zyeql ?_)) | (refine Zes ?_) | (refine Zesp (fun hc => ?_) (fun hc => ?_) <;> (try (exfalso; omega))) | (with_reducible apply EWalk_nil)) | (refine AnyO_done (by kernel_rfl) ?_; (try with_reducible apply noP_normal); try with_reducible exact key.out) | (refine Zhn ?_) | (with_reducible apply QBlock_normal) | (refine Zhx ?_) | (with_reducible apply QBlock_hit) | (refine Zqb ?_) | (with_reducible apply QLoop_exit) | (refine Zhr ?_) | (with_reducible apply QBlock_ret) | (with_reducible apply QLoop_ret) | (refine AWalk_0 ?_; refine ZisO ?_) | (with_reducible apply QAny_normal))
    have hmin : ((min f d : Nat) : Int) = min (f : Int) (d : Int) := by omega
    by_cases hkn : k = g.s.spits.length
    · have hTt := a9.1 hkn
      set_option maxRecDepth 2000 in repeat' (first | (refine GiP ?_; first | (refine Znh ?_) | (with_reducible refine Znl ?_)) | (refine GiW ?_; first | (refine Zsq fun K hK => ?_) | (refine ZrN 20 fun _ => ?_; refine Zv Zmi ?_; refine Zv Zf0 ?_; (first | (refine Zv (Val_loadRN rfl z5 s5 rfl) ?_) | (refine Zv (Val_loadRN rfl z2 s2 rfl) ?_) | (refine Zv (Val_loadRN rfl hb6 r6 rfl) ?_) | (refine Zv (Val_loadR1 rfl z2 (RoAt s2 0 _ rfl)) ?_) | (refine Zv (Val_loadR1 rfl z5 (RoAt s5 0 _ rfl)) ?_) | (refine Zv (Val_loadR1 rfl z5 (RoAt s5 1 _ rfl)) ?_) | (refine Zv Zld ?_)); refine Zv Zxlen ?_; refine Zv Zyeql ?_) | (refine ZrN 21 fun _ => ?_; refine Zv Zmi ?_; refine Zv Zmi ?_; refine Zv Zxmin ?_; refine Zv Zai ?_) | (refine ZrN 22 fun _ => ?_; refine Zv Zxadd ?_; refine Zv Zmi ?_) | (refine WP_cond_true rfl ?_) | (refine WP_cond_false rfl ?_) | (refine Zcd (fun hc => ?_) (fun hc => ?_) <;> (try (exfalso; omega))) | (with_reducible apply WP_skip) | (with_reducible apply WP_block) | (with_reducible apply WP_exit) | (with_reducible apply WP_ret)) | (refine Zhn ?_) | (with_reducible apply QBlock_normal) | (refine Zhx ?_) | (with_reducible apply QBlock_hit) | (refine Zqb ?_) | (with_reducible apply QLoop_exit) | (refine Zhr ?_) | (with_reducible apply QBlock_ret) | (with_reducible apply QLoop_ret))
      refine QLoop_normal (d + 1, min f d) (.cons (by dsimp only; rw [hmin]; rfl) (.cons rfl .nil)) (by repeat (first | exact Off.frame rfl | exact Off.refl _ _ | refine Off.frameT rfl rfl ?_ | refine Off.upd rfl ?_ | refine Off.updO rfl ?_)) (by repeat (first | exact Wk.refl _ | apply Wk.keep1 | apply Wk.drop | apply Wk.sv | apply Wk.svD | apply Wk.appD)) ⟨by dsimp only; omega, by dsimp only; omega, fun j' t' h1 h2 h3 => ?_, fun t' h1 => ?_, by dsimp only; omega⟩ (by dsimp only; omega)
      · dsimp only at h1 h2
        exact hlo j' t' (by omega) (by omega) h3
      · dsimp only at h1
        rcases (show min f d = f ∨ min f d = d by omega) with h2 | h2
        · rw [h2] at h1; exact hhi t' h1
        · rw [h2, ht] at h1; simp only [Option.some.injEq] at h1; omega
    · have hTt : ¬ T ≤ t := fun h => hkn (a9.2 h)
      set_option maxRecDepth 2000 in repeat' (first | (refine GiP ?_; first | (refine Znh ?_) | (with_reducible refine Znl ?_)) | (refine GiW ?_; first | (refine Zsq fun K hK => ?_) | (refine ZrN 20 fun _ => ?_; refine Zv Zmi ?_; refine Zv Zf0 ?_; (first | (refine Zv (Val_loadRN rfl z5 s5 rfl) ?_) | (refine Zv (Val_loadRN rfl z2 s2 rfl) ?_) | (refine Zv (Val_loadRN rfl hb6 r6 rfl) ?_) | (refine Zv (Val_loadR1 rfl z2 (RoAt s2 0 _ rfl)) ?_) | (refine Zv (Val_loadR1 rfl z5 (RoAt s5 0 _ rfl)) ?_) | (refine Zv (Val_loadR1 rfl z5 (RoAt s5 1 _ rfl)) ?_) | (refine Zv Zld ?_)); refine Zv Zxlen ?_; refine Zv Zyeql ?_) | (refine ZrN 22 fun _ => ?_; refine Zv Zxadd ?_; refine Zv Zmi ?_) | (refine WP_cond_true rfl ?_) | (refine WP_cond_false rfl ?_) | (refine Zcd (fun hc => ?_) (fun hc => ?_) <;> (try (exfalso; omega))) | (with_reducible apply WP_skip) | (with_reducible apply WP_block) | (with_reducible apply WP_exit) | (with_reducible apply WP_ret)) | (refine Zhn ?_) | (with_reducible apply QBlock_normal) | (refine Zhx ?_) | (with_reducible apply QBlock_hit) | (refine Zqb ?_) | (with_reducible apply QLoop_exit) | (refine Zhr ?_) | (with_reducible apply QBlock_ret) | (with_reducible apply QLoop_ret))
      refine QLoop_normal (d + 1, f) (.cons rfl (.cons rfl .nil)) (by repeat (first | exact Off.frame rfl | exact Off.refl _ _ | refine Off.frameT rfl rfl ?_ | refine Off.upd rfl ?_ | refine Off.updO rfl ?_)) (by repeat (first | exact Wk.refl _ | apply Wk.keep1 | apply Wk.drop | apply Wk.sv | apply Wk.svD | apply Wk.appD)) ⟨by dsimp only; omega, hf, fun j' t' h1 h2 h3 => ?_, hhi, by dsimp only; omega⟩ (by dsimp only; omega)
      dsimp only at h1 h2
      by_cases hjd : j' = d
      · rw [hjd, ht] at h3; simp only [Option.some.injEq] at h3; omega
      · exact hlo j' t' (by omega) h2 h3
  · have hde : d = g.s.days.length := by omega
    have hdone := true_done hv hcin hcl hst hf (fun j t h1 h2 => by rw [hTe]; exact hlo j t (by omega) h1 h2) (fun t h => by rw [hTe]; exact hhi t h)
    rw [hDe] at hdone
    dsimp only at hdone
    clear hlo hhi hfd q1 q2 q3 q4 q5 q6 q8 q9
    set_option maxRecDepth 2000 in repeat' (first | (refine GiP ?_; first | (refine Znh ?_) | (with_reducible refine Znl ?_)) | (refine GiW ?_; first | (refine Zsq fun K hK => ?_) | (refine ZrN 11 fun _ => ?_; refine Zv Zylss ?_) | (refine ZrN 23 fun _ => ?_; refine Zv Zf0 ?_; (first | (refine Zv (Val_loadRN rfl z5 s5 rfl) ?_) | (refine Zv (Val_loadRN rfl z2 s2 rfl) ?_) | (refine Zv (Val_loadRN rfl hb6 r6 rfl) ?_) | (refine Zv (Val_loadR1 rfl z2 (RoAt s2 0 _ rfl)) ?_) | (refine Zv (Val_loadR1 rfl z5 (RoAt s5 0 _ rfl)) ?_) | (refine Zv (Val_loadR1 rfl z5 (RoAt s5 1 _ rfl)) ?_) | (refine Zv Zld ?_)); refine Zv Zxlen ?_; refine Zv Zmi ?_) | (refine WP_cond_true rfl ?_) | (refine WP_cond_false rfl ?_) | (refine Zcd (fun hc => ?_) (fun hc => ?_) <;> (try (exfalso; omega))) | (with_reducible apply WP_skip) | (with_reducible apply WP_block) | (with_reducible apply WP_exit) | (with_reducible apply WP_ret)) | (refine Zhn ?_) | (with_reducible apply QBlock_normal) | (refine Zhx ?_) | (with_reducible apply QBlock_hit) | (refine Zqb ?_) | (with_reducible apply QLoop_exit) | (refine Zhr ?_) | (with_reducible apply QBlock_ret) | (with_reducible apply QLoop_ret))
    refine WP_loop [4, 24, 25, 26, 27, 165, 166, 167, 168, 169, 170, 171, 172, 173, 174, 175, 176, 177, 178, 179, 180, 181, 182, 183, 184] (fun k : Nat => [(165, .int .i64 k)]) (fun _ => [(b9, Blk 28 [.int .i64 D1, .int .i64 D2])]) (fun k => k ≤ g.s.spits.length) (fun k => g.s.spits.length - k) 0 (.cons rfl .nil) (Wk.refl _) (Nat.zero_le _) ?_
    intro k j2 hk
    by_cases hkl : k < g.s.spits.length
    · obtain ⟨x, hx, bB, oB, hB1, hbB, hcB⟩ := hT2.cg w2.heap.size w2 hkl
      have hco := true_cost hv hcin hcl hst hx
      obtain ⟨⟨-, v2, -⟩, -, e2, -⟩ := vals_yes vx h0 (show 0 < (rightS g.s cs ts).days.length from hnd.1) (show k < (rightS g.s cs ts).spits.length from hkl)
      have p7 := fun L' => q7 L' k
      rw [v2, e2] at p7
      obtain ⟨⟨u1, u2⟩, hU⟩ : ∃ u, costV (rightS g.s cs ts) k = u := ⟨_, rfl⟩
      rw [hU] at p7 hco
      have hi1 := fun L' => qi L' x (u1, u2)
      rw [decide_eq_true (show (u1, u2).1 ≤ x ∧ x ≤ (u1, u2).2 from hco)] at hi1
      dsimp only at p7 hi1
      set_option maxRecDepth 2000 in repeat' (first | (refine GiP ?_; first | (refine Znh ?_) | (with_reducible refine Znl ?_) | (refine Zatd 183 ?_; (first | (refine Zv Zxpt ?_) | (refine Zv Zxpf ?_))) | (refine Zatd 179 ?_; first | refine Zsk ?_ | (refine Zv Zmi ?_)) | (refine Zatd 180 ?_; first | refine Zsk ?_ | (refine Zv (Val_loadRN rfl z5 s5 rfl) ?_) | (refine Zv (Val_loadRN rfl z2 s2 rfl) ?_) | (refine Zv (Val_loadRN rfl hb6 r6 rfl) ?_) | (refine Zv (Val_loadR1 rfl z2 (RoAt s2 0 _ rfl)) ?_) | (refine Zv (Val_loadR1 rfl z5 (RoAt s5 0 _ rfl)) ?_) | (refine Zv (Val_loadR1 rfl z5 (RoAt s5 1 _ rfl)) ?_) | (refine Zv (Val_loadR1 rfl hbB hcB) ?_) | (refine Zv Zla ?_)) | (refine Zatd 181 ?_; first | refine Zsk ?_ | (refine Zcl (Enters_fn rfl) (hi1 _) ?_)) | (refine Zatd 182 ?_; first | refine Zsk ?_ | (refine Zv Zxnot ?_)) | (refine Zsk ?_) | (refine Zsp (fun hc => ?_) (fun hc => ?_) <;> (try (exfalso; omega)))) | (refine GiW ?_; first | (refine Zsq fun K hK => ?_) | (refine ZrN 24 fun _ => ?_; refine Zv Zylss ?_) | (refine ZrN 25 fun _ => ?_; refine Zv Zmi ?_; (first | (refine Zv (Val_indexAddrE1 rfl hB1 rfl rfl hkl) ?_) | (refine Zv Zia ?_)); (first | (refine Zv (Val_loadRN rfl z5 s5 rfl) ?_) | (refine Zv (Val_loadRN rfl z2 s2 rfl) ?_) | (refine Zv (Val_loadRN rfl hb6 r6 rfl) ?_) | (refine Zv (Val_loadR1 rfl z2 (RoAt s2 0 _ rfl)) ?_) | (refine Zv (Val_loadR1 rfl z5 (RoAt s5 0 _ rfl)) ?_) | (refine Zv (Val_loadR1 rfl z5 (RoAt s5 1 _ rfl)) ?_) | (refine Zv (Val_loadR1 rfl hbB hcB) ?_) | (refine Zv Zld ?_)); refine Zv Zai ?_; refine Zv Zai ?_) | (refine ZrN 26 fun _ => ?_; (first | (refine Zv (Val_loadRN rfl z5 s5 rfl) ?_) | (refine Zv (Val_loadRN rfl z2 s2 rfl) ?_) | (refine Zv (Val_loadRN rfl hb6 r6 rfl) ?_) | (refine Zv (Val_loadR1 rfl z2 (RoAt s2 0 _ rfl)) ?_) | (refine Zv (Val_loadR1 rfl z5 (RoAt s5 0 _ rfl)) ?_) | (refine Zv (Val_loadR1 rfl z5 (RoAt s5 1 _ rfl)) ?_) | (refine Zv (Val_loadR1 rfl hbB hcB) ?_) | (refine Zv Zla ?_)); refine Zv Zmi ?_; refine Zcl (Enters_fn rfl) (p7 _) ?_; refine Zv Zmv ?_; refine Zv Zxex ?_; refine Zv Zxex ?_; refine Zal 26 fun b26 => ?_; refine Zst ?_; refine Zv Zai ?_) | (refine ZrG 27 ?_; refine Zv Zmi ?_; refine Zv Zyneq ?_; refine Zv Zmb ?_) | (refine ZrN 29 fun _ => ?_; refine Zv Zxadd ?_; refine Zv Zmi ?_) | (refine WP_cond_true rfl ?_) | (refine WP_cond_false rfl ?_) | (refine Zcd (fun hc => ?_) (fun hc => ?_) <;> (try (exfalso; omega))) | (with_reducible apply WP_skip) | (with_reducible apply WP_block) | (with_reducible apply WP_exit) | (with_reducible apply WP_ret)) | (refine Zhn ?_) | (with_reducible apply QBlock_normal) | (refine Zhx ?_) | (with_reducible apply QBlock_hit) | (refine Zqb ?_) | (with_reducible apply QLoop_exit) | (refine Zhr ?_) | (with_reducible apply QBlock_ret) | (with_reducible apply QLoop_ret))
      exact QLoop_normal (k + 1) (.cons rfl .nil) (by repeat (first | exact Off.frame rfl | exact Off.refl _ _ | refine Off.frameT rfl rfl ?_ | refine Off.upd rfl ?_ | refine Off.updO rfl ?_)) (by repeat (first | exact Wk.refl _ | apply Wk.keep1 | apply Wk.drop | apply Wk.sv | apply Wk.svD | apply Wk.appD)) (by omega) (by omega)
    · have hi1 := fun L' => qi L' (f : Int) (D1, D2)
      rw [decide_eq_true (show (D1, D2).1 ≤ (f : Int) ∧ (f : Int) ≤ (D1, D2).2 from hdone)] at hi1
      dsimp only at hi1
      set_option maxRecDepth 2000 in repeat' (first | (refine GiP ?_; first | (refine Znh ?_) | (with_reducible refine Znl ?_) | (refine Zatd 190 ?_; (first | (refine Zv Zxpt ?_) | (refine Zv Zxpf ?_)); refine Zv Zab ?_) | (refine Zatd 189 ?_; first | refine Zsk ?_ | (refine Zcl (Enters_fn rfl) (h13' _) ?_)) | (refine Zsk ?_) | (refine Zsp (fun hc => ?_) (fun hc => ?_) <;> (try (exfalso; omega)))) | (refine GiW ?_; first | (refine Zsq fun K hK => ?_) | (refine ZrN 24 fun _ => ?_; refine Zv Zylss ?_) | (refine ZrG 30 ?_; refine Zv Zmi ?_; refine Zv Zla ?_; refine Zcl (Enters_fn rfl) (hi1 _) ?_; refine Zv Zmb ?_) | (refine WP_cond_true rfl ?_) | (refine WP_cond_false rfl ?_) | (refine Zcd (fun hc => ?_) (fun hc => ?_) <;> (try (exfalso; omega))) | (with_reducible apply WP_skip) | (with_reducible apply WP_block) | (with_reducible apply WP_exit) | (with_reducible apply WP_ret)) | (refine Zhn ?_) | (with_reducible apply QBlock_normal) | (refine Zhx ?_) | (with_reducible apply QBlock_hit) | (refine Zqb ?_) | (with_reducible apply QLoop_exit) | (refine Zhr ?_) | (with_reducible apply QBlock_ret) | (with_reducible apply QLoop_ret))
      exact QBody_ret1 rfl (rfl : _ = Value.bool _) ⟨rfl, (by repeat (first | exact Wk.refl _ | apply Wk.keep1 | apply Wk.drop | apply Wk.sv | apply Wk.svD | apply Wk.appD))⟩
theorem strue_all (L : Hp) (g : Fg) (hA : SodAt N w0 g) (A : Option Addr) (c : Nat) (us : List Nat) (hB : SlAt N w0 A 1 (u16L us)) (hu : ∀ u ∈ us, u ≤ 65535) : Ret Try.prog N w0 L 5 [sodV g, .slice A us.length c].toArray (.bool true) := by
  cases h : vB g.s with
  | false => exact strue_law0 N w0 L g hA A us.length c h
  | true => exact strue_law1 N w0 L g hA A c us hB hu h
end
end Go.Proofs.Ytkaadefndcbdnaa
