/- The law SodFits: its walk. -/
import Derived.Test.YtkaadefndcbdnaaC3
import Derived.Test.YtkaadefndcbdnaaQf
namespace Go.Proofs.Ytkaadefndcbdnaa
open Go.RowKit
theorem FitsOk_in {s : Sd} {d : Nat} (hd : d < s.days.length) {x : Sp} (hx : 0 ≤ x.1 ∧ x.1 ≤ x.2 ∧ x.2 ≤ 200) : FitsOk s d x = true := by
  simp only [FitsOk, DayOk, within, isSpanB, Bool.and_eq_true, decide_eq_true_eq]
  omega
theorem DayOk_in {s : Sd} {d : Nat} (hd : d < s.days.length) : DayOk s d = true := by
  simp only [DayOk, within, Bool.and_eq_true, decide_eq_true_eq]; omega
theorem errE_of {s : Sd} (v : VS s) {ok : Bool} (h : ok = true) : (toldC s = [] ∧ errE s ok = 10) ∨ (toldC s ≠ [] ∧ errE s ok = 0) := by
  cases h0 : someB s with
  | true => exact .inr ⟨someB_told.1 h0, errE_1 (vB_of v) h h0⟩
  | false =>
    refine .inl ⟨?_, errE_10 (vB_of v) h h0⟩
    apply Classical.byContradiction
    intro hne
    rw [someB_told.2 hne] at h0; cases h0
theorem CutV_no {s : Sd} (v : VS s) {d : Nat} (hd : d < s.days.length) (h0 : toldC s = []) : CutV s d = (0, 0) ∧ errE s (DayOk s d) = 10 := by
  rcases errE_of v (DayOk_in hd) with ⟨_, h⟩ | ⟨h, _⟩
  · exact ⟨by unfold CutV; rw [h, if_neg (by omega)], h⟩
  · exact absurd h0 h
theorem CutV_yes {s : Sd} (v : VS s) {d : Nat} (hd : d < s.days.length) (h0 : toldC s ≠ []) : CutV s d = cutV s d ∧ errE s (DayOk s d) = 0 := by
  rcases errE_of v (DayOk_in hd) with ⟨h, _⟩ | ⟨_, h⟩
  · exact absurd h h0
  · exact ⟨by unfold CutV; rw [h, if_pos rfl]; simp, h⟩
theorem FitsV_no {s : Sd} (v : VS s) {d : Nat} (hd : d < s.days.length) {x : Sp} (hx : 0 ≤ x.1 ∧ x.1 ≤ x.2 ∧ x.2 ≤ 200) (h0 : toldC s = []) : FitsV s d x = 0 ∧ errE s (FitsOk s d x) = 10 := by
  rcases errE_of v (FitsOk_in hd hx) with ⟨_, h⟩ | ⟨h, _⟩
  · exact ⟨by unfold FitsV; rw [h, if_neg (by omega)], h⟩
  · exact absurd h0 h
theorem FitsV_yes {s : Sd} (v : VS s) {d : Nat} (hd : d < s.days.length) {x : Sp} (hx : 0 ≤ x.1 ∧ x.1 ≤ x.2 ∧ x.2 ≤ 200) (h0 : toldC s ≠ []) : FitsV s d x = fitsV s d x ∧ errE s (FitsOk s d x) = 0 := by
  rcases errE_of v (FitsOk_in hd hx) with ⟨h, _⟩ | ⟨_, h⟩
  · exact absurd h h0
  · exact ⟨by unfold FitsV; rw [h, if_pos rfl]; simp, h⟩
theorem DoneV_yes {s : Sd} (v : VS s) (h0 : toldC s ≠ []) : DoneV s = doneV s ∧ errE s true = 0 := by
  rcases errE_of v (ok := true) rfl with ⟨h, _⟩ | ⟨_, h⟩
  · exact absurd h h0
  · exact ⟨by unfold DoneV; rw [h, if_pos rfl], h⟩
theorem DoneV_no {s : Sd} (v : VS s) (h0 : toldC s = []) : DoneV s = (0, 0) ∧ errE s true = 10 := by
  rcases errE_of v (ok := true) rfl with ⟨_, h⟩ | ⟨h, _⟩
  · exact ⟨by unfold DoneV; rw [h, if_neg (by omega)], h⟩
  · exact absurd h0 h
attribute [local irreducible] AnyO AnyB QAny QB EWalk AWalk Ev WP OPS QThen QBlock QScope QLoop QBody Val New Turn Tri Enters PostA Blk Ro
attribute [local irreducible] AnyC QC
section
variable (N : Nat) (w0 : World)
theorem fits_law0 (L : Hp) (g : Fg) (hA : SodAt N w0 g) (a b c : Nat) (h : vB g.s = false ∨ 4 ≤ g.s.logs.length) : Ret Try.prog N w0 L 9 [sodV g, .int .u8 (a : Int), .int .u8 (b : Int), .int .u8 (c : Int)].toArray (.bool true) := by
  have h28 := fun L => fine_in N w0 L g (SodIn.at_ hA)
  have h13 := fun L => awake_ret N w0 L
  refine Ret.fgt ?_
  refine tri_of_WP Try.func9 rfl (n := 196) rfl (by simp) ?_
  cases hvb : vB g.s with
  | false =>
    rw [hvb] at h28
    unfold sodV sdL at h28 ⊢
    repeat' (first | (refine GiP ?_; first | (refine Znh ?_) | (with_reducible refine Znl ?_) | (refine Zatd 31 ?_; (first | (refine Zv Zxpt ?_) | (refine Zv Zxpf ?_))) | (refine Zatd 27 ?_; refine Zv Zfa ?_) | (refine Zatd 28 ?_; refine Zv Zld ?_) | (refine Zatd 29 ?_; refine Zv Zxlen ?_) | (refine Zatd 30 ?_; refine Zv Zygeq ?_) | (refine Zsk ?_) | (refine Zsp (fun hc => ?_) (fun hc => ?_) <;> (try (exfalso; omega)))) | (refine GiW ?_; first | (refine Zsq fun K hK => ?_) | (refine ZrN 0 fun _ => ?_; refine Zal 4 fun b4 => ?_; refine Zv Zab ?_) | (refine ZrG 1 ?_; refine Zv Zla ?_; refine Zcl (Enters_fn rfl) (h28 _) ?_; refine Zv Zxnot ?_; refine Zv Zmb ?_) | (refine ZrN 2 fun _ => ?_; refine Zcl (Enters_fn rfl) (h13 _) ?_; refine Zv Zab ?_) | (refine WP_cond_true rfl ?_) | (refine WP_cond_false rfl ?_) | (refine Zcd (fun hc => ?_) (fun hc => ?_) <;> (try (exfalso; omega))) | (with_reducible apply WP_skip) | (with_reducible apply WP_block) | (with_reducible apply WP_ret)) | (refine Zhn ?_) | (with_reducible apply QBlock_normal) | (refine Zhr ?_) | (with_reducible apply QBlock_ret))
    exact QBody_ret1 rfl (rfl : _ = Value.bool _) ⟨rfl, (by repeat (first | exact Wk.refl _ | apply Wk.keep1 | apply Wk.drop | apply Wk.sv | apply Wk.svD | apply Wk.appD))⟩
  | true =>
    have h4 : 4 ≤ g.s.logs.length := by rcases h with h | h; rw [hvb] at h; cases h; exact h
    rw [hvb] at h28
    unfold sodV sdL at h28 ⊢
    repeat' (first | (refine GiP ?_; first | (refine Znh ?_) | (with_reducible refine Znl ?_) | (refine Zatd 31 ?_; (first | (refine Zv Zxpt ?_) | (refine Zv Zxpf ?_))) | (refine Zatd 27 ?_; refine Zv Zfa ?_) | (refine Zatd 28 ?_; refine Zv Zld ?_) | (refine Zatd 29 ?_; refine Zv Zxlen ?_) | (refine Zatd 30 ?_; refine Zv Zygeq ?_) | (refine Zsk ?_) | (refine Zsp (fun hc => ?_) (fun hc => ?_) <;> (try (exfalso; omega)))) | (refine GiW ?_; first | (refine Zsq fun K hK => ?_) | (refine ZrN 0 fun _ => ?_; refine Zal 4 fun b4 => ?_; refine Zv Zab ?_) | (refine ZrG 1 ?_; refine Zv Zla ?_; refine Zcl (Enters_fn rfl) (h28 _) ?_; refine Zv Zxnot ?_; refine Zv Zmb ?_) | (refine ZrN 2 fun _ => ?_; refine Zcl (Enters_fn rfl) (h13 _) ?_; refine Zv Zab ?_) | (refine WP_cond_true rfl ?_) | (refine WP_cond_false rfl ?_) | (refine Zcd (fun hc => ?_) (fun hc => ?_) <;> (try (exfalso; omega))) | (with_reducible apply WP_skip) | (with_reducible apply WP_block) | (with_reducible apply WP_ret)) | (refine Zhn ?_) | (with_reducible apply QBlock_normal) | (refine Zhr ?_) | (with_reducible apply QBlock_ret))
    exact QBody_ret1 rfl (rfl : _ = Value.bool _) ⟨rfl, (by repeat (first | exact Wk.refl _ | apply Wk.keep1 | apply Wk.drop | apply Wk.sv | apply Wk.svD | apply Wk.appD))⟩
set_option maxRecDepth 100000 in
set_option maxHeartbeats 4000000 in
theorem fits_law1 (L : Hp) (g : Fg) (hA : SodAt N w0 g) (a b c : Nat) (ha8 : a ≤ 255) (hb8 : b ≤ 255) (hc8 : c ≤ 255) (hvb : vB g.s = true) (h4 : g.s.logs.length < 4) : Ret Try.prog N w0 L 9 [sodV g, .int .u8 (a : Int), .int .u8 (b : Int), .int .u8 (c : Int)].toArray (.bool true) := by
  have hv := VS_of hvb
  have hnd := hv.nd
  have hin : ∀ L, SodIn N w0 L g := fun L => SodIn.at_ hA
  have h28 := fun L => fine_in N w0 L g (hin L)
  have h13 := fun L => awake_ret N w0 L
  rw [hvb] at h28
  obtain ⟨d, hdd⟩ : ∃ d, a % g.s.days.length = d := ⟨_, rfl⟩
  have hd : d < g.s.days.length := by rw [← hdd]; exact Nat.mod_lt _ (by omega)
  obtain ⟨lo, hlo⟩ : ∃ lo, b % 100 = lo := ⟨_, rfl⟩
  obtain ⟨wd, hwd⟩ : ∃ wd, c % 40 = wd := ⟨_, rfl⟩
  have hlo1 : lo < 100 := by omega
  have hwd1 : wd < 40 := by omega
  obtain ⟨l, hl⟩ : ∃ l : Lg, l = ⟨d, lo, (lo : Int) + wd⟩ := ⟨_, rfl⟩
  obtain ⟨v', n0, facts⟩ := fits_facts hv h4 hd (lo := lo) (hi := (lo : Int) + wd) (by omega)
  rw [← hl] at v' n0 facts
  have h14 := fun L => Cut_in N w0 L g (hin L) (by omega) d
  have h20 := fun L => Fits_in N w0 L g (hin L) (by omega) d ((lo : Int), (lo : Int) + wd)
  have h24 := fun L => Done_in N w0 L g (hin L) (by omega)
  have hx2 : 0 ≤ ((lo : Int), (lo : Int) + wd).1 ∧ ((lo : Int), (lo : Int) + wd).1 ≤ ((lo : Int), (lo : Int) + wd).2 ∧ ((lo : Int), (lo : Int) + wd).2 ≤ 200 := by dsimp only; omega
  obtain ⟨m, hm⟩ : ∃ m, g.s.logs.length = m := ⟨_, rfl⟩
  obtain ⟨xs, hxs⟩ : ∃ xs, (g.s.logs.map lgL).flatten = xs := ⟨_, rfl⟩
  have hsrc : ∀ L', ∀ w, Inv N w0 L' w → ∀ j u, xs[j]? = some u → ∃ b o, g.A3 = some ⟨b, o, none⟩ ∧ w.cell? ⟨b, o + j, none⟩ = some u := fun L' w hI => by rw [← hxs]; exact (hin L' w hI).logs.flat (by omega) (map_len (f := lgL) (fun _ => rfl) _)
  have hl3 : xs.length = m * (2 + 1) := by rw [← hxs, ← hm]; exact map_flat (f := lgL) (fun _ => rfl) _
  have ho3 : ones xs = true := by rw [← hxs]; exact ones_flat (map_ones (f := lgL) (fun _ => rfl) _)
  have hAn : g.A3 = none → m = 0 := fun h => by have := slat_none hA.logs h; rw [List.length_map] at this; omega
  -- the bank with one count more, laid anew
  have hgx : ∀ (s : Option (Nat × Nat)), svOk s 3 (m + 1) (xs ++ [.int .i64 (d : Int), .int .i64 (lo : Int), .int .i64 ((lo : Int) + wd)]) → ∃ A9 c9, svV s (m + 1) = .slice A9 (m + 1) c9 ∧ ∀ L', Sub (svH 60 3 (m + 1) (xs ++ [.int .i64 (d : Int), .int .i64 (lo : Int), .int .i64 ((lo : Int) + wd)]) s []) L' → SodIn N w0 L' { g with s := addL g.s l, A3 := A9, c3 := c9 } := by
    intro s hs
    obtain ⟨A9, c9, e9, hsl⟩ := sl_sv (E := 60) (by omega) hs
    refine ⟨A9, c9, e9, fun L' hS w hI => ?_⟩
    obtain ⟨L0, hp⟩ := hS
    have hI2 := (hI.perm hp)
    have hI3 : Inv N w0 (svH 60 3 (m + 1) (xs ++ [.int .i64 (d : Int), .int .i64 (lo : Int), .int .i64 ((lo : Int) + wd)]) s L0) w := by rw [svH_nil] at hI2; exact hI2
    have hb := hin L' w hI
    have hfl : (g.s.logs ++ [l]).map lgL = g.s.logs.map lgL ++ [[.int .i64 (d : Int), .int .i64 (lo : Int), .int .i64 ((lo : Int) + wd)]] := by rw [List.map_append, hl]; rfl
    refine ⟨hb.spits, hb.days, ?_, hb.cap1, ?_⟩
    · show SlAt w.heap.size w A9 3 ((g.s.logs ++ [l]).map lgL)
      refine hsl hI3 ?_ (map_len (f := lgL) (fun _ => rfl) _)
      rw [hfl, List.flatten_append, hxs]; simp
    · show (g.s.logs ++ [l]).length ≤ c9
      rw [List.length_append, hm, List.length_singleton]
      cases s with
      | none => have := hs.2 rfl; omega
      | some p =>
        obtain ⟨p1, p2⟩ := p
        obtain ⟨_, _, cur, _, hc1, _⟩ := hI3.obj' (b := p1) .here
        simp only [svV, Value.slice.injEq] at e9
        omega
  have h14x := fun L A9 c9 h => Cut_in N w0 L { g with s := addL g.s l, A3 := A9, c3 := c9 } h (by show g.s.days.length ≤ 1000; omega) d
  have h24x := fun L A9 c9 h => Done_in N w0 L { g with s := addL g.s l, A3 := A9, c3 := c9 } h (by show g.s.days.length ≤ 1000; omega)
  have hlen' : (addL g.s l).logs.length = m + 1 := by show (g.s.logs ++ [l]).length = _; rw [List.length_append, hm]; rfl
  refine Ret.fgt ?_
  refine tri_of_WP Try.func9 rfl (n := 196) rfl (by simp) ?_
  unfold sodV sdL at h28 h14 h20 h24 h14x h24x ⊢
  rw [hm] at h28 h14 h20 h24 h4 ⊢
  dsimp only at h14x h24x h20
  rw [hlen'] at h14x h24x
  repeat' (first | (refine GiP ?_; first | (refine Znh ?_) | (with_reducible refine Znl ?_) | (refine Zatd 31 ?_; (first | (refine Zv Zxpt ?_) | (refine Zv Zxpf ?_))) | (refine Zatd 27 ?_; refine Zv Zfa ?_) | (refine Zatd 28 ?_; refine Zv Zld ?_) | (refine Zatd 29 ?_; refine Zv Zxlen ?_) | (refine Zatd 30 ?_; refine Zv Zygeq ?_) | (refine Zsk ?_) | (refine Zsp (fun hc => ?_) (fun hc => ?_) <;> (try (exfalso; omega)))) | (refine GiW ?_; first | (refine Zsq fun K hK => ?_) | (refine ZrN 0 fun _ => ?_; refine Zal 4 fun b4 => ?_; refine Zv Zab ?_) | (refine ZrG 1 ?_; refine Zv Zla ?_; refine Zcl (Enters_fn rfl) (h28 _) ?_; refine Zv Zxnot ?_; refine Zv Zmb ?_) | (refine ZrN 3 fun _ => ?_; refine Zv Zmi ?_; refine Zv Zxco ?_; refine Zv Zfa ?_; refine Zv Zld ?_; refine Zv Zxlen ?_; (first | (refine Zv (Val_remE2 hdd (by omega) rfl rfl) ?_) | (refine Zv (Val_remE2 hlo (by omega) rfl rfl) ?_) | (refine Zv (Val_remE2 hwd (by omega) rfl rfl) ?_)); refine Zv Zai ?_) | (refine ZrN 4 fun _ => ?_; refine Zv Zmi ?_; refine Zv Zxco ?_; (first | (refine Zv (Val_remE2 hdd (by omega) rfl rfl) ?_) | (refine Zv (Val_remE2 hlo (by omega) rfl rfl) ?_) | (refine Zv (Val_remE2 hwd (by omega) rfl rfl) ?_)); refine Zv Zmi ?_; refine Zv Zxco ?_; (first | (refine Zv (Val_remE2 hdd (by omega) rfl rfl) ?_) | (refine Zv (Val_remE2 hlo (by omega) rfl rfl) ?_) | (refine Zv (Val_remE2 hwd (by omega) rfl rfl) ?_)); refine Zv Zmi ?_; refine Zv Zxco ?_; (first | (refine Zv (Val_remE2 hdd (by omega) rfl rfl) ?_) | (refine Zv (Val_remE2 hlo (by omega) rfl rfl) ?_) | (refine Zv (Val_remE2 hwd (by omega) rfl rfl) ?_)); refine Zv Zxadd ?_; refine Zcl (Enters_fn rfl) (span32_ret N w0 _ _ _) ?_; refine Zal 10 fun b10 => ?_; refine Zst ?_) | (refine ZrN 5 fun _ => ?_; refine Zv Zla ?_; refine Zv Zmi ?_; refine Zv Zla ?_; refine Zcl (Enters_fn rfl) (h20 _) ?_; refine Zv Zmv ?_; refine Zv Zxex ?_; refine Zv Zxex ?_; refine Zv Zai ?_; refine Zv Zai ?_) | (refine ZrN 6 fun _ => ?_; refine Zv Zla ?_; refine Zv Zmi ?_; refine Zcl (Enters_fn rfl) (h14 _) ?_; refine Zv Zmv ?_; refine Zv Zxex ?_; refine Zv Zxex ?_; refine Zal 13 fun b13 => ?_; refine Zst ?_; refine Zv Zai ?_) | (refine ZrN 7 fun _ => ?_; refine Zv Zla ?_; refine Zal 15 fun b15 => ?_; refine Zst ?_) | (refine WP_cond_true rfl ?_) | (refine WP_cond_false rfl ?_) | (refine Zcd (fun hc => ?_) (fun hc => ?_) <;> (try (exfalso; omega))) | (with_reducible apply WP_skip) | (with_reducible apply WP_block) | (with_reducible apply WP_ret)) | (refine Zhn ?_) | (with_reducible apply QBlock_normal) | (refine Zhr ?_) | (with_reducible apply QBlock_ret))
  refine WP_joinS (by assumption) [64, 65, 66, 67, 68, 69, 70, 71, 72, 73] (fun _ : Option (Nat × Nat) => []) (fun s => svH 60 3 (m + 1) (xs ++ [.int .i64 (d : Int), .int .i64 (lo : Int), .int .i64 ((lo : Int) + wd)]) s ((b15, Blk 26 [.slice g.A1 g.s.spits.length g.c1, .slice g.A2 g.s.days.length g.c2, svV s (m + 1)]) :: (b13, Blk 28 [.int .i64 (CutV g.s d).1, .int .i64 (CutV g.s d).2]) :: (b10, Blk 28 [.int .i64 lo, .int .i64 ((lo : Int) + wd)]) :: (b4, Blk 26 [.slice g.A1 g.s.spits.length g.c1, .slice g.A2 g.s.days.length g.c2, .slice g.A3 m g.c3]) :: L))
    (fun s => svOk s 3 (m + 1) (xs ++ [.int .i64 (d : Int), .int .i64 (lo : Int), .int .i64 ((lo : Int) + wd)])) ?_ ?_
  · intro K' hC
    repeat' (first | (refine GiP ?_; first | (refine Znh ?_) | (with_reducible refine Znl ?_) | (refine Zatd 64 ?_; refine Zbs fun b64 => ?_) | (refine Zatd 64 ?_; refine Zal 64 fun b64 => ?_) | (refine Zatd 67 ?_; refine OPS_append0 rfl rfl rfl (by intro s9; repeat (first | exact Grow.here | apply Grow.there | apply Grow.sv | apply Grow.app)) svOk0 (hsrc _) hAn hl3 ho3 (by simp only [maxLen]; omega) (by omega) (fun s67 hs67 => ?_)) | (refine Zatd 67 ?_; refine Zag (fun s67 hs67 => ?_)) | (refine Zatd 71 ?_; refine Zbs fun b71 => ?_) | (refine Zatd 71 ?_; refine Zal 71 fun b71 => ?_) | (refine Zatd 72 ?_; refine OPS_append0 rfl rfl rfl (by intro s9; repeat (first | exact Grow.here | apply Grow.there | apply Grow.sv | apply Grow.app)) svOk0 (hsrc _) hAn hl3 ho3 (by simp only [maxLen]; omega) (by omega) (fun s72 hs72 => ?_)) | (refine Zatd 72 ?_; refine Zag (fun s72 hs72 => ?_)) | (refine Zatd 73 ?_; refine Zv Zfa ?_) | (refine Zatn ?_; refine Zst ?_)) | (refine GiW ?_; first | (refine Zsq fun K hK => ?_) | (refine WP_cond_true rfl ?_) | (refine WP_cond_false rfl ?_) | (refine Zcd (fun hc => ?_) (fun hc => ?_) <;> (try (exfalso; omega))) | (with_reducible apply WP_skip) | (with_reducible apply WP_block) | (with_reducible apply WP_ret) | (refine WP_drawnS (id := 8) [1, 2, 4, 5, 6] [1, 2, 4, 5, 6] [] [65, 66, 68, 69, 70] (k := 3) (k2 := 3) (by repeat (first | apply Sub.sv | apply Sub.keep | apply Sub.appK | exact Sub.refl _)) (by kernel_rfl) prog_mixed (by kernel_rfl) (by kernel_rfl) rfl ?_; refine Zew rfl Zfa ?_; refine Zew rfl Zld ?_; refine Zew rfl Zmi ?_; refine Zew rfl Zla ?_; refine Zew rfl Zxbu ?_)) | (with_reducible apply EWalk_nil) | (refine GiC ?_; first | (refine ZgC [1, 2, 4, 5, 6] ?_; refine ZC2 _ 0 [1, 2, 4, 5, 6, 0] 7 [1, 2, 4, 5, 6, 7] ?_ ?_) | (refine ZgC [1, 2, 4, 5, 6, 0] ?_; refine ZC2 _ 3 [1, 2, 4, 5, 6, 0, 3] 7 [1, 2, 4, 5, 6, 0, 7] ?_ ?_) | (refine ZgC [1, 2, 4, 5, 6, 0, 3] ?_; refine ZC1 _ 7 [1, 2, 4, 5, 6, 0, 3, 7] ?_) | (refine ZgC [1, 2, 4, 5, 6, 0, 3, 7] ?_; refine ZCl _ ?_) | (refine ZgC [1, 2, 4, 5, 6, 0, 7] ?_; refine ZC1 _ 3 [1, 2, 4, 5, 6, 0, 3, 7] ?_) | (refine ZgC [1, 2, 4, 5, 6, 7] ?_; refine ZC1 _ 0 [1, 2, 4, 5, 6, 0, 7] ?_)) | (refine GiO ?_; first | (refine ZgO [1, 2, 4, 5, 6, 0, 3, 7] ?_; refine ZO1 _ 8 [1, 2, 4, 5, 6, 0, 3, 7, 8] ?_) | (refine ZgO [1, 2, 4, 5, 6, 0, 3, 7, 8] ?_; refine ZO1 _ 9 [1, 2, 4, 5, 6, 0, 3, 7, 8, 9] ?_) | (refine ZgO [1, 2, 4, 5, 6, 0, 3, 7, 8, 9] ?_; refine ZO1 _ 10 [1, 2, 4, 5, 6, 0, 3, 7, 8, 9, 10] ?_) | (refine ZgO [1, 2, 4, 5, 6, 0, 3, 7, 8, 9, 10] ?_; refine ZOd _ ?_; (try with_reducible apply noP_normal); (try with_reducible exact key.out))) | (refine Zhn ?_) | (with_reducible apply QBlock_normal) | (refine Zhr ?_) | (with_reducible apply QBlock_ret) | (refine AWalk_0 ?_) | (with_reducible apply QAny_normal) | (with_reducible apply QC_normal))
    all_goals exact hC.nor s72 _ _ .nil (by repeat (first | exact Off.frame rfl | exact Off.refl _ _ | refine Off.frameT rfl rfl ?_ | refine Off.upd rfl ?_ | refine Off.updO rfl ?_)) (by repeat (first | exact Sub.nil | exact Sub.refl _ | assumption | exact Sub.left | apply Sub.svK | apply Sub.sv | apply Sub.cons | apply Sub.app)) (by assumption)
  intro s72 j hs72
  obtain ⟨A9, c9, e9, hgx2⟩ := hgx s72 hs72
  rw [e9]
  have h14x := fun L h => h14x L A9 c9 (hgx2 L h)
  have h24x := fun L h => h24x L A9 c9 (hgx2 L h)
  have hd' : d < (addL g.s l).days.length := hd
  by_cases h0 : toldC g.s = []
  · have h0' := n0 h0
    obtain ⟨a1, a2⟩ := CutV_no hv hd h0
    obtain ⟨a3, a4⟩ := CutV_no v' hd' h0'
    obtain ⟨a5, a6⟩ := FitsV_no hv hd hx2 h0
    rw [a3, a4] at h14x
    rw [a1, a2, a5, a6]
    repeat' (first | (refine GiP ?_; first | (refine Znh ?_) | (with_reducible refine Znl ?_) | (refine Zatd 90 ?_; (first | (refine Zv Zxpt ?_) | (refine Zv Zxpf ?_)); refine Zv Zmb ?_) | (refine Zatd 95 ?_; (first | (refine Zv Zxpt ?_) | (refine Zv Zxpf ?_)); refine Zv Zmb ?_) | (refine Zatd 98 ?_; (first | (refine Zv Zxpt ?_) | (refine Zv Zxpf ?_)); refine Zv Zab ?_) | (refine Zatd 88 ?_; refine Zv Zmi ?_) | (refine Zatd 89 ?_; refine Zv Zyeql ?_) | (refine Zatd 92 ?_; refine Zv Zmi ?_) | (refine Zatd 93 ?_; refine Zv Zmi ?_) | (refine Zatd 94 ?_; refine Zv Zyeql ?_) | (refine Zatd 97 ?_; refine Zcl (Enters_fn rfl) (h13 _) ?_) | (refine Zsk ?_) | (refine Zsp (fun hc => ?_) (fun hc => ?_) <;> (try (exfalso; omega)))) | (refine GiW ?_; first | (refine Zsq fun K hK => ?_) | (refine ZrN 9 fun _ => ?_; refine Zv Zla ?_; refine Zv Zmi ?_; refine Zcl (Enters_fn rfl) (h14x _ (by repeat (first | exact Sub.nil | exact Sub.refl _ | assumption | exact Sub.left | apply Sub.svK | apply Sub.sv | apply Sub.cons | apply Sub.app))) ?_; refine Zv Zmv ?_; refine Zv Zxex ?_; refine Zv Zxex ?_; refine Zal 16 fun b16 => ?_; refine Zst ?_; refine Zv Zai ?_) | (refine ZrN 10 fun _ => ?_; refine Zv Zmi ?_; refine Zv Zmi ?_; refine Zv Zyneq ?_) | (refine ZrN 12 fun _ => ?_; refine Zv Zmi ?_; refine Zv Zyneq ?_) | (refine ZrG 13 ?_; refine Zv Zmi ?_; refine Zv Zyeql ?_; refine Zv Zmb ?_) | (refine WP_cond_true rfl ?_) | (refine WP_cond_false rfl ?_) | (refine Zcd (fun hc => ?_) (fun hc => ?_) <;> (try (exfalso; omega))) | (with_reducible apply WP_skip) | (with_reducible apply WP_block) | (with_reducible apply WP_ret)) | (refine Zhn ?_) | (with_reducible apply QBlock_normal) | (refine Zhr ?_) | (with_reducible apply QBlock_ret))
    all_goals exact QBody_ret1 rfl (rfl : _ = Value.bool _) ⟨rfl, (by repeat (first | exact Wk.refl _ | apply Wk.keep1 | apply Wk.drop | apply Wk.sv | apply Wk.svD | apply Wk.appD))⟩
  · obtain ⟨a1, a2⟩ := CutV_yes hv hd h0
    obtain ⟨a5, a6⟩ := FitsV_yes hv hd hx2 h0
    obtain ⟨a7, a8⟩ := DoneV_yes hv h0
    have hcb := cutV_bd hv h0 hd
    have hsb := sumT_bd hv g.s.spits.length
    have hdb := done_bd hv h0
    rw [a1, a2, a5, a6]
    rw [a7, a8] at h24
    obtain ⟨cv, hcv⟩ : ∃ cv, cutV g.s d = cv := ⟨_, rfl⟩
    obtain ⟨dv, hdv⟩ : ∃ dv, doneV g.s = dv := ⟨_, rfl⟩
    rw [hcv] at hcb ⊢
    rw [hdv] at h24 hdb
    rcases facts h0 with ⟨f1, f2, f3, f4, f5⟩ | ⟨f1, f2, f3⟩ | ⟨f1, f2, f3, f4, f5, f6⟩
    · rw [hcv] at f2 f4
      rw [hdv] at f5
      obtain ⟨b1, b2⟩ := CutV_yes v' hd' f3
      obtain ⟨b3, b4⟩ := DoneV_yes v' f3
      rw [b1, b2, f4] at h14x
      rw [b3, b4, f5] at h24x
      rw [f1]
      repeat' (first | (refine GiP ?_; first | (refine Znh ?_) | (with_reducible refine Znl ?_) | (refine Zatd 110 ?_; (first | (refine Zv Zxpt ?_) | (refine Zv Zxpf ?_)); refine Zv Zab ?_) | (refine Zatd 128 ?_; (first | (refine Zv Zxpt ?_) | (refine Zv Zxpf ?_)); refine Zv Zmb ?_) | (refine Zatd 133 ?_; (first | (refine Zv Zxpt ?_) | (refine Zv Zxpf ?_)); refine Zv Zmb ?_) | (refine Zatd 138 ?_; (first | (refine Zv Zxpt ?_) | (refine Zv Zxpf ?_)); refine Zv Zmb ?_) | (refine Zatd 143 ?_; (first | (refine Zv Zxpt ?_) | (refine Zv Zxpf ?_)); refine Zv Zmb ?_) | (refine Zatd 146 ?_; (first | (refine Zv Zxpt ?_) | (refine Zv Zxpf ?_)); refine Zv Zab ?_) | (refine Zatd 105 ?_; refine Zv Zfa ?_) | (refine Zatd 106 ?_; refine Zv Zld ?_) | (refine Zatd 107 ?_; refine Zv Zfa ?_) | (refine Zatd 108 ?_; refine Zv Zld ?_) | (refine Zatd 109 ?_; refine Zv Zyleq ?_) | (refine Zatd 126 ?_; refine Zv Zmi ?_) | (refine Zatd 127 ?_; refine Zv (Val_eqlS rfl rfl rfl rfl (by omega) (by omega)) ?_) | (refine Zatd 127 ?_; refine Zv (Zyeql) ?_) | (refine Zatd 130 ?_; refine Zv Zla ?_) | (refine Zatd 131 ?_; refine Zv Zla ?_) | (refine Zatd 132 ?_; refine Zv (Val_eqlS rfl rfl rfl rfl (by omega) (by omega)) ?_) | (refine Zatd 132 ?_; refine Zv (Zyeql) ?_) | (refine Zatd 135 ?_; refine Zv Zla ?_) | (refine Zatd 136 ?_; refine Zv Zla ?_) | (refine Zatd 137 ?_; refine Zv (Val_eqlS rfl rfl rfl rfl (by omega) (by omega)) ?_) | (refine Zatd 137 ?_; refine Zv (Zyeql) ?_) | (refine Zatd 140 ?_; refine Zv Zmi ?_) | (refine Zatd 141 ?_; refine Zv Zmi ?_) | (refine Zatd 142 ?_; refine Zv (Val_eqlS rfl rfl rfl rfl (by omega) (by omega)) ?_) | (refine Zatd 142 ?_; refine Zv (Zyeql) ?_) | (refine Zatd 145 ?_; refine Zcl (Enters_fn rfl) (h13 _) ?_) | (refine Zsk ?_) | (refine Zsp (fun hc => ?_) (fun hc => ?_) <;> (try (exfalso; omega)))) | (refine GiW ?_; first | (refine Zsq fun K hK => ?_) | (refine ZrN 9 fun _ => ?_; refine Zv Zla ?_; refine Zv Zmi ?_; refine Zcl (Enters_fn rfl) (h14x _ (by repeat (first | exact Sub.nil | exact Sub.refl _ | assumption | exact Sub.left | apply Sub.svK | apply Sub.sv | apply Sub.cons | apply Sub.app))) ?_; refine Zv Zmv ?_; refine Zv Zxex ?_; refine Zv Zxex ?_; refine Zal 16 fun b16 => ?_; refine Zst ?_; refine Zv Zai ?_) | (refine ZrN 10 fun _ => ?_; refine Zv Zmi ?_; refine Zv Zmi ?_; refine Zv Zyneq ?_) | (refine ZrN 12 fun _ => ?_; refine Zv Zmi ?_; refine Zv Zyneq ?_) | (refine ZrG 14 ?_; refine Zv Zf0 ?_; refine Zv Zld ?_; refine Zv Zf0 ?_; refine Zv Zld ?_; refine Zv Zyleq ?_; refine Zv Zmb ?_) | (refine ZrN 15 fun _ => ?_; refine Zv Zmi ?_) | (refine ZrN 16 fun _ => ?_; (first | (refine Zv (Val_eqlS rfl rfl rfl rfl (by omega) (by omega)) ?_) | (refine Zv (Zyeql) ?_)); refine Zv Zab ?_) | (refine ZrN 17 fun _ => ?_; refine Zv Zla ?_; (first | (refine Zcl (Enters_fn rfl) (h24 _) ?_) | (refine Zcl (Enters_fn rfl) (h24x _ (by repeat (first | exact Sub.nil | exact Sub.refl _ | assumption | exact Sub.left | apply Sub.svK | apply Sub.sv | apply Sub.cons | apply Sub.app))) ?_)); refine Zv Zmv ?_; refine Zv Zxex ?_; refine Zv Zxex ?_; refine Zal 19 fun b19 => ?_; refine Zst ?_; refine Zv Zai ?_) | (refine ZrN 18 fun _ => ?_; refine Zv Zla ?_; (first | (refine Zcl (Enters_fn rfl) (h24 _) ?_) | (refine Zcl (Enters_fn rfl) (h24x _ (by repeat (first | exact Sub.nil | exact Sub.refl _ | assumption | exact Sub.left | apply Sub.svK | apply Sub.sv | apply Sub.cons | apply Sub.app))) ?_)); refine Zv Zmv ?_; refine Zv Zxex ?_; refine Zv Zxex ?_; refine Zal 21 fun b21 => ?_; refine Zst ?_; refine Zv Zai ?_) | (refine ZrG 19 ?_; refine Zv Zmb ?_; refine Zv Zmb ?_) | (refine WP_cond_true rfl ?_) | (refine WP_cond_false rfl ?_) | (refine Zcd (fun hc => ?_) (fun hc => ?_) <;> (try (exfalso; omega))) | (with_reducible apply WP_skip) | (with_reducible apply WP_block) | (with_reducible apply WP_ret)) | (refine Zhn ?_) | (with_reducible apply QBlock_normal) | (refine Zhr ?_) | (with_reducible apply QBlock_ret))
      all_goals exact QBody_ret1 rfl (rfl : _ = Value.bool _) ⟨rfl, (by repeat (first | exact Wk.refl _ | apply Wk.keep1 | apply Wk.drop | apply Wk.sv | apply Wk.svD | apply Wk.appD))⟩
    · rw [hcv] at f2
      obtain ⟨b1, b2⟩ := CutV_no v' hd' f3
      rw [b1, b2] at h14x
      rw [f1]
      repeat' (first | (refine GiP ?_; first | (refine Znh ?_) | (with_reducible refine Znl ?_) | (refine Zatd 110 ?_; (first | (refine Zv Zxpt ?_) | (refine Zv Zxpf ?_)); refine Zv Zab ?_) | (refine Zatd 154 ?_; (first | (refine Zv Zxpt ?_) | (refine Zv Zxpf ?_)); refine Zv Zmb ?_) | (refine Zatd 157 ?_; (first | (refine Zv Zxpt ?_) | (refine Zv Zxpf ?_)); refine Zv Zab ?_) | (refine Zatd 105 ?_; refine Zv Zfa ?_) | (refine Zatd 106 ?_; refine Zv Zld ?_) | (refine Zatd 107 ?_; refine Zv Zfa ?_) | (refine Zatd 108 ?_; refine Zv Zld ?_) | (refine Zatd 109 ?_; refine Zv Zyleq ?_) | (refine Zatd 152 ?_; refine Zv Zmi ?_) | (refine Zatd 153 ?_; refine Zv Zyeql ?_) | (refine Zatd 156 ?_; refine Zcl (Enters_fn rfl) (h13 _) ?_) | (refine Zsk ?_) | (refine Zsp (fun hc => ?_) (fun hc => ?_) <;> (try (exfalso; omega)))) | (refine GiW ?_; first | (refine Zsq fun K hK => ?_) | (refine ZrN 9 fun _ => ?_; refine Zv Zla ?_; refine Zv Zmi ?_; refine Zcl (Enters_fn rfl) (h14x _ (by repeat (first | exact Sub.nil | exact Sub.refl _ | assumption | exact Sub.left | apply Sub.svK | apply Sub.sv | apply Sub.cons | apply Sub.app))) ?_; refine Zv Zmv ?_; refine Zv Zxex ?_; refine Zv Zxex ?_; refine Zal 16 fun b16 => ?_; refine Zst ?_; refine Zv Zai ?_) | (refine ZrN 10 fun _ => ?_; refine Zv Zmi ?_; refine Zv Zmi ?_; refine Zv Zyneq ?_) | (refine ZrN 12 fun _ => ?_; refine Zv Zmi ?_; refine Zv Zyneq ?_) | (refine ZrG 14 ?_; refine Zv Zf0 ?_; refine Zv Zld ?_; refine Zv Zf0 ?_; refine Zv Zld ?_; refine Zv Zyleq ?_; refine Zv Zmb ?_) | (refine ZrN 15 fun _ => ?_; refine Zv Zmi ?_) | (refine ZrN 16 fun _ => ?_; refine Zv Zyeql ?_; refine Zv Zab ?_) | (refine ZrN 20 fun _ => ?_; refine Zv Zyeql ?_; refine Zv Zab ?_) | (refine ZrG 21 ?_; refine Zv Zmb ?_; refine Zv Zxnot ?_; refine Zv Zmb ?_) | (refine WP_cond_true rfl ?_) | (refine WP_cond_false rfl ?_) | (refine Zcd (fun hc => ?_) (fun hc => ?_) <;> (try (exfalso; omega))) | (with_reducible apply WP_skip) | (with_reducible apply WP_block) | (with_reducible apply WP_ret)) | (refine Zhn ?_) | (with_reducible apply QBlock_normal) | (refine Zhr ?_) | (with_reducible apply QBlock_ret))
      all_goals exact QBody_ret1 rfl (rfl : _ = Value.bool _) ⟨rfl, (by repeat (first | exact Wk.refl _ | apply Wk.keep1 | apply Wk.drop | apply Wk.sv | apply Wk.svD | apply Wk.appD))⟩
    · rw [hcv] at f2 f4 f5
      obtain ⟨b1, b2⟩ := CutV_yes v' hd' f3
      rw [b1, b2] at h14x
      rw [f1]
      obtain ⟨cx, hcx⟩ : ∃ cx, cutV (addL g.s l) d = cx := ⟨_, rfl⟩
      rw [hcx] at h14x f4 f5 f6
      repeat' (first | (refine GiP ?_; first | (refine Znh ?_) | (with_reducible refine Znl ?_) | (refine Zatd 110 ?_; (first | (refine Zv Zxpt ?_) | (refine Zv Zxpf ?_)); refine Zv Zab ?_) | (refine Zatd 165 ?_; (first | (refine Zv Zxpt ?_) | (refine Zv Zxpf ?_)); refine Zv Zmb ?_) | (refine Zatd 175 ?_; (first | (refine Zv Zxpt ?_) | (refine Zv Zxpf ?_)); refine Zv Zmb ?_) | (refine Zatd 185 ?_; (first | (refine Zv Zxpt ?_) | (refine Zv Zxpf ?_)); refine Zv Zmb ?_) | (refine Zatd 192 ?_; (first | (refine Zv Zxpt ?_) | (refine Zv Zxpf ?_)); refine Zv Zmb ?_) | (refine Zatd 195 ?_; (first | (refine Zv Zxpt ?_) | (refine Zv Zxpf ?_)); refine Zv Zab ?_) | (refine Zatd 105 ?_; refine Zv Zfa ?_) | (refine Zatd 106 ?_; refine Zv Zld ?_) | (refine Zatd 107 ?_; refine Zv Zfa ?_) | (refine Zatd 108 ?_; refine Zv Zld ?_) | (refine Zatd 109 ?_; refine Zv Zyleq ?_) | (refine Zatd 163 ?_; refine Zv Zmi ?_) | (refine Zatd 164 ?_; refine Zv Zyeql ?_) | (refine Zatd 167 ?_; refine Zv Zf0 ?_) | (refine Zatd 168 ?_; refine Zv Zld ?_) | (refine Zatd 169 ?_; refine Zv Zf0 ?_) | (refine Zatd 170 ?_; refine Zv Zld ?_) | (refine Zatd 171 ?_; refine Zv Zf0 ?_) | (refine Zatd 172 ?_; refine Zv Zld ?_) | (refine Zatd 173 ?_; refine Zv Zxmax ?_) | (refine Zatd 174 ?_; refine Zv Zygeq ?_) | (refine Zatd 177 ?_; refine Zv Zfa ?_) | (refine Zatd 178 ?_; refine Zv Zld ?_) | (refine Zatd 179 ?_; refine Zv Zfa ?_) | (refine Zatd 180 ?_; refine Zv Zld ?_) | (refine Zatd 181 ?_; refine Zv Zfa ?_) | (refine Zatd 182 ?_; refine Zv Zld ?_) | (refine Zatd 183 ?_; refine Zv Zxmin ?_) | (refine Zatd 184 ?_; refine Zv Zyleq ?_) | (refine Zatd 187 ?_; refine Zv Zf0 ?_) | (refine Zatd 188 ?_; refine Zv Zld ?_) | (refine Zatd 189 ?_; refine Zv Zfa ?_) | (refine Zatd 190 ?_; refine Zv Zld ?_) | (refine Zatd 191 ?_; refine Zv Zyleq ?_) | (refine Zatd 194 ?_; refine Zcl (Enters_fn rfl) (h13 _) ?_) | (refine Zsk ?_) | (refine Zsp (fun hc => ?_) (fun hc => ?_) <;> (try (exfalso; omega)))) | (refine GiW ?_; first | (refine Zsq fun K hK => ?_) | (refine ZrN 9 fun _ => ?_; refine Zv Zla ?_; refine Zv Zmi ?_; refine Zcl (Enters_fn rfl) (h14x _ (by repeat (first | exact Sub.nil | exact Sub.refl _ | assumption | exact Sub.left | apply Sub.svK | apply Sub.sv | apply Sub.cons | apply Sub.app))) ?_; refine Zv Zmv ?_; refine Zv Zxex ?_; refine Zv Zxex ?_; refine Zal 16 fun b16 => ?_; refine Zst ?_; refine Zv Zai ?_) | (refine ZrN 10 fun _ => ?_; refine Zv Zmi ?_; refine Zv Zmi ?_; refine Zv Zyneq ?_) | (refine ZrN 12 fun _ => ?_; refine Zv Zmi ?_; refine Zv Zyneq ?_) | (refine ZrG 14 ?_; refine Zv Zf0 ?_; refine Zv Zld ?_; refine Zv Zf0 ?_; refine Zv Zld ?_; refine Zv Zyleq ?_; refine Zv Zmb ?_) | (refine ZrN 15 fun _ => ?_; refine Zv Zmi ?_) | (refine ZrN 16 fun _ => ?_; refine Zv Zyeql ?_; refine Zv Zab ?_) | (refine ZrN 20 fun _ => ?_; refine Zv Zyeql ?_; refine Zv Zab ?_) | (refine ZrN 22 fun _ => ?_; refine Zv Zyeql ?_; refine Zv Zab ?_) | (refine ZrG 23 ?_; refine Zv Zmb ?_; refine Zv Zxnot ?_; refine Zv Zmb ?_) | (refine WP_cond_true rfl ?_) | (refine WP_cond_false rfl ?_) | (refine Zcd (fun hc => ?_) (fun hc => ?_) <;> (try (exfalso; omega))) | (with_reducible apply WP_skip) | (with_reducible apply WP_block) | (with_reducible apply WP_ret)) | (refine Zhn ?_) | (with_reducible apply QBlock_normal) | (refine Zhr ?_) | (with_reducible apply QBlock_ret))
      all_goals exact QBody_ret1 rfl (rfl : _ = Value.bool _) ⟨rfl, (by repeat (first | exact Wk.refl _ | apply Wk.keep1 | apply Wk.drop | apply Wk.sv | apply Wk.svD | apply Wk.appD))⟩
theorem fits_all (L : Hp) (g : Fg) (hA : SodAt N w0 g) (a : Nat) (ha8 : a ≤ 255) (b : Nat) (hb8 : b ≤ 255) (c : Nat) (hc8 : c ≤ 255) : Ret Try.prog N w0 L 9 [sodV g, .int .u8 (a : Int), .int .u8 (b : Int), .int .u8 (c : Int)].toArray (.bool true) := by
  cases h1 : vB g.s with
  | false => exact fits_law0 N w0 L g hA a b c (.inl h1)
  | true =>
    by_cases h4 : 4 ≤ g.s.logs.length
    · exact fits_law0 N w0 L g hA a b c (.inr h4)
    · exact fits_law1 N w0 L g hA a b c ha8 hb8 hc8 h1 (by omega)
end
end Go.Proofs.Ytkaadefndcbdnaa
