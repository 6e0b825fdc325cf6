/- Package drain: its exported functions: Stop. -/
import Derived.Test.YtbhgpnbfdjoglaaB6
section
namespace Go.Proofs.Ytbhgpnbfdjoglaa
open Go.RowKit
theorem stopsStop : Stops 67 Try.f67 := ⟨Try.func67, ⟨_, _, _, _, _, rfl⟩, rfl, rfl⟩
/-- The first set of ways, by size, that keeps all rights where it is stopped. -/
def stopS (d : Dr) : Nat := ((setsL d.ways.length).find? (enoughB d)).getD 0
def StopN (d : Dr) : Nat := if errD d true = 0 then pc (stopS d) else 0
def StopV (d : Dr) : Nat := if errD d true = 0 then stopS d else 0
theorem find_lt {m : Nat} (hm : m < 8) (p : Nat → Bool) : ((setsL m).find? p).getD 0 < 128 := by
  have hp : 2 ^ m ≤ 2 ^ 7 := Nat.pow_le_pow_right (by omega) (by omega)
  cases h : (setsL m).find? p with
  | none => simp
  | some x =>
    have := (sets_lt hm).1 (List.mem_of_find?_eq_some h)
    simp only [Option.getD_some]; omega
theorem setsL_len {m : Nat} (hm : m < 8) : (setsL m).length = 2 ^ m := by
  have hp : 2 ^ m ≤ 2 ^ 7 := Nat.pow_le_pow_right (by omega) (by omega)
  have hl : Lt128 (2 ^ m) (List.range (2 ^ m)) := ⟨List.length_range, fun x hx => by rw [List.mem_range] at hx; omega⟩
  exact (stab_lt hl).1
theorem perm_b {α : Type} {x a b c : α} {A F : List α} : ((x :: a :: b :: (A ++ [c])) ++ F).Perm ([c, b] ++ (x :: a :: (A ++ F))) := by
  have e : ((x :: a :: b :: (A ++ [c])) ++ F) = x :: a :: b :: (A ++ c :: F) := by simp
  rw [e]
  have h1 : (x :: a :: b :: (A ++ c :: F)).Perm (x :: a :: b :: c :: (A ++ F)) := .cons _ (.cons _ (.cons _ List.perm_middle))
  have h2 : (x :: a :: b :: c :: (A ++ F)).Perm (b :: c :: x :: a :: (A ++ F)) := (List.perm_append_comm (l₁ := [x, a]) (l₂ := [b, c])).append_right (A ++ F)
  exact (h1.trans h2).trans (List.Perm.swap _ _ _)
theorem sub_b {x a b c : Nat × (Obj → Prop)} {A F : Hp} : Sub A ((x :: a :: b :: (A ++ [c])) ++ F) := by
  have e : ((x :: a :: b :: (A ++ [c])) ++ F) = x :: a :: b :: (A ++ c :: F) := by simp
  rw [e]
  exact .cons (.cons (.cons .left))
attribute [local irreducible] AnyO AnyB QAny QB EWalk AWalk Ev WP OPS QThen QBlock QScope QLoop QBody Val New Turn Tri Enters PostA Blk Ro
attribute [local irreducible] AnyC QC
section
variable (N : Nat) (w0 : World)
theorem Stop21_tri (A X : Hp) (g : Fg) (hv : VD g.d) (hA : DrAt N w0 g) (Ks : List (Nat × Ly)) (lv : List Int) (set : Nat) (hq : LyOk g.d (lv, set, 0, 0)) (bp bs : Nat) (hN : ∀ K', Sub [(bp, Blk 72 [.pointer (some ⟨g.b, 0, none⟩)]), (bs, Blk 96 [.int .u64 set])] (A ++ (Fk g K' ++ X))) (h5 : ∃ a0 a1 a2 a3 a4 : Int, pad5 lv = [a0, a1, a2, a3, a4]) :
    Tri Try.prog N w0 (A ++ (Fk g Ks ++ X)) 72 (.agg (rowL lv).toArray :: [.pointer (some ⟨bp, 0, none⟩), .pointer (some ⟨bs, 0, none⟩)]).toArray fun x L' => ∃ v, x = .returned v ∧ ∃ K', v = .bool (!keepS1 g.d (nxt (keepL set g.d.ways 0) lv)) ∧ L' = A ++ (Fk g K' ++ X) := by
  obtain ⟨a0, a1, a2, a3, a4, h5⟩ := h5
  have hrl : rowL lv = [.int .i64 a0, .int .i64 a1, .int .i64 a2, .int .i64 a3, .int .i64 a4] := by unfold rowL; rw [h5]; rfl
  have hkp := fun b4 => keeps_tri N w0 ((b4, Blk 93 [.int .i64 a0, .int .i64 a1, .int .i64 a2, .int .i64 a3, .int .i64 a4]) :: A) X g hv hA Ks (lv, set, 0, 0) hq
  have hwk : waysK g.d (lv, set, 0, 0) = keepL set g.d.ways 0 := by unfold waysK; simp
  rw [hwk] at hkp
  unfold keyL at hkp
  dsimp only at hkp
  rw [h5] at hkp
  unfold ints at hkp
  simp only [List.map_cons, List.map_nil, List.cons_append, List.nil_append] at hkp
  have m5 := (hN Ks).mem .here
  have m3 := (hN Ks).mem (.there .here)
  rw [hrl]
  obtain ⟨w, hw⟩ : ∃ w, keepS1 g.d (nxt (keepL set g.d.ways 0) lv) = w := ⟨_, rfl⟩
  rw [hw] at hkp ⊢
  refine Tri.fgt ?_
  refine tri_of_WP Try.func72 rfl (n := _) rfl (by simp) ?_
  repeat' (first | (refine GiP ?_; first | (refine Znh ?_) | (with_reducible refine Znl ?_)) | (refine GiW ?_; first | (refine Zsq fun K hK => ?_) | (refine ZrN 0 fun _ => ?_; refine Zal 3 fun b3 => ?_; refine Zv Zab ?_) | (refine ZrN 1 fun _ => ?_; refine Zv Zld ?_; refine Zv Zla ?_; refine Zv Zld ?_; refine Zv Zxbu ?_; refine OPS_retKS (Enters_fn rfl) (hkp b3) rfl rfl rfl (fun v12 L12 h12 => ?_); obtain ⟨K2, rfl, rfl⟩ := h12; refine Zv Zmv ?_; refine Zv Zxex ?_; refine Zv Zxex ?_; refine Zv Zab ?_; refine Zv Zab ?_) | (refine ZrN 2 fun _ => ?_; refine Zv Zmb ?_; refine Zv Zxnot ?_; refine Zv Zab ?_) | (with_reducible apply WP_ret)) | (refine Zhn ?_) | (refine Zhr ?_))
  exact QBody_ret1 rfl (rfl : _ = Value.bool _) ⟨A ++ (Fk g K2 ++ X), .drop (Wk.refl _), _, rfl, K2, rfl, rfl⟩
theorem enough_any (d : Dr) (set : Nat) : (!(toldD d).any fun lv => !keepS1 d (nxt (keepL set d.ways 0) lv)) = enoughB d set := by
  unfold enoughB
  rw [List.not_any_eq_all_not]
  simp
theorem Stop2_tri (A X : Hp) (g : Fg) (hv : VD g.d) (hA : DrAt N w0 g) (Ks : List (Nat × Ly)) (set : Nat) (hset : set < 2 ^ 64) (bv bp c : Nat) (Aa : Option Addr) (hN : ∀ K', Sub [(bp, Blk 72 [.pointer (some ⟨g.b, 0, none⟩)]), (bv, Blk 89 [.slice Aa (toldD g.d).length c])] (A ++ (Fk g K' ++ X))) (hrd : ∀ K', RdRows N w0 (A ++ (Fk g K' ++ X)) Aa 5 ((toldD g.d).map rowL)) :
    Tri Try.prog N w0 (A ++ (Fk g Ks ++ X)) 70 (.int .u64 set :: [.pointer (some ⟨bv, 0, none⟩), .pointer (some ⟨bp, 0, none⟩)]).toArray fun x L' => ∃ v, x = .returned v ∧ ∃ K', v = .bool (enoughB g.d set) ∧ L' = A ++ (Fk g K' ++ X) := by
  have hcnt := toldD_count hv
  have hr5 := fun lv h => told_row5 hv (lv := lv) h
  have hly : ∀ lv ∈ toldD g.d, LyOk g.d (lv, set, 0, 0) := fun lv h => by
    have h1 := LyOk0 hv (toldD_mem.1 h).1
    exact ⟨h1.len, h1.lv, hset, by dsimp only; omega⟩
  have hct := fun b3 => contains_tri N w0 (fun K' => (b3, Blk 96 [.int .u64 set]) :: (A ++ (Fk g K' ++ X))) Ks (toldD g.d) (by omega) hr5 Aa c (fun K' => (hrd K').sub (.cons (Sub.refl _))) 72 [.pointer (some ⟨bp, 0, none⟩), .pointer (some ⟨b3, 0, none⟩)] (fun lv => !keepS1 g.d (nxt (keepL set g.d.ways 0) lv))
    (fun lv h K' => Stop21_tri N w0 ((b3, Blk 96 [.int .u64 set]) :: A) X g hv hA K' lv set (hly lv h) bp b3 (fun K2 => by
      obtain ⟨M, hM⟩ := hN K2
      exact ⟨_ :: M, (List.Perm.cons _ hM).trans (List.Perm.swap _ _ _)⟩) (hr5 lv h))
  have m1 := (hN Ks).mem .here
  have m2 := (hN Ks).mem (.there .here)
  have he := enough_any g.d set
  obtain ⟨w, hw⟩ : ∃ w, ((toldD g.d).any fun lv => !keepS1 g.d (nxt (keepL set g.d.ways 0) lv)) = w := ⟨_, rfl⟩
  simp only [hw] at hct he
  refine Tri.fgt ?_
  refine tri_of_WP Try.func70 rfl (n := _) rfl (by simp) ?_
  repeat' (first | (refine GiP ?_; first | (refine Znh ?_) | (with_reducible refine Znl ?_)) | (refine GiW ?_; first | (refine Zsq fun K hK => ?_) | (refine ZrN 0 fun _ => ?_; refine Zal 3 fun b3 => ?_; refine Zv Zab ?_) | (refine ZrN 1 fun _ => ?_; refine Zv Zld ?_; refine Zv Val_makeFunc ?_; refine OPS_retKS (Enters_fn rfl) (hct b3) rfl rfl rfl (fun v12 L12 h12 => ?_); obtain ⟨K2, rfl, rfl⟩ := h12; refine Zv Zxnot ?_; refine Zv Zab ?_) | (with_reducible apply WP_ret)) | (refine Zhn ?_) | (refine Zhr ?_))
  exact QBody_ret1 rfl (rfl : _ = Value.bool _) ⟨A ++ (Fk g K2 ++ X), .drop (Wk.refl _), _, rfl, K2, by rw [← he], rfl⟩
/-- What is known, with one box ahead. -/
theorem known_v1 (x : Nat × (Obj → Prop)) (X : Hp) (g : Fg) (hv : VD g.d) (hA : DrAt N w0 g) (h0 : someB g.d = true) :
    Tri Try.prog N w0 (x :: (Fk g [] ++ X)) 61 [.pointer (some ⟨g.b, 0, none⟩)].toArray fun y L' => ∃ v, y = .returned v ∧ ∃ K' A2 Aa c, v = .slice Aa (toldD g.d).length c ∧ (∀ L', Sub A2 L' → RdRows N w0 L' Aa 5 ((toldD g.d).map rowL)) ∧ L' = A2 ++ (x :: (Fk g K' ++ X)) := known_ok N w0 [x] X g hv hA h0 []
set_option maxHeartbeats 4000000 in
theorem Stop_ret (L : Hp) (g : Fg) (hA : DrAt N w0 g) :
    Ret Try.prog N w0 L 18 [drV g].toArray (.tuple [.int .i64 ((StopN g.d : Nat) : Int), .int .i64 ((StopV g.d : Nat) : Int), .int .i64 (errD g.d true)].toArray) := by
  refine Ret.fgt ?_
  refine tri_of_WPL Try.func18 rfl (n := _) rfl (by simp) ?_
  have hop : ∀ (L : Hp), OpenR N w0 g true 60 [] L := fun L =>
    open_tri N w0 L g hA _ 60 _ [] ⟨L, List.Perm.refl _⟩ (fun b m L' h h2 => always_ret N w0 L' _)
  by_cases hvb : vB g.d = true
  · have hv := VD_of hvb
    have hop' := fun L => open_ok (hop L) hvb rfl
    have hA' : ∀ b m, DrAt N w0 { g with b := b, m := m } := fun b m => ⟨hA.banks, hA.ways, hA.rights, hA.seen⟩
    have hnw := hv.nw
    cases h0 : someB g.d with
    | false =>
      have he : errD g.d true = 10 := errD_10 hvb rfl h0
      have hz : StopN g.d = 0 := by unfold StopN; rw [he, if_neg (by omega)]
      have hz2 : StopV g.d = 0 := by unfold StopV; rw [he, if_neg (by omega)]
      have hbk := fun b m x X => known_no1 N w0 x X { g with b := b, m := m } hv (hA' b m) h0
      rw [he, hz, hz2]
      unfold drV drL at hop' ⊢
      repeat' (first | (refine GiP ?_; first | (refine Znh ?_) | (with_reducible refine Znl ?_) | (refine Zatd 6 ?_; refine Zal 6 fun b6 => ?_; refine Zst ?_) | (refine Zatd 19 ?_; refine Zv Val_makeFunc ?_; refine Zv Zxbu ?_) | (refine Zatd 14 ?_; refine Zv Zmv ?_; refine Zv Zxex ?_; refine Zv Zxex ?_; refine Zv Zai ?_; refine Zv Zab ?_) | (refine Zatd 26 ?_; refine Zv Zmi ?_; refine Zv Zxco ?_; refine Zv Zai ?_; refine Zv Zai ?_; refine Zst ?_)) | (refine GiW ?_; first | (refine Zsq fun K hK => ?_) | (refine ZrN 0 fun _ => ?_; refine Zal 1 fun b1 => ?_; refine Zv Zai ?_; refine Zv Zai ?_; refine Zal 4 fun b4 => ?_) | (refine ZrN 1 fun _ => ?_; refine Zv Val_makeFunc ?_; refine OPS_defer rfl ?_) | (refine ZrN 2 fun _ => ?_; refine Zv Zla ?_; refine OPS_retKS (Enters_fn rfl) (hop' _) rfl rfl rfl (fun v8 L8 h8 => ?_); obtain ⟨bb, mm, rfl, rfl⟩ := h8; refine Zal 5 fun b5 => ?_; refine Zst ?_) | (refine ZrN 3 fun _ => ?_; refine Zv Zld ?_; refine OPS_pan (Enters_fn rfl) (hbk bb mm _ _) rfl rfl ?_) | (refine ZrN 4 fun _ => ?_; refine Zv Zfa ?_; refine Zv Zld ?_; refine Zv Zxlen ?_) | (refine ZrN 5 fun _ => ?_; refine Zv Zmi ?_) | (with_reducible apply WP_ret)) | (refine Zhn ?_) | (refine Zhr ?_) | (refine Zhp ?_))
      all_goals ((try refine HThen.panic (by assumption) ?_); refine QLeave_panic ?_; refine Lv_stop1 N w0 stopsStop (by repeat (first | exact Up.here | apply Up.there | apply Up.sv)) ?_; refine Lv_nil rfl (.tmp (rfl : _ = Value.int _ _) (.tmp (rfl : _ = Value.int _ _) (.cell1 rfl (by repeat (first | exact Mem.here | assumption | apply Mem.there | apply Mem.sv | apply Mem.app)) rfl .nil))) rfl ?_; exact ⟨rfl, (by repeat (first | exact Wk.refl _ | apply Wk.keep1 | apply Wk.drop | apply Wk.sv | apply Wk.svD | apply Wk.appD))⟩)
    | true =>
      have he : errD g.d true = 0 := errD_1 hvb rfl h0
      have hz : StopN g.d = pc (stopS g.d) := by unfold StopN; rw [he, if_pos rfl]
      have hz2 : StopV g.d = stopS g.d := by unfold StopV; rw [he, if_pos rfl]
      have hbk := fun b m x X => known_v1 N w0 x X { g with b := b, m := m } hv (hA' b m) h0
      rw [he, hz, hz2]
      unfold drV drL at hop' ⊢
      repeat' (first | (refine GiP ?_; first | (refine Znh ?_) | (with_reducible refine Znl ?_)) | (refine GiW ?_; first | (refine Zsq fun K hK => ?_) | (refine ZrN 0 fun _ => ?_; refine Zal 1 fun b1 => ?_; refine Zv Zai ?_; refine Zv Zai ?_; refine Zal 4 fun b4 => ?_) | (refine ZrN 1 fun _ => ?_; refine Zv Val_makeFunc ?_; refine OPS_defer rfl ?_) | (refine ZrN 2 fun _ => ?_; refine Zv Zla ?_; refine OPS_retKS (Enters_fn rfl) (hop' _) rfl rfl rfl (fun v8 L8 h8 => ?_); obtain ⟨bb, mm, rfl, rfl⟩ := h8; refine Zal 5 fun b5 => ?_; refine Zst ?_) | (refine ZrN 3 fun _ => ?_; refine Zv Zld ?_; refine OPS_retKS (Enters_fn rfl) (hbk bb mm _ _) rfl rfl rfl (fun v15 L15 h15 => ?_); obtain ⟨K15, A2, Aa, c15, rfl, hrd, rfl⟩ := h15; refine Zal 6 fun b6 => ?_; refine Zst ?_) | (with_reducible apply WP_ret)) | (refine Zhn ?_) | (refine Zhr ?_))
      have hm8 : g.d.ways.length < 8 := by omega
      have hst := fun L => sets_tri N w0 L g.d.ways.length hm8
      have hlen := setsL_len hm8
      have hss : stopS g.d = ((setsL g.d.ways.length).find? (enoughB g.d)).getD 0 := rfl
      have hlt := find_lt hm8 (enoughB g.d)
      rw [← hss] at hlt
      have hp : 2 ^ g.d.ways.length ≤ 2 ^ 7 := Nat.pow_le_pow_right (by omega) (by omega)
      have hfs := fun X b18 tl18 c18 => first_tri N w0 (fun K' => (b18, Blk 96 (ut tl18 (setsL g.d.ways.length))) :: (b6, Blk 89 [.slice Aa (toldD g.d).length c15]) :: (A2 ++ ((b5, Blk 72 [.pointer (some ⟨bb, 0, none⟩)]) :: (Fk { g with b := bb, m := mm } K' ++ X)))) K15 (setsL g.d.ways.length) (by omega) b18 c18 tl18 (fun _ => .here) 70 [.pointer (some ⟨b6, 0, none⟩), .pointer (some ⟨b5, 0, none⟩)] (enoughB g.d)
        (fun s hs x K' => by
          have h1 := (sets_lt hm8).1 hs
          have := Stop2_tri N w0 (x :: (b18, Blk 96 (ut tl18 (setsL g.d.ways.length))) :: (b6, Blk 89 [.slice Aa (toldD g.d).length c15]) :: (A2 ++ [(b5, Blk 72 [.pointer (some ⟨bb, 0, none⟩)])])) X { g with b := bb, m := mm } hv (hA' bb mm) K' s (by omega) b6 b5 c15 Aa (fun K2 => ?_) (fun K2 => hrd _ ?_)
          · simpa only [List.cons_append, List.append_assoc, List.nil_append] using this
          · exact ⟨x :: (b18, Blk 96 (ut tl18 (setsL g.d.ways.length))) :: (A2 ++ (Fk { g with b := bb, m := mm } K2 ++ X)), perm_b⟩
          · exact sub_b)
      rw [hlen, ← hss] at hfs
      repeat' (first | (refine GiP ?_; first | (refine Znh ?_) | (with_reducible refine Znl ?_)) | (refine GiW ?_; first | (refine Zsq fun K hK => ?_) | (refine ZrN 4 fun _ => ?_; refine Zv Zfa ?_; refine Zv Zld ?_; refine Zv Zxlen ?_; refine OPS_retKS (Enters_fn rfl) (hst _) rfl rfl rfl (fun v18 L18 h18 => ?_); obtain ⟨b18, tl18, c18, rfl, rfl⟩ := h18; refine Zv Val_makeFunc ?_; refine Zv Zxbu ?_; refine OPS_retKS (Enters_fn rfl) (hfs _ b18 tl18 c18) rfl rfl rfl (fun v21 L21 h21 => ?_); obtain ⟨K21, rfl, rfl⟩ := h21; refine Zv Zmv ?_; refine Zv Zxex ?_; refine Zv Zxex ?_; refine Zv Zai ?_; refine Zv Zab ?_) | (with_reducible apply WP_ret)) | (refine Zhn ?_) | (refine Zhr ?_))
      refine WP_sub (B := (b4, Blk 22 [.int .i64 0]) :: (b1, Blk 29 [.slice g.A1 g.d.banks.length g.c1, .slice g.A2 g.d.ways.length g.c2, .slice g.A3 g.d.rights.length g.c3, .slice g.A4 g.d.seen.length g.c4]) :: L) (.cons (.cons (.app _ (.cons (.app _ (Sub.refl _)))))) ?_
      have hon := fun L => ones_ret N w0 L (stopS g.d) hlt
      repeat' (first | (refine GiP ?_; first | (refine Znh ?_) | (with_reducible refine Znl ?_)) | (refine GiW ?_; first | (refine Zsq fun K hK => ?_) | (refine ZrN 5 fun _ => ?_; refine Zv Zmi ?_; refine Zcl (Enters_fn rfl) (hon _) ?_; refine Zv Zmi ?_; (first | (refine Zv (Val_convert rfl (InK_i64 (by omega) (by omega))) ?_) | (refine Zv Zxco ?_)); refine Zv Zai ?_; refine Zv Zai ?_; refine Zst ?_) | (with_reducible apply WP_ret)) | (refine Zhn ?_) | (refine Zhr ?_))
      all_goals (refine QLeave_ret ?_; refine Lv_stop0 N w0 stopsStop ?_; refine Lv_nil rfl (.tmp (rfl : _ = Value.int _ _) (.tmp (rfl : _ = Value.int _ _) (.cell1 rfl (by repeat (first | exact Mem.here | assumption | apply Mem.there | apply Mem.sv | apply Mem.app)) rfl .nil))) rfl ?_; exact ⟨rfl, (by repeat (first | exact Wk.refl _ | apply Wk.keep1 | apply Wk.drop | apply Wk.sv | apply Wk.svD | apply Wk.appD))⟩)
  · have hno : vB g.d = false ∨ true = false := by cases h : vB g.d <;> simp_all
    have hz : StopN g.d = 0 := by unfold StopN; rw [if_neg (errD_no hno)]
    have hz2 : StopV g.d = 0 := by unfold StopV; rw [if_neg (errD_no hno)]
    have hop' := fun L => open_no (hop L) hno
    rw [hz, hz2]
    unfold drV drL at hop' ⊢
    repeat' (first | (refine GiP ?_; first | (refine Znh ?_) | (with_reducible refine Znl ?_) | (refine Zatd 5 ?_; refine Zal 5 fun b5 => ?_; refine Zst ?_) | (refine Zatd 6 ?_; refine Zal 6 fun b6 => ?_; refine Zst ?_) | (refine Zatd 19 ?_; refine Zv Val_makeFunc ?_; refine Zv Zxbu ?_) | (refine Zatd 14 ?_; refine Zv Zmv ?_; refine Zv Zxex ?_; refine Zv Zxex ?_; refine Zv Zai ?_; refine Zv Zab ?_) | (refine Zatd 26 ?_; refine Zv Zmi ?_; refine Zv Zxco ?_; refine Zv Zai ?_; refine Zv Zai ?_; refine Zst ?_)) | (refine GiW ?_; first | (refine Zsq fun K hK => ?_) | (refine ZrN 0 fun _ => ?_; refine Zal 1 fun b1 => ?_; refine Zv Zai ?_; refine Zv Zai ?_; refine Zal 4 fun b4 => ?_) | (refine ZrN 1 fun _ => ?_; refine Zv Val_makeFunc ?_; refine OPS_defer rfl ?_) | (refine ZrN 2 fun _ => ?_; refine Zv Zla ?_; refine OPS_pan (Enters_fn rfl) (hop' _) rfl rfl ?_) | (refine ZrN 3 fun _ => ?_; refine Zv Zld ?_) | (refine ZrN 4 fun _ => ?_; refine Zv Zfa ?_; refine Zv Zld ?_; refine Zv Zxlen ?_) | (refine ZrN 5 fun _ => ?_; refine Zv Zmi ?_) | (with_reducible apply WP_ret)) | (refine Zhn ?_) | (refine Zhr ?_) | (refine Zhp ?_))
    all_goals ((try refine HThen.panic (by assumption) ?_); refine QLeave_panic ?_; refine Lv_stop1 N w0 stopsStop (by repeat (first | exact Up.here | apply Up.there | apply Up.sv)) ?_; refine Lv_nil rfl (.tmp (rfl : _ = Value.int _ _) (.tmp (rfl : _ = Value.int _ _) (.cell1 rfl (by repeat (first | exact Mem.here | assumption | apply Mem.there | apply Mem.sv | apply Mem.app)) rfl .nil))) rfl ?_; exact ⟨rfl, (by repeat (first | exact Wk.refl _ | apply Wk.keep1 | apply Wk.drop | apply Wk.sv | apply Wk.svD | apply Wk.appD))⟩)
end
end Go.Proofs.Ytbhgpnbfdjoglaa
end
