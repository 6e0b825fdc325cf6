/- Package drain: whether there is a truth by a set; the levels of all truths. -/
import Derived.Test.YtbhgpnbfdjoglaaA6
section
namespace Go.Proofs.Ytbhgpnbfdjoglaa
open Go.RowKit
theorem pickL_full {α : Type} {x : Nat} : ∀ (ls : List α) (k : Nat), (∀ j, j < ls.length → x / 2 ^ (k + j) % 2 = 1) → pickL x ls k = ls
  | [], _, _ => rfl
  | a :: ls, k, h => by
    unfold pickL
    rw [if_pos (by simpa using h 0 (by simp)), pickL_full ls (k + 1) fun j hj => by rw [show k + 1 + j = k + (j + 1) by omega]; exact h (j + 1) (by simpa using hj)]
theorem ev_bit : ∀ m, m < 8 → ∀ j, j < m → (2 ^ m - 1) / 2 ^ j % 2 = 1 := by decide
theorem onlyD_all {d : Dr} (v : VD d) : onlyD d (2 ^ d.seen.length - 1) = d := by
  unfold onlyD
  rw [pickL_full d.seen 0 fun j hj => by rw [Nat.zero_add]; exact ev_bit _ (by have := v.ns; omega) j hj]
def rowL (lv : List Int) : List Value := ints (pad5 lv)
theorem rowL_len {lv : List Int} (h : lv.length ≤ 5) : (rowL lv).length = 5 := by simp [rowL, ints, pad5_len h]
theorem ints_ones (l : List Int) : ones (ints l) = true := by
  unfold ones ints
  rw [List.all_eq_true]
  intro x hx
  obtain ⟨i, _, rfl⟩ := List.mem_map.1 hx
  rfl
theorem told_len5 {d : Dr} (v : VD d) {set : Nat} : ∀ lv ∈ toldD (onlyD d set), lv.length ≤ 5 := fun lv h => by
  have h1 := rowsD_len (d := onlyD d set) (toldD_mem.1 h).1
  have h2 := v.nb
  rw [h1]; exact h2.2
theorem told_len {d : Dr} (v : VD d) : ∀ lv ∈ toldD d, lv.length ≤ 5 := fun lv h => by
  have h1 := rowsD_len (toldD_mem.1 h).1
  have h2 := v.nb
  omega
theorem VD_only {d : Dr} (v : VD d) (set : Nat) : VD (onlyD d set) :=
  ⟨v.nb, v.nw, v.nr, Nat.le_trans (pickL_len _ _ _) v.ns, v.bk, v.wy, v.rt, fun w hw => v.se w (pickL_sub _ _ _ w hw)⟩
theorem CSeen.of {g : Fg} {nd : Hp} {J : Nat → Hp → Prop} (h : ∀ k Fr, J k Fr → ∃ K A B, Fr = A ++ (Fk g K ++ B) ∧ Sub nd (A ++ B) ∧ ∀ K', J k (A ++ (Fk g K' ++ B))) : CSeen g nd J := h
attribute [local irreducible] AnyO AnyB QAny QB EWalk AWalk Ev WP OPS QThen QBlock QScope QLoop QBody Val New Turn Tri Enters PostA Blk Ro
attribute [local irreducible] AnyC QC
section
variable (N : Nat) (w0 : World)
theorem every_ret (L : Hp) (g : Fg) (hv : VD g.d) (hm : Mem g.b (Blk 85 (bogL g)) L) : Ret Try.prog N w0 L 90 [.pointer (some ⟨g.b, 0, none⟩)].toArray (.int .u64 ((2 ^ g.d.seen.length - 1 : Nat) : Int)) := by
  have hns := hv.ns
  unfold bogL at hm
  have hp : 2 ^ g.d.seen.length ≤ 2 ^ 4 := Nat.pow_le_pow_right (by omega) hns
  have hp1 := Nat.two_pow_pos g.d.seen.length
  have hsub : ∀ {L e d ty pos af gg x y' t t'} (hx : ev e x = .int .u64 ((2 ^ g.d.seen.length : Nat) : Int)) (hy : ev e y' = .int .u64 1), Val Try.prog N w0 L e ⟨d, .binOp .sub t x y' t', ty, pos, af, gg⟩ (.int .u64 ((2 ^ g.d.seen.length - 1 : Nat) : Int)) := by
    intro L e d ty pos af gg x y' t t' hx hy
    have e1 : ((2 ^ g.d.seen.length : Nat) : Int) - 1 = ((2 ^ g.d.seen.length - 1 : Nat) : Int) := by omega
    rw [← e1]
    refine Val_sub hx hy ?_
    rw [e1]
    exact wrap_nat rfl (by show _ < 2 ^ 64; omega)
  refine tri_of_WP Try.func90 rfl (n := _) rfl (by simp) ?_
  repeat' (first | (refine GiP ?_; first | (refine Znh ?_) | (with_reducible refine Znl ?_)) | (refine GiW ?_; first | (refine Zsq fun K hK => ?_) | (refine ZrN 0 fun _ => ?_; refine Zv Zai ?_) | (refine ZrN 1 fun _ => ?_; refine Zv Zmv ?_; (first | (refine Zv Zxnp ?_) | (refine Zv Zxnf ?_)); refine Zv Zf0 ?_; refine Zv Zfa ?_; refine Zv Zld ?_; refine Zv Zxlen ?_; refine Zv (Val_shl1 (i := g.d.seen.length) rfl rfl rfl (by show _ < 64; omega)) ?_; refine Zv (hsub rfl rfl) ?_; refine Zv Zai ?_) | (with_reducible apply WP_ret)) | (refine Zhn ?_) | (refine Zhr ?_))
  exact QBody_ret1 rfl (rfl : _ = Value.int _ _) ⟨rfl, rfl⟩
theorem isBank_ret (L : Hp) (g : Fg) (n : Int) (hl : g.d.banks.length ≤ 1000) (hm : Mem g.b (Blk 85 (bogL g)) L) : Ret Try.prog N w0 L 41 [.pointer (some ⟨g.b, 0, none⟩), .int .i64 n].toArray (.bool (inN g.d.banks.length n)) := by
  unfold bogL at hm
  refine tri_of_WP Try.func41 rfl (n := _) rfl (by simp) ?_
  repeat' (first | (refine GiP ?_; first | (refine Znh ?_) | (with_reducible refine Znl ?_)) | (refine GiW ?_; first | (refine Zsq fun K hK => ?_) | (refine ZrN 0 fun _ => ?_; refine Zv Zab ?_) | (refine ZrN 1 fun _ => ?_; refine Zv Zmi ?_; refine Zv Zmv ?_; (first | (refine Zv Zxnp ?_) | (refine Zv Zxnf ?_)); refine Zv Zf0 ?_; refine Zv Zf0 ?_; refine Zv Zld ?_; refine Zv Zxlen ?_; refine Zv Zxsub ?_; refine Zcl (Enters_fn rfl) (within_ret N w0 _ _ _ _) ?_; refine Zv Zab ?_) | (with_reducible apply WP_ret)) | (refine Zhn ?_) | (refine Zhr ?_))
  refine QBody_ret1 rfl (rfl : _ = Value.bool _) ⟨?_, rfl⟩
  congr 2
  rw [Bool.eq_iff_iff]
  simp only [within, inN, Bool.and_eq_true, decide_eq_true_eq]
  omega
theorem areTwo_ret (L : Hp) (g : Fg) (a b : Int) (hl : g.d.banks.length ≤ 1000) (hm : Mem g.b (Blk 85 (bogL g)) L) : Ret Try.prog N w0 L 56 [.pointer (some ⟨g.b, 0, none⟩), .int .i64 a, .int .i64 b].toArray (.bool (twoB g.d.banks.length a b)) := by
  have h1 := fun L hm => isBank_ret N w0 L g a hl hm
  have h2 := fun L hm => isBank_ret N w0 L g b hl hm
  unfold twoB
  obtain ⟨x, hx⟩ : ∃ x, inN g.d.banks.length a = x := ⟨_, rfl⟩
  obtain ⟨y, hy⟩ : ∃ y, inN g.d.banks.length b = y := ⟨_, rfl⟩
  rw [hx] at h1 ⊢
  rw [hy] at h2 ⊢
  refine tri_of_WP Try.func56 rfl (n := _) rfl (by simp) ?_
  repeat' (first | (refine GiP ?_; first | (refine Znh ?_) | (with_reducible refine Znl ?_) | (refine Zatd 14 ?_; (first | (refine Zv Zxpt ?_) | (refine Zv Zxpf ?_)); refine Zv Zmb ?_) | (refine Zatd 19 ?_; (first | (refine Zv Zxpt ?_) | (refine Zv Zxpf ?_)); refine Zv Zab ?_) | (refine Zatd 11 ?_; first | refine Zsk ?_ | (refine Zv Zmv ?_)) | (refine Zatd 12 ?_; first | refine Zsk ?_ | (refine Zv Zmi ?_)) | (refine Zatd 13 ?_; first | refine Zsk ?_ | (refine Zcl (Enters_fn rfl) (h1 _ hm) ?_) | (refine Zcl (Enters_fn rfl) (h2 _ hm) ?_)) | (refine Zatd 16 ?_; first | refine Zsk ?_ | (refine Zv Zmi ?_)) | (refine Zatd 17 ?_; first | refine Zsk ?_ | (refine Zv Zmi ?_)) | (refine Zatd 18 ?_; first | refine Zsk ?_ | (refine Zv Zxneq ?_)) | (refine Zsk ?_) | (refine Zsp (fun hc => ?_) (fun hc => ?_) <;> (try (exfalso; omega)))) | (refine GiW ?_; first | (refine Zsq fun K hK => ?_) | (refine ZrN 0 fun _ => ?_; refine Zv Zab ?_) | (refine ZrG 1 ?_; refine Zv Zmv ?_; refine Zv Zmi ?_; (first | (refine Zcl (Enters_fn rfl) (h1 _ hm) ?_) | (refine Zcl (Enters_fn rfl) (h2 _ hm) ?_)); refine Zv Zmb ?_) | (with_reducible apply WP_ret)) | (refine Zhn ?_) | (refine Zhr ?_))
  all_goals (refine QBody_ret1 rfl (rfl : _ = Value.bool _) ⟨?_, rfl⟩; congr 2; rw [Bool.eq_iff_iff]; simp [*])
theorem always_ret (L : Hp) (v : Value) : Ret Try.prog N w0 L 60 [v].toArray (.bool true) := by
  refine tri_of_WP Try.func60 rfl (n := 3) rfl (by simp) ?_
  repeat' (first | (refine GiP ?_; first | (refine Znh ?_) | (with_reducible refine Znl ?_)) | (refine GiW ?_; first | (refine Zsq fun K hK => ?_) | (refine ZrN 0 fun _ => ?_; refine Zv Zab ?_) | (refine ZrN 1 fun _ => ?_; refine Zv Zab ?_) | (with_reducible apply WP_ret)) | (refine Zhn ?_) | (refine Zhr ?_))
  exact QBody_ret1 rfl (rfl : _ = Value.bool _) ⟨rfl, rfl⟩
set_option maxHeartbeats 4000000 in
theorem can_tri (A X : Hp) (g : Fg) (hv : VD g.d) (hA : DrAt N w0 g) (Ks : List (Nat × Ly)) (set : Nat) (hset : set < 2 ^ 64) :
    Tri Try.prog N w0 (A ++ (Fk g Ks ++ X)) 76 [.pointer (some ⟨g.b, 0, none⟩), .int .u64 (set : Int)].toArray fun x L' => ∃ v, x = .returned v ∧ ∃ K', v = .bool (someB (onlyD g.d set)) ∧ L' = A ++ (Fk g K' ++ X) := by
  refine Tri.fgt ?_
  refine tri_of_WPL Try.func76 rfl (n := _) rfl (by simp) ?_
  repeat' (first | (refine GiP ?_; first | (refine Znh ?_) | (with_reducible refine Znl ?_)) | (refine GiW ?_; first | (refine Zsq fun K hK => ?_) | (refine ZrN 0 fun _ => ?_; refine Zal 4 fun b4 => ?_) | (refine ZrN 1 fun _ => ?_; refine Zv Zmv ?_; refine Zv Zmi ?_; refine OPS_retKS (Enters_fn rfl) (seen_tri N w0 _ g set) rfl rfl rfl (fun v7 L7 h7 => ?_); obtain ⟨pb, sb, rfl, rfl⟩ := h7) | (refine ZrN 2 fun _ => ?_; refine Zst ?_) | (refine ZrN 3 fun _ => ?_; refine Zst ?_) | (with_reducible apply WP_skip) | (with_reducible apply WP_block) | (with_reducible apply WP_ret)) | (refine Zhn ?_) | (with_reducible apply QBlock_normal) | (refine Zhr ?_) | (with_reducible apply QBlock_ret))
  have hcs : CSeen g (NdS pb sb set g) (fun k F => ∃ K', F = (sb, Blk 96 [.int .u64 (set : Int)]) :: (pb, Blk 72 [.pointer (some ⟨g.b, 0, none⟩)]) :: (b4, Blk 4 [.bool false]) :: (A ++ (Fk g K' ++ X)) ∧ k = 0) := by
    rintro k _ ⟨K', rfl, hk⟩
    refine ⟨K', (sb, Blk 96 [.int .u64 (set : Int)]) :: (pb, Blk 72 [.pointer (some ⟨g.b, 0, none⟩)]) :: (b4, Blk 4 [.bool false]) :: A, X, rfl, ⟨(b4, Blk 4 [.bool false]) :: (A ++ X), List.Perm.swap _ _ _⟩, fun K'' => ⟨K'', rfl, hk⟩⟩
  refine WP_rangeFuncC (cc := [.pointer (some ⟨pb, 0, none⟩), .pointer (some ⟨sb, 0, none⟩)]) (xs := argL (toldD (onlyD g.d set))) (C := CSeen g (NdS pb sb set g)) rfl (seen_iter N w0 g hv hA pb sb set hset)
    (fun k F => ∃ K', F = (sb, Blk 96 [.int .u64 (set : Int)]) :: (pb, Blk 72 [.pointer (some ⟨g.b, 0, none⟩)]) :: (b4, Blk 4 [.bool false]) :: (A ++ (Fk g K' ++ X)) ∧ k = 0)
    (fun x F => x = .ret ∧ ∃ K', F = (sb, Blk 96 [.int .u64 (set : Int)]) :: (pb, Blk 72 [.pointer (some ⟨g.b, 0, none⟩)]) :: (b4, Blk 4 [.bool true]) :: (A ++ (Fk g K' ++ X)) ∧ toldD (onlyD g.d set) ≠ [])
    ((sb, Blk 96 [.int .u64 (set : Int)]) :: (pb, Blk 72 [.pointer (some ⟨g.b, 0, none⟩)]) :: (b4, Blk 4 [.bool false]) :: (A ++ (Fk g Ks ++ X))) [] (by rw [List.append_nil]; exact Wk.refl _) ⟨Ks, rfl, rfl⟩ (fun x y => hcs.more x y) (by simp [argL]) rfl ?_ ?_ ?_
  · rintro l X0 k hk _ ⟨K', rfl, rfl⟩
    have hne : toldD (onlyD g.d set) ≠ [] := by
      intro h
      rw [h] at hk
      simp [argL] at hk
    have hx : (argL (toldD (onlyD g.d set)))[0] = [.agg (ints (pad5 ((toldD (onlyD g.d set))[0]'(by simpa [argL] using hk)))).toArray] := by simp [argL]
    rw [hx]
    repeat' (first | (refine GiP ?_; first | (refine Znh ?_) | (with_reducible refine Znl ?_)) | (refine GiW ?_; first | (refine Zsq fun K hK => ?_) | (refine ZrN 0 fun _ => ?_; refine Zal 4 fun b4 => ?_) | (refine ZrN 1 fun _ => ?_; refine Zv Zmv ?_; refine Zv Zmi ?_) | (refine ZrN 2 fun _ => ?_; refine Zst ?_) | (refine ZrN 3 fun _ => ?_; refine Zst ?_) | (with_reducible apply WP_skip) | (with_reducible apply WP_block) | (with_reducible apply WP_ret)) | (refine Zhn ?_) | (with_reducible apply QBlock_normal) | (refine Zhr ?_) | (with_reducible apply QBlock_ret))
    refine ⟨rfl, _, rfl, fun X1 => ?_⟩
    simp only [List.cons_append]
    repeat' (first | (refine GiP ?_; first | (refine Znh ?_) | (with_reducible refine Znl ?_)) | (refine GiW ?_; first | (refine Zsq fun K hK => ?_) | (refine ZrN 0 fun _ => ?_; refine Zal 4 fun b4 => ?_) | (refine ZrN 1 fun _ => ?_; refine Zv Zmv ?_; refine Zv Zmi ?_) | (refine ZrN 2 fun _ => ?_; refine Zst ?_) | (refine ZrN 3 fun _ => ?_; refine Zst ?_) | (with_reducible apply WP_skip) | (with_reducible apply WP_block) | (with_reducible apply WP_ret)) | (refine Zhn ?_) | (with_reducible apply QBlock_normal) | (refine Zhr ?_) | (with_reducible apply QBlock_ret))
    exact ⟨_, Wk.refl _, rfl, K', rfl, hne⟩
  · rintro D _ ⟨K', rfl, hk⟩
    rw [List.append_nil]
    have hnil : toldD (onlyD g.d set) = [] := by
      have : (toldD (onlyD g.d set)).length = 0 := by simpa [argL] using hk
      exact List.eq_nil_of_length_eq_zero this
    repeat' (first | (refine GiP ?_; first | (refine Znh ?_) | (with_reducible refine Znl ?_)) | (refine GiW ?_; first | (refine Zsq fun K hK => ?_) | (refine ZrN 0 fun _ => ?_; refine Zal 4 fun b4 => ?_) | (refine ZrN 1 fun _ => ?_; refine Zv Zmv ?_; refine Zv Zmi ?_) | (refine ZrN 2 fun _ => ?_; refine Zst ?_) | (refine ZrN 3 fun _ => ?_; refine Zst ?_) | (with_reducible apply WP_skip) | (with_reducible apply WP_block) | (with_reducible apply WP_ret)) | (refine Zhn ?_) | (with_reducible apply QBlock_normal) | (refine Zhr ?_) | (with_reducible apply QBlock_ret))
    refine QLeave_ret ?_; refine Lv_mark (by simp) .here ?_
    refine Lv_nil rfl (.cell1 rfl (by repeat (first | exact Mem.here | assumption | apply Mem.there | apply Mem.sv | apply Mem.app)) rfl .nil) rfl ⟨A ++ (Fk g K' ++ X), (by repeat (first | exact Wk.refl _ | apply Wk.keep1 | apply Wk.drop | apply Wk.sv | apply Wk.svD | apply Wk.appD)), _, rfl, K', ?_, rfl⟩
    rw [someB_no.2 hnil]; rfl
  · rintro D x _ ⟨rfl, K', rfl, hne⟩ _
    rw [List.append_nil]
    refine QBlock_ret ?_; refine HThen.ret (by assumption) ?_
    refine QLeave_ret ?_; refine Lv_mark (by simp) .here ?_
    refine Lv_nil rfl (.cell1 rfl (by repeat (first | exact Mem.here | assumption | apply Mem.there | apply Mem.sv | apply Mem.app)) rfl .nil) rfl ⟨A ++ (Fk g K' ++ X), (by repeat (first | exact Wk.refl _ | apply Wk.keep1 | apply Wk.drop | apply Wk.sv | apply Wk.svD | apply Wk.appD)), _, rfl, K', ?_, rfl⟩
    rw [someB_told.2 hne]; rfl
set_option maxHeartbeats 4000000 in
theorem append_tri (A X : Hp) (g : Fg) (hv : VD g.d) (hA : DrAt N w0 g) (Ks : List (Nat × Ly)) (pb sb set : Nat) (hset : set < 2 ^ 64) (hS : Sub (NdS pb sb set g) (A ++ X)) :
    Tri Try.prog N w0 (A ++ (Fk g Ks ++ X)) 99 [.slice none 0 0, .func (.func 100) #[] #[.pointer (some ⟨pb, 0, none⟩), .pointer (some ⟨sb, 0, none⟩)]].toArray fun x L' => ∃ v, x = .returned v ∧ ∃ K' s, v = svV s (toldD (onlyD g.d set)).length ∧ svOk s 5 (toldD (onlyD g.d set)).length ((toldD (onlyD g.d set)).map rowL).flatten ∧ L' = svH 93 5 (toldD (onlyD g.d set)).length ((toldD (onlyD g.d set)).map rowL).flatten s (A ++ (Fk g K' ++ X)) := by
  have hcnt := toldD_count (VD_only hv set)
  have hl5 := told_len5 hv (set := set)
  obtain ⟨tl, htl⟩ : ∃ tl, toldD (onlyD g.d set) = tl := ⟨_, rfl⟩
  have hsi := seen_iter N w0 g hv hA pb sb set hset
  rw [htl] at hcnt hl5 hsi ⊢
  refine Tri.fgt ?_
  refine tri_of_WPL Try.func99 rfl (n := _) rfl (by simp) ?_
  repeat' (first | (refine GiP ?_; first | (refine Znh ?_) | (with_reducible refine Znl ?_)) | (refine GiW ?_; first | (refine Zsq fun K hK => ?_) | (refine ZrN 0 fun _ => ?_; refine Zal 2 fun b2 => ?_; refine Zv Zav ?_) | (refine ZrN 1 fun _ => ?_; refine Zv Zmv ?_) | (refine ZrN 2 fun _ => ?_; refine Zal 5 fun b5 => ?_; refine Zst ?_) | (refine ZrN 3 fun _ => ?_; refine Zv Zld ?_; refine Zv Zla ?_; refine Zal 10 fun b10 => ?_; refine OPS_append rfl rfl rfl (by repeat (first | exact Wk.refl _ | apply Wk.keep1 | apply Wk.drop | apply Wk.sv | apply Wk.svD | apply Wk.appD)) (by assumption) (blk_cells (by repeat (first | exact Mem.here | assumption | apply Mem.there | apply Mem.sv | apply Mem.app))) rfl rfl (by simp only [maxLen]; omega) (by omega) rfl rfl (fun s11 hs11 => ?_); refine Zst ?_) | (refine ZrN 4 fun _ => ?_; refine Zv Zld ?_; refine Zv Zav ?_) | (with_reducible apply WP_block) | (with_reducible apply WP_ret)) | (refine Zhn ?_) | (with_reducible apply QBlock_normal) | (refine Zhr ?_) | (with_reducible apply QBlock_ret))
  have hcs : CSeen g (NdS pb sb set g) (fun k F => ∃ K' s, F = svH 93 5 (tl.take k).length ((tl.take k).map rowL).flatten s ((b2, Blk 89 [svV s (tl.take k).length]) :: (A ++ (Fk g K' ++ X))) ∧ svOk s 5 (tl.take k).length ((tl.take k).map rowL).flatten ∧ k ≤ tl.length) := by
    rintro k _ ⟨K', s, rfl, hs⟩
    refine ⟨K', svH 93 5 (tl.take k).length ((tl.take k).map rowL).flatten s ((b2, Blk 89 [svV s (tl.take k).length]) :: A), X, by rw [← svH_app]; rfl, ?_, fun K'' => ⟨K'', s, by rw [← svH_app]; rfl, hs⟩⟩
    rw [← svH_app]
    exact Sub.sv (Sub.cons hS)
  refine WP_rangeFuncC (cc := [.pointer (some ⟨pb, 0, none⟩), .pointer (some ⟨sb, 0, none⟩)]) (xs := argL tl) (C := CSeen g (NdS pb sb set g)) rfl hsi
    (fun k F => ∃ K' s, F = svH 93 5 (tl.take k).length ((tl.take k).map rowL).flatten s ((b2, Blk 89 [svV s (tl.take k).length]) :: (A ++ (Fk g K' ++ X))) ∧ svOk s 5 (tl.take k).length ((tl.take k).map rowL).flatten ∧ k ≤ tl.length)
    (fun _ _ => False)
    ((b2, Blk 89 [svV none 0]) :: (A ++ (Fk g Ks ++ X))) [] (by rw [List.append_nil]; exact Wk.refl _) ⟨Ks, none, rfl, svOk_nil 5, Nat.zero_le _⟩ (fun x y => hcs.more x y) (by simp [argL]) rfl ?_ ?_ ?_
  · rintro l X0 k hk _ ⟨K', s, rfl, hs, hkl⟩
    have hk' : k < tl.length := by simpa [argL] using hk
    have hx : (argL tl)[k] = [.agg (rowL tl[k]).toArray] := by simp [argL, rowL]
    rw [hx]
    have hlv := hl5 tl[k] (List.getElem_mem hk')
    have h5 := rowL_len hlv
    have h5o := ints_ones (pad5 tl[k])
    have hsnoc : tl.take (k + 1) = tl.take k ++ [tl[k]] := List.take_succ_eq_append_getElem hk'
    have hln : (tl.take (k + 1)).length = (tl.take k).length + 1 := by rw [hsnoc, List.length_append]; rfl
    have hfl : ((tl.take (k + 1)).map rowL).flatten = ((tl.take k).map rowL).flatten ++ [rowL tl[k]].flatten := by rw [hsnoc, List.map_append, List.flatten_append]; rfl
    have hlk : (tl.take k).length = k := by rw [List.length_take]; omega
    have h5p := pad5_len hlv
    have hrw : rowL tl[k] = ints (pad5 tl[k]) := rfl
    rw [hrw] at hfl ⊢
    obtain ⟨p, hp⟩ : ∃ p, pad5 tl[k] = p := ⟨_, rfl⟩
    rw [hp] at h5p hfl ⊢
    match p, h5p with
    | [a0, a1, a2, a3, a4], _ =>
    have hia : ints [a0, a1, a2, a3, a4] = [.int .i64 a0, .int .i64 a1, .int .i64 a2, .int .i64 a3, .int .i64 a4] := rfl
    rw [hia] at hfl ⊢
    repeat' (first | (refine GiP ?_; first | (refine Znh ?_) | (with_reducible refine Znl ?_)) | (refine GiW ?_; first | (refine Zsq fun K hK => ?_) | (refine ZrN 0 fun _ => ?_; refine Zal 2 fun b2 => ?_; refine Zv Zav ?_) | (refine ZrN 1 fun _ => ?_; refine Zv Zmv ?_) | (refine ZrN 2 fun _ => ?_; refine Zal 5 fun b5 => ?_; refine Zst ?_) | (refine ZrN 3 fun _ => ?_; refine Zv Zld ?_; refine Zv Zla ?_; refine Zal 10 fun b10 => ?_; refine OPS_append rfl rfl rfl (by repeat (first | exact Wk.refl _ | apply Wk.keep1 | apply Wk.drop | apply Wk.sv | apply Wk.svD | apply Wk.appD)) (by assumption) (blk_cells (by repeat (first | exact Mem.here | assumption | apply Mem.there | apply Mem.sv | apply Mem.app))) rfl rfl (by simp only [maxLen]; omega) (by omega) rfl rfl (fun s11 hs11 => ?_); refine Zst ?_) | (refine ZrN 4 fun _ => ?_; refine Zv Zld ?_; refine Zv Zav ?_) | (with_reducible apply WP_block) | (with_reducible apply WP_ret)) | (refine Zhn ?_) | (with_reducible apply QBlock_normal) | (refine Zhr ?_) | (with_reducible apply QBlock_ret))
    refine ⟨rfl, (b5, Blk 93 [.int .i64 a0, .int .i64 a1, .int .i64 a2, .int .i64 a3, .int .i64 a4]) :: svH 93 5 (tl.take k).length ((tl.take k).map rowL).flatten s ((b2, Blk 89 [svV s (tl.take k).length]) :: (A ++ (Fk g K' ++ X))), rfl, fun X1 => ?_⟩
    rw [List.cons_append, ← svH_app]
    simp only [List.cons_append]
    repeat' (first | (refine GiP ?_; first | (refine Znh ?_) | (with_reducible refine Znl ?_)) | (refine GiW ?_; first | (refine Zsq fun K hK => ?_) | (refine ZrN 0 fun _ => ?_; refine Zal 2 fun b2 => ?_; refine Zv Zav ?_) | (refine ZrN 1 fun _ => ?_; refine Zv Zmv ?_) | (refine ZrN 2 fun _ => ?_; refine Zal 5 fun b5 => ?_; refine Zst ?_) | (refine ZrN 3 fun _ => ?_; refine Zv Zld ?_; refine Zv Zla ?_; refine Zal 10 fun b10 => ?_; refine OPS_append rfl rfl rfl (by repeat (first | exact Wk.refl _ | apply Wk.keep1 | apply Wk.drop | apply Wk.sv | apply Wk.svD | apply Wk.appD)) (by assumption) (blk_cells (by repeat (first | exact Mem.here | assumption | apply Mem.there | apply Mem.sv | apply Mem.app))) rfl rfl (by simp only [maxLen]; omega) (by omega) rfl rfl (fun s11 hs11 => ?_); refine Zst ?_) | (refine ZrN 4 fun _ => ?_; refine Zv Zld ?_; refine Zv Zav ?_) | (with_reducible apply WP_block) | (with_reducible apply WP_ret)) | (refine Zhn ?_) | (with_reducible apply QBlock_normal) | (refine Zhr ?_) | (with_reducible apply QBlock_ret))
    refine ⟨svH 93 5 (tl.take (k + 1)).length ((tl.take (k + 1)).map rowL).flatten s11 ((b2, Blk 89 [svV s11 (tl.take (k + 1)).length]) :: (A ++ (Fk g K' ++ X))), ?_, K', s11, rfl, ?_, hk'⟩
    · rw [hfl, hln, ← svH_app]; exact (by repeat (first | exact Wk.refl _ | apply Wk.keep1 | apply Wk.drop | apply Wk.sv | apply Wk.svD | apply Wk.appD))
    · rw [hfl, hln]; exact hs11
  · rintro D _ ⟨K', s, rfl, hs, -⟩
    have hal : (argL tl).length = tl.length := by simp [argL]
    rw [hal, List.take_length] at hs
    rw [List.append_nil, hal, List.take_length]
    repeat' (first | (refine GiP ?_; first | (refine Znh ?_) | (with_reducible refine Znl ?_)) | (refine GiW ?_; first | (refine Zsq fun K hK => ?_) | (refine ZrN 0 fun _ => ?_; refine Zal 2 fun b2 => ?_; refine Zv Zav ?_) | (refine ZrN 1 fun _ => ?_; refine Zv Zmv ?_) | (refine ZrN 2 fun _ => ?_; refine Zal 5 fun b5 => ?_; refine Zst ?_) | (refine ZrN 3 fun _ => ?_; refine Zv Zld ?_; refine Zv Zla ?_; refine Zal 10 fun b10 => ?_; refine OPS_append rfl rfl rfl (by repeat (first | exact Wk.refl _ | apply Wk.keep1 | apply Wk.drop | apply Wk.sv | apply Wk.svD | apply Wk.appD)) (by assumption) (blk_cells (by repeat (first | exact Mem.here | assumption | apply Mem.there | apply Mem.sv | apply Mem.app))) rfl rfl (by simp only [maxLen]; omega) (by omega) rfl rfl (fun s11 hs11 => ?_); refine Zst ?_) | (refine ZrN 4 fun _ => ?_; refine Zv Zld ?_; refine Zv Zav ?_) | (with_reducible apply WP_block) | (with_reducible apply WP_ret)) | (refine Zhn ?_) | (with_reducible apply QBlock_normal) | (refine Zhr ?_) | (with_reducible apply QBlock_ret))
    refine QLeave_ret ?_; refine Lv_mark (by simp) .here ?_
    refine Lv_nil rfl (.tmp (rfl : _ = svV _ _) .nil) rfl ⟨svH 93 5 tl.length (tl.map rowL).flatten s (A ++ (Fk g K' ++ X)), ?_, _, rfl, K', s, rfl, hs, rfl⟩
    cases s <;> exact (by repeat (first | exact Wk.refl _ | apply Wk.keep1 | apply Wk.drop | apply Wk.sv | apply Wk.svD | apply Wk.appD))
  · rintro D x _ h
    exact h.elim
theorem collect_tri (A X : Hp) (g : Fg) (hv : VD g.d) (hA : DrAt N w0 g) (Ks : List (Nat × Ly)) (pb sb set : Nat) (hset : set < 2 ^ 64) (hS : Sub (NdS pb sb set g) (A ++ X)) :
    Tri Try.prog N w0 (A ++ (Fk g Ks ++ X)) 88 [.func (.func 100) #[] #[.pointer (some ⟨pb, 0, none⟩), .pointer (some ⟨sb, 0, none⟩)]].toArray fun x L' => ∃ v, x = .returned v ∧ ∃ K' s, v = svV s (toldD (onlyD g.d set)).length ∧ svOk s 5 (toldD (onlyD g.d set)).length ((toldD (onlyD g.d set)).map rowL).flatten ∧ L' = svH 93 5 (toldD (onlyD g.d set)).length ((toldD (onlyD g.d set)).map rowL).flatten s (A ++ (Fk g K' ++ X)) := by
  refine tri_of_WP Try.func88 rfl (n := _) rfl (by simp) ?_
  repeat' (first | (refine GiP ?_; first | (refine Znh ?_) | (with_reducible refine Znl ?_)) | (refine GiW ?_; first | (refine Zsq fun K hK => ?_) | (refine ZrN 0 fun _ => ?_; refine Zv Zav ?_) | (refine ZrN 1 fun _ => ?_; refine Zv Zmv ?_; refine OPS_retKS (Enters_fn rfl) (append_tri N w0 A X g hv hA Ks pb sb set hset hS) rfl rfl rfl (fun v4 L4 h4 => ?_); obtain ⟨K', s4, rfl, hs4, rfl⟩ := h4; refine Zv Zav ?_) | (with_reducible apply WP_ret)) | (refine Zhn ?_) | (refine Zhr ?_))
  exact QBody_ret1 rfl (rfl : _ = svV _ _) ⟨_, rfl, K', s4, rfl, hs4, rfl⟩
theorem mem_fk {b : Nat} {φ : Obj → Prop} {A X : Hp} {g : Fg} {K : List (Nat × Ly)} (h : Mem b φ (Fk g K)) : Mem b φ (A ++ (Fk g K ++ X)) := .app A (.of (List.mem_append_left _ h.mem))
/-- The levels of all truths, as they lie. -/
def KnR (A X : Hp) (g : Fg) (v : Value) (L' : Hp) : Prop := ∃ K' s, v = svV s (toldD g.d).length ∧ svOk s 5 (toldD g.d).length ((toldD g.d).map rowL).flatten ∧ L' = svH 93 5 (toldD g.d).length ((toldD g.d).map rowL).flatten s (A ++ (Fk g K' ++ X))
theorem known_tri (A X : Hp) (g : Fg) (hv : VD g.d) (hA : DrAt N w0 g) (Ks : List (Nat × Ly)) :
    Tri Try.prog N w0 (A ++ (Fk g Ks ++ X)) 61 [.pointer (some ⟨g.b, 0, none⟩)].toArray fun x L' => (someB g.d = true ∧ ∃ v, x = .returned v ∧ KnR A X g v L') ∨ (someB g.d = false ∧ x = .panicked (stopE 10) ∧ ∃ K', L' = A ++ (Fk g K' ++ X)) := by
  have hns := hv.ns
  have hp : 2 ^ g.d.seen.length ≤ 2 ^ 4 := Nat.pow_le_pow_right (by omega) hns
  have hp1 := Nat.two_pow_pos g.d.seen.length
  have hall := onlyD_all hv
  have hco := fun pb sb Ks => collect_tri N w0 ((sb, Blk 96 [.int .u64 ((2 ^ g.d.seen.length - 1 : Nat) : Int)]) :: (pb, Blk 72 [.pointer (some ⟨g.b, 0, none⟩)]) :: A) X g hv hA Ks pb sb (2 ^ g.d.seen.length - 1) (by omega) ⟨A ++ X, List.Perm.swap _ _ _⟩
  rw [hall] at hco
  have hcnt := toldD_count hv
  have hsm := someB_told (d := g.d)
  unfold KnR
  obtain ⟨tl, htl⟩ : ∃ tl, toldD g.d = tl := ⟨_, rfl⟩
  rw [htl] at hco hsm hcnt ⊢
  refine Tri.fgt ?_
  refine tri_of_WP Try.func61 rfl (n := _) rfl (by simp) ?_
  repeat' (first | (refine GiP ?_; first | (refine Znh ?_) | (with_reducible refine Znl ?_)) | (refine GiW ?_; first | (refine Zsq fun K hK => ?_) | (refine ZrN 0 fun _ => ?_; refine Zv Zav ?_) | (refine ZrN 1 fun _ => ?_; refine Zv Zmv ?_; refine Zv Zmv ?_; refine Zcl (Enters_fn rfl) (every_ret N w0 _ g hv (mem_fk fk_bog)) ?_; refine OPS_retKS (Enters_fn rfl) (seen_tri N w0 _ g _) rfl rfl rfl (fun v7 L7 h7 => ?_); obtain ⟨pb, sb, rfl, rfl⟩ := h7; refine OPS_retKS (Enters_fn rfl) (hco pb sb Ks) rfl rfl rfl (fun v8 L8 h8 => ?_); obtain ⟨K8, s8, rfl, hs8, rfl⟩ := h8; obtain ⟨A8, c8, e8, -⟩ := sv_slice (E := 93) hs8; rw [e8]; refine Zv Zav ?_) | (refine ZrN 2 fun _ => ?_; refine Zv Zmv ?_; refine Zv Zxlen ?_; refine Zv Zxgtr ?_; refine OPS_must (Enters_fn rfl) rfl rfl rfl (fun hc => ?_) (fun hc => ?_)) | (refine ZrN 3 fun _ => ?_; refine Zv Zmv ?_; refine Zv Zav ?_) | (with_reducible apply WP_ret)) | (refine Zhn ?_) | (refine Zhr ?_) | (refine Zhp ?_))
  · refine QBody_ret1 rfl (rfl : _ = Value.slice _ _ _) ⟨_, ?_, .inl ⟨hsm.2 ?_, _, rfl, K8, s8, e8.symm, hs8, rfl⟩⟩
    · cases s8
      · exact .drop (.drop (Wk.refl _))
      · exact .keep1 (.drop (.drop (Wk.refl _)))
    · intro h
      rw [h] at hc
      simp at hc
  · refine QBody_panic ⟨A ++ (Fk g K8 ++ X), ?_, .inr ⟨?_, rfl, K8, rfl⟩⟩
    · cases s8
      · exact .drop (.drop (Wk.refl _))
      · exact .drop (.drop (.drop (Wk.refl _)))
    · have : tl = [] := by
        apply List.eq_nil_of_length_eq_zero
        rw [decide_eq_false_iff_not] at hc
        omega
      rw [← htl] at this
      exact someB_no.2 this
end
end Go.Proofs.Ytbhgpnbfdjoglaa
end
