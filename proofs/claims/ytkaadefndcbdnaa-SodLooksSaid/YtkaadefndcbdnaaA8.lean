/- Package sod: the iterator of all costs; whether there is a truth. -/
import Derived.Test.YtkaadefndcbdnaaA7
import Derived.Test.YtkaadefndcbdnaaQc
namespace Go.Proofs.Ytkaadefndcbdnaa
open Go.RowKit
/-- What the iterator leans on: the box of the face's pointer, and the face. -/
def NdR (pb : Nat) (g : Fg) : Hp := [(pb, Blk 73 [.pointer (some ⟨g.b, 0, none⟩)]), (g.b, Blk 128 (faceL g))]
def argC (l : List (List Int)) : List (List Value) := l.map fun r => [.agg (ints r).toArray]
theorem seg_rows (s : Sd) : seg [] s.spits = argC (rowsC s) := by
  simp only [seg, rows3, argC, rowsC, List.map_map]
  apply List.map_congr_left
  intro r _
  simp [pad3]
theorem rowsC_three {s : Sd} (v : VS s) {c : List Int} (h : c ∈ rowsC s) : ∃ x y z : Int, c = [x, y, z] ∧ ∀ w ∈ [x, y, z], 0 ≤ w ∧ w ≤ 6 := by
  have hl := rowsC_len v h
  obtain ⟨r, h1, h2, h3⟩ := rowsC_iff.1 h
  have hb : ∀ w ∈ c, 0 ≤ w ∧ w ≤ 6 := by
    subst h3
    intro w hw
    unfold pad3 at hw
    rcases List.mem_append.1 hw with hw | hw
    · have key : ∀ (ps : List Spt) (r : List Int), (∀ p ∈ ps, 1 ≤ p.lo ∧ p.hi ≤ 6) → r.length = ps.length → CIn ps r → ∀ w ∈ r, 0 ≤ w ∧ w ≤ 6 := by
        intro ps
        induction ps with
        | nil => intro r _ hl _ w hw; simp at hl; subst hl; cases hw
        | cons p ps ih =>
          intro r hp hl hc w hw
          cases hc with | cons h t =>
          have := hp p (.head _)
          rcases List.mem_cons.1 hw with rfl | hw
          · omega
          · exact ih _ (fun q hq => hp q (.tail _ hq)) (by simpa using hl) t w hw
      exact key s.spits r (fun p hp => by have := v.sp p hp; omega) h1 h2 w hw
    · have := List.eq_of_mem_replicate hw
      omega
  match c, hl with
  | [x, y, z], _ => exact ⟨x, y, z, rfl, hb⟩
def someB (s : Sd) : Bool := (rowsC s).any (canS s)
theorem someB_told {s : Sd} : someB s = true ↔ toldC s ≠ [] := by
  unfold someB toldC
  rw [List.any_eq_true, ne_eq, List.filter_eq_nil_iff]
  constructor
  · rintro ⟨c, hc, h⟩ hno
    exact hno c hc h
  · intro h
    apply Classical.byContradiction
    intro hno
    exact h fun c hc hcan => hno ⟨c, hc, hcan⟩
attribute [local irreducible] AnyO AnyB QAny QB EWalk AWalk Ev WP OPS QThen QBlock QScope QLoop QBody Val New Turn Tri Enters PostA Blk Ro
section
variable (N : Nat) (w0 : World)
theorem costs_iter (g : Fg) (hv : VS g.s) (hA : SodAt N w0 g) (pb : Nat) : IterOK Try.prog N w0 108 [.pointer (some ⟨pb, 0, none⟩)] (seg [] g.s.spits) (NdR pb g) := by
  intro fy ya yb J Jx hY hnd Fr X h0
  refine Tri.fgt ?_
  refine tri_of_WP Try.func108 rfl (n := 8) rfl (by simp) ?_
  have hon := fun b2 b3 => on_tri N w0 g hv hA (.func fy ya yb) (seg [] g.s.spits) J Jx hY pb b2 b3 hnd g.s.spits.length [] [] [] Fr X rfl (by simp) h0
  unfold onF at hon
  repeat' (first | (refine GiP ?_; first | (refine Znh ?_) | (with_reducible refine Znl ?_)) | (refine GiW ?_; first | (refine Zsq fun K hK => ?_) | (refine ZrN 0 fun _ => ?_; refine Zal 2 fun b2 => ?_) | (refine ZrN 1 fun _ => ?_; refine Zal 3 fun b3 => ?_) | (refine ZrN 2 fun _ => ?_; refine Zv Val_makeFunc ?_; refine Zst ?_) | (refine ZrN 3 fun _ => ?_; refine Zv Zld ?_; refine Zv Zxbu ?_; refine OPS_retKS (Enters_val (cf := []) (cc := [.pointer (some ⟨pb, 0, none⟩), .pointer (some ⟨b2, 0, none⟩), .pointer (some ⟨b3, 0, none⟩)]) rfl rfl) (Tri.perm (hon b2 b3) (List.Perm.swap _ _ _)) rfl rfl rfl (fun v7 L7 h7 => ?_); obtain ⟨bv, F', rfl, rfl, hc7⟩ := h7)) | (refine Zhn ?_))
  refine QBody_end0 rfl ⟨F' ++ X, .drop (.drop (Wk.refl _)), ⟨_, rfl⟩, F', rfl, ?_⟩
  rcases hc7 with ⟨_, h⟩ | ⟨_, h⟩
  · exact .inl (by simpa using h)
  · exact .inr h
theorem costs_tri (L : Hp) (g : Fg) : Tri Try.prog N w0 L 97 [.pointer (some ⟨g.b, 0, none⟩)].toArray fun x L' => ∃ v, x = .returned v ∧ ∃ pb, v = .func (.func 108) #[] #[.pointer (some ⟨pb, 0, none⟩)] ∧ L' = (pb, Blk 73 [.pointer (some ⟨g.b, 0, none⟩)]) :: L := by
  refine tri_of_WP Try.func97 rfl (n := 4) rfl (by simp) ?_
  repeat' (first | (refine GiP ?_; first | (refine Znh ?_) | (with_reducible refine Znl ?_)) | (refine GiW ?_; first | (refine Zsq fun K hK => ?_) | (refine ZrN 0 fun _ => ?_; refine Zal 1 fun b1 => ?_; refine Zv Zav ?_) | (refine ZrN 1 fun _ => ?_; refine Zv Val_makeFunc ?_; refine Zv Zav ?_) | (with_reducible apply WP_ret)) | (refine Zhn ?_) | (refine Zhr ?_))
  exact QBody_ret1 rfl rfl ⟨_, rfl, _, rfl, rfl⟩
theorem log_sub (L : Hp) (g : Fg) (hS : Sub (Fk g) L) (hv : VS g.s) (hA : SodAt N w0 g) (a b c : Int) (hc : [a, b, c] ∈ rowsC g.s) :
    Ret Try.prog N w0 L 98 [.pointer (some ⟨g.b, 0, none⟩), .agg [.int .i64 a, .int .i64 b, .int .i64 c].toArray].toArray (.agg (logL g.s [a, b, c]).toArray) := by
  obtain ⟨x, y, z, h1, h2⟩ := rowsC_three hv hc
  simp only [List.cons.injEq, and_true] at h1
  obtain ⟨rfl, rfl, rfl⟩ := h1
  exact Ret.sub hS fun L0 => log_ret N w0 L0 g hv hA a b c (fun w hw => by have := h2 w hw; omega)
theorem logL_field {s : Sd} (v : VS s) (c : List Int) : Cut (logL s c) 12 1 [.bool (canS s c)] := by
  have hl := logL_len v c
  refine Cut.of rfl (by omega) fun j u hj => ?_
  cases j with
  | succ j => simp at hj
  | zero =>
    simp only [List.getElem?_cons_zero, Option.some.injEq] at hj
    subst hj
    unfold logL cellsD at hl ⊢
    rw [List.length_append] at hl
    have : (List.flatMap spL (pad6 (daysS s c))).length = 12 := by simpa using hl
    rw [List.getElem?_append_right (by omega), this]
    rfl
theorem can_ret (L : Hp) (g : Fg) (hS : Sub (Fk g) L) (hv : VS g.s) (hA : SodAt N w0 g) : Ret Try.prog N w0 L 83 [.pointer (some ⟨g.b, 0, none⟩)].toArray (.bool (someB g.s)) := by
  refine Ret.fgt ?_
  refine tri_of_WPL Try.func83 rfl (n := _) rfl (by simp) ?_
  repeat' (first | (refine GiP ?_; first | (refine Znh ?_) | (with_reducible refine Znl ?_) | (refine Zatd 10 ?_; refine Zv Zxfi ?_)) | (refine GiW ?_; first | (refine Zsq fun K hK => ?_) | (refine ZrN 0 fun _ => ?_; refine Zal 1 fun b1 => ?_; refine Zal 2 fun b2 => ?_) | (refine ZrN 1 fun _ => ?_; refine Zv Zld ?_; refine OPS_retKS (Enters_fn rfl) (costs_tri N w0 _ g) rfl rfl rfl (fun v5 L5 h5 => ?_); obtain ⟨pr, rfl, rfl⟩ := h5) | (refine ZrN 2 fun _ => ?_; refine Zal 3 fun b3 => ?_; refine Zst ?_) | (refine ZrN 3 fun _ => ?_; refine Zv Zld ?_; refine Zv Zla ?_) | (refine ZrN 4 fun _ => ?_; refine Zst ?_) | (refine ZrN 5 fun _ => ?_; refine Zst ?_) | (refine WP_cond_true rfl ?_) | (refine WP_cond_false rfl ?_) | (refine Zcd (fun hc => ?_) (fun hc => ?_) <;> (try (exfalso; omega))) | (with_reducible apply WP_skip) | (with_reducible apply WP_block) | (with_reducible apply WP_ret)) | (refine Zhn ?_) | (with_reducible apply QBlock_normal) | (refine Zhr ?_) | (with_reducible apply QBlock_ret))
  refine WP_rangeFunc (cc := [.pointer (some ⟨pr, 0, none⟩)]) (xs := argC (rowsC g.s)) (nd := NdR pr g) rfl (by rw [← seg_rows]; exact costs_iter N w0 g hv hA pr)
    (fun k F => F = (pr, Blk 73 [.pointer (some ⟨g.b, 0, none⟩)]) :: (b2, Blk 4 [.bool false]) :: (b1, Blk 73 [.pointer (some ⟨g.b, 0, none⟩)]) :: L ∧ ∀ r ∈ (rowsC g.s).take k, canS g.s r = false)
    (fun x F => x = .ret ∧ F = (pr, Blk 73 [.pointer (some ⟨g.b, 0, none⟩)]) :: (b2, Blk 4 [.bool true]) :: (b1, Blk 73 [.pointer (some ⟨g.b, 0, none⟩)]) :: L ∧ someB g.s = true)
    ((pr, Blk 73 [.pointer (some ⟨g.b, 0, none⟩)]) :: (b2, Blk 4 [.bool false]) :: (b1, Blk 73 [.pointer (some ⟨g.b, 0, none⟩)]) :: L) [] (by rw [List.append_nil]; exact Wk.refl _) ⟨rfl, by simp⟩ ?_ (by simp [argC]) rfl ?_ ?_ ?_
  · rintro k _ ⟨rfl, -⟩
    obtain ⟨L0, hp⟩ := hS
    exact ⟨(b2, Blk 4 [.bool false]) :: (b1, Blk 73 [.pointer (some ⟨g.b, 0, none⟩)]) :: (g.m, MapOf lks (keptF g.s)) :: L0, .cons _ (((hp.cons _).cons _).trans (List.perm_middle (l₁ := [_, _])))⟩
  · rintro l X0 k hk _ ⟨rfl, hno⟩
    have hk' : k < (rowsC g.s).length := by simpa [argC] using hk
    have hx : (argC (rowsC g.s))[k] = [.agg (ints (rowsC g.s)[k]).toArray] := by simp [argC]
    rw [hx]
    have hmem := List.getElem_mem hk'
    obtain ⟨x, y, z, hrow, -⟩ := rowsC_three hv hmem
    rw [hrow] at hmem ⊢
    repeat' (first | (refine GiP ?_; first | (refine Znh ?_) | (with_reducible refine Znl ?_) | (refine Zatd 10 ?_; refine Zv Zxfi ?_)) | (refine GiW ?_; first | (refine Zsq fun K hK => ?_) | (refine ZrN 0 fun _ => ?_; refine Zal 1 fun b1 => ?_; refine Zal 2 fun b2 => ?_) | (refine ZrN 1 fun _ => ?_; refine Zv Zld ?_) | (refine ZrN 2 fun _ => ?_; refine Zal 3 fun b3 => ?_; refine Zst ?_) | (refine ZrN 3 fun _ => ?_; refine Zv Zld ?_; refine Zv Zla ?_) | (refine ZrN 4 fun _ => ?_; refine Zst ?_) | (refine ZrN 5 fun _ => ?_; refine Zst ?_) | (refine WP_cond_true rfl ?_) | (refine WP_cond_false rfl ?_) | (refine Zcd (fun hc => ?_) (fun hc => ?_) <;> (try (exfalso; omega))) | (with_reducible apply WP_skip) | (with_reducible apply WP_block) | (with_reducible apply WP_ret)) | (refine Zhn ?_) | (with_reducible apply QBlock_normal) | (refine Zhr ?_) | (with_reducible apply QBlock_ret))
    refine ⟨rfl, (b3, Blk 86 (ints [x, y, z])) :: (pr, Blk 73 [.pointer (some ⟨g.b, 0, none⟩)]) :: (b2, Blk 4 [.bool false]) :: (b1, Blk 73 [.pointer (some ⟨g.b, 0, none⟩)]) :: L, rfl, fun X1 => ?_⟩
    have hfk : Sub (Fk g) (L ++ X1) := .appR X1 hS
    have hcf := logL_field hv [x, y, z]
    simp only [List.cons_append]
    repeat' (first | (refine GiP ?_; first | (refine Znh ?_) | (with_reducible refine Znl ?_)) | (refine GiW ?_; first | (refine Zsq fun K hK => ?_) | (refine ZrN 0 fun _ => ?_; refine Zal 1 fun b1 => ?_; refine Zal 2 fun b2 => ?_) | (refine ZrN 1 fun _ => ?_; refine Zv Zld ?_) | (refine ZrN 2 fun _ => ?_; refine Zal 3 fun b3 => ?_; refine Zst ?_) | (refine ZrN 3 fun _ => ?_; refine Zv Zld ?_; refine Zv Zla ?_; refine Zcl (Enters_fn rfl) (log_sub N w0 _ g (by repeat (first | exact Sub.refl _ | assumption | exact Sub.left | apply Sub.cons | apply Sub.sv | apply Sub.app)) hv hA x y z hmem) ?_; (first | (refine Zv (Val_field rfl hcf rfl (by decide) (by decide)) ?_) | (refine Zv Zxfi ?_))) | (refine ZrN 4 fun _ => ?_; refine Zst ?_) | (refine ZrN 5 fun _ => ?_; refine Zst ?_) | (refine WP_cond_true rfl ?_) | (refine WP_cond_false rfl ?_) | (refine Zcd (fun hc => ?_) (fun hc => ?_) <;> (try (exfalso; omega))) | (with_reducible apply WP_skip) | (with_reducible apply WP_block) | (with_reducible apply WP_ret)) | (refine Zhn ?_) | (with_reducible apply QBlock_normal) | (refine Zhr ?_) | (with_reducible apply QBlock_ret))
    · refine ⟨(pr, Blk 73 [.pointer (some ⟨g.b, 0, none⟩)]) :: (b2, Blk 4 [.bool true]) :: (b1, Blk 73 [.pointer (some ⟨g.b, 0, none⟩)]) :: L, .drop (Wk.refl _), rfl, rfl, ?_⟩
      exact List.any_eq_true.2 ⟨_, List.getElem_mem hk', by rw [hrow]; exact hc⟩
    · refine ⟨(pr, Blk 73 [.pointer (some ⟨g.b, 0, none⟩)]) :: (b2, Blk 4 [.bool false]) :: (b1, Blk 73 [.pointer (some ⟨g.b, 0, none⟩)]) :: L, .drop (Wk.refl _), rfl, ?_⟩
      rw [List.take_succ_eq_append_getElem hk']
      intro r hr
      rcases List.mem_append.1 hr with hr | hr
      · exact hno r hr
      · rw [List.mem_singleton.1 hr, hrow]; exact hc
  · rintro D _ ⟨rfl, hno⟩
    rw [List.append_nil]
    repeat' (first | (refine GiP ?_; first | (refine Znh ?_) | (with_reducible refine Znl ?_) | (refine Zatd 10 ?_; refine Zv Zxfi ?_)) | (refine GiW ?_; first | (refine Zsq fun K hK => ?_) | (refine ZrN 0 fun _ => ?_; refine Zal 1 fun b1 => ?_; refine Zal 2 fun b2 => ?_) | (refine ZrN 1 fun _ => ?_; refine Zv Zld ?_) | (refine ZrN 2 fun _ => ?_; refine Zal 3 fun b3 => ?_; refine Zst ?_) | (refine ZrN 3 fun _ => ?_; refine Zv Zld ?_; refine Zv Zla ?_) | (refine ZrN 4 fun _ => ?_; refine Zst ?_) | (refine ZrN 5 fun _ => ?_; refine Zst ?_) | (refine WP_cond_true rfl ?_) | (refine WP_cond_false rfl ?_) | (refine Zcd (fun hc => ?_) (fun hc => ?_) <;> (try (exfalso; omega))) | (with_reducible apply WP_skip) | (with_reducible apply WP_block) | (with_reducible apply WP_ret)) | (refine Zhn ?_) | (with_reducible apply QBlock_normal) | (refine Zhr ?_) | (with_reducible apply QBlock_ret))
    refine QLeave_ret ?_; refine Lv_mark (by simp) .here ?_; refine Lv_nil rfl (.cell1 rfl (by repeat (first | exact Mem.here | assumption | apply Mem.there | apply Mem.sv | apply Mem.app)) rfl .nil) rfl ⟨?_, (by repeat (first | exact Wk.refl _ | apply Wk.keep1 | apply Wk.drop | apply Wk.sv | apply Wk.svD | apply Wk.appD))⟩
    have : someB g.s = false := by
      unfold someB
      rw [List.any_eq_false]
      intro r hr
      have := hno r (by simpa [argC] using hr)
      simp [this]
    rw [this]; rfl
  · rintro D x _ ⟨rfl, rfl, hsm⟩ _
    rw [List.append_nil]
    refine QBlock_ret ?_; refine HThen.ret (by assumption) ?_
    refine QLeave_ret ?_; refine Lv_mark (by simp) .here ?_; refine Lv_nil rfl (.cell1 rfl (by repeat (first | exact Mem.here | assumption | apply Mem.there | apply Mem.sv | apply Mem.app)) rfl .nil) rfl ⟨?_, (by repeat (first | exact Wk.refl _ | apply Wk.keep1 | apply Wk.drop | apply Wk.sv | apply Wk.svD | apply Wk.appD))⟩
    rw [hsm]; rfl
theorem told_ret (L : Hp) (g : Fg) (hS : Sub (Fk g) L) (hv : VS g.s) (hA : SodAt N w0 g) (h0 : someB g.s = true) : Ret Try.prog N w0 L 48 [.pointer (some ⟨g.b, 0, none⟩)].toArray (.pointer (some ⟨g.b, 0, none⟩)) := by
  refine tri_of_WP Try.func48 rfl (n := 7) rfl (by simp) ?_
  have hcan := fun L h => can_ret N w0 L g h hv hA
  rw [h0] at hcan
  repeat' (first | (refine GiP ?_; first | (refine Znh ?_) | (with_reducible refine Znl ?_)) | (refine GiW ?_; first | (refine Zsq fun K hK => ?_) | (refine ZrN 0 fun _ => ?_; refine Zv Zav ?_) | (refine ZrN 1 fun _ => ?_; refine Zv Zmv ?_; refine Zcl (Enters_fn rfl) (hcan _ (by repeat (first | exact Sub.refl _ | assumption | exact Sub.left | apply Sub.cons | apply Sub.sv | apply Sub.app))) ?_; refine Zcl (Enters_fn rfl) (ask_ok N w0 _ _) ?_) | (refine ZrN 2 fun _ => ?_; refine Zv Zmv ?_; refine Zv Zav ?_) | (with_reducible apply WP_ret)) | (refine Zhn ?_) | (refine Zhr ?_))
  exact QBody_ret1 rfl (rfl : _ = Value.pointer _) ⟨rfl, rfl⟩
theorem told_no (L : Hp) (g : Fg) (hS : Sub (Fk g) L) (hv : VS g.s) (hA : SodAt N w0 g) (h0 : someB g.s = false) : Tri Try.prog N w0 L 48 [.pointer (some ⟨g.b, 0, none⟩)].toArray fun x L' => x = .panicked (refE 10) ∧ L' = L := by
  refine tri_of_WP Try.func48 rfl (n := 7) rfl (by simp) ?_
  have hcan := fun L h => can_ret N w0 L g h hv hA
  rw [h0] at hcan
  repeat' (first | (refine GiP ?_; first | (refine Znh ?_) | (with_reducible refine Znl ?_)) | (refine GiW ?_; first | (refine Zsq fun K hK => ?_) | (refine ZrN 0 fun _ => ?_; refine Zv Zav ?_) | (refine ZrN 1 fun _ => ?_; refine Zv Zmv ?_; refine Zcl (Enters_fn rfl) (hcan _ (by repeat (first | exact Sub.refl _ | assumption | exact Sub.left | apply Sub.cons | apply Sub.sv | apply Sub.app))) ?_; refine OPS_pan (Enters_fn rfl) (ask_no N w0 _ _) rfl rfl ?_) | (refine ZrN 2 fun _ => ?_; refine Zv Zmv ?_; refine Zv Zav ?_) | (with_reducible apply WP_ret)) | (refine Zhn ?_) | (refine Zhr ?_) | (refine Zhp ?_))
  all_goals exact QBody_panic ⟨rfl, rfl⟩
end
end Go.Proofs.Ytkaadefndcbdnaa
