/- Package drain: its exported functions: Clash. -/
import Derived.Test.YtbhgpnbfdjoglaaB7
section
namespace Go.Proofs.Ytbhgpnbfdjoglaa
open Go.RowKit
theorem stopsClash : Stops 74 Try.f74 := ⟨Try.func74, ⟨_, _, _, _, _, rfl⟩, rfl, rfl⟩
/-- The first set of what was seen, by size, that no levels allow. -/
def clashS (d : Dr) : Option Nat := (setsL d.seen.length).find? fun s => !someB (onlyD d s)
def ClashE (d : Dr) : Int := if vB d then if (clashS d).isSome then 0 else 4 else 1
def ClashV (d : Dr) : Nat := if ClashE d = 0 then (clashS d).getD 0 else 0
attribute [local irreducible] AnyO AnyB QAny QB EWalk AWalk Ev WP OPS QThen QBlock QScope QLoop QBody Val New Turn Tri Enters PostA Blk Ro
attribute [local irreducible] AnyC QC
section
variable (N : Nat) (w0 : World)
theorem Clash2_tri (A X : Hp) (g : Fg) (hv : VD g.d) (hA : DrAt N w0 g) (Ks : List (Nat × Ly)) (set : Nat) (hset : set < 2 ^ 64) (bp : Nat) (hN : ∀ K', Sub [(bp, Blk 72 [.pointer (some ⟨g.b, 0, none⟩)])] (A ++ (Fk g K' ++ X))) :
    Tri Try.prog N w0 (A ++ (Fk g Ks ++ X)) 75 (.int .u64 set :: [.pointer (some ⟨bp, 0, none⟩)]).toArray fun x L' => ∃ v, x = .returned v ∧ ∃ K', v = .bool (!someB (onlyD g.d set)) ∧ L' = A ++ (Fk g K' ++ X) := by
  have hcn := can_tri N w0 A X g hv hA Ks set hset
  have m1 := (hN Ks).mem .here
  obtain ⟨w, hw⟩ : ∃ w, someB (onlyD g.d set) = w := ⟨_, rfl⟩
  rw [hw] at hcn ⊢
  refine Tri.fgt ?_
  refine tri_of_WP Try.func75 rfl (n := _) rfl (by simp) ?_
  repeat' (first | (refine GiP ?_; first | (refine Znh ?_) | (with_reducible refine Znl ?_)) | (refine GiW ?_; first | (refine Zsq fun K hK => ?_) | (refine ZrN 0 fun _ => ?_; refine Zv Zab ?_) | (refine ZrN 1 fun _ => ?_; refine Zv Zld ?_; refine Zv Zmi ?_; refine OPS_retKS (Enters_fn rfl) hcn rfl rfl rfl (fun v12 L12 h12 => ?_); obtain ⟨K2, rfl, rfl⟩ := h12; refine Zv Zxnot ?_; refine Zv Zab ?_) | (with_reducible apply WP_ret)) | (refine Zhn ?_) | (refine Zhr ?_))
  exact QBody_ret1 rfl (rfl : _ = Value.bool _) ⟨A ++ (Fk g K2 ++ X), Wk.refl _, _, rfl, K2, rfl, rfl⟩
theorem perm_c {α : Type} {x a c : α} {F : List α} : (x :: a :: c :: F).Perm ([c] ++ (x :: a :: F)) := (List.perm_append_comm (l₁ := [x, a]) (l₂ := [c])).append_right F
set_option maxHeartbeats 4000000 in
theorem Clash_ret (L : Hp) (g : Fg) (hA : DrAt N w0 g) :
    Ret Try.prog N w0 L 19 [drV g].toArray (.tuple [.int .i64 ((ClashV g.d : Nat) : Int), .int .i64 (ClashE g.d)].toArray) := by
  refine Ret.fgt ?_
  refine tri_of_WPL Try.func19 rfl (n := _) rfl (by simp) ?_
  have hop : ∀ (L : Hp), OpenR N w0 g true 60 [] L := fun L =>
    open_tri N w0 L g hA _ 60 _ [] ⟨L, List.Perm.refl _⟩ (fun b m L' h h2 => always_ret N w0 L' _)
  by_cases hvb : vB g.d = true
  · have hv := VD_of hvb
    have hop' := fun L => open_ok (hop L) hvb rfl
    have hA' : ∀ b m, DrAt N w0 { g with b := b, m := m } := fun b m => ⟨hA.banks, hA.ways, hA.rights, hA.seen⟩
    have hns := hv.ns
    have hm8 : g.d.seen.length < 8 := by omega
    have hst := fun L => sets_tri N w0 L g.d.seen.length hm8
    have hlen := setsL_len hm8
    have hlt := find_lt hm8 (fun s => !someB (onlyD g.d s))
    have hss : clashS g.d = (setsL g.d.seen.length).find? fun s => !someB (onlyD g.d s) := rfl
    rw [← hss] at hlt
    have hp : 2 ^ g.d.seen.length ≤ 2 ^ 7 := Nat.pow_le_pow_right (by omega) (by omega)
    have hfs := fun b4 bb mm X b18 tl18 c18 => first_tri N w0 (fun K' => (b18, Blk 96 (ut tl18 (setsL g.d.seen.length))) :: (b4, Blk 72 [.pointer (some ⟨bb, 0, none⟩)]) :: (Fk { g with b := bb, m := mm } K' ++ X)) [] (setsL g.d.seen.length) (by omega) b18 c18 tl18 (fun _ => .here) 75 [.pointer (some ⟨b4, 0, none⟩)] (fun s => !someB (onlyD g.d s))
      (fun s hs x K' => Clash2_tri N w0 [x, (b18, Blk 96 (ut tl18 (setsL g.d.seen.length))), (b4, Blk 72 [.pointer (some ⟨bb, 0, none⟩)])] X { g with b := bb, m := mm } hv (hA' bb mm) K' s (by have h1 := (sets_lt hm8).1 hs; omega) b4 (fun K2 => ⟨_, perm_c⟩))
    rw [hlen, ← hss] at hfs
    have he : ClashE g.d = if (clashS g.d).isSome then 0 else 4 := by unfold ClashE; rw [if_pos hvb]
    have hz : ClashV g.d = if (clashS g.d).isSome then (clashS g.d).getD 0 else 0 := by
      unfold ClashV; rw [he]
      cases (clashS g.d).isSome <;> rfl
    rw [he, hz]
    obtain ⟨w, hw⟩ : ∃ w, (clashS g.d).isSome = w := ⟨_, rfl⟩
    rw [hw] at hfs ⊢
    unfold drV drL at hop' ⊢
    cases w with
    | false =>
      repeat' (first | (refine GiP ?_; first | (refine Znh ?_) | (with_reducible refine Znl ?_)) | (refine GiW ?_; first | (refine Zsq fun K hK => ?_) | (refine ZrN 0 fun _ => ?_; refine Zal 1 fun b1 => ?_; refine Zv Zai ?_; refine Zal 3 fun b3 => ?_) | (refine ZrN 1 fun _ => ?_; refine Zv Val_makeFunc ?_; refine OPS_defer rfl ?_) | (refine ZrN 2 fun _ => ?_; refine Zv Zla ?_; refine OPS_retKS (Enters_fn rfl) (hop' _) rfl rfl rfl (fun v8 L8 h8 => ?_); obtain ⟨bb, mm, rfl, rfl⟩ := h8; refine Zal 4 fun b4 => ?_; refine Zst ?_) | (refine ZrN 3 fun _ => ?_; refine Zv Zfa ?_; refine Zv Zld ?_; refine Zv Zxlen ?_; refine OPS_retKS (Enters_fn rfl) (hst _) rfl rfl rfl (fun v18 L18 h18 => ?_); obtain ⟨b18, tl18, c18, rfl, rfl⟩ := h18; refine Zv Val_makeFunc ?_; refine Zv Zxbu ?_; refine OPS_retKS (Enters_fn rfl) (hfs b4 bb mm _ b18 tl18 c18) rfl rfl rfl (fun v21 L21 h21 => ?_); obtain ⟨K21, rfl, rfl⟩ := h21; refine Zv Zmv ?_; refine Zv Zxex ?_; refine Zv Zxex ?_; refine Zv Zai ?_; refine Zv Zab ?_) | (refine ZrN 4 fun _ => ?_; refine Zv Zmb ?_; (refine OPS_must (Enters_fn rfl) rfl rfl rfl (fun hc => ?_) (fun hc => ?_) <;> (try (exfalso; simp at hc; done)))) | (with_reducible apply WP_ret)) | (refine Zhn ?_) | (refine Zhr ?_) | (refine Zhp ?_))
      all_goals ((try refine HThen.panic (by assumption) ?_); refine QLeave_panic ?_; refine Lv_stop1 N w0 stopsClash (.there (.there (Up.app _ (by repeat (first | exact Up.here | apply Up.there | apply Up.sv))))) ?_; refine Lv_nil rfl (.tmp (rfl : _ = Value.int _ _) (.cell1 rfl (by repeat (first | exact Mem.here | assumption | apply Mem.there | apply Mem.sv | apply Mem.app)) rfl .nil)) rfl ?_; exact ⟨rfl, (by repeat (first | exact Wk.refl _ | apply Wk.keep1 | apply Wk.drop | apply Wk.sv | apply Wk.svD | apply Wk.appD))⟩)
    | true =>
      repeat' (first | (refine GiP ?_; first | (refine Znh ?_) | (with_reducible refine Znl ?_)) | (refine GiW ?_; first | (refine Zsq fun K hK => ?_) | (refine ZrN 0 fun _ => ?_; refine Zal 1 fun b1 => ?_; refine Zv Zai ?_; refine Zal 3 fun b3 => ?_) | (refine ZrN 1 fun _ => ?_; refine Zv Val_makeFunc ?_; refine OPS_defer rfl ?_) | (refine ZrN 2 fun _ => ?_; refine Zv Zla ?_; refine OPS_retKS (Enters_fn rfl) (hop' _) rfl rfl rfl (fun v8 L8 h8 => ?_); obtain ⟨bb, mm, rfl, rfl⟩ := h8; refine Zal 4 fun b4 => ?_; refine Zst ?_) | (refine ZrN 3 fun _ => ?_; refine Zv Zfa ?_; refine Zv Zld ?_; refine Zv Zxlen ?_; refine OPS_retKS (Enters_fn rfl) (hst _) rfl rfl rfl (fun v18 L18 h18 => ?_); obtain ⟨b18, tl18, c18, rfl, rfl⟩ := h18; refine Zv Val_makeFunc ?_; refine Zv Zxbu ?_; refine OPS_retKS (Enters_fn rfl) (hfs b4 bb mm _ b18 tl18 c18) rfl rfl rfl (fun v21 L21 h21 => ?_); obtain ⟨K21, rfl, rfl⟩ := h21; refine Zv Zmv ?_; refine Zv Zxex ?_; refine Zv Zxex ?_; refine Zv Zai ?_; refine Zv Zab ?_) | (refine ZrN 4 fun _ => ?_; refine Zv Zmb ?_; (refine OPS_must (Enters_fn rfl) rfl rfl rfl (fun hc => ?_) (fun hc => ?_) <;> (try (exfalso; simp at hc; done)))) | (with_reducible apply WP_ret)) | (refine Zhn ?_) | (refine Zhr ?_) | (refine Zhp ?_))
      refine WP_sub (B := (b3, Blk 22 [.int .i64 0]) :: (b1, Blk 29 [.slice g.A1 g.d.banks.length g.c1, .slice g.A2 g.d.ways.length g.c2, .slice g.A3 g.d.rights.length g.c3, .slice g.A4 g.d.seen.length g.c4]) :: L) (.cons (.cons (.app _ (Sub.refl _)))) ?_
      repeat' (first | (refine GiP ?_; first | (refine Znh ?_) | (with_reducible refine Znl ?_)) | (refine GiW ?_; first | (refine Zsq fun K hK => ?_) | (refine ZrN 5 fun _ => ?_; refine Zv Zmi ?_; (first | (refine Zv (Val_convert rfl (InK_i64 (by omega) (by omega))) ?_) | (refine Zv Zxco ?_)); refine Zv Zai ?_; refine Zst ?_) | (with_reducible apply WP_ret)) | (refine Zhn ?_) | (refine Zhr ?_))
      all_goals (refine QLeave_ret ?_; refine Lv_stop0 N w0 stopsClash ?_; refine Lv_nil rfl (.tmp (rfl : _ = Value.int _ _) (.cell1 rfl (by repeat (first | exact Mem.here | assumption | apply Mem.there | apply Mem.sv | apply Mem.app)) rfl .nil)) rfl ?_; exact ⟨rfl, (by repeat (first | exact Wk.refl _ | apply Wk.keep1 | apply Wk.drop | apply Wk.sv | apply Wk.svD | apply Wk.appD))⟩)
  · have hno : vB g.d = false ∨ true = false := by cases h : vB g.d <;> simp_all
    have he : ClashE g.d = 1 := by unfold ClashE; rw [if_neg hvb]
    have he2 : errD g.d true = 1 := by unfold errD; rw [if_neg hvb]
    have hz : ClashV g.d = 0 := by unfold ClashV; rw [he, if_neg (by omega)]
    have hop' := fun L => open_no (hop L) hno
    rw [he2] at hop'
    rw [hz, he]
    unfold drV drL at hop' ⊢
    repeat' (first | (refine GiP ?_; first | (refine Znh ?_) | (with_reducible refine Znl ?_) | (refine Zatd 4 ?_; refine Zal 4 fun b4 => ?_; refine Zst ?_) | (refine Zatd 15 ?_; refine Zv Val_makeFunc ?_; refine Zv Zxbu ?_) | (refine Zatd 10 ?_; refine Zv Zmv ?_; refine Zv Zxex ?_; refine Zv Zxex ?_; refine Zv Zai ?_; refine Zv Zab ?_)) | (refine GiW ?_; first | (refine Zsq fun K hK => ?_) | (refine ZrN 0 fun _ => ?_; refine Zal 1 fun b1 => ?_; refine Zv Zai ?_; refine Zal 3 fun b3 => ?_) | (refine ZrN 1 fun _ => ?_; refine Zv Val_makeFunc ?_; refine OPS_defer rfl ?_) | (refine ZrN 2 fun _ => ?_; refine Zv Zla ?_; refine OPS_pan (Enters_fn rfl) (hop' _) rfl rfl ?_) | (refine ZrN 3 fun _ => ?_; refine Zv Zfa ?_; refine Zv Zld ?_; refine Zv Zxlen ?_) | (refine ZrN 4 fun _ => ?_; refine Zv Zmb ?_) | (refine ZrN 5 fun _ => ?_; refine Zv Zmi ?_; refine Zv Zxco ?_; refine Zv Zai ?_; refine Zst ?_) | (with_reducible apply WP_ret)) | (refine Zhn ?_) | (refine Zhr ?_) | (refine Zhp ?_))
    all_goals ((try refine HThen.panic (by assumption) ?_); refine QLeave_panic ?_; refine Lv_stop1 N w0 stopsClash (by repeat (first | exact Up.here | apply Up.there | apply Up.sv)) ?_; refine Lv_nil rfl (.tmp (rfl : _ = Value.int _ _) (.cell1 rfl (by repeat (first | exact Mem.here | assumption | apply Mem.there | apply Mem.sv | apply Mem.app)) rfl .nil)) rfl ?_; exact ⟨rfl, (by repeat (first | exact Wk.refl _ | apply Wk.keep1 | apply Wk.drop | apply Wk.sv | apply Wk.svD | apply Wk.appD))⟩)
end
end Go.Proofs.Ytbhgpnbfdjoglaa
end
