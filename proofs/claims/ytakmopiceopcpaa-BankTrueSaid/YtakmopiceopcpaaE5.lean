/- The bank laws' own function: a mark more, of a bank that was laid anew. -/
import Derived.Test.YtakmopiceopcpaaE1
section
namespace Go.Proofs.Ytakmopiceopcpaa
open Go.RowKit
theorem in_ms2 {N : Nat} {w0 : World} {g : Fg} {L : Hp} (hin : BankIn N w0 L g) (ls : List Sp) {s : Option (Nat × Nat)} {xs : List Value} (hx : xs = (ls.map spL).flatten) (hs : svOk s 2 ls.length xs) :
    ∃ A9 c9, svV s ls.length = .slice A9 ls.length c9 ∧ ∀ L', Sub L L' → Sub (svH 53 2 ls.length xs s []) L' → BankIn N w0 L' { g with d := { g.d with ms := ls }, A2 := A9, c2 := c9 } := by
  obtain ⟨A9, c9, e9, hsl⟩ := sl_sv (E := 53) (by omega) hs
  refine ⟨A9, c9, e9, fun L' hS1 hS w hI => ?_⟩
  obtain ⟨L0, hp⟩ := hS
  have hI2 := (hI.perm hp)
  rw [svH_nil] at hI2
  have hb := (hin.sub hS1) w hI
  exact ⟨hb.ls, hsl hI2 hx (map_len (f := spL) (fun _ => rfl) _)⟩
theorem sv_none {s : Option (Nat × Nat)} {sz k c : Nat} {xs : List Value} {A : Option Addr} (hs : svOk s sz k xs) (e : svV s k = .slice A k c) (h : A = none) : k = 0 := by
  cases s with
  | none => exact hs.2 rfl
  | some p =>
    obtain ⟨b, q⟩ := p
    simp only [svV, Value.slice.injEq] at e
    rw [h] at e
    exact absurd e.1 (by simp)
attribute [local irreducible] AnyO AnyB QAny QB EWalk AWalk Ev WP OPS QThen QBlock QScope QLoop QBody Val New Turn Tri Enters PostA Blk Ro
attribute [local irreducible] AnyC QC
section
variable (N : Nat) (w0 : World)
set_option maxHeartbeats 4000000 in
theorem with_in (L : Hp) (g : Fg) (hA : BankIn N w0 L g) (hAn : g.A2 = none → g.d.ms.length = 0) (hl : g.d.ms.length ≤ 40) (k : Sp) : Tri Try.prog N w0 L 38 [bkV g, .agg (spL k).toArray].toArray fun x L' => ∃ v, x = .returned v ∧ ∃ g' X, v = bkV g' ∧ g'.d = withB g.d k ∧ g'.A1 = g.A1 ∧ g'.c1 = g.c1 ∧ L' = X ++ L ∧ BankIn N w0 (X ++ L) g' := by
  obtain ⟨k1, k2⟩ := k
  refine Tri.fgt ?_
  refine tri_of_WP Try.func38 rfl (n := _) rfl (by simp) ?_
  obtain ⟨q, hq⟩ : ∃ n, g.d.ms.length = n := ⟨_, rfl⟩
  obtain ⟨xl, hxl⟩ : ∃ xs, (g.d.ms.map spL).flatten = xs := ⟨_, rfl⟩
  have hsrcS : ∀ L', Wk L' L → ∀ w, Inv N w0 L' w → ∀ j u, xl[j]? = some u → ∃ b o, g.A2 = some ⟨b, o, none⟩ ∧ w.cell? ⟨b, o + j, none⟩ = some u := fun L' k w hI => by rw [← hxl]; exact (RdRows.ofSl (L := []) (hA w (hI.wk k)).ms).flat (by omega) (map_len (f := spL) (fun _ => rfl) _) hI.at_
  have hl4 : xl.length = q * (1 + 1) := by rw [← hxl, ← hq]; exact map_flat (f := spL) (fun _ => rfl) _
  have ho4 : ones xl = true := by rw [← hxl]; exact ones_flat (map_ones (f := spL) (fun _ => rfl) _)
  have hx1 : (g.d.ms ++ [(k1, k2)]).length = q + 1 := by rw [List.length_append, hq]; rfl
  unfold bkV bkL spL
  rw [hq] at hl hAn ⊢
  dsimp only
  repeat' (first | (refine GiP ?_; first | (refine Znh ?_) | (with_reducible refine Znl ?_) | (refine Zatd 5 ?_; refine Zbs fun b5 => ?_) | (refine Zatd 5 ?_; refine Zal 5 fun b5 => ?_) | (refine Zatd 8 ?_; refine OPS_append0 rfl rfl rfl (by intro s9; repeat (first | exact Grow.here | apply Grow.there | apply Grow.sv | apply Grow.app)) svOk0 (hsrcS _ (by repeat (first | exact Wk.refl _ | apply Wk.keep1 | apply Wk.drop | apply Wk.sv | apply Wk.svD | apply Wk.appD))) hAn hl4 ho4 (by simp only [maxLen]; omega) (by omega) (fun s8 hs8 => ?_)) | (refine Zatd 8 ?_; refine Zag (fun s8 hs8 => ?_)) | (refine Zatd 10 ?_; refine Zbs fun b10 => ?_) | (refine Zatd 10 ?_; refine Zal 10 fun b10 => ?_) | (refine Zatd 11 ?_; refine OPS_append0 rfl rfl rfl (by intro s9; repeat (first | exact Grow.here | apply Grow.there | apply Grow.sv | apply Grow.app)) svOk0 (hsrcS _ (by repeat (first | exact Wk.refl _ | apply Wk.keep1 | apply Wk.drop | apply Wk.sv | apply Wk.svD | apply Wk.appD))) hAn hl4 ho4 (by simp only [maxLen]; omega) (by omega) (fun s11 hs11 => ?_)) | (refine Zatd 11 ?_; refine Zag (fun s11 hs11 => ?_)) | (refine Zatd 12 ?_; refine Zv Zfa ?_) | (refine Zatn ?_; refine Zst ?_)) | (refine GiW ?_; first | (refine Zsq fun K hK => ?_) | (refine ZrN 0 fun _ => ?_; refine Zal 2 fun b2 => ?_; refine Zal 3 fun b3 => ?_; refine Zal 4 fun b4 => ?_) | (refine ZrN 2 fun _ => ?_; refine Zv Zla ?_; refine Zst ?_) | (with_reducible apply WP_ret) | (refine WP_drawnS (id := 1) [1, 2, 4] [1, 2, 4] [] [6, 7, 9] (k := 3) (k2 := 3) (by repeat (first | apply Sub.sv | apply Sub.keep | apply Sub.appK | exact Sub.refl _)) (by kernel_rfl) prog_mixed (by kernel_rfl) (by kernel_rfl) rfl ?_; refine Zew rfl Zfa ?_; refine Zew rfl Zld ?_; refine Zew rfl Zla ?_)) | (with_reducible apply EWalk_nil) | (refine GiC ?_; first | (refine ZgC [1, 2, 4] ?_; refine ZC2 _ 0 [1, 2, 4, 0] 5 [1, 2, 4, 5] ?_ ?_) | (refine ZgC [1, 2, 4, 0] ?_; refine ZC2 _ 3 [1, 2, 4, 0, 3] 5 [1, 2, 4, 0, 5] ?_ ?_) | (refine ZgC [1, 2, 4, 0, 3] ?_; refine ZC1 _ 5 [1, 2, 4, 0, 3, 5] ?_) | (refine ZgC [1, 2, 4, 0, 3, 5] ?_; refine ZCl _ ?_) | (refine ZgC [1, 2, 4, 0, 5] ?_; refine ZC1 _ 3 [1, 2, 4, 0, 3, 5] ?_) | (refine ZgC [1, 2, 4, 5] ?_; refine ZC1 _ 0 [1, 2, 4, 0, 5] ?_)) | (refine GiO ?_; first | (refine ZgO [1, 2, 4, 0, 3, 5] ?_; refine ZO1 _ 6 [1, 2, 4, 0, 3, 5, 6] ?_) | (refine ZgO [1, 2, 4, 0, 3, 5, 6] ?_; refine ZO1 _ 7 [1, 2, 4, 0, 3, 5, 6, 7] ?_) | (refine ZgO [1, 2, 4, 0, 3, 5, 6, 7] ?_; refine ZO1 _ 8 [1, 2, 4, 0, 3, 5, 6, 7, 8] ?_) | (refine ZgO [1, 2, 4, 0, 3, 5, 6, 7, 8] ?_; refine ZOd _ ?_; (try with_reducible apply noP_normal); (try with_reducible exact key.out))) | (refine Zhn ?_) | (refine Zhr ?_) | (refine AWalk_0 ?_) | (with_reducible apply QAny_normal) | (with_reducible apply QC_normal))
  all_goals
    obtain ⟨Ax, cx, ex, hinx⟩ := in_ms2 hA (g.d.ms ++ [(k1, k2)]) (xs := xl ++ [.int .i64 k1, .int .i64 k2]) (s := s11) (by rw [List.map_append, List.flatten_append, hxl]; simp [spL]) (by rw [hx1]; exact hs11)
    rw [hx1] at ex
    rw [ex]
    refine QBody_res rfl (.cellN rfl (by repeat (first | exact Mem.here | assumption | apply Mem.there | apply Mem.sv | apply Mem.app)) (.here (.cons (.cons (.cons (.cons .nil))))) .nil) rfl ?_
    refine ⟨svH 53 2 (q + 1) (xl ++ [.int .i64 k1, .int .i64 k2]) s11 L, (by repeat (first | exact Wk.refl _ | apply Wk.keep1 | apply Wk.drop | apply Wk.sv | apply Wk.svD | apply Wk.appD)), _, rfl, ⟨withB g.d (k1, k2), g.A1, g.c1, Ax, cx⟩, svH 53 2 (q + 1) (xl ++ [.int .i64 k1, .int .i64 k2]) s11 [], ?_, rfl, rfl, rfl, svH_nil.symm, hinx _ (Sub.app _ (Sub.refl _)) (by rw [hx1]; exact Sub.left)⟩
    show _ = Value.agg #[.int .i64 g.d.n, .int .i64 g.d.m, .slice g.A1 g.d.ls.length g.c1, .slice Ax (g.d.ms ++ [(k1, k2)]).length cx]
    rw [hx1]
    rfl
end
end Go.Proofs.Ytakmopiceopcpaa
end
