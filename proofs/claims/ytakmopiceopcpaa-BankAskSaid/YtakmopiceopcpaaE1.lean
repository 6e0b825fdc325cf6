/- Layer bank in plain terms: a mark more; whom to ask. · What the bank laws share: marks that were laid anew, sets by bits. · The bank laws' own function: a bank with a mark more. -/
import Derived.Test.YtakmopiceopcpaaQv
import Derived.Test.YtakmopiceopcpaaC2
section
namespace Go.Proofs.Ytakmopiceopcpaa
open Go.RowKit
/-- The bank with a mark more. -/
def withB (b : Bn) (k : Sp) : Bn := { b with ms := b.ms ++ [k] }
theorem VB_with {b : Bn} (v : VB b) {k : Sp} (h6 : b.ms.length < 6) (h1 : 0 ≤ k.1 ∧ k.1 < b.n) (h2 : 0 ≤ k.2 ∧ k.2 ≤ b.m) : VB (withB b k) :=
  ⟨v.n, v.m, v.nl, by show (b.ms ++ [k]).length ≤ 6; rw [List.length_append, List.length_singleton]; omega, v.ls, fun x hx => by
    rcases List.mem_append.1 hx with hx | hx
    · exact v.ms x hx
    · rw [List.mem_singleton] at hx; subst hx; exact ⟨h1, h2⟩⟩
theorem with_ways {b : Bn} {p : Int} (h1 : 0 ≤ p ∧ p < b.n) (o : Int) : (trL (withB b (p, o))).length = waysN b [.mine p o] := by
  unfold waysN trL
  rw [List.filter_filter]
  congr 2
  funext x
  rw [okX_mine h1]
  show ((b.ms ++ [(p, o)]).all fun k => decide (ownX b x k.1 = k.2)) = _
  rw [List.all_append, Bool.and_comm]
  simp [rightX]
theorem askF_spec {d : Bn} : ∀ {k : Nat}, 0 < k → (askF d k).1 < k ∧ (askF d k).2 = mostS d ((askF d k).1 : Int) ∧ ∀ q, q < k → (askF d k).2 ≤ mostS d (q : Int) ∧ (mostS d (q : Int) = (askF d k).2 → (askF d k).1 ≤ q)
  | 0, h => by omega
  | 1, _ => by
    have : askF d 1 = (0, mostS d 0) := by unfold askF; rw [if_pos (.inl rfl)]; rfl
    rw [this]
    refine ⟨by omega, rfl, fun q hq => ?_⟩
    obtain rfl : q = 0 := by omega
    exact ⟨Nat.le_refl _, fun _ => Nat.le_refl _⟩
  | k + 2, _ => by
    obtain ⟨h1, h2, h3⟩ := askF_spec (d := d) (k := k + 1) (by omega)
    have e : askF d (k + 2) = if k + 1 = 0 ∨ mostS d ((k + 1 : Nat) : Int) < (askF d (k + 1)).2 then (k + 1, mostS d ((k + 1 : Nat) : Int)) else askF d (k + 1) := rfl
    rw [e]
    by_cases hlt : mostS d ((k + 1 : Nat) : Int) < (askF d (k + 1)).2
    · rw [if_pos (.inr hlt)]
      refine ⟨by dsimp only; omega, rfl, fun q hq => ?_⟩
      dsimp only
      by_cases hqk : q = k + 1
      · subst hqk; exact ⟨Nat.le_refl _, fun _ => Nat.le_refl _⟩
      · have := h3 q (by omega)
        exact ⟨by omega, fun he => by omega⟩
    · rw [if_neg (by omega)]
      refine ⟨by omega, h2, fun q hq => ?_⟩
      by_cases hqk : q = k + 1
      · subst hqk; exact ⟨by omega, fun _ => by omega⟩
      · exact h3 q (by omega)
theorem ask_facts {d : Bn} (v : VB d) : ((trL d).length = 0 ∧ errT d true = 10 ∧ AskV d = (0, 0)) ∨ (0 < (trL d).length ∧ errT d true = 0 ∧ ((AskV d).1 : Int) < d.n ∧ mostS d ((AskV d).1 : Int) = (AskV d).2 ∧ ∀ q : Nat, (q : Int) < d.n → (AskV d).2 ≤ mostS d (q : Int) ∧ (mostS d (q : Int) = (AskV d).2 → (AskV d).1 ≤ q)) := by
  have hn := v.n
  by_cases h0 : (trL d).length = 0
  · have he : errT d true = 10 := errT_10 (vB_of v) rfl h0
    exact .inl ⟨h0, he, by unfold AskV; rw [he]; rfl⟩
  · have he : errT d true = 0 := errT_0 (vB_of v) rfl (by omega)
    obtain ⟨h1, h2, h3⟩ := askF_spec (d := d) (k := d.n.toNat) (by omega)
    refine .inr ⟨by omega, he, ?_⟩
    unfold AskV
    rw [if_pos he]
    unfold askS
    exact ⟨by omega, h2.symm, fun q hq => h3 q (by omega)⟩
theorem mostS_bd {d : Bn} (v : VB d) (p : Int) : mostS d p ≤ 6561 := mostF_bd v p _
end Go.Proofs.Ytakmopiceopcpaa
end

section
namespace Go.Proofs.Ytakmopiceopcpaa
open Go.RowKit
theorem in_ms {N : Nat} {w0 : World} {g : Fg} (hin : ∀ L, BankIn N w0 L g) (ls : List Sp) {s : Option (Nat × Nat)} {xs : List Value} (hx : xs = (ls.map spL).flatten) (hs : svOk s 2 ls.length xs) :
    ∃ A9 c9, svV s ls.length = .slice A9 ls.length c9 ∧ ∀ L', Sub (svH 53 2 ls.length xs s []) L' → BankIn N w0 L' { g with d := { g.d with ms := ls }, A2 := A9, c2 := c9 } := by
  obtain ⟨A9, c9, e9, hsl⟩ := sl_sv (E := 53) (by omega) hs
  refine ⟨A9, c9, e9, fun L' hS w hI => ?_⟩
  obtain ⟨L0, hp⟩ := hS
  have hI2 := (hI.perm hp)
  rw [svH_nil] at hI2
  have hb := hin L' w hI
  exact ⟨hb.ls, hsl hI2 hx (map_len (f := spL) (fun _ => rfl) _)⟩
section
variable {P : Program} {N : Nat} {w0 : World} {L : Hp} {e : Env} {d : Option Nat} {ty : TypeId} {pos : String} {af : Array Edge} {g : Option (Nat × Bool)}
end
theorem CountE_of {d : Bn} (v : VB d) : CountE d = 0 := by unfold CountE; rw [if_pos (vB_of v)]
theorem CountV_of {d : Bn} (v : VB d) : CountV d = (trL d).length := by unfold CountV; rw [if_pos (vB_of v)]
end Go.Proofs.Ytakmopiceopcpaa
end

section
namespace Go.Proofs.Ytakmopiceopcpaa
open Go.RowKit
attribute [local irreducible] AnyO AnyB QAny QB EWalk AWalk Ev WP OPS QThen QBlock QScope QLoop QBody Val New Turn Tri Enters PostA Blk Ro
attribute [local irreducible] AnyC QC
section
variable (N : Nat) (w0 : World)
set_option maxHeartbeats 4000000 in
theorem with_tri (L : Hp) (g : Fg) (hA : BkAt N w0 g) (hl : g.d.ms.length ≤ 40) (k : Sp) : Tri Try.prog N w0 L 38 [bkV g, .agg (spL k).toArray].toArray fun x L' => ∃ v, x = .returned v ∧ ∃ g' X, v = bkV g' ∧ g'.d = withB g.d k ∧ g'.A1 = g.A1 ∧ g'.c1 = g.c1 ∧ L' = X ++ L ∧ BankIn N w0 X g' := by
  obtain ⟨k1, k2⟩ := k
  refine Tri.fgt ?_
  refine tri_of_WP Try.func38 rfl (n := _) rfl (by simp) ?_
  obtain ⟨q, hq⟩ : ∃ n, g.d.ms.length = n := ⟨_, rfl⟩
  obtain ⟨xl, hxl⟩ : ∃ xs, (g.d.ms.map spL).flatten = xs := ⟨_, rfl⟩
  have hsrcS : ∀ L', ∀ w, Inv N w0 L' w → ∀ j u, xl[j]? = some u → ∃ b o, g.A2 = some ⟨b, o, none⟩ ∧ w.cell? ⟨b, o + j, none⟩ = some u := fun L' w hI => by rw [← hxl]; exact (RdRows.ofSl (L := L') hA.ms).flat (by omega) (map_len (f := spL) (fun _ => rfl) _) hI
  have hl4 : xl.length = q * (1 + 1) := by rw [← hxl, ← hq]; exact map_flat (f := spL) (fun _ => rfl) _
  have ho4 : ones xl = true := by rw [← hxl]; exact ones_flat (map_ones (f := spL) (fun _ => rfl) _)
  have hA4n : g.A2 = none → q = 0 := fun h => by have := slat_none hA.ms h; rw [List.length_map] at this; omega
  have hx1 : (g.d.ms ++ [(k1, k2)]).length = q + 1 := by rw [List.length_append, hq]; rfl
  unfold bkV bkL spL
  rw [hq] at hl ⊢
  dsimp only
  repeat' (first | (refine GiP ?_; first | (refine Znh ?_) | (with_reducible refine Znl ?_) | (refine Zatd 5 ?_; refine Zbs fun b5 => ?_) | (refine Zatd 5 ?_; refine Zal 5 fun b5 => ?_) | (refine Zatd 8 ?_; refine OPS_append0 rfl rfl rfl (by intro s9; repeat (first | exact Grow.here | apply Grow.there | apply Grow.sv | apply Grow.app)) svOk0 (hsrcS _) hA4n hl4 ho4 (by simp only [maxLen]; omega) (by omega) (fun s8 hs8 => ?_)) | (refine Zatd 8 ?_; refine Zag (fun s8 hs8 => ?_)) | (refine Zatd 10 ?_; refine Zbs fun b10 => ?_) | (refine Zatd 10 ?_; refine Zal 10 fun b10 => ?_) | (refine Zatd 11 ?_; refine OPS_append0 rfl rfl rfl (by intro s9; repeat (first | exact Grow.here | apply Grow.there | apply Grow.sv | apply Grow.app)) svOk0 (hsrcS _) hA4n hl4 ho4 (by simp only [maxLen]; omega) (by omega) (fun s11 hs11 => ?_)) | (refine Zatd 11 ?_; refine Zag (fun s11 hs11 => ?_)) | (refine Zatd 12 ?_; refine Zv Zfa ?_) | (refine Zatn ?_; refine Zst ?_)) | (refine GiW ?_; first | (refine Zsq fun K hK => ?_) | (refine ZrN 0 fun _ => ?_; refine Zal 2 fun b2 => ?_; refine Zal 3 fun b3 => ?_; refine Zal 4 fun b4 => ?_) | (refine ZrN 2 fun _ => ?_; refine Zv Zla ?_; refine Zst ?_) | (with_reducible apply WP_ret) | (refine WP_drawnS (id := 1) [1, 2, 4] [1, 2, 4] [] [6, 7, 9] (k := 3) (k2 := 3) (by repeat (first | apply Sub.sv | apply Sub.keep | apply Sub.appK | exact Sub.refl _)) (by kernel_rfl) prog_mixed (by kernel_rfl) (by kernel_rfl) rfl ?_; refine Zew rfl Zfa ?_; refine Zew rfl Zld ?_; refine Zew rfl Zla ?_)) | (with_reducible apply EWalk_nil) | (refine GiC ?_; first | (refine ZgC [1, 2, 4] ?_; refine ZC2 _ 0 [1, 2, 4, 0] 5 [1, 2, 4, 5] ?_ ?_) | (refine ZgC [1, 2, 4, 0] ?_; refine ZC2 _ 3 [1, 2, 4, 0, 3] 5 [1, 2, 4, 0, 5] ?_ ?_) | (refine ZgC [1, 2, 4, 0, 3] ?_; refine ZC1 _ 5 [1, 2, 4, 0, 3, 5] ?_) | (refine ZgC [1, 2, 4, 0, 3, 5] ?_; refine ZCl _ ?_) | (refine ZgC [1, 2, 4, 0, 5] ?_; refine ZC1 _ 3 [1, 2, 4, 0, 3, 5] ?_) | (refine ZgC [1, 2, 4, 5] ?_; refine ZC1 _ 0 [1, 2, 4, 0, 5] ?_)) | (refine GiO ?_; first | (refine ZgO [1, 2, 4, 0, 3, 5] ?_; refine ZO1 _ 6 [1, 2, 4, 0, 3, 5, 6] ?_) | (refine ZgO [1, 2, 4, 0, 3, 5, 6] ?_; refine ZO1 _ 7 [1, 2, 4, 0, 3, 5, 6, 7] ?_) | (refine ZgO [1, 2, 4, 0, 3, 5, 6, 7] ?_; refine ZO1 _ 8 [1, 2, 4, 0, 3, 5, 6, 7, 8] ?_) | (refine ZgO [1, 2, 4, 0, 3, 5, 6, 7, 8] ?_; refine ZOd _ ?_; (try with_reducible apply noP_normal); (try with_reducible exact key.out))) | (refine Zhn ?_) | (refine Zhr ?_) | (refine AWalk_0 ?_) | (with_reducible apply QAny_normal) | (with_reducible apply QC_normal))
  all_goals
    obtain ⟨Ax, cx, ex, hinx⟩ := in_ms (fun L => BankIn.at_ (L := L) hA) (g.d.ms ++ [(k1, k2)]) (xs := xl ++ [.int .i64 k1, .int .i64 k2]) (s := s11) (by rw [List.map_append, List.flatten_append, hxl]; simp [spL]) (by rw [hx1]; exact hs11)
    rw [hx1] at ex
    rw [ex]
    refine QBody_res rfl (.cellN rfl (by repeat (first | exact Mem.here | assumption | apply Mem.there | apply Mem.sv | apply Mem.app)) (.here (.cons (.cons (.cons (.cons .nil))))) .nil) rfl ?_
    refine ⟨svH 53 2 (q + 1) (xl ++ [.int .i64 k1, .int .i64 k2]) s11 L, (by repeat (first | exact Wk.refl _ | apply Wk.keep1 | apply Wk.drop | apply Wk.sv | apply Wk.svD | apply Wk.appD)), _, rfl, ⟨withB g.d (k1, k2), g.A1, g.c1, Ax, cx⟩, svH 53 2 (q + 1) (xl ++ [.int .i64 k1, .int .i64 k2]) s11 [], ?_, rfl, rfl, rfl, svH_nil.symm, hinx _ (by rw [hx1]; exact Sub.refl _)⟩
    show _ = Value.agg #[.int .i64 g.d.n, .int .i64 g.d.m, .slice g.A1 g.d.ls.length g.c1, .slice Ax (g.d.ms ++ [(k1, k2)]).length cx]
    rw [hx1]
    rfl
end
end Go.Proofs.Ytakmopiceopcpaa
end
