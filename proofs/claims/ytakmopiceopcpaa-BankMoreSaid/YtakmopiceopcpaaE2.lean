/- What the bank laws share: marks that were laid anew, sets by bits. · The bank laws' own function: a bank with a mark more. · The bank laws' owners: whose each perch is, by lines. -/
import Derived.Test.YtakmopiceopcpaaC2
import Derived.Test.YtakmopiceopcpaaQi
section
namespace Go.Proofs.Ytakmopiceopcpaa
open Go.RowKit
theorem in_ms {N : Nat} {w0 : World} {g : Fg} (hin : ∀ L, BankIn N w0 L g) (ls : List Sp) {s : Option (Nat × Nat)} {xs : List Value} (hx : xs = (ls.map spL).flatten) (hs : svOk s 2 ls.length xs) :
    ∃ A9 c9, svV s ls.length = .slice A9 ls.length c9 ∧ ∀ L', Sub (svH 53 2 ls.length xs s []) L' → BankIn N w0 L' { g with d := { g.d with ms := ls }, A2 := A9, c2 := c9 } := by
  obtain ⟨A9, c9, e9, hsl⟩ := sl_sv (E := 53) (by omega) hs
  refine ⟨A9, c9, e9, fun L' hS w hI => ?_⟩
  obtain ⟨L0, hp⟩ := hS
  have hI2 := (hI.perm hp)
  rw [svH_nil] at hI2
  have hb := hin L' w hI
  exact ⟨hb.ls, hsl hI2 hx (map_len (f := spL) (fun _ => rfl) _)⟩
section
variable {P : Program} {N : Nat} {w0 : World} {L : Hp} {e : Env} {d : Option Nat} {ty : TypeId} {pos : String} {af : Array Edge} {g : Option (Nat × Bool)}
theorem Val_andE {x y : Operand} {t t' : TypeId} {a b c : Nat} (hc : a &&& b = c) (ha : a < 2 ^ 63) (hb : b < 2 ^ 63) (hx : ev e x = .int .i64 (a : Int)) (hy : ev e y = .int .i64 (b : Int)) : Val P N w0 L e ⟨d, .binOp .and t x y t', ty, pos, af, g⟩ (.int .i64 (c : Int)) := by
  subst hc
  exact Val_andS hx hy ha hb
theorem Val_shrE {x y : Operand} {t t' : TypeId} {a i c : Nat} (hc : a / 2 ^ i = c) (hi : i ≤ 64) (hx : ev e x = .int .i64 (a : Int)) (hy : ev e y = .int .i64 (i : Int)) : Val P N w0 L e ⟨d, .binOp .shr t x y t', ty, pos, af, g⟩ (.int .i64 (c : Int)) := by
  subst hc
  exact Val_shr hx hy (by show i ≤ 64; omega)
theorem Val_andNotE {x y : Operand} {t t' : TypeId} {a b c : Nat} (hc : a &&& (2 ^ 64 - 1 - b) = c) (ha : a < 2 ^ 63) (hb : b < 2 ^ 63) (hx : ev e x = .int .i64 (a : Int)) (hy : ev e y = .int .i64 (b : Int)) : Val P N w0 L e ⟨d, .binOp .andNot t x y t', ty, pos, af, g⟩ (.int .i64 (c : Int)) := by
  subst hc
  exact Val_andNotS hx hy ha hb
end
theorem CountE_of {d : Bn} (v : VB d) : CountE d = 0 := by unfold CountE; rw [if_pos (vB_of v)]
theorem CountV_of {d : Bn} (v : VB d) : CountV d = (trL d).length := by unfold CountV; rw [if_pos (vB_of v)]
section
variable {P : Program} {r : Option Nat} {n N : Nat} {w0 : World} {Q : Post} {e : Env} {L : Hp} {ds : List Deferred}
/-- The slots that are known are named, the rest is forgotten. -/
theorem WP_gen {c : Code} (ws : List Nat) (sl : List (Nat × Value)) (hs : Slots e sl) (h : ∀ e1, WP P r n N w0 c Q (frame ws e1 sl e1) ds L) : WP P r n N w0 c Q e ds L := by
  have hf : e = frame ws e sl e := frame_intro hs.look (Off.refl _ _)
  rw [hf]
  exact h e
end
end Go.Proofs.Ytakmopiceopcpaa
end

section
namespace Go.Proofs.Ytakmopiceopcpaa
open Go.RowKit
attribute [local irreducible] AnyO AnyB QAny QB EWalk AWalk Ev WP OPS QThen QBlock QScope QLoop QBody Val New Turn Tri Enters PostA Blk Ro
attribute [local irreducible] AnyC QC
section
variable (N : Nat) (w0 : World)
set_option maxHeartbeats 4000000 in
theorem with_tri (L : Hp) (g : Fg) (hA : BkAt N w0 g) (hl : g.d.ms.length ≤ 40) (k : Sp) : Tri Try.prog N w0 L 38 [bkV g, .agg (spL k).toArray].toArray fun x L' => ∃ v, x = .returned v ∧ ∃ g' X, v = bkV g' ∧ g'.d = withB g.d k ∧ g'.A1 = g.A1 ∧ g'.c1 = g.c1 ∧ L' = X ++ L ∧ BankIn N w0 X g' := by
  obtain ⟨k1, k2⟩ := k
  refine Tri.fgt ?_
  refine tri_of_WP Try.func38 rfl (n := _) rfl (by simp) ?_
  obtain ⟨q, hq⟩ : ∃ n, g.d.ms.length = n := ⟨_, rfl⟩
  obtain ⟨xl, hxl⟩ : ∃ xs, (g.d.ms.map spL).flatten = xs := ⟨_, rfl⟩
  have hsrcS : ∀ L', ∀ w, Inv N w0 L' w → ∀ j u, xl[j]? = some u → ∃ b o, g.A2 = some ⟨b, o, none⟩ ∧ w.cell? ⟨b, o + j, none⟩ = some u := fun L' w hI => by rw [← hxl]; exact (RdRows.ofSl (L := L') hA.ms).flat (by omega) (map_len (f := spL) (fun _ => rfl) _) hI
  have hl4 : xl.length = q * (1 + 1) := by rw [← hxl, ← hq]; exact map_flat (f := spL) (fun _ => rfl) _
  have ho4 : ones xl = true := by rw [← hxl]; exact ones_flat (map_ones (f := spL) (fun _ => rfl) _)
  have hA4n : g.A2 = none → q = 0 := fun h => by have := slat_none hA.ms h; rw [List.length_map] at this; omega
  have hx1 : (g.d.ms ++ [(k1, k2)]).length = q + 1 := by rw [List.length_append, hq]; rfl
  unfold bkV bkL spL
  rw [hq] at hl ⊢
  dsimp only
  repeat' (first | (refine GiP ?_; first | (refine Znh ?_) | (with_reducible refine Znl ?_) | (refine Zatd 5 ?_; refine Zbs fun b5 => ?_) | (refine Zatd 5 ?_; refine Zal 5 fun b5 => ?_) | (refine Zatd 8 ?_; refine OPS_append0 rfl rfl rfl (by intro s9; repeat (first | exact Grow.here | apply Grow.there | apply Grow.sv | apply Grow.app)) svOk0 (hsrcS _) hA4n hl4 ho4 (by simp only [maxLen]; omega) (by omega) (fun s8 hs8 => ?_)) | (refine Zatd 8 ?_; refine Zag (fun s8 hs8 => ?_)) | (refine Zatd 10 ?_; refine Zbs fun b10 => ?_) | (refine Zatd 10 ?_; refine Zal 10 fun b10 => ?_) | (refine Zatd 11 ?_; refine OPS_append0 rfl rfl rfl (by intro s9; repeat (first | exact Grow.here | apply Grow.there | apply Grow.sv | apply Grow.app)) svOk0 (hsrcS _) hA4n hl4 ho4 (by simp only [maxLen]; omega) (by omega) (fun s11 hs11 => ?_)) | (refine Zatd 11 ?_; refine Zag (fun s11 hs11 => ?_)) | (refine Zatd 12 ?_; refine Zv Zfa ?_) | (refine Zatn ?_; refine Zst ?_)) | (refine GiW ?_; first | (refine Zsq fun K hK => ?_) | (refine ZrN 0 fun _ => ?_; refine Zal 2 fun b2 => ?_; refine Zal 3 fun b3 => ?_; refine Zal 4 fun b4 => ?_) | (refine ZrN 2 fun _ => ?_; refine Zv Zla ?_; refine Zst ?_) | (with_reducible apply WP_ret) | (refine WP_drawnS (id := 1) [1, 2, 4] [1, 2, 4] [] [6, 7, 9] (k := 3) (k2 := 3) (by repeat (first | apply Sub.sv | apply Sub.keep | apply Sub.appK | exact Sub.refl _)) (by kernel_rfl) prog_mixed (by kernel_rfl) (by kernel_rfl) rfl ?_; refine Zew rfl Zfa ?_; refine Zew rfl Zld ?_; refine Zew rfl Zla ?_)) | (with_reducible apply EWalk_nil) | (refine GiC ?_; first | (refine ZgC [1, 2, 4] ?_; refine ZC2 _ 0 [1, 2, 4, 0] 5 [1, 2, 4, 5] ?_ ?_) | (refine ZgC [1, 2, 4, 0] ?_; refine ZC2 _ 3 [1, 2, 4, 0, 3] 5 [1, 2, 4, 0, 5] ?_ ?_) | (refine ZgC [1, 2, 4, 0, 3] ?_; refine ZC1 _ 5 [1, 2, 4, 0, 3, 5] ?_) | (refine ZgC [1, 2, 4, 0, 3, 5] ?_; refine ZCl _ ?_) | (refine ZgC [1, 2, 4, 0, 5] ?_; refine ZC1 _ 3 [1, 2, 4, 0, 3, 5] ?_) | (refine ZgC [1, 2, 4, 5] ?_; refine ZC1 _ 0 [1, 2, 4, 0, 5] ?_)) | (refine GiO ?_; first | (refine ZgO [1, 2, 4, 0, 3, 5] ?_; refine ZO1 _ 6 [1, 2, 4, 0, 3, 5, 6] ?_) | (refine ZgO [1, 2, 4, 0, 3, 5, 6] ?_; refine ZO1 _ 7 [1, 2, 4, 0, 3, 5, 6, 7] ?_) | (refine ZgO [1, 2, 4, 0, 3, 5, 6, 7] ?_; refine ZO1 _ 8 [1, 2, 4, 0, 3, 5, 6, 7, 8] ?_) | (refine ZgO [1, 2, 4, 0, 3, 5, 6, 7, 8] ?_; refine ZOd _ ?_; (try with_reducible apply noP_normal); (try with_reducible exact key.out))) | (refine Zhn ?_) | (refine Zhr ?_) | (refine AWalk_0 ?_) | (with_reducible apply QAny_normal) | (with_reducible apply QC_normal))
  all_goals
    obtain ⟨Ax, cx, ex, hinx⟩ := in_ms (fun L => BankIn.at_ (L := L) hA) (g.d.ms ++ [(k1, k2)]) (xs := xl ++ [.int .i64 k1, .int .i64 k2]) (s := s11) (by rw [List.map_append, List.flatten_append, hxl]; simp [spL]) (by rw [hx1]; exact hs11)
    rw [hx1] at ex
    rw [ex]
    refine QBody_res rfl (.cellN rfl (by repeat (first | exact Mem.here | assumption | apply Mem.there | apply Mem.sv | apply Mem.app)) (.here (.cons (.cons (.cons (.cons .nil))))) .nil) rfl ?_
    refine ⟨svH 53 2 (q + 1) (xl ++ [.int .i64 k1, .int .i64 k2]) s11 L, (by repeat (first | exact Wk.refl _ | apply Wk.keep1 | apply Wk.drop | apply Wk.sv | apply Wk.svD | apply Wk.appD)), _, rfl, ⟨withB g.d (k1, k2), g.A1, g.c1, Ax, cx⟩, svH 53 2 (q + 1) (xl ++ [.int .i64 k1, .int .i64 k2]) s11 [], ?_, rfl, rfl, rfl, svH_nil.symm, hinx _ (by rw [hx1]; exact Sub.refl _)⟩
    show _ = Value.agg #[.int .i64 g.d.n, .int .i64 g.d.m, .slice g.A1 g.d.ls.length g.c1, .slice Ax (g.d.ms ++ [(k1, k2)]).length cx]
    rw [hx1]
    rfl
end
end Go.Proofs.Ytakmopiceopcpaa
end

section
namespace Go.Proofs.Ytakmopiceopcpaa
open Go.RowKit
def i1 (l : List Int) : List (List Value) := l.map fun x => [Value.int .i64 x]
/-- Numbers that can be read. -/
def RdI (N : Nat) (w0 : World) (L : Hp) (A : Option Addr) (l : List Int) : Prop := RdRows N w0 L A 1 (i1 l)
theorem RdI.row {N : Nat} {w0 : World} {L : Hp} {A : Option Addr} {l : List Int} (h : RdI N w0 L A l) (i : Nat) (hi : i < l.length) : ∃ b o, A = some ⟨b, o, none⟩ ∧ ∀ L', Wk L' L → Rd N w0 L' b (o + i) (.int .i64 l[i]) := by
  obtain ⟨b, o, h1, h2⟩ := RdRows.row h i hi
  refine ⟨b, o, h1, fun L' k => ?_⟩
  have := h2 0 (.int .i64 l[i]) rfl
  rw [Nat.mul_one, Nat.add_zero] at this
  exact this.wk k
attribute [local irreducible] AnyO AnyB QAny QB EWalk AWalk Ev WP OPS QThen QBlock QScope QLoop QBody Val New Turn Tri Enters PostA Blk Ro
attribute [local irreducible] AnyC QC
section
variable (N : Nat) (w0 : World)
end
end Go.Proofs.Ytakmopiceopcpaa
end
