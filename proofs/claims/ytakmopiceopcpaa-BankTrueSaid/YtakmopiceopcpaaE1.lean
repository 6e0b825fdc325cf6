/- Layer bank in plain terms: a mark more; whom to ask. · What the bank laws share: marks that were laid anew, sets by bits. · The bank laws' own function: a bank with a mark more. -/
import Derived.Test.YtakmopiceopcpaaQv
import Derived.Test.YtakmopiceopcpaaC2
section
namespace Go.Proofs.Ytakmopiceopcpaa
open Go.RowKit
/-- The bank with a mark more. -/
def withB (b : Bn) (k : Sp) : Bn := { b with ms := b.ms ++ [k] }
theorem VB_with {b : Bn} (v : VB b) {k : Sp} (h6 : b.ms.length < 6) (h1 : 0 ≤ k.1 ∧ k.1 < b.n) (h2 : 0 ≤ k.2 ∧ k.2 ≤ b.m) : VB (withB b k) :=
  ⟨v.n, v.m, v.nl, by show (b.ms ++ [k]).length ≤ 6; rw [List.length_append, List.length_singleton]; omega, v.ls, fun x hx => by
    rcases List.mem_append.1 hx with hx | hx
    · exact v.ms x hx
    · rw [List.mem_singleton] at hx; subst hx; exact ⟨h1, h2⟩⟩
theorem with_ways {b : Bn} {p : Int} (h1 : 0 ≤ p ∧ p < b.n) (o : Int) : (trL (withB b (p, o))).length = waysN b [.mine p o] := by
  unfold waysN trL
  rw [List.filter_filter]
  congr 2
  funext x
  rw [okX_mine h1]
  show ((b.ms ++ [(p, o)]).all fun k => decide (ownX b x k.1 = k.2)) = _
  rw [List.all_append, Bool.and_comm]
  simp [rightX]
/-! ## Whom to ask -/
theorem mostF_le {d : Bn} {p : Int} : ∀ {k j : Nat}, j < k → waysN d [.mine p j] ≤ mostF d p k
  | 0, _, h => by omega
  | k + 1, j, h => by
    unfold mostF
    by_cases hj : j = k
    · subst hj; omega
    · have := mostF_le (d := d) (p := p) (k := k) (j := j) (by omega)
      omega
theorem askF_spec {d : Bn} : ∀ {k : Nat}, 0 < k → (askF d k).1 < k ∧ (askF d k).2 = mostS d ((askF d k).1 : Int) ∧ ∀ q, q < k → (askF d k).2 ≤ mostS d (q : Int) ∧ (mostS d (q : Int) = (askF d k).2 → (askF d k).1 ≤ q)
  | 0, h => by omega
  | 1, _ => by
    have : askF d 1 = (0, mostS d 0) := by unfold askF; rw [if_pos (.inl rfl)]; rfl
    rw [this]
    refine ⟨by omega, rfl, fun q hq => ?_⟩
    obtain rfl : q = 0 := by omega
    exact ⟨Nat.le_refl _, fun _ => Nat.le_refl _⟩
  | k + 2, _ => by
    obtain ⟨h1, h2, h3⟩ := askF_spec (d := d) (k := k + 1) (by omega)
    have e : askF d (k + 2) = if k + 1 = 0 ∨ mostS d ((k + 1 : Nat) : Int) < (askF d (k + 1)).2 then (k + 1, mostS d ((k + 1 : Nat) : Int)) else askF d (k + 1) := rfl
    rw [e]
    by_cases hlt : mostS d ((k + 1 : Nat) : Int) < (askF d (k + 1)).2
    · rw [if_pos (.inr hlt)]
      refine ⟨by dsimp only; omega, rfl, fun q hq => ?_⟩
      dsimp only
      by_cases hqk : q = k + 1
      · subst hqk; exact ⟨Nat.le_refl _, fun _ => Nat.le_refl _⟩
      · have := h3 q (by omega)
        exact ⟨by omega, fun he => by omega⟩
    · rw [if_neg (by omega)]
      refine ⟨by omega, h2, fun q hq => ?_⟩
      by_cases hqk : q = k + 1
      · subst hqk; exact ⟨by omega, fun _ => by omega⟩
      · exact h3 q (by omega)
theorem ask_facts {d : Bn} (v : VB d) : ((trL d).length = 0 ∧ errT d true = 10 ∧ AskV d = (0, 0)) ∨ (0 < (trL d).length ∧ errT d true = 0 ∧ ((AskV d).1 : Int) < d.n ∧ mostS d ((AskV d).1 : Int) = (AskV d).2 ∧ ∀ q : Nat, (q : Int) < d.n → (AskV d).2 ≤ mostS d (q : Int) ∧ (mostS d (q : Int) = (AskV d).2 → (AskV d).1 ≤ q)) := by
  have hn := v.n
  by_cases h0 : (trL d).length = 0
  · have he : errT d true = 10 := errT_10 (vB_of v) rfl h0
    exact .inl ⟨h0, he, by unfold AskV; rw [he]; rfl⟩
  · have he : errT d true = 0 := errT_0 (vB_of v) rfl (by omega)
    obtain ⟨h1, h2, h3⟩ := askF_spec (d := d) (k := d.n.toNat) (by omega)
    refine .inr ⟨by omega, he, ?_⟩
    unfold AskV
    rw [if_pos he]
    unfold askS
    exact ⟨by omega, h2.symm, fun q hq => h3 q (by omega)⟩
end Go.Proofs.Ytakmopiceopcpaa
end

section
namespace Go.Proofs.Ytakmopiceopcpaa
open Go.RowKit
theorem in_ms {N : Nat} {w0 : World} {g : Fg} (hin : ∀ L, BankIn N w0 L g) (ls : List Sp) {s : Option (Nat × Nat)} {xs : List Value} (hx : xs = (ls.map spL).flatten) (hs : svOk s 2 ls.length xs) :
    ∃ A9 c9, svV s ls.length = .slice A9 ls.length c9 ∧ ∀ L', Sub (svH 53 2 ls.length xs s []) L' → BankIn N w0 L' { g with d := { g.d with ms := ls }, A2 := A9, c2 := c9 } := by
  obtain ⟨A9, c9, e9, hsl⟩ := sl_sv (E := 53) (by omega) hs
  refine ⟨A9, c9, e9, fun L' hS w hI => ?_⟩
  obtain ⟨L0, hp⟩ := hS
  have hI2 := (hI.perm hp)
  rw [svH_nil] at hI2
  have hb := hin L' w hI
  exact ⟨hb.ls, hsl hI2 hx (map_len (f := spL) (fun _ => rfl) _)⟩
section
variable {P : Program} {N : Nat} {w0 : World} {L : Hp} {e : Env} {d : Option Nat} {ty : TypeId} {pos : String} {af : Array Edge} {g : Option (Nat × Bool)}
theorem Val_andE {x y : Operand} {t t' : TypeId} {a b c : Nat} (hc : a &&& b = c) (ha : a < 2 ^ 63) (hb : b < 2 ^ 63) (hx : ev e x = .int .i64 (a : Int)) (hy : ev e y = .int .i64 (b : Int)) : Val P N w0 L e ⟨d, .binOp .and t x y t', ty, pos, af, g⟩ (.int .i64 (c : Int)) := by
  subst hc
  exact Val_andS hx hy ha hb
theorem Val_shrE {x y : Operand} {t t' : TypeId} {a i c : Nat} (hc : a / 2 ^ i = c) (hi : i ≤ 64) (hx : ev e x = .int .i64 (a : Int)) (hy : ev e y = .int .i64 (i : Int)) : Val P N w0 L e ⟨d, .binOp .shr t x y t', ty, pos, af, g⟩ (.int .i64 (c : Int)) := by
  subst hc
  exact Val_shr hx hy (by show i ≤ 64; omega)
theorem Val_andNotE {x y : Operand} {t t' : TypeId} {a b c : Nat} (hc : a &&& (2 ^ 64 - 1 - b) = c) (ha : a < 2 ^ 63) (hb : b < 2 ^ 63) (hx : ev e x = .int .i64 (a : Int)) (hy : ev e y = .int .i64 (b : Int)) : Val P N w0 L e ⟨d, .binOp .andNot t x y t', ty, pos, af, g⟩ (.int .i64 (c : Int)) := by
  subst hc
  exact Val_andNotS hx hy ha hb
end
theorem CountE_of {d : Bn} (v : VB d) : CountE d = 0 := by unfold CountE; rw [if_pos (vB_of v)]
theorem CountV_of {d : Bn} (v : VB d) : CountV d = (trL d).length := by unfold CountV; rw [if_pos (vB_of v)]
section
variable {P : Program} {r : Option Nat} {n N : Nat} {w0 : World} {Q : Post} {e : Env} {L : Hp} {ds : List Deferred}
/-- The slots that are known are named, the rest is forgotten. -/
theorem WP_gen {c : Code} (ws : List Nat) (sl : List (Nat × Value)) (hs : Slots e sl) (h : ∀ e1, WP P r n N w0 c Q (frame ws e1 sl e1) ds L) : WP P r n N w0 c Q e ds L := by
  have hf : e = frame ws e sl e := frame_intro hs.look (Off.refl _ _)
  rw [hf]
  exact h e
end
end Go.Proofs.Ytakmopiceopcpaa
end

section
namespace Go.Proofs.Ytakmopiceopcpaa
open Go.RowKit
attribute [local irreducible] AnyO AnyB QAny QB EWalk AWalk Ev WP OPS QThen QBlock QScope QLoop QBody Val New Turn Tri Enters PostA Blk Ro
attribute [local irreducible] AnyC QC
section
variable (N : Nat) (w0 : World)
end
end Go.Proofs.Ytakmopiceopcpaa
end
