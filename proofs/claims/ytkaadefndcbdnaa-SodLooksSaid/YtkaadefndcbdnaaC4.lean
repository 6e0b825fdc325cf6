/- What is returned of a bank that is valid; bits; banks with other counts, laid anew. -/
import Derived.Test.YtkaadefndcbdnaaC3
import Derived.Test.YtkaadefndcbdnaaQd
import Derived.Test.YtkaadefndcbdnaaBt
namespace Go.Proofs.Ytkaadefndcbdnaa
open Go.RowKit
theorem FitsOk_in {s : Sd} {d : Nat} (hd : d < s.days.length) {x : Sp} (hx : 0 ≤ x.1 ∧ x.1 ≤ x.2 ∧ x.2 ≤ 200) : FitsOk s d x = true := by
  simp only [FitsOk, DayOk, within, isSpanB, Bool.and_eq_true, decide_eq_true_eq]
  omega
theorem DayOk_in {s : Sd} {d : Nat} (hd : d < s.days.length) : DayOk s d = true := by
  simp only [DayOk, within, Bool.and_eq_true, decide_eq_true_eq]; omega
theorem errE_of {s : Sd} (v : VS s) {ok : Bool} (h : ok = true) : (toldC s = [] ∧ errE s ok = 10) ∨ (toldC s ≠ [] ∧ errE s ok = 0) := by
  cases h0 : someB s with
  | true => exact .inr ⟨someB_told.1 h0, errE_1 (vB_of v) h h0⟩
  | false =>
    refine .inl ⟨?_, errE_10 (vB_of v) h h0⟩
    apply Classical.byContradiction
    intro hne
    rw [someB_told.2 hne] at h0; cases h0
theorem CutV_no {s : Sd} (v : VS s) {d : Nat} (hd : d < s.days.length) (h0 : toldC s = []) : CutV s d = (0, 0) ∧ errE s (DayOk s d) = 10 := by
  rcases errE_of v (DayOk_in hd) with ⟨_, h⟩ | ⟨h, _⟩
  · exact ⟨by unfold CutV; rw [h, if_neg (by omega)], h⟩
  · exact absurd h0 h
theorem CutV_yes {s : Sd} (v : VS s) {d : Nat} (hd : d < s.days.length) (h0 : toldC s ≠ []) : CutV s d = cutV s d ∧ errE s (DayOk s d) = 0 := by
  rcases errE_of v (DayOk_in hd) with ⟨h, _⟩ | ⟨_, h⟩
  · exact absurd h h0
  · exact ⟨by unfold CutV; rw [h, if_pos rfl]; simp, h⟩
theorem FitsV_no {s : Sd} (v : VS s) {d : Nat} (hd : d < s.days.length) {x : Sp} (hx : 0 ≤ x.1 ∧ x.1 ≤ x.2 ∧ x.2 ≤ 200) (h0 : toldC s = []) : FitsV s d x = 0 ∧ errE s (FitsOk s d x) = 10 := by
  rcases errE_of v (FitsOk_in hd hx) with ⟨_, h⟩ | ⟨h, _⟩
  · exact ⟨by unfold FitsV; rw [h, if_neg (by omega)], h⟩
  · exact absurd h0 h
theorem FitsV_yes {s : Sd} (v : VS s) {d : Nat} (hd : d < s.days.length) {x : Sp} (hx : 0 ≤ x.1 ∧ x.1 ≤ x.2 ∧ x.2 ≤ 200) (h0 : toldC s ≠ []) : FitsV s d x = fitsV s d x ∧ errE s (FitsOk s d x) = 0 := by
  rcases errE_of v (FitsOk_in hd hx) with ⟨h, _⟩ | ⟨_, h⟩
  · exact absurd h h0
  · exact ⟨by unfold FitsV; rw [h, if_pos rfl]; simp, h⟩
theorem DoneV_yes {s : Sd} (v : VS s) (h0 : toldC s ≠ []) : DoneV s = doneV s ∧ errE s true = 0 := by
  rcases errE_of v (ok := true) rfl with ⟨h, _⟩ | ⟨_, h⟩
  · exact absurd h h0
  · exact ⟨by unfold DoneV; rw [h, if_pos rfl], h⟩
theorem DoneV_no {s : Sd} (v : VS s) (h0 : toldC s = []) : DoneV s = (0, 0) ∧ errE s true = 10 := by
  rcases errE_of v (ok := true) rfl with ⟨_, h⟩ | ⟨h, _⟩
  · exact ⟨by unfold DoneV; rw [h, if_neg (by omega)], h⟩
  · exact absurd h0 h
theorem Val_andE {P : Program} {N : Nat} {w0 : World} {L : Hp} {e : Env} {d : Option Nat} {ty : TypeId} {pos : String} {af : Array Edge} {g : Option (Nat × Bool)} {x y : Operand} {t t' : TypeId} {a b c : Nat} (hc : a &&& b = c) (ha : a < 2 ^ 63) (hb : b < 2 ^ 63) (hx : ev e x = .int .i64 (a : Int)) (hy : ev e y = .int .i64 (b : Int)) : Val P N w0 L e ⟨d, .binOp .and t x y t', ty, pos, af, g⟩ (.int .i64 (c : Int)) := by
  subst hc
  exact Val_andS hx hy ha hb
theorem Val_andNotE {P : Program} {N : Nat} {w0 : World} {L : Hp} {e : Env} {d : Option Nat} {ty : TypeId} {pos : String} {af : Array Edge} {g : Option (Nat × Bool)} {x y : Operand} {t t' : TypeId} {a b c : Nat} (hc : a &&& (2 ^ 64 - 1 - b) = c) (ha : a < 2 ^ 63) (hb : b < 2 ^ 63) (hx : ev e x = .int .i64 (a : Int)) (hy : ev e y = .int .i64 (b : Int)) : Val P N w0 L e ⟨d, .binOp .andNot t x y t', ty, pos, af, g⟩ (.int .i64 (c : Int)) := by
  subst hc
  exact Val_andNotS hx hy ha hb
/-- A bank with other counts, laid anew by appending. -/
theorem in_logs {N : Nat} {w0 : World} {g : Fg} (hin : ∀ L, SodIn N w0 L g) (ls : List Lg) {s : Option (Nat × Nat)} {xs : List Value} (hx : xs = (ls.map lgL).flatten) (hs : svOk s 3 ls.length xs) :
    ∃ A9 c9, svV s ls.length = .slice A9 ls.length c9 ∧ ∀ L', Sub (svH 60 3 ls.length xs s []) L' → SodIn N w0 L' { g with s := { g.s with logs := ls }, A3 := A9, c3 := c9 } := by
  obtain ⟨A9, c9, e9, hsl⟩ := sl_sv (E := 60) (by omega) hs
  refine ⟨A9, c9, e9, fun L' hS w hI => ?_⟩
  obtain ⟨L0, hp⟩ := hS
  have hI2 := (hI.perm hp)
  rw [svH_nil] at hI2
  have hb := hin L' w hI
  refine ⟨hb.spits, hb.days, hsl hI2 hx (map_len (f := lgL) (fun _ => rfl) _), hb.cap1, ?_⟩
  show ls.length ≤ c9
  cases s with
  | none => have := hs.2 rfl; omega
  | some p =>
    obtain ⟨p1, p2⟩ := p
    obtain ⟨_, _, cur, _, hc1, _⟩ := hI2.obj' (b := p1) .here
    simp only [svV, Value.slice.injEq] at e9
    omega
end Go.Proofs.Ytkaadefndcbdnaa
