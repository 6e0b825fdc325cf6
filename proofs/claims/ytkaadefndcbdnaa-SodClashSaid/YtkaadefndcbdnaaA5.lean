/- Package sod: what there can have been by each day, of costs, and what is kept of it. -/
import Derived.Test.YtkaadefndcbdnaaA4
namespace Go.Proofs.Ytkaadefndcbdnaa
open Go.RowKit
theorem Pre.of : ∀ {l vs : List Value} {n : Nat}, vs.length = n → (∀ (j : Nat) (v : Value), vs[j]? = some v → l[j]? = some v) → Pre l n vs
  | l, [], 0, _, _ => .nil
  | [], v :: vs, n + 1, _, h => by have := h 0 v rfl; simp at this
  | x :: l, v :: vs, n + 1, hl, h => by
    have h0 := h 0 v rfl
    simp only [List.getElem?_cons_zero, Option.some.injEq] at h0
    subst h0
    exact .cons (Pre.of (by simpa using hl) fun j u hj => by simpa using h (j + 1) u (by simpa using hj))
  | _, [], _ + 1, h, _ => by simp at h
  | _, _ :: _, 0, h, _ => by simp at h
theorem Cut.of : ∀ {i n : Nat} {l vs : List Value}, vs.length = n → 0 < n → (∀ (j : Nat) (v : Value), vs[j]? = some v → l[i + j]? = some v) → Cut l i n vs
  | 0, n, l, vs, hl, _, h => .here (Pre.of hl fun j v hj => by simpa using h j v hj)
  | i + 1, n, [], vs, hl, h0, h => by
    have := h 0 _ (List.getElem?_eq_getElem (by omega))
    simp at this
  | i + 1, n, x :: l, vs, hl, h0, h => .there (Cut.of hl h0 fun j v hj => by
      have := h j v hj
      rwa [show i + 1 + j = (i + j) + 1 by omega, List.getElem?_cons_succ] at this)
theorem Cut.whole {l : List Value} {n : Nat} (h : l.length = n) : Cut l 0 n l := .here (Pre.of h fun _ _ hj => hj)
/-- Spans laid end to end, a flag behind them. -/
def cellsD (l : List Sp) (b : Bool) : List Value := l.flatMap spL ++ [.bool b]
theorem flat_len (l : List Sp) : (l.flatMap spL).length = l.length * 2 := by
  induction l with
  | nil => rfl
  | cons x l ih => simp only [List.flatMap_cons, List.length_append, ih, spL, List.length_cons, List.length_nil]; omega
theorem flat_getS : ∀ (l : List Sp) (d : Nat) (x : Sp), l[d]? = some x → ∀ (j : Nat) (v : Value), (spL x)[j]? = some v → (l.flatMap spL)[d * 2 + j]? = some v
  | [], d, x, h, _, _, _ => by simp at h
  | y :: l, 0, x, h, j, v, hj => by
    simp only [List.getElem?_cons_zero, Option.some.injEq] at h
    subst h
    have := (List.getElem?_eq_some_iff.1 hj).1
    rw [List.flatMap_cons, Nat.zero_mul, Nat.zero_add, List.getElem?_append_left this]
    exact hj
  | y :: l, d + 1, x, h, j, v, hj => by
    have := flat_getS l d x (by simpa using h) j v hj
    rw [List.flatMap_cons, show (d + 1) * 2 + j = (spL y).length + (d * 2 + j) by simp [spL]; omega, List.getElem?_append_right (by omega)]
    rwa [Nat.add_sub_cancel_left]
theorem flat_set : ∀ (l : List Sp) (d : Nat) (x : Sp) (tl : List Value), d < l.length → setL (l.flatMap spL ++ tl) (d * 2) (spL x) = (l.set d x).flatMap spL ++ tl
  | [], d, x, _, h => by simp at h
  | y :: l, 0, x, tl, _ => by simp [setL, spL]
  | y :: l, d + 1, x, tl, h => by
    have := flat_set l d x tl (by simpa using h)
    rw [List.set_cons_succ, List.flatMap_cons, List.flatMap_cons, List.append_assoc, List.append_assoc, ← this, show (d + 1) * 2 = d * 2 + 1 + 1 by omega]
    show setL (_ :: _ :: _) _ _ = _
    rw [setL_cons, setL_cons]
    rfl
theorem cellsD_cut {l : List Sp} {b : Bool} {d : Nat} {x : Sp} (h : l[d]? = some x) : Cut (cellsD l b) (0 + d * 2) 2 (spL x) := by
  refine Cut.of rfl (by omega) fun j v hj => ?_
  have := flat_getS l d x h j v hj
  unfold cellsD
  rw [Nat.zero_add, List.getElem?_append_left (List.getElem?_eq_some_iff.1 this).1]
  exact this
theorem cellsD_set {l : List Sp} {b : Bool} {d : Nat} {x : Sp} (h : d < l.length) : setL (cellsD l b) (0 + d * 2) [.int .i64 x.1, .int .i64 x.2] = cellsD (l.set d x) b := by
  rw [Nat.zero_add]; exact flat_set l d x _ h
theorem cellsD_len (l : List Sp) (b : Bool) : (cellsD l b).length = l.length * 2 + 1 := by unfold cellsD; rw [List.length_append, flat_len]; rfl
theorem cellsD_put {l : List Sp} {b b' : Bool} (h : l.length = 6) : setL (cellsD l b) (0 + 12) [.bool b'] = cellsD l b' := by
  unfold cellsD
  show (_ : List Value).set 12 _ = _
  rw [List.set_append_right 12 _ (by rw [flat_len, h]; omega), flat_len, h]
  rfl
/-- Six of them. -/
def pad6 (l : List Sp) : List Sp := l ++ List.replicate (6 - l.length) (0, 0)
theorem pad6_len {l : List Sp} (h : l.length ≤ 6) : (pad6 l).length = 6 := by simp [pad6]; omega
theorem pad6_set {l : List Sp} (h : l.length < 6) (x : Sp) : (pad6 l).set l.length x = pad6 (l ++ [x]) := by
  unfold pad6
  rw [List.set_append_right _ _ (Nat.le_refl _), Nat.sub_self, List.length_append, List.length_singleton]
  obtain ⟨n, hn⟩ : ∃ n, 6 - l.length = n + 1 := ⟨5 - l.length, by omega⟩
  rw [hn, show 6 - (l.length + 1) = n by omega, List.replicate_succ, List.set_cons_zero, List.append_assoc]; rfl
theorem pad6_get {l : List Sp} {d : Nat} {x : Sp} (h : l[d]? = some x) : (pad6 l)[d]? = some x := by
  unfold pad6
  rw [List.getElem?_append_left (List.getElem?_eq_some_iff.1 h).1]; exact h
theorem pad6_upd {l : List Sp} {d : Nat} (h : d < l.length) (x : Sp) : (pad6 l).set d x = pad6 (l.set d x) := by
  unfold pad6
  rw [List.set_append_left _ _ h, List.length_set]
def logL (s : Sd) (c : List Int) : List Value := cellsD (pad6 (daysS s c)) (canS s c)
def lks : List IntKind := [.i64, .i64, .i64]
def keptF (s : Sd) (is : List Int) : Value := .agg (logL s is).toArray
def Fk (g : Fg) : Hp := [(g.b, Blk 128 (faceL g)), (g.m, MapOf lks (keptF g.s))]
theorem fwd_bd (s : Sd) (c : List Int) : ∀ (xs : List Sp) (d : Nat) (m : Sp), (fwd s c xs d m).1.length ≤ xs.length
  | [], _, _ => Nat.le_refl _
  | x :: xs, d, m => by
    unfold fwd
    dsimp only
    split
    · simp only [List.length_cons]; have := fwd_bd s c xs (d + 1) (cntS s c d s.logs (m.1 + x.1, m.2 + x.2)); omega
    · simp
theorem bwd_cons {ms xs : List Sp} {m x r : Sp} {rs : List Sp} (h : bwd ms xs = r :: rs) : bwd (m :: ms) (x :: xs) = (max m.1 (r.1 - x.2), min m.2 (r.2 - x.1)) :: r :: rs := by
  conv => lhs; unfold bwd
  rw [h]
theorem bwd_drop : ∀ (ms xs : List Sp) (d : Nat), xs.length + 1 = ms.length → d ≤ xs.length → (bwd ms xs).drop d = bwd (ms.drop d) (xs.drop d)
  | ms, xs, 0, _, _ => rfl
  | m :: ms, x :: xs, d + 1, h, hd => by
    have hl := bwd_len ms xs (by simpa using h)
    have ih := bwd_drop ms xs d (by simpa using h) (by simpa using hd)
    cases hb : bwd ms xs with
    | nil => rw [hb] at hl; simp at hl h; omega
    | cons r rs =>
      rw [bwd_cons hb, List.drop_succ_cons, List.drop_succ_cons, List.drop_succ_cons, ← hb]
      exact ih
  | [], _, _ + 1, h, _ => by simp at h
  | _ :: _, [], _ + 1, _, hd => by simp at hd
/-- One step backwards. -/
theorem bwd_at {ms xs : List Sp} {d : Nat} {m x r : Sp} (hl : xs.length + 1 = ms.length) (hm : ms[d]? = some m) (hx : xs[d]? = some x) (hr : (bwd ms xs)[d + 1]? = some r) : (bwd ms xs)[d]? = some (max m.1 (r.1 - x.2), min m.2 (r.2 - x.1)) := by
  have hd : d < xs.length := (List.getElem?_eq_some_iff.1 hx).1
  have h0 := bwd_drop ms xs d hl (by omega)
  rw [drop_cons' hm, drop_cons' hx] at h0
  have h1 : bwd (ms.drop (d + 1)) (xs.drop (d + 1)) = (bwd ms xs).drop (d + 1) := (bwd_drop ms xs (d + 1) hl (by omega)).symm
  rw [drop_cons' hr] at h1
  rw [bwd_cons h1] at h0
  have := congrArg (fun l => l[0]?) h0
  simpa using this
theorem bwd_last {ms xs : List Sp} (hl : xs.length + 1 = ms.length) : (bwd ms xs).drop xs.length = ms.drop xs.length := by
  rw [bwd_drop ms xs xs.length hl (Nat.le_refl _), List.drop_length]
  obtain ⟨m, hm⟩ : ∃ m, ms.drop xs.length = [m] := by
    have : (ms.drop xs.length).length = 1 := by simp; omega
    match hd : ms.drop xs.length, this with
    | [m], _ => exact ⟨m, rfl⟩
  rw [hm]; rfl
end Go.Proofs.Ytkaadefndcbdnaa
