/- Package heap, first part: its small functions. · Package heap: the walks of its small loops. · Package heap: evening, days, joined. · Package heap: what is kept, and found, of a heap's wetness at first. · Heaps that are valid. · Package heap: whether there is a truth with some rains. · Package heap: all rains that there can be. · Package heap: the iterator of all rains, and of those with which there is a truth. · Package heap: the iterators as they are returned, and the iterator of all rains with which there is a truth. · Package heap: whether there are rains with which some looks can be right. -/
import Derived.Test.YtlpahkmfjpjheaaM2
section
namespace Go.Proofs.Ytlpahkmfjpjheaa
open Go.RowKit
theorem Ret.fgt {P : Program} {N : Nat} {w0 : World} {L : Hp} {f : FuncId} {args : Array Value} {v : Value} (h : Tri P N w0 L f args fun x L' => x = .returned v ∧ Wk L' L) : Ret P N w0 L f args v := by
  intro w hI
  refine (h w hI).mono ?_
  rintro x w' ⟨L', hI', hx, hk⟩
  exact ⟨L, hI'.wk hk, hx, rfl⟩
attribute [local irreducible] AnyO AnyB QAny QB EWalk AWalk Ev WP OPS QThen QBlock QScope QLoop QBody Val New Turn Tri Enters PostA Blk Ro
abbrev Sp := Int × Int
def spL (s : Sp) : List Value := [.int .i64 s.1, .int .i64 s.2]
def spV (s : Sp) : Value := .agg (spL s).toArray
structure Tf where
  place : Int
  lo : Int
  hi : Int
deriving DecidableEq
structure Lk where
  heap : Int
  day : Int
  lo : Int
  hi : Int
deriving DecidableEq
structure Hv where
  heaps : List Tf
  rains : List Sp
  d0 : Int
  d1 : Int
  d2 : Int
  limit : Int
  looks : List Lk
def tfL (t : Tf) : List Value := [.int .i64 t.place, .int .i64 t.lo, .int .i64 t.hi]
def lkL (l : Lk) : List Value := [.int .i64 l.heap, .int .i64 l.day, .int .i64 l.lo, .int .i64 l.hi]

/-- A slice's elements, where they lie. -/
def SlAt (N : Nat) (w0 : World) (A : Option Addr) (sz : Nat) (rows : List (List Value)) : Prop :=
  ∀ k (h : k < rows.length), ∃ b off, A = some ⟨b, off, none⟩ ∧ b < N ∧ Ro w0 b (off + k * sz) rows[k]

def within (n l h : Int) : Bool := decide (l ≤ n) && decide (n ≤ h)
theorem within_ret (N : Nat) (w0 : World) (L : Hp) (n l h : Int) : Ret Try.prog N w0 L 88 [.int .i64 n, .int .i64 l, .int .i64 h].toArray (.bool (within n l h)) := by
  refine tri_of_WP Try.func88 rfl (n := 15) rfl (by simp) ?_
  repeat' (first | (refine GiP ?_; first | (refine Znh ?_) | (refine Zatd 14 ?_; (first | (refine Zv Zxpt ?_) | (refine Zv Zxpf ?_)); refine Zv Zab ?_) | (refine Zatd 11 ?_; refine Zv Zmi ?_) | (refine Zatd 12 ?_; refine Zv Zmi ?_) | (refine Zatd 13 ?_; refine Zv Zxleq ?_) | (refine Zsk ?_) | (refine Zsp (fun hc => ?_) (fun hc => ?_) <;> (try (exfalso; omega)))) | (refine GiW ?_; first | (refine Zsq fun K hK => ?_) | (refine ZrN 0 fun _ => ?_; refine Zv Zab ?_) | (refine ZrG 1 ?_; refine Zv Zmi ?_; refine Zv Zmi ?_; refine Zv Zxleq ?_; refine Zv Zmb ?_) | (with_reducible apply WP_ret)))
  · refine QBody_ret1 rfl (rfl : _ = Value.bool _) ⟨?_, rfl⟩
    simp [within, hc]
  · refine QBody_ret1 rfl (rfl : _ = Value.bool _) ⟨?_, rfl⟩
    simp [within, hc]
theorem must_ok (N : Nat) (w0 : World) (L : Hp) (e : Int) : Ret Try.prog N w0 L 82 [.bool true, .int .i64 e].toArray (.tuple #[]) := by
  refine tri_of_WP Try.func82 rfl (n := 9) rfl (by simp) ?_
  repeat' (first | (refine Znh ?_) | (refine GiW ?_; first | (refine Zsq fun K hK => ?_) | (refine ZrN 0 fun _ => ?_; refine Zv Zmb ?_; refine Zv Zxnot ?_) | (refine WP_cond_false rfl ?_) | (with_reducible apply WP_skip)))
  exact QBody_end0 rfl ⟨rfl, rfl⟩
def stopE (e : Int) : List PanicEntry := [{ v := .iface 111 (.agg #[.int .i64 e]), recovered := false }]
theorem must_no (N : Nat) (w0 : World) (L : Hp) (e : Int) : Tri Try.prog N w0 L 82 [.bool false, .int .i64 e].toArray fun x L' => x = .panicked (stopE e) ∧ L' = L := by
  refine tri_of_WP Try.func82 rfl (n := 9) rfl (by simp) ?_
  repeat' (first | (refine Znh ?_) | (refine GiW ?_; first | (refine Zsq fun K hK => ?_) | (refine ZrN 0 fun _ => ?_; refine Zv Zmb ?_; refine Zv Zxnot ?_) | (refine ZrN 1 fun _ => ?_; refine Zv Zmi ?_; refine Zv Zxbu ?_; refine Zv Zxmi ?_; refine OPS_panicV rfl rfl ?_) | (refine WP_cond_true rfl ?_)))
  exact QBody_panic ⟨rfl, rfl⟩
/-- What the deferred call makes of no panic, and of a stop. -/
theorem stopped_nil (N : Nat) (w0 : World) (L : Hp) (b : Nat) : Ret Try.prog N w0 L 46 [.nilIface, .pointer (some ⟨b, 0, none⟩)].toArray (.tuple #[]) := by
  refine tri_of_WP Try.func46 rfl (n := 20) rfl (by simp) ?_
  repeat' (first | (refine Znh ?_) | (refine GiW ?_; first | (refine Zsq fun K hK => ?_) | (refine ZrN 0 fun _ => ?_; refine Zv Zmv ?_; (first | (refine Zv (Val_eqlNil0 rfl) ?_) | (refine Zv (Val_eqlNil1 rfl) ?_))) | (refine WP_cond_true rfl ?_) | (with_reducible apply WP_ret)) | (refine Zhr ?_))
  exact QBody_ret0 rfl ⟨rfl, rfl⟩
theorem stopped_stop (N : Nat) (w0 : World) (L : Hp) (b : Nat) (e e0 : Int) : Tri Try.prog N w0 ((b, Blk 32 [.int .i64 e0]) :: L) 46 [.iface 111 (.agg #[.int .i64 e]), .pointer (some ⟨b, 0, none⟩)].toArray fun x L' => x = .returned (.tuple #[]) ∧ L' = (b, Blk 32 [.int .i64 e]) :: L := by
  refine Tri.fgt ?_
  refine tri_of_WP Try.func46 rfl (n := 20) rfl (by simp) ?_
  repeat' (first | (refine GiP ?_; first | (refine Znh ?_) | (with_reducible refine Znl ?_)) | (refine GiW ?_; first | (refine Zsq fun K hK => ?_) | (refine ZrN 0 fun _ => ?_; refine Zv Zmv ?_; (first | (refine Zv (Val_eqlNil0 rfl) ?_) | (refine Zv (Val_eqlNil1 rfl) ?_))) | (refine ZrN 1 fun _ => ?_; refine Zv Zmv ?_; refine Zv (Val_typeAssert rfl) ?_; refine Zv Zmv ?_; refine Zv Zxex ?_; refine Zv Zxex ?_; refine Zal 4 fun b4 => ?_; refine Zst ?_; refine Zv Zab ?_) | (refine ZrN 2 fun _ => ?_; refine Zv Zmb ?_; refine Zv Zxnot ?_) | (refine ZrN 4 fun _ => ?_; refine Zv Zmv ?_; refine Zv Zf0 ?_; refine Zv Zld ?_; (first | (refine Zv Zxnp ?_) | (refine Zv Zxnf ?_)); refine Zst ?_) | (refine WP_cond_false rfl ?_) | (with_reducible apply WP_skip)) | (refine Zhn ?_))
  exact QBody_end0 rfl ⟨_, .drop (.refl _), rfl, rfl⟩

def afterDry (d0 d1 d2 : Int) (place wet : Int) : Int := max 0 (wet - (if place = 0 then d0 else if place = 1 then d1 else d2))
def after (d0 d1 d2 : Int) (place wet rain : Int) : Int := if rain = 0 then afterDry d0 d1 d2 place wet else min 100 (wet + rain)
def sm (n : Int) : Prop := -1000000 ≤ n ∧ n ≤ 1000000
theorem dry_ret (N : Nat) (w0 : World) (L : Hp) (d0 d1 d2 place lo hi wet : Int) (hp : 0 ≤ place ∧ place ≤ 2) (h0 : sm d0) (h1 : sm d1) (h2 : sm d2) (hw : sm wet) :
    Ret Try.prog N w0 L 130 [.agg [.int .i64 d0, .int .i64 d1, .int .i64 d2].toArray, .agg [.int .i64 place, .int .i64 lo, .int .i64 hi].toArray, .int .i64 wet].toArray (.int .i64 (afterDry d0 d1 d2 place wet)) := by
  unfold sm at *
  obtain ⟨q, hq⟩ : ∃ q : Nat, place = q := ⟨place.toNat, by omega⟩
  subst hq
  refine Ret.fgt ?_
  refine tri_of_WP Try.func130 rfl (n := 15) rfl (by simp) ?_
  have : q = 0 ∨ q = 1 ∨ q = 2 := by omega
  rcases this with rfl | rfl | rfl
  all_goals (
    repeat' (first | (refine Znh ?_) | (refine GiW ?_; first | (refine Zsq fun K hK => ?_) | (refine ZrN 0 fun _ => ?_; refine Zal 3 fun b3 => ?_; refine Zal 4 fun b4 => ?_; refine Zv Zai ?_) | (refine ZrN 1 fun _ => ?_; refine Zv Zmi ?_; refine Zv Zf0 ?_; refine Zv Zld ?_; refine Zv Zf0 ?_; refine Zv ZiA ?_; refine Zv Zld ?_; refine Zv Zxsub ?_; refine Zv Zxmax ?_; refine Zv Zai ?_) | (with_reducible apply WP_ret)))
    refine QBody_ret1 rfl (rfl : _ = Value.int _ _) ⟨?_, (by repeat (first | exact Wk.refl _ | apply Wk.keep1 | apply Wk.drop | apply Wk.sv | apply Wk.svD | apply Wk.appD))⟩
    simp [afterDry])
theorem rainy_ret (N : Nat) (w0 : World) (L : Hp) (d0 d1 d2 rain place lo hi wet : Int) (hp : 0 ≤ place ∧ place ≤ 2) (h0 : sm d0) (h1 : sm d1) (h2 : sm d2) (hw : sm wet) (hr : sm rain) :
    Ret Try.prog N w0 L 131 [.agg [.int .i64 d0, .int .i64 d1, .int .i64 d2, .int .i64 rain].toArray, .agg [.int .i64 place, .int .i64 lo, .int .i64 hi].toArray, .int .i64 wet].toArray (.int .i64 (after d0 d1 d2 place wet rain)) := by
  refine Ret.fgt ?_
  refine tri_of_WP Try.func131 rfl (n := 20) rfl (by simp) ?_
  have hw' := hw
  have hr' := hr
  unfold sm at hw' hr'
  repeat' (first | (refine Znh ?_) | (refine GiW ?_; first | (refine Zsq fun K hK => ?_) | (refine ZrN 0 fun _ => ?_; refine Zal 3 fun b3 => ?_; refine Zal 4 fun b4 => ?_; refine Zv Zai ?_) | (refine ZrN 1 fun _ => ?_; refine Zv Zfa ?_; refine Zv Zld ?_; refine Zv Zxeql ?_) | (refine ZrN 2 fun _ => ?_; refine Zv Zf0 ?_; refine Zv Zla ?_; refine Zv Zla ?_; refine Zv Zmi ?_; refine Zcl (Enters_fn rfl) (dry_ret N w0 _ d0 d1 d2 place lo hi wet hp h0 h1 h2 hw) ?_; refine Zv Zai ?_) | (refine ZrN 3 fun _ => ?_; refine Zv Zmi ?_; refine Zv Zfa ?_; refine Zv Zld ?_; refine Zv Zxadd ?_; refine Zv Zxmin ?_; refine Zv Zai ?_) | (refine Zcd (fun hc => ?_) (fun hc => ?_) <;> (try (exfalso; omega))) | (with_reducible apply WP_skip) | (with_reducible apply WP_ret)) | (refine Zhn ?_) | (refine Zhr ?_))
  · refine QBody_ret1 rfl (rfl : _ = Value.int _ _) ⟨?_, (by repeat (first | exact Wk.refl _ | apply Wk.keep1 | apply Wk.drop | apply Wk.sv | apply Wk.svD | apply Wk.appD))⟩
    simp [after, hc]
  · refine QBody_ret1 rfl (rfl : _ = Value.int _ _) ⟨?_, (by repeat (first | exact Wk.refl _ | apply Wk.keep1 | apply Wk.drop | apply Wk.sv | apply Wk.svD | apply Wk.appD))⟩
    simp [after, hc]
end Go.Proofs.Ytlpahkmfjpjheaa
end

section
namespace Go.Proofs.Ytlpahkmfjpjheaa
open Go.RowKit
attribute [local irreducible] AnyO AnyB QAny QB EWalk AWalk Ev WP OPS QThen QBlock QScope QLoop QBody Val New Turn Tri Enters PostA Blk Ro
def isSpanB (s : Sp) (hi wide : Int) : Bool := decide (0 ≤ s.1 ∧ s.1 ≤ s.2 ∧ s.2 ≤ hi ∧ s.2 - s.1 ≤ wide)
theorem isSpan_ret (N : Nat) (w0 : World) (L : Hp) (s : Sp) (hi wide : Int) (h1 : 0 ≤ s.1 → s.1 ≤ s.2 → s.2 ≤ hi → InK .i64 (s.2 - s.1)) : Ret Try.prog N w0 L 87 [.agg [.int .i64 s.1, .int .i64 s.2].toArray, .int .i64 hi, .int .i64 wide].toArray (.bool (isSpanB s hi wide)) := by
  refine Ret.fgt ?_
  refine tri_of_WP Try.func87 rfl (n := 32) rfl (by simp) ?_
  repeat' (first | (refine GiP ?_; first | (refine Znh ?_) | (refine Zatd 16 ?_; (first | (refine Zv Zxpt ?_) | (refine Zv Zxpf ?_)); refine Zv Zmb ?_) | (refine Zatd 22 ?_; (first | (refine Zv Zxpt ?_) | (refine Zv Zxpf ?_)); refine Zv Zmb ?_) | (refine Zatd 31 ?_; (first | (refine Zv Zxpt ?_) | (refine Zv Zxpf ?_)); refine Zv Zab ?_) | (refine Zatd 11 ?_; refine Zv Zf0 ?_) | (refine Zatd 12 ?_; refine Zv Zld ?_) | (refine Zatd 13 ?_; refine Zv Zfa ?_) | (refine Zatd 14 ?_; refine Zv Zld ?_) | (refine Zatd 15 ?_; refine Zv Zxleq ?_) | (refine Zatd 18 ?_; refine Zv Zfa ?_) | (refine Zatd 19 ?_; refine Zv Zld ?_) | (refine Zatd 20 ?_; refine Zv Zmi ?_) | (refine Zatd 21 ?_; refine Zv Zxleq ?_) | (refine Zatd 24 ?_; refine Zv Zfa ?_) | (refine Zatd 25 ?_; refine Zv Zld ?_) | (refine Zatd 26 ?_; refine Zv Zf0 ?_) | (refine Zatd 27 ?_; refine Zv Zld ?_) | (refine Zatd 28 ?_; refine Zv (Val_sub rfl rfl (h1 (by assumption) (by assumption) (by assumption))) ?_) | (refine Zatd 29 ?_; refine Zv Zmi ?_) | (refine Zatd 30 ?_; refine Zv Zxleq ?_) | (refine Zsk ?_) | (refine Zsp (fun hc => ?_) (fun hc => ?_) <;> (try (exfalso; omega)))) | (refine GiW ?_; first | (refine Zsq fun K hK => ?_) | (refine ZrN 0 fun _ => ?_; refine Zal 3 fun b3 => ?_; refine Zv Zab ?_) | (refine ZrG 1 ?_; refine Zv Zf0 ?_; refine Zv Zld ?_; refine Zv Zxleq ?_; refine Zv Zmb ?_) | (with_reducible apply WP_ret)))
  all_goals (refine QBody_ret1 rfl (rfl : _ = Value.bool _) ⟨?_, (by repeat (first | exact Wk.refl _ | apply Wk.keep1 | apply Wk.drop | apply Wk.sv | apply Wk.svD | apply Wk.appD))⟩; simp [isSpanB, *])

/-- What a bog's block holds, and where. -/
structure Bg where
  h : Hv
  A1 : Option Addr
  c1 : Nat
  A2 : Option Addr
  c2 : Nat
  A3 : Option Addr
  c3 : Nat
  b : Nat
  m : Nat
def hvL (g : Bg) : List Value := [.slice g.A1 g.h.heaps.length g.c1, .slice g.A2 g.h.rains.length g.c2, .int .i64 g.h.d0, .int .i64 g.h.d1, .int .i64 g.h.d2, .int .i64 g.h.limit, .slice g.A3 g.h.looks.length g.c3]
def bogL (g : Bg) : List Value := [.slice g.A1 g.h.heaps.length g.c1, .slice g.A2 g.h.rains.length g.c2, .int .i64 g.h.d0, .int .i64 g.h.d1, .int .i64 g.h.d2, .int .i64 g.h.limit, .slice g.A3 g.h.looks.length g.c3, .map (some g.m)]
structure HeapAt (N : Nat) (w0 : World) (g : Bg) : Prop where
  heaps : SlAt N w0 g.A1 3 (g.h.heaps.map tfL)
  rains : SlAt N w0 g.A2 2 (g.h.rains.map spL)
  looks : SlAt N w0 g.A3 4 (g.h.looks.map lkL)

section
variable (N : Nat) (w0 : World) (L : Hp) (g : Bg)
theorem isHeap_ret (n : Int) (hm : Mem g.b (Blk 94 (bogL g)) L) (hl : g.h.heaps.length ≤ 100) : Ret Try.prog N w0 L 49 [.pointer (some ⟨g.b, 0, none⟩), .int .i64 n].toArray (.bool (within n 0 (g.h.heaps.length - 1))) := by
  refine tri_of_WP Try.func49 rfl (n := 14) rfl (by simp) ?_
  repeat' (first | (refine Znh ?_) | (refine GiW ?_; first | (refine Zsq fun K hK => ?_) | (refine ZrN 0 fun _ => ?_; refine Zv Zab ?_) | (refine ZrN 1 fun _ => ?_; refine Zv Zmi ?_; refine Zv Zmv ?_; (first | (refine Zv Zxnp ?_) | (refine Zv Zxnf ?_)); refine Zv Zf0 ?_; refine Zv Zf0 ?_; refine Zv Zld ?_; refine Zv Zxlen ?_; refine Zv Zxsub ?_; refine Zcl (Enters_fn rfl) (within_ret N w0 _ _ _ _) ?_; refine Zv Zab ?_) | (with_reducible apply WP_ret)))
  exact QBody_ret1 rfl (rfl : _ = Value.bool _) ⟨rfl, rfl⟩
theorem isDay_ret (n : Int) (hm : Mem g.b (Blk 94 (bogL g)) L) (hl : g.h.rains.length ≤ 100) : Ret Try.prog N w0 L 50 [.pointer (some ⟨g.b, 0, none⟩), .int .i64 n].toArray (.bool (within n 0 (g.h.rains.length - 1))) := by
  refine tri_of_WP Try.func50 rfl (n := 14) rfl (by simp) ?_
  repeat' (first | (refine Znh ?_) | (refine GiW ?_; first | (refine Zsq fun K hK => ?_) | (refine ZrN 0 fun _ => ?_; refine Zv Zab ?_) | (refine ZrN 1 fun _ => ?_; refine Zv Zmi ?_; refine Zv Zmv ?_; (first | (refine Zv Zxnp ?_) | (refine Zv Zxnf ?_)); refine Zv Zf0 ?_; refine Zv Zfa ?_; refine Zv Zld ?_; refine Zv Zxlen ?_; refine Zv Zxsub ?_; refine Zcl (Enters_fn rfl) (within_ret N w0 _ _ _ _) ?_; refine Zv Zab ?_) | (with_reducible apply WP_ret)))
  exact QBody_ret1 rfl (rfl : _ = Value.bool _) ⟨rfl, rfl⟩
theorem always_ret (x : Value) : Ret Try.prog N w0 L 67 [x].toArray (.bool true) := by
  refine tri_of_WP Try.func67 rfl (n := 3) rfl (by simp) ?_
  repeat' (first | (refine Znh ?_) | (refine GiW ?_; first | (refine Zsq fun K hK => ?_) | (refine ZrN 0 fun _ => ?_; refine Zv Zab ?_) | (refine ZrN 1 fun _ => ?_; refine Zv Zab ?_) | (with_reducible apply WP_ret)))
  exact QBody_ret1 rfl (rfl : _ = Value.bool _) ⟨rfl, rfl⟩
theorem every_ret (hm : Mem g.b (Blk 94 (bogL g)) L) (hl : g.h.looks.length ≤ 5) : Ret Try.prog N w0 L 75 [.pointer (some ⟨g.b, 0, none⟩)].toArray (.int .u64 ((2 ^ g.h.looks.length - 1 : Nat) : Int)) := by
  have hp : 2 ^ g.h.looks.length ≤ 2 ^ 5 := Nat.pow_le_pow_right (by omega) hl
  have hp0 : 0 < 2 ^ g.h.looks.length := Nat.two_pow_pos _
  have hu : ∀ m : Int, 0 ≤ m → m ≤ 31 → InK .u64 m := by intro m h1 h2; unfold InK; simp [IntKind.wrap, IntKind.bits, IntKind.signed]; omega
  refine tri_of_WP Try.func75 rfl (n := 11) rfl (by simp) ?_
  repeat' (first | (refine Znh ?_) | (refine GiW ?_; first | (refine Zsq fun K hK => ?_) | (refine ZrN 0 fun _ => ?_; refine Zv Zai ?_) | (refine ZrN 1 fun _ => ?_; refine Zv Zmv ?_; (first | (refine Zv Zxnp ?_) | (refine Zv Zxnf ?_)); refine Zv Zf0 ?_; refine Zv Zfa ?_; refine Zv Zld ?_; refine Zv Zxlen ?_; refine Zv (Val_shl1 rfl rfl rfl (by simp [IntKind.bits]; omega)) ?_; refine Zv (Val_sub rfl rfl (hu _ (by omega) (by omega))) ?_; refine Zv Zai ?_) | (with_reducible apply WP_ret)))
  refine QBody_ret1 rfl (rfl : _ = Value.int _ _) ⟨?_, rfl⟩
  congr 2
  omega
end
end Go.Proofs.Ytlpahkmfjpjheaa
end

section
namespace Go.Proofs.Ytlpahkmfjpjheaa
open Go.RowKit
theorem SlAt.row {N : Nat} {w0 : World} {A : Option Addr} {sz : Nat} {α : Type} {f : α → List Value} {l : List α} (h : SlAt N w0 A sz (l.map f)) (k : Nat) (hk : k < l.length) : ∃ b off, A = some ⟨b, off, none⟩ ∧ b < N ∧ Ro w0 b (off + k * sz) (f l[k]) := by
  obtain ⟨b, off, h1, h2, h3⟩ := h k (by simpa using hk)
  exact ⟨b, off, h1, h2, by simpa using h3⟩
theorem SlAt.one {N : Nat} {w0 : World} {A : Option Addr} {α : Type} {f : α → Value} {l : List α} (h : SlAt N w0 A 1 (l.map fun x => [f x])) (k : Nat) (hk : k < l.length) : ∃ b off, A = some ⟨b, off, none⟩ ∧ b < N ∧ w0.cell? ⟨b, off + k, none⟩ = some (f l[k]) := by
  obtain ⟨b, off, h1, h2, h3⟩ := h.row k hk
  exact ⟨b, off, h1, h2, by simpa using h3 0 (f l[k]) rfl⟩
attribute [local irreducible] AnyO AnyB QAny QB EWalk AWalk Ev WP OPS QThen QBlock QScope QLoop QBody Val New Turn Tri Enters PostA Blk Ro
def jn (l : List Sp) : Sp := match l with
  | [] => (0, 0)
  | x :: l => l.foldl (fun s x => (min s.1 x.1, max s.2 x.2)) x
theorem jn_snoc (l : List Sp) (k : Nat) (h : k < l.length) : jn (l.take (k+1)) = if k = 0 then l[k] else (min (jn (l.take k)).1 l[k].1, max (jn (l.take k)).2 l[k].2) := by
  rw [List.take_succ_eq_append_getElem h]
  cases l with
  | nil => simp at h
  | cons x l =>
    cases k with
    | zero => simp [jn]
    | succ k => 
      simp only [List.take_succ_cons, List.cons_append, jn, List.foldl_append]; simp
def dayV (h : Hv) (r : Int) : Value := .iface 144 (.agg [.int .i64 h.d0, .int .i64 h.d1, .int .i64 h.d2, .int .i64 r].toArray)
def evening (h : Hv) (place : Int) (wet : Int) (rs : List Int) : Int := rs.foldl (fun w r => after h.d0 h.d1 h.d2 place w r) wet
theorem after_sm {d0 d1 d2 place wet rain : Int} (h0 : 0 ≤ d0 ∧ d0 ≤ 100) (h1 : 0 ≤ d1 ∧ d1 ≤ 100) (h2 : 0 ≤ d2 ∧ d2 ≤ 100) (hw : -1000 ≤ wet ∧ wet ≤ 1000) (hr : 0 ≤ rain ∧ rain ≤ 100) : -1000 ≤ after d0 d1 d2 place wet rain ∧ after d0 d1 d2 place wet rain ≤ 1000 := by
  unfold after afterDry
  split <;> (try split) <;> (try split) <;> omega
theorem evening_snoc (h : Hv) (place wet : Int) (rs : List Int) (k : Nat) (hk : k < rs.length) : evening h place wet (rs.take (k + 1)) = after h.d0 h.d1 h.d2 place (evening h place wet (rs.take k)) rs[k] := by
  unfold evening
  rw [List.take_succ_eq_append_getElem hk, List.foldl_append]
  rfl
def DriesOk (h : Hv) : Prop := (0 ≤ h.d0 ∧ h.d0 ≤ 100) ∧ (0 ≤ h.d1 ∧ h.d1 ≤ 100) ∧ (0 ≤ h.d2 ∧ h.d2 ≤ 100)
theorem evening_sm {h : Hv} (hd : DriesOk h) {place wet : Int} (hw : -1000 ≤ wet ∧ wet ≤ 1000) : ∀ (rs : List Int), (∀ r ∈ rs, 0 ≤ r ∧ r ≤ 100) → -1000 ≤ evening h place wet rs ∧ evening h place wet rs ≤ 1000 := by
  intro rs
  induction rs generalizing wet with
  | nil => exact fun _ => hw
  | cons r rs ih => exact fun hr => ih (after_sm hd.1 hd.2.1 hd.2.2 hw (hr r List.mem_cons_self)) (fun x hx => hr x (List.mem_cons_of_mem _ hx))
section
variable (N : Nat) (w0 : World) (L : Hp)
theorem evening_ret (h : Hv) (hd : DriesOk h) (place lo hi wet : Int) (rs : List Int) (A : Option Addr) (c : Nat) (hp : 0 ≤ place ∧ place ≤ 2) (hw : -1000 ≤ wet ∧ wet ≤ 1000) (hr : ∀ r ∈ rs, 0 ≤ r ∧ r ≤ 100) (hl : rs.length ≤ 100)
    (hA : SlAt N w0 A 1 (rs.map fun r => [dayV h r])) :
    Ret Try.prog N w0 L 89 [.agg [.int .i64 place, .int .i64 lo, .int .i64 hi].toArray, .int .i64 wet, .slice A rs.length c].toArray (.int .i64 (evening h place wet rs)) := by
  have hd' := hd
  unfold DriesOk at hd'
  refine Ret.fgt ?_
  refine tri_of_WP Try.func89 rfl (n := 21) rfl (by simp) ?_
  repeat' (first | (refine Znh ?_) | (refine GiW ?_; first | (refine Zsq fun K hK => ?_) | (refine ZrN 0 fun _ => ?_; refine Zal 3 fun b3 => ?_; refine Zv Zai ?_) | (refine ZrN 1 fun _ => ?_; refine Zv Zmv ?_; refine Zv Zxlen ?_; refine Zv Zmi ?_) | (with_reducible apply WP_block)))
  refine WP_loop [1, 8, 11, 12, 13, 14, 15, 16, 17, 18, 19] (fun k : Nat => [(11, .int .i64 k), (1, .int .i64 (evening h place wet (rs.take k)))]) (fun _ => (b3, Blk 115 [.int .i64 place, .int .i64 lo, .int .i64 hi]) :: L) (fun k => k ≤ rs.length) (fun k => rs.length - k) 0 (.cons rfl (.cons rfl .nil)) (Wk.refl _) (Nat.zero_le _) ?_
  intro k j hk
  by_cases hlt : k < rs.length
  · obtain ⟨b, off, rfl, hb, hc'⟩ := hA.one k hlt
    unfold dayV at hc'
    have he := evening_sm hd (place := place) hw (rs.take k) (fun r hr' => hr r (List.mem_of_mem_take hr'))
    have hrk := hr rs[k] (List.getElem_mem hlt)
    have hcall := rainy_ret N w0 ((b3, Blk 115 [.int .i64 place, .int .i64 lo, .int .i64 hi]) :: L) h.d0 h.d1 h.d2 rs[k] place lo hi (evening h place wet (rs.take k)) hp (by unfold sm; omega) (by unfold sm; omega) (by unfold sm; omega) (by unfold sm; omega) (by unfold sm; omega)
    rw [← evening_snoc h place wet rs k hlt] at hcall
    repeat' (first | (refine GiP ?_; first | (refine Znh ?_) | (with_reducible refine Znl ?_)) | (refine GiW ?_; first | (refine Zsq fun K hK => ?_) | (refine ZrN 2 fun _ => ?_; refine Zv Zxlss ?_) | (refine ZrN 3 fun _ => ?_; refine Zv Zia ?_; refine Zv Zld ?_; refine Zv Zav ?_) | (refine ZrN 4 fun _ => ?_; refine Zv Zmv ?_; refine Zv Zla ?_; refine Zv Zmi ?_; refine OPS_retS (Enters_inv rfl rfl) hcall rfl rfl rfl ?_; refine Zv Zai ?_) | (refine ZrN 5 fun _ => ?_; refine Zv Zxadd ?_; refine Zv Zmi ?_) | (refine Zcd (fun hc => ?_) (fun hc => ?_) <;> (try (exfalso; omega))) | (with_reducible apply WP_skip) | (with_reducible apply WP_block)) | (refine Zhn ?_) | (with_reducible apply QBlock_normal))
    · exact QLoop_normal (k + 1) (.cons rfl (.cons rfl .nil)) (by repeat (first | exact Off.frame rfl | exact Off.refl _ _ | refine Off.frameT rfl rfl ?_ | refine Off.upd rfl ?_ | refine Off.updO rfl ?_)) (by repeat (first | exact Wk.refl _ | apply Wk.keep1 | apply Wk.drop | apply Wk.sv | apply Wk.svD | apply Wk.appD)) (by omega) (by omega)
  · repeat' (first | (refine Znh ?_) | (refine GiW ?_; first | (refine Zsq fun K hK => ?_) | (refine ZrN 2 fun _ => ?_; refine Zv Zxlss ?_) | (refine ZrN 6 fun _ => ?_; refine Zv Zmi ?_; refine Zv Zai ?_) | (refine Zcd (fun hc => ?_) (fun hc => ?_) <;> (try (exfalso; omega))) | (with_reducible apply WP_exit) | (with_reducible apply WP_ret)) | (refine Zhn ?_) | (refine Zhx ?_) | (with_reducible apply QBlock_hit) | (with_reducible apply QLoop_exit))
    have : k = rs.length := by omega
    subst this
    refine QBody_ret1 rfl (rfl : _ = Value.int _ _) ⟨?_, (by repeat (first | exact Wk.refl _ | apply Wk.keep1 | apply Wk.drop | apply Wk.sv | apply Wk.svD | apply Wk.appD))⟩
    simp

/-- The weather of the days, in a row that is the caller's own. -/
theorem days_ret (g : Bg) (hm : Mem g.b (Blk 94 (bogL g)) L) (r0 r1 r2 r3 r4 r5 last : Int) (n : Nat) (hn : last + 1 = n) (h6 : n ≤ 6) :
    Tri Try.prog N w0 L 92 [.pointer (some ⟨g.b, 0, none⟩), .agg [.int .i64 r0, .int .i64 r1, .int .i64 r2, .int .i64 r3, .int .i64 r4, .int .i64 r5].toArray, .int .i64 last].toArray
      fun x L' => ∃ v, x = .returned v ∧ ∃ s, v = svV s n ∧ svOk s 1 n ((([r0, r1, r2, r3, r4, r5].take n).map fun r => dayV g.h r)) ∧ L' = svH 139 1 n (([r0, r1, r2, r3, r4, r5].take n).map fun r => dayV g.h r) s L := by
  refine Tri.fgt ?_
  refine tri_of_WP Try.func92 rfl (n := 31) rfl (by simp) ?_
  repeat' (first | (refine Znh ?_) | (refine GiW ?_; first | (refine Zsq fun K hK => ?_) | (refine ZrN 0 fun _ => ?_; refine Zal 4 fun b4 => ?_; refine Zv Zav ?_) | (refine ZrN 1 fun _ => ?_; refine Zv Zmi ?_; refine Zv Zxadd ?_; refine Zv (Val_sliceArr rfl rfl hn h6) ?_; refine Zv Zxlen ?_; refine Zv Zmi ?_) | (with_reducible apply WP_block)))
  refine WP_loop [6, 8, 13, 14, 15, 16, 17, 18, 19, 20, 21, 22, 23, 24, 25, 26, 27, 28, 29] (fun q : Nat × Option (Nat × Nat) => [(13, .int .i64 q.1), (6, svV q.2 q.1)]) (fun q => svH 139 1 q.1 (([r0, r1, r2, r3, r4, r5].take q.1).map fun r => dayV g.h r) q.2 ((b4, Blk 86 [.int .i64 r0, .int .i64 r1, .int .i64 r2, .int .i64 r3, .int .i64 r4, .int .i64 r5]) :: L)) (fun q => q.1 ≤ n ∧ svOk q.2 1 q.1 (([r0, r1, r2, r3, r4, r5].take q.1).map fun r => dayV g.h r)) (fun q => n - q.1) (0, none) (.cons rfl (.cons rfl .nil)) (Wk.refl _) ⟨Nat.zero_le _, svOk_nil 1⟩ ?_
  rintro ⟨k, s⟩ j ⟨hk, hs⟩
  dsimp only at hk hs ⊢
  by_cases hlt : k < n
  · obtain ⟨rk, hrk⟩ : ∃ rk, [r0, r1, r2, r3, r4, r5][k]? = some rk := ⟨_, List.getElem?_eq_getElem (by simp; omega)⟩
    have hcell : [Value.int .i64 r0, .int .i64 r1, .int .i64 r2, .int .i64 r3, .int .i64 r4, .int .i64 r5][0 + k]? = some (.int .i64 rk) := by
      have : [Value.int .i64 r0, .int .i64 r1, .int .i64 r2, .int .i64 r3, .int .i64 r4, .int .i64 r5] = [r0, r1, r2, r3, r4, r5].map (Value.int .i64) := rfl
      rw [this, List.getElem?_map, Nat.zero_add, hrk]; rfl
    have htake : ([r0, r1, r2, r3, r4, r5].take (k + 1)).map (fun r => dayV g.h r) = ([r0, r1, r2, r3, r4, r5].take k).map (fun r => dayV g.h r) ++ [dayV g.h rk] := by
      rw [List.take_add_one, hrk]; simp
    repeat' (first | (refine GiP ?_; first | (refine Znh ?_) | (with_reducible refine Znl ?_)) | (refine GiW ?_; first | (refine Zsq fun K hK => ?_) | (refine ZrN 2 fun _ => ?_; refine Zv Zxlss ?_) | (refine ZrN 3 fun _ => ?_; refine Zv Zia ?_; refine Zv Zld ?_; refine Zv Zai ?_) | (refine ZrN 4 fun _ => ?_; refine Zv Zmv ?_; refine Zv Zmv ?_; (first | (refine Zv Zxnp ?_) | (refine Zv Zxnf ?_)); refine Zv Zf0 ?_; refine Zv Zfa ?_; refine Zv Zla ?_; refine Zv Zxbu ?_; refine Zv Zmi ?_; refine Zv Zxbu ?_; refine Zv Zxmi ?_; refine Zal 27 fun b27 => ?_; refine OPS_append rfl rfl rfl (by repeat (first | exact Wk.refl _ | apply Wk.keep1 | apply Wk.drop | apply Wk.sv | apply Wk.svD | apply Wk.appD)) (by assumption) (blk_cells (by repeat (first | exact Mem.here | assumption | apply Mem.there | apply Mem.sv | apply Mem.app))) rfl rfl (by simp only [maxLen]; omega) (by omega) rfl rfl (fun s28 hs28 => ?_); refine Zv Zav ?_) | (refine ZrN 5 fun _ => ?_; refine Zv Zxadd ?_; refine Zv Zmi ?_) | (refine Zcd (fun hc => ?_) (fun hc => ?_) <;> (try (exfalso; omega))) | (with_reducible apply WP_skip) | (with_reducible apply WP_block)) | (refine Zhn ?_) | (with_reducible apply QBlock_normal))
    · refine QLoop_normal (k + 1, _) (.cons rfl (.cons rfl .nil)) (by repeat (first | exact Off.frame rfl | exact Off.refl _ _ | refine Off.frameT rfl rfl ?_ | refine Off.upd rfl ?_ | refine Off.updO rfl ?_)) ?_ ⟨by omega, ?_⟩ (by dsimp only; omega)
      · dsimp only; rw [htake]; exact (by repeat (first | exact Wk.refl _ | apply Wk.keep1 | apply Wk.drop | apply Wk.sv | apply Wk.svD | apply Wk.appD))
      · dsimp only; rw [htake]; assumption
  · repeat' (first | (refine Znh ?_) | (refine GiW ?_; first | (refine Zsq fun K hK => ?_) | (refine ZrN 2 fun _ => ?_; refine Zv Zxlss ?_) | (refine ZrN 6 fun _ => ?_; refine Zv Zmv ?_; refine Zv Zav ?_) | (refine Zcd (fun hc => ?_) (fun hc => ?_) <;> (try (exfalso; omega))) | (with_reducible apply WP_exit) | (with_reducible apply WP_ret)) | (refine Zhn ?_) | (refine Zhx ?_) | (with_reducible apply QBlock_hit) | (with_reducible apply QLoop_exit))
    have : k = n := by omega
    subst this
    refine QBody_ret1 rfl (rfl : _ = svV _ _) ⟨_, ?_, _, rfl, s, rfl, hs, rfl⟩
    exact (by repeat (first | exact Wk.refl _ | apply Wk.keep1 | apply Wk.drop | apply Wk.sv | apply Wk.svD | apply Wk.appD))

theorem days_ret' (g : Bg) (hm : Mem g.b (Blk 94 (bogL g)) L) (r0 r1 r2 r3 r4 r5 last : Int) (h0 : 0 ≤ last) (h5 : last ≤ 5) (rs : List Int) (hrs : [r0, r1, r2, r3, r4, r5].take (last + 1).toNat = rs) :
    Tri Try.prog N w0 L 92 [.pointer (some ⟨g.b, 0, none⟩), .agg [.int .i64 r0, .int .i64 r1, .int .i64 r2, .int .i64 r3, .int .i64 r4, .int .i64 r5].toArray, .int .i64 last].toArray
      fun x L' => ∃ v, x = .returned v ∧ ∃ s, v = svV s rs.length ∧ svOk s 1 rs.length (rs.map (dayV g.h)) ∧ L' = svH 139 1 rs.length (rs.map (dayV g.h)) s L := by
  have hl : rs.length = (last + 1).toNat := by rw [← hrs]; simp; omega
  have := days_ret N w0 L g hm r0 r1 r2 r3 r4 r5 last (last + 1).toNat (by omega) (by omega)
  rw [hrs] at this
  rw [hl]
  exact this
theorem joined_ret (A : Option Addr) (c : Nat) (l : List Sp) (hl : l.length ≤ 1000000) (hA : SlAt N w0 A 2 (l.map spL)) :
    Ret Try.prog N w0 L 105 [.slice A l.length c].toArray (.agg [.int .i64 (jn l).1, .int .i64 (jn l).2].toArray) := by
  refine Ret.fgt ?_
  refine tri_of_WP Try.func105 rfl (n := 28) rfl (by simp) ?_
  repeat' (first | (refine Znh ?_) | (refine GiW ?_; first | (refine Zsq fun K hK => ?_) | (refine ZrN 0 fun _ => ?_; refine Zal 2 fun b2 => ?_) | (refine ZrN 1 fun _ => ?_; refine Zv Zmv ?_; refine Zv Zxlen ?_; refine Zv Zmi ?_) | (with_reducible apply WP_block)))
  refine WP_loop [3, 4, 7, 8, 9, 10, 11, 12, 13, 14, 15, 16, 17, 18, 19, 20, 21, 22, 23, 24, 25, 26] (fun k : Nat => [(7, .int .i64 k)]) (fun k => (b2, Blk 31 [.int .i64 (jn (l.take k)).1, .int .i64 (jn (l.take k)).2]) :: L) (fun k => k ≤ l.length) (fun k => l.length - k) 0 (.cons rfl .nil) (Wk.refl _) (Nat.zero_le _) ?_
  intro k j hk
  by_cases hlt : k < l.length
  · obtain ⟨b, off, rfl, hb, hc'⟩ := hA.row k hlt
    have hsn := jn_snoc l k hlt
    repeat' (first | (refine GiP ?_; first | (refine Znh ?_) | (with_reducible refine Znl ?_)) | (refine GiW ?_; first | (refine Zsq fun K hK => ?_) | (refine ZrN 2 fun _ => ?_; refine Zv Zxlss ?_) | (refine ZrN 3 fun _ => ?_; refine Zv Zmi ?_; refine Zv Zia ?_; refine Zv Zla ?_; refine Zal 4 fun b4 => ?_; refine Zv Zai ?_; refine Zst ?_) | (refine ZrN 4 fun _ => ?_; refine Zv Zmi ?_; refine Zv Zxeql ?_) | (refine ZrN 5 fun _ => ?_; refine Zv Zla ?_; refine Zst ?_) | (refine ZrN 6 fun _ => ?_; refine Zv Zf0 ?_; refine Zv Zld ?_; refine Zv Zf0 ?_; refine Zv Zld ?_; refine Zv Zxmin ?_; refine Zv Zfa ?_; refine Zv Zld ?_; refine Zv Zfa ?_; refine Zv Zld ?_; refine Zv Zxmax ?_; refine Zv Zxbu ?_; refine Zst ?_) | (refine ZrN 7 fun _ => ?_; refine Zv Zxadd ?_; refine Zv Zmi ?_) | (refine Zcd (fun hc => ?_) (fun hc => ?_) <;> (try (exfalso; omega))) | (with_reducible apply WP_skip) | (with_reducible apply WP_block)) | (refine Zhn ?_) | (with_reducible apply QBlock_normal))
    · have hk0 : k = 0 := by omega
      subst hk0
      simp only [if_true] at hsn
      refine QLoop_normal 1 (.cons rfl .nil) (by repeat (first | exact Off.frame rfl | exact Off.refl _ _ | refine Off.frameT rfl rfl ?_ | refine Off.upd rfl ?_ | refine Off.updO rfl ?_)) ?_ (by omega) (by omega)
      rw [hsn]; simp only [Int.min_self, Int.max_self]
      exact (by repeat (first | exact Wk.refl _ | apply Wk.keep1 | apply Wk.drop | apply Wk.sv | apply Wk.svD | apply Wk.appD))
    · rw [if_neg (by omega)] at hsn
      refine QLoop_normal (k + 1) (.cons rfl .nil) (by repeat (first | exact Off.frame rfl | exact Off.refl _ _ | refine Off.frameT rfl rfl ?_ | refine Off.upd rfl ?_ | refine Off.updO rfl ?_)) ?_ (by omega) (by omega)
      rw [hsn]
      exact (by repeat (first | exact Wk.refl _ | apply Wk.keep1 | apply Wk.drop | apply Wk.sv | apply Wk.svD | apply Wk.appD))
  · repeat' (first | (refine Znh ?_) | (refine GiW ?_; first | (refine Zsq fun K hK => ?_) | (refine ZrN 2 fun _ => ?_; refine Zv Zxlss ?_) | (refine ZrN 8 fun _ => ?_; refine Zv Zla ?_; refine Zst ?_) | (refine Zcd (fun hc => ?_) (fun hc => ?_) <;> (try (exfalso; omega))) | (with_reducible apply WP_exit) | (with_reducible apply WP_ret)) | (refine Zhn ?_) | (refine Zhx ?_) | (with_reducible apply QBlock_hit) | (with_reducible apply QLoop_exit))
    have : k = l.length := by omega
    subst this
    rw [List.take_length]
    exact QBody_res rfl (.cellN rfl .here (.here (.cons (.cons .nil))) .nil) rfl ⟨rfl, (by repeat (first | exact Wk.refl _ | apply Wk.keep1 | apply Wk.drop | apply Wk.sv | apply Wk.svD | apply Wk.appD))⟩
end
end Go.Proofs.Ytlpahkmfjpjheaa
end

section
namespace Go.Proofs.Ytlpahkmfjpjheaa
open Go.RowKit
theorem Ret.perm {P : Program} {N : Nat} {w0 : World} {L L2 : Hp} {f : FuncId} {args : Array Value} {v : Value} (h : Ret P N w0 L2 f args v) (hp : L2.Perm L) : Ret P N w0 L f args v := by
  intro w hI
  refine (h w (hI.perm hp.symm)).mono ?_
  rintro x w' ⟨L', hI', rfl, rfl⟩
  exact ⟨L, hI'.perm hp, rfl, rfl⟩
/-- Heaps that are valid. -/
structure VH (h : Hv) : Prop where
  nh : 1 ≤ h.heaps.length ∧ h.heaps.length ≤ 3
  nr : 1 ≤ h.rains.length ∧ h.rains.length ≤ 6
  lim : 0 ≤ h.limit ∧ h.limit ≤ 100
  nl : h.looks.length ≤ 5
  tf : ∀ t ∈ h.heaps, (0 ≤ t.place ∧ t.place ≤ 2) ∧ 0 ≤ t.lo ∧ t.lo ≤ t.hi ∧ t.hi ≤ 100 ∧ t.hi - t.lo ≤ 5
  rn : ∀ r ∈ h.rains, 0 ≤ r.1 ∧ r.1 ≤ r.2 ∧ r.2 ≤ 10 ∧ r.2 - r.1 ≤ 3
  dr : (0 ≤ h.d0 ∧ h.d0 ≤ 20) ∧ (h.d0 ≤ h.d1 ∧ h.d1 ≤ 20) ∧ (h.d1 ≤ h.d2 ∧ h.d2 ≤ 20)
  lk : ∀ l ∈ h.looks, (0 ≤ l.heap ∧ l.heap < h.heaps.length) ∧ (0 ≤ l.day ∧ l.day < h.rains.length) ∧ 0 ≤ l.lo ∧ l.lo ≤ l.hi ∧ l.hi ≤ 100
theorem VH.dries {h : Hv} (v : VH h) : DriesOk h := by
  have := v.dr
  unfold DriesOk
  omega
/-- The first look of some that is not right: over (1), under (2); or none (0). -/
def verd (h : Hv) (r : List Int) (i : Int) (looks : Nat) (place n : Int) : List Lk → Nat → Nat
  | [], _ => 0
  | l :: ls, k =>
    if looks / 2 ^ k % 2 = 0 ∨ l.heap ≠ i then verd h r i looks place n ls (k + 1)
    else if l.hi < evening h place n (r.take (l.day + 1).toNat) then 1
    else if evening h place n (r.take (l.day + 1).toNat) < l.lo then 2
    else verd h r i looks place n ls (k + 1)
theorem verd_cons (h : Hv) (r : List Int) (i : Int) (looks : Nat) (place n : Int) (l : Lk) (ls : List Lk) (k : Nat) : verd h r i looks place n (l :: ls) k =
    if looks / 2 ^ k % 2 = 0 ∨ l.heap ≠ i then verd h r i looks place n ls (k + 1)
    else if l.hi < evening h place n (r.take (l.day + 1).toNat) then 1
    else if evening h place n (r.take (l.day + 1).toNat) < l.lo then 2
    else verd h r i looks place n ls (k + 1) := rfl
def outer (h : Hv) (r : List Int) (i : Int) (looks : Nat) (t : Tf) : Nat → Sp → Sp
  | 0, s => s
  | m + 1, s =>
    if verd h r i looks t.place (t.lo + m) h.looks 0 = 1 then outer h r i looks t m (s.1, t.lo + m - 1)
    else if verd h r i looks t.place (t.lo + m) h.looks 0 = 2 then s
    else outer h r i looks t m (t.lo + m, s.2)
def firstT (h : Hv) (r : List Int) (i : Int) (looks : Nat) (t : Tf) : Sp :=
  let s := outer h r i looks t (t.hi - t.lo + 1).toNat (t.hi + 1, t.hi)
  if s.1 > s.2 then (1, 0) else s
def firstS (h : Hv) (r : List Int) (i : Nat) (looks : Nat) : Sp := match h.heaps[i]? with
  | some t => firstT h r i looks t
  | none => (1, 0)
def qks : List IntKind := [.i64, .i64, .i64, .i64, .i64, .i64, .i64, .u64]
def keptF (h : Hv) : List Int → Value
  | [r0, r1, r2, r3, r4, r5, i, k] => .agg [.int .i64 (firstS h [r0, r1, r2, r3, r4, r5] i.toNat k.toNat).1, .int .i64 (firstS h [r0, r1, r2, r3, r4, r5] i.toNat k.toNat).2].toArray
  | _ => undef
def Bk (g : Bg) : Hp := [(g.b, Blk 94 (bogL g)), (g.m, MapOf qks (keptF g.h))]
theorem inKs_q {a0 a1 a2 a3 a4 a5 i k : Int} (h : (0 ≤ a0 ∧ a0 ≤ 100) ∧ (0 ≤ a1 ∧ a1 ≤ 100) ∧ (0 ≤ a2 ∧ a2 ≤ 100) ∧ (0 ≤ a3 ∧ a3 ≤ 100) ∧ (0 ≤ a4 ∧ a4 ≤ 100) ∧ (0 ≤ a5 ∧ a5 ≤ 100)) (hi : 0 ≤ i ∧ i ≤ 100) (hk : 0 ≤ k ∧ k ≤ 100) : inKs qks [a0, a1, a2, a3, a4, a5, i, k] := by
  have w1 : ∀ n : Int, 0 ≤ n → n ≤ 100 → (Lit.int .i64 n).wf = true := by intro n h1 h2; simp [Lit.wf, IntKind.min, IntKind.max, IntKind.bits, IntKind.signed]; omega
  have w2 : ∀ n : Int, 0 ≤ n → n ≤ 100 → (Lit.int .u64 n).wf = true := by intro n h1 h2; simp [Lit.wf, IntKind.min, IntKind.max, IntKind.bits, IntKind.signed]; omega
  refine ⟨rfl, ?_⟩
  intro p hp
  simp only [qks, List.zip_cons_cons, List.zip_nil_right, List.mem_cons, List.not_mem_nil, or_false] at hp
  rcases hp with rfl | rfl | rfl | rfl | rfl | rfl | rfl | rfl
  all_goals first | exact w1 _ (by omega) (by omega) | exact w2 _ (by omega) (by omega)
theorem SlAt.mk1 {N : Nat} {w0 : World} {A : Option Addr} {α : Type} (f : α → Value) (l : List α) (h : ∀ k (hk : k < l.length), ∃ b, A = some ⟨b, 0, none⟩ ∧ b < N ∧ w0.cell? ⟨b, k, none⟩ = some (f l[k])) : SlAt N w0 A 1 (l.map fun x => [f x]) := by
  intro k hk
  have hk2 : k < l.length := by simpa using hk
  obtain ⟨b, h1, h2, h3⟩ := h k hk2
  refine ⟨b, 0, h1, h2, ?_⟩
  intro j v hj
  simp only [List.getElem_map] at hj
  match j, hj with
  | 0, hj => simp only [List.getElem?_cons_zero, Option.some.injEq] at hj; subst hj; simpa using h3
  | j + 1, hj => simp at hj
attribute [local irreducible] AnyO AnyB QAny QB EWalk AWalk Ev WP OPS QThen QBlock QScope QLoop QBody Val New Turn Tri Enters PostA Blk Ro
section
variable (N : Nat) (w0 : World)
theorem evening_sv (h : Hv) (hd : DriesOk h) (place lo hi wet : Int) (rs : List Int) (hp : 0 ≤ place ∧ place ≤ 2) (hw : -1000 ≤ wet ∧ wet ≤ 1000) (hr : ∀ r ∈ rs, 0 ≤ r ∧ r ≤ 100) (hl : rs.length ≤ 100)
    {s : Option (Nat × Nat)} (hs : svOk s 1 rs.length (rs.map (dayV h))) {L1 L : Hp} (hk : Wk L1 (svH 139 1 rs.length (rs.map (dayV h)) s L)) :
    Ret Try.prog N w0 L1 89 [.agg [.int .i64 place, .int .i64 lo, .int .i64 hi].toArray, .int .i64 wet, svV s rs.length].toArray (.int .i64 (evening h place wet rs)) := by
  obtain ⟨A, c, hv, hA⟩ := sv_slice hs
  rw [hv]
  refine Ret.re fun w hI => evening_ret _ _ _ h hd place lo hi wet rs A c hp hw hr hl ?_
  exact SlAt.mk1 (dayV h) rs fun k hk' => hA (hI.wk hk) k (dayV h rs[k]) (by simp [hk'])
set_option maxHeartbeats 4000000 in
theorem first_ret (L0 : Hp) (g : Bg) (hv : VH g.h) (hA : HeapAt N w0 g) (r0 r1 r2 r3 r4 r5 : Int) (hr : (0 ≤ r0 ∧ r0 ≤ 100) ∧ (0 ≤ r1 ∧ r1 ≤ 100) ∧ (0 ≤ r2 ∧ r2 ≤ 100) ∧ (0 ≤ r3 ∧ r3 ≤ 100) ∧ (0 ≤ r4 ∧ r4 ≤ 100) ∧ (0 ≤ r5 ∧ r5 ≤ 100)) (i looks : Nat) (hi : i < g.h.heaps.length) (hlk : looks ≤ 31) :
    Ret Try.prog N w0 (Bk g ++ L0) 91 [.pointer (some ⟨g.b, 0, none⟩), .agg [.int .i64 r0, .int .i64 r1, .int .i64 r2, .int .i64 r3, .int .i64 r4, .int .i64 r5, .int .i64 i, .int .u64 looks].toArray].toArray
      (.agg [.int .i64 (firstS g.h [r0, r1, r2, r3, r4, r5] i looks).1, .int .i64 (firstS g.h [r0, r1, r2, r3, r4, r5] i looks).2].toArray) := by
  have hnh := hv.nh
  have hin : inKs qks [r0, r1, r2, r3, r4, r5, (i : Int), (looks : Int)] := inKs_q hr (by omega) (by omega)
  refine Ret.perm ?_ (List.Perm.swap (g.b, Blk 94 (bogL g)) (g.m, MapOf qks (keptF g.h)) L0)
  refine Ret.fgt ?_
  refine Tri.opn fun o ho => ?_
  obtain ⟨es, clock, rfl, hg⟩ := ho
  obtain ⟨ok, hlook⟩ := lookup_dec Try.prog (t := 92) (m := g.m) (clock := clock) hin hg
  obtain ⟨b1, o1, hA1, hb1, hc1⟩ := hA.heaps.row i hi
  obtain ⟨t, ht⟩ : ∃ t, g.h.heaps[i] = t := ⟨_, rfl⟩
  have hF : keptF g.h [r0, r1, r2, r3, r4, r5, (i : Int), (looks : Int)] = .agg [.int .i64 (firstT g.h [r0, r1, r2, r3, r4, r5] i looks t).1, .int .i64 (firstT g.h [r0, r1, r2, r3, r4, r5] i looks t).2].toArray := by
    simp only [keptF, firstS, Int.toNat_natCast]
    rw [List.getElem?_eq_getElem hi, ht]
  have hS : firstS g.h [r0, r1, r2, r3, r4, r5] i looks = firstT g.h [r0, r1, r2, r3, r4, r5] i looks t := by
    simp only [firstS]; rw [List.getElem?_eq_getElem hi, ht]
  rw [hF] at hlook
  rw [hS]
  rw [ht] at hc1
  unfold tfL at hc1
  have htv := hv.tf t (by rw [← ht]; exact List.getElem_mem hi)
  refine tri_of_WP Try.func91 rfl (n := 116) rfl (by simp) ?_
  have hval : ∀ s : Sp, outer g.h [r0, r1, r2, r3, r4, r5] i looks t (t.hi - t.lo + 1).toNat (t.hi + 1, t.hi) = s → (s.2 < s.1 → keptF g.h [r0, r1, r2, r3, r4, r5, (i : Int), (looks : Int)] = .agg [.int .i64 1, .int .i64 0].toArray) ∧ (¬ s.2 < s.1 → keptF g.h [r0, r1, r2, r3, r4, r5, (i : Int), (looks : Int)] = .agg [.int .i64 s.1, .int .i64 s.2].toArray) := by
    intro s hs
    rw [hF]
    unfold firstT
    rw [hs]
    constructor
    · intro h1; simp [h1]
    · intro h1; simp [h1]
  have hres : ∀ x y : Int, keptF g.h [r0, r1, r2, r3, r4, r5, (i : Int), (looks : Int)] = .agg [.int .i64 x, .int .i64 y].toArray → (.agg [.int .i64 x, .int .i64 y].toArray : Value) = .agg [.int .i64 (firstT g.h [r0, r1, r2, r3, r4, r5] i looks t).1, .int .i64 (firstT g.h [r0, r1, r2, r3, r4, r5] i looks t).2].toArray := by
    intro x y h1; rw [← h1, hF]
  cases ok
  · simp only [Bool.false_eq_true, if_false] at hlook
    repeat' (first | (refine GiP ?_; first | (refine Znh ?_) | (with_reducible refine Znl ?_) | (refine Zatn ?_; refine Zst ?_) | (refine Zatd 6 ?_; refine Zv Zab ?_)) | (refine GiW ?_; first | (refine Zsq fun K hK => ?_) | (refine ZrN 0 fun _ => ?_; refine Zal 3 fun b3 => ?_; refine Zal 4 fun b4 => ?_) | (refine ZrN 2 fun _ => ?_; refine Zv Zmb ?_) | (refine ZrN 5 fun _ => ?_; refine Zv Zfa ?_; refine Zv Zfa ?_; refine Zv Zld ?_; refine Zv Zxadd ?_; refine Zv Zfa ?_; refine Zv Zfa ?_; refine Zv Zld ?_; refine Zv Zxbu ?_; refine Zal 8 fun b8 => ?_; refine Zst ?_) | (refine ZrN 6 fun _ => ?_; refine Zv Zfa ?_; refine Zv Zfa ?_; refine Zv Zld ?_; refine Zv Zai ?_) | (refine WP_cond_false rfl ?_) | (with_reducible apply WP_skip) | (with_reducible apply WP_label) | (with_reducible apply WP_block) | (with_reducible apply WP_scope) | (refine WP_drawnT (id := 1) [8] [0, 1, 2, 3, 4, 5, 6, 7, 8] [9] (k := 2) prog_mixed (by kernel_rfl) (by kernel_rfl) rfl ?_; refine Zew rfl Zmv ?_; (first | (refine Zew rfl Zxnp ?_) | (refine Zew rfl Zxnf ?_)); refine Zew rfl Zfa ?_; refine Zew rfl Zld ?_; refine Zew rfl Zla ?_; refine Zew rfl (hlook rfl rfl (by repeat (first | exact Mem.here | assumption | apply Mem.there | apply Mem.sv | apply Mem.app))) ?_; refine Zew rfl Zmv ?_; refine Zew rfl Zxex ?_; refine Zep rfl (fun _ => Zxex) ?_) | (refine WP_drawn (id := 4) [0, 1, 2, 3, 4, 5, 6, 7, 8] [9] (k := 1) prog_mixed (by kernel_rfl) rfl ?_; refine Zew rfl Zmv ?_; (first | (refine Zew rfl Zxnp ?_) | (refine Zew rfl Zxnf ?_)); refine Zew rfl Zf0 ?_; refine Zew rfl Zf0 ?_; refine Zew rfl Zld ?_; refine Zew rfl Zfa ?_; refine Zew rfl Zld ?_; refine Zew rfl Zia ?_; refine Zew rfl Zla ?_)) | (with_reducible apply EWalk_nil) | (refine GiO ?_; first | (refine AnyO_done (by kernel_rfl) ?_; (try with_reducible apply noP_normal); try with_reducible exact key.out) | (refine AnyO_1 10 (by decide +kernel) rfl ?_) | (refine AnyO_1 11 (by decide +kernel) rfl ?_)) | (refine Zhn ?_) | (refine AWalk_1S (d := 5) rfl rfl rfl rfl blk_is New_alloc (fun b5 => ?_); refine ZisO ?_; apply shr; intro key) | (with_reducible apply QAny_normal) | (refine AWalk_1S (d := 7) rfl rfl rfl rfl blk_is New_alloc (fun b7 => ?_); refine ZisO ?_; apply shr; intro key))
    refine WP_loop [9, 10, 11, 12, 13, 45, 46, 47, 48, 49, 50, 51, 52, 53, 54, 55, 56, 57, 58, 59, 60, 61, 62, 63, 64, 65, 66, 67, 68, 69, 70, 71, 72, 73, 74, 75, 76, 77, 78, 79, 80, 81, 82, 83, 84, 85, 86, 87, 88, 89, 90, 91, 92, 93, 94, 95, 96, 97, 98, 99, 100, 101, 102] (fun q : Nat × Sp => [(9, .int .i64 (t.lo + q.1 - 1))]) (fun q => (b8, Blk 31 [.int .i64 q.2.1, .int .i64 q.2.2]) :: (b7, Blk 115 [.int .i64 t.place, .int .i64 t.lo, .int .i64 t.hi]) :: (b4, Blk 31 [.int .i64 0, .int .i64 0]) :: (b3, Blk 118 [.int .i64 r0, .int .i64 r1, .int .i64 r2, .int .i64 r3, .int .i64 r4, .int .i64 r5, .int .i64 i, .int .u64 looks]) :: (g.m, Is (.map es clock)) :: (g.b, Blk 94 (bogL g)) :: L0)
      (fun q => q.1 ≤ (t.hi - t.lo + 1).toNat ∧ outer g.h [r0, r1, r2, r3, r4, r5] i looks t (t.hi - t.lo + 1).toNat (t.hi + 1, t.hi) = outer g.h [r0, r1, r2, r3, r4, r5] i looks t q.1 q.2) (fun q => q.1) ((t.hi - t.lo + 1).toNat, (t.hi + 1, t.hi)) (.cons ?_ .nil) ?_ ⟨Nat.le_refl _, rfl⟩ ?_
    · show Value.int .i64 t.hi = _
      congr 1; omega
    · exact (by repeat (first | exact Wk.refl _ | apply Wk.keep1 | apply Wk.drop | apply Wk.sv | apply Wk.svD | apply Wk.appD))
    rintro ⟨m, s⟩ j ⟨hm, hout⟩
    dsimp only at hm hout ⊢
    cases m with
    | zero =>
      have hv1 := hval s hout
      repeat' (first | (refine GiP ?_; first | (refine Znh ?_) | (with_reducible refine Znl ?_) | (refine Zatn ?_; refine OPS_turnN (Turn_mapUpdate rfl rfl hin rfl (by first | exact (hv1.1 (by assumption)).symm | exact (hv1.2 (by assumption)).symm) (by repeat (first | exact Up.here | apply Up.there | apply Up.sv)) hg) rfl rfl ?_)) | (refine GiW ?_; first | (refine Zsq fun K hK => ?_) | (refine ZrN 7 fun _ => ?_; refine Zv Zmi ?_; refine Zv Zfa ?_; refine Zv Zf0 ?_; refine Zv Zld ?_; refine Zv Zxgeq ?_) | (refine ZrN 20 fun _ => ?_; refine Zv Zf0 ?_; refine Zv Zld ?_; refine Zv Zfa ?_; refine Zv Zld ?_; refine Zv Zxgtr ?_) | (refine ZrN 21 fun _ => ?_; refine Zv Zxbu ?_; refine Zst ?_) | (refine ZrN 23 fun _ => ?_; refine Zv Zla ?_; refine Zst ?_) | (refine Zcd (fun hc => ?_) (fun hc => ?_) <;> (try (exfalso; omega))) | (with_reducible apply WP_skip) | (with_reducible apply WP_exit) | (with_reducible apply WP_ret) | (refine WP_drawn (id := 22) [0, 1, 2, 3, 4, 5] [] (k := 1) prog_mixed (by kernel_rfl) rfl ?_; refine Zew rfl Zmv ?_; (first | (refine Zew rfl Zxnp ?_) | (refine Zew rfl Zxnf ?_)); refine Zew rfl Zfa ?_; refine Zew rfl Zld ?_; refine Zew rfl Zla ?_; refine Zew rfl Zla ?_)) | (with_reducible apply EWalk_nil) | (refine GiO ?_; first | (refine AnyO_done (by kernel_rfl) ?_; (try with_reducible apply noP_normal); try with_reducible exact key.out) | (refine AnyO_1 6 (by decide +kernel) rfl ?_)) | (refine Zhn ?_) | (refine Zhx ?_) | (with_reducible apply QBlock_hit) | (with_reducible apply QLoop_exit) | (with_reducible apply QScope_ret) | (with_reducible apply QAny_normal) | (refine AWalk_0 ?_; refine ZisO ?_; apply shr; intro key))
      · exact QBody_res rfl (.cellN rfl (by repeat (first | exact Mem.here | assumption | apply Mem.there | apply Mem.sv | apply Mem.app)) (.here (.cons (.cons .nil))) .nil) (hres _ _ (hv1.1 (by assumption))) ⟨rfl, (by repeat (first | exact Wk.refl _ | apply Wk.keep1 | apply Wk.drop | apply Wk.sv | apply Wk.svD | apply Wk.appD))⟩
      · exact QBody_res rfl (.cellN rfl (by repeat (first | exact Mem.here | assumption | apply Mem.there | apply Mem.sv | apply Mem.app)) (.here (.cons (.cons .nil))) .nil) (hres _ _ (hv1.2 (by assumption))) ⟨rfl, (by repeat (first | exact Wk.refl _ | apply Wk.keep1 | apply Wk.drop | apply Wk.sv | apply Wk.svD | apply Wk.appD))⟩
    | succ m =>
      have e1 : t.lo + ((m + 1 : Nat) : Int) - 1 = t.lo + m := by omega
      rw [e1]
      repeat' (first | (refine Znh ?_) | (refine GiW ?_; first | (refine Zsq fun K hK => ?_) | (refine ZrN 7 fun _ => ?_; refine Zv Zmi ?_; refine Zv Zfa ?_; refine Zv Zf0 ?_; refine Zv Zld ?_; refine Zv Zxgeq ?_) | (refine ZrN 9 fun _ => ?_; refine Zv Zmv ?_; (first | (refine Zv Zxnp ?_) | (refine Zv Zxnf ?_)); refine Zv Zf0 ?_; refine Zv Zfa ?_; refine Zv Zld ?_; refine Zv Zxlen ?_; refine Zv Zmi ?_) | (refine Zcd (fun hc => ?_) (fun hc => ?_) <;> (try (exfalso; omega))) | (with_reducible apply WP_skip) | (with_reducible apply WP_block)) | (refine Zhn ?_))
      refine WP_loop [10, 11, 12, 13, 58, 59, 60, 61, 62, 63, 64, 65, 66, 67, 68, 69, 70, 71, 72, 73, 74, 75, 76, 77, 78, 79, 80, 81, 82, 83, 84, 85, 86, 87, 88, 89, 90, 91, 92, 93, 94, 95, 96, 97, 98, 99, 100] (fun k : Nat => [(58, .int .i64 k)]) (fun _ => (b8, Blk 31 [.int .i64 s.1, .int .i64 s.2]) :: (b7, Blk 115 [.int .i64 t.place, .int .i64 t.lo, .int .i64 t.hi]) :: (b4, Blk 31 [.int .i64 0, .int .i64 0]) :: (b3, Blk 118 [.int .i64 r0, .int .i64 r1, .int .i64 r2, .int .i64 r3, .int .i64 r4, .int .i64 r5, .int .i64 i, .int .u64 looks]) :: (g.m, Is (.map es clock)) :: (g.b, Blk 94 (bogL g)) :: L0)
        (fun k => k ≤ g.h.looks.length ∧ verd g.h [r0, r1, r2, r3, r4, r5] i looks t.place (t.lo + m) g.h.looks 0 = verd g.h [r0, r1, r2, r3, r4, r5] i looks t.place (t.lo + m) (g.h.looks.drop k) k) (fun k => g.h.looks.length - k) 0 (.cons rfl .nil) (by repeat (first | exact Wk.refl _ | apply Wk.keep1 | apply Wk.drop | apply Wk.sv | apply Wk.svD | apply Wk.appD)) ⟨Nat.zero_le _, rfl⟩ ?_
      rintro k j2 ⟨hk, hvd⟩
      have hnl := hv.nl
      by_cases hlt : k < g.h.looks.length
      · obtain ⟨b3', o3', hA3, hb3', hc3'⟩ := hA.looks.row k hlt
        obtain ⟨l, hl⟩ : ∃ l, g.h.looks[k] = l := ⟨_, rfl⟩
        rw [hl] at hc3'
        unfold lkL at hc3'
        have hlv := hv.lk l (by rw [← hl]; exact List.getElem_mem hlt)
        have hnr := hv.nr
        have hdrop : g.h.looks.drop k = l :: g.h.looks.drop (k + 1) := by rw [List.drop_eq_getElem_cons hlt, hl]
        rw [hdrop] at hvd
        have hand : looks / 2 ^ k &&& 1 = looks / 2 ^ k % 2 := Nat.and_one_is_mod _
        have hsmall : looks / 2 ^ k ≤ looks := Nat.div_le_self _ _
        by_cases hsel : looks / 2 ^ k % 2 = 0 ∨ l.heap ≠ i
        · have hvd' : verd g.h [r0, r1, r2, r3, r4, r5] i looks t.place (t.lo + m) g.h.looks 0 = verd g.h [r0, r1, r2, r3, r4, r5] i looks t.place (t.lo + m) (g.h.looks.drop (k + 1)) (k + 1) := by
            rw [hvd, verd_cons, if_pos hsel]
          repeat' (first | (refine GiP ?_; first | (refine Znh ?_) | (with_reducible refine Znl ?_) | (refine Zatd 75 ?_; (first | (refine Zv Zxpt ?_) | (refine Zv Zxpf ?_))) | (refine Zatd 70 ?_; refine Zv Zf0 ?_) | (refine Zatd 71 ?_; refine Zv Zld ?_) | (refine Zatd 72 ?_; refine Zv Zfa ?_) | (refine Zatd 73 ?_; refine Zv Zld ?_) | (refine Zatd 74 ?_; refine Zv Zxneq ?_) | (refine Zsk ?_) | (refine Zsp (fun hc => ?_) (fun hc => ?_) <;> (try (exfalso; omega)))) | (refine GiW ?_; first | (refine Zsq fun K hK => ?_) | (refine ZrN 10 fun _ => ?_; refine Zv Zxlss ?_) | (refine ZrN 11 fun _ => ?_; refine Zv Zmi ?_; refine Zv Zia ?_; refine Zv Zla ?_; refine Zal 11 fun b11 => ?_; refine Zv Zai ?_; refine Zst ?_) | (refine ZrG 12 ?_; refine Zv Zfa ?_; refine Zv Zld ?_; refine Zv Zmi ?_; refine Zv (Val_shr rfl rfl (by show _ ≤ 64; omega)) ?_; refine Zv (Val_and (b := 1) rfl rfl rfl (by show _ < 2 ^ 64; omega) (by decide)) ?_; refine Zv Zxeql ?_; refine Zv Zmb ?_) | (refine ZrN 18 fun _ => ?_; refine Zv Zxadd ?_; refine Zv Zmi ?_) | (refine WP_cond_true rfl ?_) | (refine Zcd (fun hc => ?_) (fun hc => ?_) <;> (try (exfalso; omega))) | (with_reducible apply WP_skip) | (with_reducible apply WP_block) | (with_reducible apply WP_exit)) | (refine Zhn ?_) | (refine Zhx ?_) | (with_reducible apply QBlock_hit))
          all_goals exact QLoop_normal (k + 1) (.cons rfl .nil) (by repeat (first | exact Off.frame rfl | exact Off.refl _ _ | refine Off.frameT rfl rfl ?_ | refine Off.upd rfl ?_ | refine Off.updO rfl ?_)) (by repeat (first | exact Wk.refl _ | apply Wk.keep1 | apply Wk.drop | apply Wk.sv | apply Wk.svD | apply Wk.appD)) ⟨by omega, hvd'⟩ (by omega)
        · rw [verd_cons, if_neg hsel] at hvd
          obtain ⟨rs, hrs⟩ : ∃ rs, [r0, r1, r2, r3, r4, r5].take (l.day + 1).toNat = rs := ⟨_, rfl⟩
          rw [hrs] at hvd
          have hrsl : rs.length ≤ 6 := by rw [← hrs]; simp; omega
          have hrsb : ∀ x ∈ rs, 0 ≤ x ∧ x ≤ 100 := by
            intro x hx
            rw [← hrs] at hx
            have := List.mem_of_mem_take hx
            simp only [List.mem_cons, List.not_mem_nil, or_false] at this
            omega
          have hh1 : ¬ looks / 2 ^ k % 2 = 0 := fun h => hsel (.inl h)
          have hh2 : l.heap = i := Classical.byContradiction fun h => hsel (.inr h)
          by_cases hov : l.hi < evening g.h t.place (t.lo + m) rs
          · rw [if_pos hov] at hvd
            have hnext : outer g.h [r0, r1, r2, r3, r4, r5] i looks t (m + 1) s = outer g.h [r0, r1, r2, r3, r4, r5] i looks t m (s.1, t.lo + m - 1) := by
              show (if _ then _ else _) = _
              rw [if_pos hvd]
            rw [hnext] at hout
            repeat' (first | (refine GiP ?_; first | (refine Znh ?_) | (with_reducible refine Znl ?_) | (refine Zatd 75 ?_; (first | (refine Zv Zxpt ?_) | (refine Zv Zxpf ?_))) | (refine Zatd 70 ?_; refine Zv Zf0 ?_) | (refine Zatd 71 ?_; refine Zv Zld ?_) | (refine Zatd 72 ?_; refine Zv Zfa ?_) | (refine Zatd 73 ?_; refine Zv Zld ?_) | (refine Zatd 74 ?_; refine Zv Zxneq ?_) | (refine Zsp (fun hc => ?_) (fun hc => ?_) <;> (try (exfalso; omega)))) | (refine GiW ?_; first | (refine Zsq fun K hK => ?_) | (refine ZrN 10 fun _ => ?_; refine Zv Zxlss ?_) | (refine ZrN 11 fun _ => ?_; refine Zv Zmi ?_; refine Zv Zia ?_; refine Zv Zla ?_; refine Zal 11 fun b11 => ?_; refine Zv Zai ?_; refine Zst ?_) | (refine ZrG 12 ?_; refine Zv Zfa ?_; refine Zv Zld ?_; refine Zv Zmi ?_; refine Zv (Val_shr rfl rfl (by show _ ≤ 64; omega)) ?_; refine Zv (Val_and (b := 1) rfl rfl rfl (by show _ < 2 ^ 64; omega) (by decide)) ?_; refine Zv Zxeql ?_; refine Zv Zmb ?_) | (refine ZrN 13 fun _ => ?_; refine Zv Zla ?_; refine Zv Val_makeFunc ?_; refine Zv Zav ?_) | (refine ZrN 14 fun _ => ?_; refine Zv Zmv ?_; refine Zv Zmi ?_; refine Zv Zmv ?_; refine Zv Zf0 ?_; refine Zv Zla ?_; refine Zv Zfa ?_; refine Zv Zld ?_; refine OPS_retKS (Enters_fn rfl) (days_ret' N w0 _ g (by repeat (first | exact Mem.here | assumption | apply Mem.there | apply Mem.sv | apply Mem.app)) r0 r1 r2 r3 r4 r5 l.day (by omega) (by omega) rs hrs) rfl rfl rfl (fun v85 L85 hK85 => ?_); obtain ⟨s85, rfl, hs85, rfl⟩ := hK85; refine OPS_retS (Enters_val (cf := [.agg [.int .i64 t.place, .int .i64 t.lo, .int .i64 t.hi].toArray]) (cc := []) rfl rfl) (evening_sv N w0 g.h hv.dries t.place t.lo t.hi (t.lo + m) rs htv.1 (by omega) hrsb (by omega) hs85 (by repeat (first | exact Wk.refl _ | apply Wk.keep1 | apply Wk.drop | apply Wk.sv | apply Wk.svD | apply Wk.appD))) rfl rfl rfl ?_; refine Zv Zai ?_) | (refine ZrN 15 fun _ => ?_; refine Zv Zmi ?_; refine Zv Zfa ?_; refine Zv Zfa ?_; refine Zv Zld ?_; refine Zv Zxgtr ?_) | (refine ZrN 16 fun _ => ?_; refine Zv Zmi ?_; refine Zv Zxsub ?_; refine Zv Zfa ?_; refine Zst ?_) | (refine ZrN 8 fun _ => ?_; refine Zv Zmi ?_; refine Zv Zxsub ?_; refine Zv Zai ?_) | (refine Zcd (fun hc => ?_) (fun hc => ?_) <;> (try (exfalso; omega))) | (with_reducible apply WP_skip) | (with_reducible apply WP_block) | (with_reducible apply WP_exit)) | (refine Zhn ?_) | (refine Zhx ?_) | (with_reducible apply QBlock_hit) | (refine Zqb ?_) | (with_reducible apply QLoop_exit))
            exact QLoop_normal (m, (s.1, t.lo + m - 1)) (.cons rfl .nil) (by repeat (first | exact Off.frame rfl | exact Off.refl _ _ | refine Off.frameT rfl rfl ?_ | refine Off.upd rfl ?_ | refine Off.updO rfl ?_)) (by repeat (first | exact Wk.refl _ | apply Wk.keep1 | apply Wk.drop | apply Wk.sv | apply Wk.svD | apply Wk.appD)) ⟨by dsimp only; omega, hout⟩ (Nat.lt_succ_self _)
          · rw [if_neg hov] at hvd
            by_cases hun : evening g.h t.place (t.lo + m) rs < l.lo
            · rw [if_pos hun] at hvd
              have hnext : outer g.h [r0, r1, r2, r3, r4, r5] i looks t (m + 1) s = s := by
                show (if _ then _ else _) = _
                rw [if_neg (by omega), if_pos hvd]
              rw [hnext] at hout
              have hv1 := hval s hout
              repeat' (first | (refine GiP ?_; first | (refine Znh ?_) | (with_reducible refine Znl ?_) | (refine Zatd 75 ?_; (first | (refine Zv Zxpt ?_) | (refine Zv Zxpf ?_))) | (refine Zatd 70 ?_; refine Zv Zf0 ?_) | (refine Zatd 71 ?_; refine Zv Zld ?_) | (refine Zatd 72 ?_; refine Zv Zfa ?_) | (refine Zatd 73 ?_; refine Zv Zld ?_) | (refine Zatd 74 ?_; refine Zv Zxneq ?_) | (refine Zsp (fun hc => ?_) (fun hc => ?_) <;> (try (exfalso; omega))) | (refine Zatn ?_; refine OPS_turnN (Turn_mapUpdate rfl rfl hin rfl (by first | exact (hv1.1 (by assumption)).symm | exact (hv1.2 (by assumption)).symm) (by repeat (first | exact Up.here | apply Up.there | apply Up.sv)) hg) rfl rfl ?_)) | (refine GiW ?_; first | (refine Zsq fun K hK => ?_) | (refine ZrN 10 fun _ => ?_; refine Zv Zxlss ?_) | (refine ZrN 11 fun _ => ?_; refine Zv Zmi ?_; refine Zv Zia ?_; refine Zv Zla ?_; refine Zal 11 fun b11 => ?_; refine Zv Zai ?_; refine Zst ?_) | (refine ZrG 12 ?_; refine Zv Zfa ?_; refine Zv Zld ?_; refine Zv Zmi ?_; refine Zv (Val_shr rfl rfl (by show _ ≤ 64; omega)) ?_; refine Zv (Val_and (b := 1) rfl rfl rfl (by show _ < 2 ^ 64; omega) (by decide)) ?_; refine Zv Zxeql ?_; refine Zv Zmb ?_) | (refine ZrN 13 fun _ => ?_; refine Zv Zla ?_; refine Zv Val_makeFunc ?_; refine Zv Zav ?_) | (refine ZrN 14 fun _ => ?_; refine Zv Zmv ?_; refine Zv Zmi ?_; refine Zv Zmv ?_; refine Zv Zf0 ?_; refine Zv Zla ?_; refine Zv Zfa ?_; refine Zv Zld ?_; refine OPS_retKS (Enters_fn rfl) (days_ret' N w0 _ g (by repeat (first | exact Mem.here | assumption | apply Mem.there | apply Mem.sv | apply Mem.app)) r0 r1 r2 r3 r4 r5 l.day (by omega) (by omega) rs hrs) rfl rfl rfl (fun v85 L85 hK85 => ?_); obtain ⟨s85, rfl, hs85, rfl⟩ := hK85; refine OPS_retS (Enters_val (cf := [.agg [.int .i64 t.place, .int .i64 t.lo, .int .i64 t.hi].toArray]) (cc := []) rfl rfl) (evening_sv N w0 g.h hv.dries t.place t.lo t.hi (t.lo + m) rs htv.1 (by omega) hrsb (by omega) hs85 (by repeat (first | exact Wk.refl _ | apply Wk.keep1 | apply Wk.drop | apply Wk.sv | apply Wk.svD | apply Wk.appD))) rfl rfl rfl ?_; refine Zv Zai ?_) | (refine ZrN 15 fun _ => ?_; refine Zv Zmi ?_; refine Zv Zfa ?_; refine Zv Zfa ?_; refine Zv Zld ?_; refine Zv Zxgtr ?_) | (refine ZrN 17 fun _ => ?_; refine Zv Zmi ?_; refine Zv Zfa ?_; refine Zv Zf0 ?_; refine Zv Zld ?_; refine Zv Zxlss ?_) | (refine ZrN 20 fun _ => ?_; refine Zv Zf0 ?_; refine Zv Zld ?_; refine Zv Zfa ?_; refine Zv Zld ?_; refine Zv Zxgtr ?_) | (refine ZrN 21 fun _ => ?_; refine Zv Zxbu ?_; refine Zst ?_) | (refine ZrN 23 fun _ => ?_; refine Zv Zla ?_; refine Zst ?_) | (refine Zcd (fun hc => ?_) (fun hc => ?_) <;> (try (exfalso; omega))) | (with_reducible apply WP_skip) | (with_reducible apply WP_block) | (with_reducible apply WP_exit) | (with_reducible apply WP_ret) | (refine WP_drawn (id := 22) [0, 1, 2, 3, 4, 5] [] (k := 1) prog_mixed (by kernel_rfl) rfl ?_; refine Zew rfl Zmv ?_; (first | (refine Zew rfl Zxnp ?_) | (refine Zew rfl Zxnf ?_)); refine Zew rfl Zfa ?_; refine Zew rfl Zld ?_; refine Zew rfl Zla ?_; refine Zew rfl Zla ?_)) | (with_reducible apply EWalk_nil) | (refine GiO ?_; first | (refine AnyO_done (by kernel_rfl) ?_; (try with_reducible apply noP_normal); try with_reducible exact key.out) | (refine AnyO_1 6 (by decide +kernel) rfl ?_)) | (refine Zhn ?_) | (refine Zhx ?_) | (with_reducible apply QBlock_hit) | (refine Zqb ?_) | (with_reducible apply QLoop_exit) | (with_reducible apply QScope_ret) | (with_reducible apply QAny_normal) | (refine AWalk_0 ?_; refine ZisO ?_; apply shr; intro key))
              · exact QBody_res rfl (.cellN rfl (by repeat (first | exact Mem.here | assumption | apply Mem.there | apply Mem.sv | apply Mem.app)) (.here (.cons (.cons .nil))) .nil) (hres _ _ (hv1.1 (by assumption))) ⟨rfl, (by repeat (first | exact Wk.refl _ | apply Wk.keep1 | apply Wk.drop | apply Wk.sv | apply Wk.svD | apply Wk.appD))⟩
              · exact QBody_res rfl (.cellN rfl (by repeat (first | exact Mem.here | assumption | apply Mem.there | apply Mem.sv | apply Mem.app)) (.here (.cons (.cons .nil))) .nil) (hres _ _ (hv1.2 (by assumption))) ⟨rfl, (by repeat (first | exact Wk.refl _ | apply Wk.keep1 | apply Wk.drop | apply Wk.sv | apply Wk.svD | apply Wk.appD))⟩
            · rw [if_neg hun] at hvd
              repeat' (first | (refine GiP ?_; first | (refine Znh ?_) | (with_reducible refine Znl ?_) | (refine Zatd 75 ?_; (first | (refine Zv Zxpt ?_) | (refine Zv Zxpf ?_))) | (refine Zatd 70 ?_; refine Zv Zf0 ?_) | (refine Zatd 71 ?_; refine Zv Zld ?_) | (refine Zatd 72 ?_; refine Zv Zfa ?_) | (refine Zatd 73 ?_; refine Zv Zld ?_) | (refine Zatd 74 ?_; refine Zv Zxneq ?_) | (refine Zsp (fun hc => ?_) (fun hc => ?_) <;> (try (exfalso; omega)))) | (refine GiW ?_; first | (refine Zsq fun K hK => ?_) | (refine ZrN 10 fun _ => ?_; refine Zv Zxlss ?_) | (refine ZrN 11 fun _ => ?_; refine Zv Zmi ?_; refine Zv Zia ?_; refine Zv Zla ?_; refine Zal 11 fun b11 => ?_; refine Zv Zai ?_; refine Zst ?_) | (refine ZrG 12 ?_; refine Zv Zfa ?_; refine Zv Zld ?_; refine Zv Zmi ?_; refine Zv (Val_shr rfl rfl (by show _ ≤ 64; omega)) ?_; refine Zv (Val_and (b := 1) rfl rfl rfl (by show _ < 2 ^ 64; omega) (by decide)) ?_; refine Zv Zxeql ?_; refine Zv Zmb ?_) | (refine ZrN 13 fun _ => ?_; refine Zv Zla ?_; refine Zv Val_makeFunc ?_; refine Zv Zav ?_) | (refine ZrN 14 fun _ => ?_; refine Zv Zmv ?_; refine Zv Zmi ?_; refine Zv Zmv ?_; refine Zv Zf0 ?_; refine Zv Zla ?_; refine Zv Zfa ?_; refine Zv Zld ?_; refine OPS_retKS (Enters_fn rfl) (days_ret' N w0 _ g (by repeat (first | exact Mem.here | assumption | apply Mem.there | apply Mem.sv | apply Mem.app)) r0 r1 r2 r3 r4 r5 l.day (by omega) (by omega) rs hrs) rfl rfl rfl (fun v85 L85 hK85 => ?_); obtain ⟨s85, rfl, hs85, rfl⟩ := hK85; refine OPS_retS (Enters_val (cf := [.agg [.int .i64 t.place, .int .i64 t.lo, .int .i64 t.hi].toArray]) (cc := []) rfl rfl) (evening_sv N w0 g.h hv.dries t.place t.lo t.hi (t.lo + m) rs htv.1 (by omega) hrsb (by omega) hs85 (by repeat (first | exact Wk.refl _ | apply Wk.keep1 | apply Wk.drop | apply Wk.sv | apply Wk.svD | apply Wk.appD))) rfl rfl rfl ?_; refine Zv Zai ?_) | (refine ZrN 15 fun _ => ?_; refine Zv Zmi ?_; refine Zv Zfa ?_; refine Zv Zfa ?_; refine Zv Zld ?_; refine Zv Zxgtr ?_) | (refine ZrN 17 fun _ => ?_; refine Zv Zmi ?_; refine Zv Zfa ?_; refine Zv Zf0 ?_; refine Zv Zld ?_; refine Zv Zxlss ?_) | (refine ZrN 18 fun _ => ?_; refine Zv Zxadd ?_; refine Zv Zmi ?_) | (refine Zcd (fun hc => ?_) (fun hc => ?_) <;> (try (exfalso; omega))) | (with_reducible apply WP_skip) | (with_reducible apply WP_block)) | (refine Zhn ?_) | (with_reducible apply QBlock_normal))
              exact QLoop_normal (k + 1) (.cons rfl .nil) (by repeat (first | exact Off.frame rfl | exact Off.refl _ _ | refine Off.frameT rfl rfl ?_ | refine Off.upd rfl ?_ | refine Off.updO rfl ?_)) (by repeat (first | exact Wk.refl _ | apply Wk.keep1 | apply Wk.drop | apply Wk.sv | apply Wk.svD | apply Wk.appD)) ⟨by omega, hvd⟩ (by omega)
      · have hkl : k = g.h.looks.length := by omega
        rw [hkl, List.drop_length] at hvd
        have hnext : outer g.h [r0, r1, r2, r3, r4, r5] i looks t (m + 1) s = outer g.h [r0, r1, r2, r3, r4, r5] i looks t m (t.lo + m, s.2) := by
          show (if _ then _ else _) = _
          rw [hvd]; rfl
        rw [hnext] at hout
        repeat' (first | (refine GiP ?_; first | (refine Znh ?_) | (with_reducible refine Znl ?_)) | (refine GiW ?_; first | (refine Zsq fun K hK => ?_) | (refine ZrN 10 fun _ => ?_; refine Zv Zxlss ?_) | (refine ZrN 19 fun _ => ?_; refine Zv Zmi ?_; refine Zv Zf0 ?_; refine Zst ?_) | (refine ZrN 8 fun _ => ?_; refine Zv Zmi ?_; refine Zv Zxsub ?_; refine Zv Zai ?_) | (refine Zcd (fun hc => ?_) (fun hc => ?_) <;> (try (exfalso; omega))) | (with_reducible apply WP_exit)) | (refine Zhn ?_) | (with_reducible apply QBlock_normal) | (refine Zhx ?_) | (with_reducible apply QBlock_hit) | (with_reducible apply QLoop_exit))
        exact QLoop_normal (m, (t.lo + m, s.2)) (.cons rfl .nil) (by repeat (first | exact Off.frame rfl | exact Off.refl _ _ | refine Off.frameT rfl rfl ?_ | refine Off.upd rfl ?_ | refine Off.updO rfl ?_)) (by repeat (first | exact Wk.refl _ | apply Wk.keep1 | apply Wk.drop | apply Wk.sv | apply Wk.svD | apply Wk.appD)) ⟨by dsimp only; omega, hout⟩ (Nat.lt_succ_self _)
  · simp only [if_true] at hlook
    repeat' (first | (refine GiP ?_; first | (refine Znh ?_) | (with_reducible refine Znl ?_) | (refine Zatn ?_; refine Zst ?_) | (refine Zatd 6 ?_; refine Zv Zab ?_)) | (refine GiW ?_; first | (refine Zsq fun K hK => ?_) | (refine ZrN 0 fun _ => ?_; refine Zal 3 fun b3 => ?_; refine Zal 4 fun b4 => ?_) | (refine ZrN 2 fun _ => ?_; refine Zv Zmb ?_) | (refine ZrN 3 fun _ => ?_; refine Zv Zla ?_; refine Zst ?_) | (refine WP_cond_true rfl ?_) | (with_reducible apply WP_scope) | (with_reducible apply WP_ret) | (refine WP_drawnT (id := 1) [8] [0, 1, 2, 3, 4, 5, 6, 7, 8] [9] (k := 2) prog_mixed (by kernel_rfl) (by kernel_rfl) rfl ?_; refine Zew rfl Zmv ?_; (first | (refine Zew rfl Zxnp ?_) | (refine Zew rfl Zxnf ?_)); refine Zew rfl Zfa ?_; refine Zew rfl Zld ?_; refine Zew rfl Zla ?_; refine Zew rfl (hlook rfl rfl (by repeat (first | exact Mem.here | assumption | apply Mem.there | apply Mem.sv | apply Mem.app))) ?_; refine Zew rfl Zmv ?_; refine Zew rfl Zxex ?_; refine Zep rfl (fun _ => Zxex) ?_)) | (with_reducible apply EWalk_nil) | (refine GiO ?_; first | (refine AnyO_done (by kernel_rfl) ?_; (try with_reducible apply noP_normal); try with_reducible exact key.out) | (refine AnyO_1 10 (by decide +kernel) rfl ?_) | (refine AnyO_1 11 (by decide +kernel) rfl ?_)) | (refine Zhn ?_) | (refine Zhr ?_) | (with_reducible apply QScope_ret) | (refine AWalk_1S (d := 5) rfl rfl rfl rfl blk_is New_alloc (fun b5 => ?_); refine ZisO ?_; apply shr; intro key) | (with_reducible apply QAny_normal))
    refine QBody_res rfl (.cellN rfl (by repeat (first | exact Mem.here | assumption | apply Mem.there | apply Mem.sv | apply Mem.app)) (.here (.cons (.cons .nil))) .nil) rfl ⟨rfl, ?_⟩
    exact .drop (.drop (.drop (.keep (fun o ho => ⟨es, clock, ho, hg⟩) (.refl _))))
end
end Go.Proofs.Ytlpahkmfjpjheaa
end

section
namespace Go.Proofs.Ytlpahkmfjpjheaa
open Go.RowKit
def tfB (t : Tf) : Bool := within t.place 0 2 && isSpanB (t.lo, t.hi) 100 5
def lkB (h : Hv) (l : Lk) : Bool := within l.heap 0 (h.heaps.length - 1) && within l.day 0 (h.rains.length - 1) && isSpanB (l.lo, l.hi) 100 100
def numB (h : Hv) : Bool := within h.heaps.length 1 3 && within h.rains.length 1 6 && within h.limit 0 100 && decide (h.looks.length ≤ 5)
def drB (h : Hv) : Bool := within h.d0 0 20 && within h.d1 h.d0 20 && within h.d2 h.d1 20
def vB (h : Hv) : Bool := numB h && h.heaps.all tfB && h.rains.all (fun s => isSpanB s 10 3) && drB h && h.looks.all (lkB h)
theorem vB_num {h : Hv} (h1 : numB h = false) : vB h = false := by simp [vB, h1]
theorem vB_tf {h : Hv} {t : Tf} (hm : t ∈ h.heaps) (h1 : tfB t = false) : vB h = false := by
  have : h.heaps.all tfB = false := by rw [List.all_eq_false]; exact ⟨t, hm, by simp [h1]⟩
  simp [vB, this]
theorem vB_rn {h : Hv} {s : Sp} (hm : s ∈ h.rains) (h1 : isSpanB s 10 3 = false) : vB h = false := by
  have : h.rains.all (fun s => isSpanB s 10 3) = false := by rw [List.all_eq_false]; exact ⟨s, hm, by simp [h1]⟩
  simp [vB, this]
theorem vB_dr {h : Hv} (h1 : drB h = false) : vB h = false := by simp [vB, h1]
theorem vB_lk {h : Hv} {l : Lk} (hm : l ∈ h.looks) (h1 : lkB h l = false) : vB h = false := by
  have : h.looks.all (lkB h) = false := by rw [List.all_eq_false]; exact ⟨l, hm, by simp [h1]⟩
  simp [vB, this]
theorem all_snoc {α : Type} {p : α → Bool} {l : List α} {k : Nat} (hk : k < l.length) (h : (l.take k).all p = true) (h1 : p l[k] = true) : (l.take (k + 1)).all p = true := by
  rw [List.take_succ_eq_append_getElem hk, List.all_append, h]; simp [h1]
theorem VH_of {h : Hv} (hv : vB h = true) : VH h := by
  simp only [vB, numB, drB, Bool.and_eq_true, List.all_eq_true, within, isSpanB, tfB, lkB, decide_eq_true_eq] at hv
  obtain ⟨⟨⟨⟨⟨⟨⟨h1, h2⟩, h3⟩, h4⟩, h5⟩, h6⟩, h7⟩, h8⟩ := hv
  refine ⟨by omega, by omega, by omega, by omega, fun t ht => ?_, fun s hs => ?_, by omega, fun l hl => ?_⟩
  · have := h5 t ht; omega
  · have := h6 s hs; omega
  · have := h8 l hl; omega
/-- A heap's value. -/
def heapV (g : Bg) : Value := .agg (hvL g).toArray
end Go.Proofs.Ytlpahkmfjpjheaa
end

section
namespace Go.Proofs.Ytlpahkmfjpjheaa
open Go.RowKit
def canB (h : Hv) (r : List Int) (looks : Nat) : Bool := (List.range h.heaps.length).all fun i => decide ((firstS h r i looks).1 ≤ (firstS h r i looks).2)
theorem canB_false {h : Hv} {r : List Int} {looks : Nat} {i : Nat} (hi : i < h.heaps.length) (hf : (firstS h r i looks).2 < (firstS h r i looks).1) : canB h r looks = false := by
  unfold canB
  rw [List.all_eq_false]
  exact ⟨i, List.mem_range.2 hi, by simp; omega⟩
theorem canB_true {h : Hv} {r : List Int} {looks : Nat} (hf : ∀ i, i < h.heaps.length → ¬ (firstS h r i looks).2 < (firstS h r i looks).1) : canB h r looks = true := by
  unfold canB
  rw [List.all_eq_true]
  intro i hi
  have := hf i (List.mem_range.1 hi)
  simp; omega
attribute [local irreducible] AnyO AnyB QAny QB EWalk AWalk Ev WP OPS QThen QBlock QScope QLoop QBody Val New Turn Tri Enters PostA Blk Ro
section
variable (N : Nat) (w0 : World)
theorem can_ret (L : Hp) (g : Bg) (hS : Sub (Bk g) L) (hv : VH g.h) (hA : HeapAt N w0 g) (r0 r1 r2 r3 r4 r5 : Int) (hr : (0 ≤ r0 ∧ r0 ≤ 100) ∧ (0 ≤ r1 ∧ r1 ≤ 100) ∧ (0 ≤ r2 ∧ r2 ≤ 100) ∧ (0 ≤ r3 ∧ r3 ≤ 100) ∧ (0 ≤ r4 ∧ r4 ≤ 100) ∧ (0 ≤ r5 ∧ r5 ≤ 100)) (looks : Nat) (hlk : looks ≤ 31) :
    Ret Try.prog N w0 L 99 [.pointer (some ⟨g.b, 0, none⟩), .agg [.int .i64 r0, .int .i64 r1, .int .i64 r2, .int .i64 r3, .int .i64 r4, .int .i64 r5].toArray, .int .u64 looks].toArray (.bool (canB g.h [r0, r1, r2, r3, r4, r5] looks)) := by
  have hm : Mem g.b (Blk 94 (bogL g)) L := hS.mem .here
  have hnh := hv.nh
  refine Ret.fgt ?_
  refine tri_of_WP Try.func99 rfl (n := 30) rfl (by simp) ?_
  repeat' (first | (refine Znh ?_) | (refine GiW ?_; first | (refine Zsq fun K hK => ?_) | (refine ZrN 0 fun _ => ?_; refine Zal 4 fun b4 => ?_; refine Zv Zab ?_) | (refine ZrN 1 fun _ => ?_; refine Zv Zmv ?_; (first | (refine Zv Zxnp ?_) | (refine Zv Zxnf ?_)); refine Zv Zf0 ?_; refine Zv Zf0 ?_; refine Zv Zld ?_; refine Zv Zxlen ?_; refine Zv Zmi ?_) | (with_reducible apply WP_block)))
  refine WP_loop [6, 7, 8, 15, 16, 17, 18, 19, 20, 21, 22, 23, 24, 25, 26, 27, 28, 29] (fun k : Nat => [(15, .int .i64 k)]) (fun _ => (b4, Blk 86 [.int .i64 r0, .int .i64 r1, .int .i64 r2, .int .i64 r3, .int .i64 r4, .int .i64 r5]) :: L) (fun k => k ≤ g.h.heaps.length ∧ ∀ i, i < k → ¬ (firstS g.h [r0, r1, r2, r3, r4, r5] i looks).2 < (firstS g.h [r0, r1, r2, r3, r4, r5] i looks).1) (fun k => g.h.heaps.length - k) 0 (.cons rfl .nil) (by repeat (first | exact Wk.refl _ | apply Wk.keep1 | apply Wk.drop | apply Wk.sv | apply Wk.svD | apply Wk.appD)) ⟨Nat.zero_le _, fun i hi => by omega⟩ ?_
  rintro k j ⟨hk, hall⟩
  by_cases hlt : k < g.h.heaps.length
  · have hSL : Sub (Bk g) ((b4, Blk 86 [.int .i64 r0, .int .i64 r1, .int .i64 r2, .int .i64 r3, .int .i64 r4, .int .i64 r5]) :: L) := hS.cons
    repeat' (first | (refine GiP ?_; first | (refine Znh ?_) | (with_reducible refine Znl ?_)) | (refine GiW ?_; first | (refine Zsq fun K hK => ?_) | (refine ZrN 2 fun _ => ?_; refine Zv Zxlss ?_) | (refine ZrN 3 fun _ => ?_; refine Zv Zmi ?_; refine Zv Zai ?_) | (refine ZrN 4 fun _ => ?_; refine Zv Zmv ?_; refine Zv Zla ?_; refine Zv Zmi ?_; refine Zv Zmi ?_; refine Zv Zxbu ?_; refine Zcl (Enters_fn rfl) (Ret.sub hSL (fun L0 => first_ret N w0 L0 g hv hA r0 r1 r2 r3 r4 r5 hr k looks hlt hlk)) ?_; refine Zal 8 fun b8 => ?_; refine Zst ?_) | (refine ZrN 5 fun _ => ?_; refine Zv Zf0 ?_; refine Zv Zld ?_; refine Zv Zfa ?_; refine Zv Zld ?_; refine Zv Zxgtr ?_) | (refine ZrN 6 fun _ => ?_; refine Zv Zab ?_) | (refine ZrN 7 fun _ => ?_; refine Zv Zxadd ?_; refine Zv Zmi ?_) | (refine Zcd (fun hc => ?_) (fun hc => ?_) <;> (try (exfalso; omega))) | (with_reducible apply WP_skip) | (with_reducible apply WP_block) | (with_reducible apply WP_ret)) | (refine Zhn ?_) | (with_reducible apply QBlock_normal) | (refine Zhr ?_) | (with_reducible apply QBlock_ret) | (with_reducible apply QLoop_ret))
    · refine QBody_ret1 rfl (rfl : _ = Value.bool _) ⟨?_, (by repeat (first | exact Wk.refl _ | apply Wk.keep1 | apply Wk.drop | apply Wk.sv | apply Wk.svD | apply Wk.appD))⟩
      rw [canB_false hlt (by assumption)]
    · refine QLoop_normal (k + 1) (.cons rfl .nil) (by repeat (first | exact Off.frame rfl | exact Off.refl _ _ | refine Off.frameT rfl rfl ?_ | refine Off.upd rfl ?_ | refine Off.updO rfl ?_)) (by repeat (first | exact Wk.refl _ | apply Wk.keep1 | apply Wk.drop | apply Wk.sv | apply Wk.svD | apply Wk.appD)) ⟨by omega, ?_⟩ (by omega)
      intro i hi
      rcases Nat.lt_succ_iff_lt_or_eq.1 hi with h1 | rfl
      · exact hall i h1
      · assumption
  · repeat' (first | (refine Znh ?_) | (refine GiW ?_; first | (refine Zsq fun K hK => ?_) | (refine ZrN 2 fun _ => ?_; refine Zv Zxlss ?_) | (refine ZrN 8 fun _ => ?_; refine Zv Zab ?_) | (refine Zcd (fun hc => ?_) (fun hc => ?_) <;> (try (exfalso; omega))) | (with_reducible apply WP_exit) | (with_reducible apply WP_ret)) | (refine Zhn ?_) | (refine Zhx ?_) | (with_reducible apply QBlock_hit) | (with_reducible apply QLoop_exit))
    have : k = g.h.heaps.length := by omega
    refine QBody_ret1 rfl (rfl : _ = Value.bool _) ⟨?_, (by repeat (first | exact Wk.refl _ | apply Wk.keep1 | apply Wk.drop | apply Wk.sv | apply Wk.svD | apply Wk.appD))⟩
    rw [canB_true (fun i hi => hall i (by omega))]
end
end Go.Proofs.Ytlpahkmfjpjheaa
end

section
namespace Go.Proofs.Ytlpahkmfjpjheaa
open Go.RowKit
def vals (s : Sp) : List Int := (List.range (s.2 - s.1 + 1).toNat).map fun c : Nat => s.1 + (c : Int)
def allR : List Sp → List (List Int)
  | [] => [[]]
  | s :: l => (vals s).flatMap fun v => (allR l).map (v :: ·)
def ints (l : List Int) : List Value := l.map (.int .i64)
/-- All rains, each one with zeros behind. -/
def rows6 (l : List (List Int)) : List (List Value) := l.map fun r => [.agg (ints (r ++ List.replicate (6 - r.length) 0)).toArray]
theorem allR_len : ∀ (l : List Sp), ∀ r ∈ allR l, r.length = l.length
  | [], r, h => by simp [allR] at h; simp [h]
  | s :: l, r, h => by
    simp only [allR, List.mem_flatMap, List.mem_map] at h
    obtain ⟨v, _, q, hq, rfl⟩ := h
    simp [allR_len l q hq]
theorem vals_length (s : Sp) : (vals s).length = (s.2 - s.1 + 1).toNat := by simp [vals]
theorem vals_get (s : Sp) (c : Nat) (h : c < (vals s).length) : (vals s)[c] = s.1 + (c : Int) := by simp [vals]
/-- The rains that begin with p. -/
def seg (p : List Int) (l : List Sp) : List (List Value) := rows6 ((allR l).map (p ++ ·))
theorem seg_nil (p : List Int) : seg p [] = [[.agg (ints (p ++ List.replicate (6 - p.length) 0)).toArray]] := by simp [seg, allR, rows6]
theorem seg_cons (p : List Int) (s : Sp) (l : List Sp) : seg p (s :: l) = (vals s).flatMap fun v => seg (p ++ [v]) l := by
  simp only [seg, allR, rows6, List.map_flatMap, List.map_map]
  congr 1
  funext v
  apply List.map_congr_left
  intro q _
  simp
theorem setL_ints (own : List Int) (d : Nat) (v : Int) : setL (ints own) (0 + d) [.int .i64 v] = ints (own.set d v) := by
  simp [setL, ints, List.map_set]
theorem ints_get {own : List Int} {d : Nat} {v : Int} (h : own[d]? = some v) : (ints own)[0 + d]? = some (.int .i64 v) := by
  simp [ints, h]
structure OwnOk (own p : List Int) (n : Nat) : Prop where
  len : own.length = 6
  pre : own.take p.length = p
  zer : ∀ j, n ≤ j → j < 6 → own[j]? = some 0
theorem OwnOk.full {own p : List Int} (h : OwnOk own p p.length) : own = p ++ List.replicate (6 - p.length) 0 := by
  have h1 : own = own.take p.length ++ own.drop p.length := (List.take_append_drop _ _).symm
  rw [h1, h.pre]
  congr 1
  apply List.ext_getElem
  · simp [h.len]
  · intro j hj hj2
    simp only [List.length_drop, h.len] at hj
    have := h.zer (p.length + j) (by omega) (by omega)
    simp only [List.getElem_drop, List.getElem_replicate]
    exact (List.getElem?_eq_some_iff.1 this).2
theorem OwnOk.set {own p : List Int} {n : Nat} (h : OwnOk own p n) (hp : p.length < n) (hn : n ≤ 6) (v : Int) : OwnOk (own.set p.length v) (p ++ [v]) n := by
  refine ⟨by simp [h.len], ?_, ?_⟩
  · have hl := h.len
    rw [List.length_append, List.length_singleton, List.take_add_one]
    have h1 : (own.set p.length v).take p.length = p := by rw [List.take_set_of_le (by omega)]; exact h.pre
    have h2 : (own.set p.length v)[p.length]? = some v := List.getElem?_set_self (by omega)
    rw [h1, h2]; rfl
  · intro j h1 h2
    rw [List.getElem?_set_ne (by omega)]
    exact h.zer j h1 h2
theorem OwnOk.less {own p : List Int} {n : Nat} {v : Int} (h : OwnOk own (p ++ [v]) n) : OwnOk own p n := by
  refine ⟨h.len, ?_, h.zer⟩
  have := h.pre
  have h2 := congrArg (List.take p.length) this
  rw [List.take_take] at h2
  simpa using h2
theorem OwnOk.at_ {own p : List Int} {n : Nat} {v : Int} (h : OwnOk own (p ++ [v]) n) : own[p.length]? = some v := by
  have := h.pre
  have h2 : (own.take (p ++ [v]).length)[p.length]? = some v := by rw [this]; simp
  rw [List.getElem?_take] at h2
  simpa using h2
theorem RoAt {w0 : World} {b o : Nat} {vs : List Value} (h : Ro w0 b o vs) (j : Nat) (v : Value) (hj : vs[j]? = some v) : w0.cell? ⟨b, o + j, none⟩ = some v := h j v hj
theorem SegAt {xs pre post : List (List Value)} {p : List Int} (h : xs = pre ++ (seg p [] ++ post)) : ∃ hk : pre.length < xs.length, xs[pre.length] = [.agg (ints (p ++ List.replicate (6 - p.length) 0)).toArray] := by
  subst h
  rw [seg_nil]
  exact ⟨by simp, by simp⟩
attribute [local irreducible] AnyO AnyB QAny QB EWalk AWalk Ev WP OPS QThen QBlock QScope QLoop QBody Val New Turn Tri Enters PostA Blk Ro
section
variable (N : Nat) (w0 : World)
/-- The recursion over the days: from the state behind the rains pre to that behind those that begin with p. -/
theorem on_tri (g : Bg) (hv : VH g.h) (hA : HeapAt N w0 g) (Y : Value) (xs : List (List Value)) (J : Nat → Hp → Prop) (Jx : Hp → Prop) (hY : YieldOK Try.prog N w0 J Jx xs Y) (pb b2 b3 b4 : Nat)
    (hnd : ∀ k Fr, J k Fr → Sub [(pb, Blk 77 [.pointer (some ⟨g.b, 0, none⟩)]), (g.b, Blk 94 (bogL g))] Fr) :
    ∀ (r : Nat) (p : List Int) (pre post : List (List Value)) (own : List Int) (Fr X : Hp), r + p.length = g.h.rains.length → xs = pre ++ (seg p (g.h.rains.drop p.length) ++ post) → OwnOk own p g.h.rains.length → J pre.length Fr →
      Tri Try.prog N w0 ((b3, Blk 86 (ints own)) :: (b2, Blk 146 [Y]) :: (b4, Blk 68 [.func (.func 109) #[] #[.pointer (some ⟨pb, 0, none⟩), .pointer (some ⟨b2, 0, none⟩), .pointer (some ⟨b3, 0, none⟩), .pointer (some ⟨b4, 0, none⟩)]]) :: (Fr ++ X)) 109
        [.int .i64 p.length, .pointer (some ⟨pb, 0, none⟩), .pointer (some ⟨b2, 0, none⟩), .pointer (some ⟨b3, 0, none⟩), .pointer (some ⟨b4, 0, none⟩)].toArray
        fun x L' => ∃ v, x = .returned v ∧ ∃ (bv : Bool) (Fr' : Hp) (own' : List Int), v = .bool bv ∧ L' = (b3, Blk 86 (ints own')) :: (b2, Blk 146 [Y]) :: (b4, Blk 68 [.func (.func 109) #[] #[.pointer (some ⟨pb, 0, none⟩), .pointer (some ⟨b2, 0, none⟩), .pointer (some ⟨b3, 0, none⟩), .pointer (some ⟨b4, 0, none⟩)]]) :: (Fr' ++ X) ∧
          ((bv = true ∧ J (pre ++ seg p (g.h.rains.drop p.length)).length Fr' ∧ OwnOk own' p g.h.rains.length) ∨ (bv = false ∧ Jx Fr')) := by
  intro r
  induction r with
  | zero =>
    intro p pre post own Fr X hr hxs ho hJ
    have hnr := hv.nr
    have hpl : p.length = g.h.rains.length := by omega
    rw [hpl, List.drop_length] at hxs
    have hnd' := hnd _ _ hJ
    have hmp : Mem pb (Blk 77 [.pointer (some ⟨g.b, 0, none⟩)]) (Fr ++ X) := (hnd'.appR X).mem .here
    have hmb : Mem g.b (Blk 94 (bogL g)) (Fr ++ X) := (hnd'.appR X).mem (.there .here)
    obtain ⟨hk, hxk⟩ := SegAt hxs
    rw [← hpl] at ho
    have hfull := ho.full
    have hint : (ints own).length = 6 := by simp [ints, ho.len]
    refine Tri.fgt ?_
    refine tri_of_WP Try.func109 rfl (n := 52) rfl (by simp) ?_
    have hcv : CV Try.prog N w0 ((b3, Blk 86 (ints own)) :: (b2, Blk 146 [Y]) :: (b4, Blk 68 [.func (.func 109) #[] #[.pointer (some ⟨pb, 0, none⟩), .pointer (some ⟨b2, 0, none⟩), .pointer (some ⟨b3, 0, none⟩), .pointer (some ⟨b4, 0, none⟩)]]) :: (Fr ++ X)) Y [.agg (ints own).toArray]
        fun x L' => ∃ v, x = .returned v ∧ ∃ (bv : Bool) (Fr' : Hp), v = .bool bv ∧ L' = (b3, Blk 86 (ints own)) :: (b2, Blk 146 [Y]) :: (b4, Blk 68 [.func (.func 109) #[] #[.pointer (some ⟨pb, 0, none⟩), .pointer (some ⟨b2, 0, none⟩), .pointer (some ⟨b3, 0, none⟩), .pointer (some ⟨b4, 0, none⟩)]]) :: (Fr' ++ X) ∧ ((bv = true ∧ J (pre.length + 1) Fr') ∨ (bv = false ∧ Jx Fr')) := by
      have h1 := hY ((b3, Blk 86 (ints own)) :: (b2, Blk 146 [Y]) :: (b4, Blk 68 [.func (.func 109) #[] #[.pointer (some ⟨pb, 0, none⟩), .pointer (some ⟨b2, 0, none⟩), .pointer (some ⟨b3, 0, none⟩), .pointer (some ⟨b4, 0, none⟩)]]) :: X) pre.length hk Fr hJ
      rw [hxk, ← hfull] at h1
      have hperm : ∀ F : Hp, ((b3, Blk 86 (ints own)) :: (b2, Blk 146 [Y]) :: (b4, Blk 68 [.func (.func 109) #[] #[.pointer (some ⟨pb, 0, none⟩), .pointer (some ⟨b2, 0, none⟩), .pointer (some ⟨b3, 0, none⟩), .pointer (some ⟨b4, 0, none⟩)]]) :: (F ++ X)).Perm (F ++ ((b3, Blk 86 (ints own)) :: (b2, Blk 146 [Y]) :: (b4, Blk 68 [.func (.func 109) #[] #[.pointer (some ⟨pb, 0, none⟩), .pointer (some ⟨b2, 0, none⟩), .pointer (some ⟨b3, 0, none⟩), .pointer (some ⟨b4, 0, none⟩)]]) :: X)) := by
        intro F
        have h2 : ([(b3, Blk 86 (ints own)), (b2, Blk 146 [Y]), (b4, Blk 68 [.func (.func 109) #[] #[.pointer (some ⟨pb, 0, none⟩), .pointer (some ⟨b2, 0, none⟩), .pointer (some ⟨b3, 0, none⟩), .pointer (some ⟨b4, 0, none⟩)]])] ++ F).Perm (F ++ [(b3, Blk 86 (ints own)), (b2, Blk 146 [Y]), (b4, Blk 68 [.func (.func 109) #[] #[.pointer (some ⟨pb, 0, none⟩), .pointer (some ⟨b2, 0, none⟩), .pointer (some ⟨b3, 0, none⟩), .pointer (some ⟨b4, 0, none⟩)]])]) := List.perm_append_comm
        simpa using h2.append_right X
      refine h1.pm (hperm Fr) ?_
      rintro x L' ⟨v, rfl, Fr', rfl, hc⟩
      refine ⟨_, (hperm Fr').symm, v, rfl, ?_⟩
      rcases hc with ⟨rfl, hc⟩ | ⟨rfl, hc⟩
      · exact ⟨true, Fr', rfl, rfl, .inl ⟨rfl, hc⟩⟩
      · exact ⟨false, Fr', rfl, rfl, .inr ⟨rfl, hc⟩⟩
    repeat' (first | (refine Znh ?_) | (refine GiW ?_; first | (refine Zsq fun K hK => ?_) | (refine ZrN 0 fun _ => ?_; refine Zv Zab ?_) | (refine ZrN 1 fun _ => ?_; refine Zv Zmi ?_; refine Zv Zld ?_; (first | (refine Zv Zxnp ?_) | (refine Zv Zxnf ?_)); refine Zv Zf0 ?_; refine Zv Zfa ?_; refine Zv Zld ?_; refine Zv Zxlen ?_; refine Zv Zxeql ?_) | (refine ZrN 2 fun _ => ?_; refine Zv Zld ?_; refine Zv Zla ?_; refine OPS_callVS rfl rfl hcv rfl rfl (fun v17 L17 hK17 => ?_); obtain ⟨bv, Fr', rfl, rfl, hc17⟩ := hK17; refine Zv Zab ?_) | (refine Zcd (fun hc => ?_) (fun hc => ?_) <;> (try (exfalso; omega))) | (with_reducible apply WP_ret)) | (refine Zhr ?_))
    refine QBody_ret1 rfl (rfl : _ = Value.bool _) ⟨_, Wk.refl _, _, rfl, bv, Fr', own, rfl, rfl, ?_⟩
    rw [hpl, List.drop_length, seg_nil]
    rcases hc17 with ⟨rfl, hc⟩ | ⟨rfl, hc⟩
    · exact .inl ⟨rfl, by simpa using hc, by rw [← hpl]; exact ho⟩
    · exact .inr ⟨rfl, hc⟩
  | succ r ih =>
    intro p pre post own Fr X hr hxs ho hJ
    have hnr := hv.nr
    have hlt : p.length < g.h.rains.length := by omega
    have hnd' := hnd _ _ hJ
    have hmp : Mem pb (Blk 77 [.pointer (some ⟨g.b, 0, none⟩)]) (Fr ++ X) := (hnd'.appR X).mem .here
    have hmb : Mem g.b (Blk 94 (bogL g)) (Fr ++ X) := (hnd'.appR X).mem (.there .here)
    obtain ⟨bA, oA, hA2, hbA, hcA⟩ := hA.rains.row p.length hlt
    obtain ⟨s, hs⟩ : ∃ s, g.h.rains[p.length] = s := ⟨_, rfl⟩
    rw [hs] at hcA
    have hsv := hv.rn s (by rw [← hs]; exact List.getElem_mem hlt)
    have hc0 : w0.cell? ⟨bA, oA + p.length * 2, none⟩ = some (.int .i64 s.1) := RoAt hcA 0 _ rfl
    have hc1 : w0.cell? ⟨bA, oA + p.length * 2 + 1, none⟩ = some (.int .i64 s.2) := RoAt hcA 1 _ rfl
    have hdrop : g.h.rains.drop p.length = s :: g.h.rains.drop (p.length + 1) := by rw [List.drop_eq_getElem_cons hlt, hs]
    have hlen := ho.len
    have hpl6 : p.length < (ints own).length := by simp [ints, hlen]; omega
    refine Tri.fgt ?_
    refine tri_of_WP Try.func109 rfl (n := 52) rfl (by simp) ?_
    repeat' (first | (refine Znh ?_) | (refine GiW ?_; first | (refine Zsq fun K hK => ?_) | (refine ZrN 0 fun _ => ?_; refine Zv Zab ?_) | (refine ZrN 1 fun _ => ?_; refine Zv Zmi ?_; refine Zv Zld ?_; (first | (refine Zv Zxnp ?_) | (refine Zv Zxnf ?_)); refine Zv Zf0 ?_; refine Zv Zfa ?_; refine Zv Zld ?_; refine Zv Zxlen ?_; refine Zv Zxeql ?_) | (refine ZrN 3 fun _ => ?_; refine Zv Zmi ?_; refine Zv Zld ?_; (first | (refine Zv Zxnp ?_) | (refine Zv Zxnf ?_)); refine Zv Zf0 ?_; refine Zv Zfa ?_; refine Zv Zld ?_; refine Zv Zmi ?_; refine Zv Zia ?_; refine Zv Zf0 ?_; refine Zv Zld ?_; refine Zv ZiA ?_; (first | (refine Zst ?_) | (refine OPS_turnN (Turn_storeG rfl (rfl : _ = Value.int _ _) (by repeat (first | exact Up.here | apply Up.there | apply Up.sv)) rfl (by simp only [List.length_singleton]; omega) (setL_ints own p.length s.1) rfl rfl) rfl rfl ?_))) | (refine Zcd (fun hc => ?_) (fun hc => ?_) <;> (try (exfalso; omega))) | (with_reducible apply WP_skip) | (with_reducible apply WP_block)) | (refine Zhn ?_))
    have hseg : seg p (g.h.rains.drop p.length) = (vals s).flatMap fun v => seg (p ++ [v]) (g.h.rains.drop (p.length + 1)) := by rw [hdrop, seg_cons]
    refine WP_loop [6, 29, 30, 31, 32, 33, 34, 35, 36, 37, 38, 39, 40, 41, 42, 43, 44, 45, 46, 47, 48, 49, 50, 51] (fun _ : Nat × Hp × List Int => []) (fun q => (b3, Blk 86 (ints q.2.2)) :: (b2, Blk 146 [Y]) :: (b4, Blk 68 [.func (.func 109) #[] #[.pointer (some ⟨pb, 0, none⟩), .pointer (some ⟨b2, 0, none⟩), .pointer (some ⟨b3, 0, none⟩), .pointer (some ⟨b4, 0, none⟩)]]) :: (q.2.1 ++ X))
      (fun q => q.1 ≤ (vals s).length ∧ OwnOk q.2.2 (p ++ [s.1 + (q.1 : Int)]) g.h.rains.length ∧ J (pre ++ ((vals s).take q.1).flatMap fun v => seg (p ++ [v]) (g.h.rains.drop (p.length + 1))).length q.2.1) (fun q => (vals s).length - q.1) (0, Fr, own.set p.length s.1) .nil (by repeat (first | exact Wk.refl _ | apply Wk.keep1 | apply Wk.drop | apply Wk.sv | apply Wk.svD | apply Wk.appD)) ⟨Nat.zero_le _, by simpa using ho.set hlt hnr.2 s.1, by simpa using hJ⟩ ?_
    rintro ⟨c, F, ow⟩ j ⟨hcl, how, hJc⟩
    dsimp only at hcl how hJc ⊢
    have hvl := vals_length s
    have hndc := hnd _ _ hJc
    have hmp' : Mem pb (Blk 77 [.pointer (some ⟨g.b, 0, none⟩)]) (F ++ X) := (hndc.appR X).mem .here
    have hmb' : Mem g.b (Blk 94 (bogL g)) (F ++ X) := (hndc.appR X).mem (.there .here)
    have hat : (ints ow)[0 + p.length]? = some (.int .i64 (s.1 + (c : Int))) := ints_get how.at_
    have hlenw := how.len
    by_cases hct : c < (vals s).length
    · have hvc : (vals s)[c] = s.1 + (c : Int) := vals_get s c hct
      have hsplit : (vals s).flatMap (fun v => seg (p ++ [v]) (g.h.rains.drop (p.length + 1))) = ((vals s).take c).flatMap (fun v => seg (p ++ [v]) (g.h.rains.drop (p.length + 1))) ++ (seg (p ++ [s.1 + (c : Int)]) (g.h.rains.drop (p.length + 1)) ++ ((vals s).drop (c + 1)).flatMap (fun v => seg (p ++ [v]) (g.h.rains.drop (p.length + 1)))) := by
        have h1 : vals s = (vals s).take c ++ ((vals s)[c] :: (vals s).drop (c + 1)) := by rw [← List.drop_eq_getElem_cons hct, List.take_append_drop]
        rw [hvc] at h1
        conv => lhs; rw [h1]
        simp [List.flatMap_append]
      have htake : ((vals s).take (c + 1)).flatMap (fun v => seg (p ++ [v]) (g.h.rains.drop (p.length + 1))) = ((vals s).take c).flatMap (fun v => seg (p ++ [v]) (g.h.rains.drop (p.length + 1))) ++ seg (p ++ [s.1 + (c : Int)]) (g.h.rains.drop (p.length + 1)) := by
        rw [List.take_succ_eq_append_getElem hct, hvc]
        simp [List.flatMap_append]
      have hpl : (p ++ [s.1 + (c : Int)]).length = p.length + 1 := by simp
      have ihc := ih (p ++ [s.1 + (c : Int)]) (pre ++ ((vals s).take c).flatMap fun v => seg (p ++ [v]) (g.h.rains.drop (p.length + 1))) (((vals s).drop (c + 1)).flatMap (fun v => seg (p ++ [v]) (g.h.rains.drop (p.length + 1))) ++ post) ow F X (by rw [hpl]; omega)
        (by rw [hxs, hseg, hsplit, hpl]; simp only [List.append_assoc]) how hJc
      rw [hpl, List.append_assoc, ← htake] at ihc
      rw [Int.natCast_add, Int.natCast_one] at ihc
      repeat' (first | (refine Znh ?_) | (refine GiW ?_; first | (refine Zsq fun K hK => ?_) | (refine ZrN 6 fun _ => ?_; refine Zv Zld ?_; refine Zv Zmi ?_; refine Zv Zxadd ?_; refine OPS_retKS (Enters_val (cf := []) (cc := [.pointer (some ⟨pb, 0, none⟩), .pointer (some ⟨b2, 0, none⟩), .pointer (some ⟨b3, 0, none⟩), .pointer (some ⟨b4, 0, none⟩)]) rfl rfl) ihc rfl rfl rfl (fun v50 L50 h50 => ?_); obtain ⟨bv, F', ow', rfl, rfl, hc50⟩ := h50; refine Zv Zxnot ?_) | (refine ZrN 7 fun _ => ?_; refine Zv Zab ?_) | (refine Zcd (fun hc => ?_) (fun hc => ?_) <;> (try (exfalso; omega))) | (with_reducible apply WP_skip) | (with_reducible apply WP_block) | (with_reducible apply WP_ret) | (refine WP_drawn (id := 4) [0, 1, 2, 3, 4, 5, 6, 7, 8, 9, 10, 11, 12] [] (k := 0) prog_mixed (by kernel_rfl) rfl ?_; refine Zew rfl Zmi ?_; refine Zew rfl ZiA ?_; refine Zew rfl Zld ?_; refine Zew rfl Zld ?_; (first | (refine Zew rfl Zxnp ?_) | (refine Zew rfl Zxnf ?_)); refine Zew rfl Zf0 ?_; refine Zew rfl Zfa ?_; refine Zew rfl Zld ?_; refine Zew rfl Zmi ?_; refine Zew rfl Zia ?_; refine Zew rfl Zfa ?_; refine Zew rfl Zld ?_; refine Zew rfl Zxleq ?_)) | (with_reducible apply EWalk_nil) | (refine AnyO_done (by kernel_rfl) ?_; (try with_reducible apply noP_normal); try with_reducible exact key.out) | (refine Zhn ?_) | (with_reducible apply QBlock_normal) | (refine Zhr ?_) | (with_reducible apply QBlock_ret) | (with_reducible apply QLoop_ret) | (refine AWalk_0 ?_; refine ZisO ?_; apply shr; intro key))
      · refine QBody_ret1 rfl (rfl : _ = Value.bool _) ⟨_, Wk.refl _, _, rfl, false, F', ow', rfl, rfl, .inr ⟨rfl, ?_⟩⟩
        rcases hc50 with ⟨h, _⟩ | ⟨_, h⟩
        · rw [h] at hc; cases hc
        · exact h
      · rcases hc50 with ⟨_, hJ', how'⟩ | ⟨h, _⟩
        · have hat2 : (ints ow')[0 + p.length]? = some (.int .i64 (s.1 + (c : Int))) := ints_get how'.at_
          have hlen2 : p.length < (ints ow').length := by have := how'.len; simp [ints, this]; omega
          have hnext : OwnOk (ow'.set p.length (s.1 + (c : Int) + 1)) (p ++ [s.1 + ((c + 1 : Nat) : Int)]) g.h.rains.length := by
            have := how'.less.set hlt hnr.2 (s.1 + (c : Int) + 1)
            rw [show s.1 + ((c + 1 : Nat) : Int) = s.1 + (c : Int) + 1 by omega]
            exact this
          have hndc' := hnd _ _ hJ'
          have hmp2 : Mem pb (Blk 77 [.pointer (some ⟨g.b, 0, none⟩)]) (F' ++ X) := (hndc'.appR X).mem .here
          have hmb2 : Mem g.b (Blk 94 (bogL g)) (F' ++ X) := (hndc'.appR X).mem (.there .here)
          repeat' (first | (with_reducible refine Znl ?_) | (refine ZrN 5 fun _ => ?_; refine Zv Zmi ?_; refine Zv ZiA ?_; refine Zv Zld ?_; refine Zv Zxadd ?_; refine Zv ZiA ?_; (first | (refine Zst ?_) | (refine OPS_turnN (Turn_storeG rfl (rfl : _ = Value.int _ _) (by repeat (first | exact Up.here | apply Up.there | apply Up.sv)) rfl (by simp only [List.length_singleton]; omega) (setL_ints ow' p.length (s.1 + (c : Int) + 1)) rfl rfl) rfl rfl ?_))))
          exact QLoop_normal (c + 1, F', ow'.set p.length (s.1 + (c : Int) + 1)) .nil (by repeat (first | exact Off.frame rfl | exact Off.refl _ _ | refine Off.frameT rfl rfl ?_ | refine Off.upd rfl ?_ | refine Off.updO rfl ?_)) (by repeat (first | exact Wk.refl _ | apply Wk.keep1 | apply Wk.drop | apply Wk.sv | apply Wk.svD | apply Wk.appD)) ⟨by dsimp only; omega, hnext, hJ'⟩ (by dsimp only; omega)
        · rw [h] at hc; cases hc
    · have hce : c = (vals s).length := by omega
      repeat' (first | (refine Znh ?_) | (refine GiW ?_; first | (refine Zsq fun K hK => ?_) | (refine ZrN 8 fun _ => ?_; refine Zv Zab ?_) | (refine Zcd (fun hc => ?_) (fun hc => ?_) <;> (try (exfalso; omega))) | (with_reducible apply WP_exit) | (with_reducible apply WP_ret) | (refine WP_drawn (id := 4) [0, 1, 2, 3, 4, 5, 6, 7, 8, 9, 10, 11, 12] [] (k := 0) prog_mixed (by kernel_rfl) rfl ?_; refine Zew rfl Zmi ?_; refine Zew rfl ZiA ?_; refine Zew rfl Zld ?_; refine Zew rfl Zld ?_; (first | (refine Zew rfl Zxnp ?_) | (refine Zew rfl Zxnf ?_)); refine Zew rfl Zf0 ?_; refine Zew rfl Zfa ?_; refine Zew rfl Zld ?_; refine Zew rfl Zmi ?_; refine Zew rfl Zia ?_; refine Zew rfl Zfa ?_; refine Zew rfl Zld ?_; refine Zew rfl Zxleq ?_)) | (with_reducible apply EWalk_nil) | (refine AnyO_done (by kernel_rfl) ?_; (try with_reducible apply noP_normal); try with_reducible exact key.out) | (refine Zhn ?_) | (refine Zhx ?_) | (with_reducible apply QBlock_hit) | (with_reducible apply QLoop_exit) | (refine AWalk_0 ?_; refine ZisO ?_; apply shr; intro key))
      refine QBody_ret1 rfl (rfl : _ = Value.bool _) ⟨_, Wk.refl _, _, rfl, true, F, ow, rfl, rfl, .inl ⟨rfl, ?_, how.less⟩⟩
      rw [hseg]
      rw [hce, List.take_length] at hJc
      exact hJc
end
end Go.Proofs.Ytlpahkmfjpjheaa
end

section
namespace Go.Proofs.Ytlpahkmfjpjheaa
open Go.RowKit
/-- What an iterator leans on: the box of the bog's pointer, and the bog. -/
def NdR (pb : Nat) (g : Bg) : Hp := [(pb, Blk 77 [.pointer (some ⟨g.b, 0, none⟩)]), (g.b, Blk 94 (bogL g))]
attribute [local irreducible] AnyO AnyB QAny QB EWalk AWalk Ev WP OPS QThen QBlock QScope QLoop QBody Val New Turn Tri Enters PostA Blk Ro
section
variable (N : Nat) (w0 : World)
theorem rainfalls_iter (g : Bg) (hv : VH g.h) (hA : HeapAt N w0 g) (pb : Nat) : IterOK Try.prog N w0 108 [.pointer (some ⟨pb, 0, none⟩)] (seg [] g.h.rains) (NdR pb g) := by
  intro fy ya yb J Jx hY hnd Fr X h0
  refine Tri.fgt ?_
  refine tri_of_WP Try.func108 rfl (n := 8) rfl (by simp) ?_
  repeat' (first | (refine GiP ?_; first | (refine Znh ?_) | (with_reducible refine Znl ?_)) | (refine GiW ?_; first | (refine Zsq fun K hK => ?_) | (refine ZrN 0 fun _ => ?_; refine Zal 2 fun b2 => ?_) | (refine ZrN 1 fun _ => ?_; refine Zal 3 fun b3 => ?_) | (refine ZrN 2 fun _ => ?_; refine Zal 4 fun b4 => ?_) | (refine ZrN 3 fun _ => ?_; refine Zv Val_makeFunc ?_; refine Zst ?_) | (refine ZrN 4 fun _ => ?_; refine Zv Zld ?_; refine OPS_retKS (Enters_val (cf := []) (cc := [.pointer (some ⟨pb, 0, none⟩), .pointer (some ⟨b2, 0, none⟩), .pointer (some ⟨b3, 0, none⟩), .pointer (some ⟨b4, 0, none⟩)]) rfl rfl) (Tri.perm (on_tri N w0 g hv hA (.func fy ya yb) (seg [] g.h.rains) J Jx hY pb b2 b3 b4 hnd g.h.rains.length [] [] [] [0, 0, 0, 0, 0, 0] Fr X rfl (by simp) ⟨rfl, rfl, by intro j h1 h2; (have : j = 0 ∨ j = 1 ∨ j = 2 ∨ j = 3 ∨ j = 4 ∨ j = 5 := by omega); rcases this with rfl | rfl | rfl | rfl | rfl | rfl <;> rfl⟩ h0) ((List.Perm.swap _ _ _).trans (.cons _ (.swap _ _ _)))) rfl rfl rfl (fun v7 L7 h7 => ?_); obtain ⟨bv, F', ow', rfl, rfl, hc7⟩ := h7)))
  refine QBody_end0 rfl ⟨F' ++ X, .drop (.drop (.drop (Wk.refl _))), ⟨_, rfl⟩, F', rfl, ?_⟩
  rcases hc7 with ⟨_, h, _⟩ | ⟨_, h⟩
  · exact .inl (by simpa using h)
  · exact .inr h
end
end Go.Proofs.Ytlpahkmfjpjheaa
end

section
namespace Go.Proofs.Ytlpahkmfjpjheaa
open Go.RowKit
/-- All rains, each one with zeros behind. -/
def rowsL (h : Hv) : List (List Int) := (allR h.rains).map fun r => r ++ List.replicate (6 - r.length) 0
def evL (h : Hv) : Nat := 2 ^ h.looks.length - 1
/-- Those with which all looks can be right. -/
def toldL (h : Hv) : List (List Int) := (rowsL h).filter fun r => canB h r (evL h)
def argL (l : List (List Int)) : List (List Value) := l.map fun r => [.agg (ints r).toArray]
theorem seg_rows (h : Hv) : seg [] h.rains = argL (rowsL h) := by
  simp only [seg, rows6, argL, rowsL, List.map_map]
  apply List.map_congr_left
  intro r _
  simp
theorem YieldOK.at {P : Program} {N : Nat} {w0 : World} {J : Nat → Hp → Prop} {Jx : Hp → Prop} {xs : List (List Value)} {Y : Value} (h : YieldOK P N w0 J Jx xs Y) (A X : Hp) {k : Nat} (hk : k < xs.length) {Fr : Hp} (hJ : J k Fr) :
    CV P N w0 (A ++ (Fr ++ X)) Y xs[k] fun x L' => ∃ v, x = .returned v ∧ ∃ (bv : Bool) (Fr' : Hp), v = .bool bv ∧ L' = A ++ (Fr' ++ X) ∧ ((bv = true ∧ J (k + 1) Fr') ∨ (bv = false ∧ Jx Fr')) := by
  have hperm : ∀ F : Hp, (A ++ (F ++ X)).Perm (F ++ (A ++ X)) := by
    intro F
    have := (List.perm_append_comm (l₁ := A) (l₂ := F)).append_right X
    simpa using this
  refine (h (A ++ X) k hk Fr hJ).pm (hperm Fr) ?_
  rintro x L' ⟨v, rfl, Fr', rfl, hc⟩
  refine ⟨_, (hperm Fr').symm, v, rfl, ?_⟩
  rcases hc with ⟨rfl, hc⟩ | ⟨rfl, hc⟩
  · exact ⟨true, Fr', rfl, rfl, .inl ⟨rfl, hc⟩⟩
  · exact ⟨false, Fr', rfl, rfl, .inr ⟨rfl, hc⟩⟩
def cnt {α : Type} (p : α → Bool) (l : List α) (k : Nat) : Nat := ((l.take k).filter p).length
theorem cnt_zero {α : Type} (p : α → Bool) (l : List α) : cnt p l 0 = 0 := rfl
theorem cnt_all {α : Type} (p : α → Bool) (l : List α) : cnt p l l.length = (l.filter p).length := by simp [cnt]
theorem cnt_no {α : Type} {p : α → Bool} {l : List α} {k : Nat} (hk : k < l.length) (h : p l[k] = false) : cnt p l (k + 1) = cnt p l k := by
  unfold cnt
  rw [List.take_succ_eq_append_getElem hk, List.filter_append, List.filter_cons, if_neg (by simp [h])]
  simp
theorem cnt_yes {α : Type} {p : α → Bool} {l : List α} {k : Nat} (hk : k < l.length) (h : p l[k] = true) : cnt p l (k + 1) = cnt p l k + 1 := by
  unfold cnt
  rw [List.take_succ_eq_append_getElem hk, List.filter_append, List.filter_cons, if_pos h]
  simp
theorem cnt_get {α : Type} {p : α → Bool} {l : List α} {k : Nat} (hk : k < l.length) (h : p l[k] = true) : ∃ hj : cnt p l k < (l.filter p).length, (l.filter p)[cnt p l k] = l[k] := by
  have h1 : l.filter p = (l.take k).filter p ++ l[k] :: (l.drop (k + 1)).filter p := by
    have h0 : l = l.take k ++ l[k] :: l.drop (k + 1) := by rw [← List.drop_eq_getElem_cons hk, List.take_append_drop]
    have := congrArg (List.filter p) h0
    rw [List.filter_append, List.filter_cons, if_pos h] at this
    exact this
  have hj : cnt p l k < (l.filter p).length := by rw [h1]; simp [cnt]
  refine ⟨hj, ?_⟩
  have h2 : (l.filter p)[cnt p l k]? = some l[k] := by rw [h1, cnt, List.getElem?_append_right (Nat.le_refl _)]; simp
  exact (List.getElem?_eq_some_iff.1 h2).2
theorem vals_mem {s : Sp} {v : Int} (h : v ∈ vals s) : s.1 ≤ v ∧ v ≤ s.2 := by
  simp only [vals, List.mem_map, List.mem_range] at h
  obtain ⟨c, hc, rfl⟩ := h
  omega
theorem allR_mem : ∀ {l : List Sp}, (∀ s ∈ l, 0 ≤ s.1 ∧ s.2 ≤ 100) → ∀ r ∈ allR l, ∀ v ∈ r, 0 ≤ v ∧ v ≤ 100
  | [], _, r, h, v, hv => by simp [allR] at h; simp [h] at hv
  | s :: l, hs, r, h, v, hv => by
    simp only [allR, List.mem_flatMap, List.mem_map] at h
    obtain ⟨x, hx, q, hq, rfl⟩ := h
    have h1 := vals_mem hx
    have h2 := hs s (.head _)
    rcases List.mem_cons.1 hv with rfl | hv
    · omega
    · exact allR_mem (fun s h => hs s (.tail _ h)) q hq v hv
/-- Six rains, each of them within 0..100. -/
def Six (r : List Int) : Prop := ∃ r0 r1 r2 r3 r4 r5 : Int, r = [r0, r1, r2, r3, r4, r5] ∧ (0 ≤ r0 ∧ r0 ≤ 100) ∧ (0 ≤ r1 ∧ r1 ≤ 100) ∧ (0 ≤ r2 ∧ r2 ≤ 100) ∧ (0 ≤ r3 ∧ r3 ≤ 100) ∧ (0 ≤ r4 ∧ r4 ≤ 100) ∧ (0 ≤ r5 ∧ r5 ≤ 100)
theorem six_of {r : List Int} (hl : r.length = 6) (h : ∀ v ∈ r, 0 ≤ v ∧ v ≤ 100) : Six r := by
  match r, hl with
  | [r0, r1, r2, r3, r4, r5], _ => exact ⟨r0, r1, r2, r3, r4, r5, rfl, h _ (by simp), h _ (by simp), h _ (by simp), h _ (by simp), h _ (by simp), h _ (by simp)⟩
theorem rowsL_six {h : Hv} (hv : VH h) {r : List Int} (hr : r ∈ rowsL h) : Six r := by
  simp only [rowsL, List.mem_map] at hr
  obtain ⟨q, hq, rfl⟩ := hr
  have hl := allR_len _ q hq
  have h6 := hv.nr
  refine six_of (by simp; omega) ?_
  intro v hvm
  rcases List.mem_append.1 hvm with hm | hm
  · exact allR_mem (fun s hs => by have := hv.rn s hs; omega) q hq v hm
  · have := List.eq_of_mem_replicate hm
    omega
attribute [local irreducible] AnyO AnyB QAny QB EWalk AWalk Ev WP OPS QThen QBlock QScope QLoop QBody Val New Turn Tri Enters PostA Blk Ro
section
variable (N : Nat) (w0 : World)
theorem rainfalls_tri (L : Hp) (g : Bg) : Tri Try.prog N w0 L 98 [.pointer (some ⟨g.b, 0, none⟩)].toArray fun x L' => ∃ v, x = .returned v ∧ ∃ pb, v = .func (.func 108) #[] #[.pointer (some ⟨pb, 0, none⟩)] ∧ L' = (pb, Blk 77 [.pointer (some ⟨g.b, 0, none⟩)]) :: L := by
  refine tri_of_WP Try.func98 rfl (n := 4) rfl (by simp) ?_
  repeat' (first | ((with_reducible refine WP_seqK (fun K hK => ?_)); (with_reducible refine WP_regionN (id := 0) (fun _ => ?_)); refine OPS_newS blk_is (New_box (by exact (rfl : _ = Value.pointer (some ⟨_, _, none⟩))) (by first | (exact svV_cells) | (rfl))) rfl rfl rfl (fun b1 => ?_); refine OPS_valS (Val_assign (by first | (exact (rfl : _ = Value.func _ _ _)) | (exact (rfl : _ = Value.nilFunc)))) rfl rfl rfl ?_; (with_reducible apply OPS_nil); refine HThen.normal (by assumption) ?_; (with_reducible refine WP_seqK (fun K hK => ?_)); (with_reducible refine WP_regionN (id := 1) (fun _ => ?_)); refine OPS_valS (Val_makeFunc) rfl rfl rfl ?_; refine OPS_valS (Val_assign (by exact (rfl : _ = Value.func _ _ _))) rfl rfl rfl ?_; (with_reducible apply OPS_nil); refine HThen.normal (by assumption) ?_; (with_reducible apply WP_ret)))
  exact QBody_ret1 rfl rfl ⟨_, rfl, _, rfl, rfl⟩
theorem told_tri (L : Hp) (g : Bg) : Tri Try.prog N w0 L 95 [.pointer (some ⟨g.b, 0, none⟩)].toArray fun x L' => ∃ v, x = .returned v ∧ ∃ pb, v = .func (.func 106) #[] #[.pointer (some ⟨pb, 0, none⟩)] ∧ L' = (pb, Blk 77 [.pointer (some ⟨g.b, 0, none⟩)]) :: L := by
  refine tri_of_WP Try.func95 rfl (n := 4) rfl (by simp) ?_
  repeat' (first | ((with_reducible refine WP_seqK (fun K hK => ?_)); (with_reducible refine WP_regionN (id := 0) (fun _ => ?_)); refine OPS_newS blk_is (New_box (by exact (rfl : _ = Value.pointer (some ⟨_, _, none⟩))) (by first | (exact svV_cells) | (rfl))) rfl rfl rfl (fun b1 => ?_); refine OPS_valS (Val_assign (by first | (exact (rfl : _ = Value.func _ _ _)) | (exact (rfl : _ = Value.nilFunc)))) rfl rfl rfl ?_; (with_reducible apply OPS_nil); refine HThen.normal (by assumption) ?_; (with_reducible refine WP_seqK (fun K hK => ?_)); (with_reducible refine WP_regionN (id := 1) (fun _ => ?_)); refine OPS_valS (Val_makeFunc) rfl rfl rfl ?_; refine OPS_valS (Val_assign (by exact (rfl : _ = Value.func _ _ _))) rfl rfl rfl ?_; (with_reducible apply OPS_nil); refine HThen.normal (by assumption) ?_; (with_reducible apply WP_ret)))
  exact QBody_ret1 rfl rfl ⟨_, rfl, _, rfl, rfl⟩
def NdT (pb : Nat) (g : Bg) : Hp := (pb, Blk 77 [.pointer (some ⟨g.b, 0, none⟩)]) :: Bk g
theorem told_iter (g : Bg) (hv : VH g.h) (hA : HeapAt N w0 g) (pb : Nat) : IterOK Try.prog N w0 106 [.pointer (some ⟨pb, 0, none⟩)] (argL (toldL g.h)) (NdT pb g) := by
  intro fy ya yb J Jx hY hnd Fr X h0
  refine Tri.fgt ?_
  refine tri_of_WPL Try.func106 rfl (n := 18) rfl (by simp) ?_
  have hmp : Mem pb (Blk 77 [.pointer (some ⟨g.b, 0, none⟩)]) (Fr ++ X) := ((hnd _ _ h0).appR X).mem .here
  repeat' (first | ((with_reducible refine WP_seqK (fun K hK => ?_)); (with_reducible refine WP_regionN (id := 0) (fun _ => ?_)); refine OPS_newS blk_is (New_box (by exact (rfl : _ = Value.func _ _ _)) (by first | (exact svV_cells) | (rfl))) rfl rfl rfl (fun b2 => ?_); (with_reducible apply OPS_nil); refine HThen.normal (by assumption) ?_; (with_reducible refine WP_seqK (fun K hK => ?_)); (with_reducible refine WP_regionN (id := 1) (fun _ => ?_)); ((refine OPS_valS (Val_load1 rfl (by repeat (first | exact Mem.here | assumption | apply Mem.there | apply Mem.sv | apply Mem.app)) (by rfl)) rfl rfl rfl ?_)); refine OPS_retKS (Enters_fn rfl) (rainfalls_tri N w0 _ g) rfl rfl rfl (fun v5 L5 h5 => ?_); obtain ⟨pr, rfl, rfl⟩ := h5; (with_reducible apply OPS_nil); refine HThen.normal (by assumption) ?_; (with_reducible apply WP_block)))
  have hev := hv.nl
  refine WP_rangeFunc (cc := [.pointer (some ⟨pr, 0, none⟩)]) (xs := argL (rowsL g.h)) (nd := NdR pr g) rfl (by rw [← seg_rows]; exact rainfalls_iter N w0 g hv hA pr)
    (fun k F => ∃ Fr, F = (pr, Blk 77 [.pointer (some ⟨g.b, 0, none⟩)]) :: (b2, Blk 146 [.func fy ya yb]) :: Fr ∧ J (cnt (fun r => canB g.h r (evL g.h)) (rowsL g.h) k) Fr)
    (fun x F => x = .ret ∧ ∃ Fr, F = (pr, Blk 77 [.pointer (some ⟨g.b, 0, none⟩)]) :: (b2, Blk 146 [.func fy ya yb]) :: Fr ∧ Jx Fr)
    ((pr, Blk 77 [.pointer (some ⟨g.b, 0, none⟩)]) :: (b2, Blk 146 [.func fy ya yb]) :: Fr) X (Wk.refl _) ⟨Fr, rfl, h0⟩ ?_ (by simp [argL]) rfl ?_ ?_ ?_
  · rintro k _ ⟨F, rfl, hJ⟩
    obtain ⟨L0, hp⟩ := hnd _ _ hJ
    exact ⟨(b2, Blk 146 [.func fy ya yb]) :: (pb, Blk 77 [.pointer (some ⟨g.b, 0, none⟩)]) :: (g.m, MapOf qks (keptF g.h)) :: L0, .cons _ ((hp.cons _).trans (List.perm_middle (l₁ := [_, _])))⟩
  · rintro l X0 k hk _ ⟨F, rfl, hJ⟩
    have hk' : k < (rowsL g.h).length := by simpa [argL] using hk
    have hx : (argL (rowsL g.h))[k] = [.agg (ints (rowsL g.h)[k]).toArray] := by simp [argL]
    rw [hx]
    obtain ⟨r0, r1, r2, r3, r4, r5, hrow, hb⟩ := rowsL_six hv (List.getElem_mem hk')
    rw [hrow]
    have hs := hnd _ _ hJ
    have hmp : Mem pb (Blk 77 [.pointer (some ⟨g.b, 0, none⟩)]) (F ++ X0) := (hs.appR X0).mem .here
    repeat' (first | ((with_reducible refine WP_regionN (id := 2) (fun _ => ?_)); refine OPS_newS blk_is New_alloc rfl rfl rfl (fun b3 => ?_); refine OPS_turnN (Turn_store rfl (rfl : _ = Value.agg _) (by repeat (first | exact Up.here | apply Up.there | apply Up.sv)) (by first | (exact svV_cells) | (rfl)) (by repeat (first | exact Over.nil | apply Over.cons | apply PutAt.there | apply PutAt.here)) (by rfl) (by rfl)) rfl rfl ?_; (with_reducible apply OPS_nil)))
    refine ⟨rfl, (b3, Blk 86 (ints [r0, r1, r2, r3, r4, r5])) :: (pr, Blk 77 [.pointer (some ⟨g.b, 0, none⟩)]) :: (b2, Blk 146 [.func fy ya yb]) :: F, rfl, fun X1 => ?_⟩
    have hmp : Mem pb (Blk 77 [.pointer (some ⟨g.b, 0, none⟩)]) (F ++ X1) := (hs.appR X1).mem .here
    have hmb : Mem g.b (Blk 94 (bogL g)) (F ++ X1) := (hs.appR X1).mem (.there .here)
    have hbk : Sub (Bk g) (F ++ X1) := .appR X1 (.trans ⟨[_], (List.perm_append_comm (l₁ := [_]))⟩ hs)
    have hcan := fun L h => can_ret N w0 L g h hv hA r0 r1 r2 r3 r4 r5 hb (evL g.h) (by unfold evL; have := Nat.pow_le_pow_right (n := 2) (by omega) hev; omega)
    simp only [List.cons_append]
    by_cases hcn : canB g.h [r0, r1, r2, r3, r4, r5] (evL g.h) = true
    · obtain ⟨hj, hjx⟩ := cnt_get (p := fun r => canB g.h r (evL g.h)) hk' (by rw [hrow]; exact hcn)
      have hcv := hY.at ((b3, Blk 86 (ints [r0, r1, r2, r3, r4, r5])) :: (pr, Blk 77 [.pointer (some ⟨g.b, 0, none⟩)]) :: (b2, Blk 146 [.func fy ya yb]) :: []) X1 (by simpa [argL, toldL] using hj) hJ
      have hcx : ∀ h, (argL (toldL g.h))[cnt (fun r => canB g.h r (evL g.h)) (rowsL g.h) k]'h = [.agg (ints [r0, r1, r2, r3, r4, r5]).toArray] := by intro h; simp only [argL, toldL, List.getElem_map]; rw [hjx, hrow]
      rw [hcx] at hcv
      have hcan1 := fun L h => hcan L h
      simp only [hcn] at hcan1
      repeat' (first | ((with_reducible apply WP_ret); (with_reducible apply QBlock_ret)) | ((with_reducible apply WP_skip); (with_reducible apply QBlock_normal)) | ((with_reducible apply WP_block); (with_reducible refine WP_seqK (fun K hK => ?_)); refine WP_drawn (id := 3) [0, 1, 2, 3, 4, 5, 6, 7] [] (k := 3) prog_mixed (by kernel_rfl) rfl ?_; ((refine EWalk_evS rfl rfl rfl rfl rfl (Ev_val (Val_load1 rfl (by repeat (first | exact Mem.here | assumption | apply Mem.there | apply Mem.sv | apply Mem.app)) (by rfl))) ?_)); ((refine EWalk_evS rfl rfl rfl rfl rfl (Ev_val (Val_loadN rfl (by repeat (first | exact Mem.here | assumption | apply Mem.there | apply Mem.sv | apply Mem.app)) (by repeat (first | exact Pre.nil | apply Pre.cons | apply Cut.there | apply Cut.here)))) ?_)); ((refine EWalk_evS rfl rfl rfl rfl rfl (Ev_val (Val_load1 rfl (by repeat (first | exact Mem.here | assumption | apply Mem.there | apply Mem.sv | apply Mem.app)) (by rfl))) ?_)); refine EWalk_evS rfl rfl rfl rfl rfl (Ev_ret (Enters_fn rfl) (fun X => (every_ret N w0 _ g (Sub.mem (B := Bk g) (by repeat (first | exact Sub.refl _ | assumption | exact Sub.left | apply Sub.cons | apply Sub.sv | apply Sub.app)) .here) hev))) ?_; refine EWalk_evS rfl rfl rfl rfl rfl (Ev_ret (Enters_fn rfl) (fun X => (hcan1 _ (by repeat (first | exact Sub.refl _ | assumption | exact Sub.left | apply Sub.cons | apply Sub.sv | apply Sub.app))))) ?_; refine EWalk_evS rfl rfl rfl rfl rfl (Ev_val (Val_move (rfl : _ = Value.bool _))) ?_; any_goals (((refine EWalk_evS rfl rfl rfl rfl rfl (Ev_val (Val_load1 rfl (by repeat (first | exact Mem.here | assumption | apply Mem.there | apply Mem.sv | apply Mem.app)) (by rfl))) ?_))); any_goals (((refine EWalk_evS rfl rfl rfl rfl rfl (Ev_val (Val_loadN rfl (by repeat (first | exact Mem.here | assumption | apply Mem.there | apply Mem.sv | apply Mem.app)) (by repeat (first | exact Pre.nil | apply Pre.cons | apply Cut.there | apply Cut.here)))) ?_))); any_goals (with_reducible apply EWalk_nil); any_goals (refine AWalk_0 ?_); any_goals (refine AnyO_1 8 (by kernel_rfl) rfl ?_; (((refine OPS_callVS rfl rfl hcv rfl rfl (fun v15 L15 hK15 => ?_); obtain ⟨bv, Fr', rfl, rfl, hc15⟩ := hK15)); (with_reducible apply OPS_nil); (with_reducible apply QAny_normal); (refine AnyO_1 9 (by kernel_rfl) rfl ?_; (((refine OPS_valS (Val_not rfl) rfl rfl rfl ?_)); (with_reducible apply OPS_nil); (with_reducible apply QAny_normal); (refine AnyO_1 10 (by kernel_rfl) rfl ?_; (((refine OPS_valS (Val_pick_t rfl (rfl : _ = Value.bool _)) rfl rfl rfl ?_)); (with_reducible apply OPS_nil); (with_reducible apply QAny_normal); (refine AnyO_done (by kernel_rfl) ?_))))))); any_goals (refine HThen.normal (by assumption) ?_); any_goals (first | (refine WP_cond_true rfl ?_) | (refine WP_cond_false rfl ?_) | (refine WP_condD rfl (fun hc => ?_) (fun hc => ?_) <;> (try (exfalso; omega))) | (refine WP_condE rfl (fun hc => ?_) (fun hc => ?_) <;> (try (exfalso; omega))) | (refine WP_condN rfl (fun hc => ?_) (fun hc => ?_) <;> (try (exfalso; omega))) | (refine WP_condV rfl (fun hc => ?_) (fun hc => ?_) <;> (try (exfalso; omega))))))
      · refine ⟨(pr, Blk 77 [.pointer (some ⟨g.b, 0, none⟩)]) :: (b2, Blk 146 [.func fy ya yb]) :: Fr', .drop (Wk.refl _), rfl, Fr', rfl, ?_⟩
        rcases hc15 with ⟨h, _⟩ | ⟨_, h⟩
        · rw [h] at hc; cases hc
        · exact h
      · refine ⟨(pr, Blk 77 [.pointer (some ⟨g.b, 0, none⟩)]) :: (b2, Blk 146 [.func fy ya yb]) :: Fr', .drop (Wk.refl _), Fr', rfl, ?_⟩
        rcases hc15 with ⟨_, h⟩ | ⟨h, _⟩
        · rw [cnt_yes hk' (by rw [hrow]; exact hcn)]; exact h
        · rw [h] at hc; cases hc
    · have hcn' : canB g.h [r0, r1, r2, r3, r4, r5] (evL g.h) = false := by simpa using hcn
      simp only [hcn'] at hcan
      repeat' (first | ((with_reducible apply WP_skip); (with_reducible apply QBlock_normal)) | ((with_reducible apply WP_block); (with_reducible refine WP_seqK (fun K hK => ?_)); refine WP_drawn (id := 3) [0, 1, 2, 3, 4, 5, 6, 7] [] (k := 3) prog_mixed (by kernel_rfl) rfl ?_; ((refine EWalk_evS rfl rfl rfl rfl rfl (Ev_val (Val_load1 rfl (by repeat (first | exact Mem.here | assumption | apply Mem.there | apply Mem.sv | apply Mem.app)) (by rfl))) ?_)); ((refine EWalk_evS rfl rfl rfl rfl rfl (Ev_val (Val_loadN rfl (by repeat (first | exact Mem.here | assumption | apply Mem.there | apply Mem.sv | apply Mem.app)) (by repeat (first | exact Pre.nil | apply Pre.cons | apply Cut.there | apply Cut.here)))) ?_)); ((refine EWalk_evS rfl rfl rfl rfl rfl (Ev_val (Val_load1 rfl (by repeat (first | exact Mem.here | assumption | apply Mem.there | apply Mem.sv | apply Mem.app)) (by rfl))) ?_)); refine EWalk_evS rfl rfl rfl rfl rfl (Ev_ret (Enters_fn rfl) (fun X => (every_ret N w0 _ g (Sub.mem (B := Bk g) (by repeat (first | exact Sub.refl _ | assumption | exact Sub.left | apply Sub.cons | apply Sub.sv | apply Sub.app)) .here) hev))) ?_; refine EWalk_evS rfl rfl rfl rfl rfl (Ev_ret (Enters_fn rfl) (fun X => (hcan _ (by repeat (first | exact Sub.refl _ | assumption | exact Sub.left | apply Sub.cons | apply Sub.sv | apply Sub.app))))) ?_; refine EWalk_evS rfl rfl rfl rfl rfl (Ev_val (Val_move (rfl : _ = Value.bool _))) ?_; any_goals ((first | (refine EWalk_evS rfl rfl rfl rfl rfl (Ev_val (Val_load1 rfl (by repeat (first | exact Mem.here | assumption | apply Mem.there | apply Mem.sv | apply Mem.app)) (by rfl))) ?_) | (refine EWalk_evS rfl rfl rfl rfl rfl (Ev_val (Val_loadR1 rfl (by assumption) (by assumption))) ?_) | (refine EWalk_skipS rfl rfl rfl rfl ?_))); any_goals ((first | (refine EWalk_evS rfl rfl rfl rfl rfl (Ev_val (Val_loadN rfl (by repeat (first | exact Mem.here | assumption | apply Mem.there | apply Mem.sv | apply Mem.app)) (by repeat (first | exact Pre.nil | apply Pre.cons | apply Cut.there | apply Cut.here)))) ?_) | (refine EWalk_evS rfl rfl rfl rfl rfl (Ev_val (Val_loadW rfl (by repeat (first | exact Mem.here | assumption | apply Mem.there | apply Mem.sv | apply Mem.app)) (by rfl))) ?_) | (refine EWalk_evS rfl rfl rfl rfl rfl (Ev_val (Val_loadRN rfl (by assumption) (by assumption) (by rfl))) ?_) | (refine EWalk_skipS rfl rfl rfl rfl ?_))); any_goals (with_reducible apply EWalk_nil); any_goals (refine AWalk_0 ?_); any_goals (refine AnyO_1 8 (by kernel_rfl) rfl ?_; ((first | (skip; fail) | (refine OPS_skipS rfl rfl ?_)); (with_reducible apply OPS_nil); (with_reducible apply QAny_normal); (refine AnyO_1 9 (by kernel_rfl) rfl ?_; ((first | (refine OPS_valS (Val_not rfl) rfl rfl rfl ?_) | (refine OPS_skipS rfl rfl ?_)); (with_reducible apply OPS_nil); (with_reducible apply QAny_normal); (refine AnyO_1 10 (by kernel_rfl) rfl ?_; ((first | (refine OPS_valS (Val_pick_t rfl (rfl : _ = Value.bool _)) rfl rfl rfl ?_) | (refine OPS_valS (Val_pick_f rfl (rfl : _ = Value.bool _)) rfl rfl rfl ?_)); (with_reducible apply OPS_nil); (with_reducible apply QAny_normal); (refine AnyO_done (by kernel_rfl) ?_))))))); any_goals (refine HThen.normal (by assumption) ?_); any_goals (first | (refine WP_cond_true rfl ?_) | (refine WP_cond_false rfl ?_))))
      refine ⟨(pr, Blk 77 [.pointer (some ⟨g.b, 0, none⟩)]) :: (b2, Blk 146 [.func fy ya yb]) :: F, .drop (Wk.refl _), F, rfl, ?_⟩
      rw [cnt_no hk' (by rw [hrow]; exact hcn')]; exact hJ
  · rintro D _ ⟨F, rfl, hJ⟩
    refine QBlock_normal ?_; refine QLeave_end ?_; refine Lv_mark (by simp) .here ?_; refine Lv_nil (rs := []) rfl .nil rfl ?_
    refine ⟨F ++ X, .drop (.drop (.drop (Wk.refl (F ++ X)))), ⟨_, rfl⟩, F, rfl, .inl ?_⟩
    rw [show (argL (rowsL g.h)).length = (rowsL g.h).length by simp [argL], cnt_all] at hJ
    simpa [argL, toldL] using hJ
  · rintro D x _ ⟨rfl, F, rfl, hJ⟩ _
    refine QBlock_ret ?_; refine QLeave_ret ?_; refine Lv_mark (by simp) .here ?_; refine Lv_nil (rs := []) rfl .nil rfl ?_
    exact ⟨F ++ X, .drop (.drop (.drop (Wk.refl (F ++ X)))), ⟨_, rfl⟩, F, rfl, .inr hJ⟩
end
end Go.Proofs.Ytlpahkmfjpjheaa
end

section
namespace Go.Proofs.Ytlpahkmfjpjheaa
open Go.RowKit
attribute [local irreducible] AnyO AnyB QAny QB EWalk AWalk Ev WP OPS QThen QBlock QScope QLoop QBody Val New Turn Tri Enters PostA Blk Ro
section
variable (N : Nat) (w0 : World)
def someB (h : Hv) (looks : Nat) : Bool := (rowsL h).any fun r => canB h r looks
theorem some_ret (L : Hp) (g : Bg) (hS : Sub (Bk g) L) (hv : VH g.h) (hA : HeapAt N w0 g) (looks : Nat) (hlk : looks ≤ 31) : Ret Try.prog N w0 L 74 [.pointer (some ⟨g.b, 0, none⟩), .int .u64 looks].toArray (.bool (someB g.h looks)) := by
  refine Ret.fgt ?_
  refine tri_of_WPL Try.func74 rfl (n := 13) rfl (by simp) ?_
  repeat' (first | (refine Znh ?_) | (refine GiW ?_; first | (refine Zsq fun K hK => ?_) | (refine ZrN 0 fun _ => ?_; refine Zal 2 fun b2 => ?_; refine Zal 3 fun b3 => ?_; refine Zal 4 fun b4 => ?_) | (refine ZrN 1 fun _ => ?_; refine Zv Zld ?_; refine OPS_retKS (Enters_fn rfl) (rainfalls_tri N w0 _ g) rfl rfl rfl (fun v7 L7 h7 => ?_); obtain ⟨pr, rfl, rfl⟩ := h7) | (with_reducible apply WP_block)))
  have fr : ∀ (z : Bool) (Y : Hp), Wk ((pr, Blk 77 [.pointer (some ⟨g.b, 0, none⟩)]) :: (b4, Blk 4 [.bool z]) :: (b3, Blk 97 [.int .u64 looks]) :: (b2, Blk 77 [.pointer (some ⟨g.b, 0, none⟩)]) :: (L ++ Y)) (((pr, Blk 77 [.pointer (some ⟨g.b, 0, none⟩)]) :: (b4, Blk 4 [.bool z]) :: (b3, Blk 97 [.int .u64 looks]) :: (b2, Blk 77 [.pointer (some ⟨g.b, 0, none⟩)]) :: L) ++ Y) := fun _ _ => Wk.refl _
  refine WP_rangeFunc (cc := [.pointer (some ⟨pr, 0, none⟩)]) (xs := argL (rowsL g.h)) (nd := NdR pr g) rfl (by rw [← seg_rows]; exact rainfalls_iter N w0 g hv hA pr)
    (fun k F => F = (pr, Blk 77 [.pointer (some ⟨g.b, 0, none⟩)]) :: (b4, Blk 4 [.bool false]) :: (b3, Blk 97 [.int .u64 looks]) :: (b2, Blk 77 [.pointer (some ⟨g.b, 0, none⟩)]) :: L ∧ ∀ r ∈ (rowsL g.h).take k, canB g.h r looks = false)
    (fun x F => x = .ret ∧ F = (pr, Blk 77 [.pointer (some ⟨g.b, 0, none⟩)]) :: (b4, Blk 4 [.bool true]) :: (b3, Blk 97 [.int .u64 looks]) :: (b2, Blk 77 [.pointer (some ⟨g.b, 0, none⟩)]) :: L ∧ someB g.h looks = true)
    ((pr, Blk 77 [.pointer (some ⟨g.b, 0, none⟩)]) :: (b4, Blk 4 [.bool false]) :: (b3, Blk 97 [.int .u64 looks]) :: (b2, Blk 77 [.pointer (some ⟨g.b, 0, none⟩)]) :: L) [] (by rw [List.append_nil]; exact Wk.refl _) ⟨rfl, by simp⟩ ?_ (by simp [argL]) rfl ?_ ?_ ?_
  · rintro k _ ⟨rfl, -⟩
    obtain ⟨L0, hp⟩ := hS
    exact ⟨(b4, Blk 4 [.bool false]) :: (b3, Blk 97 [.int .u64 looks]) :: (b2, Blk 77 [.pointer (some ⟨g.b, 0, none⟩)]) :: (g.m, MapOf qks (keptF g.h)) :: L0, .cons _ ((((hp.cons _).cons _).cons _).trans (List.perm_middle (l₁ := [_, _, _])))⟩
  · rintro l X0 k hk _ ⟨rfl, hno⟩
    have hk' : k < (rowsL g.h).length := by simpa [argL] using hk
    have hx : (argL (rowsL g.h))[k] = [.agg (ints (rowsL g.h)[k]).toArray] := by simp [argL]
    rw [hx]
    obtain ⟨r0, r1, r2, r3, r4, r5, hrow, hb⟩ := rowsL_six hv (List.getElem_mem hk')
    rw [hrow]
    repeat' (first | (with_reducible refine Znl ?_) | (refine ZrN 2 fun _ => ?_; refine Zal 5 fun b5 => ?_; refine Zst ?_))
    refine ⟨rfl, (b5, Blk 86 (ints [r0, r1, r2, r3, r4, r5])) :: (pr, Blk 77 [.pointer (some ⟨g.b, 0, none⟩)]) :: (b4, Blk 4 [.bool false]) :: (b3, Blk 97 [.int .u64 looks]) :: (b2, Blk 77 [.pointer (some ⟨g.b, 0, none⟩)]) :: L, rfl, fun X1 => ?_⟩
    have hbk : Sub (Bk g) (L ++ X1) := .appR X1 hS
    simp only [List.cons_append]
    repeat' (first | (refine Znh ?_) | (refine GiW ?_; first | (refine Zsq fun K hK => ?_) | (refine ZrN 3 fun _ => ?_; refine Zv Zld ?_; refine Zv Zla ?_; refine Zv Zld ?_; refine Zcl (Enters_fn rfl) (can_ret N w0 _ g (by repeat (first | exact Sub.refl _ | assumption | exact Sub.left | apply Sub.cons | apply Sub.sv | apply Sub.app)) hv hA r0 r1 r2 r3 r4 r5 hb looks hlk) ?_) | (refine ZrN 4 fun _ => ?_; refine Zst ?_) | (refine Zcd (fun hc => ?_) (fun hc => ?_) <;> (try (exfalso; omega))) | (with_reducible apply WP_skip) | (with_reducible apply WP_block) | (with_reducible apply WP_ret)) | (with_reducible apply QBlock_normal) | (with_reducible apply QBlock_ret))
    · refine ⟨(pr, Blk 77 [.pointer (some ⟨g.b, 0, none⟩)]) :: (b4, Blk 4 [.bool true]) :: (b3, Blk 97 [.int .u64 looks]) :: (b2, Blk 77 [.pointer (some ⟨g.b, 0, none⟩)]) :: L, .drop (Wk.refl _), rfl, rfl, ?_⟩
      exact List.any_eq_true.2 ⟨_, List.getElem_mem hk', by rw [hrow]; exact hc⟩
    · refine ⟨(pr, Blk 77 [.pointer (some ⟨g.b, 0, none⟩)]) :: (b4, Blk 4 [.bool false]) :: (b3, Blk 97 [.int .u64 looks]) :: (b2, Blk 77 [.pointer (some ⟨g.b, 0, none⟩)]) :: L, .drop (Wk.refl _), rfl, ?_⟩
      rw [List.take_succ_eq_append_getElem hk']
      intro r hr
      rcases List.mem_append.1 hr with hr | hr
      · exact hno r hr
      · rw [List.mem_singleton.1 hr, hrow]; exact hc
  · rintro D _ ⟨rfl, hno⟩
    rw [List.append_nil]
    repeat' (first | (refine Znh ?_) | (refine GiW ?_; first | (refine Zsq fun K hK => ?_) | (refine ZrN 5 fun _ => ?_; refine Zst ?_) | (with_reducible apply WP_ret)) | (refine Zhn ?_) | (with_reducible apply QBlock_normal))
    refine QLeave_ret ?_; refine Lv_mark (by simp) .here ?_; refine Lv_nil rfl (.cell1 rfl (by repeat (first | exact Mem.here | assumption | apply Mem.there | apply Mem.sv | apply Mem.app)) rfl .nil) rfl ⟨?_, (by repeat (first | exact Wk.refl _ | apply Wk.keep1 | apply Wk.drop | apply Wk.sv | apply Wk.svD | apply Wk.appD))⟩
    have : someB g.h looks = false := by
      unfold someB
      rw [List.any_eq_false]
      intro r hr
      have := hno r (by simpa [argL] using hr)
      simp [this]
    rw [this]; rfl
  · rintro D x _ ⟨rfl, rfl, hsm⟩ _
    rw [List.append_nil]
    refine QBlock_ret ?_; refine HThen.ret (by assumption) ?_
    refine QLeave_ret ?_; refine Lv_mark (by simp) .here ?_; refine Lv_nil rfl (.cell1 rfl (by repeat (first | exact Mem.here | assumption | apply Mem.there | apply Mem.sv | apply Mem.app)) rfl .nil) rfl ⟨?_, (by repeat (first | exact Wk.refl _ | apply Wk.keep1 | apply Wk.drop | apply Wk.sv | apply Wk.svD | apply Wk.appD))⟩
    rw [hsm]; rfl
end
end Go.Proofs.Ytlpahkmfjpjheaa
end
