/- Package heap's functions, as a law calls them: of heaps that lie in blocks of its own, or in its arguments. · The examples of the heap laws. · The examples of the heap laws, computed. · The heap laws' alive. -/
import Derived.Test.YtlpahkmfjpjheaaM6
section
namespace Go.Proofs.Ytlpahkmfjpjheaa
open Go.RowKit
/-- Where heaps lie: in the world as it is. -/
def HeapIn (N : Nat) (w0 : World) (L : Hp) (g : Bg) : Prop := ∀ w, Inv N w0 L w → HeapAt w.heap.size w g
theorem HeapIn.wk {N : Nat} {w0 : World} {L L' : Hp} {g : Bg} (h : HeapIn N w0 L' g) (k : Wk L L') : HeapIn N w0 L g := fun w hI => h w (hI.wk k)
section
variable (N : Nat) (w0 : World) (L : Hp) (g : Bg) (h : HeapIn N w0 L g)
include h
theorem Wet_in (heap day : Int) : Ret Try.prog N w0 L 14 [heapV g, .int .i64 heap, .int .i64 day].toArray (.tuple [.agg [.int .i64 (WetV g.h heap day).1, .int .i64 (WetV g.h heap day).2].toArray, .int .i64 (errE g.h (WetOk g.h heap day))].toArray) :=
  Ret.re fun w hI => Wet_ret _ w [] g (h w hI) heap day
theorem Rain_in (day : Int) : Ret Try.prog N w0 L 16 [heapV g, .int .i64 day].toArray (.tuple [.agg [.int .i64 (RainV g.h day).1, .int .i64 (RainV g.h day).2].toArray, .int .i64 (errE g.h (DayOk g.h day))].toArray) :=
  Ret.re fun w hI => Rain_ret _ w [] g (h w hI) day
theorem Dry_in (heap day : Int) : Ret Try.prog N w0 L 18 [heapV g, .int .i64 heap, .int .i64 day].toArray (.tuple [.int .i64 (DryV g.h heap day), .int .i64 (errE g.h (WetOk g.h heap day))].toArray) :=
  Ret.re fun w hI => Dry_ret _ w [] g (h w hI) heap day
theorem When_in (heap : Int) : Ret Try.prog N w0 L 20 [heapV g, .int .i64 heap].toArray (.tuple [.int .i64 (WhenV g.h heap), .int .i64 (WhenE g.h heap)].toArray) :=
  Ret.re fun w hI => When_ret _ w [] g (h w hI) heap
theorem All_in : Ret Try.prog N w0 L 22 [heapV g].toArray (.tuple [.int .i64 (AllV g.h), .int .i64 (AllE g.h)].toArray) :=
  Ret.re fun w hI => All_ret _ w [] g (h w hI)
theorem Doubt_in (day : Int) : Ret Try.prog N w0 L 24 [heapV g, .int .i64 day].toArray (.tuple [.int .i64 (DoubtV g.h day).1, .int .i64 (DoubtV g.h day).2, .int .i64 (errE g.h (DayOk g.h day))].toArray) :=
  Ret.re fun w hI => Doubt_ret _ w [] g (h w hI) day
theorem False_in : Ret Try.prog N w0 L 26 [heapV g].toArray (.tuple [.int .i64 (FalseV g.h).1, .int .i64 (FalseV g.h).2, .int .i64 (FalseE g.h)].toArray) :=
  Ret.re fun w hI => False_ret _ w [] g (h w hI)
theorem Clash_in : Ret Try.prog N w0 L 28 [heapV g].toArray (.tuple [.int .i64 (ClashV g.h), .int .i64 (ClashE g.h)].toArray) :=
  Ret.re fun w hI => Clash_ret _ w [] g (h w hI)
end
end Go.Proofs.Ytlpahkmfjpjheaa
end

section
namespace Go.Proofs.Ytlpahkmfjpjheaa
open Go.RowKit
def sampleH (l : List Lk) : Hv := { heaps := [⟨0, 30, 31⟩, ⟨2, 30, 30⟩], rains := [(0, 0), (0, 1), (0, 0)], d0 := 3, d1 := 5, d2 := 8, limit := 20, looks := l }
theorem flat_get {sz : Nat} : ∀ (rows : List (List Value)) (k j : Nat) (hk : k < rows.length), (∀ r ∈ rows, r.length = sz) → j < sz → rows.flatten[k * sz + j]? = rows[k][j]?
  | [], k, j, hk, _, _ => by simp at hk
  | r :: rows, 0, j, hk, hr, hj => by
    have := hr r (.head _)
    rw [List.flatten_cons, List.getElem?_append_left (by omega)]
    simp
  | r :: rows, k + 1, j, hk, hr, hj => by
    have h1 := hr r (.head _)
    have h2 : (k + 1) * sz + j - r.length = k * sz + j := by rw [h1, Nat.succ_mul]; omega
    rw [List.flatten_cons, List.getElem?_append_right (by rw [h1, Nat.succ_mul]; omega), h2, flat_get rows k j (by simpa using hk) (fun x hx => hr x (.tail _ hx)) hj]
    simp
/-- Rows that lie in a block of one's own. -/
theorem sl_of {N : Nat} {w0 w : World} {L : Hp} {b T sz : Nat} {cells : List Value} {rows : List (List Value)} (hI : Inv N w0 L w) (hm : Mem b (Blk T cells) L) (hc : cells = rows.flatten) (hr : ∀ r ∈ rows, r.length = sz) : SlAt w.heap.size w (some ⟨b, 0, none⟩) sz rows := by
  intro k hk
  refine ⟨b, 0, rfl, hI.lt hm.mem, ?_⟩
  intro j v hj
  have hj2 : j < sz := by
    have := (List.getElem?_eq_some_iff.1 hj).1
    rw [hr _ (List.getElem_mem hk)] at this
    exact this
  rw [Nat.zero_add, hI.cell hm, hc]
  have := flat_get rows k j hk hr hj2
  simpa [this] using hj
attribute [local irreducible] AnyO AnyB QAny QB EWalk AWalk Ev WP OPS QThen QBlock QScope QLoop QBody Val New Turn Tri Enters PostA Blk Ro
section
variable (N : Nat) (w0 : World)
theorem span31_ret (L : Hp) (lo hi : Int) : Ret Try.prog N w0 L 31 [.int .i64 lo, .int .i64 hi].toArray (.agg [.int .i64 lo, .int .i64 hi].toArray) := by
  refine Ret.fgt ?_
  refine tri_of_WP Try.func31 rfl (n := 8) rfl (by simp) ?_
  repeat' (first | (refine Znh ?_) | (refine GiW ?_; first | (refine Zsq fun K hK => ?_) | (refine ZrN 0 fun _ => ?_; refine Zal 4 fun b4 => ?_) | (refine ZrN 1 fun _ => ?_; refine Zv Zmi ?_; refine Zv Zmi ?_; refine Zv Zxbu ?_; refine Zst ?_) | (with_reducible apply WP_ret)))
  exact QBody_res rfl (.cellN rfl (by repeat (first | exact Mem.here | assumption | apply Mem.there | apply Mem.sv | apply Mem.app)) (.here (.cons (.cons .nil))) .nil) rfl ⟨rfl, (by repeat (first | exact Wk.refl _ | apply Wk.keep1 | apply Wk.drop | apply Wk.sv | apply Wk.svD | apply Wk.appD))⟩
theorem look40_ret (L : Hp) (heap day lo hi : Int) : Ret Try.prog N w0 L 40 [.int .i64 heap, .int .i64 day, .int .i64 lo, .int .i64 hi].toArray (.agg [.int .i64 heap, .int .i64 day, .int .i64 lo, .int .i64 hi].toArray) := by
  refine Ret.fgt ?_
  refine tri_of_WP Try.func40 rfl (n := 15) rfl (by simp) ?_
  repeat' (first | (refine Znh ?_) | (refine GiW ?_; first | (refine Zsq fun K hK => ?_) | (refine ZrN 0 fun _ => ?_; refine Zal 8 fun b8 => ?_) | (refine ZrN 1 fun _ => ?_; refine Zv Zmi ?_; refine Zv Zmi ?_; refine Zv Zmi ?_; refine Zv Zmi ?_; refine Zcl (Enters_fn rfl) (span31_ret N w0 _ _ _) ?_; refine Zv Zxbu ?_; refine Zst ?_) | (with_reducible apply WP_ret)))
  exact QBody_res rfl (.cellN rfl (by repeat (first | exact Mem.here | assumption | apply Mem.there | apply Mem.sv | apply Mem.app)) (.here (.cons (.cons (.cons (.cons .nil))))) .nil) rfl ⟨rfl, (by repeat (first | exact Wk.refl _ | apply Wk.keep1 | apply Wk.drop | apply Wk.sv | apply Wk.svD | apply Wk.appD))⟩
theorem sample_tri (L : Hp) (l : List Lk) (A3 : Option Addr) (c3 : Nat) : Tri Try.prog N w0 L 30 [.slice A3 l.length c3].toArray fun x L' => ∃ v, x = .returned v ∧ ∃ b7 b11, v = heapV ⟨sampleH l, some ⟨b7, 0, none⟩, 2, some ⟨b11, 0, none⟩, 3, A3, c3, 0, 0⟩ ∧ L' = (b11, Blk 31 [.int .i64 0, .int .i64 0, .int .i64 0, .int .i64 1, .int .i64 0, .int .i64 0]) :: (b7, Blk 65 [.int .i64 0, .int .i64 30, .int .i64 31, .int .i64 2, .int .i64 30, .int .i64 30]) :: L := by
  refine Tri.fgt ?_
  refine tri_of_WP Try.func30 rfl (n := 15) rfl (by simp) ?_
  repeat' (first | (refine Znh ?_) | (refine GiW ?_; first | (refine Zsq fun K hK => ?_) | (refine ZrN 0 fun _ => ?_; refine Zal 2 fun b2 => ?_) | (refine ZrN 1 fun _ => ?_; refine Zcl (Enters_fn rfl) (span31_ret N w0 _ _ _) ?_; refine Zv Zxbu ?_; refine Zcl (Enters_fn rfl) (span31_ret N w0 _ _ _) ?_; refine Zv Zxbu ?_; refine Zal 7 fun b7 => ?_; refine Zcl (Enters_fn rfl) (span31_ret N w0 _ _ _) ?_; refine Zcl (Enters_fn rfl) (span31_ret N w0 _ _ _) ?_; refine Zcl (Enters_fn rfl) (span31_ret N w0 _ _ _) ?_; refine Zal 11 fun b11 => ?_; refine Zv Zxbu ?_; refine Zv Zmv ?_; refine Zv Zxbu ?_; refine Zst ?_) | (with_reducible apply WP_ret)))
  refine QBody_res rfl (.cellN rfl (by repeat (first | exact Mem.here | assumption | apply Mem.there | apply Mem.sv | apply Mem.app)) (.here (.cons (.cons (.cons (.cons (.cons (.cons (.cons .nil)))))))) .nil) rfl ?_
  exact ⟨(b11, Blk 31 [.int .i64 0, .int .i64 0, .int .i64 0, .int .i64 1, .int .i64 0, .int .i64 0]) :: (b7, Blk 65 [.int .i64 0, .int .i64 30, .int .i64 31, .int .i64 2, .int .i64 30, .int .i64 30]) :: L, (by repeat (first | exact Wk.refl _ | apply Wk.keep1 | apply Wk.drop | apply Wk.sv | apply Wk.svD | apply Wk.appD)), _, rfl, b7, b11, rfl, rfl⟩
/-- What the examples' blocks hold. -/
def SampB (b7 b11 : Nat) : Hp := [(b11, Blk 31 [.int .i64 0, .int .i64 0, .int .i64 0, .int .i64 1, .int .i64 0, .int .i64 0]), (b7, Blk 65 [.int .i64 0, .int .i64 30, .int .i64 31, .int .i64 2, .int .i64 30, .int .i64 30])]
theorem samp_in (L : Hp) (b7 b11 : Nat) (l : List Lk) (A3 : Option Addr) (c3 b m : Nat) (h : Sub (SampB b7 b11) L) (h3 : ∀ w, Inv N w0 L w → SlAt w.heap.size w A3 4 (l.map lkL)) : HeapIn N w0 L ⟨sampleH l, some ⟨b7, 0, none⟩, 2, some ⟨b11, 0, none⟩, 3, A3, c3, b, m⟩ := by
  intro w hI
  exact ⟨sl_of hI (h.mem (.there .here)) rfl (by simp [sampleH, tfL]), sl_of hI (h.mem .here) rfl (by simp [sampleH, spL]), h3 w hI⟩
theorem looks_none (N : Nat) (w : World) (A : Option Addr) : SlAt N w A 4 (([] : List Lk).map lkL) := fun k hk => by simp at hk
/-- The heaps K. -/
def seenL : List Lk := [⟨1, 1, 20, 25⟩]
/-- The heaps N. -/
def clashL : List Lk := [⟨1, 1, 20, 25⟩, ⟨0, 2, 21, 22⟩]
theorem seen_tri (L : Hp) : Tri Try.prog N w0 L 32 [].toArray fun x L' => ∃ v, x = .returned v ∧ ∃ b7 b11 b2, v = heapV ⟨sampleH seenL, some ⟨b7, 0, none⟩, 2, some ⟨b11, 0, none⟩, 3, some ⟨b2, 0, none⟩, 1, 0, 0⟩ ∧ L' = SampB b7 b11 ++ (b2, Blk 61 [.int .i64 1, .int .i64 1, .int .i64 20, .int .i64 25]) :: L := by
  refine Tri.fgt ?_
  refine tri_of_WP Try.func32 rfl (n := 4) rfl (by simp) ?_
  have hs := fun L A3 c3 => sample_tri N w0 L seenL A3 c3
  unfold heapV hvL at hs ⊢
  repeat' (first | (refine Znh ?_) | (refine GiW ?_; first | (refine Zsq fun K hK => ?_) | (refine ZrN 0 fun _ => ?_; refine Zal 0 fun b0 => ?_) | (refine ZrN 1 fun _ => ?_; refine Zcl (Enters_fn rfl) (look40_ret N w0 _ _ _ _ _) ?_; refine Zal 2 fun b2 => ?_; refine OPS_retKS (Enters_fn rfl) (hs _ _ _) rfl rfl rfl (fun v3 L3 h3 => ?_); obtain ⟨b7, b11, rfl, rfl⟩ := h3; refine Zst ?_) | (with_reducible apply WP_ret)))
  refine QBody_res rfl (.cellN rfl (by repeat (first | exact Mem.here | assumption | apply Mem.there | apply Mem.sv | apply Mem.app)) (.here (.cons (.cons (.cons (.cons (.cons (.cons (.cons .nil)))))))) .nil) rfl ?_
  exact ⟨SampB b7 b11 ++ (b2, Blk 61 [.int .i64 1, .int .i64 1, .int .i64 20, .int .i64 25]) :: L, (by repeat (first | exact Wk.refl _ | apply Wk.keep1 | apply Wk.drop | apply Wk.sv | apply Wk.svD | apply Wk.appD)), _, rfl, b7, b11, b2, rfl, rfl⟩
theorem clash_tri (L : Hp) : Tri Try.prog N w0 L 33 [].toArray fun x L' => ∃ v, x = .returned v ∧ ∃ b7 b11 b3, v = heapV ⟨sampleH clashL, some ⟨b7, 0, none⟩, 2, some ⟨b11, 0, none⟩, 3, some ⟨b3, 0, none⟩, 2, 0, 0⟩ ∧ L' = SampB b7 b11 ++ (b3, Blk 61 [.int .i64 1, .int .i64 1, .int .i64 20, .int .i64 25, .int .i64 0, .int .i64 2, .int .i64 21, .int .i64 22]) :: L := by
  refine Tri.fgt ?_
  refine tri_of_WP Try.func33 rfl (n := 5) rfl (by simp) ?_
  have hs := fun L A3 c3 => sample_tri N w0 L clashL A3 c3
  unfold heapV hvL at hs ⊢
  repeat' (first | (refine Znh ?_) | (refine GiW ?_; first | (refine Zsq fun K hK => ?_) | (refine ZrN 0 fun _ => ?_; refine Zal 0 fun b0 => ?_) | (refine ZrN 1 fun _ => ?_; refine Zcl (Enters_fn rfl) (look40_ret N w0 _ _ _ _ _) ?_; refine Zcl (Enters_fn rfl) (look40_ret N w0 _ _ _ _ _) ?_; refine Zal 3 fun b3 => ?_; refine OPS_retKS (Enters_fn rfl) (hs _ _ _) rfl rfl rfl (fun v4 L4 h4 => ?_); obtain ⟨b7, b11, rfl, rfl⟩ := h4; refine Zst ?_) | (with_reducible apply WP_ret)))
  refine QBody_res rfl (.cellN rfl (by repeat (first | exact Mem.here | assumption | apply Mem.there | apply Mem.sv | apply Mem.app)) (.here (.cons (.cons (.cons (.cons (.cons (.cons (.cons .nil)))))))) .nil) rfl ?_
  exact ⟨SampB b7 b11 ++ (b3, Blk 61 [.int .i64 1, .int .i64 1, .int .i64 20, .int .i64 25, .int .i64 0, .int .i64 2, .int .i64 21, .int .i64 22]) :: L, (by repeat (first | exact Wk.refl _ | apply Wk.keep1 | apply Wk.drop | apply Wk.sv | apply Wk.svD | apply Wk.appD)), _, rfl, b7, b11, b3, rfl, rfl⟩
end
end Go.Proofs.Ytlpahkmfjpjheaa
end

section
namespace Go.Proofs.Ytlpahkmfjpjheaa
open Go.RowKit
theorem ex_wet : WetV (sampleH []) 0 2 = (21, 26) ∧ errE (sampleH []) (WetOk (sampleH []) 0 2) = 0 := ⟨by kernel_rfl, by kernel_rfl⟩
theorem ex_rain : RainV (sampleH seenL) 1 = (1, 1) ∧ errE (sampleH seenL) (DayOk (sampleH seenL) 1) = 0 := ⟨by kernel_rfl, by kernel_rfl⟩
theorem ex_dry : DryV (sampleH []) 1 1 = 1 ∧ errE (sampleH []) (WetOk (sampleH []) 1 1) = 0 := ⟨by kernel_rfl, by kernel_rfl⟩
theorem ex_when : WhenV (sampleH []) 1 = 2 ∧ WhenE (sampleH []) 1 = 0 := ⟨by kernel_rfl, by kernel_rfl⟩
theorem ex_all : AllE (sampleH []) = 4 := by kernel_rfl
theorem ex_doubt : DoubtV (sampleH []) 2 = (1, 9) ∧ errE (sampleH []) (DayOk (sampleH []) 2) = 0 := ⟨by kernel_rfl, by kernel_rfl⟩
theorem ex_false : FalseV (sampleH clashL) = (1, 1) ∧ FalseE (sampleH clashL) = 0 := ⟨by kernel_rfl, by kernel_rfl⟩
theorem ex_clash : ClashV (sampleH clashL) = 3 ∧ ClashE (sampleH clashL) = 0 := ⟨by kernel_rfl, by kernel_rfl⟩
end Go.Proofs.Ytlpahkmfjpjheaa
end

section
namespace Go.Proofs.Ytlpahkmfjpjheaa
open Go.RowKit
attribute [local irreducible] AnyO AnyB QAny QB EWalk AWalk Ev WP OPS QThen QBlock QScope QLoop QBody Val New Turn Tri Enters PostA Blk Ro
section
variable (N : Nat) (w0 : World)
def sampG (l : List Lk) (b7 b11 : Nat) (A3 : Option Addr) (c3 : Nat) : Bg := ⟨sampleH l, some ⟨b7, 0, none⟩, 2, some ⟨b11, 0, none⟩, 3, A3, c3, 0, 0⟩
theorem in0 (L : Hp) (b7 b11 : Nat) (h : Sub (SampB b7 b11) L) : HeapIn N w0 L (sampG [] b7 b11 none 0) := samp_in N w0 L b7 b11 [] none 0 0 0 h (fun w _ => looks_none _ w none)
theorem in1 (L : Hp) (b7 b11 b2 : Nat) (h : Sub (SampB b7 b11) L) (hm : Mem b2 (Blk 61 [.int .i64 1, .int .i64 1, .int .i64 20, .int .i64 25]) L) : HeapIn N w0 L (sampG seenL b7 b11 (some ⟨b2, 0, none⟩) 1) :=
  samp_in N w0 L b7 b11 seenL _ 1 0 0 h (fun w hI => sl_of hI hm rfl (by simp [seenL, lkL]))
theorem in2 (L : Hp) (b7 b11 b3 : Nat) (h : Sub (SampB b7 b11) L) (hm : Mem b3 (Blk 61 [.int .i64 1, .int .i64 1, .int .i64 20, .int .i64 25, .int .i64 0, .int .i64 2, .int .i64 21, .int .i64 22]) L) : HeapIn N w0 L (sampG clashL b7 b11 (some ⟨b3, 0, none⟩) 2) :=
  samp_in N w0 L b7 b11 clashL _ 2 0 0 h (fun w hI => sl_of hI hm rfl (by simp [clashL, lkL]))
theorem inK2 {a b : Int} (ha : 0 ≤ a ∧ a ≤ 100) (hb : 0 ≤ b ∧ b ≤ 100) : inKs [.i64, .i64] [a, b] := by
  refine ⟨rfl, ?_⟩
  intro p hp
  simp only [List.zip_cons_cons, List.zip_nil_right, List.mem_cons, List.not_mem_nil, or_false] at hp
  rcases hp with rfl | rfl <;> (simp [Lit.wf, IntKind.min, IntKind.max, IntKind.bits, IntKind.signed]; omega)
theorem alive_ret (L : Hp) : Ret Try.prog N w0 L 13 [].toArray (.bool true) := by
  have c14 : ∀ L b7 b11, Sub (SampB b7 b11) L → Ret Try.prog N w0 L 14 [heapV (sampG [] b7 b11 none 0), .int .i64 0, .int .i64 2].toArray (.tuple [.agg [.int .i64 21, .int .i64 26].toArray, .int .i64 0].toArray) := by
    intro L b7 b11 h; have := Wet_in N w0 L _ (in0 N w0 L b7 b11 h) 0 2
    rw [show (sampG [] b7 b11 none 0).h = sampleH [] from rfl, ex_wet.1, ex_wet.2] at this; exact this
  have c16 : ∀ L b7 b11 b2, Sub (SampB b7 b11) L → Mem b2 (Blk 61 [.int .i64 1, .int .i64 1, .int .i64 20, .int .i64 25]) L → Ret Try.prog N w0 L 16 [heapV (sampG seenL b7 b11 (some ⟨b2, 0, none⟩) 1), .int .i64 1].toArray (.tuple [.agg [.int .i64 1, .int .i64 1].toArray, .int .i64 0].toArray) := by
    intro L b7 b11 b2 h hm; have := Rain_in N w0 L _ (in1 N w0 L b7 b11 b2 h hm) 1
    rw [show (sampG seenL b7 b11 (some ⟨b2, 0, none⟩) 1).h = sampleH seenL from rfl, ex_rain.1, ex_rain.2] at this; exact this
  have c18 : ∀ L b7 b11, Sub (SampB b7 b11) L → Ret Try.prog N w0 L 18 [heapV (sampG [] b7 b11 none 0), .int .i64 1, .int .i64 1].toArray (.tuple [.int .i64 1, .int .i64 0].toArray) := by
    intro L b7 b11 h; have := Dry_in N w0 L _ (in0 N w0 L b7 b11 h) 1 1
    rw [show (sampG [] b7 b11 none 0).h = sampleH [] from rfl, ex_dry.1, ex_dry.2] at this; exact this
  have c20 : ∀ L b7 b11, Sub (SampB b7 b11) L → Ret Try.prog N w0 L 20 [heapV (sampG [] b7 b11 none 0), .int .i64 1].toArray (.tuple [.int .i64 2, .int .i64 0].toArray) := by
    intro L b7 b11 h; have := When_in N w0 L _ (in0 N w0 L b7 b11 h) 1
    rw [show (sampG [] b7 b11 none 0).h = sampleH [] from rfl, ex_when.1, ex_when.2] at this; exact this
  have c22 : ∀ L b7 b11, Sub (SampB b7 b11) L → Ret Try.prog N w0 L 22 [heapV (sampG [] b7 b11 none 0)].toArray (.tuple [.int .i64 (AllV (sampleH [])), .int .i64 4].toArray) := by
    intro L b7 b11 h; have := All_in N w0 L _ (in0 N w0 L b7 b11 h)
    rw [show (sampG [] b7 b11 none 0).h = sampleH [] from rfl, ex_all] at this; exact this
  have c24 : ∀ L b7 b11, Sub (SampB b7 b11) L → Ret Try.prog N w0 L 24 [heapV (sampG [] b7 b11 none 0), .int .i64 2].toArray (.tuple [.int .i64 1, .int .i64 9, .int .i64 0].toArray) := by
    intro L b7 b11 h; have := Doubt_in N w0 L _ (in0 N w0 L b7 b11 h) 2
    rw [show (sampG [] b7 b11 none 0).h = sampleH [] from rfl, ex_doubt.1, ex_doubt.2] at this; exact this
  have c26 : ∀ L b7 b11 b3, Sub (SampB b7 b11) L → Mem b3 (Blk 61 [.int .i64 1, .int .i64 1, .int .i64 20, .int .i64 25, .int .i64 0, .int .i64 2, .int .i64 21, .int .i64 22]) L → Ret Try.prog N w0 L 26 [heapV (sampG clashL b7 b11 (some ⟨b3, 0, none⟩) 2)].toArray (.tuple [.int .i64 1, .int .i64 1, .int .i64 0].toArray) := by
    intro L b7 b11 b3 h hm; have := False_in N w0 L _ (in2 N w0 L b7 b11 b3 h hm)
    rw [show (sampG clashL b7 b11 (some ⟨b3, 0, none⟩) 2).h = sampleH clashL from rfl, ex_false.1, ex_false.2] at this; exact this
  have c28 : ∀ L b7 b11 b3, Sub (SampB b7 b11) L → Mem b3 (Blk 61 [.int .i64 1, .int .i64 1, .int .i64 20, .int .i64 25, .int .i64 0, .int .i64 2, .int .i64 21, .int .i64 22]) L → Ret Try.prog N w0 L 28 [heapV (sampG clashL b7 b11 (some ⟨b3, 0, none⟩) 2)].toArray (.tuple [.int .i64 3, .int .i64 0].toArray) := by
    intro L b7 b11 b3 h hm; have := Clash_in N w0 L _ (in2 N w0 L b7 b11 b3 h hm)
    rw [show (sampG clashL b7 b11 (some ⟨b3, 0, none⟩) 2).h = sampleH clashL from rfl, ex_clash.1, ex_clash.2] at this; exact this
  refine Ret.fgt ?_
  refine tri_of_WP Try.func13 rfl (n := 129) rfl (by simp) ?_
  repeat' (first | (refine Znh ?_) | (refine GiW ?_; first | (refine Zsq fun K hK => ?_) | (refine ZrN 0 fun _ => ?_; refine Zv Zab ?_) | (refine ZrN 1 fun _ => ?_; refine OPS_retKS (Enters_fn rfl) (sample_tri N w0 _ [] none 0) rfl rfl rfl (fun vs Ls hs => ?_); obtain ⟨b7, b11, rfl, rfl⟩ := hs; refine Zcl (Enters_fn rfl) (c14 _ b7 b11 (by repeat (first | exact Sub.refl _ | assumption | exact Sub.left | apply Sub.cons | apply Sub.sv | apply Sub.app))) ?_; refine Zv Zmv ?_; refine Zv Zxex ?_; refine Zv Zxex ?_; refine Zal 1 fun b1 => ?_; refine Zst ?_; refine Zv Zai ?_) | (refine ZrN 2 fun _ => ?_; refine OPS_retKS (Enters_fn rfl) (seen_tri N w0 _) rfl rfl rfl (fun vs Ls hs => ?_); obtain ⟨b7, b11, b2, rfl, rfl⟩ := hs; refine Zcl (Enters_fn rfl) (c16 _ b7 b11 b2 (by repeat (first | exact Sub.refl _ | assumption | exact Sub.left | apply Sub.cons | apply Sub.sv | apply Sub.app)) (by repeat (first | exact Mem.here | assumption | apply Mem.there | apply Mem.sv | apply Mem.app))) ?_; refine Zv Zmv ?_; refine Zv Zxex ?_; refine Zv Zxex ?_; refine Zal 3 fun b3 => ?_; refine Zst ?_; refine Zv Zai ?_) | (refine ZrN 3 fun _ => ?_; refine OPS_retKS (Enters_fn rfl) (sample_tri N w0 _ [] none 0) rfl rfl rfl (fun vs Ls hs => ?_); obtain ⟨b7, b11, rfl, rfl⟩ := hs; refine Zcl (Enters_fn rfl) (c18 _ b7 b11 (by repeat (first | exact Sub.refl _ | assumption | exact Sub.left | apply Sub.cons | apply Sub.sv | apply Sub.app))) ?_; refine Zv Zmv ?_; refine Zv Zxex ?_; refine Zv Zxex ?_; refine Zv Zai ?_; refine Zv Zai ?_) | (refine ZrN 4 fun _ => ?_; refine OPS_retKS (Enters_fn rfl) (sample_tri N w0 _ [] none 0) rfl rfl rfl (fun vs Ls hs => ?_); obtain ⟨b7, b11, rfl, rfl⟩ := hs; refine Zcl (Enters_fn rfl) (c20 _ b7 b11 (by repeat (first | exact Sub.refl _ | assumption | exact Sub.left | apply Sub.cons | apply Sub.sv | apply Sub.app))) ?_; refine Zv Zmv ?_; refine Zv Zxex ?_; refine Zv Zxex ?_; refine Zv Zai ?_; refine Zv Zai ?_) | (refine ZrN 5 fun _ => ?_; refine OPS_retKS (Enters_fn rfl) (sample_tri N w0 _ [] none 0) rfl rfl rfl (fun vs Ls hs => ?_); obtain ⟨b7, b11, rfl, rfl⟩ := hs; refine Zcl (Enters_fn rfl) (c22 _ b7 b11 (by repeat (first | exact Sub.refl _ | assumption | exact Sub.left | apply Sub.cons | apply Sub.sv | apply Sub.app))) ?_; refine Zv Zmv ?_; refine Zv Zxex ?_; refine Zv Zxex ?_; refine Zv Zai ?_; refine Zv Zai ?_) | (refine ZrN 6 fun _ => ?_; refine OPS_retKS (Enters_fn rfl) (sample_tri N w0 _ [] none 0) rfl rfl rfl (fun vs Ls hs => ?_); obtain ⟨b7, b11, rfl, rfl⟩ := hs; refine Zcl (Enters_fn rfl) (c24 _ b7 b11 (by repeat (first | exact Sub.refl _ | assumption | exact Sub.left | apply Sub.cons | apply Sub.sv | apply Sub.app))) ?_; refine Zv Zmv ?_; refine Zv Zxex ?_; refine Zv Zxex ?_; refine Zv Zxex ?_; refine Zv Zai ?_; refine Zv Zai ?_; refine Zv Zai ?_) | (refine ZrN 7 fun _ => ?_; refine OPS_retKS (Enters_fn rfl) (clash_tri N w0 _) rfl rfl rfl (fun vs Ls hs => ?_); obtain ⟨b7, b11, b3, rfl, rfl⟩ := hs; refine Zcl (Enters_fn rfl) (c26 _ b7 b11 b3 (by repeat (first | exact Sub.refl _ | assumption | exact Sub.left | apply Sub.cons | apply Sub.sv | apply Sub.app)) (by repeat (first | exact Mem.here | assumption | apply Mem.there | apply Mem.sv | apply Mem.app))) ?_; refine Zv Zmv ?_; refine Zv Zxex ?_; refine Zv Zxex ?_; refine Zv Zxex ?_; refine Zv Zai ?_; refine Zv Zai ?_; refine Zv Zai ?_) | (refine ZrN 8 fun _ => ?_; refine OPS_retKS (Enters_fn rfl) (clash_tri N w0 _) rfl rfl rfl (fun vs Ls hs => ?_); obtain ⟨b7, b11, b3, rfl, rfl⟩ := hs; refine Zcl (Enters_fn rfl) (c28 _ b7 b11 b3 (by repeat (first | exact Sub.refl _ | assumption | exact Sub.left | apply Sub.cons | apply Sub.sv | apply Sub.app)) (by repeat (first | exact Mem.here | assumption | apply Mem.there | apply Mem.sv | apply Mem.app))) ?_; refine Zv Zmv ?_; refine Zv Zxex ?_; refine Zv Zxex ?_; refine Zv Zai ?_; refine Zv Zai ?_) | (with_reducible apply WP_ret) | (refine WP_drawn (id := 9) [0, 1, 2, 3, 4, 5, 6, 7, 8, 9, 10, 11, 12, 13, 14, 15, 16, 17, 18, 19, 20, 21, 22, 23, 24, 25, 26, 27, 28, 29, 30, 31, 32, 33, 34, 35, 36, 37, 38, 39, 40, 41, 42, 43, 44, 45, 46, 47, 48, 49, 50, 51, 52, 53, 54, 55, 56, 57, 58, 59, 60, 61, 62, 63, 64, 65, 66, 67, 68] [] (k := 0) prog_mixed (by kernel_rfl) rfl ?_; refine Zew rfl Zla ?_; refine Zec rfl (Enters_fn rfl) (fun X => span31_ret N w0 _ _ _) ?_; (first | (refine Zew rfl (Val_eqlI (ks := [.i64, .i64]) (a := [21, 26]) (b := [21, 26]) rfl rfl rfl rfl (inK2 (by omega) (by omega)) (inK2 (by omega) (by omega))) ?_) | (refine Zew rfl (Val_eqlI (ks := [.i64, .i64]) (a := [1, 1]) (b := [1, 1]) rfl rfl rfl rfl (inK2 (by omega) (by omega)) (inK2 (by omega) (by omega))) ?_) | (refine Zew rfl (Val_eql rfl rfl) ?_)); refine Zew rfl Zmb ?_)) | (refine GiE ?_; first | (refine Zati 6 ?_; (first | (refine Zew rfl Zxpt ?_) | (refine Zew rfl Zxpf ?_)); refine Zew rfl Zmb ?_) | (refine Zati 11 ?_; (first | (refine Zew rfl Zxpt ?_) | (refine Zew rfl Zxpf ?_)); refine Zew rfl Zmb ?_) | (refine Zati 15 ?_; (first | (refine Zew rfl Zxpt ?_) | (refine Zew rfl Zxpf ?_)); refine Zew rfl Zmb ?_) | (refine Zati 19 ?_; (first | (refine Zew rfl Zxpt ?_) | (refine Zew rfl Zxpf ?_)); refine Zew rfl Zmb ?_) | (refine Zati 23 ?_; (first | (refine Zew rfl Zxpt ?_) | (refine Zew rfl Zxpf ?_)); refine Zew rfl Zmb ?_) | (refine Zati 27 ?_; (first | (refine Zew rfl Zxpt ?_) | (refine Zew rfl Zxpf ?_)); refine Zew rfl Zmb ?_) | (refine Zati 31 ?_; (first | (refine Zew rfl Zxpt ?_) | (refine Zew rfl Zxpf ?_)); refine Zew rfl Zmb ?_) | (refine Zati 35 ?_; (first | (refine Zew rfl Zxpt ?_) | (refine Zew rfl Zxpf ?_)); refine Zew rfl Zmb ?_) | (refine Zati 39 ?_; (first | (refine Zew rfl Zxpt ?_) | (refine Zew rfl Zxpf ?_)); refine Zew rfl Zmb ?_) | (refine Zati 43 ?_; (first | (refine Zew rfl Zxpt ?_) | (refine Zew rfl Zxpf ?_)); refine Zew rfl Zmb ?_) | (refine Zati 47 ?_; (first | (refine Zew rfl Zxpt ?_) | (refine Zew rfl Zxpf ?_)); refine Zew rfl Zmb ?_) | (refine Zati 51 ?_; (first | (refine Zew rfl Zxpt ?_) | (refine Zew rfl Zxpf ?_)); refine Zew rfl Zmb ?_) | (refine Zati 55 ?_; (first | (refine Zew rfl Zxpt ?_) | (refine Zew rfl Zxpf ?_)); refine Zew rfl Zmb ?_) | (refine Zati 59 ?_; (first | (refine Zew rfl Zxpt ?_) | (refine Zew rfl Zxpf ?_)); refine Zew rfl Zmb ?_) | (refine Zati 63 ?_; (first | (refine Zew rfl Zxpt ?_) | (refine Zew rfl Zxpf ?_)); refine Zew rfl Zmb ?_) | (refine Zati 67 ?_; (first | (refine Zew rfl Zxpt ?_) | (refine Zew rfl Zxpf ?_)); refine Zew rfl Zab ?_) | (refine Zati 4 ?_; refine Zew rfl Zmi ?_) | (refine Zati 5 ?_; refine Zew rfl (Val_eql rfl rfl) ?_) | (refine Zati 8 ?_; refine Zew rfl Zla ?_) | (refine Zati 9 ?_; refine Zec rfl (Enters_fn rfl) (fun X => span31_ret N w0 _ _ _) ?_) | (refine Zati 10 ?_; refine Zew rfl (Val_eqlI (ks := [.i64, .i64]) (a := [1, 1]) (b := [1, 1]) rfl rfl rfl rfl (inK2 (by omega) (by omega)) (inK2 (by omega) (by omega))) ?_) | (refine Zati 13 ?_; refine Zew rfl Zmi ?_) | (refine Zati 14 ?_; refine Zew rfl (Val_eql rfl rfl) ?_) | (refine Zati 17 ?_; refine Zew rfl Zmi ?_) | (refine Zati 18 ?_; refine Zew rfl (Val_eql rfl rfl) ?_) | (refine Zati 21 ?_; refine Zew rfl Zmi ?_) | (refine Zati 22 ?_; refine Zew rfl (Val_eql rfl rfl) ?_) | (refine Zati 25 ?_; refine Zew rfl Zmi ?_) | (refine Zati 26 ?_; refine Zew rfl (Val_eql rfl rfl) ?_) | (refine Zati 29 ?_; refine Zew rfl Zmi ?_) | (refine Zati 30 ?_; refine Zew rfl (Val_eql rfl rfl) ?_) | (refine Zati 33 ?_; refine Zew rfl Zmi ?_) | (refine Zati 34 ?_; refine Zew rfl (Val_eql rfl rfl) ?_) | (refine Zati 37 ?_; refine Zew rfl Zmi ?_) | (refine Zati 38 ?_; refine Zew rfl (Val_eql rfl rfl) ?_) | (refine Zati 41 ?_; refine Zew rfl Zmi ?_) | (refine Zati 42 ?_; refine Zew rfl (Val_eql rfl rfl) ?_) | (refine Zati 45 ?_; refine Zew rfl Zmi ?_) | (refine Zati 46 ?_; refine Zew rfl (Val_eql rfl rfl) ?_) | (refine Zati 49 ?_; refine Zew rfl Zmi ?_) | (refine Zati 50 ?_; refine Zew rfl (Val_eql rfl rfl) ?_) | (refine Zati 53 ?_; refine Zew rfl Zmi ?_) | (refine Zati 54 ?_; refine Zew rfl (Val_eql rfl rfl) ?_) | (refine Zati 57 ?_; refine Zew rfl Zmi ?_) | (refine Zati 58 ?_; refine Zew rfl (Val_eql rfl rfl) ?_) | (refine Zati 61 ?_; refine Zew rfl Zmi ?_) | (refine Zati 62 ?_; refine Zew rfl (Val_eql rfl rfl) ?_) | (refine Zati 65 ?_; refine Zew rfl Zmi ?_) | (refine Zati 66 ?_; refine Zew rfl (Val_eql rfl rfl) ?_) | (with_reducible apply EWalk_nil)) | (refine AnyO_done (by kernel_rfl) ?_; (try with_reducible apply noP_normal); try with_reducible exact key.out) | (refine Zhn ?_) | (refine AWalk_0 ?_; refine ZisO ?_; apply shr; intro key))
  refine QBody_ret1 rfl (rfl : _ = Value.bool _) ⟨?_, (by repeat (first | exact Wk.refl _ | apply Wk.keep1 | apply Wk.drop | apply Wk.sv | apply Wk.svD | apply Wk.appD))⟩
  first | rfl | (simp; done) | decide
end
end Go.Proofs.Ytlpahkmfjpjheaa
end
