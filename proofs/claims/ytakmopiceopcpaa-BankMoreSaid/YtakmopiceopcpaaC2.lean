/- Package bank's functions, as a law calls them; the law's small functions. · Which banks are valid, by the document. -/
import Derived.Test.YtakmopiceopcpaaB3
import Derived.Test.YtakmopiceopcpaaB4
import Derived.Test.YtakmopiceopcpaaB6
section
namespace Go.Proofs.Ytakmopiceopcpaa
open Go.RowKit
section
variable (N : Nat) (w0 : World) (L : Hp) (g : Fg) (h : BankIn N w0 L g)
include h
theorem Whose_in (p : Int) : Ret Try.prog N w0 L 15 [bkV g, .int .i64 p].toArray (.tuple [.int .i64 ((WhoseV g.d p : Nat) : Int), .int .i64 (errT g.d (inB p 0 (g.d.n - 1)))].toArray) :=
  Ret.re fun w hI => Whose_ret _ w [] g (h w hI) p
theorem Has_in (o : Int) : Ret Try.prog N w0 L 17 [bkV g, .int .i64 o].toArray (.tuple [.int .i64 ((SureV g.d o : Nat) : Int), .int .i64 ((PerhV g.d o : Nat) : Int), .int .i64 (errT g.d (inB o 0 g.d.m))].toArray) :=
  Ret.re fun w hI => Has_ret _ w [] g (h w hI) o
theorem Wide_in (o : Int) : Ret Try.prog N w0 L 19 [bkV g, .int .i64 o].toArray (.tuple [.agg [.int .i64 (WideV g.d o).1, .int .i64 (WideV g.d o).2].toArray, .int .i64 (errT g.d (inB o 0 g.d.m))].toArray) :=
  Ret.re fun w hI => Wide_ret _ w [] g (h w hI) o
theorem Line_in (p : Int) : Ret Try.prog N w0 L 21 [bkV g, .int .i64 p].toArray (.tuple [.int .i64 (LineV g.d p), .int .i64 (errT g.d (inB p 1 (g.d.n - 1)))].toArray) :=
  Ret.re fun w hI => Line_ret _ w [] g (h w hI) p
theorem Count_in : Ret Try.prog N w0 L 23 [bkV g].toArray (.tuple [.int .i64 ((CountV g.d : Nat) : Int), .int .i64 (CountE g.d)].toArray) :=
  Ret.re fun w hI => Count_ret _ w [] g (h w hI)
theorem Ask_in : Ret Try.prog N w0 L 25 [bkV g].toArray (.tuple [.int .i64 ((AskV g.d).1 : Int), .int .i64 ((AskV g.d).2 : Int), .int .i64 (errT g.d true)].toArray) :=
  Ret.re fun w hI => Ask_ret _ w [] g (h w hI)
theorem False_in : Ret Try.prog N w0 L 27 [bkV g].toArray (.tuple [.int .i64 ((FalseN g.d : Nat) : Int), .int .i64 ((FalseV g.d : Nat) : Int), .int .i64 (CountE g.d)].toArray) :=
  Ret.re fun w hI => False_ret _ w [] g (h w hI)
theorem Clash_in : Ret Try.prog N w0 L 29 [bkV g].toArray (.tuple [.int .i64 ((ClashV g.d : Nat) : Int), .int .i64 (ClashE g.d)].toArray) :=
  Ret.re fun w hI => Clash_ret _ w [] g (h w hI)
end
def farB (d : Bn) : Bool := decide (40 < max (d.ls.length : Int) d.ms.length)
theorem farB_ok {d : Bn} (h : farB d = false) : d.ls.length ≤ 40 ∧ d.ms.length ≤ 40 := by
  unfold farB at h
  simp only [decide_eq_false_iff_not] at h
  omega
theorem farB_vB {d : Bn} (h : vB d = true) : farB d = false := by
  have v := VB_of h
  have h1 := v.nl
  have h2 := v.nm
  unfold farB
  simp only [decide_eq_false_iff_not]
  omega
def sampB (l : List Sp) : Bn := { n := 6, m := 2, ls := [⟨0, (0, 0), (4, 5)⟩, ⟨1, (3, 4), (6, 6)⟩], ms := l }
def edgeB : Bn := { n := 3, m := 1, ls := [⟨0, (1, 1), (2, 3)⟩], ms := [] }
def SampC : List Value := [.int .i64 0, .int .i64 0, .int .i64 0, .int .i64 4, .int .i64 5, .int .i64 1, .int .i64 3, .int .i64 4, .int .i64 6, .int .i64 6]
def EdgeC : List Value := [.int .i64 0, .int .i64 1, .int .i64 1, .int .i64 2, .int .i64 3]
def sampG (l : List Sp) (b : Nat) (A : Option Addr) (c : Nat) : Fg := ⟨sampB l, some ⟨b, 0, none⟩, 2, A, c⟩
def edgeG (b : Nat) : Fg := ⟨edgeB, some ⟨b, 0, none⟩, 1, none, 0⟩
theorem ms_none (N : Nat) (w : World) (A : Option Addr) : SlAt N w A 2 (([] : List Sp).map spL) := fun k hk => by simp at hk
theorem samp_in {N : Nat} {w0 : World} {L : Hp} {b : Nat} {l : List Sp} {A : Option Addr} {c : Nat} (hm : Mem b (Blk 58 SampC) L) (h3 : ∀ w, Inv N w0 L w → SlAt w.heap.size w A 2 (l.map spL)) : BankIn N w0 L (sampG l b A c) := by
  intro w hI
  exact ⟨sl_of hI hm rfl (by simp [sampG, sampB, leL]), h3 w hI⟩
theorem samp_in0 {N : Nat} {w0 : World} {L : Hp} {b : Nat} (hm : Mem b (Blk 58 SampC) L) : BankIn N w0 L (sampG [] b none 0) := samp_in hm fun w _ => ms_none _ w none
theorem samp_inM {N : Nat} {w0 : World} {L : Hp} {b b2 k : Nat} {l : List Sp} (hm : Mem b (Blk 58 SampC) L) (h2 : Mem b2 (Blk 53 (marksF l)) L) : BankIn N w0 L (sampG l b (some ⟨b2, 0, none⟩) k) :=
  samp_in hm fun w hI => sl_of hI h2 rfl (by intro r hr; obtain ⟨x, _, rfl⟩ := List.mem_map.1 hr; rfl)
theorem edge_in {N : Nat} {w0 : World} {L : Hp} {b : Nat} (hm : Mem b (Blk 58 EdgeC) L) : BankIn N w0 L (edgeG b) := fun w hI =>
  ⟨sl_of hI hm rfl (by simp [edgeG, edgeB, leL]), ms_none _ w none⟩
attribute [local irreducible] AnyO AnyB QAny QB EWalk AWalk Ev WP OPS QThen QBlock QScope QLoop QBody Val New Turn Tri Enters PostA Blk Ro
attribute [local irreducible] AnyC QC
section
variable (N : Nat) (w0 : World)
theorem span_ret (L : Hp) (lo hi : Int) : Ret Try.prog N w0 L 34 [.int .i64 lo, .int .i64 hi].toArray (.agg [.int .i64 lo, .int .i64 hi].toArray) := by
  refine Ret.fgt ?_
  refine tri_of_WP Try.func34 rfl (n := 8) rfl (by simp) ?_
  repeat' (first | (refine GiP ?_; first | (refine Znh ?_) | (with_reducible refine Znl ?_)) | (refine GiW ?_; first | (refine Zsq fun K hK => ?_) | (refine ZrN 0 fun _ => ?_; refine Zal 4 fun b4 => ?_) | (refine ZrN 1 fun _ => ?_; refine Zv Zmi ?_; refine Zv Zmi ?_; refine Zv Zxbu ?_; refine Zst ?_) | (with_reducible apply WP_ret)) | (refine Zhn ?_) | (refine Zhr ?_))
  exact QBody_res rfl (.cellN rfl (by repeat (first | exact Mem.here | assumption | apply Mem.there | apply Mem.sv | apply Mem.app)) (.here (.cons (.cons .nil))) .nil) rfl ⟨rfl, (by repeat (first | exact Wk.refl _ | apply Wk.keep1 | apply Wk.drop | apply Wk.sv | apply Wk.svD | apply Wk.appD))⟩
theorem lease_ret (L : Hp) (h a b c d : Int) : Ret Try.prog N w0 L 89 [.int .i64 h, .int .i64 a, .int .i64 b, .int .i64 c, .int .i64 d].toArray (.agg [.int .i64 h, .int .i64 a, .int .i64 b, .int .i64 c, .int .i64 d].toArray) := by
  refine Ret.fgt ?_
  refine tri_of_WP Try.func89 rfl (n := _) rfl (by simp) ?_
  repeat' (first | (refine GiP ?_; first | (refine Znh ?_) | (with_reducible refine Znl ?_)) | (refine GiW ?_; first | (refine Zsq fun K hK => ?_) | (refine ZrN 0 fun _ => ?_; refine Zal 10 fun b10 => ?_) | (refine ZrN 1 fun _ => ?_; refine Zv Zmi ?_; refine Zv Zmi ?_; refine Zv Zmi ?_; refine Zcl (Enters_fn rfl) (span_ret N w0 _ _ _) ?_; refine Zv Zmi ?_; refine Zv Zmi ?_; refine Zcl (Enters_fn rfl) (span_ret N w0 _ _ _) ?_; refine Zv Zxbu ?_; refine Zst ?_) | (with_reducible apply WP_ret)) | (refine Zhn ?_) | (refine Zhr ?_))
  exact QBody_res rfl (.cellN rfl (by repeat (first | exact Mem.here | assumption | apply Mem.there | apply Mem.sv | apply Mem.app)) (.here (.cons (.cons (.cons (.cons (.cons .nil)))))) .nil) rfl ⟨rfl, (by repeat (first | exact Wk.refl _ | apply Wk.keep1 | apply Wk.drop | apply Wk.sv | apply Wk.svD | apply Wk.appD))⟩
theorem sample_tri (L : Hp) (l : List Sp) (A : Option Addr) (c : Nat) : Tri Try.prog N w0 L 31 [.slice A l.length c].toArray fun x L' => ∃ v, x = .returned v ∧ ∃ b, v = bkV (sampG l b A c) ∧ L' = (b, Blk 58 SampC) :: L := by
  refine Tri.fgt ?_
  refine tri_of_WP Try.func31 rfl (n := _) rfl (by simp) ?_
  repeat' (first | (refine GiP ?_; first | (refine Znh ?_) | (with_reducible refine Znl ?_)) | (refine GiW ?_; first | (refine Zsq fun K hK => ?_) | (refine ZrN 0 fun _ => ?_; refine Zal 2 fun b2 => ?_) | (refine ZrN 1 fun _ => ?_; refine Zcl (Enters_fn rfl) (lease_ret N w0 _ _ _ _ _ _) ?_; refine Zcl (Enters_fn rfl) (lease_ret N w0 _ _ _ _ _ _) ?_; refine Zal 5 fun b5 => ?_; refine Zv Zmv ?_; refine Zv Zxbu ?_; refine Zst ?_) | (with_reducible apply WP_ret)) | (refine Zhn ?_) | (refine Zhr ?_))
  refine QBody_res rfl (.cellN rfl (by repeat (first | exact Mem.here | assumption | apply Mem.there | apply Mem.sv | apply Mem.app)) (.here (.cons (.cons (.cons (.cons .nil))))) .nil) rfl ?_
  exact ⟨(b5, Blk 58 SampC) :: L, (by repeat (first | exact Wk.refl _ | apply Wk.keep1 | apply Wk.drop | apply Wk.sv | apply Wk.svD | apply Wk.appD)), _, rfl, b5, rfl, rfl⟩
theorem clash_tri (L : Hp) : Tri Try.prog N w0 L 35 [].toArray fun x L' => ∃ v, x = .returned v ∧ ∃ b b2, v = bkV (sampG [(3, 0), (4, 0)] b (some ⟨b2, 0, none⟩) 2) ∧ L' = (b, Blk 58 SampC) :: (b2, Blk 53 (marksF [(3, 0), (4, 0)])) :: L := by
  have hs := fun L b3 => sample_tri N w0 L [(3, 0), (4, 0)] (some ⟨b3, 0, none⟩) 2
  refine Tri.fgt ?_
  refine tri_of_WP Try.func35 rfl (n := _) rfl (by simp) ?_
  repeat' (first | (refine GiP ?_; first | (refine Znh ?_) | (with_reducible refine Znl ?_)) | (refine GiW ?_; first | (refine Zsq fun K hK => ?_) | (refine ZrN 0 fun _ => ?_; refine Zal 0 fun b0 => ?_) | (refine ZrN 1 fun _ => ?_; refine Zv Zxbu ?_; refine Zv Zxbu ?_; refine Zal 3 fun b3 => ?_; refine OPS_retKS (Enters_fn rfl) (hs _ b3) rfl rfl rfl (fun v20 L20 h20 => ?_); obtain ⟨b20, rfl, rfl⟩ := h20; refine Zst ?_) | (with_reducible apply WP_ret)) | (refine Zhn ?_) | (refine Zhr ?_))
  refine QBody_res rfl (.cellN rfl (by repeat (first | exact Mem.here | assumption | apply Mem.there | apply Mem.sv | apply Mem.app)) (.here (.cons (.cons (.cons (.cons .nil))))) .nil) rfl ?_
  exact ⟨(b20, Blk 58 SampC) :: (b3, Blk 53 (marksF [(3, 0), (4, 0)])) :: L, (by repeat (first | exact Wk.refl _ | apply Wk.keep1 | apply Wk.drop | apply Wk.sv | apply Wk.svD | apply Wk.appD)), _, rfl, b20, b3, rfl, rfl⟩
theorem edge_tri (L : Hp) : Tri Try.prog N w0 L 33 [].toArray fun x L' => ∃ v, x = .returned v ∧ ∃ b, v = bkV (edgeG b) ∧ L' = (b, Blk 58 EdgeC) :: L := by
  refine Tri.fgt ?_
  refine tri_of_WP Try.func33 rfl (n := _) rfl (by simp) ?_
  repeat' (first | (refine GiP ?_; first | (refine Znh ?_) | (with_reducible refine Znl ?_)) | (refine GiW ?_; first | (refine Zsq fun K hK => ?_) | (refine ZrN 0 fun _ => ?_; refine Zal 0 fun b0 => ?_) | (refine ZrN 1 fun _ => ?_; refine Zcl (Enters_fn rfl) (lease_ret N w0 _ _ _ _ _ _) ?_; refine Zal 2 fun b2 => ?_; refine Zv Zxbu ?_; refine Zst ?_) | (with_reducible apply WP_ret)) | (refine Zhn ?_) | (refine Zhr ?_))
  refine QBody_res rfl (.cellN rfl (by repeat (first | exact Mem.here | assumption | apply Mem.there | apply Mem.sv | apply Mem.app)) (.here (.cons (.cons (.cons (.cons .nil))))) .nil) rfl ?_
  exact ⟨(b2, Blk 58 EdgeC) :: L, (by repeat (first | exact Wk.refl _ | apply Wk.keep1 | apply Wk.drop | apply Wk.sv | apply Wk.svD | apply Wk.appD)), _, rfl, b2, rfl, rfl⟩
theorem long_ret (L : Hp) (g : Fg) : Ret Try.prog N w0 L 12 [bkV g].toArray (.bool (farB g.d)) := by
  refine Ret.fgt ?_
  refine tri_of_WP Try.func12 rfl (n := _) rfl (by simp) ?_
  unfold bkV bkL
  repeat' (first | (refine GiP ?_; first | (refine Znh ?_) | (with_reducible refine Znl ?_)) | (refine GiW ?_; first | (refine Zsq fun K hK => ?_) | (refine ZrN 0 fun _ => ?_; refine Zal 1 fun b1 => ?_; refine Zv Zab ?_) | (refine ZrN 1 fun _ => ?_; refine Zv Zfa ?_; refine Zv Zld ?_; refine Zv Zxlen ?_; refine Zv Zfa ?_; refine Zv Zld ?_; refine Zv Zxlen ?_; refine Zv Zxmax ?_; refine Zv Zxgtr ?_; refine Zv Zab ?_) | (with_reducible apply WP_ret)) | (refine Zhn ?_) | (refine Zhr ?_))
  exact QBody_ret1 rfl (rfl : _ = Value.bool _) ⟨rfl, (by repeat (first | exact Wk.refl _ | apply Wk.keep1 | apply Wk.drop | apply Wk.sv | apply Wk.svD | apply Wk.appD))⟩
theorem rin_ret (L : Hp) (n l h : Int) : Ret Try.prog N w0 L 45 [.int .i64 n, .int .i64 l, .int .i64 h].toArray (.bool (inB n l h)) := by
  refine Ret.fgt ?_
  refine tri_of_WP Try.func45 rfl (n := 15) rfl (by simp) ?_
  repeat' (first | (refine GiP ?_; first | (refine Znh ?_) | (with_reducible refine Znl ?_) | (refine Zatd 14 ?_; (first | (refine Zv Zxpt ?_) | (refine Zv Zxpf ?_)); refine Zv Zab ?_) | (refine Zatd 11 ?_; first | refine Zsk ?_ | (refine Zv Zmi ?_)) | (refine Zatd 12 ?_; first | refine Zsk ?_ | (refine Zv Zmi ?_)) | (refine Zatd 13 ?_; first | refine Zsk ?_ | (refine Zv Zxleq ?_)) | (refine Zsk ?_) | (refine Zsp (fun hc => ?_) (fun hc => ?_) <;> (try (exfalso; omega)))) | (refine GiW ?_; first | (refine Zsq fun K hK => ?_) | (refine ZrN 0 fun _ => ?_; refine Zv Zab ?_) | (refine ZrG 1 ?_; refine Zv Zmi ?_; refine Zv Zmi ?_; refine Zv Zxleq ?_; refine Zv Zmb ?_) | (with_reducible apply WP_ret)) | (refine Zhn ?_) | (refine Zhr ?_))
  all_goals (refine QBody_ret1 rfl (rfl : _ = Value.bool _) ⟨?_, (by repeat (first | exact Wk.refl _ | apply Wk.keep1 | apply Wk.drop | apply Wk.sv | apply Wk.svD | apply Wk.appD))⟩; simp [inB, *])
theorem rspan_ret (L : Hp) (s : Sp) (lo hi : Int) (hlo : 0 ≤ lo) (hhi : hi ≤ 1000) : Ret Try.prog N w0 L 46 [.agg [.int .i64 s.1, .int .i64 s.2].toArray, .int .i64 lo, .int .i64 hi].toArray (.bool (spB s lo hi)) := by
  refine Ret.fgt ?_
  refine tri_of_WP Try.func46 rfl (n := _) rfl (by simp) ?_
  repeat' (first | (refine GiP ?_; first | (refine Znh ?_) | (with_reducible refine Znl ?_) | (refine Zatd 17 ?_; (first | (refine Zv Zxpt ?_) | (refine Zv Zxpf ?_)); refine Zv Zmb ?_) | (refine Zatd 23 ?_; (first | (refine Zv Zxpt ?_) | (refine Zv Zxpf ?_)); refine Zv Zmb ?_) | (refine Zatd 31 ?_; (first | (refine Zv Zxpt ?_) | (refine Zv Zxpf ?_)); refine Zv Zab ?_) | (refine Zatd 12 ?_; first | refine Zsk ?_ | (refine Zv Zf0 ?_)) | (refine Zatd 13 ?_; first | refine Zsk ?_ | (refine Zv Zld ?_)) | (refine Zatd 14 ?_; first | refine Zsk ?_ | (refine Zv Zfa ?_)) | (refine Zatd 15 ?_; first | refine Zsk ?_ | (refine Zv Zld ?_)) | (refine Zatd 16 ?_; first | refine Zsk ?_ | (refine Zv Zxleq ?_)) | (refine Zatd 19 ?_; first | refine Zsk ?_ | (refine Zv Zfa ?_)) | (refine Zatd 20 ?_; first | refine Zsk ?_ | (refine Zv Zld ?_)) | (refine Zatd 21 ?_; first | refine Zsk ?_ | (refine Zv Zmi ?_)) | (refine Zatd 22 ?_; first | refine Zsk ?_ | (refine Zv Zxleq ?_)) | (refine Zatd 25 ?_; first | refine Zsk ?_ | (refine Zv Zfa ?_)) | (refine Zatd 26 ?_; first | refine Zsk ?_ | (refine Zv Zld ?_)) | (refine Zatd 27 ?_; first | refine Zsk ?_ | (refine Zv Zf0 ?_)) | (refine Zatd 28 ?_; first | refine Zsk ?_ | (refine Zv Zld ?_)) | (refine Zatd 29 ?_; first | refine Zsk ?_ | (refine Zv (Val_sub rfl rfl (InK_i64 (by omega) (by omega))) ?_)) | (refine Zatd 30 ?_; first | refine Zsk ?_ | (refine Zv Zxleq ?_)) | (refine Zsk ?_) | (refine Zsp (fun hc => ?_) (fun hc => ?_) <;> (try (exfalso; omega)))) | (refine GiW ?_; first | (refine Zsq fun K hK => ?_) | (refine ZrN 0 fun _ => ?_; refine Zal 3 fun b3 => ?_; refine Zv Zab ?_) | (refine ZrG 1 ?_; refine Zv Zmi ?_; refine Zv Zf0 ?_; refine Zv Zld ?_; refine Zv Zxleq ?_; refine Zv Zmb ?_) | (with_reducible apply WP_ret)) | (refine Zhn ?_) | (refine Zhr ?_))
  all_goals (refine QBody_ret1 rfl (rfl : _ = Value.bool _) ⟨?_, (by repeat (first | exact Wk.refl _ | apply Wk.keep1 | apply Wk.drop | apply Wk.sv | apply Wk.svD | apply Wk.appD))⟩; congr 2; rw [Bool.eq_iff_iff]; simp only [spB, decide_eq_true_eq, Bool.false_eq_true, false_iff]; omega)
theorem rperch_ret (L : Hp) (g : Fg) (n : Int) (hn : -1000000 ≤ g.d.n ∧ g.d.n ≤ 1000000) : Ret Try.prog N w0 L 47 [bkV g, .int .i64 n].toArray (.bool (inB n 0 (g.d.n - 1))) := by
  refine Ret.fgt ?_
  refine tri_of_WP Try.func47 rfl (n := _) rfl (by simp) ?_
  unfold bkV bkL
  repeat' (first | (refine GiP ?_; first | (refine Znh ?_) | (with_reducible refine Znl ?_)) | (refine GiW ?_; first | (refine Zsq fun K hK => ?_) | (refine ZrN 0 fun _ => ?_; refine Zal 2 fun b2 => ?_; refine Zv Zab ?_) | (refine ZrN 1 fun _ => ?_; refine Zv Zmi ?_; refine Zv Zf0 ?_; refine Zv Zld ?_; refine Zv (Val_sub rfl rfl (InK_i64 (by omega) (by omega))) ?_; refine Zcl (Enters_fn rfl) (rin_ret N w0 _ _ _ _) ?_; refine Zv Zab ?_) | (with_reducible apply WP_ret)) | (refine Zhn ?_) | (refine Zhr ?_))
  exact QBody_ret1 rfl (rfl : _ = Value.bool _) ⟨rfl, (by repeat (first | exact Wk.refl _ | apply Wk.keep1 | apply Wk.drop | apply Wk.sv | apply Wk.svD | apply Wk.appD))⟩
theorem rholder_ret (L : Hp) (g : Fg) (n : Int) : Ret Try.prog N w0 L 48 [bkV g, .int .i64 n].toArray (.bool (inB n 0 g.d.m)) := by
  refine Ret.fgt ?_
  refine tri_of_WP Try.func48 rfl (n := _) rfl (by simp) ?_
  unfold bkV bkL
  repeat' (first | (refine GiP ?_; first | (refine Znh ?_) | (with_reducible refine Znl ?_)) | (refine GiW ?_; first | (refine Zsq fun K hK => ?_) | (refine ZrN 0 fun _ => ?_; refine Zal 2 fun b2 => ?_; refine Zv Zab ?_) | (refine ZrN 1 fun _ => ?_; refine Zv Zmi ?_; refine Zv Zfa ?_; refine Zv Zld ?_; refine Zcl (Enters_fn rfl) (rin_ret N w0 _ _ _ _) ?_; refine Zv Zab ?_) | (with_reducible apply WP_ret)) | (refine Zhn ?_) | (refine Zhr ?_))
  exact QBody_ret1 rfl (rfl : _ = Value.bool _) ⟨rfl, (by repeat (first | exact Wk.refl _ | apply Wk.keep1 | apply Wk.drop | apply Wk.sv | apply Wk.svD | apply Wk.appD))⟩
end
end Go.Proofs.Ytakmopiceopcpaa
end

section
namespace Go.Proofs.Ytakmopiceopcpaa
open Go.RowKit
theorem leB_and (b : Bn) (l : Le) : leB b l = (inB l.h 0 (b.m - 1) && spB l.f 0 (b.n - 1) && spB l.t 1 b.n && decide (l.f.1 < l.t.2)) := rfl
attribute [local irreducible] AnyO AnyB QAny QB EWalk AWalk Ev WP OPS QThen QBlock QScope QLoop QBody Val New Turn Tri Enters PostA Blk Ro
attribute [local irreducible] AnyC QC
section
variable (N : Nat) (w0 : World)
set_option maxHeartbeats 8000000 in
theorem rBank_ret (L : Hp) (g : Fg) (hA : BkAt N w0 g) (hf : farB g.d = false) : Ret Try.prog N w0 L 13 [bkV g].toArray (.bool (vB g.d)) := by
  obtain ⟨h1, h2⟩ := farB_ok hf
  refine Ret.fgt ?_
  refine tri_of_WP Try.func13 rfl (n := _) rfl (by simp) ?_
  have hpp := fun L n hn => rperch_ret N w0 L g n hn
  have hph := fun L n => rholder_ret N w0 L g n
  unfold bkV bkL at hpp hph
  unfold bkV bkL
  by_cases hnum : numB g.d = true
  case neg =>
    have hno := vB_num (by simpa using hnum)
    obtain ⟨u, hu⟩ : ∃ u, inB g.d.n 1 10 = u := ⟨_, rfl⟩
    obtain ⟨v, hv⟩ : ∃ v, inB g.d.m 1 4 = v := ⟨_, rfl⟩
    have hi1 := fun L => rin_ret N w0 L g.d.n 1 10
    have hi2 := fun L => rin_ret N w0 L g.d.m 1 4
    rw [hu] at hi1
    rw [hv] at hi2
    cases u <;> cases v
    all_goals
      repeat' (first | (refine GiP ?_; first | (refine Znh ?_) | (with_reducible refine Znl ?_) | (refine Zatd 15 ?_; (first | (refine Zv Zxpt ?_) | (refine Zv Zxpf ?_)); refine Zv Zmb ?_) | (refine Zatd 21 ?_; (first | (refine Zv Zxpt ?_) | (refine Zv Zxpf ?_)); refine Zv Zmb ?_) | (refine Zatd 27 ?_; (first | (refine Zv Zxpt ?_) | (refine Zv Zxpf ?_))) | (refine Zatd 11 ?_; first | refine Zsk ?_ | (refine Zv Zfa ?_)) | (refine Zatd 12 ?_; first | refine Zsk ?_ | (refine Zv Zld ?_)) | (refine Zatd 13 ?_; first | refine Zsk ?_ | (refine Zcl (Enters_fn rfl) (hi1 _) ?_) | (refine Zcl (Enters_fn rfl) (hi2 _) ?_)) | (refine Zatd 14 ?_; first | refine Zsk ?_ | (refine Zv Zxnot ?_)) | (refine Zatd 17 ?_; first | refine Zsk ?_ | (refine Zv Zfa ?_)) | (refine Zatd 18 ?_; first | refine Zsk ?_ | (refine Zv Zld ?_)) | (refine Zatd 19 ?_; first | refine Zsk ?_ | (refine Zv Zxlen ?_)) | (refine Zatd 20 ?_; first | refine Zsk ?_ | (refine Zv Zxgtr ?_)) | (refine Zatd 23 ?_; first | refine Zsk ?_ | (refine Zv Zfa ?_)) | (refine Zatd 24 ?_; first | refine Zsk ?_ | (refine Zv Zld ?_)) | (refine Zatd 25 ?_; first | refine Zsk ?_ | (refine Zv Zxlen ?_)) | (refine Zatd 26 ?_; first | refine Zsk ?_ | (refine Zv Zxgtr ?_)) | (refine Zsk ?_) | (refine Zsp (fun hc => ?_) (fun hc => ?_) <;> (try (exfalso; omega)))) | (refine GiW ?_; first | (refine Zsq fun K hK => ?_) | (refine ZrN 0 fun _ => ?_; refine Zal 1 fun b1 => ?_; refine Zv Zab ?_) | (refine ZrG 1 ?_; refine Zv Zf0 ?_; refine Zv Zld ?_; (first | (refine Zcl (Enters_fn rfl) (hi1 _) ?_) | (refine Zcl (Enters_fn rfl) (hi2 _) ?_)); refine Zv Zxnot ?_; refine Zv Zmb ?_) | (refine ZrN 2 fun _ => ?_; refine Zv Zab ?_) | (refine ZrN 3 fun _ => ?_; refine Zv Zai ?_) | (refine WP_cond_true rfl ?_) | (refine WP_cond_false rfl ?_) | (refine Zcd (fun hc => ?_) (fun hc => ?_) <;> (try (exfalso; omega))) | (with_reducible apply WP_skip) | (with_reducible apply WP_block) | (with_reducible apply WP_exit) | (with_reducible apply WP_ret)) | (refine Zhn ?_) | (with_reducible apply QBlock_normal) | (refine Zhx ?_) | (with_reducible apply QBlock_hit) | (refine Zqb ?_) | (with_reducible apply QLoop_exit) | (refine Zhr ?_) | (with_reducible apply QBlock_ret) | (with_reducible apply QLoop_ret))
    all_goals first
      | exact QBody_ret1 rfl (rfl : _ = Value.bool _) ⟨by rw [hno], (by repeat (first | exact Wk.refl _ | apply Wk.keep1 | apply Wk.drop | apply Wk.sv | apply Wk.svD | apply Wk.appD))⟩
      | (exfalso; apply hnum; simp only [numB, hu, hv, Bool.and_eq_true, decide_eq_true_eq, Bool.true_and, true_and]; constructor <;> omega)
      | (exfalso; apply hnum; rw [numB, hu, hv, decide_eq_true (by omega), decide_eq_true (by omega)]; rfl)
      | (exfalso; simp at *; done)
      | (exfalso; omega)
  have hnb := hnum
  simp only [numB, Bool.and_eq_true, decide_eq_true_eq] at hnb
  obtain ⟨⟨⟨hu, hv⟩, hn3⟩, hn4⟩ := hnb
  have hu' := hu
  have hv' := hv
  simp only [inB, decide_eq_true_eq] at hu' hv'
  have hi1 := fun L => rin_ret N w0 L g.d.n 1 10
  have hi2 := fun L => rin_ret N w0 L g.d.m 1 4
  rw [hu] at hi1
  rw [hv] at hi2
  repeat' (first | (refine GiP ?_; first | (refine Znh ?_) | (with_reducible refine Znl ?_) | (refine Zatd 15 ?_; (first | (refine Zv Zxpt ?_) | (refine Zv Zxpf ?_)); refine Zv Zmb ?_) | (refine Zatd 21 ?_; (first | (refine Zv Zxpt ?_) | (refine Zv Zxpf ?_)); refine Zv Zmb ?_) | (refine Zatd 27 ?_; (first | (refine Zv Zxpt ?_) | (refine Zv Zxpf ?_))) | (refine Zatd 11 ?_; first | refine Zsk ?_ | (refine Zv Zfa ?_)) | (refine Zatd 12 ?_; first | refine Zsk ?_ | (refine Zv Zld ?_)) | (refine Zatd 13 ?_; first | refine Zsk ?_ | (refine Zcl (Enters_fn rfl) (hi1 _) ?_) | (refine Zcl (Enters_fn rfl) (hi2 _) ?_)) | (refine Zatd 14 ?_; first | refine Zsk ?_ | (refine Zv Zxnot ?_)) | (refine Zatd 17 ?_; first | refine Zsk ?_ | (refine Zv Zfa ?_)) | (refine Zatd 18 ?_; first | refine Zsk ?_ | (refine Zv Zld ?_)) | (refine Zatd 19 ?_; first | refine Zsk ?_ | (refine Zv Zxlen ?_)) | (refine Zatd 20 ?_; first | refine Zsk ?_ | (refine Zv Zxgtr ?_)) | (refine Zatd 23 ?_; first | refine Zsk ?_ | (refine Zv Zfa ?_)) | (refine Zatd 24 ?_; first | refine Zsk ?_ | (refine Zv Zld ?_)) | (refine Zatd 25 ?_; first | refine Zsk ?_ | (refine Zv Zxlen ?_)) | (refine Zatd 26 ?_; first | refine Zsk ?_ | (refine Zv Zxgtr ?_)) | (refine Zsk ?_) | (refine Zsp (fun hc => ?_) (fun hc => ?_) <;> (try (exfalso; omega)))) | (refine GiW ?_; first | (refine Zsq fun K hK => ?_) | (refine ZrN 0 fun _ => ?_; refine Zal 1 fun b1 => ?_; refine Zv Zab ?_) | (refine ZrG 1 ?_; refine Zv Zf0 ?_; refine Zv Zld ?_; (first | (refine Zcl (Enters_fn rfl) (hi1 _) ?_) | (refine Zcl (Enters_fn rfl) (hi2 _) ?_)); refine Zv Zxnot ?_; refine Zv Zmb ?_) | (refine ZrN 2 fun _ => ?_; refine Zv Zab ?_) | (refine ZrN 3 fun _ => ?_; refine Zv Zai ?_) | (refine WP_cond_true rfl ?_) | (refine WP_cond_false rfl ?_) | (refine Zcd (fun hc => ?_) (fun hc => ?_) <;> (try (exfalso; omega))) | (with_reducible apply WP_skip) | (with_reducible apply WP_block) | (with_reducible apply WP_exit) | (with_reducible apply WP_ret)) | (refine Zhn ?_) | (with_reducible apply QBlock_normal) | (refine Zhx ?_) | (with_reducible apply QBlock_hit) | (refine Zqb ?_) | (with_reducible apply QLoop_exit) | (refine Zhr ?_) | (with_reducible apply QBlock_ret) | (with_reducible apply QLoop_ret))
  all_goals try (exfalso; simp_all; done)
  all_goals try (exfalso; omega)
  refine WP_loop [2, 3, 4, 28, 29, 30, 31, 32, 33, 34, 35, 36, 37, 38, 39, 40, 41, 42, 43, 44, 45, 46, 47, 48, 49, 50, 51, 52, 53, 54, 55, 56, 57, 58, 59, 60, 61, 62, 63, 64, 65, 66, 67, 68, 69, 70, 71, 72] (fun k : Nat => [(3, .int .i64 k)]) (fun _ => (b1, Blk 25 (bkL g)) :: L) (fun k => k ≤ g.d.ls.length ∧ (g.d.ls.take k).all (leB g.d) = true) (fun k => g.d.ls.length - k) 0 (.cons rfl .nil) (Wk.refl _) ⟨Nat.zero_le _, rfl⟩ ?_
  rintro k j ⟨hk, hall⟩
  unfold bkL
  by_cases hlt : k < g.d.ls.length
  · obtain ⟨bA, oA, hA1, hbA, hcA⟩ := hA.ls.row k hlt
    obtain ⟨t, ht⟩ : ∃ t, g.d.ls[k] = t := ⟨_, rfl⟩
    have htm : t ∈ g.d.ls := by rw [← ht]; exact List.getElem_mem hlt
    rw [ht] at hcA
    have hle := leB_and g.d t
    unfold leL at hcA
    obtain ⟨u, hu⟩ : ∃ u, inB t.h 0 (g.d.m - 1) = u := ⟨_, rfl⟩
    obtain ⟨v, hv⟩ : ∃ v, spB t.f 0 (g.d.n - 1) = v := ⟨_, rfl⟩
    obtain ⟨z, hz⟩ : ∃ z, spB t.t 1 g.d.n = z := ⟨_, rfl⟩
    have hs0 := fun L => rin_ret N w0 L t.h 0 (g.d.m - 1)
    have hs1 := fun L => rspan_ret N w0 L t.f 0 (g.d.n - 1) (by omega) (by omega)
    have hs2 := fun L => rspan_ret N w0 L t.t 1 g.d.n (by omega) (by omega)
    rw [hu] at hs0
    rw [hv] at hs1
    rw [hz] at hs2
    rw [hu, hv, hz] at hle
    clear hi1 hi2 hpp hph
    rcases (by cases u <;> cases v <;> cases z <;> simp : u = false ∨ (u = true ∧ v = false) ∨ (u = true ∧ v = true ∧ z = false) ∨ (u = true ∧ v = true ∧ z = true)) with rfl | ⟨rfl, rfl⟩ | ⟨rfl, rfl, rfl⟩ | ⟨rfl, rfl, rfl⟩
    all_goals
      repeat' (first | (refine GiP ?_; first | (refine Znh ?_) | (with_reducible refine Znl ?_) | (refine Zatd 55 ?_; (first | (refine Zv Zxpt ?_) | (refine Zv Zxpf ?_)); refine Zv Zmb ?_) | (refine Zatd 63 ?_; (first | (refine Zv Zxpt ?_) | (refine Zv Zxpf ?_)); refine Zv Zmb ?_) | (refine Zatd 72 ?_; (first | (refine Zv Zxpt ?_) | (refine Zv Zxpf ?_))) | (refine Zatd 48 ?_; first | refine Zsk ?_ | (refine Zv Zfa ?_)) | (refine Zatd 49 ?_; first | refine Zsk ?_ | (refine Zv Zla ?_)) | (refine Zatd 50 ?_; first | refine Zsk ?_ | (refine Zv Zf0 ?_)) | (refine Zatd 51 ?_; first | refine Zsk ?_ | (refine Zv Zld ?_)) | (refine Zatd 52 ?_; first | refine Zsk ?_ | (refine Zv (Val_sub rfl rfl (InK_i64 (by omega) (by omega))) ?_)) | (refine Zatd 53 ?_; first | refine Zsk ?_ | (refine Zcl (Enters_fn rfl) (hs1 _) ?_) | (refine Zcl (Enters_fn rfl) (hs2 _) ?_)) | (refine Zatd 54 ?_; first | refine Zsk ?_ | (refine Zv Zxnot ?_)) | (refine Zatd 57 ?_; first | refine Zsk ?_ | (refine Zv Zfa ?_)) | (refine Zatd 58 ?_; first | refine Zsk ?_ | (refine Zv Zla ?_)) | (refine Zatd 59 ?_; first | refine Zsk ?_ | (refine Zv Zf0 ?_)) | (refine Zatd 60 ?_; first | refine Zsk ?_ | (refine Zv Zld ?_)) | (refine Zatd 61 ?_; first | refine Zsk ?_ | (refine Zcl (Enters_fn rfl) (hs1 _) ?_) | (refine Zcl (Enters_fn rfl) (hs2 _) ?_)) | (refine Zatd 62 ?_; first | refine Zsk ?_ | (refine Zv Zxnot ?_)) | (refine Zatd 65 ?_; first | refine Zsk ?_ | (refine Zv Zfa ?_)) | (refine Zatd 66 ?_; first | refine Zsk ?_ | (refine Zv Zf0 ?_)) | (refine Zatd 67 ?_; first | refine Zsk ?_ | (refine Zv Zld ?_)) | (refine Zatd 68 ?_; first | refine Zsk ?_ | (refine Zv Zfa ?_)) | (refine Zatd 69 ?_; first | refine Zsk ?_ | (refine Zv Zfa ?_)) | (refine Zatd 70 ?_; first | refine Zsk ?_ | (refine Zv Zld ?_)) | (refine Zatd 71 ?_; first | refine Zsk ?_ | (refine Zv Zxgeq ?_)) | (refine Zsk ?_) | (refine Zsp (fun hc => ?_) (fun hc => ?_) <;> (try (exfalso; omega)))) | (refine GiW ?_; first | (refine Zsq fun K hK => ?_) | (refine ZrN 4 fun _ => ?_; refine Zv Zmi ?_; refine Zv Zfa ?_; refine Zv Zld ?_; refine Zv Zxlen ?_; refine Zv Zxlss ?_) | (refine ZrN 6 fun _ => ?_; refine Zv Zfa ?_; refine Zv Zld ?_; refine Zv Zmi ?_; refine Zv Zia ?_; refine Zv Zla ?_; refine Zal 4 fun b4 => ?_; refine Zst ?_) | (refine ZrG 7 ?_; refine Zv Zf0 ?_; refine Zv Zld ?_; refine Zv Zfa ?_; refine Zv Zld ?_; refine Zv (Val_sub rfl rfl (InK_i64 (by omega) (by omega))) ?_; refine Zcl (Enters_fn rfl) (hs0 _) ?_; refine Zv Zxnot ?_; refine Zv Zmb ?_) | (refine ZrN 8 fun _ => ?_; refine Zv Zab ?_) | (refine ZrN 5 fun _ => ?_; refine Zv Zmi ?_; refine Zv Zxadd ?_; refine Zv Zai ?_) | (refine WP_cond_true rfl ?_) | (refine WP_cond_false rfl ?_) | (refine Zcd (fun hc => ?_) (fun hc => ?_) <;> (try (exfalso; omega))) | (with_reducible apply WP_skip) | (with_reducible apply WP_block) | (with_reducible apply WP_exit) | (with_reducible apply WP_ret)) | (refine Zhn ?_) | (with_reducible apply QBlock_normal) | (refine Zhx ?_) | (with_reducible apply QBlock_hit) | (refine Zqb ?_) | (with_reducible apply QLoop_exit) | (refine Zhr ?_) | (with_reducible apply QBlock_ret) | (with_reducible apply QLoop_ret))
    all_goals first
      | exact QBody_ret1 rfl (rfl : _ = Value.bool _) ⟨by rw [vB_le htm (by rw [hle]; simp [*])], (by repeat (first | exact Wk.refl _ | apply Wk.keep1 | apply Wk.drop | apply Wk.sv | apply Wk.svD | apply Wk.appD))⟩
      | exact QLoop_normal (k + 1) (.cons rfl .nil) (by repeat (first | exact Off.frame rfl | exact Off.refl _ _ | refine Off.frameT rfl rfl ?_ | refine Off.upd rfl ?_ | refine Off.updO rfl ?_)) (by repeat (first | exact Wk.refl _ | apply Wk.keep1 | apply Wk.drop | apply Wk.sv | apply Wk.svD | apply Wk.appD)) ⟨by omega, all_snoc hlt hall (by rw [ht, hle]; simp; omega)⟩ (by omega)
  have hls : g.d.ls.all (leB g.d) = true := by rw [show k = g.d.ls.length by omega, List.take_length] at hall; exact hall
  repeat' (first | (refine GiP ?_; first | (refine Znh ?_) | (with_reducible refine Znl ?_)) | (refine GiW ?_; first | (refine Zsq fun K hK => ?_) | (refine ZrN 4 fun _ => ?_; refine Zv Zmi ?_; refine Zv Zfa ?_; refine Zv Zld ?_; refine Zv Zxlen ?_; refine Zv Zxlss ?_) | (refine ZrN 9 fun _ => ?_; refine Zv Zai ?_) | (refine WP_cond_true rfl ?_) | (refine WP_cond_false rfl ?_) | (refine Zcd (fun hc => ?_) (fun hc => ?_) <;> (try (exfalso; omega))) | (with_reducible apply WP_skip) | (with_reducible apply WP_block) | (with_reducible apply WP_exit) | (with_reducible apply WP_ret)) | (refine Zhn ?_) | (with_reducible apply QBlock_normal) | (refine Zhx ?_) | (with_reducible apply QBlock_hit) | (refine Zqb ?_) | (with_reducible apply QLoop_exit) | (refine Zhr ?_) | (with_reducible apply QBlock_ret) | (with_reducible apply QLoop_ret))
  refine WP_loop [2, 5, 73, 74, 75, 76, 77, 78, 79, 80, 81, 82, 83, 84, 85, 86, 87, 88, 89, 90, 91, 92, 93, 94, 95, 96, 97, 98, 99] (fun k : Nat => [(5, .int .i64 k)]) (fun _ => (b1, Blk 25 (bkL g)) :: L) (fun k => k ≤ g.d.ms.length ∧ (g.d.ms.take k).all (mkB g.d) = true) (fun k => g.d.ms.length - k) 0 (.cons rfl .nil) (Wk.refl _) ⟨Nat.zero_le _, rfl⟩ ?_
  clear hall hk hlt
  rintro k j2 ⟨hk, hall⟩
  unfold bkL
  by_cases hlt : k < g.d.ms.length
  · obtain ⟨bA, oA, hA1, hbA, hcA⟩ := hA.ms.row k hlt
    obtain ⟨t, ht⟩ : ∃ t, g.d.ms[k] = t := ⟨_, rfl⟩
    have htm : t ∈ g.d.ms := by rw [← ht]; exact List.getElem_mem hlt
    rw [ht] at hcA
    unfold spL at hcA
    have c0 := RoAt hcA 0 _ rfl
    have c1 := RoAt hcA 1 _ rfl
    obtain ⟨u, hu⟩ : ∃ u, inB t.1 0 (g.d.n - 1) = u := ⟨_, rfl⟩
    obtain ⟨v, hv⟩ : ∃ v, inB t.2 0 g.d.m = v := ⟨_, rfl⟩
    have hmk : mkB g.d t = (u && v) := by unfold mkB; rw [hu, hv]
    have hs1 := fun L => hpp L t.1 (by omega)
    have hs2 := fun L => hph L t.2
    rw [hu] at hs1
    rw [hv] at hs2
    clear hi1 hi2 hpp hph
    cases u <;> cases v
    · repeat' (first | (refine GiP ?_; first | (refine Znh ?_) | (with_reducible refine Znl ?_)) | (refine GiW ?_; first | (refine Zsq fun K hK => ?_) | (refine ZrN 10 fun _ => ?_; refine Zv Zmi ?_; refine Zv Zfa ?_; refine Zv Zld ?_; refine Zv Zxlen ?_; refine Zv Zxlss ?_) | (refine ZrN 13 fun _ => ?_; refine Zv Zab ?_) | (refine ZrN 11 fun _ => ?_; refine Zv Zmi ?_; refine Zv Zxadd ?_; refine Zv Zai ?_) | (refine WP_cond_true rfl ?_) | (refine WP_cond_false rfl ?_) | (refine Zcd (fun hc => ?_) (fun hc => ?_) <;> (try (exfalso; omega))) | (with_reducible apply WP_skip) | (with_reducible apply WP_block) | (with_reducible apply WP_exit) | (with_reducible apply WP_ret) | (refine WP_drawn (id := 12) [0, 1, 2, 3, 4, 5, 6, 7, 8, 9, 10, 11, 12, 13, 14, 15, 16, 17, 18, 19] [] (k := 0) prog_mixed (by kernel_rfl) rfl ?_; refine Zew rfl Zla ?_; refine Zew rfl Zfa ?_; refine Zew rfl Zld ?_; refine Zew rfl Zmi ?_; refine Zew rfl Zia ?_; refine Zew rfl Zf0 ?_; refine Zew rfl Zld ?_; refine Zec rfl (Enters_fn rfl) (fun X => hs1 _) ?_; refine Zew rfl Zxnot ?_; refine Zew rfl Zmb ?_)) | (refine GiE ?_; first | (refine Zati 19 ?_; (first | (refine Zew rfl Zxpt ?_) | (refine Zew rfl Zxpf ?_))) | (refine Zati 10 ?_; first | refine Zes ?_ | (refine Zew rfl Zla ?_)) | (refine Zati 11 ?_; first | refine Zes ?_ | (refine Zew rfl Zfa ?_)) | (refine Zati 12 ?_; first | refine Zes ?_ | (refine Zew rfl Zld ?_)) | (refine Zati 13 ?_; first | refine Zes ?_ | (refine Zew rfl Zmi ?_)) | (refine Zati 14 ?_; first | refine Zes ?_ | (refine Zew rfl Zia ?_)) | (refine Zati 15 ?_; first | refine Zes ?_ | (refine Zew rfl Zfa ?_)) | (refine Zati 16 ?_; first | refine Zes ?_ | (refine Zew rfl Zld ?_)) | (refine Zati 17 ?_; first | refine Zes ?_ | (refine Zec rfl (Enters_fn rfl) (fun X => hs2 _) ?_)) | (refine Zati 18 ?_; first | refine Zes ?_ | (refine Zew rfl Zxnot ?_)) | (refine Zes ?_) | (refine Zesp (fun hc => ?_) (fun hc => ?_) <;> (try (exfalso; omega))) | (with_reducible apply EWalk_nil)) | (refine AnyO_done (by kernel_rfl) ?_; (try with_reducible apply noP_normal); try with_reducible exact key.out) | (refine Zhn ?_) | (with_reducible apply QBlock_normal) | (refine Zhx ?_) | (with_reducible apply QBlock_hit) | (refine Zqb ?_) | (with_reducible apply QLoop_exit) | (refine Zhr ?_) | (with_reducible apply QBlock_ret) | (with_reducible apply QLoop_ret) | (refine AWalk_0 ?_; refine ZisO ?_) | (with_reducible apply QAny_normal))
      exact QBody_ret1 rfl (rfl : _ = Value.bool _) ⟨by rw [vB_mk htm (by rw [hmk]; rfl)], (by repeat (first | exact Wk.refl _ | apply Wk.keep1 | apply Wk.drop | apply Wk.sv | apply Wk.svD | apply Wk.appD))⟩
    · repeat' (first | (refine GiP ?_; first | (refine Znh ?_) | (with_reducible refine Znl ?_)) | (refine GiW ?_; first | (refine Zsq fun K hK => ?_) | (refine ZrN 10 fun _ => ?_; refine Zv Zmi ?_; refine Zv Zfa ?_; refine Zv Zld ?_; refine Zv Zxlen ?_; refine Zv Zxlss ?_) | (refine ZrN 13 fun _ => ?_; refine Zv Zab ?_) | (refine ZrN 11 fun _ => ?_; refine Zv Zmi ?_; refine Zv Zxadd ?_; refine Zv Zai ?_) | (refine WP_cond_true rfl ?_) | (refine WP_cond_false rfl ?_) | (refine Zcd (fun hc => ?_) (fun hc => ?_) <;> (try (exfalso; omega))) | (with_reducible apply WP_skip) | (with_reducible apply WP_block) | (with_reducible apply WP_exit) | (with_reducible apply WP_ret) | (refine WP_drawn (id := 12) [0, 1, 2, 3, 4, 5, 6, 7, 8, 9, 10, 11, 12, 13, 14, 15, 16, 17, 18, 19] [] (k := 0) prog_mixed (by kernel_rfl) rfl ?_; refine Zew rfl Zla ?_; refine Zew rfl Zfa ?_; refine Zew rfl Zld ?_; refine Zew rfl Zmi ?_; refine Zew rfl Zia ?_; refine Zew rfl Zf0 ?_; refine Zew rfl Zld ?_; refine Zec rfl (Enters_fn rfl) (fun X => hs1 _) ?_; refine Zew rfl Zxnot ?_; refine Zew rfl Zmb ?_)) | (refine GiE ?_; first | (refine Zati 19 ?_; (first | (refine Zew rfl Zxpt ?_) | (refine Zew rfl Zxpf ?_))) | (refine Zati 10 ?_; first | refine Zes ?_ | (refine Zew rfl Zla ?_)) | (refine Zati 11 ?_; first | refine Zes ?_ | (refine Zew rfl Zfa ?_)) | (refine Zati 12 ?_; first | refine Zes ?_ | (refine Zew rfl Zld ?_)) | (refine Zati 13 ?_; first | refine Zes ?_ | (refine Zew rfl Zmi ?_)) | (refine Zati 14 ?_; first | refine Zes ?_ | (refine Zew rfl Zia ?_)) | (refine Zati 15 ?_; first | refine Zes ?_ | (refine Zew rfl Zfa ?_)) | (refine Zati 16 ?_; first | refine Zes ?_ | (refine Zew rfl Zld ?_)) | (refine Zati 17 ?_; first | refine Zes ?_ | (refine Zec rfl (Enters_fn rfl) (fun X => hs2 _) ?_)) | (refine Zati 18 ?_; first | refine Zes ?_ | (refine Zew rfl Zxnot ?_)) | (refine Zes ?_) | (refine Zesp (fun hc => ?_) (fun hc => ?_) <;> (try (exfalso; omega))) | (with_reducible apply EWalk_nil)) | (refine AnyO_done (by kernel_rfl) ?_; (try with_reducible apply noP_normal); try with_reducible exact key.out) | (refine Zhn ?_) | (with_reducible apply QBlock_normal) | (refine Zhx ?_) | (with_reducible apply QBlock_hit) | (refine Zqb ?_) | (with_reducible apply QLoop_exit) | (refine Zhr ?_) | (with_reducible apply QBlock_ret) | (with_reducible apply QLoop_ret) | (refine AWalk_0 ?_; refine ZisO ?_) | (with_reducible apply QAny_normal))
      exact QBody_ret1 rfl (rfl : _ = Value.bool _) ⟨by rw [vB_mk htm (by rw [hmk]; rfl)], (by repeat (first | exact Wk.refl _ | apply Wk.keep1 | apply Wk.drop | apply Wk.sv | apply Wk.svD | apply Wk.appD))⟩
    · repeat' (first | (refine GiP ?_; first | (refine Znh ?_) | (with_reducible refine Znl ?_)) | (refine GiW ?_; first | (refine Zsq fun K hK => ?_) | (refine ZrN 10 fun _ => ?_; refine Zv Zmi ?_; refine Zv Zfa ?_; refine Zv Zld ?_; refine Zv Zxlen ?_; refine Zv Zxlss ?_) | (refine ZrN 13 fun _ => ?_; refine Zv Zab ?_) | (refine ZrN 11 fun _ => ?_; refine Zv Zmi ?_; refine Zv Zxadd ?_; refine Zv Zai ?_) | (refine WP_cond_true rfl ?_) | (refine WP_cond_false rfl ?_) | (refine Zcd (fun hc => ?_) (fun hc => ?_) <;> (try (exfalso; omega))) | (with_reducible apply WP_skip) | (with_reducible apply WP_block) | (with_reducible apply WP_exit) | (with_reducible apply WP_ret) | (refine WP_drawn (id := 12) [0, 1, 2, 3, 4, 5, 6, 7, 8, 9, 10, 11, 12, 13, 14, 15, 16, 17, 18, 19] [] (k := 0) prog_mixed (by kernel_rfl) rfl ?_; refine Zew rfl Zla ?_; refine Zew rfl Zfa ?_; refine Zew rfl Zld ?_; refine Zew rfl Zmi ?_; refine Zew rfl Zia ?_; refine Zew rfl Zf0 ?_; refine Zew rfl Zld ?_; refine Zec rfl (Enters_fn rfl) (fun X => hs1 _) ?_; refine Zew rfl Zxnot ?_; refine Zew rfl Zmb ?_)) | (refine GiE ?_; first | (refine Zati 19 ?_; (first | (refine Zew rfl Zxpt ?_) | (refine Zew rfl Zxpf ?_))) | (refine Zati 10 ?_; first | refine Zes ?_ | (refine Zew rfl Zla ?_)) | (refine Zati 11 ?_; first | refine Zes ?_ | (refine Zew rfl Zfa ?_)) | (refine Zati 12 ?_; first | refine Zes ?_ | (refine Zew rfl Zld ?_)) | (refine Zati 13 ?_; first | refine Zes ?_ | (refine Zew rfl Zmi ?_)) | (refine Zati 14 ?_; first | refine Zes ?_ | (refine Zew rfl Zia ?_)) | (refine Zati 15 ?_; first | refine Zes ?_ | (refine Zew rfl Zfa ?_)) | (refine Zati 16 ?_; first | refine Zes ?_ | (refine Zew rfl Zld ?_)) | (refine Zati 17 ?_; first | refine Zes ?_ | (refine Zec rfl (Enters_fn rfl) (fun X => hs2 _) ?_)) | (refine Zati 18 ?_; first | refine Zes ?_ | (refine Zew rfl Zxnot ?_)) | (refine Zes ?_) | (refine Zesp (fun hc => ?_) (fun hc => ?_) <;> (try (exfalso; omega))) | (with_reducible apply EWalk_nil)) | (refine AnyO_done (by kernel_rfl) ?_; (try with_reducible apply noP_normal); try with_reducible exact key.out) | (refine Zhn ?_) | (with_reducible apply QBlock_normal) | (refine Zhx ?_) | (with_reducible apply QBlock_hit) | (refine Zqb ?_) | (with_reducible apply QLoop_exit) | (refine Zhr ?_) | (with_reducible apply QBlock_ret) | (with_reducible apply QLoop_ret) | (refine AWalk_0 ?_; refine ZisO ?_) | (with_reducible apply QAny_normal))
      exact QBody_ret1 rfl (rfl : _ = Value.bool _) ⟨by rw [vB_mk htm (by rw [hmk]; rfl)], (by repeat (first | exact Wk.refl _ | apply Wk.keep1 | apply Wk.drop | apply Wk.sv | apply Wk.svD | apply Wk.appD))⟩
    · repeat' (first | (refine GiP ?_; first | (refine Znh ?_) | (with_reducible refine Znl ?_)) | (refine GiW ?_; first | (refine Zsq fun K hK => ?_) | (refine ZrN 10 fun _ => ?_; refine Zv Zmi ?_; refine Zv Zfa ?_; refine Zv Zld ?_; refine Zv Zxlen ?_; refine Zv Zxlss ?_) | (refine ZrN 13 fun _ => ?_; refine Zv Zab ?_) | (refine ZrN 11 fun _ => ?_; refine Zv Zmi ?_; refine Zv Zxadd ?_; refine Zv Zai ?_) | (refine WP_cond_true rfl ?_) | (refine WP_cond_false rfl ?_) | (refine Zcd (fun hc => ?_) (fun hc => ?_) <;> (try (exfalso; omega))) | (with_reducible apply WP_skip) | (with_reducible apply WP_block) | (with_reducible apply WP_exit) | (with_reducible apply WP_ret) | (refine WP_drawn (id := 12) [0, 1, 2, 3, 4, 5, 6, 7, 8, 9, 10, 11, 12, 13, 14, 15, 16, 17, 18, 19] [] (k := 0) prog_mixed (by kernel_rfl) rfl ?_; refine Zew rfl Zla ?_; refine Zew rfl Zfa ?_; refine Zew rfl Zld ?_; refine Zew rfl Zmi ?_; refine Zew rfl Zia ?_; refine Zew rfl Zf0 ?_; refine Zew rfl Zld ?_; refine Zec rfl (Enters_fn rfl) (fun X => hs1 _) ?_; refine Zew rfl Zxnot ?_; refine Zew rfl Zmb ?_)) | (refine GiE ?_; first | (refine Zati 19 ?_; (first | (refine Zew rfl Zxpt ?_) | (refine Zew rfl Zxpf ?_))) | (refine Zati 10 ?_; first | refine Zes ?_ | (refine Zew rfl Zla ?_)) | (refine Zati 11 ?_; first | refine Zes ?_ | (refine Zew rfl Zfa ?_)) | (refine Zati 12 ?_; first | refine Zes ?_ | (refine Zew rfl Zld ?_)) | (refine Zati 13 ?_; first | refine Zes ?_ | (refine Zew rfl Zmi ?_)) | (refine Zati 14 ?_; first | refine Zes ?_ | (refine Zew rfl Zia ?_)) | (refine Zati 15 ?_; first | refine Zes ?_ | (refine Zew rfl Zfa ?_)) | (refine Zati 16 ?_; first | refine Zes ?_ | (refine Zew rfl Zld ?_)) | (refine Zati 17 ?_; first | refine Zes ?_ | (refine Zec rfl (Enters_fn rfl) (fun X => hs2 _) ?_)) | (refine Zati 18 ?_; first | refine Zes ?_ | (refine Zew rfl Zxnot ?_)) | (refine Zes ?_) | (refine Zesp (fun hc => ?_) (fun hc => ?_) <;> (try (exfalso; omega))) | (with_reducible apply EWalk_nil)) | (refine AnyO_done (by kernel_rfl) ?_; (try with_reducible apply noP_normal); try with_reducible exact key.out) | (refine Zhn ?_) | (with_reducible apply QBlock_normal) | (refine Zhx ?_) | (with_reducible apply QBlock_hit) | (refine Zqb ?_) | (with_reducible apply QLoop_exit) | (refine Zhr ?_) | (with_reducible apply QBlock_ret) | (with_reducible apply QLoop_ret) | (refine AWalk_0 ?_; refine ZisO ?_) | (with_reducible apply QAny_normal))
      exact QLoop_normal (k + 1) (.cons rfl .nil) (by repeat (first | exact Off.frame rfl | exact Off.refl _ _ | refine Off.frameT rfl rfl ?_ | refine Off.upd rfl ?_ | refine Off.updO rfl ?_)) (by repeat (first | exact Wk.refl _ | apply Wk.keep1 | apply Wk.drop | apply Wk.sv | apply Wk.svD | apply Wk.appD)) ⟨by omega, all_snoc hlt hall (by rw [ht, hmk]; rfl)⟩ (by omega)
  have hms : g.d.ms.all (mkB g.d) = true := by rw [show k = g.d.ms.length by omega, List.take_length] at hall; exact hall
  have hvb : vB g.d = true := vB_all hnum hls hms
  repeat' (first | (refine GiP ?_; first | (refine Znh ?_) | (with_reducible refine Znl ?_)) | (refine GiW ?_; first | (refine Zsq fun K hK => ?_) | (refine ZrN 10 fun _ => ?_; refine Zv Zmi ?_; refine Zv Zfa ?_; refine Zv Zld ?_; refine Zv Zxlen ?_; refine Zv Zxlss ?_) | (refine ZrN 14 fun _ => ?_; refine Zv Zab ?_) | (refine WP_cond_true rfl ?_) | (refine WP_cond_false rfl ?_) | (refine Zcd (fun hc => ?_) (fun hc => ?_) <;> (try (exfalso; omega))) | (with_reducible apply WP_skip) | (with_reducible apply WP_block) | (with_reducible apply WP_exit) | (with_reducible apply WP_ret)) | (refine Zhn ?_) | (with_reducible apply QBlock_normal) | (refine Zhx ?_) | (with_reducible apply QBlock_hit) | (refine Zqb ?_) | (with_reducible apply QLoop_exit) | (refine Zhr ?_) | (with_reducible apply QBlock_ret) | (with_reducible apply QLoop_ret))
  exact QBody_ret1 rfl (rfl : _ = Value.bool _) ⟨by rw [hvb], (by repeat (first | exact Wk.refl _ | apply Wk.keep1 | apply Wk.drop | apply Wk.sv | apply Wk.svD | apply Wk.appD))⟩
theorem rBank_in (L : Hp) (g : Fg) (h : BankIn N w0 L g) (hf : farB g.d = false) : Ret Try.prog N w0 L 13 [bkV g].toArray (.bool (vB g.d)) :=
  Ret.re fun w hI => rBank_ret _ w [] g (h w hI) hf
end
end Go.Proofs.Ytakmopiceopcpaa
end
