/- Package bank's functions, as a law calls them; the law's small functions. -/
import Derived.Test.YtakmopiceopcpaaB3
import Derived.Test.YtakmopiceopcpaaB4
import Derived.Test.YtakmopiceopcpaaB6
section
namespace Go.Proofs.Ytakmopiceopcpaa
open Go.RowKit
section
variable (N : Nat) (w0 : World) (L : Hp) (g : Fg) (h : BankIn N w0 L g)
include h
theorem Whose_in (p : Int) : Ret Try.prog N w0 L 15 [bkV g, .int .i64 p].toArray (.tuple [.int .i64 ((WhoseV g.d p : Nat) : Int), .int .i64 (errT g.d (inB p 0 (g.d.n - 1)))].toArray) :=
  Ret.re fun w hI => Whose_ret _ w [] g (h w hI) p
theorem Has_in (o : Int) : Ret Try.prog N w0 L 17 [bkV g, .int .i64 o].toArray (.tuple [.int .i64 ((SureV g.d o : Nat) : Int), .int .i64 ((PerhV g.d o : Nat) : Int), .int .i64 (errT g.d (inB o 0 g.d.m))].toArray) :=
  Ret.re fun w hI => Has_ret _ w [] g (h w hI) o
theorem Wide_in (o : Int) : Ret Try.prog N w0 L 19 [bkV g, .int .i64 o].toArray (.tuple [.agg [.int .i64 (WideV g.d o).1, .int .i64 (WideV g.d o).2].toArray, .int .i64 (errT g.d (inB o 0 g.d.m))].toArray) :=
  Ret.re fun w hI => Wide_ret _ w [] g (h w hI) o
theorem Line_in (p : Int) : Ret Try.prog N w0 L 21 [bkV g, .int .i64 p].toArray (.tuple [.int .i64 (LineV g.d p), .int .i64 (errT g.d (inB p 1 (g.d.n - 1)))].toArray) :=
  Ret.re fun w hI => Line_ret _ w [] g (h w hI) p
theorem Count_in : Ret Try.prog N w0 L 23 [bkV g].toArray (.tuple [.int .i64 ((CountV g.d : Nat) : Int), .int .i64 (CountE g.d)].toArray) :=
  Ret.re fun w hI => Count_ret _ w [] g (h w hI)
theorem Ask_in : Ret Try.prog N w0 L 25 [bkV g].toArray (.tuple [.int .i64 ((AskV g.d).1 : Int), .int .i64 ((AskV g.d).2 : Int), .int .i64 (errT g.d true)].toArray) :=
  Ret.re fun w hI => Ask_ret _ w [] g (h w hI)
theorem False_in : Ret Try.prog N w0 L 27 [bkV g].toArray (.tuple [.int .i64 ((FalseN g.d : Nat) : Int), .int .i64 ((FalseV g.d : Nat) : Int), .int .i64 (CountE g.d)].toArray) :=
  Ret.re fun w hI => False_ret _ w [] g (h w hI)
theorem Clash_in : Ret Try.prog N w0 L 29 [bkV g].toArray (.tuple [.int .i64 ((ClashV g.d : Nat) : Int), .int .i64 (ClashE g.d)].toArray) :=
  Ret.re fun w hI => Clash_ret _ w [] g (h w hI)
end
def sampB (l : List Sp) : Bn := { n := 6, m := 2, ls := [⟨0, (0, 0), (4, 5)⟩, ⟨1, (3, 4), (6, 6)⟩], ms := l }
def edgeB : Bn := { n := 3, m := 1, ls := [⟨0, (1, 1), (2, 3)⟩], ms := [] }
def SampC : List Value := [.int .i64 0, .int .i64 0, .int .i64 0, .int .i64 4, .int .i64 5, .int .i64 1, .int .i64 3, .int .i64 4, .int .i64 6, .int .i64 6]
def EdgeC : List Value := [.int .i64 0, .int .i64 1, .int .i64 1, .int .i64 2, .int .i64 3]
def sampG (l : List Sp) (b : Nat) (A : Option Addr) (c : Nat) : Fg := ⟨sampB l, some ⟨b, 0, none⟩, 2, A, c⟩
def edgeG (b : Nat) : Fg := ⟨edgeB, some ⟨b, 0, none⟩, 1, none, 0⟩
theorem ms_none (N : Nat) (w : World) (A : Option Addr) : SlAt N w A 2 (([] : List Sp).map spL) := fun k hk => by simp at hk
theorem samp_in {N : Nat} {w0 : World} {L : Hp} {b : Nat} {l : List Sp} {A : Option Addr} {c : Nat} (hm : Mem b (Blk 58 SampC) L) (h3 : ∀ w, Inv N w0 L w → SlAt w.heap.size w A 2 (l.map spL)) : BankIn N w0 L (sampG l b A c) := by
  intro w hI
  exact ⟨sl_of hI hm rfl (by simp [sampG, sampB, leL]), h3 w hI⟩
theorem samp_in0 {N : Nat} {w0 : World} {L : Hp} {b : Nat} (hm : Mem b (Blk 58 SampC) L) : BankIn N w0 L (sampG [] b none 0) := samp_in hm fun w _ => ms_none _ w none
theorem samp_inM {N : Nat} {w0 : World} {L : Hp} {b b2 k : Nat} {l : List Sp} (hm : Mem b (Blk 58 SampC) L) (h2 : Mem b2 (Blk 53 (marksF l)) L) : BankIn N w0 L (sampG l b (some ⟨b2, 0, none⟩) k) :=
  samp_in hm fun w hI => sl_of hI h2 rfl (by intro r hr; obtain ⟨x, _, rfl⟩ := List.mem_map.1 hr; rfl)
theorem edge_in {N : Nat} {w0 : World} {L : Hp} {b : Nat} (hm : Mem b (Blk 58 EdgeC) L) : BankIn N w0 L (edgeG b) := fun w hI =>
  ⟨sl_of hI hm rfl (by simp [edgeG, edgeB, leL]), ms_none _ w none⟩
attribute [local irreducible] AnyO AnyB QAny QB EWalk AWalk Ev WP OPS QThen QBlock QScope QLoop QBody Val New Turn Tri Enters PostA Blk Ro
attribute [local irreducible] AnyC QC
section
variable (N : Nat) (w0 : World)
theorem span_ret (L : Hp) (lo hi : Int) : Ret Try.prog N w0 L 34 [.int .i64 lo, .int .i64 hi].toArray (.agg [.int .i64 lo, .int .i64 hi].toArray) := by
  refine Ret.fgt ?_
  refine tri_of_WP Try.func34 rfl (n := 8) rfl (by simp) ?_
  repeat' (first | (refine GiP ?_; first | (refine Znh ?_) | (with_reducible refine Znl ?_)) | (refine GiW ?_; first | (refine Zsq fun K hK => ?_) | (refine ZrN 0 fun _ => ?_; refine Zal 4 fun b4 => ?_) | (refine ZrN 1 fun _ => ?_; refine Zv Zmi ?_; refine Zv Zmi ?_; refine Zv Zxbu ?_; refine Zst ?_) | (with_reducible apply WP_ret)) | (refine Zhn ?_) | (refine Zhr ?_))
  exact QBody_res rfl (.cellN rfl (by repeat (first | exact Mem.here | assumption | apply Mem.there | apply Mem.sv | apply Mem.app)) (.here (.cons (.cons .nil))) .nil) rfl ⟨rfl, (by repeat (first | exact Wk.refl _ | apply Wk.keep1 | apply Wk.drop | apply Wk.sv | apply Wk.svD | apply Wk.appD))⟩
theorem lease_ret (L : Hp) (h a b c d : Int) : Ret Try.prog N w0 L 89 [.int .i64 h, .int .i64 a, .int .i64 b, .int .i64 c, .int .i64 d].toArray (.agg [.int .i64 h, .int .i64 a, .int .i64 b, .int .i64 c, .int .i64 d].toArray) := by
  refine Ret.fgt ?_
  refine tri_of_WP Try.func89 rfl (n := _) rfl (by simp) ?_
  repeat' (first | (refine GiP ?_; first | (refine Znh ?_) | (with_reducible refine Znl ?_)) | (refine GiW ?_; first | (refine Zsq fun K hK => ?_) | (refine ZrN 0 fun _ => ?_; refine Zal 10 fun b10 => ?_) | (refine ZrN 1 fun _ => ?_; refine Zv Zmi ?_; refine Zv Zmi ?_; refine Zv Zmi ?_; refine Zcl (Enters_fn rfl) (span_ret N w0 _ _ _) ?_; refine Zv Zmi ?_; refine Zv Zmi ?_; refine Zcl (Enters_fn rfl) (span_ret N w0 _ _ _) ?_; refine Zv Zxbu ?_; refine Zst ?_) | (with_reducible apply WP_ret)) | (refine Zhn ?_) | (refine Zhr ?_))
  exact QBody_res rfl (.cellN rfl (by repeat (first | exact Mem.here | assumption | apply Mem.there | apply Mem.sv | apply Mem.app)) (.here (.cons (.cons (.cons (.cons (.cons .nil)))))) .nil) rfl ⟨rfl, (by repeat (first | exact Wk.refl _ | apply Wk.keep1 | apply Wk.drop | apply Wk.sv | apply Wk.svD | apply Wk.appD))⟩
theorem sample_tri (L : Hp) (l : List Sp) (A : Option Addr) (c : Nat) : Tri Try.prog N w0 L 31 [.slice A l.length c].toArray fun x L' => ∃ v, x = .returned v ∧ ∃ b, v = bkV (sampG l b A c) ∧ L' = (b, Blk 58 SampC) :: L := by
  refine Tri.fgt ?_
  refine tri_of_WP Try.func31 rfl (n := _) rfl (by simp) ?_
  repeat' (first | (refine GiP ?_; first | (refine Znh ?_) | (with_reducible refine Znl ?_)) | (refine GiW ?_; first | (refine Zsq fun K hK => ?_) | (refine ZrN 0 fun _ => ?_; refine Zal 2 fun b2 => ?_) | (refine ZrN 1 fun _ => ?_; refine Zcl (Enters_fn rfl) (lease_ret N w0 _ _ _ _ _ _) ?_; refine Zcl (Enters_fn rfl) (lease_ret N w0 _ _ _ _ _ _) ?_; refine Zal 5 fun b5 => ?_; refine Zv Zmv ?_; refine Zv Zxbu ?_; refine Zst ?_) | (with_reducible apply WP_ret)) | (refine Zhn ?_) | (refine Zhr ?_))
  refine QBody_res rfl (.cellN rfl (by repeat (first | exact Mem.here | assumption | apply Mem.there | apply Mem.sv | apply Mem.app)) (.here (.cons (.cons (.cons (.cons .nil))))) .nil) rfl ?_
  exact ⟨(b5, Blk 58 SampC) :: L, (by repeat (first | exact Wk.refl _ | apply Wk.keep1 | apply Wk.drop | apply Wk.sv | apply Wk.svD | apply Wk.appD)), _, rfl, b5, rfl, rfl⟩
theorem marked_tri (L : Hp) : Tri Try.prog N w0 L 32 [].toArray fun x L' => ∃ v, x = .returned v ∧ ∃ b b2, v = bkV (sampG [(3, 0)] b (some ⟨b2, 0, none⟩) 1) ∧ L' = (b, Blk 58 SampC) :: (b2, Blk 53 (marksF [(3, 0)])) :: L := by
  have hs := fun L b2 => sample_tri N w0 L [(3, 0)] (some ⟨b2, 0, none⟩) 1
  refine Tri.fgt ?_
  refine tri_of_WP Try.func32 rfl (n := _) rfl (by simp) ?_
  repeat' (first | (refine GiP ?_; first | (refine Znh ?_) | (with_reducible refine Znl ?_)) | (refine GiW ?_; first | (refine Zsq fun K hK => ?_) | (refine ZrN 0 fun _ => ?_; refine Zal 0 fun b0 => ?_) | (refine ZrN 1 fun _ => ?_; refine Zv Zxbu ?_; refine Zal 2 fun b2 => ?_; refine OPS_retKS (Enters_fn rfl) (hs _ b2) rfl rfl rfl (fun v20 L20 h20 => ?_); obtain ⟨b20, rfl, rfl⟩ := h20; refine Zst ?_) | (with_reducible apply WP_ret)) | (refine Zhn ?_) | (refine Zhr ?_))
  refine QBody_res rfl (.cellN rfl (by repeat (first | exact Mem.here | assumption | apply Mem.there | apply Mem.sv | apply Mem.app)) (.here (.cons (.cons (.cons (.cons .nil))))) .nil) rfl ?_
  exact ⟨(b20, Blk 58 SampC) :: (b2, Blk 53 (marksF [(3, 0)])) :: L, (by repeat (first | exact Wk.refl _ | apply Wk.keep1 | apply Wk.drop | apply Wk.sv | apply Wk.svD | apply Wk.appD)), _, rfl, b20, b2, rfl, rfl⟩
theorem clash_tri (L : Hp) : Tri Try.prog N w0 L 35 [].toArray fun x L' => ∃ v, x = .returned v ∧ ∃ b b2, v = bkV (sampG [(3, 0), (4, 0)] b (some ⟨b2, 0, none⟩) 2) ∧ L' = (b, Blk 58 SampC) :: (b2, Blk 53 (marksF [(3, 0), (4, 0)])) :: L := by
  have hs := fun L b3 => sample_tri N w0 L [(3, 0), (4, 0)] (some ⟨b3, 0, none⟩) 2
  refine Tri.fgt ?_
  refine tri_of_WP Try.func35 rfl (n := _) rfl (by simp) ?_
  repeat' (first | (refine GiP ?_; first | (refine Znh ?_) | (with_reducible refine Znl ?_)) | (refine GiW ?_; first | (refine Zsq fun K hK => ?_) | (refine ZrN 0 fun _ => ?_; refine Zal 0 fun b0 => ?_) | (refine ZrN 1 fun _ => ?_; refine Zv Zxbu ?_; refine Zv Zxbu ?_; refine Zal 3 fun b3 => ?_; refine OPS_retKS (Enters_fn rfl) (hs _ b3) rfl rfl rfl (fun v20 L20 h20 => ?_); obtain ⟨b20, rfl, rfl⟩ := h20; refine Zst ?_) | (with_reducible apply WP_ret)) | (refine Zhn ?_) | (refine Zhr ?_))
  refine QBody_res rfl (.cellN rfl (by repeat (first | exact Mem.here | assumption | apply Mem.there | apply Mem.sv | apply Mem.app)) (.here (.cons (.cons (.cons (.cons .nil))))) .nil) rfl ?_
  exact ⟨(b20, Blk 58 SampC) :: (b3, Blk 53 (marksF [(3, 0), (4, 0)])) :: L, (by repeat (first | exact Wk.refl _ | apply Wk.keep1 | apply Wk.drop | apply Wk.sv | apply Wk.svD | apply Wk.appD)), _, rfl, b20, b3, rfl, rfl⟩
theorem edge_tri (L : Hp) : Tri Try.prog N w0 L 33 [].toArray fun x L' => ∃ v, x = .returned v ∧ ∃ b, v = bkV (edgeG b) ∧ L' = (b, Blk 58 EdgeC) :: L := by
  refine Tri.fgt ?_
  refine tri_of_WP Try.func33 rfl (n := _) rfl (by simp) ?_
  repeat' (first | (refine GiP ?_; first | (refine Znh ?_) | (with_reducible refine Znl ?_)) | (refine GiW ?_; first | (refine Zsq fun K hK => ?_) | (refine ZrN 0 fun _ => ?_; refine Zal 0 fun b0 => ?_) | (refine ZrN 1 fun _ => ?_; refine Zcl (Enters_fn rfl) (lease_ret N w0 _ _ _ _ _ _) ?_; refine Zal 2 fun b2 => ?_; refine Zv Zxbu ?_; refine Zst ?_) | (with_reducible apply WP_ret)) | (refine Zhn ?_) | (refine Zhr ?_))
  refine QBody_res rfl (.cellN rfl (by repeat (first | exact Mem.here | assumption | apply Mem.there | apply Mem.sv | apply Mem.app)) (.here (.cons (.cons (.cons (.cons .nil))))) .nil) rfl ?_
  exact ⟨(b2, Blk 58 EdgeC) :: L, (by repeat (first | exact Wk.refl _ | apply Wk.keep1 | apply Wk.drop | apply Wk.sv | apply Wk.svD | apply Wk.appD)), _, rfl, b2, rfl, rfl⟩
end
end Go.Proofs.Ytakmopiceopcpaa
end
