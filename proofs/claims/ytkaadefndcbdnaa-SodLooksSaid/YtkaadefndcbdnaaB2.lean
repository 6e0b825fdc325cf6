/- Package sod: what is measured: sods, costs, strokes that are needed, what is finished, and when. -/
import Derived.Test.YtkaadefndcbdnaaB1
namespace Go.Proofs.Ytkaadefndcbdnaa
open Go.RowKit
/-- What both ends of a day are, where they lie. -/
theorem logL_day {s : Sd} (v : VS s) {c : List Int} (hc : c ∈ toldC s) {d : Nat} (hd : d < s.days.length) : (logL s c)[0 + d * 2]? = some (.int .i64 (dayS s c d).1) ∧ (logL s c)[0 + d * 2 + 1]? = some (.int .i64 (dayS s c d).2) := by
  have h := cellsD_cut (b := canS s c) (pad6_get (days_get v hc hd))
  have h1 := (h.at_.2 0 (by omega)).trans rfl
  have h2 := (h.at_.2 1 (by omega)).trans rfl
  exact ⟨h1, h2⟩
attribute [local irreducible] AnyO AnyB QAny QB EWalk AWalk Ev WP OPS QThen QBlock QScope QLoop QBody Val New Turn Tri Enters PostA Blk Ro
attribute [local irreducible] AnyC QC
section
variable (N : Nat) (w0 : World)
def NdM (b1 b2 d : Nat) (g : Fg) : Hp := [(b1, Blk 73 [.pointer (some ⟨g.b, 0, none⟩)]), (b2, Blk 3 [.int .i64 (d : Int)]), (g.b, Blk 128 (faceL g))]
theorem sodsM_ret (g : Fg) (hv : VS g.s) (hA : SodAt N w0 g) (d : Nat) (hd : d < g.s.days.length) (b1 b2 : Nat) (x y z : Int) (hm : [x, y, z] ∈ toldC g.s) (L : Hp) (hS : Sub (NdM b1 b2 d g) L) :
    Ret Try.prog N w0 L 94 (.agg [.int .i64 x, .int .i64 y, .int .i64 z].toArray :: .agg (logL g.s [x, y, z]).toArray :: [.pointer (some ⟨b1, 0, none⟩), .pointer (some ⟨b2, 0, none⟩)]).toArray (.agg (spL (cutR g.s d [x, y, z])).toArray) := by
  have hnd := hv.nd
  have m1 := hS.mem .here
  have m2 := hS.mem (.there .here)
  have m3 := hS.mem (.there (.there .here))
  obtain ⟨c1, c2⟩ := logL_day hv hm hd
  have hci := rowsC_cin (List.mem_filter.1 hm).1
  have hbd := day_bd hv hm hd
  have hle := day_le hv hm hd
  have hlen := logL_len hv [x, y, z]
  have hcut1 := fun L hm => cut_ret N w0 L g hm hA hv x y z hci (dayS g.s [x, y, z] d).1 (by omega)
  have hcut2 := fun L hm => cut_ret N w0 L g hm hA hv x y z hci (dayS g.s [x, y, z] d).2 (by omega)
  unfold cutR spL
  obtain ⟨lv, hlv⟩ : ∃ lv, logL g.s [x, y, z] = lv := ⟨_, rfl⟩
  rw [hlv] at c1 c2 hlen ⊢
  refine Ret.fgt ?_
  refine tri_of_WP Try.func94 rfl (n := 26) rfl (by simp) ?_
  repeat' (first | (refine GiP ?_; first | (refine Znh ?_) | (with_reducible refine Znl ?_) | (refine Zatn ?_; refine Zst ?_)) | (refine GiW ?_; first | (refine Zsq fun K hK => ?_) | (refine ZrN 0 fun _ => ?_; refine Zal 4 fun b4 => ?_; refine Zal 5 fun b5 => ?_; refine Zal 6 fun b6 => ?_) | (with_reducible apply WP_ret) | (refine WP_drawn (id := 1) [0, 1, 2, 3, 4, 5, 6, 7, 8, 9, 10, 11, 12, 13, 14, 15, 16, 17, 18] [] (k := 1) prog_mixed (by kernel_rfl) rfl ?_; (first | (refine Zew rfl (Val_load1 rfl (by repeat (first | exact Mem.here | assumption | apply Mem.there | apply Mem.sv | apply Mem.app)) c1) ?_) | (refine Zew rfl (Val_load1 rfl (by repeat (first | exact Mem.here | assumption | apply Mem.there | apply Mem.sv | apply Mem.app)) c2) ?_) | (refine Zew rfl Zld ?_)); (first | (refine Zew rfl (Val_load1 rfl (by repeat (first | exact Mem.here | assumption | apply Mem.there | apply Mem.sv | apply Mem.app)) c1) ?_) | (refine Zew rfl (Val_load1 rfl (by repeat (first | exact Mem.here | assumption | apply Mem.there | apply Mem.sv | apply Mem.app)) c2) ?_) | (refine Zew rfl Zla ?_)); (first | (refine Zew rfl (Val_load1 rfl (by repeat (first | exact Mem.here | assumption | apply Mem.there | apply Mem.sv | apply Mem.app)) c1) ?_) | (refine Zew rfl (Val_load1 rfl (by repeat (first | exact Mem.here | assumption | apply Mem.there | apply Mem.sv | apply Mem.app)) c2) ?_) | (refine Zew rfl Zld ?_)); refine Zew rfl Zf0 ?_; refine Zew rfl ZiA ?_; refine Zew rfl Zf0 ?_; refine Zew rfl Zf0 ?_; (first | (refine Zew rfl (Val_load1 rfl (by repeat (first | exact Mem.here | assumption | apply Mem.there | apply Mem.sv | apply Mem.app)) c1) ?_) | (refine Zew rfl (Val_load1 rfl (by repeat (first | exact Mem.here | assumption | apply Mem.there | apply Mem.sv | apply Mem.app)) c2) ?_) | (refine Zew rfl Zld ?_)); (first | (refine Zec rfl (Enters_fn rfl) (fun X => hcut1 _ (by repeat (first | exact Mem.here | assumption | apply Mem.there | apply Mem.sv | apply Mem.app))) ?_) | (refine Zec rfl (Enters_fn rfl) (fun X => hcut2 _ (by repeat (first | exact Mem.here | assumption | apply Mem.there | apply Mem.sv | apply Mem.app))) ?_)); (first | (refine Zew rfl (Val_load1 rfl (by repeat (first | exact Mem.here | assumption | apply Mem.there | apply Mem.sv | apply Mem.app)) c1) ?_) | (refine Zew rfl (Val_load1 rfl (by repeat (first | exact Mem.here | assumption | apply Mem.there | apply Mem.sv | apply Mem.app)) c2) ?_) | (refine Zew rfl Zld ?_)); (first | (refine Zew rfl (Val_load1 rfl (by repeat (first | exact Mem.here | assumption | apply Mem.there | apply Mem.sv | apply Mem.app)) c1) ?_) | (refine Zew rfl (Val_load1 rfl (by repeat (first | exact Mem.here | assumption | apply Mem.there | apply Mem.sv | apply Mem.app)) c2) ?_) | (refine Zew rfl Zla ?_)); (first | (refine Zew rfl (Val_load1 rfl (by repeat (first | exact Mem.here | assumption | apply Mem.there | apply Mem.sv | apply Mem.app)) c1) ?_) | (refine Zew rfl (Val_load1 rfl (by repeat (first | exact Mem.here | assumption | apply Mem.there | apply Mem.sv | apply Mem.app)) c2) ?_) | (refine Zew rfl Zld ?_)); refine Zew rfl Zf0 ?_; refine Zew rfl ZiA ?_; refine Zew rfl Zf0 ?_; refine Zew rfl Zfa ?_; (first | (refine Zew rfl (Val_load1 rfl (by repeat (first | exact Mem.here | assumption | apply Mem.there | apply Mem.sv | apply Mem.app)) c1) ?_) | (refine Zew rfl (Val_load1 rfl (by repeat (first | exact Mem.here | assumption | apply Mem.there | apply Mem.sv | apply Mem.app)) c2) ?_) | (refine Zew rfl Zld ?_)); (first | (refine Zec rfl (Enters_fn rfl) (fun X => hcut1 _ (by repeat (first | exact Mem.here | assumption | apply Mem.there | apply Mem.sv | apply Mem.app))) ?_) | (refine Zec rfl (Enters_fn rfl) (fun X => hcut2 _ (by repeat (first | exact Mem.here | assumption | apply Mem.there | apply Mem.sv | apply Mem.app))) ?_)); refine Zew rfl Zxbu ?_)) | (with_reducible apply EWalk_nil) | (refine GiO ?_; first | (refine AnyO_done (by kernel_rfl) ?_; (try with_reducible apply noP_normal); try with_reducible exact key.out) | (refine AnyO_1 19 (by decide +kernel) rfl ?_)) | (refine Zhn ?_) | (refine AWalk_0 ?_; refine ZisO ?_) | (with_reducible apply QAny_normal))
  exact QBody_res rfl (.cellN rfl (by repeat (first | exact Mem.here | assumption | apply Mem.there | apply Mem.sv | apply Mem.app)) (.here (.cons (.cons .nil))) .nil) rfl ⟨rfl, (by repeat (first | exact Wk.refl _ | apply Wk.keep1 | apply Wk.drop | apply Wk.sv | apply Wk.svD | apply Wk.appD))⟩
theorem costM_ret (g : Fg) (p : Nat) (hp : p < 3) (b2 : Nat) (x y z : Int) (lg : Value) (L : Hp) (hS : Sub [(b2, Blk 3 [.int .i64 (p : Int)])] L) (hl : ∃ l, lg = .agg l ∧ l.size = 13) :
    Ret Try.prog N w0 L 57 (.agg [.int .i64 x, .int .i64 y, .int .i64 z].toArray :: lg :: [.pointer (some ⟨b2, 0, none⟩)]).toArray (.agg (spL (costP p [x, y, z])).toArray) := by
  have m1 := hS.mem .here
  obtain ⟨c, hc⟩ : ∃ c, [x, y, z][p]? = some c := ⟨_, List.getElem?_eq_getElem (by simpa using hp)⟩
  have hcell := cost_get hc
  have hcp : costP p [x, y, z] = (c, c) := by unfold costP; rw [List.getD_eq_getElem?_getD, hc]; rfl
  rw [hcp]
  unfold spL cost3 at *
  obtain ⟨l, rfl, hl⟩ := hl
  obtain ⟨lv, rfl⟩ : ∃ lv : List Value, l = lv.toArray := ⟨l.toList, by simp⟩
  refine Ret.fgt ?_
  refine tri_of_WP Try.func57 rfl (n := 15) rfl (by simp) ?_
  have hl3 : p < [Value.int .i64 x, .int .i64 y, .int .i64 z].length := hp
  repeat' (first | (refine GiP ?_; first | (refine Znh ?_) | (with_reducible refine Znl ?_) | (refine Zatn ?_; refine Zst ?_)) | (refine GiW ?_; first | (refine Zsq fun K hK => ?_) | (refine ZrN 0 fun _ => ?_; refine Zal 3 fun b3 => ?_; refine Zal 4 fun b4 => ?_; refine Zal 5 fun b5 => ?_) | (with_reducible apply WP_ret) | (refine WP_drawn (id := 1) [0, 1, 2, 3, 4, 5, 6, 7, 8] [] (k := 1) prog_mixed (by kernel_rfl) rfl ?_; refine Zew rfl Zld ?_; refine Zew rfl Zf0 ?_; refine Zew rfl ZiA ?_; refine Zew rfl Zld ?_; refine Zew rfl Zld ?_; refine Zew rfl Zf0 ?_; refine Zew rfl ZiA ?_; refine Zew rfl Zld ?_; refine Zew rfl Zxbu ?_)) | (with_reducible apply EWalk_nil) | (refine GiO ?_; first | (refine AnyO_done (by kernel_rfl) ?_; (try with_reducible apply noP_normal); try with_reducible exact key.out) | (refine AnyO_1 9 (by decide +kernel) rfl ?_)) | (refine Zhn ?_) | (refine AWalk_0 ?_; refine ZisO ?_) | (with_reducible apply QAny_normal))
  exact QBody_res rfl (.cellN rfl (by repeat (first | exact Mem.here | assumption | apply Mem.there | apply Mem.sv | apply Mem.app)) (.here (.cons (.cons .nil))) .nil) rfl ⟨rfl, (by repeat (first | exact Wk.refl _ | apply Wk.keep1 | apply Wk.drop | apply Wk.sv | apply Wk.svD | apply Wk.appD))⟩
def NdN (b1 b2 b3 d : Nat) (g : Fg) : Hp := [(b1, Blk 73 [.pointer (some ⟨g.b, 0, none⟩)]), (b2, Blk 26 (sdL g)), (b3, Blk 3 [.int .i64 (d : Int)]), (g.b, Blk 128 (faceL g))]
theorem whole_bd {s : Sd} (v : VS s) {c : List Int} (hc : c ∈ rowsC s) (k : Nat) : 0 ≤ wholeS s c k ∧ wholeS s c k ≤ far := by
  have hnp := v.np
  obtain ⟨x, y, z, rfl, hb⟩ := rowsC_three v hc
  refine strk_bd s.spits _ 0 _ v.spOk (fun w hw => by have := hb w hw; omega) ?_ (Int.le_refl _) (by omega)
  have : ∀ l : List Spt, (∀ p ∈ l, 1 ≤ p.sods) → 0 ≤ (l.map (·.sods)).sum := by
    intro l
    induction l with
    | nil => intro _; simp
    | cons p l ih => intro h; have := h p (.head _); have := ih (fun q hq => h q (.tail _ hq)); simp; omega
  exact this _ fun p hp => by have := v.sp p (List.mem_of_mem_take hp); omega
theorem needM_ret (g : Fg) (hv : VS g.s) (hA : SodAt N w0 g) (d : Nat) (hd : d < g.s.days.length) (b1 b2 b3 : Nat) (x y z : Int) (hm : [x, y, z] ∈ toldC g.s) (L : Hp) (hS : Sub (NdN b1 b2 b3 d g) L) :
    Ret Try.prog N w0 L 60 (.agg [.int .i64 x, .int .i64 y, .int .i64 z].toArray :: .agg (logL g.s [x, y, z]).toArray :: [.pointer (some ⟨b1, 0, none⟩), .pointer (some ⟨b2, 0, none⟩), .pointer (some ⟨b3, 0, none⟩)]).toArray (.agg (spL (needR g.s d [x, y, z])).toArray) := by
  have hnd := hv.nd
  have hnp := hv.np
  have m1 := hS.mem .here
  have m2 := hS.mem (.there .here)
  have m3 := hS.mem (.there (.there .here))
  have m4 := hS.mem (.there (.there (.there .here)))
  obtain ⟨c1, c2⟩ := logL_day hv hm hd
  have hmr := (List.mem_filter.1 hm).1
  have hbd := day_bd hv hm hd
  have hle := day_le hv hm hd
  have hlen := logL_len hv [x, y, z]
  have hwb := whole_bd hv hmr g.s.spits.length
  obtain ⟨x', y', z', h1, h3⟩ := rowsC_three hv hmr
  simp only [List.cons.injEq, and_true] at h1
  obtain ⟨rfl, rfl, rfl⟩ := h1
  have hwh := fun L hm => whole_ret N w0 L g hm hA hv x y z (fun w hw => by have := h3 w hw; omega) g.s.spits.length (Nat.le_refl _)
  unfold needR spL
  unfold far at hwb
  unfold sdL at m2
  obtain ⟨lv, hlv⟩ : ∃ lv, logL g.s [x, y, z] = lv := ⟨_, rfl⟩
  obtain ⟨wh, hw⟩ : ∃ wh, wholeS g.s [x, y, z] g.s.spits.length = wh := ⟨_, rfl⟩
  rw [hlv] at c1 c2 hlen ⊢
  rw [hw] at hwb hwh ⊢
  refine Ret.fgt ?_
  refine tri_of_WP Try.func60 rfl (n := 34) rfl (by simp) ?_
  repeat' (first | (refine GiP ?_; first | (refine Znh ?_) | (with_reducible refine Znl ?_) | (refine Zatn ?_; refine Zst ?_)) | (refine GiW ?_; first | (refine Zsq fun K hK => ?_) | (refine ZrN 0 fun _ => ?_; refine Zal 5 fun b5 => ?_; refine Zal 6 fun b6 => ?_; refine Zal 7 fun b7 => ?_) | (refine ZrN 1 fun _ => ?_; (first | (refine Zv (Val_load1 rfl (by repeat (first | exact Mem.here | assumption | apply Mem.there | apply Mem.sv | apply Mem.app)) c1) ?_) | (refine Zv (Val_load1 rfl (by repeat (first | exact Mem.here | assumption | apply Mem.there | apply Mem.sv | apply Mem.app)) c2) ?_) | (refine Zv Zld ?_)); (first | (refine Zv (Val_load1 rfl (by repeat (first | exact Mem.here | assumption | apply Mem.there | apply Mem.sv | apply Mem.app)) c1) ?_) | (refine Zv (Val_load1 rfl (by repeat (first | exact Mem.here | assumption | apply Mem.there | apply Mem.sv | apply Mem.app)) c2) ?_) | (refine Zv Zla ?_)); refine Zv Zf0 ?_; (first | (refine Zv (Val_load1 rfl (by repeat (first | exact Mem.here | assumption | apply Mem.there | apply Mem.sv | apply Mem.app)) c1) ?_) | (refine Zv (Val_load1 rfl (by repeat (first | exact Mem.here | assumption | apply Mem.there | apply Mem.sv | apply Mem.app)) c2) ?_) | (refine Zv Zld ?_)); refine Zv Zxlen ?_; refine Zcl (Enters_fn rfl) (hwh _ (by repeat (first | exact Mem.here | assumption | apply Mem.there | apply Mem.sv | apply Mem.app))) ?_; refine Zv Zai ?_) | (with_reducible apply WP_ret) | (refine WP_drawn (id := 2) [0, 1, 2, 3, 4, 5, 6, 7, 8, 9, 10, 11, 12, 13, 14, 15, 16, 17, 18] [] (k := 1) prog_mixed (by kernel_rfl) rfl ?_; refine Zew rfl Zmi ?_; (first | (refine Zew rfl (Val_load1 rfl (by repeat (first | exact Mem.here | assumption | apply Mem.there | apply Mem.sv | apply Mem.app)) c1) ?_) | (refine Zew rfl (Val_load1 rfl (by repeat (first | exact Mem.here | assumption | apply Mem.there | apply Mem.sv | apply Mem.app)) c2) ?_) | (refine Zew rfl Zld ?_)); refine Zew rfl Zf0 ?_; refine Zew rfl ZiA ?_; refine Zew rfl Zf0 ?_; refine Zew rfl Zfa ?_; (first | (refine Zew rfl (Val_load1 rfl (by repeat (first | exact Mem.here | assumption | apply Mem.there | apply Mem.sv | apply Mem.app)) c1) ?_) | (refine Zew rfl (Val_load1 rfl (by repeat (first | exact Mem.here | assumption | apply Mem.there | apply Mem.sv | apply Mem.app)) c2) ?_) | (refine Zew rfl Zld ?_)); refine Zew rfl Zxsub ?_; refine Zew rfl Zxmax ?_; refine Zew rfl Zmi ?_; (first | (refine Zew rfl (Val_load1 rfl (by repeat (first | exact Mem.here | assumption | apply Mem.there | apply Mem.sv | apply Mem.app)) c1) ?_) | (refine Zew rfl (Val_load1 rfl (by repeat (first | exact Mem.here | assumption | apply Mem.there | apply Mem.sv | apply Mem.app)) c2) ?_) | (refine Zew rfl Zld ?_)); refine Zew rfl Zf0 ?_; refine Zew rfl ZiA ?_; refine Zew rfl Zf0 ?_; refine Zew rfl Zf0 ?_; (first | (refine Zew rfl (Val_load1 rfl (by repeat (first | exact Mem.here | assumption | apply Mem.there | apply Mem.sv | apply Mem.app)) c1) ?_) | (refine Zew rfl (Val_load1 rfl (by repeat (first | exact Mem.here | assumption | apply Mem.there | apply Mem.sv | apply Mem.app)) c2) ?_) | (refine Zew rfl Zld ?_)); refine Zew rfl Zxsub ?_; refine Zew rfl Zxmax ?_; refine Zew rfl Zxbu ?_)) | (with_reducible apply EWalk_nil) | (refine GiO ?_; first | (refine AnyO_done (by kernel_rfl) ?_; (try with_reducible apply noP_normal); try with_reducible exact key.out) | (refine AnyO_1 19 (by decide +kernel) rfl ?_)) | (refine Zhn ?_) | (refine AWalk_0 ?_; refine ZisO ?_) | (with_reducible apply QAny_normal))
  exact QBody_res rfl (.cellN rfl (by repeat (first | exact Mem.here | assumption | apply Mem.there | apply Mem.sv | apply Mem.app)) (.here (.cons (.cons .nil))) .nil) rfl ⟨rfl, (by repeat (first | exact Wk.refl _ | apply Wk.keep1 | apply Wk.drop | apply Wk.sv | apply Wk.svD | apply Wk.appD))⟩
def NdF (b1 b2 b3 p d : Nat) (g : Fg) : Hp := [(b1, Blk 73 [.pointer (some ⟨g.b, 0, none⟩)]), (b2, Blk 3 [.int .i64 (p : Int)]), (b3, Blk 3 [.int .i64 (d : Int)]), (g.b, Blk 128 (faceL g))]
def finM (s : Sd) (d p : Nat) (c : List Int) : Bool × Bool := (decide (wholeS s c (p + 1) ≤ (dayS s c d).1), decide (wholeS s c (p + 1) ≤ (dayS s c d).2))
theorem finM_ret (g : Fg) (hv : VS g.s) (hA : SodAt N w0 g) (d p : Nat) (hd : d < g.s.days.length) (hp : p < g.s.spits.length) (b1 b2 b3 : Nat) (x y z : Int) (hm : [x, y, z] ∈ toldC g.s) (L : Hp) (hS : Sub (NdF b1 b2 b3 p d g) L) :
    Ret Try.prog N w0 L 72 (.agg [.int .i64 x, .int .i64 y, .int .i64 z].toArray :: .agg (logL g.s [x, y, z]).toArray :: [.pointer (some ⟨b1, 0, none⟩), .pointer (some ⟨b2, 0, none⟩), .pointer (some ⟨b3, 0, none⟩)]).toArray (.agg (bbL (finM g.s d p [x, y, z])).toArray) := by
  have hnd := hv.nd
  have hnp := hv.np
  have m1 := hS.mem .here
  have m2 := hS.mem (.there .here)
  have m3 := hS.mem (.there (.there .here))
  have m4 := hS.mem (.there (.there (.there .here)))
  obtain ⟨c1, c2⟩ := logL_day hv hm hd
  have hmr := (List.mem_filter.1 hm).1
  have hlen := logL_len hv [x, y, z]
  obtain ⟨x', y', z', h1, h3⟩ := rowsC_three hv hmr
  simp only [List.cons.injEq, and_true] at h1
  obtain ⟨rfl, rfl, rfl⟩ := h1
  have hwh := fun L hm => whole_ret N w0 L g hm hA hv x y z (fun w hw => by have := h3 w hw; omega) (p + 1) (by omega)
  simp only [Int.natCast_add, Int.natCast_one] at hwh
  unfold finM bbL
  obtain ⟨lv, hlv⟩ : ∃ lv, logL g.s [x, y, z] = lv := ⟨_, rfl⟩
  rw [hlv] at c1 c2 hlen ⊢
  refine Ret.fgt ?_
  refine tri_of_WP Try.func72 rfl (n := 31) rfl (by simp) ?_
  repeat' (first | (refine GiP ?_; first | (refine Znh ?_) | (with_reducible refine Znl ?_) | (refine Zatn ?_; refine Zst ?_)) | (refine GiW ?_; first | (refine Zsq fun K hK => ?_) | (refine ZrN 0 fun _ => ?_; refine Zal 5 fun b5 => ?_; refine Zal 6 fun b6 => ?_; refine Zal 7 fun b7 => ?_) | (refine ZrN 1 fun _ => ?_; (first | (refine Zv (Val_load1 rfl (by repeat (first | exact Mem.here | assumption | apply Mem.there | apply Mem.sv | apply Mem.app)) c1) ?_) | (refine Zv (Val_load1 rfl (by repeat (first | exact Mem.here | assumption | apply Mem.there | apply Mem.sv | apply Mem.app)) c2) ?_) | (refine Zv Zld ?_)); (first | (refine Zv (Val_load1 rfl (by repeat (first | exact Mem.here | assumption | apply Mem.there | apply Mem.sv | apply Mem.app)) c1) ?_) | (refine Zv (Val_load1 rfl (by repeat (first | exact Mem.here | assumption | apply Mem.there | apply Mem.sv | apply Mem.app)) c2) ?_) | (refine Zv Zla ?_)); (first | (refine Zv (Val_load1 rfl (by repeat (first | exact Mem.here | assumption | apply Mem.there | apply Mem.sv | apply Mem.app)) c1) ?_) | (refine Zv (Val_load1 rfl (by repeat (first | exact Mem.here | assumption | apply Mem.there | apply Mem.sv | apply Mem.app)) c2) ?_) | (refine Zv Zld ?_)); refine Zv Zxadd ?_; refine Zcl (Enters_fn rfl) (hwh _ (by repeat (first | exact Mem.here | assumption | apply Mem.there | apply Mem.sv | apply Mem.app))) ?_; refine Zv Zai ?_) | (with_reducible apply WP_ret) | (refine WP_drawn (id := 2) [0, 1, 2, 3, 4, 5, 6, 7, 8, 9, 10, 11, 12, 13, 14, 15, 16] [] (k := 1) prog_mixed (by kernel_rfl) rfl ?_; (first | (refine Zew rfl (Val_load1 rfl (by repeat (first | exact Mem.here | assumption | apply Mem.there | apply Mem.sv | apply Mem.app)) c1) ?_) | (refine Zew rfl (Val_load1 rfl (by repeat (first | exact Mem.here | assumption | apply Mem.there | apply Mem.sv | apply Mem.app)) c2) ?_) | (refine Zew rfl Zld ?_)); refine Zew rfl Zf0 ?_; refine Zew rfl ZiA ?_; refine Zew rfl Zf0 ?_; refine Zew rfl Zf0 ?_; (first | (refine Zew rfl (Val_load1 rfl (by repeat (first | exact Mem.here | assumption | apply Mem.there | apply Mem.sv | apply Mem.app)) c1) ?_) | (refine Zew rfl (Val_load1 rfl (by repeat (first | exact Mem.here | assumption | apply Mem.there | apply Mem.sv | apply Mem.app)) c2) ?_) | (refine Zew rfl Zld ?_)); refine Zew rfl Zmi ?_; refine Zew rfl Zxgeq ?_; (first | (refine Zew rfl (Val_load1 rfl (by repeat (first | exact Mem.here | assumption | apply Mem.there | apply Mem.sv | apply Mem.app)) c1) ?_) | (refine Zew rfl (Val_load1 rfl (by repeat (first | exact Mem.here | assumption | apply Mem.there | apply Mem.sv | apply Mem.app)) c2) ?_) | (refine Zew rfl Zld ?_)); refine Zew rfl Zf0 ?_; refine Zew rfl ZiA ?_; refine Zew rfl Zf0 ?_; refine Zew rfl Zfa ?_; (first | (refine Zew rfl (Val_load1 rfl (by repeat (first | exact Mem.here | assumption | apply Mem.there | apply Mem.sv | apply Mem.app)) c1) ?_) | (refine Zew rfl (Val_load1 rfl (by repeat (first | exact Mem.here | assumption | apply Mem.there | apply Mem.sv | apply Mem.app)) c2) ?_) | (refine Zew rfl Zld ?_)); refine Zew rfl Zmi ?_; refine Zew rfl Zxgeq ?_; refine Zew rfl Zxbu ?_)) | (with_reducible apply EWalk_nil) | (refine GiO ?_; first | (refine AnyO_done (by kernel_rfl) ?_; (try with_reducible apply noP_normal); try with_reducible exact key.out) | (refine AnyO_1 17 (by decide +kernel) rfl ?_)) | (refine Zhn ?_) | (refine AWalk_0 ?_; refine ZisO ?_) | (with_reducible apply QAny_normal))
  exact QBody_res rfl (.cellN rfl (by repeat (first | exact Mem.here | assumption | apply Mem.there | apply Mem.sv | apply Mem.app)) (.here (.cons (.cons .nil))) .nil) rfl ⟨rfl, (by repeat (first | exact Wk.refl _ | apply Wk.keep1 | apply Wk.drop | apply Wk.sv | apply Wk.svD | apply Wk.appD))⟩
theorem fin3_ret (L : Hp) (u : Bool × Bool) : Ret Try.prog N w0 L 74 [.agg (bbL u).toArray].toArray (.bool !u.1) := by
  refine Ret.fgt ?_
  refine tri_of_WP Try.func74 rfl (n := 6) rfl (by simp) ?_
  unfold bbL
  repeat' (first | (refine Znh ?_) | (refine GiW ?_; first | (refine Zsq fun K hK => ?_) | (refine ZrN 0 fun _ => ?_; refine Zal 1 fun b1 => ?_; refine Zv Zab ?_) | (refine ZrN 1 fun _ => ?_; (first | (refine Zv (Val_indexAddrA1 (i := 0) rfl rfl rfl (by decide)) ?_) | (refine Zv ZiA ?_)); refine Zv Zld ?_; refine Zv Zxnot ?_; refine Zv Zab ?_) | (with_reducible apply WP_ret)))
  exact QBody_ret1 rfl (rfl : _ = Value.bool _) ⟨rfl, (by repeat (first | exact Wk.refl _ | apply Wk.keep1 | apply Wk.drop | apply Wk.sv | apply Wk.svD | apply Wk.appD))⟩
theorem fin4_ret (L : Hp) (u : Bool × Bool) : Ret Try.prog N w0 L 75 [.agg (bbL u).toArray].toArray (.bool u.2) := by
  refine Ret.fgt ?_
  refine tri_of_WP Try.func75 rfl (n := 5) rfl (by simp) ?_
  unfold bbL
  repeat' (first | (refine Znh ?_) | (refine GiW ?_; first | (refine Zsq fun K hK => ?_) | (refine ZrN 0 fun _ => ?_; refine Zal 1 fun b1 => ?_; refine Zv Zab ?_) | (refine ZrN 1 fun _ => ?_; (first | (refine Zv (Val_indexAddrA1 (i := 1) rfl rfl rfl (by decide)) ?_) | (refine Zv ZiA ?_)); refine Zv Zld ?_; refine Zv Zab ?_) | (with_reducible apply WP_ret)))
  exact QBody_ret1 rfl (rfl : _ = Value.bool _) ⟨rfl, (by repeat (first | exact Wk.refl _ | apply Wk.keep1 | apply Wk.drop | apply Wk.sv | apply Wk.svD | apply Wk.appD))⟩
theorem fits2_ret (u x : Sp) (b1 : Nat) (L : Hp) (hS : Sub [(b1, Blk 28 (spL x))] L) : Ret Try.prog N w0 L 66 (.agg (spL u).toArray :: [.pointer (some ⟨b1, 0, none⟩)]).toArray (.bool (!decide (x.1 ≤ u.1 ∧ u.2 ≤ x.2))) := by
  have m1 := hS.mem .here
  unfold spL at m1 ⊢
  refine Ret.fgt ?_
  refine tri_of_WP Try.func66 rfl (n := 16) rfl (by simp) ?_
  repeat' (first | (refine GiP ?_; first | (refine Znh ?_) | (refine Zatd 15 ?_; (first | (refine Zv Zxpt ?_) | (refine Zv Zxpf ?_)); refine Zv Zab ?_) | (refine Zatd 10 ?_; refine Zv Zfa ?_) | (refine Zatd 11 ?_; refine Zv Zld ?_) | (refine Zatd 12 ?_; refine Zv Zfa ?_) | (refine Zatd 13 ?_; refine Zv Zld ?_) | (refine Zatd 14 ?_; refine Zv Zxgtr ?_) | (refine Zsk ?_) | (refine Zsp (fun hc => ?_) (fun hc => ?_) <;> (try (exfalso; omega)))) | (refine GiW ?_; first | (refine Zsq fun K hK => ?_) | (refine ZrN 0 fun _ => ?_; refine Zal 2 fun b2 => ?_; refine Zv Zab ?_) | (refine ZrG 1 ?_; refine Zv Zf0 ?_; refine Zv Zld ?_; refine Zv Zf0 ?_; refine Zv Zld ?_; refine Zv Zxlss ?_; refine Zv Zmb ?_) | (with_reducible apply WP_ret)))
  all_goals (refine QBody_ret1 rfl (rfl : _ = Value.bool _) ⟨?_, (by repeat (first | exact Wk.refl _ | apply Wk.keep1 | apply Wk.drop | apply Wk.sv | apply Wk.svD | apply Wk.appD))⟩; congr 1; simp [*]; try (have h1 : x.1 ≤ u.1 := by omega); try (by_cases h : u.2 ≤ x.2 <;> simp [h, h1] <;> omega))
theorem fits3_ret (u x : Sp) (b1 : Nat) (L : Hp) (hS : Sub [(b1, Blk 28 (spL x))] L) : Ret Try.prog N w0 L 67 (.agg (spL u).toArray :: [.pointer (some ⟨b1, 0, none⟩)]).toArray (.bool (decide (u.1 ≤ x.2 ∧ x.1 ≤ u.2))) := by
  have m1 := hS.mem .here
  unfold spL at m1 ⊢
  refine Ret.fgt ?_
  refine tri_of_WP Try.func67 rfl (n := 16) rfl (by simp) ?_
  repeat' (first | (refine GiP ?_; first | (refine Znh ?_) | (refine Zatd 15 ?_; (first | (refine Zv Zxpt ?_) | (refine Zv Zxpf ?_)); refine Zv Zab ?_) | (refine Zatd 10 ?_; refine Zv Zfa ?_) | (refine Zatd 11 ?_; refine Zv Zld ?_) | (refine Zatd 12 ?_; refine Zv Zf0 ?_) | (refine Zatd 13 ?_; refine Zv Zld ?_) | (refine Zatd 14 ?_; refine Zv Zxgeq ?_) | (refine Zsk ?_) | (refine Zsp (fun hc => ?_) (fun hc => ?_) <;> (try (exfalso; omega)))) | (refine GiW ?_; first | (refine Zsq fun K hK => ?_) | (refine ZrN 0 fun _ => ?_; refine Zal 2 fun b2 => ?_; refine Zv Zab ?_) | (refine ZrG 1 ?_; refine Zv Zf0 ?_; refine Zv Zld ?_; refine Zv Zfa ?_; refine Zv Zld ?_; refine Zv Zxleq ?_; refine Zv Zmb ?_) | (with_reducible apply WP_ret)))
  all_goals (refine QBody_ret1 rfl (rfl : _ = Value.bool _) ⟨?_, (by repeat (first | exact Wk.refl _ | apply Wk.keep1 | apply Wk.drop | apply Wk.sv | apply Wk.svD | apply Wk.appD))⟩; congr 1; simp [*])
theorem firstG_at {w : Int} {l : List Int} {k : Nat} (h : ∀ x ∈ l.take k, x < w) (hk : k < l.length) (hx : w ≤ l[k]) : firstG w l = k :=
  firstG_eq (by omega) (fun j t hj ht => h t (List.mem_of_getElem? (by rw [List.getElem?_take, if_pos hj]; exact ht))) (fun t ht => by rw [List.getElem?_eq_getElem hk] at ht; simp only [Option.some.injEq] at ht; omega)
theorem firstG_none {w : Int} {l : List Int} (h : ∀ x ∈ l, x < w) : firstG w l = l.length :=
  firstG_eq (Nat.le_refl _) (fun j t _ ht => h t (List.mem_of_getElem? ht)) (fun t ht => by simp at ht)
theorem end80_ret (L : Hp) (u : Sp) : Ret Try.prog N w0 L 80 [.agg [.int .i64 u.1, .int .i64 u.2].toArray].toArray (.int .i64 u.2) := by
  refine Ret.fgt ?_
  refine tri_of_WP Try.func80 rfl (n := 6) rfl (by simp) ?_
  repeat' (first | (refine Znh ?_) | (refine GiW ?_; first | (refine Zsq fun K hK => ?_) | (refine ZrN 0 fun _ => ?_; refine Zal 1 fun b1 => ?_; refine Zv Zai ?_) | (refine ZrN 1 fun _ => ?_; refine Zv Zf0 ?_; refine Zv Zfa ?_; refine Zv Zld ?_; refine Zv Zai ?_) | (with_reducible apply WP_ret)))
  exact QBody_ret1 rfl (rfl : _ = Value.int _ _) ⟨rfl, (by repeat (first | exact Wk.refl _ | apply Wk.keep1 | apply Wk.drop | apply Wk.sv | apply Wk.svD | apply Wk.appD))⟩
theorem end81_ret (L : Hp) (u : Sp) : Ret Try.prog N w0 L 81 [.agg [.int .i64 u.1, .int .i64 u.2].toArray].toArray (.int .i64 u.1) := by
  refine Ret.fgt ?_
  refine tri_of_WP Try.func81 rfl (n := 6) rfl (by simp) ?_
  repeat' (first | (refine Znh ?_) | (refine GiW ?_; first | (refine Zsq fun K hK => ?_) | (refine ZrN 0 fun _ => ?_; refine Zal 1 fun b1 => ?_; refine Zv Zai ?_) | (refine ZrN 1 fun _ => ?_; refine Zv Zf0 ?_; refine Zv Zf0 ?_; refine Zv Zld ?_; refine Zv Zai ?_) | (with_reducible apply WP_ret)))
  exact QBody_ret1 rfl (rfl : _ = Value.int _ _) ⟨rfl, (by repeat (first | exact Wk.refl _ | apply Wk.keep1 | apply Wk.drop | apply Wk.sv | apply Wk.svD | apply Wk.appD))⟩
/-- The first day by which an end is enough. -/
theorem first_ret (s : Sd) (hv : VS s) (x y z : Int) (hm : [x, y, z] ∈ toldC s) (w : Int) (b1 b2 b3 : Nat) (q : FuncId) [HasBody Try.prog q] (pr : Sp → Int) (hq : ∀ L u, Ret Try.prog N w0 L q [.agg [.int .i64 u.1, .int .i64 u.2].toArray].toArray (.int .i64 (pr u))) (L : Hp)
    (hS : Sub [(b1, Blk 91 (logL s [x, y, z])), (b2, Blk 3 [.int .i64 (s.days.length : Int)]), (b3, Blk 3 [.int .i64 w])] L) :
    Ret Try.prog N w0 L 79 (.func (.func q) #[] #[] :: [.pointer (some ⟨b1, 0, none⟩), .pointer (some ⟨b2, 0, none⟩), .pointer (some ⟨b3, 0, none⟩)]).toArray (.int .i64 (firstG w ((daysS s [x, y, z]).map pr) : Int)) := by
  have hnd := hv.nd
  have m1 := hS.mem .here
  have m2 := hS.mem (.there .here)
  have m3 := hS.mem (.there (.there .here))
  have hdl := days_len hv hm
  refine Ret.fgt ?_
  refine tri_of_WP Try.func79 rfl (n := _) rfl (by simp) ?_
  repeat' (first | (refine Znh ?_) | (refine GiW ?_; first | (refine Zsq fun K hK => ?_) | (refine ZrN 0 fun _ => ?_; refine Zv Zai ?_) | (refine ZrN 1 fun _ => ?_; refine Zv Zf0 ?_; refine Zv Zld ?_; refine Zv (Val_sliceArr (h := s.days.length) rfl rfl rfl (by omega)) ?_; refine Zv Zxlen ?_; refine Zv Zmi ?_) | (with_reducible apply WP_block)))
  refine WP_loop [5, 6, 7, 12, 13, 14, 15, 16, 17, 18, 19, 20, 21, 22, 23] (fun k : Nat => [(12, .int .i64 k)]) (fun _ => L) (fun k => k ≤ s.days.length ∧ ∀ t ∈ ((daysS s [x, y, z]).map pr).take k, t < w) (fun k => s.days.length - k) 0 (.cons rfl .nil) (Wk.refl _) ⟨Nat.zero_le _, fun t ht => by simp at ht⟩ ?_
  rintro k j ⟨hk, hno⟩
  by_cases hlt : k < s.days.length
  · have hcd := cellsD_cut (b := canS s [x, y, z]) (pad6_get (days_get hv hm hlt))
    have hgk : ∀ h, ((daysS s [x, y, z]).map pr)[k]'h = pr (dayS s [x, y, z] k) := by
      intro h
      have := days_get hv hm hlt
      rw [List.getElem_map]
      rw [List.getElem?_eq_getElem (by omega)] at this
      simp only [Option.some.injEq] at this
      rw [this]
    have hcall := fun L => hq L (dayS s [x, y, z] k)
    unfold spL at hcd
    have hkl : k < ((daysS s [x, y, z]).map pr).length := by rw [List.length_map]; omega
    repeat' (first | (refine GiP ?_; first | (refine Znh ?_) | (with_reducible refine Znl ?_)) | (refine GiW ?_; first | (refine Zsq fun K hK => ?_) | (refine ZrN 2 fun _ => ?_; refine Zv Zxlss ?_) | (refine ZrN 3 fun _ => ?_; refine Zv Zmi ?_; refine Zv Zia ?_; (first | (refine Zv (Val_loadN rfl (by repeat (first | exact Mem.here | assumption | apply Mem.there | apply Mem.sv | apply Mem.app)) hcd) ?_) | (refine Zv Zla ?_)); refine Zal 7 fun b7 => ?_; refine Zv Zai ?_; refine Zst ?_) | (refine ZrN 5 fun _ => ?_; refine Zv Zmi ?_; refine Zv Zai ?_) | (refine ZrN 6 fun _ => ?_; refine Zv Zxadd ?_; refine Zv Zmi ?_) | (refine Zcd (fun hc => ?_) (fun hc => ?_) <;> (try (exfalso; omega))) | (with_reducible apply WP_skip) | (with_reducible apply WP_block) | (with_reducible apply WP_ret) | (refine WP_drawn (id := 4) [0, 1, 2, 3, 4] [] (k := 0) prog_mixed (by kernel_rfl) rfl ?_; refine Zew rfl Zmv ?_; (first | (refine Zew rfl (Val_loadN rfl (by repeat (first | exact Mem.here | assumption | apply Mem.there | apply Mem.sv | apply Mem.app)) hcd) ?_) | (refine Zew rfl Zla ?_)); refine Zec rfl (Enters_val rfl rfl) (fun X => hcall _) ?_; (first | (refine Zew rfl (Val_loadN rfl (by repeat (first | exact Mem.here | assumption | apply Mem.there | apply Mem.sv | apply Mem.app)) hcd) ?_) | (refine Zew rfl Zld ?_)); refine Zew rfl Zxgeq ?_)) | (with_reducible apply EWalk_nil) | (refine AnyO_done (by kernel_rfl) ?_; (try with_reducible apply noP_normal); try with_reducible exact key.out) | (refine Zhn ?_) | (with_reducible apply QBlock_normal) | (refine Zhr ?_) | (with_reducible apply QBlock_ret) | (with_reducible apply QLoop_ret) | (refine AWalk_0 ?_; refine ZisO ?_))
    · refine QBody_ret1 rfl (rfl : _ = Value.int _ _) ⟨?_, (by repeat (first | exact Wk.refl _ | apply Wk.keep1 | apply Wk.drop | apply Wk.sv | apply Wk.svD | apply Wk.appD))⟩
      rw [firstG_at hno hkl (by rw [hgk]; assumption)]
    · refine QLoop_normal (k + 1) (.cons rfl .nil) (by repeat (first | exact Off.frame rfl | exact Off.refl _ _ | refine Off.frameT rfl rfl ?_ | refine Off.upd rfl ?_ | refine Off.updO rfl ?_)) (by repeat (first | exact Wk.refl _ | apply Wk.keep1 | apply Wk.drop | apply Wk.sv | apply Wk.svD | apply Wk.appD)) ⟨by omega, ?_⟩ (by omega)
      rw [List.take_succ_eq_append_getElem hkl]
      intro t ht
      rcases List.mem_append.1 ht with ht | ht
      · exact hno t ht
      · rw [List.mem_singleton.1 ht, hgk]; omega
  · repeat' (first | (refine Znh ?_) | (refine GiW ?_; first | (refine Zsq fun K hK => ?_) | (refine ZrN 2 fun _ => ?_; refine Zv Zxlss ?_) | (refine ZrN 7 fun _ => ?_; refine Zv Zld ?_; refine Zv Zai ?_) | (refine Zcd (fun hc => ?_) (fun hc => ?_) <;> (try (exfalso; omega))) | (with_reducible apply WP_exit) | (with_reducible apply WP_ret)) | (refine Zhn ?_) | (refine Zhx ?_) | (with_reducible apply QBlock_hit) | (with_reducible apply QLoop_exit))
    refine QBody_ret1 rfl (rfl : _ = Value.int _ _) ⟨?_, (by repeat (first | exact Wk.refl _ | apply Wk.keep1 | apply Wk.drop | apply Wk.sv | apply Wk.svD | apply Wk.appD))⟩
    rw [List.take_of_length_le (by rw [List.length_map]; omega)] at hno
    rw [firstG_none hno, List.length_map, hdl]
theorem doneM_ret (g : Fg) (hv : VS g.s) (hA : SodAt N w0 g) (b1 b2 b3 : Nat) (x y z : Int) (hm : [x, y, z] ∈ toldC g.s) (L : Hp) (hS : Sub (NdN b1 b2 b3 g.s.days.length g) L) :
    Ret Try.prog N w0 L 78 (.agg [.int .i64 x, .int .i64 y, .int .i64 z].toArray :: .agg (logL g.s [x, y, z]).toArray :: [.pointer (some ⟨b1, 0, none⟩), .pointer (some ⟨b2, 0, none⟩), .pointer (some ⟨b3, 0, none⟩)]).toArray (.agg (spL (doneR g.s [x, y, z])).toArray) := by
  have hnp := hv.np
  have hmr := (List.mem_filter.1 hm).1
  have hlen := logL_len hv [x, y, z]
  obtain ⟨x', y', z', h1, h3⟩ := rowsC_three hv hmr
  simp only [List.cons.injEq, and_true] at h1
  obtain ⟨rfl, rfl, rfl⟩ := h1
  have hwh := fun L hm => whole_ret N w0 L g hm hA hv x y z (fun w hw => by have := h3 w hw; omega) g.s.spits.length (Nat.le_refl _)
  unfold doneR spL
  obtain ⟨wh, hw⟩ : ∃ wh, wholeS g.s [x, y, z] g.s.spits.length = wh := ⟨_, rfl⟩
  rw [hw] at hwh ⊢
  have hf0 := fun b1 b2 b3 L hS => first_ret N w0 g.s hv x y z hm wh b1 b2 b3 80 (·.2) (fun L u => end80_ret N w0 L u) L hS
  have hf1 := fun b1 b2 b3 L hS => first_ret N w0 g.s hv x y z hm wh b1 b2 b3 81 (·.1) (fun L u => end81_ret N w0 L u) L hS
  obtain ⟨lv, hlv⟩ : ∃ lv, logL g.s [x, y, z] = lv := ⟨_, rfl⟩
  rw [hlv] at hlen hf0 hf1 ⊢
  refine Ret.sub hS fun L0 => ?_
  simp only [NdN, List.cons_append, List.nil_append]
  unfold sdL
  refine Ret.fgt ?_
  refine tri_of_WP Try.func78 rfl (n := 22) rfl (by simp) ?_
  repeat' (first | (refine Znh ?_) | (refine GiW ?_; first | (refine Zsq fun K hK => ?_) | (refine ZrN 0 fun _ => ?_; refine Zal 5 fun b5 => ?_; refine Zal 6 fun b6 => ?_; refine Zal 7 fun b7 => ?_) | (refine ZrN 1 fun _ => ?_; refine Zv Zld ?_; refine Zv Zla ?_; refine Zv Zf0 ?_; refine Zv Zld ?_; refine Zv Zxlen ?_; refine Zcl (Enters_fn rfl) (hwh _ (by repeat (first | exact Mem.here | assumption | apply Mem.there | apply Mem.sv | apply Mem.app))) ?_; refine Zal 8 fun b8 => ?_; refine Zst ?_) | (refine ZrN 2 fun _ => ?_; refine Zv Val_makeFunc ?_; refine Zv Zav ?_) | (refine ZrN 3 fun _ => ?_; refine Zv Zmv ?_; (first | (refine Zcl (Enters_val rfl rfl) (hf0 _ _ _ _ (by repeat (first | exact Sub.refl _ | assumption | exact Sub.left | (with_reducible refine Sub.pick (by repeat (first | exact Pick.here | apply Pick.there)) ?_) | apply Sub.cons | apply Sub.sv | apply Sub.app))) ?_) | (refine Zcl (Enters_val rfl rfl) (hf1 _ _ _ _ (by repeat (first | exact Sub.refl _ | assumption | exact Sub.left | (with_reducible refine Sub.pick (by repeat (first | exact Pick.here | apply Pick.there)) ?_) | apply Sub.cons | apply Sub.sv | apply Sub.app))) ?_)); refine Zv Zmv ?_; (first | (refine Zcl (Enters_val rfl rfl) (hf0 _ _ _ _ (by repeat (first | exact Sub.refl _ | assumption | exact Sub.left | (with_reducible refine Sub.pick (by repeat (first | exact Pick.here | apply Pick.there)) ?_) | apply Sub.cons | apply Sub.sv | apply Sub.app))) ?_) | (refine Zcl (Enters_val rfl rfl) (hf1 _ _ _ _ (by repeat (first | exact Sub.refl _ | assumption | exact Sub.left | (with_reducible refine Sub.pick (by repeat (first | exact Pick.here | apply Pick.there)) ?_) | apply Sub.cons | apply Sub.sv | apply Sub.app))) ?_)); refine Zv Zxbu ?_; refine Zst ?_) | (with_reducible apply WP_ret)))
  exact QBody_res rfl (.cellN rfl (by repeat (first | exact Mem.here | assumption | apply Mem.there | apply Mem.sv | apply Mem.app)) (.here (.cons (.cons .nil))) .nil) rfl ⟨rfl, (by repeat (first | exact Wk.refl _ | apply Wk.keep1 | apply Wk.drop | apply Wk.sv | apply Wk.svD | apply Wk.appD))⟩
end
end Go.Proofs.Ytkaadefndcbdnaa
