/- Package bank: sums, what is asked, spans, perches and holders, sets of marks; how a lease goes on. -/
import Derived.Test.YtakmopiceopcpaaBs
import Derived.Test.YtakmopiceopcpaaMz
import Derived.Test.YtakmopiceopcpaaRd
import Derived.Test.YtakmopiceopcpaaPm
section
namespace Go.Proofs.Ytakmopiceopcpaa
open Go.RowKit
def leL (l : Le) : List Value := [.int .i64 l.h, .int .i64 l.f.1, .int .i64 l.f.2, .int .i64 l.t.1, .int .i64 l.t.2]
def leV (l : Le) : Value := .agg (leL l).toArray
def askV : Ask → Value
  | .any => .iface 77 (.agg #[])
  | .mine p h => .iface 79 (.agg [.int .i64 p, .int .i64 h].toArray)
  | .line p t => .iface 96 (.agg [.int .i64 p, .bool t].toArray)
/-- What a bank's value holds, and where. -/
structure Fg where
  d : Bn
  A1 : Option Addr
  c1 : Nat
  A2 : Option Addr
  c2 : Nat
def bkL (g : Fg) : List Value := [.int .i64 g.d.n, .int .i64 g.d.m, .slice g.A1 g.d.ls.length g.c1, .slice g.A2 g.d.ms.length g.c2]
def bkV (g : Fg) : Value := .agg (bkL g).toArray
structure BkAt (N : Nat) (w0 : World) (g : Fg) : Prop where
  ls : SlAt N w0 g.A1 5 (g.d.ls.map leL)
  ms : SlAt N w0 g.A2 2 (g.d.ms.map spL)
section
variable {P : Program} {N : Nat} {w0 : World} {L : Hp} {e : Env} {d : Option Nat} {ty : TypeId} {pos : String} {af : Array Edge} {g : Option (Nat × Bool)}
theorem Val_load0 {t : TypeId} {bt : Nat} [TySz P t true 0 bt] {x : Operand} {b o : Nat} (hx : ev e x = .pointer (some ⟨b, o, none⟩)) : Val P N w0 L e ⟨d, .load t x, ty, pos, af, g⟩ (.agg #[]) := by
  intro w _
  simp [execOp, hx, Instr.loadAt, Instr.sureAddr, run_loadVarN (P := P) (t := t) (a := ⟨b, o, none⟩) (vs := []) rfl (fun j hj => absurd hj (Nat.not_lt_zero j))]
class ZField (P : Program) (T i : TypeId) (ft : outParam TypeId) : Prop where
  fld : (match P.underlying T with | some (.struct fs) => (fs[i]?).map fun f => (f.offset, f.byteOffset, f.type) | _ => none) = some (0, 0, ft)
  byt : byteOfCell P P.depth T 0 = some 0
  cel : P.cellsOf T ≠ 0
theorem Val_fieldAddrZ {T ft : TypeId} {i : Nat} [hz : ZField P T i ft] {g' : Bool} {bt : Nat} [TySz P ft g' 0 bt] {x : Operand} {b : Nat} {l : List Value} (hx : ev e x = .pointer (some ⟨b, 0, none⟩)) (hm : Mem b (Blk T l) L) : Val P N w0 L e ⟨d, .fieldAddr T x i, ty, pos, af, g⟩ (.pointer (some ⟨b, 0, none⟩)) := by
  intro w hI
  have hb := hz.byt
  have hc := hz.cel
  have hf := hz.fld
  have ho := hI.obj hm
  have hsh : w.shape? b = some (T, l.length) := by simp [World.shape?, ho]
  cases hu : P.underlying T with
  | none => rw [hu] at hf; cases hf
  | some td =>
    rw [hu] at hf
    cases td <;> simp at hf
    rename_i fs
    obtain ⟨f, hf1, hf2, hf3, hf4⟩ := hf
    subst hf4
    simp [execOp, Instr.fieldAt, run_underlying hu, hf1, hx, Instr.sureAddr, fieldPlace, run_sizeOf (P := P) (t := f.type) (n := 0), hf2, hf3, partAt, byteOf, program, noView, viewAt, getObj, shape, Sem.run, ho, hsh, hc, hb]
end
instance : ZField Try.prog 79 0 77 := ⟨by kernel_rfl, by kernel_rfl, by decide +kernel⟩
instance : TySz Try.prog 77 true 0 0 := ⟨by kernel_rfl, by kernel_rfl⟩
def stV (s : St) : Value := .agg (ints (keyI s)).toArray
attribute [local irreducible] AnyO AnyB QAny QB EWalk AWalk Ev WP OPS QThen QBlock QScope QLoop QBody Val New Turn Tri Enters PostA Blk Ro
attribute [local irreducible] AnyC QC
section
variable (N : Nat) (w0 : World)
theorem sum_ret (L : Hp) (a b : Int) (ha : 0 ≤ a ∧ a ≤ 2 ^ 50) (hb : 0 ≤ b ∧ b ≤ 2 ^ 50) (bl : Nat) (hm : Mem bl (Blk 3 [.int .i64 a, .int .i64 b]) L) : Ret Try.prog N w0 L 95 [.slice (some ⟨bl, 0, none⟩) 2 2].toArray (.int .i64 (a + b)) := by
  refine Ret.fgt ?_
  refine tri_of_WP Try.func95 rfl (n := _) rfl (by simp) ?_
  repeat' (first | (refine GiP ?_; first | (refine Znh ?_) | (with_reducible refine Znl ?_)) | (refine GiW ?_; first | (refine Zsq fun K hK => ?_) | (refine ZrN 0 fun _ => ?_; refine Zv Zai ?_) | (refine ZrN 1 fun _ => ?_; refine Zv Zmv ?_; refine Zv Zxlen ?_; refine Zv Zmi ?_) | (refine ZrN 2 fun _ => ?_; refine Zv Zxlss ?_) | (refine ZrN 3 fun _ => ?_; refine Zv Zia ?_; refine Zv Zld ?_; refine Zv Zai ?_) | (refine ZrN 4 fun _ => ?_; refine Zv Zmi ?_; refine Zv Zmi ?_; refine Zv Zxadd ?_; refine Zv Zai ?_) | (refine ZrN 5 fun _ => ?_; refine Zv Zxadd ?_; refine Zv Zmi ?_) | (refine ZrN 6 fun _ => ?_; refine Zv Zmi ?_; refine Zv Zai ?_) | (refine WP_cond_true rfl ?_) | (refine WP_cond_false rfl ?_) | (refine Zcd (fun hc => ?_) (fun hc => ?_) <;> (try (exfalso; omega))) | (with_reducible apply WP_skip) | (with_reducible apply WP_block) | (with_reducible apply WP_exit) | (with_reducible apply WP_ret)) | (refine Zhn ?_) | (with_reducible apply QBlock_normal) | (refine Zhx ?_) | (with_reducible apply QBlock_hit) | (refine Zqb ?_) | (with_reducible apply QLoop_exit) | (refine Zhr ?_) | (with_reducible apply QBlock_ret) | (with_reducible apply QLoop_ret))
  refine WP_loop [2, 4, 7, 8, 9, 10, 11, 12, 13, 14] (fun k : Nat => [(7, .int .i64 k), (2, .int .i64 (if k = 0 then 0 else if k = 1 then a else a + b))]) (fun _ => L) (fun k => k ≤ 2) (fun k => 2 - k) 0 (.cons rfl (.cons rfl .nil)) (Wk.refl _) (by omega) ?_
  intro k j hk
  have h3 : k = 0 ∨ k = 1 ∨ k = 2 := by omega
  rcases h3 with rfl | rfl | rfl
  · repeat' (first | (refine GiP ?_; first | (refine Znh ?_) | (with_reducible refine Znl ?_)) | (refine GiW ?_; first | (refine Zsq fun K hK => ?_) | (refine ZrN 0 fun _ => ?_; refine Zv Zai ?_) | (refine ZrN 1 fun _ => ?_; refine Zv Zmv ?_; refine Zv Zxlen ?_; refine Zv Zmi ?_) | (refine ZrN 2 fun _ => ?_; refine Zv Zxlss ?_) | (refine ZrN 3 fun _ => ?_; refine Zv Zia ?_; refine Zv Zld ?_; refine Zv Zai ?_) | (refine ZrN 4 fun _ => ?_; refine Zv Zmi ?_; refine Zv Zmi ?_; refine Zv Zxadd ?_; refine Zv Zai ?_) | (refine ZrN 5 fun _ => ?_; refine Zv Zxadd ?_; refine Zv Zmi ?_) | (refine ZrN 6 fun _ => ?_; refine Zv Zmi ?_; refine Zv Zai ?_) | (refine WP_cond_true rfl ?_) | (refine WP_cond_false rfl ?_) | (refine Zcd (fun hc => ?_) (fun hc => ?_) <;> (try (exfalso; omega))) | (with_reducible apply WP_skip) | (with_reducible apply WP_block) | (with_reducible apply WP_exit) | (with_reducible apply WP_ret)) | (refine Zhn ?_) | (with_reducible apply QBlock_normal) | (refine Zhx ?_) | (with_reducible apply QBlock_hit) | (refine Zqb ?_) | (with_reducible apply QLoop_exit) | (refine Zhr ?_) | (with_reducible apply QBlock_ret) | (with_reducible apply QLoop_ret))
    exact QLoop_normal 1 (.cons rfl (.cons ((rfl : _ = Value.int .i64 (0 + a)).trans (by simp)) .nil)) (by repeat (first | exact Off.frame rfl | exact Off.refl _ _ | refine Off.frameT rfl rfl ?_ | refine Off.upd rfl ?_ | refine Off.updO rfl ?_)) (by repeat (first | exact Wk.refl _ | apply Wk.keep1 | apply Wk.drop | apply Wk.sv | apply Wk.svD | apply Wk.appD)) (by omega) (by omega)
  · repeat' (first | (refine GiP ?_; first | (refine Znh ?_) | (with_reducible refine Znl ?_)) | (refine GiW ?_; first | (refine Zsq fun K hK => ?_) | (refine ZrN 0 fun _ => ?_; refine Zv Zai ?_) | (refine ZrN 1 fun _ => ?_; refine Zv Zmv ?_; refine Zv Zxlen ?_; refine Zv Zmi ?_) | (refine ZrN 2 fun _ => ?_; refine Zv Zxlss ?_) | (refine ZrN 3 fun _ => ?_; refine Zv Zia ?_; refine Zv Zld ?_; refine Zv Zai ?_) | (refine ZrN 4 fun _ => ?_; refine Zv Zmi ?_; refine Zv Zmi ?_; refine Zv Zxadd ?_; refine Zv Zai ?_) | (refine ZrN 5 fun _ => ?_; refine Zv Zxadd ?_; refine Zv Zmi ?_) | (refine ZrN 6 fun _ => ?_; refine Zv Zmi ?_; refine Zv Zai ?_) | (refine WP_cond_true rfl ?_) | (refine WP_cond_false rfl ?_) | (refine Zcd (fun hc => ?_) (fun hc => ?_) <;> (try (exfalso; omega))) | (with_reducible apply WP_skip) | (with_reducible apply WP_block) | (with_reducible apply WP_exit) | (with_reducible apply WP_ret)) | (refine Zhn ?_) | (with_reducible apply QBlock_normal) | (refine Zhx ?_) | (with_reducible apply QBlock_hit) | (refine Zqb ?_) | (with_reducible apply QLoop_exit) | (refine Zhr ?_) | (with_reducible apply QBlock_ret) | (with_reducible apply QLoop_ret))
    exact QLoop_normal 2 (.cons rfl (.cons rfl .nil)) (by repeat (first | exact Off.frame rfl | exact Off.refl _ _ | refine Off.frameT rfl rfl ?_ | refine Off.upd rfl ?_ | refine Off.updO rfl ?_)) (by repeat (first | exact Wk.refl _ | apply Wk.keep1 | apply Wk.drop | apply Wk.sv | apply Wk.svD | apply Wk.appD)) (by omega) (by omega)
  · repeat' (first | (refine GiP ?_; first | (refine Znh ?_) | (with_reducible refine Znl ?_)) | (refine GiW ?_; first | (refine Zsq fun K hK => ?_) | (refine ZrN 0 fun _ => ?_; refine Zv Zai ?_) | (refine ZrN 1 fun _ => ?_; refine Zv Zmv ?_; refine Zv Zxlen ?_; refine Zv Zmi ?_) | (refine ZrN 2 fun _ => ?_; refine Zv Zxlss ?_) | (refine ZrN 3 fun _ => ?_; refine Zv Zia ?_; refine Zv Zld ?_; refine Zv Zai ?_) | (refine ZrN 4 fun _ => ?_; refine Zv Zmi ?_; refine Zv Zmi ?_; refine Zv Zxadd ?_; refine Zv Zai ?_) | (refine ZrN 5 fun _ => ?_; refine Zv Zxadd ?_; refine Zv Zmi ?_) | (refine ZrN 6 fun _ => ?_; refine Zv Zmi ?_; refine Zv Zai ?_) | (refine WP_cond_true rfl ?_) | (refine WP_cond_false rfl ?_) | (refine Zcd (fun hc => ?_) (fun hc => ?_) <;> (try (exfalso; omega))) | (with_reducible apply WP_skip) | (with_reducible apply WP_block) | (with_reducible apply WP_exit) | (with_reducible apply WP_ret)) | (refine Zhn ?_) | (with_reducible apply QBlock_normal) | (refine Zhx ?_) | (with_reducible apply QBlock_hit) | (refine Zqb ?_) | (with_reducible apply QLoop_exit) | (refine Zhr ?_) | (with_reducible apply QBlock_ret) | (with_reducible apply QLoop_ret))
    exact QBody_ret1 rfl (rfl : _ = Value.int _ _) ⟨rfl, (by repeat (first | exact Wk.refl _ | apply Wk.keep1 | apply Wk.drop | apply Wk.sv | apply Wk.svD | apply Wk.appD))⟩
theorem any_ret (L : Hp) (p o b : Int) : Ret Try.prog N w0 L 131 [.agg #[], .int .i64 p, .int .i64 o, .int .i64 b].toArray (.bool true) := by
  refine Ret.fgt ?_
  refine tri_of_WP Try.func131 rfl (n := _) rfl (by simp) ?_
  repeat' (first | (refine GiP ?_; first | (refine Znh ?_) | (with_reducible refine Znl ?_)) | (refine GiW ?_; first | (refine Zsq fun K hK => ?_) | (refine ZrN 0 fun _ => ?_; refine Zal 4 fun b4 => ?_; refine Zv Zab ?_) | (refine ZrN 1 fun _ => ?_; refine Zv Zab ?_) | (with_reducible apply WP_ret)) | (refine Zhn ?_) | (refine Zhr ?_))
  exact QBody_ret1 rfl (rfl : _ = Value.bool _) ⟨rfl, (by repeat (first | exact Wk.refl _ | apply Wk.keep1 | apply Wk.drop | apply Wk.sv | apply Wk.svD | apply Wk.appD))⟩
theorem mine_ret (L : Hp) (q h p o b : Int) : Ret Try.prog N w0 L 132 [.agg [.int .i64 q, .int .i64 h].toArray, .int .i64 p, .int .i64 o, .int .i64 b].toArray (.bool ((Ask.mine q h).is p o b)) := by
  refine Ret.fgt ?_
  refine tri_of_WP Try.func132 rfl (n := _) rfl (by simp) ?_
  unfold Ask.is
  repeat' (first | (refine GiP ?_; first | (refine Znh ?_) | (with_reducible refine Znl ?_)) | (refine GiW ?_; first | (refine Zsq fun K hK => ?_) | (refine ZrN 0 fun _ => ?_; refine Zal 4 fun b4 => ?_; refine Zv Zab ?_) | (refine ZrN 1 fun _ => ?_; refine Zv Zmi ?_; (first | (refine Zv (Val_fieldAddrZ rfl (by repeat (first | exact Mem.here | assumption | apply Mem.there | apply Mem.sv | apply Mem.app))) ?_) | (refine Zv Zfa ?_)); (first | (refine Zv (Val_load0 rfl) ?_) | (refine Zv Zld ?_)); refine Zv Zxneq ?_) | (refine ZrN 2 fun _ => ?_; (first | (refine Zv (Val_fieldAddrZ rfl (by repeat (first | exact Mem.here | assumption | apply Mem.there | apply Mem.sv | apply Mem.app))) ?_) | (refine Zv Zf0 ?_)); (first | (refine Zv (Val_load0 rfl) ?_) | (refine Zv Zla ?_)); refine Zv Zmi ?_; refine Zv Zmi ?_; refine Zv Zmi ?_; refine Zcl (Enters_fn rfl) (any_ret N w0 _ p o b) ?_; refine Zv Zab ?_) | (refine ZrN 3 fun _ => ?_; refine Zv Zmi ?_; (first | (refine Zv (Val_fieldAddrZ rfl (by repeat (first | exact Mem.here | assumption | apply Mem.there | apply Mem.sv | apply Mem.app))) ?_) | (refine Zv Zfa ?_)); (first | (refine Zv (Val_load0 rfl) ?_) | (refine Zv Zld ?_)); refine Zv Zxeql ?_; refine Zv Zab ?_) | (refine WP_cond_true rfl ?_) | (refine WP_cond_false rfl ?_) | (refine Zcd (fun hc => ?_) (fun hc => ?_) <;> (try (exfalso; omega))) | (with_reducible apply WP_skip) | (with_reducible apply WP_ret)) | (refine Zhn ?_) | (refine Zhr ?_))
  · refine QBody_ret1 rfl (rfl : _ = Value.bool _) ⟨?_, (by repeat (first | exact Wk.refl _ | apply Wk.keep1 | apply Wk.drop | apply Wk.sv | apply Wk.svD | apply Wk.appD))⟩
    dsimp only
    rw [if_neg hc]
  · refine QBody_ret1 rfl (rfl : _ = Value.bool _) ⟨?_, (by repeat (first | exact Wk.refl _ | apply Wk.keep1 | apply Wk.drop | apply Wk.sv | apply Wk.svD | apply Wk.appD))⟩
    dsimp only
    rw [if_pos hc]
    congr 2
theorem line_ret (L : Hp) (q : Int) (t : Bool) (p o b : Int) : Ret Try.prog N w0 L 133 [.agg [.int .i64 q, .bool t].toArray, .int .i64 p, .int .i64 o, .int .i64 b].toArray (.bool ((Ask.line q t).is p o b)) := by
  refine Ret.fgt ?_
  refine tri_of_WP Try.func133 rfl (n := _) rfl (by simp) ?_
  unfold Ask.is
  repeat' (first | (refine GiP ?_; first | (refine Znh ?_) | (with_reducible refine Znl ?_) | (refine Zatd 20 ?_; (first | (refine Zv Zxpt ?_) | (refine Zv Zxpf ?_)); refine Zv Zab ?_) | (refine Zatd 14 ?_; first | refine Zsk ?_ | (refine Zv Zmi ?_)) | (refine Zatd 15 ?_; first | refine Zsk ?_ | (refine Zv Zmi ?_)) | (refine Zatd 16 ?_; first | refine Zsk ?_ | (refine Zv Zxneq ?_)) | (refine Zatd 17 ?_; first | refine Zsk ?_ | (refine Zv Zfa ?_)) | (refine Zatd 18 ?_; first | refine Zsk ?_ | (refine Zv Zld ?_)) | (refine Zatd 19 ?_; first | refine Zsk ?_ | (refine Zv ZxeqlB ?_)) | (refine Zsk ?_) | (refine Zsp (fun hc => ?_) (fun hc => ?_) <;> (try (exfalso; omega)))) | (refine GiW ?_; first | (refine Zsq fun K hK => ?_) | (refine ZrN 0 fun _ => ?_; refine Zal 4 fun b4 => ?_; refine Zv Zab ?_) | (refine ZrG 1 ?_; refine Zv Zmi ?_; refine Zv Zf0 ?_; refine Zv Zld ?_; refine Zv Zxneq ?_; refine Zv Zmb ?_) | (with_reducible apply WP_ret)) | (refine Zhn ?_) | (refine Zhr ?_))
  · exact QBody_ret1 rfl (rfl : _ = Value.bool _) ⟨by simp [hc], (by repeat (first | exact Wk.refl _ | apply Wk.keep1 | apply Wk.drop | apply Wk.sv | apply Wk.svD | apply Wk.appD))⟩
  · refine QBody_ret1 rfl (rfl : _ = Value.bool _) ⟨?_, (by repeat (first | exact Wk.refl _ | apply Wk.keep1 | apply Wk.drop | apply Wk.sv | apply Wk.svD | apply Wk.appD))⟩
    subst hc
    congr 2
    by_cases ho : o = b
    · subst ho; simp
    · have : (o != b) = true := bne_iff_ne.2 ho
      rw [this]
      simp [ho]
theorem isSpan_ret (L : Hp) (s : Sp) (lo hi : Int) (hlo : 0 ≤ lo) (hhi : hi ≤ 1000) : Ret Try.prog N w0 L 91 [.agg [.int .i64 s.1, .int .i64 s.2].toArray, .int .i64 lo, .int .i64 hi].toArray (.bool (spB s lo hi)) := by
  refine Ret.fgt ?_
  refine tri_of_WP Try.func91 rfl (n := _) rfl (by simp) ?_
  repeat' (first | (refine GiP ?_; first | (refine Znh ?_) | (with_reducible refine Znl ?_) | (refine Zatd 17 ?_; (first | (refine Zv Zxpt ?_) | (refine Zv Zxpf ?_)); refine Zv Zmb ?_) | (refine Zatd 23 ?_; (first | (refine Zv Zxpt ?_) | (refine Zv Zxpf ?_)); refine Zv Zmb ?_) | (refine Zatd 31 ?_; (first | (refine Zv Zxpt ?_) | (refine Zv Zxpf ?_)); refine Zv Zab ?_) | (refine Zatd 12 ?_; first | refine Zsk ?_ | (refine Zv Zf0 ?_)) | (refine Zatd 13 ?_; first | refine Zsk ?_ | (refine Zv Zld ?_)) | (refine Zatd 14 ?_; first | refine Zsk ?_ | (refine Zv Zfa ?_)) | (refine Zatd 15 ?_; first | refine Zsk ?_ | (refine Zv Zld ?_)) | (refine Zatd 16 ?_; first | refine Zsk ?_ | (refine Zv Zxleq ?_)) | (refine Zatd 19 ?_; first | refine Zsk ?_ | (refine Zv Zfa ?_)) | (refine Zatd 20 ?_; first | refine Zsk ?_ | (refine Zv Zld ?_)) | (refine Zatd 21 ?_; first | refine Zsk ?_ | (refine Zv Zmi ?_)) | (refine Zatd 22 ?_; first | refine Zsk ?_ | (refine Zv Zxleq ?_)) | (refine Zatd 25 ?_; first | refine Zsk ?_ | (refine Zv Zfa ?_)) | (refine Zatd 26 ?_; first | refine Zsk ?_ | (refine Zv Zld ?_)) | (refine Zatd 27 ?_; first | refine Zsk ?_ | (refine Zv Zf0 ?_)) | (refine Zatd 28 ?_; first | refine Zsk ?_ | (refine Zv Zld ?_)) | (refine Zatd 29 ?_; first | refine Zsk ?_ | (refine Zv Zxsub ?_)) | (refine Zatd 30 ?_; first | refine Zsk ?_ | (refine Zv Zxleq ?_)) | (refine Zsk ?_) | (refine Zsp (fun hc => ?_) (fun hc => ?_) <;> (try (exfalso; omega)))) | (refine GiW ?_; first | (refine Zsq fun K hK => ?_) | (refine ZrN 0 fun _ => ?_; refine Zal 3 fun b3 => ?_; refine Zv Zab ?_) | (refine ZrG 1 ?_; refine Zv Zmi ?_; refine Zv Zf0 ?_; refine Zv Zld ?_; refine Zv Zxleq ?_; refine Zv Zmb ?_) | (with_reducible apply WP_ret)) | (refine Zhn ?_) | (refine Zhr ?_))
  all_goals (refine QBody_ret1 rfl (rfl : _ = Value.bool _) ⟨?_, (by repeat (first | exact Wk.refl _ | apply Wk.keep1 | apply Wk.drop | apply Wk.sv | apply Wk.svD | apply Wk.appD))⟩; congr 2; rw [Bool.eq_iff_iff]; simp only [spB, decide_eq_true_eq, true_iff, Bool.false_eq_true, false_iff]; omega)
theorem isPerch_ret (L : Hp) (g : Fg) (hn : 1 ≤ g.d.n ∧ g.d.n ≤ 10) (p : Int) : Ret Try.prog N w0 L 53 [bkV g, .int .i64 p].toArray (.bool (inB p 0 (g.d.n - 1))) := by
  unfold bkV bkL
  refine Ret.fgt ?_
  refine tri_of_WP Try.func53 rfl (n := _) rfl (by simp) ?_
  repeat' (first | (refine GiP ?_; first | (refine Znh ?_) | (with_reducible refine Znl ?_)) | (refine GiW ?_; first | (refine Zsq fun K hK => ?_) | (refine ZrN 0 fun _ => ?_; refine Zal 2 fun b2 => ?_; refine Zv Zab ?_) | (refine ZrN 1 fun _ => ?_; refine Zv Zmi ?_; refine Zv Zf0 ?_; refine Zv Zf0 ?_; refine Zv Zld ?_; refine Zv Zxsub ?_; refine Zcl (Enters_fn rfl) (within_ret N w0 _ _ _ _) ?_; refine Zv Zab ?_) | (with_reducible apply WP_ret)) | (refine Zhn ?_) | (refine Zhr ?_))
  refine QBody_ret1 rfl (rfl : _ = Value.bool _) ⟨?_, (by repeat (first | exact Wk.refl _ | apply Wk.keep1 | apply Wk.drop | apply Wk.sv | apply Wk.svD | apply Wk.appD))⟩
  congr 2; rw [Bool.eq_iff_iff]; simp [within, inB]
theorem isHolder_ret (L : Hp) (g : Fg) (p : Int) : Ret Try.prog N w0 L 62 [bkV g, .int .i64 p].toArray (.bool (inB p 0 g.d.m)) := by
  unfold bkV bkL
  refine Ret.fgt ?_
  refine tri_of_WP Try.func62 rfl (n := _) rfl (by simp) ?_
  repeat' (first | (refine GiP ?_; first | (refine Znh ?_) | (with_reducible refine Znl ?_)) | (refine GiW ?_; first | (refine Zsq fun K hK => ?_) | (refine ZrN 0 fun _ => ?_; refine Zal 2 fun b2 => ?_; refine Zv Zab ?_) | (refine ZrN 1 fun _ => ?_; refine Zv Zmi ?_; refine Zv Zf0 ?_; refine Zv Zfa ?_; refine Zv Zld ?_; refine Zcl (Enters_fn rfl) (within_ret N w0 _ _ _ _) ?_; refine Zv Zab ?_) | (with_reducible apply WP_ret)) | (refine Zhn ?_) | (refine Zhr ?_))
  refine QBody_ret1 rfl (rfl : _ = Value.bool _) ⟨?_, (by repeat (first | exact Wk.refl _ | apply Wk.keep1 | apply Wk.drop | apply Wk.sv | apply Wk.svD | apply Wk.appD))⟩
  congr 2; rw [Bool.eq_iff_iff]; simp [within, inB]
theorem always_ret (L : Hp) (g : Fg) : Ret Try.prog N w0 L 73 [bkV g].toArray (.bool true) := by
  unfold bkV bkL
  refine Ret.fgt ?_
  refine tri_of_WP Try.func73 rfl (n := 3) rfl (by simp) ?_
  repeat' (first | (refine GiP ?_; first | (refine Znh ?_) | (with_reducible refine Znl ?_)) | (refine GiW ?_; first | (refine Zsq fun K hK => ?_) | (refine ZrN 0 fun _ => ?_; refine Zal 1 fun b1 => ?_; refine Zv Zab ?_) | (refine ZrN 1 fun _ => ?_; refine Zv Zab ?_) | (with_reducible apply WP_ret)) | (refine Zhn ?_) | (refine Zhr ?_))
  exact QBody_ret1 rfl (rfl : _ = Value.bool _) ⟨rfl, (by repeat (first | exact Wk.refl _ | apply Wk.keep1 | apply Wk.drop | apply Wk.sv | apply Wk.svD | apply Wk.appD))⟩
theorem every_ret (L : Hp) (g : Fg) (hns : g.d.ms.length ≤ 6) : Ret Try.prog N w0 L 68 [bkV g].toArray (.int .u64 ((2 ^ g.d.ms.length - 1 : Nat) : Int)) := by
  have hp : 2 ^ g.d.ms.length ≤ 2 ^ 6 := Nat.pow_le_pow_right (by omega) hns
  have hp1 := Nat.two_pow_pos g.d.ms.length
  have hsub : ∀ {L e d ty pos af gg x y' t t'} (hx : ev e x = .int .u64 ((2 ^ g.d.ms.length : Nat) : Int)) (hy : ev e y' = .int .u64 1), Val Try.prog N w0 L e ⟨d, .binOp .sub t x y' t', ty, pos, af, gg⟩ (.int .u64 ((2 ^ g.d.ms.length - 1 : Nat) : Int)) := by
    intro L e d ty pos af gg x y' t t' hx hy
    have e1 : ((2 ^ g.d.ms.length : Nat) : Int) - 1 = ((2 ^ g.d.ms.length - 1 : Nat) : Int) := by omega
    rw [← e1]
    refine Val_sub hx hy ?_
    rw [e1]
    exact wrap_nat rfl (by show _ < 2 ^ 64; omega)
  unfold bkV bkL
  refine Ret.fgt ?_
  refine tri_of_WP Try.func68 rfl (n := _) rfl (by simp) ?_
  repeat' (first | (refine GiP ?_; first | (refine Znh ?_) | (with_reducible refine Znl ?_)) | (refine GiW ?_; first | (refine Zsq fun K hK => ?_) | (refine ZrN 0 fun _ => ?_; refine Zal 1 fun b1 => ?_; refine Zv Zai ?_) | (refine ZrN 1 fun _ => ?_; refine Zv Zf0 ?_; refine Zv Zfa ?_; refine Zv Zld ?_; refine Zv Zxlen ?_; refine Zv (Val_shl1 (i := g.d.ms.length) rfl rfl rfl (by show _ < 64; omega)) ?_; refine Zv (hsub rfl rfl) ?_; refine Zv Zai ?_) | (with_reducible apply WP_ret)) | (refine Zhn ?_) | (refine Zhr ?_))
  exact QBody_ret1 rfl (rfl : _ = Value.int _ _) ⟨rfl, (by repeat (first | exact Wk.refl _ | apply Wk.keep1 | apply Wk.drop | apply Wk.sv | apply Wk.svD | apply Wk.appD))⟩
/-- What is asked of a perch, its holder, and the one before it: not so. -/
theorem tally1_ret (L : Hp) (a : Ask) (p : Nat) (x s : St) (hx : x.1.length ≤ 4) (hs : s.1.length ≤ 4) (bp bx bs : Nat) (m1 : Mem bp (Blk 3 [.int .i64 p]) L) (m2 : Mem bx (Blk 118 (ints (keyI x))) L) (m3 : Mem bs (Blk 118 (ints (keyI s))) L) :
    Ret Try.prog N w0 L 94 [askV a, .pointer (some ⟨bp, 0, none⟩), .pointer (some ⟨bx, 0, none⟩), .pointer (some ⟨bs, 0, none⟩)].toArray (.bool (!a.is p x.2 s.2)) := by
  have hk : ∀ s : St, s.1.length ≤ 4 → (ints (keyI s))[0 + 4]? = some (.int .i64 s.2) := by
    intro s hs
    have : (pad4 s.1).length = 4 := by simp [pad4]; omega
    unfold ints keyI
    rw [List.getElem?_map, List.getElem?_append_right (by omega), this]; rfl
  have hk1 := hk x hx
  have hk2 := hk s hs
  refine Ret.fgt ?_
  refine tri_of_WP Try.func94 rfl (n := _) rfl (by simp) ?_
  unfold askV
  cases a with
  | any =>
    repeat' (first | (refine GiP ?_; first | (refine Znh ?_) | (with_reducible refine Znl ?_)) | (refine GiW ?_; first | (refine Zsq fun K hK => ?_) | (refine ZrN 0 fun _ => ?_; refine Zv Zab ?_) | (refine ZrN 1 fun _ => ?_; refine Zv Zmv ?_; refine Zv Zld ?_; refine Zv Zfa ?_; refine Zv Zld ?_; refine Zv Zfa ?_; refine Zv Zld ?_; refine OPS_retS (Enters_inv rfl rfl) (any_ret N w0 _ p x.2 s.2) rfl rfl rfl ?_; refine Zv Zxnot ?_; refine Zv Zab ?_) | (with_reducible apply WP_ret)) | (refine Zhn ?_) | (refine Zhr ?_))
    exact QBody_ret1 rfl (rfl : _ = Value.bool _) ⟨rfl, (by repeat (first | exact Wk.refl _ | apply Wk.keep1 | apply Wk.drop | apply Wk.sv | apply Wk.svD | apply Wk.appD))⟩
  | mine q h =>
    repeat' (first | (refine GiP ?_; first | (refine Znh ?_) | (with_reducible refine Znl ?_)) | (refine GiW ?_; first | (refine Zsq fun K hK => ?_) | (refine ZrN 0 fun _ => ?_; refine Zv Zab ?_) | (refine ZrN 1 fun _ => ?_; refine Zv Zmv ?_; refine Zv Zld ?_; refine Zv Zfa ?_; refine Zv Zld ?_; refine Zv Zfa ?_; refine Zv Zld ?_; refine OPS_retS (Enters_inv rfl rfl) (mine_ret N w0 _ q h p x.2 s.2) rfl rfl rfl ?_; refine Zv Zxnot ?_; refine Zv Zab ?_) | (with_reducible apply WP_ret)) | (refine Zhn ?_) | (refine Zhr ?_))
    exact QBody_ret1 rfl (rfl : _ = Value.bool _) ⟨rfl, (by repeat (first | exact Wk.refl _ | apply Wk.keep1 | apply Wk.drop | apply Wk.sv | apply Wk.svD | apply Wk.appD))⟩
  | line q t =>
    repeat' (first | (refine GiP ?_; first | (refine Znh ?_) | (with_reducible refine Znl ?_)) | (refine GiW ?_; first | (refine Zsq fun K hK => ?_) | (refine ZrN 0 fun _ => ?_; refine Zv Zab ?_) | (refine ZrN 1 fun _ => ?_; refine Zv Zmv ?_; refine Zv Zld ?_; refine Zv Zfa ?_; refine Zv Zld ?_; refine Zv Zfa ?_; refine Zv Zld ?_; refine OPS_retS (Enters_inv rfl rfl) (line_ret N w0 _ q t p x.2 s.2) rfl rfl rfl ?_; refine Zv Zxnot ?_; refine Zv Zab ?_) | (with_reducible apply WP_ret)) | (refine Zhn ?_) | (refine Zhr ?_))
    exact QBody_ret1 rfl (rfl : _ = Value.bool _) ⟨rfl, (by repeat (first | exact Wk.refl _ | apply Wk.keep1 | apply Wk.drop | apply Wk.sv | apply Wk.svD | apply Wk.appD))⟩
end
end Go.Proofs.Ytakmopiceopcpaa
end
