/- The law SodTrue: its small functions: a truth by remainders, what is cut in it, a bank whose counts are right in it. -/
import Derived.Test.YtkaadefndcbdnaaMp
import Derived.Test.YtkaadefndcbdnaaQk
namespace Go.Proofs.Ytkaadefndcbdnaa
open Go.RowKit
theorem Val_remI {P : Program} {N : Nat} {w0 : World} {L : Hp} {e : Env} {d : Option Nat} {ty : TypeId} {pos : String} {af : Array Edge} {g : Option (Nat × Bool)} {x y : Operand} {t t' : TypeId} {k : IntKind} {m n q : Int} (hq : m.tmod n = q) (hn : n ≠ 0) (hx : ev e x = .int k m) (hy : ev e y = .int k n) : Val P N w0 L e ⟨d, .binOp .rem t x y t', ty, pos, af, g⟩ (.int k q) := by
  rw [← hq]; exact Val_rem hx hy hn
theorem Val_quoI {P : Program} {N : Nat} {w0 : World} {L : Hp} {e : Env} {d : Option Nat} {ty : TypeId} {pos : String} {af : Array Edge} {g : Option (Nat × Bool)} {x y : Operand} {t t' : TypeId} {k : IntKind} {m n q : Int} (hq : m.tdiv n = q) (hn : n ≠ 0) (hb : InK k q) (hx : ev e x = .int k m) (hy : ev e y = .int k n) : Val P N w0 L e ⟨d, .binOp .quo t x y t', ty, pos, af, g⟩ (.int k q) := by
  subst hq; exact Val_quo hx hy hn hb
/-- Bytes, two at a time. -/
def u16L (us : List Nat) : List (List Value) := us.map fun u : Nat => [.int .u16 (u : Int)]
theorem CIn_snoc : ∀ {ps : List Spt} {cs : List Int} {p : Spt} {c : Int}, CIn ps cs → cs.length = ps.length → (p.lo ≤ c ∧ c ≤ p.hi) → CIn (ps ++ [p]) (cs ++ [c])
  | [], [], p, c, _, _, h => .cons h .nil
  | [], _ :: _, p, c, _, hl, _ => absurd hl (by simp)
  | q :: ps, _, p, c, .cons (c := c') (cs := cs) h' k, hl, h => .cons h' (CIn_snoc k (by simpa using hl) h)
theorem Steps_snoc : ∀ {xs : List Sp} {a : Int} {ts : List Int} {x : Sp} {t : Int}, Steps a xs ts → (x.1 ≤ t - ts.getLastD a ∧ t - ts.getLastD a ≤ x.2) → Steps a (xs ++ [x]) (ts ++ [t])
  | [], a, ts, x, t, h, h2 => by
    have h : ts = [] := h
    subst h
    exact ⟨h2.1, h2.2, rfl⟩
  | y :: xs, a, [], x, t, h, _ => h.elim
  | y :: xs, a, u :: ts, x, t, h, h2 => ⟨h.1, h.2.1, Steps_snoc h.2.2 (by rw [List.getLastD_cons] at h2; exact h2)⟩
theorem steps_last : ∀ {xs : List Sp} {a : Int} {ts : List Int}, (∀ x ∈ xs, 0 ≤ x.1 ∧ x.1 ≤ x.2 ∧ x.2 ≤ 100) → Steps a xs ts → a ≤ ts.getLastD a ∧ ts.getLastD a ≤ a + 100 * xs.length
  | [], a, ts, _, h => by
    have h : ts = [] := h
    subst h
    simp
  | x :: xs, a, [], _, h => h.elim
  | x :: xs, a, t :: ts, hx, h => by
    have h1 := hx x (.head _)
    have h2 := steps_last (fun y hy => hx y (.tail _ hy)) h.2.2
    obtain ⟨h3, h4, _⟩ := h
    rw [List.getLastD_cons, List.length_cons]
    omega
theorem getLastD_snoc (ts : List Int) (a t : Int) : (ts ++ [t]).getLastD a = t := by simp
theorem totC_take_bd {ps : List Spt} {cs : List Int} (hp : SpOk ps) (h : CIn ps cs) (k : Nat) : 0 ≤ totC (ps.take k) (cs.take k) ∧ totC (ps.take k) (cs.take k) ≤ 180 * ps.length := by
  have h1 : SpOk (ps.take k) := fun p hq => hp p (List.mem_of_mem_take hq)
  have h2 : ∀ {ps : List Spt} {cs : List Int} (k : Nat), CIn ps cs → CIn (ps.take k) (cs.take k) := by
    intro ps cs k h
    induction h generalizing k with
    | nil => rw [List.take_nil]; exact .nil
    | cons h t ih => cases k with
      | zero => exact .nil
      | succ k => exact .cons h (ih k)
  have h3 := totC_bd h1 (h2 k h)
  have h4 : (ps.take k).length ≤ ps.length := by rw [List.length_take]; omega
  omega
attribute [local irreducible] AnyO AnyB QAny QB EWalk AWalk Ev WP OPS QThen QBlock QScope QLoop QBody Val New Turn Tri Enters PostA Blk Ro
attribute [local irreducible] AnyC QC
section
variable (N : Nat) (w0 : World)
set_option maxHeartbeats 1000000 in
theorem drawn_tri (L L' : Hp) (b1 b2 : Nat) (A : Option Addr) (c : Nat) (us : List Nat) (hA : SlAt N w0 A 1 (u16L us)) (hu : ∀ u ∈ us, u ≤ 65535) (s : Sp) (hs : 0 ≤ s.1 ∧ s.1 ≤ s.2 ∧ s.2 ≤ 200) (a : Int) (ha : 0 ≤ a ∧ a ≤ 1000)
    (hup : Up L b1 (Blk 3 [.int .i64 a]) (Blk 3 [.int .i64 (a + 1)]) L') (hm1 : Mem b1 (Blk 3 [.int .i64 a]) L) (hm1' : Mem b1 (Blk 3 [.int .i64 (a + 1)]) L') (hm : Mem b2 (Blk 42 [.slice A us.length c]) L) (hm' : Mem b2 (Blk 42 [.slice A us.length c]) L') :
    Tri Try.prog N w0 L 107 [.agg [.int .i64 s.1, .int .i64 s.2].toArray, .pointer (some ⟨b1, 0, none⟩), .pointer (some ⟨b2, 0, none⟩)].toArray fun x L2 => ∃ v, x = .returned v ∧ ∃ z : Int, v = .int .i64 z ∧ (s.1 ≤ z ∧ z ≤ s.2) ∧ L2 = L' := by
  refine Tri.fgt ?_
  refine tri_of_WP Try.func107 rfl (n := 33) rfl (by simp) ?_
  by_cases h0 : us.length = 0
  · repeat' (first | (refine GiP ?_; first | (refine Znh ?_) | (with_reducible refine Znl ?_)) | (refine GiW ?_; first | (refine Zsq fun K hK => ?_) | (refine ZrN 0 fun _ => ?_; refine Zal 3 fun b3 => ?_; refine Zv Zai ?_) | (refine ZrN 1 fun _ => ?_; refine Zv Zld ?_; refine Zv Zxadd ?_; refine OPS_turnN (Turn_store rfl rfl (.there hup) rfl (by repeat (first | exact Over.nil | apply Over.cons | apply PutAt.there | apply PutAt.here)) (by rfl) rfl) rfl rfl ?_) | (refine ZrN 2 fun _ => ?_; refine Zv Zld ?_; refine Zv Zxlen ?_; refine Zv Zyeql ?_) | (refine ZrN 3 fun _ => ?_; refine Zv Zf0 ?_; refine Zv Zld ?_; refine Zv Zai ?_) | (refine WP_cond_true rfl ?_) | (refine WP_cond_false rfl ?_) | (refine Zcd (fun hc => ?_) (fun hc => ?_) <;> (try (exfalso; omega))) | (with_reducible apply WP_skip) | (with_reducible apply WP_ret)) | (refine Zhn ?_) | (refine Zhr ?_))
    exact QBody_ret1 rfl (rfl : _ = Value.int _ _) ⟨L', (by repeat (first | exact Wk.refl _ | apply Wk.keep1 | apply Wk.drop | apply Wk.sv | apply Wk.svD | apply Wk.appD)), _, rfl, _, rfl, by omega, rfl⟩
  · obtain ⟨i, hi, hil⟩ : ∃ i : Nat, (a + 1).tmod (us.length : Int) = (i : Int) ∧ i < us.length := by
      refine ⟨((a + 1) % (us.length : Int)).toNat, ?_, ?_⟩
      · rw [Int.tmod_eq_emod_of_nonneg (by omega)]
        have := Int.emod_nonneg (a + 1) (show (us.length : Int) ≠ 0 by omega)
        omega
      · have := Int.emod_lt_of_pos (a + 1) (show (0 : Int) < us.length by omega)
        omega
    obtain ⟨bA, oA, hA1, hbA, hcA0⟩ := SlAt.one (f := fun u : Nat => Value.int .u16 (u : Int)) hA i hil
    obtain ⟨u, hue⟩ : ∃ u, us[i] = u := ⟨_, rfl⟩
    have hub := hu u (by rw [← hue]; exact List.getElem_mem hil)
    rw [hue] at hcA0
    obtain ⟨q, hq, hq1⟩ : ∃ q : Int, ((u : Int) + 67 * (a + 1)).tmod (s.2 - s.1 + 1) = q ∧ 0 ≤ q ∧ q ≤ s.2 - s.1 := by
      refine ⟨_, rfl, ?_, ?_⟩
      · rw [Int.tmod_eq_emod_of_nonneg (by omega)]; exact Int.emod_nonneg _ (by omega)
      · rw [Int.tmod_eq_emod_of_nonneg (by omega)]
        have := Int.emod_lt_of_pos ((u : Int) + 67 * (a + 1)) (show 0 < s.2 - s.1 + 1 by omega)
        omega
    have hne : (us.length : Int) ≠ 0 := by omega
    repeat' (first | (refine GiP ?_; first | (refine Znh ?_) | (with_reducible refine Znl ?_)) | (refine GiW ?_; first | (refine Zsq fun K hK => ?_) | (refine ZrN 0 fun _ => ?_; refine Zal 3 fun b3 => ?_; refine Zv Zai ?_) | (refine ZrN 1 fun _ => ?_; (first | (refine Zv (Val_loadR1 rfl hbA hcA0) ?_) | (refine Zv Zld ?_)); refine Zv Zxadd ?_; refine OPS_turnN (Turn_store rfl rfl (.there hup) rfl (by repeat (first | exact Over.nil | apply Over.cons | apply PutAt.there | apply PutAt.here)) (by rfl) rfl) rfl rfl ?_) | (refine ZrN 2 fun _ => ?_; (first | (refine Zv (Val_loadR1 rfl hbA hcA0) ?_) | (refine Zv Zld ?_)); refine Zv Zxlen ?_; refine Zv Zyeql ?_) | (refine WP_cond_true rfl ?_) | (refine WP_cond_false rfl ?_) | (refine Zcd (fun hc => ?_) (fun hc => ?_) <;> (try (exfalso; omega))) | (with_reducible apply WP_skip) | (with_reducible apply WP_ret) | (refine WP_drawn (id := 4) [0, 1, 2, 3, 4, 5, 6, 7, 8, 9, 10, 11, 12, 13, 14, 15, 16, 17, 18, 19, 20, 21] [] (k := 0) prog_mixed (by kernel_rfl) rfl ?_; refine Zew rfl Zf0 ?_; (first | (refine Zew rfl (Val_loadR1 rfl hbA hcA0) ?_) | (refine Zew rfl Zld ?_)); (first | (refine Zew rfl (Val_loadR1 rfl hbA hcA0) ?_) | (refine Zew rfl Zld ?_)); (first | (refine Zew rfl (Val_loadR1 rfl hbA hcA0) ?_) | (refine Zew rfl Zld ?_)); (first | (refine Zew rfl (Val_loadR1 rfl hbA hcA0) ?_) | (refine Zew rfl Zld ?_)); refine Zew rfl Zxlen ?_; (first | (refine Zew rfl (Val_remI hi hne rfl rfl) ?_) | (refine Zew rfl (Val_remI hq (by omega) rfl rfl) ?_)); (first | (refine Zew rfl (Val_indexAddrE1 rfl hA1 rfl rfl hil) ?_) | (refine Zew rfl Zia ?_)); (first | (refine Zew rfl (Val_loadR1 rfl hbA hcA0) ?_) | (refine Zew rfl Zld ?_)); (first | (refine Zew rfl (Val_convert rfl (InK_i64 (by omega) (by omega))) ?_) | (refine Zew rfl Zxco ?_)); (first | (refine Zew rfl (Val_loadR1 rfl hbA hcA0) ?_) | (refine Zew rfl Zld ?_)); refine Zew rfl Zxmul ?_; refine Zew rfl Zxadd ?_; refine Zew rfl Zfa ?_; (first | (refine Zew rfl (Val_loadR1 rfl hbA hcA0) ?_) | (refine Zew rfl Zld ?_)); refine Zew rfl Zf0 ?_; (first | (refine Zew rfl (Val_loadR1 rfl hbA hcA0) ?_) | (refine Zew rfl Zld ?_)); refine Zew rfl Zxsub ?_; refine Zew rfl Zxadd ?_; (first | (refine Zew rfl (Val_remI hi hne rfl rfl) ?_) | (refine Zew rfl (Val_remI hq (by omega) rfl rfl) ?_)); refine Zew rfl Zxadd ?_; refine Zew rfl Zai ?_)) | (with_reducible apply EWalk_nil) | (refine AnyO_done (by kernel_rfl) ?_; (try with_reducible apply noP_normal); try with_reducible exact key.out) | (refine Zhn ?_) | (refine Zhr ?_) | (refine AWalk_0 ?_; refine ZisO ?_) | (with_reducible apply QAny_normal))
    exact QBody_ret1 rfl (rfl : _ = Value.int _ _) ⟨L', (by repeat (first | exact Wk.refl _ | apply Wk.keep1 | apply Wk.drop | apply Wk.sv | apply Wk.svD | apply Wk.appD)), _, rfl, _, rfl, by omega, rfl⟩
def drF (b3 b1 : Nat) : Value := .func (.func 107) #[] #[.pointer (some ⟨b3, 0, none⟩), .pointer (some ⟨b1, 0, none⟩)]
theorem draws_tri (L : Hp) (A : Option Addr) (n c : Nat) : Tri Try.prog N w0 L 89 [.slice A n c].toArray fun x L2 => ∃ v, x = .returned v ∧ ∃ b3 b1, v = drF b3 b1 ∧ L2 = (b3, Blk 3 [.int .i64 0]) :: (b1, Blk 42 [.slice A n c]) :: L := by
  refine Tri.fgt ?_
  refine tri_of_WP Try.func89 rfl (n := 5) rfl (by simp) ?_
  repeat' (first | (refine GiP ?_; first | (refine Znh ?_) | (with_reducible refine Znl ?_)) | (refine GiW ?_; first | (refine Zsq fun K hK => ?_) | (refine ZrN 0 fun _ => ?_; refine Zal 1 fun b1 => ?_; refine Zv Zav ?_) | (refine ZrN 1 fun _ => ?_; refine Zal 3 fun b3 => ?_; refine Zst ?_) | (refine ZrN 2 fun _ => ?_; refine Zv Val_makeFunc ?_; refine Zv Zav ?_) | (with_reducible apply WP_ret)) | (refine Zhn ?_) | (refine Zhr ?_))
  exact QBody_ret1 rfl (rfl : _ = drF b3 b1) ⟨_, Wk.refl _, _, rfl, _, _, rfl, rfl⟩
def truL (A1 : Option Addr) (n1 c1 : Nat) (A2 : Option Addr) (n2 c2 : Nat) : List Value := [.slice A1 n1 c1, .slice A2 n2 c2]
set_option maxHeartbeats 4000000 in
theorem truly_tri (L : Hp) (g : Fg) (hA : SodAt N w0 g) (hv : VS g.s) (A : Option Addr) (c : Nat) (us : List Nat) (hB : SlAt N w0 A 1 (u16L us)) (hu : ∀ u ∈ us, u ≤ 65535) :
    Tri Try.prog N w0 L 29 [sodV g, .slice A us.length c].toArray fun x L2 => ∃ v, x = .returned v ∧ ∃ cs ts s1 s2, v = .agg [svV s1 g.s.spits.length, svV s2 g.s.days.length].toArray ∧ CIn g.s.spits cs ∧ cs.length = g.s.spits.length ∧ Steps 0 g.s.days ts ∧ svOk s1 1 g.s.spits.length (ints cs) ∧ svOk s2 1 g.s.days.length (ints ts) ∧
      L2 = svH 3 1 g.s.days.length (ints ts) s2 (svH 3 1 g.s.spits.length (ints cs) s1 L) := by
  have hnp := hv.np
  have hnd := hv.nd
  refine Tri.fgt ?_
  refine tri_of_WP Try.func29 rfl (n := 50) rfl (by simp) ?_
  unfold sodV sdL
  repeat' (first | (refine GiP ?_; first | (refine Znh ?_) | (with_reducible refine Znl ?_)) | (refine GiW ?_; first | (refine Zsq fun K hK => ?_) | (refine ZrN 0 fun _ => ?_; refine Zal 2 fun b2 => ?_; refine Zal 4 fun b4 => ?_) | (refine ZrN 1 fun _ => ?_; refine Zv Zmv ?_; refine OPS_retKS (Enters_fn rfl) (draws_tri N w0 _ A us.length c) rfl rfl rfl (fun v8 L8 h8 => ?_); obtain ⟨bc, bu, rfl, rfl⟩ := h8; refine Zv Zav ?_) | (refine ZrN 2 fun _ => ?_; refine Zv Zf0 ?_; refine Zv Zld ?_; refine Zv Zxlen ?_; refine Zv Zmi ?_) | (refine WP_cond_true rfl ?_) | (refine WP_cond_false rfl ?_) | (refine Zcd (fun hc => ?_) (fun hc => ?_) <;> (try (exfalso; omega))) | (with_reducible apply WP_skip) | (with_reducible apply WP_block) | (with_reducible apply WP_exit) | (with_reducible apply WP_ret)) | (refine Zhn ?_) | (with_reducible apply QBlock_normal) | (refine Zhx ?_) | (with_reducible apply QBlock_hit) | (refine Zqb ?_) | (with_reducible apply QLoop_exit) | (refine Zhr ?_) | (with_reducible apply QBlock_ret) | (with_reducible apply QLoop_ret))
  refine WP_loop [7, 16, 17, 18, 19, 20, 21, 22, 23, 24, 25, 26, 27, 28, 29] (fun st : Nat × List Int × Option (Nat × Nat) => [(16, .int .i64 st.1)]) (fun st => svH 3 1 st.1 (ints st.2.1) st.2.2 ((bc, Blk 3 [.int .i64 (st.1 : Int)]) :: (bu, Blk 42 [.slice A us.length c]) :: (b4, Blk 45 [svV st.2.2 st.1, .slice none 0 0]) :: (b2, Blk 26 (sdL g)) :: L)) (fun st => st.1 ≤ g.s.spits.length ∧ st.2.1.length = st.1 ∧ CIn (g.s.spits.take st.1) st.2.1 ∧ svOk st.2.2 1 st.1 (ints st.2.1)) (fun st => g.s.spits.length - st.1) (0, [], none) (.cons rfl .nil) (Wk.refl _) ⟨Nat.zero_le _, rfl, .nil, svOk_nil _⟩ ?_
  rintro ⟨k, cs, s1⟩ j ⟨hk, hcl, hcin, hs1⟩
  dsimp only at hk hcl hcin hs1 ⊢
  unfold sdL
  by_cases hkl : k < g.s.spits.length
  · obtain ⟨bA, oA, hA1, hbA, hcA⟩ := hA.spits.row k hkl
    obtain ⟨p, hp⟩ : ∃ p, g.s.spits[k] = p := ⟨_, rfl⟩
    have hpv := hv.sp p (by rw [← hp]; exact List.getElem_mem hkl)
    rw [hp] at hcA
    have hnext : ∀ z, p.lo ≤ z ∧ z ≤ p.hi → CIn (g.s.spits.take (k + 1)) (cs ++ [z]) := fun z hz => by
      rw [List.take_succ_eq_append_getElem hkl, hp]
      exact CIn_snoc hcin (by rw [List.length_take, hcl]; omega) hz
    unfold sptL at hcA
    repeat' (first | (refine GiP ?_; first | (refine Znh ?_) | (with_reducible refine Znl ?_) | (refine Zatd 25 ?_; refine OPS_retKS (Enters_val rfl rfl) (drawn_tri N w0 _ _ bc bu A c us hB hu (p.lo, p.hi) (by dsimp only; omega) k (by omega) (by repeat (first | exact Up.here | apply Up.there | apply Up.sv)) (by repeat (first | exact Mem.here | assumption | apply Mem.there | apply Mem.sv | apply Mem.app)) (by repeat (first | exact Mem.here | assumption | apply Mem.there | apply Mem.sv | apply Mem.app)) (by repeat (first | exact Mem.here | assumption | apply Mem.there | apply Mem.sv | apply Mem.app)) (by repeat (first | exact Mem.here | assumption | apply Mem.there | apply Mem.sv | apply Mem.app))) rfl rfl rfl (fun v9 L9 h9 => ?_); obtain ⟨z, rfl, hz, rfl⟩ := h9) | (refine Zatd 26 ?_; refine Zal 26 fun b26 => ?_) | (refine Zatd 27 ?_; refine Zag (fun s27 hs27 => ?_)) | (refine Zatd 28 ?_; refine Zv Zf0 ?_) | (refine Zatn ?_; refine Zst ?_)) | (refine GiW ?_; first | (refine Zsq fun K hK => ?_) | (refine ZrN 3 fun _ => ?_; refine Zv Zylss ?_) | (refine ZrN 4 fun _ => ?_; (first | (refine Zv (Val_indexAddrE rfl hA1 rfl rfl hkl) ?_) | (refine Zv Zia ?_)); (first | (refine Zv (Val_loadRN rfl hbA hcA rfl) ?_) | (refine Zv Zla ?_)); refine Zal 7 fun b7 => ?_; refine Zst ?_) | (refine ZrN 6 fun _ => ?_; refine Zv Zxadd ?_; refine Zv Zmi ?_) | (refine WP_cond_true rfl ?_) | (refine WP_cond_false rfl ?_) | (refine Zcd (fun hc => ?_) (fun hc => ?_) <;> (try (exfalso; omega))) | (with_reducible apply WP_skip) | (with_reducible apply WP_block) | (with_reducible apply WP_exit) | (with_reducible apply WP_ret) | (refine WP_drawnS (id := 5) (B := (b7, Blk 55 [.int .i64 p.sods, .int .i64 p.lo, .int .i64 p.hi]) :: (bu, Blk 42 [.slice A us.length c]) :: (b4, Blk 45 [svV s1 k, .slice none 0 0]) :: L) [0, 1] [0, 1, 2, 3, 4] [] [20, 21] (k := 2) (k2 := 3) (by repeat (first | exact Sub.refl _ | apply Sub.keep | apply Sub.appK | apply Sub.sv | apply Sub.cons | apply Sub.app)) (by kernel_rfl) prog_mixed (by kernel_rfl) (by kernel_rfl) rfl ?_; refine Zew rfl Zf0 ?_; (first | (refine Zew rfl (Val_loadRN rfl hbA hcA rfl) ?_) | (refine Zew rfl Zld ?_)); refine Zew rfl Zmv ?_; refine Zew rfl Zfa ?_; (first | (refine Zew rfl (Val_loadRN rfl hbA hcA rfl) ?_) | (refine Zew rfl Zla ?_)))) | (with_reducible apply EWalk_nil) | (refine GiC ?_; first | (refine ZgC [0, 1, 2, 3, 4] ?_; refine ZC1 _ 5 [0, 1, 2, 3, 4, 5] ?_) | (refine ZgC [0, 1, 2, 3, 4, 5] ?_; refine ZC1 _ 6 [0, 1, 2, 3, 4, 5, 6] ?_) | (refine ZgC [0, 1, 2, 3, 4, 5, 6] ?_; refine ZCl _ ?_)) | (refine GiO ?_; first | (refine ZgO [0, 1, 2, 3, 4, 5, 6] ?_; refine ZO1 _ 7 [0, 1, 2, 3, 4, 5, 6, 7] ?_) | (refine ZgO [0, 1, 2, 3, 4, 5, 6, 7] ?_; refine ZO1 _ 8 [0, 1, 2, 3, 4, 5, 6, 7, 8] ?_) | (refine ZgO [0, 1, 2, 3, 4, 5, 6, 7, 8] ?_; refine ZO1 _ 9 [0, 1, 2, 3, 4, 5, 6, 7, 8, 9] ?_) | (refine ZgO [0, 1, 2, 3, 4, 5, 6, 7, 8, 9] ?_; refine ZOd _ ?_; (try with_reducible apply noP_normal); (try with_reducible exact key.out))) | (refine Zhn ?_) | (with_reducible apply QBlock_normal) | (refine Zhx ?_) | (with_reducible apply QBlock_hit) | (refine Zqb ?_) | (with_reducible apply QLoop_exit) | (refine Zhr ?_) | (with_reducible apply QBlock_ret) | (with_reducible apply QLoop_ret) | (refine AWalk_0 ?_) | (with_reducible apply QAny_normal) | (with_reducible apply QC_normal))
    have hin : ints (cs ++ [z]) = ints cs ++ [.int .i64 z] := by simp [ints]
    refine QLoop_normal (k + 1, cs ++ [z], s27) (.cons rfl .nil) (by repeat (first | exact Off.frame rfl | exact Off.refl _ _ | refine Off.frameT rfl rfl ?_ | refine Off.upd rfl ?_ | refine Off.updO rfl ?_)) ?_ ⟨by dsimp only; omega, by dsimp only; rw [List.length_append, hcl]; rfl, hnext z hz, by dsimp only; rw [hin]; exact hs27⟩ (by dsimp only; omega)
    dsimp only
    rw [hin]
    exact (by repeat (first | exact Wk.refl _ | apply Wk.keep1 | apply Wk.drop | apply Wk.sv | apply Wk.svD | apply Wk.appD))
  have hke : k = g.s.spits.length := by omega
  subst hke
  rw [List.take_length] at hcin
  repeat' (first | (refine GiP ?_; first | (refine Znh ?_) | (with_reducible refine Znl ?_)) | (refine GiW ?_; first | (refine Zsq fun K hK => ?_) | (refine ZrN 3 fun _ => ?_; refine Zv Zylss ?_) | (refine ZrN 7 fun _ => ?_; refine Zv Zai ?_) | (refine ZrN 8 fun _ => ?_; refine Zv Zfa ?_; refine Zv Zld ?_; refine Zv Zxlen ?_; refine Zv Zmi ?_) | (refine WP_cond_true rfl ?_) | (refine WP_cond_false rfl ?_) | (refine Zcd (fun hc => ?_) (fun hc => ?_) <;> (try (exfalso; omega))) | (with_reducible apply WP_skip) | (with_reducible apply WP_block) | (with_reducible apply WP_exit) | (with_reducible apply WP_ret)) | (refine Zhn ?_) | (with_reducible apply QBlock_normal) | (refine Zhx ?_) | (with_reducible apply QBlock_hit) | (refine Zqb ?_) | (with_reducible apply QLoop_exit) | (refine Zhr ?_) | (with_reducible apply QBlock_ret) | (with_reducible apply QLoop_ret))
  refine WP_loop [8, 10, 33, 34, 35, 36, 37, 38, 39, 40, 41, 42, 43, 44, 45, 46, 47, 48] (fun st : Nat × List Int × Option (Nat × Nat) => [(8, .int .i64 (st.2.1.getLastD 0)), (33, .int .i64 st.1)]) (fun st => svH 3 1 st.1 (ints st.2.1) st.2.2 (svH 3 1 g.s.spits.length (ints cs) s1 ((bc, Blk 3 [.int .i64 ((g.s.spits.length : Int) + (st.1 : Int))]) :: (bu, Blk 42 [.slice A us.length c]) :: (b4, Blk 45 [svV s1 g.s.spits.length, svV st.2.2 st.1]) :: (b2, Blk 26 (sdL g)) :: L))) (fun st => st.1 ≤ g.s.days.length ∧ st.2.1.length = st.1 ∧ Steps 0 (g.s.days.take st.1) st.2.1 ∧ svOk st.2.2 1 st.1 (ints st.2.1)) (fun st => g.s.days.length - st.1) (0, [], none) (.cons rfl (.cons rfl .nil)) (by dsimp only; rw [show (g.s.spits.length : Int) + ((0 : Nat) : Int) = (g.s.spits.length : Int) by omega]; exact Wk.refl _) ⟨Nat.zero_le _, rfl, rfl, svOk_nil _⟩ ?_
  clear hkl
  rintro ⟨k, ts, s2⟩ j2 ⟨hk, htl, hst, hs2⟩
  dsimp only at hk htl hst hs2 ⊢
  unfold sdL
  by_cases hkl : k < g.s.days.length
  · obtain ⟨bA, oA, hA1, hbA, hcA⟩ := hA.days.row k hkl
    obtain ⟨p, hp⟩ : ∃ p, g.s.days[k] = p := ⟨_, rfl⟩
    have hpv := hv.dy p (by rw [← hp]; exact List.getElem_mem hkl)
    rw [hp] at hcA
    obtain ⟨nl, hnl⟩ : ∃ n, ts.getLastD 0 = n := ⟨_, rfl⟩
    have hnb : 0 ≤ nl ∧ nl ≤ 600 := by
      have h1 := steps_last (fun x hx => hv.dy x (List.mem_of_mem_take hx)) hst
      rw [List.length_take, Nat.min_eq_left hk, hnl] at h1
      omega
    have hnext : ∀ z, p.1 ≤ z ∧ z ≤ p.2 → Steps 0 (g.s.days.take (k + 1)) (ts ++ [nl + z]) := fun z hz => by
      rw [List.take_succ_eq_append_getElem hkl, hp]
      exact Steps_snoc hst (by rw [hnl]; omega)
    rw [hnl]
    unfold spL at hcA
    repeat' (first | (refine GiP ?_; first | (refine Znh ?_) | (with_reducible refine Znl ?_)) | (refine GiW ?_; first | (refine Zsq fun K hK => ?_) | (refine ZrN 9 fun _ => ?_; refine Zv Zylss ?_) | (refine ZrN 10 fun _ => ?_; (first | (refine Zv (Val_indexAddrE rfl hA1 rfl rfl hkl) ?_) | (refine Zv Zia ?_)); (first | (refine Zv (Val_loadRN rfl hbA hcA rfl) ?_) | (refine Zv Zla ?_)); refine Zal 10 fun b10 => ?_; refine Zst ?_) | (refine ZrN 11 fun _ => ?_; refine Zv Zmi ?_; refine Zv Zmv ?_; (first | (refine Zv (Val_loadRN rfl hbA hcA rfl) ?_) | (refine Zv Zla ?_)); refine OPS_retKS (Enters_val rfl rfl) (drawn_tri N w0 _ _ bc bu A c us hB hu p (by omega) ((g.s.spits.length : Int) + (k : Int)) (by omega) (by repeat (first | exact Up.here | apply Up.there | apply Up.sv)) (by repeat (first | exact Mem.here | assumption | apply Mem.there | apply Mem.sv | apply Mem.app)) (by repeat (first | exact Mem.here | assumption | apply Mem.there | apply Mem.sv | apply Mem.app)) (by repeat (first | exact Mem.here | assumption | apply Mem.there | apply Mem.sv | apply Mem.app)) (by repeat (first | exact Mem.here | assumption | apply Mem.there | apply Mem.sv | apply Mem.app))) rfl rfl rfl (fun v9 L9 h9 => ?_); obtain ⟨z, rfl, hz, rfl⟩ := h9; refine Zv Zxadd ?_; refine Zv Zai ?_) | (refine ZrN 12 fun _ => ?_; refine Zv Zfa ?_; (first | (refine Zv (Val_loadRN rfl hbA hcA rfl) ?_) | (refine Zv Zld ?_)); refine Zv Zmi ?_; refine Zal 45 fun b45 => ?_; refine Zag (fun s46 hs46 => ?_); refine Zv Zfa ?_; refine Zst ?_) | (refine ZrN 13 fun _ => ?_; refine Zv Zxadd ?_; refine Zv Zmi ?_) | (refine WP_cond_true rfl ?_) | (refine WP_cond_false rfl ?_) | (refine Zcd (fun hc => ?_) (fun hc => ?_) <;> (try (exfalso; omega))) | (with_reducible apply WP_skip) | (with_reducible apply WP_block) | (with_reducible apply WP_exit) | (with_reducible apply WP_ret)) | (refine Zhn ?_) | (with_reducible apply QBlock_normal) | (refine Zhx ?_) | (with_reducible apply QBlock_hit) | (refine Zqb ?_) | (with_reducible apply QLoop_exit) | (refine Zhr ?_) | (with_reducible apply QBlock_ret) | (with_reducible apply QLoop_ret))
    have hin : ints (ts ++ [nl + z]) = ints ts ++ [.int .i64 (nl + z)] := by simp [ints]
    refine QLoop_normal (k + 1, ts ++ [nl + z], s46) (.cons (by dsimp only; rw [getLastD_snoc]; rfl) (.cons rfl .nil)) (by repeat (first | exact Off.frame rfl | exact Off.refl _ _ | refine Off.frameT rfl rfl ?_ | refine Off.upd rfl ?_ | refine Off.updO rfl ?_)) ?_ ⟨by dsimp only; omega, by dsimp only; rw [List.length_append, htl]; rfl, hnext z hz, by dsimp only; rw [hin]; exact hs46⟩ (by dsimp only; omega)
    dsimp only
    rw [hin, show (g.s.spits.length : Int) + ((k + 1 : Nat) : Int) = (g.s.spits.length : Int) + (k : Int) + 1 by omega]
    exact (by repeat (first | exact Wk.refl _ | apply Wk.keep1 | apply Wk.drop | apply Wk.sv | apply Wk.svD | apply Wk.appD))
  have hke : k = g.s.days.length := by omega
  subst hke
  rw [List.take_length] at hst
  obtain ⟨A1, c1, e1, -⟩ := sv_slice (E := 3) hs1
  obtain ⟨A2, c2, e2, -⟩ := sv_slice (E := 3) hs2
  rw [e1, e2]
  repeat' (first | (refine GiP ?_; first | (refine Znh ?_) | (with_reducible refine Znl ?_)) | (refine GiW ?_; first | (refine Zsq fun K hK => ?_) | (refine ZrN 9 fun _ => ?_; refine Zv Zylss ?_) | (refine ZrN 14 fun _ => ?_; refine Zv Zla ?_; refine Zst ?_) | (refine WP_cond_true rfl ?_) | (refine WP_cond_false rfl ?_) | (refine Zcd (fun hc => ?_) (fun hc => ?_) <;> (try (exfalso; omega))) | (with_reducible apply WP_skip) | (with_reducible apply WP_block) | (with_reducible apply WP_exit) | (with_reducible apply WP_ret)) | (refine Zhn ?_) | (with_reducible apply QBlock_normal) | (refine Zhx ?_) | (with_reducible apply QBlock_hit) | (refine Zqb ?_) | (with_reducible apply QLoop_exit) | (refine Zhr ?_) | (with_reducible apply QBlock_ret) | (with_reducible apply QLoop_ret))
  refine QBody_res rfl (.cellN rfl (by repeat (first | exact Mem.here | assumption | apply Mem.there | apply Mem.sv | apply Mem.app)) (.here (.cons (.cons .nil))) .nil) rfl ?_
  exact ⟨_, (by repeat (first | exact Wk.refl _ | apply Wk.keep1 | apply Wk.drop | apply Wk.sv | apply Wk.svD | apply Wk.appD)), _, rfl, cs, ts, s1, s2, by rw [e1, e2]; rfl, hcin, hcl, hst, hs1, hs2, rfl⟩
/-- A truth's slices, where they lie. -/
structure TrAt (g : Fg) (A1 : Option Addr) (A2 : Option Addr) (cs ts : List Int) : Prop where
  c : SlAt N w0 A1 1 (cs.map fun x => [.int .i64 x])
  t : SlAt N w0 A2 1 (ts.map fun x => [.int .i64 x])
  hc : CIn g.s.spits cs
  hl : cs.length = g.s.spits.length
  hs : Steps 0 g.s.days ts
theorem TrAt.cg {g : Fg} {A1 A2 : Option Addr} {cs ts : List Int} (h : TrAt N w0 g A1 A2 cs ts) {k : Nat} (hk : k < g.s.spits.length) : ∃ x : Int, cs[k]? = some x ∧ ∃ b o, A1 = some ⟨b, o, none⟩ ∧ b < N ∧ w0.cell? ⟨b, o + k, none⟩ = some (.int .i64 x) := by
  have hk2 : k < cs.length := by rw [h.hl]; exact hk
  obtain ⟨b, o, h1, h2, h3⟩ := SlAt.one (f := fun x : Int => Value.int .i64 x) h.c k hk2
  exact ⟨_, List.getElem?_eq_getElem hk2, b, o, h1, h2, h3⟩
theorem TrAt.tg {g : Fg} {A1 A2 : Option Addr} {cs ts : List Int} (h : TrAt N w0 g A1 A2 cs ts) {k : Nat} (hk : k < g.s.days.length) : ∃ x : Int, ts[k]? = some x ∧ ∃ b o, A2 = some ⟨b, o, none⟩ ∧ b < N ∧ w0.cell? ⟨b, o + k, none⟩ = some (.int .i64 x) := by
  have hk2 : k < ts.length := by rw [steps_len h.hs]; exact hk
  obtain ⟨b, o, h1, h2, h3⟩ := SlAt.one (f := fun x : Int => Value.int .i64 x) h.t k hk2
  exact ⟨_, List.getElem?_eq_getElem hk2, b, o, h1, h2, h3⟩
set_option maxHeartbeats 1000000 in
theorem twhole_ret (L : Hp) (g : Fg) (hA : SodAt N w0 g) (hv : VS g.s) (A1 A2 : Option Addr) (c1 c2 : Nat) (cs ts : List Int) (hT : TrAt N w0 g A1 A2 cs ts) : Ret Try.prog N w0 L 34 [.agg [.slice A1 g.s.spits.length c1, .slice A2 g.s.days.length c2].toArray, sodV g].toArray (.int .i64 (totC g.s.spits cs)) := by
  have hnp := hv.np
  refine Ret.fgt ?_
  refine tri_of_WP Try.func34 rfl (n := 27) rfl (by simp) ?_
  unfold sodV sdL
  repeat' (first | (refine GiP ?_; first | (refine Znh ?_) | (with_reducible refine Znl ?_)) | (refine GiW ?_; first | (refine Zsq fun K hK => ?_) | (refine ZrN 0 fun _ => ?_; refine Zal 2 fun b2 => ?_; refine Zal 3 fun b3 => ?_; refine Zv Zai ?_) | (refine ZrN 1 fun _ => ?_; refine Zv Zf0 ?_; refine Zv Zld ?_; refine Zv Zxlen ?_; refine Zv Zmi ?_) | (refine WP_cond_true rfl ?_) | (refine WP_cond_false rfl ?_) | (refine Zcd (fun hc => ?_) (fun hc => ?_) <;> (try (exfalso; omega))) | (with_reducible apply WP_skip) | (with_reducible apply WP_block) | (with_reducible apply WP_exit) | (with_reducible apply WP_ret)) | (refine Zhn ?_) | (with_reducible apply QBlock_normal) | (refine Zhx ?_) | (with_reducible apply QBlock_hit) | (refine Zqb ?_) | (with_reducible apply QLoop_exit) | (refine Zhr ?_) | (with_reducible apply QBlock_ret) | (with_reducible apply QLoop_ret))
  refine WP_loop [4, 5, 6, 10, 11, 12, 13, 14, 15, 16, 17, 18, 19, 20, 21, 22, 23, 24, 25] (fun k : Nat => [(4, .int .i64 (totC (g.s.spits.take k) (cs.take k))), (10, .int .i64 k)]) (fun _ => (b3, Blk 26 (sdL g)) :: (b2, Blk 45 [.slice A1 g.s.spits.length c1, .slice A2 g.s.days.length c2]) :: L) (fun k => k ≤ g.s.spits.length) (fun k => g.s.spits.length - k) 0 (.cons rfl (.cons rfl .nil)) (Wk.refl _) (Nat.zero_le _) ?_
  intro k j hk
  unfold sdL
  by_cases hkl : k < g.s.spits.length
  · obtain ⟨bA, oA, hA1, hbA, hcA⟩ := hA.spits.row k hkl
    obtain ⟨x, hx, bB, oB, hB1, hbB, hcB⟩ := hT.cg N w0 hkl
    obtain ⟨p, hp⟩ : ∃ p, g.s.spits[k] = p := ⟨_, rfl⟩
    have hpv := hv.sp p (by rw [← hp]; exact List.getElem_mem hkl)
    rw [hp] at hcA
    unfold sptL at hcA
    obtain ⟨hxl, hxg⟩ := List.getElem?_eq_some_iff.1 hx
    have hsn := totC_snoc g.s.spits cs k hkl hxl
    rw [hp, hxg] at hsn
    have hb1 := totC_take_bd hv.spOk hT.hc k
    have hb2 := totC_take_bd hv.spOk hT.hc (k + 1)
    rw [hsn] at hb2
    obtain ⟨T, hTe⟩ : ∃ T, totC (g.s.spits.take k) (cs.take k) = T := ⟨_, rfl⟩
    rw [hTe] at hb1 hb2 hsn ⊢
    obtain ⟨M, hM⟩ : ∃ M, p.sods * x = M := ⟨_, rfl⟩
    repeat' (first | (refine GiP ?_; first | (refine Znh ?_) | (with_reducible refine Znl ?_)) | (refine GiW ?_; first | (refine Zsq fun K hK => ?_) | (refine ZrN 2 fun _ => ?_; refine Zv Zylss ?_) | (refine ZrN 3 fun _ => ?_; refine Zv Zmi ?_; (first | (refine Zv (Val_indexAddrE rfl hA1 rfl rfl hkl) ?_) | (refine Zv (Val_indexAddrE1 rfl hB1 rfl rfl hkl) ?_) | (refine Zv Zia ?_)); (first | (refine Zv (Val_loadRN rfl hbA hcA rfl) ?_) | (refine Zv (Val_loadR1 rfl hbB hcB) ?_) | (refine Zv Zla ?_)); refine Zal 6 fun b6 => ?_; refine Zv Zai ?_; refine Zst ?_) | (refine ZrN 5 fun _ => ?_; refine Zv Zxadd ?_; refine Zv Zmi ?_) | (refine WP_cond_true rfl ?_) | (refine WP_cond_false rfl ?_) | (refine Zcd (fun hc => ?_) (fun hc => ?_) <;> (try (exfalso; omega))) | (with_reducible apply WP_skip) | (with_reducible apply WP_block) | (with_reducible apply WP_exit) | (with_reducible apply WP_ret) | (refine WP_drawn (id := 4) [0, 1, 2, 3, 4, 5, 6, 7, 8, 9, 10] [] (k := 0) prog_mixed (by kernel_rfl) rfl ?_; refine Zew rfl Zmi ?_; refine Zew rfl Zf0 ?_; (first | (refine Zew rfl (Val_loadRN rfl hbA hcA rfl) ?_) | (refine Zew rfl (Val_loadR1 rfl hbB hcB) ?_) | (refine Zew rfl Zld ?_)); refine Zew rfl Zf0 ?_; (first | (refine Zew rfl (Val_loadRN rfl hbA hcA rfl) ?_) | (refine Zew rfl (Val_loadR1 rfl hbB hcB) ?_) | (refine Zew rfl Zld ?_)); refine Zew rfl Zmi ?_; (first | (refine Zew rfl (Val_indexAddrE rfl hA1 rfl rfl hkl) ?_) | (refine Zew rfl (Val_indexAddrE1 rfl hB1 rfl rfl hkl) ?_) | (refine Zew rfl Zia ?_)); (first | (refine Zew rfl (Val_loadRN rfl hbA hcA rfl) ?_) | (refine Zew rfl (Val_loadR1 rfl hbB hcB) ?_) | (refine Zew rfl Zld ?_)); refine Zew rfl (Val_mul rfl rfl (InK_i64 (by omega) (by omega))) ?_; refine Zew rfl Zxadd ?_; refine Zew rfl Zai ?_)) | (with_reducible apply EWalk_nil) | (refine AnyO_done (by kernel_rfl) ?_; (try with_reducible apply noP_normal); try with_reducible exact key.out) | (refine Zhn ?_) | (with_reducible apply QBlock_normal) | (refine Zhx ?_) | (with_reducible apply QBlock_hit) | (refine Zqb ?_) | (with_reducible apply QLoop_exit) | (refine Zhr ?_) | (with_reducible apply QBlock_ret) | (with_reducible apply QLoop_ret) | (refine AWalk_0 ?_; refine ZisO ?_) | (with_reducible apply QAny_normal))
    exact QLoop_normal (k + 1) (.cons (by rw [hsn]; rfl) (.cons rfl .nil)) (by repeat (first | exact Off.frame rfl | exact Off.refl _ _ | refine Off.frameT rfl rfl ?_ | refine Off.upd rfl ?_ | refine Off.updO rfl ?_)) (by repeat (first | exact Wk.refl _ | apply Wk.keep1 | apply Wk.drop | apply Wk.sv | apply Wk.svD | apply Wk.appD)) (by omega) (by omega)
  have hke : k = g.s.spits.length := by omega
  subst hke
  rw [List.take_length, show cs.take g.s.spits.length = cs by rw [← hT.hl, List.take_length]]
  repeat' (first | (refine GiP ?_; first | (refine Znh ?_) | (with_reducible refine Znl ?_)) | (refine GiW ?_; first | (refine Zsq fun K hK => ?_) | (refine ZrN 2 fun _ => ?_; refine Zv Zylss ?_) | (refine ZrN 6 fun _ => ?_; refine Zv Zmi ?_; refine Zv Zai ?_) | (refine WP_cond_true rfl ?_) | (refine WP_cond_false rfl ?_) | (refine Zcd (fun hc => ?_) (fun hc => ?_) <;> (try (exfalso; omega))) | (with_reducible apply WP_skip) | (with_reducible apply WP_block) | (with_reducible apply WP_exit) | (with_reducible apply WP_ret)) | (refine Zhn ?_) | (with_reducible apply QBlock_normal) | (refine Zhx ?_) | (with_reducible apply QBlock_hit) | (refine Zqb ?_) | (with_reducible apply QLoop_exit) | (refine Zhr ?_) | (with_reducible apply QBlock_ret) | (with_reducible apply QLoop_ret))
  exact QBody_ret1 rfl (rfl : _ = Value.int _ _) ⟨rfl, (by repeat (first | exact Wk.refl _ | apply Wk.keep1 | apply Wk.drop | apply Wk.sv | apply Wk.svD | apply Wk.appD))⟩
/-- What of the sods is cut behind some spits. -/
theorem cutS_at {ps : List Spt} {cs : List Int} {i : Nat} (hi : i < ps.length) {x : Int} (hx : cs[i]? = some x) (t : Int) : cutS (ps.drop i) (cs.drop i) 0 t = if ps[i].sods * x ≤ t then ps[i].sods + cutS (ps.drop (i + 1)) (cs.drop (i + 1)) 0 (t - ps[i].sods * x) else t / x := by
  obtain ⟨hxl, hxg⟩ := List.getElem?_eq_some_iff.1 hx
  rw [List.drop_eq_getElem_cons hi, List.drop_eq_getElem_cons hxl, hxg]
  conv => lhs; unfold cutS
  split
  · rw [cutS_add]; omega
  · omega
theorem cin_at : ∀ {ps : List Spt} {cs : List Int}, CIn ps cs → ∀ {i : Nat} (hi : i < ps.length) {x : Int}, cs[i]? = some x → ps[i].lo ≤ x ∧ x ≤ ps[i].hi
  | [], _, _, _, hi, _, _ => absurd hi (Nat.not_lt_zero _)
  | p :: ps, _, .cons (c := c) (cs := cs) h k, 0, _, x, hx => by simp at hx; subst hx; exact h
  | p :: ps, _, .cons (c := c) (cs := cs) h k, i + 1, hi, x, hx => by simpa using cin_at k (by simpa using hi) (by simpa using hx)
theorem sumT_step (s : Sd) {i : Nat} (hi : i < s.spits.length) : sumT s (i + 1) = sumT s i + s.spits[i].sods := by
  unfold sumT
  rw [List.take_succ_eq_append_getElem hi, List.map_append, List.sum_append]
  simp
/-- What a truth's count of a day says. -/
def CutK (s : Sd) (cs : List Int) (t : Int) (k : Nat) : Prop := k ≤ s.spits.length ∧ ∀ p, p < s.spits.length → (sumT s (p + 1) ≤ cutS s.spits cs 0 t ↔ p < k)
theorem cutK_all {s : Sd} (v : VS s) {cs : List Int} {t t' : Int} (h : cutS s.spits cs 0 t = sumT s s.spits.length + cutS (s.spits.drop s.spits.length) (cs.drop s.spits.length) 0 t') : cutS s.spits cs 0 t = sumT s s.spits.length ∧ CutK s cs t s.spits.length := by
  have h0 : cutS s.spits cs 0 t = sumT s s.spits.length := by rw [h, List.drop_length]; simp [cutS]
  refine ⟨h0, Nat.le_refl _, fun p hp => ?_⟩
  rw [h0]
  have := sumT_le v (i := p + 1) (j := s.spits.length) (by omega) (Nat.le_refl _)
  omega
theorem cutK_part {s : Sd} (v : VS s) {cs : List Int} {t : Int} {i : Nat} (hi : i < s.spits.length) {j : Int} (hj : 0 ≤ j ∧ j < s.spits[i].sods) (h : cutS s.spits cs 0 t = sumT s i + j) : CutK s cs t i := by
  refine ⟨by omega, fun p hp => ?_⟩
  rw [h]
  have h1 := sumT_step s hi
  constructor
  · intro h2
    apply Classical.byContradiction
    intro h3
    have := sumT_le v (i := i + 1) (j := p + 1) (by omega) (by omega)
    omega
  · intro h2
    have := sumT_le v (i := p + 1) (j := i) (by omega) (by omega)
    omega
set_option maxHeartbeats 1000000 in
theorem tcut_tri (L : Hp) (g : Fg) (hA : SodAt N w0 g) (hv : VS g.s) (A1 A2 : Option Addr) (c1 c2 : Nat) (cs ts : List Int) (hT : TrAt N w0 g A1 A2 cs ts) (d : Nat) (hd : d < g.s.days.length) (t : Int) (ht : ts[d]? = some t) :
    Tri Try.prog N w0 L 31 [.agg [.slice A1 g.s.spits.length c1, .slice A2 g.s.days.length c2].toArray, sodV g, .int .i64 (d : Int)].toArray fun y L2 => ∃ v, y = .returned v ∧ ∃ k : Nat, v = .tuple [.int .i64 (cutS g.s.spits cs 0 t), .int .i64 (k : Int)].toArray ∧ CutK g.s cs t k ∧ L2 = L := by
  have hnp := hv.np
  have htb := true_bd hv hT.hc hT.hs ht
  obtain ⟨t', ht', bC, oC, hC1, hbC, hcC⟩ := hT.tg N w0 hd
  obtain rfl : t' = t := by rw [ht] at ht'; exact (Option.some.inj ht').symm
  refine Tri.fgt ?_
  refine tri_of_WP Try.func31 rfl (n := 47) rfl (by simp) ?_
  unfold sodV sdL
  obtain ⟨C, hCe⟩ : ∃ C, cutS g.s.spits cs 0 t' = C := ⟨_, rfl⟩
  have hsum := fun k => sumT_bd hv k
  repeat' (first | (refine GiP ?_; first | (refine Znh ?_) | (with_reducible refine Znl ?_)) | (refine GiW ?_; first | (refine Zsq fun K hK => ?_) | (refine ZrN 0 fun _ => ?_; refine Zal 3 fun b3 => ?_; refine Zal 4 fun b4 => ?_; refine Zv Zai ?_; refine Zv Zai ?_) | (refine ZrN 1 fun _ => ?_; refine Zv Zfa ?_; (first | (refine Zv (Val_loadR1 rfl hbC hcC) ?_) | (refine Zv Zld ?_)); refine Zv Zmi ?_; (first | (refine Zv (Val_indexAddrE1 rfl hC1 rfl rfl hd) ?_) | (refine Zv Zia ?_)); (first | (refine Zv (Val_loadR1 rfl hbC hcC) ?_) | (refine Zv Zld ?_)); refine Zv Zai ?_) | (refine ZrN 2 fun _ => ?_; refine Zv Zf0 ?_; (first | (refine Zv (Val_loadR1 rfl hbC hcC) ?_) | (refine Zv Zld ?_)); refine Zv Zxlen ?_; refine Zv Zmi ?_) | (refine WP_cond_true rfl ?_) | (refine WP_cond_false rfl ?_) | (refine Zcd (fun hc => ?_) (fun hc => ?_) <;> (try (exfalso; omega))) | (with_reducible apply WP_skip) | (with_reducible apply WP_block) | (with_reducible apply WP_exit) | (with_reducible apply WP_ret)) | (refine Zhn ?_) | (with_reducible apply QBlock_normal) | (refine Zhx ?_) | (with_reducible apply QBlock_hit) | (refine Zqb ?_) | (with_reducible apply QLoop_exit) | (refine Zhr ?_) | (with_reducible apply QBlock_ret) | (with_reducible apply QLoop_ret))
  refine WP_loop [6, 7, 8, 9, 10, 19, 20, 21, 22, 23, 24, 25, 26, 27, 28, 29, 30, 31, 32, 33, 34, 35, 36, 37, 38, 39, 40, 41, 42, 43, 44] (fun st : Nat × Int => [(6, .int .i64 (sumT g.s st.1)), (7, .int .i64 (st.1 : Int)), (8, .int .i64 st.2), (19, .int .i64 st.1)]) (fun _ => (b4, Blk 26 (sdL g)) :: (b3, Blk 45 [.slice A1 g.s.spits.length c1, .slice A2 g.s.days.length c2]) :: L) (fun st => st.1 ≤ g.s.spits.length ∧ (0 ≤ st.2 ∧ st.2 ≤ 600) ∧ cutS g.s.spits cs 0 t' = sumT g.s st.1 + cutS (g.s.spits.drop st.1) (cs.drop st.1) 0 st.2) (fun st => g.s.spits.length - st.1) (0, t') (.cons (by simp [sumT]; rfl) (.cons rfl (.cons rfl (.cons rfl .nil)))) (Wk.refl _) ⟨Nat.zero_le _, htb.1, by simp [sumT]⟩ ?_
  rintro ⟨i, left⟩ j ⟨hi, hle, hcut⟩
  dsimp only at hi hle hcut ⊢
  unfold sdL
  by_cases hil : i < g.s.spits.length
  · obtain ⟨bA, oA, hA1, hbA, hcA⟩ := hA.spits.row i hil
    obtain ⟨x, hx, bB, oB, hB1, hbB, hcB⟩ := hT.cg N w0 hil
    obtain ⟨p, hp⟩ : ∃ p, g.s.spits[i] = p := ⟨_, rfl⟩
    have hpv := hv.sp p (by rw [← hp]; exact List.getElem_mem hil)
    have hxb := cin_at hT.hc hil hx
    rw [hp] at hcA hxb
    unfold sptL at hcA
    have hat := cutS_at hil hx left
    have hst := sumT_step g.s hil
    rw [hp] at hat hst
    obtain ⟨S, hS⟩ : ∃ S : Nat, p.sods = (S : Int) := ⟨p.sods.toNat, by omega⟩
    have hsi := hsum i
    have hsi1 := hsum (i + 1)
    obtain ⟨U, hU⟩ : ∃ U, sumT g.s i = U := ⟨_, rfl⟩
    rw [hS] at hcA hat hst
    rw [hU] at hsi hst hcut ⊢
    repeat' (first | (refine GiP ?_; first | (refine Znh ?_) | (with_reducible refine Znl ?_)) | (refine GiW ?_; first | (refine Zsq fun K hK => ?_) | (refine ZrN 3 fun _ => ?_; refine Zv Zylss ?_) | (refine ZrN 4 fun _ => ?_; refine Zv Zmi ?_; (first | (refine Zv (Val_indexAddrE rfl hA1 rfl rfl hil) ?_) | (refine Zv Zia ?_)); (first | (refine Zv (Val_loadRN rfl hbA hcA rfl) ?_) | (refine Zv Zla ?_)); refine Zal 10 fun b10 => ?_; refine Zv Zai ?_; refine Zst ?_) | (refine ZrN 5 fun _ => ?_; refine Zv Zf0 ?_; (first | (refine Zv (Val_loadRN rfl hbA hcA rfl) ?_) | (refine Zv Zld ?_)); refine Zv Zmi ?_) | (refine WP_cond_true rfl ?_) | (refine WP_cond_false rfl ?_) | (refine Zcd (fun hc => ?_) (fun hc => ?_) <;> (try (exfalso; omega))) | (with_reducible apply WP_skip) | (with_reducible apply WP_block) | (with_reducible apply WP_exit) | (with_reducible apply WP_ret)) | (refine Zhn ?_) | (with_reducible apply QBlock_normal) | (refine Zhx ?_) | (with_reducible apply QBlock_hit) | (refine Zqb ?_) | (with_reducible apply QLoop_exit) | (refine Zhr ?_) | (with_reducible apply QBlock_ret) | (with_reducible apply QLoop_ret))
    refine WP_loop [6, 7, 8, 26, 27, 28, 29, 30, 31, 32, 33, 34, 35, 36, 37, 38, 39, 40, 41] (fun st : Nat × Int => [(6, .int .i64 (U + (st.1 : Int))), (7, .int .i64 (i : Int)), (8, .int .i64 st.2), (26, .int .i64 st.1)]) (fun _ => (b10, Blk 55 [.int .i64 (S : Int), .int .i64 p.lo, .int .i64 p.hi]) :: (b4, Blk 26 (sdL g)) :: (b3, Blk 45 [.slice A1 g.s.spits.length c1, .slice A2 g.s.days.length c2]) :: L) (fun st => st.1 ≤ S ∧ 0 ≤ st.2 ∧ st.2 + st.1 * x = left ∧ st.2 ≤ left) (fun st => S - st.1) (0, left) (.cons (by simp; rfl) (.cons rfl (.cons rfl (.cons rfl .nil)))) (Wk.refl _) ⟨Nat.zero_le _, hle.1, by simp, by simp⟩ ?_
    rintro ⟨j1, l1⟩ j2 ⟨hj1, hl1, hl2, hl3⟩
    dsimp only at hj1 hl1 hl2 hl3 ⊢
    unfold sdL
    by_cases hjl : j1 < S
    · by_cases hneg : l1 < x
      · have hC2 : C = U + (j1 : Int) := by
          have h1 : ((j1 : Int) + 1) * x ≤ (S : Int) * x := Int.mul_le_mul_of_nonneg_right (by omega) (by omega)
          rw [Int.add_mul] at h1
          rw [if_neg (by omega)] at hat
          rw [← hCe, hcut, hat, ← hl2, Int.add_mul_ediv_right _ _ (by omega), Int.ediv_eq_zero_of_lt hl1 hneg]; omega
        have hk := cutK_part hv (cs := cs) (t := t') hil (j := (j1 : Int)) (by rw [hp]; omega) (by rw [hCe, hU, hC2])
        repeat' (first | (refine GiP ?_; first | (refine Znh ?_) | (with_reducible refine Znl ?_)) | (refine GiW ?_; first | (refine Zsq fun K hK => ?_) | (refine ZrN 6 fun _ => ?_; refine Zv Zylss ?_) | (refine ZrN 7 fun _ => ?_; refine Zv Zmi ?_; refine Zv Zf0 ?_; (first | (refine Zv (Val_loadR1 rfl hbB hcB) ?_) | (refine Zv Zld ?_)); refine Zv Zmi ?_; (first | (refine Zv (Val_indexAddrE1 rfl hB1 rfl rfl hil) ?_) | (refine Zv Zia ?_)); (first | (refine Zv (Val_loadR1 rfl hbB hcB) ?_) | (refine Zv Zld ?_)); refine Zv Zxsub ?_; refine Zv Zai ?_) | (refine ZrN 8 fun _ => ?_; refine Zv Zmi ?_; refine Zv Zylss ?_) | (refine ZrN 9 fun _ => ?_; refine Zv Zmi ?_; refine Zv Zmi ?_; refine Zv Zai ?_; refine Zv Zai ?_) | (refine WP_cond_true rfl ?_) | (refine WP_cond_false rfl ?_) | (refine Zcd (fun hc => ?_) (fun hc => ?_) <;> (try (exfalso; omega))) | (with_reducible apply WP_skip) | (with_reducible apply WP_block) | (with_reducible apply WP_exit) | (with_reducible apply WP_ret)) | (refine Zhn ?_) | (with_reducible apply QBlock_normal) | (refine Zhx ?_) | (with_reducible apply QBlock_hit) | (refine Zqb ?_) | (with_reducible apply QLoop_exit) | (refine Zhr ?_) | (with_reducible apply QBlock_ret) | (with_reducible apply QLoop_ret))
        refine QBody_res rfl (.tmp (rfl : _ = Value.int _ _) (.tmp (rfl : _ = Value.int _ _) .nil)) rfl ?_
        exact ⟨L, (by repeat (first | exact Wk.refl _ | apply Wk.keep1 | apply Wk.drop | apply Wk.sv | apply Wk.svD | apply Wk.appD)), _, rfl, i, by rw [hCe, hC2]; rfl, hk, rfl⟩
      · repeat' (first | (refine GiP ?_; first | (refine Znh ?_) | (with_reducible refine Znl ?_)) | (refine GiW ?_; first | (refine Zsq fun K hK => ?_) | (refine ZrN 6 fun _ => ?_; refine Zv Zylss ?_) | (refine ZrN 7 fun _ => ?_; refine Zv Zmi ?_; refine Zv Zf0 ?_; (first | (refine Zv (Val_loadR1 rfl hbB hcB) ?_) | (refine Zv Zld ?_)); refine Zv Zmi ?_; (first | (refine Zv (Val_indexAddrE1 rfl hB1 rfl rfl hil) ?_) | (refine Zv Zia ?_)); (first | (refine Zv (Val_loadR1 rfl hbB hcB) ?_) | (refine Zv Zld ?_)); refine Zv Zxsub ?_; refine Zv Zai ?_) | (refine ZrN 8 fun _ => ?_; refine Zv Zmi ?_; refine Zv Zylss ?_) | (refine ZrN 10 fun _ => ?_; refine Zv Zmi ?_; refine Zv Zxadd ?_; refine Zv Zai ?_) | (refine ZrN 11 fun _ => ?_; refine Zv Zxadd ?_; refine Zv Zmi ?_) | (refine WP_cond_true rfl ?_) | (refine WP_cond_false rfl ?_) | (refine Zcd (fun hc => ?_) (fun hc => ?_) <;> (try (exfalso; omega))) | (with_reducible apply WP_skip) | (with_reducible apply WP_block) | (with_reducible apply WP_exit) | (with_reducible apply WP_ret)) | (refine Zhn ?_) | (with_reducible apply QBlock_normal) | (refine Zhx ?_) | (with_reducible apply QBlock_hit) | (refine Zqb ?_) | (with_reducible apply QLoop_exit) | (refine Zhr ?_) | (with_reducible apply QBlock_ret) | (with_reducible apply QLoop_ret))
        exact QLoop_normal (j1 + 1, l1 - x) (.cons (by dsimp only; rw [show U + ((j1 + 1 : Nat) : Int) = U + (j1 : Int) + 1 by omega]; rfl) (.cons rfl (.cons rfl (.cons rfl .nil)))) (by repeat (first | exact Off.frame rfl | exact Off.refl _ _ | refine Off.frameT rfl rfl ?_ | refine Off.upd rfl ?_ | refine Off.updO rfl ?_)) (by repeat (first | exact Wk.refl _ | apply Wk.keep1 | apply Wk.drop | apply Wk.sv | apply Wk.svD | apply Wk.appD)) ⟨by dsimp only; omega, by dsimp only; omega, by dsimp only; rw [show ((j1 + 1 : Nat) : Int) = (j1 : Int) + 1 by omega, Int.add_mul]; omega, by dsimp only; omega⟩ (by dsimp only; omega)
    · have hje : j1 = S := by omega
      subst hje
      repeat' (first | (refine GiP ?_; first | (refine Znh ?_) | (with_reducible refine Znl ?_)) | (refine GiW ?_; first | (refine Zsq fun K hK => ?_) | (refine ZrN 6 fun _ => ?_; refine Zv Zylss ?_) | (refine ZrN 12 fun _ => ?_; refine Zv Zmi ?_; refine Zv Zxadd ?_; refine Zv Zai ?_) | (refine ZrN 13 fun _ => ?_; refine Zv Zxadd ?_; refine Zv Zmi ?_) | (refine WP_cond_true rfl ?_) | (refine WP_cond_false rfl ?_) | (refine Zcd (fun hc => ?_) (fun hc => ?_) <;> (try (exfalso; omega))) | (with_reducible apply WP_skip) | (with_reducible apply WP_block) | (with_reducible apply WP_exit) | (with_reducible apply WP_ret)) | (refine Zhn ?_) | (with_reducible apply QBlock_normal) | (refine Zhx ?_) | (with_reducible apply QBlock_hit) | (refine Zqb ?_) | (with_reducible apply QLoop_exit) | (refine Zhr ?_) | (with_reducible apply QBlock_ret) | (with_reducible apply QLoop_ret))
      exact QLoop_normal (i + 1, l1) (.cons (by dsimp only; rw [hst]; rfl) (.cons rfl (.cons rfl (.cons rfl .nil)))) (by repeat (first | exact Off.frame rfl | exact Off.refl _ _ | refine Off.frameT rfl rfl ?_ | refine Off.upd rfl ?_ | refine Off.updO rfl ?_)) (by repeat (first | exact Wk.refl _ | apply Wk.keep1 | apply Wk.drop | apply Wk.sv | apply Wk.svD | apply Wk.appD)) ⟨by dsimp only; omega, by dsimp only; omega, by dsimp only; rw [hcut, hat, if_pos (by omega), hst, show left - (j1 : Int) * x = l1 by omega]; omega⟩ (by dsimp only; omega)
  · have hie : i = g.s.spits.length := by omega
    subst hie
    obtain ⟨h1, h2⟩ := cutK_all hv hcut
    repeat' (first | (refine GiP ?_; first | (refine Znh ?_) | (with_reducible refine Znl ?_)) | (refine GiW ?_; first | (refine Zsq fun K hK => ?_) | (refine ZrN 3 fun _ => ?_; refine Zv Zylss ?_) | (refine ZrN 14 fun _ => ?_; refine Zv Zmi ?_; refine Zv Zmi ?_; refine Zv Zai ?_; refine Zv Zai ?_) | (refine WP_cond_true rfl ?_) | (refine WP_cond_false rfl ?_) | (refine Zcd (fun hc => ?_) (fun hc => ?_) <;> (try (exfalso; omega))) | (with_reducible apply WP_skip) | (with_reducible apply WP_block) | (with_reducible apply WP_exit) | (with_reducible apply WP_ret)) | (refine Zhn ?_) | (with_reducible apply QBlock_normal) | (refine Zhx ?_) | (with_reducible apply QBlock_hit) | (refine Zqb ?_) | (with_reducible apply QLoop_exit) | (refine Zhr ?_) | (with_reducible apply QBlock_ret) | (with_reducible apply QLoop_ret))
    refine QBody_res rfl (.tmp (rfl : _ = Value.int _ _) (.tmp (rfl : _ = Value.int _ _) .nil)) rfl ?_
    exact ⟨L, (by repeat (first | exact Wk.refl _ | apply Wk.keep1 | apply Wk.drop | apply Wk.sv | apply Wk.svD | apply Wk.appD)), _, rfl, g.s.spits.length, by rw [h1]; rfl, h2, rfl⟩
set_option maxHeartbeats 1000000 in
theorem tright_tri (L : Hp) (g : Fg) (hA : SodAt N w0 g) (hv : VS g.s) (A1 A2 : Option Addr) (c1 c2 : Nat) (cs ts : List Int) (hT : TrAt N w0 g A1 A2 cs ts) :
    Tri Try.prog N w0 L 30 [.agg [.slice A1 g.s.spits.length c1, .slice A2 g.s.days.length c2].toArray, sodV g].toArray fun y L2 => ∃ v, y = .returned v ∧ ∃ s3, v = .agg [.slice g.A1 g.s.spits.length g.c1, .slice g.A2 g.s.days.length g.c2, svV s3 g.s.logs.length].toArray ∧ svOk s3 3 g.s.logs.length (((g.s.logs.map (rightL g.s.spits cs ts)).map lgL).flatten) ∧
      L2 = svH 60 3 g.s.logs.length (((g.s.logs.map (rightL g.s.spits cs ts)).map lgL).flatten) s3 L := by
  have hnl := hv.nl
  refine Tri.fgt ?_
  refine tri_of_WP Try.func30 rfl (n := 57) rfl (by simp) ?_
  unfold sodV sdL
  repeat' (first | (refine GiP ?_; first | (refine Znh ?_) | (with_reducible refine Znl ?_)) | (refine GiW ?_; first | (refine Zsq fun K hK => ?_) | (refine ZrN 0 fun _ => ?_; refine Zal 2 fun b2 => ?_; refine Zal 3 fun b3 => ?_; refine Zal 4 fun b4 => ?_) | (refine ZrN 1 fun _ => ?_; refine Zv Zla ?_; refine Zal 5 fun b5 => ?_; refine Zst ?_) | (refine ZrN 2 fun _ => ?_; refine Zv Zfa ?_; refine Zst ?_) | (refine ZrN 3 fun _ => ?_; refine Zv Zfa ?_; refine Zv Zld ?_; refine Zv Zxlen ?_; refine Zv Zmi ?_) | (refine WP_cond_true rfl ?_) | (refine WP_cond_false rfl ?_) | (refine Zcd (fun hc => ?_) (fun hc => ?_) <;> (try (exfalso; omega))) | (with_reducible apply WP_skip) | (with_reducible apply WP_block) | (with_reducible apply WP_exit) | (with_reducible apply WP_ret)) | (refine Zhn ?_) | (with_reducible apply QBlock_normal) | (refine Zhx ?_) | (with_reducible apply QBlock_hit) | (refine Zqb ?_) | (with_reducible apply QLoop_exit) | (refine Zhr ?_) | (with_reducible apply QBlock_ret) | (with_reducible apply QLoop_ret))
  refine WP_loop [7, 8, 9, 10, 16, 17, 18, 19, 20, 21, 22, 23, 24, 25, 26, 27, 28, 29, 30, 31, 32, 33, 34, 35, 36, 37, 38, 39, 40, 41, 42, 43, 44, 45, 46, 47, 48, 49, 50, 51, 52, 53, 54, 55] (fun st : Nat × Option (Nat × Nat) => [(16, .int .i64 st.1)]) (fun st => svH 60 3 st.1 ((((g.s.logs.take st.1).map (rightL g.s.spits cs ts)).map lgL).flatten) st.2 ((b5, Blk 26 [.slice g.A1 g.s.spits.length g.c1, .slice g.A2 g.s.days.length g.c2, svV st.2 st.1]) :: (b4, Blk 26 [.slice none 0 0, .slice none 0 0, .slice none 0 0]) :: (b3, Blk 26 (sdL g)) :: (b2, Blk 45 [.slice A1 g.s.spits.length c1, .slice A2 g.s.days.length c2]) :: L)) (fun st => st.1 ≤ g.s.logs.length ∧ svOk st.2 3 st.1 ((((g.s.logs.take st.1).map (rightL g.s.spits cs ts)).map lgL).flatten)) (fun st => g.s.logs.length - st.1) (0, none) (.cons rfl .nil) (Wk.refl _) ⟨Nat.zero_le _, svOk_nil _⟩ ?_
  rintro ⟨k, s3⟩ j ⟨hk, hs3⟩
  dsimp only at hk hs3 ⊢
  unfold sdL
  by_cases hkl : k < g.s.logs.length
  · obtain ⟨bA, oA, hA1, hbA, hcA⟩ := hA.logs.row k hkl
    obtain ⟨l, hl⟩ : ∃ l, g.s.logs[k] = l := ⟨_, rfl⟩
    have hlv := hv.lg l (by rw [← hl]; exact List.getElem_mem hkl)
    rw [hl] at hcA
    obtain ⟨q, hq⟩ : ∃ q : Nat, l.day = (q : Int) := ⟨l.day.toNat, by omega⟩
    have hqd : q < g.s.days.length := by omega
    obtain ⟨t, ht, -⟩ := hT.tg N w0 hqd
    have htb := true_bd hv hT.hc hT.hs ht
    obtain ⟨C, hC⟩ : ∃ C, cutS g.s.spits cs 0 t = C := ⟨_, rfl⟩
    have hct := fun L' => tcut_tri N w0 L' g hA hv A1 A2 c1 c2 cs ts hT q hqd t ht
    obtain ⟨W, hW⟩ : ∃ W, min 20 (l.hi - l.lo) = W := ⟨_, rfl⟩
    obtain ⟨h2, hh2⟩ : ∃ h2, W / 2 = h2 := ⟨_, rfl⟩
    have hq2 : W.tdiv 2 = h2 := by rw [Int.tdiv_eq_ediv_of_nonneg (by omega)]; exact hh2
    have hr : lgL (rightL g.s.spits cs ts l) = [.int .i64 (q : Int), .int .i64 (max 0 (C - h2)), .int .i64 (C + W - h2)] := by
      unfold lgL rightL
      rw [hq, Int.toNat_natCast, List.getD_eq_getElem?_getD, ht, Option.getD_some, hC, hW, hh2]
    have hnext : (((g.s.logs.take (k + 1)).map (rightL g.s.spits cs ts)).map lgL).flatten = (((g.s.logs.take k).map (rightL g.s.spits cs ts)).map lgL).flatten ++ [.int .i64 (q : Int), .int .i64 (max 0 (C - h2)), .int .i64 (C + W - h2)] := by
      rw [List.take_succ_eq_append_getElem hkl, hl, ← hr]; simp
    unfold sodV sdL at hct
    rw [hC] at hct htb
    unfold lgL at hcA
    rw [hq] at hcA
    repeat' (first | (refine GiP ?_; first | (refine Znh ?_) | (with_reducible refine Znl ?_)) | (refine GiW ?_; first | (refine Zsq fun K hK => ?_) | (refine ZrN 4 fun _ => ?_; refine Zv Zylss ?_) | (refine ZrN 5 fun _ => ?_; (first | (refine Zv (Val_indexAddrE rfl hA1 rfl rfl hkl) ?_) | (refine Zv Zia ?_)); (first | (refine Zv (Val_loadRN rfl hbA hcA rfl) ?_) | (refine Zv Zla ?_)); refine Zal 7 fun b7 => ?_; refine Zst ?_) | (refine ZrN 6 fun _ => ?_; (first | (refine Zv (Val_loadRN rfl hbA hcA rfl) ?_) | (refine Zv Zla ?_)); (first | (refine Zv (Val_loadRN rfl hbA hcA rfl) ?_) | (refine Zv Zla ?_)); refine Zv Zf0 ?_; (first | (refine Zv (Val_loadRN rfl hbA hcA rfl) ?_) | (refine Zv Zld ?_)); refine OPS_retKS (Enters_fn rfl) (hct _) rfl rfl rfl (fun v9 L9 h9 => ?_); obtain ⟨kk, rfl, hkk, rfl⟩ := h9; refine Zv Zmv ?_; refine Zv Zxex ?_; refine Zv Zxex ?_; refine Zv Zai ?_; refine Zv Zai ?_) | (refine ZrN 7 fun _ => ?_; refine Zv Zfa ?_; refine Zv Zfa ?_; (first | (refine Zv (Val_loadRN rfl hbA hcA rfl) ?_) | (refine Zv Zld ?_)); refine Zv Zfa ?_; refine Zv Zf0 ?_; (first | (refine Zv (Val_loadRN rfl hbA hcA rfl) ?_) | (refine Zv Zld ?_)); refine Zv Zxsub ?_; refine Zv Zxmin ?_; refine Zv Zai ?_) | (refine WP_cond_true rfl ?_) | (refine WP_cond_false rfl ?_) | (refine Zcd (fun hc => ?_) (fun hc => ?_) <;> (try (exfalso; omega))) | (with_reducible apply WP_skip) | (with_reducible apply WP_block) | (with_reducible apply WP_exit) | (with_reducible apply WP_ret)) | (refine Zhn ?_) | (with_reducible apply QBlock_normal) | (refine Zhx ?_) | (with_reducible apply QBlock_hit) | (refine Zqb ?_) | (with_reducible apply QLoop_exit) | (refine Zhr ?_) | (with_reducible apply QBlock_ret) | (with_reducible apply QLoop_ret))
    rw [hW]
    repeat' (first | (refine GiP ?_; first | (refine Znh ?_) | (with_reducible refine Znl ?_) | (refine Zatd 53 ?_; refine Zag (fun s53 hs53 => ?_)) | (refine Zatd 54 ?_; refine Zv Zfa ?_) | (refine Zatn ?_; refine Zst ?_)) | (refine GiW ?_; first | (refine Zsq fun K hK => ?_) | (refine ZrN 9 fun _ => ?_; refine Zv Zxadd ?_; refine Zv Zmi ?_) | (refine WP_cond_true rfl ?_) | (refine WP_cond_false rfl ?_) | (refine Zcd (fun hc => ?_) (fun hc => ?_) <;> (try (exfalso; omega))) | (with_reducible apply WP_skip) | (with_reducible apply WP_block) | (with_reducible apply WP_exit) | (with_reducible apply WP_ret) | (refine WP_drawnS (id := 8) (B := (b7, Blk 60 [.int .i64 (q : Int), .int .i64 l.lo, .int .i64 l.hi]) :: (b5, Blk 26 [.slice g.A1 g.s.spits.length g.c1, .slice g.A2 g.s.days.length g.c2, svV s3 k]) :: L) [] [0, 1, 2, 3, 4, 5, 6, 7, 8, 9, 10, 11, 12, 13, 14, 15] [16] [] (k := 0) (k2 := 3) (by repeat (first | exact Sub.refl _ | apply Sub.keep | apply Sub.appK | apply Sub.sv | apply Sub.cons | apply Sub.app)) (by kernel_rfl) prog_mixed (by kernel_rfl) (by kernel_rfl) rfl ?_; refine Zew rfl Zfa ?_; refine Zew rfl Zld ?_; refine Zew rfl Zf0 ?_; refine Zew rfl Zld ?_; refine Zew rfl Zmi ?_; refine Zew rfl Zmi ?_; refine Zew rfl (Val_quoI hq2 (by omega) (InK_i64 (by omega) (by omega)) rfl rfl) ?_; refine Zew rfl Zxsub ?_; refine Zew rfl Zxmax ?_; refine Zew rfl Zmi ?_; refine Zew rfl Zmi ?_; refine Zew rfl Zxadd ?_; refine Zew rfl Zmi ?_; refine Zew rfl (Val_quoI hq2 (by omega) (InK_i64 (by omega) (by omega)) rfl rfl) ?_; refine Zew rfl Zxsub ?_; refine Zec rfl (Enters_fn rfl) (fun X => count42_ret N w0 _ _ _ _) ?_)) | (with_reducible apply EWalk_nil) | (refine ZgC [0, 1, 2, 3, 4, 5, 6, 7, 8, 9, 10, 11, 12, 13, 14, 15, 16] ?_; refine ZCl _ ?_) | (refine GiO ?_; first | (refine ZgO [0, 1, 2, 3, 4, 5, 6, 7, 8, 9, 10, 11, 12, 13, 14, 15, 16] ?_; refine ZO1 _ 17 [0, 1, 2, 3, 4, 5, 6, 7, 8, 9, 10, 11, 12, 13, 14, 15, 16, 17] ?_) | (refine ZgO [0, 1, 2, 3, 4, 5, 6, 7, 8, 9, 10, 11, 12, 13, 14, 15, 16, 17] ?_; refine ZO1 _ 18 [0, 1, 2, 3, 4, 5, 6, 7, 8, 9, 10, 11, 12, 13, 14, 15, 16, 17, 18] ?_) | (refine ZgO [0, 1, 2, 3, 4, 5, 6, 7, 8, 9, 10, 11, 12, 13, 14, 15, 16, 17, 18] ?_; refine ZO1 _ 19 [0, 1, 2, 3, 4, 5, 6, 7, 8, 9, 10, 11, 12, 13, 14, 15, 16, 17, 18, 19] ?_) | (refine ZgO [0, 1, 2, 3, 4, 5, 6, 7, 8, 9, 10, 11, 12, 13, 14, 15, 16, 17, 18, 19] ?_; refine ZOd _ ?_; (try with_reducible apply noP_normal); (try with_reducible exact key.out))) | (refine Zhn ?_) | (with_reducible apply QBlock_normal) | (refine Zhx ?_) | (with_reducible apply QBlock_hit) | (refine Zqb ?_) | (with_reducible apply QLoop_exit) | (refine Zhr ?_) | (with_reducible apply QBlock_ret) | (with_reducible apply QLoop_ret) | (refine AWalk_1S (d := 52) rfl rfl rfl rfl blk_is (New_buildSliceR rfl rfl (by repeat (first | exact CellsR.nil | (apply CellsR.cA rfl) | (apply CellsR.c1S (by constructor) rfl))) rfl (by decide) rfl (by decide)) (fun b52 => ?_)) | (with_reducible apply QAny_normal) | (with_reducible apply QC_normal))
    refine QLoop_normal (k + 1, s53) (.cons rfl .nil) (by repeat (first | exact Off.frame rfl | exact Off.refl _ _ | refine Off.frameT rfl rfl ?_ | refine Off.upd rfl ?_ | refine Off.updO rfl ?_)) ?_ ⟨by dsimp only; omega, by dsimp only; rw [hnext]; exact hs53⟩ (by dsimp only; omega)
    dsimp only
    rw [hnext]
    exact (by repeat (first | exact Wk.refl _ | apply Wk.keep1 | apply Wk.drop | apply Wk.sv | apply Wk.svD | apply Wk.appD))
  · have hke : k = g.s.logs.length := by omega
    subst hke
    rw [List.take_length] at hs3 ⊢
    obtain ⟨A3, c3, e3, -⟩ := sv_slice (E := 60) hs3
    rw [e3]
    repeat' (first | (refine GiP ?_; first | (refine Znh ?_) | (with_reducible refine Znl ?_)) | (refine GiW ?_; first | (refine Zsq fun K hK => ?_) | (refine ZrN 4 fun _ => ?_; refine Zv Zylss ?_) | (refine ZrN 10 fun _ => ?_; refine Zv Zla ?_; refine Zst ?_) | (refine WP_cond_true rfl ?_) | (refine WP_cond_false rfl ?_) | (refine Zcd (fun hc => ?_) (fun hc => ?_) <;> (try (exfalso; omega))) | (with_reducible apply WP_skip) | (with_reducible apply WP_block) | (with_reducible apply WP_exit) | (with_reducible apply WP_ret)) | (refine Zhn ?_) | (with_reducible apply QBlock_normal) | (refine Zhx ?_) | (with_reducible apply QBlock_hit) | (refine Zqb ?_) | (with_reducible apply QLoop_exit) | (refine Zhr ?_) | (with_reducible apply QBlock_ret) | (with_reducible apply QLoop_ret))
    refine QBody_res rfl (.cellN rfl (by repeat (first | exact Mem.here | assumption | apply Mem.there | apply Mem.sv | apply Mem.app)) (.here (.cons (.cons (.cons .nil)))) .nil) rfl ?_
    exact ⟨_, (by repeat (first | exact Wk.refl _ | apply Wk.keep1 | apply Wk.drop | apply Wk.sv | apply Wk.svD | apply Wk.appD)), _, rfl, s3, by rw [e3]; rfl, hs3, rfl⟩
end
end Go.Proofs.Ytkaadefndcbdnaa
