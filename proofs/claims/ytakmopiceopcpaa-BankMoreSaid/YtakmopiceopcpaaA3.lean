/- Package bank: the iterator of all states that can follow one. -/
import Derived.Test.YtakmopiceopcpaaA2
section
namespace Go.Proofs.Ytakmopiceopcpaa
open Go.RowKit
/-- States, aq a function yields them. -/
def argS (l : List St) : List (List Value) := l.map fun s => [stV s]
/-- The states that begin with how far the first leases have come. -/
def segS (m : List Le) (ss : List Nat) (p : Nat) (pre : List Nat) (o : Int) : List St := (nexts p m ss).map fun g => (pre ++ g, hol m g o)
theorem segS_nil (p : Nat) (pre : List Nat) (o : Int) : segS [] [] p pre o = [(pre, o)] := by simp [segS, nexts, hol]
theorem segS_cons (l : Le) (ls : List Le) (s : Nat) (ss : List Nat) (p : Nat) (pre : List Nat) (o : Int) : segS (l :: ls) (s :: ss) p pre o = (steps l s p).flatMap fun f => segS ls ss p (pre ++ [f]) (if f = 1 then l.h else o) := by
  unfold segS
  rw [nexts, List.map_flatMap]
  congr 1
  funext f
  rw [List.map_map]
  apply List.map_congr_left
  intro g _
  simp only [Function.comp_apply, List.append_assoc, List.singleton_append]
  rfl
theorem segS_all (b : Bn) (p : Nat) (s : St) : segS b.ls s.1 p [] b.m = (nexts p b.ls s.1).map fun g => (g, hol b.ls g b.m) := by simp [segS]
theorem argS_at {xs pre post : List (List Value)} {s : St} (h : xs = pre ++ (argS [s] ++ post)) : ∃ hk : pre.length < xs.length, xs[pre.length] = [stV s] := by
  subst h
  exact ⟨by simp [argS], by simp [argS]⟩
theorem keyI_len {s : St} (h : s.1.length ≤ 4) : (keyI s).length = 5 := by simp [keyI, pad4]; omega
theorem keyI_five {s : St} (h : s.1.length ≤ 4) : ∃ a0 a1 a2 a3 : Int, keyI s = [a0, a1, a2, a3, s.2] ∧ pad4 s.1 = [a0, a1, a2, a3] := by
  have h4 : (pad4 s.1).length = 4 := by simp [pad4]; omega
  unfold keyI
  match pad4 s.1, h4 with
  | [a0, a1, a2, a3], _ => exact ⟨a0, a1, a2, a3, rfl, rfl⟩
theorem keyI_at {s : St} {i : Nat} (hi : i < s.1.length) : (ints (keyI s))[0 + i]? = some (.int .i64 (s.1[i] : Int)) := by
  unfold ints keyI pad4
  rw [Nat.zero_add, List.getElem?_map, List.getElem?_append_left (by simp; omega), List.getElem?_map, List.getElem?_append_left hi, List.getElem?_eq_getElem hi]
  rfl
theorem pad4_set {pre : List Nat} (h : pre.length < 4) (f : Nat) : (pad4 pre).set pre.length (f : Int) = pad4 (pre ++ [f]) := by
  unfold pad4
  rw [List.length_append, List.length_singleton, show 4 - pre.length = (4 - (pre.length + 1)) + 1 by omega, List.replicate_succ, List.map_append, List.map_append, List.map_append, List.map_cons, List.map_singleton]
  rw [List.set_append_right _ _ (by simp)]
  simp
theorem ints_set (l : List Int) (i : Nat) (v : Int) : setL (ints l) (0 + i) [.int .i64 v] = ints (l.set i v) := by
  unfold ints
  rw [Nat.zero_add]
  show (l.map _).set i _ = _
  rw [List.map_set]
theorem keyI_set {pre : List Nat} {o : Int} (h : pre.length < 4) (f : Nat) : setL (ints (keyI (pre, o))) (0 + pre.length) [.int .i64 (f : Int)] = ints (keyI (pre ++ [f], o)) := by
  rw [ints_set]
  unfold keyI
  dsimp only
  rw [List.set_append_left _ _ (by simp [pad4]; omega), pad4_set h]
def onV (b1 b4 b2 b3 b5 : Nat) : Value := .func (.func 103) #[] #[.pointer (some ⟨b1, 0, none⟩), .pointer (some ⟨b4, 0, none⟩), .pointer (some ⟨b2, 0, none⟩), .pointer (some ⟨b3, 0, none⟩), .pointer (some ⟨b5, 0, none⟩)]
/-- What the iterator leans on: the boxes of the perch, the state and the bank. -/
def NdN (bp bs bb : Nat) (p : Nat) (s : St) (g : Fg) : Hp := [(bp, Blk 3 [.int .i64 (p : Int)]), (bs, Blk 118 (ints (keyI s))), (bb, Blk 71 (bkL g))]
theorem perm_ahead {α : Type} (A C F X : List α) : (A ++ (C ++ (F ++ X))).Perm (C ++ (F ++ (A ++ X))) := by
  have h1 := (List.perm_append_comm (l₁ := A) (l₂ := C)).append_right (F ++ X)
  have h2 := (List.perm_append_comm (l₁ := A) (l₂ := F)).append_right X
  simp only [List.append_assoc] at h1 h2
  exact h1.trans (h2.append_left C)
theorem Tri.ahead {P : Program} {N : Nat} {w0 : World} {f : FuncId} {args : Array Value} {A C Fr X : Hp} {K : Bool → Hp → Prop} (h : Tri P N w0 (C ++ (Fr ++ (A ++ X))) f args fun x L' => ∃ v, x = .returned v ∧ ∃ (bv : Bool) (Fr' : Hp), v = .bool bv ∧ L' = C ++ (Fr' ++ (A ++ X)) ∧ K bv Fr') :
    Tri P N w0 (A ++ (C ++ (Fr ++ X))) f args fun x L' => ∃ v, x = .returned v ∧ ∃ (bv : Bool) (Fr' : Hp), v = .bool bv ∧ L' = A ++ (C ++ (Fr' ++ X)) ∧ K bv Fr' := by
  refine Tri.pm h (perm_ahead A C Fr X) ?_
  rintro x L' ⟨v, rfl, bv, Fr', rfl, rfl, hk⟩
  exact ⟨_, (perm_ahead A C Fr' X).symm, _, rfl, bv, Fr', rfl, rfl, hk⟩
attribute [local irreducible] AnyO AnyB QAny QB EWalk AWalk Ev WP OPS QThen QBlock QScope QLoop QBody Val New Turn Tri Enters PostA Blk Ro
attribute [local irreducible] AnyC QC
section
variable (N : Nat) (w0 : World)
set_option maxHeartbeats 4000000 in
theorem on_tri (g : Fg) (hv : VB g.d) (hA : BkAt N w0 g) (p : Nat) (hp : (p : Int) < g.d.n) (s : St) (hs : s.1.length = g.d.ls.length) (hsf : ∀ f ∈ s.1, f = 0 ∨ f = 1 ∨ f = 2) (Y : Value) (xs : List (List Value)) (J : Nat → Hp → Prop) (Jx : Hp → Prop) (hY : YieldOK Try.prog N w0 J Jx xs Y) (bp bs bb b4 b5 : Nat)
    (hnd : ∀ k Fr, J k Fr → Sub (NdN bp bs bb p s g) Fr) :
    ∀ (r : Nat) (pre : List Nat) (o : Int) (ax post : List (List Value)) (Fr X : Hp), r + pre.length = g.d.ls.length → xs = ax ++ (argS (segS (g.d.ls.drop pre.length) (s.1.drop pre.length) p pre o) ++ post) → J ax.length Fr →
      Tri Try.prog N w0 ((b5, Blk 139 [onV bb b4 bs bp b5]) :: (b4, Blk 138 [Y]) :: (Fr ++ X)) 103
        [.int .i64 (pre.length : Int), stV (pre, o), .pointer (some ⟨bb, 0, none⟩), .pointer (some ⟨b4, 0, none⟩), .pointer (some ⟨bs, 0, none⟩), .pointer (some ⟨bp, 0, none⟩), .pointer (some ⟨b5, 0, none⟩)].toArray
        fun x L' => ∃ v, x = .returned v ∧ ∃ (bv : Bool) (Fr' : Hp), v = .bool bv ∧ L' = (b5, Blk 139 [onV bb b4 bs bp b5]) :: (b4, Blk 138 [Y]) :: (Fr' ++ X) ∧
          ((bv = true ∧ J (ax ++ argS (segS (g.d.ls.drop pre.length) (s.1.drop pre.length) p pre o)).length Fr') ∨ (bv = false ∧ Jx Fr')) := by
  intro r
  have hnl := hv.nl
  unfold onV
  induction r with
  | zero =>
    intro pre o ax post Fr X hr hxs hJ
    have hpl : pre.length = g.d.ls.length := by omega
    have hd1 : g.d.ls.drop pre.length = [] := by rw [hpl, List.drop_length]
    have hd2 : s.1.drop pre.length = [] := by rw [hpl, ← hs, List.drop_length]
    rw [hd1, hd2, segS_nil] at hxs
    rw [hd1, hd2, segS_nil]
    have hm3 := ((hnd _ _ hJ).appR X).mem (.there (.there (Mem.here (b := bb))))
    unfold bkL at hm3
    obtain ⟨hk, hxk⟩ := argS_at hxs
    obtain ⟨a0, a1, a2, a3, h5, h4⟩ := keyI_five (s := (pre, o)) (by dsimp only; omega)
    have hcv := fun A => hY.at A X hk hJ
    rw [hxk] at hcv
    unfold stV at hcv ⊢
    rw [h5] at hcv ⊢
    unfold ints at hcv ⊢
    simp only [List.map_cons, List.map_nil] at hcv ⊢
    have hcv2 := fun b9 b8 b7 => hcv [(b9, Blk 4 [.bool false]), (b8, Blk 118 [.int .i64 a0, .int .i64 a1, .int .i64 a2, .int .i64 a3, .int .i64 o]), (b7, Blk 3 [.int .i64 (pre.length : Int)]), (b5, Blk 139 [.func (.func 103) #[] #[.pointer (some ⟨bb, 0, none⟩), .pointer (some ⟨b4, 0, none⟩), .pointer (some ⟨bs, 0, none⟩), .pointer (some ⟨bp, 0, none⟩), .pointer (some ⟨b5, 0, none⟩)]]), (b4, Blk 138 [Y])]
    simp only [List.cons_append, List.nil_append] at hcv2
    refine Tri.fgt ?_
    refine tri_of_WPL Try.func103 rfl (n := _) rfl (by simp) ?_
    repeat' (first | (refine GiP ?_; first | (refine Znh ?_) | (with_reducible refine Znl ?_)) | (refine GiW ?_; first | (refine Zsq fun K hK => ?_) | (refine ZrN 0 fun _ => ?_; refine Zal 7 fun b7 => ?_; refine Zal 8 fun b8 => ?_; refine Zal 9 fun b9 => ?_) | (refine ZrN 1 fun _ => ?_; refine Zv Zld ?_; refine Zv Zf0 ?_; refine Zv Zfa ?_; refine Zv Zld ?_; refine Zv Zxlen ?_; refine Zv Zxeql ?_) | (refine ZrN 2 fun _ => ?_; refine Zv Zld ?_; refine Zv Zla ?_; refine OPS_callVS rfl rfl (hcv2 b9 b8 b7) rfl rfl (fun v20 L20 h20 => ?_); obtain ⟨bv, F', rfl, rfl, hc20⟩ := h20; refine Zst ?_) | (refine WP_cond_true rfl ?_) | (refine WP_cond_false rfl ?_) | (refine Zcd (fun hc => ?_) (fun hc => ?_) <;> (try (exfalso; omega))) | (with_reducible apply WP_skip) | (with_reducible apply WP_label) | (with_reducible apply WP_block) | (with_reducible apply WP_scope) | (with_reducible apply WP_exit) | (with_reducible apply WP_ret)) | (refine Zhn ?_) | (with_reducible apply QBlock_normal) | (with_reducible apply QScope_normal) | (refine Zhx ?_) | (with_reducible apply QBlock_hit) | (refine Zqb ?_) | (with_reducible apply QScope_exit) | (refine Zhr ?_) | (with_reducible apply QBlock_ret) | (with_reducible apply QScope_ret))
    · refine QLeave_ret ?_
      refine Lv_nil rfl (.cell1 rfl (by repeat (first | exact Mem.here | assumption | apply Mem.there | apply Mem.sv | apply Mem.app)) rfl .nil) rfl ⟨_, (by repeat (first | exact Wk.refl _ | apply Wk.keep1 | apply Wk.drop | apply Wk.sv | apply Wk.svD | apply Wk.appD)), _, rfl, bv, F', rfl, rfl, ?_⟩
      simpa [argS] using hc20
  | succ r ih =>
    intro pre o ax post Fr X hr hxs hJ
    have hlt : pre.length < g.d.ls.length := by omega
    have hlts : pre.length < s.1.length := by omega
    obtain ⟨bA, oA, hA1, hbA, hcA⟩ := hA.ls.row pre.length hlt
    have hlv := hv.ls g.d.ls[pre.length] (List.getElem_mem hlt)
    have hwv := hsf s.1[pre.length] (List.getElem_mem hlts)
    have hks := keyI_at hlts
    have hd1 : g.d.ls.drop pre.length = g.d.ls[pre.length] :: g.d.ls.drop (pre.length + 1) := List.drop_eq_getElem_cons hlt
    have hd2 : s.1.drop pre.length = s.1[pre.length] :: s.1.drop (pre.length + 1) := List.drop_eq_getElem_cons hlts
    have hseg := segS_cons g.d.ls[pre.length] (g.d.ls.drop (pre.length + 1)) s.1[pre.length] (s.1.drop (pre.length + 1)) p pre o
    rw [← hd1, ← hd2] at hseg
    obtain ⟨l, hl⟩ : ∃ l, g.d.ls[pre.length] = l := ⟨_, rfl⟩
    obtain ⟨w, hw⟩ : ∃ w, s.1[pre.length] = w := ⟨_, rfl⟩
    rw [hl] at hcA hlv hd1 hseg
    rw [hw] at hwv hks hd2 hseg
    have hst := fun L => steps_tri N w0 L l w p
    unfold leV at hst
    unfold leL at hcA hst
    have hm1 := ((hnd _ _ hJ).appR X).mem (Mem.here (b := bp))
    have hm2 := ((hnd _ _ hJ).appR X).mem (.there (Mem.here (b := bs)))
    have hm3 := ((hnd _ _ hJ).appR X).mem (.there (.there (Mem.here (b := bb))))
    unfold bkL at hm3
    obtain ⟨a0, a1, a2, a3, h5, h4⟩ := keyI_five (s := (pre, o)) (by dsimp only; omega)
    have hsl : (ints (keyI s)).length = 5 := by simp [ints, keyI_len (s := s) (by omega)]
    unfold stV
    rw [h5]
    unfold ints
    simp only [List.map_cons, List.map_nil]
    refine Tri.fgt ?_
    refine tri_of_WPL Try.func103 rfl (n := _) rfl (by simp) ?_
    repeat' (first | (refine GiP ?_; first | (refine Znh ?_) | (with_reducible refine Znl ?_) | (refine Zatd 35 ?_; refine OPS_retKS (Enters_val (cf := [_]) (cc := []) rfl rfl) (hst _) rfl rfl rfl (fun v35 L35 h35 => ?_); obtain ⟨bp', bl', bw', rfl, rfl⟩ := h35)) | (refine GiW ?_; first | (refine Zsq fun K hK => ?_) | (refine ZrN 0 fun _ => ?_; refine Zal 7 fun b7 => ?_; refine Zal 8 fun b8 => ?_; refine Zal 9 fun b9 => ?_) | (refine ZrN 1 fun _ => ?_; (first | (refine Zv (Val_loadRN rfl hbA hcA rfl) ?_) | (refine Zv Zld ?_)); refine Zv Zf0 ?_; refine Zv Zfa ?_; (first | (refine Zv (Val_loadRN rfl hbA hcA rfl) ?_) | (refine Zv Zld ?_)); refine Zv Zxlen ?_; refine Zv Zxeql ?_) | (refine ZrN 3 fun _ => ?_; refine Zv Zf0 ?_; refine Zv Zfa ?_; (first | (refine Zv (Val_loadRN rfl hbA hcA rfl) ?_) | (refine Zv Zld ?_)); (first | (refine Zv (Val_loadRN rfl hbA hcA rfl) ?_) | (refine Zv Zld ?_)); refine Zv Zia ?_; (first | (refine Zv (Val_loadRN rfl hbA hcA rfl) ?_) | (refine Zv Zla ?_)); refine Zv Val_makeFunc ?_; refine Zv Zav ?_) | (refine WP_cond_true rfl ?_) | (refine WP_cond_false rfl ?_) | (refine Zcd (fun hc => ?_) (fun hc => ?_) <;> (try (exfalso; omega))) | (with_reducible apply WP_skip) | (with_reducible apply WP_label) | (with_reducible apply WP_block) | (with_reducible apply WP_scope) | (with_reducible apply WP_exit) | (with_reducible apply WP_ret) | (refine WP_drawnS (id := 4) [] [0, 1, 2, 3, 4, 5] [] [] (k := 0) (k2 := 1) (by repeat (first | apply Sub.sv | apply Sub.keep | apply Sub.appK | exact Sub.refl _)) (by kernel_rfl) prog_mixed (by kernel_rfl) (by kernel_rfl) rfl ?_; refine Zew rfl Zmv ?_; (first | (refine Zew rfl (Val_loadRN rfl hbA hcA rfl) ?_) | (refine Zew rfl Zld ?_)); refine Zew rfl Zf0 ?_; refine Zew rfl ZiA ?_; (first | (refine Zew rfl (Val_loadRN rfl hbA hcA rfl) ?_) | (refine Zew rfl Zld ?_)); (first | (refine Zew rfl (Val_loadRN rfl hbA hcA rfl) ?_) | (refine Zew rfl Zld ?_)))) | (with_reducible apply EWalk_nil) | (refine ZgC [0, 1, 2, 3, 4, 5] ?_; refine ZCl _ ?_) | (refine GiO ?_; first | (refine ZgO [0, 1, 2, 3, 4, 5] ?_; refine ZO1 _ 6 [0, 1, 2, 3, 4, 5, 6] ?_) | (refine ZgO [0, 1, 2, 3, 4, 5, 6] ?_; refine ZOd _ ?_; (try with_reducible apply noP_normal); (try with_reducible exact key.out))) | (refine Zhn ?_) | (with_reducible apply QBlock_normal) | (with_reducible apply QScope_normal) | (refine Zhx ?_) | (with_reducible apply QBlock_hit) | (refine Zqb ?_) | (with_reducible apply QScope_exit) | (refine Zhr ?_) | (with_reducible apply QBlock_ret) | (with_reducible apply QScope_ret) | (refine AWalk_0 ?_) | (with_reducible apply QAny_normal) | (with_reducible apply QC_normal))
    have hn10 := hv.n
    refine WP_rangeFunc (cc := [.pointer (some ⟨bp', 0, none⟩), .pointer (some ⟨bl', 0, none⟩), .pointer (some ⟨bw', 0, none⟩)]) (xs := farL (steps l w p)) (nd := NdL bp' bl' bw' p l w) rfl (steps_iter N w0 hn10.2 l hlv w p hwv hp bp' bl' bw')
      (fun k F => ∃ Fr, F = NdL bp' bl' bw' p l w ++ ((b9, Blk 4 [.bool false]) :: (b8, Blk 118 [.int .i64 a0, .int .i64 a1, .int .i64 a2, .int .i64 a3, .int .i64 o]) :: (b7, Blk 3 [.int .i64 (pre.length : Int)]) :: (b5, Blk 139 [.func (.func 103) #[] #[.pointer (some ⟨bb, 0, none⟩), .pointer (some ⟨b4, 0, none⟩), .pointer (some ⟨bs, 0, none⟩), .pointer (some ⟨bp, 0, none⟩), .pointer (some ⟨b5, 0, none⟩)]]) :: (b4, Blk 138 [Y]) :: Fr) ∧ J (ax ++ argS (((steps l w p).take k).flatMap fun f => segS (g.d.ls.drop (pre.length + 1)) (s.1.drop (pre.length + 1)) p (pre ++ [f]) (if f = 1 then l.h else o))).length Fr)
      (fun x F => x = .ret ∧ ∃ Fr, F = NdL bp' bl' bw' p l w ++ ((b9, Blk 4 [.bool false]) :: (b8, Blk 118 [.int .i64 a0, .int .i64 a1, .int .i64 a2, .int .i64 a3, .int .i64 o]) :: (b7, Blk 3 [.int .i64 (pre.length : Int)]) :: (b5, Blk 139 [.func (.func 103) #[] #[.pointer (some ⟨bb, 0, none⟩), .pointer (some ⟨b4, 0, none⟩), .pointer (some ⟨bs, 0, none⟩), .pointer (some ⟨bp, 0, none⟩), .pointer (some ⟨b5, 0, none⟩)]]) :: (b4, Blk 138 [Y]) :: Fr) ∧ Jx Fr)
      (NdL bp' bl' bw' p l w ++ ((b9, Blk 4 [.bool false]) :: (b8, Blk 118 [.int .i64 a0, .int .i64 a1, .int .i64 a2, .int .i64 a3, .int .i64 o]) :: (b7, Blk 3 [.int .i64 (pre.length : Int)]) :: (b5, Blk 139 [.func (.func 103) #[] #[.pointer (some ⟨bb, 0, none⟩), .pointer (some ⟨b4, 0, none⟩), .pointer (some ⟨bs, 0, none⟩), .pointer (some ⟨bp, 0, none⟩), .pointer (some ⟨b5, 0, none⟩)]]) :: (b4, Blk 138 [Y]) :: Fr)) X (Wk.refl _) ⟨Fr, rfl, by simpa [argS] using hJ⟩ ?_ (by simp [farL]) rfl ?_ ?_ ?_
    · rintro k _ ⟨Fr1, rfl, _⟩
      exact ⟨_, List.Perm.refl _⟩
    · rintro l0 X0 k hk _ ⟨Fr1, rfl, hJ1⟩
      have hk' : k < (steps l w p).length := by simpa [farL] using hk
      have hx : (farL (steps l w p))[k] = [.int .i64 ((steps l w p)[k] : Int)] := by simp [farL]
      rw [hx]
      have hfm := steps_lt (List.getElem_mem hk')
      have htk : ((steps l w p).take (k + 1)) = (steps l w p).take k ++ [(steps l w p)[k]] := List.take_succ_eq_append_getElem hk'
      have hspl : steps l w p = (steps l w p).take k ++ ((steps l w p)[k] :: (steps l w p).drop (k + 1)) := by rw [← List.drop_eq_getElem_cons hk', List.take_append_drop]
      obtain ⟨f, hf⟩ : ∃ f, (steps l w p)[k] = f := ⟨_, rfl⟩
      rw [hf] at hfm htk hspl ⊢
      have hpl : (pre ++ [f]).length = pre.length + 1 := by simp
      obtain ⟨c0, c1, c2, c3, h6, h7⟩ := keyI_five (s := (pre ++ [f], o)) (by dsimp only; rw [hpl]; omega)
      have hset := keyI_set (pre := pre) (o := o) (by omega) f
      rw [h5, h6] at hset
      unfold ints at hset
      simp only [List.map_cons, List.map_nil] at hset
      have hih := fun A X1 => Tri.ahead (A := A) (C := [(b5, Blk 139 [.func (.func 103) #[] #[.pointer (some ⟨bb, 0, none⟩), .pointer (some ⟨b4, 0, none⟩), .pointer (some ⟨bs, 0, none⟩), .pointer (some ⟨bp, 0, none⟩), .pointer (some ⟨b5, 0, none⟩)]]), (b4, Blk 138 [Y])]) (X := X1) (ih (pre ++ [f]) (if f = 1 then l.h else o) (ax ++ argS (((steps l w p).take k).flatMap fun f => segS (g.d.ls.drop (pre.length + 1)) (s.1.drop (pre.length + 1)) p (pre ++ [f]) (if f = 1 then l.h else o))) (argS (((steps l w p).drop (k + 1)).flatMap fun f => segS (g.d.ls.drop (pre.length + 1)) (s.1.drop (pre.length + 1)) p (pre ++ [f]) (if f = 1 then l.h else o)) ++ post) Fr1 (A ++ X1) (by rw [hpl]; omega) (by
        rw [hxs, hseg, hpl]
        conv => lhs; rw [hspl]
        unfold argS
        simp only [List.flatMap_append, List.flatMap_cons, List.map_append, List.append_assoc]) hJ1)
      have hJn : ((ax ++ argS (((steps l w p).take k).flatMap fun f => segS (g.d.ls.drop (pre.length + 1)) (s.1.drop (pre.length + 1)) p (pre ++ [f]) (if f = 1 then l.h else o))) ++ argS (segS (g.d.ls.drop (pre ++ [f]).length) (s.1.drop (pre ++ [f]).length) p (pre ++ [f]) (if f = 1 then l.h else o))).length = (ax ++ argS (((steps l w p).take (k + 1)).flatMap fun f => segS (g.d.ls.drop (pre.length + 1)) (s.1.drop (pre.length + 1)) p (pre ++ [f]) (if f = 1 then l.h else o))).length := by
        rw [htk, hpl]
        unfold argS
        simp [List.flatMap_append, Nat.add_assoc]
      rw [hJn, hpl] at hih
      have hm3' := fun X1 => ((hnd _ _ hJ1).appR X1).mem (.there (.there (Mem.here (b := bb))))
      unfold bkL at hm3'
      have hc0 : w0.cell? ⟨bA, oA + pre.length * 5, none⟩ = some (.int .i64 l.h) := RoAt hcA 0 _ rfl
      unfold stV at hih
      unfold NdL
      simp only [List.cons_append, List.nil_append] at hih ⊢
      repeat' (first | (refine GiP ?_; first | (refine Znh ?_) | (with_reducible refine Znl ?_)) | (refine GiW ?_; first | (refine Zsq fun K hK => ?_) | (refine ZrN 5 fun _ => ?_; refine Zv Zai ?_) | (refine WP_cond_true rfl ?_) | (refine WP_cond_false rfl ?_) | (refine Zcd (fun hc => ?_) (fun hc => ?_) <;> (try (exfalso; omega))) | (with_reducible apply WP_skip) | (with_reducible apply WP_label) | (with_reducible apply WP_block) | (with_reducible apply WP_scope) | (with_reducible apply WP_exit) | (with_reducible apply WP_ret)) | (refine Zhn ?_) | (with_reducible apply QBlock_normal) | (with_reducible apply QScope_normal) | (refine Zhx ?_) | (with_reducible apply QBlock_hit) | (refine Zqb ?_) | (with_reducible apply QScope_exit) | (refine Zhr ?_) | (with_reducible apply QBlock_ret) | (with_reducible apply QScope_ret))
      refine ⟨rfl, (bp', Blk 3 [.int .i64 (p : Int)]) :: (bw', Blk 3 [.int .i64 (w : Int)]) :: (bl', Blk 141 (leL l)) :: (b9, Blk 4 [.bool false]) :: (b8, Blk 118 [.int .i64 a0, .int .i64 a1, .int .i64 a2, .int .i64 a3, .int .i64 o]) :: (b7, Blk 3 [.int .i64 (pre.length : Int)]) :: (b5, Blk 139 [.func (.func 103) #[] #[.pointer (some ⟨bb, 0, none⟩), .pointer (some ⟨b4, 0, none⟩), .pointer (some ⟨bs, 0, none⟩), .pointer (some ⟨bp, 0, none⟩), .pointer (some ⟨b5, 0, none⟩)]]) :: (b4, Blk 138 [Y]) :: Fr1, rfl, fun X1 => ?_⟩
      have hm3x := hm3' X1
      simp only [List.cons_append]
      by_cases hf1 : f = 1
      · subst hf1
        have h8 : keyI (pre ++ [1], l.h) = [c0, c1, c2, c3, l.h] := by unfold keyI; dsimp only; rw [h7]; rfl
        rw [if_pos rfl, h8] at hih
        unfold ints at hih
        simp only [List.map_cons, List.map_nil] at hih
        have hih2 := fun b12 => hih [(b12, Blk 118 [.int .i64 c0, .int .i64 c1, .int .i64 c2, .int .i64 c3, .int .i64 l.h]), (bp', Blk 3 [.int .i64 (p : Int)]), (bw', Blk 3 [.int .i64 (w : Int)]), (bl', Blk 141 (leL l)), (b9, Blk 4 [.bool false]), (b8, Blk 118 [.int .i64 a0, .int .i64 a1, .int .i64 a2, .int .i64 a3, .int .i64 o]), (b7, Blk 3 [.int .i64 (pre.length : Int)])] X1
        simp only [List.cons_append, List.nil_append] at hih2
        repeat' (first | (refine GiP ?_; first | (refine Znh ?_) | (with_reducible refine Znl ?_)) | (refine GiW ?_; first | (refine Zsq fun K hK => ?_) | (refine ZrN 6 fun _ => ?_; refine Zv Zla ?_; refine Zal 12 fun b12 => ?_; (first | (refine Zst ?_) | (refine OPS_turnN (Turn_storeG rfl rfl (by repeat (first | exact Up.here | apply Up.there | apply Up.sv)) rfl (by simp only [List.length_cons, List.length_nil]; omega) hset rfl rfl) rfl rfl ?_))) | (refine ZrN 7 fun _ => ?_; refine Zv Zld ?_; refine Zv Zmi ?_; refine Zv Zf0 ?_; refine Zv ZiA ?_; (first | (refine Zst ?_) | (refine OPS_turnN (Turn_storeG rfl rfl (by repeat (first | exact Up.here | apply Up.there | apply Up.sv)) rfl (by simp only [List.length_cons, List.length_nil]; omega) hset rfl rfl) rfl rfl ?_))) | (refine ZrN 8 fun _ => ?_; refine Zv Zmi ?_; refine Zv Zxeql ?_) | (refine ZrN 9 fun _ => ?_; refine Zv Zf0 ?_; refine Zv Zfa ?_; refine Zv Zld ?_; refine Zv Zld ?_; refine Zv Zia ?_; refine Zv Zf0 ?_; refine Zv Zld ?_; refine Zv Zfa ?_; (first | (refine Zst ?_) | (refine OPS_turnN (Turn_storeG rfl rfl (by repeat (first | exact Up.here | apply Up.there | apply Up.sv)) rfl (by simp only [List.length_cons, List.length_nil]; omega) hset rfl rfl) rfl rfl ?_))) | (refine ZrN 10 fun _ => ?_; refine Zv Zld ?_; refine Zv Zld ?_; refine Zv Zxadd ?_; refine Zv Zla ?_; refine OPS_retKS (Enters_val (cf := []) (cc := [.pointer (some ⟨bb, 0, none⟩), .pointer (some ⟨b4, 0, none⟩), .pointer (some ⟨bs, 0, none⟩), .pointer (some ⟨bp, 0, none⟩), .pointer (some ⟨b5, 0, none⟩)]) rfl rfl) (hih2 b12) rfl rfl rfl (fun v56 L56 h56 => ?_); obtain ⟨bv, F', rfl, rfl, hc56⟩ := h56; refine Zv Zxnot ?_) | (refine ZrN 11 fun _ => ?_; (first | (refine Zst ?_) | (refine OPS_turnN (Turn_storeG rfl rfl (by repeat (first | exact Up.here | apply Up.there | apply Up.sv)) rfl (by simp only [List.length_cons, List.length_nil]; omega) hset rfl rfl) rfl rfl ?_))) | (refine WP_cond_true rfl ?_) | (refine WP_cond_false rfl ?_) | (refine Zcd (fun hc => ?_) (fun hc => ?_) <;> (try (exfalso; omega))) | (with_reducible apply WP_skip) | (with_reducible apply WP_label) | (with_reducible apply WP_block) | (with_reducible apply WP_scope) | (with_reducible apply WP_exit) | (with_reducible apply WP_ret)) | (refine Zhn ?_) | (with_reducible apply QBlock_normal) | (with_reducible apply QScope_normal) | (refine Zhx ?_) | (with_reducible apply QBlock_hit) | (refine Zqb ?_) | (with_reducible apply QScope_exit) | (refine Zhr ?_) | (with_reducible apply QBlock_ret) | (with_reducible apply QScope_ret))
        · refine ⟨(bp', _) :: (bw', _) :: (bl', _) :: (b9, _) :: (b8, _) :: (b7, _) :: (b5, _) :: (b4, _) :: F', .drop (Wk.refl _), rfl, F', rfl, ?_⟩
          rcases hc56 with ⟨h, _⟩ | ⟨_, h⟩
          · rw [h] at hc; cases hc
          · exact h
        · refine ⟨(bp', _) :: (bw', _) :: (bl', _) :: (b9, _) :: (b8, _) :: (b7, _) :: (b5, _) :: (b4, _) :: F', .drop (Wk.refl _), F', rfl, ?_⟩
          rcases hc56 with ⟨_, h⟩ | ⟨h, _⟩
          · exact h
          · rw [h] at hc; cases hc
      · rw [if_neg hf1, h6] at hih
        unfold ints at hih
        simp only [List.map_cons, List.map_nil] at hih
        have hih2 := fun b12 => hih [(b12, Blk 118 [.int .i64 c0, .int .i64 c1, .int .i64 c2, .int .i64 c3, .int .i64 o]), (bp', Blk 3 [.int .i64 (p : Int)]), (bw', Blk 3 [.int .i64 (w : Int)]), (bl', Blk 141 (leL l)), (b9, Blk 4 [.bool false]), (b8, Blk 118 [.int .i64 a0, .int .i64 a1, .int .i64 a2, .int .i64 a3, .int .i64 o]), (b7, Blk 3 [.int .i64 (pre.length : Int)])] X1
        simp only [List.cons_append, List.nil_append] at hih2
        have hf1' : ¬ (f : Int) = 1 := by omega
        repeat' (first | (refine GiP ?_; first | (refine Znh ?_) | (with_reducible refine Znl ?_)) | (refine GiW ?_; first | (refine Zsq fun K hK => ?_) | (refine ZrN 6 fun _ => ?_; refine Zv Zla ?_; refine Zal 12 fun b12 => ?_; (first | (refine Zst ?_) | (refine OPS_turnN (Turn_storeG rfl rfl (by repeat (first | exact Up.here | apply Up.there | apply Up.sv)) rfl (by simp only [List.length_cons, List.length_nil]; omega) hset rfl rfl) rfl rfl ?_))) | (refine ZrN 7 fun _ => ?_; refine Zv Zld ?_; refine Zv Zmi ?_; refine Zv Zf0 ?_; refine Zv ZiA ?_; (first | (refine Zst ?_) | (refine OPS_turnN (Turn_storeG rfl rfl (by repeat (first | exact Up.here | apply Up.there | apply Up.sv)) rfl (by simp only [List.length_cons, List.length_nil]; omega) hset rfl rfl) rfl rfl ?_))) | (refine ZrN 8 fun _ => ?_; refine Zv Zmi ?_; refine Zv Zxeql ?_) | (refine ZrN 9 fun _ => ?_; refine Zv Zf0 ?_; refine Zv Zfa ?_; refine Zv Zld ?_; refine Zv Zld ?_; refine Zv Zia ?_; refine Zv Zf0 ?_; refine Zv Zld ?_; refine Zv Zfa ?_; (first | (refine Zst ?_) | (refine OPS_turnN (Turn_storeG rfl rfl (by repeat (first | exact Up.here | apply Up.there | apply Up.sv)) rfl (by simp only [List.length_cons, List.length_nil]; omega) hset rfl rfl) rfl rfl ?_))) | (refine ZrN 10 fun _ => ?_; refine Zv Zld ?_; refine Zv Zld ?_; refine Zv Zxadd ?_; refine Zv Zla ?_; refine OPS_retKS (Enters_val (cf := []) (cc := [.pointer (some ⟨bb, 0, none⟩), .pointer (some ⟨b4, 0, none⟩), .pointer (some ⟨bs, 0, none⟩), .pointer (some ⟨bp, 0, none⟩), .pointer (some ⟨b5, 0, none⟩)]) rfl rfl) (hih2 b12) rfl rfl rfl (fun v56 L56 h56 => ?_); obtain ⟨bv, F', rfl, rfl, hc56⟩ := h56; refine Zv Zxnot ?_) | (refine ZrN 11 fun _ => ?_; (first | (refine Zst ?_) | (refine OPS_turnN (Turn_storeG rfl rfl (by repeat (first | exact Up.here | apply Up.there | apply Up.sv)) rfl (by simp only [List.length_cons, List.length_nil]; omega) hset rfl rfl) rfl rfl ?_))) | (refine WP_cond_true rfl ?_) | (refine WP_cond_false rfl ?_) | (refine Zcd (fun hc => ?_) (fun hc => ?_) <;> (try (exfalso; omega))) | (with_reducible apply WP_skip) | (with_reducible apply WP_label) | (with_reducible apply WP_block) | (with_reducible apply WP_scope) | (with_reducible apply WP_exit) | (with_reducible apply WP_ret)) | (refine Zhn ?_) | (with_reducible apply QBlock_normal) | (with_reducible apply QScope_normal) | (refine Zhx ?_) | (with_reducible apply QBlock_hit) | (refine Zqb ?_) | (with_reducible apply QScope_exit) | (refine Zhr ?_) | (with_reducible apply QBlock_ret) | (with_reducible apply QScope_ret))
        · refine ⟨(bp', _) :: (bw', _) :: (bl', _) :: (b9, _) :: (b8, _) :: (b7, _) :: (b5, _) :: (b4, _) :: F', .drop (Wk.refl _), rfl, F', rfl, ?_⟩
          rcases hc56 with ⟨h, _⟩ | ⟨_, h⟩
          · rw [h] at hc; cases hc
          · exact h
        · refine ⟨(bp', _) :: (bw', _) :: (bl', _) :: (b9, _) :: (b8, _) :: (b7, _) :: (b5, _) :: (b4, _) :: F', .drop (Wk.refl _), F', rfl, ?_⟩
          rcases hc56 with ⟨_, h⟩ | ⟨h, _⟩
          · exact h
          · rw [h] at hc; cases hc
    · rintro D _ ⟨Fr1, rfl, hJ1⟩
      have hal : (farL (steps l w p)).length = (steps l w p).length := by simp [farL]
      rw [hal, List.take_length, ← hseg] at hJ1
      unfold NdL
      simp only [List.cons_append, List.nil_append]
      repeat' (first | (refine GiP ?_; first | (refine Znh ?_) | (with_reducible refine Znl ?_)) | (refine GiW ?_; first | (refine Zsq fun K hK => ?_) | (refine ZrN 12 fun _ => ?_; refine Zst ?_) | (refine WP_cond_true rfl ?_) | (refine WP_cond_false rfl ?_) | (refine Zcd (fun hc => ?_) (fun hc => ?_) <;> (try (exfalso; omega))) | (with_reducible apply WP_skip) | (with_reducible apply WP_label) | (with_reducible apply WP_block) | (with_reducible apply WP_scope) | (with_reducible apply WP_exit) | (with_reducible apply WP_ret)) | (refine Zhn ?_) | (with_reducible apply QBlock_normal) | (with_reducible apply QScope_normal) | (refine Zhx ?_) | (with_reducible apply QBlock_hit) | (refine Zqb ?_) | (with_reducible apply QScope_exit) | (refine Zhr ?_) | (with_reducible apply QBlock_ret) | (with_reducible apply QScope_ret))
      refine QLeave_ret ?_
      refine Lv_mark (by simp) .here ?_
      exact Lv_nil rfl (.cell1 rfl (by repeat (first | exact Mem.here | assumption | apply Mem.there | apply Mem.sv | apply Mem.app)) rfl .nil) rfl ⟨_, (by repeat (first | exact Wk.refl _ | apply Wk.keep1 | apply Wk.drop | apply Wk.sv | apply Wk.svD | apply Wk.appD)), _, rfl, true, Fr1, rfl, rfl, .inl ⟨rfl, hJ1⟩⟩
    · rintro D x _ ⟨rfl, Fr1, rfl, hJ1⟩ _
      unfold NdL
      simp only [List.cons_append, List.nil_append]
      refine QBlock_ret ?_; refine HThen.ret (by assumption) ?_
      refine QScope_ret ?_
      refine QLeave_ret ?_
      refine Lv_mark (by simp) .here ?_
      exact Lv_nil rfl (.cell1 rfl (by repeat (first | exact Mem.here | assumption | apply Mem.there | apply Mem.sv | apply Mem.app)) rfl .nil) rfl ⟨_, (by repeat (first | exact Wk.refl _ | apply Wk.keep1 | apply Wk.drop | apply Wk.sv | apply Wk.svD | apply Wk.appD)), _, rfl, false, Fr1, rfl, rfl, .inr ⟨rfl, hJ1⟩⟩
/-- The states that can follow one, whatever is asked. -/
def folS (b : Bn) (p : Nat) (s : St) : List St := (nexts p b.ls s.1).map fun g => (g, hol b.ls g b.m)
theorem next_iter (g : Fg) (hv : VB g.d) (hA : BkAt N w0 g) (p : Nat) (hp : (p : Int) < g.d.n) (s : St) (hs : s.1.length = g.d.ls.length) (hsf : ∀ f ∈ s.1, f = 0 ∨ f = 1 ∨ f = 2) (bp bs bb : Nat) :
    IterOK Try.prog N w0 102 [.pointer (some ⟨bb, 0, none⟩), .pointer (some ⟨bs, 0, none⟩), .pointer (some ⟨bp, 0, none⟩)] (argS (folS g.d p s)) (NdN bp bs bb p s g) := by
  intro fy ya yb J Jx hY hnd Fr X h0
  have hm3 := ((hnd _ _ h0).appR X).mem (.there (.there (Mem.here (b := bb))))
  unfold bkL at hm3
  have hon := fun b4 b5 => on_tri N w0 g hv hA p hp s hs hsf (.func fy ya yb) (argS (folS g.d p s)) J Jx hY bp bs bb b4 b5 hnd g.d.ls.length [] g.d.m [] [] Fr X (by simp) (by simp [folS, segS_all]) h0
  simp only [List.length_nil, List.drop_zero, List.nil_append, segS_all] at hon
  have h5 : keyI ([], g.d.m) = [0, 0, 0, 0, g.d.m] := rfl
  unfold onV stV at hon
  rw [h5] at hon
  unfold ints at hon
  simp only [List.map_cons, List.map_nil] at hon
  refine Tri.fgt ?_
  refine tri_of_WP Try.func102 rfl (n := _) rfl (by simp) ?_
  repeat' (first | (refine GiP ?_; first | (refine Znh ?_) | (with_reducible refine Znl ?_)) | (refine GiW ?_; first | (refine Zsq fun K hK => ?_) | (refine ZrN 0 fun _ => ?_; refine Zal 4 fun b4 => ?_) | (refine ZrN 1 fun _ => ?_; refine Zal 5 fun b5 => ?_) | (refine ZrN 2 fun _ => ?_; refine Zv Val_makeFunc ?_; refine Zst ?_) | (refine ZrN 3 fun _ => ?_; refine Zv Zld ?_; refine Zv Zf0 ?_; refine Zv Zfa ?_; refine Zv Zld ?_; refine Zv Zxbu ?_; refine OPS_retKS (Enters_val (cf := []) (cc := [.pointer (some ⟨bb, 0, none⟩), .pointer (some ⟨b4, 0, none⟩), .pointer (some ⟨bs, 0, none⟩), .pointer (some ⟨bp, 0, none⟩), .pointer (some ⟨b5, 0, none⟩)]) rfl rfl) (hon b4 b5) rfl rfl rfl (fun v7 L7 h7 => ?_); obtain ⟨bv, F', rfl, rfl, hc7⟩ := h7)) | (refine Zhn ?_))
  refine QBody_end0 rfl ⟨F' ++ X, .drop (.drop (Wk.refl _)), ⟨_, rfl⟩, F', rfl, ?_⟩
  rcases hc7 with ⟨_, h⟩ | ⟨_, h⟩
  · exact .inl h
  · exact .inr h
theorem next_tri (L : Hp) (g : Fg) (p : Nat) (s : St) (hs : s.1.length ≤ 4) : Tri Try.prog N w0 L 92 [bkV g, stV s, .int .i64 (p : Int)].toArray fun x L' => ∃ v, x = .returned v ∧ ∃ bp bs bb, v = .func (.func 102) #[] #[.pointer (some ⟨bb, 0, none⟩), .pointer (some ⟨bs, 0, none⟩), .pointer (some ⟨bp, 0, none⟩)] ∧ L' = NdN bp bs bb p s g ++ L := by
  obtain ⟨a0, a1, a2, a3, h5, _⟩ := keyI_five hs
  unfold stV NdN bkV bkL
  rw [h5]
  unfold ints
  simp only [List.map_cons, List.map_nil]
  refine Tri.fgt ?_
  refine tri_of_WP Try.func92 rfl (n := _) rfl (by simp) ?_
  repeat' (first | (refine GiP ?_; first | (refine Znh ?_) | (with_reducible refine Znl ?_)) | (refine GiW ?_; first | (refine Zsq fun K hK => ?_) | (refine ZrN 0 fun _ => ?_; refine Zal 3 fun b3 => ?_; refine Zal 4 fun b4 => ?_; refine Zal 5 fun b5 => ?_; refine Zv Zav ?_) | (refine ZrN 1 fun _ => ?_; refine Zv Val_makeFunc ?_; refine Zv Zav ?_) | (with_reducible apply WP_ret)) | (refine Zhn ?_) | (refine Zhr ?_))
  exact QBody_ret1 rfl rfl ⟨_, Wk.refl _, _, rfl, _, _, _, rfl, rfl⟩
end
end Go.Proofs.Ytakmopiceopcpaa
end
