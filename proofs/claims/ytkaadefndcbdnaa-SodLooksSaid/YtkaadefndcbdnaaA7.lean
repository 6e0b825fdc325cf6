/- Package sod: all costs that there can be. -/
import Derived.Test.YtkaadefndcbdnaaA6
namespace Go.Proofs.Ytkaadefndcbdnaa
open Go.RowKit
def ints (l : List Int) : List Value := l.map (.int .i64)
/-- All costs, each one with zeros behind. -/
def rows3 (l : List (List Int)) : List (List Value) := l.map fun r => [.agg (ints (pad3 r)).toArray]
/-- The costs that begin with p. -/
def seg (p : List Int) (ps : List Spt) : List (List Value) := rows3 ((allR (ps.map costR)).map (p ++ ·))
theorem seg_nil (p : List Int) : seg p [] = [[.agg (ints (pad3 p)).toArray]] := by simp [seg, allR, rows3]
theorem seg_cons (p : List Int) (s : Spt) (l : List Spt) : seg p (s :: l) = (vals (costR s)).flatMap fun v => seg (p ++ [v]) l := by
  simp only [seg, List.map_cons, allR, rows3, List.map_flatMap, List.map_map]
  congr 1
  funext v
  apply List.map_congr_left
  intro q _
  simp
theorem SegAt {xs pre post : List (List Value)} {p : List Int} (h : xs = pre ++ (seg p [] ++ post)) : ∃ hk : pre.length < xs.length, xs[pre.length] = [.agg (ints (pad3 p)).toArray] := by
  subst h
  rw [seg_nil]
  exact ⟨by simp, by simp⟩
theorem setL_ints (own : List Int) (d : Nat) (v : Int) : setL (ints own) (0 + d) [.int .i64 v] = ints (own.set d v) := by
  simp [setL, ints, List.map_set]
theorem pad3_len {p : List Int} (h : p.length ≤ 3) : (pad3 p).length = 3 := by simp [pad3]; omega
theorem pad3_set {p : List Int} (h : p.length < 3) (v : Int) : (pad3 p).set p.length v = pad3 (p ++ [v]) := by
  unfold pad3
  rw [List.set_append_right _ _ (Nat.le_refl _), Nat.sub_self, List.length_append, List.length_singleton]
  obtain ⟨n, hn⟩ : ∃ n, 3 - p.length = n + 1 := ⟨2 - p.length, by omega⟩
  rw [hn, show 3 - (p.length + 1) = n by omega, List.replicate_succ, List.set_cons_zero, List.append_assoc]; rfl
theorem pad3_zero {p : List Int} (h : p.length < 3) : (pad3 p).set p.length 0 = pad3 p := by
  unfold pad3
  rw [List.set_append_right _ _ (Nat.le_refl _), Nat.sub_self]
  obtain ⟨n, hn⟩ : ∃ n, 3 - p.length = n + 1 := ⟨2 - p.length, by omega⟩
  rw [hn, List.replicate_succ, List.set_cons_zero]
theorem RoAt {w0 : World} {b o : Nat} {vs : List Value} (h : Ro w0 b o vs) (j : Nat) (v : Value) (hj : vs[j]? = some v) : w0.cell? ⟨b, o + j, none⟩ = some v := h j v hj
theorem ints_len (l : List Int) : (ints l).length = l.length := by simp [ints]
theorem YieldOK.at {P : Program} {N : Nat} {w0 : World} {J : Nat → Hp → Prop} {Jx : Hp → Prop} {xs : List (List Value)} {Y : Value} (h : YieldOK P N w0 J Jx xs Y) (A X : Hp) {k : Nat} (hk : k < xs.length) {Fr : Hp} (hJ : J k Fr) :
    CV P N w0 (A ++ (Fr ++ X)) Y xs[k] fun x L' => ∃ v, x = .returned v ∧ ∃ (bv : Bool) (Fr' : Hp), v = .bool bv ∧ L' = A ++ (Fr' ++ X) ∧ ((bv = true ∧ J (k + 1) Fr') ∨ (bv = false ∧ Jx Fr')) := by
  have hperm : ∀ F : Hp, (A ++ (F ++ X)).Perm (F ++ (A ++ X)) := by
    intro F
    have := (List.perm_append_comm (l₁ := A) (l₂ := F)).append_right X
    simpa using this
  refine (h (A ++ X) k hk Fr hJ).pm (hperm Fr) ?_
  rintro x L' ⟨v, rfl, Fr', rfl, hc⟩
  refine ⟨_, (hperm Fr').symm, v, rfl, ?_⟩
  rcases hc with ⟨rfl, hc⟩ | ⟨rfl, hc⟩
  · exact ⟨true, Fr', rfl, rfl, .inl ⟨rfl, hc⟩⟩
  · exact ⟨false, Fr', rfl, rfl, .inr ⟨rfl, hc⟩⟩
/-- What the closure that calls itself has, in its box. -/
def onF (pb b2 b3 : Nat) : Value := .func (.func 109) #[] #[.pointer (some ⟨pb, 0, none⟩), .pointer (some ⟨b2, 0, none⟩), .pointer (some ⟨b3, 0, none⟩)]
theorem Tri.pm {P : Program} {N : Nat} {w0 : World} {L L2 : Hp} {f : FuncId} {args : Array Value} {R R' : Ending → Hp → Prop} (h : Tri P N w0 L2 f args R) (hp : L.Perm L2) (hr : ∀ x L', R x L' → ∃ L'', L'.Perm L'' ∧ R' x L'') : Tri P N w0 L f args R' := by
  intro w hI
  refine (h w (hI.perm hp)).mono ?_
  rintro x w' ⟨L', hI', hR⟩
  obtain ⟨L'', hp', hR'⟩ := hr x L' hR
  exact ⟨L'', hI'.perm hp', hR'⟩
attribute [local irreducible] AnyO AnyB QAny QB EWalk AWalk Ev WP OPS QThen QBlock QScope QLoop QBody Val New Turn Tri Enters PostA Blk Ro
section
variable (N : Nat) (w0 : World)
set_option maxHeartbeats 4000000 in
/-- The recursion over the spits: from the state behind the costs pre to that behind those that begin with p. -/
theorem on_tri (g : Fg) (hv : VS g.s) (hA : SodAt N w0 g) (Y : Value) (xs : List (List Value)) (J : Nat → Hp → Prop) (Jx : Hp → Prop) (hY : YieldOK Try.prog N w0 J Jx xs Y) (pb b2 b3 : Nat)
    (hnd : ∀ k Fr, J k Fr → Sub [(pb, Blk 73 [.pointer (some ⟨g.b, 0, none⟩)]), (g.b, Blk 128 (faceL g))] Fr) :
    ∀ (r : Nat) (p : List Int) (pre post : List (List Value)) (Fr X : Hp), r + p.length = g.s.spits.length → xs = pre ++ (seg p (g.s.spits.drop p.length) ++ post) → J pre.length Fr →
      Tri Try.prog N w0 ((b2, Blk 143 [Y]) :: (b3, Blk 144 [onF pb b2 b3]) :: (Fr ++ X)) 109
        [.agg (ints (pad3 p)).toArray, .int .i64 p.length, .pointer (some ⟨pb, 0, none⟩), .pointer (some ⟨b2, 0, none⟩), .pointer (some ⟨b3, 0, none⟩)].toArray
        fun x L' => ∃ v, x = .returned v ∧ ∃ (bv : Bool) (Fr' : Hp), v = .bool bv ∧ L' = (b2, Blk 143 [Y]) :: (b3, Blk 144 [onF pb b2 b3]) :: (Fr' ++ X) ∧
          ((bv = true ∧ J (pre ++ seg p (g.s.spits.drop p.length)).length Fr') ∨ (bv = false ∧ Jx Fr')) := by
  intro r
  unfold onF
  induction r with
  | zero =>
    intro p pre post Fr X hr hxs hJ
    have hnp := hv.np
    have hpl : p.length = g.s.spits.length := by omega
    rw [hpl, List.drop_length] at hxs
    have hnd' := hnd _ _ hJ
    have hmp : Mem pb (Blk 73 [.pointer (some ⟨g.b, 0, none⟩)]) (Fr ++ X) := (hnd'.appR X).mem .here
    have hmb : Mem g.b (Blk 128 (faceL g)) (Fr ++ X) := (hnd'.appR X).mem (.there .here)
    obtain ⟨hk, hxk⟩ := SegAt hxs
    have hint : (ints (pad3 p)).length = 3 := by rw [ints_len, pad3_len (by omega)]
    refine Tri.fgt ?_
    refine tri_of_WP Try.func109 rfl (n := _) rfl (by simp) ?_
    have hcv := fun b5 => hY.at ((b5, Blk 86 (ints (pad3 p))) :: (b2, Blk 143 [Y]) :: (b3, Blk 144 [.func (.func 109) #[] #[.pointer (some ⟨pb, 0, none⟩), .pointer (some ⟨b2, 0, none⟩), .pointer (some ⟨b3, 0, none⟩)]]) :: []) X hk hJ
    rw [hxk] at hcv
    repeat' (first | (refine Znh ?_) | (refine GiW ?_; first | (refine Zsq fun K hK => ?_) | (refine ZrN 0 fun _ => ?_; refine Zal 5 fun b5 => ?_; refine Zv Zab ?_) | (refine ZrN 1 fun _ => ?_; refine Zv Zmi ?_; refine Zv Zld ?_; (first | (refine Zv Zxnp ?_) | (refine Zv Zxnf ?_)); refine Zv Zf0 ?_; refine Zv Zf0 ?_; refine Zv Zld ?_; refine Zv Zxlen ?_; refine Zv Zxeql ?_) | (refine ZrN 2 fun _ => ?_; refine Zv Zld ?_; refine Zv Zla ?_; refine OPS_callVS rfl rfl (hcv b5) rfl rfl (fun v19 L19 hK19 => ?_); obtain ⟨bv, Fr', rfl, rfl, hc19⟩ := hK19; refine Zv Zab ?_) | (refine Zcd (fun hc => ?_) (fun hc => ?_) <;> (try (exfalso; omega))) | (with_reducible apply WP_ret)) | (refine Zhr ?_))
    refine QBody_ret1 rfl (rfl : _ = Value.bool _) ⟨(b2, Blk 143 [Y]) :: (b3, Blk 144 [.func (.func 109) #[] #[.pointer (some ⟨pb, 0, none⟩), .pointer (some ⟨b2, 0, none⟩), .pointer (some ⟨b3, 0, none⟩)]]) :: (Fr' ++ X), .drop (Wk.refl _), _, rfl, bv, Fr', rfl, rfl, ?_⟩
    rw [hpl, List.drop_length, seg_nil]
    rcases hc19 with ⟨rfl, hc⟩ | ⟨rfl, hc⟩
    · exact .inl ⟨rfl, by simpa using hc⟩
    · exact .inr ⟨rfl, hc⟩
  | succ r ih =>
    intro p pre post Fr X hr hxs hJ
    have hnp := hv.np
    have hlt : p.length < g.s.spits.length := by omega
    have hnd' := hnd _ _ hJ
    have hmp : Mem pb (Blk 73 [.pointer (some ⟨g.b, 0, none⟩)]) (Fr ++ X) := (hnd'.appR X).mem .here
    have hmb : Mem g.b (Blk 128 (faceL g)) (Fr ++ X) := (hnd'.appR X).mem (.there .here)
    obtain ⟨bA, oA, hA1, hbA, hcA⟩ := hA.spits.row p.length hlt
    obtain ⟨s, hs⟩ : ∃ s, g.s.spits[p.length] = s := ⟨_, rfl⟩
    rw [hs] at hcA
    have hsv := hv.sp s (by rw [← hs]; exact List.getElem_mem hlt)
    have hc0 : w0.cell? ⟨bA, oA + p.length * 3 + 1, none⟩ = some (.int .i64 s.lo) := RoAt hcA 1 _ rfl
    have hc1 : w0.cell? ⟨bA, oA + p.length * 3 + 1 + 1, none⟩ = some (.int .i64 s.hi) := RoAt hcA 2 _ rfl
    have hdrop : g.s.spits.drop p.length = s :: g.s.spits.drop (p.length + 1) := by rw [List.drop_eq_getElem_cons hlt, hs]
    have hp3 : p.length < 3 := by omega
    refine Tri.fgt ?_
    refine tri_of_WP Try.func109 rfl (n := _) rfl (by simp) ?_
    repeat' (first | (refine Znh ?_) | (refine GiW ?_; first | (refine Zsq fun K hK => ?_) | (refine ZrN 0 fun _ => ?_; refine Zal 5 fun b5 => ?_; refine Zv Zab ?_) | (refine ZrN 1 fun _ => ?_; refine Zv Zmi ?_; refine Zv Zld ?_; (first | (refine Zv Zxnp ?_) | (refine Zv Zxnf ?_)); refine Zv Zf0 ?_; refine Zv Zf0 ?_; refine Zv Zld ?_; refine Zv Zxlen ?_; refine Zv Zxeql ?_) | (refine ZrN 3 fun _ => ?_; refine Zv Zld ?_; (first | (refine Zv Zxnp ?_) | (refine Zv Zxnf ?_)); refine Zv Zf0 ?_; refine Zv Zf0 ?_; refine Zv Zld ?_; refine Zv Zmi ?_; refine Zv Zia ?_; refine Zv Zfa ?_; refine Zv Zf0 ?_; refine Zv Zld ?_; refine Zv Zai ?_) | (refine Zcd (fun hc => ?_) (fun hc => ?_) <;> (try (exfalso; omega))) | (with_reducible apply WP_skip) | (with_reducible apply WP_block)) | (refine Zhn ?_))
    have hseg : seg p (g.s.spits.drop p.length) = (vals (costR s)).flatMap fun v => seg (p ++ [v]) (g.s.spits.drop (p.length + 1)) := by rw [hdrop, seg_cons]
    refine WP_loop [7, 8, 30, 31, 32, 33, 34, 35, 36, 37, 38, 39, 40, 41, 42, 43, 44, 45, 46, 47, 48, 49, 50, 51, 52, 53] (fun q : Nat × Hp × Int => [(8, .int .i64 (s.lo + (q.1 : Int)))]) (fun q => (b5, Blk 86 (ints ((pad3 p).set p.length q.2.2))) :: (b2, Blk 143 [Y]) :: (b3, Blk 144 [.func (.func 109) #[] #[.pointer (some ⟨pb, 0, none⟩), .pointer (some ⟨b2, 0, none⟩), .pointer (some ⟨b3, 0, none⟩)]]) :: (q.2.1 ++ X))
      (fun q => q.1 ≤ (vals (costR s)).length ∧ J (pre ++ ((vals (costR s)).take q.1).flatMap fun v => seg (p ++ [v]) (g.s.spits.drop (p.length + 1))).length q.2.1) (fun q => (vals (costR s)).length - q.1) (0, Fr, 0) (.cons ((rfl : _ = Value.int .i64 s.lo).trans (by simp)) .nil) (by rw [pad3_zero hp3]; exact (by repeat (first | exact Wk.refl _ | apply Wk.keep1 | apply Wk.drop | apply Wk.sv | apply Wk.svD | apply Wk.appD))) ⟨Nat.zero_le _, by simpa using hJ⟩ ?_
    rintro ⟨c, F, x⟩ j ⟨hcl, hJc⟩
    dsimp only at hcl hJc ⊢
    have hvl := vals_length (costR s)
    unfold costR at hvl
    have hndc := hnd _ _ hJc
    have hmp' : Mem pb (Blk 73 [.pointer (some ⟨g.b, 0, none⟩)]) (F ++ X) := (hndc.appR X).mem .here
    have hmb' : Mem g.b (Blk 128 (faceL g)) (F ++ X) := (hndc.appR X).mem (.there .here)
    by_cases hct : c < (vals (costR s)).length
    · have hvc : (vals (costR s))[c] = s.lo + (c : Int) := vals_get (costR s) c hct
      have hlt2 : c < (s.hi - s.lo + 1).toNat := by unfold costR at hct; rw [hvl] at hct; exact hct
      have hset : setL (ints ((pad3 p).set p.length x)) (0 + p.length) [.int .i64 (s.lo + (c : Int))] = ints ((pad3 p).set p.length (s.lo + (c : Int))) := by rw [setL_ints, List.set_set]
      have hlen : (ints ((pad3 p).set p.length x)).length = 3 := by rw [ints_len, List.length_set, pad3_len (by omega)]
      have hlen2 : (ints ((pad3 p).set p.length (s.lo + (c : Int)))).length = 3 := by rw [ints_len, List.length_set, pad3_len (by omega)]
      have hpad : (pad3 p).set p.length (s.lo + (c : Int)) = pad3 (p ++ [s.lo + (c : Int)]) := pad3_set hp3 _
      have hsplit : (vals (costR s)).flatMap (fun v => seg (p ++ [v]) (g.s.spits.drop (p.length + 1))) = ((vals (costR s)).take c).flatMap (fun v => seg (p ++ [v]) (g.s.spits.drop (p.length + 1))) ++ (seg (p ++ [s.lo + (c : Int)]) (g.s.spits.drop (p.length + 1)) ++ ((vals (costR s)).drop (c + 1)).flatMap (fun v => seg (p ++ [v]) (g.s.spits.drop (p.length + 1)))) := by
        have h1 : vals (costR s) = (vals (costR s)).take c ++ ((vals (costR s))[c] :: (vals (costR s)).drop (c + 1)) := by rw [← List.drop_eq_getElem_cons hct, List.take_append_drop]
        rw [hvc] at h1
        conv => lhs; rw [h1]
        simp [List.flatMap_append]
      have htake : ((vals (costR s)).take (c + 1)).flatMap (fun v => seg (p ++ [v]) (g.s.spits.drop (p.length + 1))) = ((vals (costR s)).take c).flatMap (fun v => seg (p ++ [v]) (g.s.spits.drop (p.length + 1))) ++ seg (p ++ [s.lo + (c : Int)]) (g.s.spits.drop (p.length + 1)) := by
        rw [List.take_succ_eq_append_getElem hct, hvc]
        simp [List.flatMap_append]
      have hpl : (p ++ [s.lo + (c : Int)]).length = p.length + 1 := by simp
      have hpm : ∀ (A B C : Nat × (Obj → Prop)) (F : Hp), (A :: B :: C :: (F ++ X)).Perm (B :: C :: (F ++ A :: X)) := by
        intro A B C F
        refine (List.Perm.swap _ _ _).trans (.cons _ ?_)
        refine (List.Perm.swap _ _ _).trans (.cons _ ?_)
        exact (List.perm_middle (l₁ := F) (a := A) (l₂ := X)).symm
      have ihc := fun b5 => ih (p ++ [s.lo + (c : Int)]) (pre ++ ((vals (costR s)).take c).flatMap fun v => seg (p ++ [v]) (g.s.spits.drop (p.length + 1))) (((vals (costR s)).drop (c + 1)).flatMap (fun v => seg (p ++ [v]) (g.s.spits.drop (p.length + 1))) ++ post) F ((b5, Blk 86 (ints ((pad3 p).set p.length (s.lo + (c : Int))))) :: X) (by rw [hpl]; omega)
        (by rw [hxs, hseg, hsplit, hpl]; simp only [List.append_assoc]) hJc
      simp only [hpl, List.append_assoc, ← htake, ← hpad, Int.natCast_add, Int.natCast_one] at ihc
      have ihc' := fun b5 => Tri.pm (L := (b5, Blk 86 (ints ((pad3 p).set p.length (s.lo + (c : Int))))) :: (b2, Blk 143 [Y]) :: (b3, Blk 144 [.func (.func 109) #[] #[.pointer (some ⟨pb, 0, none⟩), .pointer (some ⟨b2, 0, none⟩), .pointer (some ⟨b3, 0, none⟩)]]) :: (F ++ X))
        (R' := fun x L' => ∃ v, x = .returned v ∧ ∃ (bv : Bool) (F' : Hp), v = .bool bv ∧ L' = (b5, Blk 86 (ints ((pad3 p).set p.length (s.lo + (c : Int))))) :: (b2, Blk 143 [Y]) :: (b3, Blk 144 [.func (.func 109) #[] #[.pointer (some ⟨pb, 0, none⟩), .pointer (some ⟨b2, 0, none⟩), .pointer (some ⟨b3, 0, none⟩)]]) :: (F' ++ X) ∧
          ((bv = true ∧ J (pre ++ ((vals (costR s)).take (c + 1)).flatMap fun v => seg (p ++ [v]) (g.s.spits.drop (p.length + 1))).length F') ∨ (bv = false ∧ Jx F'))) (ihc b5) (hpm _ _ _ F) (by
          rintro x L' ⟨v, rfl, bv, F', rfl, rfl, hc⟩
          exact ⟨_, (hpm _ _ _ F').symm, _, rfl, bv, F', rfl, rfl, hc⟩)
      repeat' (first | (refine GiP ?_; first | (refine Znh ?_) | (with_reducible refine Znl ?_)) | (refine GiW ?_; first | (refine Zsq fun K hK => ?_) | (refine ZrN 4 fun _ => ?_; refine Zv Zmi ?_; refine Zv Zld ?_; (first | (refine Zv Zxnp ?_) | (refine Zv Zxnf ?_)); refine Zv Zf0 ?_; refine Zv Zf0 ?_; refine Zv Zld ?_; refine Zv Zmi ?_; refine Zv Zia ?_; refine Zv Zfa ?_; refine Zv Zfa ?_; refine Zv Zld ?_; refine Zv Zxleq ?_) | (refine ZrN 6 fun _ => ?_; refine Zv Zmi ?_; refine Zv Zmi ?_; refine Zv Zf0 ?_; refine Zv ZiA ?_; (first | (refine Zst ?_) | (refine OPS_turnN (Turn_storeG rfl rfl (by repeat (first | exact Up.here | apply Up.there | apply Up.sv)) rfl (by simp only [List.length_singleton]; omega) hset rfl rfl) rfl rfl ?_))) | (refine ZrN 7 fun _ => ?_; refine Zv Zld ?_; refine Zv Zla ?_; refine Zv Zmi ?_; refine Zv Zxadd ?_; refine OPS_retKS (Enters_val (cf := []) (cc := [.pointer (some ⟨pb, 0, none⟩), .pointer (some ⟨b2, 0, none⟩), .pointer (some ⟨b3, 0, none⟩)]) rfl rfl) (ihc' b5) rfl rfl rfl (fun v52 L52 h52 => ?_); obtain ⟨bv, F', rfl, rfl, hc52⟩ := h52; refine Zv Zxnot ?_) | (refine ZrN 8 fun _ => ?_; refine Zv Zab ?_) | (refine ZrN 5 fun _ => ?_; refine Zv Zmi ?_; refine Zv Zxadd ?_; refine Zv Zai ?_) | (refine Zcd (fun hc => ?_) (fun hc => ?_) <;> (try (exfalso; omega))) | (with_reducible apply WP_skip) | (with_reducible apply WP_block) | (with_reducible apply WP_ret)) | (refine Zhn ?_) | (with_reducible apply QBlock_normal) | (refine Zhr ?_) | (with_reducible apply QBlock_ret) | (with_reducible apply QLoop_ret))
      · refine QBody_ret1 rfl (rfl : _ = Value.bool _) ⟨_, .drop (Wk.refl _), _, rfl, false, F', rfl, rfl, .inr ⟨rfl, ?_⟩⟩
        rcases hc52 with ⟨h, _⟩ | ⟨_, h⟩
        · rw [h] at hc; cases hc
        · exact h
      · rcases hc52 with ⟨_, hJ'⟩ | ⟨h, _⟩
        · exact QLoop_normal (c + 1, F', s.lo + (c : Int)) (.cons ((rfl : _ = Value.int .i64 (s.lo + (c : Int) + 1)).trans (by congr 1; omega)) .nil) (by repeat (first | exact Off.frame rfl | exact Off.refl _ _ | refine Off.frameT rfl rfl ?_ | refine Off.upd rfl ?_ | refine Off.updO rfl ?_)) (by repeat (first | exact Wk.refl _ | apply Wk.keep1 | apply Wk.drop | apply Wk.sv | apply Wk.svD | apply Wk.appD)) ⟨by dsimp only; omega, hJ'⟩ (by dsimp only; omega)
        · rw [h] at hc; cases hc
    · have hce : c = (vals (costR s)).length := by omega
      have hge : ¬ s.lo + (c : Int) ≤ s.hi := by rw [hce]; unfold costR; omega
      repeat' (first | (refine Znh ?_) | (refine GiW ?_; first | (refine Zsq fun K hK => ?_) | (refine ZrN 4 fun _ => ?_; refine Zv Zmi ?_; refine Zv Zld ?_; (first | (refine Zv Zxnp ?_) | (refine Zv Zxnf ?_)); refine Zv Zf0 ?_; refine Zv Zf0 ?_; refine Zv Zld ?_; refine Zv Zmi ?_; refine Zv Zia ?_; refine Zv Zfa ?_; refine Zv Zfa ?_; refine Zv Zld ?_; refine Zv Zxleq ?_) | (refine ZrN 9 fun _ => ?_; refine Zv Zab ?_) | (refine Zcd (fun hc => ?_) (fun hc => ?_) <;> (try (exfalso; omega))) | (with_reducible apply WP_exit) | (with_reducible apply WP_ret)) | (refine Zhn ?_) | (refine Zhx ?_) | (with_reducible apply QBlock_hit) | (with_reducible apply QLoop_exit))
      refine QBody_ret1 rfl (rfl : _ = Value.bool _) ⟨_, .drop (Wk.refl _), _, rfl, true, F, rfl, rfl, .inl ⟨rfl, ?_⟩⟩
      rw [hseg]
      rw [hce, List.take_length] at hJc
      exact hJc
end
end Go.Proofs.Ytkaadefndcbdnaa
