/- Package drain: its exported functions: Next, Ends. · Package drain: its exported functions: Water, Flow. -/
import Derived.Test.YtbhgpnbfdjoglaaA9
section
namespace Go.Proofs.Ytbhgpnbfdjoglaa
open Go.RowKit
theorem inN_nat {n : Nat} {x : Int} (h : inN n x = true) : ∃ j : Nat, x = j ∧ j < n := by
  simp only [inN, decide_eq_true_eq] at h
  exact ⟨x.toNat, by omega, by omega⟩
theorem twoB_nat {n : Nat} {x y : Int} (h : twoB n x y = true) : ∃ i j : Nat, x = i ∧ y = j ∧ i < n ∧ j < n ∧ i ≠ j := by
  simp only [twoB, Bool.and_eq_true, decide_eq_true_eq] at h
  obtain ⟨i, rfl, hi⟩ := inN_nat h.1.1
  obtain ⟨j, rfl, hj⟩ := inN_nat h.1.2
  exact ⟨i, j, rfl, rfl, hi, hj, by have := h.2; omega⟩
theorem ok_or {a b : Bool} (h : ¬(a = true ∧ b = true)) : a = false ∨ b = false := by
  cases a <;> cases b <;> simp_all
section
variable {P : Program} {N n : Nat} {w0 : World} {L : Hp} {r : Option Nat} {e : Env} {ds : List Deferred} {Q : Post} {ops : Array Oper} {rest : List Oper} {o : Oper}
theorem OPS_panK {f : FuncId} {args : Array Value} {ch : List PanicEntry} {K : Hp → Prop} (hv : Enters P e o f args) (hc : Tri P N w0 L f args fun x L' => x = .panicked ch ∧ K L') (hg : Region.wanted o (yieldE ops e) = true) (hnd : isDefer o.op = false)
    (h : ∀ L1, K L1 → Q (.panic ch) e ds L1) : OPS P r n N w0 ops (o :: rest) Q e ds L := by
  refine OPS_gen hg hnd fun a w hs he hd' hI => ?_
  rw [hv w]
  refine ⟨fun h => (by rw [FW_depth] at h; cases h), callsFW.2 ((hc w hI).mono ?_)⟩
  subst he
  rintro x w' ⟨L', hI', rfl, hk⟩
  exact ⟨hs, _, hI', by rw [hd']; exact h _ hk⟩
end
attribute [local irreducible] AnyO AnyB QAny QB EWalk AWalk Ev WP OPS QThen QBlock QScope QLoop QBody Val New Turn Tri Enters PostA Blk Ro
attribute [local irreducible] AnyC QC
section
variable {N : Nat} {w0 : World} {g : Fg} {ok : Bool} {q : FuncId} {cc : List Value} {L : Hp}
theorem open_ok (h : OpenR N w0 g ok q cc L) (h1 : vB g.d = true) (h2 : ok = true) : Tri Try.prog N w0 L 39 [drV g, .func (.func q) #[] cc.toArray].toArray fun x L' => ∃ v, x = .returned v ∧ ∃ b m, v = .pointer (some ⟨b, 0, none⟩) ∧ L' = Fk { g with b := b, m := m } [] ++ L := by
  refine Tri.mono h ?_
  rintro x L' (⟨_, _, b, m, rfl, rfl⟩ | ⟨_, h3, _⟩ | ⟨h3, _⟩)
  · exact ⟨_, rfl, b, m, rfl, rfl⟩
  · rw [h2] at h3; cases h3
  · rw [h1] at h3; cases h3
theorem open_no (h : OpenR N w0 g ok q cc L) (h1 : vB g.d = false ∨ ok = false) : Tri Try.prog N w0 L 39 [drV g, .func (.func q) #[] cc.toArray].toArray fun x L' => x = .panicked (stopE (errD g.d ok)) ∧ L' = L := by
  refine Tri.mono h ?_
  rintro x L' (⟨h2, h3, _⟩ | ⟨h2, h3, rfl, rfl⟩ | ⟨h3, rfl, rfl⟩)
  · rw [h2, h3] at h1; rcases h1 with h1 | h1 <;> cases h1
  · exact ⟨by simp [errD, h2, h3], rfl⟩
  · exact ⟨by simp [errD, h3], rfl⟩
end
theorem stopsNext : Stops 37 Try.f37 := ⟨Try.func37, ⟨_, _, _, _, _, rfl⟩, rfl, rfl⟩
theorem stopsEnds : Stops 45 Try.f45 := ⟨Try.func45, ⟨_, _, _, _, _, rfl⟩, rfl, rfl⟩
section
variable (N : Nat) (w0 : World)
/-- All at once, where there is no truth. -/
theorem banks_no (A X : Hp) (g : Fg) (hv : VD g.d) (hA : DrAt N w0 g) (h0 : someB g.d = false) (Ks : List (Nat × Ly)) (q : FuncId) [HasBody Try.prog q] (qc : List Value) :
    Tri Try.prog N w0 (A ++ (Fk g Ks ++ X)) 42 [.pointer (some ⟨g.b, 0, none⟩), .func (.func q) #[] qc.toArray].toArray fun x L' => x = .panicked (stopE 10) ∧ ∃ K', L' = A ++ (Fk g K' ++ X) := by
  have hkn := known_no N w0 A X g hv hA h0 Ks
  refine Tri.fgt ?_
  refine tri_of_WP Try.func42 rfl (n := _) rfl (by simp) ?_
  repeat' (first | (refine GiP ?_; first | (refine Znh ?_) | (with_reducible refine Znl ?_) | (refine Zatd 11 ?_; refine Zv Zxlen ?_; refine Zv Zmi ?_) | (refine Zatd 8 ?_; refine Zv Zai ?_) | (refine Zatd 5 ?_; refine Zv Zai ?_)) | (refine GiW ?_; first | (refine Zsq fun K hK => ?_) | (refine ZrN 0 fun _ => ?_; refine Zv Zai ?_) | (refine ZrN 1 fun _ => ?_; refine Zv Zai ?_) | (refine ZrN 2 fun _ => ?_; refine Zv Zmv ?_; refine OPS_panK (Enters_fn rfl) hkn rfl rfl (fun L10 h10 => ?_); obtain ⟨K10, rfl⟩ := h10) | (refine ZrN 3 fun _ => ?_; refine Zv Zxlss ?_) | (refine ZrN 4 fun _ => ?_; refine Zv Zia ?_; refine Zv Zla ?_; refine Zal 7 fun b7 => ?_; refine Zst ?_) | (refine ZrN 5 fun _ => ?_; refine Zv Zmv ?_; refine Zv Zmv ?_; refine Zv Zla ?_; refine Zv Zxbu ?_) | (refine ZrN 6 fun _ => ?_; refine Zv Zmi ?_; refine Zv Zxeql ?_) | (refine ZrN 7 fun _ => ?_; refine Zv Zmv ?_; (first | (refine Zv Zxnp ?_) | (refine Zv Zxnf ?_)); refine Zv Zf0 ?_; refine Zv Zf0 ?_; refine Zv Zld ?_; refine Zv Zxlen ?_; refine Zv Zai ?_) | (refine ZrN 8 fun _ => ?_; refine Zv Zmi ?_; refine Zv Zmi ?_) | (refine ZrN 9 fun _ => ?_; refine Zv Zxadd ?_; refine Zv Zmi ?_) | (refine ZrN 10 fun _ => ?_; refine Zv Zmi ?_; refine Zv Zai ?_) | (refine WP_cond_true rfl ?_) | (refine WP_cond_false rfl ?_) | (refine Zcd (fun hc => ?_) (fun hc => ?_) <;> (try (exfalso; omega))) | (with_reducible apply WP_skip) | (with_reducible apply WP_block) | (with_reducible apply WP_exit) | (with_reducible apply WP_ret)) | (refine Zhn ?_) | (with_reducible apply QBlock_normal) | (refine Zhx ?_) | (with_reducible apply QBlock_hit) | (refine Zqb ?_) | (with_reducible apply QLoop_exit) | (refine Zhr ?_) | (with_reducible apply QBlock_ret) | (with_reducible apply QLoop_ret) | (refine Zhp ?_) | (with_reducible apply QBlock_panic) | (with_reducible apply QLoop_panic))
  exact QBody_panic ⟨_, (by repeat (first | exact Wk.refl _ | apply Wk.keep1 | apply Wk.drop | apply Wk.sv | apply Wk.svD | apply Wk.appD)), rfl, K10, rfl⟩
theorem banks_no0 (X : Hp) (g : Fg) (hv : VD g.d) (hA : DrAt N w0 g) (h0 : someB g.d = false) (q : FuncId) [HasBody Try.prog q] (qc : List Value) :
    Tri Try.prog N w0 (Fk g [] ++ X) 42 [.pointer (some ⟨g.b, 0, none⟩), .func (.func q) #[] qc.toArray].toArray fun x L' => x = .panicked (stopE 10) ∧ L' = X := by
  refine Tri.fgt ((banks_no N w0 [] X g hv hA h0 [] q qc).mono ?_)
  rintro x L' ⟨h, K', rfl⟩
  exact ⟨_, .app (Fk g K') _, h, rfl⟩
theorem banks0 (X : Hp) (g : Fg) (hv : VD g.d) (hA : DrAt N w0 g) (h0 : someB g.d = true) (q : FuncId) [HasBody Try.prog q] (qc : List Value) (f : List Int → Option Nat) (hf : ∀ lv ∈ toldD g.d, ∀ n, f lv = some n → n < 5) (nd : Hp) (hN : Sub nd X)
    (hq : ∀ lv ∈ toldD g.d, ∀ bc L', Mem bc (Blk 3 (crs g.d.banks.length (nxt g.d.ways lv))) L' → Sub nd L' → Ret Try.prog N w0 L' q (.slice (some ⟨bc, 0, none⟩) g.d.banks.length g.d.banks.length :: qc).toArray (.int .i64 (codeO (f lv)))) :
    Tri Try.prog N w0 (Fk g [] ++ X) 42 [.pointer (some ⟨g.b, 0, none⟩), .func (.func q) #[] qc.toArray].toArray fun x L' => ∃ v, x = .returned v ∧ v = .int .i64 (orS ((toldD g.d).map fun lv => (f lv).getD g.d.banks.length) : Int) ∧ L' = X := by
  refine Tri.fgt ((banks_tri N w0 [] X g hv hA h0 [] q qc f hf nd (fun _ => Sub.mid (A := []) hN) hq).mono ?_)
  rintro x L' ⟨v, rfl, K', rfl, rfl⟩
  exact ⟨_, .app (Fk g K') _, _, rfl, rfl, rfl⟩
theorem Next2_ret (g : Fg) (b3 : Nat) (n : Int) (b m : Nat) (L' : Hp) (hS : Sub ((b, Blk 85 (bogL { g with b := b, m := m })) :: [(b3, Blk 3 [.int .i64 n])]) L') (hv : VD g.d) :
    Ret Try.prog N w0 L' 40 (.pointer (some ⟨b, 0, none⟩) :: [.pointer (some ⟨b3, 0, none⟩)]).toArray (.bool (inN g.d.banks.length n)) := by
  have hnb := hv.nb
  have m1 := hS.mem .here
  have m2 := hS.mem (.there .here)
  have hid := fun L hm => isBank_ret N w0 L { g with b := b, m := m } n (by show g.d.banks.length ≤ 1000; omega) hm
  refine tri_of_WP Try.func40 rfl (n := 7) rfl (by simp) ?_
  repeat' (first | (refine GiP ?_; first | (refine Znh ?_) | (with_reducible refine Znl ?_)) | (refine GiW ?_; first | (refine Zsq fun K hK => ?_) | (refine ZrN 0 fun _ => ?_; refine Zv Zab ?_) | (refine ZrN 1 fun _ => ?_; refine Zv Zmv ?_; refine Zv Zld ?_; refine Zcl (Enters_fn rfl) (hid _ (by repeat (first | exact Mem.here | assumption | apply Mem.there | apply Mem.sv | apply Mem.app))) ?_; refine Zv Zab ?_) | (with_reducible apply WP_ret)) | (refine Zhn ?_) | (refine Zhr ?_))
  exact QBody_ret1 rfl (rfl : _ = Value.bool _) ⟨rfl, rfl⟩
theorem Next3_ret (L : Hp) (n : Nat) (nx : Nat → Option Nat) (bc b3 : Nat) (j : Nat) (hj : j < n) (hm : Mem bc (Blk 3 (crs n nx)) L) (m2 : Mem b3 (Blk 3 [.int .i64 j]) L) :
    Ret Try.prog N w0 L 43 (.slice (some ⟨bc, 0, none⟩) n n :: [.pointer (some ⟨b3, 0, none⟩)]).toArray (.int .i64 (codeO (nx j))) := by
  have hc := crs_get (nx := nx) hj
  refine tri_of_WP Try.func43 rfl (n := 8) rfl (by simp) ?_
  repeat' (first | (refine GiP ?_; first | (refine Znh ?_) | (with_reducible refine Znl ?_)) | (refine GiW ?_; first | (refine Zsq fun K hK => ?_) | (refine ZrN 0 fun _ => ?_; refine Zv Zai ?_) | (refine ZrN 1 fun _ => ?_; refine Zv Zmv ?_; refine Zv Zld ?_; refine Zv Zia ?_; refine Zv Zld ?_; refine Zv Zai ?_) | (with_reducible apply WP_ret)) | (refine Zhn ?_) | (refine Zhr ?_))
  exact QBody_ret1 rfl (rfl : _ = Value.int _ _) ⟨rfl, rfl⟩
set_option maxHeartbeats 2000000 in
theorem Next_ret (L : Hp) (g : Fg) (hA : DrAt N w0 g) (bank : Int) :
    Ret Try.prog N w0 L 10 [drV g, .int .i64 bank].toArray (.tuple [.int .i64 ((NextV g.d bank : Nat) : Int), .int .i64 (errD g.d (inN g.d.banks.length bank))].toArray) := by
  refine Ret.fgt ?_
  refine tri_of_WPL Try.func10 rfl (n := _) rfl (by simp) ?_
  have hop : ∀ (b3 : Nat) (L : Hp), Sub [(b3, Blk 3 [.int .i64 bank])] L → OpenR N w0 g (inN g.d.banks.length bank) 40 [.pointer (some ⟨b3, 0, none⟩)] L := fun b3 L h =>
    open_tri N w0 L g hA _ 40 _ _ h (fun b m L' h h2 => Next2_ret N w0 g b3 bank b m L' h h2)
  by_cases hok : vB g.d = true ∧ inN g.d.banks.length bank = true
  · obtain ⟨hvb, hdo⟩ := hok
    have hv := VD_of hvb
    obtain ⟨j, rfl, hj⟩ := inN_nat hdo
    have hop' := fun b3 L h => open_ok (hop b3 L h) hvb hdo
    have hA' : ∀ b m, DrAt N w0 { g with b := b, m := m } := fun b m => ⟨hA.banks, hA.ways, hA.rights, hA.seen⟩
    have hnb := hv.nb
    cases h0 : someB g.d with
    | false =>
      have he : errD g.d (inN g.d.banks.length j) = 10 := errD_10 hvb hdo h0
      have hz : NextV g.d j = 0 := by unfold NextV; rw [he, if_neg (by omega)]
      have hbk := fun b m X qc => banks_no0 N w0 X { g with b := b, m := m } hv (hA' b m) h0 43 qc
      rw [he, hz]
      unfold drV drL at hop' ⊢
      repeat' (first | (refine GiP ?_; first | (refine Znh ?_) | (with_reducible refine Znl ?_) | (refine Zatd 4 ?_; refine Zv Zai ?_; refine Zst ?_)) | (refine GiW ?_; first | (refine Zsq fun K hK => ?_) | (refine ZrN 0 fun _ => ?_; refine Zal 2 fun b2 => ?_; refine Zal 3 fun b3 => ?_; refine Zv Zai ?_; refine Zal 5 fun b5 => ?_) | (refine ZrN 1 fun _ => ?_; refine Zv Val_makeFunc ?_; refine OPS_defer rfl ?_) | (refine ZrN 2 fun _ => ?_; refine Zv Zla ?_; refine Zv Val_makeFunc ?_; refine OPS_retKS (Enters_fn rfl) (hop' b3 _ (by repeat (first | exact Sub.refl _ | assumption | exact Sub.left | apply Sub.cons | apply Sub.sv | apply Sub.app))) rfl rfl rfl (fun v8 L8 h8 => ?_); obtain ⟨bb, mm, rfl, rfl⟩ := h8; refine Zv Val_makeFunc ?_; refine OPS_pan (Enters_fn rfl) (hbk bb mm _ _) rfl rfl ?_) | (with_reducible apply WP_ret)) | (refine Zhn ?_) | (refine Zhr ?_) | (refine Zhp ?_))
      all_goals ((try refine HThen.panic (by assumption) ?_); refine QLeave_panic ?_; refine Lv_stop1 N w0 stopsNext (by repeat (first | exact Up.here | apply Up.there | apply Up.sv)) ?_; refine Lv_nil rfl (.tmp (rfl : _ = Value.int _ _) (.cell1 rfl (by repeat (first | exact Mem.here | assumption | apply Mem.there | apply Mem.sv | apply Mem.app)) rfl .nil)) rfl ?_; exact ⟨rfl, (by repeat (first | exact Wk.refl _ | apply Wk.keep1 | apply Wk.drop | apply Wk.sv | apply Wk.svD | apply Wk.appD))⟩)
    | true =>
      have he : errD g.d (inN g.d.banks.length j) = 0 := errD_1 hvb hdo h0
      have hz : NextV g.d j = nextS g.d j := by unfold NextV; rw [he, if_pos rfl]; simp
      have hbk := fun b m b3 X hS => banks0 N w0 X { g with b := b, m := m } hv (hA' b m) h0 43 [.pointer (some ⟨b3, 0, none⟩)] (fun lv => nxt g.d.ways lv j) (fun lv hlv n hn => by
        have h1 := (nxt_dec hn).1
        have h2 := rowsD_len (toldD_mem.1 hlv).1
        have h3 : g.d.banks.length ≤ 5 := by omega
        dsimp only at h2
        omega) [(b3, Blk 3 [.int .i64 (j : Int)])] hS (fun lv _ bc L' hm hS' => Next3_ret N w0 L' g.d.banks.length (nxt g.d.ways lv) bc b3 j hj hm (hS'.mem .here))
      rw [he, hz]
      unfold nextS
      unfold drV drL at hop' ⊢
      repeat' (first | (refine GiP ?_; first | (refine Znh ?_) | (with_reducible refine Znl ?_)) | (refine GiW ?_; first | (refine Zsq fun K hK => ?_) | (refine ZrN 0 fun _ => ?_; refine Zal 2 fun b2 => ?_; refine Zal 3 fun b3 => ?_; refine Zv Zai ?_; refine Zal 5 fun b5 => ?_) | (refine ZrN 1 fun _ => ?_; refine Zv Val_makeFunc ?_; refine OPS_defer rfl ?_) | (refine ZrN 2 fun _ => ?_; refine Zv Zla ?_; refine Zv Val_makeFunc ?_; refine OPS_retKS (Enters_fn rfl) (hop' b3 _ (by repeat (first | exact Sub.refl _ | assumption | exact Sub.left | apply Sub.cons | apply Sub.sv | apply Sub.app))) rfl rfl rfl (fun v8 L8 h8 => ?_); obtain ⟨bb, mm, rfl, rfl⟩ := h8; refine Zv Val_makeFunc ?_; refine OPS_retKS (Enters_fn rfl) (hbk bb mm b3 _ (by repeat (first | exact Sub.refl _ | assumption | exact Sub.left | apply Sub.cons | apply Sub.sv | apply Sub.app))) rfl rfl rfl (fun v11 L11 h11 => ?_); obtain ⟨rfl, rfl⟩ := h11; refine Zv Zai ?_; refine Zst ?_) | (with_reducible apply WP_ret)) | (refine Zhn ?_) | (refine Zhr ?_))
      (refine QLeave_ret ?_; refine Lv_stop0 N w0 stopsNext ?_; refine Lv_nil rfl (.tmp (rfl : _ = Value.int _ _) (.cell1 rfl (by repeat (first | exact Mem.here | assumption | apply Mem.there | apply Mem.sv | apply Mem.app)) rfl .nil)) rfl ?_; exact ⟨rfl, (by repeat (first | exact Wk.refl _ | apply Wk.keep1 | apply Wk.drop | apply Wk.sv | apply Wk.svD | apply Wk.appD))⟩)
  · have hno := ok_or hok
    have hz : NextV g.d bank = 0 := by unfold NextV; rw [if_neg (errD_no hno)]
    have hop' := fun b3 L h => open_no (hop b3 L h) hno
    rw [hz]
    unfold drV drL at hop' ⊢
    repeat' (first | (refine GiP ?_; first | (refine Znh ?_) | (with_reducible refine Znl ?_) | (refine Zatd 10 ?_; refine Zv Val_makeFunc ?_) | (refine Zatd 4 ?_; refine Zv Zai ?_; refine Zst ?_)) | (refine GiW ?_; first | (refine Zsq fun K hK => ?_) | (refine ZrN 0 fun _ => ?_; refine Zal 2 fun b2 => ?_; refine Zal 3 fun b3 => ?_; refine Zv Zai ?_; refine Zal 5 fun b5 => ?_) | (refine ZrN 1 fun _ => ?_; refine Zv Val_makeFunc ?_; refine OPS_defer rfl ?_) | (refine ZrN 2 fun _ => ?_; refine Zv Zla ?_; refine Zv Val_makeFunc ?_; refine OPS_pan (Enters_fn rfl) (hop' b3 _ (by repeat (first | exact Sub.refl _ | assumption | exact Sub.left | apply Sub.cons | apply Sub.sv | apply Sub.app))) rfl rfl ?_) | (with_reducible apply WP_ret)) | (refine Zhn ?_) | (refine Zhr ?_) | (refine Zhp ?_))
    all_goals ((try refine HThen.panic (by assumption) ?_); refine QLeave_panic ?_; refine Lv_stop1 N w0 stopsNext (by repeat (first | exact Up.here | apply Up.there | apply Up.sv)) ?_; refine Lv_nil rfl (.tmp (rfl : _ = Value.int _ _) (.cell1 rfl (by repeat (first | exact Mem.here | assumption | apply Mem.there | apply Mem.sv | apply Mem.app)) rfl .nil)) rfl ?_; exact ⟨rfl, (by repeat (first | exact Wk.refl _ | apply Wk.keep1 | apply Wk.drop | apply Wk.sv | apply Wk.svD | apply Wk.appD))⟩)
theorem Ends2_ret (g : Fg) (b3 : Nat) (n : Int) (b m : Nat) (L' : Hp) (hS : Sub ((b, Blk 85 (bogL { g with b := b, m := m })) :: [(b3, Blk 3 [.int .i64 n])]) L') (hv : VD g.d) :
    Ret Try.prog N w0 L' 47 (.pointer (some ⟨b, 0, none⟩) :: [.pointer (some ⟨b3, 0, none⟩)]).toArray (.bool (inN g.d.banks.length n)) := by
  have hnb := hv.nb
  have m1 := hS.mem .here
  have m2 := hS.mem (.there .here)
  have hid := fun L hm => isBank_ret N w0 L { g with b := b, m := m } n (by show g.d.banks.length ≤ 1000; omega) hm
  refine tri_of_WP Try.func47 rfl (n := 7) rfl (by simp) ?_
  repeat' (first | (refine GiP ?_; first | (refine Znh ?_) | (with_reducible refine Znl ?_)) | (refine GiW ?_; first | (refine Zsq fun K hK => ?_) | (refine ZrN 0 fun _ => ?_; refine Zv Zab ?_) | (refine ZrN 1 fun _ => ?_; refine Zv Zmv ?_; refine Zv Zld ?_; refine Zcl (Enters_fn rfl) (hid _ (by repeat (first | exact Mem.here | assumption | apply Mem.there | apply Mem.sv | apply Mem.app))) ?_; refine Zv Zab ?_) | (with_reducible apply WP_ret)) | (refine Zhn ?_) | (refine Zhr ?_))
  exact QBody_ret1 rfl (rfl : _ = Value.bool _) ⟨rfl, rfl⟩
theorem Ends3_ret (L : Hp) (n : Nat) (hn : n ≤ 1000) (nx : Nat → Option Nat) (l : Nat → Int) (hd : ∀ x y, nx x = some y → y < n ∧ l y < l x) (bc b3 b6 : Nat) (j : Nat) (hj : j < n) (hm : Mem bc (Blk 3 (crs n nx)) L) (m2 : Mem b3 (Blk 3 [.int .i64 j]) L) (m3 : Mem b6 (Blk 79 [.func (.func 46) #[] #[]]) L) :
    Ret Try.prog N w0 L 48 (.slice (some ⟨bc, 0, none⟩) n n :: [.pointer (some ⟨b6, 0, none⟩), .pointer (some ⟨b3, 0, none⟩)]).toArray (.int .i64 (endN n nx j : Nat)) := by
  have he := fun L hm => end_ret N w0 L n hn nx l hd bc hm j hj
  refine tri_of_WP Try.func48 rfl (n := 9) rfl (by simp) ?_
  repeat' (first | (refine GiP ?_; first | (refine Znh ?_) | (with_reducible refine Znl ?_)) | (refine GiW ?_; first | (refine Zsq fun K hK => ?_) | (refine ZrN 0 fun _ => ?_; refine Zv Zai ?_) | (refine ZrN 1 fun _ => ?_; refine Zv Zld ?_; refine Zv Zmv ?_; refine Zv Zld ?_; refine Zcl (Enters_val rfl rfl) (he _ (by repeat (first | exact Mem.here | assumption | apply Mem.there | apply Mem.sv | apply Mem.app))) ?_; refine Zv Zai ?_) | (with_reducible apply WP_ret)) | (refine Zhn ?_) | (refine Zhr ?_))
  exact QBody_ret1 rfl (rfl : _ = Value.int _ _) ⟨rfl, rfl⟩
set_option maxHeartbeats 2000000 in
theorem Ends_ret (L : Hp) (g : Fg) (hA : DrAt N w0 g) (bank : Int) :
    Ret Try.prog N w0 L 13 [drV g, .int .i64 bank].toArray (.tuple [.int .i64 ((EndsV g.d bank : Nat) : Int), .int .i64 (errD g.d (inN g.d.banks.length bank))].toArray) := by
  refine Ret.fgt ?_
  refine tri_of_WPL Try.func13 rfl (n := _) rfl (by simp) ?_
  have hop : ∀ (b3 : Nat) (L : Hp), Sub [(b3, Blk 3 [.int .i64 bank])] L → OpenR N w0 g (inN g.d.banks.length bank) 47 [.pointer (some ⟨b3, 0, none⟩)] L := fun b3 L h =>
    open_tri N w0 L g hA _ 47 _ _ h (fun b m L' h h2 => Ends2_ret N w0 g b3 bank b m L' h h2)
  by_cases hok : vB g.d = true ∧ inN g.d.banks.length bank = true
  · obtain ⟨hvb, hdo⟩ := hok
    have hv := VD_of hvb
    obtain ⟨j, rfl, hj⟩ := inN_nat hdo
    have hop' := fun b3 L h => open_ok (hop b3 L h) hvb hdo
    have hA' : ∀ b m, DrAt N w0 { g with b := b, m := m } := fun b m => ⟨hA.banks, hA.ways, hA.rights, hA.seen⟩
    have hnb := hv.nb
    cases h0 : someB g.d with
    | false =>
      have he : errD g.d (inN g.d.banks.length j) = 10 := errD_10 hvb hdo h0
      have hz : EndsV g.d j = 0 := by unfold EndsV; rw [he, if_neg (by omega)]
      have hbk := fun b m X qc => banks_no0 N w0 X { g with b := b, m := m } hv (hA' b m) h0 48 qc
      rw [he, hz]
      unfold drV drL at hop' ⊢
      repeat' (first | (refine GiP ?_; first | (refine Znh ?_) | (with_reducible refine Znl ?_) | (refine Zatd 4 ?_; refine Zv Zai ?_; refine Zst ?_)) | (refine GiW ?_; first | (refine Zsq fun K hK => ?_) | (refine ZrN 0 fun _ => ?_; refine Zal 2 fun b2 => ?_; refine Zal 3 fun b3 => ?_; refine Zv Zai ?_; refine Zal 5 fun b5 => ?_) | (refine ZrN 1 fun _ => ?_; refine Zv Val_makeFunc ?_; refine OPS_defer rfl ?_) | (refine ZrN 2 fun _ => ?_; refine Zal 6 fun b6 => ?_; refine Zst ?_) | (refine ZrN 3 fun _ => ?_; refine Zv Zla ?_; refine Zv Val_makeFunc ?_; refine OPS_retKS (Enters_fn rfl) (hop' b3 _ (by repeat (first | exact Sub.refl _ | assumption | exact Sub.left | apply Sub.cons | apply Sub.sv | apply Sub.app))) rfl rfl rfl (fun v8 L8 h8 => ?_); obtain ⟨bb, mm, rfl, rfl⟩ := h8; refine Zv Val_makeFunc ?_; refine OPS_pan (Enters_fn rfl) (hbk bb mm _ _) rfl rfl ?_) | (with_reducible apply WP_ret)) | (refine Zhn ?_) | (refine Zhr ?_) | (refine Zhp ?_))
      all_goals ((try refine HThen.panic (by assumption) ?_); refine QLeave_panic ?_; refine Lv_stop1 N w0 stopsEnds (by repeat (first | exact Up.here | apply Up.there | apply Up.sv)) ?_; refine Lv_nil rfl (.tmp (rfl : _ = Value.int _ _) (.cell1 rfl (by repeat (first | exact Mem.here | assumption | apply Mem.there | apply Mem.sv | apply Mem.app)) rfl .nil)) rfl ?_; exact ⟨rfl, (by repeat (first | exact Wk.refl _ | apply Wk.keep1 | apply Wk.drop | apply Wk.sv | apply Wk.svD | apply Wk.appD))⟩)
    | true =>
      have he : errD g.d (inN g.d.banks.length j) = 0 := errD_1 hvb hdo h0
      have hz : EndsV g.d j = endsS g.d j := by unfold EndsV; rw [he, if_pos rfl]; simp
      have hbk := fun b m b3 b6 X hS => banks0 N w0 X { g with b := b, m := m } hv (hA' b m) h0 48 [.pointer (some ⟨b6, 0, none⟩), .pointer (some ⟨b3, 0, none⟩)] (fun lv => some (endN g.d.banks.length (nxt g.d.ways lv) j)) (fun lv hlv n hn => by
        have h2 := rowsD_len (toldD_mem.1 hlv).1
        have h1 : endN g.d.banks.length (nxt g.d.ways lv) j < g.d.banks.length := by
          dsimp only at h2
          rw [← h2]
          exact endF_lt (fun _ _ h => nxt_dec h) _ _ (by omega)
        have h3 : g.d.banks.length ≤ 5 := by omega
        simp only [Option.some.injEq] at hn
        omega) [(b6, Blk 79 [.func (.func 46) #[] #[]]), (b3, Blk 3 [.int .i64 (j : Int)])] hS (fun lv hlv bc L' hm hS' => Ends3_ret N w0 L' g.d.banks.length (by omega) (nxt g.d.ways lv) (lvl lv) (fun x y h => by have h2 := rowsD_len (toldD_mem.1 hlv).1; dsimp only at h2; rw [← h2]; exact nxt_dec h) bc b3 b6 j hj hm (hS'.mem (.there .here)) (hS'.mem .here))
      rw [he, hz]
      unfold endsS
      unfold drV drL at hop' ⊢
      repeat' (first | (refine GiP ?_; first | (refine Znh ?_) | (with_reducible refine Znl ?_)) | (refine GiW ?_; first | (refine Zsq fun K hK => ?_) | (refine ZrN 0 fun _ => ?_; refine Zal 2 fun b2 => ?_; refine Zal 3 fun b3 => ?_; refine Zv Zai ?_; refine Zal 5 fun b5 => ?_) | (refine ZrN 1 fun _ => ?_; refine Zv Val_makeFunc ?_; refine OPS_defer rfl ?_) | (refine ZrN 2 fun _ => ?_; refine Zal 6 fun b6 => ?_; refine Zst ?_) | (refine ZrN 3 fun _ => ?_; refine Zv Zla ?_; refine Zv Val_makeFunc ?_; refine OPS_retKS (Enters_fn rfl) (hop' b3 _ (by repeat (first | exact Sub.refl _ | assumption | exact Sub.left | apply Sub.cons | apply Sub.sv | apply Sub.app))) rfl rfl rfl (fun v8 L8 h8 => ?_); obtain ⟨bb, mm, rfl, rfl⟩ := h8; refine Zv Val_makeFunc ?_; refine OPS_retKS (Enters_fn rfl) (hbk bb mm b3 b6 _ (by repeat (first | exact Sub.refl _ | assumption | exact Sub.left | (with_reducible refine Sub.pick (by repeat (first | exact Pick.here | apply Pick.there)) ?_) | apply Sub.cons | apply Sub.sv | apply Sub.app))) rfl rfl rfl (fun v11 L11 h11 => ?_); obtain ⟨rfl, rfl⟩ := h11; refine Zv Zai ?_; refine Zst ?_) | (with_reducible apply WP_ret)) | (refine Zhn ?_) | (refine Zhr ?_))
      (refine QLeave_ret ?_; refine Lv_stop0 N w0 stopsEnds ?_; refine Lv_nil rfl (.tmp (rfl : _ = Value.int _ _) (.cell1 rfl (by repeat (first | exact Mem.here | assumption | apply Mem.there | apply Mem.sv | apply Mem.app)) rfl .nil)) rfl ?_; exact ⟨rfl, (by repeat (first | exact Wk.refl _ | apply Wk.keep1 | apply Wk.drop | apply Wk.sv | apply Wk.svD | apply Wk.appD))⟩)
  · have hno := ok_or hok
    have hz : EndsV g.d bank = 0 := by unfold EndsV; rw [if_neg (errD_no hno)]
    have hop' := fun b3 L h => open_no (hop b3 L h) hno
    rw [hz]
    unfold drV drL at hop' ⊢
    repeat' (first | (refine GiP ?_; first | (refine Znh ?_) | (with_reducible refine Znl ?_) | (refine Zatd 11 ?_; refine Zv Val_makeFunc ?_) | (refine Zatd 4 ?_; refine Zv Zai ?_; refine Zst ?_)) | (refine GiW ?_; first | (refine Zsq fun K hK => ?_) | (refine ZrN 0 fun _ => ?_; refine Zal 2 fun b2 => ?_; refine Zal 3 fun b3 => ?_; refine Zv Zai ?_; refine Zal 5 fun b5 => ?_) | (refine ZrN 1 fun _ => ?_; refine Zv Val_makeFunc ?_; refine OPS_defer rfl ?_) | (refine ZrN 2 fun _ => ?_; refine Zal 6 fun b6 => ?_; refine Zst ?_) | (refine ZrN 3 fun _ => ?_; refine Zv Zla ?_; refine Zv Val_makeFunc ?_; refine OPS_pan (Enters_fn rfl) (hop' b3 _ (by repeat (first | exact Sub.refl _ | assumption | exact Sub.left | apply Sub.cons | apply Sub.sv | apply Sub.app))) rfl rfl ?_) | (with_reducible apply WP_ret)) | (refine Zhn ?_) | (refine Zhr ?_) | (refine Zhp ?_))
    all_goals ((try refine HThen.panic (by assumption) ?_); refine QLeave_panic ?_; refine Lv_stop1 N w0 stopsEnds (by repeat (first | exact Up.here | apply Up.there | apply Up.sv)) ?_; refine Lv_nil rfl (.tmp (rfl : _ = Value.int _ _) (.cell1 rfl (by repeat (first | exact Mem.here | assumption | apply Mem.there | apply Mem.sv | apply Mem.app)) rfl .nil)) rfl ?_; exact ⟨rfl, (by repeat (first | exact Wk.refl _ | apply Wk.keep1 | apply Wk.drop | apply Wk.sv | apply Wk.svD | apply Wk.appD))⟩)
end
end Go.Proofs.Ytbhgpnbfdjoglaa
end

section
namespace Go.Proofs.Ytbhgpnbfdjoglaa
open Go.RowKit
theorem stopsWater : Stops 49 Try.f49 := ⟨Try.func49, ⟨_, _, _, _, _, rfl⟩, rfl, rfl⟩
theorem stopsFlow : Stops 54 Try.f54 := ⟨Try.func54, ⟨_, _, _, _, _, rfl⟩, rfl, rfl⟩
attribute [local irreducible] AnyO AnyB QAny QB EWalk AWalk Ev WP OPS QThen QBlock QScope QLoop QBody Val New Turn Tri Enters PostA Blk Ro
attribute [local irreducible] AnyC QC
section
variable (N : Nat) (w0 : World)
theorem hull_no (A X : Hp) (g : Fg) (hv : VD g.d) (hA : DrAt N w0 g) (h0 : someB g.d = false) (Ks : List (Nat × Ly)) (q : FuncId) (qc : List Value) :
    Tri Try.prog N w0 (A ++ (Fk g Ks ++ X)) 51 [.pointer (some ⟨g.b, 0, none⟩), .func (.func q) #[] qc.toArray].toArray fun x L' => x = .panicked (stopE 10) ∧ ∃ K', L' = A ++ (Fk g K' ++ X) := by
  have hkn := fun A => known_no N w0 A X g hv hA h0 Ks
  refine Tri.fgt ?_
  refine tri_of_WP Try.func51 rfl (n := _) rfl (by simp) ?_
  repeat' (first | (refine Znh ?_) | (refine GiW ?_; first | (refine Zsq fun K hK => ?_) | (refine ZrN 0 fun _ => ?_; refine Zal 4 fun b4 => ?_) | (refine ZrN 1 fun _ => ?_; refine Zv Zmv ?_; refine OPS_panK (Enters_fn rfl) (hkn ((b4, Blk 35 [.int .i64 0, .int .i64 0]) :: A)) rfl rfl (fun L10 h10 => ?_); obtain ⟨K10, rfl⟩ := h10)) | (refine Zhp ?_))
  exact QBody_panic ⟨_, .drop (Wk.refl _), rfl, K10, rfl⟩
theorem hull_no1 (x : Nat × (Obj → Prop)) (X : Hp) (g : Fg) (hv : VD g.d) (hA : DrAt N w0 g) (h0 : someB g.d = false) (q : FuncId) (qc : List Value) :
    Tri Try.prog N w0 (x :: (Fk g [] ++ X)) 51 [.pointer (some ⟨g.b, 0, none⟩), .func (.func q) #[] qc.toArray].toArray fun x L' => x = .panicked (stopE 10) ∧ L' = X := by
  refine Tri.fgt ((hull_no N w0 [x] X g hv hA h0 [] q qc).mono ?_)
  rintro y L' ⟨h, K', rfl⟩
  exact ⟨_, .drop (.app (Fk g K') _), h, rfl⟩
theorem hull1 (x : Nat × (Obj → Prop)) (X : Hp) (g : Fg) (hv : VD g.d) (hA : DrAt N w0 g) (h0 : someB g.d = true) (q : FuncId) [HasBody Try.prog q] (qc : List Value) (f : List Int → Sp) (nd : Hp) (hN : Sub nd X)
    (hq : ∀ lv ∈ toldD g.d, ∀ bc L', Mem bc (Blk 3 (crs g.d.banks.length (nxt g.d.ways lv))) L' → Sub (x :: (g.b, Blk 85 (bogL g)) :: nd) L' → Ret Try.prog N w0 L' q (.slice (some ⟨bc, 0, none⟩) g.d.banks.length g.d.banks.length :: qc).toArray (.agg (spL (f lv)).toArray)) :
    Tri Try.prog N w0 (x :: (Fk g [] ++ X)) 51 [.pointer (some ⟨g.b, 0, none⟩), .func (.func q) #[] qc.toArray].toArray fun x L' => ∃ v, x = .returned v ∧ v = .agg [.int .i64 (jn ((toldD g.d).map f)).1, .int .i64 (jn ((toldD g.d).map f)).2].toArray ∧ L' = X := by
  refine Tri.fgt ((hull_tri N w0 [x] X g hv hA h0 [] q qc f (x :: (g.b, Blk 85 (bogL g)) :: nd) ?_ hq).mono ?_)
  · intro K'
    obtain ⟨M, hM⟩ := hN
    refine ⟨(g.m, MapRel lks (GK g.d K')) :: KH g.d K' ++ M, ?_⟩
    refine List.Perm.cons _ (List.Perm.cons _ ?_)
    exact ((List.perm_append_comm_assoc nd ((g.m, MapRel lks (GK g.d K')) :: KH g.d K') M).trans (hM.symm.append_left _)).symm
  · rintro y L' ⟨v, rfl, K', rfl, rfl⟩
    exact ⟨_, .drop (.app (Fk g K') _), _, rfl, rfl, rfl⟩
theorem Water2_ret (g : Fg) (b3 : Nat) (n : Int) (b m : Nat) (L' : Hp) (hS : Sub ((b, Blk 85 (bogL { g with b := b, m := m })) :: [(b3, Blk 3 [.int .i64 n])]) L') (hv : VD g.d) :
    Ret Try.prog N w0 L' 50 (.pointer (some ⟨b, 0, none⟩) :: [.pointer (some ⟨b3, 0, none⟩)]).toArray (.bool (inN g.d.banks.length n)) := by
  have hnb := hv.nb
  have m1 := hS.mem .here
  have m2 := hS.mem (.there .here)
  have hid := fun L hm => isBank_ret N w0 L { g with b := b, m := m } n (by show g.d.banks.length ≤ 1000; omega) hm
  refine tri_of_WP Try.func50 rfl (n := 7) rfl (by simp) ?_
  repeat' (first | (refine Znh ?_) | (refine GiW ?_; first | (refine Zsq fun K hK => ?_) | (refine ZrN 0 fun _ => ?_; refine Zv Zab ?_) | (refine ZrN 1 fun _ => ?_; refine Zv Zmv ?_; refine Zv Zld ?_; refine Zcl (Enters_fn rfl) (hid _ (by repeat (first | exact Mem.here | assumption | apply Mem.there | apply Mem.sv | apply Mem.app))) ?_; refine Zv Zab ?_) | (with_reducible apply WP_ret)))
  exact QBody_ret1 rfl (rfl : _ = Value.bool _) ⟨rfl, rfl⟩
set_option maxHeartbeats 4000000 in
theorem Water3_ret (L : Hp) (g : Fg) (hv : VD g.d) (hA : DrAt N w0 g) (nx : Nat → Option Nat) (l : Nat → Int) (hd : ∀ x y, nx x = some y → y < g.d.banks.length ∧ l y < l x) (bc b3 b6 : Nat) (j : Nat) (hj : j < g.d.banks.length) (hm : Mem bc (Blk 3 (crs g.d.banks.length nx)) L) (m2 : Mem b3 (Blk 3 [.int .i64 j]) L) (m3 : Mem b6 (Blk 72 [.pointer (some ⟨g.b, 0, none⟩)]) L) (hb : Mem g.b (Blk 85 (bogL g)) L) :
    Ret Try.prog N w0 L 52 (.slice (some ⟨bc, 0, none⟩) g.d.banks.length g.d.banks.length :: [.pointer (some ⟨b6, 0, none⟩), .pointer (some ⟨b3, 0, none⟩)]).toArray (.agg (spL (watS g.d nx j)).toArray) := by
  have hwt := fun L hm => waters_tri N w0 L g.d hv g.A1 g.c1 hA.banks nx l hd bc hm
  have hcut : Cut (watL g.d nx g.d.banks.length) (0 + j * 2) 2 (spL (watS g.d nx j)) := Cut.of rfl (by omega) (fun i v hi => by rw [Nat.zero_add]; exact watL_get hj i v hi)
  unfold spL at hcut ⊢
  refine Ret.fgt ?_
  refine tri_of_WP Try.func52 rfl (n := _) rfl (by simp) ?_
  unfold bogL at hb
  repeat' (first | (refine GiP ?_; first | (refine Znh ?_) | (with_reducible refine Znl ?_) | (refine Zatd 11 ?_; refine OPS_retKS (Enters_fn rfl) (hwt _ (by repeat (first | exact Mem.here | assumption | apply Mem.there | apply Mem.sv | apply Mem.app))) rfl rfl rfl (fun v22 L22 h22 => ?_); obtain ⟨b22, rfl, rfl⟩ := h22) | (refine Zatd 13 ?_; refine Zv Zia ?_) | (refine Zatd 14 ?_; refine Zv (Val_loadN rfl (by repeat (first | exact Mem.here | assumption | apply Mem.there | apply Mem.sv | apply Mem.app)) hcut) ?_) | (refine Zatn ?_; refine Zst ?_)) | (refine GiW ?_; first | (refine Zsq fun K hK => ?_) | (refine ZrN 0 fun _ => ?_; refine Zal 4 fun b4 => ?_) | (with_reducible apply WP_ret) | (refine WP_drawnS (id := 1) [7] [0, 1, 2, 3, 4, 5, 7] [] [12] (k := 1) (k2 := 3) (by repeat (first | apply Sub.sv | apply Sub.keep | apply Sub.appK | exact Sub.refl _)) (by kernel_rfl) prog_mixed (by kernel_rfl) (by kernel_rfl) rfl ?_; refine Zew rfl Zmv ?_; (first | (refine Zew rfl (Val_loadN rfl (by repeat (first | exact Mem.here | assumption | apply Mem.there | apply Mem.sv | apply Mem.app)) hcut) ?_) | (refine Zew rfl Zld ?_)); (first | (refine Zew rfl Zxnp ?_) | (refine Zew rfl Zxnf ?_)); refine Zew rfl Zf0 ?_; refine Zew rfl Zf0 ?_; (first | (refine Zew rfl (Val_loadN rfl (by repeat (first | exact Mem.here | assumption | apply Mem.there | apply Mem.sv | apply Mem.app)) hcut) ?_) | (refine Zew rfl Zld ?_)); (first | (refine Zew rfl (Val_loadN rfl (by repeat (first | exact Mem.here | assumption | apply Mem.there | apply Mem.sv | apply Mem.app)) hcut) ?_) | (refine Zew rfl Zld ?_)))) | (with_reducible apply EWalk_nil) | (refine GiC ?_; first | (refine ZgC [0, 1, 2, 3, 4, 5, 7] ?_; refine ZC1 _ 6 [0, 1, 2, 3, 4, 5, 7, 6] ?_) | (refine ZgC [0, 1, 2, 3, 4, 5, 7, 6] ?_; refine ZCl _ ?_)) | (refine GiO ?_; first | (refine ZgO [0, 1, 2, 3, 4, 5, 7, 6] ?_; refine ZO1 _ 8 [0, 1, 2, 3, 4, 5, 7, 6, 8] ?_) | (refine ZgO [0, 1, 2, 3, 4, 5, 7, 6, 8] ?_; refine ZO1 _ 9 [0, 1, 2, 3, 4, 5, 7, 6, 8, 9] ?_) | (refine ZgO [0, 1, 2, 3, 4, 5, 7, 6, 8, 9] ?_; refine ZO1 _ 10 [0, 1, 2, 3, 4, 5, 7, 6, 8, 9, 10] ?_) | (refine ZgO [0, 1, 2, 3, 4, 5, 7, 6, 8, 9, 10] ?_; refine ZOd _ ?_; (try with_reducible apply noP_normal); (try with_reducible exact key.out))) | (refine Zhn ?_) | (refine AWalk_0 ?_) | (with_reducible apply QAny_normal) | (with_reducible apply QC_normal))
  exact QBody_res rfl (.cellN rfl (by repeat (first | exact Mem.here | assumption | apply Mem.there | apply Mem.sv | apply Mem.app)) (.here (.cons (.cons .nil))) .nil) rfl ⟨rfl, (by repeat (first | exact Wk.refl _ | apply Wk.keep1 | apply Wk.drop | apply Wk.sv | apply Wk.svD | apply Wk.appD))⟩
set_option maxHeartbeats 2000000 in
theorem Water_ret (L : Hp) (g : Fg) (hA : DrAt N w0 g) (bank : Int) :
    Ret Try.prog N w0 L 14 [drV g, .int .i64 bank].toArray (.tuple [.agg [.int .i64 (WaterV g.d bank).1, .int .i64 (WaterV g.d bank).2].toArray, .int .i64 (errD g.d (inN g.d.banks.length bank))].toArray) := by
  refine Ret.fgt ?_
  refine tri_of_WPL Try.func14 rfl (n := _) rfl (by simp) ?_
  have hop : ∀ (b3 : Nat) (L : Hp), Sub [(b3, Blk 3 [.int .i64 bank])] L → OpenR N w0 g (inN g.d.banks.length bank) 50 [.pointer (some ⟨b3, 0, none⟩)] L := fun b3 L h =>
    open_tri N w0 L g hA _ 50 _ _ h (fun b m L' h h2 => Water2_ret N w0 g b3 bank b m L' h h2)
  by_cases hok : vB g.d = true ∧ inN g.d.banks.length bank = true
  · obtain ⟨hvb, hdo⟩ := hok
    have hv := VD_of hvb
    obtain ⟨j, rfl, hj⟩ := inN_nat hdo
    have hop' := fun b3 L h => open_ok (hop b3 L h) hvb hdo
    have hA' : ∀ b m, DrAt N w0 { g with b := b, m := m } := fun b m => ⟨hA.banks, hA.ways, hA.rights, hA.seen⟩
    have hnb := hv.nb
    cases h0 : someB g.d with
    | false =>
      have he : errD g.d (inN g.d.banks.length j) = 10 := errD_10 hvb hdo h0
      have hz : WaterV g.d j = (0, 0) := by unfold WaterV; rw [he, if_neg (by omega)]
      have hbk := fun b m x X qc => hull_no1 N w0 x X { g with b := b, m := m } hv (hA' b m) h0 52 qc
      rw [he, hz]
      unfold drV drL at hop' ⊢
      repeat' (first | (refine Znh ?_) | (refine GiW ?_; first | (refine Zsq fun K hK => ?_) | (refine ZrN 0 fun _ => ?_; refine Zal 2 fun b2 => ?_; refine Zal 3 fun b3 => ?_; refine Zal 4 fun b4 => ?_; refine Zal 5 fun b5 => ?_) | (refine ZrN 1 fun _ => ?_; refine Zv Val_makeFunc ?_; refine OPS_defer rfl ?_) | (refine ZrN 2 fun _ => ?_; refine Zv Zla ?_; refine Zv Val_makeFunc ?_; refine OPS_retKS (Enters_fn rfl) (hop' b3 _ (by repeat (first | exact Sub.refl _ | assumption | exact Sub.left | apply Sub.cons | apply Sub.sv | apply Sub.app))) rfl rfl rfl (fun v8 L8 h8 => ?_); obtain ⟨bb, mm, rfl, rfl⟩ := h8; refine Zal 6 fun b6 => ?_; refine Zst ?_) | (refine ZrN 3 fun _ => ?_; refine Zv Zld ?_; refine Zv Val_makeFunc ?_; refine OPS_pan (Enters_fn rfl) (hbk bb mm _ _ _) rfl rfl ?_)) | (refine Zhp ?_))
      all_goals ((try refine HThen.panic (by assumption) ?_); refine QLeave_panic ?_; refine Lv_stop1 N w0 stopsWater (by repeat (first | exact Up.here | apply Up.there | apply Up.sv)) ?_; refine Lv_nil rfl (.cellN rfl (by repeat (first | exact Mem.here | assumption | apply Mem.there | apply Mem.sv | apply Mem.app)) (.here (.cons (.cons .nil))) (.cell1 rfl (by repeat (first | exact Mem.here | assumption | apply Mem.there | apply Mem.sv | apply Mem.app)) rfl .nil)) rfl ?_; exact ⟨rfl, (by repeat (first | exact Wk.refl _ | apply Wk.keep1 | apply Wk.drop | apply Wk.sv | apply Wk.svD | apply Wk.appD))⟩)
    | true =>
      have he : errD g.d (inN g.d.banks.length j) = 0 := errD_1 hvb hdo h0
      have hz : WaterV g.d j = waterS g.d j := by unfold WaterV; rw [he, if_pos rfl]; simp
      have hbk := fun b m b3 b6 X hS => hull1 N w0 (b6, Blk 72 [.pointer (some ⟨b, 0, none⟩)]) X { g with b := b, m := m } hv (hA' b m) h0 52 [.pointer (some ⟨b6, 0, none⟩), .pointer (some ⟨b3, 0, none⟩)] (fun lv => watS g.d (nxt g.d.ways lv) j) [(b3, Blk 3 [.int .i64 (j : Int)])] hS (fun lv hlv bc L' hm hS' => Water3_ret N w0 L' { g with b := b, m := m } hv (hA' b m) (nxt g.d.ways lv) (lvl lv) (fun x y h => by have h2 := rowsD_len (toldD_mem.1 hlv).1; dsimp only at h2 ⊢; rw [← h2]; exact nxt_dec h) bc b3 b6 j hj hm (hS'.mem (.there (.there .here))) (hS'.mem .here) (hS'.mem (.there .here)))
      rw [he, hz]
      unfold waterS
      obtain ⟨js, hjs⟩ : ∃ js, jn ((toldD g.d).map fun lv => watS g.d (nxt g.d.ways lv) j) = js := ⟨_, rfl⟩
      rw [hjs]
      dsimp only at hbk
      rw [hjs] at hbk
      unfold drV drL at hop' ⊢
      repeat' (first | (refine Znh ?_) | (refine GiW ?_; first | (refine Zsq fun K hK => ?_) | (refine ZrN 0 fun _ => ?_; refine Zal 2 fun b2 => ?_; refine Zal 3 fun b3 => ?_; refine Zal 4 fun b4 => ?_; refine Zal 5 fun b5 => ?_) | (refine ZrN 1 fun _ => ?_; refine Zv Val_makeFunc ?_; refine OPS_defer rfl ?_) | (refine ZrN 2 fun _ => ?_; refine Zv Zla ?_; refine Zv Val_makeFunc ?_; refine OPS_retKS (Enters_fn rfl) (hop' b3 _ (by repeat (first | exact Sub.refl _ | assumption | exact Sub.left | apply Sub.cons | apply Sub.sv | apply Sub.app))) rfl rfl rfl (fun v8 L8 h8 => ?_); obtain ⟨bb, mm, rfl, rfl⟩ := h8; refine Zal 6 fun b6 => ?_; refine Zst ?_) | (refine ZrN 3 fun _ => ?_; refine Zv Zld ?_; refine Zv Val_makeFunc ?_; refine OPS_retKS (Enters_fn rfl) (hbk bb mm b3 b6 _ (by repeat (first | exact Sub.refl _ | assumption | exact Sub.left | apply Sub.cons | apply Sub.sv | apply Sub.app))) rfl rfl rfl (fun v11 L11 h11 => ?_); obtain ⟨rfl, rfl⟩ := h11; refine Zst ?_; refine Zst ?_) | (with_reducible apply WP_ret)))
      (refine QLeave_ret ?_; refine Lv_stop0 N w0 stopsWater ?_; refine Lv_nil rfl (.cellN rfl (by repeat (first | exact Mem.here | assumption | apply Mem.there | apply Mem.sv | apply Mem.app)) (.here (.cons (.cons .nil))) (.cell1 rfl (by repeat (first | exact Mem.here | assumption | apply Mem.there | apply Mem.sv | apply Mem.app)) rfl .nil)) rfl ?_; exact ⟨rfl, (by repeat (first | exact Wk.refl _ | apply Wk.keep1 | apply Wk.drop | apply Wk.sv | apply Wk.svD | apply Wk.appD))⟩)
  · have hno := ok_or hok
    have hz : WaterV g.d bank = (0, 0) := by unfold WaterV; rw [if_neg (errD_no hno)]
    have hop' := fun b3 L h => open_no (hop b3 L h) hno
    rw [hz]
    unfold drV drL at hop' ⊢
    repeat' (first | (refine Znh ?_) | (refine GiW ?_; first | (refine Zsq fun K hK => ?_) | (refine ZrN 0 fun _ => ?_; refine Zal 2 fun b2 => ?_; refine Zal 3 fun b3 => ?_; refine Zal 4 fun b4 => ?_; refine Zal 5 fun b5 => ?_) | (refine ZrN 1 fun _ => ?_; refine Zv Val_makeFunc ?_; refine OPS_defer rfl ?_) | (refine ZrN 2 fun _ => ?_; refine Zv Zla ?_; refine Zv Val_makeFunc ?_; refine OPS_pan (Enters_fn rfl) (hop' b3 _ (by repeat (first | exact Sub.refl _ | assumption | exact Sub.left | apply Sub.cons | apply Sub.sv | apply Sub.app))) rfl rfl ?_)) | (refine Zhp ?_))
    all_goals ((try refine HThen.panic (by assumption) ?_); refine QLeave_panic ?_; refine Lv_stop1 N w0 stopsWater (by repeat (first | exact Up.here | apply Up.there | apply Up.sv)) ?_; refine Lv_nil rfl (.cellN rfl (by repeat (first | exact Mem.here | assumption | apply Mem.there | apply Mem.sv | apply Mem.app)) (.here (.cons (.cons .nil))) (.cell1 rfl (by repeat (first | exact Mem.here | assumption | apply Mem.there | apply Mem.sv | apply Mem.app)) rfl .nil)) rfl ?_; exact ⟨rfl, (by repeat (first | exact Wk.refl _ | apply Wk.keep1 | apply Wk.drop | apply Wk.sv | apply Wk.svD | apply Wk.appD))⟩)
theorem Flow2_ret (g : Fg) (b3 b4 : Nat) (n o : Int) (b m : Nat) (L' : Hp) (hS : Sub ((b, Blk 85 (bogL { g with b := b, m := m })) :: [(b3, Blk 3 [.int .i64 n]), (b4, Blk 3 [.int .i64 o])]) L') (hv : VD g.d) :
    Ret Try.prog N w0 L' 55 (.pointer (some ⟨b, 0, none⟩) :: [.pointer (some ⟨b3, 0, none⟩), .pointer (some ⟨b4, 0, none⟩)]).toArray (.bool (twoB g.d.banks.length n o)) := by
  have hnb := hv.nb
  have m1 := hS.mem .here
  have m2 := hS.mem (.there .here)
  have m3 := hS.mem (.there (.there .here))
  have hid := fun L hm => areTwo_ret N w0 L { g with b := b, m := m } n o (by show g.d.banks.length ≤ 1000; omega) hm
  refine tri_of_WP Try.func55 rfl (n := 9) rfl (by simp) ?_
  repeat' (first | (refine Znh ?_) | (refine GiW ?_; first | (refine Zsq fun K hK => ?_) | (refine ZrN 0 fun _ => ?_; refine Zv Zab ?_) | (refine ZrN 1 fun _ => ?_; refine Zv Zmv ?_; refine Zv Zld ?_; refine Zv Zld ?_; refine Zcl (Enters_fn rfl) (hid _ (by repeat (first | exact Mem.here | assumption | apply Mem.there | apply Mem.sv | apply Mem.app))) ?_; refine Zv Zab ?_) | (with_reducible apply WP_ret)))
  exact QBody_ret1 rfl (rfl : _ = Value.bool _) ⟨rfl, rfl⟩
theorem Flow3_ret (L : Hp) (g : Fg) (hv : VD g.d) (hA : DrAt N w0 g) (nx : Nat → Option Nat) (l : Nat → Int) (hd : ∀ x y, nx x = some y → y < g.d.banks.length ∧ l y < l x) (bc b3 b4 b6 : Nat) (i j : Nat) (hi : i < g.d.banks.length) (hm : Mem bc (Blk 3 (crs g.d.banks.length nx)) L) (m2 : Mem b3 (Blk 3 [.int .i64 i]) L) (m4 : Mem b4 (Blk 3 [.int .i64 j]) L) (m3 : Mem b6 (Blk 72 [.pointer (some ⟨g.b, 0, none⟩)]) L) (hb : Mem g.b (Blk 85 (bogL g)) L) :
    Ret Try.prog N w0 L 57 (.slice (some ⟨bc, 0, none⟩) g.d.banks.length g.d.banks.length :: [.pointer (some ⟨b6, 0, none⟩), .pointer (some ⟨b3, 0, none⟩), .pointer (some ⟨b4, 0, none⟩)]).toArray (.agg (spL (flowS g.d nx i j)).toArray) := by
  have hfl := fun L hm hb => flow_ret N w0 L g hv hA nx l hd bc hm hb i j hi
  unfold spL
  refine Ret.fgt ?_
  refine tri_of_WP Try.func57 rfl (n := _) rfl (by simp) ?_
  repeat' (first | (refine Znh ?_) | (refine GiW ?_; first | (refine Zsq fun K hK => ?_) | (refine ZrN 0 fun _ => ?_; refine Zal 5 fun b5 => ?_) | (refine ZrN 1 fun _ => ?_; refine Zv Zld ?_; refine Zv Zmv ?_; refine Zv Zld ?_; refine Zv Zld ?_; refine Zcl (Enters_fn rfl) (hfl _ (by repeat (first | exact Mem.here | assumption | apply Mem.there | apply Mem.sv | apply Mem.app)) (by repeat (first | exact Mem.here | assumption | apply Mem.there | apply Mem.sv | apply Mem.app))) ?_; refine Zst ?_) | (with_reducible apply WP_ret)))
  exact QBody_res rfl (.cellN rfl (by repeat (first | exact Mem.here | assumption | apply Mem.there | apply Mem.sv | apply Mem.app)) (.here (.cons (.cons .nil))) .nil) rfl ⟨rfl, (by repeat (first | exact Wk.refl _ | apply Wk.keep1 | apply Wk.drop | apply Wk.sv | apply Wk.svD | apply Wk.appD))⟩
set_option maxHeartbeats 2000000 in
theorem Flow_ret (L : Hp) (g : Fg) (hA : DrAt N w0 g) (a b : Int) :
    Ret Try.prog N w0 L 15 [drV g, .int .i64 a, .int .i64 b].toArray (.tuple [.agg [.int .i64 (FlowV g.d a b).1, .int .i64 (FlowV g.d a b).2].toArray, .int .i64 (errD g.d (twoB g.d.banks.length a b))].toArray) := by
  refine Ret.fgt ?_
  refine tri_of_WPL Try.func15 rfl (n := _) rfl (by simp) ?_
  have hop : ∀ (b4 b5 : Nat) (L : Hp), Sub [(b4, Blk 3 [.int .i64 a]), (b5, Blk 3 [.int .i64 b])] L → OpenR N w0 g (twoB g.d.banks.length a b) 55 [.pointer (some ⟨b4, 0, none⟩), .pointer (some ⟨b5, 0, none⟩)] L := fun b4 b5 L h =>
    open_tri N w0 L g hA _ 55 _ _ h (fun bb m L' h h2 => Flow2_ret N w0 g b4 b5 a b bb m L' h h2)
  by_cases hok : vB g.d = true ∧ twoB g.d.banks.length a b = true
  · obtain ⟨hvb, hdo⟩ := hok
    have hv := VD_of hvb
    obtain ⟨i, j, rfl, rfl, hi, hj, hij⟩ := twoB_nat hdo
    have hop' := fun b4 b5 L h => open_ok (hop b4 b5 L h) hvb hdo
    have hA' : ∀ b m, DrAt N w0 { g with b := b, m := m } := fun b m => ⟨hA.banks, hA.ways, hA.rights, hA.seen⟩
    have hnb := hv.nb
    cases h0 : someB g.d with
    | false =>
      have he : errD g.d (twoB g.d.banks.length i j) = 10 := errD_10 hvb hdo h0
      have hz : FlowV g.d i j = (0, 0) := by unfold FlowV; rw [he, if_neg (by omega)]
      have hbk := fun b m x X qc => hull_no1 N w0 x X { g with b := b, m := m } hv (hA' b m) h0 57 qc
      rw [he, hz]
      unfold drV drL at hop' ⊢
      repeat' (first | (refine Znh ?_) | (refine GiW ?_; first | (refine Zsq fun K hK => ?_) | (refine ZrN 0 fun _ => ?_; refine Zal 3 fun b3 => ?_; refine Zal 4 fun b4 => ?_; refine Zal 5 fun b5 => ?_; refine Zal 6 fun b6 => ?_; refine Zal 7 fun b7 => ?_) | (refine ZrN 1 fun _ => ?_; refine Zv Val_makeFunc ?_; refine OPS_defer rfl ?_) | (refine ZrN 2 fun _ => ?_; refine Zv Zla ?_; refine Zv Val_makeFunc ?_; refine OPS_retKS (Enters_fn rfl) (hop' b4 b5 _ (by repeat (first | exact Sub.refl _ | assumption | exact Sub.left | (with_reducible refine Sub.pick (by repeat (first | exact Pick.here | apply Pick.there)) ?_) | apply Sub.cons | apply Sub.sv | apply Sub.app))) rfl rfl rfl (fun v8 L8 h8 => ?_); obtain ⟨bb, mm, rfl, rfl⟩ := h8; refine Zal 8 fun b8 => ?_; refine Zst ?_) | (refine ZrN 3 fun _ => ?_; refine Zv Zld ?_; refine Zv Val_makeFunc ?_; refine OPS_pan (Enters_fn rfl) (hbk bb mm _ _ _) rfl rfl ?_)) | (refine Zhp ?_))
      all_goals ((try refine HThen.panic (by assumption) ?_); refine QLeave_panic ?_; refine Lv_stop1 N w0 stopsFlow (by repeat (first | exact Up.here | apply Up.there | apply Up.sv)) ?_; refine Lv_nil rfl (.cellN rfl (by repeat (first | exact Mem.here | assumption | apply Mem.there | apply Mem.sv | apply Mem.app)) (.here (.cons (.cons .nil))) (.cell1 rfl (by repeat (first | exact Mem.here | assumption | apply Mem.there | apply Mem.sv | apply Mem.app)) rfl .nil)) rfl ?_; exact ⟨rfl, (by repeat (first | exact Wk.refl _ | apply Wk.keep1 | apply Wk.drop | apply Wk.sv | apply Wk.svD | apply Wk.appD))⟩)
    | true =>
      have he : errD g.d (twoB g.d.banks.length i j) = 0 := errD_1 hvb hdo h0
      have hz : FlowV g.d i j = flowsS g.d i j := by unfold FlowV; rw [he, if_pos rfl]; simp
      have hbk := fun b m b4 b5 b8 X hS => hull1 N w0 (b8, Blk 72 [.pointer (some ⟨b, 0, none⟩)]) X { g with b := b, m := m } hv (hA' b m) h0 57 [.pointer (some ⟨b8, 0, none⟩), .pointer (some ⟨b4, 0, none⟩), .pointer (some ⟨b5, 0, none⟩)] (fun lv => flowS g.d (nxt g.d.ways lv) i j) [(b4, Blk 3 [.int .i64 (i : Int)]), (b5, Blk 3 [.int .i64 (j : Int)])] hS (fun lv hlv bc L' hm hS' => Flow3_ret N w0 L' { g with b := b, m := m } hv (hA' b m) (nxt g.d.ways lv) (lvl lv) (fun x y h => by have h2 := rowsD_len (toldD_mem.1 hlv).1; dsimp only at h2 ⊢; rw [← h2]; exact nxt_dec h) bc b4 b5 b8 i j hi hm (hS'.mem (.there (.there .here))) (hS'.mem (.there (.there (.there .here)))) (hS'.mem .here) (hS'.mem (.there .here)))
      rw [he, hz]
      unfold flowsS
      obtain ⟨js, hjs⟩ : ∃ js, jn ((toldD g.d).map fun lv => flowS g.d (nxt g.d.ways lv) i j) = js := ⟨_, rfl⟩
      rw [hjs]
      dsimp only at hbk
      rw [hjs] at hbk
      unfold drV drL at hop' ⊢
      repeat' (first | (refine Znh ?_) | (refine GiW ?_; first | (refine Zsq fun K hK => ?_) | (refine ZrN 0 fun _ => ?_; refine Zal 3 fun b3 => ?_; refine Zal 4 fun b4 => ?_; refine Zal 5 fun b5 => ?_; refine Zal 6 fun b6 => ?_; refine Zal 7 fun b7 => ?_) | (refine ZrN 1 fun _ => ?_; refine Zv Val_makeFunc ?_; refine OPS_defer rfl ?_) | (refine ZrN 2 fun _ => ?_; refine Zv Zla ?_; refine Zv Val_makeFunc ?_; refine OPS_retKS (Enters_fn rfl) (hop' b4 b5 _ (by repeat (first | exact Sub.refl _ | assumption | exact Sub.left | (with_reducible refine Sub.pick (by repeat (first | exact Pick.here | apply Pick.there)) ?_) | apply Sub.cons | apply Sub.sv | apply Sub.app))) rfl rfl rfl (fun v8 L8 h8 => ?_); obtain ⟨bb, mm, rfl, rfl⟩ := h8; refine Zal 8 fun b8 => ?_; refine Zst ?_) | (refine ZrN 3 fun _ => ?_; refine Zv Zld ?_; refine Zv Val_makeFunc ?_; refine OPS_retKS (Enters_fn rfl) (hbk bb mm b4 b5 b8 _ (by repeat (first | exact Sub.refl _ | assumption | exact Sub.left | (with_reducible refine Sub.pick (by repeat (first | exact Pick.here | apply Pick.there)) ?_) | apply Sub.cons | apply Sub.sv | apply Sub.app))) rfl rfl rfl (fun v11 L11 h11 => ?_); obtain ⟨rfl, rfl⟩ := h11; refine Zst ?_; refine Zst ?_) | (with_reducible apply WP_ret)))
      (refine QLeave_ret ?_; refine Lv_stop0 N w0 stopsFlow ?_; refine Lv_nil rfl (.cellN rfl (by repeat (first | exact Mem.here | assumption | apply Mem.there | apply Mem.sv | apply Mem.app)) (.here (.cons (.cons .nil))) (.cell1 rfl (by repeat (first | exact Mem.here | assumption | apply Mem.there | apply Mem.sv | apply Mem.app)) rfl .nil)) rfl ?_; exact ⟨rfl, (by repeat (first | exact Wk.refl _ | apply Wk.keep1 | apply Wk.drop | apply Wk.sv | apply Wk.svD | apply Wk.appD))⟩)
  · have hno := ok_or hok
    have hz : FlowV g.d a b = (0, 0) := by unfold FlowV; rw [if_neg (errD_no hno)]
    have hop' := fun b4 b5 L h => open_no (hop b4 b5 L h) hno
    rw [hz]
    unfold drV drL at hop' ⊢
    repeat' (first | (refine Znh ?_) | (refine GiW ?_; first | (refine Zsq fun K hK => ?_) | (refine ZrN 0 fun _ => ?_; refine Zal 3 fun b3 => ?_; refine Zal 4 fun b4 => ?_; refine Zal 5 fun b5 => ?_; refine Zal 6 fun b6 => ?_; refine Zal 7 fun b7 => ?_) | (refine ZrN 1 fun _ => ?_; refine Zv Val_makeFunc ?_; refine OPS_defer rfl ?_) | (refine ZrN 2 fun _ => ?_; refine Zv Zla ?_; refine Zv Val_makeFunc ?_; refine OPS_pan (Enters_fn rfl) (hop' b4 b5 _ (by repeat (first | exact Sub.refl _ | assumption | exact Sub.left | (with_reducible refine Sub.pick (by repeat (first | exact Pick.here | apply Pick.there)) ?_) | apply Sub.cons | apply Sub.sv | apply Sub.app))) rfl rfl ?_)) | (refine Zhp ?_))
    all_goals ((try refine HThen.panic (by assumption) ?_); refine QLeave_panic ?_; refine Lv_stop1 N w0 stopsFlow (by repeat (first | exact Up.here | apply Up.there | apply Up.sv)) ?_; refine Lv_nil rfl (.cellN rfl (by repeat (first | exact Mem.here | assumption | apply Mem.there | apply Mem.sv | apply Mem.app)) (.here (.cons (.cons .nil))) (.cell1 rfl (by repeat (first | exact Mem.here | assumption | apply Mem.there | apply Mem.sv | apply Mem.app)) rfl .nil)) rfl ?_; exact ⟨rfl, (by repeat (first | exact Wk.refl _ | apply Wk.keep1 | apply Wk.drop | apply Wk.sv | apply Wk.svD | apply Wk.appD))⟩)
end
end Go.Proofs.Ytbhgpnbfdjoglaa
end
