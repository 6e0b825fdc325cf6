/- Package drain: what is found of all truths: a set, a span. · Slices that are laid end to end. · Package drain: what is opened. -/
import Derived.Test.YtbhgpnbfdjoglaaA7
section
namespace Go.Proofs.Ytbhgpnbfdjoglaa
open Go.RowKit
theorem RdRows.sub {N : Nat} {w0 : World} {B L : Hp} {A : Option Addr} {sz : Nat} {rows : List (List Value)} (h : RdRows N w0 B A sz rows) (k : Sub B L) : RdRows N w0 L A sz rows := fun i hi => by
  obtain ⟨b, off, h1, h2⟩ := h i hi
  refine ⟨b, off, h1, fun j v hj w hI => ?_⟩
  obtain ⟨L0, k⟩ := k
  exact h2 j v hj w ((hI.perm (k.trans List.perm_append_comm)).wk (.app L0 B))
theorem Rd.sub {N : Nat} {w0 : World} {B L : Hp} {b o : Nat} {v : Value} (h : Rd N w0 B b o v) (k : Sub B L) : Rd N w0 L b o v := fun w hI => by
  obtain ⟨L0, k⟩ := k
  exact h w ((hI.perm (k.trans List.perm_append_comm)).wk (.app L0 B))
theorem told_row5 {d : Dr} (v : VD d) {lv : List Int} (h : lv ∈ toldD d) : ∃ a0 a1 a2 a3 a4 : Int, pad5 lv = [a0, a1, a2, a3, a4] := by
  have h5 := pad5_len (told_len v lv h)
  match hp : pad5 lv, h5 with
  | [a0, a1, a2, a3, a4], _ => exact ⟨a0, a1, a2, a3, a4, rfl⟩
theorem map_take_succ {α β : Type} (f : α → β) {l : List α} {k : Nat} (h : k < l.length) : (l.take (k + 1)).map f = (l.take k).map f ++ [f l[k]] := by
  rw [List.take_succ_eq_append_getElem h, List.map_append]; rfl
/-- The levels of all truths, and where they lie. -/
def KnV (N : Nat) (w0 : World) (A X : Hp) (g : Fg) (v : Value) (L' : Hp) : Prop := ∃ K' A2 Aa c, v = .slice Aa (toldD g.d).length c ∧ (∀ L', Sub A2 L' → RdRows N w0 L' Aa 5 ((toldD g.d).map rowL)) ∧ L' = A2 ++ (A ++ (Fk g K' ++ X))
attribute [local irreducible] AnyO AnyB QAny QB EWalk AWalk Ev WP OPS QThen QBlock QScope QLoop QBody Val New Turn Tri Enters PostA Blk Ro
attribute [local irreducible] AnyC QC
section
variable (N : Nat) (w0 : World)
theorem known_v (A X : Hp) (g : Fg) (hv : VD g.d) (hA : DrAt N w0 g) (Ks : List (Nat × Ly)) :
    Tri Try.prog N w0 (A ++ (Fk g Ks ++ X)) 61 [.pointer (some ⟨g.b, 0, none⟩)].toArray fun x L' => (someB g.d = true ∧ ∃ v, x = .returned v ∧ KnV N w0 A X g v L') ∨ (someB g.d = false ∧ x = .panicked (stopE 10) ∧ ∃ K', L' = A ++ (Fk g K' ++ X)) := by
  refine (known_tri N w0 A X g hv hA Ks).mono ?_
  rintro x L' (⟨h1, v, rfl, K', s, rfl, hs, rfl⟩ | h)
  · obtain ⟨Aa, c, h2, h3⟩ := RdRows.sv (E := 93) (by omega) hs
    refine .inl ⟨h1, _, rfl, K', svH 93 5 (toldD g.d).length ((toldD g.d).map rowL).flatten s [], Aa, c, h2, fun L' hk => ?_, svH_nil.symm⟩
    exact (h3 N w0 _ _ (Wk.refl _) rfl (fun r hr => by
      obtain ⟨lv, h4, rfl⟩ := List.mem_map.1 hr
      exact rowL_len (told_len hv lv h4))).sub hk
  · exact .inr h
/-- Known, where there is a truth. -/
theorem known_ok (A X : Hp) (g : Fg) (hv : VD g.d) (hA : DrAt N w0 g) (h0 : someB g.d = true) (Ks : List (Nat × Ly)) :
    Tri Try.prog N w0 (A ++ (Fk g Ks ++ X)) 61 [.pointer (some ⟨g.b, 0, none⟩)].toArray fun x L' => ∃ v, x = .returned v ∧ KnV N w0 A X g v L' :=
  (known_v N w0 A X g hv hA Ks).mono fun x L' h => h.elim (fun h => h.2) (fun h => by rw [h0] at h; exact absurd h.1 (by simp))
theorem known_no (A X : Hp) (g : Fg) (hv : VD g.d) (hA : DrAt N w0 g) (h0 : someB g.d = false) (Ks : List (Nat × Ly)) :
    Tri Try.prog N w0 (A ++ (Fk g Ks ++ X)) 61 [.pointer (some ⟨g.b, 0, none⟩)].toArray fun x L' => x = .panicked (stopE 10) ∧ ∃ K', L' = A ++ (Fk g K' ++ X) :=
  (known_v N w0 A X g hv hA Ks).mono fun x L' h => h.elim (fun h => by rw [h0] at h; exact absurd h.1 (by simp)) (fun h => h.2)
set_option maxHeartbeats 4000000 in
theorem banks_tri (A X : Hp) (g : Fg) (hv : VD g.d) (hA : DrAt N w0 g) (h0 : someB g.d = true) (Ks : List (Nat × Ly)) (q : FuncId) [HasBody Try.prog q] (qc : List Value) (f : List Int → Option Nat) (hf : ∀ lv ∈ toldD g.d, ∀ n, f lv = some n → n < 5) (nd : Hp) (hN : ∀ K', Sub nd (A ++ (Fk g K' ++ X)))
    (hq : ∀ lv ∈ toldD g.d, ∀ bc L', Mem bc (Blk 3 (crs g.d.banks.length (nxt g.d.ways lv))) L' → Sub nd L' → Ret Try.prog N w0 L' q (.slice (some ⟨bc, 0, none⟩) g.d.banks.length g.d.banks.length :: qc).toArray (.int .i64 (codeO (f lv)))) :
    Tri Try.prog N w0 (A ++ (Fk g Ks ++ X)) 42 [.pointer (some ⟨g.b, 0, none⟩), .func (.func q) #[] qc.toArray].toArray fun x L' => ∃ v, x = .returned v ∧ ∃ K', v = .int .i64 (orS ((toldD g.d).map fun lv => (f lv).getD g.d.banks.length) : Int) ∧ L' = A ++ (Fk g K' ++ X) := by
  have hnb := hv.nb
  have hcnt := toldD_count hv
  have hkn := known_ok N w0 A X g hv hA h0 Ks
  have hr5 := fun lv h => told_row5 hv (lv := lv) h
  have hor : ∀ k, orS (((toldD g.d).take k).map fun lv => (f lv).getD g.d.banks.length) < 2 ^ 6 := fun k => orS_lt fun n hn => by
    obtain ⟨lv, h1, rfl⟩ := List.mem_map.1 hn
    cases hz : f lv with
    | none => simp only [Option.getD_none]; omega
    | some z =>
      have := hf lv (List.mem_of_mem_take h1) z hz
      simp only [Option.getD_some]; omega
  have hly := fun lv (h : lv ∈ toldD g.d) => LyOk0 hv (toldD_mem.1 h).1
  unfold KnV at hkn
  obtain ⟨tl, htl⟩ : ∃ tl, toldD g.d = tl := ⟨_, rfl⟩
  rw [htl] at hcnt hkn hr5 hor hly hf hq ⊢
  refine Tri.fgt ?_
  refine tri_of_WP Try.func42 rfl (n := _) rfl (by simp) ?_
  repeat' (first | (refine GiP ?_; first | (refine Znh ?_) | (with_reducible refine Znl ?_)) | (refine GiW ?_; first | (refine Zsq fun K hK => ?_) | (refine ZrN 0 fun _ => ?_; refine Zv Zai ?_) | (refine ZrN 1 fun _ => ?_; refine Zv Zai ?_) | (refine ZrN 2 fun _ => ?_; refine Zv Zmv ?_; refine OPS_retKS (Enters_fn rfl) hkn rfl rfl rfl (fun v10 L10 h10 => ?_); obtain ⟨K10, A2, Aa, c10, rfl, hrd, rfl⟩ := h10; refine Zv Zxlen ?_; refine Zv Zmi ?_) | (refine WP_cond_true rfl ?_) | (refine WP_cond_false rfl ?_) | (refine Zcd (fun hc => ?_) (fun hc => ?_) <;> (try (exfalso; omega))) | (with_reducible apply WP_skip) | (with_reducible apply WP_block) | (with_reducible apply WP_exit) | (with_reducible apply WP_ret)) | (refine Zhn ?_) | (with_reducible apply QBlock_normal) | (refine Zhx ?_) | (with_reducible apply QBlock_hit) | (refine Zqb ?_) | (with_reducible apply QLoop_exit) | (refine Zhr ?_) | (with_reducible apply QBlock_ret) | (with_reducible apply QLoop_ret))
  refine WP_loop [5, 7, 8, 12, 13, 14, 15, 16, 17, 18, 19, 20, 21, 22, 23, 24, 25, 26, 27, 28, 29, 30, 31, 32, 33, 34] (fun st : Nat × List (Nat × Ly) => [(12, .int .i64 (st.1 : Int)), (5, .int .i64 (orS ((tl.take st.1).map fun lv => (f lv).getD g.d.banks.length) : Int))]) (fun st => A2 ++ (A ++ (Fk g st.2 ++ X))) (fun st => st.1 ≤ tl.length) (fun st => tl.length - st.1) (0, K10) (.cons rfl (.cons rfl .nil)) (Wk.refl _) (Nat.zero_le _) ?_
  rintro ⟨k, K1⟩ j hk
  dsimp only at hk ⊢
  by_cases hlt : k < tl.length
  · have hmem := List.getElem_mem hlt
    have hSA : ∀ K', Sub A2 (A2 ++ (A ++ (Fk g K' ++ X))) := fun _ => .left
    have hSN : ∀ K', Sub nd (A2 ++ (A ++ (Fk g K' ++ X))) := fun K' => .app A2 (hN K')
    have hmk := map_take_succ (fun lv => (f lv).getD g.d.banks.length) hlt
    obtain ⟨lv, hlv⟩ : ∃ lv, tl[k] = lv := ⟨_, rfl⟩
    have hrow := fun L' h => (hrd L' h).row k hlt
    rw [hlv] at hmem hrow hmk
    obtain ⟨a0, a1, a2, a3, a4, h5⟩ := hr5 lv hmem
    have hrl : rowL lv = [.int .i64 a0, .int .i64 a1, .int .i64 a2, .int .i64 a3, .int .i64 a4] := by unfold rowL; rw [h5]; rfl
    rw [hrl] at hrow
    obtain ⟨bA, oA, hAa, -⟩ := hrow _ (hSA K1)
    have hrd3 : ∀ L', Sub A2 L' → ∀ j v, [Value.int .i64 a0, .int .i64 a1, .int .i64 a2, .int .i64 a3, .int .i64 a4][j]? = some v → Rd N w0 L' bA (oA + k * 5 + j) v := by
      intro L' hL j v hj
      obtain ⟨b', o', h6, h7⟩ := hrow L' hL
      rw [hAa] at h6
      simp only [Option.some.injEq, Addr.mk.injEq, and_true] at h6
      obtain ⟨rfl, rfl⟩ := h6
      exact h7 j v hj
    have hcr := fun b7 => course_at N w0 ((b7, Blk 93 [.int .i64 a0, .int .i64 a1, .int .i64 a2, .int .i64 a3, .int .i64 a4]) :: (A2 ++ A)) X g hv hA K1 (lv, 0, 0, 0) (hly lv hmem)
    unfold keyL at hcr
    dsimp only at hcr
    rw [h5] at hcr
    unfold ints at hcr
    simp only [List.map_cons, List.map_nil, List.cons_append, List.nil_append, List.append_assoc] at hcr
    have hqc := hq lv hmem
    obtain ⟨z, hz⟩ : ∃ z, (f lv).getD g.d.banks.length = z := ⟨_, rfl⟩
    have hzl : z < 6 := by
      rw [← hz]
      cases hfz : f lv with
      | none => simp only [Option.getD_none]; omega
      | some y =>
        have := hf lv hmem y hfz
        simp only [Option.getD_some]; omega
    have hor1 := hor k
    have hor2 : orS ((tl.take (k + 1)).map fun lv => (f lv).getD g.d.banks.length) = orS ((tl.take k).map fun lv => (f lv).getD g.d.banks.length) ||| 2 ^ z := by rw [hmk, orS_snoc, hz]
    have hp6 : 2 ^ z ≤ 2 ^ 5 := Nat.pow_le_pow_right (by omega) (by omega)
    obtain ⟨S, hS⟩ : ∃ S, orS ((tl.take k).map fun lv => (f lv).getD g.d.banks.length) = S := ⟨_, rfl⟩
    rw [hS] at hor1 hor2 ⊢
    have hmb : ∀ K', Mem g.b (Blk 85 (bogL g)) (A2 ++ (A ++ (Fk g K' ++ X))) := fun K' => .app A2 (mem_fk fk_bog)
    unfold bogL at hmb
    have hmc : ∀ K' bc, (bc, (lv, 0, 0, 0)) ∈ K' → Mem bc (Blk 3 (crs g.d.banks.length (nxt g.d.ways lv))) (A2 ++ (A ++ (Fk g K' ++ X))) := fun K' bc h => by
      have := mem_fk (A := A) (X := X) (fk_crs (g := g) h)
      rw [crsK0] at this
      exact .app A2 this
    cases hfz : f lv with
    | none =>
      have hzn : z = g.d.banks.length := by rw [← hz, hfz]; rfl
      subst hzn
      have hqn : ∀ bc L', Mem bc (Blk 3 (crs g.d.banks.length (nxt g.d.ways lv))) L' → Sub nd L' → Ret Try.prog N w0 L' q (.slice (some ⟨bc, 0, none⟩) g.d.banks.length g.d.banks.length :: qc).toArray (.int .i64 (-1)) := fun bc L' h1 h2 => by have := hqc bc L' h1 h2; rw [hfz] at this; exact this
      repeat' (first | (refine GiP ?_; first | (refine Znh ?_) | (with_reducible refine Znl ?_)) | (refine GiW ?_; first | (refine Zsq fun K hK => ?_) | (refine ZrN 3 fun _ => ?_; refine Zv Zxlss ?_) | (refine ZrN 4 fun _ => ?_; refine Zv Zia ?_; (first | (refine Zv (Val_loadDN rfl (hrd3 _ (by repeat (first | exact Sub.refl _ | assumption | exact Sub.left | apply Sub.cons | apply Sub.sv | apply Sub.app))) rfl) ?_) | (refine Zv Zla ?_)); refine Zal 7 fun b7 => ?_; refine Zst ?_) | (refine ZrN 5 fun _ => ?_; refine Zv Zmv ?_; refine Zv Zmv ?_; (first | (refine Zv (Val_loadDN rfl (hrd3 _ (by repeat (first | exact Sub.refl _ | assumption | exact Sub.left | apply Sub.cons | apply Sub.sv | apply Sub.app))) rfl) ?_) | (refine Zv Zla ?_)); refine Zv Zxbu ?_; refine OPS_retKS (Enters_fn rfl) (hcr b7) rfl rfl rfl (fun v20 L20 h20 => ?_); obtain ⟨K2, bc, rfl, hmK, rfl⟩ := h20; have hmc2 := hmc K2 bc hmK; have hmb2 := hmb K2; have hSN2 := hSN K2; refine Zcl (Enters_val rfl rfl) (hqn bc _ (by repeat (first | exact Mem.here | assumption | apply Mem.there | apply Mem.sv | apply Mem.app)) (by repeat (first | exact Sub.refl _ | assumption | exact Sub.left | apply Sub.cons | apply Sub.sv | apply Sub.app))) ?_; refine Zv Zai ?_) | (refine ZrN 6 fun _ => ?_; refine Zv Zmi ?_; refine Zv Zxeql ?_) | (refine ZrN 7 fun _ => ?_; refine Zv Zmv ?_; (first | (refine Zv Zxnp ?_) | (refine Zv Zxnf ?_)); refine Zv Zf0 ?_; refine Zv Zf0 ?_; (first | (refine Zv (Val_loadDN rfl (hrd3 _ (by repeat (first | exact Sub.refl _ | assumption | exact Sub.left | apply Sub.cons | apply Sub.sv | apply Sub.app))) rfl) ?_) | (refine Zv Zld ?_)); refine Zv Zxlen ?_; refine Zv Zai ?_) | (refine ZrN 8 fun _ => ?_; refine Zv Zmi ?_; refine Zv Zmi ?_; refine Zv (Val_shlS (i := g.d.banks.length) rfl rfl (by omega)) ?_; refine Zv (Val_orS rfl rfl (by omega) (by omega)) ?_; refine Zv Zai ?_) | (refine ZrN 9 fun _ => ?_; refine Zv Zxadd ?_; refine Zv Zmi ?_) | (refine WP_cond_true rfl ?_) | (refine WP_cond_false rfl ?_) | (refine Zcd (fun hc => ?_) (fun hc => ?_) <;> (try (exfalso; omega))) | (with_reducible apply WP_skip) | (with_reducible apply WP_block) | (with_reducible apply WP_exit) | (with_reducible apply WP_ret)) | (refine Zhn ?_) | (with_reducible apply QBlock_normal) | (refine Zhx ?_) | (with_reducible apply QBlock_hit) | (refine Zqb ?_) | (with_reducible apply QLoop_exit) | (refine Zhr ?_) | (with_reducible apply QBlock_ret) | (with_reducible apply QLoop_ret))
      exact QLoop_normal (k + 1, K2) (.cons rfl (.cons (by dsimp only; rw [hor2]; rfl) .nil)) (by repeat (first | exact Off.frame rfl | exact Off.refl _ _ | refine Off.frameT rfl rfl ?_ | refine Off.upd rfl ?_ | refine Off.updO rfl ?_)) (by repeat (first | exact Wk.refl _ | apply Wk.keep1 | apply Wk.drop | apply Wk.sv | apply Wk.svD | apply Wk.appD)) (by dsimp only; omega) (by dsimp only; omega)
    | some y =>
      have hzn : z = y := by rw [← hz, hfz]; rfl
      subst hzn
      have hqn : ∀ bc L', Mem bc (Blk 3 (crs g.d.banks.length (nxt g.d.ways lv))) L' → Sub nd L' → Ret Try.prog N w0 L' q (.slice (some ⟨bc, 0, none⟩) g.d.banks.length g.d.banks.length :: qc).toArray (.int .i64 (z : Int)) := fun bc L' h1 h2 => by have := hqc bc L' h1 h2; rw [hfz] at this; exact this
      repeat' (first | (refine GiP ?_; first | (refine Znh ?_) | (with_reducible refine Znl ?_)) | (refine GiW ?_; first | (refine Zsq fun K hK => ?_) | (refine ZrN 3 fun _ => ?_; refine Zv Zxlss ?_) | (refine ZrN 4 fun _ => ?_; refine Zv Zia ?_; (first | (refine Zv (Val_loadDN rfl (hrd3 _ (by repeat (first | exact Sub.refl _ | assumption | exact Sub.left | apply Sub.cons | apply Sub.sv | apply Sub.app))) rfl) ?_) | (refine Zv Zla ?_)); refine Zal 7 fun b7 => ?_; refine Zst ?_) | (refine ZrN 5 fun _ => ?_; refine Zv Zmv ?_; refine Zv Zmv ?_; (first | (refine Zv (Val_loadDN rfl (hrd3 _ (by repeat (first | exact Sub.refl _ | assumption | exact Sub.left | apply Sub.cons | apply Sub.sv | apply Sub.app))) rfl) ?_) | (refine Zv Zla ?_)); refine Zv Zxbu ?_; refine OPS_retKS (Enters_fn rfl) (hcr b7) rfl rfl rfl (fun v20 L20 h20 => ?_); obtain ⟨K2, bc, rfl, hmK, rfl⟩ := h20; have hmc2 := hmc K2 bc hmK; have hmb2 := hmb K2; have hSN2 := hSN K2; refine Zcl (Enters_val rfl rfl) (hqn bc _ (by repeat (first | exact Mem.here | assumption | apply Mem.there | apply Mem.sv | apply Mem.app)) (by repeat (first | exact Sub.refl _ | assumption | exact Sub.left | apply Sub.cons | apply Sub.sv | apply Sub.app))) ?_; refine Zv Zai ?_) | (refine ZrN 6 fun _ => ?_; refine Zv Zmi ?_; refine Zv Zxeql ?_) | (refine ZrN 8 fun _ => ?_; refine Zv Zmi ?_; refine Zv Zmi ?_; refine Zv (Val_shlS (i := z) rfl rfl (by omega)) ?_; refine Zv (Val_orS rfl rfl (by omega) (by omega)) ?_; refine Zv Zai ?_) | (refine ZrN 9 fun _ => ?_; refine Zv Zxadd ?_; refine Zv Zmi ?_) | (refine WP_cond_true rfl ?_) | (refine WP_cond_false rfl ?_) | (refine Zcd (fun hc => ?_) (fun hc => ?_) <;> (try (exfalso; omega))) | (with_reducible apply WP_skip) | (with_reducible apply WP_block) | (with_reducible apply WP_exit) | (with_reducible apply WP_ret)) | (refine Zhn ?_) | (with_reducible apply QBlock_normal) | (refine Zhx ?_) | (with_reducible apply QBlock_hit) | (refine Zqb ?_) | (with_reducible apply QLoop_exit) | (refine Zhr ?_) | (with_reducible apply QBlock_ret) | (with_reducible apply QLoop_ret))
      exact QLoop_normal (k + 1, K2) (.cons rfl (.cons (by dsimp only; rw [hor2]; rfl) .nil)) (by repeat (first | exact Off.frame rfl | exact Off.refl _ _ | refine Off.frameT rfl rfl ?_ | refine Off.upd rfl ?_ | refine Off.updO rfl ?_)) (by repeat (first | exact Wk.refl _ | apply Wk.keep1 | apply Wk.drop | apply Wk.sv | apply Wk.svD | apply Wk.appD)) (by dsimp only; omega) (by dsimp only; omega)
  · have hke : k = tl.length := by omega
    rw [hke, List.take_length]
    repeat' (first | (refine GiP ?_; first | (refine Znh ?_) | (with_reducible refine Znl ?_)) | (refine GiW ?_; first | (refine Zsq fun K hK => ?_) | (refine ZrN 3 fun _ => ?_; refine Zv Zxlss ?_) | (refine ZrN 10 fun _ => ?_; refine Zv Zmi ?_; refine Zv Zai ?_) | (refine WP_cond_true rfl ?_) | (refine WP_cond_false rfl ?_) | (refine Zcd (fun hc => ?_) (fun hc => ?_) <;> (try (exfalso; omega))) | (with_reducible apply WP_skip) | (with_reducible apply WP_block) | (with_reducible apply WP_exit) | (with_reducible apply WP_ret)) | (refine Zhn ?_) | (with_reducible apply QBlock_normal) | (refine Zhx ?_) | (with_reducible apply QBlock_hit) | (refine Zqb ?_) | (with_reducible apply QLoop_exit) | (refine Zhr ?_) | (with_reducible apply QBlock_ret) | (with_reducible apply QLoop_ret))
    exact QBody_ret1 rfl (rfl : _ = Value.int _ _) ⟨A ++ (Fk g K1 ++ X), .app A2 _, _, rfl, K1, rfl, rfl⟩
set_option maxHeartbeats 4000000 in
theorem hull_tri (A X : Hp) (g : Fg) (hv : VD g.d) (hA : DrAt N w0 g) (h0 : someB g.d = true) (Ks : List (Nat × Ly)) (q : FuncId) [HasBody Try.prog q] (qc : List Value) (f : List Int → Sp) (nd : Hp) (hN : ∀ K', Sub nd (A ++ (Fk g K' ++ X)))
    (hq : ∀ lv ∈ toldD g.d, ∀ bc L', Mem bc (Blk 3 (crs g.d.banks.length (nxt g.d.ways lv))) L' → Sub nd L' → Ret Try.prog N w0 L' q (.slice (some ⟨bc, 0, none⟩) g.d.banks.length g.d.banks.length :: qc).toArray (.agg (spL (f lv)).toArray)) :
    Tri Try.prog N w0 (A ++ (Fk g Ks ++ X)) 51 [.pointer (some ⟨g.b, 0, none⟩), .func (.func q) #[] qc.toArray].toArray fun x L' => ∃ v, x = .returned v ∧ ∃ K', v = .agg [.int .i64 (jn ((toldD g.d).map f)).1, .int .i64 (jn ((toldD g.d).map f)).2].toArray ∧ L' = A ++ (Fk g K' ++ X) := by
  have hnb := hv.nb
  have hcnt := toldD_count hv
  have hkn := fun A => known_ok N w0 A X g hv hA h0 Ks
  have hr5 := fun lv h => told_row5 hv (lv := lv) h
  have hly := fun lv (h : lv ∈ toldD g.d) => LyOk0 hv (toldD_mem.1 h).1
  unfold KnV at hkn
  obtain ⟨tl, htl⟩ : ∃ tl, toldD g.d = tl := ⟨_, rfl⟩
  rw [htl] at hcnt hkn hr5 hly hq ⊢
  refine Tri.fgt ?_
  refine tri_of_WP Try.func51 rfl (n := _) rfl (by simp) ?_
  repeat' (first | (refine GiP ?_; first | (refine Znh ?_) | (with_reducible refine Znl ?_)) | (refine GiW ?_; first | (refine Zsq fun K hK => ?_) | (refine ZrN 0 fun _ => ?_; refine Zal 4 fun b4 => ?_) | (refine ZrN 1 fun _ => ?_; refine Zv Zmv ?_; refine OPS_retKS (Enters_fn rfl) (hkn ((b4, Blk 35 [.int .i64 0, .int .i64 0]) :: A)) rfl rfl rfl (fun v10 L10 h10 => ?_); obtain ⟨K10, A2, Aa, c10, rfl, hrd, rfl⟩ := h10; refine Zv Zxlen ?_; refine Zv Zmi ?_) | (refine WP_cond_true rfl ?_) | (refine WP_cond_false rfl ?_) | (refine Zcd (fun hc => ?_) (fun hc => ?_) <;> (try (exfalso; omega))) | (with_reducible apply WP_skip) | (with_reducible apply WP_block) | (with_reducible apply WP_exit) | (with_reducible apply WP_ret)) | (refine Zhn ?_) | (with_reducible apply QBlock_normal) | (refine Zhx ?_) | (with_reducible apply QBlock_hit) | (refine Zqb ?_) | (with_reducible apply QLoop_exit) | (refine Zhr ?_) | (with_reducible apply QBlock_ret) | (with_reducible apply QLoop_ret))
  simp only [List.cons_append]
  refine WP_sub (B := (b4, Blk 35 [.int .i64 0, .int .i64 0]) :: (A2 ++ (A ++ (Fk g K10 ++ X)))) ⟨[], by rw [List.append_nil]; exact List.perm_middle⟩ ?_
  refine WP_loop [5, 6, 7, 11, 12, 13, 14, 15, 16, 17, 18, 19, 20, 21, 22, 23, 24, 25, 26, 27, 28, 29, 30, 31, 32, 33, 34, 35, 36] (fun st : Nat × List (Nat × Ly) => [(11, .int .i64 (st.1 : Int))]) (fun st => (b4, Blk 35 [.int .i64 (jn ((tl.take st.1).map f)).1, .int .i64 (jn ((tl.take st.1).map f)).2]) :: (A2 ++ (A ++ (Fk g st.2 ++ X)))) (fun st => st.1 ≤ tl.length) (fun st => tl.length - st.1) (0, K10) (.cons rfl .nil) (Wk.refl _) (Nat.zero_le _) ?_
  rintro ⟨k, K1⟩ j hk
  dsimp only at hk ⊢
  by_cases hlt : k < tl.length
  · have hmem := List.getElem_mem hlt
    have hmk := map_take_succ f hlt
    obtain ⟨lv, hlv⟩ : ∃ lv, tl[k] = lv := ⟨_, rfl⟩
    have hrow := fun L' h => (hrd L' h).row k hlt
    rw [hlv] at hmem hrow hmk
    obtain ⟨a0, a1, a2, a3, a4, h5⟩ := hr5 lv hmem
    have hrl : rowL lv = [.int .i64 a0, .int .i64 a1, .int .i64 a2, .int .i64 a3, .int .i64 a4] := by unfold rowL; rw [h5]; rfl
    rw [hrl] at hrow
    obtain ⟨bA, oA, hAa, -⟩ := hrow A2 (Sub.refl _)
    have hrd3 : ∀ L', Sub A2 L' → ∀ j v, [Value.int .i64 a0, .int .i64 a1, .int .i64 a2, .int .i64 a3, .int .i64 a4][j]? = some v → Rd N w0 L' bA (oA + k * 5 + j) v := by
      intro L' hL j v hj
      obtain ⟨b', o', h6, h7⟩ := hrow L' hL
      rw [hAa] at h6
      simp only [Option.some.injEq, Addr.mk.injEq, and_true] at h6
      obtain ⟨rfl, rfl⟩ := h6
      exact h7 j v hj
    have hst : jn ((tl.take (k + 1)).map f) = if k = 0 then f lv else (min (jn ((tl.take k).map f)).1 (f lv).1, max (jn ((tl.take k).map f)).2 (f lv).2) := by
      rw [hmk, jn_snoc]
      cases k with
      | zero => simp
      | succ k =>
        have h2 : (tl.take (k + 1)).length = k + 1 := by rw [List.length_take]; omega
        rw [if_neg (by intro h; have := congrArg List.length h; rw [List.length_map, h2] at this; simp at this), if_neg (by omega)]
    obtain ⟨s, hs⟩ : ∃ s, jn ((tl.take k).map f) = s := ⟨_, rfl⟩
    rw [hs] at hst ⊢
    have hcr := fun b6 => course_at N w0 ((b6, Blk 93 [.int .i64 a0, .int .i64 a1, .int .i64 a2, .int .i64 a3, .int .i64 a4]) :: (b4, Blk 35 [.int .i64 s.1, .int .i64 s.2]) :: (A2 ++ A)) X g hv hA K1 (lv, 0, 0, 0) (hly lv hmem)
    unfold keyL at hcr
    dsimp only at hcr
    rw [h5] at hcr
    unfold ints at hcr
    simp only [List.map_cons, List.map_nil, List.cons_append, List.nil_append, List.append_assoc] at hcr
    have hqc := hq lv hmem
    obtain ⟨x, hx⟩ : ∃ x, f lv = x := ⟨_, rfl⟩
    rw [hx] at hst hqc
    unfold spL at hqc
    have hmc : ∀ K' bc, (bc, (lv, 0, 0, 0)) ∈ K' → Mem bc (Blk 3 (crs g.d.banks.length (nxt g.d.ways lv))) (A2 ++ (A ++ (Fk g K' ++ X))) := fun K' bc h => by
      have := mem_fk (A := A) (X := X) (fk_crs (g := g) h)
      rw [crsK0] at this
      exact .app A2 this
    have hSN : ∀ K', Sub nd (A2 ++ (A ++ (Fk g K' ++ X))) := fun K' => .app A2 (hN K')
    by_cases hk0 : k = 0
    · rw [if_pos hk0] at hst
      repeat' (first | (refine GiP ?_; first | (refine Znh ?_) | (with_reducible refine Znl ?_)) | (refine GiW ?_; first | (refine Zsq fun K hK => ?_) | (refine ZrN 2 fun _ => ?_; refine Zv Zxlss ?_) | (refine ZrN 3 fun _ => ?_; refine Zv Zmi ?_; refine Zv Zia ?_; (first | (refine Zv (Val_loadDN rfl (hrd3 _ (by repeat (first | exact Sub.refl _ | assumption | exact Sub.left | apply Sub.cons | apply Sub.sv | apply Sub.app))) rfl) ?_) | (refine Zv Zla ?_)); refine Zal 6 fun b6 => ?_; refine Zv Zai ?_; refine Zst ?_) | (refine ZrN 4 fun _ => ?_; refine Zv Zmv ?_; refine Zv Zmv ?_; (first | (refine Zv (Val_loadDN rfl (hrd3 _ (by repeat (first | exact Sub.refl _ | assumption | exact Sub.left | apply Sub.cons | apply Sub.sv | apply Sub.app))) rfl) ?_) | (refine Zv Zla ?_)); refine Zv Zxbu ?_; refine OPS_retKS (Enters_fn rfl) (hcr b6) rfl rfl rfl (fun v20 L20 h20 => ?_); obtain ⟨K2, bc, rfl, hmK, rfl⟩ := h20; have hmc2 := hmc K2 bc hmK; have hSN2 := hSN K2; refine Zcl (Enters_val rfl rfl) (hqc bc _ (by repeat (first | exact Mem.here | assumption | apply Mem.there | apply Mem.sv | apply Mem.app)) (by repeat (first | exact Sub.refl _ | assumption | exact Sub.left | apply Sub.cons | apply Sub.sv | apply Sub.app))) ?_; refine Zal 7 fun b7 => ?_; refine Zst ?_) | (refine ZrN 5 fun _ => ?_; refine Zv Zmi ?_; refine Zv Zxeql ?_) | (refine ZrN 6 fun _ => ?_; (first | (refine Zv (Val_loadDN rfl (hrd3 _ (by repeat (first | exact Sub.refl _ | assumption | exact Sub.left | apply Sub.cons | apply Sub.sv | apply Sub.app))) rfl) ?_) | (refine Zv Zla ?_)); refine Zst ?_) | (refine ZrN 7 fun _ => ?_; refine Zv Zf0 ?_; (first | (refine Zv (Val_loadDN rfl (hrd3 _ (by repeat (first | exact Sub.refl _ | assumption | exact Sub.left | apply Sub.cons | apply Sub.sv | apply Sub.app))) rfl) ?_) | (refine Zv Zld ?_)); refine Zv Zf0 ?_; (first | (refine Zv (Val_loadDN rfl (hrd3 _ (by repeat (first | exact Sub.refl _ | assumption | exact Sub.left | apply Sub.cons | apply Sub.sv | apply Sub.app))) rfl) ?_) | (refine Zv Zld ?_)); refine Zv Zxmin ?_; refine Zv Zfa ?_; (first | (refine Zv (Val_loadDN rfl (hrd3 _ (by repeat (first | exact Sub.refl _ | assumption | exact Sub.left | apply Sub.cons | apply Sub.sv | apply Sub.app))) rfl) ?_) | (refine Zv Zld ?_)); refine Zv Zfa ?_; (first | (refine Zv (Val_loadDN rfl (hrd3 _ (by repeat (first | exact Sub.refl _ | assumption | exact Sub.left | apply Sub.cons | apply Sub.sv | apply Sub.app))) rfl) ?_) | (refine Zv Zld ?_)); refine Zv Zxmax ?_; refine Zv Zxbu ?_; refine Zst ?_) | (refine ZrN 8 fun _ => ?_; refine Zv Zxadd ?_; refine Zv Zmi ?_) | (refine WP_cond_true rfl ?_) | (refine WP_cond_false rfl ?_) | (refine Zcd (fun hc => ?_) (fun hc => ?_) <;> (try (exfalso; omega))) | (with_reducible apply WP_skip) | (with_reducible apply WP_block) | (with_reducible apply WP_exit) | (with_reducible apply WP_ret)) | (refine Zhn ?_) | (with_reducible apply QBlock_normal) | (refine Zhx ?_) | (with_reducible apply QBlock_hit) | (refine Zqb ?_) | (with_reducible apply QLoop_exit) | (refine Zhr ?_) | (with_reducible apply QBlock_ret) | (with_reducible apply QLoop_ret))
      exact QLoop_normal (k + 1, K2) (.cons rfl .nil) (by repeat (first | exact Off.frame rfl | exact Off.refl _ _ | refine Off.frameT rfl rfl ?_ | refine Off.upd rfl ?_ | refine Off.updO rfl ?_)) (by dsimp only; rw [hst, Int.min_self, Int.max_self]; exact (by repeat (first | exact Wk.refl _ | apply Wk.keep1 | apply Wk.drop | apply Wk.sv | apply Wk.svD | apply Wk.appD))) (by dsimp only; omega) (by dsimp only; omega)
    · rw [if_neg hk0] at hst
      repeat' (first | (refine GiP ?_; first | (refine Znh ?_) | (with_reducible refine Znl ?_)) | (refine GiW ?_; first | (refine Zsq fun K hK => ?_) | (refine ZrN 2 fun _ => ?_; refine Zv Zxlss ?_) | (refine ZrN 3 fun _ => ?_; refine Zv Zmi ?_; refine Zv Zia ?_; (first | (refine Zv (Val_loadDN rfl (hrd3 _ (by repeat (first | exact Sub.refl _ | assumption | exact Sub.left | apply Sub.cons | apply Sub.sv | apply Sub.app))) rfl) ?_) | (refine Zv Zla ?_)); refine Zal 6 fun b6 => ?_; refine Zv Zai ?_; refine Zst ?_) | (refine ZrN 4 fun _ => ?_; refine Zv Zmv ?_; refine Zv Zmv ?_; (first | (refine Zv (Val_loadDN rfl (hrd3 _ (by repeat (first | exact Sub.refl _ | assumption | exact Sub.left | apply Sub.cons | apply Sub.sv | apply Sub.app))) rfl) ?_) | (refine Zv Zla ?_)); refine Zv Zxbu ?_; refine OPS_retKS (Enters_fn rfl) (hcr b6) rfl rfl rfl (fun v20 L20 h20 => ?_); obtain ⟨K2, bc, rfl, hmK, rfl⟩ := h20; have hmc2 := hmc K2 bc hmK; have hSN2 := hSN K2; refine Zcl (Enters_val rfl rfl) (hqc bc _ (by repeat (first | exact Mem.here | assumption | apply Mem.there | apply Mem.sv | apply Mem.app)) (by repeat (first | exact Sub.refl _ | assumption | exact Sub.left | apply Sub.cons | apply Sub.sv | apply Sub.app))) ?_; refine Zal 7 fun b7 => ?_; refine Zst ?_) | (refine ZrN 5 fun _ => ?_; refine Zv Zmi ?_; refine Zv Zxeql ?_) | (refine ZrN 7 fun _ => ?_; refine Zv Zf0 ?_; (first | (refine Zv (Val_loadDN rfl (hrd3 _ (by repeat (first | exact Sub.refl _ | assumption | exact Sub.left | apply Sub.cons | apply Sub.sv | apply Sub.app))) rfl) ?_) | (refine Zv Zld ?_)); refine Zv Zf0 ?_; (first | (refine Zv (Val_loadDN rfl (hrd3 _ (by repeat (first | exact Sub.refl _ | assumption | exact Sub.left | apply Sub.cons | apply Sub.sv | apply Sub.app))) rfl) ?_) | (refine Zv Zld ?_)); refine Zv Zxmin ?_; refine Zv Zfa ?_; (first | (refine Zv (Val_loadDN rfl (hrd3 _ (by repeat (first | exact Sub.refl _ | assumption | exact Sub.left | apply Sub.cons | apply Sub.sv | apply Sub.app))) rfl) ?_) | (refine Zv Zld ?_)); refine Zv Zfa ?_; (first | (refine Zv (Val_loadDN rfl (hrd3 _ (by repeat (first | exact Sub.refl _ | assumption | exact Sub.left | apply Sub.cons | apply Sub.sv | apply Sub.app))) rfl) ?_) | (refine Zv Zld ?_)); refine Zv Zxmax ?_; refine Zv Zxbu ?_; refine Zst ?_) | (refine ZrN 8 fun _ => ?_; refine Zv Zxadd ?_; refine Zv Zmi ?_) | (refine WP_cond_true rfl ?_) | (refine WP_cond_false rfl ?_) | (refine Zcd (fun hc => ?_) (fun hc => ?_) <;> (try (exfalso; omega))) | (with_reducible apply WP_skip) | (with_reducible apply WP_block) | (with_reducible apply WP_exit) | (with_reducible apply WP_ret)) | (refine Zhn ?_) | (with_reducible apply QBlock_normal) | (refine Zhx ?_) | (with_reducible apply QBlock_hit) | (refine Zqb ?_) | (with_reducible apply QLoop_exit) | (refine Zhr ?_) | (with_reducible apply QBlock_ret) | (with_reducible apply QLoop_ret))
      exact QLoop_normal (k + 1, K2) (.cons rfl .nil) (by repeat (first | exact Off.frame rfl | exact Off.refl _ _ | refine Off.frameT rfl rfl ?_ | refine Off.upd rfl ?_ | refine Off.updO rfl ?_)) (by dsimp only; rw [hst]; exact (by repeat (first | exact Wk.refl _ | apply Wk.keep1 | apply Wk.drop | apply Wk.sv | apply Wk.svD | apply Wk.appD))) (by dsimp only; omega) (by dsimp only; omega)
  · have hke : k = tl.length := by omega
    rw [hke, List.take_length]
    repeat' (first | (refine GiP ?_; first | (refine Znh ?_) | (with_reducible refine Znl ?_)) | (refine GiW ?_; first | (refine Zsq fun K hK => ?_) | (refine ZrN 2 fun _ => ?_; refine Zv Zxlss ?_) | (refine ZrN 9 fun _ => ?_; refine Zv Zla ?_; refine Zst ?_) | (refine WP_cond_true rfl ?_) | (refine WP_cond_false rfl ?_) | (refine Zcd (fun hc => ?_) (fun hc => ?_) <;> (try (exfalso; omega))) | (with_reducible apply WP_skip) | (with_reducible apply WP_block) | (with_reducible apply WP_exit) | (with_reducible apply WP_ret)) | (refine Zhn ?_) | (with_reducible apply QBlock_normal) | (refine Zhx ?_) | (with_reducible apply QBlock_hit) | (refine Zqb ?_) | (with_reducible apply QLoop_exit) | (refine Zhr ?_) | (with_reducible apply QBlock_ret) | (with_reducible apply QLoop_ret))
    exact QBody_res rfl (.cellN rfl (by repeat (first | exact Mem.here | assumption | apply Mem.there | apply Mem.sv | apply Mem.app)) (.here (.cons (.cons .nil))) .nil) rfl ⟨A ++ (Fk g K1 ++ X), .drop (.app A2 _), _, rfl, K1, rfl, rfl⟩
end
end Go.Proofs.Ytbhgpnbfdjoglaa
end

section
namespace Go.Proofs.Ytbhgpnbfdjoglaa
open Go.RowKit
section
variable {P : Program} {r : Option Nat} {n N : Nat} {w0 : World} {L : Hp} {e : Env} {d : Option Nat} {ty : TypeId} {pos : String} {af : Array Edge} {g : Option (Nat × Bool)} {ops : Array Oper} {rest : List Oper} {Q : Post} {ds : List Deferred}
theorem Val_cap {x : Operand} {t : TypeId} {E : TypeId} [h : SliceOf P t E] {a : Option Addr} {m c : Nat} (hx : ev e x = .slice a m c) : Val P N w0 L e ⟨d, .call { callee := .builtin .cap, args := #[x], argTypes := #[t] }, ty, pos, af, g⟩ (.int .i64 c) := by
  intro w _; simp [execOp, resolve, invoke, builtin, hx, Builtin.cap_, run_underlying h.und, goInt]
theorem run_grow_nil {w : World} {t u ty e : TypeId} {i : TypeInfo} {z : Value} (ht : P.underlying t = some (.slice e)) (hu : P.underlying u = some (.int .i64)) (hi : P.info? e = some i) (hz : i.zero = some z) (n : Nat) (h0 : 0 < n) (hs : 0 < i.size) (h63 : (n : Int) ≤ 9223372036854775807) (h48 : n * i.bytes ≤ 281474976710656) :
    (Builtin.append_ #[t, u] ty #[.slice none 0 0, .int .i64 n]).run P w =
      .ok (.slice (some ⟨w.heap.size, 0, none⟩) n (grownCap w n 0 e)) (w.drew.alloc (.cells (Builtin.zeroCells z.cells n ++ Builtin.zeroCells z.cells (grownCap w n 0 e - n)) e)) := by
  have hn : n ≠ 0 := by omega
  have hw : IntKind.wrap .i64 (n : Int) = n := IntWalk.i64_in _ ⟨by omega, by omega⟩
  have h1 : ¬ ((n : Int) < 0) := by omega
  have h2 : ¬ (281474976710656 < (n : Int) * (i.bytes : Int)) := by rw [← Int.natCast_mul]; omega
  have h63' : ¬ (9223372036854775807 < (n : Int)) := by omega
  have h48' : ¬ (281474976710656 < Builtin.nextslicecap n 0 * i.bytes) := by rw [nextslicecap_zero h0]; omega
  have hns : ¬ (n * i.size = 0) := by intro h; rcases Nat.mul_eq_zero.1 h with h | h <;> omega
  have hns2 : i.size ≠ 0 := by omega
  simp [Builtin.append_, run_underlying ht, run_underlying hu, sizeOf, typeInfo, zeroValue, hi, hz, asInt, asIntOf, hw, h1, h2, hn, h63', h48', Question.forced, run_firstCells_none, newRow, grownCap]
  exact fun h => absurd h hns
/-- Room for so many, where there was none. -/
theorem OPS_growNil {t u E : TypeId} [hE : SliceOf P t E] [hu : IntTy P u .i64] {g' : Bool} {sz bt : Nat} [hS : TySz P E g' (sz + 1) bt] {z : List Value} [hZ : TyZero P E z] (hz : z.length = sz + 1)
    {x y : Operand} {k d : Nat} (hx : ev e x = .slice none 0 0) (hy : ev e y = .int .i64 (k : Int)) (h0 : 0 < k) (h63 : k ≤ maxLen) (hby : k * bt ≤ 140737488355328)
    (hg : Region.wanted ⟨some d, .call { callee := .builtin .append, args := #[x, y], argTypes := #[t, u] }, ty, pos, af, g⟩ (yieldE ops e) = true) (hd : Nat.blt d n = true)
    (h : ∀ b c, k ≤ c → OPS P r n N w0 ops rest Q (upd e d (.slice (some ⟨b, 0, none⟩) k c)) ds ((b, Row E (sz + 1) 0 c []) :: L)) :
    OPS P r n N w0 ops (⟨some d, .call { callee := .builtin .append, args := #[x, y], argTypes := #[t, u] }, ty, pos, af, g⟩ :: rest) Q e ds L := by
  refine OPS_any (K := fun v L2 => ∃ b c, k ≤ c ∧ v = .slice (some ⟨b, 0, none⟩) k c ∧ L2 = (b, Row E (sz + 1) 0 c []) :: L) (fun w hI => ?_) hg rfl hd ?_
  · have hi := hS.inf
    have hzz := hZ.zero
    cases hin : P.info? E with
    | none => rw [hin] at hi; cases hi
    | some i =>
      rw [hin] at hi hzz
      simp only [Option.map_some, Option.some.injEq, Prod.mk.injEq] at hi
      cases hiz : i.zero with
      | none => simp [hiz] at hzz
      | some zv =>
        simp only [Option.bind_some, hiz, Option.map_some, Option.some.injEq] at hzz
        have hzs : zv.cells.size = sz + 1 := by rw [← Array.length_toList, hzz, hz]
        have hr := run_grow_nil (P := P) (w := w) (ty := ty) (z := zv) hE.und hu.und hin hiz k h0 (by omega) (by unfold maxLen at h63; omega) (by rw [hi.2]; omega)
        have hge := grownCap_ge w k 0 E
        have hcm : grownCap w k 0 E ≤ maxLen := grownCap_le_maxLen w k 0 E h63
        refine ⟨.slice (some ⟨w.heap.size, 0, none⟩) k (grownCap w k 0 E), w.drew.alloc (.cells (Builtin.zeroCells zv.cells k ++ Builtin.zeroCells zv.cells (grownCap w k 0 E - k)) E), (w.heap.size, Row E (sz + 1) 0 (grownCap w k 0 E) []) :: L, by simp [execOp, resolve, invoke, builtin, hx, hy, hr], ?_, w.heap.size, _, hge, rfl, rfl⟩
        refine Inv.alloc (w := w.drew) ⟨⟨hI.below.os, hI.below.tape, hI.below.output, hI.below.size, hI.below.block⟩, hI.big, hI.dis, hI.own⟩ ⟨_, rfl, Nat.zero_le _, hcm, ?_, by simp⟩
        simp only [Array.size_append, size_zeroCells, hzs, ← Nat.add_mul]
        congr 1
        omega
  · rintro v L2 ⟨b, c, hc, rfl, rfl⟩
    exact h b c hc
end
attribute [local irreducible] AnyO AnyB QAny QB EWalk AWalk Ev WP OPS QThen QBlock QScope QLoop QBody Val New Turn Tri Enters PostA Blk Ro
attribute [local irreducible] AnyC QC
section
variable (N : Nat) (w0 : World)
theorem grow_tri (L : Hp) (k : Nat) (hk : k ≤ 1000) : Tri Try.prog N w0 L 97 [.slice none 0 0, .int .i64 (k : Int)].toArray fun x L' => ∃ v, x = .returned v ∧ ∃ s, v = svV s 0 ∧ svOk s 2 0 [] ∧ L' = svH 32 2 0 [] s L := by
  refine tri_of_WP Try.func97 rfl (n := _) rfl (by simp) ?_
  by_cases h0 : k = 0
  · subst h0
    repeat' (first | (refine GiP ?_; first | (refine Znh ?_) | (with_reducible refine Znl ?_) | (refine Zatd 21 ?_; refine Zv Zmi ?_; refine OPS_append rfl rfl rfl (by repeat (first | exact Wk.refl _ | apply Wk.keep1 | apply Wk.drop | apply Wk.sv | apply Wk.svD | apply Wk.appD)) (by assumption) (blk_cells (by repeat (first | exact Mem.here | assumption | apply Mem.there | apply Mem.sv | apply Mem.app))) rfl rfl (by simp only [maxLen]; omega) (by omega) rfl rfl (fun s22 hs22 => ?_); refine Zv Zmv ?_; refine Zv Zxlen ?_) | (refine Zatd 0 ?_; refine Zv Zav ?_)) | (refine GiW ?_; first | (refine Zsq fun K hK => ?_) | (refine ZrN 0 fun _ => ?_; refine Zv Zav ?_) | (refine ZrN 1 fun _ => ?_; refine Zv Zmi ?_; refine Zv Zxlss ?_) | (refine ZrN 2 fun _ => ?_; refine Zv Zxmi ?_; refine OPS_panicV rfl rfl ?_) | (refine ZrN 3 fun _ => ?_; refine Zv Zmi ?_; refine Zv Zmv ?_; refine Zv (Val_cap rfl) ?_; refine Zv Zmv ?_; refine Zv Zxlen ?_; refine Zv Zxsub ?_; refine Zv Zxsub ?_; refine Zv Zai ?_) | (refine ZrN 4 fun _ => ?_; refine Zv Zmi ?_; refine Zv Zxgtr ?_) | (refine ZrN 5 fun _ => ?_; refine Zv Zmv ?_; refine Zv Zmv ?_; refine Zv (Val_cap rfl) ?_) | (refine ZrN 6 fun _ => ?_; refine Zv Zmv ?_; refine Zv Zav ?_) | (refine WP_cond_true rfl ?_) | (refine WP_cond_false rfl ?_) | (refine Zcd (fun hc => ?_) (fun hc => ?_) <;> (try (exfalso; omega))) | (with_reducible apply WP_skip) | (with_reducible apply WP_ret)) | (refine Zhn ?_) | (refine Zhr ?_) | (refine Zhp ?_))
    exact QBody_ret1 rfl rfl ⟨_, rfl, none, rfl, svOk_nil 2, rfl⟩
  · repeat' (first | (refine GiP ?_; first | (refine Znh ?_) | (with_reducible refine Znl ?_)) | (refine GiW ?_; first | (refine Zsq fun K hK => ?_) | (refine ZrN 0 fun _ => ?_; refine Zv Zav ?_) | (refine ZrN 1 fun _ => ?_; refine Zv Zmi ?_; refine Zv Zxlss ?_) | (refine ZrN 2 fun _ => ?_; refine Zv Zxmi ?_; refine OPS_panicV rfl rfl ?_) | (refine ZrN 3 fun _ => ?_; refine Zv Zmi ?_; refine Zv Zmv ?_; refine Zv (Val_cap rfl) ?_; refine Zv Zmv ?_; refine Zv Zxlen ?_; refine Zv Zxsub ?_; refine Zv Zxsub ?_; refine Zv Zai ?_) | (refine ZrN 4 fun _ => ?_; refine Zv Zmi ?_; refine Zv Zxgtr ?_) | (refine ZrN 5 fun _ => ?_; refine Zv Zmv ?_; refine Zv Zmv ?_; refine Zv (Val_cap rfl) ?_; refine Zv (Val_sliceHi (hi := 0) rfl rfl rfl (Nat.zero_le _)) ?_; refine Zv Zmi ?_; refine OPS_growNil (k := k) rfl rfl (by show Value.int .i64 ((k : Int) - (0 - 0)) = _; congr 1) (by omega) (by unfold maxLen; omega) (by omega) rfl rfl (fun b22 c22 h22 => ?_); refine Zv Zmv ?_; refine Zv Zxlen ?_; refine Zv (Val_sliceHi (hi := 0) rfl rfl rfl (Nat.zero_le _)) ?_; refine Zv Zav ?_) | (refine ZrN 6 fun _ => ?_; refine Zv Zmv ?_; refine Zv Zav ?_) | (refine WP_cond_true rfl ?_) | (refine WP_cond_false rfl ?_) | (refine Zcd (fun hc => ?_) (fun hc => ?_) <;> (try (exfalso; omega))) | (with_reducible apply WP_skip) | (with_reducible apply WP_ret)) | (refine Zhn ?_) | (refine Zhr ?_) | (refine Zhp ?_))
    exact QBody_ret1 rfl rfl ⟨_, rfl, some (b22, c22), rfl, ⟨by simp, fun h => by cases h⟩, rfl⟩
set_option maxHeartbeats 2000000 in
theorem concat_tri (L : Hp) (b c : Nat) (A1 A2 : Option Addr) (c1 c2 : Nat) (l1 l2 : List Sp) (h1 : SlAt N w0 A1 2 (l1.map spL)) (h2 : SlAt N w0 A2 2 (l2.map spL)) (hn1 : l1.length ≤ 400) (hn2 : l2.length ≤ 400) (hm : Mem b (Blk 26 [.slice A1 l1.length c1, .slice A2 l2.length c2]) L) :
    Tri Try.prog N w0 L 84 [.slice (some ⟨b, 0, none⟩) 2 c].toArray fun x L' => ∃ v, x = .returned v ∧ ∃ s, v = svV s (l1 ++ l2).length ∧ svOk s 2 (l1 ++ l2).length ((l1 ++ l2).map spL).flatten ∧ L' = svH 32 2 (l1 ++ l2).length ((l1 ++ l2).map spL).flatten s L := by
  have hs1 : ∀ L' w, Inv N w0 L' w → ∀ j u, ((l1.map spL).flatten)[j]? = some u → ∃ b2 o2, A1 = some ⟨b2, o2, none⟩ ∧ w.cell? ⟨b2, o2 + j, none⟩ = some u := fun L' w hI => (h1.now hI).flat (by omega) (map_len (f := spL) (fun _ => rfl) _)
  have hs2 : ∀ L' w, Inv N w0 L' w → ∀ j u, ((l2.map spL).flatten)[j]? = some u → ∃ b2 o2, A2 = some ⟨b2, o2, none⟩ ∧ w.cell? ⟨b2, o2 + j, none⟩ = some u := fun L' w hI => (h2.now hI).flat (by omega) (map_len (f := spL) (fun _ => rfl) _)
  have hA1 : A1 = none → l1.length = 0 := fun h => by simpa using slat_none h1 h
  have hA2 : A2 = none → l2.length = 0 := fun h => by simpa using slat_none h2 h
  have hf1 := map_flat (f := spL) (sz := 2) (fun _ => rfl) l1
  have hf2 := map_flat (f := spL) (sz := 2) (fun _ => rfl) l2
  have ho1 : ones (l1.map spL).flatten = true := ones_flat (map_ones (f := spL) (fun _ => rfl) _)
  have ho2 : ones (l2.map spL).flatten = true := ones_flat (map_ones (f := spL) (fun _ => rfl) _)
  have hfin : ((l1 ++ l2).map spL).flatten = ([] ++ (l1.map spL).flatten) ++ (l2.map spL).flatten := by rw [List.map_append, List.flatten_append]; rfl
  have hlen : (l1 ++ l2).length = 0 + l1.length + l2.length := by rw [List.length_append]; omega
  rw [hfin, hlen]
  refine tri_of_WP Try.func84 rfl (n := _) rfl (by simp) ?_
  repeat' (first | (refine GiP ?_; first | (refine Znh ?_) | (with_reducible refine Znl ?_)) | (refine GiW ?_; first | (refine Zsq fun K hK => ?_) | (refine ZrN 0 fun _ => ?_; refine Zv Zav ?_) | (refine ZrN 1 fun _ => ?_; refine Zv Zai ?_) | (refine ZrN 2 fun _ => ?_; refine Zv Zmv ?_; refine Zv Zxlen ?_; refine Zv Zmi ?_) | (refine WP_cond_true rfl ?_) | (refine WP_cond_false rfl ?_) | (refine Zcd (fun hc => ?_) (fun hc => ?_) <;> (try (exfalso; omega))) | (with_reducible apply WP_skip) | (with_reducible apply WP_block) | (with_reducible apply WP_exit) | (with_reducible apply WP_ret)) | (refine Zhn ?_) | (with_reducible apply QBlock_normal) | (refine Zhx ?_) | (with_reducible apply QBlock_hit) | (refine Zqb ?_) | (with_reducible apply QLoop_exit) | (refine Zhr ?_) | (with_reducible apply QBlock_ret) | (with_reducible apply QLoop_ret) | (refine Zhp ?_) | (with_reducible apply QBlock_panic) | (with_reducible apply QLoop_panic))
  refine WP_loop [3, 5, 11, 12, 13, 14, 15, 16, 17, 18, 19, 20, 21, 22] (fun q : Nat × Nat => [(11, .int .i64 (q.1 : Int)), (3, .int .i64 (q.2 : Int))]) (fun _ => L) (fun q => q = (0, 0) ∨ q = (1, l1.length) ∨ q = (2, l1.length + l2.length)) (fun q => 2 - q.1) (0, 0) (.cons rfl (.cons rfl .nil)) (Wk.refl _) (.inl rfl) ?_
  rintro _ j (rfl | rfl | rfl)
  · dsimp only
    repeat' (first | (refine GiP ?_; first | (refine Znh ?_) | (with_reducible refine Znl ?_)) | (refine GiW ?_; first | (refine Zsq fun K hK => ?_) | (refine ZrN 3 fun _ => ?_; refine Zv Zxlss ?_) | (refine ZrN 4 fun _ => ?_; (first | (refine Zv (Val_indexAddr1 (i := 0) rfl rfl rfl (by omega)) ?_) | (refine Zv Zia ?_)); refine Zv Zld ?_; refine Zv Zav ?_) | (refine ZrN 5 fun _ => ?_; refine Zv Zmi ?_; refine Zv Zmv ?_; refine Zv Zxlen ?_; refine Zv Zxadd ?_; refine Zv Zai ?_) | (refine ZrN 6 fun _ => ?_; refine Zv Zmi ?_; refine Zv Zxlss ?_) | (refine ZrN 8 fun _ => ?_; refine Zv Zxadd ?_; refine Zv Zmi ?_) | (refine WP_cond_true rfl ?_) | (refine WP_cond_false rfl ?_) | (refine Zcd (fun hc => ?_) (fun hc => ?_) <;> (try (exfalso; omega))) | (with_reducible apply WP_skip) | (with_reducible apply WP_block) | (with_reducible apply WP_exit) | (with_reducible apply WP_ret)) | (refine Zhn ?_) | (with_reducible apply QBlock_normal) | (refine Zhx ?_) | (with_reducible apply QBlock_hit) | (refine Zqb ?_) | (with_reducible apply QLoop_exit) | (refine Zhr ?_) | (with_reducible apply QBlock_ret) | (with_reducible apply QLoop_ret) | (refine Zhp ?_) | (with_reducible apply QBlock_panic) | (with_reducible apply QLoop_panic))
    exact QLoop_normal (1, l1.length) (.cons rfl (.cons (by show Value.int .i64 _ = Value.int .i64 _; congr 1; simp) .nil)) (by repeat (first | exact Off.frame rfl | exact Off.refl _ _ | refine Off.frameT rfl rfl ?_ | refine Off.upd rfl ?_ | refine Off.updO rfl ?_)) (by repeat (first | exact Wk.refl _ | apply Wk.keep1 | apply Wk.drop | apply Wk.sv | apply Wk.svD | apply Wk.appD)) (.inr (.inl rfl)) (by dsimp only; omega)
  · dsimp only
    repeat' (first | (refine GiP ?_; first | (refine Znh ?_) | (with_reducible refine Znl ?_)) | (refine GiW ?_; first | (refine Zsq fun K hK => ?_) | (refine ZrN 3 fun _ => ?_; refine Zv Zxlss ?_) | (refine ZrN 4 fun _ => ?_; (first | (refine Zv (Val_indexAddr1 (i := 1) rfl rfl rfl (by omega)) ?_) | (refine Zv Zia ?_)); refine Zv Zld ?_; refine Zv Zav ?_) | (refine ZrN 5 fun _ => ?_; refine Zv Zmi ?_; refine Zv Zmv ?_; refine Zv Zxlen ?_; refine Zv Zxadd ?_; refine Zv Zai ?_) | (refine ZrN 6 fun _ => ?_; refine Zv Zmi ?_; refine Zv Zxlss ?_) | (refine ZrN 8 fun _ => ?_; refine Zv Zxadd ?_; refine Zv Zmi ?_) | (refine WP_cond_true rfl ?_) | (refine WP_cond_false rfl ?_) | (refine Zcd (fun hc => ?_) (fun hc => ?_) <;> (try (exfalso; omega))) | (with_reducible apply WP_skip) | (with_reducible apply WP_block) | (with_reducible apply WP_exit) | (with_reducible apply WP_ret)) | (refine Zhn ?_) | (with_reducible apply QBlock_normal) | (refine Zhx ?_) | (with_reducible apply QBlock_hit) | (refine Zqb ?_) | (with_reducible apply QLoop_exit) | (refine Zhr ?_) | (with_reducible apply QBlock_ret) | (with_reducible apply QLoop_ret) | (refine Zhp ?_) | (with_reducible apply QBlock_panic) | (with_reducible apply QLoop_panic))
    exact QLoop_normal (2, l1.length + l2.length) (.cons rfl (.cons (by show Value.int .i64 _ = Value.int .i64 _; congr 1) .nil)) (by repeat (first | exact Off.frame rfl | exact Off.refl _ _ | refine Off.frameT rfl rfl ?_ | refine Off.upd rfl ?_ | refine Off.updO rfl ?_)) (by repeat (first | exact Wk.refl _ | apply Wk.keep1 | apply Wk.drop | apply Wk.sv | apply Wk.svD | apply Wk.appD)) (.inr (.inr rfl)) (by dsimp only; omega)
  · dsimp only
    repeat' (first | (refine GiP ?_; first | (refine Znh ?_) | (with_reducible refine Znl ?_)) | (refine GiW ?_; first | (refine Zsq fun K hK => ?_) | (refine ZrN 3 fun _ => ?_; refine Zv Zxlss ?_) | (refine ZrN 9 fun _ => ?_; refine Zv Zmi ?_; refine OPS_retKS (Enters_fn rfl) (grow_tri N w0 _ (l1.length + l2.length) (by omega)) rfl rfl rfl (fun v24 L24 h24 => ?_); obtain ⟨s24, rfl, hs24, rfl⟩ := h24; refine Zv Zav ?_) | (refine ZrN 10 fun _ => ?_; refine Zv Zmv ?_; refine Zv Zxlen ?_; refine Zv Zmi ?_) | (refine WP_cond_true rfl ?_) | (refine WP_cond_false rfl ?_) | (refine Zcd (fun hc => ?_) (fun hc => ?_) <;> (try (exfalso; omega))) | (with_reducible apply WP_skip) | (with_reducible apply WP_block) | (with_reducible apply WP_exit) | (with_reducible apply WP_ret)) | (refine Zhn ?_) | (with_reducible apply QBlock_normal) | (refine Zhx ?_) | (with_reducible apply QBlock_hit) | (refine Zqb ?_) | (with_reducible apply QLoop_exit) | (refine Zhr ?_) | (with_reducible apply QBlock_ret) | (with_reducible apply QLoop_ret) | (refine Zhp ?_) | (with_reducible apply QBlock_panic) | (with_reducible apply QLoop_panic))
    refine WP_loop [6, 8, 27, 28, 29, 30, 31, 32, 33, 34] (fun q : Nat × Nat × List Value × Option (Nat × Nat) => [(27, .int .i64 (q.1 : Int)), (6, svV q.2.2.2 q.2.1)]) (fun q => svH 32 2 q.2.1 q.2.2.1 q.2.2.2 L) (fun q => svOk q.2.2.2 2 q.2.1 q.2.2.1 ∧ ((q.1 = 0 ∧ q.2.1 = 0 ∧ q.2.2.1 = []) ∨ (q.1 = 1 ∧ q.2.1 = 0 + l1.length ∧ q.2.2.1 = [] ++ (l1.map spL).flatten) ∨ (q.1 = 2 ∧ q.2.1 = 0 + l1.length + l2.length ∧ q.2.2.1 = ([] ++ (l1.map spL).flatten) ++ (l2.map spL).flatten))) (fun q => 2 - q.1) (0, 0, [], s24) (.cons rfl (.cons rfl .nil)) (Wk.refl _) ⟨hs24, .inl ⟨rfl, rfl, rfl⟩⟩ ?_
    rintro ⟨i, m, xs, s⟩ j2 ⟨hs, (⟨h0, hm0, hx0⟩ | ⟨h0, hm0, hx0⟩ | ⟨h0, hm0, hx0⟩)⟩
    · dsimp only at hs h0 hm0 hx0 ⊢
      subst h0 hm0 hx0
      repeat' (first | (refine GiP ?_; first | (refine Znh ?_) | (with_reducible refine Znl ?_)) | (refine GiW ?_; first | (refine Zsq fun K hK => ?_) | (refine ZrN 11 fun _ => ?_; refine Zv Zxlss ?_) | (refine ZrN 12 fun _ => ?_; (first | (refine Zv (Val_indexAddr1 (i := 0) rfl rfl rfl (by omega)) ?_) | (refine Zv Zia ?_)); refine Zv Zld ?_; refine Zv Zav ?_) | (refine ZrN 13 fun _ => ?_; refine Zv Zmv ?_; refine Zv Zmv ?_; refine OPS_appendG rfl rfl rfl (fun s' => Grow.here) hs (hs1 _) hA1 hf1 ho1 (by simp only [maxLen]; omega) (by omega) (fun s33 hs33 => ?_); refine Zv Zav ?_) | (refine ZrN 14 fun _ => ?_; refine Zv Zxadd ?_; refine Zv Zmi ?_) | (refine WP_cond_true rfl ?_) | (refine WP_cond_false rfl ?_) | (refine Zcd (fun hc => ?_) (fun hc => ?_) <;> (try (exfalso; omega))) | (with_reducible apply WP_skip) | (with_reducible apply WP_block) | (with_reducible apply WP_exit) | (with_reducible apply WP_ret)) | (refine Zhn ?_) | (with_reducible apply QBlock_normal) | (refine Zhx ?_) | (with_reducible apply QBlock_hit) | (refine Zqb ?_) | (with_reducible apply QLoop_exit) | (refine Zhr ?_) | (with_reducible apply QBlock_ret) | (with_reducible apply QLoop_ret) | (refine Zhp ?_) | (with_reducible apply QBlock_panic) | (with_reducible apply QLoop_panic))
      exact QLoop_normal (1, 0 + l1.length, [] ++ (l1.map spL).flatten, s33) (.cons rfl (.cons rfl .nil)) (by repeat (first | exact Off.frame rfl | exact Off.refl _ _ | refine Off.frameT rfl rfl ?_ | refine Off.upd rfl ?_ | refine Off.updO rfl ?_)) (by repeat (first | exact Wk.refl _ | apply Wk.keep1 | apply Wk.drop | apply Wk.sv | apply Wk.svD | apply Wk.appD)) ⟨hs33, .inr (.inl ⟨rfl, rfl, rfl⟩)⟩ (by dsimp only; omega)
    · dsimp only at hs h0 hm0 hx0 ⊢
      subst h0 hm0 hx0
      repeat' (first | (refine GiP ?_; first | (refine Znh ?_) | (with_reducible refine Znl ?_)) | (refine GiW ?_; first | (refine Zsq fun K hK => ?_) | (refine ZrN 11 fun _ => ?_; refine Zv Zxlss ?_) | (refine ZrN 12 fun _ => ?_; (first | (refine Zv (Val_indexAddr1 (i := 1) rfl rfl rfl (by omega)) ?_) | (refine Zv Zia ?_)); refine Zv Zld ?_; refine Zv Zav ?_) | (refine ZrN 13 fun _ => ?_; refine Zv Zmv ?_; refine Zv Zmv ?_; refine OPS_appendG rfl rfl rfl (fun s' => Grow.here) hs (hs2 _) hA2 hf2 ho2 (by simp only [maxLen]; omega) (by omega) (fun s33 hs33 => ?_); refine Zv Zav ?_) | (refine ZrN 14 fun _ => ?_; refine Zv Zxadd ?_; refine Zv Zmi ?_) | (refine WP_cond_true rfl ?_) | (refine WP_cond_false rfl ?_) | (refine Zcd (fun hc => ?_) (fun hc => ?_) <;> (try (exfalso; omega))) | (with_reducible apply WP_skip) | (with_reducible apply WP_block) | (with_reducible apply WP_exit) | (with_reducible apply WP_ret)) | (refine Zhn ?_) | (with_reducible apply QBlock_normal) | (refine Zhx ?_) | (with_reducible apply QBlock_hit) | (refine Zqb ?_) | (with_reducible apply QLoop_exit) | (refine Zhr ?_) | (with_reducible apply QBlock_ret) | (with_reducible apply QLoop_ret) | (refine Zhp ?_) | (with_reducible apply QBlock_panic) | (with_reducible apply QLoop_panic))
      exact QLoop_normal (2, 0 + l1.length + l2.length, ([] ++ (l1.map spL).flatten) ++ (l2.map spL).flatten, s33) (.cons rfl (.cons rfl .nil)) (by repeat (first | exact Off.frame rfl | exact Off.refl _ _ | refine Off.frameT rfl rfl ?_ | refine Off.upd rfl ?_ | refine Off.updO rfl ?_)) (by repeat (first | exact Wk.refl _ | apply Wk.keep1 | apply Wk.drop | apply Wk.sv | apply Wk.svD | apply Wk.appD)) ⟨hs33, .inr (.inr ⟨rfl, rfl, rfl⟩)⟩ (by dsimp only; omega)
    · dsimp only at hs h0 hm0 hx0 ⊢
      subst h0 hm0 hx0
      repeat' (first | (refine GiP ?_; first | (refine Znh ?_) | (with_reducible refine Znl ?_)) | (refine GiW ?_; first | (refine Zsq fun K hK => ?_) | (refine ZrN 11 fun _ => ?_; refine Zv Zxlss ?_) | (refine ZrN 15 fun _ => ?_; refine Zv Zmv ?_; refine Zv Zav ?_) | (refine WP_cond_true rfl ?_) | (refine WP_cond_false rfl ?_) | (refine Zcd (fun hc => ?_) (fun hc => ?_) <;> (try (exfalso; omega))) | (with_reducible apply WP_skip) | (with_reducible apply WP_block) | (with_reducible apply WP_exit) | (with_reducible apply WP_ret)) | (refine Zhn ?_) | (with_reducible apply QBlock_normal) | (refine Zhx ?_) | (with_reducible apply QBlock_hit) | (refine Zqb ?_) | (with_reducible apply QLoop_exit) | (refine Zhr ?_) | (with_reducible apply QBlock_ret) | (with_reducible apply QLoop_ret) | (refine Zhp ?_) | (with_reducible apply QBlock_panic) | (with_reducible apply QLoop_panic))
      exact QBody_ret1 rfl (rfl : _ = svV _ _) ⟨_, rfl, s, rfl, hs, rfl⟩
end
end Go.Proofs.Ytbhgpnbfdjoglaa
end

section
namespace Go.Proofs.Ytbhgpnbfdjoglaa
open Go.RowKit
theorem vB_num {d : Dr} (h : numB d = false) : vB d = false := by simp [vB, h]
theorem vB_bk {d : Dr} {b : Bk} (hb : b ∈ d.banks) (h : bkB b = false) : vB d = false := by
  have : d.banks.all bkB = false := List.all_eq_false.2 ⟨b, hb, by simp [h]⟩
  simp [vB, this]
theorem vB_wy {d : Dr} {w : Sp} (hw : w ∈ d.ways ++ d.seen) (h : twoB d.banks.length w.1 w.2 = false) : vB d = false := by
  rcases List.mem_append.1 hw with hw | hw
  · have : d.ways.all (fun w => twoB d.banks.length w.1 w.2) = false := List.all_eq_false.2 ⟨w, hw, by simp [h]⟩
    simp [vB, this]
  · have : d.seen.all (fun w => twoB d.banks.length w.1 w.2) = false := List.all_eq_false.2 ⟨w, hw, by simp [h]⟩
    simp [vB, this]
theorem vB_rt {d : Dr} {r : Rt} (hr : r ∈ d.rights) (h : rtB d.banks.length r = false) : vB d = false := by
  have : d.rights.all (rtB d.banks.length) = false := List.all_eq_false.2 ⟨r, hr, by simp [h]⟩
  simp [vB, this]
theorem all_snoc {α : Type} {p : α → Bool} {l : List α} {k : Nat} (hk : k < l.length) (h : (l.take k).all p = true) (h1 : p l[k] = true) : (l.take (k + 1)).all p = true := by
  rw [List.take_succ_eq_append_getElem hk, List.all_append, h]; simp [h1]
theorem vB_all {d : Dr} (h1 : numB d = true) (h2 : d.banks.all bkB = true) (h3 : (d.ways ++ d.seen).all (fun w => twoB d.banks.length w.1 w.2) = true) (h4 : d.rights.all (rtB d.banks.length) = true) : vB d = true := by
  rw [List.all_append, Bool.and_eq_true] at h3
  simp only [vB, h1, h2, h3.1, h3.2, h4, Bool.and_self]
attribute [local irreducible] AnyO AnyB QAny QB EWalk AWalk Ev WP OPS QThen QBlock QScope QLoop QBody Val New Turn Tri Enters PostA Blk Ro
attribute [local irreducible] AnyC QC
section
variable (N : Nat) (w0 : World)
theorem open1_ret (L : Hp) (s : Sp) : Ret Try.prog N w0 L 82 [.agg [.int .i64 s.1, .int .i64 s.2].toArray, .int .i64 20].toArray (.bool (spB s)) := by
  refine Ret.fgt ?_
  refine tri_of_WP Try.func82 rfl (n := _) rfl (by simp) ?_
  repeat' (first | (refine GiP ?_; first | (refine Znh ?_) | (refine Zatd 14 ?_; (first | (refine Zv Zxpt ?_) | (refine Zv Zxpf ?_)); refine Zv Zmb ?_) | (refine Zatd 20 ?_; (first | (refine Zv Zxpt ?_) | (refine Zv Zxpf ?_)); refine Zv Zmb ?_) | (refine Zatd 28 ?_; (first | (refine Zv Zxpt ?_) | (refine Zv Zxpf ?_)); refine Zv Zab ?_) | (refine Zatd 9 ?_; first | refine Zsk ?_ | (refine Zv Zf0 ?_)) | (refine Zatd 10 ?_; first | refine Zsk ?_ | (refine Zv Zld ?_)) | (refine Zatd 11 ?_; first | refine Zsk ?_ | (refine Zv Zfa ?_)) | (refine Zatd 12 ?_; first | refine Zsk ?_ | (refine Zv Zld ?_)) | (refine Zatd 13 ?_; first | refine Zsk ?_ | (refine Zv Zxleq ?_)) | (refine Zatd 16 ?_; first | refine Zsk ?_ | (refine Zv Zfa ?_)) | (refine Zatd 17 ?_; first | refine Zsk ?_ | (refine Zv Zld ?_)) | (refine Zatd 18 ?_; first | refine Zsk ?_ | (refine Zv Zmi ?_)) | (refine Zatd 19 ?_; first | refine Zsk ?_ | (refine Zv Zxleq ?_)) | (refine Zatd 22 ?_; first | refine Zsk ?_ | (refine Zv Zfa ?_)) | (refine Zatd 23 ?_; first | refine Zsk ?_ | (refine Zv Zld ?_)) | (refine Zatd 24 ?_; first | refine Zsk ?_ | (refine Zv Zf0 ?_)) | (refine Zatd 25 ?_; first | refine Zsk ?_ | (refine Zv Zld ?_)) | (refine Zatd 26 ?_; first | refine Zsk ?_ | (refine Zv Zxsub ?_)) | (refine Zatd 27 ?_; first | refine Zsk ?_ | (refine Zv Zxleq ?_)) | (refine Zsp (fun hc => ?_) (fun hc => ?_) <;> (try (exfalso; omega)))) | (refine GiW ?_; first | (refine Zsq fun K hK => ?_) | (refine ZrN 0 fun _ => ?_; refine Zal 2 fun b2 => ?_; refine Zv Zab ?_) | (refine ZrG 1 ?_; refine Zv Zf0 ?_; refine Zv Zld ?_; refine Zv Zxleq ?_; refine Zv Zmb ?_) | (with_reducible apply WP_ret)))
  all_goals (refine QBody_ret1 rfl (rfl : _ = Value.bool _) ⟨?_, (by repeat (first | exact Wk.refl _ | apply Wk.keep1 | apply Wk.drop | apply Wk.sv | apply Wk.svD | apply Wk.appD))⟩; congr 2; rw [Bool.eq_iff_iff]; simp only [spB, decide_eq_true_eq, Bool.false_eq_true, false_iff]; omega)
theorem within_d (L : Hp) (n l h : Int) : Ret Try.prog N w0 L 83 [.int .i64 n, .int .i64 l, .int .i64 h].toArray (.bool (decide (l ≤ n ∧ n ≤ h))) := by
  have := within_ret N w0 L n l h
  have e : within n l h = decide (l ≤ n ∧ n ≤ h) := by rw [Bool.eq_iff_iff]; simp [within]
  rwa [e] at this
def OpenR (g : Fg) (ok : Bool) (q : FuncId) (cc : List Value) (L : Hp) : Prop :=
  Tri Try.prog N w0 L 39 [drV g, .func (.func q) #[] cc.toArray].toArray fun x L' => (vB g.d = true ∧ ok = true ∧ ∃ b m, x = .returned (.pointer (some ⟨b, 0, none⟩)) ∧ L' = Fk { g with b := b, m := m } [] ++ L) ∨ (vB g.d = true ∧ ok = false ∧ x = .panicked (stopE 2) ∧ L' = L) ∨ (vB g.d = false ∧ x = .panicked (stopE 1) ∧ L' = L)
set_option maxHeartbeats 4000000 in
theorem open_tri (L : Hp) (g : Fg) (hA : DrAt N w0 g) (ok : Bool) (q : FuncId) [HasBody Try.prog q] (cc : List Value) (nd : Hp) (hN : Sub nd L)
    (hq : ∀ b m L', Sub ((b, Blk 85 (bogL { g with b := b, m := m })) :: nd) L' → VD g.d → Ret Try.prog N w0 L' q (.pointer (some ⟨b, 0, none⟩) :: cc).toArray (.bool ok)) : OpenR N w0 g ok q cc L := by
  unfold OpenR
  refine Tri.fgt ?_
  refine tri_of_WP Try.func39 rfl (n := _) rfl (by simp) ?_
  unfold drV drL
  repeat' (first | (refine GiP ?_; first | (refine Znh ?_) | (refine Zatd 22 ?_; (first | (refine Zv Zxpt ?_) | (refine Zv Zxpf ?_)); refine Zv Zmb ?_) | (refine Zatd 28 ?_; (first | (refine Zv Zxpt ?_) | (refine Zv Zxpf ?_)); refine Zv Zmb ?_) | (refine Zatd 34 ?_; (first | (refine Zv Zxpt ?_) | (refine Zv Zxpf ?_)); (refine OPS_must (Enters_fn rfl) rfl rfl rfl (fun hc => ?_) (fun hc => ?_) <;> (try (exfalso; simp at hc; done)))) | (refine Zatd 18 ?_; first | refine Zsk ?_ | (refine Zv Zfa ?_)) | (refine Zatd 19 ?_; first | refine Zsk ?_ | (refine Zv Zld ?_)) | (refine Zatd 20 ?_; first | refine Zsk ?_ | (refine Zv Zxlen ?_)) | (refine Zatd 21 ?_; first | refine Zsk ?_ | (refine Zv Zxleq ?_)) | (refine Zatd 24 ?_; first | refine Zsk ?_ | (refine Zv Zfa ?_)) | (refine Zatd 25 ?_; first | refine Zsk ?_ | (refine Zv Zld ?_)) | (refine Zatd 26 ?_; first | refine Zsk ?_ | (refine Zv Zxlen ?_)) | (refine Zatd 27 ?_; first | refine Zsk ?_ | (refine Zv Zxleq ?_)) | (refine Zatd 30 ?_; first | refine Zsk ?_ | (refine Zv Zfa ?_)) | (refine Zatd 31 ?_; first | refine Zsk ?_ | (refine Zv Zld ?_)) | (refine Zatd 32 ?_; first | refine Zsk ?_ | (refine Zv Zxlen ?_)) | (refine Zatd 33 ?_; first | refine Zsk ?_ | (refine Zv Zxleq ?_)) | (refine Zsp (fun hc => ?_) (fun hc => ?_) <;> (try (exfalso; omega)))) | (refine GiW ?_; first | (refine Zsq fun K hK => ?_) | (refine ZrN 0 fun _ => ?_; refine Zal 2 fun b2 => ?_; refine Zv Zav ?_) | (refine ZrN 1 fun _ => ?_; refine Zv Zav ?_) | (refine ZrG 2 ?_; refine Zv Zf0 ?_; refine Zv Zld ?_; refine Zv Zxlen ?_; refine Zcl (Enters_fn rfl) (within_d N w0 _ _ _ _) ?_; refine Zv Zmb ?_)) | (refine Zhp ?_))
  all_goals try exact QBody_panic ⟨L, (by repeat (first | exact Wk.refl _ | apply Wk.keep1 | apply Wk.drop | apply Wk.sv | apply Wk.svD | apply Wk.appD)), .inr (.inr ⟨vB_num (by unfold numB; rw [decide_eq_false_iff_not]; simp only [decide_eq_false_iff_not] at hc; omega), rfl, rfl⟩)⟩
  have hnum : numB g.d = true := by
    simp only [decide_eq_true_eq] at hc
    unfold numB
    rw [decide_eq_true_eq]
    omega
  clear hc
  have hnb := hnum
  simp only [numB, decide_eq_true_eq] at hnb
  repeat' (first | (refine Znh ?_) | (refine GiW ?_; first | (refine Zsq fun K hK => ?_) | (refine ZrN 3 fun _ => ?_; refine Zv Zla ?_; refine Zam 37 fun b37 => ?_; refine Zv Zxbu ?_; refine Zal 39 fun b39 => ?_; refine Zv Zav ?_) | (refine ZrN 4 fun _ => ?_; refine Zv Zf0 ?_; refine Zv Zld ?_; refine Zv Zxlen ?_; refine Zv Zmi ?_) | (with_reducible apply WP_block)))
  refine WP_loop [8, 43, 44, 45, 46, 47, 48, 49, 50, 51, 52, 53, 54, 55, 56, 57, 58] (fun k : Nat => [(43, .int .i64 (k : Int))]) (fun _ => (b39, Blk 85 [.slice g.A1 g.d.banks.length g.c1, .slice g.A2 g.d.ways.length g.c2, .slice g.A3 g.d.rights.length g.c3, .slice g.A4 g.d.seen.length g.c4, .map (some b37)]) :: (b37, Is (.map #[] 0)) :: (b2, Blk 29 [.slice g.A1 g.d.banks.length g.c1, .slice g.A2 g.d.ways.length g.c2, .slice g.A3 g.d.rights.length g.c3, .slice g.A4 g.d.seen.length g.c4]) :: L) (fun k => k ≤ g.d.banks.length ∧ (g.d.banks.take k).all bkB = true) (fun k => g.d.banks.length - k) 0 (.cons rfl .nil) (Wk.refl _) ⟨Nat.zero_le _, rfl⟩ ?_
  rintro k j ⟨hk, hall⟩
  by_cases hlt : k < g.d.banks.length
  · obtain ⟨bA, oA, hA1, hbA, hcA⟩ := hA.banks.row k hlt
    obtain ⟨t, ht⟩ : ∃ t, g.d.banks[k] = t := ⟨_, rfl⟩
    have htm : t ∈ g.d.banks := by rw [← ht]; exact List.getElem_mem hlt
    rw [ht] at hcA
    unfold bkL at hcA
    have h1 := fun L => open1_ret N w0 L t.lv
    have h2 := fun L => open1_ret N w0 L t.yd
    have hbk : bkB t = (spB t.lv && spB t.yd) := rfl
    obtain ⟨x, hx⟩ : ∃ x, spB t.lv = x := ⟨_, rfl⟩
    obtain ⟨y, hy⟩ : ∃ y, spB t.yd = y := ⟨_, rfl⟩
    rw [hx] at h1 hbk
    rw [hy] at h2 hbk
    repeat' (first | (refine GiP ?_; first | (refine Znh ?_) | (with_reducible refine Znl ?_) | (refine Zatd 56 ?_; (first | (refine Zv Zxpt ?_) | (refine Zv Zxpf ?_)); (refine OPS_must (Enters_fn rfl) rfl rfl rfl (fun hc => ?_) (fun hc => ?_) <;> (try (exfalso; simp at hc; done)))) | (refine Zatd 52 ?_; first | refine Zsk ?_ | (refine Zv Zmv ?_)) | (refine Zatd 53 ?_; first | refine Zsk ?_ | (refine Zv Zfa ?_)) | (refine Zatd 54 ?_; first | refine Zsk ?_ | (refine Zv Zla ?_)) | (refine Zatd 55 ?_; first | refine Zsk ?_ | (refine Zcl (Enters_val rfl rfl) (h1 _) ?_) | (refine Zcl (Enters_val rfl rfl) (h2 _) ?_)) | (refine Zsp (fun hc => ?_) (fun hc => ?_) <;> (try (exfalso; omega)))) | (refine GiW ?_; first | (refine Zsq fun K hK => ?_) | (refine ZrN 5 fun _ => ?_; refine Zv Zxlss ?_) | (refine ZrN 6 fun _ => ?_; refine Zv Zia ?_; refine Zv Zla ?_; refine Zal 8 fun b8 => ?_; refine Zst ?_) | (refine ZrG 7 ?_; refine Zv Zmv ?_; refine Zv Zf0 ?_; refine Zv Zla ?_; (first | (refine Zcl (Enters_val rfl rfl) (h1 _) ?_) | (refine Zcl (Enters_val rfl rfl) (h2 _) ?_)); refine Zv Zmb ?_) | (refine ZrN 8 fun _ => ?_; refine Zv Zxadd ?_; refine Zv Zmi ?_) | (refine Zcd (fun hc => ?_) (fun hc => ?_) <;> (try (exfalso; omega))) | (with_reducible apply WP_skip) | (with_reducible apply WP_block)) | (refine Zhn ?_) | (with_reducible apply QBlock_normal) | (refine Zhp ?_) | (with_reducible apply QBlock_panic) | (with_reducible apply QLoop_panic))
    · exact QLoop_normal (k + 1) (.cons rfl .nil) (by repeat (first | exact Off.frame rfl | exact Off.refl _ _ | refine Off.frameT rfl rfl ?_ | refine Off.upd rfl ?_ | refine Off.updO rfl ?_)) (by repeat (first | exact Wk.refl _ | apply Wk.keep1 | apply Wk.drop | apply Wk.sv | apply Wk.svD | apply Wk.appD)) ⟨by omega, all_snoc hlt hall (by rw [ht, hbk]; simp [*])⟩ (by omega)
    all_goals exact QBody_panic ⟨L, (by repeat (first | exact Wk.refl _ | apply Wk.keep1 | apply Wk.drop | apply Wk.sv | apply Wk.svD | apply Wk.appD)), .inr (.inr ⟨vB_bk htm (by rw [hbk]; simp [*]), rfl, rfl⟩)⟩
  have hbanks : g.d.banks.all bkB = true := by rw [show k = g.d.banks.length by omega, List.take_length] at hall; exact hall
  clear hall
  have hcc := fun L b c hm => concat_tri N w0 L b c g.A2 g.A4 g.c2 g.c4 g.d.ways g.d.seen hA.ways hA.seen (by omega) (by omega) hm
  repeat' (first | (refine Znh ?_) | (refine GiW ?_; first | (refine Zsq fun K hK => ?_) | (refine ZrN 5 fun _ => ?_; refine Zv Zxlss ?_) | (refine ZrN 9 fun _ => ?_; refine Zv Zfa ?_; refine Zv Zld ?_; refine Zv Zfa ?_; refine Zv Zld ?_; refine Zal 63 fun b63 => ?_; refine OPS_retKS (Enters_fn rfl) (hcc _ _ _ (by repeat (first | exact Mem.here | assumption | apply Mem.there | apply Mem.sv | apply Mem.app))) rfl rfl rfl (fun v64 L64 h64 => ?_); obtain ⟨s64, rfl, hs64, rfl⟩ := h64; obtain ⟨A64, c64, e64, hrd⟩ := RdRows.sv (E := 32) (by omega) hs64; rw [e64]; refine Zv Zxlen ?_; refine Zv Zmi ?_) | (refine Zcd (fun hc => ?_) (fun hc => ?_) <;> (try (exfalso; omega))) | (with_reducible apply WP_block) | (with_reducible apply WP_exit)) | (refine Zhn ?_) | (refine Zhx ?_) | (with_reducible apply QBlock_hit) | (with_reducible apply QLoop_exit))
  have h64l : (g.d.ways ++ g.d.seen).length ≤ 11 := by rw [List.length_append]; omega
  obtain ⟨g', hg'⟩ : ∃ g' : Fg, { g with b := b39, m := b37 } = g' := ⟨_, rfl⟩
  have hgd : g'.d = g.d := by rw [← hg']
  have hgb : g'.b = b39 := by rw [← hg']
  have hbl : bogL g' = [.slice g.A1 g.d.banks.length g.c1, .slice g.A2 g.d.ways.length g.c2, .slice g.A3 g.d.rights.length g.c3, .slice g.A4 g.d.seen.length g.c4, .map (some b37)] := by rw [← hg']; rfl
  have hid := fun L a b hm => areTwo_ret N w0 L g' a b (by rw [hgd]; omega) hm
  rw [hgd, hgb, hbl] at hid
  refine WP_loop [10, 66, 67, 68, 69, 70, 71, 72, 73, 74, 75, 76, 77] (fun k : Nat => [(66, .int .i64 (k : Int))]) (fun _ => svH 32 2 (g.d.ways ++ g.d.seen).length ((g.d.ways ++ g.d.seen).map spL).flatten s64 ((b63, Blk 26 [.slice g.A2 g.d.ways.length g.c2, .slice g.A4 g.d.seen.length g.c4]) :: (b39, Blk 85 [.slice g.A1 g.d.banks.length g.c1, .slice g.A2 g.d.ways.length g.c2, .slice g.A3 g.d.rights.length g.c3, .slice g.A4 g.d.seen.length g.c4, .map (some b37)]) :: (b37, Is (.map #[] 0)) :: (b2, Blk 29 [.slice g.A1 g.d.banks.length g.c1, .slice g.A2 g.d.ways.length g.c2, .slice g.A3 g.d.rights.length g.c3, .slice g.A4 g.d.seen.length g.c4]) :: L)) (fun k => k ≤ (g.d.ways ++ g.d.seen).length ∧ ((g.d.ways ++ g.d.seen).take k).all (fun w => twoB g.d.banks.length w.1 w.2) = true) (fun k => (g.d.ways ++ g.d.seen).length - k) 0 (.cons rfl .nil) (Wk.refl _) ⟨Nat.zero_le _, rfl⟩ ?_
  rintro k2 j2 ⟨hk2, hall2⟩
  by_cases hlt2 : k2 < (g.d.ways ++ g.d.seen).length
  · have hrow := fun L' (hk : Wk L' (svH 32 2 (g.d.ways ++ g.d.seen).length ((g.d.ways ++ g.d.seen).map spL).flatten s64 [])) => (hrd N w0 L' ((g.d.ways ++ g.d.seen).map spL) hk rfl (map_len (f := spL) (fun _ => rfl) _)).row k2 hlt2
    obtain ⟨t, ht⟩ : ∃ t, (g.d.ways ++ g.d.seen)[k2] = t := ⟨_, rfl⟩
    have htm : t ∈ g.d.ways ++ g.d.seen := by rw [← ht]; exact List.getElem_mem hlt2
    rw [ht] at hrow
    obtain ⟨bA, oA, hA1, -⟩ := hrow (svH 32 2 (g.d.ways ++ g.d.seen).length ((g.d.ways ++ g.d.seen).map spL).flatten s64 ((b63, Blk 26 [.slice g.A2 g.d.ways.length g.c2, .slice g.A4 g.d.seen.length g.c4]) :: (b39, Blk 85 [.slice g.A1 g.d.banks.length g.c1, .slice g.A2 g.d.ways.length g.c2, .slice g.A3 g.d.rights.length g.c3, .slice g.A4 g.d.seen.length g.c4, .map (some b37)]) :: (b37, Is (.map #[] 0)) :: (b2, Blk 29 [.slice g.A1 g.d.banks.length g.c1, .slice g.A2 g.d.ways.length g.c2, .slice g.A3 g.d.rights.length g.c3, .slice g.A4 g.d.seen.length g.c4]) :: L)) Wk.sv0
    unfold spL at hrow
    have hrd3 : ∀ L', Wk L' (svH 32 2 (g.d.ways ++ g.d.seen).length ((g.d.ways ++ g.d.seen).map spL).flatten s64 []) → ∀ j v, [Value.int .i64 t.1, .int .i64 t.2][j]? = some v → Rd N w0 L' bA (oA + k2 * 2 + j) v := by
      intro L' hL j v hj
      obtain ⟨b', o', h6, h7⟩ := hrow L' hL
      rw [hA1] at h6
      simp only [Option.some.injEq, Addr.mk.injEq, and_true] at h6
      obtain ⟨rfl, rfl⟩ := h6
      exact h7 j v hj
    obtain ⟨tb, htb⟩ : ∃ tb, twoB g.d.banks.length t.1 t.2 = tb := ⟨_, rfl⟩
    have hid2 := fun L hm => hid L t.1 t.2 hm
    rw [htb] at hid2
    repeat' (first | (refine GiP ?_; first | (refine Znh ?_) | (with_reducible refine Znl ?_)) | (refine GiW ?_; first | (refine Zsq fun K hK => ?_) | (refine ZrN 10 fun _ => ?_; refine Zv Zxlss ?_) | (refine ZrN 11 fun _ => ?_; refine Zv Zia ?_; (first | (refine Zv (Val_loadDN rfl (hrd3 _ Wk.sv0) rfl) ?_) | (refine Zv Zla ?_)); refine Zal 10 fun b10 => ?_; refine Zst ?_) | (refine ZrN 12 fun _ => ?_; refine Zv Zmv ?_; refine Zv Zf0 ?_; (first | (refine Zv (Val_loadDN rfl (hrd3 _ Wk.sv0) rfl) ?_) | (refine Zv Zld ?_)); refine Zv Zfa ?_; (first | (refine Zv (Val_loadDN rfl (hrd3 _ Wk.sv0) rfl) ?_) | (refine Zv Zld ?_)); refine Zcl (Enters_fn rfl) (hid2 _ (by repeat (first | exact Mem.here | assumption | apply Mem.there | apply Mem.sv | apply Mem.app))) ?_; (refine OPS_must (Enters_fn rfl) rfl rfl rfl (fun hc => ?_) (fun hc => ?_) <;> (try (exfalso; simp at hc; done)))) | (refine ZrN 13 fun _ => ?_; refine Zv Zxadd ?_; refine Zv Zmi ?_) | (refine Zcd (fun hc => ?_) (fun hc => ?_) <;> (try (exfalso; omega))) | (with_reducible apply WP_skip) | (with_reducible apply WP_block)) | (refine Zhn ?_) | (with_reducible apply QBlock_normal) | (refine Zhp ?_) | (with_reducible apply QBlock_panic) | (with_reducible apply QLoop_panic))
    · exact QLoop_normal (k2 + 1) (.cons rfl .nil) (by repeat (first | exact Off.frame rfl | exact Off.refl _ _ | refine Off.frameT rfl rfl ?_ | refine Off.upd rfl ?_ | refine Off.updO rfl ?_)) (by repeat (first | exact Wk.refl _ | apply Wk.keep1 | apply Wk.drop | apply Wk.sv | apply Wk.svD | apply Wk.appD)) ⟨by omega, all_snoc hlt2 hall2 (by rw [ht, htb]; exact hc)⟩ (by omega)
    all_goals exact QBody_panic ⟨L, (by repeat (first | exact Wk.refl _ | apply Wk.keep1 | apply Wk.drop | apply Wk.sv | apply Wk.svD | apply Wk.appD)), .inr (.inr ⟨vB_wy htm (by rw [htb]; exact hc), rfl, rfl⟩)⟩
  have hways : (g.d.ways ++ g.d.seen).all (fun w => twoB g.d.banks.length w.1 w.2) = true := by rw [show k2 = (g.d.ways ++ g.d.seen).length by omega, List.take_length] at hall2; exact hall2
  repeat' (first | (refine Znh ?_) | (refine GiW ?_; first | (refine Zsq fun K hK => ?_) | (refine ZrN 10 fun _ => ?_; refine Zv Zxlss ?_) | (refine ZrN 14 fun _ => ?_; refine Zv Zfa ?_; refine Zv Zld ?_; refine Zv Zxlen ?_; refine Zv Zmi ?_) | (refine Zcd (fun hc => ?_) (fun hc => ?_) <;> (try (exfalso; omega))) | (with_reducible apply WP_block) | (with_reducible apply WP_exit)) | (refine Zhn ?_) | (refine Zhx ?_) | (with_reducible apply QBlock_hit) | (with_reducible apply QLoop_exit))
  refine WP_loop [12, 81, 82, 83, 84, 85, 86, 87, 88, 89, 90, 91, 92, 93, 94, 95, 96, 97] (fun k : Nat => [(81, .int .i64 (k : Int))]) (fun _ => svH 32 2 (g.d.ways ++ g.d.seen).length ((g.d.ways ++ g.d.seen).map spL).flatten s64 ((b63, Blk 26 [.slice g.A2 g.d.ways.length g.c2, .slice g.A4 g.d.seen.length g.c4]) :: (b39, Blk 85 [.slice g.A1 g.d.banks.length g.c1, .slice g.A2 g.d.ways.length g.c2, .slice g.A3 g.d.rights.length g.c3, .slice g.A4 g.d.seen.length g.c4, .map (some b37)]) :: (b37, Is (.map #[] 0)) :: (b2, Blk 29 [.slice g.A1 g.d.banks.length g.c1, .slice g.A2 g.d.ways.length g.c2, .slice g.A3 g.d.rights.length g.c3, .slice g.A4 g.d.seen.length g.c4]) :: L)) (fun k => k ≤ g.d.rights.length ∧ (g.d.rights.take k).all (rtB g.d.banks.length) = true) (fun k => g.d.rights.length - k) 0 (.cons rfl .nil) (Wk.refl _) ⟨Nat.zero_le _, rfl⟩ ?_
  rintro k3 j3 ⟨hk3, hall3⟩
  by_cases hlt3 : k3 < g.d.rights.length
  · obtain ⟨bA, oA, hA1, hbA, hcA⟩ := hA.rights.row k3 hlt3
    obtain ⟨t, ht⟩ : ∃ t, g.d.rights[k3] = t := ⟨_, rfl⟩
    have htm : t ∈ g.d.rights := by rw [← ht]; exact List.getElem_mem hlt3
    rw [ht] at hcA
    unfold rtL at hcA
    have hrt : rtB g.d.banks.length t = (twoB g.d.banks.length t.a t.b && decide (0 ≤ t.most ∧ t.most ≤ 100)) := rfl
    obtain ⟨tb, htb⟩ : ∃ tb, twoB g.d.banks.length t.a t.b = tb := ⟨_, rfl⟩
    have hid2 := fun L hm => hid L t.a t.b hm
    rw [htb] at hid2 hrt
    repeat' (first | (refine GiP ?_; first | (refine Znh ?_) | (with_reducible refine Znl ?_) | (refine Zatd 95 ?_; (first | (refine Zv Zxpt ?_) | (refine Zv Zxpf ?_)); (refine OPS_must (Enters_fn rfl) rfl rfl rfl (fun hc => ?_) (fun hc => ?_) <;> (try (exfalso; simp at hc; done)))) | (refine Zatd 92 ?_; first | refine Zsk ?_ | (refine Zv Zfa ?_)) | (refine Zatd 93 ?_; first | refine Zsk ?_ | (refine Zv Zld ?_)) | (refine Zatd 94 ?_; first | refine Zsk ?_ | (refine Zcl (Enters_fn rfl) (within_d N w0 _ _ _ _) ?_)) | (refine Zsp (fun hc => ?_) (fun hc => ?_) <;> (try (exfalso; omega)))) | (refine GiW ?_; first | (refine Zsq fun K hK => ?_) | (refine ZrN 15 fun _ => ?_; refine Zv Zxlss ?_) | (refine ZrN 16 fun _ => ?_; refine Zv Zia ?_; refine Zv Zla ?_; refine Zal 12 fun b12 => ?_; refine Zst ?_) | (refine ZrG 17 ?_; refine Zv Zmv ?_; refine Zv Zf0 ?_; refine Zv Zld ?_; refine Zv Zfa ?_; refine Zv Zld ?_; refine Zcl (Enters_fn rfl) (hid2 _ (by repeat (first | exact Mem.here | assumption | apply Mem.there | apply Mem.sv | apply Mem.app))) ?_; refine Zv Zmb ?_) | (refine ZrN 18 fun _ => ?_; refine Zv Zxadd ?_; refine Zv Zmi ?_) | (refine Zcd (fun hc => ?_) (fun hc => ?_) <;> (try (exfalso; omega))) | (with_reducible apply WP_skip) | (with_reducible apply WP_block)) | (refine Zhn ?_) | (with_reducible apply QBlock_normal) | (refine Zhp ?_) | (with_reducible apply QBlock_panic) | (with_reducible apply QLoop_panic))
    · exact QLoop_normal (k3 + 1) (.cons rfl .nil) (by repeat (first | exact Off.frame rfl | exact Off.refl _ _ | refine Off.frameT rfl rfl ?_ | refine Off.upd rfl ?_ | refine Off.updO rfl ?_)) (by repeat (first | exact Wk.refl _ | apply Wk.keep1 | apply Wk.drop | apply Wk.sv | apply Wk.svD | apply Wk.appD)) ⟨by omega, all_snoc hlt3 hall3 (by rw [ht, hrt, hc]; simp [*])⟩ (by omega)
    · exact QBody_panic ⟨L, (by repeat (first | exact Wk.refl _ | apply Wk.keep1 | apply Wk.drop | apply Wk.sv | apply Wk.svD | apply Wk.appD)), .inr (.inr ⟨vB_rt htm (by rw [hrt, hc]; simp), rfl, rfl⟩)⟩
    all_goals exact QBody_panic ⟨L, (by repeat (first | exact Wk.refl _ | apply Wk.keep1 | apply Wk.drop | apply Wk.sv | apply Wk.svD | apply Wk.appD)), .inr (.inr ⟨vB_rt htm (by rw [hrt]; simp [*]), rfl, rfl⟩)⟩
  have hrights : g.d.rights.all (rtB g.d.banks.length) = true := by rw [show k3 = g.d.rights.length by omega, List.take_length] at hall3; exact hall3
  have hvb := vB_all hnum hbanks hways hrights
  have hqb := fun L' h => hq b39 b37 L' h (VD_of hvb)
  rw [hg', hbl] at hqb
  repeat' (first | (refine Znh ?_) | (refine GiW ?_; first | (refine Zsq fun K hK => ?_) | (refine ZrN 15 fun _ => ?_; refine Zv Zxlss ?_) | (refine ZrN 19 fun _ => ?_; refine Zv Zmv ?_; refine Zv Zmv ?_; refine Zcl (Enters_val rfl rfl) (hqb _ (by repeat (first | exact Sub.refl _ | assumption | exact Sub.left | (with_reducible refine Sub.pick (by repeat (first | exact Pick.here | apply Pick.there)) ?_) | apply Sub.cons | apply Sub.sv | apply Sub.app))) ?_; (refine OPS_must (Enters_fn rfl) rfl rfl rfl (fun hc => ?_) (fun hc => ?_) <;> (try (exfalso; simp at hc; done)))) | (refine ZrN 20 fun _ => ?_; refine Zv Zmv ?_; refine Zv Zav ?_) | (refine Zcd (fun hc => ?_) (fun hc => ?_) <;> (try (exfalso; omega))) | (with_reducible apply WP_exit) | (with_reducible apply WP_ret)) | (refine Zhn ?_) | (refine Zhx ?_) | (with_reducible apply QBlock_hit) | (with_reducible apply QLoop_exit) | (refine Zhp ?_))
  · refine QBody_ret1 rfl (rfl : _ = Value.pointer _) ⟨Fk { g with b := b39, m := b37 } [] ++ L, ?_, .inl ⟨hvb, hc, b39, b37, rfl, rfl⟩⟩
    show Wk _ _
    cases s64 <;> simp only [svH] <;> first
      | exact .drop (.keep1 (.keep (fun o ho => by rw [show o = _ from ho]; exact mapRel_new _ _) (.drop (.refl _))))
      | exact .drop (.drop (.keep1 (.keep (fun o ho => by rw [show o = _ from ho]; exact mapRel_new _ _) (.drop (.refl _)))))
  · exact QBody_panic ⟨L, (by repeat (first | exact Wk.refl _ | apply Wk.keep1 | apply Wk.drop | apply Wk.sv | apply Wk.svD | apply Wk.appD)), .inr (.inl ⟨hvb, hc, rfl, rfl⟩)⟩
end
end Go.Proofs.Ytbhgpnbfdjoglaa
end
