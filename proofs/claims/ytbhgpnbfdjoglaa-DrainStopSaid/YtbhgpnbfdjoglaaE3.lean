/- The law's each: all levels that are right, in order. -/
import Derived.Test.YtbhgpnbfdjoglaaE2
section
namespace Go.Proofs.Ytbhgpnbfdjoglaa
open Go.RowKit
theorem rightB_no {d : Dr} {lv : List Int} {w : Sp} (hw : w ∈ d.seen) (h : codeO (nxt d.ways lv w.1.toNat) ≠ w.2) : rightB d lv = false := by
  cases hr : rightB d lv with
  | false => rfl
  | true => exact absurd (rightB_iff.1 hr w hw) h
/-- What a law's function does with each level: the heap goes from J k to J (k + 1). -/
structure OnOK (N : Nat) (w0 : World) (d : Dr) (J : Nat → Hp) (q : FuncId) (qc : List Value) : Prop where
  on : ∀ k (hk : k < (rowsD d).length), rightB d (rowsD d)[k] = true → ∀ (F : Hp) (A : Option Addr) (c : Nat), (∀ L', Sub F L' → RdI N w0 L' A (rowsD d)[k]) → Tri Try.prog N w0 (F ++ J k) q (.slice A d.banks.length c :: qc).toArray fun x L' => x = .returned (.tuple #[]) ∧ L' = F ++ J (k + 1)
  no : ∀ k (hk : k < (rowsD d).length), rightB d (rowsD d)[k] = false → J (k + 1) = J k
theorem ints_flat (l : List Int) : ints l = (i1 l).flatten := by
  induction l with
  | nil => rfl
  | cons x l ih => simp only [ints, i1, List.map_cons, List.flatten_cons, List.cons_append, List.nil_append] at ih ⊢; rw [ih]
def eachB (g : Fg) (q : FuncId) (qc : List Value) (b2 b3 b4 : Nat) : Hp := [(b4, Blk 62 [.func (.func 81) #[] #[.pointer (some ⟨b2, 0, none⟩), .pointer (some ⟨b4, 0, none⟩), .pointer (some ⟨b3, 0, none⟩)]]), (b3, Blk 62 [.func (.func q) #[] qc.toArray]), (b2, Blk 29 (drL g))]
attribute [local irreducible] AnyO AnyB QAny QB EWalk AWalk Ev WP OPS QThen QBlock QScope QLoop QBody Val New Turn Tri Enters PostA Blk Ro
attribute [local irreducible] AnyC QC
section
variable (N : Nat) (w0 : World)
set_option maxHeartbeats 8000000 in
/-- All banks have levels. -/
theorem each_leaf (g : Fg) (hA : DrAt N w0 g) (hv : VD g.d) (J : Nat → Hp) (q : FuncId) [HasBody Try.prog q] (qc : List Value) (hon : OnOK N w0 g.d J q qc) (b2 b3 b4 : Nat) (k : Nat) (hk : k < (rowsD g.d).length) (p : List Int) (hp : (rowsD g.d)[k] = p) (F : Hp) (A : Option Addr) (c : Nat) (hrd : ∀ L', Sub F L' → RdI N w0 L' A p) :
    Tri Try.prog N w0 (F ++ (eachB g q qc b2 b3 b4 ++ J k)) 81 [.slice A g.d.banks.length c, .pointer (some ⟨b2, 0, none⟩), .pointer (some ⟨b4, 0, none⟩), .pointer (some ⟨b3, 0, none⟩)].toArray fun x L' => x = .returned (.tuple #[]) ∧ L' = F ++ (eachB g q qc b2 b3 b4 ++ J (k + 1)) := by
  have hnb := hv.nb
  have hns := hv.ns
  have hpl : p.length = g.d.banks.length := by rw [← hp]; exact rowsD_len (List.getElem_mem hk)
  have hcr := fun L h => courses_tri N w0 L g hA hv p hpl A c h 0 (by omega)
  have hk0 : keepL 0 g.d.ways 0 = g.d.ways := keepL_zero _ _
  simp only [crsO_cdL, hk0] at hcr
  rw [hpl] at hcr
  obtain ⟨cl, hcl⟩ : ∃ cl, cdL g.d.banks.length (nxt g.d.ways p) = cl := ⟨_, rfl⟩
  have hlv : ∀ x, x < g.d.banks.length → lvl cl x = codeO (nxt g.d.ways p x) := fun x hx => by rw [← hcl]; exact cdL_lvl hx
  have hcll : cl.length = g.d.banks.length := by rw [← hcl]; exact cdL_len _ _
  rw [hcl] at hcr
  refine Tri.fgt ?_
  refine tri_of_WP Try.func81 rfl (n := _) rfl (by simp) ?_
  have m2 : Mem b2 (Blk 29 [.slice g.A1 g.d.banks.length g.c1, .slice g.A2 g.d.ways.length g.c2, .slice g.A3 g.d.rights.length g.c3, .slice g.A4 g.d.seen.length g.c4]) (F ++ (eachB g q qc b2 b3 b4 ++ J k)) := .app F (.there (.there .here))
  have m3 : Mem b3 (Blk 62 [.func (.func q) #[] qc.toArray]) (F ++ (eachB g q qc b2 b3 b4 ++ J k)) := .app F (.there .here)
  obtain ⟨H, hH⟩ : ∃ H, F ++ (eachB g q qc b2 b3 b4 ++ J k) = H := ⟨_, rfl⟩
  have hFH : Sub F H := by rw [← hH]; exact .left
  rw [hH] at m2 m3 ⊢
  have hcr2 := hcr H (hrd H hFH)
  unfold drV drL at hcr2
  repeat' (first | (refine GiP ?_; first | (refine Znh ?_) | (with_reducible refine Znl ?_)) | (refine GiW ?_; first | (refine Zsq fun K hK => ?_) | (refine ZrN 0 fun _ => ?_; refine Zv Zmv ?_; refine Zv Zxlen ?_; refine Zv Zai ?_) | (refine ZrN 1 fun _ => ?_; refine Zv Zmi ?_; refine Zv Zf0 ?_; refine Zv Zld ?_; refine Zv Zxlen ?_; refine Zv Zxlss ?_) | (refine ZrN 6 fun _ => ?_; refine Zv Zla ?_; refine Zv Zmv ?_; refine OPS_retKS (Enters_fn rfl) hcr2 rfl rfl rfl (fun v45 L45 h45 => ?_); obtain ⟨s45, rfl, hs45, rfl⟩ := h45; refine Zv Zav ?_) | (refine ZrN 7 fun _ => ?_; refine Zv Zfa ?_; refine Zv Zld ?_; refine Zv Zxlen ?_; refine Zv Zmi ?_) | (refine WP_cond_true rfl ?_) | (refine WP_cond_false rfl ?_) | (refine Zcd (fun hc => ?_) (fun hc => ?_) <;> (try (exfalso; omega))) | (with_reducible apply WP_skip) | (with_reducible apply WP_block) | (with_reducible apply WP_exit) | (with_reducible apply WP_ret)) | (refine Zhn ?_) | (with_reducible apply QBlock_normal) | (refine Zhx ?_) | (with_reducible apply QBlock_hit) | (refine Zqb ?_) | (with_reducible apply QLoop_exit) | (refine Zhr ?_) | (with_reducible apply QBlock_ret) | (with_reducible apply QLoop_ret))
  obtain ⟨Ac, cc, ec, hrc⟩ := RdRows.sv (E := 3) (by omega) hs45
  rw [ec]
  have hrcl : ∀ L', Wk L' (svH 3 1 g.d.banks.length (ints cl) s45 []) → RdI N w0 L' Ac cl := fun L' hL => hrc N w0 L' (i1 cl) hL (ints_flat cl) (by intro r hr; simp only [i1, List.mem_map] at hr; obtain ⟨_, _, rfl⟩ := hr; rfl)
  obtain ⟨bC, oC, rfl⟩ : ∃ bC oC, Ac = some ⟨bC, oC, none⟩ := by
    obtain ⟨b, o, h, _⟩ := RdRows.row (hrcl _ Wk.sv0 : RdI N w0 (svH 3 1 g.d.banks.length (ints cl) s45 []) Ac cl) 0 (by omega)
    exact ⟨b, o, h⟩
  refine WP_loop [9, 49, 50, 51, 52, 53, 54, 55, 56, 57, 58, 59, 60, 61] (fun i : Nat => [(49, .int .i64 (i : Int))]) (fun _ => svH 3 1 g.d.banks.length (ints cl) s45 H) (fun i => i ≤ g.d.seen.length ∧ (g.d.seen.take i).all (fun w => codeO (nxt g.d.ways p w.1.toNat) == w.2) = true) (fun i => g.d.seen.length - i) 0 (.cons rfl .nil) (Wk.refl _) ⟨Nat.zero_le _, rfl⟩ ?_
  rintro i j ⟨hi, hall⟩
  by_cases hlt : i < g.d.seen.length
  · obtain ⟨bS, oS, hA4, hbS, hcS⟩ := hA.seen.row i hlt
    have hsn := all_take_succ (p := fun w : Sp => codeO (nxt g.d.ways p w.1.toNat) == w.2) hlt
    rw [hall, Bool.true_and] at hsn
    obtain ⟨t, ht⟩ : ∃ t, g.d.seen[i] = t := ⟨_, rfl⟩
    have htm : t ∈ g.d.seen := by rw [← ht]; exact List.getElem_mem hlt
    have htw := hv.se t htm
    rw [ht] at hcS hsn
    obtain ⟨t1, t2⟩ := t
    dsimp only at htw hsn
    obtain ⟨x1, rfl⟩ : ∃ x : Nat, t1 = x := ⟨t1.toNat, by omega⟩
    unfold spL at hcS
    dsimp only at hcS
    have hld : ∀ L', Wk L' (svH 3 1 g.d.banks.length (ints cl) s45 []) → Rd N w0 L' bC (oC + x1) (.int .i64 (codeO (nxt g.d.ways p x1))) := fun L' hL => by
      have := (hrcl L' hL).at_ (i := x1) (by omega)
      rwa [hlv x1 (by omega)] at this
    rw [Int.toNat_natCast] at hsn
    obtain ⟨z, hz⟩ : ∃ z, codeO (nxt g.d.ways p x1) = z := ⟨_, rfl⟩
    rw [hz] at hld hsn
    by_cases hzt : z = t2
    · repeat' (first | (refine GiP ?_; first | (refine Znh ?_) | (with_reducible refine Znl ?_)) | (refine GiW ?_; first | (refine Zsq fun K hK => ?_) | (refine ZrN 8 fun _ => ?_; refine Zv Zylss ?_) | (refine ZrN 9 fun _ => ?_; refine Zv Zia ?_; (first | (refine Zv (Val_loadD1 rfl (hld _ (.drop Wk.sv0))) ?_) | (refine Zv Zla ?_)); refine Zal 9 fun b9 => ?_; refine Zst ?_) | (refine ZrN 11 fun _ => ?_; refine Zv Zxadd ?_; refine Zv Zmi ?_) | (refine WP_cond_true rfl ?_) | (refine WP_cond_false rfl ?_) | (refine Zcd (fun hc => ?_) (fun hc => ?_) <;> (try (exfalso; omega))) | (with_reducible apply WP_skip) | (with_reducible apply WP_block) | (with_reducible apply WP_exit) | (with_reducible apply WP_ret) | (refine WP_drawn (id := 10) [0, 1, 2, 3, 4, 5, 6, 7] [] (k := 0) prog_mixed (by kernel_rfl) rfl ?_; refine Zew rfl Zmv ?_; refine Zew rfl Zf0 ?_; (first | (refine Zew rfl (Val_loadD1 rfl (hld _ (.drop Wk.sv0))) ?_) | (refine Zew rfl Zld ?_)); refine Zew rfl Zia ?_; (first | (refine Zew rfl (Val_loadD1 rfl (hld _ (.drop Wk.sv0))) ?_) | (refine Zew rfl Zld ?_)); refine Zew rfl Zfa ?_; (first | (refine Zew rfl (Val_loadD1 rfl (hld _ (.drop Wk.sv0))) ?_) | (refine Zew rfl Zld ?_)); refine Zew rfl Zyneq ?_)) | (with_reducible apply EWalk_nil) | (refine AnyO_done (by kernel_rfl) ?_; (try with_reducible apply noP_normal); try with_reducible exact key.out) | (refine Zhn ?_) | (with_reducible apply QBlock_normal) | (refine Zhx ?_) | (with_reducible apply QBlock_hit) | (refine Zqb ?_) | (with_reducible apply QLoop_exit) | (refine Zhr ?_) | (with_reducible apply QBlock_ret) | (with_reducible apply QLoop_ret) | (refine AWalk_0 ?_; refine ZisO ?_) | (with_reducible apply QAny_normal))
      exact QLoop_normal (i + 1) (.cons rfl .nil) (by repeat (first | exact Off.frame rfl | exact Off.refl _ _ | refine Off.frameT rfl rfl ?_ | refine Off.upd rfl ?_ | refine Off.updO rfl ?_)) (by repeat (first | exact Wk.refl _ | apply Wk.keep1 | apply Wk.drop | apply Wk.sv | apply Wk.svD | apply Wk.appD)) ⟨by omega, by rw [hsn]; simp [hzt]⟩ (by omega)
    · have hno : rightB g.d p = false := rightB_no htm (by dsimp only; rw [Int.toNat_natCast, hz]; exact hzt)
      repeat' (first | (refine GiP ?_; first | (refine Znh ?_) | (with_reducible refine Znl ?_)) | (refine GiW ?_; first | (refine Zsq fun K hK => ?_) | (refine ZrN 8 fun _ => ?_; refine Zv Zylss ?_) | (refine ZrN 9 fun _ => ?_; refine Zv Zia ?_; (first | (refine Zv (Val_loadD1 rfl (hld _ (.drop Wk.sv0))) ?_) | (refine Zv Zla ?_)); refine Zal 9 fun b9 => ?_; refine Zst ?_) | (refine ZrN 11 fun _ => ?_; refine Zv Zxadd ?_; refine Zv Zmi ?_) | (refine WP_cond_true rfl ?_) | (refine WP_cond_false rfl ?_) | (refine Zcd (fun hc => ?_) (fun hc => ?_) <;> (try (exfalso; omega))) | (with_reducible apply WP_skip) | (with_reducible apply WP_block) | (with_reducible apply WP_exit) | (with_reducible apply WP_ret) | (refine WP_drawn (id := 10) [0, 1, 2, 3, 4, 5, 6, 7] [] (k := 0) prog_mixed (by kernel_rfl) rfl ?_; refine Zew rfl Zmv ?_; refine Zew rfl Zf0 ?_; (first | (refine Zew rfl (Val_loadD1 rfl (hld _ (.drop Wk.sv0))) ?_) | (refine Zew rfl Zld ?_)); refine Zew rfl Zia ?_; (first | (refine Zew rfl (Val_loadD1 rfl (hld _ (.drop Wk.sv0))) ?_) | (refine Zew rfl Zld ?_)); refine Zew rfl Zfa ?_; (first | (refine Zew rfl (Val_loadD1 rfl (hld _ (.drop Wk.sv0))) ?_) | (refine Zew rfl Zld ?_)); refine Zew rfl Zyneq ?_)) | (with_reducible apply EWalk_nil) | (refine AnyO_done (by kernel_rfl) ?_; (try with_reducible apply noP_normal); try with_reducible exact key.out) | (refine Zhn ?_) | (with_reducible apply QBlock_normal) | (refine Zhx ?_) | (with_reducible apply QBlock_hit) | (refine Zqb ?_) | (with_reducible apply QLoop_exit) | (refine Zhr ?_) | (with_reducible apply QBlock_ret) | (with_reducible apply QLoop_ret) | (refine AWalk_0 ?_; refine ZisO ?_) | (with_reducible apply QAny_normal))
      exact QBody_ret0 rfl ⟨H, (by repeat (first | exact Wk.refl _ | apply Wk.keep1 | apply Wk.drop | apply Wk.sv | apply Wk.svD | apply Wk.appD)), rfl, by rw [hon.no k hk (by rw [hp]; exact hno)]; exact hH.symm⟩
  · have hie : i = g.d.seen.length := by omega
    rw [hie, List.take_length] at hall
    have hyes : rightB g.d p = true := hall
    have hcall := hon.on k hk (by rw [hp]; exact hyes) (svH 3 1 g.d.banks.length (ints cl) s45 [] ++ (F ++ eachB g q qc b2 b3 b4)) A c (by rw [hp]; exact fun L' hL => hrd L' (Sub.trans (.app _ .left) hL))
    have e1 : ∀ k, (svH 3 1 g.d.banks.length (ints cl) s45 [] ++ (F ++ eachB g q qc b2 b3 b4)) ++ J k = svH 3 1 g.d.banks.length (ints cl) s45 (F ++ (eachB g q qc b2 b3 b4 ++ J k)) := fun k => by rw [List.append_assoc, svH_nil, List.append_assoc]
    rw [e1, e1, hH] at hcall
    have hcall2 : Tri Try.prog N w0 (svH 3 1 g.d.banks.length (ints cl) s45 H) q (.slice A g.d.banks.length c :: qc).toArray fun x L' => ∃ v, x = .returned v ∧ L' = svH 3 1 g.d.banks.length (ints cl) s45 (F ++ (eachB g q qc b2 b3 b4 ++ J (k + 1))) := hcall.mono fun x L' h => ⟨_, h.1, h.2⟩
    repeat' (first | (refine GiP ?_; first | (refine Znh ?_) | (with_reducible refine Znl ?_)) | (refine GiW ?_; first | (refine Zsq fun K hK => ?_) | (refine ZrN 8 fun _ => ?_; refine Zv Zxlss ?_) | (refine ZrN 12 fun _ => ?_; refine Zv Zld ?_; refine Zv Zmv ?_; refine OPS_retKS (Enters_val rfl rfl) hcall2 rfl rfl rfl (fun v64 L64 h64 => ?_); subst h64) | (refine WP_cond_true rfl ?_) | (refine WP_cond_false rfl ?_) | (refine Zcd (fun hc => ?_) (fun hc => ?_) <;> (try (exfalso; omega))) | (with_reducible apply WP_skip) | (with_reducible apply WP_block) | (with_reducible apply WP_exit) | (with_reducible apply WP_ret)) | (refine Zhn ?_) | (with_reducible apply QBlock_normal) | (refine Zhx ?_) | (with_reducible apply QBlock_hit) | (refine Zqb ?_) | (with_reducible apply QLoop_exit) | (refine Zhr ?_) | (with_reducible apply QBlock_ret) | (with_reducible apply QLoop_ret))
    exact QBody_end0 rfl ⟨F ++ (eachB g q qc b2 b3 b4 ++ J (k + 1)), (by repeat (first | exact Wk.refl _ | apply Wk.keep1 | apply Wk.drop | apply Wk.sv | apply Wk.svD | apply Wk.appD)), rfl, rfl⟩
theorem RdI.wkk {N : Nat} {w0 : World} {L L' : Hp} {A : Option Addr} {l : List Int} (h : RdI N w0 L A l) (k : Wk L' L) : RdI N w0 L' A l := fun i hi => by
  obtain ⟨b, o, h1, h2⟩ := h i hi
  exact ⟨b, o, h1, fun j v hj w hI => h2 j v hj w (hI.wk k)⟩
theorem rd_src {N : Nat} {w0 : World} {L : Hp} {A : Option Addr} {p : List Int} (h : RdI N w0 L A p) : ∀ w, Inv N w0 L w → ∀ j u, (ints p)[j]? = some u → ∃ b2 o2, A = some ⟨b2, o2, none⟩ ∧ w.cell? ⟨b2, o2 + j, none⟩ = some u := by
  intro w hI j u hu
  have hj : j < p.length := by
    have := (List.getElem?_eq_some_iff.1 hu).1
    rwa [ints_length] at this
  obtain ⟨b, o, rfl, _⟩ := RdRows.row h j hj
  refine ⟨b, o, rfl, ?_⟩
  have h1 := h.at_ hj w hI
  have h2 := ints_get hj
  rw [Nat.zero_add] at h2
  rw [h2] at hu
  simp only [Option.some.injEq] at hu
  rw [← hu]; exact h1
theorem vals_split (s : Sp) {j : Nat} (hj : j < (s.2 - s.1 + 1).toNat) : vals s = (vals s).take j ++ (s.1 + (j : Int)) :: (vals s).drop (j + 1) := by
  have hl : j < (vals s).length := by rw [vals_length]; exact hj
  conv => lhs; rw [← List.take_append_drop j (vals s), List.drop_eq_getElem_cons hl, vals_get s j hl]
theorem flatM_len {α : Type} (f : Int → List α) (n : Nat) : ∀ (l : List Int), (∀ v ∈ l, (f v).length = n) → (l.flatMap f).length = l.length * n
  | [], _ => by simp
  | v :: l, h => by
    rw [List.flatMap_cons, List.length_append, flatM_len f n l (fun x hx => h x (.tail _ hx)), h v (.head _), List.length_cons, Nat.succ_mul]; omega
set_option maxHeartbeats 8000000 in
theorem each_rec (g : Fg) (hA : DrAt N w0 g) (hv : VD g.d) (J : Nat → Hp) (q : FuncId) [HasBody Try.prog q] (qc : List Value) (hon : OnOK N w0 g.d J q qc) (b2 b3 b4 : Nat) :
    ∀ (r : Nat) (p : List Int) (pre post : List (List Int)) (F : Hp) (A : Option Addr) (c : Nat), r + p.length = g.d.banks.length → rowsD g.d = pre ++ ((allR ((g.d.banks.drop p.length).map (·.lv))).map (p ++ ·) ++ post) → (∀ L', Sub F L' → RdI N w0 L' A p) →
      Tri Try.prog N w0 (F ++ (eachB g q qc b2 b3 b4 ++ J pre.length)) 81 [.slice A p.length c, .pointer (some ⟨b2, 0, none⟩), .pointer (some ⟨b4, 0, none⟩), .pointer (some ⟨b3, 0, none⟩)].toArray fun x L' => x = .returned (.tuple #[]) ∧ L' = F ++ (eachB g q qc b2 b3 b4 ++ J (pre.length + (allR ((g.d.banks.drop p.length).map (·.lv))).length)) := by
  have hnb := hv.nb
  intro r
  induction r with
  | zero =>
    intro p pre post F A c hr hrows hrd
    have hpl : p.length = g.d.banks.length := by omega
    have hdr : g.d.banks.drop p.length = [] := List.drop_eq_nil_of_le (by omega)
    rw [hdr] at hrows ⊢
    have hrows2 : rowsD g.d = pre ++ p :: post := by rw [hrows]; simp [allR]
    have hk : pre.length < (rowsD g.d).length := by rw [hrows2]; simp
    have := each_leaf N w0 g hA hv J q qc hon b2 b3 b4 pre.length hk p (by simp [hrows2]) F A c hrd
    rw [hpl]
    exact this
  | succ r ih =>
    intro p pre post F A c hr hrows hrd
    have hpl : p.length < g.d.banks.length := by omega
    rw [List.drop_eq_getElem_cons hpl] at hrows ⊢
    obtain ⟨bA, oA, hA1, hbA, hcA⟩ := hA.banks.row p.length hpl
    obtain ⟨t, ht⟩ : ∃ t, g.d.banks[p.length] = t := ⟨_, rfl⟩
    have htb := hv.bk t (by rw [← ht]; exact List.getElem_mem hpl)
    rw [ht] at hrows hcA ⊢
    rw [List.map_cons] at hrows ⊢
    obtain ⟨R, hR⟩ : ∃ R, (g.d.banks.drop (p.length + 1)).map (·.lv) = R := ⟨_, rfl⟩
    rw [hR] at hrows ⊢
    obtain ⟨cnt, hcnt⟩ : ∃ cnt, (allR R).length = cnt := ⟨_, rfl⟩
    have hlen : (allR (t.lv :: R)).length = (t.lv.2 - t.lv.1 + 1).toNat * cnt := by
      show ((vals t.lv).flatMap fun v => (allR R).map (v :: ·)).length = _
      rw [flatM_len _ cnt _ (fun v _ => by rw [List.length_map, hcnt]), vals_length]
    rw [hlen]
    have hrows2 : rowsD g.d = pre ++ (((vals t.lv).flatMap fun v => (allR R).map (v :: ·)).map (p ++ ·) ++ post) := hrows
    obtain ⟨m, hm⟩ : ∃ m, (t.lv.2 - t.lv.1 + 1).toNat = m := ⟨_, rfl⟩
    rw [hm]
    have hmid : ∀ j, j < m → ∃ pre' post', pre'.length = pre.length + j * cnt ∧ rowsD g.d = pre' ++ ((allR R).map ((p ++ [t.lv.1 + (j : Int)]) ++ ·) ++ post') := by
      intro j hj
      refine ⟨pre ++ (((vals t.lv).take j).flatMap fun v => (allR R).map (v :: ·)).map (p ++ ·), (((vals t.lv).drop (j + 1)).flatMap fun v => (allR R).map (v :: ·)).map (p ++ ·) ++ post, ?_, ?_⟩
      · rw [List.length_append, List.length_map, flatM_len _ cnt _ (fun v _ => by rw [List.length_map, hcnt]), List.length_take, vals_length, hm, Nat.min_eq_left (by omega)]
      · rw [hrows2]
        conv => lhs; rw [vals_split t.lv (j := j) (by omega)]
        simp only [List.flatMap_append, List.flatMap_cons, List.map_append, List.map_map, List.append_assoc, Function.comp_def, List.cons_append, List.nil_append]
    have m2 : ∀ X, Mem b2 (Blk 29 [.slice g.A1 g.d.banks.length g.c1, .slice g.A2 g.d.ways.length g.c2, .slice g.A3 g.d.rights.length g.c3, .slice g.A4 g.d.seen.length g.c4]) (F ++ (eachB g q qc b2 b3 b4 ++ X)) := fun X => .app F (.there (.there .here))
    have m4 : ∀ X, Mem b4 (Blk 62 [.func (.func 81) #[] #[.pointer (some ⟨b2, 0, none⟩), .pointer (some ⟨b4, 0, none⟩), .pointer (some ⟨b3, 0, none⟩)]]) (F ++ (eachB g q qc b2 b3 b4 ++ X)) := fun X => .app F .here
    unfold bkL at hcA
    have c0 := RoAt hcA 0 _ rfl
    have c1 := RoAt hcA 1 _ rfl
    have hAn : A = none → p.length = 0 := fun h => by
      rcases Nat.eq_zero_or_pos p.length with h0 | h0
      · exact h0
      · obtain ⟨b, o, h1, _⟩ := RdRows.row (hrd F (Sub.refl _)) 0 h0
        rw [h] at h1; cases h1
    have hgen : ∀ j, j < m → ∀ s, svOk s 1 (p.length + 1) (ints p ++ [[Value.int .i64 (t.lv.1 + (j : Int))]].flatten) → ∀ F' : Hp, Sub (svH 3 1 (p.length + 1) (ints p ++ [[Value.int .i64 (t.lv.1 + (j : Int))]].flatten) s []) F' → Tri Try.prog N w0 (F' ++ (F ++ (eachB g q qc b2 b3 b4 ++ J (pre.length + j * cnt)))) 81 [svV s (p.length + 1), .pointer (some ⟨b2, 0, none⟩), .pointer (some ⟨b4, 0, none⟩), .pointer (some ⟨b3, 0, none⟩)].toArray fun x L' => ∃ v, x = .returned v ∧ L' = F' ++ (F ++ (eachB g q qc b2 b3 b4 ++ J (pre.length + (j + 1) * cnt))) := by
      intro j hj s hs F' hF'
      obtain ⟨pre', post', hl1, hl2⟩ := hmid j hj
      have hpl2 : (p ++ [t.lv.1 + (j : Int)]).length = p.length + 1 := by simp
      have hxs : ints p ++ [[Value.int .i64 (t.lv.1 + (j : Int))]].flatten = ints (p ++ [t.lv.1 + (j : Int)]) := by simp [ints]
      rw [hxs] at hs hF'
      obtain ⟨Ac, cc, ec, hrc⟩ := RdRows.sv (E := 3) (by omega) hs
      have := ih (p ++ [t.lv.1 + (j : Int)]) pre' post' (F' ++ F) Ac cc (by rw [hpl2]; omega) (by rw [hpl2, hR]; exact hl2) (fun L' hL => by
        have h1 := hrc N w0 _ (i1 (p ++ [t.lv.1 + (j : Int)])) (Wk.refl _) (ints_flat _) (by intro r hr; simp only [i1, List.mem_map] at hr; obtain ⟨_, _, rfl⟩ := hr; rfl)
        exact RdI.wk (h1 : RdI N w0 (svH 3 1 (p.length + 1) (ints (p ++ [t.lv.1 + (j : Int)])) s []) Ac (p ++ [t.lv.1 + (j : Int)])) (Sub.trans (Sub.trans hF' .left) hL))
      rw [hpl2, hR, hl1, hcnt, List.append_assoc, List.append_assoc] at this
      rw [ec]
      refine this.mono fun x L' h => ⟨_, h.1, ?_⟩
      rw [h.2, Nat.succ_mul, Nat.add_assoc]
    have hcA : ∀ j, j < m → ∀ b40 s, svOk s 1 (p.length + 1) (ints p ++ [[Value.int .i64 (t.lv.1 + (j : Int))]].flatten) → Tri Try.prog N w0 ((b40, Blk 3 [[Value.int .i64 (t.lv.1 + (j : Int))]].flatten) :: svH 3 1 (p.length + 1) (ints p ++ [[Value.int .i64 (t.lv.1 + (j : Int))]].flatten) s (F ++ (eachB g q qc b2 b3 b4 ++ J (pre.length + j * cnt)))) 81 [svV s (p.length + 1), .pointer (some ⟨b2, 0, none⟩), .pointer (some ⟨b4, 0, none⟩), .pointer (some ⟨b3, 0, none⟩)].toArray fun x L' => ∃ v, x = .returned v ∧ L' = (b40, Blk 3 [[Value.int .i64 (t.lv.1 + (j : Int))]].flatten) :: svH 3 1 (p.length + 1) (ints p ++ [[Value.int .i64 (t.lv.1 + (j : Int))]].flatten) s (F ++ (eachB g q qc b2 b3 b4 ++ J (pre.length + (j + 1) * cnt))) := by
      intro j hj b40 s hs
      have := hgen j hj s hs ((b40, Blk 3 [[Value.int .i64 (t.lv.1 + (j : Int))]].flatten) :: svH 3 1 (p.length + 1) (ints p ++ [[Value.int .i64 (t.lv.1 + (j : Int))]].flatten) s []) (.cons (Sub.refl _))
      simpa only [List.cons_append, svH_nil] using this
    have hcB : ∀ j, j < m → ∀ b40 s, svOk s 1 (p.length + 1) (ints p ++ [[Value.int .i64 (t.lv.1 + (j : Int))]].flatten) → Tri Try.prog N w0 (svH 3 1 (p.length + 1) (ints p ++ [[Value.int .i64 (t.lv.1 + (j : Int))]].flatten) s ((b40, Blk 3 [[Value.int .i64 (t.lv.1 + (j : Int))]].flatten) :: (F ++ (eachB g q qc b2 b3 b4 ++ J (pre.length + j * cnt))))) 81 [svV s (p.length + 1), .pointer (some ⟨b2, 0, none⟩), .pointer (some ⟨b4, 0, none⟩), .pointer (some ⟨b3, 0, none⟩)].toArray fun x L' => ∃ v, x = .returned v ∧ L' = svH 3 1 (p.length + 1) (ints p ++ [[Value.int .i64 (t.lv.1 + (j : Int))]].flatten) s ((b40, Blk 3 [[Value.int .i64 (t.lv.1 + (j : Int))]].flatten) :: (F ++ (eachB g q qc b2 b3 b4 ++ J (pre.length + (j + 1) * cnt)))) := by
      intro j hj b40 s hs
      have := hgen j hj s hs (svH 3 1 (p.length + 1) (ints p ++ [[Value.int .i64 (t.lv.1 + (j : Int))]].flatten) s [] ++ [(b40, Blk 3 [[Value.int .i64 (t.lv.1 + (j : Int))]].flatten)]) .left
      have e : ∀ Y : Hp, (svH 3 1 (p.length + 1) (ints p ++ [[Value.int .i64 (t.lv.1 + (j : Int))]].flatten) s [] ++ [(b40, Blk 3 [[Value.int .i64 (t.lv.1 + (j : Int))]].flatten)]) ++ Y = svH 3 1 (p.length + 1) (ints p ++ [[Value.int .i64 (t.lv.1 + (j : Int))]].flatten) s ((b40, Blk 3 [[Value.int .i64 (t.lv.1 + (j : Int))]].flatten) :: Y) := fun Y => by rw [List.append_assoc, svH_nil]; rfl
      rw [e, e] at this
      exact this
    refine Tri.fgt ?_
    refine tri_of_WP Try.func81 rfl (n := _) rfl (by simp) ?_
    have m20 := m2 (J pre.length)
    repeat' (first | (refine GiP ?_; first | (refine Znh ?_) | (with_reducible refine Znl ?_)) | (refine GiW ?_; first | (refine Zsq fun K hK => ?_) | (refine ZrN 0 fun _ => ?_; refine Zv Zmv ?_; refine Zv Zxlen ?_; refine Zv Zai ?_) | (refine ZrN 1 fun _ => ?_; refine Zv Zmi ?_; refine Zv Zf0 ?_; refine Zv Zld ?_; refine Zv Zxlen ?_; refine Zv Zxlss ?_) | (refine ZrN 2 fun _ => ?_; refine Zv Zf0 ?_; refine Zv Zld ?_; refine Zv Zmi ?_; refine Zv Zia ?_; refine Zv Zf0 ?_; refine Zv Zf0 ?_; refine Zv Zld ?_; refine Zv Zai ?_) | (refine WP_cond_true rfl ?_) | (refine WP_cond_false rfl ?_) | (refine Zcd (fun hc => ?_) (fun hc => ?_) <;> (try (exfalso; omega))) | (with_reducible apply WP_skip) | (with_reducible apply WP_block) | (with_reducible apply WP_exit) | (with_reducible apply WP_ret)) | (refine Zhn ?_) | (with_reducible apply QBlock_normal) | (refine Zhx ?_) | (with_reducible apply QBlock_hit) | (refine Zqb ?_) | (with_reducible apply QLoop_exit) | (refine Zhr ?_) | (with_reducible apply QBlock_ret) | (with_reducible apply QLoop_ret))
    refine WP_loop [6, 24, 25, 26, 27, 28, 29, 30, 31, 32, 33, 34, 35, 36, 37, 38, 39, 40, 41, 42] (fun j : Nat => [(6, .int .i64 (t.lv.1 + (j : Int)))]) (fun j => F ++ (eachB g q qc b2 b3 b4 ++ J (pre.length + j * cnt))) (fun j => j ≤ m) (fun j => m - j) 0 (.cons (by show Value.int .i64 _ = Value.int .i64 _; congr 1; omega) .nil) (by rw [Nat.zero_mul, Nat.add_zero]; exact Wk.refl _) (Nat.zero_le _) ?_
    intro j jj hj
    have m2j := m2 (J (pre.length + j * cnt))
    have m4j := m4 (J (pre.length + j * cnt))
    by_cases hlt : j < m
    · have hcA2 := hcA j hlt
      have hcB2 := hcB j hlt
      have hs0 : ∀ X Y, Wk Y (F ++ X) → RdI N w0 Y A p := fun X Y hY => (hrd (F ++ X) .left).wkk hY
      repeat' (first | (refine GiP ?_; first | (refine Znh ?_) | (with_reducible refine Znl ?_) | (refine Zatd 36 ?_; refine Zbs fun b36 => ?_) | (refine Zatd 36 ?_; refine Zal 36 fun b36 => ?_) | (refine Zatd 38 ?_; refine OPS_append0 rfl rfl rfl (by intro s9; repeat (first | exact Grow.here | apply Grow.there | apply Grow.sv | apply Grow.app)) svOk0 (rd_src (hs0 _ _ (by repeat (first | exact Wk.refl _ | apply Wk.keep1 | apply Wk.drop | apply Wk.sv | apply Wk.svD | apply Wk.appD)))) hAn (by rw [ints_length]; omega) (ints_ones p) (by simp only [maxLen]; omega) (by omega) (fun s38 hs38 => ?_)) | (refine Zatd 38 ?_; refine Zag (fun s38 hs38 => ?_)) | (refine Zatd 40 ?_; refine Zbs fun b40 => ?_) | (refine Zatd 40 ?_; refine Zal 40 fun b40 => ?_) | (refine Zatd 41 ?_; refine OPS_append0 rfl rfl rfl (by intro s9; repeat (first | exact Grow.here | apply Grow.there | apply Grow.sv | apply Grow.app)) svOk0 (rd_src (hs0 _ _ (by repeat (first | exact Wk.refl _ | apply Wk.keep1 | apply Wk.drop | apply Wk.sv | apply Wk.svD | apply Wk.appD)))) hAn (by rw [ints_length]; omega) (ints_ones p) (by simp only [maxLen]; omega) (by omega) (fun s41 hs41 => ?_)) | (refine Zatd 41 ?_; refine Zag (fun s41 hs41 => ?_)) | (refine Zatd 42 ?_; refine OPS_retKS (Enters_val rfl rfl) (hcA2 b40 s41 hs41) rfl rfl rfl (fun v42 L42 h42 => ?_); subst h42) | (refine Zatd 42 ?_; refine OPS_retKS (Enters_val rfl rfl) (hcB2 b40 s41 hs41) rfl rfl rfl (fun v42 L42 h42 => ?_); subst h42)) | (refine GiW ?_; first | (refine Zsq fun K hK => ?_) | (refine ZrN 3 fun _ => ?_; refine Zv Zmi ?_; refine Zv Zf0 ?_; refine Zv Zld ?_; refine Zv Zmi ?_; refine Zv Zia ?_; refine Zv Zf0 ?_; refine Zv Zfa ?_; refine Zv Zld ?_; refine Zv Zxleq ?_) | (refine ZrN 4 fun _ => ?_; refine Zv Zmi ?_; refine Zv Zxadd ?_; refine Zv Zai ?_) | (refine WP_cond_true rfl ?_) | (refine WP_cond_false rfl ?_) | (refine Zcd (fun hc => ?_) (fun hc => ?_) <;> (try (exfalso; omega))) | (with_reducible apply WP_skip) | (with_reducible apply WP_block) | (with_reducible apply WP_exit) | (with_reducible apply WP_ret) | (refine WP_drawnS (id := 5) [0, 2, 4] [0, 2, 4] [] [35, 37, 39] (k := 4) (k2 := 1) (by repeat (first | apply Sub.sv | apply Sub.keep | apply Sub.appK | exact Sub.refl _)) (by kernel_rfl) prog_mixed (by kernel_rfl) (by kernel_rfl) rfl ?_; refine Zew rfl Zld ?_; refine Zew rfl Zmv ?_; refine Zew rfl Zmi ?_)) | (with_reducible apply EWalk_nil) | (refine GiC ?_; first | (refine ZgC [0, 2, 4] ?_; refine ZC2 _ 1 [0, 2, 4, 1] 5 [0, 2, 4, 5] ?_ ?_) | (refine ZgC [0, 2, 4, 1] ?_; refine ZC2 _ 3 [0, 2, 4, 1, 3] 5 [0, 2, 4, 1, 5] ?_ ?_) | (refine ZgC [0, 2, 4, 1, 3] ?_; refine ZC1 _ 5 [0, 2, 4, 1, 3, 5] ?_) | (refine ZgC [0, 2, 4, 1, 3, 5] ?_; refine ZC1 _ 6 [0, 2, 4, 1, 3, 5, 6] ?_) | (refine ZgC [0, 2, 4, 1, 3, 5, 6] ?_; refine ZCl _ ?_) | (refine ZgC [0, 2, 4, 1, 5] ?_; refine ZC1 _ 3 [0, 2, 4, 1, 3, 5] ?_) | (refine ZgC [0, 2, 4, 5] ?_; refine ZC1 _ 1 [0, 2, 4, 1, 5] ?_)) | (refine GiO ?_; first | (refine ZgO [0, 2, 4, 1, 3, 5, 6] ?_; refine ZO1 _ 7 [0, 2, 4, 1, 3, 5, 6, 7] ?_) | (refine ZgO [0, 2, 4, 1, 3, 5, 6, 7] ?_; refine ZOd _ ?_; (try with_reducible apply noP_normal); (try with_reducible exact key.out))) | (refine Zhn ?_) | (with_reducible apply QBlock_normal) | (refine Zhx ?_) | (with_reducible apply QBlock_hit) | (refine Zqb ?_) | (with_reducible apply QLoop_exit) | (refine Zhr ?_) | (with_reducible apply QBlock_ret) | (with_reducible apply QLoop_ret) | (refine AWalk_0 ?_) | (with_reducible apply QAny_normal) | (with_reducible apply QC_normal))
      all_goals exact QLoop_normal (j + 1) (.cons (by show Value.int .i64 _ = Value.int .i64 _; congr 1; omega) .nil) (by repeat (first | exact Off.frame rfl | exact Off.refl _ _ | refine Off.frameT rfl rfl ?_ | refine Off.upd rfl ?_ | refine Off.updO rfl ?_)) (by repeat (first | exact Wk.refl _ | apply Wk.keep1 | apply Wk.drop | apply Wk.sv | apply Wk.svD | apply Wk.appD)) (by omega) (by omega)
    · have hje : j = m := by omega
      repeat' (first | (refine GiP ?_; first | (refine Znh ?_) | (with_reducible refine Znl ?_)) | (refine GiW ?_; first | (refine Zsq fun K hK => ?_) | (refine ZrN 3 fun _ => ?_; refine Zv Zmi ?_; refine Zv Zf0 ?_; refine Zv Zld ?_; refine Zv Zmi ?_; refine Zv Zia ?_; refine Zv Zf0 ?_; refine Zv Zfa ?_; refine Zv Zld ?_; refine Zv Zxleq ?_) | (refine WP_cond_true rfl ?_) | (refine WP_cond_false rfl ?_) | (refine Zcd (fun hc => ?_) (fun hc => ?_) <;> (try (exfalso; omega))) | (with_reducible apply WP_skip) | (with_reducible apply WP_block) | (with_reducible apply WP_exit) | (with_reducible apply WP_ret)) | (refine Zhn ?_) | (with_reducible apply QBlock_normal) | (refine Zhx ?_) | (with_reducible apply QBlock_hit) | (refine Zqb ?_) | (with_reducible apply QLoop_exit) | (refine Zhr ?_) | (with_reducible apply QBlock_ret) | (with_reducible apply QLoop_ret))
      exact QBody_ret0 rfl ⟨_, Wk.refl _, rfl, by rw [hje]⟩
theorem each_tri (g : Fg) (hA : DrAt N w0 g) (hv : VD g.d) (J : Nat → Hp) (q : FuncId) [HasBody Try.prog q] (qc : List Value) (hon : OnOK N w0 g.d J q qc) :
    Tri Try.prog N w0 (J 0) 30 [drV g, .func (.func q) #[] qc.toArray].toArray fun x L' => ∃ v, x = .returned v ∧ L' = J (rowsD g.d).length := by
  have hrec := fun b2 b3 b4 => each_rec N w0 g hA hv J q qc hon b2 b3 b4 g.d.banks.length [] [] [] [] none 0 (by simp) (by simp [rowsD]) (fun L' _ i hi => absurd hi (by simp [i1]))
  have hl : (([] : List (List Int)).length + (allR ((g.d.banks.drop ([] : List Int).length).map (·.lv))).length) = (rowsD g.d).length := by simp [rowsD]
  rw [hl] at hrec
  have hrec2 : ∀ b2 b3 b4, Tri Try.prog N w0 ((b4, Blk 62 [.func (.func 81) #[] #[.pointer (some ⟨b2, 0, none⟩), .pointer (some ⟨b4, 0, none⟩), .pointer (some ⟨b3, 0, none⟩)]]) :: (b3, Blk 62 [.func (.func q) #[] qc.toArray]) :: (b2, Blk 29 (drL g)) :: J 0) 81 [.slice none 0 0, .pointer (some ⟨b2, 0, none⟩), .pointer (some ⟨b4, 0, none⟩), .pointer (some ⟨b3, 0, none⟩)].toArray fun x L' => ∃ v, x = .returned v ∧ L' = (b4, Blk 62 [.func (.func 81) #[] #[.pointer (some ⟨b2, 0, none⟩), .pointer (some ⟨b4, 0, none⟩), .pointer (some ⟨b3, 0, none⟩)]]) :: (b3, Blk 62 [.func (.func q) #[] qc.toArray]) :: (b2, Blk 29 (drL g)) :: J (rowsD g.d).length := fun b2 b3 b4 => (hrec b2 b3 b4).mono fun x L' h => ⟨_, h.1, h.2⟩
  refine Tri.fgt ?_
  refine tri_of_WP Try.func30 rfl (n := _) rfl (by simp) ?_
  unfold drV drL at *
  repeat' (first | (refine GiP ?_; first | (refine Znh ?_) | (with_reducible refine Znl ?_)) | (refine GiW ?_; first | (refine Zsq fun K hK => ?_) | (refine ZrN 0 fun _ => ?_; refine Zal 2 fun b2 => ?_; refine Zal 3 fun b3 => ?_) | (refine ZrN 1 fun _ => ?_; refine Zal 4 fun b4 => ?_) | (refine ZrN 2 fun _ => ?_; refine Zv Val_makeFunc ?_; refine Zst ?_) | (refine ZrN 3 fun _ => ?_; refine Zv Zld ?_; refine OPS_retKS (Enters_val rfl rfl) (hrec2 b2 b3 b4) rfl rfl rfl (fun v7 L7 h7 => ?_); subst h7)) | (refine Zhn ?_))
  exact QBody_end0 rfl ⟨J (rowsD g.d).length, (by repeat (first | exact Wk.refl _ | apply Wk.keep1 | apply Wk.drop | apply Wk.sv | apply Wk.svD | apply Wk.appD)), _, rfl, rfl⟩
end
end Go.Proofs.Ytbhgpnbfdjoglaa
end
