/- The law DrainStop: whether a set of stops keeps all rights. -/
import Derived.Test.YtbhgpnbfdjoglaaE3
section
namespace Go.Proofs.Ytbhgpnbfdjoglaa
open Go.RowKit
def upsL (d : Dr) : List Int := d.banks.map fun b => b.yd.2
theorem upsL_lvl {d : Dr} : lvl (upsL d) = hiY d := by
  funext z
  unfold lvl upsL hiY
  rw [List.getD_eq_getElem?_getD, List.getD_eq_getElem?_getD, List.getElem?_map, List.getElem?_map]
  cases d.banks[z]? <;> rfl
def lwsL (d : Dr) : List Int := d.banks.map fun b => b.yd.1
theorem lwsL_lvl {d : Dr} : lvl (lwsL d) = loY d := by
  funext z
  unfold lvl lwsL loY
  rw [List.getD_eq_getElem?_getD, List.getD_eq_getElem?_getD, List.getElem?_map, List.getElem?_map]
  cases d.banks[z]? <;> rfl
theorem codeO_eq {o : Option Nat} {b : Nat} : codeO o = (b : Int) ↔ o = some b := by
  cases o with
  | none =>
    refine ⟨fun h => ?_, fun h => by cases h⟩
    simp only [codeO] at h; omega
  | some c => simp only [codeO, Option.some.injEq]; omega
attribute [local irreducible] AnyO AnyB QAny QB EWalk AWalk Ev WP OPS QThen QBlock QScope QLoop QBody Val New Turn Tri Enters PostA Blk Ro
attribute [local irreducible] AnyC QC
section
variable (N : Nat) (w0 : World)
set_option maxHeartbeats 8000000 in
theorem stop11_core (g : Fg) (hA : DrAt N w0 g) (hv : VD g.d) (x : Nat) (hx : x < 128) (bd b3 bu b5 : Nat) (X : Hp) (md : Mem bd (Blk 29 (drL g)) X) (m3 : Mem b3 (Blk 3 [.int .i64 x]) X) (Au : Option Addr) (cu : Nat) (mu : Mem bu (Blk 47 [.slice Au g.d.banks.length cu]) X) (hru : ∀ L', Sub X L' → RdI N w0 L' Au (upsL g.d)) (lv : List Int) (hl : lv.length = g.d.banks.length) (A : Option Addr) (c : Nat) (hrd : ∀ L', Sub X L' → RdI N w0 L' A lv) (u : Bool) :
    Tri Try.prog N w0 ((b5, Blk 4 [.bool u]) :: X) 34 (.slice A g.d.banks.length c :: [.pointer (some ⟨bd, 0, none⟩), .pointer (some ⟨b3, 0, none⟩), .pointer (some ⟨bu, 0, none⟩), .pointer (some ⟨b5, 0, none⟩)]).toArray fun y L' => ∃ v, y = .returned v ∧ v = .tuple #[] ∧ L' = (b5, Blk 4 [.bool (u && keepS1 g.d (nxt (keepL x g.d.ways 0) lv))]) :: X := by
  have hnb := hv.nb
  have hnr := hv.nr
  have hdn : ∀ a y, nxt (keepL x g.d.ways 0) lv a = some y → y < g.d.banks.length ∧ lvl lv y < lvl lv a := fun a y h => by rw [← hl]; exact nxt_dec h
  have hks : keepS1 g.d (nxt (keepL x g.d.ways 0) lv) = kp1 g.d (nxt (keepL x g.d.ways 0) lv) g.d.rights.length := by unfold kp1 keepS1; rw [List.take_length]
  rw [hks]
  have hcr := fun L h => courses_tri N w0 L g hA hv lv hl A c h x hx
  simp only [crsO_cdL] at hcr
  obtain ⟨nx, hnx⟩ : ∃ nx, nxt (keepL x g.d.ways 0) lv = nx := ⟨_, rfl⟩
  rw [hnx] at hcr hdn ⊢
  rw [hl] at hcr
  have hwt := fun L Ac cc hrc h => lwaters_tri N w0 L g.d.banks.length hnb nx _ hdn Ac cc hrc (upsL g.d) (by simp [upsL]) (fun z hz => by rw [upsL_lvl]; have := yd_bd hv z; omega) Au cu h
  rw [upsL_lvl] at hwt
  obtain ⟨W, hW⟩ : ∃ W, wsum g.d.banks.length nx (hiY g.d) g.d.banks.length = W := ⟨_, rfl⟩
  have hWl : W.length = g.d.banks.length := by rw [← hW]; exact wsum_len _ _ _ _
  have hWg : ∀ a, a < g.d.banks.length → lvl W a = watN g.d.banks.length nx (hiY g.d) a := fun a ha => by rw [← hW]; exact wsum_wat hdn (hiY g.d) ha
  rw [hW] at hwt
  refine Tri.fgt ?_
  refine tri_of_WP Try.func34 rfl (n := _) rfl (by simp) ?_
  have hcr2 := hcr _ (hrd ((b5, Blk 4 [.bool u]) :: X) (.cons (Sub.refl _)))
  unfold drV at hcr2
  unfold drL at hcr2 md
  repeat' (first | (refine GiP ?_; first | (refine Znh ?_) | (with_reducible refine Znl ?_)) | (refine GiW ?_; first | (refine Zsq fun K hK => ?_) | (refine ZrN 0 fun _ => ?_; refine Zv Zla ?_; refine Zv Zmv ?_; refine Zv Zld ?_; refine OPS_retKS (Enters_fn rfl) hcr2 rfl rfl rfl (fun v13 L13 h13 => ?_); obtain ⟨s13, rfl, hs13, rfl⟩ := h13; refine Zv Zav ?_) | (refine WP_cond_true rfl ?_) | (refine WP_cond_false rfl ?_) | (refine Zcd (fun hc => ?_) (fun hc => ?_) <;> (try (exfalso; omega))) | (with_reducible apply WP_skip) | (with_reducible apply WP_block) | (with_reducible apply WP_exit)) | (refine Zhn ?_) | (with_reducible apply QBlock_normal) | (refine Zhx ?_) | (with_reducible apply QBlock_hit) | (refine Zqb ?_) | (with_reducible apply QLoop_exit))
  obtain ⟨Ac, cc, ec, hrc⟩ := RdRows.sv (E := 3) (by omega) hs13
  rw [ec]
  have hrcl : ∀ L', Wk L' (svH 3 1 g.d.banks.length (ints (cdL g.d.banks.length nx)) s13 []) → RdI N w0 L' Ac (cdL g.d.banks.length nx) := fun L' hL => hrc N w0 L' (i1 _) hL (ints_flat _) (by intro r hr; simp only [i1, List.mem_map] at hr; obtain ⟨_, _, rfl⟩ := hr; rfl)
  obtain ⟨bC, oC, rfl⟩ : ∃ bC oC, Ac = some ⟨bC, oC, none⟩ := by
    obtain ⟨b, o, h, _⟩ := RdRows.row (hrcl _ Wk.sv0 : RdI N w0 (svH 3 1 g.d.banks.length (ints (cdL g.d.banks.length nx)) s13 []) Ac (cdL g.d.banks.length nx)) 0 (by rw [cdL_len]; omega)
    exact ⟨b, o, h⟩
  have hSX : Sub X (svH 3 1 g.d.banks.length (ints (cdL g.d.banks.length nx)) s13 ((b5, Blk 4 [.bool u]) :: X)) := (by repeat (first | exact Sub.refl _ | assumption | exact Sub.left | apply Sub.cons | apply Sub.sv | apply Sub.app))
  have hwt2 := hwt _ (some ⟨bC, oC, none⟩) cc (hrcl (svH 3 1 g.d.banks.length (ints (cdL g.d.banks.length nx)) s13 ((b5, Blk 4 [.bool u]) :: X)) Wk.sv0) (hru _ hSX)
  repeat' (first | (refine GiP ?_; first | (refine Znh ?_) | (with_reducible refine Znl ?_)) | (refine GiW ?_; first | (refine Zsq fun K hK => ?_) | (refine ZrN 1 fun _ => ?_; refine Zv Zmv ?_; refine Zv Zld ?_; refine OPS_retKS (Enters_fn rfl) hwt2 rfl rfl rfl (fun v16 L16 h16 => ?_); obtain ⟨b16, rfl, rfl⟩ := h16; refine Zv Zav ?_) | (refine ZrN 2 fun _ => ?_; refine Zv Zfa ?_; refine Zv Zld ?_; refine Zv Zxlen ?_; refine Zv Zmi ?_) | (refine WP_cond_true rfl ?_) | (refine WP_cond_false rfl ?_) | (refine Zcd (fun hc => ?_) (fun hc => ?_) <;> (try (exfalso; omega))) | (with_reducible apply WP_skip) | (with_reducible apply WP_block) | (with_reducible apply WP_exit)) | (refine Zhn ?_) | (with_reducible apply QBlock_normal) | (refine Zhx ?_) | (with_reducible apply QBlock_hit) | (refine Zqb ?_) | (with_reducible apply QLoop_exit))
  refine WP_loop [9, 20, 21, 22, 23, 24, 25, 26, 27, 28, 29, 30, 31, 32, 33, 34, 35, 36, 37, 38, 39, 40, 41, 42, 43, 44, 45] (fun st : Nat × Bool => [(20, .int .i64 (st.1 : Int))]) (fun st => (b16, Blk 3 (ints W)) :: svH 3 1 g.d.banks.length (ints (cdL g.d.banks.length nx)) s13 ((b5, Blk 4 [.bool st.2]) :: X)) (fun st => st.1 ≤ g.d.rights.length ∧ st.2 = (u && kp1 g.d nx st.1)) (fun st => g.d.rights.length - st.1) (0, u) (.cons rfl .nil) (Wk.refl _) ⟨Nat.zero_le _, by simp [kp1]⟩ ?_
  rintro ⟨i, w⟩ j ⟨hi, hw⟩
  dsimp only at hi hw ⊢
  by_cases hlt : i < g.d.rights.length
  · obtain ⟨bA, oA, hA3, hbA, hcA⟩ := hA.rights.row i hlt
    have hsn : (u && kp1 g.d nx (i + 1)) = (w && decide ((flowS g.d nx g.d.rights[i].a.toNat g.d.rights[i].b.toNat).2 ≤ g.d.rights[i].most)) := by
      have : kp1 g.d nx (i + 1) = (kp1 g.d nx i && decide ((flowS g.d nx g.d.rights[i].a.toNat g.d.rights[i].b.toNat).2 ≤ g.d.rights[i].most)) := all_take_succ hlt
      rw [this, hw, Bool.and_assoc]
    obtain ⟨t, ht⟩ : ∃ t, g.d.rights[i] = t := ⟨_, rfl⟩
    have htb := hv.rt t (by rw [← ht]; exact List.getElem_mem hlt)
    rw [ht] at hcA hsn
    obtain ⟨ta, tb, tm⟩ := t
    dsimp only at htb hsn
    obtain ⟨a, rfl⟩ : ∃ a : Nat, ta = a := ⟨ta.toNat, by omega⟩
    obtain ⟨b, rfl⟩ : ∃ b : Nat, tb = b := ⟨tb.toNat, by omega⟩
    have hab : a < g.d.banks.length := by omega
    simp only [Int.toNat_natCast] at hsn
    unfold rtL at hcA
    dsimp only at hcA
    have hcd : ∀ L', Wk L' (svH 3 1 g.d.banks.length (ints (cdL g.d.banks.length nx)) s13 []) → Rd N w0 L' bC (oC + a) (.int .i64 (codeO (nx a))) := fun L' hL => by
      have := (hrcl L' hL).at_ (i := a) (by rw [cdL_len]; exact hab)
      rwa [cdL_lvl hab] at this
    have hwc := ints_get (l := W) (x := a) (by omega)
    rw [hWg a hab] at hwc
    have hfl : flowS g.d nx a b = if codeO (nx a) = (b : Int) then watS g.d nx a else (0, 0) := by
      unfold flowS
      by_cases h : nx a = some b
      · rw [if_pos h, if_pos (codeO_eq.2 h)]
      · rw [if_neg h, if_neg (fun h2 => h (codeO_eq.1 h2))]
    simp only [hfl] at hsn
    clear hfl
    have hws : (watS g.d nx a).2 = watN g.d.banks.length nx (hiY g.d) a := rfl
    obtain ⟨z, hz⟩ : ∃ z, codeO (nx a) = z := ⟨_, rfl⟩
    obtain ⟨y, hy⟩ : ∃ y, watN g.d.banks.length nx (hiY g.d) a = y := ⟨_, rfl⟩
    rw [hz] at hcd
    rw [hy] at hwc hws
    clear hw
    cases w with
    | false =>
      repeat' (first | (refine GiP ?_; first | (refine Znh ?_) | (with_reducible refine Znl ?_) | (refine Zatn ?_; refine Zst ?_)) | (refine GiW ?_; first | (refine Zsq fun K hK => ?_) | (refine ZrN 3 fun _ => ?_; refine Zv Zylss ?_) | (refine ZrN 4 fun _ => ?_; refine Zv Zia ?_; (first | (refine Zv (Val_loadD1 rfl (hcd _ (.drop (.drop Wk.sv0)))) ?_) | (refine Zv Zla ?_)); refine Zal 9 fun b9 => ?_; refine Zst ?_) | (refine ZrN 6 fun _ => ?_; refine Zv Zxadd ?_; refine Zv Zmi ?_) | (refine WP_cond_true rfl ?_) | (refine WP_cond_false rfl ?_) | (refine Zcd (fun hc => ?_) (fun hc => ?_) <;> (try (exfalso; omega))) | (with_reducible apply WP_skip) | (with_reducible apply WP_block) | (with_reducible apply WP_exit) | (refine WP_drawn (id := 5) [0, 1, 2, 3, 4, 5, 6, 7, 8, 9, 10, 11, 12, 13, 14, 15, 16, 17, 18, 19, 20] [] (k := 1) prog_mixed (by kernel_rfl) rfl ?_; (first | (refine Zew rfl (Val_loadD1 rfl (hcd _ (.drop (.drop Wk.sv0)))) ?_) | (refine Zew rfl Zld ?_)); refine Zew rfl Zmb ?_)) | (refine GiE ?_; first | (refine Zati 20 ?_; (first | (refine Zew rfl Zxpt ?_) | (refine Zew rfl Zxpf ?_))) | (refine Zati 2 ?_; first | refine Zes ?_ | (refine Zew rfl Zmv ?_)) | (refine Zati 3 ?_; first | refine Zes ?_ | (refine Zew rfl Zf0 ?_)) | (refine Zati 4 ?_; first | refine Zes ?_ | (refine Zew rfl (Val_loadD1 rfl (hcd _ (.drop (.drop Wk.sv0)))) ?_) | (refine Zew rfl Zld ?_)) | (refine Zati 5 ?_; first | refine Zes ?_ | (refine Zew rfl Zia ?_)) | (refine Zati 6 ?_; first | refine Zes ?_ | (refine Zew rfl (Val_loadD1 rfl (hcd _ (.drop (.drop Wk.sv0)))) ?_) | (refine Zew rfl Zld ?_)) | (refine Zati 7 ?_; first | refine Zes ?_ | (refine Zew rfl Zfa ?_)) | (refine Zati 8 ?_; first | refine Zes ?_ | (refine Zew rfl (Val_loadD1 rfl (hcd _ (.drop (.drop Wk.sv0)))) ?_) | (refine Zew rfl Zld ?_)) | (refine Zati 9 ?_; first | refine Zes ?_ | (refine Zew rfl Zyneq ?_)) | (refine Zati 10 ?_; first | refine Zes ?_ | (refine Zew rfl Zmb ?_)) | (refine Zati 11 ?_; first | refine Zes ?_ | (refine Zew rfl Zmv ?_)) | (refine Zati 12 ?_; first | refine Zes ?_ | (refine Zew rfl Zf0 ?_)) | (refine Zati 13 ?_; first | refine Zes ?_ | (refine Zew rfl (Val_loadD1 rfl (hcd _ (.drop (.drop Wk.sv0)))) ?_) | (refine Zew rfl Zld ?_)) | (refine Zati 14 ?_; first | refine Zes ?_ | (refine Zew rfl Zia ?_)) | (refine Zati 15 ?_; first | refine Zes ?_ | (refine Zew rfl (Val_loadD1 rfl (hcd _ (.drop (.drop Wk.sv0)))) ?_) | (refine Zew rfl Zld ?_)) | (refine Zati 16 ?_; first | refine Zes ?_ | (refine Zew rfl Zfa ?_)) | (refine Zati 17 ?_; first | refine Zes ?_ | (refine Zew rfl (Val_loadD1 rfl (hcd _ (.drop (.drop Wk.sv0)))) ?_) | (refine Zew rfl Zld ?_)) | (refine Zati 18 ?_; first | refine Zes ?_ | (refine Zew rfl Zyleq ?_)) | (refine Zati 19 ?_; first | refine Zes ?_ | (refine Zew rfl Zxpt ?_) | (refine Zew rfl Zxpf ?_)) | (refine Zes ?_) | (refine Zesp (fun hc => ?_) (fun hc => ?_) <;> (try (exfalso; omega))) | (with_reducible apply EWalk_nil)) | (refine GiO ?_; first | (refine AnyO_done (by kernel_rfl) ?_; (try with_reducible apply noP_normal); try with_reducible exact key.out) | (refine AnyO_1 21 (by decide +kernel) rfl ?_)) | (refine Zhn ?_) | (with_reducible apply QBlock_normal) | (refine Zhx ?_) | (with_reducible apply QBlock_hit) | (refine Zqb ?_) | (with_reducible apply QLoop_exit) | (refine AWalk_0 ?_; refine ZisO ?_) | (with_reducible apply QAny_normal))
      exact QLoop_normal (i + 1, false) (.cons rfl .nil) (by repeat (first | exact Off.frame rfl | exact Off.refl _ _ | refine Off.frameT rfl rfl ?_ | refine Off.upd rfl ?_ | refine Off.updO rfl ?_)) (by repeat (first | exact Wk.refl _ | apply Wk.keep1 | apply Wk.drop | apply Wk.sv | apply Wk.svD | apply Wk.appD)) ⟨by dsimp only; omega, by dsimp only; rw [hsn]; rfl⟩ (by dsimp only; omega)
    | true =>
      by_cases hzb : z = (b : Int)
      · have hsn2 : (u && kp1 g.d nx (i + 1)) = decide (y ≤ tm) := by rw [hsn, Bool.true_and, if_pos (by rw [hz]; exact hzb), hws]
        by_cases hle : y ≤ tm
        · repeat' (first | (refine GiP ?_; first | (refine Znh ?_) | (with_reducible refine Znl ?_) | (refine Zatn ?_; refine Zst ?_)) | (refine GiW ?_; first | (refine Zsq fun K hK => ?_) | (refine ZrN 3 fun _ => ?_; refine Zv Zylss ?_) | (refine ZrN 4 fun _ => ?_; refine Zv Zia ?_; (first | (refine Zv (Val_loadD1 rfl (hcd _ (.drop (.drop Wk.sv0)))) ?_) | (refine Zv Zla ?_)); refine Zal 9 fun b9 => ?_; refine Zst ?_) | (refine ZrN 6 fun _ => ?_; refine Zv Zxadd ?_; refine Zv Zmi ?_) | (refine WP_cond_true rfl ?_) | (refine WP_cond_false rfl ?_) | (refine Zcd (fun hc => ?_) (fun hc => ?_) <;> (try (exfalso; omega))) | (with_reducible apply WP_skip) | (with_reducible apply WP_block) | (with_reducible apply WP_exit) | (refine WP_drawn (id := 5) [0, 1, 2, 3, 4, 5, 6, 7, 8, 9, 10, 11, 12, 13, 14, 15, 16, 17, 18, 19, 20] [] (k := 1) prog_mixed (by kernel_rfl) rfl ?_; (first | (refine Zew rfl (Val_loadD1 rfl (hcd _ (.drop (.drop Wk.sv0)))) ?_) | (refine Zew rfl Zld ?_)); refine Zew rfl Zmb ?_)) | (refine GiE ?_; first | (refine Zati 20 ?_; (first | (refine Zew rfl Zxpt ?_) | (refine Zew rfl Zxpf ?_))) | (refine Zati 2 ?_; first | refine Zes ?_ | (refine Zew rfl Zmv ?_)) | (refine Zati 3 ?_; first | refine Zes ?_ | (refine Zew rfl Zf0 ?_)) | (refine Zati 4 ?_; first | refine Zes ?_ | (refine Zew rfl (Val_loadD1 rfl (hcd _ (.drop (.drop Wk.sv0)))) ?_) | (refine Zew rfl Zld ?_)) | (refine Zati 5 ?_; first | refine Zes ?_ | (refine Zew rfl Zia ?_)) | (refine Zati 6 ?_; first | refine Zes ?_ | (refine Zew rfl (Val_loadD1 rfl (hcd _ (.drop (.drop Wk.sv0)))) ?_) | (refine Zew rfl Zld ?_)) | (refine Zati 7 ?_; first | refine Zes ?_ | (refine Zew rfl Zfa ?_)) | (refine Zati 8 ?_; first | refine Zes ?_ | (refine Zew rfl (Val_loadD1 rfl (hcd _ (.drop (.drop Wk.sv0)))) ?_) | (refine Zew rfl Zld ?_)) | (refine Zati 9 ?_; first | refine Zes ?_ | (refine Zew rfl Zyneq ?_)) | (refine Zati 10 ?_; first | refine Zes ?_ | (refine Zew rfl Zmb ?_)) | (refine Zati 11 ?_; first | refine Zes ?_ | (refine Zew rfl Zmv ?_)) | (refine Zati 12 ?_; first | refine Zes ?_ | (refine Zew rfl Zf0 ?_)) | (refine Zati 13 ?_; first | refine Zes ?_ | (refine Zew rfl (Val_loadD1 rfl (hcd _ (.drop (.drop Wk.sv0)))) ?_) | (refine Zew rfl Zld ?_)) | (refine Zati 14 ?_; first | refine Zes ?_ | (refine Zew rfl Zia ?_)) | (refine Zati 15 ?_; first | refine Zes ?_ | (refine Zew rfl (Val_loadD1 rfl (hcd _ (.drop (.drop Wk.sv0)))) ?_) | (refine Zew rfl Zld ?_)) | (refine Zati 16 ?_; first | refine Zes ?_ | (refine Zew rfl Zfa ?_)) | (refine Zati 17 ?_; first | refine Zes ?_ | (refine Zew rfl (Val_loadD1 rfl (hcd _ (.drop (.drop Wk.sv0)))) ?_) | (refine Zew rfl Zld ?_)) | (refine Zati 18 ?_; first | refine Zes ?_ | (refine Zew rfl Zyleq ?_)) | (refine Zati 19 ?_; first | refine Zes ?_ | (refine Zew rfl Zxpt ?_) | (refine Zew rfl Zxpf ?_)) | (refine Zes ?_) | (refine Zesp (fun hc => ?_) (fun hc => ?_) <;> (try (exfalso; omega))) | (with_reducible apply EWalk_nil)) | (refine GiO ?_; first | (refine AnyO_done (by kernel_rfl) ?_; (try with_reducible apply noP_normal); try with_reducible exact key.out) | (refine AnyO_1 21 (by decide +kernel) rfl ?_)) | (refine Zhn ?_) | (with_reducible apply QBlock_normal) | (refine Zhx ?_) | (with_reducible apply QBlock_hit) | (refine Zqb ?_) | (with_reducible apply QLoop_exit) | (refine AWalk_0 ?_; refine ZisO ?_) | (with_reducible apply QAny_normal))
          exact QLoop_normal (i + 1, true) (.cons rfl .nil) (by repeat (first | exact Off.frame rfl | exact Off.refl _ _ | refine Off.frameT rfl rfl ?_ | refine Off.upd rfl ?_ | refine Off.updO rfl ?_)) (by repeat (first | exact Wk.refl _ | apply Wk.keep1 | apply Wk.drop | apply Wk.sv | apply Wk.svD | apply Wk.appD)) ⟨by dsimp only; omega, by dsimp only; rw [hsn2]; simp [hle]⟩ (by dsimp only; omega)
        · repeat' (first | (refine GiP ?_; first | (refine Znh ?_) | (with_reducible refine Znl ?_) | (refine Zatn ?_; refine Zst ?_)) | (refine GiW ?_; first | (refine Zsq fun K hK => ?_) | (refine ZrN 3 fun _ => ?_; refine Zv Zylss ?_) | (refine ZrN 4 fun _ => ?_; refine Zv Zia ?_; (first | (refine Zv (Val_loadD1 rfl (hcd _ (.drop (.drop Wk.sv0)))) ?_) | (refine Zv Zla ?_)); refine Zal 9 fun b9 => ?_; refine Zst ?_) | (refine ZrN 6 fun _ => ?_; refine Zv Zxadd ?_; refine Zv Zmi ?_) | (refine WP_cond_true rfl ?_) | (refine WP_cond_false rfl ?_) | (refine Zcd (fun hc => ?_) (fun hc => ?_) <;> (try (exfalso; omega))) | (with_reducible apply WP_skip) | (with_reducible apply WP_block) | (with_reducible apply WP_exit) | (refine WP_drawn (id := 5) [0, 1, 2, 3, 4, 5, 6, 7, 8, 9, 10, 11, 12, 13, 14, 15, 16, 17, 18, 19, 20] [] (k := 1) prog_mixed (by kernel_rfl) rfl ?_; (first | (refine Zew rfl (Val_loadD1 rfl (hcd _ (.drop (.drop Wk.sv0)))) ?_) | (refine Zew rfl Zld ?_)); refine Zew rfl Zmb ?_)) | (refine GiE ?_; first | (refine Zati 20 ?_; (first | (refine Zew rfl Zxpt ?_) | (refine Zew rfl Zxpf ?_))) | (refine Zati 2 ?_; first | refine Zes ?_ | (refine Zew rfl Zmv ?_)) | (refine Zati 3 ?_; first | refine Zes ?_ | (refine Zew rfl Zf0 ?_)) | (refine Zati 4 ?_; first | refine Zes ?_ | (refine Zew rfl (Val_loadD1 rfl (hcd _ (.drop (.drop Wk.sv0)))) ?_) | (refine Zew rfl Zld ?_)) | (refine Zati 5 ?_; first | refine Zes ?_ | (refine Zew rfl Zia ?_)) | (refine Zati 6 ?_; first | refine Zes ?_ | (refine Zew rfl (Val_loadD1 rfl (hcd _ (.drop (.drop Wk.sv0)))) ?_) | (refine Zew rfl Zld ?_)) | (refine Zati 7 ?_; first | refine Zes ?_ | (refine Zew rfl Zfa ?_)) | (refine Zati 8 ?_; first | refine Zes ?_ | (refine Zew rfl (Val_loadD1 rfl (hcd _ (.drop (.drop Wk.sv0)))) ?_) | (refine Zew rfl Zld ?_)) | (refine Zati 9 ?_; first | refine Zes ?_ | (refine Zew rfl Zyneq ?_)) | (refine Zati 10 ?_; first | refine Zes ?_ | (refine Zew rfl Zmb ?_)) | (refine Zati 11 ?_; first | refine Zes ?_ | (refine Zew rfl Zmv ?_)) | (refine Zati 12 ?_; first | refine Zes ?_ | (refine Zew rfl Zf0 ?_)) | (refine Zati 13 ?_; first | refine Zes ?_ | (refine Zew rfl (Val_loadD1 rfl (hcd _ (.drop (.drop Wk.sv0)))) ?_) | (refine Zew rfl Zld ?_)) | (refine Zati 14 ?_; first | refine Zes ?_ | (refine Zew rfl Zia ?_)) | (refine Zati 15 ?_; first | refine Zes ?_ | (refine Zew rfl (Val_loadD1 rfl (hcd _ (.drop (.drop Wk.sv0)))) ?_) | (refine Zew rfl Zld ?_)) | (refine Zati 16 ?_; first | refine Zes ?_ | (refine Zew rfl Zfa ?_)) | (refine Zati 17 ?_; first | refine Zes ?_ | (refine Zew rfl (Val_loadD1 rfl (hcd _ (.drop (.drop Wk.sv0)))) ?_) | (refine Zew rfl Zld ?_)) | (refine Zati 18 ?_; first | refine Zes ?_ | (refine Zew rfl Zyleq ?_)) | (refine Zati 19 ?_; first | refine Zes ?_ | (refine Zew rfl Zxpt ?_) | (refine Zew rfl Zxpf ?_)) | (refine Zes ?_) | (refine Zesp (fun hc => ?_) (fun hc => ?_) <;> (try (exfalso; omega))) | (with_reducible apply EWalk_nil)) | (refine GiO ?_; first | (refine AnyO_done (by kernel_rfl) ?_; (try with_reducible apply noP_normal); try with_reducible exact key.out) | (refine AnyO_1 21 (by decide +kernel) rfl ?_)) | (refine Zhn ?_) | (with_reducible apply QBlock_normal) | (refine Zhx ?_) | (with_reducible apply QBlock_hit) | (refine Zqb ?_) | (with_reducible apply QLoop_exit) | (refine AWalk_0 ?_; refine ZisO ?_) | (with_reducible apply QAny_normal))
          exact QLoop_normal (i + 1, false) (.cons rfl .nil) (by repeat (first | exact Off.frame rfl | exact Off.refl _ _ | refine Off.frameT rfl rfl ?_ | refine Off.upd rfl ?_ | refine Off.updO rfl ?_)) (by repeat (first | exact Wk.refl _ | apply Wk.keep1 | apply Wk.drop | apply Wk.sv | apply Wk.svD | apply Wk.appD)) ⟨by dsimp only; omega, by dsimp only; rw [hsn2]; simp [hle]⟩ (by dsimp only; omega)
      · have hsn2 : (u && kp1 g.d nx (i + 1)) = true := by rw [hsn, Bool.true_and, if_neg (by rw [hz]; exact hzb)]; exact decide_eq_true (by dsimp only; omega)
        repeat' (first | (refine GiP ?_; first | (refine Znh ?_) | (with_reducible refine Znl ?_) | (refine Zatn ?_; refine Zst ?_)) | (refine GiW ?_; first | (refine Zsq fun K hK => ?_) | (refine ZrN 3 fun _ => ?_; refine Zv Zylss ?_) | (refine ZrN 4 fun _ => ?_; refine Zv Zia ?_; (first | (refine Zv (Val_loadD1 rfl (hcd _ (.drop (.drop Wk.sv0)))) ?_) | (refine Zv Zla ?_)); refine Zal 9 fun b9 => ?_; refine Zst ?_) | (refine ZrN 6 fun _ => ?_; refine Zv Zxadd ?_; refine Zv Zmi ?_) | (refine WP_cond_true rfl ?_) | (refine WP_cond_false rfl ?_) | (refine Zcd (fun hc => ?_) (fun hc => ?_) <;> (try (exfalso; omega))) | (with_reducible apply WP_skip) | (with_reducible apply WP_block) | (with_reducible apply WP_exit) | (refine WP_drawn (id := 5) [0, 1, 2, 3, 4, 5, 6, 7, 8, 9, 10, 11, 12, 13, 14, 15, 16, 17, 18, 19, 20] [] (k := 1) prog_mixed (by kernel_rfl) rfl ?_; (first | (refine Zew rfl (Val_loadD1 rfl (hcd _ (.drop (.drop Wk.sv0)))) ?_) | (refine Zew rfl Zld ?_)); refine Zew rfl Zmb ?_)) | (refine GiE ?_; first | (refine Zati 20 ?_; (first | (refine Zew rfl Zxpt ?_) | (refine Zew rfl Zxpf ?_))) | (refine Zati 2 ?_; first | refine Zes ?_ | (refine Zew rfl Zmv ?_)) | (refine Zati 3 ?_; first | refine Zes ?_ | (refine Zew rfl Zf0 ?_)) | (refine Zati 4 ?_; first | refine Zes ?_ | (refine Zew rfl (Val_loadD1 rfl (hcd _ (.drop (.drop Wk.sv0)))) ?_) | (refine Zew rfl Zld ?_)) | (refine Zati 5 ?_; first | refine Zes ?_ | (refine Zew rfl Zia ?_)) | (refine Zati 6 ?_; first | refine Zes ?_ | (refine Zew rfl (Val_loadD1 rfl (hcd _ (.drop (.drop Wk.sv0)))) ?_) | (refine Zew rfl Zld ?_)) | (refine Zati 7 ?_; first | refine Zes ?_ | (refine Zew rfl Zfa ?_)) | (refine Zati 8 ?_; first | refine Zes ?_ | (refine Zew rfl (Val_loadD1 rfl (hcd _ (.drop (.drop Wk.sv0)))) ?_) | (refine Zew rfl Zld ?_)) | (refine Zati 9 ?_; first | refine Zes ?_ | (refine Zew rfl Zyneq ?_)) | (refine Zati 10 ?_; first | refine Zes ?_ | (refine Zew rfl Zmb ?_)) | (refine Zati 11 ?_; first | refine Zes ?_ | (refine Zew rfl Zmv ?_)) | (refine Zati 12 ?_; first | refine Zes ?_ | (refine Zew rfl Zf0 ?_)) | (refine Zati 13 ?_; first | refine Zes ?_ | (refine Zew rfl (Val_loadD1 rfl (hcd _ (.drop (.drop Wk.sv0)))) ?_) | (refine Zew rfl Zld ?_)) | (refine Zati 14 ?_; first | refine Zes ?_ | (refine Zew rfl Zia ?_)) | (refine Zati 15 ?_; first | refine Zes ?_ | (refine Zew rfl (Val_loadD1 rfl (hcd _ (.drop (.drop Wk.sv0)))) ?_) | (refine Zew rfl Zld ?_)) | (refine Zati 16 ?_; first | refine Zes ?_ | (refine Zew rfl Zfa ?_)) | (refine Zati 17 ?_; first | refine Zes ?_ | (refine Zew rfl (Val_loadD1 rfl (hcd _ (.drop (.drop Wk.sv0)))) ?_) | (refine Zew rfl Zld ?_)) | (refine Zati 18 ?_; first | refine Zes ?_ | (refine Zew rfl Zyleq ?_)) | (refine Zati 19 ?_; first | refine Zes ?_ | (refine Zew rfl Zxpt ?_) | (refine Zew rfl Zxpf ?_)) | (refine Zes ?_) | (refine Zesp (fun hc => ?_) (fun hc => ?_) <;> (try (exfalso; omega))) | (with_reducible apply EWalk_nil)) | (refine GiO ?_; first | (refine AnyO_done (by kernel_rfl) ?_; (try with_reducible apply noP_normal); try with_reducible exact key.out) | (refine AnyO_1 21 (by decide +kernel) rfl ?_)) | (refine Zhn ?_) | (with_reducible apply QBlock_normal) | (refine Zhx ?_) | (with_reducible apply QBlock_hit) | (refine Zqb ?_) | (with_reducible apply QLoop_exit) | (refine AWalk_0 ?_; refine ZisO ?_) | (with_reducible apply QAny_normal))
        exact QLoop_normal (i + 1, true) (.cons rfl .nil) (by repeat (first | exact Off.frame rfl | exact Off.refl _ _ | refine Off.frameT rfl rfl ?_ | refine Off.upd rfl ?_ | refine Off.updO rfl ?_)) (by repeat (first | exact Wk.refl _ | apply Wk.keep1 | apply Wk.drop | apply Wk.sv | apply Wk.svD | apply Wk.appD)) ⟨by dsimp only; omega, by dsimp only; rw [hsn2]⟩ (by dsimp only; omega)
  · have hie : i = g.d.rights.length := by omega
    rw [hie] at hw
    repeat' (first | (refine GiP ?_; first | (refine Znh ?_) | (with_reducible refine Znl ?_)) | (refine GiW ?_; first | (refine Zsq fun K hK => ?_) | (refine ZrN 3 fun _ => ?_; refine Zv Zxlss ?_) | (refine WP_cond_true rfl ?_) | (refine WP_cond_false rfl ?_) | (refine Zcd (fun hc => ?_) (fun hc => ?_) <;> (try (exfalso; omega))) | (with_reducible apply WP_skip) | (with_reducible apply WP_block) | (with_reducible apply WP_exit)) | (refine Zhn ?_) | (with_reducible apply QBlock_normal) | (refine Zhx ?_) | (with_reducible apply QBlock_hit) | (refine Zqb ?_) | (with_reducible apply QLoop_exit))
    exact QBody_end0 rfl ⟨(b5, Blk 4 [.bool w]) :: X, (by repeat (first | exact Wk.refl _ | apply Wk.keep1 | apply Wk.drop | apply Wk.sv | apply Wk.svD | apply Wk.appD)), _, rfl, rfl, by rw [hw]⟩
def okS (d : Dr) (f : List Int → Bool) (k : Nat) : Bool := (((rowsD d).take k).filter (rightB d)).all f
theorem okS_yes {d : Dr} {f : List Int → Bool} {k : Nat} (hk : k < (rowsD d).length) (h : rightB d (rowsD d)[k] = true) : okS d f (k + 1) = (okS d f k && f (rowsD d)[k]) := by
  unfold okS
  rw [List.take_succ_eq_append_getElem hk, List.filter_append, List.filter_cons_of_pos h, List.all_append]
  simp
theorem okS_no {d : Dr} {f : List Int → Bool} {k : Nat} (hk : k < (rowsD d).length) (h : rightB d (rowsD d)[k] = false) : okS d f (k + 1) = okS d f k := by
  unfold okS
  rw [List.take_succ_eq_append_getElem hk, List.filter_append, List.filter_cons_of_neg (by rw [h]; simp)]
  simp
theorem okS_all (d : Dr) (f : List Int → Bool) : okS d f (rowsD d).length = (toldD d).all f := by unfold okS toldD; rw [List.take_length]
def stopF (d : Dr) (x : Nat) (lv : List Int) : Bool := keepS1 d (nxt (keepL x d.ways 0) lv)
theorem stop_on (g : Fg) (hA : DrAt N w0 g) (hv : VD g.d) (x : Nat) (hx : x < 128) (bd b3 bu b5 : Nat) (L : Hp) (md : Mem bd (Blk 29 (drL g)) L) (Au : Option Addr) (cu : Nat) (mu : Mem bu (Blk 47 [.slice Au g.d.banks.length cu]) L) (hru : ∀ L', Sub L L' → RdI N w0 L' Au (upsL g.d)) :
    OnOK N w0 g.d (fun k => (b5, Blk 4 [.bool (okS g.d (stopF g.d x) k)]) :: (b3, Blk 3 [.int .i64 x]) :: L) 34 [.pointer (some ⟨bd, 0, none⟩), .pointer (some ⟨b3, 0, none⟩), .pointer (some ⟨bu, 0, none⟩), .pointer (some ⟨b5, 0, none⟩)] where
  on := by
    intro k hk hr F A c hrd
    have hSL : Sub L (F ++ ((b3, Blk 3 [.int .i64 x]) :: L)) := .app F (.cons (Sub.refl _))
    have := stop11_core N w0 g hA hv x hx bd b3 bu b5 (F ++ ((b3, Blk 3 [.int .i64 x]) :: L)) (.app F (.there md)) (.app F .here) Au cu (.app F (.there mu)) (fun L' hL => hru L' (Sub.trans hSL hL)) (rowsD g.d)[k] (rowsD_len (List.getElem_mem hk)) A c (fun L' hL => hrd L' (Sub.trans .left hL)) (okS g.d (stopF g.d x) k)
    refine Tri.pm this List.perm_middle ?_
    rintro y L' ⟨v, rfl, rfl, rfl⟩
    refine ⟨_, List.perm_middle.symm, rfl, ?_⟩
    rw [okS_yes hk hr]; rfl
  no := by
    intro k hk hr
    rw [okS_no hk hr]
theorem stop1_ret (g : Fg) (hA : DrAt N w0 g) (hv : VD g.d) (x : Nat) (hx : x < 128) (bd bu : Nat) (L : Hp) (md : Mem bd (Blk 29 (drL g)) L) (Au : Option Addr) (cu : Nat) (mu : Mem bu (Blk 47 [.slice Au g.d.banks.length cu]) L) (hru : ∀ L', Sub L L' → RdI N w0 L' Au (upsL g.d)) :
    Ret Try.prog N w0 L 33 [.int .i64 x, .pointer (some ⟨bd, 0, none⟩), .pointer (some ⟨bu, 0, none⟩)].toArray (.bool (enoughB g.d x)) := by
  have he := fun b3 b5 => each_tri N w0 g hA hv _ 34 _ (stop_on N w0 g hA hv x hx bd b3 bu b5 L md Au cu mu hru)
  have h0 : okS g.d (stopF g.d x) 0 = true := rfl
  have h1 : okS g.d (stopF g.d x) (rowsD g.d).length = enoughB g.d x := okS_all _ _
  rw [h0, h1] at he
  refine Ret.fgt ?_
  refine tri_of_WP Try.func33 rfl (n := _) rfl (by simp) ?_
  unfold drV at he
  unfold drL at he md
  repeat' (first | (refine GiP ?_; first | (refine Znh ?_) | (with_reducible refine Znl ?_)) | (refine GiW ?_; first | (refine Zsq fun K hK => ?_) | (refine ZrN 0 fun _ => ?_; refine Zal 3 fun b3 => ?_; refine Zv Zab ?_) | (refine ZrN 1 fun _ => ?_; refine Zal 5 fun b5 => ?_; refine Zst ?_) | (refine ZrN 2 fun _ => ?_; refine Zv Zla ?_; refine Zv Val_makeFunc ?_; refine OPS_retKS (Enters_fn rfl) (he b3 b5) rfl rfl rfl (fun v8 L8 h8 => ?_); subst h8) | (refine ZrN 3 fun _ => ?_; refine Zv Zld ?_; refine Zv Zab ?_) | (with_reducible apply WP_ret)) | (refine Zhn ?_) | (refine Zhr ?_))
  exact QBody_ret1 rfl (rfl : _ = Value.bool _) ⟨rfl, (by repeat (first | exact Wk.refl _ | apply Wk.keep1 | apply Wk.drop | apply Wk.sv | apply Wk.svD | apply Wk.appD))⟩
end
end Go.Proofs.Ytbhgpnbfdjoglaa
end
