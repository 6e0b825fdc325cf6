/- Package drain: the levels with which what of a set was seen is right; whether there are any, and all of them. -/
import Derived.Test.YtbhgpnbfdjoglaaA5
section
namespace Go.Proofs.Ytbhgpnbfdjoglaa
open Go.RowKit
/-- What of a set was seen among the first i is right. -/
def setR (d : Dr) (set : Nat) (lv : List Int) (i : Nat) : Bool := (pickL set (d.seen.take i) 0).all fun w => codeO (nxt d.ways lv w.1.toNat) == w.2
theorem setR_all (d : Dr) (set : Nat) (lv : List Int) : setR d set lv d.seen.length = rightB (onlyD d set) lv := by
  unfold setR rightB onlyD
  rw [List.take_length]
theorem setR_succ {d : Dr} {set : Nat} {lv : List Int} {i : Nat} (h : i < d.seen.length) : setR d set lv (i + 1) = (setR d set lv i && (decide (set / 2 ^ i % 2 ≠ 1) || codeO (nxt d.ways lv d.seen[i].1.toNat) == d.seen[i].2)) := by
  unfold setR
  rw [List.take_succ_eq_append_getElem h, pickL_snoc, List.all_append, List.length_take, Nat.min_eq_left (by omega), Nat.zero_add]
  congr 1
  by_cases hb : set / 2 ^ i % 2 = 1
  · rw [if_pos hb]; simp [hb]
  · rw [if_neg hb]; simp [hb]
theorem setR_no {d : Dr} {set : Nat} {lv : List Int} {i : Nat} (h : i < d.seen.length) (h1 : set / 2 ^ i % 2 = 1) (h2 : codeO (nxt d.ways lv d.seen[i].1.toNat) ≠ d.seen[i].2) : rightB (onlyD d set) lv = false := by
  rw [Bool.eq_false_iff]
  intro hr
  rw [rightB_iff] at hr
  exact h2 (hr d.seen[i] (pickL_mem.2 ⟨i, List.getElem?_eq_getElem h, by rw [Nat.zero_add]; exact h1⟩))
/-- Those of the first k levels with which it is right. -/
def tkS (d : Dr) (set k : Nat) : List (List Int) := ((rowsD d).take k).filter (rightB (onlyD d set))
theorem tkS_all (d : Dr) (set : Nat) : tkS d set (rowsD d).length = toldD (onlyD d set) := by
  unfold tkS toldD
  rw [List.take_length]; rfl
theorem tkS_yes {d : Dr} {set k : Nat} (hk : k < (rowsD d).length) (h : rightB (onlyD d set) (rowsD d)[k] = true) : tkS d set (k + 1) = tkS d set k ++ [(rowsD d)[k]] := by
  unfold tkS
  rw [List.take_succ_eq_append_getElem hk, List.filter_append, List.filter_cons, if_pos h]; rfl
theorem tkS_no {d : Dr} {set k : Nat} (hk : k < (rowsD d).length) (h : rightB (onlyD d set) (rowsD d)[k] = false) : tkS d set (k + 1) = tkS d set k := by
  unfold tkS
  rw [List.take_succ_eq_append_getElem hk, List.filter_append, List.filter_cons, if_neg (by rw [h]; simp)]; simp
theorem tkS_at {d : Dr} {set k : Nat} (hk : k < (rowsD d).length) (h : rightB (onlyD d set) (rowsD d)[k] = true) : ∃ h2 : (tkS d set k).length < (argL (toldD (onlyD d set))).length, (argL (toldD (onlyD d set)))[(tkS d set k).length] = [.agg (ints (pad5 (rowsD d)[k])).toArray] := by
  have e : toldD (onlyD d set) = tkS d set k ++ ((rowsD d)[k] :: ((rowsD d).drop (k + 1)).filter (rightB (onlyD d set))) := by
    show (rowsD d).filter _ = _
    conv => lhs; rw [← List.take_append_drop k (rowsD d), List.drop_eq_getElem_cons hk]
    rw [List.filter_append, List.filter_cons, if_pos h]; rfl
  have hg : (argL (toldD (onlyD d set)))[(tkS d set k).length]? = some [.agg (ints (pad5 (rowsD d)[k])).toArray] := by
    unfold argL
    rw [List.getElem?_map, e, List.getElem?_append_right (Nat.le_refl _), Nat.sub_self]; rfl
  exact List.getElem?_eq_some_iff.1 hg
theorem waysK0 (d : Dr) (lv : List Int) : waysK d (lv, 0, 0, 0) = d.ways := by unfold waysK; simp [keepL_zero]
theorem crsK0 (d : Dr) (lv : List Int) : crsK d (lv, 0, 0, 0) = crs d.banks.length (nxt d.ways lv) := by unfold crsK; rw [waysK0]
theorem LyOk0 {d : Dr} (v : VD d) {lv : List Int} (h : lv ∈ rowsD d) : LyOk d (lv, 0, 0, 0) := ⟨rowsD_len h, rowsD_bd v h, by dsimp only; omega, by dsimp only; omega⟩
theorem Sub.mid {x A F B : Hp} (h : Sub x (A ++ B)) : Sub x (A ++ (F ++ B)) := by
  obtain ⟨L0, h⟩ := h
  refine ⟨F ++ L0, ?_⟩
  have h1 : (A ++ (F ++ B)).Perm (F ++ (A ++ B)) := by
    have := (List.perm_append_comm (l₁ := A) (l₂ := F)).append_right B
    simpa using this
  refine h1.trans ((List.Perm.append_left F h).trans ?_)
  have := (List.perm_append_comm (l₁ := F) (l₂ := x)).append_right L0
  simpa using this
/-- What the iterator asks of the states: that the bog is there, whatever it keeps, and the boxes that it leans on. -/
def CSeen (g : Fg) (nd : Hp) (J : Nat → Hp → Prop) : Prop := ∀ k Fr, J k Fr → ∃ K A B, Fr = A ++ (Fk g K ++ B) ∧ Sub nd (A ++ B) ∧ ∀ K', J k (A ++ (Fk g K' ++ B))
theorem CSeen.more {g : Fg} {nd : Hp} {J : Nat → Hp → Prop} (h : CSeen g nd J) (x y : Nat × (Obj → Prop)) : CSeen g nd fun k F' => ∃ Fr, J k Fr ∧ F' = x :: y :: Fr := by
  rintro k _ ⟨Fr, hJ, rfl⟩
  obtain ⟨K, A, B, rfl, hS, hK⟩ := h k Fr hJ
  exact ⟨K, x :: y :: A, B, rfl, hS.cons.cons, fun K' => ⟨_, hK K', rfl⟩⟩
def NdS (pb sb set : Nat) (g : Fg) : Hp := [(pb, Blk 72 [.pointer (some ⟨g.b, 0, none⟩)]), (sb, Blk 96 [.int .u64 (set : Int)])]
theorem mem_mid {b : Nat} {φ : Obj → Prop} {A F B X : Hp} (h : Mem b φ F) : Mem b φ (A ++ (F ++ (B ++ X))) := .app A (.of (List.mem_append_left _ h.mem))
theorem fk_bog {g : Fg} {K : List (Nat × Ly)} : Mem g.b (Blk 85 (bogL g)) (Fk g K) := .here
theorem fk_crs {g : Fg} {K : List (Nat × Ly)} {q : Nat × Ly} (h : q ∈ K) : Mem q.1 (Blk 3 (crsK g.d q.2)) (Fk g K) := .there (.there (mem_KH h))
attribute [local irreducible] AnyO AnyB QAny QB EWalk AWalk Ev WP OPS QThen QBlock QScope QLoop QBody Val New Turn Tri Enters PostA Blk Ro
attribute [local irreducible] AnyC QC
section
variable (N : Nat) (w0 : World)
theorem course_at (A X : Hp) (g : Fg) (hv : VD g.d) (hA : DrAt N w0 g) (K : List (Nat × Ly)) (q : Ly) (hq : LyOk g.d q) :
    Tri Try.prog N w0 (A ++ (Fk g K ++ X)) 85 [.pointer (some ⟨g.b, 0, none⟩), .agg (keyL q).toArray].toArray fun x L' => ∃ v, x = .returned v ∧ ∃ K' b', v = .slice (some ⟨b', 0, none⟩) g.d.banks.length g.d.banks.length ∧ (b', q) ∈ K' ∧ L' = A ++ (Fk g K' ++ X) := by
  have hp : ∀ F : Hp, (A ++ (F ++ X)).Perm (F ++ (A ++ X)) := by
    intro F
    have := (List.perm_append_comm (l₁ := A) (l₂ := F)).append_right X
    simpa using this
  refine Tri.pm (course_tri N w0 (A ++ X) g hv hA K q hq) (hp _) ?_
  rintro x L' ⟨v, rfl, K', b', rfl, hm, rfl⟩
  exact ⟨_, (hp _).symm, _, rfl, K', b', rfl, hm, rfl⟩
theorem seen_tri (L : Hp) (g : Fg) (set : Nat) : Tri Try.prog N w0 L 89 [.pointer (some ⟨g.b, 0, none⟩), .int .u64 (set : Int)].toArray fun x L' => ∃ v, x = .returned v ∧ ∃ pb sb, v = .func (.func 100) #[] #[.pointer (some ⟨pb, 0, none⟩), .pointer (some ⟨sb, 0, none⟩)] ∧ L' = (sb, Blk 96 [.int .u64 (set : Int)]) :: (pb, Blk 72 [.pointer (some ⟨g.b, 0, none⟩)]) :: L := by
  refine tri_of_WP Try.func89 rfl (n := _) rfl (by simp) ?_
  repeat' (first | (refine GiP ?_; first | (refine Znh ?_) | (with_reducible refine Znl ?_)) | (refine GiW ?_; first | (refine Zsq fun K hK => ?_) | (refine ZrN 0 fun _ => ?_; refine Zal 2 fun b2 => ?_; refine Zal 3 fun b3 => ?_; refine Zv Zav ?_) | (refine ZrN 1 fun _ => ?_; refine Zv Val_makeFunc ?_; refine Zv Zav ?_) | (with_reducible apply WP_ret)) | (refine Zhn ?_) | (refine Zhr ?_))
  exact QBody_ret1 rfl rfl ⟨_, rfl, _, _, rfl, rfl⟩
set_option maxHeartbeats 4000000 in
theorem seen_iter (g : Fg) (hv : VD g.d) (hA : DrAt N w0 g) (pb sb set : Nat) (hset : set < 2 ^ 64) : IterC Try.prog N w0 100 [.pointer (some ⟨pb, 0, none⟩), .pointer (some ⟨sb, 0, none⟩)] (argL (toldD (onlyD g.d set))) (CSeen g (NdS pb sb set g)) := by
  intro fy ya yb J Jx hY hC Fr X h0
  have hns := hv.ns
  have hnb := hv.nb
  obtain ⟨Ks, A, B, rfl, hS, hst⟩ := hC 0 Fr h0
  have hm1 : Mem pb (Blk 72 [.pointer (some ⟨g.b, 0, none⟩)]) (A ++ (Fk g Ks ++ B) ++ X) := ((hS.mid (F := Fk g Ks)).appR X).mem .here
  refine Tri.fgt ?_
  refine tri_of_WPL Try.func100 rfl (n := _) rfl (by simp) ?_
  repeat' (first | (refine GiP ?_; first | (refine Znh ?_) | (with_reducible refine Znl ?_) | (refine Zatd 5 ?_; refine Zv Zav ?_) | (refine Zatd 45 ?_; refine Zv Zxnot ?_)) | (refine GiW ?_; first | (refine Zsq fun K hK => ?_) | (refine ZrN 0 fun _ => ?_; refine Zal 3 fun b3 => ?_) | (refine ZrN 1 fun _ => ?_; refine Zv Zld ?_; refine OPS_retKS (Enters_fn rfl) (all_tri N w0 _ g) rfl rfl rfl (fun v9 L9 h9 => ?_); obtain ⟨pr, rfl, rfl⟩ := h9) | (refine ZrN 2 fun _ => ?_; refine Zal 4 fun b4 => ?_; refine Zst ?_) | (refine ZrN 3 fun _ => ?_; refine Zv Zld ?_; refine Zv Zla ?_; refine Zv Zxbu ?_) | (refine ZrN 4 fun _ => ?_; refine Zv Zld ?_; (first | (refine Zv Zxnp ?_) | (refine Zv Zxnf ?_)); refine Zv Zf0 ?_; refine Zv Zfa ?_; refine Zv Zld ?_; refine Zv Zxlen ?_; refine Zv Zmi ?_) | (refine ZrN 5 fun _ => ?_; refine Zv Zxlss ?_) | (refine ZrN 6 fun _ => ?_; refine Zv Zmi ?_; refine Zv Zia ?_; refine Zv Zla ?_; refine Zal 7 fun b7 => ?_; refine Zv Zai ?_; refine Zst ?_) | (refine ZrN 8 fun _ => ?_; refine Zv Zxadd ?_; refine Zv Zmi ?_) | (refine ZrN 9 fun _ => ?_; refine Zv Zld ?_; refine Zv Zla ?_) | (refine WP_cond_true rfl ?_) | (refine WP_cond_false rfl ?_) | (refine Zcd (fun hc => ?_) (fun hc => ?_) <;> (try (exfalso; omega))) | (with_reducible apply WP_skip) | (with_reducible apply WP_label) | (with_reducible apply WP_block) | (with_reducible apply WP_scope) | (with_reducible apply WP_exit) | (with_reducible apply WP_ret) | (refine WP_drawn (id := 7) [0, 1, 2, 3, 4, 5, 6, 7, 8, 9, 10, 11, 12, 13, 14] [] (k := 0) prog_mixed (by kernel_rfl) rfl ?_; refine Zew rfl Zld ?_; refine Zew rfl Zmi ?_)) | (refine GiE ?_; first | (refine Zati 4 ?_; refine Zew rfl Zxeql ?_; refine Zew rfl Zmb ?_) | (refine Zati 14 ?_; (first | (refine Zew rfl Zxpt ?_) | (refine Zew rfl Zxpf ?_))) | (refine Zati 6 ?_; first | refine Zes ?_ | (refine Zew rfl Zmv ?_)) | (refine Zati 7 ?_; first | refine Zes ?_ | (refine Zew rfl Zf0 ?_)) | (refine Zati 8 ?_; first | refine Zes ?_ | (refine Zew rfl Zld ?_)) | (refine Zati 9 ?_; first | refine Zes ?_ | (refine Zew rfl Zia ?_)) | (refine Zati 10 ?_; first | refine Zes ?_ | (refine Zew rfl Zld ?_)) | (refine Zati 11 ?_; first | refine Zes ?_ | (refine Zew rfl Zfa ?_)) | (refine Zati 12 ?_; first | refine Zes ?_ | (refine Zew rfl Zld ?_)) | (refine Zati 13 ?_; first | refine Zes ?_ | (refine Zew rfl Zxneq ?_)) | (refine Zes ?_) | (refine Zesp (fun hc => ?_) (fun hc => ?_) <;> (try (exfalso; omega))) | (with_reducible apply EWalk_nil)) | (refine AnyO_done (by kernel_rfl) ?_; (try with_reducible apply noP_normal); try with_reducible exact key.out) | (refine Zhn ?_) | (with_reducible apply QBlock_normal) | (with_reducible apply QScope_normal) | (refine Zhx ?_) | (with_reducible apply QBlock_hit) | (refine Zqb ?_) | (with_reducible apply QScope_exit) | (with_reducible apply QLoop_exit) | (refine Zhr ?_) | (with_reducible apply QBlock_ret) | (with_reducible apply QScope_ret) | (with_reducible apply QLoop_ret) | (refine AWalk_0 ?_; refine ZisO ?_) | (with_reducible apply QAny_normal))
  refine WP_rangeFunc (cc := [.pointer (some ⟨pr, 0, none⟩)]) (xs := argL (rowsD g.d)) (nd := NdR pr g) rfl (by rw [← seg_rows]; exact all_iter N w0 g hv hA pr)
    (fun k F => ∃ Fr, F = (pr, Blk 72 [.pointer (some ⟨g.b, 0, none⟩)]) :: (b3, Blk 104 [.func fy ya yb]) :: Fr ∧ J (tkS g.d set k).length Fr)
    (fun x F => x = .ret ∧ ∃ Fr, F = (pr, Blk 72 [.pointer (some ⟨g.b, 0, none⟩)]) :: (b3, Blk 104 [.func fy ya yb]) :: Fr ∧ Jx Fr)
    ((pr, Blk 72 [.pointer (some ⟨g.b, 0, none⟩)]) :: (b3, Blk 104 [.func fy ya yb]) :: (A ++ (Fk g Ks ++ B))) X (Wk.refl _) ⟨_, rfl, h0⟩ ?_ (by simp [argL]) rfl ?_ ?_ ?_
  · rintro k _ ⟨Fr, rfl, hJ⟩
    obtain ⟨K1, A1, B1, rfl, -, -⟩ := hC _ Fr hJ
    refine ⟨(b3, Blk 104 [.func fy ya yb]) :: (A1 ++ ((g.m, MapRel lks (GK g.d K1)) :: KH g.d K1 ++ B1)), .cons _ ?_⟩
    exact List.perm_middle (l₁ := (b3, Blk 104 [.func fy ya yb]) :: A1)
  · rintro l X0 k hk _ ⟨Fr, rfl, hJ⟩
    obtain ⟨K1, A1, B1, rfl, hS1, hst1⟩ := hC _ Fr hJ
    have hk' : k < (rowsD g.d).length := by simpa [argL] using hk
    have hx : (argL (rowsD g.d))[k] = [.agg (ints (pad5 (rowsD g.d)[k])).toArray] := by simp [argL]
    rw [hx]
    have hmem := List.getElem_mem hk'
    have hyes := tkS_yes (set := set) hk'
    have hno := tkS_no (set := set) hk'
    have hat := tkS_at (set := set) hk'
    obtain ⟨lv, hlv⟩ : ∃ lv, (rowsD g.d)[k] = lv := ⟨_, rfl⟩
    rw [hlv] at hmem hyes hno hat ⊢
    have hll := rowsD_len hmem
    have h5 := pad5_len (l := lv) (by omega)
    have hcr := fun A X Ks => course_at N w0 A X g hv hA Ks (lv, 0, 0, 0) (LyOk0 hv hmem)
    unfold keyL at hcr
    dsimp only at hcr
    obtain ⟨p, hp⟩ : ∃ p, pad5 lv = p := ⟨_, rfl⟩
    rw [hp] at h5 hcr hat ⊢
    match p, h5 with
    | [a0, a1, a2, a3, a4], _ =>
    unfold ints at hcr hat ⊢
    simp only [List.map_cons, List.map_nil, List.cons_append, List.nil_append] at hcr hat ⊢
    repeat' (first | (refine GiP ?_; first | (refine Znh ?_) | (with_reducible refine Znl ?_) | (refine Zatd 5 ?_; refine Zv Zav ?_) | (refine Zatd 45 ?_; refine Zv Zxnot ?_)) | (refine GiW ?_; first | (refine Zsq fun K hK => ?_) | (refine ZrN 0 fun _ => ?_; refine Zal 3 fun b3 => ?_) | (refine ZrN 1 fun _ => ?_; refine Zv Zld ?_) | (refine ZrN 2 fun _ => ?_; refine Zal 4 fun b4 => ?_; refine Zst ?_) | (refine ZrN 3 fun _ => ?_; refine Zv Zld ?_; refine Zv Zla ?_; refine Zv Zxbu ?_) | (refine ZrN 4 fun _ => ?_; refine Zv Zld ?_; (first | (refine Zv Zxnp ?_) | (refine Zv Zxnf ?_)); refine Zv Zf0 ?_; refine Zv Zfa ?_; refine Zv Zld ?_; refine Zv Zxlen ?_; refine Zv Zmi ?_) | (refine ZrN 5 fun _ => ?_; refine Zv Zxlss ?_) | (refine ZrN 6 fun _ => ?_; refine Zv Zmi ?_; refine Zv Zia ?_; refine Zv Zla ?_; refine Zal 7 fun b7 => ?_; refine Zv Zai ?_; refine Zst ?_) | (refine ZrN 8 fun _ => ?_; refine Zv Zxadd ?_; refine Zv Zmi ?_) | (refine ZrN 9 fun _ => ?_; refine Zv Zld ?_; refine Zv Zla ?_) | (refine WP_cond_true rfl ?_) | (refine WP_cond_false rfl ?_) | (refine Zcd (fun hc => ?_) (fun hc => ?_) <;> (try (exfalso; omega))) | (with_reducible apply WP_skip) | (with_reducible apply WP_label) | (with_reducible apply WP_block) | (with_reducible apply WP_scope) | (with_reducible apply WP_exit) | (with_reducible apply WP_ret) | (refine WP_drawn (id := 7) [0, 1, 2, 3, 4, 5, 6, 7, 8, 9, 10, 11, 12, 13, 14] [] (k := 0) prog_mixed (by kernel_rfl) rfl ?_; refine Zew rfl Zld ?_; refine Zew rfl Zmi ?_)) | (refine GiE ?_; first | (refine Zati 4 ?_; refine Zew rfl Zxeql ?_; refine Zew rfl Zmb ?_) | (refine Zati 14 ?_; (first | (refine Zew rfl Zxpt ?_) | (refine Zew rfl Zxpf ?_))) | (refine Zati 6 ?_; first | refine Zes ?_ | (refine Zew rfl Zmv ?_)) | (refine Zati 7 ?_; first | refine Zes ?_ | (refine Zew rfl Zf0 ?_)) | (refine Zati 8 ?_; first | refine Zes ?_ | (refine Zew rfl Zld ?_)) | (refine Zati 9 ?_; first | refine Zes ?_ | (refine Zew rfl Zia ?_)) | (refine Zati 10 ?_; first | refine Zes ?_ | (refine Zew rfl Zld ?_)) | (refine Zati 11 ?_; first | refine Zes ?_ | (refine Zew rfl Zfa ?_)) | (refine Zati 12 ?_; first | refine Zes ?_ | (refine Zew rfl Zld ?_)) | (refine Zati 13 ?_; first | refine Zes ?_ | (refine Zew rfl Zxneq ?_)) | (refine Zes ?_) | (refine Zesp (fun hc => ?_) (fun hc => ?_) <;> (try (exfalso; omega))) | (with_reducible apply EWalk_nil)) | (refine AnyO_done (by kernel_rfl) ?_; (try with_reducible apply noP_normal); try with_reducible exact key.out) | (refine Zhn ?_) | (with_reducible apply QBlock_normal) | (with_reducible apply QScope_normal) | (refine Zhx ?_) | (with_reducible apply QBlock_hit) | (refine Zqb ?_) | (with_reducible apply QScope_exit) | (with_reducible apply QLoop_exit) | (refine Zhr ?_) | (with_reducible apply QBlock_ret) | (with_reducible apply QScope_ret) | (with_reducible apply QLoop_ret) | (refine AWalk_0 ?_; refine ZisO ?_) | (with_reducible apply QAny_normal))
    refine ⟨rfl, (b4, Blk 93 [.int .i64 a0, .int .i64 a1, .int .i64 a2, .int .i64 a3, .int .i64 a4]) :: (pr, Blk 72 [.pointer (some ⟨g.b, 0, none⟩)]) :: (b3, Blk 104 [.func fy ya yb]) :: (A1 ++ (Fk g K1 ++ B1)), rfl, fun X1 => ?_⟩
    simp only [List.cons_append, List.append_assoc]
    have hs2 : ∀ Ks, Sub (NdS pb sb set g) (A1 ++ (Fk g Ks ++ (B1 ++ X1))) := fun Ks => by
      have := (hS1.mid (F := Fk g Ks)).appR X1
      simpa only [List.append_assoc] using this
    have hm1 := (hs2 K1).mem .here
    repeat' (first | (refine GiP ?_; first | (refine Znh ?_) | (with_reducible refine Znl ?_)) | (refine GiW ?_; first | (refine Zsq fun K hK => ?_) | (refine ZrN 3 fun _ => ?_; refine Zv Zld ?_; refine Zv Zla ?_; refine Zv Zxbu ?_; refine OPS_retKS (Enters_fn rfl) (hcr ((b4, Blk 93 [.int .i64 a0, .int .i64 a1, .int .i64 a2, .int .i64 a3, .int .i64 a4]) :: (pr, Blk 72 [.pointer (some ⟨g.b, 0, none⟩)]) :: (b3, Blk 104 [.func fy ya yb]) :: A1) (B1 ++ X1) K1) rfl rfl rfl (fun v14 L14 h14 => ?_); obtain ⟨K2, bc, rfl, hmK, rfl⟩ := h14; refine Zv Zav ?_) | (refine WP_cond_true rfl ?_) | (refine WP_cond_false rfl ?_) | (refine Zcd (fun hc => ?_) (fun hc => ?_) <;> (try (exfalso; omega))) | (with_reducible apply WP_skip) | (with_reducible apply WP_label) | (with_reducible apply WP_block) | (with_reducible apply WP_scope) | (with_reducible apply WP_exit) | (with_reducible apply WP_ret)) | (refine Zhn ?_) | (with_reducible apply QBlock_normal) | (with_reducible apply QScope_normal) | (refine Zhx ?_) | (with_reducible apply QBlock_hit) | (refine Zqb ?_) | (with_reducible apply QScope_exit) | (with_reducible apply QLoop_exit) | (refine Zhr ?_) | (with_reducible apply QBlock_ret) | (with_reducible apply QScope_ret) | (with_reducible apply QLoop_ret))
    simp only [List.cons_append]
    have hm2 := (hs2 K2).mem .here
    have hm3 := (hs2 K2).mem (.there .here)
    have hmb : Mem g.b (Blk 85 (bogL g)) (A1 ++ (Fk g K2 ++ (B1 ++ X1))) := mem_mid fk_bog
    have hmc : Mem bc (Blk 3 (crs g.d.banks.length (nxt g.d.ways lv))) (A1 ++ (Fk g K2 ++ (B1 ++ X1))) := by
      have := mem_mid (A := A1) (B := B1) (X := X1) (fk_crs (g := g) hmK)
      rwa [crsK0] at this
    unfold bogL at hmb
    have hJ2 : J (tkS g.d set k).length (A1 ++ (Fk g K2 ++ B1)) := hst1 K2
    repeat' (first | (refine GiP ?_; first | (refine Znh ?_) | (with_reducible refine Znl ?_)) | (refine GiW ?_; first | (refine Zsq fun K hK => ?_) | (refine ZrN 4 fun _ => ?_; refine Zv Zld ?_; (first | (refine Zv Zxnp ?_) | (refine Zv Zxnf ?_)); refine Zv Zf0 ?_; refine Zv Zfa ?_; refine Zv Zld ?_; refine Zv Zxlen ?_; refine Zv Zmi ?_) | (refine WP_cond_true rfl ?_) | (refine WP_cond_false rfl ?_) | (refine Zcd (fun hc => ?_) (fun hc => ?_) <;> (try (exfalso; omega))) | (with_reducible apply WP_skip) | (with_reducible apply WP_label) | (with_reducible apply WP_block) | (with_reducible apply WP_scope) | (with_reducible apply WP_exit) | (with_reducible apply WP_ret)) | (refine Zhn ?_) | (with_reducible apply QBlock_normal) | (with_reducible apply QScope_normal) | (refine Zhx ?_) | (with_reducible apply QBlock_hit) | (refine Zqb ?_) | (with_reducible apply QScope_exit) | (with_reducible apply QLoop_exit) | (refine Zhr ?_) | (with_reducible apply QBlock_ret) | (with_reducible apply QScope_ret) | (with_reducible apply QLoop_ret))
    refine WP_loop [6, 7, 21, 22, 23, 24, 25, 26, 27, 28, 29, 30, 31, 32, 33, 34, 35, 36, 37, 38, 39, 40, 41] (fun i : Nat => [(21, .int .i64 (i : Int))]) (fun _ => (b4, Blk 93 [.int .i64 a0, .int .i64 a1, .int .i64 a2, .int .i64 a3, .int .i64 a4]) :: (pr, Blk 72 [.pointer (some ⟨g.b, 0, none⟩)]) :: (b3, Blk 104 [.func fy ya yb]) :: (A1 ++ (Fk g K2 ++ (B1 ++ X1)))) (fun i => i ≤ g.d.seen.length ∧ setR g.d set lv i = true) (fun i => g.d.seen.length - i) 0 (.cons rfl .nil) (Wk.refl _) ⟨Nat.zero_le _, by simp [setR, pickL]⟩ ?_
    rintro i j ⟨hi, hri⟩
    by_cases hlt : i < g.d.seen.length
    · obtain ⟨bA, oA, hA1, hbA, hcA⟩ := hA.seen.row i hlt
      have hsu := setR_succ (set := set) (lv := lv) hlt
      have hrn := setR_no (set := set) (lv := lv) hlt
      have hwv := hv.se g.d.seen[i] (List.getElem_mem hlt)
      obtain ⟨w, hw⟩ : ∃ w, g.d.seen[i] = w := ⟨_, rfl⟩
      rw [hw] at hcA hsu hrn hwv
      obtain ⟨w1, w2⟩ := w
      obtain ⟨x, rfl⟩ : ∃ x : Nat, w1 = (x : Int) := ⟨w1.toNat, by dsimp only at hwv; omega⟩
      dsimp only at hsu hrn hwv
      rw [Int.toNat_natCast] at hsu hrn
      have hxn : x < g.d.banks.length := by omega
      have hcell := crs_get (nx := nxt g.d.ways lv) hxn
      obtain ⟨cz, hcz⟩ : ∃ cz, codeO (nxt g.d.ways lv x) = cz := ⟨_, rfl⟩
      rw [hcz] at hsu hrn hcell
      unfold spL at hcA
      dsimp only at hcA
      have hq : set / 2 ^ i < 2 ^ 64 := Nat.lt_of_le_of_lt (Nat.div_le_self _ _) hset
      obtain ⟨q, hqe⟩ : ∃ q, set / 2 ^ i = q := ⟨_, rfl⟩
      have hshr : ∀ {L e d ty pos af g x y' t t'} (hx : ev e x = .int .u64 (set : Int)) (hy : ev e y' = .int .i64 (i : Int)), Val Try.prog N w0 L e ⟨d, .binOp .shr t x y' t', ty, pos, af, g⟩ (.int .u64 (q : Int)) := by
        intro L e d ty pos af g x y' t t' hx hy
        have := Val_shr (P := Try.prog) (N := N) (w0 := w0) (L := L) (d := d) (ty := ty) (pos := pos) (af := af) (g := g) (t := t) (t' := t') (a := set) (i := i) hx hy (by show i ≤ 64; omega)
        rw [hqe] at this
        exact this
      rw [hqe] at hsu hrn hq
      rw [hri, Bool.true_and] at hsu
      repeat' (first | (refine GiP ?_; first | (refine Znh ?_) | (with_reducible refine Znl ?_)) | (refine GiW ?_; first | (refine Zsq fun K hK => ?_) | (refine ZrN 5 fun _ => ?_; refine Zv Zxlss ?_) | (refine ZrN 6 fun _ => ?_; refine Zv Zmi ?_; refine Zv Zia ?_; refine Zv Zla ?_; refine Zal 7 fun b7 => ?_; refine Zv Zai ?_; refine Zst ?_) | (refine ZrN 8 fun _ => ?_; refine Zv Zxadd ?_; refine Zv Zmi ?_) | (refine WP_cond_true rfl ?_) | (refine WP_cond_false rfl ?_) | (refine Zcd (fun hc => ?_) (fun hc => ?_) <;> (try (exfalso; omega))) | (with_reducible apply WP_skip) | (with_reducible apply WP_label) | (with_reducible apply WP_block) | (with_reducible apply WP_scope) | (with_reducible apply WP_exit) | (with_reducible apply WP_ret) | (refine WP_drawn (id := 7) [0, 1, 2, 3, 4, 5, 6, 7, 8, 9, 10, 11, 12, 13, 14] [] (k := 0) prog_mixed (by kernel_rfl) rfl ?_; refine Zew rfl Zld ?_; refine Zew rfl Zmi ?_; refine Zew rfl (hshr rfl rfl) ?_; refine Zew rfl (Val_and1 rfl rfl hq) ?_; refine Zew rfl Zxeql ?_; refine Zew rfl Zmb ?_)) | (refine GiE ?_; first | (refine Zati 14 ?_; (first | (refine Zew rfl Zxpt ?_) | (refine Zew rfl Zxpf ?_))) | (refine Zati 6 ?_; first | refine Zes ?_ | (refine Zew rfl Zmv ?_)) | (refine Zati 7 ?_; first | refine Zes ?_ | (refine Zew rfl Zf0 ?_)) | (refine Zati 8 ?_; first | refine Zes ?_ | (refine Zew rfl Zld ?_)) | (refine Zati 9 ?_; first | refine Zes ?_ | (refine Zew rfl Zia ?_)) | (refine Zati 10 ?_; first | refine Zes ?_ | (refine Zew rfl Zld ?_)) | (refine Zati 11 ?_; first | refine Zes ?_ | (refine Zew rfl Zfa ?_)) | (refine Zati 12 ?_; first | refine Zes ?_ | (refine Zew rfl Zld ?_)) | (refine Zati 13 ?_; first | refine Zes ?_ | (refine Zew rfl Zxneq ?_)) | (refine Zes ?_) | (refine Zesp (fun hc => ?_) (fun hc => ?_) <;> (try (exfalso; omega))) | (with_reducible apply EWalk_nil)) | (refine AnyO_done (by kernel_rfl) ?_; (try with_reducible apply noP_normal); try with_reducible exact key.out) | (refine Zhn ?_) | (with_reducible apply QBlock_normal) | (with_reducible apply QScope_normal) | (refine Zhx ?_) | (with_reducible apply QBlock_hit) | (refine Zqb ?_) | (with_reducible apply QScope_exit) | (with_reducible apply QLoop_exit) | (refine Zhr ?_) | (with_reducible apply QBlock_ret) | (with_reducible apply QScope_ret) | (with_reducible apply QLoop_ret) | (refine AWalk_0 ?_; refine ZisO ?_) | (with_reducible apply QAny_normal))
      · refine ⟨(pr, Blk 72 [.pointer (some ⟨g.b, 0, none⟩)]) :: (b3, Blk 104 [.func fy ya yb]) :: (A1 ++ (Fk g K2 ++ B1)), .drop (.drop (by simp only [List.cons_append, List.append_assoc]; exact Wk.refl _)), _, rfl, ?_⟩
        rw [hno (hrn (by omega) (by assumption))]; exact hJ2
      · exact QLoop_normal (i + 1) (.cons rfl .nil) (by repeat (first | exact Off.frame rfl | exact Off.refl _ _ | refine Off.frameT rfl rfl ?_ | refine Off.upd rfl ?_ | refine Off.updO rfl ?_)) (by repeat (first | exact Wk.refl _ | apply Wk.keep1 | apply Wk.drop | apply Wk.sv | apply Wk.svD | apply Wk.appD)) ⟨by omega, by rw [hsu, Bool.or_eq_true, decide_eq_true_eq, beq_iff_eq]; omega⟩ (by omega)
      · exact QLoop_normal (i + 1) (.cons rfl .nil) (by repeat (first | exact Off.frame rfl | exact Off.refl _ _ | refine Off.frameT rfl rfl ?_ | refine Off.upd rfl ?_ | refine Off.updO rfl ?_)) (by repeat (first | exact Wk.refl _ | apply Wk.keep1 | apply Wk.drop | apply Wk.sv | apply Wk.svD | apply Wk.appD)) ⟨by omega, by rw [hsu, Bool.or_eq_true, decide_eq_true_eq, beq_iff_eq]; omega⟩ (by omega)
    · have hie : i = g.d.seen.length := by omega
      rw [hie, setR_all] at hri
      obtain ⟨hk2, hxk⟩ := hat hri
      have hyl := hyes hri
      have hcv := hY.at ((b4, Blk 93 [.int .i64 a0, .int .i64 a1, .int .i64 a2, .int .i64 a3, .int .i64 a4]) :: (pr, Blk 72 [.pointer (some ⟨g.b, 0, none⟩)]) :: (b3, Blk 104 [.func fy ya yb]) :: []) X1 hk2 hJ2
      rw [hxk] at hcv
      simp only [List.cons_append, List.nil_append, List.append_assoc] at hcv
      repeat' (first | (refine GiP ?_; first | (refine Znh ?_) | (with_reducible refine Znl ?_)) | (refine GiW ?_; first | (refine Zsq fun K hK => ?_) | (refine ZrN 5 fun _ => ?_; refine Zv Zxlss ?_) | (refine ZrN 9 fun _ => ?_; refine Zv Zld ?_; refine Zv Zla ?_; refine OPS_callVS rfl rfl hcv rfl rfl (fun v44 L44 hK44 => ?_); obtain ⟨bv, Fr', rfl, rfl, hc44⟩ := hK44; refine Zv Zxnot ?_) | (refine WP_cond_true rfl ?_) | (refine WP_cond_false rfl ?_) | (refine Zcd (fun hc => ?_) (fun hc => ?_) <;> (try (exfalso; omega))) | (with_reducible apply WP_skip) | (with_reducible apply WP_label) | (with_reducible apply WP_block) | (with_reducible apply WP_scope) | (with_reducible apply WP_exit) | (with_reducible apply WP_ret)) | (refine Zhn ?_) | (with_reducible apply QBlock_normal) | (with_reducible apply QScope_normal) | (refine Zhx ?_) | (with_reducible apply QBlock_hit) | (refine Zqb ?_) | (with_reducible apply QScope_exit) | (with_reducible apply QLoop_exit) | (refine Zhr ?_) | (with_reducible apply QBlock_ret) | (with_reducible apply QScope_ret) | (with_reducible apply QLoop_ret))
      · refine ⟨(pr, Blk 72 [.pointer (some ⟨g.b, 0, none⟩)]) :: (b3, Blk 104 [.func fy ya yb]) :: Fr', .drop (Wk.refl _), rfl, Fr', rfl, ?_⟩
        rcases hc44 with ⟨h, _⟩ | ⟨_, h⟩
        · rw [h] at hc; cases hc
        · exact h
      · refine ⟨(pr, Blk 72 [.pointer (some ⟨g.b, 0, none⟩)]) :: (b3, Blk 104 [.func fy ya yb]) :: Fr', .drop (Wk.refl _), Fr', rfl, ?_⟩
        rcases hc44 with ⟨_, h⟩ | ⟨h, _⟩
        · rw [hyl, List.length_append]; exact h
        · rw [h] at hc; cases hc
  · rintro D _ ⟨Fr, rfl, hJ⟩
    have hal : (argL (rowsD g.d)).length = (rowsD g.d).length := by simp [argL]
    rw [hal, tkS_all] at hJ
    refine QBlock_normal ?_
    refine QScope_normal ?_
    refine QLeave_end ?_
    refine Lv_mark (by simp) .here ?_
    refine Lv_nil rfl .nil rfl ⟨Fr ++ X, (by repeat (first | exact Wk.refl _ | apply Wk.keep1 | apply Wk.drop | apply Wk.sv | apply Wk.svD | apply Wk.appD)), ⟨_, rfl⟩, Fr, rfl, .inl ?_⟩
    have : (argL (toldD (onlyD g.d set))).length = (toldD (onlyD g.d set)).length := by simp [argL]
    rw [this]; exact hJ
  · rintro D x _ ⟨rfl, Fr, rfl, hJ⟩ _
    refine QBlock_ret ?_
    refine QScope_ret ?_
    refine QLeave_ret ?_
    refine Lv_mark (by simp) .here ?_
    exact Lv_nil rfl .nil rfl ⟨Fr ++ X, (by repeat (first | exact Wk.refl _ | apply Wk.keep1 | apply Wk.drop | apply Wk.sv | apply Wk.svD | apply Wk.appD)), ⟨_, rfl⟩, Fr, rfl, .inr hJ⟩
end
end Go.Proofs.Ytbhgpnbfdjoglaa
end
