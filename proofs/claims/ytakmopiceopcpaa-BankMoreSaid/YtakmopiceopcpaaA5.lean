/- Package bank: in how many ways a state is come to, over all perches. -/
import Derived.Test.YtakmopiceopcpaaA4
section
namespace Go.Proofs.Ytakmopiceopcpaa
open Go.RowKit
def tlL (t : Int × Int × Int) : List Value := [.int .i64 t.1, .int .i64 t.2.1, .int .i64 t.2.2]
/-- The boxes of what is tallied. -/
def baseH (b3 b4 b5 b6 : Nat) (g : Fg) (h : Int) (A : Option Addr) (k c : Nat) (L : Hp) : Hp := (b6, Blk 89 [.int .i64 0, .int .i64 0, .int .i64 0]) :: (b5, Blk 91 [.slice A k c]) :: (b4, Blk 3 [.int .i64 h]) :: (b3, Blk 71 (bkL g)) :: L
theorem RdRows.sub {N : Nat} {w0 : World} {B L : Hp} {A : Option Addr} {sz : Nat} {rows : List (List Value)} (h : RdRows N w0 B A sz rows) (k : Sub B L) : RdRows N w0 L A sz rows := fun i hi => by
  obtain ⟨b, off, h1, h2⟩ := h i hi
  exact ⟨b, off, h1, fun j v hj w hI => h2 j v hj w (by obtain ⟨L0, k⟩ := k; exact (hI.perm (k.trans List.perm_append_comm)).wk (.app L0 B))⟩
theorem Wk.appRt (X L : Hp) : Wk (X ++ L) X := by
  induction X with
  | nil => exact Wk.nil_ L
  | cons x X ih => exact .keep1 ih
/-- A loop's state: entries that came out, their keys, the rows that were made of them, marks. -/
structure Lq where
  sn : List MapEntry
  K : List (List Int)
  l : List (St × Int)
  Ds : List Nat
theorem ent_state {b : Bn} (v : VB b) {aq : List Ask} {h : Int} {p clock : Nat} {es : Array MapEntry} (hM : MapIs lks (sumM (rowsR b aq h p)) es clock) {y : MapEntry} (hy : y ∈ es.toList) :
    ∃ s : St, s.1.length = b.ls.length ∧ (∀ f ∈ s.1, f = 0 ∨ f = 1 ∨ f = 2) ∧ (-1 ≤ s.2 ∧ s.2 ≤ b.m) ∧ inKs lks (keyI s) ∧ y.key = intsV lks (keyI s) ∧ csK (rowsR b aq h p) (keyI s) ≠ [] ∧ (∀ c ∈ csK (rowsR b aq h p) (keyI s), 0 ≤ c ∧ c ≤ p) ∧ y.val = tlV (tl (csK (rowsR b aq h p) (keyI s))) := by
  have hm := v.m
  have hnl := v.nl
  obtain ⟨is, hi, hk, hv⟩ := hM.ent y hy
  unfold sumM at hv
  split at hv
  · cases hv
  · rename_i hne
    obtain ⟨q, hq, rfl⟩ := csK_ne hne
    have ho := rows_ok v aq h p q hq
    injection hv with hv
    refine ⟨q.1, ho.len, ho.far, ho.hol, hi, hk, hne, ?_, hv.symm⟩
    intro c hc
    unfold csK atK at hc
    obtain ⟨q', hq', rfl⟩ := List.mem_map.1 hc
    exact (rows_ok v aq h p q' (List.mem_filter.1 hq').1).cnt
attribute [local irreducible] AnyO AnyB QAny QB EWalk AWalk Ev WP OPS QThen QBlock QScope QLoop QBody Val New Turn Tri Enters PostA Blk Ro
attribute [local irreducible] AnyC QC
section
variable (N : Nat) (w0 : World)
set_option maxHeartbeats 8000000 in
theorem tally_ret (L : Hp) (g : Fg) (hv : VB g.d) (hA : BkAt N w0 g) (h : Int) (A : Option Addr) (c : Nat) (aq : List Ask) (hl : aq.length ≤ 1000) (hR : RdRows N w0 L A 1 (aq.map askL)) :
    Ret Try.prog N w0 L 66 [bkV g, .int .i64 h, .slice A aq.length c].toArray (tlV (tl (finR g.d aq h))) := by
  have hnl := hv.nl
  have hn10 := hv.n
  have hm4 := hv.m
  have hro := rows_ok hv aq h
  have hrb := rows_bd hv aq h
  have hini := sum_init hnl
  unfold bkV bkL
  refine Ret.fgt ?_
  refine tri_of_WPL Try.func66 rfl (n := _) rfl (by simp) ?_
  repeat' (first | (refine Znh ?_) | (refine GiW ?_; first | (refine Zsq fun K hK => ?_) | (refine ZrN 0 fun _ => ?_; refine Zal 3 fun b3 => ?_; refine Zal 4 fun b4 => ?_; refine Zal 5 fun b5 => ?_; refine Zal 6 fun b6 => ?_) | (refine ZrN 1 fun _ => ?_; refine OPS_newS (φ := MapFn lks fun _ => none) (mapFn_new lks) New_makeMap rfl rfl rfl (fun b22 => ?_); refine Zv Zxbu ?_; refine Zv Zxbu ?_; refine OPS_turnN (Turn_insertF (ks := lks) (is := [0, 0, 0, 0, -1]) (w' := .agg [.int .i64 1, .int .i64 0, .int .i64 0].toArray) rfl rfl rfl ⟨rfl, by decide⟩ (by repeat (first | exact Up.here | apply Up.there | apply Up.sv))) rfl rfl ?_; refine Zv Zmv ?_; refine Zv Zav ?_) | (refine ZrN 2 fun _ => ?_; refine Zv Zf0 ?_; refine Zv Zf0 ?_; refine Zv Zld ?_; refine Zv Zmi ?_) | (with_reducible apply WP_block)))
  rw [← hini]
  refine WP_loopD [7, 8, 9, 10, 11, 12, 13, 14, 15, 29, 30, 31, 32, 33, 34, 35, 36, 37, 38, 39, 40, 41, 42, 43, 45, 46, 47, 48, 49, 50, 51, 52, 53, 54, 55, 56, 57, 58, 59, 60, 61, 62, 63, 64, 65, 66, 67, 68, 69, 70, 71, 72, 73, 74, 75, 76, 77, 78, 79, 80, 81, 82, 83, 84, 85, 86, 87, 88, 89, 90, 91, 92, 93, 94, 95, 96] (fun q : Nat × Nat × List Nat => [(29, .int .i64 (q.1 : Int)), (7, .map (some q.2.1))]) (fun q => (q.2.1, MapFn lks (sumM (rowsR g.d aq h q.1))) :: baseH b3 b4 b5 b6 g h A aq.length c (L ++ marksH q.2.2)) (fun q => (q.1 : Int) ≤ g.d.n) (fun q => g.d.n.toNat - q.1) (fun q => marks q.2.2 []) (0, b22, []) rfl (.cons rfl (.cons rfl .nil)) (by unfold baseH marksH bkL; simp only [List.map_nil, List.append_nil]; exact Wk.refl _) (by dsimp only; omega) ?_
  rintro ⟨p, m, Ds⟩ j hp
  dsimp only at hp ⊢
  unfold baseH bkL
  by_cases hlt : (p : Int) < g.d.n
  · repeat' (first | (refine Znh ?_) | (refine GiW ?_; first | (refine Zsq fun K hK => ?_) | (refine ZrN 3 fun _ => ?_; refine Zv Zxlss ?_) | (refine ZrN 4 fun _ => ?_; refine Zv Zmi ?_; refine Zal 8 fun b8 => ?_; refine Zst ?_) | (refine ZrN 5 fun _ => ?_; refine OPS_newS (φ := MapFn lks fun _ => none) (mapFn_new lks) New_makeMap rfl rfl rfl (fun b32 => ?_); refine Zal 9 fun b9 => ?_; refine Zst ?_) | (refine Zcd (fun hc => ?_) (fun hc => ?_) <;> (try (exfalso; omega))) | (with_reducible apply WP_skip) | (with_reducible apply WP_block)) | (refine Zhn ?_))
    refine WP_sub (B := (m, MapFn lks (sumM (rowsR g.d aq h p))) :: (b9, Blk 119 [.map (some b32)]) :: (b32, MapFn lks fun _ => none) :: (b8, Blk 3 [.int .i64 (p : Int)]) :: (b6, Blk 89 [.int .i64 0, .int .i64 0, .int .i64 0]) :: (b5, Blk 91 [.slice A aq.length c]) :: (b4, Blk 3 [.int .i64 h]) :: (b3, Blk 71 [.int .i64 g.d.n, .int .i64 g.d.m, .slice g.A1 g.d.ls.length g.c1, .slice g.A2 g.d.ms.length g.c2]) :: (L ++ marksH Ds)) (by repeat (first | exact Sub.refl _ | assumption | exact Sub.left | (with_reducible refine Sub.pick (by repeat (first | exact Pick.here | apply Pick.there)) ?_) | apply Sub.cons | apply Sub.sv | apply Sub.app)) ?_
    refine WP_openF fun es clock hM => ?_
    repeat' (first | (refine Znh ?_) | (refine GiW ?_; first | (refine ZrN 6 fun _ => ?_; refine Zv Zmv ?_; refine OPS_rangeF rfl (by repeat (first | exact Mem.here | assumption | apply Mem.there | apply Mem.sv | apply Mem.app)) rfl rfl (fun b34 => ?_)) | (with_reducible apply WP_block)))
    refine WP_loopD [10, 11, 12, 13, 14, 15, 35, 36, 37, 38, 39, 40, 41, 42, 43, 45, 46, 47, 48, 49, 50, 51, 52, 53, 54, 55, 56, 57, 58, 59, 60, 61, 62, 63, 64, 65, 66, 67, 68, 69, 70, 71, 72, 73, 74, 75, 76, 77, 78, 79, 80, 81, 82, 83, 84, 85, 86, 87, 88, 89, 90, 91, 92, 93, 94] (fun _ : Lq => []) (fun q => (b34, IterAt m es clock q.sn) :: (m, Is (.map es clock)) :: (b9, Blk 119 [.map (some b32)]) :: (b32, MapFn lks (sumM q.l)) :: (b8, Blk 3 [.int .i64 (p : Int)]) :: (b6, Blk 89 [.int .i64 0, .int .i64 0, .int .i64 0]) :: (b5, Blk 91 [.slice A aq.length c]) :: (b4, Blk 3 [.int .i64 h]) :: (b3, Blk 71 [.int .i64 g.d.n, .int .i64 g.d.m, .slice g.A1 g.d.ls.length g.c1, .slice g.A2 g.d.ms.length g.c2]) :: (L ++ marksH q.Ds))
      (fun q => Vis lks es q.sn q.K ∧ q.l.Perm (q.K.flatMap (rowK g.d aq h p (rowsR g.d aq h p)))) (fun q => es.size - q.sn.length) (fun q => marks q.Ds []) ⟨[], [], [], Ds⟩ rfl .nil ?_ ⟨Vis.nil _ _, by simp⟩ ?_
    · have e : sumM [] = fun _ => none := rfl
      dsimp only
      rw [e]
      exact Wk.refl _
    rintro ⟨sn, Ky, l', Dq⟩ j1 ⟨hvis, hperm⟩
    dsimp only at hvis hperm ⊢
    repeat' (first | (refine Znh ?_) | (refine GiW ?_; first | (refine Zsq fun K hK => ?_) | (refine ZrN 7 fun _ => ?_; refine OPS_nextF (F := fun sn' => (b34, IterAt m es clock sn') :: (m, Is (.map es clock)) :: (b9, Blk 119 [.map (some b32)]) :: (b32, MapFn lks (sumM l')) :: (b8, Blk 3 [.int .i64 (p : Int)]) :: (b6, Blk 89 [.int .i64 0, .int .i64 0, .int .i64 0]) :: (b5, Blk 91 [.slice A aq.length c]) :: (b4, Blk 3 [.int .i64 h]) :: (b3, Blk 71 [.int .i64 g.d.n, .int .i64 g.d.m, .slice g.A1 g.d.ls.length g.c1, .slice g.A2 g.d.ms.length g.c2]) :: (L ++ marksH Dq)) rfl (by repeat (first | exact Mem.here | assumption | apply Mem.there | apply Mem.sv | apply Mem.app)) .here hM.clk hM.bor (fun _ => .here) rfl rfl (fun hall => ?_) (fun y hy hyn => ?_); refine Zv Zxex ?_) | (refine WP_cond_false rfl ?_) | (with_reducible apply WP_exit)) | (refine Zhn ?_) | (refine Zhx ?_) | (with_reducible apply QBlock_hit) | (with_reducible apply QLoopD_exit))
    · have hall' : (Ky.flatMap (rowK g.d aq h p (rowsR g.d aq h p))).Perm (rowsR g.d aq h (p + 1)) := rowK_all g.d aq h p hvis.nod fun q hq => by
        have ho := hro p q hq
        have hne := csK_mem hq
        exact hvis.all hM hall (keyI_ks hm4.2 (by rw [ho.len]; exact hnl) ho.far ho.hol) (by unfold sumM; rw [if_neg hne])
      have hsm := sumM_perm (hperm.trans hall')
      rw [hsm]
      repeat' (first | (with_reducible refine Znl ?_) | (refine GiW ?_; first | (refine ZrN 19 fun _ => ?_; refine Zv Zld ?_; refine Zv Zav ?_) | (refine ZrN 20 fun _ => ?_; refine Zv Zxadd ?_; refine Zv Zmi ?_)) | (refine Zhn ?_) | (with_reducible apply QBlock_normal))
      refine QLoopD_normal (p + 1, b32, Dq) _ rfl (.cons rfl (.cons rfl .nil)) (by repeat (first | exact Off.frame rfl | exact Off.refl _ _ | refine Off.frameT rfl rfl ?_ | refine Off.upd rfl ?_ | refine Off.updO rfl ?_)) (Sub.refl _) ?_ (by dsimp only; omega) (by dsimp only; omega)
      dsimp only
      exact (by repeat (first | exact Wk.refl _ | apply Wk.keep1 | apply Wk.drop | apply Wk.sv | apply Wk.svD | apply Wk.appD))
    · obtain ⟨s, hs1, hs2, hs3, hsk, hyk, hcne, hcb, hyv⟩ := ent_state hv hM hy
      have hs4 : s.1.length ≤ 4 := by omega
      obtain ⟨hvis2, hlen⟩ := hvis.step hM hy hyn hyk hsk
      obtain ⟨lo, hi, htl, hlo, hhi⟩ := tl_bd hcne hcb
      have hcl := csK_len (rowsR g.d aq h p) (keyI s)
      have hpb := pow_bd (p := p) (by omega)
      have hrp := hrb p
      rw [keyI_V hs4] at hyk
      rw [htl] at hyv
      obtain ⟨a0, a1, a2, a3, hk5, _⟩ := keyI_five hs4
      unfold stV at hyk
      rw [hk5] at hyk
      unfold ints at hyk
      unfold tlV at hyv
      simp only [List.map_cons, List.map_nil] at hyk hyv
      obtain ⟨n1, hn1⟩ : ∃ n1 : Nat, (csK (rowsR g.d aq h p) (keyI s)).length = n1 := ⟨_, rfl⟩
      rw [hn1] at hyv hcl
      have hlp : l'.length ≤ 16 ^ p * 16 := by
        rw [hperm.length_eq]
        have := rowK_len hv aq h p (R := rowsR g.d aq h p) hvis.nod
        omega
      obtain ⟨yk, yv, yb⟩ := y
      dsimp only at hyk hyv
      subst hyk
      subst hyv
      have hnx := fun L => next_tri N w0 L g p s hs4
      unfold bkV bkL stV at hnx
      rw [hk5] at hnx
      unfold ints at hnx
      simp only [List.map_cons, List.map_nil] at hnx
      refine Zv Zxex ?_
      repeat' (first | (refine Znh ?_) | (refine GiW ?_; first | (refine Zsq fun K hK => ?_) | (refine ZrN 8 fun _ => ?_; refine Zv (Val_entryF (sn := sn) rfl (by repeat (first | exact Mem.here | assumption | apply Mem.there | apply Mem.sv | apply Mem.app)) (by repeat (first | exact Mem.here | assumption | apply Mem.there | apply Mem.sv | apply Mem.app)) hy hM.bor) ?_; refine Zv Zxex ?_; refine Zv Zxex ?_; refine Zal 10 fun b10 => ?_; refine Zal 11 fun b11 => ?_; refine Zst ?_; refine Zst ?_) | (refine ZrN 9 fun _ => ?_; refine Zv Zla ?_; refine Zv Zla ?_; refine Zv Zld ?_; refine OPS_retKS (Enters_fn rfl) (hnx _) rfl rfl rfl (fun v43 L43 h43 => ?_); obtain ⟨bp, bs, bb, rfl, rfl⟩ := h43) | (refine WP_cond_true rfl ?_) | (with_reducible apply WP_skip) | (with_reducible apply WP_block)) | (refine Zhn ?_))
      obtain ⟨y0, hy0⟩ : ∃ y0 : MapEntry, y0 = ⟨.agg #[.int .i64 a0, .int .i64 a1, .int .i64 a2, .int .i64 a3, .int .i64 s.2], .agg #[.int .i64 (n1 : Int), .int .i64 lo, .int .i64 hi], yb⟩ := ⟨_, rfl⟩
      rw [← hy0] at hvis2 ⊢
      refine WP_rangeFunc (cc := [.pointer (some ⟨bb, 0, none⟩), .pointer (some ⟨bs, 0, none⟩), .pointer (some ⟨bp, 0, none⟩)]) (xs := argS (folS g.d p s)) (nd := NdN bp bs bb p s g) rfl (next_iter N w0 g hv hA p hlt s hs1 hs2 bp bs bb)
        (fun k F => F = (bp, Blk 3 [.int .i64 (p : Int)]) :: (bs, Blk 118 (ints (keyI s))) :: (bb, Blk 71 (bkL g)) :: (b11, Blk 89 [.int .i64 (n1 : Int), .int .i64 lo, .int .i64 hi]) :: (b10, Blk 118 [.int .i64 a0, .int .i64 a1, .int .i64 a2, .int .i64 a3, .int .i64 s.2]) :: (b34, IterAt m es clock (sn ++ [y0])) :: (m, Is (.map es clock)) :: (b9, Blk 119 [.map (some b32)]) :: (b32, MapFn lks (sumM (l' ++ doneK g.d aq h p s (csK (rowsR g.d aq h p) (keyI s)) k))) :: (b8, Blk 3 [.int .i64 (p : Int)]) :: (b6, Blk 89 [.int .i64 0, .int .i64 0, .int .i64 0]) :: (b5, Blk 91 [.slice A aq.length c]) :: (b4, Blk 3 [.int .i64 h]) :: (b3, Blk 71 [.int .i64 g.d.n, .int .i64 g.d.m, .slice g.A1 g.d.ls.length g.c1, .slice g.A2 g.d.ms.length g.c2]) :: L)
        (fun _ _ => False)
        ((bp, Blk 3 [.int .i64 (p : Int)]) :: (bs, Blk 118 (ints (keyI s))) :: (bb, Blk 71 (bkL g)) :: (b11, Blk 89 [.int .i64 (n1 : Int), .int .i64 lo, .int .i64 hi]) :: (b10, Blk 118 [.int .i64 a0, .int .i64 a1, .int .i64 a2, .int .i64 a3, .int .i64 s.2]) :: (b34, IterAt m es clock (sn ++ [y0])) :: (m, Is (.map es clock)) :: (b9, Blk 119 [.map (some b32)]) :: (b32, MapFn lks (sumM l')) :: (b8, Blk 3 [.int .i64 (p : Int)]) :: (b6, Blk 89 [.int .i64 0, .int .i64 0, .int .i64 0]) :: (b5, Blk 91 [.slice A aq.length c]) :: (b4, Blk 3 [.int .i64 h]) :: (b3, Blk 71 [.int .i64 g.d.n, .int .i64 g.d.m, .slice g.A1 g.d.ls.length g.c1, .slice g.A2 g.d.ms.length g.c2]) :: L) (marksH Dq) (Wk.refl _) (by rw [doneK_zero, List.append_nil]) ?_ (fun x hx => by
          obtain ⟨q, _, rfl⟩ := List.mem_map.1 hx
          rfl) rfl ?_ ?_ ?_
      · rintro k _ rfl
        exact ⟨_, List.Perm.refl _⟩
      · rintro l0 X0 k hk _ rfl
        have hk' : k < (folS g.d p s).length := by simpa [argS] using hk
        have hx : (argS (folS g.d p s))[k] = [stV (folS g.d p s)[k]] := by simp [argS]
        have hxm := List.getElem_mem hk'
        obtain ⟨hx1, hx2, hx3⟩ := fol_ok hv hs1 hxm
        have hdy := doneK_yes (b := g.d) (aq := aq) (h := h) (p := p) (s := s) (cs := csK (rowsR g.d aq h p) (keyI s)) hk'
        have hdn := doneK_no (b := g.d) (aq := aq) (h := h) (p := p) (s := s) (cs := csK (rowsR g.d aq h p) (keyI s)) hk'
        have hdl := doneK_len hv aq h p s (csK (rowsR g.d aq h p) (keyI s)) k
        rw [hx]
        obtain ⟨x, hxe⟩ : ∃ x, (folS g.d p s)[k] = x := ⟨_, rfl⟩
        rw [hxe] at hx1 hx2 hx3 hdy hdn ⊢
        have hx4 : x.1.length ≤ 4 := by omega
        have hxk := keyI_ks hm4.2 hx4 hx2 (by omega)
        obtain ⟨c0, c1, c2, c3, hx5, _⟩ := keyI_five hx4
        obtain ⟨l2, hl2⟩ : ∃ l2, l' ++ doneK g.d aq h p s (csK (rowsR g.d aq h p) (keyI s)) k = l2 := ⟨_, rfl⟩
        have hl2b : l2.length ≤ 2 ^ 46 := by
          rw [← hl2, List.length_append]
          omega
        have hsd := sum_done (R := l2) (h := h) hcne x
        rw [htl, hn1, hx5] at hsd
        have hask := fun (b12 : Nat) (L' : Hp) (h1 : Sub L L') (h2 : Sub [(b8, Blk 3 [.int .i64 (p : Int)]), (b12, Blk 118 (ints (keyI x))), (b10, Blk 118 (ints (keyI s)))] L') => asked_ret N w0 L' A c aq (by omega) (hR.sub h1) p x s hx4 hs4 b8 b12 b10 h2
        rw [hk5, hx5] at hask
        rw [hx5] at hxk
        unfold stV
        rw [hx5]
        unfold ints at hask ⊢
        simp only [List.map_cons, List.map_nil] at hask ⊢
        rw [hl2]
        have hnext : l' ++ doneK g.d aq h p s (csK (rowsR g.d aq h p) (keyI s)) (k + 1) = if allIs aq p x.2 s.2 = true then l2 ++ doneX h (csK (rowsR g.d aq h p) (keyI s)) x else l2 := by
          cases hall : allIs aq p x.2 s.2 with
          | true => rw [if_pos rfl, hdy hall, ← hl2, List.append_assoc]
          | false => rw [if_neg (by simp), hdn hall, hl2]
        rw [hnext]
        repeat' (first | (with_reducible refine Znl ?_) | (refine ZrN 10 fun _ => ?_; refine Zal 12 fun b12 => ?_; refine Zst ?_))
        refine ⟨rfl, (b12, Blk 118 [.int .i64 c0, .int .i64 c1, .int .i64 c2, .int .i64 c3, .int .i64 x.2]) :: (bp, Blk 3 [.int .i64 (p : Int)]) :: (bs, Blk 118 (ints (keyI s))) :: (bb, Blk 71 (bkL g)) :: (b11, Blk 89 [.int .i64 (n1 : Int), .int .i64 lo, .int .i64 hi]) :: (b10, Blk 118 [.int .i64 a0, .int .i64 a1, .int .i64 a2, .int .i64 a3, .int .i64 s.2]) :: (b34, IterAt m es clock (sn ++ [y0])) :: (m, Is (.map es clock)) :: (b9, Blk 119 [.map (some b32)]) :: (b32, MapFn lks (sumM l2)) :: (b8, Blk 3 [.int .i64 (p : Int)]) :: (b6, Blk 89 [.int .i64 0, .int .i64 0, .int .i64 0]) :: (b5, Blk 91 [.slice A aq.length c]) :: (b4, Blk 3 [.int .i64 h]) :: (b3, Blk 71 [.int .i64 g.d.n, .int .i64 g.d.m, .slice g.A1 g.d.ls.length g.c1, .slice g.A2 g.d.ms.length g.c2]) :: L, rfl, fun X1 => ?_⟩
        simp only [List.cons_append]
        cases hall : allIs aq p x.2 s.2 with
        | false =>
          rw [hall] at hask
          rw [if_neg (by simp)]
          repeat' (first | (refine Znh ?_) | (refine GiW ?_; first | (refine Zsq fun K hK => ?_) | (refine ZrN 11 fun _ => ?_; refine Zv Zld ?_; refine Zv Val_makeFunc ?_; refine Zcl (Enters_fn rfl) (hask b12 _ (by repeat (first | exact Sub.refl _ | assumption | exact Sub.left | apply Sub.cons | apply Sub.sv | apply Sub.app)) (by repeat (first | exact Sub.refl _ | assumption | exact Sub.left | (with_reducible refine Sub.pick (by repeat (first | exact Pick.here | apply Pick.there)) ?_) | apply Sub.cons | apply Sub.sv | apply Sub.app))) ?_) | (refine WP_cond_true rfl ?_) | (with_reducible apply WP_block) | (with_reducible apply WP_exit)) | (refine Zhx ?_) | (with_reducible apply QBlock_hit))
          exact ⟨_, .drop (Wk.refl _), rfl⟩
        | true =>
          rw [hall] at hask
          rw [if_pos rfl]
          repeat' (first | (refine Znh ?_) | (refine GiW ?_; first | (refine Zsq fun K hK => ?_) | (refine ZrN 11 fun _ => ?_; refine Zv Zld ?_; refine Zv Val_makeFunc ?_; refine Zcl (Enters_fn rfl) (hask b12 _ (by repeat (first | exact Sub.refl _ | assumption | exact Sub.left | apply Sub.cons | apply Sub.sv | apply Sub.app)) (by repeat (first | exact Sub.refl _ | assumption | exact Sub.left | (with_reducible refine Sub.pick (by repeat (first | exact Pick.here | apply Pick.there)) ?_) | apply Sub.cons | apply Sub.sv | apply Sub.app))) ?_) | (refine ZrN 12 fun _ => ?_; refine Zv Zla ?_; refine Zal 13 fun b13 => ?_; refine Zst ?_) | (refine ZrN 13 fun _ => ?_; refine Zv Zfa ?_; refine Zv Zld ?_; refine Zv Zld ?_; refine Zv Zxeql ?_) | (refine WP_cond_false rfl ?_) | (refine Zcd (fun hc => ?_) (fun hc => ?_) <;> (try (exfalso; omega))) | (with_reducible apply WP_skip) | (with_reducible apply WP_block)) | (refine Zhn ?_))
          · have e1 : bump h x.2 lo = lo + 1 := by unfold bump; rw [if_pos hc]
            have e2 : bump h x.2 hi = hi + 1 := by unfold bump; rw [if_pos hc]
            rw [e1, e2] at hsd
            repeat' (first | (refine Znh ?_) | (refine GiW ?_; first | (refine Zsq fun K hK => ?_) | (refine ZrN 14 fun _ => ?_; refine Zv Zfa ?_; refine Zv Zf0 ?_; refine Zv Zld ?_; refine Zv Zxadd ?_; refine Zv Zfa ?_; refine Zv Zfa ?_; refine Zv Zld ?_; refine Zv Zxadd ?_; refine Zv Zxbu ?_; refine Zv Zfa ?_; refine Zst ?_)))
            by_cases hold : csK l2 [c0, c1, c2, c3, x.2] = []
            · have hM0 : sumM l2 [c0, c1, c2, c3, x.2] = none := by unfold sumM; rw [if_pos hold]
              rw [if_pos hold] at hsd
              have hlk : ∀ {L : Hp} {e : Env} {d : Option Nat} {ty : TypeId} {pos : String} {af : Array Edge} {gg : Option (Nat × Bool)} {x' y' : Operand}, ev e x' = .map (some b32) → ev e y' = .agg [.int .i64 c0, .int .i64 c1, .int .i64 c2, .int .i64 c3, .int .i64 x.2].toArray → Mem b32 (MapFn lks (sumM l2)) L → Val Try.prog N w0 L e ⟨d, .lookup 119 x' y' true, ty, pos, af, gg⟩ (.tuple [.agg [.int .i64 0, .int .i64 0, .int .i64 0].toArray, .bool false].toArray) := by
                intro L e d ty pos af gg x' y' hx' hy' hm
                have := Val_lookupF (P := Try.prog) (N := N) (w0 := w0) (d := d) (ty := ty) (pos := pos) (af := af) (g := gg) (t := 119) (ks := lks) (is := [c0, c1, c2, c3, x.2]) hx' hy' hxk hm
                rw [hM0] at this
                exact this
              repeat' (first | (refine GiP ?_; first | (refine Znh ?_) | (with_reducible refine Znl ?_)) | (refine GiW ?_; first | (refine Zsq fun K hK => ?_) | (refine ZrN 15 fun _ => ?_; refine Zv Zld ?_; refine Zv Zla ?_; refine Zv (hlk rfl rfl (by repeat (first | exact Mem.here | assumption | apply Mem.there | apply Mem.sv | apply Mem.app))) ?_; refine Zv Zmv ?_; refine Zv Zxex ?_; refine Zv Zxex ?_; refine Zal 14 fun b14 => ?_; refine Zst ?_; refine Zv Zab ?_) | (refine ZrN 16 fun _ => ?_; refine Zv Zmb ?_) | (refine ZrN 18 fun _ => ?_; refine Zv Zld ?_; refine Zv Zla ?_; refine Zv Zla ?_; refine OPS_turnN (Turn_mapUpdateF (ks := lks) (is := [c0, c1, c2, c3, x.2]) (w' := .agg [.int .i64 (n1 : Int), .int .i64 (lo + 1), .int .i64 (hi + 1)].toArray) rfl rfl rfl hxk (by repeat (first | exact Up.here | apply Up.there | apply Up.sv))) rfl rfl ?_) | (refine WP_cond_false rfl ?_) | (with_reducible apply WP_skip)) | (refine Zhn ?_) | (with_reducible apply QBlock_normal))
              rw [hsd]
              exact ⟨_, (by repeat (first | exact Wk.refl _ | apply Wk.drop)), rfl⟩
            · obtain ⟨o1, o2, ho1, ho2, ho3⟩ := tl_ne hold
              have hn2 := csK_len l2 [c0, c1, c2, c3, x.2]
              obtain ⟨n2, hn2e⟩ : ∃ n2 : Nat, (csK l2 [c0, c1, c2, c3, x.2]).length = n2 := ⟨_, rfl⟩
              rw [hn2e] at ho3 hn2
              have hM0 : sumM l2 [c0, c1, c2, c3, x.2] = some (.agg [.int .i64 (n2 : Int), .int .i64 o1, .int .i64 o2].toArray) := by unfold sumM; rw [if_neg hold, ho3]; rfl
              rw [if_neg hold, ho3] at hsd
              have hlk : ∀ {L : Hp} {e : Env} {d : Option Nat} {ty : TypeId} {pos : String} {af : Array Edge} {gg : Option (Nat × Bool)} {x' y' : Operand}, ev e x' = .map (some b32) → ev e y' = .agg [.int .i64 c0, .int .i64 c1, .int .i64 c2, .int .i64 c3, .int .i64 x.2].toArray → Mem b32 (MapFn lks (sumM l2)) L → Val Try.prog N w0 L e ⟨d, .lookup 119 x' y' true, ty, pos, af, gg⟩ (.tuple [.agg [.int .i64 (n2 : Int), .int .i64 o1, .int .i64 o2].toArray, .bool true].toArray) := by
                intro L e d ty pos af gg x' y' hx' hy' hm
                have := Val_lookupF (P := Try.prog) (N := N) (w0 := w0) (d := d) (ty := ty) (pos := pos) (af := af) (g := gg) (t := 119) (ks := lks) (is := [c0, c1, c2, c3, x.2]) hx' hy' hxk hm
                rw [hM0] at this
                exact this
              repeat' (first | (refine Znh ?_) | (refine GiW ?_; first | (refine Zsq fun K hK => ?_) | (refine ZrN 15 fun _ => ?_; refine Zv Zld ?_; refine Zv Zla ?_; refine Zv (hlk rfl rfl (by repeat (first | exact Mem.here | assumption | apply Mem.there | apply Mem.sv | apply Mem.app))) ?_; refine Zv Zmv ?_; refine Zv Zxex ?_; refine Zv Zxex ?_; refine Zal 14 fun b14 => ?_; refine Zst ?_; refine Zv Zab ?_) | (refine ZrN 16 fun _ => ?_; refine Zv Zmb ?_) | (refine WP_cond_true rfl ?_)))
              repeat' (first | (refine GiP ?_; first | (with_reducible refine Znl ?_) | (refine Zatd 75 ?_; refine Zcl (Enters_fn rfl) (sum_ret N w0 _ (n2 : Int) (n1 : Int) (by omega) (by omega) b74 (by repeat (first | exact Mem.here | assumption | apply Mem.there | apply Mem.sv | apply Mem.app))) ?_) | (refine Zatd 91 ?_; refine Zv Zxbu ?_) | (refine Zatn ?_; refine Zst ?_)) | (refine WP_drawnS (id := 17) [6, 7, 8, 9, 10, 11, 12, 13, 14, 15, 16, 17, 18, 19, 20] [0, 1, 2, 3, 6, 7, 8, 9, 10, 11, 12, 13, 14, 15, 16, 17, 18, 19, 20] [4] [76, 77, 78, 79, 80, 81, 82, 83, 84, 85, 86, 87, 88, 89, 90] (k := 1) (k2 := 2) (by repeat (first | apply Sub.sv | apply Sub.keep | apply Sub.appK | exact Sub.refl _)) (by kernel_rfl) prog_mixed (by kernel_rfl) (by kernel_rfl) rfl ?_; refine Zew rfl Zf0 ?_; refine Zew rfl Zld ?_; refine Zew rfl Zf0 ?_; refine Zew rfl Zld ?_; refine Zew rfl Zfa ?_; refine Zew rfl Zf0 ?_; refine Zew rfl Zld ?_; refine Zew rfl Zfa ?_; refine Zew rfl Zf0 ?_; refine Zew rfl Zld ?_; refine Zew rfl Zxmin ?_; refine Zew rfl Zfa ?_; refine Zew rfl Zfa ?_; refine Zew rfl Zld ?_; refine Zew rfl Zfa ?_; refine Zew rfl Zfa ?_; refine Zew rfl Zld ?_; refine Zew rfl Zxmax ?_; refine Zew rfl Zxbu ?_) | (with_reducible apply EWalk_nil) | (refine GiC ?_; first | (refine ZgC [0, 1, 2, 3, 6, 7, 8, 9, 10, 11, 12, 13, 14, 15, 16, 17, 18, 19, 20, 4] ?_; refine ZC1 _ 5 [0, 1, 2, 3, 6, 7, 8, 9, 10, 11, 12, 13, 14, 15, 16, 17, 18, 19, 20, 4, 5] ?_) | (refine ZgC [0, 1, 2, 3, 6, 7, 8, 9, 10, 11, 12, 13, 14, 15, 16, 17, 18, 19, 20, 4, 5] ?_; refine ZCl _ ?_)) | (refine GiO ?_; first | (refine ZgO [0, 1, 2, 3, 6, 7, 8, 9, 10, 11, 12, 13, 14, 15, 16, 17, 18, 19, 20, 4, 5] ?_; refine ZO1 _ 21 [0, 1, 2, 3, 6, 7, 8, 9, 10, 11, 12, 13, 14, 15, 16, 17, 18, 19, 20, 4, 5, 21] ?_) | (refine ZgO [0, 1, 2, 3, 6, 7, 8, 9, 10, 11, 12, 13, 14, 15, 16, 17, 18, 19, 20, 4, 5, 21] ?_; refine ZO1 _ 22 [0, 1, 2, 3, 6, 7, 8, 9, 10, 11, 12, 13, 14, 15, 16, 17, 18, 19, 20, 4, 5, 21, 22] ?_) | (refine ZgO [0, 1, 2, 3, 6, 7, 8, 9, 10, 11, 12, 13, 14, 15, 16, 17, 18, 19, 20, 4, 5, 21, 22] ?_; refine ZOd _ ?_; (try with_reducible apply noP_normal); (try with_reducible exact key.out))) | (refine Zhn ?_) | (refine AWalk_1S (d := 74) rfl rfl rfl rfl blk_is (New_buildSliceR rfl rfl (by repeat (first | exact CellsR.nil | (apply CellsR.cA rfl) | (apply CellsR.c1S (by constructor) rfl))) rfl (by decide) rfl (by decide)) (fun b74 => ?_)) | (with_reducible apply QAny_normal) | (with_reducible apply QC_normal))
              repeat' (first | (with_reducible refine Znl ?_) | (refine ZrN 18 fun _ => ?_; refine Zv Zld ?_; refine Zv Zla ?_; refine Zv Zla ?_; refine OPS_turnN (Turn_mapUpdateF (ks := lks) (is := [c0, c1, c2, c3, x.2]) (w' := .agg [.int .i64 ((n2 : Int) + (n1 : Int)), .int .i64 (min o1 (lo + 1)), .int .i64 (max o2 (hi + 1))].toArray) rfl rfl rfl hxk (by repeat (first | exact Up.here | apply Up.there | apply Up.sv))) rfl rfl ?_) | (with_reducible apply QBlock_normal))
              rw [hsd]
              exact ⟨_, (by repeat (first | exact Wk.refl _ | apply Wk.drop)), rfl⟩
          · have e1 : bump h x.2 lo = lo := by unfold bump; rw [if_neg hc]
            have e2 : bump h x.2 hi = hi := by unfold bump; rw [if_neg hc]
            rw [e1, e2] at hsd
            by_cases hold : csK l2 [c0, c1, c2, c3, x.2] = []
            · have hM0 : sumM l2 [c0, c1, c2, c3, x.2] = none := by unfold sumM; rw [if_pos hold]
              rw [if_pos hold] at hsd
              have hlk : ∀ {L : Hp} {e : Env} {d : Option Nat} {ty : TypeId} {pos : String} {af : Array Edge} {gg : Option (Nat × Bool)} {x' y' : Operand}, ev e x' = .map (some b32) → ev e y' = .agg [.int .i64 c0, .int .i64 c1, .int .i64 c2, .int .i64 c3, .int .i64 x.2].toArray → Mem b32 (MapFn lks (sumM l2)) L → Val Try.prog N w0 L e ⟨d, .lookup 119 x' y' true, ty, pos, af, gg⟩ (.tuple [.agg [.int .i64 0, .int .i64 0, .int .i64 0].toArray, .bool false].toArray) := by
                intro L e d ty pos af gg x' y' hx' hy' hm
                have := Val_lookupF (P := Try.prog) (N := N) (w0 := w0) (d := d) (ty := ty) (pos := pos) (af := af) (g := gg) (t := 119) (ks := lks) (is := [c0, c1, c2, c3, x.2]) hx' hy' hxk hm
                rw [hM0] at this
                exact this
              repeat' (first | (refine GiP ?_; first | (refine Znh ?_) | (with_reducible refine Znl ?_)) | (refine GiW ?_; first | (refine Zsq fun K hK => ?_) | (refine ZrN 15 fun _ => ?_; refine Zv Zld ?_; refine Zv Zla ?_; refine Zv (hlk rfl rfl (by repeat (first | exact Mem.here | assumption | apply Mem.there | apply Mem.sv | apply Mem.app))) ?_; refine Zv Zmv ?_; refine Zv Zxex ?_; refine Zv Zxex ?_; refine Zal 14 fun b14 => ?_; refine Zst ?_; refine Zv Zab ?_) | (refine ZrN 16 fun _ => ?_; refine Zv Zmb ?_) | (refine ZrN 18 fun _ => ?_; refine Zv Zld ?_; refine Zv Zla ?_; refine Zv Zla ?_; refine OPS_turnN (Turn_mapUpdateF (ks := lks) (is := [c0, c1, c2, c3, x.2]) (w' := .agg [.int .i64 (n1 : Int), .int .i64 lo, .int .i64 hi].toArray) rfl rfl rfl hxk (by repeat (first | exact Up.here | apply Up.there | apply Up.sv))) rfl rfl ?_) | (refine WP_cond_false rfl ?_) | (with_reducible apply WP_skip)) | (refine Zhn ?_) | (with_reducible apply QBlock_normal))
              rw [hsd]
              exact ⟨_, (by repeat (first | exact Wk.refl _ | apply Wk.drop)), rfl⟩
            · obtain ⟨o1, o2, ho1, ho2, ho3⟩ := tl_ne hold
              have hn2 := csK_len l2 [c0, c1, c2, c3, x.2]
              obtain ⟨n2, hn2e⟩ : ∃ n2 : Nat, (csK l2 [c0, c1, c2, c3, x.2]).length = n2 := ⟨_, rfl⟩
              rw [hn2e] at ho3 hn2
              have hM0 : sumM l2 [c0, c1, c2, c3, x.2] = some (.agg [.int .i64 (n2 : Int), .int .i64 o1, .int .i64 o2].toArray) := by unfold sumM; rw [if_neg hold, ho3]; rfl
              rw [if_neg hold, ho3] at hsd
              have hlk : ∀ {L : Hp} {e : Env} {d : Option Nat} {ty : TypeId} {pos : String} {af : Array Edge} {gg : Option (Nat × Bool)} {x' y' : Operand}, ev e x' = .map (some b32) → ev e y' = .agg [.int .i64 c0, .int .i64 c1, .int .i64 c2, .int .i64 c3, .int .i64 x.2].toArray → Mem b32 (MapFn lks (sumM l2)) L → Val Try.prog N w0 L e ⟨d, .lookup 119 x' y' true, ty, pos, af, gg⟩ (.tuple [.agg [.int .i64 (n2 : Int), .int .i64 o1, .int .i64 o2].toArray, .bool true].toArray) := by
                intro L e d ty pos af gg x' y' hx' hy' hm
                have := Val_lookupF (P := Try.prog) (N := N) (w0 := w0) (d := d) (ty := ty) (pos := pos) (af := af) (g := gg) (t := 119) (ks := lks) (is := [c0, c1, c2, c3, x.2]) hx' hy' hxk hm
                rw [hM0] at this
                exact this
              repeat' (first | (refine Znh ?_) | (refine GiW ?_; first | (refine Zsq fun K hK => ?_) | (refine ZrN 15 fun _ => ?_; refine Zv Zld ?_; refine Zv Zla ?_; refine Zv (hlk rfl rfl (by repeat (first | exact Mem.here | assumption | apply Mem.there | apply Mem.sv | apply Mem.app))) ?_; refine Zv Zmv ?_; refine Zv Zxex ?_; refine Zv Zxex ?_; refine Zal 14 fun b14 => ?_; refine Zst ?_; refine Zv Zab ?_) | (refine ZrN 16 fun _ => ?_; refine Zv Zmb ?_) | (refine WP_cond_true rfl ?_)))
              repeat' (first | (refine GiP ?_; first | (with_reducible refine Znl ?_) | (refine Zatd 75 ?_; refine Zcl (Enters_fn rfl) (sum_ret N w0 _ (n2 : Int) (n1 : Int) (by omega) (by omega) b74 (by repeat (first | exact Mem.here | assumption | apply Mem.there | apply Mem.sv | apply Mem.app))) ?_) | (refine Zatd 91 ?_; refine Zv Zxbu ?_) | (refine Zatn ?_; refine Zst ?_)) | (refine WP_drawnS (id := 17) [6, 7, 8, 9, 10, 11, 12, 13, 14, 15, 16, 17, 18, 19, 20] [0, 1, 2, 3, 6, 7, 8, 9, 10, 11, 12, 13, 14, 15, 16, 17, 18, 19, 20] [4] [76, 77, 78, 79, 80, 81, 82, 83, 84, 85, 86, 87, 88, 89, 90] (k := 1) (k2 := 2) (by repeat (first | apply Sub.sv | apply Sub.keep | apply Sub.appK | exact Sub.refl _)) (by kernel_rfl) prog_mixed (by kernel_rfl) (by kernel_rfl) rfl ?_; refine Zew rfl Zf0 ?_; refine Zew rfl Zld ?_; refine Zew rfl Zf0 ?_; refine Zew rfl Zld ?_; refine Zew rfl Zfa ?_; refine Zew rfl Zf0 ?_; refine Zew rfl Zld ?_; refine Zew rfl Zfa ?_; refine Zew rfl Zf0 ?_; refine Zew rfl Zld ?_; refine Zew rfl Zxmin ?_; refine Zew rfl Zfa ?_; refine Zew rfl Zfa ?_; refine Zew rfl Zld ?_; refine Zew rfl Zfa ?_; refine Zew rfl Zfa ?_; refine Zew rfl Zld ?_; refine Zew rfl Zxmax ?_; refine Zew rfl Zxbu ?_) | (with_reducible apply EWalk_nil) | (refine GiC ?_; first | (refine ZgC [0, 1, 2, 3, 6, 7, 8, 9, 10, 11, 12, 13, 14, 15, 16, 17, 18, 19, 20, 4] ?_; refine ZC1 _ 5 [0, 1, 2, 3, 6, 7, 8, 9, 10, 11, 12, 13, 14, 15, 16, 17, 18, 19, 20, 4, 5] ?_) | (refine ZgC [0, 1, 2, 3, 6, 7, 8, 9, 10, 11, 12, 13, 14, 15, 16, 17, 18, 19, 20, 4, 5] ?_; refine ZCl _ ?_)) | (refine GiO ?_; first | (refine ZgO [0, 1, 2, 3, 6, 7, 8, 9, 10, 11, 12, 13, 14, 15, 16, 17, 18, 19, 20, 4, 5] ?_; refine ZO1 _ 21 [0, 1, 2, 3, 6, 7, 8, 9, 10, 11, 12, 13, 14, 15, 16, 17, 18, 19, 20, 4, 5, 21] ?_) | (refine ZgO [0, 1, 2, 3, 6, 7, 8, 9, 10, 11, 12, 13, 14, 15, 16, 17, 18, 19, 20, 4, 5, 21] ?_; refine ZO1 _ 22 [0, 1, 2, 3, 6, 7, 8, 9, 10, 11, 12, 13, 14, 15, 16, 17, 18, 19, 20, 4, 5, 21, 22] ?_) | (refine ZgO [0, 1, 2, 3, 6, 7, 8, 9, 10, 11, 12, 13, 14, 15, 16, 17, 18, 19, 20, 4, 5, 21, 22] ?_; refine ZOd _ ?_; (try with_reducible apply noP_normal); (try with_reducible exact key.out))) | (refine Zhn ?_) | (refine AWalk_1S (d := 74) rfl rfl rfl rfl blk_is (New_buildSliceR rfl rfl (by repeat (first | exact CellsR.nil | (apply CellsR.cA rfl) | (apply CellsR.c1S (by constructor) rfl))) rfl (by decide) rfl (by decide)) (fun b74 => ?_)) | (with_reducible apply QAny_normal) | (with_reducible apply QC_normal))
              repeat' (first | (with_reducible refine Znl ?_) | (refine ZrN 18 fun _ => ?_; refine Zv Zld ?_; refine Zv Zla ?_; refine Zv Zla ?_; refine OPS_turnN (Turn_mapUpdateF (ks := lks) (is := [c0, c1, c2, c3, x.2]) (w' := .agg [.int .i64 ((n2 : Int) + (n1 : Int)), .int .i64 (min o1 lo), .int .i64 (max o2 hi)].toArray) rfl rfl rfl hxk (by repeat (first | exact Up.here | apply Up.there | apply Up.sv))) rfl rfl ?_) | (with_reducible apply QBlock_normal))
              rw [hsd]
              exact ⟨_, (by repeat (first | exact Wk.refl _ | apply Wk.drop)), rfl⟩
      · rintro D _ rfl
        have hal : (argS (folS g.d p s)).length = (folS g.d p s).length := by simp [argS]
        rw [hal]
        refine QBlock_normal ?_
        refine QBlock_normal ?_
        refine QLoopD_normal ⟨sn ++ [y0], Ky ++ [keyI s], l' ++ doneK g.d aq h p s (csK (rowsR g.d aq h p) (keyI s)) (folS g.d p s).length, D :: Dq⟩ _ rfl .nil (by repeat (first | exact Off.frame rfl | exact Off.refl _ _ | refine Off.frameT rfl rfl ?_ | refine Off.upd rfl ?_ | refine Off.updO rfl ?_)) (sub_mark (C := [_, _, _, _, _]) (R := [_, _, _, _, _, _, _, _, _])) (Wk.refl _) ⟨hvis2, ?_⟩ ?_
        · dsimp only
          rw [List.flatMap_append, List.flatMap_singleton]
          exact hperm.append (doneK_all fun q hq => by rw [(hro p q hq).len, hs1])
        · dsimp only
          rw [List.length_append, List.length_singleton]
          omega
      · rintro D x _ h
        exact h.elim
  · have hpn : p = g.d.n.toNat := by omega
    repeat' (first | (refine Znh ?_) | (refine GiW ?_; first | (refine Zsq fun K hK => ?_) | (refine ZrN 3 fun _ => ?_; refine Zv Zxlss ?_) | (refine ZrN 21 fun _ => ?_; refine Zal 16 fun b16 => ?_) | (refine Zcd (fun hc => ?_) (fun hc => ?_) <;> (try (exfalso; omega))) | (with_reducible apply WP_exit)) | (refine Zhn ?_) | (refine Zhx ?_) | (with_reducible apply QBlock_hit) | (with_reducible apply QLoopD_exit))
    refine WP_sub (B := (m, MapFn lks (sumM (rowsR g.d aq h p))) :: (b16, Blk 89 [.int .i64 0, .int .i64 0, .int .i64 0]) :: (b6, Blk 89 [.int .i64 0, .int .i64 0, .int .i64 0]) :: (b5, Blk 91 [.slice A aq.length c]) :: (b4, Blk 3 [.int .i64 h]) :: (b3, Blk 71 [.int .i64 g.d.n, .int .i64 g.d.m, .slice g.A1 g.d.ls.length g.c1, .slice g.A2 g.d.ms.length g.c2]) :: (L ++ marksH Ds)) (by repeat (first | exact Sub.refl _ | assumption | exact Sub.left | (with_reducible refine Sub.pick (by repeat (first | exact Pick.here | apply Pick.there)) ?_) | apply Sub.cons | apply Sub.sv | apply Sub.app)) ?_
    refine WP_openF fun es clock hM => ?_
    repeat' (first | (refine Znh ?_) | (refine GiW ?_; first | (refine ZrN 22 fun _ => ?_; refine Zv Zmv ?_; refine OPS_rangeF rfl (by repeat (first | exact Mem.here | assumption | apply Mem.there | apply Mem.sv | apply Mem.app)) rfl rfl (fun b98 => ?_)) | (with_reducible apply WP_block)))
    refine WP_loop [17, 18, 19, 20, 21, 99, 100, 101, 102, 103, 104, 105, 106, 107, 108, 109, 110, 111, 112, 113, 114, 115, 116, 117, 118, 119, 120, 121, 122, 123, 124, 125, 126, 127, 128, 129, 130, 131, 132, 133, 134, 135, 136, 137, 138, 139, 140, 141, 142, 143, 144, 145, 146, 147, 148, 149, 150, 151, 152, 153, 154, 155, 156, 157, 158, 159, 160, 161, 162, 163, 164, 165] (fun _ : Lq => []) (fun q => (b98, IterAt m es clock q.sn) :: (m, Is (.map es clock)) :: (b16, Blk 89 (tlL (tl (outL g.d (q.K.flatMap (atK (rowsR g.d aq h p))))))) :: (b6, Blk 89 [.int .i64 0, .int .i64 0, .int .i64 0]) :: (b5, Blk 91 [.slice A aq.length c]) :: (b4, Blk 3 [.int .i64 h]) :: (b3, Blk 71 [.int .i64 g.d.n, .int .i64 g.d.m, .slice g.A1 g.d.ls.length g.c1, .slice g.A2 g.d.ms.length g.c2]) :: (L ++ marksH Ds))
      (fun q => Vis lks es q.sn q.K) (fun q => es.size - q.sn.length) ⟨[], [], [], []⟩ .nil (Wk.refl _) (Vis.nil _ _) ?_
    rintro ⟨sn, Ky, l', Dq⟩ j1 hvis
    dsimp only at hvis ⊢
    obtain ⟨u, hu⟩ : ∃ u, tl (outL g.d (Ky.flatMap (atK (rowsR g.d aq h p)))) = u := ⟨_, rfl⟩
    have hu2 := hu
    rw [hu]
    obtain ⟨u1, u2, u3⟩ := u
    unfold tlL
    dsimp only
    repeat' (first | (refine Znh ?_) | (refine GiW ?_; first | (refine Zsq fun K hK => ?_) | (refine ZrN 23 fun _ => ?_; refine OPS_nextF (F := fun sn' => (b98, IterAt m es clock sn') :: (m, Is (.map es clock)) :: (b16, Blk 89 [.int .i64 u1, .int .i64 u2, .int .i64 u3]) :: (b6, Blk 89 [.int .i64 0, .int .i64 0, .int .i64 0]) :: (b5, Blk 91 [.slice A aq.length c]) :: (b4, Blk 3 [.int .i64 h]) :: (b3, Blk 71 [.int .i64 g.d.n, .int .i64 g.d.m, .slice g.A1 g.d.ls.length g.c1, .slice g.A2 g.d.ms.length g.c2]) :: (L ++ marksH Ds)) rfl (by repeat (first | exact Mem.here | assumption | apply Mem.there | apply Mem.sv | apply Mem.app)) .here hM.clk hM.bor (fun _ => .here) rfl rfl (fun hall => ?_) (fun y hy hyn => ?_); refine Zv Zxex ?_) | (refine WP_cond_false rfl ?_) | (with_reducible apply WP_exit)) | (refine Zhn ?_) | (refine Zhx ?_) | (with_reducible apply QBlock_hit) | (with_reducible apply QLoop_exit))
    · have hall' : (Ky.flatMap (atK (rowsR g.d aq h p))).Perm (rowsR g.d aq h p) := group_perm (fun q : St × Int => keyI q.1) _ hvis.nod fun q hq => by
        have ho := hro p q hq
        have hne := csK_mem hq
        exact hvis.all hM hall (keyI_ks hm4.2 (by rw [ho.len]; exact hnl) ho.far ho.hol) (by unfold sumM; rw [if_neg hne])
      have hfin : tl (finR g.d aq h) = (u1, u2, u3) := by
        rw [← hu2, tl_perm (outL_perm hall'), hpn]; rfl
      repeat' (first | (refine Znh ?_) | (refine GiW ?_; first | (refine ZrN 35 fun _ => ?_; refine Zv Zla ?_; refine Zst ?_) | (with_reducible apply WP_ret)))
      refine QLeave_ret ?_
      refine Lv_marksE (X := _ :: _ :: _ :: _ :: _ :: _ :: _ :: L) (by simp) ?_
      refine Lv_nil rfl (.cellN rfl (by repeat (first | exact Mem.here | assumption | apply Mem.there | apply Mem.sv | apply Mem.app)) (.here (.cons (.cons (.cons .nil)))) .nil) rfl ⟨by rw [hfin]; rfl, by repeat (first | exact Wk.appRt _ _ | apply Wk.drop)⟩
    · obtain ⟨s, hs1, hs2, hs3, hsk, hyk, hcne, hcb, hyv⟩ := ent_state hv hM hy
      have hs4 : s.1.length ≤ 4 := by omega
      obtain ⟨hvis2, hlen⟩ := hvis.step hM hy hyn hyk hsk
      obtain ⟨lo, hi, htl, hlo, hhi⟩ := tl_bd hcne hcb
      have hcl := csK_len (rowsR g.d aq h p) (keyI s)
      have hpb := pow_bd (p := p) (by omega)
      have hrp := hrb p
      have hks := fun i hi => keyI_at (s := s) (i := i) hi
      rw [keyI_V hs4] at hyk
      rw [htl] at hyv
      obtain ⟨a0, a1, a2, a3, hk5, _⟩ := keyI_five hs4
      unfold stV at hyk
      rw [hk5] at hyk hks
      unfold ints at hyk hks
      unfold tlV at hyv
      simp only [List.map_cons, List.map_nil] at hyk hyv hks
      have hol1 := outL_one (b := g.d) (R := rowsR g.d aq h p) (s := s) (fun q hq => by rw [(hro p q hq).len, hs1])
      have holn : outL g.d ((Ky ++ [keyI s]).flatMap (atK (rowsR g.d aq h p))) = outL g.d (Ky.flatMap (atK (rowsR g.d aq h p))) ++ outL g.d (atK (rowsR g.d aq h p) (keyI s)) := by
        rw [List.flatMap_append, List.flatMap_singleton, outL_append]
      rw [hol1] at holn
      have hub : 0 ≤ u1 ∧ u1 ≤ 2 ^ 46 := by
        have h1 : (tl (outL g.d (Ky.flatMap (atK (rowsR g.d aq h p))))).1 = u1 := by rw [hu2]
        have h2 : (outL g.d (Ky.flatMap (atK (rowsR g.d aq h p)))).length ≤ (rowsR g.d aq h p).length := by
          unfold outL
          rw [List.length_map]
          exact Nat.le_trans (List.length_filter_le _ _) (atK_len hvis.nod)
        unfold tl at h1
        dsimp only at h1
        omega
      obtain ⟨n1, hn1⟩ : ∃ n1 : Nat, (csK (rowsR g.d aq h p) (keyI s)).length = n1 := ⟨_, rfl⟩
      rw [hn1] at hyv hcl htl
      obtain ⟨yk, yv, yb⟩ := y
      dsimp only at hyk hyv
      subst hyk
      subst hyv
      refine Zv Zxex ?_
      repeat' (first | (refine Znh ?_) | (refine GiW ?_; first | (refine Zsq fun K hK => ?_) | (refine ZrN 24 fun _ => ?_; refine Zv (Val_entryF (sn := sn) rfl (by repeat (first | exact Mem.here | assumption | apply Mem.there | apply Mem.sv | apply Mem.app)) (by repeat (first | exact Mem.here | assumption | apply Mem.there | apply Mem.sv | apply Mem.app)) hy hM.bor) ?_; refine Zv Zxex ?_; refine Zv Zxex ?_; refine Zal 17 fun b17 => ?_; refine Zal 18 fun b18 => ?_; refine Zst ?_; refine Zst ?_) | (refine ZrN 25 fun _ => ?_; refine Zv Zab ?_) | (refine ZrN 26 fun _ => ?_; refine Zv Zf0 ?_; refine Zv Zfa ?_; refine Zv Zld ?_; refine Zv Zxlen ?_; refine Zv Zmi ?_) | (refine WP_cond_true rfl ?_) | (with_reducible apply WP_skip) | (with_reducible apply WP_block)) | (refine Zhn ?_))
      obtain ⟨y0, hy0⟩ : ∃ y0 : MapEntry, y0 = ⟨.agg #[.int .i64 a0, .int .i64 a1, .int .i64 a2, .int .i64 a3, .int .i64 s.2], .agg #[.int .i64 (n1 : Int), .int .i64 lo, .int .i64 hi], yb⟩ := ⟨_, rfl⟩
      rw [← hy0] at hvis2 ⊢
      refine WP_loop [19, 20, 21, 108, 109, 110, 111, 112, 113, 114, 115, 116, 117, 118, 119, 120, 121, 122, 123, 124, 125, 126, 127, 128, 129, 130, 131, 132, 133, 134, 135, 136, 137] (fun i : Nat => [(108, .int .i64 (i : Int)), (19, .bool (endB g.d.n (g.d.ls.take i) (s.1.take i)))]) (fun _ => (b18, Blk 89 [.int .i64 (n1 : Int), .int .i64 lo, .int .i64 hi]) :: (b17, Blk 118 [.int .i64 a0, .int .i64 a1, .int .i64 a2, .int .i64 a3, .int .i64 s.2]) :: (b98, IterAt m es clock (sn ++ [y0])) :: (m, Is (.map es clock)) :: (b16, Blk 89 [.int .i64 u1, .int .i64 u2, .int .i64 u3]) :: (b6, Blk 89 [.int .i64 0, .int .i64 0, .int .i64 0]) :: (b5, Blk 91 [.slice A aq.length c]) :: (b4, Blk 3 [.int .i64 h]) :: (b3, Blk 71 [.int .i64 g.d.n, .int .i64 g.d.m, .slice g.A1 g.d.ls.length g.c1, .slice g.A2 g.d.ms.length g.c2]) :: (L ++ marksH Ds)) (fun i => i ≤ g.d.ls.length) (fun i => g.d.ls.length - i) 0 (.cons rfl (.cons rfl .nil)) (Wk.refl _) (Nat.zero_le _) ?_
      intro i j2 hi1
      by_cases hil : i < g.d.ls.length
      · have hfm := hs2 s.1[i] (List.getElem_mem (by omega))
        have hcell := hks i (by omega)
        have het := endB_take (n := g.d.n) hil (show i < s.1.length by omega)
        obtain ⟨bA, oA, hA1, hbA, hcA⟩ := hA.ls.row i hil
        obtain ⟨l, hle⟩ : ∃ l, g.d.ls[i] = l := ⟨_, rfl⟩
        obtain ⟨f, hfe⟩ : ∃ f, s.1[i]'(by omega) = f := ⟨_, rfl⟩
        obtain ⟨bv, hbv⟩ : ∃ bv, endB g.d.n (g.d.ls.take i) (s.1.take i) = bv := ⟨_, rfl⟩
        rw [hle] at hcA het
        rw [hfe] at hfm hcell het
        rw [hbv] at het ⊢
        unfold leL at hcA
        cases bv with
        | false =>
          repeat' (first | (refine GiP ?_; first | (refine Znh ?_) | (with_reducible refine Znl ?_) | (refine Zatd 120 ?_; (first | (refine Zv Zxpt ?_) | (refine Zv Zxpf ?_)); refine Zv Zmb ?_) | (refine Zatd 136 ?_; (first | (refine Zv Zxpt ?_) | (refine Zv Zxpf ?_)); refine Zv Zab ?_) | (refine Zatd 115 ?_; first | refine Zsk ?_ | (refine Zv Zmi ?_)) | (refine Zatd 116 ?_; first | refine Zsk ?_ | (refine Zv Zf0 ?_)) | (refine Zatd 117 ?_; first | refine Zsk ?_ | (refine Zv ZiA ?_)) | (refine Zatd 118 ?_; first | refine Zsk ?_ | (refine Zv (Val_loadRN rfl hbA hcA rfl) ?_) | (refine Zv Zld ?_)) | (refine Zatd 119 ?_; first | refine Zsk ?_ | (refine Zv Zxneq ?_)) | (refine Zatd 122 ?_; first | refine Zsk ?_ | (refine Zv Zmi ?_)) | (refine Zatd 123 ?_; first | refine Zsk ?_ | (refine Zv Zf0 ?_)) | (refine Zatd 124 ?_; first | refine Zsk ?_ | (refine Zv ZiA ?_)) | (refine Zatd 125 ?_; first | refine Zsk ?_ | (refine Zv (Val_loadRN rfl hbA hcA rfl) ?_) | (refine Zv Zld ?_)) | (refine Zatd 126 ?_; first | refine Zsk ?_ | (refine Zv Zxeql ?_)) | (refine Zatd 127 ?_; first | refine Zsk ?_ | (refine Zv Zmb ?_)) | (refine Zatd 128 ?_; first | refine Zsk ?_ | (refine Zv Zfa ?_)) | (refine Zatd 129 ?_; first | refine Zsk ?_ | (refine Zv Zfa ?_)) | (refine Zatd 130 ?_; first | refine Zsk ?_ | (refine Zv (Val_loadRN rfl hbA hcA rfl) ?_) | (refine Zv Zld ?_)) | (refine Zatd 131 ?_; first | refine Zsk ?_ | (refine Zv Zf0 ?_)) | (refine Zatd 132 ?_; first | refine Zsk ?_ | (refine Zv Zf0 ?_)) | (refine Zatd 133 ?_; first | refine Zsk ?_ | (refine Zv (Val_loadRN rfl hbA hcA rfl) ?_) | (refine Zv Zld ?_)) | (refine Zatd 134 ?_; first | refine Zsk ?_ | (refine Zv Zxeql ?_)) | (refine Zatd 135 ?_; first | refine Zsk ?_ | (refine Zv Zxpt ?_) | (refine Zv Zxpf ?_))) | (refine GiW ?_; first | (refine Zsq fun K hK => ?_) | (refine ZrN 27 fun _ => ?_; refine Zv Zxlss ?_) | (refine ZrN 28 fun _ => ?_; refine Zv Zmi ?_; refine Zv Zia ?_; (first | (refine Zv (Val_loadRN rfl hbA hcA rfl) ?_) | (refine Zv Zla ?_)); refine Zal 21 fun b21 => ?_; refine Zv Zai ?_; refine Zst ?_) | (refine ZrG 29 ?_; refine Zv Zmb ?_; refine Zv Zmb ?_) | (refine ZrN 30 fun _ => ?_; refine Zv Zxadd ?_; refine Zv Zmi ?_) | (refine Zcd (fun hc => ?_) (fun hc => ?_) <;> (try (exfalso; omega))) | (with_reducible apply WP_skip) | (with_reducible apply WP_block)) | (refine Zhn ?_) | (with_reducible apply QBlock_normal))
          all_goals (exact QLoop_normal (i + 1) (.cons rfl (.cons ((rfl : _ = Value.bool _).trans (by rw [het]; simp)) .nil)) (by repeat (first | exact Off.frame rfl | exact Off.refl _ _ | refine Off.frameT rfl rfl ?_ | refine Off.upd rfl ?_ | refine Off.updO rfl ?_)) (by repeat (first | exact Wk.refl _ | apply Wk.keep1 | apply Wk.drop | apply Wk.sv | apply Wk.svD | apply Wk.appD)) (by omega) (by omega))
        | true =>
          rcases hfm with rfl | rfl | rfl
          · repeat' (first | (refine GiP ?_; first | (refine Znh ?_) | (with_reducible refine Znl ?_) | (refine Zatd 120 ?_; (first | (refine Zv Zxpt ?_) | (refine Zv Zxpf ?_)); refine Zv Zmb ?_) | (refine Zatd 136 ?_; (first | (refine Zv Zxpt ?_) | (refine Zv Zxpf ?_)); refine Zv Zab ?_) | (refine Zatd 115 ?_; first | refine Zsk ?_ | (refine Zv Zmi ?_)) | (refine Zatd 116 ?_; first | refine Zsk ?_ | (refine Zv Zf0 ?_)) | (refine Zatd 117 ?_; first | refine Zsk ?_ | (refine Zv ZiA ?_)) | (refine Zatd 118 ?_; first | refine Zsk ?_ | (refine Zv (Val_loadRN rfl hbA hcA rfl) ?_) | (refine Zv Zld ?_)) | (refine Zatd 119 ?_; first | refine Zsk ?_ | (refine Zv Zxneq ?_)) | (refine Zatd 122 ?_; first | refine Zsk ?_ | (refine Zv Zmi ?_)) | (refine Zatd 123 ?_; first | refine Zsk ?_ | (refine Zv Zf0 ?_)) | (refine Zatd 124 ?_; first | refine Zsk ?_ | (refine Zv ZiA ?_)) | (refine Zatd 125 ?_; first | refine Zsk ?_ | (refine Zv (Val_loadRN rfl hbA hcA rfl) ?_) | (refine Zv Zld ?_)) | (refine Zatd 126 ?_; first | refine Zsk ?_ | (refine Zv Zxeql ?_)) | (refine Zatd 127 ?_; first | refine Zsk ?_ | (refine Zv Zmb ?_)) | (refine Zatd 128 ?_; first | refine Zsk ?_ | (refine Zv Zfa ?_)) | (refine Zatd 129 ?_; first | refine Zsk ?_ | (refine Zv Zfa ?_)) | (refine Zatd 130 ?_; first | refine Zsk ?_ | (refine Zv (Val_loadRN rfl hbA hcA rfl) ?_) | (refine Zv Zld ?_)) | (refine Zatd 131 ?_; first | refine Zsk ?_ | (refine Zv Zf0 ?_)) | (refine Zatd 132 ?_; first | refine Zsk ?_ | (refine Zv Zf0 ?_)) | (refine Zatd 133 ?_; first | refine Zsk ?_ | (refine Zv (Val_loadRN rfl hbA hcA rfl) ?_) | (refine Zv Zld ?_)) | (refine Zatd 134 ?_; first | refine Zsk ?_ | (refine Zv Zxeql ?_)) | (refine Zatd 135 ?_; first | refine Zsk ?_ | (refine Zv Zxpt ?_) | (refine Zv Zxpf ?_))) | (refine GiW ?_; first | (refine Zsq fun K hK => ?_) | (refine ZrN 27 fun _ => ?_; refine Zv Zxlss ?_) | (refine ZrN 28 fun _ => ?_; refine Zv Zmi ?_; refine Zv Zia ?_; (first | (refine Zv (Val_loadRN rfl hbA hcA rfl) ?_) | (refine Zv Zla ?_)); refine Zal 21 fun b21 => ?_; refine Zv Zai ?_; refine Zst ?_) | (refine ZrG 29 ?_; refine Zv Zmb ?_; refine Zv Zmb ?_) | (refine ZrN 30 fun _ => ?_; refine Zv Zxadd ?_; refine Zv Zmi ?_) | (refine Zcd (fun hc => ?_) (fun hc => ?_) <;> (try (exfalso; omega))) | (with_reducible apply WP_skip) | (with_reducible apply WP_block)) | (refine Zhn ?_) | (with_reducible apply QBlock_normal))
            all_goals (exact QLoop_normal (i + 1) (.cons rfl (.cons ((rfl : _ = Value.bool _).trans (by rw [het]; simp)) .nil)) (by repeat (first | exact Off.frame rfl | exact Off.refl _ _ | refine Off.frameT rfl rfl ?_ | refine Off.upd rfl ?_ | refine Off.updO rfl ?_)) (by repeat (first | exact Wk.refl _ | apply Wk.keep1 | apply Wk.drop | apply Wk.sv | apply Wk.svD | apply Wk.appD)) (by omega) (by omega))
          · by_cases htn : l.t.2 = g.d.n
            · repeat' (first | (refine GiP ?_; first | (refine Znh ?_) | (with_reducible refine Znl ?_) | (refine Zatd 120 ?_; (first | (refine Zv Zxpt ?_) | (refine Zv Zxpf ?_)); refine Zv Zmb ?_) | (refine Zatd 136 ?_; (first | (refine Zv Zxpt ?_) | (refine Zv Zxpf ?_)); refine Zv Zab ?_) | (refine Zatd 115 ?_; first | refine Zsk ?_ | (refine Zv Zmi ?_)) | (refine Zatd 116 ?_; first | refine Zsk ?_ | (refine Zv Zf0 ?_)) | (refine Zatd 117 ?_; first | refine Zsk ?_ | (refine Zv ZiA ?_)) | (refine Zatd 118 ?_; first | refine Zsk ?_ | (refine Zv (Val_loadRN rfl hbA hcA rfl) ?_) | (refine Zv Zld ?_)) | (refine Zatd 119 ?_; first | refine Zsk ?_ | (refine Zv Zxneq ?_)) | (refine Zatd 122 ?_; first | refine Zsk ?_ | (refine Zv Zmi ?_)) | (refine Zatd 123 ?_; first | refine Zsk ?_ | (refine Zv Zf0 ?_)) | (refine Zatd 124 ?_; first | refine Zsk ?_ | (refine Zv ZiA ?_)) | (refine Zatd 125 ?_; first | refine Zsk ?_ | (refine Zv (Val_loadRN rfl hbA hcA rfl) ?_) | (refine Zv Zld ?_)) | (refine Zatd 126 ?_; first | refine Zsk ?_ | (refine Zv Zxeql ?_)) | (refine Zatd 127 ?_; first | refine Zsk ?_ | (refine Zv Zmb ?_)) | (refine Zatd 128 ?_; first | refine Zsk ?_ | (refine Zv Zfa ?_)) | (refine Zatd 129 ?_; first | refine Zsk ?_ | (refine Zv Zfa ?_)) | (refine Zatd 130 ?_; first | refine Zsk ?_ | (refine Zv (Val_loadRN rfl hbA hcA rfl) ?_) | (refine Zv Zld ?_)) | (refine Zatd 131 ?_; first | refine Zsk ?_ | (refine Zv Zf0 ?_)) | (refine Zatd 132 ?_; first | refine Zsk ?_ | (refine Zv Zf0 ?_)) | (refine Zatd 133 ?_; first | refine Zsk ?_ | (refine Zv (Val_loadRN rfl hbA hcA rfl) ?_) | (refine Zv Zld ?_)) | (refine Zatd 134 ?_; first | refine Zsk ?_ | (refine Zv Zxeql ?_)) | (refine Zatd 135 ?_; first | refine Zsk ?_ | (refine Zv Zxpt ?_) | (refine Zv Zxpf ?_))) | (refine GiW ?_; first | (refine Zsq fun K hK => ?_) | (refine ZrN 27 fun _ => ?_; refine Zv Zxlss ?_) | (refine ZrN 28 fun _ => ?_; refine Zv Zmi ?_; refine Zv Zia ?_; (first | (refine Zv (Val_loadRN rfl hbA hcA rfl) ?_) | (refine Zv Zla ?_)); refine Zal 21 fun b21 => ?_; refine Zv Zai ?_; refine Zst ?_) | (refine ZrG 29 ?_; refine Zv Zmb ?_; refine Zv Zmb ?_) | (refine ZrN 30 fun _ => ?_; refine Zv Zxadd ?_; refine Zv Zmi ?_) | (refine Zcd (fun hc => ?_) (fun hc => ?_) <;> (try (exfalso; omega))) | (with_reducible apply WP_skip) | (with_reducible apply WP_block)) | (refine Zhn ?_) | (with_reducible apply QBlock_normal))
              all_goals (exact QLoop_normal (i + 1) (.cons rfl (.cons ((rfl : _ = Value.bool _).trans (by rw [het]; simp [htn])) .nil)) (by repeat (first | exact Off.frame rfl | exact Off.refl _ _ | refine Off.frameT rfl rfl ?_ | refine Off.upd rfl ?_ | refine Off.updO rfl ?_)) (by repeat (first | exact Wk.refl _ | apply Wk.keep1 | apply Wk.drop | apply Wk.sv | apply Wk.svD | apply Wk.appD)) (by omega) (by omega))
            · repeat' (first | (refine GiP ?_; first | (refine Znh ?_) | (with_reducible refine Znl ?_) | (refine Zatd 120 ?_; (first | (refine Zv Zxpt ?_) | (refine Zv Zxpf ?_)); refine Zv Zmb ?_) | (refine Zatd 136 ?_; (first | (refine Zv Zxpt ?_) | (refine Zv Zxpf ?_)); refine Zv Zab ?_) | (refine Zatd 115 ?_; first | refine Zsk ?_ | (refine Zv Zmi ?_)) | (refine Zatd 116 ?_; first | refine Zsk ?_ | (refine Zv Zf0 ?_)) | (refine Zatd 117 ?_; first | refine Zsk ?_ | (refine Zv ZiA ?_)) | (refine Zatd 118 ?_; first | refine Zsk ?_ | (refine Zv (Val_loadRN rfl hbA hcA rfl) ?_) | (refine Zv Zld ?_)) | (refine Zatd 119 ?_; first | refine Zsk ?_ | (refine Zv Zxneq ?_)) | (refine Zatd 122 ?_; first | refine Zsk ?_ | (refine Zv Zmi ?_)) | (refine Zatd 123 ?_; first | refine Zsk ?_ | (refine Zv Zf0 ?_)) | (refine Zatd 124 ?_; first | refine Zsk ?_ | (refine Zv ZiA ?_)) | (refine Zatd 125 ?_; first | refine Zsk ?_ | (refine Zv (Val_loadRN rfl hbA hcA rfl) ?_) | (refine Zv Zld ?_)) | (refine Zatd 126 ?_; first | refine Zsk ?_ | (refine Zv Zxeql ?_)) | (refine Zatd 127 ?_; first | refine Zsk ?_ | (refine Zv Zmb ?_)) | (refine Zatd 128 ?_; first | refine Zsk ?_ | (refine Zv Zfa ?_)) | (refine Zatd 129 ?_; first | refine Zsk ?_ | (refine Zv Zfa ?_)) | (refine Zatd 130 ?_; first | refine Zsk ?_ | (refine Zv (Val_loadRN rfl hbA hcA rfl) ?_) | (refine Zv Zld ?_)) | (refine Zatd 131 ?_; first | refine Zsk ?_ | (refine Zv Zf0 ?_)) | (refine Zatd 132 ?_; first | refine Zsk ?_ | (refine Zv Zf0 ?_)) | (refine Zatd 133 ?_; first | refine Zsk ?_ | (refine Zv (Val_loadRN rfl hbA hcA rfl) ?_) | (refine Zv Zld ?_)) | (refine Zatd 134 ?_; first | refine Zsk ?_ | (refine Zv Zxeql ?_)) | (refine Zatd 135 ?_; first | refine Zsk ?_ | (refine Zv Zxpt ?_) | (refine Zv Zxpf ?_))) | (refine GiW ?_; first | (refine Zsq fun K hK => ?_) | (refine ZrN 27 fun _ => ?_; refine Zv Zxlss ?_) | (refine ZrN 28 fun _ => ?_; refine Zv Zmi ?_; refine Zv Zia ?_; (first | (refine Zv (Val_loadRN rfl hbA hcA rfl) ?_) | (refine Zv Zla ?_)); refine Zal 21 fun b21 => ?_; refine Zv Zai ?_; refine Zst ?_) | (refine ZrG 29 ?_; refine Zv Zmb ?_; refine Zv Zmb ?_) | (refine ZrN 30 fun _ => ?_; refine Zv Zxadd ?_; refine Zv Zmi ?_) | (refine Zcd (fun hc => ?_) (fun hc => ?_) <;> (try (exfalso; omega))) | (with_reducible apply WP_skip) | (with_reducible apply WP_block)) | (refine Zhn ?_) | (with_reducible apply QBlock_normal))
              all_goals (exact QLoop_normal (i + 1) (.cons rfl (.cons ((rfl : _ = Value.bool _).trans (by rw [het]; simp [htn])) .nil)) (by repeat (first | exact Off.frame rfl | exact Off.refl _ _ | refine Off.frameT rfl rfl ?_ | refine Off.upd rfl ?_ | refine Off.updO rfl ?_)) (by repeat (first | exact Wk.refl _ | apply Wk.keep1 | apply Wk.drop | apply Wk.sv | apply Wk.svD | apply Wk.appD)) (by omega) (by omega))
          · repeat' (first | (refine GiP ?_; first | (refine Znh ?_) | (with_reducible refine Znl ?_) | (refine Zatd 120 ?_; (first | (refine Zv Zxpt ?_) | (refine Zv Zxpf ?_)); refine Zv Zmb ?_) | (refine Zatd 136 ?_; (first | (refine Zv Zxpt ?_) | (refine Zv Zxpf ?_)); refine Zv Zab ?_) | (refine Zatd 115 ?_; first | refine Zsk ?_ | (refine Zv Zmi ?_)) | (refine Zatd 116 ?_; first | refine Zsk ?_ | (refine Zv Zf0 ?_)) | (refine Zatd 117 ?_; first | refine Zsk ?_ | (refine Zv ZiA ?_)) | (refine Zatd 118 ?_; first | refine Zsk ?_ | (refine Zv (Val_loadRN rfl hbA hcA rfl) ?_) | (refine Zv Zld ?_)) | (refine Zatd 119 ?_; first | refine Zsk ?_ | (refine Zv Zxneq ?_)) | (refine Zatd 122 ?_; first | refine Zsk ?_ | (refine Zv Zmi ?_)) | (refine Zatd 123 ?_; first | refine Zsk ?_ | (refine Zv Zf0 ?_)) | (refine Zatd 124 ?_; first | refine Zsk ?_ | (refine Zv ZiA ?_)) | (refine Zatd 125 ?_; first | refine Zsk ?_ | (refine Zv (Val_loadRN rfl hbA hcA rfl) ?_) | (refine Zv Zld ?_)) | (refine Zatd 126 ?_; first | refine Zsk ?_ | (refine Zv Zxeql ?_)) | (refine Zatd 127 ?_; first | refine Zsk ?_ | (refine Zv Zmb ?_)) | (refine Zatd 128 ?_; first | refine Zsk ?_ | (refine Zv Zfa ?_)) | (refine Zatd 129 ?_; first | refine Zsk ?_ | (refine Zv Zfa ?_)) | (refine Zatd 130 ?_; first | refine Zsk ?_ | (refine Zv (Val_loadRN rfl hbA hcA rfl) ?_) | (refine Zv Zld ?_)) | (refine Zatd 131 ?_; first | refine Zsk ?_ | (refine Zv Zf0 ?_)) | (refine Zatd 132 ?_; first | refine Zsk ?_ | (refine Zv Zf0 ?_)) | (refine Zatd 133 ?_; first | refine Zsk ?_ | (refine Zv (Val_loadRN rfl hbA hcA rfl) ?_) | (refine Zv Zld ?_)) | (refine Zatd 134 ?_; first | refine Zsk ?_ | (refine Zv Zxeql ?_)) | (refine Zatd 135 ?_; first | refine Zsk ?_ | (refine Zv Zxpt ?_) | (refine Zv Zxpf ?_))) | (refine GiW ?_; first | (refine Zsq fun K hK => ?_) | (refine ZrN 27 fun _ => ?_; refine Zv Zxlss ?_) | (refine ZrN 28 fun _ => ?_; refine Zv Zmi ?_; refine Zv Zia ?_; (first | (refine Zv (Val_loadRN rfl hbA hcA rfl) ?_) | (refine Zv Zla ?_)); refine Zal 21 fun b21 => ?_; refine Zv Zai ?_; refine Zst ?_) | (refine ZrG 29 ?_; refine Zv Zmb ?_; refine Zv Zmb ?_) | (refine ZrN 30 fun _ => ?_; refine Zv Zxadd ?_; refine Zv Zmi ?_) | (refine Zcd (fun hc => ?_) (fun hc => ?_) <;> (try (exfalso; omega))) | (with_reducible apply WP_skip) | (with_reducible apply WP_block)) | (refine Zhn ?_) | (with_reducible apply QBlock_normal))
            all_goals (exact QLoop_normal (i + 1) (.cons rfl (.cons ((rfl : _ = Value.bool _).trans (by rw [het]; simp)) .nil)) (by repeat (first | exact Off.frame rfl | exact Off.refl _ _ | refine Off.frameT rfl rfl ?_ | refine Off.upd rfl ?_ | refine Off.updO rfl ?_)) (by repeat (first | exact Wk.refl _ | apply Wk.keep1 | apply Wk.drop | apply Wk.sv | apply Wk.svD | apply Wk.appD)) (by omega) (by omega))
      · have hie : i = g.d.ls.length := by omega
        subst hie
        have hst : s.1.take g.d.ls.length = s.1 := by rw [← hs1, List.take_length]
        rw [List.take_length, hst]
        obtain ⟨bv, hbv⟩ : ∃ bv, endB g.d.n g.d.ls s.1 = bv := ⟨_, rfl⟩
        rw [hbv] at holn ⊢
        cases bv with
        | false =>
          rw [if_neg (by simp), List.append_nil] at holn
          repeat' (first | (refine Znh ?_) | (refine GiW ?_; first | (refine Zsq fun K hK => ?_) | (refine ZrN 27 fun _ => ?_; refine Zv Zxlss ?_) | (refine ZrN 31 fun _ => ?_; refine Zv Zmb ?_; refine Zv Zxnot ?_) | (refine WP_cond_true rfl ?_) | (refine Zcd (fun hc => ?_) (fun hc => ?_) <;> (try (exfalso; omega))) | (with_reducible apply WP_exit)) | (refine Zhn ?_) | (refine Zhx ?_) | (with_reducible apply QBlock_hit) | (with_reducible apply QLoop_exit))
          refine QLoop_normal ⟨sn ++ [y0], Ky ++ [keyI s], [], []⟩ .nil (by repeat (first | exact Off.frame rfl | exact Off.refl _ _ | refine Off.frameT rfl rfl ?_ | refine Off.upd rfl ?_ | refine Off.updO rfl ?_)) ?_ hvis2 ?_
          · dsimp only
            rw [holn, hu2]
            exact .drop (.drop (Wk.refl _))
          · dsimp only
            rw [List.length_append, List.length_singleton]
            omega
        | true =>
          rw [if_pos rfl] at holn
          by_cases hzero : outL g.d (Ky.flatMap (atK (rowsR g.d aq h p))) = []
          · have hu0 : u1 = 0 := by
              have h1 : (tl (outL g.d (Ky.flatMap (atK (rowsR g.d aq h p))))).1 = u1 := by rw [hu2]
              rw [hzero] at h1
              exact h1.symm
            rw [hzero, List.nil_append] at holn
            repeat' (first | (refine GiP ?_; first | (refine Znh ?_) | (with_reducible refine Znl ?_)) | (refine GiW ?_; first | (refine Zsq fun K hK => ?_) | (refine ZrN 27 fun _ => ?_; refine Zv Zxlss ?_) | (refine ZrN 31 fun _ => ?_; refine Zv Zmb ?_; refine Zv Zxnot ?_) | (refine ZrN 32 fun _ => ?_; refine Zv Zf0 ?_; refine Zv Zld ?_; refine Zv Zxgtr ?_) | (refine ZrN 34 fun _ => ?_; refine Zv Zla ?_; refine Zst ?_) | (refine WP_cond_false rfl ?_) | (refine Zcd (fun hc => ?_) (fun hc => ?_) <;> (try (exfalso; omega))) | (with_reducible apply WP_skip) | (with_reducible apply WP_exit)) | (refine Zhn ?_) | (with_reducible apply QBlock_normal) | (refine Zhx ?_) | (with_reducible apply QBlock_hit) | (with_reducible apply QLoop_exit))
            refine QLoop_normal ⟨sn ++ [y0], Ky ++ [keyI s], [], []⟩ .nil (by repeat (first | exact Off.frame rfl | exact Off.refl _ _ | refine Off.frameT rfl rfl ?_ | refine Off.upd rfl ?_ | refine Off.updO rfl ?_)) ?_ hvis2 ?_
            · dsimp only
              rw [holn, htl]
              exact .drop (.drop (Wk.refl _))
            · dsimp only
              rw [List.length_append, List.length_singleton]
              omega
          · have hu0 : 0 < u1 := by
              have h1 : (tl (outL g.d (Ky.flatMap (atK (rowsR g.d aq h p))))).1 = u1 := by rw [hu2]
              have h2 := List.length_pos_iff.2 hzero
              unfold tl at h1
              dsimp only at h1
              omega
            have hboth := tl_append hzero hcne
            rw [hu2, htl] at hboth
            unfold both at hboth
            dsimp only at hboth
            repeat' (first | (refine Znh ?_) | (refine GiW ?_; first | (refine Zsq fun K hK => ?_) | (refine ZrN 27 fun _ => ?_; refine Zv Zxlss ?_) | (refine ZrN 31 fun _ => ?_; refine Zv Zmb ?_; refine Zv Zxnot ?_) | (refine ZrN 32 fun _ => ?_; refine Zv Zf0 ?_; refine Zv Zld ?_; refine Zv Zxgtr ?_) | (refine WP_cond_false rfl ?_) | (refine Zcd (fun hc => ?_) (fun hc => ?_) <;> (try (exfalso; omega))) | (with_reducible apply WP_skip) | (with_reducible apply WP_exit)) | (refine Zhn ?_) | (refine Zhx ?_) | (with_reducible apply QBlock_hit) | (with_reducible apply QLoop_exit))
            repeat' (first | (refine GiP ?_; first | (with_reducible refine Znl ?_) | (refine Zatd 148 ?_; refine Zcl (Enters_fn rfl) (sum_ret N w0 _ u1 (n1 : Int) (by omega) (by omega) b147 (by repeat (first | exact Mem.here | assumption | apply Mem.there | apply Mem.sv | apply Mem.app))) ?_) | (refine Zatd 164 ?_; refine Zv Zxbu ?_) | (refine Zatn ?_; refine Zst ?_)) | (refine WP_drawnS (id := 33) [6, 7, 8, 9, 10, 11, 12, 13, 14, 15, 16, 17, 18, 19, 20] [0, 1, 2, 3, 6, 7, 8, 9, 10, 11, 12, 13, 14, 15, 16, 17, 18, 19, 20] [4] [149, 150, 151, 152, 153, 154, 155, 156, 157, 158, 159, 160, 161, 162, 163] (k := 1) (k2 := 2) (by repeat (first | apply Sub.sv | apply Sub.keep | apply Sub.appK | exact Sub.refl _)) (by kernel_rfl) prog_mixed (by kernel_rfl) (by kernel_rfl) rfl ?_; refine Zew rfl Zf0 ?_; refine Zew rfl Zld ?_; refine Zew rfl Zf0 ?_; refine Zew rfl Zld ?_; refine Zew rfl Zfa ?_; refine Zew rfl Zf0 ?_; refine Zew rfl Zld ?_; refine Zew rfl Zfa ?_; refine Zew rfl Zf0 ?_; refine Zew rfl Zld ?_; refine Zew rfl Zxmin ?_; refine Zew rfl Zfa ?_; refine Zew rfl Zfa ?_; refine Zew rfl Zld ?_; refine Zew rfl Zfa ?_; refine Zew rfl Zfa ?_; refine Zew rfl Zld ?_; refine Zew rfl Zxmax ?_; refine Zew rfl Zxbu ?_) | (with_reducible apply EWalk_nil) | (refine GiC ?_; first | (refine ZgC [0, 1, 2, 3, 6, 7, 8, 9, 10, 11, 12, 13, 14, 15, 16, 17, 18, 19, 20, 4] ?_; refine ZC1 _ 5 [0, 1, 2, 3, 6, 7, 8, 9, 10, 11, 12, 13, 14, 15, 16, 17, 18, 19, 20, 4, 5] ?_) | (refine ZgC [0, 1, 2, 3, 6, 7, 8, 9, 10, 11, 12, 13, 14, 15, 16, 17, 18, 19, 20, 4, 5] ?_; refine ZCl _ ?_)) | (refine GiO ?_; first | (refine ZgO [0, 1, 2, 3, 6, 7, 8, 9, 10, 11, 12, 13, 14, 15, 16, 17, 18, 19, 20, 4, 5] ?_; refine ZO1 _ 21 [0, 1, 2, 3, 6, 7, 8, 9, 10, 11, 12, 13, 14, 15, 16, 17, 18, 19, 20, 4, 5, 21] ?_) | (refine ZgO [0, 1, 2, 3, 6, 7, 8, 9, 10, 11, 12, 13, 14, 15, 16, 17, 18, 19, 20, 4, 5, 21] ?_; refine ZO1 _ 22 [0, 1, 2, 3, 6, 7, 8, 9, 10, 11, 12, 13, 14, 15, 16, 17, 18, 19, 20, 4, 5, 21, 22] ?_) | (refine ZgO [0, 1, 2, 3, 6, 7, 8, 9, 10, 11, 12, 13, 14, 15, 16, 17, 18, 19, 20, 4, 5, 21, 22] ?_; refine ZOd _ ?_; (try with_reducible apply noP_normal); (try with_reducible exact key.out))) | (refine Zhn ?_) | (refine AWalk_1S (d := 147) rfl rfl rfl rfl blk_is (New_buildSliceR rfl rfl (by repeat (first | exact CellsR.nil | (apply CellsR.cA rfl) | (apply CellsR.c1S (by constructor) rfl))) rfl (by decide) rfl (by decide)) (fun b147 => ?_)) | (with_reducible apply QAny_normal) | (with_reducible apply QC_normal))
            repeat' (first | (with_reducible refine Znl ?_) | (refine ZrN 34 fun _ => ?_; refine Zv Zla ?_; refine Zst ?_) | (with_reducible apply QBlock_normal))
            refine QLoop_normal ⟨sn ++ [y0], Ky ++ [keyI s], [], []⟩ .nil (by repeat (first | exact Off.frame rfl | exact Off.refl _ _ | refine Off.frameT rfl rfl ?_ | refine Off.upd rfl ?_ | refine Off.updO rfl ?_)) ?_ hvis2 ?_
            · dsimp only
              rw [holn, hboth]
              exact .drop (.drop (.drop (Wk.refl _)))
            · dsimp only
              rw [List.length_append, List.length_singleton]
              omega
end
end Go.Proofs.Ytakmopiceopcpaa
end
