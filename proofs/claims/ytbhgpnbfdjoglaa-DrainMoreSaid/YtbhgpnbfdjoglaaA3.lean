/- Package drain: where the water of all banks goes: the walk; what is kept of it. -/
import Derived.Test.YtbhgpnbfdjoglaaA2
import Derived.Test.YtbhgpnbfdjoglaaPm
section
namespace Go.Proofs.Ytbhgpnbfdjoglaa
open Go.RowKit
/-- What a bog's block holds, and where. -/
structure Fg where
  d : Dr
  A1 : Option Addr
  c1 : Nat
  A2 : Option Addr
  c2 : Nat
  A3 : Option Addr
  c3 : Nat
  A4 : Option Addr
  c4 : Nat
  b : Nat
  m : Nat
def drL (g : Fg) : List Value := [.slice g.A1 g.d.banks.length g.c1, .slice g.A2 g.d.ways.length g.c2, .slice g.A3 g.d.rights.length g.c3, .slice g.A4 g.d.seen.length g.c4]
def drV (g : Fg) : Value := .agg (drL g).toArray
def bogL (g : Fg) : List Value := [.slice g.A1 g.d.banks.length g.c1, .slice g.A2 g.d.ways.length g.c2, .slice g.A3 g.d.rights.length g.c3, .slice g.A4 g.d.seen.length g.c4, .map (some g.m)]
structure DrAt (N : Nat) (w0 : World) (g : Fg) : Prop where
  banks : SlAt N w0 g.A1 4 (g.d.banks.map bkL)
  ways : SlAt N w0 g.A2 2 (g.d.ways.map spL)
  rights : SlAt N w0 g.A3 3 (g.d.rights.map rtL)
  seen : SlAt N w0 g.A4 2 (g.d.seen.map spL)
def pad5 (l : List Int) : List Int := l ++ List.replicate (5 - l.length) 0
/-- How banks lie, which drains are stopped, and which one is dug. -/
abbrev Ly := List Int × Nat × Sp
def keyI (q : Ly) : List Int := pad5 q.1 ++ [(q.2.1 : Int), q.2.2.1, q.2.2.2]
def keyL (q : Ly) : List Value := ints (pad5 q.1) ++ [.int .u64 (q.2.1 : Int), .int .i64 q.2.2.1, .int .i64 q.2.2.2]
def lks : List IntKind := [.i64, .i64, .i64, .i64, .i64, .u64, .i64, .i64]
def waysK (d : Dr) (q : Ly) : List Sp := keepL q.2.1 (d.ways ++ if q.2.2.1 ≠ q.2.2.2 then [q.2.2] else []) 0
def crsK (d : Dr) (q : Ly) : List Value := crs d.banks.length (nxt (waysK d q) q.1)
def GK (d : Dr) (K : List (Nat × Ly)) : List Int → Value → Prop := fun is v => ∃ q ∈ K, is = keyI q.2 ∧ q.2.1.length = d.banks.length ∧ v = .slice (some ⟨q.1, 0, none⟩) d.banks.length d.banks.length
def KH (d : Dr) (K : List (Nat × Ly)) : Hp := K.map fun q => (q.1, Blk 3 (crsK d q.2))
def Fk (g : Fg) (K : List (Nat × Ly)) : Hp := (g.b, Blk 85 (bogL g)) :: (g.m, MapRel lks (GK g.d K)) :: KH g.d K
theorem mem_KH {d : Dr} {K : List (Nat × Ly)} {q : Nat × Ly} (h : q ∈ K) : Mem q.1 (Blk 3 (crsK d q.2)) (KH d K) := .of (List.mem_map.2 ⟨q, h, rfl⟩)
theorem lvl_pad (l : List Int) (i : Nat) : lvl (pad5 l) i = lvl l i := by
  unfold lvl pad5
  rw [List.getD_eq_getElem?_getD, List.getD_eq_getElem?_getD]
  by_cases h : i < l.length
  · rw [List.getElem?_append_left h]
  · rw [List.getElem?_append_right (by omega), List.getElem?_eq_none (l := l) (by omega), List.getElem?_replicate]
    split <;> rfl
theorem pad5_len {l : List Int} (h : l.length ≤ 5) : (pad5 l).length = 5 := by simp [pad5]; omega
theorem pad5_inj {a b : List Int} (hl : a.length = b.length) (h : pad5 a = pad5 b) : a = b := by
  unfold pad5 at h
  exact (List.append_inj h hl).1
theorem keyI_inj {p q : Ly} (hl : p.1.length = q.1.length) (h : keyI p = keyI q) : p = q := by
  unfold keyI at h
  have hpl : (pad5 p.1).length = (pad5 q.1).length := by simp [pad5, hl]
  obtain ⟨h1, h2⟩ := List.append_inj h hpl
  simp only [List.cons.injEq, and_true] at h2
  exact Prod.ext (pad5_inj hl h1) (Prod.ext (by omega) (Prod.ext h2.2.1 h2.2.2))
theorem keyL_ints {q : Ly} (h : q.1.length ≤ 5) : Value.agg (keyL q).toArray = intsV lks (keyI q) := by
  have h5 := pad5_len h
  unfold keyL keyI intsV lks
  match pad5 q.1, h5 with
  | [a, b, c, d, e], _ => rfl
/-- Numbers that fit. -/
structure LyOk (d : Dr) (q : Ly) : Prop where
  len : q.1.length = d.banks.length
  lv : ∀ x ∈ q.1, 0 ≤ x ∧ x ≤ 20
  st : q.2.1 < 2 ^ 64
  dg : (0 ≤ q.2.2.1 ∧ q.2.2.1 ≤ 20) ∧ 0 ≤ q.2.2.2 ∧ q.2.2.2 ≤ 20
theorem LyOk.ks {d : Dr} {q : Ly} (h : LyOk d q) (hb : d.banks.length ≤ 5) : inKs lks (keyI q) := by
  have hl := h.len
  have h5 := pad5_len (l := q.1) (by omega)
  have hp : ∀ x ∈ pad5 q.1, 0 ≤ x ∧ x ≤ 20 := by
    intro x hx
    unfold pad5 at hx
    rcases List.mem_append.1 hx with hx | hx
    · exact h.lv x hx
    · have := List.eq_of_mem_replicate hx; omega
  have h1 := h.st
  have h2 := h.dg
  unfold keyI
  match hm : pad5 q.1, h5 with
  | [a, b, c, e, f], _ =>
    rw [hm] at hp
    have ha := hp a (by simp)
    have hb := hp b (by simp)
    have hc := hp c (by simp)
    have he := hp e (by simp)
    have hf := hp f (by simp)
    refine ⟨rfl, ?_⟩
    intro p hp'
    simp only [lks, List.cons_append, List.nil_append, List.zip_cons_cons, List.zip_nil_right, List.mem_cons, List.not_mem_nil, or_false] at hp'
    rcases hp' with rfl | rfl | rfl | rfl | rfl | rfl | rfl | rfl <;> (simp [Lit.wf, IntKind.min, IntKind.max, IntKind.bits, IntKind.signed]; omega)
/-- The course's block, while it is made: x banks are done, the next one has o. -/
def cc (n : Nat) (f : Nat → Option Nat) (x : Nat) (o : Option Nat) : List Value := ints ((List.range x).map (fun i => codeO (f i)) ++ codeO o :: List.replicate (n - x - 1) 0)
def c0 (n : Nat) (f : Nat → Option Nat) (x : Nat) : List Value := ints ((List.range x).map (fun i => codeO (f i)) ++ List.replicate (n - x) 0)
theorem c0_zero (n : Nat) (f : Nat → Option Nat) : c0 n f 0 = List.replicate n (.int .i64 0) := by simp [c0, ints]
theorem c0_all (n : Nat) (f : Nat → Option Nat) : c0 n f n = crs n f := by simp [c0, crs]
theorem c0_len {n : Nat} {f : Nat → Option Nat} {x : Nat} (h : x ≤ n) : (c0 n f x).length = n := by simp [c0, ints]; omega
theorem cc_len {n : Nat} {f : Nat → Option Nat} {x : Nat} {o : Option Nat} (h : x < n) : (cc n f x o).length = n := by simp [cc, ints]; omega
theorem ints_set (l : List Int) (i : Nat) (v : Int) : setL (ints l) (0 + i) [.int .i64 v] = ints (l.set i v) := by simp [setL, ints, List.map_set]
theorem c0_set {n : Nat} {f : Nat → Option Nat} {x : Nat} (h : x < n) : setL (c0 n f x) (0 + x) [.int .i64 (-1)] = cc n f x none := by
  unfold c0 cc
  rw [ints_set, List.set_append_right _ _ (by simp), List.length_map, List.length_range, Nat.sub_self]
  obtain ⟨m, hm⟩ : ∃ m, n - x = m + 1 := ⟨n - x - 1, by omega⟩
  rw [hm, show m + 1 - 1 = m by omega, List.replicate_succ, List.set_cons_zero]; rfl
theorem cc_set {n : Nat} {f : Nat → Option Nat} {x y : Nat} {o : Option Nat} : setL (cc n f x o) (0 + x) [.int .i64 (y : Int)] = cc n f x (some y) := by
  unfold cc
  rw [ints_set, List.set_append_right _ _ (by simp), List.length_map, List.length_range, Nat.sub_self, List.set_cons_zero]; rfl
theorem cc_get {n : Nat} {f : Nat → Option Nat} {x : Nat} {o : Option Nat} : (cc n f x o)[0 + x]? = some (.int .i64 (codeO o)) := by
  unfold cc ints
  rw [Nat.zero_add, List.getElem?_map, List.getElem?_append_right (by simp), List.length_map, List.length_range, Nat.sub_self]; rfl
theorem cc_next {n : Nat} {f : Nat → Option Nat} {x : Nat} : cc n f x (f x) = c0 n f (x + 1) := by
  unfold cc c0
  rw [List.range_succ, List.map_append, List.append_assoc, Nat.sub_sub]; rfl
theorem waysK_len {d : Dr} (h : d.ways.length ≤ 7) (dug : Sp) : (d.ways ++ if dug.1 ≠ dug.2 then [dug] else []).length ≤ 8 := by
  split <;> simp <;> omega
theorem row_blk {E sz k : Nat} {xs : List Value} {o : Obj} (h : Row E sz k k xs o) : Blk E xs o := by
  obtain ⟨cur, rfl, h1, h2, h3, h4⟩ := h
  rw [List.take_of_length_le (by rw [Array.length_toList, h3]; exact Nat.le_refl _)] at h4
  rw [← h4]
  show Obj.cells cur E (0, 0) = Obj.cells cur.toList.toArray E (0, 0)
  rw [Array.toArray_toList]
attribute [local irreducible] AnyO AnyB QAny QB EWalk AWalk Ev WP OPS QThen QBlock QScope QLoop QBody Val New Turn Tri Enters PostA Blk Ro
attribute [local irreducible] AnyC QC
section
variable (N : Nat) (w0 : World)
set_option maxHeartbeats 4000000 in
theorem course_tri (X : Hp) (g : Fg) (hv : VD g.d) (hA : DrAt N w0 g) (Ks : List (Nat × Ly)) (q : Ly) (hq : LyOk g.d q) :
    Tri Try.prog N w0 (Fk g Ks ++ X) 85 [.pointer (some ⟨g.b, 0, none⟩), .agg (keyL q).toArray].toArray fun x L' => ∃ v, x = .returned v ∧ ∃ Ks' b', v = .slice (some ⟨b', 0, none⟩) g.d.banks.length g.d.banks.length ∧ (b', q) ∈ Ks' ∧ L' = Fk g Ks' ++ X := by
  have hnb := hv.nb
  have hnw := hv.nw
  have hin := hq.ks hnb.2
  have hql := hq.len
  refine Tri.pm (L2 := (g.m, MapRel lks (GK g.d Ks)) :: (g.b, Blk 85 (bogL g)) :: (KH g.d Ks ++ X)) (R := fun x L' => ∃ v, x = .returned v ∧ ∃ b', v = .slice (some ⟨b', 0, none⟩) g.d.banks.length g.d.banks.length ∧ (((b', q) ∈ Ks ∧ L' = (g.m, MapRel lks (GK g.d Ks)) :: (g.b, Blk 85 (bogL g)) :: (KH g.d Ks ++ X)) ∨ L' = (b', Blk 3 (crsK g.d q)) :: (g.m, MapRel lks (GK g.d ((b', q) :: Ks))) :: (g.b, Blk 85 (bogL g)) :: (KH g.d Ks ++ X))) ?_ (List.Perm.swap _ _ _) ?_
  case refine_2 =>
    rintro x L' ⟨v, rfl, b', rfl, hc⟩
    rcases hc with ⟨hm, rfl⟩ | rfl
    · exact ⟨_, List.Perm.swap _ _ _, _, rfl, Ks, b', rfl, hm, rfl⟩
    · refine ⟨Fk g ((b', q) :: Ks) ++ X, ?_, _, rfl, (b', q) :: Ks, b', rfl, .head _, rfl⟩
      show List.Perm _ ((g.b, Blk 85 (bogL g)) :: (g.m, MapRel lks (GK g.d ((b', q) :: Ks))) :: (b', Blk 3 (crsK g.d q)) :: (KH g.d Ks ++ X))
      refine (List.Perm.swap _ _ _).trans ((List.Perm.cons _ (List.Perm.swap _ _ _)).trans ((List.Perm.swap _ _ _).trans (List.Perm.refl _)))
  refine Tri.fgt ?_
  refine Tri.opn fun o ho => ?_
  obtain ⟨es, clock, rfl, hg⟩ := ho
  obtain ⟨ok, u, hu, hlook⟩ := lookup_rel Try.prog (t := 83) (m := g.m) (clock := clock) hin hg
  obtain ⟨lv, stop, dug⟩ := q
  dsimp only at hql
  have h5 := pad5_len (l := lv) (by omega)
  have hst := hq.st
  dsimp only at hst
  have hki := keyL_ints (q := (lv, stop, dug)) (by dsimp only; omega)
  refine tri_of_WP Try.func85 rfl (n := _) rfl (by simp) ?_
  rw [← hki] at hlook
  unfold keyL at hki hlook ⊢
  have hlowP := fun L a b ha hb => lower_ret N w0 L (pad5 lv) h5 a b ha hb
  simp only [lvl_pad] at hlowP
  have hkv : intsV lks (keyI (lv, stop, dug)) = Value.agg (ints (pad5 lv) ++ [Value.int .u64 (stop : Int), Value.int .i64 dug.1, Value.int .i64 dug.2]).toArray := hki.symm
  obtain ⟨p, hp⟩ : ∃ p, pad5 lv = p := ⟨_, rfl⟩
  rw [hp] at h5 hlook hkv hlowP ⊢
  match p, h5 with
  | [a0, a1, a2, a3, a4], _ =>
  unfold ints at hlook hkv hlowP ⊢
  simp only [List.map_cons, List.map_nil, List.cons_append, List.nil_append] at hlook hkv hlowP ⊢
  cases ok
  · simp only [Bool.false_eq_true, if_false] at hlook
    clear hu
    obtain ⟨ws, hws⟩ : ∃ ws, (g.d.ways ++ if dug.1 ≠ dug.2 then [dug] else []) = ws := ⟨_, rfl⟩
    have hwl := waysK_len hnw dug
    rw [hws] at hwl
    have hwk : waysK g.d (lv, stop, dug) = keepL stop ws 0 := by unfold waysK; rw [hws]
    obtain ⟨f, hf⟩ : ∃ f, nxt (keepL stop ws 0) lv = f := ⟨_, rfl⟩
    have hck : crsK g.d (lv, stop, dug) = crs g.d.banks.length f := by unfold crsK; rw [hwk, hf]
    have hwr : RdRows N w0 ((g.m, Is (.map es clock)) :: (g.b, Blk 85 (bogL g)) :: (KH g.d Ks ++ X)) g.A2 2 (g.d.ways.map spL) := RdRows.ofSl hA.ways
    rw [hck]
    unfold bogL at hwr ⊢
    repeat' (first | (refine GiP ?_; first | (refine Znh ?_) | (with_reducible refine Znl ?_) | (refine Zatd 37 ?_; refine OPS_makeR (m := g.d.ways.length + 1) rfl rfl rfl (by omega) (by omega) (by unfold maxLen; omega) rfl rfl (fun b37 xs37 h37 h37z => ?_)) | (refine Zatd 7 ?_; refine Zv Zav ?_)) | (refine GiW ?_; first | (refine Zsq fun K hK => ?_) | (refine ZrN 0 fun _ => ?_; refine Zal 3 fun b3 => ?_; refine Zv Zav ?_) | (refine ZrN 2 fun _ => ?_; refine Zv Zmb ?_) | (refine ZrN 5 fun _ => ?_; refine Zv Zmv ?_; refine Zv Zmv ?_; (first | (refine Zv Zxnp ?_) | (refine Zv Zxnf ?_)); refine Zv Zf0 ?_; refine Zv Zfa ?_; refine Zv Zld ?_; refine OPS_copyR (rows := g.d.ways.map spL) rfl rfl (by repeat (first | exact Up.here | apply Up.there | apply Up.sv)) (by simp) (hwr.wk (by repeat (first | exact Wk.refl _ | apply Wk.keep1 | apply Wk.drop | apply Wk.sv | apply Wk.svD | apply Wk.appD))) (map_len (f := spL) (fun _ => rfl) _) (map_ones (f := spL) (fun _ => rfl) _) rfl rfl ?_) | (refine WP_cond_false rfl ?_) | (with_reducible apply WP_skip) | (refine WP_drawn (id := 1) [0, 1, 2, 3, 4, 5, 6, 7, 8, 9, 10] [] (k := 0) prog_mixed (by kernel_rfl) rfl ?_; refine Zew rfl Zmv ?_; (first | (refine Zew rfl Zxnp ?_) | (refine Zew rfl Zxnf ?_)); refine Zew rfl Zfa ?_; refine Zew rfl Zld ?_; refine Zew rfl Zla ?_; refine Zew rfl (hlook rfl rfl (by repeat (first | exact Mem.here | assumption | apply Mem.there | apply Mem.sv | apply Mem.app))) ?_; refine Zew rfl Zmv ?_; refine Zew rfl Zxex ?_; refine Zew rfl Zxex ?_; refine Zew rfl Zav ?_; refine Zew rfl Zab ?_) | (refine WP_drawn (id := 4) [0, 1, 2, 3, 4, 5, 6, 7, 8, 9, 10, 11, 12] [] (k := 2) prog_mixed (by kernel_rfl) rfl ?_; refine Zew rfl Zmv ?_; (first | (refine Zew rfl Zxnp ?_) | (refine Zew rfl Zxnf ?_)); refine Zew rfl Zf0 ?_; refine Zew rfl Zfa ?_; refine Zew rfl Zld ?_; refine Zew rfl Zxlen ?_; refine Zew rfl Zmv ?_; (first | (refine Zew rfl Zxnp ?_) | (refine Zew rfl Zxnf ?_)); refine Zew rfl Zf0 ?_; refine Zew rfl Zfa ?_; refine Zew rfl Zld ?_; refine Zew rfl Zxlen ?_; refine Zew rfl Zxadd ?_)) | (with_reducible apply EWalk_nil) | (refine GiO ?_; first | (refine AnyO_done (by kernel_rfl) ?_; (try with_reducible apply noP_normal); try with_reducible exact key.out) | (refine AnyO_1 13 (by decide +kernel) rfl ?_) | (refine AnyO_1 14 (by decide +kernel) rfl ?_)) | (refine Zhn ?_) | (refine AWalk_0 ?_; refine ZisO ?_) | (with_reducible apply QAny_normal))
    refine WP_joinS (by assumption) [7, 45, 46, 47, 48, 49, 50, 51] (fun tb : Bool => [(51, .bool tb), (7, svV (some (b37, g.d.ways.length + 1)) g.d.ways.length)]) (fun _ => svH 32 2 g.d.ways.length (g.d.ways.map spL).flatten (some (b37, g.d.ways.length + 1)) ((b3, Blk 98 [.int .i64 a0, .int .i64 a1, .int .i64 a2, .int .i64 a3, .int .i64 a4, .int .u64 (stop : Int), .int .i64 dug.1, .int .i64 dug.2]) :: (g.m, Is (.map es clock)) :: (g.b, Blk 85 [.slice g.A1 g.d.banks.length g.c1, .slice g.A2 g.d.ways.length g.c2, .slice g.A3 g.d.rights.length g.c3, .slice g.A4 g.d.seen.length g.c4, .map (some g.m)]) :: (KH g.d Ks ++ X))) (fun tb => tb = (dug.1 != dug.2)) ?_ ?_
    · intro K' hC
      repeat' (first | (with_reducible refine Znl ?_) | (refine ZrN 6 fun _ => ?_; refine Zv Zfa ?_; refine Zv Zf0 ?_; refine Zv Zld ?_; refine Zv Zfa ?_; refine Zv Zfa ?_; refine Zv Zld ?_; refine Zv Zxneq ?_))
      exact hC.nor _ _ _ (.cons rfl (.cons rfl .nil)) (by repeat (first | exact Off.frame rfl | exact Off.refl _ _ | refine Off.frameT rfl rfl ?_ | refine Off.upd rfl ?_ | refine Off.updO rfl ?_)) (Sub.refl _) rfl
    rintro tb j1 htb
    have hok0 : svOk (some (b37, g.d.ways.length + 1)) 2 g.d.ways.length (g.d.ways.map spL).flatten := ⟨map_flat (f := spL) (fun _ => rfl) _, fun h => by cases h⟩
    refine WP_joinS (by assumption) [7, 52, 53, 54, 55, 56] (fun s : Option (Nat × Nat) => [(7, svV s ws.length)]) (fun s => svH 32 2 ws.length (ws.map spL).flatten s ((b3, Blk 98 [.int .i64 a0, .int .i64 a1, .int .i64 a2, .int .i64 a3, .int .i64 a4, .int .u64 (stop : Int), .int .i64 dug.1, .int .i64 dug.2]) :: (g.m, Is (.map es clock)) :: (g.b, Blk 85 [.slice g.A1 g.d.banks.length g.c1, .slice g.A2 g.d.ways.length g.c2, .slice g.A3 g.d.rights.length g.c3, .slice g.A4 g.d.seen.length g.c4, .map (some g.m)]) :: (KH g.d Ks ++ X))) (fun s => svOk s 2 ws.length (ws.map spL).flatten) ?_ ?_
    · intro K' hC
      by_cases hdu : dug.1 = dug.2
      · rw [if_neg (by omega), List.append_nil] at hws
        subst hws
        have : tb = false := by rw [htb, hdu]; simp
        subst this
        repeat' (first | (refine GiW ?_; first | (refine WP_cond_false rfl ?_) | (with_reducible apply WP_skip)))
        exact hC.nor _ _ _ (.cons rfl .nil) (by repeat (first | exact Off.frame rfl | exact Off.refl _ _ | refine Off.frameT rfl rfl ?_ | refine Off.upd rfl ?_ | refine Off.updO rfl ?_)) (Sub.refl _) hok0
      · rw [if_pos hdu] at hws
        have : tb = true := by rw [htb]; simpa using hdu
        subst this
        have hl1 : ws.length = g.d.ways.length + 1 := by rw [← hws]; simp
        have hfl : (ws.map spL).flatten = (g.d.ways.map spL).flatten ++ [Value.int .i64 dug.1, .int .i64 dug.2] := by rw [← hws, List.map_append, List.flatten_append]; rfl
        rw [hl1, hfl] at hC
        repeat' (first | (with_reducible refine Znl ?_) | (refine GiW ?_; first | (refine ZrN 7 fun _ => ?_; refine Zv Zmv ?_; refine Zv Zfa ?_; refine Zv Zla ?_; refine Zal 55 fun b55 => ?_; refine OPS_append rfl rfl rfl (by repeat (first | exact Wk.refl _ | apply Wk.keep1 | apply Wk.drop | apply Wk.sv | apply Wk.svD | apply Wk.appD)) (by assumption) (blk_cells (by repeat (first | exact Mem.here | assumption | apply Mem.there | apply Mem.sv | apply Mem.app))) rfl rfl (by simp only [maxLen]; omega) (by omega) rfl rfl (fun s56 hs56 => ?_); refine Zv Zav ?_) | (refine WP_cond_true rfl ?_)))
        exact hC.nor s56 _ _ (.cons rfl .nil) (by repeat (first | exact Off.frame rfl | exact Off.refl _ _ | refine Off.frameT rfl rfl ?_ | refine Off.upd rfl ?_ | refine Off.updO rfl ?_)) (Sub.refl _) hs56
    rintro s j2 hs
    obtain ⟨A7, c7, h7, hrd⟩ := RdRows.sv (E := 32) (by omega) hs
    rw [h7]
    have hjs := fun L' (hk : Wk L' (svH 32 2 ws.length (ws.map spL).flatten s [])) a b => some_ret N w0 L' A7 c7 ws (by omega) (hrd N w0 L' (ws.map spL) hk rfl (map_len (f := spL) (fun _ => rfl) _)) stop hst a b
    repeat' (first | (refine Znh ?_) | (refine GiW ?_; first | (refine Zsq fun K hK => ?_) | (refine ZrN 8 fun _ => ?_; refine Zv Zmv ?_; refine Zv Zxbu ?_; refine Zv Zfa ?_; refine Zv Zld ?_; refine Zv Zxbu ?_; refine Zv Zxmi ?_; refine Zv Zav ?_) | (refine ZrN 9 fun _ => ?_; refine Zv Zf0 ?_; refine Zv Zla ?_; refine Zv Val_makeFunc ?_; refine Zv Zav ?_) | (refine ZrN 10 fun _ => ?_; refine Zv Zmv ?_; (first | (refine Zv Zxnp ?_) | (refine Zv Zxnf ?_)); refine Zv Zf0 ?_; refine Zv Zf0 ?_; refine Zv Zld ?_; refine Zv Zxlen ?_; refine OPS_makeR (m := g.d.banks.length) rfl rfl rfl (Nat.le_refl _) (by omega) (by unfold maxLen; omega) rfl rfl (fun b72 xs72 h72 h72z => ?_); refine Zv Zav ?_) | (refine ZrN 11 fun _ => ?_; refine Zv Zmv ?_; refine Zv Zxlen ?_; refine Zv Zmi ?_) | (with_reducible apply WP_block)))
    have hx72 : xs72 = c0 g.d.banks.length f 0 := (h72z rfl).trans (c0_zero _ _).symm
    refine WP_loop [11, 12, 75, 76, 77, 78, 79, 80, 81, 82, 83, 84, 85, 86, 87, 88, 89, 90, 91, 92, 93, 94, 95, 96, 97, 98, 99, 100, 101, 102, 103, 104, 105, 106, 107, 108, 109, 110, 111, 112, 113, 114, 115, 116, 117] (fun x : Nat => [(75, .int .i64 (x : Int))]) (fun x => (b72, Blk 3 (c0 g.d.banks.length f x)) :: svH 32 2 ws.length (ws.map spL).flatten s ((b3, Blk 98 [.int .i64 a0, .int .i64 a1, .int .i64 a2, .int .i64 a3, .int .i64 a4, .int .u64 (stop : Int), .int .i64 dug.1, .int .i64 dug.2]) :: (g.m, Is (.map es clock)) :: (g.b, Blk 85 [.slice g.A1 g.d.banks.length g.c1, .slice g.A2 g.d.ways.length g.c2, .slice g.A3 g.d.rights.length g.c3, .slice g.A4 g.d.seen.length g.c4, .map (some g.m)]) :: (KH g.d Ks ++ X))) (fun x => x ≤ g.d.banks.length) (fun x => g.d.banks.length - x) 0 (.cons rfl .nil) (.keep (fun o ho => by rw [← hx72]; exact row_blk ho) (Wk.refl _)) (Nat.zero_le _) ?_
    intro x j3 hx
    by_cases hlt : x < g.d.banks.length
    · have hset := c0_set (f := f) hlt
      have hlen := c0_len (f := f) hx
      repeat' (first | (refine Znh ?_) | (refine GiW ?_; first | (refine Zsq fun K hK => ?_) | (refine ZrN 12 fun _ => ?_; refine Zv Zxlss ?_) | (refine ZrN 13 fun _ => ?_; refine Zv Zmi ?_; refine Zv Zai ?_) | (refine ZrN 14 fun _ => ?_; refine Zv Zmv ?_; refine Zv Zmi ?_; refine Zv Zia ?_; (first | (refine Zst ?_) | (refine OPS_turnN (Turn_storeG rfl rfl (by repeat (first | exact Up.here | apply Up.there | apply Up.sv)) rfl (by rw [hlen]; simp only [List.length_singleton]; omega) hset rfl rfl) rfl rfl ?_))) | (refine ZrN 15 fun _ => ?_; refine Zv Zmv ?_; refine Zv Zxlen ?_; refine Zv Zmi ?_) | (refine Zcd (fun hc => ?_) (fun hc => ?_) <;> (try (exfalso; omega))) | (with_reducible apply WP_skip) | (with_reducible apply WP_block)) | (refine Zhn ?_))
      refine WP_loop [12, 83, 84, 85, 86, 87, 88, 89, 90, 91, 92, 93, 94, 95, 96, 97, 98, 99, 100, 101, 102, 103, 104, 105, 106, 107, 108, 109, 110, 111, 112, 113, 114, 115, 116] (fun y : Nat => [(83, .int .i64 (y : Int))]) (fun y => (b72, Blk 3 (cc g.d.banks.length f x (nxtF (keepL stop ws 0) lv x y))) :: svH 32 2 ws.length (ws.map spL).flatten s ((b3, Blk 98 [.int .i64 a0, .int .i64 a1, .int .i64 a2, .int .i64 a3, .int .i64 a4, .int .u64 (stop : Int), .int .i64 dug.1, .int .i64 dug.2]) :: (g.m, Is (.map es clock)) :: (g.b, Blk 85 [.slice g.A1 g.d.banks.length g.c1, .slice g.A2 g.d.ways.length g.c2, .slice g.A3 g.d.rights.length g.c3, .slice g.A4 g.d.seen.length g.c4, .map (some g.m)]) :: (KH g.d Ks ++ X))) (fun y => y ≤ g.d.banks.length) (fun y => g.d.banks.length - y) 0 (.cons rfl .nil) (Wk.refl _) (Nat.zero_le _) ?_
      intro y j4 hy
      by_cases hlt2 : y < g.d.banks.length
      · have hsucc := nxtF_succ (keepL stop ws 0) lv x y
        have hbest := nxtF_best (keepL stop ws 0) lv x y
        obtain ⟨o, ho⟩ : ∃ o, nxtF (keepL stop ws 0) lv x y = o := ⟨_, rfl⟩
        rw [ho] at hsucc hbest ⊢
        have hget := cc_get (n := g.d.banks.length) (f := f) (x := x) (o := o)
        have hset2 := cc_set (n := g.d.banks.length) (f := f) (x := x) (y := y) (o := o)
        have hlen2 := cc_len (f := f) (o := o) hlt
        unfold stepN betB at hsucc
        cases o with
        | none =>
          have h11 : adj (keepL stop ws 0) x y = true → lvl lv y < lvl lv x → nxtF (keepL stop ws 0) lv x (y + 1) = some y := fun h1 h2 => by rw [hsucc, if_pos (by simp [h1, h2])]
          have h10 : adj (keepL stop ws 0) x y = true → ¬ lvl lv y < lvl lv x → nxtF (keepL stop ws 0) lv x (y + 1) = none := fun h1 h2 => by rw [hsucc, if_neg (by simp [h1, h2])]
          have h00 : adj (keepL stop ws 0) x y = false → nxtF (keepL stop ws 0) lv x (y + 1) = none := fun h1 => by rw [hsucc, if_neg (by simp [h1])]
          clear hsucc
          unfold codeO at hget
          repeat' (first | (refine GiP ?_; first | (refine Znh ?_) | (with_reducible refine Znl ?_) | (refine Zatd 95 ?_; (first | (refine Zv Zxpt ?_) | (refine Zv Zxpf ?_)); refine Zv Zmb ?_) | (refine Zatd 111 ?_; (first | (refine Zv Zxpt ?_) | (refine Zv Zxpf ?_))) | (refine Zatd 91 ?_; first | refine Zsk ?_ | (refine Zv Zmv ?_)) | (refine Zatd 92 ?_; first | refine Zsk ?_ | (refine Zv Zmi ?_)) | (refine Zatd 93 ?_; first | refine Zsk ?_ | (refine Zv Zmi ?_)) | (refine Zatd 94 ?_; first | refine Zsk ?_ | (refine OPS_retS (Enters_inv rfl rfl) (hjs _ (.drop Wk.sv0) x y) rfl rfl rfl ?_) | (refine Zcl (Enters_val rfl rfl) (hlowP _ y x (by omega) (by omega)) ?_)) | (refine Zatd 97 ?_; first | refine Zsk ?_ | (refine Zv Zmv ?_)) | (refine Zatd 98 ?_; first | refine Zsk ?_ | (refine Zv Zmi ?_)) | (refine Zatd 99 ?_; first | refine Zsk ?_ | (refine Zv Zia ?_)) | (refine Zatd 100 ?_; first | refine Zsk ?_ | (refine Zv Zld ?_)) | (refine Zatd 101 ?_; first | refine Zsk ?_ | (refine Zv Zxeql ?_)) | (refine Zatd 102 ?_; first | refine Zsk ?_ | (refine Zv Zmb ?_)) | (refine Zatd 103 ?_; first | refine Zsk ?_ | (refine Zv Zmv ?_)) | (refine Zatd 104 ?_; first | refine Zsk ?_ | (refine Zv Zmi ?_)) | (refine Zatd 105 ?_; first | refine Zsk ?_ | (refine Zv Zmv ?_)) | (refine Zatd 106 ?_; first | refine Zsk ?_ | (refine Zv Zmi ?_)) | (refine Zatd 107 ?_; first | refine Zsk ?_ | (refine Zv Zia ?_)) | (refine Zatd 108 ?_; first | refine Zsk ?_ | (refine Zv Zld ?_)) | (refine Zatd 109 ?_; first | refine Zsk ?_ | (refine OPS_retS (Enters_inv rfl rfl) (hjs _ (.drop Wk.sv0) x y) rfl rfl rfl ?_) | (refine Zcl (Enters_val rfl rfl) (hlowP _ y x (by omega) (by omega)) ?_)) | (refine Zatd 110 ?_; first | refine Zsk ?_ | (refine Zv Zxpt ?_) | (refine Zv Zxpf ?_)) | (refine Zsp (fun hc => ?_) (fun hc => ?_) <;> (try (exfalso; omega)))) | (refine GiW ?_; first | (refine Zsq fun K hK => ?_) | (refine ZrN 16 fun _ => ?_; refine Zv Zxlss ?_) | (refine ZrN 17 fun _ => ?_; refine Zv Zmi ?_; refine Zv Zai ?_) | (refine ZrG 18 ?_; refine Zv Zmv ?_; refine Zv Zmi ?_; refine Zv Zmi ?_; (first | (refine OPS_retS (Enters_inv rfl rfl) (hjs _ (.drop Wk.sv0) x y) rfl rfl rfl ?_) | (refine Zcl (Enters_val rfl rfl) (hlowP _ y x (by omega) (by omega)) ?_)); refine Zv Zmb ?_) | (refine ZrN 19 fun _ => ?_; refine Zv Zmv ?_; refine Zv Zmi ?_; refine Zv Zmi ?_; refine Zv Zia ?_; (first | (refine Zst ?_) | (refine OPS_turnN (Turn_storeG rfl rfl (by repeat (first | exact Up.here | apply Up.there | apply Up.sv)) rfl (by rw [hlen2]; simp only [List.length_singleton]; omega) hset2 rfl rfl) rfl rfl ?_))) | (refine ZrN 20 fun _ => ?_; refine Zv Zxadd ?_; refine Zv Zmi ?_) | (refine WP_cond_true rfl ?_) | (refine WP_cond_false rfl ?_) | (refine Zcd (fun hc => ?_) (fun hc => ?_) <;> (try (exfalso; omega))) | (with_reducible apply WP_skip) | (with_reducible apply WP_block)) | (refine Zhn ?_) | (with_reducible apply QBlock_normal))
          all_goals (refine QLoop_normal (y + 1) (.cons rfl .nil) (by repeat (first | exact Off.frame rfl | exact Off.refl _ _ | refine Off.frameT rfl rfl ?_ | refine Off.upd rfl ?_ | refine Off.updO rfl ?_)) ?_ (by omega) (by omega); first | (rw [h11]; rotate_left 1; assumption; assumption) | (rw [h10]; rotate_left 1; assumption; assumption) | (rw [h00]; rotate_left 1; assumption))
          all_goals exact (by repeat (first | exact Wk.refl _ | apply Wk.keep1 | apply Wk.drop | apply Wk.sv | apply Wk.svD | apply Wk.appD))
        | some z =>
          have hz := hbest.1
          have h11 : adj (keepL stop ws 0) x y = true → lvl lv y < lvl lv x → lvl lv y < lvl lv z → nxtF (keepL stop ws 0) lv x (y + 1) = some y := fun h1 h2 h3 => by rw [hsucc, if_pos (by simp [h1, h2, h3])]
          have h12 : adj (keepL stop ws 0) x y = true → lvl lv y < lvl lv x → ¬ lvl lv y < lvl lv z → nxtF (keepL stop ws 0) lv x (y + 1) = some z := fun h1 h2 h3 => by rw [hsucc, if_neg (by simp [h1, h2, h3])]
          have h10 : adj (keepL stop ws 0) x y = true → ¬ lvl lv y < lvl lv x → nxtF (keepL stop ws 0) lv x (y + 1) = some z := fun h1 h2 => by rw [hsucc, if_neg (by simp [h1, h2])]
          have h00 : adj (keepL stop ws 0) x y = false → nxtF (keepL stop ws 0) lv x (y + 1) = some z := fun h1 => by rw [hsucc, if_neg (by simp [h1])]
          clear hsucc
          unfold codeO at hget
          repeat' (first | (refine GiP ?_; first | (refine Znh ?_) | (with_reducible refine Znl ?_) | (refine Zatd 95 ?_; (first | (refine Zv Zxpt ?_) | (refine Zv Zxpf ?_)); refine Zv Zmb ?_) | (refine Zatd 111 ?_; (first | (refine Zv Zxpt ?_) | (refine Zv Zxpf ?_))) | (refine Zatd 91 ?_; first | refine Zsk ?_ | (refine Zv Zmv ?_)) | (refine Zatd 92 ?_; first | refine Zsk ?_ | (refine Zv Zmi ?_)) | (refine Zatd 93 ?_; first | refine Zsk ?_ | (refine Zv Zmi ?_)) | (refine Zatd 94 ?_; first | refine Zsk ?_ | (refine OPS_retS (Enters_inv rfl rfl) (hjs _ (.drop Wk.sv0) x y) rfl rfl rfl ?_) | (refine Zcl (Enters_val rfl rfl) (hlowP _ y x (by omega) (by omega)) ?_) | (refine Zcl (Enters_val rfl rfl) (hlowP _ y z (by omega) (by omega)) ?_)) | (refine Zatd 97 ?_; first | refine Zsk ?_ | (refine Zv Zmv ?_)) | (refine Zatd 98 ?_; first | refine Zsk ?_ | (refine Zv Zmi ?_)) | (refine Zatd 99 ?_; first | refine Zsk ?_ | (refine Zv Zia ?_)) | (refine Zatd 100 ?_; first | refine Zsk ?_ | (refine Zv Zld ?_)) | (refine Zatd 101 ?_; first | refine Zsk ?_ | (refine Zv Zxeql ?_)) | (refine Zatd 102 ?_; first | refine Zsk ?_ | (refine Zv Zmb ?_)) | (refine Zatd 103 ?_; first | refine Zsk ?_ | (refine Zv Zmv ?_)) | (refine Zatd 104 ?_; first | refine Zsk ?_ | (refine Zv Zmi ?_)) | (refine Zatd 105 ?_; first | refine Zsk ?_ | (refine Zv Zmv ?_)) | (refine Zatd 106 ?_; first | refine Zsk ?_ | (refine Zv Zmi ?_)) | (refine Zatd 107 ?_; first | refine Zsk ?_ | (refine Zv Zia ?_)) | (refine Zatd 108 ?_; first | refine Zsk ?_ | (refine Zv Zld ?_)) | (refine Zatd 109 ?_; first | refine Zsk ?_ | (refine OPS_retS (Enters_inv rfl rfl) (hjs _ (.drop Wk.sv0) x y) rfl rfl rfl ?_) | (refine Zcl (Enters_val rfl rfl) (hlowP _ y x (by omega) (by omega)) ?_) | (refine Zcl (Enters_val rfl rfl) (hlowP _ y z (by omega) (by omega)) ?_)) | (refine Zatd 110 ?_; first | refine Zsk ?_ | (refine Zv Zxpt ?_) | (refine Zv Zxpf ?_)) | (refine Zsp (fun hc => ?_) (fun hc => ?_) <;> (try (exfalso; omega)))) | (refine GiW ?_; first | (refine Zsq fun K hK => ?_) | (refine ZrN 16 fun _ => ?_; refine Zv Zxlss ?_) | (refine ZrN 17 fun _ => ?_; refine Zv Zmi ?_; refine Zv Zai ?_) | (refine ZrG 18 ?_; refine Zv Zmv ?_; refine Zv Zmi ?_; refine Zv Zmi ?_; (first | (refine OPS_retS (Enters_inv rfl rfl) (hjs _ (.drop Wk.sv0) x y) rfl rfl rfl ?_) | (refine Zcl (Enters_val rfl rfl) (hlowP _ y x (by omega) (by omega)) ?_) | (refine Zcl (Enters_val rfl rfl) (hlowP _ y z (by omega) (by omega)) ?_)); refine Zv Zmb ?_) | (refine ZrN 19 fun _ => ?_; refine Zv Zmv ?_; refine Zv Zmi ?_; refine Zv Zmi ?_; refine Zv Zia ?_; (first | (refine Zst ?_) | (refine OPS_turnN (Turn_storeG rfl rfl (by repeat (first | exact Up.here | apply Up.there | apply Up.sv)) rfl (by rw [hlen2]; simp only [List.length_singleton]; omega) hset2 rfl rfl) rfl rfl ?_))) | (refine ZrN 20 fun _ => ?_; refine Zv Zxadd ?_; refine Zv Zmi ?_) | (refine WP_cond_false rfl ?_) | (refine Zcd (fun hc => ?_) (fun hc => ?_) <;> (try (exfalso; omega))) | (with_reducible apply WP_skip) | (with_reducible apply WP_block)) | (refine Zhn ?_) | (with_reducible apply QBlock_normal))
          all_goals (refine QLoop_normal (y + 1) (.cons rfl .nil) (by repeat (first | exact Off.frame rfl | exact Off.refl _ _ | refine Off.frameT rfl rfl ?_ | refine Off.upd rfl ?_ | refine Off.updO rfl ?_)) ?_ (by omega) (by omega); first | (rw [h11]; rotate_left 1; assumption; assumption; assumption) | (rw [h12]; rotate_left 1; assumption; assumption; assumption) | (rw [h10]; rotate_left 1; assumption; assumption) | (rw [h00]; rotate_left 1; assumption))
          all_goals exact (by repeat (first | exact Wk.refl _ | apply Wk.keep1 | apply Wk.drop | apply Wk.sv | apply Wk.svD | apply Wk.appD))
      · have hye : y = g.d.banks.length := by omega
        have hnx : cc g.d.banks.length f x (nxtF (keepL stop ws 0) lv x y) = c0 g.d.banks.length f (x + 1) := by
          rw [← cc_next, ← hf, hye, ← hql]; rfl
        rw [hnx]
        repeat' (first | (refine GiP ?_; first | (refine Znh ?_) | (with_reducible refine Znl ?_)) | (refine GiW ?_; first | (refine Zsq fun K hK => ?_) | (refine ZrN 16 fun _ => ?_; refine Zv Zxlss ?_) | (refine ZrN 21 fun _ => ?_; refine Zv Zxadd ?_; refine Zv Zmi ?_) | (refine Zcd (fun hc => ?_) (fun hc => ?_) <;> (try (exfalso; omega))) | (with_reducible apply WP_exit)) | (refine Zhn ?_) | (with_reducible apply QBlock_normal) | (refine Zhx ?_) | (with_reducible apply QBlock_hit) | (with_reducible apply QLoop_exit))
        exact QLoop_normal (x + 1) (.cons rfl .nil) (by repeat (first | exact Off.frame rfl | exact Off.refl _ _ | refine Off.frameT rfl rfl ?_ | refine Off.upd rfl ?_ | refine Off.updO rfl ?_)) (by repeat (first | exact Wk.refl _ | apply Wk.keep1 | apply Wk.drop | apply Wk.sv | apply Wk.svD | apply Wk.appD)) (by omega) (by omega)
    · have hxe : x = g.d.banks.length := by omega
      rw [hxe, c0_all]
      repeat' (first | (refine GiP ?_; first | (refine Znh ?_) | (with_reducible refine Znl ?_) | (refine Zatn ?_; refine OPS_turnN (Turn_mapUpdateR (G' := GK g.d ((b72, (lv, stop, dug)) :: Ks)) rfl (hkv ▸ rfl) hin rfl ⟨_, .head _, rfl, hql, rfl⟩ (fun is v ⟨q, h1, h2⟩ => ⟨q, .tail _ h1, h2⟩) (by repeat (first | exact Up.here | apply Up.there | apply Up.sv)) hg) rfl rfl ?_)) | (refine GiW ?_; first | (refine Zsq fun K hK => ?_) | (refine ZrN 12 fun _ => ?_; refine Zv Zxlss ?_) | (refine ZrN 23 fun _ => ?_; refine Zv Zmv ?_; refine Zv Zav ?_) | (refine Zcd (fun hc => ?_) (fun hc => ?_) <;> (try (exfalso; omega))) | (with_reducible apply WP_exit) | (with_reducible apply WP_ret) | (refine WP_drawn (id := 22) [0, 1, 2, 3, 4, 5] [] (k := 1) prog_mixed (by kernel_rfl) rfl ?_; refine Zew rfl Zmv ?_; (first | (refine Zew rfl Zxnp ?_) | (refine Zew rfl Zxnf ?_)); refine Zew rfl Zfa ?_; refine Zew rfl Zld ?_; refine Zew rfl Zla ?_; refine Zew rfl Zmv ?_)) | (with_reducible apply EWalk_nil) | (refine GiO ?_; first | (refine AnyO_done (by kernel_rfl) ?_; (try with_reducible apply noP_normal); try with_reducible exact key.out) | (refine AnyO_1 6 (by decide +kernel) rfl ?_)) | (refine Zhn ?_) | (refine Zhx ?_) | (with_reducible apply QBlock_hit) | (with_reducible apply QLoop_exit) | (refine AWalk_0 ?_; refine ZisO ?_) | (with_reducible apply QAny_normal))
      exact QBody_ret1 rfl (rfl : _ = Value.slice _ _ _) ⟨_, (by repeat (first | exact Wk.refl _ | apply Wk.keep1 | apply Wk.drop | apply Wk.sv | apply Wk.svD | apply Wk.appD)), _, rfl, b72, rfl, .inr rfl⟩
  · simp only [if_true] at hlook
    obtain ⟨qq, hqm, hqe, hqn, rfl⟩ := hu rfl
    obtain ⟨bq, lq⟩ := qq
    dsimp only at hqe hqn
    have : (lv, stop, dug) = lq := keyI_inj (by rw [hqn]; exact hql) hqe
    subst this
    unfold bogL
    repeat' (first | (refine Znh ?_) | (refine GiW ?_; first | (refine Zsq fun K hK => ?_) | (refine ZrN 0 fun _ => ?_; refine Zal 3 fun b3 => ?_; refine Zv Zav ?_) | (refine ZrN 2 fun _ => ?_; refine Zv Zmb ?_) | (refine ZrN 3 fun _ => ?_; refine Zv Zmv ?_; refine Zv Zav ?_) | (refine WP_cond_true rfl ?_) | (with_reducible apply WP_ret) | (refine WP_drawn (id := 1) [0, 1, 2, 3, 4, 5, 6, 7, 8, 9, 10] [] (k := 0) prog_mixed (by kernel_rfl) rfl ?_; refine Zew rfl Zmv ?_; (first | (refine Zew rfl Zxnp ?_) | (refine Zew rfl Zxnf ?_)); refine Zew rfl Zfa ?_; refine Zew rfl Zld ?_; refine Zew rfl Zla ?_; refine Zew rfl (hlook rfl rfl (by repeat (first | exact Mem.here | assumption | apply Mem.there | apply Mem.sv | apply Mem.app))) ?_; refine Zew rfl Zmv ?_; refine Zew rfl Zxex ?_; refine Zew rfl Zxex ?_; refine Zew rfl Zav ?_; refine Zew rfl Zab ?_)) | (with_reducible apply EWalk_nil) | (refine AnyO_done (by kernel_rfl) ?_; (try with_reducible apply noP_normal); try with_reducible exact key.out) | (refine Zhn ?_) | (refine Zhr ?_) | (refine AWalk_0 ?_; refine ZisO ?_))
    exact QBody_ret1 rfl (rfl : _ = Value.slice _ _ _) ⟨_, .drop (.keep (fun o ho => ⟨es, clock, ho, hg⟩) (.refl _)), _, rfl, bq, rfl, .inl ⟨hqm, rfl⟩⟩
end
end Go.Proofs.Ytbhgpnbfdjoglaa
end
