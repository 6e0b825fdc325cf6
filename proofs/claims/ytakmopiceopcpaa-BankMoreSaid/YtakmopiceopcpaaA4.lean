/- Loops within which functions are ranged over: each of these leaves a mark. · Package bank: what the walk over all states wants of rows: keys that fit, how many there are, what is done. -/
import Derived.Test.YtakmopiceopcpaaRange
import Derived.Test.YtakmopiceopcpaaLeave
import Derived.Test.YtakmopiceopcpaaA3
section
namespace Go.Proofs.Ytakmopiceopcpaa
open Go.RowKit
section
variable {P : Program} {r : Option Nat} {n N : Nat} {w0 : World} {Q : Post} {e : Env} {ds : List Deferred} {L : Hp}
def QLoopD {σ : Type} (ws : List Nat) (base : Env) (sl : σ → List (Nat × Value)) (Lp : σ → Hp) (J : σ → Prop) (μ : σ → Nat) (dsf : σ → List Deferred) (m : Nat) (Q : Post) : Post
  | .normal, e', ds', L' => ∃ s' L1, ds' = dsf s' ∧ Slots e' (sl s') ∧ Off ws e' base ∧ Sub L1 L' ∧ Wk L1 (Lp s') ∧ J s' ∧ μ s' < m
  | x, e', ds', L' => Q x e' ds' L'
theorem WP_loopD {c : Code} {σ : Type} (ws : List Nat) (sl : σ → List (Nat × Value)) (Lp : σ → Hp) (J : σ → Prop) (μ : σ → Nat) (dsf : σ → List Deferred) (s0 : σ) (hds : ds = dsf s0)
    (h0 : Slots e (sl s0)) (hL : Wk L (Lp s0)) (hJ : J s0)
    (round : ∀ s j, J s → WP P r n N w0 c (QLoopD ws e sl Lp J μ dsf (μ s) Q) (frame ws e (sl s) j) (dsf s) (Lp s)) :
    WP P r n N w0 (.loop c) Q e ds L := by
  rintro a w hs he hd hI b k cs hro hb hr
  have key : ∀ m s, μ s = m → J s → ∀ a w, a.tmps.size = n → Slots (envOf a) (sl s) → Off ws (envOf a) e → a.defers = dsf s → Inv N w0 (Lp s) w →
      ∃ x a' w', PostA n N w0 Q x a' w' ∧ ArrivesIn (Machine.fenced P (FW r)) P (lone (b.atR a (.code c :: .inLoop c :: k)) cs w) b k cs x a' w' := by
    intro m
    induction m using Nat.strongRecOn with
    | _ m ih =>
      intro s hm hJ a w hs hsl hoff hd hI
      have hfr : envOf a = frame ws e (sl s) (envOf a) := frame_intro hsl.look hoff
      obtain ⟨x, a₁, w₁, ⟨hs₁, L₁, hI₁, hq⟩, harr⟩ := round s (envOf a) hJ a w hs hfr hd hI b (.inLoop c :: k) cs hro hb hr
      cases x with
      | normal =>
        obtain ⟨s', L2, hd₁, hsl', hoff', ⟨L0, hsb⟩, hwk, hJ', hlt⟩ := hq
        obtain ⟨x₂, a₂, w₂, hq₂, harr₂⟩ := ih (μ s') (hm ▸ hlt) s' rfl hJ' a₁ w₁ hs₁ hsl' hoff' hd₁ (((hI₁.perm (hsb.trans List.perm_append_comm)).wk (.app L0 L2)).wk hwk)
        exact ⟨x₂, a₂, w₂, hq₂, .of_steps (StepsIn.trans harr (.one FW_calm stepR_inLoop)) harr₂⟩
      | exit id => exact ⟨_, a₁, w₁, ⟨hs₁, L₁, hI₁, hq⟩, .pass (x := .inLoop c) rfl (fun _ _ => .inl (by simp)) harr⟩
      | goto l => exact ⟨_, a₁, w₁, ⟨hs₁, L₁, hI₁, hq⟩, .pass (x := .inLoop c) rfl (fun _ _ => .inl (by simp)) harr⟩
      | ret => exact ⟨_, a₁, w₁, ⟨hs₁, L₁, hI₁, hq⟩, .pass (x := .inLoop c) rfl (fun _ _ => .inl (by simp)) harr⟩
      | panic ch => exact ⟨_, a₁, w₁, ⟨hs₁, L₁, hI₁, hq⟩, .pass (x := .inLoop c) rfl (fun _ _ => .inl (by simp)) harr⟩
      | outgrown => exact ⟨_, a₁, w₁, ⟨hs₁, L₁, hI₁, hq⟩, .pass (x := .inLoop c) rfl (fun _ _ => .inl (by simp)) harr⟩
  obtain ⟨x, a', w', hq, harr⟩ := key _ s0 rfl hJ a w hs (he ▸ h0) (he ▸ Off.refl ws _) (hd.trans hds) (hI.wk hL)
  exact ⟨x, a', w', hq, .of_steps (.one FW_calm stepR_loop) harr⟩
theorem QLoopD_exit {σ : Type} {ws : List Nat} {base : Env} {sl : σ → List (Nat × Value)} {Lp : σ → Hp} {J : σ → Prop} {μ : σ → Nat} {dsf : σ → List Deferred} {m : Nat} {id : Nat}
    (h : Q (.exit id) e ds L) : QLoopD ws base sl Lp J μ dsf m Q (.exit id) e ds L := h
theorem QLoopD_normal {σ : Type} {ws : List Nat} {base : Env} {sl : σ → List (Nat × Value)} {Lp : σ → Hp} {J : σ → Prop} {μ : σ → Nat} {dsf : σ → List Deferred} {m : Nat} (s' : σ) (L1 : Hp) (h0 : ds = dsf s')
    (h1 : Slots e (sl s')) (h2 : Off ws e base) (h3 : Sub L1 L) (h3' : Wk L1 (Lp s')) (h4 : J s') (h5 : μ s' < m) : QLoopD ws base sl Lp J μ dsf m Q .normal e ds L :=
  ⟨s', L1, h0, h1, h2, h3, h3', h4, h5⟩
/-- The marks, and their blocks. -/
def marks (Ds : List Nat) (ds : List Deferred) : List Deferred := Ds.map mark ++ ds
def marksH (Ds : List Nat) : Hp := Ds.map fun D => (D, Is (.deferred (some [])))
def markedH (Ds : List Nat) : Hp := Ds.map fun D => (D, fun _ => True)
theorem Lv_marks {fn : Func} {R : Ending → Hp → Prop} {u : FrameMode} (hu : u ≠ .run) : ∀ (Ds : List Nat) (X : Hp), Lv P fn N w0 R e ds u (X ++ (markedH Ds ++ L)) → Lv P fn N w0 R e (marks Ds ds) u (X ++ (marksH Ds ++ L))
  | [], X, h => h
  | D :: Ds, X, h => by
    refine Lv_mark hu (L1 := X ++ ((D, fun _ => True) :: (marksH Ds ++ L))) ?_ ?_
    · have : ∀ X : Hp, Up (X ++ ((D, Is (.deferred (some []))) :: (marksH Ds ++ L))) D (Is (.deferred (some []))) (fun _ => True) (X ++ ((D, fun _ => True) :: (marksH Ds ++ L))) := by
        intro X
        induction X with
        | nil => exact .here
        | cons x X ih => exact .there ih
      exact this X
    · have := Lv_marks hu Ds (X ++ [(D, fun _ => True)]) (by simpa [markedH] using h)
      simpa [marks] using this
theorem Lv_marksE {fn : Func} {R : Ending → Hp → Prop} {u : FrameMode} {X : Hp} {Ds : List Nat} (hu : u ≠ .run) (h : Lv P fn N w0 R e ds u (X ++ markedH Ds)) : Lv P fn N w0 R e (marks Ds ds) u (X ++ marksH Ds) := by
  have := Lv_marks (P := P) (fn := fn) (N := N) (w0 := w0) (R := R) (e := e) (ds := ds) (L := []) hu Ds X
  simp only [List.append_nil] at this
  exact this h
end
end Go.Proofs.Ytakmopiceopcpaa
end

section
namespace Go.Proofs.Ytakmopiceopcpaa
open Go.RowKit
def lks : List IntKind := [.i64, .i64, .i64, .i64, .i64]
theorem keyI_vals {s : St} (hl : s.1.length ≤ 4) (hf : ∀ f ∈ s.1, f = 0 ∨ f = 1 ∨ f = 2) : ∃ a0 a1 a2 a3 : Int, keyI s = [a0, a1, a2, a3, s.2] ∧ (0 ≤ a0 ∧ a0 ≤ 2) ∧ (0 ≤ a1 ∧ a1 ≤ 2) ∧ (0 ≤ a2 ∧ a2 ≤ 2) ∧ (0 ≤ a3 ∧ a3 ≤ 2) := by
  obtain ⟨a0, a1, a2, a3, h5, h4⟩ := keyI_five hl
  have hb : ∀ x ∈ pad4 s.1, 0 ≤ x ∧ x ≤ 2 := by
    intro x hx
    unfold pad4 at hx
    obtain ⟨k, hk, rfl⟩ := List.mem_map.1 hx
    rcases List.mem_append.1 hk with hk | hk
    · have := hf k hk; omega
    · have := List.eq_of_mem_replicate hk; omega
  rw [h4] at hb
  exact ⟨a0, a1, a2, a3, h5, hb a0 (by simp), hb a1 (by simp), hb a2 (by simp), hb a3 (by simp)⟩
theorem wf_sm {a : Int} (h : -100 ≤ a ∧ a ≤ 100) : (Lit.int IntKind.i64 a).wf = true := by
  simp [Lit.wf, IntKind.min, IntKind.max, IntKind.bits, IntKind.signed]
  omega
theorem keyI_ks {s : St} {m : Int} (hm : m ≤ 4) (hl : s.1.length ≤ 4) (hf : ∀ f ∈ s.1, f = 0 ∨ f = 1 ∨ f = 2) (ho : -1 ≤ s.2 ∧ s.2 ≤ m) : inKs lks (keyI s) := by
  obtain ⟨a0, a1, a2, a3, h5, h0, h1, h2, h3⟩ := keyI_vals hl hf
  rw [h5]
  refine ⟨rfl, ?_⟩
  intro q hq
  simp only [lks, List.zip_cons_cons, List.zip_nil_right, List.mem_cons, List.not_mem_nil, or_false] at hq
  rcases hq with rfl | rfl | rfl | rfl | rfl <;> exact wf_sm (by dsimp only; omega)
theorem keyI_V {s : St} (hl : s.1.length ≤ 4) : intsV lks (keyI s) = stV s := by
  obtain ⟨a0, a1, a2, a3, h5, _⟩ := keyI_five hl
  unfold stV
  rw [h5]; rfl
theorem key_init {n : Nat} (h : n ≤ 4) : keyI (List.replicate n 0, -1) = [0, 0, 0, 0, -1] := by
  have : n = 0 ∨ n = 1 ∨ n = 2 ∨ n = 3 ∨ n = 4 := by omega
  rcases this with rfl | rfl | rfl | rfl | rfl <;> rfl
theorem sum_init {n : Nat} (h : n ≤ 4) : sumM [((List.replicate n 0, -1), 0)] = fun k => if k = [0, 0, 0, 0, -1] then some (.agg [.int .i64 1, .int .i64 0, .int .i64 0].toArray) else none := by
  funext k
  unfold sumM csK atK
  by_cases hk : k = [0, 0, 0, 0, -1]
  · subst hk
    simp [key_init h, tl, tlV]
  · have : ¬ keyI (List.replicate n 0, -1) = k := by rw [key_init h]; exact fun h => hk h.symm
    simp [this, hk]
/-! ## How many there are -/
theorem atK_len {R : List (St × Int)} {K : List (List Int)} (hn : K.Nodup) : (K.flatMap (atK R)).length ≤ R.length := by
  have h1 : (K.flatMap (atK R)) = K.flatMap fun k => (R.filter fun q => decide (keyI q.1 ∈ K)).filter fun q => decide (keyI q.1 = k) := by
    have : ∀ K' : List (List Int), (∀ k ∈ K', k ∈ K) → (K'.flatMap (atK R)) = K'.flatMap fun k => (R.filter fun q => decide (keyI q.1 ∈ K)).filter fun q => decide (keyI q.1 = k) := by
      intro K' h
      induction K' with
      | nil => rfl
      | cons k K' ih =>
        rw [List.flatMap_cons, List.flatMap_cons, ih (fun k hk => h k (.tail _ hk))]
        congr 1
        rw [List.filter_filter]
        unfold atK
        refine List.filter_congr fun q _ => ?_
        by_cases hq : keyI q.1 = k
        · simp [hq, h k (.head _)]
        · simp [hq]
    exact this K fun k hk => hk
  rw [h1, (group_perm (fun q : St × Int => keyI q.1) (R.filter fun q => decide (keyI q.1 ∈ K)) hn (fun q hq => by simpa using (List.mem_filter.1 hq).2)).length_eq]
  exact List.length_filter_le _ _
theorem row1_len {b : Bn} (v : VB b) (aq : List Ask) (h : Int) (p : Nat) (q : St × Int) : (row1 b aq h p q).length ≤ 16 := by
  unfold row1 nextS
  rw [List.length_map]
  refine Nat.le_trans (List.length_filter_le _ _) ?_
  rw [List.length_map]
  refine Nat.le_trans (nexts_len p b.ls q.1.1) ?_
  exact (Nat.pow_le_pow_right (by omega) v.nl : 2 ^ b.ls.length ≤ 2 ^ 4)
theorem rowK_len {b : Bn} (v : VB b) (aq : List Ask) (h : Int) (p : Nat) {R : List (St × Int)} {K : List (List Int)} (hn : K.Nodup) : (K.flatMap (rowK b aq h p R)).length ≤ R.length * 16 := by
  have : (K.flatMap (rowK b aq h p R)) = (K.flatMap (atK R)).flatMap (row1 b aq h p) := by
    rw [List.flatMap_assoc]; rfl
  rw [this]
  exact Nat.le_trans (row_len (row1_len v aq h p) _) (Nat.mul_le_mul_right _ (atK_len hn))
theorem csK_len (R : List (St × Int)) (is : List Int) : (csK R is).length ≤ R.length := by
  unfold csK atK
  rw [List.length_map]
  exact List.length_filter_le _ _
theorem pow_bd {p : Nat} (h : p ≤ 10) : (16 : Nat) ^ p ≤ 2 ^ 40 := by
  have : (16 : Nat) ^ p ≤ 16 ^ 10 := Nat.pow_le_pow_right (by omega) h
  exact Nat.le_trans this (by decide)
/-! ## What is done of one state -/
def doneX (h : Int) (cs : List Int) (x : St) : List (St × Int) := (cs.map (bump h x.2)).map fun c => (x, c)
theorem fol_ok {b : Bn} (v : VB b) {p : Nat} {s : St} (hl : s.1.length = b.ls.length) {x : St} (hx : x ∈ folS b p s) : x.1.length = b.ls.length ∧ (∀ f ∈ x.1, f = 0 ∨ f = 1 ∨ f = 2) ∧ 0 ≤ x.2 ∧ x.2 ≤ b.m := by
  have hm := v.m
  unfold folS at hx
  obtain ⟨g, hg, rfl⟩ := List.mem_map.1 hx
  obtain ⟨h1, h2⟩ := nexts_in hl hg
  exact ⟨h1, h2, hol_in (fun l hl => (v.ls l hl).h) (by omega)⟩
theorem sub_mark {C R L M : Hp} {d : Nat × (Obj → Prop)} : Sub (R ++ (L ++ (d :: M))) (d :: ((C ++ (R ++ L)) ++ M)) := by
  refine ⟨C, (List.perm_middle (l₁ := C ++ (R ++ L))).symm.trans ?_⟩
  simp only [List.append_assoc]
  have := List.perm_append_comm (l₁ := C) (l₂ := R ++ (L ++ d :: M))
  simpa only [List.append_assoc] using this
/-- The rows of the first k states that follow, where all that is asked is so. -/
def doneK (b : Bn) (aq : List Ask) (h : Int) (p : Nat) (s : St) (cs : List Int) (k : Nat) : List (St × Int) := (((folS b p s).take k).filter fun x => allIs aq p x.2 s.2).flatMap (doneX h cs)
theorem doneK_zero (b : Bn) (aq : List Ask) (h : Int) (p : Nat) (s : St) (cs : List Int) : doneK b aq h p s cs 0 = [] := rfl
theorem doneK_no {b : Bn} {aq : List Ask} {h : Int} {p : Nat} {s : St} {cs : List Int} {k : Nat} (hk : k < (folS b p s).length) (hn : allIs aq p (folS b p s)[k].2 s.2 = false) : doneK b aq h p s cs (k + 1) = doneK b aq h p s cs k := by
  unfold doneK
  rw [List.take_succ_eq_append_getElem hk, List.filter_append, List.filter_cons, if_neg (by rw [hn]; simp)]
  simp
theorem doneK_yes {b : Bn} {aq : List Ask} {h : Int} {p : Nat} {s : St} {cs : List Int} {k : Nat} (hk : k < (folS b p s).length) (hn : allIs aq p (folS b p s)[k].2 s.2 = true) : doneK b aq h p s cs (k + 1) = doneK b aq h p s cs k ++ doneX h cs (folS b p s)[k] := by
  unfold doneK
  rw [List.take_succ_eq_append_getElem hk, List.filter_append, List.filter_cons, if_pos hn]
  simp
theorem doneK_all {b : Bn} {aq : List Ask} {h : Int} {p : Nat} {R : List (St × Int)} {s : St} (hl : ∀ q ∈ R, q.1.1.length = s.1.length) : (doneK b aq h p s (csK R (keyI s)) (folS b p s).length).Perm (rowK b aq h p R (keyI s)) := by
  refine List.Perm.trans ?_ (rowK_one b aq h p hl).symm
  unfold doneK
  rw [List.take_length]
  exact .refl _
theorem doneK_len {b : Bn} (v : VB b) (aq : List Ask) (h : Int) (p : Nat) (s : St) (cs : List Int) (k : Nat) : (doneK b aq h p s cs k).length ≤ cs.length * 16 := by
  have h1 : ∀ x, (doneX h cs x).length ≤ cs.length := fun x => by simp [doneX]
  have h2 := row_len h1 (((folS b p s).take k).filter fun x => allIs aq p x.2 s.2)
  have h3 : (((folS b p s).take k).filter fun x => allIs aq p x.2 s.2).length ≤ 16 := by
    refine Nat.le_trans (List.length_filter_le _ _) (Nat.le_trans (by rw [List.length_take]; exact Nat.min_le_right _ _) ?_)
    unfold folS
    rw [List.length_map]
    exact Nat.le_trans (nexts_len p b.ls s.1) (Nat.pow_le_pow_right (by omega) v.nl : 2 ^ b.ls.length ≤ 2 ^ 4)
  refine Nat.le_trans h2 ?_
  rw [Nat.mul_comm]
  exact Nat.mul_le_mul_left _ h3
/-- What the map holds behind one state more. -/
theorem sum_done {R : List (St × Int)} {h : Int} {cs : List Int} (hc : cs ≠ []) (x : St) : sumM (R ++ doneX h cs x) = fun k => if k = keyI x then some (tlV (if csK R (keyI x) = [] then ((tl cs).1, bump h x.2 (tl cs).2.1, bump h x.2 (tl cs).2.2) else both (tl (csK R (keyI x))) ((tl cs).1, bump h x.2 (tl cs).2.1, bump h x.2 (tl cs).2.2))) else sumM R k := by
  unfold doneX
  rw [sumM_put R x (by simpa using hc), tl_bump hc]
theorem tl_bd {cs : List Int} {p : Nat} (hc : cs ≠ []) (hb : ∀ c ∈ cs, 0 ≤ c ∧ c ≤ p) : ∃ lo hi : Int, tl cs = ((cs.length : Int), lo, hi) ∧ (0 ≤ lo ∧ lo ≤ p) ∧ 0 ≤ hi ∧ hi ≤ p := by
  obtain ⟨a, b, h1, h2, h3⟩ := tl_ne hc
  exact ⟨a, b, h3, hb a h1.1, hb b h2.1⟩
/-- What comes out of the last perch. -/
def outL (b : Bn) (R : List (St × Int)) : List Int := (R.filter fun q => endB b.n b.ls q.1.1).map (·.2)
theorem outL_append (b : Bn) (R S : List (St × Int)) : outL b (R ++ S) = outL b R ++ outL b S := by
  unfold outL
  rw [List.filter_append, List.map_append]
theorem outL_one {b : Bn} {R : List (St × Int)} {s : St} (hl : ∀ q ∈ R, q.1.1.length = s.1.length) : outL b (atK R (keyI s)) = if endB b.n b.ls s.1 then csK R (keyI s) else [] := by
  have : ∀ q ∈ atK R (keyI s), q.1 = s := by
    intro q hq
    unfold atK at hq
    rw [List.mem_filter, decide_eq_true_eq] at hq
    exact keyI_inj (hl q hq.1) hq.2
  unfold outL csK
  split
  · rename_i he
    rw [List.filter_eq_self.2 fun q hq => by rw [this q hq]; exact he]
  · rename_i he
    rw [List.filter_eq_nil_iff.2 fun q hq => by rw [this q hq]; exact he]
    rfl
theorem outL_perm {b : Bn} {R S : List (St × Int)} (h : R.Perm S) : (outL b R).Perm (outL b S) := (h.filter _).map _
theorem endB_take {n : Int} : ∀ {ls : List Le} {fs : List Nat} {i : Nat} (h1 : i < ls.length) (h2 : i < fs.length), endB n (ls.take (i + 1)) (fs.take (i + 1)) = (endB n (ls.take i) (fs.take i) && (decide (fs[i] ≠ 0) && (decide (fs[i] = 2) || decide (ls[i].t.2 = n))))
  | l :: ls, f :: fs, 0, _, _ => by simp [endB]
  | l :: ls, f :: fs, i + 1, h1, h2 => by
    rw [List.take_succ_cons, List.take_succ_cons, List.take_succ_cons, List.take_succ_cons]
    unfold endB
    rw [endB_take (i := i) (by simpa using h1) (by simpa using h2)]
    simp [Bool.and_assoc]
  | [], _, _, h, _ => by simp at h
  | _, [], _, _, h => by simp at h
end Go.Proofs.Ytakmopiceopcpaa
end
