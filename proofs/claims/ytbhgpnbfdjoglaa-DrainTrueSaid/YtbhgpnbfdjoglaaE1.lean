/- The law's own courses. -/
import Derived.Test.YtbhgpnbfdjoglaaC2
section
namespace Go.Proofs.Ytbhgpnbfdjoglaa
open Go.RowKit
def i1 (l : List Int) : List (List Value) := l.map fun x => [Value.int .i64 x]
/-- Numbers that can be read. -/
def RdI (N : Nat) (w0 : World) (L : Hp) (A : Option Addr) (l : List Int) : Prop := RdRows N w0 L A 1 (i1 l)
theorem RdI.at_ {N : Nat} {w0 : World} {L : Hp} {b o : Nat} {l : List Int} (h : RdI N w0 L (some ⟨b, o, none⟩) l) {i : Nat} (hi : i < l.length) : Rd N w0 L b (o + i) (.int .i64 (lvl l i)) := by
  obtain ⟨b', o', h1, h2⟩ := RdRows.row h i hi
  simp only [Option.some.injEq, Addr.mk.injEq, and_true] at h1
  obtain ⟨rfl, rfl⟩ := h1
  have hv : lvl l i = l[i] := by unfold lvl; rw [List.getD_eq_getElem?_getD, List.getElem?_eq_getElem hi]; rfl
  have := h2 0 (.int .i64 (lvl l i)) (by rw [hv]; rfl)
  simpa using this
theorem RdI.wk {N : Nat} {w0 : World} {L L' : Hp} {A : Option Addr} {l : List Int} (h : RdI N w0 L A l) (k : Sub L L') : RdI N w0 L' A l := RdRows.sub h k
/-- The ways that are not stopped, up to the k-th. -/
def lawO (d : Dr) (stop : Nat) (lv : List Int) (a k : Nat) : Option Nat := lawC (keepL stop (d.ways.take k) 0) lv a
theorem lawO_lt {d : Dr} (v : VD d) {stop : Nat} {lv : List Int} {a : Nat} : ∀ k, k ≤ d.ways.length → ∀ c, lawO d stop lv a k = some c → c < d.banks.length := by
  intro k hk c h
  have hw : ∀ w ∈ keepL stop (d.ways.take k) 0, TwoW d.banks.length w := fun w hw => by
    obtain ⟨j, hj, _⟩ := keepL_mem.1 hw
    exact v.wy w (List.mem_of_mem_take (List.mem_of_getElem? hj))
  have := lawC_best lv a d.banks.length _ _ rfl hw
  unfold lawO at h
  rw [h] at this
  exact this.1
theorem lawO_skip {d : Dr} {stop : Nat} {lv : List Int} {a k : Nat} (hk : k < d.ways.length) (h : stop / 2 ^ k % 2 = 1 ∨ (d.ways[k].1 ≠ a ∧ d.ways[k].2 ≠ a) ∨ ¬ lvl lv (othW d.ways[k] a) < lvl lv a) : lawO d stop lv a (k + 1) = lawO d stop lv a k := by
  unfold lawO
  rw [List.take_succ_eq_append_getElem hk, keepL_snoc, List.length_take, Nat.min_eq_left (Nat.le_of_lt hk), Nat.zero_add]
  by_cases hb : stop / 2 ^ k % 2 = 1
  · rw [if_pos hb, List.append_nil]
  · rw [if_neg hb]
    have hst : lawC (keepL stop (d.ways.take k) 0 ++ [d.ways[k]]) lv a = stepC lv a (lawC (keepL stop (d.ways.take k) 0) lv a) d.ways[k] := by unfold lawC; rw [List.foldl_append]; rfl
    rw [hst]
    unfold stepC
    rw [if_neg]
    rintro ⟨h1, h2, h3⟩
    rcases h with h | h | h
    · exact hb h
    · omega
    · exact h h2
theorem lawO_step {d : Dr} {stop : Nat} {lv : List Int} {a k : Nat} (hk : k < d.ways.length) (hb : ¬ stop / 2 ^ k % 2 = 1) (h1 : d.ways[k].1 = a ∨ d.ways[k].2 = a) (h2 : lvl lv (othW d.ways[k] a) < lvl lv a) : lawO d stop lv a (k + 1) = if lessC lv (lawO d stop lv a k) (othW d.ways[k] a) = true then some (othW d.ways[k] a) else lawO d stop lv a k := by
  unfold lawO
  rw [List.take_succ_eq_append_getElem hk, keepL_snoc, List.length_take, Nat.min_eq_left (Nat.le_of_lt hk), Nat.zero_add, if_neg hb]
  have hst : lawC (keepL stop (d.ways.take k) 0 ++ [d.ways[k]]) lv a = stepC lv a (lawC (keepL stop (d.ways.take k) 0) lv a) d.ways[k] := by unfold lawC; rw [List.foldl_append]; rfl
  rw [hst]
  unfold stepC
  simp [h1, h2]
theorem lawO_nxt {d : Dr} (v : VD d) {stop : Nat} {lv : List Int} (hl : lv.length = d.banks.length) {a : Nat} : lawO d stop lv a d.ways.length = nxt (keepL stop d.ways 0) lv a := by
  unfold lawO
  rw [List.take_length]
  refine lawC_nxt (fun w hw => ?_) a
  obtain ⟨j, hj, _⟩ := keepL_mem.1 hw
  rw [hl]
  exact v.wy w (List.mem_of_getElem? hj)
def crsO (d : Dr) (stop : Nat) (lv : List Int) (k : Nat) : List Int := (List.range k).map fun a => codeO (nxt (keepL stop d.ways 0) lv a)
theorem crsO_succ (d : Dr) (stop : Nat) (lv : List Int) (k : Nat) : crsO d stop lv (k + 1) = crsO d stop lv k ++ [codeO (nxt (keepL stop d.ways 0) lv k)] := by simp [crsO, List.range_succ]
section
variable {P : Program} {N : Nat} {w0 : World} {L : Hp} {e : Env} {d : Option Nat} {ty : TypeId} {pos : String} {af : Array Edge} {g : Option (Nat × Bool)}
theorem Val_andE {x y : Operand} {t t' : TypeId} {a b c : Nat} (hc : a &&& b = c) (ha : a < 2 ^ 63) (hb : b < 2 ^ 63) (hx : ev e x = .int .i64 (a : Int)) (hy : ev e y = .int .i64 (b : Int)) : Val P N w0 L e ⟨d, .binOp .and t x y t', ty, pos, af, g⟩ (.int .i64 (c : Int)) := by
  subst hc
  exact Val_andS hx hy ha hb
theorem Val_andNotE {x y : Operand} {t t' : TypeId} {a b c : Nat} (hc : a &&& (2 ^ 64 - 1 - b) = c) (ha : a < 2 ^ 63) (hb : b < 2 ^ 63) (hx : ev e x = .int .i64 (a : Int)) (hy : ev e y = .int .i64 (b : Int)) : Val P N w0 L e ⟨d, .binOp .andNot t x y t', ty, pos, af, g⟩ (.int .i64 (c : Int)) := by
  subst hc
  exact Val_andNotS hx hy ha hb
end
attribute [local irreducible] AnyO AnyB QAny QB EWalk AWalk Ev WP OPS QThen QBlock QScope QLoop QBody Val New Turn Tri Enters PostA Blk Ro
attribute [local irreducible] AnyC QC
section
variable (N : Nat) (w0 : World)
set_option maxHeartbeats 8000000 in
theorem courses_tri (L : Hp) (g : Fg) (hA : DrAt N w0 g) (hv : VD g.d) (lv : List Int) (hl : lv.length = g.d.banks.length) (A : Option Addr) (c : Nat) (hrd : RdI N w0 L A lv) (stop : Nat) (hst : stop < 128) :
    Tri Try.prog N w0 L 26 [drV g, .slice A lv.length c, .int .i64 stop].toArray fun x L' => ∃ v, x = .returned v ∧ ∃ s, v = svV s g.d.banks.length ∧ svOk s 1 g.d.banks.length (ints (crsO g.d stop lv g.d.banks.length)) ∧ L' = svH 3 1 g.d.banks.length (ints (crsO g.d stop lv g.d.banks.length)) s L := by
  have hnb := hv.nb
  have hnw := hv.nw
  refine Tri.fgt ?_
  refine tri_of_WP Try.func26 rfl (n := _) rfl (by simp) ?_
  unfold drV drL
  have hA0 : 0 < lv.length := by omega
  obtain ⟨bA, oA, rfl⟩ : ∃ bA oA, A = some ⟨bA, oA, none⟩ := by
    obtain ⟨b, o, h, _⟩ := RdRows.row hrd 0 (by simpa [i1] using hA0)
    exact ⟨b, o, h⟩
  repeat' (first | (refine GiP ?_; first | (refine Znh ?_) | (with_reducible refine Znl ?_)) | (refine GiW ?_; first | (refine Zsq fun K hK => ?_) | (refine ZrN 0 fun _ => ?_; refine Zal 3 fun b3 => ?_; refine Zv Zav ?_) | (refine ZrN 1 fun _ => ?_; refine Zv Zmv ?_; refine Zv Zxlen ?_; refine Zv Zmi ?_) | (refine WP_cond_true rfl ?_) | (refine WP_cond_false rfl ?_) | (refine Zcd (fun hc => ?_) (fun hc => ?_) <;> (try (exfalso; omega))) | (with_reducible apply WP_skip) | (with_reducible apply WP_block) | (with_reducible apply WP_exit) | (with_reducible apply WP_ret)) | (refine Zhn ?_) | (with_reducible apply QBlock_normal) | (refine Zhx ?_) | (with_reducible apply QBlock_hit) | (refine Zqb ?_) | (with_reducible apply QLoop_exit) | (refine Zhr ?_) | (with_reducible apply QBlock_ret) | (with_reducible apply QLoop_ret))
  refine WP_loop [6, 7, 8, 9, 10, 11, 14, 15, 16, 17, 18, 19, 20, 21, 22, 23, 24, 25, 26, 27, 28, 29, 30, 31, 32, 33, 34, 35, 36, 37, 38, 39, 40, 41, 42, 43, 44, 45, 46, 47, 48, 49, 50, 51, 52, 53, 54, 55, 56, 57, 58, 59, 60, 61, 62, 63, 64, 65, 66, 67, 68, 69, 70, 71, 72, 73, 74, 75, 76, 77, 78, 79, 80, 81, 82, 83, 84, 85, 86, 87, 88, 89, 90, 91, 92, 93, 94, 95, 96] (fun q : Nat × Option (Nat × Nat) => [(14, .int .i64 (q.1 : Int)), (6, svV q.2 q.1)]) (fun q => svH 3 1 q.1 (ints (crsO g.d stop lv q.1)) q.2 ((b3, Blk 29 [.slice g.A1 g.d.banks.length g.c1, .slice g.A2 g.d.ways.length g.c2, .slice g.A3 g.d.rights.length g.c3, .slice g.A4 g.d.seen.length g.c4]) :: L)) (fun q => q.1 ≤ lv.length ∧ svOk q.2 1 q.1 (ints (crsO g.d stop lv q.1))) (fun q => lv.length - q.1) (0, none) (.cons rfl (.cons rfl .nil)) (Wk.refl _) ⟨Nat.zero_le _, svOk_nil 1⟩ ?_
  rintro ⟨a, s⟩ j ⟨ha, hs⟩
  dsimp only at ha hs ⊢
  by_cases hal : a < lv.length
  · repeat' (first | (refine GiP ?_; first | (refine Znh ?_) | (with_reducible refine Znl ?_)) | (refine GiW ?_; first | (refine Zsq fun K hK => ?_) | (refine ZrN 2 fun _ => ?_; refine Zv Zxlss ?_) | (refine ZrN 3 fun _ => ?_; refine Zv Zmi ?_; refine Zv Zai ?_) | (refine ZrN 4 fun _ => ?_; refine Zv Zai ?_) | (refine ZrN 5 fun _ => ?_; refine Zv Zfa ?_; refine Zv Zld ?_; refine Zv Zxlen ?_; refine Zv Zmi ?_) | (refine WP_cond_true rfl ?_) | (refine WP_cond_false rfl ?_) | (refine Zcd (fun hc => ?_) (fun hc => ?_) <;> (try (exfalso; omega))) | (with_reducible apply WP_skip) | (with_reducible apply WP_block) | (with_reducible apply WP_exit) | (with_reducible apply WP_ret)) | (refine Zhn ?_) | (with_reducible apply QBlock_normal) | (refine Zhx ?_) | (with_reducible apply QBlock_hit) | (refine Zqb ?_) | (with_reducible apply QLoop_exit) | (refine Zhr ?_) | (with_reducible apply QBlock_ret) | (with_reducible apply QLoop_ret))
    refine WP_loop [8, 9, 10, 11, 20, 21, 22, 23, 24, 25, 26, 27, 28, 29, 30, 31, 32, 33, 34, 35, 36, 37, 38, 39, 40, 41, 42, 43, 44, 45, 46, 47, 48, 49, 50, 51, 52, 53, 54, 55, 56, 57, 58, 59, 60, 61, 62, 63, 64, 65, 66, 67, 68, 69, 70, 71, 72, 73, 74, 75, 76, 77, 78, 79, 80, 81, 82, 83, 84, 85, 86, 87, 88, 89, 90, 91] (fun q : Nat × Option Nat => [(20, .int .i64 (q.1 : Int)), (8, .int .i64 (codeO q.2))]) (fun _ => svH 3 1 a (ints (crsO g.d stop lv a)) s ((b3, Blk 29 [.slice g.A1 g.d.banks.length g.c1, .slice g.A2 g.d.ways.length g.c2, .slice g.A3 g.d.rights.length g.c3, .slice g.A4 g.d.seen.length g.c4]) :: L)) (fun q => q.1 ≤ g.d.ways.length ∧ q.2 = lawO g.d stop lv a q.1) (fun q => g.d.ways.length - q.1) (0, none) (.cons rfl (.cons rfl .nil)) (Wk.refl _) ⟨Nat.zero_le _, rfl⟩ ?_
    rintro ⟨k, o⟩ j2 ⟨hk, ho⟩
    dsimp only at hk ho ⊢
    by_cases hkl : k < g.d.ways.length
    · obtain ⟨bW, oW, hA2, hbW, hcW⟩ := hA.ways.row k hkl
      have hskip := fun h => lawO_skip (stop := stop) (lv := lv) (a := a) hkl h
      have hstep := fun h1 h2 h3 => lawO_step (stop := stop) (lv := lv) (a := a) hkl h1 h2 h3
      have hlt := fun c => lawO_lt hv (stop := stop) (lv := lv) (a := a) k hk c
      rw [← ho] at hskip hstep hlt
      obtain ⟨t, ht⟩ : ∃ t, g.d.ways[k] = t := ⟨_, rfl⟩
      have htw := hv.wy t (by rw [← ht]; exact List.getElem_mem hkl)
      rw [ht] at hcW hskip hstep
      obtain ⟨t1, t2⟩ := t
      dsimp only at htw hskip hstep
      unfold spL at hcW
      dsimp only at hcW
      obtain ⟨x1, rfl⟩ : ∃ x : Nat, t1 = x := ⟨t1.toNat, by omega⟩
      obtain ⟨x2, rfl⟩ : ∃ x : Nat, t2 = x := ⟨t2.toNat, by omega⟩
      obtain ⟨bt, hbt⟩ : ∃ bt, (stop / 2 ^ k) &&& 1 = bt := ⟨_, rfl⟩
      have hb2 : bt = stop / 2 ^ k % 2 := by rw [← hbt]; exact Nat.and_one_is_mod _
      have hsk : stop / 2 ^ k < 2 ^ 63 := Nat.lt_of_le_of_lt (Nat.div_le_self _ _) (by omega)
      obtain ⟨y, hy⟩ : ∃ y, othW ((x1 : Int), (x2 : Int)) a = y := ⟨_, rfl⟩
      have hy1 : x1 = a → y = x2 := fun h => by rw [← hy]; unfold othW; dsimp only; rw [if_pos (by omega)]; omega
      have hy2 : x1 ≠ a → y = x1 := fun h => by rw [← hy]; unfold othW; dsimp only; rw [if_neg (by omega)]; omega
      rw [hy] at hskip hstep
      have hra : ∀ L', Sub L L' → ∀ i, i < lv.length → Rd N w0 L' bA (oA + i) (.int .i64 (lvl lv i)) := fun L' hL i hi => (hrd.wk hL).at_ hi
      clear hy
      by_cases hno : x1 ≠ a ∧ x2 ≠ a
      · have h1 := hskip (.inr (.inl (by omega)))
        repeat' (first | (refine GiP ?_; first | (refine Znh ?_) | (with_reducible refine Znl ?_)) | (refine GiW ?_; first | (refine Zsq fun K hK => ?_) | (refine ZrN 6 fun _ => ?_; refine Zv Zylss ?_) | (refine ZrN 7 fun _ => ?_; refine Zv Zmi ?_; refine Zv Zia ?_; refine Zv Zla ?_; refine Zal 10 fun b10 => ?_; refine Zv Zai ?_; refine Zst ?_) | (refine ZrN 8 fun _ => ?_; refine Zv Zf0 ?_; refine Zv Zld ?_; refine Zv Zai ?_) | (refine ZrN 9 fun _ => ?_; refine Zv Zf0 ?_; refine Zv Zld ?_; refine Zv Zmi ?_; refine Zv Zyeql ?_) | (refine ZrN 14 fun _ => ?_; refine Zv Zxadd ?_; refine Zv Zmi ?_) | (refine WP_cond_true rfl ?_) | (refine WP_cond_false rfl ?_) | (refine Zcd (fun hc => ?_) (fun hc => ?_) <;> (try (exfalso; omega))) | (with_reducible apply WP_skip) | (with_reducible apply WP_block) | (with_reducible apply WP_exit) | (with_reducible apply WP_ret) | (refine WP_drawn (id := 11) [0, 1, 2, 3, 4, 5, 6, 7, 8, 9, 10, 11, 12, 13, 14, 15, 16, 17, 18, 19, 20, 21, 22, 23, 24, 25, 26, 27] [] (k := 0) prog_mixed (by kernel_rfl) rfl ?_; refine Zew rfl Zf0 ?_; refine Zew rfl Zld ?_; refine Zew rfl Zmi ?_; refine Zew rfl Zyneq ?_; refine Zew rfl Zmb ?_)) | (refine GiE ?_; first | (refine Zati 9 ?_; (first | (refine Zew rfl Zxpt ?_) | (refine Zew rfl Zxpf ?_)); refine Zew rfl Zmb ?_) | (refine Zati 16 ?_; (first | (refine Zew rfl Zxpt ?_) | (refine Zew rfl Zxpf ?_)); refine Zew rfl Zmb ?_) | (refine Zati 27 ?_; (first | (refine Zew rfl Zxpt ?_) | (refine Zew rfl Zxpf ?_))) | (refine Zati 5 ?_; first | refine Zes ?_ | (refine Zew rfl Zfa ?_)) | (refine Zati 6 ?_; first | refine Zes ?_ | (refine Zew rfl Zld ?_)) | (refine Zati 7 ?_; first | refine Zes ?_ | (refine Zew rfl Zmi ?_)) | (refine Zati 8 ?_; first | refine Zes ?_ | (refine Zew rfl Zyneq ?_)) | (refine Zati 11 ?_; first | refine Zes ?_ | (refine Zew rfl Zmi ?_)) | (refine Zati 12 ?_; first | refine Zes ?_ | (refine Zew rfl Zmi ?_)) | (refine Zati 15 ?_; first | refine Zes ?_ | (refine Zew rfl Zyeql ?_)) | (refine Zati 18 ?_; first | refine Zes ?_ | (refine Zew rfl Zmv ?_)) | (refine Zati 19 ?_; first | refine Zes ?_ | (refine Zew rfl Zmi ?_)) | (refine Zati 20 ?_; first | refine Zes ?_ | (refine Zew rfl Zia ?_)) | (refine Zati 21 ?_; first | refine Zes ?_ | (refine Zew rfl Zld ?_)) | (refine Zati 22 ?_; first | refine Zes ?_ | (refine Zew rfl Zmv ?_)) | (refine Zati 23 ?_; first | refine Zes ?_ | (refine Zew rfl Zmi ?_)) | (refine Zati 24 ?_; first | refine Zes ?_ | (refine Zew rfl Zia ?_)) | (refine Zati 25 ?_; first | refine Zes ?_ | (refine Zew rfl Zld ?_)) | (refine Zati 26 ?_; first | refine Zes ?_ | (refine Zew rfl Zygeq ?_)) | (refine Zes ?_) | (refine Zesp (fun hc => ?_) (fun hc => ?_) <;> (try (exfalso; omega))) | (with_reducible apply EWalk_nil)) | (refine AnyO_done (by kernel_rfl) ?_; (try with_reducible apply noP_normal); try with_reducible exact key.out) | (refine Zhn ?_) | (with_reducible apply QBlock_normal) | (refine Zhx ?_) | (with_reducible apply QBlock_hit) | (refine Zqb ?_) | (with_reducible apply QLoop_exit) | (refine Zhr ?_) | (with_reducible apply QBlock_ret) | (with_reducible apply QLoop_ret) | (refine AWalk_0 ?_; refine ZisO ?_) | (with_reducible apply QAny_normal))
        exact QLoop_normal (k + 1, o) (.cons rfl (.cons rfl .nil)) (by repeat (first | exact Off.frame rfl | exact Off.refl _ _ | refine Off.frameT rfl rfl ?_ | refine Off.upd rfl ?_ | refine Off.updO rfl ?_)) (by repeat (first | exact Wk.refl _ | apply Wk.keep1 | apply Wk.drop | apply Wk.sv | apply Wk.svD | apply Wk.appD)) ⟨by dsimp only; omega, h1.symm⟩ (by dsimp only; omega)
      · have hj : x1 = a ∨ x2 = a := by omega
        have hj2 : (x1 : Int) = a ∨ (x2 : Int) = a := by omega
        have hla0 : ∀ L', Sub L L' → Rd N w0 L' bA (oA + a) (.int .i64 (lvl lv a)) := fun L' hL => hra L' hL a hal
        have hyx : (x1 = a ∧ y = x2) ∨ (x1 ≠ a ∧ y = x1) := by
          by_cases h5 : x1 = a
          · exact .inl ⟨h5, hy1 h5⟩
          · exact .inr ⟨h5, hy2 h5⟩
        have hya : y < lv.length := by omega
        have hly0 : ∀ L', Sub L L' → Rd N w0 L' bA (oA + y) (.int .i64 (lvl lv y)) := fun L' hL => hra L' hL y hya
        have hD : (bt = 1 ∧ lawO g.d stop lv a (k + 1) = o) ∨ (bt ≠ 1 ∧ ¬ lvl lv y < lvl lv a ∧ lawO g.d stop lv a (k + 1) = o) ∨ (bt ≠ 1 ∧ lvl lv y < lvl lv a ∧ o = none ∧ lawO g.d stop lv a (k + 1) = some y) ∨
            (∃ c, bt ≠ 1 ∧ lvl lv y < lvl lv a ∧ o = some c ∧ c < g.d.banks.length ∧ ((lvl lv y < lvl lv c ∧ lawO g.d stop lv a (k + 1) = some y) ∨ (lvl lv y = lvl lv c ∧ y < c ∧ lawO g.d stop lv a (k + 1) = some y) ∨ (lvl lv y = lvl lv c ∧ ¬ y < c ∧ lawO g.d stop lv a (k + 1) = some c) ∨ (¬ lvl lv y < lvl lv c ∧ lvl lv y ≠ lvl lv c ∧ lawO g.d stop lv a (k + 1) = some c))) := by
          by_cases hb1 : bt = 1
          · exact .inl ⟨hb1, hskip (.inl (by omega))⟩
          · right
            by_cases hle : lvl lv y < lvl lv a
            · right
              have h1 := hstep (by omega) hj2 hle
              cases o with
              | none =>
                left
                rw [if_pos (show lessC lv none y = true from rfl)] at h1
                exact ⟨hb1, hle, rfl, h1⟩
              | some c =>
                right
                refine ⟨c, hb1, hle, rfl, hlt c rfl, ?_⟩
                by_cases hd1 : lvl lv y < lvl lv c
                · rw [if_pos (show lessC lv (some c) y = true from decide_eq_true (.inl hd1))] at h1
                  exact .inl ⟨hd1, h1⟩
                · by_cases hd2 : lvl lv y = lvl lv c
                  · by_cases hd3 : y < c
                    · rw [if_pos (show lessC lv (some c) y = true from decide_eq_true (.inr ⟨hd2, hd3⟩))] at h1
                      exact .inr (.inl ⟨hd2, hd3, h1⟩)
                    · rw [if_neg (show ¬ lessC lv (some c) y = true from by intro h; have := of_decide_eq_true h; omega)] at h1
                      exact .inr (.inr (.inl ⟨hd2, hd3, h1⟩))
                  · rw [if_neg (show ¬ lessC lv (some c) y = true from by intro h; have := of_decide_eq_true h; omega)] at h1
                    exact .inr (.inr (.inr ⟨hd1, hd2, h1⟩))
            · exact .inl ⟨hb1, hle, hskip (.inr (.inr hle))⟩
        clear hskip hstep hlt hy1 hy2 hj hj2
        rcases hyx with ⟨h5, h6⟩ | ⟨h5, h6⟩ <;> subst h6 <;> rcases hD with ⟨h7, h1⟩ | ⟨h7, h8, h1⟩ | ⟨h7, h8, rfl, h1⟩ | ⟨c, h7, h8, rfl, h9, ⟨h10, h1⟩ | ⟨h10, h11, h1⟩ | ⟨h10, h11, h1⟩ | ⟨h10, h11, h1⟩⟩
        all_goals
          try have hlc0 : ∀ L', Sub L L' → Rd N w0 L' bA (oA + c) (.int .i64 (lvl lv c)) := fun L' hL => hra L' hL c (by omega)
          try dsimp only [codeO]
          repeat' (first | (refine GiP ?_; first | (refine Znh ?_) | (with_reducible refine Znl ?_)) | (refine GiW ?_; first | (refine Zsq fun K hK => ?_) | (refine ZrN 6 fun _ => ?_; refine Zv Zylss ?_) | (refine ZrN 7 fun _ => ?_; refine Zv Zmi ?_; refine Zv Zia ?_; (first | (refine Zv (Val_loadD1 rfl (hly0 _ (by repeat (first | exact Sub.refl _ | assumption | exact Sub.left | apply Sub.cons | apply Sub.sv | apply Sub.app)))) ?_) | (refine Zv (Val_loadD1 rfl (hla0 _ (by repeat (first | exact Sub.refl _ | assumption | exact Sub.left | apply Sub.cons | apply Sub.sv | apply Sub.app)))) ?_) | (refine Zv (Val_loadD1 rfl (hlc0 _ (by repeat (first | exact Sub.refl _ | assumption | exact Sub.left | apply Sub.cons | apply Sub.sv | apply Sub.app)))) ?_) | (refine Zv Zla ?_)); refine Zal 10 fun b10 => ?_; refine Zv Zai ?_; refine Zst ?_) | (refine ZrN 8 fun _ => ?_; refine Zv Zf0 ?_; (first | (refine Zv (Val_loadD1 rfl (hly0 _ (by repeat (first | exact Sub.refl _ | assumption | exact Sub.left | apply Sub.cons | apply Sub.sv | apply Sub.app)))) ?_) | (refine Zv (Val_loadD1 rfl (hla0 _ (by repeat (first | exact Sub.refl _ | assumption | exact Sub.left | apply Sub.cons | apply Sub.sv | apply Sub.app)))) ?_) | (refine Zv (Val_loadD1 rfl (hlc0 _ (by repeat (first | exact Sub.refl _ | assumption | exact Sub.left | apply Sub.cons | apply Sub.sv | apply Sub.app)))) ?_) | (refine Zv Zld ?_)); refine Zv Zai ?_) | (refine ZrN 9 fun _ => ?_; refine Zv Zf0 ?_; (first | (refine Zv (Val_loadD1 rfl (hly0 _ (by repeat (first | exact Sub.refl _ | assumption | exact Sub.left | apply Sub.cons | apply Sub.sv | apply Sub.app)))) ?_) | (refine Zv (Val_loadD1 rfl (hla0 _ (by repeat (first | exact Sub.refl _ | assumption | exact Sub.left | apply Sub.cons | apply Sub.sv | apply Sub.app)))) ?_) | (refine Zv (Val_loadD1 rfl (hlc0 _ (by repeat (first | exact Sub.refl _ | assumption | exact Sub.left | apply Sub.cons | apply Sub.sv | apply Sub.app)))) ?_) | (refine Zv Zld ?_)); refine Zv Zmi ?_; refine Zv Zyeql ?_) | (refine ZrN 10 fun _ => ?_; refine Zv Zfa ?_; (first | (refine Zv (Val_loadD1 rfl (hly0 _ (by repeat (first | exact Sub.refl _ | assumption | exact Sub.left | apply Sub.cons | apply Sub.sv | apply Sub.app)))) ?_) | (refine Zv (Val_loadD1 rfl (hla0 _ (by repeat (first | exact Sub.refl _ | assumption | exact Sub.left | apply Sub.cons | apply Sub.sv | apply Sub.app)))) ?_) | (refine Zv (Val_loadD1 rfl (hlc0 _ (by repeat (first | exact Sub.refl _ | assumption | exact Sub.left | apply Sub.cons | apply Sub.sv | apply Sub.app)))) ?_) | (refine Zv Zld ?_)); refine Zv Zai ?_) | (refine ZrN 13 fun _ => ?_; refine Zv Zmi ?_; refine Zv Zai ?_) | (refine ZrN 14 fun _ => ?_; refine Zv Zxadd ?_; refine Zv Zmi ?_) | (refine WP_cond_true rfl ?_) | (refine WP_cond_false rfl ?_) | (refine Zcd (fun hc => ?_) (fun hc => ?_) <;> (try (exfalso; omega))) | (with_reducible apply WP_skip) | (with_reducible apply WP_block) | (with_reducible apply WP_exit) | (with_reducible apply WP_ret) | (refine WP_drawn (id := 11) [0, 1, 2, 3, 4, 5, 6, 7, 8, 9, 10, 11, 12, 13, 14, 15, 16, 17, 18, 19, 20, 21, 22, 23, 24, 25, 26, 27] [] (k := 0) prog_mixed (by kernel_rfl) rfl ?_; refine Zew rfl Zf0 ?_; (first | (refine Zew rfl (Val_loadD1 rfl (hly0 _ (by repeat (first | exact Sub.refl _ | assumption | exact Sub.left | apply Sub.cons | apply Sub.sv | apply Sub.app)))) ?_) | (refine Zew rfl (Val_loadD1 rfl (hla0 _ (by repeat (first | exact Sub.refl _ | assumption | exact Sub.left | apply Sub.cons | apply Sub.sv | apply Sub.app)))) ?_) | (refine Zew rfl (Val_loadD1 rfl (hlc0 _ (by repeat (first | exact Sub.refl _ | assumption | exact Sub.left | apply Sub.cons | apply Sub.sv | apply Sub.app)))) ?_) | (refine Zew rfl Zld ?_)); refine Zew rfl Zmi ?_; refine Zew rfl Zyneq ?_; refine Zew rfl Zmb ?_) | (refine WP_drawn (id := 12) [0, 1, 2, 3, 4, 5, 6, 7, 8, 9, 10, 11, 12, 13, 14, 15, 16, 17, 18, 19, 20, 21, 22, 23, 24, 25, 26, 27, 28] [] (k := 0) prog_mixed (by kernel_rfl) rfl ?_; refine Zew rfl Zmi ?_; refine Zew rfl Zylss ?_; refine Zew rfl Zmb ?_)) | (refine GiE ?_; first | (refine Zati 9 ?_; (first | (refine Zew rfl Zxpt ?_) | (refine Zew rfl Zxpf ?_)); refine Zew rfl Zmb ?_) | (refine Zati 16 ?_; (first | (refine Zew rfl Zxpt ?_) | (refine Zew rfl Zxpf ?_)); refine Zew rfl Zmb ?_) | (refine Zati 27 ?_; (first | (refine Zew rfl Zxpt ?_) | (refine Zew rfl Zxpf ?_))) | (refine Zati 12 ?_; (first | (refine Zew rfl Zxpt ?_) | (refine Zew rfl Zxpf ?_)); refine Zew rfl Zmb ?_) | (refine Zati 28 ?_; (first | (refine Zew rfl Zxpt ?_) | (refine Zew rfl Zxpf ?_))) | (refine Zati 5 ?_; first | refine Zes ?_ | (refine Zew rfl Zfa ?_)) | (refine Zati 6 ?_; first | refine Zes ?_ | (refine Zew rfl (Val_loadD1 rfl (hly0 _ (by repeat (first | exact Sub.refl _ | assumption | exact Sub.left | apply Sub.cons | apply Sub.sv | apply Sub.app)))) ?_) | (refine Zew rfl (Val_loadD1 rfl (hla0 _ (by repeat (first | exact Sub.refl _ | assumption | exact Sub.left | apply Sub.cons | apply Sub.sv | apply Sub.app)))) ?_) | (refine Zew rfl (Val_loadD1 rfl (hlc0 _ (by repeat (first | exact Sub.refl _ | assumption | exact Sub.left | apply Sub.cons | apply Sub.sv | apply Sub.app)))) ?_) | (refine Zew rfl Zld ?_)) | (refine Zati 7 ?_; first | refine Zes ?_ | (refine Zew rfl Zmi ?_)) | (refine Zati 8 ?_; first | refine Zes ?_ | (refine Zew rfl Zyneq ?_)) | (refine Zati 11 ?_; first | refine Zes ?_ | (refine Zew rfl Zmi ?_)) | (refine Zati 12 ?_; first | refine Zes ?_ | (refine Zew rfl Zmi ?_)) | (refine Zati 13 ?_; first | refine Zes ?_ | (refine Zew rfl (Val_shr (i := k) rfl rfl (by show k ≤ 64; omega)) ?_)) | (refine Zati 14 ?_; first | refine Zes ?_ | (refine Zew rfl (Val_andE hbt hsk (by omega) rfl rfl) ?_)) | (refine Zati 15 ?_; first | refine Zes ?_ | (refine Zew rfl Zyeql ?_)) | (refine Zati 18 ?_; first | refine Zes ?_ | (refine Zew rfl Zmv ?_)) | (refine Zati 19 ?_; first | refine Zes ?_ | (refine Zew rfl Zmi ?_)) | (refine Zati 20 ?_; first | refine Zes ?_ | (refine Zew rfl Zia ?_)) | (refine Zati 21 ?_; first | refine Zes ?_ | (refine Zew rfl (Val_loadD1 rfl (hly0 _ (by repeat (first | exact Sub.refl _ | assumption | exact Sub.left | apply Sub.cons | apply Sub.sv | apply Sub.app)))) ?_) | (refine Zew rfl (Val_loadD1 rfl (hla0 _ (by repeat (first | exact Sub.refl _ | assumption | exact Sub.left | apply Sub.cons | apply Sub.sv | apply Sub.app)))) ?_) | (refine Zew rfl (Val_loadD1 rfl (hlc0 _ (by repeat (first | exact Sub.refl _ | assumption | exact Sub.left | apply Sub.cons | apply Sub.sv | apply Sub.app)))) ?_) | (refine Zew rfl Zld ?_)) | (refine Zati 22 ?_; first | refine Zes ?_ | (refine Zew rfl Zmv ?_)) | (refine Zati 23 ?_; first | refine Zes ?_ | (refine Zew rfl Zmi ?_)) | (refine Zati 24 ?_; first | refine Zes ?_ | (refine Zew rfl Zia ?_)) | (refine Zati 25 ?_; first | refine Zes ?_ | (refine Zew rfl (Val_loadD1 rfl (hly0 _ (by repeat (first | exact Sub.refl _ | assumption | exact Sub.left | apply Sub.cons | apply Sub.sv | apply Sub.app)))) ?_) | (refine Zew rfl (Val_loadD1 rfl (hla0 _ (by repeat (first | exact Sub.refl _ | assumption | exact Sub.left | apply Sub.cons | apply Sub.sv | apply Sub.app)))) ?_) | (refine Zew rfl (Val_loadD1 rfl (hlc0 _ (by repeat (first | exact Sub.refl _ | assumption | exact Sub.left | apply Sub.cons | apply Sub.sv | apply Sub.app)))) ?_) | (refine Zew rfl Zld ?_)) | (refine Zati 26 ?_; first | refine Zes ?_ | (refine Zew rfl Zygeq ?_)) | (refine Zati 3 ?_; first | refine Zes ?_ | (refine Zew rfl Zmv ?_)) | (refine Zati 4 ?_; first | refine Zes ?_ | (refine Zew rfl Zmi ?_)) | (refine Zati 5 ?_; first | refine Zes ?_ | (refine Zew rfl Zia ?_)) | (refine Zati 7 ?_; first | refine Zes ?_ | (refine Zew rfl Zmv ?_)) | (refine Zati 8 ?_; first | refine Zes ?_ | (refine Zew rfl Zmi ?_)) | (refine Zati 9 ?_; first | refine Zes ?_ | (refine Zew rfl Zia ?_)) | (refine Zati 10 ?_; first | refine Zes ?_ | (refine Zew rfl (Val_loadD1 rfl (hly0 _ (by repeat (first | exact Sub.refl _ | assumption | exact Sub.left | apply Sub.cons | apply Sub.sv | apply Sub.app)))) ?_) | (refine Zew rfl (Val_loadD1 rfl (hla0 _ (by repeat (first | exact Sub.refl _ | assumption | exact Sub.left | apply Sub.cons | apply Sub.sv | apply Sub.app)))) ?_) | (refine Zew rfl (Val_loadD1 rfl (hlc0 _ (by repeat (first | exact Sub.refl _ | assumption | exact Sub.left | apply Sub.cons | apply Sub.sv | apply Sub.app)))) ?_) | (refine Zew rfl Zld ?_)) | (refine Zati 11 ?_; first | refine Zes ?_ | (refine Zew rfl Zylss ?_)) | (refine Zati 14 ?_; first | refine Zes ?_ | (refine Zew rfl Zmv ?_)) | (refine Zati 15 ?_; first | refine Zes ?_ | (refine Zew rfl Zmi ?_)) | (refine Zati 16 ?_; first | refine Zes ?_ | (refine Zew rfl Zia ?_)) | (refine Zati 17 ?_; first | refine Zes ?_ | (refine Zew rfl (Val_loadD1 rfl (hly0 _ (by repeat (first | exact Sub.refl _ | assumption | exact Sub.left | apply Sub.cons | apply Sub.sv | apply Sub.app)))) ?_) | (refine Zew rfl (Val_loadD1 rfl (hla0 _ (by repeat (first | exact Sub.refl _ | assumption | exact Sub.left | apply Sub.cons | apply Sub.sv | apply Sub.app)))) ?_) | (refine Zew rfl (Val_loadD1 rfl (hlc0 _ (by repeat (first | exact Sub.refl _ | assumption | exact Sub.left | apply Sub.cons | apply Sub.sv | apply Sub.app)))) ?_) | (refine Zew rfl Zld ?_)) | (refine Zati 22 ?_; first | refine Zes ?_ | (refine Zew rfl Zyeql ?_)) | (refine Zati 23 ?_; first | refine Zes ?_ | (refine Zew rfl Zmb ?_)) | (refine Zati 24 ?_; first | refine Zes ?_ | (refine Zew rfl Zmi ?_)) | (refine Zati 25 ?_; first | refine Zes ?_ | (refine Zew rfl Zmi ?_)) | (refine Zati 26 ?_; first | refine Zes ?_ | (refine Zew rfl Zylss ?_)) | (refine Zati 27 ?_; first | refine Zes ?_ | (refine Zew rfl Zxpt ?_) | (refine Zew rfl Zxpf ?_)) | (refine Zes ?_) | (refine Zesp (fun hc => ?_) (fun hc => ?_) <;> (try (exfalso; omega))) | (with_reducible apply EWalk_nil)) | (refine AnyO_done (by kernel_rfl) ?_; (try with_reducible apply noP_normal); try with_reducible exact key.out) | (refine Zhn ?_) | (with_reducible apply QBlock_normal) | (refine Zhx ?_) | (with_reducible apply QBlock_hit) | (refine Zqb ?_) | (with_reducible apply QLoop_exit) | (refine Zhr ?_) | (with_reducible apply QBlock_ret) | (with_reducible apply QLoop_ret) | (refine AWalk_0 ?_; refine ZisO ?_) | (with_reducible apply QAny_normal))
          first
          | exact QLoop_normal (k + 1, o) (.cons rfl (.cons rfl .nil)) (by repeat (first | exact Off.frame rfl | exact Off.refl _ _ | refine Off.frameT rfl rfl ?_ | refine Off.upd rfl ?_ | refine Off.updO rfl ?_)) (by repeat (first | exact Wk.refl _ | apply Wk.keep1 | apply Wk.drop | apply Wk.sv | apply Wk.svD | apply Wk.appD)) ⟨by dsimp only; omega, h1.symm⟩ (by dsimp only; omega)
          | exact QLoop_normal (k + 1, some y) (.cons rfl (.cons rfl .nil)) (by repeat (first | exact Off.frame rfl | exact Off.refl _ _ | refine Off.frameT rfl rfl ?_ | refine Off.upd rfl ?_ | refine Off.updO rfl ?_)) (by repeat (first | exact Wk.refl _ | apply Wk.keep1 | apply Wk.drop | apply Wk.sv | apply Wk.svD | apply Wk.appD)) ⟨by dsimp only; omega, h1.symm⟩ (by dsimp only; omega)
          | exact QLoop_normal (k + 1, some c) (.cons rfl (.cons rfl .nil)) (by repeat (first | exact Off.frame rfl | exact Off.refl _ _ | refine Off.frameT rfl rfl ?_ | refine Off.upd rfl ?_ | refine Off.updO rfl ?_)) (by repeat (first | exact Wk.refl _ | apply Wk.keep1 | apply Wk.drop | apply Wk.sv | apply Wk.svD | apply Wk.appD)) ⟨by dsimp only; omega, h1.symm⟩ (by dsimp only; omega)
          | exact QLoop_normal (k + 1, some x1) (.cons rfl (.cons rfl .nil)) (by repeat (first | exact Off.frame rfl | exact Off.refl _ _ | refine Off.frameT rfl rfl ?_ | refine Off.upd rfl ?_ | refine Off.updO rfl ?_)) (by repeat (first | exact Wk.refl _ | apply Wk.keep1 | apply Wk.drop | apply Wk.sv | apply Wk.svD | apply Wk.appD)) ⟨by dsimp only; omega, h1.symm⟩ (by dsimp only; omega)
          | exact QLoop_normal (k + 1, some x2) (.cons rfl (.cons rfl .nil)) (by repeat (first | exact Off.frame rfl | exact Off.refl _ _ | refine Off.frameT rfl rfl ?_ | refine Off.upd rfl ?_ | refine Off.updO rfl ?_)) (by repeat (first | exact Wk.refl _ | apply Wk.keep1 | apply Wk.drop | apply Wk.sv | apply Wk.svD | apply Wk.appD)) ⟨by dsimp only; omega, h1.symm⟩ (by dsimp only; omega)
    · have hke : k = g.d.ways.length := by omega
      have hnx := lawO_nxt hv hl (stop := stop) (a := a)
      rw [hke] at ho
      rw [hnx] at ho
      have hcs := crsO_succ g.d stop lv a
      rw [← ho] at hcs
      repeat' (first | (refine GiP ?_; first | (refine Znh ?_) | (with_reducible refine Znl ?_)) | (refine GiW ?_; first | (refine Zsq fun K hK => ?_) | (refine ZrN 6 fun _ => ?_; refine Zv Zylss ?_) | (refine ZrN 15 fun _ => ?_; refine Zv Zmv ?_; refine Zv Zmi ?_; refine Zal 94 fun b94 => ?_; refine Zag (fun s95 hs95 => ?_); refine Zv Zav ?_) | (refine ZrN 16 fun _ => ?_; refine Zv Zxadd ?_; refine Zv Zmi ?_) | (refine WP_cond_true rfl ?_) | (refine WP_cond_false rfl ?_) | (refine Zcd (fun hc => ?_) (fun hc => ?_) <;> (try (exfalso; omega))) | (with_reducible apply WP_skip) | (with_reducible apply WP_block) | (with_reducible apply WP_exit) | (with_reducible apply WP_ret)) | (refine Zhn ?_) | (with_reducible apply QBlock_normal) | (refine Zhx ?_) | (with_reducible apply QBlock_hit) | (refine Zqb ?_) | (with_reducible apply QLoop_exit) | (refine Zhr ?_) | (with_reducible apply QBlock_ret) | (with_reducible apply QLoop_ret))
      have hnx2 : ints (crsO g.d stop lv a) ++ [[Value.int .i64 (codeO o)]].flatten = ints (crsO g.d stop lv (a + 1)) := by rw [hcs]; simp [ints]
      rw [hnx2] at hs95 ⊢
      exact QLoop_normal (a + 1, s95) (.cons rfl (.cons rfl .nil)) (by repeat (first | exact Off.frame rfl | exact Off.refl _ _ | refine Off.frameT rfl rfl ?_ | refine Off.upd rfl ?_ | refine Off.updO rfl ?_)) (by repeat (first | exact Wk.refl _ | apply Wk.keep1 | apply Wk.drop | apply Wk.sv | apply Wk.svD | apply Wk.appD)) ⟨by dsimp only; omega, hs95⟩ (by dsimp only; omega)
  · have hae : a = lv.length := by omega
    rw [hae, hl] at hs
    repeat' (first | (refine GiP ?_; first | (refine Znh ?_) | (with_reducible refine Znl ?_)) | (refine GiW ?_; first | (refine Zsq fun K hK => ?_) | (refine ZrN 2 fun _ => ?_; refine Zv Zxlss ?_) | (refine ZrN 17 fun _ => ?_; refine Zv Zmv ?_; refine Zv Zav ?_) | (refine WP_cond_true rfl ?_) | (refine WP_cond_false rfl ?_) | (refine Zcd (fun hc => ?_) (fun hc => ?_) <;> (try (exfalso; omega))) | (with_reducible apply WP_skip) | (with_reducible apply WP_block) | (with_reducible apply WP_exit) | (with_reducible apply WP_ret)) | (refine Zhn ?_) | (with_reducible apply QBlock_normal) | (refine Zhx ?_) | (with_reducible apply QBlock_hit) | (refine Zqb ?_) | (with_reducible apply QLoop_exit) | (refine Zhr ?_) | (with_reducible apply QBlock_ret) | (with_reducible apply QLoop_ret))
    exact QBody_ret1 rfl (rfl : _ = svV s a) ⟨svH 3 1 g.d.banks.length (ints (crsO g.d stop lv g.d.banks.length)) s L, by rw [hae, hl]; exact (by repeat (first | exact Wk.refl _ | apply Wk.keep1 | apply Wk.drop | apply Wk.sv | apply Wk.svD | apply Wk.appD)), _, rfl, s, by rw [hae, hl], hs, rfl⟩
end
end Go.Proofs.Ytbhgpnbfdjoglaa
end
