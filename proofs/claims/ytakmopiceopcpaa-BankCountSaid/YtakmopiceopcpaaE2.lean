/- What the bank laws share: marks that were laid anew, sets by bits. · The bank laws' owners: whose each perch is, by lines. -/
import Derived.Test.YtakmopiceopcpaaC2
section
namespace Go.Proofs.Ytakmopiceopcpaa
open Go.RowKit
section
variable {P : Program} {N : Nat} {w0 : World} {L : Hp} {e : Env} {d : Option Nat} {ty : TypeId} {pos : String} {af : Array Edge} {g : Option (Nat × Bool)}
end
theorem CountE_of {d : Bn} (v : VB d) : CountE d = 0 := by unfold CountE; rw [if_pos (vB_of v)]
theorem CountV_of {d : Bn} (v : VB d) : CountV d = (trL d).length := by unfold CountV; rw [if_pos (vB_of v)]
section
variable {P : Program} {r : Option Nat} {n N : Nat} {w0 : World} {Q : Post} {e : Env} {L : Hp} {ds : List Deferred}
end
end Go.Proofs.Ytakmopiceopcpaa
end

section
namespace Go.Proofs.Ytakmopiceopcpaa
open Go.RowKit
def i1 (l : List Int) : List (List Value) := l.map fun x => [Value.int .i64 x]
theorem ints_flat (l : List Int) : ints l = (i1 l).flatten := by
  induction l with
  | nil => rfl
  | cons a l ih => simp only [ints, i1, List.map_cons, List.flatten_cons] at ih ⊢; rw [ih]; rfl
/-- Numbers that can be read. -/
def RdI (N : Nat) (w0 : World) (L : Hp) (A : Option Addr) (l : List Int) : Prop := RdRows N w0 L A 1 (i1 l)
theorem RdI.row {N : Nat} {w0 : World} {L : Hp} {A : Option Addr} {l : List Int} (h : RdI N w0 L A l) (i : Nat) (hi : i < l.length) : ∃ b o, A = some ⟨b, o, none⟩ ∧ ∀ L', Wk L' L → Rd N w0 L' b (o + i) (.int .i64 l[i]) := by
  obtain ⟨b, o, h1, h2⟩ := RdRows.row h i hi
  refine ⟨b, o, h1, fun L' k => ?_⟩
  have := h2 0 (.int .i64 l[i]) rfl
  rw [Nat.mul_one, Nat.add_zero] at this
  exact this.wk k
theorem RdI.wkk {N : Nat} {w0 : World} {L L' : Hp} {A : Option Addr} {l : List Int} (h : RdI N w0 L A l) (k : Wk L' L) : RdI N w0 L' A l := RdRows.wk h k
def ownsL (b : Bn) (x : List Sp) (k : Nat) : List Int := (List.range k).map fun p : Nat => ownX b x p
theorem ownsL_snoc (b : Bn) (x : List Sp) (k : Nat) : ownsL b x (k + 1) = ownsL b x k ++ [ownX b x k] := by simp [ownsL, List.range_succ]
theorem own_snoc : ∀ {ls : List Le} {x : List Sp} {p o : Int} {k : Nat} (h1 : k < ls.length) (h2 : k < x.length), own (ls.take (k + 1)) (x.take (k + 1)) p o = if x[k].1 ≤ p ∧ p < x[k].2 then ls[k].h else own (ls.take k) (x.take k) p o
  | l :: ls, y :: x, p, o, 0, _, _ => by simp [own]
  | l :: ls, y :: x, p, o, k + 1, h1, h2 => by
    have := own_snoc (ls := ls) (x := x) (p := p) (o := if y.1 ≤ p ∧ p < y.2 then l.h else o) (k := k) (by simpa using h1) (by simpa using h2)
    simpa [own] using this
attribute [local irreducible] AnyO AnyB QAny QB EWalk AWalk Ev WP OPS QThen QBlock QScope QLoop QBody Val New Turn Tri Enters PostA Blk Ro
attribute [local irreducible] AnyC QC
section
variable (N : Nat) (w0 : World)
set_option maxHeartbeats 4000000 in
theorem owners_tri (L : Hp) (g : Fg) (hA : BkAt N w0 g) (hv : VB g.d) (x : List Sp) (hx : x.length = g.d.ls.length) (A1 A2 : Option Addr) (c1 c2 : Nat) (h1 : RdI N w0 L A1 (x.map (·.1))) (h2 : RdI N w0 L A2 (x.map (·.2))) (n : Nat) (hn : g.d.n = n) :
    Tri Try.prog N w0 L 40 [bkV g, .slice A1 x.length c1, .slice A2 x.length c2].toArray fun y L' => ∃ v, y = .returned v ∧ ∃ s, v = svV s n ∧ svOk s 1 n (ints (ownsL g.d x n)) ∧ L' = svH 3 1 n (ints (ownsL g.d x n)) s L := by
  have hnb := hv.n
  have hmb := hv.m
  have hnl := hv.nl
  refine Tri.fgt ?_
  refine tri_of_WP Try.func40 rfl (n := _) rfl (by simp) ?_
  unfold bkV bkL
  rw [hx, hn]
  repeat' (first | (refine GiP ?_; first | (refine Znh ?_) | (with_reducible refine Znl ?_)) | (refine GiW ?_; first | (refine Zsq fun K hK => ?_) | (refine ZrN 0 fun _ => ?_; refine Zal 3 fun b3 => ?_; refine Zv Zav ?_) | (refine ZrN 1 fun _ => ?_; refine Zv Zf0 ?_; refine Zv Zld ?_; refine Zv Zmi ?_) | (refine WP_cond_true rfl ?_) | (refine WP_cond_false rfl ?_) | (refine Zcd (fun hc => ?_) (fun hc => ?_) <;> (try (exfalso; omega))) | (with_reducible apply WP_skip) | (with_reducible apply WP_block) | (with_reducible apply WP_exit) | (with_reducible apply WP_ret)) | (refine Zhn ?_) | (with_reducible apply QBlock_normal) | (refine Zhx ?_) | (with_reducible apply QBlock_hit) | (refine Zqb ?_) | (with_reducible apply QLoop_exit) | (refine Zhr ?_) | (with_reducible apply QBlock_ret) | (with_reducible apply QLoop_ret))
  refine WP_loop [6, 7, 8, 9, 10, 13, 14, 15, 16, 17, 18, 19, 20, 21, 22, 23, 24, 25, 26, 27, 28, 29, 30, 31, 32, 33, 34, 35, 36, 37, 38, 39, 40, 41, 42, 43, 44, 45, 46, 47] (fun q : Nat × Option (Nat × Nat) => [(13, .int .i64 (q.1 : Int)), (6, svV q.2 q.1)]) (fun q => svH 3 1 q.1 (ints (ownsL g.d x q.1)) q.2 ((b3, Blk 25 [.int .i64 n, .int .i64 g.d.m, .slice g.A1 g.d.ls.length g.c1, .slice g.A2 g.d.ms.length g.c2]) :: L)) (fun q => q.1 ≤ n ∧ svOk q.2 1 q.1 (ints (ownsL g.d x q.1))) (fun q => n - q.1) (0, none) (.cons rfl (.cons rfl .nil)) (Wk.refl _) ⟨Nat.zero_le _, svOk_nil _⟩ ?_
  rintro ⟨p, s⟩ j ⟨hp, hs⟩
  dsimp only at hp hs ⊢
  by_cases hpn : p < n
  · repeat' (first | (refine GiP ?_; first | (refine Znh ?_) | (with_reducible refine Znl ?_)) | (refine GiW ?_; first | (refine Zsq fun K hK => ?_) | (refine ZrN 2 fun _ => ?_; refine Zv Zxlss ?_) | (refine ZrN 3 fun _ => ?_; refine Zv Zmi ?_; refine Zv Zai ?_) | (refine ZrN 4 fun _ => ?_; refine Zv Zfa ?_; refine Zv Zld ?_; refine Zv Zai ?_) | (refine ZrN 5 fun _ => ?_; refine Zv Zfa ?_; refine Zv Zld ?_; refine Zv Zxlen ?_; refine Zv Zmi ?_) | (refine WP_cond_true rfl ?_) | (refine WP_cond_false rfl ?_) | (refine Zcd (fun hc => ?_) (fun hc => ?_) <;> (try (exfalso; omega))) | (with_reducible apply WP_skip) | (with_reducible apply WP_block) | (with_reducible apply WP_exit) | (with_reducible apply WP_ret)) | (refine Zhn ?_) | (with_reducible apply QBlock_normal) | (refine Zhx ?_) | (with_reducible apply QBlock_hit) | (refine Zqb ?_) | (with_reducible apply QLoop_exit) | (refine Zhr ?_) | (with_reducible apply QBlock_ret) | (with_reducible apply QLoop_ret))
    refine WP_loop [8, 9, 10, 21, 22, 23, 24, 25, 26, 27, 28, 29, 30, 31, 32, 33, 34, 35, 36, 37, 38, 39, 40, 41, 42] (fun k : Nat => [(21, .int .i64 (k : Int)), (8, .int .i64 (own (g.d.ls.take k) (x.take k) p g.d.m))]) (fun _ => svH 3 1 p (ints (ownsL g.d x p)) s ((b3, Blk 25 [.int .i64 n, .int .i64 g.d.m, .slice g.A1 g.d.ls.length g.c1, .slice g.A2 g.d.ms.length g.c2]) :: L)) (fun k => k ≤ g.d.ls.length) (fun k => g.d.ls.length - k) 0 (.cons rfl (.cons rfl .nil)) (Wk.refl _) (Nat.zero_le _) ?_
    rintro k j2 hk
    by_cases hkl : k < g.d.ls.length
    · obtain ⟨bW, oW, hA2, hbW, hcW⟩ := hA.ls.row k hkl
      obtain ⟨bF, oF, hF, hrF⟩ := h1.row k (by simpa using (by omega : k < x.length))
      obtain ⟨bT, oT, hT, hrT⟩ := h2.row k (by simpa using (by omega : k < x.length))
      have hsn := own_snoc (ls := g.d.ls) (x := x) (p := (p : Int)) (o := g.d.m) hkl (by omega)
      simp only [List.getElem_map] at hrF hrT
      obtain ⟨t, ht⟩ : ∃ t, g.d.ls[k] = t := ⟨_, rfl⟩
      obtain ⟨f, hf⟩ : ∃ t, x[k]'(by omega) = t := ⟨_, rfl⟩
      rw [ht] at hcW
      simp only [hf] at hrF hrT
      simp only [ht, hf] at hsn
      obtain ⟨th, tf, tt⟩ := t
      obtain ⟨f1, f2⟩ := f
      unfold leL at hcW
      dsimp only at hcW hrF hrT hsn
      obtain ⟨o, ho⟩ : ∃ o, own (g.d.ls.take k) (x.take k) p g.d.m = o := ⟨_, rfl⟩
      rw [ho] at hsn ⊢
      by_cases hc : f1 ≤ p ∧ (p : Int) < f2
      · rw [if_pos hc] at hsn
        repeat' (first | (refine GiP ?_; first | (refine Znh ?_) | (with_reducible refine Znl ?_) | (refine Zatd 39 ?_; (first | (refine Zv Zxpt ?_) | (refine Zv Zxpf ?_))) | (refine Zatd 33 ?_; first | refine Zsk ?_ | (refine Zv Zmi ?_)) | (refine Zatd 34 ?_; first | refine Zsk ?_ | (refine Zv Zmv ?_)) | (refine Zatd 35 ?_; first | refine Zsk ?_ | (refine Zv Zmi ?_)) | (refine Zatd 36 ?_; first | refine Zsk ?_ | (refine Zv (Val_indexAddrE1 rfl hF rfl rfl hkl) ?_) | (refine Zv (Val_indexAddrE1 rfl hT rfl rfl hkl) ?_) | (refine Zv Zia ?_)) | (refine Zatd 37 ?_; first | refine Zsk ?_ | (refine Zv (Val_loadD1 rfl (hrF _ (by repeat (first | exact Wk.refl _ | apply Wk.keep1 | apply Wk.drop | apply Wk.sv | apply Wk.svD | apply Wk.appD)))) ?_) | (refine Zv (Val_loadD1 rfl (hrT _ (by repeat (first | exact Wk.refl _ | apply Wk.keep1 | apply Wk.drop | apply Wk.sv | apply Wk.svD | apply Wk.appD)))) ?_) | (refine Zv Zld ?_)) | (refine Zatd 38 ?_; first | refine Zsk ?_ | (refine Zv Zylss ?_)) | (refine Zsk ?_) | (refine Zsp (fun hc => ?_) (fun hc => ?_) <;> (try (exfalso; omega)))) | (refine GiW ?_; first | (refine Zsq fun K hK => ?_) | (refine ZrN 6 fun _ => ?_; refine Zv Zylss ?_) | (refine ZrN 7 fun _ => ?_; refine Zv Zmi ?_; (first | (refine Zv (Val_indexAddrE1 rfl hF rfl rfl hkl) ?_) | (refine Zv (Val_indexAddrE1 rfl hT rfl rfl hkl) ?_) | (refine Zv Zia ?_)); (first | (refine Zv (Val_loadD1 rfl (hrF _ (by repeat (first | exact Wk.refl _ | apply Wk.keep1 | apply Wk.drop | apply Wk.sv | apply Wk.svD | apply Wk.appD)))) ?_) | (refine Zv (Val_loadD1 rfl (hrT _ (by repeat (first | exact Wk.refl _ | apply Wk.keep1 | apply Wk.drop | apply Wk.sv | apply Wk.svD | apply Wk.appD)))) ?_) | (refine Zv Zla ?_)); refine Zal 10 fun b10 => ?_; refine Zv Zai ?_; refine Zst ?_) | (refine ZrG 8 ?_; refine Zv Zmv ?_; refine Zv Zmi ?_; (first | (refine Zv (Val_indexAddrE1 rfl hF rfl rfl hkl) ?_) | (refine Zv (Val_indexAddrE1 rfl hT rfl rfl hkl) ?_) | (refine Zv Zia ?_)); (first | (refine Zv (Val_loadD1 rfl (hrF _ (by repeat (first | exact Wk.refl _ | apply Wk.keep1 | apply Wk.drop | apply Wk.sv | apply Wk.svD | apply Wk.appD)))) ?_) | (refine Zv (Val_loadD1 rfl (hrT _ (by repeat (first | exact Wk.refl _ | apply Wk.keep1 | apply Wk.drop | apply Wk.sv | apply Wk.svD | apply Wk.appD)))) ?_) | (refine Zv Zld ?_)); refine Zv Zmi ?_; refine Zv Zyleq ?_; refine Zv Zmb ?_) | (refine ZrN 9 fun _ => ?_; refine Zv Zf0 ?_; (first | (refine Zv (Val_loadD1 rfl (hrF _ (by repeat (first | exact Wk.refl _ | apply Wk.keep1 | apply Wk.drop | apply Wk.sv | apply Wk.svD | apply Wk.appD)))) ?_) | (refine Zv (Val_loadD1 rfl (hrT _ (by repeat (first | exact Wk.refl _ | apply Wk.keep1 | apply Wk.drop | apply Wk.sv | apply Wk.svD | apply Wk.appD)))) ?_) | (refine Zv Zld ?_)); refine Zv Zai ?_) | (refine ZrN 10 fun _ => ?_; refine Zv Zxadd ?_; refine Zv Zmi ?_) | (refine WP_cond_true rfl ?_) | (refine WP_cond_false rfl ?_) | (refine Zcd (fun hc => ?_) (fun hc => ?_) <;> (try (exfalso; omega))) | (with_reducible apply WP_skip) | (with_reducible apply WP_block) | (with_reducible apply WP_exit) | (with_reducible apply WP_ret)) | (refine Zhn ?_) | (with_reducible apply QBlock_normal) | (refine Zhx ?_) | (with_reducible apply QBlock_hit) | (refine Zqb ?_) | (with_reducible apply QLoop_exit) | (refine Zhr ?_) | (with_reducible apply QBlock_ret) | (with_reducible apply QLoop_ret))
        exact QLoop_normal (k + 1) (.cons rfl (.cons (congrArg (Value.int .i64) hsn.symm) .nil)) (by repeat (first | exact Off.frame rfl | exact Off.refl _ _ | refine Off.frameT rfl rfl ?_ | refine Off.upd rfl ?_ | refine Off.updO rfl ?_)) (by repeat (first | exact Wk.refl _ | apply Wk.keep1 | apply Wk.drop | apply Wk.sv | apply Wk.svD | apply Wk.appD)) (by omega) (by omega)
      · rw [if_neg hc] at hsn
        have hc2 : f1 ≤ (p : Int) → f2 ≤ (p : Int) := by omega
        by_cases hc1 : f1 ≤ (p : Int)
        · have hc3 := hc2 hc1
          repeat' (first | (refine GiP ?_; first | (refine Znh ?_) | (with_reducible refine Znl ?_) | (refine Zatd 39 ?_; (first | (refine Zv Zxpt ?_) | (refine Zv Zxpf ?_))) | (refine Zatd 33 ?_; first | refine Zsk ?_ | (refine Zv Zmi ?_)) | (refine Zatd 34 ?_; first | refine Zsk ?_ | (refine Zv Zmv ?_)) | (refine Zatd 35 ?_; first | refine Zsk ?_ | (refine Zv Zmi ?_)) | (refine Zatd 36 ?_; first | refine Zsk ?_ | (refine Zv (Val_indexAddrE1 rfl hF rfl rfl hkl) ?_) | (refine Zv (Val_indexAddrE1 rfl hT rfl rfl hkl) ?_) | (refine Zv Zia ?_)) | (refine Zatd 37 ?_; first | refine Zsk ?_ | (refine Zv (Val_loadD1 rfl (hrF _ (by repeat (first | exact Wk.refl _ | apply Wk.keep1 | apply Wk.drop | apply Wk.sv | apply Wk.svD | apply Wk.appD)))) ?_) | (refine Zv (Val_loadD1 rfl (hrT _ (by repeat (first | exact Wk.refl _ | apply Wk.keep1 | apply Wk.drop | apply Wk.sv | apply Wk.svD | apply Wk.appD)))) ?_) | (refine Zv Zld ?_)) | (refine Zatd 38 ?_; first | refine Zsk ?_ | (refine Zv Zylss ?_)) | (refine Zsk ?_) | (refine Zsp (fun hc => ?_) (fun hc => ?_) <;> (try (exfalso; omega)))) | (refine GiW ?_; first | (refine Zsq fun K hK => ?_) | (refine ZrN 6 fun _ => ?_; refine Zv Zylss ?_) | (refine ZrN 7 fun _ => ?_; refine Zv Zmi ?_; (first | (refine Zv (Val_indexAddrE1 rfl hF rfl rfl hkl) ?_) | (refine Zv (Val_indexAddrE1 rfl hT rfl rfl hkl) ?_) | (refine Zv Zia ?_)); (first | (refine Zv (Val_loadD1 rfl (hrF _ (by repeat (first | exact Wk.refl _ | apply Wk.keep1 | apply Wk.drop | apply Wk.sv | apply Wk.svD | apply Wk.appD)))) ?_) | (refine Zv (Val_loadD1 rfl (hrT _ (by repeat (first | exact Wk.refl _ | apply Wk.keep1 | apply Wk.drop | apply Wk.sv | apply Wk.svD | apply Wk.appD)))) ?_) | (refine Zv Zla ?_)); refine Zal 10 fun b10 => ?_; refine Zv Zai ?_; refine Zst ?_) | (refine ZrG 8 ?_; refine Zv Zmv ?_; refine Zv Zmi ?_; (first | (refine Zv (Val_indexAddrE1 rfl hF rfl rfl hkl) ?_) | (refine Zv (Val_indexAddrE1 rfl hT rfl rfl hkl) ?_) | (refine Zv Zia ?_)); (first | (refine Zv (Val_loadD1 rfl (hrF _ (by repeat (first | exact Wk.refl _ | apply Wk.keep1 | apply Wk.drop | apply Wk.sv | apply Wk.svD | apply Wk.appD)))) ?_) | (refine Zv (Val_loadD1 rfl (hrT _ (by repeat (first | exact Wk.refl _ | apply Wk.keep1 | apply Wk.drop | apply Wk.sv | apply Wk.svD | apply Wk.appD)))) ?_) | (refine Zv Zld ?_)); refine Zv Zmi ?_; refine Zv Zyleq ?_; refine Zv Zmb ?_) | (refine ZrN 9 fun _ => ?_; refine Zv Zf0 ?_; (first | (refine Zv (Val_loadD1 rfl (hrF _ (by repeat (first | exact Wk.refl _ | apply Wk.keep1 | apply Wk.drop | apply Wk.sv | apply Wk.svD | apply Wk.appD)))) ?_) | (refine Zv (Val_loadD1 rfl (hrT _ (by repeat (first | exact Wk.refl _ | apply Wk.keep1 | apply Wk.drop | apply Wk.sv | apply Wk.svD | apply Wk.appD)))) ?_) | (refine Zv Zld ?_)); refine Zv Zai ?_) | (refine ZrN 10 fun _ => ?_; refine Zv Zxadd ?_; refine Zv Zmi ?_) | (refine WP_cond_true rfl ?_) | (refine WP_cond_false rfl ?_) | (refine Zcd (fun hc => ?_) (fun hc => ?_) <;> (try (exfalso; omega))) | (with_reducible apply WP_skip) | (with_reducible apply WP_block) | (with_reducible apply WP_exit) | (with_reducible apply WP_ret)) | (refine Zhn ?_) | (with_reducible apply QBlock_normal) | (refine Zhx ?_) | (with_reducible apply QBlock_hit) | (refine Zqb ?_) | (with_reducible apply QLoop_exit) | (refine Zhr ?_) | (with_reducible apply QBlock_ret) | (with_reducible apply QLoop_ret))
          exact QLoop_normal (k + 1) (.cons rfl (.cons (congrArg (Value.int .i64) hsn.symm) .nil)) (by repeat (first | exact Off.frame rfl | exact Off.refl _ _ | refine Off.frameT rfl rfl ?_ | refine Off.upd rfl ?_ | refine Off.updO rfl ?_)) (by repeat (first | exact Wk.refl _ | apply Wk.keep1 | apply Wk.drop | apply Wk.sv | apply Wk.svD | apply Wk.appD)) (by omega) (by omega)
        · repeat' (first | (refine GiP ?_; first | (refine Znh ?_) | (with_reducible refine Znl ?_) | (refine Zatd 39 ?_; (first | (refine Zv Zxpt ?_) | (refine Zv Zxpf ?_))) | (refine Zatd 33 ?_; first | refine Zsk ?_ | (refine Zv Zmi ?_)) | (refine Zatd 34 ?_; first | refine Zsk ?_ | (refine Zv Zmv ?_)) | (refine Zatd 35 ?_; first | refine Zsk ?_ | (refine Zv Zmi ?_)) | (refine Zatd 36 ?_; first | refine Zsk ?_ | (refine Zv (Val_indexAddrE1 rfl hF rfl rfl hkl) ?_) | (refine Zv (Val_indexAddrE1 rfl hT rfl rfl hkl) ?_) | (refine Zv Zia ?_)) | (refine Zatd 37 ?_; first | refine Zsk ?_ | (refine Zv (Val_loadD1 rfl (hrF _ (by repeat (first | exact Wk.refl _ | apply Wk.keep1 | apply Wk.drop | apply Wk.sv | apply Wk.svD | apply Wk.appD)))) ?_) | (refine Zv (Val_loadD1 rfl (hrT _ (by repeat (first | exact Wk.refl _ | apply Wk.keep1 | apply Wk.drop | apply Wk.sv | apply Wk.svD | apply Wk.appD)))) ?_) | (refine Zv Zld ?_)) | (refine Zatd 38 ?_; first | refine Zsk ?_ | (refine Zv Zylss ?_)) | (refine Zsk ?_) | (refine Zsp (fun hc => ?_) (fun hc => ?_) <;> (try (exfalso; omega)))) | (refine GiW ?_; first | (refine Zsq fun K hK => ?_) | (refine ZrN 6 fun _ => ?_; refine Zv Zylss ?_) | (refine ZrN 7 fun _ => ?_; refine Zv Zmi ?_; (first | (refine Zv (Val_indexAddrE1 rfl hF rfl rfl hkl) ?_) | (refine Zv (Val_indexAddrE1 rfl hT rfl rfl hkl) ?_) | (refine Zv Zia ?_)); (first | (refine Zv (Val_loadD1 rfl (hrF _ (by repeat (first | exact Wk.refl _ | apply Wk.keep1 | apply Wk.drop | apply Wk.sv | apply Wk.svD | apply Wk.appD)))) ?_) | (refine Zv (Val_loadD1 rfl (hrT _ (by repeat (first | exact Wk.refl _ | apply Wk.keep1 | apply Wk.drop | apply Wk.sv | apply Wk.svD | apply Wk.appD)))) ?_) | (refine Zv Zla ?_)); refine Zal 10 fun b10 => ?_; refine Zv Zai ?_; refine Zst ?_) | (refine ZrG 8 ?_; refine Zv Zmv ?_; refine Zv Zmi ?_; (first | (refine Zv (Val_indexAddrE1 rfl hF rfl rfl hkl) ?_) | (refine Zv (Val_indexAddrE1 rfl hT rfl rfl hkl) ?_) | (refine Zv Zia ?_)); (first | (refine Zv (Val_loadD1 rfl (hrF _ (by repeat (first | exact Wk.refl _ | apply Wk.keep1 | apply Wk.drop | apply Wk.sv | apply Wk.svD | apply Wk.appD)))) ?_) | (refine Zv (Val_loadD1 rfl (hrT _ (by repeat (first | exact Wk.refl _ | apply Wk.keep1 | apply Wk.drop | apply Wk.sv | apply Wk.svD | apply Wk.appD)))) ?_) | (refine Zv Zld ?_)); refine Zv Zmi ?_; refine Zv Zyleq ?_; refine Zv Zmb ?_) | (refine ZrN 9 fun _ => ?_; refine Zv Zf0 ?_; (first | (refine Zv (Val_loadD1 rfl (hrF _ (by repeat (first | exact Wk.refl _ | apply Wk.keep1 | apply Wk.drop | apply Wk.sv | apply Wk.svD | apply Wk.appD)))) ?_) | (refine Zv (Val_loadD1 rfl (hrT _ (by repeat (first | exact Wk.refl _ | apply Wk.keep1 | apply Wk.drop | apply Wk.sv | apply Wk.svD | apply Wk.appD)))) ?_) | (refine Zv Zld ?_)); refine Zv Zai ?_) | (refine ZrN 10 fun _ => ?_; refine Zv Zxadd ?_; refine Zv Zmi ?_) | (refine WP_cond_true rfl ?_) | (refine WP_cond_false rfl ?_) | (refine Zcd (fun hc => ?_) (fun hc => ?_) <;> (try (exfalso; omega))) | (with_reducible apply WP_skip) | (with_reducible apply WP_block) | (with_reducible apply WP_exit) | (with_reducible apply WP_ret)) | (refine Zhn ?_) | (with_reducible apply QBlock_normal) | (refine Zhx ?_) | (with_reducible apply QBlock_hit) | (refine Zqb ?_) | (with_reducible apply QLoop_exit) | (refine Zhr ?_) | (with_reducible apply QBlock_ret) | (with_reducible apply QLoop_ret))
          exact QLoop_normal (k + 1) (.cons rfl (.cons (congrArg (Value.int .i64) hsn.symm) .nil)) (by repeat (first | exact Off.frame rfl | exact Off.refl _ _ | refine Off.frameT rfl rfl ?_ | refine Off.upd rfl ?_ | refine Off.updO rfl ?_)) (by repeat (first | exact Wk.refl _ | apply Wk.keep1 | apply Wk.drop | apply Wk.sv | apply Wk.svD | apply Wk.appD)) (by omega) (by omega)
    · have hke : k = g.d.ls.length := by omega
      subst hke
      have hown : own (g.d.ls.take g.d.ls.length) (x.take g.d.ls.length) p g.d.m = ownX g.d x p := by rw [List.take_length, ← hx, List.take_length]; rfl
      rw [hown]
      have hnx := ownsL_snoc g.d x p
      have hnext : ints (ownsL g.d x (p + 1)) = ints (ownsL g.d x p) ++ [.int .i64 (ownX g.d x p)] := by rw [hnx]; simp [ints]
      obtain ⟨o, ho⟩ : ∃ o, ownX g.d x p = o := ⟨_, rfl⟩
      rw [ho] at hnext ⊢
      repeat' (first | (refine GiP ?_; first | (refine Znh ?_) | (with_reducible refine Znl ?_)) | (refine GiW ?_; first | (refine Zsq fun K hK => ?_) | (refine ZrN 6 fun _ => ?_; refine Zv Zylss ?_) | (refine ZrN 11 fun _ => ?_; refine Zv Zmv ?_; refine Zv Zmi ?_; refine Zal 45 fun b45 => ?_; refine Zag (fun s46 hs46 => ?_); refine Zv Zav ?_) | (refine ZrN 12 fun _ => ?_; refine Zv Zxadd ?_; refine Zv Zmi ?_) | (refine WP_cond_true rfl ?_) | (refine WP_cond_false rfl ?_) | (refine Zcd (fun hc => ?_) (fun hc => ?_) <;> (try (exfalso; omega))) | (with_reducible apply WP_skip) | (with_reducible apply WP_block) | (with_reducible apply WP_exit) | (with_reducible apply WP_ret)) | (refine Zhn ?_) | (with_reducible apply QBlock_normal) | (refine Zhx ?_) | (with_reducible apply QBlock_hit) | (refine Zqb ?_) | (with_reducible apply QLoop_exit) | (refine Zhr ?_) | (with_reducible apply QBlock_ret) | (with_reducible apply QLoop_ret))
      refine QLoop_normal (p + 1, s46) (.cons rfl (.cons rfl .nil)) (by repeat (first | exact Off.frame rfl | exact Off.refl _ _ | refine Off.frameT rfl rfl ?_ | refine Off.upd rfl ?_ | refine Off.updO rfl ?_)) ?_ ⟨by dsimp only; omega, by dsimp only; rw [hnext]; exact hs46⟩ (by dsimp only; omega)
      dsimp only
      rw [hnext]
      exact (by repeat (first | exact Wk.refl _ | apply Wk.keep1 | apply Wk.drop | apply Wk.sv | apply Wk.svD | apply Wk.appD))
  · have hpe : p = n := by omega
    subst hpe
    repeat' (first | (refine GiP ?_; first | (refine Znh ?_) | (with_reducible refine Znl ?_)) | (refine GiW ?_; first | (refine Zsq fun K hK => ?_) | (refine ZrN 2 fun _ => ?_; refine Zv Zylss ?_) | (refine ZrN 13 fun _ => ?_; refine Zv Zmv ?_; refine Zv Zav ?_) | (refine WP_cond_true rfl ?_) | (refine WP_cond_false rfl ?_) | (refine Zcd (fun hc => ?_) (fun hc => ?_) <;> (try (exfalso; omega))) | (with_reducible apply WP_skip) | (with_reducible apply WP_block) | (with_reducible apply WP_exit) | (with_reducible apply WP_ret)) | (refine Zhn ?_) | (with_reducible apply QBlock_normal) | (refine Zhx ?_) | (with_reducible apply QBlock_hit) | (refine Zqb ?_) | (with_reducible apply QLoop_exit) | (refine Zhr ?_) | (with_reducible apply QBlock_ret) | (with_reducible apply QLoop_ret))
    refine QBody_ret1 rfl rfl ?_
    exact ⟨_, (by repeat (first | exact Wk.refl _ | apply Wk.keep1 | apply Wk.drop | apply Wk.sv | apply Wk.svD | apply Wk.appD)), _, rfl, s, rfl, hs, rfl⟩
end
end Go.Proofs.Ytakmopiceopcpaa
end
