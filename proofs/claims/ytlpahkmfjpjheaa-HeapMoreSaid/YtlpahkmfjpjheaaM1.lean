/- The walk of this claim's functions over an explicit list of the blocks that a call owns: the judgements and their rules, for every program. · The rules of single operations. · The rules of the operations' kinds. · The rules of memory. · Aggregates, slices, calls. · Panics, methods of interface values, slices of slices, appends. · Regions whose order of evaluation is left open: operations that only evaluate come in any order (E), new blocks (A), and what writes, in every order that is left (S). · Function values that may be a round's yield, and loops over functions. · Regions whose order of evaluation is left open: evaluations that may come up behind what writes, since what they read is not written. · How a function leaves that has deferred calls, or marks of loops over functions. -/
import Derived.WalkKit
import Derived.WalkLawsBesides
import Derived.WalkSpells
import Derived.RangeFuncLeaves
import Derived.OrdersIn
import Derived.DefersIn
import Derived.RecoverIn
import Derived.Maps.AppendAt
import Derived.RangeFuncSeq
section
namespace Go.Proofs.Ytlpahkmfjpjheaa
open Go.RowKit

/-! ## Frames as functions -/
abbrev Env := Nat → Value
def envOf (a : Act) : Env := fun t => a.tmps.getD t undef
def upd (e : Env) (d : Nat) (v : Value) : Env := fun t => bif Nat.beq t d then v else e t
def updO (e : Env) (d : Option Nat) (v : Value) : Env := match d with | some d => upd e d v | none => e
def ev (e : Env) : Operand → Value
  | .tmp t => e t
  | .const v => v
  | .global g => .pointer (some ⟨g, 0, none⟩)
  | .func f => .func (.func f) #[] #[]

theorem eval_eq (a : Act) : a.eval = ev (envOf a) := by funext x; cases x <;> rfl

def dstOk (n : Nat) : Option Nat → Bool
  | some d => Nat.blt d n
  | none => true

theorem envOf_put {a : Act} {n : Nat} {d : Option Nat} {v : Value} (hs : a.tmps.size = n) (hd : dstOk n d = true) : envOf (a.put d v) = updO (envOf a) d v := by
  cases d with
  | none => rfl
  | some d =>
    funext t
    have hd' : d < a.tmps.size := by rw [hs]; simpa [dstOk, Nat.blt_eq] using hd
    simp only [envOf, Act.put, updO, upd]
    by_cases h : t = d
    · subst h
      simp [hd']
    · have : Nat.beq t d = false := by
        cases hb : Nat.beq t d
        · rfl
        · exact absurd (Nat.eq_of_beq_eq_true hb) h
      rw [this]
      simp [Ne.symm h]

theorem size_put {a : Act} {d : Option Nat} {v : Value} : (a.put d v).tmps.size = a.tmps.size := by cases d <;> simp [Act.put]
theorem defers_put {a : Act} {d : Option Nat} {v : Value} : (a.put d v).defers = a.defers := by cases d <;> rfl

/-! ## What a call owns -/
abbrev Hp := List (Nat × (Obj → Prop))
def Is (o : Obj) : Obj → Prop := fun o' => o' = o

structure Inv (N : Nat) (w0 : World) (L : Hp) (w : World) : Prop where
  below : Below N w0 w
  big : N ≤ w.heap.size
  dis : L.Pairwise (fun x y => x.1 ≠ y.1)
  own : ∀ x ∈ L, N ≤ x.1 ∧ ∃ o, w.heap[x.1]? = some o ∧ x.2 o

theorem Inv.lt {N : Nat} {w0 w : World} {L : Hp} (h : Inv N w0 L w) {x : Nat × (Obj → Prop)} (hx : x ∈ L) : x.1 < w.heap.size := by
  obtain ⟨_, o, ho, _⟩ := h.own x hx
  exact (Array.getElem?_eq_some_iff.1 ho).1

/-- What is known of less. -/
inductive Wk : Hp → Hp → Prop
  | nil : Wk [] []
  | keep {L L' : Hp} {b : Nat} {φ φ' : Obj → Prop} (h : ∀ o, φ o → φ' o) (t : Wk L L') : Wk ((b, φ) :: L) ((b, φ') :: L')
  | drop {L L' : Hp} {x : Nat × (Obj → Prop)} (t : Wk L L') : Wk (x :: L) L'

theorem Wk.refl : ∀ L : Hp, Wk L L
  | [] => .nil
  | (_, _) :: L => .keep (fun _ h => h) (Wk.refl L)
theorem Wk.keep1 {L L' : Hp} {x : Nat × (Obj → Prop)} (t : Wk L L') : Wk (x :: L) (x :: L') := by
  obtain ⟨b, φ⟩ := x
  exact .keep (fun _ h => h) t
theorem Wk.app (X L : Hp) : Wk (X ++ L) L := by
  induction X with
  | nil => exact .refl L
  | cons x X ih => exact .drop ih
theorem Wk.mem {L L' : Hp} (h : Wk L L') : ∀ y ∈ L', ∃ x ∈ L, x.1 = y.1 ∧ ∀ o, x.2 o → y.2 o := by
  induction h with
  | nil => intro y hy; cases hy
  | keep h t ih =>
    intro y hy
    rcases List.mem_cons.1 hy with rfl | hy
    · exact ⟨_, List.mem_cons_self, rfl, h⟩
    · obtain ⟨x, hx, h1⟩ := ih y hy
      exact ⟨x, List.mem_cons_of_mem _ hx, h1⟩
  | drop t ih =>
    intro y hy
    obtain ⟨x, hx, h1⟩ := ih y hy
    exact ⟨x, List.mem_cons_of_mem _ hx, h1⟩
theorem Wk.dis {L L' : Hp} (h : Wk L L') : L.Pairwise (fun x y => x.1 ≠ y.1) → L'.Pairwise (fun x y => x.1 ≠ y.1) := by
  induction h with
  | nil => exact fun h => h
  | keep h t ih =>
    intro hp
    rw [List.pairwise_cons] at hp ⊢
    refine ⟨fun y hy => ?_, ih hp.2⟩
    obtain ⟨x, hx, hk, _⟩ := t.mem y hy
    rw [← hk]
    exact hp.1 x hx
  | drop t ih =>
    intro hp
    rw [List.pairwise_cons] at hp
    exact ih hp.2
theorem Wk.trans {A B : Hp} (h : Wk A B) : ∀ {C : Hp}, Wk B C → Wk A C := by
  induction h with
  | nil => exact fun k => k
  | keep h t ih =>
    intro C k
    cases k with
    | keep h' t' => exact .keep (fun o ho => h' o (h o ho)) (ih t')
    | drop t' => exact .drop (ih t')
  | drop t ih => exact fun k => .drop (ih k)

theorem Inv.wk {N : Nat} {w0 w : World} {L L' : Hp} (h : Inv N w0 L w) (k : Wk L L') : Inv N w0 L' w :=
  ⟨h.below, h.big, k.dis h.dis, fun y hy => by
    obtain ⟨x, hx, hk, hf⟩ := k.mem y hy
    obtain ⟨h1, o, ho, hφ⟩ := h.own x hx
    exact ⟨hk ▸ h1, o, hk ▸ ho, hf o hφ⟩⟩

theorem Inv.perm {N : Nat} {w0 w : World} {L L' : Hp} (h : Inv N w0 L w) (k : L.Perm L') : Inv N w0 L' w :=
  ⟨h.below, h.big, k.pairwise h.dis (fun hab => Ne.symm hab), fun y hy => h.own y (k.mem_iff.2 hy)⟩

theorem Inv.drew {N : Nat} {w0 w : World} {L : Hp} (h : Inv N w0 L w) : Inv N w0 L { w with drawn := w.drawn + 1 } :=
  ⟨⟨h.below.os, h.below.tape, h.below.output, h.below.size, h.below.block⟩, h.big, h.dis, h.own⟩

theorem Inv.alloc {N : Nat} {w0 w : World} {L : Hp} (h : Inv N w0 L w) {o : Obj} {φ : Obj → Prop} (hφ : φ o) : Inv N w0 ((w.heap.size, φ) :: L) (w.alloc o) := by
  refine ⟨h.below.alloc h.big o, by simp; exact Nat.le_succ_of_le h.big, ?_, ?_⟩
  · rw [List.pairwise_cons]
    exact ⟨fun y hy => by have := h.lt hy; simp only [ne_eq]; omega, h.dis⟩
  · intro x hx
    rcases List.mem_cons.1 hx with rfl | hx
    · exact ⟨h.big, o, heap_alloc_new w o, hφ⟩
    · obtain ⟨h1, o', ho', hφ'⟩ := h.own x hx
      exact ⟨h1, o', (Below.heap_alloc w o _ (h.lt hx)).trans ho', hφ'⟩

/-- Membership, and the turn of one block. -/
inductive Mem : Nat → (Obj → Prop) → Hp → Prop
  | here {b : Nat} {φ : Obj → Prop} {L : Hp} : Mem b φ ((b, φ) :: L)
  | there {b : Nat} {φ : Obj → Prop} {x : Nat × (Obj → Prop)} {L : Hp} (h : Mem b φ L) : Mem b φ (x :: L)
theorem Mem.mem {b : Nat} {φ : Obj → Prop} {L : Hp} (h : Mem b φ L) : (b, φ) ∈ L := by
  induction h with
  | here => exact List.mem_cons_self
  | there _ ih => exact List.mem_cons_of_mem _ ih
theorem Mem.of {b : Nat} {φ : Obj → Prop} {L : Hp} (h : (b, φ) ∈ L) : Mem b φ L := by
  induction L with
  | nil => cases h
  | cons x L ih =>
    rcases List.mem_cons.1 h with rfl | h
    · exact .here
    · exact .there (ih h)
theorem Mem.app {b : Nat} {φ : Obj → Prop} {L : Hp} (X : Hp) (h : Mem b φ L) : Mem b φ (X ++ L) := .of (List.mem_append_right _ h.mem)

theorem Inv.obj {N : Nat} {w0 w : World} {L : Hp} (h : Inv N w0 L w) {b : Nat} {o : Obj} (hm : Mem b (Is o) L) : w.heap[b]? = some o := by
  obtain ⟨_, o', ho, hφ⟩ := h.own _ hm.mem
  rw [ho, hφ]
theorem Inv.obj' {N : Nat} {w0 w : World} {L : Hp} (h : Inv N w0 L w) {b : Nat} {φ : Obj → Prop} (hm : Mem b φ L) : ∃ o, w.heap[b]? = some o ∧ φ o := (h.own _ hm.mem).2
theorem Inv.cell {N : Nat} {w0 w : World} {L : Hp} (h : Inv N w0 L w) {b : Nat} {cs : Array Value} {T : TypeId} (hm : Mem b (Is (.cells cs T (0, 0))) L) (i : Nat) :
    w.cell? ⟨b, i, none⟩ = cs[i]? := cell_of_row w b i cs T (0, 0) (h.obj hm)
theorem Inv.cellRo {N : Nat} {w0 w : World} {L : Hp} (h : Inv N w0 L w) {b i : Nat} {v : Value} (hb : b < N) (hc : w0.cell? ⟨b, i, none⟩ = some v) :
    w.cell? ⟨b, i, none⟩ = some v := (h.below.cell (p := ⟨b, i, none⟩) hb).trans hc

inductive Up : Hp → Nat → (Obj → Prop) → (Obj → Prop) → Hp → Prop
  | here {b : Nat} {φ φ' : Obj → Prop} {L : Hp} : Up ((b, φ) :: L) b φ φ' ((b, φ') :: L)
  | there {b : Nat} {φ φ' : Obj → Prop} {x : Nat × (Obj → Prop)} {L L' : Hp} (h : Up L b φ φ' L') : Up (x :: L) b φ φ' (x :: L')
theorem Up.mem {b : Nat} {φ φ' : Obj → Prop} {L L' : Hp} (h : Up L b φ φ' L') : Mem b φ L := by
  induction h with
  | here => exact .here
  | there _ ih => exact .there ih
theorem Up.keys {b : Nat} {φ φ' : Obj → Prop} {L L' : Hp} (h : Up L b φ φ' L') : L'.map (·.1) = L.map (·.1) := by
  induction h with
  | here => rfl
  | there _ ih => simp [ih]
theorem Up.all {b : Nat} {φ φ' : Obj → Prop} {L L' : Hp} (h : Up L b φ φ' L') : ∀ y ∈ L', y = (b, φ') ∨ (y ∈ L) := by
  induction h with
  | here => intro y hy; rcases List.mem_cons.1 hy with rfl | hy; exact .inl rfl; exact .inr (List.mem_cons_of_mem _ hy)
  | there _ ih =>
    intro y hy
    rcases List.mem_cons.1 hy with rfl | hy
    · exact .inr List.mem_cons_self
    · rcases ih y hy with h | h
      · exact .inl h
      · exact .inr (List.mem_cons_of_mem _ h)
theorem Up.uniq {b : Nat} {φ φ' : Obj → Prop} {L L' : Hp} (h : Up L b φ φ' L') (hd : L.Pairwise (fun x y => x.1 ≠ y.1)) : ∀ y ∈ L', y.1 = b → y = (b, φ') := by
  induction h with
  | here =>
    rw [List.pairwise_cons] at hd
    intro y hy hb
    rcases List.mem_cons.1 hy with rfl | hy
    · rfl
    · exact absurd hb.symm (hd.1 y hy)
  | there hu ih =>
    rw [List.pairwise_cons] at hd
    intro y hy hb
    rcases List.mem_cons.1 hy with rfl | hy
    · exact absurd hb (hd.1 _ hu.mem.mem)
    · exact ih hd.2 y hy hb

/-- One block turns; the rest lies as it lay. -/
theorem Inv.turn {N : Nat} {w0 w w' : World} {L L' : Hp} {b : Nat} {φ φ' : Obj → Prop} (h : Inv N w0 L w) (hu : Up L b φ φ' L')
    (ho : w'.os = w.os) (ht : w'.tape = w.tape) (hp : w'.output = w.output) (hs : w.heap.size ≤ w'.heap.size)
    (hk : ∀ k, k < w.heap.size → k ≠ b → w'.heap[k]? = w.heap[k]?) (hn : ∃ o, w'.heap[b]? = some o ∧ φ' o) : Inv N w0 L' w' := by
  have hb := (h.own _ hu.mem.mem).1
  have hlt := h.lt hu.mem.mem
  refine ⟨⟨ho.trans h.below.os, ht.trans h.below.tape, hp.trans h.below.output, Nat.le_trans h.below.size hs, fun k hk' => ?_⟩, Nat.le_trans h.big hs, ?_, ?_⟩
  · rw [hk k (Nat.lt_of_lt_of_le hk' h.big) (by simp at hb; omega)]
    exact h.below.block k hk'
  · have := h.dis
    have e := hu.keys
    have this' : (L.map (fun x => x.1)).Pairwise (fun x y : Nat => x ≠ y) := List.pairwise_map.2 this
    rw [← e] at this'
    exact List.pairwise_map.1 this'
  · intro y hy
    by_cases e : y.1 = b
    · have := hu.uniq h.dis y hy e
      subst this
      exact ⟨hb, hn⟩
    · rcases hu.all y hy with rfl | hy'
      · exact absurd rfl e
      · obtain ⟨h1, o, ho', hφ⟩ := h.own y hy'
        exact ⟨h1, o, (hk _ (h.lt hy') e).trans ho', hφ⟩

/-! ## Code -/
def FW : Option Nat → Fence
  | none => Fence.wide
  | some l => Fence.wide.inRound l
theorem FW_fn (r : Option Nat) (f : FuncId) : (FW r).fn f := by cases r <;> trivial
theorem FW_depth (r : Option Nat) : (FW r).depth = none := by cases r <;> rfl
theorem FW_round (r : Option Nat) : (FW r).round = r := by cases r <;> rfl
theorem callsFW {P : Program} {r : Option Nat} {n : Nat} {f : FuncId} {args : Array Value} {w : World} {R : Ending → World → Prop} :
    CallsIn (FW r) n P f args w R ↔ Calls P f args w R := by
  cases r with
  | none => exact callsIn_wide
  | some l => exact (callsIn_wide (n := n) : CallsIn Fence.wide n P f args w R ↔ _)
theorem FW_calm {P : Program} {r : Option Nat} {fr : Frame} {cs : List Frame} {w : World} : (lone fr cs w).fenced P (FW r) := by
  cases r with
  | none => exact fenced_wide P _
  | some l => exact fenced_wide P _
theorem FW_room (r : Option Nat) (m : Nat) : (FW r).room m := by cases r <;> exact room_wide m

abbrev Post := Exit → Env → List Deferred → Hp → Prop

section
variable (P : Program) (r : Option Nat) (n N : Nat) (w0 : World)

def PostA (Q : Post) : Exit → Act → World → Prop := fun x a w => a.tmps.size = n ∧ ∃ L, Inv N w0 L w ∧ Q x (envOf a) a.defers L

def WP (c : Code) (Q : Post) (e : Env) (ds : List Deferred) (L : Hp) : Prop :=
  ∀ a w, a.tmps.size = n → envOf a = e → a.defers = ds → Inv N w0 L w → c.wpIn (FW r) 0 P (PostA n N w0 Q) a w

def OPS (ops : Array Oper) (l : List Oper) (Q : Post) (e : Env) (ds : List Deferred) (L : Hp) : Prop :=
  ∀ a w, a.tmps.size = n → envOf a = e → a.defers = ds → Inv N w0 L w → wpListIn (FW r) 0 P ops (PostA n N w0 Q) l a w

/-- What stands behind: the code y, then Q. -/
def QThen (y : Code) (Q : Post) : Post
  | .normal, e, ds, L => WP P r n N w0 y Q e ds L
  | x, e, ds, L => Q x e ds L
def QBlock (id : Nat) (Q : Post) : Post
  | .exit id', e, ds, L => if id' = id then Q .normal e ds L else Q (.exit id') e ds L
  | x, e, ds, L => Q x e ds L
def QScope (Q : Post) : Post
  | .goto _, _, _, _ => False
  | x, e, ds, L => Q x e ds L
end

section
variable {P : Program} {r : Option Nat} {n N : Nat} {w0 : World} {Q : Post} {e : Env} {ds : List Deferred} {L : Hp}

theorem WP_skip (h : Q .normal e ds L) : WP P r n N w0 .skip Q e ds L := by
  rintro a w hs rfl rfl hI
  exact wpIn_skip ⟨hs, L, hI, h⟩
theorem WP_label {l : Nat} (h : Q .normal e ds L) : WP P r n N w0 (.label l) Q e ds L := by
  rintro a w hs rfl rfl hI
  exact wpIn_label ⟨hs, L, hI, h⟩
theorem WP_exit {id : Nat} (h : Q (.exit id) e ds L) : WP P r n N w0 (.exit id) Q e ds L := by
  rintro a w hs rfl rfl hI
  exact wpIn_exit ⟨hs, L, hI, h⟩
theorem WP_ret (h : Q .ret e ds L) : WP P r n N w0 .ret Q e ds L := by
  rintro a w hs rfl rfl hI
  exact wpIn_ret ⟨hs, L, hI, h⟩
theorem WP_seq {x y : Code} (h : WP P r n N w0 x (QThen P r n N w0 y Q) e ds L) : WP P r n N w0 (.seq x y) Q e ds L := by
  rintro a w hs he hd hI
  refine wpIn_seq (Go.wpIn_mono (h a w hs he hd hI) ?_)
  rintro x a' w' ⟨hs', L', hI', hq⟩
  cases x <;> first
    | exact hq a' w' hs' rfl rfl hI'
    | exact ⟨hs', L', hI', hq⟩
/-- What stands behind, out of sight. -/
structure HThen (P : Program) (r : Option Nat) (n N : Nat) (w0 : World) (y : Code) (Q K : Post) : Prop where
  nor : ∀ e ds L, WP P r n N w0 y Q e ds L → K .normal e ds L
  oth : ∀ x e ds L, x ≠ .normal → Q x e ds L → K x e ds L
theorem WP_seqK {x y : Code} (h : ∀ K, HThen P r n N w0 y Q K → WP P r n N w0 x K e ds L) : WP P r n N w0 (.seq x y) Q e ds L :=
  WP_seq (h _ ⟨fun _ _ _ h => h, fun x _ _ _ hx h => by cases x <;> first | exact absurd rfl hx | exact h⟩)
theorem HThen.normal {y : Code} {K : Post} (h : HThen P r n N w0 y Q K) (h' : WP P r n N w0 y Q e ds L) : K .normal e ds L := h.nor _ _ _ h'
theorem HThen.exit {y : Code} {K : Post} {id : Nat} (h : HThen P r n N w0 y Q K) (h' : Q (.exit id) e ds L) : K (.exit id) e ds L := h.oth _ _ _ _ (by simp) h'
theorem HThen.ret {y : Code} {K : Post} (h : HThen P r n N w0 y Q K) (h' : Q .ret e ds L) : K .ret e ds L := h.oth _ _ _ _ (by simp) h'
theorem HThen.panic {y : Code} {K : Post} {ch : List PanicEntry} (h : HThen P r n N w0 y Q K) (h' : Q (.panic ch) e ds L) : K (.panic ch) e ds L := h.oth _ _ _ _ (by simp) h'
theorem WP_cond {c : Operand} {x y : Code} {t : Bool} (hc : ev e c = .bool t) (ht : t = true → WP P r n N w0 x Q e ds L) (hf : t = false → WP P r n N w0 y Q e ds L) :
    WP P r n N w0 (.cond c x y) Q e ds L := by
  rintro a w hs rfl hd hI
  refine wpIn_cond_split (t := t) (by rw [eval_eq]; exact hc) (fun h => ht h a w hs rfl hd hI) (fun h => hf h a w hs rfl hd hI)
theorem WP_cond_true {c : Operand} {x y : Code} (hc : ev e c = .bool true) (ht : WP P r n N w0 x Q e ds L) : WP P r n N w0 (.cond c x y) Q e ds L :=
  WP_cond hc (fun _ => ht) (fun h => by cases h)
theorem WP_cond_false {c : Operand} {x y : Code} (hc : ev e c = .bool false) (hf : WP P r n N w0 y Q e ds L) : WP P r n N w0 (.cond c x y) Q e ds L :=
  WP_cond hc (fun h => by cases h) (fun _ => hf)
theorem WP_condD {c : Operand} {x y : Code} {p : Prop} [hp : Decidable p] (hc : ev e c = .bool (decide p)) (ht : p → WP P r n N w0 x Q e ds L) (hf : ¬ p → WP P r n N w0 y Q e ds L) : WP P r n N w0 (.cond c x y) Q e ds L :=
  WP_cond hc (fun h => ht (of_decide_eq_true h)) (fun h => hf (of_decide_eq_false h))
theorem WP_condE {c : Operand} {x y : Code} {m k : Int} (hc : ev e c = .bool (m == k)) (ht : m = k → WP P r n N w0 x Q e ds L) (hf : m ≠ k → WP P r n N w0 y Q e ds L) : WP P r n N w0 (.cond c x y) Q e ds L :=
  WP_cond hc (fun h => ht (eq_of_beq h)) (fun h => hf (fun h' => by rw [beq_eq_false_iff_ne] at h; exact h h'))
theorem WP_condN {c : Operand} {x y : Code} {m k : Int} (hc : ev e c = .bool (m != k)) (ht : m ≠ k → WP P r n N w0 x Q e ds L) (hf : m = k → WP P r n N w0 y Q e ds L) : WP P r n N w0 (.cond c x y) Q e ds L :=
  WP_cond hc (fun h => ht (bne_iff_ne.1 h)) (fun h => hf (by rw [bne_eq_false_iff_eq] at h; exact h))
theorem WP_condV {c : Operand} {x y : Code} {b : Bool} (hc : ev e c = .bool (!b)) (ht : b = false → WP P r n N w0 x Q e ds L) (hf : b = true → WP P r n N w0 y Q e ds L) : WP P r n N w0 (.cond c x y) Q e ds L :=
  WP_cond hc (fun h => ht (by cases b <;> simp_all)) (fun h => hf (by cases b <;> simp_all))
theorem WP_block {id : Nat} {c : Code} (h : WP P r n N w0 c (QBlock id Q) e ds L) : WP P r n N w0 (.block id c) Q e ds L := by
  rintro a w hs he hd hI
  refine wpIn_block (Go.wpIn_mono (h a w hs he hd hI) ?_)
  rintro x a' w' ⟨hs', L', hI', hq⟩
  cases x with
  | exit id' =>
    simp only [QBlock] at hq
    simp only [Exit.inBlock]
    split
    · rename_i h; rw [if_pos h] at hq; exact ⟨hs', L', hI', hq⟩
    · rename_i h; rw [if_neg h] at hq; exact ⟨hs', L', hI', hq⟩
  | _ => exact ⟨hs', L', hI', hq⟩
theorem stepR_scope {b : Frame} {a : Act} {k : List Item} {cs : List Frame} {w : World} {c : Code} :
    step P (lone (b.atR a (.code (.scope c) :: k)) cs w) = .next (lone (b.atR a (.code c :: .inScope c :: k)) cs w) :=
  step_lone_go (by simp [stepG, stepG.exec, Frame.atR])
theorem stepR_inScope {b : Frame} {a : Act} {k : List Item} {cs : List Frame} {w : World} {c : Code} :
    step P (lone (b.atR a (.inScope c :: k)) cs w) = .next (lone (b.atR a k) cs w) :=
  step_lone_go (by simp [stepG, stepG.exec, Frame.atR])
theorem WP_scope {c : Code} (h : WP P r n N w0 c (QScope Q) e ds L) : WP P r n N w0 (.scope c) Q e ds L := by
  rintro a w hs he hd hI b k cs hro hb hr
  obtain ⟨x, a₁, w₁, ⟨hs', L', hI', hq⟩, harr⟩ := h a w hs he hd hI b (.inScope c :: k) cs hro hb hr
  have h0 : StepsIn (Machine.fenced P (FW r)) P (lone (b.atR a (.code (.scope c) :: k)) cs w) (lone (b.atR a (.code c :: .inScope c :: k)) cs w) := .one FW_calm stepR_scope
  cases x with
  | normal => exact ⟨.normal, a₁, w₁, ⟨hs', L', hI', hq⟩, StepsIn.trans h0 (StepsIn.trans harr (.one FW_calm stepR_inScope))⟩
  | exit id =>
    have hx : exitTo id (.inScope c :: k) = exitTo id k := by simp [exitTo]
    exact ⟨.exit id, a₁, w₁, ⟨hs', L', hI', hq⟩, fun k' hk => h0.trans (harr.1 k' (by rw [hx]; exact hk)),
      fun hr' hk => let ⟨k₁, h1, h2⟩ := harr.2 hr' (by rw [hx]; exact hk); ⟨k₁, h1, h0.trans h2⟩⟩
  | goto l => exact hq.elim
  | ret => exact ⟨.ret, a₁, w₁, ⟨hs', L', hI', hq⟩, .of_steps h0 harr⟩
  | panic ch => exact ⟨.panic ch, a₁, w₁, ⟨hs', L', hI', hq⟩, .of_steps h0 harr⟩
  | outgrown => exact ⟨.outgrown, a₁, w₁, ⟨hs', L', hI', hq⟩, .of_steps h0 harr⟩
theorem WP_region {id : Nat} {l : List Oper} (h : OPS P r n N w0 l.toArray l Q e ds L) : WP P r n N w0 (.region id l.toArray false) Q e ds L := by
  rintro a w hs he hd hI
  exact wpIn_region_lit (h a w hs he hd hI)
theorem WP_mono {c : Code} {Q' : Post} (h : WP P r n N w0 c Q e ds L) (hq : ∀ x e ds L, Q x e ds L → Q' x e ds L) : WP P r n N w0 c Q' e ds L := by
  rintro a w hs he hd hI
  exact Go.wpIn_mono (h a w hs he hd hI) fun x a w ⟨h1, L, h2, h3⟩ => ⟨h1, L, h2, hq _ _ _ _ h3⟩
theorem WP_wk {c : Code} {L' : Hp} (k : Wk L L') (h : WP P r n N w0 c Q e ds L') : WP P r n N w0 c Q e ds L :=
  fun a w hs he hd hI => h a w hs he hd (hI.wk k)

/-- The frame at a loop's head: the slots that the loop's own state fixes (sl), those that the body writes besides (ws: whatever), all others as they were. -/
def look1 (t : Nat) : List (Nat × Value) → Option Value
  | [] => none
  | (s, v) :: l => bif Nat.beq t s then some v else look1 t l
def isIn (t : Nat) : List Nat → Bool
  | [] => false
  | s :: l => bif Nat.beq t s then true else isIn t l
def frame (ws : List Nat) (base : Env) (sl : List (Nat × Value)) (j : Env) : Env := fun t =>
  match look1 t sl with
  | some v => v
  | none => bif isIn t ws then j t else base t
def Off (ws : List Nat) (e base : Env) : Prop := ∀ t, isIn t ws = false → e t = base t
theorem Off.refl (ws : List Nat) (e : Env) : Off ws e e := fun _ _ => rfl
theorem Off.upd {ws : List Nat} {e base : Env} {d : Nat} {v : Value} (hd : isIn d ws = true) (h : Off ws e base) : Off ws (upd e d v) base := by
  intro t ht
  unfold Ytlpahkmfjpjheaa.upd
  cases hb : Nat.beq t d with
  | false => exact h t ht
  | true =>
    have := Nat.eq_of_beq_eq_true hb
    subst this
    rw [hd] at ht; cases ht
theorem Off.updO {ws : List Nat} {e base : Env} {d : Option Nat} {v : Value} (hd : (match d with | some d => isIn d ws | none => true) = true) (h : Off ws e base) : Off ws (updO e d v) base := by
  cases d with
  | none => exact h
  | some d => exact h.upd hd
theorem look1_in {sl : List (Nat × Value)} {ws : List Nat} (h : (sl.all fun p => isIn p.1 ws) = true) {t : Nat} (ht : isIn t ws = false) : look1 t sl = none := by
  induction sl with
  | nil => rfl
  | cons p sl ih =>
    simp only [List.all_cons, Bool.and_eq_true] at h
    unfold look1
    cases hb : Nat.beq t p.1 with
    | false => exact ih h.2
    | true =>
      have := Nat.eq_of_beq_eq_true hb
      rw [← this, ht] at h; cases h.1
theorem Off.frame {ws : List Nat} {base : Env} {sl : List (Nat × Value)} {j : Env} (h : (sl.all fun p => isIn p.1 ws) = true) : Off ws (frame ws base sl j) base := by
  intro t ht
  unfold Ytlpahkmfjpjheaa.frame
  rw [look1_in h ht, ht]; rfl
theorem frame_intro {ws : List Nat} {base : Env} {sl : List (Nat × Value)} {e' : Env} (h1 : ∀ t v, look1 t sl = some v → e' t = v) (h2 : Off ws e' base) : e' = frame ws base sl e' := by
  funext t
  unfold frame
  cases hl : look1 t sl with
  | some v => exact h1 t v hl
  | none =>
    cases hi : isIn t ws with
    | true => rfl
    | false => exact h2 t hi
/-- The slots, one by one. -/
inductive Slots (e : Env) : List (Nat × Value) → Prop
  | nil : Slots e []
  | cons {t : Nat} {v : Value} {l : List (Nat × Value)} (h : e t = v) (k : Slots e l) : Slots e ((t, v) :: l)
theorem Slots.look {e : Env} {sl : List (Nat × Value)} (h : Slots e sl) : ∀ t v, look1 t sl = some v → e t = v := by
  induction h with
  | nil => intro t v h; cases h
  | cons h k ih =>
    intro t v hl
    unfold look1 at hl
    rename_i t0 v0 l0
    cases hb : Nat.beq t t0 with
    | false => rw [hb] at hl; exact ih t v hl
    | true =>
      rw [hb] at hl
      have := Nat.eq_of_beq_eq_true hb
      subst this
      have : v0 = v := by simpa using hl
      rw [h, this]

/-- What is asked at a round's end. -/
def QLoop {σ : Type} (ws : List Nat) (base : Env) (sl : σ → List (Nat × Value)) (Lp : σ → Hp) (J : σ → Prop) (μ : σ → Nat) (ds : List Deferred) (m : Nat) (Q : Post) : Post
  | .normal, e', ds', L' => ds' = ds ∧ ∃ s', Slots e' (sl s') ∧ Off ws e' base ∧ Wk L' (Lp s') ∧ J s' ∧ μ s' < m
  | x, e', ds', L' => Q x e' ds' L'

theorem WP_loop {c : Code} {σ : Type} (ws : List Nat) (sl : σ → List (Nat × Value)) (Lp : σ → Hp) (J : σ → Prop) (μ : σ → Nat) (s0 : σ)
    (h0 : Slots e (sl s0)) (hL : Wk L (Lp s0)) (hJ : J s0)
    (round : ∀ s j, J s → WP P r n N w0 c (QLoop ws e sl Lp J μ ds (μ s) Q) (frame ws e (sl s) j) ds (Lp s)) :
    WP P r n N w0 (.loop c) Q e ds L := by
  rintro a w hs he hd hI b k cs hro hb hr
  have key : ∀ m s, μ s = m → J s → ∀ a w, a.tmps.size = n → Slots (envOf a) (sl s) → Off ws (envOf a) e → a.defers = ds → Inv N w0 (Lp s) w →
      ∃ x a' w', PostA n N w0 Q x a' w' ∧ ArrivesIn (Machine.fenced P (FW r)) P (lone (b.atR a (.code c :: .inLoop c :: k)) cs w) b k cs x a' w' := by
    intro m
    induction m using Nat.strongRecOn with
    | _ m ih =>
      intro s hm hJ a w hs hsl hoff hd hI
      have hfr : envOf a = frame ws e (sl s) (envOf a) := frame_intro hsl.look hoff
      obtain ⟨x, a₁, w₁, ⟨hs₁, L₁, hI₁, hq⟩, harr⟩ := round s (envOf a) hJ a w hs hfr hd hI b (.inLoop c :: k) cs hro hb hr
      cases x with
      | normal =>
        obtain ⟨hd₁, s', hsl', hoff', hwk, hJ', hlt⟩ := hq
        obtain ⟨x₂, a₂, w₂, hq₂, harr₂⟩ := ih (μ s') (hm ▸ hlt) s' rfl hJ' a₁ w₁ hs₁ hsl' hoff' hd₁ (hI₁.wk hwk)
        exact ⟨x₂, a₂, w₂, hq₂, .of_steps (StepsIn.trans harr (.one FW_calm stepR_inLoop)) harr₂⟩
      | exit id => exact ⟨_, a₁, w₁, ⟨hs₁, L₁, hI₁, hq⟩, .pass (x := .inLoop c) rfl (fun _ _ => .inl (by simp)) harr⟩
      | goto l => exact ⟨_, a₁, w₁, ⟨hs₁, L₁, hI₁, hq⟩, .pass (x := .inLoop c) rfl (fun _ _ => .inl (by simp)) harr⟩
      | ret => exact ⟨_, a₁, w₁, ⟨hs₁, L₁, hI₁, hq⟩, .pass (x := .inLoop c) rfl (fun _ _ => .inl (by simp)) harr⟩
      | panic ch => exact ⟨_, a₁, w₁, ⟨hs₁, L₁, hI₁, hq⟩, .pass (x := .inLoop c) rfl (fun _ _ => .inl (by simp)) harr⟩
      | outgrown => exact ⟨_, a₁, w₁, ⟨hs₁, L₁, hI₁, hq⟩, .pass (x := .inLoop c) rfl (fun _ _ => .inl (by simp)) harr⟩
  obtain ⟨x, a', w', hq, harr⟩ := key _ s0 rfl hJ a w hs (he ▸ h0) (he ▸ Off.refl ws _) hd (hI.wk hL)
  exact ⟨x, a', w', hq, .of_steps (.one FW_calm stepR_loop) harr⟩

/-! Ways on. -/
theorem QThen_normal {y : Code} (h : WP P r n N w0 y Q e ds L) : QThen P r n N w0 y Q .normal e ds L := h
theorem QThen_exit {y : Code} {id : Nat} (h : Q (.exit id) e ds L) : QThen P r n N w0 y Q (.exit id) e ds L := h
theorem QThen_ret {y : Code} (h : Q .ret e ds L) : QThen P r n N w0 y Q .ret e ds L := h
theorem QThen_panic {y : Code} {ch : List PanicEntry} (h : Q (.panic ch) e ds L) : QThen P r n N w0 y Q (.panic ch) e ds L := h
theorem QBlock_normal {id : Nat} (h : Q .normal e ds L) : QBlock id Q .normal e ds L := h
theorem QBlock_ret {id : Nat} (h : Q .ret e ds L) : QBlock id Q .ret e ds L := h
theorem QBlock_panic {id : Nat} {ch : List PanicEntry} (h : Q (.panic ch) e ds L) : QBlock id Q (.panic ch) e ds L := h
theorem QBlock_hit {id : Nat} (h : Q .normal e ds L) : QBlock id Q (.exit id) e ds L := by simp only [QBlock, if_true]; exact h
theorem QBlock_miss {id id' : Nat} (hne : Nat.beq id' id = false) (h : Q (.exit id') e ds L) : QBlock id Q (.exit id') e ds L := by
  have : id' ≠ id := fun e => by subst e; simp at hne
  simp only [QBlock, if_neg this]; exact h
theorem QScope_normal (h : Q .normal e ds L) : QScope Q .normal e ds L := h
theorem QScope_exit {id : Nat} (h : Q (.exit id) e ds L) : QScope Q (.exit id) e ds L := h
theorem QScope_ret (h : Q .ret e ds L) : QScope Q .ret e ds L := h
theorem QScope_panic {ch : List PanicEntry} (h : Q (.panic ch) e ds L) : QScope Q (.panic ch) e ds L := h
theorem QLoop_exit {σ : Type} {ws : List Nat} {base : Env} {sl : σ → List (Nat × Value)} {Lp : σ → Hp} {J : σ → Prop} {μ : σ → Nat} {ds0 : List Deferred} {m : Nat} {id : Nat}
    (h : Q (.exit id) e ds L) : QLoop ws base sl Lp J μ ds0 m Q (.exit id) e ds L := h
theorem QLoop_ret {σ : Type} {ws : List Nat} {base : Env} {sl : σ → List (Nat × Value)} {Lp : σ → Hp} {J : σ → Prop} {μ : σ → Nat} {ds0 : List Deferred} {m : Nat}
    (h : Q .ret e ds L) : QLoop ws base sl Lp J μ ds0 m Q .ret e ds L := h
theorem QLoop_panic {σ : Type} {ws : List Nat} {base : Env} {sl : σ → List (Nat × Value)} {Lp : σ → Hp} {J : σ → Prop} {μ : σ → Nat} {ds0 : List Deferred} {m : Nat} {ch : List PanicEntry}
    (h : Q (.panic ch) e ds L) : QLoop ws base sl Lp J μ ds0 m Q (.panic ch) e ds L := h
theorem QLoop_normal {σ : Type} {ws : List Nat} {base : Env} {sl : σ → List (Nat × Value)} {Lp : σ → Hp} {J : σ → Prop} {μ : σ → Nat} {m : Nat} (s' : σ)
    (h1 : Slots e (sl s')) (h2 : Off ws e base) (h3 : Wk L (Lp s')) (h4 : J s') (h5 : μ s' < m) : QLoop ws base sl Lp J μ ds m Q .normal e ds L :=
  ⟨rfl, s', h1, h2, h3, h4, h5⟩
end
end Go.Proofs.Ytlpahkmfjpjheaa
end

section
namespace Go.Proofs.Ytlpahkmfjpjheaa
open Go.RowKit

/-! ## Types -/
def isAggD : TypeDesc → Bool
  | .struct _ => true
  | .array _ _ => true
  | _ => false
class TySz (P : Program) (t : TypeId) (agg : outParam Bool) (n : outParam Nat) (bytes : outParam Nat) : Prop where
  und : (P.underlying t).map isAggD = some agg
  inf : (P.info? t).map (fun i => (i.size, i.bytes)) = some (n, bytes)
class TyZero (P : Program) (t : TypeId) (z : outParam (List Value)) : Prop where
  zero : (P.info? t).bind (fun i => i.zero.map (fun v => v.cells.toList)) = some z
class FieldOff (P : Program) (t : TypeId) (i : Nat) (off : outParam Nat) (ft : outParam TypeId) : Prop where
  fld : ((P.underlying t).bind fun d => match d with | .struct fs => (fs[i]?).map (fun f => (f.offset, f.type)) | _ => none) = some (off, ft)
class SliceOf (P : Program) (t : TypeId) (e : outParam TypeId) : Prop where
  und : P.underlying t = some (.slice e)
class ArrayOf (P : Program) (t : TypeId) (len : outParam Nat) (e : outParam TypeId) : Prop where
  und : P.underlying t = some (.array len e)
class ConcTy (P : Program) (t : TypeId) : Prop where
  und : ((P.underlying t).map fun d => match d with | .interface _ => false | _ => true) = some true
class BoolTy (P : Program) (t : TypeId) : Prop where
  und : P.underlying t = some .bool
class IntTy (P : Program) (t : TypeId) (k : outParam IntKind) : Prop where
  und : P.underlying t = some (.int k)

section
variable {P : Program} {w : World}
theorem run_isAgg {t : TypeId} {g : Bool} {n b : Nat} [h : TySz P t g n b] : (isAgg t).run P w = .ok g w := by
  have := h.und
  cases hu : P.underlying t with
  | none => rw [hu] at this; cases this
  | some d =>
    rw [hu] at this
    simp only [Option.map_some, Option.some.injEq] at this
    subst this
    cases d <;> simp [isAgg, run_underlying hu, isAggD]
theorem run_sizeOf {t : TypeId} {g : Bool} {n b : Nat} [h : TySz P t g n b] : (sizeOf t).run P w = .ok n w := by
  have := h.inf
  cases hu : P.info? t with
  | none => rw [hu] at this; cases this
  | some i =>
    rw [hu] at this
    simp only [Option.map_some, Option.some.injEq, Prod.mk.injEq] at this
    simp [sizeOf, typeInfo, hu, this.1]
theorem run_zeroValue {t : TypeId} {z : List Value} [h : TyZero P t z] : ∃ v, (zeroValue t).run P w = .ok v w ∧ v.cells = z.toArray := by
  have := h.zero
  cases hu : P.info? t with
  | none => rw [hu] at this; cases this
  | some i =>
    rw [hu] at this
    cases hz : i.zero with
    | none => simp [hz] at this
    | some v =>
      simp only [Option.bind_some, hz, Option.map_some, Option.some.injEq] at this
      refine ⟨v, by simp [zeroValue, typeInfo, hu, hz], ?_⟩
      rw [← this]
end

/-! ## Lists of operations -/
def yieldE (ops : Array Oper) (e : Env) (j : Nat) : Option Bool :=
  match (ops[j]?).bind (·.dst) with
  | some d => match e d with
    | .bool b => some b
    | _ => none
  | none => none
theorem yieldE_eq (ops : Array Oper) (a : Act) : yielded ops a.tmps = yieldE ops (envOf a) := by
  funext j
  unfold yielded yieldE
  cases (ops[j]?).bind (·.dst) with
  | none => rfl
  | some d =>
    simp only [Option.bind_some, envOf, Array.getD_eq_getD_getElem?]
    cases h : a.tmps[d]? with
    | none => simp [undef]
    | some v => cases v <;> simp
def isDefer : Op → Bool
  | .defer _ => true
  | _ => false
theorem isDefer_ne {op : Op} (h : isDefer op = false) : ∀ c, op ≠ .defer c := by
  intro c e; subst e; cases h

section
variable {P : Program} {r : Option Nat} {n N : Nat} {w0 : World} {ops : Array Oper} {o : Oper} {rest : List Oper} {Q : Post} {e : Env} {ds : List Deferred} {L : Hp}

theorem OPS_nil (h : Q .normal e ds L) : OPS P r n N w0 ops [] Q e ds L := by
  rintro a w hs rfl rfl hI
  exact ⟨hs, L, hI, h⟩
theorem OPS_wk {l : List Oper} {L' : Hp} (k : Wk L L') (h : OPS P r n N w0 ops l Q e ds L') : OPS P r n N w0 ops l Q e ds L :=
  fun a w hs he hd hI => h a w hs he hd (hI.wk k)
theorem OPS_skip (hg : Region.wanted o (yieldE ops e) = false) (hd : dstOk n o.dst = true) (h : OPS P r n N w0 ops rest Q (updO e o.dst undef) ds L) :
    OPS P r n N w0 ops (o :: rest) Q e ds L := by
  rintro a w hs rfl rfl hI
  unfold wpListIn
  rw [yieldE_eq, if_neg (by rw [hg]; simp)]
  exact ⟨fun f _ => FW_fn r f, h _ _ (size_put.trans hs) (envOf_put hs hd) defers_put hI⟩
theorem OPS_gen (hg : Region.wanted o (yieldE ops e) = true) (hnd : isDefer o.op = false)
    (h : ∀ a w, a.tmps.size = n → envOf a = e → a.defers = ds → Inv N w0 L w → o.uponIn (FW r) 0 P a (wpListIn (FW r) 0 P ops (PostA n N w0 Q) rest) (PostA n N w0 Q) ((execOp (ev e) o).run P w)) :
    OPS P r n N w0 ops (o :: rest) Q e ds L := by
  rintro a w hs rfl rfl hI
  unfold wpListIn
  rw [yieldE_eq, if_pos hg]
  refine ⟨fun f _ => FW_fn r f, ?_⟩
  rw [Oper.semAt_eq _ _ _ (isDefer_ne hnd), eval_eq]
  exact h a w hs rfl rfl hI
/-- A Bool in a slot, parted. -/
theorem OPS_split {l : List Oper} (d : Nat) {t : Bool} (hd : e d = .bool t) (h1 : t = true → OPS P r n N w0 ops l Q (upd e d (.bool true)) ds L) (h2 : t = false → OPS P r n N w0 ops l Q (upd e d (.bool false)) ds L) :
    OPS P r n N w0 ops l Q e ds L := by
  have : upd e d (.bool t) = e := by
    funext k
    unfold upd
    cases hb : Nat.beq k d with
    | false => rfl
    | true => have := Nat.eq_of_beq_eq_true hb; subst this; exact hd.symm
  cases t with
  | true => have := h1 rfl; rwa [‹upd e d _ = e›] at this
  | false => have := h2 rfl; rwa [‹upd e d _ = e›] at this

/-- The Bool that guards the operation, parted. -/
theorem OPS_splitG {j d : Nat} {want t : Bool} (hg : o.guard = some (j, want)) (hj : (ops[j]?).bind (·.dst) = some d) (hd : e d = .bool t)
    (h1 : t = true → OPS P r n N w0 ops (o :: rest) Q (upd e d (.bool true)) ds L) (h2 : t = false → OPS P r n N w0 ops (o :: rest) Q (upd e d (.bool false)) ds L) :
    OPS P r n N w0 ops (o :: rest) Q e ds L := by
  have _ := hg
  have _ := hj
  exact OPS_split d hd h1 h2

theorem OPS_splitD {j d : Nat} {want : Bool} {p : Prop} [hp : Decidable p] (hg : o.guard = some (j, want)) (hj : (ops[j]?).bind (·.dst) = some d) (hd : e d = .bool (decide p))
    (h1 : p → OPS P r n N w0 ops (o :: rest) Q (upd e d (.bool true)) ds L) (h2 : ¬ p → OPS P r n N w0 ops (o :: rest) Q (upd e d (.bool false)) ds L) :
    OPS P r n N w0 ops (o :: rest) Q e ds L := OPS_splitG hg hj hd (fun h => h1 (of_decide_eq_true h)) (fun h => h2 (of_decide_eq_false h))
theorem OPS_splitE {j d : Nat} {want : Bool} {m k : Int} (hg : o.guard = some (j, want)) (hj : (ops[j]?).bind (·.dst) = some d) (hd : e d = .bool (m == k))
    (h1 : m = k → OPS P r n N w0 ops (o :: rest) Q (upd e d (.bool true)) ds L) (h2 : m ≠ k → OPS P r n N w0 ops (o :: rest) Q (upd e d (.bool false)) ds L) :
    OPS P r n N w0 ops (o :: rest) Q e ds L := OPS_splitG hg hj hd (fun h => h1 (eq_of_beq h)) (fun h => h2 (fun h' => by rw [beq_eq_false_iff_ne] at h; exact h h'))
theorem OPS_splitN {j d : Nat} {want : Bool} {m k : Int} (hg : o.guard = some (j, want)) (hj : (ops[j]?).bind (·.dst) = some d) (hd : e d = .bool (m != k))
    (h1 : m ≠ k → OPS P r n N w0 ops (o :: rest) Q (upd e d (.bool true)) ds L) (h2 : m = k → OPS P r n N w0 ops (o :: rest) Q (upd e d (.bool false)) ds L) :
    OPS P r n N w0 ops (o :: rest) Q e ds L := OPS_splitG hg hj hd (fun h => h1 (bne_iff_ne.1 h)) (fun h => h2 (by rw [bne_eq_false_iff_eq] at h; exact h))

/-- One value, the world as it was. -/
def Val (P : Program) (N : Nat) (w0 : World) (L : Hp) (e : Env) (o : Oper) (v : Value) : Prop := ∀ w, Inv N w0 L w → (execOp (ev e) o).run P w = .ok (.value v) w
theorem Val.wk {L' : Hp} {v : Value} (h : Val P N w0 L' e o v) (k : Wk L L') : Val P N w0 L e o v := fun w hI => h w (hI.wk k)

theorem OPS_val {v : Value} (hv : Val P N w0 L e o v) (hg : Region.wanted o (yieldE ops e) = true) (hnd : isDefer o.op = false) (hd : dstOk n o.dst = true)
    (h : OPS P r n N w0 ops rest Q (updO e o.dst v) ds L) : OPS P r n N w0 ops (o :: rest) Q e ds L := by
  refine OPS_gen hg hnd fun a w hs he hd' hI => ?_
  rw [hv w hI]
  subst he
  exact h _ _ (size_put.trans hs) (envOf_put hs hd) (defers_put.trans hd') hI
/-- A new block. -/
def New (P : Program) (e : Env) (o : Oper) (obj : Obj) (mk : Nat → Value) : Prop := ∀ w, (execOp (ev e) o).run P w = .ok (.value (mk w.heap.size)) (w.alloc obj)
theorem OPS_new {obj : Obj} {mk : Nat → Value} {φ : Obj → Prop} (hφ : φ obj) (hv : New P e o obj mk) (hg : Region.wanted o (yieldE ops e) = true) (hnd : isDefer o.op = false) (hd : dstOk n o.dst = true)
    (h : ∀ b, OPS P r n N w0 ops rest Q (updO e o.dst (mk b)) ds ((b, φ) :: L)) : OPS P r n N w0 ops (o :: rest) Q e ds L := by
  refine OPS_gen hg hnd fun a w hs he hd' hI => ?_
  rw [hv w]
  subst he
  exact h _ _ _ (size_put.trans hs) (envOf_put hs hd) (defers_put.trans hd') (hI.alloc hφ)
/-- One block turned. -/
def Turn (P : Program) (N : Nat) (w0 : World) (L : Hp) (e : Env) (o : Oper) (L' : Hp) : Prop := ∀ w, Inv N w0 L w → ∃ w', (execOp (ev e) o).run P w = .ok .skip w' ∧ Inv N w0 L' w'
theorem OPS_turn {L' : Hp} (hv : Turn P N w0 L e o L') (hg : Region.wanted o (yieldE ops e) = true) (hnd : isDefer o.op = false) (hd : dstOk n o.dst = true)
    (h : OPS P r n N w0 ops rest Q (updO e o.dst undef) ds L') : OPS P r n N w0 ops (o :: rest) Q e ds L := by
  refine OPS_gen hg hnd fun a w hs he hd' hI => ?_
  obtain ⟨w', hr, hI'⟩ := hv w hI
  rw [hr]
  subst he
  exact h _ _ (size_put.trans hs) (envOf_put hs hd) (defers_put.trans hd') hI'
/-- Whatever comes out. -/
theorem OPS_any {K : Value → Hp → Prop} (hv : ∀ w, Inv N w0 L w → ∃ v w' L', (execOp (ev e) o).run P w = .ok (.value v) w' ∧ Inv N w0 L' w' ∧ K v L') (hg : Region.wanted o (yieldE ops e) = true) (hnd : isDefer o.op = false) (hd : dstOk n o.dst = true)
    (h : ∀ v L', K v L' → OPS P r n N w0 ops rest Q (updO e o.dst v) ds L') : OPS P r n N w0 ops (o :: rest) Q e ds L := by
  refine OPS_gen hg hnd fun a w hs he hd' hI => ?_
  obtain ⟨v, w', L', hr, hI', hk⟩ := hv w hI
  rw [hr]
  subst he
  exact h v L' hk _ _ (size_put.trans hs) (envOf_put hs hd) (defers_put.trans hd') hI'

/-! ## Calls -/
/-- A call of f from a world that owns L: how it ends, and what is owned then. -/
def Tri (P : Program) (N : Nat) (w0 : World) (L : Hp) (f : FuncId) (args : Array Value) (R : Ending → Hp → Prop) : Prop :=
  ∀ w, Inv N w0 L w → Calls P f args w fun x w' => ∃ L', Inv N w0 L' w' ∧ R x L'
/-- It returns v, and owns what it owned. -/
def Ret (P : Program) (N : Nat) (w0 : World) (L : Hp) (f : FuncId) (args : Array Value) (v : Value) : Prop := Tri P N w0 L f args fun x L' => x = .returned v ∧ L' = L
theorem Tri.mono {f : FuncId} {args : Array Value} {R R' : Ending → Hp → Prop} (h : Tri P N w0 L f args R) (hr : ∀ x L', R x L' → R' x L') : Tri P N w0 L f args R' :=
  fun w hI => (h w hI).mono fun _ _ ⟨L', h1, h2⟩ => ⟨L', h1, hr _ _ h2⟩
theorem Tri.wk {f : FuncId} {args : Array Value} {R : Ending → Hp → Prop} {L' : Hp} (h : Tri P N w0 L' f args R) (k : Wk L L') : Tri P N w0 L f args R :=
  fun w hI => h w (hI.wk k)

/-- The operation enters f at these arguments. -/
def Enters (P : Program) (e : Env) (o : Oper) (f : FuncId) (args : Array Value) : Prop := ∀ w, (execOp (ev e) o).run P w = .ok (.enter f args) w

theorem OPS_call {f : FuncId} {args : Array Value} {R : Ending → Hp → Prop} (hv : Enters P e o f args) (hc : Tri P N w0 L f args R) (hg : Region.wanted o (yieldE ops e) = true) (hnd : isDefer o.op = false) (hd : dstOk n o.dst = true)
    (hret : ∀ v L', R (.returned v) L' → OPS P r n N w0 ops rest Q (updO e o.dst v) ds L') (hpan : ∀ ch L', R (.panicked ch) L' → Q (.panic ch) e ds L') (hout : ∀ L', ¬ R .outgrown L') :
    OPS P r n N w0 ops (o :: rest) Q e ds L := by
  refine OPS_gen hg hnd fun a w hs he hd' hI => ?_
  rw [hv w]
  refine ⟨fun h => (by rw [FW_depth] at h; cases h), callsFW.2 ((hc w hI).mono ?_)⟩
  subst he
  rintro x w' ⟨L', hI', hR⟩
  cases x with
  | returned v => exact hret v L' hR _ _ (size_put.trans hs) (envOf_put hs hd) (defers_put.trans hd') hI'
  | panicked ch => exact ⟨hs, L', hI', by rw [hd']; exact hpan ch L' hR⟩
  | outgrown => exact absurd hR (hout L')
theorem OPS_ret {f : FuncId} {args : Array Value} {v : Value} (hv : Enters P e o f args) (hc : Ret P N w0 L f args v) (hg : Region.wanted o (yieldE ops e) = true) (hnd : isDefer o.op = false) (hd : dstOk n o.dst = true)
    (h : OPS P r n N w0 ops rest Q (updO e o.dst v) ds L) : OPS P r n N w0 ops (o :: rest) Q e ds L :=
  OPS_call hv hc hg hnd hd (fun v' L' hR => by obtain ⟨h1, rfl⟩ := hR; injection h1 with h1; subst h1; exact h) (fun ch L' hR => by obtain ⟨h1, _⟩ := hR; cases h1) (fun L' hR => by obtain ⟨h1, _⟩ := hR; cases h1)
/-- What it returns is known by K alone. -/
theorem OPS_retK {f : FuncId} {args : Array Value} {K : Value → Hp → Prop} (hv : Enters P e o f args) (hc : Tri P N w0 L f args fun x L' => ∃ v, x = .returned v ∧ K v L') (hg : Region.wanted o (yieldE ops e) = true) (hnd : isDefer o.op = false) (hd : dstOk n o.dst = true)
    (h : ∀ v L', K v L' → OPS P r n N w0 ops rest Q (updO e o.dst v) ds L') : OPS P r n N w0 ops (o :: rest) Q e ds L :=
  OPS_call hv hc hg hnd hd (fun v' L' hR => by obtain ⟨v, h1, h2⟩ := hR; injection h1 with h1; subst h1; exact h _ _ h2) (fun ch L' hR => by obtain ⟨_, h1, _⟩ := hR; cases h1) (fun L' hR => by obtain ⟨_, h1, _⟩ := hR; cases h1)

theorem OPS_panic {v : Value} (hv : ∀ w, (execOp (ev e) o).run P w = .halt (.panic v) w) (hg : Region.wanted o (yieldE ops e) = true) (hnd : isDefer o.op = false)
    (h : Q (.panic [{ v, recovered := false }]) e ds L) : OPS P r n N w0 ops (o :: rest) Q e ds L := by
  refine OPS_gen hg hnd fun a w hs he hd' hI => ?_
  rw [hv w]
  subst he
  exact ⟨hs, L, hI, by rw [hd']; exact h⟩
end

/-! ## A function's body -/
section
variable {P : Program} {N : Nat} {w0 : World} {L : Hp}
def argsE (args : List Value) : Env := fun t => args.getD t undef
/-- What the body must come to. -/
def QBody (P : Program) (fn : Func) (N : Nat) (w0 : World) (R : Ending → Hp → Prop) : Post
  | .normal, e, ds, L | .ret, e, ds, L => ds = [] ∧ ∃ v, (∀ a w, envOf a = e → Inv N w0 L w → (results fn a.tmps).run P w = .ok v w) ∧ R (.returned v) L
  | .panic ch, _, ds, L => ds = [] ∧ R (.panicked ch) L
  | _, _, _, _ => False

theorem tri_of_WP {f : FuncId} {fn : Func} {c : Code} {args : List Value} {R : Ending → Hp → Prop} (hf : P.funcs[f]? = some fn) (hb : fn.body = some c) {n : Nat} (hn : fn.ntmps = n) (hle : args.length ≤ n)
    (h : WP P none n N w0 c (QBody P fn N w0 R) (argsE args) [] L) : Tri P N w0 L f args.toArray R := by
  intro w hI
  refine (callsIn_wide (n := 0)).1 (callsIn_of_wp hf hb trivial ?_ rfl)
  have h1 := h { tmps := args.toArray ++ Array.replicate (fn.ntmps - args.toArray.size) undef, defers := [] } w (by simp; omega) ?_ rfl hI
  · refine Go.wpIn_mono h1 ?_
    rintro x a w' ⟨hs, L', hI', hq⟩
    cases x with
    | normal => obtain ⟨hd, v, hr, hR⟩ := hq; exact ⟨hd, v, hr a w' rfl hI', L', hI', hR⟩
    | ret => obtain ⟨hd, v, hr, hR⟩ := hq; exact ⟨hd, v, hr a w' rfl hI', L', hI', hR⟩
    | panic ch => obtain ⟨hd, hR⟩ := hq; exact ⟨hd, L', hI', hR⟩
    | exit id => exact hq.elim
    | goto l => exact hq.elim
    | outgrown => exact hq.elim
  · funext t
    unfold envOf argsE
    simp only [Array.getD_eq_getD_getElem?, List.getD_eq_getElem?_getD]
    by_cases ht : t < args.length
    · rw [Array.getElem?_append_left (by simpa using ht)]; simp
    · rw [Array.getElem?_append_right (by simpa using ht), Array.getElem?_replicate, List.getElem?_eq_none (by omega)]
      split <;> rfl

theorem QBody_ret1 {fn : Func} {R : Ending → Hp → Prop} {e : Env} {t : Nat} {v : Value} (hr : fn.results = #[.tmp t]) (hv : e t = v) (h : R (.returned v) L) : QBody P fn N w0 R .ret e [] L :=
  ⟨rfl, v, fun a w he _ => by subst he; rw [results_tmp hr]; rw [← hv]; rfl, h⟩
theorem QBody_ret0 {fn : Func} {R : Ending → Hp → Prop} {e : Env} (hr : fn.results = #[]) (h : R (.returned (.tuple #[])) L) : QBody P fn N w0 R .ret e [] L :=
  ⟨rfl, _, fun _ _ _ _ => results_none hr _ _ _, h⟩
theorem QBody_end0 {fn : Func} {R : Ending → Hp → Prop} {e : Env} (hr : fn.results = #[]) (h : R (.returned (.tuple #[])) L) : QBody P fn N w0 R .normal e [] L :=
  ⟨rfl, _, fun _ _ _ _ => results_none hr _ _ _, h⟩
theorem QBody_panic {fn : Func} {R : Ending → Hp → Prop} {e : Env} {ch : List PanicEntry} (h : R (.panicked ch) L) : QBody P fn N w0 R (.panic ch) e [] L := ⟨rfl, h⟩
end

/-! ## The same, the slot written out -/
section
variable {P : Program} {r : Option Nat} {n N : Nat} {w0 : World} {ops : Array Oper} {rest : List Oper} {Q : Post} {e : Env} {ds : List Deferred} {L : Hp}
variable {d : Nat} {op : Op} {ty : TypeId} {pos : String} {af : Array Edge} {g : Option (Nat × Bool)}
theorem OPS_valS {v : Value} (hv : Val P N w0 L e ⟨some d, op, ty, pos, af, g⟩ v) (hg : Region.wanted ⟨some d, op, ty, pos, af, g⟩ (yieldE ops e) = true) (hnd : isDefer op = false) (hd : Nat.blt d n = true)
    (h : OPS P r n N w0 ops rest Q (upd e d v) ds L) : OPS P r n N w0 ops (⟨some d, op, ty, pos, af, g⟩ :: rest) Q e ds L := OPS_val hv hg hnd hd h
theorem OPS_newS {obj : Obj} {mk : Nat → Value} {φ : Obj → Prop} (hφ : φ obj) (hv : New P e ⟨some d, op, ty, pos, af, g⟩ obj mk) (hg : Region.wanted ⟨some d, op, ty, pos, af, g⟩ (yieldE ops e) = true) (hnd : isDefer op = false) (hd : Nat.blt d n = true)
    (h : ∀ b, OPS P r n N w0 ops rest Q (upd e d (mk b)) ds ((b, φ) :: L)) : OPS P r n N w0 ops (⟨some d, op, ty, pos, af, g⟩ :: rest) Q e ds L := OPS_new hφ hv hg hnd hd h
theorem OPS_turnN {L' : Hp} (hv : Turn P N w0 L e ⟨none, op, ty, pos, af, g⟩ L') (hg : Region.wanted ⟨none, op, ty, pos, af, g⟩ (yieldE ops e) = true) (hnd : isDefer op = false)
    (h : OPS P r n N w0 ops rest Q e ds L') : OPS P r n N w0 ops (⟨none, op, ty, pos, af, g⟩ :: rest) Q e ds L := OPS_turn hv hg hnd rfl h
theorem OPS_skipS (hg : Region.wanted ⟨some d, op, ty, pos, af, g⟩ (yieldE ops e) = false) (hd : Nat.blt d n = true) (h : OPS P r n N w0 ops rest Q (upd e d undef) ds L) :
    OPS P r n N w0 ops (⟨some d, op, ty, pos, af, g⟩ :: rest) Q e ds L := OPS_skip hg hd h
theorem OPS_retS {f : FuncId} {args : Array Value} {v : Value} (hv : Enters P e ⟨some d, op, ty, pos, af, g⟩ f args) (hc : Ret P N w0 L f args v) (hg : Region.wanted ⟨some d, op, ty, pos, af, g⟩ (yieldE ops e) = true) (hnd : isDefer op = false) (hd : Nat.blt d n = true)
    (h : OPS P r n N w0 ops rest Q (upd e d v) ds L) : OPS P r n N w0 ops (⟨some d, op, ty, pos, af, g⟩ :: rest) Q e ds L := OPS_ret hv hc hg hnd hd h
theorem OPS_retKS {f : FuncId} {args : Array Value} {K : Value → Hp → Prop} (hv : Enters P e ⟨some d, op, ty, pos, af, g⟩ f args) (hc : Tri P N w0 L f args fun x L' => ∃ v, x = .returned v ∧ K v L') (hg : Region.wanted ⟨some d, op, ty, pos, af, g⟩ (yieldE ops e) = true) (hnd : isDefer op = false) (hd : Nat.blt d n = true)
    (h : ∀ v L', K v L' → OPS P r n N w0 ops rest Q (upd e d v) ds L') : OPS P r n N w0 ops (⟨some d, op, ty, pos, af, g⟩ :: rest) Q e ds L := OPS_retK hv hc hg hnd hd h
theorem WP_regionN {id : Nat} {l : List Oper} (h : ∀ ops, OPS P r n N w0 ops l Q e ds L) : WP P r n N w0 (.region id l.toArray false) Q e ds L := WP_region (h _)
end
end Go.Proofs.Ytlpahkmfjpjheaa
end

section
namespace Go.Proofs.Ytlpahkmfjpjheaa
open Go.RowKit
section
variable {P : Program} {N : Nat} {w0 : World} {L : Hp} {e : Env} {d : Option Nat} {ty : TypeId} {pos : String} {af : Array Edge} {g : Option (Nat × Bool)}

/-! moves -/
theorem Val_move {x : Operand} {v : Value} (h : ev e x = v) : Val P N w0 L e ⟨d, .move x, ty, pos, af, g⟩ v := by
  intro w _; simp [execOp, h]
theorem Val_assign {x : Operand} {v : Value} (h : ev e x = v) : Val P N w0 L e ⟨d, .assign x, ty, pos, af, g⟩ v := by
  intro w _; simp [execOp, h]
theorem Val_pick_t {c a b : Operand} {v : Value} (hc : ev e c = .bool true) (h : ev e a = v) : Val P N w0 L e ⟨d, .pick c a b, ty, pos, af, g⟩ v := by
  intro w _; simp [execOp, hc, h, asBool]
theorem Val_pick_f {c a b : Operand} {v : Value} (hc : ev e c = .bool false) (h : ev e b = v) : Val P N w0 L e ⟨d, .pick c a b, ty, pos, af, g⟩ v := by
  intro w _; simp [execOp, hc, h, asBool]
theorem Val_nilCheck_p {x : Operand} {a : Addr} (h : ev e x = .pointer (some a)) : Val P N w0 L e ⟨d, .nilCheck x, ty, pos, af, g⟩ (.pointer (some a)) := by
  intro w _; simp [execOp, h]
theorem Val_nilCheck_f {x : Operand} {f : FuncId} {a b : Array Value} (h : ev e x = .func (.func f) a b) : Val P N w0 L e ⟨d, .nilCheck x, ty, pos, af, g⟩ (.func (.func f) a b) := by
  intro w _; simp [execOp, h]
theorem Val_extract {x : Operand} {i : Nat} {l : List Value} {v : Value} (h : ev e x = .tuple l.toArray) (hi : l[i]? = some v) : Val P N w0 L e ⟨d, .extract x i, ty, pos, af, g⟩ v := by
  intro w _; simp [execOp, h, Instr.extract, hi]
theorem Val_makeFunc {fn : Fn} {a b : List Operand} : Val P N w0 L e ⟨d, .makeFunc fn a.toArray b.toArray, ty, pos, af, g⟩ (.func fn (a.map (ev e)).toArray (b.map (ev e)).toArray) := by
  intro w _; simp [execOp, Instr.makeFunc]
theorem Val_makeInterface {t : TypeId} [hc : ConcTy P t] {x : Operand} {v : Value} (h : ev e x = v) :
    Val P N w0 L e ⟨d, .makeInterface t x, ty, pos, af, g⟩ (.iface t v) := by
  intro w _
  have hu := hc.und
  cases hd : P.underlying t with
  | none => rw [hd] at hu; cases hu
  | some td =>
    rw [hd] at hu
    cases td <;> first | (simp [execOp, h, Instr.makeInterface, run_underlying hd]; done) | (simp at hu)

/-! integers -/
def InK (k : IntKind) (m : Int) : Prop := k.wrap m = m
theorem InK_i64 {m : Int} (h1 : -9223372036854775808 ≤ m) (h2 : m ≤ 9223372036854775807) : InK .i64 m := by
  unfold InK; exact IntWalk.i64_in _ ⟨h1, h2⟩
theorem Val_add {x y : Operand} {t t' : TypeId} {k : IntKind} {m n : Int} (hx : ev e x = .int k m) (hy : ev e y = .int k n) (h : InK k (m + n)) : Val P N w0 L e ⟨d, .binOp .add t x y t', ty, pos, af, g⟩ (.int k (m + n)) := by
  intro w _; unfold InK at h; simp [execOp, hx, hy, binOp, Op.intArith, eqGuard, h]
theorem Val_sub {x y : Operand} {t t' : TypeId} {k : IntKind} {m n : Int} (hx : ev e x = .int k m) (hy : ev e y = .int k n) (h : InK k (m - n)) : Val P N w0 L e ⟨d, .binOp .sub t x y t', ty, pos, af, g⟩ (.int k (m - n)) := by
  intro w _; unfold InK at h; simp [execOp, hx, hy, binOp, Op.intArith, eqGuard, h]
theorem Val_mul {x y : Operand} {t t' : TypeId} {k : IntKind} {m n : Int} (hx : ev e x = .int k m) (hy : ev e y = .int k n) (h : InK k (m * n)) : Val P N w0 L e ⟨d, .binOp .mul t x y t', ty, pos, af, g⟩ (.int k (m * n)) := by
  intro w _; unfold InK at h; simp [execOp, hx, hy, binOp, Op.intArith, eqGuard, h]
theorem Val_quo {x y : Operand} {t t' : TypeId} {k : IntKind} {m n : Int} (hx : ev e x = .int k m) (hy : ev e y = .int k n) (h0 : n ≠ 0) (h : InK k (m.tdiv n)) : Val P N w0 L e ⟨d, .binOp .quo t x y t', ty, pos, af, g⟩ (.int k (m.tdiv n)) := by
  intro w _; unfold InK at h; simp [execOp, hx, hy, binOp, Op.intDiv, eqGuard, h, h0]
theorem Val_rem {x y : Operand} {t t' : TypeId} {k : IntKind} {m n : Int} (hx : ev e x = .int k m) (hy : ev e y = .int k n) (h0 : n ≠ 0) : Val P N w0 L e ⟨d, .binOp .rem t x y t', ty, pos, af, g⟩ (.int k (m.tmod n)) := by
  intro w _; simp [execOp, hx, hy, binOp, Op.intDiv, eqGuard, h0]
theorem Val_bits {x y : Operand} {t t' : TypeId} {k : IntKind} {m n : Int} {op : BinOp} {v : Value} (hx : ev e x = .int k m) (hy : ev e y = .int k n)
    (ho : (match op with | .and | .or | .xor | .andNot => true | _ => false) = true) (hv : ∀ w, (Op.intBits op k m n).run P w = .ok v w) : Val P N w0 L e ⟨d, .binOp op t x y t', ty, pos, af, g⟩ v := by
  intro w _
  cases op <;> simp at ho <;> simp [execOp, hx, hy, binOp, eqGuard, hv]
theorem Val_shift {x y : Operand} {t t' : TypeId} {k k' : IntKind} {m n : Int} {op : BinOp} {v : Value} (hx : ev e x = .int k m) (hy : ev e y = .int k' n)
    (ho : (match op with | .shl | .shr => true | _ => false) = true) (hv : ∀ w, (Op.shift op k m k' n).run P w = .ok v w) : Val P N w0 L e ⟨d, .binOp op t x y t', ty, pos, af, g⟩ v := by
  intro w _
  cases op <;> simp at ho <;> simp [execOp, hx, hy, binOp, eqGuard, hv]
theorem Val_eql {x y : Operand} {t t' : TypeId} {k : IntKind} {m n : Int} (hx : ev e x = .int k m) (hy : ev e y = .int k n) : Val P N w0 L e ⟨d, .binOp .eql t x y t', ty, pos, af, g⟩ (.bool (m == n)) := by
  intro w _; simp [execOp, hx, hy, binOp, Op.intCmp, eqGuard]
theorem Val_neq {x y : Operand} {t t' : TypeId} {k : IntKind} {m n : Int} (hx : ev e x = .int k m) (hy : ev e y = .int k n) : Val P N w0 L e ⟨d, .binOp .neq t x y t', ty, pos, af, g⟩ (.bool (m != n)) := by
  intro w _; simp [execOp, hx, hy, binOp, Op.intCmp, eqGuard]
theorem Val_lss {x y : Operand} {t t' : TypeId} {k : IntKind} {m n : Int} (hx : ev e x = .int k m) (hy : ev e y = .int k n) : Val P N w0 L e ⟨d, .binOp .lss t x y t', ty, pos, af, g⟩ (.bool (decide (m < n))) := by
  intro w _; simp [execOp, hx, hy, binOp, Op.intCmp, eqGuard]
theorem Val_leq {x y : Operand} {t t' : TypeId} {k : IntKind} {m n : Int} (hx : ev e x = .int k m) (hy : ev e y = .int k n) : Val P N w0 L e ⟨d, .binOp .leq t x y t', ty, pos, af, g⟩ (.bool (decide (m ≤ n))) := by
  intro w _; simp [execOp, hx, hy, binOp, Op.intCmp, eqGuard]
theorem Val_gtr {x y : Operand} {t t' : TypeId} {k : IntKind} {m n : Int} (hx : ev e x = .int k m) (hy : ev e y = .int k n) : Val P N w0 L e ⟨d, .binOp .gtr t x y t', ty, pos, af, g⟩ (.bool (decide (n < m))) := by
  intro w _; simp [execOp, hx, hy, binOp, Op.intCmp, eqGuard]
theorem Val_geq {x y : Operand} {t t' : TypeId} {k : IntKind} {m n : Int} (hx : ev e x = .int k m) (hy : ev e y = .int k n) : Val P N w0 L e ⟨d, .binOp .geq t x y t', ty, pos, af, g⟩ (.bool (decide (n ≤ m))) := by
  intro w _; simp [execOp, hx, hy, binOp, Op.intCmp, eqGuard]
theorem run_equalIn_bool (w : World) (d : Nat) {t : TypeId} [hb : BoolTy P t] (m n : Bool) : (Op.equalIn (d + 1) t (.bool m) (.bool n)).run P w = .ok (m == n) w := by
  simp [Op.equalIn, run_underlying hb.und]
theorem run_equal_bool (w : World) {t : TypeId} [hb : BoolTy P t] (m n : Bool) : (Op.equal t (.bool m) (.bool n)).run P w = .ok (m == n) w := by
  unfold Op.equal Op.maxDepth; exact run_equalIn_bool w 9999 m n
theorem Val_eqlB {x y : Operand} {t t' : TypeId} [hb : BoolTy P t] {m n : Bool} (hx : ev e x = .bool m) (hy : ev e y = .bool n) : Val P N w0 L e ⟨d, .binOp .eql t x y t', ty, pos, af, g⟩ (.bool (m == n)) := by
  intro w _; simp [execOp, hx, hy, binOp, eqGuard, run_equal_bool]
theorem Val_neqB {x y : Operand} {t t' : TypeId} [hb : BoolTy P t] {m n : Bool} (hx : ev e x = .bool m) (hy : ev e y = .bool n) : Val P N w0 L e ⟨d, .binOp .neq t x y t', ty, pos, af, g⟩ (.bool (m != n)) := by
  intro w _; simp [execOp, hx, hy, binOp, eqGuard, run_equal_bool, bne]
theorem Val_not {x : Operand} {t : TypeId} {m : Bool} (hx : ev e x = .bool m) : Val P N w0 L e ⟨d, .unOp .not t x, ty, pos, af, g⟩ (.bool (!m)) := by
  intro w _; simp [execOp, hx, Op.unary]
theorem Val_neg {x : Operand} {t : TypeId} {k : IntKind} {m : Int} (hx : ev e x = .int k m) (h : InK k (-m)) : Val P N w0 L e ⟨d, .unOp .neg t x, ty, pos, af, g⟩ (.int k (-m)) := by
  intro w _; unfold InK at h; simp [execOp, hx, Op.unary, Op.intArith, h]
theorem Val_convert {x : Operand} {s t : TypeId} {k k' : IntKind} {m : Int} [h1 : IntTy P s k] [h2 : IntTy P t k'] (hx : ev e x = .int k m) (h : InK k' m) : Val P N w0 L e ⟨d, .convert s t x, ty, pos, af, g⟩ (.int k' m) := by
  intro w _; unfold InK at h; simp [execOp, hx, convert, run_underlying h1.und, run_underlying h2.und, Conv.intToInt, h]
theorem Val_len {x : Operand} {t : TypeId} {E : TypeId} [h : SliceOf P t E] {a : Option Addr} {m c : Nat} (hx : ev e x = .slice a m c) : Val P N w0 L e ⟨d, .call { callee := .builtin .len, args := #[x], argTypes := #[t] }, ty, pos, af, g⟩ (.int .i64 m) := by
  intro w _; simp [execOp, resolve, invoke, builtin, hx, Builtin.len_, run_underlying h.und, goInt]
theorem Val_min {x y : Operand} {ts : Array TypeId} {k : IntKind} {m n : Int} (hx : ev e x = .int k m) (hy : ev e y = .int k n) : Val P N w0 L e ⟨d, .call { callee := .builtin .min, args := #[x, y], argTypes := ts }, ty, pos, af, g⟩ (.int k (min m n)) := by
  intro w _
  have : (if n < m then n else m) = min m n := by rw [Int.min_def]; split <;> split <;> omega
  simp [execOp, resolve, invoke, builtin, hx, hy, Builtin.min_, Builtin.min2, this]
theorem Val_max {x y : Operand} {ts : Array TypeId} {k : IntKind} {m n : Int} (hx : ev e x = .int k m) (hy : ev e y = .int k n) : Val P N w0 L e ⟨d, .call { callee := .builtin .max, args := #[x, y], argTypes := ts }, ty, pos, af, g⟩ (.int k (max m n)) := by
  intro w _
  have : (if m < n then n else m) = max m n := by rw [Int.max_def]; split <;> split <;> omega
  simp [execOp, resolve, invoke, builtin, hx, hy, Builtin.max_, Builtin.max2, this]
end
end Go.Proofs.Ytlpahkmfjpjheaa
end

section
namespace Go.Proofs.Ytlpahkmfjpjheaa
open Go.RowKit

/-- A row of cells, written as a list, none frozen. -/
def Blk (T : TypeId) (l : List Value) : Obj → Prop := Is (.cells l.toArray T (0, 0))
theorem blk_is {T : TypeId} {l : List Value} : Blk T l (.cells l.toArray T (0, 0)) := rfl
theorem is_is {o : Obj} : Is o o := rfl
inductive Pre : List Value → Nat → List Value → Prop
  | nil {l : List Value} : Pre l 0 []
  | cons {x : Value} {l vs : List Value} {n : Nat} (h : Pre l n vs) : Pre (x :: l) (n + 1) (x :: vs)
inductive Cut : List Value → Nat → Nat → List Value → Prop
  | here {l vs : List Value} {n : Nat} (h : Pre l n vs) : Cut l 0 n vs
  | there {x : Value} {l vs : List Value} {i n : Nat} (h : Cut l i n vs) : Cut (x :: l) (i + 1) n vs
theorem Pre.at_ {l vs : List Value} {n : Nat} (h : Pre l n vs) : vs.length = n ∧ ∀ j, j < n → l[j]? = vs[j]? := by
  induction h with
  | nil => exact ⟨rfl, fun j hj => absurd hj (by omega)⟩
  | cons h ih =>
    refine ⟨by simp [ih.1], fun j hj => ?_⟩
    cases j with
    | zero => rfl
    | succ j => simpa using ih.2 j (by omega)
theorem Cut.at_ {l vs : List Value} {i n : Nat} (h : Cut l i n vs) : vs.length = n ∧ ∀ j, j < n → l[i + j]? = vs[j]? := by
  induction h with
  | here h => simpa using h.at_
  | there h ih =>
    refine ⟨ih.1, fun j hj => ?_⟩
    rw [Nat.add_right_comm]
    simpa using ih.2 j hj
/-- What lies at i is overwritten. -/
inductive Over : List Value → List Value → List Value → Prop
  | nil {l : List Value} : Over l [] l
  | cons {x v : Value} {l vs l' : List Value} (h : Over l vs l') : Over (x :: l) (v :: vs) (v :: l')
inductive PutAt : List Value → Nat → List Value → List Value → Prop
  | here {l vs l' : List Value} (h : Over l vs l') : PutAt l 0 vs l'
  | there {x : Value} {l vs l' : List Value} {i : Nat} (h : PutAt l i vs l') : PutAt (x :: l) (i + 1) vs (x :: l')
def setL (l : List Value) (i : Nat) : List Value → List Value
  | [] => l
  | v :: vs => setL (l.set i v) (i + 1) vs
theorem setL_cons (x : Value) : ∀ (vs l : List Value) (i : Nat), setL (x :: l) (i + 1) vs = x :: setL l i vs
  | [], _, _ => rfl
  | v :: vs, l, i => by simp only [setL, List.set_cons_succ]; exact setL_cons x vs _ _
theorem Over.eq {l vs l' : List Value} (h : Over l vs l') : setL l 0 vs = l' ∧ vs.length ≤ l.length := by
  induction h with
  | nil => exact ⟨rfl, by simp⟩
  | cons h ih => exact ⟨by simp only [setL, List.set_cons_zero, setL_cons, ih.1], by simpa using ih.2⟩
theorem PutAt.eq {l vs l' : List Value} {i : Nat} (h : PutAt l i vs l') : setL l i vs = l' ∧ i + vs.length ≤ l.length := by
  induction h with
  | here h => simpa using h.eq
  | there h ih => exact ⟨by rw [setL_cons, ih.1], by have := ih.2; simp; omega⟩
theorem setL_length : ∀ (vs l : List Value) (i : Nat), (setL l i vs).length = l.length
  | [], _, _ => rfl
  | v :: vs, l, i => by simp only [setL, setL_length vs, List.length_set]
/-- Values of one cell. -/
def ones (vs : List Value) : Bool := vs.all fun v => v.oneCell'

section
variable {P : Program} {w : World}
theorem addr_add (b o i : Nat) : (⟨b, o, none⟩ : Addr).add i = ⟨b, o + i, none⟩ := by
  unfold Addr.add; split
  · rename_i h; subst h; rfl
  · rfl
theorem run_loadCellsFrom {a : Addr} : ∀ (n i : Nat) (acc : Array Value) (vs : List Value), vs.length = n → (∀ j, j < n → w.cell? (a.add (i + j)) = vs[j]?) → (loadCellsFrom a i n acc).run P w = .ok (acc ++ vs.toArray) w
  | 0, i, acc, vs, hl, _ => by
    have : vs = [] := List.eq_nil_of_length_eq_zero hl
    subst this; simp [loadCellsFrom]
  | n + 1, i, acc, vs, hl, hc => by
    match vs, hl with
    | v :: vs, hl =>
      have h0 : w.cell? (a.add i) = some v := by simpa using hc 0 (by omega)
      have := run_loadCellsFrom n (i + 1) (acc.push v) vs (by simpa using hl) (fun j hj => by
        have := hc (j + 1) (by omega)
        rw [show i + 1 + j = i + (j + 1) by omega, this]; simp)
      simp only [loadCellsFrom, Sem.run_bind, load, Sem.run, h0, Result.andThen_ok, this]
      simp
theorem run_loadVar1 {t : TypeId} {n bt : Nat} [TySz P t false n bt] {a : Addr} {v : Value} (h : w.cell? a = some v) : (loadVar t a).run P w = .ok v w := by
  simp [loadVar, run_isAgg (P := P) (t := t), load, Sem.run, h]
theorem run_loadVarN {t : TypeId} {n bt : Nat} [TySz P t true n bt] {a : Addr} {vs : List Value} (hl : vs.length = n) (h : ∀ j, j < n → w.cell? (a.add j) = vs[j]?) : (loadVar t a).run P w = .ok (.agg vs.toArray) w := by
  have := run_loadCellsFrom (P := P) (w := w) (a := a) n 0 #[] vs hl (by simpa using h)
  simp [loadVar, run_isAgg (P := P) (t := t), run_sizeOf (P := P) (t := t), loadCells, this]
/-- Stores, one by one, into one row. -/
theorem run_storeCells {b : Nat} {T : TypeId} : ∀ (vs : List Value) (l : List Value) (o i : Nat) (w : World), ones vs = true → o + i + vs.length ≤ l.length → w.heap[b]? = some (.cells l.toArray T (0, 0)) →
    ∃ w', (storeCells ⟨b, o, none⟩ vs i).run P w = .ok () w' ∧ w'.heap[b]? = some (.cells (setL l (o + i) vs).toArray T (0, 0)) ∧ w'.os = w.os ∧ w'.tape = w.tape ∧ w'.output = w.output ∧ w'.heap.size = w.heap.size ∧ ∀ k, k ≠ b → w'.heap[k]? = w.heap[k]?
  | [], l, o, i, w, _, _, hb => ⟨w, by simp [storeCells], hb, rfl, rfl, rfl, rfl, fun _ _ => rfl⟩
  | v :: vs, l, o, i, w, h1, hl, hb => by
    simp only [ones, List.all_cons, Bool.and_eq_true] at h1
    simp only [List.length_cons] at hl
    have hc : w.cell? ⟨b, o + i, none⟩ = some (l[o + i]'(by omega)) := by
      rw [cell_of_row w b (o + i) _ T (0, 0) hb]; simp
    have hf : w.frozen? ⟨b, o + i, none⟩ = false := by simp [World.frozen?, hb]
    have hb' : (w.setCell ⟨b, o + i, none⟩ v).heap[b]? = some (.cells (l.set (o + i) v).toArray T (0, 0)) := by
      simp [World.setCell, Array.getElem?_modify, hb]
    obtain ⟨w', hr, h2, h3, h4, h5, h6, h7⟩ := run_storeCells vs (l.set (o + i) v) o (i + 1) (w.setCell ⟨b, o + i, none⟩ v) h1.2 (by simp; omega) hb'
    refine ⟨w', ?_, h2, h3, h4, h5, h6.trans (by simp [World.setCell]), fun k hk => (h7 k hk).trans ?_⟩
    · have hrun : (store ⟨b, o + i, none⟩ v).run P w = .ok () (w.setCell ⟨b, o + i, none⟩ v) := by
        cases v <;> simp [Value.oneCell'] at h1 <;> simp [store, Sem.run, hc, hf]
      simp only [storeCells, addr_add, Sem.run_bind, hrun, Result.andThen_ok, hr]
    · simp [World.setCell, Array.getElem?_modify, Ne.symm hk]
theorem run_storeVar {b : Nat} {T t : TypeId} {g : Bool} {n bt : Nat} [TySz P t g n bt] {v : Value} {vs l : List Value} {o : Nat} (hv : v.cells = vs.toArray) (hn : vs.length = n) (h1 : ones vs = true) (hl : o + vs.length ≤ l.length) (hb : w.heap[b]? = some (.cells l.toArray T (0, 0))) :
    ∃ w', (storeVar t ⟨b, o, none⟩ v).run P w = .ok () w' ∧ w'.heap[b]? = some (.cells (setL l o vs).toArray T (0, 0)) ∧ w'.os = w.os ∧ w'.tape = w.tape ∧ w'.output = w.output ∧ w'.heap.size = w.heap.size ∧ ∀ k, k ≠ b → w'.heap[k]? = w.heap[k]? := by
  obtain ⟨w', hr, h⟩ := run_storeCells (P := P) vs l o 0 w h1 (by simpa using hl) hb
  exact ⟨w', by simp [storeVar, run_sizeOf (P := P) (t := t), hv, hn, hr], h⟩
end

section
variable {P : Program} {N : Nat} {w0 : World} {L : Hp} {e : Env} {d : Option Nat} {ty : TypeId} {pos : String} {af : Array Edge} {g : Option (Nat × Bool)}

/-! loads -/
theorem Val_load1 {t : TypeId} {n bt : Nat} [TySz P t false n bt] {x : Operand} {b o : Nat} {T : TypeId} {l : List Value} {v : Value} (hx : ev e x = .pointer (some ⟨b, o, none⟩)) (hm : Mem b (Blk T l) L) (hv : l[o]? = some v) :
    Val P N w0 L e ⟨d, .load t x, ty, pos, af, g⟩ v := by
  intro w hI
  have hc : w.cell? ⟨b, o, none⟩ = some v := by rw [hI.cell hm]; simpa using hv
  simp [execOp, hx, Instr.loadAt, Instr.sureAddr, run_loadVar1 hc]
theorem Val_loadN {t : TypeId} {n bt : Nat} [TySz P t true n bt] {x : Operand} {b o : Nat} {T : TypeId} {l vs : List Value} (hx : ev e x = .pointer (some ⟨b, o, none⟩)) (hm : Mem b (Blk T l) L) (hv : Cut l o n vs) :
    Val P N w0 L e ⟨d, .load t x, ty, pos, af, g⟩ (.agg vs.toArray) := by
  intro w hI
  obtain ⟨h1, h2⟩ := hv.at_
  simp [execOp, hx, Instr.loadAt, Instr.sureAddr, run_loadVarN h1 (fun j hj => by rw [addr_add, hI.cell hm]; simpa using h2 j hj)]
/-- The whole row. -/
theorem Val_loadW {t : TypeId} {n bt : Nat} [TySz P t true n bt] {x : Operand} {b : Nat} {T : TypeId} {l : List Value} (hx : ev e x = .pointer (some ⟨b, 0, none⟩)) (hm : Mem b (Blk T l) L) (hv : l.length = n) :
    Val P N w0 L e ⟨d, .load t x, ty, pos, af, g⟩ (.agg l.toArray) := by
  intro w hI
  simp [execOp, hx, Instr.loadAt, Instr.sureAddr, run_loadVarN (a := ⟨b, 0, none⟩) hv (fun j hj => by rw [addr_add, hI.cell hm]; simp)]
theorem Val_loadR1 {t : TypeId} {n bt : Nat} [TySz P t false n bt] {x : Operand} {b o : Nat} {v : Value} (hx : ev e x = .pointer (some ⟨b, o, none⟩)) (hb : b < N) (hv : w0.cell? ⟨b, o, none⟩ = some v) :
    Val P N w0 L e ⟨d, .load t x, ty, pos, af, g⟩ v := by
  intro w hI
  simp [execOp, hx, Instr.loadAt, Instr.sureAddr, run_loadVar1 (hI.cellRo hb hv)]
/-- Cells of memory that lies as it lay. -/
def Ro (w0 : World) (b o : Nat) (vs : List Value) : Prop := ∀ j v, vs[j]? = some v → w0.cell? ⟨b, o + j, none⟩ = some v
theorem Val_loadRN {t : TypeId} {n bt : Nat} [TySz P t true n bt] {x : Operand} {b o : Nat} {vs : List Value} (hx : ev e x = .pointer (some ⟨b, o, none⟩)) (hb : b < N) (hv : Ro w0 b o vs) (hl : vs.length = n) :
    Val P N w0 L e ⟨d, .load t x, ty, pos, af, g⟩ (.agg vs.toArray) := by
  intro w hI
  simp [execOp, hx, Instr.loadAt, Instr.sureAddr, run_loadVarN hl (fun j hj => by
    have hj' : j < vs.length := by omega
    rw [addr_add, List.getElem?_eq_getElem hj']; exact hI.cellRo hb (hv j _ (List.getElem?_eq_getElem hj')))]

/-! stores -/
theorem Turn_store {t : TypeId} {g' : Bool} {n bt : Nat} [TySz P t g' n bt] {x y : Operand} {b o : Nat} {T : TypeId} {v : Value} {vs l l' : List Value} {L' : Hp} (hx : ev e x = .pointer (some ⟨b, o, none⟩)) (hy : ev e y = v) (hu : Up L b (Blk T l) (Blk T l') L')
    (hv : v.cells = vs.toArray) (hp : PutAt l o vs l') (hn : vs.length = n) (h1 : ones vs = true) :
    Turn P N w0 L e ⟨d, .store t x y, ty, pos, af, g⟩ L' := by
  intro w hI
  obtain ⟨w', hr, h2, h3, h4, h5, h6, h7⟩ := run_storeVar (P := P) (w := w) (t := t) (T := T) (l := l) hv hn h1 hp.eq.2 (hI.obj hu.mem)
  refine ⟨w', by simp [execOp, hx, hy, Instr.storeAt, Instr.sureAddr, hr], hI.turn hu h3 h4 h5 (by omega) (fun k _ hk => h7 k hk) ⟨_, h2, ?_⟩⟩
  rw [hp.eq.1]; rfl
/-- At a place that is no literal. -/
theorem Turn_storeG {t : TypeId} {g' : Bool} {n bt : Nat} [TySz P t g' n bt] {x y : Operand} {b o : Nat} {T : TypeId} {v : Value} {vs l l' : List Value} {L' : Hp} (hx : ev e x = .pointer (some ⟨b, o, none⟩)) (hy : ev e y = v) (hu : Up L b (Blk T l) (Blk T l') L')
    (hv : v.cells = vs.toArray) (hl : o + vs.length ≤ l.length) (hp : setL l o vs = l') (hn : vs.length = n) (h1 : ones vs = true) :
    Turn P N w0 L e ⟨d, .store t x y, ty, pos, af, g⟩ L' := by
  intro w hI
  obtain ⟨w', hr, h2, h3, h4, h5, h6, h7⟩ := run_storeVar (P := P) (w := w) (t := t) (T := T) (l := l) hv hn h1 hl (hI.obj hu.mem)
  refine ⟨w', by simp [execOp, hx, hy, Instr.storeAt, Instr.sureAddr, hr], hI.turn hu h3 h4 h5 (by omega) (fun k _ hk => h7 k hk) ⟨_, h2, ?_⟩⟩
  rw [hp]; rfl

/-! new blocks -/
theorem New_alloc {t : TypeId} {z : List Value} [hz : TyZero P t z] : New P e ⟨d, .alloc t, ty, pos, af, g⟩ (.cells z.toArray t (0, 0)) (fun b => .pointer (some ⟨b, 0, none⟩)) := by
  intro w
  obtain ⟨v, hr, hv⟩ := run_zeroValue (P := P) (w := w) (t := t) (z := z)
  simp [execOp, Instr.alloc, hr, newVar, newRow, newObj, Sem.run, hv]
theorem New_box {t : TypeId} {x : Operand} {v : Value} {vs : List Value} (hx : ev e x = v) (hv : v.cells = vs.toArray) : New P e ⟨d, .box t x, ty, pos, af, g⟩ (.cells vs.toArray t (0, 0)) (fun b => .pointer (some ⟨b, 0, none⟩)) := by
  intro w
  simp [execOp, Instr.box, hx, newVar, newRow, newObj, Sem.run, hv]
theorem New_makeMap {t : TypeId} : New P e ⟨d, .makeMap t none, ty, pos, af, g⟩ (.map #[] 0) (fun b => .map (some b)) := by
  intro w
  simp [execOp, Instr.makeMap, newObj, Sem.run]

/-! addresses -/
theorem Val_fieldAddr {t ft : TypeId} {i off : Nat} [hf : FieldOff P t i off ft] {g' : Bool} {n bt : Nat} [TySz P ft g' (n + 1) bt] {x : Operand} {b o : Nat} (hx : ev e x = .pointer (some ⟨b, o, none⟩)) :
    Val P N w0 L e ⟨d, .fieldAddr t x i, ty, pos, af, g⟩ (.pointer (some ⟨b, o + off, none⟩)) := by
  intro w _
  have := hf.fld
  cases hu : P.underlying t with
  | none => rw [hu] at this; cases this
  | some td =>
    rw [hu] at this
    cases td <;> simp at this
    rename_i fs
    obtain ⟨f, hf1, hf2, hf3⟩ := this
    subst hf3
    simp [execOp, Instr.fieldAt, run_underlying hu, hf1, hx, Instr.sureAddr, fieldPlace, run_sizeOf (P := P) (t := f.type) (n := n + 1), hf2, addr_add]
theorem Val_fieldAddr0 {t ft : TypeId} {i : Nat} [hf : FieldOff P t i 0 ft] {g' : Bool} {n bt : Nat} [TySz P ft g' (n + 1) bt] {x : Operand} {b o : Nat} (hx : ev e x = .pointer (some ⟨b, o, none⟩)) :
    Val P N w0 L e ⟨d, .fieldAddr t x i, ty, pos, af, g⟩ (.pointer (some ⟨b, o, none⟩)) := Val_fieldAddr (off := 0) hx
theorem Val_indexAddr {t E : TypeId} [hs : SliceOf P t E] {g' : Bool} {n bt : Nat} [TySz P E g' n bt] {x y : Operand} {b o m c i : Nat} {k : IntKind} {q : Int} (hx : ev e x = .slice (some ⟨b, o, none⟩) m c) (hy : ev e y = .int k q) (hq : q = (i : Int)) (hi : i < m) :
    Val P N w0 L e ⟨d, .indexAddr t x y, ty, pos, af, g⟩ (.pointer (some ⟨b, o + i * n, none⟩)) := by
  intro w _
  subst hq
  simp [execOp, Instr.indexAt, hx, hy, asIntOf, run_underlying hs.und, hi, run_sizeOf (P := P) (t := E), addr_add]
theorem Val_indexAddr1 {t E : TypeId} [hs : SliceOf P t E] {g' : Bool} {bt : Nat} [TySz P E g' 1 bt] {x y : Operand} {b o m c i : Nat} {k : IntKind} {q : Int} (hx : ev e x = .slice (some ⟨b, o, none⟩) m c) (hy : ev e y = .int k q) (hq : q = (i : Int)) (hi : i < m) :
    Val P N w0 L e ⟨d, .indexAddr t x y, ty, pos, af, g⟩ (.pointer (some ⟨b, o + i, none⟩)) := by
  have := Val_indexAddr (P := P) (N := N) (w0 := w0) (L := L) (e := e) (d := d) (ty := ty) (pos := pos) (af := af) (g := g) (t := t) (n := 1) hx hy hq hi
  rwa [Nat.mul_one] at this
/-- Of an array. -/
theorem Val_indexAddrA {t E : TypeId} {len : Nat} [hs : ArrayOf P t len E] {g' : Bool} {n bt : Nat} [TySz P E g' n bt] {x y : Operand} {b o i : Nat} {k : IntKind} {q : Int} (hx : ev e x = .pointer (some ⟨b, o, none⟩)) (hy : ev e y = .int k q) (hq : q = (i : Int)) (hi : i < len) :
    Val P N w0 L e ⟨d, .indexAddr t x y, ty, pos, af, g⟩ (.pointer (some ⟨b, o + i * n, none⟩)) := by
  intro w _
  subst hq
  simp [execOp, Instr.indexAt, hx, hy, asIntOf, run_underlying hs.und, hi, run_sizeOf (P := P) (t := E), addr_add, Instr.sureAddr]
theorem Val_indexAddrA1 {t E : TypeId} {len : Nat} [hs : ArrayOf P t len E] {g' : Bool} {bt : Nat} [TySz P E g' 1 bt] {x y : Operand} {b o i : Nat} {k : IntKind} {q : Int} (hx : ev e x = .pointer (some ⟨b, o, none⟩)) (hy : ev e y = .int k q) (hq : q = (i : Int)) (hi : i < len) :
    Val P N w0 L e ⟨d, .indexAddr t x y, ty, pos, af, g⟩ (.pointer (some ⟨b, o + i, none⟩)) := by
  have := Val_indexAddrA (P := P) (N := N) (w0 := w0) (L := L) (e := e) (d := d) (ty := ty) (pos := pos) (af := af) (g := g) (t := t) (n := 1) hx hy hq hi
  rwa [Nat.mul_one] at this
end
end Go.Proofs.Ytlpahkmfjpjheaa
end

section
namespace Go.Proofs.Ytlpahkmfjpjheaa
open Go.RowKit

class HasBody (P : Program) (f : FuncId) : Prop where
  body : (P.funcs[f]?).bind (fun fn => if fn.name == "runtime.NumGoroutine" then none else fn.body.map (fun _ => ())) = some ()

section
variable {P : Program} {N : Nat} {w0 : World} {L : Hp} {e : Env} {d : Option Nat} {ty : TypeId} {pos : String} {af : Array Edge} {g : Option (Nat × Bool)}

theorem run_callFunc {f : FuncId} [h : HasBody P f] (args : Array Value) (w : World) : (callFunc f args).run P w = .ok (.enter f args) w := by
  have := h.body
  cases hf : P.funcs[f]? with
  | none => rw [hf] at this; cases this
  | some fn =>
    rw [hf] at this
    simp only [Option.bind_some] at this
    split at this
    · cases this
    · rename_i hn
      cases hb : fn.body with
      | none => rw [hb] at this; cases this
      | some c =>
        have hn' : ¬ fn.name = "runtime.NumGoroutine" := by simpa using hn
        simp [callFunc, hf, hn', hb]

theorem Enters_fn {f : FuncId} [HasBody P f] {xs : List Operand} {ts : Array TypeId} {vs : List Value} (hv : xs.map (ev e) = vs) : Enters P e ⟨d, .call { callee := .value (.func f), args := xs.toArray, argTypes := ts }, ty, pos, af, g⟩ f vs.toArray := by
  intro w
  subst hv
  simp [execOp, resolve, ev, Deferred.ofValue, invoke, run_callFunc]
theorem Enters_val {x : Operand} {f : FuncId} [HasBody P f] {xs : List Operand} {ts : Array TypeId} {vs cf cc : List Value} (hx : ev e x = .func (.func f) cf.toArray cc.toArray) (hv : cf ++ xs.map (ev e) ++ cc = vs) :
    Enters P e ⟨d, .call { callee := .value x, args := xs.toArray, argTypes := ts }, ty, pos, af, g⟩ f vs.toArray := by
  intro w
  subst hv
  simp [execOp, resolve, hx, Deferred.ofValue, invoke, run_callFunc]

/-! aggregates -/
theorem Val_field {t ft : TypeId} {i off : Nat} [hf : FieldOff P t i off ft] {g' : Bool} {n bt : Nat} [TySz P ft g' n bt] {x : Operand} {l vs : List Value} {v : Value} (hx : ev e x = .agg l.toArray) (hc : Cut l off n vs) (hv : (if g' then Value.agg vs.toArray else vs.headD undef) = v) (hn : 0 < n) (h1 : g' = false → n = 1) :
    Val P N w0 L e ⟨d, .field t x i, ty, pos, af, g⟩ v := by
  intro w _
  have := hf.fld
  obtain ⟨c1, c2⟩ := hc.at_
  cases hu : P.underlying t with
  | none => rw [hu] at this; cases this
  | some td =>
    rw [hu] at this
    cases td <;> simp at this
    rename_i fs
    obtain ⟨f, hf1, hf2, hf3⟩ := this
    subst hf3
    cases g' with
    | true =>
      simp only [if_true] at hv
      subst hv
      have : (l.toArray.extract off (off + n)) = vs.toArray := by
        apply Array.ext'
        apply List.ext_getElem?
        intro j
        by_cases hj : j < n
        · have := c2 j hj
          simp [hj, this]
        · simp [List.getElem?_take, hj, List.getElem?_eq_none (show vs.length ≤ j by omega)]
      simp [execOp, Instr.field, run_underlying hu, hf1, hx, asAgg, part, run_isAgg (P := P) (t := f.type), run_sizeOf (P := P) (t := f.type), hf2]
      simpa using this
    | false =>
      simp only [Bool.false_eq_true, if_false] at hv
      have hn1 := h1 rfl
      subst hn1
      match vs, c1 with
      | [u], _ =>
        have h0 : l[off]? = some u := by simpa using c2 0 (by omega)
        simp only [List.headD_cons] at hv
        subst hv
        simp [execOp, Instr.field, run_underlying hu, hf1, hx, asAgg, part, run_isAgg (P := P) (t := f.type), hf2, h0]


class BuildTy (P : Program) (t : TypeId) (pl : outParam (Nat → Option (Nat × Nat))) (z : outParam (List Value)) : Prop where
  ok : ∀ parts, P.built t parts = Instr.fill pl z.toArray parts

inductive FillR (pl : Nat → Option (Nat × Nat)) : List Value → List (Nat × Value) → List Value → Prop
  | nil {l : List Value} : FillR pl l [] l
  | cons {l l1 l' vs : List Value} {i off sz : Nat} {v : Value} {rest : List (Nat × Value)} (hp : pl i = some (off, sz)) (hv : v.cells = vs.toArray) (hs : vs.length = sz) (hput : PutAt l off vs l1) (k : FillR pl l1 rest l') : FillR pl l ((i, v) :: rest) l'

theorem FillR.c1 {pl : Nat → Option (Nat × Nat)} {l l1 l' : List Value} {i off : Nat} {v u : Value} {rest : List (Nat × Value)} (hp : pl i = some (off, 1)) (hv : v = u) (hu : u.cells = #[u]) (hput : PutAt l off [u] l1) (k : FillR pl l1 rest l') : FillR pl l ((i, v) :: rest) l' :=
  .cons hp (vs := [u]) (by rw [hv, hu]) rfl hput k
theorem FillR.cA {pl : Nat → Option (Nat × Nat)} {l l1 l' xs : List Value} {i off sz : Nat} {v : Value} {rest : List (Nat × Value)} (hp : pl i = some (off, sz)) (hv : v = .agg xs.toArray) (hs : xs.length = sz) (hput : PutAt l off xs l1) (k : FillR pl l1 rest l') : FillR pl l ((i, v) :: rest) l' :=
  .cons hp (vs := xs) (by rw [hv]; rfl) hs hput k

theorem foldl_setL : ∀ (vs l : List Value) (off j : Nat), (vs.zipIdx j).foldl (fun cs (c, j) => cs.setIfInBounds (off + j) c) l.toArray = (setL l (off + j) vs).toArray
  | [], _, _, _ => rfl
  | v :: vs, l, off, j => by
    simp only [List.zipIdx_cons, List.foldl_cons, setL]
    have := foldl_setL vs (l.set (off + j) v) off (j + 1)
    simp only [List.setIfInBounds_toArray] at this ⊢
    rw [this]; rfl
theorem foldl_setL0 (vs l : List Value) (off : Nat) : vs.toArray.zipIdx.foldl (fun cs (c, j) => cs.setIfInBounds (off + j) c) l.toArray = (setL l off vs).toArray := by
  have := foldl_setL vs l off 0
  rw [Nat.add_zero] at this
  rw [← this, ← Array.foldl_toList]
  congr 1
  simp
theorem FillR.eq {pl : Nat → Option (Nat × Nat)} {l l' : List Value} {ps : List (Nat × Value)} (h : FillR pl l ps l') : Instr.fill pl l.toArray ps = some l'.toArray := by
  induction h with
  | nil => rfl
  | cons hp hv hs hput k ih =>
    obtain ⟨h1, h2⟩ := hput.eq
    simp only [Instr.fill, hp, hv]
    rw [if_neg (by simp; omega), foldl_setL0, h1]
    exact ih
theorem Val_build {t : TypeId} {pl : Nat → Option (Nat × Nat)} {z cs : List Value} [hb : BuildTy P t pl z] {ps : List (Nat × Operand)} {qs : List (Nat × Value)} (hq : ps.map (fun p => (p.1, ev e p.2)) = qs) (h : FillR pl z qs cs) :
    Val P N w0 L e ⟨d, .build t ps.toArray, ty, pos, af, g⟩ (.agg cs.toArray) := by
  intro w _
  have := run_build (P := P) w t qs.toArray cs.toArray (by rw [hb.ok]; simpa using h.eq)
  subst hq
  simp only [execOp, List.map_toArray, Sem.run_bind]
  simp only [this]
  simp
theorem fill_all (sz : Nat) (place : Nat → Option (Nat × Nat)) (hp : ∀ i, place i = some (i * sz, sz)) : ∀ (vs : List (List Value)) (k : Nat) (done l : List Value) (_ : done.length = k * sz) (_ : l.length = vs.length * sz) (_ : ∀ v ∈ vs, v.length = sz) (ps : List (Nat × Value)) (_ : ps.map (fun p => (p.1, p.2.cells)) = (vs.zipIdx k).map (fun p => (p.2, p.1.toArray))),
    Instr.fill place (done ++ l).toArray ps = some (done ++ vs.flatten).toArray
  | [], k, done, l, _, hl, _, ps, he => by
    have : ps = [] := by simpa using he
    subst this
    have : l = [] := List.eq_nil_of_length_eq_zero (by simpa using hl)
    subst this
    simp [Instr.fill]
  | v :: vs, k, done, l, hd, hl, hv, ps, he => by
    match ps, he with
    | (i, p) :: ps, he =>
      simp only [List.map_cons, List.zipIdx_cons, List.cons.injEq, Prod.mk.injEq] at he
      obtain ⟨⟨rfl, hc⟩, he⟩ := he
      have hvl := hv v List.mem_cons_self
      simp only [List.length_cons, Nat.add_mul, Nat.one_mul] at hl
      simp only [Instr.fill, hp, hc]
      rw [if_neg (by simp; omega), foldl_setL0]
      have hs : setL (done ++ l) (i * sz) v = (done ++ v) ++ l.drop sz := by
        rw [← hd]
        clear hp hd hc he
        have key : ∀ (done : List Value) (v l : List Value), v.length ≤ l.length → setL (done ++ l) done.length v = done ++ v ++ l.drop v.length := by
          intro done v
          induction v generalizing done with
          | nil => intro l _; simp [setL]
          | cons x v ih =>
            intro l hl
            cases l with
            | nil => simp at hl
            | cons y l =>
              simp only [setL]
              have h1 : (done ++ y :: l).set done.length x = (done ++ [x]) ++ l := by simp
              rw [h1]
              have := ih (done ++ [x]) l (by simpa using hl)
              simp only [List.length_append, List.length_cons, List.length_nil, Nat.zero_add] at this
              rw [this]; simp
        rw [key done v l (by omega), hvl]
      rw [hs]
      have := fill_all sz place hp vs (i + 1) (done ++ v) (l.drop sz) (by simp [Nat.add_mul]; omega) (by simp; omega) (fun u hu => hv u (List.mem_cons_of_mem _ hu)) ps he
      rw [this]
      simp
/-- '[]T{..}': every element given, in order. -/
theorem New_buildSlice {t E : TypeId} [hs : SliceOf P t E] {g' : Bool} {sz bt : Nat} [TySz P E g' (sz + 1) bt] {z : List Value} [TyZero P E z] {len : Nat} {ps : List (Nat × Operand)} {vs : List (List Value)}
    (hq : ps.map (fun p => (p.1, (ev e p.2).cells)) = vs.zipIdx.map (fun p => (p.2, p.1.toArray))) (hl : vs.length = len) (hv : vs.all (fun v => v.length == sz + 1) = true) (hlen : len * (sz + 1) ≤ 16777216) (_hz : z.length = sz + 1) (h0 : 0 < len) :
    New P e ⟨d, .buildSlice t len ps.toArray, ty, pos, af, g⟩ (.cells vs.flatten.toArray E (0, 0)) (fun b => .slice (some ⟨b, 0, none⟩) len len) := by
  intro w
  obtain ⟨zv, hzr, hzc⟩ := run_zeroValue (P := P) (w := w) (t := E) (z := z)
  have hne : ¬ (len = 0 ∨ sz + 1 = 0) := by omega
  have hfill := fill_all (sz + 1) (fun i => some (i * (sz + 1), sz + 1)) (fun _ => rfl) vs 0 [] ((List.range (len * (sz + 1))).map fun i => z.toArray[i % z.length]!) (by simp) (by simp [hl]) (by simpa using hv) (ps.map fun p => (p.1, ev e p.2)) (by rw [List.map_map]; exact hq)
  simp only [List.nil_append] at hfill
  have hr : ((Array.range (len * (sz + 1))).map fun i => z.toArray[i % z.toArray.size]!) = ((List.range (len * (sz + 1))).map fun i => z.toArray[i % z.length]!).toArray := by
    apply Array.ext'; simp
  simp only [execOp, List.map_toArray]
  have h1 : ¬ len * (sz + 1) > 2 ^ 24 := by simpa using hlen
  have h2 : ¬ len * (sz + 1) = 0 := Nat.mul_ne_zero (by omega) (by omega)
  simp only [Instr.buildSlice, Sem.run_bind, run_underlying hs.und, Result.andThen_ok, run_sizeOf (P := P) (t := E), if_neg h1, if_neg h2, hzr, Sem.run_pure, hzc, hr, hfill, newRow, newObj]
  simp [Sem.run]
inductive CellsR : List Value → List (List Value) → Prop
  | nil : CellsR [] []
  | cons {v : Value} {xs : List Value} {vals : List Value} {vs : List (List Value)} (h : v.cells = xs.toArray) (k : CellsR vals vs) : CellsR (v :: vals) (xs :: vs)
theorem CellsR.c1 {v u : Value} {vals : List Value} {vs : List (List Value)} (hv : v = u) (hu : u.cells = #[u]) (k : CellsR vals vs) : CellsR (v :: vals) ([u] :: vs) := .cons (by rw [hv, hu]) k
theorem CellsR.cA {v : Value} {xs vals : List Value} {vs : List (List Value)} (hv : v = .agg xs.toArray) (k : CellsR vals vs) : CellsR (v :: vals) (xs :: vs) := .cons (by rw [hv]; rfl) k
theorem CellsR.eq {vals : List Value} {vs : List (List Value)} (h : CellsR vals vs) : vals.map Value.cells = vs.map List.toArray := by
  induction h with
  | nil => rfl
  | cons h k ih => simp [h, ih]
theorem New_buildSliceR {t E : TypeId} [hs : SliceOf P t E] {g' : Bool} {sz bt : Nat} [TySz P E g' (sz + 1) bt] {z : List Value} [TyZero P E z] {len : Nat} {ps : List (Nat × Operand)} {vals : List Value} {vs : List (List Value)}
    (hp : ps.map (·.1) = List.range len) (hq : ps.map (fun p => ev e p.2) = vals) (hc : CellsR vals vs) (hv : vs.all (fun v => v.length == sz + 1) = true) (hlen : len * (sz + 1) ≤ 16777216) (hz : z.length = sz + 1) (h0 : 0 < len) :
    New P e ⟨d, .buildSlice t len ps.toArray, ty, pos, af, g⟩ (.cells vs.flatten.toArray E (0, 0)) (fun b => .slice (some ⟨b, 0, none⟩) len len) := by
  subst hq
  have h1 := hc.eq
  have hl1 : ps.length = len := by have := congrArg List.length hp; simpa using this
  have hl2 : vs.length = len := by have := congrArg List.length h1; simpa [hl1] using this.symm
  refine New_buildSlice (vs := vs) ?_ hl2 hv hlen hz h0
  apply List.ext_getElem
  · simp [hl1, hl2]
  · intro i hi hi'
    have hi1 : i < ps.length := by simpa using hi
    have hi2 : i < vs.length := by omega
    have a1 : (ps.map (·.1))[i]'(by simpa using hi1) = i := by simp [hp]
    have a2 : ((ps.map (fun p => ev e p.2)).map Value.cells)[i]'(by simpa using hi1) = (vs.map List.toArray)[i]'(by simpa using hi2) := by simp only [h1]
    simp only [List.getElem_map, List.getElem_zipIdx] at a1 a2 ⊢
    rw [a1, a2]; simp
end
end Go.Proofs.Ytlpahkmfjpjheaa
end

section
namespace Go.Proofs.Ytlpahkmfjpjheaa
open Go.RowKit

class MethodOf (P : Program) (t : TypeId) (name : String) (f : outParam FuncId) : Prop where
  run : ∀ v w, (method (P.types.size + Made.depth) t v name).run P w = .ok (f, v) w

section
variable {P : Program} {r : Option Nat} {n N : Nat} {w0 : World} {L : Hp} {e : Env} {d : Option Nat} {ty : TypeId} {pos : String} {af : Array Edge} {g : Option (Nat × Bool)} {ops : Array Oper} {rest : List Oper} {Q : Post} {ds : List Deferred}

theorem OPS_panicV {x : Operand} {t : TypeId} {v : Value} (hx : ev e x = .iface t v) (hg : Region.wanted ⟨d, .panic x, ty, pos, af, g⟩ (yieldE ops e) = true)
    (h : Q (.panic [{ v := .iface t v, recovered := false }]) e ds L) : OPS P r n N w0 ops (⟨d, .panic x, ty, pos, af, g⟩ :: rest) Q e ds L :=
  OPS_panic (fun w => by simp [execOp, hx, Instr.panic, goPanic, Sem.run]) hg rfl h
theorem Enters_inv {x : Operand} {t : TypeId} {v : Value} {name : String} {f : FuncId} [hm : MethodOf P t name f] [HasBody P f] {xs : List Operand} {ts : Array TypeId} {vs : List Value} (hx : ev e x = .iface t v) (hv : v :: xs.map (ev e) = vs) :
    Enters P e ⟨d, .call { callee := .invoke x name, args := xs.toArray, argTypes := ts }, ty, pos, af, g⟩ f vs.toArray := by
  intro w
  subst hv
  have ht : List.take xs.length (xs.map (ev e)) = xs.map (ev e) := List.take_of_length_le (by simp)
  simp [execOp, resolve, hx, invoke, callMethod, hm.run, run_callFunc, ht]
theorem Val_lenA {x : Operand} {t E : TypeId} {k : Nat} [h : ArrayOf P t k E] : Val P N w0 L e ⟨d, .call { callee := .builtin .len, args := #[x], argTypes := #[t] }, ty, pos, af, g⟩ (.int .i64 k) := by
  intro w _; simp [execOp, resolve, invoke, builtin, Builtin.len_, run_underlying h.und, goInt]
/-- 'arr[:h]' -/
theorem Val_sliceArr {x y : Operand} {t E : TypeId} {k : Nat} [ha : ArrayOf P t k E] {g' : Bool} {sz bt : Nat} [TySz P E g' sz bt] {b o : Nat} {q : Int} {h : Nat} {kd : IntKind} (hx : ev e x = .pointer (some ⟨b, o, none⟩)) (hy : ev e y = .int kd q) (hq : q = (h : Int)) (hh : h ≤ k) :
    Val P N w0 L e ⟨d, .slice t x none (some y) none, ty, pos, af, g⟩ (.slice (some ⟨b, o, none⟩) h k) := by
  intro w _
  subst hq
  simp [execOp, Instr.sliceAt, run_underlying ha.und, hx, hy, Instr.sureAddr, Instr.sliceBounds, Instr.sliceBound, asIntOf, hh, run_sizeOf (P := P) (t := E), addr_add]
/-- 's[lo:hi]' of a slice that lies somewhere. -/
theorem run_slice {t E : TypeId} [ha : SliceOf P t E] {g' : Bool} {sz bt : Nat} [TySz P E g' sz bt] {a : Option Addr} {len cap lo hi : Nat} (w : World) (h1 : lo ≤ hi) (h2 : hi ≤ cap) :
    (Instr.sliceAt t (.slice a len cap) (some (.int .i64 lo)) (some (.int .i64 hi)) none).run P w = .ok (.slice (if cap = lo then a else a.map (·.add (lo * sz))) (hi - lo) (cap - lo)) w := by
  simp [Instr.sliceAt, Instr.slice, run_underlying ha.und, Instr.sliceBounds, Instr.sliceBound, asIntOf, h1, h2, run_sizeOf (P := P) (t := E)]
theorem run_sliceLo {t E : TypeId} [ha : SliceOf P t E] {g' : Bool} {sz bt : Nat} [TySz P E g' sz bt] {a : Option Addr} {len cap lo : Nat} (w : World) (h1 : lo ≤ len) :
    (Instr.sliceAt t (.slice a len cap) (some (.int .i64 lo)) none none).run P w = .ok (.slice (if cap = lo then a else a.map (·.add (lo * sz))) (len - lo) (cap - lo)) w := by
  simp [Instr.sliceAt, Instr.slice, run_underlying ha.und, Instr.sliceBounds, Instr.sliceBound, asIntOf, h1, run_sizeOf (P := P) (t := E)]
theorem run_sliceHi {t E : TypeId} [ha : SliceOf P t E] {g' : Bool} {sz bt : Nat} [TySz P E g' sz bt] {a : Option Addr} {len cap hi : Nat} (w : World) (h2 : hi ≤ cap) :
    (Instr.sliceAt t (.slice a len cap) none (some (.int .i64 hi)) none).run P w = .ok (.slice (if cap = 0 then a else a.map (·.add (0 * sz))) hi cap) w := by
  simp [Instr.sliceAt, Instr.slice, run_underlying ha.und, Instr.sliceBounds, Instr.sliceBound, asIntOf, h2, run_sizeOf (P := P) (t := E)]

/-! ## A slice that grows -/
def Row (E : TypeId) (sz k cap : Nat) (xs : List Value) : Obj → Prop := fun o => ∃ cur : Array Value, o = .cells cur E (0, 0) ∧ k ≤ cap ∧ cap ≤ maxLen ∧ cur.size = cap * sz ∧ cur.toList.take (k * sz) = xs
def svV (s : Option (Nat × Nat)) (k : Nat) : Value := match s with
  | none => .slice none 0 0
  | some (b, cap) => .slice (some ⟨b, 0, none⟩) k cap
def svH (E : TypeId) (sz k : Nat) (xs : List Value) (s : Option (Nat × Nat)) (L : Hp) : Hp := match s with
  | none => L
  | some (b, cap) => (b, Row E sz k cap xs) :: L
/-- What goes with it: nil has no elements. -/
def svOk (s : Option (Nat × Nat)) (sz k : Nat) (xs : List Value) : Prop := xs.length = k * sz ∧ (s = none → k = 0)

theorem svOk_nil (sz : Nat) : svOk none sz 0 [] := ⟨by simp, fun _ => rfl⟩
theorem owns_of {E : TypeId} {sz k : Nat} {xs : List Value} {s : Option (Nat × Nat)} {w : World} (hI : Inv N w0 (svH E sz k xs s L) w) (hs : svOk s sz k xs) : w.ownsRow N E sz (svV s k) k xs := by
  refine ⟨hs.1, ?_⟩
  cases s with
  | none => exact .inl ⟨rfl, hs.2 rfl⟩
  | some p =>
    obtain ⟨b, cap⟩ := p
    obtain ⟨hb, o, ho, cur, rfl, h1, h2, h3, h4⟩ := hI.own _ (List.mem_cons_self)
    exact .inr ⟨b, cap, cur, rfl, hb, ho, h1, h2, h3, h4⟩

theorem run_append_sv {t E : TypeId} [hE : SliceOf P t E] {g' : Bool} {sz bt : Nat} [hS : TySz P E g' (sz + 1) bt] {z : List Value} [hZ : TyZero P E z] (hz : z.length = sz + 1)
    {k m c : Nat} {xs news : List Value} {s : Option (Nat × Nat)} {a : Addr} {w : World} (hI : Inv N w0 (svH E (sz + 1) k xs s L) w) (hs : svOk s (sz + 1) k xs)
    (hl : news.length = m * (sz + 1)) (hn : ∀ j u, news[j]? = some u → w.cell? (a.add j) = some u) (h1 : ones news = true) (h63 : k + m ≤ maxLen) (hby : (k + m) * bt ≤ 140737488355328) :
    ∃ s' w', (Builtin.append_ #[t, t] ty #[svV s k, .slice (some a) m c]).run P w = .ok (svV s' (k + m)) w' ∧ Inv N w0 (svH E (sz + 1) (k + m) (xs ++ news) s' L) w' ∧ svOk s' (sz + 1) (k + m) (xs ++ news) := by
  have hi := hS.inf
  have hzz := hZ.zero
  cases hin : P.info? E with
  | none => rw [hin] at hi; cases hi
  | some i =>
    rw [hin] at hi hzz
    simp only [Option.map_some, Option.some.injEq, Prod.mk.injEq] at hi
    cases hiz : i.zero with
    | none => simp [hiz] at hzz
    | some zv =>
      simp only [Option.bind_some, hiz, Option.map_some, Option.some.injEq] at hzz
      have hzs : zv.cells.size = sz + 1 := by rw [← Array.length_toList, hzz, hz]
      obtain ⟨v', w', hr, hown, hg, _, hat⟩ := run_append_own_at (P := P) w N t ty E i zv (sz + 1) bt hE.und hin hiz hi.1 hi.2 hzs (by omega) (svV s k) k xs (owns_of hI hs) a m c news hl hn
        (fun u hu => by simp only [ones, List.all_eq_true] at h1; exact h1 u hu) h63 hby hI.big
      obtain ⟨hl', hcase⟩ := hown
      have hbase : Inv N w0 L w := by
        cases s with
        | none => exact hI
        | some p => exact hI.wk (.drop (.refl _))
      have hne : ∀ y ∈ L, some y.1 ≠ (svV s k).ownBlock := by
        intro y hy
        cases s with
        | none => simp [svV, Value.ownBlock]
        | some p =>
          have := hI.dis
          simp only [svH, List.pairwise_cons] at this
          have := this.1 y hy
          simp only [svV, Value.ownBlock, ne_eq, Option.some.injEq]
          exact fun h => this h.symm
      have hlow : ∀ j, some j = (svV s k).ownBlock → N ≤ j := by
        intro j hj
        cases s with
        | none => simp [svV, Value.ownBlock] at hj
        | some p =>
          have := (hI.own _ List.mem_cons_self).1
          simp only [svV, Value.ownBlock, Option.some.injEq] at hj
          rw [hj]; exact this
      have hL' : Inv N w0 L w' := by
        refine ⟨⟨hg.os.trans hbase.below.os, hg.tape.trans hbase.below.tape, hg.output.trans hbase.below.output, Nat.le_trans hbase.below.size hg.size, fun j hj => ?_⟩, Nat.le_trans hbase.big hg.size, hbase.dis, fun y hy => ?_⟩
        · rw [hg.block j (Nat.lt_of_lt_of_le hj hbase.big) (fun h => by have := hlow j h; omega)]
          exact hbase.below.block j hj
        · obtain ⟨h1, o, ho, hφ⟩ := hbase.own y hy
          exact ⟨h1, o, (hg.block _ (hbase.lt hy) (hne y hy)).trans ho, hφ⟩
      rcases hcase with ⟨rfl, h0⟩ | ⟨gb, cap, cur, rfl, hgb, hh, hc1, hc2, hc3, hc4⟩
      · refine ⟨none, w', ?_, hL', hl', fun _ => h0⟩
        rw [hr]; simp [svV]
      · refine ⟨some (gb, cap), w', hr, ⟨hL'.below, hL'.big, ?_, ?_⟩, hl', fun h => by cases h⟩
        · simp only [svH, List.pairwise_cons]
          refine ⟨fun y hy => ?_, hL'.dis⟩
          have hylt := hbase.lt hy
          have hat' : some gb = (svV s k).ownBlock ∨ some gb = some w.heap.size := hat
          rcases hat' with h | h
          · exact fun e => hne y hy (by rw [← e, ← h])
          · have h := Option.some.inj h
            show gb ≠ y.1
            omega
        · intro x hx
          rcases List.mem_cons.1 hx with rfl | hx
          · exact ⟨hgb, _, hh, cur, rfl, hc1, hc2, hc3, hc4⟩
          · exact hL'.own x hx

theorem OPS_append {t E : TypeId} [hE : SliceOf P t E] {g' : Bool} {sz bt : Nat} [hS : TySz P E g' (sz + 1) bt] {z : List Value} [hZ : TyZero P E z] (hz : z.length = sz + 1)
    {x y : Operand} {k m c b2 o2 : Nat} {xs news : List Value} {s : Option (Nat × Nat)} {Lb : Hp} (hx : ev e x = svV s k) (hy : ev e y = .slice (some ⟨b2, o2, none⟩) m c) (hL : Wk L (svH E (sz + 1) k xs s Lb))
    (hs : svOk s (sz + 1) k xs) (hn : ∀ w, Inv N w0 L w → ∀ j u, news[j]? = some u → w.cell? ⟨b2, o2 + j, none⟩ = some u) (hl : news.length = m * (sz + 1)) (h1 : ones news = true) (h63 : k + m ≤ maxLen) (hby : (k + m) * bt ≤ 140737488355328)
    (hg : Region.wanted ⟨d, .call { callee := .builtin .append, args := #[x, y], argTypes := #[t, t] }, ty, pos, af, g⟩ (yieldE ops e) = true) (hd : dstOk n d = true)
    (h : ∀ s', svOk s' (sz + 1) (k + m) (xs ++ news) → OPS P r n N w0 ops rest Q (updO e d (svV s' (k + m))) ds (svH E (sz + 1) (k + m) (xs ++ news) s' Lb)) :
    OPS P r n N w0 ops (⟨d, .call { callee := .builtin .append, args := #[x, y], argTypes := #[t, t] }, ty, pos, af, g⟩ :: rest) Q e ds L := by
  refine OPS_any (K := fun v L' => ∃ s', v = svV s' (k + m) ∧ L' = svH E (sz + 1) (k + m) (xs ++ news) s' Lb ∧ svOk s' (sz + 1) (k + m) (xs ++ news)) (fun w hI => ?_) hg rfl hd ?_
  · obtain ⟨s', w', hr, hI', hs'⟩ := run_append_sv (P := P) (ty := ty) (t := t) (E := E) (a := ⟨b2, o2, none⟩) (m := m) (c := c) hz (hI.wk hL) hs hl (fun j u hj => by rw [addr_add]; exact hn w hI j u hj) h1 h63 hby
    exact ⟨_, w', _, by simp [execOp, resolve, invoke, builtin, hx, hy, hr], hI', s', rfl, rfl, hs'⟩
  · rintro v L' ⟨s', rfl, rfl, hs'⟩
    exact h s' hs'
theorem blk_cells {b : Nat} {T : TypeId} {l : List Value} (hm : Mem b (Blk T l) L) : ∀ w, Inv N w0 L w → ∀ j u, l[j]? = some u → w.cell? ⟨b, 0 + j, none⟩ = some u := by
  intro w hI j u hj
  rw [Nat.zero_add, hI.cell hm]; simpa using hj
end

/-! ## Results -/
section
variable {P : Program} {N : Nat} {w0 : World} {L : Hp} {e : Env}
inductive ResR (P : Program) (e : Env) (L : Hp) : List ResultVar → List Value → Prop
  | nil : ResR P e L [] []
  | tmp {t : Nat} {v : Value} {rs : List ResultVar} {vs : List Value} (h : e t = v) (k : ResR P e L rs vs) : ResR P e L (.tmp t :: rs) (v :: vs)
  | cell1 {a t n bt b o : Nat} {T : TypeId} {l : List Value} {v : Value} {rs : List ResultVar} {vs : List Value} [TySz P t false n bt] (h : e a = .pointer (some ⟨b, o, none⟩)) (hm : Mem b (Blk T l) L) (hv : l[o]? = some v) (k : ResR P e L rs vs) : ResR P e L (.cell a t :: rs) (v :: vs)
  | cellN {a t n bt b o : Nat} {T : TypeId} {l us : List Value} {rs : List ResultVar} {vs : List Value} [TySz P t true n bt] (h : e a = .pointer (some ⟨b, o, none⟩)) (hm : Mem b (Blk T l) L) (hv : Cut l o n us) (k : ResR P e L rs vs) : ResR P e L (.cell a t :: rs) (.agg us.toArray :: vs)
theorem asAddr_ptr (a : Addr) : asAddr (.pointer (some a)) = pure a := rfl
theorem ResR.run {rs : List ResultVar} {vs : List Value} (h : ResR P e L rs vs) {a : Act} {w : World} (he : envOf a = e) (hI : Inv N w0 L w) :
    (rs.mapM fun | .tmp t => pure (a.tmps.getD t undef) | .cell x t => do loadVar t (← asAddr (a.tmps.getD x undef)) : Sem (List Value)).run P w = .ok vs w := by
  subst he
  induction h with
  | nil => simp
  | tmp h k ih =>
    have h' : a.tmps.getD _ undef = _ := h
    simp only [List.mapM_cons, Sem.run_bind, Sem.run_pure, Result.andThen_ok, ih, h']
  | cell1 h hm hv k ih =>
    rename_i x t n bt b o T l v rs vs _
    have h' : a.tmps.getD x undef = .pointer (some ⟨b, o, none⟩) := h
    have hc : w.cell? ⟨b, o, none⟩ = some v := by rw [hI.cell hm]; simpa using hv
    simp only [List.mapM_cons, Sem.run_bind, h', asAddr_ptr, Sem.run_pure, Result.andThen_ok, run_loadVar1 (P := P) (t := t) hc, ih]
  | cellN h hm hv k ih =>
    rename_i x t n bt b o T l us rs vs _
    have h' : a.tmps.getD x undef = .pointer (some ⟨b, o, none⟩) := h
    obtain ⟨h1, h2⟩ := hv.at_
    have hl := run_loadVarN (P := P) (w := w) (t := t) (a := ⟨b, o, none⟩) h1 (fun j hj => by rw [addr_add, hI.cell hm]; simpa using h2 j hj)
    simp only [List.mapM_cons, Sem.run_bind, h', asAddr_ptr, Sem.run_pure, Result.andThen_ok, hl, ih]
def resV : List Value → Value
  | [u] => u
  | vs => .tuple vs.toArray
theorem resV_eq (vs : List Value) : (if h : vs.toArray.size = 1 then vs.toArray[0] else Value.tuple vs.toArray) = resV vs := by
  match vs with
  | [] => rfl
  | [u] => rfl
  | u :: u' :: vs => simp [resV]
theorem QBody_res {fn : Func} {R : Ending → Hp → Prop} {rs : List ResultVar} {vs : List Value} {v : Value} (hr : fn.results = rs.toArray) (h : ResR P e L rs vs) (hv : resV vs = v) (hR : R (.returned v) L) : QBody P fn N w0 R .ret e [] L := by
  refine ⟨rfl, v, fun a w he hI => ?_, hR⟩
  have h1 := h.run he hI
  subst hv
  unfold results
  rw [hr]
  simp only [List.mapM_toArray, Sem.run_bind, Sem.run_map, Sem.run_pure]
  have h2 := congrArg (fun r : Result (List Value) => (r.andThen fun a w' => Result.ok a.toArray w').andThen fun a w' => Result.ok (if h : a.size = 1 then a[0] else Value.tuple a) w') h1
  refine Eq.trans h2 ?_
  simp only [Result.andThen_ok, resV_eq]
end
end Go.Proofs.Ytlpahkmfjpjheaa
end

section
namespace Go.Proofs.Ytlpahkmfjpjheaa
open Go.RowKit
section
variable (P : Program) (r : Option Nat) (n N : Nat) (w0 : World) (ops : Array Oper) (Q : Post) (ds : List Deferred)
def AnyO (fuel : Nat) (listed : Array Bool) (e : Env) (L : Hp) : Prop :=
  ∀ a w, a.tmps.size = n → envOf a = e → a.defers = ds → Inv N w0 L w → wpAnyIn (FW r) 0 P .any ops (PostA n N w0 Q) fuel listed a w
end
section
variable {P : Program} {r : Option Nat} {n N : Nat} {w0 : World} {ops : Array Oper} {Q : Post} {ds : List Deferred} {e : Env} {L : Hp}

theorem WP_draw {id : Nat} {l : List Oper} (hm : P.follows .mixedOrders = true) (h : AnyO P r n N w0 l.toArray Q ds l.length (Array.replicate l.length false) e L) : WP P r n N w0 (.region id l.toArray true) Q e ds L := by
  rintro a w hs he hd hI
  refine wpIn_region_any hm ?_
  have := h a _ hs he hd hI.drew
  simpa using this
theorem AnyO.wk {fuel : Nat} {listed : Array Bool} {L' : Hp} (k : Wk L L') (h : AnyO P r n N w0 ops Q ds fuel listed e L') : AnyO P r n N w0 ops Q ds fuel listed e L :=
  fun a w hs he hd hI => h a w hs he hd (hI.wk k)
theorem AnyO.perm {fuel : Nat} {listed : Array Bool} {L' : Hp} (k : L.Perm L') (h : AnyO P r n N w0 ops Q ds fuel listed e L') : AnyO P r n N w0 ops Q ds fuel listed e L :=
  fun a w hs he hd hI => h a w hs he hd (hI.perm k)

/-! ### The frame and an operation's own operands -/
theorem ev_updO {d : Option Nat} {v : Value} {x : Operand} (h : ∀ t, d = some t → x ≠ .tmp t) : ev (updO e d v) x = ev e x := by
  cases d with
  | none => rfl
  | some d =>
    cases x with
    | tmp t =>
      have : t ≠ d := fun h' => h d rfl (by rw [h'])
      have hb : Nat.beq t d = false := by
        cases hb : Nat.beq t d
        · rfl
        · exact absurd (Nat.eq_of_beq_eq_true hb) this
      show (bif Nat.beq t d then v else e t) = e t
      rw [hb]; rfl
    | _ => rfl
theorem updO_comm {d d' : Option Nat} {v v' : Value} (h : ∀ t, d = some t → d' ≠ some t) : updO (updO e d v) d' v' = updO (updO e d' v') d v := by
  cases d with
  | none => rfl
  | some d =>
    cases d' with
    | none => rfl
    | some d' =>
      have hne : d' ≠ d := fun h' => h d rfl (by rw [h'])
      funext t
      show (bif Nat.beq t d' then v' else bif Nat.beq t d then v else e t) = (bif Nat.beq t d then v else bif Nat.beq t d' then v' else e t)
      cases h1 : Nat.beq t d' <;> cases h2 : Nat.beq t d <;> try rfl
      exact absurd ((Nat.eq_of_beq_eq_true h1).symm.trans (Nat.eq_of_beq_eq_true h2)) hne
def notSel (o : Oper) : Bool := match o.op with
  | .select .. => false
  | _ => true
theorem notSel_ne {o : Oper} (h : notSel o = true) : ∀ cs b, o.op ≠ .select cs b := by
  intro cs b e; simp [notSel, e] at h
theorem exec_updO {o : Oper} {d : Option Nat} {v : Value} (hs : notSel o = true) (h : ∀ t, d = some t → t ∉ o.looksAt ops) : execOp (ev (updO e d v)) o = execOp (ev e) o := by
  refine execOp_congr o (notSel_ne hs) fun x hx => ev_updO fun t ht hxt => h t ht ?_
  subst hxt
  unfold Oper.looksAt
  refine List.mem_append_left _ ?_
  simp only [List.mem_filterMap]
  exact ⟨.tmp t, by simpa using hx, rfl⟩
theorem wanted_updO {o : Oper} {d : Option Nat} {v : Value} (h : ∀ t, d = some t → t ∉ o.looksAt ops) : Region.wanted o (yieldE ops (updO e d v)) = Region.wanted o (yieldE ops e) := by
  unfold Region.wanted
  cases hg : o.guard with
  | none => rfl
  | some p =>
    obtain ⟨j, want⟩ := p
    simp only
    congr 1
    unfold yieldE
    cases hd : (ops[j]?).bind (·.dst) with
    | none => rfl
    | some t =>
      have : ev (updO e d v) (.tmp t) = ev e (.tmp t) := ev_updO fun t' ht' hxt => h t' ht' (by
        injection hxt with hxt
        subst hxt
        unfold Oper.looksAt
        refine List.mem_append_right _ ?_
        simp [hg, hd])
      show (match updO e d v t with | .bool b => some b | _ => none) = (match e t with | .bool b => some b | _ => none)
      have h2 : updO e d v t = e t := this
      rw [h2]

/-! ### E: one value, whatever else has been laid -/
def Ev (P : Program) (N : Nat) (w0 : World) (L : Hp) (e : Env) (o : Oper) (v : Value) : Prop :=
  ∀ X w, Inv N w0 (X ++ L) w → (execOp (ev e) o).run P w = .ok (.value v) w ∨
    ∃ f args, (execOp (ev e) o).run P w = .ok (.enter f args) w ∧ Calls P f args w fun x w' => x = .returned v ∧ Inv N w0 (X ++ L) w'
theorem Ev_val {o : Oper} {v : Value} (h : Val P N w0 L e o v) : Ev P N w0 L e o v := fun X w hI => .inl (h w (hI.wk (.app X L)))
theorem Ev_ret {o : Oper} {v : Value} {f : FuncId} {args : Array Value} (h : Enters P e o f args) (hc : ∀ X, Ret P N w0 (X ++ L) f args v) : Ev P N w0 L e o v := fun X w hI =>
  .inr ⟨f, args, h w, (hc X w hI).mono fun x w' ⟨L', hI', hx, hL⟩ => ⟨hx, by subst hL; exact hI'⟩⟩
def EStep (P : Program) (N : Nat) (w0 : World) (ops : Array Oper) (L : Hp) (e : Env) (o : Oper) (v : Value) : Prop :=
  (Region.wanted o (yieldE ops e) = true ∧ Ev P N w0 L e o v) ∨ (Region.wanted o (yieldE ops e) = false ∧ v = undef)
theorem EStep.of_upd {o : Oper} {v : Value} {d : Option Nat} {u : Value} (hs : notSel o = true) (h : ∀ t, d = some t → t ∉ o.looksAt ops) : EStep P N w0 ops L (updO e d u) o v ↔ EStep P N w0 ops L e o v := by
  unfold EStep Ev
  rw [exec_updO hs h, wanted_updO h]

/-- A value that nothing in the world can change. -/
def PStep (P : Program) (ops : Array Oper) (e : Env) (o : Oper) (v : Value) : Prop :=
  (Region.wanted o (yieldE ops e) = true ∧ ∀ w, (execOp (ev e) o).run P w = .ok (.value v) w) ∨ (Region.wanted o (yieldE ops e) = false ∧ v = undef)
theorem PStep.of_upd {o : Oper} {v : Value} {d : Option Nat} {u : Value} (hs : notSel o = true) (h : ∀ t, d = some t → t ∉ o.looksAt ops) : PStep P ops (updO e d u) o v ↔ PStep P ops e o v := by
  unfold PStep
  rw [exec_updO hs h, wanted_updO h]
def XStep (P : Program) (N : Nat) (w0 : World) (ops : Array Oper) (T : List Nat) (L : Hp) (i : Nat) (e : Env) (o : Oper) (v : Value) : Prop := EStep P N w0 ops L e o v ∧ (i ∈ T → PStep P ops e o v)
theorem XStep.of_upd {T : List Nat} {i : Nat} {o : Oper} {v : Value} {d : Option Nat} {u : Value} (hs : notSel o = true) (h : ∀ t, d = some t → t ∉ o.looksAt ops) : XStep P N w0 ops T L i (updO e d u) o v ↔ XStep P N w0 ops T L i e o v := by
  unfold XStep
  rw [EStep.of_upd hs h, PStep.of_upd hs h]

/-- What is asked of every operation. -/
def fine (n : Nat) (o : Oper) : Bool := dstOk n o.dst && !isDefer o.op && notSel o
/-- The lexical walk of the evaluations. -/
inductive LexR (P : Program) (n N : Nat) (w0 : World) (ops : Array Oper) (T : List Nat) (L : Hp) : List Nat → Env → Env → Prop
  | nil {e : Env} : LexR P n N w0 ops T L [] e e
  | cons {i : Nat} {l : List Nat} {e e' : Env} {o : Oper} {v : Value} (h1 : ops[i]? = some o) (h2 : fine n o = true) (h3 : XStep P N w0 ops T L i e o v) (h4 : LexR P n N w0 ops T L l (updO e o.dst v) e') : LexR P n N w0 ops T L (i :: l) e e'
structure ASpec where
  i : Nat
  o : Oper
  obj : Obj
  φ : Obj → Prop
  val : Nat → Value
def ASpec.ok (P : Program) (n : Nat) (ops : Array Oper) (e : Env) (s : ASpec) : Prop :=
  ops[s.i]? = some s.o ∧ fine n s.o = true ∧ Region.wanted s.o (yieldE ops e) = true ∧ s.φ s.obj ∧ New P e s.o s.obj s.val
def KAll : List ASpec → Env → (Env → Hp → Prop) → Prop
  | [], e, K => K e []
  | s :: l, e, K => ∀ b, KAll l (updO e s.o.dst (s.val b)) (fun e' A => K e' ((b, s.φ) :: A))
theorem KAll.mono {l : List ASpec} {e : Env} {K K' : Env → Hp → Prop} (h : KAll l e K) (hk : ∀ e A, K e A → K' e A) : KAll l e K' := by
  induction l generalizing e K K' with
  | nil => exact hk _ _ h
  | cons s l ih => exact fun b => ih (h b) fun e A h => hk _ _ h

def apartO (ops : Array Oper) (i j : Nat) : Bool := match ops[i]?, ops[j]? with
  | some oi, some oj => oi.apart ops oj
  | _, _ => false
theorem apartO_spec {i j : Nat} {oi oj : Oper} (h : apartO ops i j = true) (h1 : ops[i]? = some oi) (h2 : ops[j]? = some oj) : oi.apart ops oj = true := by
  simpa [apartO, h1, h2] using h
theorem fine_spec {o : Oper} (h : fine n o = true) : dstOk n o.dst = true ∧ isDefer o.op = false ∧ notSel o = true := by
  simp only [fine, Bool.and_eq_true, Bool.not_eq_true'] at h; exact ⟨h.1.1, h.1.2, h.2⟩

/-- An evaluation may come first. -/
theorem LexR.pull {T : List Nat} {j : Nat} {T2 : List Nat} {ef : Env} : ∀ (T1 : List Nat) (e : Env), LexR P n N w0 ops T L (T1 ++ j :: T2) e ef → (∀ i ∈ T1, apartO ops i j = true) →
    ∃ o v, ops[j]? = some o ∧ fine n o = true ∧ XStep P N w0 ops T L j e o v ∧ LexR P n N w0 ops T L (T1 ++ T2) (updO e o.dst v) ef
  | [], e, h, _ => by
    cases h with
    | cons h1 h2 h3 h4 => exact ⟨_, _, h1, h2, h3, h4⟩
  | i :: T1, e, h, ha => by
    cases h with
    | cons h1 h2 h3 h4 =>
      obtain ⟨oj, vj, k1, k2, k3, k4⟩ := LexR.pull T1 _ h4 (fun k hk => ha k (List.mem_cons_of_mem _ hk))
      obtain ⟨a1, a2, a3⟩ := Oper.apart_spec (apartO_spec (ha i List.mem_cons_self) h1 k1)
      refine ⟨oj, vj, k1, k2, (XStep.of_upd (fine_spec k2).2.2 a1).1 k3, .cons h1 h2 ((XStep.of_upd (fine_spec h2).2.2 a3).2 h3) ?_⟩
      rw [← updO_comm a2]
      exact k4
/-- Evaluations mind no slot that they do not look at. -/
theorem LexR.upd {T : List Nat} {d : Option Nat} {u : Value} {oj : Oper} (hd : oj.dst = d) : ∀ {E : List Nat} {e ef : Env}, LexR P n N w0 ops T L E e ef → (∀ i ∈ E, ∀ oi, ops[i]? = some oi → oi.apart ops oj = true) → LexR P n N w0 ops T L E (updO e d u) (updO ef d u) := by
  intro E e ef h
  induction h with
  | nil => exact fun _ => .nil
  | cons h1 h2 h3 h4 ih =>
    intro ha
    obtain ⟨a1, a2, a3⟩ := Oper.apart_spec (ha _ List.mem_cons_self _ h1)
    subst hd
    refine .cons h1 h2 ((XStep.of_upd (fine_spec h2).2.2 a3).2 h3) ?_
    rw [← updO_comm a2]
    exact ih (fun i hi => ha i (List.mem_cons_of_mem _ hi))
theorem ASpec.back {T : List Nat} {s : ASpec} : ∀ {E : List Nat} {e ef : Env}, LexR P n N w0 ops T L E e ef → (∀ i ∈ E, apartO ops i s.i = true) → s.ok P n ops ef → s.ok P n ops e := by
  intro E e ef h
  induction h with
  | nil => exact fun _ h => h
  | cons h1 h2 h3 h4 ih =>
    intro ha hs
    obtain ⟨k1, k2, k3, k4, k5⟩ := ih (fun i hi => ha i (List.mem_cons_of_mem _ hi)) hs
    obtain ⟨a1, _, _⟩ := Oper.apart_spec (apartO_spec (ha _ List.mem_cons_self) h1 k1)
    refine ⟨k1, k2, by rw [← wanted_updO a1]; exact k3, k4, ?_⟩
    unfold New at k5 ⊢
    rw [← exec_updO (fine_spec k2).2.2 a1]; exact k5
theorem ASpec.upd {s : ASpec} {e : Env} {d : Option Nat} {u : Value} (h : ∀ t, d = some t → t ∉ s.o.looksAt ops) (hs : s.ok P n ops e) : s.ok P n ops (updO e d u) := by
  obtain ⟨k1, k2, k3, k4, k5⟩ := hs
  refine ⟨k1, k2, by rw [wanted_updO h]; exact k3, k4, ?_⟩
  unfold New at k5 ⊢
  rw [exec_updO (fine_spec k2).2.2 h]; exact k5
theorem KAll.pull {s : ASpec} {S2 : List ASpec} {K : Env → Hp → Prop} (hK : ∀ e A A', A.Perm A' → K e A → K e A') : ∀ (S1 : List ASpec) (e : Env), KAll (S1 ++ s :: S2) e K → (∀ q ∈ S1, ∀ t, q.o.dst = some t → s.o.dst ≠ some t) → ∀ b, KAll (S1 ++ S2) (updO e s.o.dst (s.val b)) (fun e' A => K e' ((b, s.φ) :: A)) := by
  intro S1
  induction S1 generalizing K with
  | nil => exact fun e h _ b => h b
  | cons q S1 ih =>
    intro e h ha b b'
    have h1 := ih (K := fun e' A => K e' ((b', q.φ) :: A)) (fun e A A' hp h => hK _ _ _ (hp.cons _) h) _ (h b') (fun q' hq => ha q' (List.mem_cons_of_mem _ hq)) b
    rw [updO_comm (ha q List.mem_cons_self)] at h1
    exact h1.mono fun e' A hk => hK _ _ _ (List.Perm.swap _ _ _) hk

/-! ### Whatever is drawn -/
def waits (ops : Array Oper) (j i : Nat) : Bool := match ops[j]? with
  | some o => o.after.any fun ed => Region.binds .any ed && ed.on == i
  | none => false
def Closed (ops : Array Oper) (listed : Array Bool) : Prop := ∀ i o, ops[i]? = some o → listed.getD i false = true → ∀ ed ∈ o.after, Region.binds .any ed = true → listed.getD ed.on false = true
def preds (ops : Array Oper) (i : Nat) : List Nat := match ops[i]? with
  | some o => (o.after.toList.filter fun ed => Region.binds .any ed).map (·.on)
  | none => []
/-- All that must have come before. -/
def clo (ops : Array Oper) : Nat → List Nat → List Nat
  | 0, l => l
  | k + 1, l => clo ops k (if l.contains k then (preds ops k).foldl (fun l p => if l.contains p then l else p :: l) l else l)
theorem clo_listed {listed : Array Bool} (hc : Closed ops listed) : ∀ (k : Nat) (l : List Nat), (∀ i ∈ l, listed.getD i false = true) → ∀ i ∈ clo ops k l, listed.getD i false = true
  | 0, l, h => h
  | k + 1, l, h => by
    unfold clo
    refine clo_listed hc k _ ?_
    split
    · rename_i hk
      have hk' := h k (by simpa using hk)
      have hp : ∀ p ∈ preds ops k, listed.getD p false = true := by
        intro p hp
        unfold preds at hp
        cases ho : ops[k]? with
        | none => rw [ho] at hp; cases hp
        | some o =>
          rw [ho] at hp
          simp only [List.mem_map, List.mem_filter] at hp
          obtain ⟨ed, ⟨h1, h2⟩, rfl⟩ := hp
          exact hc k o ho hk' ed (by simpa using h1) h2
      have key : ∀ (ps l : List Nat), (∀ p ∈ ps, listed.getD p false = true) → (∀ i ∈ l, listed.getD i false = true) → ∀ i ∈ ps.foldl (fun l p => if l.contains p then l else p :: l) l, listed.getD i false = true := by
        intro ps
        induction ps with
        | nil => exact fun l _ h => h
        | cons p ps ih =>
          intro l hps hl
          refine ih _ (fun q hq => hps q (List.mem_cons_of_mem _ hq)) ?_
          simp only
          split
          · exact hl
          · intro i hi
            rcases List.mem_cons.1 hi with rfl | hi
            · exact hps _ List.mem_cons_self
            · exact hl i hi
      exact key _ _ hp h
    · exact h

/-- One operation comes up: the judgement's side. -/
theorem wpOpIn_e {i : Nat} {o : Oper} {v : Value} {X : Hp} {K : Act → World → Prop} {PQ : Exit → Act → World → Prop} {a : Act} {w : World} (hi : ops[i]? = some o) (hf : fine n o = true) (hs : EStep P N w0 ops L (envOf a) o v) (hI : Inv N w0 (X ++ L) w)
    (h : ∀ w', Inv N w0 (X ++ L) w' → K (a.put o.dst v) w') : wpOpIn (FW r) 0 P ops PQ i K a w := by
  obtain ⟨_, f2, _⟩ := fine_spec hf
  unfold wpOpIn
  rw [hi]
  simp only [yieldE_eq]
  rcases hs with ⟨hw, hv⟩ | ⟨hw, rfl⟩
  · rw [if_pos hw]
    refine ⟨fun f _ => FW_fn r f, ?_⟩
    rw [Oper.semAt_eq _ _ _ (isDefer_ne f2), eval_eq]
    rcases hv X w hI with hr | ⟨f, args, hr, hc⟩
    · rw [hr]; exact h w hI
    · rw [hr]
      refine ⟨fun h => (by rw [FW_depth] at h; cases h), callsFW.2 (hc.mono ?_)⟩
      rintro x w' ⟨rfl, hI'⟩
      exact h w' hI'
  · rw [if_neg (by rw [hw]; simp)]
    exact ⟨fun f _ => FW_fn r f, h w hI⟩
theorem wpOpIn_a {s : ASpec} {X : Hp} {K : Act → World → Prop} {PQ : Exit → Act → World → Prop} {a : Act} {w : World} (hs : s.ok P n ops (envOf a)) (hI : Inv N w0 X w)
    (h : ∀ b w', Inv N w0 ((b, s.φ) :: X) w' → K (a.put s.o.dst (s.val b)) w') : wpOpIn (FW r) 0 P ops PQ s.i K a w := by
  obtain ⟨k1, k2, k3, k4, k5⟩ := hs
  obtain ⟨_, f2, _⟩ := fine_spec k2
  unfold wpOpIn
  rw [k1]
  simp only [yieldE_eq]
  rw [if_pos k3]
  refine ⟨fun f _ => FW_fn r f, ?_⟩
  rw [Oper.semAt_eq _ _ _ (isDefer_ne f2), eval_eq, k5 w]
  exact h _ _ (hI.alloc k4)

structure Ready (T : List Nat) (ops : Array Oper) (hdone listed : Array Bool) (U : List Nat) : Prop where
  sz : listed.size = ops.size
  szd : hdone.size = ops.size
  closed : Closed ops listed
  un : ∀ i ∈ U, listed.getD i true = false
  nd : U.Nodup
  fin : ∀ i, i < ops.size → hdone.getD i true = (listed.getD i true || U.contains i)
  held : ∀ s, s < ops.size → hdone.getD s true = false → ∀ i ∈ U, i ∉ T → i ∈ clo ops ops.size (preds ops s)
  ap : U.Pairwise fun i j => waits ops j i = true ∨ apartO ops i j = true
  fw : U.Pairwise fun i j => waits ops i j = false
  self : ∀ i ∈ U, waits ops i i = false ∧ i < ops.size
  pr : ∀ i ∈ U, ∀ p ∈ preds ops i, listed.getD p false = true ∨ p ∈ U
theorem getD_set_trueT {l : Array Bool} {i j : Nat} (h : l.getD i true = true) : (l.setIfInBounds j true).getD i true = true := by
  rw [Array.getD_eq_getD_getElem?] at h ⊢
  rw [Array.getElem?_setIfInBounds]
  split
  · split <;> simp
  · exact h
theorem getD_tf {l : Array Bool} {i : Nat} (h1 : l.getD i true = false) (h2 : l.getD i false = true) : False := by
  rw [Array.getD_eq_getD_getElem?] at h1 h2
  cases h : l[i]? with
  | none => rw [h] at h1; cases h1
  | some b => rw [h] at h1 h2; simp at h1 h2; rw [h1] at h2; cases h2
theorem waits_pred {j i : Nat} (h : waits ops j i = true) : i ∈ preds ops j := by
  unfold waits at h
  unfold preds
  cases ho : ops[j]? with
  | none => rw [ho] at h; cases h
  | some o =>
    rw [ho] at h
    simp only [Array.any_eq_true', Bool.and_eq_true, beq_iff_eq] at h
    obtain ⟨ed, he, h1, h2⟩ := h
    simp only [List.mem_map, List.mem_filter]
    exact ⟨ed, ⟨by simpa using he, h1⟩, h2⟩
theorem pred_waits {j i : Nat} (h : i ∈ preds ops j) : waits ops j i = true := by
  unfold preds at h
  unfold waits
  cases ho : ops[j]? with
  | none => rw [ho] at h; cases h
  | some o =>
    rw [ho] at h
    simp only [List.mem_map, List.mem_filter] at h
    obtain ⟨ed, ⟨h1, h2⟩, h3⟩ := h
    simp only [Array.any_eq_true', Bool.and_eq_true, beq_iff_eq]
    exact ⟨ed, by simpa using h1, h2, h3⟩
theorem ready_preds {listed : Array Bool} {j : Nat} (h : j ∈ Region.ready .any ops listed) : listed.getD j true = false ∧ ∀ p ∈ preds ops j, listed.getD p false = true := by
  obtain ⟨h1, o, h2, h3⟩ := mem_ready.1 h
  refine ⟨h1, fun p hp => ?_⟩
  unfold preds at hp
  rw [h2] at hp
  simp only [List.mem_map, List.mem_filter] at hp
  obtain ⟨ed, ⟨k1, k2⟩, rfl⟩ := hp
  exact h3 ed (by simpa using k1) k2
/-- One more has come up. -/
theorem Ready.next {T : List Nat} {hdone listed : Array Bool} {U U' : List Nat} {j : Nat} (h : Ready T ops hdone listed U) (hsub : U'.Sublist U) (hj : j ∈ U) (hmem : ∀ i ∈ U, i = j ∨ i ∈ U') (hj' : j ∉ U') (hr : ∀ p ∈ preds ops j, listed.getD p false = true) :
    Ready T ops hdone (listed.setIfInBounds j true) U' := by
  have hjl : j < listed.size := by rw [h.sz]; exact (h.self j hj).2
  have hset : (listed.setIfInBounds j true).getD j false = true := by simp [hjl]
  refine ⟨by simp [h.sz], h.szd, ?_, ?_, h.nd.sublist hsub, ?_, fun s hs hd i hi => h.held s hs hd i (hsub.subset hi), h.ap.sublist hsub, h.fw.sublist hsub, fun i hi => h.self i (hsub.subset hi), ?_⟩
  · intro i o ho hi ed he hb
    by_cases e : i = j
    · subst e
      refine getD_set_true (hr ed.on ?_)
      unfold preds; rw [ho]
      simp only [List.mem_map, List.mem_filter]
      exact ⟨ed, ⟨by simpa using he, hb⟩, rfl⟩
    · rw [getD_set_ne false (Ne.symm e)] at hi
      exact getD_set_true (h.closed i o ho hi ed he hb)
  · intro i hi
    have hne : i ≠ j := fun e => hj' (e ▸ hi)
    rw [getD_set_ne true (Ne.symm hne)]
    exact h.un i (hsub.subset hi)
  · intro i hi
    rw [h.fin i hi]
    by_cases e : i = j
    · subst e
      have h1 : (listed.setIfInBounds i true).getD i true = true := by simp [hjl]
      rw [h1]
      have : U.contains i = true := by simpa using hj
      rw [this]; simp
    · rw [getD_set_ne true (Ne.symm e)]
      have : U.contains i = U'.contains i := by
        cases h1 : U.contains i <;> cases h2 : U'.contains i <;> try rfl
        · have := hsub.subset (by simpa using h2 : i ∈ U')
          simp [this] at h1
        · rcases hmem i (by simpa using h1) with h3 | h3
          · exact absurd h3 e
          · simp [h3] at h2
      rw [this]
  · intro i hi p hp
    rcases h.pr i (hsub.subset hi) p hp with h1 | h1
    · exact .inl (getD_set_true h1)
    · rcases hmem p h1 with rfl | h2
      · exact .inl hset
      · exact .inr h2

/-! #### what floats, and may come up behind what writes -/
abbrev Pd := Nat × Oper × Value
def updAll (e : Env) (ts : List Pd) : Env := ts.foldl (fun e x => updO e x.2.1.dst x.2.2) e
def putAll (a : Act) (ts : List Pd) : Act := ts.foldl (fun a x => a.put x.2.1.dst x.2.2) a
def PLex (P : Program) (n : Nat) (ops : Array Oper) : Env → List Pd → Prop
  | _, [] => True
  | e, x :: ts => ops[x.1]? = some x.2.1 ∧ fine n x.2.1 = true ∧ PStep P ops e x.2.1 x.2.2 ∧ PLex P n ops (updO e x.2.1.dst x.2.2) ts
theorem envOf_putAll : ∀ (ts : List Pd) (e : Env) (a : Act), PLex P n ops e ts → a.tmps.size = n → envOf (putAll a ts) = updAll (envOf a) ts ∧ (putAll a ts).tmps.size = n
  | [], _, _, _, hs => ⟨rfl, hs⟩
  | x :: ts, e, a, h, hs => by
    obtain ⟨_, h2, _, h4⟩ := h
    have := envOf_putAll ts _ (a.put x.2.1.dst x.2.2) h4 (size_put.trans hs)
    simp only [putAll, updAll, List.foldl_cons] at this ⊢
    rw [envOf_put hs (fine_spec h2).1] at this
    exact this
theorem put_comm {a : Act} {d d' : Option Nat} {v v' : Value} (h : ∀ t, d = some t → d' ≠ some t) : (a.put d v).put d' v' = (a.put d' v').put d v := by
  cases d with
  | none => rfl
  | some d =>
    cases d' with
    | none => rfl
    | some d' =>
      have hne : d ≠ d' := fun e => h d rfl (by rw [e])
      simp only [Act.put]
      rw [Array.setIfInBounds_comm _ _ hne]
theorem putAll_put {d : Option Nat} {v : Value} : ∀ (ts : List Pd) (a : Act), (∀ x ∈ ts, ∀ t, x.2.1.dst = some t → d ≠ some t) → (putAll a ts).put d v = putAll (a.put d v) ts
  | [], _, _ => rfl
  | x :: ts, a, h => by
    have := putAll_put (d := d) (v := v) ts (a.put x.2.1.dst x.2.2) (fun y hy => h y (List.mem_cons_of_mem _ hy))
    simp only [putAll, List.foldl_cons] at this ⊢
    rw [this, put_comm (h x List.mem_cons_self)]
theorem putAll_defers {ds : List Deferred} : ∀ (ts : List Pd) (a : Act), { putAll a ts with defers := ds } = putAll { a with defers := ds } ts
  | [], _ => rfl
  | x :: ts, a => by
    have h1 : ({ a.put x.2.1.dst x.2.2 with defers := ds } : Act) = ({ a with defers := ds } : Act).put x.2.1.dst x.2.2 := by cases x.2.1.dst <;> rfl
    have := putAll_defers (ds := ds) ts (a.put x.2.1.dst x.2.2)
    simp only [putAll, List.foldl_cons] at this ⊢
    rw [this, h1]
theorem putAll_def : ∀ (ts : List Pd) (a : Act), (putAll a ts).defers = a.defers
  | [], _ => rfl
  | x :: ts, a => by
    have := putAll_def ts (a.put x.2.1.dst x.2.2)
    simp only [putAll, List.foldl_cons] at this ⊢
    rw [this, defers_put]
theorem PLex.upd {oj : Oper} {u : Value} : ∀ (ts : List Pd) (e : Env), PLex P n ops e ts → (∀ x ∈ ts, x.2.1.apart ops oj = true) → PLex P n ops (updO e oj.dst u) ts
  | [], _, _, _ => trivial
  | x :: ts, e, h, ha => by
    obtain ⟨h1, h2, h3, h4⟩ := h
    obtain ⟨a1, a2, a3⟩ := Oper.apart_spec (ha x List.mem_cons_self)
    refine ⟨h1, h2, (PStep.of_upd (fine_spec h2).2.2 a3).2 h3, ?_⟩
    rw [← updO_comm a2]
    exact PLex.upd ts _ h4 (fun y hy => ha y (List.mem_cons_of_mem _ hy))
theorem PLex.pull {j : Pd} {t2 : List Pd} : ∀ (t1 : List Pd) (e : Env) (a : Act), PLex P n ops e (t1 ++ j :: t2) → (∀ x ∈ t1, x.2.1.apart ops j.2.1 = true) →
    ops[j.1]? = some j.2.1 ∧ fine n j.2.1 = true ∧ PStep P ops e j.2.1 j.2.2 ∧ PLex P n ops (updO e j.2.1.dst j.2.2) (t1 ++ t2) ∧ putAll a (t1 ++ j :: t2) = putAll (a.put j.2.1.dst j.2.2) (t1 ++ t2)
  | [], e, a, h, _ => ⟨h.1, h.2.1, h.2.2.1, h.2.2.2, rfl⟩
  | x :: t1, e, a, h, ha => by
    obtain ⟨h1, h2, h3, h4⟩ := h
    obtain ⟨k1, k2, k3, k4, k5⟩ := PLex.pull t1 _ (a.put x.2.1.dst x.2.2) h4 (fun y hy => ha y (List.mem_cons_of_mem _ hy))
    obtain ⟨a1, a2, a3⟩ := Oper.apart_spec (ha x List.mem_cons_self)
    refine ⟨k1, k2, (PStep.of_upd (fine_spec k2).2.2 a1).1 k3, ⟨h1, h2, (PStep.of_upd (fine_spec h2).2.2 a3).2 h3, ?_⟩, ?_⟩
    · rw [← updO_comm a2]; exact k4
    · simp only [putAll, List.cons_append, List.foldl_cons] at k5 ⊢
      rw [k5, put_comm a2]
theorem exec_all {o : Oper} (hs : notSel o = true) : ∀ (ts : List Pd) (e : Env), (∀ x ∈ ts, x.2.1.apart ops o = true) → execOp (ev (updAll e ts)) o = execOp (ev e) o ∧ Region.wanted o (yieldE ops (updAll e ts)) = Region.wanted o (yieldE ops e)
  | [], _, _ => ⟨rfl, rfl⟩
  | x :: ts, e, h => by
    obtain ⟨h1, h2⟩ := exec_all hs ts (updO e x.2.1.dst x.2.2) (fun y hy => h y (List.mem_cons_of_mem _ hy))
    have a1 := (Oper.apart_spec (h x List.mem_cons_self)).1
    simp only [updAll, List.foldl_cons] at h1 h2 ⊢
    exact ⟨h1.trans (exec_updO hs a1), h2.trans (wanted_updO a1)⟩
theorem uponIn_back {F : Fence} {o : Oper} {ts : List Pd} {K K' : Act → World → Prop} {PQ : Exit → Act → World → Prop} {a : Act} (hq : ∀ ch a w, ¬ PQ (.panic ch) a w) (hp : ∀ x ∈ ts, ∀ t, x.2.1.dst = some t → o.dst ≠ some t)
    (hk : ∀ (v : Value) (ds : List Deferred) (w : World), K (putAll ({ a with defers := ds }.put o.dst v) ts) w → K' ({ a with defers := ds }.put o.dst v) w) {x : Result Next} (h : o.uponIn F 0 P (putAll a ts) K PQ x) : o.uponIn F 0 P a K' PQ x := by
  have hv : ∀ (v : Value) (w : World), K ((putAll a ts).put o.dst v) w → K' (a.put o.dst v) w := fun v w h => hk v a.defers w (by rw [putAll_put ts a hp] at h; exact h)
  cases x with
  | ok x w' =>
    cases x <;> simp only [Oper.uponIn] at h ⊢ <;>
      first
        | exact hv _ _ h
        | (rw [putAll_def, putAll_defers, putAll_put ts _ hp] at h; exact hk _ _ _ h)
        | exact h.elim
        | exact ⟨h.1, CallsIn.mono h.2 (fun e w'' he => by cases e <;> first | exact hv _ _ he | exact (hq _ _ _ he).elim | exact he)⟩
        | exact ⟨h.1, RoundIn.mono h.2 (fun e w'' he => by cases e <;> first | exact hv _ _ he | exact (hq _ _ _ he).elim | exact he)⟩
        | exact ⟨h.1, RowsIn.mono h.2 (fun v w'' he => hv _ _ he)⟩
  | halt x w' =>
    cases x <;> simp only [Oper.uponIn] at h ⊢ <;> first | exact h.elim | exact (hq _ _ _ h).elim
theorem wpOpIn_back {j : Nat} {o : Oper} {ts : List Pd} {K K' : Act → World → Prop} {PQ : Exit → Act → World → Prop} {a : Act} {w : World} (ho : ops[j]? = some o) (hf : fine n o = true) (hq : ∀ ch a w, ¬ PQ (.panic ch) a w) (ha : ∀ x ∈ ts, x.2.1.apart ops o = true)
    (hl : PLex P n ops (envOf a) ts) (hs : a.tmps.size = n) (hk : ∀ a1 w1, a1.tmps.size = n → PLex P n ops (envOf a1) ts → K (putAll a1 ts) w1 → K' a1 w1) (h : wpOpIn (FW r) 0 P ops PQ j K (putAll a ts) w) : wpOpIn (FW r) 0 P ops PQ j K' a w := by
  obtain ⟨f1, f2, f3⟩ := fine_spec hf
  obtain ⟨e1, _⟩ := envOf_putAll ts _ a hl hs
  obtain ⟨x1, x2⟩ := exec_all (ops := ops) f3 ts (envOf a) ha
  have hp : ∀ x ∈ ts, ∀ t, x.2.1.dst = some t → o.dst ≠ some t := fun x hx => (Oper.apart_spec (ha x hx)).2.1
  have hk' : ∀ (v : Value) (ds : List Deferred) (w : World), K (putAll ({ a with defers := ds }.put o.dst v) ts) w → K' ({ a with defers := ds }.put o.dst v) w := by
    intro v ds w hK
    refine hk _ _ (size_put.trans hs) ?_ hK
    have h1 : envOf (({ a with defers := ds } : Act).put o.dst v) = updO (envOf a) o.dst v := envOf_put (a := { a with defers := ds }) hs f1
    rw [h1]
    exact hl.upd ts _ ha
  unfold wpOpIn at h ⊢
  rw [ho] at h ⊢
  simp only [yieldE_eq, e1, x2] at h ⊢
  split
  · rename_i hw
    rw [if_pos hw] at h
    refine ⟨fun f _ => FW_fn r f, ?_⟩
    have h2 := h.2
    rw [Oper.semAt_eq _ _ _ (isDefer_ne f2), eval_eq] at h2 ⊢
    rw [e1, x1] at h2
    exact uponIn_back hq hp hk' h2
  · rename_i hw
    rw [if_neg hw] at h
    refine ⟨fun f _ => FW_fn r f, ?_⟩
    have h2 := h.2
    rw [putAll_put ts a hp] at h2
    exact hk' undef a.defers w h2

/-- Something that writes has come up. -/
theorem Ready.both {T : List Nat} {hdone listed : Array Bool} {U : List Nat} {j : Nat} (h : Ready T ops hdone listed U) (hj : j ∉ U) (hjs : j < ops.size) (hr : ∀ p ∈ preds ops j, listed.getD p false = true) :
    Ready T ops (hdone.setIfInBounds j true) (listed.setIfInBounds j true) U := by
  refine ⟨by simp [h.sz], by simp [h.szd], ?_, ?_, h.nd, ?_, ?_, h.ap, h.fw, h.self, ?_⟩
  · intro i o ho hi ed he hb
    by_cases e : i = j
    · subst e
      refine getD_set_true (hr ed.on ?_)
      unfold preds; rw [ho]
      simp only [List.mem_map, List.mem_filter]
      exact ⟨ed, ⟨by simpa using he, hb⟩, rfl⟩
    · rw [getD_set_ne false (Ne.symm e)] at hi
      exact getD_set_true (h.closed i o ho hi ed he hb)
  · intro i hi
    have hne : i ≠ j := fun e => hj (e ▸ hi)
    rw [getD_set_ne true (Ne.symm hne)]
    exact h.un i hi
  · intro i hi
    by_cases e : i = j
    · subst e
      have h1 : (listed.setIfInBounds i true).getD i true = true := by simp [h.sz, hjs]
      have h2 : (hdone.setIfInBounds i true).getD i true = true := by simp [h.szd, hjs]
      rw [h1, h2]; rfl
    · rw [getD_set_ne true (Ne.symm e), getD_set_ne true (Ne.symm e)]
      exact h.fin i hi
  · intro s hs hd i hi
    by_cases e : s = j
    · subst e
      have h2 : (hdone.setIfInBounds s true).getD s true = true := by simp [h.szd, hjs]
      rw [h2] at hd; cases hd
    · rw [getD_set_ne true (Ne.symm e)] at hd
      exact h.held s hs hd i hi
  · intro i hi p hp
    rcases h.pr i hi p hp with h1 | h1
    · exact .inl (getD_set_true h1)
    · exact .inr h1

theorem pend {T : List Nat} (hq : ∀ ch e ds L, ¬ Q (.panic ch) e ds L) (hTS : ∀ i ∈ T, ∀ j, j < ops.size → j ∉ T → waits ops i j = true ∨ waits ops j i = true ∨ apartO ops i j = true) (hfine : ∀ (j : Nat) (o : Oper), ops[j]? = some o → fine n o = true) :
    ∀ (k : Nat) (ts : List Pd) (fuel2 : Nat) (hdone listed : Array Bool) (a : Act) (w : World), ts.length + fuel2 = k → Ready T ops hdone listed (ts.map (·.1)) → (∀ x ∈ ts, x.1 ∈ T) → (∀ t ∈ T, hdone.getD t true = true) → PLex P n ops (envOf a) ts → a.tmps.size = n →
      wpAnyIn (FW r) 0 P .any ops (PostA n N w0 Q) fuel2 hdone (putAll a ts) w → wpAnyIn (FW r) 0 P .any ops (PostA n N w0 Q) k listed a w
  | k, [], fuel2, hdone, listed, a, w, hk, hR, _, _, _, _, h => by
    have : hdone = listed := by
      apply Array.ext (by rw [hR.szd, hR.sz])
      intro i h1 h2
      have := hR.fin i (by rw [← hR.sz]; exact h2)
      simpa [h1, h2] using this
    subst this
    simp only [List.length_nil, Nat.zero_add] at hk
    subst hk
    exact h
  | 0, _ :: _, _, _, _, _, _, hk, _, _, _, _, _, _ => by simp at hk
  | k + 1, t0 :: tr, fuel2, hdone, listed, a, w, hk, hR, hT, hTd, hl, hs, h => by
    have notAp : ∀ j, j ∈ Region.ready .any ops listed → ∀ i ∈ (t0 :: tr).map (·.1), waits ops j i = false := by
      intro j hj i hi
      cases hw : waits ops j i with
      | false => rfl
      | true => exact (getD_tf (hR.un i hi) ((ready_preds hj).2 i (waits_pred hw))).elim
    unfold wpAnyIn
    refine ⟨fun h0 => ?_, fun j hj => ?_⟩
    · exfalso
      have hj : t0.1 ∈ Region.ready .any ops listed := by
        rw [mem_ready]
        refine ⟨hR.un _ List.mem_cons_self, ?_⟩
        have hlt := (hR.self t0.1 List.mem_cons_self).2
        refine ⟨ops[t0.1], Array.getElem?_eq_getElem hlt, fun ed he hb => ?_⟩
        have hp : ed.on ∈ preds ops t0.1 := by
          unfold preds
          rw [Array.getElem?_eq_getElem hlt]
          simp only [List.mem_map, List.mem_filter]
          exact ⟨ed, ⟨by simpa using he, hb⟩, rfl⟩
        rcases hR.pr t0.1 List.mem_cons_self _ hp with h1 | h1
        · exact h1
        · rcases List.mem_cons.1 h1 with h1 | h1
          · have := (hR.self t0.1 List.mem_cons_self).1
            have h2 := pred_waits hp
            rw [h1] at h2; rw [h2] at this; cases this
          · have := (List.pairwise_cons.1 hR.fw).1 _ h1
            rw [pred_waits hp] at this; cases this
      rw [h0] at hj; cases hj
    · obtain ⟨hjl, hjp⟩ := ready_preds hj
      have hlt : j < ops.size := by
        obtain ⟨_, o, ho, _⟩ := mem_ready.1 hj
        exact (Array.getElem?_eq_some_iff.1 ho).1
      by_cases hjT : j ∈ (t0 :: tr).map (·.1)
      · -- it is one that floats
        obtain ⟨x, hx, rfl⟩ := List.mem_map.1 hjT
        obtain ⟨t1, t2, he⟩ := List.append_of_mem hx
        rw [he] at hk hR hT hl h notAp
        have hap : ∀ y ∈ t1, y.2.1.apart ops x.2.1 = true := by
          have hops : ∀ (ts : List Pd) (e : Env), PLex P n ops e ts → ∀ y ∈ ts, ops[y.1]? = some y.2.1 := by
            intro ts
            induction ts with
            | nil => intro _ _ y hy; cases hy
            | cons z ts ih =>
              intro e hh y hy
              rcases List.mem_cons.1 hy with rfl | hy
              · exact hh.1
              · exact ih _ hh.2.2.2 y hy
          intro y hy
          have h1 := hR.ap
          rw [List.map_append, List.pairwise_append] at h1
          rcases h1.2.2 y.1 (List.mem_map_of_mem hy) x.1 (by simp) with h2 | h2
          · rw [notAp x.1 hj y.1 (by simp only [List.map_append, List.mem_append]; exact .inl (List.mem_map_of_mem hy))] at h2; cases h2
          · exact apartO_spec h2 (hops _ _ hl y (by simp [hy])) (hops _ _ hl x (by simp))
        obtain ⟨k1, k2, k3, k4, k5⟩ := PLex.pull t1 _ a hl hap
        have hnd := hR.nd
        have hj' : x.1 ∉ (t1 ++ t2).map (·.1) := by
          simp only [List.map_append, List.map_cons] at hnd
          have h1 := List.nodup_append.1 hnd
          simp only [List.nodup_cons] at h1
          intro hh
          simp only [List.map_append, List.mem_append] at hh
          rcases hh with hh | hh
          · exact h1.2.2 _ hh _ (by simp) rfl
          · exact h1.2.1.1 hh
        have hR' : Ready T ops hdone (listed.setIfInBounds x.1 true) ((t1 ++ t2).map (·.1)) := by
          refine hR.next ?_ (by simp) ?_ hj' hjp
          · simp only [List.map_append, List.map_cons]
            exact List.Sublist.append (List.Sublist.refl _) (List.sublist_cons_self _ _)
          · intro i hi
            simp only [List.map_append, List.map_cons, List.mem_append, List.mem_cons] at hi ⊢
            rcases hi with hh | hh | hh
            · exact .inr (.inl hh)
            · exact .inl hh
            · exact .inr (.inr hh)
        have hsz : (a.put x.2.1.dst x.2.2).tmps.size = n := size_put.trans hs
        have ih := pend hq hTS hfine k (t1 ++ t2) fuel2 hdone (listed.setIfInBounds x.1 true) (a.put x.2.1.dst x.2.2) w (by simp at hk ⊢; omega) hR' (fun y hy => hT y (by simp only [List.mem_append, List.mem_cons] at hy ⊢; rcases hy with hh | hh; exact .inl hh; exact .inr (.inr hh))) hTd
          (by rw [envOf_put hs (fine_spec k2).1]; exact k4) hsz (by rw [← k5]; exact h)
        unfold wpOpIn
        rw [k1]
        simp only [yieldE_eq]
        rcases k3 with ⟨hw, hv⟩ | ⟨hw, hu⟩
        · rw [if_pos hw]
          refine ⟨fun f _ => FW_fn r f, ?_⟩
          rw [Oper.semAt_eq _ _ _ (isDefer_ne (fine_spec k2).2.1), eval_eq, hv w]
          exact ih
        · rw [if_neg (by rw [hw]; simp)]
          rw [hu] at ih
          exact ⟨fun f _ => FW_fn r f, ih⟩
      · -- it is another one
        have hnd : hdone.getD j true = false := by
          rw [hR.fin j hlt, hjl]
          simp only [Bool.false_or, List.contains_eq_mem, decide_eq_false_iff_not]
          exact hjT
        have hjnT : j ∉ T := fun hh => by have := hTd j hh; rw [hnd] at this; cases this
        have hjr : j ∈ Region.ready .any ops hdone := by
          obtain ⟨_, o, ho, hpre⟩ := mem_ready.1 hj
          refine mem_ready.2 ⟨hnd, o, ho, fun ed he hb => ?_⟩
          have h1 := hpre ed he hb
          have hel : ed.on < ops.size := by
            rw [← hR.sz]
            cases hh : listed[ed.on]? with
            | none => rw [Array.getD_eq_getD_getElem?, hh] at h1; cases h1
            | some b => exact (Array.getElem?_eq_some_iff.1 hh).1
          have h2 := hR.fin ed.on hel
          have h3 : listed.getD ed.on true = true := by
            rw [Array.getD_eq_getD_getElem?] at h1 ⊢
            cases hh : listed[ed.on]? with
            | none => rw [hh] at h1; cases h1
            | some b => rw [hh] at h1; simpa using h1
          rw [h3, Bool.true_or] at h2
          rw [Array.getD_eq_getD_getElem?] at h2 ⊢
          cases hh : hdone[ed.on]? with
          | none => have := Array.getElem?_eq_none_iff.1 hh; rw [hR.szd] at this; omega
          | some b => rw [hh] at h2; simpa using h2
        obtain ⟨o, ho⟩ : ∃ o, ops[j]? = some o := ⟨_, Array.getElem?_eq_getElem hlt⟩
        cases fuel2 with
        | zero =>
          have := h.1
          rw [this] at hjr; cases hjr
        | succ fuel =>
          have h2 := h.2 j hjr
          have hops : ∀ (ts : List Pd) (e : Env), PLex P n ops e ts → ∀ y ∈ ts, ops[y.1]? = some y.2.1 := by
            intro ts
            induction ts with
            | nil => intro _ _ y hy; cases hy
            | cons z ts ih =>
              intro e hh y hy
              rcases List.mem_cons.1 hy with rfl | hy
              · exact hh.1
              · exact ih _ hh.2.2.2 y hy
          have hap : ∀ y ∈ t0 :: tr, y.2.1.apart ops o = true := by
            intro y hy
            rcases hTS y.1 (hT y hy) j hlt hjnT with h3 | h3 | h3
            · rcases hR.pr y.1 (List.mem_map_of_mem hy) j (waits_pred h3) with h4 | h4
              · exact (getD_tf hjl h4).elim
              · exact absurd h4 hjT
            · rw [notAp j hj y.1 (List.mem_map_of_mem hy)] at h3; cases h3
            · exact apartO_spec h3 (hops _ _ hl y hy) ho
          refine wpOpIn_back (ts := t0 :: tr) ho (hfine j o ho) (fun ch a w ⟨_, L, _, hh⟩ => hq _ _ _ _ hh) hap hl hs ?_ h2
          intro a1 w1 hs1 hl1 hK
          refine pend hq hTS hfine k (t0 :: tr) fuel (hdone.setIfInBounds j true) (listed.setIfInBounds j true) a1 w1 (by simp at hk ⊢; omega) (hR.both hjT hlt hjp) hT ?_ hl1 hs1 hK
          intro t ht
          exact getD_set_trueT (hTd t ht)
theorem lex_pend {T : List Nat} : ∀ {E : List Nat} {e ef : Env}, LexR P n N w0 ops T L E e ef → (∀ i ∈ E, i ∈ T) → ∃ ts : List Pd, ts.map (·.1) = E ∧ PLex P n ops e ts ∧ updAll e ts = ef := by
  intro E e ef h
  induction h with
  | nil => exact fun _ => ⟨[], rfl, trivial, rfl⟩
  | cons h1 h2 h3 h4 ih =>
    intro hT
    obtain ⟨ts, k1, k2, k3⟩ := ih (fun i hi => hT i (List.mem_cons_of_mem _ hi))
    exact ⟨(_, _, _) :: ts, by simp [k1], ⟨h1, h2, h3.2 (hT _ List.mem_cons_self), k2⟩, k3⟩

theorem any_of_lex {T : List Nat} (hq : T ≠ [] → ∀ ch e ds L, ¬ Q (.panic ch) e ds L) (hTS : ∀ i ∈ T, ∀ j, j < ops.size → j ∉ T → waits ops i j = true ∨ waits ops j i = true ∨ apartO ops i j = true) (hfine : T ≠ [] → ∀ (j : Nat) (o : Oper), ops[j]? = some o → fine n o = true) {hdone : Array Bool} (hTd : ∀ t ∈ T, hdone.getD t true = true) {fuel2 : Nat} : ∀ (m : Nat) (E : List Nat) (S : List ASpec) (listed : Array Bool) (e ef : Env) (X : Hp), E.length + S.length = m → Ready T ops hdone listed (E ++ S.map ASpec.i) → (∀ s ∈ S, s.i ∉ T) → (S.map ASpec.i).Pairwise (fun i j => apartO ops i j = true) →
    LexR P n N w0 ops T L E e ef → (∀ s ∈ S, s.ok P n ops ef) → KAll S ef (fun e' A => AnyO P r n N w0 ops Q ds fuel2 hdone e' (A ++ (X ++ L))) → AnyO P r n N w0 ops Q ds (m + fuel2) listed e (X ++ L)
  | 0, E, S, listed, e, ef, X, hm, hR, _, _, hE, hS, hK => by
    have e1 : E = [] := List.eq_nil_of_length_eq_zero (by omega)
    have e2 : S = [] := List.eq_nil_of_length_eq_zero (by omega)
    subst e1; subst e2
    cases hE
    have : hdone = listed := by
      apply Array.ext (by rw [hR.szd, hR.sz])
      intro i h1 h2
      have := hR.fin i (by rw [← hR.sz]; exact h2)
      simpa [h1, h2] using this
    subst this
    rw [Nat.zero_add]
    exact hK
  | m + 1, E, S, listed, e, ef, X, hm, hR, hST, hAA, hE, hS, hK => by
    rintro a w hs rfl hd hI
    by_cases hall : S = [] ∧ ∀ i ∈ E, i ∈ T
    · -- only what floats is left
      obtain ⟨rfl, hET⟩ := hall
      obtain ⟨ts, k1, k2, k3⟩ := lex_pend hE hET
      have hTne : T ≠ [] := by
        intro h0
        subst h0
        cases E with
        | nil => simp at hm
        | cons i E => have := hET i List.mem_cons_self; cases this
      have hlen : ts.length = m + 1 := by have := congrArg List.length k1; simp at this hm ⊢; omega
      obtain ⟨e1, e2⟩ := envOf_putAll ts _ a k2 hs
      refine pend (hq hTne) hTS (hfine hTne) (m + 1 + fuel2) ts fuel2 hdone listed a w (by omega) (by rw [k1]; simpa using hR) (fun x hx => hET _ (by rw [← k1]; exact List.mem_map_of_mem hx)) hTd k2 hs ?_
      exact hK (putAll a ts) w e2 (by rw [e1, k3]) ((putAll_def ts a).trans hd) hI
    have hnot : ∃ i ∈ E ++ S.map ASpec.i, i ∉ T := by
      match S, hall, hST with
      | [], hall, _ =>
        have : ¬ ∀ i ∈ E, i ∈ T := fun h => hall ⟨rfl, h⟩
        simp only [Classical.not_forall] at this
        obtain ⟨i, hi, hn⟩ := this
        exact ⟨i, by simp [hi], hn⟩
      | s :: S, _, hST => exact ⟨s.i, by simp, hST s List.mem_cons_self⟩
    have hf : m + 1 + fuel2 = (m + fuel2) + 1 := by omega
    rw [hf]
    unfold wpAnyIn
    have notAp : ∀ j, j ∈ Region.ready .any ops listed → ∀ i ∈ E ++ S.map ASpec.i, waits ops j i = false := by
      intro j hj i hi
      cases hw : waits ops j i with
      | false => rfl
      | true => exact (getD_tf (hR.un i hi) ((ready_preds hj).2 i (waits_pred hw))).elim
    refine ⟨fun h0 => ?_, fun j hj => ?_⟩
    · exfalso
      match hU : E ++ S.map ASpec.i, hR with
      | [], _ =>
        have := congrArg List.length hU
        rw [List.length_append, List.length_map, List.length_nil] at this
        omega
      | j :: U, hR =>
        have hj : j ∈ Region.ready .any ops listed := by
          rw [mem_ready]
          refine ⟨hR.un j List.mem_cons_self, ?_⟩
          have hlt := (hR.self j List.mem_cons_self).2
          refine ⟨ops[j], Array.getElem?_eq_getElem hlt, fun ed he hb => ?_⟩
          have hp : ed.on ∈ preds ops j := by
            unfold preds
            rw [Array.getElem?_eq_getElem hlt]
            simp only [List.mem_map, List.mem_filter]
            exact ⟨ed, ⟨by simpa using he, hb⟩, rfl⟩
          rcases hR.pr j List.mem_cons_self _ hp with h1 | h1
          · exact h1
          · rcases List.mem_cons.1 h1 with h1 | h1
            · have := (hR.self j List.mem_cons_self).1
              have h2 := pred_waits hp
              rw [h1] at h2; rw [h2] at this; cases this
            · have := (List.pairwise_cons.1 hR.fw).1 _ h1
              rw [pred_waits hp] at this; cases this
        rw [h0] at hj; cases hj
    · obtain ⟨hjl, hjp⟩ := ready_preds hj
      by_cases hjE : j ∈ E
      · obtain ⟨T1, T2, rfl⟩ := List.append_of_mem hjE
        have hap : ∀ i ∈ T1, apartO ops i j = true := by
          intro i hi
          have h1 := hR.ap
          rw [List.append_assoc, List.pairwise_append] at h1
          rcases h1.2.2 i hi j (by simp) with h2 | h2
          · rw [notAp j hj i (by simp [hi])] at h2; cases h2
          · exact h2
        obtain ⟨o, v, k1, k2, k3, k4⟩ := hE.pull T1 _ hap
        have hnd := hR.nd
        have hj' : j ∉ (T1 ++ T2) ++ S.map ASpec.i := by
          rw [List.append_assoc] at hnd
          have := List.nodup_append.1 hnd
          simp only [List.cons_append, List.nodup_cons] at this
          intro h
          simp only [List.mem_append] at h
          rcases h with (h | h) | h
          · exact this.2.2 j h j (by simp) rfl
          · exact this.2.1.1 (by simp [h])
          · exact this.2.1.1 (by simp only [List.mem_append]; exact .inr h)
        have hR' : Ready T ops hdone (listed.setIfInBounds j true) ((T1 ++ T2) ++ S.map ASpec.i) := by
          refine hR.next ?_ (by simp) ?_ hj' hjp
          · exact List.Sublist.append (List.Sublist.append (List.Sublist.refl _) (List.sublist_cons_self _ _)) (List.Sublist.refl _)
          · intro i hi
            simp only [List.mem_append, List.mem_cons] at hi ⊢
            rcases hi with (h | h | h) | h
            · exact .inr (.inl (.inl h))
            · exact .inl h
            · exact .inr (.inl (.inr h))
            · exact .inr (.inr h)
        have ih := any_of_lex hq hTS hfine hTd m (T1 ++ T2) S (listed.setIfInBounds j true) (updO (envOf a) o.dst v) ef X (by simp at hm ⊢; omega) hR' hST hAA k4 hS hK
        exact wpOpIn_e k1 k2 k3.1 hI fun w' hI' => ih _ _ (size_put.trans hs) (envOf_put hs (fine_spec k2).1) (defers_put.trans hd) hI'
      · by_cases hjS : j ∈ S.map ASpec.i
        · obtain ⟨s, hsS, rfl⟩ := List.mem_map.1 hjS
          obtain ⟨S1, S2, rfl⟩ := List.append_of_mem hsS
          have hok := hS s (by simp)
          have hapE : ∀ i ∈ E, apartO ops i s.i = true := by
            intro i hi
            have h1 := hR.ap
            rw [List.pairwise_append] at h1
            rcases h1.2.2 i hi s.i (by simp) with h2 | h2
            · rw [notAp s.i hj i (by simp [hi])] at h2; cases h2
            · exact h2
          have hapS : ∀ q ∈ S1, apartO ops q.i s.i = true := by
            intro q hq
            have h1 := hR.ap
            rw [List.pairwise_append] at h1
            have h2 := h1.2.1
            rw [List.map_append, List.pairwise_append] at h2
            rcases h2.2.2 q.i (List.mem_map_of_mem hq) s.i (by simp) with h3 | h3
            · rw [notAp s.i hj q.i (by simp; exact .inr (.inl ⟨q, hq, rfl⟩))] at h3; cases h3
            · exact h3
          have hokE := ASpec.back hE hapE hok
          have hnd := hR.nd
          have hnodup : s.i ∉ E ++ (S1 ++ S2).map ASpec.i := by
            simp only [List.map_append, List.map_cons] at hnd
            have h1 := List.nodup_append.1 hnd
            have h2 := List.nodup_append.1 h1.2.1
            simp only [List.nodup_cons] at h2
            intro h
            simp only [List.map_append, List.mem_append] at h
            rcases h with h | h | h
            · exact hjE h
            · exact h2.2.2 _ h _ (by simp) rfl
            · exact h2.2.1.1 h
          have hR' : Ready T ops hdone (listed.setIfInBounds s.i true) (E ++ (S1 ++ S2).map ASpec.i) := by
            refine hR.next ?_ (by simp) ?_ hnodup hjp
            · refine List.Sublist.append (List.Sublist.refl _) ?_
              simp only [List.map_append, List.map_cons]
              exact List.Sublist.append (List.Sublist.refl _) (List.sublist_cons_self _ _)
            · intro i hi
              simp only [List.map_append, List.map_cons, List.mem_append, List.mem_cons] at hi ⊢
              rcases hi with h | h | h | h
              · exact .inr (.inl h)
              · exact .inr (.inr (.inl h))
              · exact .inl h
              · exact .inr (.inr (.inr h))
          have hEu : ∀ b, LexR P n N w0 ops T L E (updO (envOf a) s.o.dst (s.val b)) (updO ef s.o.dst (s.val b)) := fun b =>
            hE.upd (oj := s.o) rfl fun i hi oi ho => apartO_spec (hapE i hi) ho hok.1
          have hSu : ∀ b, ∀ q ∈ S1 ++ S2, q.ok P n ops (updO ef s.o.dst (s.val b)) := by
            intro b q hq
            have hqok := hS q (by simp only [List.mem_append, List.mem_cons] at hq ⊢; rcases hq with h | h; exact .inl h; exact .inr (.inr h))
            refine ASpec.upd (s := q) ?_ hqok
            rcases List.mem_append.1 hq with hq | hq
            · exact (Oper.apart_spec (apartO_spec (hapS q hq) hqok.1 hok.1)).2.2
            · rw [List.map_append, List.pairwise_append, List.map_cons, List.pairwise_cons] at hAA
              exact (Oper.apart_spec (apartO_spec (hAA.2.1.1 q.i (List.mem_map_of_mem hq)) hok.1 hqok.1)).1
          have hAA' : ((S1 ++ S2).map ASpec.i).Pairwise (fun i j => apartO ops i j = true) := by
            refine hAA.sublist ?_
            simp only [List.map_append, List.map_cons]
            exact List.Sublist.append (List.Sublist.refl _) (List.sublist_cons_self _ _)
          have hKp := hK.pull (s := s) (fun e A A' hp h => h.perm (hp.symm.append_right _)) S1 ef (fun q hq t ht => (Oper.apart_spec (apartO_spec (hapS q hq) (hS q (by simp [hq])).1 hok.1)).2.1 t ht)
          refine wpOpIn_a hokE hI fun b w' hI' => ?_
          have ih := any_of_lex hq hTS hfine hTd m E (S1 ++ S2) (listed.setIfInBounds s.i true) _ _ ((b, s.φ) :: X) (by simp at hm ⊢; omega) hR' (fun q hq => hST q (by simp only [List.mem_append, List.mem_cons] at hq ⊢; rcases hq with hh | hh; exact .inl hh; exact .inr (.inr hh))) hAA' (hEu b) (hSu b) ((hKp b).mono fun e' A h => h.perm (by
            rw [List.cons_append, List.cons_append]; exact List.perm_middle))
          exact ih _ _ (size_put.trans hs) (envOf_put hs (fine_spec hok.2.1).1) (defers_put.trans hd) hI'
        · exfalso
          have hlt : j < ops.size := by
            obtain ⟨_, o, ho, _⟩ := mem_ready.1 hj
            exact (Array.getElem?_eq_some_iff.1 ho).1
          have hnd : hdone.getD j true = false := by
            rw [hR.fin j hlt, hjl]
            simp only [Bool.false_or]
            simp only [List.contains_eq_mem, List.mem_append, decide_eq_false_iff_not, not_or]
            exact ⟨hjE, hjS⟩
          obtain ⟨i, hi, hn⟩ := hnot
          have h1 := hR.held j hlt hnd i hi hn
          exact getD_tf (hR.un i hi) (clo_listed hR.closed _ _ hjp i h1)
end

/-! ### As it is used -/
def pwB (f : Nat → Nat → Bool) : List Nat → Bool
  | [] => true
  | i :: l => l.all (f i) && pwB f l
theorem pwB_spec {f : Nat → Nat → Bool} {R : Nat → Nat → Prop} (hR : ∀ i j, f i j = true → R i j) : ∀ {l : List Nat}, pwB f l = true → l.Pairwise R
  | [], _ => .nil
  | i :: l, h => by
    simp only [pwB, Bool.and_eq_true, List.all_eq_true] at h
    exact List.pairwise_cons.2 ⟨fun j hj => hR _ _ (h.1 j hj), pwB_spec hR h.2⟩
def doneOf (k : Nat) (U : List Nat) : Array Bool := ((List.range k).map fun i => U.contains i).toArray
def drawChk (ops : Array Oper) (T E A : List Nat) : Bool :=
  pwB (fun i j => !Nat.beq i j) (E ++ A) && (E ++ A).all (fun i => !waits ops i i && Nat.blt i ops.size) &&
  (List.range ops.size).all (fun s => (E ++ A).contains s || let c := clo ops ops.size (preds ops s); (E ++ A).all fun i => T.contains i || c.contains i) &&
  pwB (fun i j => waits ops j i || apartO ops i j) (E ++ A) && pwB (fun i j => !waits ops i j) (E ++ A) && pwB (fun i j => apartO ops i j) A &&
  (E ++ A).all (fun i => (preds ops i).all fun p => (E ++ A).contains p)
theorem getD_doneOf {k : Nat} {U : List Nat} {i : Nat} (h : i < k) : (doneOf k U).getD i true = U.contains i := by
  simp [doneOf, h]
theorem ready_of_chk {ops : Array Oper} {T E A : List Nat} (h : drawChk ops T E A = true) : Ready T ops (doneOf ops.size (E ++ A)) (Array.replicate ops.size false) (E ++ A) ∧ A.Pairwise (fun i j => apartO ops i j = true) := by
  simp only [drawChk, Bool.and_eq_true, List.all_eq_true] at h
  obtain ⟨⟨⟨⟨⟨⟨h1, h2⟩, h3⟩, h4⟩, h5⟩, h6⟩, h7⟩ := h
  have hlt : ∀ i ∈ E ++ A, i < ops.size := fun i hi => by have := (h2 i hi).2; simpa [Nat.blt_eq] using this
  refine ⟨⟨by simp, by simp [doneOf], ?_, ?_, ?_, ?_, ?_, ?_, ?_, ?_, ?_⟩, pwB_spec (fun _ _ h => h) h6⟩
  · intro i o _ hi
    rw [Array.getD_eq_getD_getElem?, Array.getElem?_replicate] at hi
    split at hi <;> simp at hi
  · intro i hi
    have := hlt i hi
    simp [this]
  · refine pwB_spec (R := fun i j => i ≠ j) (fun i j hb => ?_) h1
    intro e; subst e; simp at hb
  · intro i hi
    rw [getD_doneOf hi]
    simp [hi]
  · intro s hs hd i hi hnT
    rw [getD_doneOf hs] at hd
    have := h3 s (List.mem_range.2 hs)
    simp only [hd, Bool.false_or, List.all_eq_true] at this
    have h4 := this i hi
    simp only [Bool.or_eq_true, List.contains_eq_mem, decide_eq_true_eq] at h4
    exact h4.resolve_left hnT
  · exact pwB_spec (fun i j h => by simpa using h) h4
  · exact pwB_spec (fun i j h => by simpa using h) h5
  · intro i hi
    exact ⟨by simpa using (h2 i hi).1, hlt i hi⟩
  · intro i hi p hp
    exact .inr (by simpa using h7 i hi p hp)
section
variable {P : Program} {r : Option Nat} {n N : Nat} {w0 : World} {ops : Array Oper} {T : List Nat} {Q : Post} {ds : List Deferred} {e : Env} {L : Hp}
def EWalk (P : Program) (n N : Nat) (w0 : World) (ops : Array Oper) (T : List Nat) (L : Hp) (l : List Nat) (e : Env) (K : Env → Prop) : Prop := ∃ ef, LexR P n N w0 ops T L l e ef ∧ K ef
theorem EWalk_nil {K : Env → Prop} (h : K e) : EWalk P n N w0 ops T L [] e K := ⟨e, .nil, h⟩
theorem EWalk_ev {i : Nat} {l : List Nat} {o : Oper} {v : Value} {K : Env → Prop} (ho : ops[i]? = some o) (hf : fine n o = true) (hT : T.contains i = false) (hg : Region.wanted o (yieldE ops e) = true) (hv : Ev P N w0 L e o v) (h : EWalk P n N w0 ops T L l (updO e o.dst v) K) :
    EWalk P n N w0 ops T L (i :: l) e K := let ⟨ef, h1, h2⟩ := h; ⟨ef, .cons ho hf ⟨.inl ⟨hg, hv⟩, fun h => by simp [h] at hT⟩ h1, h2⟩
theorem EWalk_pv {i : Nat} {l : List Nat} {o : Oper} {v : Value} {K : Env → Prop} (ho : ops[i]? = some o) (hf : fine n o = true) (hg : Region.wanted o (yieldE ops e) = true) (hv : ∀ w, Val P 0 w [] e o v) (h : EWalk P n N w0 ops T L l (updO e o.dst v) K) :
    EWalk P n N w0 ops T L (i :: l) e K :=
  have hr : ∀ w, (execOp (ev e) o).run P w = .ok (.value v) w := fun w => hv w w ⟨Below.refl _ w, Nat.zero_le _, .nil, fun _ h => by cases h⟩
  let ⟨ef, h1, h2⟩ := h; ⟨ef, .cons ho hf ⟨.inl ⟨hg, fun _ w _ => .inl (hr w)⟩, fun _ => .inl ⟨hg, hr⟩⟩ h1, h2⟩
theorem EWalk_skip {i : Nat} {l : List Nat} {o : Oper} {K : Env → Prop} (ho : ops[i]? = some o) (hf : fine n o = true) (hg : Region.wanted o (yieldE ops e) = false) (h : EWalk P n N w0 ops T L l (updO e o.dst undef) K) :
    EWalk P n N w0 ops T L (i :: l) e K := let ⟨ef, h1, h2⟩ := h; ⟨ef, .cons ho hf ⟨.inr ⟨hg, rfl⟩, fun _ => .inr ⟨hg, rfl⟩⟩ h1, h2⟩
theorem upd_same {d : Nat} {v : Value} (h : e d = v) : upd e d v = e := by
  funext k
  unfold upd
  cases hb : Nat.beq k d with
  | false => rfl
  | true => have := Nat.eq_of_beq_eq_true hb; subst this; exact h.symm
theorem EWalk_split {l : List Nat} {K : Env → Prop} (d : Nat) {t : Bool} (hd : e d = .bool t) (h1 : t = true → EWalk P n N w0 ops T L l (upd e d (.bool true)) K) (h2 : t = false → EWalk P n N w0 ops T L l (upd e d (.bool false)) K) : EWalk P n N w0 ops T L l e K := by
  have hs := upd_same hd
  cases t with
  | true => have := h1 rfl; rwa [hs] at this
  | false => have := h2 rfl; rwa [hs] at this
theorem EWalk_splitD {l : List Nat} {K : Env → Prop} (d : Nat) {p : Prop} [Decidable p] (hd : e d = .bool (decide p)) (h1 : p → EWalk P n N w0 ops T L l (upd e d (.bool true)) K) (h2 : ¬ p → EWalk P n N w0 ops T L l (upd e d (.bool false)) K) : EWalk P n N w0 ops T L l e K :=
  EWalk_split d hd (fun h => h1 (of_decide_eq_true h)) (fun h => h2 (of_decide_eq_false h))
theorem EWalk_splitE {l : List Nat} {K : Env → Prop} (d : Nat) {m k : Int} (hd : e d = .bool (m == k)) (h1 : m = k → EWalk P n N w0 ops T L l (upd e d (.bool true)) K) (h2 : m ≠ k → EWalk P n N w0 ops T L l (upd e d (.bool false)) K) : EWalk P n N w0 ops T L l e K :=
  EWalk_split d hd (fun h => h1 (eq_of_beq h)) (fun h => h2 (fun h' => by rw [beq_eq_false_iff_ne] at h; exact h h'))
theorem EWalk_splitN {l : List Nat} {K : Env → Prop} (d : Nat) {m k : Int} (hd : e d = .bool (m != k)) (h1 : m ≠ k → EWalk P n N w0 ops T L l (upd e d (.bool true)) K) (h2 : m = k → EWalk P n N w0 ops T L l (upd e d (.bool false)) K) : EWalk P n N w0 ops T L l e K :=
  EWalk_split d hd (fun h => h1 (bne_iff_ne.1 h)) (fun h => h2 (by rw [bne_eq_false_iff_eq] at h; exact h))

/-- What is left behind evaluations and new blocks. -/
def AWalk (P : Program) (n : Nat) (ops : Array Oper) (A : List Nat) (eB e : Env) (K : Env → Hp → Prop) : Prop := ∃ S : List ASpec, S.map ASpec.i = A ∧ (∀ s ∈ S, s.ok P n ops eB) ∧ KAll S e K
theorem AWalk_0 {K : Env → Hp → Prop} {eB : Env} (h : K e []) : AWalk P n ops [] eB e K := ⟨[], rfl, (fun _ hs => absurd hs (by simp)), h⟩
theorem AWalk_1 {i : Nat} {o : Oper} {obj : Obj} {φ : Obj → Prop} {mk : Nat → Value} {K : Env → Hp → Prop} (ho : ops[i]? = some o) (hf : fine n o = true) (hg : Region.wanted o (yieldE ops e) = true) (hφ : φ obj) (hn : New P e o obj mk)
    (h : ∀ b, K (updO e o.dst (mk b)) [(b, φ)]) : AWalk P n ops [i] e e K :=
  ⟨[⟨i, o, obj, φ, mk⟩], rfl, (by intro s hs; rcases List.mem_cons.1 hs with rfl | hs; (exact ⟨ho, hf, hg, hφ, hn⟩); cases hs), h⟩
theorem AWalk_2 {i j : Nat} {o o' : Oper} {obj obj' : Obj} {φ φ' : Obj → Prop} {mk mk' : Nat → Value} {K : Env → Hp → Prop} (ho : ops[i]? = some o) (hf : fine n o = true) (hg : Region.wanted o (yieldE ops e) = true) (hφ : φ obj) (hn : New P e o obj mk)
    (ho' : ops[j]? = some o') (hf' : fine n o' = true) (hg' : Region.wanted o' (yieldE ops e) = true) (hφ' : φ' obj') (hn' : New P e o' obj' mk')
    (h : ∀ b b', K (updO (updO e o.dst (mk b)) o'.dst (mk' b')) [(b, φ), (b', φ')]) : AWalk P n ops [i, j] e e K :=
  ⟨[⟨i, o, obj, φ, mk⟩, ⟨j, o', obj', φ', mk'⟩], rfl, (by intro s hs; rcases List.mem_cons.1 hs with rfl | hs; (exact ⟨ho, hf, hg, hφ, hn⟩); rcases List.mem_cons.1 hs with rfl | hs; (exact ⟨ho', hf', hg', hφ', hn'⟩); cases hs), h⟩
theorem AWalk_3 {i j k : Nat} {o o' o'' : Oper} {obj obj' obj'' : Obj} {φ φ' φ'' : Obj → Prop} {mk mk' mk'' : Nat → Value} {K : Env → Hp → Prop} (ho : ops[i]? = some o) (hf : fine n o = true) (hg : Region.wanted o (yieldE ops e) = true) (hφ : φ obj) (hn : New P e o obj mk)
    (ho' : ops[j]? = some o') (hf' : fine n o' = true) (hg' : Region.wanted o' (yieldE ops e) = true) (hφ' : φ' obj') (hn' : New P e o' obj' mk')
    (ho'' : ops[k]? = some o'') (hf'' : fine n o'' = true) (hg'' : Region.wanted o'' (yieldE ops e) = true) (hφ'' : φ'' obj'') (hn'' : New P e o'' obj'' mk'')
    (h : ∀ b b' b'', K (updO (updO (updO e o.dst (mk b)) o'.dst (mk' b')) o''.dst (mk'' b'')) [(b, φ), (b', φ'), (b'', φ'')]) : AWalk P n ops [i, j, k] e e K :=
  ⟨[⟨i, o, obj, φ, mk⟩, ⟨j, o', obj', φ', mk'⟩, ⟨k, o'', obj'', φ'', mk''⟩], rfl, (by intro s hs; rcases List.mem_cons.1 hs with rfl | hs; (exact ⟨ho, hf, hg, hφ, hn⟩); rcases List.mem_cons.1 hs with rfl | hs; (exact ⟨ho', hf', hg', hφ', hn'⟩); rcases List.mem_cons.1 hs with rfl | hs; (exact ⟨ho'', hf'', hg'', hφ'', hn''⟩); cases hs), h⟩

theorem WP_drawn {id : Nat} {l : List Oper} (E A : List Nat) {k : Nat} (hm : P.follows .mixedOrders = true) (hc : drawChk l.toArray [] E A = true) (hk : l.length = E.length + A.length + k)
    (h : EWalk P n N w0 l.toArray [] L E e fun ef => AWalk P n l.toArray A ef ef fun e' A' => AnyO P r n N w0 l.toArray Q ds k (doneOf l.length (E ++ A)) e' (A' ++ L)) : WP P r n N w0 (.region id l.toArray true) Q e ds L := by
  refine WP_draw hm ?_
  obtain ⟨ef, hE, S, hS1, hS2, hK⟩ := h
  obtain ⟨hR, hAA⟩ := ready_of_chk hc
  subst hS1
  have := any_of_lex (P := P) (r := r) (Q := Q) (ds := ds) (fuel2 := k) (L := L) (w0 := w0) (N := N) (n := n) (T := []) (fun h => absurd rfl h) (fun _ h => by cases h) (fun h => absurd rfl h) (fun _ h => by cases h) (E.length + S.length) E S _ e ef [] rfl hR (fun _ _ h => by cases h) hAA hE hS2 hK
  rw [List.length_map] at hk
  rw [← hk] at this
  simpa using this
/-- Nobody panics. -/
def noP (Q : Post) : Post
  | .panic _, _, _, _ => False
  | x, e, ds, L => Q x e ds L
theorem noP_normal (h : Q .normal e ds L) : noP Q .normal e ds L := h
def floatChk (n : Nat) (ops : Array Oper) (T E A : List Nat) : Bool :=
  T.all (fun i => E.contains i && !A.contains i && (List.range ops.size).all fun j => T.contains j || waits ops i j || waits ops j i || apartO ops i j) && ops.all (fine n)
/-- The same, where operations T may come up behind what writes. -/
theorem WP_drawnT {id : Nat} {l : List Oper} (T E A : List Nat) {k : Nat} (hm : P.follows .mixedOrders = true) (hc : drawChk l.toArray T E A = true) (hf : floatChk n l.toArray T E A = true) (hk : l.length = E.length + A.length + k)
    (h : EWalk P n N w0 l.toArray T L E e fun ef => AWalk P n l.toArray A ef ef fun e' A' => AnyO P r n N w0 l.toArray (noP Q) ds k (doneOf l.length (E ++ A)) e' (A' ++ L)) : WP P r n N w0 (.region id l.toArray true) Q e ds L := by
  refine WP_mono (Q := noP Q) (WP_draw hm ?_) (fun x e ds L h => by cases x <;> first | exact h | exact h.elim)
  obtain ⟨ef, hE, S, hS1, hS2, hK⟩ := h
  obtain ⟨hR, hAA⟩ := ready_of_chk hc
  subst hS1
  simp only [floatChk, Bool.and_eq_true, List.all_eq_true, Array.all_eq_true, Bool.not_eq_true', List.mem_range, Bool.or_eq_true] at hf
  obtain ⟨hf1, hf2⟩ := hf
  have hlt : ∀ t ∈ T, t < l.length := by
    intro t ht
    have h1 : t ∈ E := by simpa using (hf1 t ht).1.1
    have := (hR.self t (by simp [h1])).2
    simpa using this
  have := any_of_lex (P := P) (r := r) (Q := noP Q) (ds := ds) (fuel2 := k) (L := L) (w0 := w0) (N := N) (n := n) (T := T) (fun _ _ _ _ _ h => h)
    (fun i hi j hj hjT => by
      have h1 := (hf1 i hi).2 j hj
      rcases h1 with ((h1 | h1) | h1) | h1
      · simp at h1; exact absurd h1 hjT
      · exact .inl h1
      · exact .inr (.inl h1)
      · exact .inr (.inr h1))
    (fun _ j o ho => by
      obtain ⟨h1, h2⟩ := Array.getElem?_eq_some_iff.1 ho
      rw [← h2]; exact hf2 j h1)
    (fun t ht => by
      have h1 : t ∈ E := by simpa using (hf1 t ht).1.1
      have h2 := getD_doneOf (k := l.toArray.size) (U := E ++ S.map ASpec.i) (i := t) (by simpa using hlt t ht)
      rw [h2]; simp [h1])
    (E.length + S.length) E S _ e ef [] rfl hR (fun s hs ht => by
      have := (hf1 s.i ht).1.2
      simp only [List.contains_eq_mem, decide_eq_false_iff_not] at this
      exact this (List.mem_map_of_mem hs)) hAA hE hS2 hK
  rw [List.length_map] at hk
  rw [← hk] at this
  simpa using this

/-! what writes, in every order that is left -/
def QAny (P : Program) (r : Option Nat) (n N : Nat) (w0 : World) (ops : Array Oper) (ds0 : List Deferred) (Q : Post) (fuel : Nat) (listed : Array Bool) : Post
  | .normal, e, ds, L => ds = ds0 ∧ AnyO P r n N w0 ops Q ds0 fuel listed e L
  | x, e, ds, L => Q x e ds L
theorem QAny_normal {fuel : Nat} {listed : Array Bool} (h : AnyO P r n N w0 ops Q ds fuel listed e L) : QAny P r n N w0 ops ds Q fuel listed .normal e ds L := ⟨rfl, h⟩
theorem QAny_panic {fuel : Nat} {listed : Array Bool} {ch : List PanicEntry} {ds' : List Deferred} (h : Q (.panic ch) e ds' L) : QAny P r n N w0 ops ds Q fuel listed (.panic ch) e ds' L := h
theorem uponIn_monoQ {F : Fence} {m : Nat} {o : Oper} {a : Act} {K : Act → World → Prop} {Q1 Q2 : Exit → Act → World → Prop} (hq : ∀ x a w, x ≠ .normal → Q1 x a w → Q2 x a w) {x : Result Next} (h : o.uponIn F m P a K Q1 x) : o.uponIn F m P a K Q2 x := by
  have hl : LetsOut Q1 → LetsOut Q2 := fun ⟨a, w, h⟩ => ⟨a, w, hq _ _ _ (by simp) h⟩
  cases x with
  | ok x w' =>
    cases x <;> simp only [Oper.uponIn] at h ⊢ <;>
      first
        | exact h
        | exact ⟨h.1, CallsIn.mono h.2 (fun e w'' he => by cases e <;> first | exact he | exact hq _ _ _ (by simp) he | exact hl he)⟩
        | exact ⟨h.1, RoundIn.mono h.2 (fun e w'' he => by cases e <;> first | exact he | exact hq _ _ _ (by simp) he | exact hl he)⟩
  | halt x w' =>
    cases x <;> simp only [Oper.uponIn] at h ⊢ <;> first | exact h | exact hq _ _ _ (by simp) h
theorem wpOpIn_of_OPS {i : Nat} {o : Oper} {fuel : Nat} {listed : Array Bool} (ho : ops[i]? = some o) (h : OPS P r n N w0 ops [o] (QAny P r n N w0 ops ds Q fuel listed) e ds L) {a : Act} {w : World} (hs : a.tmps.size = n) (he : envOf a = e) (hd : a.defers = ds) (hI : Inv N w0 L w) :
    wpOpIn (FW r) 0 P ops (PostA n N w0 Q) i (wpAnyIn (FW r) 0 P .any ops (PostA n N w0 Q) fuel listed) a w := by
  have h1 := h a w hs he hd hI
  unfold wpListIn at h1
  unfold wpOpIn
  rw [ho]
  simp only
  have key : ∀ a w, wpListIn (FW r) 0 P ops (PostA n N w0 (QAny P r n N w0 ops ds Q fuel listed)) [] a w → wpAnyIn (FW r) 0 P .any ops (PostA n N w0 Q) fuel listed a w := by
    rintro a w ⟨hs', L', hI', hd', hA⟩
    exact hA a w hs' rfl hd' hI'
  split
  · rename_i hw
    rw [if_pos hw] at h1
    have h2 := Oper.wpIn_mono key h1
    refine ⟨h2.1, uponIn_monoQ (Q1 := PostA n N w0 (QAny P r n N w0 ops ds Q fuel listed)) ?_ h2.2⟩
    rintro x a w hx ⟨hs', L', hI', hq⟩
    cases x <;> first
      | exact absurd rfl hx
      | exact ⟨hs', L', hI', hq⟩
  · rename_i hw
    rw [if_neg hw] at h1
    exact ⟨h1.1, key _ _ h1.2⟩
theorem AnyO_done {listed : Array Bool} (hr : Region.ready .any ops listed = []) (h : Q .normal e ds L) : AnyO P r n N w0 ops Q ds 0 listed e L := by
  rintro a w hs rfl rfl hI
  exact ⟨hr, hs, L, hI, h⟩
theorem AnyO_1 {fuel : Nat} {listed : Array Bool} (i : Nat) {o : Oper} (hr : Region.ready .any ops listed = [i]) (ho : ops[i]? = some o) (h : OPS P r n N w0 ops [o] (QAny P r n N w0 ops ds Q fuel (listed.setIfInBounds i true)) e ds L) :
    AnyO P r n N w0 ops Q ds (fuel + 1) listed e L := by
  intro a w hs he hd hI
  refine ⟨(fun h0 => by rw [hr] at h0; cases h0), fun j hj => ?_⟩
  rw [hr] at hj
  rcases List.mem_cons.1 hj with rfl | hj
  · exact wpOpIn_of_OPS ho h hs he hd hI
  · cases hj
theorem AnyO_2 {fuel : Nat} {listed : Array Bool} (i j : Nat) {o o' : Oper} (hr : Region.ready .any ops listed = [i, j]) (ho : ops[i]? = some o) (ho' : ops[j]? = some o') (h : OPS P r n N w0 ops [o] (QAny P r n N w0 ops ds Q fuel (listed.setIfInBounds i true)) e ds L)
    (h' : OPS P r n N w0 ops [o'] (QAny P r n N w0 ops ds Q fuel (listed.setIfInBounds j true)) e ds L) :
    AnyO P r n N w0 ops Q ds (fuel + 1) listed e L := by
  intro a w hs he hd hI
  refine ⟨(fun h0 => by rw [hr] at h0; cases h0), fun q hq => ?_⟩
  rw [hr] at hq
  rcases List.mem_cons.1 hq with rfl | hq
  · exact wpOpIn_of_OPS ho h hs he hd hI
  · rcases List.mem_cons.1 hq with rfl | hq
    · exact wpOpIn_of_OPS ho' h' hs he hd hI
    · cases hq
theorem AnyO_3 {fuel : Nat} {listed : Array Bool} (i j k : Nat) {o o' o'' : Oper} (hr : Region.ready .any ops listed = [i, j, k]) (ho : ops[i]? = some o) (ho' : ops[j]? = some o') (ho'' : ops[k]? = some o'') (h : OPS P r n N w0 ops [o] (QAny P r n N w0 ops ds Q fuel (listed.setIfInBounds i true)) e ds L)
    (h' : OPS P r n N w0 ops [o'] (QAny P r n N w0 ops ds Q fuel (listed.setIfInBounds j true)) e ds L) (h'' : OPS P r n N w0 ops [o''] (QAny P r n N w0 ops ds Q fuel (listed.setIfInBounds k true)) e ds L) :
    AnyO P r n N w0 ops Q ds (fuel + 1) listed e L := by
  intro a w hs he hd hI
  refine ⟨(fun h0 => by rw [hr] at h0; cases h0), fun q hq => ?_⟩
  rw [hr] at hq
  rcases List.mem_cons.1 hq with rfl | hq
  · exact wpOpIn_of_OPS ho h hs he hd hI
  · rcases List.mem_cons.1 hq with rfl | hq
    · exact wpOpIn_of_OPS ho' h' hs he hd hI
    · rcases List.mem_cons.1 hq with rfl | hq
      · exact wpOpIn_of_OPS ho'' h'' hs he hd hI
      · cases hq
end

section
variable {P : Program} {r : Option Nat} {n N : Nat} {w0 : World} {ops : Array Oper} {T : List Nat} {e : Env} {L : Hp}
theorem EWalk_evS {i d : Nat} {l : List Nat} {o : Oper} {v : Value} {K : Env → Prop} (ho : ops[i]? = some o) (hd : o.dst = some d) (hf : fine n o = true) (hT : T.contains i = false) (hg : Region.wanted o (yieldE ops e) = true) (hv : Ev P N w0 L e o v) (h : EWalk P n N w0 ops T L l (upd e d v) K) :
    EWalk P n N w0 ops T L (i :: l) e K := EWalk_ev ho hf hT hg hv (by rw [hd]; exact h)
theorem EWalk_pvS {i d : Nat} {l : List Nat} {o : Oper} {v : Value} {K : Env → Prop} (ho : ops[i]? = some o) (hd : o.dst = some d) (hf : fine n o = true) (hg : Region.wanted o (yieldE ops e) = true) (hv : ∀ w, Val P 0 w [] e o v) (h : EWalk P n N w0 ops T L l (upd e d v) K) :
    EWalk P n N w0 ops T L (i :: l) e K := EWalk_pv ho hf hg hv (by rw [hd]; exact h)
theorem EWalk_skipS {i d : Nat} {l : List Nat} {o : Oper} {K : Env → Prop} (ho : ops[i]? = some o) (hd : o.dst = some d) (hf : fine n o = true) (hg : Region.wanted o (yieldE ops e) = false) (h : EWalk P n N w0 ops T L l (upd e d undef) K) :
    EWalk P n N w0 ops T L (i :: l) e K := EWalk_skip ho hf hg (by rw [hd]; exact h)
theorem AWalk_1S {i d : Nat} {o : Oper} {obj : Obj} {φ : Obj → Prop} {mk : Nat → Value} {K : Env → Hp → Prop} (ho : ops[i]? = some o) (hd : o.dst = some d) (hf : fine n o = true) (hg : Region.wanted o (yieldE ops e) = true) (hφ : φ obj) (hn : New P e o obj mk)
    (h : ∀ b, K (upd e d (mk b)) [(b, φ)]) : AWalk P n ops [i] e e K := AWalk_1 ho hf hg hφ hn (by rw [hd]; exact h)
theorem AWalk_2S {i j d d' : Nat} {o o' : Oper} {obj obj' : Obj} {φ φ' : Obj → Prop} {mk mk' : Nat → Value} {K : Env → Hp → Prop} (ho : ops[i]? = some o) (hd : o.dst = some d) (hf : fine n o = true) (hg : Region.wanted o (yieldE ops e) = true) (hφ : φ obj) (hn : New P e o obj mk)
    (ho' : ops[j]? = some o') (hd' : o'.dst = some d') (hf' : fine n o' = true) (hg' : Region.wanted o' (yieldE ops e) = true) (hφ' : φ' obj') (hn' : New P e o' obj' mk')
    (h : ∀ b b', K (upd (upd e d (mk b)) d' (mk' b')) [(b, φ), (b', φ')]) : AWalk P n ops [i, j] e e K := AWalk_2 ho hf hg hφ hn ho' hf' hg' hφ' hn' (by rw [hd, hd']; exact h)
theorem AWalk_3S {i j k d d' d'' : Nat} {o o' o'' : Oper} {obj obj' obj'' : Obj} {φ φ' φ'' : Obj → Prop} {mk mk' mk'' : Nat → Value} {K : Env → Hp → Prop} (ho : ops[i]? = some o) (hd : o.dst = some d) (hf : fine n o = true) (hg : Region.wanted o (yieldE ops e) = true) (hφ : φ obj) (hn : New P e o obj mk)
    (ho' : ops[j]? = some o') (hd' : o'.dst = some d') (hf' : fine n o' = true) (hg' : Region.wanted o' (yieldE ops e) = true) (hφ' : φ' obj') (hn' : New P e o' obj' mk')
    (ho'' : ops[k]? = some o'') (hd'' : o''.dst = some d'') (hf'' : fine n o'' = true) (hg'' : Region.wanted o'' (yieldE ops e) = true) (hφ'' : φ'' obj'') (hn'' : New P e o'' obj'' mk'')
    (h : ∀ b b' b'', K (upd (upd (upd e d (mk b)) d' (mk' b')) d'' (mk'' b'')) [(b, φ), (b', φ'), (b'', φ'')]) : AWalk P n ops [i, j, k] e e K := AWalk_3 ho hf hg hφ hn ho' hf' hg' hφ' hn' ho'' hf'' hg'' hφ'' hn'' (by rw [hd, hd', hd'']; exact h)
end
end Go.Proofs.Ytlpahkmfjpjheaa
end

section
namespace Go.Proofs.Ytlpahkmfjpjheaa
open Go.RowKit

/-- A function value, called: a closure, or the yield of a loop. -/
def CallsV (P : Program) (Y : Value) (args : List Value) (w : World) (R : Ending → World → Prop) : Prop :=
  (∃ (f : FuncId) (cc : List Value), Y = .func (.func f) #[] cc.toArray ∧ (∀ as w, (callFunc f as).run P w = .ok (.enter f as) w) ∧ Calls P f (args ++ cc).toArray w R) ∨
  (∃ (l : Nat), Y = .func (.yield l) #[] #[] ∧ YieldAt Fence.wide 0 P l args.toArray w R)
def CV (P : Program) (N : Nat) (w0 : World) (L : Hp) (Y : Value) (args : List Value) (R : Ending → Hp → Prop) : Prop :=
  ∀ w, Inv N w0 L w → CallsV P Y args w fun x w' => ∃ L', Inv N w0 L' w' ∧ R x L'

theorem YAt_mono {F : Fence} {m : Nat} {P : Program} {l : Nat} {args : Array Value} {W : World} {R R' : Ending → World → Prop} (h : YieldAt F m P l args W R) (hr : ∀ x w, R x w → R' x w) : YieldAt F m P l args W R' := by
  obtain ⟨fn, tmps, as, body, h1, h2⟩ := h
  exact ⟨fn, tmps, as, body, h1, h2.mono hr⟩
theorem CallsV.mono {P : Program} {Y : Value} {args : List Value} {w : World} {R R' : Ending → World → Prop} (h : CallsV P Y args w R) (hr : ∀ x w, R x w → R' x w) : CallsV P Y args w R' := by
  rcases h with ⟨f, cc, h1, h2, h3⟩ | ⟨l, h1, h2⟩
  · exact .inl ⟨f, cc, h1, h2, h3.mono hr⟩
  · exact .inr ⟨l, h1, YAt_mono h2 hr⟩
theorem CV.mono {P : Program} {N : Nat} {w0 : World} {L : Hp} {Y : Value} {args : List Value} {R R' : Ending → Hp → Prop} (h : CV P N w0 L Y args R) (hr : ∀ x L, R x L → R' x L) : CV P N w0 L Y args R' :=
  fun w hI => (h w hI).mono fun _ _ ⟨L', h1, h2⟩ => ⟨L', h1, hr _ _ h2⟩
theorem CV.wk {P : Program} {N : Nat} {w0 : World} {L L' : Hp} {Y : Value} {args : List Value} {R : Ending → Hp → Prop} (h : CV P N w0 L' Y args R) (k : Wk L L') : CV P N w0 L Y args R :=
  fun w hI => h w (hI.wk k)
theorem CV.perm {P : Program} {N : Nat} {w0 : World} {L L' : Hp} {Y : Value} {args : List Value} {R : Ending → Hp → Prop} (h : CV P N w0 L' Y args R) (k : L.Perm L') : CV P N w0 L Y args R :=
  fun w hI => h w (hI.perm k)
theorem CV.fn {P : Program} {N : Nat} {w0 : World} {L : Hp} {f : FuncId} [HasBody P f] {args cc : List Value} {R : Ending → Hp → Prop} (h : Tri P N w0 L f (args ++ cc).toArray R) : CV P N w0 L (.func (.func f) #[] cc.toArray) args R :=
  fun w hI => .inl ⟨f, cc, rfl, fun as w => run_callFunc as w, h w hI⟩

section
variable {P : Program} {r : Option Nat} {n N : Nat} {w0 : World} {L : Hp} {e : Env} {d : Option Nat} {ty : TypeId} {pos : String} {af : Array Edge} {g : Option (Nat × Bool)} {ops : Array Oper} {rest : List Oper} {Q : Post} {ds : List Deferred}

theorem OPS_callV {x : Operand} {Y : Value} {xs : List Operand} {ts : Array TypeId} {args : List Value} {R : Ending → Hp → Prop} (hx : ev e x = Y) (hv : xs.map (ev e) = args) (hc : CV P N w0 L Y args R)
    (hg : Region.wanted ⟨d, .call { callee := .value x, args := xs.toArray, argTypes := ts }, ty, pos, af, g⟩ (yieldE ops e) = true) (hd : dstOk n d = true)
    (hret : ∀ v L', R (.returned v) L' → OPS P r n N w0 ops rest Q (updO e d v) ds L') (hpan : ∀ ch L', R (.panicked ch) L' → Q (.panic ch) e ds L') (hout : ∀ L', ¬ R .outgrown L') :
    OPS P r n N w0 ops (⟨d, .call { callee := .value x, args := xs.toArray, argTypes := ts }, ty, pos, af, g⟩ :: rest) Q e ds L := by
  refine OPS_gen hg rfl fun a w hs he hd' hI => ?_
  subst hv
  rcases hc w hI with ⟨f, cc, hY, hf, hcall⟩ | ⟨l, hY, hcall⟩
  · rw [hY] at hx
    have hrun : (execOp (ev e) ⟨d, .call { callee := .value x, args := xs.toArray, argTypes := ts }, ty, pos, af, g⟩).run P w = .ok (.enter f (xs.map (ev e) ++ cc).toArray) w := by
      simp [execOp, resolve, hx, Deferred.ofValue, invoke, hf]
    rw [hrun]
    refine ⟨fun h => (by rw [FW_depth] at h; cases h), callsFW.2 (hcall.mono ?_)⟩
    subst he
    rintro x' w' ⟨L', hI', hR⟩
    cases x' with
    | returned v => exact hret v L' hR _ _ (size_put.trans hs) (envOf_put hs hd) (defers_put.trans hd') hI'
    | panicked ch => exact ⟨hs, L', hI', by rw [hd']; exact hpan ch L' hR⟩
    | outgrown => exact absurd hR (hout L')
  · rw [hY] at hx
    obtain ⟨fn, tmps, as, body, hy, hround⟩ := hcall
    have hrun : (execOp (ev e) ⟨d, .call { callee := .value x, args := xs.toArray, argTypes := ts }, ty, pos, af, g⟩).run P w = .ok (.round l fn tmps as body) w := by
      simp [execOp, resolve, hx, Deferred.ofValue, invoke]
      simpa using hy
    rw [hrun]
    refine ⟨fun h => (by rw [FW_depth] at h; cases h), ?_⟩
    have hround' : RoundIn (FW r) (0 - 1) P l fn tmps as body w (fun x w' => ∃ L', Inv N w0 L' w' ∧ R x L') := by
      cases r with
      | none => exact hround
      | some l' => exact hround
    refine hround'.mono ?_
    subst he
    rintro x' w' ⟨L', hI', hR⟩
    cases x' with
    | returned v => exact hret v L' hR _ _ (size_put.trans hs) (envOf_put hs hd) (defers_put.trans hd') hI'
    | panicked ch => exact ⟨hs, L', hI', by rw [hd']; exact hpan ch L' hR⟩
    | outgrown => exact absurd hR (hout L')
/-- It returns, and what it returns is known by K alone. -/
theorem OPS_callVK {x : Operand} {Y : Value} {xs : List Operand} {ts : Array TypeId} {args : List Value} {K : Value → Hp → Prop} (hx : ev e x = Y) (hv : xs.map (ev e) = args) (hc : CV P N w0 L Y args fun x L' => ∃ v, x = .returned v ∧ K v L')
    (hg : Region.wanted ⟨d, .call { callee := .value x, args := xs.toArray, argTypes := ts }, ty, pos, af, g⟩ (yieldE ops e) = true) (hd : dstOk n d = true)
    (h : ∀ v L', K v L' → OPS P r n N w0 ops rest Q (updO e d v) ds L') :
    OPS P r n N w0 ops (⟨d, .call { callee := .value x, args := xs.toArray, argTypes := ts }, ty, pos, af, g⟩ :: rest) Q e ds L :=
  OPS_callV hx hv hc hg hd (fun v L' ⟨v', h1, h2⟩ => by injection h1 with h1; subst h1; exact h _ _ h2) (fun ch L' ⟨_, h1, _⟩ => by cases h1) (fun L' ⟨_, h1, _⟩ => by cases h1)
end

section
variable {P : Program} {r : Option Nat} {n N : Nat} {w0 : World} {L : Hp} {e : Env} {d : Nat} {ty : TypeId} {pos : String} {af : Array Edge} {g : Option (Nat × Bool)} {ops : Array Oper} {rest : List Oper} {Q : Post} {ds : List Deferred}
theorem OPS_callVS {x : Operand} {Y : Value} {xs : List Operand} {ts : Array TypeId} {args : List Value} {K : Value → Hp → Prop} (hx : ev e x = Y) (hv : xs.map (ev e) = args) (hc : CV P N w0 L Y args fun x L' => ∃ v, x = .returned v ∧ K v L')
    (hg : Region.wanted ⟨some d, .call { callee := .value x, args := xs.toArray, argTypes := ts }, ty, pos, af, g⟩ (yieldE ops e) = true) (hd : Nat.blt d n = true)
    (h : ∀ v L', K v L' → OPS P r n N w0 ops rest Q (upd e d v) ds L') :
    OPS P r n N w0 ops (⟨some d, .call { callee := .value x, args := xs.toArray, argTypes := ts }, ty, pos, af, g⟩ :: rest) Q e ds L := OPS_callVK hx hv hc hg hd h
end
def Sub (B L : Hp) : Prop := ∃ L0, L.Perm (B ++ L0)
theorem Sub.refl (B : Hp) : Sub B B := ⟨[], by simp⟩
theorem Sub.cons {B L : Hp} {x : Nat × (Obj → Prop)} (h : Sub B L) : Sub B (x :: L) := by
  obtain ⟨L0, h⟩ := h
  refine ⟨x :: L0, (h.cons x).trans ?_⟩
  exact (List.perm_middle).symm
theorem Sub.app {B L : Hp} (X : Hp) (h : Sub B L) : Sub B (X ++ L) := by
  induction X with
  | nil => exact h
  | cons x X ih => exact ih.cons
theorem Sub.appR {B L : Hp} (X : Hp) (h : Sub B L) : Sub B (L ++ X) := by
  obtain ⟨L0, h⟩ := h
  exact ⟨L0 ++ X, by simpa using h.append_right X⟩
theorem Sub.mem {B L : Hp} (h : Sub B L) {b : Nat} {φ : Obj → Prop} (hm : Mem b φ B) : Mem b φ L := by
  obtain ⟨L0, h⟩ := h
  exact .of (h.mem_iff.2 (List.mem_append_left _ hm.mem))
theorem Sub.trans {A B C : Hp} (h : Sub A B) (k : Sub B C) : Sub A C := by
  obtain ⟨X, h⟩ := h
  obtain ⟨Y, k⟩ := k
  refine ⟨X ++ Y, k.trans ?_⟩
  simpa using h.append_right Y

theorem CV.pm {P : Program} {N : Nat} {w0 : World} {L L2 : Hp} {Y : Value} {args : List Value} {R R' : Ending → Hp → Prop} (h : CV P N w0 L2 Y args R) (hp : L.Perm L2) (hr : ∀ x L', R x L' → ∃ L'', L'.Perm L'' ∧ R' x L'') : CV P N w0 L Y args R' :=
  fun w hI => (h w (hI.perm hp)).mono fun _ _ ⟨_, h1, h2⟩ => let ⟨L'', h3, h4⟩ := hr _ _ h2; ⟨L'', h1.perm h3, h4⟩
/-! ## Iterators -/
/-- What yield does: from the k-th state to the next one, or to an end. -/
def YieldOK (P : Program) (N : Nat) (w0 : World) (J : Nat → Hp → Prop) (Jx : Hp → Prop) (xs : List (List Value)) (Y : Value) : Prop :=
  ∀ (X : Hp) (k : Nat) (hk : k < xs.length) (Fr : Hp), J k Fr → CV P N w0 (Fr ++ X) Y xs[k] fun x L' => ∃ v, x = .returned v ∧ ∃ Fr', L' = Fr' ++ X ∧ ((v = .bool true ∧ J (k + 1) Fr') ∨ (v = .bool false ∧ Jx Fr'))
/-- It yields these, one after the other; nd is what it leans on. -/
def IterOK (P : Program) (N : Nat) (w0 : World) (f : FuncId) (cc : List Value) (xs : List (List Value)) (nd : Hp) : Prop :=
  ∀ (fy : Fn) (ya yb : Array Value) (J : Nat → Hp → Prop) (Jx : Hp → Prop), YieldOK P N w0 J Jx xs (.func fy ya yb) → (∀ k Fr, J k Fr → Sub nd Fr) → ∀ Fr X, J 0 Fr →
    Tri P N w0 (Fr ++ X) f (.func fy ya yb :: cc).toArray fun x L' => (∃ v, x = .returned v) ∧ ∃ Fr', L' = Fr' ++ X ∧ (J xs.length Fr' ∨ Jx Fr')

def QAsg (P : Program) (r : Option Nat) (n N : Nat) (w0 : World) (X : Hp) (body : Code) (Q : Hp → Post) : Post
  | .normal, e, ds, L => ds = [] ∧ ∃ Fr, L = Fr ++ X ∧ ∀ X1, WP P r n N w0 body (Q X1) e [] (Fr ++ X1)
  | _, _, _, _ => False
def QRound (J : Hp → Prop) (Jx : Exit → Hp → Prop) (X : Hp) : Post
  | .normal, _, _, L => ∃ Fr, Wk L (Fr ++ X) ∧ J Fr
  | .ret, _, _, L => ∃ Fr, Wk L (Fr ++ X) ∧ Jx .ret Fr
  | .exit id, _, _, L => ∃ Fr, Wk L (Fr ++ X) ∧ Jx (.exit id) Fr
  | _, _, _, _ => False

theorem Inv.putObj {N : Nat} {w0 w : World} {L L' : Hp} {b : Nat} {φ φ' : Obj → Prop} {o : Obj} (h : Inv N w0 L w) (hu : Up L b φ φ' L') (ho : φ' o) : Inv N w0 L' (w.putObj b o) := by
  have hlt := h.lt hu.mem.mem
  exact h.turn hu rfl rfl rfl (by simp) (fun k _ hk => World.putObj_heap_other hk) ⟨o, World.putObj_heap_same hlt, ho⟩

def setE (e : Env) : List Nat → List Value → Env
  | p :: ps, v :: vs => setE (upd e p v) ps vs
  | _, _ => e
theorem envOf_fold {n : Nat} : ∀ (ps : List Nat) (vs : List Value) (t : Array Value), t.size = n → (ps.all fun p => Nat.blt p n) = true →
    envOf { tmps := (ps.zip vs).foldl (fun t (x : Nat × Value) => t.setIfInBounds x.1 x.2) t, defers := [] } = setE (envOf { tmps := t, defers := [] }) ps vs ∧ ((ps.zip vs).foldl (fun t (x : Nat × Value) => t.setIfInBounds x.1 x.2) t).size = n
  | [], vs, t, hs, _ => ⟨rfl, by simpa using hs⟩
  | p :: ps, [], t, hs, _ => ⟨rfl, by simpa using hs⟩
  | p :: ps, v :: vs, t, hs, hp => by
    simp only [List.all_cons, Bool.and_eq_true] at hp
    have hs' : (t.setIfInBounds p v).size = n := by simpa using hs
    obtain ⟨h1, h2⟩ := envOf_fold ps vs (t.setIfInBounds p v) hs' hp.2
    refine ⟨?_, by simpa using h2⟩
    simp only [List.zip_cons_cons, List.foldl_cons, setE]
    rw [h1]
    congr 1
    have := envOf_put (a := { tmps := t, defers := [] }) (n := n) (d := some p) (v := v) hs (by simpa [dstOk] using hp.1)
    simpa [Act.put, updO] using this

section
variable {P : Program} {n N : Nat} {w0 : World} {Q : Post} {e : Env} {ds : List Deferred} {L : Hp}
abbrev mark (D : Nat) : Deferred := { target := .collected D, args := #[] }
theorem WP_rangeFunc {g : Operand} {ps : List Nat} {assign body : Code} {f : FuncId} [HasBody P f] {cc : List Value} {xs : List (List Value)} {nd : Hp}
    (hg : ev e g = .func (.func f) #[] cc.toArray) (hit : IterOK P N w0 f cc xs nd) (J : Nat → Hp → Prop) (Jx : Exit → Hp → Prop) (Fr X : Hp) (hL : Wk L (Fr ++ X)) (h0 : J 0 Fr) (hnd : ∀ k Fr, J k Fr → Sub nd Fr)
    (hps : ∀ x ∈ xs, x.length = ps.length) (hpn : (ps.all fun p => Nat.blt p n) = true)
    (round : ∀ l X0 k (hk : k < xs.length) Fr, J k Fr → WP P (some l) n N w0 assign (QAsg P (some l) n N w0 X0 body (fun X1 => QRound (J (k + 1)) Jx X1)) (setE e ps xs[k]) [] (Fr ++ X0))
    (done : ∀ D Fr, J xs.length Fr → Q .normal e (mark D :: ds) ((D, Is (.deferred (some []))) :: (Fr ++ X)))
    (stop : ∀ D x Fr, Jx x Fr → (x = .ret ∨ ∃ id, x = .exit id) → Q x e (mark D :: ds) ((D, Is (.deferred (some []))) :: (Fr ++ X))) :
    WP P none n N w0 (.rangeFunc g ps.toArray assign body) Q e ds L := by
  rintro a w hs he hd hI
  refine wpIn_rangeFunc ?_
  intro fn hfn
  replace hI := hI.wk hL
  obtain ⟨rec, hrec⟩ : ∃ rec : LoopState → Option Code → Loop, rec = fun st pe => { state := st, pending := pe, fn, tmps := a.tmps, params := ps.toArray, assign, body, defers := w.heap.size } := ⟨_, rfl⟩
  obtain ⟨D, hD⟩ : ∃ D, D = w.heap.size := ⟨_, rfl⟩
  obtain ⟨l, hl⟩ : ∃ l, l = w.heap.size + 1 := ⟨_, rfl⟩
  have hI1 : Inv N w0 ((l, Is (.loop (rec .ready none))) :: (D, Is (.deferred (some []))) :: (Fr ++ X)) ((w.alloc (.deferred (some []))).alloc (.loop (rec .ready none))) := by
    have := (hI.alloc (o := .deferred (some [])) (φ := Is (.deferred (some []))) rfl).alloc (o := .loop (rec .ready none)) (φ := Is (.loop (rec .ready none))) rfl
    rw [World.size_alloc] at this
    rw [hl, hD]; exact this
  subst he
  have hgv : a.eval g = .func (.func f) #[] cc.toArray := by rw [eval_eq]; exact hg
  obtain ⟨W1, hW1⟩ : ∃ W1, W1 = (w.alloc (.deferred (some []))).alloc (.loop (rec .ready none)) := ⟨_, rfl⟩
  rw [← hW1] at hI1
  refine ⟨l, [mark D], W1, { target := .fn (.func f) cc.toArray, args := #[.func (.yield l) #[] #[]] }, W1, f, #[.func (.yield l) #[] #[]] ++ cc.toArray, W1, ?_, ?_, fun f' _ => FW_fn none f', ?_, fun h => (by rw [FW_depth] at h; cases h), ?_⟩
  · rw [FW_round, hW1, hl, hD, hrec]; exact run_enterLoop_outer _ _ _ _ _
  · simp only [resolve, hgv]
    simp [Deferred.ofValue, Act.eval]
  · simp [invoke, run_callFunc]
  · -- the iterator, at the loop's own state
    let J' : Nat → Hp → Prop := fun k F' => ∃ Fr, J k Fr ∧ F' = (l, Is (.loop (rec .ready none))) :: (D, Is (.deferred (some []))) :: Fr
    let Jx' : Hp → Prop := fun F' => ∃ x c Fr, Jx x Fr ∧ ((x = .ret ∧ c = .ret) ∨ ∃ id, x = .exit id ∧ c = .exit id) ∧ F' = (l, Is (.loop (rec .done (some c)))) :: (D, Is (.deferred (some []))) :: Fr
    have hy : YieldOK P N w0 J' Jx' xs (.func (.yield l) #[] #[]) := by
      rintro X0 k hk _ ⟨Fr, hJ, rfl⟩ W hW
      refine .inr ⟨l, rfl, ?_⟩
      have hlo : W.heap[l]? = some (.loop (rec .ready none)) := hW.obj (b := l) (.here)
      have hxk : xs[k] ∈ xs := List.getElem_mem hk
      have hyr := run_yield (P := P) (args := xs[k].toArray) hlo (by rw [hrec]; simpa using hps _ hxk)
      rw [hrec] at hyr
      refine ⟨fn, _, assign, body, hyr, ?_⟩
      have hzip : ((ps.toArray.zip xs[k].toArray).foldl (fun tmps (x : Nat × Value) => tmps.setIfInBounds x.1 x.2) a.tmps) = (ps.zip xs[k]).foldl (fun tmps (x : Nat × Value) => tmps.setIfInBounds x.1 x.2) a.tmps := by
        rw [← Array.foldl_toList]; simp
      obtain ⟨hf1, hf2⟩ := envOf_fold (n := n) ps xs[k] a.tmps hs hpn
      refine roundIn_of_wpIn (F := Fence.wide) hfn ?_
      have hperm : Inv N w0 (Fr ++ ((l, Is (.loop (rec .ready none))) :: (D, Is (.deferred (some []))) :: X0)) W := by
        refine hW.perm ?_
        show ((l, Is (.loop (rec .ready none))) :: (D, Is (.deferred (some []))) :: (Fr ++ X0)).Perm _
        have h1 : ([(l, Is (.loop (rec .ready none))), (D, Is (.deferred (some [])))] ++ Fr).Perm (Fr ++ [(l, Is (.loop (rec .ready none))), (D, Is (.deferred (some [])))]) := List.perm_append_comm
        have h2 := h1.append_right X0
        simpa using h2
      have hwp := round l _ k hk Fr hJ { tmps := (ps.zip xs[k]).foldl (fun tmps (x : Nat × Value) => tmps.setIfInBounds x.1 x.2) a.tmps, defers := [] } W hf2 (by rw [hf1]; rfl) rfl hperm
      show assign.wpIn (Fence.wide.inRound l) 0 P _ _ W
      rw [hzip]
      refine Go.wpIn_mono hwp ?_
      rintro x1 a1 W1 ⟨hs1, L1, hI1, hq⟩
      cases x1 <;> try exact hq.elim
      obtain ⟨hds1, Fr1, rfl, hbody⟩ := hq
      have hlo1 : W1.heap[l]? = some (.loop (rec .ready none)) := hI1.obj (b := l) (Mem.app Fr1 .here)
      refine ⟨_, run_beginRound hlo1 (by rw [hrec]), ?_⟩
      have hup1 : Up (Fr1 ++ ((l, Is (.loop (rec .ready none))) :: (D, Is (.deferred (some []))) :: X0)) l (Is (.loop (rec .ready none))) (Is (.loop { rec .ready none with state := .busy })) (Fr1 ++ ((l, Is (.loop { rec .ready none with state := .busy })) :: (D, Is (.deferred (some []))) :: X0)) := by
        clear hbody hI1 hperm
        induction Fr1 with
        | nil => exact .here
        | cons y Fr1 ih => exact .there ih
      have hI2 := hI1.putObj hup1 (o := .loop { rec .ready none with state := .busy }) rfl
      have hwb := hbody _ a1 _ hs1 rfl hds1 hI2
      refine Go.wpIn_mono hwb ?_
      have fin : ∀ (jump : Option Code) (W3 : World) (L3 Fr3 : Hp), Inv N w0 L3 W3 → Wk L3 (Fr3 ++ ((l, Is (.loop { rec .ready none with state := .busy })) :: (D, Is (.deferred (some []))) :: X0)) →
          (Instr.endRound l jump).run P W3 = .ok (.bool jump.isNone) (W3.putObj l (.loop (rec (if jump.isNone then .ready else .done) jump))) ∧
          Inv N w0 (((l, Is (.loop (rec (if jump.isNone then .ready else .done) jump))) :: (D, Is (.deferred (some []))) :: Fr3) ++ X0) (W3.putObj l (.loop (rec (if jump.isNone then .ready else .done) jump))) := by
        intro jump W3 L3 Fr3 hI3 hwk
        replace hI3 := hI3.wk hwk
        have hlo3 : W3.heap[l]? = some (.loop { rec .ready none with state := .busy }) := hI3.obj (b := l) (Mem.app Fr3 .here)
        have hre := run_endRound (P := P) jump hlo3
        refine ⟨by rw [hre, hrec], ?_⟩
        have hp3 : Inv N w0 (((l, Is (.loop { rec .ready none with state := .busy })) :: (D, Is (.deferred (some []))) :: Fr3) ++ X0) W3 := by
          refine hI3.perm ?_
          have h1 : ([(l, Is (.loop { rec .ready none with state := .busy })), (D, Is (.deferred (some [])))] ++ Fr3).Perm (Fr3 ++ [(l, Is (.loop { rec .ready none with state := .busy })), (D, Is (.deferred (some [])))]) := List.perm_append_comm
          have h2 := (h1.append_right X0).symm
          simpa using h2
        exact hp3.putObj (φ := Is (.loop { rec .ready none with state := .busy })) (φ' := Is (.loop (rec (if jump.isNone then .ready else .done) jump))) .here rfl
      rintro x3 a3 W3 ⟨hs3, L3, hI3, hq3⟩
      cases x3 with
      | normal =>
        obtain ⟨Fr3, hwk, hJ3⟩ := hq3
        obtain ⟨hr, hI4⟩ := fin none W3 L3 Fr3 hI3 hwk
        exact ⟨_, _, hr, _, hI4, _, rfl, _, rfl, .inl ⟨rfl, Fr3, hJ3, rfl⟩⟩
      | ret =>
        obtain ⟨Fr3, hwk, hJ3⟩ := hq3
        obtain ⟨hr, hI4⟩ := fin (some .ret) W3 L3 Fr3 hI3 hwk
        exact ⟨_, _, hr, _, hI4, _, rfl, _, rfl, .inr ⟨rfl, .ret, .ret, Fr3, hJ3, .inl ⟨rfl, rfl⟩, rfl⟩⟩
      | exit id =>
        obtain ⟨Fr3, hwk, hJ3⟩ := hq3
        obtain ⟨hr, hI4⟩ := fin (some (.exit id)) W3 L3 Fr3 hI3 hwk
        exact ⟨_, _, hr, _, hI4, _, rfl, _, rfl, .inr ⟨rfl, .exit id, .exit id, Fr3, hJ3, .inr ⟨id, rfl, rfl⟩, rfl⟩⟩
      | goto t => exact hq3.elim
      | panic ch => exact hq3.elim
      | outgrown => exact hq3.elim
    have hcall := hit _ _ _ J' Jx' hy (by
      rintro k _ ⟨Fr, hJ, rfl⟩
      exact (hnd k Fr hJ).cons.cons) _ X ⟨Fr, h0, rfl⟩ _ hI1
    have hcall' := (callsIn_wide (n := 0 - 1)).2 hcall
    have hargs : (#[Value.func (.yield l) #[] #[]] ++ cc.toArray : Array Value) = (Value.func (.yield l) #[] #[] :: cc).toArray := by simp
    rw [hargs]
    refine hcall'.mono ?_
    rintro x W2 ⟨L2, hI2, ⟨v, rfl⟩, Fr', rfl, (⟨Fr2, hJ2, rfl⟩ | ⟨x, c, Fr2, hJ2, hxc, rfl⟩)⟩
    · have hlo : W2.heap[l]? = some (.loop (rec .ready none)) := hI2.obj (b := l) .here
      have hre := run_endLoop (P := P) hlo (by rw [hrec]; simp)
      refine ⟨none, W2.putObj l (.loop { rec .ready none with state := .exhausted }), by rw [hre, hrec], ?_⟩
      have hI3 := (hI2.putObj (b := l) (φ' := fun _ => True) (o := .loop { rec .ready none with state := .exhausted }) .here trivial).wk (.drop (.refl _))
      exact ⟨hs, _, hI3, by subst hd; exact done D Fr2 hJ2⟩
    · have hlo : W2.heap[l]? = some (.loop (rec .done (some c))) := hI2.obj (b := l) .here
      have hre := run_endLoop (P := P) hlo (by rw [hrec]; simp)
      refine ⟨some c, W2.putObj l (.loop { rec .done (some c) with state := .exhausted }), by rw [hre, hrec], ?_⟩
      have hI3 := (hI2.putObj (b := l) (φ' := fun _ => True) (o := .loop { rec .done (some c) with state := .exhausted }) .here trivial).wk (.drop (.refl _))
      rcases hxc with ⟨rfl, rfl⟩ | ⟨id, rfl, rfl⟩
      · exact wpIn_ret ⟨hs, _, hI3, by subst hd; exact stop D _ Fr2 hJ2 (.inl rfl)⟩
      · exact wpIn_exit ⟨hs, _, hI3, by subst hd; exact stop D _ Fr2 hJ2 (.inr ⟨id, rfl⟩)⟩
end
end Go.Proofs.Ytlpahkmfjpjheaa
end

section
namespace Go.Proofs.Ytlpahkmfjpjheaa
open Go.RowKit
/-- What writes, in every order; B is left alone. -/
def QB (ds : List Deferred) (A : Env → Hp → Prop) : Post
  | .normal, e, ds', L => ds' = ds ∧ A e L
  | _, _, _, _ => False
def AnyB (P : Program) (r : Option Nat) (n N : Nat) (w0 : World) (ops : Array Oper) (Q : Post) (ds : List Deferred) (B : Hp) : Nat → Array Bool → Env → Hp → Prop
  | 0, listed, e, L => Sub B L ∧ Region.ready .any ops listed = [] ∧ ∃ L1, L.Perm L1 ∧ Q .normal e ds L1
  | fuel + 1, listed, e, L => Sub B L ∧ Region.ready .any ops listed ≠ [] ∧ ∀ j ∈ Region.ready .any ops listed, ∃ o, ops[j]? = some o ∧ OPS P r n N w0 ops [o] (QB ds (AnyB P r n N w0 ops Q ds B fuel (listed.setIfInBounds j true))) e ds L
section
variable {P : Program} {r : Option Nat} {n N : Nat} {w0 : World} {ops : Array Oper} {Q : Post} {ds : List Deferred} {e : Env} {L B : Hp}
theorem Sub.perm {B L L' : Hp} (h : Sub B L) (k : L'.Perm L) : Sub B L' := let ⟨L0, h⟩ := h; ⟨L0, k.trans h⟩
theorem AnyB.sub : ∀ {fuel : Nat} {listed : Array Bool}, AnyB P r n N w0 ops Q ds B fuel listed e L → Sub B L
  | 0, _, h => h.1
  | _ + 1, _, h => h.1
theorem AnyB.perm {L' : Hp} (k : L'.Perm L) : ∀ {fuel : Nat} {listed : Array Bool}, AnyB P r n N w0 ops Q ds B fuel listed e L → AnyB P r n N w0 ops Q ds B fuel listed e L'
  | 0, _, h => ⟨h.1.perm k, h.2.1, let ⟨L1, h1, h2⟩ := h.2.2; ⟨L1, k.trans h1, h2⟩⟩
  | _ + 1, _, h => ⟨h.1.perm k, h.2.1, fun j hj => let ⟨o, ho, h3⟩ := h.2.2 j hj; ⟨o, ho, fun a w hs he hd hI => h3 a w hs he hd (hI.perm k)⟩⟩
theorem wpOpIn_of_OPSB {i : Nat} {o : Oper} {A : Env → Hp → Prop} (ho : ops[i]? = some o) (h : OPS P r n N w0 ops [o] (QB ds A) e ds L) {a : Act} {w : World} (hs : a.tmps.size = n) (he : envOf a = e) (hd : a.defers = ds) (hI : Inv N w0 L w) :
    wpOpIn (FW r) 0 P ops (fun _ _ _ => False) i (fun a w => a.tmps.size = n ∧ a.defers = ds ∧ ∃ L', Inv N w0 L' w ∧ A (envOf a) L') a w := by
  have h1 := h a w hs he hd hI
  unfold wpListIn at h1
  unfold wpOpIn
  rw [ho]
  simp only
  have key : ∀ a w, wpListIn (FW r) 0 P ops (PostA n N w0 (QB ds A)) [] a w → (a.tmps.size = n ∧ a.defers = ds ∧ ∃ L', Inv N w0 L' w ∧ A (envOf a) L') := by
    rintro a w ⟨hs', L', hI', hd', hA⟩
    exact ⟨hs', hd', L', hI', hA⟩
  split
  · rename_i hw
    rw [if_pos hw] at h1
    have h2 := Oper.wpIn_mono key h1
    refine ⟨h2.1, uponIn_monoQ (Q1 := PostA n N w0 (QB ds A)) ?_ h2.2⟩
    rintro x a w hx ⟨hs', L', hI', hq⟩
    cases x <;> first
      | exact absurd rfl hx
      | exact hq
  · rename_i hw
    rw [if_neg hw] at h1
    exact ⟨h1.1, key _ _ h1.2⟩
theorem wpOpIn_monoQ {i : Nat} {K : Act → World → Prop} {Q2 : Exit → Act → World → Prop} {a : Act} {w : World} (h : wpOpIn (FW r) 0 P ops (fun _ _ _ => False) i K a w) : wpOpIn (FW r) 0 P ops Q2 i K a w := by
  unfold wpOpIn at h ⊢
  cases ho : ops[i]? with
  | none => rw [ho] at h; exact h
  | some o =>
    rw [ho] at h
    simp only at h ⊢
    split
    · rename_i hw
      rw [if_pos hw] at h
      exact ⟨h.1, uponIn_monoQ (Q1 := fun _ _ _ => False) (fun _ _ _ _ h => h.elim) h.2⟩
    · rename_i hw
      rw [if_neg hw] at h
      exact h
theorem AnyB.any : ∀ {fuel : Nat} {listed : Array Bool} {e : Env} {L : Hp}, AnyB P r n N w0 ops Q ds B fuel listed e L → AnyO P r n N w0 ops Q ds fuel listed e L
  | 0, _, _, _, h => by
    rintro a w hs rfl rfl hI
    obtain ⟨_, h1, L1, h2, h3⟩ := h
    exact ⟨h1, hs, L1, hI.perm h2, h3⟩
  | fuel + 1, listed, e, L, h => by
    rintro a w hs he hd hI
    refine ⟨fun h0 => absurd h0 h.2.1, fun j hj => ?_⟩
    obtain ⟨o, ho, h3⟩ := h.2.2 j hj
    have h4 := wpOpIn_monoQ (Q2 := PostA n N w0 Q) (wpOpIn_of_OPSB ho h3 hs he hd hI)
    refine wpOpIn_mono ?_ h4
    rintro a1 w1 ⟨hs1, hd1, L1, hI1, hA1⟩
    exact AnyB.any hA1 a1 w1 hs1 rfl hd1 hI1

def PLexB (P : Program) (n N : Nat) (w0 : World) (ops : Array Oper) (L : Hp) : Env → List Pd → Prop
  | _, [] => True
  | e, x :: ts => ops[x.1]? = some x.2.1 ∧ fine n x.2.1 = true ∧ EStep P N w0 ops L e x.2.1 x.2.2 ∧ PLexB P n N w0 ops L (updO e x.2.1.dst x.2.2) ts
theorem envOf_putAllB : ∀ (ts : List Pd) (e : Env) (a : Act), PLexB P n N w0 ops L e ts → a.tmps.size = n → envOf (putAll a ts) = updAll (envOf a) ts ∧ (putAll a ts).tmps.size = n
  | [], _, _, _, hs => ⟨rfl, hs⟩
  | x :: ts, e, a, h, hs => by
    obtain ⟨_, h2, _, h4⟩ := h
    have := envOf_putAllB ts _ (a.put x.2.1.dst x.2.2) h4 (size_put.trans hs)
    simp only [putAll, updAll, List.foldl_cons] at this ⊢
    rw [envOf_put hs (fine_spec h2).1] at this
    exact this
theorem PLexB.upd {oj : Oper} {u : Value} : ∀ (ts : List Pd) (e : Env), PLexB P n N w0 ops L e ts → (∀ x ∈ ts, x.2.1.apart ops oj = true) → PLexB P n N w0 ops L (updO e oj.dst u) ts
  | [], _, _, _ => trivial
  | x :: ts, e, h, ha => by
    obtain ⟨h1, h2, h3, h4⟩ := h
    obtain ⟨a1, a2, a3⟩ := Oper.apart_spec (ha x List.mem_cons_self)
    refine ⟨h1, h2, (EStep.of_upd (fine_spec h2).2.2 a3).2 h3, ?_⟩
    rw [← updO_comm a2]
    exact PLexB.upd ts _ h4 (fun y hy => ha y (List.mem_cons_of_mem _ hy))
theorem PLexB.pull {j : Pd} {t2 : List Pd} : ∀ (t1 : List Pd) (e : Env) (a : Act), PLexB P n N w0 ops L e (t1 ++ j :: t2) → (∀ x ∈ t1, x.2.1.apart ops j.2.1 = true) →
    ops[j.1]? = some j.2.1 ∧ fine n j.2.1 = true ∧ EStep P N w0 ops L e j.2.1 j.2.2 ∧ PLexB P n N w0 ops L (updO e j.2.1.dst j.2.2) (t1 ++ t2) ∧ putAll a (t1 ++ j :: t2) = putAll (a.put j.2.1.dst j.2.2) (t1 ++ t2)
  | [], e, a, h, _ => ⟨h.1, h.2.1, h.2.2.1, h.2.2.2, rfl⟩
  | x :: t1, e, a, h, ha => by
    obtain ⟨h1, h2, h3, h4⟩ := h
    obtain ⟨k1, k2, k3, k4, k5⟩ := PLexB.pull t1 _ (a.put x.2.1.dst x.2.2) h4 (fun y hy => ha y (List.mem_cons_of_mem _ hy))
    obtain ⟨a1, a2, a3⟩ := Oper.apart_spec (ha x List.mem_cons_self)
    refine ⟨k1, k2, (EStep.of_upd (fine_spec k2).2.2 a1).1 k3, ⟨h1, h2, (EStep.of_upd (fine_spec h2).2.2 a3).2 h3, ?_⟩, ?_⟩
    · rw [← updO_comm a2]; exact k4
    · simp only [putAll, List.cons_append, List.foldl_cons] at k5 ⊢
      rw [k5, put_comm a2]
theorem wpOpIn_backB {j : Nat} {o : Oper} {ts : List Pd} {K K' : Act → World → Prop} {PQ : Exit → Act → World → Prop} {a : Act} {w : World} (ho : ops[j]? = some o) (hf : fine n o = true) (hq : ∀ ch a w, ¬ PQ (.panic ch) a w) (ha : ∀ x ∈ ts, x.2.1.apart ops o = true)
    (hl : PLexB P n N w0 ops L (envOf a) ts) (hs : a.tmps.size = n) (hk : ∀ a1 w1, a1.tmps.size = n → PLexB P n N w0 ops L (envOf a1) ts → K (putAll a1 ts) w1 → K' a1 w1) (h : wpOpIn (FW r) 0 P ops PQ j K (putAll a ts) w) : wpOpIn (FW r) 0 P ops PQ j K' a w := by
  obtain ⟨f1, f2, f3⟩ := fine_spec hf
  obtain ⟨e1, _⟩ := envOf_putAllB ts _ a hl hs
  obtain ⟨x1, x2⟩ := exec_all (ops := ops) f3 ts (envOf a) ha
  have hp : ∀ x ∈ ts, ∀ t, x.2.1.dst = some t → o.dst ≠ some t := fun x hx => (Oper.apart_spec (ha x hx)).2.1
  have hk' : ∀ (v : Value) (ds : List Deferred) (w : World), K (putAll ({ a with defers := ds }.put o.dst v) ts) w → K' ({ a with defers := ds }.put o.dst v) w := by
    intro v ds w hK
    refine hk _ _ (size_put.trans hs) ?_ hK
    have h1 : envOf (({ a with defers := ds } : Act).put o.dst v) = updO (envOf a) o.dst v := envOf_put (a := { a with defers := ds }) hs f1
    rw [h1]
    exact hl.upd ts _ ha
  unfold wpOpIn at h ⊢
  rw [ho] at h ⊢
  simp only [yieldE_eq, e1, x2] at h ⊢
  split
  · rename_i hw
    rw [if_pos hw] at h
    refine ⟨fun f _ => FW_fn r f, ?_⟩
    have h2 := h.2
    rw [Oper.semAt_eq _ _ _ (isDefer_ne f2), eval_eq] at h2 ⊢
    rw [e1, x1] at h2
    exact uponIn_back hq hp hk' h2
  · rename_i hw
    rw [if_neg hw] at h
    refine ⟨fun f _ => FW_fn r f, ?_⟩
    have h2 := h.2
    rw [putAll_put ts a hp] at h2
    exact hk' undef a.defers w h2

theorem pendB {T : List Nat} (hTS : ∀ i ∈ T, ∀ j, j < ops.size → j ∉ T → waits ops i j = true ∨ waits ops j i = true ∨ apartO ops i j = true) (hfine : ∀ (j : Nat) (o : Oper), ops[j]? = some o → fine n o = true) :
    ∀ (k : Nat) (ts : List Pd) (fuel2 : Nat) (hdone listed : Array Bool) (a : Act) (w : World) (L1 : Hp), ts.length + fuel2 = k → Ready T ops hdone listed (ts.map (·.1)) → (∀ x ∈ ts, x.1 ∈ T) → (∀ t ∈ T, hdone.getD t true = true) → PLexB P n N w0 ops L (envOf a) ts → a.tmps.size = n → a.defers = ds → Inv N w0 L1 w →
      AnyB P r n N w0 ops Q ds L fuel2 hdone (envOf (putAll a ts)) L1 → wpAnyIn (FW r) 0 P .any ops (PostA n N w0 Q) k listed a w
  | k, [], fuel2, hdone, listed, a, w, L1, hk, hR, _, _, _, hs, hd, hI, h => by
    have : hdone = listed := by
      apply Array.ext (by rw [hR.szd, hR.sz])
      intro i h1 h2
      have := hR.fin i (by rw [← hR.sz]; exact h2)
      simpa [h1, h2] using this
    subst this
    simp only [List.length_nil, Nat.zero_add] at hk
    subst hk
    exact h.any a w hs rfl hd hI
  | 0, _ :: _, _, _, _, _, _, _, hk, _, _, _, _, _, _, _, _ => by simp at hk
  | k + 1, t0 :: tr, fuel2, hdone, listed, a, w, L1, hk, hR, hT, hTd, hl, hs, hd, hI, h => by
    have notAp : ∀ j, j ∈ Region.ready .any ops listed → ∀ i ∈ (t0 :: tr).map (·.1), waits ops j i = false := by
      intro j hj i hi
      cases hw : waits ops j i with
      | false => rfl
      | true => exact (getD_tf (hR.un i hi) ((ready_preds hj).2 i (waits_pred hw))).elim
    unfold wpAnyIn
    refine ⟨fun h0 => ?_, fun j hj => ?_⟩
    · exfalso
      have hj : t0.1 ∈ Region.ready .any ops listed := by
        rw [mem_ready]
        refine ⟨hR.un _ List.mem_cons_self, ?_⟩
        have hlt := (hR.self t0.1 List.mem_cons_self).2
        refine ⟨ops[t0.1], Array.getElem?_eq_getElem hlt, fun ed he hb => ?_⟩
        have hp : ed.on ∈ preds ops t0.1 := by
          unfold preds
          rw [Array.getElem?_eq_getElem hlt]
          simp only [List.mem_map, List.mem_filter]
          exact ⟨ed, ⟨by simpa using he, hb⟩, rfl⟩
        rcases hR.pr t0.1 List.mem_cons_self _ hp with h1 | h1
        · exact h1
        · rcases List.mem_cons.1 h1 with h1 | h1
          · have := (hR.self t0.1 List.mem_cons_self).1
            have h2 := pred_waits hp
            rw [h1] at h2; rw [h2] at this; cases this
          · have := (List.pairwise_cons.1 hR.fw).1 _ h1
            rw [pred_waits hp] at this; cases this
      rw [h0] at hj; cases hj
    · obtain ⟨hjl, hjp⟩ := ready_preds hj
      have hlt : j < ops.size := by
        obtain ⟨_, o, ho, _⟩ := mem_ready.1 hj
        exact (Array.getElem?_eq_some_iff.1 ho).1
      by_cases hjT : j ∈ (t0 :: tr).map (·.1)
      · -- it is one that floats
        obtain ⟨x, hx, rfl⟩ := List.mem_map.1 hjT
        obtain ⟨t1, t2, he⟩ := List.append_of_mem hx
        rw [he] at hk hR hT hl h notAp
        have hap : ∀ y ∈ t1, y.2.1.apart ops x.2.1 = true := by
          have hops : ∀ (ts : List Pd) (e : Env), PLexB P n N w0 ops L e ts → ∀ y ∈ ts, ops[y.1]? = some y.2.1 := by
            intro ts
            induction ts with
            | nil => intro _ _ y hy; cases hy
            | cons z ts ih =>
              intro e hh y hy
              rcases List.mem_cons.1 hy with rfl | hy
              · exact hh.1
              · exact ih _ hh.2.2.2 y hy
          intro y hy
          have h1 := hR.ap
          rw [List.map_append, List.pairwise_append] at h1
          rcases h1.2.2 y.1 (List.mem_map_of_mem hy) x.1 (by simp) with h2 | h2
          · rw [notAp x.1 hj y.1 (by simp only [List.map_append, List.mem_append]; exact .inl (List.mem_map_of_mem hy))] at h2; cases h2
          · exact apartO_spec h2 (hops _ _ hl y (by simp [hy])) (hops _ _ hl x (by simp))
        obtain ⟨k1, k2, k3, k4, k5⟩ := PLexB.pull t1 _ a hl hap
        have hnd := hR.nd
        have hj' : x.1 ∉ (t1 ++ t2).map (·.1) := by
          simp only [List.map_append, List.map_cons] at hnd
          have h1 := List.nodup_append.1 hnd
          simp only [List.nodup_cons] at h1
          intro hh
          simp only [List.map_append, List.mem_append] at hh
          rcases hh with hh | hh
          · exact h1.2.2 _ hh _ (by simp) rfl
          · exact h1.2.1.1 hh
        have hR' : Ready T ops hdone (listed.setIfInBounds x.1 true) ((t1 ++ t2).map (·.1)) := by
          refine hR.next ?_ (by simp) ?_ hj' hjp
          · simp only [List.map_append, List.map_cons]
            exact List.Sublist.append (List.Sublist.refl _) (List.sublist_cons_self _ _)
          · intro i hi
            simp only [List.map_append, List.map_cons, List.mem_append, List.mem_cons] at hi ⊢
            rcases hi with hh | hh | hh
            · exact .inr (.inl hh)
            · exact .inl hh
            · exact .inr (.inr hh)
        have hsz : (a.put x.2.1.dst x.2.2).tmps.size = n := size_put.trans hs
        have ih := fun w' (hI' : Inv N w0 L1 w') => pendB hTS hfine k (t1 ++ t2) fuel2 hdone (listed.setIfInBounds x.1 true) (a.put x.2.1.dst x.2.2) w' L1 (by simp at hk ⊢; omega) hR' (fun y hy => hT y (by simp only [List.mem_append, List.mem_cons] at hy ⊢; rcases hy with hh | hh; exact .inl hh; exact .inr (.inr hh))) hTd
          (by rw [envOf_put hs (fine_spec k2).1]; exact k4) hsz (defers_put.trans hd) hI' (by rw [← k5]; exact h)
        obtain ⟨L0, hL0⟩ := h.sub
        exact wpOpIn_e (X := L0) k1 k2 k3 (hI.perm (hL0.trans List.perm_append_comm)) fun w' hI' => ih w' (hI'.perm (hL0.trans List.perm_append_comm).symm)
      · -- it is another one
        have hnd : hdone.getD j true = false := by
          rw [hR.fin j hlt, hjl]
          simp only [Bool.false_or, List.contains_eq_mem, decide_eq_false_iff_not]
          exact hjT
        have hjnT : j ∉ T := fun hh => by have := hTd j hh; rw [hnd] at this; cases this
        have hjr : j ∈ Region.ready .any ops hdone := by
          obtain ⟨_, o, ho, hpre⟩ := mem_ready.1 hj
          refine mem_ready.2 ⟨hnd, o, ho, fun ed he hb => ?_⟩
          have h1 := hpre ed he hb
          have hel : ed.on < ops.size := by
            rw [← hR.sz]
            cases hh : listed[ed.on]? with
            | none => rw [Array.getD_eq_getD_getElem?, hh] at h1; cases h1
            | some b => exact (Array.getElem?_eq_some_iff.1 hh).1
          have h2 := hR.fin ed.on hel
          have h3 : listed.getD ed.on true = true := by
            rw [Array.getD_eq_getD_getElem?] at h1 ⊢
            cases hh : listed[ed.on]? with
            | none => rw [hh] at h1; cases h1
            | some b => rw [hh] at h1; simpa using h1
          rw [h3, Bool.true_or] at h2
          rw [Array.getD_eq_getD_getElem?] at h2 ⊢
          cases hh : hdone[ed.on]? with
          | none => have := Array.getElem?_eq_none_iff.1 hh; rw [hR.szd] at this; omega
          | some b => rw [hh] at h2; simpa using h2
        obtain ⟨o, ho⟩ : ∃ o, ops[j]? = some o := ⟨_, Array.getElem?_eq_getElem hlt⟩
        cases fuel2 with
        | zero =>
          have := h.2.1
          rw [this] at hjr; cases hjr
        | succ fuel =>
          obtain ⟨o', ho', h2⟩ := h.2.2 j hjr
          rw [ho] at ho'; injection ho' with ho'; subst ho'
          have hops : ∀ (ts : List Pd) (e : Env), PLexB P n N w0 ops L e ts → ∀ y ∈ ts, ops[y.1]? = some y.2.1 := by
            intro ts
            induction ts with
            | nil => intro _ _ y hy; cases hy
            | cons z ts ih =>
              intro e hh y hy
              rcases List.mem_cons.1 hy with rfl | hy
              · exact hh.1
              · exact ih _ hh.2.2.2 y hy
          have hap : ∀ y ∈ t0 :: tr, y.2.1.apart ops o = true := by
            intro y hy
            rcases hTS y.1 (hT y hy) j hlt hjnT with h3 | h3 | h3
            · rcases hR.pr y.1 (List.mem_map_of_mem hy) j (waits_pred h3) with h4 | h4
              · exact (getD_tf hjl h4).elim
              · exact absurd h4 hjT
            · rw [notAp j hj y.1 (List.mem_map_of_mem hy)] at h3; cases h3
            · exact apartO_spec h3 (hops _ _ hl y hy) ho
          obtain ⟨e1, e2⟩ := envOf_putAllB (t0 :: tr) _ a hl hs
          have h3 := wpOpIn_of_OPSB ho h2 e2 rfl ((putAll_def _ a).trans hd) hI
          refine wpOpIn_monoQ (wpOpIn_backB (ts := t0 :: tr) ho (hfine j o ho) (fun _ _ _ h => h) hap hl hs ?_ h3)
          rintro a1 w1 hs1 hl1 ⟨_, hd1, L2, hI2, hA2⟩
          refine pendB hTS hfine k (t0 :: tr) fuel (hdone.setIfInBounds j true) (listed.setIfInBounds j true) a1 w1 L2 (by simp at hk ⊢; omega) (hR.both hjT hlt hjp) hT ?_ hl1 hs1 ((putAll_def _ a1).symm.trans hd1) hI2 hA2
          intro t ht
          exact getD_set_trueT (hTd t ht)

theorem lex_pendB : ∀ {E : List Nat} {e ef : Env}, LexR P n N w0 ops [] L E e ef → ∃ ts : List Pd, ts.map (·.1) = E ∧ PLexB P n N w0 ops L e ts ∧ updAll e ts = ef := by
  intro E e ef h
  induction h with
  | nil => exact ⟨[], rfl, trivial, rfl⟩
  | cons h1 h2 h3 h4 ih =>
    obtain ⟨ts, k1, k2, k3⟩ := ih
    exact ⟨(_, _, _) :: ts, by simp [k1], ⟨h1, h2, h3.1, k2⟩, k3⟩

theorem any_of_lexB {T : List Nat} (hTS : ∀ i ∈ T, ∀ j, j < ops.size → j ∉ T → waits ops i j = true ∨ waits ops j i = true ∨ apartO ops i j = true) (hfine : ∀ (j : Nat) (o : Oper), ops[j]? = some o → fine n o = true) {hdone : Array Bool} (hTd : ∀ t ∈ T, hdone.getD t true = true) {fuel2 : Nat} : ∀ (m : Nat) (E : List Nat) (S : List ASpec) (listed : Array Bool) (e ef : Env) (X : Hp), E.length + S.length = m → Ready T ops hdone listed (E ++ S.map ASpec.i) → (∀ s ∈ S, s.i ∉ T) → (S.map ASpec.i).Pairwise (fun i j => apartO ops i j = true) →
    LexR P n N w0 ops [] L E e ef → (∀ s ∈ S, s.ok P n ops ef) → KAll S ef (fun e' A => AnyB P r n N w0 ops Q ds L fuel2 hdone e' (A ++ (X ++ L))) → AnyO P r n N w0 ops Q ds (m + fuel2) listed e (X ++ L)
  | 0, E, S, listed, e, ef, X, hm, hR, _, _, hE, hS, hK => by
    have e1 : E = [] := List.eq_nil_of_length_eq_zero (by omega)
    have e2 : S = [] := List.eq_nil_of_length_eq_zero (by omega)
    subst e1; subst e2
    cases hE
    have : hdone = listed := by
      apply Array.ext (by rw [hR.szd, hR.sz])
      intro i h1 h2
      have := hR.fin i (by rw [← hR.sz]; exact h2)
      simpa [h1, h2] using this
    subst this
    rw [Nat.zero_add]
    exact AnyB.any hK
  | m + 1, E, S, listed, e, ef, X, hm, hR, hST, hAA, hE, hS, hK => by
    rintro a w hs rfl hd hI
    by_cases hall : S = [] ∧ ∀ i ∈ E, i ∈ T
    · -- only what floats is left
      obtain ⟨rfl, hET⟩ := hall
      obtain ⟨ts, k1, k2, k3⟩ := lex_pendB hE
      have hlen : ts.length = m + 1 := by have := congrArg List.length k1; simp at this hm ⊢; omega
      obtain ⟨e1, e2⟩ := envOf_putAllB ts _ a k2 hs
      refine pendB hTS hfine (m + 1 + fuel2) ts fuel2 hdone listed a w (X ++ L) (by omega) (by rw [k1]; simpa using hR) (fun x hx => hET _ (by rw [← k1]; exact List.mem_map_of_mem hx)) hTd k2 hs hd hI ?_
      rw [e1, k3]; exact hK
    have hnot : ∃ i ∈ E ++ S.map ASpec.i, i ∉ T := by
      match S, hall, hST with
      | [], hall, _ =>
        have : ¬ ∀ i ∈ E, i ∈ T := fun h => hall ⟨rfl, h⟩
        simp only [Classical.not_forall] at this
        obtain ⟨i, hi, hn⟩ := this
        exact ⟨i, by simp [hi], hn⟩
      | s :: S, _, hST => exact ⟨s.i, by simp, hST s List.mem_cons_self⟩
    have hf : m + 1 + fuel2 = (m + fuel2) + 1 := by omega
    rw [hf]
    unfold wpAnyIn
    have notAp : ∀ j, j ∈ Region.ready .any ops listed → ∀ i ∈ E ++ S.map ASpec.i, waits ops j i = false := by
      intro j hj i hi
      cases hw : waits ops j i with
      | false => rfl
      | true => exact (getD_tf (hR.un i hi) ((ready_preds hj).2 i (waits_pred hw))).elim
    refine ⟨fun h0 => ?_, fun j hj => ?_⟩
    · exfalso
      match hU : E ++ S.map ASpec.i, hR with
      | [], _ =>
        have := congrArg List.length hU
        rw [List.length_append, List.length_map, List.length_nil] at this
        omega
      | j :: U, hR =>
        have hj : j ∈ Region.ready .any ops listed := by
          rw [mem_ready]
          refine ⟨hR.un j List.mem_cons_self, ?_⟩
          have hlt := (hR.self j List.mem_cons_self).2
          refine ⟨ops[j], Array.getElem?_eq_getElem hlt, fun ed he hb => ?_⟩
          have hp : ed.on ∈ preds ops j := by
            unfold preds
            rw [Array.getElem?_eq_getElem hlt]
            simp only [List.mem_map, List.mem_filter]
            exact ⟨ed, ⟨by simpa using he, hb⟩, rfl⟩
          rcases hR.pr j List.mem_cons_self _ hp with h1 | h1
          · exact h1
          · rcases List.mem_cons.1 h1 with h1 | h1
            · have := (hR.self j List.mem_cons_self).1
              have h2 := pred_waits hp
              rw [h1] at h2; rw [h2] at this; cases this
            · have := (List.pairwise_cons.1 hR.fw).1 _ h1
              rw [pred_waits hp] at this; cases this
        rw [h0] at hj; cases hj
    · obtain ⟨hjl, hjp⟩ := ready_preds hj
      by_cases hjE : j ∈ E
      · obtain ⟨T1, T2, rfl⟩ := List.append_of_mem hjE
        have hap : ∀ i ∈ T1, apartO ops i j = true := by
          intro i hi
          have h1 := hR.ap
          rw [List.append_assoc, List.pairwise_append] at h1
          rcases h1.2.2 i hi j (by simp) with h2 | h2
          · rw [notAp j hj i (by simp [hi])] at h2; cases h2
          · exact h2
        obtain ⟨o, v, k1, k2, k3, k4⟩ := hE.pull T1 _ hap
        have hnd := hR.nd
        have hj' : j ∉ (T1 ++ T2) ++ S.map ASpec.i := by
          rw [List.append_assoc] at hnd
          have := List.nodup_append.1 hnd
          simp only [List.cons_append, List.nodup_cons] at this
          intro h
          simp only [List.mem_append] at h
          rcases h with (h | h) | h
          · exact this.2.2 j h j (by simp) rfl
          · exact this.2.1.1 (by simp [h])
          · exact this.2.1.1 (by simp only [List.mem_append]; exact .inr h)
        have hR' : Ready T ops hdone (listed.setIfInBounds j true) ((T1 ++ T2) ++ S.map ASpec.i) := by
          refine hR.next ?_ (by simp) ?_ hj' hjp
          · exact List.Sublist.append (List.Sublist.append (List.Sublist.refl _) (List.sublist_cons_self _ _)) (List.Sublist.refl _)
          · intro i hi
            simp only [List.mem_append, List.mem_cons] at hi ⊢
            rcases hi with (h | h | h) | h
            · exact .inr (.inl (.inl h))
            · exact .inl h
            · exact .inr (.inl (.inr h))
            · exact .inr (.inr h)
        have ih := any_of_lexB hTS hfine hTd m (T1 ++ T2) S (listed.setIfInBounds j true) (updO (envOf a) o.dst v) ef X (by simp at hm ⊢; omega) hR' hST hAA k4 hS hK
        exact wpOpIn_e k1 k2 k3.1 hI fun w' hI' => ih _ _ (size_put.trans hs) (envOf_put hs (fine_spec k2).1) (defers_put.trans hd) hI'
      · by_cases hjS : j ∈ S.map ASpec.i
        · obtain ⟨s, hsS, rfl⟩ := List.mem_map.1 hjS
          obtain ⟨S1, S2, rfl⟩ := List.append_of_mem hsS
          have hok := hS s (by simp)
          have hapE : ∀ i ∈ E, apartO ops i s.i = true := by
            intro i hi
            have h1 := hR.ap
            rw [List.pairwise_append] at h1
            rcases h1.2.2 i hi s.i (by simp) with h2 | h2
            · rw [notAp s.i hj i (by simp [hi])] at h2; cases h2
            · exact h2
          have hapS : ∀ q ∈ S1, apartO ops q.i s.i = true := by
            intro q hq
            have h1 := hR.ap
            rw [List.pairwise_append] at h1
            have h2 := h1.2.1
            rw [List.map_append, List.pairwise_append] at h2
            rcases h2.2.2 q.i (List.mem_map_of_mem hq) s.i (by simp) with h3 | h3
            · rw [notAp s.i hj q.i (by simp; exact .inr (.inl ⟨q, hq, rfl⟩))] at h3; cases h3
            · exact h3
          have hokE := ASpec.back hE hapE hok
          have hnd := hR.nd
          have hnodup : s.i ∉ E ++ (S1 ++ S2).map ASpec.i := by
            simp only [List.map_append, List.map_cons] at hnd
            have h1 := List.nodup_append.1 hnd
            have h2 := List.nodup_append.1 h1.2.1
            simp only [List.nodup_cons] at h2
            intro h
            simp only [List.map_append, List.mem_append] at h
            rcases h with h | h | h
            · exact hjE h
            · exact h2.2.2 _ h _ (by simp) rfl
            · exact h2.2.1.1 h
          have hR' : Ready T ops hdone (listed.setIfInBounds s.i true) (E ++ (S1 ++ S2).map ASpec.i) := by
            refine hR.next ?_ (by simp) ?_ hnodup hjp
            · refine List.Sublist.append (List.Sublist.refl _) ?_
              simp only [List.map_append, List.map_cons]
              exact List.Sublist.append (List.Sublist.refl _) (List.sublist_cons_self _ _)
            · intro i hi
              simp only [List.map_append, List.map_cons, List.mem_append, List.mem_cons] at hi ⊢
              rcases hi with h | h | h | h
              · exact .inr (.inl h)
              · exact .inr (.inr (.inl h))
              · exact .inl h
              · exact .inr (.inr (.inr h))
          have hEu : ∀ b, LexR P n N w0 ops [] L E (updO (envOf a) s.o.dst (s.val b)) (updO ef s.o.dst (s.val b)) := fun b =>
            hE.upd (oj := s.o) rfl fun i hi oi ho => apartO_spec (hapE i hi) ho hok.1
          have hSu : ∀ b, ∀ q ∈ S1 ++ S2, q.ok P n ops (updO ef s.o.dst (s.val b)) := by
            intro b q hq
            have hqok := hS q (by simp only [List.mem_append, List.mem_cons] at hq ⊢; rcases hq with h | h; exact .inl h; exact .inr (.inr h))
            refine ASpec.upd (s := q) ?_ hqok
            rcases List.mem_append.1 hq with hq | hq
            · exact (Oper.apart_spec (apartO_spec (hapS q hq) hqok.1 hok.1)).2.2
            · rw [List.map_append, List.pairwise_append, List.map_cons, List.pairwise_cons] at hAA
              exact (Oper.apart_spec (apartO_spec (hAA.2.1.1 q.i (List.mem_map_of_mem hq)) hok.1 hqok.1)).1
          have hAA' : ((S1 ++ S2).map ASpec.i).Pairwise (fun i j => apartO ops i j = true) := by
            refine hAA.sublist ?_
            simp only [List.map_append, List.map_cons]
            exact List.Sublist.append (List.Sublist.refl _) (List.sublist_cons_self _ _)
          have hKp := hK.pull (s := s) (fun e A A' hp h => h.perm (hp.symm.append_right _)) S1 ef (fun q hq t ht => (Oper.apart_spec (apartO_spec (hapS q hq) (hS q (by simp [hq])).1 hok.1)).2.1 t ht)
          refine wpOpIn_a hokE hI fun b w' hI' => ?_
          have ih := any_of_lexB hTS hfine hTd m E (S1 ++ S2) (listed.setIfInBounds s.i true) _ _ ((b, s.φ) :: X) (by simp at hm ⊢; omega) hR' (fun q hq => hST q (by simp only [List.mem_append, List.mem_cons] at hq ⊢; rcases hq with hh | hh; exact .inl hh; exact .inr (.inr hh))) hAA' (hEu b) (hSu b) ((hKp b).mono fun e' A h => h.perm (by
            rw [List.cons_append, List.cons_append]; exact List.perm_middle))
          exact ih _ _ (size_put.trans hs) (envOf_put hs (fine_spec hok.2.1).1) (defers_put.trans hd) hI'
        · exfalso
          have hlt : j < ops.size := by
            obtain ⟨_, o, ho, _⟩ := mem_ready.1 hj
            exact (Array.getElem?_eq_some_iff.1 ho).1
          have hnd : hdone.getD j true = false := by
            rw [hR.fin j hlt, hjl]
            simp only [Bool.false_or]
            simp only [List.contains_eq_mem, List.mem_append, decide_eq_false_iff_not, not_or]
            exact ⟨hjE, hjS⟩
          obtain ⟨i, hi, hn⟩ := hnot
          have h1 := hR.held j hlt hnd i hi hn
          exact getD_tf (hR.un i hi) (clo_listed hR.closed _ _ hjp i h1)
/-- Operations F may come up behind what writes, in any order: they read what is not written. -/
theorem WP_drawnF {id : Nat} {l : List Oper} (T E A : List Nat) {k : Nat} (hm : P.follows .mixedOrders = true) (hc : drawChk l.toArray T E A = true) (hf : floatChk n l.toArray T E A = true) (hk : l.length = E.length + A.length + k)
    (h : EWalk P n N w0 l.toArray [] L E e fun ef => AWalk P n l.toArray A ef ef fun e' A' => AnyB P r n N w0 l.toArray Q ds L k (doneOf l.length (E ++ A)) e' (A' ++ L)) : WP P r n N w0 (.region id l.toArray true) Q e ds L := by
  refine WP_draw hm ?_
  obtain ⟨ef, hE, S, hS1, hS2, hK⟩ := h
  obtain ⟨hR, hAA⟩ := ready_of_chk hc
  subst hS1
  simp only [floatChk, Bool.and_eq_true, List.all_eq_true, Array.all_eq_true, Bool.not_eq_true', List.mem_range, Bool.or_eq_true] at hf
  obtain ⟨hf1, hf2⟩ := hf
  have hlt : ∀ t ∈ T, t < l.length := by
    intro t ht
    have h1 : t ∈ E := by simpa using (hf1 t ht).1.1
    have := (hR.self t (by simp [h1])).2
    simpa using this
  have := any_of_lexB (P := P) (r := r) (Q := Q) (ds := ds) (fuel2 := k) (L := L) (w0 := w0) (N := N) (n := n) (T := T)
    (fun i hi j hj hjT => by
      have h1 := (hf1 i hi).2 j hj
      rcases h1 with ((h1 | h1) | h1) | h1
      · simp at h1; exact absurd h1 hjT
      · exact .inl h1
      · exact .inr (.inl h1)
      · exact .inr (.inr h1))
    (fun j o ho => by
      obtain ⟨h1, h2⟩ := Array.getElem?_eq_some_iff.1 ho
      rw [← h2]; exact hf2 j h1)
    (fun t ht => by
      have h1 : t ∈ E := by simpa using (hf1 t ht).1.1
      have h2 := getD_doneOf (k := l.toArray.size) (U := E ++ S.map ASpec.i) (i := t) (by simpa using hlt t ht)
      rw [h2]; simp [h1])
    (E.length + S.length) E S _ e ef [] rfl hR (fun s hs ht => by
      have := (hf1 s.i ht).1.2
      simp only [List.contains_eq_mem, decide_eq_false_iff_not] at this
      exact this (List.mem_map_of_mem hs)) hAA hE hS2 hK
  rw [List.length_map] at hk
  rw [← hk] at this
  simpa using this
theorem QB_normal {A : Env → Hp → Prop} (h : A e L) : QB ds A .normal e ds L := ⟨rfl, h⟩
theorem AnyB_done {listed : Array Bool} (hs : Sub B L) (hr : Region.ready .any ops listed = []) (h : Q .normal e ds L) : AnyB P r n N w0 ops Q ds B 0 listed e L := ⟨hs, hr, L, .refl _, h⟩
theorem AnyB_1 {fuel : Nat} {listed : Array Bool} (i : Nat) {o : Oper} (hs : Sub B L) (hr : Region.ready .any ops listed = [i]) (ho : ops[i]? = some o) (h : OPS P r n N w0 ops [o] (QB ds (AnyB P r n N w0 ops Q ds B fuel (listed.setIfInBounds i true))) e ds L) :
    AnyB P r n N w0 ops Q ds B (fuel + 1) listed e L := by
  refine ⟨hs, by rw [hr]; simp, fun j hj => ?_⟩
  rw [hr] at hj
  rcases List.mem_cons.1 hj with rfl | hj
  · exact ⟨o, ho, h⟩
  · cases hj
theorem AnyB_2 {fuel : Nat} {listed : Array Bool} (i j : Nat) {o o' : Oper} (hs : Sub B L) (hr : Region.ready .any ops listed = [i, j]) (ho : ops[i]? = some o) (ho' : ops[j]? = some o') (h : OPS P r n N w0 ops [o] (QB ds (AnyB P r n N w0 ops Q ds B fuel (listed.setIfInBounds i true))) e ds L)
    (h' : OPS P r n N w0 ops [o'] (QB ds (AnyB P r n N w0 ops Q ds B fuel (listed.setIfInBounds j true))) e ds L) :
    AnyB P r n N w0 ops Q ds B (fuel + 1) listed e L := by
  refine ⟨hs, by rw [hr]; simp, fun q hq => ?_⟩
  rw [hr] at hq
  rcases List.mem_cons.1 hq with rfl | hq
  · exact ⟨o, ho, h⟩
  · rcases List.mem_cons.1 hq with rfl | hq
    · exact ⟨o', ho', h'⟩
    · cases hq
theorem AnyB_3 {fuel : Nat} {listed : Array Bool} (i j k : Nat) {o o' o'' : Oper} (hs : Sub B L) (hr : Region.ready .any ops listed = [i, j, k]) (ho : ops[i]? = some o) (ho' : ops[j]? = some o') (ho'' : ops[k]? = some o'') (h : OPS P r n N w0 ops [o] (QB ds (AnyB P r n N w0 ops Q ds B fuel (listed.setIfInBounds i true))) e ds L)
    (h' : OPS P r n N w0 ops [o'] (QB ds (AnyB P r n N w0 ops Q ds B fuel (listed.setIfInBounds j true))) e ds L) (h'' : OPS P r n N w0 ops [o''] (QB ds (AnyB P r n N w0 ops Q ds B fuel (listed.setIfInBounds k true))) e ds L) :
    AnyB P r n N w0 ops Q ds B (fuel + 1) listed e L := by
  refine ⟨hs, by rw [hr]; simp, fun q hq => ?_⟩
  rw [hr] at hq
  rcases List.mem_cons.1 hq with rfl | hq
  · exact ⟨o, ho, h⟩
  · rcases List.mem_cons.1 hq with rfl | hq
    · exact ⟨o', ho', h'⟩
    · rcases List.mem_cons.1 hq with rfl | hq
      · exact ⟨o'', ho'', h''⟩
      · cases hq
theorem Sub.left {L0 : Hp} : Sub B (B ++ L0) := ⟨L0, .refl _⟩
inductive Pick {α : Type} (x : α) : List α → List α → Prop
  | here {l : List α} : Pick x (x :: l) l
  | there {y : α} {l l' : List α} (h : Pick x l l') : Pick x (y :: l) (y :: l')
theorem Pick.perm {α : Type} {x : α} {l l' : List α} (h : Pick x l l') : l.Perm (x :: l') := by
  induction h with
  | here => exact .refl _
  | there _ ih => exact (ih.cons _).trans (.swap _ _ _)
theorem Sub.pick {x : Nat × (Obj → Prop)} {L' : Hp} (h : Pick x L L') (k : Sub B L') : Sub (x :: B) L := let ⟨L0, k⟩ := k; ⟨L0, h.perm.trans (k.cons x)⟩
theorem Perm.pick {x : Nat × (Obj → Prop)} {A L' : Hp} (h : Pick x L L') (k : A.Perm L') : List.Perm (x :: A) L := (k.cons x).trans h.perm.symm
theorem Sub.keep {x : Nat × (Obj → Prop)} (h : Sub B L) : Sub (x :: B) (x :: L) := let ⟨L0, h⟩ := h; ⟨L0, h.cons x⟩
theorem upd_lt {d d' : Nat} {v v' : Value} (h : Nat.blt d d' = true) : upd (upd e d' v') d v = upd (upd e d v) d' v' := by
  have hne : d ≠ d' := fun h' => by subst h'; simp [Nat.blt_eq] at h
  exact (updO_comm (d := some d') (d' := some d) (fun t ht h2 => by injection ht with ht; injection h2 with h2; exact hne (h2.trans ht.symm)))
end
end Go.Proofs.Ytlpahkmfjpjheaa
end

section
namespace Go.Proofs.Ytlpahkmfjpjheaa
open Go.RowKit

section
variable (P : Program) (fn : Func) (N : Nat) (w0 : World) (R : Ending → Hp → Prop)
def Lv (e : Env) : List Deferred → FrameMode → Hp → Prop
  | [], .returning, L => ∃ v, (∀ a w, envOf a = e → Inv N w0 L w → (results fn a.tmps).run P w = .ok v w) ∧ R (.returned v) L
  | [], .panicking ch, L => R (.panicked ch) L
  | [], .run, _ => False
  | d :: ds, u, L => u ≠ .run ∧ ((∃ D L1, d = mark D ∧ Up L D (Is (.deferred (some []))) (fun _ => True) L1 ∧ Lv e ds u L1) ∨
      (∃ (f : FuncId) (cc : Array Value), d = { target := .fn (.func f) cc, args := #[] } ∧ (∀ as w, (callFunc f as).run P w = .ok (.enter f as) w) ∧
        ∀ w, Inv N w0 L w → CallsDIn Fence.wide 0 P f cc u w fun x u' w' => ∃ v L', x = .returned v ∧ Inv N w0 L' w' ∧ Lv e ds (settle u') L'))
def QLeave : Post
  | .normal, e, ds, L | .ret, e, ds, L => Lv P fn N w0 R e ds .returning L
  | .panic ch, e, ds, L => Lv P fn N w0 R e ds (.panicking ch) L
  | _, _, _, _ => False
end
section
variable {P : Program} {fn : Func} {N : Nat} {w0 : World} {R : Ending → Hp → Prop} {L : Hp}
theorem leaves_of_Lv {e : Env} : ∀ (ds : List Deferred) (u : FrameMode) (L : Hp) (a : Act) (w : World), envOf a = e → Inv N w0 L w → Lv P fn N w0 R e ds u L →
    LeavesInM Fence.wide 0 P fn a.tmps (fun x w' => ∃ L', Inv N w0 L' w' ∧ R x L') ds u w
  | [], .returning, L, a, w, he, hI, h => by
    obtain ⟨v, hr, hR⟩ := h
    exact ⟨v, hr a w he hI, L, hI, hR⟩
  | [], .panicking ch, L, a, w, _, hI, h => ⟨L, hI, h⟩
  | [], .run, _, _, _, _, _, h => h.elim
  | d :: ds, u, L, a, w, he, hI, h => by
    obtain ⟨hu, h⟩ := h
    refine ⟨hu, ?_⟩
    rcases h with ⟨D, L1, rfl, hup, h⟩ | ⟨f, cc, rfl, hf, h⟩
    · have ho : w.heap[D]? = some (.deferred (some [])) := hI.obj hup.mem
      exact .inl ⟨D, _, rfl, run_takeDeferred ho, leaves_of_Lv ds u L1 a _ he (hI.putObj hup trivial) h⟩
    · refine .inr ⟨fun h => (by cases h), .func f, cc, f, #[] ++ cc, rfl, ?_, fun _ _ => trivial, ?_⟩
      · simp [invoke, hf]
      · have hc := h w hI
        have h0 : (#[] ++ cc : Array Value) = cc := by simp
        rw [h0]
        refine hc.mono ?_
        rintro x u' w' ⟨v, L', rfl, hI', hl⟩
        exact leaves_of_Lv ds _ L' a w' he hI' hl
theorem tri_of_WPL {f : FuncId} {fn : Func} {c : Code} {args : List Value} (hf : P.funcs[f]? = some fn) (hb : fn.body = some c) {n : Nat} (hn : fn.ntmps = n) (hle : args.length ≤ n)
    (h : WP P none n N w0 c (QLeave P fn N w0 R) (argsE args) [] L) : Tri P N w0 L f args.toArray R := by
  intro w hI
  refine (callsIn_wide (n := 0)).1 (callsIn_of_wp_marks hf hb trivial ?_ rfl)
  have h1 := h { tmps := args.toArray ++ Array.replicate (fn.ntmps - args.toArray.size) undef, defers := [] } w (by simp; omega) ?_ rfl hI
  · refine Go.wpIn_mono h1 ?_
    rintro x a w' ⟨hs, L', hI', hq⟩
    cases x with
    | normal => exact leaves_of_Lv _ _ _ a w' rfl hI' hq
    | ret => exact leaves_of_Lv _ _ _ a w' rfl hI' hq
    | panic ch => exact leaves_of_Lv _ _ _ a w' rfl hI' hq
    | exit id => exact hq.elim
    | goto l => exact hq.elim
    | outgrown => exact hq.elim
  · funext t
    unfold envOf argsE
    simp only [Array.getD_eq_getD_getElem?, List.getD_eq_getElem?_getD]
    by_cases ht : t < args.length
    · rw [Array.getElem?_append_left (by simpa using ht)]; simp
    · rw [Array.getElem?_append_right (by simpa using ht), Array.getElem?_replicate, List.getElem?_eq_none (by omega)]
      split <;> rfl

/-! Ways out. -/
theorem Lv_nil {e : Env} {rs : List ResultVar} {vs : List Value} {v : Value} (hr : fn.results = rs.toArray) (h : ResR P e L rs vs) (hv : resV vs = v) (hR : R (.returned v) L) : Lv P fn N w0 R e [] .returning L := by
  obtain ⟨_, v', h1, h2⟩ := QBody_res (P := P) (fn := fn) (N := N) (w0 := w0) (R := R) hr h hv hR
  exact ⟨v', h1, h2⟩
theorem Lv_mark {e : Env} {D : Nat} {ds : List Deferred} {u : FrameMode} {L1 : Hp} (hu : u ≠ .run) (hup : Up L D (Is (.deferred (some []))) (fun _ => True) L1) (h : Lv P fn N w0 R e ds u L1) : Lv P fn N w0 R e (mark D :: ds) u L :=
  ⟨hu, .inl ⟨D, L1, rfl, hup, h⟩⟩
theorem QLeave_ret {e : Env} {ds : List Deferred} (h : Lv P fn N w0 R e ds .returning L) : QLeave P fn N w0 R .ret e ds L := h
theorem QLeave_end {e : Env} {ds : List Deferred} (h : Lv P fn N w0 R e ds .returning L) : QLeave P fn N w0 R .normal e ds L := h
theorem QLeave_panic {e : Env} {ds : List Deferred} {ch : List PanicEntry} (h : Lv P fn N w0 R e ds (.panicking ch) L) : QLeave P fn N w0 R (.panic ch) e ds L := h

/-! ### A deferred closure that begins with recover -/
def recV : FrameMode → Value × FrameMode
  | .panicking ({ v, recovered := false, goexit := false } :: older) => (v, .panicking ({ v, recovered := true } :: older))
  | u => (.nilIface, u)
theorem recoverD_recV (c : Frame) (cs : List Frame) : (match recoverD (c :: cs) with
    | some (v, cs') => (v, cs')
    | none => (.nilIface, c :: cs)) = ((recV c.mode).1, { c with mode := (recV c.mode).2 } :: cs) := by
  obtain ⟨f, tmps, todo, defers, mode, kind, ro⟩ := c
  cases mode with
  | panicking l =>
    cases l with
    | nil => rfl
    | cons x l =>
      obtain ⟨v, rr, g⟩ := x
      cases rr <;> cases g <;> rfl
  | _ => rfl

theorem callsD_rec {f : FuncId} {fn : Func} {id d : Nat} {rest : List Oper} {ty : TypeId} {pos : String} {af : Array Edge} {cc : List Value} {RR : Ending → Hp → Prop} {u : FrameMode} {w : World}
    (hf : P.funcs[f]? = some fn) (hb : fn.body = some (.region id (⟨some d, .call { callee := .builtin .recover, args := #[], argTypes := #[] }, ty, pos, af, none⟩ :: rest).toArray false)) {n : Nat} (hn : fn.ntmps = n) (hle : cc.length ≤ n) (hd : Nat.blt d n = true)
    (hI : Inv N w0 L w) (h : ∀ ops, OPS P none n N w0 ops rest (QBody P fn N w0 RR) (upd (argsE cc) d (recV u).1) [] L) :
    CallsDIn Fence.wide 0 P f cc.toArray u w fun x u' w' => u' = (recV u).2 ∧ ∃ L', Inv N w0 L' w' ∧ RR x L' := by
  obtain ⟨o0, ho0⟩ : ∃ o0 : Oper, o0 = ⟨some d, .call { callee := .builtin .recover, args := #[], argTypes := #[] }, ty, pos, af, none⟩ := ⟨_, rfl⟩
  rw [← ho0] at hb
  refine ⟨trivial, fun c₀ cs hu hroom => ?_⟩
  let b : Frame := { (default : Frame) with fn := f, kind := .deferred, roundOf := none }
  let a0 : Act := { tmps := cc.toArray ++ Array.replicate (fn.ntmps - cc.toArray.size) undef, defers := [] }
  have henter : Frame.enter P f cc.toArray .deferred = b.atR a0 [.code (.region id (o0 :: rest).toArray false)] := by
    simp [Frame.enter, Frame.atR, hf, hb, b, a0]
  have hs0 : a0.tmps.size = n := by simp [a0]; omega
  have he0 : envOf a0 = argsE cc := by
    funext t
    unfold envOf argsE
    simp only [a0, Array.getD_eq_getD_getElem?, List.getD_eq_getElem?_getD]
    by_cases ht : t < cc.length
    · rw [Array.getElem?_append_left (by simpa using ht)]; simp
    · rw [Array.getElem?_append_right (by simpa using ht), Array.getElem?_replicate, List.getElem?_eq_none (by omega)]
      split <;> rfl
  -- the region; recover
  have hrange : List.range (o0 :: rest).toArray.size = 0 :: List.range' 1 rest.length := by
    simp [List.range_eq_range', List.range'_succ]
  have s0 : StepsIn (Machine.fenced P Fence.wide) P (lone (b.atR a0 [.code (.region id (o0 :: rest).toArray false)]) (c₀ :: cs) w) (lone (b.atR a0 [.inRegion (o0 :: rest).toArray (0 :: List.range' 1 rest.length)]) (c₀ :: cs) w) := by
    have := StepsIn.one (I := Machine.fenced P Fence.wide) (fenced_wide P _) (stepR_region (P := P) (b := b) (a := a0) (k := []) (cs := c₀ :: cs) (w := w) (id := id) (ops := (o0 :: rest).toArray))
    rw [hrange] at this; exact this
  have hwant : Region.wanted o0 (yielded (o0 :: rest).toArray a0.tmps) = true := by rw [ho0]; rfl
  have hexec : (execOp a0.eval o0).run P w = .ok .recover w := by rw [ho0]; simp [execOp, resolve, invoke, builtin]
  have hg := stepGR_op (P := P) (b := b) (k := []) (cs := c₀ :: cs) (w := w) (a := a0) (i := 0) (rest := List.range' 1 rest.length) (o := o0) (ops := (o0 :: rest).toArray) (by simp) hwant
  rw [show b.roundOf = none from rfl, Oper.semAt_none] at hg
  have hfin : ∀ v, (b.atR a0 [.inRegion (o0 :: rest).toArray (0 :: List.range' 1 rest.length)]).finish v = b.atR (a0.put (some d) v) [.inRegion (o0 :: rest).toArray (List.range' 1 rest.length)] := by
    intro v; rw [Frame.finish_atR]; simp [ho0]
  have s1 : StepsIn (Machine.fenced P Fence.wide) P (lone (b.atR a0 [.inRegion (o0 :: rest).toArray (0 :: List.range' 1 rest.length)]) (c₀ :: cs) w)
      (lone (b.atR (a0.put (some d) (recV u).1) [.inRegion (o0 :: rest).toArray (List.range' 1 rest.length)]) ({ c₀ with mode := (recV u).2 } :: cs) w) := by
    refine .one (fenced_wide P _) (step_lone_go ?_)
    have hk : (b.atR a0 [.inRegion (o0 :: rest).toArray (0 :: List.range' 1 rest.length)]).kind = .deferred := rfl
    have htr := tryRecover_deferred hk (c₀ :: cs)
    have hrv := recoverD_recV c₀ cs
    rw [hu] at hrv
    rw [hg]
    cases hrec : recoverD (c₀ :: cs) with
    | none =>
      rw [hrec] at hrv
      simp only [Prod.mk.injEq, List.cons.injEq] at hrv
      rw [← hrv.1, ← hrv.2.1, ← hfin]
      simp only [Frame.atR, show b.roundOf = none from rfl] at htr ⊢
      simp [stepG.apply, hexec, htr, hrec]
    | some p =>
      obtain ⟨v, cs'⟩ := p
      rw [hrec] at hrv
      simp only [Prod.mk.injEq] at hrv
      rw [← hrv.1, ← hrv.2, ← hfin]
      simp only [Frame.atR, show b.roundOf = none from rfl] at htr ⊢
      simp [stepG.apply, hexec, htr, hrec]
  -- the rest
  have h1 := h (o0 :: rest).toArray (a0.put (some d) (recV u).1) w (size_put.trans hs0) (by rw [envOf_put hs0 (by simpa [dstOk] using hd), he0]; rfl) rfl hI
  rw [← wpOpsIn_eq_wpListIn rest 1 (fun j => by simp [Nat.add_comm 1 j])] at h1
  obtain ⟨x, a', w', hq, harr⟩ := wp_opsIn _ _ _ h1 b [] ({ c₀ with mode := (recV u).2 } :: cs) rfl trivial (room_wide _)
  have harr' := harr
  rw [henter]
  obtain ⟨hs', L', hI', hq'⟩ := hq
  cases x with
  | normal =>
    obtain ⟨hd', v, hr, hR⟩ := hq'
    exact ⟨.returned v, _, w', _, ⟨rfl, L', hI', hR⟩, (s0.trans s1).trans (StepsIn.trans harr (.one (fenced_wide P _) (stepR_end rfl))), rfl, rfl, rfl, hd', fn, hf, hr a' w' rfl hI'⟩
  | ret =>
    obtain ⟨hd', v, hr, hR⟩ := hq'
    obtain ⟨todo, hs⟩ := harr.1 rfl
    exact ⟨.returned v, _, w', _, ⟨rfl, L', hI', hR⟩, (s0.trans s1).trans hs, rfl, rfl, rfl, hd', fn, hf, hr a' w' rfl hI'⟩
  | panic ch =>
    obtain ⟨hd', hR⟩ := hq'
    obtain ⟨todo, hs⟩ := harr
    exact ⟨.panicked ch, _, w', _, ⟨rfl, L', hI', hR⟩, (s0.trans s1).trans hs, rfl, rfl, rfl, hd', fn, hf⟩
  | exit id => exact hq'.elim
  | goto l => exact hq'.elim
  | outgrown => exact hq'.elim
end
end Go.Proofs.Ytlpahkmfjpjheaa
end
