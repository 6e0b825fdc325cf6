/- The walk of this claim's functions over an explicit list of the blocks that a call owns: the judgements and their rules, for every program. -/
import Derived.WalkKit
import Derived.WalkLawsBesides
import Derived.WalkSpells
import Derived.RangeFuncLeaves
import Derived.OrdersIn
import Derived.DefersIn
import Derived.RecoverIn
import Derived.Maps.AppendAt
section
namespace Go.Proofs.Ytakmopiceopcpaa
open Go.RowKit

/-! ## Frames as functions -/
abbrev Env := Nat → Value
def envOf (a : Act) : Env := fun t => a.tmps.getD t undef
def upd (e : Env) (d : Nat) (v : Value) : Env := fun t => bif Nat.beq t d then v else e t
def updO (e : Env) (d : Option Nat) (v : Value) : Env := match d with | some d => upd e d v | none => e
def ev (e : Env) : Operand → Value
  | .tmp t => e t
  | .const v => v
  | .global g => .pointer (some ⟨g, 0, none⟩)
  | .func f => .func (.func f) #[] #[]

theorem eval_eq (a : Act) : a.eval = ev (envOf a) := by funext x; cases x <;> rfl

def dstOk (n : Nat) : Option Nat → Bool
  | some d => Nat.blt d n
  | none => true

theorem envOf_put {a : Act} {n : Nat} {d : Option Nat} {v : Value} (hs : a.tmps.size = n) (hd : dstOk n d = true) : envOf (a.put d v) = updO (envOf a) d v := by
  cases d with
  | none => rfl
  | some d =>
    funext t
    have hd' : d < a.tmps.size := by rw [hs]; simpa [dstOk, Nat.blt_eq] using hd
    simp only [envOf, Act.put, updO, upd]
    by_cases h : t = d
    · subst h
      simp [hd']
    · have : Nat.beq t d = false := by
        cases hb : Nat.beq t d
        · rfl
        · exact absurd (Nat.eq_of_beq_eq_true hb) h
      rw [this]
      simp [Ne.symm h]

theorem size_put {a : Act} {d : Option Nat} {v : Value} : (a.put d v).tmps.size = a.tmps.size := by cases d <;> simp [Act.put]
theorem defers_put {a : Act} {d : Option Nat} {v : Value} : (a.put d v).defers = a.defers := by cases d <;> rfl

/-! ## What a call owns -/
abbrev Hp := List (Nat × (Obj → Prop))
def Is (o : Obj) : Obj → Prop := fun o' => o' = o

structure Inv (N : Nat) (w0 : World) (L : Hp) (w : World) : Prop where
  below : Below N w0 w
  big : N ≤ w.heap.size
  dis : L.Pairwise (fun x y => x.1 ≠ y.1)
  own : ∀ x ∈ L, N ≤ x.1 ∧ ∃ o, w.heap[x.1]? = some o ∧ x.2 o

theorem Inv.lt {N : Nat} {w0 w : World} {L : Hp} (h : Inv N w0 L w) {x : Nat × (Obj → Prop)} (hx : x ∈ L) : x.1 < w.heap.size := by
  obtain ⟨_, o, ho, _⟩ := h.own x hx
  exact (Array.getElem?_eq_some_iff.1 ho).1

/-- What is known of less. -/
inductive Wk : Hp → Hp → Prop
  | nil : Wk [] []
  | keep {L L' : Hp} {b : Nat} {φ φ' : Obj → Prop} (h : ∀ o, φ o → φ' o) (t : Wk L L') : Wk ((b, φ) :: L) ((b, φ') :: L')
  | drop {L L' : Hp} {x : Nat × (Obj → Prop)} (t : Wk L L') : Wk (x :: L) L'

theorem Wk.refl : ∀ L : Hp, Wk L L
  | [] => .nil
  | (_, _) :: L => .keep (fun _ h => h) (Wk.refl L)
theorem Wk.keep1 {L L' : Hp} {x : Nat × (Obj → Prop)} (t : Wk L L') : Wk (x :: L) (x :: L') := by
  obtain ⟨b, φ⟩ := x
  exact .keep (fun _ h => h) t
theorem Wk.app (X L : Hp) : Wk (X ++ L) L := by
  induction X with
  | nil => exact .refl L
  | cons x X ih => exact .drop ih
theorem Wk.mem {L L' : Hp} (h : Wk L L') : ∀ y ∈ L', ∃ x ∈ L, x.1 = y.1 ∧ ∀ o, x.2 o → y.2 o := by
  induction h with
  | nil => intro y hy; cases hy
  | keep h t ih =>
    intro y hy
    rcases List.mem_cons.1 hy with rfl | hy
    · exact ⟨_, List.mem_cons_self, rfl, h⟩
    · obtain ⟨x, hx, h1⟩ := ih y hy
      exact ⟨x, List.mem_cons_of_mem _ hx, h1⟩
  | drop t ih =>
    intro y hy
    obtain ⟨x, hx, h1⟩ := ih y hy
    exact ⟨x, List.mem_cons_of_mem _ hx, h1⟩
theorem Wk.dis {L L' : Hp} (h : Wk L L') : L.Pairwise (fun x y => x.1 ≠ y.1) → L'.Pairwise (fun x y => x.1 ≠ y.1) := by
  induction h with
  | nil => exact fun h => h
  | keep h t ih =>
    intro hp
    rw [List.pairwise_cons] at hp ⊢
    refine ⟨fun y hy => ?_, ih hp.2⟩
    obtain ⟨x, hx, hk, _⟩ := t.mem y hy
    rw [← hk]
    exact hp.1 x hx
  | drop t ih =>
    intro hp
    rw [List.pairwise_cons] at hp
    exact ih hp.2
theorem Wk.trans {A B : Hp} (h : Wk A B) : ∀ {C : Hp}, Wk B C → Wk A C := by
  induction h with
  | nil => exact fun k => k
  | keep h t ih =>
    intro C k
    cases k with
    | keep h' t' => exact .keep (fun o ho => h' o (h o ho)) (ih t')
    | drop t' => exact .drop (ih t')
  | drop t ih => exact fun k => .drop (ih k)

theorem Inv.wk {N : Nat} {w0 w : World} {L L' : Hp} (h : Inv N w0 L w) (k : Wk L L') : Inv N w0 L' w :=
  ⟨h.below, h.big, k.dis h.dis, fun y hy => by
    obtain ⟨x, hx, hk, hf⟩ := k.mem y hy
    obtain ⟨h1, o, ho, hφ⟩ := h.own x hx
    exact ⟨hk ▸ h1, o, hk ▸ ho, hf o hφ⟩⟩

theorem Inv.perm {N : Nat} {w0 w : World} {L L' : Hp} (h : Inv N w0 L w) (k : L.Perm L') : Inv N w0 L' w :=
  ⟨h.below, h.big, k.pairwise h.dis (fun hab => Ne.symm hab), fun y hy => h.own y (k.mem_iff.2 hy)⟩

theorem Inv.drew {N : Nat} {w0 w : World} {L : Hp} (h : Inv N w0 L w) : Inv N w0 L { w with drawn := w.drawn + 1 } :=
  ⟨⟨h.below.os, h.below.tape, h.below.output, h.below.size, h.below.block⟩, h.big, h.dis, h.own⟩

theorem Inv.alloc {N : Nat} {w0 w : World} {L : Hp} (h : Inv N w0 L w) {o : Obj} {φ : Obj → Prop} (hφ : φ o) : Inv N w0 ((w.heap.size, φ) :: L) (w.alloc o) := by
  refine ⟨h.below.alloc h.big o, by simp; exact Nat.le_succ_of_le h.big, ?_, ?_⟩
  · rw [List.pairwise_cons]
    exact ⟨fun y hy => by have := h.lt hy; simp only [ne_eq]; omega, h.dis⟩
  · intro x hx
    rcases List.mem_cons.1 hx with rfl | hx
    · exact ⟨h.big, o, heap_alloc_new w o, hφ⟩
    · obtain ⟨h1, o', ho', hφ'⟩ := h.own x hx
      exact ⟨h1, o', (Below.heap_alloc w o _ (h.lt hx)).trans ho', hφ'⟩

/-- Membership, and the turn of one block. -/
inductive Mem : Nat → (Obj → Prop) → Hp → Prop
  | here {b : Nat} {φ : Obj → Prop} {L : Hp} : Mem b φ ((b, φ) :: L)
  | there {b : Nat} {φ : Obj → Prop} {x : Nat × (Obj → Prop)} {L : Hp} (h : Mem b φ L) : Mem b φ (x :: L)
theorem Mem.mem {b : Nat} {φ : Obj → Prop} {L : Hp} (h : Mem b φ L) : (b, φ) ∈ L := by
  induction h with
  | here => exact List.mem_cons_self
  | there _ ih => exact List.mem_cons_of_mem _ ih
theorem Mem.of {b : Nat} {φ : Obj → Prop} {L : Hp} (h : (b, φ) ∈ L) : Mem b φ L := by
  induction L with
  | nil => cases h
  | cons x L ih =>
    rcases List.mem_cons.1 h with rfl | h
    · exact .here
    · exact .there (ih h)
theorem Mem.app {b : Nat} {φ : Obj → Prop} {L : Hp} (X : Hp) (h : Mem b φ L) : Mem b φ (X ++ L) := .of (List.mem_append_right _ h.mem)

theorem Inv.obj {N : Nat} {w0 w : World} {L : Hp} (h : Inv N w0 L w) {b : Nat} {o : Obj} (hm : Mem b (Is o) L) : w.heap[b]? = some o := by
  obtain ⟨_, o', ho, hφ⟩ := h.own _ hm.mem
  rw [ho, hφ]
theorem Inv.obj' {N : Nat} {w0 w : World} {L : Hp} (h : Inv N w0 L w) {b : Nat} {φ : Obj → Prop} (hm : Mem b φ L) : ∃ o, w.heap[b]? = some o ∧ φ o := (h.own _ hm.mem).2
theorem Inv.cell {N : Nat} {w0 w : World} {L : Hp} (h : Inv N w0 L w) {b : Nat} {cs : Array Value} {T : TypeId} (hm : Mem b (Is (.cells cs T (0, 0))) L) (i : Nat) :
    w.cell? ⟨b, i, none⟩ = cs[i]? := cell_of_row w b i cs T (0, 0) (h.obj hm)
theorem Inv.cellRo {N : Nat} {w0 w : World} {L : Hp} (h : Inv N w0 L w) {b i : Nat} {v : Value} (hb : b < N) (hc : w0.cell? ⟨b, i, none⟩ = some v) :
    w.cell? ⟨b, i, none⟩ = some v := (h.below.cell (p := ⟨b, i, none⟩) hb).trans hc

inductive Up : Hp → Nat → (Obj → Prop) → (Obj → Prop) → Hp → Prop
  | here {b : Nat} {φ φ' : Obj → Prop} {L : Hp} : Up ((b, φ) :: L) b φ φ' ((b, φ') :: L)
  | there {b : Nat} {φ φ' : Obj → Prop} {x : Nat × (Obj → Prop)} {L L' : Hp} (h : Up L b φ φ' L') : Up (x :: L) b φ φ' (x :: L')
theorem Up.mem {b : Nat} {φ φ' : Obj → Prop} {L L' : Hp} (h : Up L b φ φ' L') : Mem b φ L := by
  induction h with
  | here => exact .here
  | there _ ih => exact .there ih
theorem Up.keys {b : Nat} {φ φ' : Obj → Prop} {L L' : Hp} (h : Up L b φ φ' L') : L'.map (·.1) = L.map (·.1) := by
  induction h with
  | here => rfl
  | there _ ih => simp [ih]
theorem Up.all {b : Nat} {φ φ' : Obj → Prop} {L L' : Hp} (h : Up L b φ φ' L') : ∀ y ∈ L', y = (b, φ') ∨ (y ∈ L) := by
  induction h with
  | here => intro y hy; rcases List.mem_cons.1 hy with rfl | hy; exact .inl rfl; exact .inr (List.mem_cons_of_mem _ hy)
  | there _ ih =>
    intro y hy
    rcases List.mem_cons.1 hy with rfl | hy
    · exact .inr List.mem_cons_self
    · rcases ih y hy with h | h
      · exact .inl h
      · exact .inr (List.mem_cons_of_mem _ h)
theorem Up.uniq {b : Nat} {φ φ' : Obj → Prop} {L L' : Hp} (h : Up L b φ φ' L') (hd : L.Pairwise (fun x y => x.1 ≠ y.1)) : ∀ y ∈ L', y.1 = b → y = (b, φ') := by
  induction h with
  | here =>
    rw [List.pairwise_cons] at hd
    intro y hy hb
    rcases List.mem_cons.1 hy with rfl | hy
    · rfl
    · exact absurd hb.symm (hd.1 y hy)
  | there hu ih =>
    rw [List.pairwise_cons] at hd
    intro y hy hb
    rcases List.mem_cons.1 hy with rfl | hy
    · exact absurd hb (hd.1 _ hu.mem.mem)
    · exact ih hd.2 y hy hb

/-- One block turns; the rest lies as it lay. -/
theorem Inv.turn {N : Nat} {w0 w w' : World} {L L' : Hp} {b : Nat} {φ φ' : Obj → Prop} (h : Inv N w0 L w) (hu : Up L b φ φ' L')
    (ho : w'.os = w.os) (ht : w'.tape = w.tape) (hp : w'.output = w.output) (hs : w.heap.size ≤ w'.heap.size)
    (hk : ∀ k, k < w.heap.size → k ≠ b → w'.heap[k]? = w.heap[k]?) (hn : ∃ o, w'.heap[b]? = some o ∧ φ' o) : Inv N w0 L' w' := by
  have hb := (h.own _ hu.mem.mem).1
  have hlt := h.lt hu.mem.mem
  refine ⟨⟨ho.trans h.below.os, ht.trans h.below.tape, hp.trans h.below.output, Nat.le_trans h.below.size hs, fun k hk' => ?_⟩, Nat.le_trans h.big hs, ?_, ?_⟩
  · rw [hk k (Nat.lt_of_lt_of_le hk' h.big) (by simp at hb; omega)]
    exact h.below.block k hk'
  · have := h.dis
    have e := hu.keys
    have this' : (L.map (fun x => x.1)).Pairwise (fun x y : Nat => x ≠ y) := List.pairwise_map.2 this
    rw [← e] at this'
    exact List.pairwise_map.1 this'
  · intro y hy
    by_cases e : y.1 = b
    · have := hu.uniq h.dis y hy e
      subst this
      exact ⟨hb, hn⟩
    · rcases hu.all y hy with rfl | hy'
      · exact absurd rfl e
      · obtain ⟨h1, o, ho', hφ⟩ := h.own y hy'
        exact ⟨h1, o, (hk _ (h.lt hy') e).trans ho', hφ⟩

/-! ## Code -/
def FW : Option Nat → Fence
  | none => Fence.wide
  | some l => Fence.wide.inRound l
theorem FW_fn (r : Option Nat) (f : FuncId) : (FW r).fn f := by cases r <;> trivial
theorem FW_depth (r : Option Nat) : (FW r).depth = none := by cases r <;> rfl
theorem FW_round (r : Option Nat) : (FW r).round = r := by cases r <;> rfl
theorem callsFW {P : Program} {r : Option Nat} {n : Nat} {f : FuncId} {args : Array Value} {w : World} {R : Ending → World → Prop} :
    CallsIn (FW r) n P f args w R ↔ Calls P f args w R := by
  cases r with
  | none => exact callsIn_wide
  | some l => exact (callsIn_wide (n := n) : CallsIn Fence.wide n P f args w R ↔ _)
theorem FW_calm {P : Program} {r : Option Nat} {fr : Frame} {cs : List Frame} {w : World} : (lone fr cs w).fenced P (FW r) := by
  cases r with
  | none => exact fenced_wide P _
  | some l => exact fenced_wide P _
abbrev Post := Exit → Env → List Deferred → Hp → Prop

section
variable (P : Program) (r : Option Nat) (n N : Nat) (w0 : World)

def PostA (Q : Post) : Exit → Act → World → Prop := fun x a w => a.tmps.size = n ∧ ∃ L, Inv N w0 L w ∧ Q x (envOf a) a.defers L

def WP (c : Code) (Q : Post) (e : Env) (ds : List Deferred) (L : Hp) : Prop :=
  ∀ a w, a.tmps.size = n → envOf a = e → a.defers = ds → Inv N w0 L w → c.wpIn (FW r) 0 P (PostA n N w0 Q) a w

def OPS (ops : Array Oper) (l : List Oper) (Q : Post) (e : Env) (ds : List Deferred) (L : Hp) : Prop :=
  ∀ a w, a.tmps.size = n → envOf a = e → a.defers = ds → Inv N w0 L w → wpListIn (FW r) 0 P ops (PostA n N w0 Q) l a w

/-- What stands behind: the code y, then Q. -/
def QThen (y : Code) (Q : Post) : Post
  | .normal, e, ds, L => WP P r n N w0 y Q e ds L
  | x, e, ds, L => Q x e ds L
def QBlock (id : Nat) (Q : Post) : Post
  | .exit id', e, ds, L => if id' = id then Q .normal e ds L else Q (.exit id') e ds L
  | x, e, ds, L => Q x e ds L
def QScope (Q : Post) : Post
  | .goto _, _, _, _ => False
  | x, e, ds, L => Q x e ds L
end

section
variable {P : Program} {r : Option Nat} {n N : Nat} {w0 : World} {Q : Post} {e : Env} {ds : List Deferred} {L : Hp}

theorem WP_skip (h : Q .normal e ds L) : WP P r n N w0 .skip Q e ds L := by
  rintro a w hs rfl rfl hI
  exact wpIn_skip ⟨hs, L, hI, h⟩
theorem WP_label {l : Nat} (h : Q .normal e ds L) : WP P r n N w0 (.label l) Q e ds L := by
  rintro a w hs rfl rfl hI
  exact wpIn_label ⟨hs, L, hI, h⟩
theorem WP_exit {id : Nat} (h : Q (.exit id) e ds L) : WP P r n N w0 (.exit id) Q e ds L := by
  rintro a w hs rfl rfl hI
  exact wpIn_exit ⟨hs, L, hI, h⟩
theorem WP_ret (h : Q .ret e ds L) : WP P r n N w0 .ret Q e ds L := by
  rintro a w hs rfl rfl hI
  exact wpIn_ret ⟨hs, L, hI, h⟩
theorem WP_seq {x y : Code} (h : WP P r n N w0 x (QThen P r n N w0 y Q) e ds L) : WP P r n N w0 (.seq x y) Q e ds L := by
  rintro a w hs he hd hI
  refine wpIn_seq (Go.wpIn_mono (h a w hs he hd hI) ?_)
  rintro x a' w' ⟨hs', L', hI', hq⟩
  cases x <;> first
    | exact hq a' w' hs' rfl rfl hI'
    | exact ⟨hs', L', hI', hq⟩
/-- What stands behind, out of sight. -/
structure HThen (P : Program) (r : Option Nat) (n N : Nat) (w0 : World) (y : Code) (Q K : Post) : Prop where
  nor : ∀ e ds L, WP P r n N w0 y Q e ds L → K .normal e ds L
  oth : ∀ x e ds L, x ≠ .normal → Q x e ds L → K x e ds L
theorem WP_seqK {x y : Code} (h : ∀ K, HThen P r n N w0 y Q K → WP P r n N w0 x K e ds L) : WP P r n N w0 (.seq x y) Q e ds L :=
  WP_seq (h _ ⟨fun _ _ _ h => h, fun x _ _ _ hx h => by cases x <;> first | exact absurd rfl hx | exact h⟩)
theorem HThen.normal {y : Code} {K : Post} (h : HThen P r n N w0 y Q K) (h' : WP P r n N w0 y Q e ds L) : K .normal e ds L := h.nor _ _ _ h'
theorem HThen.exit {y : Code} {K : Post} {id : Nat} (h : HThen P r n N w0 y Q K) (h' : Q (.exit id) e ds L) : K (.exit id) e ds L := h.oth _ _ _ _ (by simp) h'
theorem HThen.ret {y : Code} {K : Post} (h : HThen P r n N w0 y Q K) (h' : Q .ret e ds L) : K .ret e ds L := h.oth _ _ _ _ (by simp) h'
theorem HThen.panic {y : Code} {K : Post} {ch : List PanicEntry} (h : HThen P r n N w0 y Q K) (h' : Q (.panic ch) e ds L) : K (.panic ch) e ds L := h.oth _ _ _ _ (by simp) h'
theorem WP_cond {c : Operand} {x y : Code} {t : Bool} (hc : ev e c = .bool t) (ht : t = true → WP P r n N w0 x Q e ds L) (hf : t = false → WP P r n N w0 y Q e ds L) :
    WP P r n N w0 (.cond c x y) Q e ds L := by
  rintro a w hs rfl hd hI
  refine wpIn_cond_split (t := t) (by rw [eval_eq]; exact hc) (fun h => ht h a w hs rfl hd hI) (fun h => hf h a w hs rfl hd hI)
theorem WP_cond_true {c : Operand} {x y : Code} (hc : ev e c = .bool true) (ht : WP P r n N w0 x Q e ds L) : WP P r n N w0 (.cond c x y) Q e ds L :=
  WP_cond hc (fun _ => ht) (fun h => by cases h)
theorem WP_cond_false {c : Operand} {x y : Code} (hc : ev e c = .bool false) (hf : WP P r n N w0 y Q e ds L) : WP P r n N w0 (.cond c x y) Q e ds L :=
  WP_cond hc (fun h => by cases h) (fun _ => hf)
theorem WP_block {id : Nat} {c : Code} (h : WP P r n N w0 c (QBlock id Q) e ds L) : WP P r n N w0 (.block id c) Q e ds L := by
  rintro a w hs he hd hI
  refine wpIn_block (Go.wpIn_mono (h a w hs he hd hI) ?_)
  rintro x a' w' ⟨hs', L', hI', hq⟩
  cases x with
  | exit id' =>
    simp only [QBlock] at hq
    simp only [Exit.inBlock]
    split
    · rename_i h; rw [if_pos h] at hq; exact ⟨hs', L', hI', hq⟩
    · rename_i h; rw [if_neg h] at hq; exact ⟨hs', L', hI', hq⟩
  | _ => exact ⟨hs', L', hI', hq⟩
theorem stepR_scope {b : Frame} {a : Act} {k : List Item} {cs : List Frame} {w : World} {c : Code} :
    step P (lone (b.atR a (.code (.scope c) :: k)) cs w) = .next (lone (b.atR a (.code c :: .inScope c :: k)) cs w) :=
  step_lone_go (by simp [stepG, stepG.exec, Frame.atR])
theorem stepR_inScope {b : Frame} {a : Act} {k : List Item} {cs : List Frame} {w : World} {c : Code} :
    step P (lone (b.atR a (.inScope c :: k)) cs w) = .next (lone (b.atR a k) cs w) :=
  step_lone_go (by simp [stepG, stepG.exec, Frame.atR])
theorem WP_scope {c : Code} (h : WP P r n N w0 c (QScope Q) e ds L) : WP P r n N w0 (.scope c) Q e ds L := by
  rintro a w hs he hd hI b k cs hro hb hr
  obtain ⟨x, a₁, w₁, ⟨hs', L', hI', hq⟩, harr⟩ := h a w hs he hd hI b (.inScope c :: k) cs hro hb hr
  have h0 : StepsIn (Machine.fenced P (FW r)) P (lone (b.atR a (.code (.scope c) :: k)) cs w) (lone (b.atR a (.code c :: .inScope c :: k)) cs w) := .one FW_calm stepR_scope
  cases x with
  | normal => exact ⟨.normal, a₁, w₁, ⟨hs', L', hI', hq⟩, StepsIn.trans h0 (StepsIn.trans harr (.one FW_calm stepR_inScope))⟩
  | exit id =>
    have hx : exitTo id (.inScope c :: k) = exitTo id k := by simp [exitTo]
    exact ⟨.exit id, a₁, w₁, ⟨hs', L', hI', hq⟩, fun k' hk => h0.trans (harr.1 k' (by rw [hx]; exact hk)),
      fun hr' hk => let ⟨k₁, h1, h2⟩ := harr.2 hr' (by rw [hx]; exact hk); ⟨k₁, h1, h0.trans h2⟩⟩
  | goto l => exact hq.elim
  | ret => exact ⟨.ret, a₁, w₁, ⟨hs', L', hI', hq⟩, .of_steps h0 harr⟩
  | panic ch => exact ⟨.panic ch, a₁, w₁, ⟨hs', L', hI', hq⟩, .of_steps h0 harr⟩
  | outgrown => exact ⟨.outgrown, a₁, w₁, ⟨hs', L', hI', hq⟩, .of_steps h0 harr⟩
theorem WP_region {id : Nat} {l : List Oper} (h : OPS P r n N w0 l.toArray l Q e ds L) : WP P r n N w0 (.region id l.toArray false) Q e ds L := by
  rintro a w hs he hd hI
  exact wpIn_region_lit (h a w hs he hd hI)
theorem WP_mono {c : Code} {Q' : Post} (h : WP P r n N w0 c Q e ds L) (hq : ∀ x e ds L, Q x e ds L → Q' x e ds L) : WP P r n N w0 c Q' e ds L := by
  rintro a w hs he hd hI
  exact Go.wpIn_mono (h a w hs he hd hI) fun x a w ⟨h1, L, h2, h3⟩ => ⟨h1, L, h2, hq _ _ _ _ h3⟩
/-- The frame at a loop's head: the slots that the loop's own state fixes (sl), those that the body writes besides (ws: whatever), all others as they were. -/
def look1 (t : Nat) : List (Nat × Value) → Option Value
  | [] => none
  | (s, v) :: l => bif Nat.beq t s then some v else look1 t l
def isIn (t : Nat) : List Nat → Bool
  | [] => false
  | s :: l => bif Nat.beq t s then true else isIn t l
def frame (ws : List Nat) (base : Env) (sl : List (Nat × Value)) (j : Env) : Env := fun t =>
  match look1 t sl with
  | some v => v
  | none => bif isIn t ws then j t else base t
def Off (ws : List Nat) (e base : Env) : Prop := ∀ t, isIn t ws = false → e t = base t
theorem Off.refl (ws : List Nat) (e : Env) : Off ws e e := fun _ _ => rfl
theorem Off.upd {ws : List Nat} {e base : Env} {d : Nat} {v : Value} (hd : isIn d ws = true) (h : Off ws e base) : Off ws (upd e d v) base := by
  intro t ht
  unfold Ytakmopiceopcpaa.upd
  cases hb : Nat.beq t d with
  | false => exact h t ht
  | true =>
    have := Nat.eq_of_beq_eq_true hb
    subst this
    rw [hd] at ht; cases ht
theorem Off.updO {ws : List Nat} {e base : Env} {d : Option Nat} {v : Value} (hd : (match d with | some d => isIn d ws | none => true) = true) (h : Off ws e base) : Off ws (updO e d v) base := by
  cases d with
  | none => exact h
  | some d => exact h.upd hd
theorem look1_in {sl : List (Nat × Value)} {ws : List Nat} (h : (sl.all fun p => isIn p.1 ws) = true) {t : Nat} (ht : isIn t ws = false) : look1 t sl = none := by
  induction sl with
  | nil => rfl
  | cons p sl ih =>
    simp only [List.all_cons, Bool.and_eq_true] at h
    unfold look1
    cases hb : Nat.beq t p.1 with
    | false => exact ih h.2
    | true =>
      have := Nat.eq_of_beq_eq_true hb
      rw [← this, ht] at h; cases h.1
theorem Off.frame {ws : List Nat} {base : Env} {sl : List (Nat × Value)} {j : Env} (h : (sl.all fun p => isIn p.1 ws) = true) : Off ws (frame ws base sl j) base := by
  intro t ht
  unfold Ytakmopiceopcpaa.frame
  rw [look1_in h ht, ht]; rfl
theorem frame_intro {ws : List Nat} {base : Env} {sl : List (Nat × Value)} {e' : Env} (h1 : ∀ t v, look1 t sl = some v → e' t = v) (h2 : Off ws e' base) : e' = frame ws base sl e' := by
  funext t
  unfold frame
  cases hl : look1 t sl with
  | some v => exact h1 t v hl
  | none =>
    cases hi : isIn t ws with
    | true => rfl
    | false => exact h2 t hi
/-- The slots, one by one. -/
inductive Slots (e : Env) : List (Nat × Value) → Prop
  | nil : Slots e []
  | cons {t : Nat} {v : Value} {l : List (Nat × Value)} (h : e t = v) (k : Slots e l) : Slots e ((t, v) :: l)
theorem Slots.look {e : Env} {sl : List (Nat × Value)} (h : Slots e sl) : ∀ t v, look1 t sl = some v → e t = v := by
  induction h with
  | nil => intro t v h; cases h
  | cons h k ih =>
    intro t v hl
    unfold look1 at hl
    rename_i t0 v0 l0
    cases hb : Nat.beq t t0 with
    | false => rw [hb] at hl; exact ih t v hl
    | true =>
      rw [hb] at hl
      have := Nat.eq_of_beq_eq_true hb
      subst this
      have : v0 = v := by simpa using hl
      rw [h, this]

/-- What is asked at a round's end. -/
def QLoop {σ : Type} (ws : List Nat) (base : Env) (sl : σ → List (Nat × Value)) (Lp : σ → Hp) (J : σ → Prop) (μ : σ → Nat) (ds : List Deferred) (m : Nat) (Q : Post) : Post
  | .normal, e', ds', L' => ds' = ds ∧ ∃ s', Slots e' (sl s') ∧ Off ws e' base ∧ Wk L' (Lp s') ∧ J s' ∧ μ s' < m
  | x, e', ds', L' => Q x e' ds' L'

theorem WP_loop {c : Code} {σ : Type} (ws : List Nat) (sl : σ → List (Nat × Value)) (Lp : σ → Hp) (J : σ → Prop) (μ : σ → Nat) (s0 : σ)
    (h0 : Slots e (sl s0)) (hL : Wk L (Lp s0)) (hJ : J s0)
    (round : ∀ s j, J s → WP P r n N w0 c (QLoop ws e sl Lp J μ ds (μ s) Q) (frame ws e (sl s) j) ds (Lp s)) :
    WP P r n N w0 (.loop c) Q e ds L := by
  rintro a w hs he hd hI b k cs hro hb hr
  have key : ∀ m s, μ s = m → J s → ∀ a w, a.tmps.size = n → Slots (envOf a) (sl s) → Off ws (envOf a) e → a.defers = ds → Inv N w0 (Lp s) w →
      ∃ x a' w', PostA n N w0 Q x a' w' ∧ ArrivesIn (Machine.fenced P (FW r)) P (lone (b.atR a (.code c :: .inLoop c :: k)) cs w) b k cs x a' w' := by
    intro m
    induction m using Nat.strongRecOn with
    | _ m ih =>
      intro s hm hJ a w hs hsl hoff hd hI
      have hfr : envOf a = frame ws e (sl s) (envOf a) := frame_intro hsl.look hoff
      obtain ⟨x, a₁, w₁, ⟨hs₁, L₁, hI₁, hq⟩, harr⟩ := round s (envOf a) hJ a w hs hfr hd hI b (.inLoop c :: k) cs hro hb hr
      cases x with
      | normal =>
        obtain ⟨hd₁, s', hsl', hoff', hwk, hJ', hlt⟩ := hq
        obtain ⟨x₂, a₂, w₂, hq₂, harr₂⟩ := ih (μ s') (hm ▸ hlt) s' rfl hJ' a₁ w₁ hs₁ hsl' hoff' hd₁ (hI₁.wk hwk)
        exact ⟨x₂, a₂, w₂, hq₂, .of_steps (StepsIn.trans harr (.one FW_calm stepR_inLoop)) harr₂⟩
      | exit id => exact ⟨_, a₁, w₁, ⟨hs₁, L₁, hI₁, hq⟩, .pass (x := .inLoop c) rfl (fun _ _ => .inl (by simp)) harr⟩
      | goto l => exact ⟨_, a₁, w₁, ⟨hs₁, L₁, hI₁, hq⟩, .pass (x := .inLoop c) rfl (fun _ _ => .inl (by simp)) harr⟩
      | ret => exact ⟨_, a₁, w₁, ⟨hs₁, L₁, hI₁, hq⟩, .pass (x := .inLoop c) rfl (fun _ _ => .inl (by simp)) harr⟩
      | panic ch => exact ⟨_, a₁, w₁, ⟨hs₁, L₁, hI₁, hq⟩, .pass (x := .inLoop c) rfl (fun _ _ => .inl (by simp)) harr⟩
      | outgrown => exact ⟨_, a₁, w₁, ⟨hs₁, L₁, hI₁, hq⟩, .pass (x := .inLoop c) rfl (fun _ _ => .inl (by simp)) harr⟩
  obtain ⟨x, a', w', hq, harr⟩ := key _ s0 rfl hJ a w hs (he ▸ h0) (he ▸ Off.refl ws _) hd (hI.wk hL)
  exact ⟨x, a', w', hq, .of_steps (.one FW_calm stepR_loop) harr⟩

theorem QBlock_normal {id : Nat} (h : Q .normal e ds L) : QBlock id Q .normal e ds L := h
theorem QBlock_ret {id : Nat} (h : Q .ret e ds L) : QBlock id Q .ret e ds L := h
theorem QBlock_panic {id : Nat} {ch : List PanicEntry} (h : Q (.panic ch) e ds L) : QBlock id Q (.panic ch) e ds L := h
theorem QBlock_hit {id : Nat} (h : Q .normal e ds L) : QBlock id Q (.exit id) e ds L := by simp only [QBlock, if_true]; exact h
theorem QBlock_miss {id id' : Nat} (hne : Nat.beq id' id = false) (h : Q (.exit id') e ds L) : QBlock id Q (.exit id') e ds L := by
  have : id' ≠ id := fun e => by subst e; simp at hne
  simp only [QBlock, if_neg this]; exact h
theorem QScope_normal (h : Q .normal e ds L) : QScope Q .normal e ds L := h
theorem QScope_exit {id : Nat} (h : Q (.exit id) e ds L) : QScope Q (.exit id) e ds L := h
theorem QScope_ret (h : Q .ret e ds L) : QScope Q .ret e ds L := h
theorem QLoop_exit {σ : Type} {ws : List Nat} {base : Env} {sl : σ → List (Nat × Value)} {Lp : σ → Hp} {J : σ → Prop} {μ : σ → Nat} {ds0 : List Deferred} {m : Nat} {id : Nat}
    (h : Q (.exit id) e ds L) : QLoop ws base sl Lp J μ ds0 m Q (.exit id) e ds L := h
theorem QLoop_ret {σ : Type} {ws : List Nat} {base : Env} {sl : σ → List (Nat × Value)} {Lp : σ → Hp} {J : σ → Prop} {μ : σ → Nat} {ds0 : List Deferred} {m : Nat}
    (h : Q .ret e ds L) : QLoop ws base sl Lp J μ ds0 m Q .ret e ds L := h
theorem QLoop_panic {σ : Type} {ws : List Nat} {base : Env} {sl : σ → List (Nat × Value)} {Lp : σ → Hp} {J : σ → Prop} {μ : σ → Nat} {ds0 : List Deferred} {m : Nat} {ch : List PanicEntry}
    (h : Q (.panic ch) e ds L) : QLoop ws base sl Lp J μ ds0 m Q (.panic ch) e ds L := h
theorem QLoop_normal {σ : Type} {ws : List Nat} {base : Env} {sl : σ → List (Nat × Value)} {Lp : σ → Hp} {J : σ → Prop} {μ : σ → Nat} {m : Nat} (s' : σ)
    (h1 : Slots e (sl s')) (h2 : Off ws e base) (h3 : Wk L (Lp s')) (h4 : J s') (h5 : μ s' < m) : QLoop ws base sl Lp J μ ds m Q .normal e ds L :=
  ⟨rfl, s', h1, h2, h3, h4, h5⟩
end
end Go.Proofs.Ytakmopiceopcpaa
end
