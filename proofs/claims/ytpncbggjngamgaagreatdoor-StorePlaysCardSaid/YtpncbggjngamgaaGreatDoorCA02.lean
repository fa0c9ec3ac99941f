/-
  A region that draws its order, walked in an order of ours: two laws.
  A region that draws its order, with quiet calls beside it, and two effects that may come in either order.
  A region that draws its order, walked along a tree: where two operations stand ready, both ways.
  Rows of structs: the cells of a list of items laid one behind the other, and how a slice of them is opened.
  Small facts on bits and wraps, in the walk's own spelling (no program in sight).
  Contracts of lodestarref00's functions on bytes: EqBytes, WideBytes, SpareBytes, CopyBytes.
  States in memory, their keys and ages. Printed by gen_sto1.py.
  What a store tells, on lists: which states are old, when something more is. No program in sight.
-/
import Derived.RegionTactic
import Derived.OrdersHeld
import Derived.WalkKit
import Derived.Lib.Hide
import Derived.Test.YtpncbggjngamgaaGreatDoorCA01
import Derived.ChangeArms
import Derived.WideShapes
import Derived.OpenShut
import Derived.RowKit
import Derived.SizedLaws
import Derived.WalkLawsBesides
import Derived.Deep.OwnRows
import Derived.Lib.SliceRun
namespace Go.Proofs.YtpncbggjngamgaaGreatDoor
set_option linter.unusedVariables false
open Go.RowKit

/-- The n-th of a list of operations. -/
def nthOp : List Oper → Nat → Oper
  | [], _ => default
  | o :: _, 0 => o
  | _ :: l, n + 1 => nthOp l n
theorem nthOp_zero (o : Oper) (l : List Oper) : nthOp (o :: l) 0 = o := rfl
theorem nthOp_succ (o : Oper) (l : List Oper) (n : Nat) : nthOp (o :: l) (n + 1) = nthOp l n := rfl

/-- A region's operations in an order of ours: those marked true do nothing but leave a value, the same in every world; the others are walked one by one. -/
def wpW (P : Program) (ops : Array Oper) (Q : Exit → Act → World → Prop) : List (Oper × Bool) → Act → World → Prop
  | [], a, w => Q .normal a w
  | (o, true) :: r, a, w => ∃ v, Yields P ops o v a ∧ wpW P ops Q r (a.put o.dst v) w
  | (o, false) :: r, a, w => ∀ Q' : Exit → Act → World → Prop, (∀ a w, wpW P ops Q r a w → Q' .normal a w) → wpList P ops Q' [o] a w

def okOrder (ops : Array Oper) : Array Bool → List (Nat × Bool) → Bool
  | listed, [] => (Region.ready .any ops listed).isEmpty
  | listed, (i, true) :: r => Region.free .any ops listed i && (Region.ready .any ops listed).contains i && okOrder ops (listed.setIfInBounds i true) r
  | listed, (i, false) :: r => (Region.ready .any ops listed == [i]) && okOrder ops (listed.setIfInBounds i true) r

theorem nthOp_get (l : List Oper) : ∀ i, i < l.length → l[i]? = some (nthOp l i) := by
  induction l with
  | nil => intro i h; simp at h
  | cons o l ih =>
    intro i h
    cases i with
    | zero => rfl
    | succ i => simp at h; simpa [nthOp] using ih i h

theorem ready_lt {md : Region.Mode} {ops : Array Oper} {listed : Array Bool} {i : Nat} (h : i ∈ Region.ready md ops listed) : i < ops.size := by
  simp [Region.ready] at h
  exact h.1

theorem wp_exit {P : Program} {o : Oper} {a : Act} {w : World} {K : Act → World → Prop} {Q Q' : Exit → Act → World → Prop}
    (h1 : ∀ c a w, Q' (.panic c) a w → Q (.panic c) a w) (h2 : ∀ a w, Q' .outgrown a w → Q .outgrown a w) (h : o.wp P a w K Q') : o.wp P a w K Q := by
  have hl : LetsOut Q' → LetsOut Q := fun ⟨a, w, h⟩ => ⟨a, w, h2 a w h⟩
  unfold Oper.wp at *
  generalize (execOp a.eval o).run P w = r at *
  cases r with
  | ok n w' =>
    cases n <;> simp only [Oper.upon] at h ⊢ <;>
      first
        | exact h
        | exact Calls.mono h (fun e w'' he => by cases e <;> first | exact h1 _ _ _ he | exact hl he | exact he)
  | halt x w' => cases x <;> simp only [Oper.upon] at h ⊢ <;> first | exact h1 _ _ _ h | exact h

theorem wpAny_w {P : Program} {ops : Array Oper} {Q : Exit → Act → World → Prop} (hs : Region.noSelect ops = true)
    (hQ : ∀ c d v a w, Q (.panic c) (Act.put a d v) w → Q (.panic c) a w) : ∀ (π : List (Nat × Bool)) (listed : Array Bool) (a : Act) (w : World),
    okOrder ops listed π = true → wpW P ops Q (π.map fun x => (nthOp ops.toList x.1, x.2)) a w → wpAny P .any ops Q π.length listed a w := by
  intro π
  induction π with
  | nil =>
    intro listed a w ho h
    simp only [okOrder, List.isEmpty_iff] at ho
    exact wpAny_done ho h _
  | cons x r ih =>
    obtain ⟨i, b⟩ := x
    intro listed a w ho h
    cases b with
    | true =>
      simp only [okOrder, Bool.and_eq_true] at ho
      obtain ⟨⟨hf, hr⟩, ho⟩ := ho
      obtain ⟨v, hy, hrest⟩ := h
      have hlt : i < ops.size := ready_lt (by simpa using hr)
      have hi : ops[i]? = some (nthOp ops.toList i) := by
        have := nthOp_get ops.toList i (by simpa using hlt)
        simpa using this
      exact wpAny_take hi hs hf hr (fun c a w h => hQ c _ _ a w h) hy (ih _ _ _ ho hrest)
    | false =>
      simp only [okOrder, Bool.and_eq_true, beq_iff_eq] at ho
      obtain ⟨hr, ho⟩ := ho
      have hlt : i < ops.size := ready_lt (by rw [hr]; exact List.mem_singleton.2 rfl)
      have hi : ops[i]? = some (nthOp ops.toList i) := by
        have := nthOp_get ops.toList i (by simpa using hlt)
        simpa using this
      refine wpAny_all hr (by simp) (fun j hj => ?_)
      rw [List.mem_singleton] at hj
      subst hj
      have h' := h (Exit.then (wpAny P .any ops Q r.length (listed.setIfInBounds j true)) Q) (fun a w hh => ih _ _ _ ho hh)
      unfold wpOp
      rw [hi]
      simp only [wpList] at h'
      show if _ then _ else _
      split
      · rename_i hw
        rw [if_pos hw] at h'
        rcases h' with h' | ⟨h1, h2⟩
        · exact .inl (wp_exit (fun _ _ _ h => h) (fun _ _ h => h) h')
        · exact .inr ⟨h1, h2⟩
      · rename_i hw
        rw [if_neg hw] at h'
        exact h'

/-- A region that draws its order, walked in an order of ours. -/
theorem wp_region_w {P : Program} {id : Nat} {ops : Array Oper} {Q : Exit → Act → World → Prop} {a : Act} {w : World} (π : List (Nat × Bool))
    (hm : (P.follows .mixedOrders && Region.noSelect ops && (π.length == ops.size) && okOrder ops (Array.replicate ops.size false) π) = true)
    (hQ : ∀ c d v a w, Q (.panic c) (Act.put a d v) w → Q (.panic c) a w)
    (h : wpW P ops Q (π.map fun x => (nthOp ops.toList x.1, x.2)) a w.drew) : (Code.region id ops true).wp P Q a w := by
  simp only [Bool.and_eq_true, beq_iff_eq] at hm
  obtain ⟨⟨⟨h1, h2⟩, h3⟩, h4⟩ := hm
  refine wp_region_any h1 ?_
  rw [← h3]
  exact wpAny_w h2 hQ π _ a _ (by rw [h3]; exact h4) h

theorem wpW_nil {P : Program} {ops : Array Oper} {Q : Exit → Act → World → Prop} {a : Act} {w : World} (h : Q .normal a w) : wpW P ops Q [] a w := h
theorem wpW_take {P : Program} {ops : Array Oper} {Q : Exit → Act → World → Prop} {o : Oper} {r : List (Oper × Bool)} {a : Act} {w : World} {v : Value}
    (hw : Region.wanted o (yielded ops a.tmps) = true) (hv : ∀ w, (execOp a.eval o).run P w = .ok (.value v) w) (h : wpW P ops Q r (a.put o.dst v) w) : wpW P ops Q ((o, true) :: r) a w := ⟨v, .inl ⟨hw, hv⟩, h⟩
theorem wpW_skip {P : Program} {ops : Array Oper} {Q : Exit → Act → World → Prop} {o : Oper} {r : List (Oper × Bool)} {a : Act} {w : World}
    (hw : Region.wanted o (yielded ops a.tmps) = false) (h : wpW P ops Q r (a.put o.dst undef) w) : wpW P ops Q ((o, true) :: r) a w := ⟨undef, .inr ⟨hw, rfl⟩, h⟩
theorem wpW_do {P : Program} {ops : Array Oper} {Q : Exit → Act → World → Prop} {o : Oper} {r : List (Oper × Bool)} {a : Act} {w : World}
    (h : ∀ K : Exit → Act → World → Prop, Hid (∀ a w, wpW P ops Q r a w → K .normal a w) → wpList P ops K [o] a w) : wpW P ops Q ((o, false) :: r) a w := fun Q' hQ' => h Q' hQ'

/-! The same, beside what holds of the world all along the region. -/
/-- Those marked true leave a value, the same in every world that meets S; the others are walked one by one, and S is shown anew behind each. -/
def wpS (P : Program) (ops : Array Oper) (Q : Exit → Act → World → Prop) (S : World → Prop) : List (Oper × Bool) → Act → World → Prop
  | [], a, w => Q .normal a w
  | (o, true) :: r, a, w => ∃ v, YieldsIf P ops S o v a ∧ S w ∧ wpS P ops Q S r (a.put o.dst v) w
  | (o, false) :: r, a, w => ∀ Q' : Exit → Act → World → Prop, (∀ a w, S w → wpS P ops Q S r a w → Q' .normal a w) → wpList P ops Q' [o] a w

theorem wpAny_s {P : Program} {ops : Array Oper} {Q : Exit → Act → World → Prop} {S : World → Prop} (hs : Region.noSelect ops = true)
    (hQ : ∀ c d v a w, Q (.panic c) (Act.put a d v) w → Q (.panic c) a w) : ∀ (π : List (Nat × Bool)) (listed : Array Bool) (a : Act) (w : World),
    okOrder ops listed π = true → wpS P ops Q S (π.map fun x => (nthOp ops.toList x.1, x.2)) a w → wpAnyH P .any ops Q S π.length listed a w := by
  intro π
  induction π with
  | nil =>
    intro listed a w ho h
    simp only [okOrder, List.isEmpty_iff] at ho
    exact wpAnyH_done ho h _
  | cons x r ih =>
    obtain ⟨i, b⟩ := x
    intro listed a w ho h
    cases b with
    | true =>
      simp only [okOrder, Bool.and_eq_true] at ho
      obtain ⟨⟨hf, hr⟩, ho⟩ := ho
      obtain ⟨v, hy, hS, hrest⟩ := h
      have hlt : i < ops.size := ready_lt (by simpa using hr)
      have hi : ops[i]? = some (nthOp ops.toList i) := by
        have := nthOp_get ops.toList i (by simpa using hlt)
        simpa using this
      exact wpAnyH_take hi hs hf hr (fun c a w h => hQ c _ _ a w h) hy hS (ih _ _ _ ho hrest)
    | false =>
      simp only [okOrder, Bool.and_eq_true, beq_iff_eq] at ho
      obtain ⟨hr, ho⟩ := ho
      have hlt : i < ops.size := ready_lt (by rw [hr]; exact List.mem_singleton.2 rfl)
      have hi : ops[i]? = some (nthOp ops.toList i) := by
        have := nthOp_get ops.toList i (by simpa using hlt)
        simpa using this
      refine wpAnyH_all hr (by simp) (fun j hj => ?_)
      rw [List.mem_singleton] at hj
      subst hj
      have h' := h (Exit.then (fun a w => S w ∧ wpAnyH P .any ops Q S r.length (listed.setIfInBounds j true) a w) Q) (fun a w hS hh => ⟨hS, ih _ _ _ ho hh⟩)
      unfold wpOp
      rw [hi]
      simp only [wpList] at h'
      show if _ then _ else _
      split
      · rename_i hw
        rw [if_pos hw] at h'
        rcases h' with h' | ⟨h1, h2⟩
        · exact .inl (wp_exit (fun _ _ _ h => h) (fun _ _ h => h) h')
        · exact .inr ⟨h1, h2⟩
      · rename_i hw
        rw [if_neg hw] at h'
        exact h'

/-- A region that draws its order, walked in an order of ours, beside S. -/
theorem wp_region_s {P : Program} {id : Nat} {ops : Array Oper} {Q : Exit → Act → World → Prop} {a : Act} {w : World} (S : World → Prop) (π : List (Nat × Bool))
    (hm : (P.follows .mixedOrders && Region.noSelect ops && (π.length == ops.size) && okOrder ops (Array.replicate ops.size false) π) = true)
    (hQ : ∀ c d v a w, Q (.panic c) (Act.put a d v) w → Q (.panic c) a w)
    (h : wpS P ops Q S (π.map fun x => (nthOp ops.toList x.1, x.2)) a w.drew) : (Code.region id ops true).wp P Q a w := by
  simp only [Bool.and_eq_true, beq_iff_eq] at hm
  obtain ⟨⟨⟨h1, h2⟩, h3⟩, h4⟩ := hm
  refine wp_region_held (S := S) h1 ?_
  rw [← h3]
  exact wpAny_s h2 hQ π _ a _ (by rw [h3]; exact h4) h

theorem wpS_nil {P : Program} {ops : Array Oper} {Q : Exit → Act → World → Prop} {S : World → Prop} {a : Act} {w : World} (h : Q .normal a w) : wpS P ops Q S [] a w := h
theorem wpS_take {P : Program} {ops : Array Oper} {Q : Exit → Act → World → Prop} {S : World → Prop} {o : Oper} {r : List (Oper × Bool)} {a : Act} {w : World} {v : Value}
    (hS : Hid (S w)) (hw : Region.wanted o (yielded ops a.tmps) = true) (hv : ∀ w, S w → (execOp a.eval o).run P w = .ok (.value v) w) (h : wpS P ops Q S r (a.put o.dst v) w) : wpS P ops Q S ((o, true) :: r) a w := ⟨v, .inl ⟨hw, hv⟩, hS, h⟩
theorem wpS_skip {P : Program} {ops : Array Oper} {Q : Exit → Act → World → Prop} {S : World → Prop} {o : Oper} {r : List (Oper × Bool)} {a : Act} {w : World}
    (hS : Hid (S w)) (hw : Region.wanted o (yielded ops a.tmps) = false) (h : wpS P ops Q S r (a.put o.dst undef) w) : wpS P ops Q S ((o, true) :: r) a w := ⟨undef, .inr ⟨hw, rfl⟩, hS, h⟩
theorem wpS_do {P : Program} {ops : Array Oper} {Q : Exit → Act → World → Prop} {S : World → Prop} {o : Oper} {r : List (Oper × Bool)} {a : Act} {w : World}
    (h : ∀ K : Exit → Act → World → Prop, Hid (∀ a w, S w → wpS P ops Q S r a w → K .normal a w) → wpList P ops K [o] a w) : wpS P ops Q S ((o, false) :: r) a w := fun Q' hQ' => h Q' hQ'
end Go.Proofs.YtpncbggjngamgaaGreatDoor
namespace Go.Proofs.YtpncbggjngamgaaGreatDoor
set_option linter.unusedVariables false
open Go.RowKit

/-- In every world that meets S the operation leaves v and nothing else: by itself, or by a call that only reads. -/
def YieldsQ (P : Program) (ops : Array Oper) (S : World → Prop) (o : Oper) (v : Value) (a : Act) : Prop :=
  (Region.wanted o (yielded ops a.tmps) = true ∧ ∀ w, S w → (execOp a.eval o).run P w = .ok (.value v) w ∨
    ∃ f args, (execOp a.eval o).run P w = .ok (.enter f args) w ∧ Calls P f args w (fun e w' => e = .returned v ∧ w = w')) ∨
  (Region.wanted o (yielded ops a.tmps) = false ∧ v = undef)

section
variable {P : Program} {ops : Array Oper} {S : World → Prop} {Q : Exit → Act → World → Prop}
theorem YieldsQ.wpOp {i : Nat} {o : Oper} {v : Value} {a : Act} (hi : ops[i]? = some o) (hy : YieldsQ P ops S o v a) {K : Act → World → Prop} {w : World} (hS : S w) (h : K (a.put o.dst v) w) : wpOp P ops Q i K a w := by
  unfold Go.wpOp
  rw [hi]
  show if _ then _ else _
  rcases hy with ⟨hw, hv⟩ | ⟨hw, rfl⟩
  · rw [if_pos hw]
    refine .inl ?_
    unfold Oper.wp
    rcases hv w hS with hv | ⟨f, args, hv, hc⟩
    · rw [hv]; exact h
    · rw [hv]
      refine hc.mono ?_
      rintro e w' ⟨rfl, rfl⟩
      exact h
  · rw [if_neg (by rw [hw]; decide)]
    exact h
theorem YieldsQ.same {o : Oper} {v : Value} {a a' : Act} (hy : YieldsQ P ops S o v a) (he : execOp a'.eval o = execOp a.eval o) (hw : Region.wanted o (yielded ops a'.tmps) = Region.wanted o (yielded ops a.tmps)) : YieldsQ P ops S o v a' := by
  unfold YieldsQ at *
  rw [he, hw]
  exact hy
/-- The state behind an operation is the state ahead of it, its slot and the deferred calls aside. -/
theorem wpOp_tell {j : Nat} {o : Oper} {K : Act → World → Prop} {a : Act} {w : World} (hj : ops[j]? = some o) (h : wpOp P ops Q j K a w) :
    wpOp P ops Q j (fun a' w' => K a' w' ∧ ∃ ds u, a' = ({ a with defers := ds } : Act).put o.dst u) a w := by
  unfold wpOp at *
  rw [hj] at *
  revert h
  show (if _ then _ else _) → (if _ then _ else _)
  intro h
  split
  · rename_i hw
    rw [if_pos hw] at h
    rcases h with h | h
    · refine .inl ?_
      unfold Oper.wp at *
      generalize (execOp a.eval o).run P w = r at *
      cases r with
      | ok n w' =>
        cases n <;> simp only [Oper.upon] at h ⊢
        case value u => exact ⟨h, a.defers, u, rfl⟩
        case skip => exact ⟨h, a.defers, undef, rfl⟩
        case defer d => exact ⟨h, d :: a.defers, undef, rfl⟩
        case enter f args => exact h.mono (fun e w'' he => by cases e <;> first | exact ⟨he, a.defers, _, rfl⟩ | exact he)
        case row row args => exact h.mono fun u w'' he => ⟨he, a.defers, u, rfl⟩
      | halt x w' => cases x <;> simp only [Oper.upon] at h ⊢ <;> exact h
    · exact .inr h
  · rename_i hw
    rw [if_neg hw] at h
    exact ⟨h, a.defers, undef, rfl⟩

theorem act_defers (a : Act) (ds : List Deferred) (o : Oper) : execOp ({ a with defers := ds } : Act).eval o = execOp a.eval o := rfl

/-- An operation that yields so may be taken first. -/
theorem wpAnyQ_first {i : Nat} {oi : Oper} {v : Value} (hi : ops[i]? = some oi) (hsel : ∀ (j : Nat) (o : Oper) cs b, ops[j]? = some o → o.op ≠ .select cs b)
    (hQ : ∀ c a w, Q (.panic c) (a.put oi.dst v) w → Q (.panic c) a w) :
    ∀ (fuel : Nat) (listed : Array Bool) (a : Act) (w : World), Region.free .any ops listed i = true → i ∈ Region.ready .any ops listed → YieldsQ P ops S oi v a → S w →
      wpAnyH P .any ops Q S fuel (listed.setIfInBounds i true) (a.put oi.dst v) w → wpAnyH P .any ops Q S (fuel + 1) listed a w := by
  intro fuel
  induction fuel with
  | zero =>
    intro listed a w hf hr hy hS H
    refine ⟨fun h => (by rw [h] at hr; cases hr), fun j hj => ?_⟩
    rcases Decidable.em (j = i) with e | e
    · rw [e]; exact hy.wpOp hi hS ⟨hS, H⟩
    · have := ready_mono hj e
      rw [H.1] at this
      cases this
  | succ fuel ih =>
    intro listed a w hf hr hy hS H
    refine ⟨fun h => (by rw [h] at hr; cases hr), fun j hj => ?_⟩
    rcases Decidable.em (j = i) with e | e
    · rw [e]; exact hy.wpOp hi hS ⟨hS, H⟩
    obtain ⟨hjun, oj, hoj, hall⟩ := mem_ready.1 hj
    have hiun := (mem_ready.1 hr).1
    have hno : ∀ x ∈ oj.after, Region.binds .any x = true → x.on ≠ i := fun x hx hb he => by
      have h1 := hall x hx hb
      rw [he] at h1
      rcases Nat.lt_or_ge i listed.size with h' | h'
      · simp [h'] at hiun h1
        rw [hiun] at h1
        cases h1
      · simp [Array.getElem?_eq_none h'] at h1
    have hap := Region.free_spec hi hf j oj hoj e hjun hno
    -- the value of 'oi' laid in ahead makes no odds to 'oj'
    have hfalse : YieldsIf P ops (fun _ => False) oi v a := by
      rcases hy with ⟨h1, _⟩ | h1
      · exact .inl ⟨h1, fun _ h => h.elim⟩
      · exact .inr h1
    have h2 := wpOp_tell hoj (wpOp_putIf hoj hap (fun cs b => hsel i oi cs b hi) (fun cs b => hsel j oj cs b hoj) hQ hfalse (H.2 j (ready_mono hj e)))
    refine wpOp_mono (fun a' w' h3 => ?_) h2
    obtain ⟨⟨_, hS', h3⟩, ds, u, rfl⟩ := h3
    refine ⟨hS', ih (listed.setIfInBounds j true) _ w' ?_ (ready_mono hr (Ne.symm e)) ?_ hS' ?_⟩
    · -- free still
      unfold Region.free at hf ⊢
      rw [hi] at hf ⊢
      simp only [List.all_eq_true, List.mem_range] at hf ⊢
      intro k hk
      have := hf k hk
      simp only [Bool.or_eq_true] at this ⊢
      rcases this with (h | h) | h
      · exact .inl (.inl h)
      · refine .inl (.inr ?_)
        by_cases hjk : j = k
        · subst hjk
          rw [hjun] at h
          cases h
        · rw [getD_set_ne true hjk]; exact h
      · exact .inr h
    · have h3' := (Oper.apart_spec hap).2.2
      refine hy.same ?_ ?_
      · rw [execOp_put oi (fun cs b => hsel i oi cs b hi) _ oj.dst u h3', act_defers]
      · rw [wanted_put oi _ oj.dst u h3']
    · rw [Array.setIfInBounds_comm _ _ e]
      exact h3

inductive RStep where
  | take (i : Nat)
  | one (i : Nat)
  | two (i j : Nat)
inductive RNode where
  | take (o : Oper)
  | one (o : Oper)
  | two (o o' : Oper)
def RStep.node (l : List Oper) : RStep → RNode
  | .take i => .take (nthOp l i)
  | .one i => .one (nthOp l i)
  | .two i j => .two (nthOp l i) (nthOp l j)
def RStep.count : RStep → Nat
  | .two _ _ => 2
  | _ => 1
def okSteps (ops : Array Oper) : Array Bool → List RStep → Bool
  | listed, [] => (Region.ready .any ops listed).isEmpty
  | listed, .take i :: r => Region.free .any ops listed i && (Region.ready .any ops listed).contains i && okSteps ops (listed.setIfInBounds i true) r
  | listed, .one i :: r => (Region.ready .any ops listed == [i]) && okSteps ops (listed.setIfInBounds i true) r
  | listed, .two i j :: r => (Region.ready .any ops listed == [i, j]) && (i != j) && (Region.ready .any ops (listed.setIfInBounds i true) == [j]) && (Region.ready .any ops (listed.setIfInBounds j true) == [i]) && okSteps ops ((listed.setIfInBounds i true).setIfInBounds j true) r

def wpR (P : Program) (ops : Array Oper) (Q : Exit → Act → World → Prop) (S : World → Prop) : List RNode → Act → World → Prop
  | [], a, w => Q .normal a w
  | .take o :: r, a, w => ∃ v, YieldsQ P ops S o v a ∧ S w ∧ wpR P ops Q S r (a.put o.dst v) w
  | .one o :: r, a, w => ∀ Q' : Exit → Act → World → Prop, (∀ a w, S w → wpR P ops Q S r a w → Q' .normal a w) → wpList P ops Q' [o] a w
  | .two o o' :: r, a, w => ∀ Q' Q1 Q2 : Exit → Act → World → Prop, (∀ a w, S w → wpR P ops Q S r a w → Q' .normal a w) →
      (∀ a w, S w → wpList P ops Q' [o'] a w → Q1 .normal a w) → (∀ a w, S w → wpList P ops Q' [o] a w → Q2 .normal a w) → wpList P ops Q1 [o] a w ∧ wpList P ops Q2 [o'] a w

/-- One operation walked as a list of its own. -/
theorem wpOp_of_list {i : Nat} {o : Oper} {a : Act} {w : World} {K : Act → World → Prop} (hi : ops[i]? = some o) (h : wpList P ops (Exit.then K Q) [o] a w) : wpOp P ops Q i K a w := by
  unfold wpOp
  rw [hi]
  simp only [wpList] at h
  show if _ then _ else _
  split
  · rename_i hw
    rw [if_pos hw] at h
    rcases h with h | ⟨h1, h2⟩
    · exact .inl (wp_exit (fun _ _ _ h => h) (fun _ _ h => h) h)
    · exact .inr ⟨h1, h2⟩
  · rename_i hw
    rw [if_neg hw] at h
    exact h

theorem wpAny_r (hs : Region.noSelect ops = true) (hQ : ∀ c d v a w, Q (.panic c) (Act.put a d v) w → Q (.panic c) a w) : ∀ (π : List RStep) (listed : Array Bool) (a : Act) (w : World),
    okSteps ops listed π = true → wpR P ops Q S (π.map (RStep.node ops.toList)) a w → wpAnyH P .any ops Q S (π.map RStep.count).sum listed a w := by
  have get : ∀ i, i < ops.size → ops[i]? = some (nthOp ops.toList i) := fun i hlt => by
    have := nthOp_get ops.toList i (by simpa using hlt)
    simpa using this
  intro π
  induction π with
  | nil =>
    intro listed a w ho h
    simp only [okSteps, List.isEmpty_iff] at ho
    exact wpAnyH_done ho h _
  | cons x r ih =>
    intro listed a w ho h
    cases x with
    | take i =>
      simp only [okSteps, Bool.and_eq_true] at ho
      obtain ⟨⟨hf, hr⟩, ho⟩ := ho
      obtain ⟨v, hy, hS, hrest⟩ := h
      have hi := get i (ready_lt (by simpa using hr))
      show wpAnyH P .any ops Q S (1 + (r.map RStep.count).sum) listed a w
      rw [Nat.add_comm]
      exact wpAnyQ_first hi (Region.noSelect_spec hs) (fun c a w h => hQ c _ _ a w h) _ listed a w hf (by simpa using hr) hy hS (ih _ _ _ ho hrest)
    | one i =>
      simp only [okSteps, Bool.and_eq_true, beq_iff_eq] at ho
      obtain ⟨hr, ho⟩ := ho
      have hi := get i (ready_lt (by rw [hr]; exact List.mem_singleton.2 rfl))
      show wpAnyH P .any ops Q S (1 + (r.map RStep.count).sum) listed a w
      rw [Nat.add_comm]
      refine wpAnyH_all hr (by simp) (fun j hj => ?_)
      rw [List.mem_singleton] at hj
      subst hj
      exact wpOp_of_list hi (h _ (fun a w hS hh => ⟨hS, ih _ _ _ ho hh⟩))
    | two i j =>
      simp only [okSteps, Bool.and_eq_true, beq_iff_eq, bne_iff_ne] at ho
      obtain ⟨⟨⟨⟨hr, hne⟩, hr1⟩, hr2⟩, ho⟩ := ho
      have hi := get i (ready_lt (by rw [hr]; simp))
      have hj := get j (ready_lt (by rw [hr]; simp))
      show wpAnyH P .any ops Q S (2 + (r.map RStep.count).sum) listed a w
      rw [show 2 + (r.map RStep.count).sum = (r.map RStep.count).sum + 1 + 1 from by omega]
      have hh := h (Exit.then (fun a w => S w ∧ wpAnyH P .any ops Q S (r.map RStep.count).sum ((listed.setIfInBounds i true).setIfInBounds j true) a w) Q)
        (Exit.then (fun a w => S w ∧ wpAnyH P .any ops Q S ((r.map RStep.count).sum + 1) (listed.setIfInBounds i true) a w) Q)
        (Exit.then (fun a w => S w ∧ wpAnyH P .any ops Q S ((r.map RStep.count).sum + 1) (listed.setIfInBounds j true) a w) Q)
        (fun a w hS hh => ⟨hS, ih _ _ _ ho hh⟩)
        (fun a w hS hh => ⟨hS, wpAnyH_all hr1 (by simp) (fun k hk => by
          rw [List.mem_singleton] at hk
          subst hk
          exact wpOp_of_list hj hh)⟩)
        (fun a w hS hh => ⟨hS, wpAnyH_all hr2 (by simp) (fun k hk => by
          rw [List.mem_singleton] at hk
          subst hk
          rw [Array.setIfInBounds_comm _ _ (Ne.symm hne)]
          exact wpOp_of_list hi hh)⟩)
      refine wpAnyH_all hr (by simp) (fun k hk => ?_)
      simp only [List.mem_cons, List.not_mem_nil, or_false] at hk
      rcases hk with rfl | rfl
      · exact wpOp_of_list hi hh.1
      · exact wpOp_of_list hj hh.2

/-- A region that draws its order, walked step by step, beside S. -/
theorem wp_region_r {id : Nat} {a : Act} {w : World} (S : World → Prop) (π : List RStep)
    (hm : (P.follows .mixedOrders && Region.noSelect ops && ((π.map RStep.count).sum == ops.size) && okSteps ops (Array.replicate ops.size false) π) = true)
    (hQ : ∀ c d v a w, Q (.panic c) (Act.put a d v) w → Q (.panic c) a w)
    (h : wpR P ops Q S (π.map (RStep.node ops.toList)) a w.drew) : (Code.region id ops true).wp P Q a w := by
  simp only [Bool.and_eq_true, beq_iff_eq] at hm
  obtain ⟨⟨⟨h1, h2⟩, h3⟩, h4⟩ := hm
  refine wp_region_held (S := S) h1 ?_
  rw [← h3]
  exact wpAny_r h2 hQ π _ a _ (by rw [h3]; exact h4) h

variable {r : List RNode} {o o' : Oper} {a : Act} {w : World} {v : Value}
theorem wpR_nil (h : Q .normal a w) : wpR P ops Q S [] a w := h
theorem wpR_take (hS : Hid (S w)) (hw : Region.wanted o (yielded ops a.tmps) = true) (hv : ∀ w, S w → (execOp a.eval o).run P w = .ok (.value v) w) (h : wpR P ops Q S r (a.put o.dst v) w) : wpR P ops Q S (.take o :: r) a w :=
  ⟨v, .inl ⟨hw, fun w hS => .inl (hv w hS)⟩, hS, h⟩
theorem wpR_call (hS : Hid (S w)) (hw : Region.wanted o (yielded ops a.tmps) = true) {f : FuncId} {args : Array Value} (hv : ∀ w, S w → (execOp a.eval o).run P w = .ok (.enter f args) w)
    (hc : ∀ w, S w → Calls P f args w (fun e w' => e = .returned v ∧ w = w')) (h : wpR P ops Q S r (a.put o.dst v) w) : wpR P ops Q S (.take o :: r) a w :=
  ⟨v, .inl ⟨hw, fun w hS => .inr ⟨f, args, hv w hS, hc w hS⟩⟩, hS, h⟩
theorem wpR_skip (hS : Hid (S w)) (hw : Region.wanted o (yielded ops a.tmps) = false) (h : wpR P ops Q S r (a.put o.dst undef) w) : wpR P ops Q S (.take o :: r) a w := ⟨undef, .inr ⟨hw, rfl⟩, hS, h⟩
theorem wpR_do (h : ∀ K : Exit → Act → World → Prop, Hid (∀ a w, S w → wpR P ops Q S r a w → K .normal a w) → wpList P ops K [o] a w) : wpR P ops Q S (.one o :: r) a w := fun Q' hQ' => h Q' hQ'
theorem wpR_two (h1 : ∀ K K1 : Exit → Act → World → Prop, Hid (∀ a w, S w → wpR P ops Q S r a w → K .normal a w) → Hid (∀ a w, S w → wpList P ops K [o'] a w → K1 .normal a w) → wpList P ops K1 [o] a w)
    (h2 : ∀ K K1 : Exit → Act → World → Prop, Hid (∀ a w, S w → wpR P ops Q S r a w → K .normal a w) → Hid (∀ a w, S w → wpList P ops K [o] a w → K1 .normal a w) → wpList P ops K1 [o'] a w) : wpR P ops Q S (.two o o' :: r) a w :=
  fun Q' Q1 Q2 h h3 h4 => ⟨h1 Q' Q1 h h3, h2 Q' Q2 h h4⟩
end
end Go.Proofs.YtpncbggjngamgaaGreatDoor
namespace Go.Proofs.YtpncbggjngamgaaGreatDoor
set_option linter.unusedVariables false
open Go.RowKit

inductive TStep where
  | nil
  | take (i : Nat) (r : TStep)
  | one (i : Nat) (r : TStep)
  | fork (i j : Nat) (r r' : TStep)
inductive TNode where
  | nil
  | take (o : Oper) (r : TNode)
  | one (o : Oper) (r : TNode)
  | fork (o o' : Oper) (r r' : TNode)
def TStep.node (l : List Oper) : TStep → TNode
  | .nil => .nil
  | .take i r => .take (nthOp l i) (r.node l)
  | .one i r => .one (nthOp l i) (r.node l)
  | .fork i j r r' => .fork (nthOp l i) (nthOp l j) (r.node l) (r'.node l)
def TStep.count : TStep → Nat
  | .nil => 0
  | .take _ r => r.count + 1
  | .one _ r => r.count + 1
  | .fork _ _ r _ => r.count + 1
def TStep.ok (ops : Array Oper) : Array Bool → TStep → Bool
  | listed, .nil => (Region.ready .any ops listed).isEmpty
  | listed, .take i r => Region.free .any ops listed i && (Region.ready .any ops listed).contains i && r.ok ops (listed.setIfInBounds i true)
  | listed, .one i r => (Region.ready .any ops listed == [i]) && r.ok ops (listed.setIfInBounds i true)
  | listed, .fork i j r r' => (Region.ready .any ops listed == [i, j]) && (r.count == r'.count) && r.ok ops (listed.setIfInBounds i true) && r'.ok ops (listed.setIfInBounds j true)

section
variable {P : Program} {ops : Array Oper} {S : World → Prop} {Q : Exit → Act → World → Prop}
def wpT (P : Program) (ops : Array Oper) (Q : Exit → Act → World → Prop) (S : World → Prop) : TNode → Act → World → Prop
  | .nil, a, w => Q .normal a w
  | .take o r, a, w => ∃ v, YieldsQ P ops S o v a ∧ S w ∧ wpT P ops Q S r (a.put o.dst v) w
  | .one o r, a, w => ∀ Q' : Exit → Act → World → Prop, (∀ a w, S w → wpT P ops Q S r a w → Q' .normal a w) → wpList P ops Q' [o] a w
  | .fork o o' r r', a, w => (∀ Q' : Exit → Act → World → Prop, (∀ a w, S w → wpT P ops Q S r a w → Q' .normal a w) → wpList P ops Q' [o] a w) ∧
      (∀ Q' : Exit → Act → World → Prop, (∀ a w, S w → wpT P ops Q S r' a w → Q' .normal a w) → wpList P ops Q' [o'] a w)

theorem wpAny_t (hs : Region.noSelect ops = true) (hQ : ∀ c d v a w, Q (.panic c) (Act.put a d v) w → Q (.panic c) a w) : ∀ (π : TStep) (listed : Array Bool) (a : Act) (w : World),
    π.ok ops listed = true → wpT P ops Q S (π.node ops.toList) a w → wpAnyH P .any ops Q S π.count listed a w := by
  have get : ∀ i, i < ops.size → ops[i]? = some (nthOp ops.toList i) := fun i hlt => by
    have := nthOp_get ops.toList i (by simpa using hlt)
    simpa using this
  intro π
  induction π with
  | nil =>
    intro listed a w ho h
    simp only [TStep.ok, List.isEmpty_iff] at ho
    exact wpAnyH_done ho h _
  | take i r ih =>
    intro listed a w ho h
    simp only [TStep.ok, Bool.and_eq_true] at ho
    obtain ⟨⟨hf, hr⟩, ho⟩ := ho
    obtain ⟨v, hy, hS, hrest⟩ := h
    have hi := get i (ready_lt (by simpa using hr))
    exact wpAnyQ_first hi (Region.noSelect_spec hs) (fun c a w h => hQ c _ _ a w h) _ listed a w hf (by simpa using hr) hy hS (ih _ _ _ ho hrest)
  | one i r ih =>
    intro listed a w ho h
    simp only [TStep.ok, Bool.and_eq_true, beq_iff_eq] at ho
    obtain ⟨hr, ho⟩ := ho
    have hi := get i (ready_lt (by rw [hr]; exact List.mem_singleton.2 rfl))
    refine wpAnyH_all hr (by simp) (fun j hj => ?_)
    rw [List.mem_singleton] at hj
    subst hj
    exact wpOp_of_list hi (h _ (fun a w hS hh => ⟨hS, ih _ _ _ ho hh⟩))
  | fork i j r r' ih ih' =>
    intro listed a w ho h
    simp only [TStep.ok, Bool.and_eq_true, beq_iff_eq] at ho
    obtain ⟨⟨⟨hr, hc⟩, ho⟩, ho'⟩ := ho
    have hi := get i (ready_lt (by rw [hr]; simp))
    have hj := get j (ready_lt (by rw [hr]; simp))
    refine wpAnyH_all hr (by simp) (fun k hk => ?_)
    simp only [List.mem_cons, List.not_mem_nil, or_false] at hk
    rcases hk with rfl | rfl
    · exact wpOp_of_list hi (h.1 _ (fun a w hS hh => ⟨hS, ih _ _ _ ho hh⟩))
    · exact wpOp_of_list hj (h.2 _ (fun a w hS hh => ⟨hS, by rw [hc]; exact ih' _ _ _ ho' hh⟩))

/-- A region that draws its order, walked along a tree, beside S. -/
theorem wp_region_t {id : Nat} {a : Act} {w : World} (S : World → Prop) (π : TStep)
    (hm : (P.follows .mixedOrders && Region.noSelect ops && (π.count == ops.size) && π.ok ops (Array.replicate ops.size false)) = true)
    (hQ : ∀ c d v a w, Q (.panic c) (Act.put a d v) w → Q (.panic c) a w)
    (h : wpT P ops Q S (π.node ops.toList) a w.drew) : (Code.region id ops true).wp P Q a w := by
  simp only [Bool.and_eq_true, beq_iff_eq] at hm
  obtain ⟨⟨⟨h1, h2⟩, h3⟩, h4⟩ := hm
  refine wp_region_held (S := S) h1 ?_
  rw [← h3]
  exact wpAny_t h2 hQ π _ a _ (by rw [h3]; exact h4) h

variable {r r' : TNode} {o o' : Oper} {a : Act} {w : World} {v : Value}
theorem wpT_nil (h : Q .normal a w) : wpT P ops Q S .nil a w := h
theorem wpT_take (hS : Hid (S w)) (hw : Region.wanted o (yielded ops a.tmps) = true) (hv : ∀ w, S w → (execOp a.eval o).run P w = .ok (.value v) w) (h : wpT P ops Q S r (a.put o.dst v) w) : wpT P ops Q S (.take o r) a w :=
  ⟨v, .inl ⟨hw, fun w hS => .inl (hv w hS)⟩, hS, h⟩
theorem wpT_call (hS : Hid (S w)) (hw : Region.wanted o (yielded ops a.tmps) = true) {f : FuncId} {args : Array Value} (hv : ∀ w, S w → (execOp a.eval o).run P w = .ok (.enter f args) w)
    (hc : ∀ w, S w → Calls P f args w (fun e w' => e = .returned v ∧ w = w')) (h : wpT P ops Q S r (a.put o.dst v) w) : wpT P ops Q S (.take o r) a w :=
  ⟨v, .inl ⟨hw, fun w hS => .inr ⟨f, args, hv w hS, hc w hS⟩⟩, hS, h⟩
theorem wpT_do (h : ∀ K : Exit → Act → World → Prop, Hid (∀ a w, S w → wpT P ops Q S r a w → K .normal a w) → wpList P ops K [o] a w) : wpT P ops Q S (.one o r) a w := fun Q' hQ' => h Q' hQ'
theorem wpT_fork (h1 : ∀ K : Exit → Act → World → Prop, Hid (∀ a w, S w → wpT P ops Q S r a w → K .normal a w) → wpList P ops K [o] a w)
    (h2 : ∀ K : Exit → Act → World → Prop, Hid (∀ a w, S w → wpT P ops Q S r' a w → K .normal a w) → wpList P ops K [o'] a w) : wpT P ops Q S (.fork o o' r r') a w := ⟨fun Q' h => h1 Q' h, fun Q' h => h2 Q' h⟩
end
end Go.Proofs.YtpncbggjngamgaaGreatDoor
namespace Go.Proofs.YtpncbggjngamgaaGreatDoor
set_option linter.unusedVariables false
open Go.ChangeShapes Go.WideShapes Go.RowKit

theorem choose_list {α : Type} {P : Nat → α → Prop} : ∀ n, (∀ i, i < n → ∃ a, P i a) → ∃ L : List α, L.length = n ∧ ∀ i a, L[i]? = some a → P i a := by
  intro n
  induction n with
  | zero => exact fun _ => ⟨[], rfl, by simp⟩
  | succ n ih =>
    intro h
    obtain ⟨L, hl, hL⟩ := ih fun i hi => h i (by omega)
    obtain ⟨a, ha⟩ := h n (by omega)
    refine ⟨L ++ [a], by simp [hl], fun i b hb => ?_⟩
    rcases Nat.lt_or_ge i n with hi | hi
    · rw [List.getElem?_append_left (by omega)] at hb
      exact hL i b hb
    · rw [List.getElem?_append_right (by omega), hl] at hb
      have : i - n = 0 := by
        have := (List.getElem?_eq_some_iff.1 hb).1
        simp at this; omega
      rw [this] at hb
      simp at hb
      obtain rfl : i = n := by omega
      subst hb
      exact ha
section
variable {α : Type} {cs : α → List Value} {k : Nat}
theorem flatG_inv (hk : ∀ a, (cs a).length = k) (L : List α) : ∀ (j : Nat) (u : Value), (L.flatMap cs)[j]? = some u → ∃ i r a, j = i * k + r ∧ r < k ∧ L[i]? = some a ∧ (cs a)[r]? = some u := by
  induction L with
  | nil => intro j u h; simp at h
  | cons a L ih =>
    intro j u h
    rw [List.flatMap_cons] at h
    have h7 := hk a
    rcases Nat.lt_or_ge j k with hj | hj
    · rw [List.getElem?_append_left (by omega)] at h
      exact ⟨0, j, a, by omega, hj, rfl, h⟩
    · rw [List.getElem?_append_right (by omega), h7] at h
      obtain ⟨i, r, b, e, hr, hb, hu⟩ := ih _ u h
      exact ⟨i + 1, r, b, by rw [Nat.add_mul]; omega, hr, by simpa using hb, hu⟩
theorem flatG_len (hk : ∀ a, (cs a).length = k) (L : List α) : (L.flatMap cs).length = L.length * k := by
  induction L with
  | nil => simp
  | cons a L ih => rw [List.flatMap_cons, List.length_append, ih, List.length_cons, hk a, Nat.add_mul]; omega
theorem flatG_get (hk : ∀ a, (cs a).length = k) (L : List α) (i j : Nat) (a : α) (u : Value) (ha : L[i]? = some a) (hu : (cs a)[j]? = some u) : (L.flatMap cs)[i * k + j]? = some u := by
  have hj : j < k := by have := (List.getElem?_eq_some_iff.1 hu).1; rw [hk] at this; exact this
  induction L generalizing i with
  | nil => simp at ha
  | cons b r ih =>
    rw [List.flatMap_cons]
    have hb := hk b
    cases i with
    | zero =>
      simp at ha; subst ha
      rw [Nat.zero_mul, Nat.zero_add, List.getElem?_append_left (by omega)]
      exact hu
    | succ i =>
      simp at ha
      rw [Nat.add_mul, List.getElem?_append_right (by omega)]
      have : i * k + 1 * k + j - (cs b).length = i * k + j := by omega
      rw [this]
      exact ih i ha
theorem flatG_one (h1 : ∀ a, ∀ u ∈ cs a, u.oneCell' = true) (L : List α) : ∀ u ∈ L.flatMap cs, u.oneCell' = true := by
  intro u hu
  obtain ⟨a, _, h⟩ := List.mem_flatMap.1 hu
  exact h1 a u h
end
theorem add_litG (ad : Addr) (x j : Nat) (hj : 0 < j) : ad.add (x + j) = ⟨(ad.add x).block, (ad.add x).off + j, none⟩ := by
  unfold Addr.add
  by_cases h : x = 0
  · subst h; simp; omega
  · rw [if_neg (by omega), if_neg h]; simp [Nat.add_assoc]
/-- The cells of item i of a row. -/
theorem rowG_at {α : Type} {cs : α → List Value} {k : Nat} (hk : ∀ a, (cs a).length = k) {w : World} {B n i : Nat} {A : Option Addr} {L : List α} (h : Reads w B k A n (L.flatMap cs)) (hl : L.length = n) (hi : i < n) :
    ∃ ad a, A = some ad ∧ ad.block < B ∧ L[i]? = some a ∧ (∀ u, (cs a)[0]? = some u → w.cell? (ad.add (i * k)) = some u) ∧ ∀ j u, 0 < j → (cs a)[j]? = some u → w.cell? ⟨(ad.add (i * k)).block, (ad.add (i * k)).off + j, none⟩ = some u := by
  obtain ⟨ad, e, hb, hc⟩ := h.2 (by omega)
  have hil : i < L.length := by omega
  refine ⟨ad, L[i], e, hb, List.getElem?_eq_getElem hil, fun u hu => ?_, fun j u hj hu => ?_⟩
  · have := hc _ _ (flatG_get hk L i 0 _ u (List.getElem?_eq_getElem hil) hu)
    simpa using this
  · have := hc _ _ (flatG_get hk L i j _ u (List.getElem?_eq_getElem hil) hu)
    rwa [add_litG ad _ j hj] at this
theorem weightsAll_mem {H : Type} {P : Program} {e : TypeId} : ∀ {l : List (DataW H)} {d : DataW H}, d ∈ l → ∀ n ∈ d.weights P e, n ∈ DataW.weightsAll P e l
  | d' :: r, d, hd, n, hn => by
    simp only [DataW.weightsAll, List.mem_append]
    rcases List.mem_cons.1 hd with rfl | h
    · exact Or.inl hn
    · exact Or.inr (weightsAll_mem h n hn)
/-- A slice, opened: its items, what each of them is, and what it weighs. -/
theorem slice_open {H : Type} {enc : TypeId × Value → H} {P : Program} {w : World} {held : Bool} {t e : TypeId} {α : Type} {cs : α → List Value} {k : Nat} {Ok Wt : α → Prop} (hk : ∀ a, (cs a).length = k) (hpos : 0 < k)
    (ht : P.underlying t = some (.slice e)) (hC : P.cellsOf e = k)
    (hel : ∀ fuel (l : List Value) x, DataW.trod enc P w 0 (fun _ => true) held fuel e l = some x → ∃ a, l = cs a ∧ Ok a ∧ ((∀ N ∈ x.1.weights P e, N ≤ reachBytes) → Wt a))
    {fuel : Nat} {v : Value} {x : DataW H × List MemPlace} (hf : DataW.trod enc P w 0 (fun _ => true) held fuel t [v] = some x) :
    ∃ (A : Option Addr) (n c : Nat) (L : List α), v = .slice A n c ∧ Reads w w.heap.size k A n (L.flatMap cs) ∧ L.length = n ∧ (∀ a ∈ L, Ok a) ∧ n ≤ c ∧ c ≤ 9223372036854775807 ∧
      ((∀ N ∈ x.1.weights P t, N ≤ reachBytes) → (∀ a ∈ L, Wt a) ∧ n * P.bytesOf e ≤ reachBytes) := by
  rcases DataW.trod_slice ht hf with ⟨e1, _⟩ | ⟨a, len, cap, elems, rest, fu, _, e1, hxx, _, hlc, hm, hlen, hel', _⟩
  · simp at e1
    subst e1
    exact ⟨none, 0, 0, [], rfl, ⟨by simp, fun h => absurd h (by omega)⟩, rfl, by simp, Nat.le_refl _, by omega, fun _ => ⟨by simp, by simp⟩⟩
  · simp at e1
    subst e1
    rw [hC] at hel'
    have hkk : ∀ i, i < len → ∃ q : α, (∀ j, j < k → w.cell? (a.add (i * k + j)) = (cs q)[j]?) ∧ Ok q ∧ ((∀ N ∈ DataW.weightsAll P e (elems.map (·.1)), N ≤ reachBytes) → Wt q) := by
      intro i hi
      have h1 := hel' i hi
      rw [List.getElem?_eq_getElem (by omega)] at h1
      cases hcs : w.cells? 0 (a.add (i * k)) k with
      | none => rw [hcs] at h1; cases h1
      | some l =>
        rw [hcs] at h1
        obtain ⟨q, rfl, hok, hkw⟩ := hel _ _ _ h1
        refine ⟨q, fun j hj => ?_, hok, fun hw => hkw fun N hN => hw N (weightsAll_mem (List.mem_map.2 ⟨_, List.getElem_mem _, rfl⟩) N hN)⟩
        have := (World.cells?_some hcs).2.2 j hj
        rwa [add_of_add] at this
    obtain ⟨L, hL, hLk⟩ := choose_list len hkk
    refine ⟨some a, len, cap, L, rfl, ⟨by rw [flatG_len hk, hL], fun h0 => ⟨a, rfl, ?_, ?_⟩⟩, hL, ?_, hlc, hm, ?_⟩
    · obtain ⟨q, hk0, _⟩ := hkk 0 h0
      have := hk0 0 hpos
      rw [Nat.zero_mul, Nat.zero_add, List.getElem?_eq_getElem (by rw [hk]; exact hpos)] at this
      have := cell_lt this
      rwa [block_of_add] at this
    · intro j u hu
      obtain ⟨i, r, q, rfl, hr, hki, hku⟩ := flatG_inv hk L j u hu
      rw [(hLk i q hki).1 r hr]
      exact hku
    · intro q hq
      obtain ⟨i, hi⟩ := List.getElem?_of_mem hq
      exact (hLk i q hi).2.1
    · intro hw
      simp only at hxx
      subst hxx
      simp only [DataW.weights, ht, List.mem_cons, List.mem_append] at hw
      refine ⟨fun q hq => ?_, ?_⟩
      · obtain ⟨i, hi⟩ := List.getElem?_of_mem hq
        exact (hLk i q hi).2.2 fun N hN => hw N (.inr (.inl hN))
      · refine Nat.le_trans (Nat.mul_le_mul_right _ ?_) (hw _ (.inl rfl))
        rw [List.length_map, hlen]
        exact Nat.le_add_right _ _
/-- The same of an argument. -/
theorem slice_arg {H : Type} {enc : TypeId × Value → H} {P : Program} {w : World} {r : Reach} {b : Nat} {held : Bool} {t e : TypeId} {α : Type} {cs : α → List Value} {k : Nat} {Ok Wt : α → Prop} (hk : ∀ a, (cs a).length = k) (hpos : 0 < k)
    (ht : P.underlying t = some (.slice e)) (hC : P.cellsOf e = k)
    (hel : ∀ fuel (l : List Value) x, DataW.trod enc P w 0 (fun _ => true) held fuel e l = some x → ∃ a, l = cs a ∧ Ok a ∧ ((∀ N ∈ x.1.weights P e, N ≤ reachBytes) → Wt a))
    {v : Value} {d : DataW H} {p : List MemPlace} (hv : Value.okWide P w r b t v) (h : DataW.Trod enc P w 0 (fun _ => true) held t v d p) :
    ∃ (A : Option Addr) (n c : Nat) (L : List α), v = .slice A n c ∧ Reads w w.heap.size k A n (L.flatMap cs) ∧ L.length = n ∧ (∀ a ∈ L, Ok a) ∧ n ≤ c ∧ c ≤ 9223372036854775807 ∧
      ((∀ N ∈ d.weights P t, N ≤ reachBytes) → (∀ a ∈ L, Wt a) ∧ n * P.bytesOf e ≤ reachBytes) := by
  obtain ⟨A, n, c, rfl⟩ := okWide_slice ht hv
  obtain ⟨fuel, hf⟩ := h
  exact slice_open hk hpos ht hC hel hf
/-- Its bytes, opened. -/
theorem bytes_open {H : Type} {enc : TypeId × Value → H} {P : Program} {w : World} {held : Bool} {t e : TypeId} (ht : P.underlying t = some (.slice e)) (he : P.underlying e = some (.int .u8)) (hc : P.cellsOf e = 1) (hb : P.bytesOf e = 1)
    {fuel : Nat} {v : Value} {x : DataW H × List MemPlace} (h : DataW.trod enc P w 0 (fun _ => true) held fuel t [v] = some x) :
    ∃ (A : Option Addr) (n c : Nat) (zs : List Int), v = .slice A n c ∧ (Reads w w.heap.size 1 A n (u8s zs) ∧ Oct zs ∧ n ≤ c ∧ c ≤ 9223372036854775807) ∧ ((∀ N ∈ x.1.weights P t, N ≤ reachBytes) → c ≤ reachBytes) := by
  rcases open_ints ht he hc h with ⟨hcs, _⟩ | ⟨ax, l, c, zs, hcs, _, hl, hm, hz, hx, hcell, hwz⟩
  · injection hcs with hcs _; subst hcs
    exact ⟨none, 0, 0, [], rfl, isRow_u8 (zs := []) (.inl ⟨rfl, rfl, rfl, rfl⟩), fun _ => Nat.zero_le _⟩
  · injection hcs with hcs _; subst hcs
    have hzc : zs.length = c := by simpa using hz
    refine ⟨_, _, _, zs.take l, rfl, isRow_u8 (zs := zs) (.inr ⟨_, rfl, hl, hm, hzc, hcell, hwz⟩), fun hw => ?_⟩
    rw [hx] at hw
    exact hw c (by
      simp only [DataW.weights, ht, List.mem_cons]
      left
      rw [hb]
      simp [lits]
      omega)
end Go.Proofs.YtpncbggjngamgaaGreatDoor
namespace Go.Proofs.YtpncbggjngamgaaGreatDoor
set_option linter.unusedVariables false

theorem nat_or_add (a b k : Nat) (h : b < 2 ^ k) : a * 2 ^ k ||| b = a * 2 ^ k + b := by
  rw [Nat.mul_comm, Nat.two_pow_add_eq_or_of_lt h]
theorem u32_or_8 (x y : Int) (h0 : 0 ≤ x) (h1 : x ≤ 16777215) (h2 : 0 ≤ y) (h3 : y ≤ 255) : bits .or .u32 (x * 256) y = x * 256 + y := by
  rw [u32_or _ _ (by omega) (by omega) (by omega) (by omega)]
  obtain ⟨a, rfl⟩ := Int.eq_ofNat_of_zero_le h0
  obtain ⟨b, rfl⟩ := Int.eq_ofNat_of_zero_le h2
  have e : ((a : Int) * 256).toNat = a * 2 ^ 8 := by omega
  rw [e, Int.toNat_natCast, nat_or_add a b 8 (by omega)]
  omega
theorem u16_or_8 (x y : Int) (h0 : 0 ≤ x) (h1 : x ≤ 255) (h2 : 0 ≤ y) (h3 : y ≤ 255) : bits .or .u16 (x * 256) y = x * 256 + y := by
  rw [u16_or _ _ (by omega) (by omega) (by omega) (by omega)]
  obtain ⟨a, rfl⟩ := Int.eq_ofNat_of_zero_le h0
  obtain ⟨b, rfl⟩ := Int.eq_ofNat_of_zero_le h2
  have e : ((a : Int) * 256).toNat = a * 2 ^ 8 := by omega
  rw [e, Int.toNat_natCast, nat_or_add a b 8 (by omega)]
  omega
theorem u32_and_mask16 (x : Int) (h0 : 0 ≤ x) (h1 : x ≤ 4294967295) : bits .and .u32 x 65535 = x % 65536 := by
  rw [u32_and _ _ (by omega) (by omega) (by omega) (by omega)]
  obtain ⟨a, rfl⟩ := Int.eq_ofNat_of_zero_le h0
  have e : ((65535 : Int)).toNat = 2 ^ 16 - 1 := by omega
  rw [e, Int.toNat_natCast, Nat.and_two_pow_sub_one_eq_mod]
  omega
theorem ofInt_64 (a : Nat) (ha : a < 18446744073709551616) : (BitVec.ofInt 64 (a : Int)).toNat = a := by
  rw [BitVec.ofInt_natCast, BitVec.toNat_ofNat]; exact Nat.mod_eq_of_lt (by omega)
theorem i64_or_nat (a b : Nat) (ha : a < 9223372036854775808) (hb : b < 9223372036854775808) : bits .or .i64 (a : Int) (b : Int) = ((a ||| b : Nat) : Int) := by
  have hx : a ||| b < 2 ^ 63 := Nat.or_lt_two_pow (by omega) (by omega)
  show IntKind.i64.wrap ((BitVec.ofInt 64 (a : Int) ||| BitVec.ofInt 64 (b : Int)).toNat : Int) = _
  rw [BitVec.toNat_or, ofInt_64 a (by omega), ofInt_64 b (by omega), IntKind.wrap_i64]
  omega
theorem i64_or_8 (x y : Int) (h0 : 0 ≤ x) (h1 : x ≤ 16777215) (h2 : 0 ≤ y) (h3 : y ≤ 255) : bits .or .i64 (x * 256) y = x * 256 + y := by
  obtain ⟨a, rfl⟩ := Int.eq_ofNat_of_zero_le h0
  obtain ⟨b, rfl⟩ := Int.eq_ofNat_of_zero_le h2
  have e : ((a : Int) * 256) = ((a * 2 ^ 8 : Nat) : Int) := by omega
  rw [e, i64_or_nat _ _ (by omega) (by omega), nat_or_add a b 8 (by omega)]
  omega
theorem u16_and_mask8 (x : Int) (h0 : 0 ≤ x) (h1 : x ≤ 65535) : bits .and .u16 x 255 = x % 256 := by
  rw [u16_and _ _ (by omega) (by omega) (by omega) (by omega)]
  obtain ⟨a, rfl⟩ := Int.eq_ofNat_of_zero_le h0
  have e : ((255 : Int)).toNat = 2 ^ 8 - 1 := by omega
  rw [e, Int.toNat_natCast, Nat.and_two_pow_sub_one_eq_mod]
  omega
theorem u64_and_mask5 (n : Nat) (h : n ≤ 31) : bits .and .u64 (n : Int) 31 = (n : Int) := by
  rw [u64_and _ _ (by omega) (by omega) (by omega) (by omega)]
  have e : ((31 : Int)).toNat = 2 ^ 5 - 1 := by omega
  rw [e, Int.toNat_natCast, Nat.and_two_pow_sub_one_eq_mod]
  omega
end Go.Proofs.YtpncbggjngamgaaGreatDoor
namespace Go.Proofs.YtpncbggjngamgaaGreatDoor
set_option linter.unusedVariables false
open Go.RowKit

theorem u8s_nth_ne {xs ys : List Int} {k : Nat} {x y : Int} (h1 : Hid (xs[k]? = some x)) (h2 : Hid (ys[k]? = some y)) (h : x ≠ y) : xs ≠ ys := by
  rintro rfl
  have a := h1.out
  have b := h2.out
  rw [a] at b
  exact h (by injection b)
theorem take_snoc2 {xs ys : List Int} {k : Nat} {x y : Int} (h1 : Hid (xs[k]? = some x)) (h2 : Hid (ys[k]? = some y)) (h : x = y) (he : Hid (xs.take k = ys.take k)) : Hid (xs.take (k+1) = ys.take (k+1)) := by
  subst h
  have e : xs.take (k+1) = ys.take (k+1) := by rw [List.take_add_one, List.take_add_one, he.out, h1.out, h2.out]
  exact e

set_option maxHeartbeats 400000 in
theorem eqBytes_any (A A' : Option Addr) (n c n' c' : Nat) (xs ys : List Int) (w : World) (B B' : Nat)
   (hx : Reads w B 1 A n (u8s xs)) (hy : Reads w B' 1 A' n' (u8s ys)) (hn : n ≤ 9223372036854775807) (hn' : n' ≤ 9223372036854775807) :
    Calls Tryz.prog 69 #[.slice A n c, .slice A' n' c'] w fun e w' => e = .returned (.bool (decide (xs = ys))) ∧ ∃ k, w' = w.drewN k := by
  have hlx := hx.u8len
  have hly := hy.u8len
  by_cases hl : n = n'
  · obtain rfl := hl
    have Hlx := Lib.hid hlx
    have Hly := Lib.hid hly
    clear hlx hly
    go_enter Tryz.func69, Tryz.ntmps69
    go_wp2
    go_loopw [5] (fun i wr => ∃ k : Nat, i = .int .i64 k ∧ k ≤ n ∧ Hid (xs.take k = ys.take k) ∧ ∃ d, wr = w.drewN d) (fun i _ => n - (intOf i).toNat)
    case atStart => exact ⟨0, rfl, by omega, rfl, 0, rfl⟩
    case round =>
      obtain ⟨k, rfl, hk, he, d, rfl⟩ := hrel
      by_cases hlt : k < n
      · obtain ⟨a, x, rfl, _, hx1, h1⟩ := hx.u8at hlt
        obtain ⟨a', y, rfl, _, hy1, h2⟩ := hy.u8at hlt
        by_cases hxy : x = y
        · have hb : (x != y) = false := by simp [hxy]
          have Hxy := Lib.hid hxy
          clear hxy
          go_wp2
          go_quiet (fail)
          go_wp2
          go_roundw
          case rel => exact ⟨k + 1, by go_num, by omega, take_snoc2 hx1 hy1 Hxy.out he, _, rfl⟩
          case measure => simp [intOf]; omega
        · have hb : (x != y) = true := by simp [hxy]
          have hne := u8s_nth_ne hx1 hy1 hxy
          clear hxy
          go_wp2
          go_quiet (fail)
          go_wp2
          go_ret
          exact ⟨by simp [hne], _, World.drewN_drewN ..⟩
      · obtain rfl : n = k := by omega
        have heq : xs = ys := by have := he.out; rwa [List.take_of_length_le (by rw [Hlx.out]; omega), List.take_of_length_le (by rw [Hly.out]; omega)] at this
        clear Hlx Hly he
        go_wp2
        go_ret
        exact ⟨by simp [heq], _, rfl⟩
  · have hb : ((n : Int) != (n' : Int)) = true := by simp; omega
    have hne : xs ≠ ys := by rintro rfl; omega
    clear hlx hly
    go_enter Tryz.func69, Tryz.ntmps69
    go_wp2
    go_ret
    exact ⟨by simp [hne], 0, rfl⟩

/-- The marks behind a list of n bytes. -/
def marks (n : Nat) : List Int := (List.range 64).map fun j => ((279 + 7 * ((n + j : Nat) : Int) + 3) % 256)
theorem marks_length (n : Nat) : (marks n).length = 64 := by simp [marks]
theorem marks_at (n : Nat) {j : Nat} (h : j < 64) : (marks n)[j]? = some ((279 + 7 * ((n + j : Nat) : Int) + 3) % 256) := by
  simp [marks, h]
def wide (xs : List Int) : List Int := xs ++ marks xs.length
theorem wide_length (xs : List Int) : (wide xs).length = xs.length + 64 := by simp [wide, marks_length]
theorem wide_low {xs : List Int} {k : Nat} {x : Int} (h : xs[k]? = some x) : (wide xs)[k]? = some x := by
  have hl : k < xs.length := by
    rcases Nat.lt_or_ge k xs.length with hlt | hge
    · exact hlt
    · rw [List.getElem?_eq_none hge] at h; cases h
  unfold wide
  rw [List.getElem?_append_left hl, h]
theorem wide_high {xs : List Int} {k : Nat} (h1 : xs.length ≤ k) (h2 : k < xs.length + 64) : (wide xs)[k]? = some ((279 + 7 * (k : Int) + 3) % 256) := by
  unfold wide
  rw [List.getElem?_append_right h1, marks_at _ (by omega)]
  congr 5
  omega
theorem wide_take (xs : List Int) : (wide xs).take xs.length = xs := by simp [wide]

theorem info_u8 : (Tryz.prog.info? 5).map (fun i => (i.zero, i.size, i.bytes)) = some (some (.int .u8 0), 1, 1) := by kernel_rfl
theorem el_u8 : El Tryz.prog 59 5 1 1 := El.mk' Tryz.underlying59 info_u8 rfl (by omega)

/-- What CopyBytes leaves. -/
def CopyAt (w w' : World) (xs : List Int) (e : Ending) : Prop :=
  ∃ v, e = .returned v ∧ w'.ownsRow w.heap.size 5 1 v xs.length (u8s xs) ∧ Below w.heap.size w w'

/-- What CopyBytes leaves of a list that is not empty. -/
def CopyRow (w w' : World) (xs : List Int) (e : Ending) : Prop :=
  ∃ g cap, e = .returned (.slice (some ⟨g, 0, none⟩) xs.length cap) ∧ w.heap.size ≤ g ∧ xs.length ≤ cap ∧ cap ≤ 9223372036854775807 ∧ Row w' g 5 cap (u8s xs) ∧ Below w.heap.size w w'
end Go.Proofs.YtpncbggjngamgaaGreatDoor
namespace Go.Proofs.YtpncbggjngamgaaGreatDoor
set_option linter.unusedVariables false
open Go.RowKit

/-- Clone of bytes: a row of the call's own. -/
theorem clone_any (A : Option Addr) (n c : Nat) (xs : List Int) (w : World) (hx : Reads w w.heap.size 1 A n (u8s xs)) (hn : n ≤ 140737488355328) :
    Calls Tryz.prog 61 #[.slice A n c] w fun e w' => ∃ v, e = .returned v ∧ w'.ownsRow w.heap.size 5 1 v xs.length (u8s xs) ∧ Below w.heap.size w w' := by
  have hl := Lib.hid hx.u8len
  have hE := fun W : World => Lib.run_eql_slice_nil (P := Tryz.prog) W 59 5 A n c 0 0 Tryz.underlying59
  rcases A with _ | ad
  · have h0 : n = 0 := by
      rcases Nat.eq_zero_or_pos n with h | h
      · exact h
      · obtain ⟨ad, h, _⟩ := hx.2 h
        cases h
    subst h0
    clear hx
    simp only [Option.isNone_none] at hE
    go_enter Tryz.func61, Tryz.ntmps61
    go_wp2
    go_ret
    refine ⟨_, rfl, ?_, Below.refl _ _⟩
    rw [hl.out, List.eq_nil_of_length_eq_zero hl.out]
    exact World.ownsRow_nil _ _ _ _
  · simp only [Option.isNone_some] at hE
    have HO : Hid ((w.alloc (.cells #[] 5)).ownsRow w.heap.size 5 1 (.slice (some ⟨w.heap.size, 0, none⟩) 0 0) 0 (u8s [])) := by
      refine ⟨rfl, .inr ⟨w.heap.size, 0, #[], rfl, Nat.le_refl _, heap_alloc_new w _, Nat.le_refl _, by simp [maxLen], rfl, rfl⟩⟩
    have HX := Lib.hid ((hx.alloc (Nat.le_refl _) (.cells #[] 5)))
    clear hx
    go_enter Tryz.func61, Tryz.ntmps61
    go_wp2_with (at_builtin; refine wpList_app el_u8 rfl (.tmp 5) (.tmp 6) rfl HO.out rfl HX.out rfl u8s_one (by simp only [maxLen]; omega) (by omega) (by rw [World.size_alloc]; omega) ?_; intro v1 w1 ho1 hb1 hg1 hat1)
    go_ret
    refine ⟨_, rfl, ?_, ((Below.refl _ _).alloc (Nat.le_refl _) _).trans hb1⟩
    rw [hl.out]
    have := ho1
    rw [Nat.zero_add] at this
    exact this
/-- A head, as plain data. -/
structure Hd where
  age : Int
  opts : Int
  typ : Int
  id : Int
  adv : Int
  seq : Int
  sum : Int
  len : Int
structure Hd.ok (h : Hd) : Prop where
  age : 0 ≤ h.age ∧ h.age ≤ 65535
  opts : 0 ≤ h.opts ∧ h.opts ≤ 255
  typ : 0 ≤ h.typ ∧ h.typ ≤ 255
  id : 0 ≤ h.id ∧ h.id ≤ 4294967295
  adv : 0 ≤ h.adv ∧ h.adv ≤ 4294967295
  seq : -2147483648 ≤ h.seq ∧ h.seq ≤ 2147483647
  sum : 0 ≤ h.sum ∧ h.sum ≤ 65535
  len : 0 ≤ h.len ∧ h.len ≤ 65535
def Hd.cells (h : Hd) : List Value := [.int .u16 h.age, .int .u8 h.opts, .int .u8 h.typ, .int .u32 h.id, .int .u32 h.adv, .int .i32 h.seq, .int .u16 h.sum, .int .u16 h.len]
@[reducible] def Hd.v (h : Hd) : Value := .agg #[.int .u16 h.age, .int .u8 h.opts, .int .u8 h.typ, .int .u32 h.id, .int .u32 h.adv, .int .i32 h.seq, .int .u16 h.sum, .int .u16 h.len]
@[reducible] def stV (h : Hd) (A : Option Addr) (n c : Nat) : Value := .agg #[.int .u16 h.age, .int .u8 h.opts, .int .u8 h.typ, .int .u32 h.id, .int .u32 h.adv, .int .i32 h.seq, .int .u16 h.sum, .int .u16 h.len, .slice A n c]
@[reducible] def stC (h : Hd) (A : Option Addr) (n c : Nat) : Array Value := #[.int .u16 h.age, .int .u8 h.opts, .int .u8 h.typ, .int .u32 h.id, .int .u32 h.adv, .int .i32 h.seq, .int .u16 h.sum, .int .u16 h.len, .slice A n c]
@[reducible] def zC : Array Value := #[.int .u16 0, .int .u8 0, .int .u8 0, .int .u32 0, .int .u32 0, .int .i32 0, .int .u16 0, .int .u16 0, .slice none 0 0]
@[reducible] def zeroSt : Value := .agg #[.int .u16 0, .int .u8 0, .int .u8 0, .int .u32 0, .int .u32 0, .int .i32 0, .int .u16 0, .int .u16 0, .slice none 0 0]
theorem stC_facts {W : World} {g : Nat} {h : Hd} {A : Option Addr} {n c : Nat} (b : Blk W g 61 (stC h A n c)) :
    W.cell? ⟨g, 0, none⟩ = some (.int .u16 h.age) ∧ W.cell? ⟨g, 1, none⟩ = some (.int .u8 h.opts) ∧ W.cell? ⟨g, 2, none⟩ = some (.int .u8 h.typ) ∧ W.cell? ⟨g, 3, none⟩ = some (.int .u32 h.id) ∧ W.cell? ⟨g, 4, none⟩ = some (.int .u32 h.adv) ∧
    W.cell? ⟨g, 5, none⟩ = some (.int .i32 h.seq) ∧ W.cell? ⟨g, 6, none⟩ = some (.int .u16 h.sum) ∧ W.cell? ⟨g, 7, none⟩ = some (.int .u16 h.len) ∧ W.cell? ⟨g, 8, none⟩ = some (.slice A n c) :=
  ⟨b.cell 0, b.cell 1, b.cell 2, b.cell 3, b.cell 4, b.cell 5, b.cell 6, b.cell 7, b.cell 8⟩
theorem info_state : (Tryz.prog.info? 61).map (·.size) = some 9 := by kernel_rfl
theorem info_head : (Tryz.prog.info? 58).map (·.size) = some 8 := by kernel_rfl
/-- One state: its head, where its body stands, and the body's bytes. -/
structure SE where
  h : Hd
  A : Option Addr
  n : Nat
  c : Nat
  B : List Int
@[reducible] def SE.v (s : SE) : Value := stV s.h s.A s.n s.c
/-- A state that can be read. -/
structure SE.rd (w : World) (s : SE) : Prop where
  head : s.h.ok
  body : Reads w w.heap.size 1 s.A s.n (u8s s.B)
  oct : Oct s.B
  cap : s.n ≤ s.c ∧ s.c ≤ 9223372036854775807
  len : s.n ≤ 1099511627776
theorem SE.rd.bl {w : World} {s : SE} (h : s.rd w) : s.B.length = s.n := h.body.u8len
theorem SE.rd.kept {R : Nat → Prop} {w w' : World} {s : SE} (h : s.rd w) (k : Kept R w w') (hn : ∀ ad, s.A = some ad → ¬ R ad.block) : s.rd w' := ⟨h.head, h.body.keptUp k (fun _ ad e => hn ad e), h.oct, h.cap, h.len⟩
theorem SE.rd.later {w w' : World} {s : SE} (h : s.rd w) (hb : Below w.heap.size w w') : s.rd w' := h.kept (Kept.of_new hb (fun _ => False)) (fun _ _ h => h)
@[reducible] def SE.b (s : SE) : Value := .slice s.A s.n s.c
/-- A state whose body is a row of its own, new since base. -/
structure SE.ok (base : Nat) (w : World) (s : SE) : Prop where
  head : s.h.ok
  body : w.ownsRow base 5 1 s.b s.n (u8s s.B)
  oct : Oct s.B
  len : s.n ≤ 1099511627776
theorem SE.ok.later {base : Nat} {w w' : World} {s : SE} (h : s.ok base w) (hb : Below w.heap.size w w') : s.ok base w' := ⟨h.head, own_kept h.body (Kept.of_new hb (fun _ => False)) (fun _ _ h => h), h.oct, h.len⟩
theorem SE.ok.rd {base : Nat} {w : World} {s : SE} (h : s.ok base w) : s.rd w := by
  obtain ⟨A, c, e, h1, h2, h3⟩ := own_shape h.body
  injection e with e1 _ e3
  exact ⟨h.head, by rw [e1]; exact h3, h.oct, by rw [e3]; exact ⟨h1, h2⟩, h.len⟩
theorem SE.ok.mono {base b' : Nat} {w : World} {s : SE} (h : s.ok base w) (hb : b' ≤ base) : s.ok b' w := ⟨h.head, own_mono h.body hb, h.oct, h.len⟩
/-- What counts of a state. -/
structure CopyOf (w w' : World) (s s' : SE) : Prop where
  h : s'.h = s.h
  B : s'.B = s.B
  n : s'.n = s.n
  ok : s'.ok w.heap.size w'
def yearsOf (age : Int) : Int := min (age % 32768) 3600
theorem years_bound (age : Int) (h0 : 0 ≤ age) : 0 ≤ yearsOf age ∧ yearsOf age ≤ 3600 := by unfold yearsOf; omega
theorem u16_andNot15 (x : Int) (h0 : 0 ≤ x) (h1 : x ≤ 65535) : bits .andNot .u16 x 32768 = x % 32768 := by
  rw [u16_andNot _ _ (by omega) (by omega) (by omega) (by omega)]
  obtain ⟨a, rfl⟩ := Int.eq_ofNat_of_zero_le h0
  have e : 65535 - ((32768 : Int)).toNat = 2 ^ 15 - 1 := by omega
  rw [e, Int.toNat_natCast, Nat.and_two_pow_sub_one_eq_mod]
  omega

theorem years_any (age : Int) (w : World) (h0 : 0 ≤ age) (h1 : age ≤ 65535) :
    Calls Tryz.prog 83 #[.int .u16 age] w fun e w' => e = .returned (.int .i64 (yearsOf age)) ∧ w = w' := by
  have hb := u16_andNot15 age h0 h1
  have hy : Hid (yearsOf age = min (age % 32768) 3600) := rfl
  have hr0 : 0 ≤ age % 32768 := by omega
  have hr1 : age % 32768 ≤ 32767 := by omega
  generalize age % 32768 = r at *
  by_cases hle : r ≤ 3600
  · have hm : Hid (min r 3600 = r) := by show _ = _; omega
    go_enter Tryz.func83, Tryz.ntmps83
    go_wp2
    go_ret
    exact ⟨by rw [hy.out, hm.out]; rfl, rfl⟩
  · have hm : Hid (min r 3600 = 3600) := by show _ = _; omega
    go_enter Tryz.func83, Tryz.ntmps83
    go_wp2
    go_ret
    exact ⟨by rw [hy.out, hm.out]; rfl, rfl⟩
theorem old_any (age : Int) (w : World) (h0 : 0 ≤ age) (h1 : age ≤ 65535) :
    Calls Tryz.prog 64 #[.int .u16 age] w fun e w' => e = .returned (.bool (yearsOf age == 3600)) ∧ w = w' := by
  go_enter Tryz.func64, Tryz.ntmps64
  go_wp2_with (go_at_call 83; refine (years_any _ _ h0 h1).mono ?_; rintro e w' ⟨rfl, rfl⟩)
  go_ret
  exact ⟨rfl, rfl⟩
theorem info_key3 : (Tryz.prog.info? 68).map (·.size) = some 3 := by kernel_rfl
def SE.key (s : SE) : Ky3 := (s.h.typ, s.h.id, s.h.adv)
theorem skey_any (h : Hd) (w : World) : Calls Tryz.prog 60 #[h.v] w fun e w' => e = .returned (keyV (h.typ, h.id, h.adv)) ∧ Below w.heap.size w w' := by
  go_enter Tryz.func60, Tryz.ntmps60
  go_wp2
  exact bodyPost_ret (results_cell_row rfl _ _ (w.heap.size + 1) 68 #[.int .u8 h.typ, .int .u32 h.id, .int .u32 h.adv] (0, 0) _ rfl (new_at _ _ _) Tryz.underlying68 rfl info_key3) rfl ⟨rfl, below_two _ _ _⟩
theorem rkey_any (h : Hd) (w : World) : Calls Tryz.prog 17 #[h.v] w fun e w' => e = .returned (keyV (h.typ, h.id, h.adv)) ∧ Below w.heap.size w w' := by
  go_enter Tryz.func17, Tryz.ntmps17
  go_wp2
  exact bodyPost_ret (results_cell_row rfl _ _ (w.heap.size + 1) 68 #[.int .u8 h.typ, .int .u32 h.id, .int .u32 h.adv] (0, 0) _ rfl (new_at _ _ _) Tryz.underlying68 rfl info_key3) rfl ⟨rfl, below_two _ _ _⟩
/-- An age, so much later. -/
def laterA (a p : Int) : Int := if 32768 ≤ a ∨ p < 1 then a else min (yearsOf a + min p 3600) 3600
theorem u16_andNo (x : Int) (h0 : 0 ≤ x) (h1 : x ≤ 65535) : bits .and .u16 x 32768 = if 32768 ≤ x then 32768 else 0 := by
  rw [u16_and _ _ (by omega) (by omega) (by omega) (by omega)]
  obtain ⟨a, rfl⟩ := Int.eq_ofNat_of_zero_le h0
  have e : ((32768 : Int)).toNat = 2 ^ 15 := by omega
  rw [e, Int.toNat_natCast]
  have ht : a.testBit 15 = decide (32768 ≤ a) := by
    rw [Nat.testBit_eq_decide_div_mod_eq]
    congr 1
    apply propext
    omega
  have hv : a &&& 2 ^ 15 = if 32768 ≤ a then 2 ^ 15 else 0 := by
    apply Nat.eq_of_testBit_eq
    intro i
    rw [Nat.testBit_and, Nat.testBit_two_pow]
    by_cases hi : 15 = i
    · subst hi
      rw [ht]
      by_cases h : 32768 ≤ a
      · rw [decide_eq_true h, if_pos h, Nat.testBit_two_pow]; rfl
      · rw [decide_eq_false h, if_neg h]; rfl
    · rw [decide_eq_false hi, Bool.and_false]
      split
      · rw [Nat.testBit_two_pow, decide_eq_false hi]
      · simp
  rw [hv]
  by_cases h : 32768 ≤ a
  · rw [if_pos h, if_pos (by omega)]; rfl
  · rw [if_neg h, if_neg (by omega)]; rfl
theorem laterA_same {a p : Int} (h : 32768 ≤ a ∨ p < 1) : laterA a p = a := by unfold laterA; rw [if_pos h]
theorem laterA_more {a p : Int} (h : ¬ 32768 ≤ a) (h1 : ¬ p < 1) : laterA a p = min (yearsOf a + min p 3600) 3600 := by unfold laterA; rw [if_neg (by omega)]
theorem laterA_rng {a p : Int} (h0 : 0 ≤ a) (h1 : a ≤ 65535) : 0 ≤ laterA a p ∧ laterA a p ≤ 65535 := by
  have := years_bound a h0
  unfold laterA
  split <;> omega
set_option maxHeartbeats 2000000 in
theorem age_any (a p : Int) (w : World) (h0 : 0 ≤ a) (h1 : a ≤ 65535) :
    Calls Tryz.prog 78 #[.int .u16 a, .int .i64 p] w fun e w' => e = .returned (.int .u16 (laterA a p)) ∧ w = w' := by
  have hb := u16_andNo a h0 h1
  by_cases ha : 32768 ≤ a
  · rw [if_pos ha] at hb
    have hl : Hid (laterA a p = a) := laterA_same (.inl ha)
    go_enter Tryz.func78, Tryz.ntmps78
    go_wp2
    go_ret
    exact ⟨by rw [hl.out]; rfl, rfl⟩
  · rw [if_neg ha] at hb
    by_cases hp : p < 1
    · have hl : Hid (laterA a p = a) := laterA_same (.inr hp)
      have d1 : decide (p < 1) = true := decide_eq_true hp
      go_enter Tryz.func78, Tryz.ntmps78
      go_wp2
      go_ret
      exact ⟨by rw [hl.out]; rfl, rfl⟩
    · have hl : Hid (laterA a p = min (yearsOf a + min p 3600) 3600) := laterA_more ha hp
      have d1 : decide (p < 1) = false := decide_eq_false hp
      have HY : Hid (∀ W : World, Calls Tryz.prog 83 #[.int .u16 a] W fun e w' => e = .returned (.int .i64 (yearsOf a)) ∧ W = w') := fun W => years_any _ _ h0 h1
      have yb := years_bound a h0
      obtain ⟨y, hy⟩ : ∃ y, yearsOf a = y := ⟨_, rfl⟩
      rw [hy] at HY hl yb
      clear hy
      by_cases h2 : p ≤ 3600
      · have hm : Hid (min p 3600 = p) := by show _ = _; omega
        by_cases h3 : y + p ≤ 3600
        · have hn : Hid (min (y + p) 3600 = y + p) := by show _ = _; omega
          go_enter Tryz.func78, Tryz.ntmps78
          go_wp2_with (go_at_call 83; refine (HY.out _).mono ?_; rintro e w' ⟨rfl, rfl⟩)
          go_ret
          exact ⟨by rw [hl.out, hm.out, hn.out]; rfl, rfl⟩
        · have hn : Hid (min (y + p) 3600 = 3600) := by show _ = _; omega
          go_enter Tryz.func78, Tryz.ntmps78
          go_wp2_with (go_at_call 83; refine (HY.out _).mono ?_; rintro e w' ⟨rfl, rfl⟩)
          go_ret
          exact ⟨by rw [hl.out, hm.out, hn.out]; rfl, rfl⟩
      · have hm : Hid (min p 3600 = 3600) := by show _ = _; omega
        have hn : Hid (min (y + 3600) 3600 = 3600) := by show _ = _; omega
        by_cases h3 : y + 3600 ≤ 3600
        · obtain rfl : y = 0 := by omega
          go_enter Tryz.func78, Tryz.ntmps78
          go_wp2_with (go_at_call 83; refine (HY.out _).mono ?_; rintro e w' ⟨rfl, rfl⟩)
          go_ret
          exact ⟨by rw [hl.out, hm.out, hn.out]; rfl, rfl⟩
        · go_enter Tryz.func78, Tryz.ntmps78
          go_wp2_with (go_at_call 83; refine (HY.out _).mono ?_; rintro e w' ⟨rfl, rfl⟩)
          go_ret
          exact ⟨by rw [hl.out, hm.out, hn.out]; rfl, rfl⟩
end Go.Proofs.YtpncbggjngamgaaGreatDoor
namespace Go.Proofs.YtpncbggjngamgaaGreatDoor
set_option linter.unusedVariables false
open Go.RowKit

/-- A state, and when it was put. -/
structure OneE where
  s : SE
  at_ : Int
/-- How old it is at a time. -/
def OneE.age (x : OneE) (t : Int) : Int := laterA x.s.h.age (t - x.at_)
def oldA (a : Int) : Bool := yearsOf a == 3600
/-- When it will be old. -/
def OneE.end_ (x : OneE) : Int := x.at_ + 3600 - x.s.h.age
structure OneE.may (x : OneE) : Prop where
  age : 0 ≤ x.s.h.age ∧ x.s.h.age ≤ 65535
  at_ : 0 ≤ x.at_ ∧ x.at_ ≤ 1099511627776
abbrev Ent11 := Ky3 × OneE
def dueE (E : List Ent11) (t : Int) : List Ky3 := (E.filter fun p => oldA (p.2.age t)).map (·.1)
def candE (now : Int) (p : Ent11) : Bool := !(oldA (p.2.age now)) && decide (p.2.s.h.age < 32768)
def stepE (now : Int) (b : Option Int) (p : Ent11) : Option Int :=
  if candE now p then match b with
    | none => some p.2.end_
    | some t => if p.2.end_ < t then some p.2.end_ else some t
  else b
def nextE (E : List Ent11) (now : Int) : Option Int := E.foldl (stepE now) none
theorem old_never {x : OneE} (h : x.may) (hn : 32768 ≤ x.s.h.age) (s t : Int) : oldA (x.age s) = oldA (x.age t) := by
  unfold OneE.age
  rw [laterA_same (.inl hn), laterA_same (.inl hn)]
theorem old_from {x : OneE} (h : x.may) (hn : x.s.h.age < 32768) {now t : Int} (ho : oldA (x.age now) = false) (ht : now ≤ t) : now < x.end_ ∧ (oldA (x.age t) = true ↔ x.end_ ≤ t) := by
  have ha := h.age
  have hy : ∀ p, p < 1 → laterA x.s.h.age p = x.s.h.age := fun p hp => laterA_same (.inr hp)
  have hz : ∀ p, ¬ p < 1 → laterA x.s.h.age p = min (yearsOf x.s.h.age + min p 3600) 3600 := fun p hp => laterA_more (by omega) hp
  unfold oldA OneE.age at *
  unfold OneE.end_
  simp only [beq_iff_eq, beq_eq_false_iff_ne, ne_eq] at *
  unfold yearsOf at *
  by_cases h1 : now - x.at_ < 1
  · rw [hy _ h1] at ho
    by_cases h2 : t - x.at_ < 1
    · rw [hy _ h2]; omega
    · rw [hz _ h2]; omega
  · rw [hz _ h1] at ho
    rw [hz _ (by omega : ¬ t - x.at_ < 1)]
    omega
theorem old_stays {x : OneE} (h : x.may) {now t : Int} (ho : oldA (x.age now) = true) (ht : now ≤ t) : oldA (x.age t) = true := by
  by_cases hn : 32768 ≤ x.s.h.age
  · rw [old_never h hn t now]; exact ho
  · have ha := h.age
    have hy : ∀ p, p < 1 → laterA x.s.h.age p = x.s.h.age := fun p hp => laterA_same (.inr hp)
    have hz : ∀ p, ¬ p < 1 → laterA x.s.h.age p = min (yearsOf x.s.h.age + min p 3600) 3600 := fun p hp => laterA_more (by omega) hp
    unfold oldA OneE.age at *
    simp only [beq_iff_eq] at *
    unfold yearsOf at *
    by_cases h1 : now - x.at_ < 1
    · rw [hy _ h1] at ho
      by_cases h2 : t - x.at_ < 1
      · rw [hy _ h2]; omega
      · rw [hz _ h2]; omega
    · rw [hz _ h1] at ho
      rw [hz _ (by omega : ¬ t - x.at_ < 1)]
      omega
/-- What the fold finds: the least end of those that will be old. -/
theorem next_fold (now : Int) : ∀ (E : List Ent11) (b : Option Int), match E.foldl (stepE now) b with
    | none => b = none ∧ ∀ p ∈ E, candE now p = false
    | some t => (b = some t ∨ ∃ p ∈ E, candE now p = true ∧ p.2.end_ = t) ∧ (∀ s, b = some s → t ≤ s) ∧ ∀ p ∈ E, candE now p = true → t ≤ p.2.end_ := by
  intro E
  induction E with
  | nil =>
    intro b
    cases b with
    | none => exact ⟨rfl, fun p h => by cases h⟩
    | some t => exact ⟨.inl rfl, fun s h => by injection h with h; omega, fun p h => by cases h⟩
  | cons p r ih =>
    intro b
    rw [List.foldl_cons]
    have h := ih (stepE now b p)
    cases hf : r.foldl (stepE now) (stepE now b p) with
    | none =>
      rw [hf] at h
      obtain ⟨h1, h2⟩ := h
      unfold stepE at h1
      cases hc : candE now p with
      | true =>
        rw [hc, if_pos rfl] at h1
        cases b with
        | none => cases h1
        | some t => simp only at h1; split at h1 <;> cases h1
      | false =>
        rw [hc] at h1
        exact ⟨by simpa using h1, fun q hq => by rcases List.mem_cons.1 hq with rfl | hq; exact hc; exact h2 q hq⟩
    | some t =>
      rw [hf] at h
      obtain ⟨h1, h2, h3⟩ := h
      unfold stepE at h1 h2
      cases hc : candE now p with
      | true =>
        rw [hc, if_pos rfl] at h1 h2
        cases b with
        | none =>
          simp only at h1 h2
          have ht := h2 _ rfl
          refine ⟨.inr ?_, fun s hs => (by cases hs), fun q hq hqc => by rcases List.mem_cons.1 hq with rfl | hq; exact ht; exact h3 q hq hqc⟩
          rcases h1 with h1 | ⟨q, hq, hqc, hqt⟩
          · injection h1 with h1; exact ⟨p, List.mem_cons_self .., hc, h1⟩
          · exact ⟨q, List.mem_cons_of_mem _ hq, hqc, hqt⟩
        | some s =>
          simp only at h1 h2
          by_cases hl : p.2.end_ < s
          · rw [if_pos hl] at h1 h2
            have ht := h2 _ rfl
            refine ⟨.inr ?_, fun s' hs => by injection hs with hs; omega, fun q hq hqc => by rcases List.mem_cons.1 hq with rfl | hq; exact ht; exact h3 q hq hqc⟩
            rcases h1 with h1 | ⟨q, hq, hqc, hqt⟩
            · injection h1 with h1; exact ⟨p, List.mem_cons_self .., hc, h1⟩
            · exact ⟨q, List.mem_cons_of_mem _ hq, hqc, hqt⟩
          · rw [if_neg hl] at h1 h2
            have ht := h2 _ rfl
            refine ⟨?_, fun s' hs => by injection hs with hs; omega, fun q hq hqc => by rcases List.mem_cons.1 hq with rfl | hq; omega; exact h3 q hq hqc⟩
            rcases h1 with h1 | ⟨q, hq, hqc, hqt⟩
            · exact .inl h1
            · exact .inr ⟨q, List.mem_cons_of_mem _ hq, hqc, hqt⟩
      | false =>
        rw [hc] at h1 h2
        simp only [Bool.false_eq_true, if_false] at h1 h2
        refine ⟨?_, h2, fun q hq hqc => by rcases List.mem_cons.1 hq with rfl | hq; rw [hc] at hqc; cases hqc; exact h3 q hq hqc⟩
        rcases h1 with h1 | ⟨q, hq, hqc, hqt⟩
        · exact .inl h1
        · exact .inr ⟨q, List.mem_cons_of_mem _ hq, hqc, hqt⟩
theorem next_none {E : List Ent11} {now : Int} (h : nextE E now = none) : ∀ p ∈ E, candE now p = false := by
  have := next_fold now E none
  unfold nextE at h
  rw [h] at this
  exact this.2
theorem next_some {E : List Ent11} {now t : Int} (h : nextE E now = some t) : (∃ p ∈ E, candE now p = true ∧ p.2.end_ = t) ∧ ∀ p ∈ E, candE now p = true → t ≤ p.2.end_ := by
  have := next_fold now E none
  unfold nextE at h
  rw [h] at this
  obtain ⟨h1, _, h3⟩ := this
  exact ⟨h1.resolve_left (fun e => by cases e), h3⟩
theorem cand_iff {now : Int} {p : Ent11} : candE now p = true ↔ oldA (p.2.age now) = false ∧ p.2.s.h.age < 32768 := by
  unfold candE
  simp
theorem filter_more {α : Type} (p q : α → Bool) : ∀ l : List α, (∀ x ∈ l, p x = true → q x = true) → (l.filter p).length ≤ (l.filter q).length ∧ ((∃ x ∈ l, q x = true ∧ p x = false) → (l.filter p).length < (l.filter q).length) := by
  intro l
  induction l with
  | nil => intro _; exact ⟨Nat.le_refl _, fun ⟨x, h, _⟩ => by cases h⟩
  | cons a r ih =>
    intro h
    obtain ⟨h1, h2⟩ := ih fun x hx => h x (List.mem_cons_of_mem _ hx)
    have ha := h a (List.mem_cons_self ..)
    cases hp : p a with
    | true =>
      rw [List.filter_cons_of_pos hp, List.filter_cons_of_pos (ha hp), List.length_cons, List.length_cons]
      refine ⟨by omega, fun ⟨x, hx, hq, hn⟩ => ?_⟩
      rcases List.mem_cons.1 hx with rfl | hx
      · rw [hp] at hn; cases hn
      · have := h2 ⟨x, hx, hq, hn⟩; omega
    | false =>
      rw [List.filter_cons_of_neg (by simp [hp])]
      cases hq : q a with
      | true =>
        rw [List.filter_cons_of_pos hq, List.length_cons]
        exact ⟨by omega, fun _ => by omega⟩
      | false =>
        rw [List.filter_cons_of_neg (by simp [hq])]
        refine ⟨h1, fun ⟨x, hx, hq', hn⟩ => ?_⟩
        rcases List.mem_cons.1 hx with rfl | hx
        · rw [hq] at hq'; cases hq'
        · exact h2 ⟨x, hx, hq', hn⟩
/-- At the time that is told next something more is old, and nothing more ahead of it. -/
theorem ages_some {E : List Ent11} (hE : ∀ p ∈ E, p.2.may) {now t : Int} (h : nextE E now = some t) :
    now < t ∧ dueE E (t - 1) = dueE E now ∧ (dueE E now).length < (dueE E t).length ∧ ∀ k ∈ dueE E now, k ∈ dueE E t := by
  obtain ⟨⟨p, hp, hc, ht⟩, hl⟩ := next_some h
  obtain ⟨c1, c2⟩ := cand_iff.1 hc
  have hf := old_from (hE p hp) c2 c1 (Int.le_refl now)
  have hlt : now < t := by omega
  have hsame : ∀ s, now ≤ s → s < t → ∀ q ∈ E, oldA (q.2.age s) = oldA (q.2.age now) := by
    intro s h1 h2 q hq
    cases ho : oldA (q.2.age now) with
    | true => exact old_stays (hE q hq) ho h1
    | false =>
      by_cases hn : 32768 ≤ q.2.s.h.age
      · rw [old_never (hE q hq) hn s now, ho]
      · have h3 := old_from (hE q hq) (by omega) ho h1
        have h4 := hl q hq (cand_iff.2 ⟨ho, by omega⟩)
        cases ho2 : oldA (q.2.age s) with
        | false => rfl
        | true => have := h3.2.1 ho2; omega
  refine ⟨hlt, ?_, ?_, ?_⟩
  · unfold dueE
    rw [List.filter_congr fun q hq => hsame (t - 1) (by omega) (by omega) q hq]
  · unfold dueE
    rw [List.length_map, List.length_map]
    refine (filter_more _ _ E fun q hq ho => old_stays (hE q hq) ho (by omega)).2 ⟨p, hp, ?_, c1⟩
    exact (old_from (hE p hp) c2 c1 (by omega : now ≤ t)).2.2 (by omega)
  · intro k hk
    unfold dueE at *
    obtain ⟨q, hq, rfl⟩ := List.mem_map.1 hk
    rw [List.mem_filter] at hq
    exact List.mem_map.2 ⟨q, List.mem_filter.2 ⟨hq.1, old_stays (hE q hq.1) hq.2 (by omega)⟩, rfl⟩
theorem ages_none {E : List Ent11} (hE : ∀ p ∈ E, p.2.may) {now t : Int} (h : nextE E now = none) (ht : now ≤ t) : dueE E t = dueE E now := by
  have hn := next_none h
  unfold dueE
  rw [List.filter_congr fun q hq => (show oldA (q.2.age t) = oldA (q.2.age now) from ?_)]
  cases ho : oldA (q.2.age now) with
  | true => exact old_stays (hE q hq) ho ht
  | false =>
    have hc := hn q hq
    have h1 : 32768 ≤ q.2.s.h.age := by
      rcases Int.lt_or_le q.2.s.h.age 32768 with h1 | h1
      · rw [cand_iff.2 ⟨ho, h1⟩] at hc; cases hc
      · exact h1
    rw [old_never (hE q hq) h1 t now, ho]
end Go.Proofs.YtpncbggjngamgaaGreatDoor
