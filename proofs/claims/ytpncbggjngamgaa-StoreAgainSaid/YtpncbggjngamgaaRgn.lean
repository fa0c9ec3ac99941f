/-
  A region that draws its order, walked in an order of ours: two laws.
-/
import Derived.RegionTactic
import Derived.OrdersHeld
import Derived.WalkKit
import Derived.Lib.Hide
namespace Go.Proofs.Ytpncbggjngamgaa
set_option linter.unusedVariables false
open Go.RowKit

/-- The n-th of a list of operations. -/
def nthOp : List Oper → Nat → Oper
  | [], _ => default
  | o :: _, 0 => o
  | _ :: l, n + 1 => nthOp l n
theorem nthOp_zero (o : Oper) (l : List Oper) : nthOp (o :: l) 0 = o := rfl
theorem nthOp_succ (o : Oper) (l : List Oper) (n : Nat) : nthOp (o :: l) (n + 1) = nthOp l n := rfl

/-- A region's operations in an order of ours: those marked true do nothing but leave a value, the same in every world; the others are walked one by one. -/
def wpW (P : Program) (ops : Array Oper) (Q : Exit → Act → World → Prop) : List (Oper × Bool) → Act → World → Prop
  | [], a, w => Q .normal a w
  | (o, true) :: r, a, w => ∃ v, Yields P ops o v a ∧ wpW P ops Q r (a.put o.dst v) w
  | (o, false) :: r, a, w => ∀ Q' : Exit → Act → World → Prop, (∀ a w, wpW P ops Q r a w → Q' .normal a w) → wpList P ops Q' [o] a w

def okOrder (ops : Array Oper) : Array Bool → List (Nat × Bool) → Bool
  | listed, [] => (Region.ready .any ops listed).isEmpty
  | listed, (i, true) :: r => Region.free .any ops listed i && (Region.ready .any ops listed).contains i && okOrder ops (listed.setIfInBounds i true) r
  | listed, (i, false) :: r => (Region.ready .any ops listed == [i]) && okOrder ops (listed.setIfInBounds i true) r

theorem nthOp_get (l : List Oper) : ∀ i, i < l.length → l[i]? = some (nthOp l i) := by
  induction l with
  | nil => intro i h; simp at h
  | cons o l ih =>
    intro i h
    cases i with
    | zero => rfl
    | succ i => simp at h; simpa [nthOp] using ih i h

theorem ready_lt {md : Region.Mode} {ops : Array Oper} {listed : Array Bool} {i : Nat} (h : i ∈ Region.ready md ops listed) : i < ops.size := by
  simp [Region.ready] at h
  exact h.1

theorem wp_exit {P : Program} {o : Oper} {a : Act} {w : World} {K : Act → World → Prop} {Q Q' : Exit → Act → World → Prop}
    (h1 : ∀ c a w, Q' (.panic c) a w → Q (.panic c) a w) (h2 : ∀ a w, Q' .outgrown a w → Q .outgrown a w) (h : o.wp P a w K Q') : o.wp P a w K Q := by
  have hl : LetsOut Q' → LetsOut Q := fun ⟨a, w, h⟩ => ⟨a, w, h2 a w h⟩
  unfold Oper.wp at *
  generalize (execOp a.eval o).run P w = r at *
  cases r with
  | ok n w' =>
    cases n <;> simp only [Oper.upon] at h ⊢ <;>
      first
        | exact h
        | exact Calls.mono h (fun e w'' he => by cases e <;> first | exact h1 _ _ _ he | exact hl he | exact he)
  | halt x w' => cases x <;> simp only [Oper.upon] at h ⊢ <;> first | exact h1 _ _ _ h | exact h

theorem wpAny_w {P : Program} {ops : Array Oper} {Q : Exit → Act → World → Prop} (hs : Region.noSelect ops = true)
    (hQ : ∀ c d v a w, Q (.panic c) (Act.put a d v) w → Q (.panic c) a w) : ∀ (π : List (Nat × Bool)) (listed : Array Bool) (a : Act) (w : World),
    okOrder ops listed π = true → wpW P ops Q (π.map fun x => (nthOp ops.toList x.1, x.2)) a w → wpAny P .any ops Q π.length listed a w := by
  intro π
  induction π with
  | nil =>
    intro listed a w ho h
    simp only [okOrder, List.isEmpty_iff] at ho
    exact wpAny_done ho h _
  | cons x r ih =>
    obtain ⟨i, b⟩ := x
    intro listed a w ho h
    cases b with
    | true =>
      simp only [okOrder, Bool.and_eq_true] at ho
      obtain ⟨⟨hf, hr⟩, ho⟩ := ho
      obtain ⟨v, hy, hrest⟩ := h
      have hlt : i < ops.size := ready_lt (by simpa using hr)
      have hi : ops[i]? = some (nthOp ops.toList i) := by
        have := nthOp_get ops.toList i (by simpa using hlt)
        simpa using this
      exact wpAny_take hi hs hf hr (fun c a w h => hQ c _ _ a w h) hy (ih _ _ _ ho hrest)
    | false =>
      simp only [okOrder, Bool.and_eq_true, beq_iff_eq] at ho
      obtain ⟨hr, ho⟩ := ho
      have hlt : i < ops.size := ready_lt (by rw [hr]; exact List.mem_singleton.2 rfl)
      have hi : ops[i]? = some (nthOp ops.toList i) := by
        have := nthOp_get ops.toList i (by simpa using hlt)
        simpa using this
      refine wpAny_all hr (by simp) (fun j hj => ?_)
      rw [List.mem_singleton] at hj
      subst hj
      have h' := h (Exit.then (wpAny P .any ops Q r.length (listed.setIfInBounds j true)) Q) (fun a w hh => ih _ _ _ ho hh)
      unfold wpOp
      rw [hi]
      simp only [wpList] at h'
      show if _ then _ else _
      split
      · rename_i hw
        rw [if_pos hw] at h'
        rcases h' with h' | ⟨h1, h2⟩
        · exact .inl (wp_exit (fun _ _ _ h => h) (fun _ _ h => h) h')
        · exact .inr ⟨h1, h2⟩
      · rename_i hw
        rw [if_neg hw] at h'
        exact h'

/-- A region that draws its order, walked in an order of ours. -/
theorem wp_region_w {P : Program} {id : Nat} {ops : Array Oper} {Q : Exit → Act → World → Prop} {a : Act} {w : World} (π : List (Nat × Bool))
    (hm : (P.follows .mixedOrders && Region.noSelect ops && (π.length == ops.size) && okOrder ops (Array.replicate ops.size false) π) = true)
    (hQ : ∀ c d v a w, Q (.panic c) (Act.put a d v) w → Q (.panic c) a w)
    (h : wpW P ops Q (π.map fun x => (nthOp ops.toList x.1, x.2)) a w.drew) : (Code.region id ops true).wp P Q a w := by
  simp only [Bool.and_eq_true, beq_iff_eq] at hm
  obtain ⟨⟨⟨h1, h2⟩, h3⟩, h4⟩ := hm
  refine wp_region_any h1 ?_
  rw [← h3]
  exact wpAny_w h2 hQ π _ a _ (by rw [h3]; exact h4) h

theorem wpW_nil {P : Program} {ops : Array Oper} {Q : Exit → Act → World → Prop} {a : Act} {w : World} (h : Q .normal a w) : wpW P ops Q [] a w := h
theorem wpW_take {P : Program} {ops : Array Oper} {Q : Exit → Act → World → Prop} {o : Oper} {r : List (Oper × Bool)} {a : Act} {w : World} {v : Value}
    (hw : Region.wanted o (yielded ops a.tmps) = true) (hv : ∀ w, (execOp a.eval o).run P w = .ok (.value v) w) (h : wpW P ops Q r (a.put o.dst v) w) : wpW P ops Q ((o, true) :: r) a w := ⟨v, .inl ⟨hw, hv⟩, h⟩
theorem wpW_skip {P : Program} {ops : Array Oper} {Q : Exit → Act → World → Prop} {o : Oper} {r : List (Oper × Bool)} {a : Act} {w : World}
    (hw : Region.wanted o (yielded ops a.tmps) = false) (h : wpW P ops Q r (a.put o.dst undef) w) : wpW P ops Q ((o, true) :: r) a w := ⟨undef, .inr ⟨hw, rfl⟩, h⟩
theorem wpW_do {P : Program} {ops : Array Oper} {Q : Exit → Act → World → Prop} {o : Oper} {r : List (Oper × Bool)} {a : Act} {w : World}
    (h : ∀ K : Exit → Act → World → Prop, Hid (∀ a w, wpW P ops Q r a w → K .normal a w) → wpList P ops K [o] a w) : wpW P ops Q ((o, false) :: r) a w := fun Q' hQ' => h Q' hQ'

/-! The same, beside what holds of the world all along the region. -/
/-- Those marked true leave a value, the same in every world that meets S; the others are walked one by one, and S is shown anew behind each. -/
def wpS (P : Program) (ops : Array Oper) (Q : Exit → Act → World → Prop) (S : World → Prop) : List (Oper × Bool) → Act → World → Prop
  | [], a, w => Q .normal a w
  | (o, true) :: r, a, w => ∃ v, YieldsIf P ops S o v a ∧ S w ∧ wpS P ops Q S r (a.put o.dst v) w
  | (o, false) :: r, a, w => ∀ Q' : Exit → Act → World → Prop, (∀ a w, S w → wpS P ops Q S r a w → Q' .normal a w) → wpList P ops Q' [o] a w

theorem wpAny_s {P : Program} {ops : Array Oper} {Q : Exit → Act → World → Prop} {S : World → Prop} (hs : Region.noSelect ops = true)
    (hQ : ∀ c d v a w, Q (.panic c) (Act.put a d v) w → Q (.panic c) a w) : ∀ (π : List (Nat × Bool)) (listed : Array Bool) (a : Act) (w : World),
    okOrder ops listed π = true → wpS P ops Q S (π.map fun x => (nthOp ops.toList x.1, x.2)) a w → wpAnyH P .any ops Q S π.length listed a w := by
  intro π
  induction π with
  | nil =>
    intro listed a w ho h
    simp only [okOrder, List.isEmpty_iff] at ho
    exact wpAnyH_done ho h _
  | cons x r ih =>
    obtain ⟨i, b⟩ := x
    intro listed a w ho h
    cases b with
    | true =>
      simp only [okOrder, Bool.and_eq_true] at ho
      obtain ⟨⟨hf, hr⟩, ho⟩ := ho
      obtain ⟨v, hy, hS, hrest⟩ := h
      have hlt : i < ops.size := ready_lt (by simpa using hr)
      have hi : ops[i]? = some (nthOp ops.toList i) := by
        have := nthOp_get ops.toList i (by simpa using hlt)
        simpa using this
      exact wpAnyH_take hi hs hf hr (fun c a w h => hQ c _ _ a w h) hy hS (ih _ _ _ ho hrest)
    | false =>
      simp only [okOrder, Bool.and_eq_true, beq_iff_eq] at ho
      obtain ⟨hr, ho⟩ := ho
      have hlt : i < ops.size := ready_lt (by rw [hr]; exact List.mem_singleton.2 rfl)
      have hi : ops[i]? = some (nthOp ops.toList i) := by
        have := nthOp_get ops.toList i (by simpa using hlt)
        simpa using this
      refine wpAnyH_all hr (by simp) (fun j hj => ?_)
      rw [List.mem_singleton] at hj
      subst hj
      have h' := h (Exit.then (fun a w => S w ∧ wpAnyH P .any ops Q S r.length (listed.setIfInBounds j true) a w) Q) (fun a w hS hh => ⟨hS, ih _ _ _ ho hh⟩)
      unfold wpOp
      rw [hi]
      simp only [wpList] at h'
      show if _ then _ else _
      split
      · rename_i hw
        rw [if_pos hw] at h'
        rcases h' with h' | ⟨h1, h2⟩
        · exact .inl (wp_exit (fun _ _ _ h => h) (fun _ _ h => h) h')
        · exact .inr ⟨h1, h2⟩
      · rename_i hw
        rw [if_neg hw] at h'
        exact h'

/-- A region that draws its order, walked in an order of ours, beside S. -/
theorem wp_region_s {P : Program} {id : Nat} {ops : Array Oper} {Q : Exit → Act → World → Prop} {a : Act} {w : World} (S : World → Prop) (π : List (Nat × Bool))
    (hm : (P.follows .mixedOrders && Region.noSelect ops && (π.length == ops.size) && okOrder ops (Array.replicate ops.size false) π) = true)
    (hQ : ∀ c d v a w, Q (.panic c) (Act.put a d v) w → Q (.panic c) a w)
    (h : wpS P ops Q S (π.map fun x => (nthOp ops.toList x.1, x.2)) a w.drew) : (Code.region id ops true).wp P Q a w := by
  simp only [Bool.and_eq_true, beq_iff_eq] at hm
  obtain ⟨⟨⟨h1, h2⟩, h3⟩, h4⟩ := hm
  refine wp_region_held (S := S) h1 ?_
  rw [← h3]
  exact wpAny_s h2 hQ π _ a _ (by rw [h3]; exact h4) h

theorem wpS_nil {P : Program} {ops : Array Oper} {Q : Exit → Act → World → Prop} {S : World → Prop} {a : Act} {w : World} (h : Q .normal a w) : wpS P ops Q S [] a w := h
theorem wpS_take {P : Program} {ops : Array Oper} {Q : Exit → Act → World → Prop} {S : World → Prop} {o : Oper} {r : List (Oper × Bool)} {a : Act} {w : World} {v : Value}
    (hS : Hid (S w)) (hw : Region.wanted o (yielded ops a.tmps) = true) (hv : ∀ w, S w → (execOp a.eval o).run P w = .ok (.value v) w) (h : wpS P ops Q S r (a.put o.dst v) w) : wpS P ops Q S ((o, true) :: r) a w := ⟨v, .inl ⟨hw, hv⟩, hS, h⟩
theorem wpS_skip {P : Program} {ops : Array Oper} {Q : Exit → Act → World → Prop} {S : World → Prop} {o : Oper} {r : List (Oper × Bool)} {a : Act} {w : World}
    (hS : Hid (S w)) (hw : Region.wanted o (yielded ops a.tmps) = false) (h : wpS P ops Q S r (a.put o.dst undef) w) : wpS P ops Q S ((o, true) :: r) a w := ⟨undef, .inr ⟨hw, rfl⟩, hS, h⟩
theorem wpS_do {P : Program} {ops : Array Oper} {Q : Exit → Act → World → Prop} {S : World → Prop} {o : Oper} {r : List (Oper × Bool)} {a : Act} {w : World}
    (h : ∀ K : Exit → Act → World → Prop, Hid (∀ a w, S w → wpS P ops Q S r a w → K .normal a w) → wpList P ops K [o] a w) : wpS P ops Q S ((o, false) :: r) a w := fun Q' hQ' => h Q' hQ'
end Go.Proofs.Ytpncbggjngamgaa
