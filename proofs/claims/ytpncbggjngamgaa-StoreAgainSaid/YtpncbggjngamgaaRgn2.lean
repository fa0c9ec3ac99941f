/-
  A region that draws its order, with quiet calls beside it, and two effects that may come in either order.
-/
import Derived.Test.YtpncbggjngamgaaRgn
namespace Go.Proofs.Ytpncbggjngamgaa
set_option linter.unusedVariables false
open Go.RowKit

/-- In every world that meets S the operation leaves v and nothing else: by itself, or by a call that only reads. -/
def YieldsQ (P : Program) (ops : Array Oper) (S : World → Prop) (o : Oper) (v : Value) (a : Act) : Prop :=
  (Region.wanted o (yielded ops a.tmps) = true ∧ ∀ w, S w → (execOp a.eval o).run P w = .ok (.value v) w ∨
    ∃ f args, (execOp a.eval o).run P w = .ok (.enter f args) w ∧ Calls P f args w (fun e w' => e = .returned v ∧ w = w')) ∨
  (Region.wanted o (yielded ops a.tmps) = false ∧ v = undef)

section
variable {P : Program} {ops : Array Oper} {S : World → Prop} {Q : Exit → Act → World → Prop}
theorem YieldsQ.wpOp {i : Nat} {o : Oper} {v : Value} {a : Act} (hi : ops[i]? = some o) (hy : YieldsQ P ops S o v a) {K : Act → World → Prop} {w : World} (hS : S w) (h : K (a.put o.dst v) w) : wpOp P ops Q i K a w := by
  unfold Go.wpOp
  rw [hi]
  show if _ then _ else _
  rcases hy with ⟨hw, hv⟩ | ⟨hw, rfl⟩
  · rw [if_pos hw]
    refine .inl ?_
    unfold Oper.wp
    rcases hv w hS with hv | ⟨f, args, hv, hc⟩
    · rw [hv]; exact h
    · rw [hv]
      refine hc.mono ?_
      rintro e w' ⟨rfl, rfl⟩
      exact h
  · rw [if_neg (by rw [hw]; decide)]
    exact h
theorem YieldsQ.same {o : Oper} {v : Value} {a a' : Act} (hy : YieldsQ P ops S o v a) (he : execOp a'.eval o = execOp a.eval o) (hw : Region.wanted o (yielded ops a'.tmps) = Region.wanted o (yielded ops a.tmps)) : YieldsQ P ops S o v a' := by
  unfold YieldsQ at *
  rw [he, hw]
  exact hy
/-- The state behind an operation is the state ahead of it, its slot and the deferred calls aside. -/
theorem wpOp_tell {j : Nat} {o : Oper} {K : Act → World → Prop} {a : Act} {w : World} (hj : ops[j]? = some o) (h : wpOp P ops Q j K a w) :
    wpOp P ops Q j (fun a' w' => K a' w' ∧ ∃ ds u, a' = ({ a with defers := ds } : Act).put o.dst u) a w := by
  unfold wpOp at *
  rw [hj] at *
  revert h
  show (if _ then _ else _) → (if _ then _ else _)
  intro h
  split
  · rename_i hw
    rw [if_pos hw] at h
    rcases h with h | h
    · refine .inl ?_
      unfold Oper.wp at *
      generalize (execOp a.eval o).run P w = r at *
      cases r with
      | ok n w' =>
        cases n <;> simp only [Oper.upon] at h ⊢
        case value u => exact ⟨h, a.defers, u, rfl⟩
        case skip => exact ⟨h, a.defers, undef, rfl⟩
        case defer d => exact ⟨h, d :: a.defers, undef, rfl⟩
        case enter f args => exact h.mono (fun e w'' he => by cases e <;> first | exact ⟨he, a.defers, _, rfl⟩ | exact he)
        case row row args => exact h.mono fun u w'' he => ⟨he, a.defers, u, rfl⟩
      | halt x w' => cases x <;> simp only [Oper.upon] at h ⊢ <;> exact h
    · exact .inr h
  · rename_i hw
    rw [if_neg hw] at h
    exact ⟨h, a.defers, undef, rfl⟩

theorem act_defers (a : Act) (ds : List Deferred) (o : Oper) : execOp ({ a with defers := ds } : Act).eval o = execOp a.eval o := rfl

/-- An operation that yields so may be taken first. -/
theorem wpAnyQ_first {i : Nat} {oi : Oper} {v : Value} (hi : ops[i]? = some oi) (hsel : ∀ (j : Nat) (o : Oper) cs b, ops[j]? = some o → o.op ≠ .select cs b)
    (hQ : ∀ c a w, Q (.panic c) (a.put oi.dst v) w → Q (.panic c) a w) :
    ∀ (fuel : Nat) (listed : Array Bool) (a : Act) (w : World), Region.free .any ops listed i = true → i ∈ Region.ready .any ops listed → YieldsQ P ops S oi v a → S w →
      wpAnyH P .any ops Q S fuel (listed.setIfInBounds i true) (a.put oi.dst v) w → wpAnyH P .any ops Q S (fuel + 1) listed a w := by
  intro fuel
  induction fuel with
  | zero =>
    intro listed a w hf hr hy hS H
    refine ⟨fun h => (by rw [h] at hr; cases hr), fun j hj => ?_⟩
    rcases Decidable.em (j = i) with e | e
    · rw [e]; exact hy.wpOp hi hS ⟨hS, H⟩
    · have := ready_mono hj e
      rw [H.1] at this
      cases this
  | succ fuel ih =>
    intro listed a w hf hr hy hS H
    refine ⟨fun h => (by rw [h] at hr; cases hr), fun j hj => ?_⟩
    rcases Decidable.em (j = i) with e | e
    · rw [e]; exact hy.wpOp hi hS ⟨hS, H⟩
    obtain ⟨hjun, oj, hoj, hall⟩ := mem_ready.1 hj
    have hiun := (mem_ready.1 hr).1
    have hno : ∀ x ∈ oj.after, Region.binds .any x = true → x.on ≠ i := fun x hx hb he => by
      have h1 := hall x hx hb
      rw [he] at h1
      rcases Nat.lt_or_ge i listed.size with h' | h'
      · simp [h'] at hiun h1
        rw [hiun] at h1
        cases h1
      · simp [Array.getElem?_eq_none h'] at h1
    have hap := Region.free_spec hi hf j oj hoj e hjun hno
    -- the value of 'oi' laid in ahead makes no odds to 'oj'
    have hfalse : YieldsIf P ops (fun _ => False) oi v a := by
      rcases hy with ⟨h1, _⟩ | h1
      · exact .inl ⟨h1, fun _ h => h.elim⟩
      · exact .inr h1
    have h2 := wpOp_tell hoj (wpOp_putIf hoj hap (fun cs b => hsel i oi cs b hi) (fun cs b => hsel j oj cs b hoj) hQ hfalse (H.2 j (ready_mono hj e)))
    refine wpOp_mono (fun a' w' h3 => ?_) h2
    obtain ⟨⟨_, hS', h3⟩, ds, u, rfl⟩ := h3
    refine ⟨hS', ih (listed.setIfInBounds j true) _ w' ?_ (ready_mono hr (Ne.symm e)) ?_ hS' ?_⟩
    · -- free still
      unfold Region.free at hf ⊢
      rw [hi] at hf ⊢
      simp only [List.all_eq_true, List.mem_range] at hf ⊢
      intro k hk
      have := hf k hk
      simp only [Bool.or_eq_true] at this ⊢
      rcases this with (h | h) | h
      · exact .inl (.inl h)
      · refine .inl (.inr ?_)
        by_cases hjk : j = k
        · subst hjk
          rw [hjun] at h
          cases h
        · rw [getD_set_ne true hjk]; exact h
      · exact .inr h
    · have h3' := (Oper.apart_spec hap).2.2
      refine hy.same ?_ ?_
      · rw [execOp_put oi (fun cs b => hsel i oi cs b hi) _ oj.dst u h3', act_defers]
      · rw [wanted_put oi _ oj.dst u h3']
    · rw [Array.setIfInBounds_comm _ _ e]
      exact h3

inductive RStep where
  | take (i : Nat)
  | one (i : Nat)
  | two (i j : Nat)
inductive RNode where
  | take (o : Oper)
  | one (o : Oper)
  | two (o o' : Oper)
def RStep.node (l : List Oper) : RStep → RNode
  | .take i => .take (nthOp l i)
  | .one i => .one (nthOp l i)
  | .two i j => .two (nthOp l i) (nthOp l j)
def RStep.count : RStep → Nat
  | .two _ _ => 2
  | _ => 1
def okSteps (ops : Array Oper) : Array Bool → List RStep → Bool
  | listed, [] => (Region.ready .any ops listed).isEmpty
  | listed, .take i :: r => Region.free .any ops listed i && (Region.ready .any ops listed).contains i && okSteps ops (listed.setIfInBounds i true) r
  | listed, .one i :: r => (Region.ready .any ops listed == [i]) && okSteps ops (listed.setIfInBounds i true) r
  | listed, .two i j :: r => (Region.ready .any ops listed == [i, j]) && (i != j) && (Region.ready .any ops (listed.setIfInBounds i true) == [j]) && (Region.ready .any ops (listed.setIfInBounds j true) == [i]) && okSteps ops ((listed.setIfInBounds i true).setIfInBounds j true) r

def wpR (P : Program) (ops : Array Oper) (Q : Exit → Act → World → Prop) (S : World → Prop) : List RNode → Act → World → Prop
  | [], a, w => Q .normal a w
  | .take o :: r, a, w => ∃ v, YieldsQ P ops S o v a ∧ S w ∧ wpR P ops Q S r (a.put o.dst v) w
  | .one o :: r, a, w => ∀ Q' : Exit → Act → World → Prop, (∀ a w, S w → wpR P ops Q S r a w → Q' .normal a w) → wpList P ops Q' [o] a w
  | .two o o' :: r, a, w => ∀ Q' Q1 Q2 : Exit → Act → World → Prop, (∀ a w, S w → wpR P ops Q S r a w → Q' .normal a w) →
      (∀ a w, S w → wpList P ops Q' [o'] a w → Q1 .normal a w) → (∀ a w, S w → wpList P ops Q' [o] a w → Q2 .normal a w) → wpList P ops Q1 [o] a w ∧ wpList P ops Q2 [o'] a w

/-- One operation walked as a list of its own. -/
theorem wpOp_of_list {i : Nat} {o : Oper} {a : Act} {w : World} {K : Act → World → Prop} (hi : ops[i]? = some o) (h : wpList P ops (Exit.then K Q) [o] a w) : wpOp P ops Q i K a w := by
  unfold wpOp
  rw [hi]
  simp only [wpList] at h
  show if _ then _ else _
  split
  · rename_i hw
    rw [if_pos hw] at h
    rcases h with h | ⟨h1, h2⟩
    · exact .inl (wp_exit (fun _ _ _ h => h) (fun _ _ h => h) h)
    · exact .inr ⟨h1, h2⟩
  · rename_i hw
    rw [if_neg hw] at h
    exact h

theorem wpAny_r (hs : Region.noSelect ops = true) (hQ : ∀ c d v a w, Q (.panic c) (Act.put a d v) w → Q (.panic c) a w) : ∀ (π : List RStep) (listed : Array Bool) (a : Act) (w : World),
    okSteps ops listed π = true → wpR P ops Q S (π.map (RStep.node ops.toList)) a w → wpAnyH P .any ops Q S (π.map RStep.count).sum listed a w := by
  have get : ∀ i, i < ops.size → ops[i]? = some (nthOp ops.toList i) := fun i hlt => by
    have := nthOp_get ops.toList i (by simpa using hlt)
    simpa using this
  intro π
  induction π with
  | nil =>
    intro listed a w ho h
    simp only [okSteps, List.isEmpty_iff] at ho
    exact wpAnyH_done ho h _
  | cons x r ih =>
    intro listed a w ho h
    cases x with
    | take i =>
      simp only [okSteps, Bool.and_eq_true] at ho
      obtain ⟨⟨hf, hr⟩, ho⟩ := ho
      obtain ⟨v, hy, hS, hrest⟩ := h
      have hi := get i (ready_lt (by simpa using hr))
      show wpAnyH P .any ops Q S (1 + (r.map RStep.count).sum) listed a w
      rw [Nat.add_comm]
      exact wpAnyQ_first hi (Region.noSelect_spec hs) (fun c a w h => hQ c _ _ a w h) _ listed a w hf (by simpa using hr) hy hS (ih _ _ _ ho hrest)
    | one i =>
      simp only [okSteps, Bool.and_eq_true, beq_iff_eq] at ho
      obtain ⟨hr, ho⟩ := ho
      have hi := get i (ready_lt (by rw [hr]; exact List.mem_singleton.2 rfl))
      show wpAnyH P .any ops Q S (1 + (r.map RStep.count).sum) listed a w
      rw [Nat.add_comm]
      refine wpAnyH_all hr (by simp) (fun j hj => ?_)
      rw [List.mem_singleton] at hj
      subst hj
      exact wpOp_of_list hi (h _ (fun a w hS hh => ⟨hS, ih _ _ _ ho hh⟩))
    | two i j =>
      simp only [okSteps, Bool.and_eq_true, beq_iff_eq, bne_iff_ne] at ho
      obtain ⟨⟨⟨⟨hr, hne⟩, hr1⟩, hr2⟩, ho⟩ := ho
      have hi := get i (ready_lt (by rw [hr]; simp))
      have hj := get j (ready_lt (by rw [hr]; simp))
      show wpAnyH P .any ops Q S (2 + (r.map RStep.count).sum) listed a w
      rw [show 2 + (r.map RStep.count).sum = (r.map RStep.count).sum + 1 + 1 from by omega]
      have hh := h (Exit.then (fun a w => S w ∧ wpAnyH P .any ops Q S (r.map RStep.count).sum ((listed.setIfInBounds i true).setIfInBounds j true) a w) Q)
        (Exit.then (fun a w => S w ∧ wpAnyH P .any ops Q S ((r.map RStep.count).sum + 1) (listed.setIfInBounds i true) a w) Q)
        (Exit.then (fun a w => S w ∧ wpAnyH P .any ops Q S ((r.map RStep.count).sum + 1) (listed.setIfInBounds j true) a w) Q)
        (fun a w hS hh => ⟨hS, ih _ _ _ ho hh⟩)
        (fun a w hS hh => ⟨hS, wpAnyH_all hr1 (by simp) (fun k hk => by
          rw [List.mem_singleton] at hk
          subst hk
          exact wpOp_of_list hj hh)⟩)
        (fun a w hS hh => ⟨hS, wpAnyH_all hr2 (by simp) (fun k hk => by
          rw [List.mem_singleton] at hk
          subst hk
          rw [Array.setIfInBounds_comm _ _ (Ne.symm hne)]
          exact wpOp_of_list hi hh)⟩)
      refine wpAnyH_all hr (by simp) (fun k hk => ?_)
      simp only [List.mem_cons, List.not_mem_nil, or_false] at hk
      rcases hk with rfl | rfl
      · exact wpOp_of_list hi hh.1
      · exact wpOp_of_list hj hh.2

/-- A region that draws its order, walked step by step, beside S. -/
theorem wp_region_r {id : Nat} {a : Act} {w : World} (S : World → Prop) (π : List RStep)
    (hm : (P.follows .mixedOrders && Region.noSelect ops && ((π.map RStep.count).sum == ops.size) && okSteps ops (Array.replicate ops.size false) π) = true)
    (hQ : ∀ c d v a w, Q (.panic c) (Act.put a d v) w → Q (.panic c) a w)
    (h : wpR P ops Q S (π.map (RStep.node ops.toList)) a w.drew) : (Code.region id ops true).wp P Q a w := by
  simp only [Bool.and_eq_true, beq_iff_eq] at hm
  obtain ⟨⟨⟨h1, h2⟩, h3⟩, h4⟩ := hm
  refine wp_region_held (S := S) h1 ?_
  rw [← h3]
  exact wpAny_r h2 hQ π _ a _ (by rw [h3]; exact h4) h

variable {r : List RNode} {o o' : Oper} {a : Act} {w : World} {v : Value}
theorem wpR_nil (h : Q .normal a w) : wpR P ops Q S [] a w := h
theorem wpR_take (hS : Hid (S w)) (hw : Region.wanted o (yielded ops a.tmps) = true) (hv : ∀ w, S w → (execOp a.eval o).run P w = .ok (.value v) w) (h : wpR P ops Q S r (a.put o.dst v) w) : wpR P ops Q S (.take o :: r) a w :=
  ⟨v, .inl ⟨hw, fun w hS => .inl (hv w hS)⟩, hS, h⟩
theorem wpR_call (hS : Hid (S w)) (hw : Region.wanted o (yielded ops a.tmps) = true) {f : FuncId} {args : Array Value} (hv : ∀ w, S w → (execOp a.eval o).run P w = .ok (.enter f args) w)
    (hc : ∀ w, S w → Calls P f args w (fun e w' => e = .returned v ∧ w = w')) (h : wpR P ops Q S r (a.put o.dst v) w) : wpR P ops Q S (.take o :: r) a w :=
  ⟨v, .inl ⟨hw, fun w hS => .inr ⟨f, args, hv w hS, hc w hS⟩⟩, hS, h⟩
theorem wpR_skip (hS : Hid (S w)) (hw : Region.wanted o (yielded ops a.tmps) = false) (h : wpR P ops Q S r (a.put o.dst undef) w) : wpR P ops Q S (.take o :: r) a w := ⟨undef, .inr ⟨hw, rfl⟩, hS, h⟩
theorem wpR_do (h : ∀ K : Exit → Act → World → Prop, Hid (∀ a w, S w → wpR P ops Q S r a w → K .normal a w) → wpList P ops K [o] a w) : wpR P ops Q S (.one o :: r) a w := fun Q' hQ' => h Q' hQ'
theorem wpR_two (h1 : ∀ K K1 : Exit → Act → World → Prop, Hid (∀ a w, S w → wpR P ops Q S r a w → K .normal a w) → Hid (∀ a w, S w → wpList P ops K [o'] a w → K1 .normal a w) → wpList P ops K1 [o] a w)
    (h2 : ∀ K K1 : Exit → Act → World → Prop, Hid (∀ a w, S w → wpR P ops Q S r a w → K .normal a w) → Hid (∀ a w, S w → wpList P ops K [o] a w → K1 .normal a w) → wpList P ops K1 [o'] a w) : wpR P ops Q S (.two o o' :: r) a w :=
  fun Q' Q1 Q2 h h3 h4 => ⟨h1 Q' Q1 h h3, h2 Q' Q2 h h4⟩
end
end Go.Proofs.Ytpncbggjngamgaa
