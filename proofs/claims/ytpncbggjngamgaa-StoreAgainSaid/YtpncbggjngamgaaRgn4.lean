/-
  A region that draws its order, walked along a tree: where two operations stand ready, both ways.
-/
import Derived.Test.YtpncbggjngamgaaRgn2
namespace Go.Proofs.Ytpncbggjngamgaa
set_option linter.unusedVariables false
open Go.RowKit

inductive TStep where
  | nil
  | take (i : Nat) (r : TStep)
  | one (i : Nat) (r : TStep)
  | fork (i j : Nat) (r r' : TStep)
inductive TNode where
  | nil
  | take (o : Oper) (r : TNode)
  | one (o : Oper) (r : TNode)
  | fork (o o' : Oper) (r r' : TNode)
def TStep.node (l : List Oper) : TStep → TNode
  | .nil => .nil
  | .take i r => .take (nthOp l i) (r.node l)
  | .one i r => .one (nthOp l i) (r.node l)
  | .fork i j r r' => .fork (nthOp l i) (nthOp l j) (r.node l) (r'.node l)
def TStep.count : TStep → Nat
  | .nil => 0
  | .take _ r => r.count + 1
  | .one _ r => r.count + 1
  | .fork _ _ r _ => r.count + 1
def TStep.ok (ops : Array Oper) : Array Bool → TStep → Bool
  | listed, .nil => (Region.ready .any ops listed).isEmpty
  | listed, .take i r => Region.free .any ops listed i && (Region.ready .any ops listed).contains i && r.ok ops (listed.setIfInBounds i true)
  | listed, .one i r => (Region.ready .any ops listed == [i]) && r.ok ops (listed.setIfInBounds i true)
  | listed, .fork i j r r' => (Region.ready .any ops listed == [i, j]) && (r.count == r'.count) && r.ok ops (listed.setIfInBounds i true) && r'.ok ops (listed.setIfInBounds j true)

section
variable {P : Program} {ops : Array Oper} {S : World → Prop} {Q : Exit → Act → World → Prop}
def wpT (P : Program) (ops : Array Oper) (Q : Exit → Act → World → Prop) (S : World → Prop) : TNode → Act → World → Prop
  | .nil, a, w => Q .normal a w
  | .take o r, a, w => ∃ v, YieldsQ P ops S o v a ∧ S w ∧ wpT P ops Q S r (a.put o.dst v) w
  | .one o r, a, w => ∀ Q' : Exit → Act → World → Prop, (∀ a w, S w → wpT P ops Q S r a w → Q' .normal a w) → wpList P ops Q' [o] a w
  | .fork o o' r r', a, w => (∀ Q' : Exit → Act → World → Prop, (∀ a w, S w → wpT P ops Q S r a w → Q' .normal a w) → wpList P ops Q' [o] a w) ∧
      (∀ Q' : Exit → Act → World → Prop, (∀ a w, S w → wpT P ops Q S r' a w → Q' .normal a w) → wpList P ops Q' [o'] a w)

theorem wpAny_t (hs : Region.noSelect ops = true) (hQ : ∀ c d v a w, Q (.panic c) (Act.put a d v) w → Q (.panic c) a w) : ∀ (π : TStep) (listed : Array Bool) (a : Act) (w : World),
    π.ok ops listed = true → wpT P ops Q S (π.node ops.toList) a w → wpAnyH P .any ops Q S π.count listed a w := by
  have get : ∀ i, i < ops.size → ops[i]? = some (nthOp ops.toList i) := fun i hlt => by
    have := nthOp_get ops.toList i (by simpa using hlt)
    simpa using this
  intro π
  induction π with
  | nil =>
    intro listed a w ho h
    simp only [TStep.ok, List.isEmpty_iff] at ho
    exact wpAnyH_done ho h _
  | take i r ih =>
    intro listed a w ho h
    simp only [TStep.ok, Bool.and_eq_true] at ho
    obtain ⟨⟨hf, hr⟩, ho⟩ := ho
    obtain ⟨v, hy, hS, hrest⟩ := h
    have hi := get i (ready_lt (by simpa using hr))
    exact wpAnyQ_first hi (Region.noSelect_spec hs) (fun c a w h => hQ c _ _ a w h) _ listed a w hf (by simpa using hr) hy hS (ih _ _ _ ho hrest)
  | one i r ih =>
    intro listed a w ho h
    simp only [TStep.ok, Bool.and_eq_true, beq_iff_eq] at ho
    obtain ⟨hr, ho⟩ := ho
    have hi := get i (ready_lt (by rw [hr]; exact List.mem_singleton.2 rfl))
    refine wpAnyH_all hr (by simp) (fun j hj => ?_)
    rw [List.mem_singleton] at hj
    subst hj
    exact wpOp_of_list hi (h _ (fun a w hS hh => ⟨hS, ih _ _ _ ho hh⟩))
  | fork i j r r' ih ih' =>
    intro listed a w ho h
    simp only [TStep.ok, Bool.and_eq_true, beq_iff_eq] at ho
    obtain ⟨⟨⟨hr, hc⟩, ho⟩, ho'⟩ := ho
    have hi := get i (ready_lt (by rw [hr]; simp))
    have hj := get j (ready_lt (by rw [hr]; simp))
    refine wpAnyH_all hr (by simp) (fun k hk => ?_)
    simp only [List.mem_cons, List.not_mem_nil, or_false] at hk
    rcases hk with rfl | rfl
    · exact wpOp_of_list hi (h.1 _ (fun a w hS hh => ⟨hS, ih _ _ _ ho hh⟩))
    · exact wpOp_of_list hj (h.2 _ (fun a w hS hh => ⟨hS, by rw [hc]; exact ih' _ _ _ ho' hh⟩))

/-- A region that draws its order, walked along a tree, beside S. -/
theorem wp_region_t {id : Nat} {a : Act} {w : World} (S : World → Prop) (π : TStep)
    (hm : (P.follows .mixedOrders && Region.noSelect ops && (π.count == ops.size) && π.ok ops (Array.replicate ops.size false)) = true)
    (hQ : ∀ c d v a w, Q (.panic c) (Act.put a d v) w → Q (.panic c) a w)
    (h : wpT P ops Q S (π.node ops.toList) a w.drew) : (Code.region id ops true).wp P Q a w := by
  simp only [Bool.and_eq_true, beq_iff_eq] at hm
  obtain ⟨⟨⟨h1, h2⟩, h3⟩, h4⟩ := hm
  refine wp_region_held (S := S) h1 ?_
  rw [← h3]
  exact wpAny_t h2 hQ π _ a _ (by rw [h3]; exact h4) h

variable {r r' : TNode} {o o' : Oper} {a : Act} {w : World} {v : Value}
theorem wpT_nil (h : Q .normal a w) : wpT P ops Q S .nil a w := h
theorem wpT_take (hS : Hid (S w)) (hw : Region.wanted o (yielded ops a.tmps) = true) (hv : ∀ w, S w → (execOp a.eval o).run P w = .ok (.value v) w) (h : wpT P ops Q S r (a.put o.dst v) w) : wpT P ops Q S (.take o r) a w :=
  ⟨v, .inl ⟨hw, fun w hS => .inl (hv w hS)⟩, hS, h⟩
theorem wpT_call (hS : Hid (S w)) (hw : Region.wanted o (yielded ops a.tmps) = true) {f : FuncId} {args : Array Value} (hv : ∀ w, S w → (execOp a.eval o).run P w = .ok (.enter f args) w)
    (hc : ∀ w, S w → Calls P f args w (fun e w' => e = .returned v ∧ w = w')) (h : wpT P ops Q S r (a.put o.dst v) w) : wpT P ops Q S (.take o r) a w :=
  ⟨v, .inl ⟨hw, fun w hS => .inr ⟨f, args, hv w hS, hc w hS⟩⟩, hS, h⟩
theorem wpT_do (h : ∀ K : Exit → Act → World → Prop, Hid (∀ a w, S w → wpT P ops Q S r a w → K .normal a w) → wpList P ops K [o] a w) : wpT P ops Q S (.one o r) a w := fun Q' hQ' => h Q' hQ'
theorem wpT_fork (h1 : ∀ K : Exit → Act → World → Prop, Hid (∀ a w, S w → wpT P ops Q S r a w → K .normal a w) → wpList P ops K [o] a w)
    (h2 : ∀ K : Exit → Act → World → Prop, Hid (∀ a w, S w → wpT P ops Q S r' a w → K .normal a w) → wpList P ops K [o'] a w) : wpT P ops Q S (.fork o o' r r') a w := ⟨fun Q' h => h1 Q' h, fun Q' h => h2 Q' h⟩
end
end Go.Proofs.Ytpncbggjngamgaa
