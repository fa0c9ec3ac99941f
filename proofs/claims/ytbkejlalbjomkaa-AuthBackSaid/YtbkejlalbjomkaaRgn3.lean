/-
  A region that draws its order and ends in a store: what holds of the world need not hold behind the last operation.
-/
import Derived.Test.YtbkejlalbjomkaaRgn2
namespace Go.Proofs.Ytbkejlalbjomkaa
set_option linter.unusedVariables false
open Go.RowKit

section
variable {P : Program} {ops : Array Oper} {S : World → Prop} {Q : Exit → Act → World → Prop}
/-- Something is still to come. -/
def Open_ (ops : Array Oper) (listed : Array Bool) : Prop := ∃ m, m < ops.size ∧ listed.getD m true = false
def wpAnyG (P : Program) (ops : Array Oper) (Q : Exit → Act → World → Prop) (S : World → Prop) : Nat → Array Bool → Act → World → Prop
  | 0, listed, a, w => Region.ready .any ops listed = [] ∧ Q .normal a w
  | fuel + 1, listed, a, w => (Region.ready .any ops listed = [] → Q .normal a w) ∧
      ∀ i ∈ Region.ready .any ops listed, wpOp P ops Q i (fun a' w' => (Open_ ops (listed.setIfInBounds i true) → S w') ∧ wpAnyG P ops Q S fuel (listed.setIfInBounds i true) a' w') a w
theorem wpAny_of_g : ∀ (fuel : Nat) (listed : Array Bool) (a : Act) (w : World), wpAnyG P ops Q S fuel listed a w → wpAny P .any ops Q fuel listed a w
  | 0, _, _, _, h => h
  | fuel + 1, _, _, _, h => ⟨h.1, fun i hi => wpOp_mono (fun a' w' h' => wpAny_of_g fuel _ a' w' h'.2) (h.2 i hi)⟩
theorem wpAnyG_all {rs : List Nat} {fuel : Nat} {listed : Array Bool} {a : Act} {w : World} (hr : Region.ready .any ops listed = rs) (hne : rs ≠ [])
    (h : ∀ i ∈ rs, wpOp P ops Q i (fun a' w' => (Open_ ops (listed.setIfInBounds i true) → S w') ∧ wpAnyG P ops Q S fuel (listed.setIfInBounds i true) a' w') a w) : wpAnyG P ops Q S (fuel + 1) listed a w :=
  ⟨fun h0 => absurd (hr ▸ h0) hne, hr ▸ h⟩
theorem wpAnyG_done {listed : Array Bool} {a : Act} {w : World} (hr : Region.ready .any ops listed = []) (h : Q .normal a w) : ∀ fuel, wpAnyG P ops Q S fuel listed a w
  | 0 => ⟨hr, h⟩
  | _ + 1 => ⟨fun _ => h, by rw [hr]; simp⟩

/-- Another operation waits for number i. -/
def waitedFor (ops : Array Oper) (listed : Array Bool) (i : Nat) : Bool :=
  (List.range ops.size).any fun m => m != i && !listed.getD m true && match ops[m]? with
    | some om => om.after.any fun e => Region.binds .any e && e.on == i
    | none => false

theorem wpAnyG_first {i : Nat} {oi : Oper} {v : Value} (hi : ops[i]? = some oi) (hsel : ∀ (j : Nat) (o : Oper) cs b, ops[j]? = some o → o.op ≠ .select cs b)
    (hQ : ∀ c a w, Q (.panic c) (a.put oi.dst v) w → Q (.panic c) a w) :
    ∀ (fuel : Nat) (listed : Array Bool) (a : Act) (w : World), waitedFor ops listed i = true → Region.free .any ops listed i = true → i ∈ Region.ready .any ops listed → YieldsQ P ops S oi v a → S w →
      wpAnyG P ops Q S fuel (listed.setIfInBounds i true) (a.put oi.dst v) w → wpAnyG P ops Q S (fuel + 1) listed a w := by
  intro fuel
  induction fuel with
  | zero =>
    intro listed a w hwt hf hr hy hS H
    refine ⟨fun h => (by rw [h] at hr; cases hr), fun j hj => ?_⟩
    rcases Decidable.em (j = i) with e | e
    · rw [e]; exact hy.wpOp hi hS ⟨fun _ => hS, H⟩
    · have := ready_mono hj e
      rw [H.1] at this
      cases this
  | succ fuel ih =>
    intro listed a w hwt hf hr hy hS H
    refine ⟨fun h => (by rw [h] at hr; cases hr), fun j hj => ?_⟩
    rcases Decidable.em (j = i) with e | e
    · rw [e]; exact hy.wpOp hi hS ⟨fun _ => hS, H⟩
    obtain ⟨hjun, oj, hoj, hall⟩ := mem_ready.1 hj
    have hiun := (mem_ready.1 hr).1
    have hno : ∀ x ∈ oj.after, Region.binds .any x = true → x.on ≠ i := fun x hx hb he => by
      have h1 := hall x hx hb
      rw [he] at h1
      rcases Nat.lt_or_ge i listed.size with h' | h'
      · simp [h'] at hiun h1
        rw [hiun] at h1
        cases h1
      · simp [Array.getElem?_eq_none h'] at h1
    -- the one that waits for i is not j, and is still to come
    unfold waitedFor at hwt
    simp only [List.any_eq_true, List.mem_range, Bool.and_eq_true, bne_iff_ne, Bool.not_eq_true'] at hwt
    obtain ⟨m, hm, ⟨hmi, hmun⟩, hmw⟩ := hwt
    have hmj : j ≠ m := by
      rintro rfl
      rw [hoj] at hmw
      obtain ⟨x, hx, hxb⟩ := Array.any_eq_true'.1 hmw
      simp only [Bool.and_eq_true, beq_iff_eq] at hxb
      exact hno x hx hxb.1 hxb.2
    have hopen : Open_ ops ((listed.setIfInBounds i true).setIfInBounds j true) := ⟨m, hm, by rw [getD_set_ne true hmj, getD_set_ne true (Ne.symm hmi)]; exact hmun⟩
    have hwt' : waitedFor ops (listed.setIfInBounds j true) i = true := by
      unfold waitedFor
      simp only [List.any_eq_true, List.mem_range, Bool.and_eq_true, bne_iff_ne, Bool.not_eq_true']
      exact ⟨m, hm, ⟨hmi, by rw [getD_set_ne true hmj]; exact hmun⟩, hmw⟩
    have hap := Region.free_spec hi hf j oj hoj e hjun hno
    have hfalse : YieldsIf P ops (fun _ => False) oi v a := by
      rcases hy with ⟨h1, _⟩ | h1
      · exact .inl ⟨h1, fun _ h => h.elim⟩
      · exact .inr h1
    have h2 := wpOp_tell hoj (wpOp_putIf hoj hap (fun cs b => hsel i oi cs b hi) (fun cs b => hsel j oj cs b hoj) hQ hfalse (H.2 j (ready_mono hj e)))
    refine wpOp_mono (fun a' w' h3 => ?_) h2
    obtain ⟨⟨_, hS0, h3⟩, ds, u, rfl⟩ := h3
    have hS' := hS0 hopen
    refine ⟨fun _ => hS', ih (listed.setIfInBounds j true) _ w' hwt' ?_ (ready_mono hr (Ne.symm e)) ?_ hS' ?_⟩
    · unfold Region.free at hf ⊢
      rw [hi] at hf ⊢
      simp only [List.all_eq_true, List.mem_range] at hf ⊢
      intro k hk
      have := hf k hk
      simp only [Bool.or_eq_true] at this ⊢
      rcases this with (h | h) | h
      · exact .inl (.inl h)
      · refine .inl (.inr ?_)
        by_cases hjk : j = k
        · subst hjk
          rw [hjun] at h
          cases h
        · rw [getD_set_ne true hjk]; exact h
      · exact .inr h
    · have h3' := (Oper.apart_spec hap).2.2
      refine hy.same ?_ ?_
      · rw [execOp_put oi (fun cs b => hsel i oi cs b hi) _ oj.dst u h3', act_defers]
      · rw [wanted_put oi _ oj.dst u h3']
    · rw [Array.setIfInBounds_comm _ _ e]
      exact h3

def okStepsG (ops : Array Oper) : Array Bool → List RStep → Bool
  | listed, [] => (Region.ready .any ops listed).isEmpty && (List.range ops.size).all fun m => listed.getD m true
  | listed, .take i :: r => waitedFor ops listed i && Region.free .any ops listed i && (Region.ready .any ops listed).contains i && okStepsG ops (listed.setIfInBounds i true) r
  | listed, .one i :: r => (Region.ready .any ops listed == [i]) && okStepsG ops (listed.setIfInBounds i true) r
  | _, .two _ _ :: _ => false
def wpG (P : Program) (ops : Array Oper) (Q : Exit → Act → World → Prop) (S : World → Prop) : List RNode → Act → World → Prop
  | [], a, w => Q .normal a w
  | .take o :: r, a, w => ∃ v, YieldsQ P ops S o v a ∧ S w ∧ wpG P ops Q S r (a.put o.dst v) w
  | .one o :: r, a, w => ∀ Q' : Exit → Act → World → Prop, (∀ a w, (r ≠ [] → S w) → wpG P ops Q S r a w → Q' .normal a w) → wpList P ops Q' [o] a w
  | .two _ _ :: _, _, _ => False
theorem wpAny_gs (hs : Region.noSelect ops = true) (hQ : ∀ c d v a w, Q (.panic c) (Act.put a d v) w → Q (.panic c) a w) : ∀ (π : List RStep) (listed : Array Bool) (a : Act) (w : World),
    okStepsG ops listed π = true → wpG P ops Q S (π.map (RStep.node ops.toList)) a w → wpAnyG P ops Q S (π.map RStep.count).sum listed a w := by
  have get : ∀ i, i < ops.size → ops[i]? = some (nthOp ops.toList i) := fun i hlt => by
    have := nthOp_get ops.toList i (by simpa using hlt)
    simpa using this
  intro π
  induction π with
  | nil =>
    intro listed a w ho h
    simp only [okStepsG, Bool.and_eq_true, List.isEmpty_iff] at ho
    exact wpAnyG_done ho.1 h _
  | cons x r ih =>
    intro listed a w ho h
    cases x with
    | take i =>
      simp only [okStepsG, Bool.and_eq_true] at ho
      obtain ⟨⟨⟨hw, hf⟩, hr⟩, ho⟩ := ho
      obtain ⟨v, hy, hS, hrest⟩ := h
      have hi := get i (ready_lt (by simpa using hr))
      show wpAnyG P ops Q S (1 + (r.map RStep.count).sum) listed a w
      rw [Nat.add_comm]
      exact wpAnyG_first hi (Region.noSelect_spec hs) (fun c a w h => hQ c _ _ a w h) _ listed a w hw hf (by simpa using hr) hy hS (ih _ _ _ ho hrest)
    | one i =>
      simp only [okStepsG, Bool.and_eq_true, beq_iff_eq] at ho
      obtain ⟨hr, ho⟩ := ho
      have hi := get i (ready_lt (by rw [hr]; exact List.mem_singleton.2 rfl))
      show wpAnyG P ops Q S (1 + (r.map RStep.count).sum) listed a w
      rw [Nat.add_comm]
      refine wpAnyG_all hr (by simp) (fun j hj => ?_)
      rw [List.mem_singleton] at hj
      subst hj
      refine wpOp_of_list hi (h _ (fun a w hS hh => ⟨fun hop => hS (fun hnil => ?_), ih _ _ _ ho hh⟩))
      have hrn : r = [] := by simpa using hnil
      subst hrn
      simp only [okStepsG, Bool.and_eq_true, List.all_eq_true, List.mem_range] at ho
      obtain ⟨m, hm, hmu⟩ := hop
      rw [ho.2 m hm] at hmu
      cases hmu
    | two i j => simp [okStepsG] at ho

/-- A region that draws its order, walked step by step, beside S; S need not hold behind the last step. -/
theorem wp_region_g {id : Nat} {a : Act} {w : World} (S : World → Prop) (π : List RStep)
    (hm : (P.follows .mixedOrders && Region.noSelect ops && ((π.map RStep.count).sum == ops.size) && okStepsG ops (Array.replicate ops.size false) π) = true)
    (hQ : ∀ c d v a w, Q (.panic c) (Act.put a d v) w → Q (.panic c) a w)
    (h : wpG P ops Q S (π.map (RStep.node ops.toList)) a w.drew) : (Code.region id ops true).wp P Q a w := by
  simp only [Bool.and_eq_true, beq_iff_eq] at hm
  obtain ⟨⟨⟨h1, h2⟩, h3⟩, h4⟩ := hm
  refine wp_region_any h1 ?_
  rw [← h3]
  exact wpAny_of_g (S := S) _ _ _ _ (wpAny_gs h2 hQ π _ a _ (by rw [h3]; exact h4) h)

variable {r : List RNode} {o o' : Oper} {a : Act} {w : World} {v : Value}
theorem wpG_nil (h : Q .normal a w) : wpG P ops Q S [] a w := h
theorem wpG_take (hS : Hid (S w)) (hw : Region.wanted o (yielded ops a.tmps) = true) (hv : ∀ w, S w → (execOp a.eval o).run P w = .ok (.value v) w) (h : wpG P ops Q S r (a.put o.dst v) w) : wpG P ops Q S (.take o :: r) a w :=
  ⟨v, .inl ⟨hw, fun w hS => .inl (hv w hS)⟩, hS, h⟩
theorem wpG_call (hS : Hid (S w)) (hw : Region.wanted o (yielded ops a.tmps) = true) {f : FuncId} {args : Array Value} (hv : ∀ w, S w → (execOp a.eval o).run P w = .ok (.enter f args) w)
    (hc : ∀ w, S w → Calls P f args w (fun e w' => e = .returned v ∧ w = w')) (h : wpG P ops Q S r (a.put o.dst v) w) : wpG P ops Q S (.take o :: r) a w :=
  ⟨v, .inl ⟨hw, fun w hS => .inr ⟨f, args, hv w hS, hc w hS⟩⟩, hS, h⟩
theorem wpG_do (h : ∀ K : Exit → Act → World → Prop, Hid (∀ a w, S w → wpG P ops Q S r a w → K .normal a w) → wpList P ops K [o] a w) : wpG P ops Q S (.one o :: r) a w := fun Q' hQ' => h Q' (fun a w hS hh => hQ' a w (fun _ => hS) hh)
theorem wpG_last (h : ∀ K : Exit → Act → World → Prop, Hid (∀ a w, Q .normal a w → K .normal a w) → wpList P ops K [o] a w) : wpG P ops Q S [.one o] a w := fun Q' hQ' => h Q' (fun a w hh => hQ' a w (fun h => absurd rfl h) hh)
end
end Go.Proofs.Ytbkejlalbjomkaa
