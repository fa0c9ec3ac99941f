/-
  A region that draws its order, inside a round of a range over a function: the laws of Rgn and Rgn2 there.
-/
import Derived.Test.YtpncbggjngamgaaRgn2
import Derived.RangeFuncCalls
import Derived.OrdersIn
import Derived.TacticsIn
namespace Go.Proofs.Ytpncbggjngamgaa
set_option linter.unusedVariables false
open Go.RowKit

def noDefer (ops : Array Oper) : Bool := ops.toList.all fun o => match o.op with | .defer _ => false | _ => true
theorem noDefer_spec {ops : Array Oper} (h : noDefer ops = true) {i : Nat} {o : Oper} (ho : ops[i]? = some o) : ∀ c, o.op ≠ .defer c := by
  intro c hc
  unfold noDefer at h
  have hm : o ∈ ops.toList := by
    rw [Array.mem_toList_iff]
    exact Array.mem_of_getElem? ho
  have := List.all_eq_true.1 h o hm
  rw [hc] at this
  cases this
theorem rowsIn_of {P : Program} {row : String} {args : Array Value} {w : World} {R : Value → World → Prop} {l n : Nat} (h : Rows P row args w R) : RowsIn (Fence.wide.inRound l) n P row args w R :=
  fun c cs _ => by
    obtain ⟨v, w', r, s⟩ := h c cs
    exact ⟨v, w', r, stepsIn_wide.2 s⟩
theorem opIn_of_op {P : Program} {l n : Nat} {o : Oper} {a : Act} {w : World} {K : Act → World → Prop} {Q : Exit → Act → World → Prop} (hnd : ∀ c, o.op ≠ .defer c) (h : o.wp P a w K Q) : o.wpIn (Fence.wide.inRound l) n P a w K Q := by
  refine ⟨fun f _ => trivial, ?_⟩
  rw [Fence.inRound_round, Oper.semAt_some _ _ _ hnd]
  unfold Oper.wp at h
  generalize (execOp a.eval o).run P w = r at *
  cases r with
  | ok x w' =>
    cases x <;> simp only [Oper.upon, Oper.uponIn] at h ⊢ <;>
      first
        | exact h
        | exact ⟨fun h => (by cases h), CallsIn.inRound l (callsIn_wide.2 h)⟩
        | exact ⟨fun h => (by cases h), rowsIn_of h⟩
  | halt x w' => cases x <;> simp only [Oper.upon, Oper.uponIn] at h ⊢ <;> exact h
theorem wpOpIn_of {P : Program} {ops : Array Oper} {Q : Exit → Act → World → Prop} {l n i : Nat} {K : Act → World → Prop} {a : Act} {w : World} (hnd : noDefer ops = true) (hQo : ∀ a w, ¬ Q .outgrown a w) (h : wpOp P ops Q i K a w) : wpOpIn (Fence.wide.inRound l) n P ops Q i K a w := by
  unfold wpOp at h
  unfold wpOpIn
  cases hi : ops[i]? with
  | none => rw [hi] at h; exact h
  | some o =>
    rw [hi] at h
    simp only at h ⊢
    split
    · rename_i hw; rw [if_pos hw] at h; exact opIn_of_op (noDefer_spec hnd hi) (h.resolve_right fun ⟨_, a, w, hh⟩ => hQo a w hh)
    · rename_i hw; rw [if_neg hw] at h; exact ⟨fun _ _ => trivial, h⟩
theorem wpAnyIn_of {P : Program} {md : Region.Mode} {ops : Array Oper} {Q : Exit → Act → World → Prop} {l n : Nat} (hnd : noDefer ops = true) (hQo : ∀ a w, ¬ Q .outgrown a w) : ∀ (fuel : Nat) (listed : Array Bool) (a : Act) (w : World),
    wpAny P md ops Q fuel listed a w → wpAnyIn (Fence.wide.inRound l) n P md ops Q fuel listed a w := by
  intro fuel
  induction fuel with
  | zero => intro listed a w h; exact h
  | succ fuel ih => intro listed a w h; exact ⟨h.1, fun i hi => wpOpIn_mono (fun a w => ih _ a w) (wpOpIn_of hnd hQo (h.2 i hi))⟩
section
variable {P : Program} {id l n : Nat} {ops : Array Oper} {Q : Exit → Act → World → Prop} {a : Act} {w : World}
/-- In a round: a region that draws its order, walked in an order of ours, beside S. -/
theorem wpIn_round_s (S : World → Prop) (π : List (Nat × Bool))
    (hm : (P.follows .mixedOrders && Region.noSelect ops && noDefer ops && (π.length == ops.size) && okOrder ops (Array.replicate ops.size false) π) = true)
    (hQ : ∀ c d v a w, Q (.panic c) (Act.put a d v) w → Q (.panic c) a w) (hQo : ∀ a w, ¬ Q .outgrown a w)
    (h : wpS P ops Q S (π.map fun x => (nthOp ops.toList x.1, x.2)) a w.drew) : (Code.region id ops true).wpIn (Fence.wide.inRound l) n P Q a w := by
  simp only [Bool.and_eq_true, beq_iff_eq] at hm
  obtain ⟨⟨⟨⟨h1, h2⟩, h0⟩, h3⟩, h4⟩ := hm
  refine wpIn_region_any h1 (wpAnyIn_of h0 hQo _ _ _ _ (wpAny_of_held (S := S) _ _ _ _ ?_))
  rw [← h3]
  exact wpAny_s h2 hQ π _ a _ (by rw [h3]; exact h4) h
/-- In a round: a region that draws its order, walked step by step, beside S. -/
theorem wpIn_round_r (S : World → Prop) (π : List RStep)
    (hm : (P.follows .mixedOrders && Region.noSelect ops && noDefer ops && ((π.map RStep.count).sum == ops.size) && okSteps ops (Array.replicate ops.size false) π) = true)
    (hQ : ∀ c d v a w, Q (.panic c) (Act.put a d v) w → Q (.panic c) a w) (hQo : ∀ a w, ¬ Q .outgrown a w)
    (h : wpR P ops Q S (π.map (RStep.node ops.toList)) a w.drew) : (Code.region id ops true).wpIn (Fence.wide.inRound l) n P Q a w := by
  simp only [Bool.and_eq_true, beq_iff_eq] at hm
  obtain ⟨⟨⟨⟨h1, h2⟩, h0⟩, h3⟩, h4⟩ := hm
  refine wpIn_region_any h1 (wpAnyIn_of h0 hQo _ _ _ _ (wpAny_of_held (S := S) _ _ _ _ ?_))
  rw [← h3]
  exact wpAny_r h2 hQ π _ a _ (by rw [h3]; exact h4) h
end
end Go.Proofs.Ytpncbggjngamgaa
