/-
  A region that draws its order, inside a fence: walked in an order of ours beside what holds of the world all along; a call of yield may be among its operations.
-/
import Derived.Test.YtpncbggjngamgaaRgn2
import Derived.RangeFuncCalls
import Derived.OrdersIn
import Derived.TacticsIn
namespace Go.Proofs.Ytpncbggjngamgaa
set_option linter.unusedVariables false
open Go.RowKit

def YieldsU (P : Program) (ops : Array Oper) (S : World → Prop) (o : Oper) (v : Value) (a : Act) : Prop := YieldsIf P ops S o v a ∧ ∀ w, S w → o.about P w a.eval = none
section
variable {F : Fence} {n : Nat} {P : Program} {ops : Array Oper} {S : World → Prop} {Q : Exit → Act → World → Prop}
theorem YieldsU.wpOpIn {i : Nat} {o : Oper} {v : Value} {a : Act} (hro : F.round = none) (hi : ops[i]? = some o) (hy : YieldsU P ops S o v a) {K : Act → World → Prop} {w : World} (hS : S w) (h : K (a.put o.dst v) w) : wpOpIn F n P ops Q i K a w := by
  have hab : ∀ f, o.about P w a.eval = some f → F.fn f := fun f hf => by rw [hy.2 w hS] at hf; cases hf
  unfold Go.wpOpIn
  rw [hi]
  rcases hy.1 with ⟨hw, hv⟩ | ⟨hw, rfl⟩
  · simp only [hw, if_true, Oper.wpIn, hro, Oper.semAt_none, hv w hS, Oper.uponIn]
    exact ⟨hab, h⟩
  · simp only [hw, Bool.false_eq_true, if_false]
    exact ⟨hab, h⟩
/-- An operation apart from another: that one's value laid in ahead makes no odds to it. -/
theorem wpOpIn_ahead {j : Nat} {oi oj : Oper} {v : Value} (hro : F.round = none) (hj : ops[j]? = some oj) (hap : oi.apart ops oj = true) (hsj : ∀ cs b, oj.op ≠ .select cs b)
    (hQ : ∀ c a w, Q (.panic c) (a.put oi.dst v) w → Q (.panic c) a w) {K : Act → World → Prop} {a : Act} {w : World} (h : wpOpIn F n P ops Q j K (a.put oi.dst v) w) :
    wpOpIn F n P ops Q j (fun a' w' => (∃ ds u, a' = ({ a with defers := ds } : Act).put oj.dst u) ∧ K (a'.put oi.dst v) w') a w := by
  obtain ⟨h1, h2, _⟩ := Oper.apart_spec hap
  have hk : ∀ u w', K ((a.put oi.dst v).put oj.dst u) w' → (∃ ds u', a.put oj.dst u = ({ a with defers := ds } : Act).put oj.dst u') ∧ K ((a.put oj.dst u).put oi.dst v) w' :=
    fun u w' hK => ⟨⟨a.defers, u, rfl⟩, by rw [← Act.put_comm a v u h2]; exact hK⟩
  unfold wpOpIn at *
  rw [hj] at *
  simp only at h ⊢
  rw [wanted_put oj a oi.dst v h1, about_put oj w a oi.dst v h1] at h
  by_cases hw : Region.wanted oj (yielded ops a.tmps) = true
  · rw [if_pos hw] at h ⊢
    unfold Oper.wpIn at *
    rw [about_put oj w a oi.dst v h1, hro, Oper.semAt_none, execOp_put oj hsj a oi.dst v h1] at h
    rw [hro, Oper.semAt_none]
    refine ⟨h.1, ?_⟩
    have hh := h.2
    clear h
    generalize (execOp a.eval oj).run P w = r at *
    cases r with
    | ok x w' =>
      cases x <;> simp only [Oper.uponIn] at hh ⊢
      case value u => exact hk u w' hh
      case skip => exact hk _ w' hh
      case defer d =>
        refine ⟨⟨d :: a.defers, undef, rfl⟩, ?_⟩
        rw [← Act.put_comm _ v undef h2, ← Act.put_defers]
        exact hh
      case enter f args => exact ⟨hh.1, CallsIn.mono hh.2 fun e w'' he => by cases e <;> first | exact hk _ _ he | exact hQ _ _ _ he | exact he⟩
      case row row args => exact ⟨hh.1, RowsIn.mono hh.2 fun u w'' he => hk u _ he⟩
      case round l f tmps assign body => exact ⟨hh.1, RoundIn.mono hh.2 fun e w'' he => by cases e <;> first | exact hk _ _ he | exact hQ _ _ _ he | exact he⟩
    | halt x w' => cases x <;> simp only [Oper.uponIn] at hh ⊢ <;> exact hQ _ _ _ hh
  · rw [if_neg hw] at h ⊢
    exact ⟨h.1, hk _ w h.2⟩
/-- c comes ahead of d. -/
def aheadB (ops : Array Oper) (c d : Nat) : Bool := match ops[d]? with
  | some o => o.after.any fun x => x.on == c && Region.binds .any x
  | none => false
def pathB (ops : Array Oper) : List Nat → Bool
  | c :: d :: r => aheadB ops c d && pathB ops (d :: r)
  | _ => true
/-- What has come up has all that it waits for behind it. -/
def DC (ops : Array Oper) (listed : Array Bool) : Prop := ∀ (d : Nat) (od : Oper), ops[d]? = some od → listed.getD d false = true → ∀ x ∈ od.after, Region.binds .any x = true → listed.getD x.on false = true
theorem anc_listed {listed : Array Bool} (hd : DC ops listed) {z : Nat} (hz : listed.getD z false = true ∨ z ∈ Region.ready .any ops listed) : ∀ (p : List Nat) (c : Nat), pathB ops (c :: p ++ [z]) = true → listed.getD c false = true := by
  have one : ∀ c d, aheadB ops c d = true → (listed.getD d false = true ∨ d ∈ Region.ready .any ops listed) → listed.getD c false = true := fun c d h hl => by
    unfold aheadB at h
    cases ho : ops[d]? with
    | none => rw [ho] at h; cases h
    | some o =>
      rw [ho] at h
      simp only [Array.any_eq_true'] at h
      obtain ⟨x, hx, hb⟩ := h
      simp only [Bool.and_eq_true, beq_iff_eq] at hb
      rw [← hb.1]
      rcases hl with hl | hl
      · exact hd d o ho hl x hx hb.2
      · obtain ⟨_, oj, hoj, hall⟩ := mem_ready.1 hl
        rw [ho] at hoj
        injection hoj with hoj
        subst hoj
        simpa using hall x hx hb.2
  intro p
  induction p with
  | nil =>
    intro c h
    simp only [List.nil_append, List.cons_append, pathB, Bool.and_eq_true] at h
    exact one c z h.1 hz
  | cons d p ih =>
    intro c h
    simp only [List.cons_append, pathB, Bool.and_eq_true] at h
    exact one c d h.1 (.inl (ih d h.2))
/-- As 'wpAnyIn', S shown anew behind each operation until z has come up. -/
def wpAnyU (F : Fence) (n : Nat) (P : Program) (ops : Array Oper) (Q : Exit → Act → World → Prop) (S : World → Prop) (z : Nat) : Nat → Array Bool → Act → World → Prop
  | 0, listed, a, w => Region.ready .any ops listed = [] ∧ Q .normal a w
  | fuel + 1, listed, a, w => (Region.ready .any ops listed = [] → Q .normal a w) ∧
    ∀ i ∈ Region.ready .any ops listed, wpOpIn F n P ops Q i (fun a' w' => ((listed.setIfInBounds i true).getD z false = false → S w') ∧ wpAnyU F n P ops Q S z fuel (listed.setIfInBounds i true) a' w') a w
theorem wpAnyIn_ofU {z : Nat} : ∀ (fuel : Nat) (listed : Array Bool) (a : Act) (w : World), wpAnyU F n P ops Q S z fuel listed a w → wpAnyIn F n P .any ops Q fuel listed a w
  | 0, _, _, _, h => h
  | fuel + 1, _, _, _, h => ⟨h.1, fun i hi => wpOpIn_mono (fun a' w' h' => wpAnyIn_ofU fuel _ a' w' h'.2) (h.2 i hi)⟩
theorem DC.set {listed : Array Bool} (hd : DC ops listed) {j : Nat} (hj : j ∈ Region.ready .any ops listed) : DC ops (listed.setIfInBounds j true) := by
  intro d od ho hl x hx hb
  obtain ⟨_, oj, hoj, hall⟩ := mem_ready.1 hj
  rcases Decidable.em (j = d) with e | e
  · subst e
    rw [hoj] at ho
    injection ho with ho
    subst ho
    exact getD_set_true (by simpa using hall x hx hb)
  · rw [getD_set_ne false e] at hl
    exact getD_set_true (hd d od ho hl x hx hb)
theorem wpAnyU_first {z i : Nat} {oi : Oper} {v : Value} {p : List Nat} (hp : pathB ops (i :: p ++ [z]) = true) (hro : F.round = none) (hi : ops[i]? = some oi) (hsel : ∀ (j : Nat) (o : Oper) cs b, ops[j]? = some o → o.op ≠ .select cs b)
    (hQ : ∀ c a w, Q (.panic c) (a.put oi.dst v) w → Q (.panic c) a w) :
    ∀ (fuel : Nat) (listed : Array Bool) (a : Act) (w : World), DC ops listed → Region.free .any ops listed i = true → i ∈ Region.ready .any ops listed → YieldsU P ops S oi v a → S w →
      wpAnyU F n P ops Q S z fuel (listed.setIfInBounds i true) (a.put oi.dst v) w → wpAnyU F n P ops Q S z (fuel + 1) listed a w := by
  intro fuel
  induction fuel with
  | zero =>
    intro listed a w hd hf hr hy hS H
    refine ⟨fun h => (by rw [h] at hr; cases hr), fun j hj => ?_⟩
    rcases Decidable.em (j = i) with e | e
    · rw [e]; exact hy.wpOpIn hro hi hS ⟨fun _ => hS, H⟩
    · have := ready_mono hj e
      rw [H.1] at this
      cases this
  | succ fuel ih =>
    intro listed a w hd hf hr hy hS H
    refine ⟨fun h => (by rw [h] at hr; cases hr), fun j hj => ?_⟩
    rcases Decidable.em (j = i) with e | e
    · rw [e]; exact hy.wpOpIn hro hi hS ⟨fun _ => hS, H⟩
    obtain ⟨hjun, oj, hoj, hall⟩ := mem_ready.1 hj
    have hiun := (mem_ready.1 hr).1
    have hiun2 : listed.getD i false = false := by
      rcases Nat.lt_or_ge i listed.size with h' | h'
      · simp [h'] at hiun ⊢; exact hiun
      · simp [Array.getElem?_eq_none h']
    have hzun : listed.getD z false = false := by
      cases hz : listed.getD z false with
      | false => rfl
      | true => have := anc_listed hd (.inl hz) p i hp; rw [hiun2] at this; cases this
    have hjz : j ≠ z := fun e2 => by
      subst e2
      have := anc_listed hd (.inr hj) p i hp
      rw [hiun2] at this
      cases this
    have hzi : i ≠ z := fun e2 => by
      subst e2
      have := anc_listed hd (.inr hr) p i hp
      rw [hiun2] at this
      cases this
    have hno : ∀ x ∈ oj.after, Region.binds .any x = true → x.on ≠ i := fun x hx hb he => by
      have h1 := hall x hx hb
      rw [he] at h1
      rcases Nat.lt_or_ge i listed.size with h' | h'
      · simp [h'] at hiun h1
        rw [hiun] at h1
        cases h1
      · simp [Array.getElem?_eq_none h'] at h1
    have hap := Region.free_spec hi hf j oj hoj e hjun hno
    have h2 := wpOpIn_ahead hro hoj hap (fun cs b => hsel j oj cs b hoj) hQ (H.2 j (ready_mono hj e))
    refine wpOpIn_mono (fun a' w' h3 => ?_) h2
    obtain ⟨⟨ds, u, rfl⟩, hS', h3⟩ := h3
    have hSw : S w' := hS' (by rw [getD_set_ne false hjz, getD_set_ne false hzi]; exact hzun)
    refine ⟨fun _ => hSw, ih (listed.setIfInBounds j true) _ w' (hd.set hj) ?_ (ready_mono hr (Ne.symm e)) ?_ hSw ?_⟩
    · unfold Region.free at hf ⊢
      rw [hi] at hf ⊢
      simp only [List.all_eq_true, List.mem_range] at hf ⊢
      intro k hk
      have := hf k hk
      simp only [Bool.or_eq_true] at this ⊢
      rcases this with (h | h) | h
      · exact .inl (.inl h)
      · refine .inl (.inr ?_)
        by_cases hjk : j = k
        · subst hjk
          rw [hjun] at h
          cases h
        · rw [getD_set_ne true hjk]; exact h
      · exact .inr h
    · have h3' := (Oper.apart_spec hap).2.2
      have he : execOp (({ a with defers := ds } : Act).put oj.dst u).eval oi = execOp a.eval oi := by rw [execOp_put oi (fun cs b => hsel i oi cs b hi) _ oj.dst u h3', act_defers]
      have hw : Region.wanted oi (yielded ops (({ a with defers := ds } : Act).put oj.dst u).tmps) = Region.wanted oi (yielded ops a.tmps) := by rw [wanted_put oi _ oj.dst u h3']
      refine ⟨?_, fun w hS => by rw [about_put oi w _ oj.dst u h3']; exact hy.2 w hS⟩
      unfold YieldsIf
      rw [he, hw]
      exact hy.1
    · rw [Array.setIfInBounds_comm _ _ e]
      exact h3
theorem wpInU_exit {o : Oper} {a : Act} {w : World} {K : Act → World → Prop} (h : o.wpIn F n P a w K (Exit.then K Q)) : o.wpIn F n P a w K Q := by
  unfold Oper.wpIn at *
  refine ⟨h.1, ?_⟩
  have hh := h.2
  clear h
  generalize (o.semAt F.round a.eval).run P w = r at *
  cases r with
  | ok x w' =>
    cases x <;> simp only [Oper.uponIn] at hh ⊢ <;>
      first
        | exact hh
        | exact ⟨hh.1, CallsIn.mono hh.2 fun e w'' he => by cases e <;> exact he⟩
        | exact ⟨hh.1, RoundIn.mono hh.2 fun e w'' he => by cases e <;> exact he⟩
  | halt x w' => cases x <;> simp only [Oper.uponIn] at hh ⊢ <;> exact hh
/-- An operation's part: 0: it leaves a value, 1: it is walked, S shown anew behind it, 2: it is walked, and S asked no more. -/
def wpU (F : Fence) (n : Nat) (P : Program) (ops : Array Oper) (Q : Exit → Act → World → Prop) (S : World → Prop) : List (Oper × Nat) → Act → World → Prop
  | [], a, w => Q .normal a w
  | (o, 0) :: r, a, w => ∃ v, YieldsU P ops S o v a ∧ S w ∧ wpU F n P ops Q S r (a.put o.dst v) w
  | (o, 1) :: r, a, w => ∀ K : Act → World → Prop, (∀ a w, S w → wpU F n P ops Q S r a w → K a w) → wpListIn F n P ops (Exit.then K Q) [o] a w
  | (o, _) :: r, a, w => ∀ K : Act → World → Prop, (∀ a w, wpU F n P ops Q S r a w → K a w) → wpListIn F n P ops (Exit.then K Q) [o] a w
def okU (ops : Array Oper) (z : Nat) : Array Bool → List (Nat × Nat × List Nat) → Bool
  | listed, [] => (Region.ready .any ops listed).isEmpty
  | listed, (i, 0, p) :: r => Region.free .any ops listed i && (Region.ready .any ops listed).contains i && pathB ops (i :: p ++ [z]) && okU ops z (listed.setIfInBounds i true) r
  | listed, (i, 1, _) :: r => (Region.ready .any ops listed == [i]) && okU ops z (listed.setIfInBounds i true) r
  | listed, (i, _, _) :: r => (Region.ready .any ops listed == [i]) && (listed.setIfInBounds i true).getD z false && okU ops z (listed.setIfInBounds i true) r
theorem wpOpIn_oneU {i : Nat} {o : Oper} {a : Act} {w : World} {K : Act → World → Prop} (hi : ops[i]? = some o) (h' : wpListIn F n P ops (Exit.then K Q) [o] a w) : wpOpIn F n P ops Q i K a w := by
  unfold wpOpIn
  rw [hi]
  simp only [wpListIn] at h'
  show if _ then _ else _
  split
  · rename_i hw
    rw [if_pos hw] at h'
    exact wpInU_exit h'
  · rename_i hw
    rw [if_neg hw] at h'
    exact h'
theorem wpAny_u {z : Nat} (hro : F.round = none) (hs : Region.noSelect ops = true) (hQ : ∀ c d v a w, Q (.panic c) (Act.put a d v) w → Q (.panic c) a w) : ∀ (π : List (Nat × Nat × List Nat)) (listed : Array Bool) (a : Act) (w : World),
    DC ops listed → okU ops z listed π = true → wpU F n P ops Q S (π.map fun x => (nthOp ops.toList x.1, x.2.1)) a w → wpAnyU F n P ops Q S z π.length listed a w := by
  have get : ∀ i, i < ops.size → ops[i]? = some (nthOp ops.toList i) := fun i hlt => by
    have := nthOp_get ops.toList i (by simpa using hlt)
    simpa using this
  intro π
  induction π with
  | nil =>
    intro listed a w _ ho h
    simp only [okU, List.isEmpty_iff] at ho
    exact ⟨ho, h⟩
  | cons x r ih =>
    obtain ⟨i, k, p⟩ := x
    intro listed a w hd ho h
    match k, ho, h with
    | 0, ho, h =>
      simp only [okU, Bool.and_eq_true] at ho
      obtain ⟨⟨⟨hf, hr⟩, hp⟩, ho⟩ := ho
      obtain ⟨v, hy, hS, hrest⟩ := h
      have hr' : i ∈ Region.ready .any ops listed := by simpa using hr
      exact wpAnyU_first hp hro (get i (ready_lt hr')) (Region.noSelect_spec hs) (fun c a w h => hQ c _ _ a w h) _ listed a w hd hf hr' hy hS (ih _ _ _ (hd.set hr') ho hrest)
    | 1, ho, h =>
      simp only [okU, Bool.and_eq_true, beq_iff_eq] at ho
      obtain ⟨hr, ho⟩ := ho
      have hm : i ∈ Region.ready .any ops listed := by rw [hr]; exact List.mem_singleton.2 rfl
      refine ⟨fun h0 => (by rw [hr] at h0; cases h0), fun j hj => ?_⟩
      rw [hr, List.mem_singleton] at hj
      subst hj
      exact wpOpIn_oneU (get j (ready_lt hm)) (h _ (fun a w hS hh => ⟨fun _ => hS, ih _ _ _ (hd.set hm) ho hh⟩))
    | k + 2, ho, h =>
      simp only [okU, Bool.and_eq_true, beq_iff_eq] at ho
      obtain ⟨⟨hr, hz⟩, ho⟩ := ho
      have hm : i ∈ Region.ready .any ops listed := by rw [hr]; exact List.mem_singleton.2 rfl
      refine ⟨fun h0 => (by rw [hr] at h0; cases h0), fun j hj => ?_⟩
      rw [hr, List.mem_singleton] at hj
      subst hj
      exact wpOpIn_oneU (get j (ready_lt hm)) (h _ (fun a w hh => ⟨fun h0 => (by rw [hz] at h0; cases h0), ih _ _ _ (hd.set hm) ho hh⟩))
/-- A region that draws its order, in a fence, in an order of ours, beside S until z has come up. -/
theorem wpIn_region_u {id : Nat} {a : Act} {w : World} (hro : F.round = none) (S : World → Prop) (z : Nat) (π : List (Nat × Nat × List Nat))
    (hm : (P.follows .mixedOrders && Region.noSelect ops && (π.length == ops.size) && okU ops z (Array.replicate ops.size false) π) = true)
    (hQ : ∀ c d v a w, Q (.panic c) (Act.put a d v) w → Q (.panic c) a w)
    (h : wpU F n P ops Q S (π.map fun x => (nthOp ops.toList x.1, x.2.1)) a w.drew) : (Code.region id ops true).wpIn F n P Q a w := by
  simp only [Bool.and_eq_true, beq_iff_eq] at hm
  obtain ⟨⟨⟨h1, h2⟩, h3⟩, h4⟩ := hm
  refine wpIn_region_any h1 (wpAnyIn_ofU (S := S) (z := z) _ _ _ _ ?_)
  rw [← h3]
  refine wpAny_u hro h2 hQ π _ a _ (fun d od _ hl => ?_) (by rw [h3]; exact h4) h
  exfalso
  simp [Array.getElem?_replicate] at hl
  split at hl <;> simp at hl
variable {r : List (Oper × Nat)} {o : Oper} {a : Act} {w : World} {v : Value}
theorem wpU_nil (h : Q .normal a w) : wpU F n P ops Q S [] a w := h
theorem wpU_take (hS : Hid (S w)) (hw : Region.wanted o (yielded ops a.tmps) = true) (hb : ∀ w, S w → o.about P w a.eval = none) (hv : ∀ w, S w → (execOp a.eval o).run P w = .ok (.value v) w) (h : wpU F n P ops Q S r (a.put o.dst v) w) : wpU F n P ops Q S ((o, 0) :: r) a w := ⟨v, ⟨.inl ⟨hw, hv⟩, hb⟩, hS, h⟩
theorem wpU_do (h : ∀ K : Act → World → Prop, Hid (∀ a w, S w → wpU F n P ops Q S r a w → K a w) → wpListIn F n P ops (Exit.then K Q) [o] a w) : wpU F n P ops Q S ((o, 1) :: r) a w := fun K hK => h K hK
theorem wpU_end (h : ∀ K : Act → World → Prop, Hid (∀ a w, wpU F n P ops Q S r a w → K a w) → wpListIn F n P ops (Exit.then K Q) [o] a w) : wpU F n P ops Q S ((o, 2) :: r) a w := fun K hK => h K hK
end
end Go.Proofs.Ytpncbggjngamgaa
