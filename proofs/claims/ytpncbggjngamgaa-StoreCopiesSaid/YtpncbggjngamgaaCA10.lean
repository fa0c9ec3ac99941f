/-
  The reference's store: Drop. Printed by gen_rst10.py.
  A region that draws its order and ends in a store: what holds of the world need not hold behind the last operation.
  The reference's store: Copy. Printed by gen_rst11.py.
  EqHeads of rows that say the same. Printed by gen_eqh.py.
  Contracts of WideBytes and SpareBytes.
  Stores asked at a time below nought; WideState and SpareState. Printed by gen_neg.py.
  The store: Drop, Copy. Printed by gen_sto15.py.
-/
import Derived.Test.YtpncbggjngamgaaCA09
import Derived.Test.YtpncbggjngamgaaCA02
import Derived.Test.YtpncbggjngamgaaCA08
import Derived.Lib.SliceRun
import Derived.Shelf.SlMaps.Clone
namespace Go.Proofs.Ytpncbggjngamgaa
set_option linter.unusedVariables false
open Go.RowKit

theorem Reads.preK {w : World} {B size n k : Nat} {A : Option Addr} {xs : List Value} (h : Reads w B size A n xs) (hk : k ≤ n) : Reads w B size A k (xs.take (k * size)) := by
  refine ⟨by rw [List.length_take, h.1]; exact Nat.min_eq_left (Nat.mul_le_mul_right _ hk), fun hn => ?_⟩
  obtain ⟨ad, rfl, hb, hcell⟩ := h.2 (by omega)
  refine ⟨ad, rfl, hb, fun j u hu => hcell j u ?_⟩
  rw [List.getElem?_take] at hu
  split at hu
  · exact hu
  · cases hu
theorem flat_take {α : Type} {cs : α → List Value} {k : Nat} (hk : ∀ a, (cs a).length = k) : ∀ (L : List α) (i : Nat), (L.flatMap cs).take (i * k) = (L.take i).flatMap cs := by
  intro L
  induction L with
  | nil => intro i; simp
  | cons a r ih =>
    intro i
    cases i with
    | zero => simp
    | succ i =>
      have e1 : (i + 1) * k = (cs a).length + i * k := by rw [Nat.add_mul, hk a]; omega
      rw [List.flatMap_cons, e1, List.take_length_add_append, List.take_succ_cons, List.flatMap_cons, ih i]
theorem RfS.front {base : Nat} {w : World} {g n c i : Nat} {ad : Addr} {most : Int} {xs : List OneE} (q : RfS base w g (.slice (some ad) n c) most xs) (hl : xs.length = n) (hi : i ≤ n) :
    Reads w w.heap.size 10 (some ad) i ((xs.take i).flatMap oneL) := by
  have h := q.row
  rw [hl] at h
  have h2 := Reads.preK (Reads.of_own h) (k := i) hi
  rw [flat_take oneL_len] at h2
  exact h2
theorem RfS.tailIf {base : Nat} {w : World} {g gr n c i : Nat} {most : Int} {xs : List OneE} (q : RfS base w g (.slice (some ⟨gr, 0, none⟩) n c) most xs) (hl : xs.length = n) (hi : i ≤ n) :
    Reads w w.heap.size 10 (if c = i then some ⟨gr, 0, none⟩ else some ⟨gr, i * 10, none⟩) (n - i) ((xs.drop i).flatMap oneL) := by
  have h := q.row
  rw [hl] at h
  have h2 := Reads.cut (Reads.of_own h) (k := i) (cap := c) hi (by have := q.shape; obtain ⟨A, n', c', e, _, h1, _⟩ := this; injection e with _ e2 e3; omega)
  rw [flat_drop oneL_len, Option.map_some, add_none, Nat.zero_add] at h2
  exact h2
/-- What Drop leaves of a key that is there. -/
structure DropR (base : Nat) (w w' : World) (g : Nat) (v : Value) (most : Int) (xs : List OneE) (k : Ky3) (v' : Value) (xs' : List OneE) : Prop where
  q : RfS base w' g v' most xs'
  row : CutRow xs xs' k
  there : (rowAt xs k).isSome = true
  len : xs'.length + 1 = xs.length
  k : Kept (fun b => b = g) w w'
  vb : ∀ b, v'.ownBlock = some b → w.heap.size ≤ b
def DropP (base : Nat) (w w' : World) (g : Nat) (v : Value) (most : Int) (xs : List OneE) (k : Ky3) (e : Ending) : Prop :=
  (∃ v' xs', e = .returned (.bool true) ∧ DropR base w w' g v most xs k v' xs') ∨ (e = .returned (.bool false) ∧ rowAt xs k = none ∧ Below w.heap.size w w')
set_option maxRecDepth 100000 in
set_option maxHeartbeats 8000000 in
theorem drop11 (base : Nat) (w : World) (g : Nat) (v : Value) (most : Int) (xs : List OneE) (q : RfS base w g v most xs) (hA : AscL xs) (hbs : base ≤ w.heap.size) (hN : xs.length ≤ 4096) (k : Ky3) :
    Calls Try.prog 46 #[.pointer (some ⟨g, 0, none⟩), keyV k] w fun e w' => DropP base w w' g v most xs k e := by
  obtain ⟨k1, k2, k3⟩ := k
  obtain ⟨A, n, c, rfl, hl, hc1, hc2⟩ := q.shape
  have hb1 : Below w.heap.size w (w.alloc (.cells #[.int .u8 k1, .int .u32 k2, .int .u32 k3] 45)) := (Below.refl _ _).alloc (Nat.le_refl _) _
  have HQ := Lib.hid (q.later hb1)
  have hk : Blk (w.alloc (.cells #[.int .u8 k1, .int .u32 k2, .int .u32 k3] 45)) w.heap.size 45 #[.int .u8 k1, .int .u32 k2, .int .u32 k3] := Blk.new _ _ _
  have b0 := hk.cell 0; have b1 := hk.cell 1; have b2 := hk.cell 2
  simp only [List.getElem?_toArray, List.getElem?_cons_zero, List.getElem?_cons_succ] at b0 b1 b2
  have HB1 := Lib.hid hb1
  have HL := Lib.hid hl
  have HA := Lib.hid hA
  have hN2 : n ≤ 4096 := by omega
  clear q hb1 hl hk hA hN
  go_enter Try.func46, Try.ntmps46
  go_wp2_with fail
  refine (find11 base _ g _ most xs HQ.out (k1, k2, k3)).mono ?_
  rintro e w2 ⟨z, rfl, hz, hb2⟩
  have HQ2 := Lib.hid (HQ.out.later hb2)
  have HB2 := Lib.hid (below_then HB1.out hb2)
  clear hb2 HQ HB1 b0 b1 b2
  rcases rowAt_of hz with ⟨i, x, rfl, hx, hr⟩ | ⟨rfl, hr⟩
  · have hin : i < n := by have := (List.getElem?_eq_some_iff.1 hx).1; have := HL.out; omega
    have hinI : (i : Int) ≤ n := by omega
    have hinJ : (i : Int) + 1 ≤ n := by omega
    have HR := Lib.hid (And.intro hx hr)
    have hrow := HQ2.out.row
    rcases hrow.2 with ⟨_, h0⟩ | ⟨gr, cap, cur, hv, hbg, -⟩
    · exact absurd h0 (by have := HL.out; omega)
    injection hv with hv1 hv2 hv3
    subst hv1 hv3
    have wi : IntKind.i64.wrap ((i : Int) + 1) = i + 1 := by rw [IntKind.wrap_i64]; omega
    have di : decide ((i : Int) < 0) = false := decide_eq_false (by omega)
    have HF := Lib.hid (HQ2.out.front HL.out (Nat.le_of_lt hin))
    have g0 := HQ2.out.blk.cell 0
    simp only [List.getElem?_toArray, List.getElem?_cons_zero, List.getElem?_cons_succ] at g0
    have HQ0 := HQ2
    have HBa := HB2
    clear hz hx hr hrow hv2 hbg cur
    go_wp2_with (first | (at_builtin; refine wpList_app el_one rfl (.tmp 12) (.tmp 18) rfl (World.ownsRow_nil w2 w2.heap.size 114 10) rfl HF.out rfl (flatG_one oneL_one _) (by simp only [maxLen]; omega) (by omega) (Nat.le_refl _) ?_; intro v3 w3 ho3 hb3 hg3 _; rw [Nat.zero_add, List.nil_append] at ho3; have HR3 := Lib.hid ho3; have HB3 := Lib.hid hb3; clear ho3 hb3 hg3 HF g0; have HQ3 := Lib.hid (HQ0.out.later HB3.out); have ht := HQ3.out.tailIf (i := i + 1) HL.out hin; have HT := Lib.hid ht; clear ht; have g0 := HQ3.out.blk.cell 0; simp only [List.getElem?_toArray, List.getElem?_cons_zero, List.getElem?_cons_succ] at g0) | (at_builtin; go_must (refine wpList_app el_one rfl (.tmp 20) (.tmp 27) rfl HR3.out rfl HT.out rfl (flatG_one oneL_one _) (by simp only [maxLen]; omega) (by omega) (by have := HB3.out.size; omega) ?_); intro v4 w4 ho4 hb4 hg4 _; obtain ⟨A2, c2, rfl, -⟩ := (OwnW.of_own ho4).shape; have HR4 := Lib.hid ho4; have HB4 := Lib.hid (HB3.out.trans hb4); clear ho4 hb4 hg4 HT HR3 HB3 HQ3 g0; have HQ4 := Lib.hid (HQ0.out.later HB4.out); have g0 := HQ4.out.blk.cell 0; have f0 := HQ4.out.blk.frozen 0; simp only [List.getElem?_toArray, List.getElem?_cons_zero, List.getElem?_cons_succ] at g0))
    all_goals
      go_ret
      have hkey := rowAt_some HR.out.2
      have hcut := HA.out.cut HR.out.1
      rw [hkey.2] at hcut
      have hlen : (xs.take i ++ xs.drop (i + 1)).length = i + (n - (i + 1)) := by
        rw [List.length_append, List.length_take, List.length_drop, HL.out, Nat.min_eq_left (Nat.le_of_lt hin)]
      refine Or.inl ⟨.slice A2 (i + (n - (i + 1))) c2, xs.take i ++ xs.drop (i + 1), rfl, ⟨⟨HQ4.out.blk.set_ 0 _, ?_, fun z hz => ?_⟩, hcut, by rw [HR.out.2]; rfl, by rw [hlen, HL.out]; omega, ?_, ?_⟩⟩
      · rw [hlen, List.flatMap_append]
        have h := own_mono (own_cells HR4.out HQ4.out.blk (by decide) 0 (.slice A2 (i + (n - (i + 1))) c2)) (Nat.le_trans hbs HBa.out.size)
        exact h
      · have hz2 : z ∈ xs := by
          rcases List.mem_append.1 hz with hz | hz
          · exact List.mem_of_mem_take hz
          · exact List.mem_of_mem_drop hz
        have h2 := HQ4.out.own z hz2
        exact ⟨⟨h2.1.head, own_cells h2.1.body HQ4.out.blk (by decide) 0 _, h2.1.oct, h2.1.len⟩, h2.2⟩
      · exact (Kept.of_new (below_then HBa.out HB4.out) (fun b => b = g)).setCell (p := ⟨g, 0, none⟩) (fun _ => rfl) _
      · intro b hb
        exact Nat.le_trans HBa.out.size (own_ge HR4.out hb).1
  · clear hz
    go_wp2_with fail
    go_ret
    exact Or.inr ⟨rfl, hr, HB2.out⟩
end Go.Proofs.Ytpncbggjngamgaa
namespace Go.Proofs.Ytpncbggjngamgaa
set_option linter.unusedVariables false
open Go.RowKit

section
variable {P : Program} {ops : Array Oper} {S : World → Prop} {Q : Exit → Act → World → Prop}
/-- Something is still to come. -/
def Open_ (ops : Array Oper) (listed : Array Bool) : Prop := ∃ m, m < ops.size ∧ listed.getD m true = false
def wpAnyG (P : Program) (ops : Array Oper) (Q : Exit → Act → World → Prop) (S : World → Prop) : Nat → Array Bool → Act → World → Prop
  | 0, listed, a, w => Region.ready .any ops listed = [] ∧ Q .normal a w
  | fuel + 1, listed, a, w => (Region.ready .any ops listed = [] → Q .normal a w) ∧
      ∀ i ∈ Region.ready .any ops listed, wpOp P ops Q i (fun a' w' => (Open_ ops (listed.setIfInBounds i true) → S w') ∧ wpAnyG P ops Q S fuel (listed.setIfInBounds i true) a' w') a w
theorem wpAny_of_g : ∀ (fuel : Nat) (listed : Array Bool) (a : Act) (w : World), wpAnyG P ops Q S fuel listed a w → wpAny P .any ops Q fuel listed a w
  | 0, _, _, _, h => h
  | fuel + 1, _, _, _, h => ⟨h.1, fun i hi => wpOp_mono (fun a' w' h' => wpAny_of_g fuel _ a' w' h'.2) (h.2 i hi)⟩
theorem wpAnyG_all {rs : List Nat} {fuel : Nat} {listed : Array Bool} {a : Act} {w : World} (hr : Region.ready .any ops listed = rs) (hne : rs ≠ [])
    (h : ∀ i ∈ rs, wpOp P ops Q i (fun a' w' => (Open_ ops (listed.setIfInBounds i true) → S w') ∧ wpAnyG P ops Q S fuel (listed.setIfInBounds i true) a' w') a w) : wpAnyG P ops Q S (fuel + 1) listed a w :=
  ⟨fun h0 => absurd (hr ▸ h0) hne, hr ▸ h⟩
theorem wpAnyG_done {listed : Array Bool} {a : Act} {w : World} (hr : Region.ready .any ops listed = []) (h : Q .normal a w) : ∀ fuel, wpAnyG P ops Q S fuel listed a w
  | 0 => ⟨hr, h⟩
  | _ + 1 => ⟨fun _ => h, by rw [hr]; simp⟩

/-- Another operation waits for number i. -/
def waitedFor (ops : Array Oper) (listed : Array Bool) (i : Nat) : Bool :=
  (List.range ops.size).any fun m => m != i && !listed.getD m true && match ops[m]? with
    | some om => om.after.any fun e => Region.binds .any e && e.on == i
    | none => false

theorem wpAnyG_first {i : Nat} {oi : Oper} {v : Value} (hi : ops[i]? = some oi) (hsel : ∀ (j : Nat) (o : Oper) cs b, ops[j]? = some o → o.op ≠ .select cs b)
    (hQ : ∀ c a w, Q (.panic c) (a.put oi.dst v) w → Q (.panic c) a w) :
    ∀ (fuel : Nat) (listed : Array Bool) (a : Act) (w : World), waitedFor ops listed i = true → Region.free .any ops listed i = true → i ∈ Region.ready .any ops listed → YieldsQ P ops S oi v a → S w →
      wpAnyG P ops Q S fuel (listed.setIfInBounds i true) (a.put oi.dst v) w → wpAnyG P ops Q S (fuel + 1) listed a w := by
  intro fuel
  induction fuel with
  | zero =>
    intro listed a w hwt hf hr hy hS H
    refine ⟨fun h => (by rw [h] at hr; cases hr), fun j hj => ?_⟩
    rcases Decidable.em (j = i) with e | e
    · rw [e]; exact hy.wpOp hi hS ⟨fun _ => hS, H⟩
    · have := ready_mono hj e
      rw [H.1] at this
      cases this
  | succ fuel ih =>
    intro listed a w hwt hf hr hy hS H
    refine ⟨fun h => (by rw [h] at hr; cases hr), fun j hj => ?_⟩
    rcases Decidable.em (j = i) with e | e
    · rw [e]; exact hy.wpOp hi hS ⟨fun _ => hS, H⟩
    obtain ⟨hjun, oj, hoj, hall⟩ := mem_ready.1 hj
    have hiun := (mem_ready.1 hr).1
    have hno : ∀ x ∈ oj.after, Region.binds .any x = true → x.on ≠ i := fun x hx hb he => by
      have h1 := hall x hx hb
      rw [he] at h1
      rcases Nat.lt_or_ge i listed.size with h' | h'
      · simp [h'] at hiun h1
        rw [hiun] at h1
        cases h1
      · simp [Array.getElem?_eq_none h'] at h1
    -- the one that waits for i is not j, and is still to come
    unfold waitedFor at hwt
    simp only [List.any_eq_true, List.mem_range, Bool.and_eq_true, bne_iff_ne, Bool.not_eq_true'] at hwt
    obtain ⟨m, hm, ⟨hmi, hmun⟩, hmw⟩ := hwt
    have hmj : j ≠ m := by
      rintro rfl
      rw [hoj] at hmw
      obtain ⟨x, hx, hxb⟩ := Array.any_eq_true'.1 hmw
      simp only [Bool.and_eq_true, beq_iff_eq] at hxb
      exact hno x hx hxb.1 hxb.2
    have hopen : Open_ ops ((listed.setIfInBounds i true).setIfInBounds j true) := ⟨m, hm, by rw [getD_set_ne true hmj, getD_set_ne true (Ne.symm hmi)]; exact hmun⟩
    have hwt' : waitedFor ops (listed.setIfInBounds j true) i = true := by
      unfold waitedFor
      simp only [List.any_eq_true, List.mem_range, Bool.and_eq_true, bne_iff_ne, Bool.not_eq_true']
      exact ⟨m, hm, ⟨hmi, by rw [getD_set_ne true hmj]; exact hmun⟩, hmw⟩
    have hap := Region.free_spec hi hf j oj hoj e hjun hno
    have hfalse : YieldsIf P ops (fun _ => False) oi v a := by
      rcases hy with ⟨h1, _⟩ | h1
      · exact .inl ⟨h1, fun _ h => h.elim⟩
      · exact .inr h1
    have h2 := wpOp_tell hoj (wpOp_putIf hoj hap (fun cs b => hsel i oi cs b hi) (fun cs b => hsel j oj cs b hoj) hQ hfalse (H.2 j (ready_mono hj e)))
    refine wpOp_mono (fun a' w' h3 => ?_) h2
    obtain ⟨⟨_, hS0, h3⟩, ds, u, rfl⟩ := h3
    have hS' := hS0 hopen
    refine ⟨fun _ => hS', ih (listed.setIfInBounds j true) _ w' hwt' ?_ (ready_mono hr (Ne.symm e)) ?_ hS' ?_⟩
    · unfold Region.free at hf ⊢
      rw [hi] at hf ⊢
      simp only [List.all_eq_true, List.mem_range] at hf ⊢
      intro k hk
      have := hf k hk
      simp only [Bool.or_eq_true] at this ⊢
      rcases this with (h | h) | h
      · exact .inl (.inl h)
      · refine .inl (.inr ?_)
        by_cases hjk : j = k
        · subst hjk
          rw [hjun] at h
          cases h
        · rw [getD_set_ne true hjk]; exact h
      · exact .inr h
    · have h3' := (Oper.apart_spec hap).2.2
      refine hy.same ?_ ?_
      · rw [execOp_put oi (fun cs b => hsel i oi cs b hi) _ oj.dst u h3', act_defers]
      · rw [wanted_put oi _ oj.dst u h3']
    · rw [Array.setIfInBounds_comm _ _ e]
      exact h3

def okStepsG (ops : Array Oper) : Array Bool → List RStep → Bool
  | listed, [] => (Region.ready .any ops listed).isEmpty && (List.range ops.size).all fun m => listed.getD m true
  | listed, .take i :: r => waitedFor ops listed i && Region.free .any ops listed i && (Region.ready .any ops listed).contains i && okStepsG ops (listed.setIfInBounds i true) r
  | listed, .one i :: r => (Region.ready .any ops listed == [i]) && okStepsG ops (listed.setIfInBounds i true) r
  | _, .two _ _ :: _ => false
def wpG (P : Program) (ops : Array Oper) (Q : Exit → Act → World → Prop) (S : World → Prop) : List RNode → Act → World → Prop
  | [], a, w => Q .normal a w
  | .take o :: r, a, w => ∃ v, YieldsQ P ops S o v a ∧ S w ∧ wpG P ops Q S r (a.put o.dst v) w
  | .one o :: r, a, w => ∀ Q' : Exit → Act → World → Prop, (∀ a w, (r ≠ [] → S w) → wpG P ops Q S r a w → Q' .normal a w) → wpList P ops Q' [o] a w
  | .two _ _ :: _, _, _ => False
theorem wpAny_gs (hs : Region.noSelect ops = true) (hQ : ∀ c d v a w, Q (.panic c) (Act.put a d v) w → Q (.panic c) a w) : ∀ (π : List RStep) (listed : Array Bool) (a : Act) (w : World),
    okStepsG ops listed π = true → wpG P ops Q S (π.map (RStep.node ops.toList)) a w → wpAnyG P ops Q S (π.map RStep.count).sum listed a w := by
  have get : ∀ i, i < ops.size → ops[i]? = some (nthOp ops.toList i) := fun i hlt => by
    have := nthOp_get ops.toList i (by simpa using hlt)
    simpa using this
  intro π
  induction π with
  | nil =>
    intro listed a w ho h
    simp only [okStepsG, Bool.and_eq_true, List.isEmpty_iff] at ho
    exact wpAnyG_done ho.1 h _
  | cons x r ih =>
    intro listed a w ho h
    cases x with
    | take i =>
      simp only [okStepsG, Bool.and_eq_true] at ho
      obtain ⟨⟨⟨hw, hf⟩, hr⟩, ho⟩ := ho
      obtain ⟨v, hy, hS, hrest⟩ := h
      have hi := get i (ready_lt (by simpa using hr))
      show wpAnyG P ops Q S (1 + (r.map RStep.count).sum) listed a w
      rw [Nat.add_comm]
      exact wpAnyG_first hi (Region.noSelect_spec hs) (fun c a w h => hQ c _ _ a w h) _ listed a w hw hf (by simpa using hr) hy hS (ih _ _ _ ho hrest)
    | one i =>
      simp only [okStepsG, Bool.and_eq_true, beq_iff_eq] at ho
      obtain ⟨hr, ho⟩ := ho
      have hi := get i (ready_lt (by rw [hr]; exact List.mem_singleton.2 rfl))
      show wpAnyG P ops Q S (1 + (r.map RStep.count).sum) listed a w
      rw [Nat.add_comm]
      refine wpAnyG_all hr (by simp) (fun j hj => ?_)
      rw [List.mem_singleton] at hj
      subst hj
      refine wpOp_of_list hi (h _ (fun a w hS hh => ⟨fun hop => hS (fun hnil => ?_), ih _ _ _ ho hh⟩))
      have hrn : r = [] := by simpa using hnil
      subst hrn
      simp only [okStepsG, Bool.and_eq_true, List.all_eq_true, List.mem_range] at ho
      obtain ⟨m, hm, hmu⟩ := hop
      rw [ho.2 m hm] at hmu
      cases hmu
    | two i j => simp [okStepsG] at ho

/-- A region that draws its order, walked step by step, beside S; S need not hold behind the last step. -/
theorem wp_region_g {id : Nat} {a : Act} {w : World} (S : World → Prop) (π : List RStep)
    (hm : (P.follows .mixedOrders && Region.noSelect ops && ((π.map RStep.count).sum == ops.size) && okStepsG ops (Array.replicate ops.size false) π) = true)
    (hQ : ∀ c d v a w, Q (.panic c) (Act.put a d v) w → Q (.panic c) a w)
    (h : wpG P ops Q S (π.map (RStep.node ops.toList)) a w.drew) : (Code.region id ops true).wp P Q a w := by
  simp only [Bool.and_eq_true, beq_iff_eq] at hm
  obtain ⟨⟨⟨h1, h2⟩, h3⟩, h4⟩ := hm
  refine wp_region_any h1 ?_
  rw [← h3]
  exact wpAny_of_g (S := S) _ _ _ _ (wpAny_gs h2 hQ π _ a _ (by rw [h3]; exact h4) h)

variable {r : List RNode} {o o' : Oper} {a : Act} {w : World} {v : Value}
theorem wpG_nil (h : Q .normal a w) : wpG P ops Q S [] a w := h
theorem wpG_take (hS : Hid (S w)) (hw : Region.wanted o (yielded ops a.tmps) = true) (hv : ∀ w, S w → (execOp a.eval o).run P w = .ok (.value v) w) (h : wpG P ops Q S r (a.put o.dst v) w) : wpG P ops Q S (.take o :: r) a w :=
  ⟨v, .inl ⟨hw, fun w hS => .inl (hv w hS)⟩, hS, h⟩
theorem wpG_call (hS : Hid (S w)) (hw : Region.wanted o (yielded ops a.tmps) = true) {f : FuncId} {args : Array Value} (hv : ∀ w, S w → (execOp a.eval o).run P w = .ok (.enter f args) w)
    (hc : ∀ w, S w → Calls P f args w (fun e w' => e = .returned v ∧ w = w')) (h : wpG P ops Q S r (a.put o.dst v) w) : wpG P ops Q S (.take o :: r) a w :=
  ⟨v, .inl ⟨hw, fun w hS => .inr ⟨f, args, hv w hS, hc w hS⟩⟩, hS, h⟩
theorem wpG_do (h : ∀ K : Exit → Act → World → Prop, Hid (∀ a w, S w → wpG P ops Q S r a w → K .normal a w) → wpList P ops K [o] a w) : wpG P ops Q S (.one o :: r) a w := fun Q' hQ' => h Q' (fun a w hS hh => hQ' a w (fun _ => hS) hh)
theorem wpG_last (h : ∀ K : Exit → Act → World → Prop, Hid (∀ a w, Q .normal a w → K .normal a w) → wpList P ops K [o] a w) : wpG P ops Q S [.one o] a w := fun Q' hQ' => h Q' (fun a w hh => hQ' a w (fun h => absurd rfl h) hh)
end
end Go.Proofs.Ytpncbggjngamgaa
namespace Go.Proofs.Ytpncbggjngamgaa
set_option linter.unusedVariables false
open Go.RowKit

def entO (x : OneE) : Hd × List Int × Int := (x.s.h, x.s.B, x.at_)
/-- Rows that say the same. -/
def SameL (xs ys : List OneE) : Prop := ys.map entO = xs.map entO
theorem SameL.len {xs ys : List OneE} (h : SameL xs ys) : ys.length = xs.length := by have := congrArg List.length h; simpa using this
theorem Link.same_rows {f : Ky3 → Option OneE} : ∀ {xs ys : List OneE}, Link f xs → SameL xs ys → Link f ys := by
  intro xs ys l h
  have hl := h.len
  have hget : ∀ (i : Nat) (y : OneE), ys[i]? = some y → ∃ x, xs[i]? = some x ∧ entO y = entO x := by
    intro i y hy
    have h1 := congrArg (fun l => l[i]?) h
    simp only [List.getElem?_map, hy, Option.map_some] at h1
    cases hx : xs[i]? with
    | none => rw [hx] at h1; cases h1
    | some x => rw [hx] at h1; injection h1 with h1; exact ⟨x, rfl, h1⟩
  have hkey : ∀ {x y : OneE}, entO y = entO x → y.s.key = x.s.key := by
    intro x y e
    have e1 : y.s.h = x.s.h := congrArg (fun p : Hd × List Int × Int => p.1) e
    unfold SE.key
    rw [e1]
  have hA : AscL ys := by
    unfold AscL
    rw [List.pairwise_iff_getElem]
    intro i j hi hj hij
    obtain ⟨x, hx, ex⟩ := hget i _ (List.getElem?_eq_getElem hi)
    obtain ⟨y, hy, ey⟩ := hget j _ (List.getElem?_eq_getElem hj)
    rw [hkey ex, hkey ey]
    exact l.asc i j x y hij hx hy
  refine ⟨hA.asc, l.key, fun k => ?_⟩
  rw [l.same k]
  have hfind : ∀ (xs ys : List OneE), ys.map entO = xs.map entO → (rowAt ys k).map entO = (rowAt xs k).map entO := by
    intro xs
    induction xs with
    | nil => intro ys h; have : ys = [] := by simpa using h
             rw [this]
    | cons x r ih =>
      intro ys h
      cases ys with
      | nil => cases h
      | cons y t =>
        rw [List.map_cons, List.map_cons] at h
        injection h with h1 h2
        unfold rowAt
        rw [List.find?_cons, List.find?_cons, hkey h1]
        by_cases e : x.s.key = k
        · rw [decide_eq_true e]
          show some (entO y) = some (entO x)
          rw [h1]
        · rw [decide_eq_false e]
          exact ih t h2
  have h3 := hfind xs ys h
  exact h3.symm
theorem OneAt.below {w w' : World} {ad : Addr} {x : OneE} {B : Nat} (h : OneAt w ad x) (hb : Below B w w') (hl : ad.block < B) : OneAt w' ad x := by
  obtain ⟨h0, h1, h2, h3, h4, h5, h6, h7, h8, h9⟩ := h
  have H : ∀ (p : Addr) v, p.block < B → w.cell? p = some v → w'.cell? p = some v := fun p v hp e => (hb.cell hp).trans e
  exact ⟨H _ _ hl h0, H _ _ hl h1, H _ _ hl h2, H _ _ hl h3, H _ _ hl h4, H _ _ hl h5, H _ _ hl h6, H _ _ hl h7, H _ _ hl h8, H _ _ hl h9⟩
/-- What Copy has gathered. -/
structure CopR (w : World) (gn : Nat) (most : Int) (xs : List OneE) (iv : Value) (wr : World) : Prop where
  ex : ∃ (i c2 : Nat) (A2 : Option Addr) (ys : List OneE), iv = .int .i64 i ∧ i ≤ xs.length ∧ Hid (Blk wr gn 61 #[.slice A2 i c2, .int .i64 most]) ∧ Hid (wr.ownsRow w.heap.size 114 10 (.slice A2 i c2) i (ys.flatMap oneL)) ∧ Hid (SameL (xs.take i) ys) ∧ Hid (∀ y ∈ ys, y.s.ok w.heap.size wr ∧ (0 ≤ y.at_ ∧ y.at_ ≤ 9223372036854775807))
  below : Hid (Below w.heap.size w wr)
set_option maxRecDepth 100000 in
set_option maxHeartbeats 16000000 in
theorem copy11 (base : Nat) (w : World) (g : Nat) (v : Value) (most : Int) (xs : List OneE) (q : RfS base w g v most xs) (hN : xs.length ≤ 4096) :
    Calls Try.prog 25 #[.pointer (some ⟨g, 0, none⟩)] w fun e w' => e = .returned (.pointer (some ⟨w.heap.size, 0, none⟩)) ∧ ∃ v' ys, RfS w.heap.size w' w.heap.size v' most ys ∧ SameL xs ys ∧ Below w.heap.size w w' := by
  obtain ⟨A, n, c, rfl, hl, hc1, hc2⟩ := q.shape
  have HQ := Lib.hid q
  have HL := Lib.hid hl
  have hN2 : n ≤ 4096 := by omega
  have hg1 : g < w.heap.size := q.blk.lt
  have g1 := q.blk.cell 1
  simp only [List.getElem?_toArray, List.getElem?_cons_zero, List.getElem?_cons_succ] at g1
  clear q hl hN
  go_enter Try.func25, Try.ntmps25
  go_wp2_with fail
  have HB0 : Hid (Blk (w.alloc (.cells #[.slice none 0 0, .int .i64 most] 61)) w.heap.size 61 #[.slice none 0 0, .int .i64 most]) := Lib.hid (Blk.new _ _ _)
  have HW0 : Hid (Below w.heap.size w (w.alloc (.cells #[.slice none 0 0, .int .i64 most] 61))) := Lib.hid ((Below.refl _ _).alloc (Nat.le_refl _) _)
  clear g1
  generalize w.alloc (.cells #[.slice none 0 0, .int .i64 most] 61) = w1 at *
  go_loopw [4] (CopR w w.heap.size most xs) (fun iv _ => n - (intOf iv).toNat)
  case atStart => exact ⟨⟨0, 0, none, [], rfl, Nat.zero_le _, HB0, Lib.hid (World.ownsRow_nil _ _ _ _), Lib.hid rfl, Lib.hid (by simp)⟩, HW0⟩
  case round =>
    obtain ⟨⟨i, c2, A2, ys, rfl, hi, hB, hrow, hsm, hok⟩, hb⟩ := hrel
    rw [HL.out] at hi
    generalize wr = wj at *
    have HQj := Lib.hid (HQ.out.later hb.out)
    have g0 := HQj.out.blk.cell 0
    simp only [List.getElem?_toArray, List.getElem?_cons_zero, List.getElem?_cons_succ] at g0
    by_cases hlt : i < n
    · have hltI : (i : Int) < n := by omega
      obtain ⟨ad, x, hA, hxs, hxa⟩ := HQj.out.at_ hlt HL.out
      subst hA
      have hag : ad.block < w.heap.size := by
        rcases HQ.out.row.2 with ⟨h0, _⟩ | ⟨gr, cap, cur, hv, _, hk, _⟩
        · cases h0
        · injection hv with hv _ _
          injection hv with hv
          rw [hv]
          exact (show Blk w gr 114 cur from hk).lt
      have HX := Lib.hid hxs
      have hgd := HQj.out.good x (List.mem_of_getElem? hxs)
      go_wp2_with fail
      have hbd : Below wj.heap.size wj wj.drew := (Below.refl _ _).drew
      generalize hgn : w.heap.size = gn at *
      have HS : Hid ((fun W : World => Blk W g 61 #[.slice (some ad) n c, .int .i64 most] ∧ OneAt W (ad.add (i * 10)) x ∧ Blk W gn 61 #[.slice A2 i c2, .int .i64 most]) wj.drew) := Lib.hid ⟨HQj.out.blk.later hbd, hxa.later hbd, hB.out.later hbd⟩
      have HRj := Lib.hid (own_kept hrow.out (Kept.of_new hbd (fun _ => False)) (fun _ _ h => h))
      have HOj : Hid (∀ y ∈ ys, y.s.ok gn wj.drew ∧ (0 ≤ y.at_ ∧ y.at_ ≤ 9223372036854775807)) := Lib.hid fun y hy => ⟨(hok.out y hy).1.later hbd, (hok.out y hy).2⟩
      have HXr := Lib.hid (hgd.1.later hbd)
      have HAt := Lib.hid hgd.2
      have HBj : Hid (Below gn w wj.drew) := Lib.hid hb.out.drew
      clear hxs hxa hgd hbd hrow hok hb hB g0
      refine wp_region_g (fun W : World => Blk W g 61 #[.slice (some ad) n c, .int .i64 most] ∧ OneAt W (ad.add (i * 10)) x ∧ Blk W gn 61 #[.slice A2 i c2, .int .i64 most]) [.take 0, .take 1, .take 2, .take 3, .take 5, .take 6, .take 7, .take 9, .take 14, .take 15, .take 16, .take 18, .take 4, .take 8, .take 10, .take 11, .take 12, .take 17, .take 19, .take 20, .take 21, .one 13, .take 22, .one 23, .one 24, .take 25, .take 26, .one 27] (by kernel_rfl) (fun _ d _ _ _ h => by cases d <;> exact h) ?_
      simp only [List.map_cons, List.map_nil, RStep.node, nthOp_zero, nthOp_succ]
      generalize wj.drew = w2 at *
      refine wpG_take HS (by kernel_rfl) (by intro W hW; clear hW; go_simp; try with_reducible rfl) ?_
      refine wpG_take HS (by kernel_rfl) (by intro W hW; clear hW; go_simp; try with_reducible rfl) ?_
      refine wpG_take HS (by kernel_rfl) (by intro W hW; clear hW; go_simp; try with_reducible rfl) ?_
      refine wpG_take HS (by kernel_rfl) (by intro W hW; clear hW; go_simp; try with_reducible rfl) ?_
      refine wpG_take HS (by kernel_rfl) (by intro W hW; clear hW; go_simp; try with_reducible rfl) ?_
      refine wpG_take HS (by kernel_rfl) (by intro W hW; clear hW; go_simp; try with_reducible rfl) ?_
      refine wpG_take HS (by kernel_rfl) (by intro W hW; clear hW; go_simp; try with_reducible rfl) ?_
      refine wpG_take HS (by kernel_rfl) (by intro W hW; clear hW; go_simp; try with_reducible rfl) ?_
      refine wpG_take HS (by kernel_rfl) (by intro W hW; clear hW; go_simp; try with_reducible rfl) ?_
      refine wpG_take HS (by kernel_rfl) (by intro W hW; clear hW; go_simp; try with_reducible rfl) ?_
      refine wpG_take HS (by kernel_rfl) (by intro W hW; clear hW; go_simp; try with_reducible rfl) ?_
      refine wpG_take HS (by kernel_rfl) (by intro W hW; clear hW; go_simp; try with_reducible rfl) ?_
      go_simp
      refine wpG_take HS (by kernel_rfl) (by intro W hW; have g0 := hW.2.2.cell 0; simp only [List.getElem?_toArray, List.getElem?_cons_zero, List.getElem?_cons_succ] at g0; clear hW; go_simp; try with_reducible rfl) ?_
      refine wpG_take HS (by kernel_rfl) (by intro W hW; have g0 := hW.1.cell 0; simp only [List.getElem?_toArray, List.getElem?_cons_zero, List.getElem?_cons_succ] at g0; clear hW; go_simp; try with_reducible rfl) ?_
      refine wpG_take HS (by kernel_rfl) (by intro W hW; clear hW; go_simp; try with_reducible rfl) ?_
      refine wpG_take HS (by kernel_rfl) (by intro W hW; clear hW; go_simp; try with_reducible rfl) ?_
      refine wpG_take HS (by kernel_rfl) (by intro W hW; obtain ⟨q0, q1, q2, q3, q4, q5, q6, q7, q8, q9⟩ := hW.2.1; clear hW; go_simp; try with_reducible rfl) ?_
      refine wpG_take HS (by kernel_rfl) (by intro W hW; have g0 := hW.1.cell 0; simp only [List.getElem?_toArray, List.getElem?_cons_zero, List.getElem?_cons_succ] at g0; clear hW; go_simp; try with_reducible rfl) ?_
      refine wpG_take HS (by kernel_rfl) (by intro W hW; clear hW; go_simp; try with_reducible rfl) ?_
      refine wpG_take HS (by kernel_rfl) (by intro W hW; clear hW; go_simp; try with_reducible rfl) ?_
      refine wpG_take HS (by kernel_rfl) (by intro W hW; obtain ⟨q0, q1, q2, q3, q4, q5, q6, q7, q8, q9⟩ := hW.2.1; clear hW; go_simp; try with_reducible rfl) ?_
      go_simp
      refine wpG_do fun K hK => ?_
      go_wp2_with fail
      refine (copied11 x.s w2 HXr.out).mono ?_
      rintro e w3 ⟨s', rfl, hcp, hb3⟩
      have HS3 : Hid ((fun W : World => Blk W g 61 #[.slice (some ad) n c, .int .i64 most] ∧ OneAt W (ad.add (i * 10)) x ∧ Blk W gn 61 #[.slice A2 i c2, .int .i64 most]) w3) := Lib.hid ⟨HS.out.1.later hb3, HS.out.2.1.later hb3, HS.out.2.2.later hb3⟩
      have HR3 := Lib.hid (own_kept HRj.out (Kept.of_new hb3 (fun _ => False)) (fun _ _ h => h))
      have HO3 : Hid (∀ y ∈ ys, y.s.ok gn w3 ∧ (0 ≤ y.at_ ∧ y.at_ ≤ 9223372036854775807)) := Lib.hid fun y hy => ⟨(HOj.out y hy).1.later hb3, (HOj.out y hy).2⟩
      have HC3 := Lib.hid hcp
      have hsz2 : gn ≤ w2.heap.size := by have := HBj.out.size; omega
      have HB3 : Hid (Below gn w w3) := Lib.hid (HBj.out.trans (hb3.mono hsz2))
      clear hb3 hcp HS HRj HOj HBj HXr
      go_wp2_with fail
      refine hK.out _ _ HS3.out ?_
      clear hK K
      refine wpG_take HS3 (by kernel_rfl) (by intro W hW; clear hW; go_simp; try with_reducible rfl) ?_
      go_simp
      refine wpG_do fun K hK => ?_
      go_wp2_with fail
      have hb4 : Below w3.heap.size w3 (w3.alloc (.cells #[.int .u16 s'.h.age, .int .u8 s'.h.opts, .int .u8 s'.h.typ, .int .u32 s'.h.id, .int .u32 s'.h.adv, .int .i32 s'.h.seq, .int .u16 s'.h.sum, .int .u16 s'.h.len, .slice s'.A s'.n s'.c, .int .i64 x.at_] 114)) := (Below.refl _ _).alloc (Nat.le_refl _) _
      have hsz3 : gn ≤ w3.heap.size := by have := HB3.out.size; omega
      have HS4 : Hid ((fun W : World => Blk W g 61 #[.slice (some ad) n c, .int .i64 most] ∧ OneAt W (ad.add (i * 10)) x ∧ Blk W gn 61 #[.slice A2 i c2, .int .i64 most]) (w3.alloc (.cells #[.int .u16 s'.h.age, .int .u8 s'.h.opts, .int .u8 s'.h.typ, .int .u32 s'.h.id, .int .u32 s'.h.adv, .int .i32 s'.h.seq, .int .u16 s'.h.sum, .int .u16 s'.h.len, .slice s'.A s'.n s'.c, .int .i64 x.at_] 114))) := Lib.hid ⟨HS3.out.1.later hb4, HS3.out.2.1.later hb4, HS3.out.2.2.later hb4⟩
      have HXr : Hid (Reads (w3.alloc (.cells #[.int .u16 s'.h.age, .int .u8 s'.h.opts, .int .u8 s'.h.typ, .int .u32 s'.h.id, .int .u32 s'.h.adv, .int .i32 s'.h.seq, .int .u16 s'.h.sum, .int .u16 s'.h.len, .slice s'.A s'.n s'.c, .int .i64 x.at_] 114)) (w3.heap.size + 1) 10 (some ⟨w3.heap.size, 0, none⟩) 1 (oneL ⟨s', x.at_⟩)) :=
        Lib.hid ⟨rfl, fun _ => ⟨_, rfl, Nat.lt_succ_self _, fun j u hu => by rw [add_none, Nat.zero_add, (Blk.new w3 114 #[.int .u16 s'.h.age, .int .u8 s'.h.opts, .int .u8 s'.h.typ, .int .u32 s'.h.id, .int .u32 s'.h.adv, .int .i32 s'.h.seq, .int .u16 s'.h.sum, .int .u16 s'.h.len, .slice s'.A s'.n s'.c, .int .i64 x.at_]).cell]; simpa [oneL] using hu⟩⟩
      have HR4 := Lib.hid (HR3.out.alloc (.cells #[.int .u16 s'.h.age, .int .u8 s'.h.opts, .int .u8 s'.h.typ, .int .u32 s'.h.id, .int .u32 s'.h.adv, .int .i32 s'.h.seq, .int .u16 s'.h.sum, .int .u16 s'.h.len, .slice s'.A s'.n s'.c, .int .i64 x.at_] 114))
      have HO4 : Hid (∀ y ∈ ys, y.s.ok gn (w3.alloc (.cells #[.int .u16 s'.h.age, .int .u8 s'.h.opts, .int .u8 s'.h.typ, .int .u32 s'.h.id, .int .u32 s'.h.adv, .int .i32 s'.h.seq, .int .u16 s'.h.sum, .int .u16 s'.h.len, .slice s'.A s'.n s'.c, .int .i64 x.at_] 114)) ∧ (0 ≤ y.at_ ∧ y.at_ ≤ 9223372036854775807)) := Lib.hid fun y hy => ⟨(HO3.out y hy).1.later hb4, (HO3.out y hy).2⟩
      have HN4 := Lib.hid ((HC3.out.ok.mono hsz2).later hb4)
      have HB4 : Hid (Below gn w (w3.alloc (.cells #[.int .u16 s'.h.age, .int .u8 s'.h.opts, .int .u8 s'.h.typ, .int .u32 s'.h.id, .int .u32 s'.h.adv, .int .i32 s'.h.seq, .int .u16 s'.h.sum, .int .u16 s'.h.len, .slice s'.A s'.n s'.c, .int .i64 x.at_] 114))) := Lib.hid (HB3.out.trans (hb4.mono hsz3))
      refine hK.out _ _ HS4.out ?_
      clear hK K hb4 HR3 HO3 HB3 HS3
      have hgz : gn ≤ (w3.alloc (.cells #[.int .u16 s'.h.age, .int .u8 s'.h.opts, .int .u8 s'.h.typ, .int .u32 s'.h.id, .int .u32 s'.h.adv, .int .i32 s'.h.seq, .int .u16 s'.h.sum, .int .u16 s'.h.len, .slice s'.A s'.n s'.c, .int .i64 x.at_] 114)).heap.size := by rw [World.size_alloc]; omega
      have hlb : w3.heap.size + 1 ≤ (w3.alloc (.cells #[.int .u16 s'.h.age, .int .u8 s'.h.opts, .int .u8 s'.h.typ, .int .u32 s'.h.id, .int .u32 s'.h.adv, .int .i32 s'.h.seq, .int .u16 s'.h.sum, .int .u16 s'.h.len, .slice s'.A s'.n s'.c, .int .i64 x.at_] 114)).heap.size := by rw [World.size_alloc]; exact Nat.le_refl _
      generalize w3.alloc (.cells #[.int .u16 s'.h.age, .int .u8 s'.h.opts, .int .u8 s'.h.typ, .int .u32 s'.h.id, .int .u32 s'.h.adv, .int .i32 s'.h.seq, .int .u16 s'.h.sum, .int .u16 s'.h.len, .slice s'.A s'.n s'.c, .int .i64 x.at_] 114) = w4 at *
      generalize w3.heap.size = b3 at *
      refine wpG_do fun K hK => ?_
      go_wp2_with (at_builtin; go_must (refine wpList_app el_one rfl (.tmp 24) (.tmp 43) rfl HR4.out rfl HXr.out rfl (oneL_one _) (by simp only [maxLen]; omega) (by omega) hgz ?_); intro v5 w5 ho5 hb5 hg5 _; obtain ⟨A5, c5, rfl, -⟩ := (OwnW.of_own ho5).shape; have H5 := Lib.hid (And.intro ho5 (And.intro hb5 hg5)); clear ho5 hb5 hg5)
      have hrb : ∀ {gg : Nat} {t : TypeId} {cs : Array Value}, Blk w4 gg t cs → 114 ≠ t → Blk w5 gg t cs := fun {gg t cs} hg hne => hg.grown H5.out.2.2 (fun e => own_blk_ne HR4.out hg hne e.symm)
      have HS5 : Hid ((fun W : World => Blk W g 61 #[.slice (some ad) n c, .int .i64 most] ∧ OneAt W (ad.add (i * 10)) x ∧ Blk W gn 61 #[.slice A2 i c2, .int .i64 most]) w5) := Lib.hid ⟨hrb HS4.out.1 (by decide), HS4.out.2.1.below H5.out.2.1 (by rw [block_of_add]; exact hag), hrb HS4.out.2.2 (by decide)⟩
      refine hK.out _ _ HS5.out ?_
      clear hK K
      refine wpG_take HS5 (by kernel_rfl) (by intro W hW; clear hW; go_simp; try with_reducible rfl) ?_
      refine wpG_take HS5 (by kernel_rfl) (by intro W hW; clear hW; go_simp; try with_reducible rfl) ?_
      go_simp
      refine wpG_last fun K hK => ?_
      have f0 := HS5.out.2.2.frozen 0
      have e0 := HS5.out.2.2.cell 0
      simp only [List.getElem?_toArray, List.getElem?_cons_zero, List.getElem?_cons_succ] at e0
      go_wp2_with fail
      refine hK.out _ _ ?_
      clear hK K e0 f0
      go_simp
      go_wp2_with fail
      have hg5 : gn < w5.heap.size := HS5.out.2.2.lt
      have hokg : ∀ (s : SE), s.ok gn w4 → s.ok gn (w5.setCell ⟨gn, 0, none⟩ (.slice A5 (i + 1) c5)) := fun s hs => by
        have h1 := hs.grown HR4.out (by decide) H5.out.2.2
        exact ⟨h1.head, own_cells h1.body HS5.out.2.2 (by decide) 0 _, h1.oct, h1.len⟩
      have hrw := own_cells H5.out.1 HS5.out.2.2 (by decide) 0 (.slice A5 (i + 1) c5)
      have hbl : Below gn w (w5.setCell ⟨gn, 0, none⟩ (.slice A5 (i + 1) c5)) := (HB4.out.trans H5.out.2.1).setCell (p := ⟨gn, 0, none⟩) (Nat.le_refl _) _
      have hbk := HS5.out.2.2.set_ 0 (.slice A5 (i + 1) c5)
      subst hgn
      go_roundw
      case rel =>
        refine ⟨⟨i + 1, c5, A5, ys ++ [⟨s', x.at_⟩], by go_num, by rw [HL.out]; omega, Lib.hid hbk, Lib.hid ?_, Lib.hid ?_, Lib.hid ?_⟩, Lib.hid hbl⟩
        · rw [List.flatMap_append, List.flatMap_singleton]
          exact hrw
        · unfold SameL
          rw [take_one HX.out, List.map_append, List.map_append, hsm.out, List.map_singleton, List.map_singleton]
          congr 2
          show (s'.h, s'.B, x.at_) = (x.s.h, x.s.B, x.at_)
          rw [HC3.out.h, HC3.out.B]
        · intro y hy
          rcases List.mem_append.1 hy with hy | hy
          · exact ⟨hokg _ (HO4.out y hy).1, (HO4.out y hy).2⟩
          · rw [List.mem_singleton] at hy
            subst hy
            exact ⟨hokg _ HN4.out, HAt.out⟩
      case measure => simp [intOf]; omega
    · obtain rfl : i = n := by omega
      go_wp2_with fail
      go_ret
      have ht : xs.take i = xs := List.take_of_length_le (by rw [HL.out]; exact Nat.le_refl _)
      have hs2 := hsm.out
      rw [ht] at hs2
      have hyl : ys.length = i := by rw [hs2.len, HL.out]
      exact ⟨rfl, _, ys, ⟨hB.out, by rw [hyl]; exact hrow.out, hok.out⟩, hs2, hb.out⟩
end Go.Proofs.Ytpncbggjngamgaa
namespace Go.Proofs.Ytpncbggjngamgaa
set_option linter.unusedVariables false
open Go.RowKit

theorem exec_head_ne {o : Oper} {ev : Operand → Value} {x y : Operand} {t : TypeId} (ho : o.op = .binOp .neq 28 x y t) (a b : Hd) (hx : ev x = .agg #[.int .u16 a.age, .int .u8 a.opts, .int .u8 a.typ, .int .u32 a.id, .int .u32 a.adv, .int .i32 a.seq, .int .u16 a.sum, .int .u16 a.len]) (hy : ev y = .agg #[.int .u16 b.age, .int .u8 b.opts, .int .u8 b.typ, .int .u32 b.id, .int .u32 b.adv, .int .i32 b.seq, .int .u16 b.sum, .int .u16 b.len]) (W : World) :
    (execOp ev o).run Try.prog W = .ok (.value (.bool (!eqHd a b))) W := by
  unfold execOp
  simp only [ho]
  rw [hx, hy]
  have e1 : (eqGuard .neq 28 x y (.agg #[.int .u16 a.age, .int .u8 a.opts, .int .u8 a.typ, .int .u32 a.id, .int .u32 a.adv, .int .i32 a.seq, .int .u16 a.sum, .int .u16 a.len]) (.agg #[.int .u16 b.age, .int .u8 b.opts, .int .u8 b.typ, .int .u32 b.id, .int .u32 b.adv, .int .i32 b.seq, .int .u16 b.sum, .int .u16 b.len])).run Try.prog W = .ok () W := run_eqGuard_agg _ _ _ _ _ _ _ Try.eqGuardType28
  have e2 : (Op.equal 28 (.agg #[.int .u16 a.age, .int .u8 a.opts, .int .u8 a.typ, .int .u32 a.id, .int .u32 a.adv, .int .i32 a.seq, .int .u16 a.sum, .int .u16 a.len]) (.agg #[.int .u16 b.age, .int .u8 b.opts, .int .u8 b.typ, .int .u32 b.id, .int .u32 b.adv, .int .i32 b.seq, .int .u16 b.sum, .int .u16 b.len])).run Try.prog W = .ok (eqHd a b) W := hd_eq a b W
  simp [binOp, Sem.run_bind, Sem.run_pure, e2, e1, Result.andThen_ok]
set_option maxRecDepth 100000 in
set_option maxHeartbeats 4000000 in
theorem eqHeads_any (A B : Option Addr) (n c m d : Nat) (hs ks : List Hd) (w : World) (hx : Hdl w A n c hs) (hy : Hdl w B m d ks) (he : hs = ks) :
    Calls Try.prog 55 #[.slice A n c, .slice B m d] w fun e w' => e = .returned (.bool true) ∧ Below w.heap.size w w' := by
  subst he
  have hnm : n = m := by rw [← hx.len, ← hy.len]
  subst hnm
  have HX := Lib.hid hx
  have HY := Lib.hid hy
  have hc := hx.cap
  have hd := hy.cap
  clear hx hy
  go_enter Try.func55, Try.ntmps55
  go_wp2
  go_loopw [5] (fun iv wr => ∃ i : Nat, iv = .int .i64 i ∧ i ≤ n ∧ Hid (Below w.heap.size w wr)) (fun iv _ => n - (intOf iv).toNat)
  case atStart => exact ⟨0, rfl, Nat.zero_le _, Lib.hid (Below.refl _ _)⟩
  case round =>
    obtain ⟨i, rfl, hi, hb⟩ := hrel
    by_cases hlt : i < n
    · have hltI : (i : Int) < n := by omega
      obtain ⟨ad, x, hA, hxs, hxa⟩ := (HX.out.later hb.out).at_ hlt
      obtain ⟨bd, y, hB, hys, hya⟩ := (HY.out.later hb.out).at_ hlt
      subst hA hB
      rw [hxs] at hys
      injection hys with hys
      subst hys
      have hbd : Below wr.heap.size wr wr.drew := (Below.refl _ _).drew
      have HS : Hid ((fun W : World => HdAt W (ad.add (i * 8)) x ∧ HdAt W (bd.add (i * 8)) x) wr.drew) := Lib.hid ⟨hxa.later hbd, hya.later hbd⟩
      have HB := Lib.hid hb.out.drew
      clear hxs hxa hya hbd
      go_wp2_with fail
      refine wp_region_s (fun W : World => HdAt W (ad.add (i * 8)) x ∧ HdAt W (bd.add (i * 8)) x) [(0, true), (1, true), (2, true), (4, true), (5, true), (6, true), (3, true), (7, true), (8, true)] (by kernel_rfl) (fun _ d _ _ _ h => by cases d <;> exact h) ?_
      simp only [List.map_cons, List.map_nil, nthOp_zero, nthOp_succ]
      generalize wr.drew = w3 at *
      refine wpS_take HS (by kernel_rfl) (by intro W hW; clear hW; go_simp; try with_reducible rfl) ?_
      refine wpS_take HS (by kernel_rfl) (by intro W hW; clear hW; go_simp; try with_reducible rfl) ?_
      refine wpS_take HS (by kernel_rfl) (by intro W hW; clear hW; go_simp; try with_reducible rfl) ?_
      refine wpS_take HS (by kernel_rfl) (by intro W hW; clear hW; go_simp; try with_reducible rfl) ?_
      refine wpS_take HS (by kernel_rfl) (by intro W hW; clear hW; go_simp; try with_reducible rfl) ?_
      refine wpS_take HS (by kernel_rfl) (by intro W hW; clear hW; go_simp; try with_reducible rfl) ?_
      refine wpS_take HS (by kernel_rfl) (by intro W hW; obtain ⟨q0, q1, q2, q3, q4, q5, q6, q7⟩ := hW.1; go_simp; try with_reducible rfl) ?_
      refine wpS_take HS (by kernel_rfl) (by intro W hW; obtain ⟨q0, q1, q2, q3, q4, q5, q6, q7⟩ := hW.2; go_simp; try with_reducible rfl) ?_
      go_simp
      refine wpS_take HS (by kernel_rfl) (fun W _ => exec_head_ne rfl x x rfl rfl W) ?_
      rw [(eqHd_iff x x).2 rfl]
      refine wpS_nil ?_
      go_simp
      go_wp2_with fail
      go_roundw
      case rel => exact ⟨i + 1, by go_num, by omega, HB⟩
      case measure => simp [intOf]; omega
    · obtain rfl : i = n := by omega
      go_wp2
      go_ret
      exact ⟨rfl, hb.out⟩
end Go.Proofs.Ytpncbggjngamgaa
namespace Go.Proofs.Ytpncbggjngamgaa
set_option linter.unusedVariables false
open Go.RowKit

/-- What WideBytes leaves: a new block with the bytes and the marks. -/
def WideAt (w w' : World) (xs : List Int) (e : Ending) : Prop :=
  ∃ g, e = .returned (.slice (some ⟨g, 0, none⟩) xs.length (xs.length + 64)) ∧ w.heap.size ≤ g ∧ Blk w' g 5 (u8s (wide xs)).toArray ∧ Below w.heap.size w w'

set_option maxHeartbeats 400000 in
theorem wideBytes_any (A : Option Addr) (n c : Nat) (xs : List Int) (w : World) (hx : Reads w w.heap.size 1 A n (u8s xs)) (hn : n ≤ 1099511627776) :
    Calls Try.prog 69 #[.slice A n c] w fun e w' => WideAt w w' xs e := by
  have hlx := hx.u8len
  have hmk := fun W => run_make_row' (P := Try.prog) 29 5 _ 1 Try.underlying29 info_u8 rfl .i64 .i64 (n + 64) (by omega) (by omega) W
  have ec : ((n + 64 : Nat) : Int) = (n : Int) + 64 := by omega
  rw [ec] at hmk
  have hz0 : madeCells #[.int .u8 0] (n + 64) = Fill (.int .u8 0) (u8s (wide xs)) 0 := by
    rw [Fill.zero, u8s_length, wide_length, hlx]; simp [madeCells, Array.ext_iff, Nat.mod_one]
  rw [hz0] at hmk
  have Hlx := Lib.hid hlx
  clear hlx hz0 ec
  go_enter Try.func69, Try.ntmps69
  go_wp2
  go_loopw [4] (fun i wr => ∃ k : Nat, i = .int .i64 k ∧ k ≤ n + 64 ∧ Blk wr w.heap.size 5 (Fill (.int .u8 0) (u8s (wide xs)) k) ∧ Below w.heap.size w wr) (fun i _ => n + 64 - (intOf i).toNat)
  case atStart => exact ⟨0, rfl, by omega, Blk.new _ _ _, (Below.refl _ _).alloc (Nat.le_refl _) _⟩
  case round =>
    obtain ⟨k, rfl, hk, hblk, hbel⟩ := hrel
    by_cases hlt : k < n
    · obtain ⟨a, x, rfl, _, hx1, h1⟩ := (hx.below hbel).u8at hlt
      have hwl : k < (u8s (wide xs)).length := by rw [u8s_length, wide_length, Hlx.out]; omega
      have h2 : wr.cell? ⟨w.heap.size, k, none⟩ = some (.int .u8 0) := by rw [hblk.cell, Fill.at_ _ _ hwl]
      have h3 := hblk.frozen k
      clear hwl
      go_wp2
      go_roundw
      case rel =>
        refine ⟨k + 1, by go_num, by omega, ?_, hbel.setCell (Nat.le_refl _) _⟩
        have := hblk.set_ k (.int .u8 x)
        rwa [Fill.set _ _ (u8s_get_of (wide_low hx1))] at this
      case measure => simp [intOf]; omega
    · by_cases hlt2 : k < n + 64
      · have hwl : k < (u8s (wide xs)).length := by rw [u8s_length, wide_length, Hlx.out]; omega
        have h2 : wr.cell? ⟨w.heap.size, k, none⟩ = some (.int .u8 0) := by rw [hblk.cell, Fill.at_ _ _ hwl]
        have h3 := hblk.frozen k
        clear hwl
        go_wp2
        go_roundw
        case rel =>
          refine ⟨k + 1, by go_num, by omega, ?_, hbel.setCell (Nat.le_refl _) _⟩
          have := hblk.set_ k (.int .u8 ((279 + 7 * (k : Int) + 3) % 256))
          rw [Fill.set _ _ (u8s_get_of (wide_high (by rw [Hlx.out]; omega) (by rw [Hlx.out]; omega)))] at this
          exact this
        case measure => simp [intOf]; omega
      · go_wp2
        go_ret
        obtain rfl : k = n + 64 := by omega
        refine ⟨w.heap.size, by rw [Hlx.out]; rfl, Nat.le_refl _, ?_, hbel⟩
        rwa [Fill.full _ _ (by rw [u8s_length, wide_length, Hlx.out]; omega)] at hblk

/-- SpareBytes says yes of what WideBytes made. -/
theorem spareBytes_yes (A : Option Addr) (n c : Nat) (xs : List Int) (w : World) (B : Nat) (hx : Reads w B 1 A (n + 64) (u8s (wide xs))) (hlx : xs.length = n) (hc : n + 64 ≤ c) (hn : n ≤ 1099511627776) :
    Calls Try.prog 72 #[.slice A n c] w fun e w' => e = .returned (.bool true) ∧ ∃ k, w' = w.drewN k := by
  have Hlx := Lib.hid hlx
  clear hlx
  go_enter Try.func72, Try.ntmps72
  go_wp2
  go_loopw [4] (fun i wr => ∃ k : Nat, i = .int .i64 k ∧ n ≤ k ∧ k ≤ n + 64 ∧ ∃ d, wr = w.drewN d) (fun i _ => n + 64 - (intOf i).toNat)
  case atStart => exact ⟨n, rfl, by omega, by omega, 0, rfl⟩
  case round =>
    obtain ⟨k, rfl, hk1, hk2, d, rfl⟩ := hrel
    by_cases hlt : k < n + 64
    · obtain ⟨a, x, rfl, _, hx1, h1⟩ := hx.u8at hlt
      have hxe : x = (279 + 7 * (k : Int) + 3) % 256 := by
        have := hx1.out
        rw [wide_high (by rw [Hlx.out]; omega) (by rw [Hlx.out]; omega)] at this
        injection this with this
        exact this.symm
      have hb : (x == (279 + 7 * (k : Int) + 3) % 256) = true := by simp [hxe]
      clear hxe
      go_wp2
      go_roundw
      case rel => exact ⟨k + 1, by go_num, by omega, by omega, _, rfl⟩
      case measure => simp [intOf]; omega
    · go_wp2
      go_ret
      exact ⟨rfl, _, rfl⟩
end Go.Proofs.Ytpncbggjngamgaa
namespace Go.Proofs.Ytpncbggjngamgaa
set_option linter.unusedVariables false
open Go.RowKit

theorem stput_neg (w : World) (g bm : Nat) (hc : w.cell? ⟨g, 0, none⟩ = some (.map (some bm))) (x : SE) (now : Int) (hn : now < 0) : Calls Try.prog 19 #[.pointer (some ⟨g, 0, none⟩), .int .i64 now, x.v] w fun e w' => e = .returned (.int .i64 1) ∧ Below w.heap.size w w' := by
  obtain ⟨⟨xage, xopts, k1, k2, k3, xseq, xsum, xlen⟩, xA, xn, xc, xB⟩ := x
  have hb : Below w.heap.size w (w.alloc (.cells #[.int .u16 xage, .int .u8 xopts, .int .u8 k1, .int .u32 k2, .int .u32 k3, .int .i32 xseq, .int .u16 xsum, .int .u16 xlen, .slice xA xn xc] 31)) := (Below.refl _ _).alloc (Nat.le_refl _) _
  have HN := Lib.hid (stnone_any (w.alloc (.cells #[.int .u16 xage, .int .u8 xopts, .int .u8 k1, .int .u32 k2, .int .u32 k3, .int .i32 xseq, .int .u16 xsum, .int .u16 xlen, .slice xA xn xc] 31)) g bm ((hb.cell (cell_lt hc)).trans hc))
  have HB := Lib.hid hb
  have dn : decide (now < 0) = true := decide_eq_true hn
  clear hb hc
  go_enter Try.func19, Try.ntmps19
  go_wp2_with (go_at_call 33; refine HN.out.mono ?_; rintro e w' ⟨rfl, rfl⟩)
  go_ret
  exact ⟨rfl, HB.out⟩
theorem stget_neg (w : World) (g bm : Nat) (hc : w.cell? ⟨g, 0, none⟩ = some (.map (some bm))) (k : Ky3) (now : Int) (hn : now < 0) : Calls Try.prog 27 #[.pointer (some ⟨g, 0, none⟩), .int .i64 now, keyV k] w fun e w' => e = .returned (.tuple #[zeroSt, .bool false]) ∧ Below w.heap.size w w' := by
  obtain ⟨k1, k2, k3⟩ := k
  have hb : Below w.heap.size w ((w.alloc (.cells #[.int .u8 k1, .int .u32 k2, .int .u32 k3] 45)).alloc (.cells #[.int .u16 0, .int .u8 0, .int .u8 0, .int .u32 0, .int .u32 0, .int .i32 0, .int .u16 0, .int .u16 0, .slice none 0 0] 31)) := below_two _ _ _
  have HR0 : Hid (Blk ((w.alloc (.cells #[.int .u8 k1, .int .u32 k2, .int .u32 k3] 45)).alloc (.cells #[.int .u16 0, .int .u8 0, .int .u8 0, .int .u32 0, .int .u32 0, .int .i32 0, .int .u16 0, .int .u16 0, .slice none 0 0] 31)) (w.heap.size + 1) 31 #[.int .u16 0, .int .u8 0, .int .u8 0, .int .u32 0, .int .u32 0, .int .i32 0, .int .u16 0, .int .u16 0, .slice none 0 0]) := Lib.hid (new_at _ _ _)
  have HN := Lib.hid (stnone_any ((w.alloc (.cells #[.int .u8 k1, .int .u32 k2, .int .u32 k3] 45)).alloc (.cells #[.int .u16 0, .int .u8 0, .int .u8 0, .int .u32 0, .int .u32 0, .int .i32 0, .int .u16 0, .int .u16 0, .slice none 0 0] 31)) g bm ((hb.cell (cell_lt hc)).trans hc))
  have HB := Lib.hid hb
  have dn : decide (now < 0) = true := decide_eq_true hn
  clear hb hc
  go_enter Try.func27, Try.ntmps27
  go_wp2_with (first
    | (go_at_call 33; refine HN.out.mono ?_; rintro e w' ⟨rfl, rfl⟩)
    | (refine wpList_store_row rfl 31 _ _ rfl (w.heap.size + 1) #[.int .u16 0, .int .u8 0, .int .u8 0, .int .u32 0, .int .u32 0, .int .i32 0, .int .u16 0, .int .u16 0, .slice none 0 0] rfl rfl 31 _ HR0.out info_state rfl (by simp [Value.oneCell']) ?_))
  refine bodyPost_ret (results_cell_row_tmp rfl _ _ (w.heap.size + 1) 31 #[.int .u16 0, .int .u8 0, .int .u8 0, .int .u32 0, .int .u32 0, .int .i32 0, .int .u16 0, .int .u16 0, .slice none 0 0] (0, 0) _ rfl (HR0.out.setRow _) Try.underlying31 rfl info_state) rfl ?_
  exact ⟨rfl, below_setRow HB.out (by omega) _⟩
theorem put11_neg (w : World) (g : Nat) (x : SE) (now : Int) (hn : now < 0) : Calls Try.prog 44 #[.pointer (some ⟨g, 0, none⟩), .int .i64 now, x.v] w fun e w' => e = .returned (.int .i64 1) ∧ Below w.heap.size w w' := by
  obtain ⟨⟨xage, xopts, k1, k2, k3, xseq, xsum, xlen⟩, xA, xn, xc, xB⟩ := x
  have hb : Below w.heap.size w (w.alloc (.cells #[.int .u16 xage, .int .u8 xopts, .int .u8 k1, .int .u32 k2, .int .u32 k3, .int .i32 xseq, .int .u16 xsum, .int .u16 xlen, .slice xA xn xc] 31)) := (Below.refl _ _).alloc (Nat.le_refl _) _
  have HB := Lib.hid hb
  have dn : decide (now < 0) = true := decide_eq_true hn
  clear hb
  go_enter Try.func44, Try.ntmps44
  go_wp2_with fail
  go_ret
  exact ⟨rfl, HB.out⟩
set_option maxRecDepth 100000 in
set_option maxHeartbeats 4000000 in
theorem get11_neg (base : Nat) (w : World) (g : Nat) (v : Value) (most : Int) (xs : List OneE) (q : RfS base w g v most xs) (k : Ky3) (now : Int) (hn : now < 0) :
    Calls Try.prog 47 #[.pointer (some ⟨g, 0, none⟩), .int .i64 now, keyV k] w fun e w' => e = .returned (.tuple #[zeroSt, .bool false]) ∧ Below w.heap.size w w' := by
  obtain ⟨k1, k2, k3⟩ := k
  have hb1 : Below w.heap.size w ((w.alloc (.cells #[.int .u8 k1, .int .u32 k2, .int .u32 k3] 45)).alloc (.cells #[.int .u16 0, .int .u8 0, .int .u8 0, .int .u32 0, .int .u32 0, .int .i32 0, .int .u16 0, .int .u16 0, .slice none 0 0] 31)) := below_two _ _ _
  have HQ := Lib.hid (q.later hb1)
  have hk : Blk ((w.alloc (.cells #[.int .u8 k1, .int .u32 k2, .int .u32 k3] 45)).alloc (.cells #[.int .u16 0, .int .u8 0, .int .u8 0, .int .u32 0, .int .u32 0, .int .i32 0, .int .u16 0, .int .u16 0, .slice none 0 0] 31)) w.heap.size 45 #[.int .u8 k1, .int .u32 k2, .int .u32 k3] := (Blk.new _ _ _).alloc _
  have HZ : Hid (Blk ((w.alloc (.cells #[.int .u8 k1, .int .u32 k2, .int .u32 k3] 45)).alloc (.cells #[.int .u16 0, .int .u8 0, .int .u8 0, .int .u32 0, .int .u32 0, .int .i32 0, .int .u16 0, .int .u16 0, .slice none 0 0] 31)) (w.heap.size + 1) 31 #[.int .u16 0, .int .u8 0, .int .u8 0, .int .u32 0, .int .u32 0, .int .i32 0, .int .u16 0, .int .u16 0, .slice none 0 0]) := new_at _ _ _
  have b0 := hk.cell 0; have b1 := hk.cell 1; have b2 := hk.cell 2
  simp only [List.getElem?_toArray, List.getElem?_cons_zero, List.getElem?_cons_succ] at b0 b1 b2
  have HB1 := Lib.hid hb1
  have dn : decide (now < 0) = true := decide_eq_true hn
  clear q hb1 hk
  go_enter Try.func47, Try.ntmps47
  go_wp2_with fail
  refine (find11 base _ g _ most xs HQ.out (k1, k2, k3)).mono ?_
  rintro e w2 ⟨z, rfl, -, hb2⟩
  have HB2 := Lib.hid (below_then HB1.out hb2)
  have HZ2 := Lib.hid (HZ.out.later hb2)
  clear hb2 HQ HB1 HZ b0 b1 b2
  by_cases hz : z < 0
  · have dz : decide (z < 0) = true := decide_eq_true hz
    go_wp2_with (refine wpList_store_row rfl 31 _ _ rfl (w.heap.size + 1) #[.int .u16 0, .int .u8 0, .int .u8 0, .int .u32 0, .int .u32 0, .int .i32 0, .int .u16 0, .int .u16 0, .slice none 0 0] rfl rfl 31 _ HZ2.out info_state rfl (by simp [Value.oneCell']) ?_)
    refine bodyPost_ret (results_cell_row_tmp rfl _ _ (w.heap.size + 1) 31 #[.int .u16 0, .int .u8 0, .int .u8 0, .int .u32 0, .int .u32 0, .int .i32 0, .int .u16 0, .int .u16 0, .slice none 0 0] (0, 0) _ rfl (HZ2.out.setRow _) Try.underlying31 rfl info_state) rfl ?_
    exact ⟨rfl, below_setRow HB2.out (by omega) _⟩
  · have dz : decide (z < 0) = false := decide_eq_false hz
    go_wp2_with (refine wpList_store_row rfl 31 _ _ rfl (w.heap.size + 1) #[.int .u16 0, .int .u8 0, .int .u8 0, .int .u32 0, .int .u32 0, .int .i32 0, .int .u16 0, .int .u16 0, .slice none 0 0] rfl rfl 31 _ HZ2.out info_state rfl (by simp [Value.oneCell']) ?_)
    refine bodyPost_ret (results_cell_row_tmp rfl _ _ (w.heap.size + 1) 31 #[.int .u16 0, .int .u8 0, .int .u8 0, .int .u32 0, .int .u32 0, .int .i32 0, .int .u16 0, .int .u16 0, .slice none 0 0] (0, 0) _ rfl (HZ2.out.setRow _) Try.underlying31 rfl info_state) rfl ?_
    exact ⟨rfl, below_setRow HB2.out (by omega) _⟩
set_option maxRecDepth 100000 in
set_option maxHeartbeats 4000000 in
theorem all11_neg (base : Nat) (w : World) (g : Nat) (v : Value) (most : Int) (xs : List OneE) (q : RfS base w g v most xs) (now : Int) (hn : now < 0) :
    Calls Try.prog 54 #[.pointer (some ⟨g, 0, none⟩), .int .i64 now] w fun e w' => e = .returned (.slice none 0 0) ∧ w = w' := by
  obtain ⟨A, n, c, rfl, hl, hc1, hc2⟩ := q.shape
  have g0 := q.blk.cell 0
  simp only [List.getElem?_toArray, List.getElem?_cons_zero, List.getElem?_cons_succ] at g0
  have dn : decide (0 ≤ now) = false := decide_eq_false (by omega)
  clear q hl
  go_enter Try.func54, Try.ntmps54
  go_wp2_with fail
  go_loopw [5, 6] (fun lv iv wr => lv = .slice none 0 0 ∧ iv = .int .i64 0 ∧ wr = w) (fun _ _ _ => 0)
  case atStart => exact ⟨rfl, rfl, rfl⟩
  case round =>
    obtain ⟨rfl, rfl, hw⟩ := hrel
    obtain rfl : w = wr := hw.symm
    by_cases hz : 0 < n
    · have dz : decide ((0 : Int) < n) = true := decide_eq_true (by omega)
      go_wp2_with fail
      go_ret
      exact ⟨rfl, rfl⟩
    · have dz : decide ((0 : Int) < n) = false := decide_eq_false (by omega)
      go_wp2_with fail
      go_ret
      exact ⟨rfl, rfl⟩
set_option maxRecDepth 100000 in
set_option maxHeartbeats 4000000 in
theorem heads11_neg (base : Nat) (w : World) (g : Nat) (v : Value) (most : Int) (xs : List OneE) (q : RfS base w g v most xs) (now : Int) (hn : now < 0) :
    Calls Try.prog 56 #[.pointer (some ⟨g, 0, none⟩), .int .i64 now] w fun e w' => e = .returned (.slice none 0 0) ∧ w = w' := by
  obtain ⟨A, n, c, rfl, hl, hc1, hc2⟩ := q.shape
  have g0 := q.blk.cell 0
  simp only [List.getElem?_toArray, List.getElem?_cons_zero, List.getElem?_cons_succ] at g0
  have dn : decide (0 ≤ now) = false := decide_eq_false (by omega)
  clear q hl
  go_enter Try.func56, Try.ntmps56
  go_wp2_with fail
  go_loopw [5, 6] (fun lv iv wr => lv = .slice none 0 0 ∧ iv = .int .i64 0 ∧ wr = w) (fun _ _ _ => 0)
  case atStart => exact ⟨rfl, rfl, rfl⟩
  case round =>
    obtain ⟨rfl, rfl, hw⟩ := hrel
    obtain rfl : w = wr := hw.symm
    by_cases hz : 0 < n
    · have dz : decide ((0 : Int) < n) = true := decide_eq_true (by omega)
      go_wp2_with fail
      go_ret
      exact ⟨rfl, rfl⟩
    · have dz : decide ((0 : Int) < n) = false := decide_eq_false (by omega)
      go_wp2_with fail
      go_ret
      exact ⟨rfl, rfl⟩
set_option maxRecDepth 100000 in
set_option maxHeartbeats 4000000 in
theorem due11_neg (base : Nat) (w : World) (g : Nat) (v : Value) (most : Int) (xs : List OneE) (q : RfS base w g v most xs) (now : Int) (hn : now < 0) :
    Calls Try.prog 57 #[.pointer (some ⟨g, 0, none⟩), .int .i64 now] w fun e w' => e = .returned (.slice none 0 0) ∧ w = w' := by
  obtain ⟨A, n, c, rfl, hl, hc1, hc2⟩ := q.shape
  have g0 := q.blk.cell 0
  simp only [List.getElem?_toArray, List.getElem?_cons_zero, List.getElem?_cons_succ] at g0
  have dn : decide (0 ≤ now) = false := decide_eq_false (by omega)
  clear q hl
  go_enter Try.func57, Try.ntmps57
  go_wp2_with fail
  go_loopw [5, 6] (fun lv iv wr => lv = .slice none 0 0 ∧ iv = .int .i64 0 ∧ wr = w) (fun _ _ _ => 0)
  case atStart => exact ⟨rfl, rfl, rfl⟩
  case round =>
    obtain ⟨rfl, rfl, hw⟩ := hrel
    obtain rfl : w = wr := hw.symm
    by_cases hz : 0 < n
    · have dz : decide ((0 : Int) < n) = true := decide_eq_true (by omega)
      go_wp2_with fail
      go_ret
      exact ⟨rfl, rfl⟩
    · have dz : decide ((0 : Int) < n) = false := decide_eq_false (by omega)
      go_wp2_with fail
      go_ret
      exact ⟨rfl, rfl⟩
set_option maxRecDepth 100000 in
set_option maxHeartbeats 4000000 in
theorem next11_neg (base : Nat) (w : World) (g : Nat) (v : Value) (most : Int) (xs : List OneE) (q : RfS base w g v most xs) (now : Int) (hn : now < 0) :
    Calls Try.prog 52 #[.pointer (some ⟨g, 0, none⟩), .int .i64 now] w fun e w' => e = .returned (.tuple #[.int .i64 0, .bool false]) ∧ w = w' := by
  obtain ⟨A, n, c, rfl, hl, hc1, hc2⟩ := q.shape
  have g0 := q.blk.cell 0
  simp only [List.getElem?_toArray, List.getElem?_cons_zero, List.getElem?_cons_succ] at g0
  have dn : decide (0 ≤ now) = false := decide_eq_false (by omega)
  clear q hl
  go_enter Try.func52, Try.ntmps52
  go_wp2_with fail
  go_loopw [6, 7, 8] (fun bv sv iv wr => bv = .int .i64 0 ∧ sv = .bool false ∧ iv = .int .i64 0 ∧ wr = w) (fun _ _ _ _ => 0)
  case atStart => exact ⟨rfl, rfl, rfl, rfl⟩
  case round =>
    obtain ⟨rfl, rfl, rfl, hw⟩ := hrel
    obtain rfl : w = wr := hw.symm
    by_cases hz : 0 < n
    · have dz : decide ((0 : Int) < n) = true := decide_eq_true (by omega)
      go_wp2_with fail
      go_ret2
      exact ⟨rfl, rfl⟩
    · have dz : decide ((0 : Int) < n) = false := decide_eq_false (by omega)
      go_wp2_with fail
      go_ret2
      exact ⟨rfl, rfl⟩
/-- What WideState leaves: the state's head, the body in a new block with marks behind it. -/
def WideS (w w' : World) (s : SE) (e : Ending) : Prop :=
  ∃ g, e = .returned (stV s.h (some ⟨g, 0, none⟩) s.n (s.n + 64)) ∧ w.heap.size ≤ g ∧ Blk w' g 5 (u8s (wide s.B)).toArray ∧ Below w.heap.size w w'
set_option maxRecDepth 100000 in
set_option maxHeartbeats 2000000 in
theorem wideState_any (s : SE) (w : World) (hs : s.rd w) : Calls Try.prog 43 #[s.v] w fun e w' => WideS w w' s e := by
  obtain ⟨h, A, n, c, B⟩ := s
  have Hok := Lib.hid hs
  have hz : Hid (Blk ((w.alloc (.cells #[.int .u16 h.age, .int .u8 h.opts, .int .u8 h.typ, .int .u32 h.id, .int .u32 h.adv, .int .i32 h.seq, .int .u16 h.sum, .int .u16 h.len, .slice A n c] 31)).alloc (.cells #[.int .u16 0, .int .u8 0, .int .u8 0, .int .u32 0, .int .u32 0, .int .i32 0, .int .u16 0, .int .u16 0, .slice none 0 0] 31)) (w.heap.size + 1) 31 #[.int .u16 0, .int .u8 0, .int .u8 0, .int .u32 0, .int .u32 0, .int .i32 0, .int .u16 0, .int .u16 0, .slice none 0 0]) := new_at _ _ _
  have hx : Hid (Blk ((w.alloc (.cells #[.int .u16 h.age, .int .u8 h.opts, .int .u8 h.typ, .int .u32 h.id, .int .u32 h.adv, .int .i32 h.seq, .int .u16 h.sum, .int .u16 h.len, .slice A n c] 31)).alloc (.cells #[.int .u16 0, .int .u8 0, .int .u8 0, .int .u32 0, .int .u32 0, .int .i32 0, .int .u16 0, .int .u16 0, .slice none 0 0] 31)) w.heap.size 31 #[.int .u16 h.age, .int .u8 h.opts, .int .u8 h.typ, .int .u32 h.id, .int .u32 h.adv, .int .i32 h.seq, .int .u16 h.sum, .int .u16 h.len, .slice A n c]) := Lib.hid ((Blk.new _ _ _).alloc _)
  have hb : Hid (Below w.heap.size w ((w.alloc (.cells #[.int .u16 h.age, .int .u8 h.opts, .int .u8 h.typ, .int .u32 h.id, .int .u32 h.adv, .int .i32 h.seq, .int .u16 h.sum, .int .u16 h.len, .slice A n c] 31)).alloc (.cells #[.int .u16 0, .int .u8 0, .int .u8 0, .int .u32 0, .int .u32 0, .int .i32 0, .int .u16 0, .int .u16 0, .slice none 0 0] 31))) := below_two _ _ _
  have hR := Lib.hid (Hok.out.body.later hb.out)
  have hn : n ≤ 1099511627776 := Hok.out.len
  have hl : Hid (B.length = n) := Lib.hid Hok.out.body.u8len
  have x8 := hx.out.cell 8
  simp only [List.getElem?_toArray, List.getElem?_cons_zero, List.getElem?_cons_succ] at x8
  clear hs
  show Calls Try.prog 43 #[.agg #[.int .u16 h.age, .int .u8 h.opts, .int .u8 h.typ, .int .u32 h.id, .int .u32 h.adv, .int .i32 h.seq, .int .u16 h.sum, .int .u16 h.len, .slice A n c]] w fun e w' => WideS w w' ⟨h, A, n, c, B⟩ e
  go_enter Try.func43, Try.ntmps43
  go_wp2_with fail
  clear x8
  generalize ((w.alloc (.cells #[.int .u16 h.age, .int .u8 h.opts, .int .u8 h.typ, .int .u32 h.id, .int .u32 h.adv, .int .i32 h.seq, .int .u16 h.sum, .int .u16 h.len, .slice A n c] 31)).alloc (.cells #[.int .u16 0, .int .u8 0, .int .u8 0, .int .u32 0, .int .u32 0, .int .i32 0, .int .u16 0, .int .u16 0, .slice none 0 0] 31)) = w1 at *
  refine (wideBytes_any A n c B w1 hR.out hn).mono ?_
  rintro e w2 ⟨gi, rfl, hgi, hBi, hb2⟩
  have H2 := Lib.hid (And.intro hgi (And.intro hBi hb2))
  have x2 := hx.out.later hb2
  have z2 := hz.out.later hb2
  have HX := Lib.hid (And.intro x2 z2)
  obtain ⟨y0, y1, y2, y3, y4, y5, y6, y7, y8⟩ := stC_facts x2
  have f8 := x2.frozen 8
  have hne : w.heap.size ≠ w.heap.size + 1 := by omega
  clear hgi hBi hb2 x2 z2
  go_wp2_with (refine wpList_store_row rfl 31 _ _ rfl (w.heap.size + 1) #[.int .u16 h.age, .int .u8 h.opts, .int .u8 h.typ, .int .u32 h.id, .int .u32 h.adv, .int .i32 h.seq, .int .u16 h.sum, .int .u16 h.len, .slice (some ⟨gi, 0, none⟩) B.length (B.length + 64)] rfl rfl 31 _ (HX.out.2.far (by simp) _) info_state rfl (by simp [Value.oneCell']) ?_)
  refine bodyPost_ret (results_cell_row rfl _ _ (w.heap.size + 1) 31 #[.int .u16 h.age, .int .u8 h.opts, .int .u8 h.typ, .int .u32 h.id, .int .u32 h.adv, .int .i32 h.seq, .int .u16 h.sum, .int .u16 h.len, .slice (some ⟨gi, 0, none⟩) B.length (B.length + 64)] (0, 0) _ rfl ((HX.out.2.far (by simp) _).setRow _) Try.underlying31 rfl info_state) rfl ?_
  have hb3 : Below w.heap.size w w2 := below_then hb.out H2.out.2.2
  have h1s : w.heap.size + 1 < w1.heap.size := hz.out.lt
  have hgi1 : w1.heap.size ≤ gi := H2.out.1
  refine ⟨gi, ?_, by omega, ?_, below_setRow (hb3.setCell (p := ⟨w.heap.size, 8, none⟩) (Nat.le_refl _) _) (Nat.le_succ _) _⟩
  · rw [hl.out]
  · refine Blk.setRow_far (H2.out.2.1.far (p := ⟨w.heap.size, 8, none⟩) (by show gi ≠ w.heap.size; omega) _) (by omega) _
set_option maxRecDepth 100000 in
theorem spareState_yes (h : Hd) (g n : Nat) (B : List Int) (w : World) (hB : Blk w g 5 (u8s (wide B)).toArray) (hl : B.length = n) (hn : n ≤ 1099511627776) :
    Calls Try.prog 45 #[stV h (some ⟨g, 0, none⟩) n (n + 64)] w fun e w' => e = .returned (.bool true) ∧ Below w.heap.size w w' := by
  have hb : Below w.heap.size w (w.alloc (.cells #[.int .u16 h.age, .int .u8 h.opts, .int .u8 h.typ, .int .u32 h.id, .int .u32 h.adv, .int .i32 h.seq, .int .u16 h.sum, .int .u16 h.len, .slice (some ⟨g, 0, none⟩) n (n + 64)] 31)) := (Below.refl _ _).alloc (Nat.le_refl _) _
  have hX : Blk (w.alloc (.cells #[.int .u16 h.age, .int .u8 h.opts, .int .u8 h.typ, .int .u32 h.id, .int .u32 h.adv, .int .i32 h.seq, .int .u16 h.sum, .int .u16 h.len, .slice (some ⟨g, 0, none⟩) n (n + 64)] 31)) w.heap.size 31 #[.int .u16 h.age, .int .u8 h.opts, .int .u8 h.typ, .int .u32 h.id, .int .u32 h.adv, .int .i32 h.seq, .int .u16 h.sum, .int .u16 h.len, .slice (some ⟨g, 0, none⟩) n (n + 64)] := Blk.new _ _ _
  have x8 := hX.cell 8
  simp only [List.getElem?_toArray, List.getElem?_cons_zero, List.getElem?_cons_succ] at x8
  have hrd : Reads (w.alloc (.cells #[.int .u16 h.age, .int .u8 h.opts, .int .u8 h.typ, .int .u32 h.id, .int .u32 h.adv, .int .i32 h.seq, .int .u16 h.sum, .int .u16 h.len, .slice (some ⟨g, 0, none⟩) n (n + 64)] 31)) (g + 1) 1 (some ⟨g, 0, none⟩) (n + 64) (u8s (wide B)) := by
    have h1 := (hB.alloc (.cells #[.int .u16 h.age, .int .u8 h.opts, .int .u8 h.typ, .int .u32 h.id, .int .u32 h.adv, .int .i32 h.seq, .int .u16 h.sum, .int .u16 h.len, .slice (some ⟨g, 0, none⟩) n (n + 64)] 31)).reads (n := n + 64) (by rw [u8s_length, wide_length, hl]; exact Nat.le_refl _)
    rwa [List.take_of_length_le (by rw [u8s_length, wide_length, hl]; exact Nat.le_refl _)] at h1
  have HC := Lib.hid (spareBytes_yes (some ⟨g, 0, none⟩) n (n + 64) B _ _ hrd hl (Nat.le_refl _) hn)
  have HB := Lib.hid hb
  clear hB hX hrd hb
  show Calls Try.prog 45 #[.agg #[.int .u16 h.age, .int .u8 h.opts, .int .u8 h.typ, .int .u32 h.id, .int .u32 h.adv, .int .i32 h.seq, .int .u16 h.sum, .int .u16 h.len, .slice (some ⟨g, 0, none⟩) n (n + 64)]] w fun e w' => e = .returned (.bool true) ∧ Below w.heap.size w w'
  go_enter Try.func45, Try.ntmps45
  go_wp2_with fail
  refine HC.out.mono ?_
  rintro e w2 ⟨rfl, q, rfl⟩
  have HB2 := Lib.hid (below_drewN HB.out q)
  go_wp2_with fail
  go_ret
  exact ⟨rfl, HB2.out⟩
end Go.Proofs.Ytpncbggjngamgaa
namespace Go.Proofs.Ytpncbggjngamgaa
set_option linter.unusedVariables false
open Go.RowKit

theorem dropK_map (f : Ky3 → Option OneE) (k : Ky3) : updF (fun k => (f k).map OneE.v) k none = fun k' => (dropK f k k').map OneE.v := by
  funext k'
  unfold updF dropK
  by_cases h : k' = k
  · rw [if_pos h, if_pos h]; rfl
  · rw [if_neg h, if_neg h]
theorem dropK_some {f : Ky3 → Option OneE} {k k' : Ky3} {x : OneE} (h : dropK f k k' = some x) : f k' = some x := by
  unfold dropK at h
  by_cases e : k' = k
  · rw [if_pos e] at h; cases h
  · rwa [if_neg e] at h
def DropAt (w w' : World) (g bm : Nat) (most : Int) (f : Ky3 → Option OneE) (n : Nat) (k : Ky3) (e : Ending) : Prop :=
  e = .returned (.bool (f k).isSome) ∧ StF w' g bm most (dropK f k) (if (f k).isSome then n - 1 else n) ∧ Kept (fun i => i = bm) w w'
set_option maxRecDepth 100000 in
set_option maxHeartbeats 4000000 in
theorem stdrop_any (w : World) (g bm : Nat) (most : Int) (f : Ky3 → Option OneE) (n : Nat) (q : StF w g bm most f n) (k : Ky3) :
    Calls Try.prog 29 #[.pointer (some ⟨g, 0, none⟩), keyV k] w fun e w' => DropAt w w' g bm most f n k e := by
  obtain ⟨k1, k2, k3⟩ := k
  have hb0 : Below w.heap.size w (w.alloc (.cells #[.int .u8 k1, .int .u32 k2, .int .u32 k3] 45)) := (Below.refl _ _).alloc (Nat.le_refl _) _
  have HQ := Lib.hid (q.later hb0)
  have HK0 : Hid (Blk (w.alloc (.cells #[.int .u8 k1, .int .u32 k2, .int .u32 k3] 45)) w.heap.size 45 #[.int .u8 k1, .int .u32 k2, .int .u32 k3]) := Lib.hid (Blk.new _ _ _)
  have HB0 := Lib.hid hb0
  have HN := Lib.hid (stnone_any _ g bm (show (w.alloc (.cells #[.int .u8 k1, .int .u32 k2, .int .u32 k3] 45)).cell? ⟨g, 0, none⟩ = some (.map (some bm)) from HQ.out.blk.cell 0))
  obtain ⟨x, b, hx, hxb⟩ := lookS f (k1, k2, k3)
  obtain ⟨⟨⟨yage, yopts, ytyp, yid, yadv, yseq, ysum, ylen⟩, yA, yn, yc, yB⟩, yat⟩ := x
  have HLK := Lib.hid hx
  have HXB := Lib.hid hxb
  have HQ0 := Lib.hid q
  clear q hb0 hx hxb
  go_enter Try.func29, Try.ntmps29
  go_wp2_with (go_at_call 33; refine HN.out.mono ?_; rintro e w' ⟨rfl, rfl⟩)
  generalize w.alloc (.cells #[.int .u8 k1, .int .u32 k2, .int .u32 k3] 45) = w1 at *
  generalize hgk : w.heap.size = gk at *
  refine wp_region_s (fun W : World => Blk W g 91 #[.map (some bm), .int .i64 most] ∧ Blk W gk 45 #[.int .u8 k1, .int .u32 k2, .int .u32 k3] ∧ MapF keyV W bm (fun k => (f k).map OneE.v) n) [(0, true), (1, true), (2, true), (3, true), (4, true), (5, true), (6, true), (7, true), (8, true), (9, false), (10, false), (11, true)] (by kernel_rfl) (fun _ d _ _ _ h => by cases d <;> exact h) ?_
  simp only [List.map_cons, List.map_nil, nthOp_zero, nthOp_succ]
  have HS : Hid ((fun W : World => Blk W g 91 #[.map (some bm), .int .i64 most] ∧ Blk W gk 45 #[.int .u8 k1, .int .u32 k2, .int .u32 k3] ∧ MapF keyV W bm (fun k => (f k).map OneE.v) n) w1.drew) := Lib.hid ⟨(HQ.out.later (Below.refl _ _).drew).blk, HK0.out.later (Below.refl _ _).drew, (HQ.out.later (Below.refl _ _).drew).map⟩
  have hbd : Below w1.heap.size w1 w1.drew := (Below.refl _ _).drew
  have HBD := Lib.hid hbd
  clear hbd
  generalize hwd : w1.drew = w2 at *
  clear hwd
  refine wpS_take HS (by kernel_rfl) (by intro W hW; have j0 := hW.1.cell 0; have j1 := hW.1.cell 1; simp only [List.getElem?_toArray, List.getElem?_cons_zero, List.getElem?_cons_succ] at j0 j1; clear hW; go_simp; try with_reducible rfl) ?_
  refine wpS_take HS (by kernel_rfl) (by intro W hW; have j0 := hW.1.cell 0; have j1 := hW.1.cell 1; simp only [List.getElem?_toArray, List.getElem?_cons_zero, List.getElem?_cons_succ] at j0 j1; clear hW; go_simp; try with_reducible rfl) ?_
  refine wpS_take HS (by kernel_rfl) (by intro W hW; have j0 := hW.1.cell 0; have j1 := hW.1.cell 1; simp only [List.getElem?_toArray, List.getElem?_cons_zero, List.getElem?_cons_succ] at j0 j1; clear hW; go_simp; try with_reducible rfl) ?_
  refine wpS_take HS (by kernel_rfl) (by intro W hW; have j0 := hW.1.cell 0; have j1 := hW.1.cell 1; simp only [List.getElem?_toArray, List.getElem?_cons_zero, List.getElem?_cons_succ] at j0 j1; clear hW; go_simp; try with_reducible rfl) ?_
  refine wpS_take HS (by kernel_rfl) (fun W hW => exec_load_row rfl rfl hW.2.1 Try.underlying45 rfl info_key3) ?_
  refine wpS_take HS (by kernel_rfl) (fun W hW => exec_lookupF (a := (k1, k2, k3)) keyT Try.underlying89 zeroOne rfl hW.2.2 rfl rfl) ?_
  simp only [HLK.out]
  refine wpS_take HS (by kernel_rfl) (by intro W hW; have j0 := hW.1.cell 0; have j1 := hW.1.cell 1; simp only [List.getElem?_toArray, List.getElem?_cons_zero, List.getElem?_cons_succ] at j0 j1; clear hW; go_simp; try with_reducible rfl) ?_
  refine wpS_take HS (by kernel_rfl) (by intro W hW; have j0 := hW.1.cell 0; have j1 := hW.1.cell 1; simp only [List.getElem?_toArray, List.getElem?_cons_zero, List.getElem?_cons_succ] at j0 j1; clear hW; go_simp; try with_reducible rfl) ?_
  refine wpS_take HS (by kernel_rfl) (by intro W hW; have j0 := hW.1.cell 0; have j1 := hW.1.cell 1; simp only [List.getElem?_toArray, List.getElem?_cons_zero, List.getElem?_cons_succ] at j0 j1; clear hW; go_simp; try with_reducible rfl) ?_
  refine wpS_do fun K hK => ?_
  go_wp2
  have hba : Below w2.heap.size w2 (w2.alloc (.cells #[.int .u16 0, .int .u8 0, .int .u8 0, .int .u32 0, .int .u32 0, .int .i32 0, .int .u16 0, .int .u16 0, .slice none 0 0, .int .i64 0] 103)) := (Below.refl _ _).alloc (Nat.le_refl _) _
  refine hK.out _ _ ⟨HS.out.1.later hba, HS.out.2.1.later hba, HS.out.2.2.later hba⟩ ?_
  clear hK K hba
  refine wpS_do fun K hK => ?_
  go_wp2_with (go_must (refine wpList_store_row rfl 103 _ _ rfl w2.heap.size #[.int .u16 yage, .int .u8 yopts, .int .u8 ytyp, .int .u32 yid, .int .u32 yadv, .int .i32 yseq, .int .u16 ysum, .int .u16 ylen, .slice yA yn yc, .int .i64 yat] rfl rfl 103 _ (heap_alloc_new w2 _) info_one rfl (by simp [Value.oneCell']) ?_; rw [World.setRow_alloc_new]))
  have hb1 : Below w2.heap.size w2 (w2.alloc (.cells #[.int .u16 yage, .int .u8 yopts, .int .u8 ytyp, .int .u32 yid, .int .u32 yadv, .int .i32 yseq, .int .u16 ysum, .int .u16 ylen, .slice yA yn yc, .int .i64 yat] 103)) := (Below.refl _ _).alloc (Nat.le_refl _) _
  have HX : Hid (Blk (w2.alloc (.cells #[.int .u16 yage, .int .u8 yopts, .int .u8 ytyp, .int .u32 yid, .int .u32 yadv, .int .i32 yseq, .int .u16 ysum, .int .u16 ylen, .slice yA yn yc, .int .i64 yat] 103)) w2.heap.size 103 #[.int .u16 yage, .int .u8 yopts, .int .u8 ytyp, .int .u32 yid, .int .u32 yadv, .int .i32 yseq, .int .u16 ysum, .int .u16 ylen, .slice yA yn yc, .int .i64 yat]) := Lib.hid (Blk.new _ _ _)
  replace HS : Hid ((fun W : World => Blk W g 91 #[.map (some bm), .int .i64 most] ∧ Blk W gk 45 #[.int .u8 k1, .int .u32 k2, .int .u32 k3] ∧ MapF keyV W bm (fun k => (f k).map OneE.v) n) (w2.alloc (.cells #[.int .u16 yage, .int .u8 yopts, .int .u8 ytyp, .int .u32 yid, .int .u32 yadv, .int .i32 yseq, .int .u16 ysum, .int .u16 ylen, .slice yA yn yc, .int .i64 yat] 103))) := Lib.hid ⟨HS.out.1.later hb1, HS.out.2.1.later hb1, HS.out.2.2.later hb1⟩
  have HB1 := Lib.hid hb1
  clear hb1
  refine hK.out _ _ HS.out ?_
  clear hK K
  generalize hg1 : w2.alloc (.cells #[.int .u16 yage, .int .u8 yopts, .int .u8 ytyp, .int .u32 yid, .int .u32 yadv, .int .i32 yseq, .int .u16 ysum, .int .u16 ylen, .slice yA yn yc, .int .i64 yat] 103) = w3 at *
  clear hg1
  generalize hgx : w2.heap.size = gx at *
  refine wpS_take HS (by kernel_rfl) (by intro W hW; have j0 := hW.1.cell 0; have j1 := hW.1.cell 1; simp only [List.getElem?_toArray, List.getElem?_cons_zero, List.getElem?_cons_succ] at j0 j1; clear hW; go_simp; try with_reducible rfl) ?_
  refine wpS_nil ?_
  go_simp
  subst hgk
  subst hgx
  have hbd4 : Below w3.heap.size w3 w3.drew := (Below.refl _ _).drew
  replace HS : Hid ((fun W : World => Blk W g 91 #[.map (some bm), .int .i64 most] ∧ Blk W w.heap.size 45 #[.int .u8 k1, .int .u32 k2, .int .u32 k3] ∧ MapF keyV W bm (fun k => (f k).map OneE.v) n) w3.drew) := Lib.hid ⟨HS.out.1.later hbd4, HS.out.2.1.later hbd4, HS.out.2.2.later hbd4⟩
  have HBE := Lib.hid (below_then (below_then (below_then HB0.out HBD.out) HB1.out) hbd4)
  clear hbd4 HX HB0 HB1 HBD HQ
  go_wp2_with fail
  refine wp_region_s (fun W : World => Blk W g 91 #[.map (some bm), .int .i64 most] ∧ Blk W w.heap.size 45 #[.int .u8 k1, .int .u32 k2, .int .u32 k3]) [(0, true), (1, true), (2, true), (3, true), (4, true), (5, false)] (by kernel_rfl) (fun _ d _ _ _ h => by cases d <;> exact h) ?_
  simp only [List.map_cons, List.map_nil, nthOp_zero, nthOp_succ]
  have HP : Hid ((fun W : World => Blk W g 91 #[.map (some bm), .int .i64 most] ∧ Blk W w.heap.size 45 #[.int .u8 k1, .int .u32 k2, .int .u32 k3]) w3.drew) := Lib.hid ⟨HS.out.1, HS.out.2.1⟩
  have HM := Lib.hid HS.out.2.2
  clear HS
  generalize w3.drew = w4 at *
  refine wpS_take HP (by kernel_rfl) (by intro W hW; clear hW; go_simp; try with_reducible rfl) ?_
  refine wpS_take HP (by kernel_rfl) (by intro W hW; clear hW; go_simp; try with_reducible rfl) ?_
  refine wpS_take HP (by kernel_rfl) (by intro W hW; clear hW; go_simp; try with_reducible rfl) ?_
  refine wpS_take HP (by kernel_rfl) (by intro W hW; have j0 := hW.1.cell 0; have j1 := hW.1.cell 1; simp only [List.getElem?_toArray, List.getElem?_cons_zero, List.getElem?_cons_succ] at j0 j1; clear hW; go_simp; try with_reducible rfl) ?_
  refine wpS_take HP (by kernel_rfl) (fun W hW => exec_load_row rfl rfl hW.2 Try.underlying45 rfl info_key3) ?_
  go_simp
  refine wpS_do fun K hK => ?_
  go_wp2_with (go_must (refine wpList_deleteF keyT Try.underlying89 rfl (.tmp 21) (.tmp 22) 45 rfl HM.out rfl (k1, k2, k3) rfl ?_); intro w5 hm5 hk5)
  have hne : ∀ {gg : Nat} {t : TypeId} {cs : Array Value}, Blk w4 gg t cs → ¬ (gg = bm) := fun hg e => HM.out.ne_blk hg e.symm
  refine hK.out _ _ ⟨HP.out.1.kept hk5 (hne HP.out.1), HP.out.2.kept hk5 (hne HP.out.2)⟩ ?_
  clear hK K
  refine wpS_nil ?_
  go_simp
  go_wp2_with fail
  go_ret
  have hb : (f (k1, k2, k3)).isSome = b := by
    rcases HXB.out with ⟨h, rfl⟩ | ⟨h, rfl, _⟩
    · rw [h]; rfl
    · rw [h]; rfl
  rw [dropK_map] at hm5
  have hiso : ((f (k1, k2, k3)).map OneE.v).isSome = (f (k1, k2, k3)).isSome := by cases f (k1, k2, k3) <;> rfl
  rw [hiso] at hm5
  refine ⟨by rw [hb]; rfl, ⟨HP.out.1.kept hk5 (hne HP.out.1), hm5, fun k' x' hk' => ?_⟩, (Kept.of_new HBE.out (fun i => i = bm)).trans hk5 (fun _ _ h => h)⟩
  have hg := HQ0.out.good k' x' (dropK_some hk')
  have h4 := hg.2.1.later HBE.out
  exact ⟨hg.1, h4.kept2 hk5 (rd_ne_map h4 HM.out), hg.2.2⟩
set_option maxRecDepth 100000 in
set_option maxHeartbeats 2000000 in
theorem cloneMap_any (b n : Nat) (f : Ky3 → Option Value) (w : World) (hm : MapF keyV w b f n) :
    Calls Try.prog 50 #[.map (some b)] w fun e w' => e = .returned (.map (some w.heap.size)) ∧ MapF keyV w' w.heap.size f n ∧ Below w.heap.size w w' := by
  obtain ⟨es, clock, L, h⟩ := hm
  have hq := fun w => run_eql_map_nil_sl (P := Try.prog) w 89 _ _ (some b) Try.underlying89
  have HM := Lib.hid h
  have hb := h.heap
  clear h
  go_enter Try.func50, Try.ntmps50
  go_wp2
  rw [run_callFunc_extern Try.func75 (by kernel_rfl) (by kernel_rfl) (by kernel_rfl) (e := Extern.MapsClone.clone) (by kernel_rfl), run_maps_clone_sl w 89 hb]
  simp only [Result.andThen]
  rw [Oper.upon_value]
  go_wp2
  rw [run_typeAssert_map_sl _ 89 20 _ _ _ Try.underlying89]
  simp only [Result.andThen]
  rw [Oper.upon_value]
  go_wp2
  go_ret
  exact ⟨rfl, ⟨es, clock, L, heap_alloc_new w _, HM.out.ents, HM.out.keys, HM.out.at_, HM.out.len, HM.out.born, HM.out.past⟩, (Below.refl _ _).alloc (Nat.le_refl _) _⟩
set_option maxRecDepth 100000 in
set_option maxHeartbeats 2000000 in
theorem stcopy_any (w : World) (g bm : Nat) (most : Int) (f : Ky3 → Option OneE) (n : Nat) (q : StF w g bm most f n) :
    Calls Try.prog 24 #[.pointer (some ⟨g, 0, none⟩)] w fun e w' => ∃ g' bm', e = .returned (.pointer (some ⟨g', 0, none⟩)) ∧ StF w' g' bm' most f n ∧ w.heap.size ≤ g' ∧ w.heap.size ≤ bm' ∧ Below w.heap.size w w' := by
  have HQ0 := Lib.hid q
  have HN := Lib.hid (stnone_any w g bm (show w.cell? ⟨g, 0, none⟩ = some (.map (some bm)) from q.blk.cell 0))
  clear q
  go_enter Try.func24, Try.ntmps24
  go_wp2_with (go_at_call 33; refine HN.out.mono ?_; rintro e w' ⟨rfl, rfl⟩)
  have hb1 : Below w.heap.size w w.drew := (Below.refl _ _).drew
  have HQ := Lib.hid (HQ0.out.later hb1)
  have HB1 := Lib.hid hb1
  clear hb1
  refine wp_region_s (fun W : World => Blk W g 91 #[.map (some bm), .int .i64 most]) [(0, true), (1, true), (2, true), (5, true), (6, true), (7, true), (3, true), (8, true), (4, false), (9, true), (10, false), (11, true)] (by kernel_rfl) (fun _ d _ _ _ h => by cases d <;> exact h) ?_
  simp only [List.map_cons, List.map_nil, nthOp_zero, nthOp_succ]
  generalize w.drew = w1 at *
  have HS : Hid ((fun W : World => Blk W g 91 #[.map (some bm), .int .i64 most]) w1) := Lib.hid HQ.out.blk
  refine wpS_take HS (by kernel_rfl) (by intro W hW; clear hW; go_simp; try with_reducible rfl) ?_
  refine wpS_take HS (by kernel_rfl) (by intro W hW; clear hW; go_simp; try with_reducible rfl) ?_
  refine wpS_take HS (by kernel_rfl) (by intro W hW; clear hW; go_simp; try with_reducible rfl) ?_
  refine wpS_take HS (by kernel_rfl) (by intro W hW; clear hW; go_simp; try with_reducible rfl) ?_
  refine wpS_take HS (by kernel_rfl) (by intro W hW; clear hW; go_simp; try with_reducible rfl) ?_
  refine wpS_take HS (by kernel_rfl) (by intro W hW; clear hW; go_simp; try with_reducible rfl) ?_
  refine wpS_take HS (by kernel_rfl) (by intro W hW; have j0 := hW.cell 0; have j1 := hW.cell 1; simp only [List.getElem?_toArray, List.getElem?_cons_zero, List.getElem?_cons_succ] at j0 j1; clear hW; go_simp; try with_reducible rfl) ?_
  refine wpS_take HS (by kernel_rfl) (by intro W hW; have j0 := hW.cell 0; have j1 := hW.cell 1; simp only [List.getElem?_toArray, List.getElem?_cons_zero, List.getElem?_cons_succ] at j0 j1; clear hW; go_simp; try with_reducible rfl) ?_
  go_simp
  refine wpS_do fun K hK => ?_
  go_wp2_with fail
  refine (cloneMap_any bm n _ w1 HQ.out.map).mono ?_
  rintro e w2 ⟨rfl, hm2, hb2⟩
  have HM2 := Lib.hid hm2
  have HQ2 := Lib.hid (HQ.out.later hb2)
  have HB2 := Lib.hid (below_then HB1.out hb2)
  have HL2 : Hid (w1.heap.size < w2.heap.size) := Lib.hid (by obtain ⟨es, c, L, h⟩ := hm2; exact (Array.getElem?_eq_some_iff.1 h.heap).1)
  have HS2 : Hid ((fun W : World => Blk W g 91 #[.map (some bm), .int .i64 most]) w2) := Lib.hid HQ2.out.blk
  clear hm2 hb2
  go_wp2_with fail
  refine hK.out _ _ HS2.out ?_
  clear hK K
  refine wpS_take HS2 (by kernel_rfl) (by intro W hW; clear hW; go_simp; try with_reducible rfl) ?_
  go_simp
  refine wpS_do fun K hK => ?_
  go_wp2_with fail
  have hb3 : Below w2.heap.size w2 (w2.alloc (.cells #[.map (some w1.heap.size), .int .i64 most] 91)) := (Below.refl _ _).alloc (Nat.le_refl _) _
  have HS3 : Hid ((fun W : World => Blk W g 91 #[.map (some bm), .int .i64 most]) (w2.alloc (.cells #[.map (some w1.heap.size), .int .i64 most] 91))) := Lib.hid (HS2.out.later hb3)
  refine hK.out _ _ HS3.out ?_
  clear hK K
  refine wpS_take HS3 (by kernel_rfl) (by intro W hW; clear hW; go_simp; try with_reducible rfl) ?_
  refine wpS_nil ?_
  go_simp
  go_wp2_with fail
  go_ret
  refine ⟨w2.heap.size, rfl, w1.heap.size, ⟨Blk.new _ _ _, HM2.out.later hb3, fun k x hk => ?_⟩, HB2.out.size, HB1.out.size, below_then HB2.out hb3⟩
  have h := HQ2.out.good k x hk
  exact ⟨h.1, h.2.1.later hb3, h.2.2⟩
end Go.Proofs.Ytpncbggjngamgaa
