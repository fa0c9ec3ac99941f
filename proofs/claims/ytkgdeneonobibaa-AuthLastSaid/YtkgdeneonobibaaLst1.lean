/-
  auth.Last: the map of last numbers, walked.
-/
import Derived.Test.YtkgdeneonobibaaMapK
import Derived.Test.YtkgdeneonobibaaAut14
namespace Go.Proofs.Ytkgdeneonobibaa
set_option linter.unusedVariables false
open Go.RowKit

@[reducible] def enc32 (r : Int) : Value := .int .u32 r
theorem u32_eq (a b : Int) (w : World) : (Op.equal 34 (enc32 a) (enc32 b)).run Try.prog w = .ok (decide (a = b)) w := by kernel_rfl
theorem u32_check (e : Bool) (a : Int) (w : World) : (Instr.checkKey e 10000 34 (enc32 a)).run Try.prog w = .ok () w := by kernel_rfl
theorem u32_bits (a : Int) : Instr.sameBits 10000 (enc32 a) (enc32 a) = true := by simp [enc32, Instr.sameBits]
theorem u32T : KeyT Try.prog 34 enc32 := ⟨u32_eq, u32_check, ⟨_, Try.underlying34, .inr fun a b => rfl⟩, u32_bits⟩
theorem zero32 (w : World) : (zeroValue 34).run Try.prog w = .ok (.int .u32 0) w := by kernel_rfl
/-- The entries as plain pairs. -/
def ents (P : List (Int × Int)) : List (Int × Value) := P.map fun p => (p.1, .int .u32 p.2)
def pget (P : List (Int × Int)) (r : Int) : Option Int := (P.find? fun p => p.1 == r).map (·.2)
theorem find_ents (P : List (Int × Int)) (r : Int) : ∀ i, (findL (ents P) r i).map (·.2) = (pget P r).map (Value.int .u32) := by
  induction P with
  | nil => intro i; rfl
  | cons p P ih =>
    intro i
    by_cases h : p.1 = r
    · simp [ents, findL, pget, h]
    · have e1 : findL (ents (p :: P)) r i = findL (ents P) r (i + 1) := by simp [ents, findL, h, Ne.symm h]
      have e2 : pget (p :: P) r = pget P r := by simp [pget, h]
      rw [e1, e2]
      exact ih (i + 1)
structure LastM (w : World) (g bm : Nat) (P : List (Int × Int)) : Prop where
  blk : Blk w g 43 #[.map (some bm)]
  map : MapL enc32 w bm (ents P)
  nd : (P.map (·.1)).Nodup
theorem LastM.later {w w' : World} {g bm : Nat} {P : List (Int × Int)} (h : LastM w g bm P) (hb : Below w.heap.size w w') : LastM w' g bm P := ⟨h.blk.later hb, h.map.later hb, h.nd⟩
def getV (o : Option Int) : Value := match o with | some s => .tuple #[.int .u32 s, .bool true] | none => .tuple #[.int .u32 0, .bool false]
theorem looked_ents (P : List (Int × Int)) (r : Int) : lookedUp (ents P) r (.int .u32 0) true = getV (pget P r) := by
  have h := find_ents P r 0
  unfold lookedUp getV
  cases hf : findL (ents P) r 0 with
  | none =>
    rw [hf] at h
    cases hp : pget P r with
    | none => rfl
    | some s => rw [hp] at h; simp at h
  | some p =>
    rw [hf] at h
    cases hp : pget P r with
    | none => rw [hp] at h; simp at h
    | some s =>
      rw [hp] at h
      simp at h
      obtain ⟨i, v⟩ := p
      simp at h
      simp [h]
theorem new_any (w : World) : Calls Try.prog 25 #[] w fun e w' => ∃ g bm, e = .returned (.pointer (some ⟨g, 0, none⟩)) ∧ LastM w' g bm [] ∧ w.heap.size ≤ g ∧ w.heap.size ≤ bm ∧ Below w.heap.size w w' := by
  have hmm := @run_makeMap Try.prog
  go_enter Try.func25, Try.ntmps25
  go_wp2
  go_ret
  exact ⟨w.heap.size + 1, w.heap.size, rfl, ⟨new_at _ _ _, (MapL.new enc32 w).later ((Below.refl _ _).alloc (Nat.le_refl _) _), by simp⟩, Nat.le_succ _, Nat.le_refl _, below_two_ _ _ _⟩
theorem getM_any (w : World) (g bm : Nat) (P : List (Int × Int)) (r : Int) (h : LastM w g bm P) : Calls Try.prog 23 #[.pointer (some ⟨g, 0, none⟩), .int .u32 r] w fun e w' => e = .returned (getV (pget P r)) ∧ w = w' := by
  have h0 : w.cell? ⟨g, 0, none⟩ = some (.map (some bm)) := h.blk.cell 0
  have hl : (Instr.lookup 41 (.map (some bm)) (.int .u32 r) true).run Try.prog w = .ok (getV (pget P r)) w := by
    rw [← looked_ents]
    exact run_lookupL u32T Try.underlying41 (zero32 w) h.map r true
  clear h
  cases hp : pget P r with
  | none =>
    rw [hp] at hl
    simp only [getV] at hl ⊢
    go_enter Try.func23, Try.ntmps23
    go_wp2
    go_ret2
    exact ⟨rfl, rfl⟩
  | some s =>
    rw [hp] at hl
    simp only [getV] at hl ⊢
    go_enter Try.func23, Try.ntmps23
    go_wp2
    go_ret2
    exact ⟨rfl, rfl⟩
/-- What the pairs say: a router's last number. -/
def Says (P : List (Int × Int)) (f : Int → Option Int) : Prop := ∀ q t, (q, t) ∈ P ↔ f q = some t
theorem says_get {P : List (Int × Int)} {f : Int → Option Int} (h : Says P f) (q : Int) : pget P q = f q := by
  unfold pget
  cases hp : P.find? (fun p => p.1 == q) with
  | none =>
    rw [List.find?_eq_none] at hp
    cases hf : f q with
    | none => rfl
    | some t =>
      have := hp (q, t) ((h q t).2 hf)
      simp at this
  | some p =>
    have h1 := List.mem_of_find?_eq_some hp
    have h2 : p.1 = q := by have := List.find?_some hp; simpa using this
    have := (h p.1 p.2).1 h1
    rw [h2] at this
    rw [this]
    rfl
def upd (f : Int → Option Int) (r : Int) (o : Option Int) : Int → Option Int := fun q => if q = r then o else f q
theorem nodup_fst {P : List (Int × Int)} (hn : (P.map (·.1)).Nodup) {i j : Nat} {p q : Int × Int} (hi : P[i]? = some p) (hj : P[j]? = some q) (he : p.1 = q.1) : i = j := by
  have h1 : (P.map (·.1))[i]? = some p.1 := by rw [List.getElem?_map, hi]; rfl
  have h2 : (P.map (·.1))[j]? = some q.1 := by rw [List.getElem?_map, hj]; rfl
  have l1 := (List.getElem?_eq_some_iff.1 h1).1
  have l2 := (List.getElem?_eq_some_iff.1 h2).1
  have e1 := (List.getElem?_eq_some_iff.1 h1).2
  have e2 := (List.getElem?_eq_some_iff.1 h2).2
  exact (List.getElem_inj hn).1 (by rw [e1, e2, he])
theorem says_new {P : List (Int × Int)} {f : Int → Option Int} (h : Says P f) {r s : Int} (hr : ∀ p ∈ P, p.1 ≠ r) : Says (P ++ [(r, s)]) (upd f r (some s)) := by
  intro q t
  unfold upd
  rw [List.mem_append, List.mem_singleton]
  by_cases e : q = r
  · subst e
    rw [if_pos rfl]
    constructor
    · rintro (h1 | h1)
      · exact absurd rfl (hr _ h1)
      · injection h1 with _ h1; rw [h1]
    · intro h1; injection h1 with h1; exact .inr (by rw [h1])
  · rw [if_neg e, ← h q t]
    constructor
    · rintro (h1 | h1)
      · exact h1
      · injection h1 with h1 _; exact absurd h1 e
    · exact .inl
theorem says_set {P : List (Int × Int)} {f : Int → Option Int} (h : Says P f) (hn : (P.map (·.1)).Nodup) {j : Nat} {r s t0 : Int} (hj : P[j]? = some (r, t0)) : Says (P.set j (r, s)) (upd f r (some s)) := by
  intro q t
  unfold upd
  have lj := (List.getElem?_eq_some_iff.1 hj).1
  constructor
  · intro hm
    obtain ⟨i, hi⟩ := List.getElem?_of_mem hm
    rw [List.getElem?_set] at hi
    by_cases e : j = i
    · rw [if_pos e, if_pos (by omega)] at hi
      injection hi with hi
      injection hi with h1 h2
      rw [if_pos h1.symm, h2]
    · rw [if_neg e] at hi
      have : q ≠ r := fun e2 => e (nodup_fst hn hj hi (by simp [e2]))
      rw [if_neg this]
      exact (h q t).1 (List.mem_of_getElem? hi)
  · intro hf
    by_cases e : q = r
    · rw [if_pos e] at hf
      injection hf with hf
      subst e hf
      exact List.mem_of_getElem? (i := j) (by rw [List.getElem?_set, if_pos rfl, if_pos lj])
    · rw [if_neg e] at hf
      obtain ⟨i, hi⟩ := List.getElem?_of_mem ((h q t).2 hf)
      have : j ≠ i := fun e2 => by
        subst e2
        rw [hj] at hi
        injection hi with hi
        injection hi with hi _
        exact e hi.symm
      exact List.mem_of_getElem? (i := i) (by rw [List.getElem?_set, if_neg this]; exact hi)
theorem says_erase {P : List (Int × Int)} {f : Int → Option Int} (h : Says P f) (hn : (P.map (·.1)).Nodup) {j : Nat} {r t0 : Int} (hj : P[j]? = some (r, t0)) : Says (P.eraseIdx j) (upd f r none) := by
  intro q t
  unfold upd
  rw [List.mem_eraseIdx_iff_getElem?]
  constructor
  · rintro ⟨i, hij, hi⟩
    have : q ≠ r := fun e2 => hij (nodup_fst hn hi hj (by simp [e2]))
    rw [if_neg this]
    exact (h q t).1 (List.mem_of_getElem? hi)
  · intro hf
    by_cases e : q = r
    · rw [if_pos e] at hf; cases hf
    · rw [if_neg e] at hf
      obtain ⟨i, hi⟩ := List.getElem?_of_mem ((h q t).2 hf)
      exact ⟨i, fun e2 => by subst e2; rw [hj] at hi; injection hi with hi; injection hi with hi _; exact e hi.symm, hi⟩
theorem says_none {P : List (Int × Int)} {f : Int → Option Int} (h : Says P f) {r : Int} (hr : f r = none) : Says P (upd f r none) := by
  intro q t
  unfold upd
  by_cases e : q = r
  · subst e; rw [if_pos rfl, h q t, hr]
  · rw [if_neg e]; exact h q t
end Go.Proofs.Ytkgdeneonobibaa
