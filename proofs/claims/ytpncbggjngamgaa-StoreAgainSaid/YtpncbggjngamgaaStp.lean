/-
  What a store tells, on lists: which states are old, when something more is. No program in sight.
-/
import Derived.Test.YtpncbggjngamgaaSto1
namespace Go.Proofs.Ytpncbggjngamgaa
set_option linter.unusedVariables false
open Go.RowKit

/-- A state, and when it was put. -/
structure OneE where
  s : SE
  at_ : Int
/-- How old it is at a time. -/
def OneE.age (x : OneE) (t : Int) : Int := laterA x.s.h.age (t - x.at_)
def oldA (a : Int) : Bool := yearsOf a == 3600
/-- When it will be old. -/
def OneE.end_ (x : OneE) : Int := x.at_ + 3600 - x.s.h.age
structure OneE.may (x : OneE) : Prop where
  age : 0 ≤ x.s.h.age ∧ x.s.h.age ≤ 65535
  at_ : 0 ≤ x.at_ ∧ x.at_ ≤ 1099511627776
abbrev Ent11 := Ky3 × OneE
def dueE (E : List Ent11) (t : Int) : List Ky3 := (E.filter fun p => oldA (p.2.age t)).map (·.1)
def candE (now : Int) (p : Ent11) : Bool := !(oldA (p.2.age now)) && decide (p.2.s.h.age < 32768)
def stepE (now : Int) (b : Option Int) (p : Ent11) : Option Int :=
  if candE now p then match b with
    | none => some p.2.end_
    | some t => if p.2.end_ < t then some p.2.end_ else some t
  else b
def nextE (E : List Ent11) (now : Int) : Option Int := E.foldl (stepE now) none
theorem old_never {x : OneE} (h : x.may) (hn : 32768 ≤ x.s.h.age) (s t : Int) : oldA (x.age s) = oldA (x.age t) := by
  unfold OneE.age
  rw [laterA_same (.inl hn), laterA_same (.inl hn)]
theorem old_from {x : OneE} (h : x.may) (hn : x.s.h.age < 32768) {now t : Int} (ho : oldA (x.age now) = false) (ht : now ≤ t) : now < x.end_ ∧ (oldA (x.age t) = true ↔ x.end_ ≤ t) := by
  have ha := h.age
  have hy : ∀ p, p < 1 → laterA x.s.h.age p = x.s.h.age := fun p hp => laterA_same (.inr hp)
  have hz : ∀ p, ¬ p < 1 → laterA x.s.h.age p = min (yearsOf x.s.h.age + min p 3600) 3600 := fun p hp => laterA_more (by omega) hp
  unfold oldA OneE.age at *
  unfold OneE.end_
  simp only [beq_iff_eq, beq_eq_false_iff_ne, ne_eq] at *
  unfold yearsOf at *
  by_cases h1 : now - x.at_ < 1
  · rw [hy _ h1] at ho
    by_cases h2 : t - x.at_ < 1
    · rw [hy _ h2]; omega
    · rw [hz _ h2]; omega
  · rw [hz _ h1] at ho
    rw [hz _ (by omega : ¬ t - x.at_ < 1)]
    omega
theorem old_stays {x : OneE} (h : x.may) {now t : Int} (ho : oldA (x.age now) = true) (ht : now ≤ t) : oldA (x.age t) = true := by
  by_cases hn : 32768 ≤ x.s.h.age
  · rw [old_never h hn t now]; exact ho
  · have ha := h.age
    have hy : ∀ p, p < 1 → laterA x.s.h.age p = x.s.h.age := fun p hp => laterA_same (.inr hp)
    have hz : ∀ p, ¬ p < 1 → laterA x.s.h.age p = min (yearsOf x.s.h.age + min p 3600) 3600 := fun p hp => laterA_more (by omega) hp
    unfold oldA OneE.age at *
    simp only [beq_iff_eq] at *
    unfold yearsOf at *
    by_cases h1 : now - x.at_ < 1
    · rw [hy _ h1] at ho
      by_cases h2 : t - x.at_ < 1
      · rw [hy _ h2]; omega
      · rw [hz _ h2]; omega
    · rw [hz _ h1] at ho
      rw [hz _ (by omega : ¬ t - x.at_ < 1)]
      omega
/-- What the fold finds: the least end of those that will be old. -/
theorem next_fold (now : Int) : ∀ (E : List Ent11) (b : Option Int), match E.foldl (stepE now) b with
    | none => b = none ∧ ∀ p ∈ E, candE now p = false
    | some t => (b = some t ∨ ∃ p ∈ E, candE now p = true ∧ p.2.end_ = t) ∧ (∀ s, b = some s → t ≤ s) ∧ ∀ p ∈ E, candE now p = true → t ≤ p.2.end_ := by
  intro E
  induction E with
  | nil =>
    intro b
    cases b with
    | none => exact ⟨rfl, fun p h => by cases h⟩
    | some t => exact ⟨.inl rfl, fun s h => by injection h with h; omega, fun p h => by cases h⟩
  | cons p r ih =>
    intro b
    rw [List.foldl_cons]
    have h := ih (stepE now b p)
    cases hf : r.foldl (stepE now) (stepE now b p) with
    | none =>
      rw [hf] at h
      obtain ⟨h1, h2⟩ := h
      unfold stepE at h1
      cases hc : candE now p with
      | true =>
        rw [hc, if_pos rfl] at h1
        cases b with
        | none => cases h1
        | some t => simp only at h1; split at h1 <;> cases h1
      | false =>
        rw [hc] at h1
        exact ⟨by simpa using h1, fun q hq => by rcases List.mem_cons.1 hq with rfl | hq; exact hc; exact h2 q hq⟩
    | some t =>
      rw [hf] at h
      obtain ⟨h1, h2, h3⟩ := h
      unfold stepE at h1 h2
      cases hc : candE now p with
      | true =>
        rw [hc, if_pos rfl] at h1 h2
        cases b with
        | none =>
          simp only at h1 h2
          have ht := h2 _ rfl
          refine ⟨.inr ?_, fun s hs => (by cases hs), fun q hq hqc => by rcases List.mem_cons.1 hq with rfl | hq; exact ht; exact h3 q hq hqc⟩
          rcases h1 with h1 | ⟨q, hq, hqc, hqt⟩
          · injection h1 with h1; exact ⟨p, List.mem_cons_self .., hc, h1⟩
          · exact ⟨q, List.mem_cons_of_mem _ hq, hqc, hqt⟩
        | some s =>
          simp only at h1 h2
          by_cases hl : p.2.end_ < s
          · rw [if_pos hl] at h1 h2
            have ht := h2 _ rfl
            refine ⟨.inr ?_, fun s' hs => by injection hs with hs; omega, fun q hq hqc => by rcases List.mem_cons.1 hq with rfl | hq; exact ht; exact h3 q hq hqc⟩
            rcases h1 with h1 | ⟨q, hq, hqc, hqt⟩
            · injection h1 with h1; exact ⟨p, List.mem_cons_self .., hc, h1⟩
            · exact ⟨q, List.mem_cons_of_mem _ hq, hqc, hqt⟩
          · rw [if_neg hl] at h1 h2
            have ht := h2 _ rfl
            refine ⟨?_, fun s' hs => by injection hs with hs; omega, fun q hq hqc => by rcases List.mem_cons.1 hq with rfl | hq; omega; exact h3 q hq hqc⟩
            rcases h1 with h1 | ⟨q, hq, hqc, hqt⟩
            · exact .inl h1
            · exact .inr ⟨q, List.mem_cons_of_mem _ hq, hqc, hqt⟩
      | false =>
        rw [hc] at h1 h2
        simp only [Bool.false_eq_true, if_false] at h1 h2
        refine ⟨?_, h2, fun q hq hqc => by rcases List.mem_cons.1 hq with rfl | hq; rw [hc] at hqc; cases hqc; exact h3 q hq hqc⟩
        rcases h1 with h1 | ⟨q, hq, hqc, hqt⟩
        · exact .inl h1
        · exact .inr ⟨q, List.mem_cons_of_mem _ hq, hqc, hqt⟩
theorem next_none {E : List Ent11} {now : Int} (h : nextE E now = none) : ∀ p ∈ E, candE now p = false := by
  have := next_fold now E none
  unfold nextE at h
  rw [h] at this
  exact this.2
theorem next_some {E : List Ent11} {now t : Int} (h : nextE E now = some t) : (∃ p ∈ E, candE now p = true ∧ p.2.end_ = t) ∧ ∀ p ∈ E, candE now p = true → t ≤ p.2.end_ := by
  have := next_fold now E none
  unfold nextE at h
  rw [h] at this
  obtain ⟨h1, _, h3⟩ := this
  exact ⟨h1.resolve_left (fun e => by cases e), h3⟩
theorem cand_iff {now : Int} {p : Ent11} : candE now p = true ↔ oldA (p.2.age now) = false ∧ p.2.s.h.age < 32768 := by
  unfold candE
  simp
theorem filter_more {α : Type} (p q : α → Bool) : ∀ l : List α, (∀ x ∈ l, p x = true → q x = true) → (l.filter p).length ≤ (l.filter q).length ∧ ((∃ x ∈ l, q x = true ∧ p x = false) → (l.filter p).length < (l.filter q).length) := by
  intro l
  induction l with
  | nil => intro _; exact ⟨Nat.le_refl _, fun ⟨x, h, _⟩ => by cases h⟩
  | cons a r ih =>
    intro h
    obtain ⟨h1, h2⟩ := ih fun x hx => h x (List.mem_cons_of_mem _ hx)
    have ha := h a (List.mem_cons_self ..)
    cases hp : p a with
    | true =>
      rw [List.filter_cons_of_pos hp, List.filter_cons_of_pos (ha hp), List.length_cons, List.length_cons]
      refine ⟨by omega, fun ⟨x, hx, hq, hn⟩ => ?_⟩
      rcases List.mem_cons.1 hx with rfl | hx
      · rw [hp] at hn; cases hn
      · have := h2 ⟨x, hx, hq, hn⟩; omega
    | false =>
      rw [List.filter_cons_of_neg (by simp [hp])]
      cases hq : q a with
      | true =>
        rw [List.filter_cons_of_pos hq, List.length_cons]
        exact ⟨by omega, fun _ => by omega⟩
      | false =>
        rw [List.filter_cons_of_neg (by simp [hq])]
        refine ⟨h1, fun ⟨x, hx, hq', hn⟩ => ?_⟩
        rcases List.mem_cons.1 hx with rfl | hx
        · rw [hq] at hq'; cases hq'
        · exact h2 ⟨x, hx, hq', hn⟩
/-- At the time that is told next something more is old, and nothing more ahead of it. -/
theorem ages_some {E : List Ent11} (hE : ∀ p ∈ E, p.2.may) {now t : Int} (h : nextE E now = some t) :
    now < t ∧ dueE E (t - 1) = dueE E now ∧ (dueE E now).length < (dueE E t).length ∧ ∀ k ∈ dueE E now, k ∈ dueE E t := by
  obtain ⟨⟨p, hp, hc, ht⟩, hl⟩ := next_some h
  obtain ⟨c1, c2⟩ := cand_iff.1 hc
  have hf := old_from (hE p hp) c2 c1 (Int.le_refl now)
  have hlt : now < t := by omega
  have hsame : ∀ s, now ≤ s → s < t → ∀ q ∈ E, oldA (q.2.age s) = oldA (q.2.age now) := by
    intro s h1 h2 q hq
    cases ho : oldA (q.2.age now) with
    | true => exact old_stays (hE q hq) ho h1
    | false =>
      by_cases hn : 32768 ≤ q.2.s.h.age
      · rw [old_never (hE q hq) hn s now, ho]
      · have h3 := old_from (hE q hq) (by omega) ho h1
        have h4 := hl q hq (cand_iff.2 ⟨ho, by omega⟩)
        cases ho2 : oldA (q.2.age s) with
        | false => rfl
        | true => have := h3.2.1 ho2; omega
  refine ⟨hlt, ?_, ?_, ?_⟩
  · unfold dueE
    rw [List.filter_congr fun q hq => hsame (t - 1) (by omega) (by omega) q hq]
  · unfold dueE
    rw [List.length_map, List.length_map]
    refine (filter_more _ _ E fun q hq ho => old_stays (hE q hq) ho (by omega)).2 ⟨p, hp, ?_, c1⟩
    exact (old_from (hE p hp) c2 c1 (by omega : now ≤ t)).2.2 (by omega)
  · intro k hk
    unfold dueE at *
    obtain ⟨q, hq, rfl⟩ := List.mem_map.1 hk
    rw [List.mem_filter] at hq
    exact List.mem_map.2 ⟨q, List.mem_filter.2 ⟨hq.1, old_stays (hE q hq.1) hq.2 (by omega)⟩, rfl⟩
theorem ages_none {E : List Ent11} (hE : ∀ p ∈ E, p.2.may) {now t : Int} (h : nextE E now = none) (ht : now ≤ t) : dueE E t = dueE E now := by
  have hn := next_none h
  unfold dueE
  rw [List.filter_congr fun q hq => (show oldA (q.2.age t) = oldA (q.2.age now) from ?_)]
  cases ho : oldA (q.2.age now) with
  | true => exact old_stays (hE q hq) ho ht
  | false =>
    have hc := hn q hq
    have h1 : 32768 ≤ q.2.s.h.age := by
      rcases Int.lt_or_le q.2.s.h.age 32768 with h1 | h1
      · rw [cand_iff.2 ⟨ho, h1⟩] at hc; cases hc
      · exact h1
    rw [old_never (hE q hq) h1 t now, ho]
end Go.Proofs.Ytpncbggjngamgaa
