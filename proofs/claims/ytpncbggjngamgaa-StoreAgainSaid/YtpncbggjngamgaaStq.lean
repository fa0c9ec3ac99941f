/-
  What a store tells at a time, by the keys in order: the laws of Stp turned to keys. No program in sight.
-/
import Derived.Test.YtpncbggjngamgaaSto9
import Derived.Test.YtpncbggjngamgaaSto11
namespace Go.Proofs.Ytpncbggjngamgaa
set_option linter.unusedVariables false
open Go.RowKit

theorem asc_unique : ∀ (s s2 : List Ky3), (∀ (i j : Nat) (a b : Ky3), i < j → s[i]? = some a → s[j]? = some b → ltK a b = true) → (∀ (i j : Nat) (a b : Ky3), i < j → s2[i]? = some a → s2[j]? = some b → ltK a b = true) → (∀ e, e ∈ s ↔ e ∈ s2) → s = s2 := by
  have hno : ∀ (a : Ky3) (t : List Ky3), (∀ (i j : Nat) (x y : Ky3), i < j → (a :: t)[i]? = some x → (a :: t)[j]? = some y → ltK x y = true) → ∀ x ∈ t, ltK a x = true := by
    intro a t h x hx
    obtain ⟨i, hi, hi'⟩ := List.getElem_of_mem hx
    exact h 0 (i + 1) a x (by omega) rfl (by rw [List.getElem?_cons_succ, List.getElem?_eq_getElem hi, hi'])
  have hirr : ∀ a : Ky3, ltK a a = true → False := fun a h => by rw [ltK_irrefl] at h; cases h
  intro s
  induction s with
  | nil =>
    intro s2 _ _ hm
    cases s2 with
    | nil => rfl
    | cons a t => exact absurd ((hm a).2 List.mem_cons_self) (by simp)
  | cons a t ih =>
    intro s2 ha ha2 hm
    cases s2 with
    | nil => exact absurd ((hm a).1 List.mem_cons_self) (by simp)
    | cons b t2 =>
      have h1 := hno a t ha
      have h2 := hno b t2 ha2
      have hab : a = b := by
        rcases List.mem_cons.1 ((hm a).1 List.mem_cons_self) with h | h
        · exact h
        · rcases List.mem_cons.1 ((hm b).2 List.mem_cons_self) with h' | h'
          · exact h'.symm
          · exact (hirr a (ltK_trans (h1 b h') (h2 a h))).elim
      subst hab
      rw [ih t2 (fun i j x y hij hi hj => ha (i + 1) (j + 1) x y (by omega) hi hj) (fun i j x y hij hi hj => ha2 (i + 1) (j + 1) x y (by omega) hi hj) fun e => ?_]
      have := hm e
      rw [List.mem_cons, List.mem_cons] at this
      constructor
      · intro he
        rcases this.1 (.inr he) with h | h
        · subst h; exact (hirr e (h1 e he)).elim
        · exact h
      · intro he
        rcases this.2 (.inr he) with h | h
        · subst h; exact (hirr e (h2 e he)).elim
        · exact h
theorem ks_unique {f : Ky3 → Option OneE} {n m : Nat} {ks ls : List Ky3} (h : KsOf f n ks) (h2 : KsOf f m ls) : ls = ks :=
  asc_unique ls ks h2.asc h.asc fun e => (h2.mem e).trans (h.mem e).symm
/-- The times and ages of a store that the law fills. -/
def FewAt (f : Ky3 → Option OneE) : Prop := ∀ k x, f k = some x → x.s.key = k ∧ x.may
theorem dueK_E (f : Ky3 → Option OneE) (now : Int) (ks : List Ky3) : dueK f now ks = dueE (ks.map (entK f)) now := by
  unfold dueK dueE
  rw [List.filter_map, List.map_map]
  have : ((fun p : Ent11 => p.1) ∘ entK f) = id := rfl
  rw [this, List.map_id]
  rfl
theorem few_may {f : Ky3 → Option OneE} {n : Nat} {ks : List Ky3} (hf : FewAt f) (h : KsOf f n ks) : ∀ p ∈ ks.map (entK f), p.2.may := by
  intro p hp
  obtain ⟨k, hk, rfl⟩ := List.mem_map.1 hp
  obtain ⟨x, hx⟩ := Option.isSome_iff_exists.1 ((h.mem k).1 hk)
  unfold entK
  rw [hx]
  exact (hf k x hx).2
theorem nextK_E {f : Ky3 → Option OneE} {n : Nat} {ks : List Ky3} (hf : FewAt f) (h : KsOf f n ks) (now : Int) : nextK f now ks = nextE (ks.map (entK f)) now := by
  unfold nextK nextE
  have key : ∀ (E : List Ent11) (b : Option Int), (∀ p ∈ E, p.2.may) → E.foldl (stepW now) b = E.foldl (stepE now) b := by
    intro E
    induction E with
    | nil => intro b _; rfl
    | cons p r ih =>
      intro b hE
      have hp := hE p List.mem_cons_self
      have hw : decide (p.2.end_ ≤ 9223372036854775807) = true := decide_eq_true (by unfold OneE.end_; have := hp.at_; have := hp.age; omega)
      rw [List.foldl_cons, List.foldl_cons, ih _ fun q hq => hE q (List.mem_cons_of_mem _ hq)]
      congr 1
      unfold stepW stepE
      rw [hw, Bool.and_true]
      cases b <;> rfl
  exact key _ _ (few_may hf h)
theorem agesK_some {f : Ky3 → Option OneE} {n : Nat} {ks : List Ky3} (hf : FewAt f) (h : KsOf f n ks) {now t : Int} (hn : nextK f now ks = some t) :
    now < t ∧ t ≤ 1099511631376 ∧ dueK f (t - 1) ks = dueK f now ks ∧ (dueK f now ks).length < (dueK f t ks).length ∧ ∀ k ∈ dueK f now ks, k ∈ dueK f t ks := by
  rw [nextK_E hf h] at hn
  obtain ⟨h1, h2, h3, h4⟩ := ages_some (few_may hf h) hn
  obtain ⟨⟨p, hp, _, ht⟩, _⟩ := next_some hn
  have hm := few_may hf h p hp
  simp only [dueK_E]
  refine ⟨h1, ?_, h2, h3, h4⟩
  unfold OneE.end_ at ht
  have := hm.at_
  have := hm.age
  omega
theorem agesK_none {f : Ky3 → Option OneE} {n : Nat} {ks : List Ky3} (hf : FewAt f) (h : KsOf f n ks) {now t : Int} (hn : nextK f now ks = none) (ht : now ≤ t) : dueK f t ks = dueK f now ks := by
  rw [nextK_E hf h] at hn
  simp only [dueK_E]
  exact ages_none (few_may hf h) hn ht
theorem headsK {f : Ky3 → Option OneE} {n : Nat} {ks : List Ky3} (hf : FewAt f) (h : KsOf f n ks) (now : Int) {i : Nat} {x : Hd} (hx : (ks.map (hAt f now))[i]? = some x) : ks[i]? = some (x.typ, x.id, x.adv) := by
  rw [List.getElem?_map] at hx
  cases hk : ks[i]? with
  | none => rw [hk] at hx; cases hx
  | some k =>
    rw [hk] at hx
    injection hx with hx
    obtain ⟨y, hy⟩ := Option.isSome_iff_exists.1 ((h.mem k).1 (List.mem_of_getElem? hk))
    subst hx
    have h1 := (hf k y hy).1
    have e : hAt f now k = y.headAt now := by unfold hAt; rw [hy]; rfl
    rw [e, ← h1]
    rfl
theorem few_fill {f : Ky3 → Option OneE} {L : List OpS} {w w' : World} {g bm : Nat} {most : Int} {N : Nat} (q : StF w' g bm most f N) (hc : contF f = fillC L) (hL : ∀ o ∈ L, o.ok w) (ht : ∀ o ∈ L, o.now ≤ 1099511627776) : FewAt f := by
  intro k x hx
  refine ⟨(q.good k x hx).1, ?_⟩
  have h : fillC L k = some (x.s.h, x.s.B, x.at_) := by rw [← hc]; unfold contF; rw [hx]; rfl
  obtain ⟨o, ho, h1, h2⟩ := fillC_some _ L rfl k _ h
  injection h2 with h2 h3
  injection h3 with h3 h4
  have h5 := (hL o ho).s.head.age
  have h6 := ht o ho
  refine ⟨by rw [h2]; exact h5, ?_⟩
  rw [h4]
  omega
end Go.Proofs.Ytpncbggjngamgaa
