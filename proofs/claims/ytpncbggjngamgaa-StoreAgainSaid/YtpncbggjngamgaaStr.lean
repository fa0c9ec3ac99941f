/-
  The order in which states are put counts for nothing; what is put again as it is found stays as it was. No program in sight.
-/
import Derived.Test.YtpncbggjngamgaaStq
namespace Go.Proofs.Ytpncbggjngamgaa
set_option linter.unusedVariables false
open Go.RowKit

def KeysApart (L : List OpS) : Prop := L.Pairwise fun a b => a.s.key ≠ b.s.key
theorem apart_of {L : List OpS} (h : ∀ (i k : Nat) (a b : OpS), k < i → L[i]? = some a → L[k]? = some b → a.s.key ≠ b.s.key) : KeysApart L := by
  unfold KeysApart
  rw [List.pairwise_iff_getElem]
  intro i j hi hj hij e
  exact h j i _ _ hij (List.getElem?_eq_getElem hj) (List.getElem?_eq_getElem hi) e.symm
theorem fillC_at : ∀ (n : Nat) (L : List OpS), L.length = n → KeysApart L → ∀ o ∈ L, fillC L o.s.key = some (o.s.h, o.s.B, max o.now 0) := by
  intro n
  induction n with
  | zero =>
    intro L hl _ o ho
    rw [List.length_eq_zero_iff] at hl
    subst hl
    cases ho
  | succ n ih =>
    intro L hl hp o ho
    rcases List.eq_nil_or_concat L with rfl | ⟨l, a, rfl⟩
    · simp at hl
    · rw [List.concat_eq_append] at *
      rw [fillC_snoc]
      unfold upC
      unfold KeysApart at hp
      rw [List.pairwise_append] at hp
      rcases List.mem_append.1 ho with h | h
      · rw [if_neg (hp.2.2 o h a (by simp))]
        exact ih l (by simp at hl; omega) hp.1 o h
      · rw [List.mem_singleton] at h
        subst h
        rw [if_pos rfl]
theorem fillC_rev {L : List OpS} (h : KeysApart L) : fillC L.reverse = fillC L := by
  have hr : KeysApart L.reverse := by
    unfold KeysApart at *
    rw [List.pairwise_reverse]
    exact h.imp fun hab => hab.symm
  funext k
  cases hk : fillC L k with
  | some c =>
    obtain ⟨o, ho, h1, h2⟩ := fillC_some _ L rfl k c hk
    subst h1
    rw [fillC_at _ _ rfl hr o (List.mem_reverse.2 ho), h2]
  | none =>
    cases hk2 : fillC L.reverse k with
    | none => rfl
    | some c =>
      obtain ⟨o, ho, h1, h2⟩ := fillC_some _ L.reverse rfl k c hk2
      subst h1
      rw [fillC_at _ _ rfl h o (List.mem_reverse.1 ho)] at hk
      cases hk
theorem cont_some (f : Ky3 → Option OneE) (k : Ky3) : (contF f k).isSome = (f k).isSome := by unfold contF; cases f k <;> rfl
theorem cont_at {f f' : Ky3 → Option OneE} (h : contF f = contF f') (t : Int) (k : Ky3) : hAt f t k = hAt f' t k ∧ bAt f k = bAt f' k := by
  have hk := congrFun h k
  unfold contF at hk
  unfold hAt bAt
  cases e : f k with
  | none =>
    cases e' : f' k with
    | none => exact ⟨rfl, rfl⟩
    | some y => rw [e, e'] at hk; cases hk
  | some x =>
    cases e' : f' k with
    | none => rw [e, e'] at hk; cases hk
    | some y =>
      rw [e, e'] at hk
      injection hk with hk
      injection hk with h1 h2
      injection h2 with h2 h3
      simp only [Option.getD_some]
      unfold OneE.headAt OneE.age
      rw [h1, h3]
      exact ⟨rfl, h2⟩
theorem ks_cont {f f' : Ky3 → Option OneE} {n m : Nat} {ks ls : List Ky3} (h : KsOf f n ks) (h2 : KsOf f' m ls) (hs : ∀ k, (f' k).isSome = (f k).isSome) : ls = ks :=
  asc_unique ls ks h2.asc h.asc fun e => by rw [h2.mem, h.mem, hs]
/-- What is held where those of the keys K were put again as they were found. -/
def agC (f : Ky3 → Option OneE) (now : Int) (K : List Ky3) : Ky3 → Option (Hd × List Int × Int) := fun k => if k ∈ K then some (hAt f now k, bAt f k, now) else contF f k
theorem agC_nil (f : Ky3 → Option OneE) (now : Int) : agC f now [] = contF f := by funext k; unfold agC; simp
theorem agC_step {f fj : Ky3 → Option OneE} {now : Int} {ks : List Ky3} {j : Nat} {k : Ky3} {x : SE} (hc : contF fj = agC f now (ks.take j)) (hk : ks[j]? = some k) (h1 : x.h = hAt f now k) (h2 : x.B = bAt f k) :
    contF (updK fj k ⟨x, now⟩) = agC f now (ks.take (j + 1)) := by
  funext k'
  have hq := congrFun hc k'
  unfold contF updK agC at *
  rw [List.take_add_one, hk, Option.toList_some]
  by_cases e : k' = k
  · subst e
    rw [if_pos rfl, if_pos (by simp), Option.map_some, h1, h2]
  · rw [if_neg e, hq]
    by_cases e2 : k' ∈ ks.take j
    · rw [if_pos e2, if_pos (by simp [e2])]
    · rw [if_neg e2, if_neg (by simp [e2, e])]
theorem laterA_comp {a p1 p2 : Int} (ha : 0 ≤ a ∧ a ≤ 65535) (h1 : 0 ≤ p1) (h2 : 0 ≤ p2) : laterA (laterA a p1) p2 = laterA a (p1 + p2) := by
  by_cases h : 32768 ≤ a
  · rw [laterA_same (.inl h), laterA_same (.inl h), laterA_same (.inl h)]
  · have hz : ∀ p, ¬ p < 1 → laterA a p = min (yearsOf a + min p 3600) 3600 := fun p hp => laterA_more h hp
    by_cases e1 : p1 < 1
    · rw [laterA_same (a := a) (p := p1) (.inr e1), show p1 + p2 = p2 by omega]
    · rw [hz p1 e1]
      have hy := years_bound a ha.1
      by_cases e2 : p2 < 1
      · rw [laterA_same (.inr e2), show p1 + p2 = p1 by omega, hz p1 e1]
      · rw [laterA_more (by omega) e2, hz (p1 + p2) (by omega)]
        have : yearsOf (min (yearsOf a + min p1 3600) 3600) = min (yearsOf a + min p1 3600) 3600 := by
          generalize hm : min (yearsOf a + min p1 3600) 3600 = m
          unfold yearsOf
          omega
        rw [this]
        omega
/-- What was put again as it was found is the same for all times to come. -/
theorem again_at {f f' : Ky3 → Option OneE} {now later : Int} {n : Nat} {ks : List Ky3} (hf : FewAt f) (h : KsOf f n ks) (hc : contF f' = agC f now ks) (hn : ∀ k x, f k = some x → x.at_ ≤ now) (hl : now ≤ later) (k : Ky3) :
    hAt f' later k = hAt f later k ∧ bAt f' k = bAt f k ∧ (f' k).isSome = (f k).isSome := by
  have hk := congrFun hc k
  have hm := h.mem k
  have hs := congrArg Option.isSome hk
  rw [cont_some] at hs
  unfold agC at hk hs
  cases e : f k with
  | none =>
    have hnm : k ∉ ks := fun hi => by have := hm.1 hi; rw [e] at this; cases this
    rw [if_neg hnm] at hk hs
    rw [cont_some, e] at hs
    unfold hAt bAt
    cases e' : f' k with
    | none => rw [e]; exact ⟨rfl, rfl, rfl⟩
    | some y => rw [e'] at hs; cases hs
  | some x =>
    have hmk : k ∈ ks := hm.2 (by rw [e]; rfl)
    rw [if_pos hmk] at hk hs
    cases e' : f' k with
    | none => rw [e'] at hs; cases hs
    | some y =>
      unfold contF at hk
      rw [e'] at hk
      injection hk with hk
      injection hk with h1 h2
      injection h2 with h2 h3
      have hx : hAt f now k = x.headAt now := by unfold hAt; rw [e]; rfl
      have hb : bAt f k = x.s.B := by unfold bAt; rw [e]; rfl
      have hage := (hf k x e).2.age
      have hat := hn k x e
      refine ⟨?_, ?_, rfl⟩
      · have g1 : hAt f' later k = y.headAt later := by unfold hAt; rw [e']; rfl
        have g2 : hAt f later k = x.headAt later := by unfold hAt; rw [e]; rfl
        rw [g1, g2]
        unfold OneE.headAt OneE.age
        rw [h1, h3, hx]
        unfold OneE.headAt OneE.age
        simp only
        rw [laterA_comp hage (by omega) (by omega), show now - x.at_ + (later - now) = later - x.at_ by omega]
      · have g1 : bAt f' k = y.s.B := by unfold bAt; rw [e']; rfl
        rw [g1, h2]
end Go.Proofs.Ytpncbggjngamgaa
