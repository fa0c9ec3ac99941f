/-
  Prefixes lie in one another or apart: plain facts.
-/
import Derived.Test.YtljmmpjcagchmaaDoorPfxEq2
namespace Go.Proofs.YtljmmpjcagchmaaDoor
set_option linter.unusedVariables false

theorem isP_le' {a n : Nat} (h : isP a n = true) : n ≤ 32 := isP_le h
theorem mk_yes {a k : Nat} (h : k ≤ 32) : mk a k = (⟨a &&& maskN k, k⟩, 0) := by unfold mk; rw [if_neg (by omega)]
theorem isP_and {a k : Nat} (ha : a < 4294967296) (h : k ≤ 32) : isP (a &&& maskN k) k = true := by
  unfold isP
  rw [and_mask ha h]
  simp [h]
theorem hasP_and {a k : Nat} (ha : a < 4294967296) (h : k ≤ 32) : hasP (a &&& maskN k) k a = true := by
  unfold hasP
  rw [isP_and ha h, and_mask ha h]
  simp
theorem covP_self {a n : Nat} (h : isP a n = true) : covP a n a n = true := by
  unfold covP hasP
  rw [h, isP_mul h]
  simp
theorem overP_comm (a n b m : Nat) : overP b m a n = overP a n b m := by unfold overP; rw [Bool.or_comm]
theorem covP_le {a n b m : Nat} (h : covP a n b m = true) : n ≤ m ∧ hasP a n b = true ∧ isP b m = true := by
  unfold covP at h
  simp only [Bool.and_eq_true, decide_eq_true_eq] at h
  exact ⟨h.2.1, h.2.2, h.1⟩
theorem hasP_eq {a n b : Nat} (h : hasP a n b = true) : b / 2 ^ (32 - n) * 2 ^ (32 - n) = a ∧ isP a n = true := by
  unfold hasP at h
  simp only [Bool.and_eq_true, decide_eq_true_eq] at h
  exact ⟨h.2, h.1⟩
theorem cov_same {a n b : Nat} (h : covP a n b n = true) : a = b := by
  obtain ⟨_, h1, h2⟩ := covP_le h
  obtain ⟨h3, _⟩ := hasP_eq h1
  rw [isP_mul h2] at h3
  exact h3.symm
theorem cov_both {a n b m : Nat} (h : covP a n b m = true) (h2 : covP b m a n = true) : a = b ∧ n = m := by
  have h3 := (covP_le h).1
  have h4 := (covP_le h2).1
  obtain rfl : n = m := by omega
  exact ⟨cov_same h, rfl⟩
theorem cov_one {a n b m : Nat} (h : covP a n b m = true) (h2 : covP b m a n = false) : n < m := by
  have h3 := (covP_le h).1
  rcases Nat.lt_or_ge n m with h4 | h4
  · exact h4
  · obtain rfl : n = m := by omega
    obtain rfl := cov_same h
    rw [h] at h2; cases h2
theorem coarse {a k m : Nat} (h : k ≤ m) (hm : m ≤ 32) : (a / 2 ^ (32 - m) * 2 ^ (32 - m)) / 2 ^ (32 - k) = a / 2 ^ (32 - k) := by
  have e : 2 ^ (32 - k) = 2 ^ (32 - m) * 2 ^ (m - k) := by rw [← Nat.pow_add]; congr 1; omega
  have hp : 0 < 2 ^ (32 - m) := Nat.two_pow_pos _
  rw [e, ← Nat.div_div_eq_div_mul, Nat.mul_div_cancel _ hp, ← Nat.div_div_eq_div_mul]
/-- Two prefixes that have one address in common: the shorter covers the longer. -/
theorem has_cov {a n b m c : Nat} (h1 : hasP a n c = true) (h2 : hasP b m c = true) (h : n ≤ m) : covP a n b m = true := by
  obtain ⟨e1, i1⟩ := hasP_eq h1
  obtain ⟨e2, i2⟩ := hasP_eq h2
  unfold covP hasP
  rw [i1, i2]
  simp only [Bool.true_and, Bool.and_eq_true, decide_eq_true_eq]
  refine ⟨h, ?_⟩
  rw [← e2, coarse h (isP_le i2), e1]
theorem has_over {a n b m c : Nat} (h1 : hasP a n c = true) (h2 : hasP b m c = true) : overP a n b m = true := by
  unfold overP
  rw [Bool.or_eq_true]
  rcases Nat.le_total n m with h | h
  · exact .inl (has_cov h1 h2 h)
  · exact .inr (has_cov h2 h1 h)
/-- What a prefix covers, has no address that it lacks. -/
theorem cov_has {a n b m c : Nat} (h : covP a n b m = true) (h2 : hasP b m c = true) : hasP a n c = true := by
  obtain ⟨h3, h4, h5⟩ := covP_le h
  obtain ⟨e1, i1⟩ := hasP_eq h4
  obtain ⟨e2, i2⟩ := hasP_eq h2
  unfold hasP
  rw [i1]
  simp only [Bool.true_and, decide_eq_true_eq]
  rw [← e1, ← e2, coarse h3 (isP_le i2)]
theorem dotL_len (a : Nat) : (dotL a).length ≤ 15 := by
  have h := fun k => (dig_len (part_lt a k)).2
  rw [dotL_eq]
  simp only [List.length_append, List.length_cons]
  have := h 0; have := h 1; have := h 2; have := h 3
  omega
theorem textL_len (a n : Nat) : (textL a n).length ≤ 20 := by
  cases h : isP a n
  · rw [textL_no h]; simp
  · rw [textL_yes h]
    have h1 := dotL_len a
    have h2 := (dig_len (u := n) (by have := isP_le h; omega)).2
    simp only [List.length_append, List.length_cons]
    omega
/-- A text that is read as a prefix is read as no address. -/
theorem parse_or_addr {l : List UInt8} {p : Pf} (h : parseP l = (p, 0)) : adP 3 l 0 = none := by
  cases h2 : adP 3 l 0 with
  | none => rfl
  | some a =>
    have h3 := (text_parse h)
    have h4 := addr_text h2
    have h5 := dotL_no47 a
    rw [h4, ← h3.1, textL_yes h3.2.2.2] at h5
    exact absurd (by simp) h5
end Go.Proofs.YtljmmpjcagchmaaDoor
