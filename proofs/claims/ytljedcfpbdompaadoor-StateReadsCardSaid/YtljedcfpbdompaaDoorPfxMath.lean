/-
  Prefixes, bit by bit: plain facts.
-/
namespace Go.Proofs.YtljedcfpbdompaaDoor
set_option linter.unusedVariables false

/-- A mask of n bits. -/
def maskN (n : Nat) : Nat := if 32 < n then 0 else 2 ^ 32 - 2 ^ (32 - n)
theorem pow_le32 {k : Nat} (h : k ≤ 32) : 2 ^ k ≤ 2 ^ 32 := Nat.pow_le_pow_right (by decide) h
theorem maskN_lt (n : Nat) : maskN n < 4294967296 := by
  unfold maskN
  split
  · decide
  · have : 0 < 2 ^ (32 - n) := Nat.two_pow_pos _
    omega
theorem maskN_of {n : Nat} (h : n ≤ 32) : maskN n = 2 ^ 32 - 2 ^ (32 - n) := by unfold maskN; rw [if_neg (by omega)]
theorem maskN_mul {n : Nat} (h : n ≤ 32) : maskN n = (2 ^ n - 1) * 2 ^ (32 - n) := by
  rw [maskN_of h, Nat.sub_mul, ← Nat.pow_add, Nat.one_mul]
  congr 2
  omega
theorem mul_div_or {a k b : Nat} (hb : b < 2 ^ k) : (a * 2 ^ k) ||| b = a * 2 ^ k + b := by
  rw [Nat.mul_comm, Nat.two_pow_add_eq_or_of_lt hb]
theorem maskN_step {i : Nat} (h : i < 32) : maskN i ||| 2 ^ (31 - i) = maskN (i + 1) := by
  have e1 : 2 ^ (32 - i) = 2 * 2 ^ (31 - i) := by rw [show 32 - i = 31 - i + 1 by omega, Nat.pow_succ]; omega
  have hp : 0 < 2 ^ (31 - i) := Nat.two_pow_pos _
  rw [maskN_mul (by omega), mul_div_or (by omega), ← maskN_mul (by omega), maskN_of (by omega), maskN_of (by omega), show 32 - (i + 1) = 31 - i by omega, e1]
  have := pow_le32 (k := 32 - i) (by omega)
  omega
theorem maskN_zero : maskN 0 = 0 := by decide
theorem testBit_mask {n i : Nat} (h : n ≤ 32) : (maskN n).testBit i = (decide (32 - n ≤ i) && decide (i < 32)) := by
  rw [maskN_mul h, Nat.testBit_mul_two_pow, Nat.testBit_two_pow_sub_one]
  by_cases h1 : 32 - n ≤ i <;> by_cases h2 : i < 32 <;> simp [h1, h2] <;> omega
/-- An address under a mask. -/
theorem and_mask {a n : Nat} (ha : a < 4294967296) (h : n ≤ 32) : a &&& maskN n = a / 2 ^ (32 - n) * 2 ^ (32 - n) := by
  refine Nat.eq_of_testBit_eq fun i => ?_
  rw [Nat.testBit_and, testBit_mask h, Nat.testBit_mul_two_pow, Nat.testBit_div_two_pow]
  by_cases h1 : 32 - n ≤ i
  · rw [show i - (32 - n) + (32 - n) = i by omega]
    by_cases h2 : i < 32
    · simp [h1, h2]
    · have : a.testBit i = false := Nat.testBit_lt_two_pow (Nat.lt_of_lt_of_le ha (by
        have : 2 ^ 32 ≤ 2 ^ i := Nat.pow_le_pow_right (by decide) (by omega)
        simpa using this))
      simp [this]
  · simp [h1]
theorem and_mask_big {a n : Nat} (h : 32 < n) : a &&& maskN n = 0 := by unfold maskN; rw [if_pos h, Nat.and_zero]
/-- The bit i of an address, from the highest on. -/
def bitN (a i : Nat) : Nat := a / 2 ^ (31 - i) % 2
theorem bitN_test (a i : Nat) : bitN a i = (a.testBit (31 - i)).toNat := by
  unfold bitN
  rw [Nat.testBit_eq_decide_div_mod_eq]
  rcases Nat.mod_two_eq_zero_or_one (a / 2 ^ (31 - i)) with h | h <;> rw [h] <;> rfl
theorem toNat_inj {a b : Bool} (h : a.toNat = b.toNat) : a = b := by cases a <;> cases b <;> simp_all
/-- Is it a prefix? -/
def isP (a n : Nat) : Bool := decide (n ≤ 32) && decide (a % 2 ^ (32 - n) = 0)
theorem isP_bits {a n : Nat} (h : n ≤ 32) : isP a n = true ↔ ∀ i, n ≤ i → i < 32 → bitN a i = 0 := by
  unfold isP
  simp only [h, decide_true, Bool.true_and, decide_eq_true_eq]
  constructor
  · intro hm i h1 h2
    have : (a % 2 ^ (32 - n)).testBit (31 - i) = false := by rw [hm]; exact Nat.zero_testBit _
    rw [Nat.testBit_mod_two_pow] at this
    have h3 : 31 - i < 32 - n := by omega
    simp only [h3, decide_true, Bool.true_and] at this
    rw [bitN_test, this]; rfl
  · intro hb
    refine Nat.eq_of_testBit_eq fun i => ?_
    rw [Nat.testBit_mod_two_pow, Nat.zero_testBit]
    by_cases h1 : i < 32 - n
    · have := hb (31 - i) (by omega) (by omega)
      rw [bitN_test, show 31 - (31 - i) = i by omega] at this
      have h2 : a.testBit i = false := toNat_inj (by rw [this]; rfl)
      simp [h1, h2]
    · simp [h1]
/-- Has a prefix an address? -/
def hasP (a n b : Nat) : Bool := isP a n && decide (b / 2 ^ (32 - n) * 2 ^ (32 - n) = a)
theorem isP_mul {a n : Nat} (h : isP a n = true) : a / 2 ^ (32 - n) * 2 ^ (32 - n) = a := by
  unfold isP at h
  simp only [Bool.and_eq_true, decide_eq_true_eq] at h
  exact Nat.div_mul_cancel (Nat.dvd_of_mod_eq_zero h.2)
theorem hasP_bits {a n b : Nat} (ha : a < 4294967296) (hb : b < 4294967296) (h : isP a n = true) : hasP a n b = true ↔ ∀ i, i < n → bitN a i = bitN b i := by
  have hn : n ≤ 32 := by unfold isP at h; simp only [Bool.and_eq_true, decide_eq_true_eq] at h; exact h.1
  have hp : 0 < 2 ^ (32 - n) := Nat.two_pow_pos _
  unfold hasP
  rw [h]
  simp only [Bool.true_and, decide_eq_true_eq]
  have e : b / 2 ^ (32 - n) * 2 ^ (32 - n) = a ↔ b / 2 ^ (32 - n) = a / 2 ^ (32 - n) := by
    constructor
    · intro h1; rw [← h1, Nat.mul_div_cancel _ hp]
    · intro h1; rw [h1]; exact isP_mul h
  rw [e]
  constructor
  · intro h1 i hi
    rw [bitN_test, bitN_test]
    congr 1
    have h2 := congrArg (fun x => x.testBit (31 - i - (32 - n))) h1
    simp only [Nat.testBit_div_two_pow] at h2
    rw [show 31 - i - (32 - n) + (32 - n) = 31 - i by omega] at h2
    exact h2.symm
  · intro h1
    refine Nat.eq_of_testBit_eq fun i => ?_
    rw [Nat.testBit_div_two_pow, Nat.testBit_div_two_pow]
    by_cases h2 : i + (32 - n) < 32
    · have h3 := h1 (31 - (i + (32 - n))) (by omega)
      rw [bitN_test, bitN_test, show 31 - (31 - (i + (32 - n))) = i + (32 - n) by omega] at h3
      exact (toNat_inj h3).symm
    · have big : ∀ x, x < 4294967296 → x.testBit (i + (32 - n)) = false := fun x hx => Nat.testBit_lt_two_pow (Nat.lt_of_lt_of_le hx (by
        have : 2 ^ 32 ≤ 2 ^ (i + (32 - n)) := Nat.pow_le_pow_right (by decide) (by omega)
        simpa using this))
      rw [big a ha, big b hb]
/-- The greatest address of a prefix. -/
def lastP (a n : Nat) : Nat := a + (2 ^ (32 - n) - 1)
theorem or_last {a n : Nat} (h : isP a n = true) : a ||| (4294967295 - maskN n) = lastP a n := by
  have hn : n ≤ 32 := by unfold isP at h; simp only [Bool.and_eq_true, decide_eq_true_eq] at h; exact h.1
  have hp : 0 < 2 ^ (32 - n) := Nat.two_pow_pos _
  have e : 4294967295 - maskN n = 2 ^ (32 - n) - 1 := by
    rw [maskN_of hn]
    have := pow_le32 (k := 32 - n) (by omega)
    omega
  rw [e]
  unfold lastP
  conv => lhs; rw [← isP_mul h]
  rw [mul_div_or (by omega), isP_mul h]
/-- Does a prefix cover another? -/
def covP (a n b m : Nat) : Bool := isP b m && (decide (n ≤ m) && hasP a n b)
theorem div_near {a b D : Nat} (hD : 0 < D) (h1 : a * D ≤ b) (h2 : b < a * D + D) : b / D = a := by
  rw [Nat.div_eq_iff hD]
  constructor
  · exact h1
  · omega
theorem lt_mul {a b D : Nat} (h : a * D < b * D) : a * D + D ≤ b * D := by
  have : a < b := Nat.lt_of_mul_lt_mul_right h
  have h2 : (a + 1) * D ≤ b * D := Nat.mul_le_mul_right _ this
  rwa [Nat.add_mul, Nat.one_mul] at h2
theorem covP_last (a n b m : Nat) : covP a n b m = (isP a n && (isP b m && (decide (a ≤ b) && decide (lastP b m ≤ lastP a n)))) := by
  rw [Bool.eq_iff_iff]
  unfold covP hasP lastP
  cases h1 : isP a n <;> cases h2 : isP b m <;> simp only [Bool.false_and, Bool.and_false, Bool.true_and, Bool.and_eq_true, decide_eq_true_eq]
  have hn : n ≤ 32 := by unfold isP at h1; simp only [Bool.and_eq_true, decide_eq_true_eq] at h1; exact h1.1
  have hm : m ≤ 32 := by unfold isP at h2; simp only [Bool.and_eq_true, decide_eq_true_eq] at h2; exact h2.1
  have ea := isP_mul h1
  have eb := isP_mul h2
  have pD : 0 < 2 ^ (32 - n) := Nat.two_pow_pos _
  have pE : 0 < 2 ^ (32 - m) := Nat.two_pow_pos _
  constructor
  · rintro ⟨hnm, h3⟩
    have hle : a ≤ b := by rw [← h3]; exact Nat.div_mul_le_self _ _
    refine ⟨hle, ?_⟩
    have hlt : b < a + 2 ^ (32 - n) := by
      have := Nat.lt_div_mul_add (a := b) pD
      rw [h3] at this; exact this
    have hpow : 2 ^ (32 - n) = 2 ^ (m - n) * 2 ^ (32 - m) := by rw [← Nat.pow_add]; congr 1; omega
    have ea2 : a = (a / 2 ^ (32 - n) * 2 ^ (m - n)) * 2 ^ (32 - m) := by rw [Nat.mul_assoc, ← hpow, ea]
    have hk : b / 2 ^ (32 - m) * 2 ^ (32 - m) < (a / 2 ^ (32 - n) * 2 ^ (m - n) + 2 ^ (m - n)) * 2 ^ (32 - m) := by
      rw [eb, Nat.add_mul, ← ea2, ← hpow]; exact hlt
    have := lt_mul hk
    rw [eb, Nat.add_mul, ← ea2, ← hpow] at this
    omega
  · rintro ⟨h3, h4⟩
    have hlt : b < a + 2 ^ (32 - n) := by omega
    have hEle : 2 ^ (32 - m) ≤ 2 ^ (32 - n) := by omega
    have hnm : n ≤ m := by
      rcases Nat.lt_or_ge m n with hlt2 | hge
      · have : 2 ^ (32 - n) < 2 ^ (32 - m) := Nat.pow_lt_pow_right (by decide) (by omega)
        omega
      · exact hge
    refine ⟨hnm, ?_⟩
    rw [div_near (a := a / 2 ^ (32 - n)) pD (by rw [ea]; exact h3) (by rw [ea]; exact hlt), ea]
theorem over_half {a n b m : Nat} (h1 : isP a n = true) (h2 : isP b m = true) (hnm : n ≤ m) (h3 : a ≤ lastP b m) (h4 : b ≤ lastP a n) : covP a n b m = true := by
  have hn : n ≤ 32 := by unfold isP at h1; simp only [Bool.and_eq_true, decide_eq_true_eq] at h1; exact h1.1
  have hm : m ≤ 32 := by unfold isP at h2; simp only [Bool.and_eq_true, decide_eq_true_eq] at h2; exact h2.1
  have ea := isP_mul h1
  have eb := isP_mul h2
  have pD : 0 < 2 ^ (32 - n) := Nat.two_pow_pos _
  have pE : 0 < 2 ^ (32 - m) := Nat.two_pow_pos _
  unfold lastP at h3 h4
  have hpow : 2 ^ (32 - n) = 2 ^ (m - n) * 2 ^ (32 - m) := by rw [← Nat.pow_add]; congr 1; omega
  have ea2 : a = (a / 2 ^ (32 - n) * 2 ^ (m - n)) * 2 ^ (32 - m) := by rw [Nat.mul_assoc, ← hpow, ea]
  have hab : a ≤ b := by
    rcases Nat.lt_or_ge b a with hlt | hge
    · have hk : b / 2 ^ (32 - m) * 2 ^ (32 - m) < (a / 2 ^ (32 - n) * 2 ^ (m - n)) * 2 ^ (32 - m) := by rw [eb, ← ea2]; exact hlt
      have := lt_mul hk
      rw [eb, ← ea2] at this
      omega
    · exact hge
  unfold covP hasP
  rw [h1, h2]
  simp only [Bool.true_and, Bool.and_eq_true, decide_eq_true_eq]
  refine ⟨hnm, ?_⟩
  rw [div_near (a := a / 2 ^ (32 - n)) pD (by rw [ea]; exact hab) (by rw [ea]; omega), ea]
/-- Have they an address in common? -/
def overP (a n b m : Nat) : Bool := covP a n b m || covP b m a n
theorem overP_last (a n b m : Nat) : overP a n b m = (isP a n && (isP b m && (decide (a ≤ lastP b m) && decide (b ≤ lastP a n)))) := by
  rw [Bool.eq_iff_iff]
  constructor
  · unfold overP
    rw [covP_last, covP_last, Bool.or_eq_true]
    simp only [Bool.and_eq_true, decide_eq_true_eq]
    unfold lastP
    rintro (⟨h1, h2, h3, h4⟩ | ⟨h1, h2, h3, h4⟩)
    · exact ⟨h1, h2, by omega, by have := Nat.two_pow_pos (32 - m); omega⟩
    · exact ⟨h2, h1, by have := Nat.two_pow_pos (32 - n); omega, by omega⟩
  · simp only [Bool.and_eq_true, decide_eq_true_eq]
    rintro ⟨h1, h2, h3, h4⟩
    unfold overP
    rw [Bool.or_eq_true]
    rcases Nat.le_total n m with h | h
    · exact .inl (over_half h1 h2 h h3 h4)
    · exact .inr (over_half h2 h1 h h4 h3)
/-- How many bits a mask has. -/
def bitsN (mask : Nat) : Nat × Bool := match (List.range 33).find? (fun n => maskN n == mask) with
  | some n => (n, true)
  | none => (0, false)
theorem maskN_inj {n m : Nat} (hn : n ≤ 32) (hm : m ≤ 32) (h : maskN n = maskN m) : n = m := by
  rw [maskN_of hn, maskN_of hm] at h
  have h1 := pow_le32 (k := 32 - n) (by omega)
  have h2 := pow_le32 (k := 32 - m) (by omega)
  have h3 : 2 ^ (32 - n) = 2 ^ (32 - m) := by omega
  rcases Nat.lt_trichotomy n m with hlt | he | hlt
  · have : 2 ^ (32 - m) < 2 ^ (32 - n) := Nat.pow_lt_pow_right (by decide) (by omega)
    omega
  · exact he
  · have : 2 ^ (32 - n) < 2 ^ (32 - m) := Nat.pow_lt_pow_right (by decide) (by omega)
    omega
theorem bitsN_yes {mask n : Nat} (hn : n ≤ 32) (h : maskN n = mask) : bitsN mask = (n, true) := by
  unfold bitsN
  cases hf : (List.range 33).find? (fun n => maskN n == mask) with
  | none =>
    have := List.find?_eq_none.1 hf n (List.mem_range.2 (by omega))
    simp [h] at this
  | some k =>
    have h1 := List.find?_some hf
    have h2 := List.mem_range.1 (List.mem_of_find?_eq_some hf)
    simp only [beq_iff_eq] at h1
    rw [maskN_inj (by omega) hn (h1.trans h.symm)]
theorem bitsN_no {mask : Nat} (h : ∀ n, n ≤ 32 → maskN n ≠ mask) : bitsN mask = (0, false) := by
  unfold bitsN
  cases hf : (List.range 33).find? (fun n => maskN n == mask) with
  | none => rfl
  | some k =>
    have h1 := List.find?_some hf
    have h2 := List.mem_range.1 (List.mem_of_find?_eq_some hf)
    simp only [beq_iff_eq] at h1
    exact absurd h1 (h k (by omega))
end Go.Proofs.YtljedcfpbdompaaDoor
