/-
  What is read is what is written: plain facts on the texts of addresses and prefixes.
-/
import Derived.Test.YtljmmpjcagchmaaDoorPfx14
namespace Go.Proofs.YtljmmpjcagchmaaDoor
set_option linter.unusedVariables false
open Go.RowKit

theorem cons_eq {a b : UInt8} {l m : List UInt8} (h : a = b) (h2 : l = m) : a :: l = b :: m := by rw [h, h2]
theorem ofNat_eq {m : Nat} {c : UInt8} (h : m = c.toNat) : UInt8.ofNat m = c := by rw [h]; exact UInt8.ofNat_toNat
theorem toNat_of {m : Nat} (h : m < 256) : (UInt8.ofNat m).toNat = m := by rw [UInt8.toNat_ofNat']; omega
theorem dig3 {n : Nat} (h1 : 100 ≤ n) (h2 : n < 1000) : Lib.decDigits n = [UInt8.ofNat (48 + n / 100), UInt8.ofNat (48 + n / 10 % 10), UInt8.ofNat (48 + n % 10)] := by
  rw [Lib.decDigits, dif_neg (by omega), Lib.decDigits_two (by omega) (by omega)]
  simp [Nat.div_div_eq_div_mul]
/-- Does a text begin with no digit? -/
def noDig (r : List UInt8) : Prop := ∀ c t, r = c :: t → ¬ (48 ≤ c.toNat ∧ c.toNat ≤ 57)
theorem runN_no {r : List UInt8} (h : noDig r) (f n : Nat) : runN f r n = (0, n) := by
  cases r with
  | nil => exact runN_nil _ _
  | cons c t => exact runN_stop (h c t rfl)
theorem runN_dig {f n d : Nat} {r : List UInt8} (hd : d < 10) : runN (f + 1) (UInt8.ofNat (48 + d) :: r) n = ((runN f r (10 * n + d)).1 + 1, (runN f r (10 * n + d)).2) := by
  have : (UInt8.ofNat (48 + d)).toNat = 48 + d := toNat_of (by omega)
  rw [runN, if_pos (by rw [this]; omega), this, show 48 + d - 48 = d by omega]
theorem runN_of {n : Nat} {r : List UInt8} (hn : n < 256) (hr : noDig r) : runN 4 (Lib.decDigits n ++ r) 0 = ((Lib.decDigits n).length, n) := by
  by_cases h1 : n < 10
  · rw [Lib.decDigits_one h1]
    simp only [List.cons_append, List.nil_append]
    rw [runN_dig h1, runN_no hr]
    simp
  · by_cases h2 : n < 100
    · rw [Lib.decDigits_two h1 h2]
      simp only [List.cons_append, List.nil_append]
      rw [runN_dig (by omega), runN_dig (by omega), runN_no hr]
      simp; omega
    · rw [dig3 (by omega) (by omega)]
      simp only [List.cons_append, List.nil_append]
      rw [runN_dig (by omega), runN_dig (by omega), runN_dig (by omega), runN_no hr]
      simp; omega
theorem ofNat_ne48 {d : Nat} (h0 : 0 < d) (h : d < 10) : (UInt8.ofNat (48 + d) != 48) = true := by
  rw [u8_ne48, toNat_of (by omega)]
  simp; omega
theorem okN_ofD {n : Nat} {r : List UInt8} (hn : n < 256) (hr : noDig r) : okN (Lib.decDigits n ++ r) = true := by
  rw [okN_of (runN_of hn hr)]
  by_cases h1 : n < 10
  · rw [Lib.decDigits_one h1]; simp; omega
  · by_cases h2 : n < 100
    · rw [Lib.decDigits_two h1 h2]
      have := ofNat_ne48 (d := n / 10) (by omega) (by omega)
      simp only [List.cons_append, List.headD_cons, this]
      simp; omega
    · rw [dig3 (by omega) (by omega)]
      have := ofNat_ne48 (d := n / 100) (by omega) (by omega)
      simp only [List.cons_append, List.headD_cons, this]
      simp; omega
theorem runN_cons {f n : Nat} {c : UInt8} {r : List UInt8} : runN (f + 1) (c :: r) n = if 48 ≤ c.toNat ∧ c.toNat ≤ 57 then ((runN f r (10 * n + (c.toNat - 48))).1 + 1, (runN f r (10 * n + (c.toNat - 48))).2) else (0, n) := rfl
/-- What is taken as a number is the number's text. -/
theorem okN_text {l : List UInt8} (h : okN l = true) : l.take (runN 4 l 0).1 = Lib.decDigits (runN 4 l 0).2 := by
  unfold okN at h
  simp only [Bool.and_eq_true, Bool.or_eq_true, decide_eq_true_eq, bne_iff_ne, ne_eq] at h
  obtain ⟨h0, h256, hh⟩ := h
  cases l with
  | nil => simp [runN] at h0
  | cons a r =>
    rw [List.headD_cons, u8_48] at hh
    rw [runN_cons] at h0 h256 hh ⊢
    by_cases ha : 48 ≤ a.toNat ∧ a.toNat ≤ 57
    · rw [if_pos ha] at h0 h256 hh ⊢
      cases r with
      | nil =>
        simp only [runN_nil] at h0 h256 hh ⊢
        rw [Lib.decDigits_one (by omega)]
        simp only [List.take_succ_cons, List.take_zero, Nat.zero_add, Nat.add_zero]
        refine cons_eq (ofNat_eq (by omega)).symm ?_
        rfl
      | cons b r =>
        rw [runN_cons] at h0 h256 hh ⊢
        by_cases hb : 48 ≤ b.toNat ∧ b.toNat ≤ 57
        · rw [if_pos hb] at h0 h256 hh ⊢
          cases r with
          | nil =>
            simp only [runN_nil] at h0 h256 hh ⊢
            rw [Lib.decDigits_two (by omega) (by omega)]
            simp only [List.take_succ_cons, List.take_zero, Nat.zero_add, Nat.add_zero]
            refine cons_eq (ofNat_eq (by omega)).symm ?_
            refine cons_eq (ofNat_eq (by omega)).symm ?_
            rfl
          | cons c r =>
            rw [runN_cons] at h0 h256 hh ⊢
            by_cases hc : 48 ≤ c.toNat ∧ c.toNat ≤ 57
            · rw [if_pos hc] at h0 h256 hh ⊢
              cases r with
              | nil =>
                simp only [runN_nil] at h0 h256 hh ⊢
                rw [dig3 (by omega) (by omega)]
                simp only [List.take_succ_cons, List.take_zero, Nat.zero_add, Nat.add_zero]
                refine cons_eq (ofNat_eq (by omega)).symm ?_
                refine cons_eq (ofNat_eq (by omega)).symm ?_
                refine cons_eq (ofNat_eq (by omega)).symm ?_
                rfl
              | cons d r =>
                rw [runN_cons] at h0 h256 hh ⊢
                by_cases hd : 48 ≤ d.toNat ∧ d.toNat ≤ 57
                · rw [if_pos hd] at h0 h256 hh
                  simp only [runN] at h0 h256 hh
                  omega
                · rw [if_neg hd] at h0 h256 hh ⊢
                  simp only at h0 h256 hh ⊢
                  rw [dig3 (by omega) (by omega)]
                  simp only [List.take_succ_cons, List.take_zero, Nat.zero_add, Nat.add_zero]
                  refine cons_eq (ofNat_eq (by omega)).symm ?_
                  refine cons_eq (ofNat_eq (by omega)).symm ?_
                  refine cons_eq (ofNat_eq (by omega)).symm ?_
                  rfl
            · rw [if_neg hc] at h0 h256 hh ⊢
              simp only at h0 h256 hh ⊢
              rw [Lib.decDigits_two (by omega) (by omega)]
              simp only [List.take_succ_cons, List.take_zero, Nat.zero_add, Nat.add_zero]
              refine cons_eq (ofNat_eq (by omega)).symm ?_
              refine cons_eq (ofNat_eq (by omega)).symm ?_
              rfl
        · rw [if_neg hb] at h0 h256 hh ⊢
          simp only at h0 h256 hh ⊢
          rw [Lib.decDigits_one (by omega)]
          simp only [List.take_succ_cons, List.take_zero, Nat.zero_add, Nat.add_zero]
          refine cons_eq (ofNat_eq (by omega)).symm ?_
          rfl
    · rw [if_neg ha] at h0
      simp at h0
theorem dig_mem {n : Nat} (hn : n < 256) : ∀ c ∈ Lib.decDigits n, 48 ≤ c.toNat ∧ c.toNat ≤ 57 := by
  intro c hc
  by_cases h1 : n < 10
  · rw [Lib.decDigits_one h1] at hc
    simp only [List.mem_cons, List.not_mem_nil, or_false] at hc
    subst hc
    rw [toNat_of (by omega)]; omega
  · by_cases h2 : n < 100
    · rw [Lib.decDigits_two h1 h2] at hc
      simp only [List.mem_cons, List.not_mem_nil, or_false] at hc
      rcases hc with rfl | rfl <;> (rw [toNat_of (by omega)]; omega)
    · rw [dig3 (by omega) (by omega)] at hc
      simp only [List.mem_cons, List.not_mem_nil, or_false] at hc
      rcases hc with rfl | rfl | rfl <;> (rw [toNat_of (by omega)]; omega)
theorem noDig_nil : noDig [] := fun c t h => by cases h
theorem noDig_cons {c : UInt8} {t : List UInt8} (h : ¬ (48 ≤ c.toNat ∧ c.toNat ≤ 57)) : noDig (c :: t) := fun c' t' e => by injection e with e1 _; subst e1; exact h

/-! The program's address. -/
theorem adP_0 {n acc : Nat} (hn : n < 256) : adP 0 (Lib.decDigits n) acc = some (acc * 256 + n) := by
  have h1 := runN_of hn noDig_nil
  have h2 := okN_ofD hn noDig_nil
  rw [List.append_nil] at h1 h2
  rw [adP_end h2 (by rw [h1]; simp), h1]
theorem adP_S {k n acc : Nat} {r : List UInt8} (hn : n < 256) : adP (k + 1) (Lib.decDigits n ++ 46 :: r) acc = adP k r (acc * 256 + n) := by
  have hd : noDig (46 :: r) := noDig_cons (by decide)
  have h1 := runN_of hn hd
  have h2 := okN_ofD hn hd
  rw [adP_dot h2 (by rw [h1]; simp), h1]
  simp
theorem adP_0_inv {l : List UInt8} {acc a : Nat} (h : adP 0 l acc = some a) : ∃ n, n < 256 ∧ l = Lib.decDigits n ∧ a = acc * 256 + n := by
  unfold adP at h
  split at h
  · rename_i h1
    injection h with h
    refine ⟨_, okN_lt h1.1, ?_, h.symm⟩
    have := okN_text h1.1
    rw [← this]
    rw [List.drop_eq_nil_iff] at h1
    exact (List.take_of_length_le h1.2).symm
  · cases h
theorem adP_S_inv {k : Nat} {l : List UInt8} {acc a : Nat} (h : adP (k + 1) l acc = some a) : ∃ n r, n < 256 ∧ l = Lib.decDigits n ++ 46 :: r ∧ adP k r (acc * 256 + n) = some a := by
  unfold adP at h
  split at h
  · rename_i h1
    refine ⟨_, _, okN_lt h1.1, ?_, h⟩
    have h2 := okN_text h1.1
    rw [← h2]
    have h3 : l.drop (runN 4 l 0).1 = 46 :: l.drop ((runN 4 l 0).1 + 1) := by
      have h4 := h1.2
      cases hd : l.drop (runN 4 l 0).1 with
      | nil => rw [hd] at h4; cases h4
      | cons x t =>
        rw [hd] at h4
        injection h4 with h4
        subst h4
        rw [← List.drop_drop, hd]; rfl
    rw [← h3, List.take_append_drop]
  · cases h
theorem dotL_eq (a : Nat) : dotL a = Lib.decDigits (part a 0) ++ 46 :: (Lib.decDigits (part a 1) ++ 46 :: (Lib.decDigits (part a 2) ++ 46 :: Lib.decDigits (part a 3))) := by
  simp [dotL, dotTo]
theorem part_sum {a : Nat} (h : a < 4294967296) : (((0 * 256 + part a 0) * 256 + part a 1) * 256 + part a 2) * 256 + part a 3 = a := by
  unfold part
  simp only [Nat.mul_zero, Nat.sub_zero, Nat.reduceMul, Nat.reduceSub, Nat.reducePow, Nat.pow_zero, Nat.div_one]
  omega
theorem adP_dotL {a : Nat} (h : a < 4294967296) : adP 3 (dotL a) 0 = some a := by
  rw [dotL_eq, adP_S (part_lt _ _), adP_S (part_lt _ _), adP_S (part_lt _ _), adP_0 (part_lt _ _), part_sum h]
theorem part_of {n0 n1 n2 n3 : Nat} (h0 : n0 < 256) (h1 : n1 < 256) (h2 : n2 < 256) (h3 : n3 < 256) :
    part ((((0 * 256 + n0) * 256 + n1) * 256 + n2) * 256 + n3) 0 = n0 ∧ part ((((0 * 256 + n0) * 256 + n1) * 256 + n2) * 256 + n3) 1 = n1 ∧ part ((((0 * 256 + n0) * 256 + n1) * 256 + n2) * 256 + n3) 2 = n2 ∧ part ((((0 * 256 + n0) * 256 + n1) * 256 + n2) * 256 + n3) 3 = n3 := by
  unfold part
  simp only [Nat.mul_zero, Nat.sub_zero, Nat.reduceMul, Nat.reduceSub, Nat.reducePow, Nat.pow_zero, Nat.div_one]
  refine ⟨?_, ?_, ?_, ?_⟩ <;> omega
theorem adP_inv {l : List UInt8} {a : Nat} (h : adP 3 l 0 = some a) : l = dotL a := by
  obtain ⟨n0, r0, h0, rfl, k1⟩ := adP_S_inv h
  obtain ⟨n1, r1, h1, rfl, k2⟩ := adP_S_inv k1
  obtain ⟨n2, r2, h2, rfl, k3⟩ := adP_S_inv k2
  obtain ⟨n3, h3, rfl, rfl⟩ := adP_0_inv k3
  obtain ⟨p0, p1, p2, p3⟩ := part_of h0 h1 h2 h3
  rw [dotL_eq, p0, p1, p2, p3]

/-! The reference's. -/
theorem valR_app {f : Nat} : ∀ (d : List UInt8) (n : Nat), d.length ≤ f → (∀ c ∈ d, 48 ≤ c.toNat ∧ c.toNat ≤ 57) → valR d n = some (runN f d n).2 := by
  intro d
  induction d generalizing f with
  | nil => intro n _ _; rw [runN_nil]; rfl
  | cons c r ih =>
    intro n hf hc
    cases f with
    | zero => simp at hf
    | succ f =>
      have h1 := hc c (by simp)
      rw [valR, if_pos h1, runN_cons, if_pos h1]
      exact ih _ (by simpa using hf) (fun x hx => hc x (by simp [hx]))
theorem valR_dig {n : Nat} (hn : n < 256) : valR (Lib.decDigits n) 0 = some n := by
  have h1 := runN_of hn noDig_nil
  rw [List.append_nil] at h1
  rw [valR_app (f := 4) _ _ (by have := (dig_len hn).2; omega) (dig_mem hn), h1]
theorem numR_dig {n most : Nat} (hn : n ≤ most) (hm : most < 256) : numR (Lib.decDigits n) most = (n, true) := by
  have hl := dig_len (by omega : n < 256)
  have hk := okN_ofD (by omega : n < 256) noDig_nil
  have hr := runN_of (by omega : n < 256) noDig_nil
  rw [List.append_nil] at hk hr
  rw [okN_of hr] at hk
  simp only [Bool.and_eq_true, Bool.or_eq_true, decide_eq_true_eq, bne_iff_ne, ne_eq] at hk
  unfold numR
  rw [if_neg, valR_dig (by omega)]
  · simp [hn]
  · rintro (h | h | ⟨h1, h2⟩)
    · omega
    · omega
    · rcases hk.2.2 with h3 | h3
      · omega
      · exact h3 h2
theorem valR_all : ∀ (l : List UInt8) (n a : Nat), valR l n = some a → ∀ c ∈ l, 48 ≤ c.toNat ∧ c.toNat ≤ 57 := by
  intro l
  induction l with
  | nil => intro n a _ c hc; simp at hc
  | cons x r ih =>
    intro n a h c hc
    unfold valR at h
    split at h
    · simp only [List.mem_cons] at hc
      rcases hc with rfl | hc
      · assumption
      · exact ih _ _ h c hc
    · cases h
theorem runN_all : ∀ (l : List UInt8) (f n : Nat), l.length ≤ f → (∀ c ∈ l, 48 ≤ c.toNat ∧ c.toNat ≤ 57) → (runN f l n).1 = l.length := by
  intro l
  induction l with
  | nil => intro f n _ _; rw [runN_nil]; rfl
  | cons c r ih =>
    intro f n hf hc
    cases f with
    | zero => simp at hf
    | succ f =>
      rw [runN_cons, if_pos (hc c (by simp))]
      simp only [List.length_cons]
      rw [ih f _ (by simpa using hf) (fun x hx => hc x (by simp [hx]))]
theorem numR_inv {l : List UInt8} {most : Nat} (hm : most < 256) (h : (numR l most).2 = true) : l = Lib.decDigits (numR l most).1 := by
  unfold numR at h ⊢
  split at h
  · cases h
  · rename_i h1
    rw [if_neg h1]
    split at h
    · cases h
    · rename_i n hv
      simp only [decide_eq_true_eq] at h ⊢
      have hall := valR_all _ _ _ hv
      have hlen : l.length ≤ 4 := by omega
      have hc := runN_all l 4 0 hlen hall
      have h2 := valR_app (f := 4) l 0 hlen hall
      rw [hv] at h2
      injection h2 with h2
      have hok : okN l = true := by
        unfold okN
        rw [hc, ← h2]
        simp only [Bool.and_eq_true, Bool.or_eq_true, decide_eq_true_eq, bne_iff_ne, ne_eq]
        refine ⟨by omega, by omega, ?_⟩
        by_cases hl1 : l.length = 1
        · exact .inl hl1
        · exact .inr fun e => h1 (.inr (.inr ⟨by omega, e⟩))
      have := okN_text hok
      rw [hc, ← h2, List.take_length] at this
      exact this
/-- Words with a byte between them. -/
def joinL (c : UInt8) : List (List UInt8) → List UInt8
  | [] => []
  | [x] => x
  | x :: y :: r => x ++ c :: joinL c (y :: r)
theorem joinL_cons {c : UInt8} {x : List UInt8} {ws : List (List UInt8)} (h : ws ≠ []) : joinL c (x :: ws) = x ++ c :: joinL c ws := by
  cases ws with
  | nil => exact absurd rfl h
  | cons y r => rfl
theorem join_split (c : UInt8) : ∀ l, joinL c (splitL c l) = l ∧ ∀ x ∈ splitL c l, c ∉ x := by
  intro l
  induction l with
  | nil => simp [splitL, joinL]
  | cons y r ih =>
    unfold splitL
    split
    · rename_i he
      subst he
      refine ⟨?_, ?_⟩
      · rw [joinL_cons (splitL_ne _ _), ih.1]; rfl
      · intro x hx
        simp only [List.mem_cons] at hx
        rcases hx with rfl | hx
        · simp
        · exact ih.2 x hx
    · rename_i hne
      split
      · rename_i hs; exact absurd hs (splitL_ne _ _)
      · rename_i w ws hs
        rw [hs] at ih
        refine ⟨?_, ?_⟩
        · cases ws with
          | nil => simp only [joinL] at ih ⊢; rw [ih.1]
          | cons w2 r2 =>
            have := ih.1
            rw [joinL_cons (by simp)] at this ⊢
            rw [List.cons_append, this]
        · intro x hx
          simp only [List.mem_cons] at hx
          rcases hx with rfl | hx
          · intro hc
            simp only [List.mem_cons] at hc
            rcases hc with rfl | hc
            · exact hne rfl
            · exact ih.2 w (by simp) hc
          · exact ih.2 x (by simp [hx])
theorem split_app {c : UInt8} : ∀ (x l : List UInt8), c ∉ x → splitL c (x ++ c :: l) = x :: splitL c l := by
  intro x
  induction x with
  | nil => intro l _; simp [splitL]
  | cons y r ih =>
    intro l h
    have h1 : y ≠ c := fun e => h (by simp [e])
    have h2 : c ∉ r := fun e => h (by simp [e])
    rw [List.cons_append, splitL, if_neg h1, ih l h2]
theorem split_none {c : UInt8} : ∀ (x : List UInt8), c ∉ x → splitL c x = [x] := by
  intro x
  induction x with
  | nil => intro _; rfl
  | cons y r ih =>
    intro h
    have h1 : y ≠ c := fun e => h (by simp [e])
    have h2 : c ∉ r := fun e => h (by simp [e])
    rw [splitL, if_neg h1, ih h2]
theorem dig_no {n : Nat} (hn : n < 256) {c : UInt8} (hc : ¬ (48 ≤ c.toNat ∧ c.toNat ≤ 57)) : c ∉ Lib.decDigits n := fun h => hc (dig_mem hn c h)
theorem adR_dotL {a : Nat} (h : a < 4294967296) : adR (dotL a) = some a := by
  have e : splitL 46 (dotL a) = [Lib.decDigits (part a 0), Lib.decDigits (part a 1), Lib.decDigits (part a 2), Lib.decDigits (part a 3)] := by
    rw [dotL_eq, split_app _ _ (dig_no (part_lt _ _) (by decide)), split_app _ _ (dig_no (part_lt _ _) (by decide)), split_app _ _ (dig_no (part_lt _ _) (by decide)), split_none _ (dig_no (part_lt _ _) (by decide))]
  have hp := fun k => numR_dig (most := 255) (Nat.le_of_lt_succ (part_lt a k)) (by decide)
  unfold adR
  rw [e, if_pos (by simp)]
  simp only [adF, hp]
  simp only [if_true]
  have := part_sum h
  congr 1
  omega
theorem adR_inv {l : List UInt8} {a : Nat} (h : adR l = some a) : l = dotL a := by
  unfold adR at h
  split at h
  · rename_i h4
    have hj := (join_split 46 l).1
    match hs : splitL 46 l, h4 with
    | [x0, x1, x2, x3], _ =>
      rw [hs] at h hj
      simp only [joinL] at hj
      unfold adF at h; split at h
      · rename_i g0
        unfold adF at h; split at h
        · rename_i g1
          unfold adF at h; split at h
          · rename_i g2
            unfold adF at h; split at h
            · rename_i g3
              simp only [adF, Option.some.injEq] at h
              have e0 := numR_inv (by decide) g0
              have e1 := numR_inv (by decide) g1
              have e2 := numR_inv (by decide) g2
              have e3 := numR_inv (by decide) g3
              have b0 := numR_lt g0
              have b1 := numR_lt g1
              have b2 := numR_lt g2
              have b3 := numR_lt g3
              generalize (numR x0 255).1 = n0 at *
              generalize (numR x1 255).1 = n1 at *
              generalize (numR x2 255).1 = n2 at *
              generalize (numR x3 255).1 = n3 at *
              have ha : a = (((0 * 256 + n0) * 256 + n1) * 256 + n2) * 256 + n3 := by omega
              obtain ⟨p0, p1, p2, p3⟩ := part_of (n0 := n0) (n1 := n1) (n2 := n2) (n3 := n3) (by omega) (by omega) (by omega) (by omega)
              rw [← ha] at p0 p1 p2 p3
              rw [dotL_eq, p0, p1, p2, p3, ← e0, ← e1, ← e2, ← e3, hj]
            · cases h
          · cases h
        · cases h
      · cases h
  · cases h
/-- Both read the same addresses. -/
theorem adP_adR (l : List UInt8) : adP 3 l 0 = adR l := by
  cases h : adP 3 l 0 with
  | some a =>
    have e := adP_inv h
    have hlt := adP_lt h
    rw [e, adR_dotL hlt]
  | none =>
    cases h2 : adR l with
    | none => rfl
    | some a =>
      have e := adR_inv h2
      have hlt := adR_lt h2
      rw [e, adP_dotL hlt] at h
      cases h
end Go.Proofs.YtljmmpjcagchmaaDoor
