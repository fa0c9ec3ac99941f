/-
  What is written number by number is read so (no program in sight).
-/
import Derived.Test.YtlnkjmjddecjdaaOct3
namespace Go.Proofs.Ytlnkjmjddecjdaa
set_option linter.unusedVariables false

def szOf (z : Int) : Nat := 1 + (z % 4).toNat
def numOf (x z : Int) : Int := x / 2 ^ (8 * (4 - szOf z))
def encOf (x z : Int) : List Int := (four (numOf x z)).drop (4 - szOf z)
def outBytes (vs ss : List Int) (k : Nat) : List Int := ((vs.zip ss).take k).flatMap fun p => encOf p.1 p.2

theorem sz_cases (z : Int) : (z % 4 = 0 ∧ szOf z = 1) ∨ (z % 4 = 1 ∧ szOf z = 2) ∨ (z % 4 = 2 ∧ szOf z = 3) ∨ (z % 4 = 3 ∧ szOf z = 4) := by unfold szOf; omega
theorem enc_length (x z : Int) : (encOf x z).length = szOf z := by
  unfold encOf four
  rcases sz_cases z with ⟨_, h⟩ | ⟨_, h⟩ | ⟨_, h⟩ | ⟨_, h⟩ <;> rw [h] <;> rfl
theorem num_bound (x z : Int) (h0 : 0 ≤ x) (h1 : x ≤ 4294967295) : 0 ≤ numOf x z ∧ numOf x z ≤ 4294967295 := by
  unfold numOf
  rcases sz_cases z with ⟨_, h⟩ | ⟨_, h⟩ | ⟨_, h⟩ | ⟨_, h⟩ <;> rw [h] <;> simp <;> omega
theorem num_fits (x z : Int) (h0 : 0 ≤ x) (h1 : x ≤ 4294967295) : fitsB (numOf x z) (szOf z : Int) = true := by
  unfold numOf
  rcases sz_cases z with ⟨_, h⟩ | ⟨_, h⟩ | ⟨_, h⟩ | ⟨_, h⟩ <;> rw [h] <;> simp [fitsB] <;> omega
theorem be_enc (x z : Int) (h0 : 0 ≤ x) (h1 : x ≤ 4294967295) : be (encOf x z) = numOf x z := by
  have hb := num_bound x z h0 h1
  have hf := num_fits x z h0 h1
  unfold encOf
  generalize numOf x z = y at *
  rcases sz_cases z with ⟨_, h⟩ | ⟨_, h⟩ | ⟨_, h⟩ | ⟨_, h⟩ <;> rw [h] at hf ⊢ <;> simp [fitsB] at hf <;> simp [four, be] <;> omega
theorem out_succ {vs ss : List Int} {k : Nat} {x z : Int} (hx : vs[k]? = some x) (hz : ss[k]? = some z) : outBytes vs ss (k + 1) = outBytes vs ss k ++ encOf x z := by
  unfold outBytes
  have : (vs.zip ss)[k]? = some (x, z) := by simp [List.getElem?_zip_eq_some, hx, hz]
  rw [List.take_add_one, this]
  simp [List.flatMap_append]
theorem out_zero (vs ss : List Int) : outBytes vs ss 0 = [] := by simp [outBytes]
theorem out_length (vs ss : List Int) (k : Nat) : (outBytes vs ss k).length ≤ 4 * k := by
  unfold outBytes
  have : ∀ l : List (Int × Int), (l.flatMap fun p => encOf p.1 p.2).length ≤ 4 * l.length := by
    intro l
    induction l with
    | nil => simp
    | cons p l ih =>
      rw [List.flatMap_cons, List.length_append, List.length_cons, enc_length]
      have : szOf p.2 ≤ 4 := by unfold szOf; omega
      omega
  have h := this ((vs.zip ss).take k)
  rw [List.length_take] at h
  omega
theorem enc_oct (x z : Int) (h0 : 0 ≤ x) (h1 : x ≤ 4294967295) : Oct (encOf x z) := (four_oct _ (num_bound x z h0 h1).1 (num_bound x z h0 h1).2).drop _
theorem out_oct {vs ss : List Int} (hv : ∀ (i : Nat) (x : Int), vs[i]? = some x → 0 ≤ x ∧ x ≤ 4294967295) (k : Nat) : Oct (outBytes vs ss k) := by
  refine Oct.of_mem fun y hy => ?_
  unfold outBytes at hy
  simp only [List.mem_flatMap] at hy
  obtain ⟨p, hp, hy⟩ := hy
  have hp := List.mem_of_mem_take hp
  obtain ⟨a, b⟩ := p
  have ha := List.of_mem_zip hp
  obtain ⟨i, hi⟩ := List.getElem?_of_mem ha.1
  have := hv i a hi
  exact (enc_oct a b this.1 this.2).mem hy
theorem out_prefix (vs ss : List Int) (k : Nat) : ∃ r, outBytes vs ss (min vs.length ss.length) = outBytes vs ss k ++ r := by
  unfold outBytes
  refine ⟨((vs.zip ss).drop k).flatMap fun p => encOf p.1 p.2, ?_⟩
  rw [← List.flatMap_append, List.take_append_drop, List.take_of_length_le (by simp)]
/-- One number written. -/
theorem num_step {M x z : Int} {xs : List Int} (h0 : 0 ≤ x) (h1 : x ≤ 4294967295) (hM : (xs.length : Int) + 4 ≤ M) : (⟨M, 0, xs⟩ : Wr).num (numOf x z) (szOf z : Int) = ⟨M, 0, xs ++ encOf x z⟩ := by
  have hl := enc_length x z
  have h4 : szOf z ≤ 4 := by unfold szOf; omega
  have e : ((4 : Int) - (szOf z : Int)).toNat = 4 - szOf z := by omega
  unfold Wr.num
  rw [if_pos rfl, if_pos (num_fits x z h0 h1), e]
  show (⟨M, 0, xs⟩ : Wr).put (encOf x z) = _
  unfold Wr.put
  rw [if_pos rfl, if_neg (by rw [hl]; show ¬ (_ > M - (xs.length : Int)); omega)]
/-- One number read. -/
theorem read_step {x z : Int} {pre post : List Int} (h0 : 0 ≤ x) (h1 : x ≤ 4294967295) : (⟨pre ++ encOf x z ++ post, pre.length, 0⟩ : Rd).num (szOf z : Int) = (numOf x z, ⟨pre ++ encOf x z ++ post, (pre ++ encOf x z).length, 0⟩) := by
  have hl := enc_length x z
  have h4 : 1 ≤ szOf z ∧ szOf z ≤ 4 := by unfold szOf; omega
  have hnx : (⟨pre ++ encOf x z ++ post, pre.length, 0⟩ : Rd).next (szOf z : Int) = (some (encOf x z), ⟨pre ++ encOf x z ++ post, (pre ++ encOf x z).length, 0⟩) := by
    unfold Rd.next
    rw [if_pos rfl, if_neg (by omega), if_neg (by simp only [List.length_append, hl]; omega)]
    simp only [Int.toNat_natCast]
    rw [List.append_assoc, List.drop_left, List.take_left' hl, List.length_append, hl]
  unfold Rd.num
  rw [if_neg (by omega), hnx]
  simp only [beOf]
  rw [be_enc x z h0 h1]
end Go.Proofs.Ytlnkjmjddecjdaa
