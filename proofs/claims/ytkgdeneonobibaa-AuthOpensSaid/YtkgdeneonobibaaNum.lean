/-
  The reference's number of bytes (up to four), as a plain function.
-/
import Derived.Test.YtkgdeneonobibaaBase2
namespace Go.Proofs.Ytkgdeneonobibaa
set_option linter.unusedVariables false
open Go.RowKit

/-- The number of bytes, the highest first. -/
def numB (xs : List Int) : Int := xs.foldl (fun v x => 256 * v + x) 0
theorem numB_snoc (xs : List Int) (x : Int) : numB (xs ++ [x]) = 256 * numB xs + x := by simp [numB, List.foldl_append]
theorem numB_bd (n : Nat) : ∀ {xs : List Int}, xs.length = n → Oct xs → 0 ≤ numB xs ∧ numB xs < 256 ^ n := by
  induction n with
  | zero => intro xs hl _; rw [List.eq_nil_of_length_eq_zero hl]; decide
  | succ n ih =>
    intro xs hl h
    obtain ⟨l, x, rfl⟩ : ∃ l x, xs = l ++ [x] := ⟨xs.take n, xs[n], by
      have := List.take_append_drop n xs
      rw [List.drop_eq_getElem_cons (by omega), List.drop_eq_nil_of_le (by omega)] at this
      exact this.symm⟩
    have hl' : l.length = n := by simpa using hl
    have h1 : Oct l := fun i y hy => h i y (by rw [List.getElem?_append_left (List.getElem?_eq_some_iff.1 hy).1]; exact hy)
    have h2 := h l.length x (by simp)
    obtain ⟨a, b⟩ := ih hl' h1
    rw [numB_snoc, Int.pow_succ]
    omega
theorem numB_le3 {xs : List Int} (h : Oct xs) (hl : xs.length ≤ 3) : 0 ≤ numB xs ∧ numB xs ≤ 16777215 := by
  obtain ⟨a, b⟩ := numB_bd _ rfl h
  rcases (by omega : xs.length = 0 ∨ xs.length = 1 ∨ xs.length = 2 ∨ xs.length = 3) with e | e | e | e <;> rw [e] at b <;> omega
theorem numB_le2 {xs : List Int} (h : Oct xs) (hl : xs.length ≤ 2) : 0 ≤ numB xs ∧ numB xs ≤ 65535 := by
  obtain ⟨a, b⟩ := numB_bd _ rfl h
  rcases (by omega : xs.length = 0 ∨ xs.length = 1 ∨ xs.length = 2) with e | e | e <;> rw [e] at b <;> omega
theorem numB_le4 {xs : List Int} (h : Oct xs) (hl : xs.length ≤ 4) : 0 ≤ numB xs ∧ numB xs ≤ 4294967295 := by
  obtain ⟨a, b⟩ := numB_bd _ rfl h
  rcases (by omega : xs.length = 0 ∨ xs.length = 1 ∨ xs.length = 2 ∨ xs.length = 3 ∨ xs.length = 4) with e | e | e | e | e <;> rw [e] at b <;> omega
theorem numB_two (a b : Int) : numB [a, b] = a * 256 + b := by simp [numB]; omega
theorem numB_four (a b c d : Int) : numB [a, b, c, d] = a * 16777216 + b * 65536 + c * 256 + d := by simp [numB]; omega
def NumRel (xs : List Int) (w : World) (n : Nat) (v i : Value) (wr : World) : Prop := ∃ k : Nat, i = .int .i64 k ∧ v = .int .u32 (numB (xs.take k)) ∧ k ≤ n ∧ wr = w
theorem numRel_next {xs : List Int} {w : World} {n k : Nat} {x : Int} (hx : Hid (xs[k]? = some x)) (hk : k < n) : NumRel xs w n (.int .u32 (256 * numB (xs.take k) + x)) (.int .i64 ((k : Int) + 1)) w :=
  ⟨k + 1, by simp, by rw [List.take_add_one, hx.out]; simp only [Option.toList_some]; rw [numB_snoc], by omega, rfl⟩
end Go.Proofs.Ytkgdeneonobibaa
