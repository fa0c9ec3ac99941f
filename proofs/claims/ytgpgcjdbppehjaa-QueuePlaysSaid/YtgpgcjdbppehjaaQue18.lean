/-
  The order of entries as a comparison, and the rows' values handed on one by one.
-/
import Derived.Test.YtgpgcjdbppehjaaQue17
import Derived.Shelf.SlSortCmp.WholeK
namespace Go.Proofs.Ytgpgcjdbppehjaa
set_option linter.unusedVariables false
open Go.RowKit Go.Sort

instance : Inhabited Ent := ⟨⟨0, 0, 0⟩⟩
set_option maxRecDepth 100000 in
theorem less_grow (a b : Ent) (w : World) : Calls Try.prog 30 #[a.v, b.v] w fun e w' => e = .returned (.bool (lessE a b)) ∧ ∃ os, w' = grow w os := by
  by_cases h1 : a.at_ = b.at_
  · by_cases h2 : a.rank = b.rank
    · have d1 : (a.at_ != b.at_) = false := by simp [h1]
      have d2 : (a.rank != b.rank) = false := by simp [h2]
      have hl := Lib.hid (show lessE a b = decide (a.what < b.what) by unfold lessE; rw [if_neg (by simp [h1]), if_neg (by simp [h2])])
      clear h1 h2
      go_enter Try.func30, Try.ntmps30
      go_wp2
      go_ret
      exact ⟨by rw [hl.out]; rfl, _, by rw [alloc_eq_grow, alloc_eq_grow, grow_grow]⟩
    · have d1 : (a.at_ != b.at_) = false := by simp [h1]
      have d2 : (a.rank != b.rank) = true := by simp [h2]
      have hl := Lib.hid (show lessE a b = decide (a.rank < b.rank) by unfold lessE; rw [if_neg (by simp [h1]), if_pos h2])
      clear h1 h2
      go_enter Try.func30, Try.ntmps30
      go_wp2
      go_ret
      exact ⟨by rw [hl.out]; rfl, _, by rw [alloc_eq_grow, alloc_eq_grow, grow_grow]⟩
  · have d1 : (a.at_ != b.at_) = true := by simp [h1]
    have hl := Lib.hid (show lessE a b = decide (a.at_ < b.at_) by unfold lessE; rw [if_pos h1])
    clear h1
    go_enter Try.func30, Try.ntmps30
    go_wp2
    go_ret
    exact ⟨by rw [hl.out]; rfl, _, by rw [alloc_eq_grow, alloc_eq_grow, grow_grow]⟩
def cmpE (a b : Ent) : Int := if lessE a b then -1 else 1
set_option maxRecDepth 100000 in
theorem cmp_grow (a b : Ent) (w : World) : Calls Try.prog 29 #[a.v, b.v] w fun e w' => e = .returned (.int .i64 (cmpE a b)) ∧ ∃ q os, w' = grow (w.drewN q) os := by
  cases h : lessE a b
  all_goals
    have HL := Lib.hid h
    have HC : Hid (cmpE a b = if lessE a b then -1 else 1) := Lib.hid rfl
    rw [h] at HC
    clear h
    go_enter Try.func29, Try.ntmps29
    go_wp2_with (go_at_call 30; refine (less_grow a b _).mono ?_; rintro e w' ⟨rfl, os, rfl⟩; rw [HL.out])
    go_ret
    exact ⟨by rw [HC.out]; rfl, 0, _, by rw [alloc_eq_grow, alloc_eq_grow, grow_grow, grow_grow]; rfl⟩
theorem cmpLays_ent (blk off size : Nat) (w : World) : CmpLays Try.prog 29 #[] Ent.cells 3 cmpE blk off size w := fun _ _ _ _ x y => cmp_grow x y _
theorem ltOf_cmpE (a b : Ent) : ltOf cmpE a b = lessE a b := by
  unfold ltOf cmpE
  cases lessE a b <;> simp
end Go.Proofs.Ytgpgcjdbppehjaa
