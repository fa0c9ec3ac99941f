/-
  slices.Clone of bytes, walked.
-/
import Derived.Test.YtkgdeneonobibaaBase2
import Derived.Lib.SliceRun
import Derived.Test.YtkgdeneonobibaaRef0
namespace Go.Proofs.Ytkgdeneonobibaa
set_option linter.unusedVariables false
open Go.RowKit

/-- Clone of bytes: a row of the call's own. -/
theorem clone_any (A : Option Addr) (n c : Nat) (xs : List Int) (w : World) (hx : Reads w w.heap.size 1 A n (u8s xs)) (hn : n ≤ 140737488355328) :
    Calls Try.prog 73 #[.slice A n c] w fun e w' => ∃ v, e = .returned v ∧ w'.ownsRow w.heap.size 5 1 v xs.length (u8s xs) ∧ Below w.heap.size w w' := by
  have hl := Lib.hid hx.u8len
  have hE := fun W : World => Lib.run_eql_slice_nil (P := Try.prog) W 32 5 A n c 0 0 Try.underlying32
  rcases A with _ | ad
  · have h0 : n = 0 := by
      rcases Nat.eq_zero_or_pos n with h | h
      · exact h
      · obtain ⟨ad, h, _⟩ := hx.2 h
        cases h
    subst h0
    clear hx
    simp only [Option.isNone_none] at hE
    go_enter Try.func73, Try.ntmps73
    go_wp2
    go_ret
    refine ⟨_, rfl, ?_, Below.refl _ _⟩
    rw [hl.out, List.eq_nil_of_length_eq_zero hl.out]
    exact World.ownsRow_nil _ _ _ _
  · simp only [Option.isNone_some] at hE
    have HO : Hid ((w.alloc (.cells #[] 5)).ownsRow w.heap.size 5 1 (.slice (some ⟨w.heap.size, 0, none⟩) 0 0) 0 (u8s [])) := by
      refine ⟨rfl, .inr ⟨w.heap.size, 0, #[], rfl, Nat.le_refl _, heap_alloc_new w _, Nat.le_refl _, by simp [maxLen], rfl, rfl⟩⟩
    have HX := Lib.hid ((hx.alloc (Nat.le_refl _) (.cells #[] 5)))
    clear hx
    go_enter Try.func73, Try.ntmps73
    go_wp2_with (at_builtin; refine wpList_app el_u8 rfl (.tmp 5) (.tmp 6) rfl HO.out rfl HX.out rfl u8s_one (by simp only [maxLen]; omega) (by omega) (by rw [World.size_alloc]; omega) ?_; intro v1 w1 ho1 hb1 hg1 hat1)
    go_ret
    refine ⟨_, rfl, ?_, ((Below.refl _ _).alloc (Nat.le_refl _) _).trans hb1⟩
    rw [hl.out]
    have := ho1
    rw [Nat.zero_add] at this
    exact this

end Go.Proofs.Ytkgdeneonobibaa
