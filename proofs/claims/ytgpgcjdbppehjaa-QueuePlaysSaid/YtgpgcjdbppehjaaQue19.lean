/-
  The queue: Copy.
-/
import Derived.Test.YtgpgcjdbppehjaaQue17
import Derived.Lib.SliceRun
import Derived.Shelf.SlMaps.Clone
namespace Go.Proofs.Ytgpgcjdbppehjaa
set_option linter.unusedVariables false
open Go.RowKit

/-- Clone of entries: a row of the call's own. -/
theorem cloneE_any (A : Option Addr) (n c : Nat) (xs : List Value) (w : World) (hx : Reads w w.heap.size 3 A n xs) (h1 : ∀ u ∈ xs, u.oneCell' = true) (hn : n ≤ 1048576) :
    Calls Try.prog 37 #[.slice A n c] w fun e w' => ∃ v, e = .returned v ∧ w'.ownsRow w.heap.size 32 3 v n xs ∧ Below w.heap.size w w' := by
  have hE := fun W : World => Lib.run_eql_slice_nil (P := Try.prog) W 41 32 A n c 0 0 Try.underlying41
  rcases A with _ | ad
  · have h0 : n = 0 := by
      rcases Nat.eq_zero_or_pos n with h | h
      · exact h
      · obtain ⟨ad, h, _⟩ := hx.2 h
        cases h
    subst h0
    have hxs : xs = [] := List.eq_nil_of_length_eq_zero (by simpa using hx.1)
    subst hxs
    clear hx
    simp only [Option.isNone_none] at hE
    go_enter Try.func37, Try.ntmps37
    go_wp2
    go_ret
    exact ⟨_, rfl, World.ownsRow_nil _ _ _ _, Below.refl _ _⟩
  · simp only [Option.isNone_some] at hE
    have HO : Hid ((w.alloc (.cells #[] 32)).ownsRow w.heap.size 32 3 (.slice (some ⟨w.heap.size, 0, none⟩) 0 0) 0 []) := by
      refine ⟨rfl, .inr ⟨w.heap.size, 0, #[], rfl, Nat.le_refl _, heap_alloc_new w _, Nat.le_refl _, by simp [maxLen], rfl, rfl⟩⟩
    have HX := Lib.hid ((hx.alloc (Nat.le_refl _) (.cells #[] 32)))
    have H1 := Lib.hid h1
    clear hx h1
    go_enter Try.func37, Try.ntmps37
    go_wp2_with (at_builtin; refine wpList_app el_ent rfl (.tmp 5) (.tmp 6) rfl HO.out rfl HX.out rfl H1.out (by simp only [maxLen]; omega) (by omega) (by rw [World.size_alloc]; omega) ?_; intro v1 w1 ho1 hb1 hg1 hat1)
    go_ret
    refine ⟨_, rfl, ?_, ((Below.refl _ _).alloc (Nat.le_refl _) _).trans hb1⟩
    have := ho1
    rw [Nat.zero_add, List.nil_append] at this
    exact this
set_option maxRecDepth 100000 in
set_option maxHeartbeats 2000000 in
theorem cloneM_any (b n : Nat) (f : Int → Option Value) (w : World) (hm : MapF enc64 w b f n) :
    Calls Try.prog 38 #[.map (some b)] w fun e w' => e = .returned (.map (some w.heap.size)) ∧ MapF enc64 w' w.heap.size f n ∧ Below w.heap.size w w' := by
  obtain ⟨es, clock, L, h⟩ := hm
  have hq := fun w => run_eql_map_nil_sl (P := Try.prog) w 55 _ _ (some b) Try.underlying55
  have HM := Lib.hid h
  have hb := h.heap
  clear h
  go_enter Try.func38, Try.ntmps38
  go_wp2
  rw [run_callFunc_extern Try.func46 (by kernel_rfl) (by kernel_rfl) (by kernel_rfl) (e := Extern.MapsClone.clone) (by kernel_rfl), run_maps_clone_sl w 55 hb]
  simp only [Result.andThen]
  rw [Oper.upon_value]
  go_wp2
  rw [run_typeAssert_map_sl _ 55 20 _ _ _ Try.underlying55]
  simp only [Result.andThen]
  rw [Oper.upon_value]
  go_wp2
  go_ret
  exact ⟨rfl, ⟨es, clock, L, heap_alloc_new w _, HM.out.ents, HM.out.keys, HM.out.at_, HM.out.len, HM.out.born, HM.out.past⟩, (Below.refl _ _).alloc (Nat.le_refl _) _⟩
end Go.Proofs.Ytgpgcjdbppehjaa
