/-
  order.Keys as a comparison that a sort may take. Printed by gen_sk1.py.
-/
import Derived.Test.YtpncbggjngamgaaSkA
import Derived.Shelf.SlSortCmp.WholeK
namespace Go.Proofs.Ytpncbggjngamgaa
set_option linter.unusedVariables false
open Go.RowKit Go.Sort

theorem three_blks (w : World) (a b c : Obj) : let W := ((w.alloc a).alloc b).alloc c
    W.heap[w.heap.size]? = some a ∧ W.heap[w.heap.size + 1]? = some b ∧ W.heap[w.heap.size + 1 + 1]? = some c ∧ Below w.heap.size w W := by
  intro W
  have e1 : (w.alloc a).heap.size = w.heap.size + 1 := World.size_alloc _ _
  have e2 : ((w.alloc a).alloc b).heap.size = w.heap.size + 2 := by rw [World.size_alloc, e1]
  have keep : ∀ (v : World) (o : Obj) (i : Nat) (x : Obj), v.heap[i]? = some x → (v.alloc o).heap[i]? = some x := fun v o i x h => by
    have hi : i < v.heap.size := by
      rcases Nat.lt_or_ge i v.heap.size with h2 | h2
      · exact h2
      · rw [Array.getElem?_eq_none h2] at h; cases h
    exact (Below.heap_alloc v o i hi).trans h
  refine ⟨keep _ _ _ _ (keep _ _ _ _ (heap_alloc_new w a)), ?_, ?_, ?_⟩
  · exact keep _ _ _ _ (by have := heap_alloc_new (w.alloc a) b; rwa [e1] at this)
  · have := heap_alloc_new ((w.alloc a).alloc b) c; rwa [e2] at this
  · exact (((Below.refl _ _).alloc (Nat.le_refl _) _).alloc (by rw [World.size_alloc]; omega) _).alloc (by rw [e2]; omega) _
set_option maxRecDepth 100000 in
set_option maxHeartbeats 2000000 in
theorem keys_grow (a b : Ky3) (w : World) : Calls Try.prog 15 #[keyV a, keyV b] w fun e w' => e = .returned (.int .i64 (cmpK a b)) ∧ ∃ q os, w' = grow (w.drewN q) os := by
  by_cases hab : a = b
  · subst hab
    obtain ⟨a1, a2, a3⟩ := a
    have he : ∀ w, (Op.equalIn 10000 45 (.agg #[.int .u8 a1, .int .u32 a2, .int .u32 a3]) (.agg #[.int .u8 a1, .int .u32 a2, .int .u32 a3])).run Try.prog w = .ok true w := fun w => by
      have h := key_eq (a1, a2, a3) (a1, a2, a3) w
      rw [decide_eq_true rfl] at h
      exact h
    have HC : Hid (cmpK (a1, a2, a3) (a1, a2, a3) = 0) := cmpK_self _
    go_enter Try.func15, Try.ntmps15
    go_wp2
    go_ret
    exact ⟨by rw [HC.out]; rfl, 0, _, by rw [alloc_eq_grow, alloc_eq_grow, grow_grow]; rfl⟩
  · obtain ⟨a1, a2, a3⟩ := a
    obtain ⟨b1, b2, b3⟩ := b
    have he : ∀ w, (Op.equalIn 10000 45 (.agg #[.int .u8 a1, .int .u32 a2, .int .u32 a3]) (.agg #[.int .u8 b1, .int .u32 b2, .int .u32 b3])).run Try.prog w = .ok false w := fun w => by
      have h := key_eq (a1, a2, a3) (b1, b2, b3) w
      rw [decide_eq_false hab] at h
      exact h
    have H5 := three_blks w (.cells (keyC (a1, a2, a3)).toArray 45) (.cells (keyC (b1, b2, b3)).toArray 45) (.cells #[.func (.func 35) #[] #[.pointer (some ⟨w.heap.size, 0, none⟩), .pointer (some ⟨w.heap.size + 1, 0, none⟩)], .func (.func 37) #[] #[.pointer (some ⟨w.heap.size, 0, none⟩), .pointer (some ⟨w.heap.size + 1, 0, none⟩)], .func (.func 39) #[] #[.pointer (some ⟨w.heap.size, 0, none⟩), .pointer (some ⟨w.heap.size + 1, 0, none⟩)]] 42)
    have HF := Lib.hid (firstK_any _ (w.heap.size + 1 + 1) w.heap.size (w.heap.size + 1) (a1, a2, a3) (b1, b2, b3) H5.2.2.1 H5.1 H5.2.1)
    clear H5 hab
    go_enter Try.func15, Try.ntmps15
    go_wp2_with (go_at_call 34; refine HF.out.mono ?_; rintro e w' ⟨rfl, rfl⟩)
    go_ret
    exact ⟨rfl, 0, _, by rw [alloc_eq_grow, alloc_eq_grow, alloc_eq_grow, grow_grow, grow_grow]; rfl⟩
theorem cmpLays_key (blk off size : Nat) (w : World) : CmpLays Try.prog 15 #[] keyC 3 cmpK blk off size w := fun _ _ _ _ x y => keys_grow x y _
theorem ltOf_cmpK (a b : Ky3) : ltOf cmpK a b = ltK a b := by
  unfold ltOf
  exact cmpK_lt a b
theorem swo_cmpK : SWO (ltOf cmpK) := ⟨fun x => by rw [ltOf_cmpK]; exact ltK_irrefl x, fun x y z h k => by rw [ltOf_cmpK] at *; exact ltK_trans h k, fun x y z h k => by rw [ltOf_cmpK] at *; exact geK_trans h k⟩
end Go.Proofs.Ytpncbggjngamgaa
