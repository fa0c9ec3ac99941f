/-
  The chapter's lives, walked.
-/
import Derived.Test.YtgpgcjdbppehjaaQue11
namespace Go.Proofs.Ytgpgcjdbppehjaa
set_option linter.unusedVariables false
open Go.RowKit

@[reducible] def e7 : Ent := ⟨5, 0, 7⟩
@[reducible] def e6 : Ent := ⟨5, 0, 6⟩
theorem push7 : pushL [] e7 = [e7] := by unfold pushL; rw [upL]; rfl
theorem push6 : pushL [e7] e6 = [e6, e7] := by
  unfold pushL
  rw [upL, if_neg (by decide), if_pos (by decide), upL]
  rfl
theorem below_kept {w w1 w2 : World} {F : Nat → Prop} (h : Below w.heap.size w w1) (k : Kept F w1 w2) (hF : ∀ i, F i → w.heap.size ≤ i) : Below w.heap.size w w2 :=
  ((Kept.of_new h (fun i => w.heap.size ≤ i)).trans (k.mono (fun i _ hi => hF i hi)) (fun i _ h => h)).below (fun i h => h) (Nat.le_refl _)
theorem grew_ge {w w1 : World} {F F' : Nat → Prop} (h : ∀ i, F i → w.heap.size ≤ i) (hb : w.heap.size ≤ w1.heap.size) (g : Grew w1 F F') : ∀ i, F' i → w.heap.size ≤ i :=
  fun i hi => (g.2 i hi).elim (h i) (fun e => Nat.le_trans hb e)
set_option maxRecDepth 100000 in
set_option maxHeartbeats 4000000 in
theorem lives_any (w : World) : Calls Try.prog 8 #[] w fun e w' => e = .returned (.bool true) ∧ Below w.heap.size w w' := by
  go_enter Try.func8, Try.ntmps8
  go_wp2_with fail
  refine (qnew_any 2 w (by omega) (by omega)).mono ?_
  rintro e w1 ⟨g, bm, rfl, q1, hg, hbm, hb1⟩
  have H1 := Lib.hid (And.intro q1 (And.intro hg (And.intro hbm hb1)))
  have G1 : Hid (∀ i, (i = g ∨ i = bm) → w.heap.size ≤ i) := Lib.hid fun i h => by rcases h with rfl | rfl <;> assumption
  have B1 := Lib.hid hb1
  clear q1 hg hbm hb1
  go_wp2_with fail
  refine (put_new w1 _ g bm 2 [] H1.out.1 (by omega) 5 0 7 ⟨by decide, by decide, by decide⟩ rfl (by decide)).mono ?_
  rintro e w2 ⟨rfl, F2, q2, g2, k2⟩
  have H2 := Lib.hid (And.intro (show QF w2 F2 g bm 2 [e7] from push7 ▸ q2) (And.intro g2 k2))
  have G2 := Lib.hid (grew_ge G1.out B1.out.size g2)
  have B2 := Lib.hid (below_kept B1.out k2 G1.out)
  clear q2 g2 k2
  go_wp2_with fail
  refine (put_new w2 F2 g bm 2 [e7] H2.out.1 (by omega) 5 0 6 ⟨by decide, by decide, by decide⟩ (by decide) (by decide)).mono ?_
  rintro e w3 ⟨rfl, F3, q3, g3, k3⟩
  have H3 := Lib.hid (And.intro (show QF w3 F3 g bm 2 [e6, e7] from push6 ▸ q3) (And.intro g3 k3))
  have G3 := Lib.hid (grew_ge G2.out B2.out.size g3)
  have B3 := Lib.hid (below_kept B2.out k3 G2.out)
  clear q3 g3 k3
  go_wp2_with fail
  refine (put_full w3 F3 g bm 2 [e6, e7] H3.out.1 (by omega) 4 0 9 ⟨by decide, by decide, by decide⟩ (by decide) (by decide)).mono ?_
  rintro e w4 ⟨rfl, q4, k4⟩
  have H4 := Lib.hid (And.intro q4 k4)
  have B4 := Lib.hid (below_kept B3.out k4 G3.out)
  clear q4 k4
  go_wp2_with fail
  refine (next_some w4 F3 g bm 2 [e6, e7] H4.out.1 (by omega) e6 rfl).mono ?_
  rintro e w5 ⟨rfl, hb5⟩
  have H5 := Lib.hid (And.intro (H4.out.1.later hb5) hb5)
  have B5 := Lib.hid (below_then B4.out hb5)
  clear hb5
  have hb6 : Below w5.heap.size w5 (w5.alloc (.cells #[.int .i64 5, .int .i64 0, .int .u64 6] 32)) := (Below.refl _ _).alloc (Nat.le_refl _) _
  have H6 := Lib.hid (And.intro (H5.out.1.later hb6) (And.intro hb6 (Blk.new w5 32 #[.int .i64 5, .int .i64 0, .int .u64 6])))
  have B6 := Lib.hid (below_then B5.out hb6)
  clear hb6
  go_wp2_with (refine wpList_store_row rfl 32 _ _ rfl w5.heap.size #[.int .i64 5, .int .i64 0, .int .u64 6] rfl rfl 32 _ (heap_alloc_new w5 _) info_ent rfl (by simp [Value.oneCell']) ?_; rw [World.setRow_alloc_new])
  generalize w5.alloc (.cells #[.int .i64 5, .int .i64 0, .int .u64 6] 32) = w6 at *
  generalize w5.heap.size = gx at *
  refine (take_early w6 F3 g bm 2 4 [e6, e7] H6.out.1 (by omega) e6 rfl (by decide)).mono ?_
  rintro e w7 ⟨rfl, hb7⟩
  have hb8 : Below w7.heap.size w7 (w7.alloc (.cells #[.int .i64 0, .int .i64 0, .int .u64 0] 32)) := (Below.refl _ _).alloc (Nat.le_refl _) _
  have hb78 := below_then hb7 hb8
  have H8 := Lib.hid (And.intro (H6.out.1.later hb78) (And.intro hb78 (H6.out.2.2.later hb78)))
  have c0 := H8.out.2.2.cell 0
  have c1 := H8.out.2.2.cell 1
  have c2 := H8.out.2.2.cell 2
  simp at c0 c1 c2
  have B8 := Lib.hid (below_then B6.out hb78)
  clear hb7 hb8 hb78
  go_wp2_with (refine wpList_store_row rfl 32 _ _ rfl w7.heap.size #[.int .i64 0, .int .i64 0, .int .u64 0] rfl rfl 32 _ (heap_alloc_new w7 _) info_ent rfl (by simp [Value.oneCell']) ?_; rw [World.setRow_alloc_new])
  generalize w7.alloc (.cells #[.int .i64 0, .int .i64 0, .int .u64 0] 32) = w8 at *
  go_wp2_with (first
    | (go_at_call 13; refine (qlen_any w8 F3 g bm 2 _ H8.out.1 (by omega)).mono ?_; rintro e w' ⟨rfl, rfl⟩)
    | (go_at_call 9; refine (qnew_no 0 w8 (by omega)).mono ?_; rintro e w' ⟨rfl, rfl⟩))
  go_ret
  exact ⟨rfl, B8.out⟩
end Go.Proofs.Ytgpgcjdbppehjaa
