/-
  The law QueueNone, walked.
-/
import Derived.Test.YtgpgcjdbppehjaaNeq
namespace Go.Proofs.Ytgpgcjdbppehjaa
set_option linter.unusedVariables false
open Go.RowKit

def NoQ (p : Value) (w : World) : Prop := ∀ W, Below w.heap.size w W → Calls Try.prog 22 #[p] W fun e w' => e = .returned (.bool true) ∧ W = w'
theorem NoQ.later {p : Value} {w w' : World} (h : NoQ p w) (hb : Below w.heap.size w w') : NoQ p w' := fun W hW => h W (hb.trans (hW.mono hb.size))
theorem noQ_nil (w : World) : NoQ (.pointer none) w := by
  intro W hW
  clear hW
  go_enter Try.func22, Try.ntmps22
  go_wp2
  go_ret
  exact ⟨rfl, rfl⟩
theorem noQ_zero (w : World) (g : Nat) (h : w.cell? ⟨g, 2, none⟩ = some (.int .i64 0)) : NoQ (.pointer (some ⟨g, 0, none⟩)) w := by
  intro W hW
  have h2 : W.cell? ⟨g, 2, none⟩ = some (.int .i64 0) := (hW.cell (cell_lt h)).trans h
  clear hW h
  go_enter Try.func22, Try.ntmps22
  go_wp2
  go_ret
  exact ⟨rfl, rfl⟩
theorem noPut (p : Value) (a r x : Int) (w : World) (hp : NoQ p w) : Calls Try.prog 10 #[p, .int .i64 a, .int .i64 r, .int .u64 x] w fun e w' => e = .returned (.bool false) ∧ w = w' := by
  have HP := Lib.hid (hp w (Below.refl _ _))
  clear hp
  go_enter Try.func10, Try.ntmps10
  go_wp2_with (go_at_call 22; refine HP.out.mono ?_; rintro e w' ⟨rfl, rfl⟩)
  go_ret
  exact ⟨rfl, rfl⟩
theorem noDrop (p : Value) (x : Int) (w : World) (hp : NoQ p w) : Calls Try.prog 14 #[p, .int .u64 x] w fun e w' => e = .returned (.bool false) ∧ w = w' := by
  have HP := Lib.hid (hp w (Below.refl _ _))
  clear hp
  go_enter Try.func14, Try.ntmps14
  go_wp2_with (go_at_call 22; refine HP.out.mono ?_; rintro e w' ⟨rfl, rfl⟩)
  go_ret
  exact ⟨rfl, rfl⟩
theorem noWhen (p : Value) (x : Int) (w : World) (hp : NoQ p w) : Calls Try.prog 21 #[p, .int .u64 x] w fun e w' => e = .returned (.tuple #[.int .i64 0, .bool false]) ∧ w = w' := by
  have HP := Lib.hid (hp w (Below.refl _ _))
  clear hp
  go_enter Try.func21, Try.ntmps21
  go_wp2_with (go_at_call 22; refine HP.out.mono ?_; rintro e w' ⟨rfl, rfl⟩)
  go_ret2
  exact ⟨rfl, rfl⟩
theorem noCopy (p : Value) (w : World) (hp : NoQ p w) : Calls Try.prog 20 #[p] w fun e w' => e = .returned (.pointer none) ∧ w = w' := by
  have HP := Lib.hid (hp w (Below.refl _ _))
  clear hp
  go_enter Try.func20, Try.ntmps20
  go_wp2_with (go_at_call 22; refine HP.out.mono ?_; rintro e w' ⟨rfl, rfl⟩)
  go_ret
  exact ⟨rfl, rfl⟩
theorem noLen (p : Value) (w : World) (hp : NoQ p w) : Calls Try.prog 13 #[p] w fun e w' => e = .returned (.int .i64 0) ∧ w = w' := by
  have HP := Lib.hid (hp w (Below.refl _ _))
  clear hp
  go_enter Try.func13, Try.ntmps13
  go_wp2_with (go_at_call 22; refine HP.out.mono ?_; rintro e w' ⟨rfl, rfl⟩)
  go_ret
  exact ⟨rfl, rfl⟩
theorem noAll (p : Value) (w : World) (hp : NoQ p w) : Calls Try.prog 15 #[p] w fun e w' => e = .returned (.slice none 0 0) ∧ w = w' := by
  have HP := Lib.hid (hp w (Below.refl _ _))
  clear hp
  go_enter Try.func15, Try.ntmps15
  go_wp2_with (go_at_call 22; refine HP.out.mono ?_; rintro e w' ⟨rfl, rfl⟩)
  go_ret
  exact ⟨rfl, rfl⟩
set_option maxRecDepth 100000 in
theorem noNext (p : Value) (w : World) (hp : NoQ p w) : Calls Try.prog 12 #[p] w fun e w' => e = .returned (.tuple #[zE.v, .bool false]) ∧ Below w.heap.size w w' := by
  have hb1 : Below w.heap.size w (w.alloc (.cells #[.int .i64 0, .int .i64 0, .int .u64 0] 32)) := (Below.refl _ _).alloc (Nat.le_refl _) _
  have HP := Lib.hid (hp _ hb1)
  have HZ := Lib.hid (Blk.new w 32 #[.int .i64 0, .int .i64 0, .int .u64 0])
  have HB := Lib.hid hb1
  clear hp hb1
  go_enter Try.func12, Try.ntmps12
  go_wp2_with (first
    | (go_at_call 22; refine HP.out.mono ?_; rintro e w' ⟨rfl, rfl⟩)
    | (refine wpList_store_row rfl 32 _ _ rfl w.heap.size #[.int .i64 0, .int .i64 0, .int .u64 0] rfl rfl 32 _ (heap_alloc_new w _) info_ent rfl (by simp [Value.oneCell']) ?_; rw [World.setRow_alloc_new]))
  exact bodyPost_ret (results_cell_row_tmp rfl _ _ w.heap.size 32 #[.int .i64 0, .int .i64 0, .int .u64 0] (0, 0) _ rfl HZ.out Try.underlying32 rfl info_ent) rfl ⟨rfl, HB.out⟩
set_option maxRecDepth 100000 in
theorem noTake (p : Value) (now : Int) (w : World) (hp : NoQ p w) :
    Calls Try.prog 11 #[p, .int .i64 now] w fun e w' => e = .returned (.tuple #[zE.v, .bool false]) ∧ Below w.heap.size w w' := by
  have hb1 : Below w.heap.size w (w.alloc (.cells #[.int .i64 0, .int .i64 0, .int .u64 0] 32)) := (Below.refl _ _).alloc (Nat.le_refl _) _
  have q1 := Lib.hid (hp.later hb1)
  have HZ := Lib.hid (Blk.new w 32 #[.int .i64 0, .int .i64 0, .int .u64 0])
  have HB1 := Lib.hid hb1
  clear hp hb1
  go_enter Try.func11, Try.ntmps11
  go_wp2_with fail
  refine (noNext p _ q1.out).mono ?_
  rintro e w2 ⟨rfl, hb⟩
  have HZ2 := Lib.hid (HZ.out.later hb)
  have HB2 := Lib.hid (below_then HB1.out hb)
  clear hb HZ HB1 q1
  have HZ3 := Lib.hid (HZ2.out.alloc (.cells #[.int .i64 0, .int .i64 0, .int .u64 0] 32))
  have HB3 : Hid (Below w.heap.size w (w2.alloc (.cells #[.int .i64 0, .int .i64 0, .int .u64 0] 32))) := Lib.hid (HB2.out.alloc HB2.out.size _)
  go_wp2_with (first
    | (refine wpList_store_row rfl 32 _ _ rfl w2.heap.size #[.int .i64 0, .int .i64 0, .int .u64 0] rfl rfl 32 _ (heap_alloc_new w2 _) info_ent rfl (by simp [Value.oneCell']) ?_; rw [World.setRow_alloc_new])
    | (refine wpList_store_row rfl 32 _ _ rfl w.heap.size #[.int .i64 0, .int .i64 0, .int .u64 0] rfl rfl 32 _ HZ3.out info_ent rfl (by simp [Value.oneCell']) ?_))
  refine bodyPost_ret (results_cell_row_tmp rfl _ _ w.heap.size 32 #[.int .i64 0, .int .i64 0, .int .u64 0] (0, 0) _ rfl (HZ3.out.setRow _) Try.underlying32 rfl info_ent) rfl ⟨rfl, ?_⟩
  exact below_setRow HB3.out (Nat.le_refl _) _
set_option maxRecDepth 100000 in
set_option maxHeartbeats 4000000 in
theorem queueNone_walk (a r x : Int) (w : World) : Calls Try.prog 7 #[.int .i64 a, .int .i64 r, .int .u64 x] w fun e w' => e = .returned (.bool true) ∧ Below w.heap.size w w' := by
  have hb1 : Below w.heap.size w (w.alloc (.cells #[.slice none 0 0, .map none, .int .i64 0] 59)) := (Below.refl _ _).alloc (Nat.le_refl _) _
  have Z1 := Lib.hid (noQ_zero (w.alloc (.cells #[.slice none 0 0, .map none, .int .i64 0] 59)) w.heap.size ((Blk.new _ _ _).cell 2))
  have B1 := Lib.hid hb1
  clear hb1
  go_enter Try.func7, Try.ntmps7
  go_wp2_with fail
  generalize w.alloc (.cells #[.slice none 0 0, .map none, .int .i64 0] 59) = w1 at *
  generalize hg : w.heap.size = g at *
  have HG := Lib.hid hg
  clear hg
  refine (noNext _ w1 (noQ_nil w1)).mono ?_
  rintro e w2 ⟨rfl, hb2⟩
  have hb3 : Below w2.heap.size w2 (w2.alloc (.cells #[.int .i64 0, .int .i64 0, .int .u64 0] 32)) := (Below.refl _ _).alloc (Nat.le_refl _) _
  have hb23 := below_then hb2 hb3
  have Z3 := Lib.hid (Z1.out.later hb23)
  have X3 := Lib.hid (Blk.new w2 32 #[.int .i64 0, .int .i64 0, .int .u64 0])
  have B3 : Hid (Below w1.heap.size w1 (w2.alloc (.cells #[.int .i64 0, .int .i64 0, .int .u64 0] 32))) := Lib.hid hb23
  clear hb2 hb3 hb23
  go_wp2_with fail
  generalize w2.alloc (.cells #[.int .i64 0, .int .i64 0, .int .u64 0] 32) = w3 at *
  generalize w2.heap.size = g9 at *
  refine (noTake _ a w3 Z3.out).mono ?_
  rintro e w4 ⟨rfl, hb4⟩
  have hb5 : Below w4.heap.size w4 (w4.alloc (.cells #[.int .i64 0, .int .i64 0, .int .u64 0] 32)) := (Below.refl _ _).alloc (Nat.le_refl _) _
  have hb45 := below_then hb4 hb5
  have Z5 := Lib.hid (Z3.out.later hb45)
  have X5 := Lib.hid (X3.out.later hb45)
  have Y5 := Lib.hid (Blk.new w4 32 #[.int .i64 0, .int .i64 0, .int .u64 0])
  have B5 := Lib.hid (below_then B3.out hb45)
  clear hb4 hb5 hb45
  go_wp2_with fail
  generalize w4.alloc (.cells #[.int .i64 0, .int .i64 0, .int .u64 0] 32) = w5 at *
  generalize w4.heap.size = g11 at *
  have x0 := X5.out.cell 0
  have x1 := X5.out.cell 1
  have x2 := X5.out.cell 2
  have y0 := Y5.out.cell 0
  have y1 := Y5.out.cell 1
  have y2 := Y5.out.cell 2
  simp at x0 x1 x2 y0 y1 y2
  refine (noWhen _ x w5 (noQ_nil w5)).mono ?_
  rintro e w' ⟨rfl, rfl⟩
  go_wp2_with fail
  refine (noWhen _ x w5 Z5.out).mono ?_
  rintro e w' ⟨rfl, rfl⟩
  go_wp2_with fail
  refine (noPut _ a r x w5 (noQ_nil w5)).mono ?_
  rintro e w' ⟨rfl, rfl⟩
  go_wp2_with fail
  refine (noPut _ a r x w5 Z5.out).mono ?_
  rintro e w' ⟨rfl, rfl⟩
  go_wp2_with fail
  refine (noDrop _ x w5 (noQ_nil w5)).mono ?_
  rintro e w' ⟨rfl, rfl⟩
  go_wp2_with fail
  refine (noDrop _ x w5 Z5.out).mono ?_
  rintro e w' ⟨rfl, rfl⟩
  go_wp2_with fail
  refine (noCopy _ w5 (noQ_nil w5)).mono ?_
  rintro e w' ⟨rfl, rfl⟩
  go_wp2_with fail
  refine (noCopy _ w5 Z5.out).mono ?_
  rintro e w' ⟨rfl, rfl⟩
  go_wp2_with fail
  refine (noLen _ w5 (noQ_nil w5)).mono ?_
  rintro e w' ⟨rfl, rfl⟩
  go_wp2_with fail
  refine (noLen _ w5 Z5.out).mono ?_
  rintro e w' ⟨rfl, rfl⟩
  go_wp2_with fail
  refine (noAll _ w5 (noQ_nil w5)).mono ?_
  rintro e w' ⟨rfl, rfl⟩
  go_wp2_with fail
  refine (noAll _ w5 Z5.out).mono ?_
  rintro e w' ⟨rfl, rfl⟩
  go_wp2_with fail
  refine (lives_any w5).mono ?_
  rintro e w6 ⟨rfl, hb6⟩
  have H6 := Lib.hid hb6
  clear hb6
  go_wp2_with fail
  go_ret
  have h1 := below_then B5.out H6.out
  exact ⟨rfl, by have h2 := B1.out; rw [← HG.out] at h2; exact below_then h2 h1⟩
set_option maxRecDepth 100000 in
theorem intv_arg {w : World} {r : Reach} {b : Nat} {v : Value} (h : Value.okWide Try.prog w r b 3 v) : ∃ n, v = .int .i64 n := Go.WideShapes.okWide_int Try.underlying3 h
set_option maxRecDepth 100000 in
theorem u64v_arg {w : World} {r : Reach} {b : Nat} {v : Value} (h : Value.okWide Try.prog w r b 27 v) : ∃ n, v = .int .u64 n := Go.WideShapes.okWide_int Try.underlying27 h
end Go.Proofs.Ytgpgcjdbppehjaa
