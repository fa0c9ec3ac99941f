/-
  The law OctetNone, walked.
-/
import Derived.Test.YtlnkjmjddecjdaaOct7
namespace Go.Proofs.Ytlnkjmjddecjdaa
set_option linter.unusedVariables false
open Go.RowKit

theorem Nil.no (w : World) : Nil w none := .inl rfl

set_option maxRecDepth 100000 in
set_option maxHeartbeats 2000000 in
theorem octetNone_walk (n a v : Int) (w : World) :
    Calls Try.prog 4 #[.int .i64 n, .int .i64 a, .int .u32 v] w fun e w' => e = .returned (.bool true) ∧ Below w.heap.size w w' := by
  go_enter Try.func4, Try.ntmps4
  go_wp2_with fail
  have hz : Nil ((w.alloc (.cells #[.slice none 0 0, .int .i64 0, .int .i64 0, .bool false] 39)).alloc (.cells #[.slice none 0 0, .int .i64 0, .int .i64 0, .bool false] 41)) (some ⟨w.heap.size, 0, none⟩) := by
    refine .inr ⟨_, rfl, ?_⟩
    exact ((Blk.new w 39 #[.slice none 0 0, .int .i64 0, .int .i64 0, .bool false]).alloc _).cell 3
  have hy : Nil ((w.alloc (.cells #[.slice none 0 0, .int .i64 0, .int .i64 0, .bool false] 39)).alloc (.cells #[.slice none 0 0, .int .i64 0, .int .i64 0, .bool false] 41)) (some ⟨w.heap.size + 1, 0, none⟩) := by
    refine .inr ⟨_, rfl, ?_⟩
    have := (Blk.new (w.alloc (.cells #[.slice none 0 0, .int .i64 0, .int .i64 0, .bool false] 39)) 41 #[.slice none 0 0, .int .i64 0, .int .i64 0, .bool false]).cell 3
    rw [World.size_alloc] at this
    exact this
  have hb : Below w.heap.size w ((w.alloc (.cells #[.slice none 0 0, .int .i64 0, .int .i64 0, .bool false] 39)).alloc (.cells #[.slice none 0 0, .int .i64 0, .int .i64 0, .bool false] 41)) := ((Below.refl _ _).alloc (Nat.le_refl _) _).alloc (by rw [World.size_alloc]; omega) _
  generalize (w.alloc (.cells #[.slice none 0 0, .int .i64 0, .int .i64 0, .bool false] 39)).alloc (.cells #[.slice none 0 0, .int .i64 0, .int .i64 0, .bool false] 41) = w1 at *
  refine (part_nil w1 none n (.inl rfl)).mono ?_
  rintro e w2 ⟨gp, rfl, hp, hb2⟩
  have HZ := Lib.hid (hz.later hb2)
  have HY := Lib.hid (hy.later hb2)
  have HP := Lib.hid hp
  have HB := Lib.hid (below_then hb hb2)
  clear hz hy hb hp hb2
  go_wp2_with (first
    | (go_at_call 8; ((with_reducible refine (done_nil _ none (Nil.no _)).mono ?_); rintro e w' ⟨rfl, rfl⟩))
    | (go_at_call 8; ((with_reducible refine (done_nil _ (some _) HY.out).mono ?_); rintro e w' ⟨rfl, rfl⟩))
    | (go_at_call 15; ((with_reducible refine (patch_nil _ none _ _ _ (Nil.no _)).mono ?_); rintro e w' ⟨rfl, rfl⟩))
    | (go_at_call 15; ((with_reducible refine (patch_nil _ (some _) _ _ _ HY.out).mono ?_); rintro e w' ⟨rfl, rfl⟩))
    | (go_at_call 10; ((with_reducible refine (rnum_nil _ none _ (Nil.no _)).mono ?_); rintro e w' ⟨rfl, rfl⟩))
    | (go_at_call 10; ((with_reducible refine (rnum_nil _ (some _) _ HZ.out).mono ?_); rintro e w' ⟨rfl, rfl⟩))
    | (go_at_call 16; ((with_reducible refine (bytes_nil _ none _ (Nil.no _)).mono ?_); rintro e w' ⟨rfl, rfl⟩))
    | (go_at_call 16; ((with_reducible refine (bytes_nil _ (some _) _ HZ.out).mono ?_); rintro e w' ⟨rfl, rfl⟩))
    | (go_at_call 12; ((with_reducible refine (left_nil _ none (Nil.no _)).mono ?_); rintro e w' ⟨rfl, rfl⟩))
    | (go_at_call 12; ((with_reducible refine (left_nil _ (some _) HZ.out).mono ?_); rintro e w' ⟨rfl, rfl⟩))
    | (go_at_call 13; ((with_reducible refine (at_nil _ none (Nil.no _)).mono ?_); rintro e w' ⟨rfl, rfl⟩))
    | (go_at_call 13; ((with_reducible refine (at_nil _ (some _) HZ.out).mono ?_); rintro e w' ⟨rfl, rfl⟩))
    | (go_at_call 11; ((with_reducible refine (err_nil _ none (Nil.no _)).mono ?_); rintro e w' ⟨rfl, rfl⟩))
    | (go_at_call 11; ((with_reducible refine (err_nil _ (some _) HZ.out).mono ?_); rintro e w' ⟨rfl, rfl⟩))
    | (go_at_call 11; ((with_reducible refine (err_nil _ (some _) HP.out).mono ?_); rintro e w' ⟨rfl, rfl⟩))
    | (go_at_call 7; ((with_reducible refine (num_nil _ none _ _ (Nil.no _)).mono ?_); rintro e w' ⟨rfl, rfl⟩))
    | (go_at_call 17; ((with_reducible refine (put_nil _ none _ _ _ (Nil.no _)).mono ?_); rintro e w' ⟨rfl, rfl⟩)))
  have HB3 := Lib.hid ((Below.refl w2.heap.size w2).alloc (Nat.le_refl _) (.cells #[.int .u8 1] 5))
  have HY3 := Lib.hid (HY.out.later HB3.out)
  generalize w2.alloc (.cells #[.int .u8 1] 5) = w3 at *
  refine (wlen_nil _ none (Nil.no _)).mono ?_
  rintro e w' ⟨rfl, rfl⟩
  go_wp2_with fail
  refine (wlen_nil _ (some _) HY3.out).mono ?_
  rintro e w' ⟨rfl, rfl⟩
  go_wp2_with fail
  refine (lives_any _).mono ?_
  rintro e w4 ⟨rfl, hb4⟩
  go_wp2_with fail
  go_ret
  exact ⟨rfl, below_then (below_then HB.out HB3.out) hb4⟩
end Go.Proofs.Ytlnkjmjddecjdaa
