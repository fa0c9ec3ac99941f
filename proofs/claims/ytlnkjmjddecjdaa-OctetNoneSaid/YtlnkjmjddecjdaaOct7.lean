/-
  What no reader and no writer answer: a nil one, and one that was not made.
-/
import Derived.Test.YtlnkjmjddecjdaaOct5
namespace Go.Proofs.Ytlnkjmjddecjdaa
set_option linter.unusedVariables false
open Go.RowKit

/-- No reader, no writer: nil, or not made. -/
def Nil (w : World) (p : Option Addr) : Prop := p = none ∨ ∃ g, p = some ⟨g, 0, none⟩ ∧ w.cell? ⟨g, 3, none⟩ = some (.bool false)
theorem Nil.later {w w' : World} {p : Option Addr} (h : Nil w p) (hb : Below w.heap.size w w') : Nil w' p := by
  rcases h with rfl | ⟨g, rfl, hc⟩
  · exact .inl rfl
  · exact .inr ⟨g, rfl, (hb.cell (p := ⟨g, 3, none⟩) (cell_lt hc)).trans hc⟩

set_option maxHeartbeats 400000 in
theorem none_nil (w : World) (p : Option Addr) (h : Nil w p) :
    Calls Try.prog 23 #[.pointer p] w fun e w' => e = .returned (.bool true) ∧ w = w' := by
  rcases h with rfl | ⟨g, rfl, hc⟩
  all_goals
    go_enter Try.func23, Try.ntmps23
    go_wp2
    go_ret
    exact ⟨rfl, rfl⟩

set_option maxHeartbeats 400000 in
theorem next_nil (w : World) (p : Option Addr) (k : Int) (h : Nil w p) :
    Calls Try.prog 22 #[.pointer p, .int .i64 k] w fun e w' => e = .returned (.tuple #[.slice none 0 0, .bool false]) ∧ w = w' := by
  have HN := Lib.hid (none_nil w p h)
  clear h
  go_enter Try.func22, Try.ntmps22
  go_wp2_with (go_at_call 23; refine HN.out.mono ?_; rintro e w' ⟨rfl, rfl⟩)
  go_ret2
  exact ⟨rfl, rfl⟩

set_option maxHeartbeats 400000 in
theorem left_nil (w : World) (p : Option Addr) (h : Nil w p) :
    Calls Try.prog 12 #[.pointer p] w fun e w' => e = .returned (.int .i64 0) ∧ w = w' := by
  have HN := Lib.hid (none_nil w p h)
  clear h
  go_enter Try.func12, Try.ntmps12
  go_wp2_with (go_at_call 23; refine HN.out.mono ?_; rintro e w' ⟨rfl, rfl⟩)
  go_ret
  exact ⟨rfl, rfl⟩

set_option maxHeartbeats 400000 in
theorem at_nil (w : World) (p : Option Addr) (h : Nil w p) :
    Calls Try.prog 13 #[.pointer p] w fun e w' => e = .returned (.int .i64 0) ∧ w = w' := by
  have HN := Lib.hid (none_nil w p h)
  clear h
  go_enter Try.func13, Try.ntmps13
  go_wp2_with (go_at_call 23; refine HN.out.mono ?_; rintro e w' ⟨rfl, rfl⟩)
  go_ret
  exact ⟨rfl, rfl⟩

set_option maxHeartbeats 400000 in
theorem err_nil (w : World) (p : Option Addr) (h : Nil w p) :
    Calls Try.prog 11 #[.pointer p] w fun e w' => e = .returned (.int .i64 1) ∧ w = w' := by
  have HN := Lib.hid (none_nil w p h)
  clear h
  go_enter Try.func11, Try.ntmps11
  go_wp2_with (go_at_call 23; refine HN.out.mono ?_; rintro e w' ⟨rfl, rfl⟩)
  go_ret
  exact ⟨rfl, rfl⟩

set_option maxHeartbeats 400000 in
theorem rnum_nil (w : World) (p : Option Addr) (k : Int) (h : Nil w p) :
    Calls Try.prog 10 #[.pointer p, .int .i64 k] w fun e w' => e = .returned (.int .u32 0) ∧ w = w' := by
  have HN := Lib.hid (fun K : Int => next_nil w p K h)
  clear h
  have hc : k < 1 ∨ 4 < k ∨ (1 ≤ k ∧ k ≤ 4) := by omega
  rcases hc with hc | hc | ⟨hc, hc'⟩
  all_goals
    go_enter Try.func10, Try.ntmps10
    go_wp2_with (go_at_call 22; refine (HN.out _).mono ?_; rintro e w' ⟨rfl, rfl⟩)
    go_loop [7, 24] (fun v i => i = .int .i64 0 ∧ v = .int .u32 0) (fun _ i => 0)
    case atStart => exact ⟨rfl, rfl⟩
    case round =>
      obtain ⟨rfl, rfl⟩ := hrel
      go_wp2
      go_ret
      exact ⟨rfl, rfl⟩

theorem clone_nil (w : World) (c : Nat) : Calls Try.prog 21 #[.slice none 0 c] w fun e w' => e = .returned (.slice none 0 0) ∧ w = w' := by
  have hE := fun W : World => Lib.run_eql_slice_nil (P := Try.prog) W 23 5 none 0 c 0 0 Try.underlying23
  simp only [Option.isNone_none] at hE
  go_enter Try.func21, Try.ntmps21
  go_wp2
  go_ret
  exact ⟨rfl, rfl⟩
set_option maxHeartbeats 400000 in
theorem bytes_nil (w : World) (p : Option Addr) (k : Int) (h : Nil w p) :
    Calls Try.prog 16 #[.pointer p, .int .i64 k] w fun e w' => e = .returned (.slice none 0 0) ∧ w = w' := by
  have HN := Lib.hid (next_nil w p k h)
  clear h
  go_enter Try.func16, Try.ntmps16
  go_wp2_with (first | (go_at_call 22; refine HN.out.mono ?_; rintro e w' ⟨rfl, rfl⟩) | (go_at_call 21; refine (clone_nil _ _).mono ?_; rintro e w' ⟨rfl, rfl⟩))
  go_ret
  exact ⟨rfl, rfl⟩

theorem part_nil (w : World) (p : Option Addr) (k : Int) (h : Nil w p) :
    Calls Try.prog 14 #[.pointer p, .int .i64 k] w fun e w' => ∃ g, e = .returned (.pointer (some ⟨g, 0, none⟩)) ∧ Nil w' (some ⟨g, 0, none⟩) ∧ Below w.heap.size w w' := by
  have HN := Lib.hid (next_nil w p k h)
  have HO := Lib.hid (none_nil w p h)
  clear h
  go_enter Try.func14, Try.ntmps14
  go_wp2_with (first | (go_at_call 22; refine HN.out.mono ?_; rintro e w' ⟨rfl, rfl⟩) | (go_at_call 23; refine HO.out.mono ?_; rintro e w' ⟨rfl, rfl⟩))
  go_ret
  refine ⟨_, rfl, .inr ⟨_, rfl, ?_⟩, (Below.refl _ _).alloc (Nat.le_refl _) _⟩
  have := (Blk.new w 39 #[.slice none 0 0, .int .i64 0, .int .i64 0, .bool false]).cell 3
  exact this
set_option maxHeartbeats 400000 in
theorem whole_nil (w : World) (p : Option Addr) (h : Nil w p) :
    Calls Try.prog 19 #[.pointer p] w fun e w' => e = .returned (.bool false) ∧ w = w' := by
  rcases h with rfl | ⟨g, rfl, hc⟩
  all_goals
    go_enter Try.func19, Try.ntmps19
    go_wp2
    go_ret
    exact ⟨rfl, rfl⟩

set_option maxHeartbeats 400000 in
theorem num_nil (w : World) (p : Option Addr) (x k : Int) (h : Nil w p) :
    Calls Try.prog 7 #[.pointer p, .int .u32 x, .int .i64 k] w fun e w' => e = .returned (.pointer p) ∧ w = w' := by
  have HN := Lib.hid (whole_nil w p h)
  clear h
  go_enter Try.func7, Try.ntmps7
  go_wp2_with (go_at_call 19; refine HN.out.mono ?_; rintro e w' ⟨rfl, rfl⟩)
  go_ret
  exact ⟨rfl, rfl⟩

set_option maxHeartbeats 400000 in
theorem put_nil (w : World) (p : Option Addr) (A : Option Addr) (n c : Nat) (h : Nil w p) :
    Calls Try.prog 17 #[.pointer p, .slice A n c] w fun e w' => e = .returned (.pointer p) ∧ w = w' := by
  have HN := Lib.hid (whole_nil w p h)
  clear h
  go_enter Try.func17, Try.ntmps17
  go_wp2_with (go_at_call 19; refine HN.out.mono ?_; rintro e w' ⟨rfl, rfl⟩)
  go_ret
  exact ⟨rfl, rfl⟩

set_option maxHeartbeats 400000 in
theorem patch_nil (w : World) (p : Option Addr) (a x k : Int) (h : Nil w p) :
    Calls Try.prog 15 #[.pointer p, .int .i64 a, .int .u32 x, .int .i64 k] w fun e w' => e = .returned (.tuple #[]) ∧ w = w' := by
  have HN := Lib.hid (whole_nil w p h)
  clear h
  go_enter Try.func15, Try.ntmps15
  go_wp2_with (go_at_call 19; refine HN.out.mono ?_; rintro e w' ⟨rfl, rfl⟩)
  refine bodyPost_ret (results_none rfl _ _ _) rfl ?_
  exact ⟨rfl, rfl⟩

set_option maxHeartbeats 400000 in
theorem done_nil (w : World) (p : Option Addr) (h : Nil w p) :
    Calls Try.prog 8 #[.pointer p] w fun e w' => e = .returned (.tuple #[.slice none 0 0, .int .i64 1]) ∧ w = w' := by
  rcases h with rfl | ⟨g, rfl, hc⟩
  all_goals
    go_enter Try.func8, Try.ntmps8
    go_wp2
    go_ret2
    exact ⟨rfl, rfl⟩

set_option maxHeartbeats 400000 in
theorem wlen_nil (w : World) (p : Option Addr) (h : Nil w p) :
    Calls Try.prog 18 #[.pointer p] w fun e w' => e = .returned (.int .i64 0) ∧ w = w' := by
  rcases h with rfl | ⟨g, rfl, hc⟩
  all_goals
    go_enter Try.func18, Try.ntmps18
    go_wp2
    go_ret
    exact ⟨rfl, rfl⟩

end Go.Proofs.Ytlnkjmjddecjdaa
