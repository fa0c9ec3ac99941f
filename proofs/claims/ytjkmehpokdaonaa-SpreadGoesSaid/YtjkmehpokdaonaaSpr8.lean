/-
  Goes, Out, Confirms of the program and of the reference, and the law's bit, walked.
-/
import Derived.Test.YtjkmehpokdaonaaSpr1
namespace Go.Proofs.Ytjkmehpokdaonaa
set_option linter.unusedVariables false
open Go.RowKit

/-- To whom it goes on, and is it there. -/
def goesOf (s : Int) (wants : Bool) (N : Int) (from_ : Bool) : Bool × Bool :=
  if s = 3 then (!from_, false) else if s = 1 ∨ s = 2 then (if wants then (decide (N < 0) && !from_, decide (N ≤ 0)) else (!from_, false)) else (false, false)
def outOf (shared backup came fc fb : Bool) : Bool := !came || (!(fc || fb) && !(shared && backup))
def confOf (v : Int) (back backup fc implied : Bool) : Int :=
  if v = 1 then 2
  else if v = 2 then (if back then 0 else if backup then (if fc then 1 else 0) else 1)
  else if v = 4 then (if implied then (if backup then (if fc then 1 else 0) else 0) else 2)
  else 0

theorem out_any (w : World) (a b c d e f : Bool) : Calls Try.prog 26 #[.bool a, .bool b, .bool c, .bool d, .bool e, .bool f] w fun x w' => x = .returned (.bool (outOf a c d e f)) ∧ w = w' := by
  cases a <;> cases c <;> cases d <;> cases e <;> cases f
  all_goals
    go_enter Try.func26, Try.ntmps26
    go_wp2
    go_ret
    exact ⟨rfl, rfl⟩
theorem refOut_any (w : World) (a b c d e f : Bool) : Calls Try.prog 27 #[.bool a, .bool b, .bool c, .bool d, .bool e, .bool f] w fun x w' => x = .returned (.bool (outOf a c d e f)) ∧ w = w' := by
  cases a <;> cases c <;> cases d <;> cases e <;> cases f
  all_goals
    go_enter Try.func27, Try.ntmps27
    go_wp2
    go_ret
    exact ⟨rfl, rfl⟩
theorem split4 (v : Int) : v = 1 ∨ v = 2 ∨ v = 4 ∨ (v ≠ 1 ∧ v ≠ 2 ∧ v ≠ 4) := by omega
theorem confirms_any (w : World) (v : Int) (a b c d : Bool) : Calls Try.prog 28 #[.int .u8 v, .bool a, .bool b, .bool c, .bool d] w fun x w' => x = .returned (.int .u8 (confOf v a b c d)) ∧ w = w' := by
  rcases split4 v with rfl | rfl | rfl | ⟨h1, h2, h4⟩
  rotate_right
  · have e1 : (v == 1) = false := by simpa using h1
    have e2 : (v == 2) = false := by simpa using h2
    have e4 : (v == 4) = false := by simpa using h4
    have hc : Hid (confOf v a b c d = 0) := by show _ = _; unfold confOf; simp [h1, h2, h4]
    clear h1 h2 h4
    cases c
    all_goals
      go_enter Try.func28, Try.ntmps28
      go_wp2
      go_ret
      exact ⟨by rw [hc.out]; rfl, rfl⟩
  all_goals
    cases a <;> cases b <;> cases c <;> cases d
    all_goals
      go_enter Try.func28, Try.ntmps28
      go_wp2
      go_ret
      exact ⟨rfl, rfl⟩
theorem refConfirms_any (w : World) (v : Int) (a b c d : Bool) : Calls Try.prog 29 #[.int .u8 v, .bool a, .bool b, .bool c, .bool d] w fun x w' => x = .returned (.int .u8 (confOf v a b c d)) ∧ w = w' := by
  rcases split4 v with rfl | rfl | rfl | ⟨h1, h2, h4⟩
  rotate_right
  · have e1 : (v == 1) = false := by simpa using h1
    have e2 : (v == 2) = false := by simpa using h2
    have e4 : (v == 4) = false := by simpa using h4
    have hc : Hid (confOf v a b c d = 0) := by show _ = _; unfold confOf; simp [h1, h2, h4]
    clear h1 h2 h4
    cases c
    all_goals
      go_enter Try.func29, Try.ntmps29
      go_wp2
      go_ret
      exact ⟨by rw [hc.out]; rfl, rfl⟩
  all_goals
    cases a <;> cases b <;> cases c <;> cases d
    all_goals
      go_enter Try.func29, Try.ntmps29
      go_wp2
      go_ret
      exact ⟨rfl, rfl⟩
theorem split3 (v : Int) : v = 1 ∨ v = 2 ∨ v = 3 ∨ (v ≠ 1 ∧ v ≠ 2 ∧ v ≠ 3) := by omega
set_option maxHeartbeats 1000000 in
theorem goes_any (a b : Hd) (s : Int) (wants fr : Bool) (w : World) (ha : a.ok) (hb : b.ok) :
    Calls Try.prog 23 #[.int .u8 s, .bool wants, a.v, b.v, .bool fr] w fun e w' =>
      e = .returned (.tuple #[.bool (goesOf s wants (newerOf a b) fr).1, .bool (goesOf s wants (newerOf a b) fr).2]) ∧ Below w.heap.size w w' := by
  have HN : Hid (∀ W : World, Calls Try.prog 30 #[a.v, b.v] W fun e w' => e = .returned (.int .i64 (newerOf a b)) ∧ Below W.heap.size W w') := fun W => newer_any a b W ha hb
  clear ha hb
  have H2 : Hid (Below w.heap.size w ((w.alloc (.cells #[.int .u16 a.age, .int .u8 a.opts, .int .u8 a.typ, .int .u32 a.id, .int .u32 a.adv, .int .i32 a.seq, .int .u16 a.sum, .int .u16 a.len] 25)).alloc (.cells #[.int .u16 b.age, .int .u8 b.opts, .int .u8 b.typ, .int .u32 b.id, .int .u32 b.adv, .int .i32 b.seq, .int .u16 b.sum, .int .u16 b.len] 25))) := ((Below.refl _ _).alloc (Nat.le_refl _) _).alloc (by rw [World.size_alloc]; omega) _
  generalize newerOf a b = N at *
  rcases split3 s with rfl | rfl | rfl | ⟨h1, h2, h3⟩
  rotate_right
  · have e1 : (s == 1) = false := by simpa using h1
    have e2 : (s == 2) = false := by simpa using h2
    have e3 : (s == 3) = false := by simpa using h3
    have hc : Hid (goesOf s wants N fr = (false, false)) := by show _ = _; unfold goesOf; simp [h1, h2, h3]
    clear h1 h2 h3
    go_enter Try.func23, Try.ntmps23
    go_wp2
    go_ret2
    exact ⟨by rw [hc.out]; rfl, H2.out⟩
  all_goals
    rcases (by omega : N < 0 ∧ N ≤ 0 ∨ ¬ N < 0 ∧ N ≤ 0 ∨ ¬ N < 0 ∧ ¬ N ≤ 0) with ⟨hn, hz⟩ | ⟨hn, hz⟩ | ⟨hn, hz⟩
    all_goals
      cases wants <;> cases fr
      all_goals
        go_enter Try.func23, Try.ntmps23
        go_wp2_with (go_at_call 30; refine (HN.out _).mono ?_; rintro e w1 ⟨rfl, hb⟩; have HB := Lib.hid (below_then H2.out hb); clear hb)
        go_ret2
        first
        | exact ⟨by simp [goesOf, hn, hz], H2.out⟩
        | exact ⟨by simp [goesOf, hn, hz], HB.out⟩
set_option maxHeartbeats 1000000 in
theorem refGoes_any (a b : Hd) (s : Int) (wants fr : Bool) (w : World) (ha : a.ok) (hb : b.ok) (hs : 0 ≤ s ∧ s ≤ 255) :
    Calls Try.prog 25 #[.int .u8 s, .bool wants, a.v, b.v, .bool fr] w fun e w' =>
      e = .returned (.tuple #[.bool (goesOf s wants (newerOf a b) fr).1, .bool (goesOf s wants (newerOf a b) fr).2]) ∧ Below w.heap.size w w' := by
  have HN : Hid (∀ W : World, Calls Try.prog 11 #[a.v, b.v] W fun e w' => e = .returned (.int .i64 (newerOf a b)) ∧ Below W.heap.size W w') := fun W => refNewer_any a b W ha hb
  clear ha hb
  have H2 : Hid (Below w.heap.size w ((w.alloc (.cells #[.int .u16 a.age, .int .u8 a.opts, .int .u8 a.typ, .int .u32 a.id, .int .u32 a.adv, .int .i32 a.seq, .int .u16 a.sum, .int .u16 a.len] 25)).alloc (.cells #[.int .u16 b.age, .int .u8 b.opts, .int .u8 b.typ, .int .u32 b.id, .int .u32 b.adv, .int .i32 b.seq, .int .u16 b.sum, .int .u16 b.len] 25))) := ((Below.refl _ _).alloc (Nat.le_refl _) _).alloc (by rw [World.size_alloc]; omega) _
  generalize newerOf a b = N at *
  rcases split3 s with rfl | rfl | rfl | ⟨h1, h2, h3⟩
  rotate_right
  · have hc : Hid (goesOf s wants N fr = (false, false)) := by show _ = _; unfold goesOf; simp [h1, h2, h3]
    by_cases h0 : s < 1
    · clear h1 h2 h3 hs
      go_enter Try.func25, Try.ntmps25
      go_wp2
      go_ret2
      exact ⟨by rw [hc.out]; rfl, H2.out⟩
    · have h4 : 3 < s := by omega
      clear h1 h2 h3 hs
      go_enter Try.func25, Try.ntmps25
      go_wp2
      go_ret2
      exact ⟨by rw [hc.out]; rfl, H2.out⟩
  all_goals
    rcases (by omega : N < 0 ∧ ¬ 0 < N ∧ N ≤ 0 ∨ ¬ N < 0 ∧ ¬ 0 < N ∧ N ≤ 0 ∨ ¬ N < 0 ∧ 0 < N ∧ ¬ N ≤ 0) with ⟨hn, hp, hz⟩ | ⟨hn, hp, hz⟩ | ⟨hn, hp, hz⟩
    all_goals
      cases wants <;> cases fr
      all_goals
        go_enter Try.func25, Try.ntmps25
        go_wp2_with (go_at_call 11; refine (HN.out _).mono ?_; rintro e w1 ⟨rfl, hb⟩; have HB := Lib.hid (below_then H2.out hb); clear hb)
        go_ret2
        first
        | exact ⟨by simp [goesOf, hn, hz], H2.out⟩
        | exact ⟨by simp [goesOf, hn, hz], HB.out⟩
/-- The cells of the law's argument. -/
@[reducible] def askC (a0 : Int) (g o : Hd) (q : Int) : Array Value := #[.int .u8 a0, .int .u16 g.age, .int .u8 g.opts, .int .u8 g.typ, .int .u32 g.id, .int .u32 g.adv, .int .i32 g.seq, .int .u16 g.sum, .int .u16 g.len,
  .int .u16 o.age, .int .u8 o.opts, .int .u8 o.typ, .int .u32 o.id, .int .u32 o.adv, .int .i32 o.seq, .int .u16 o.sum, .int .u16 o.len, .int .u16 q]
def bitOf (q k : Int) : Bool := bits .and .u16 (q / 2 ^ k.toNat) 1 == 1
theorem bit_any (a0 : Int) (g o : Hd) (q k : Int) (w : World) (h0 : 0 ≤ k) (h7 : k ≤ 7) : Calls Try.prog 24 #[.agg (askC a0 g o q), .int .u16 k] w fun e w' => e = .returned (.bool (bitOf q k)) ∧ Below w.heap.size w w' := by
  have H2 : Hid (Below w.heap.size w (w.alloc (.cells (askC a0 g o q) 60))) := (Below.refl _ _).alloc (Nat.le_refl _) _
  rcases (by omega : k = 0 ∨ k = 1 ∨ k = 2 ∨ k = 3 ∨ k = 4 ∨ k = 5 ∨ k = 6 ∨ k = 7) with rfl | rfl | rfl | rfl | rfl | rfl | rfl | rfl
  all_goals
    have e1 : q / 1 = q := Int.ediv_one q
    clear h0 h7
    go_enter Try.func24, Try.ntmps24
    go_wp2
    go_ret
    refine ⟨?_, H2.out⟩
    first | rfl | (unfold bitOf; simp)
end Go.Proofs.Ytjkmehpokdaonaa
