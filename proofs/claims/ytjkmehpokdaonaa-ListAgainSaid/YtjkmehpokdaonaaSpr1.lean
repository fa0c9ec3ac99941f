/-
  spread.Judge and the reference's, walked.
-/
import Derived.Test.YtjkmehpokdaonaaOrd3
namespace Go.Proofs.Ytjkmehpokdaonaa
set_option linter.unusedVariables false
open Go.RowKit

/-- What came, as plain data. -/
structure Cm where
  got : Hd
  has : Bool
  own : Hd
  since : Int
  sent : Int
  busy : Bool
  asked : Bool
  mine : Bool
@[reducible] def Cm.v (c : Cm) : Value := .agg #[.int .u16 c.got.age, .int .u8 c.got.opts, .int .u8 c.got.typ, .int .u32 c.got.id, .int .u32 c.got.adv, .int .i32 c.got.seq, .int .u16 c.got.sum, .int .u16 c.got.len, .bool c.has,
  .int .u16 c.own.age, .int .u8 c.own.opts, .int .u8 c.own.typ, .int .u32 c.own.id, .int .u32 c.own.adv, .int .i32 c.own.seq, .int .u16 c.own.sum, .int .u16 c.own.len, .int .u32 c.since, .int .u32 c.sent, .bool c.busy, .bool c.asked, .bool c.mine]
structure Cm.ok (c : Cm) : Prop where
  got : c.got.ok
  own : c.own.ok
  since : 0 ≤ c.since ∧ c.since ≤ 4294967295
  sent : 0 ≤ c.sent ∧ c.sent ≤ 4294967295
def oldB (h : Hd) : Bool := yearsOf h.age == 3600
def judgeOf (c : Cm) : Int :=
  if oldB c.got && !c.has && !c.busy then 1
  else if !c.has || decide (0 < newerOf c.got c.own) then (if c.has && !c.mine && decide (c.since < 1) then 0 else 2)
  else if c.asked then 3
  else if newerOf c.got c.own == 0 then 4
  else if (oldB c.own && c.own.seq == 2147483647) || decide (c.sent < 1) then 0
  else 5

set_option maxRecDepth 100000 in
set_option maxHeartbeats 2000000 in
theorem judge_any (c : Cm) (w : World) (hc : c.ok) :
    Calls Try.prog 8 #[c.v] w fun e w' => e = .returned (.int .u8 (judgeOf c)) ∧ Below w.heap.size w w' := by
  obtain ⟨got, has, own, since, sent, busy, asked, mine⟩ := c
  have HO1 : Hid (∀ W : World, Calls Try.prog 31 #[.int .u16 got.age] W fun e w' => e = .returned (.bool (oldB got)) ∧ W = w') := fun W => old_any _ _ hc.got.age.1 hc.got.age.2
  have HO2 : Hid (∀ W : World, Calls Try.prog 31 #[.int .u16 own.age] W fun e w' => e = .returned (.bool (oldB own)) ∧ W = w') := fun W => old_any _ _ hc.own.age.1 hc.own.age.2
  have HN : Hid (∀ W : World, Calls Try.prog 30 #[got.v, own.v] W fun e w' => e = .returned (.int .i64 (newerOf got own)) ∧ Below W.heap.size W w') := fun W => newer_any got own W hc.got hc.own
  have HJ : Hid (judgeOf ⟨got, has, own, since, sent, busy, asked, mine⟩ =
      if oldB got && !has && !busy then 1
      else if !has || decide (0 < newerOf got own) then (if has && !mine && decide (since < 1) then 0 else 2)
      else if asked then 3
      else if newerOf got own == 0 then 4
      else if (oldB own && own.seq == 2147483647) || decide (sent < 1) then 0
      else 5) := rfl
  have hs := hc.since
  have ht := hc.sent
  clear hc
  generalize newerOf got own = N at *
  generalize oldB got = o1 at *
  generalize oldB own = o2 at *
  cases has
  · cases o1 <;> cases busy
    all_goals
      go_enter Try.func8, Try.ntmps8
      go_wp2_with (go_at_call 31; refine (HO1.out _).mono ?_; rintro e w' ⟨rfl, rfl⟩)
      go_ret
      exact ⟨by rw [HJ.out]; rfl, (Below.refl _ _).alloc (Nat.le_refl _) _⟩
  · by_cases h0 : 0 < N
    · by_cases hs1 : since < 1
      all_goals
        have d0 : Hid (decide (0 < N) = true) := by show _ = _; simpa using h0
        cases o1 <;> cases mine
        all_goals
          go_enter Try.func8, Try.ntmps8
          go_wp2_with (first
          | (go_at_call 30; refine (HN.out _).mono ?_; rintro e w1 ⟨rfl, hb⟩; have hq := bcell hb; obtain ⟨hcell, _⟩ := hq; have HB := Lib.hid hb; clear hb)
          | (go_at_call 31; refine (HO1.out _).mono ?_; rintro e w' ⟨rfl, rfl⟩)
          | (go_at_call 31; refine (HO2.out _).mono ?_; rintro e w' ⟨rfl, rfl⟩))
          go_ret
          refine ⟨?_, below_lit (Below.refl _ _) _ HB.out⟩
          rw [HJ.out]
          simp [hs1, d0.out]
    · have d0 : Hid (decide (0 < N) = false) := by show _ = _; simpa using h0
      cases asked
      · by_cases hz : N = 0
        · have d1 : (N == 0) = true := by simp [hz]
          clear hz
          cases o1
          all_goals
            go_enter Try.func8, Try.ntmps8
            go_wp2_with (first
              | (go_at_call 30; refine (HN.out _).mono ?_; rintro e w1 ⟨rfl, hb⟩; have hq := bcell hb; obtain ⟨hcell, _⟩ := hq; have HB := Lib.hid hb; clear hb)
              | (go_at_call 31; refine (HO1.out _).mono ?_; rintro e w' ⟨rfl, rfl⟩)
              | (go_at_call 31; refine (HO2.out _).mono ?_; rintro e w' ⟨rfl, rfl⟩))
            go_ret
            refine ⟨?_, below_lit (Below.refl _ _) _ HB.out⟩
            rw [HJ.out]
            simp [d0.out, d1]
        · have d1 : (N == 0) = false := by simp [hz]
          clear hz
          cases hsq : (own.seq == 2147483647) <;> cases o2 <;> cases o1 <;> by_cases hs1 : sent < 1
          all_goals
            go_enter Try.func8, Try.ntmps8
            go_wp2_with (first
              | (go_at_call 30; refine (HN.out _).mono ?_; rintro e w1 ⟨rfl, hb⟩; have hq := bcell hb; obtain ⟨hcell, _⟩ := hq; have HB := Lib.hid hb; clear hb)
              | (go_at_call 31; refine (HO1.out _).mono ?_; rintro e w' ⟨rfl, rfl⟩)
              | (go_at_call 31; refine (HO2.out _).mono ?_; rintro e w' ⟨rfl, rfl⟩))
            go_ret
            refine ⟨?_, below_lit (Below.refl _ _) _ HB.out⟩
            rw [HJ.out]
            simp [d0.out, d1, hsq, hs1]
      · cases o1
        all_goals
          go_enter Try.func8, Try.ntmps8
          go_wp2_with (first
            | (go_at_call 30; refine (HN.out _).mono ?_; rintro e w1 ⟨rfl, hb⟩; have hq := bcell hb; obtain ⟨hcell, _⟩ := hq; have HB := Lib.hid hb; clear hb)
            | (go_at_call 31; refine (HO1.out _).mono ?_; rintro e w' ⟨rfl, rfl⟩)
            | (go_at_call 31; refine (HO2.out _).mono ?_; rintro e w' ⟨rfl, rfl⟩))
          go_ret
          refine ⟨?_, below_lit (Below.refl _ _) _ HB.out⟩
          rw [HJ.out]
          simp [d0.out]
end Go.Proofs.Ytjkmehpokdaonaa
