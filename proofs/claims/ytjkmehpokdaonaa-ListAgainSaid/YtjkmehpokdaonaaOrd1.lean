/-
  order: which of two heads is newer; the small functions, walked.
-/
import Derived.Test.YtjkmehpokdaonaaKept
import Derived.Test.YtjkmehpokdaonaaRgn
import Derived.Test.YtjkmehpokdaonaaBits
import Derived.Deep.DeepCutAuto
namespace Go.Proofs.Ytjkmehpokdaonaa
set_option linter.unusedVariables false
open Go.RowKit

/-- A head, as plain data. -/
structure Hd where
  age : Int
  opts : Int
  typ : Int
  id : Int
  adv : Int
  seq : Int
  sum : Int
  len : Int
def Hd.cells (h : Hd) : List Value := [.int .u16 h.age, .int .u8 h.opts, .int .u8 h.typ, .int .u32 h.id, .int .u32 h.adv, .int .i32 h.seq, .int .u16 h.sum, .int .u16 h.len]
/-- Its numbers may be. -/
structure Hd.ok (h : Hd) : Prop where
  age : 0 ≤ h.age ∧ h.age ≤ 65535
  opts : 0 ≤ h.opts ∧ h.opts ≤ 255
  typ : 0 ≤ h.typ ∧ h.typ ≤ 255
  id : 0 ≤ h.id ∧ h.id ≤ 4294967295
  adv : 0 ≤ h.adv ∧ h.adv ≤ 4294967295
  seq : -2147483648 ≤ h.seq ∧ h.seq ≤ 2147483647
  sum : 0 ≤ h.sum ∧ h.sum ≤ 65535
  len : 0 ≤ h.len ∧ h.len ≤ 65535
def yearsOf (age : Int) : Int := min (age % 32768) 3600
def cmpI (x y : Int) : Int := if x < y then -1 else if y < x then 1 else 0
def dist1 (x y : Int) : Int := if (x = 3600) = (y = 3600) then 0 else cmpI x y
def dist2 (x y : Int) : Int := if x - y > 900 ∨ y - x > 900 then cmpI y x else 0
/-- The first that is not nought. -/
def firstNZ : List Int → Int
  | [] => 0
  | n :: l => if n = 0 then firstNZ l else n
def newerOf (a b : Hd) : Int := firstNZ [cmpI a.seq b.seq, cmpI a.sum b.sum, dist1 (yearsOf a.age) (yearsOf b.age), dist2 (yearsOf a.age) (yearsOf b.age)]

theorem years_bound (age : Int) (h0 : 0 ≤ age) : 0 ≤ yearsOf age ∧ yearsOf age ≤ 3600 := by unfold yearsOf; omega
theorem u16_andNot15 (x : Int) (h0 : 0 ≤ x) (h1 : x ≤ 65535) : bits .andNot .u16 x 32768 = x % 32768 := by
  rw [u16_andNot _ _ (by omega) (by omega) (by omega) (by omega)]
  obtain ⟨a, rfl⟩ := Int.eq_ofNat_of_zero_le h0
  have e : 65535 - ((32768 : Int)).toNat = 2 ^ 15 - 1 := by omega
  rw [e, Int.toNat_natCast, Nat.and_two_pow_sub_one_eq_mod]
  omega

theorem years_any (age : Int) (w : World) (h0 : 0 ≤ age) (h1 : age ≤ 65535) :
    Calls Try.prog 40 #[.int .u16 age] w fun e w' => e = .returned (.int .i64 (yearsOf age)) ∧ w = w' := by
  have hb := u16_andNot15 age h0 h1
  have hy : Hid (yearsOf age = min (age % 32768) 3600) := rfl
  have hr0 : 0 ≤ age % 32768 := by omega
  have hr1 : age % 32768 ≤ 32767 := by omega
  generalize age % 32768 = r at *
  by_cases hle : r ≤ 3600
  · have hm : Hid (min r 3600 = r) := by show _ = _; omega
    go_enter Try.func40, Try.ntmps40
    go_wp2
    go_ret
    exact ⟨by rw [hy.out, hm.out]; rfl, rfl⟩
  · have hm : Hid (min r 3600 = 3600) := by show _ = _; omega
    go_enter Try.func40, Try.ntmps40
    go_wp2
    go_ret
    exact ⟨by rw [hy.out, hm.out]; rfl, rfl⟩
theorem refYears_any (age : Int) (w : World) (h0 : 0 ≤ age) (h1 : age ≤ 65535) :
    Calls Try.prog 34 #[.int .u16 age] w fun e w' => e = .returned (.int .i64 (yearsOf age)) ∧ w = w' := by
  have hy : Hid (yearsOf age = min (age % 32768) 3600) := rfl
  by_cases hle : age % 32768 ≤ 3600
  · have hm : Hid (min (age % 32768) 3600 = age % 32768) := by show _ = _; omega
    go_enter Try.func34, Try.ntmps34
    go_wp2
    go_ret
    exact ⟨by rw [hy.out, hm.out]; rfl, rfl⟩
  · have hm : Hid (min (age % 32768) 3600 = 3600) := by show _ = _; omega
    go_enter Try.func34, Try.ntmps34
    go_wp2
    go_ret
    exact ⟨by rw [hy.out, hm.out]; rfl, rfl⟩
theorem old_any (age : Int) (w : World) (h0 : 0 ≤ age) (h1 : age ≤ 65535) :
    Calls Try.prog 31 #[.int .u16 age] w fun e w' => e = .returned (.bool (yearsOf age == 3600)) ∧ w = w' := by
  go_enter Try.func31, Try.ntmps31
  go_wp2_with (go_at_call 40; refine (years_any _ _ h0 h1).mono ?_; rintro e w' ⟨rfl, rfl⟩)
  go_ret
  exact ⟨rfl, rfl⟩
theorem ref5Old_any (age : Int) (w : World) (h0 : 0 ≤ age) (h1 : age ≤ 65535) :
    Calls Try.prog 35 #[.int .u16 age] w fun e w' => e = .returned (.bool (yearsOf age == 3600)) ∧ w = w' := by
  go_enter Try.func35, Try.ntmps35
  go_wp2_with (go_at_call 34; refine (refYears_any _ _ h0 h1).mono ?_; rintro e w' ⟨rfl, rfl⟩)
  go_ret
  exact ⟨rfl, rfl⟩
theorem cmp16_any (x y : Int) (w : World) :
    Calls Try.prog 45 #[.int .u16 x, .int .u16 y] w fun e w' => e = .returned (.int .i64 (cmpI x y)) ∧ w = w' := by
  have h3 : x < y ∨ y < x ∨ x = y := by omega
  rcases h3 with h | h | h
  · have e : Hid (cmpI x y = -1) := by show _ = _; unfold cmpI; rw [if_pos h]
    go_enter Try.func45, Try.ntmps45
    go_wp2
    go_ret
    exact ⟨by rw [e.out]; rfl, rfl⟩
  · have e : Hid (cmpI x y = 1) := by show _ = _; unfold cmpI; rw [if_neg (by omega), if_pos h]
    go_enter Try.func45, Try.ntmps45
    go_wp2
    go_ret
    exact ⟨by rw [e.out]; rfl, rfl⟩
  · subst h
    have e : Hid (cmpI x x = 0) := by show _ = _; unfold cmpI; rw [if_neg (by omega), if_neg (by omega)]
    go_enter Try.func45, Try.ntmps45
    go_wp2
    go_ret
    exact ⟨by rw [e.out]; rfl, rfl⟩
theorem cmp64_any (x y : Int) (w : World) :
    Calls Try.prog 47 #[.int .i64 x, .int .i64 y] w fun e w' => e = .returned (.int .i64 (cmpI x y)) ∧ w = w' := by
  have h3 : x < y ∨ y < x ∨ x = y := by omega
  rcases h3 with h | h | h
  · have e : Hid (cmpI x y = -1) := by show _ = _; unfold cmpI; rw [if_pos h]
    go_enter Try.func47, Try.ntmps47
    go_wp2
    go_ret
    exact ⟨by rw [e.out]; rfl, rfl⟩
  · have e : Hid (cmpI x y = 1) := by show _ = _; unfold cmpI; rw [if_neg (by omega), if_pos h]
    go_enter Try.func47, Try.ntmps47
    go_wp2
    go_ret
    exact ⟨by rw [e.out]; rfl, rfl⟩
  · subst h
    have e : Hid (cmpI x x = 0) := by show _ = _; unfold cmpI; rw [if_neg (by omega), if_neg (by omega)]
    go_enter Try.func47, Try.ntmps47
    go_wp2
    go_ret
    exact ⟨by rw [e.out]; rfl, rfl⟩
theorem cmp32_any (x y : Int) (w : World) :
    Calls Try.prog 49 #[.int .i32 x, .int .i32 y] w fun e w' => e = .returned (.int .i64 (cmpI x y)) ∧ w = w' := by
  have h3 : x < y ∨ y < x ∨ x = y := by omega
  rcases h3 with h | h | h
  · have e : Hid (cmpI x y = -1) := by show _ = _; unfold cmpI; rw [if_pos h]
    go_enter Try.func49, Try.ntmps49
    go_wp2
    go_ret
    exact ⟨by rw [e.out]; rfl, rfl⟩
  · have e : Hid (cmpI x y = 1) := by show _ = _; unfold cmpI; rw [if_neg (by omega), if_pos h]
    go_enter Try.func49, Try.ntmps49
    go_wp2
    go_ret
    exact ⟨by rw [e.out]; rfl, rfl⟩
  · subst h
    have e : Hid (cmpI x x = 0) := by show _ = _; unfold cmpI; rw [if_neg (by omega), if_neg (by omega)]
    go_enter Try.func49, Try.ntmps49
    go_wp2
    go_ret
    exact ⟨by rw [e.out]; rfl, rfl⟩
theorem compare_any (x y : Int) (w : World) :
    Calls Try.prog 33 #[.int .i64 x, .int .i64 y] w fun e w' => e = .returned (.int .i64 (cmpI x y)) ∧ w = w' := by
  have h3 : x < y ∨ y < x ∨ x = y := by omega
  rcases h3 with h | h | h
  · have e : Hid (cmpI x y = -1) := by show _ = _; unfold cmpI; rw [if_pos h]
    go_enter Try.func33, Try.ntmps33
    go_wp2
    go_ret
    exact ⟨by rw [e.out]; rfl, rfl⟩
  · have e : Hid (cmpI x y = 1) := by show _ = _; unfold cmpI; rw [if_neg (by omega), if_pos h]
    go_enter Try.func33, Try.ntmps33
    go_wp2
    go_ret
    exact ⟨by rw [e.out]; rfl, rfl⟩
  · subst h
    have e : Hid (cmpI x x = 0) := by show _ = _; unfold cmpI; rw [if_neg (by omega), if_neg (by omega)]
    go_enter Try.func33, Try.ntmps33
    go_wp2
    go_ret
    exact ⟨by rw [e.out]; rfl, rfl⟩
theorem seq_any (x y : Int) (w : World) :
    Calls Try.prog 43 #[.int .i32 x, .int .i32 y] w fun e w' => e = .returned (.int .i64 (cmpI x y)) ∧ w = w' := by
  go_enter Try.func43, Try.ntmps43
  go_wp2_with (go_at_call 49; refine (cmp32_any _ _ _).mono ?_; rintro e w' ⟨rfl, rfl⟩)
  go_ret
  exact ⟨rfl, rfl⟩
theorem refSeq_any (x y : Int) (w : World) (h0 : -2147483648 ≤ x) (h1 : x ≤ 2147483647) (h2 : -2147483648 ≤ y) (h3 : y ≤ 2147483647) :
    Calls Try.prog 32 #[.int .i32 x, .int .i32 y] w fun e w' => e = .returned (.int .i64 (cmpI x y)) ∧ w = w' := by
  go_enter Try.func32, Try.ntmps32
  go_wp2_with (go_at_call 33; refine (compare_any _ _ _).mono ?_; rintro e w' ⟨rfl, rfl⟩)
  go_ret
  exact ⟨rfl, rfl⟩
end Go.Proofs.Ytjkmehpokdaonaa
