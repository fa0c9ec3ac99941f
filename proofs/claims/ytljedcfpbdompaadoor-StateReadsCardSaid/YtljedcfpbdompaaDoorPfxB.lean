/-
  prefix.Mask and prefix.Bits.
-/
import Derived.Test.YtljedcfpbdompaaDoorBase2
import Derived.Test.YtljedcfpbdompaaDoorPfxMath
import Derived.Test.YtljedcfpbdompaaDoorShelf
namespace Go.Proofs.YtljedcfpbdompaaDoor
set_option linter.unusedVariables false
open Go.RowKit

theorem maskN_int {n : Nat} (h : n ≤ 32) : (4294967295 * 2 ^ (32 - n) % 4294967296 : Int) = maskN n := by
  rw [maskN_of h]
  have hp : 0 < 2 ^ (32 - n) := Nat.two_pow_pos _
  have hl := pow_le32 (k := 32 - n) (by omega)
  have : ((2 ^ (32 - n) : Nat) : Int) = 2 ^ (32 - n) := by norm_cast
  rw [← this]
  generalize 2 ^ (32 - n) = D at *
  omega
set_option maxHeartbeats 1000000 in
theorem mask_any (n : Nat) (w : World) (hn : n < 256) : Calls Tryd.prog 76 #[.int .u8 n] w fun e w' => e = .returned (.int .u32 (maskN n)) ∧ w = w' := by
  by_cases h : 32 < n
  · have hm : Hid (maskN n = 0) := by show _ = _; unfold maskN; rw [if_pos h]
    go_enter Tryd.func76, Tryd.ntmps76
    go_wp2
    go_ret
    exact ⟨by rw [hm.out]; rfl, rfl⟩
  · go_enter Tryd.func76, Tryd.ntmps76
    go_wp2
    go_ret
    exact ⟨by rw [← maskN_int (by omega)]; rfl, rfl⟩

theorem nat_beq (x y : Nat) : ((x : Int) == (y : Int)) = (x == y) := by rw [Bool.eq_iff_iff, beq_iff_eq, beq_iff_eq]; omega
theorem bitLen_ones {j : Nat} (h : j ≤ 32) : Lib.bitLen (2 ^ j - 1) = j := by
  rcases Nat.eq_zero_or_pos j with rfl | hj
  · decide
  · have hp : 2 ^ j = 2 * 2 ^ (j - 1) := by rw [← Nat.pow_succ']; congr 1; omega
    have h1 : 0 < 2 ^ (j - 1) := Nat.two_pow_pos _
    have hl := pow_le32 h
    rw [Lib.bitLen_shift (j - 1) _ (by omega) (by omega)]
    have : (2 ^ j - 1) / 2 ^ (j - 1) = 1 := by
      rw [hp]
      exact Nat.div_eq_of_lt_le (by omega) (by omega)
    rw [this, show Lib.bitLen 1 = 1 from by decide]
    omega
/-- How many leading noughts an inverted mask has. -/
def leadN (m : Nat) : Nat := 32 - Lib.bitLen (4294967295 - m)
theorem leadN_le (m : Nat) : leadN m ≤ 32 := Nat.sub_le _ _
theorem bitLen_le32 (m : Nat) : Lib.bitLen (4294967295 - m) ≤ 32 := Lib.bitLen_le _ 32 (by omega) (by omega)
theorem leadN_mask {k : Nat} (h : k ≤ 32) : leadN (maskN k) = k := by
  unfold leadN
  have h1 := pow_le32 (k := 32 - k) (by omega)
  have h2 := Nat.two_pow_pos (32 - k)
  rw [maskN_of h, show 4294967295 - (2 ^ 32 - 2 ^ (32 - k)) = 2 ^ (32 - k) - 1 by omega, bitLen_ones (by omega)]
  omega
theorem bitsN_lead {m : Nat} : bitsN m = if maskN (leadN m) = m then (leadN m, true) else (0, false) := by
  split
  · exact bitsN_yes (leadN_le _) ‹_›
  · rename_i h
    refine bitsN_no fun n hn he => h ?_
    rw [← he, leadN_mask hn]

theorem xor_ones {m : Nat} (h : m < 4294967296) : 4294967295 ^^^ m = 4294967295 - m := by
  refine Nat.eq_of_testBit_eq fun i => ?_
  rw [show 4294967295 - m = 2 ^ 32 - (m + 1) by omega, Nat.testBit_two_pow_sub_succ (by omega), Nat.testBit_xor, show (4294967295 : Nat) = 2 ^ 32 - 1 by decide, Nat.testBit_two_pow_sub_one]
  by_cases hi : i < 32
  · simp [hi]
  · have : m.testBit i = false := Nat.testBit_lt_two_pow (Nat.lt_of_lt_of_le h (by
      have : 2 ^ 32 ≤ 2 ^ i := Nat.pow_le_pow_right (by decide) (by omega)
      simpa using this))
    simp [hi, this]
theorem u32_inv (m : Nat) (h : m < 4294967296) : bits BinOp.xor IntKind.u32 IntKind.u32.max (m : Int) = 4294967295 - m := by
  show bits BinOp.xor IntKind.u32 4294967295 (m : Int) = _
  rw [u32_xor _ _ (by omega) (by omega) (by omega) (by omega), Int.toNat_natCast, show (4294967295 : Int).toNat = 4294967295 from rfl, xor_ones h]
  omega
set_option maxRecDepth 100000 in
set_option maxHeartbeats 2000000 in
theorem bits_any (m : Nat) (w : World) (hm : m < 4294967296) :
    Calls Tryd.prog 57 #[.int .u32 m] w fun e w' => e = .returned (.tuple #[.int .u8 (bitsN m).1, .bool (bitsN m).2]) ∧ w = w' := by
  have HL : Hid (∀ W : World, Calls Tryd.prog 75 #[.int .u32 (4294967295 - m : Int)] W fun e w' => e = .returned (.int .i64 (leadN m)) ∧ w' = W) := fun W => by
    have h := Tryd.bits_LeadingZeros32 (4294967295 - m : Int) W (by omega) (by omega)
    have e : ((32 : Int) - (Lib.bitLen (4294967295 - m : Int).toNat : Int)) = (leadN m : Nat) := by
      have := bitLen_le32 m
      unfold leadN
      rw [show (4294967295 - (m : Int)).toNat = 4294967295 - m by omega]
      omega
    rwa [e] at h
  have hl := leadN_le m
  have HM := Lib.hid (fun W => mask_any (leadN m) W (by omega))
  have hr : Hid (bitsN m = if maskN (leadN m) = m then (leadN m, true) else (0, false)) := bitsN_lead
  generalize bitsN m = r at *
  generalize leadN m = n at *
  generalize maskN n = M at *
  have h8 : IntKind.u8.wrap (n : Int) = n := IntWalk.u8_in _ (by omega)
  have hx := u32_inv m hm
  have hnm := Lib.hid (nat_beq M m)
  go_enter Tryd.func57, Tryd.ntmps57
  go_wp2_with (first
    | (go_at_call 75; refine (HL.out _).mono ?_; rintro e w1 ⟨rfl, rfl⟩)
    | (go_at_call 76; refine (HM.out _).mono ?_; rintro e w1 ⟨rfl, rfl⟩))
  · rename_i hne
    go_ret2
    exact ⟨by rw [hr.out, if_neg (by rintro rfl; simp at hne)]; rfl, rfl⟩
  · rename_i hne
    go_ret2
    exact ⟨by rw [hr.out, if_pos (by simp at hne; omega)]; rfl, rfl⟩
end Go.Proofs.YtljedcfpbdompaaDoor
