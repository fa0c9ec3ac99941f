/-
  prefix.Bits, and the reference's Bit, Mask, Bits, Make, walked.
-/
import Derived.Test.YtljmmpjcagchmaaDoorPfx2
import Derived.Test.YtljmmpjcagchmaaDoorShelf
namespace Go.Proofs.YtljmmpjcagchmaaDoor
set_option linter.unusedVariables false
open Go.RowKit

theorem bitLen_ones {j : Nat} (h : j ≤ 32) : Lib.bitLen (2 ^ j - 1) = j := by
  rcases Nat.eq_zero_or_pos j with rfl | hj
  · decide
  · have hp : 2 ^ j = 2 * 2 ^ (j - 1) := by rw [← Nat.pow_succ']; congr 1; omega
    have h1 : 0 < 2 ^ (j - 1) := Nat.two_pow_pos _
    have hl := pow_le32 h
    rw [Lib.bitLen_shift (j - 1) _ (by omega) (by omega)]
    have : (2 ^ j - 1) / 2 ^ (j - 1) = 1 := by
      rw [hp]
      exact Nat.div_eq_of_lt_le (by omega) (by omega)
    rw [this, show Lib.bitLen 1 = 1 from by decide]
    omega
/-- How many leading noughts an inverted mask has. -/
def leadN (m : Nat) : Nat := 32 - Lib.bitLen (4294967295 - m)
theorem leadN_le (m : Nat) : leadN m ≤ 32 := Nat.sub_le _ _
theorem bitLen_le32 (m : Nat) : Lib.bitLen (4294967295 - m) ≤ 32 := Lib.bitLen_le _ 32 (by omega) (by omega)
theorem leadN_mask {k : Nat} (h : k ≤ 32) : leadN (maskN k) = k := by
  unfold leadN
  have h1 := pow_le32 (k := 32 - k) (by omega)
  have h2 := Nat.two_pow_pos (32 - k)
  rw [maskN_of h, show 4294967295 - (2 ^ 32 - 2 ^ (32 - k)) = 2 ^ (32 - k) - 1 by omega, bitLen_ones (by omega)]
  omega
theorem bitsN_lead {m : Nat} : bitsN m = if maskN (leadN m) = m then (leadN m, true) else (0, false) := by
  split
  · exact bitsN_yes (leadN_le _) ‹_›
  · rename_i h
    refine bitsN_no fun n hn he => h ?_
    rw [← he, leadN_mask hn]

theorem xor_ones {m : Nat} (h : m < 4294967296) : 4294967295 ^^^ m = 4294967295 - m := by
  refine Nat.eq_of_testBit_eq fun i => ?_
  rw [show 4294967295 - m = 2 ^ 32 - (m + 1) by omega, Nat.testBit_two_pow_sub_succ (by omega), Nat.testBit_xor, show (4294967295 : Nat) = 2 ^ 32 - 1 by decide, Nat.testBit_two_pow_sub_one]
  by_cases hi : i < 32
  · simp [hi]
  · have : m.testBit i = false := Nat.testBit_lt_two_pow (Nat.lt_of_lt_of_le h (by
      have : 2 ^ 32 ≤ 2 ^ i := Nat.pow_le_pow_right (by decide) (by omega)
      simpa using this))
    simp [hi, this]
theorem u32_inv (m : Nat) (h : m < 4294967296) : bits BinOp.xor IntKind.u32 IntKind.u32.max (m : Int) = 4294967295 - m := by
  show bits BinOp.xor IntKind.u32 4294967295 (m : Int) = _
  rw [u32_xor _ _ (by omega) (by omega) (by omega) (by omega), Int.toNat_natCast, show (4294967295 : Int).toNat = 4294967295 from rfl, xor_ones h]
  omega
theorem u32_or_nat (a b : Nat) (ha : a < 4294967296) (hb : b < 4294967296) : bits BinOp.or IntKind.u32 (a : Int) (b : Int) = ((a ||| b : Nat) : Int) := by
  rw [u32_or _ _ (by omega) (by omega) (by omega) (by omega), Int.toNat_natCast, Int.toNat_natCast]
theorem bit_int (a i : Nat) (ha : a < 4294967296) : bits BinOp.and IntKind.u32 ((a : Int) / 2 ^ (31 - i)) 1 = (bitN a i : Nat) := by
  have e : ((a : Int) / 2 ^ (31 - i)) = ((a / 2 ^ (31 - i) : Nat) : Int) := by
    rw [Int.natCast_ediv]; norm_cast
  rw [e, show (1 : Int) = ((1 : Nat) : Int) from rfl, u32_and_nat _ _ (Nat.lt_of_le_of_lt (Nat.div_le_self _ _) ha) (by decide)]
  unfold bitN
  rw [show (1 : Nat) = 2 ^ 1 - 1 from rfl, Nat.and_two_pow_sub_one_eq_mod]
theorem mask_or {i : Nat} (h : i < 32) : bits BinOp.or IntKind.u32 (maskN i : Int) ((2 : Int) ^ (31 - i) % 4294967296) = (maskN (i + 1) : Nat) := by
  have h1 : 2 ^ (31 - i) ≤ 2 ^ 31 := Nat.pow_le_pow_right (by decide) (by omega)
  have e : ((2 : Int) ^ (31 - i) % 4294967296) = ((2 ^ (31 - i) : Nat) : Int) := by
    have : ((2 ^ (31 - i) : Nat) : Int) = 2 ^ (31 - i) := by norm_cast
    rw [← this]
    generalize 2 ^ (31 - i) = D at *
    omega
  rw [e, u32_or_nat _ _ (maskN_lt _) (Nat.lt_of_le_of_lt h1 (by decide)), maskN_step h]

set_option maxRecDepth 100000 in
set_option maxHeartbeats 2000000 in
theorem bits_any (m : Nat) (w : World) (hm : m < 4294967296) :
    Calls Tryd.prog 27 #[.int .u32 m] w fun e w' => e = .returned (.tuple #[.int .u8 (bitsN m).1, .bool (bitsN m).2]) ∧ w = w' := by
  have HL : Hid (∀ W : World, Calls Tryd.prog 45 #[.int .u32 (4294967295 - m : Int)] W fun e w' => e = .returned (.int .i64 (leadN m)) ∧ w' = W) := fun W => by
    have h := Tryd.bits_LeadingZeros32 (4294967295 - m : Int) W (by omega) (by omega)
    have e : ((32 : Int) - (Lib.bitLen (4294967295 - m : Int).toNat : Int)) = (leadN m : Nat) := by
      have := bitLen_le32 m
      unfold leadN
      rw [show (4294967295 - (m : Int)).toNat = 4294967295 - m by omega]
      omega
    rwa [e] at h
  have hl := leadN_le m
  have HM := Lib.hid (fun W => mask_any (leadN m) W (by omega))
  have hr : Hid (bitsN m = if maskN (leadN m) = m then (leadN m, true) else (0, false)) := bitsN_lead
  generalize bitsN m = r at *
  generalize leadN m = n at *
  generalize maskN n = M at *
  have h8 : IntKind.u8.wrap (n : Int) = n := IntWalk.u8_in _ (by omega)
  have hx := u32_inv m hm
  have hnm := Lib.hid (nat_beq M m)
  go_enter Tryd.func27, Tryd.ntmps27
  go_wp2_with (first
    | (go_at_call 45; refine (HL.out _).mono ?_; rintro e w1 ⟨rfl, rfl⟩)
    | (go_at_call 26; refine (HM.out _).mono ?_; rintro e w1 ⟨rfl, rfl⟩))
  · rename_i hne
    go_ret2
    exact ⟨by rw [hr.out, if_neg (by rintro rfl; simp at hne)]; rfl, rfl⟩
  · rename_i hne
    go_ret2
    exact ⟨by rw [hr.out, if_pos (by simp at hne; omega)]; rfl, rfl⟩

theorem refBit_any (a i : Nat) (w : World) (ha : a < 4294967296) (hi : i ≤ 31) :
    Calls Tryd.prog 46 #[.int .u32 a, .int .u8 i] w fun e w' => e = .returned (.int .u32 (bitN a i)) ∧ w = w' := by
  go_enter Tryd.func46, Tryd.ntmps46
  go_wp2
  go_ret
  exact ⟨by rw [← bit_int a i ha]; rfl, rfl⟩

def MRel (w : World) (n : Nat) (m i : Value) (wr : World) : Prop := ∃ k : Nat, i = .int .u8 k ∧ m = .int .u32 (maskN k) ∧ k ≤ n ∧ wr = w
set_option maxRecDepth 100000 in
set_option maxHeartbeats 2000000 in
theorem refMask_any (n : Nat) (w : World) (hn : n < 256) :
    Calls Tryd.prog 30 #[.int .u8 n] w fun e w' => e = .returned (.int .u32 (maskN n)) ∧ w = w' := by
  by_cases h : 32 < n
  · have h1 : decide ((n : Int) ≤ 32) = false := decide_eq_false (by omega)
    have h2 : (0 : Int) < n := by omega
    go_enter Tryd.func30, Tryd.ntmps30
    go_wp2
    go_loopw [3, 4] (fun m i wr => m = .int .u32 0 ∧ i = .int .u8 0 ∧ wr = w) (fun _ _ _ => 0)
    case atStart => exact ⟨rfl, rfl, rfl⟩
    case round =>
      obtain ⟨rfl, rfl, rfl⟩ := hrel
      go_wp2
      go_ret
      exact ⟨by unfold maskN; rw [if_pos h]; rfl, rfl⟩
  · have h1 : (n : Int) ≤ 32 := by omega
    go_enter Tryd.func30, Tryd.ntmps30
    go_wp2
    go_loopw [3, 4] (MRel w n) (fun _ i _ => n - (intOf i).toNat)
    case atStart => exact ⟨0, rfl, rfl, by omega, rfl⟩
    case round =>
      obtain ⟨k, rfl, rfl, hk, rfl⟩ := hrel
      by_cases hlt : k < n
      · have h3 : (k : Int) < n := by omega
        have h5 := mask_or (i := k) (by omega)
        go_wp2
        go_roundw
        case rel => exact ⟨k + 1, by simp, by simp, by omega, rfl⟩
        case measure => simp [intOf]; omega
      · obtain rfl : k = n := by omega
        go_wp2
        go_ret
        exact ⟨rfl, rfl⟩

set_option maxRecDepth 100000 in
set_option maxHeartbeats 2000000 in
theorem refMake_any (a n : Nat) (w : World) (ha : a < 4294967296) (hn : n < 256) :
    Calls Tryd.prog 29 #[.int .u32 a, .int .u8 n] w fun e w' => e = .returned (.tuple #[(mk a n).1.v, .int .i64 (mk a n).2]) ∧ Below w.heap.size w w' := by
  have HM := Lib.hid (fun W => refMask_any n W hn)
  have hlt : (maskN n) < 4294967296 := maskN_lt n
  by_cases h : 32 < n
  · have hm : Hid (mk a n = (⟨0, 0⟩, 12)) := by show _ = _; unfold mk; rw [if_pos h]
    clear hlt HM
    go_enter Tryd.func29, Tryd.ntmps29
    go_wp2
    refine bodyPost_ret (results_cell_row_tmp rfl _ _ w.heap.size 31 #[.int .u32 0, .int .u8 0] (0, 0) _ rfl (heap_alloc_new w (.cells #[.int .u32 0, .int .u8 0] 31)) Tryd.underlying31 rfl infoP) rfl ⟨by rw [hm.out]; rfl, (Below.refl _ _).alloc (Nat.le_refl _) _⟩
  · have hm : Hid (mk a n = (⟨a &&& maskN n, n⟩, 0)) := by show _ = _; unfold mk; rw [if_neg h]
    generalize maskN n = M at *
    have hb := u32_and_nat a M ha hlt
    go_enter Tryd.func29, Tryd.ntmps29
    go_wp2_with (go_at_call 30; refine (HM.out _).mono ?_; rintro e w' ⟨rfl, rfl⟩)
    refine bodyPost_ret (results_cell_row_tmp rfl _ _ w.heap.size 31 #[.int .u32 (a &&& M : Nat), .int .u8 n] (0, 0) _ rfl (heap_alloc_new w (.cells #[.int .u32 (a &&& M : Nat), .int .u8 n] 31)) Tryd.underlying31 rfl infoP) rfl ⟨by rw [hm.out]; rfl, (Below.refl _ _).alloc (Nat.le_refl _) _⟩

def BRel (w : World) (m : Nat) (i : Value) (wr : World) : Prop := ∃ k : Nat, i = .int .u8 k ∧ k ≤ 33 ∧ Hid (∀ j, j < k → maskN j ≠ m) ∧ wr = w
set_option maxRecDepth 100000 in
set_option maxHeartbeats 2000000 in
theorem refBits_any (m : Nat) (w : World) (hm : m < 4294967296) :
    Calls Tryd.prog 28 #[.int .u32 m] w fun e w' => e = .returned (.tuple #[.int .u8 (bitsN m).1, .bool (bitsN m).2]) ∧ w = w' := by
  go_enter Tryd.func28, Tryd.ntmps28
  go_wp2
  go_loopw [4] (BRel w m) (fun i _ => 33 - (intOf i).toNat)
  case atStart => exact ⟨0, rfl, by omega, fun j hj => absurd hj (by omega), rfl⟩
  case round =>
    obtain ⟨k, rfl, hk, hn, rfl⟩ := hrel
    by_cases hlt : k ≤ 32
    · have h3 : (k : Int) ≤ 32 := by omega
      have HM := Lib.hid (fun W => refMask_any k W (by omega))
      by_cases he : maskN k = m
      · have hr : Hid (bitsN m = (k, true)) := bitsN_yes hlt he
        have hb : ((maskN k : Int) == (m : Int)) = true := by rw [nat_beq]; simp [he]
        clear he hn
        generalize maskN k = M at *
        go_wp2_with (go_at_call 30; refine (HM.out _).mono ?_; rintro e w' ⟨rfl, rfl⟩)
        go_ret2
        exact ⟨by rw [hr.out]; rfl, rfl⟩
      · have hn' : Hid (∀ j, j < k + 1 → maskN j ≠ m) := fun j hj => by
          by_cases hjk : j = k
          · subst hjk; exact he
          · exact hn.out j (by omega)
        have hb : ((maskN k : Int) == (m : Int)) = false := by rw [nat_beq]; simp [he]
        clear he hn
        generalize maskN k = M at *
        go_wp2_with (go_at_call 30; refine (HM.out _).mono ?_; rintro e w' ⟨rfl, rfl⟩)
        go_roundw
        case rel => exact ⟨k + 1, by simp, by omega, hn', rfl⟩
        case measure => simp [intOf]; omega
    · have h3 : decide ((k : Int) ≤ 32) = false := decide_eq_false (by omega)
      have hr : Hid (bitsN m = (0, false)) := bitsN_no fun j hj => hn.out j (by omega)
      clear hn
      go_wp2
      go_ret2
      exact ⟨by rw [hr.out]; rfl, rfl⟩
end Go.Proofs.YtljmmpjcagchmaaDoor
