/-
  The reference's small functions of the digest, walked.
-/
import Derived.Test.YtkgdeneonobibaaDig3
namespace Go.Proofs.Ytkgdeneonobibaa
set_option linter.unusedVariables false
open Go.RowKit

theorem ret_i {k : IntKind} {a b : Int} (h : a = b) : Ending.returned (.int k a) = .returned (.int k b) := by rw [h]

theorem refWhich_any (i : Nat) (w : World) (hi : i < 64) : Calls Try.prog 129 #[.int .i64 i] w fun e w' => e = .returned (.int .i64 (whI i : Nat)) ∧ w' = w := by
  by_cases h0 : i < 16
  · have b0 : ((i : Int) / 16 == 0) = true := by simp; omega
    have hw : Hid (whI i = i) := by show _ = _; unfold whI; rw [if_pos h0]
    go_enter Try.func129, Try.ntmps129
    go_wp2
    go_ret
    exact ⟨by rw [hw.out]; rfl, rfl⟩
  by_cases h1 : i < 32
  · have b0 : ((i : Int) / 16 == 0) = false := by simp; omega
    have b1 : ((i : Int) / 16 == 1) = true := by simp; omega
    have hw : Hid (whI i = (5 * i + 1) % 16) := by show _ = _; unfold whI; rw [if_neg h0, if_pos h1]
    go_enter Try.func129, Try.ntmps129
    go_wp2
    go_ret
    exact ⟨by rw [hw.out]; exact ret_i (by omega), rfl⟩
  by_cases h2 : i < 48
  · have b0 : ((i : Int) / 16 == 0) = false := by simp; omega
    have b1 : ((i : Int) / 16 == 1) = false := by simp; omega
    have b2 : ((i : Int) / 16 == 2) = true := by simp; omega
    have hw : Hid (whI i = (3 * i + 5) % 16) := by show _ = _; unfold whI; rw [if_neg h0, if_neg h1, if_pos h2]
    go_enter Try.func129, Try.ntmps129
    go_wp2
    go_ret
    exact ⟨by rw [hw.out]; exact ret_i (by omega), rfl⟩
  · have b0 : ((i : Int) / 16 == 0) = false := by simp; omega
    have b1 : ((i : Int) / 16 == 1) = false := by simp; omega
    have b2 : ((i : Int) / 16 == 2) = false := by simp; omega
    have hw : Hid (whI i = 7 * i % 16) := by show _ = _; unfold whI; rw [if_neg h0, if_neg h1, if_neg h2]
    go_enter Try.func129, Try.ntmps129
    go_wp2
    go_ret
    exact ⟨by rw [hw.out]; exact ret_i (by omega), rfl⟩

theorem refMixed_any (i : Nat) (b c d : Int) (w : World) (hi : i < 64) : Calls Try.prog 131 #[.int .i64 i, .int .u32 b, .int .u32 c, .int .u32 d] w fun e w' => e = .returned (.int .u32 (mixI i b c d)) ∧ w' = w := by
  by_cases h0 : i < 16
  · have b0 : ((i : Int) / 16 == 0) = true := by simp; omega
    have hw : Hid (mixI i b c d = bits .or .u32 (bits .and .u32 b c) (bits .and .u32 (bits .xor .u32 4294967295 b) d)) := by show _ = _; unfold mixI; rw [if_pos h0]
    go_enter Try.func131, Try.ntmps131
    go_wp2
    go_ret
    exact ⟨by rw [hw.out]; rfl, rfl⟩
  by_cases h1 : i < 32
  · have b0 : ((i : Int) / 16 == 0) = false := by simp; omega
    have b1 : ((i : Int) / 16 == 1) = true := by simp; omega
    have hw : Hid (mixI i b c d = bits .or .u32 (bits .and .u32 d b) (bits .and .u32 (bits .xor .u32 4294967295 d) c)) := by show _ = _; unfold mixI; rw [if_neg h0, if_pos h1]
    go_enter Try.func131, Try.ntmps131
    go_wp2
    go_ret
    exact ⟨by rw [hw.out]; rfl, rfl⟩
  by_cases h2 : i < 48
  · have b0 : ((i : Int) / 16 == 0) = false := by simp; omega
    have b1 : ((i : Int) / 16 == 1) = false := by simp; omega
    have b2 : ((i : Int) / 16 == 2) = true := by simp; omega
    have hw : Hid (mixI i b c d = bits .xor .u32 (bits .xor .u32 b c) d) := by show _ = _; unfold mixI; rw [if_neg h0, if_neg h1, if_pos h2]
    go_enter Try.func131, Try.ntmps131
    go_wp2
    go_ret
    exact ⟨by rw [hw.out]; rfl, rfl⟩
  · have b0 : ((i : Int) / 16 == 0) = false := by simp; omega
    have b1 : ((i : Int) / 16 == 1) = false := by simp; omega
    have b2 : ((i : Int) / 16 == 2) = false := by simp; omega
    have hw : Hid (mixI i b c d = bits .xor .u32 c (bits .or .u32 b (bits .xor .u32 4294967295 d))) := by show _ = _; unfold mixI; rw [if_neg h0, if_neg h1, if_neg h2]
    go_enter Try.func131, Try.ntmps131
    go_wp2
    go_ret
    exact ⟨by rw [hw.out]; rfl, rfl⟩

theorem refTurned_any (v : Int) (n : Nat) (w : World) (h0 : 1 ≤ n) (h1 : n ≤ 31) (hv0 : 0 ≤ v) (hv1 : v ≤ 4294967295) : Calls Try.prog 130 #[.int .u32 v, .int .i64 n] w fun e w' => e = .returned (.int .u32 (rot v n)) ∧ ∃ k, w' = w.drewN k := by
  have e3 : IntKind.i64.wrap (32 - (n : Int)) = 32 - n := IntWalk.i64_in _ (by omega)
  have b0 : (0 : Int) ≤ 32 - (n : Int) := by omega
  have b1 : 0 ≤ (n : Int) := by omega
  go_enter Try.func130, Try.ntmps130
  go_wp2
  go_quiet (fail)
  go_wp2
  go_ret
  exact ⟨rfl, _, rfl⟩

theorem by_table : ∀ i, i < 64 → (By16.map (Value.int .i64))[4 * (i / 16) + i % 4]? = some (.int .i64 (byI i : Nat)) := by
  intro i hi
  have h : ∀ i, i < 64 → By16[4 * (i / 16) + i % 4]? = some ((byI i : Nat) : Int) := by decide
  rw [List.getElem?_map, h i hi]
  rfl
theorem refBy_any (i : Nat) (w : World) (hi : i < 64) : Calls Try.prog 132 #[.int .i64 i] w fun e w' => e = .returned (.int .i64 (byI i : Nat)) ∧ Below w.heap.size w w' := by
  have hc : ([Value.int .i64 7, Value.int .i64 12, Value.int .i64 17, Value.int .i64 22, Value.int .i64 5, Value.int .i64 9, Value.int .i64 14, Value.int .i64 20, Value.int .i64 4, Value.int .i64 11, Value.int .i64 16, Value.int .i64 23, Value.int .i64 6, Value.int .i64 10, Value.int .i64 15, Value.int .i64 21] : List Value)[4 * (i / 16) + i % 4]? = some (.int .i64 (byI i : Nat)) := by_table i hi
  obtain ⟨N, hN⟩ : ∃ N, N = byI i := ⟨_, rfl⟩
  rw [← hN] at hc ⊢
  clear hN
  have i0 : 4 * ((i : Int) / 16) + (i : Int) % 4 < 16 := by omega
  go_enter Try.func132, Try.ntmps132
  go_wp2
  go_ret
  exact ⟨rfl, (Below.refl _ _).alloc (Nat.le_refl _) _⟩

set_option maxRecDepth 100000 in
theorem refConsts_any (w : World) : Calls Try.prog 128 #[] w fun e w' => e = .returned (.slice (some ⟨w.heap.size, 0, none⟩) 64 64) ∧ w' = w.alloc (.cells t64 34) := by
  go_enter Try.func128, Try.ntmps128
  go_wp2
  go_ret
  exact ⟨rfl, rfl⟩
end Go.Proofs.Ytkgdeneonobibaa
