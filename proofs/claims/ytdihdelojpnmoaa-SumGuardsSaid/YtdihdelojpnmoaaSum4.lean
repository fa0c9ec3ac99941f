/-
  Sums, Fletcher and Whole of the reference.
-/
import Derived.Test.YtdihdelojpnmoaaSum1
namespace Go.Proofs.Ytdihdelojpnmoaa
set_option linter.unusedVariables false
open Go.RowKit

set_option maxRecDepth 100000 in
set_option maxHeartbeats 1000000 in
theorem refSums_any (A : Option Addr) (n c : Nat) (xs M : List Int) (i : Int) (w : World) (B : Nat) (hx : Reads w B 1 A n (u8s xs)) (ho : Oct xs) (hc : n ≤ c) (hm : c ≤ 9223372036854775807) (hn : n ≤ 1099511627776) (hi : -1 ≤ i) (hi2 : i ≤ 1099511627776) (hM : Masked i xs M) :
    Calls Try.prog 20 #[.slice A n c, .int .i64 i] w fun e w' => e = .returned (.tuple #[.int .i64 (S0 M % 255), .int .i64 (S1 M % 255)]) ∧ ∃ k, w' = w.drewN k := by
  have hlx := hx.u8len
  have hlM := Lib.hid (hM.1.trans hlx)
  have HM : Hid (Masked i xs M) := hM
  have Hlx := Lib.hid hlx
  clear hM hlx
  go_enter Try.func20, Try.ntmps20
  go_wp2
  go_loop [6, 7, 8] (fun a b j => ∃ (k : Nat) (c0 c1 : Int), j = .int .i64 k ∧ a = .int .i64 c0 ∧ b = .int .i64 c1 ∧ k ≤ n ∧ 0 ≤ c0 ∧ c0 ≤ 254 ∧ 0 ≤ c1 ∧ c1 ≤ 254 ∧ Hid (c0 = S0 (M.take k) % 255) ∧ Hid (c1 = (S1 (M.take k) + ((n : Int) - k) * S0 (M.take k)) % 255)) (fun _ _ j => n - (intOf j).toNat)
  case atStart => exact ⟨0, 0, 0, rfl, rfl, rfl, by omega, by omega, by omega, by omega, by omega, by simp [Hid, S0], by simp [Hid, S0, S1]⟩
  case round =>
    obtain ⟨k, c0, c1, rfl, rfl, rfl, hk, r0, r1, r2, r3, h0, h1⟩ := hrel
    by_cases hlt : k < n
    · obtain ⟨a, x, rfl, _, hx1, hcx⟩ := hx.u8at hlt
      obtain ⟨ox1, ox2⟩ := ho _ _ hx1.out
      have hmk := HM.out.2 k (by rw [Hlx.out]; exact hlt)
      by_cases hs : skips i k
      · have hmx := Lib.hid (hmk.1 hs)
        obtain ⟨i0, i1⟩ := hs
        have R0 := Lib.hid (ref_round0 hmx.out h0.out)
        have R1 := Lib.hid (ref_round1 hmx.out hlt h1.out)
        clear hmk
        by_cases hki : (k : Int) = i
        · subst hki
          go_wp2
          go_round
          case rel => exact ⟨k + 1, c0, c1, by go_num, rfl, rfl, by omega, by omega, by omega, by omega, by omega, by rw [← R0.out]; show _ = _; omega, by rw [← R1.out]; show _ = _; omega⟩
          case measure => simp [intOf]; omega
        · have hki2 : (k : Int) = i + 1 := by omega
          have hb : ((k : Int) == i) = false := by simp [hki]
          have hb2 : ((k : Int) == i + 1) = true := by simp [hki2]
          clear hki hki2 i1
          go_wp2
          go_round
          case rel => exact ⟨k + 1, c0, c1, by go_num, rfl, rfl, by omega, by omega, by omega, by omega, by omega, by rw [← R0.out]; show _ = _; omega, by rw [← R1.out]; show _ = _; omega⟩
          case measure => simp [intOf]; omega
      · have hmx := Lib.hid ((hmk.2 hs).trans hx1.out)
        have R0 := Lib.hid (ref_round0 hmx.out h0.out)
        have R1 := Lib.hid (ref_round1 hmx.out hlt h1.out)
        clear hmk
        have hp := prod_bound0' (((n : Int) - k) % 255) x (by omega) (by omega) ox1 ox2
        obtain ⟨hp0, hp1⟩ := hp
        by_cases hi0 : 0 ≤ i
        · have hki : ¬ (k : Int) = i := fun e => hs ⟨hi0, .inl e⟩
          have hki2 : ¬ (k : Int) = i + 1 := fun e => hs ⟨hi0, .inr e⟩
          have hb : ((k : Int) == i) = false := by simp [hki]
          have hb2 : ((k : Int) == i + 1) = false := by simp [hki2]
          clear hki hki2 hs
          go_wp2
          go_round
          case rel => exact ⟨k + 1, _, _, by go_num, rfl, rfl, by omega, by omega, by omega, by omega, by omega, R0.out, R1.out⟩
          case measure => simp [intOf]; omega
        · clear hs
          go_wp2
          go_round
          case rel => exact ⟨k + 1, _, _, by go_num, rfl, rfl, by omega, by omega, by omega, by omega, by omega, R0.out, R1.out⟩
          case measure => simp [intOf]; omega
    · have T : Hid (M.take k = M ∧ ((n : Int) - k) = 0) := ⟨List.take_of_length_le (by rw [hlM.out]; omega), by omega⟩
      go_wp2
      go_ret2
      refine ⟨?_, 0, rfl⟩
      have e0 := h0.out
      have e1 := h1.out
      rw [T.out.1] at e0
      rw [T.out.1, T.out.2, Int.zero_mul, Int.add_zero] at e1
      rw [← e0, ← e1]
      rfl

theorem refWhole_any (A : Option Addr) (n c : Nat) (xs : List Int) (w : World) (B : Nat) (hx : Reads w B 1 A n (u8s xs)) (ho : Oct xs) (hc : n ≤ c) (hm : c ≤ 9223372036854775807) (hn : n ≤ 1099511627776) :
    Calls Try.prog 14 #[.slice A n c] w fun e w' => e = .returned (.bool (S0 xs % 255 == 0 && S1 xs % 255 == 0)) ∧ ∃ k, w' = w.drewN k := by
  go_enter Try.func14, Try.ntmps14
  go_wp2_with (go_at_call 20; refine (refSums_any _ _ _ _ xs _ _ _ hx ho hc hm hn (by omega) (by omega) (masked_all xs (by omega))).mono ?_; rintro e w' ⟨rfl, k, rfl⟩)
  all_goals (go_ret; exact ⟨by simp_all, _, rfl⟩)

theorem refFletcher_no (A : Option Addr) (n c : Nat) (i : Int) (w : World) (h : i < 0 ∨ (n : Int) - 1 ≤ i) (hm : n ≤ 9223372036854775807) :
    Calls Try.prog 8 #[.slice A n c, .int .i64 i] w fun e w' => e = .returned (.tuple #[.int .u16 0, .int .i64 1]) ∧ w' = w := by
  by_cases h0 : i < 0
  · go_enter Try.func8, Try.ntmps8
    go_wp2
    go_ret2
    exact ⟨rfl, rfl⟩
  · have h1 : (n : Int) - 1 ≤ i := by omega
    go_enter Try.func8, Try.ntmps8
    go_wp2
    go_ret2
    exact ⟨rfl, rfl⟩

set_option maxRecDepth 100000 in
set_option maxHeartbeats 1000000 in
theorem refFletcher_any (A : Option Addr) (n c : Nat) (xs : List Int) (i : Nat) (w : World) (B : Nat) (hx : Reads w B 1 A n (u8s xs)) (ho : Oct xs) (hc : n ≤ c) (hm : c ≤ 9223372036854775807) (hn : n ≤ 1099511627776) (hi : i + 2 ≤ n) :
    Calls Try.prog 8 #[.slice A n c, .int .i64 i] w fun e w' => e = .returned (.tuple #[.int .u16 (fl i xs), .int .i64 0]) ∧ ∃ k, w' = w.drewN k := by
  have hlx := hx.u8len
  have HM : Hid (Masked i xs (holed i xs)) := masked_holed (by omega)
  obtain ⟨c0, hc0⟩ : ∃ q, q = S0 (holed i xs) % 255 := ⟨_, rfl⟩
  obtain ⟨c1, hc1⟩ : ∃ q, q = S1 (holed i xs) % 255 := ⟨_, rfl⟩
  obtain ⟨N, hN⟩ : ∃ q, q = ((n : Int) - i) % 255 := ⟨_, rfl⟩
  obtain ⟨X, hX⟩ : ∃ q, q = wh ((N - 1) * c0 - c1) := ⟨_, rfl⟩
  obtain ⟨Y, hY⟩ : ∃ q, q = wh (c1 - N * c0) := ⟨_, rfl⟩
  have hfl : Hid (fl i xs = X * 256 + Y) := by
    show _ = _
    unfold fl
    rw [hX, hY, hc0, hc1, hN, hlx]
  have hX' := wh_range ((N - 1) * c0 - c1)
  have hY' := wh_range (c1 - N * c0)
  rw [← hX] at hX'
  rw [← hY] at hY'
  have hit : Hid (Fits c0 c1 N X Y) := by rw [hX, hY]; exact fits_it _ _ _
  have only : Hid (∀ x y, 1 ≤ x → x ≤ 255 → 1 ≤ y → y ≤ 255 → Fits c0 c1 N x y → x = X ∧ y = Y) := fun x y a b c d h => by rw [hX, hY]; exact fits_only h ⟨a, b⟩ ⟨c, d⟩
  have c00 : 0 ≤ c0 ∧ c0 ≤ 254 := by omega
  have c11 : 0 ≤ c1 ∧ c1 ≤ 254 := by omega
  have NN : 0 ≤ N ∧ N ≤ 254 := by omega
  have hsums := refSums_any A n c xs _ i w B hx ho hc hm hn (by omega) (by omega) HM.out
  rw [← hc0, ← hc1] at hsums
  have HS := Lib.hid hsums
  have HN := Lib.hid hN
  clear hX hY hc0 hc1 hN hlx hsums HM
  obtain ⟨c000, c001⟩ := c00
  obtain ⟨c110, c111⟩ := c11
  obtain ⟨N0, N1⟩ := NN
  obtain ⟨X0, X1⟩ := hX'
  obtain ⟨Y0, Y1⟩ := hY'
  go_enter Try.func8, Try.ntmps8
  go_wp2_with (go_at_call 20; refine (Hid.out HS).mono ?_; rintro e w' ⟨rfl, k, rfl⟩)
  rw [← HN.out]
  clear HN
  go_loop [9] (fun x => ∃ x' : Int, x = .int .i64 x' ∧ 1 ≤ x' ∧ x' ≤ X) (fun x => (256 - intOf x).toNat)
  case atStart => exact ⟨1, rfl, by omega, by omega⟩
  case round =>
    obtain ⟨x, rfl, hx0, hx1⟩ := hrel
    have hNx := prod_bound0' N x (by omega) (by omega) (by omega) (by omega)
    obtain ⟨hNx0, hNx1⟩ := hNx
    go_wp2
    go_loop [10] (fun y => ∃ y' : Int, y = .int .i64 y' ∧ 1 ≤ y' ∧ y' ≤ 256 ∧ (x = X → y' ≤ Y)) (fun y => (257 - intOf y).toNat)
    case atStart => exact ⟨1, rfl, by omega, by omega, fun _ => by omega⟩
    case round =>
      obtain ⟨y, rfl, hy0, hy1, hy2⟩ := hrel
      have HY : Hid (x = X → y ≤ Y) := hy2
      clear hy2
      by_cases hy255 : y ≤ 255
      · have hMy := prod_bound0' ((N + 254) % 255) y (by omega) (by omega) (by omega) (by omega)
        obtain ⟨hMy0, hMy1⟩ := hMy
        by_cases hgot : x = X ∧ y = Y
        · obtain ⟨rfl, rfl⟩ := hgot
          have hb1 : ((c0 + x + y) % 255 == 0) = true := by simp [hit.out.1]
          have hb2 : ((c1 + N * x + (N + 254) % 255 * y) % 255 == 0) = true := by simp [hit.out.2]
          go_wp2
          go_ret2
          refine ⟨?_, k, rfl⟩
          rw [hfl.out]
          have e : x * 256 + y = 256 * x + y := by omega
          rw [e]
          rfl
        · have hno : ¬ Fits c0 c1 N x y := fun h => hgot (only.out x y (by omega) (by omega) (by omega) (by omega) h)
          have HNO := Lib.hid hno
          have HY' : Hid (x = X → y + 1 ≤ Y) := fun e => by have := HY.out e; have : ¬ y = Y := fun e' => hgot ⟨e, e'⟩; omega
          clear hno hgot
          by_cases h1 : (c0 + x + y) % 255 = 0
          · have hb1 : ((c0 + x + y) % 255 == 0) = true := by simp [h1]
            have hb2 : ((c1 + N * x + (N + 254) % 255 * y) % 255 == 0) = false := by
              rw [beq_eq_false_iff_ne]
              exact fun h2 => HNO.out ⟨h1, h2⟩
            clear h1
            go_wp2
            go_round
            case rel => exact ⟨y + 1, rfl, by omega, by omega, HY'.out⟩
            case measure => simp [intOf]; omega
          · have hb1 : ((c0 + x + y) % 255 == 0) = false := by simp [h1]
            clear h1
            go_wp2
            go_round
            case rel => exact ⟨y + 1, rfl, by omega, by omega, HY'.out⟩
            case measure => simp [intOf]; omega
      · have hxX : x < X := by
          rcases Int.lt_or_eq_of_le hx1 with h | h
          · exact h
          · have := HY.out h; omega
        go_wp2
        go_round
        case rel => exact ⟨x + 1, rfl, by omega, by omega⟩
        case measure => simp [intOf]; omega
end Go.Proofs.Ytdihdelojpnmoaa
