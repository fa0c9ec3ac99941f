/-
  The pair of sums that the program adds up: (*both).add.
-/
import Derived.Test.YtljedcfpbdompaaDoorRefA
import Derived.Test.YtljedcfpbdompaaDoorSumMath
import Derived.Test.YtljedcfpbdompaaDoorBits
import Derived.RegionTactic
import Derived.ChangeAlike
import Derived.BigRegion
namespace Go.Proofs.YtljedcfpbdompaaDoor
set_option linter.unusedVariables false
open Go.RowKit

theorem ret_int {k : IntKind} {a b : Int} (h : a = b) : Ending.returned (.int k a) = .returned (.int k b) := by rw [h]

set_option maxRecDepth 100000 in
set_option maxHeartbeats 1000000 in
theorem add_any (g : Nat) (A : Option Addr) (n c : Nat) (xs : List Int) (c0 c1 : Int) (w : World) (B : Nat) (hx : Reads w B 1 A n (u8s xs)) (ho : Oct xs) (hc : n ≤ c) (hm : c ≤ 9223372036854775807)
    (hB0 : B ≤ w.heap.size) (hne : 0 < n → ∀ ad, A = some ad → ad.block ≠ g) (hb : Blk w g 150 #[.int .i64 c0, .int .i64 c1]) (h0 : 0 ≤ c0 ∧ c0 ≤ 254) (h1 : 0 ≤ c1 ∧ c1 ≤ 254) :
    Calls Tryd.prog 60 #[.pointer (some ⟨g, 0, none⟩), .slice A n c] w fun e w' => e = .returned (.tuple #[]) ∧
      Blk w' g 150 #[.int .i64 ((c0 + S0 xs) % 255), .int .i64 ((c1 + n * c0 + S1 xs) % 255)] ∧ w.grownBy w' (some g) := by
  obtain ⟨h00, h01⟩ := h0
  obtain ⟨h10, h11⟩ := h1
  go_enter Tryd.func60, Tryd.ntmps60
  have HNE : Hid (0 < n → ∀ ad, A = some ad → ad.block ≠ g) := hne
  clear hne
  go_wp2
  go_step3
  go_wp2
  go_step3
  go_wp2
  go_loopw [1] (fun b wr => ∃ (A' : Option Addr) (n' c' : Nat) (zs : List Int) (a0 a1 : Int), b = .slice A' n' c' ∧ n' ≤ c' ∧ c' ≤ 9223372036854775807 ∧ Reads wr B 1 A' n' (u8s zs) ∧ Oct zs ∧ Hid (0 < n' → ∀ ad, A' = some ad → ad.block ≠ g) ∧
      Blk wr g 150 #[.int .i64 a0, .int .i64 a1] ∧ 0 ≤ a0 ∧ a0 ≤ 254 ∧ 0 ≤ a1 ∧ a1 ≤ 254 ∧ Hid ((a0 + S0 zs) % 255 = (c0 + S0 xs) % 255) ∧ Hid ((a1 + n' * a0 + S1 zs) % 255 = (c1 + n * c0 + S1 xs) % 255) ∧ w.grownBy wr (some g))
    (fun b _ => match b with | .slice _ n _ => n | _ => 0)
  case atStart => exact ⟨A, n, c, xs, c0, c1, rfl, hc, hm, hx, ho, HNE, hb, h00, h01, h10, h11, rfl, rfl, World.grownBy.refl _ _⟩
  case round =>
    obtain ⟨A', n', c', zs, a0, a1, rfl, hc', hm', hz, hoz, hne', hblk, g0, g1, g2, g3, hf0, hf1, hgr⟩ := hrel
    by_cases h2 : 0 < n'
    · obtain ⟨wo, rfl⟩ : ∃ wo : World, wo = wr := ⟨_, rfl⟩
      have hne' : ∀ ad, A' = some ad → ad.block ≠ g := hne'.out h2
      have hB : B ≤ wo.heap.size := Nat.le_trans hB0 hgr.size
      by_cases h4 : n' ≤ 4000
      · go_wp2
        go_loopw [17] (fun i wq => ∃ (k : Nat) (b0 b1 : Int), i = .int .i64 k ∧ k ≤ n' ∧ Blk wq g 150 #[.int .i64 b0, .int .i64 b1] ∧ Hid (b0 = a0 + S0 (zs.take k)) ∧ Hid (b1 = a1 + k * a0 + S1 (zs.take k)) ∧
            0 ≤ b0 ∧ b0 ≤ 254 + 255 * k ∧ 0 ≤ b1 ∧ b1 ≤ 254 + 1030000 * k ∧ wo.grownBy wq (some g)) (fun i _ => n' - (intOf i).toNat)
        case atStart => exact ⟨0, a0, a1, rfl, by omega, hblk, by simp [Hid, S0], by simp [Hid, S1], g0, by omega, g2, by omega, World.grownBy.refl _ _⟩
        case round =>
          obtain ⟨k, b0, b1, rfl, hk, hblk2, hb0, hb1, r0, r1, r2, r3, hgr2⟩ := hrel
          have hk0 := hblk2.cell 0
          have hk1 := hblk2.cell 1
          have hf0' := hblk2.frozen 0
          have hf1' := hblk2.frozen 1
          simp at hk0 hk1
          by_cases hlt : k < n'
          · obtain ⟨a, x, rfl, _, hx1, hcx⟩ := (hz.only hB hne' hgr2).u8at (k := k) (by omega)
            obtain ⟨ox1, ox2⟩ := hoz _ _ hx1.out
            go_wp2
            go_region
            all_goals go_wp2
            go_region
            all_goals go_wp2
            go_roundw
            case rel =>
              have e1 := hblk2.set_ 0 (.int .i64 (b0 + x))
              simp at e1
              have e2 := e1.set_ 1 (.int .i64 (b1 + (b0 + x)))
              simp at e2
              exact ⟨k + 1, b0 + x, b1 + (b0 + x), by go_num, by omega, e2, add_round0 hx1.out hb0.out, add_round1 hx1.out hb0.out hb1.out, by omega, by omega, by omega, by omega,
                only_drew (only_setCell (only_drew (only_setCell hgr2 (.inl rfl) _)) (.inl rfl) _)⟩
            case measure => simp [intOf]; omega
          · have HN : Hid (∀ ad, A' = some ad → ad.block ≠ g) := hne'
            have hlz := Lib.hid hz.u8len
            clear hne'
            go_wp2
            go_region
            all_goals go_wp2
            go_roundw
            case rel =>
              have hkm : k = n' := by omega
              have e1 := hblk2.set_ 0 (.int .i64 (b0 % 255))
              simp at e1
              have e2 := e1.set_ 1 (.int .i64 (b1 % 255))
              simp at e2
              have gfin := only_drew (only_setCell (p := ⟨g, 1, none⟩) (only_setCell (p := ⟨g, 0, none⟩) hgr2 (.inl rfl) (.int .i64 (b0 % 255))) (.inl rfl) (.int .i64 (b1 % 255)))
              exact ⟨_, _, _, zs.drop n', b0 % 255, b1 % 255, rfl, by omega, by omega, (by have := (hz.only hB HN.out gfin).u8cut (k := n') (by omega) hc'; rw [Nat.sub_self] at this; exact this), hoz.drop _, (fun _ => map_block_if HN.out), e2, by omega, by omega, by omega, by omega, add_end0 (by rw [← hkm]; exact hb0.out) hf0.out,
                add_end1 (by rw [← hkm]; exact hb0.out) (by rw [← hkm]; exact hb1.out) hlz.out (by omega) (by omega) hf1.out, only_trans hgr gfin⟩
            case measure => simp; omega
      · go_wp2
        go_loopw [17] (fun i wq => ∃ (k : Nat) (b0 b1 : Int), i = .int .i64 k ∧ k ≤ 4000 ∧ Blk wq g 150 #[.int .i64 b0, .int .i64 b1] ∧ Hid (b0 = a0 + S0 (zs.take k)) ∧ Hid (b1 = a1 + k * a0 + S1 (zs.take k)) ∧
            0 ≤ b0 ∧ b0 ≤ 254 + 255 * k ∧ 0 ≤ b1 ∧ b1 ≤ 254 + 1030000 * k ∧ wo.grownBy wq (some g)) (fun i _ => 4000 - (intOf i).toNat)
        case atStart => exact ⟨0, a0, a1, rfl, by omega, hblk, by simp [Hid, S0], by simp [Hid, S1], g0, by omega, g2, by omega, World.grownBy.refl _ _⟩
        case round =>
          obtain ⟨k, b0, b1, rfl, hk, hblk2, hb0, hb1, r0, r1, r2, r3, hgr2⟩ := hrel
          have hk0 := hblk2.cell 0
          have hk1 := hblk2.cell 1
          have hf0' := hblk2.frozen 0
          have hf1' := hblk2.frozen 1
          simp at hk0 hk1
          by_cases hlt : k < 4000
          · obtain ⟨a, x, rfl, _, hx1, hcx⟩ := (hz.only hB hne' hgr2).u8at (k := k) (by omega)
            obtain ⟨ox1, ox2⟩ := hoz _ _ hx1.out
            go_wp2
            go_region
            all_goals go_wp2
            go_region
            all_goals go_wp2
            go_roundw
            case rel =>
              have e1 := hblk2.set_ 0 (.int .i64 (b0 + x))
              simp at e1
              have e2 := e1.set_ 1 (.int .i64 (b1 + (b0 + x)))
              simp at e2
              exact ⟨k + 1, b0 + x, b1 + (b0 + x), by go_num, by omega, e2, add_round0 hx1.out hb0.out, add_round1 hx1.out hb0.out hb1.out, by omega, by omega, by omega, by omega,
                only_drew (only_setCell (only_drew (only_setCell hgr2 (.inl rfl) _)) (.inl rfl) _)⟩
            case measure => simp [intOf]; omega
          · have HN : Hid (∀ ad, A' = some ad → ad.block ≠ g) := hne'
            have hlz := Lib.hid hz.u8len
            clear hne'
            go_wp2
            go_region
            all_goals go_wp2
            go_roundw
            case rel =>
              have hkm : k = 4000 := by omega
              have e1 := hblk2.set_ 0 (.int .i64 (b0 % 255))
              simp at e1
              have e2 := e1.set_ 1 (.int .i64 (b1 % 255))
              simp at e2
              have gfin := only_drew (only_setCell (p := ⟨g, 1, none⟩) (only_setCell (p := ⟨g, 0, none⟩) hgr2 (.inl rfl) (.int .i64 (b0 % 255))) (.inl rfl) (.int .i64 (b1 % 255)))
              exact ⟨_, _, _, zs.drop 4000, b0 % 255, b1 % 255, rfl, by omega, by omega, ((hz.only hB HN.out gfin).u8cutc (by omega) (by omega)), hoz.drop _, (fun _ => map_block HN.out), e2, by omega, by omega, by omega, by omega, add_end0 (by rw [← hkm]; exact hb0.out) hf0.out,
                add_end1 (by rw [← hkm]; exact hb0.out) (by rw [← hkm]; exact hb1.out) hlz.out (by omega) (by omega) hf1.out, only_trans hgr gfin⟩
            case measure => simp; omega
    · have hz0 : zs = [] := List.eq_nil_of_length_eq_zero (by rw [hz.u8len]; omega)
      subst hz0
      have hn0 : n' = 0 := by omega
      subst hn0
      have e0 : a0 = (c0 + S0 xs) % 255 := by rw [← hf0.out]; simp [S0]; omega
      have e1 : a1 = (c1 + n * c0 + S1 xs) % 255 := by rw [← hf1.out]; simp [S1]; omega
      have E0 := Lib.hid e0
      have E1 := Lib.hid e1
      clear e0 e1 hf0 hf1
      go_wp2
      simp only [Exit.noGoto]
      go_end0
      exact ⟨rfl, by rw [← E0.out, ← E1.out]; exact hblk, hgr⟩
end Go.Proofs.YtljedcfpbdompaaDoor
