/-
  Contracts of WideBytes and SpareBytes.
-/
import Derived.Test.YtbkejlalbjomkaaRefA
namespace Go.Proofs.Ytbkejlalbjomkaa
set_option linter.unusedVariables false
open Go.RowKit

/-- What WideBytes leaves: a new block with the bytes and the marks. -/
def WideAt (w w' : World) (xs : List Int) (e : Ending) : Prop :=
  ∃ g, e = .returned (.slice (some ⟨g, 0, none⟩) xs.length (xs.length + 64)) ∧ w.heap.size ≤ g ∧ Blk w' g 5 (u8s (wide xs)).toArray ∧ Below w.heap.size w w'

set_option maxHeartbeats 400000 in
theorem wideBytes_any (A : Option Addr) (n c : Nat) (xs : List Int) (w : World) (hx : Reads w w.heap.size 1 A n (u8s xs)) (hn : n ≤ 1099511627776) :
    Calls Try.prog 67 #[.slice A n c] w fun e w' => WideAt w w' xs e := by
  have hlx := hx.u8len
  have hmk := fun W => run_make_row' (P := Try.prog) 39 5 _ 1 Try.underlying39 info_u8 rfl .i64 .i64 (n + 64) (by omega) (by omega) W
  have ec : ((n + 64 : Nat) : Int) = (n : Int) + 64 := by omega
  rw [ec] at hmk
  have hz0 : madeCells #[.int .u8 0] (n + 64) = Fill (.int .u8 0) (u8s (wide xs)) 0 := by
    rw [Fill.zero, u8s_length, wide_length, hlx]; simp [madeCells, Array.ext_iff, Nat.mod_one]
  rw [hz0] at hmk
  have Hlx := Lib.hid hlx
  clear hlx hz0 ec
  go_enter Try.func67, Try.ntmps67
  go_wp2
  go_loopw [4] (fun i wr => ∃ k : Nat, i = .int .i64 k ∧ k ≤ n + 64 ∧ Blk wr w.heap.size 5 (Fill (.int .u8 0) (u8s (wide xs)) k) ∧ Below w.heap.size w wr) (fun i _ => n + 64 - (intOf i).toNat)
  case atStart => exact ⟨0, rfl, by omega, Blk.new _ _ _, (Below.refl _ _).alloc (Nat.le_refl _) _⟩
  case round =>
    obtain ⟨k, rfl, hk, hblk, hbel⟩ := hrel
    by_cases hlt : k < n
    · obtain ⟨a, x, rfl, _, hx1, h1⟩ := (hx.below hbel).u8at hlt
      have hwl : k < (u8s (wide xs)).length := by rw [u8s_length, wide_length, Hlx.out]; omega
      have h2 : wr.cell? ⟨w.heap.size, k, none⟩ = some (.int .u8 0) := by rw [hblk.cell, Fill.at_ _ _ hwl]
      have h3 := hblk.frozen k
      clear hwl
      go_wp2
      go_roundw
      case rel =>
        refine ⟨k + 1, by go_num, by omega, ?_, hbel.setCell (Nat.le_refl _) _⟩
        have := hblk.set_ k (.int .u8 x)
        rwa [Fill.set _ _ (u8s_get_of (wide_low hx1))] at this
      case measure => simp [intOf]; omega
    · by_cases hlt2 : k < n + 64
      · have hwl : k < (u8s (wide xs)).length := by rw [u8s_length, wide_length, Hlx.out]; omega
        have h2 : wr.cell? ⟨w.heap.size, k, none⟩ = some (.int .u8 0) := by rw [hblk.cell, Fill.at_ _ _ hwl]
        have h3 := hblk.frozen k
        clear hwl
        go_wp2
        go_roundw
        case rel =>
          refine ⟨k + 1, by go_num, by omega, ?_, hbel.setCell (Nat.le_refl _) _⟩
          have := hblk.set_ k (.int .u8 ((279 + 7 * (k : Int) + 3) % 256))
          rw [Fill.set _ _ (u8s_get_of (wide_high (by rw [Hlx.out]; omega) (by rw [Hlx.out]; omega)))] at this
          exact this
        case measure => simp [intOf]; omega
      · go_wp2
        go_ret
        obtain rfl : k = n + 64 := by omega
        refine ⟨w.heap.size, by rw [Hlx.out]; rfl, Nat.le_refl _, ?_, hbel⟩
        rwa [Fill.full _ _ (by rw [u8s_length, wide_length, Hlx.out]; omega)] at hblk

end Go.Proofs.Ytbkejlalbjomkaa
