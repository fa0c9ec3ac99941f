/-
  The reference's number and split, walked.
-/
import Derived.Test.YtljmmpjcagchmaaDoorPfxTxt
namespace Go.Proofs.YtljmmpjcagchmaaDoor
set_option linter.unusedVariables false
open Go.RowKit

/-- The value of digits, behind n. -/
def valR : List UInt8 → Nat → Option Nat
  | [], n => some n
  | c :: r, n => if 48 ≤ c.toNat ∧ c.toNat ≤ 57 then valR r (10 * n + (c.toNat - 48)) else none
/-- What number answers. -/
def numR (l : List UInt8) (most : Nat) : Nat × Bool :=
  if l.length = 0 ∨ 3 < l.length ∨ (1 < l.length ∧ l.headD 0 = 48) then (0, false)
  else match valR l 0 with
    | none => (0, false)
    | some n => (n, decide (n ≤ most))
abbrev outR (x : Nat × Bool) : Value := .tuple #[.int .i64 x.1, .bool x.2]
def NRel (w : World) (s : ByteArray) (n i : Value) (wr : World) : Prop :=
  ∃ k acc : Nat, i = .int .i64 k ∧ n = .int .i64 acc ∧ k ≤ s.size ∧ acc < 10 ^ k ∧ Hid (valR (bytesOf s) 0 = valR ((bytesOf s).drop k) acc) ∧ wr = w
theorem len_bytes (s : ByteArray) : (bytesOf s).length = s.size := by rw [Array.length_toList]; rfl
theorem u8_48 (c : UInt8) : c = 48 ↔ c.toNat = 48 := ⟨fun h => by rw [h]; rfl, fun h => UInt8.toNat_inj.1 h⟩
set_option maxRecDepth 100000 in
set_option maxHeartbeats 2000000 in
theorem number_any (w : World) (s : ByteArray) (most : Nat) (hm : s.size ≤ 1099511627776) (hmo : most ≤ 1000) :
    Calls Tryd.prog 41 #[.string s, .int .i64 most] w fun e w' => e = .returned (outR (numR (bytesOf s) most)) ∧ w = w' := by
  have hl := len_bytes s
  by_cases hbad : (bytesOf s).length = 0 ∨ 3 < (bytesOf s).length ∨ (1 < (bytesOf s).length ∧ (bytesOf s).headD 0 = 48)
  · have hR : Hid (numR (bytesOf s) most = (0, false)) := by show _ = _; unfold numR; rw [if_pos hbad]
    rw [hl] at hbad
    rcases hbad with h | h | ⟨h1, h2⟩
    · have h0 : ((s.size : Int) == 0) = true := beq_iff_eq.2 (by omega)
      have hi : (s.size : Int) = 0 := by omega
      clear hl
      go_enter Tryd.func41, Tryd.ntmps41
      go_wp2
      go_ret2
      exact ⟨by rw [hR.out]; rfl, rfl⟩
    · have h0 : ((s.size : Int) == 0) = false := beq_eq_false_iff_ne.2 (by omega)
      have hi : (3 : Int) < s.size := by omega
      clear hl
      go_enter Tryd.func41, Tryd.ntmps41
      go_wp2
      go_ret2
      exact ⟨by rw [hR.out]; rfl, rfl⟩
    · by_cases h3 : 3 < s.size
      · have h0 : ((s.size : Int) == 0) = false := beq_eq_false_iff_ne.2 (by omega)
        have hi : (3 : Int) < s.size := by omega
        clear hl
        go_enter Tryd.func41, Tryd.ntmps41
        go_wp2
        go_ret2
        exact ⟨by rw [hR.out]; rfl, rfl⟩
      · have h0 : ((s.size : Int) == 0) = false := beq_eq_false_iff_ne.2 (by omega)
        have hi : decide ((3 : Int) < s.size) = false := decide_eq_false (by omega)
        have h1i : (1 : Int) < s.size := by omega
        have h0i : (0 : Int) < s.size := by omega
        have h00 : 0 < s.size := by omega
        have hh := head_at (i := 0) h00
        rw [List.drop_zero] at hh
        rw [hh] at h2
        have h48 : (s[0].toNat : Int) = 48 := by rw [h2]; rfl
        clear hl
        go_enter Tryd.func41, Tryd.ntmps41
        go_wp2
        go_ret2
        exact ⟨by rw [hR.out]; rfl, rfl⟩
  · have hR : Hid (numR (bytesOf s) most = match valR (bytesOf s) 0 with | none => (0, false) | some n => (n, decide (n ≤ most))) := by show _ = _; unfold numR; rw [if_neg hbad]
    rw [hl] at hbad
    have h0 : ((s.size : Int) == 0) = false := beq_eq_false_iff_ne.2 (by omega)
    have hi : decide ((3 : Int) < s.size) = false := decide_eq_false (by omega)
    have hs3 : s.size ≤ 3 := by omega
    have hs1 : 0 < s.size := by omega
    have hh := head_at (i := 0) hs1
    rw [List.drop_zero] at hh
    rw [hh] at hbad
    by_cases h1 : 1 < s.size
    · have h1i : (1 : Int) < s.size := by omega
      have h0i : (0 : Int) < s.size := by omega
      have h48 : ((s[0].toNat : Int) == 48) = false := by
        simp only [beq_eq_false_iff_ne, ne_eq]
        intro h; exact hbad (.inr (.inr ⟨h1, (u8_48 _).2 (by omega)⟩))
      clear hh hbad
      go_enter Tryd.func41, Tryd.ntmps41
      go_wp2
      go_loopw [6, 7] (NRel w s) (fun _ i _ => s.size - (intOf i).toNat)
      case atStart => exact ⟨0, 0, rfl, rfl, by omega, by omega, rfl, rfl⟩
      case round =>
        obtain ⟨k, acc, rfl, rfl, hk, hacc, hval, rfl⟩ := hrel
        by_cases hlt : k < s.size
        · have hlti : (k : Int) < s.size := by omega
          have hd := drop_at hlt
          by_cases h2 : 48 ≤ s[k].toNat
          · have h2i : decide ((s[k].toNat : Int) < 48) = false := decide_eq_false (by omega)
            by_cases h3 : s[k].toNat ≤ 57
            · have h3i : decide ((57 : Int) < s[k].toNat) = false := decide_eq_false (by omega)
              have h10 : 10 ^ k ≤ 100 := Nat.pow_le_pow_right (n := 10) (by decide) (by omega : k ≤ 2)
              have h101 : 10 ^ (k + 1) = 10 * 10 ^ k := by rw [Nat.pow_succ]; omega
              have hnew : Hid (valR (bytesOf s) 0 = valR ((bytesOf s).drop (k + 1)) (10 * acc + (s[k].toNat - 48))) := by
                show _ = _
                rw [hval.out, hd, valR, if_pos ⟨h2, h3⟩]
              clear hval hd
              go_wp2
              go_roundw
              case rel => exact ⟨k + 1, 10 * acc + (s[k].toNat - 48), by simp, by congr 1; omega, by omega, by omega, hnew, rfl⟩
              case measure => simp [intOf]; omega
            · have h3i : (57 : Int) < s[k].toNat := by omega
              have hv : Hid (numR (bytesOf s) most = (0, false)) := by show _ = _; rw [hR.out, hval.out, hd, valR, if_neg (by omega)]
              clear hval hd
              go_wp2
              go_ret2
              exact ⟨by rw [hv.out]; rfl, rfl⟩
          · have h2i : (s[k].toNat : Int) < 48 := by omega
            have hv : Hid (numR (bytesOf s) most = (0, false)) := by show _ = _; rw [hR.out, hval.out, hd, valR, if_neg (by omega)]
            clear hval hd
            go_wp2
            go_ret2
            exact ⟨by rw [hv.out]; rfl, rfl⟩
        · have hlti : decide ((k : Int) < s.size) = false := decide_eq_false (by omega)
          have hv : Hid (numR (bytesOf s) most = (acc, decide (acc ≤ most))) := by show _ = _; rw [hR.out, hval.out, drop_end (by omega), valR]
          have hdm : Hid (decide (acc ≤ most) = decide ((acc : Int) ≤ (most : Int))) := by show _ = _; rw [Bool.eq_iff_iff]; simp
          clear hval
          go_wp2
          go_ret2
          exact ⟨by rw [hv.out, hdm.out]; rfl, rfl⟩
    · have h1i : decide ((1 : Int) < s.size) = false := decide_eq_false (by omega)
      clear hh hbad
      go_enter Tryd.func41, Tryd.ntmps41
      go_wp2
      go_loopw [6, 7] (NRel w s) (fun _ i _ => s.size - (intOf i).toNat)
      case atStart => exact ⟨0, 0, rfl, rfl, by omega, by omega, rfl, rfl⟩
      case round =>
        obtain ⟨k, acc, rfl, rfl, hk, hacc, hval, rfl⟩ := hrel
        by_cases hlt : k < s.size
        · have hlti : (k : Int) < s.size := by omega
          have hd := drop_at hlt
          by_cases h2 : 48 ≤ s[k].toNat
          · have h2i : decide ((s[k].toNat : Int) < 48) = false := decide_eq_false (by omega)
            by_cases h3 : s[k].toNat ≤ 57
            · have h3i : decide ((57 : Int) < s[k].toNat) = false := decide_eq_false (by omega)
              have h10 : 10 ^ k ≤ 100 := Nat.pow_le_pow_right (n := 10) (by decide) (by omega : k ≤ 2)
              have h101 : 10 ^ (k + 1) = 10 * 10 ^ k := by rw [Nat.pow_succ]; omega
              have hnew : Hid (valR (bytesOf s) 0 = valR ((bytesOf s).drop (k + 1)) (10 * acc + (s[k].toNat - 48))) := by
                show _ = _
                rw [hval.out, hd, valR, if_pos ⟨h2, h3⟩]
              clear hval hd
              go_wp2
              go_roundw
              case rel => exact ⟨k + 1, 10 * acc + (s[k].toNat - 48), by simp, by congr 1; omega, by omega, by omega, hnew, rfl⟩
              case measure => simp [intOf]; omega
            · have h3i : (57 : Int) < s[k].toNat := by omega
              have hv : Hid (numR (bytesOf s) most = (0, false)) := by show _ = _; rw [hR.out, hval.out, hd, valR, if_neg (by omega)]
              clear hval hd
              go_wp2
              go_ret2
              exact ⟨by rw [hv.out]; rfl, rfl⟩
          · have h2i : (s[k].toNat : Int) < 48 := by omega
            have hv : Hid (numR (bytesOf s) most = (0, false)) := by show _ = _; rw [hR.out, hval.out, hd, valR, if_neg (by omega)]
            clear hval hd
            go_wp2
            go_ret2
            exact ⟨by rw [hv.out]; rfl, rfl⟩
        · have hlti : decide ((k : Int) < s.size) = false := decide_eq_false (by omega)
          have hv : Hid (numR (bytesOf s) most = (acc, decide (acc ≤ most))) := by show _ = _; rw [hR.out, hval.out, drop_end (by omega), valR]
          have hdm : Hid (decide (acc ≤ most) = decide ((acc : Int) ≤ (most : Int))) := by show _ = _; rw [Bool.eq_iff_iff]; simp
          clear hval
          go_wp2
          go_ret2
          exact ⟨by rw [hv.out, hdm.out]; rfl, rfl⟩
end Go.Proofs.YtljmmpjcagchmaaDoor
