/-
  Same of both, 'lives', and the law DigestSame, walked.
-/
import Derived.Test.YtkgdeneonobibaaDig3
import Derived.Test.YtkgdeneonobibaaArrEq
import Derived.Lib.SlBytesConst
namespace Go.Proofs.Ytkgdeneonobibaa
set_option linter.unusedVariables false
open Go.RowKit

theorem u8_or_xor {u x y : Int} (u0 : 0 ≤ u) (u1 : u ≤ 255) (x0 : 0 ≤ x) (x1 : x ≤ 255) (y0 : 0 ≤ y) (y1 : y ≤ 255) :
    0 ≤ bits .or .u8 u (bits .xor .u8 x y) ∧ bits .or .u8 u (bits .xor .u8 x y) ≤ 255 ∧ (bits .or .u8 u (bits .xor .u8 x y) = 0 ↔ u = 0 ∧ x = y) := by
  obtain ⟨a, rfl⟩ := Int.eq_ofNat_of_zero_le u0
  obtain ⟨b, rfl⟩ := Int.eq_ofNat_of_zero_le x0
  obtain ⟨c, rfl⟩ := Int.eq_ofNat_of_zero_le y0
  have hx : b ^^^ c < 2 ^ 8 := Nat.xor_lt_two_pow (by omega) (by omega)
  have ho : a ||| (b ^^^ c) < 2 ^ 8 := Nat.or_lt_two_pow (by omega) hx
  rw [u8_xor_nat b c (by omega) (by omega), u8_or_nat a _ (by omega) (by omega)]
  refine ⟨by omega, by omega, ?_⟩
  have e : a ||| (b ^^^ c) = 0 ↔ a = 0 ∧ b = c := by
    rw [Nat.or_eq_zero_iff]
    constructor
    · rintro ⟨h, h'⟩
      have := congrArg (· ^^^ c) h'
      simp [Nat.xor_assoc] at this
      exact ⟨h, this⟩
    · rintro ⟨h, rfl⟩
      exact ⟨h, Nat.xor_self _⟩
  constructor
  · intro h
    have := e.1 (by omega)
    omega
  · intro h
    have := e.2 (by omega)
    omega
theorem take_iff {xs ys : List Int} {k : Nat} {x y u v : Int} (h1 : xs[k]? = some x) (h2 : ys[k]? = some y) (hu : u = 0 ↔ xs.take k = ys.take k) (hv : v = 0 ↔ u = 0 ∧ x = y) : v = 0 ↔ xs.take (k + 1) = ys.take (k + 1) := by
  rw [hv, hu, List.take_add_one, List.take_add_one, h1, h2]
  have hl : (xs.take k).length = (ys.take k).length := by
    have a : k < xs.length := by
      rcases Nat.lt_or_ge k xs.length with h | h
      · exact h
      · rw [List.getElem?_eq_none h] at h1; cases h1
    have b : k < ys.length := by
      rcases Nat.lt_or_ge k ys.length with h | h
      · exact h
      · rw [List.getElem?_eq_none h] at h2; cases h2
    simp; omega
  constructor
  · rintro ⟨h, rfl⟩
    rw [h]
  · intro h
    have := List.append_inj h hl
    exact ⟨this.1, by simpa using this.2⟩

set_option maxHeartbeats 400000 in
theorem same_any (A A' : Option Addr) (n c n' c' : Nat) (xs ys : List Int) (w : World) (B B' : Nat) (hx : Reads w B 1 A n (u8s xs)) (hy : Reads w B' 1 A' n' (u8s ys)) (hox : Oct xs) (hoy : Oct ys) (hn : n ≤ 9223372036854775807) (hn' : n' ≤ 9223372036854775807) :
    Calls Try.prog 92 #[.slice A n c, .slice A' n' c'] w fun e w' => e = .returned (.bool (decide (xs = ys))) ∧ ∃ k, w' = w.drewN k := by
  have hlx := hx.u8len
  have hly := hy.u8len
  by_cases hl : n = n'
  · obtain rfl := hl
    have Hlx := Lib.hid hlx
    have Hly := Lib.hid hly
    clear hlx hly
    go_enter Try.func92, Try.ntmps92
    go_wp2
    go_loopw [5, 14] (fun u i wr => ∃ (k : Nat) (v : Int), i = .int .i64 k ∧ u = .int .u8 v ∧ k ≤ n ∧ 0 ≤ v ∧ v ≤ 255 ∧ Hid (v = 0 ↔ xs.take k = ys.take k) ∧ ∃ d, wr = w.drewN d) (fun _ i _ => n - (intOf i).toNat)
    case atStart => exact ⟨0, 0, rfl, rfl, by omega, by omega, by omega, by simp [Hid], 0, rfl⟩
    case round =>
      obtain ⟨k, v, rfl, rfl, hk, hv0, hv1, hv, d, rfl⟩ := hrel
      by_cases hlt : k < n
      · obtain ⟨a, x, rfl, _, hx1, h1⟩ := hx.u8at hlt
        obtain ⟨a', y, rfl, _, hy1, h2⟩ := hy.u8at hlt
        obtain ⟨x0, x1⟩ := hox _ _ hx1.out
        obtain ⟨y0, y1⟩ := hoy _ _ hy1.out
        have hb := u8_or_xor hv0 hv1 x0 x1 y0 y1
        have HB := Lib.hid hb
        clear hb
        go_wp2
        go_quiet (fail)
        go_wp2
        go_roundw
        case rel => exact ⟨k + 1, _, by go_num, rfl, by omega, HB.out.1, HB.out.2.1, take_iff hx1.out hy1.out hv.out HB.out.2.2, _, rfl⟩
        case measure => simp [intOf]; omega
      · obtain rfl : n = k := by omega
        have heq : Hid ((v == 0) = decide (xs = ys)) := by
          have := hv.out
          rw [List.take_of_length_le (by rw [Hlx.out]; omega), List.take_of_length_le (by rw [Hly.out]; omega)] at this
          show _ = _
          rw [Bool.eq_iff_iff]
          simp [this]
        clear Hlx Hly
        go_wp2
        go_ret
        exact ⟨by rw [← heq.out]; rfl, _, rfl⟩
  · have hb : ((n : Int) != (n' : Int)) = true := by simp; omega
    have hne : xs ≠ ys := by rintro rfl; omega
    clear hlx hly
    go_enter Try.func92, Try.ntmps92
    go_wp2
    go_ret
    exact ⟨by simp [hne], 0, rfl⟩

set_option maxHeartbeats 400000 in
theorem refSame_any (A A' : Option Addr) (n c n' c' : Nat) (xs ys : List Int) (w : World) (B B' : Nat)
   (hx : Reads w B 1 A n (u8s xs)) (hy : Reads w B' 1 A' n' (u8s ys)) (hn : n ≤ 9223372036854775807) (hn' : n' ≤ 9223372036854775807) :
    Calls Try.prog 51 #[.slice A n c, .slice A' n' c'] w fun e w' => e = .returned (.bool (decide (xs = ys))) ∧ ∃ k, w' = w.drewN k := by
  have hlx := hx.u8len
  have hly := hy.u8len
  by_cases hl : n = n'
  · obtain rfl := hl
    have Hlx := Lib.hid hlx
    have Hly := Lib.hid hly
    clear hlx hly
    go_enter Try.func51, Try.ntmps51
    go_wp2
    go_loopw [5] (fun i wr => ∃ k : Nat, i = .int .i64 k ∧ k ≤ n ∧ Hid (xs.take k = ys.take k) ∧ ∃ d, wr = w.drewN d) (fun i _ => n - (intOf i).toNat)
    case atStart => exact ⟨0, rfl, by omega, rfl, 0, rfl⟩
    case round =>
      obtain ⟨k, rfl, hk, he, d, rfl⟩ := hrel
      by_cases hlt : k < n
      · obtain ⟨a, x, rfl, _, hx1, h1⟩ := hx.u8at hlt
        obtain ⟨a', y, rfl, _, hy1, h2⟩ := hy.u8at hlt
        by_cases hxy : x = y
        · have hb : (x != y) = false := by simp [hxy]
          have Hxy := Lib.hid hxy
          clear hxy
          go_wp2
          go_quiet (fail)
          go_wp2
          go_roundw
          case rel => exact ⟨k + 1, by go_num, by omega, take_snoc2 hx1 hy1 Hxy.out he, _, rfl⟩
          case measure => simp [intOf]; omega
        · have hb : (x != y) = true := by simp [hxy]
          have hne := u8s_nth_ne hx1 hy1 hxy
          clear hxy
          go_wp2
          go_quiet (fail)
          go_wp2
          go_ret
          exact ⟨by simp [hne], _, World.drewN_drewN ..⟩
      · obtain rfl : n = k := by omega
        have heq : xs = ys := by have := he.out; rwa [List.take_of_length_le (by rw [Hlx.out]; omega), List.take_of_length_le (by rw [Hly.out]; omega)] at this
        clear Hlx Hly he
        go_wp2
        go_ret
        exact ⟨by simp [heq], _, rfl⟩
  · have hb : ((n : Int) != (n' : Int)) = true := by simp; omega
    have hne : xs ≠ ys := by rintro rfl; omega
    clear hlx hly
    go_enter Try.func51, Try.ntmps51
    go_wp2
    go_ret
    exact ⟨by simp [hne], 0, rfl⟩

theorem md_abc : md [97, 98, 99] = [144, 1, 80, 152, 60, 210, 79, 176, 214, 150, 63, 125, 40, 225, 127, 114] := by decide +kernel

theorem oct_of (zs : List Int) (h : (zs.all fun x => decide (0 ≤ x) && decide (x ≤ 255)) = true) : Oct zs := Oct.of_mem fun x hx => by
  have := List.all_eq_true.1 h x hx
  simpa using this

theorem md_len (xs : List Int) : (md xs).length = 16 := by unfold md; exact outOf_length _
end Go.Proofs.Ytkgdeneonobibaa
