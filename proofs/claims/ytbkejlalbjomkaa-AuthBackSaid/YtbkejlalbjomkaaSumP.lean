/-
  Walks of package sum and of its reference.
-/
import Derived.Test.YtbkejlalbjomkaaRefW
import Derived.Test.YtbkejlalbjomkaaSumB2
import Derived.Test.YtbkejlalbjomkaaSumMath
import Derived.Test.YtbkejlalbjomkaaBits
namespace Go.Proofs.Ytbkejlalbjomkaa
set_option linter.unusedVariables false
open Go.RowKit



set_option maxHeartbeats 400000 in
theorem folded_any (A : Option Addr) (n c : Nat) (xs : List Int) (w : World) (B : Nat) (hx : Reads w B 1 A n (u8s xs)) (ho : Oct xs) (hc : n ≤ c) (hm : c ≤ 9223372036854775807) :
    Calls Try.prog 82 #[.slice A n c] w fun e w' => e = .returned (.int .u32 (foldS (ws true xs))) ∧ ∃ k, w' = w.drewN k := by
  go_enter Try.func82, Try.ntmps82
  go_wp2
  go_loopw [0, 3] (fun b s wr => ∃ (A' : Option Addr) (n' c' : Nat) (zs : List Int) (t : Int), b = .slice A' n' c' ∧ s = .int .u32 t ∧ 0 ≤ t ∧ t ≤ 65535 ∧ n' ≤ c' ∧ c' ≤ 9223372036854775807 ∧ Reads w B 1 A' n' (u8s zs) ∧ Oct zs ∧ Hid (foldS (t + ws true zs) = foldS (ws true xs)) ∧ ∃ d, wr = w.drewN d)
    (fun b _ _ => match b with | .slice _ n _ => n | _ => 0)
  case atStart => exact ⟨A, n, c, xs, 0, rfl, rfl, by omega, by omega, hc, hm, hx, ho, by simp [Hid], 0, rfl⟩
  case round =>
    obtain ⟨A', n', c', zs, t, rfl, rfl, ht0, ht1, hc', hm', hz, hoz, hf, d, rfl⟩ := hrel
    by_cases h2 : 1 < n'
    · obtain ⟨a, x, rfl, _, hx1, h1⟩ := hz.u8at0 (by omega)
      obtain ⟨a', y, e', _, hy1, h2'⟩ := hz.u8atc (k := 1) (by omega) (by omega)
      obtain rfl : a = a' := by injection e'
      obtain ⟨ox1, ox2⟩ := hoz _ _ hx1.out
      obtain ⟨oy1, oy2⟩ := hoz _ _ hy1.out
      have b0 : 0 < n' := by omega
      have w1 : IntKind.u32.wrap x = x := IntWalk.u32_in _ (by omega)
      have w2 : IntKind.u32.wrap y = y := IntWalk.u32_in _ (by omega)
      have w3 : IntKind.u32.wrap (x * 256) = x * 256 := IntWalk.u32_in _ (by omega)
      have w4 := u32_or_8 x y ox1 (by omega) oy1 oy2
      have w5 : IntKind.u32.wrap (t + (x * 256 + y)) = t + (x * 256 + y) := IntWalk.u32_in _ (by omega)
      go_wp2
      go_quiet (fail)
      clear w1 w2 w3 w4 w5
      have hcut := hz.u8cut (k := 2) (by omega) hc'
      by_cases hbig : 65535 < t + (x * 256 + y)
      · go_wp2
        go_roundw
        case rel => exact ⟨_, _, _, _, _, rfl, rfl, by omega, by omega, by omega, by omega, hcut, hoz.drop 2, foldS_word2 hoz hx1.out hy1.out hf.out hbig, _, rfl⟩
        case measure => simp; omega
      · go_wp2
        go_roundw
        case rel => exact ⟨_, _, _, _, _, rfl, rfl, by omega, by omega, by omega, by omega, hcut, hoz.drop 2, foldS_word hx1.out hy1.out hf.out, _, rfl⟩
        case measure => simp; omega
    · have hlz := Lib.hid hz.u8len
      by_cases h1' : n' = 1
      · obtain ⟨a, x, rfl, _, hx1, h1⟩ := hz.u8at0 (by omega)
        obtain ⟨ox1, ox2⟩ := hoz _ _ hx1.out
        have hT2 : Hid (t + 256 * x = t + x * 256) := by show _ = _; omega
        have hfin : Hid (foldS (t + 256 * x) = foldS (ws true xs)) := by
          rw [← hf.out]
          have : zs = [x] := by
            have := hlz.out
            have h2 := hx1.out
            rcases zs with _ | ⟨b, _ | ⟨c, r⟩⟩ <;> simp at this h2 <;> first | omega | simp [h2]
          rw [this]
          simp [ws, Hid]
        have b0 : 0 < n' := by omega
        have hb : ((n' : Int) == 1) = true := by simp; omega
        have w1 : IntKind.u32.wrap x = x := IntWalk.u32_in _ (by omega)
        have w3 : IntKind.u32.wrap (x * 256) = x * 256 := IntWalk.u32_in _ (by omega)
        clear hlz hf
        go_wp2
        go_loopw [3] (fun s wr => ∃ t' : Int, s = .int .u32 t' ∧ 0 ≤ t' ∧ t' ≤ 131071 ∧ Hid (foldS t' = foldS (ws true xs)) ∧ ∃ d, wr = w.drewN d) (fun s _ => (intOf s).toNat)
        case atStart => exact ⟨_, rfl, by omega, by omega, by rw [← hT2.out]; exact hfin.out, d, rfl⟩
        case round =>
          obtain ⟨t', rfl, ht0', ht1', hf', d', rfl⟩ := hrel
          by_cases hbig : 65535 < t'
          · have w5 := u32_and_mask16 t' ht0' (by omega)
            have w6 : IntKind.u32.wrap (t' / 65536 + t' % 65536) = t' / 65536 + t' % 65536 := IntWalk.u32_in _ (by omega)
            have hs := foldS_step hbig
            have hs1 := Lib.hid hs.1
            obtain ⟨_, hs2, hs3⟩ := hs
            go_wp2
            go_roundw
            case rel => exact ⟨_, rfl, by omega, by omega, hs1.out.trans hf'.out, _, rfl⟩
            case measure => simp [intOf]; omega
          · have hs := Lib.hid (foldS_small (t := t') ht0' (by omega))
            go_wp2
            go_ret
            exact ⟨ret_int (by rw [← hs.out]; exact hf'.out), _, rfl⟩
      · have hfin : Hid (foldS t = foldS (ws true xs)) := by
          rw [← hf.out]
          have : zs = [] := List.eq_nil_of_length_eq_zero (by rw [hlz.out]; omega)
          rw [this]
          simp [ws, Hid]
        have hb : ((n' : Int) == 1) = false := by simp; omega
        clear hlz hf
        go_wp2
        go_loopw [3] (fun s wr => ∃ t' : Int, s = .int .u32 t' ∧ 0 ≤ t' ∧ t' ≤ 131071 ∧ Hid (foldS t' = foldS (ws true xs)) ∧ ∃ d, wr = w.drewN d) (fun s _ => (intOf s).toNat)
        case atStart => exact ⟨_, rfl, by omega, by omega, by exact hfin.out, d, rfl⟩
        case round =>
          obtain ⟨t', rfl, ht0', ht1', hf', d', rfl⟩ := hrel
          by_cases hbig : 65535 < t'
          · have w5 := u32_and_mask16 t' ht0' (by omega)
            have w6 : IntKind.u32.wrap (t' / 65536 + t' % 65536) = t' / 65536 + t' % 65536 := IntWalk.u32_in _ (by omega)
            have hs := foldS_step hbig
            have hs1 := Lib.hid hs.1
            obtain ⟨_, hs2, hs3⟩ := hs
            go_wp2
            go_roundw
            case rel => exact ⟨_, rfl, by omega, by omega, hs1.out.trans hf'.out, _, rfl⟩
            case measure => simp [intOf]; omega
          · have hs := Lib.hid (foldS_small (t := t') ht0' (by omega))
            go_wp2
            go_ret
            exact ⟨ret_int (by rw [← hs.out]; exact hf'.out), _, rfl⟩

theorem plain_any (A : Option Addr) (n c : Nat) (xs : List Int) (w : World) (B : Nat) (hx : Reads w B 1 A n (u8s xs)) (ho : Oct xs) (hc : n ≤ c) (hm : c ≤ 9223372036854775807) :
    Calls Try.prog 42 #[.slice A n c] w fun e w' => e = .returned (.int .u16 (65535 - foldS (ws true xs))) ∧ ∃ k, w' = w.drewN k := by
  have hr := foldS_range (ws_nonneg ho true).1
  go_enter Try.func42, Try.ntmps42
  go_wp2_with (go_at_call 82; refine (folded_any _ _ _ _ _ _ hx ho hc hm).mono ?_; rintro e w' ⟨rfl, k, rfl⟩)
  go_ret
  exact ⟨ret_int (by omega), _, rfl⟩
theorem right_any (A : Option Addr) (n c : Nat) (xs : List Int) (w : World) (B : Nat) (hx : Reads w B 1 A n (u8s xs)) (ho : Oct xs) (hc : n ≤ c) (hm : c ≤ 9223372036854775807) :
    Calls Try.prog 64 #[.slice A n c] w fun e w' => e = .returned (.bool (foldS (ws true xs) == 65535)) ∧ ∃ k, w' = w.drewN k := by
  go_enter Try.func64, Try.ntmps64
  go_wp2_with (go_at_call 82; refine (folded_any _ _ _ _ _ _ hx ho hc hm).mono ?_; rintro e w' ⟨rfl, k, rfl⟩)
  go_ret
  exact ⟨rfl, _, rfl⟩
end Go.Proofs.Ytbkejlalbjomkaa
