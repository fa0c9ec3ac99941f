/-
  Chains of keys: the reference's Choose, walked.
-/
import Derived.Test.YtkgdeneonobibaaAut3
namespace Go.Proofs.Ytkgdeneonobibaa
set_option linter.unusedVariables false
open Go.RowKit

def RChRel (w : World) (L : List AK) (now : Int) (n : Nat) (i b : Value) (wr : World) : Prop :=
  ∃ (k d : Nat), i = .int .i64 k ∧ k ≤ n ∧ b = .int .i64 (chooseTo L now k) ∧ wr = w.drewN d
set_option maxHeartbeats 2000000 in
theorem refChoose_any (A : Option Addr) (n c : Nat) (L : List AK) (now : Int) (w : World) (hL : Keys w A n L) (hn : n ≤ 9223372036854775807) :
    Calls Try.prog 15 #[.slice A n c, .int .i64 now] w fun e w' => e = .returned (.int .i64 (chooseOf L now)) ∧ ∃ k, w' = w.drewN k := by
  have HL := Lib.hid hL
  clear hL
  go_enter Try.func15, Try.ntmps15
  go_wp2
  go_loopw [6, 5] (RChRel w L now n) (fun i _ _ => n - (intOf i).toNat)
  case atStart => exact ⟨0, 0, rfl, by omega, rfl, rfl⟩
  case round =>
    obtain ⟨i, d, rfl, hi, rfl, rfl⟩ := hrel
    by_cases hlt : i < n
    · obtain ⟨ad, k, rfl, hbl, hk, hok, c0, c1, c2, c3, c4, c5, c6⟩ := HL.out.at_ hlt
      obtain ⟨id, kind, S, sn, sc, sf, su, tf, tu, bs⟩ := k
      simp only at c0 c1 c2 c3 c4 c5 c6
      clear hok
      by_cases g1 : now < sf
      · go_wp2
        go_roundw
        case rel => exact ⟨i + 1, _, by simp, by omega, by rw [choose_skip hk.out (.inl g1)], rfl⟩
        case measure => simp [intOf]; omega
      by_cases g2 : su < now
      · go_wp2
        go_roundw
        case rel => exact ⟨i + 1, _, by simp, by omega, by rw [choose_skip hk.out (.inr g2)], rfl⟩
        case measure => simp [intOf]; omega
      have g1' : sf ≤ now := by omega
      have g2' : now ≤ su := by omega
      rcases chooseTo_ok L now i with hneg | ⟨m, o, hm, hmi, ho⟩
      · rw [hneg]
        go_wp2
        go_quiet (fail)
        go_wp2
        go_roundw
        case rel => exact ⟨i + 1, _, by simp, by omega, by rw [choose_take hk.out g1' g2' (by rw [hneg]; exact better_neg _ _)], rfl⟩
        case measure => simp [intOf]; omega
      · have ho := Lib.hid ho
        rw [hmi]
        go_wp2
        obtain ⟨ad2, o2, e2, _, ho2, _, d0, d1, d2, d3, d4, d5, d6⟩ := HL.out.at_ (i := m) (by omega)
        obtain rfl : ad = ad2 := by injection e2
        obtain rfl : o = o2 := by have := ho.out.symm.trans ho2.out; injection this
        clear e2 ho2
        have hbt := Lib.hid (better_at (m := m) ⟨id, kind, S, sn, sc, sf, su, tf, tu, bs⟩ ho.out)
        obtain ⟨oid, okind, oS, osn, osc, osf, osu, otf, otu, obs⟩ := o
        simp only at d0 d1 d2 d3 d4 d5 d6
        have hmn : m < n := by omega
        have hmz : decide ((m : Int) < 0) = false := decide_eq_false (by omega)
        by_cases e1 : osf < sf
        · go_quiet (fail)
          go_wp2
          go_roundw
          case rel => exact ⟨i + 1, _, by simp, by omega, by rw [choose_take hk.out g1' g2' (by rw [hmi, hbt.out]; simp [e1])], rfl⟩
          case measure => simp [intOf]; omega
        have e1' : decide (osf < sf) = false := decide_eq_false e1
        by_cases e2 : sf = osf
        · subst e2
          by_cases e3 : oid < id
          · go_quiet (fail)
            go_wp2
            go_roundw
            case rel => exact ⟨i + 1, _, by simp, by omega, by rw [choose_take hk.out g1' g2' (by rw [hmi, hbt.out]; simp [e3])], rfl⟩
            case measure => simp [intOf]; omega
          · have e3' : decide (oid < id) = false := decide_eq_false e3
            go_quiet (fail)
            go_wp2
            go_roundw
            case rel => exact ⟨i + 1, _, by simp, by omega, by rw [choose_leave hk.out g1' g2' (by rw [hmi, hbt.out]; simp [e3])]; rw [hmi], rfl⟩
            case measure => simp [intOf]; omega
        · have e2' : (sf == osf) = false := by rw [beq_eq_false_iff_ne]; exact e2
          go_quiet (fail)
          go_wp2
          go_roundw
          case rel => exact ⟨i + 1, _, by simp, by omega, by rw [choose_leave hk.out g1' g2' (by rw [hmi, hbt.out]; simp [e1, e2])]; rw [hmi], rfl⟩
          case measure => simp [intOf]; omega
    · obtain rfl : i = n := by omega
      have hfin : Hid (chooseTo L now i = chooseOf L now) := by show _ = _; unfold chooseOf; rw [HL.out.len]
      rw [hfin.out]
      go_wp2
      go_ret
      exact ⟨rfl, _, rfl⟩
end Go.Proofs.Ytkgdeneonobibaa
