/-
  Chains of keys: the law's heavy, walked.
-/
import Derived.Test.YtkgdeneonobibaaAut3
namespace Go.Proofs.Ytkgdeneonobibaa
set_option linter.unusedVariables false
open Go.RowKit

def HvRel (w : World) (L : List AK) (bn n : Nat) (a i : Value) (wr : World) : Prop :=
  ∃ j acc : Nat, i = .int .i64 j ∧ a = .int .i64 acc ∧ j ≤ n ∧ bn + j ≤ acc ∧ acc ≤ 140737488500000 ∧ Hid (∀ k ∈ L.take j, k.n ≤ acc) ∧ wr = w
def HvAt (w w' : World) (L : List AK) (bn n : Nat) (e : Ending) : Prop := ∃ h : Bool, e = .returned (.bool h) ∧ w = w' ∧ (h = false → bn ≤ 131072 ∧ n ≤ 131072 ∧ ∀ k ∈ L, k.n ≤ 131072)
set_option maxHeartbeats 2000000 in
theorem heavy_any (B A : Option Addr) (bn bc n c : Nat) (L : List AK) (w : World) (hL : Keys w A n L) (hbn : bn ≤ 140737488351232) (hs : ∀ k ∈ L, k.n ≤ 140737488351232) (hn : n ≤ 9223372036854775807) :
    Calls Try.prog 9 #[.slice B bn bc, .slice A n c] w fun e w' => HvAt w w' L bn n e := by
  have HL := Lib.hid hL
  have HN := Lib.hid hs
  clear hL hs
  go_enter Try.func9, Try.ntmps9
  go_wp2
  go_loopw [5, 6] (HvRel w L bn n) (fun _ i _ => n - (intOf i).toNat)
  case atStart => exact ⟨0, bn, rfl, rfl, by omega, by omega, by omega, by simp [Hid], rfl⟩
  case round =>
    obtain ⟨j, acc, rfl, rfl, hj, ha, hb, hk, rfl⟩ := hrel
    by_cases hlt : j < n
    · by_cases hle : (acc : Int) ≤ 131072
      · obtain ⟨ad, k, rfl, _, hkj, hok, c0, c1, c2, c3, c4, c5, c6⟩ := HL.out.at_ hlt
        have hkn := HN.out k (List.mem_of_getElem? hkj.out)
        obtain ⟨id, kind, S, sn, sc, sf, su, tf, tu, bs⟩ := k
        simp only at c0 c1 c2 c3 c4 c5 c6 hkn
        have w1 : IntKind.i64.wrap ((acc : Int) + 1) = (acc : Int) + 1 := IntWalk.i64_in _ (by omega)
        have w2 : IntKind.i64.wrap ((acc : Int) + 1 + (sn : Int)) = (acc : Int) + 1 + (sn : Int) := IntWalk.i64_in _ (by omega)
        clear hok
        go_wp2
        go_roundw
        case rel =>
          refine ⟨j + 1, acc + 1 + sn, by simp, by simp, by omega, by omega, by omega, ?_, rfl⟩
          intro k hk2
          rw [List.take_add_one, List.mem_append] at hk2
          rcases hk2 with h | h
          · have := hk.out k h; omega
          · rw [hkj.out] at h
            simp at h
            subst h
            show sn ≤ _
            omega
        case measure => simp [intOf]; omega
      · have d1 : decide ((acc : Int) ≤ 131072) = false := decide_eq_false hle
        have d2 : decide (131072 < (acc : Int)) = true := decide_eq_true (by omega)
        go_wp2
        go_ret
        exact ⟨true, rfl, rfl, fun h => by cases h⟩
    · obtain rfl : j = n := by omega
      have hall : Hid (∀ k ∈ L, k.n ≤ acc) := by
        have h := hk.out
        rwa [List.take_of_length_le (by rw [HL.out.len]; exact Nat.le_refl _)] at h
      by_cases hle : (acc : Int) ≤ 131072
      · have d2 : decide (131072 < (acc : Int)) = false := decide_eq_false (by omega)
        go_wp2
        go_ret
        exact ⟨false, rfl, rfl, fun _ => ⟨by omega, by omega, fun k hk => by have := hall.out k hk; omega⟩⟩
      · have d2 : decide (131072 < (acc : Int)) = true := decide_eq_true (by omega)
        go_wp2
        go_ret
        exact ⟨true, rfl, rfl, fun h => by cases h⟩
end Go.Proofs.Ytkgdeneonobibaa
