/-
  Keys of a chain: may of the program and of the reference, walked.
  Chains of keys: Choose of the program and of the reference, walked.
  Chains of keys: the reference's Choose, walked.
  Chains of keys: Check of the program, walked.
  Chains of keys: Check of the program, walked.
  Chains of keys: the reference's Check, walked.
  auth.password, walked.
-/
import Derived.Test.YtbkejlalbjomkaaAutP1
import Derived.Test.YtbkejlalbjomkaaKept
import Derived.Test.YtbkejlalbjomkaaRgn
import Derived.Laws.CopyOwn
import Derived.Test.YtbkejlalbjomkaaOwnW
namespace Go.Proofs.Ytbkejlalbjomkaa
set_option linter.unusedVariables false
open Go.RowKit

structure AK where
  id : Int
  kind : Int
  A : Option Addr
  n : Nat
  c : Nat
  sf : Int
  su : Int
  tf : Int
  tu : Int
  bs : List Int
@[reducible] def AK.v (k : AK) : Value := .agg #[.int .u8 k.id, .int .u16 k.kind, .slice k.A k.n k.c, .int .i64 k.sf, .int .i64 k.su, .int .i64 k.tf, .int .i64 k.tu]
def AK.cells (k : AK) : List Value := [.int .u8 k.id, .int .u16 k.kind, .slice k.A k.n k.c, .int .i64 k.sf, .int .i64 k.su, .int .i64 k.tf, .int .i64 k.tu]
def longest (kind : Int) : Int := if kind = 1 then 8 else if kind = 2 then 16 else 0
def mayB (k : AK) : Bool := decide (k.kind ≤ 2) && decide (0 < k.n) && decide ((k.n : Int) ≤ longest k.kind) && decide (0 ≤ k.sf) && decide (k.sf ≤ k.su) && decide (0 ≤ k.tf) && decide (k.tf ≤ k.tu)
theorem kinds (v : Int) (h : 0 ≤ v) : v = 0 ∨ v = 1 ∨ v = 2 ∨ ¬ v ≤ 2 := by omega

set_option maxHeartbeats 4000000 in
theorem may_any (k : AK) (w : World) (hk : 0 ≤ k.kind) : Calls Try.prog 68 #[k.v] w fun e w' => e = .returned (.bool (mayB k)) ∧ Below w.heap.size w w' := by
  obtain ⟨id, kind, A, n, c, sf, su, tf, tu, bs⟩ := k
  have hB0 : ∀ kind : Int, Below w.heap.size w ((w.alloc (.cells #[.int .u8 id, .int .u16 kind, .slice A n c, .int .i64 sf, .int .i64 su, .int .i64 tf, .int .i64 tu] 59)).alloc (.cells #[.int .i64 0, .int .i64 8, .int .i64 16] 144)) := fun _ => ((Below.refl _ _).alloc (Nat.le_refl _) _).alloc (by rw [World.size_alloc]; omega) _
  rcases kinds kind hk with rfl | rfl | rfl | h
  · have HB := Lib.hid (hB0 0)
    clear hB0
    by_cases h1 : 0 < n
    · skip
      have hn : ¬ n = 0 := by omega
      have HM : Hid (mayB ⟨id, 0, A, n, c, sf, su, tf, tu, bs⟩ = false) := by show _ = _; simp [mayB, longest]; omega
      go_enter Try.func68, Try.ntmps68
      go_wp2
      have HC : Hid (Blk ((w.alloc (.cells #[.int .u8 id, .int .u16 0, .slice A n c, .int .i64 sf, .int .i64 su, .int .i64 tf, .int .i64 tu] 59)).alloc (.cells #[.int .i64 0, .int .i64 8, .int .i64 16] 144)) w.heap.size 59 #[.int .u8 id, .int .u16 0, .slice A n c, .int .i64 sf, .int .i64 su, .int .i64 tf, .int .i64 tu] ∧ Blk ((w.alloc (.cells #[.int .u8 id, .int .u16 0, .slice A n c, .int .i64 sf, .int .i64 su, .int .i64 tf, .int .i64 tu] 59)).alloc (.cells #[.int .i64 0, .int .i64 8, .int .i64 16] 144)) (w.heap.size + 1) 144 #[.int .i64 0, .int .i64 8, .int .i64 16]) := ⟨(Blk.new _ _ _).alloc _, new_at _ _ _⟩
      generalize (w.alloc (.cells #[.int .u8 id, .int .u16 0, .slice A n c, .int .i64 sf, .int .i64 su, .int .i64 tf, .int .i64 tu] 59)).alloc (.cells #[.int .i64 0, .int .i64 8, .int .i64 16] 144) = w1 at *
      generalize hs0 : w.heap.size = g0 at *
      have j0 := HC.out.1.cell 0
      have j1 := HC.out.1.cell 1
      have j2 := HC.out.1.cell 2
      have j3 := HC.out.1.cell 3
      have j4 := HC.out.1.cell 4
      have j5 := HC.out.1.cell 5
      have j6 := HC.out.1.cell 6
      have k0 := HC.out.2.cell 0
      have k1 := HC.out.2.cell 1
      have k2 := HC.out.2.cell 2
      simp only [List.getElem?_toArray, List.getElem?_cons_zero, List.getElem?_cons_succ] at j0 j1 j2 j3 j4 j5 j6 k0 k1 k2
      clear HC
      go_quiet (fail)
      go_wp2
      go_ret
      subst hs0
      exact ⟨by rw [HM.out]; rfl, below_drewN HB.out _⟩
    · have HM : Hid (mayB ⟨id, 0, A, n, c, sf, su, tf, tu, bs⟩ = false) := by show _ = _; simp [mayB, longest]; omega
      have d0 : decide (0 < n) = false := decide_eq_false h1
      go_enter Try.func68, Try.ntmps68
      go_wp2
      have HC : Hid (Blk ((w.alloc (.cells #[.int .u8 id, .int .u16 0, .slice A n c, .int .i64 sf, .int .i64 su, .int .i64 tf, .int .i64 tu] 59)).alloc (.cells #[.int .i64 0, .int .i64 8, .int .i64 16] 144)) w.heap.size 59 #[.int .u8 id, .int .u16 0, .slice A n c, .int .i64 sf, .int .i64 su, .int .i64 tf, .int .i64 tu] ∧ Blk ((w.alloc (.cells #[.int .u8 id, .int .u16 0, .slice A n c, .int .i64 sf, .int .i64 su, .int .i64 tf, .int .i64 tu] 59)).alloc (.cells #[.int .i64 0, .int .i64 8, .int .i64 16] 144)) (w.heap.size + 1) 144 #[.int .i64 0, .int .i64 8, .int .i64 16]) := ⟨(Blk.new _ _ _).alloc _, new_at _ _ _⟩
      generalize (w.alloc (.cells #[.int .u8 id, .int .u16 0, .slice A n c, .int .i64 sf, .int .i64 su, .int .i64 tf, .int .i64 tu] 59)).alloc (.cells #[.int .i64 0, .int .i64 8, .int .i64 16] 144) = w1 at *
      generalize hs0 : w.heap.size = g0 at *
      have j0 := HC.out.1.cell 0
      have j1 := HC.out.1.cell 1
      have j2 := HC.out.1.cell 2
      have j3 := HC.out.1.cell 3
      have j4 := HC.out.1.cell 4
      have j5 := HC.out.1.cell 5
      have j6 := HC.out.1.cell 6
      have k0 := HC.out.2.cell 0
      have k1 := HC.out.2.cell 1
      have k2 := HC.out.2.cell 2
      simp only [List.getElem?_toArray, List.getElem?_cons_zero, List.getElem?_cons_succ] at j0 j1 j2 j3 j4 j5 j6 k0 k1 k2
      clear HC
      go_quiet (fail)
      go_wp2
      go_ret
      subst hs0
      exact ⟨by rw [HM.out]; rfl, below_drewN HB.out _⟩
  · have HB := Lib.hid (hB0 1)
    clear hB0
    by_cases h1 : 0 < n
    · skip
      by_cases h2 : (n : Int) ≤ 8
      · skip
        by_cases h3 : 0 ≤ sf
        · skip
          by_cases h4 : sf ≤ su
          · skip
            by_cases h5 : 0 ≤ tf
            · skip
              have HM : Hid (mayB ⟨id, 1, A, n, c, sf, su, tf, tu, bs⟩ = decide (tf ≤ tu)) := by show _ = _; simp [mayB, longest]; omega
              go_enter Try.func68, Try.ntmps68
              go_wp2
              have HC : Hid (Blk ((w.alloc (.cells #[.int .u8 id, .int .u16 1, .slice A n c, .int .i64 sf, .int .i64 su, .int .i64 tf, .int .i64 tu] 59)).alloc (.cells #[.int .i64 0, .int .i64 8, .int .i64 16] 144)) w.heap.size 59 #[.int .u8 id, .int .u16 1, .slice A n c, .int .i64 sf, .int .i64 su, .int .i64 tf, .int .i64 tu] ∧ Blk ((w.alloc (.cells #[.int .u8 id, .int .u16 1, .slice A n c, .int .i64 sf, .int .i64 su, .int .i64 tf, .int .i64 tu] 59)).alloc (.cells #[.int .i64 0, .int .i64 8, .int .i64 16] 144)) (w.heap.size + 1) 144 #[.int .i64 0, .int .i64 8, .int .i64 16]) := ⟨(Blk.new _ _ _).alloc _, new_at _ _ _⟩
              generalize (w.alloc (.cells #[.int .u8 id, .int .u16 1, .slice A n c, .int .i64 sf, .int .i64 su, .int .i64 tf, .int .i64 tu] 59)).alloc (.cells #[.int .i64 0, .int .i64 8, .int .i64 16] 144) = w1 at *
              generalize hs0 : w.heap.size = g0 at *
              have j0 := HC.out.1.cell 0
              have j1 := HC.out.1.cell 1
              have j2 := HC.out.1.cell 2
              have j3 := HC.out.1.cell 3
              have j4 := HC.out.1.cell 4
              have j5 := HC.out.1.cell 5
              have j6 := HC.out.1.cell 6
              have k0 := HC.out.2.cell 0
              have k1 := HC.out.2.cell 1
              have k2 := HC.out.2.cell 2
              simp only [List.getElem?_toArray, List.getElem?_cons_zero, List.getElem?_cons_succ] at j0 j1 j2 j3 j4 j5 j6 k0 k1 k2
              clear HC
              go_quiet (fail)
              go_wp2
              go_ret
              subst hs0
              exact ⟨by rw [HM.out]; rfl, below_drewN HB.out _⟩
            · have HM : Hid (mayB ⟨id, 1, A, n, c, sf, su, tf, tu, bs⟩ = false) := by show _ = _; simp [mayB, longest]; omega
              have d0 : decide (0 ≤ tf) = false := decide_eq_false h5
              go_enter Try.func68, Try.ntmps68
              go_wp2
              have HC : Hid (Blk ((w.alloc (.cells #[.int .u8 id, .int .u16 1, .slice A n c, .int .i64 sf, .int .i64 su, .int .i64 tf, .int .i64 tu] 59)).alloc (.cells #[.int .i64 0, .int .i64 8, .int .i64 16] 144)) w.heap.size 59 #[.int .u8 id, .int .u16 1, .slice A n c, .int .i64 sf, .int .i64 su, .int .i64 tf, .int .i64 tu] ∧ Blk ((w.alloc (.cells #[.int .u8 id, .int .u16 1, .slice A n c, .int .i64 sf, .int .i64 su, .int .i64 tf, .int .i64 tu] 59)).alloc (.cells #[.int .i64 0, .int .i64 8, .int .i64 16] 144)) (w.heap.size + 1) 144 #[.int .i64 0, .int .i64 8, .int .i64 16]) := ⟨(Blk.new _ _ _).alloc _, new_at _ _ _⟩
              generalize (w.alloc (.cells #[.int .u8 id, .int .u16 1, .slice A n c, .int .i64 sf, .int .i64 su, .int .i64 tf, .int .i64 tu] 59)).alloc (.cells #[.int .i64 0, .int .i64 8, .int .i64 16] 144) = w1 at *
              generalize hs0 : w.heap.size = g0 at *
              have j0 := HC.out.1.cell 0
              have j1 := HC.out.1.cell 1
              have j2 := HC.out.1.cell 2
              have j3 := HC.out.1.cell 3
              have j4 := HC.out.1.cell 4
              have j5 := HC.out.1.cell 5
              have j6 := HC.out.1.cell 6
              have k0 := HC.out.2.cell 0
              have k1 := HC.out.2.cell 1
              have k2 := HC.out.2.cell 2
              simp only [List.getElem?_toArray, List.getElem?_cons_zero, List.getElem?_cons_succ] at j0 j1 j2 j3 j4 j5 j6 k0 k1 k2
              clear HC
              go_quiet (fail)
              go_wp2
              go_ret
              subst hs0
              exact ⟨by rw [HM.out]; rfl, below_drewN HB.out _⟩
          · have HM : Hid (mayB ⟨id, 1, A, n, c, sf, su, tf, tu, bs⟩ = false) := by show _ = _; simp [mayB, longest]; omega
            have d0 : decide (sf ≤ su) = false := decide_eq_false h4
            go_enter Try.func68, Try.ntmps68
            go_wp2
            have HC : Hid (Blk ((w.alloc (.cells #[.int .u8 id, .int .u16 1, .slice A n c, .int .i64 sf, .int .i64 su, .int .i64 tf, .int .i64 tu] 59)).alloc (.cells #[.int .i64 0, .int .i64 8, .int .i64 16] 144)) w.heap.size 59 #[.int .u8 id, .int .u16 1, .slice A n c, .int .i64 sf, .int .i64 su, .int .i64 tf, .int .i64 tu] ∧ Blk ((w.alloc (.cells #[.int .u8 id, .int .u16 1, .slice A n c, .int .i64 sf, .int .i64 su, .int .i64 tf, .int .i64 tu] 59)).alloc (.cells #[.int .i64 0, .int .i64 8, .int .i64 16] 144)) (w.heap.size + 1) 144 #[.int .i64 0, .int .i64 8, .int .i64 16]) := ⟨(Blk.new _ _ _).alloc _, new_at _ _ _⟩
            generalize (w.alloc (.cells #[.int .u8 id, .int .u16 1, .slice A n c, .int .i64 sf, .int .i64 su, .int .i64 tf, .int .i64 tu] 59)).alloc (.cells #[.int .i64 0, .int .i64 8, .int .i64 16] 144) = w1 at *
            generalize hs0 : w.heap.size = g0 at *
            have j0 := HC.out.1.cell 0
            have j1 := HC.out.1.cell 1
            have j2 := HC.out.1.cell 2
            have j3 := HC.out.1.cell 3
            have j4 := HC.out.1.cell 4
            have j5 := HC.out.1.cell 5
            have j6 := HC.out.1.cell 6
            have k0 := HC.out.2.cell 0
            have k1 := HC.out.2.cell 1
            have k2 := HC.out.2.cell 2
            simp only [List.getElem?_toArray, List.getElem?_cons_zero, List.getElem?_cons_succ] at j0 j1 j2 j3 j4 j5 j6 k0 k1 k2
            clear HC
            go_quiet (fail)
            go_wp2
            go_ret
            subst hs0
            exact ⟨by rw [HM.out]; rfl, below_drewN HB.out _⟩
        · have HM : Hid (mayB ⟨id, 1, A, n, c, sf, su, tf, tu, bs⟩ = false) := by show _ = _; simp [mayB, longest]; omega
          have d0 : decide (0 ≤ sf) = false := decide_eq_false h3
          go_enter Try.func68, Try.ntmps68
          go_wp2
          have HC : Hid (Blk ((w.alloc (.cells #[.int .u8 id, .int .u16 1, .slice A n c, .int .i64 sf, .int .i64 su, .int .i64 tf, .int .i64 tu] 59)).alloc (.cells #[.int .i64 0, .int .i64 8, .int .i64 16] 144)) w.heap.size 59 #[.int .u8 id, .int .u16 1, .slice A n c, .int .i64 sf, .int .i64 su, .int .i64 tf, .int .i64 tu] ∧ Blk ((w.alloc (.cells #[.int .u8 id, .int .u16 1, .slice A n c, .int .i64 sf, .int .i64 su, .int .i64 tf, .int .i64 tu] 59)).alloc (.cells #[.int .i64 0, .int .i64 8, .int .i64 16] 144)) (w.heap.size + 1) 144 #[.int .i64 0, .int .i64 8, .int .i64 16]) := ⟨(Blk.new _ _ _).alloc _, new_at _ _ _⟩
          generalize (w.alloc (.cells #[.int .u8 id, .int .u16 1, .slice A n c, .int .i64 sf, .int .i64 su, .int .i64 tf, .int .i64 tu] 59)).alloc (.cells #[.int .i64 0, .int .i64 8, .int .i64 16] 144) = w1 at *
          generalize hs0 : w.heap.size = g0 at *
          have j0 := HC.out.1.cell 0
          have j1 := HC.out.1.cell 1
          have j2 := HC.out.1.cell 2
          have j3 := HC.out.1.cell 3
          have j4 := HC.out.1.cell 4
          have j5 := HC.out.1.cell 5
          have j6 := HC.out.1.cell 6
          have k0 := HC.out.2.cell 0
          have k1 := HC.out.2.cell 1
          have k2 := HC.out.2.cell 2
          simp only [List.getElem?_toArray, List.getElem?_cons_zero, List.getElem?_cons_succ] at j0 j1 j2 j3 j4 j5 j6 k0 k1 k2
          clear HC
          go_quiet (fail)
          go_wp2
          go_ret
          subst hs0
          exact ⟨by rw [HM.out]; rfl, below_drewN HB.out _⟩
      · have HM : Hid (mayB ⟨id, 1, A, n, c, sf, su, tf, tu, bs⟩ = false) := by show _ = _; simp [mayB, longest]; omega
        have d0 : decide ((n : Int) ≤ 8) = false := decide_eq_false h2
        go_enter Try.func68, Try.ntmps68
        go_wp2
        have HC : Hid (Blk ((w.alloc (.cells #[.int .u8 id, .int .u16 1, .slice A n c, .int .i64 sf, .int .i64 su, .int .i64 tf, .int .i64 tu] 59)).alloc (.cells #[.int .i64 0, .int .i64 8, .int .i64 16] 144)) w.heap.size 59 #[.int .u8 id, .int .u16 1, .slice A n c, .int .i64 sf, .int .i64 su, .int .i64 tf, .int .i64 tu] ∧ Blk ((w.alloc (.cells #[.int .u8 id, .int .u16 1, .slice A n c, .int .i64 sf, .int .i64 su, .int .i64 tf, .int .i64 tu] 59)).alloc (.cells #[.int .i64 0, .int .i64 8, .int .i64 16] 144)) (w.heap.size + 1) 144 #[.int .i64 0, .int .i64 8, .int .i64 16]) := ⟨(Blk.new _ _ _).alloc _, new_at _ _ _⟩
        generalize (w.alloc (.cells #[.int .u8 id, .int .u16 1, .slice A n c, .int .i64 sf, .int .i64 su, .int .i64 tf, .int .i64 tu] 59)).alloc (.cells #[.int .i64 0, .int .i64 8, .int .i64 16] 144) = w1 at *
        generalize hs0 : w.heap.size = g0 at *
        have j0 := HC.out.1.cell 0
        have j1 := HC.out.1.cell 1
        have j2 := HC.out.1.cell 2
        have j3 := HC.out.1.cell 3
        have j4 := HC.out.1.cell 4
        have j5 := HC.out.1.cell 5
        have j6 := HC.out.1.cell 6
        have k0 := HC.out.2.cell 0
        have k1 := HC.out.2.cell 1
        have k2 := HC.out.2.cell 2
        simp only [List.getElem?_toArray, List.getElem?_cons_zero, List.getElem?_cons_succ] at j0 j1 j2 j3 j4 j5 j6 k0 k1 k2
        clear HC
        go_quiet (fail)
        go_wp2
        go_ret
        subst hs0
        exact ⟨by rw [HM.out]; rfl, below_drewN HB.out _⟩
    · have HM : Hid (mayB ⟨id, 1, A, n, c, sf, su, tf, tu, bs⟩ = false) := by show _ = _; simp [mayB, longest]; omega
      have d0 : decide (0 < n) = false := decide_eq_false h1
      go_enter Try.func68, Try.ntmps68
      go_wp2
      have HC : Hid (Blk ((w.alloc (.cells #[.int .u8 id, .int .u16 1, .slice A n c, .int .i64 sf, .int .i64 su, .int .i64 tf, .int .i64 tu] 59)).alloc (.cells #[.int .i64 0, .int .i64 8, .int .i64 16] 144)) w.heap.size 59 #[.int .u8 id, .int .u16 1, .slice A n c, .int .i64 sf, .int .i64 su, .int .i64 tf, .int .i64 tu] ∧ Blk ((w.alloc (.cells #[.int .u8 id, .int .u16 1, .slice A n c, .int .i64 sf, .int .i64 su, .int .i64 tf, .int .i64 tu] 59)).alloc (.cells #[.int .i64 0, .int .i64 8, .int .i64 16] 144)) (w.heap.size + 1) 144 #[.int .i64 0, .int .i64 8, .int .i64 16]) := ⟨(Blk.new _ _ _).alloc _, new_at _ _ _⟩
      generalize (w.alloc (.cells #[.int .u8 id, .int .u16 1, .slice A n c, .int .i64 sf, .int .i64 su, .int .i64 tf, .int .i64 tu] 59)).alloc (.cells #[.int .i64 0, .int .i64 8, .int .i64 16] 144) = w1 at *
      generalize hs0 : w.heap.size = g0 at *
      have j0 := HC.out.1.cell 0
      have j1 := HC.out.1.cell 1
      have j2 := HC.out.1.cell 2
      have j3 := HC.out.1.cell 3
      have j4 := HC.out.1.cell 4
      have j5 := HC.out.1.cell 5
      have j6 := HC.out.1.cell 6
      have k0 := HC.out.2.cell 0
      have k1 := HC.out.2.cell 1
      have k2 := HC.out.2.cell 2
      simp only [List.getElem?_toArray, List.getElem?_cons_zero, List.getElem?_cons_succ] at j0 j1 j2 j3 j4 j5 j6 k0 k1 k2
      clear HC
      go_quiet (fail)
      go_wp2
      go_ret
      subst hs0
      exact ⟨by rw [HM.out]; rfl, below_drewN HB.out _⟩
  · have HB := Lib.hid (hB0 2)
    clear hB0
    by_cases h1 : 0 < n
    · skip
      by_cases h2 : (n : Int) ≤ 16
      · skip
        by_cases h3 : 0 ≤ sf
        · skip
          by_cases h4 : sf ≤ su
          · skip
            by_cases h5 : 0 ≤ tf
            · skip
              have HM : Hid (mayB ⟨id, 2, A, n, c, sf, su, tf, tu, bs⟩ = decide (tf ≤ tu)) := by show _ = _; simp [mayB, longest]; omega
              go_enter Try.func68, Try.ntmps68
              go_wp2
              have HC : Hid (Blk ((w.alloc (.cells #[.int .u8 id, .int .u16 2, .slice A n c, .int .i64 sf, .int .i64 su, .int .i64 tf, .int .i64 tu] 59)).alloc (.cells #[.int .i64 0, .int .i64 8, .int .i64 16] 144)) w.heap.size 59 #[.int .u8 id, .int .u16 2, .slice A n c, .int .i64 sf, .int .i64 su, .int .i64 tf, .int .i64 tu] ∧ Blk ((w.alloc (.cells #[.int .u8 id, .int .u16 2, .slice A n c, .int .i64 sf, .int .i64 su, .int .i64 tf, .int .i64 tu] 59)).alloc (.cells #[.int .i64 0, .int .i64 8, .int .i64 16] 144)) (w.heap.size + 1) 144 #[.int .i64 0, .int .i64 8, .int .i64 16]) := ⟨(Blk.new _ _ _).alloc _, new_at _ _ _⟩
              generalize (w.alloc (.cells #[.int .u8 id, .int .u16 2, .slice A n c, .int .i64 sf, .int .i64 su, .int .i64 tf, .int .i64 tu] 59)).alloc (.cells #[.int .i64 0, .int .i64 8, .int .i64 16] 144) = w1 at *
              generalize hs0 : w.heap.size = g0 at *
              have j0 := HC.out.1.cell 0
              have j1 := HC.out.1.cell 1
              have j2 := HC.out.1.cell 2
              have j3 := HC.out.1.cell 3
              have j4 := HC.out.1.cell 4
              have j5 := HC.out.1.cell 5
              have j6 := HC.out.1.cell 6
              have k0 := HC.out.2.cell 0
              have k1 := HC.out.2.cell 1
              have k2 := HC.out.2.cell 2
              simp only [List.getElem?_toArray, List.getElem?_cons_zero, List.getElem?_cons_succ] at j0 j1 j2 j3 j4 j5 j6 k0 k1 k2
              clear HC
              go_quiet (fail)
              go_wp2
              go_ret
              subst hs0
              exact ⟨by rw [HM.out]; rfl, below_drewN HB.out _⟩
            · have HM : Hid (mayB ⟨id, 2, A, n, c, sf, su, tf, tu, bs⟩ = false) := by show _ = _; simp [mayB, longest]; omega
              have d0 : decide (0 ≤ tf) = false := decide_eq_false h5
              go_enter Try.func68, Try.ntmps68
              go_wp2
              have HC : Hid (Blk ((w.alloc (.cells #[.int .u8 id, .int .u16 2, .slice A n c, .int .i64 sf, .int .i64 su, .int .i64 tf, .int .i64 tu] 59)).alloc (.cells #[.int .i64 0, .int .i64 8, .int .i64 16] 144)) w.heap.size 59 #[.int .u8 id, .int .u16 2, .slice A n c, .int .i64 sf, .int .i64 su, .int .i64 tf, .int .i64 tu] ∧ Blk ((w.alloc (.cells #[.int .u8 id, .int .u16 2, .slice A n c, .int .i64 sf, .int .i64 su, .int .i64 tf, .int .i64 tu] 59)).alloc (.cells #[.int .i64 0, .int .i64 8, .int .i64 16] 144)) (w.heap.size + 1) 144 #[.int .i64 0, .int .i64 8, .int .i64 16]) := ⟨(Blk.new _ _ _).alloc _, new_at _ _ _⟩
              generalize (w.alloc (.cells #[.int .u8 id, .int .u16 2, .slice A n c, .int .i64 sf, .int .i64 su, .int .i64 tf, .int .i64 tu] 59)).alloc (.cells #[.int .i64 0, .int .i64 8, .int .i64 16] 144) = w1 at *
              generalize hs0 : w.heap.size = g0 at *
              have j0 := HC.out.1.cell 0
              have j1 := HC.out.1.cell 1
              have j2 := HC.out.1.cell 2
              have j3 := HC.out.1.cell 3
              have j4 := HC.out.1.cell 4
              have j5 := HC.out.1.cell 5
              have j6 := HC.out.1.cell 6
              have k0 := HC.out.2.cell 0
              have k1 := HC.out.2.cell 1
              have k2 := HC.out.2.cell 2
              simp only [List.getElem?_toArray, List.getElem?_cons_zero, List.getElem?_cons_succ] at j0 j1 j2 j3 j4 j5 j6 k0 k1 k2
              clear HC
              go_quiet (fail)
              go_wp2
              go_ret
              subst hs0
              exact ⟨by rw [HM.out]; rfl, below_drewN HB.out _⟩
          · have HM : Hid (mayB ⟨id, 2, A, n, c, sf, su, tf, tu, bs⟩ = false) := by show _ = _; simp [mayB, longest]; omega
            have d0 : decide (sf ≤ su) = false := decide_eq_false h4
            go_enter Try.func68, Try.ntmps68
            go_wp2
            have HC : Hid (Blk ((w.alloc (.cells #[.int .u8 id, .int .u16 2, .slice A n c, .int .i64 sf, .int .i64 su, .int .i64 tf, .int .i64 tu] 59)).alloc (.cells #[.int .i64 0, .int .i64 8, .int .i64 16] 144)) w.heap.size 59 #[.int .u8 id, .int .u16 2, .slice A n c, .int .i64 sf, .int .i64 su, .int .i64 tf, .int .i64 tu] ∧ Blk ((w.alloc (.cells #[.int .u8 id, .int .u16 2, .slice A n c, .int .i64 sf, .int .i64 su, .int .i64 tf, .int .i64 tu] 59)).alloc (.cells #[.int .i64 0, .int .i64 8, .int .i64 16] 144)) (w.heap.size + 1) 144 #[.int .i64 0, .int .i64 8, .int .i64 16]) := ⟨(Blk.new _ _ _).alloc _, new_at _ _ _⟩
            generalize (w.alloc (.cells #[.int .u8 id, .int .u16 2, .slice A n c, .int .i64 sf, .int .i64 su, .int .i64 tf, .int .i64 tu] 59)).alloc (.cells #[.int .i64 0, .int .i64 8, .int .i64 16] 144) = w1 at *
            generalize hs0 : w.heap.size = g0 at *
            have j0 := HC.out.1.cell 0
            have j1 := HC.out.1.cell 1
            have j2 := HC.out.1.cell 2
            have j3 := HC.out.1.cell 3
            have j4 := HC.out.1.cell 4
            have j5 := HC.out.1.cell 5
            have j6 := HC.out.1.cell 6
            have k0 := HC.out.2.cell 0
            have k1 := HC.out.2.cell 1
            have k2 := HC.out.2.cell 2
            simp only [List.getElem?_toArray, List.getElem?_cons_zero, List.getElem?_cons_succ] at j0 j1 j2 j3 j4 j5 j6 k0 k1 k2
            clear HC
            go_quiet (fail)
            go_wp2
            go_ret
            subst hs0
            exact ⟨by rw [HM.out]; rfl, below_drewN HB.out _⟩
        · have HM : Hid (mayB ⟨id, 2, A, n, c, sf, su, tf, tu, bs⟩ = false) := by show _ = _; simp [mayB, longest]; omega
          have d0 : decide (0 ≤ sf) = false := decide_eq_false h3
          go_enter Try.func68, Try.ntmps68
          go_wp2
          have HC : Hid (Blk ((w.alloc (.cells #[.int .u8 id, .int .u16 2, .slice A n c, .int .i64 sf, .int .i64 su, .int .i64 tf, .int .i64 tu] 59)).alloc (.cells #[.int .i64 0, .int .i64 8, .int .i64 16] 144)) w.heap.size 59 #[.int .u8 id, .int .u16 2, .slice A n c, .int .i64 sf, .int .i64 su, .int .i64 tf, .int .i64 tu] ∧ Blk ((w.alloc (.cells #[.int .u8 id, .int .u16 2, .slice A n c, .int .i64 sf, .int .i64 su, .int .i64 tf, .int .i64 tu] 59)).alloc (.cells #[.int .i64 0, .int .i64 8, .int .i64 16] 144)) (w.heap.size + 1) 144 #[.int .i64 0, .int .i64 8, .int .i64 16]) := ⟨(Blk.new _ _ _).alloc _, new_at _ _ _⟩
          generalize (w.alloc (.cells #[.int .u8 id, .int .u16 2, .slice A n c, .int .i64 sf, .int .i64 su, .int .i64 tf, .int .i64 tu] 59)).alloc (.cells #[.int .i64 0, .int .i64 8, .int .i64 16] 144) = w1 at *
          generalize hs0 : w.heap.size = g0 at *
          have j0 := HC.out.1.cell 0
          have j1 := HC.out.1.cell 1
          have j2 := HC.out.1.cell 2
          have j3 := HC.out.1.cell 3
          have j4 := HC.out.1.cell 4
          have j5 := HC.out.1.cell 5
          have j6 := HC.out.1.cell 6
          have k0 := HC.out.2.cell 0
          have k1 := HC.out.2.cell 1
          have k2 := HC.out.2.cell 2
          simp only [List.getElem?_toArray, List.getElem?_cons_zero, List.getElem?_cons_succ] at j0 j1 j2 j3 j4 j5 j6 k0 k1 k2
          clear HC
          go_quiet (fail)
          go_wp2
          go_ret
          subst hs0
          exact ⟨by rw [HM.out]; rfl, below_drewN HB.out _⟩
      · have HM : Hid (mayB ⟨id, 2, A, n, c, sf, su, tf, tu, bs⟩ = false) := by show _ = _; simp [mayB, longest]; omega
        have d0 : decide ((n : Int) ≤ 16) = false := decide_eq_false h2
        go_enter Try.func68, Try.ntmps68
        go_wp2
        have HC : Hid (Blk ((w.alloc (.cells #[.int .u8 id, .int .u16 2, .slice A n c, .int .i64 sf, .int .i64 su, .int .i64 tf, .int .i64 tu] 59)).alloc (.cells #[.int .i64 0, .int .i64 8, .int .i64 16] 144)) w.heap.size 59 #[.int .u8 id, .int .u16 2, .slice A n c, .int .i64 sf, .int .i64 su, .int .i64 tf, .int .i64 tu] ∧ Blk ((w.alloc (.cells #[.int .u8 id, .int .u16 2, .slice A n c, .int .i64 sf, .int .i64 su, .int .i64 tf, .int .i64 tu] 59)).alloc (.cells #[.int .i64 0, .int .i64 8, .int .i64 16] 144)) (w.heap.size + 1) 144 #[.int .i64 0, .int .i64 8, .int .i64 16]) := ⟨(Blk.new _ _ _).alloc _, new_at _ _ _⟩
        generalize (w.alloc (.cells #[.int .u8 id, .int .u16 2, .slice A n c, .int .i64 sf, .int .i64 su, .int .i64 tf, .int .i64 tu] 59)).alloc (.cells #[.int .i64 0, .int .i64 8, .int .i64 16] 144) = w1 at *
        generalize hs0 : w.heap.size = g0 at *
        have j0 := HC.out.1.cell 0
        have j1 := HC.out.1.cell 1
        have j2 := HC.out.1.cell 2
        have j3 := HC.out.1.cell 3
        have j4 := HC.out.1.cell 4
        have j5 := HC.out.1.cell 5
        have j6 := HC.out.1.cell 6
        have k0 := HC.out.2.cell 0
        have k1 := HC.out.2.cell 1
        have k2 := HC.out.2.cell 2
        simp only [List.getElem?_toArray, List.getElem?_cons_zero, List.getElem?_cons_succ] at j0 j1 j2 j3 j4 j5 j6 k0 k1 k2
        clear HC
        go_quiet (fail)
        go_wp2
        go_ret
        subst hs0
        exact ⟨by rw [HM.out]; rfl, below_drewN HB.out _⟩
    · have HM : Hid (mayB ⟨id, 2, A, n, c, sf, su, tf, tu, bs⟩ = false) := by show _ = _; simp [mayB, longest]; omega
      have d0 : decide (0 < n) = false := decide_eq_false h1
      go_enter Try.func68, Try.ntmps68
      go_wp2
      have HC : Hid (Blk ((w.alloc (.cells #[.int .u8 id, .int .u16 2, .slice A n c, .int .i64 sf, .int .i64 su, .int .i64 tf, .int .i64 tu] 59)).alloc (.cells #[.int .i64 0, .int .i64 8, .int .i64 16] 144)) w.heap.size 59 #[.int .u8 id, .int .u16 2, .slice A n c, .int .i64 sf, .int .i64 su, .int .i64 tf, .int .i64 tu] ∧ Blk ((w.alloc (.cells #[.int .u8 id, .int .u16 2, .slice A n c, .int .i64 sf, .int .i64 su, .int .i64 tf, .int .i64 tu] 59)).alloc (.cells #[.int .i64 0, .int .i64 8, .int .i64 16] 144)) (w.heap.size + 1) 144 #[.int .i64 0, .int .i64 8, .int .i64 16]) := ⟨(Blk.new _ _ _).alloc _, new_at _ _ _⟩
      generalize (w.alloc (.cells #[.int .u8 id, .int .u16 2, .slice A n c, .int .i64 sf, .int .i64 su, .int .i64 tf, .int .i64 tu] 59)).alloc (.cells #[.int .i64 0, .int .i64 8, .int .i64 16] 144) = w1 at *
      generalize hs0 : w.heap.size = g0 at *
      have j0 := HC.out.1.cell 0
      have j1 := HC.out.1.cell 1
      have j2 := HC.out.1.cell 2
      have j3 := HC.out.1.cell 3
      have j4 := HC.out.1.cell 4
      have j5 := HC.out.1.cell 5
      have j6 := HC.out.1.cell 6
      have k0 := HC.out.2.cell 0
      have k1 := HC.out.2.cell 1
      have k2 := HC.out.2.cell 2
      simp only [List.getElem?_toArray, List.getElem?_cons_zero, List.getElem?_cons_succ] at j0 j1 j2 j3 j4 j5 j6 k0 k1 k2
      clear HC
      go_quiet (fail)
      go_wp2
      go_ret
      subst hs0
      exact ⟨by rw [HM.out]; rfl, below_drewN HB.out _⟩
  · have HB := Lib.hid (hB0 kind)
    clear hB0
    have HM : Hid (mayB ⟨id, kind, A, n, c, sf, su, tf, tu, bs⟩ = false) := by show _ = _; simp [mayB]; omega
    have d0 : decide (kind ≤ 2) = false := decide_eq_false h
    go_enter Try.func68, Try.ntmps68
    go_wp2
    have HC : Hid (Blk ((w.alloc (.cells #[.int .u8 id, .int .u16 kind, .slice A n c, .int .i64 sf, .int .i64 su, .int .i64 tf, .int .i64 tu] 59)).alloc (.cells #[.int .i64 0, .int .i64 8, .int .i64 16] 144)) w.heap.size 59 #[.int .u8 id, .int .u16 kind, .slice A n c, .int .i64 sf, .int .i64 su, .int .i64 tf, .int .i64 tu] ∧ Blk ((w.alloc (.cells #[.int .u8 id, .int .u16 kind, .slice A n c, .int .i64 sf, .int .i64 su, .int .i64 tf, .int .i64 tu] 59)).alloc (.cells #[.int .i64 0, .int .i64 8, .int .i64 16] 144)) (w.heap.size + 1) 144 #[.int .i64 0, .int .i64 8, .int .i64 16]) := ⟨(Blk.new _ _ _).alloc _, new_at _ _ _⟩
    generalize (w.alloc (.cells #[.int .u8 id, .int .u16 kind, .slice A n c, .int .i64 sf, .int .i64 su, .int .i64 tf, .int .i64 tu] 59)).alloc (.cells #[.int .i64 0, .int .i64 8, .int .i64 16] 144) = w1 at *
    generalize hs0 : w.heap.size = g0 at *
    have j0 := HC.out.1.cell 0
    have j1 := HC.out.1.cell 1
    have j2 := HC.out.1.cell 2
    have j3 := HC.out.1.cell 3
    have j4 := HC.out.1.cell 4
    have j5 := HC.out.1.cell 5
    have j6 := HC.out.1.cell 6
    have k0 := HC.out.2.cell 0
    have k1 := HC.out.2.cell 1
    have k2 := HC.out.2.cell 2
    simp only [List.getElem?_toArray, List.getElem?_cons_zero, List.getElem?_cons_succ] at j0 j1 j2 j3 j4 j5 j6 k0 k1 k2
    clear HC
    go_quiet (fail)
    go_wp2
    go_ret
    subst hs0
    exact ⟨by rw [HM.out]; rfl, below_drewN HB.out _⟩

end Go.Proofs.Ytbkejlalbjomkaa
namespace Go.Proofs.Ytbkejlalbjomkaa
set_option linter.unusedVariables false
open Go.RowKit

structure KOk (w : World) (k : AK) : Prop where
  id : 0 ≤ k.id ∧ k.id ≤ 255
  kind : 0 ≤ k.kind ∧ k.kind ≤ 65535
  sec : Reads w w.heap.size 1 k.A k.n (u8s k.bs)
  oct : Oct k.bs
  cap : k.n ≤ k.c ∧ k.c ≤ 9223372036854775807
theorem KOk.later {w w' : World} {k : AK} (h : KOk w k) (hb : Below w.heap.size w w') : KOk w' k := ⟨h.id, h.kind, h.sec.later hb, h.oct, h.cap⟩
/-- The slice A n reads as the keys L. -/
structure Keys (w : World) (A : Option Addr) (n : Nat) (L : List AK) : Prop where
  row : Reads w w.heap.size 7 A n (L.flatMap AK.cells)
  len : L.length = n
  ok : ∀ k ∈ L, KOk w k
theorem Keys.later {w w' : World} {A : Option Addr} {n : Nat} {L : List AK} (h : Keys w A n L) (hb : Below w.heap.size w w') : Keys w' A n L := ⟨h.row.later hb, h.len, fun k hk => (h.ok k hk).later hb⟩
theorem flat_get (L : List AK) (i j : Nat) (k : AK) (u : Value) (hk : L[i]? = some k) (hu : k.cells[j]? = some u) (hj : j < 7) : (L.flatMap AK.cells)[i * 7 + j]? = some u := by
  induction L generalizing i with
  | nil => simp at hk
  | cons a r ih =>
    rw [List.flatMap_cons]
    cases i with
    | zero =>
      simp at hk; subst hk
      rw [List.getElem?_append_left (by simp [AK.cells]; omega)]
      simpa using hu
    | succ i =>
      simp at hk
      rw [List.getElem?_append_right (by simp [AK.cells]; omega)]
      have : (i + 1) * 7 + j - a.cells.length = i * 7 + j := by simp [AK.cells]; omega
      rw [this]
      exact ih i hk
theorem add_lit (ad : Addr) (x j : Nat) (hj : 0 < j) : ad.add (x + j) = ⟨(ad.add x).block, (ad.add x).off + j, none⟩ := by
  unfold Addr.add
  by_cases h : x = 0
  · subst h; simp; omega
  · rw [if_neg (by omega), if_neg h]; simp [Nat.add_assoc]
theorem Keys.at_ {w : World} {A : Option Addr} {n i : Nat} {L : List AK} (h : Keys w A n L) (hi : i < n) : ∃ ad k, A = some ad ∧ ad.block < w.heap.size ∧ Hid (L[i]? = some k) ∧ Hid (KOk w k) ∧
    (w.cell? (ad.add (i * 7)) = some (.int .u8 k.id) ∧ w.cell? ⟨(ad.add (i * 7)).block, (ad.add (i * 7)).off + 1, none⟩ = some (.int .u16 k.kind) ∧ w.cell? ⟨(ad.add (i * 7)).block, (ad.add (i * 7)).off + 2, none⟩ = some (.slice k.A k.n k.c) ∧
     w.cell? ⟨(ad.add (i * 7)).block, (ad.add (i * 7)).off + 3, none⟩ = some (.int .i64 k.sf) ∧ w.cell? ⟨(ad.add (i * 7)).block, (ad.add (i * 7)).off + 4, none⟩ = some (.int .i64 k.su) ∧ w.cell? ⟨(ad.add (i * 7)).block, (ad.add (i * 7)).off + 5, none⟩ = some (.int .i64 k.tf) ∧ w.cell? ⟨(ad.add (i * 7)).block, (ad.add (i * 7)).off + 6, none⟩ = some (.int .i64 k.tu)) := by
  obtain ⟨ad, e, hb, hc⟩ := h.row.2 (by omega)
  have hl : i < L.length := by have := h.len; omega
  have H : ∀ j u, j < 7 → L[i].cells[j]? = some u → w.cell? (ad.add (i * 7 + j)) = some u := fun j u hj hu => hc _ _ (flat_get L i j _ u (List.getElem?_eq_getElem hl) hu hj)
  exact ⟨ad, L[i], e, hb, List.getElem?_eq_getElem hl, h.ok _ (List.getElem_mem hl), H 0 _ (by decide) rfl, add_lit ad _ 1 (by decide) ▸ H 1 _ (by decide) rfl, add_lit ad _ 2 (by decide) ▸ H 2 _ (by decide) rfl, add_lit ad _ 3 (by decide) ▸ H 3 _ (by decide) rfl,
    add_lit ad _ 4 (by decide) ▸ H 4 _ (by decide) rfl, add_lit ad _ 5 (by decide) ▸ H 5 _ (by decide) rfl, add_lit ad _ 6 (by decide) ▸ H 6 _ (by decide) rfl⟩

/-- The best of the first i keys. -/
def better (L : List AK) (b : Int) (k : AK) : Bool := match L[b.toNat]? with
  | some o => decide (b < 0) || (decide (o.sf < k.sf) || (k.sf == o.sf && decide (o.id < k.id)))
  | none => true
def chooseTo (L : List AK) (now : Int) : Nat → Int
  | 0 => -1
  | i + 1 => match L[i]? with
    | none => chooseTo L now i
    | some k => if now < k.sf ∨ k.su < now then chooseTo L now i else if better L (chooseTo L now i) k then (i : Int) else chooseTo L now i
def chooseOf (L : List AK) (now : Int) : Int := chooseTo L now L.length
def ChRel (w : World) (L : List AK) (now : Int) (n : Nat) (i b : Value) (wr : World) : Prop :=
  ∃ (k : Nat), i = .int .i64 k ∧ k ≤ n ∧ b = .int .i64 (chooseTo L now k) ∧ Below w.heap.size w wr

theorem chooseTo_ok (L : List AK) (now : Int) : ∀ i, chooseTo L now i = -1 ∨ ∃ m o, m < i ∧ chooseTo L now i = (m : Nat) ∧ L[m]? = some o := by
  intro i
  induction i with
  | zero => exact .inl rfl
  | succ i ih =>
    have up : (chooseTo L now i = -1 ∨ ∃ m o, m < i ∧ chooseTo L now i = (m : Nat) ∧ L[m]? = some o) → (chooseTo L now i = -1 ∨ ∃ m o, m < i + 1 ∧ chooseTo L now i = (m : Nat) ∧ L[m]? = some o) := by
      rintro (h | ⟨m, o, h1, h2, h3⟩)
      · exact .inl h
      · exact .inr ⟨m, o, by omega, h2, h3⟩
    unfold chooseTo
    split
    · exact up ih
    · rename_i k hk
      split
      · exact up ih
      · split
        · exact .inr ⟨i, k, by omega, rfl, hk⟩
        · exact up ih
theorem choose_skip {L : List AK} {now : Int} {i : Nat} {k : AK} (hk : L[i]? = some k) (h : now < k.sf ∨ k.su < now) : chooseTo L now (i + 1) = chooseTo L now i := by
  conv => lhs; unfold chooseTo
  simp only [hk, if_pos h]
theorem choose_take {L : List AK} {now : Int} {i : Nat} {k : AK} (hk : L[i]? = some k) (h1 : k.sf ≤ now) (h2 : now ≤ k.su) (hb : better L (chooseTo L now i) k = true) : chooseTo L now (i + 1) = i := by
  conv => lhs; unfold chooseTo
  simp only [hk, if_neg (by omega : ¬ (now < k.sf ∨ k.su < now)), hb, if_true]
theorem choose_leave {L : List AK} {now : Int} {i : Nat} {k : AK} (hk : L[i]? = some k) (h1 : k.sf ≤ now) (h2 : now ≤ k.su) (hb : better L (chooseTo L now i) k = false) : chooseTo L now (i + 1) = chooseTo L now i := by
  conv => lhs; unfold chooseTo
  simp only [hk, if_neg (by omega : ¬ (now < k.sf ∨ k.su < now)), hb, Bool.false_eq_true, if_false]
theorem better_neg (L : List AK) (k : AK) : better L (-1) k = true := by
  unfold better
  split
  · simp
  · rfl
theorem better_at {L : List AK} {m : Nat} {o : AK} (k : AK) (h : L[m]? = some o) : better L (m : Nat) k = (decide (o.sf < k.sf) || (k.sf == o.sf && decide (o.id < k.id))) := by
  unfold better
  rw [Int.toNat_natCast, h]
  simp
  intro h2
  omega
set_option maxHeartbeats 2000000 in
theorem choose_any (A : Option Addr) (n c : Nat) (L : List AK) (now : Int) (w : World) (hL : Keys w A n L) (hn : n ≤ 9223372036854775807) :
    Calls Try.prog 28 #[.slice A n c, .int .i64 now] w fun e w' => e = .returned (.int .i64 (chooseOf L now)) ∧ Below w.heap.size w w' := by
  have HL := Lib.hid hL
  clear hL
  go_enter Try.func28, Try.ntmps28
  go_wp2
  go_loopw [10, 5] (ChRel w L now n) (fun i _ _ => n - (intOf i).toNat)
  case atStart => exact ⟨0, rfl, by omega, rfl, Below.refl _ _⟩
  case round =>
    obtain ⟨i, rfl, hi, rfl, hb⟩ := hrel
    have HB := Lib.hid hb
    clear hb
    by_cases hlt : i < n
    · obtain ⟨ad, k, rfl, hbl, hk, hok, c0, c1, c2, c3, c4, c5, c6⟩ := (HL.out.later HB.out).at_ hlt
      obtain ⟨id, kind, S, sn, sc, sf, su, tf, tu, bs⟩ := k
      simp only at c0 c1 c2 c3 c4 c5 c6
      have HB1 : Hid (Below w.heap.size w (wr.alloc (.cells #[.int .u8 id, .int .u16 kind, .slice S sn sc, .int .i64 sf, .int .i64 su, .int .i64 tf, .int .i64 tu] 59))) := HB.out.alloc HB.out.size _
      by_cases g1 : now < sf
      · clear hok
        go_wp2
        go_roundw
        case rel => exact ⟨i + 1, by simp, by omega, by rw [choose_skip hk.out (.inl g1)], HB1.out⟩
        case measure => simp [intOf]; omega
      by_cases g2 : su < now
      · clear hok
        go_wp2
        go_roundw
        case rel => exact ⟨i + 1, by simp, by omega, by rw [choose_skip hk.out (.inr g2)], HB1.out⟩
        case measure => simp [intOf]; omega
      have HC : Hid (Blk (wr.alloc (.cells #[.int .u8 id, .int .u16 kind, .slice S sn sc, .int .i64 sf, .int .i64 su, .int .i64 tf, .int .i64 tu] 59)) wr.heap.size 59 #[.int .u8 id, .int .u16 kind, .slice S sn sc, .int .i64 sf, .int .i64 su, .int .i64 tf, .int .i64 tu]) := Blk.new _ _ _
      rcases chooseTo_ok L now i with hneg | ⟨m, o, hm, hmi, ho⟩
      · rw [hneg]
        go_wp2
        have HK1 := Lib.hid (HL.out.later HB1.out)
        generalize wr.alloc (.cells #[.int .u8 id, .int .u16 kind, .slice S sn sc, .int .i64 sf, .int .i64 su, .int .i64 tf, .int .i64 tu] 59) = w1 at *
        generalize wr.heap.size = g0 at *
        have j0 := HC.out.cell 0
        have j1 := HC.out.cell 1
        have j2 := HC.out.cell 2
        have j3 := HC.out.cell 3
        have j4 := HC.out.cell 4
        have j5 := HC.out.cell 5
        have j6 := HC.out.cell 6
        simp only [List.getElem?_toArray, List.getElem?_cons_zero, List.getElem?_cons_succ] at j0 j1 j2 j3 j4 j5 j6
        clear HC c0 c1 c2 c3 c4 c5 c6 hok
        go_quiet (fail)
        go_wp2
        go_roundw
        case rel => exact ⟨i + 1, by simp, by omega, by rw [choose_take hk.out g1 g2 (by rw [hneg]; exact better_neg _ _)], below_drewN HB1.out _⟩
        case measure => simp [intOf]; omega
      · have ho := Lib.hid ho
        rw [hmi]
        go_wp2
        have HK1 := Lib.hid (HL.out.later HB1.out)
        generalize wr.alloc (.cells #[.int .u8 id, .int .u16 kind, .slice S sn sc, .int .i64 sf, .int .i64 su, .int .i64 tf, .int .i64 tu] 59) = w1 at *
        generalize wr.heap.size = g0 at *
        have j0 := HC.out.cell 0
        have j1 := HC.out.cell 1
        have j2 := HC.out.cell 2
        have j3 := HC.out.cell 3
        have j4 := HC.out.cell 4
        have j5 := HC.out.cell 5
        have j6 := HC.out.cell 6
        simp only [List.getElem?_toArray, List.getElem?_cons_zero, List.getElem?_cons_succ] at j0 j1 j2 j3 j4 j5 j6
        clear HC c0 c1 c2 c3 c4 c5 c6 hok
        obtain ⟨ad2, o2, e2, _, ho2, _, d0, d1, d2, d3, d4, d5, d6⟩ := HK1.out.at_ (i := m) (by omega)
        obtain rfl : ad = ad2 := by injection e2
        obtain rfl : o = o2 := by have := ho.out.symm.trans ho2.out; injection this
        clear e2 ho2
        have hbt := Lib.hid (better_at (m := m) ⟨id, kind, S, sn, sc, sf, su, tf, tu, bs⟩ ho.out)
        obtain ⟨oid, okind, oS, osn, osc, osf, osu, otf, otu, obs⟩ := o
        simp only at d0 d1 d2 d3 d4 d5 d6
        have hmn : m < n := by omega
        have hmz : decide ((m : Int) < 0) = false := decide_eq_false (by omega)
        by_cases e1 : osf < sf
        · go_quiet (fail)
          go_wp2
          go_roundw
          case rel => exact ⟨i + 1, by simp, by omega, by rw [choose_take hk.out g1 g2 (by rw [hmi, hbt.out]; simp [e1])], below_drewN HB1.out _⟩
          case measure => simp [intOf]; omega
        have e1' : decide (osf < sf) = false := decide_eq_false e1
        by_cases e2 : sf = osf
        · subst e2
          by_cases e3 : oid < id
          · go_quiet (fail)
            go_wp2
            go_roundw
            case rel => exact ⟨i + 1, by simp, by omega, by rw [choose_take hk.out g1 g2 (by rw [hmi, hbt.out]; simp [e3])], below_drewN HB1.out _⟩
            case measure => simp [intOf]; omega
          · have e3' : decide (oid < id) = false := decide_eq_false e3
            go_quiet (fail)
            go_wp2
            go_roundw
            case rel => exact ⟨i + 1, by simp, by omega, by rw [choose_leave hk.out g1 g2 (by rw [hmi, hbt.out]; simp [e3])]; rw [hmi], below_drewN HB1.out _⟩
            case measure => simp [intOf]; omega
        · have e2' : (sf == osf) = false := by rw [beq_eq_false_iff_ne]; exact e2
          go_quiet (fail)
          go_wp2
          go_roundw
          case rel => exact ⟨i + 1, by simp, by omega, by rw [choose_leave hk.out g1 g2 (by rw [hmi, hbt.out]; simp [e1, e2])]; rw [hmi], below_drewN HB1.out _⟩
          case measure => simp [intOf]; omega
    · obtain rfl : i = n := by omega
      have hfin : Hid (chooseTo L now i = chooseOf L now) := by show _ = _; unfold chooseOf; rw [HL.out.len]
      rw [hfin.out]
      go_wp2
      go_ret
      exact ⟨rfl, HB.out⟩
end Go.Proofs.Ytbkejlalbjomkaa
namespace Go.Proofs.Ytbkejlalbjomkaa
set_option linter.unusedVariables false
open Go.RowKit

def RChRel (w : World) (L : List AK) (now : Int) (n : Nat) (i b : Value) (wr : World) : Prop :=
  ∃ (k d : Nat), i = .int .i64 k ∧ k ≤ n ∧ b = .int .i64 (chooseTo L now k) ∧ wr = w.drewN d
end Go.Proofs.Ytbkejlalbjomkaa
namespace Go.Proofs.Ytbkejlalbjomkaa
set_option linter.unusedVariables false
open Go.RowKit

theorem flat_take (L : List AK) (i : Nat) : (L.take i).flatMap AK.cells = (L.flatMap AK.cells).take (i * 7) := by
  induction L generalizing i with
  | nil => simp
  | cons a r ih =>
    cases i with
    | zero => simp
    | succ i =>
      rw [List.take_succ_cons, List.flatMap_cons, List.flatMap_cons, ih, List.take_append]
      have h7 : a.cells.length = 7 := rfl
      rw [List.take_of_length_le (l := a.cells) (by rw [h7]; omega), h7, show (i + 1) * 7 - 7 = i * 7 by omega]
theorem Keys.take {w : World} {A : Option Addr} {n i : Nat} {L : List AK} (h : Keys w A n L) (hi : i ≤ n) : Keys w A i (L.take i) := by
  refine ⟨?_, ?_, fun k hk => h.ok k (List.mem_of_mem_take hk)⟩
  · rw [flat_take]
    refine ⟨?_, fun h0 => ?_⟩
    · rw [List.length_take, h.row.1]
      exact Nat.min_eq_left (Nat.mul_le_mul_right 7 hi)
    · obtain ⟨ad, e, hb, hc⟩ := h.row.2 (by omega)
      refine ⟨ad, e, hb, fun j u hu => hc j u ?_⟩
      rw [List.getElem?_take] at hu
      split at hu
      · exact hu
      · cases hu
  · rw [List.length_take, h.len]; exact Nat.min_eq_left hi
theorem same_id {o : AK} {k : AK} {w : World} {g : Nat} (hk : Blk w g 59 k.cells.toArray) :
    Calls Try.prog 70 #[o.v, .pointer (some ⟨g, 0, none⟩)] w fun e w' => e = .returned (.bool (o.id == k.id)) ∧ Below w.heap.size w w' := by
  have h0 : w.cell? ⟨g, 0, none⟩ = some (.int .u8 k.id) := hk.cell 0
  have hg := hk.lt
  have HB : Hid (Below w.heap.size w (w.alloc (.cells #[.int .u8 o.id, .int .u16 o.kind, .slice o.A o.n o.c, .int .i64 o.sf, .int .i64 o.su, .int .i64 o.tf, .int .i64 o.tu] 59))) := (Below.refl _ _).alloc (Nat.le_refl _) _
  clear hk
  go_enter Try.func70, Try.ntmps70
  go_wp2
  go_ret
  exact ⟨rfl, HB.out⟩
def ixRel (w : World) (L : List AK) (k : AK) (n : Nat) (i : Value) (wr : World) : Prop :=
  ∃ j : Nat, i = .int .i64 j ∧ j ≤ n ∧ (∀ o ∈ L.take j, (o.id == k.id) = false) ∧ Below w.heap.size w wr
def ixOut (w w' : World) (L : List AK) (k : AK) (e : Ending) : Prop := (∃ r : Int, e = .returned (.int .i64 r) ∧ decide (0 ≤ r) = L.any (fun o => o.id == k.id)) ∧ Below w.heap.size w w'
set_option maxHeartbeats 1000000 in
theorem indexFunc_any (A : Option Addr) (n c g : Nat) (L : List AK) (k : AK) (w : World) (hL : Keys w A n L) (hk : Blk w g 59 k.cells.toArray) (hn : n ≤ 9223372036854775807) :
    Calls Try.prog 92 #[.slice A n c, .func (.func 70) #[] #[.pointer (some ⟨g, 0, none⟩)]] w fun e w' => ixOut w w' L k e := by
  have HL := Lib.hid hL
  have HK : Hid (Blk w g 59 k.cells.toArray) := hk
  clear hL hk
  go_enter Try.func92, Try.ntmps92
  go_wp2
  go_loopw [8] (ixRel w L k n) (fun i _ => n - (intOf i).toNat)
  case atStart => exact ⟨0, rfl, by omega, by simp, Below.refl _ _⟩
  case round =>
    obtain ⟨i, rfl, hi, hno, hb⟩ := hrel
    have HB := Lib.hid hb
    have HNO : Hid (∀ o ∈ L.take i, (o.id == k.id) = false) := hno
    clear hb hno
    by_cases hlt : i < n
    · obtain ⟨ad, o, rfl, hbl, ho, hok, c0, c1, c2, c3, c4, c5, c6⟩ := (HL.out.later HB.out).at_ hlt
      clear hok
      have HS : Hid (∀ W : World, Blk W g 59 k.cells.toArray → Calls Try.prog 70 #[o.v, .pointer (some ⟨g, 0, none⟩)] W fun e w' => e = .returned (.bool (o.id == k.id)) ∧ Below W.heap.size W w') := fun W h => same_id h
      obtain ⟨id, kind, S, sn, sc, sf, su, tf, tu, bs⟩ := o
      simp only at c0 c1 c2 c3 c4 c5 c6
      by_cases hs : (id == k.id) = true
      · simp only [hs] at HS
        go_wp2_with (go_at_call 70; refine (HS.out _ (HK.out.later HB.out)).mono ?_; rintro e w1 ⟨rfl, hb1⟩; have HB1 := Lib.hid (below_then HB.out hb1); clear hb1)
        go_ret
        refine ⟨⟨_, rfl, ?_⟩, HB1.out⟩
        rw [decide_eq_true (by omega : (0 : Int) ≤ (i : Nat))]
        exact (List.any_eq_true.2 ⟨_, List.mem_of_getElem? ho.out, hs⟩).symm
      · have hs' : (id == k.id) = false := by simpa using hs
        simp only [hs'] at HS
        go_wp2_with (go_at_call 70; refine (HS.out _ (HK.out.later HB.out)).mono ?_; rintro e w1 ⟨rfl, hb1⟩; have HB1 := Lib.hid (below_then HB.out hb1); clear hb1)
        go_roundw
        case rel =>
          refine ⟨i + 1, by simp, by omega, ?_, HB1.out⟩
          intro o ho'
          rw [List.take_add_one, List.mem_append] at ho'
          rcases ho' with h | h
          · exact HNO.out o h
          · rw [ho.out] at h
            simp at h
            subst h
            exact hs'
        case measure => simp [intOf]; omega
    · obtain rfl : i = n := by omega
      go_wp2
      go_ret
      refine ⟨⟨_, rfl, ?_⟩, HB.out⟩
      rw [decide_eq_false (by omega : ¬ (0 : Int) ≤ -1)]
      have h := HNO.out
      rw [List.take_of_length_le (by rw [HL.out.len]; exact Nat.le_refl _)] at h
      exact (List.any_eq_false.2 fun o ho => by rw [h o ho]; decide).symm
theorem containsFunc_any (A : Option Addr) (n c g : Nat) (L : List AK) (k : AK) (w : World) (hL : Keys w A n L) (hk : Blk w g 59 k.cells.toArray) (hn : n ≤ 9223372036854775807) :
    Calls Try.prog 69 #[.slice A n c, .func (.func 70) #[] #[.pointer (some ⟨g, 0, none⟩)]] w fun e w' =>
      e = .returned (.bool (L.any (fun o => o.id == k.id))) ∧ Below w.heap.size w w' := by
  have H := Lib.hid (indexFunc_any A n c g L k w hL hk hn)
  clear hL hk
  go_enter Try.func69, Try.ntmps69
  go_wp2_with (go_at_call 92; refine H.out.mono ?_; rintro e w1 ⟨⟨r, rfl, hr⟩, hb1⟩; have HB1 := Lib.hid hb1; have HR := Lib.hid hr; clear hb1 hr)
  go_ret
  refine ⟨?_, HB1.out⟩
  rw [← HR.out]
  rfl
end Go.Proofs.Ytbkejlalbjomkaa
namespace Go.Proofs.Ytbkejlalbjomkaa
set_option linter.unusedVariables false
open Go.RowKit

theorem exec_load_rowA {P : Program} {o : Oper} {a : Act} {w : World} {ty : TypeId} {x : Operand} (ho : o.op = .load ty x)
    {g : Nat} (hx : a.eval x = .pointer (some ⟨g, 0, none⟩)) {t : TypeId} {cs : Array Value} {d : TypeDesc} (hg : Blk w g t cs)
    (hu : P.underlying ty = some d) (hd : (match d with | .struct _ | .array _ _ => true | _ => false) = true) (hi : (P.info? ty).map (·.size) = some cs.size) :
    (execOp a.eval o).run P w = .ok (.value (.agg cs)) w := by
  unfold execOp
  simp only [ho, hx, Instr.loadAt, Instr.sureAddr, Sem.run_bind, Sem.run_pure, Result.andThen_ok, run_loadVar_row w g t ty cs (0, 0) d hg hu hd hi]
theorem info_key : (Try.prog.info? 59).map (·.size) = some 7 := by kernel_rfl
/-- The first key's kind. -/
def kind0 (L : List AK) : Int := match L with | [] => 0 | k :: _ => k.kind
def badB (L : List AK) (k : AK) : Bool := !mayB k || !(k.kind == kind0 L)
def checkFrom (L : List AK) : Nat → Nat → Int × Int
  | 0, _ => (0, 0)
  | f + 1, i => match L[i]? with
    | none => (0, 0)
    | some k => if badB L k then (26, (i : Int)) else if (L.take i).any (fun o => o.id == k.id) then (63, (i : Int)) else checkFrom L f (i + 1)
def checkOf (L : List AK) : Int × Int := if 16 < L.length then (64, 16) else checkFrom L L.length 0
theorem check_bad {L : List AK} {n i : Nat} {k : AK} (hi : i < n) (hk : L[i]? = some k) (hb : badB L k = true) : checkFrom L (n - i) i = (26, (i : Int)) := by
  rw [show n - i = n - i - 1 + 1 by omega]; unfold checkFrom; simp only [hk, hb, if_true]
theorem check_twice {L : List AK} {n i : Nat} {k : AK} (hi : i < n) (hk : L[i]? = some k) (hb : badB L k = false) (ht : (L.take i).any (fun o => o.id == k.id) = true) : checkFrom L (n - i) i = (63, (i : Int)) := by
  rw [show n - i = n - i - 1 + 1 by omega]; unfold checkFrom; simp only [hk, hb, ht, Bool.false_eq_true, if_false, if_true]
theorem check_on {L : List AK} {n i : Nat} {k : AK} (hi : i < n) (hk : L[i]? = some k) (hb : badB L k = false) (ht : (L.take i).any (fun o => o.id == k.id) = false) : checkFrom L (n - i) i = checkFrom L (n - (i + 1)) (i + 1) := by
  rw [show n - i = n - (i + 1) + 1 by omega]; conv => lhs; unfold checkFrom
  simp only [hk, hb, ht, Bool.false_eq_true, if_false]
theorem kind0_of {L : List AK} {k : AK} (h : L[0]? = some k) : kind0 L = k.kind := by
  cases L with
  | nil => simp at h
  | cons a r => simp at h; subst h; rfl
theorem Keys.first {w : World} {ad : Addr} {n : Nat} {L : List AK} (h : Keys w (some ad) n L) (hn : 0 < n) : w.cell? ⟨ad.block, ad.off + 1, none⟩ = some (.int .u16 (kind0 L)) := by
  obtain ⟨ad', k, e, _, hk, _, _, c1, _⟩ := h.at_ hn
  injection e with e; subst e
  rw [kind0_of hk.out]
  simpa [Addr.add] using c1
def ckRel (w : World) (L : List AK) (n : Nat) (i : Value) (wr : World) : Prop := ∃ j : Nat, i = .int .i64 j ∧ j ≤ n ∧ Hid (checkFrom L (n - j) j = checkFrom L n 0) ∧ Below w.heap.size w wr
def CkAt (w w' : World) (p : Int × Int) (e : Ending) : Prop := e = .returned (.tuple #[.int .i64 p.1, .int .i64 p.2]) ∧ Below w.heap.size w w'
theorem ckAt {w w' : World} {p q : Int × Int} {e : Ending} (h : CkAt w w' p e) (hq : q = p) : CkAt w w' q e := hq ▸ h
set_option maxHeartbeats 4000000 in
theorem check_any (A : Option Addr) (n c : Nat) (L : List AK) (w : World) (hL : Keys w A n L) (hc : n ≤ c) (hn : n ≤ 9223372036854775807) :
    Calls Try.prog 25 #[.slice A n c] w fun e w' => CkAt w w' (checkOf L) e := by
  have HL := Lib.hid hL
  clear hL
  by_cases h16 : 16 < n
  · have hr : Hid (checkOf L = (64, 16)) := by show _ = _; unfold checkOf; rw [if_pos (by rw [HL.out.len]; exact h16)]
    have d0 : decide (16 < (n : Int)) = true := decide_eq_true (by omega)
    go_enter Try.func25, Try.ntmps25
    go_wp2
    go_ret2
    exact ckAt ⟨rfl, Below.refl _ _⟩ hr.out
  have hr : Hid (checkOf L = checkFrom L n 0) := by show _ = _; unfold checkOf; rw [if_neg (by rw [HL.out.len]; exact h16), HL.out.len]
  have d0 : decide (16 < (n : Int)) = false := decide_eq_false (by omega)
  have hn2 : n ≤ 16 := by omega
  go_enter Try.func25, Try.ntmps25
  go_wp2
  go_loopw [11] (ckRel w L n) (fun i _ => n - (intOf i).toNat)
  case atStart => exact ⟨0, rfl, by omega, rfl, Below.refl _ _⟩
  case round =>
    obtain ⟨i, rfl, hi, hck, hb⟩ := hrel
    have HB := Lib.hid hb
    clear hb
    by_cases hlt : i < n
    · obtain ⟨ad, k, rfl, hbl, hk, hok, c0, c1, c2, c3, c4, c5, c6⟩ := (HL.out.later HB.out).at_ hlt
      have HM : Hid (∀ W : World, Calls Try.prog 68 #[k.v] W fun e w' => e = .returned (.bool (mayB k)) ∧ Below W.heap.size W w') := fun W => may_any k W hok.out.kind.1
      have hbad : Hid (badB L k = (!mayB k || !(k.kind == kind0 L))) := rfl
      have h0n : 0 < n := by omega
      obtain ⟨id, kind, S, sn, sc, sf, su, tf, tu, bs⟩ := k
      simp only at c0 c1 c2 c3 c4 c5 c6
      clear hok
      go_wp2
      have HS : Hid ((fun W : World => Blk W wr.heap.size 59 #[.int .u8 id, .int .u16 kind, .slice S sn sc, .int .i64 sf, .int .i64 su, .int .i64 tf, .int .i64 tu] ∧ W.cell? ⟨ad.block, ad.off + 1, none⟩ = some (.int .u16 (kind0 L))) (wr.alloc (.cells #[.int .u8 id, .int .u16 kind, .slice S sn sc, .int .i64 sf, .int .i64 su, .int .i64 tf, .int .i64 tu] 59)).drew) := ⟨Blk.new _ _ _, by
        show (wr.alloc _).cell? _ = _
        rw [World.cell?_alloc_lt wr _ ⟨ad.block, ad.off + 1, none⟩ hbl]
        exact (HL.out.later HB.out).first h0n⟩
      have HB1 : Hid (Below w.heap.size w (wr.alloc (.cells #[.int .u8 id, .int .u16 kind, .slice S sn sc, .int .i64 sf, .int .i64 su, .int .i64 tf, .int .i64 tu] 59)).drew) := (HB.out.alloc HB.out.size _).drew
      clear c0 c1 c2 c3 c4 c5 c6
      generalize hK0 : kind0 L = K0 at *
      refine wp_region_s (fun W : World => Blk W wr.heap.size 59 #[.int .u8 id, .int .u16 kind, .slice S sn sc, .int .i64 sf, .int .i64 su, .int .i64 tf, .int .i64 tu] ∧ W.cell? ⟨ad.block, ad.off + 1, none⟩ = some (.int .u16 K0)) [(0, true), (1, false), (2, true), (3, true), (4, true), (6, true), (7, true), (8, true), (5, true), (9, true), (10, true), (11, true)] (by kernel_rfl) (fun _ d _ _ _ h => by cases d <;> exact h) ?_
      simp only [List.map_cons, List.map_nil, nthOp_zero, nthOp_succ]
      generalize (wr.alloc (.cells #[.int .u8 id, .int .u16 kind, .slice S sn sc, .int .i64 sf, .int .i64 su, .int .i64 tf, .int .i64 tu] 59)).drew = w1 at *
      generalize wr.heap.size = g0 at *
      refine wpS_take HS (by rfl) (fun W hW => exec_load_rowA rfl rfl hW.1 Try.underlying59 rfl info_key) ?_
      refine wpS_do fun K1 hK1 => ?_
      go_wp2_with fail
      refine (HM.out w1).mono ?_
      rintro e w2 ⟨rfl, hb⟩
      have HS2 : Hid ((fun W : World => Blk W g0 59 #[.int .u8 id, .int .u16 kind, .slice S sn sc, .int .i64 sf, .int .i64 su, .int .i64 tf, .int .i64 tu] ∧ W.cell? ⟨ad.block, ad.off + 1, none⟩ = some (.int .u16 K0)) w2) := ⟨HS.out.1.later hb, (hb.cell (p := ⟨ad.block, ad.off + 1, none⟩) (cell_lt HS.out.2)).trans HS.out.2⟩
      have HB2 := Lib.hid (below_then HB1.out hb)
      clear hb HS HB1 HM
      go_wp2
      refine hK1.out _ _ HS2.out ?_
      clear hK1 K1
      generalize hmay : mayB _ = M at *
      cases M
      · have hb1 : Hid (badB L ⟨id, kind, S, sn, sc, sf, su, tf, tu, bs⟩ = true) := by show _ = _; rw [hbad.out]; rfl
        refine wpS_take HS2 (by kernel_rfl) (by intro W hW; have q1 := hW.1.cell 1; have q2 := hW.2; clear hW; simp only [List.getElem?_toArray, List.getElem?_cons_zero, List.getElem?_cons_succ] at q1; go_simp; try with_reducible rfl) ?_
        refine wpS_take HS2 (by kernel_rfl) (by intro W hW; have q1 := hW.1.cell 1; have q2 := hW.2; clear hW; simp only [List.getElem?_toArray, List.getElem?_cons_zero, List.getElem?_cons_succ] at q1; go_simp; try with_reducible rfl) ?_
        refine wpS_skip HS2 (by kernel_rfl) ?_
        refine wpS_skip HS2 (by kernel_rfl) ?_
        refine wpS_skip HS2 (by kernel_rfl) ?_
        refine wpS_skip HS2 (by kernel_rfl) ?_
        refine wpS_skip HS2 (by kernel_rfl) ?_
        refine wpS_skip HS2 (by kernel_rfl) ?_
        refine wpS_skip HS2 (by kernel_rfl) ?_
        refine wpS_take HS2 (by kernel_rfl) (by intro W hW; have q1 := hW.1.cell 1; have q2 := hW.2; clear hW; simp only [List.getElem?_toArray, List.getElem?_cons_zero, List.getElem?_cons_succ] at q1; go_simp; try with_reducible rfl) ?_
        refine wpS_nil ?_
        have hfin : Hid (checkOf L = (26, (i : Int))) := by show _ = _; rw [hr.out, ← hck.out]; exact check_bad hlt hk.out hb1.out
        go_simp
        go_wp2
        go_ret2
        exact ckAt ⟨rfl, HB2.out⟩ hfin.out
      · cases hkk : (kind == K0)
        · have hb1 : Hid (badB L ⟨id, kind, S, sn, sc, sf, su, tf, tu, bs⟩ = true) := by show _ = _; rw [hbad.out]; simp only [hkk]; rfl
          refine wpS_take HS2 (by kernel_rfl) (by intro W hW; have q1 := hW.1.cell 1; have q2 := hW.2; clear hW; simp only [List.getElem?_toArray, List.getElem?_cons_zero, List.getElem?_cons_succ] at q1; go_simp; try with_reducible rfl) ?_
          refine wpS_take HS2 (by kernel_rfl) (by intro W hW; have q1 := hW.1.cell 1; have q2 := hW.2; clear hW; simp only [List.getElem?_toArray, List.getElem?_cons_zero, List.getElem?_cons_succ] at q1; go_simp; try with_reducible rfl) ?_
          refine wpS_take HS2 (by kernel_rfl) (by intro W hW; have q1 := hW.1.cell 1; have q2 := hW.2; clear hW; simp only [List.getElem?_toArray, List.getElem?_cons_zero, List.getElem?_cons_succ] at q1; go_simp; try with_reducible rfl) ?_
          refine wpS_take HS2 (by kernel_rfl) (by intro W hW; have q1 := hW.1.cell 1; have q2 := hW.2; clear hW; simp only [List.getElem?_toArray, List.getElem?_cons_zero, List.getElem?_cons_succ] at q1; go_simp; try with_reducible rfl) ?_
          refine wpS_take HS2 (by kernel_rfl) (by intro W hW; have q1 := hW.1.cell 1; have q2 := hW.2; clear hW; simp only [List.getElem?_toArray, List.getElem?_cons_zero, List.getElem?_cons_succ] at q1; go_simp; try with_reducible rfl) ?_
          refine wpS_take HS2 (by kernel_rfl) (by intro W hW; have q1 := hW.1.cell 1; have q2 := hW.2; clear hW; simp only [List.getElem?_toArray, List.getElem?_cons_zero, List.getElem?_cons_succ] at q1; go_simp; try with_reducible rfl) ?_
          refine wpS_take HS2 (by kernel_rfl) (by intro W hW; have q1 := hW.1.cell 1; have q2 := hW.2; clear hW; simp only [List.getElem?_toArray, List.getElem?_cons_zero, List.getElem?_cons_succ] at q1; go_simp; try with_reducible rfl) ?_
          refine wpS_take HS2 (by kernel_rfl) (by intro W hW; have q1 := hW.1.cell 1; have q2 := hW.2; clear hW; simp only [List.getElem?_toArray, List.getElem?_cons_zero, List.getElem?_cons_succ] at q1; go_simp; try with_reducible rfl) ?_
          refine wpS_take HS2 (by kernel_rfl) (by intro W hW; have q1 := hW.1.cell 1; have q2 := hW.2; clear hW; simp only [List.getElem?_toArray, List.getElem?_cons_zero, List.getElem?_cons_succ] at q1; go_simp; try with_reducible rfl) ?_
          refine wpS_take HS2 (by kernel_rfl) (by intro W hW; have q1 := hW.1.cell 1; have q2 := hW.2; clear hW; simp only [List.getElem?_toArray, List.getElem?_cons_zero, List.getElem?_cons_succ] at q1; go_simp; try with_reducible rfl) ?_
          refine wpS_nil ?_
          have hfin : Hid (checkOf L = (26, (i : Int))) := by show _ = _; rw [hr.out, ← hck.out]; exact check_bad hlt hk.out hb1.out
          go_simp
          go_wp2
          go_ret2
          exact ckAt ⟨rfl, HB2.out⟩ hfin.out
        · have hb1 : Hid (badB L ⟨id, kind, S, sn, sc, sf, su, tf, tu, bs⟩ = false) := by show _ = _; rw [hbad.out]; simp only [hkk]; rfl
          refine wpS_take HS2 (by kernel_rfl) (by intro W hW; have q1 := hW.1.cell 1; have q2 := hW.2; clear hW; simp only [List.getElem?_toArray, List.getElem?_cons_zero, List.getElem?_cons_succ] at q1; go_simp; try with_reducible rfl) ?_
          refine wpS_take HS2 (by kernel_rfl) (by intro W hW; have q1 := hW.1.cell 1; have q2 := hW.2; clear hW; simp only [List.getElem?_toArray, List.getElem?_cons_zero, List.getElem?_cons_succ] at q1; go_simp; try with_reducible rfl) ?_
          refine wpS_take HS2 (by kernel_rfl) (by intro W hW; have q1 := hW.1.cell 1; have q2 := hW.2; clear hW; simp only [List.getElem?_toArray, List.getElem?_cons_zero, List.getElem?_cons_succ] at q1; go_simp; try with_reducible rfl) ?_
          refine wpS_take HS2 (by kernel_rfl) (by intro W hW; have q1 := hW.1.cell 1; have q2 := hW.2; clear hW; simp only [List.getElem?_toArray, List.getElem?_cons_zero, List.getElem?_cons_succ] at q1; go_simp; try with_reducible rfl) ?_
          refine wpS_take HS2 (by kernel_rfl) (by intro W hW; have q1 := hW.1.cell 1; have q2 := hW.2; clear hW; simp only [List.getElem?_toArray, List.getElem?_cons_zero, List.getElem?_cons_succ] at q1; go_simp; try with_reducible rfl) ?_
          refine wpS_take HS2 (by kernel_rfl) (by intro W hW; have q1 := hW.1.cell 1; have q2 := hW.2; clear hW; simp only [List.getElem?_toArray, List.getElem?_cons_zero, List.getElem?_cons_succ] at q1; go_simp; try with_reducible rfl) ?_
          refine wpS_take HS2 (by kernel_rfl) (by intro W hW; have q1 := hW.1.cell 1; have q2 := hW.2; clear hW; simp only [List.getElem?_toArray, List.getElem?_cons_zero, List.getElem?_cons_succ] at q1; go_simp; try with_reducible rfl) ?_
          refine wpS_take HS2 (by kernel_rfl) (by intro W hW; have q1 := hW.1.cell 1; have q2 := hW.2; clear hW; simp only [List.getElem?_toArray, List.getElem?_cons_zero, List.getElem?_cons_succ] at q1; go_simp; try with_reducible rfl) ?_
          refine wpS_take HS2 (by kernel_rfl) (by intro W hW; have q1 := hW.1.cell 1; have q2 := hW.2; clear hW; simp only [List.getElem?_toArray, List.getElem?_cons_zero, List.getElem?_cons_succ] at q1; go_simp; try with_reducible rfl) ?_
          refine wpS_take HS2 (by kernel_rfl) (by intro W hW; have q1 := hW.1.cell 1; have q2 := hW.2; clear hW; simp only [List.getElem?_toArray, List.getElem?_cons_zero, List.getElem?_cons_succ] at q1; go_simp; try with_reducible rfl) ?_
          refine wpS_nil ?_
          have hCF := Lib.hid (containsFunc_any (some ad) i c g0 (L.take i) ⟨id, kind, S, sn, sc, sf, su, tf, tu, bs⟩ w2 ((HL.out.later HB2.out).take (Nat.le_of_lt hlt)) HS2.out.1 (by omega))
          have hic : i ≤ n := Nat.le_of_lt hlt
          have hic2 : i ≤ c := by omega
          go_simp
          have hne : (kind != K0) = false := by rw [bne, hkk]; rfl
          cases hany : (L.take i).any (fun o => o.id == id)
          · simp only [hany] at hCF
            have hgo : Hid (checkFrom L (n - (i + 1)) (i + 1) = checkFrom L n 0) := by show _ = _; rw [← check_on hlt hk.out hb1.out hany]; exact hck.out
            go_wp2_with (go_at_call 69; refine hCF.out.mono ?_; rintro e w3 ⟨rfl, hb⟩; have HB3 := Lib.hid (below_then HB2.out hb); clear hb)
            go_roundw
            case rel => exact ⟨i + 1, by simp, by omega, hgo, HB3.out⟩
            case measure => simp [intOf]; omega
          · simp only [hany] at hCF
            have hfin : Hid (checkOf L = (63, (i : Int))) := by show _ = _; rw [hr.out, ← hck.out]; exact check_twice hlt hk.out hb1.out hany
            go_wp2_with (go_at_call 69; refine hCF.out.mono ?_; rintro e w3 ⟨rfl, hb⟩; have HB3 := Lib.hid (below_then HB2.out hb); clear hb)
            go_ret2
            exact ckAt ⟨rfl, HB3.out⟩ hfin.out
    · obtain rfl : i = n := by omega
      have hfin : Hid (checkOf L = (0, 0)) := by show _ = _; rw [hr.out, ← hck.out, Nat.sub_self]; rfl
      go_wp2
      go_ret2
      exact ckAt ⟨rfl, HB.out⟩ hfin.out
end Go.Proofs.Ytbkejlalbjomkaa
namespace Go.Proofs.Ytbkejlalbjomkaa
set_option linter.unusedVariables false
open Go.RowKit

theorem Keys.cells_at {w : World} {ad : Addr} {n i : Nat} {L : List AK} {k : AK} (h : Keys w (some ad) n L) (hk : L[i]? = some k) :
    (w.cell? (ad.add (i * 7)) = some (.int .u8 k.id) ∧ w.cell? ⟨(ad.add (i * 7)).block, (ad.add (i * 7)).off + 1, none⟩ = some (.int .u16 k.kind) ∧ w.cell? ⟨(ad.add (i * 7)).block, (ad.add (i * 7)).off + 2, none⟩ = some (.slice k.A k.n k.c) ∧
     w.cell? ⟨(ad.add (i * 7)).block, (ad.add (i * 7)).off + 3, none⟩ = some (.int .i64 k.sf) ∧ w.cell? ⟨(ad.add (i * 7)).block, (ad.add (i * 7)).off + 4, none⟩ = some (.int .i64 k.su) ∧ w.cell? ⟨(ad.add (i * 7)).block, (ad.add (i * 7)).off + 5, none⟩ = some (.int .i64 k.tf) ∧ w.cell? ⟨(ad.add (i * 7)).block, (ad.add (i * 7)).off + 6, none⟩ = some (.int .i64 k.tu)) := by
  have hi : i < n := by
    have := h.len
    have := (List.getElem?_eq_some_iff.1 hk).1
    omega
  obtain ⟨ad', k', e, _, hk', _, hc⟩ := h.at_ hi
  injection e with e; subst e
  have : some k' = some k := hk'.out.symm.trans hk
  injection this with this; subst this
  exact hc
def rckRel (w : World) (L : List AK) (n : Nat) (i : Value) (wr : World) : Prop := ∃ j : Nat, i = .int .i64 j ∧ j ≤ n ∧ Hid (checkFrom L (n - j) j = checkFrom L n 0) ∧ Below w.heap.size w wr
def rckIn (w : World) (L : List AK) (id : Int) (i : Nat) (v : Value) (wr : World) : Prop := ∃ j d : Nat, v = .int .i64 j ∧ j ≤ i ∧ Hid (∀ o ∈ L.take j, (o.id == id) = false) ∧ wr = w.drewN d
end Go.Proofs.Ytbkejlalbjomkaa
namespace Go.Proofs.Ytbkejlalbjomkaa
set_option linter.unusedVariables false
open Go.RowKit

/-- Eight bytes of a secret. -/
def pw (bs : List Int) : List Int := bs.take 8 ++ List.replicate (8 - bs.length) 0
theorem pw_length (bs : List Int) : (pw bs).length = 8 := by unfold pw; rw [List.length_append, List.length_take, List.length_replicate]; omega
theorem splice_pw (ks : List Int) : splice (List.replicate 8 (Value.int .u8 0)) 0 (u8s (ks.take 8)) = u8s (pw ks) := by
  unfold splice pw
  rw [u8s_append, List.take_zero, List.nil_append, List.drop_replicate]
  congr 1
  rw [u8s_length, List.length_take]
  unfold u8s
  rw [List.map_replicate]
  congr 1
  omega
theorem u8s_take8_at {w : World} {A : Option Addr} {B n : Nat} {ks : List Int} (h : Reads w B 1 A n (u8s ks)) (h0 : 0 < (u8s (ks.take 8)).length) :
    ∃ ad, A = some ad ∧ ∀ j v, (u8s (ks.take 8))[j]? = some v → w.cell? (ad.add j) = some v := by
  have hl := h.u8len
  have hn : 0 < n := by rw [u8s_length, List.length_take] at h0; omega
  obtain ⟨ad, x, e, _, _, _⟩ := h.u8at hn
  refine ⟨ad, e, fun j v hv => ?_⟩
  rw [← u8s_take, List.getElem?_take] at hv
  split at hv
  · have hj : j < n := by
      have := (List.getElem?_eq_some_iff.1 hv).1
      rw [u8s_length] at this; omega
    obtain ⟨ad', u, e', _, hu, hc⟩ := h.at_ hj
    rw [e] at e'
    obtain rfl := Option.some.inj e'
    rw [hu] at hv
    rw [hc, ← hv]
  · simp at hv
theorem i8 : (Try.prog.info? 34).map (·.size) = some 8 := by kernel_rfl
@[reducible] def z8 : Array Value := #[.int .u8 0, .int .u8 0, .int .u8 0, .int .u8 0, .int .u8 0, .int .u8 0, .int .u8 0, .int .u8 0]
theorem z8_eq : z8 = (List.replicate 8 (Value.int .u8 0)).toArray := by simp [List.replicate]
structure Two2 (g : Nat) (w W : World) (cs : Array Value) : Prop where
  a : Blk W g 59 cs
  b : Blk W (g + 1) 34 z8
  c : Below g w W
set_option maxRecDepth 100000 in
set_option maxHeartbeats 2000000 in
theorem password_any (k : AK) (w : World) (hk : KOk w k) : Calls Try.prog 75 #[k.v] w fun e w' => e = .returned (.agg (u8s (pw k.bs)).toArray) ∧ Below w.heap.size w w' := by
  obtain ⟨id, kind, A, n, c, sf, su, tf, tu, bs⟩ := k
  have hl : bs.length = n := hk.sec.u8len
  have HX : Hid (Reads w w.heap.size 1 A n (u8s bs)) := hk.sec
  clear hk
  have H2 : Hid (Two2 w.heap.size w ((w.alloc (.cells #[.int .u8 id, .int .u16 kind, .slice A n c, .int .i64 sf, .int .i64 su, .int .i64 tf, .int .i64 tu] 59)).alloc (.cells z8 34)) #[.int .u8 id, .int .u16 kind, .slice A n c, .int .i64 sf, .int .i64 su, .int .i64 tf, .int .i64 tu] ∧
    Reads ((w.alloc (.cells #[.int .u8 id, .int .u16 kind, .slice A n c, .int .i64 sf, .int .i64 su, .int .i64 tf, .int .i64 tu] 59)).alloc (.cells z8 34)) w.heap.size 1 A n (u8s bs)) :=
    ⟨⟨(Blk.new _ _ _).alloc _, new_at _ _ _, ((Below.refl _ _).alloc (Nat.le_refl _) _).alloc (by rw [World.size_alloc]; omega) _⟩, (HX.out.alloc (Nat.le_refl _) _).alloc (by rw [World.size_alloc]; omega) _⟩
  clear HX
  go_enter Try.func75, Try.ntmps75
  go_wp2
  have HS : Hid ((fun W : World => Blk W w.heap.size 59 #[.int .u8 id, .int .u16 kind, .slice A n c, .int .i64 sf, .int .i64 su, .int .i64 tf, .int .i64 tu]) ((w.alloc (.cells #[.int .u8 id, .int .u16 kind, .slice A n c, .int .i64 sf, .int .i64 su, .int .i64 tf, .int .i64 tu] 59)).alloc (.cells z8 34)).drew) := H2.out.1.a
  refine wp_region_s (fun W : World => Blk W w.heap.size 59 #[.int .u8 id, .int .u16 kind, .slice A n c, .int .i64 sf, .int .i64 su, .int .i64 tf, .int .i64 tu]) [(0, true), (1, true), (2, true), (3, false)] (by kernel_rfl) (fun _ d _ _ _ h => by cases d <;> exact h) ?_
  simp only [List.map_cons, List.map_nil, nthOp_zero, nthOp_succ]
  have H3 : Hid (Blk ((w.alloc (.cells #[.int .u8 id, .int .u16 kind, .slice A n c, .int .i64 sf, .int .i64 su, .int .i64 tf, .int .i64 tu] 59)).alloc (.cells z8 34)).drew (w.heap.size + 1) 34 z8 ∧
    Below w.heap.size w ((w.alloc (.cells #[.int .u8 id, .int .u16 kind, .slice A n c, .int .i64 sf, .int .i64 su, .int .i64 tf, .int .i64 tu] 59)).alloc (.cells z8 34)).drew ∧
    Reads ((w.alloc (.cells #[.int .u8 id, .int .u16 kind, .slice A n c, .int .i64 sf, .int .i64 su, .int .i64 tf, .int .i64 tu] 59)).alloc (.cells z8 34)).drew w.heap.size 1 A n (u8s bs)) := ⟨H2.out.1.b, H2.out.1.c.drew, H2.out.2⟩
  clear H2
  generalize ((w.alloc (.cells #[.int .u8 id, .int .u16 kind, .slice A n c, .int .i64 sf, .int .i64 su, .int .i64 tf, .int .i64 tu] 59)).alloc (.cells z8 34)).drew = w1 at *
  refine wpS_take HS (by rfl) (by intro W hW; have j2 := hW.cell 2; clear hW; simp only [List.getElem?_toArray, List.getElem?_cons_zero, List.getElem?_cons_succ] at j2; go_simp; try with_reducible rfl) ?_
  refine wpS_take HS (by rfl) (by intro W hW; have j2 := hW.cell 2; clear hW; simp only [List.getElem?_toArray, List.getElem?_cons_zero, List.getElem?_cons_succ] at j2; go_simp; try with_reducible rfl) ?_
  refine wpS_take HS (by rfl) (by intro W hW; have j2 := hW.cell 2; clear hW; simp only [List.getElem?_toArray, List.getElem?_cons_zero, List.getElem?_cons_succ] at j2; go_simp; try with_reducible rfl) ?_
  refine wpS_do fun K1 hK1 => ?_
  obtain ⟨C, hC⟩ : ∃ C, C = u8s (bs.take 8) := ⟨_, rfl⟩
  have HC := Lib.hid hC
  have HCl : Hid (C.length = Nat.min n 8) := by
    show _ = _
    rw [hC, u8s_length, List.length_take, hl]; exact Nat.min_comm _ _
  have HC1 : Hid (∀ v ∈ C, v.oneCell' = true) := by rw [hC]; exact u8s_one
  clear hC
  have HP : Hid (0 < C.length → ∃ ad, A = some ad ∧ ∀ j v, C[j]? = some v → w1.cell? (ad.add j) = some v) := by
    intro h0
    rw [HC.out] at h0 ⊢
    exact u8s_take8_at H3.out.2.2 h0
  have HG : Hid (w1.heap[w.heap.size + 1]? = some (.cells (List.replicate 8 (.int .u8 0)).toArray 34 (0, 0))) := by rw [← z8_eq]; exact H3.out.1
  have HF : Hid (0 + C.length ≤ (List.replicate 8 (Value.int .u8 0)).length) := by
    show _ ≤ _
    rw [List.length_replicate, HCl.out]; have : Nat.min n 8 ≤ 8 := Nat.min_le_right n 8; omega
  have HBw : Hid (Below (w.heap.size + 1) w1 w1) := Below.refl _ _
  go_wp2_with (refine wpList_copy_splice (o := ⟨some 6, _, _, _, _, _⟩) rfl (.tmp 3) (.tmp 5) 39 39 rfl 5 rfl rfl _ _ _ _ _ _ rfl rfl (w.heap.size + 1) 0 (List.replicate 8 (.int .u8 0)) 34 HG.out C HCl.out (fun h0 => ⟨rfl, HP.out h0⟩) HF.out HC1.out (w.heap.size + 1) w1 HBw.out (Nat.le_refl _) ?_; intro w2 HG2 hb2)
  have HB2 : Hid (Below w.heap.size w w2) := H3.out.2.1.trans (hb2.mono (Nat.le_succ _))
  have HS2 : Blk w2 w.heap.size 59 #[.int .u8 id, .int .u16 kind, .slice A n c, .int .i64 sf, .int .i64 su, .int .i64 tf, .int .i64 tu] := HS.out.below hb2 (Nat.lt_succ_self _)
  refine hK1.out _ _ HS2 ?_
  clear hK1 K1
  rw [HC.out, splice_pw] at HG2
  have H8 : Hid (Blk w2 (w.heap.size + 1) 34 (u8s (pw bs)).toArray) := HG2
  have HR8 : Hid ((u8s (pw bs)).toArray.size = 8 ∧ (u8s (pw bs)).toArray.all (·.oneCell') = true) := ⟨by simp [u8s_length, pw_length], by simp [u8s, Value.oneCell']⟩
  refine wpS_nil ?_
  go_simp
  clear HG2 hb2 HS2 HS HG HF HP H3 HBw HC HCl HC1
  go_wp2_with (first
    | (refine wpList_load_row rfl 34 _ rfl (w.heap.size + 1) rfl 34 (u8s (pw bs)).toArray (0, 0) _ H8.out Try.underlying34 rfl (by rw [HR8.out.1]; exact i8) ?_)
    | (refine wpList_store_row rfl 34 _ _ rfl (w.heap.size + 1) (u8s (pw bs)).toArray rfl rfl 34 _ H8.out (by rw [HR8.out.1]; exact i8) rfl HR8.out.2 ?_))
  refine bodyPost_ret (results_cell_row rfl _ _ (w.heap.size + 1) 34 (u8s (pw bs)).toArray (0, 0) _ rfl (H8.out.setRow _) Try.underlying34 rfl (by rw [HR8.out.1]; exact i8)) rfl ⟨rfl, below_setRow HB2.out (Nat.le_succ _) _⟩
end Go.Proofs.Ytbkejlalbjomkaa
