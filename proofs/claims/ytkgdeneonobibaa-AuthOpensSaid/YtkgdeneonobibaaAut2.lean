/-
  Keys of a chain: may of the program and of the reference, walked.
-/
import Derived.Test.YtkgdeneonobibaaAut1
namespace Go.Proofs.Ytkgdeneonobibaa
set_option linter.unusedVariables false
open Go.RowKit

theorem new_at (w : World) (A B : Obj) : ((w.alloc A).alloc B).heap[w.heap.size + 1]? = some B := by
  have := heap_alloc_new (w.alloc A) B
  rwa [World.size_alloc] at this
structure AK where
  id : Int
  kind : Int
  A : Option Addr
  n : Nat
  c : Nat
  sf : Int
  su : Int
  tf : Int
  tu : Int
  bs : List Int
@[reducible] def AK.v (k : AK) : Value := .agg #[.int .u8 k.id, .int .u16 k.kind, .slice k.A k.n k.c, .int .i64 k.sf, .int .i64 k.su, .int .i64 k.tf, .int .i64 k.tu]
def AK.cells (k : AK) : List Value := [.int .u8 k.id, .int .u16 k.kind, .slice k.A k.n k.c, .int .i64 k.sf, .int .i64 k.su, .int .i64 k.tf, .int .i64 k.tu]
def longest (kind : Int) : Int := if kind = 1 then 8 else if kind = 2 then 16 else 0
def mayB (k : AK) : Bool := decide (k.kind ≤ 2) && decide (0 < k.n) && decide ((k.n : Int) ≤ longest k.kind) && decide (0 ≤ k.sf) && decide (k.sf ≤ k.su) && decide (0 ≤ k.tf) && decide (k.tf ≤ k.tu)
theorem kinds (v : Int) (h : 0 ≤ v) : v = 0 ∨ v = 1 ∨ v = 2 ∨ ¬ v ≤ 2 := by omega

set_option maxHeartbeats 4000000 in
theorem may_any (k : AK) (w : World) (hk : 0 ≤ k.kind) : Calls Try.prog 37 #[k.v] w fun e w' => e = .returned (.bool (mayB k)) ∧ Below w.heap.size w w' := by
  obtain ⟨id, kind, A, n, c, sf, su, tf, tu, bs⟩ := k
  have hB0 : ∀ kind : Int, Below w.heap.size w ((w.alloc (.cells #[.int .u8 id, .int .u16 kind, .slice A n c, .int .i64 sf, .int .i64 su, .int .i64 tf, .int .i64 tu] 70)).alloc (.cells #[.int .i64 0, .int .i64 8, .int .i64 16] 140)) := fun _ => ((Below.refl _ _).alloc (Nat.le_refl _) _).alloc (by rw [World.size_alloc]; omega) _
  rcases kinds kind hk with rfl | rfl | rfl | h
  · have HB := Lib.hid (hB0 0)
    clear hB0
    by_cases h1 : 0 < n
    · skip
      have hn : ¬ n = 0 := by omega
      have HM : Hid (mayB ⟨id, 0, A, n, c, sf, su, tf, tu, bs⟩ = false) := by show _ = _; simp [mayB, longest]; omega
      go_enter Try.func37, Try.ntmps37
      go_wp2
      have HC : Hid (Blk ((w.alloc (.cells #[.int .u8 id, .int .u16 0, .slice A n c, .int .i64 sf, .int .i64 su, .int .i64 tf, .int .i64 tu] 70)).alloc (.cells #[.int .i64 0, .int .i64 8, .int .i64 16] 140)) w.heap.size 70 #[.int .u8 id, .int .u16 0, .slice A n c, .int .i64 sf, .int .i64 su, .int .i64 tf, .int .i64 tu] ∧ Blk ((w.alloc (.cells #[.int .u8 id, .int .u16 0, .slice A n c, .int .i64 sf, .int .i64 su, .int .i64 tf, .int .i64 tu] 70)).alloc (.cells #[.int .i64 0, .int .i64 8, .int .i64 16] 140)) (w.heap.size + 1) 140 #[.int .i64 0, .int .i64 8, .int .i64 16]) := ⟨(Blk.new _ _ _).alloc _, new_at _ _ _⟩
      generalize (w.alloc (.cells #[.int .u8 id, .int .u16 0, .slice A n c, .int .i64 sf, .int .i64 su, .int .i64 tf, .int .i64 tu] 70)).alloc (.cells #[.int .i64 0, .int .i64 8, .int .i64 16] 140) = w1 at *
      generalize hs0 : w.heap.size = g0 at *
      have j0 := HC.out.1.cell 0
      have j1 := HC.out.1.cell 1
      have j2 := HC.out.1.cell 2
      have j3 := HC.out.1.cell 3
      have j4 := HC.out.1.cell 4
      have j5 := HC.out.1.cell 5
      have j6 := HC.out.1.cell 6
      have k0 := HC.out.2.cell 0
      have k1 := HC.out.2.cell 1
      have k2 := HC.out.2.cell 2
      simp only [List.getElem?_toArray, List.getElem?_cons_zero, List.getElem?_cons_succ] at j0 j1 j2 j3 j4 j5 j6 k0 k1 k2
      clear HC
      go_quiet (fail)
      go_wp2
      go_ret
      subst hs0
      exact ⟨by rw [HM.out]; rfl, below_drewN HB.out _⟩
    · have HM : Hid (mayB ⟨id, 0, A, n, c, sf, su, tf, tu, bs⟩ = false) := by show _ = _; simp [mayB, longest]; omega
      have d0 : decide (0 < n) = false := decide_eq_false h1
      go_enter Try.func37, Try.ntmps37
      go_wp2
      have HC : Hid (Blk ((w.alloc (.cells #[.int .u8 id, .int .u16 0, .slice A n c, .int .i64 sf, .int .i64 su, .int .i64 tf, .int .i64 tu] 70)).alloc (.cells #[.int .i64 0, .int .i64 8, .int .i64 16] 140)) w.heap.size 70 #[.int .u8 id, .int .u16 0, .slice A n c, .int .i64 sf, .int .i64 su, .int .i64 tf, .int .i64 tu] ∧ Blk ((w.alloc (.cells #[.int .u8 id, .int .u16 0, .slice A n c, .int .i64 sf, .int .i64 su, .int .i64 tf, .int .i64 tu] 70)).alloc (.cells #[.int .i64 0, .int .i64 8, .int .i64 16] 140)) (w.heap.size + 1) 140 #[.int .i64 0, .int .i64 8, .int .i64 16]) := ⟨(Blk.new _ _ _).alloc _, new_at _ _ _⟩
      generalize (w.alloc (.cells #[.int .u8 id, .int .u16 0, .slice A n c, .int .i64 sf, .int .i64 su, .int .i64 tf, .int .i64 tu] 70)).alloc (.cells #[.int .i64 0, .int .i64 8, .int .i64 16] 140) = w1 at *
      generalize hs0 : w.heap.size = g0 at *
      have j0 := HC.out.1.cell 0
      have j1 := HC.out.1.cell 1
      have j2 := HC.out.1.cell 2
      have j3 := HC.out.1.cell 3
      have j4 := HC.out.1.cell 4
      have j5 := HC.out.1.cell 5
      have j6 := HC.out.1.cell 6
      have k0 := HC.out.2.cell 0
      have k1 := HC.out.2.cell 1
      have k2 := HC.out.2.cell 2
      simp only [List.getElem?_toArray, List.getElem?_cons_zero, List.getElem?_cons_succ] at j0 j1 j2 j3 j4 j5 j6 k0 k1 k2
      clear HC
      go_quiet (fail)
      go_wp2
      go_ret
      subst hs0
      exact ⟨by rw [HM.out]; rfl, below_drewN HB.out _⟩
  · have HB := Lib.hid (hB0 1)
    clear hB0
    by_cases h1 : 0 < n
    · skip
      by_cases h2 : (n : Int) ≤ 8
      · skip
        by_cases h3 : 0 ≤ sf
        · skip
          by_cases h4 : sf ≤ su
          · skip
            by_cases h5 : 0 ≤ tf
            · skip
              have HM : Hid (mayB ⟨id, 1, A, n, c, sf, su, tf, tu, bs⟩ = decide (tf ≤ tu)) := by show _ = _; simp [mayB, longest]; omega
              go_enter Try.func37, Try.ntmps37
              go_wp2
              have HC : Hid (Blk ((w.alloc (.cells #[.int .u8 id, .int .u16 1, .slice A n c, .int .i64 sf, .int .i64 su, .int .i64 tf, .int .i64 tu] 70)).alloc (.cells #[.int .i64 0, .int .i64 8, .int .i64 16] 140)) w.heap.size 70 #[.int .u8 id, .int .u16 1, .slice A n c, .int .i64 sf, .int .i64 su, .int .i64 tf, .int .i64 tu] ∧ Blk ((w.alloc (.cells #[.int .u8 id, .int .u16 1, .slice A n c, .int .i64 sf, .int .i64 su, .int .i64 tf, .int .i64 tu] 70)).alloc (.cells #[.int .i64 0, .int .i64 8, .int .i64 16] 140)) (w.heap.size + 1) 140 #[.int .i64 0, .int .i64 8, .int .i64 16]) := ⟨(Blk.new _ _ _).alloc _, new_at _ _ _⟩
              generalize (w.alloc (.cells #[.int .u8 id, .int .u16 1, .slice A n c, .int .i64 sf, .int .i64 su, .int .i64 tf, .int .i64 tu] 70)).alloc (.cells #[.int .i64 0, .int .i64 8, .int .i64 16] 140) = w1 at *
              generalize hs0 : w.heap.size = g0 at *
              have j0 := HC.out.1.cell 0
              have j1 := HC.out.1.cell 1
              have j2 := HC.out.1.cell 2
              have j3 := HC.out.1.cell 3
              have j4 := HC.out.1.cell 4
              have j5 := HC.out.1.cell 5
              have j6 := HC.out.1.cell 6
              have k0 := HC.out.2.cell 0
              have k1 := HC.out.2.cell 1
              have k2 := HC.out.2.cell 2
              simp only [List.getElem?_toArray, List.getElem?_cons_zero, List.getElem?_cons_succ] at j0 j1 j2 j3 j4 j5 j6 k0 k1 k2
              clear HC
              go_quiet (fail)
              go_wp2
              go_ret
              subst hs0
              exact ⟨by rw [HM.out]; rfl, below_drewN HB.out _⟩
            · have HM : Hid (mayB ⟨id, 1, A, n, c, sf, su, tf, tu, bs⟩ = false) := by show _ = _; simp [mayB, longest]; omega
              have d0 : decide (0 ≤ tf) = false := decide_eq_false h5
              go_enter Try.func37, Try.ntmps37
              go_wp2
              have HC : Hid (Blk ((w.alloc (.cells #[.int .u8 id, .int .u16 1, .slice A n c, .int .i64 sf, .int .i64 su, .int .i64 tf, .int .i64 tu] 70)).alloc (.cells #[.int .i64 0, .int .i64 8, .int .i64 16] 140)) w.heap.size 70 #[.int .u8 id, .int .u16 1, .slice A n c, .int .i64 sf, .int .i64 su, .int .i64 tf, .int .i64 tu] ∧ Blk ((w.alloc (.cells #[.int .u8 id, .int .u16 1, .slice A n c, .int .i64 sf, .int .i64 su, .int .i64 tf, .int .i64 tu] 70)).alloc (.cells #[.int .i64 0, .int .i64 8, .int .i64 16] 140)) (w.heap.size + 1) 140 #[.int .i64 0, .int .i64 8, .int .i64 16]) := ⟨(Blk.new _ _ _).alloc _, new_at _ _ _⟩
              generalize (w.alloc (.cells #[.int .u8 id, .int .u16 1, .slice A n c, .int .i64 sf, .int .i64 su, .int .i64 tf, .int .i64 tu] 70)).alloc (.cells #[.int .i64 0, .int .i64 8, .int .i64 16] 140) = w1 at *
              generalize hs0 : w.heap.size = g0 at *
              have j0 := HC.out.1.cell 0
              have j1 := HC.out.1.cell 1
              have j2 := HC.out.1.cell 2
              have j3 := HC.out.1.cell 3
              have j4 := HC.out.1.cell 4
              have j5 := HC.out.1.cell 5
              have j6 := HC.out.1.cell 6
              have k0 := HC.out.2.cell 0
              have k1 := HC.out.2.cell 1
              have k2 := HC.out.2.cell 2
              simp only [List.getElem?_toArray, List.getElem?_cons_zero, List.getElem?_cons_succ] at j0 j1 j2 j3 j4 j5 j6 k0 k1 k2
              clear HC
              go_quiet (fail)
              go_wp2
              go_ret
              subst hs0
              exact ⟨by rw [HM.out]; rfl, below_drewN HB.out _⟩
          · have HM : Hid (mayB ⟨id, 1, A, n, c, sf, su, tf, tu, bs⟩ = false) := by show _ = _; simp [mayB, longest]; omega
            have d0 : decide (sf ≤ su) = false := decide_eq_false h4
            go_enter Try.func37, Try.ntmps37
            go_wp2
            have HC : Hid (Blk ((w.alloc (.cells #[.int .u8 id, .int .u16 1, .slice A n c, .int .i64 sf, .int .i64 su, .int .i64 tf, .int .i64 tu] 70)).alloc (.cells #[.int .i64 0, .int .i64 8, .int .i64 16] 140)) w.heap.size 70 #[.int .u8 id, .int .u16 1, .slice A n c, .int .i64 sf, .int .i64 su, .int .i64 tf, .int .i64 tu] ∧ Blk ((w.alloc (.cells #[.int .u8 id, .int .u16 1, .slice A n c, .int .i64 sf, .int .i64 su, .int .i64 tf, .int .i64 tu] 70)).alloc (.cells #[.int .i64 0, .int .i64 8, .int .i64 16] 140)) (w.heap.size + 1) 140 #[.int .i64 0, .int .i64 8, .int .i64 16]) := ⟨(Blk.new _ _ _).alloc _, new_at _ _ _⟩
            generalize (w.alloc (.cells #[.int .u8 id, .int .u16 1, .slice A n c, .int .i64 sf, .int .i64 su, .int .i64 tf, .int .i64 tu] 70)).alloc (.cells #[.int .i64 0, .int .i64 8, .int .i64 16] 140) = w1 at *
            generalize hs0 : w.heap.size = g0 at *
            have j0 := HC.out.1.cell 0
            have j1 := HC.out.1.cell 1
            have j2 := HC.out.1.cell 2
            have j3 := HC.out.1.cell 3
            have j4 := HC.out.1.cell 4
            have j5 := HC.out.1.cell 5
            have j6 := HC.out.1.cell 6
            have k0 := HC.out.2.cell 0
            have k1 := HC.out.2.cell 1
            have k2 := HC.out.2.cell 2
            simp only [List.getElem?_toArray, List.getElem?_cons_zero, List.getElem?_cons_succ] at j0 j1 j2 j3 j4 j5 j6 k0 k1 k2
            clear HC
            go_quiet (fail)
            go_wp2
            go_ret
            subst hs0
            exact ⟨by rw [HM.out]; rfl, below_drewN HB.out _⟩
        · have HM : Hid (mayB ⟨id, 1, A, n, c, sf, su, tf, tu, bs⟩ = false) := by show _ = _; simp [mayB, longest]; omega
          have d0 : decide (0 ≤ sf) = false := decide_eq_false h3
          go_enter Try.func37, Try.ntmps37
          go_wp2
          have HC : Hid (Blk ((w.alloc (.cells #[.int .u8 id, .int .u16 1, .slice A n c, .int .i64 sf, .int .i64 su, .int .i64 tf, .int .i64 tu] 70)).alloc (.cells #[.int .i64 0, .int .i64 8, .int .i64 16] 140)) w.heap.size 70 #[.int .u8 id, .int .u16 1, .slice A n c, .int .i64 sf, .int .i64 su, .int .i64 tf, .int .i64 tu] ∧ Blk ((w.alloc (.cells #[.int .u8 id, .int .u16 1, .slice A n c, .int .i64 sf, .int .i64 su, .int .i64 tf, .int .i64 tu] 70)).alloc (.cells #[.int .i64 0, .int .i64 8, .int .i64 16] 140)) (w.heap.size + 1) 140 #[.int .i64 0, .int .i64 8, .int .i64 16]) := ⟨(Blk.new _ _ _).alloc _, new_at _ _ _⟩
          generalize (w.alloc (.cells #[.int .u8 id, .int .u16 1, .slice A n c, .int .i64 sf, .int .i64 su, .int .i64 tf, .int .i64 tu] 70)).alloc (.cells #[.int .i64 0, .int .i64 8, .int .i64 16] 140) = w1 at *
          generalize hs0 : w.heap.size = g0 at *
          have j0 := HC.out.1.cell 0
          have j1 := HC.out.1.cell 1
          have j2 := HC.out.1.cell 2
          have j3 := HC.out.1.cell 3
          have j4 := HC.out.1.cell 4
          have j5 := HC.out.1.cell 5
          have j6 := HC.out.1.cell 6
          have k0 := HC.out.2.cell 0
          have k1 := HC.out.2.cell 1
          have k2 := HC.out.2.cell 2
          simp only [List.getElem?_toArray, List.getElem?_cons_zero, List.getElem?_cons_succ] at j0 j1 j2 j3 j4 j5 j6 k0 k1 k2
          clear HC
          go_quiet (fail)
          go_wp2
          go_ret
          subst hs0
          exact ⟨by rw [HM.out]; rfl, below_drewN HB.out _⟩
      · have HM : Hid (mayB ⟨id, 1, A, n, c, sf, su, tf, tu, bs⟩ = false) := by show _ = _; simp [mayB, longest]; omega
        have d0 : decide ((n : Int) ≤ 8) = false := decide_eq_false h2
        go_enter Try.func37, Try.ntmps37
        go_wp2
        have HC : Hid (Blk ((w.alloc (.cells #[.int .u8 id, .int .u16 1, .slice A n c, .int .i64 sf, .int .i64 su, .int .i64 tf, .int .i64 tu] 70)).alloc (.cells #[.int .i64 0, .int .i64 8, .int .i64 16] 140)) w.heap.size 70 #[.int .u8 id, .int .u16 1, .slice A n c, .int .i64 sf, .int .i64 su, .int .i64 tf, .int .i64 tu] ∧ Blk ((w.alloc (.cells #[.int .u8 id, .int .u16 1, .slice A n c, .int .i64 sf, .int .i64 su, .int .i64 tf, .int .i64 tu] 70)).alloc (.cells #[.int .i64 0, .int .i64 8, .int .i64 16] 140)) (w.heap.size + 1) 140 #[.int .i64 0, .int .i64 8, .int .i64 16]) := ⟨(Blk.new _ _ _).alloc _, new_at _ _ _⟩
        generalize (w.alloc (.cells #[.int .u8 id, .int .u16 1, .slice A n c, .int .i64 sf, .int .i64 su, .int .i64 tf, .int .i64 tu] 70)).alloc (.cells #[.int .i64 0, .int .i64 8, .int .i64 16] 140) = w1 at *
        generalize hs0 : w.heap.size = g0 at *
        have j0 := HC.out.1.cell 0
        have j1 := HC.out.1.cell 1
        have j2 := HC.out.1.cell 2
        have j3 := HC.out.1.cell 3
        have j4 := HC.out.1.cell 4
        have j5 := HC.out.1.cell 5
        have j6 := HC.out.1.cell 6
        have k0 := HC.out.2.cell 0
        have k1 := HC.out.2.cell 1
        have k2 := HC.out.2.cell 2
        simp only [List.getElem?_toArray, List.getElem?_cons_zero, List.getElem?_cons_succ] at j0 j1 j2 j3 j4 j5 j6 k0 k1 k2
        clear HC
        go_quiet (fail)
        go_wp2
        go_ret
        subst hs0
        exact ⟨by rw [HM.out]; rfl, below_drewN HB.out _⟩
    · have HM : Hid (mayB ⟨id, 1, A, n, c, sf, su, tf, tu, bs⟩ = false) := by show _ = _; simp [mayB, longest]; omega
      have d0 : decide (0 < n) = false := decide_eq_false h1
      go_enter Try.func37, Try.ntmps37
      go_wp2
      have HC : Hid (Blk ((w.alloc (.cells #[.int .u8 id, .int .u16 1, .slice A n c, .int .i64 sf, .int .i64 su, .int .i64 tf, .int .i64 tu] 70)).alloc (.cells #[.int .i64 0, .int .i64 8, .int .i64 16] 140)) w.heap.size 70 #[.int .u8 id, .int .u16 1, .slice A n c, .int .i64 sf, .int .i64 su, .int .i64 tf, .int .i64 tu] ∧ Blk ((w.alloc (.cells #[.int .u8 id, .int .u16 1, .slice A n c, .int .i64 sf, .int .i64 su, .int .i64 tf, .int .i64 tu] 70)).alloc (.cells #[.int .i64 0, .int .i64 8, .int .i64 16] 140)) (w.heap.size + 1) 140 #[.int .i64 0, .int .i64 8, .int .i64 16]) := ⟨(Blk.new _ _ _).alloc _, new_at _ _ _⟩
      generalize (w.alloc (.cells #[.int .u8 id, .int .u16 1, .slice A n c, .int .i64 sf, .int .i64 su, .int .i64 tf, .int .i64 tu] 70)).alloc (.cells #[.int .i64 0, .int .i64 8, .int .i64 16] 140) = w1 at *
      generalize hs0 : w.heap.size = g0 at *
      have j0 := HC.out.1.cell 0
      have j1 := HC.out.1.cell 1
      have j2 := HC.out.1.cell 2
      have j3 := HC.out.1.cell 3
      have j4 := HC.out.1.cell 4
      have j5 := HC.out.1.cell 5
      have j6 := HC.out.1.cell 6
      have k0 := HC.out.2.cell 0
      have k1 := HC.out.2.cell 1
      have k2 := HC.out.2.cell 2
      simp only [List.getElem?_toArray, List.getElem?_cons_zero, List.getElem?_cons_succ] at j0 j1 j2 j3 j4 j5 j6 k0 k1 k2
      clear HC
      go_quiet (fail)
      go_wp2
      go_ret
      subst hs0
      exact ⟨by rw [HM.out]; rfl, below_drewN HB.out _⟩
  · have HB := Lib.hid (hB0 2)
    clear hB0
    by_cases h1 : 0 < n
    · skip
      by_cases h2 : (n : Int) ≤ 16
      · skip
        by_cases h3 : 0 ≤ sf
        · skip
          by_cases h4 : sf ≤ su
          · skip
            by_cases h5 : 0 ≤ tf
            · skip
              have HM : Hid (mayB ⟨id, 2, A, n, c, sf, su, tf, tu, bs⟩ = decide (tf ≤ tu)) := by show _ = _; simp [mayB, longest]; omega
              go_enter Try.func37, Try.ntmps37
              go_wp2
              have HC : Hid (Blk ((w.alloc (.cells #[.int .u8 id, .int .u16 2, .slice A n c, .int .i64 sf, .int .i64 su, .int .i64 tf, .int .i64 tu] 70)).alloc (.cells #[.int .i64 0, .int .i64 8, .int .i64 16] 140)) w.heap.size 70 #[.int .u8 id, .int .u16 2, .slice A n c, .int .i64 sf, .int .i64 su, .int .i64 tf, .int .i64 tu] ∧ Blk ((w.alloc (.cells #[.int .u8 id, .int .u16 2, .slice A n c, .int .i64 sf, .int .i64 su, .int .i64 tf, .int .i64 tu] 70)).alloc (.cells #[.int .i64 0, .int .i64 8, .int .i64 16] 140)) (w.heap.size + 1) 140 #[.int .i64 0, .int .i64 8, .int .i64 16]) := ⟨(Blk.new _ _ _).alloc _, new_at _ _ _⟩
              generalize (w.alloc (.cells #[.int .u8 id, .int .u16 2, .slice A n c, .int .i64 sf, .int .i64 su, .int .i64 tf, .int .i64 tu] 70)).alloc (.cells #[.int .i64 0, .int .i64 8, .int .i64 16] 140) = w1 at *
              generalize hs0 : w.heap.size = g0 at *
              have j0 := HC.out.1.cell 0
              have j1 := HC.out.1.cell 1
              have j2 := HC.out.1.cell 2
              have j3 := HC.out.1.cell 3
              have j4 := HC.out.1.cell 4
              have j5 := HC.out.1.cell 5
              have j6 := HC.out.1.cell 6
              have k0 := HC.out.2.cell 0
              have k1 := HC.out.2.cell 1
              have k2 := HC.out.2.cell 2
              simp only [List.getElem?_toArray, List.getElem?_cons_zero, List.getElem?_cons_succ] at j0 j1 j2 j3 j4 j5 j6 k0 k1 k2
              clear HC
              go_quiet (fail)
              go_wp2
              go_ret
              subst hs0
              exact ⟨by rw [HM.out]; rfl, below_drewN HB.out _⟩
            · have HM : Hid (mayB ⟨id, 2, A, n, c, sf, su, tf, tu, bs⟩ = false) := by show _ = _; simp [mayB, longest]; omega
              have d0 : decide (0 ≤ tf) = false := decide_eq_false h5
              go_enter Try.func37, Try.ntmps37
              go_wp2
              have HC : Hid (Blk ((w.alloc (.cells #[.int .u8 id, .int .u16 2, .slice A n c, .int .i64 sf, .int .i64 su, .int .i64 tf, .int .i64 tu] 70)).alloc (.cells #[.int .i64 0, .int .i64 8, .int .i64 16] 140)) w.heap.size 70 #[.int .u8 id, .int .u16 2, .slice A n c, .int .i64 sf, .int .i64 su, .int .i64 tf, .int .i64 tu] ∧ Blk ((w.alloc (.cells #[.int .u8 id, .int .u16 2, .slice A n c, .int .i64 sf, .int .i64 su, .int .i64 tf, .int .i64 tu] 70)).alloc (.cells #[.int .i64 0, .int .i64 8, .int .i64 16] 140)) (w.heap.size + 1) 140 #[.int .i64 0, .int .i64 8, .int .i64 16]) := ⟨(Blk.new _ _ _).alloc _, new_at _ _ _⟩
              generalize (w.alloc (.cells #[.int .u8 id, .int .u16 2, .slice A n c, .int .i64 sf, .int .i64 su, .int .i64 tf, .int .i64 tu] 70)).alloc (.cells #[.int .i64 0, .int .i64 8, .int .i64 16] 140) = w1 at *
              generalize hs0 : w.heap.size = g0 at *
              have j0 := HC.out.1.cell 0
              have j1 := HC.out.1.cell 1
              have j2 := HC.out.1.cell 2
              have j3 := HC.out.1.cell 3
              have j4 := HC.out.1.cell 4
              have j5 := HC.out.1.cell 5
              have j6 := HC.out.1.cell 6
              have k0 := HC.out.2.cell 0
              have k1 := HC.out.2.cell 1
              have k2 := HC.out.2.cell 2
              simp only [List.getElem?_toArray, List.getElem?_cons_zero, List.getElem?_cons_succ] at j0 j1 j2 j3 j4 j5 j6 k0 k1 k2
              clear HC
              go_quiet (fail)
              go_wp2
              go_ret
              subst hs0
              exact ⟨by rw [HM.out]; rfl, below_drewN HB.out _⟩
          · have HM : Hid (mayB ⟨id, 2, A, n, c, sf, su, tf, tu, bs⟩ = false) := by show _ = _; simp [mayB, longest]; omega
            have d0 : decide (sf ≤ su) = false := decide_eq_false h4
            go_enter Try.func37, Try.ntmps37
            go_wp2
            have HC : Hid (Blk ((w.alloc (.cells #[.int .u8 id, .int .u16 2, .slice A n c, .int .i64 sf, .int .i64 su, .int .i64 tf, .int .i64 tu] 70)).alloc (.cells #[.int .i64 0, .int .i64 8, .int .i64 16] 140)) w.heap.size 70 #[.int .u8 id, .int .u16 2, .slice A n c, .int .i64 sf, .int .i64 su, .int .i64 tf, .int .i64 tu] ∧ Blk ((w.alloc (.cells #[.int .u8 id, .int .u16 2, .slice A n c, .int .i64 sf, .int .i64 su, .int .i64 tf, .int .i64 tu] 70)).alloc (.cells #[.int .i64 0, .int .i64 8, .int .i64 16] 140)) (w.heap.size + 1) 140 #[.int .i64 0, .int .i64 8, .int .i64 16]) := ⟨(Blk.new _ _ _).alloc _, new_at _ _ _⟩
            generalize (w.alloc (.cells #[.int .u8 id, .int .u16 2, .slice A n c, .int .i64 sf, .int .i64 su, .int .i64 tf, .int .i64 tu] 70)).alloc (.cells #[.int .i64 0, .int .i64 8, .int .i64 16] 140) = w1 at *
            generalize hs0 : w.heap.size = g0 at *
            have j0 := HC.out.1.cell 0
            have j1 := HC.out.1.cell 1
            have j2 := HC.out.1.cell 2
            have j3 := HC.out.1.cell 3
            have j4 := HC.out.1.cell 4
            have j5 := HC.out.1.cell 5
            have j6 := HC.out.1.cell 6
            have k0 := HC.out.2.cell 0
            have k1 := HC.out.2.cell 1
            have k2 := HC.out.2.cell 2
            simp only [List.getElem?_toArray, List.getElem?_cons_zero, List.getElem?_cons_succ] at j0 j1 j2 j3 j4 j5 j6 k0 k1 k2
            clear HC
            go_quiet (fail)
            go_wp2
            go_ret
            subst hs0
            exact ⟨by rw [HM.out]; rfl, below_drewN HB.out _⟩
        · have HM : Hid (mayB ⟨id, 2, A, n, c, sf, su, tf, tu, bs⟩ = false) := by show _ = _; simp [mayB, longest]; omega
          have d0 : decide (0 ≤ sf) = false := decide_eq_false h3
          go_enter Try.func37, Try.ntmps37
          go_wp2
          have HC : Hid (Blk ((w.alloc (.cells #[.int .u8 id, .int .u16 2, .slice A n c, .int .i64 sf, .int .i64 su, .int .i64 tf, .int .i64 tu] 70)).alloc (.cells #[.int .i64 0, .int .i64 8, .int .i64 16] 140)) w.heap.size 70 #[.int .u8 id, .int .u16 2, .slice A n c, .int .i64 sf, .int .i64 su, .int .i64 tf, .int .i64 tu] ∧ Blk ((w.alloc (.cells #[.int .u8 id, .int .u16 2, .slice A n c, .int .i64 sf, .int .i64 su, .int .i64 tf, .int .i64 tu] 70)).alloc (.cells #[.int .i64 0, .int .i64 8, .int .i64 16] 140)) (w.heap.size + 1) 140 #[.int .i64 0, .int .i64 8, .int .i64 16]) := ⟨(Blk.new _ _ _).alloc _, new_at _ _ _⟩
          generalize (w.alloc (.cells #[.int .u8 id, .int .u16 2, .slice A n c, .int .i64 sf, .int .i64 su, .int .i64 tf, .int .i64 tu] 70)).alloc (.cells #[.int .i64 0, .int .i64 8, .int .i64 16] 140) = w1 at *
          generalize hs0 : w.heap.size = g0 at *
          have j0 := HC.out.1.cell 0
          have j1 := HC.out.1.cell 1
          have j2 := HC.out.1.cell 2
          have j3 := HC.out.1.cell 3
          have j4 := HC.out.1.cell 4
          have j5 := HC.out.1.cell 5
          have j6 := HC.out.1.cell 6
          have k0 := HC.out.2.cell 0
          have k1 := HC.out.2.cell 1
          have k2 := HC.out.2.cell 2
          simp only [List.getElem?_toArray, List.getElem?_cons_zero, List.getElem?_cons_succ] at j0 j1 j2 j3 j4 j5 j6 k0 k1 k2
          clear HC
          go_quiet (fail)
          go_wp2
          go_ret
          subst hs0
          exact ⟨by rw [HM.out]; rfl, below_drewN HB.out _⟩
      · have HM : Hid (mayB ⟨id, 2, A, n, c, sf, su, tf, tu, bs⟩ = false) := by show _ = _; simp [mayB, longest]; omega
        have d0 : decide ((n : Int) ≤ 16) = false := decide_eq_false h2
        go_enter Try.func37, Try.ntmps37
        go_wp2
        have HC : Hid (Blk ((w.alloc (.cells #[.int .u8 id, .int .u16 2, .slice A n c, .int .i64 sf, .int .i64 su, .int .i64 tf, .int .i64 tu] 70)).alloc (.cells #[.int .i64 0, .int .i64 8, .int .i64 16] 140)) w.heap.size 70 #[.int .u8 id, .int .u16 2, .slice A n c, .int .i64 sf, .int .i64 su, .int .i64 tf, .int .i64 tu] ∧ Blk ((w.alloc (.cells #[.int .u8 id, .int .u16 2, .slice A n c, .int .i64 sf, .int .i64 su, .int .i64 tf, .int .i64 tu] 70)).alloc (.cells #[.int .i64 0, .int .i64 8, .int .i64 16] 140)) (w.heap.size + 1) 140 #[.int .i64 0, .int .i64 8, .int .i64 16]) := ⟨(Blk.new _ _ _).alloc _, new_at _ _ _⟩
        generalize (w.alloc (.cells #[.int .u8 id, .int .u16 2, .slice A n c, .int .i64 sf, .int .i64 su, .int .i64 tf, .int .i64 tu] 70)).alloc (.cells #[.int .i64 0, .int .i64 8, .int .i64 16] 140) = w1 at *
        generalize hs0 : w.heap.size = g0 at *
        have j0 := HC.out.1.cell 0
        have j1 := HC.out.1.cell 1
        have j2 := HC.out.1.cell 2
        have j3 := HC.out.1.cell 3
        have j4 := HC.out.1.cell 4
        have j5 := HC.out.1.cell 5
        have j6 := HC.out.1.cell 6
        have k0 := HC.out.2.cell 0
        have k1 := HC.out.2.cell 1
        have k2 := HC.out.2.cell 2
        simp only [List.getElem?_toArray, List.getElem?_cons_zero, List.getElem?_cons_succ] at j0 j1 j2 j3 j4 j5 j6 k0 k1 k2
        clear HC
        go_quiet (fail)
        go_wp2
        go_ret
        subst hs0
        exact ⟨by rw [HM.out]; rfl, below_drewN HB.out _⟩
    · have HM : Hid (mayB ⟨id, 2, A, n, c, sf, su, tf, tu, bs⟩ = false) := by show _ = _; simp [mayB, longest]; omega
      have d0 : decide (0 < n) = false := decide_eq_false h1
      go_enter Try.func37, Try.ntmps37
      go_wp2
      have HC : Hid (Blk ((w.alloc (.cells #[.int .u8 id, .int .u16 2, .slice A n c, .int .i64 sf, .int .i64 su, .int .i64 tf, .int .i64 tu] 70)).alloc (.cells #[.int .i64 0, .int .i64 8, .int .i64 16] 140)) w.heap.size 70 #[.int .u8 id, .int .u16 2, .slice A n c, .int .i64 sf, .int .i64 su, .int .i64 tf, .int .i64 tu] ∧ Blk ((w.alloc (.cells #[.int .u8 id, .int .u16 2, .slice A n c, .int .i64 sf, .int .i64 su, .int .i64 tf, .int .i64 tu] 70)).alloc (.cells #[.int .i64 0, .int .i64 8, .int .i64 16] 140)) (w.heap.size + 1) 140 #[.int .i64 0, .int .i64 8, .int .i64 16]) := ⟨(Blk.new _ _ _).alloc _, new_at _ _ _⟩
      generalize (w.alloc (.cells #[.int .u8 id, .int .u16 2, .slice A n c, .int .i64 sf, .int .i64 su, .int .i64 tf, .int .i64 tu] 70)).alloc (.cells #[.int .i64 0, .int .i64 8, .int .i64 16] 140) = w1 at *
      generalize hs0 : w.heap.size = g0 at *
      have j0 := HC.out.1.cell 0
      have j1 := HC.out.1.cell 1
      have j2 := HC.out.1.cell 2
      have j3 := HC.out.1.cell 3
      have j4 := HC.out.1.cell 4
      have j5 := HC.out.1.cell 5
      have j6 := HC.out.1.cell 6
      have k0 := HC.out.2.cell 0
      have k1 := HC.out.2.cell 1
      have k2 := HC.out.2.cell 2
      simp only [List.getElem?_toArray, List.getElem?_cons_zero, List.getElem?_cons_succ] at j0 j1 j2 j3 j4 j5 j6 k0 k1 k2
      clear HC
      go_quiet (fail)
      go_wp2
      go_ret
      subst hs0
      exact ⟨by rw [HM.out]; rfl, below_drewN HB.out _⟩
  · have HB := Lib.hid (hB0 kind)
    clear hB0
    have HM : Hid (mayB ⟨id, kind, A, n, c, sf, su, tf, tu, bs⟩ = false) := by show _ = _; simp [mayB]; omega
    have d0 : decide (kind ≤ 2) = false := decide_eq_false h
    go_enter Try.func37, Try.ntmps37
    go_wp2
    have HC : Hid (Blk ((w.alloc (.cells #[.int .u8 id, .int .u16 kind, .slice A n c, .int .i64 sf, .int .i64 su, .int .i64 tf, .int .i64 tu] 70)).alloc (.cells #[.int .i64 0, .int .i64 8, .int .i64 16] 140)) w.heap.size 70 #[.int .u8 id, .int .u16 kind, .slice A n c, .int .i64 sf, .int .i64 su, .int .i64 tf, .int .i64 tu] ∧ Blk ((w.alloc (.cells #[.int .u8 id, .int .u16 kind, .slice A n c, .int .i64 sf, .int .i64 su, .int .i64 tf, .int .i64 tu] 70)).alloc (.cells #[.int .i64 0, .int .i64 8, .int .i64 16] 140)) (w.heap.size + 1) 140 #[.int .i64 0, .int .i64 8, .int .i64 16]) := ⟨(Blk.new _ _ _).alloc _, new_at _ _ _⟩
    generalize (w.alloc (.cells #[.int .u8 id, .int .u16 kind, .slice A n c, .int .i64 sf, .int .i64 su, .int .i64 tf, .int .i64 tu] 70)).alloc (.cells #[.int .i64 0, .int .i64 8, .int .i64 16] 140) = w1 at *
    generalize hs0 : w.heap.size = g0 at *
    have j0 := HC.out.1.cell 0
    have j1 := HC.out.1.cell 1
    have j2 := HC.out.1.cell 2
    have j3 := HC.out.1.cell 3
    have j4 := HC.out.1.cell 4
    have j5 := HC.out.1.cell 5
    have j6 := HC.out.1.cell 6
    have k0 := HC.out.2.cell 0
    have k1 := HC.out.2.cell 1
    have k2 := HC.out.2.cell 2
    simp only [List.getElem?_toArray, List.getElem?_cons_zero, List.getElem?_cons_succ] at j0 j1 j2 j3 j4 j5 j6 k0 k1 k2
    clear HC
    go_quiet (fail)
    go_wp2
    go_ret
    subst hs0
    exact ⟨by rw [HM.out]; rfl, below_drewN HB.out _⟩

set_option maxHeartbeats 4000000 in
theorem refMay_any (k : AK) (w : World) (hk : 0 ≤ k.kind) : Calls Try.prog 40 #[k.v] w fun e w' => e = .returned (.bool (mayB k)) ∧ Below w.heap.size w w' := by
  obtain ⟨id, kind, A, n, c, sf, su, tf, tu, bs⟩ := k
  have hB0 : ∀ kind : Int, Below w.heap.size w (w.alloc (.cells #[.int .u8 id, .int .u16 kind, .slice A n c, .int .i64 sf, .int .i64 su, .int .i64 tf, .int .i64 tu] 70)) := fun _ => (Below.refl _ _).alloc (Nat.le_refl _) _
  rcases kinds kind hk with rfl | rfl | rfl | h
  · have HB := Lib.hid (hB0 0)
    clear hB0
    have HM : Hid (mayB ⟨id, 0, A, n, c, sf, su, tf, tu, bs⟩ = false) := by show _ = _; simp [mayB, longest]; try omega
    go_enter Try.func40, Try.ntmps40
    go_wp2
    go_ret
    exact ⟨by rw [HM.out]; rfl, HB.out⟩
  · have HB := Lib.hid (hB0 1)
    clear hB0
    by_cases h1 : 0 < n
    · have z0 : ((n : Int) == 0) = false := by rw [beq_eq_false_iff_ne]; omega
      by_cases h2 : (n : Int) ≤ 8
      · have g0 : decide (8 < (n : Int)) = false := decide_eq_false (by omega)
        by_cases h3 : 0 ≤ sf
        · skip
          by_cases h4 : sf ≤ su
          · skip
            by_cases h5 : 0 ≤ tf
            · skip
              have HM : Hid (mayB ⟨id, 1, A, n, c, sf, su, tf, tu, bs⟩ = decide (tf ≤ tu)) := by show _ = _; simp [mayB, longest]; try omega
              go_enter Try.func40, Try.ntmps40
              go_wp2
              go_ret
              exact ⟨by rw [HM.out]; rfl, HB.out⟩
            · have d0 : decide (0 ≤ tf) = false := decide_eq_false h5
              have HM : Hid (mayB ⟨id, 1, A, n, c, sf, su, tf, tu, bs⟩ = false) := by show _ = _; simp [mayB, longest]; try omega
              go_enter Try.func40, Try.ntmps40
              go_wp2
              go_ret
              exact ⟨by rw [HM.out]; rfl, HB.out⟩
          · have d0 : decide (sf ≤ su) = false := decide_eq_false h4
            have HM : Hid (mayB ⟨id, 1, A, n, c, sf, su, tf, tu, bs⟩ = false) := by show _ = _; simp [mayB, longest]; try omega
            go_enter Try.func40, Try.ntmps40
            go_wp2
            go_ret
            exact ⟨by rw [HM.out]; rfl, HB.out⟩
        · have d0 : decide (0 ≤ sf) = false := decide_eq_false h3
          have HM : Hid (mayB ⟨id, 1, A, n, c, sf, su, tf, tu, bs⟩ = false) := by show _ = _; simp [mayB, longest]; try omega
          go_enter Try.func40, Try.ntmps40
          go_wp2
          go_ret
          exact ⟨by rw [HM.out]; rfl, HB.out⟩
      · have g0 : decide (8 < (n : Int)) = true := decide_eq_true (by omega)
        have HM : Hid (mayB ⟨id, 1, A, n, c, sf, su, tf, tu, bs⟩ = false) := by show _ = _; simp [mayB, longest]; try omega
        go_enter Try.func40, Try.ntmps40
        go_wp2
        go_ret
        exact ⟨by rw [HM.out]; rfl, HB.out⟩
    · have z0 : ((n : Int) == 0) = true := by rw [beq_iff_eq]; omega
      have g0 : decide (8 < (n : Int)) = false := decide_eq_false (by omega)
      have HM : Hid (mayB ⟨id, 1, A, n, c, sf, su, tf, tu, bs⟩ = false) := by show _ = _; simp [mayB, longest]; try omega
      go_enter Try.func40, Try.ntmps40
      go_wp2
      go_ret
      exact ⟨by rw [HM.out]; rfl, HB.out⟩
  · have HB := Lib.hid (hB0 2)
    clear hB0
    by_cases h1 : 0 < n
    · have z0 : ((n : Int) == 0) = false := by rw [beq_eq_false_iff_ne]; omega
      by_cases h2 : (n : Int) ≤ 16
      · have g0 : decide (16 < (n : Int)) = false := decide_eq_false (by omega)
        by_cases h3 : 0 ≤ sf
        · skip
          by_cases h4 : sf ≤ su
          · skip
            by_cases h5 : 0 ≤ tf
            · skip
              have HM : Hid (mayB ⟨id, 2, A, n, c, sf, su, tf, tu, bs⟩ = decide (tf ≤ tu)) := by show _ = _; simp [mayB, longest]; try omega
              go_enter Try.func40, Try.ntmps40
              go_wp2
              go_ret
              exact ⟨by rw [HM.out]; rfl, HB.out⟩
            · have d0 : decide (0 ≤ tf) = false := decide_eq_false h5
              have HM : Hid (mayB ⟨id, 2, A, n, c, sf, su, tf, tu, bs⟩ = false) := by show _ = _; simp [mayB, longest]; try omega
              go_enter Try.func40, Try.ntmps40
              go_wp2
              go_ret
              exact ⟨by rw [HM.out]; rfl, HB.out⟩
          · have d0 : decide (sf ≤ su) = false := decide_eq_false h4
            have HM : Hid (mayB ⟨id, 2, A, n, c, sf, su, tf, tu, bs⟩ = false) := by show _ = _; simp [mayB, longest]; try omega
            go_enter Try.func40, Try.ntmps40
            go_wp2
            go_ret
            exact ⟨by rw [HM.out]; rfl, HB.out⟩
        · have d0 : decide (0 ≤ sf) = false := decide_eq_false h3
          have HM : Hid (mayB ⟨id, 2, A, n, c, sf, su, tf, tu, bs⟩ = false) := by show _ = _; simp [mayB, longest]; try omega
          go_enter Try.func40, Try.ntmps40
          go_wp2
          go_ret
          exact ⟨by rw [HM.out]; rfl, HB.out⟩
      · have g0 : decide (16 < (n : Int)) = true := decide_eq_true (by omega)
        have HM : Hid (mayB ⟨id, 2, A, n, c, sf, su, tf, tu, bs⟩ = false) := by show _ = _; simp [mayB, longest]; try omega
        go_enter Try.func40, Try.ntmps40
        go_wp2
        go_ret
        exact ⟨by rw [HM.out]; rfl, HB.out⟩
    · have z0 : ((n : Int) == 0) = true := by rw [beq_iff_eq]; omega
      have g0 : decide (16 < (n : Int)) = false := decide_eq_false (by omega)
      have HM : Hid (mayB ⟨id, 2, A, n, c, sf, su, tf, tu, bs⟩ = false) := by show _ = _; simp [mayB, longest]; try omega
      go_enter Try.func40, Try.ntmps40
      go_wp2
      go_ret
      exact ⟨by rw [HM.out]; rfl, HB.out⟩
  · have HB := Lib.hid (hB0 kind)
    clear hB0
    have e1 : (kind == 1) = false := by rw [beq_eq_false_iff_ne]; omega
    have e2 : (kind == 2) = false := by rw [beq_eq_false_iff_ne]; omega
    have e3 : decide (kind < 1) = false := decide_eq_false (by omega)
    have e4 : decide (2 < kind) = true := decide_eq_true (by omega)
    have HM : Hid (mayB ⟨id, kind, A, n, c, sf, su, tf, tu, bs⟩ = false) := by show _ = _; simp [mayB, longest]; try omega
    go_enter Try.func40, Try.ntmps40
    go_wp2
    go_ret
    exact ⟨by rw [HM.out]; rfl, HB.out⟩
end Go.Proofs.Ytkgdeneonobibaa
