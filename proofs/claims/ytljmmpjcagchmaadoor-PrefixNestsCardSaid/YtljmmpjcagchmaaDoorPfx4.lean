/-
  The reference's Is, Has, last, Covers, Overlap, Compare, walked.
-/
import Derived.Test.YtljmmpjcagchmaaDoorPfx3
namespace Go.Proofs.YtljmmpjcagchmaaDoor
set_option linter.unusedVariables false
open Go.RowKit

abbrev boxP (w : World) (a n : Nat) : World := w.alloc (.cells #[.int .u32 a, .int .u8 n] 31)
def IRel (w : World) (a n : Nat) (i : Value) (wr : World) : Prop := ∃ k : Nat, i = .int .u8 k ∧ n ≤ k ∧ k ≤ 32 ∧ Hid (∀ j, n ≤ j → j < k → bitN a j = 0) ∧ wr = boxP w a n
set_option maxRecDepth 100000 in
set_option maxHeartbeats 2000000 in
theorem refIs_any (p : Pf) (w : World) (hp : p.ok) :
    Calls Tryd.prog 32 #[p.v] w fun e w' => e = .returned (.bool (isP p.a p.n)) ∧ Below w.heap.size w w' := by
  obtain ⟨a, n⟩ := p
  obtain ⟨ha, hn⟩ := hp
  simp only at ha hn
  show Calls Tryd.prog 32 #[.agg #[.int .u32 a, .int .u8 n]] w fun e w' => e = .returned (.bool (isP a n)) ∧ Below w.heap.size w w'
  by_cases h : 32 < n
  · have hr : Hid (isP a n = false) := by show _ = _; unfold isP; rw [decide_eq_false (by omega : ¬ n ≤ 32)]; rfl
    have h1 : (32 : Int) < n := by omega
    go_enter Tryd.func32, Tryd.ntmps32
    go_wp2
    go_ret
    exact ⟨by rw [hr.out]; rfl, (Below.refl _ _).alloc (Nat.le_refl _) _⟩
  · have h1 : (n : Int) ≤ 32 := by omega
    go_enter Tryd.func32, Tryd.ntmps32
    go_wp2
    go_loopw [3] (IRel w a n) (fun i _ => 32 - (intOf i).toNat)
    case atStart => exact ⟨n, rfl, by omega, by omega, fun j h1 h2 => absurd h1 (by omega), rfl⟩
    case round =>
      obtain ⟨k, rfl, hk0, hk, hz, rfl⟩ := hrel
      by_cases hlt : k < 32
      · have h3 : (k : Int) < 32 := by omega
        have HB := Lib.hid (fun W => refBit_any a k W ha (by omega))
        by_cases hb : bitN a k = 0
        · have hz' : Hid (∀ j, n ≤ j → j < k + 1 → bitN a j = 0) := fun j h1 h2 => by
            by_cases hjk : j = k
            · subst hjk; exact hb
            · exact hz.out j h1 (by omega)
          rw [hb] at HB
          clear hb hz
          go_wp2_with (go_at_call 46; refine (HB.out _).mono ?_; rintro e w' ⟨rfl, rfl⟩)
          go_roundw
          case rel => exact ⟨k + 1, by simp, by omega, by omega, hz', rfl⟩
          case measure => simp [intOf]; omega
        · have hr : Hid (isP a n = false) := by
            show _ = _
            rw [Bool.eq_false_iff]
            intro ht
            exact hb ((isP_bits (by omega)).1 ht k hk0 hlt)
          have hne : ((bitN a k : Int) != 0) = true := by simp; omega
          clear hz hb
          generalize bitN a k = x at *
          go_wp2_with (go_at_call 46; refine (HB.out _).mono ?_; rintro e w' ⟨rfl, rfl⟩)
          go_ret
          exact ⟨by rw [hr.out]; rfl, (Below.refl _ _).alloc (Nat.le_refl _) _⟩
      · obtain rfl : k = 32 := by omega
        have hr : Hid (isP a n = true) := (isP_bits (by omega)).2 fun i h1 h2 => hz.out i h1 h2
        clear hz
        rw [show ((32 : Nat) : Int) = 32 from rfl]
        go_wp2
        go_ret
        exact ⟨by rw [hr.out]; rfl, (Below.refl _ _).alloc (Nat.le_refl _) _⟩

def HRel (w1 : World) (g a n b : Nat) (i : Value) (wr : World) : Prop := ∃ k : Nat, i = .int .u8 k ∧ k ≤ n ∧ Hid (∀ j, j < k → bitN a j = bitN b j) ∧ wr = w1
set_option maxRecDepth 100000 in
set_option maxHeartbeats 2000000 in
theorem refHas_any (p : Pf) (b : Nat) (w : World) (hp : p.ok) (hb : b < 4294967296) :
    Calls Tryd.prog 33 #[p.v, .int .u32 b] w fun e w' => e = .returned (.bool (hasP p.a p.n b)) ∧ Below w.heap.size w w' := by
  obtain ⟨a, n⟩ := p
  have HI : Hid (∀ W : World, Calls Tryd.prog 32 #[.agg #[.int .u32 a, .int .u8 n]] W fun e w' => e = .returned (.bool (isP a n)) ∧ Below W.heap.size W w') := (fun W => refIs_any ⟨a, n⟩ W hp)
  obtain ⟨ha, hn⟩ := hp
  simp only at ha hn
  show Calls Tryd.prog 33 #[.agg #[.int .u32 a, .int .u8 n], .int .u32 b] w fun e w' => e = .returned (.bool (hasP a n b)) ∧ Below w.heap.size w w'
  cases hz : isP a n
  · have hr : Hid (hasP a n b = false) := by show _ = _; unfold hasP; rw [hz]; rfl
    rw [hz] at HI
    go_enter Tryd.func33, Tryd.ntmps33
    go_wp2_with (go_at_call 32; refine (HI.out _).mono ?_; rintro e w1 ⟨rfl, hb⟩; have HB := Lib.hid hb; clear hb)
    go_ret
    exact ⟨by rw [hr.out]; rfl, below_lit (Below.refl _ _) _ HB.out⟩
  · have hb1 := hasP_bits ha hb hz
    have hn32 : n ≤ 32 := by unfold isP at hz; simp only [Bool.and_eq_true, decide_eq_true_eq] at hz; exact hz.1
    have HY : Hid ((∀ i, i < n → bitN a i = bitN b i) → hasP a n b = true) := hb1.2
    have HN : Hid (∀ i, i < n → bitN a i ≠ bitN b i → hasP a n b = false) := fun i hi hne => by
      rw [Bool.eq_false_iff]
      intro ht
      exact hne (hb1.1 ht i hi)
    clear hb1
    rw [hz] at HI
    generalize hasP a n b = r at *
    go_enter Tryd.func33, Tryd.ntmps33
    go_wp2_with (go_at_call 32; refine (HI.out _).mono ?_; rintro e w1 ⟨rfl, hb⟩; have hq := kept2 hb; obtain ⟨c0, c1, _, _⟩ := hq; have HB := Lib.hid (below_lit (Below.refl _ _) _ hb); clear hb)
    generalize w.heap.size = g at c0 c1 ⊢
    go_loopw [5] (HRel w1 g a n b) (fun i _ => n - (intOf i).toNat)
    case atStart => exact ⟨0, rfl, by omega, fun j h2 => absurd h2 (by omega), rfl⟩
    case round =>
      obtain ⟨k, rfl, hk, hzk, rfl⟩ := hrel
      by_cases hlt : k < n
      · have h3 : (k : Int) < n := by omega
        have H1 := Lib.hid (fun W => refBit_any a k W ha (by omega))
        have H2 := Lib.hid (fun W => refBit_any b k W hb (by omega))
        by_cases he : bitN a k = bitN b k
        · have hzk' : Hid (∀ j, j < k + 1 → bitN a j = bitN b j) := fun j h2 => by
            by_cases hjk : j = k
            · subst hjk; exact he
            · exact hzk.out j (by omega)
          rw [← he] at H2
          clear he hzk
          generalize bitN a k = x at *
          go_wp2_with fail
          refine (H1.out _).mono ?_
          rintro e w' ⟨rfl, rfl⟩
          go_wp2_with fail
          refine (H2.out _).mono ?_
          rintro e w' ⟨rfl, rfl⟩
          go_wp2_with fail
          go_roundw
          case rel => exact ⟨k + 1, by simp, by omega, hzk', rfl⟩
          case measure => simp [intOf]; omega
        · have hr : Hid (r = false) := HN.out k hlt he
          have hne : ((bitN a k : Int) != (bitN b k : Int)) = true := by simp; omega
          clear hzk he
          generalize bitN a k = x at *
          generalize bitN b k = y at *
          go_wp2_with fail
          refine (H1.out _).mono ?_
          rintro e w' ⟨rfl, rfl⟩
          go_wp2_with fail
          refine (H2.out _).mono ?_
          rintro e w' ⟨rfl, rfl⟩
          go_wp2_with fail
          go_ret
          exact ⟨by rw [hr.out]; rfl, HB.out⟩
      · obtain rfl : k = n := by omega
        have hr : Hid (r = true) := HY.out hzk.out
        clear hzk
        go_wp2
        go_ret
        exact ⟨by rw [hr.out]; rfl, HB.out⟩

/-- What last answers. -/
def lastN (a n : Nat) : Nat := a ||| (4294967295 - maskN n)
set_option maxRecDepth 100000 in
set_option maxHeartbeats 2000000 in
theorem refLast_any (p : Pf) (w : World) (hp : p.ok) :
    Calls Tryd.prog 47 #[p.v] w fun e w' => e = .returned (.int .u32 (lastN p.a p.n)) ∧ Below w.heap.size w w' := by
  obtain ⟨a, n⟩ := p
  obtain ⟨ha, hn⟩ := hp
  simp only at ha hn
  have HM := Lib.hid (fun W => refMask_any n W hn)
  have hr : Hid (lastN a n = a ||| (4294967295 - maskN n)) := rfl
  have hlt := maskN_lt n
  show Calls Tryd.prog 47 #[.agg #[.int .u32 a, .int .u8 n]] w fun e w' => e = .returned (.int .u32 (lastN a n)) ∧ Below w.heap.size w w'
  generalize maskN n = M at *
  generalize lastN a n = r at *
  have hx := u32_inv M hlt
  have ho := u32_or_nat a (4294967295 - M) ha (by omega)
  rw [show ((4294967295 - M : Nat) : Int) = 4294967295 - (M : Int) by omega] at ho
  go_enter Tryd.func47, Tryd.ntmps47
  go_wp2
  have HS0 : Hid (S2 w.heap.size (.int .u32 a) (.int .u8 n) (w.alloc (.cells #[.int .u32 a, .int .u8 n] 31)).drew) := Blk.new _ _ _
  have HB0 : Hid (Below w.heap.size w (w.alloc (.cells #[.int .u32 a, .int .u8 n] 31)).drew) := ((Below.refl _ _).alloc (Nat.le_refl _) _).drew
  refine wp_region_s (S2 w.heap.size (.int .u32 a) (.int .u8 n)) [(0, true), (2, true), (1, true), (3, true), (4, false), (5, true), (6, true), (7, true)] (by kernel_rfl) (fun _ d _ _ _ h => by cases d <;> exact h) ?_
  simp only [List.map_cons, List.map_nil, nthOp_zero, nthOp_succ]
  generalize (w.alloc (.cells #[.int .u32 a, .int .u8 n] 31)).drew = w0 at *
  refine wpS_take HS0 (by kernel_rfl) (by intro W hW; have q0 := hW.cell 0; have q1 := hW.cell 1; clear hW; simp only [List.getElem?_toArray, List.getElem?_cons_zero, List.getElem?_cons_succ] at q0 q1; go_simp; try with_reducible rfl) ?_
  refine wpS_take HS0 (by kernel_rfl) (by intro W hW; have q0 := hW.cell 0; have q1 := hW.cell 1; clear hW; simp only [List.getElem?_toArray, List.getElem?_cons_zero, List.getElem?_cons_succ] at q0 q1; go_simp; try with_reducible rfl) ?_
  refine wpS_take HS0 (by kernel_rfl) (by intro W hW; have q0 := hW.cell 0; have q1 := hW.cell 1; clear hW; simp only [List.getElem?_toArray, List.getElem?_cons_zero, List.getElem?_cons_succ] at q0 q1; go_simp; try with_reducible rfl) ?_
  refine wpS_take HS0 (by kernel_rfl) (by intro W hW; have q0 := hW.cell 0; have q1 := hW.cell 1; clear hW; simp only [List.getElem?_toArray, List.getElem?_cons_zero, List.getElem?_cons_succ] at q0 q1; go_simp; try with_reducible rfl) ?_
  refine wpS_do fun K1 hK1 => ?_
  go_wp2_with fail
  refine (HM.out _).mono ?_
  rintro e w2 ⟨rfl, rfl⟩
  go_wp2_with fail
  refine hK1.out _ _ HS0.out ?_
  clear hK1 K1
  refine wpS_take HS0 (by kernel_rfl) (by intro W hW; clear hW; go_simp; try with_reducible rfl) ?_
  refine wpS_take HS0 (by kernel_rfl) (by intro W hW; clear hW; go_simp; try with_reducible rfl) ?_
  refine wpS_take HS0 (by kernel_rfl) (by intro W hW; clear hW; go_simp; try with_reducible rfl) ?_
  refine wpS_nil ?_
  go_wp2
  go_ret
  exact ⟨by rw [hr.out]; rfl, HB0.out⟩
end Go.Proofs.YtljmmpjcagchmaaDoor
