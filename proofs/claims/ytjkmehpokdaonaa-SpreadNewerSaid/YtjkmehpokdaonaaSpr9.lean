/-
  SpreadNewer, walked.
-/
import Derived.Test.YtjkmehpokdaonaaSpr7
namespace Go.Proofs.Ytjkmehpokdaonaa
set_option linter.unusedVariables false
open Go.RowKit

theorem cmpI_neg (x y : Int) : cmpI y x = -cmpI x y := by unfold cmpI; split <;> split <;> omega
theorem dist1_neg (x y : Int) : dist1 y x = -dist1 x y := by
  unfold dist1
  by_cases h1 : x = 3600 <;> by_cases h2 : y = 3600 <;> simp [h1, h2, cmpI_neg x y] <;> exact cmpI_neg _ _
theorem dist2_neg (x y : Int) : dist2 y x = -dist2 x y := by
  unfold dist2
  by_cases h : x - y > 900 ∨ y - x > 900
  · rw [if_pos h, if_pos (by omega)]; exact cmpI_neg _ _
  · rw [if_neg h, if_neg (by omega)]; rfl
theorem firstNZ_neg : ∀ l : List Int, firstNZ (l.map fun x => -x) = -firstNZ l := by
  intro l
  induction l with
  | nil => rfl
  | cons x r ih =>
    simp only [List.map_cons, firstNZ]
    by_cases h : x = 0
    · rw [if_pos (by omega : -x = 0), if_pos h, ih]
    · rw [if_neg (by omega : ¬ -x = 0), if_neg h]
theorem newer_neg (a b : Hd) : newerOf b a = -newerOf a b := by
  unfold newerOf
  rw [← firstNZ_neg]
  simp only [List.map_cons, List.map_nil]
  rw [cmpI_neg a.seq, cmpI_neg a.sum, dist1_neg (yearsOf a.age), dist2_neg (yearsOf a.age)]
theorem judge_100 (g o : Hd) : judgeOf ⟨g, true, o, 100, 100, false, false, false⟩ = if 0 < newerOf g o then 2 else if newerOf g o = 0 then 4 else if (oldB o && o.seq == 2147483647) then 0 else 5 := by
  unfold judgeOf
  simp
theorem h100 : (0 : Int) ≤ 100 ∧ (100 : Int) ≤ 4294967295 := by decide
theorem info_head : (Try.prog.info? 25).map (·.size) = some 8 := by kernel_rfl
/-- The second head, of the first one's key. -/
@[reducible] def bk (a b : Hd) : Hd := ⟨b.age, b.opts, a.typ, a.id, a.adv, b.seq, b.sum, b.len⟩
theorem bk_ok {a b : Hd} (ha : a.ok) (hb : b.ok) : (bk a b).ok := ⟨hb.age, hb.opts, ha.typ, ha.id, ha.adv, hb.seq, hb.sum, hb.len⟩
theorem newer_bk2 (a b : Hd) : newerOf (bk a b) a = -newerOf a b := newer_neg a (bk a b)
-- GENERATED BELOW (gen_spr9.py)
set_option maxRecDepth 100000 in
set_option maxHeartbeats 4000000 in
theorem spreadNewer_zero (a b : Hd) (ha : a.ok) (hb0 : b.ok) (w : World) (hN : newerOf a b = 0) : Calls Try.prog 4 #[a.v, b.v] w fun e w' => e = .returned (.bool true) ∧ Below w.heap.size w w' := by
  have hN2 : newerOf (bk a b) a = 0 := by rw [newer_bk2, hN]; rfl
  have hN1 : newerOf a (bk a b) = 0 := hN
  have HJ1 : Hid (∀ W : World, Calls Try.prog 8 #[(Cm.mk a true (bk a b) 100 100 false false false).v] W fun e w' => e = .returned (.int .u8 4) ∧ Below W.heap.size W w') := fun W => by
    have h := judge_any ⟨a, true, bk a b, 100, 100, false, false, false⟩ W ⟨ha, bk_ok ha hb0, h100, h100⟩
    rwa [judge_100, if_neg (by rw [hN1]; omega), if_pos hN1] at h
  have HJ2 : Hid (∀ W : World, Calls Try.prog 8 #[(Cm.mk (bk a b) true a 100 100 false false false).v] W fun e w' => e = .returned (.int .u8 4) ∧ Below W.heap.size W w') := fun W => by
    have h := judge_any ⟨bk a b, true, a, 100, 100, false, false, false⟩ W ⟨bk_ok ha hb0, ha, h100, h100⟩
    rwa [judge_100, if_neg (by rw [hN2]; omega), if_pos hN2] at h
  have HN : Hid (∀ W : World, Calls Try.prog 11 #[a.v, (bk a b).v] W fun e w' => e = .returned (.int .i64 (newerOf a b)) ∧ Below W.heap.size W w') := fun W => refNewer_any a (bk a b) W ha (bk_ok ha hb0)
  rw [hN] at HN
  clear hN hN1 hN2 ha hb0
  go_enter Try.func4, Try.ntmps4
  go_wp2_with fail
  have F0 : Hid (Two w.heap.size (w.heap.size + 1) 25 25 #[.int .u16 a.age, .int .u8 a.opts, .int .u8 a.typ, .int .u32 a.id, .int .u32 a.adv, .int .i32 a.seq, .int .u16 a.sum, .int .u16 a.len] #[.int .u16 b.age, .int .u8 b.opts, .int .u8 a.typ, .int .u32 a.id, .int .u32 a.adv, .int .i32 b.seq, .int .u16 b.sum, .int .u16 b.len] ((w.alloc (.cells #[.int .u16 a.age, .int .u8 a.opts, .int .u8 a.typ, .int .u32 a.id, .int .u32 a.adv, .int .i32 a.seq, .int .u16 a.sum, .int .u16 a.len] 25)).alloc (.cells #[.int .u16 b.age, .int .u8 b.opts, .int .u8 a.typ, .int .u32 a.id, .int .u32 a.adv, .int .i32 b.seq, .int .u16 b.sum, .int .u16 b.len] 25)) ∧ Below w.heap.size w ((w.alloc (.cells #[.int .u16 a.age, .int .u8 a.opts, .int .u8 a.typ, .int .u32 a.id, .int .u32 a.adv, .int .i32 a.seq, .int .u16 a.sum, .int .u16 a.len] 25)).alloc (.cells #[.int .u16 b.age, .int .u8 b.opts, .int .u8 a.typ, .int .u32 a.id, .int .u32 a.adv, .int .i32 b.seq, .int .u16 b.sum, .int .u16 b.len] 25))) :=
    ⟨⟨(Blk.new _ _ _).alloc _, new_at _ _ _⟩, below_two _ _ _⟩
  generalize (w.alloc (.cells #[.int .u16 a.age, .int .u8 a.opts, .int .u8 a.typ, .int .u32 a.id, .int .u32 a.adv, .int .i32 a.seq, .int .u16 a.sum, .int .u16 a.len] 25)).alloc (.cells #[.int .u16 b.age, .int .u8 b.opts, .int .u8 a.typ, .int .u32 a.id, .int .u32 a.adv, .int .i32 b.seq, .int .u16 b.sum, .int .u16 b.len] 25) = w0 at *
  generalize hs0 : w.heap.size = g0 at *
  refine (HJ1.out w0).mono ?_
  rintro e w1 ⟨rfl, hb⟩
  have F1 : Hid (Two g0 (g0 + 1) 25 25 #[.int .u16 a.age, .int .u8 a.opts, .int .u8 a.typ, .int .u32 a.id, .int .u32 a.adv, .int .i32 a.seq, .int .u16 a.sum, .int .u16 a.len] #[.int .u16 b.age, .int .u8 b.opts, .int .u8 a.typ, .int .u32 a.id, .int .u32 a.adv, .int .i32 b.seq, .int .u16 b.sum, .int .u16 b.len] w1 ∧ Below g0 w w1) := ⟨F0.out.1.later hb, F0.out.1.below F0.out.2 hb⟩
  clear hb F0
  have j0 := F1.out.1.1.cell 0; have k0 := F1.out.1.2.cell 0
  have j1 := F1.out.1.1.cell 1; have k1 := F1.out.1.2.cell 1
  have j2 := F1.out.1.1.cell 2; have k2 := F1.out.1.2.cell 2
  have j3 := F1.out.1.1.cell 3; have k3 := F1.out.1.2.cell 3
  have j4 := F1.out.1.1.cell 4; have k4 := F1.out.1.2.cell 4
  have j5 := F1.out.1.1.cell 5; have k5 := F1.out.1.2.cell 5
  have j6 := F1.out.1.1.cell 6; have k6 := F1.out.1.2.cell 6
  have j7 := F1.out.1.1.cell 7; have k7 := F1.out.1.2.cell 7
  simp only [List.getElem?_toArray, List.getElem?_cons_zero, List.getElem?_cons_succ] at j0 k0 j1 k1 j2 k2 j3 k3 j4 k4 j5 k5 j6 k6 j7 k7
  go_wp2_with fail
  refine (HJ2.out w1).mono ?_
  rintro e w2 ⟨rfl, hb⟩
  have F2 : Hid (Two g0 (g0 + 1) 25 25 #[.int .u16 a.age, .int .u8 a.opts, .int .u8 a.typ, .int .u32 a.id, .int .u32 a.adv, .int .i32 a.seq, .int .u16 a.sum, .int .u16 a.len] #[.int .u16 b.age, .int .u8 b.opts, .int .u8 a.typ, .int .u32 a.id, .int .u32 a.adv, .int .i32 b.seq, .int .u16 b.sum, .int .u16 b.len] w2 ∧ Below g0 w w2) := ⟨F1.out.1.later hb, F1.out.1.below F1.out.2 hb⟩
  clear j0 k0 j1 k1 j2 k2 j3 k3 j4 k4 j5 k5 j6 k6 j7 k7
  clear hb F1
  have j0 := F2.out.1.1.cell 0; have k0 := F2.out.1.2.cell 0
  have j1 := F2.out.1.1.cell 1; have k1 := F2.out.1.2.cell 1
  have j2 := F2.out.1.1.cell 2; have k2 := F2.out.1.2.cell 2
  have j3 := F2.out.1.1.cell 3; have k3 := F2.out.1.2.cell 3
  have j4 := F2.out.1.1.cell 4; have k4 := F2.out.1.2.cell 4
  have j5 := F2.out.1.1.cell 5; have k5 := F2.out.1.2.cell 5
  have j6 := F2.out.1.1.cell 6; have k6 := F2.out.1.2.cell 6
  have j7 := F2.out.1.1.cell 7; have k7 := F2.out.1.2.cell 7
  simp only [List.getElem?_toArray, List.getElem?_cons_zero, List.getElem?_cons_succ] at j0 k0 j1 k1 j2 k2 j3 k3 j4 k4 j5 k5 j6 k6 j7 k7
  go_wp2_with fail
  refine (HN.out w2).mono ?_
  rintro e w3 ⟨rfl, hb⟩
  have F3 : Hid (Two g0 (g0 + 1) 25 25 #[.int .u16 a.age, .int .u8 a.opts, .int .u8 a.typ, .int .u32 a.id, .int .u32 a.adv, .int .i32 a.seq, .int .u16 a.sum, .int .u16 a.len] #[.int .u16 b.age, .int .u8 b.opts, .int .u8 a.typ, .int .u32 a.id, .int .u32 a.adv, .int .i32 b.seq, .int .u16 b.sum, .int .u16 b.len] w3 ∧ Below g0 w w3) := ⟨F2.out.1.later hb, F2.out.1.below F2.out.2 hb⟩
  clear j0 k0 j1 k1 j2 k2 j3 k3 j4 k4 j5 k5 j6 k6 j7 k7
  clear hb F2
  have j0 := F3.out.1.1.cell 0; have k0 := F3.out.1.2.cell 0
  have j1 := F3.out.1.1.cell 1; have k1 := F3.out.1.2.cell 1
  have j2 := F3.out.1.1.cell 2; have k2 := F3.out.1.2.cell 2
  have j3 := F3.out.1.1.cell 3; have k3 := F3.out.1.2.cell 3
  have j4 := F3.out.1.1.cell 4; have k4 := F3.out.1.2.cell 4
  have j5 := F3.out.1.1.cell 5; have k5 := F3.out.1.2.cell 5
  have j6 := F3.out.1.1.cell 6; have k6 := F3.out.1.2.cell 6
  have j7 := F3.out.1.1.cell 7; have k7 := F3.out.1.2.cell 7
  simp only [List.getElem?_toArray, List.getElem?_cons_zero, List.getElem?_cons_succ] at j0 k0 j1 k1 j2 k2 j3 k3 j4 k4 j5 k5 j6 k6 j7 k7
  clear HJ1 HJ2 HN
  go_wp2_with fail
  refine (works_any w3).mono ?_
  rintro e w4 ⟨rfl, hb⟩
  have hE := Lib.hid (F3.out.1.below F3.out.2 hb)
  clear hb
  go_wp2
  go_ret
  subst hs0
  exact ⟨rfl, hE.out⟩
set_option maxRecDepth 100000 in
set_option maxHeartbeats 4000000 in
theorem spreadNewer_gt_dead (a b : Hd) (ha : a.ok) (hb0 : b.ok) (w : World) (hN : 0 < newerOf a b) (hO : oldB a = true) (hq : (a.seq == 2147483647) = true) : Calls Try.prog 4 #[a.v, b.v] w fun e w' => e = .returned (.bool true) ∧ Below w.heap.size w w' := by
  have hN2 : newerOf (bk a b) a = -newerOf a b := newer_bk2 a b
  have hN1 : 0 < newerOf a (bk a b) := hN
  have HO : Hid (∀ W : World, Calls Try.prog 12 #[a.v] W fun e w' => e = .returned (.bool (oldB a)) ∧ Below W.heap.size W w') := fun W => ref15Old_any a W ha.age.1 ha.age.2
  have HJ1 : Hid (∀ W : World, Calls Try.prog 8 #[(Cm.mk a true (bk a b) 100 100 false false false).v] W fun e w' => e = .returned (.int .u8 2) ∧ Below W.heap.size W w') := fun W => by
    have h := judge_any ⟨a, true, bk a b, 100, 100, false, false, false⟩ W ⟨ha, bk_ok ha hb0, h100, h100⟩
    rwa [judge_100, if_pos hN1] at h
  have HJ2 : Hid (∀ W : World, Calls Try.prog 8 #[(Cm.mk (bk a b) true a 100 100 false false false).v] W fun e w' => e = .returned (.int .u8 0) ∧ Below W.heap.size W w') := fun W => by
    have h := judge_any ⟨bk a b, true, a, 100, 100, false, false, false⟩ W ⟨bk_ok ha hb0, ha, h100, h100⟩
    rwa [judge_100, if_neg (by rw [hN2]; omega), if_neg (by rw [hN2]; omega), if_pos (by rw [hO, hq]; rfl)] at h
  have HN : Hid (∀ W : World, Calls Try.prog 11 #[a.v, (bk a b).v] W fun e w' => e = .returned (.int .i64 (newerOf a b)) ∧ Below W.heap.size W w') := fun W => refNewer_any a (bk a b) W ha (bk_ok ha hb0)
  have n1 : ¬ newerOf a b < 0 := by omega
  have n2 : (newerOf a b == 0) = false := by rw [beq_eq_false_iff_ne]; omega
  clear hN hN1 hN2 ha hb0
  generalize newerOf a b = N at *
  rw [hO] at HO
  go_enter Try.func4, Try.ntmps4
  go_wp2_with fail
  have F0 : Hid (Two w.heap.size (w.heap.size + 1) 25 25 #[.int .u16 a.age, .int .u8 a.opts, .int .u8 a.typ, .int .u32 a.id, .int .u32 a.adv, .int .i32 a.seq, .int .u16 a.sum, .int .u16 a.len] #[.int .u16 b.age, .int .u8 b.opts, .int .u8 a.typ, .int .u32 a.id, .int .u32 a.adv, .int .i32 b.seq, .int .u16 b.sum, .int .u16 b.len] ((w.alloc (.cells #[.int .u16 a.age, .int .u8 a.opts, .int .u8 a.typ, .int .u32 a.id, .int .u32 a.adv, .int .i32 a.seq, .int .u16 a.sum, .int .u16 a.len] 25)).alloc (.cells #[.int .u16 b.age, .int .u8 b.opts, .int .u8 a.typ, .int .u32 a.id, .int .u32 a.adv, .int .i32 b.seq, .int .u16 b.sum, .int .u16 b.len] 25)) ∧ Below w.heap.size w ((w.alloc (.cells #[.int .u16 a.age, .int .u8 a.opts, .int .u8 a.typ, .int .u32 a.id, .int .u32 a.adv, .int .i32 a.seq, .int .u16 a.sum, .int .u16 a.len] 25)).alloc (.cells #[.int .u16 b.age, .int .u8 b.opts, .int .u8 a.typ, .int .u32 a.id, .int .u32 a.adv, .int .i32 b.seq, .int .u16 b.sum, .int .u16 b.len] 25))) :=
    ⟨⟨(Blk.new _ _ _).alloc _, new_at _ _ _⟩, below_two _ _ _⟩
  generalize (w.alloc (.cells #[.int .u16 a.age, .int .u8 a.opts, .int .u8 a.typ, .int .u32 a.id, .int .u32 a.adv, .int .i32 a.seq, .int .u16 a.sum, .int .u16 a.len] 25)).alloc (.cells #[.int .u16 b.age, .int .u8 b.opts, .int .u8 a.typ, .int .u32 a.id, .int .u32 a.adv, .int .i32 b.seq, .int .u16 b.sum, .int .u16 b.len] 25) = w0 at *
  generalize hs0 : w.heap.size = g0 at *
  refine (HJ1.out w0).mono ?_
  rintro e w1 ⟨rfl, hb⟩
  have F1 : Hid (Two g0 (g0 + 1) 25 25 #[.int .u16 a.age, .int .u8 a.opts, .int .u8 a.typ, .int .u32 a.id, .int .u32 a.adv, .int .i32 a.seq, .int .u16 a.sum, .int .u16 a.len] #[.int .u16 b.age, .int .u8 b.opts, .int .u8 a.typ, .int .u32 a.id, .int .u32 a.adv, .int .i32 b.seq, .int .u16 b.sum, .int .u16 b.len] w1 ∧ Below g0 w w1) := ⟨F0.out.1.later hb, F0.out.1.below F0.out.2 hb⟩
  clear hb F0
  have j0 := F1.out.1.1.cell 0; have k0 := F1.out.1.2.cell 0
  have j1 := F1.out.1.1.cell 1; have k1 := F1.out.1.2.cell 1
  have j2 := F1.out.1.1.cell 2; have k2 := F1.out.1.2.cell 2
  have j3 := F1.out.1.1.cell 3; have k3 := F1.out.1.2.cell 3
  have j4 := F1.out.1.1.cell 4; have k4 := F1.out.1.2.cell 4
  have j5 := F1.out.1.1.cell 5; have k5 := F1.out.1.2.cell 5
  have j6 := F1.out.1.1.cell 6; have k6 := F1.out.1.2.cell 6
  have j7 := F1.out.1.1.cell 7; have k7 := F1.out.1.2.cell 7
  simp only [List.getElem?_toArray, List.getElem?_cons_zero, List.getElem?_cons_succ] at j0 k0 j1 k1 j2 k2 j3 k3 j4 k4 j5 k5 j6 k6 j7 k7
  go_wp2_with fail
  refine (HJ2.out w1).mono ?_
  rintro e w2 ⟨rfl, hb⟩
  have F2 : Hid (Two g0 (g0 + 1) 25 25 #[.int .u16 a.age, .int .u8 a.opts, .int .u8 a.typ, .int .u32 a.id, .int .u32 a.adv, .int .i32 a.seq, .int .u16 a.sum, .int .u16 a.len] #[.int .u16 b.age, .int .u8 b.opts, .int .u8 a.typ, .int .u32 a.id, .int .u32 a.adv, .int .i32 b.seq, .int .u16 b.sum, .int .u16 b.len] w2 ∧ Below g0 w w2) := ⟨F1.out.1.later hb, F1.out.1.below F1.out.2 hb⟩
  clear j0 k0 j1 k1 j2 k2 j3 k3 j4 k4 j5 k5 j6 k6 j7 k7
  clear hb F1
  have j0 := F2.out.1.1.cell 0; have k0 := F2.out.1.2.cell 0
  have j1 := F2.out.1.1.cell 1; have k1 := F2.out.1.2.cell 1
  have j2 := F2.out.1.1.cell 2; have k2 := F2.out.1.2.cell 2
  have j3 := F2.out.1.1.cell 3; have k3 := F2.out.1.2.cell 3
  have j4 := F2.out.1.1.cell 4; have k4 := F2.out.1.2.cell 4
  have j5 := F2.out.1.1.cell 5; have k5 := F2.out.1.2.cell 5
  have j6 := F2.out.1.1.cell 6; have k6 := F2.out.1.2.cell 6
  have j7 := F2.out.1.1.cell 7; have k7 := F2.out.1.2.cell 7
  simp only [List.getElem?_toArray, List.getElem?_cons_zero, List.getElem?_cons_succ] at j0 k0 j1 k1 j2 k2 j3 k3 j4 k4 j5 k5 j6 k6 j7 k7
  go_wp2_with fail
  refine (HN.out w2).mono ?_
  rintro e w3 ⟨rfl, hb⟩
  have F3 : Hid (Two g0 (g0 + 1) 25 25 #[.int .u16 a.age, .int .u8 a.opts, .int .u8 a.typ, .int .u32 a.id, .int .u32 a.adv, .int .i32 a.seq, .int .u16 a.sum, .int .u16 a.len] #[.int .u16 b.age, .int .u8 b.opts, .int .u8 a.typ, .int .u32 a.id, .int .u32 a.adv, .int .i32 b.seq, .int .u16 b.sum, .int .u16 b.len] w3 ∧ Below g0 w w3) := ⟨F2.out.1.later hb, F2.out.1.below F2.out.2 hb⟩
  clear j0 k0 j1 k1 j2 k2 j3 k3 j4 k4 j5 k5 j6 k6 j7 k7
  clear hb F2
  have j0 := F3.out.1.1.cell 0; have k0 := F3.out.1.2.cell 0
  have j1 := F3.out.1.1.cell 1; have k1 := F3.out.1.2.cell 1
  have j2 := F3.out.1.1.cell 2; have k2 := F3.out.1.2.cell 2
  have j3 := F3.out.1.1.cell 3; have k3 := F3.out.1.2.cell 3
  have j4 := F3.out.1.1.cell 4; have k4 := F3.out.1.2.cell 4
  have j5 := F3.out.1.1.cell 5; have k5 := F3.out.1.2.cell 5
  have j6 := F3.out.1.1.cell 6; have k6 := F3.out.1.2.cell 6
  have j7 := F3.out.1.1.cell 7; have k7 := F3.out.1.2.cell 7
  simp only [List.getElem?_toArray, List.getElem?_cons_zero, List.getElem?_cons_succ] at j0 k0 j1 k1 j2 k2 j3 k3 j4 k4 j5 k5 j6 k6 j7 k7
  clear HJ1 HJ2 HN
  go_wp2_with fail
  refine (HO.out w3).mono ?_
  rintro e w4 ⟨rfl, hb⟩
  have F4 : Hid (Two g0 (g0 + 1) 25 25 #[.int .u16 a.age, .int .u8 a.opts, .int .u8 a.typ, .int .u32 a.id, .int .u32 a.adv, .int .i32 a.seq, .int .u16 a.sum, .int .u16 a.len] #[.int .u16 b.age, .int .u8 b.opts, .int .u8 a.typ, .int .u32 a.id, .int .u32 a.adv, .int .i32 b.seq, .int .u16 b.sum, .int .u16 b.len] w4 ∧ Below g0 w w4) := ⟨F3.out.1.later hb, F3.out.1.below F3.out.2 hb⟩
  clear j0 k0 j1 k1 j2 k2 j3 k3 j4 k4 j5 k5 j6 k6 j7 k7
  clear hb F3
  have j0 := F4.out.1.1.cell 0; have k0 := F4.out.1.2.cell 0
  have j1 := F4.out.1.1.cell 1; have k1 := F4.out.1.2.cell 1
  have j2 := F4.out.1.1.cell 2; have k2 := F4.out.1.2.cell 2
  have j3 := F4.out.1.1.cell 3; have k3 := F4.out.1.2.cell 3
  have j4 := F4.out.1.1.cell 4; have k4 := F4.out.1.2.cell 4
  have j5 := F4.out.1.1.cell 5; have k5 := F4.out.1.2.cell 5
  have j6 := F4.out.1.1.cell 6; have k6 := F4.out.1.2.cell 6
  have j7 := F4.out.1.1.cell 7; have k7 := F4.out.1.2.cell 7
  simp only [List.getElem?_toArray, List.getElem?_cons_zero, List.getElem?_cons_succ] at j0 k0 j1 k1 j2 k2 j3 k3 j4 k4 j5 k5 j6 k6 j7 k7
  go_wp2_with fail
  refine (works_any w4).mono ?_
  rintro e w5 ⟨rfl, hb⟩
  have hE := Lib.hid (F4.out.1.below F4.out.2 hb)
  clear hb
  go_wp2
  go_ret
  subst hs0
  exact ⟨rfl, hE.out⟩
set_option maxRecDepth 100000 in
set_option maxHeartbeats 4000000 in
theorem spreadNewer_gt_seq (a b : Hd) (ha : a.ok) (hb0 : b.ok) (w : World) (hN : 0 < newerOf a b) (hO : oldB a = true) (hq : (a.seq == 2147483647) = false) : Calls Try.prog 4 #[a.v, b.v] w fun e w' => e = .returned (.bool true) ∧ Below w.heap.size w w' := by
  have hN2 : newerOf (bk a b) a = -newerOf a b := newer_bk2 a b
  have hN1 : 0 < newerOf a (bk a b) := hN
  have HO : Hid (∀ W : World, Calls Try.prog 12 #[a.v] W fun e w' => e = .returned (.bool (oldB a)) ∧ Below W.heap.size W w') := fun W => ref15Old_any a W ha.age.1 ha.age.2
  have HJ1 : Hid (∀ W : World, Calls Try.prog 8 #[(Cm.mk a true (bk a b) 100 100 false false false).v] W fun e w' => e = .returned (.int .u8 2) ∧ Below W.heap.size W w') := fun W => by
    have h := judge_any ⟨a, true, bk a b, 100, 100, false, false, false⟩ W ⟨ha, bk_ok ha hb0, h100, h100⟩
    rwa [judge_100, if_pos hN1] at h
  have HJ2 : Hid (∀ W : World, Calls Try.prog 8 #[(Cm.mk (bk a b) true a 100 100 false false false).v] W fun e w' => e = .returned (.int .u8 5) ∧ Below W.heap.size W w') := fun W => by
    have h := judge_any ⟨bk a b, true, a, 100, 100, false, false, false⟩ W ⟨bk_ok ha hb0, ha, h100, h100⟩
    rwa [judge_100, if_neg (by rw [hN2]; omega), if_neg (by rw [hN2]; omega), if_neg (by rw [hO, hq]; decide)] at h
  have HN : Hid (∀ W : World, Calls Try.prog 11 #[a.v, (bk a b).v] W fun e w' => e = .returned (.int .i64 (newerOf a b)) ∧ Below W.heap.size W w') := fun W => refNewer_any a (bk a b) W ha (bk_ok ha hb0)
  have n1 : ¬ newerOf a b < 0 := by omega
  have n2 : (newerOf a b == 0) = false := by rw [beq_eq_false_iff_ne]; omega
  clear hN hN1 hN2 ha hb0
  generalize newerOf a b = N at *
  rw [hO] at HO
  go_enter Try.func4, Try.ntmps4
  go_wp2_with fail
  have F0 : Hid (Two w.heap.size (w.heap.size + 1) 25 25 #[.int .u16 a.age, .int .u8 a.opts, .int .u8 a.typ, .int .u32 a.id, .int .u32 a.adv, .int .i32 a.seq, .int .u16 a.sum, .int .u16 a.len] #[.int .u16 b.age, .int .u8 b.opts, .int .u8 a.typ, .int .u32 a.id, .int .u32 a.adv, .int .i32 b.seq, .int .u16 b.sum, .int .u16 b.len] ((w.alloc (.cells #[.int .u16 a.age, .int .u8 a.opts, .int .u8 a.typ, .int .u32 a.id, .int .u32 a.adv, .int .i32 a.seq, .int .u16 a.sum, .int .u16 a.len] 25)).alloc (.cells #[.int .u16 b.age, .int .u8 b.opts, .int .u8 a.typ, .int .u32 a.id, .int .u32 a.adv, .int .i32 b.seq, .int .u16 b.sum, .int .u16 b.len] 25)) ∧ Below w.heap.size w ((w.alloc (.cells #[.int .u16 a.age, .int .u8 a.opts, .int .u8 a.typ, .int .u32 a.id, .int .u32 a.adv, .int .i32 a.seq, .int .u16 a.sum, .int .u16 a.len] 25)).alloc (.cells #[.int .u16 b.age, .int .u8 b.opts, .int .u8 a.typ, .int .u32 a.id, .int .u32 a.adv, .int .i32 b.seq, .int .u16 b.sum, .int .u16 b.len] 25))) :=
    ⟨⟨(Blk.new _ _ _).alloc _, new_at _ _ _⟩, below_two _ _ _⟩
  generalize (w.alloc (.cells #[.int .u16 a.age, .int .u8 a.opts, .int .u8 a.typ, .int .u32 a.id, .int .u32 a.adv, .int .i32 a.seq, .int .u16 a.sum, .int .u16 a.len] 25)).alloc (.cells #[.int .u16 b.age, .int .u8 b.opts, .int .u8 a.typ, .int .u32 a.id, .int .u32 a.adv, .int .i32 b.seq, .int .u16 b.sum, .int .u16 b.len] 25) = w0 at *
  generalize hs0 : w.heap.size = g0 at *
  refine (HJ1.out w0).mono ?_
  rintro e w1 ⟨rfl, hb⟩
  have F1 : Hid (Two g0 (g0 + 1) 25 25 #[.int .u16 a.age, .int .u8 a.opts, .int .u8 a.typ, .int .u32 a.id, .int .u32 a.adv, .int .i32 a.seq, .int .u16 a.sum, .int .u16 a.len] #[.int .u16 b.age, .int .u8 b.opts, .int .u8 a.typ, .int .u32 a.id, .int .u32 a.adv, .int .i32 b.seq, .int .u16 b.sum, .int .u16 b.len] w1 ∧ Below g0 w w1) := ⟨F0.out.1.later hb, F0.out.1.below F0.out.2 hb⟩
  clear hb F0
  have j0 := F1.out.1.1.cell 0; have k0 := F1.out.1.2.cell 0
  have j1 := F1.out.1.1.cell 1; have k1 := F1.out.1.2.cell 1
  have j2 := F1.out.1.1.cell 2; have k2 := F1.out.1.2.cell 2
  have j3 := F1.out.1.1.cell 3; have k3 := F1.out.1.2.cell 3
  have j4 := F1.out.1.1.cell 4; have k4 := F1.out.1.2.cell 4
  have j5 := F1.out.1.1.cell 5; have k5 := F1.out.1.2.cell 5
  have j6 := F1.out.1.1.cell 6; have k6 := F1.out.1.2.cell 6
  have j7 := F1.out.1.1.cell 7; have k7 := F1.out.1.2.cell 7
  simp only [List.getElem?_toArray, List.getElem?_cons_zero, List.getElem?_cons_succ] at j0 k0 j1 k1 j2 k2 j3 k3 j4 k4 j5 k5 j6 k6 j7 k7
  go_wp2_with fail
  refine (HJ2.out w1).mono ?_
  rintro e w2 ⟨rfl, hb⟩
  have F2 : Hid (Two g0 (g0 + 1) 25 25 #[.int .u16 a.age, .int .u8 a.opts, .int .u8 a.typ, .int .u32 a.id, .int .u32 a.adv, .int .i32 a.seq, .int .u16 a.sum, .int .u16 a.len] #[.int .u16 b.age, .int .u8 b.opts, .int .u8 a.typ, .int .u32 a.id, .int .u32 a.adv, .int .i32 b.seq, .int .u16 b.sum, .int .u16 b.len] w2 ∧ Below g0 w w2) := ⟨F1.out.1.later hb, F1.out.1.below F1.out.2 hb⟩
  clear j0 k0 j1 k1 j2 k2 j3 k3 j4 k4 j5 k5 j6 k6 j7 k7
  clear hb F1
  have j0 := F2.out.1.1.cell 0; have k0 := F2.out.1.2.cell 0
  have j1 := F2.out.1.1.cell 1; have k1 := F2.out.1.2.cell 1
  have j2 := F2.out.1.1.cell 2; have k2 := F2.out.1.2.cell 2
  have j3 := F2.out.1.1.cell 3; have k3 := F2.out.1.2.cell 3
  have j4 := F2.out.1.1.cell 4; have k4 := F2.out.1.2.cell 4
  have j5 := F2.out.1.1.cell 5; have k5 := F2.out.1.2.cell 5
  have j6 := F2.out.1.1.cell 6; have k6 := F2.out.1.2.cell 6
  have j7 := F2.out.1.1.cell 7; have k7 := F2.out.1.2.cell 7
  simp only [List.getElem?_toArray, List.getElem?_cons_zero, List.getElem?_cons_succ] at j0 k0 j1 k1 j2 k2 j3 k3 j4 k4 j5 k5 j6 k6 j7 k7
  go_wp2_with fail
  refine (HN.out w2).mono ?_
  rintro e w3 ⟨rfl, hb⟩
  have F3 : Hid (Two g0 (g0 + 1) 25 25 #[.int .u16 a.age, .int .u8 a.opts, .int .u8 a.typ, .int .u32 a.id, .int .u32 a.adv, .int .i32 a.seq, .int .u16 a.sum, .int .u16 a.len] #[.int .u16 b.age, .int .u8 b.opts, .int .u8 a.typ, .int .u32 a.id, .int .u32 a.adv, .int .i32 b.seq, .int .u16 b.sum, .int .u16 b.len] w3 ∧ Below g0 w w3) := ⟨F2.out.1.later hb, F2.out.1.below F2.out.2 hb⟩
  clear j0 k0 j1 k1 j2 k2 j3 k3 j4 k4 j5 k5 j6 k6 j7 k7
  clear hb F2
  have j0 := F3.out.1.1.cell 0; have k0 := F3.out.1.2.cell 0
  have j1 := F3.out.1.1.cell 1; have k1 := F3.out.1.2.cell 1
  have j2 := F3.out.1.1.cell 2; have k2 := F3.out.1.2.cell 2
  have j3 := F3.out.1.1.cell 3; have k3 := F3.out.1.2.cell 3
  have j4 := F3.out.1.1.cell 4; have k4 := F3.out.1.2.cell 4
  have j5 := F3.out.1.1.cell 5; have k5 := F3.out.1.2.cell 5
  have j6 := F3.out.1.1.cell 6; have k6 := F3.out.1.2.cell 6
  have j7 := F3.out.1.1.cell 7; have k7 := F3.out.1.2.cell 7
  simp only [List.getElem?_toArray, List.getElem?_cons_zero, List.getElem?_cons_succ] at j0 k0 j1 k1 j2 k2 j3 k3 j4 k4 j5 k5 j6 k6 j7 k7
  clear HJ1 HJ2 HN
  go_wp2_with fail
  refine (HO.out w3).mono ?_
  rintro e w4 ⟨rfl, hb⟩
  have F4 : Hid (Two g0 (g0 + 1) 25 25 #[.int .u16 a.age, .int .u8 a.opts, .int .u8 a.typ, .int .u32 a.id, .int .u32 a.adv, .int .i32 a.seq, .int .u16 a.sum, .int .u16 a.len] #[.int .u16 b.age, .int .u8 b.opts, .int .u8 a.typ, .int .u32 a.id, .int .u32 a.adv, .int .i32 b.seq, .int .u16 b.sum, .int .u16 b.len] w4 ∧ Below g0 w w4) := ⟨F3.out.1.later hb, F3.out.1.below F3.out.2 hb⟩
  clear j0 k0 j1 k1 j2 k2 j3 k3 j4 k4 j5 k5 j6 k6 j7 k7
  clear hb F3
  have j0 := F4.out.1.1.cell 0; have k0 := F4.out.1.2.cell 0
  have j1 := F4.out.1.1.cell 1; have k1 := F4.out.1.2.cell 1
  have j2 := F4.out.1.1.cell 2; have k2 := F4.out.1.2.cell 2
  have j3 := F4.out.1.1.cell 3; have k3 := F4.out.1.2.cell 3
  have j4 := F4.out.1.1.cell 4; have k4 := F4.out.1.2.cell 4
  have j5 := F4.out.1.1.cell 5; have k5 := F4.out.1.2.cell 5
  have j6 := F4.out.1.1.cell 6; have k6 := F4.out.1.2.cell 6
  have j7 := F4.out.1.1.cell 7; have k7 := F4.out.1.2.cell 7
  simp only [List.getElem?_toArray, List.getElem?_cons_zero, List.getElem?_cons_succ] at j0 k0 j1 k1 j2 k2 j3 k3 j4 k4 j5 k5 j6 k6 j7 k7
  go_wp2_with fail
  refine (works_any w4).mono ?_
  rintro e w5 ⟨rfl, hb⟩
  have hE := Lib.hid (F4.out.1.below F4.out.2 hb)
  clear hb
  go_wp2
  go_ret
  subst hs0
  exact ⟨rfl, hE.out⟩
set_option maxRecDepth 100000 in
set_option maxHeartbeats 4000000 in
theorem spreadNewer_gt_young (a b : Hd) (ha : a.ok) (hb0 : b.ok) (w : World) (hN : 0 < newerOf a b) (hO : oldB a = false) : Calls Try.prog 4 #[a.v, b.v] w fun e w' => e = .returned (.bool true) ∧ Below w.heap.size w w' := by
  have hN2 : newerOf (bk a b) a = -newerOf a b := newer_bk2 a b
  have hN1 : 0 < newerOf a (bk a b) := hN
  have HO : Hid (∀ W : World, Calls Try.prog 12 #[a.v] W fun e w' => e = .returned (.bool (oldB a)) ∧ Below W.heap.size W w') := fun W => ref15Old_any a W ha.age.1 ha.age.2
  have HJ1 : Hid (∀ W : World, Calls Try.prog 8 #[(Cm.mk a true (bk a b) 100 100 false false false).v] W fun e w' => e = .returned (.int .u8 2) ∧ Below W.heap.size W w') := fun W => by
    have h := judge_any ⟨a, true, bk a b, 100, 100, false, false, false⟩ W ⟨ha, bk_ok ha hb0, h100, h100⟩
    rwa [judge_100, if_pos hN1] at h
  have HJ2 : Hid (∀ W : World, Calls Try.prog 8 #[(Cm.mk (bk a b) true a 100 100 false false false).v] W fun e w' => e = .returned (.int .u8 5) ∧ Below W.heap.size W w') := fun W => by
    have h := judge_any ⟨bk a b, true, a, 100, 100, false, false, false⟩ W ⟨bk_ok ha hb0, ha, h100, h100⟩
    rwa [judge_100, if_neg (by rw [hN2]; omega), if_neg (by rw [hN2]; omega), if_neg (by rw [hO]; simp)] at h
  have HN : Hid (∀ W : World, Calls Try.prog 11 #[a.v, (bk a b).v] W fun e w' => e = .returned (.int .i64 (newerOf a b)) ∧ Below W.heap.size W w') := fun W => refNewer_any a (bk a b) W ha (bk_ok ha hb0)
  have n1 : ¬ newerOf a b < 0 := by omega
  have n2 : (newerOf a b == 0) = false := by rw [beq_eq_false_iff_ne]; omega
  clear hN hN1 hN2 ha hb0
  generalize newerOf a b = N at *
  rw [hO] at HO
  go_enter Try.func4, Try.ntmps4
  go_wp2_with fail
  have F0 : Hid (Two w.heap.size (w.heap.size + 1) 25 25 #[.int .u16 a.age, .int .u8 a.opts, .int .u8 a.typ, .int .u32 a.id, .int .u32 a.adv, .int .i32 a.seq, .int .u16 a.sum, .int .u16 a.len] #[.int .u16 b.age, .int .u8 b.opts, .int .u8 a.typ, .int .u32 a.id, .int .u32 a.adv, .int .i32 b.seq, .int .u16 b.sum, .int .u16 b.len] ((w.alloc (.cells #[.int .u16 a.age, .int .u8 a.opts, .int .u8 a.typ, .int .u32 a.id, .int .u32 a.adv, .int .i32 a.seq, .int .u16 a.sum, .int .u16 a.len] 25)).alloc (.cells #[.int .u16 b.age, .int .u8 b.opts, .int .u8 a.typ, .int .u32 a.id, .int .u32 a.adv, .int .i32 b.seq, .int .u16 b.sum, .int .u16 b.len] 25)) ∧ Below w.heap.size w ((w.alloc (.cells #[.int .u16 a.age, .int .u8 a.opts, .int .u8 a.typ, .int .u32 a.id, .int .u32 a.adv, .int .i32 a.seq, .int .u16 a.sum, .int .u16 a.len] 25)).alloc (.cells #[.int .u16 b.age, .int .u8 b.opts, .int .u8 a.typ, .int .u32 a.id, .int .u32 a.adv, .int .i32 b.seq, .int .u16 b.sum, .int .u16 b.len] 25))) :=
    ⟨⟨(Blk.new _ _ _).alloc _, new_at _ _ _⟩, below_two _ _ _⟩
  generalize (w.alloc (.cells #[.int .u16 a.age, .int .u8 a.opts, .int .u8 a.typ, .int .u32 a.id, .int .u32 a.adv, .int .i32 a.seq, .int .u16 a.sum, .int .u16 a.len] 25)).alloc (.cells #[.int .u16 b.age, .int .u8 b.opts, .int .u8 a.typ, .int .u32 a.id, .int .u32 a.adv, .int .i32 b.seq, .int .u16 b.sum, .int .u16 b.len] 25) = w0 at *
  generalize hs0 : w.heap.size = g0 at *
  refine (HJ1.out w0).mono ?_
  rintro e w1 ⟨rfl, hb⟩
  have F1 : Hid (Two g0 (g0 + 1) 25 25 #[.int .u16 a.age, .int .u8 a.opts, .int .u8 a.typ, .int .u32 a.id, .int .u32 a.adv, .int .i32 a.seq, .int .u16 a.sum, .int .u16 a.len] #[.int .u16 b.age, .int .u8 b.opts, .int .u8 a.typ, .int .u32 a.id, .int .u32 a.adv, .int .i32 b.seq, .int .u16 b.sum, .int .u16 b.len] w1 ∧ Below g0 w w1) := ⟨F0.out.1.later hb, F0.out.1.below F0.out.2 hb⟩
  clear hb F0
  have j0 := F1.out.1.1.cell 0; have k0 := F1.out.1.2.cell 0
  have j1 := F1.out.1.1.cell 1; have k1 := F1.out.1.2.cell 1
  have j2 := F1.out.1.1.cell 2; have k2 := F1.out.1.2.cell 2
  have j3 := F1.out.1.1.cell 3; have k3 := F1.out.1.2.cell 3
  have j4 := F1.out.1.1.cell 4; have k4 := F1.out.1.2.cell 4
  have j5 := F1.out.1.1.cell 5; have k5 := F1.out.1.2.cell 5
  have j6 := F1.out.1.1.cell 6; have k6 := F1.out.1.2.cell 6
  have j7 := F1.out.1.1.cell 7; have k7 := F1.out.1.2.cell 7
  simp only [List.getElem?_toArray, List.getElem?_cons_zero, List.getElem?_cons_succ] at j0 k0 j1 k1 j2 k2 j3 k3 j4 k4 j5 k5 j6 k6 j7 k7
  go_wp2_with fail
  refine (HJ2.out w1).mono ?_
  rintro e w2 ⟨rfl, hb⟩
  have F2 : Hid (Two g0 (g0 + 1) 25 25 #[.int .u16 a.age, .int .u8 a.opts, .int .u8 a.typ, .int .u32 a.id, .int .u32 a.adv, .int .i32 a.seq, .int .u16 a.sum, .int .u16 a.len] #[.int .u16 b.age, .int .u8 b.opts, .int .u8 a.typ, .int .u32 a.id, .int .u32 a.adv, .int .i32 b.seq, .int .u16 b.sum, .int .u16 b.len] w2 ∧ Below g0 w w2) := ⟨F1.out.1.later hb, F1.out.1.below F1.out.2 hb⟩
  clear j0 k0 j1 k1 j2 k2 j3 k3 j4 k4 j5 k5 j6 k6 j7 k7
  clear hb F1
  have j0 := F2.out.1.1.cell 0; have k0 := F2.out.1.2.cell 0
  have j1 := F2.out.1.1.cell 1; have k1 := F2.out.1.2.cell 1
  have j2 := F2.out.1.1.cell 2; have k2 := F2.out.1.2.cell 2
  have j3 := F2.out.1.1.cell 3; have k3 := F2.out.1.2.cell 3
  have j4 := F2.out.1.1.cell 4; have k4 := F2.out.1.2.cell 4
  have j5 := F2.out.1.1.cell 5; have k5 := F2.out.1.2.cell 5
  have j6 := F2.out.1.1.cell 6; have k6 := F2.out.1.2.cell 6
  have j7 := F2.out.1.1.cell 7; have k7 := F2.out.1.2.cell 7
  simp only [List.getElem?_toArray, List.getElem?_cons_zero, List.getElem?_cons_succ] at j0 k0 j1 k1 j2 k2 j3 k3 j4 k4 j5 k5 j6 k6 j7 k7
  go_wp2_with fail
  refine (HN.out w2).mono ?_
  rintro e w3 ⟨rfl, hb⟩
  have F3 : Hid (Two g0 (g0 + 1) 25 25 #[.int .u16 a.age, .int .u8 a.opts, .int .u8 a.typ, .int .u32 a.id, .int .u32 a.adv, .int .i32 a.seq, .int .u16 a.sum, .int .u16 a.len] #[.int .u16 b.age, .int .u8 b.opts, .int .u8 a.typ, .int .u32 a.id, .int .u32 a.adv, .int .i32 b.seq, .int .u16 b.sum, .int .u16 b.len] w3 ∧ Below g0 w w3) := ⟨F2.out.1.later hb, F2.out.1.below F2.out.2 hb⟩
  clear j0 k0 j1 k1 j2 k2 j3 k3 j4 k4 j5 k5 j6 k6 j7 k7
  clear hb F2
  have j0 := F3.out.1.1.cell 0; have k0 := F3.out.1.2.cell 0
  have j1 := F3.out.1.1.cell 1; have k1 := F3.out.1.2.cell 1
  have j2 := F3.out.1.1.cell 2; have k2 := F3.out.1.2.cell 2
  have j3 := F3.out.1.1.cell 3; have k3 := F3.out.1.2.cell 3
  have j4 := F3.out.1.1.cell 4; have k4 := F3.out.1.2.cell 4
  have j5 := F3.out.1.1.cell 5; have k5 := F3.out.1.2.cell 5
  have j6 := F3.out.1.1.cell 6; have k6 := F3.out.1.2.cell 6
  have j7 := F3.out.1.1.cell 7; have k7 := F3.out.1.2.cell 7
  simp only [List.getElem?_toArray, List.getElem?_cons_zero, List.getElem?_cons_succ] at j0 k0 j1 k1 j2 k2 j3 k3 j4 k4 j5 k5 j6 k6 j7 k7
  clear HJ1 HJ2 HN
  go_wp2_with fail
  refine (HO.out w3).mono ?_
  rintro e w4 ⟨rfl, hb⟩
  have F4 : Hid (Two g0 (g0 + 1) 25 25 #[.int .u16 a.age, .int .u8 a.opts, .int .u8 a.typ, .int .u32 a.id, .int .u32 a.adv, .int .i32 a.seq, .int .u16 a.sum, .int .u16 a.len] #[.int .u16 b.age, .int .u8 b.opts, .int .u8 a.typ, .int .u32 a.id, .int .u32 a.adv, .int .i32 b.seq, .int .u16 b.sum, .int .u16 b.len] w4 ∧ Below g0 w w4) := ⟨F3.out.1.later hb, F3.out.1.below F3.out.2 hb⟩
  clear j0 k0 j1 k1 j2 k2 j3 k3 j4 k4 j5 k5 j6 k6 j7 k7
  clear hb F3
  have j0 := F4.out.1.1.cell 0; have k0 := F4.out.1.2.cell 0
  have j1 := F4.out.1.1.cell 1; have k1 := F4.out.1.2.cell 1
  have j2 := F4.out.1.1.cell 2; have k2 := F4.out.1.2.cell 2
  have j3 := F4.out.1.1.cell 3; have k3 := F4.out.1.2.cell 3
  have j4 := F4.out.1.1.cell 4; have k4 := F4.out.1.2.cell 4
  have j5 := F4.out.1.1.cell 5; have k5 := F4.out.1.2.cell 5
  have j6 := F4.out.1.1.cell 6; have k6 := F4.out.1.2.cell 6
  have j7 := F4.out.1.1.cell 7; have k7 := F4.out.1.2.cell 7
  simp only [List.getElem?_toArray, List.getElem?_cons_zero, List.getElem?_cons_succ] at j0 k0 j1 k1 j2 k2 j3 k3 j4 k4 j5 k5 j6 k6 j7 k7
  go_wp2_with fail
  refine (works_any w4).mono ?_
  rintro e w5 ⟨rfl, hb⟩
  have hE := Lib.hid (F4.out.1.below F4.out.2 hb)
  clear hb
  go_wp2
  go_ret
  subst hs0
  exact ⟨rfl, hE.out⟩
set_option maxRecDepth 100000 in
set_option maxHeartbeats 4000000 in
theorem spreadNewer_lt_dead (a b : Hd) (ha : a.ok) (hb0 : b.ok) (w : World) (hN : newerOf a b < 0) (hO : oldB (bk a b) = true) (hq : (b.seq == 2147483647) = true) : Calls Try.prog 4 #[a.v, b.v] w fun e w' => e = .returned (.bool true) ∧ Below w.heap.size w w' := by
  have hN2 : newerOf (bk a b) a = -newerOf a b := newer_bk2 a b
  have hN1 : newerOf a (bk a b) < 0 := hN
  have HO : Hid (∀ W : World, Calls Try.prog 12 #[(bk a b).v] W fun e w' => e = .returned (.bool (oldB (bk a b))) ∧ Below W.heap.size W w') := fun W => ref15Old_any (bk a b) W (bk_ok ha hb0).age.1 (bk_ok ha hb0).age.2
  have HJ1 : Hid (∀ W : World, Calls Try.prog 8 #[(Cm.mk a true (bk a b) 100 100 false false false).v] W fun e w' => e = .returned (.int .u8 0) ∧ Below W.heap.size W w') := fun W => by
    have h := judge_any ⟨a, true, bk a b, 100, 100, false, false, false⟩ W ⟨ha, bk_ok ha hb0, h100, h100⟩
    rwa [judge_100, if_neg (by omega), if_neg (by omega), if_pos (by rw [hO]; exact hq)] at h
  have HJ2 : Hid (∀ W : World, Calls Try.prog 8 #[(Cm.mk (bk a b) true a 100 100 false false false).v] W fun e w' => e = .returned (.int .u8 2) ∧ Below W.heap.size W w') := fun W => by
    have h := judge_any ⟨bk a b, true, a, 100, 100, false, false, false⟩ W ⟨bk_ok ha hb0, ha, h100, h100⟩
    rwa [judge_100, if_pos (by rw [hN2]; omega)] at h
  have HN : Hid (∀ W : World, Calls Try.prog 11 #[a.v, (bk a b).v] W fun e w' => e = .returned (.int .i64 (newerOf a b)) ∧ Below W.heap.size W w') := fun W => refNewer_any a (bk a b) W ha (bk_ok ha hb0)
  have n2 : (newerOf a b == 0) = false := by rw [beq_eq_false_iff_ne]; omega
  have n1 : newerOf a b < 0 := hN
  clear hN hN1 hN2 ha hb0
  generalize newerOf a b = N at *
  rw [hO] at HO
  go_enter Try.func4, Try.ntmps4
  go_wp2_with fail
  have F0 : Hid (Two w.heap.size (w.heap.size + 1) 25 25 #[.int .u16 a.age, .int .u8 a.opts, .int .u8 a.typ, .int .u32 a.id, .int .u32 a.adv, .int .i32 a.seq, .int .u16 a.sum, .int .u16 a.len] #[.int .u16 b.age, .int .u8 b.opts, .int .u8 a.typ, .int .u32 a.id, .int .u32 a.adv, .int .i32 b.seq, .int .u16 b.sum, .int .u16 b.len] ((w.alloc (.cells #[.int .u16 a.age, .int .u8 a.opts, .int .u8 a.typ, .int .u32 a.id, .int .u32 a.adv, .int .i32 a.seq, .int .u16 a.sum, .int .u16 a.len] 25)).alloc (.cells #[.int .u16 b.age, .int .u8 b.opts, .int .u8 a.typ, .int .u32 a.id, .int .u32 a.adv, .int .i32 b.seq, .int .u16 b.sum, .int .u16 b.len] 25)) ∧ Below w.heap.size w ((w.alloc (.cells #[.int .u16 a.age, .int .u8 a.opts, .int .u8 a.typ, .int .u32 a.id, .int .u32 a.adv, .int .i32 a.seq, .int .u16 a.sum, .int .u16 a.len] 25)).alloc (.cells #[.int .u16 b.age, .int .u8 b.opts, .int .u8 a.typ, .int .u32 a.id, .int .u32 a.adv, .int .i32 b.seq, .int .u16 b.sum, .int .u16 b.len] 25))) :=
    ⟨⟨(Blk.new _ _ _).alloc _, new_at _ _ _⟩, below_two _ _ _⟩
  generalize (w.alloc (.cells #[.int .u16 a.age, .int .u8 a.opts, .int .u8 a.typ, .int .u32 a.id, .int .u32 a.adv, .int .i32 a.seq, .int .u16 a.sum, .int .u16 a.len] 25)).alloc (.cells #[.int .u16 b.age, .int .u8 b.opts, .int .u8 a.typ, .int .u32 a.id, .int .u32 a.adv, .int .i32 b.seq, .int .u16 b.sum, .int .u16 b.len] 25) = w0 at *
  generalize hs0 : w.heap.size = g0 at *
  refine (HJ1.out w0).mono ?_
  rintro e w1 ⟨rfl, hb⟩
  have F1 : Hid (Two g0 (g0 + 1) 25 25 #[.int .u16 a.age, .int .u8 a.opts, .int .u8 a.typ, .int .u32 a.id, .int .u32 a.adv, .int .i32 a.seq, .int .u16 a.sum, .int .u16 a.len] #[.int .u16 b.age, .int .u8 b.opts, .int .u8 a.typ, .int .u32 a.id, .int .u32 a.adv, .int .i32 b.seq, .int .u16 b.sum, .int .u16 b.len] w1 ∧ Below g0 w w1) := ⟨F0.out.1.later hb, F0.out.1.below F0.out.2 hb⟩
  clear hb F0
  have j0 := F1.out.1.1.cell 0; have k0 := F1.out.1.2.cell 0
  have j1 := F1.out.1.1.cell 1; have k1 := F1.out.1.2.cell 1
  have j2 := F1.out.1.1.cell 2; have k2 := F1.out.1.2.cell 2
  have j3 := F1.out.1.1.cell 3; have k3 := F1.out.1.2.cell 3
  have j4 := F1.out.1.1.cell 4; have k4 := F1.out.1.2.cell 4
  have j5 := F1.out.1.1.cell 5; have k5 := F1.out.1.2.cell 5
  have j6 := F1.out.1.1.cell 6; have k6 := F1.out.1.2.cell 6
  have j7 := F1.out.1.1.cell 7; have k7 := F1.out.1.2.cell 7
  simp only [List.getElem?_toArray, List.getElem?_cons_zero, List.getElem?_cons_succ] at j0 k0 j1 k1 j2 k2 j3 k3 j4 k4 j5 k5 j6 k6 j7 k7
  go_wp2_with fail
  refine (HJ2.out w1).mono ?_
  rintro e w2 ⟨rfl, hb⟩
  have F2 : Hid (Two g0 (g0 + 1) 25 25 #[.int .u16 a.age, .int .u8 a.opts, .int .u8 a.typ, .int .u32 a.id, .int .u32 a.adv, .int .i32 a.seq, .int .u16 a.sum, .int .u16 a.len] #[.int .u16 b.age, .int .u8 b.opts, .int .u8 a.typ, .int .u32 a.id, .int .u32 a.adv, .int .i32 b.seq, .int .u16 b.sum, .int .u16 b.len] w2 ∧ Below g0 w w2) := ⟨F1.out.1.later hb, F1.out.1.below F1.out.2 hb⟩
  clear j0 k0 j1 k1 j2 k2 j3 k3 j4 k4 j5 k5 j6 k6 j7 k7
  clear hb F1
  have j0 := F2.out.1.1.cell 0; have k0 := F2.out.1.2.cell 0
  have j1 := F2.out.1.1.cell 1; have k1 := F2.out.1.2.cell 1
  have j2 := F2.out.1.1.cell 2; have k2 := F2.out.1.2.cell 2
  have j3 := F2.out.1.1.cell 3; have k3 := F2.out.1.2.cell 3
  have j4 := F2.out.1.1.cell 4; have k4 := F2.out.1.2.cell 4
  have j5 := F2.out.1.1.cell 5; have k5 := F2.out.1.2.cell 5
  have j6 := F2.out.1.1.cell 6; have k6 := F2.out.1.2.cell 6
  have j7 := F2.out.1.1.cell 7; have k7 := F2.out.1.2.cell 7
  simp only [List.getElem?_toArray, List.getElem?_cons_zero, List.getElem?_cons_succ] at j0 k0 j1 k1 j2 k2 j3 k3 j4 k4 j5 k5 j6 k6 j7 k7
  go_wp2_with fail
  refine (HN.out w2).mono ?_
  rintro e w3 ⟨rfl, hb⟩
  have F3 : Hid (Two g0 (g0 + 1) 25 25 #[.int .u16 a.age, .int .u8 a.opts, .int .u8 a.typ, .int .u32 a.id, .int .u32 a.adv, .int .i32 a.seq, .int .u16 a.sum, .int .u16 a.len] #[.int .u16 b.age, .int .u8 b.opts, .int .u8 a.typ, .int .u32 a.id, .int .u32 a.adv, .int .i32 b.seq, .int .u16 b.sum, .int .u16 b.len] w3 ∧ Below g0 w w3) := ⟨F2.out.1.later hb, F2.out.1.below F2.out.2 hb⟩
  clear j0 k0 j1 k1 j2 k2 j3 k3 j4 k4 j5 k5 j6 k6 j7 k7
  clear hb F2
  have j0 := F3.out.1.1.cell 0; have k0 := F3.out.1.2.cell 0
  have j1 := F3.out.1.1.cell 1; have k1 := F3.out.1.2.cell 1
  have j2 := F3.out.1.1.cell 2; have k2 := F3.out.1.2.cell 2
  have j3 := F3.out.1.1.cell 3; have k3 := F3.out.1.2.cell 3
  have j4 := F3.out.1.1.cell 4; have k4 := F3.out.1.2.cell 4
  have j5 := F3.out.1.1.cell 5; have k5 := F3.out.1.2.cell 5
  have j6 := F3.out.1.1.cell 6; have k6 := F3.out.1.2.cell 6
  have j7 := F3.out.1.1.cell 7; have k7 := F3.out.1.2.cell 7
  simp only [List.getElem?_toArray, List.getElem?_cons_zero, List.getElem?_cons_succ] at j0 k0 j1 k1 j2 k2 j3 k3 j4 k4 j5 k5 j6 k6 j7 k7
  clear HJ1 HJ2 HN
  go_wp2_with (first
    | (refine wpList_store_row rfl 25 _ _ rfl g0 #[.int .u16 b.age, .int .u8 b.opts, .int .u8 a.typ, .int .u32 a.id, .int .u32 a.adv, .int .i32 b.seq, .int .u16 b.sum, .int .u16 b.len] rfl rfl 25 _ F3.out.1.1 info_head rfl (by simp [Value.oneCell']) ?_)
    | (refine wpList_store_row rfl 25 _ _ rfl (g0 + 1) #[.int .u16 a.age, .int .u8 a.opts, .int .u8 a.typ, .int .u32 a.id, .int .u32 a.adv, .int .i32 a.seq, .int .u16 a.sum, .int .u16 a.len] rfl rfl 25 _ (F3.out.1.2.setRow_far (Nat.succ_ne_self g0) _) info_head rfl (by simp [Value.oneCell']) ?_;
       have F4 : Hid (Two g0 (g0 + 1) 25 25 #[.int .u16 b.age, .int .u8 b.opts, .int .u8 a.typ, .int .u32 a.id, .int .u32 a.adv, .int .i32 b.seq, .int .u16 b.sum, .int .u16 b.len] #[.int .u16 a.age, .int .u8 a.opts, .int .u8 a.typ, .int .u32 a.id, .int .u32 a.adv, .int .i32 a.seq, .int .u16 a.sum, .int .u16 a.len] ((w3.setRow g0 #[.int .u16 b.age, .int .u8 b.opts, .int .u8 a.typ, .int .u32 a.id, .int .u32 a.adv, .int .i32 b.seq, .int .u16 b.sum, .int .u16 b.len]).setRow (g0 + 1) #[.int .u16 a.age, .int .u8 a.opts, .int .u8 a.typ, .int .u32 a.id, .int .u32 a.adv, .int .i32 a.seq, .int .u16 a.sum, .int .u16 a.len]) ∧ Below g0 w ((w3.setRow g0 #[.int .u16 b.age, .int .u8 b.opts, .int .u8 a.typ, .int .u32 a.id, .int .u32 a.adv, .int .i32 b.seq, .int .u16 b.sum, .int .u16 b.len]).setRow (g0 + 1) #[.int .u16 a.age, .int .u8 a.opts, .int .u8 a.typ, .int .u32 a.id, .int .u32 a.adv, .int .i32 a.seq, .int .u16 a.sum, .int .u16 a.len])) :=
         ⟨⟨(F3.out.1.1.setRow _).setRow_far (Nat.ne_of_lt (Nat.lt_succ_self g0)) _, (F3.out.1.2.setRow_far (Nat.succ_ne_self g0) _).setRow _⟩, below_setRow (below_setRow F3.out.2 (Nat.le_refl _) _) (Nat.le_succ _) _⟩;
       generalize (w3.setRow g0 #[.int .u16 b.age, .int .u8 b.opts, .int .u8 a.typ, .int .u32 a.id, .int .u32 a.adv, .int .i32 b.seq, .int .u16 b.sum, .int .u16 b.len]).setRow (g0 + 1) #[.int .u16 a.age, .int .u8 a.opts, .int .u8 a.typ, .int .u32 a.id, .int .u32 a.adv, .int .i32 a.seq, .int .u16 a.sum, .int .u16 a.len] = w4 at *;
       clear j0 k0 j1 k1 j2 k2 j3 k3 j4 k4 j5 k5 j6 k6 j7 k7 F3;
       have j0 := F4.out.1.1.cell 0; have k0 := F4.out.1.2.cell 0;
       have j1 := F4.out.1.1.cell 1; have k1 := F4.out.1.2.cell 1;
       have j2 := F4.out.1.1.cell 2; have k2 := F4.out.1.2.cell 2;
       have j3 := F4.out.1.1.cell 3; have k3 := F4.out.1.2.cell 3;
       have j4 := F4.out.1.1.cell 4; have k4 := F4.out.1.2.cell 4;
       have j5 := F4.out.1.1.cell 5; have k5 := F4.out.1.2.cell 5;
       have j6 := F4.out.1.1.cell 6; have k6 := F4.out.1.2.cell 6;
       have j7 := F4.out.1.1.cell 7; have k7 := F4.out.1.2.cell 7;
       simp only [List.getElem?_toArray, List.getElem?_cons_zero, List.getElem?_cons_succ] at j0 k0 j1 k1 j2 k2 j3 k3 j4 k4 j5 k5 j6 k6 j7 k7))
  refine (HO.out w4).mono ?_
  rintro e w5 ⟨rfl, hb⟩
  have F5 : Hid (Two g0 (g0 + 1) 25 25 #[.int .u16 b.age, .int .u8 b.opts, .int .u8 a.typ, .int .u32 a.id, .int .u32 a.adv, .int .i32 b.seq, .int .u16 b.sum, .int .u16 b.len] #[.int .u16 a.age, .int .u8 a.opts, .int .u8 a.typ, .int .u32 a.id, .int .u32 a.adv, .int .i32 a.seq, .int .u16 a.sum, .int .u16 a.len] w5 ∧ Below g0 w w5) := ⟨F4.out.1.later hb, F4.out.1.below F4.out.2 hb⟩
  clear j0 k0 j1 k1 j2 k2 j3 k3 j4 k4 j5 k5 j6 k6 j7 k7
  clear hb F4
  have j0 := F5.out.1.1.cell 0; have k0 := F5.out.1.2.cell 0
  have j1 := F5.out.1.1.cell 1; have k1 := F5.out.1.2.cell 1
  have j2 := F5.out.1.1.cell 2; have k2 := F5.out.1.2.cell 2
  have j3 := F5.out.1.1.cell 3; have k3 := F5.out.1.2.cell 3
  have j4 := F5.out.1.1.cell 4; have k4 := F5.out.1.2.cell 4
  have j5 := F5.out.1.1.cell 5; have k5 := F5.out.1.2.cell 5
  have j6 := F5.out.1.1.cell 6; have k6 := F5.out.1.2.cell 6
  have j7 := F5.out.1.1.cell 7; have k7 := F5.out.1.2.cell 7
  simp only [List.getElem?_toArray, List.getElem?_cons_zero, List.getElem?_cons_succ] at j0 k0 j1 k1 j2 k2 j3 k3 j4 k4 j5 k5 j6 k6 j7 k7
  go_wp2_with fail
  refine (works_any w5).mono ?_
  rintro e w6 ⟨rfl, hb⟩
  have hE := Lib.hid (F5.out.1.below F5.out.2 hb)
  clear hb
  go_wp2
  go_ret
  subst hs0
  exact ⟨rfl, hE.out⟩
set_option maxRecDepth 100000 in
set_option maxHeartbeats 4000000 in
theorem spreadNewer_lt_seq (a b : Hd) (ha : a.ok) (hb0 : b.ok) (w : World) (hN : newerOf a b < 0) (hO : oldB (bk a b) = true) (hq : (b.seq == 2147483647) = false) : Calls Try.prog 4 #[a.v, b.v] w fun e w' => e = .returned (.bool true) ∧ Below w.heap.size w w' := by
  have hN2 : newerOf (bk a b) a = -newerOf a b := newer_bk2 a b
  have hN1 : newerOf a (bk a b) < 0 := hN
  have HO : Hid (∀ W : World, Calls Try.prog 12 #[(bk a b).v] W fun e w' => e = .returned (.bool (oldB (bk a b))) ∧ Below W.heap.size W w') := fun W => ref15Old_any (bk a b) W (bk_ok ha hb0).age.1 (bk_ok ha hb0).age.2
  have HJ1 : Hid (∀ W : World, Calls Try.prog 8 #[(Cm.mk a true (bk a b) 100 100 false false false).v] W fun e w' => e = .returned (.int .u8 5) ∧ Below W.heap.size W w') := fun W => by
    have h := judge_any ⟨a, true, bk a b, 100, 100, false, false, false⟩ W ⟨ha, bk_ok ha hb0, h100, h100⟩
    rwa [judge_100, if_neg (by omega), if_neg (by omega), if_neg (by rw [hO, show (bk a b).seq = b.seq from rfl, hq]; decide)] at h
  have HJ2 : Hid (∀ W : World, Calls Try.prog 8 #[(Cm.mk (bk a b) true a 100 100 false false false).v] W fun e w' => e = .returned (.int .u8 2) ∧ Below W.heap.size W w') := fun W => by
    have h := judge_any ⟨bk a b, true, a, 100, 100, false, false, false⟩ W ⟨bk_ok ha hb0, ha, h100, h100⟩
    rwa [judge_100, if_pos (by rw [hN2]; omega)] at h
  have HN : Hid (∀ W : World, Calls Try.prog 11 #[a.v, (bk a b).v] W fun e w' => e = .returned (.int .i64 (newerOf a b)) ∧ Below W.heap.size W w') := fun W => refNewer_any a (bk a b) W ha (bk_ok ha hb0)
  have n2 : (newerOf a b == 0) = false := by rw [beq_eq_false_iff_ne]; omega
  have n1 : newerOf a b < 0 := hN
  clear hN hN1 hN2 ha hb0
  generalize newerOf a b = N at *
  rw [hO] at HO
  go_enter Try.func4, Try.ntmps4
  go_wp2_with fail
  have F0 : Hid (Two w.heap.size (w.heap.size + 1) 25 25 #[.int .u16 a.age, .int .u8 a.opts, .int .u8 a.typ, .int .u32 a.id, .int .u32 a.adv, .int .i32 a.seq, .int .u16 a.sum, .int .u16 a.len] #[.int .u16 b.age, .int .u8 b.opts, .int .u8 a.typ, .int .u32 a.id, .int .u32 a.adv, .int .i32 b.seq, .int .u16 b.sum, .int .u16 b.len] ((w.alloc (.cells #[.int .u16 a.age, .int .u8 a.opts, .int .u8 a.typ, .int .u32 a.id, .int .u32 a.adv, .int .i32 a.seq, .int .u16 a.sum, .int .u16 a.len] 25)).alloc (.cells #[.int .u16 b.age, .int .u8 b.opts, .int .u8 a.typ, .int .u32 a.id, .int .u32 a.adv, .int .i32 b.seq, .int .u16 b.sum, .int .u16 b.len] 25)) ∧ Below w.heap.size w ((w.alloc (.cells #[.int .u16 a.age, .int .u8 a.opts, .int .u8 a.typ, .int .u32 a.id, .int .u32 a.adv, .int .i32 a.seq, .int .u16 a.sum, .int .u16 a.len] 25)).alloc (.cells #[.int .u16 b.age, .int .u8 b.opts, .int .u8 a.typ, .int .u32 a.id, .int .u32 a.adv, .int .i32 b.seq, .int .u16 b.sum, .int .u16 b.len] 25))) :=
    ⟨⟨(Blk.new _ _ _).alloc _, new_at _ _ _⟩, below_two _ _ _⟩
  generalize (w.alloc (.cells #[.int .u16 a.age, .int .u8 a.opts, .int .u8 a.typ, .int .u32 a.id, .int .u32 a.adv, .int .i32 a.seq, .int .u16 a.sum, .int .u16 a.len] 25)).alloc (.cells #[.int .u16 b.age, .int .u8 b.opts, .int .u8 a.typ, .int .u32 a.id, .int .u32 a.adv, .int .i32 b.seq, .int .u16 b.sum, .int .u16 b.len] 25) = w0 at *
  generalize hs0 : w.heap.size = g0 at *
  refine (HJ1.out w0).mono ?_
  rintro e w1 ⟨rfl, hb⟩
  have F1 : Hid (Two g0 (g0 + 1) 25 25 #[.int .u16 a.age, .int .u8 a.opts, .int .u8 a.typ, .int .u32 a.id, .int .u32 a.adv, .int .i32 a.seq, .int .u16 a.sum, .int .u16 a.len] #[.int .u16 b.age, .int .u8 b.opts, .int .u8 a.typ, .int .u32 a.id, .int .u32 a.adv, .int .i32 b.seq, .int .u16 b.sum, .int .u16 b.len] w1 ∧ Below g0 w w1) := ⟨F0.out.1.later hb, F0.out.1.below F0.out.2 hb⟩
  clear hb F0
  have j0 := F1.out.1.1.cell 0; have k0 := F1.out.1.2.cell 0
  have j1 := F1.out.1.1.cell 1; have k1 := F1.out.1.2.cell 1
  have j2 := F1.out.1.1.cell 2; have k2 := F1.out.1.2.cell 2
  have j3 := F1.out.1.1.cell 3; have k3 := F1.out.1.2.cell 3
  have j4 := F1.out.1.1.cell 4; have k4 := F1.out.1.2.cell 4
  have j5 := F1.out.1.1.cell 5; have k5 := F1.out.1.2.cell 5
  have j6 := F1.out.1.1.cell 6; have k6 := F1.out.1.2.cell 6
  have j7 := F1.out.1.1.cell 7; have k7 := F1.out.1.2.cell 7
  simp only [List.getElem?_toArray, List.getElem?_cons_zero, List.getElem?_cons_succ] at j0 k0 j1 k1 j2 k2 j3 k3 j4 k4 j5 k5 j6 k6 j7 k7
  go_wp2_with fail
  refine (HJ2.out w1).mono ?_
  rintro e w2 ⟨rfl, hb⟩
  have F2 : Hid (Two g0 (g0 + 1) 25 25 #[.int .u16 a.age, .int .u8 a.opts, .int .u8 a.typ, .int .u32 a.id, .int .u32 a.adv, .int .i32 a.seq, .int .u16 a.sum, .int .u16 a.len] #[.int .u16 b.age, .int .u8 b.opts, .int .u8 a.typ, .int .u32 a.id, .int .u32 a.adv, .int .i32 b.seq, .int .u16 b.sum, .int .u16 b.len] w2 ∧ Below g0 w w2) := ⟨F1.out.1.later hb, F1.out.1.below F1.out.2 hb⟩
  clear j0 k0 j1 k1 j2 k2 j3 k3 j4 k4 j5 k5 j6 k6 j7 k7
  clear hb F1
  have j0 := F2.out.1.1.cell 0; have k0 := F2.out.1.2.cell 0
  have j1 := F2.out.1.1.cell 1; have k1 := F2.out.1.2.cell 1
  have j2 := F2.out.1.1.cell 2; have k2 := F2.out.1.2.cell 2
  have j3 := F2.out.1.1.cell 3; have k3 := F2.out.1.2.cell 3
  have j4 := F2.out.1.1.cell 4; have k4 := F2.out.1.2.cell 4
  have j5 := F2.out.1.1.cell 5; have k5 := F2.out.1.2.cell 5
  have j6 := F2.out.1.1.cell 6; have k6 := F2.out.1.2.cell 6
  have j7 := F2.out.1.1.cell 7; have k7 := F2.out.1.2.cell 7
  simp only [List.getElem?_toArray, List.getElem?_cons_zero, List.getElem?_cons_succ] at j0 k0 j1 k1 j2 k2 j3 k3 j4 k4 j5 k5 j6 k6 j7 k7
  go_wp2_with fail
  refine (HN.out w2).mono ?_
  rintro e w3 ⟨rfl, hb⟩
  have F3 : Hid (Two g0 (g0 + 1) 25 25 #[.int .u16 a.age, .int .u8 a.opts, .int .u8 a.typ, .int .u32 a.id, .int .u32 a.adv, .int .i32 a.seq, .int .u16 a.sum, .int .u16 a.len] #[.int .u16 b.age, .int .u8 b.opts, .int .u8 a.typ, .int .u32 a.id, .int .u32 a.adv, .int .i32 b.seq, .int .u16 b.sum, .int .u16 b.len] w3 ∧ Below g0 w w3) := ⟨F2.out.1.later hb, F2.out.1.below F2.out.2 hb⟩
  clear j0 k0 j1 k1 j2 k2 j3 k3 j4 k4 j5 k5 j6 k6 j7 k7
  clear hb F2
  have j0 := F3.out.1.1.cell 0; have k0 := F3.out.1.2.cell 0
  have j1 := F3.out.1.1.cell 1; have k1 := F3.out.1.2.cell 1
  have j2 := F3.out.1.1.cell 2; have k2 := F3.out.1.2.cell 2
  have j3 := F3.out.1.1.cell 3; have k3 := F3.out.1.2.cell 3
  have j4 := F3.out.1.1.cell 4; have k4 := F3.out.1.2.cell 4
  have j5 := F3.out.1.1.cell 5; have k5 := F3.out.1.2.cell 5
  have j6 := F3.out.1.1.cell 6; have k6 := F3.out.1.2.cell 6
  have j7 := F3.out.1.1.cell 7; have k7 := F3.out.1.2.cell 7
  simp only [List.getElem?_toArray, List.getElem?_cons_zero, List.getElem?_cons_succ] at j0 k0 j1 k1 j2 k2 j3 k3 j4 k4 j5 k5 j6 k6 j7 k7
  clear HJ1 HJ2 HN
  go_wp2_with (first
    | (refine wpList_store_row rfl 25 _ _ rfl g0 #[.int .u16 b.age, .int .u8 b.opts, .int .u8 a.typ, .int .u32 a.id, .int .u32 a.adv, .int .i32 b.seq, .int .u16 b.sum, .int .u16 b.len] rfl rfl 25 _ F3.out.1.1 info_head rfl (by simp [Value.oneCell']) ?_)
    | (refine wpList_store_row rfl 25 _ _ rfl (g0 + 1) #[.int .u16 a.age, .int .u8 a.opts, .int .u8 a.typ, .int .u32 a.id, .int .u32 a.adv, .int .i32 a.seq, .int .u16 a.sum, .int .u16 a.len] rfl rfl 25 _ (F3.out.1.2.setRow_far (Nat.succ_ne_self g0) _) info_head rfl (by simp [Value.oneCell']) ?_;
       have F4 : Hid (Two g0 (g0 + 1) 25 25 #[.int .u16 b.age, .int .u8 b.opts, .int .u8 a.typ, .int .u32 a.id, .int .u32 a.adv, .int .i32 b.seq, .int .u16 b.sum, .int .u16 b.len] #[.int .u16 a.age, .int .u8 a.opts, .int .u8 a.typ, .int .u32 a.id, .int .u32 a.adv, .int .i32 a.seq, .int .u16 a.sum, .int .u16 a.len] ((w3.setRow g0 #[.int .u16 b.age, .int .u8 b.opts, .int .u8 a.typ, .int .u32 a.id, .int .u32 a.adv, .int .i32 b.seq, .int .u16 b.sum, .int .u16 b.len]).setRow (g0 + 1) #[.int .u16 a.age, .int .u8 a.opts, .int .u8 a.typ, .int .u32 a.id, .int .u32 a.adv, .int .i32 a.seq, .int .u16 a.sum, .int .u16 a.len]) ∧ Below g0 w ((w3.setRow g0 #[.int .u16 b.age, .int .u8 b.opts, .int .u8 a.typ, .int .u32 a.id, .int .u32 a.adv, .int .i32 b.seq, .int .u16 b.sum, .int .u16 b.len]).setRow (g0 + 1) #[.int .u16 a.age, .int .u8 a.opts, .int .u8 a.typ, .int .u32 a.id, .int .u32 a.adv, .int .i32 a.seq, .int .u16 a.sum, .int .u16 a.len])) :=
         ⟨⟨(F3.out.1.1.setRow _).setRow_far (Nat.ne_of_lt (Nat.lt_succ_self g0)) _, (F3.out.1.2.setRow_far (Nat.succ_ne_self g0) _).setRow _⟩, below_setRow (below_setRow F3.out.2 (Nat.le_refl _) _) (Nat.le_succ _) _⟩;
       generalize (w3.setRow g0 #[.int .u16 b.age, .int .u8 b.opts, .int .u8 a.typ, .int .u32 a.id, .int .u32 a.adv, .int .i32 b.seq, .int .u16 b.sum, .int .u16 b.len]).setRow (g0 + 1) #[.int .u16 a.age, .int .u8 a.opts, .int .u8 a.typ, .int .u32 a.id, .int .u32 a.adv, .int .i32 a.seq, .int .u16 a.sum, .int .u16 a.len] = w4 at *;
       clear j0 k0 j1 k1 j2 k2 j3 k3 j4 k4 j5 k5 j6 k6 j7 k7 F3;
       have j0 := F4.out.1.1.cell 0; have k0 := F4.out.1.2.cell 0;
       have j1 := F4.out.1.1.cell 1; have k1 := F4.out.1.2.cell 1;
       have j2 := F4.out.1.1.cell 2; have k2 := F4.out.1.2.cell 2;
       have j3 := F4.out.1.1.cell 3; have k3 := F4.out.1.2.cell 3;
       have j4 := F4.out.1.1.cell 4; have k4 := F4.out.1.2.cell 4;
       have j5 := F4.out.1.1.cell 5; have k5 := F4.out.1.2.cell 5;
       have j6 := F4.out.1.1.cell 6; have k6 := F4.out.1.2.cell 6;
       have j7 := F4.out.1.1.cell 7; have k7 := F4.out.1.2.cell 7;
       simp only [List.getElem?_toArray, List.getElem?_cons_zero, List.getElem?_cons_succ] at j0 k0 j1 k1 j2 k2 j3 k3 j4 k4 j5 k5 j6 k6 j7 k7))
  refine (HO.out w4).mono ?_
  rintro e w5 ⟨rfl, hb⟩
  have F5 : Hid (Two g0 (g0 + 1) 25 25 #[.int .u16 b.age, .int .u8 b.opts, .int .u8 a.typ, .int .u32 a.id, .int .u32 a.adv, .int .i32 b.seq, .int .u16 b.sum, .int .u16 b.len] #[.int .u16 a.age, .int .u8 a.opts, .int .u8 a.typ, .int .u32 a.id, .int .u32 a.adv, .int .i32 a.seq, .int .u16 a.sum, .int .u16 a.len] w5 ∧ Below g0 w w5) := ⟨F4.out.1.later hb, F4.out.1.below F4.out.2 hb⟩
  clear j0 k0 j1 k1 j2 k2 j3 k3 j4 k4 j5 k5 j6 k6 j7 k7
  clear hb F4
  have j0 := F5.out.1.1.cell 0; have k0 := F5.out.1.2.cell 0
  have j1 := F5.out.1.1.cell 1; have k1 := F5.out.1.2.cell 1
  have j2 := F5.out.1.1.cell 2; have k2 := F5.out.1.2.cell 2
  have j3 := F5.out.1.1.cell 3; have k3 := F5.out.1.2.cell 3
  have j4 := F5.out.1.1.cell 4; have k4 := F5.out.1.2.cell 4
  have j5 := F5.out.1.1.cell 5; have k5 := F5.out.1.2.cell 5
  have j6 := F5.out.1.1.cell 6; have k6 := F5.out.1.2.cell 6
  have j7 := F5.out.1.1.cell 7; have k7 := F5.out.1.2.cell 7
  simp only [List.getElem?_toArray, List.getElem?_cons_zero, List.getElem?_cons_succ] at j0 k0 j1 k1 j2 k2 j3 k3 j4 k4 j5 k5 j6 k6 j7 k7
  go_wp2_with fail
  refine (works_any w5).mono ?_
  rintro e w6 ⟨rfl, hb⟩
  have hE := Lib.hid (F5.out.1.below F5.out.2 hb)
  clear hb
  go_wp2
  go_ret
  subst hs0
  exact ⟨rfl, hE.out⟩
set_option maxRecDepth 100000 in
set_option maxHeartbeats 4000000 in
theorem spreadNewer_lt_young (a b : Hd) (ha : a.ok) (hb0 : b.ok) (w : World) (hN : newerOf a b < 0) (hO : oldB (bk a b) = false) : Calls Try.prog 4 #[a.v, b.v] w fun e w' => e = .returned (.bool true) ∧ Below w.heap.size w w' := by
  have hN2 : newerOf (bk a b) a = -newerOf a b := newer_bk2 a b
  have hN1 : newerOf a (bk a b) < 0 := hN
  have HO : Hid (∀ W : World, Calls Try.prog 12 #[(bk a b).v] W fun e w' => e = .returned (.bool (oldB (bk a b))) ∧ Below W.heap.size W w') := fun W => ref15Old_any (bk a b) W (bk_ok ha hb0).age.1 (bk_ok ha hb0).age.2
  have HJ1 : Hid (∀ W : World, Calls Try.prog 8 #[(Cm.mk a true (bk a b) 100 100 false false false).v] W fun e w' => e = .returned (.int .u8 5) ∧ Below W.heap.size W w') := fun W => by
    have h := judge_any ⟨a, true, bk a b, 100, 100, false, false, false⟩ W ⟨ha, bk_ok ha hb0, h100, h100⟩
    rwa [judge_100, if_neg (by omega), if_neg (by omega), if_neg (by rw [hO]; simp)] at h
  have HJ2 : Hid (∀ W : World, Calls Try.prog 8 #[(Cm.mk (bk a b) true a 100 100 false false false).v] W fun e w' => e = .returned (.int .u8 2) ∧ Below W.heap.size W w') := fun W => by
    have h := judge_any ⟨bk a b, true, a, 100, 100, false, false, false⟩ W ⟨bk_ok ha hb0, ha, h100, h100⟩
    rwa [judge_100, if_pos (by rw [hN2]; omega)] at h
  have HN : Hid (∀ W : World, Calls Try.prog 11 #[a.v, (bk a b).v] W fun e w' => e = .returned (.int .i64 (newerOf a b)) ∧ Below W.heap.size W w') := fun W => refNewer_any a (bk a b) W ha (bk_ok ha hb0)
  have n2 : (newerOf a b == 0) = false := by rw [beq_eq_false_iff_ne]; omega
  have n1 : newerOf a b < 0 := hN
  clear hN hN1 hN2 ha hb0
  generalize newerOf a b = N at *
  rw [hO] at HO
  go_enter Try.func4, Try.ntmps4
  go_wp2_with fail
  have F0 : Hid (Two w.heap.size (w.heap.size + 1) 25 25 #[.int .u16 a.age, .int .u8 a.opts, .int .u8 a.typ, .int .u32 a.id, .int .u32 a.adv, .int .i32 a.seq, .int .u16 a.sum, .int .u16 a.len] #[.int .u16 b.age, .int .u8 b.opts, .int .u8 a.typ, .int .u32 a.id, .int .u32 a.adv, .int .i32 b.seq, .int .u16 b.sum, .int .u16 b.len] ((w.alloc (.cells #[.int .u16 a.age, .int .u8 a.opts, .int .u8 a.typ, .int .u32 a.id, .int .u32 a.adv, .int .i32 a.seq, .int .u16 a.sum, .int .u16 a.len] 25)).alloc (.cells #[.int .u16 b.age, .int .u8 b.opts, .int .u8 a.typ, .int .u32 a.id, .int .u32 a.adv, .int .i32 b.seq, .int .u16 b.sum, .int .u16 b.len] 25)) ∧ Below w.heap.size w ((w.alloc (.cells #[.int .u16 a.age, .int .u8 a.opts, .int .u8 a.typ, .int .u32 a.id, .int .u32 a.adv, .int .i32 a.seq, .int .u16 a.sum, .int .u16 a.len] 25)).alloc (.cells #[.int .u16 b.age, .int .u8 b.opts, .int .u8 a.typ, .int .u32 a.id, .int .u32 a.adv, .int .i32 b.seq, .int .u16 b.sum, .int .u16 b.len] 25))) :=
    ⟨⟨(Blk.new _ _ _).alloc _, new_at _ _ _⟩, below_two _ _ _⟩
  generalize (w.alloc (.cells #[.int .u16 a.age, .int .u8 a.opts, .int .u8 a.typ, .int .u32 a.id, .int .u32 a.adv, .int .i32 a.seq, .int .u16 a.sum, .int .u16 a.len] 25)).alloc (.cells #[.int .u16 b.age, .int .u8 b.opts, .int .u8 a.typ, .int .u32 a.id, .int .u32 a.adv, .int .i32 b.seq, .int .u16 b.sum, .int .u16 b.len] 25) = w0 at *
  generalize hs0 : w.heap.size = g0 at *
  refine (HJ1.out w0).mono ?_
  rintro e w1 ⟨rfl, hb⟩
  have F1 : Hid (Two g0 (g0 + 1) 25 25 #[.int .u16 a.age, .int .u8 a.opts, .int .u8 a.typ, .int .u32 a.id, .int .u32 a.adv, .int .i32 a.seq, .int .u16 a.sum, .int .u16 a.len] #[.int .u16 b.age, .int .u8 b.opts, .int .u8 a.typ, .int .u32 a.id, .int .u32 a.adv, .int .i32 b.seq, .int .u16 b.sum, .int .u16 b.len] w1 ∧ Below g0 w w1) := ⟨F0.out.1.later hb, F0.out.1.below F0.out.2 hb⟩
  clear hb F0
  have j0 := F1.out.1.1.cell 0; have k0 := F1.out.1.2.cell 0
  have j1 := F1.out.1.1.cell 1; have k1 := F1.out.1.2.cell 1
  have j2 := F1.out.1.1.cell 2; have k2 := F1.out.1.2.cell 2
  have j3 := F1.out.1.1.cell 3; have k3 := F1.out.1.2.cell 3
  have j4 := F1.out.1.1.cell 4; have k4 := F1.out.1.2.cell 4
  have j5 := F1.out.1.1.cell 5; have k5 := F1.out.1.2.cell 5
  have j6 := F1.out.1.1.cell 6; have k6 := F1.out.1.2.cell 6
  have j7 := F1.out.1.1.cell 7; have k7 := F1.out.1.2.cell 7
  simp only [List.getElem?_toArray, List.getElem?_cons_zero, List.getElem?_cons_succ] at j0 k0 j1 k1 j2 k2 j3 k3 j4 k4 j5 k5 j6 k6 j7 k7
  go_wp2_with fail
  refine (HJ2.out w1).mono ?_
  rintro e w2 ⟨rfl, hb⟩
  have F2 : Hid (Two g0 (g0 + 1) 25 25 #[.int .u16 a.age, .int .u8 a.opts, .int .u8 a.typ, .int .u32 a.id, .int .u32 a.adv, .int .i32 a.seq, .int .u16 a.sum, .int .u16 a.len] #[.int .u16 b.age, .int .u8 b.opts, .int .u8 a.typ, .int .u32 a.id, .int .u32 a.adv, .int .i32 b.seq, .int .u16 b.sum, .int .u16 b.len] w2 ∧ Below g0 w w2) := ⟨F1.out.1.later hb, F1.out.1.below F1.out.2 hb⟩
  clear j0 k0 j1 k1 j2 k2 j3 k3 j4 k4 j5 k5 j6 k6 j7 k7
  clear hb F1
  have j0 := F2.out.1.1.cell 0; have k0 := F2.out.1.2.cell 0
  have j1 := F2.out.1.1.cell 1; have k1 := F2.out.1.2.cell 1
  have j2 := F2.out.1.1.cell 2; have k2 := F2.out.1.2.cell 2
  have j3 := F2.out.1.1.cell 3; have k3 := F2.out.1.2.cell 3
  have j4 := F2.out.1.1.cell 4; have k4 := F2.out.1.2.cell 4
  have j5 := F2.out.1.1.cell 5; have k5 := F2.out.1.2.cell 5
  have j6 := F2.out.1.1.cell 6; have k6 := F2.out.1.2.cell 6
  have j7 := F2.out.1.1.cell 7; have k7 := F2.out.1.2.cell 7
  simp only [List.getElem?_toArray, List.getElem?_cons_zero, List.getElem?_cons_succ] at j0 k0 j1 k1 j2 k2 j3 k3 j4 k4 j5 k5 j6 k6 j7 k7
  go_wp2_with fail
  refine (HN.out w2).mono ?_
  rintro e w3 ⟨rfl, hb⟩
  have F3 : Hid (Two g0 (g0 + 1) 25 25 #[.int .u16 a.age, .int .u8 a.opts, .int .u8 a.typ, .int .u32 a.id, .int .u32 a.adv, .int .i32 a.seq, .int .u16 a.sum, .int .u16 a.len] #[.int .u16 b.age, .int .u8 b.opts, .int .u8 a.typ, .int .u32 a.id, .int .u32 a.adv, .int .i32 b.seq, .int .u16 b.sum, .int .u16 b.len] w3 ∧ Below g0 w w3) := ⟨F2.out.1.later hb, F2.out.1.below F2.out.2 hb⟩
  clear j0 k0 j1 k1 j2 k2 j3 k3 j4 k4 j5 k5 j6 k6 j7 k7
  clear hb F2
  have j0 := F3.out.1.1.cell 0; have k0 := F3.out.1.2.cell 0
  have j1 := F3.out.1.1.cell 1; have k1 := F3.out.1.2.cell 1
  have j2 := F3.out.1.1.cell 2; have k2 := F3.out.1.2.cell 2
  have j3 := F3.out.1.1.cell 3; have k3 := F3.out.1.2.cell 3
  have j4 := F3.out.1.1.cell 4; have k4 := F3.out.1.2.cell 4
  have j5 := F3.out.1.1.cell 5; have k5 := F3.out.1.2.cell 5
  have j6 := F3.out.1.1.cell 6; have k6 := F3.out.1.2.cell 6
  have j7 := F3.out.1.1.cell 7; have k7 := F3.out.1.2.cell 7
  simp only [List.getElem?_toArray, List.getElem?_cons_zero, List.getElem?_cons_succ] at j0 k0 j1 k1 j2 k2 j3 k3 j4 k4 j5 k5 j6 k6 j7 k7
  clear HJ1 HJ2 HN
  go_wp2_with (first
    | (refine wpList_store_row rfl 25 _ _ rfl g0 #[.int .u16 b.age, .int .u8 b.opts, .int .u8 a.typ, .int .u32 a.id, .int .u32 a.adv, .int .i32 b.seq, .int .u16 b.sum, .int .u16 b.len] rfl rfl 25 _ F3.out.1.1 info_head rfl (by simp [Value.oneCell']) ?_)
    | (refine wpList_store_row rfl 25 _ _ rfl (g0 + 1) #[.int .u16 a.age, .int .u8 a.opts, .int .u8 a.typ, .int .u32 a.id, .int .u32 a.adv, .int .i32 a.seq, .int .u16 a.sum, .int .u16 a.len] rfl rfl 25 _ (F3.out.1.2.setRow_far (Nat.succ_ne_self g0) _) info_head rfl (by simp [Value.oneCell']) ?_;
       have F4 : Hid (Two g0 (g0 + 1) 25 25 #[.int .u16 b.age, .int .u8 b.opts, .int .u8 a.typ, .int .u32 a.id, .int .u32 a.adv, .int .i32 b.seq, .int .u16 b.sum, .int .u16 b.len] #[.int .u16 a.age, .int .u8 a.opts, .int .u8 a.typ, .int .u32 a.id, .int .u32 a.adv, .int .i32 a.seq, .int .u16 a.sum, .int .u16 a.len] ((w3.setRow g0 #[.int .u16 b.age, .int .u8 b.opts, .int .u8 a.typ, .int .u32 a.id, .int .u32 a.adv, .int .i32 b.seq, .int .u16 b.sum, .int .u16 b.len]).setRow (g0 + 1) #[.int .u16 a.age, .int .u8 a.opts, .int .u8 a.typ, .int .u32 a.id, .int .u32 a.adv, .int .i32 a.seq, .int .u16 a.sum, .int .u16 a.len]) ∧ Below g0 w ((w3.setRow g0 #[.int .u16 b.age, .int .u8 b.opts, .int .u8 a.typ, .int .u32 a.id, .int .u32 a.adv, .int .i32 b.seq, .int .u16 b.sum, .int .u16 b.len]).setRow (g0 + 1) #[.int .u16 a.age, .int .u8 a.opts, .int .u8 a.typ, .int .u32 a.id, .int .u32 a.adv, .int .i32 a.seq, .int .u16 a.sum, .int .u16 a.len])) :=
         ⟨⟨(F3.out.1.1.setRow _).setRow_far (Nat.ne_of_lt (Nat.lt_succ_self g0)) _, (F3.out.1.2.setRow_far (Nat.succ_ne_self g0) _).setRow _⟩, below_setRow (below_setRow F3.out.2 (Nat.le_refl _) _) (Nat.le_succ _) _⟩;
       generalize (w3.setRow g0 #[.int .u16 b.age, .int .u8 b.opts, .int .u8 a.typ, .int .u32 a.id, .int .u32 a.adv, .int .i32 b.seq, .int .u16 b.sum, .int .u16 b.len]).setRow (g0 + 1) #[.int .u16 a.age, .int .u8 a.opts, .int .u8 a.typ, .int .u32 a.id, .int .u32 a.adv, .int .i32 a.seq, .int .u16 a.sum, .int .u16 a.len] = w4 at *;
       clear j0 k0 j1 k1 j2 k2 j3 k3 j4 k4 j5 k5 j6 k6 j7 k7 F3;
       have j0 := F4.out.1.1.cell 0; have k0 := F4.out.1.2.cell 0;
       have j1 := F4.out.1.1.cell 1; have k1 := F4.out.1.2.cell 1;
       have j2 := F4.out.1.1.cell 2; have k2 := F4.out.1.2.cell 2;
       have j3 := F4.out.1.1.cell 3; have k3 := F4.out.1.2.cell 3;
       have j4 := F4.out.1.1.cell 4; have k4 := F4.out.1.2.cell 4;
       have j5 := F4.out.1.1.cell 5; have k5 := F4.out.1.2.cell 5;
       have j6 := F4.out.1.1.cell 6; have k6 := F4.out.1.2.cell 6;
       have j7 := F4.out.1.1.cell 7; have k7 := F4.out.1.2.cell 7;
       simp only [List.getElem?_toArray, List.getElem?_cons_zero, List.getElem?_cons_succ] at j0 k0 j1 k1 j2 k2 j3 k3 j4 k4 j5 k5 j6 k6 j7 k7))
  refine (HO.out w4).mono ?_
  rintro e w5 ⟨rfl, hb⟩
  have F5 : Hid (Two g0 (g0 + 1) 25 25 #[.int .u16 b.age, .int .u8 b.opts, .int .u8 a.typ, .int .u32 a.id, .int .u32 a.adv, .int .i32 b.seq, .int .u16 b.sum, .int .u16 b.len] #[.int .u16 a.age, .int .u8 a.opts, .int .u8 a.typ, .int .u32 a.id, .int .u32 a.adv, .int .i32 a.seq, .int .u16 a.sum, .int .u16 a.len] w5 ∧ Below g0 w w5) := ⟨F4.out.1.later hb, F4.out.1.below F4.out.2 hb⟩
  clear j0 k0 j1 k1 j2 k2 j3 k3 j4 k4 j5 k5 j6 k6 j7 k7
  clear hb F4
  have j0 := F5.out.1.1.cell 0; have k0 := F5.out.1.2.cell 0
  have j1 := F5.out.1.1.cell 1; have k1 := F5.out.1.2.cell 1
  have j2 := F5.out.1.1.cell 2; have k2 := F5.out.1.2.cell 2
  have j3 := F5.out.1.1.cell 3; have k3 := F5.out.1.2.cell 3
  have j4 := F5.out.1.1.cell 4; have k4 := F5.out.1.2.cell 4
  have j5 := F5.out.1.1.cell 5; have k5 := F5.out.1.2.cell 5
  have j6 := F5.out.1.1.cell 6; have k6 := F5.out.1.2.cell 6
  have j7 := F5.out.1.1.cell 7; have k7 := F5.out.1.2.cell 7
  simp only [List.getElem?_toArray, List.getElem?_cons_zero, List.getElem?_cons_succ] at j0 k0 j1 k1 j2 k2 j3 k3 j4 k4 j5 k5 j6 k6 j7 k7
  go_wp2_with fail
  refine (works_any w5).mono ?_
  rintro e w6 ⟨rfl, hb⟩
  have hE := Lib.hid (F5.out.1.below F5.out.2 hb)
  clear hb
  go_wp2
  go_ret
  subst hs0
  exact ⟨rfl, hE.out⟩
theorem spreadNewer_walk (a b : Hd) (ha : a.ok) (hb0 : b.ok) (w : World) : Calls Try.prog 4 #[a.v, b.v] w fun e w' => e = .returned (.bool true) ∧ Below w.heap.size w w' := by
  by_cases h0 : newerOf a b = 0
  · exact spreadNewer_zero a b ha hb0 w h0
  by_cases h1 : 0 < newerOf a b
  · cases hO : oldB a
    · exact spreadNewer_gt_young a b ha hb0 w h1 hO
    · cases hq : (a.seq == 2147483647)
      · exact spreadNewer_gt_seq a b ha hb0 w h1 hO hq
      · exact spreadNewer_gt_dead a b ha hb0 w h1 hO hq
  · have h2 : newerOf a b < 0 := by omega
    cases hO : oldB (bk a b)
    · exact spreadNewer_lt_young a b ha hb0 w h2 hO
    · cases hq : (b.seq == 2147483647)
      · exact spreadNewer_lt_seq a b ha hb0 w h2 hO hq
      · exact spreadNewer_lt_dead a b ha hb0 w h2 hO hq
end Go.Proofs.Ytjkmehpokdaonaa
