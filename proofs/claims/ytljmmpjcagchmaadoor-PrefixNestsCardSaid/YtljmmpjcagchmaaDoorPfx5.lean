/-
  The reference's Covers, Overlap, Compare, walked.
-/
import Derived.Test.YtljmmpjcagchmaaDoorPfx4
namespace Go.Proofs.YtljmmpjcagchmaaDoor
set_option linter.unusedVariables false
open Go.RowKit

structure S4 (g : Nat) (x y x' y' : Value) (W : World) : Prop where
  one : Blk W g 31 #[x, y]
  two : Blk W (g + 1) 31 #[x', y']
theorem S4.new (w : World) (x y x' y' : Value) : S4 w.heap.size x y x' y' ((w.alloc (.cells #[x, y] 31)).alloc (.cells #[x', y'] 31)).drew :=
  ⟨((Blk.new w 31 #[x, y]).alloc (.cells #[x', y'] 31)).drewN 1, by
    have := (Blk.new (w.alloc (.cells #[x, y] 31)) 31 #[x', y']).drewN 1
    rwa [World.size_alloc] at this⟩
theorem S4.later {g : Nat} {x y x' y' : Value} {W W' : World} (h : S4 g x y x' y' W) (hb : Below W.heap.size W W') : S4 g x y x' y' W' := ⟨h.one.later hb, h.two.later hb⟩
theorem below_22 (w : World) (A B : Obj) : Below w.heap.size w ((w.alloc A).alloc B).drew := (((Below.refl _ _).alloc (Nat.le_refl _) _).alloc (by rw [World.size_alloc]; omega) _).drew
theorem lastN_eq {a n : Nat} (h : isP a n = true) : lastN a n = lastP a n := or_last h
theorem covP_lastN (a n b m : Nat) : covP a n b m = (isP a n && (isP b m && (decide (a ≤ b) && decide (lastN b m ≤ lastN a n)))) := by
  rw [covP_last]
  cases h1 : isP a n <;> cases h2 : isP b m <;> try rfl
  rw [lastN_eq h1, lastN_eq h2]
theorem overP_lastN (a n b m : Nat) : overP a n b m = (isP a n && (isP b m && (decide (a ≤ lastN b m) && decide (b ≤ lastN a n)))) := by
  rw [overP_last]
  cases h1 : isP a n <;> cases h2 : isP b m <;> try rfl
  rw [lastN_eq h1, lastN_eq h2]

set_option maxRecDepth 100000 in
set_option maxHeartbeats 4000000 in
theorem refCovers_any (p q : Pf) (w : World) (hp : p.ok) (hq : q.ok) :
    Calls Tryd.prog 34 #[p.v, q.v] w fun e w' => e = .returned (.bool (covP p.a p.n q.a q.n)) ∧ Below w.heap.size w w' := by
  obtain ⟨a, n⟩ := p
  obtain ⟨b, m⟩ := q
  have HI1 : Hid (∀ W : World, Calls Tryd.prog 32 #[.agg #[.int .u32 a, .int .u8 n]] W fun e w' => e = .returned (.bool (isP a n)) ∧ Below W.heap.size W w') := (fun W => refIs_any ⟨a, n⟩ W hp)
  have HI2 : Hid (∀ W : World, Calls Tryd.prog 32 #[.agg #[.int .u32 b, .int .u8 m]] W fun e w' => e = .returned (.bool (isP b m)) ∧ Below W.heap.size W w') := (fun W => refIs_any ⟨b, m⟩ W hq)
  have HL1 : Hid (∀ W : World, Calls Tryd.prog 47 #[.agg #[.int .u32 a, .int .u8 n]] W fun e w' => e = .returned (.int .u32 (lastN a n)) ∧ Below W.heap.size W w') := (fun W => refLast_any ⟨a, n⟩ W hp)
  have HL2 : Hid (∀ W : World, Calls Tryd.prog 47 #[.agg #[.int .u32 b, .int .u8 m]] W fun e w' => e = .returned (.int .u32 (lastN b m)) ∧ Below W.heap.size W w') := (fun W => refLast_any ⟨b, m⟩ W hq)
  have hr : Hid (covP a n b m = (isP a n && (isP b m && (decide (a ≤ b) && decide (lastN b m ≤ lastN a n))))) := covP_lastN a n b m
  clear hp hq
  show Calls Tryd.prog 34 #[.agg #[.int .u32 a, .int .u8 n], .agg #[.int .u32 b, .int .u8 m]] w fun e w' => e = .returned (.bool (covP a n b m)) ∧ Below w.heap.size w w'
  generalize covP a n b m = r at *
  generalize lastN a n = A at *
  generalize lastN b m = B at *
  generalize isP a n = z1 at *
  generalize isP b m = z2 at *
  cases z1
  · rw [show (false && (z2 && (decide (a ≤ b) && decide (B ≤ A)))) = false from rfl] at hr
    go_enter Tryd.func34, Tryd.ntmps34
    go_wp2
    have HS0 : Hid (S4 w.heap.size (.int .u32 a) (.int .u8 n) (.int .u32 b) (.int .u8 m) ((boxP w a n).alloc (.cells #[.int .u32 b, .int .u8 m] 31)).drew) := S4.new w _ _ _ _
    have HB0 : Hid (Below w.heap.size w ((boxP w a n).alloc (.cells #[.int .u32 b, .int .u8 m] 31)).drew) := below_22 w _ _
    refine wp_region_s (S4 w.heap.size (.int .u32 a) (.int .u8 n) (.int .u32 b) (.int .u8 m)) [(0, true), (1, false), (2, true), (3, true), (4, false), (5, true), (6, true), (7, true), (9, true), (8, true), (10, true), (11, true), (12, true), (13, true), (14, true), (16, true), (15, false), (17, false), (18, true), (19, true), (20, true)] (by kernel_rfl) (fun _ d _ _ _ h => by cases d <;> exact h) ?_
    simp only [List.map_cons, List.map_nil, nthOp_zero, nthOp_succ]
    generalize ((boxP w a n).alloc (.cells #[.int .u32 b, .int .u8 m] 31)).drew = w0 at *
    refine wpS_take HS0 (by kernel_rfl) (by intro W hW; obtain ⟨hA, hB⟩ := hW; have q0 := hA.cell 0; have q1 := hA.cell 1; have q2 := hB.cell 0; have q3 := hB.cell 1; clear hA hB; simp only [List.getElem?_toArray, List.getElem?_cons_zero, List.getElem?_cons_succ] at q0 q1 q2 q3; go_simp; try with_reducible rfl) ?_
    try go_simp
    refine wpS_do fun K1 hK1 => ?_
    go_wp2_with fail
    refine (HI1.out _).mono ?_
    rintro e w1 ⟨rfl, hb1⟩
    have HS1 : Hid (S4 w.heap.size (.int .u32 a) (.int .u8 n) (.int .u32 b) (.int .u8 m) w1) := HS0.out.later hb1
    have HB1 := Lib.hid (below_then HB0.out hb1)
    clear hb1 HS0 HB0
    go_wp2_with fail
    refine hK1.out _ _ HS1.out ?_
    clear hK1 K1
    refine wpS_take HS1 (by kernel_rfl) (by intro W hW; clear hW; go_simp; try with_reducible rfl) ?_
    refine wpS_skip HS1 (by kernel_rfl) ?_
    try go_simp
    refine wpS_do fun K1 hK1 => ?_
    go_wp2_with fail
    refine hK1.out _ _ HS1.out ?_
    clear hK1 K1
    refine wpS_take HS1 (by kernel_rfl) (by intro W hW; clear hW; go_simp; try with_reducible rfl) ?_
    refine wpS_take HS1 (by kernel_rfl) (by intro W hW; clear hW; go_simp; try with_reducible rfl) ?_
    refine wpS_skip HS1 (by kernel_rfl) ?_
    refine wpS_skip HS1 (by kernel_rfl) ?_
    refine wpS_skip HS1 (by kernel_rfl) ?_
    refine wpS_skip HS1 (by kernel_rfl) ?_
    refine wpS_skip HS1 (by kernel_rfl) ?_
    refine wpS_take HS1 (by kernel_rfl) (by intro W hW; clear hW; go_simp; try with_reducible rfl) ?_
    refine wpS_take HS1 (by kernel_rfl) (by intro W hW; clear hW; go_simp; try with_reducible rfl) ?_
    refine wpS_skip HS1 (by kernel_rfl) ?_
    refine wpS_skip HS1 (by kernel_rfl) ?_
    try go_simp
    refine wpS_do fun K1 hK1 => ?_
    go_wp2_with fail
    refine hK1.out _ _ HS1.out ?_
    clear hK1 K1
    try go_simp
    refine wpS_do fun K1 hK1 => ?_
    go_wp2_with fail
    refine hK1.out _ _ HS1.out ?_
    clear hK1 K1
    refine wpS_skip HS1 (by kernel_rfl) ?_
    refine wpS_take HS1 (by kernel_rfl) (by intro W hW; clear hW; go_simp; try with_reducible rfl) ?_
    refine wpS_take HS1 (by kernel_rfl) (by intro W hW; clear hW; go_simp; try with_reducible rfl) ?_
    refine wpS_nil ?_
    go_wp2
    go_ret
    exact ⟨by rw [hr.out]; rfl, HB1.out⟩
  cases z2
  · rw [show (true && (false && (decide (a ≤ b) && decide (B ≤ A)))) = false from rfl] at hr
    go_enter Tryd.func34, Tryd.ntmps34
    go_wp2
    have HS0 : Hid (S4 w.heap.size (.int .u32 a) (.int .u8 n) (.int .u32 b) (.int .u8 m) ((boxP w a n).alloc (.cells #[.int .u32 b, .int .u8 m] 31)).drew) := S4.new w _ _ _ _
    have HB0 : Hid (Below w.heap.size w ((boxP w a n).alloc (.cells #[.int .u32 b, .int .u8 m] 31)).drew) := below_22 w _ _
    refine wp_region_s (S4 w.heap.size (.int .u32 a) (.int .u8 n) (.int .u32 b) (.int .u8 m)) [(0, true), (1, false), (2, true), (3, true), (4, false), (5, true), (6, true), (7, true), (9, true), (8, true), (10, true), (11, true), (12, true), (13, true), (14, true), (16, true), (15, false), (17, false), (18, true), (19, true), (20, true)] (by kernel_rfl) (fun _ d _ _ _ h => by cases d <;> exact h) ?_
    simp only [List.map_cons, List.map_nil, nthOp_zero, nthOp_succ]
    generalize ((boxP w a n).alloc (.cells #[.int .u32 b, .int .u8 m] 31)).drew = w0 at *
    refine wpS_take HS0 (by kernel_rfl) (by intro W hW; obtain ⟨hA, hB⟩ := hW; have q0 := hA.cell 0; have q1 := hA.cell 1; have q2 := hB.cell 0; have q3 := hB.cell 1; clear hA hB; simp only [List.getElem?_toArray, List.getElem?_cons_zero, List.getElem?_cons_succ] at q0 q1 q2 q3; go_simp; try with_reducible rfl) ?_
    try go_simp
    refine wpS_do fun K1 hK1 => ?_
    go_wp2_with fail
    refine (HI1.out _).mono ?_
    rintro e w1 ⟨rfl, hb1⟩
    have HS1 : Hid (S4 w.heap.size (.int .u32 a) (.int .u8 n) (.int .u32 b) (.int .u8 m) w1) := HS0.out.later hb1
    have HB1 := Lib.hid (below_then HB0.out hb1)
    clear hb1 HS0 HB0
    go_wp2_with fail
    refine hK1.out _ _ HS1.out ?_
    clear hK1 K1
    refine wpS_take HS1 (by kernel_rfl) (by intro W hW; clear hW; go_simp; try with_reducible rfl) ?_
    refine wpS_take HS1 (by kernel_rfl) (by intro W hW; obtain ⟨hA, hB⟩ := hW; have q0 := hA.cell 0; have q1 := hA.cell 1; have q2 := hB.cell 0; have q3 := hB.cell 1; clear hA hB; simp only [List.getElem?_toArray, List.getElem?_cons_zero, List.getElem?_cons_succ] at q0 q1 q2 q3; go_simp; try with_reducible rfl) ?_
    try go_simp
    refine wpS_do fun K1 hK1 => ?_
    go_wp2_with fail
    refine (HI2.out _).mono ?_
    rintro e w2 ⟨rfl, hb1⟩
    have HS2 : Hid (S4 w.heap.size (.int .u32 a) (.int .u8 n) (.int .u32 b) (.int .u8 m) w2) := HS1.out.later hb1
    have HB2 := Lib.hid (below_then HB1.out hb1)
    clear hb1 HS1 HB1
    go_wp2_with fail
    refine hK1.out _ _ HS2.out ?_
    clear hK1 K1
    refine wpS_take HS2 (by kernel_rfl) (by intro W hW; clear hW; go_simp; try with_reducible rfl) ?_
    refine wpS_take HS2 (by kernel_rfl) (by intro W hW; clear hW; go_simp; try with_reducible rfl) ?_
    refine wpS_skip HS2 (by kernel_rfl) ?_
    refine wpS_skip HS2 (by kernel_rfl) ?_
    refine wpS_skip HS2 (by kernel_rfl) ?_
    refine wpS_skip HS2 (by kernel_rfl) ?_
    refine wpS_skip HS2 (by kernel_rfl) ?_
    refine wpS_take HS2 (by kernel_rfl) (by intro W hW; clear hW; go_simp; try with_reducible rfl) ?_
    refine wpS_take HS2 (by kernel_rfl) (by intro W hW; clear hW; go_simp; try with_reducible rfl) ?_
    refine wpS_skip HS2 (by kernel_rfl) ?_
    refine wpS_skip HS2 (by kernel_rfl) ?_
    try go_simp
    refine wpS_do fun K1 hK1 => ?_
    go_wp2_with fail
    refine hK1.out _ _ HS2.out ?_
    clear hK1 K1
    try go_simp
    refine wpS_do fun K1 hK1 => ?_
    go_wp2_with fail
    refine hK1.out _ _ HS2.out ?_
    clear hK1 K1
    refine wpS_skip HS2 (by kernel_rfl) ?_
    refine wpS_take HS2 (by kernel_rfl) (by intro W hW; clear hW; go_simp; try with_reducible rfl) ?_
    refine wpS_take HS2 (by kernel_rfl) (by intro W hW; clear hW; go_simp; try with_reducible rfl) ?_
    refine wpS_nil ?_
    go_wp2
    go_ret
    exact ⟨by rw [hr.out]; rfl, HB2.out⟩
  rw [show (true && (true && (decide (a ≤ b) && decide (B ≤ A)))) = (decide (a ≤ b) && decide (B ≤ A)) from rfl] at hr
  by_cases hle : a ≤ b
  · rw [decide_eq_true hle, Bool.true_and] at hr
    have hd : Hid (decide (B ≤ A) = decide ((B : Int) ≤ (A : Int))) := by show _ = _; rw [Bool.eq_iff_iff]; simp
    go_enter Tryd.func34, Tryd.ntmps34
    go_wp2
    have HS0 : Hid (S4 w.heap.size (.int .u32 a) (.int .u8 n) (.int .u32 b) (.int .u8 m) ((boxP w a n).alloc (.cells #[.int .u32 b, .int .u8 m] 31)).drew) := S4.new w _ _ _ _
    have HB0 : Hid (Below w.heap.size w ((boxP w a n).alloc (.cells #[.int .u32 b, .int .u8 m] 31)).drew) := below_22 w _ _
    refine wp_region_s (S4 w.heap.size (.int .u32 a) (.int .u8 n) (.int .u32 b) (.int .u8 m)) [(0, true), (1, false), (2, true), (3, true), (4, false), (5, true), (6, true), (7, true), (9, true), (8, true), (10, true), (11, true), (12, true), (13, true), (14, true), (16, true), (15, false), (17, false), (18, true), (19, true), (20, true)] (by kernel_rfl) (fun _ d _ _ _ h => by cases d <;> exact h) ?_
    simp only [List.map_cons, List.map_nil, nthOp_zero, nthOp_succ]
    generalize ((boxP w a n).alloc (.cells #[.int .u32 b, .int .u8 m] 31)).drew = w0 at *
    refine wpS_take HS0 (by kernel_rfl) (by intro W hW; obtain ⟨hA, hB⟩ := hW; have q0 := hA.cell 0; have q1 := hA.cell 1; have q2 := hB.cell 0; have q3 := hB.cell 1; clear hA hB; simp only [List.getElem?_toArray, List.getElem?_cons_zero, List.getElem?_cons_succ] at q0 q1 q2 q3; go_simp; try with_reducible rfl) ?_
    try go_simp
    refine wpS_do fun K1 hK1 => ?_
    go_wp2_with fail
    refine (HI1.out _).mono ?_
    rintro e w1 ⟨rfl, hb1⟩
    have HS1 : Hid (S4 w.heap.size (.int .u32 a) (.int .u8 n) (.int .u32 b) (.int .u8 m) w1) := HS0.out.later hb1
    have HB1 := Lib.hid (below_then HB0.out hb1)
    clear hb1 HS0 HB0
    go_wp2_with fail
    refine hK1.out _ _ HS1.out ?_
    clear hK1 K1
    refine wpS_take HS1 (by kernel_rfl) (by intro W hW; clear hW; go_simp; try with_reducible rfl) ?_
    refine wpS_take HS1 (by kernel_rfl) (by intro W hW; obtain ⟨hA, hB⟩ := hW; have q0 := hA.cell 0; have q1 := hA.cell 1; have q2 := hB.cell 0; have q3 := hB.cell 1; clear hA hB; simp only [List.getElem?_toArray, List.getElem?_cons_zero, List.getElem?_cons_succ] at q0 q1 q2 q3; go_simp; try with_reducible rfl) ?_
    try go_simp
    refine wpS_do fun K1 hK1 => ?_
    go_wp2_with fail
    refine (HI2.out _).mono ?_
    rintro e w2 ⟨rfl, hb1⟩
    have HS2 : Hid (S4 w.heap.size (.int .u32 a) (.int .u8 n) (.int .u32 b) (.int .u8 m) w2) := HS1.out.later hb1
    have HB2 := Lib.hid (below_then HB1.out hb1)
    clear hb1 HS1 HB1
    go_wp2_with fail
    refine hK1.out _ _ HS2.out ?_
    clear hK1 K1
    refine wpS_take HS2 (by kernel_rfl) (by intro W hW; clear hW; go_simp; try with_reducible rfl) ?_
    refine wpS_take HS2 (by kernel_rfl) (by intro W hW; clear hW; go_simp; try with_reducible rfl) ?_
    refine wpS_take HS2 (by kernel_rfl) (by intro W hW; obtain ⟨hA, hB⟩ := hW; have q0 := hA.cell 0; have q1 := hA.cell 1; have q2 := hB.cell 0; have q3 := hB.cell 1; clear hA hB; simp only [List.getElem?_toArray, List.getElem?_cons_zero, List.getElem?_cons_succ] at q0 q1 q2 q3; go_simp; try with_reducible rfl) ?_
    refine wpS_take HS2 (by kernel_rfl) (by intro W hW; obtain ⟨hA, hB⟩ := hW; have q0 := hA.cell 0; have q1 := hA.cell 1; have q2 := hB.cell 0; have q3 := hB.cell 1; clear hA hB; simp only [List.getElem?_toArray, List.getElem?_cons_zero, List.getElem?_cons_succ] at q0 q1 q2 q3; go_simp; try with_reducible rfl) ?_
    refine wpS_take HS2 (by kernel_rfl) (by intro W hW; obtain ⟨hA, hB⟩ := hW; have q0 := hA.cell 0; have q1 := hA.cell 1; have q2 := hB.cell 0; have q3 := hB.cell 1; clear hA hB; simp only [List.getElem?_toArray, List.getElem?_cons_zero, List.getElem?_cons_succ] at q0 q1 q2 q3; go_simp; try with_reducible rfl) ?_
    refine wpS_take HS2 (by kernel_rfl) (by intro W hW; obtain ⟨hA, hB⟩ := hW; have q0 := hA.cell 0; have q1 := hA.cell 1; have q2 := hB.cell 0; have q3 := hB.cell 1; clear hA hB; simp only [List.getElem?_toArray, List.getElem?_cons_zero, List.getElem?_cons_succ] at q0 q1 q2 q3; go_simp; try with_reducible rfl) ?_
    refine wpS_take HS2 (by kernel_rfl) (by intro W hW; clear hW; go_simp; try with_reducible rfl) ?_
    refine wpS_take HS2 (by kernel_rfl) (by intro W hW; clear hW; go_simp; try with_reducible rfl) ?_
    refine wpS_take HS2 (by kernel_rfl) (by intro W hW; clear hW; go_simp; try with_reducible rfl) ?_
    refine wpS_take HS2 (by kernel_rfl) (by intro W hW; obtain ⟨hA, hB⟩ := hW; have q0 := hA.cell 0; have q1 := hA.cell 1; have q2 := hB.cell 0; have q3 := hB.cell 1; clear hA hB; simp only [List.getElem?_toArray, List.getElem?_cons_zero, List.getElem?_cons_succ] at q0 q1 q2 q3; go_simp; try with_reducible rfl) ?_
    refine wpS_take HS2 (by kernel_rfl) (by intro W hW; obtain ⟨hA, hB⟩ := hW; have q0 := hA.cell 0; have q1 := hA.cell 1; have q2 := hB.cell 0; have q3 := hB.cell 1; clear hA hB; simp only [List.getElem?_toArray, List.getElem?_cons_zero, List.getElem?_cons_succ] at q0 q1 q2 q3; go_simp; try with_reducible rfl) ?_
    try go_simp
    refine wpS_do fun K1 hK1 => ?_
    go_wp2_with fail
    refine (HL2.out _).mono ?_
    rintro e w3 ⟨rfl, hb1⟩
    have HS3 : Hid (S4 w.heap.size (.int .u32 a) (.int .u8 n) (.int .u32 b) (.int .u8 m) w3) := HS2.out.later hb1
    have HB3 := Lib.hid (below_then HB2.out hb1)
    clear hb1 HS2 HB2
    go_wp2_with fail
    refine hK1.out _ _ HS3.out ?_
    clear hK1 K1
    try go_simp
    refine wpS_do fun K1 hK1 => ?_
    go_wp2_with fail
    refine (HL1.out _).mono ?_
    rintro e w4 ⟨rfl, hb1⟩
    have HS4 : Hid (S4 w.heap.size (.int .u32 a) (.int .u8 n) (.int .u32 b) (.int .u8 m) w4) := HS3.out.later hb1
    have HB4 := Lib.hid (below_then HB3.out hb1)
    clear hb1 HS3 HB3
    go_wp2_with fail
    refine hK1.out _ _ HS4.out ?_
    clear hK1 K1
    refine wpS_take HS4 (by kernel_rfl) (by intro W hW; clear hW; go_simp; try with_reducible rfl) ?_
    refine wpS_take HS4 (by kernel_rfl) (by intro W hW; clear hW; go_simp; try with_reducible rfl) ?_
    refine wpS_take HS4 (by kernel_rfl) (by intro W hW; clear hW; go_simp; try with_reducible rfl) ?_
    refine wpS_nil ?_
    go_wp2
    go_ret
    exact ⟨by rw [hr.out, hd.out]; rfl, HB4.out⟩
  · rw [decide_eq_false hle, Bool.false_and] at hr
    have hle1 : decide (a ≤ b) = false := decide_eq_false (by omega)
    go_enter Tryd.func34, Tryd.ntmps34
    go_wp2
    have HS0 : Hid (S4 w.heap.size (.int .u32 a) (.int .u8 n) (.int .u32 b) (.int .u8 m) ((boxP w a n).alloc (.cells #[.int .u32 b, .int .u8 m] 31)).drew) := S4.new w _ _ _ _
    have HB0 : Hid (Below w.heap.size w ((boxP w a n).alloc (.cells #[.int .u32 b, .int .u8 m] 31)).drew) := below_22 w _ _
    refine wp_region_s (S4 w.heap.size (.int .u32 a) (.int .u8 n) (.int .u32 b) (.int .u8 m)) [(0, true), (1, false), (2, true), (3, true), (4, false), (5, true), (6, true), (7, true), (9, true), (8, true), (10, true), (11, true), (12, true), (13, true), (14, true), (16, true), (15, false), (17, false), (18, true), (19, true), (20, true)] (by kernel_rfl) (fun _ d _ _ _ h => by cases d <;> exact h) ?_
    simp only [List.map_cons, List.map_nil, nthOp_zero, nthOp_succ]
    generalize ((boxP w a n).alloc (.cells #[.int .u32 b, .int .u8 m] 31)).drew = w0 at *
    refine wpS_take HS0 (by kernel_rfl) (by intro W hW; obtain ⟨hA, hB⟩ := hW; have q0 := hA.cell 0; have q1 := hA.cell 1; have q2 := hB.cell 0; have q3 := hB.cell 1; clear hA hB; simp only [List.getElem?_toArray, List.getElem?_cons_zero, List.getElem?_cons_succ] at q0 q1 q2 q3; go_simp; try with_reducible rfl) ?_
    try go_simp
    refine wpS_do fun K1 hK1 => ?_
    go_wp2_with fail
    refine (HI1.out _).mono ?_
    rintro e w1 ⟨rfl, hb1⟩
    have HS1 : Hid (S4 w.heap.size (.int .u32 a) (.int .u8 n) (.int .u32 b) (.int .u8 m) w1) := HS0.out.later hb1
    have HB1 := Lib.hid (below_then HB0.out hb1)
    clear hb1 HS0 HB0
    go_wp2_with fail
    refine hK1.out _ _ HS1.out ?_
    clear hK1 K1
    refine wpS_take HS1 (by kernel_rfl) (by intro W hW; clear hW; go_simp; try with_reducible rfl) ?_
    refine wpS_take HS1 (by kernel_rfl) (by intro W hW; obtain ⟨hA, hB⟩ := hW; have q0 := hA.cell 0; have q1 := hA.cell 1; have q2 := hB.cell 0; have q3 := hB.cell 1; clear hA hB; simp only [List.getElem?_toArray, List.getElem?_cons_zero, List.getElem?_cons_succ] at q0 q1 q2 q3; go_simp; try with_reducible rfl) ?_
    try go_simp
    refine wpS_do fun K1 hK1 => ?_
    go_wp2_with fail
    refine (HI2.out _).mono ?_
    rintro e w2 ⟨rfl, hb1⟩
    have HS2 : Hid (S4 w.heap.size (.int .u32 a) (.int .u8 n) (.int .u32 b) (.int .u8 m) w2) := HS1.out.later hb1
    have HB2 := Lib.hid (below_then HB1.out hb1)
    clear hb1 HS1 HB1
    go_wp2_with fail
    refine hK1.out _ _ HS2.out ?_
    clear hK1 K1
    refine wpS_take HS2 (by kernel_rfl) (by intro W hW; clear hW; go_simp; try with_reducible rfl) ?_
    refine wpS_take HS2 (by kernel_rfl) (by intro W hW; clear hW; go_simp; try with_reducible rfl) ?_
    refine wpS_take HS2 (by kernel_rfl) (by intro W hW; obtain ⟨hA, hB⟩ := hW; have q0 := hA.cell 0; have q1 := hA.cell 1; have q2 := hB.cell 0; have q3 := hB.cell 1; clear hA hB; simp only [List.getElem?_toArray, List.getElem?_cons_zero, List.getElem?_cons_succ] at q0 q1 q2 q3; go_simp; try with_reducible rfl) ?_
    refine wpS_take HS2 (by kernel_rfl) (by intro W hW; obtain ⟨hA, hB⟩ := hW; have q0 := hA.cell 0; have q1 := hA.cell 1; have q2 := hB.cell 0; have q3 := hB.cell 1; clear hA hB; simp only [List.getElem?_toArray, List.getElem?_cons_zero, List.getElem?_cons_succ] at q0 q1 q2 q3; go_simp; try with_reducible rfl) ?_
    refine wpS_take HS2 (by kernel_rfl) (by intro W hW; obtain ⟨hA, hB⟩ := hW; have q0 := hA.cell 0; have q1 := hA.cell 1; have q2 := hB.cell 0; have q3 := hB.cell 1; clear hA hB; simp only [List.getElem?_toArray, List.getElem?_cons_zero, List.getElem?_cons_succ] at q0 q1 q2 q3; go_simp; try with_reducible rfl) ?_
    refine wpS_take HS2 (by kernel_rfl) (by intro W hW; obtain ⟨hA, hB⟩ := hW; have q0 := hA.cell 0; have q1 := hA.cell 1; have q2 := hB.cell 0; have q3 := hB.cell 1; clear hA hB; simp only [List.getElem?_toArray, List.getElem?_cons_zero, List.getElem?_cons_succ] at q0 q1 q2 q3; go_simp; try with_reducible rfl) ?_
    refine wpS_take HS2 (by kernel_rfl) (by intro W hW; clear hW; go_simp; try with_reducible rfl) ?_
    refine wpS_take HS2 (by kernel_rfl) (by intro W hW; clear hW; go_simp; try with_reducible rfl) ?_
    refine wpS_take HS2 (by kernel_rfl) (by intro W hW; clear hW; go_simp; try with_reducible rfl) ?_
    refine wpS_skip HS2 (by kernel_rfl) ?_
    refine wpS_skip HS2 (by kernel_rfl) ?_
    try go_simp
    refine wpS_do fun K1 hK1 => ?_
    go_wp2_with fail
    refine hK1.out _ _ HS2.out ?_
    clear hK1 K1
    try go_simp
    refine wpS_do fun K1 hK1 => ?_
    go_wp2_with fail
    refine hK1.out _ _ HS2.out ?_
    clear hK1 K1
    refine wpS_skip HS2 (by kernel_rfl) ?_
    refine wpS_take HS2 (by kernel_rfl) (by intro W hW; clear hW; go_simp; try with_reducible rfl) ?_
    refine wpS_take HS2 (by kernel_rfl) (by intro W hW; clear hW; go_simp; try with_reducible rfl) ?_
    refine wpS_nil ?_
    go_wp2
    go_ret
    exact ⟨by rw [hr.out]; rfl, HB2.out⟩

set_option maxRecDepth 100000 in
set_option maxHeartbeats 4000000 in
theorem refOverlap_any (p q : Pf) (w : World) (hp : p.ok) (hq : q.ok) :
    Calls Tryd.prog 35 #[p.v, q.v] w fun e w' => e = .returned (.bool (overP p.a p.n q.a q.n)) ∧ Below w.heap.size w w' := by
  obtain ⟨a, n⟩ := p
  obtain ⟨b, m⟩ := q
  have HI1 : Hid (∀ W : World, Calls Tryd.prog 32 #[.agg #[.int .u32 a, .int .u8 n]] W fun e w' => e = .returned (.bool (isP a n)) ∧ Below W.heap.size W w') := (fun W => refIs_any ⟨a, n⟩ W hp)
  have HI2 : Hid (∀ W : World, Calls Tryd.prog 32 #[.agg #[.int .u32 b, .int .u8 m]] W fun e w' => e = .returned (.bool (isP b m)) ∧ Below W.heap.size W w') := (fun W => refIs_any ⟨b, m⟩ W hq)
  have HL1 : Hid (∀ W : World, Calls Tryd.prog 47 #[.agg #[.int .u32 a, .int .u8 n]] W fun e w' => e = .returned (.int .u32 (lastN a n)) ∧ Below W.heap.size W w') := (fun W => refLast_any ⟨a, n⟩ W hp)
  have HL2 : Hid (∀ W : World, Calls Tryd.prog 47 #[.agg #[.int .u32 b, .int .u8 m]] W fun e w' => e = .returned (.int .u32 (lastN b m)) ∧ Below W.heap.size W w') := (fun W => refLast_any ⟨b, m⟩ W hq)
  have hr : Hid (overP a n b m = (isP a n && (isP b m && (decide (a ≤ lastN b m) && decide (b ≤ lastN a n))))) := overP_lastN a n b m
  clear hp hq
  show Calls Tryd.prog 35 #[.agg #[.int .u32 a, .int .u8 n], .agg #[.int .u32 b, .int .u8 m]] w fun e w' => e = .returned (.bool (overP a n b m)) ∧ Below w.heap.size w w'
  generalize overP a n b m = r at *
  generalize lastN a n = A at *
  generalize lastN b m = B at *
  generalize isP a n = z1 at *
  generalize isP b m = z2 at *
  cases z1
  · rw [show (false && (z2 && (decide (a ≤ B) && decide (b ≤ A)))) = false from rfl] at hr
    go_enter Tryd.func35, Tryd.ntmps35
    go_wp2
    have HS0 : Hid (S4 w.heap.size (.int .u32 a) (.int .u8 n) (.int .u32 b) (.int .u8 m) ((boxP w a n).alloc (.cells #[.int .u32 b, .int .u8 m] 31)).drew) := S4.new w _ _ _ _
    have HB0 : Hid (Below w.heap.size w ((boxP w a n).alloc (.cells #[.int .u32 b, .int .u8 m] 31)).drew) := below_22 w _ _
    refine wp_region_s (S4 w.heap.size (.int .u32 a) (.int .u8 n) (.int .u32 b) (.int .u8 m)) [(0, true), (1, false), (2, true), (3, true), (4, false), (5, true), (6, true), (7, true), (8, true), (9, true), (10, false), (11, true), (12, true), (13, true), (14, true), (15, true), (16, true), (17, false), (18, true), (19, true), (20, true)] (by kernel_rfl) (fun _ d _ _ _ h => by cases d <;> exact h) ?_
    simp only [List.map_cons, List.map_nil, nthOp_zero, nthOp_succ]
    generalize ((boxP w a n).alloc (.cells #[.int .u32 b, .int .u8 m] 31)).drew = w0 at *
    refine wpS_take HS0 (by kernel_rfl) (by intro W hW; obtain ⟨hA, hB⟩ := hW; have q0 := hA.cell 0; have q1 := hA.cell 1; have q2 := hB.cell 0; have q3 := hB.cell 1; clear hA hB; simp only [List.getElem?_toArray, List.getElem?_cons_zero, List.getElem?_cons_succ] at q0 q1 q2 q3; go_simp; try with_reducible rfl) ?_
    try go_simp
    refine wpS_do fun K1 hK1 => ?_
    go_wp2_with fail
    refine (HI1.out _).mono ?_
    rintro e w1 ⟨rfl, hb1⟩
    have HS1 : Hid (S4 w.heap.size (.int .u32 a) (.int .u8 n) (.int .u32 b) (.int .u8 m) w1) := HS0.out.later hb1
    have HB1 := Lib.hid (below_then HB0.out hb1)
    clear hb1 HS0 HB0
    go_wp2_with fail
    refine hK1.out _ _ HS1.out ?_
    clear hK1 K1
    refine wpS_take HS1 (by kernel_rfl) (by intro W hW; clear hW; go_simp; try with_reducible rfl) ?_
    refine wpS_skip HS1 (by kernel_rfl) ?_
    try go_simp
    refine wpS_do fun K1 hK1 => ?_
    go_wp2_with fail
    refine hK1.out _ _ HS1.out ?_
    clear hK1 K1
    refine wpS_take HS1 (by kernel_rfl) (by intro W hW; clear hW; go_simp; try with_reducible rfl) ?_
    refine wpS_take HS1 (by kernel_rfl) (by intro W hW; clear hW; go_simp; try with_reducible rfl) ?_
    refine wpS_skip HS1 (by kernel_rfl) ?_
    refine wpS_skip HS1 (by kernel_rfl) ?_
    refine wpS_skip HS1 (by kernel_rfl) ?_
    try go_simp
    refine wpS_do fun K1 hK1 => ?_
    go_wp2_with fail
    refine hK1.out _ _ HS1.out ?_
    clear hK1 K1
    refine wpS_skip HS1 (by kernel_rfl) ?_
    refine wpS_take HS1 (by kernel_rfl) (by intro W hW; clear hW; go_simp; try with_reducible rfl) ?_
    refine wpS_take HS1 (by kernel_rfl) (by intro W hW; clear hW; go_simp; try with_reducible rfl) ?_
    refine wpS_skip HS1 (by kernel_rfl) ?_
    refine wpS_skip HS1 (by kernel_rfl) ?_
    refine wpS_skip HS1 (by kernel_rfl) ?_
    try go_simp
    refine wpS_do fun K1 hK1 => ?_
    go_wp2_with fail
    refine hK1.out _ _ HS1.out ?_
    clear hK1 K1
    refine wpS_skip HS1 (by kernel_rfl) ?_
    refine wpS_take HS1 (by kernel_rfl) (by intro W hW; clear hW; go_simp; try with_reducible rfl) ?_
    refine wpS_take HS1 (by kernel_rfl) (by intro W hW; clear hW; go_simp; try with_reducible rfl) ?_
    refine wpS_nil ?_
    go_wp2
    go_ret
    exact ⟨by rw [hr.out]; rfl, HB1.out⟩
  cases z2
  · rw [show (true && (false && (decide (a ≤ B) && decide (b ≤ A)))) = false from rfl] at hr
    go_enter Tryd.func35, Tryd.ntmps35
    go_wp2
    have HS0 : Hid (S4 w.heap.size (.int .u32 a) (.int .u8 n) (.int .u32 b) (.int .u8 m) ((boxP w a n).alloc (.cells #[.int .u32 b, .int .u8 m] 31)).drew) := S4.new w _ _ _ _
    have HB0 : Hid (Below w.heap.size w ((boxP w a n).alloc (.cells #[.int .u32 b, .int .u8 m] 31)).drew) := below_22 w _ _
    refine wp_region_s (S4 w.heap.size (.int .u32 a) (.int .u8 n) (.int .u32 b) (.int .u8 m)) [(0, true), (1, false), (2, true), (3, true), (4, false), (5, true), (6, true), (7, true), (8, true), (9, true), (10, false), (11, true), (12, true), (13, true), (14, true), (15, true), (16, true), (17, false), (18, true), (19, true), (20, true)] (by kernel_rfl) (fun _ d _ _ _ h => by cases d <;> exact h) ?_
    simp only [List.map_cons, List.map_nil, nthOp_zero, nthOp_succ]
    generalize ((boxP w a n).alloc (.cells #[.int .u32 b, .int .u8 m] 31)).drew = w0 at *
    refine wpS_take HS0 (by kernel_rfl) (by intro W hW; obtain ⟨hA, hB⟩ := hW; have q0 := hA.cell 0; have q1 := hA.cell 1; have q2 := hB.cell 0; have q3 := hB.cell 1; clear hA hB; simp only [List.getElem?_toArray, List.getElem?_cons_zero, List.getElem?_cons_succ] at q0 q1 q2 q3; go_simp; try with_reducible rfl) ?_
    try go_simp
    refine wpS_do fun K1 hK1 => ?_
    go_wp2_with fail
    refine (HI1.out _).mono ?_
    rintro e w1 ⟨rfl, hb1⟩
    have HS1 : Hid (S4 w.heap.size (.int .u32 a) (.int .u8 n) (.int .u32 b) (.int .u8 m) w1) := HS0.out.later hb1
    have HB1 := Lib.hid (below_then HB0.out hb1)
    clear hb1 HS0 HB0
    go_wp2_with fail
    refine hK1.out _ _ HS1.out ?_
    clear hK1 K1
    refine wpS_take HS1 (by kernel_rfl) (by intro W hW; clear hW; go_simp; try with_reducible rfl) ?_
    refine wpS_take HS1 (by kernel_rfl) (by intro W hW; obtain ⟨hA, hB⟩ := hW; have q0 := hA.cell 0; have q1 := hA.cell 1; have q2 := hB.cell 0; have q3 := hB.cell 1; clear hA hB; simp only [List.getElem?_toArray, List.getElem?_cons_zero, List.getElem?_cons_succ] at q0 q1 q2 q3; go_simp; try with_reducible rfl) ?_
    try go_simp
    refine wpS_do fun K1 hK1 => ?_
    go_wp2_with fail
    refine (HI2.out _).mono ?_
    rintro e w2 ⟨rfl, hb1⟩
    have HS2 : Hid (S4 w.heap.size (.int .u32 a) (.int .u8 n) (.int .u32 b) (.int .u8 m) w2) := HS1.out.later hb1
    have HB2 := Lib.hid (below_then HB1.out hb1)
    clear hb1 HS1 HB1
    go_wp2_with fail
    refine hK1.out _ _ HS2.out ?_
    clear hK1 K1
    refine wpS_take HS2 (by kernel_rfl) (by intro W hW; clear hW; go_simp; try with_reducible rfl) ?_
    refine wpS_take HS2 (by kernel_rfl) (by intro W hW; clear hW; go_simp; try with_reducible rfl) ?_
    refine wpS_skip HS2 (by kernel_rfl) ?_
    refine wpS_skip HS2 (by kernel_rfl) ?_
    refine wpS_skip HS2 (by kernel_rfl) ?_
    try go_simp
    refine wpS_do fun K1 hK1 => ?_
    go_wp2_with fail
    refine hK1.out _ _ HS2.out ?_
    clear hK1 K1
    refine wpS_skip HS2 (by kernel_rfl) ?_
    refine wpS_take HS2 (by kernel_rfl) (by intro W hW; clear hW; go_simp; try with_reducible rfl) ?_
    refine wpS_take HS2 (by kernel_rfl) (by intro W hW; clear hW; go_simp; try with_reducible rfl) ?_
    refine wpS_skip HS2 (by kernel_rfl) ?_
    refine wpS_skip HS2 (by kernel_rfl) ?_
    refine wpS_skip HS2 (by kernel_rfl) ?_
    try go_simp
    refine wpS_do fun K1 hK1 => ?_
    go_wp2_with fail
    refine hK1.out _ _ HS2.out ?_
    clear hK1 K1
    refine wpS_skip HS2 (by kernel_rfl) ?_
    refine wpS_take HS2 (by kernel_rfl) (by intro W hW; clear hW; go_simp; try with_reducible rfl) ?_
    refine wpS_take HS2 (by kernel_rfl) (by intro W hW; clear hW; go_simp; try with_reducible rfl) ?_
    refine wpS_nil ?_
    go_wp2
    go_ret
    exact ⟨by rw [hr.out]; rfl, HB2.out⟩
  rw [show (true && (true && (decide (a ≤ B) && decide (b ≤ A)))) = (decide (a ≤ B) && decide (b ≤ A)) from rfl] at hr
  by_cases hle : a ≤ B
  · rw [decide_eq_true hle, Bool.true_and] at hr
    have hd : Hid (decide (b ≤ A) = decide ((b : Int) ≤ (A : Int))) := by show _ = _; rw [Bool.eq_iff_iff]; simp
    go_enter Tryd.func35, Tryd.ntmps35
    go_wp2
    have HS0 : Hid (S4 w.heap.size (.int .u32 a) (.int .u8 n) (.int .u32 b) (.int .u8 m) ((boxP w a n).alloc (.cells #[.int .u32 b, .int .u8 m] 31)).drew) := S4.new w _ _ _ _
    have HB0 : Hid (Below w.heap.size w ((boxP w a n).alloc (.cells #[.int .u32 b, .int .u8 m] 31)).drew) := below_22 w _ _
    refine wp_region_s (S4 w.heap.size (.int .u32 a) (.int .u8 n) (.int .u32 b) (.int .u8 m)) [(0, true), (1, false), (2, true), (3, true), (4, false), (5, true), (6, true), (7, true), (8, true), (9, true), (10, false), (11, true), (12, true), (13, true), (14, true), (15, true), (16, true), (17, false), (18, true), (19, true), (20, true)] (by kernel_rfl) (fun _ d _ _ _ h => by cases d <;> exact h) ?_
    simp only [List.map_cons, List.map_nil, nthOp_zero, nthOp_succ]
    generalize ((boxP w a n).alloc (.cells #[.int .u32 b, .int .u8 m] 31)).drew = w0 at *
    refine wpS_take HS0 (by kernel_rfl) (by intro W hW; obtain ⟨hA, hB⟩ := hW; have q0 := hA.cell 0; have q1 := hA.cell 1; have q2 := hB.cell 0; have q3 := hB.cell 1; clear hA hB; simp only [List.getElem?_toArray, List.getElem?_cons_zero, List.getElem?_cons_succ] at q0 q1 q2 q3; go_simp; try with_reducible rfl) ?_
    try go_simp
    refine wpS_do fun K1 hK1 => ?_
    go_wp2_with fail
    refine (HI1.out _).mono ?_
    rintro e w1 ⟨rfl, hb1⟩
    have HS1 : Hid (S4 w.heap.size (.int .u32 a) (.int .u8 n) (.int .u32 b) (.int .u8 m) w1) := HS0.out.later hb1
    have HB1 := Lib.hid (below_then HB0.out hb1)
    clear hb1 HS0 HB0
    go_wp2_with fail
    refine hK1.out _ _ HS1.out ?_
    clear hK1 K1
    refine wpS_take HS1 (by kernel_rfl) (by intro W hW; clear hW; go_simp; try with_reducible rfl) ?_
    refine wpS_take HS1 (by kernel_rfl) (by intro W hW; obtain ⟨hA, hB⟩ := hW; have q0 := hA.cell 0; have q1 := hA.cell 1; have q2 := hB.cell 0; have q3 := hB.cell 1; clear hA hB; simp only [List.getElem?_toArray, List.getElem?_cons_zero, List.getElem?_cons_succ] at q0 q1 q2 q3; go_simp; try with_reducible rfl) ?_
    try go_simp
    refine wpS_do fun K1 hK1 => ?_
    go_wp2_with fail
    refine (HI2.out _).mono ?_
    rintro e w2 ⟨rfl, hb1⟩
    have HS2 : Hid (S4 w.heap.size (.int .u32 a) (.int .u8 n) (.int .u32 b) (.int .u8 m) w2) := HS1.out.later hb1
    have HB2 := Lib.hid (below_then HB1.out hb1)
    clear hb1 HS1 HB1
    go_wp2_with fail
    refine hK1.out _ _ HS2.out ?_
    clear hK1 K1
    refine wpS_take HS2 (by kernel_rfl) (by intro W hW; clear hW; go_simp; try with_reducible rfl) ?_
    refine wpS_take HS2 (by kernel_rfl) (by intro W hW; clear hW; go_simp; try with_reducible rfl) ?_
    refine wpS_take HS2 (by kernel_rfl) (by intro W hW; obtain ⟨hA, hB⟩ := hW; have q0 := hA.cell 0; have q1 := hA.cell 1; have q2 := hB.cell 0; have q3 := hB.cell 1; clear hA hB; simp only [List.getElem?_toArray, List.getElem?_cons_zero, List.getElem?_cons_succ] at q0 q1 q2 q3; go_simp; try with_reducible rfl) ?_
    refine wpS_take HS2 (by kernel_rfl) (by intro W hW; obtain ⟨hA, hB⟩ := hW; have q0 := hA.cell 0; have q1 := hA.cell 1; have q2 := hB.cell 0; have q3 := hB.cell 1; clear hA hB; simp only [List.getElem?_toArray, List.getElem?_cons_zero, List.getElem?_cons_succ] at q0 q1 q2 q3; go_simp; try with_reducible rfl) ?_
    refine wpS_take HS2 (by kernel_rfl) (by intro W hW; obtain ⟨hA, hB⟩ := hW; have q0 := hA.cell 0; have q1 := hA.cell 1; have q2 := hB.cell 0; have q3 := hB.cell 1; clear hA hB; simp only [List.getElem?_toArray, List.getElem?_cons_zero, List.getElem?_cons_succ] at q0 q1 q2 q3; go_simp; try with_reducible rfl) ?_
    try go_simp
    refine wpS_do fun K1 hK1 => ?_
    go_wp2_with fail
    refine (HL2.out _).mono ?_
    rintro e w3 ⟨rfl, hb1⟩
    have HS3 : Hid (S4 w.heap.size (.int .u32 a) (.int .u8 n) (.int .u32 b) (.int .u8 m) w3) := HS2.out.later hb1
    have HB3 := Lib.hid (below_then HB2.out hb1)
    clear hb1 HS2 HB2
    go_wp2_with fail
    refine hK1.out _ _ HS3.out ?_
    clear hK1 K1
    refine wpS_take HS3 (by kernel_rfl) (by intro W hW; clear hW; go_simp; try with_reducible rfl) ?_
    refine wpS_take HS3 (by kernel_rfl) (by intro W hW; clear hW; go_simp; try with_reducible rfl) ?_
    refine wpS_take HS3 (by kernel_rfl) (by intro W hW; clear hW; go_simp; try with_reducible rfl) ?_
    refine wpS_take HS3 (by kernel_rfl) (by intro W hW; obtain ⟨hA, hB⟩ := hW; have q0 := hA.cell 0; have q1 := hA.cell 1; have q2 := hB.cell 0; have q3 := hB.cell 1; clear hA hB; simp only [List.getElem?_toArray, List.getElem?_cons_zero, List.getElem?_cons_succ] at q0 q1 q2 q3; go_simp; try with_reducible rfl) ?_
    refine wpS_take HS3 (by kernel_rfl) (by intro W hW; obtain ⟨hA, hB⟩ := hW; have q0 := hA.cell 0; have q1 := hA.cell 1; have q2 := hB.cell 0; have q3 := hB.cell 1; clear hA hB; simp only [List.getElem?_toArray, List.getElem?_cons_zero, List.getElem?_cons_succ] at q0 q1 q2 q3; go_simp; try with_reducible rfl) ?_
    refine wpS_take HS3 (by kernel_rfl) (by intro W hW; obtain ⟨hA, hB⟩ := hW; have q0 := hA.cell 0; have q1 := hA.cell 1; have q2 := hB.cell 0; have q3 := hB.cell 1; clear hA hB; simp only [List.getElem?_toArray, List.getElem?_cons_zero, List.getElem?_cons_succ] at q0 q1 q2 q3; go_simp; try with_reducible rfl) ?_
    try go_simp
    refine wpS_do fun K1 hK1 => ?_
    go_wp2_with fail
    refine (HL1.out _).mono ?_
    rintro e w4 ⟨rfl, hb1⟩
    have HS4 : Hid (S4 w.heap.size (.int .u32 a) (.int .u8 n) (.int .u32 b) (.int .u8 m) w4) := HS3.out.later hb1
    have HB4 := Lib.hid (below_then HB3.out hb1)
    clear hb1 HS3 HB3
    go_wp2_with fail
    refine hK1.out _ _ HS4.out ?_
    clear hK1 K1
    refine wpS_take HS4 (by kernel_rfl) (by intro W hW; clear hW; go_simp; try with_reducible rfl) ?_
    refine wpS_take HS4 (by kernel_rfl) (by intro W hW; clear hW; go_simp; try with_reducible rfl) ?_
    refine wpS_take HS4 (by kernel_rfl) (by intro W hW; clear hW; go_simp; try with_reducible rfl) ?_
    refine wpS_nil ?_
    go_wp2
    go_ret
    exact ⟨by rw [hr.out, hd.out]; rfl, HB4.out⟩
  · rw [decide_eq_false hle, Bool.false_and] at hr
    have hle1 : decide (a ≤ B) = false := decide_eq_false (by omega)
    go_enter Tryd.func35, Tryd.ntmps35
    go_wp2
    have HS0 : Hid (S4 w.heap.size (.int .u32 a) (.int .u8 n) (.int .u32 b) (.int .u8 m) ((boxP w a n).alloc (.cells #[.int .u32 b, .int .u8 m] 31)).drew) := S4.new w _ _ _ _
    have HB0 : Hid (Below w.heap.size w ((boxP w a n).alloc (.cells #[.int .u32 b, .int .u8 m] 31)).drew) := below_22 w _ _
    refine wp_region_s (S4 w.heap.size (.int .u32 a) (.int .u8 n) (.int .u32 b) (.int .u8 m)) [(0, true), (1, false), (2, true), (3, true), (4, false), (5, true), (6, true), (7, true), (8, true), (9, true), (10, false), (11, true), (12, true), (13, true), (14, true), (15, true), (16, true), (17, false), (18, true), (19, true), (20, true)] (by kernel_rfl) (fun _ d _ _ _ h => by cases d <;> exact h) ?_
    simp only [List.map_cons, List.map_nil, nthOp_zero, nthOp_succ]
    generalize ((boxP w a n).alloc (.cells #[.int .u32 b, .int .u8 m] 31)).drew = w0 at *
    refine wpS_take HS0 (by kernel_rfl) (by intro W hW; obtain ⟨hA, hB⟩ := hW; have q0 := hA.cell 0; have q1 := hA.cell 1; have q2 := hB.cell 0; have q3 := hB.cell 1; clear hA hB; simp only [List.getElem?_toArray, List.getElem?_cons_zero, List.getElem?_cons_succ] at q0 q1 q2 q3; go_simp; try with_reducible rfl) ?_
    try go_simp
    refine wpS_do fun K1 hK1 => ?_
    go_wp2_with fail
    refine (HI1.out _).mono ?_
    rintro e w1 ⟨rfl, hb1⟩
    have HS1 : Hid (S4 w.heap.size (.int .u32 a) (.int .u8 n) (.int .u32 b) (.int .u8 m) w1) := HS0.out.later hb1
    have HB1 := Lib.hid (below_then HB0.out hb1)
    clear hb1 HS0 HB0
    go_wp2_with fail
    refine hK1.out _ _ HS1.out ?_
    clear hK1 K1
    refine wpS_take HS1 (by kernel_rfl) (by intro W hW; clear hW; go_simp; try with_reducible rfl) ?_
    refine wpS_take HS1 (by kernel_rfl) (by intro W hW; obtain ⟨hA, hB⟩ := hW; have q0 := hA.cell 0; have q1 := hA.cell 1; have q2 := hB.cell 0; have q3 := hB.cell 1; clear hA hB; simp only [List.getElem?_toArray, List.getElem?_cons_zero, List.getElem?_cons_succ] at q0 q1 q2 q3; go_simp; try with_reducible rfl) ?_
    try go_simp
    refine wpS_do fun K1 hK1 => ?_
    go_wp2_with fail
    refine (HI2.out _).mono ?_
    rintro e w2 ⟨rfl, hb1⟩
    have HS2 : Hid (S4 w.heap.size (.int .u32 a) (.int .u8 n) (.int .u32 b) (.int .u8 m) w2) := HS1.out.later hb1
    have HB2 := Lib.hid (below_then HB1.out hb1)
    clear hb1 HS1 HB1
    go_wp2_with fail
    refine hK1.out _ _ HS2.out ?_
    clear hK1 K1
    refine wpS_take HS2 (by kernel_rfl) (by intro W hW; clear hW; go_simp; try with_reducible rfl) ?_
    refine wpS_take HS2 (by kernel_rfl) (by intro W hW; clear hW; go_simp; try with_reducible rfl) ?_
    refine wpS_take HS2 (by kernel_rfl) (by intro W hW; obtain ⟨hA, hB⟩ := hW; have q0 := hA.cell 0; have q1 := hA.cell 1; have q2 := hB.cell 0; have q3 := hB.cell 1; clear hA hB; simp only [List.getElem?_toArray, List.getElem?_cons_zero, List.getElem?_cons_succ] at q0 q1 q2 q3; go_simp; try with_reducible rfl) ?_
    refine wpS_take HS2 (by kernel_rfl) (by intro W hW; obtain ⟨hA, hB⟩ := hW; have q0 := hA.cell 0; have q1 := hA.cell 1; have q2 := hB.cell 0; have q3 := hB.cell 1; clear hA hB; simp only [List.getElem?_toArray, List.getElem?_cons_zero, List.getElem?_cons_succ] at q0 q1 q2 q3; go_simp; try with_reducible rfl) ?_
    refine wpS_take HS2 (by kernel_rfl) (by intro W hW; obtain ⟨hA, hB⟩ := hW; have q0 := hA.cell 0; have q1 := hA.cell 1; have q2 := hB.cell 0; have q3 := hB.cell 1; clear hA hB; simp only [List.getElem?_toArray, List.getElem?_cons_zero, List.getElem?_cons_succ] at q0 q1 q2 q3; go_simp; try with_reducible rfl) ?_
    try go_simp
    refine wpS_do fun K1 hK1 => ?_
    go_wp2_with fail
    refine (HL2.out _).mono ?_
    rintro e w3 ⟨rfl, hb1⟩
    have HS3 : Hid (S4 w.heap.size (.int .u32 a) (.int .u8 n) (.int .u32 b) (.int .u8 m) w3) := HS2.out.later hb1
    have HB3 := Lib.hid (below_then HB2.out hb1)
    clear hb1 HS2 HB2
    go_wp2_with fail
    refine hK1.out _ _ HS3.out ?_
    clear hK1 K1
    refine wpS_take HS3 (by kernel_rfl) (by intro W hW; clear hW; go_simp; try with_reducible rfl) ?_
    refine wpS_take HS3 (by kernel_rfl) (by intro W hW; clear hW; go_simp; try with_reducible rfl) ?_
    refine wpS_take HS3 (by kernel_rfl) (by intro W hW; clear hW; go_simp; try with_reducible rfl) ?_
    refine wpS_skip HS3 (by kernel_rfl) ?_
    refine wpS_skip HS3 (by kernel_rfl) ?_
    refine wpS_skip HS3 (by kernel_rfl) ?_
    try go_simp
    refine wpS_do fun K1 hK1 => ?_
    go_wp2_with fail
    refine hK1.out _ _ HS3.out ?_
    clear hK1 K1
    refine wpS_skip HS3 (by kernel_rfl) ?_
    refine wpS_take HS3 (by kernel_rfl) (by intro W hW; clear hW; go_simp; try with_reducible rfl) ?_
    refine wpS_take HS3 (by kernel_rfl) (by intro W hW; clear hW; go_simp; try with_reducible rfl) ?_
    refine wpS_nil ?_
    go_wp2
    go_ret
    exact ⟨by rw [hr.out]; rfl, HB3.out⟩

set_option maxRecDepth 100000 in
set_option maxHeartbeats 2000000 in
theorem refCompare_any (p q : Pf) (w : World) :
    Calls Tryd.prog 37 #[p.v, q.v] w fun e w' => e = .returned (.int .i64 (cmpP p.a p.n q.a q.n)) ∧ Below w.heap.size w w' := by
  obtain ⟨a, n⟩ := p
  obtain ⟨b, m⟩ := q
  have hr : Hid (cmpP a n b m = if a = b ∧ n = m then 0 else if a < b ∨ a = b ∧ n < m then -1 else 1) := rfl
  show Calls Tryd.prog 37 #[.agg #[.int .u32 a, .int .u8 n], .agg #[.int .u32 b, .int .u8 m]] w fun e w' => e = .returned (.int .i64 (cmpP a n b m)) ∧ Below w.heap.size w w'
  generalize cmpP a n b m = r at *
  go_enter Tryd.func37, Tryd.ntmps37
  go_wp2
  all_goals
    go_ret
    refine ⟨?_, ((Below.refl _ _).alloc (Nat.le_refl _) _).alloc (by rw [World.size_alloc]; omega) _⟩
    first
      | (rw [show r = 0 from by rw [hr.out, if_pos (by omega)]]; rfl)
      | (rw [show r = -1 from by rw [hr.out, if_neg (by omega), if_pos (by omega)]]; rfl)
      | (rw [show r = 1 from by rw [hr.out, if_neg (by omega), if_neg (by omega)]]; rfl)
end Go.Proofs.YtljmmpjcagchmaaDoor
