/-
  prefix.Text and the reference's, walked.
-/
import Derived.Test.YtljmmpjcagchmaaDoorPfx6
namespace Go.Proofs.YtljmmpjcagchmaaDoor
set_option linter.unusedVariables false
open Go.RowKit

/-- The text of a prefix. -/
def textL (a n : Nat) : List UInt8 := if isP a n then dotL a ++ 47 :: Lib.decDigits n else []
theorem textL_yes {a n : Nat} (h : isP a n = true) : textL a n = dotL a ++ 47 :: Lib.decDigits n := by unfold textL; rw [if_pos h]
theorem textL_no {a n : Nat} (h : isP a n = false) : textL a n = [] := by unfold textL; rw [if_neg (by simp [h])]
theorem isP_le {a n : Nat} (h : isP a n = true) : n ≤ 32 := by unfold isP at h; simp only [Bool.and_eq_true, decide_eq_true_eq] at h; exact h.1

set_option maxRecDepth 100000 in
set_option maxHeartbeats 2000000 in
theorem text_any (p : Pf) (w : World) (hp : p.ok) (hE : Env w) :
    Calls Tryd.prog 20 #[p.v] w fun e w' => e = .returned (str (textL p.a p.n)) ∧ Below w.heap.size w w' := by
  obtain ⟨a, n⟩ := p
  show Calls Tryd.prog 20 #[.agg #[.int .u32 a, .int .u8 n]] w fun e w' => e = .returned (str (textL a n)) ∧ Below w.heap.size w w'
  have HE := Lib.hid hE
  clear hE
  have HC0 : Hid (∀ W : World, Calls Tryd.prog 31 #[.agg #[.int .u32 a, .int .u8 n]] W fun e w' => e = .returned (if isP a n then (.int .i64 0) else (.int .i64 12)) ∧ Below W.heap.size W w') := (fun W => (check_any ⟨a, n⟩ W hp).mono fun e w' ⟨h1, h2⟩ => ⟨by rw [h1]; cases isP a n <;> rfl, h2⟩)
  have HD : Hid (∀ W : World, Env W → Calls Tryd.prog 18 #[.int .u32 a] W fun e w' => e = .returned (str (dotL a)) ∧ Below W.heap.size W w') := (fun W => dotted_any a W hp.a)
  have hn := hp.n
  simp only at hn
  have HI : Hid (∀ W : World, Env W → Calls Tryd.prog 43 #[.int .i64 n] W fun e w' => e = .returned (str (Lib.decDigits n)) ∧ Below W.heap.size W w') := (fun W => itoa_any n hn W)
  clear hp
  cases hz : isP a n
  · have hr : Hid (textL a n = []) := textL_no hz
    have HC : Hid (∀ W : World, Calls Tryd.prog 31 #[.agg #[.int .u32 a, .int .u8 n]] W fun e w' => e = .returned (.int .i64 12) ∧ Below W.heap.size W w') := by rw [hz] at HC0; exact HC0
    clear HC0
    go_enter Tryd.func20, Tryd.ntmps20
    go_wp2_with fail
    refine (HC.out _).mono ?_
    rintro e w1 ⟨rfl, hb⟩
    have HB := Lib.hid hb
    clear hb
    go_wp2_with fail
    go_ret
    exact ⟨by rw [hr.out]; rfl, below_lit (Below.refl _ _) _ HB.out⟩
  · have hr : Hid (textL a n = dotL a ++ 47 :: Lib.decDigits n) := textL_yes hz
    have HC : Hid (∀ W : World, Calls Tryd.prog 31 #[.agg #[.int .u32 a, .int .u8 n]] W fun e w' => e = .returned (.int .i64 0) ∧ Below W.heap.size W w') := by rw [hz] at HC0; exact HC0
    clear HC0
    have hl1 : ¬ (9223372036854775807 < (dotL a).length + 1) := by have := dotTo_le a 4; unfold dotL; omega
    have hl2 : ¬ (9223372036854775807 < (dotL a).length + 1 + (Lib.decDigits n).length) := by have := dotTo_le a 4; have := (dig_len hn).2; unfold dotL; omega
    have hl3 : ¬ (9223372036854775807 < (dotL a).length + (1 + (Lib.decDigits n).length)) := by have := dotTo_le a 4; have := (dig_len hn).2; unfold dotL; omega
    have ha3 := str_add (dotL a) [47]
    have ha4 := str_add (dotL a ++ [47]) (Lib.decDigits n)
    have hw6 : IntKind.i64.wrap (n : Int) = (n : Int) := IntWalk.i64_in _ (by omega)
    go_enter Tryd.func20, Tryd.ntmps20
    go_wp2_with fail
    have HS00 : Hid (S2 w.heap.size (.int .u32 a) (.int .u8 n) (w.alloc (.cells #[.int .u32 a, .int .u8 n] 31))) := Blk.new _ _ _
    have HB00 : Hid (Below w.heap.size w (w.alloc (.cells #[.int .u32 a, .int .u8 n] 31))) := ((Below.refl _ _).alloc (Nat.le_refl _) _)
    refine (HC.out _).mono ?_
    rintro e w1 ⟨rfl, hb⟩
    have HS0 : Hid (S2 w.heap.size (.int .u32 a) (.int .u8 n) w1.drew) := (HS00.out.later hb).drewN 1
    have HB0 := Lib.hid ((below_then HB00.out hb).drew)
    clear hb HS00 HB00
    go_wp2_with fail
    refine wp_region_s (S2 w.heap.size (.int .u32 a) (.int .u8 n)) [(0, true), (4, true), (1, true), (5, true), (6, true), (2, false), (3, true), (7, false), (8, true), (9, true)] (by kernel_rfl) (fun _ d _ _ _ h => by cases d <;> exact h) ?_
    simp only [List.map_cons, List.map_nil, nthOp_zero, nthOp_succ]
    generalize w1.drew = w0 at *
    refine wpS_take HS0 (by kernel_rfl) (by intro W hW; have q0 := hW.cell 0; have q1 := hW.cell 1; clear hW; simp only [List.getElem?_toArray, List.getElem?_cons_zero, List.getElem?_cons_succ] at q0 q1; go_simp; try with_reducible rfl) ?_
    refine wpS_take HS0 (by kernel_rfl) (by intro W hW; have q0 := hW.cell 0; have q1 := hW.cell 1; clear hW; simp only [List.getElem?_toArray, List.getElem?_cons_zero, List.getElem?_cons_succ] at q0 q1; go_simp; try with_reducible rfl) ?_
    refine wpS_take HS0 (by kernel_rfl) (by intro W hW; have q0 := hW.cell 0; have q1 := hW.cell 1; clear hW; simp only [List.getElem?_toArray, List.getElem?_cons_zero, List.getElem?_cons_succ] at q0 q1; go_simp; try with_reducible rfl) ?_
    refine wpS_take HS0 (by kernel_rfl) (by intro W hW; have q0 := hW.cell 0; have q1 := hW.cell 1; clear hW; simp only [List.getElem?_toArray, List.getElem?_cons_zero, List.getElem?_cons_succ] at q0 q1; go_simp; try with_reducible rfl) ?_
    refine wpS_take HS0 (by kernel_rfl) (by intro W hW; have q0 := hW.cell 0; have q1 := hW.cell 1; clear hW; simp only [List.getElem?_toArray, List.getElem?_cons_zero, List.getElem?_cons_succ] at q0 q1; go_simp; try with_reducible rfl) ?_
    try go_simp
    refine wpS_do fun K1 hK1 => ?_
    go_wp2_with fail
    refine (HD.out _ (HE.out.later HB0.out)).mono ?_
    rintro e w2 ⟨rfl, hb1⟩
    have HS2 : Hid (S2 w.heap.size (.int .u32 a) (.int .u8 n) w2) := HS0.out.later hb1
    have HB2 := Lib.hid (below_then HB0.out hb1)
    clear hb1 HS0 HB0
    go_wp2_with fail
    refine hK1.out _ _ HS2.out ?_
    clear hK1 K1
    refine wpS_take HS2 (by kernel_rfl) (by intro W hW; clear hW; go_simp; try with_reducible rfl) ?_
    try go_simp
    refine wpS_do fun K1 hK1 => ?_
    go_wp2_with fail
    refine (HI.out _ (HE.out.later HB2.out)).mono ?_
    rintro e w3 ⟨rfl, hb1⟩
    have HS3 : Hid (S2 w.heap.size (.int .u32 a) (.int .u8 n) w3) := HS2.out.later hb1
    have HB3 := Lib.hid (below_then HB2.out hb1)
    clear hb1 HS2 HB2
    go_wp2_with fail
    refine hK1.out _ _ HS3.out ?_
    clear hK1 K1
    refine wpS_take HS3 (by kernel_rfl) (by intro W hW; clear hW; go_simp; try with_reducible rfl) ?_
    refine wpS_take HS3 (by kernel_rfl) (by intro W hW; clear hW; go_simp; try with_reducible rfl) ?_
    refine wpS_nil ?_
    go_wp2
    try go_simp
    go_ret
    exact ⟨by rw [hr.out]; rfl, HB3.out⟩

set_option maxRecDepth 100000 in
set_option maxHeartbeats 2000000 in
theorem refText_any (p : Pf) (w : World) (hp : p.ok) (hE : Env w) :
    Calls Tryd.prog 21 #[p.v] w fun e w' => e = .returned (str (textL p.a p.n)) ∧ Below w.heap.size w w' := by
  obtain ⟨a, n⟩ := p
  show Calls Tryd.prog 21 #[.agg #[.int .u32 a, .int .u8 n]] w fun e w' => e = .returned (str (textL a n)) ∧ Below w.heap.size w w'
  have HE := Lib.hid hE
  clear hE
  have HC0 : Hid (∀ W : World, Calls Tryd.prog 32 #[.agg #[.int .u32 a, .int .u8 n]] W fun e w' => e = .returned (if isP a n then (.bool true) else (.bool false)) ∧ Below W.heap.size W w') := (fun W => (refIs_any ⟨a, n⟩ W hp).mono fun e w' ⟨h1, h2⟩ => ⟨by rw [h1]; cases isP a n <;> rfl, h2⟩)
  have HD : Hid (∀ W : World, Env W → Calls Tryd.prog 19 #[.int .u32 a] W fun e w' => e = .returned (str (dotL a)) ∧ Below W.heap.size W w') := (fun W => refDotted_any a W hp.a)
  have hn := hp.n
  simp only at hn
  have HI : Hid (∀ W : World, Env W → Calls Tryd.prog 43 #[.int .i64 n] W fun e w' => e = .returned (str (Lib.decDigits n)) ∧ Below W.heap.size W w') := (fun W => itoa_any n hn W)
  clear hp
  cases hz : isP a n
  · have hr : Hid (textL a n = []) := textL_no hz
    have HC : Hid (∀ W : World, Calls Tryd.prog 32 #[.agg #[.int .u32 a, .int .u8 n]] W fun e w' => e = .returned (.bool false) ∧ Below W.heap.size W w') := by rw [hz] at HC0; exact HC0
    clear HC0
    go_enter Tryd.func21, Tryd.ntmps21
    go_wp2_with fail
    refine (HC.out _).mono ?_
    rintro e w1 ⟨rfl, hb⟩
    have HB := Lib.hid hb
    clear hb
    go_wp2_with fail
    go_ret
    exact ⟨by rw [hr.out]; rfl, below_lit (Below.refl _ _) _ HB.out⟩
  · have hr : Hid (textL a n = dotL a ++ 47 :: Lib.decDigits n) := textL_yes hz
    have HC : Hid (∀ W : World, Calls Tryd.prog 32 #[.agg #[.int .u32 a, .int .u8 n]] W fun e w' => e = .returned (.bool true) ∧ Below W.heap.size W w') := by rw [hz] at HC0; exact HC0
    clear HC0
    have hl1 : ¬ (9223372036854775807 < (dotL a).length + 1) := by have := dotTo_le a 4; unfold dotL; omega
    have hl2 : ¬ (9223372036854775807 < (dotL a).length + 1 + (Lib.decDigits n).length) := by have := dotTo_le a 4; have := (dig_len hn).2; unfold dotL; omega
    have hl3 : ¬ (9223372036854775807 < (dotL a).length + (1 + (Lib.decDigits n).length)) := by have := dotTo_le a 4; have := (dig_len hn).2; unfold dotL; omega
    have ha3 := str_add (dotL a) [47]
    have ha4 := str_add (dotL a ++ [47]) (Lib.decDigits n)
    have hw6 : IntKind.i64.wrap (n : Int) = (n : Int) := IntWalk.i64_in _ (by omega)
    go_enter Tryd.func21, Tryd.ntmps21
    go_wp2_with fail
    have HS00 : Hid (S2 w.heap.size (.int .u32 a) (.int .u8 n) (w.alloc (.cells #[.int .u32 a, .int .u8 n] 31))) := Blk.new _ _ _
    have HB00 : Hid (Below w.heap.size w (w.alloc (.cells #[.int .u32 a, .int .u8 n] 31))) := ((Below.refl _ _).alloc (Nat.le_refl _) _)
    refine (HC.out _).mono ?_
    rintro e w1 ⟨rfl, hb⟩
    have HS0 : Hid (S2 w.heap.size (.int .u32 a) (.int .u8 n) w1.drew) := (HS00.out.later hb).drewN 1
    have HB0 := Lib.hid ((below_then HB00.out hb).drew)
    clear hb HS00 HB00
    go_wp2_with fail
    refine wp_region_s (S2 w.heap.size (.int .u32 a) (.int .u8 n)) [(0, true), (4, true), (1, true), (5, true), (6, true), (2, false), (3, true), (7, false), (8, true), (9, true)] (by kernel_rfl) (fun _ d _ _ _ h => by cases d <;> exact h) ?_
    simp only [List.map_cons, List.map_nil, nthOp_zero, nthOp_succ]
    generalize w1.drew = w0 at *
    refine wpS_take HS0 (by kernel_rfl) (by intro W hW; have q0 := hW.cell 0; have q1 := hW.cell 1; clear hW; simp only [List.getElem?_toArray, List.getElem?_cons_zero, List.getElem?_cons_succ] at q0 q1; go_simp; try with_reducible rfl) ?_
    refine wpS_take HS0 (by kernel_rfl) (by intro W hW; have q0 := hW.cell 0; have q1 := hW.cell 1; clear hW; simp only [List.getElem?_toArray, List.getElem?_cons_zero, List.getElem?_cons_succ] at q0 q1; go_simp; try with_reducible rfl) ?_
    refine wpS_take HS0 (by kernel_rfl) (by intro W hW; have q0 := hW.cell 0; have q1 := hW.cell 1; clear hW; simp only [List.getElem?_toArray, List.getElem?_cons_zero, List.getElem?_cons_succ] at q0 q1; go_simp; try with_reducible rfl) ?_
    refine wpS_take HS0 (by kernel_rfl) (by intro W hW; have q0 := hW.cell 0; have q1 := hW.cell 1; clear hW; simp only [List.getElem?_toArray, List.getElem?_cons_zero, List.getElem?_cons_succ] at q0 q1; go_simp; try with_reducible rfl) ?_
    refine wpS_take HS0 (by kernel_rfl) (by intro W hW; have q0 := hW.cell 0; have q1 := hW.cell 1; clear hW; simp only [List.getElem?_toArray, List.getElem?_cons_zero, List.getElem?_cons_succ] at q0 q1; go_simp; try with_reducible rfl) ?_
    try go_simp
    refine wpS_do fun K1 hK1 => ?_
    go_wp2_with fail
    refine (HD.out _ (HE.out.later HB0.out)).mono ?_
    rintro e w2 ⟨rfl, hb1⟩
    have HS2 : Hid (S2 w.heap.size (.int .u32 a) (.int .u8 n) w2) := HS0.out.later hb1
    have HB2 := Lib.hid (below_then HB0.out hb1)
    clear hb1 HS0 HB0
    go_wp2_with fail
    refine hK1.out _ _ HS2.out ?_
    clear hK1 K1
    refine wpS_take HS2 (by kernel_rfl) (by intro W hW; clear hW; go_simp; try with_reducible rfl) ?_
    try go_simp
    refine wpS_do fun K1 hK1 => ?_
    go_wp2_with fail
    refine (HI.out _ (HE.out.later HB2.out)).mono ?_
    rintro e w3 ⟨rfl, hb1⟩
    have HS3 : Hid (S2 w.heap.size (.int .u32 a) (.int .u8 n) w3) := HS2.out.later hb1
    have HB3 := Lib.hid (below_then HB2.out hb1)
    clear hb1 HS2 HB2
    go_wp2_with fail
    refine hK1.out _ _ HS3.out ?_
    clear hK1 K1
    refine wpS_take HS3 (by kernel_rfl) (by intro W hW; clear hW; go_simp; try with_reducible rfl) ?_
    refine wpS_take HS3 (by kernel_rfl) (by intro W hW; clear hW; go_simp; try with_reducible rfl) ?_
    refine wpS_nil ?_
    go_wp2
    try go_simp
    go_ret
    exact ⟨by rw [hr.out]; rfl, HB3.out⟩
end Go.Proofs.YtljmmpjcagchmaaDoor
