/-
  The law's small known run, walked.
-/
import Derived.Test.YtljmmpjcagchmaaDoorPfxEq2
import Derived.Test.YtljmmpjcagchmaaDoorPfx15
namespace Go.Proofs.YtljmmpjcagchmaaDoor
set_option linter.unusedVariables false
open Go.RowKit

theorem dig_10 : Lib.decDigits 10 = [49, 48] := by rw [Lib.decDigits_two (by decide) (by decide)]; decide
theorem dig_16 : Lib.decDigits 16 = [49, 54] := by rw [Lib.decDigits_two (by decide) (by decide)]; decide
theorem dig_0 : Lib.decDigits 0 = [48] := by rw [Lib.decDigits_one (by decide)]; decide
theorem dig_1 : Lib.decDigits 1 = [49] := by rw [Lib.decDigits_one (by decide)]; decide
theorem dig_8 : Lib.decDigits 8 = [56] := by rw [Lib.decDigits_one (by decide)]; decide
theorem text_p : textL 167772160 8 = [49, 48, 46, 48, 46, 48, 46, 48, 47, 56] := by
  rw [textL_yes (by decide), dotL_eq, show part 167772160 0 = 10 by decide, show part 167772160 1 = 0 by decide, show part 167772160 2 = 0 by decide, show part 167772160 3 = 0 by decide, dig_10, dig_0, dig_8]
  rfl
theorem text_q : textL 167837696 16 = [49, 48, 46, 49, 46, 48, 46, 48, 47, 49, 54] := by
  rw [textL_yes (by decide), dotL_eq, show part 167837696 0 = 10 by decide, show part 167837696 1 = 1 by decide, show part 167837696 2 = 0 by decide, show part 167837696 3 = 0 by decide, dig_10, dig_0, dig_1, dig_16]
  rfl
theorem text_r : dotL 167772161 ++ 47 :: Lib.decDigits 8 = [49, 48, 46, 48, 46, 48, 46, 49, 47, 56] := by
  rw [dotL_eq, show part 167772161 0 = 10 by decide, show part 167772161 1 = 0 by decide, show part 167772161 2 = 0 by decide, show part 167772161 3 = 1 by decide, dig_10, dig_0, dig_1, dig_8]
  rfl
theorem parse_p : parseP [49, 48, 46, 48, 46, 48, 46, 48, 47, 56] = (⟨167772160, 8⟩, 0) := by
  rw [← text_p]; exact parse_text (by decide) (by decide)
theorem parse_r : parseP [49, 48, 46, 48, 46, 48, 46, 49, 47, 56] = (⟨0, 0⟩, 12) := by
  rw [← text_r]
  have hx := dotL_no47 167772161
  rw [parse_good (a := 167772161) (n := 8) (by rw [take_app hx]; exact adP_dotL (by decide)) (cutL_ne hx) (by rw [drop_app hx]; exact atoi_dig (by decide)) (by decide) (by rw [drop_app hx])]
  decide
theorem mk_q : mk 167838211 16 = (⟨167837696, 16⟩, 0) := by decide
theorem best_pq : bestTo [⟨167772160, 8⟩, ⟨167837696, 16⟩] 167838211 2 = some 1 := by decide
abbrev pV : Array Value := #[.int .u32 167772160, .int .u8 8]
abbrev qV : Array Value := #[.int .u32 167837696, .int .u8 16]
structure PQ (g1 g2 : Nat) (W : World) : Prop where
  p : Blk W g1 31 pV
  q : Blk W g2 31 qV
theorem PQ.later {g1 g2 : Nat} {W W' : World} (h : PQ g1 g2 W) (hb : Below W.heap.size W W') : PQ g1 g2 W' := ⟨h.p.later hb, h.q.later hb⟩
theorem PQ.facts {g1 g2 : Nat} {W : World} (h : PQ g1 g2 W) : W.cell? ⟨g1, 0, none⟩ = some (.int .u32 167772160) ∧ W.cell? ⟨g1, 1, none⟩ = some (.int .u8 8) ∧ W.cell? ⟨g2, 0, none⟩ = some (.int .u32 167837696) ∧ W.cell? ⟨g2, 1, none⟩ = some (.int .u8 16) ∧
    (∀ o, (W.alloc o).cell? ⟨g2, 0, none⟩ = some (.int .u32 167837696)) ∧ (∀ o, (W.alloc o).cell? ⟨g2, 1, none⟩ = some (.int .u8 16)) :=
  ⟨h.p.cell 0, h.p.cell 1, h.q.cell 0, h.q.cell 1, fun o => (h.q.alloc o).cell 0, fun o => (h.q.alloc o).cell 1⟩

set_option maxRecDepth 100000 in
set_option maxHeartbeats 4000000 in
theorem lives_any (w : World) (hE : Env w) : Calls Tryd.prog 7 #[] w fun e w' => e = .returned (.bool true) ∧ Below w.heap.size w w' := by
  have HE := Lib.hid hE
  clear hE
  have H1 : Hid (∀ W : World, Env W → Calls Tryd.prog 16 #[.string { data := #[49, 48, 46, 48, 46, 48, 46, 48, 47, 56] }] W fun e w' => e = .returned (.tuple #[.agg #[.int .u32 167772160, .int .u8 8], .int .i64 0]) ∧ Below W.heap.size W w') := fun W h => by
    have := parse_any W { data := #[49, 48, 46, 48, 46, 48, 46, 48, 47, 56] } (by decide) h
    rw [show bytesOf { data := #[49, 48, 46, 48, 46, 48, 46, 48, 47, 56] } = [49, 48, 46, 48, 46, 48, 46, 48, 47, 56] from rfl, parse_p] at this
    exact this
  have H3 : Hid (∀ W : World, Env W → Calls Tryd.prog 16 #[.string { data := #[49, 48, 46, 48, 46, 48, 46, 49, 47, 56] }] W fun e w' => e = .returned (.tuple #[.agg #[.int .u32 0, .int .u8 0], .int .i64 12]) ∧ Below W.heap.size W w') := fun W h => by
    have := parse_any W { data := #[49, 48, 46, 48, 46, 48, 46, 49, 47, 56] } (by decide) h
    rw [show bytesOf { data := #[49, 48, 46, 48, 46, 48, 46, 49, 47, 56] } = [49, 48, 46, 48, 46, 48, 46, 49, 47, 56] from rfl, parse_r] at this
    exact this
  have H2 : Hid (∀ W : World, Calls Tryd.prog 22 #[.int .u32 167838211, .int .u8 16] W fun e w' => e = .returned (.tuple #[.agg #[.int .u32 167837696, .int .u8 16], .int .i64 0]) ∧ Below W.heap.size W w') := fun W => by
    have := make_any 167838211 16 W (by decide) (by decide)
    rw [mk_q] at this
    exact this
  have H4 : Hid (∀ W : World, Env W → Calls Tryd.prog 20 #[.agg #[.int .u32 167837696, .int .u8 16]] W fun e w' => e = .returned (.string { data := #[49, 48, 46, 49, 46, 48, 46, 48, 47, 49, 54] }) ∧ Below W.heap.size W w') := fun W h => by
    have := text_any ⟨167837696, 16⟩ W ⟨by decide, by decide⟩ h
    simp only at this
    rw [text_q] at this
    exact this
  have H5 : Hid (∀ W : World, Calls Tryd.prog 24 #[.agg #[.int .u32 167772160, .int .u8 8], .agg #[.int .u32 167837696, .int .u8 16]] W fun e w' => e = .returned (.bool true) ∧ Below W.heap.size W w') := fun W => by
    have := covers_any ⟨167772160, 8⟩ ⟨167837696, 16⟩ W ⟨by decide, by decide⟩ ⟨by decide, by decide⟩
    rw [show covP _ _ _ _ = true by decide] at this
    exact this
  have H6 : Hid (∀ W : World, Calls Tryd.prog 24 #[.agg #[.int .u32 167837696, .int .u8 16], .agg #[.int .u32 167772160, .int .u8 8]] W fun e w' => e = .returned (.bool false) ∧ Below W.heap.size W w') := fun W => by
    have := covers_any ⟨167837696, 16⟩ ⟨167772160, 8⟩ W ⟨by decide, by decide⟩ ⟨by decide, by decide⟩
    rw [show covP _ _ _ _ = false by decide] at this
    exact this
  have H7 : Hid (∀ W : World, Calls Tryd.prog 9 #[.slice (some ⟨W.heap.size, 0, none⟩) 2 2, .int .u32 167838211] (W.alloc (.cells #[.int .u32 167772160, .int .u8 8, .int .u32 167837696, .int .u8 16] 31)) fun e w' => e = .returned (.int .i64 1) ∧ Below W.heap.size W w') := fun W => by
    have hk : Blk (W.alloc (.cells #[.int .u32 167772160, .int .u8 8, .int .u32 167837696, .int .u8 16] 31)) W.heap.size 31 #[.int .u32 167772160, .int .u8 8, .int .u32 167837696, .int .u8 16] := Blk.new _ _ _
    have hP : Pfs (W.alloc (.cells #[.int .u32 167772160, .int .u8 8, .int .u32 167837696, .int .u8 16] 31)) (some ⟨W.heap.size, 0, none⟩) 2 [⟨167772160, 8⟩, ⟨167837696, 16⟩] := by
      refine ⟨⟨rfl, fun _ => ⟨_, rfl, by rw [World.size_alloc]; exact Nat.lt_succ_self _, fun j u hu => ?_⟩⟩, rfl, fun p hp => ?_⟩
      · rw [add_none, Nat.zero_add, hk.cell]
        simpa [Pf.cells] using hu
      · simp only [List.mem_cons, List.not_mem_nil, or_false] at hp
        rcases hp with rfl | rfl <;> exact ⟨by decide, by decide⟩
    have := best_any _ 2 2 _ 167838211 _ hP (by decide) (by decide)
    rw [best_pq] at this
    exact this.mono fun e w' ⟨h1, h2⟩ => ⟨h1, ((Below.refl _ _).alloc (Nat.le_refl _) _).trans (h2.mono (by rw [World.size_alloc]; omega))⟩
  go_enter Tryd.func7, Tryd.ntmps7
  go_wp2_with fail
  refine (H1.out _ HE.out).mono ?_
  rintro e w1 ⟨rfl, hb1⟩
  have HB1 := Lib.hid hb1
  clear hb1
  go_wp2_with fail
  refine (H2.out _).mono ?_
  rintro e w2 ⟨rfl, hb2⟩
  have HP2 : Hid (Blk w2 w1.heap.size 31 pV) := (Blk.new w1 31 pV).later hb2
  have HB2 := Lib.hid (below_lit HB1.out _ hb2)
  have hlt1 : w1.heap.size < w2.heap.size := HP2.out.lt
  clear hb2 HB1
  go_wp2_with fail
  have HPQ : Hid (PQ w1.heap.size w2.heap.size (w2.alloc (.cells qV 31))) := ⟨HP2.out.alloc _, Blk.new _ _ _⟩
  refine (H3.out _ (HE.out.later (HB2.out.alloc HB2.out.size _))).mono ?_
  rintro e w3 ⟨rfl, hb3⟩
  have HPQ3 := Lib.hid (HPQ.out.later hb3)
  have HB3 := Lib.hid (below_lit HB2.out _ hb3)
  obtain ⟨c0, c1, c2, c3, c4, c5⟩ := HPQ3.out.facts
  clear hb3 HB2 HPQ HP2
  go_wp2_with fail
  have HPQ4 : Hid (PQ w1.heap.size w2.heap.size (w3.alloc (.cells #[.int .u32 0, .int .u8 0] 31))) := ⟨HPQ3.out.p.alloc _, HPQ3.out.q.alloc _⟩
  clear c0 c1 c2 c3 c4 c5
  refine (H4.out _ (HE.out.later (HB3.out.alloc HB3.out.size _))).mono ?_
  rintro e w4 ⟨rfl, hb4⟩
  have HPQ5 := Lib.hid (HPQ4.out.later hb4)
  have HB4 := Lib.hid (below_lit HB3.out _ hb4)
  obtain ⟨c0, c1, c2, c3, _, _⟩ := HPQ5.out.facts
  clear hb4 HB3 HPQ3 HPQ4
  go_wp2_with fail
  refine (H5.out _).mono ?_
  rintro e w5 ⟨rfl, hb5⟩
  have HPQ6 := Lib.hid (HPQ5.out.later hb5)
  have HB5 := Lib.hid (below_then HB4.out hb5)
  clear c0 c1 c2 c3
  obtain ⟨c0, c1, c2, c3, _, _⟩ := HPQ6.out.facts
  clear hb5 HB4 HPQ5
  go_wp2_with fail
  refine (H6.out _).mono ?_
  rintro e w6 ⟨rfl, hb6⟩
  have HPQ7 := Lib.hid (HPQ6.out.later hb6)
  have HB6 := Lib.hid (below_then HB5.out hb6)
  clear c0 c1 c2 c3
  obtain ⟨c0, c1, c2, c3, _, _⟩ := HPQ7.out.facts
  clear hb6 HB5 HPQ6
  go_wp2_with fail
  refine (H7.out _).mono ?_
  rintro e w7 ⟨rfl, hb7⟩
  have HB7 := Lib.hid (below_then HB6.out hb7)
  go_wp2_with fail
  go_ret
  exact ⟨rfl, HB7.out⟩
end Go.Proofs.YtljmmpjcagchmaaDoor
