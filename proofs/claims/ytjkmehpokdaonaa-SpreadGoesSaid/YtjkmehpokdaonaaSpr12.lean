/-
  SpreadGoes, walked.
-/
import Derived.Test.YtjkmehpokdaonaaSpr7
import Derived.Test.YtjkmehpokdaonaaSpr8
namespace Go.Proofs.Ytjkmehpokdaonaa
set_option linter.unusedVariables false
open Go.RowKit

theorem info_asked : (Try.prog.info? 60).map (·.size) = some 18 := by kernel_rfl
theorem info_head' : (Try.prog.info? 25).map (·.size) = some 8 := by kernel_rfl
/-- Three blocks that stand. -/
def Tri (g : Nat) (cs cs' cs'' : Array Value) (W : World) : Prop := Blk W g 60 cs ∧ Blk W (g + 1) 25 cs' ∧ Blk W (g + 1 + 1) 25 cs''
theorem Tri.later {g : Nat} {cs cs' cs'' : Array Value} {w w' : World} (h : Tri g cs cs' cs'' w) (hb : Below w.heap.size w w') : Tri g cs cs' cs'' w' := ⟨h.1.later hb, h.2.1.later hb, h.2.2.later hb⟩
theorem Tri.below {g : Nat} {cs cs' cs'' : Array Value} {a w w' : World} (h : Tri g cs cs' cs'' w) (HB : Below g a w) (hb : Below w.heap.size w w') : Below g a w' := HB.trans (hb.mono (Nat.le_of_lt h.1.lt))
theorem Tri.new (w : World) (cs cs' cs'' : Array Value) : Tri w.heap.size cs cs' cs'' (((w.alloc (.cells cs 60)).alloc (.cells cs' 25)).alloc (.cells cs'' 25)) := by
  refine ⟨((Blk.new _ _ _).alloc _).alloc _, ?_, ?_⟩
  · have : Blk ((w.alloc (.cells cs 60)).alloc (.cells cs' 25)) (w.heap.size + 1) 25 cs' := new_at _ _ _
    exact this.alloc _
  · have := Blk.new ((w.alloc (.cells cs 60)).alloc (.cells cs' 25)) 25 cs''
    rwa [World.size_alloc, World.size_alloc] at this
theorem below_three (w : World) (A B C : Obj) : Below w.heap.size w (((w.alloc A).alloc B).alloc C) := (below_two w A B).alloc (by rw [World.size_alloc, World.size_alloc]; omega) _
set_option maxRecDepth 100000 in
set_option maxHeartbeats 4000000 in
theorem spreadGoes_walk (a0 : Int) (g o : Hd) (q : Int) (h0 : 0 ≤ a0 ∧ a0 ≤ 255) (hg : g.ok) (ho : o.ok) (hq : 0 ≤ q ∧ q ≤ 65535) (w : World) : Calls Try.prog 7 #[.agg #[.int .u8 a0, .int .u16 g.age, .int .u8 g.opts, .int .u8 g.typ, .int .u32 g.id, .int .u32 g.adv, .int .i32 g.seq, .int .u16 g.sum, .int .u16 g.len, .int .u16 o.age, .int .u8 o.opts, .int .u8 o.typ, .int .u32 o.id, .int .u32 o.adv, .int .i32 o.seq, .int .u16 o.sum, .int .u16 o.len, .int .u16 q]] w fun e w' => e = .returned (.bool true) ∧ Below w.heap.size w w' := by
  have Hg := Lib.hid hg
  have Ho := Lib.hid ho
  have H0 := Lib.hid h0
  clear hg ho h0
  have hv : IntKind.u8.wrap (q / 256) = q / 256 := IntWalk.u8_in _ (by omega)
  clear hq
  have HB0 : Hid (∀ W : World, Calls Try.prog 24 #[.agg (askC a0 g o q), .int .u16 0] W fun e w' => e = .returned (.bool (bitOf q 0)) ∧ Below W.heap.size W w') := fun W => bit_any a0 g o q 0 W (by decide) (by decide)
  have HB1 : Hid (∀ W : World, Calls Try.prog 24 #[.agg (askC a0 g o q), .int .u16 1] W fun e w' => e = .returned (.bool (bitOf q 1)) ∧ Below W.heap.size W w') := fun W => bit_any a0 g o q 1 W (by decide) (by decide)
  have HB2 : Hid (∀ W : World, Calls Try.prog 24 #[.agg (askC a0 g o q), .int .u16 2] W fun e w' => e = .returned (.bool (bitOf q 2)) ∧ Below W.heap.size W w') := fun W => bit_any a0 g o q 2 W (by decide) (by decide)
  have HB3 : Hid (∀ W : World, Calls Try.prog 24 #[.agg (askC a0 g o q), .int .u16 3] W fun e w' => e = .returned (.bool (bitOf q 3)) ∧ Below W.heap.size W w') := fun W => bit_any a0 g o q 3 W (by decide) (by decide)
  have HB4 : Hid (∀ W : World, Calls Try.prog 24 #[.agg (askC a0 g o q), .int .u16 4] W fun e w' => e = .returned (.bool (bitOf q 4)) ∧ Below W.heap.size W w') := fun W => bit_any a0 g o q 4 W (by decide) (by decide)
  have HB5 : Hid (∀ W : World, Calls Try.prog 24 #[.agg (askC a0 g o q), .int .u16 5] W fun e w' => e = .returned (.bool (bitOf q 5)) ∧ Below W.heap.size W w') := fun W => bit_any a0 g o q 5 W (by decide) (by decide)
  have HB6 : Hid (∀ W : World, Calls Try.prog 24 #[.agg (askC a0 g o q), .int .u16 6] W fun e w' => e = .returned (.bool (bitOf q 6)) ∧ Below W.heap.size W w') := fun W => bit_any a0 g o q 6 W (by decide) (by decide)
  have HB7 : Hid (∀ W : World, Calls Try.prog 24 #[.agg (askC a0 g o q), .int .u16 7] W fun e w' => e = .returned (.bool (bitOf q 7)) ∧ Below W.heap.size W w') := fun W => bit_any a0 g o q 7 W (by decide) (by decide)
  have HG1 : Hid (∀ W : World, Calls Try.prog 23 #[.int .u8 a0, .bool (bitOf q 0), g.v, o.v, .bool (bitOf q 1)] W fun e w' => e = .returned (.tuple #[.bool (goesOf a0 (bitOf q 0) (newerOf g o) (bitOf q 1)).1, .bool (goesOf a0 (bitOf q 0) (newerOf g o) (bitOf q 1)).2]) ∧ Below W.heap.size W w') := fun W => goes_any g o a0 (bitOf q 0) (bitOf q 1) W Hg.out Ho.out
  have HG2 : Hid (∀ W : World, Calls Try.prog 25 #[.int .u8 a0, .bool (bitOf q 0), g.v, o.v, .bool (bitOf q 1)] W fun e w' => e = .returned (.tuple #[.bool (goesOf a0 (bitOf q 0) (newerOf g o) (bitOf q 1)).1, .bool (goesOf a0 (bitOf q 0) (newerOf g o) (bitOf q 1)).2]) ∧ Below W.heap.size W w') := fun W => refGoes_any g o a0 (bitOf q 0) (bitOf q 1) W Hg.out Ho.out H0.out
  have HO1 : Hid (∀ W : World, Calls Try.prog 26 #[.bool (bitOf q 2), .bool (bitOf q 3), .bool (bitOf q 4), .bool (bitOf q 5), .bool (bitOf q 6), .bool (bitOf q 7)] W fun e w' => e = .returned (.bool (outOf (bitOf q 2) (bitOf q 4) (bitOf q 5) (bitOf q 6) (bitOf q 7))) ∧ W = w') := fun W => out_any W _ _ _ _ _ _
  have HO2 : Hid (∀ W : World, Calls Try.prog 27 #[.bool (bitOf q 2), .bool (bitOf q 3), .bool (bitOf q 4), .bool (bitOf q 5), .bool (bitOf q 6), .bool (bitOf q 7)] W fun e w' => e = .returned (.bool (outOf (bitOf q 2) (bitOf q 4) (bitOf q 5) (bitOf q 6) (bitOf q 7))) ∧ W = w') := fun W => refOut_any W _ _ _ _ _ _
  have HC1 : Hid (∀ W : World, Calls Try.prog 28 #[.int .u8 (q / 256), .bool (bitOf q 0), .bool (bitOf q 1), .bool (bitOf q 2), .bool (bitOf q 3)] W fun e w' => e = .returned (.int .u8 (confOf (q / 256) (bitOf q 0) (bitOf q 1) (bitOf q 2) (bitOf q 3))) ∧ W = w') := fun W => confirms_any W _ _ _ _ _
  have HC2 : Hid (∀ W : World, Calls Try.prog 29 #[.int .u8 (q / 256), .bool (bitOf q 0), .bool (bitOf q 1), .bool (bitOf q 2), .bool (bitOf q 3)] W fun e w' => e = .returned (.int .u8 (confOf (q / 256) (bitOf q 0) (bitOf q 1) (bitOf q 2) (bitOf q 3))) ∧ W = w') := fun W => refConfirms_any W _ _ _ _ _
  generalize goesOf a0 (bitOf q 0) (newerOf g o) (bitOf q 1) = rg at *
  generalize outOf (bitOf q 2) (bitOf q 4) (bitOf q 5) (bitOf q 6) (bitOf q 7) = ro at *
  generalize confOf (q / 256) (bitOf q 0) (bitOf q 1) (bitOf q 2) (bitOf q 3) = rc at *
  obtain ⟨r1, r2⟩ := rg
  simp only at HG1 HG2
  generalize bitOf q 0 = z0 at *
  generalize bitOf q 1 = z1 at *
  generalize bitOf q 2 = z2 at *
  generalize bitOf q 3 = z3 at *
  generalize bitOf q 4 = z4 at *
  generalize bitOf q 5 = z5 at *
  generalize bitOf q 6 = z6 at *
  generalize bitOf q 7 = z7 at *
  clear Hg Ho H0
  go_enter Try.func7, Try.ntmps7
  go_wp2
  have F0 : Hid (Tri w.heap.size #[.int .u8 a0, .int .u16 g.age, .int .u8 g.opts, .int .u8 g.typ, .int .u32 g.id, .int .u32 g.adv, .int .i32 g.seq, .int .u16 g.sum, .int .u16 g.len, .int .u16 o.age, .int .u8 o.opts, .int .u8 o.typ, .int .u32 o.id, .int .u32 o.adv, .int .i32 o.seq, .int .u16 o.sum, .int .u16 o.len, .int .u16 q] #[.int .u16 g.age, .int .u8 g.opts, .int .u8 g.typ, .int .u32 g.id, .int .u32 g.adv, .int .i32 g.seq, .int .u16 g.sum, .int .u16 g.len] #[.int .u16 o.age, .int .u8 o.opts, .int .u8 o.typ, .int .u32 o.id, .int .u32 o.adv, .int .i32 o.seq, .int .u16 o.sum, .int .u16 o.len] (((w.alloc (.cells #[.int .u8 a0, .int .u16 g.age, .int .u8 g.opts, .int .u8 g.typ, .int .u32 g.id, .int .u32 g.adv, .int .i32 g.seq, .int .u16 g.sum, .int .u16 g.len, .int .u16 o.age, .int .u8 o.opts, .int .u8 o.typ, .int .u32 o.id, .int .u32 o.adv, .int .i32 o.seq, .int .u16 o.sum, .int .u16 o.len, .int .u16 q] 60)).alloc (.cells #[.int .u16 g.age, .int .u8 g.opts, .int .u8 g.typ, .int .u32 g.id, .int .u32 g.adv, .int .i32 g.seq, .int .u16 g.sum, .int .u16 g.len] 25)).alloc (.cells #[.int .u16 o.age, .int .u8 o.opts, .int .u8 o.typ, .int .u32 o.id, .int .u32 o.adv, .int .i32 o.seq, .int .u16 o.sum, .int .u16 o.len] 25)) ∧ Below w.heap.size w (((w.alloc (.cells #[.int .u8 a0, .int .u16 g.age, .int .u8 g.opts, .int .u8 g.typ, .int .u32 g.id, .int .u32 g.adv, .int .i32 g.seq, .int .u16 g.sum, .int .u16 g.len, .int .u16 o.age, .int .u8 o.opts, .int .u8 o.typ, .int .u32 o.id, .int .u32 o.adv, .int .i32 o.seq, .int .u16 o.sum, .int .u16 o.len, .int .u16 q] 60)).alloc (.cells #[.int .u16 g.age, .int .u8 g.opts, .int .u8 g.typ, .int .u32 g.id, .int .u32 g.adv, .int .i32 g.seq, .int .u16 g.sum, .int .u16 g.len] 25)).alloc (.cells #[.int .u16 o.age, .int .u8 o.opts, .int .u8 o.typ, .int .u32 o.id, .int .u32 o.adv, .int .i32 o.seq, .int .u16 o.sum, .int .u16 o.len] 25))) := ⟨Tri.new _ _ _ _, below_three _ _ _ _⟩
  generalize (((w.alloc (.cells #[.int .u8 a0, .int .u16 g.age, .int .u8 g.opts, .int .u8 g.typ, .int .u32 g.id, .int .u32 g.adv, .int .i32 g.seq, .int .u16 g.sum, .int .u16 g.len, .int .u16 o.age, .int .u8 o.opts, .int .u8 o.typ, .int .u32 o.id, .int .u32 o.adv, .int .i32 o.seq, .int .u16 o.sum, .int .u16 o.len, .int .u16 q] 60)).alloc (.cells #[.int .u16 g.age, .int .u8 g.opts, .int .u8 g.typ, .int .u32 g.id, .int .u32 g.adv, .int .i32 g.seq, .int .u16 g.sum, .int .u16 g.len] 25)).alloc (.cells #[.int .u16 o.age, .int .u8 o.opts, .int .u8 o.typ, .int .u32 o.id, .int .u32 o.adv, .int .i32 o.seq, .int .u16 o.sum, .int .u16 o.len] 25)) = w0 at *
  generalize hs0 : w.heap.size = g0 at *
  refine wp_region_s (Tri g0 #[.int .u8 a0, .int .u16 g.age, .int .u8 g.opts, .int .u8 g.typ, .int .u32 g.id, .int .u32 g.adv, .int .i32 g.seq, .int .u16 g.sum, .int .u16 g.len, .int .u16 o.age, .int .u8 o.opts, .int .u8 o.typ, .int .u32 o.id, .int .u32 o.adv, .int .i32 o.seq, .int .u16 o.sum, .int .u16 o.len, .int .u16 q] #[.int .u16 g.age, .int .u8 g.opts, .int .u8 g.typ, .int .u32 g.id, .int .u32 g.adv, .int .i32 g.seq, .int .u16 g.sum, .int .u16 g.len] #[.int .u16 o.age, .int .u8 o.opts, .int .u8 o.typ, .int .u32 o.id, .int .u32 o.adv, .int .i32 o.seq, .int .u16 o.sum, .int .u16 o.len]) [(0, true), (1, true), (3, true), (4, true), (5, true), (2, false), (6, false), (7, false), (8, true), (9, true), (10, true), (11, true), (12, true)] (by kernel_rfl) (fun _ d _ _ _ h => by cases d <;> exact h) ?_
  simp only [List.map_cons, List.map_nil, nthOp_zero, nthOp_succ]
  have HS1 : Hid (Tri g0 #[.int .u8 a0, .int .u16 g.age, .int .u8 g.opts, .int .u8 g.typ, .int .u32 g.id, .int .u32 g.adv, .int .i32 g.seq, .int .u16 g.sum, .int .u16 g.len, .int .u16 o.age, .int .u8 o.opts, .int .u8 o.typ, .int .u32 o.id, .int .u32 o.adv, .int .i32 o.seq, .int .u16 o.sum, .int .u16 o.len, .int .u16 q] #[.int .u16 g.age, .int .u8 g.opts, .int .u8 g.typ, .int .u32 g.id, .int .u32 g.adv, .int .i32 g.seq, .int .u16 g.sum, .int .u16 g.len] #[.int .u16 o.age, .int .u8 o.opts, .int .u8 o.typ, .int .u32 o.id, .int .u32 o.adv, .int .i32 o.seq, .int .u16 o.sum, .int .u16 o.len] w0.drew) := F0.out.1
  have HL1 : Hid (Below g0 w w0.drew) := F0.out.2.drew
  clear F0
  generalize w0.drew = w1 at *
  refine wpS_take HS1 (by rfl) (by intro W hW; go_simp; try with_reducible rfl) ?_
  refine wpS_take HS1 (by rfl) (fun W hW => exec_load_row rfl rfl hW.1 Try.underlying60 rfl info_asked) ?_
  refine wpS_take HS1 (by rfl) (fun W hW => exec_load_row rfl rfl hW.2.1 Try.underlying25 rfl info_head') ?_
  refine wpS_take HS1 (by rfl) (fun W hW => exec_load_row rfl rfl hW.2.2 Try.underlying25 rfl info_head') ?_
  refine wpS_take HS1 (by rfl) (fun W hW => exec_load_row rfl rfl hW.1 Try.underlying60 rfl info_asked) ?_
  refine wpS_do fun K hK => ?_
  go_wp2_with fail
  refine (HB0.out w1).mono ?_
  rintro e w2 ⟨rfl, hb⟩
  have HS2 := Lib.hid (HS1.out.later hb)
  have HL2 := Lib.hid (HS1.out.below HL1.out hb)
  clear hb HS1 HL1
  go_wp2
  refine hK.out _ _ HS2.out ?_
  clear hK K
  refine wpS_do fun K hK => ?_
  go_wp2_with fail
  refine (HB1.out w2).mono ?_
  rintro e w3 ⟨rfl, hb⟩
  have HS3 := Lib.hid (HS2.out.later hb)
  have HL3 := Lib.hid (HS2.out.below HL2.out hb)
  clear hb HS2 HL2
  go_wp2
  refine hK.out _ _ HS3.out ?_
  clear hK K
  refine wpS_do fun K hK => ?_
  go_wp2_with fail
  refine (HG1.out w3).mono ?_
  rintro e w4 ⟨rfl, hb⟩
  have HS4 := Lib.hid (HS3.out.later hb)
  have HL4 := Lib.hid (HS3.out.below HL3.out hb)
  clear hb HS3 HL3
  go_wp2
  refine hK.out _ _ HS4.out ?_
  clear hK K
  refine wpS_take HS4 (by rfl) (by intro W hW; go_simp; try with_reducible rfl) ?_
  refine wpS_take HS4 (by rfl) (by intro W hW; go_simp; try with_reducible rfl) ?_
  refine wpS_take HS4 (by rfl) (by intro W hW; go_simp; try with_reducible rfl) ?_
  refine wpS_take HS4 (by rfl) (by intro W hW; go_simp; try with_reducible rfl) ?_
  refine wpS_take HS4 (by rfl) (by intro W hW; go_simp; try with_reducible rfl) ?_
  refine wpS_nil ?_
  have F4 : Hid (Tri g0 #[.int .u8 a0, .int .u16 g.age, .int .u8 g.opts, .int .u8 g.typ, .int .u32 g.id, .int .u32 g.adv, .int .i32 g.seq, .int .u16 g.sum, .int .u16 g.len, .int .u16 o.age, .int .u8 o.opts, .int .u8 o.typ, .int .u32 o.id, .int .u32 o.adv, .int .i32 o.seq, .int .u16 o.sum, .int .u16 o.len, .int .u16 q] #[.int .u16 g.age, .int .u8 g.opts, .int .u8 g.typ, .int .u32 g.id, .int .u32 g.adv, .int .i32 g.seq, .int .u16 g.sum, .int .u16 g.len] #[.int .u16 o.age, .int .u8 o.opts, .int .u8 o.typ, .int .u32 o.id, .int .u32 o.adv, .int .i32 o.seq, .int .u16 o.sum, .int .u16 o.len] w4 ∧ Below g0 w w4) := ⟨HS4.out, HL4.out⟩
  clear HS4 HL4
  go_wp2
  try go_simp
  refine wp_region_s (Tri g0 #[.int .u8 a0, .int .u16 g.age, .int .u8 g.opts, .int .u8 g.typ, .int .u32 g.id, .int .u32 g.adv, .int .i32 g.seq, .int .u16 g.sum, .int .u16 g.len, .int .u16 o.age, .int .u8 o.opts, .int .u8 o.typ, .int .u32 o.id, .int .u32 o.adv, .int .i32 o.seq, .int .u16 o.sum, .int .u16 o.len, .int .u16 q] #[.int .u16 g.age, .int .u8 g.opts, .int .u8 g.typ, .int .u32 g.id, .int .u32 g.adv, .int .i32 g.seq, .int .u16 g.sum, .int .u16 g.len] #[.int .u16 o.age, .int .u8 o.opts, .int .u8 o.typ, .int .u32 o.id, .int .u32 o.adv, .int .i32 o.seq, .int .u16 o.sum, .int .u16 o.len]) [(0, true), (1, true), (3, true), (4, true), (5, true), (2, false), (6, false), (7, false), (8, true), (9, true), (10, true), (11, true), (12, true)] (by kernel_rfl) (fun _ d _ _ _ h => by cases d <;> exact h) ?_
  simp only [List.map_cons, List.map_nil, nthOp_zero, nthOp_succ]
  have HS5 : Hid (Tri g0 #[.int .u8 a0, .int .u16 g.age, .int .u8 g.opts, .int .u8 g.typ, .int .u32 g.id, .int .u32 g.adv, .int .i32 g.seq, .int .u16 g.sum, .int .u16 g.len, .int .u16 o.age, .int .u8 o.opts, .int .u8 o.typ, .int .u32 o.id, .int .u32 o.adv, .int .i32 o.seq, .int .u16 o.sum, .int .u16 o.len, .int .u16 q] #[.int .u16 g.age, .int .u8 g.opts, .int .u8 g.typ, .int .u32 g.id, .int .u32 g.adv, .int .i32 g.seq, .int .u16 g.sum, .int .u16 g.len] #[.int .u16 o.age, .int .u8 o.opts, .int .u8 o.typ, .int .u32 o.id, .int .u32 o.adv, .int .i32 o.seq, .int .u16 o.sum, .int .u16 o.len] w4.drew) := F4.out.1
  have HL5 : Hid (Below g0 w w4.drew) := F4.out.2.drew
  clear F4
  generalize w4.drew = w5 at *
  refine wpS_take HS5 (by rfl) (by intro W hW; go_simp; try with_reducible rfl) ?_
  refine wpS_take HS5 (by rfl) (fun W hW => exec_load_row rfl rfl hW.1 Try.underlying60 rfl info_asked) ?_
  refine wpS_take HS5 (by rfl) (fun W hW => exec_load_row rfl rfl hW.2.1 Try.underlying25 rfl info_head') ?_
  refine wpS_take HS5 (by rfl) (fun W hW => exec_load_row rfl rfl hW.2.2 Try.underlying25 rfl info_head') ?_
  refine wpS_take HS5 (by rfl) (fun W hW => exec_load_row rfl rfl hW.1 Try.underlying60 rfl info_asked) ?_
  refine wpS_do fun K hK => ?_
  go_wp2_with fail
  refine (HB0.out w5).mono ?_
  rintro e w6 ⟨rfl, hb⟩
  have HS6 := Lib.hid (HS5.out.later hb)
  have HL6 := Lib.hid (HS5.out.below HL5.out hb)
  clear hb HS5 HL5
  go_wp2
  refine hK.out _ _ HS6.out ?_
  clear hK K
  refine wpS_do fun K hK => ?_
  go_wp2_with fail
  refine (HB1.out w6).mono ?_
  rintro e w7 ⟨rfl, hb⟩
  have HS7 := Lib.hid (HS6.out.later hb)
  have HL7 := Lib.hid (HS6.out.below HL6.out hb)
  clear hb HS6 HL6
  go_wp2
  refine hK.out _ _ HS7.out ?_
  clear hK K
  refine wpS_do fun K hK => ?_
  go_wp2_with fail
  refine (HG2.out w7).mono ?_
  rintro e w8 ⟨rfl, hb⟩
  have HS8 := Lib.hid (HS7.out.later hb)
  have HL8 := Lib.hid (HS7.out.below HL7.out hb)
  clear hb HS7 HL7
  go_wp2
  refine hK.out _ _ HS8.out ?_
  clear hK K
  refine wpS_take HS8 (by rfl) (by intro W hW; go_simp; try with_reducible rfl) ?_
  refine wpS_take HS8 (by rfl) (by intro W hW; go_simp; try with_reducible rfl) ?_
  refine wpS_take HS8 (by rfl) (by intro W hW; go_simp; try with_reducible rfl) ?_
  refine wpS_take HS8 (by rfl) (by intro W hW; go_simp; try with_reducible rfl) ?_
  refine wpS_take HS8 (by rfl) (by intro W hW; go_simp; try with_reducible rfl) ?_
  refine wpS_nil ?_
  have F8 : Hid (Tri g0 #[.int .u8 a0, .int .u16 g.age, .int .u8 g.opts, .int .u8 g.typ, .int .u32 g.id, .int .u32 g.adv, .int .i32 g.seq, .int .u16 g.sum, .int .u16 g.len, .int .u16 o.age, .int .u8 o.opts, .int .u8 o.typ, .int .u32 o.id, .int .u32 o.adv, .int .i32 o.seq, .int .u16 o.sum, .int .u16 o.len, .int .u16 q] #[.int .u16 g.age, .int .u8 g.opts, .int .u8 g.typ, .int .u32 g.id, .int .u32 g.adv, .int .i32 g.seq, .int .u16 g.sum, .int .u16 g.len] #[.int .u16 o.age, .int .u8 o.opts, .int .u8 o.typ, .int .u32 o.id, .int .u32 o.adv, .int .i32 o.seq, .int .u16 o.sum, .int .u16 o.len] w8 ∧ Below g0 w w8) := ⟨HS8.out, HL8.out⟩
  clear HS8 HL8
  go_wp2
  try go_simp
  refine wp_region_s (Tri g0 #[.int .u8 a0, .int .u16 g.age, .int .u8 g.opts, .int .u8 g.typ, .int .u32 g.id, .int .u32 g.adv, .int .i32 g.seq, .int .u16 g.sum, .int .u16 g.len, .int .u16 o.age, .int .u8 o.opts, .int .u8 o.typ, .int .u32 o.id, .int .u32 o.adv, .int .i32 o.seq, .int .u16 o.sum, .int .u16 o.len, .int .u16 q] #[.int .u16 g.age, .int .u8 g.opts, .int .u8 g.typ, .int .u32 g.id, .int .u32 g.adv, .int .i32 g.seq, .int .u16 g.sum, .int .u16 g.len] #[.int .u16 o.age, .int .u8 o.opts, .int .u8 o.typ, .int .u32 o.id, .int .u32 o.adv, .int .i32 o.seq, .int .u16 o.sum, .int .u16 o.len]) [(0, true), (2, true), (4, true), (6, true), (8, true), (10, true), (1, false), (3, false), (5, false), (7, false), (9, false), (11, false), (12, false), (13, true)] (by kernel_rfl) (fun _ d _ _ _ h => by cases d <;> exact h) ?_
  simp only [List.map_cons, List.map_nil, nthOp_zero, nthOp_succ]
  have HS9 : Hid (Tri g0 #[.int .u8 a0, .int .u16 g.age, .int .u8 g.opts, .int .u8 g.typ, .int .u32 g.id, .int .u32 g.adv, .int .i32 g.seq, .int .u16 g.sum, .int .u16 g.len, .int .u16 o.age, .int .u8 o.opts, .int .u8 o.typ, .int .u32 o.id, .int .u32 o.adv, .int .i32 o.seq, .int .u16 o.sum, .int .u16 o.len, .int .u16 q] #[.int .u16 g.age, .int .u8 g.opts, .int .u8 g.typ, .int .u32 g.id, .int .u32 g.adv, .int .i32 g.seq, .int .u16 g.sum, .int .u16 g.len] #[.int .u16 o.age, .int .u8 o.opts, .int .u8 o.typ, .int .u32 o.id, .int .u32 o.adv, .int .i32 o.seq, .int .u16 o.sum, .int .u16 o.len] w8.drew) := F8.out.1
  have HL9 : Hid (Below g0 w w8.drew) := F8.out.2.drew
  clear F8
  generalize w8.drew = w9 at *
  refine wpS_take HS9 (by rfl) (fun W hW => exec_load_row rfl rfl hW.1 Try.underlying60 rfl info_asked) ?_
  refine wpS_take HS9 (by rfl) (fun W hW => exec_load_row rfl rfl hW.1 Try.underlying60 rfl info_asked) ?_
  refine wpS_take HS9 (by rfl) (fun W hW => exec_load_row rfl rfl hW.1 Try.underlying60 rfl info_asked) ?_
  refine wpS_take HS9 (by rfl) (fun W hW => exec_load_row rfl rfl hW.1 Try.underlying60 rfl info_asked) ?_
  refine wpS_take HS9 (by rfl) (fun W hW => exec_load_row rfl rfl hW.1 Try.underlying60 rfl info_asked) ?_
  refine wpS_take HS9 (by rfl) (fun W hW => exec_load_row rfl rfl hW.1 Try.underlying60 rfl info_asked) ?_
  refine wpS_do fun K hK => ?_
  go_wp2_with fail
  refine (HB2.out w9).mono ?_
  rintro e w10 ⟨rfl, hb⟩
  have HS10 := Lib.hid (HS9.out.later hb)
  have HL10 := Lib.hid (HS9.out.below HL9.out hb)
  clear hb HS9 HL9
  go_wp2
  refine hK.out _ _ HS10.out ?_
  clear hK K
  refine wpS_do fun K hK => ?_
  go_wp2_with fail
  refine (HB3.out w10).mono ?_
  rintro e w11 ⟨rfl, hb⟩
  have HS11 := Lib.hid (HS10.out.later hb)
  have HL11 := Lib.hid (HS10.out.below HL10.out hb)
  clear hb HS10 HL10
  go_wp2
  refine hK.out _ _ HS11.out ?_
  clear hK K
  refine wpS_do fun K hK => ?_
  go_wp2_with fail
  refine (HB4.out w11).mono ?_
  rintro e w12 ⟨rfl, hb⟩
  have HS12 := Lib.hid (HS11.out.later hb)
  have HL12 := Lib.hid (HS11.out.below HL11.out hb)
  clear hb HS11 HL11
  go_wp2
  refine hK.out _ _ HS12.out ?_
  clear hK K
  refine wpS_do fun K hK => ?_
  go_wp2_with fail
  refine (HB5.out w12).mono ?_
  rintro e w13 ⟨rfl, hb⟩
  have HS13 := Lib.hid (HS12.out.later hb)
  have HL13 := Lib.hid (HS12.out.below HL12.out hb)
  clear hb HS12 HL12
  go_wp2
  refine hK.out _ _ HS13.out ?_
  clear hK K
  refine wpS_do fun K hK => ?_
  go_wp2_with fail
  refine (HB6.out w13).mono ?_
  rintro e w14 ⟨rfl, hb⟩
  have HS14 := Lib.hid (HS13.out.later hb)
  have HL14 := Lib.hid (HS13.out.below HL13.out hb)
  clear hb HS13 HL13
  go_wp2
  refine hK.out _ _ HS14.out ?_
  clear hK K
  refine wpS_do fun K hK => ?_
  go_wp2_with fail
  refine (HB7.out w14).mono ?_
  rintro e w15 ⟨rfl, hb⟩
  have HS15 := Lib.hid (HS14.out.later hb)
  have HL15 := Lib.hid (HS14.out.below HL14.out hb)
  clear hb HS14 HL14
  go_wp2
  refine hK.out _ _ HS15.out ?_
  clear hK K
  refine wpS_do fun K hK => ?_
  go_wp2_with fail
  refine (HO1.out w15).mono ?_
  rintro e w' ⟨rfl, rfl⟩
  go_wp2
  refine hK.out _ _ HS15.out ?_
  clear hK K
  refine wpS_take HS15 (by rfl) (by intro W hW; go_simp; try with_reducible rfl) ?_
  refine wpS_nil ?_
  have F15 : Hid (Tri g0 #[.int .u8 a0, .int .u16 g.age, .int .u8 g.opts, .int .u8 g.typ, .int .u32 g.id, .int .u32 g.adv, .int .i32 g.seq, .int .u16 g.sum, .int .u16 g.len, .int .u16 o.age, .int .u8 o.opts, .int .u8 o.typ, .int .u32 o.id, .int .u32 o.adv, .int .i32 o.seq, .int .u16 o.sum, .int .u16 o.len, .int .u16 q] #[.int .u16 g.age, .int .u8 g.opts, .int .u8 g.typ, .int .u32 g.id, .int .u32 g.adv, .int .i32 g.seq, .int .u16 g.sum, .int .u16 g.len] #[.int .u16 o.age, .int .u8 o.opts, .int .u8 o.typ, .int .u32 o.id, .int .u32 o.adv, .int .i32 o.seq, .int .u16 o.sum, .int .u16 o.len] w15 ∧ Below g0 w w15) := ⟨HS15.out, HL15.out⟩
  clear HS15 HL15
  go_wp2
  try go_simp
  refine wp_region_s (Tri g0 #[.int .u8 a0, .int .u16 g.age, .int .u8 g.opts, .int .u8 g.typ, .int .u32 g.id, .int .u32 g.adv, .int .i32 g.seq, .int .u16 g.sum, .int .u16 g.len, .int .u16 o.age, .int .u8 o.opts, .int .u8 o.typ, .int .u32 o.id, .int .u32 o.adv, .int .i32 o.seq, .int .u16 o.sum, .int .u16 o.len, .int .u16 q] #[.int .u16 g.age, .int .u8 g.opts, .int .u8 g.typ, .int .u32 g.id, .int .u32 g.adv, .int .i32 g.seq, .int .u16 g.sum, .int .u16 g.len] #[.int .u16 o.age, .int .u8 o.opts, .int .u8 o.typ, .int .u32 o.id, .int .u32 o.adv, .int .i32 o.seq, .int .u16 o.sum, .int .u16 o.len]) [(0, true), (2, true), (4, true), (6, true), (8, true), (10, true), (1, false), (3, false), (5, false), (7, false), (9, false), (11, false), (12, false), (13, true)] (by kernel_rfl) (fun _ d _ _ _ h => by cases d <;> exact h) ?_
  simp only [List.map_cons, List.map_nil, nthOp_zero, nthOp_succ]
  have HS16 : Hid (Tri g0 #[.int .u8 a0, .int .u16 g.age, .int .u8 g.opts, .int .u8 g.typ, .int .u32 g.id, .int .u32 g.adv, .int .i32 g.seq, .int .u16 g.sum, .int .u16 g.len, .int .u16 o.age, .int .u8 o.opts, .int .u8 o.typ, .int .u32 o.id, .int .u32 o.adv, .int .i32 o.seq, .int .u16 o.sum, .int .u16 o.len, .int .u16 q] #[.int .u16 g.age, .int .u8 g.opts, .int .u8 g.typ, .int .u32 g.id, .int .u32 g.adv, .int .i32 g.seq, .int .u16 g.sum, .int .u16 g.len] #[.int .u16 o.age, .int .u8 o.opts, .int .u8 o.typ, .int .u32 o.id, .int .u32 o.adv, .int .i32 o.seq, .int .u16 o.sum, .int .u16 o.len] w15.drew) := F15.out.1
  have HL16 : Hid (Below g0 w w15.drew) := F15.out.2.drew
  clear F15
  generalize w15.drew = w16 at *
  refine wpS_take HS16 (by rfl) (fun W hW => exec_load_row rfl rfl hW.1 Try.underlying60 rfl info_asked) ?_
  refine wpS_take HS16 (by rfl) (fun W hW => exec_load_row rfl rfl hW.1 Try.underlying60 rfl info_asked) ?_
  refine wpS_take HS16 (by rfl) (fun W hW => exec_load_row rfl rfl hW.1 Try.underlying60 rfl info_asked) ?_
  refine wpS_take HS16 (by rfl) (fun W hW => exec_load_row rfl rfl hW.1 Try.underlying60 rfl info_asked) ?_
  refine wpS_take HS16 (by rfl) (fun W hW => exec_load_row rfl rfl hW.1 Try.underlying60 rfl info_asked) ?_
  refine wpS_take HS16 (by rfl) (fun W hW => exec_load_row rfl rfl hW.1 Try.underlying60 rfl info_asked) ?_
  refine wpS_do fun K hK => ?_
  go_wp2_with fail
  refine (HB2.out w16).mono ?_
  rintro e w17 ⟨rfl, hb⟩
  have HS17 := Lib.hid (HS16.out.later hb)
  have HL17 := Lib.hid (HS16.out.below HL16.out hb)
  clear hb HS16 HL16
  go_wp2
  refine hK.out _ _ HS17.out ?_
  clear hK K
  refine wpS_do fun K hK => ?_
  go_wp2_with fail
  refine (HB3.out w17).mono ?_
  rintro e w18 ⟨rfl, hb⟩
  have HS18 := Lib.hid (HS17.out.later hb)
  have HL18 := Lib.hid (HS17.out.below HL17.out hb)
  clear hb HS17 HL17
  go_wp2
  refine hK.out _ _ HS18.out ?_
  clear hK K
  refine wpS_do fun K hK => ?_
  go_wp2_with fail
  refine (HB4.out w18).mono ?_
  rintro e w19 ⟨rfl, hb⟩
  have HS19 := Lib.hid (HS18.out.later hb)
  have HL19 := Lib.hid (HS18.out.below HL18.out hb)
  clear hb HS18 HL18
  go_wp2
  refine hK.out _ _ HS19.out ?_
  clear hK K
  refine wpS_do fun K hK => ?_
  go_wp2_with fail
  refine (HB5.out w19).mono ?_
  rintro e w20 ⟨rfl, hb⟩
  have HS20 := Lib.hid (HS19.out.later hb)
  have HL20 := Lib.hid (HS19.out.below HL19.out hb)
  clear hb HS19 HL19
  go_wp2
  refine hK.out _ _ HS20.out ?_
  clear hK K
  refine wpS_do fun K hK => ?_
  go_wp2_with fail
  refine (HB6.out w20).mono ?_
  rintro e w21 ⟨rfl, hb⟩
  have HS21 := Lib.hid (HS20.out.later hb)
  have HL21 := Lib.hid (HS20.out.below HL20.out hb)
  clear hb HS20 HL20
  go_wp2
  refine hK.out _ _ HS21.out ?_
  clear hK K
  refine wpS_do fun K hK => ?_
  go_wp2_with fail
  refine (HB7.out w21).mono ?_
  rintro e w22 ⟨rfl, hb⟩
  have HS22 := Lib.hid (HS21.out.later hb)
  have HL22 := Lib.hid (HS21.out.below HL21.out hb)
  clear hb HS21 HL21
  go_wp2
  refine hK.out _ _ HS22.out ?_
  clear hK K
  refine wpS_do fun K hK => ?_
  go_wp2_with fail
  refine (HO2.out w22).mono ?_
  rintro e w' ⟨rfl, rfl⟩
  go_wp2
  refine hK.out _ _ HS22.out ?_
  clear hK K
  refine wpS_take HS22 (by rfl) (by intro W hW; go_simp; try with_reducible rfl) ?_
  refine wpS_nil ?_
  have F22 : Hid (Tri g0 #[.int .u8 a0, .int .u16 g.age, .int .u8 g.opts, .int .u8 g.typ, .int .u32 g.id, .int .u32 g.adv, .int .i32 g.seq, .int .u16 g.sum, .int .u16 g.len, .int .u16 o.age, .int .u8 o.opts, .int .u8 o.typ, .int .u32 o.id, .int .u32 o.adv, .int .i32 o.seq, .int .u16 o.sum, .int .u16 o.len, .int .u16 q] #[.int .u16 g.age, .int .u8 g.opts, .int .u8 g.typ, .int .u32 g.id, .int .u32 g.adv, .int .i32 g.seq, .int .u16 g.sum, .int .u16 g.len] #[.int .u16 o.age, .int .u8 o.opts, .int .u8 o.typ, .int .u32 o.id, .int .u32 o.adv, .int .i32 o.seq, .int .u16 o.sum, .int .u16 o.len] w22 ∧ Below g0 w w22) := ⟨HS22.out, HL22.out⟩
  clear HS22 HL22
  go_wp2
  try go_simp
  refine wp_region_s (Tri g0 #[.int .u8 a0, .int .u16 g.age, .int .u8 g.opts, .int .u8 g.typ, .int .u32 g.id, .int .u32 g.adv, .int .i32 g.seq, .int .u16 g.sum, .int .u16 g.len, .int .u16 o.age, .int .u8 o.opts, .int .u8 o.typ, .int .u32 o.id, .int .u32 o.adv, .int .i32 o.seq, .int .u16 o.sum, .int .u16 o.len, .int .u16 q] #[.int .u16 g.age, .int .u8 g.opts, .int .u8 g.typ, .int .u32 g.id, .int .u32 g.adv, .int .i32 g.seq, .int .u16 g.sum, .int .u16 g.len] #[.int .u16 o.age, .int .u8 o.opts, .int .u8 o.typ, .int .u32 o.id, .int .u32 o.adv, .int .i32 o.seq, .int .u16 o.sum, .int .u16 o.len]) [(0, true), (1, true), (3, true), (5, true), (7, true), (2, false), (4, false), (6, false), (8, false), (9, false), (10, true)] (by kernel_rfl) (fun _ d _ _ _ h => by cases d <;> exact h) ?_
  simp only [List.map_cons, List.map_nil, nthOp_zero, nthOp_succ]
  have HS23 : Hid (Tri g0 #[.int .u8 a0, .int .u16 g.age, .int .u8 g.opts, .int .u8 g.typ, .int .u32 g.id, .int .u32 g.adv, .int .i32 g.seq, .int .u16 g.sum, .int .u16 g.len, .int .u16 o.age, .int .u8 o.opts, .int .u8 o.typ, .int .u32 o.id, .int .u32 o.adv, .int .i32 o.seq, .int .u16 o.sum, .int .u16 o.len, .int .u16 q] #[.int .u16 g.age, .int .u8 g.opts, .int .u8 g.typ, .int .u32 g.id, .int .u32 g.adv, .int .i32 g.seq, .int .u16 g.sum, .int .u16 g.len] #[.int .u16 o.age, .int .u8 o.opts, .int .u8 o.typ, .int .u32 o.id, .int .u32 o.adv, .int .i32 o.seq, .int .u16 o.sum, .int .u16 o.len] w22.drew) := F22.out.1
  have HL23 : Hid (Below g0 w w22.drew) := F22.out.2.drew
  clear F22
  generalize w22.drew = w23 at *
  refine wpS_take HS23 (by rfl) (by intro W hW; go_simp; try with_reducible rfl) ?_
  refine wpS_take HS23 (by rfl) (fun W hW => exec_load_row rfl rfl hW.1 Try.underlying60 rfl info_asked) ?_
  refine wpS_take HS23 (by rfl) (fun W hW => exec_load_row rfl rfl hW.1 Try.underlying60 rfl info_asked) ?_
  refine wpS_take HS23 (by rfl) (fun W hW => exec_load_row rfl rfl hW.1 Try.underlying60 rfl info_asked) ?_
  refine wpS_take HS23 (by rfl) (fun W hW => exec_load_row rfl rfl hW.1 Try.underlying60 rfl info_asked) ?_
  refine wpS_do fun K hK => ?_
  go_wp2_with fail
  refine (HB0.out w23).mono ?_
  rintro e w24 ⟨rfl, hb⟩
  have HS24 := Lib.hid (HS23.out.later hb)
  have HL24 := Lib.hid (HS23.out.below HL23.out hb)
  clear hb HS23 HL23
  go_wp2
  refine hK.out _ _ HS24.out ?_
  clear hK K
  refine wpS_do fun K hK => ?_
  go_wp2_with fail
  refine (HB1.out w24).mono ?_
  rintro e w25 ⟨rfl, hb⟩
  have HS25 := Lib.hid (HS24.out.later hb)
  have HL25 := Lib.hid (HS24.out.below HL24.out hb)
  clear hb HS24 HL24
  go_wp2
  refine hK.out _ _ HS25.out ?_
  clear hK K
  refine wpS_do fun K hK => ?_
  go_wp2_with fail
  refine (HB2.out w25).mono ?_
  rintro e w26 ⟨rfl, hb⟩
  have HS26 := Lib.hid (HS25.out.later hb)
  have HL26 := Lib.hid (HS25.out.below HL25.out hb)
  clear hb HS25 HL25
  go_wp2
  refine hK.out _ _ HS26.out ?_
  clear hK K
  refine wpS_do fun K hK => ?_
  go_wp2_with fail
  refine (HB3.out w26).mono ?_
  rintro e w27 ⟨rfl, hb⟩
  have HS27 := Lib.hid (HS26.out.later hb)
  have HL27 := Lib.hid (HS26.out.below HL26.out hb)
  clear hb HS26 HL26
  go_wp2
  refine hK.out _ _ HS27.out ?_
  clear hK K
  refine wpS_do fun K hK => ?_
  go_wp2_with fail
  refine (HC1.out w27).mono ?_
  rintro e w' ⟨rfl, rfl⟩
  go_wp2
  refine hK.out _ _ HS27.out ?_
  clear hK K
  refine wpS_take HS27 (by rfl) (by intro W hW; go_simp; try with_reducible rfl) ?_
  refine wpS_nil ?_
  have F27 : Hid (Tri g0 #[.int .u8 a0, .int .u16 g.age, .int .u8 g.opts, .int .u8 g.typ, .int .u32 g.id, .int .u32 g.adv, .int .i32 g.seq, .int .u16 g.sum, .int .u16 g.len, .int .u16 o.age, .int .u8 o.opts, .int .u8 o.typ, .int .u32 o.id, .int .u32 o.adv, .int .i32 o.seq, .int .u16 o.sum, .int .u16 o.len, .int .u16 q] #[.int .u16 g.age, .int .u8 g.opts, .int .u8 g.typ, .int .u32 g.id, .int .u32 g.adv, .int .i32 g.seq, .int .u16 g.sum, .int .u16 g.len] #[.int .u16 o.age, .int .u8 o.opts, .int .u8 o.typ, .int .u32 o.id, .int .u32 o.adv, .int .i32 o.seq, .int .u16 o.sum, .int .u16 o.len] w27 ∧ Below g0 w w27) := ⟨HS27.out, HL27.out⟩
  clear HS27 HL27
  go_wp2
  try go_simp
  refine wp_region_s (Tri g0 #[.int .u8 a0, .int .u16 g.age, .int .u8 g.opts, .int .u8 g.typ, .int .u32 g.id, .int .u32 g.adv, .int .i32 g.seq, .int .u16 g.sum, .int .u16 g.len, .int .u16 o.age, .int .u8 o.opts, .int .u8 o.typ, .int .u32 o.id, .int .u32 o.adv, .int .i32 o.seq, .int .u16 o.sum, .int .u16 o.len, .int .u16 q] #[.int .u16 g.age, .int .u8 g.opts, .int .u8 g.typ, .int .u32 g.id, .int .u32 g.adv, .int .i32 g.seq, .int .u16 g.sum, .int .u16 g.len] #[.int .u16 o.age, .int .u8 o.opts, .int .u8 o.typ, .int .u32 o.id, .int .u32 o.adv, .int .i32 o.seq, .int .u16 o.sum, .int .u16 o.len]) [(0, true), (1, true), (3, true), (5, true), (7, true), (2, false), (4, false), (6, false), (8, false), (9, false), (10, true)] (by kernel_rfl) (fun _ d _ _ _ h => by cases d <;> exact h) ?_
  simp only [List.map_cons, List.map_nil, nthOp_zero, nthOp_succ]
  have HS28 : Hid (Tri g0 #[.int .u8 a0, .int .u16 g.age, .int .u8 g.opts, .int .u8 g.typ, .int .u32 g.id, .int .u32 g.adv, .int .i32 g.seq, .int .u16 g.sum, .int .u16 g.len, .int .u16 o.age, .int .u8 o.opts, .int .u8 o.typ, .int .u32 o.id, .int .u32 o.adv, .int .i32 o.seq, .int .u16 o.sum, .int .u16 o.len, .int .u16 q] #[.int .u16 g.age, .int .u8 g.opts, .int .u8 g.typ, .int .u32 g.id, .int .u32 g.adv, .int .i32 g.seq, .int .u16 g.sum, .int .u16 g.len] #[.int .u16 o.age, .int .u8 o.opts, .int .u8 o.typ, .int .u32 o.id, .int .u32 o.adv, .int .i32 o.seq, .int .u16 o.sum, .int .u16 o.len] w27.drew) := F27.out.1
  have HL28 : Hid (Below g0 w w27.drew) := F27.out.2.drew
  clear F27
  generalize w27.drew = w28 at *
  refine wpS_take HS28 (by rfl) (by intro W hW; go_simp; try with_reducible rfl) ?_
  refine wpS_take HS28 (by rfl) (fun W hW => exec_load_row rfl rfl hW.1 Try.underlying60 rfl info_asked) ?_
  refine wpS_take HS28 (by rfl) (fun W hW => exec_load_row rfl rfl hW.1 Try.underlying60 rfl info_asked) ?_
  refine wpS_take HS28 (by rfl) (fun W hW => exec_load_row rfl rfl hW.1 Try.underlying60 rfl info_asked) ?_
  refine wpS_take HS28 (by rfl) (fun W hW => exec_load_row rfl rfl hW.1 Try.underlying60 rfl info_asked) ?_
  refine wpS_do fun K hK => ?_
  go_wp2_with fail
  refine (HB0.out w28).mono ?_
  rintro e w29 ⟨rfl, hb⟩
  have HS29 := Lib.hid (HS28.out.later hb)
  have HL29 := Lib.hid (HS28.out.below HL28.out hb)
  clear hb HS28 HL28
  go_wp2
  refine hK.out _ _ HS29.out ?_
  clear hK K
  refine wpS_do fun K hK => ?_
  go_wp2_with fail
  refine (HB1.out w29).mono ?_
  rintro e w30 ⟨rfl, hb⟩
  have HS30 := Lib.hid (HS29.out.later hb)
  have HL30 := Lib.hid (HS29.out.below HL29.out hb)
  clear hb HS29 HL29
  go_wp2
  refine hK.out _ _ HS30.out ?_
  clear hK K
  refine wpS_do fun K hK => ?_
  go_wp2_with fail
  refine (HB2.out w30).mono ?_
  rintro e w31 ⟨rfl, hb⟩
  have HS31 := Lib.hid (HS30.out.later hb)
  have HL31 := Lib.hid (HS30.out.below HL30.out hb)
  clear hb HS30 HL30
  go_wp2
  refine hK.out _ _ HS31.out ?_
  clear hK K
  refine wpS_do fun K hK => ?_
  go_wp2_with fail
  refine (HB3.out w31).mono ?_
  rintro e w32 ⟨rfl, hb⟩
  have HS32 := Lib.hid (HS31.out.later hb)
  have HL32 := Lib.hid (HS31.out.below HL31.out hb)
  clear hb HS31 HL31
  go_wp2
  refine hK.out _ _ HS32.out ?_
  clear hK K
  refine wpS_do fun K hK => ?_
  go_wp2_with fail
  refine (HC2.out w32).mono ?_
  rintro e w' ⟨rfl, rfl⟩
  go_wp2
  refine hK.out _ _ HS32.out ?_
  clear hK K
  refine wpS_take HS32 (by rfl) (by intro W hW; go_simp; try with_reducible rfl) ?_
  refine wpS_nil ?_
  have F32 : Hid (Tri g0 #[.int .u8 a0, .int .u16 g.age, .int .u8 g.opts, .int .u8 g.typ, .int .u32 g.id, .int .u32 g.adv, .int .i32 g.seq, .int .u16 g.sum, .int .u16 g.len, .int .u16 o.age, .int .u8 o.opts, .int .u8 o.typ, .int .u32 o.id, .int .u32 o.adv, .int .i32 o.seq, .int .u16 o.sum, .int .u16 o.len, .int .u16 q] #[.int .u16 g.age, .int .u8 g.opts, .int .u8 g.typ, .int .u32 g.id, .int .u32 g.adv, .int .i32 g.seq, .int .u16 g.sum, .int .u16 g.len] #[.int .u16 o.age, .int .u8 o.opts, .int .u8 o.typ, .int .u32 o.id, .int .u32 o.adv, .int .i32 o.seq, .int .u16 o.sum, .int .u16 o.len] w32 ∧ Below g0 w w32) := ⟨HS32.out, HL32.out⟩
  clear HS32 HL32
  go_wp2_with (go_at_call 10; refine (works_any w32).mono ?_; rintro e w33 ⟨rfl, hb⟩; have hE := Lib.hid (F32.out.1.below F32.out.2 hb); clear hb)
  go_ret
  subst hs0
  exact ⟨rfl, hE.out⟩
end Go.Proofs.Ytjkmehpokdaonaa
