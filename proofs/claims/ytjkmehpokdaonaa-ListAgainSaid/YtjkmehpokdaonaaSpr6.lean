/-
  lodestarlaw15.works, walked.
-/
import Derived.Test.YtjkmehpokdaonaaSpr5
import Derived.Test.YtjkmehpokdaonaaSpr1
namespace Go.Proofs.Ytjkmehpokdaonaa
set_option linter.unusedVariables false
open Go.RowKit

@[reducible] def cB1 : Array Value := #[.int .u16 0, .int .u8 0, .int .u8 1, .int .u32 1, .int .u32 1, .int .i32 5, .int .u16 0, .int .u16 0]
@[reducible] def cB2 : Array Value := #[.int .u16 0, .int .u8 0, .int .u8 1, .int .u32 1, .int .u32 1, .int .i32 4, .int .u16 0, .int .u16 0]
@[reducible] def hB1 : Hd := ⟨0, 0, 1, 1, 1, 5, 0, 0⟩
@[reducible] def hB2 : Hd := ⟨0, 0, 1, 1, 1, 4, 0, 0⟩
theorem hB1_ok : hB1.ok := ⟨by decide, by decide, by decide, by decide, by decide, by decide, by decide, by decide⟩
theorem hB2_ok : hB2.ok := ⟨by decide, by decide, by decide, by decide, by decide, by decide, by decide, by decide⟩
@[reducible] def cJ1 : Cm := ⟨hB1, true, hB2, 9, 9, false, false, false⟩
@[reducible] def cJ2 : Cm := ⟨hB1, true, hB1, 9, 9, false, false, false⟩
theorem cJ1_ok : cJ1.ok := ⟨hB1_ok, hB2_ok, by decide, by decide⟩
theorem cJ2_ok : cJ2.ok := ⟨hB1_ok, hB1_ok, by decide, by decide⟩
theorem judge_J1 : judgeOf cJ1 = 2 := by decide +kernel
theorem judge_J2 : judgeOf cJ2 = 4 := by decide +kernel
theorem newer_J1 : (newerOf hB2 hB1 == 0) = false := by decide +kernel
theorem newer_J2 : (newerOf hB1 hB1 == 0) = true := by decide +kernel
/-- What stands while works goes on. -/
structure WkF (w W : World) (b1 b2 g bm : Nat) : Prop where
  c1 : Blk W b1 25 cB1
  c2 : Blk W b2 25 cB2
  bel : Below w.heap.size w W
  lo1 : w.heap.size ≤ g
  lo2 : w.heap.size ≤ bm
theorem WkF.later {w W W' : World} {b1 b2 g bm : Nat} (f : WkF w W b1 b2 g bm) (h : Below W.heap.size W W') : WkF w W' b1 b2 g bm :=
  ⟨f.c1.later h, f.c2.later h, f.bel.trans (h.mono f.bel.size), f.lo1, f.lo2⟩
theorem WkF.kept {w W W' : World} {b1 b2 g bm : Nat} {cs : Array Value} {L : List ((Int × Int × Int) × Value)} (f : WkF w W b1 b2 g bm) (hg : Blk W g 55 cs) (hm : MapL keyV W bm L)
    (h : Kept (fun i => i = g ∨ i = bm) W W') : WkF w W' b1 b2 g bm :=
  ⟨f.c1.kept h (fun e => e.elim (blk_ne f.c1 hg (by decide)) (fun e => hm.ne_blk f.c1 e.symm)), f.c2.kept h (fun e => e.elim (blk_ne f.c2 hg (by decide)) (fun e => hm.ne_blk f.c2 e.symm)),
    f.bel.trans (h.below (B := w.heap.size) (fun i e => e.elim (fun e => e ▸ f.lo1) (fun e => e ▸ f.lo2)) f.bel.size), f.lo1, f.lo2⟩
set_option maxRecDepth 100000 in
set_option maxHeartbeats 2000000 in
theorem works_any (w : World) : Calls Try.prog 10 #[] w fun e w' => e = .returned (.bool true) ∧ Below w.heap.size w w' := by
  go_enter Try.func10, Try.ntmps10
  go_wp2_with fail
  have B0 : Hid (Blk ((w.alloc (.cells cB1 25)).alloc (.cells cB2 25)) w.heap.size 25 cB1 ∧ Blk ((w.alloc (.cells cB1 25)).alloc (.cells cB2 25)) (w.heap.size + 1) 25 cB2 ∧ Below w.heap.size w ((w.alloc (.cells cB1 25)).alloc (.cells cB2 25))) :=
    ⟨(Blk.new _ _ _).alloc _, new_at _ _ _, below_two _ _ _⟩
  unfold cB1 cB2 at B0
  generalize (w.alloc (.cells #[.int .u16 0, .int .u8 0, .int .u8 1, .int .u32 1, .int .u32 1, .int .i32 5, .int .u16 0, .int .u16 0] 25)).alloc (.cells #[.int .u16 0, .int .u8 0, .int .u8 1, .int .u32 1, .int .u32 1, .int .i32 4, .int .u16 0, .int .u16 0] 25) = w0 at *
  have hb1 : Hid (w.heap.size = w.heap.size) := rfl
  refine (new_any 3 w0 (by decide) (by decide)).mono ?_
  rintro e w1 ⟨g, bm, rfl, hl, hg, hbm, hb⟩
  have F1 : Hid (WkF w w1 w.heap.size (w.heap.size + 1) g bm ∧ L0 w1 g bm 3 3) := ⟨⟨B0.out.1.later hb, B0.out.2.1.later hb, B0.out.2.2.trans (hb.mono B0.out.2.2.size), Nat.le_trans B0.out.2.2.size hg, Nat.le_trans B0.out.2.2.size hbm⟩, hl⟩
  clear B0 hb1 hl hg hbm hb
  have j0 := F1.out.1.c1.cell 0; have j1 := F1.out.1.c1.cell 1; have j2 := F1.out.1.c1.cell 2; have j3 := F1.out.1.c1.cell 3; have j4 := F1.out.1.c1.cell 4; have j5 := F1.out.1.c1.cell 5; have j6 := F1.out.1.c1.cell 6; have j7 := F1.out.1.c1.cell 7
  have k0 := F1.out.1.c2.cell 0; have k1 := F1.out.1.c2.cell 1; have k2 := F1.out.1.c2.cell 2; have k3 := F1.out.1.c2.cell 3; have k4 := F1.out.1.c2.cell 4; have k5 := F1.out.1.c2.cell 5; have k6 := F1.out.1.c2.cell 6; have k7 := F1.out.1.c2.cell 7
  simp at j0 j1 j2 j3 j4 j5 j6 j7 k0 k1 k2 k3 k4 k5 k6 k7
  generalize hs1 : w.heap.size = b1 at F1 j0 j1 j2 j3 j4 j5 j6 j7 k0 k1 k2 k3 k4 k5 k6 k7 ⊢
  go_wp2_with fail
  refine (add0_any w1 g bm 3 3 hB1 F1.out.2).mono ?_
  rintro e w2 ⟨rfl, ⟨gk, c, hl⟩, hk⟩
  have F2 : Hid (WkF w w2 b1 (b1 + 1) g bm ∧ L1 w2 g bm gk c 3 3 hB1) := ⟨F1.out.1.kept F1.out.2.1 F1.out.2.2 hk, hl⟩
  clear j0 j1 j2 j3 j4 j5 j6 j7 k0 k1 k2 k3 k4 k5 k6 k7
  clear F1 hl hk
  have j0 := F2.out.1.c1.cell 0; have j1 := F2.out.1.c1.cell 1; have j2 := F2.out.1.c1.cell 2; have j3 := F2.out.1.c1.cell 3; have j4 := F2.out.1.c1.cell 4; have j5 := F2.out.1.c1.cell 5; have j6 := F2.out.1.c1.cell 6; have j7 := F2.out.1.c1.cell 7
  have k0 := F2.out.1.c2.cell 0; have k1 := F2.out.1.c2.cell 1; have k2 := F2.out.1.c2.cell 2; have k3 := F2.out.1.c2.cell 3; have k4 := F2.out.1.c2.cell 4; have k5 := F2.out.1.c2.cell 5; have k6 := F2.out.1.c2.cell 6; have k7 := F2.out.1.c2.cell 7
  simp at j0 j1 j2 j3 j4 j5 j6 j7 k0 k1 k2 k3 k4 k5 k6 k7
  go_wp2_with fail
  refine (judge_any cJ1 w2 cJ1_ok).mono ?_
  rintro e w3 ⟨rfl, hb⟩
  rw [judge_J1]
  have F3 : Hid (WkF w w3 b1 (b1 + 1) g bm ∧ L1 w3 g bm gk c 3 3 hB1) := ⟨F2.out.1.later hb, F2.out.2.later hb⟩
  clear j0 j1 j2 j3 j4 j5 j6 j7 k0 k1 k2 k3 k4 k5 k6 k7
  clear F2 hb
  have j0 := F3.out.1.c1.cell 0; have j1 := F3.out.1.c1.cell 1; have j2 := F3.out.1.c1.cell 2; have j3 := F3.out.1.c1.cell 3; have j4 := F3.out.1.c1.cell 4; have j5 := F3.out.1.c1.cell 5; have j6 := F3.out.1.c1.cell 6; have j7 := F3.out.1.c1.cell 7
  have k0 := F3.out.1.c2.cell 0; have k1 := F3.out.1.c2.cell 1; have k2 := F3.out.1.c2.cell 2; have k3 := F3.out.1.c2.cell 3; have k4 := F3.out.1.c2.cell 4; have k5 := F3.out.1.c2.cell 5; have k6 := F3.out.1.c2.cell 6; have k7 := F3.out.1.c2.cell 7
  simp at j0 j1 j2 j3 j4 j5 j6 j7 k0 k1 k2 k3 k4 k5 k6 k7
  go_wp2_with fail
  refine (judge_any cJ2 w3 cJ2_ok).mono ?_
  rintro e w4 ⟨rfl, hb⟩
  rw [judge_J2]
  have F4 : Hid (WkF w w4 b1 (b1 + 1) g bm ∧ L1 w4 g bm gk c 3 3 hB1) := ⟨F3.out.1.later hb, F3.out.2.later hb⟩
  clear j0 j1 j2 j3 j4 j5 j6 j7 k0 k1 k2 k3 k4 k5 k6 k7
  clear F3 hb
  have j0 := F4.out.1.c1.cell 0; have j1 := F4.out.1.c1.cell 1; have j2 := F4.out.1.c1.cell 2; have j3 := F4.out.1.c1.cell 3; have j4 := F4.out.1.c1.cell 4; have j5 := F4.out.1.c1.cell 5; have j6 := F4.out.1.c1.cell 6; have j7 := F4.out.1.c1.cell 7
  have k0 := F4.out.1.c2.cell 0; have k1 := F4.out.1.c2.cell 1; have k2 := F4.out.1.c2.cell 2; have k3 := F4.out.1.c2.cell 3; have k4 := F4.out.1.c2.cell 4; have k5 := F4.out.1.c2.cell 5; have k6 := F4.out.1.c2.cell 6; have k7 := F4.out.1.c2.cell 7
  simp at j0 j1 j2 j3 j4 j5 j6 j7 k0 k1 k2 k3 k4 k5 k6 k7
  go_wp2_with fail
  refine (len_any w4 g bm 1 c _ (F4.out.2.blk.cell 2) (F4.out.2.blk.cell 3)).mono ?_
  rintro e w' ⟨rfl, rfl⟩
  go_wp2_with fail
  refine (confirm_any w4 g bm gk c 3 3 hB1 hB2 hB1_ok hB2_ok rfl F4.out.2).mono ?_
  rintro e w5 ⟨rfl, _, hl, hk⟩
  rw [newer_J1]
  have F5 : Hid (WkF w w5 b1 (b1 + 1) g bm ∧ L1 w5 g bm gk c 3 3 hB1) := ⟨F4.out.1.kept F4.out.2.blk F4.out.2.map hk, hl newer_J1⟩
  clear j0 j1 j2 j3 j4 j5 j6 j7 k0 k1 k2 k3 k4 k5 k6 k7
  clear F4 hk hl
  have j0 := F5.out.1.c1.cell 0; have j1 := F5.out.1.c1.cell 1; have j2 := F5.out.1.c1.cell 2; have j3 := F5.out.1.c1.cell 3; have j4 := F5.out.1.c1.cell 4; have j5 := F5.out.1.c1.cell 5; have j6 := F5.out.1.c1.cell 6; have j7 := F5.out.1.c1.cell 7
  have k0 := F5.out.1.c2.cell 0; have k1 := F5.out.1.c2.cell 1; have k2 := F5.out.1.c2.cell 2; have k3 := F5.out.1.c2.cell 3; have k4 := F5.out.1.c2.cell 4; have k5 := F5.out.1.c2.cell 5; have k6 := F5.out.1.c2.cell 6; have k7 := F5.out.1.c2.cell 7
  simp at j0 j1 j2 j3 j4 j5 j6 j7 k0 k1 k2 k3 k4 k5 k6 k7
  go_wp2_with fail
  refine (confirm_any w5 g bm gk c 3 3 hB1 hB1 hB1_ok hB1_ok rfl F5.out.2).mono ?_
  rintro e w6 ⟨rfl, hl, _, hk⟩
  rw [newer_J2]
  have F6 : Hid (WkF w w6 b1 (b1 + 1) g bm ∧ LE w6 g bm) := ⟨F5.out.1.kept F5.out.2.blk F5.out.2.map hk, hl newer_J2⟩
  clear j0 j1 j2 j3 j4 j5 j6 j7 k0 k1 k2 k3 k4 k5 k6 k7
  clear F5 hk hl
  go_wp2_with fail
  obtain ⟨A, cc, hA⟩ := F6.out.2.len
  refine (len_any w6 g bm 0 cc A hA F6.out.2.map).mono ?_
  rintro e w' ⟨rfl, rfl⟩
  go_wp2_with fail
  go_ret
  subst hs1
  exact ⟨rfl, F6.out.1.bel⟩
end Go.Proofs.Ytjkmehpokdaonaa
