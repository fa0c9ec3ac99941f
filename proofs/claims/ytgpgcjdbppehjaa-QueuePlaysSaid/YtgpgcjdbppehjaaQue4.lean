/-
  The rows' Pop.
-/
import Derived.Test.YtgpgcjdbppehjaaQue3
namespace Go.Proofs.Ytgpgcjdbppehjaa
set_option linter.unusedVariables false
open Go.RowKit

theorem flat_take (l : List Ent) (n : Nat) (h : n ≤ l.length) : (l.take n).flatMap Ent.cells = (l.flatMap Ent.cells).take (n * 3) := by
  have e : l.flatMap Ent.cells = (l.take n).flatMap Ent.cells ++ (l.drop n).flatMap Ent.cells := by rw [← List.flatMap_append, List.take_append_drop]
  have hl : ((l.take n).flatMap Ent.cells).length = n * 3 := by rw [flatG_len ent_len, List.length_take, Nat.min_eq_left h]
  rw [e]
  exact (List.take_left' hl).symm
set_option maxRecDepth 100000 in
set_option maxHeartbeats 8000000 in
theorem rowsPop_any (w : World) (F : Nat → Prop) (g bm : Nat) (most : Int) (l : List Ent) (n : Nat) (z : Ent) (q : QF w F g bm most l) (hl : l.length = n + 1) (hz : l[n]? = some z) :
    Calls Try.prog 83 #[.pointer (some ⟨g, 0, none⟩)] w fun e' w' => e' = .returned (.iface 32 z.v) ∧ QF w' F g bm most (l.take n) ∧ Kept F w w' := by
  obtain ⟨gk, cap, cur, hB, hBk, hnc, hcm, hcs, ht, hFg, hgk, hbgk, hbg⟩ := q.row (by omega)
  have HP := Lib.hid (posF_pop q.dist hl hz)
  have HPZ : Hid (posF l z.what = some (.int .i64 (n : Int))) := Lib.hid (by unfold posF; rw [(posL_some q.dist).2 ⟨z, hz, rfl⟩]; rfl)
  have R0 : Hid (RowE w.drew gk cap l) := Lib.hid ⟨cur, hBk, ⟨hcs, hnc⟩, ht⟩
  have HQ := Lib.hid q
  have HC := Lib.hid (And.intro hcm (And.intro hFg (And.intro hgk (And.intro hbgk hbg))))
  rw [hl] at hB hnc
  have HB := Lib.hid hB
  have HT : Hid ((fun W : World => W.cell? ⟨g, 0, none⟩ = some (.slice (some ⟨gk, 0, none⟩) (n + 1) cap) ∧ W.cell? ⟨gk, n * 3, none⟩ = some (.int .i64 z.at_) ∧ W.cell? ⟨gk, n * 3 + 1, none⟩ = some (.int .i64 z.rank) ∧ W.cell? ⟨gk, n * 3 + 2, none⟩ = some (.int .u64 z.what)) w.drew) := Lib.hid ⟨hB.cell 0, R0.out.cells hz⟩
  have HL := Lib.hid hl
  have hn1 : n + 1 ≤ 1048576 := by have := q.few; omega
  have HB1 : Hid (Below w.heap.size w w.drew) := Lib.hid (Below.refl _ _).drew
  have hn00 : n ≤ cap := by omega
  clear hB hBk hnc hcs ht hFg hgk hbgk hbg q hl hz
  have hw1 : IntKind.i64.wrap (n : Int) = n := by rw [IntKind.wrap_i64]; omega
  have hn0 : (n : Int) ≤ cap := by omega
  have hnI : (n : Int) < n + 1 := by omega
  go_enter Try.func83, Try.ntmps83
  go_wp2
  refine wp_region_s (fun W : World => W.cell? ⟨g, 0, none⟩ = some (.slice (some ⟨gk, 0, none⟩) (n + 1) cap) ∧ W.cell? ⟨gk, n * 3, none⟩ = some (.int .i64 z.at_) ∧ W.cell? ⟨gk, n * 3 + 1, none⟩ = some (.int .i64 z.rank) ∧ W.cell? ⟨gk, n * 3 + 2, none⟩ = some (.int .u64 z.what)) [(0, true), (1, true), (2, true), (4, true), (5, true), (6, true), (3, true), (7, true), (8, true), (9, true), (10, true), (11, true), (12, false), (13, false)] (by kernel_rfl) (fun _ d _ _ _ h => by cases d <;> exact h) ?_
  simp only [List.map_cons, List.map_nil, nthOp_zero, nthOp_succ]
  generalize hw1' : w.drew = w1 at *
  have HW1 := Lib.hid hw1'
  clear hw1'
  refine wpS_take HT (by rfl) (by intro W hW; obtain ⟨c0, c1, c2, c3⟩ := hW; go_simp; try with_reducible rfl) ?_
  refine wpS_take HT (by rfl) (by intro W hW; obtain ⟨c0, c1, c2, c3⟩ := hW; go_simp; try with_reducible rfl) ?_
  refine wpS_take HT (by rfl) (by intro W hW; obtain ⟨c0, c1, c2, c3⟩ := hW; go_simp; try with_reducible rfl) ?_
  refine wpS_take HT (by rfl) (by intro W hW; obtain ⟨c0, c1, c2, c3⟩ := hW; go_simp; try with_reducible rfl) ?_
  refine wpS_take HT (by rfl) (by intro W hW; obtain ⟨c0, c1, c2, c3⟩ := hW; go_simp; try with_reducible rfl) ?_
  refine wpS_take HT (by rfl) (by intro W hW; obtain ⟨c0, c1, c2, c3⟩ := hW; go_simp; try with_reducible rfl) ?_
  refine wpS_take HT (by rfl) (by intro W hW; obtain ⟨c0, c1, c2, c3⟩ := hW; go_simp; try with_reducible rfl) ?_
  refine wpS_take HT (by rfl) (by intro W hW; obtain ⟨c0, c1, c2, c3⟩ := hW; go_simp; try with_reducible rfl) ?_
  go_simp
  refine wpS_take HT (by rfl) (by intro W hW; obtain ⟨c0, c1, c2, c3⟩ := hW; go_simp; try with_reducible rfl) ?_
  refine wpS_take HT (by rfl) (by intro W hW; obtain ⟨c0, c1, c2, c3⟩ := hW; go_simp; try with_reducible rfl) ?_
  refine wpS_take HT (by rfl) (by intro W hW; obtain ⟨c0, c1, c2, c3⟩ := hW; go_simp; try with_reducible rfl) ?_
  refine wpS_take HT (by rfl) (by intro W hW; obtain ⟨c0, c1, c2, c3⟩ := hW; go_simp; try with_reducible rfl) ?_
  go_simp
  have hb2 : Hid (Below w1.heap.size w1 (w1.alloc (.cells #[.int .i64 0, .int .i64 0, .int .u64 0] 32))) := Lib.hid ((Below.refl _ _).alloc (Nat.le_refl _) _)
  have hb3 : Hid (Below w1.heap.size w1 (w1.alloc (.cells #[.int .i64 z.at_, .int .i64 z.rank, .int .u64 z.what] 32)) ∧ Blk (w1.alloc (.cells #[.int .i64 z.at_, .int .i64 z.rank, .int .u64 z.what] 32)) w1.heap.size 32 #[.int .i64 z.at_, .int .i64 z.rank, .int .u64 z.what]) := Lib.hid ⟨(Below.refl _ _).alloc (Nat.le_refl _) _, Blk.new _ _ _⟩
  have hq := fun (W : World) (hb : Below w1.heap.size w1 W) => (show (fun W : World => W.cell? ⟨g, 0, none⟩ = some (.slice (some ⟨gk, 0, none⟩) (n + 1) cap) ∧ W.cell? ⟨gk, n * 3, none⟩ = some (.int .i64 z.at_) ∧ W.cell? ⟨gk, n * 3 + 1, none⟩ = some (.int .i64 z.rank) ∧ W.cell? ⟨gk, n * 3 + 2, none⟩ = some (.int .u64 z.what)) W from ⟨(hb.cell (cell_lt HT.out.1)).trans HT.out.1, (hb.cell (cell_lt HT.out.2.1)).trans HT.out.2.1, (hb.cell (cell_lt HT.out.2.2.1)).trans HT.out.2.2.1, (hb.cell (cell_lt HT.out.2.2.2)).trans HT.out.2.2.2⟩)
  have HT2 := Lib.hid (hq _ hb2.out)
  have HT3 := Lib.hid (hq _ hb3.out.1)
  clear hq
  refine wpS_do fun K hK => ?_
  go_wp2
  refine hK.out _ _ HT2.out ?_
  clear hK K HT2 hb2
  refine wpS_do fun K hK => ?_
  go_wp2_with (go_must (refine wpList_store_row rfl 32 _ _ rfl w1.heap.size #[.int .i64 z.at_, .int .i64 z.rank, .int .u64 z.what] rfl rfl 32 _ (heap_alloc_new w1 _) info_ent rfl (by simp [Value.oneCell']) ?_); rw [World.setRow_alloc_new])
  refine hK.out _ _ HT3.out ?_
  clear hK K HT
  refine wpS_nil ?_
  go_simp
  have R1 := Lib.hid (R0.out.kept (Kept.of_new hb3.out.1 (fun _ => False)) (fun h => h))
  have HM : Hid (MapF enc64 (w1.alloc (.cells #[.int .i64 z.at_, .int .i64 z.rank, .int .u64 z.what] 32)) bm (posF l) (n + 1)) := Lib.hid (by
    have h1 : MapF enc64 w1 bm (posF l) (n + 1) := by rw [← HW1.out, ← HL.out]; exact HQ.out.map.drewN 1
    exact h1.later hb3.out.1)
  have HB3 : Hid (Blk (w1.alloc (.cells #[.int .i64 z.at_, .int .i64 z.rank, .int .u64 z.what] 32)) g 59 #[.slice (some ⟨gk, 0, none⟩) (n + 1) cap, .map (some bm), .int .i64 most]) := Lib.hid (by
    have h1 : Blk w1 g 59 #[.slice (some ⟨gk, 0, none⟩) (n + 1) cap, .map (some bm), .int .i64 most] := by rw [← HW1.out]; exact HB.out.drewN 1
    exact h1.later hb3.out.1)
  have hgx : ∀ j, F j → j ≠ w1.heap.size := fun j hj e => by have := HQ.out.lim j hj; have h2 : w1.heap.size = w.heap.size := by rw [← HW1.out]; rfl
                                                             omega
  have HGX := Lib.hid hgx
  have K3 : Hid (Kept F w (w1.alloc (.cells #[.int .i64 z.at_, .int .i64 z.rank, .int .u64 z.what] 32))) := Lib.hid (by
    have h1 : Below w.heap.size w w1 := by rw [← HW1.out]; exact (Below.refl _ _).drew
    exact Kept.of_new (below_then h1 hb3.out.1) F)
  clear hgx R0
  generalize w1.alloc (.cells #[.int .i64 z.at_, .int .i64 z.rank, .int .u64 z.what] 32) = w3 at *
  generalize w1.heap.size = gx at *
  go_wp2
  have HT4 : Hid ((fun W : World => W.cell? ⟨g, 0, none⟩ = some (.slice (some ⟨gk, 0, none⟩) (n + 1) cap) ∧ W.cell? ⟨gk, n * 3, none⟩ = some (.int .i64 z.at_) ∧ W.cell? ⟨gk, n * 3 + 1, none⟩ = some (.int .i64 z.rank) ∧ W.cell? ⟨gk, n * 3 + 2, none⟩ = some (.int .u64 z.what)) w3.drew) := Lib.hid HT3.out
  have HB4 : Hid (Blk w3.drew g 59 #[.slice (some ⟨gk, 0, none⟩) (n + 1) cap, .map (some bm), .int .i64 most]) := Lib.hid (HB3.out.drewN 1)
  have HM4 : Hid (MapF enc64 w3.drew bm (posF l) (n + 1)) := Lib.hid (HM.out.drewN 1)
  have R4 : Hid (RowE w3.drew gk cap l) := Lib.hid (R1.out.kept ((Kept.refl (fun _ => False) w3).drewN 1) (fun h => h))
  have K4 : Hid (Kept F w w3.drew) := Lib.hid (K3.out.drewN 1)
  have HX4 : Hid (Blk w3.drew gx 32 #[.int .i64 z.at_, .int .i64 z.rank, .int .u64 z.what]) := Lib.hid (hb3.out.2.drewN 1)
  refine wp_region_g (fun W : World => W.cell? ⟨g, 0, none⟩ = some (.slice (some ⟨gk, 0, none⟩) (n + 1) cap) ∧ W.cell? ⟨gk, n * 3, none⟩ = some (.int .i64 z.at_) ∧ W.cell? ⟨gk, n * 3 + 1, none⟩ = some (.int .i64 z.rank) ∧ W.cell? ⟨gk, n * 3 + 2, none⟩ = some (.int .u64 z.what)) [.take 0, .take 1, .take 2, .take 3, .take 5, .take 6, .take 7, .take 4, .take 8, .take 9, .take 10, .take 11, .take 12, .take 13, .one 14] (by kernel_rfl) (fun _ d _ _ _ h => by cases d <;> exact h) ?_
  simp only [List.map_cons, List.map_nil, RStep.node, nthOp_zero, nthOp_succ]
  generalize w3.drew = w4 at *
  clear HT3 HB3 HM R1 K3 hb3
  refine wpG_take HT4 (by rfl) (by intro W hW; obtain ⟨c0, c1, c2, c3⟩ := hW; go_simp; try with_reducible rfl) ?_
  refine wpG_take HT4 (by rfl) (by intro W hW; obtain ⟨c0, c1, c2, c3⟩ := hW; go_simp; try with_reducible rfl) ?_
  refine wpG_take HT4 (by rfl) (by intro W hW; obtain ⟨c0, c1, c2, c3⟩ := hW; go_simp; try with_reducible rfl) ?_
  refine wpG_take HT4 (by rfl) (by intro W hW; obtain ⟨c0, c1, c2, c3⟩ := hW; go_simp; try with_reducible rfl) ?_
  refine wpG_take HT4 (by rfl) (by intro W hW; obtain ⟨c0, c1, c2, c3⟩ := hW; go_simp; try with_reducible rfl) ?_
  refine wpG_take HT4 (by rfl) (by intro W hW; obtain ⟨c0, c1, c2, c3⟩ := hW; go_simp; try with_reducible rfl) ?_
  refine wpG_take HT4 (by rfl) (by intro W hW; obtain ⟨c0, c1, c2, c3⟩ := hW; go_simp; try with_reducible rfl) ?_
  go_simp
  refine wpG_take HT4 (by rfl) (by intro W hW; obtain ⟨c0, c1, c2, c3⟩ := hW; go_simp; try with_reducible rfl) ?_
  refine wpG_take HT4 (by rfl) (by intro W hW; obtain ⟨c0, c1, c2, c3⟩ := hW; go_simp; try with_reducible rfl) ?_
  refine wpG_take HT4 (by rfl) (by intro W hW; obtain ⟨c0, c1, c2, c3⟩ := hW; go_simp; try with_reducible rfl) ?_
  refine wpG_take HT4 (by rfl) (by intro W hW; obtain ⟨c0, c1, c2, c3⟩ := hW; go_simp; try with_reducible rfl) ?_
  refine wpG_take HT4 (by rfl) (by intro W hW; obtain ⟨c0, c1, c2, c3⟩ := hW; go_simp; try with_reducible rfl) ?_
  refine wpG_take HT4 (by rfl) (by intro W hW; obtain ⟨c0, c1, c2, c3⟩ := hW; go_simp; try with_reducible rfl) ?_
  refine wpG_take HT4 (by rfl) (by intro W hW; obtain ⟨c0, c1, c2, c3⟩ := hW; go_simp; try with_reducible rfl) ?_
  go_simp
  have c0 := HT4.out.1
  have f0 := HB4.out.frozen 0
  refine wpG_last fun K hK => ?_
  go_wp2
  refine hK.out _ _ ?_
  clear hK K
  have k5 := kept_setC w4 g 0 (.slice (some ⟨gk, 0, none⟩) n cap)
  have HB5 : Hid (Blk (w4.setCell ⟨g, 0, none⟩ (.slice (some ⟨gk, 0, none⟩) n cap)) g 59 #[.slice (some ⟨gk, 0, none⟩) n cap, .map (some bm), .int .i64 most]) := Lib.hid (HB4.out.set_ 0 _)
  have HM5 := Lib.hid (HM4.out.kept k5 HC.out.2.2.2.2)
  have R5 := Lib.hid (R4.out.kept k5 (Ne.symm HC.out.2.2.1))
  have HX5 := Lib.hid (HX4.out.kept k5 (Ne.symm (HGX.out g HQ.out.fg)))
  have K5 := Lib.hid (K4.out.trans (k5.mono (T := F) (fun i _ e => e ▸ HQ.out.fg)) (fun _ _ e => e))
  clear k5 c0 f0 HB4 HM4 R4 HX4 K4 HT4
  generalize w4.setCell ⟨g, 0, none⟩ (.slice (some ⟨gk, 0, none⟩) n cap) = w5 at *
  go_wp2
  have HT6 : Hid ((fun W : World => W.cell? ⟨g, 1, none⟩ = some (.map (some bm)) ∧ Blk W gx 32 #[.int .i64 z.at_, .int .i64 z.rank, .int .u64 z.what]) w5.drew) := Lib.hid ⟨HB5.out.cell 1, HX5.out.drewN 1⟩
  have HB6 : Hid (Blk w5.drew g 59 #[.slice (some ⟨gk, 0, none⟩) n cap, .map (some bm), .int .i64 most]) := Lib.hid (HB5.out.drewN 1)
  have HM6 : Hid (MapF enc64 w5.drew bm (posF l) (n + 1)) := Lib.hid (HM5.out.drewN 1)
  have R6 : Hid (RowE w5.drew gk cap l) := Lib.hid (R5.out.kept ((Kept.refl (fun _ => False) w5).drewN 1) (fun h => h))
  have K6 : Hid (Kept F w w5.drew) := Lib.hid (K5.out.drewN 1)
  refine wp_region_s (fun W : World => W.cell? ⟨g, 1, none⟩ = some (.map (some bm)) ∧ Blk W gx 32 #[.int .i64 z.at_, .int .i64 z.rank, .int .u64 z.what]) [(0, true), (1, true), (2, true), (4, true), (3, true), (5, true), (6, false)] (by kernel_rfl) (fun _ d _ _ _ h => by cases d <;> exact h) ?_
  simp only [List.map_cons, List.map_nil, nthOp_zero, nthOp_succ]
  generalize w5.drew = w6 at *
  clear HB5 HM5 R5 HX5 K5
  refine wpS_take HT6 (by rfl) (by intro W hW; obtain ⟨c0, hb⟩ := hW; have j0 := hb.cell 0; have j1 := hb.cell 1; have j2 := hb.cell 2; clear hb; simp at j0 j1 j2; go_simp; try with_reducible rfl) ?_
  refine wpS_take HT6 (by rfl) (by intro W hW; obtain ⟨c0, hb⟩ := hW; have j0 := hb.cell 0; have j1 := hb.cell 1; have j2 := hb.cell 2; clear hb; simp at j0 j1 j2; go_simp; try with_reducible rfl) ?_
  refine wpS_take HT6 (by rfl) (by intro W hW; obtain ⟨c0, hb⟩ := hW; have j0 := hb.cell 0; have j1 := hb.cell 1; have j2 := hb.cell 2; clear hb; simp at j0 j1 j2; go_simp; try with_reducible rfl) ?_
  refine wpS_take HT6 (by rfl) (by intro W hW; obtain ⟨c0, hb⟩ := hW; have j0 := hb.cell 0; have j1 := hb.cell 1; have j2 := hb.cell 2; clear hb; simp at j0 j1 j2; go_simp; try with_reducible rfl) ?_
  refine wpS_take HT6 (by rfl) (by intro W hW; obtain ⟨c0, hb⟩ := hW; have j0 := hb.cell 0; have j1 := hb.cell 1; have j2 := hb.cell 2; clear hb; simp at j0 j1 j2; go_simp; try with_reducible rfl) ?_
  refine wpS_take HT6 (by rfl) (by intro W hW; obtain ⟨c0, hb⟩ := hW; have j0 := hb.cell 0; have j1 := hb.cell 1; have j2 := hb.cell 2; clear hb; simp at j0 j1 j2; go_simp; try with_reducible rfl) ?_
  go_simp
  refine wpS_do fun K hK => ?_
  go_wp2_with (go_must (refine wpList_deleteF u64T Try.underlying55 rfl (.tmp 33) (.tmp 35) 27 rfl HM6.out rfl z.what rfl ?_); intro w7 hm hk; have HM7 := Lib.hid hm; have HK7 := Lib.hid hk; clear hm hk)
  have HT7 : Hid ((fun W : World => W.cell? ⟨g, 1, none⟩ = some (.map (some bm)) ∧ Blk W gx 32 #[.int .i64 z.at_, .int .i64 z.rank, .int .u64 z.what]) w7) := Lib.hid ⟨(HK7.out.cell (cell_lt HT6.out.1) (Ne.symm HC.out.2.2.2.2)).trans HT6.out.1, HT6.out.2.kept HK7.out (Ne.symm (HGX.out bm HQ.out.fb))⟩
  refine hK.out _ _ HT7.out ?_
  clear hK K
  refine wpS_nil ?_
  go_simp
  have hm7 := HM7.out
  rw [HP.out.2, HPZ.out] at hm7
  have HMM : Hid (MapF enc64 w7 bm (posF (l.take n)) n) := Lib.hid hm7
  have HB7 := Lib.hid (HB6.out.kept HK7.out (Ne.symm HC.out.2.2.2.2))
  have R7 := Lib.hid (R6.out.kept HK7.out (Ne.symm HC.out.2.2.2.1))
  have K7 := Lib.hid (K6.out.trans (HK7.out.mono (T := F) (fun i _ e => e ▸ HQ.out.fb)) (fun _ _ e => e))
  have j0 := HT7.out.2.cell 0
  have j1 := HT7.out.2.cell 1
  have j2 := HT7.out.2.cell 2
  simp at j0 j1 j2
  clear hm7 HM7 HB6 HM6 R6 K6 HT6
  go_wp2
  go_ret
  have hln : (l.take n).length = n := by rw [List.length_take, HL.out]; omega
  refine ⟨rfl, ⟨⟨.slice (some ⟨gk, 0, none⟩) (l.take n).length cap, by rw [hln]; exact HB7.out, ?_, fun i hi => ?_⟩, by rw [hln]; exact HMM.out, HQ.out.fg, HQ.out.fb, fun e he => HQ.out.ok e (List.mem_of_mem_take he), HP.out.1, by rw [hln]; omega, fun i hi => Nat.lt_of_lt_of_le (HQ.out.lim i hi) K7.out.size⟩, K7.out⟩
  · obtain ⟨cur', r1, ⟨r2, r4⟩, r3⟩ := R7.out.ex
    refine ⟨by rw [flatG_len ent_len], .inr ⟨gk, cap, cur', by rw [hln], r1, by rw [hln]; omega, hcm, r2, ?_⟩⟩
    rw [hln]
    rw [flat_take l n (by rw [HL.out]; omega), ← r3, List.take_take, HL.out]
    congr 1
    omega
  · simp only [Value.ownBlock, Option.some.injEq] at hi
    exact hi ▸ HC.out.2.1
end Go.Proofs.Ytgpgcjdbppehjaa
