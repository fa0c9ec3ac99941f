/-
  spread.List with one state: Confirm, Len, walked.
-/
import Derived.Test.YtjkmehpokdaonaaSpr4
import Derived.Test.YtjkmehpokdaonaaRgn4
import Derived.Test.YtjkmehpokdaonaaOrd3
namespace Go.Proofs.Ytjkmehpokdaonaa
set_option linter.unusedVariables false
open Go.RowKit

set_option maxRecDepth 100000 in
set_option maxHeartbeats 2000000 in
/-- Confirm of a head of the one key. -/
theorem confirm_any (w : World) (g bm gk c : Nat) (r t : Int) (h o : Hd) (hh : h.ok) (ho : o.ok) (hk : o.key = h.key) (l : L1 w g bm gk c r t h) :
    Calls Try.prog 17 #[.pointer (some ⟨g, 0, none⟩), o.v] w fun e w' => e = .returned (.bool (newerOf o h == 0)) ∧ ((newerOf o h == 0) = true → LE w' g bm) ∧ ((newerOf o h == 0) = false → L1 w' g bm gk c r t h) ∧ Kept (fun i => i = g ∨ i = bm) w w' := by
  have hm : w.cell? ⟨g, 3, none⟩ = some (.map (some bm)) := l.blk.cell 3
  have HN := Lib.hid (fun (W : World) (h : W.cell? ⟨g, 3, none⟩ = some (.map (some bm))) => none_any W g bm h)
  have hg := l.blk.lt
  have HL := Lib.hid l
  have hne := l.map.ne_blk l.blk
  have Hok := Lib.hid (And.intro hh ho)
  have HK := Lib.hid hk
  clear l hh ho hk
  go_enter Try.func17, Try.ntmps17
  go_wp2_with (go_at_call 36; refine (HN.out _ (by rw [World.cell?_alloc_lt _ _ _ hg]; exact hm)).mono ?_; rintro e w' ⟨rfl, rfl⟩)
  have hb1 : Hid (Below w.heap.size w (w.alloc (.cells #[.int .u16 o.age, .int .u8 o.opts, .int .u8 o.typ, .int .u32 o.id, .int .u32 o.adv, .int .i32 o.seq, .int .u16 o.sum, .int .u16 o.len] 25)).drew) := ((Below.refl _ _).alloc (Nat.le_refl _) _).drew
  have HB : Hid (Blk (w.alloc (.cells #[.int .u16 o.age, .int .u8 o.opts, .int .u8 o.typ, .int .u32 o.id, .int .u32 o.adv, .int .i32 o.seq, .int .u16 o.sum, .int .u16 o.len] 25)).drew w.heap.size 25 #[.int .u16 o.age, .int .u8 o.opts, .int .u8 o.typ, .int .u32 o.id, .int .u32 o.adv, .int .i32 o.seq, .int .u16 o.sum, .int .u16 o.len]) := Blk.new _ _ _
  have HS : Hid ((fun W : World => L1 W g bm gk c r t h ∧ Blk W w.heap.size 25 #[.int .u16 o.age, .int .u8 o.opts, .int .u8 o.typ, .int .u32 o.id, .int .u32 o.adv, .int .i32 o.seq, .int .u16 o.sum, .int .u16 o.len]) (w.alloc (.cells #[.int .u16 o.age, .int .u8 o.opts, .int .u8 o.typ, .int .u32 o.id, .int .u32 o.adv, .int .i32 o.seq, .int .u16 o.sum, .int .u16 o.len] 25)).drew) := ⟨HL.out.later hb1.out, HB.out⟩
  have K1 : Hid (Kept (fun i => i = g ∨ i = bm) w (w.alloc (.cells #[.int .u16 o.age, .int .u8 o.opts, .int .u8 o.typ, .int .u32 o.id, .int .u32 o.adv, .int .i32 o.seq, .int .u16 o.sum, .int .u16 o.len] 25)).drew) := Kept.of_new hb1.out _
  clear hm hg HN HL hb1 HB
  refine wp_region_t (fun W : World => L1 W g bm gk c r t h ∧ Blk W w.heap.size 25 #[.int .u16 o.age, .int .u8 o.opts, .int .u8 o.typ, .int .u32 o.id, .int .u32 o.adv, .int .i32 o.seq, .int .u16 o.sum, .int .u16 o.len])
    (.take 0 <| .take 1 <| .take 2 <| .take 3 <| .take 4 <| .fork 5 10 (.take 6 <| .take 7 <| .take 8 <| .take 9 <| .one 10 <| .one 11 <| .take 12 .nil) (.one 5 <| .take 6 <| .take 7 <| .take 8 <| .take 9 <| .one 11 <| .take 12 .nil)) (by kernel_rfl) (fun _ d _ _ _ h => by cases d <;> exact h) ?_
  simp only [TStep.node, nthOp_zero, nthOp_succ]
  generalize (w.alloc (.cells #[.int .u16 o.age, .int .u8 o.opts, .int .u8 o.typ, .int .u32 o.id, .int .u32 o.adv, .int .i32 o.seq, .int .u16 o.sum, .int .u16 o.len] 25)).drew = w1 at *
  generalize w.heap.size = gp at *
  refine wpT_take HS (by rfl) (by intro W hW; go_simp; try with_reducible rfl) ?_
  refine wpT_take HS (by rfl) (by intro W hW; go_simp; try with_reducible rfl) ?_
  refine wpT_take HS (by rfl) (by intro W hW; go_simp; try with_reducible rfl) ?_
  refine wpT_take HS (by rfl) (by intro W hW; obtain ⟨hW1, hW2⟩ := hW; have j3 := hW1.blk.cell 3; clear hW1 hW2; simp at j3; go_simp; try with_reducible rfl) ?_
  refine wpT_take HS (by rfl) (by intro W hW; obtain ⟨hW1, hW2⟩ := hW; have j0 := hW2.cell 0; have j1 := hW2.cell 1; have j2 := hW2.cell 2; have j3 := hW2.cell 3; have j4 := hW2.cell 4; have j5 := hW2.cell 5; have j6 := hW2.cell 6; have j7 := hW2.cell 7; clear hW1 hW2; simp at j0 j1 j2 j3 j4 j5 j6 j7; go_simp; try with_reducible rfl) ?_
  refine wpT_fork (fun K hK => ?_) (fun K hK => ?_)
  · go_wp2_with (go_at_call 37; refine (key_any o w1).mono ?_; rintro e w2 ⟨rfl, hb2⟩; have H2 := Lib.hid hb2; clear hb2)
    have HS2 : Hid ((fun W : World => L1 W g bm gk c r t h ∧ Blk W gp 25 #[.int .u16 o.age, .int .u8 o.opts, .int .u8 o.typ, .int .u32 o.id, .int .u32 o.adv, .int .i32 o.seq, .int .u16 o.sum, .int .u16 o.len]) w2) := ⟨HS.out.1.later H2.out, HS.out.2.later H2.out⟩
    refine hK.out _ _ HS2.out ?_
    clear hK K
    refine wpT_take HS2 (by rfl) (fun W hW => exec_lookupL (a := h.key) keyT Try.underlying53 zeroState rfl hW.1.map rfl (by rw [← HK.out]; rfl)) ?_
    simp only [show lookedUp [(h.key, stV h none 0 0)] h.key zeroSt true = .tuple #[stV h none 0 0, .bool true] from by simp [lookedUp, findL]]
    refine wpT_take HS2 (by rfl) (by intro W hW; go_simp; try with_reducible rfl) ?_
    refine wpT_take HS2 (by rfl) (by intro W hW; go_simp; try with_reducible rfl) ?_
    refine wpT_take HS2 (by rfl) (by intro W hW; go_simp; try with_reducible rfl) ?_
    refine wpT_do fun K hK => ?_
    go_wp2
    refine hK.out _ _ ⟨HS2.out.1.later ((Below.refl _ _).alloc (Nat.le_refl _) _), HS2.out.2.later ((Below.refl _ _).alloc (Nat.le_refl _) _)⟩ ?_
    clear hK K
    refine wpT_do fun K hK => ?_
    go_wp2_with (refine wpList_store_row rfl 44 _ _ rfl w2.heap.size #[.int .u16 h.age, .int .u8 h.opts, .int .u8 h.typ, .int .u32 h.id, .int .u32 h.adv, .int .i32 h.seq, .int .u16 h.sum, .int .u16 h.len, .slice none 0 0] rfl rfl 44 _ (heap_alloc_new w2 _) info_state rfl (by simp [Value.oneCell']) ?_; rw [World.setRow_alloc_new])
    have hb3 : Hid (Below w2.heap.size w2 (w2.alloc (.cells #[.int .u16 h.age, .int .u8 h.opts, .int .u8 h.typ, .int .u32 h.id, .int .u32 h.adv, .int .i32 h.seq, .int .u16 h.sum, .int .u16 h.len, .slice none 0 0] 44))) := (Below.refl _ _).alloc (Nat.le_refl _) _
    have HS3 : Hid ((fun W : World => L1 W g bm gk c r t h ∧ Blk W gp 25 #[.int .u16 o.age, .int .u8 o.opts, .int .u8 o.typ, .int .u32 o.id, .int .u32 o.adv, .int .i32 o.seq, .int .u16 o.sum, .int .u16 o.len]) (w2.alloc (.cells #[.int .u16 h.age, .int .u8 h.opts, .int .u8 h.typ, .int .u32 h.id, .int .u32 h.adv, .int .i32 h.seq, .int .u16 h.sum, .int .u16 h.len, .slice none 0 0] 44))) := ⟨HS2.out.1.later hb3.out, HS2.out.2.later hb3.out⟩
    have HG : Hid (Blk (w2.alloc (.cells #[.int .u16 h.age, .int .u8 h.opts, .int .u8 h.typ, .int .u32 h.id, .int .u32 h.adv, .int .i32 h.seq, .int .u16 h.sum, .int .u16 h.len, .slice none 0 0] 44)) w2.heap.size 44 #[.int .u16 h.age, .int .u8 h.opts, .int .u8 h.typ, .int .u32 h.id, .int .u32 h.adv, .int .i32 h.seq, .int .u16 h.sum, .int .u16 h.len, .slice none 0 0]) := Blk.new _ _ _
    have K3 : Hid (Kept (fun i => i = g ∨ i = bm) w (w2.alloc (.cells #[.int .u16 h.age, .int .u8 h.opts, .int .u8 h.typ, .int .u32 h.id, .int .u32 h.adv, .int .i32 h.seq, .int .u16 h.sum, .int .u16 h.len, .slice none 0 0] 44))) := K1.out.trans (Kept.of_new (below_then H2.out hb3.out) _) (fun _ _ h => h)
    refine hK.out _ _ HS3.out ?_
    clear hK K HS HS2 K1 H2 hb3
    generalize w2.alloc (.cells #[.int .u16 h.age, .int .u8 h.opts, .int .u8 h.typ, .int .u32 h.id, .int .u32 h.adv, .int .i32 h.seq, .int .u16 h.sum, .int .u16 h.len, .slice none 0 0] 44) = w3 at *
    generalize w2.heap.size = gs at *
    refine wpT_take HS3 (by rfl) (by intro W hW; go_simp; try with_reducible rfl) ?_
    refine wpT_nil ?_
    have e0 := HS3.out.2.cell 0; have e1 := HS3.out.2.cell 1; have e2 := HS3.out.2.cell 2; have e3 := HS3.out.2.cell 3; have e4 := HS3.out.2.cell 4; have e5 := HS3.out.2.cell 5; have e6 := HS3.out.2.cell 6; have e7 := HS3.out.2.cell 7
    have i0 := HG.out.cell 0; have i1 := HG.out.cell 1; have i2 := HG.out.cell 2; have i3 := HG.out.cell 3; have i4 := HG.out.cell 4; have i5 := HG.out.cell 5; have i6 := HG.out.cell 6; have i7 := HG.out.cell 7
    simp at e0 e1 e2 e3 e4 e5 e6 e7 i0 i1 i2 i3 i4 i5 i6 i7
    rcases Decidable.em (newerOf o h = 0) with hn | hn
    · have hn2 := Lib.hid hn
      clear hn
      go_wp2_with (go_at_call 30; refine (newer_any o h w3 Hok.out.2 Hok.out.1).mono ?_; rintro e w5 ⟨rfl, hb5⟩; have H5 := Lib.hid hb5; clear hb5; rw [hn2.out]; have P5 := HS3.out.2.later H5.out; clear e0 e1 e2 e3 e4 e5 e6 e7 i0 i1 i2 i3 i4 i5 i6 i7; have e0 := P5.cell 0; have e1 := P5.cell 1; have e2 := P5.cell 2; have e3 := P5.cell 3; have e4 := P5.cell 4; have e5 := P5.cell 5; have e6 := P5.cell 6; have e7 := P5.cell 7; clear P5; simp at e0 e1 e2 e3 e4 e5 e6 e7)
      refine (key_any o w5).mono ?_
      rintro e w6 ⟨rfl, hb6⟩
      have F6 := HS3.out.1.later (below_then H5.out hb6)
      have K6 : Kept (fun i => i = g ∨ i = bm) w w6 := K3.out.trans (Kept.of_new (below_then H5.out hb6) _) (fun _ _ h => h)
      rw [HK.out]
      clear e0 e1 e2 e3 e4 e5 e6 e7 H5 hb6 HS3 HG
      go_wp2_with fail
      refine (drop1_any w6 g bm gk c r t h F6).mono ?_
      rintro e w7 ⟨rfl, hE, hK7⟩
      have H7 : Hid (LE w7 g bm ∧ Kept (fun i => i = g ∨ i = bm) w w7) := ⟨hE, K6.trans hK7 (fun _ _ h => h)⟩
      clear hE hK7 K6 F6
      go_wp2_with fail
      go_ret
      exact ⟨by rw [hn2.out]; rfl, fun _ => H7.out.1, fun h => absurd h (by rw [hn2.out]; decide), H7.out.2⟩
    · have hb : (newerOf o h == 0) = false := by rw [beq_eq_false_iff_ne]; exact hn
      have hb2 := Lib.hid hb
      go_wp2_with (go_at_call 30; refine (newer_any o h w3 Hok.out.2 Hok.out.1).mono ?_; rintro e w5 ⟨rfl, hb5⟩; have H5 := Lib.hid hb5; clear hb5)
      go_ret
      exact ⟨by rw [hb2.out]; rfl, fun h => absurd h (by rw [hb2.out]; decide), fun _ => HS3.out.1.later H5.out, K3.out.trans (Kept.of_new H5.out _) (fun _ _ h => h)⟩
  · go_wp2
    have hb2 : Hid (Below w1.heap.size w1 (w1.alloc (.cells #[.int .u16 0, .int .u8 0, .int .u8 0, .int .u32 0, .int .u32 0, .int .i32 0, .int .u16 0, .int .u16 0, .slice none 0 0] 44))) := (Below.refl _ _).alloc (Nat.le_refl _) _
    have HZ : Hid (Blk (w1.alloc (.cells #[.int .u16 0, .int .u8 0, .int .u8 0, .int .u32 0, .int .u32 0, .int .i32 0, .int .u16 0, .int .u16 0, .slice none 0 0] 44)) w1.heap.size 44 #[.int .u16 0, .int .u8 0, .int .u8 0, .int .u32 0, .int .u32 0, .int .i32 0, .int .u16 0, .int .u16 0, .slice none 0 0]) := Blk.new _ _ _
    have HS2 : Hid ((fun W : World => L1 W g bm gk c r t h ∧ Blk W gp 25 #[.int .u16 o.age, .int .u8 o.opts, .int .u8 o.typ, .int .u32 o.id, .int .u32 o.adv, .int .i32 o.seq, .int .u16 o.sum, .int .u16 o.len]) (w1.alloc (.cells #[.int .u16 0, .int .u8 0, .int .u8 0, .int .u32 0, .int .u32 0, .int .i32 0, .int .u16 0, .int .u16 0, .slice none 0 0] 44))) := ⟨HS.out.1.later hb2.out, HS.out.2.later hb2.out⟩
    refine hK.out _ _ HS2.out ?_
    clear hK K
    generalize w1.alloc (.cells #[.int .u16 0, .int .u8 0, .int .u8 0, .int .u32 0, .int .u32 0, .int .i32 0, .int .u16 0, .int .u16 0, .slice none 0 0] 44) = w2 at *
    refine wpT_do fun K hK => ?_
    go_wp2_with (go_at_call 37; refine (key_any o w2).mono ?_; rintro e w3 ⟨rfl, hb3⟩; have H3 := Lib.hid hb3; clear hb3)
    have HS3 : Hid ((fun W : World => L1 W g bm gk c r t h ∧ Blk W gp 25 #[.int .u16 o.age, .int .u8 o.opts, .int .u8 o.typ, .int .u32 o.id, .int .u32 o.adv, .int .i32 o.seq, .int .u16 o.sum, .int .u16 o.len]) w3) := ⟨HS2.out.1.later H3.out, HS2.out.2.later H3.out⟩
    have HZ3 : Blk w3 w1.heap.size 44 #[.int .u16 0, .int .u8 0, .int .u8 0, .int .u32 0, .int .u32 0, .int .i32 0, .int .u16 0, .int .u16 0, .slice none 0 0] := HZ.out.later H3.out
    refine hK.out _ _ HS3.out ?_
    clear hK K
    refine wpT_take HS3 (by rfl) (fun W hW => exec_lookupL (a := h.key) keyT Try.underlying53 zeroState rfl hW.1.map rfl (by rw [← HK.out]; rfl)) ?_
    simp only [show lookedUp [(h.key, stV h none 0 0)] h.key zeroSt true = .tuple #[stV h none 0 0, .bool true] from by simp [lookedUp, findL]]
    refine wpT_take HS3 (by rfl) (by intro W hW; go_simp; try with_reducible rfl) ?_
    refine wpT_take HS3 (by rfl) (by intro W hW; go_simp; try with_reducible rfl) ?_
    refine wpT_take HS3 (by rfl) (by intro W hW; go_simp; try with_reducible rfl) ?_
    refine wpT_do fun K hK => ?_
    go_wp2_with (refine wpList_store_row rfl 44 _ _ rfl w1.heap.size #[.int .u16 h.age, .int .u8 h.opts, .int .u8 h.typ, .int .u32 h.id, .int .u32 h.adv, .int .i32 h.seq, .int .u16 h.sum, .int .u16 h.len, .slice none 0 0] rfl rfl 44 _ HZ3 info_state rfl (by simp [Value.oneCell']) ?_)
    have hb4 : Below w1.heap.size w1 (w3.setRow w1.heap.size #[.int .u16 h.age, .int .u8 h.opts, .int .u8 h.typ, .int .u32 h.id, .int .u32 h.adv, .int .i32 h.seq, .int .u16 h.sum, .int .u16 h.len, .slice none 0 0]) := below_setRow (below_then hb2.out H3.out) (Nat.le_refl _) _
    have HS4 : Hid ((fun W : World => L1 W g bm gk c r t h ∧ Blk W gp 25 #[.int .u16 o.age, .int .u8 o.opts, .int .u8 o.typ, .int .u32 o.id, .int .u32 o.adv, .int .i32 o.seq, .int .u16 o.sum, .int .u16 o.len]) (w3.setRow w1.heap.size #[.int .u16 h.age, .int .u8 h.opts, .int .u8 h.typ, .int .u32 h.id, .int .u32 h.adv, .int .i32 h.seq, .int .u16 h.sum, .int .u16 h.len, .slice none 0 0])) := ⟨HS.out.1.later hb4, HS.out.2.later hb4⟩
    have HG : Hid (Blk (w3.setRow w1.heap.size #[.int .u16 h.age, .int .u8 h.opts, .int .u8 h.typ, .int .u32 h.id, .int .u32 h.adv, .int .i32 h.seq, .int .u16 h.sum, .int .u16 h.len, .slice none 0 0]) w1.heap.size 44 #[.int .u16 h.age, .int .u8 h.opts, .int .u8 h.typ, .int .u32 h.id, .int .u32 h.adv, .int .i32 h.seq, .int .u16 h.sum, .int .u16 h.len, .slice none 0 0]) := HZ3.setRow _
    have K3 : Hid (Kept (fun i => i = g ∨ i = bm) w (w3.setRow w1.heap.size #[.int .u16 h.age, .int .u8 h.opts, .int .u8 h.typ, .int .u32 h.id, .int .u32 h.adv, .int .i32 h.seq, .int .u16 h.sum, .int .u16 h.len, .slice none 0 0])) := K1.out.trans (Kept.of_new hb4 _) (fun _ _ h => h)
    refine hK.out _ _ HS4.out ?_
    clear hK K HS HS2 HS3 K1 H3 hb4 HZ3 HZ hb2
    generalize w3.setRow w1.heap.size #[.int .u16 h.age, .int .u8 h.opts, .int .u8 h.typ, .int .u32 h.id, .int .u32 h.adv, .int .i32 h.seq, .int .u16 h.sum, .int .u16 h.len, .slice none 0 0] = w4 at *
    generalize w1.heap.size = gs at *
    refine wpT_take HS4 (by rfl) (by intro W hW; go_simp; try with_reducible rfl) ?_
    refine wpT_nil ?_
    have e0 := HS4.out.2.cell 0; have e1 := HS4.out.2.cell 1; have e2 := HS4.out.2.cell 2; have e3 := HS4.out.2.cell 3; have e4 := HS4.out.2.cell 4; have e5 := HS4.out.2.cell 5; have e6 := HS4.out.2.cell 6; have e7 := HS4.out.2.cell 7
    have i0 := HG.out.cell 0; have i1 := HG.out.cell 1; have i2 := HG.out.cell 2; have i3 := HG.out.cell 3; have i4 := HG.out.cell 4; have i5 := HG.out.cell 5; have i6 := HG.out.cell 6; have i7 := HG.out.cell 7
    simp at e0 e1 e2 e3 e4 e5 e6 e7 i0 i1 i2 i3 i4 i5 i6 i7
    rcases Decidable.em (newerOf o h = 0) with hn | hn
    · have hn2 := Lib.hid hn
      clear hn
      go_wp2_with (go_at_call 30; refine (newer_any o h w4 Hok.out.2 Hok.out.1).mono ?_; rintro e w5 ⟨rfl, hb5⟩; have H5 := Lib.hid hb5; clear hb5; rw [hn2.out]; have P5 := HS4.out.2.later H5.out; clear e0 e1 e2 e3 e4 e5 e6 e7 i0 i1 i2 i3 i4 i5 i6 i7; have e0 := P5.cell 0; have e1 := P5.cell 1; have e2 := P5.cell 2; have e3 := P5.cell 3; have e4 := P5.cell 4; have e5 := P5.cell 5; have e6 := P5.cell 6; have e7 := P5.cell 7; clear P5; simp at e0 e1 e2 e3 e4 e5 e6 e7)
      refine (key_any o w5).mono ?_
      rintro e w6 ⟨rfl, hb6⟩
      have F6 := HS4.out.1.later (below_then H5.out hb6)
      have K6 : Kept (fun i => i = g ∨ i = bm) w w6 := K3.out.trans (Kept.of_new (below_then H5.out hb6) _) (fun _ _ h => h)
      rw [HK.out]
      clear e0 e1 e2 e3 e4 e5 e6 e7 H5 hb6 HS4 HG
      go_wp2_with fail
      refine (drop1_any w6 g bm gk c r t h F6).mono ?_
      rintro e w7 ⟨rfl, hE, hK7⟩
      have H7 : Hid (LE w7 g bm ∧ Kept (fun i => i = g ∨ i = bm) w w7) := ⟨hE, K6.trans hK7 (fun _ _ h => h)⟩
      clear hE hK7 K6 F6
      go_wp2_with fail
      go_ret
      exact ⟨by rw [hn2.out]; rfl, fun _ => H7.out.1, fun h => absurd h (by rw [hn2.out]; decide), H7.out.2⟩
    · have hb : (newerOf o h == 0) = false := by rw [beq_eq_false_iff_ne]; exact hn
      have hb2 := Lib.hid hb
      go_wp2_with (go_at_call 30; refine (newer_any o h w4 Hok.out.2 Hok.out.1).mono ?_; rintro e w5 ⟨rfl, hb5⟩; have H5 := Lib.hid hb5; clear hb5)
      go_ret
      exact ⟨by rw [hb2.out]; rfl, fun h => absurd h (by rw [hb2.out]; decide), fun _ => HS4.out.1.later H5.out, K3.out.trans (Kept.of_new H5.out _) (fun _ _ h => h)⟩

theorem len_any (w : World) (g bm n c : Nat) (A : Option Addr) (hs : w.cell? ⟨g, 2, none⟩ = some (.slice A n c)) (hm : w.cell? ⟨g, 3, none⟩ = some (.map (some bm))) :
    Calls Try.prog 22 #[.pointer (some ⟨g, 0, none⟩)] w fun e w' => e = .returned (.int .i64 n) ∧ w = w' := by
  go_enter Try.func22, Try.ntmps22
  go_wp2_with (go_at_call 36; refine (none_any w g bm hm).mono ?_; rintro e w' ⟨rfl, rfl⟩)
  go_ret
  exact ⟨rfl, rfl⟩
end Go.Proofs.Ytjkmehpokdaonaa
