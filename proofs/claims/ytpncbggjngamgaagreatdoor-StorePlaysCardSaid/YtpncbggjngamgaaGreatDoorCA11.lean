/-
  A call of both: Put. Printed by gen_one.py.
-/
import Derived.Test.YtpncbggjngamgaaGreatDoorCA10
namespace Go.Proofs.YtpncbggjngamgaaGreatDoor
set_option linter.unusedVariables false
open Go.RowKit

@[reducible] def OpS.v (o : OpS) : Value := .agg #[.int .u8 o.do_, .int .i64 o.now, .int .u16 o.s.h.age, .int .u8 o.s.h.opts, .int .u8 o.s.h.typ, .int .u32 o.s.h.id, .int .u32 o.s.h.adv, .int .i32 o.s.h.seq, .int .u16 o.s.h.sum, .int .u16 o.s.h.len, .slice o.s.A o.s.n o.s.c]
set_option maxRecDepth 100000 in
set_option maxHeartbeats 16000000 in
theorem one_put0 (base : Nat) (w : World) (g bm : Nat) (most : Int) (f : Ky3 → Option OneE) (N gd : Nat) (v : Value) (xs : List OneE) (gb : Nat) (G : Nat → Sl) (L : Nat → List Sl) (h : PB base w g bm most f N gd v xs gb G L) (o : OpS) (ho : o.ok w) (hs : o.s.n ≤ 1099511627776) (hob : 0 < o.s.n → ∀ ad, o.s.A = some ad → ad.block < base) (hc : o.do_ % 6 = 0) :
    Calls Tryz.prog 8 #[.pointer (some ⟨g, 0, none⟩), .pointer (some ⟨gd, 0, none⟩), o.v, .pointer (some ⟨gb, 0, none⟩)] w fun e w' => OneP base w w' g bm most f N gd v xs gb G L e := by
  obtain ⟨odo, onow, ⟨⟨oage, oopts, k1, k2, k3, oseq, osum, olen⟩, oA, on, oc, oB⟩⟩ := o
  have hd := ho.do_
  have hno := ho.now
  simp only at hd hno hs hob hc
  have hb1 : Below w.heap.size w (w.alloc (.cells #[.int .u8 odo, .int .i64 onow, .int .u16 oage, .int .u8 oopts, .int .u8 k1, .int .u32 k2, .int .u32 k3, .int .i32 oseq, .int .u16 osum, .int .u16 olen, .slice oA on oc] 63)) := (Below.refl _ _).alloc (Nat.le_refl _) _
  have HOb : Hid (Blk (w.alloc (.cells #[.int .u8 odo, .int .i64 onow, .int .u16 oage, .int .u8 oopts, .int .u8 k1, .int .u32 k2, .int .u32 k3, .int .i32 oseq, .int .u16 osum, .int .u16 olen, .slice oA on oc] 63)) w.heap.size 63 #[.int .u8 odo, .int .i64 onow, .int .u16 oage, .int .u8 oopts, .int .u8 k1, .int .u32 k2, .int .u32 k3, .int .i32 oseq, .int .u16 osum, .int .u16 olen, .slice oA on oc]) := Lib.hid (Blk.new _ _ _)
  have HP0 := Lib.hid h
  have HP := Lib.hid (h.later hb1)
  have HX := Lib.hid ((show SE.rd w (⟨⟨oage, oopts, k1, k2, k3, oseq, osum, olen⟩, oA, on, oc, oB⟩ : SE) from ⟨ho.s.head, ho.s.body, ho.s.oct, ho.s.cap, hs⟩).later hb1)
  have HB1 := Lib.hid hb1
  have c0 := HOb.out.cell 0; have c2 := HOb.out.cell 2; have c3 := HOb.out.cell 3; have c4 := HOb.out.cell 4; have c5 := HOb.out.cell 5; have c6 := HOb.out.cell 6; have c7 := HOb.out.cell 7; have c8 := HOb.out.cell 8; have c9 := HOb.out.cell 9
  simp only [List.getElem?_toArray, List.getElem?_cons_zero, List.getElem?_cons_succ] at c0 c2 c3 c4 c5 c6 c7 c8 c9
  have hw : IntKind.u8.wrap (odo % 6) = odo % 6 := by simp [IntKind.wrap, IntKind.bits, IntKind.signed]; omega
  have htm : odo.tmod 6 = odo % 6 := Int.tmod_eq_emod_of_nonneg hd.1
  clear h ho hb1
  show Calls Tryz.prog 8 #[.pointer (some ⟨g, 0, none⟩), .pointer (some ⟨gd, 0, none⟩), .agg #[.int .u8 odo, .int .i64 onow, .int .u16 oage, .int .u8 oopts, .int .u8 k1, .int .u32 k2, .int .u32 k3, .int .i32 oseq, .int .u16 osum, .int .u16 olen, .slice oA on oc], .pointer (some ⟨gb, 0, none⟩)] w fun e w' => OneP base w w' g bm most f N gd v xs gb G L e
  go_enter Tryz.func8, Tryz.ntmps8
  go_wp2_with fail
  clear c0 c2 c3 c4 c5 c6 c7 c8 c9
  generalize w.alloc (.cells #[.int .u8 odo, .int .i64 onow, .int .u16 oage, .int .u8 oopts, .int .u8 k1, .int .u32 k2, .int .u32 k3, .int .i32 oseq, .int .u16 osum, .int .u16 olen, .slice oA on oc] 63) = w1 at *
  refine (rkey_hd ⟨oage, oopts, k1, k2, k3, oseq, osum, olen⟩ w1).mono ?_
  rintro e w2 ⟨rfl, hb2⟩
  have HP2 := Lib.hid (HP.out.later hb2)
  have HX2 := Lib.hid (HX.out.later hb2)
  have HOb2 := Lib.hid (HOb.out.later hb2)
  have HB2 := Lib.hid (below_then HB1.out hb2)
  clear hb2 HP HX HOb HB1
  have hb3 : Below w2.heap.size w2 (w2.alloc (.cells #[.int .u8 k1, .int .u32 k2, .int .u32 k3] 68)) := (Below.refl _ _).alloc (Nat.le_refl _) _
  have HK3 : Hid (Blk (w2.alloc (.cells #[.int .u8 k1, .int .u32 k2, .int .u32 k3] 68)) w2.heap.size 68 #[.int .u8 k1, .int .u32 k2, .int .u32 k3]) := Lib.hid (Blk.new _ _ _)
  have HP3 := Lib.hid (HP2.out.later hb3)
  have HX3 := Lib.hid (HX2.out.later hb3)
  have HO3 := Lib.hid (HOb2.out.later hb3)
  have HB3 := Lib.hid (below_then HB2.out hb3)
  clear hb3 HP2 HX2 HOb2
  have c0 := HO3.out.cell 0; have c1 := HO3.out.cell 1; have c2 := HO3.out.cell 2; have c3 := HO3.out.cell 3; have c4 := HO3.out.cell 4; have c5 := HO3.out.cell 5; have c6 := HO3.out.cell 6; have c7 := HO3.out.cell 7; have c8 := HO3.out.cell 8; have c9 := HO3.out.cell 9; have c10 := HO3.out.cell 10
  have b0 := HK3.out.cell 0; have b1 := HK3.out.cell 1; have b2 := HK3.out.cell 2
  simp only [List.getElem?_toArray, List.getElem?_cons_zero, List.getElem?_cons_succ] at c0 c1 c2 c3 c4 c5 c6 c7 c8 c9 c10 b0 b1 b2
  go_wp2_with fail
  clear c0 c1 c2 c3 c4 c5 c6 c7 c8 c9 c10 b0 b1 b2 hw htm HK3
  generalize w2.alloc (.cells #[.int .u8 k1, .int .u32 k2, .int .u32 k3] 68) = w3 at *
  refine (wideState_any (⟨⟨oage, oopts, k1, k2, k3, oseq, osum, olen⟩, oA, on, oc, oB⟩ : SE) w3 HX3.out).mono ?_
  rintro e w4 ⟨gi, rfl, hgi, hBi, hb4⟩
  have HGi := Lib.hid hgi
  have HBi4 := Lib.hid hBi
  have HP4 := Lib.hid (HP3.out.later hb4)
  have HX4 := Lib.hid (HX3.out.later hb4)
  have HO4 := Lib.hid (HO3.out.later hb4)
  have HB4 := Lib.hid (below_then HB3.out hb4)
  have HS3 := Lib.hid HB3.out.size
  clear hgi hBi hb4 HP3 HX3 HO3 HB3
  have hb5 : Below w4.heap.size w4 (w4.alloc (.cells #[.int .u16 oage, .int .u8 oopts, .int .u8 k1, .int .u32 k2, .int .u32 k3, .int .i32 oseq, .int .u16 osum, .int .u16 olen, .slice (some ⟨gi, 0, none⟩) on (on + 64)] 61)) := (Below.refl _ _).alloc (Nat.le_refl _) _
  have HIn : Hid (Blk (w4.alloc (.cells #[.int .u16 oage, .int .u8 oopts, .int .u8 k1, .int .u32 k2, .int .u32 k3, .int .i32 oseq, .int .u16 osum, .int .u16 olen, .slice (some ⟨gi, 0, none⟩) on (on + 64)] 61)) w4.heap.size 61 #[.int .u16 oage, .int .u8 oopts, .int .u8 k1, .int .u32 k2, .int .u32 k3, .int .i32 oseq, .int .u16 osum, .int .u16 olen, .slice (some ⟨gi, 0, none⟩) on (on + 64)]) := Lib.hid (Blk.new _ _ _)
  have HBi := Lib.hid (HBi4.out.later hb5)
  have HP5 := Lib.hid (HP4.out.later hb5)
  have HX5 := Lib.hid (HX4.out.later hb5)
  have HO5 := Lib.hid (HO4.out.later hb5)
  have HB5 := Lib.hid (below_then HB4.out hb5)
  have hgl : gi < w4.heap.size := HBi4.out.lt
  have hi4 : (⟨⟨oage, oopts, k1, k2, k3, oseq, osum, olen⟩, some ⟨gi, 0, none⟩, on, on + 64, oB⟩ : SE).rd w4 := ⟨HX4.out.head, (by
    have hbl : oB.length = on := HX4.out.bl
    have h1 := (HBi4.out.reads (n := oB.length) (by simp only [u8s_length, wide_length]; omega)).more (B' := w4.heap.size) (by omega)
    rw [u8s_take, wide_take, hbl] at h1
    exact h1), HX4.out.oct, ⟨by simp only; omega, by simp only; omega⟩, hs⟩
  have HI5 := Lib.hid (hi4.later hb5)
  clear hb5 hi4 HP4 HX4 HO4 HBi4
  go_wp2_with fail
  have hsz4 : w.heap.size ≤ w4.heap.size := HB4.out.size
  generalize hgin : w4.heap.size = gin at *
  generalize w4.alloc (.cells #[.int .u16 oage, .int .u8 oopts, .int .u8 k1, .int .u32 k2, .int .u32 k3, .int .i32 oseq, .int .u16 osum, .int .u16 olen, .slice (some ⟨gi, 0, none⟩) on (on + 64)] 61) = w5 at *
  have HGin : Hid (gin < w5.heap.size) := Lib.hid HIn.out.lt
  clear HB4
  have hbd : Below w5.heap.size w5 w5.drew := (Below.refl _ _).drew
  have HS : Hid ((fun W : World => Blk W w.heap.size 63 #[.int .u8 odo, .int .i64 onow, .int .u16 oage, .int .u8 oopts, .int .u8 k1, .int .u32 k2, .int .u32 k3, .int .i32 oseq, .int .u16 osum, .int .u16 olen, .slice oA on oc] ∧ Blk W gin 61 #[.int .u16 oage, .int .u8 oopts, .int .u8 k1, .int .u32 k2, .int .u32 k3, .int .i32 oseq, .int .u16 osum, .int .u16 olen, .slice (some ⟨gi, 0, none⟩) on (on + 64)]) w5.drew) := Lib.hid ⟨HO5.out.later hbd, HIn.out.later hbd⟩
  have HP6 := Lib.hid (HP5.out.later hbd)
  have HX6 := Lib.hid (HX5.out.later hbd)
  have HI6 := Lib.hid (HI5.out.later hbd)
  have HBi6 := Lib.hid (HBi.out.later hbd)
  have HB6 := Lib.hid HB5.out.drew
  have HZ6 : Hid (gin < w5.drew.heap.size) := Lib.hid (Nat.lt_of_lt_of_le HGin.out hbd.size)
  clear hbd HO5 HIn HP5 HX5 HI5 HBi HB5 HGin
  refine wp_region_s (fun W : World => Blk W w.heap.size 63 #[.int .u8 odo, .int .i64 onow, .int .u16 oage, .int .u8 oopts, .int .u8 k1, .int .u32 k2, .int .u32 k3, .int .i32 oseq, .int .u16 osum, .int .u16 olen, .slice oA on oc] ∧ Blk W gin 61 #[.int .u16 oage, .int .u8 oopts, .int .u8 k1, .int .u32 k2, .int .u32 k3, .int .i32 oseq, .int .u16 osum, .int .u16 olen, .slice (some ⟨gi, 0, none⟩) on (on + 64)]) [(0, true), (1, true), (5, true), (6, true), (8, true), (2, true), (3, true), (7, true), (9, true), (4, false), (10, false), (11, true), (12, true), (14, true), (13, true), (15, true), (16, false), (17, true), (18, true), (19, true), (20, false), (21, true), (22, true)] (by kernel_rfl) (fun _ d _ _ _ h => by cases d <;> exact h) ?_
  simp only [List.map_cons, List.map_nil, nthOp_zero, nthOp_succ]
  generalize w5.drew = w6 at *
  refine wpS_take HS (by kernel_rfl) (by intro W hW; clear hW; go_simp; try with_reducible rfl) ?_
  refine wpS_take HS (by kernel_rfl) (by intro W hW; clear hW; go_simp; try with_reducible rfl) ?_
  refine wpS_take HS (by kernel_rfl) (by intro W hW; clear hW; go_simp; try with_reducible rfl) ?_
  refine wpS_take HS (by kernel_rfl) (by intro W hW; clear hW; go_simp; try with_reducible rfl) ?_
  refine wpS_take HS (by kernel_rfl) (by intro W hW; clear hW; go_simp; try with_reducible rfl) ?_
  refine wpS_take HS (by kernel_rfl) (by intro W hW; have j0 := hW.1.cell 0; have j1 := hW.1.cell 1; simp only [List.getElem?_toArray, List.getElem?_cons_zero, List.getElem?_cons_succ] at j0 j1; clear hW; go_simp; try with_reducible rfl) ?_
  refine wpS_take HS (by kernel_rfl) (fun W hW => exec_load_row rfl rfl hW.2 Tryz.underlying61 rfl info_state) ?_
  refine wpS_take HS (by kernel_rfl) (by intro W hW; have j0 := hW.1.cell 0; have j1 := hW.1.cell 1; simp only [List.getElem?_toArray, List.getElem?_cons_zero, List.getElem?_cons_succ] at j0 j1; clear hW; go_simp; try with_reducible rfl) ?_
  refine wpS_take HS (by kernel_rfl) (by intro W hW; have j0 := hW.1.cell 0; have j1 := hW.1.cell 1; have j2 := hW.1.cell 2; have j3 := hW.1.cell 3; have j4 := hW.1.cell 4; have j5 := hW.1.cell 5; have j6 := hW.1.cell 6; have j7 := hW.1.cell 7; have j8 := hW.1.cell 8; have j9 := hW.1.cell 9; have j10 := hW.1.cell 10; simp only [List.getElem?_toArray, List.getElem?_cons_zero, List.getElem?_cons_succ] at j0 j1 j2 j3 j4 j5 j6 j7 j8 j9 j10; clear hW; go_simp; try with_reducible rfl) ?_
  go_simp
  by_cases hneg : onow < 0
  · refine wpS_do fun K hK => ?_
    go_wp2_with fail
    refine (stput_neg w6 g bm (HP6.out.p.q.blk.cell 0) (⟨⟨oage, oopts, k1, k2, k3, oseq, osum, olen⟩, some ⟨gi, 0, none⟩, on, on + 64, oB⟩ : SE) onow hneg).mono ?_
    rintro e w7 ⟨rfl, hb7⟩
    have HP7 := Lib.hid (HP6.out.later hb7)
    have HX7 := Lib.hid (HX6.out.later hb7)
    have HI7 := Lib.hid (HI6.out.later hb7)
    have HBi7 := Lib.hid (HBi6.out.later hb7)
    have HB7 := Lib.hid (below_then HB6.out hb7)
    have HS7 : Hid ((fun W : World => Blk W w.heap.size 63 #[.int .u8 odo, .int .i64 onow, .int .u16 oage, .int .u8 oopts, .int .u8 k1, .int .u32 k2, .int .u32 k3, .int .i32 oseq, .int .u16 osum, .int .u16 olen, .slice oA on oc] ∧ Blk W gin 61 #[.int .u16 oage, .int .u8 oopts, .int .u8 k1, .int .u32 k2, .int .u32 k3, .int .i32 oseq, .int .u16 osum, .int .u16 olen, .slice (some ⟨gi, 0, none⟩) on (on + 64)]) w7) := Lib.hid ⟨HS.out.1.later hb7, HS.out.2.later hb7⟩
    have HZ7 : Hid (gin < w7.heap.size) := Lib.hid (Nat.lt_of_lt_of_le HZ6.out hb7.size)
    clear hb7 HP6 HX6 HI6 HBi6 HB6 HS
    go_wp2_with fail
    refine hK.out _ _ HS7.out ?_
    clear hK K
    refine wpS_do fun K hK => ?_
    go_wp2_with fail
    refine (put11_neg w7 gd (⟨⟨oage, oopts, k1, k2, k3, oseq, osum, olen⟩, oA, on, oc, oB⟩ : SE) onow hneg).mono ?_
    rintro e w8 ⟨rfl, hb8⟩
    have HP8 := Lib.hid (HP7.out.later hb8)
    have HX8 := Lib.hid (HX7.out.later hb8)
    have HI8 := Lib.hid (HI7.out.later hb8)
    have HBi8 := Lib.hid (HBi7.out.later hb8)
    have HB8 := Lib.hid (below_then HB7.out hb8)
    have HS8 : Hid ((fun W : World => Blk W w.heap.size 63 #[.int .u8 odo, .int .i64 onow, .int .u16 oage, .int .u8 oopts, .int .u8 k1, .int .u32 k2, .int .u32 k3, .int .i32 oseq, .int .u16 osum, .int .u16 olen, .slice oA on oc] ∧ Blk W gin 61 #[.int .u16 oage, .int .u8 oopts, .int .u8 k1, .int .u32 k2, .int .u32 k3, .int .i32 oseq, .int .u16 osum, .int .u16 olen, .slice (some ⟨gi, 0, none⟩) on (on + 64)]) w8) := Lib.hid ⟨HS7.out.1.later hb8, HS7.out.2.later hb8⟩
    clear hb8 HP7 HX7 HI7 HBi7 HB7 HS7
    go_wp2_with fail
    refine hK.out _ _ HS8.out ?_
    clear hK K
    have HU : Hid (OneR base w w8 g bm most f N gd v xs gb G L f N v xs G L) := Lib.hid ⟨HP8.out, Kept.of_new HB8.out _, fun b hb => .inl hb, BagUp.refl _ _ _ _, fun _ _ => rfl⟩
    have HNw : Hid ((∀ k x, f k = some x → ∀ b, x.s.b.ownBlock = some b → b ≠ gi) ∧ (∀ x ∈ xs, ∀ b, x.s.b.ownBlock = some b → b ≠ gi) ∧ ∀ s ∈ L 0, ∀ b, s.v.ownBlock = some b → b ≠ gi) := Lib.hid ⟨fun k x hx b hb => Nat.ne_of_lt (Nat.lt_of_lt_of_le (HP0.out.lt8.1 k x hx b hb) (Nat.le_trans HS3.out HGi.out)), fun x hx b hb => Nat.ne_of_lt (Nat.lt_of_lt_of_le (HP0.out.lt8.2.1 x hx b hb) (Nat.le_trans HS3.out HGi.out)), fun s hs b hb => Nat.ne_of_lt (Nat.lt_of_lt_of_le (HP0.out.lt8.2.2 s hs b hb) (Nat.le_trans HS3.out HGi.out))⟩
    clear HP8 HB8
    refine wpS_take HS8 (by kernel_rfl) (by intro W hW; clear hW; go_simp; try with_reducible rfl) ?_
    refine wpS_take HS8 (by kernel_rfl) (by intro W hW; clear hW; go_simp; try with_reducible rfl) ?_
    refine wpS_take HS8 (by kernel_rfl) (by intro W hW; clear hW; go_simp; try with_reducible rfl) ?_
    refine wpS_take HS8 (by kernel_rfl) (fun W hW => exec_load_row rfl rfl hW.2 Tryz.underlying61 rfl info_state) ?_
    refine wpS_take HS8 (by kernel_rfl) (by intro W hW; have j0 := hW.1.cell 0; have j1 := hW.1.cell 1; have j2 := hW.1.cell 2; have j3 := hW.1.cell 3; have j4 := hW.1.cell 4; have j5 := hW.1.cell 5; have j6 := hW.1.cell 6; have j7 := hW.1.cell 7; have j8 := hW.1.cell 8; have j9 := hW.1.cell 9; have j10 := hW.1.cell 10; simp only [List.getElem?_toArray, List.getElem?_cons_zero, List.getElem?_cons_succ] at j0 j1 j2 j3 j4 j5 j6 j7 j8 j9 j10; clear hW; go_simp; try with_reducible rfl) ?_
    go_simp
    refine wpS_do fun K hK => ?_
    go_wp2_with fail
    refine (eqState_at (⟨⟨oage, oopts, k1, k2, k3, oseq, osum, olen⟩, some ⟨gi, 0, none⟩, on, on + 64, oB⟩ : SE) (⟨⟨oage, oopts, k1, k2, k3, oseq, osum, olen⟩, oA, on, oc, oB⟩ : SE) w8 HI8.out HX8.out rfl rfl).mono ?_
    rintro e w9 ⟨rfl, hb9⟩
    have HBi9 := Lib.hid (HBi8.out.later hb9)
    have HS9 : Hid ((fun W : World => Blk W w.heap.size 63 #[.int .u8 odo, .int .i64 onow, .int .u16 oage, .int .u8 oopts, .int .u8 k1, .int .u32 k2, .int .u32 k3, .int .i32 oseq, .int .u16 osum, .int .u16 olen, .slice oA on oc] ∧ Blk W gin 61 #[.int .u16 oage, .int .u8 oopts, .int .u8 k1, .int .u32 k2, .int .u32 k3, .int .i32 oseq, .int .u16 osum, .int .u16 olen, .slice (some ⟨gi, 0, none⟩) on (on + 64)]) w9) := Lib.hid ⟨HS8.out.1.later hb9, HS8.out.2.later hb9⟩
    have HU9 := Lib.hid (HU.out.later hb9)
    have HBl := Lib.hid (show oB.length = on from HX8.out.bl)
    clear hb9 HS8 HX8 HI8 HBi8 HU
    go_wp2_with fail
    refine hK.out _ _ HS9.out ?_
    clear hK K
    refine wpS_take HS9 (by kernel_rfl) (by intro W hW; clear hW; go_simp; try with_reducible rfl) ?_
    refine wpS_take HS9 (by kernel_rfl) (by intro W hW; clear hW; go_simp; try with_reducible rfl) ?_
    refine wpS_take HS9 (by kernel_rfl) (fun W hW => exec_load_row rfl rfl hW.2 Tryz.underlying61 rfl info_state) ?_
    go_simp
    refine wpS_do fun K hK => ?_
    go_wp2_with fail
    refine (spareState_yes ⟨oage, oopts, k1, k2, k3, oseq, osum, olen⟩ gi on oB w9 HBi9.out HBl.out hs).mono ?_
    rintro e w10 ⟨rfl, hb10⟩
    have HBi10 := Lib.hid (HBi9.out.later hb10)
    have HS10 : Hid ((fun W : World => Blk W w.heap.size 63 #[.int .u8 odo, .int .i64 onow, .int .u16 oage, .int .u8 oopts, .int .u8 k1, .int .u32 k2, .int .u32 k3, .int .i32 oseq, .int .u16 osum, .int .u16 olen, .slice oA on oc] ∧ Blk W gin 61 #[.int .u16 oage, .int .u8 oopts, .int .u8 k1, .int .u32 k2, .int .u32 k3, .int .i32 oseq, .int .u16 osum, .int .u16 olen, .slice (some ⟨gi, 0, none⟩) on (on + 64)]) w10) := Lib.hid ⟨HS9.out.1.later hb10, HS9.out.2.later hb10⟩
    have HU10 := Lib.hid (HU9.out.later hb10)
    clear hb10 HS9 HBi9 HU9
    go_wp2_with fail
    refine hK.out _ _ HS10.out ?_
    clear hK K
    refine wpS_take HS10 (by kernel_rfl) (by intro W hW; clear hW; go_simp; try with_reducible rfl) ?_
    refine wpS_take HS10 (by kernel_rfl) (by intro W hW; clear hW; go_simp; try with_reducible rfl) ?_
    refine wpS_nil ?_
    go_simp
    go_wp2_with fail
    have HIn := Lib.hid HS10.out.2
    clear HS10
    go_loopw [12] (fun iv wr => ∃ i : Nat, iv = .int .i64 i ∧ i ≤ on ∧ Hid (∃ zs : List Int, zs.length = on + 64 ∧ Blk wr gi 5 (u8s zs).toArray) ∧ Hid (Kept (fun b => b = gi) w10 wr)) (fun iv _ => on - (intOf iv).toNat)
    case atStart => exact ⟨0, rfl, Nat.zero_le _, Lib.hid ⟨wide oB, by rw [wide_length, HBl.out], HBi10.out⟩, Lib.hid (Kept.refl _ _)⟩
    case round =>
      obtain ⟨i, rfl, hi, hz, hk⟩ := hrel
      obtain ⟨zs, hzl, hzb⟩ := hz.out
      have HZb := Lib.hid hzb
      have HIr := Lib.hid (HIn.out.kept hk.out (blk_ne HIn.out HBi10.out (by decide)))
      have i8 := HIr.out.cell 8
      simp only [List.getElem?_toArray, List.getElem?_cons_zero, List.getElem?_cons_succ] at i8
      by_cases hlt : i < on
      · have hltI : (i : Int) < on := by omega
        obtain ⟨z, hzz⟩ : ∃ z, zs[i]? = some z := ⟨zs[i]'(by omega), List.getElem?_eq_getElem _⟩
        have e0 : wr.cell? ⟨gi, i, none⟩ = some (.int .u8 z) := by rw [hzb.cell]; simp [u8s, hzz]
        have f0 := hzb.frozen i
        clear hzb hzz
        go_wp2_with fail
        go_roundw
        case rel =>
          refine ⟨i + 1, by go_num, by omega, Lib.hid ⟨zs.set i (IntKind.u8.wrap (z + 1)), by rw [List.length_set]; exact hzl, ?_⟩, Lib.hid (hk.out.trans (kept_setC wr gi i _) (fun _ _ h => h))⟩
          have h1 := HZb.out.set_ i (.int .u8 (IntKind.u8.wrap (z + 1)))
          rw [List.setIfInBounds_toArray, u8s_set] at h1
          exact h1
        case measure => simp [intOf]; omega
      · obtain rfl : i = on := by omega
        clear hzb
        go_wp2_with fail
        go_ret
        refine ⟨rfl, f, N, v, xs, G, L, ?_⟩
        exact HU10.out.marked hk.out HBi10.out HNw.out (Nat.le_trans HS3.out HGi.out)
  · have hn : 0 ≤ onow ∧ onow ≤ 9223372036854775807 := ⟨by omega, hno.2⟩
    by_cases hroom : (f (k1, k2, k3)).isSome = true ∨ (N : Int) < most
    · skip
      refine wpS_do fun K hK => ?_
      go_wp2_with fail
      refine (stputo_any w6 g bm most f N HP6.out.p.q (⟨⟨oage, oopts, k1, k2, k3, oseq, osum, olen⟩, some ⟨gi, 0, none⟩, on, on + 64, oB⟩ : SE) HI6.out onow hn hroom).mono ?_
      rintro e w7 ⟨x', rfl, ph, pB, pn, pq, pk, po⟩
      have HQ7 := Lib.hid (And.intro ph (And.intro pB (And.intro pq po)))
      have HKa := Lib.hid ((Kept.of_new HB6.out (fun b => PairF bm gd v b ∨ BagF gb G b)).trans pk (fun b _ e => .inl (.inl e)))
      have HR7 := Lib.hid (HP6.out.p.r.map HP6.out.p.q.map pk)
      have HBg7 := Lib.hid (HP6.out.b.map HP6.out.p.q.map pk)
      have HOw7 : Hid (∀ k x, f k = some x → x.s.ok base w7) := Lib.hid fun k x hx => (by
        have h0 := HP6.out.p.own k x hx
        exact ⟨h0.head, own_kept h0.body pk (fun b hb => own_ne_mapF h0.body HP6.out.p.q.map b hb), h0.oct, h0.len⟩)
      have hgm : gi ≠ bm := fun e => HP6.out.p.q.map.ne_blk HBi6.out e.symm
      have HX7 := Lib.hid (HX6.out.kept2 pk (rd_ne_map HX6.out HP6.out.p.q.map))
      have HI7 := Lib.hid (HI6.out.kept2 pk (rd_ne_map HI6.out HP6.out.p.q.map))
      have HBi7 := Lib.hid (HBi6.out.kept pk hgm)
      have HZ7 : Hid (gin < w7.heap.size) := Lib.hid (Nat.lt_of_lt_of_le HZ6.out pk.size)
      have HS7 : Hid ((fun W : World => Blk W w.heap.size 63 #[.int .u8 odo, .int .i64 onow, .int .u16 oage, .int .u8 oopts, .int .u8 k1, .int .u32 k2, .int .u32 k3, .int .i32 oseq, .int .u16 osum, .int .u16 olen, .slice oA on oc] ∧ Blk W gin 61 #[.int .u16 oage, .int .u8 oopts, .int .u8 k1, .int .u32 k2, .int .u32 k3, .int .i32 oseq, .int .u16 osum, .int .u16 olen, .slice (some ⟨gi, 0, none⟩) on (on + 64)]) w7) := Lib.hid ⟨HS.out.1.kept pk (fun e => HP6.out.p.q.map.ne_blk HS.out.1 e.symm), HS.out.2.kept pk (fun e => HP6.out.p.q.map.ne_blk HS.out.2 e.symm)⟩
      have HBe6 := Lib.hid HP6.out.base_le
      have HPS := Lib.hid (And.intro HP6.out.p.l (And.intro HP6.out.p.n (And.intro HP6.out.p.lim (And.intro HP6.out.p.hbm (And.intro HP6.out.p.hgd (And.intro HP6.out.hgb HP6.out.dj))))))
      have HSz6 : Hid (w.heap.size ≤ w6.heap.size ∧ w6.heap.size ≤ w7.heap.size) := Lib.hid ⟨HB6.out.size, pk.size⟩
      clear ph pB pn pq pk po HP6 HX6 HI6 HBi6 HS HB6 hgm
      go_wp2_with fail
      refine hK.out _ _ HS7.out ?_
      clear hK K
      refine wpS_do fun K hK => ?_
      go_wp2_with fail
      refine (put11 base w7 gd v most xs HR7.out HPS.out.1.ascL (by have := HBe6.out; have := HSz6.out.2; omega) (by have := HPS.out.2.1; have := HPS.out.2.2.1; omega) (⟨⟨oage, oopts, k1, k2, k3, oseq, osum, olen⟩, oA, on, oc, oB⟩ : SE) HX7.out onow hn).mono ?_
      rintro e w8 (⟨y', v', xs', rfl, hr⟩ | ⟨_, hno2, hfull, _⟩)
      · have HR8 := Lib.hid hr
        have hst := HQ7.out.2.2.1.ref (base := base) (fun k x hx => by
          unfold updK at hx
          by_cases e : k = (⟨⟨oage, oopts, k1, k2, k3, oseq, osum, olen⟩, some ⟨gi, 0, none⟩, on, on + 64, oB⟩ : SE).key
          · rw [if_pos e] at hx
            injection hx with hx
            rw [← hx]
            exact HQ7.out.2.2.2.mono HBe6.out
          · rw [if_neg e] at hx
            exact HOw7.out k x hx) HR7.out hr.k
        have HSt8 := Lib.hid hst
        have HBg8 := Lib.hid (HBg7.out.ref HR7.out hr.k)
        have hgr : ∀ {gg : Nat} {cs : Array Value} {t : TypeId}, Blk w7 gg t cs → t ≠ 31 → 108 ≠ t → ¬ (gg = gd ∨ v.ownBlock = some gg) := fun hB h1 h2 e => by
          rcases e with e | e
          · exact blk_ne hB HR7.out.blk h1 e
          · exact own_blk_ne HR7.out.row hB h2 e
        have HBi8 := Lib.hid (HBi7.out.kept hr.k (hgr HBi7.out (by decide) (by decide)))
        have HS8 : Hid ((fun W : World => Blk W w.heap.size 63 #[.int .u8 odo, .int .i64 onow, .int .u16 oage, .int .u8 oopts, .int .u8 k1, .int .u32 k2, .int .u32 k3, .int .i32 oseq, .int .u16 osum, .int .u16 olen, .slice oA on oc] ∧ Blk W gin 61 #[.int .u16 oage, .int .u8 oopts, .int .u8 k1, .int .u32 k2, .int .u32 k3, .int .i32 oseq, .int .u16 osum, .int .u16 olen, .slice (some ⟨gi, 0, none⟩) on (on + 64)]) w8) := Lib.hid ⟨HS7.out.1.kept hr.k (hgr HS7.out.1 (by decide) (by decide)), HS7.out.2.kept hr.k (hgr HS7.out.2 (by decide) (by decide))⟩
        have hoff : 0 < on → ∀ ad, oA = some ad → ad.block ≠ gd ∧ v.ownBlock ≠ some ad.block := fun h0 ad hA => by
          have h1 := hob h0 ad hA
          refine ⟨by have := HPS.out.2.2.2.2.1; omega, fun e => ?_⟩
          have := (own_ge HR7.out.row e).1
          omega
        have HX8 : Hid ((⟨⟨oage, oopts, k1, k2, k3, oseq, osum, olen⟩, oA, on, oc, oB⟩ : SE).rd w8) := Lib.hid (HX7.out.kept2 hr.k (fun h0 ad hA e => by rcases e with e | e; exact (hoff h0 ad hA).1 e; exact (hoff h0 ad hA).2 e))
        have HI8 : Hid ((⟨⟨oage, oopts, k1, k2, k3, oseq, osum, olen⟩, some ⟨gi, 0, none⟩, on, on + 64, oB⟩ : SE).rd w8) := Lib.hid (HI7.out.kept2 hr.k (fun h0 ad hA => by injection hA with hA; subst hA; exact hgr HBi7.out (by decide) (by decide)))
        have HZ8 : Hid (gin < w8.heap.size) := Lib.hid (Nat.lt_of_lt_of_le HZ7.out hr.k.size)
        have hiso : (f (k1, k2, k3)).isSome = (rowAt xs (k1, k2, k3)).isSome := HPS.out.1.iso _
        have hsz7 : w.heap.size ≤ w7.heap.size := Nat.le_trans HSz6.out.1 HSz6.out.2
        have hgi6 : gi < w6.heap.size := by have := HZ6.out; omega
        have hxm : ∀ z ∈ xs', z ∈ xs ∨ z = ⟨y', onow⟩ := fun z hz => by
          have h1 := hr.row.1.rowAt hz
          rw [hr.row.2] at h1
          by_cases e : z.s.key = (⟨y', onow⟩ : OneE).s.key
          · rw [if_pos e] at h1; injection h1 with h1; exact .inr h1.symm
          · rw [if_neg e] at h1; exact .inl (rowAt_some h1).1
        have hyk : y'.key = (k1, k2, k3) := by show (y'.h.typ, y'.h.id, y'.h.adv) = _; rw [hr.h]
        have hxk : x'.key = (k1, k2, k3) := by show (x'.h.typ, x'.h.id, x'.h.adv) = _; rw [HQ7.out.1]
        have hfm : ∀ k x, updK f (k1, k2, k3) ⟨x', onow⟩ k = some x → x = ⟨x', onow⟩ ∨ f k = some x := fun k x hx => by
          unfold updK at hx
          by_cases e : k = (k1, k2, k3)
          · rw [if_pos e] at hx; injection hx with hx; exact .inl hx.symm
          · rw [if_neg e] at hx; exact .inr hx
        have hxb : ∀ b, x'.b.ownBlock = some b → w6.heap.size ≤ b := fun b hb => (own_ge HQ7.out.2.2.2.body hb).1
        have hyb : ∀ b, y'.b.ownBlock = some b → w7.heap.size ≤ b := fun b hb => (own_ge hr.ok.body hb).1
        have HU : Hid (OneR base w w8 g bm most f N gd v xs gb G L (updK f (k1, k2, k3) ⟨x', onow⟩) (if (f (k1, k2, k3)).isSome = true then N else N + 1) v' xs' G L) := Lib.hid ⟨⟨⟨HSt8.out.1, HSt8.out.2, hr.q, HPS.out.1.put hr.row (x := ⟨x', onow⟩) (by rw [HQ7.out.1, hr.h]) (by rw [HQ7.out.2.1, hr.B]) rfl hyk hxk, ?_, ?_, HPS.out.2.2.2.1, HPS.out.2.2.2.2.1⟩, HBg8.out, ?_, HPS.out.2.2.2.2.2.1⟩, HKa.out.trans hr.k (fun b _ e => .inl (.inr e)), fun b hb => ?_, BagUp.refl _ _ _ _, fun _ _ => rfl⟩
        rotate_left
        · have h1 := hr.len
          have h2 : (rowAt xs (⟨⟨oage, oopts, k1, k2, k3, oseq, osum, olen⟩, oA, on, oc, oB⟩ : SE).key).isSome = (rowAt xs (k1, k2, k3)).isSome := rfl
          rw [h1, h2, ← hiso, HPS.out.2.1]
        · have h1 := HPS.out.2.2.1
          refine ⟨?_, h1.2⟩
          rcases hroom with h2 | h2
          · rw [if_pos h2]; exact h1.1
          · split
            · exact h1.1
            · push_cast; omega
        · intro s hs b hb
          have hlt := HP0.out.lt8.2.2 s hs b hb
          have hd := HPS.out.2.2.2.2.2.2 s hs b hb
          refine ⟨fun k x hx e => ?_, fun x hx e => ?_⟩
          · rcases hfm k x hx with h1 | h1
            · subst h1
              have := hxb b e
              have := HSz6.out.1
              omega
            · exact hd.1 k x h1 e
          · rcases hxm x hx with h1 | h1
            · exact hd.2 x h1 e
            · subst h1
              have := hyb b e
              omega
        · rcases hr.vb with e | ⟨c, e, hc⟩
          · left; rw [← e]; exact hb
          · right
            rw [e] at hb
            injection hb with hb
            omega
        have HNw : Hid ((∀ k x, updK f (k1, k2, k3) ⟨x', onow⟩ k = some x → ∀ b, x.s.b.ownBlock = some b → b ≠ gi) ∧ (∀ x ∈ xs', ∀ b, x.s.b.ownBlock = some b → b ≠ gi) ∧ ∀ s ∈ L 0, ∀ b, s.v.ownBlock = some b → b ≠ gi) := Lib.hid ⟨fun k x hx b hb => (by
            rcases hfm k x hx with h1 | h1
            · subst h1
              have := hxb b hb
              omega
            · exact Nat.ne_of_lt (Nat.lt_of_lt_of_le (HP0.out.lt8.1 k x h1 b hb) (Nat.le_trans HS3.out HGi.out))), fun x hx b hb => (by
            rcases hxm x hx with h1 | h1
            · exact Nat.ne_of_lt (Nat.lt_of_lt_of_le (HP0.out.lt8.2.1 x h1 b hb) (Nat.le_trans HS3.out HGi.out))
            · subst h1
              have h2 := hyb b hb
              have h3 := HSz6.out.2
              omega), fun s hs b hb => Nat.ne_of_lt (Nat.lt_of_lt_of_le (HP0.out.lt8.2.2 s hs b hb) (Nat.le_trans HS3.out HGi.out))⟩
        clear HR8 HSt8 HBg8 HPS HQ7 HR7 HBg7 HOw7 HX7 HI7 HBi7 HS7 HKa hxm hfm hxb hyb hr hst hgr hoff
        go_wp2_with fail
        refine hK.out _ _ HS8.out ?_
        clear hK K
        refine wpS_take HS8 (by kernel_rfl) (by intro W hW; clear hW; go_simp; try with_reducible rfl) ?_
        refine wpS_take HS8 (by kernel_rfl) (by intro W hW; clear hW; go_simp; try with_reducible rfl) ?_
        refine wpS_take HS8 (by kernel_rfl) (by intro W hW; clear hW; go_simp; try with_reducible rfl) ?_
        refine wpS_take HS8 (by kernel_rfl) (fun W hW => exec_load_row rfl rfl hW.2 Tryz.underlying61 rfl info_state) ?_
        refine wpS_take HS8 (by kernel_rfl) (by intro W hW; have j0 := hW.1.cell 0; have j1 := hW.1.cell 1; have j2 := hW.1.cell 2; have j3 := hW.1.cell 3; have j4 := hW.1.cell 4; have j5 := hW.1.cell 5; have j6 := hW.1.cell 6; have j7 := hW.1.cell 7; have j8 := hW.1.cell 8; have j9 := hW.1.cell 9; have j10 := hW.1.cell 10; simp only [List.getElem?_toArray, List.getElem?_cons_zero, List.getElem?_cons_succ] at j0 j1 j2 j3 j4 j5 j6 j7 j8 j9 j10; clear hW; go_simp; try with_reducible rfl) ?_
        go_simp
        refine wpS_do fun K hK => ?_
        go_wp2_with fail
        refine (eqState_at (⟨⟨oage, oopts, k1, k2, k3, oseq, osum, olen⟩, some ⟨gi, 0, none⟩, on, on + 64, oB⟩ : SE) (⟨⟨oage, oopts, k1, k2, k3, oseq, osum, olen⟩, oA, on, oc, oB⟩ : SE) w8 HI8.out HX8.out rfl rfl).mono ?_
        rintro e w9 ⟨rfl, hb9⟩
        have HBi9 := Lib.hid (HBi8.out.later hb9)
        have HS9 : Hid ((fun W : World => Blk W w.heap.size 63 #[.int .u8 odo, .int .i64 onow, .int .u16 oage, .int .u8 oopts, .int .u8 k1, .int .u32 k2, .int .u32 k3, .int .i32 oseq, .int .u16 osum, .int .u16 olen, .slice oA on oc] ∧ Blk W gin 61 #[.int .u16 oage, .int .u8 oopts, .int .u8 k1, .int .u32 k2, .int .u32 k3, .int .i32 oseq, .int .u16 osum, .int .u16 olen, .slice (some ⟨gi, 0, none⟩) on (on + 64)]) w9) := Lib.hid ⟨HS8.out.1.later hb9, HS8.out.2.later hb9⟩
        have HU9 := Lib.hid (HU.out.later hb9)
        have HBl := Lib.hid (show oB.length = on from HX8.out.bl)
        clear hb9 HS8 HX8 HI8 HBi8 HU
        go_wp2_with fail
        refine hK.out _ _ HS9.out ?_
        clear hK K
        refine wpS_take HS9 (by kernel_rfl) (by intro W hW; clear hW; go_simp; try with_reducible rfl) ?_
        refine wpS_take HS9 (by kernel_rfl) (by intro W hW; clear hW; go_simp; try with_reducible rfl) ?_
        refine wpS_take HS9 (by kernel_rfl) (fun W hW => exec_load_row rfl rfl hW.2 Tryz.underlying61 rfl info_state) ?_
        go_simp
        refine wpS_do fun K hK => ?_
        go_wp2_with fail
        refine (spareState_yes ⟨oage, oopts, k1, k2, k3, oseq, osum, olen⟩ gi on oB w9 HBi9.out HBl.out hs).mono ?_
        rintro e w10 ⟨rfl, hb10⟩
        have HBi10 := Lib.hid (HBi9.out.later hb10)
        have HS10 : Hid ((fun W : World => Blk W w.heap.size 63 #[.int .u8 odo, .int .i64 onow, .int .u16 oage, .int .u8 oopts, .int .u8 k1, .int .u32 k2, .int .u32 k3, .int .i32 oseq, .int .u16 osum, .int .u16 olen, .slice oA on oc] ∧ Blk W gin 61 #[.int .u16 oage, .int .u8 oopts, .int .u8 k1, .int .u32 k2, .int .u32 k3, .int .i32 oseq, .int .u16 osum, .int .u16 olen, .slice (some ⟨gi, 0, none⟩) on (on + 64)]) w10) := Lib.hid ⟨HS9.out.1.later hb10, HS9.out.2.later hb10⟩
        have HU10 := Lib.hid (HU9.out.later hb10)
        clear hb10 HS9 HBi9 HU9
        go_wp2_with fail
        refine hK.out _ _ HS10.out ?_
        clear hK K
        refine wpS_take HS10 (by kernel_rfl) (by intro W hW; clear hW; go_simp; try with_reducible rfl) ?_
        refine wpS_take HS10 (by kernel_rfl) (by intro W hW; clear hW; go_simp; try with_reducible rfl) ?_
        refine wpS_nil ?_
        go_simp
        go_wp2_with fail
        have HIn := Lib.hid HS10.out.2
        clear HS10
        go_loopw [12] (fun iv wr => ∃ i : Nat, iv = .int .i64 i ∧ i ≤ on ∧ Hid (∃ zs : List Int, zs.length = on + 64 ∧ Blk wr gi 5 (u8s zs).toArray) ∧ Hid (Kept (fun b => b = gi) w10 wr)) (fun iv _ => on - (intOf iv).toNat)
        case atStart => exact ⟨0, rfl, Nat.zero_le _, Lib.hid ⟨wide oB, by rw [wide_length, HBl.out], HBi10.out⟩, Lib.hid (Kept.refl _ _)⟩
        case round =>
          obtain ⟨i, rfl, hi, hz, hk⟩ := hrel
          obtain ⟨zs, hzl, hzb⟩ := hz.out
          have HZb := Lib.hid hzb
          have HIr := Lib.hid (HIn.out.kept hk.out (blk_ne HIn.out HBi10.out (by decide)))
          have i8 := HIr.out.cell 8
          simp only [List.getElem?_toArray, List.getElem?_cons_zero, List.getElem?_cons_succ] at i8
          by_cases hlt : i < on
          · have hltI : (i : Int) < on := by omega
            obtain ⟨z, hzz⟩ : ∃ z, zs[i]? = some z := ⟨zs[i]'(by omega), List.getElem?_eq_getElem _⟩
            have e0 : wr.cell? ⟨gi, i, none⟩ = some (.int .u8 z) := by rw [hzb.cell]; simp [u8s, hzz]
            have f0 := hzb.frozen i
            clear hzb hzz
            go_wp2_with fail
            go_roundw
            case rel =>
              refine ⟨i + 1, by go_num, by omega, Lib.hid ⟨zs.set i (IntKind.u8.wrap (z + 1)), by rw [List.length_set]; exact hzl, ?_⟩, Lib.hid (hk.out.trans (kept_setC wr gi i _) (fun _ _ h => h))⟩
              have h1 := HZb.out.set_ i (.int .u8 (IntKind.u8.wrap (z + 1)))
              rw [List.setIfInBounds_toArray, u8s_set] at h1
              exact h1
            case measure => simp [intOf]; omega
          · obtain rfl : i = on := by omega
            clear hzb
            go_wp2_with fail
            go_ret
            refine ⟨rfl, updK f (k1, k2, k3) ⟨x', onow⟩, (if (f (k1, k2, k3)).isSome = true then N else N + 1), v', xs', G, L, ?_⟩
            exact HU10.out.marked hk.out HBi10.out HNw.out (Nat.le_trans HS3.out HGi.out)
      · exfalso
        have h3 : f (k1, k2, k3) = none := HPS.out.1.none_ hno2
        rcases hroom with h1 | h1
        · rw [h3] at h1; cases h1
        · have := HPS.out.2.1; omega
    · have hfull : f (k1, k2, k3) = none ∧ most ≤ (N : Int) := by
        refine ⟨?_, by omega⟩
        cases hf : f (k1, k2, k3) with
        | none => rfl
        | some x => exact absurd (.inl (by rw [hf]; rfl)) hroom
      refine wpS_do fun K hK => ?_
      go_wp2_with fail
      refine (stputfull_any w6 g bm most f N HP6.out.p.q (⟨⟨oage, oopts, k1, k2, k3, oseq, osum, olen⟩, some ⟨gi, 0, none⟩, on, on + 64, oB⟩ : SE) HI6.out onow hn hfull).mono ?_
      rintro e w7 ⟨rfl, hb7⟩
      have HP7 := Lib.hid (HP6.out.later hb7)
      have HX7 := Lib.hid (HX6.out.later hb7)
      have HI7 := Lib.hid (HI6.out.later hb7)
      have HBi7 := Lib.hid (HBi6.out.later hb7)
      have HB7 := Lib.hid (below_then HB6.out hb7)
      have HS7 : Hid ((fun W : World => Blk W w.heap.size 63 #[.int .u8 odo, .int .i64 onow, .int .u16 oage, .int .u8 oopts, .int .u8 k1, .int .u32 k2, .int .u32 k3, .int .i32 oseq, .int .u16 osum, .int .u16 olen, .slice oA on oc] ∧ Blk W gin 61 #[.int .u16 oage, .int .u8 oopts, .int .u8 k1, .int .u32 k2, .int .u32 k3, .int .i32 oseq, .int .u16 osum, .int .u16 olen, .slice (some ⟨gi, 0, none⟩) on (on + 64)]) w7) := Lib.hid ⟨HS.out.1.later hb7, HS.out.2.later hb7⟩
      have HZ7 : Hid (gin < w7.heap.size) := Lib.hid (Nat.lt_of_lt_of_le HZ6.out hb7.size)
      clear hb7 HP6 HX6 HI6 HBi6 HB6 HS
      go_wp2_with fail
      refine hK.out _ _ HS7.out ?_
      clear hK K
      refine wpS_do fun K hK => ?_
      go_wp2_with fail
      refine (put11 base w7 gd v most xs HP7.out.p.r HP7.out.p.l.ascL HP7.out.base_le (by have := HP7.out.p.n; have := HP7.out.p.lim; omega) (⟨⟨oage, oopts, k1, k2, k3, oseq, osum, olen⟩, oA, on, oc, oB⟩ : SE) HX7.out onow hn).mono ?_
      rintro e w8 (⟨y', v', xs', rfl, hr⟩ | ⟨rfl, _, _, hb8⟩)
      · exfalso
        have h1 := hr.room
        have h2 : (f (k1, k2, k3)).isSome = (rowAt xs (k1, k2, k3)).isSome := HP7.out.p.l.iso _
        rcases h1 with h1 | h1
        · rw [hfull.1] at h2
          have h3 : (rowAt xs (k1, k2, k3)).isSome = true := h1
          rw [h3] at h2
          cases h2
        · have := HP7.out.p.n; omega
      · skip
        have HP8 := Lib.hid (HP7.out.later hb8)
        have HX8 := Lib.hid (HX7.out.later hb8)
        have HI8 := Lib.hid (HI7.out.later hb8)
        have HBi8 := Lib.hid (HBi7.out.later hb8)
        have HB8 := Lib.hid (below_then HB7.out hb8)
        have HS8 : Hid ((fun W : World => Blk W w.heap.size 63 #[.int .u8 odo, .int .i64 onow, .int .u16 oage, .int .u8 oopts, .int .u8 k1, .int .u32 k2, .int .u32 k3, .int .i32 oseq, .int .u16 osum, .int .u16 olen, .slice oA on oc] ∧ Blk W gin 61 #[.int .u16 oage, .int .u8 oopts, .int .u8 k1, .int .u32 k2, .int .u32 k3, .int .i32 oseq, .int .u16 osum, .int .u16 olen, .slice (some ⟨gi, 0, none⟩) on (on + 64)]) w8) := Lib.hid ⟨HS7.out.1.later hb8, HS7.out.2.later hb8⟩
        clear hb8 HP7 HX7 HI7 HBi7 HB7 HS7
        go_wp2_with fail
        refine hK.out _ _ HS8.out ?_
        clear hK K
        have HU : Hid (OneR base w w8 g bm most f N gd v xs gb G L f N v xs G L) := Lib.hid ⟨HP8.out, Kept.of_new HB8.out _, fun b hb => .inl hb, BagUp.refl _ _ _ _, fun _ _ => rfl⟩
        have HNw : Hid ((∀ k x, f k = some x → ∀ b, x.s.b.ownBlock = some b → b ≠ gi) ∧ (∀ x ∈ xs, ∀ b, x.s.b.ownBlock = some b → b ≠ gi) ∧ ∀ s ∈ L 0, ∀ b, s.v.ownBlock = some b → b ≠ gi) := Lib.hid ⟨fun k x hx b hb => Nat.ne_of_lt (Nat.lt_of_lt_of_le (HP0.out.lt8.1 k x hx b hb) (Nat.le_trans HS3.out HGi.out)), fun x hx b hb => Nat.ne_of_lt (Nat.lt_of_lt_of_le (HP0.out.lt8.2.1 x hx b hb) (Nat.le_trans HS3.out HGi.out)), fun s hs b hb => Nat.ne_of_lt (Nat.lt_of_lt_of_le (HP0.out.lt8.2.2 s hs b hb) (Nat.le_trans HS3.out HGi.out))⟩
        clear HP8 HB8
        refine wpS_take HS8 (by kernel_rfl) (by intro W hW; clear hW; go_simp; try with_reducible rfl) ?_
        refine wpS_take HS8 (by kernel_rfl) (by intro W hW; clear hW; go_simp; try with_reducible rfl) ?_
        refine wpS_take HS8 (by kernel_rfl) (by intro W hW; clear hW; go_simp; try with_reducible rfl) ?_
        refine wpS_take HS8 (by kernel_rfl) (fun W hW => exec_load_row rfl rfl hW.2 Tryz.underlying61 rfl info_state) ?_
        refine wpS_take HS8 (by kernel_rfl) (by intro W hW; have j0 := hW.1.cell 0; have j1 := hW.1.cell 1; have j2 := hW.1.cell 2; have j3 := hW.1.cell 3; have j4 := hW.1.cell 4; have j5 := hW.1.cell 5; have j6 := hW.1.cell 6; have j7 := hW.1.cell 7; have j8 := hW.1.cell 8; have j9 := hW.1.cell 9; have j10 := hW.1.cell 10; simp only [List.getElem?_toArray, List.getElem?_cons_zero, List.getElem?_cons_succ] at j0 j1 j2 j3 j4 j5 j6 j7 j8 j9 j10; clear hW; go_simp; try with_reducible rfl) ?_
        go_simp
        refine wpS_do fun K hK => ?_
        go_wp2_with fail
        refine (eqState_at (⟨⟨oage, oopts, k1, k2, k3, oseq, osum, olen⟩, some ⟨gi, 0, none⟩, on, on + 64, oB⟩ : SE) (⟨⟨oage, oopts, k1, k2, k3, oseq, osum, olen⟩, oA, on, oc, oB⟩ : SE) w8 HI8.out HX8.out rfl rfl).mono ?_
        rintro e w9 ⟨rfl, hb9⟩
        have HBi9 := Lib.hid (HBi8.out.later hb9)
        have HS9 : Hid ((fun W : World => Blk W w.heap.size 63 #[.int .u8 odo, .int .i64 onow, .int .u16 oage, .int .u8 oopts, .int .u8 k1, .int .u32 k2, .int .u32 k3, .int .i32 oseq, .int .u16 osum, .int .u16 olen, .slice oA on oc] ∧ Blk W gin 61 #[.int .u16 oage, .int .u8 oopts, .int .u8 k1, .int .u32 k2, .int .u32 k3, .int .i32 oseq, .int .u16 osum, .int .u16 olen, .slice (some ⟨gi, 0, none⟩) on (on + 64)]) w9) := Lib.hid ⟨HS8.out.1.later hb9, HS8.out.2.later hb9⟩
        have HU9 := Lib.hid (HU.out.later hb9)
        have HBl := Lib.hid (show oB.length = on from HX8.out.bl)
        clear hb9 HS8 HX8 HI8 HBi8 HU
        go_wp2_with fail
        refine hK.out _ _ HS9.out ?_
        clear hK K
        refine wpS_take HS9 (by kernel_rfl) (by intro W hW; clear hW; go_simp; try with_reducible rfl) ?_
        refine wpS_take HS9 (by kernel_rfl) (by intro W hW; clear hW; go_simp; try with_reducible rfl) ?_
        refine wpS_take HS9 (by kernel_rfl) (fun W hW => exec_load_row rfl rfl hW.2 Tryz.underlying61 rfl info_state) ?_
        go_simp
        refine wpS_do fun K hK => ?_
        go_wp2_with fail
        refine (spareState_yes ⟨oage, oopts, k1, k2, k3, oseq, osum, olen⟩ gi on oB w9 HBi9.out HBl.out hs).mono ?_
        rintro e w10 ⟨rfl, hb10⟩
        have HBi10 := Lib.hid (HBi9.out.later hb10)
        have HS10 : Hid ((fun W : World => Blk W w.heap.size 63 #[.int .u8 odo, .int .i64 onow, .int .u16 oage, .int .u8 oopts, .int .u8 k1, .int .u32 k2, .int .u32 k3, .int .i32 oseq, .int .u16 osum, .int .u16 olen, .slice oA on oc] ∧ Blk W gin 61 #[.int .u16 oage, .int .u8 oopts, .int .u8 k1, .int .u32 k2, .int .u32 k3, .int .i32 oseq, .int .u16 osum, .int .u16 olen, .slice (some ⟨gi, 0, none⟩) on (on + 64)]) w10) := Lib.hid ⟨HS9.out.1.later hb10, HS9.out.2.later hb10⟩
        have HU10 := Lib.hid (HU9.out.later hb10)
        clear hb10 HS9 HBi9 HU9
        go_wp2_with fail
        refine hK.out _ _ HS10.out ?_
        clear hK K
        refine wpS_take HS10 (by kernel_rfl) (by intro W hW; clear hW; go_simp; try with_reducible rfl) ?_
        refine wpS_take HS10 (by kernel_rfl) (by intro W hW; clear hW; go_simp; try with_reducible rfl) ?_
        refine wpS_nil ?_
        go_simp
        go_wp2_with fail
        have HIn := Lib.hid HS10.out.2
        clear HS10
        go_loopw [12] (fun iv wr => ∃ i : Nat, iv = .int .i64 i ∧ i ≤ on ∧ Hid (∃ zs : List Int, zs.length = on + 64 ∧ Blk wr gi 5 (u8s zs).toArray) ∧ Hid (Kept (fun b => b = gi) w10 wr)) (fun iv _ => on - (intOf iv).toNat)
        case atStart => exact ⟨0, rfl, Nat.zero_le _, Lib.hid ⟨wide oB, by rw [wide_length, HBl.out], HBi10.out⟩, Lib.hid (Kept.refl _ _)⟩
        case round =>
          obtain ⟨i, rfl, hi, hz, hk⟩ := hrel
          obtain ⟨zs, hzl, hzb⟩ := hz.out
          have HZb := Lib.hid hzb
          have HIr := Lib.hid (HIn.out.kept hk.out (blk_ne HIn.out HBi10.out (by decide)))
          have i8 := HIr.out.cell 8
          simp only [List.getElem?_toArray, List.getElem?_cons_zero, List.getElem?_cons_succ] at i8
          by_cases hlt : i < on
          · have hltI : (i : Int) < on := by omega
            obtain ⟨z, hzz⟩ : ∃ z, zs[i]? = some z := ⟨zs[i]'(by omega), List.getElem?_eq_getElem _⟩
            have e0 : wr.cell? ⟨gi, i, none⟩ = some (.int .u8 z) := by rw [hzb.cell]; simp [u8s, hzz]
            have f0 := hzb.frozen i
            clear hzb hzz
            go_wp2_with fail
            go_roundw
            case rel =>
              refine ⟨i + 1, by go_num, by omega, Lib.hid ⟨zs.set i (IntKind.u8.wrap (z + 1)), by rw [List.length_set]; exact hzl, ?_⟩, Lib.hid (hk.out.trans (kept_setC wr gi i _) (fun _ _ h => h))⟩
              have h1 := HZb.out.set_ i (.int .u8 (IntKind.u8.wrap (z + 1)))
              rw [List.setIfInBounds_toArray, u8s_set] at h1
              exact h1
            case measure => simp [intOf]; omega
          · obtain rfl : i = on := by omega
            clear hzb
            go_wp2_with fail
            go_ret
            refine ⟨rfl, f, N, v, xs, G, L, ?_⟩
            exact HU10.out.marked hk.out HBi10.out HNw.out (Nat.le_trans HS3.out HGi.out)
set_option maxRecDepth 100000 in
set_option maxHeartbeats 16000000 in
theorem one_put1 (base : Nat) (w : World) (g bm : Nat) (most : Int) (f : Ky3 → Option OneE) (N gd : Nat) (v : Value) (xs : List OneE) (gb : Nat) (G : Nat → Sl) (L : Nat → List Sl) (h : PB base w g bm most f N gd v xs gb G L) (o : OpS) (ho : o.ok w) (hs : o.s.n ≤ 1099511627776) (hob : 0 < o.s.n → ∀ ad, o.s.A = some ad → ad.block < base) (hc : o.do_ % 6 = 1) :
    Calls Tryz.prog 8 #[.pointer (some ⟨g, 0, none⟩), .pointer (some ⟨gd, 0, none⟩), o.v, .pointer (some ⟨gb, 0, none⟩)] w fun e w' => OneP base w w' g bm most f N gd v xs gb G L e := by
  obtain ⟨odo, onow, ⟨⟨oage, oopts, k1, k2, k3, oseq, osum, olen⟩, oA, on, oc, oB⟩⟩ := o
  have hd := ho.do_
  have hno := ho.now
  simp only at hd hno hs hob hc
  have hb1 : Below w.heap.size w (w.alloc (.cells #[.int .u8 odo, .int .i64 onow, .int .u16 oage, .int .u8 oopts, .int .u8 k1, .int .u32 k2, .int .u32 k3, .int .i32 oseq, .int .u16 osum, .int .u16 olen, .slice oA on oc] 63)) := (Below.refl _ _).alloc (Nat.le_refl _) _
  have HOb : Hid (Blk (w.alloc (.cells #[.int .u8 odo, .int .i64 onow, .int .u16 oage, .int .u8 oopts, .int .u8 k1, .int .u32 k2, .int .u32 k3, .int .i32 oseq, .int .u16 osum, .int .u16 olen, .slice oA on oc] 63)) w.heap.size 63 #[.int .u8 odo, .int .i64 onow, .int .u16 oage, .int .u8 oopts, .int .u8 k1, .int .u32 k2, .int .u32 k3, .int .i32 oseq, .int .u16 osum, .int .u16 olen, .slice oA on oc]) := Lib.hid (Blk.new _ _ _)
  have HP0 := Lib.hid h
  have HP := Lib.hid (h.later hb1)
  have HX := Lib.hid ((show SE.rd w (⟨⟨oage, oopts, k1, k2, k3, oseq, osum, olen⟩, oA, on, oc, oB⟩ : SE) from ⟨ho.s.head, ho.s.body, ho.s.oct, ho.s.cap, hs⟩).later hb1)
  have HB1 := Lib.hid hb1
  have c0 := HOb.out.cell 0; have c2 := HOb.out.cell 2; have c3 := HOb.out.cell 3; have c4 := HOb.out.cell 4; have c5 := HOb.out.cell 5; have c6 := HOb.out.cell 6; have c7 := HOb.out.cell 7; have c8 := HOb.out.cell 8; have c9 := HOb.out.cell 9
  simp only [List.getElem?_toArray, List.getElem?_cons_zero, List.getElem?_cons_succ] at c0 c2 c3 c4 c5 c6 c7 c8 c9
  have hw : IntKind.u8.wrap (odo % 6) = odo % 6 := by simp [IntKind.wrap, IntKind.bits, IntKind.signed]; omega
  have htm : odo.tmod 6 = odo % 6 := Int.tmod_eq_emod_of_nonneg hd.1
  clear h ho hb1
  show Calls Tryz.prog 8 #[.pointer (some ⟨g, 0, none⟩), .pointer (some ⟨gd, 0, none⟩), .agg #[.int .u8 odo, .int .i64 onow, .int .u16 oage, .int .u8 oopts, .int .u8 k1, .int .u32 k2, .int .u32 k3, .int .i32 oseq, .int .u16 osum, .int .u16 olen, .slice oA on oc], .pointer (some ⟨gb, 0, none⟩)] w fun e w' => OneP base w w' g bm most f N gd v xs gb G L e
  go_enter Tryz.func8, Tryz.ntmps8
  go_wp2_with fail
  clear c0 c2 c3 c4 c5 c6 c7 c8 c9
  generalize w.alloc (.cells #[.int .u8 odo, .int .i64 onow, .int .u16 oage, .int .u8 oopts, .int .u8 k1, .int .u32 k2, .int .u32 k3, .int .i32 oseq, .int .u16 osum, .int .u16 olen, .slice oA on oc] 63) = w1 at *
  refine (rkey_hd ⟨oage, oopts, k1, k2, k3, oseq, osum, olen⟩ w1).mono ?_
  rintro e w2 ⟨rfl, hb2⟩
  have HP2 := Lib.hid (HP.out.later hb2)
  have HX2 := Lib.hid (HX.out.later hb2)
  have HOb2 := Lib.hid (HOb.out.later hb2)
  have HB2 := Lib.hid (below_then HB1.out hb2)
  clear hb2 HP HX HOb HB1
  have hb3 : Below w2.heap.size w2 (w2.alloc (.cells #[.int .u8 k1, .int .u32 k2, .int .u32 k3] 68)) := (Below.refl _ _).alloc (Nat.le_refl _) _
  have HK3 : Hid (Blk (w2.alloc (.cells #[.int .u8 k1, .int .u32 k2, .int .u32 k3] 68)) w2.heap.size 68 #[.int .u8 k1, .int .u32 k2, .int .u32 k3]) := Lib.hid (Blk.new _ _ _)
  have HP3 := Lib.hid (HP2.out.later hb3)
  have HX3 := Lib.hid (HX2.out.later hb3)
  have HO3 := Lib.hid (HOb2.out.later hb3)
  have HB3 := Lib.hid (below_then HB2.out hb3)
  clear hb3 HP2 HX2 HOb2
  have c0 := HO3.out.cell 0; have c1 := HO3.out.cell 1; have c2 := HO3.out.cell 2; have c3 := HO3.out.cell 3; have c4 := HO3.out.cell 4; have c5 := HO3.out.cell 5; have c6 := HO3.out.cell 6; have c7 := HO3.out.cell 7; have c8 := HO3.out.cell 8; have c9 := HO3.out.cell 9; have c10 := HO3.out.cell 10
  have b0 := HK3.out.cell 0; have b1 := HK3.out.cell 1; have b2 := HK3.out.cell 2
  simp only [List.getElem?_toArray, List.getElem?_cons_zero, List.getElem?_cons_succ] at c0 c1 c2 c3 c4 c5 c6 c7 c8 c9 c10 b0 b1 b2
  go_wp2_with fail
  clear c0 c1 c2 c3 c4 c5 c6 c7 c8 c9 c10 b0 b1 b2 hw htm HK3
  generalize w2.alloc (.cells #[.int .u8 k1, .int .u32 k2, .int .u32 k3] 68) = w3 at *
  refine (wideState_any (⟨⟨oage, oopts, k1, k2, k3, oseq, osum, olen⟩, oA, on, oc, oB⟩ : SE) w3 HX3.out).mono ?_
  rintro e w4 ⟨gi, rfl, hgi, hBi, hb4⟩
  have HGi := Lib.hid hgi
  have HBi4 := Lib.hid hBi
  have HP4 := Lib.hid (HP3.out.later hb4)
  have HX4 := Lib.hid (HX3.out.later hb4)
  have HO4 := Lib.hid (HO3.out.later hb4)
  have HB4 := Lib.hid (below_then HB3.out hb4)
  have HS3 := Lib.hid HB3.out.size
  clear hgi hBi hb4 HP3 HX3 HO3 HB3
  have hb5 : Below w4.heap.size w4 (w4.alloc (.cells #[.int .u16 oage, .int .u8 oopts, .int .u8 k1, .int .u32 k2, .int .u32 k3, .int .i32 oseq, .int .u16 osum, .int .u16 olen, .slice (some ⟨gi, 0, none⟩) on (on + 64)] 61)) := (Below.refl _ _).alloc (Nat.le_refl _) _
  have HIn : Hid (Blk (w4.alloc (.cells #[.int .u16 oage, .int .u8 oopts, .int .u8 k1, .int .u32 k2, .int .u32 k3, .int .i32 oseq, .int .u16 osum, .int .u16 olen, .slice (some ⟨gi, 0, none⟩) on (on + 64)] 61)) w4.heap.size 61 #[.int .u16 oage, .int .u8 oopts, .int .u8 k1, .int .u32 k2, .int .u32 k3, .int .i32 oseq, .int .u16 osum, .int .u16 olen, .slice (some ⟨gi, 0, none⟩) on (on + 64)]) := Lib.hid (Blk.new _ _ _)
  have HBi := Lib.hid (HBi4.out.later hb5)
  have HP5 := Lib.hid (HP4.out.later hb5)
  have HX5 := Lib.hid (HX4.out.later hb5)
  have HO5 := Lib.hid (HO4.out.later hb5)
  have HB5 := Lib.hid (below_then HB4.out hb5)
  have hgl : gi < w4.heap.size := HBi4.out.lt
  have hi4 : (⟨⟨oage, oopts, k1, k2, k3, oseq, osum, olen⟩, some ⟨gi, 0, none⟩, on, on + 64, oB⟩ : SE).rd w4 := ⟨HX4.out.head, (by
    have hbl : oB.length = on := HX4.out.bl
    have h1 := (HBi4.out.reads (n := oB.length) (by simp only [u8s_length, wide_length]; omega)).more (B' := w4.heap.size) (by omega)
    rw [u8s_take, wide_take, hbl] at h1
    exact h1), HX4.out.oct, ⟨by simp only; omega, by simp only; omega⟩, hs⟩
  have HI5 := Lib.hid (hi4.later hb5)
  clear hb5 hi4 HP4 HX4 HO4 HBi4
  go_wp2_with fail
  have hsz4 : w.heap.size ≤ w4.heap.size := HB4.out.size
  generalize hgin : w4.heap.size = gin at *
  generalize w4.alloc (.cells #[.int .u16 oage, .int .u8 oopts, .int .u8 k1, .int .u32 k2, .int .u32 k3, .int .i32 oseq, .int .u16 osum, .int .u16 olen, .slice (some ⟨gi, 0, none⟩) on (on + 64)] 61) = w5 at *
  have HGin : Hid (gin < w5.heap.size) := Lib.hid HIn.out.lt
  clear HB4
  have hbd : Below w5.heap.size w5 w5.drew := (Below.refl _ _).drew
  have HS : Hid ((fun W : World => Blk W w.heap.size 63 #[.int .u8 odo, .int .i64 onow, .int .u16 oage, .int .u8 oopts, .int .u8 k1, .int .u32 k2, .int .u32 k3, .int .i32 oseq, .int .u16 osum, .int .u16 olen, .slice oA on oc] ∧ Blk W gin 61 #[.int .u16 oage, .int .u8 oopts, .int .u8 k1, .int .u32 k2, .int .u32 k3, .int .i32 oseq, .int .u16 osum, .int .u16 olen, .slice (some ⟨gi, 0, none⟩) on (on + 64)]) w5.drew) := Lib.hid ⟨HO5.out.later hbd, HIn.out.later hbd⟩
  have HP6 := Lib.hid (HP5.out.later hbd)
  have HX6 := Lib.hid (HX5.out.later hbd)
  have HI6 := Lib.hid (HI5.out.later hbd)
  have HBi6 := Lib.hid (HBi.out.later hbd)
  have HB6 := Lib.hid HB5.out.drew
  have HZ6 : Hid (gin < w5.drew.heap.size) := Lib.hid (Nat.lt_of_lt_of_le HGin.out hbd.size)
  clear hbd HO5 HIn HP5 HX5 HI5 HBi HB5 HGin
  refine wp_region_s (fun W : World => Blk W w.heap.size 63 #[.int .u8 odo, .int .i64 onow, .int .u16 oage, .int .u8 oopts, .int .u8 k1, .int .u32 k2, .int .u32 k3, .int .i32 oseq, .int .u16 osum, .int .u16 olen, .slice oA on oc] ∧ Blk W gin 61 #[.int .u16 oage, .int .u8 oopts, .int .u8 k1, .int .u32 k2, .int .u32 k3, .int .i32 oseq, .int .u16 osum, .int .u16 olen, .slice (some ⟨gi, 0, none⟩) on (on + 64)]) [(0, true), (1, true), (5, true), (6, true), (8, true), (2, true), (3, true), (7, true), (9, true), (4, false), (10, false), (11, true), (12, true), (14, true), (13, true), (15, true), (16, false), (17, true), (18, true), (19, true), (20, false), (21, true), (22, true)] (by kernel_rfl) (fun _ d _ _ _ h => by cases d <;> exact h) ?_
  simp only [List.map_cons, List.map_nil, nthOp_zero, nthOp_succ]
  generalize w5.drew = w6 at *
  refine wpS_take HS (by kernel_rfl) (by intro W hW; clear hW; go_simp; try with_reducible rfl) ?_
  refine wpS_take HS (by kernel_rfl) (by intro W hW; clear hW; go_simp; try with_reducible rfl) ?_
  refine wpS_take HS (by kernel_rfl) (by intro W hW; clear hW; go_simp; try with_reducible rfl) ?_
  refine wpS_take HS (by kernel_rfl) (by intro W hW; clear hW; go_simp; try with_reducible rfl) ?_
  refine wpS_take HS (by kernel_rfl) (by intro W hW; clear hW; go_simp; try with_reducible rfl) ?_
  refine wpS_take HS (by kernel_rfl) (by intro W hW; have j0 := hW.1.cell 0; have j1 := hW.1.cell 1; simp only [List.getElem?_toArray, List.getElem?_cons_zero, List.getElem?_cons_succ] at j0 j1; clear hW; go_simp; try with_reducible rfl) ?_
  refine wpS_take HS (by kernel_rfl) (fun W hW => exec_load_row rfl rfl hW.2 Tryz.underlying61 rfl info_state) ?_
  refine wpS_take HS (by kernel_rfl) (by intro W hW; have j0 := hW.1.cell 0; have j1 := hW.1.cell 1; simp only [List.getElem?_toArray, List.getElem?_cons_zero, List.getElem?_cons_succ] at j0 j1; clear hW; go_simp; try with_reducible rfl) ?_
  refine wpS_take HS (by kernel_rfl) (by intro W hW; have j0 := hW.1.cell 0; have j1 := hW.1.cell 1; have j2 := hW.1.cell 2; have j3 := hW.1.cell 3; have j4 := hW.1.cell 4; have j5 := hW.1.cell 5; have j6 := hW.1.cell 6; have j7 := hW.1.cell 7; have j8 := hW.1.cell 8; have j9 := hW.1.cell 9; have j10 := hW.1.cell 10; simp only [List.getElem?_toArray, List.getElem?_cons_zero, List.getElem?_cons_succ] at j0 j1 j2 j3 j4 j5 j6 j7 j8 j9 j10; clear hW; go_simp; try with_reducible rfl) ?_
  go_simp
  by_cases hneg : onow < 0
  · refine wpS_do fun K hK => ?_
    go_wp2_with fail
    refine (stput_neg w6 g bm (HP6.out.p.q.blk.cell 0) (⟨⟨oage, oopts, k1, k2, k3, oseq, osum, olen⟩, some ⟨gi, 0, none⟩, on, on + 64, oB⟩ : SE) onow hneg).mono ?_
    rintro e w7 ⟨rfl, hb7⟩
    have HP7 := Lib.hid (HP6.out.later hb7)
    have HX7 := Lib.hid (HX6.out.later hb7)
    have HI7 := Lib.hid (HI6.out.later hb7)
    have HBi7 := Lib.hid (HBi6.out.later hb7)
    have HB7 := Lib.hid (below_then HB6.out hb7)
    have HS7 : Hid ((fun W : World => Blk W w.heap.size 63 #[.int .u8 odo, .int .i64 onow, .int .u16 oage, .int .u8 oopts, .int .u8 k1, .int .u32 k2, .int .u32 k3, .int .i32 oseq, .int .u16 osum, .int .u16 olen, .slice oA on oc] ∧ Blk W gin 61 #[.int .u16 oage, .int .u8 oopts, .int .u8 k1, .int .u32 k2, .int .u32 k3, .int .i32 oseq, .int .u16 osum, .int .u16 olen, .slice (some ⟨gi, 0, none⟩) on (on + 64)]) w7) := Lib.hid ⟨HS.out.1.later hb7, HS.out.2.later hb7⟩
    have HZ7 : Hid (gin < w7.heap.size) := Lib.hid (Nat.lt_of_lt_of_le HZ6.out hb7.size)
    clear hb7 HP6 HX6 HI6 HBi6 HB6 HS
    go_wp2_with fail
    refine hK.out _ _ HS7.out ?_
    clear hK K
    refine wpS_do fun K hK => ?_
    go_wp2_with fail
    refine (put11_neg w7 gd (⟨⟨oage, oopts, k1, k2, k3, oseq, osum, olen⟩, oA, on, oc, oB⟩ : SE) onow hneg).mono ?_
    rintro e w8 ⟨rfl, hb8⟩
    have HP8 := Lib.hid (HP7.out.later hb8)
    have HX8 := Lib.hid (HX7.out.later hb8)
    have HI8 := Lib.hid (HI7.out.later hb8)
    have HBi8 := Lib.hid (HBi7.out.later hb8)
    have HB8 := Lib.hid (below_then HB7.out hb8)
    have HS8 : Hid ((fun W : World => Blk W w.heap.size 63 #[.int .u8 odo, .int .i64 onow, .int .u16 oage, .int .u8 oopts, .int .u8 k1, .int .u32 k2, .int .u32 k3, .int .i32 oseq, .int .u16 osum, .int .u16 olen, .slice oA on oc] ∧ Blk W gin 61 #[.int .u16 oage, .int .u8 oopts, .int .u8 k1, .int .u32 k2, .int .u32 k3, .int .i32 oseq, .int .u16 osum, .int .u16 olen, .slice (some ⟨gi, 0, none⟩) on (on + 64)]) w8) := Lib.hid ⟨HS7.out.1.later hb8, HS7.out.2.later hb8⟩
    clear hb8 HP7 HX7 HI7 HBi7 HB7 HS7
    go_wp2_with fail
    refine hK.out _ _ HS8.out ?_
    clear hK K
    have HU : Hid (OneR base w w8 g bm most f N gd v xs gb G L f N v xs G L) := Lib.hid ⟨HP8.out, Kept.of_new HB8.out _, fun b hb => .inl hb, BagUp.refl _ _ _ _, fun _ _ => rfl⟩
    have HNw : Hid ((∀ k x, f k = some x → ∀ b, x.s.b.ownBlock = some b → b ≠ gi) ∧ (∀ x ∈ xs, ∀ b, x.s.b.ownBlock = some b → b ≠ gi) ∧ ∀ s ∈ L 0, ∀ b, s.v.ownBlock = some b → b ≠ gi) := Lib.hid ⟨fun k x hx b hb => Nat.ne_of_lt (Nat.lt_of_lt_of_le (HP0.out.lt8.1 k x hx b hb) (Nat.le_trans HS3.out HGi.out)), fun x hx b hb => Nat.ne_of_lt (Nat.lt_of_lt_of_le (HP0.out.lt8.2.1 x hx b hb) (Nat.le_trans HS3.out HGi.out)), fun s hs b hb => Nat.ne_of_lt (Nat.lt_of_lt_of_le (HP0.out.lt8.2.2 s hs b hb) (Nat.le_trans HS3.out HGi.out))⟩
    clear HP8 HB8
    refine wpS_take HS8 (by kernel_rfl) (by intro W hW; clear hW; go_simp; try with_reducible rfl) ?_
    refine wpS_take HS8 (by kernel_rfl) (by intro W hW; clear hW; go_simp; try with_reducible rfl) ?_
    refine wpS_take HS8 (by kernel_rfl) (by intro W hW; clear hW; go_simp; try with_reducible rfl) ?_
    refine wpS_take HS8 (by kernel_rfl) (fun W hW => exec_load_row rfl rfl hW.2 Tryz.underlying61 rfl info_state) ?_
    refine wpS_take HS8 (by kernel_rfl) (by intro W hW; have j0 := hW.1.cell 0; have j1 := hW.1.cell 1; have j2 := hW.1.cell 2; have j3 := hW.1.cell 3; have j4 := hW.1.cell 4; have j5 := hW.1.cell 5; have j6 := hW.1.cell 6; have j7 := hW.1.cell 7; have j8 := hW.1.cell 8; have j9 := hW.1.cell 9; have j10 := hW.1.cell 10; simp only [List.getElem?_toArray, List.getElem?_cons_zero, List.getElem?_cons_succ] at j0 j1 j2 j3 j4 j5 j6 j7 j8 j9 j10; clear hW; go_simp; try with_reducible rfl) ?_
    go_simp
    refine wpS_do fun K hK => ?_
    go_wp2_with fail
    refine (eqState_at (⟨⟨oage, oopts, k1, k2, k3, oseq, osum, olen⟩, some ⟨gi, 0, none⟩, on, on + 64, oB⟩ : SE) (⟨⟨oage, oopts, k1, k2, k3, oseq, osum, olen⟩, oA, on, oc, oB⟩ : SE) w8 HI8.out HX8.out rfl rfl).mono ?_
    rintro e w9 ⟨rfl, hb9⟩
    have HBi9 := Lib.hid (HBi8.out.later hb9)
    have HS9 : Hid ((fun W : World => Blk W w.heap.size 63 #[.int .u8 odo, .int .i64 onow, .int .u16 oage, .int .u8 oopts, .int .u8 k1, .int .u32 k2, .int .u32 k3, .int .i32 oseq, .int .u16 osum, .int .u16 olen, .slice oA on oc] ∧ Blk W gin 61 #[.int .u16 oage, .int .u8 oopts, .int .u8 k1, .int .u32 k2, .int .u32 k3, .int .i32 oseq, .int .u16 osum, .int .u16 olen, .slice (some ⟨gi, 0, none⟩) on (on + 64)]) w9) := Lib.hid ⟨HS8.out.1.later hb9, HS8.out.2.later hb9⟩
    have HU9 := Lib.hid (HU.out.later hb9)
    have HBl := Lib.hid (show oB.length = on from HX8.out.bl)
    clear hb9 HS8 HX8 HI8 HBi8 HU
    go_wp2_with fail
    refine hK.out _ _ HS9.out ?_
    clear hK K
    refine wpS_take HS9 (by kernel_rfl) (by intro W hW; clear hW; go_simp; try with_reducible rfl) ?_
    refine wpS_take HS9 (by kernel_rfl) (by intro W hW; clear hW; go_simp; try with_reducible rfl) ?_
    refine wpS_take HS9 (by kernel_rfl) (fun W hW => exec_load_row rfl rfl hW.2 Tryz.underlying61 rfl info_state) ?_
    go_simp
    refine wpS_do fun K hK => ?_
    go_wp2_with fail
    refine (spareState_yes ⟨oage, oopts, k1, k2, k3, oseq, osum, olen⟩ gi on oB w9 HBi9.out HBl.out hs).mono ?_
    rintro e w10 ⟨rfl, hb10⟩
    have HBi10 := Lib.hid (HBi9.out.later hb10)
    have HS10 : Hid ((fun W : World => Blk W w.heap.size 63 #[.int .u8 odo, .int .i64 onow, .int .u16 oage, .int .u8 oopts, .int .u8 k1, .int .u32 k2, .int .u32 k3, .int .i32 oseq, .int .u16 osum, .int .u16 olen, .slice oA on oc] ∧ Blk W gin 61 #[.int .u16 oage, .int .u8 oopts, .int .u8 k1, .int .u32 k2, .int .u32 k3, .int .i32 oseq, .int .u16 osum, .int .u16 olen, .slice (some ⟨gi, 0, none⟩) on (on + 64)]) w10) := Lib.hid ⟨HS9.out.1.later hb10, HS9.out.2.later hb10⟩
    have HU10 := Lib.hid (HU9.out.later hb10)
    clear hb10 HS9 HBi9 HU9
    go_wp2_with fail
    refine hK.out _ _ HS10.out ?_
    clear hK K
    refine wpS_take HS10 (by kernel_rfl) (by intro W hW; clear hW; go_simp; try with_reducible rfl) ?_
    refine wpS_take HS10 (by kernel_rfl) (by intro W hW; clear hW; go_simp; try with_reducible rfl) ?_
    refine wpS_nil ?_
    go_simp
    go_wp2_with fail
    have HIn := Lib.hid HS10.out.2
    clear HS10
    go_loopw [12] (fun iv wr => ∃ i : Nat, iv = .int .i64 i ∧ i ≤ on ∧ Hid (∃ zs : List Int, zs.length = on + 64 ∧ Blk wr gi 5 (u8s zs).toArray) ∧ Hid (Kept (fun b => b = gi) w10 wr)) (fun iv _ => on - (intOf iv).toNat)
    case atStart => exact ⟨0, rfl, Nat.zero_le _, Lib.hid ⟨wide oB, by rw [wide_length, HBl.out], HBi10.out⟩, Lib.hid (Kept.refl _ _)⟩
    case round =>
      obtain ⟨i, rfl, hi, hz, hk⟩ := hrel
      obtain ⟨zs, hzl, hzb⟩ := hz.out
      have HZb := Lib.hid hzb
      have HIr := Lib.hid (HIn.out.kept hk.out (blk_ne HIn.out HBi10.out (by decide)))
      have i8 := HIr.out.cell 8
      simp only [List.getElem?_toArray, List.getElem?_cons_zero, List.getElem?_cons_succ] at i8
      by_cases hlt : i < on
      · have hltI : (i : Int) < on := by omega
        obtain ⟨z, hzz⟩ : ∃ z, zs[i]? = some z := ⟨zs[i]'(by omega), List.getElem?_eq_getElem _⟩
        have e0 : wr.cell? ⟨gi, i, none⟩ = some (.int .u8 z) := by rw [hzb.cell]; simp [u8s, hzz]
        have f0 := hzb.frozen i
        clear hzb hzz
        go_wp2_with fail
        go_roundw
        case rel =>
          refine ⟨i + 1, by go_num, by omega, Lib.hid ⟨zs.set i (IntKind.u8.wrap (z + 1)), by rw [List.length_set]; exact hzl, ?_⟩, Lib.hid (hk.out.trans (kept_setC wr gi i _) (fun _ _ h => h))⟩
          have h1 := HZb.out.set_ i (.int .u8 (IntKind.u8.wrap (z + 1)))
          rw [List.setIfInBounds_toArray, u8s_set] at h1
          exact h1
        case measure => simp [intOf]; omega
      · obtain rfl : i = on := by omega
        clear hzb
        go_wp2_with fail
        go_ret
        refine ⟨rfl, f, N, v, xs, G, L, ?_⟩
        exact HU10.out.marked hk.out HBi10.out HNw.out (Nat.le_trans HS3.out HGi.out)
  · have hn : 0 ≤ onow ∧ onow ≤ 9223372036854775807 := ⟨by omega, hno.2⟩
    by_cases hroom : (f (k1, k2, k3)).isSome = true ∨ (N : Int) < most
    · skip
      refine wpS_do fun K hK => ?_
      go_wp2_with fail
      refine (stputo_any w6 g bm most f N HP6.out.p.q (⟨⟨oage, oopts, k1, k2, k3, oseq, osum, olen⟩, some ⟨gi, 0, none⟩, on, on + 64, oB⟩ : SE) HI6.out onow hn hroom).mono ?_
      rintro e w7 ⟨x', rfl, ph, pB, pn, pq, pk, po⟩
      have HQ7 := Lib.hid (And.intro ph (And.intro pB (And.intro pq po)))
      have HKa := Lib.hid ((Kept.of_new HB6.out (fun b => PairF bm gd v b ∨ BagF gb G b)).trans pk (fun b _ e => .inl (.inl e)))
      have HR7 := Lib.hid (HP6.out.p.r.map HP6.out.p.q.map pk)
      have HBg7 := Lib.hid (HP6.out.b.map HP6.out.p.q.map pk)
      have HOw7 : Hid (∀ k x, f k = some x → x.s.ok base w7) := Lib.hid fun k x hx => (by
        have h0 := HP6.out.p.own k x hx
        exact ⟨h0.head, own_kept h0.body pk (fun b hb => own_ne_mapF h0.body HP6.out.p.q.map b hb), h0.oct, h0.len⟩)
      have hgm : gi ≠ bm := fun e => HP6.out.p.q.map.ne_blk HBi6.out e.symm
      have HX7 := Lib.hid (HX6.out.kept2 pk (rd_ne_map HX6.out HP6.out.p.q.map))
      have HI7 := Lib.hid (HI6.out.kept2 pk (rd_ne_map HI6.out HP6.out.p.q.map))
      have HBi7 := Lib.hid (HBi6.out.kept pk hgm)
      have HZ7 : Hid (gin < w7.heap.size) := Lib.hid (Nat.lt_of_lt_of_le HZ6.out pk.size)
      have HS7 : Hid ((fun W : World => Blk W w.heap.size 63 #[.int .u8 odo, .int .i64 onow, .int .u16 oage, .int .u8 oopts, .int .u8 k1, .int .u32 k2, .int .u32 k3, .int .i32 oseq, .int .u16 osum, .int .u16 olen, .slice oA on oc] ∧ Blk W gin 61 #[.int .u16 oage, .int .u8 oopts, .int .u8 k1, .int .u32 k2, .int .u32 k3, .int .i32 oseq, .int .u16 osum, .int .u16 olen, .slice (some ⟨gi, 0, none⟩) on (on + 64)]) w7) := Lib.hid ⟨HS.out.1.kept pk (fun e => HP6.out.p.q.map.ne_blk HS.out.1 e.symm), HS.out.2.kept pk (fun e => HP6.out.p.q.map.ne_blk HS.out.2 e.symm)⟩
      have HBe6 := Lib.hid HP6.out.base_le
      have HPS := Lib.hid (And.intro HP6.out.p.l (And.intro HP6.out.p.n (And.intro HP6.out.p.lim (And.intro HP6.out.p.hbm (And.intro HP6.out.p.hgd (And.intro HP6.out.hgb HP6.out.dj))))))
      have HSz6 : Hid (w.heap.size ≤ w6.heap.size ∧ w6.heap.size ≤ w7.heap.size) := Lib.hid ⟨HB6.out.size, pk.size⟩
      clear ph pB pn pq pk po HP6 HX6 HI6 HBi6 HS HB6 hgm
      go_wp2_with fail
      refine hK.out _ _ HS7.out ?_
      clear hK K
      refine wpS_do fun K hK => ?_
      go_wp2_with fail
      refine (put11 base w7 gd v most xs HR7.out HPS.out.1.ascL (by have := HBe6.out; have := HSz6.out.2; omega) (by have := HPS.out.2.1; have := HPS.out.2.2.1; omega) (⟨⟨oage, oopts, k1, k2, k3, oseq, osum, olen⟩, oA, on, oc, oB⟩ : SE) HX7.out onow hn).mono ?_
      rintro e w8 (⟨y', v', xs', rfl, hr⟩ | ⟨_, hno2, hfull, _⟩)
      · have HR8 := Lib.hid hr
        have hst := HQ7.out.2.2.1.ref (base := base) (fun k x hx => by
          unfold updK at hx
          by_cases e : k = (⟨⟨oage, oopts, k1, k2, k3, oseq, osum, olen⟩, some ⟨gi, 0, none⟩, on, on + 64, oB⟩ : SE).key
          · rw [if_pos e] at hx
            injection hx with hx
            rw [← hx]
            exact HQ7.out.2.2.2.mono HBe6.out
          · rw [if_neg e] at hx
            exact HOw7.out k x hx) HR7.out hr.k
        have HSt8 := Lib.hid hst
        have HBg8 := Lib.hid (HBg7.out.ref HR7.out hr.k)
        have hgr : ∀ {gg : Nat} {cs : Array Value} {t : TypeId}, Blk w7 gg t cs → t ≠ 31 → 108 ≠ t → ¬ (gg = gd ∨ v.ownBlock = some gg) := fun hB h1 h2 e => by
          rcases e with e | e
          · exact blk_ne hB HR7.out.blk h1 e
          · exact own_blk_ne HR7.out.row hB h2 e
        have HBi8 := Lib.hid (HBi7.out.kept hr.k (hgr HBi7.out (by decide) (by decide)))
        have HS8 : Hid ((fun W : World => Blk W w.heap.size 63 #[.int .u8 odo, .int .i64 onow, .int .u16 oage, .int .u8 oopts, .int .u8 k1, .int .u32 k2, .int .u32 k3, .int .i32 oseq, .int .u16 osum, .int .u16 olen, .slice oA on oc] ∧ Blk W gin 61 #[.int .u16 oage, .int .u8 oopts, .int .u8 k1, .int .u32 k2, .int .u32 k3, .int .i32 oseq, .int .u16 osum, .int .u16 olen, .slice (some ⟨gi, 0, none⟩) on (on + 64)]) w8) := Lib.hid ⟨HS7.out.1.kept hr.k (hgr HS7.out.1 (by decide) (by decide)), HS7.out.2.kept hr.k (hgr HS7.out.2 (by decide) (by decide))⟩
        have hoff : 0 < on → ∀ ad, oA = some ad → ad.block ≠ gd ∧ v.ownBlock ≠ some ad.block := fun h0 ad hA => by
          have h1 := hob h0 ad hA
          refine ⟨by have := HPS.out.2.2.2.2.1; omega, fun e => ?_⟩
          have := (own_ge HR7.out.row e).1
          omega
        have HX8 : Hid ((⟨⟨oage, oopts, k1, k2, k3, oseq, osum, olen⟩, oA, on, oc, oB⟩ : SE).rd w8) := Lib.hid (HX7.out.kept2 hr.k (fun h0 ad hA e => by rcases e with e | e; exact (hoff h0 ad hA).1 e; exact (hoff h0 ad hA).2 e))
        have HI8 : Hid ((⟨⟨oage, oopts, k1, k2, k3, oseq, osum, olen⟩, some ⟨gi, 0, none⟩, on, on + 64, oB⟩ : SE).rd w8) := Lib.hid (HI7.out.kept2 hr.k (fun h0 ad hA => by injection hA with hA; subst hA; exact hgr HBi7.out (by decide) (by decide)))
        have HZ8 : Hid (gin < w8.heap.size) := Lib.hid (Nat.lt_of_lt_of_le HZ7.out hr.k.size)
        have hiso : (f (k1, k2, k3)).isSome = (rowAt xs (k1, k2, k3)).isSome := HPS.out.1.iso _
        have hsz7 : w.heap.size ≤ w7.heap.size := Nat.le_trans HSz6.out.1 HSz6.out.2
        have hgi6 : gi < w6.heap.size := by have := HZ6.out; omega
        have hxm : ∀ z ∈ xs', z ∈ xs ∨ z = ⟨y', onow⟩ := fun z hz => by
          have h1 := hr.row.1.rowAt hz
          rw [hr.row.2] at h1
          by_cases e : z.s.key = (⟨y', onow⟩ : OneE).s.key
          · rw [if_pos e] at h1; injection h1 with h1; exact .inr h1.symm
          · rw [if_neg e] at h1; exact .inl (rowAt_some h1).1
        have hyk : y'.key = (k1, k2, k3) := by show (y'.h.typ, y'.h.id, y'.h.adv) = _; rw [hr.h]
        have hxk : x'.key = (k1, k2, k3) := by show (x'.h.typ, x'.h.id, x'.h.adv) = _; rw [HQ7.out.1]
        have hfm : ∀ k x, updK f (k1, k2, k3) ⟨x', onow⟩ k = some x → x = ⟨x', onow⟩ ∨ f k = some x := fun k x hx => by
          unfold updK at hx
          by_cases e : k = (k1, k2, k3)
          · rw [if_pos e] at hx; injection hx with hx; exact .inl hx.symm
          · rw [if_neg e] at hx; exact .inr hx
        have hxb : ∀ b, x'.b.ownBlock = some b → w6.heap.size ≤ b := fun b hb => (own_ge HQ7.out.2.2.2.body hb).1
        have hyb : ∀ b, y'.b.ownBlock = some b → w7.heap.size ≤ b := fun b hb => (own_ge hr.ok.body hb).1
        have HU : Hid (OneR base w w8 g bm most f N gd v xs gb G L (updK f (k1, k2, k3) ⟨x', onow⟩) (if (f (k1, k2, k3)).isSome = true then N else N + 1) v' xs' G L) := Lib.hid ⟨⟨⟨HSt8.out.1, HSt8.out.2, hr.q, HPS.out.1.put hr.row (x := ⟨x', onow⟩) (by rw [HQ7.out.1, hr.h]) (by rw [HQ7.out.2.1, hr.B]) rfl hyk hxk, ?_, ?_, HPS.out.2.2.2.1, HPS.out.2.2.2.2.1⟩, HBg8.out, ?_, HPS.out.2.2.2.2.2.1⟩, HKa.out.trans hr.k (fun b _ e => .inl (.inr e)), fun b hb => ?_, BagUp.refl _ _ _ _, fun _ _ => rfl⟩
        rotate_left
        · have h1 := hr.len
          have h2 : (rowAt xs (⟨⟨oage, oopts, k1, k2, k3, oseq, osum, olen⟩, oA, on, oc, oB⟩ : SE).key).isSome = (rowAt xs (k1, k2, k3)).isSome := rfl
          rw [h1, h2, ← hiso, HPS.out.2.1]
        · have h1 := HPS.out.2.2.1
          refine ⟨?_, h1.2⟩
          rcases hroom with h2 | h2
          · rw [if_pos h2]; exact h1.1
          · split
            · exact h1.1
            · push_cast; omega
        · intro s hs b hb
          have hlt := HP0.out.lt8.2.2 s hs b hb
          have hd := HPS.out.2.2.2.2.2.2 s hs b hb
          refine ⟨fun k x hx e => ?_, fun x hx e => ?_⟩
          · rcases hfm k x hx with h1 | h1
            · subst h1
              have := hxb b e
              have := HSz6.out.1
              omega
            · exact hd.1 k x h1 e
          · rcases hxm x hx with h1 | h1
            · exact hd.2 x h1 e
            · subst h1
              have := hyb b e
              omega
        · rcases hr.vb with e | ⟨c, e, hc⟩
          · left; rw [← e]; exact hb
          · right
            rw [e] at hb
            injection hb with hb
            omega
        have HNw : Hid ((∀ k x, updK f (k1, k2, k3) ⟨x', onow⟩ k = some x → ∀ b, x.s.b.ownBlock = some b → b ≠ gi) ∧ (∀ x ∈ xs', ∀ b, x.s.b.ownBlock = some b → b ≠ gi) ∧ ∀ s ∈ L 0, ∀ b, s.v.ownBlock = some b → b ≠ gi) := Lib.hid ⟨fun k x hx b hb => (by
            rcases hfm k x hx with h1 | h1
            · subst h1
              have := hxb b hb
              omega
            · exact Nat.ne_of_lt (Nat.lt_of_lt_of_le (HP0.out.lt8.1 k x h1 b hb) (Nat.le_trans HS3.out HGi.out))), fun x hx b hb => (by
            rcases hxm x hx with h1 | h1
            · exact Nat.ne_of_lt (Nat.lt_of_lt_of_le (HP0.out.lt8.2.1 x h1 b hb) (Nat.le_trans HS3.out HGi.out))
            · subst h1
              have h2 := hyb b hb
              have h3 := HSz6.out.2
              omega), fun s hs b hb => Nat.ne_of_lt (Nat.lt_of_lt_of_le (HP0.out.lt8.2.2 s hs b hb) (Nat.le_trans HS3.out HGi.out))⟩
        clear HR8 HSt8 HBg8 HPS HQ7 HR7 HBg7 HOw7 HX7 HI7 HBi7 HS7 HKa hxm hfm hxb hyb hr hst hgr hoff
        go_wp2_with fail
        refine hK.out _ _ HS8.out ?_
        clear hK K
        refine wpS_take HS8 (by kernel_rfl) (by intro W hW; clear hW; go_simp; try with_reducible rfl) ?_
        refine wpS_take HS8 (by kernel_rfl) (by intro W hW; clear hW; go_simp; try with_reducible rfl) ?_
        refine wpS_take HS8 (by kernel_rfl) (by intro W hW; clear hW; go_simp; try with_reducible rfl) ?_
        refine wpS_take HS8 (by kernel_rfl) (fun W hW => exec_load_row rfl rfl hW.2 Tryz.underlying61 rfl info_state) ?_
        refine wpS_take HS8 (by kernel_rfl) (by intro W hW; have j0 := hW.1.cell 0; have j1 := hW.1.cell 1; have j2 := hW.1.cell 2; have j3 := hW.1.cell 3; have j4 := hW.1.cell 4; have j5 := hW.1.cell 5; have j6 := hW.1.cell 6; have j7 := hW.1.cell 7; have j8 := hW.1.cell 8; have j9 := hW.1.cell 9; have j10 := hW.1.cell 10; simp only [List.getElem?_toArray, List.getElem?_cons_zero, List.getElem?_cons_succ] at j0 j1 j2 j3 j4 j5 j6 j7 j8 j9 j10; clear hW; go_simp; try with_reducible rfl) ?_
        go_simp
        refine wpS_do fun K hK => ?_
        go_wp2_with fail
        refine (eqState_at (⟨⟨oage, oopts, k1, k2, k3, oseq, osum, olen⟩, some ⟨gi, 0, none⟩, on, on + 64, oB⟩ : SE) (⟨⟨oage, oopts, k1, k2, k3, oseq, osum, olen⟩, oA, on, oc, oB⟩ : SE) w8 HI8.out HX8.out rfl rfl).mono ?_
        rintro e w9 ⟨rfl, hb9⟩
        have HBi9 := Lib.hid (HBi8.out.later hb9)
        have HS9 : Hid ((fun W : World => Blk W w.heap.size 63 #[.int .u8 odo, .int .i64 onow, .int .u16 oage, .int .u8 oopts, .int .u8 k1, .int .u32 k2, .int .u32 k3, .int .i32 oseq, .int .u16 osum, .int .u16 olen, .slice oA on oc] ∧ Blk W gin 61 #[.int .u16 oage, .int .u8 oopts, .int .u8 k1, .int .u32 k2, .int .u32 k3, .int .i32 oseq, .int .u16 osum, .int .u16 olen, .slice (some ⟨gi, 0, none⟩) on (on + 64)]) w9) := Lib.hid ⟨HS8.out.1.later hb9, HS8.out.2.later hb9⟩
        have HU9 := Lib.hid (HU.out.later hb9)
        have HBl := Lib.hid (show oB.length = on from HX8.out.bl)
        clear hb9 HS8 HX8 HI8 HBi8 HU
        go_wp2_with fail
        refine hK.out _ _ HS9.out ?_
        clear hK K
        refine wpS_take HS9 (by kernel_rfl) (by intro W hW; clear hW; go_simp; try with_reducible rfl) ?_
        refine wpS_take HS9 (by kernel_rfl) (by intro W hW; clear hW; go_simp; try with_reducible rfl) ?_
        refine wpS_take HS9 (by kernel_rfl) (fun W hW => exec_load_row rfl rfl hW.2 Tryz.underlying61 rfl info_state) ?_
        go_simp
        refine wpS_do fun K hK => ?_
        go_wp2_with fail
        refine (spareState_yes ⟨oage, oopts, k1, k2, k3, oseq, osum, olen⟩ gi on oB w9 HBi9.out HBl.out hs).mono ?_
        rintro e w10 ⟨rfl, hb10⟩
        have HBi10 := Lib.hid (HBi9.out.later hb10)
        have HS10 : Hid ((fun W : World => Blk W w.heap.size 63 #[.int .u8 odo, .int .i64 onow, .int .u16 oage, .int .u8 oopts, .int .u8 k1, .int .u32 k2, .int .u32 k3, .int .i32 oseq, .int .u16 osum, .int .u16 olen, .slice oA on oc] ∧ Blk W gin 61 #[.int .u16 oage, .int .u8 oopts, .int .u8 k1, .int .u32 k2, .int .u32 k3, .int .i32 oseq, .int .u16 osum, .int .u16 olen, .slice (some ⟨gi, 0, none⟩) on (on + 64)]) w10) := Lib.hid ⟨HS9.out.1.later hb10, HS9.out.2.later hb10⟩
        have HU10 := Lib.hid (HU9.out.later hb10)
        clear hb10 HS9 HBi9 HU9
        go_wp2_with fail
        refine hK.out _ _ HS10.out ?_
        clear hK K
        refine wpS_take HS10 (by kernel_rfl) (by intro W hW; clear hW; go_simp; try with_reducible rfl) ?_
        refine wpS_take HS10 (by kernel_rfl) (by intro W hW; clear hW; go_simp; try with_reducible rfl) ?_
        refine wpS_nil ?_
        go_simp
        go_wp2_with fail
        have HIn := Lib.hid HS10.out.2
        clear HS10
        go_loopw [12] (fun iv wr => ∃ i : Nat, iv = .int .i64 i ∧ i ≤ on ∧ Hid (∃ zs : List Int, zs.length = on + 64 ∧ Blk wr gi 5 (u8s zs).toArray) ∧ Hid (Kept (fun b => b = gi) w10 wr)) (fun iv _ => on - (intOf iv).toNat)
        case atStart => exact ⟨0, rfl, Nat.zero_le _, Lib.hid ⟨wide oB, by rw [wide_length, HBl.out], HBi10.out⟩, Lib.hid (Kept.refl _ _)⟩
        case round =>
          obtain ⟨i, rfl, hi, hz, hk⟩ := hrel
          obtain ⟨zs, hzl, hzb⟩ := hz.out
          have HZb := Lib.hid hzb
          have HIr := Lib.hid (HIn.out.kept hk.out (blk_ne HIn.out HBi10.out (by decide)))
          have i8 := HIr.out.cell 8
          simp only [List.getElem?_toArray, List.getElem?_cons_zero, List.getElem?_cons_succ] at i8
          by_cases hlt : i < on
          · have hltI : (i : Int) < on := by omega
            obtain ⟨z, hzz⟩ : ∃ z, zs[i]? = some z := ⟨zs[i]'(by omega), List.getElem?_eq_getElem _⟩
            have e0 : wr.cell? ⟨gi, i, none⟩ = some (.int .u8 z) := by rw [hzb.cell]; simp [u8s, hzz]
            have f0 := hzb.frozen i
            clear hzb hzz
            go_wp2_with fail
            go_roundw
            case rel =>
              refine ⟨i + 1, by go_num, by omega, Lib.hid ⟨zs.set i (IntKind.u8.wrap (z + 1)), by rw [List.length_set]; exact hzl, ?_⟩, Lib.hid (hk.out.trans (kept_setC wr gi i _) (fun _ _ h => h))⟩
              have h1 := HZb.out.set_ i (.int .u8 (IntKind.u8.wrap (z + 1)))
              rw [List.setIfInBounds_toArray, u8s_set] at h1
              exact h1
            case measure => simp [intOf]; omega
          · obtain rfl : i = on := by omega
            clear hzb
            go_wp2_with fail
            go_ret
            refine ⟨rfl, updK f (k1, k2, k3) ⟨x', onow⟩, (if (f (k1, k2, k3)).isSome = true then N else N + 1), v', xs', G, L, ?_⟩
            exact HU10.out.marked hk.out HBi10.out HNw.out (Nat.le_trans HS3.out HGi.out)
      · exfalso
        have h3 : f (k1, k2, k3) = none := HPS.out.1.none_ hno2
        rcases hroom with h1 | h1
        · rw [h3] at h1; cases h1
        · have := HPS.out.2.1; omega
    · have hfull : f (k1, k2, k3) = none ∧ most ≤ (N : Int) := by
        refine ⟨?_, by omega⟩
        cases hf : f (k1, k2, k3) with
        | none => rfl
        | some x => exact absurd (.inl (by rw [hf]; rfl)) hroom
      refine wpS_do fun K hK => ?_
      go_wp2_with fail
      refine (stputfull_any w6 g bm most f N HP6.out.p.q (⟨⟨oage, oopts, k1, k2, k3, oseq, osum, olen⟩, some ⟨gi, 0, none⟩, on, on + 64, oB⟩ : SE) HI6.out onow hn hfull).mono ?_
      rintro e w7 ⟨rfl, hb7⟩
      have HP7 := Lib.hid (HP6.out.later hb7)
      have HX7 := Lib.hid (HX6.out.later hb7)
      have HI7 := Lib.hid (HI6.out.later hb7)
      have HBi7 := Lib.hid (HBi6.out.later hb7)
      have HB7 := Lib.hid (below_then HB6.out hb7)
      have HS7 : Hid ((fun W : World => Blk W w.heap.size 63 #[.int .u8 odo, .int .i64 onow, .int .u16 oage, .int .u8 oopts, .int .u8 k1, .int .u32 k2, .int .u32 k3, .int .i32 oseq, .int .u16 osum, .int .u16 olen, .slice oA on oc] ∧ Blk W gin 61 #[.int .u16 oage, .int .u8 oopts, .int .u8 k1, .int .u32 k2, .int .u32 k3, .int .i32 oseq, .int .u16 osum, .int .u16 olen, .slice (some ⟨gi, 0, none⟩) on (on + 64)]) w7) := Lib.hid ⟨HS.out.1.later hb7, HS.out.2.later hb7⟩
      have HZ7 : Hid (gin < w7.heap.size) := Lib.hid (Nat.lt_of_lt_of_le HZ6.out hb7.size)
      clear hb7 HP6 HX6 HI6 HBi6 HB6 HS
      go_wp2_with fail
      refine hK.out _ _ HS7.out ?_
      clear hK K
      refine wpS_do fun K hK => ?_
      go_wp2_with fail
      refine (put11 base w7 gd v most xs HP7.out.p.r HP7.out.p.l.ascL HP7.out.base_le (by have := HP7.out.p.n; have := HP7.out.p.lim; omega) (⟨⟨oage, oopts, k1, k2, k3, oseq, osum, olen⟩, oA, on, oc, oB⟩ : SE) HX7.out onow hn).mono ?_
      rintro e w8 (⟨y', v', xs', rfl, hr⟩ | ⟨rfl, _, _, hb8⟩)
      · exfalso
        have h1 := hr.room
        have h2 : (f (k1, k2, k3)).isSome = (rowAt xs (k1, k2, k3)).isSome := HP7.out.p.l.iso _
        rcases h1 with h1 | h1
        · rw [hfull.1] at h2
          have h3 : (rowAt xs (k1, k2, k3)).isSome = true := h1
          rw [h3] at h2
          cases h2
        · have := HP7.out.p.n; omega
      · skip
        have HP8 := Lib.hid (HP7.out.later hb8)
        have HX8 := Lib.hid (HX7.out.later hb8)
        have HI8 := Lib.hid (HI7.out.later hb8)
        have HBi8 := Lib.hid (HBi7.out.later hb8)
        have HB8 := Lib.hid (below_then HB7.out hb8)
        have HS8 : Hid ((fun W : World => Blk W w.heap.size 63 #[.int .u8 odo, .int .i64 onow, .int .u16 oage, .int .u8 oopts, .int .u8 k1, .int .u32 k2, .int .u32 k3, .int .i32 oseq, .int .u16 osum, .int .u16 olen, .slice oA on oc] ∧ Blk W gin 61 #[.int .u16 oage, .int .u8 oopts, .int .u8 k1, .int .u32 k2, .int .u32 k3, .int .i32 oseq, .int .u16 osum, .int .u16 olen, .slice (some ⟨gi, 0, none⟩) on (on + 64)]) w8) := Lib.hid ⟨HS7.out.1.later hb8, HS7.out.2.later hb8⟩
        clear hb8 HP7 HX7 HI7 HBi7 HB7 HS7
        go_wp2_with fail
        refine hK.out _ _ HS8.out ?_
        clear hK K
        have HU : Hid (OneR base w w8 g bm most f N gd v xs gb G L f N v xs G L) := Lib.hid ⟨HP8.out, Kept.of_new HB8.out _, fun b hb => .inl hb, BagUp.refl _ _ _ _, fun _ _ => rfl⟩
        have HNw : Hid ((∀ k x, f k = some x → ∀ b, x.s.b.ownBlock = some b → b ≠ gi) ∧ (∀ x ∈ xs, ∀ b, x.s.b.ownBlock = some b → b ≠ gi) ∧ ∀ s ∈ L 0, ∀ b, s.v.ownBlock = some b → b ≠ gi) := Lib.hid ⟨fun k x hx b hb => Nat.ne_of_lt (Nat.lt_of_lt_of_le (HP0.out.lt8.1 k x hx b hb) (Nat.le_trans HS3.out HGi.out)), fun x hx b hb => Nat.ne_of_lt (Nat.lt_of_lt_of_le (HP0.out.lt8.2.1 x hx b hb) (Nat.le_trans HS3.out HGi.out)), fun s hs b hb => Nat.ne_of_lt (Nat.lt_of_lt_of_le (HP0.out.lt8.2.2 s hs b hb) (Nat.le_trans HS3.out HGi.out))⟩
        clear HP8 HB8
        refine wpS_take HS8 (by kernel_rfl) (by intro W hW; clear hW; go_simp; try with_reducible rfl) ?_
        refine wpS_take HS8 (by kernel_rfl) (by intro W hW; clear hW; go_simp; try with_reducible rfl) ?_
        refine wpS_take HS8 (by kernel_rfl) (by intro W hW; clear hW; go_simp; try with_reducible rfl) ?_
        refine wpS_take HS8 (by kernel_rfl) (fun W hW => exec_load_row rfl rfl hW.2 Tryz.underlying61 rfl info_state) ?_
        refine wpS_take HS8 (by kernel_rfl) (by intro W hW; have j0 := hW.1.cell 0; have j1 := hW.1.cell 1; have j2 := hW.1.cell 2; have j3 := hW.1.cell 3; have j4 := hW.1.cell 4; have j5 := hW.1.cell 5; have j6 := hW.1.cell 6; have j7 := hW.1.cell 7; have j8 := hW.1.cell 8; have j9 := hW.1.cell 9; have j10 := hW.1.cell 10; simp only [List.getElem?_toArray, List.getElem?_cons_zero, List.getElem?_cons_succ] at j0 j1 j2 j3 j4 j5 j6 j7 j8 j9 j10; clear hW; go_simp; try with_reducible rfl) ?_
        go_simp
        refine wpS_do fun K hK => ?_
        go_wp2_with fail
        refine (eqState_at (⟨⟨oage, oopts, k1, k2, k3, oseq, osum, olen⟩, some ⟨gi, 0, none⟩, on, on + 64, oB⟩ : SE) (⟨⟨oage, oopts, k1, k2, k3, oseq, osum, olen⟩, oA, on, oc, oB⟩ : SE) w8 HI8.out HX8.out rfl rfl).mono ?_
        rintro e w9 ⟨rfl, hb9⟩
        have HBi9 := Lib.hid (HBi8.out.later hb9)
        have HS9 : Hid ((fun W : World => Blk W w.heap.size 63 #[.int .u8 odo, .int .i64 onow, .int .u16 oage, .int .u8 oopts, .int .u8 k1, .int .u32 k2, .int .u32 k3, .int .i32 oseq, .int .u16 osum, .int .u16 olen, .slice oA on oc] ∧ Blk W gin 61 #[.int .u16 oage, .int .u8 oopts, .int .u8 k1, .int .u32 k2, .int .u32 k3, .int .i32 oseq, .int .u16 osum, .int .u16 olen, .slice (some ⟨gi, 0, none⟩) on (on + 64)]) w9) := Lib.hid ⟨HS8.out.1.later hb9, HS8.out.2.later hb9⟩
        have HU9 := Lib.hid (HU.out.later hb9)
        have HBl := Lib.hid (show oB.length = on from HX8.out.bl)
        clear hb9 HS8 HX8 HI8 HBi8 HU
        go_wp2_with fail
        refine hK.out _ _ HS9.out ?_
        clear hK K
        refine wpS_take HS9 (by kernel_rfl) (by intro W hW; clear hW; go_simp; try with_reducible rfl) ?_
        refine wpS_take HS9 (by kernel_rfl) (by intro W hW; clear hW; go_simp; try with_reducible rfl) ?_
        refine wpS_take HS9 (by kernel_rfl) (fun W hW => exec_load_row rfl rfl hW.2 Tryz.underlying61 rfl info_state) ?_
        go_simp
        refine wpS_do fun K hK => ?_
        go_wp2_with fail
        refine (spareState_yes ⟨oage, oopts, k1, k2, k3, oseq, osum, olen⟩ gi on oB w9 HBi9.out HBl.out hs).mono ?_
        rintro e w10 ⟨rfl, hb10⟩
        have HBi10 := Lib.hid (HBi9.out.later hb10)
        have HS10 : Hid ((fun W : World => Blk W w.heap.size 63 #[.int .u8 odo, .int .i64 onow, .int .u16 oage, .int .u8 oopts, .int .u8 k1, .int .u32 k2, .int .u32 k3, .int .i32 oseq, .int .u16 osum, .int .u16 olen, .slice oA on oc] ∧ Blk W gin 61 #[.int .u16 oage, .int .u8 oopts, .int .u8 k1, .int .u32 k2, .int .u32 k3, .int .i32 oseq, .int .u16 osum, .int .u16 olen, .slice (some ⟨gi, 0, none⟩) on (on + 64)]) w10) := Lib.hid ⟨HS9.out.1.later hb10, HS9.out.2.later hb10⟩
        have HU10 := Lib.hid (HU9.out.later hb10)
        clear hb10 HS9 HBi9 HU9
        go_wp2_with fail
        refine hK.out _ _ HS10.out ?_
        clear hK K
        refine wpS_take HS10 (by kernel_rfl) (by intro W hW; clear hW; go_simp; try with_reducible rfl) ?_
        refine wpS_take HS10 (by kernel_rfl) (by intro W hW; clear hW; go_simp; try with_reducible rfl) ?_
        refine wpS_nil ?_
        go_simp
        go_wp2_with fail
        have HIn := Lib.hid HS10.out.2
        clear HS10
        go_loopw [12] (fun iv wr => ∃ i : Nat, iv = .int .i64 i ∧ i ≤ on ∧ Hid (∃ zs : List Int, zs.length = on + 64 ∧ Blk wr gi 5 (u8s zs).toArray) ∧ Hid (Kept (fun b => b = gi) w10 wr)) (fun iv _ => on - (intOf iv).toNat)
        case atStart => exact ⟨0, rfl, Nat.zero_le _, Lib.hid ⟨wide oB, by rw [wide_length, HBl.out], HBi10.out⟩, Lib.hid (Kept.refl _ _)⟩
        case round =>
          obtain ⟨i, rfl, hi, hz, hk⟩ := hrel
          obtain ⟨zs, hzl, hzb⟩ := hz.out
          have HZb := Lib.hid hzb
          have HIr := Lib.hid (HIn.out.kept hk.out (blk_ne HIn.out HBi10.out (by decide)))
          have i8 := HIr.out.cell 8
          simp only [List.getElem?_toArray, List.getElem?_cons_zero, List.getElem?_cons_succ] at i8
          by_cases hlt : i < on
          · have hltI : (i : Int) < on := by omega
            obtain ⟨z, hzz⟩ : ∃ z, zs[i]? = some z := ⟨zs[i]'(by omega), List.getElem?_eq_getElem _⟩
            have e0 : wr.cell? ⟨gi, i, none⟩ = some (.int .u8 z) := by rw [hzb.cell]; simp [u8s, hzz]
            have f0 := hzb.frozen i
            clear hzb hzz
            go_wp2_with fail
            go_roundw
            case rel =>
              refine ⟨i + 1, by go_num, by omega, Lib.hid ⟨zs.set i (IntKind.u8.wrap (z + 1)), by rw [List.length_set]; exact hzl, ?_⟩, Lib.hid (hk.out.trans (kept_setC wr gi i _) (fun _ _ h => h))⟩
              have h1 := HZb.out.set_ i (.int .u8 (IntKind.u8.wrap (z + 1)))
              rw [List.setIfInBounds_toArray, u8s_set] at h1
              exact h1
            case measure => simp [intOf]; omega
          · obtain rfl : i = on := by omega
            clear hzb
            go_wp2_with fail
            go_ret
            refine ⟨rfl, f, N, v, xs, G, L, ?_⟩
            exact HU10.out.marked hk.out HBi10.out HNw.out (Nat.le_trans HS3.out HGi.out)
set_option maxRecDepth 100000 in
set_option maxHeartbeats 16000000 in
theorem one_put2 (base : Nat) (w : World) (g bm : Nat) (most : Int) (f : Ky3 → Option OneE) (N gd : Nat) (v : Value) (xs : List OneE) (gb : Nat) (G : Nat → Sl) (L : Nat → List Sl) (h : PB base w g bm most f N gd v xs gb G L) (o : OpS) (ho : o.ok w) (hs : o.s.n ≤ 1099511627776) (hob : 0 < o.s.n → ∀ ad, o.s.A = some ad → ad.block < base) (hc : o.do_ % 6 = 2) :
    Calls Tryz.prog 8 #[.pointer (some ⟨g, 0, none⟩), .pointer (some ⟨gd, 0, none⟩), o.v, .pointer (some ⟨gb, 0, none⟩)] w fun e w' => OneP base w w' g bm most f N gd v xs gb G L e := by
  obtain ⟨odo, onow, ⟨⟨oage, oopts, k1, k2, k3, oseq, osum, olen⟩, oA, on, oc, oB⟩⟩ := o
  have hd := ho.do_
  have hno := ho.now
  simp only at hd hno hs hob hc
  have hb1 : Below w.heap.size w (w.alloc (.cells #[.int .u8 odo, .int .i64 onow, .int .u16 oage, .int .u8 oopts, .int .u8 k1, .int .u32 k2, .int .u32 k3, .int .i32 oseq, .int .u16 osum, .int .u16 olen, .slice oA on oc] 63)) := (Below.refl _ _).alloc (Nat.le_refl _) _
  have HOb : Hid (Blk (w.alloc (.cells #[.int .u8 odo, .int .i64 onow, .int .u16 oage, .int .u8 oopts, .int .u8 k1, .int .u32 k2, .int .u32 k3, .int .i32 oseq, .int .u16 osum, .int .u16 olen, .slice oA on oc] 63)) w.heap.size 63 #[.int .u8 odo, .int .i64 onow, .int .u16 oage, .int .u8 oopts, .int .u8 k1, .int .u32 k2, .int .u32 k3, .int .i32 oseq, .int .u16 osum, .int .u16 olen, .slice oA on oc]) := Lib.hid (Blk.new _ _ _)
  have HP0 := Lib.hid h
  have HP := Lib.hid (h.later hb1)
  have HX := Lib.hid ((show SE.rd w (⟨⟨oage, oopts, k1, k2, k3, oseq, osum, olen⟩, oA, on, oc, oB⟩ : SE) from ⟨ho.s.head, ho.s.body, ho.s.oct, ho.s.cap, hs⟩).later hb1)
  have HB1 := Lib.hid hb1
  have c0 := HOb.out.cell 0; have c2 := HOb.out.cell 2; have c3 := HOb.out.cell 3; have c4 := HOb.out.cell 4; have c5 := HOb.out.cell 5; have c6 := HOb.out.cell 6; have c7 := HOb.out.cell 7; have c8 := HOb.out.cell 8; have c9 := HOb.out.cell 9
  simp only [List.getElem?_toArray, List.getElem?_cons_zero, List.getElem?_cons_succ] at c0 c2 c3 c4 c5 c6 c7 c8 c9
  have hw : IntKind.u8.wrap (odo % 6) = odo % 6 := by simp [IntKind.wrap, IntKind.bits, IntKind.signed]; omega
  have htm : odo.tmod 6 = odo % 6 := Int.tmod_eq_emod_of_nonneg hd.1
  clear h ho hb1
  show Calls Tryz.prog 8 #[.pointer (some ⟨g, 0, none⟩), .pointer (some ⟨gd, 0, none⟩), .agg #[.int .u8 odo, .int .i64 onow, .int .u16 oage, .int .u8 oopts, .int .u8 k1, .int .u32 k2, .int .u32 k3, .int .i32 oseq, .int .u16 osum, .int .u16 olen, .slice oA on oc], .pointer (some ⟨gb, 0, none⟩)] w fun e w' => OneP base w w' g bm most f N gd v xs gb G L e
  go_enter Tryz.func8, Tryz.ntmps8
  go_wp2_with fail
  clear c0 c2 c3 c4 c5 c6 c7 c8 c9
  generalize w.alloc (.cells #[.int .u8 odo, .int .i64 onow, .int .u16 oage, .int .u8 oopts, .int .u8 k1, .int .u32 k2, .int .u32 k3, .int .i32 oseq, .int .u16 osum, .int .u16 olen, .slice oA on oc] 63) = w1 at *
  refine (rkey_hd ⟨oage, oopts, k1, k2, k3, oseq, osum, olen⟩ w1).mono ?_
  rintro e w2 ⟨rfl, hb2⟩
  have HP2 := Lib.hid (HP.out.later hb2)
  have HX2 := Lib.hid (HX.out.later hb2)
  have HOb2 := Lib.hid (HOb.out.later hb2)
  have HB2 := Lib.hid (below_then HB1.out hb2)
  clear hb2 HP HX HOb HB1
  have hb3 : Below w2.heap.size w2 (w2.alloc (.cells #[.int .u8 k1, .int .u32 k2, .int .u32 k3] 68)) := (Below.refl _ _).alloc (Nat.le_refl _) _
  have HK3 : Hid (Blk (w2.alloc (.cells #[.int .u8 k1, .int .u32 k2, .int .u32 k3] 68)) w2.heap.size 68 #[.int .u8 k1, .int .u32 k2, .int .u32 k3]) := Lib.hid (Blk.new _ _ _)
  have HP3 := Lib.hid (HP2.out.later hb3)
  have HX3 := Lib.hid (HX2.out.later hb3)
  have HO3 := Lib.hid (HOb2.out.later hb3)
  have HB3 := Lib.hid (below_then HB2.out hb3)
  clear hb3 HP2 HX2 HOb2
  have c0 := HO3.out.cell 0; have c1 := HO3.out.cell 1; have c2 := HO3.out.cell 2; have c3 := HO3.out.cell 3; have c4 := HO3.out.cell 4; have c5 := HO3.out.cell 5; have c6 := HO3.out.cell 6; have c7 := HO3.out.cell 7; have c8 := HO3.out.cell 8; have c9 := HO3.out.cell 9; have c10 := HO3.out.cell 10
  have b0 := HK3.out.cell 0; have b1 := HK3.out.cell 1; have b2 := HK3.out.cell 2
  simp only [List.getElem?_toArray, List.getElem?_cons_zero, List.getElem?_cons_succ] at c0 c1 c2 c3 c4 c5 c6 c7 c8 c9 c10 b0 b1 b2
  go_wp2_with fail
  clear c0 c1 c2 c3 c4 c5 c6 c7 c8 c9 c10 b0 b1 b2 hw htm HK3
  generalize w2.alloc (.cells #[.int .u8 k1, .int .u32 k2, .int .u32 k3] 68) = w3 at *
  refine (wideState_any (⟨⟨oage, oopts, k1, k2, k3, oseq, osum, olen⟩, oA, on, oc, oB⟩ : SE) w3 HX3.out).mono ?_
  rintro e w4 ⟨gi, rfl, hgi, hBi, hb4⟩
  have HGi := Lib.hid hgi
  have HBi4 := Lib.hid hBi
  have HP4 := Lib.hid (HP3.out.later hb4)
  have HX4 := Lib.hid (HX3.out.later hb4)
  have HO4 := Lib.hid (HO3.out.later hb4)
  have HB4 := Lib.hid (below_then HB3.out hb4)
  have HS3 := Lib.hid HB3.out.size
  clear hgi hBi hb4 HP3 HX3 HO3 HB3
  have hb5 : Below w4.heap.size w4 (w4.alloc (.cells #[.int .u16 oage, .int .u8 oopts, .int .u8 k1, .int .u32 k2, .int .u32 k3, .int .i32 oseq, .int .u16 osum, .int .u16 olen, .slice (some ⟨gi, 0, none⟩) on (on + 64)] 61)) := (Below.refl _ _).alloc (Nat.le_refl _) _
  have HIn : Hid (Blk (w4.alloc (.cells #[.int .u16 oage, .int .u8 oopts, .int .u8 k1, .int .u32 k2, .int .u32 k3, .int .i32 oseq, .int .u16 osum, .int .u16 olen, .slice (some ⟨gi, 0, none⟩) on (on + 64)] 61)) w4.heap.size 61 #[.int .u16 oage, .int .u8 oopts, .int .u8 k1, .int .u32 k2, .int .u32 k3, .int .i32 oseq, .int .u16 osum, .int .u16 olen, .slice (some ⟨gi, 0, none⟩) on (on + 64)]) := Lib.hid (Blk.new _ _ _)
  have HBi := Lib.hid (HBi4.out.later hb5)
  have HP5 := Lib.hid (HP4.out.later hb5)
  have HX5 := Lib.hid (HX4.out.later hb5)
  have HO5 := Lib.hid (HO4.out.later hb5)
  have HB5 := Lib.hid (below_then HB4.out hb5)
  have hgl : gi < w4.heap.size := HBi4.out.lt
  have hi4 : (⟨⟨oage, oopts, k1, k2, k3, oseq, osum, olen⟩, some ⟨gi, 0, none⟩, on, on + 64, oB⟩ : SE).rd w4 := ⟨HX4.out.head, (by
    have hbl : oB.length = on := HX4.out.bl
    have h1 := (HBi4.out.reads (n := oB.length) (by simp only [u8s_length, wide_length]; omega)).more (B' := w4.heap.size) (by omega)
    rw [u8s_take, wide_take, hbl] at h1
    exact h1), HX4.out.oct, ⟨by simp only; omega, by simp only; omega⟩, hs⟩
  have HI5 := Lib.hid (hi4.later hb5)
  clear hb5 hi4 HP4 HX4 HO4 HBi4
  go_wp2_with fail
  have hsz4 : w.heap.size ≤ w4.heap.size := HB4.out.size
  generalize hgin : w4.heap.size = gin at *
  generalize w4.alloc (.cells #[.int .u16 oage, .int .u8 oopts, .int .u8 k1, .int .u32 k2, .int .u32 k3, .int .i32 oseq, .int .u16 osum, .int .u16 olen, .slice (some ⟨gi, 0, none⟩) on (on + 64)] 61) = w5 at *
  have HGin : Hid (gin < w5.heap.size) := Lib.hid HIn.out.lt
  clear HB4
  have hbd : Below w5.heap.size w5 w5.drew := (Below.refl _ _).drew
  have HS : Hid ((fun W : World => Blk W w.heap.size 63 #[.int .u8 odo, .int .i64 onow, .int .u16 oage, .int .u8 oopts, .int .u8 k1, .int .u32 k2, .int .u32 k3, .int .i32 oseq, .int .u16 osum, .int .u16 olen, .slice oA on oc] ∧ Blk W gin 61 #[.int .u16 oage, .int .u8 oopts, .int .u8 k1, .int .u32 k2, .int .u32 k3, .int .i32 oseq, .int .u16 osum, .int .u16 olen, .slice (some ⟨gi, 0, none⟩) on (on + 64)]) w5.drew) := Lib.hid ⟨HO5.out.later hbd, HIn.out.later hbd⟩
  have HP6 := Lib.hid (HP5.out.later hbd)
  have HX6 := Lib.hid (HX5.out.later hbd)
  have HI6 := Lib.hid (HI5.out.later hbd)
  have HBi6 := Lib.hid (HBi.out.later hbd)
  have HB6 := Lib.hid HB5.out.drew
  have HZ6 : Hid (gin < w5.drew.heap.size) := Lib.hid (Nat.lt_of_lt_of_le HGin.out hbd.size)
  clear hbd HO5 HIn HP5 HX5 HI5 HBi HB5 HGin
  refine wp_region_s (fun W : World => Blk W w.heap.size 63 #[.int .u8 odo, .int .i64 onow, .int .u16 oage, .int .u8 oopts, .int .u8 k1, .int .u32 k2, .int .u32 k3, .int .i32 oseq, .int .u16 osum, .int .u16 olen, .slice oA on oc] ∧ Blk W gin 61 #[.int .u16 oage, .int .u8 oopts, .int .u8 k1, .int .u32 k2, .int .u32 k3, .int .i32 oseq, .int .u16 osum, .int .u16 olen, .slice (some ⟨gi, 0, none⟩) on (on + 64)]) [(0, true), (1, true), (5, true), (6, true), (8, true), (2, true), (3, true), (7, true), (9, true), (4, false), (10, false), (11, true), (12, true), (14, true), (13, true), (15, true), (16, false), (17, true), (18, true), (19, true), (20, false), (21, true), (22, true)] (by kernel_rfl) (fun _ d _ _ _ h => by cases d <;> exact h) ?_
  simp only [List.map_cons, List.map_nil, nthOp_zero, nthOp_succ]
  generalize w5.drew = w6 at *
  refine wpS_take HS (by kernel_rfl) (by intro W hW; clear hW; go_simp; try with_reducible rfl) ?_
  refine wpS_take HS (by kernel_rfl) (by intro W hW; clear hW; go_simp; try with_reducible rfl) ?_
  refine wpS_take HS (by kernel_rfl) (by intro W hW; clear hW; go_simp; try with_reducible rfl) ?_
  refine wpS_take HS (by kernel_rfl) (by intro W hW; clear hW; go_simp; try with_reducible rfl) ?_
  refine wpS_take HS (by kernel_rfl) (by intro W hW; clear hW; go_simp; try with_reducible rfl) ?_
  refine wpS_take HS (by kernel_rfl) (by intro W hW; have j0 := hW.1.cell 0; have j1 := hW.1.cell 1; simp only [List.getElem?_toArray, List.getElem?_cons_zero, List.getElem?_cons_succ] at j0 j1; clear hW; go_simp; try with_reducible rfl) ?_
  refine wpS_take HS (by kernel_rfl) (fun W hW => exec_load_row rfl rfl hW.2 Tryz.underlying61 rfl info_state) ?_
  refine wpS_take HS (by kernel_rfl) (by intro W hW; have j0 := hW.1.cell 0; have j1 := hW.1.cell 1; simp only [List.getElem?_toArray, List.getElem?_cons_zero, List.getElem?_cons_succ] at j0 j1; clear hW; go_simp; try with_reducible rfl) ?_
  refine wpS_take HS (by kernel_rfl) (by intro W hW; have j0 := hW.1.cell 0; have j1 := hW.1.cell 1; have j2 := hW.1.cell 2; have j3 := hW.1.cell 3; have j4 := hW.1.cell 4; have j5 := hW.1.cell 5; have j6 := hW.1.cell 6; have j7 := hW.1.cell 7; have j8 := hW.1.cell 8; have j9 := hW.1.cell 9; have j10 := hW.1.cell 10; simp only [List.getElem?_toArray, List.getElem?_cons_zero, List.getElem?_cons_succ] at j0 j1 j2 j3 j4 j5 j6 j7 j8 j9 j10; clear hW; go_simp; try with_reducible rfl) ?_
  go_simp
  by_cases hneg : onow < 0
  · refine wpS_do fun K hK => ?_
    go_wp2_with fail
    refine (stput_neg w6 g bm (HP6.out.p.q.blk.cell 0) (⟨⟨oage, oopts, k1, k2, k3, oseq, osum, olen⟩, some ⟨gi, 0, none⟩, on, on + 64, oB⟩ : SE) onow hneg).mono ?_
    rintro e w7 ⟨rfl, hb7⟩
    have HP7 := Lib.hid (HP6.out.later hb7)
    have HX7 := Lib.hid (HX6.out.later hb7)
    have HI7 := Lib.hid (HI6.out.later hb7)
    have HBi7 := Lib.hid (HBi6.out.later hb7)
    have HB7 := Lib.hid (below_then HB6.out hb7)
    have HS7 : Hid ((fun W : World => Blk W w.heap.size 63 #[.int .u8 odo, .int .i64 onow, .int .u16 oage, .int .u8 oopts, .int .u8 k1, .int .u32 k2, .int .u32 k3, .int .i32 oseq, .int .u16 osum, .int .u16 olen, .slice oA on oc] ∧ Blk W gin 61 #[.int .u16 oage, .int .u8 oopts, .int .u8 k1, .int .u32 k2, .int .u32 k3, .int .i32 oseq, .int .u16 osum, .int .u16 olen, .slice (some ⟨gi, 0, none⟩) on (on + 64)]) w7) := Lib.hid ⟨HS.out.1.later hb7, HS.out.2.later hb7⟩
    have HZ7 : Hid (gin < w7.heap.size) := Lib.hid (Nat.lt_of_lt_of_le HZ6.out hb7.size)
    clear hb7 HP6 HX6 HI6 HBi6 HB6 HS
    go_wp2_with fail
    refine hK.out _ _ HS7.out ?_
    clear hK K
    refine wpS_do fun K hK => ?_
    go_wp2_with fail
    refine (put11_neg w7 gd (⟨⟨oage, oopts, k1, k2, k3, oseq, osum, olen⟩, oA, on, oc, oB⟩ : SE) onow hneg).mono ?_
    rintro e w8 ⟨rfl, hb8⟩
    have HP8 := Lib.hid (HP7.out.later hb8)
    have HX8 := Lib.hid (HX7.out.later hb8)
    have HI8 := Lib.hid (HI7.out.later hb8)
    have HBi8 := Lib.hid (HBi7.out.later hb8)
    have HB8 := Lib.hid (below_then HB7.out hb8)
    have HS8 : Hid ((fun W : World => Blk W w.heap.size 63 #[.int .u8 odo, .int .i64 onow, .int .u16 oage, .int .u8 oopts, .int .u8 k1, .int .u32 k2, .int .u32 k3, .int .i32 oseq, .int .u16 osum, .int .u16 olen, .slice oA on oc] ∧ Blk W gin 61 #[.int .u16 oage, .int .u8 oopts, .int .u8 k1, .int .u32 k2, .int .u32 k3, .int .i32 oseq, .int .u16 osum, .int .u16 olen, .slice (some ⟨gi, 0, none⟩) on (on + 64)]) w8) := Lib.hid ⟨HS7.out.1.later hb8, HS7.out.2.later hb8⟩
    clear hb8 HP7 HX7 HI7 HBi7 HB7 HS7
    go_wp2_with fail
    refine hK.out _ _ HS8.out ?_
    clear hK K
    have HU : Hid (OneR base w w8 g bm most f N gd v xs gb G L f N v xs G L) := Lib.hid ⟨HP8.out, Kept.of_new HB8.out _, fun b hb => .inl hb, BagUp.refl _ _ _ _, fun _ _ => rfl⟩
    have HNw : Hid ((∀ k x, f k = some x → ∀ b, x.s.b.ownBlock = some b → b ≠ gi) ∧ (∀ x ∈ xs, ∀ b, x.s.b.ownBlock = some b → b ≠ gi) ∧ ∀ s ∈ L 0, ∀ b, s.v.ownBlock = some b → b ≠ gi) := Lib.hid ⟨fun k x hx b hb => Nat.ne_of_lt (Nat.lt_of_lt_of_le (HP0.out.lt8.1 k x hx b hb) (Nat.le_trans HS3.out HGi.out)), fun x hx b hb => Nat.ne_of_lt (Nat.lt_of_lt_of_le (HP0.out.lt8.2.1 x hx b hb) (Nat.le_trans HS3.out HGi.out)), fun s hs b hb => Nat.ne_of_lt (Nat.lt_of_lt_of_le (HP0.out.lt8.2.2 s hs b hb) (Nat.le_trans HS3.out HGi.out))⟩
    clear HP8 HB8
    refine wpS_take HS8 (by kernel_rfl) (by intro W hW; clear hW; go_simp; try with_reducible rfl) ?_
    refine wpS_take HS8 (by kernel_rfl) (by intro W hW; clear hW; go_simp; try with_reducible rfl) ?_
    refine wpS_take HS8 (by kernel_rfl) (by intro W hW; clear hW; go_simp; try with_reducible rfl) ?_
    refine wpS_take HS8 (by kernel_rfl) (fun W hW => exec_load_row rfl rfl hW.2 Tryz.underlying61 rfl info_state) ?_
    refine wpS_take HS8 (by kernel_rfl) (by intro W hW; have j0 := hW.1.cell 0; have j1 := hW.1.cell 1; have j2 := hW.1.cell 2; have j3 := hW.1.cell 3; have j4 := hW.1.cell 4; have j5 := hW.1.cell 5; have j6 := hW.1.cell 6; have j7 := hW.1.cell 7; have j8 := hW.1.cell 8; have j9 := hW.1.cell 9; have j10 := hW.1.cell 10; simp only [List.getElem?_toArray, List.getElem?_cons_zero, List.getElem?_cons_succ] at j0 j1 j2 j3 j4 j5 j6 j7 j8 j9 j10; clear hW; go_simp; try with_reducible rfl) ?_
    go_simp
    refine wpS_do fun K hK => ?_
    go_wp2_with fail
    refine (eqState_at (⟨⟨oage, oopts, k1, k2, k3, oseq, osum, olen⟩, some ⟨gi, 0, none⟩, on, on + 64, oB⟩ : SE) (⟨⟨oage, oopts, k1, k2, k3, oseq, osum, olen⟩, oA, on, oc, oB⟩ : SE) w8 HI8.out HX8.out rfl rfl).mono ?_
    rintro e w9 ⟨rfl, hb9⟩
    have HBi9 := Lib.hid (HBi8.out.later hb9)
    have HS9 : Hid ((fun W : World => Blk W w.heap.size 63 #[.int .u8 odo, .int .i64 onow, .int .u16 oage, .int .u8 oopts, .int .u8 k1, .int .u32 k2, .int .u32 k3, .int .i32 oseq, .int .u16 osum, .int .u16 olen, .slice oA on oc] ∧ Blk W gin 61 #[.int .u16 oage, .int .u8 oopts, .int .u8 k1, .int .u32 k2, .int .u32 k3, .int .i32 oseq, .int .u16 osum, .int .u16 olen, .slice (some ⟨gi, 0, none⟩) on (on + 64)]) w9) := Lib.hid ⟨HS8.out.1.later hb9, HS8.out.2.later hb9⟩
    have HU9 := Lib.hid (HU.out.later hb9)
    have HBl := Lib.hid (show oB.length = on from HX8.out.bl)
    clear hb9 HS8 HX8 HI8 HBi8 HU
    go_wp2_with fail
    refine hK.out _ _ HS9.out ?_
    clear hK K
    refine wpS_take HS9 (by kernel_rfl) (by intro W hW; clear hW; go_simp; try with_reducible rfl) ?_
    refine wpS_take HS9 (by kernel_rfl) (by intro W hW; clear hW; go_simp; try with_reducible rfl) ?_
    refine wpS_take HS9 (by kernel_rfl) (fun W hW => exec_load_row rfl rfl hW.2 Tryz.underlying61 rfl info_state) ?_
    go_simp
    refine wpS_do fun K hK => ?_
    go_wp2_with fail
    refine (spareState_yes ⟨oage, oopts, k1, k2, k3, oseq, osum, olen⟩ gi on oB w9 HBi9.out HBl.out hs).mono ?_
    rintro e w10 ⟨rfl, hb10⟩
    have HBi10 := Lib.hid (HBi9.out.later hb10)
    have HS10 : Hid ((fun W : World => Blk W w.heap.size 63 #[.int .u8 odo, .int .i64 onow, .int .u16 oage, .int .u8 oopts, .int .u8 k1, .int .u32 k2, .int .u32 k3, .int .i32 oseq, .int .u16 osum, .int .u16 olen, .slice oA on oc] ∧ Blk W gin 61 #[.int .u16 oage, .int .u8 oopts, .int .u8 k1, .int .u32 k2, .int .u32 k3, .int .i32 oseq, .int .u16 osum, .int .u16 olen, .slice (some ⟨gi, 0, none⟩) on (on + 64)]) w10) := Lib.hid ⟨HS9.out.1.later hb10, HS9.out.2.later hb10⟩
    have HU10 := Lib.hid (HU9.out.later hb10)
    clear hb10 HS9 HBi9 HU9
    go_wp2_with fail
    refine hK.out _ _ HS10.out ?_
    clear hK K
    refine wpS_take HS10 (by kernel_rfl) (by intro W hW; clear hW; go_simp; try with_reducible rfl) ?_
    refine wpS_take HS10 (by kernel_rfl) (by intro W hW; clear hW; go_simp; try with_reducible rfl) ?_
    refine wpS_nil ?_
    go_simp
    go_wp2_with fail
    have HIn := Lib.hid HS10.out.2
    clear HS10
    go_loopw [12] (fun iv wr => ∃ i : Nat, iv = .int .i64 i ∧ i ≤ on ∧ Hid (∃ zs : List Int, zs.length = on + 64 ∧ Blk wr gi 5 (u8s zs).toArray) ∧ Hid (Kept (fun b => b = gi) w10 wr)) (fun iv _ => on - (intOf iv).toNat)
    case atStart => exact ⟨0, rfl, Nat.zero_le _, Lib.hid ⟨wide oB, by rw [wide_length, HBl.out], HBi10.out⟩, Lib.hid (Kept.refl _ _)⟩
    case round =>
      obtain ⟨i, rfl, hi, hz, hk⟩ := hrel
      obtain ⟨zs, hzl, hzb⟩ := hz.out
      have HZb := Lib.hid hzb
      have HIr := Lib.hid (HIn.out.kept hk.out (blk_ne HIn.out HBi10.out (by decide)))
      have i8 := HIr.out.cell 8
      simp only [List.getElem?_toArray, List.getElem?_cons_zero, List.getElem?_cons_succ] at i8
      by_cases hlt : i < on
      · have hltI : (i : Int) < on := by omega
        obtain ⟨z, hzz⟩ : ∃ z, zs[i]? = some z := ⟨zs[i]'(by omega), List.getElem?_eq_getElem _⟩
        have e0 : wr.cell? ⟨gi, i, none⟩ = some (.int .u8 z) := by rw [hzb.cell]; simp [u8s, hzz]
        have f0 := hzb.frozen i
        clear hzb hzz
        go_wp2_with fail
        go_roundw
        case rel =>
          refine ⟨i + 1, by go_num, by omega, Lib.hid ⟨zs.set i (IntKind.u8.wrap (z + 1)), by rw [List.length_set]; exact hzl, ?_⟩, Lib.hid (hk.out.trans (kept_setC wr gi i _) (fun _ _ h => h))⟩
          have h1 := HZb.out.set_ i (.int .u8 (IntKind.u8.wrap (z + 1)))
          rw [List.setIfInBounds_toArray, u8s_set] at h1
          exact h1
        case measure => simp [intOf]; omega
      · obtain rfl : i = on := by omega
        clear hzb
        go_wp2_with fail
        go_ret
        refine ⟨rfl, f, N, v, xs, G, L, ?_⟩
        exact HU10.out.marked hk.out HBi10.out HNw.out (Nat.le_trans HS3.out HGi.out)
  · have hn : 0 ≤ onow ∧ onow ≤ 9223372036854775807 := ⟨by omega, hno.2⟩
    by_cases hroom : (f (k1, k2, k3)).isSome = true ∨ (N : Int) < most
    · skip
      refine wpS_do fun K hK => ?_
      go_wp2_with fail
      refine (stputo_any w6 g bm most f N HP6.out.p.q (⟨⟨oage, oopts, k1, k2, k3, oseq, osum, olen⟩, some ⟨gi, 0, none⟩, on, on + 64, oB⟩ : SE) HI6.out onow hn hroom).mono ?_
      rintro e w7 ⟨x', rfl, ph, pB, pn, pq, pk, po⟩
      have HQ7 := Lib.hid (And.intro ph (And.intro pB (And.intro pq po)))
      have HKa := Lib.hid ((Kept.of_new HB6.out (fun b => PairF bm gd v b ∨ BagF gb G b)).trans pk (fun b _ e => .inl (.inl e)))
      have HR7 := Lib.hid (HP6.out.p.r.map HP6.out.p.q.map pk)
      have HBg7 := Lib.hid (HP6.out.b.map HP6.out.p.q.map pk)
      have HOw7 : Hid (∀ k x, f k = some x → x.s.ok base w7) := Lib.hid fun k x hx => (by
        have h0 := HP6.out.p.own k x hx
        exact ⟨h0.head, own_kept h0.body pk (fun b hb => own_ne_mapF h0.body HP6.out.p.q.map b hb), h0.oct, h0.len⟩)
      have hgm : gi ≠ bm := fun e => HP6.out.p.q.map.ne_blk HBi6.out e.symm
      have HX7 := Lib.hid (HX6.out.kept2 pk (rd_ne_map HX6.out HP6.out.p.q.map))
      have HI7 := Lib.hid (HI6.out.kept2 pk (rd_ne_map HI6.out HP6.out.p.q.map))
      have HBi7 := Lib.hid (HBi6.out.kept pk hgm)
      have HZ7 : Hid (gin < w7.heap.size) := Lib.hid (Nat.lt_of_lt_of_le HZ6.out pk.size)
      have HS7 : Hid ((fun W : World => Blk W w.heap.size 63 #[.int .u8 odo, .int .i64 onow, .int .u16 oage, .int .u8 oopts, .int .u8 k1, .int .u32 k2, .int .u32 k3, .int .i32 oseq, .int .u16 osum, .int .u16 olen, .slice oA on oc] ∧ Blk W gin 61 #[.int .u16 oage, .int .u8 oopts, .int .u8 k1, .int .u32 k2, .int .u32 k3, .int .i32 oseq, .int .u16 osum, .int .u16 olen, .slice (some ⟨gi, 0, none⟩) on (on + 64)]) w7) := Lib.hid ⟨HS.out.1.kept pk (fun e => HP6.out.p.q.map.ne_blk HS.out.1 e.symm), HS.out.2.kept pk (fun e => HP6.out.p.q.map.ne_blk HS.out.2 e.symm)⟩
      have HBe6 := Lib.hid HP6.out.base_le
      have HPS := Lib.hid (And.intro HP6.out.p.l (And.intro HP6.out.p.n (And.intro HP6.out.p.lim (And.intro HP6.out.p.hbm (And.intro HP6.out.p.hgd (And.intro HP6.out.hgb HP6.out.dj))))))
      have HSz6 : Hid (w.heap.size ≤ w6.heap.size ∧ w6.heap.size ≤ w7.heap.size) := Lib.hid ⟨HB6.out.size, pk.size⟩
      clear ph pB pn pq pk po HP6 HX6 HI6 HBi6 HS HB6 hgm
      go_wp2_with fail
      refine hK.out _ _ HS7.out ?_
      clear hK K
      refine wpS_do fun K hK => ?_
      go_wp2_with fail
      refine (put11 base w7 gd v most xs HR7.out HPS.out.1.ascL (by have := HBe6.out; have := HSz6.out.2; omega) (by have := HPS.out.2.1; have := HPS.out.2.2.1; omega) (⟨⟨oage, oopts, k1, k2, k3, oseq, osum, olen⟩, oA, on, oc, oB⟩ : SE) HX7.out onow hn).mono ?_
      rintro e w8 (⟨y', v', xs', rfl, hr⟩ | ⟨_, hno2, hfull, _⟩)
      · have HR8 := Lib.hid hr
        have hst := HQ7.out.2.2.1.ref (base := base) (fun k x hx => by
          unfold updK at hx
          by_cases e : k = (⟨⟨oage, oopts, k1, k2, k3, oseq, osum, olen⟩, some ⟨gi, 0, none⟩, on, on + 64, oB⟩ : SE).key
          · rw [if_pos e] at hx
            injection hx with hx
            rw [← hx]
            exact HQ7.out.2.2.2.mono HBe6.out
          · rw [if_neg e] at hx
            exact HOw7.out k x hx) HR7.out hr.k
        have HSt8 := Lib.hid hst
        have HBg8 := Lib.hid (HBg7.out.ref HR7.out hr.k)
        have hgr : ∀ {gg : Nat} {cs : Array Value} {t : TypeId}, Blk w7 gg t cs → t ≠ 31 → 108 ≠ t → ¬ (gg = gd ∨ v.ownBlock = some gg) := fun hB h1 h2 e => by
          rcases e with e | e
          · exact blk_ne hB HR7.out.blk h1 e
          · exact own_blk_ne HR7.out.row hB h2 e
        have HBi8 := Lib.hid (HBi7.out.kept hr.k (hgr HBi7.out (by decide) (by decide)))
        have HS8 : Hid ((fun W : World => Blk W w.heap.size 63 #[.int .u8 odo, .int .i64 onow, .int .u16 oage, .int .u8 oopts, .int .u8 k1, .int .u32 k2, .int .u32 k3, .int .i32 oseq, .int .u16 osum, .int .u16 olen, .slice oA on oc] ∧ Blk W gin 61 #[.int .u16 oage, .int .u8 oopts, .int .u8 k1, .int .u32 k2, .int .u32 k3, .int .i32 oseq, .int .u16 osum, .int .u16 olen, .slice (some ⟨gi, 0, none⟩) on (on + 64)]) w8) := Lib.hid ⟨HS7.out.1.kept hr.k (hgr HS7.out.1 (by decide) (by decide)), HS7.out.2.kept hr.k (hgr HS7.out.2 (by decide) (by decide))⟩
        have hoff : 0 < on → ∀ ad, oA = some ad → ad.block ≠ gd ∧ v.ownBlock ≠ some ad.block := fun h0 ad hA => by
          have h1 := hob h0 ad hA
          refine ⟨by have := HPS.out.2.2.2.2.1; omega, fun e => ?_⟩
          have := (own_ge HR7.out.row e).1
          omega
        have HX8 : Hid ((⟨⟨oage, oopts, k1, k2, k3, oseq, osum, olen⟩, oA, on, oc, oB⟩ : SE).rd w8) := Lib.hid (HX7.out.kept2 hr.k (fun h0 ad hA e => by rcases e with e | e; exact (hoff h0 ad hA).1 e; exact (hoff h0 ad hA).2 e))
        have HI8 : Hid ((⟨⟨oage, oopts, k1, k2, k3, oseq, osum, olen⟩, some ⟨gi, 0, none⟩, on, on + 64, oB⟩ : SE).rd w8) := Lib.hid (HI7.out.kept2 hr.k (fun h0 ad hA => by injection hA with hA; subst hA; exact hgr HBi7.out (by decide) (by decide)))
        have HZ8 : Hid (gin < w8.heap.size) := Lib.hid (Nat.lt_of_lt_of_le HZ7.out hr.k.size)
        have hiso : (f (k1, k2, k3)).isSome = (rowAt xs (k1, k2, k3)).isSome := HPS.out.1.iso _
        have hsz7 : w.heap.size ≤ w7.heap.size := Nat.le_trans HSz6.out.1 HSz6.out.2
        have hgi6 : gi < w6.heap.size := by have := HZ6.out; omega
        have hxm : ∀ z ∈ xs', z ∈ xs ∨ z = ⟨y', onow⟩ := fun z hz => by
          have h1 := hr.row.1.rowAt hz
          rw [hr.row.2] at h1
          by_cases e : z.s.key = (⟨y', onow⟩ : OneE).s.key
          · rw [if_pos e] at h1; injection h1 with h1; exact .inr h1.symm
          · rw [if_neg e] at h1; exact .inl (rowAt_some h1).1
        have hyk : y'.key = (k1, k2, k3) := by show (y'.h.typ, y'.h.id, y'.h.adv) = _; rw [hr.h]
        have hxk : x'.key = (k1, k2, k3) := by show (x'.h.typ, x'.h.id, x'.h.adv) = _; rw [HQ7.out.1]
        have hfm : ∀ k x, updK f (k1, k2, k3) ⟨x', onow⟩ k = some x → x = ⟨x', onow⟩ ∨ f k = some x := fun k x hx => by
          unfold updK at hx
          by_cases e : k = (k1, k2, k3)
          · rw [if_pos e] at hx; injection hx with hx; exact .inl hx.symm
          · rw [if_neg e] at hx; exact .inr hx
        have hxb : ∀ b, x'.b.ownBlock = some b → w6.heap.size ≤ b := fun b hb => (own_ge HQ7.out.2.2.2.body hb).1
        have hyb : ∀ b, y'.b.ownBlock = some b → w7.heap.size ≤ b := fun b hb => (own_ge hr.ok.body hb).1
        have HU : Hid (OneR base w w8 g bm most f N gd v xs gb G L (updK f (k1, k2, k3) ⟨x', onow⟩) (if (f (k1, k2, k3)).isSome = true then N else N + 1) v' xs' G L) := Lib.hid ⟨⟨⟨HSt8.out.1, HSt8.out.2, hr.q, HPS.out.1.put hr.row (x := ⟨x', onow⟩) (by rw [HQ7.out.1, hr.h]) (by rw [HQ7.out.2.1, hr.B]) rfl hyk hxk, ?_, ?_, HPS.out.2.2.2.1, HPS.out.2.2.2.2.1⟩, HBg8.out, ?_, HPS.out.2.2.2.2.2.1⟩, HKa.out.trans hr.k (fun b _ e => .inl (.inr e)), fun b hb => ?_, BagUp.refl _ _ _ _, fun _ _ => rfl⟩
        rotate_left
        · have h1 := hr.len
          have h2 : (rowAt xs (⟨⟨oage, oopts, k1, k2, k3, oseq, osum, olen⟩, oA, on, oc, oB⟩ : SE).key).isSome = (rowAt xs (k1, k2, k3)).isSome := rfl
          rw [h1, h2, ← hiso, HPS.out.2.1]
        · have h1 := HPS.out.2.2.1
          refine ⟨?_, h1.2⟩
          rcases hroom with h2 | h2
          · rw [if_pos h2]; exact h1.1
          · split
            · exact h1.1
            · push_cast; omega
        · intro s hs b hb
          have hlt := HP0.out.lt8.2.2 s hs b hb
          have hd := HPS.out.2.2.2.2.2.2 s hs b hb
          refine ⟨fun k x hx e => ?_, fun x hx e => ?_⟩
          · rcases hfm k x hx with h1 | h1
            · subst h1
              have := hxb b e
              have := HSz6.out.1
              omega
            · exact hd.1 k x h1 e
          · rcases hxm x hx with h1 | h1
            · exact hd.2 x h1 e
            · subst h1
              have := hyb b e
              omega
        · rcases hr.vb with e | ⟨c, e, hc⟩
          · left; rw [← e]; exact hb
          · right
            rw [e] at hb
            injection hb with hb
            omega
        have HNw : Hid ((∀ k x, updK f (k1, k2, k3) ⟨x', onow⟩ k = some x → ∀ b, x.s.b.ownBlock = some b → b ≠ gi) ∧ (∀ x ∈ xs', ∀ b, x.s.b.ownBlock = some b → b ≠ gi) ∧ ∀ s ∈ L 0, ∀ b, s.v.ownBlock = some b → b ≠ gi) := Lib.hid ⟨fun k x hx b hb => (by
            rcases hfm k x hx with h1 | h1
            · subst h1
              have := hxb b hb
              omega
            · exact Nat.ne_of_lt (Nat.lt_of_lt_of_le (HP0.out.lt8.1 k x h1 b hb) (Nat.le_trans HS3.out HGi.out))), fun x hx b hb => (by
            rcases hxm x hx with h1 | h1
            · exact Nat.ne_of_lt (Nat.lt_of_lt_of_le (HP0.out.lt8.2.1 x h1 b hb) (Nat.le_trans HS3.out HGi.out))
            · subst h1
              have h2 := hyb b hb
              have h3 := HSz6.out.2
              omega), fun s hs b hb => Nat.ne_of_lt (Nat.lt_of_lt_of_le (HP0.out.lt8.2.2 s hs b hb) (Nat.le_trans HS3.out HGi.out))⟩
        clear HR8 HSt8 HBg8 HPS HQ7 HR7 HBg7 HOw7 HX7 HI7 HBi7 HS7 HKa hxm hfm hxb hyb hr hst hgr hoff
        go_wp2_with fail
        refine hK.out _ _ HS8.out ?_
        clear hK K
        refine wpS_take HS8 (by kernel_rfl) (by intro W hW; clear hW; go_simp; try with_reducible rfl) ?_
        refine wpS_take HS8 (by kernel_rfl) (by intro W hW; clear hW; go_simp; try with_reducible rfl) ?_
        refine wpS_take HS8 (by kernel_rfl) (by intro W hW; clear hW; go_simp; try with_reducible rfl) ?_
        refine wpS_take HS8 (by kernel_rfl) (fun W hW => exec_load_row rfl rfl hW.2 Tryz.underlying61 rfl info_state) ?_
        refine wpS_take HS8 (by kernel_rfl) (by intro W hW; have j0 := hW.1.cell 0; have j1 := hW.1.cell 1; have j2 := hW.1.cell 2; have j3 := hW.1.cell 3; have j4 := hW.1.cell 4; have j5 := hW.1.cell 5; have j6 := hW.1.cell 6; have j7 := hW.1.cell 7; have j8 := hW.1.cell 8; have j9 := hW.1.cell 9; have j10 := hW.1.cell 10; simp only [List.getElem?_toArray, List.getElem?_cons_zero, List.getElem?_cons_succ] at j0 j1 j2 j3 j4 j5 j6 j7 j8 j9 j10; clear hW; go_simp; try with_reducible rfl) ?_
        go_simp
        refine wpS_do fun K hK => ?_
        go_wp2_with fail
        refine (eqState_at (⟨⟨oage, oopts, k1, k2, k3, oseq, osum, olen⟩, some ⟨gi, 0, none⟩, on, on + 64, oB⟩ : SE) (⟨⟨oage, oopts, k1, k2, k3, oseq, osum, olen⟩, oA, on, oc, oB⟩ : SE) w8 HI8.out HX8.out rfl rfl).mono ?_
        rintro e w9 ⟨rfl, hb9⟩
        have HBi9 := Lib.hid (HBi8.out.later hb9)
        have HS9 : Hid ((fun W : World => Blk W w.heap.size 63 #[.int .u8 odo, .int .i64 onow, .int .u16 oage, .int .u8 oopts, .int .u8 k1, .int .u32 k2, .int .u32 k3, .int .i32 oseq, .int .u16 osum, .int .u16 olen, .slice oA on oc] ∧ Blk W gin 61 #[.int .u16 oage, .int .u8 oopts, .int .u8 k1, .int .u32 k2, .int .u32 k3, .int .i32 oseq, .int .u16 osum, .int .u16 olen, .slice (some ⟨gi, 0, none⟩) on (on + 64)]) w9) := Lib.hid ⟨HS8.out.1.later hb9, HS8.out.2.later hb9⟩
        have HU9 := Lib.hid (HU.out.later hb9)
        have HBl := Lib.hid (show oB.length = on from HX8.out.bl)
        clear hb9 HS8 HX8 HI8 HBi8 HU
        go_wp2_with fail
        refine hK.out _ _ HS9.out ?_
        clear hK K
        refine wpS_take HS9 (by kernel_rfl) (by intro W hW; clear hW; go_simp; try with_reducible rfl) ?_
        refine wpS_take HS9 (by kernel_rfl) (by intro W hW; clear hW; go_simp; try with_reducible rfl) ?_
        refine wpS_take HS9 (by kernel_rfl) (fun W hW => exec_load_row rfl rfl hW.2 Tryz.underlying61 rfl info_state) ?_
        go_simp
        refine wpS_do fun K hK => ?_
        go_wp2_with fail
        refine (spareState_yes ⟨oage, oopts, k1, k2, k3, oseq, osum, olen⟩ gi on oB w9 HBi9.out HBl.out hs).mono ?_
        rintro e w10 ⟨rfl, hb10⟩
        have HBi10 := Lib.hid (HBi9.out.later hb10)
        have HS10 : Hid ((fun W : World => Blk W w.heap.size 63 #[.int .u8 odo, .int .i64 onow, .int .u16 oage, .int .u8 oopts, .int .u8 k1, .int .u32 k2, .int .u32 k3, .int .i32 oseq, .int .u16 osum, .int .u16 olen, .slice oA on oc] ∧ Blk W gin 61 #[.int .u16 oage, .int .u8 oopts, .int .u8 k1, .int .u32 k2, .int .u32 k3, .int .i32 oseq, .int .u16 osum, .int .u16 olen, .slice (some ⟨gi, 0, none⟩) on (on + 64)]) w10) := Lib.hid ⟨HS9.out.1.later hb10, HS9.out.2.later hb10⟩
        have HU10 := Lib.hid (HU9.out.later hb10)
        clear hb10 HS9 HBi9 HU9
        go_wp2_with fail
        refine hK.out _ _ HS10.out ?_
        clear hK K
        refine wpS_take HS10 (by kernel_rfl) (by intro W hW; clear hW; go_simp; try with_reducible rfl) ?_
        refine wpS_take HS10 (by kernel_rfl) (by intro W hW; clear hW; go_simp; try with_reducible rfl) ?_
        refine wpS_nil ?_
        go_simp
        go_wp2_with fail
        have HIn := Lib.hid HS10.out.2
        clear HS10
        go_loopw [12] (fun iv wr => ∃ i : Nat, iv = .int .i64 i ∧ i ≤ on ∧ Hid (∃ zs : List Int, zs.length = on + 64 ∧ Blk wr gi 5 (u8s zs).toArray) ∧ Hid (Kept (fun b => b = gi) w10 wr)) (fun iv _ => on - (intOf iv).toNat)
        case atStart => exact ⟨0, rfl, Nat.zero_le _, Lib.hid ⟨wide oB, by rw [wide_length, HBl.out], HBi10.out⟩, Lib.hid (Kept.refl _ _)⟩
        case round =>
          obtain ⟨i, rfl, hi, hz, hk⟩ := hrel
          obtain ⟨zs, hzl, hzb⟩ := hz.out
          have HZb := Lib.hid hzb
          have HIr := Lib.hid (HIn.out.kept hk.out (blk_ne HIn.out HBi10.out (by decide)))
          have i8 := HIr.out.cell 8
          simp only [List.getElem?_toArray, List.getElem?_cons_zero, List.getElem?_cons_succ] at i8
          by_cases hlt : i < on
          · have hltI : (i : Int) < on := by omega
            obtain ⟨z, hzz⟩ : ∃ z, zs[i]? = some z := ⟨zs[i]'(by omega), List.getElem?_eq_getElem _⟩
            have e0 : wr.cell? ⟨gi, i, none⟩ = some (.int .u8 z) := by rw [hzb.cell]; simp [u8s, hzz]
            have f0 := hzb.frozen i
            clear hzb hzz
            go_wp2_with fail
            go_roundw
            case rel =>
              refine ⟨i + 1, by go_num, by omega, Lib.hid ⟨zs.set i (IntKind.u8.wrap (z + 1)), by rw [List.length_set]; exact hzl, ?_⟩, Lib.hid (hk.out.trans (kept_setC wr gi i _) (fun _ _ h => h))⟩
              have h1 := HZb.out.set_ i (.int .u8 (IntKind.u8.wrap (z + 1)))
              rw [List.setIfInBounds_toArray, u8s_set] at h1
              exact h1
            case measure => simp [intOf]; omega
          · obtain rfl : i = on := by omega
            clear hzb
            go_wp2_with fail
            go_ret
            refine ⟨rfl, updK f (k1, k2, k3) ⟨x', onow⟩, (if (f (k1, k2, k3)).isSome = true then N else N + 1), v', xs', G, L, ?_⟩
            exact HU10.out.marked hk.out HBi10.out HNw.out (Nat.le_trans HS3.out HGi.out)
      · exfalso
        have h3 : f (k1, k2, k3) = none := HPS.out.1.none_ hno2
        rcases hroom with h1 | h1
        · rw [h3] at h1; cases h1
        · have := HPS.out.2.1; omega
    · have hfull : f (k1, k2, k3) = none ∧ most ≤ (N : Int) := by
        refine ⟨?_, by omega⟩
        cases hf : f (k1, k2, k3) with
        | none => rfl
        | some x => exact absurd (.inl (by rw [hf]; rfl)) hroom
      refine wpS_do fun K hK => ?_
      go_wp2_with fail
      refine (stputfull_any w6 g bm most f N HP6.out.p.q (⟨⟨oage, oopts, k1, k2, k3, oseq, osum, olen⟩, some ⟨gi, 0, none⟩, on, on + 64, oB⟩ : SE) HI6.out onow hn hfull).mono ?_
      rintro e w7 ⟨rfl, hb7⟩
      have HP7 := Lib.hid (HP6.out.later hb7)
      have HX7 := Lib.hid (HX6.out.later hb7)
      have HI7 := Lib.hid (HI6.out.later hb7)
      have HBi7 := Lib.hid (HBi6.out.later hb7)
      have HB7 := Lib.hid (below_then HB6.out hb7)
      have HS7 : Hid ((fun W : World => Blk W w.heap.size 63 #[.int .u8 odo, .int .i64 onow, .int .u16 oage, .int .u8 oopts, .int .u8 k1, .int .u32 k2, .int .u32 k3, .int .i32 oseq, .int .u16 osum, .int .u16 olen, .slice oA on oc] ∧ Blk W gin 61 #[.int .u16 oage, .int .u8 oopts, .int .u8 k1, .int .u32 k2, .int .u32 k3, .int .i32 oseq, .int .u16 osum, .int .u16 olen, .slice (some ⟨gi, 0, none⟩) on (on + 64)]) w7) := Lib.hid ⟨HS.out.1.later hb7, HS.out.2.later hb7⟩
      have HZ7 : Hid (gin < w7.heap.size) := Lib.hid (Nat.lt_of_lt_of_le HZ6.out hb7.size)
      clear hb7 HP6 HX6 HI6 HBi6 HB6 HS
      go_wp2_with fail
      refine hK.out _ _ HS7.out ?_
      clear hK K
      refine wpS_do fun K hK => ?_
      go_wp2_with fail
      refine (put11 base w7 gd v most xs HP7.out.p.r HP7.out.p.l.ascL HP7.out.base_le (by have := HP7.out.p.n; have := HP7.out.p.lim; omega) (⟨⟨oage, oopts, k1, k2, k3, oseq, osum, olen⟩, oA, on, oc, oB⟩ : SE) HX7.out onow hn).mono ?_
      rintro e w8 (⟨y', v', xs', rfl, hr⟩ | ⟨rfl, _, _, hb8⟩)
      · exfalso
        have h1 := hr.room
        have h2 : (f (k1, k2, k3)).isSome = (rowAt xs (k1, k2, k3)).isSome := HP7.out.p.l.iso _
        rcases h1 with h1 | h1
        · rw [hfull.1] at h2
          have h3 : (rowAt xs (k1, k2, k3)).isSome = true := h1
          rw [h3] at h2
          cases h2
        · have := HP7.out.p.n; omega
      · skip
        have HP8 := Lib.hid (HP7.out.later hb8)
        have HX8 := Lib.hid (HX7.out.later hb8)
        have HI8 := Lib.hid (HI7.out.later hb8)
        have HBi8 := Lib.hid (HBi7.out.later hb8)
        have HB8 := Lib.hid (below_then HB7.out hb8)
        have HS8 : Hid ((fun W : World => Blk W w.heap.size 63 #[.int .u8 odo, .int .i64 onow, .int .u16 oage, .int .u8 oopts, .int .u8 k1, .int .u32 k2, .int .u32 k3, .int .i32 oseq, .int .u16 osum, .int .u16 olen, .slice oA on oc] ∧ Blk W gin 61 #[.int .u16 oage, .int .u8 oopts, .int .u8 k1, .int .u32 k2, .int .u32 k3, .int .i32 oseq, .int .u16 osum, .int .u16 olen, .slice (some ⟨gi, 0, none⟩) on (on + 64)]) w8) := Lib.hid ⟨HS7.out.1.later hb8, HS7.out.2.later hb8⟩
        clear hb8 HP7 HX7 HI7 HBi7 HB7 HS7
        go_wp2_with fail
        refine hK.out _ _ HS8.out ?_
        clear hK K
        have HU : Hid (OneR base w w8 g bm most f N gd v xs gb G L f N v xs G L) := Lib.hid ⟨HP8.out, Kept.of_new HB8.out _, fun b hb => .inl hb, BagUp.refl _ _ _ _, fun _ _ => rfl⟩
        have HNw : Hid ((∀ k x, f k = some x → ∀ b, x.s.b.ownBlock = some b → b ≠ gi) ∧ (∀ x ∈ xs, ∀ b, x.s.b.ownBlock = some b → b ≠ gi) ∧ ∀ s ∈ L 0, ∀ b, s.v.ownBlock = some b → b ≠ gi) := Lib.hid ⟨fun k x hx b hb => Nat.ne_of_lt (Nat.lt_of_lt_of_le (HP0.out.lt8.1 k x hx b hb) (Nat.le_trans HS3.out HGi.out)), fun x hx b hb => Nat.ne_of_lt (Nat.lt_of_lt_of_le (HP0.out.lt8.2.1 x hx b hb) (Nat.le_trans HS3.out HGi.out)), fun s hs b hb => Nat.ne_of_lt (Nat.lt_of_lt_of_le (HP0.out.lt8.2.2 s hs b hb) (Nat.le_trans HS3.out HGi.out))⟩
        clear HP8 HB8
        refine wpS_take HS8 (by kernel_rfl) (by intro W hW; clear hW; go_simp; try with_reducible rfl) ?_
        refine wpS_take HS8 (by kernel_rfl) (by intro W hW; clear hW; go_simp; try with_reducible rfl) ?_
        refine wpS_take HS8 (by kernel_rfl) (by intro W hW; clear hW; go_simp; try with_reducible rfl) ?_
        refine wpS_take HS8 (by kernel_rfl) (fun W hW => exec_load_row rfl rfl hW.2 Tryz.underlying61 rfl info_state) ?_
        refine wpS_take HS8 (by kernel_rfl) (by intro W hW; have j0 := hW.1.cell 0; have j1 := hW.1.cell 1; have j2 := hW.1.cell 2; have j3 := hW.1.cell 3; have j4 := hW.1.cell 4; have j5 := hW.1.cell 5; have j6 := hW.1.cell 6; have j7 := hW.1.cell 7; have j8 := hW.1.cell 8; have j9 := hW.1.cell 9; have j10 := hW.1.cell 10; simp only [List.getElem?_toArray, List.getElem?_cons_zero, List.getElem?_cons_succ] at j0 j1 j2 j3 j4 j5 j6 j7 j8 j9 j10; clear hW; go_simp; try with_reducible rfl) ?_
        go_simp
        refine wpS_do fun K hK => ?_
        go_wp2_with fail
        refine (eqState_at (⟨⟨oage, oopts, k1, k2, k3, oseq, osum, olen⟩, some ⟨gi, 0, none⟩, on, on + 64, oB⟩ : SE) (⟨⟨oage, oopts, k1, k2, k3, oseq, osum, olen⟩, oA, on, oc, oB⟩ : SE) w8 HI8.out HX8.out rfl rfl).mono ?_
        rintro e w9 ⟨rfl, hb9⟩
        have HBi9 := Lib.hid (HBi8.out.later hb9)
        have HS9 : Hid ((fun W : World => Blk W w.heap.size 63 #[.int .u8 odo, .int .i64 onow, .int .u16 oage, .int .u8 oopts, .int .u8 k1, .int .u32 k2, .int .u32 k3, .int .i32 oseq, .int .u16 osum, .int .u16 olen, .slice oA on oc] ∧ Blk W gin 61 #[.int .u16 oage, .int .u8 oopts, .int .u8 k1, .int .u32 k2, .int .u32 k3, .int .i32 oseq, .int .u16 osum, .int .u16 olen, .slice (some ⟨gi, 0, none⟩) on (on + 64)]) w9) := Lib.hid ⟨HS8.out.1.later hb9, HS8.out.2.later hb9⟩
        have HU9 := Lib.hid (HU.out.later hb9)
        have HBl := Lib.hid (show oB.length = on from HX8.out.bl)
        clear hb9 HS8 HX8 HI8 HBi8 HU
        go_wp2_with fail
        refine hK.out _ _ HS9.out ?_
        clear hK K
        refine wpS_take HS9 (by kernel_rfl) (by intro W hW; clear hW; go_simp; try with_reducible rfl) ?_
        refine wpS_take HS9 (by kernel_rfl) (by intro W hW; clear hW; go_simp; try with_reducible rfl) ?_
        refine wpS_take HS9 (by kernel_rfl) (fun W hW => exec_load_row rfl rfl hW.2 Tryz.underlying61 rfl info_state) ?_
        go_simp
        refine wpS_do fun K hK => ?_
        go_wp2_with fail
        refine (spareState_yes ⟨oage, oopts, k1, k2, k3, oseq, osum, olen⟩ gi on oB w9 HBi9.out HBl.out hs).mono ?_
        rintro e w10 ⟨rfl, hb10⟩
        have HBi10 := Lib.hid (HBi9.out.later hb10)
        have HS10 : Hid ((fun W : World => Blk W w.heap.size 63 #[.int .u8 odo, .int .i64 onow, .int .u16 oage, .int .u8 oopts, .int .u8 k1, .int .u32 k2, .int .u32 k3, .int .i32 oseq, .int .u16 osum, .int .u16 olen, .slice oA on oc] ∧ Blk W gin 61 #[.int .u16 oage, .int .u8 oopts, .int .u8 k1, .int .u32 k2, .int .u32 k3, .int .i32 oseq, .int .u16 osum, .int .u16 olen, .slice (some ⟨gi, 0, none⟩) on (on + 64)]) w10) := Lib.hid ⟨HS9.out.1.later hb10, HS9.out.2.later hb10⟩
        have HU10 := Lib.hid (HU9.out.later hb10)
        clear hb10 HS9 HBi9 HU9
        go_wp2_with fail
        refine hK.out _ _ HS10.out ?_
        clear hK K
        refine wpS_take HS10 (by kernel_rfl) (by intro W hW; clear hW; go_simp; try with_reducible rfl) ?_
        refine wpS_take HS10 (by kernel_rfl) (by intro W hW; clear hW; go_simp; try with_reducible rfl) ?_
        refine wpS_nil ?_
        go_simp
        go_wp2_with fail
        have HIn := Lib.hid HS10.out.2
        clear HS10
        go_loopw [12] (fun iv wr => ∃ i : Nat, iv = .int .i64 i ∧ i ≤ on ∧ Hid (∃ zs : List Int, zs.length = on + 64 ∧ Blk wr gi 5 (u8s zs).toArray) ∧ Hid (Kept (fun b => b = gi) w10 wr)) (fun iv _ => on - (intOf iv).toNat)
        case atStart => exact ⟨0, rfl, Nat.zero_le _, Lib.hid ⟨wide oB, by rw [wide_length, HBl.out], HBi10.out⟩, Lib.hid (Kept.refl _ _)⟩
        case round =>
          obtain ⟨i, rfl, hi, hz, hk⟩ := hrel
          obtain ⟨zs, hzl, hzb⟩ := hz.out
          have HZb := Lib.hid hzb
          have HIr := Lib.hid (HIn.out.kept hk.out (blk_ne HIn.out HBi10.out (by decide)))
          have i8 := HIr.out.cell 8
          simp only [List.getElem?_toArray, List.getElem?_cons_zero, List.getElem?_cons_succ] at i8
          by_cases hlt : i < on
          · have hltI : (i : Int) < on := by omega
            obtain ⟨z, hzz⟩ : ∃ z, zs[i]? = some z := ⟨zs[i]'(by omega), List.getElem?_eq_getElem _⟩
            have e0 : wr.cell? ⟨gi, i, none⟩ = some (.int .u8 z) := by rw [hzb.cell]; simp [u8s, hzz]
            have f0 := hzb.frozen i
            clear hzb hzz
            go_wp2_with fail
            go_roundw
            case rel =>
              refine ⟨i + 1, by go_num, by omega, Lib.hid ⟨zs.set i (IntKind.u8.wrap (z + 1)), by rw [List.length_set]; exact hzl, ?_⟩, Lib.hid (hk.out.trans (kept_setC wr gi i _) (fun _ _ h => h))⟩
              have h1 := HZb.out.set_ i (.int .u8 (IntKind.u8.wrap (z + 1)))
              rw [List.setIfInBounds_toArray, u8s_set] at h1
              exact h1
            case measure => simp [intOf]; omega
          · obtain rfl : i = on := by omega
            clear hzb
            go_wp2_with fail
            go_ret
            refine ⟨rfl, f, N, v, xs, G, L, ?_⟩
            exact HU10.out.marked hk.out HBi10.out HNw.out (Nat.le_trans HS3.out HGi.out)
end Go.Proofs.YtpncbggjngamgaaGreatDoor
