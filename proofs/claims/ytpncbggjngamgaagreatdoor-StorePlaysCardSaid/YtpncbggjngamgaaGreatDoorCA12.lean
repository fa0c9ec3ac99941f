/-
  A call of both: Drop, Get, When. Printed by gen_one2.py.
  What a store tells at a time, both stores, at any time.
  StoreAgain's walk. Printed by gen_sto14.py.
  StoreCopies' walk. Printed by gen_cop.py.
-/
import Derived.Test.YtpncbggjngamgaaGreatDoorCA11
import Derived.Test.YtpncbggjngamgaaGreatDoorCA07
import Derived.Test.YtpncbggjngamgaaGreatDoorCA08
namespace Go.Proofs.YtpncbggjngamgaaGreatDoor
set_option linter.unusedVariables false
open Go.RowKit

theorem BagUp.widen {n0 m1 n1 : Nat} {G G' : Nat → Sl} {L L' : Nat → List Sl} (h : BagUp n0 n1 G G' L L') (hm : m1 ≤ n1) : BagUp n0 m1 G G' L L' := ⟨h.mem, fun j b hb => (h.blk j b hb).imp id (fun h1 => Nat.le_trans hm h1)⟩
set_option maxRecDepth 100000 in
set_option maxHeartbeats 16000000 in
theorem one_drop (base : Nat) (w : World) (g bm : Nat) (most : Int) (f : Ky3 → Option OneE) (N gd : Nat) (v : Value) (xs : List OneE) (gb : Nat) (G : Nat → Sl) (L : Nat → List Sl) (h : PB base w g bm most f N gd v xs gb G L) (o : OpS) (ho : o.ok w) (hs : o.s.n ≤ 1099511627776) (hob : 0 < o.s.n → ∀ ad, o.s.A = some ad → ad.block < base) (hc : o.do_ % 6 = 3) :
    Calls Tryz.prog 8 #[.pointer (some ⟨g, 0, none⟩), .pointer (some ⟨gd, 0, none⟩), o.v, .pointer (some ⟨gb, 0, none⟩)] w fun e w' => OneP base w w' g bm most f N gd v xs gb G L e := by
  obtain ⟨odo, onow, ⟨⟨oage, oopts, k1, k2, k3, oseq, osum, olen⟩, oA, on, oc, oB⟩⟩ := o
  have hd := ho.do_
  have hno := ho.now
  simp only at hd hno hs hob hc
  have hb1 : Below w.heap.size w (w.alloc (.cells #[.int .u8 odo, .int .i64 onow, .int .u16 oage, .int .u8 oopts, .int .u8 k1, .int .u32 k2, .int .u32 k3, .int .i32 oseq, .int .u16 osum, .int .u16 olen, .slice oA on oc] 63)) := (Below.refl _ _).alloc (Nat.le_refl _) _
  have HOb : Hid (Blk (w.alloc (.cells #[.int .u8 odo, .int .i64 onow, .int .u16 oage, .int .u8 oopts, .int .u8 k1, .int .u32 k2, .int .u32 k3, .int .i32 oseq, .int .u16 osum, .int .u16 olen, .slice oA on oc] 63)) w.heap.size 63 #[.int .u8 odo, .int .i64 onow, .int .u16 oage, .int .u8 oopts, .int .u8 k1, .int .u32 k2, .int .u32 k3, .int .i32 oseq, .int .u16 osum, .int .u16 olen, .slice oA on oc]) := Lib.hid (Blk.new _ _ _)
  have HP0 := Lib.hid h
  have HP := Lib.hid (h.later hb1)
  have HX := Lib.hid ((show SE.rd w (⟨⟨oage, oopts, k1, k2, k3, oseq, osum, olen⟩, oA, on, oc, oB⟩ : SE) from ⟨ho.s.head, ho.s.body, ho.s.oct, ho.s.cap, hs⟩).later hb1)
  have HB1 := Lib.hid hb1
  have c0 := HOb.out.cell 0; have c2 := HOb.out.cell 2; have c3 := HOb.out.cell 3; have c4 := HOb.out.cell 4; have c5 := HOb.out.cell 5; have c6 := HOb.out.cell 6; have c7 := HOb.out.cell 7; have c8 := HOb.out.cell 8; have c9 := HOb.out.cell 9
  simp only [List.getElem?_toArray, List.getElem?_cons_zero, List.getElem?_cons_succ] at c0 c2 c3 c4 c5 c6 c7 c8 c9
  have hw : IntKind.u8.wrap (odo % 6) = odo % 6 := by simp [IntKind.wrap, IntKind.bits, IntKind.signed]; omega
  have htm : odo.tmod 6 = odo % 6 := Int.tmod_eq_emod_of_nonneg hd.1
  clear h ho hb1
  show Calls Tryz.prog 8 #[.pointer (some ⟨g, 0, none⟩), .pointer (some ⟨gd, 0, none⟩), .agg #[.int .u8 odo, .int .i64 onow, .int .u16 oage, .int .u8 oopts, .int .u8 k1, .int .u32 k2, .int .u32 k3, .int .i32 oseq, .int .u16 osum, .int .u16 olen, .slice oA on oc], .pointer (some ⟨gb, 0, none⟩)] w fun e w' => OneP base w w' g bm most f N gd v xs gb G L e
  go_enter Tryz.func8, Tryz.ntmps8
  go_wp2_with fail
  clear c0 c2 c3 c4 c5 c6 c7 c8 c9
  generalize w.alloc (.cells #[.int .u8 odo, .int .i64 onow, .int .u16 oage, .int .u8 oopts, .int .u8 k1, .int .u32 k2, .int .u32 k3, .int .i32 oseq, .int .u16 osum, .int .u16 olen, .slice oA on oc] 63) = w1 at *
  refine (rkey_hd ⟨oage, oopts, k1, k2, k3, oseq, osum, olen⟩ w1).mono ?_
  rintro e w2 ⟨rfl, hb2⟩
  have HP2 := Lib.hid (HP.out.later hb2)
  have HX2 := Lib.hid (HX.out.later hb2)
  have HOb2 := Lib.hid (HOb.out.later hb2)
  have HB2 := Lib.hid (below_then HB1.out hb2)
  clear hb2 HP HX HOb HB1
  have hb3 : Below w2.heap.size w2 (w2.alloc (.cells #[.int .u8 k1, .int .u32 k2, .int .u32 k3] 68)) := (Below.refl _ _).alloc (Nat.le_refl _) _
  have HK3 : Hid (Blk (w2.alloc (.cells #[.int .u8 k1, .int .u32 k2, .int .u32 k3] 68)) w2.heap.size 68 #[.int .u8 k1, .int .u32 k2, .int .u32 k3]) := Lib.hid (Blk.new _ _ _)
  have HP3 := Lib.hid (HP2.out.later hb3)
  have HX3 := Lib.hid (HX2.out.later hb3)
  have HO3 := Lib.hid (HOb2.out.later hb3)
  have HB3 := Lib.hid (below_then HB2.out hb3)
  clear hb3 HP2 HX2 HOb2
  have c0 := HO3.out.cell 0; have c1 := HO3.out.cell 1; have c2 := HO3.out.cell 2; have c3 := HO3.out.cell 3; have c4 := HO3.out.cell 4; have c5 := HO3.out.cell 5; have c6 := HO3.out.cell 6; have c7 := HO3.out.cell 7; have c8 := HO3.out.cell 8; have c9 := HO3.out.cell 9; have c10 := HO3.out.cell 10
  have b0 := HK3.out.cell 0; have b1 := HK3.out.cell 1; have b2 := HK3.out.cell 2
  simp only [List.getElem?_toArray, List.getElem?_cons_zero, List.getElem?_cons_succ] at c0 c1 c2 c3 c4 c5 c6 c7 c8 c9 c10 b0 b1 b2
  go_wp2_with fail
  clear c0 c1 c2 c3 c4 c5 c6 c7 c8 c9 c10 b0 b1 b2 hw htm HX3
  generalize w2.alloc (.cells #[.int .u8 k1, .int .u32 k2, .int .u32 k3] 68) = w3 at *
  have HGk : Hid (w.heap.size ≤ w2.heap.size) := Lib.hid HB2.out.size
  generalize w2.heap.size = gk at *
  clear HB2
  have hbd : Below w3.heap.size w3 w3.drew := (Below.refl _ _).drew
  have HP5 := Lib.hid (HP3.out.later hbd)
  have HS : Hid ((fun W : World => Blk W gk 68 #[.int .u8 k1, .int .u32 k2, .int .u32 k3]) w3.drew) := Lib.hid (HK3.out.later hbd)
  have HB5 := Lib.hid HB3.out.drew
  clear hbd HP3 HO3 HK3 HB3
  refine wp_region_s (fun W : World => Blk W gk 68 #[.int .u8 k1, .int .u32 k2, .int .u32 k3]) [(0, true), (3, true), (1, true), (4, true), (2, false), (5, false), (6, true), (7, true)] (by kernel_rfl) (fun _ d _ _ _ h => by cases d <;> exact h) ?_
  simp only [List.map_cons, List.map_nil, nthOp_zero, nthOp_succ]
  generalize w3.drew = w5 at *
  refine wpS_take HS (by kernel_rfl) (by intro W hW; clear hW; go_simp; try with_reducible rfl) ?_
  refine wpS_take HS (by kernel_rfl) (by intro W hW; clear hW; go_simp; try with_reducible rfl) ?_
  refine wpS_take HS (by kernel_rfl) (fun W hW => exec_load_row rfl rfl hW Tryz.underlying68 rfl info_key3) ?_
  refine wpS_take HS (by kernel_rfl) (fun W hW => exec_load_row rfl rfl hW Tryz.underlying68 rfl info_key3) ?_
  go_simp
  refine wpS_do fun K hK => ?_
  go_wp2_with fail
  refine (stdrop_any w5 g bm most f N HP5.out.p.q (k1, k2, k3)).mono ?_
  rintro e w6 ⟨rfl, pq, pk⟩
  have HQ6 := Lib.hid pq
  have HKa := Lib.hid ((Kept.of_new HB5.out (fun b => PairF bm gd v b ∨ BagF gb G b)).trans pk (fun b _ e => .inl (.inl e)))
  have HR6 := Lib.hid (HP5.out.p.r.map HP5.out.p.q.map pk)
  have HBg6 := Lib.hid (HP5.out.b.map HP5.out.p.q.map pk)
  have HOw6 : Hid (∀ k x, f k = some x → x.s.ok base w6) := Lib.hid fun k x hx => (by
    have h0 := HP5.out.p.own k x hx
    exact ⟨h0.head, own_kept h0.body pk (fun b hb => own_ne_mapF h0.body HP5.out.p.q.map b hb), h0.oct, h0.len⟩)
  have HS6 : Hid ((fun W : World => Blk W gk 68 #[.int .u8 k1, .int .u32 k2, .int .u32 k3]) w6) := Lib.hid (HS.out.kept pk (fun e => HP5.out.p.q.map.ne_blk HS.out e.symm))
  have HPS := Lib.hid (And.intro HP5.out.p.l (And.intro HP5.out.p.n (And.intro HP5.out.p.lim (And.intro HP5.out.p.hbm (And.intro HP5.out.p.hgd (And.intro HP5.out.hgb HP5.out.dj))))))
  have HSz : Hid (w.heap.size ≤ w6.heap.size) := Lib.hid (Nat.le_trans HB5.out.size pk.size)
  have HBe := Lib.hid (Nat.le_trans HP5.out.base_le pk.size)
  clear pq pk HP5 HS HB5
  go_wp2_with fail
  refine hK.out _ _ HS6.out ?_
  clear hK K
  refine wpS_do fun K hK => ?_
  go_wp2_with fail
  refine (drop11 base w6 gd v most xs HR6.out HPS.out.1.ascL HBe.out (by have := HPS.out.2.1; have := HPS.out.2.2.1; omega) (k1, k2, k3)).mono ?_
  rintro e w7 (⟨v', xs', rfl, hr⟩ | ⟨rfl, hno2, hb7⟩)
  · have hist := HPS.out.1.iso (k1, k2, k3)
    rw [hr.there] at hist
    rw [hist]
    have hst := HQ6.out.ref (base := base) (fun k x hx => HOw6.out k x (dropK_some hx)) HR6.out (hr.k.mono (T := fun b => b = gd ∨ v.ownBlock = some b) (fun b _ e => .inl e))
    have HBg7 := Lib.hid (HBg6.out.ref HR6.out (hr.k.mono (T := fun b => b = gd ∨ v.ownBlock = some b) (fun b _ e => .inl e)))
    have HS7 : Hid ((fun W : World => Blk W gk 68 #[.int .u8 k1, .int .u32 k2, .int .u32 k3]) w7) := Lib.hid (HS6.out.kept hr.k (blk_ne HS6.out HR6.out.blk (by decide)))
    have hxm : ∀ z ∈ xs', z ∈ xs := fun z hz => by
      have h1 := hr.row.1.rowAt hz
      rw [hr.row.2] at h1
      by_cases e : z.s.key = (k1, k2, k3)
      · rw [if_pos e] at h1; cases h1
      · rw [if_neg e] at h1; exact (rowAt_some h1).1
    have HU : Hid (OneR base w w7 g bm most f N gd v xs gb G L (dropK f (k1, k2, k3)) (if (f (k1, k2, k3)).isSome = true then N - 1 else N) v' xs' G L) := Lib.hid ⟨⟨⟨hst.1, hst.2, hr.q, HPS.out.1.drop hr.row, ?_, ?_, HPS.out.2.2.2.1, HPS.out.2.2.2.2.1⟩, HBg7.out, ?_, HPS.out.2.2.2.2.2.1⟩, HKa.out.trans hr.k (fun b _ e => .inl (.inr (.inl e))), fun b hb => .inr (Nat.le_trans HSz.out (hr.vb b hb)), BagUp.refl _ _ _ _, fun _ _ => rfl⟩
    rotate_left
    · rw [if_pos hist]
      have := hr.len
      have := HPS.out.2.1
      omega
    · rw [if_pos hist]
      have := HPS.out.2.2.1
      refine ⟨by omega, this.2⟩
    · intro s hs b hb
      have hd := HPS.out.2.2.2.2.2.2 s hs b hb
      exact ⟨fun k x hx => hd.1 k x (dropK_some hx), fun x hx => hd.2 x (hxm x hx)⟩
    clear hr hst hxm hist HR6 HBg6 HQ6 HOw6 HS6
    go_wp2_with fail
    refine hK.out _ _ HS7.out ?_
    clear hK K
    refine wpS_take HS7 (by kernel_rfl) (by intro W hW; clear hW; go_simp; try with_reducible rfl) ?_
    refine wpS_take HS7 (by kernel_rfl) (by intro W hW; clear hW; go_simp; try with_reducible rfl) ?_
    refine wpS_nil ?_
    go_simp
    go_wp2_with fail
    go_ret
    exact ⟨rfl, _, _, _, _, _, _, HU.out⟩
  · have hist := HPS.out.1.iso (k1, k2, k3)
    rw [hno2] at hist
    have hfn : f (k1, k2, k3) = none := HPS.out.1.none_ hno2
    have hdk : dropK f (k1, k2, k3) = f := by
      funext k'
      unfold dropK
      by_cases e : k' = (k1, k2, k3)
      · rw [if_pos e, e, hfn]
      · rw [if_neg e]
    have hq := HQ6.out
    rw [hdk, hfn] at hq
    rw [hfn]
    have HS7 : Hid ((fun W : World => Blk W gk 68 #[.int .u8 k1, .int .u32 k2, .int .u32 k3]) w7) := Lib.hid (HS6.out.later hb7)
    have HU : Hid (OneR base w w7 g bm most f N gd v xs gb G L f N v xs G L) := Lib.hid ⟨(⟨⟨hq, HOw6.out, HR6.out, HPS.out.1, HPS.out.2.1, HPS.out.2.2.1, HPS.out.2.2.2.1, HPS.out.2.2.2.2.1⟩, HBg6.out, HPS.out.2.2.2.2.2.2, HPS.out.2.2.2.2.2.1⟩ : PB base w6 g bm most f N gd v xs gb G L).later hb7, HKa.out.trans (Kept.of_new hb7 (fun _ => False)) (fun _ _ e => e.elim), fun b hb => .inl hb, BagUp.refl _ _ _ _, fun _ _ => rfl⟩
    clear hist hdk hq hb7 HR6 HBg6 HQ6 HOw6 HS6
    go_wp2_with fail
    refine hK.out _ _ HS7.out ?_
    clear hK K
    refine wpS_take HS7 (by kernel_rfl) (by intro W hW; clear hW; go_simp; try with_reducible rfl) ?_
    refine wpS_take HS7 (by kernel_rfl) (by intro W hW; clear hW; go_simp; try with_reducible rfl) ?_
    refine wpS_nil ?_
    go_simp
    go_wp2_with fail
    go_ret
    exact ⟨rfl, _, _, _, _, _, _, HU.out⟩
set_option maxRecDepth 100000 in
set_option maxHeartbeats 16000000 in
theorem one_get (base : Nat) (w : World) (g bm : Nat) (most : Int) (f : Ky3 → Option OneE) (N gd : Nat) (v : Value) (xs : List OneE) (gb : Nat) (G : Nat → Sl) (L : Nat → List Sl) (h : PB base w g bm most f N gd v xs gb G L) (o : OpS) (ho : o.ok w) (hs : o.s.n ≤ 1099511627776) (hob : 0 < o.s.n → ∀ ad, o.s.A = some ad → ad.block < base) (hc : o.do_ % 6 = 4) :
    Calls Tryz.prog 8 #[.pointer (some ⟨g, 0, none⟩), .pointer (some ⟨gd, 0, none⟩), o.v, .pointer (some ⟨gb, 0, none⟩)] w fun e w' => OneP base w w' g bm most f N gd v xs gb G L e := by
  obtain ⟨odo, onow, ⟨⟨oage, oopts, k1, k2, k3, oseq, osum, olen⟩, oA, on, oc, oB⟩⟩ := o
  have hd := ho.do_
  have hno := ho.now
  simp only at hd hno hs hob hc
  have hb1 : Below w.heap.size w (w.alloc (.cells #[.int .u8 odo, .int .i64 onow, .int .u16 oage, .int .u8 oopts, .int .u8 k1, .int .u32 k2, .int .u32 k3, .int .i32 oseq, .int .u16 osum, .int .u16 olen, .slice oA on oc] 63)) := (Below.refl _ _).alloc (Nat.le_refl _) _
  have HOb : Hid (Blk (w.alloc (.cells #[.int .u8 odo, .int .i64 onow, .int .u16 oage, .int .u8 oopts, .int .u8 k1, .int .u32 k2, .int .u32 k3, .int .i32 oseq, .int .u16 osum, .int .u16 olen, .slice oA on oc] 63)) w.heap.size 63 #[.int .u8 odo, .int .i64 onow, .int .u16 oage, .int .u8 oopts, .int .u8 k1, .int .u32 k2, .int .u32 k3, .int .i32 oseq, .int .u16 osum, .int .u16 olen, .slice oA on oc]) := Lib.hid (Blk.new _ _ _)
  have HP0 := Lib.hid h
  have HP := Lib.hid (h.later hb1)
  have HX := Lib.hid ((show SE.rd w (⟨⟨oage, oopts, k1, k2, k3, oseq, osum, olen⟩, oA, on, oc, oB⟩ : SE) from ⟨ho.s.head, ho.s.body, ho.s.oct, ho.s.cap, hs⟩).later hb1)
  have HB1 := Lib.hid hb1
  have c0 := HOb.out.cell 0; have c2 := HOb.out.cell 2; have c3 := HOb.out.cell 3; have c4 := HOb.out.cell 4; have c5 := HOb.out.cell 5; have c6 := HOb.out.cell 6; have c7 := HOb.out.cell 7; have c8 := HOb.out.cell 8; have c9 := HOb.out.cell 9
  simp only [List.getElem?_toArray, List.getElem?_cons_zero, List.getElem?_cons_succ] at c0 c2 c3 c4 c5 c6 c7 c8 c9
  have hw : IntKind.u8.wrap (odo % 6) = odo % 6 := by simp [IntKind.wrap, IntKind.bits, IntKind.signed]; omega
  have htm : odo.tmod 6 = odo % 6 := Int.tmod_eq_emod_of_nonneg hd.1
  clear h ho hb1
  show Calls Tryz.prog 8 #[.pointer (some ⟨g, 0, none⟩), .pointer (some ⟨gd, 0, none⟩), .agg #[.int .u8 odo, .int .i64 onow, .int .u16 oage, .int .u8 oopts, .int .u8 k1, .int .u32 k2, .int .u32 k3, .int .i32 oseq, .int .u16 osum, .int .u16 olen, .slice oA on oc], .pointer (some ⟨gb, 0, none⟩)] w fun e w' => OneP base w w' g bm most f N gd v xs gb G L e
  go_enter Tryz.func8, Tryz.ntmps8
  go_wp2_with fail
  clear c0 c2 c3 c4 c5 c6 c7 c8 c9
  generalize w.alloc (.cells #[.int .u8 odo, .int .i64 onow, .int .u16 oage, .int .u8 oopts, .int .u8 k1, .int .u32 k2, .int .u32 k3, .int .i32 oseq, .int .u16 osum, .int .u16 olen, .slice oA on oc] 63) = w1 at *
  refine (rkey_hd ⟨oage, oopts, k1, k2, k3, oseq, osum, olen⟩ w1).mono ?_
  rintro e w2 ⟨rfl, hb2⟩
  have HP2 := Lib.hid (HP.out.later hb2)
  have HX2 := Lib.hid (HX.out.later hb2)
  have HOb2 := Lib.hid (HOb.out.later hb2)
  have HB2 := Lib.hid (below_then HB1.out hb2)
  clear hb2 HP HX HOb HB1
  have hb3 : Below w2.heap.size w2 (w2.alloc (.cells #[.int .u8 k1, .int .u32 k2, .int .u32 k3] 68)) := (Below.refl _ _).alloc (Nat.le_refl _) _
  have HK3 : Hid (Blk (w2.alloc (.cells #[.int .u8 k1, .int .u32 k2, .int .u32 k3] 68)) w2.heap.size 68 #[.int .u8 k1, .int .u32 k2, .int .u32 k3]) := Lib.hid (Blk.new _ _ _)
  have HP3 := Lib.hid (HP2.out.later hb3)
  have HX3 := Lib.hid (HX2.out.later hb3)
  have HO3 := Lib.hid (HOb2.out.later hb3)
  have HB3 := Lib.hid (below_then HB2.out hb3)
  clear hb3 HP2 HX2 HOb2
  have c0 := HO3.out.cell 0; have c1 := HO3.out.cell 1; have c2 := HO3.out.cell 2; have c3 := HO3.out.cell 3; have c4 := HO3.out.cell 4; have c5 := HO3.out.cell 5; have c6 := HO3.out.cell 6; have c7 := HO3.out.cell 7; have c8 := HO3.out.cell 8; have c9 := HO3.out.cell 9; have c10 := HO3.out.cell 10
  have b0 := HK3.out.cell 0; have b1 := HK3.out.cell 1; have b2 := HK3.out.cell 2
  simp only [List.getElem?_toArray, List.getElem?_cons_zero, List.getElem?_cons_succ] at c0 c1 c2 c3 c4 c5 c6 c7 c8 c9 c10 b0 b1 b2
  by_cases hneg : onow < 0
  · go_wp2_with fail
    clear c0 c1 c2 c3 c4 c5 c6 c7 c8 c9 c10 b0 b1 b2 hw htm HX3
    generalize w2.alloc (.cells #[.int .u8 k1, .int .u32 k2, .int .u32 k3] 68) = w3 at *
    generalize w2.heap.size = gk at *
    clear HB2
    refine (stget_neg w3 g bm (HP3.out.p.q.blk.cell 0) (k1, k2, k3) onow hneg).mono ?_
    rintro e w4 ⟨rfl, hb4⟩
    have hbA : Below w4.heap.size w4 (w4.alloc (.cells #[.int .u16 0, .int .u8 0, .int .u8 0, .int .u32 0, .int .u32 0, .int .i32 0, .int .u16 0, .int .u16 0, .slice none 0 0] 61)) := (Below.refl _ _).alloc (Nat.le_refl _) _
    have HI4 : Hid (Blk (w4.alloc (.cells #[.int .u16 0, .int .u8 0, .int .u8 0, .int .u32 0, .int .u32 0, .int .i32 0, .int .u16 0, .int .u16 0, .slice none 0 0] 61)) w4.heap.size 61 #[.int .u16 0, .int .u8 0, .int .u8 0, .int .u32 0, .int .u32 0, .int .i32 0, .int .u16 0, .int .u16 0, .slice none 0 0]) := Lib.hid (Blk.new _ _ _)
    have HPA := Lib.hid ((HP3.out.later hb4).later hbA)
    have HOA := Lib.hid ((HO3.out.later hb4).later hbA)
    have HKA := Lib.hid ((HK3.out.later hb4).later hbA)
    have HBA := Lib.hid (below_then (below_then HB3.out hb4) hbA)
    have c1 := HOA.out.cell 1
    have b0 := HKA.out.cell 0; have b1 := HKA.out.cell 1; have b2 := HKA.out.cell 2
    simp only [List.getElem?_toArray, List.getElem?_cons_zero, List.getElem?_cons_succ] at c1 b0 b1 b2
    clear hbA hb4 HP3 HO3 HK3
    go_wp2_with fail
    clear c1 b0 b1 b2
    generalize hwA : w4.alloc (.cells #[.int .u16 0, .int .u8 0, .int .u8 0, .int .u32 0, .int .u32 0, .int .i32 0, .int .u16 0, .int .u16 0, .slice none 0 0] 61) = wA at *
    have HgA : Hid (w4.heap.size < wA.heap.size) := Lib.hid HI4.out.lt
    generalize w4.heap.size = gA at *
    clear hwA
    refine (get11_neg base wA gd v most xs HPA.out.p.r (k1, k2, k3) onow hneg).mono ?_
    rintro e w5 ⟨rfl, hb5⟩
    have hbB : Below w5.heap.size w5 (w5.alloc (.cells #[.int .u16 0, .int .u8 0, .int .u8 0, .int .u32 0, .int .u32 0, .int .i32 0, .int .u16 0, .int .u16 0, .slice none 0 0] 61)) := (Below.refl _ _).alloc (Nat.le_refl _) _
    have HI5 : Hid (Blk (w5.alloc (.cells #[.int .u16 0, .int .u8 0, .int .u8 0, .int .u32 0, .int .u32 0, .int .i32 0, .int .u16 0, .int .u16 0, .slice none 0 0] 61)) w5.heap.size 61 #[.int .u16 0, .int .u8 0, .int .u8 0, .int .u32 0, .int .u32 0, .int .i32 0, .int .u16 0, .int .u16 0, .slice none 0 0]) := Lib.hid (Blk.new _ _ _)
    have HI4B := Lib.hid ((HI4.out.later hb5).later hbB)
    have HPB := Lib.hid ((HPA.out.later hb5).later hbB)
    have HBB := Lib.hid (below_then (below_then HBA.out hb5) hbB)
    have i0 := HI4B.out.cell 0; have i1 := HI4B.out.cell 1; have i2 := HI4B.out.cell 2; have i3 := HI4B.out.cell 3; have i4 := HI4B.out.cell 4; have i5 := HI4B.out.cell 5; have i6 := HI4B.out.cell 6; have i7 := HI4B.out.cell 7; have i8 := HI4B.out.cell 8
    have m0 := HI5.out.cell 0; have m1 := HI5.out.cell 1; have m2 := HI5.out.cell 2; have m3 := HI5.out.cell 3; have m4 := HI5.out.cell 4; have m5 := HI5.out.cell 5; have m6 := HI5.out.cell 6; have m7 := HI5.out.cell 7; have m8 := HI5.out.cell 8
    simp only [List.getElem?_toArray, List.getElem?_cons_zero, List.getElem?_cons_succ] at i0 i1 i2 i3 i4 i5 i6 i7 i8 m0 m1 m2 m3 m4 m5 m6 m7 m8
    clear hbB hb5 HPA HI4
    go_wp2_with fail
    clear i0 i1 i2 i3 i4 i5 i6 i7 i8 m0 m1 m2 m3 m4 m5 m6 m7 m8
    generalize w5.alloc (.cells #[.int .u16 0, .int .u8 0, .int .u8 0, .int .u32 0, .int .u32 0, .int .i32 0, .int .u16 0, .int .u16 0, .slice none 0 0] 61) = wB at *
    generalize w5.heap.size = gB at *
    refine (eqState_at ⟨⟨0, 0, 0, 0, 0, 0, 0, 0⟩, none, 0, 0, []⟩ ⟨⟨0, 0, 0, 0, 0, 0, 0, 0⟩, none, 0, 0, []⟩ wB (rd_nil wB _ ⟨by decide, by decide, by decide, by decide, by decide, by decide, by decide, by decide⟩) (rd_nil wB _ ⟨by decide, by decide, by decide, by decide, by decide, by decide, by decide, by decide⟩) rfl rfl).mono ?_
    rintro e w6 ⟨rfl, hb6⟩
    have HP6 := Lib.hid (HPB.out.later hb6)
    have HI6 := Lib.hid (HI4B.out.later hb6)
    have HB6 := Lib.hid (below_then HBB.out hb6)
    have i0 := HI6.out.cell 0; have i1 := HI6.out.cell 1; have i2 := HI6.out.cell 2; have i3 := HI6.out.cell 3; have i4 := HI6.out.cell 4; have i5 := HI6.out.cell 5; have i6 := HI6.out.cell 6; have i7 := HI6.out.cell 7; have i8 := HI6.out.cell 8
    simp only [List.getElem?_toArray, List.getElem?_cons_zero, List.getElem?_cons_succ] at i0 i1 i2 i3 i4 i5 i6 i7 i8
    clear hb6 HPB HI4B HBB
    go_wp2_with fail
    clear i0 i1 i2 i3 i4 i5 i6 i7 i8
    refine (addState_any w6 base gb G L HP6.out.b HP6.out.base_le ⟨⟨0, 0, 0, 0, 0, 0, 0, 0⟩, none, 0, 0, []⟩ ⟨⟨by decide, by decide, by decide, by decide, by decide, by decide, by decide, by decide⟩, World.ownsRow_nil _ _ _ _, (fun k x hx => by simp at hx), Nat.zero_le _⟩ (fun t ht b hb hsb => by simp [SE.b, Value.ownBlock] at hsb)).mono ?_
    rintro e w7 ⟨⟨rv, rfl⟩, G7, L7, a1, a2, a3⟩
    have H7 := Lib.hid (And.intro a1 (And.intro a2 a3))
    clear a1 a2 a3
    go_wp2_with fail
    go_ret
    refine ⟨rfl, f, N, v, xs, G7, L7, ⟨⟨HP6.out.p.bag HP6.out.b H7.out.2.1, H7.out.1, ?_, HP6.out.hgb⟩, (Kept.of_new HB6.out (fun b => PairF bm gd v b ∨ BagF gb G b)).trans H7.out.2.1 (fun b _ e => .inr e), fun b hb => .inl hb, ?_, fun j hj => (H7.out.2.2.oth j hj).1⟩⟩
    · intro s hs b hb
      rcases H7.out.2.2.self with e | e
      · rw [e] at hs
        exact HP6.out.dj s hs b hb
      · rw [e] at hs
        rcases List.mem_append.1 hs with hs | hs
        · exact HP6.out.dj s hs b hb
        · rw [List.mem_singleton] at hs
          subst hs
          simp [SE.sl, Value.ownBlock] at hb
    · refine (Added.up (n0 := w.heap.size) H7.out.2.2 ?_).widen HB6.out.size
      intro b hb
      simp [SE.sl, Value.ownBlock] at hb
  · have hn : 0 ≤ onow ∧ onow ≤ 9223372036854775807 := ⟨by omega, hno.2⟩
    go_wp2_with fail
    clear c0 c1 c2 c3 c4 c5 c6 c7 c8 c9 c10 b0 b1 b2 hw htm HX3
    generalize w2.alloc (.cells #[.int .u8 k1, .int .u32 k2, .int .u32 k3] 68) = w3 at *
    generalize w2.heap.size = gk at *
    clear HB2
    refine (stget_any w3 g bm most f N HP3.out.p.q (k1, k2, k3) onow hn).mono ?_
    rintro e w4 ⟨hsome, hnone⟩
    cases hf : f (k1, k2, k3) with
    | none =>
      obtain ⟨rfl, hb4⟩ := hnone hf
      have hbA : Below w4.heap.size w4 (w4.alloc (.cells #[.int .u16 0, .int .u8 0, .int .u8 0, .int .u32 0, .int .u32 0, .int .i32 0, .int .u16 0, .int .u16 0, .slice none 0 0] 61)) := (Below.refl _ _).alloc (Nat.le_refl _) _
      have HI4 : Hid (Blk (w4.alloc (.cells #[.int .u16 0, .int .u8 0, .int .u8 0, .int .u32 0, .int .u32 0, .int .i32 0, .int .u16 0, .int .u16 0, .slice none 0 0] 61)) w4.heap.size 61 #[.int .u16 0, .int .u8 0, .int .u8 0, .int .u32 0, .int .u32 0, .int .i32 0, .int .u16 0, .int .u16 0, .slice none 0 0]) := Lib.hid (Blk.new _ _ _)
      have HPA := Lib.hid ((HP3.out.later hb4).later hbA)
      have HOA := Lib.hid ((HO3.out.later hb4).later hbA)
      have HKA := Lib.hid ((HK3.out.later hb4).later hbA)
      have HBA := Lib.hid (below_then (below_then HB3.out hb4) hbA)
      have c1 := HOA.out.cell 1
      have b0 := HKA.out.cell 0; have b1 := HKA.out.cell 1; have b2 := HKA.out.cell 2
      simp only [List.getElem?_toArray, List.getElem?_cons_zero, List.getElem?_cons_succ] at c1 b0 b1 b2
      clear hbA hb4 HP3 HO3 HK3
      go_wp2_with fail
      clear c1 b0 b1 b2
      generalize hwA : w4.alloc (.cells #[.int .u16 0, .int .u8 0, .int .u8 0, .int .u32 0, .int .u32 0, .int .i32 0, .int .u16 0, .int .u16 0, .slice none 0 0] 61) = wA at *
      have HgA : Hid (w4.heap.size < wA.heap.size) := Lib.hid HI4.out.lt
      generalize w4.heap.size = gA at *
      clear hwA
      have hro : rowAt xs (k1, k2, k3) = none := by
        have h := HPA.out.p.l.iso (k1, k2, k3)
        rw [hf] at h
        cases hq : rowAt xs (k1, k2, k3) with
        | none => rfl
        | some y => rw [hq] at h; cases h
      refine (get11 base wA gd v most xs HPA.out.p.r (k1, k2, k3) onow hn).mono ?_
      rintro e w5 ⟨-, hnone2⟩
      obtain ⟨rfl, hb5⟩ := hnone2 hro
      have hbB : Below w5.heap.size w5 (w5.alloc (.cells #[.int .u16 0, .int .u8 0, .int .u8 0, .int .u32 0, .int .u32 0, .int .i32 0, .int .u16 0, .int .u16 0, .slice none 0 0] 61)) := (Below.refl _ _).alloc (Nat.le_refl _) _
      have HI5 : Hid (Blk (w5.alloc (.cells #[.int .u16 0, .int .u8 0, .int .u8 0, .int .u32 0, .int .u32 0, .int .i32 0, .int .u16 0, .int .u16 0, .slice none 0 0] 61)) w5.heap.size 61 #[.int .u16 0, .int .u8 0, .int .u8 0, .int .u32 0, .int .u32 0, .int .i32 0, .int .u16 0, .int .u16 0, .slice none 0 0]) := Lib.hid (Blk.new _ _ _)
      have HI4B := Lib.hid ((HI4.out.later hb5).later hbB)
      have HPB := Lib.hid ((HPA.out.later hb5).later hbB)
      have HBB := Lib.hid (below_then (below_then HBA.out hb5) hbB)
      have i0 := HI4B.out.cell 0; have i1 := HI4B.out.cell 1; have i2 := HI4B.out.cell 2; have i3 := HI4B.out.cell 3; have i4 := HI4B.out.cell 4; have i5 := HI4B.out.cell 5; have i6 := HI4B.out.cell 6; have i7 := HI4B.out.cell 7; have i8 := HI4B.out.cell 8
      have m0 := HI5.out.cell 0; have m1 := HI5.out.cell 1; have m2 := HI5.out.cell 2; have m3 := HI5.out.cell 3; have m4 := HI5.out.cell 4; have m5 := HI5.out.cell 5; have m6 := HI5.out.cell 6; have m7 := HI5.out.cell 7; have m8 := HI5.out.cell 8
      simp only [List.getElem?_toArray, List.getElem?_cons_zero, List.getElem?_cons_succ] at i0 i1 i2 i3 i4 i5 i6 i7 i8 m0 m1 m2 m3 m4 m5 m6 m7 m8
      clear hbB hb5 HPA HI4
      go_wp2_with fail
      clear i0 i1 i2 i3 i4 i5 i6 i7 i8 m0 m1 m2 m3 m4 m5 m6 m7 m8
      generalize w5.alloc (.cells #[.int .u16 0, .int .u8 0, .int .u8 0, .int .u32 0, .int .u32 0, .int .i32 0, .int .u16 0, .int .u16 0, .slice none 0 0] 61) = wB at *
      generalize w5.heap.size = gB at *
      refine (eqState_at ⟨⟨0, 0, 0, 0, 0, 0, 0, 0⟩, none, 0, 0, []⟩ ⟨⟨0, 0, 0, 0, 0, 0, 0, 0⟩, none, 0, 0, []⟩ wB (rd_nil wB _ ⟨by decide, by decide, by decide, by decide, by decide, by decide, by decide, by decide⟩) (rd_nil wB _ ⟨by decide, by decide, by decide, by decide, by decide, by decide, by decide, by decide⟩) rfl rfl).mono ?_
      rintro e w6 ⟨rfl, hb6⟩
      have HP6 := Lib.hid (HPB.out.later hb6)
      have HI6 := Lib.hid (HI4B.out.later hb6)
      have HB6 := Lib.hid (below_then HBB.out hb6)
      have i0 := HI6.out.cell 0; have i1 := HI6.out.cell 1; have i2 := HI6.out.cell 2; have i3 := HI6.out.cell 3; have i4 := HI6.out.cell 4; have i5 := HI6.out.cell 5; have i6 := HI6.out.cell 6; have i7 := HI6.out.cell 7; have i8 := HI6.out.cell 8
      simp only [List.getElem?_toArray, List.getElem?_cons_zero, List.getElem?_cons_succ] at i0 i1 i2 i3 i4 i5 i6 i7 i8
      clear hb6 HPB HI4B HBB
      go_wp2_with fail
      clear i0 i1 i2 i3 i4 i5 i6 i7 i8
      refine (addState_any w6 base gb G L HP6.out.b HP6.out.base_le ⟨⟨0, 0, 0, 0, 0, 0, 0, 0⟩, none, 0, 0, []⟩ ⟨⟨by decide, by decide, by decide, by decide, by decide, by decide, by decide, by decide⟩, World.ownsRow_nil _ _ _ _, (fun k x hx => by simp at hx), Nat.zero_le _⟩ (fun t ht b hb hsb => by simp [SE.b, Value.ownBlock] at hsb)).mono ?_
      rintro e w7 ⟨⟨rv, rfl⟩, G7, L7, a1, a2, a3⟩
      have H7 := Lib.hid (And.intro a1 (And.intro a2 a3))
      clear a1 a2 a3
      go_wp2_with fail
      go_ret
      refine ⟨rfl, f, N, v, xs, G7, L7, ⟨⟨HP6.out.p.bag HP6.out.b H7.out.2.1, H7.out.1, ?_, HP6.out.hgb⟩, (Kept.of_new HB6.out (fun b => PairF bm gd v b ∨ BagF gb G b)).trans H7.out.2.1 (fun b _ e => .inr e), fun b hb => .inl hb, ?_, fun j hj => (H7.out.2.2.oth j hj).1⟩⟩
      · intro s hs b hb
        rcases H7.out.2.2.self with e | e
        · rw [e] at hs
          exact HP6.out.dj s hs b hb
        · rw [e] at hs
          rcases List.mem_append.1 hs with hs | hs
          · exact HP6.out.dj s hs b hb
          · rw [List.mem_singleton] at hs
            subst hs
            simp [SE.sl, Value.ownBlock] at hb
      · refine (Added.up (n0 := w.heap.size) H7.out.2.2 ?_).widen HB6.out.size
        intro b hb
        simp [SE.sl, Value.ownBlock] at hb
    | some x =>
      obtain ⟨s', rfl, g1, g2, g3, g4, hb4⟩ := hsome x hf
      have hbA : Below w4.heap.size w4 (w4.alloc (.cells #[.int .u16 s'.h.age, .int .u8 s'.h.opts, .int .u8 s'.h.typ, .int .u32 s'.h.id, .int .u32 s'.h.adv, .int .i32 s'.h.seq, .int .u16 s'.h.sum, .int .u16 s'.h.len, .slice s'.A s'.n s'.c] 61)) := (Below.refl _ _).alloc (Nat.le_refl _) _
      have HI4 : Hid (Blk (w4.alloc (.cells #[.int .u16 s'.h.age, .int .u8 s'.h.opts, .int .u8 s'.h.typ, .int .u32 s'.h.id, .int .u32 s'.h.adv, .int .i32 s'.h.seq, .int .u16 s'.h.sum, .int .u16 s'.h.len, .slice s'.A s'.n s'.c] 61)) w4.heap.size 61 #[.int .u16 s'.h.age, .int .u8 s'.h.opts, .int .u8 s'.h.typ, .int .u32 s'.h.id, .int .u32 s'.h.adv, .int .i32 s'.h.seq, .int .u16 s'.h.sum, .int .u16 s'.h.len, .slice s'.A s'.n s'.c]) := Lib.hid (Blk.new _ _ _)
      have HPA := Lib.hid ((HP3.out.later hb4).later hbA)
      have HOA := Lib.hid ((HO3.out.later hb4).later hbA)
      have HKA := Lib.hid ((HK3.out.later hb4).later hbA)
      have HBA := Lib.hid (below_then (below_then HB3.out hb4) hbA)
      have HSA := Lib.hid ((g2.mono HB3.out.size).later hbA)
      have HS1 := Lib.hid (And.intro g1 g3)
      clear g1 g2 g3 g4
      have c1 := HOA.out.cell 1
      have b0 := HKA.out.cell 0; have b1 := HKA.out.cell 1; have b2 := HKA.out.cell 2
      simp only [List.getElem?_toArray, List.getElem?_cons_zero, List.getElem?_cons_succ] at c1 b0 b1 b2
      clear hbA hb4 HP3 HO3 HK3
      go_wp2_with fail
      clear c1 b0 b1 b2
      generalize hwA : w4.alloc (.cells #[.int .u16 s'.h.age, .int .u8 s'.h.opts, .int .u8 s'.h.typ, .int .u32 s'.h.id, .int .u32 s'.h.adv, .int .i32 s'.h.seq, .int .u16 s'.h.sum, .int .u16 s'.h.len, .slice s'.A s'.n s'.c] 61) = wA at *
      have HgA : Hid (w4.heap.size < wA.heap.size) := Lib.hid HI4.out.lt
      generalize w4.heap.size = gA at *
      clear hwA
      obtain ⟨y, hry⟩ : ∃ y, rowAt xs (k1, k2, k3) = some y := by
        have h := HPA.out.p.l.iso (k1, k2, k3)
        rw [hf] at h
        exact Option.isSome_iff_exists.1 h.symm
      obtain ⟨z, hz, e1, e2, e3⟩ := HPA.out.p.l.some_ hry
      rw [hf] at hz
      injection hz with hz
      subst hz
      refine (get11 base wA gd v most xs HPA.out.p.r (k1, k2, k3) onow hn).mono ?_
      rintro e w5 ⟨hsome2, -⟩
      obtain ⟨t', rfl, k1', k2', k3', k4', hb5⟩ := hsome2 y hry
      have hbB : Below w5.heap.size w5 (w5.alloc (.cells #[.int .u16 t'.h.age, .int .u8 t'.h.opts, .int .u8 t'.h.typ, .int .u32 t'.h.id, .int .u32 t'.h.adv, .int .i32 t'.h.seq, .int .u16 t'.h.sum, .int .u16 t'.h.len, .slice t'.A t'.n t'.c] 61)) := (Below.refl _ _).alloc (Nat.le_refl _) _
      have HI5 : Hid (Blk (w5.alloc (.cells #[.int .u16 t'.h.age, .int .u8 t'.h.opts, .int .u8 t'.h.typ, .int .u32 t'.h.id, .int .u32 t'.h.adv, .int .i32 t'.h.seq, .int .u16 t'.h.sum, .int .u16 t'.h.len, .slice t'.A t'.n t'.c] 61)) w5.heap.size 61 #[.int .u16 t'.h.age, .int .u8 t'.h.opts, .int .u8 t'.h.typ, .int .u32 t'.h.id, .int .u32 t'.h.adv, .int .i32 t'.h.seq, .int .u16 t'.h.sum, .int .u16 t'.h.len, .slice t'.A t'.n t'.c]) := Lib.hid (Blk.new _ _ _)
      have HI4B := Lib.hid ((HI4.out.later hb5).later hbB)
      have HPB := Lib.hid ((HPA.out.later hb5).later hbB)
      have HBB := Lib.hid (below_then (below_then HBA.out hb5) hbB)
      have HSB := Lib.hid ((HSA.out.later hb5).later hbB)
      have HTB := Lib.hid (k2'.later hbB)
      have HT1 := Lib.hid (And.intro k1' k3')
      clear k1' k2' k3' k4' HSA
      have i0 := HI4B.out.cell 0; have i1 := HI4B.out.cell 1; have i2 := HI4B.out.cell 2; have i3 := HI4B.out.cell 3; have i4 := HI4B.out.cell 4; have i5 := HI4B.out.cell 5; have i6 := HI4B.out.cell 6; have i7 := HI4B.out.cell 7; have i8 := HI4B.out.cell 8
      have m0 := HI5.out.cell 0; have m1 := HI5.out.cell 1; have m2 := HI5.out.cell 2; have m3 := HI5.out.cell 3; have m4 := HI5.out.cell 4; have m5 := HI5.out.cell 5; have m6 := HI5.out.cell 6; have m7 := HI5.out.cell 7; have m8 := HI5.out.cell 8
      simp only [List.getElem?_toArray, List.getElem?_cons_zero, List.getElem?_cons_succ] at i0 i1 i2 i3 i4 i5 i6 i7 i8 m0 m1 m2 m3 m4 m5 m6 m7 m8
      clear hbB hb5 HPA HI4
      go_wp2_with fail
      clear i0 i1 i2 i3 i4 i5 i6 i7 i8 m0 m1 m2 m3 m4 m5 m6 m7 m8
      generalize w5.alloc (.cells #[.int .u16 t'.h.age, .int .u8 t'.h.opts, .int .u8 t'.h.typ, .int .u32 t'.h.id, .int .u32 t'.h.adv, .int .i32 t'.h.seq, .int .u16 t'.h.sum, .int .u16 t'.h.len, .slice t'.A t'.n t'.c] 61) = wB at *
      generalize w5.heap.size = gB at *
      refine (eqState_at s' t' wB HSB.out.rd HTB.out.rd (by rw [HS1.out.1, HT1.out.1]; unfold OneE.headAt OneE.age; rw [e1, e3]) (by rw [HS1.out.2, HT1.out.2, e2])).mono ?_
      rintro e w6 ⟨rfl, hb6⟩
      have HP6 := Lib.hid (HPB.out.later hb6)
      have HI6 := Lib.hid (HI4B.out.later hb6)
      have HB6 := Lib.hid (below_then HBB.out hb6)
      have HS6 := Lib.hid (HSB.out.later hb6)
      have i0 := HI6.out.cell 0; have i1 := HI6.out.cell 1; have i2 := HI6.out.cell 2; have i3 := HI6.out.cell 3; have i4 := HI6.out.cell 4; have i5 := HI6.out.cell 5; have i6 := HI6.out.cell 6; have i7 := HI6.out.cell 7; have i8 := HI6.out.cell 8
      simp only [List.getElem?_toArray, List.getElem?_cons_zero, List.getElem?_cons_succ] at i0 i1 i2 i3 i4 i5 i6 i7 i8
      clear hb6 HPB HI4B HBB
      go_wp2_with fail
      clear i0 i1 i2 i3 i4 i5 i6 i7 i8
      refine (addState_any w6 base gb G L HP6.out.b HP6.out.base_le s' (HS6.out.mono (Nat.le_trans HP0.out.base_le (Nat.le_refl _))) (fun t ht b hb hsb => by have h1 := HP0.out.lt8.2.2 t ht b hb; have h2 := (own_ge HS6.out.body hsb).1; omega)).mono ?_
      rintro e w7 ⟨⟨rv, rfl⟩, G7, L7, a1, a2, a3⟩
      have H7 := Lib.hid (And.intro a1 (And.intro a2 a3))
      clear a1 a2 a3
      go_wp2_with fail
      go_ret
      refine ⟨rfl, f, N, v, xs, G7, L7, ⟨⟨HP6.out.p.bag HP6.out.b H7.out.2.1, H7.out.1, ?_, HP6.out.hgb⟩, (Kept.of_new HB6.out (fun b => PairF bm gd v b ∨ BagF gb G b)).trans H7.out.2.1 (fun b _ e => .inr e), fun b hb => .inl hb, ?_, fun j hj => (H7.out.2.2.oth j hj).1⟩⟩
      · intro s hs b hb
        rcases H7.out.2.2.self with e | e
        · rw [e] at hs
          exact HP6.out.dj s hs b hb
        · rw [e] at hs
          rcases List.mem_append.1 hs with hs | hs
          · exact HP6.out.dj s hs b hb
          · rw [List.mem_singleton] at hs
            subst hs
            have h2 : w.heap.size ≤ b := (own_ge HS6.out.body hb).1
            exact ⟨fun k x hx e => by have := HP0.out.lt8.1 k x hx b e; omega, fun x hx e => by have := HP0.out.lt8.2.1 x hx b e; omega⟩
      · refine (Added.up (n0 := w.heap.size) H7.out.2.2 ?_).widen HB6.out.size
        intro b hb
        exact (own_ge HS6.out.body hb).1
set_option maxRecDepth 100000 in
set_option maxHeartbeats 16000000 in
theorem one_when (base : Nat) (w : World) (g bm : Nat) (most : Int) (f : Ky3 → Option OneE) (N gd : Nat) (v : Value) (xs : List OneE) (gb : Nat) (G : Nat → Sl) (L : Nat → List Sl) (h : PB base w g bm most f N gd v xs gb G L) (o : OpS) (ho : o.ok w) (hs : o.s.n ≤ 1099511627776) (hob : 0 < o.s.n → ∀ ad, o.s.A = some ad → ad.block < base) (hc : o.do_ % 6 = 5) :
    Calls Tryz.prog 8 #[.pointer (some ⟨g, 0, none⟩), .pointer (some ⟨gd, 0, none⟩), o.v, .pointer (some ⟨gb, 0, none⟩)] w fun e w' => OneP base w w' g bm most f N gd v xs gb G L e := by
  obtain ⟨odo, onow, ⟨⟨oage, oopts, k1, k2, k3, oseq, osum, olen⟩, oA, on, oc, oB⟩⟩ := o
  have hd := ho.do_
  have hno := ho.now
  simp only at hd hno hs hob hc
  have hb1 : Below w.heap.size w (w.alloc (.cells #[.int .u8 odo, .int .i64 onow, .int .u16 oage, .int .u8 oopts, .int .u8 k1, .int .u32 k2, .int .u32 k3, .int .i32 oseq, .int .u16 osum, .int .u16 olen, .slice oA on oc] 63)) := (Below.refl _ _).alloc (Nat.le_refl _) _
  have HOb : Hid (Blk (w.alloc (.cells #[.int .u8 odo, .int .i64 onow, .int .u16 oage, .int .u8 oopts, .int .u8 k1, .int .u32 k2, .int .u32 k3, .int .i32 oseq, .int .u16 osum, .int .u16 olen, .slice oA on oc] 63)) w.heap.size 63 #[.int .u8 odo, .int .i64 onow, .int .u16 oage, .int .u8 oopts, .int .u8 k1, .int .u32 k2, .int .u32 k3, .int .i32 oseq, .int .u16 osum, .int .u16 olen, .slice oA on oc]) := Lib.hid (Blk.new _ _ _)
  have HP0 := Lib.hid h
  have HP := Lib.hid (h.later hb1)
  have HX := Lib.hid ((show SE.rd w (⟨⟨oage, oopts, k1, k2, k3, oseq, osum, olen⟩, oA, on, oc, oB⟩ : SE) from ⟨ho.s.head, ho.s.body, ho.s.oct, ho.s.cap, hs⟩).later hb1)
  have HB1 := Lib.hid hb1
  have c0 := HOb.out.cell 0; have c2 := HOb.out.cell 2; have c3 := HOb.out.cell 3; have c4 := HOb.out.cell 4; have c5 := HOb.out.cell 5; have c6 := HOb.out.cell 6; have c7 := HOb.out.cell 7; have c8 := HOb.out.cell 8; have c9 := HOb.out.cell 9
  simp only [List.getElem?_toArray, List.getElem?_cons_zero, List.getElem?_cons_succ] at c0 c2 c3 c4 c5 c6 c7 c8 c9
  have hw : IntKind.u8.wrap (odo % 6) = odo % 6 := by simp [IntKind.wrap, IntKind.bits, IntKind.signed]; omega
  have htm : odo.tmod 6 = odo % 6 := Int.tmod_eq_emod_of_nonneg hd.1
  clear h ho hb1
  show Calls Tryz.prog 8 #[.pointer (some ⟨g, 0, none⟩), .pointer (some ⟨gd, 0, none⟩), .agg #[.int .u8 odo, .int .i64 onow, .int .u16 oage, .int .u8 oopts, .int .u8 k1, .int .u32 k2, .int .u32 k3, .int .i32 oseq, .int .u16 osum, .int .u16 olen, .slice oA on oc], .pointer (some ⟨gb, 0, none⟩)] w fun e w' => OneP base w w' g bm most f N gd v xs gb G L e
  go_enter Tryz.func8, Tryz.ntmps8
  go_wp2_with fail
  clear c0 c2 c3 c4 c5 c6 c7 c8 c9
  generalize w.alloc (.cells #[.int .u8 odo, .int .i64 onow, .int .u16 oage, .int .u8 oopts, .int .u8 k1, .int .u32 k2, .int .u32 k3, .int .i32 oseq, .int .u16 osum, .int .u16 olen, .slice oA on oc] 63) = w1 at *
  refine (rkey_hd ⟨oage, oopts, k1, k2, k3, oseq, osum, olen⟩ w1).mono ?_
  rintro e w2 ⟨rfl, hb2⟩
  have HP2 := Lib.hid (HP.out.later hb2)
  have HX2 := Lib.hid (HX.out.later hb2)
  have HOb2 := Lib.hid (HOb.out.later hb2)
  have HB2 := Lib.hid (below_then HB1.out hb2)
  clear hb2 HP HX HOb HB1
  have hb3 : Below w2.heap.size w2 (w2.alloc (.cells #[.int .u8 k1, .int .u32 k2, .int .u32 k3] 68)) := (Below.refl _ _).alloc (Nat.le_refl _) _
  have HK3 : Hid (Blk (w2.alloc (.cells #[.int .u8 k1, .int .u32 k2, .int .u32 k3] 68)) w2.heap.size 68 #[.int .u8 k1, .int .u32 k2, .int .u32 k3]) := Lib.hid (Blk.new _ _ _)
  have HP3 := Lib.hid (HP2.out.later hb3)
  have HX3 := Lib.hid (HX2.out.later hb3)
  have HO3 := Lib.hid (HOb2.out.later hb3)
  have HB3 := Lib.hid (below_then HB2.out hb3)
  clear hb3 HP2 HX2 HOb2
  have c0 := HO3.out.cell 0; have c1 := HO3.out.cell 1; have c2 := HO3.out.cell 2; have c3 := HO3.out.cell 3; have c4 := HO3.out.cell 4; have c5 := HO3.out.cell 5; have c6 := HO3.out.cell 6; have c7 := HO3.out.cell 7; have c8 := HO3.out.cell 8; have c9 := HO3.out.cell 9; have c10 := HO3.out.cell 10
  have b0 := HK3.out.cell 0; have b1 := HK3.out.cell 1; have b2 := HK3.out.cell 2
  simp only [List.getElem?_toArray, List.getElem?_cons_zero, List.getElem?_cons_succ] at c0 c1 c2 c3 c4 c5 c6 c7 c8 c9 c10 b0 b1 b2
  go_wp2_with fail
  clear c0 c1 c2 c3 c4 c5 c6 c7 c8 c9 c10 b0 b1 b2 hw htm HX3 HO3
  generalize w2.alloc (.cells #[.int .u8 k1, .int .u32 k2, .int .u32 k3] 68) = w3 at *
  generalize w2.heap.size = gk at *
  clear HB2
  refine (stwhen_any w3 g bm most f N HP3.out.p.q (k1, k2, k3)).mono ?_
  rintro e w4 ⟨rfl, hb4⟩
  have HP4 := Lib.hid (HP3.out.later hb4)
  have HK4 := Lib.hid (HK3.out.later hb4)
  have HB4 := Lib.hid (below_then HB3.out hb4)
  clear hb4 HP3 HK3 HB3
  have b0 := HK4.out.cell 0; have b1 := HK4.out.cell 1; have b2 := HK4.out.cell 2
  simp only [List.getElem?_toArray, List.getElem?_cons_zero, List.getElem?_cons_succ] at b0 b1 b2
  obtain ⟨z1, hz1⟩ : ∃ z, ((f (k1, k2, k3)).getD zOne).at_ = z := ⟨_, rfl⟩
  obtain ⟨t1, ht1⟩ : ∃ t, (f (k1, k2, k3)).isSome = t := ⟨_, rfl⟩
  rw [hz1, ht1]
  have HZ := Lib.hid (And.intro hz1 ht1)
  clear hz1 ht1
  go_wp2_with fail
  clear b0 b1 b2
  refine (when11 base w4 gd v most xs HP4.out.p.r (k1, k2, k3)).mono ?_
  rintro e w5 ⟨⟨z2, t2, rfl, hw2⟩, hb5⟩
  have HP5 := Lib.hid (HP4.out.later hb5)
  have HB5 := Lib.hid (below_then HB4.out hb5)
  have hsm : z1 = z2 ∧ t1 = t2 := by
    rcases hw2 with ⟨x, hx, rfl, rfl⟩ | ⟨hx, rfl, rfl⟩
    · obtain ⟨z, hz, _, _, h3⟩ := HP4.out.p.l.some_ hx
      have h := HZ.out
      rw [hz] at h
      exact ⟨h.1.symm.trans h3, h.2.symm⟩
    · have hz := HP4.out.p.l.none_ hx
      have h := HZ.out
      rw [hz] at h
      exact ⟨h.1.symm, h.2.symm⟩
  obtain ⟨rfl, rfl⟩ := hsm
  clear hb5 hw2 HP4 HB4 HZ HK4
  go_wp2_with fail
  go_ret
  exact HP0.out.same HB5.out
end Go.Proofs.YtpncbggjngamgaaGreatDoor
namespace Go.Proofs.YtpncbggjngamgaaGreatDoor
set_option linter.unusedVariables false
open Go.RowKit

/-- What there is at a time: nothing below nought. -/
def fT (now : Int) (f : Ky3 → Option OneE) : Ky3 → Option OneE := if now < 0 then fun _ => none else f
def xT (now : Int) (xs : List OneE) : List OneE := if now < 0 then [] else xs
section
variable {base : Nat} {w : World} {g bm : Nat} {most : Int} {f : Ky3 → Option OneE} {N gd : Nat} {v : Value} {xs : List OneE}
theorem PairS.lT (h : PairS base w g bm most f N gd v xs) (now : Int) : Link (fT now f) (xT now xs) := by
  unfold fT xT
  split
  · exact link_nil
  · exact h.l
theorem PairS.lenT (h : PairS base w g bm most f N gd v xs) (now : Int) : (xT now xs).length ≤ 1048576 := by
  have := h.n
  have := h.lim
  unfold xT
  split
  · simp
  · omega
theorem PairS.each (h : PairS base w g bm most f N gd v xs) {now : Int} (hn : now ≤ 9223372036854775807) : EachAt (.pointer (some ⟨g, 0, none⟩)) now (fT now f) (xT now xs).length w := by
  have h1 := h.n
  have h2 := h.lim
  unfold fT xT
  by_cases hneg : now < 0
  · rw [if_pos hneg, if_pos hneg]
    exact eachAt_neg h.q hneg
  · rw [if_neg hneg, if_neg hneg, ← h1]
    exact eachAt_of h.q ⟨by omega, hn⟩ (by omega)
theorem PairS.all_p (h : PairS base w g bm most f N gd v xs) {now : Int} (hn : now ≤ 9223372036854775807) :
    Calls Tryz.prog 29 #[.pointer (some ⟨g, 0, none⟩), .int .i64 now] w fun e w' => ∃ A c, e = .returned (.slice A (xT now xs).length c) ∧ ∃ ss, ss.map SE.h = (xT now xs).map (fun x => x.headAt now) ∧ ss.map SE.B = (xT now xs).map (fun x => x.s.B) ∧ YsOk w.heap.size ss w' ∧ w'.ownsRow w.heap.size 61 9 (.slice A (xT now xs).length c) (xT now xs).length (ss.flatMap stL) ∧ Below w.heap.size w w' := by
  refine (stall_any _ now _ _ w (h.each hn) (h.lenT now)).mono ?_
  rintro e w' ⟨v1, rfl, ks, hks, ss, h1, h2, h3, h4, h5⟩
  obtain ⟨A, c, rfl, -⟩ := own_shape_n h4
  have hk := ks_unique (h.lT now).ks hks
  rw [hk] at h1 h2
  rw [(h.lT now).heads now] at h1
  rw [(h.lT now).bodies] at h2
  exact ⟨A, c, rfl, ss, h1, h2, h3, h4, h5⟩
theorem PairS.heads_p (h : PairS base w g bm most f N gd v xs) {now : Int} (hn : now ≤ 9223372036854775807) :
    Calls Tryz.prog 30 #[.pointer (some ⟨g, 0, none⟩), .int .i64 now] w fun e w' => ∃ A c, e = .returned (.slice A (xT now xs).length c) ∧ w'.ownsRow w.heap.size 58 8 (.slice A (xT now xs).length c) (xT now xs).length (((xT now xs).map (fun x => x.headAt now)).flatMap Hd.cells) ∧ Below w.heap.size w w' := by
  refine (stheads_any _ now _ _ w (h.each hn) (h.lenT now)).mono ?_
  rintro e w' ⟨v1, ks, rfl, hks, h4, h5⟩
  obtain ⟨A, c, rfl, -⟩ := own_shape_n h4
  rw [ks_unique (h.lT now).ks hks, (h.lT now).heads now] at h4
  exact ⟨A, c, rfl, h4, h5⟩
theorem PairS.due_p (h : PairS base w g bm most f N gd v xs) {now : Int} (hn : now ≤ 9223372036854775807) :
    Calls Tryz.prog 16 #[.pointer (some ⟨g, 0, none⟩), .int .i64 now] w fun e w' => ∃ A c, e = .returned (.slice A (dueL (xT now xs) now).length c) ∧ w'.ownsRow w.heap.size 68 3 (.slice A (dueL (xT now xs) now).length c) (dueL (xT now xs) now).length ((dueL (xT now xs) now).flatMap keyC) ∧ Below w.heap.size w w' := by
  refine (stdue_any _ now _ _ w (h.each hn) (h.lenT now)).mono ?_
  rintro e w' ⟨v1, rfl, ks, hks, h4, h5⟩
  rw [ks_unique (h.lT now).ks hks, (h.lT now).due now] at h4
  obtain ⟨A, c, rfl, -⟩ := own_shape_n h4
  exact ⟨A, c, rfl, h4, h5⟩
theorem PairS.next_p (h : PairS base w g bm most f N gd v xs) {now : Int} (hn : now ≤ 9223372036854775807) :
    Calls Tryz.prog 15 #[.pointer (some ⟨g, 0, none⟩), .int .i64 now] w fun e w' => e = .returned (.tuple #[.int .i64 (nxB (nextL (xT now xs) now)), .bool (nextL (xT now xs) now).isSome]) ∧ Below w.heap.size w w' := by
  refine (stnext_any _ now _ _ w (h.each hn) (h.lenT now) fun k x hk => ?_).mono ?_
  · have h1 := h.n
    unfold fT xT at *
    by_cases hneg : now < 0
    · rw [if_pos hneg] at hk; cases hk
    · rw [if_neg hneg, if_neg hneg, ← h1]
      exact ⟨g, bm, most, rfl, h.q⟩
  · rintro e w' ⟨ks, hks, rfl, hb⟩
    rw [ks_unique (h.lT now).ks hks, (h.lT now).next now]
    exact ⟨rfl, hb⟩
theorem PairS.all_r (h : PairS base w g bm most f N gd v xs) {now : Int} (hn : now ≤ 9223372036854775807) :
    Calls Tryz.prog 33 #[.pointer (some ⟨gd, 0, none⟩), .int .i64 now] w fun e w' => ∃ A c, e = .returned (.slice A (xT now xs).length c) ∧ ∃ ss, Sts w' A (xT now xs).length c ss ∧ ss.map SE.h = (xT now xs).map (fun x => x.headAt now) ∧ ss.map SE.B = (xT now xs).map (fun x => x.s.B) ∧ Below w.heap.size w w' := by
  have h1 := h.n
  have h2 := h.lim
  unfold xT
  by_cases hneg : now < 0
  · rw [if_pos hneg]
    refine (all11_neg base w gd v most xs h.r now hneg).mono ?_
    rintro e w' ⟨rfl, rfl⟩
    exact ⟨none, 0, rfl, [], ⟨⟨rfl, fun h => absurd h (by simp)⟩, rfl, ⟨by simp, by simp⟩, by simp⟩, rfl, rfl, Below.refl _ _⟩
  · rw [if_neg hneg]
    exact all11 base w gd v most xs h.r now ⟨by omega, hn⟩ (by omega)
theorem PairS.heads_r (h : PairS base w g bm most f N gd v xs) {now : Int} (hn : now ≤ 9223372036854775807) :
    Calls Tryz.prog 35 #[.pointer (some ⟨gd, 0, none⟩), .int .i64 now] w fun e w' => ∃ A c, e = .returned (.slice A (xT now xs).length c) ∧ Hdl w' A (xT now xs).length c ((xT now xs).map fun x => x.headAt now) ∧ Below w.heap.size w w' := by
  have h1 := h.n
  have h2 := h.lim
  unfold xT
  by_cases hneg : now < 0
  · rw [if_pos hneg]
    refine (heads11_neg base w gd v most xs h.r now hneg).mono ?_
    rintro e w' ⟨rfl, rfl⟩
    exact ⟨none, 0, rfl, ⟨⟨rfl, fun h => absurd h (by simp)⟩, rfl, ⟨by simp, by simp⟩⟩, Below.refl _ _⟩
  · rw [if_neg hneg]
    exact heads11 base w gd v most xs h.r now ⟨by omega, hn⟩ (by omega)
theorem PairS.due_r (h : PairS base w g bm most f N gd v xs) {now : Int} (hn : now ≤ 9223372036854775807) :
    Calls Tryz.prog 37 #[.pointer (some ⟨gd, 0, none⟩), .int .i64 now] w fun e w' => ∃ A n c, e = .returned (.slice A n c) ∧ Kyl w' A n c (dueL (xT now xs) now) ∧ Below w.heap.size w w' := by
  have h1 := h.n
  have h2 := h.lim
  unfold xT
  by_cases hneg : now < 0
  · rw [if_pos hneg]
    refine (due11_neg base w gd v most xs h.r now hneg).mono ?_
    rintro e w' ⟨rfl, rfl⟩
    exact ⟨none, 0, 0, rfl, ⟨⟨rfl, fun h => absurd h (by simp)⟩, rfl, ⟨by simp, by simp⟩⟩, Below.refl _ _⟩
  · rw [if_neg hneg]
    exact due11 base w gd v most xs h.r now ⟨by omega, hn⟩ (by omega)
theorem PairS.next_r (h : PairS base w g bm most f N gd v xs) {now : Int} (hn : now ≤ 9223372036854775807) :
    Calls Tryz.prog 31 #[.pointer (some ⟨gd, 0, none⟩), .int .i64 now] w fun e w' => e = .returned (.tuple #[.int .i64 (nxB (nextL (xT now xs) now)), .bool (nextL (xT now xs) now).isSome]) ∧ Below w.heap.size w w' := by
  have h1 := h.n
  have h2 := h.lim
  unfold xT
  by_cases hneg : now < 0
  · rw [if_pos hneg]
    refine (next11_neg base w gd v most xs h.r now hneg).mono ?_
    rintro e w' ⟨rfl, rfl⟩
    exact ⟨rfl, Below.refl _ _⟩
  · rw [if_neg hneg]
    exact next11 base w gd v most xs h.r now ⟨by omega, hn⟩ (by omega)
end
theorem hd_one' (hs : List Hd) : ∀ u ∈ hs.flatMap Hd.cells, u.oneCell' = true := flatG_one hd_one hs
/-- What like leaves: only the bag is written. -/
def LikeP (base : Nat) (w w' : World) (gb : Nat) (G : Nat → Sl) (L : Nat → List Sl) (e : Ending) : Prop :=
  e = .returned (.bool true) ∧ ∃ G' L', BagN w' base gb G' L' ∧ Kept (BagF gb G) w w' ∧ BagUp w.heap.size w.heap.size G G' L L' ∧ ∀ j, j ≠ 0 → j ≠ 7 → j ≠ 8 → j ≠ 14 → G' j = G j
set_option maxRecDepth 100000 in
set_option maxHeartbeats 8000000 in
theorem like_any (base : Nat) (w : World) (g bm : Nat) (most : Int) (f : Ky3 → Option OneE) (N gd : Nat) (v : Value) (xs : List OneE) (gb : Nat) (G : Nat → Sl) (L : Nat → List Sl) (h : PairS base w g bm most f N gd v xs) (hb : BagN w base gb G L) (hbs : base ≤ w.heap.size) (now : Int) (hn : now ≤ 9223372036854775807) :
    Calls Tryz.prog 11 #[.pointer (some ⟨g, 0, none⟩), .pointer (some ⟨gd, 0, none⟩), .int .i64 now, .pointer (some ⟨gb, 0, none⟩)] w fun e w' => LikeP base w w' gb G L e := by
  have HP := Lib.hid h
  have HB := Lib.hid hb
  have hM : (xT now xs).length ≤ 4096 := by
    have := h.n
    have := h.lim
    unfold xT
    split
    · simp
    · omega
  have hDl : (dueL (xT now xs) now).length ≤ 4096 := by
    unfold dueL
    rw [List.length_map]
    exact Nat.le_trans (List.length_filter_le _ _) hM
  have HN := Lib.hid h.n
  clear h hb
  go_enter Tryz.func11, Tryz.ntmps11
  go_wp2_with fail
  refine (HP.out.all_p hn).mono ?_
  rintro e w1 ⟨A1, c1, rfl, ss, h1, h2, h3, h4, hb1⟩
  have HA := Lib.hid (And.intro h1 (And.intro h2 (And.intro h3 h4)))
  have HP1 := Lib.hid (HP.out.later hb1)
  have HB1 := Lib.hid hb1
  clear h1 h2 h3 h4 hb1
  go_wp2_with fail
  refine (HP1.out.heads_p hn).mono ?_
  rintro e w2 ⟨A2, c2, rfl, h1, hb2⟩
  have HH := Lib.hid h1
  have HP2 := Lib.hid (HP1.out.later hb2)
  have HB12 := Lib.hid hb2
  have HB2 := Lib.hid (below_then HB1.out hb2)
  clear h1 hb2
  go_wp2_with fail
  refine (HP2.out.due_p hn).mono ?_
  rintro e w3 ⟨A3, c3, rfl, h1, hb3⟩
  have HD := Lib.hid h1
  have HP3 := Lib.hid (HP2.out.later hb3)
  have HB13 := Lib.hid (below_then HB12.out hb3)
  have HB23 := Lib.hid hb3
  have HB3 := Lib.hid (below_then HB2.out hb3)
  clear h1 hb3
  go_wp2_with fail
  refine (HP3.out.next_p hn).mono ?_
  rintro e w4 ⟨rfl, hb4⟩
  have HP4 := Lib.hid (HP3.out.later hb4)
  have HB34 := Lib.hid hb4
  clear hb4
  obtain ⟨nx, hnx⟩ : ∃ nx, nxB (nextL (xT now xs) now) = nx := ⟨_, rfl⟩
  obtain ⟨nb, hnb⟩ : ∃ nb, (nextL (xT now xs) now).isSome = nb := ⟨_, rfl⟩
  have HX := Lib.hid (And.intro hnx hnb)
  rw [hnx, hnb]
  clear hnx hnb
  go_wp2_with fail
  refine (HP4.out.next_r hn).mono ?_
  rintro e w5 ⟨rfl, hb5⟩
  have HP5 := Lib.hid (HP4.out.later hb5)
  have HB35 := Lib.hid (below_then HB34.out hb5)
  clear hb5
  rw [HX.out.1, HX.out.2]
  clear HP4 HB34
  go_wp2_with fail
  refine (stlen_any w5 g bm most f N HP5.out.q).mono ?_
  rintro e w' ⟨rfl, rfl⟩
  go_wp2_with fail
  refine (rlen11 base w5 gd v most xs HP5.out.r).mono ?_
  rintro e w' ⟨rfl, rfl⟩
  rw [← HN.out]
  go_wp2_with fail
  refine (HP5.out.all_r hn).mono ?_
  rintro e w6 ⟨A6, c6, rfl, ts, k1, k2, k3, hb6⟩
  have HT := Lib.hid (And.intro k1 (And.intro k2 k3))
  have HP6 := Lib.hid (HP5.out.later hb6)
  have HB36 := Lib.hid (below_then HB35.out hb6)
  clear k1 k2 k3 hb6 HP5 HB35
  have hB16 := below_then HB13.out HB36.out
  have hsts : Sts w6 A1 (xT now xs).length c1 ss := by
    obtain ⟨A, c, e, q1, q2, q3⟩ := own_shape_n HA.out.2.2.2
    injection e with e1 _ e2
    subst e1 e2
    exact (⟨q3, by have := congrArg List.length HA.out.1; simpa using this, ⟨q1, q2⟩, fun s hs => (HA.out.2.2.1.own s hs).rd⟩ : Sts w1 A1 (xT now xs).length c1 ss).later hB16
  have HSt := Lib.hid hsts
  clear hsts hB16
  go_wp2_with fail
  refine (eqStates_any A1 A6 (xT now xs).length c1 (xT now xs).length c6 ss ts w6 HSt.out HT.out.1 (by rw [HA.out.1, HT.out.2.1]) (by rw [HA.out.2.1, HT.out.2.2])).mono ?_
  rintro e w7 ⟨rfl, hb7⟩
  have HP7 := Lib.hid (HP6.out.later hb7)
  have HB37 := Lib.hid (below_then HB36.out hb7)
  clear hb7 HP6 HB36 HSt HT
  go_wp2_with fail
  refine (HP7.out.heads_r hn).mono ?_
  rintro e w8 ⟨A8, c8, rfl, k1, hb8⟩
  have HT := Lib.hid k1
  have HP8 := Lib.hid (HP7.out.later hb8)
  have HB38 := Lib.hid (below_then HB37.out hb8)
  clear k1 hb8 HP7 HB37
  have hhd : Hdl w8 A2 (xT now xs).length c2 ((xT now xs).map fun x => x.headAt now) := by
    obtain ⟨A, c, e, q1, q2, q3⟩ := own_shape_n HH.out
    injection e with e1 _ e2
    subst e1 e2
    exact (⟨q3, by rw [List.length_map], ⟨q1, q2⟩⟩ : Hdl w2 A2 (xT now xs).length c2 _).later (below_then HB23.out HB38.out)
  have HHd := Lib.hid hhd
  clear hhd
  go_wp2_with fail
  refine (eqHeads_any A2 A8 (xT now xs).length c2 (xT now xs).length c8 _ _ w8 HHd.out HT.out rfl).mono ?_
  rintro e w9 ⟨rfl, hb9⟩
  have HP9 := Lib.hid (HP8.out.later hb9)
  have HB39 := Lib.hid (below_then HB38.out hb9)
  clear hb9 HP8 HB38 HHd HT
  go_wp2_with fail
  refine (HP9.out.due_r hn).mono ?_
  rintro e w10 ⟨A10, n10, c10, rfl, k1, hb10⟩
  have HT := Lib.hid k1
  have HP10 := Lib.hid (HP9.out.later hb10)
  have HB310 := Lib.hid (below_then HB39.out hb10)
  clear k1 hb10 HP9 HB39
  have hkd : Kyl w10 A3 (dueL (xT now xs) now).length c3 (dueL (xT now xs) now) := by
    obtain ⟨A, c, e, q1, q2, q3⟩ := own_shape_n HD.out
    injection e with e1 _ e2
    subst e1 e2
    exact (⟨q3, rfl, ⟨q1, q2⟩⟩ : Kyl w3 A3 (dueL (xT now xs) now).length c3 _).later HB310.out
  have HKd := Lib.hid hkd
  clear hkd
  go_wp2_with fail
  refine (eqKeys_any A3 A10 _ c3 n10 c10 _ _ w10 HKd.out HT.out).mono ?_
  rintro e w11 ⟨rfl, hb11⟩
  have HB311 := Lib.hid (below_then HB310.out hb11)
  clear hb11 HP10 HB310 HKd HT
  rw [decide_eq_true (rfl : dueL (xT now xs) now = dueL (xT now xs) now)]
  have hB111 := below_then HB13.out HB311.out
  have hB11 := below_then HB1.out hB111
  have hB211 := below_then HB23.out HB311.out
  have HBg := Lib.hid (HB.out.later hB11)
  have HSr := Lib.hid (own_kept HA.out.2.2.2 (Kept.of_new hB111 (fun _ => False)) (fun _ _ h => h))
  have HSo : Hid (∀ x ∈ ss, x.ok w.heap.size w11) := Lib.hid fun x hx => (HA.out.2.2.1.own x hx).later hB111
  have HHr := Lib.hid (own_mono (own_kept HH.out (Kept.of_new hB211 (fun _ => False)) (fun _ _ h => h)) HB1.out.size)
  have HKr := Lib.hid (own_mono (own_kept HD.out (Kept.of_new HB311.out (fun _ => False)) (fun _ _ h => h)) HB2.out.size)
  have HSp : Hid (ss.Pairwise fun a b => ∀ p, a.b.ownBlock = some p → b.b.ownBlock ≠ some p) := Lib.hid (by
    refine HA.out.2.2.1.sep.imp ?_
    intro a b hab p ha hbp
    obtain ⟨ah, aA, an, ac, aB⟩ := a
    obtain ⟨bh, bA, bn, bc, bB⟩ := b
    cases aA with
    | none => simp [SE.b, Value.ownBlock] at ha
    | some x =>
      cases bA with
      | none => simp [SE.b, Value.ownBlock] at hbp
      | some y =>
        simp only [SE.b, Value.ownBlock, Option.some.injEq] at ha hbp
        exact hab x y rfl rfl (ha.trans hbp.symm))
  have HBL := Lib.hid hB11
  have hssl : Hid (ss.length = (xT now xs).length) := Lib.hid (by have := congrArg List.length HA.out.1; simpa using this)
  have HLt : Hid (∀ j, j < 19 → ∀ t ∈ L j, ∀ b, t.v.ownBlock = some b → b < w.heap.size) := Lib.hid fun j hj t ht b hbb => by
    obtain ⟨ys, hy⟩ := HB.out.has j hj t ht
    exact (own_ge hy hbb).2
  have hsz11 : w.heap.size ≤ w11.heap.size := hB11.size
  clear hB111 hB11 hB211 HA HH HD HP1 HP2 HP3 HB12 HB13 HB23 HB1 HB2 HB3 HB311
  go_wp2_with fail
  refine (addStates_any w11 base gb w.heap.size G L HBg.out (Nat.le_trans hbs hsz11) hsz11 A1 (xT now xs).length c1 ss hM hssl.out HSr.out hbs HSo.out HSp.out (HLt.out 0 (by decide)) (HLt.out 14 (by decide))).mono ?_
  rintro e w12 ⟨⟨rv, rfl⟩, G2, L2, a1, a2, a3, a4⟩
  have H12 := Lib.hid (And.intro a1 (And.intro a2 (And.intro a3 a4)))
  have HHr2 := Lib.hid (own_kept HHr.out a2 (HBg.out.not_own HHr.out (by decide) (fun j hj => bel_bty 7 j (by decide) hj)))
  have HKr2 := Lib.hid (own_kept HKr.out a2 (HBg.out.not_own HKr.out (by decide) (fun j hj => bel_bty 8 j (by decide) hj)))
  have hsz12 : w11.heap.size ≤ w12.heap.size := a2.size
  clear a1 a2 a3 a4 HSr HSo HSp hssl HHr HKr
  go_wp2_with fail
  refine (addHeads_any w12 base gb G2 L2 H12.out.1 (by omega) ⟨A2, (xT now xs).length, c2⟩ _ (own_mono HHr2.out hbs) (by show (xT now xs).length ≤ _; omega) (fun s hs b hb1 hb2 => by
    rw [(H12.out.2.2.2 7 (by decide) (by decide)).2] at hs
    have := HLt.out 7 (by decide) s hs b hb1
    have := (own_ge HHr2.out hb2).1
    omega)).mono ?_
  rintro e w13 ⟨⟨rv, rfl⟩, G3, L3, a1, a2, a3⟩
  have H13 := Lib.hid (And.intro a1 (And.intro a2 a3))
  have HKr3 := Lib.hid (own_kept HKr2.out a2 (H12.out.1.not_own HKr2.out (by decide) (fun j hj => bel_bty 8 j (by decide) hj)))
  have HHn : Hid (∀ b, (⟨A2, (xT now xs).length, c2⟩ : Sl).v.ownBlock = some b → w.heap.size ≤ b) := Lib.hid fun b hb => (own_ge HHr2.out hb).1
  have hsz13 : w12.heap.size ≤ w13.heap.size := a2.size
  clear a1 a2 a3 HHr2 HKr2
  go_wp2_with fail
  refine (addKeys_any w13 base gb G3 L3 H13.out.1 (by omega) ⟨A3, (dueL (xT now xs) now).length, c3⟩ _ (own_mono HKr3.out hbs) (by show (dueL (xT now xs) now).length ≤ _; omega) (fun s hs b hb1 hb2 => by
    rw [(H13.out.2.2.oth 8 (by decide)).2, (H12.out.2.2.2 8 (by decide) (by decide)).2] at hs
    have := HLt.out 8 (by decide) s hs b hb1
    have := (own_ge HKr3.out hb2).1
    omega)).mono ?_
  rintro e w14 ⟨⟨rv, rfl⟩, G4, L4, a1, a2, a3⟩
  have H14 := Lib.hid (And.intro a1 (And.intro a2 a3))
  have HKn : Hid (∀ b, (⟨A3, (dueL (xT now xs) now).length, c3⟩ : Sl).v.ownBlock = some b → w.heap.size ≤ b) := Lib.hid fun b hb => (own_ge HKr3.out hb).1
  clear a1 a2 a3 HKr3
  go_wp2_with fail
  go_ret
  have u1 := H12.out.2.2.1
  have u2 := Added.up (n0 := w.heap.size) H13.out.2.2 HHn.out
  have u3 := Added.up (n0 := w.heap.size) H14.out.2.2 HKn.out
  have u12 := u1.trans u2 (Nat.le_refl _) hsz12
  have u123 := u12.trans u3 (Nat.le_refl _) (Nat.le_trans hsz12 hsz13)
  refine ⟨rfl, G4, L4, H14.out.1, ?_, u123.widen hsz11, fun j h0 h7 h8 h14 => ((H14.out.2.2.oth j h8).1).trans (((H13.out.2.2.oth j h7).1).trans (H12.out.2.2.2 j h0 h14).1)⟩
  exact (Kept.of_new HBL.out (BagF gb G)).trans ((H12.out.2.1.trans H13.out.2.1 (fun b hb hF => hF.back u1 hb)).trans H14.out.2.1 (fun b hb hF => hF.back u12 hb)) (fun _ _ h => h)
end Go.Proofs.YtpncbggjngamgaaGreatDoor
namespace Go.Proofs.YtpncbggjngamgaaGreatDoor
set_option linter.unusedVariables false
open Go.RowKit

theorem el_op : El Tryz.prog 22 63 11 64 := El.mk' Tryz.underlying22 (z := .agg #[.int .u8 0, .int .i64 0, .int .u16 0, .int .u8 0, .int .u8 0, .int .u32 0, .int .u32 0, .int .i32 0, .int .u16 0, .int .u16 0, .slice none 0 0]) (by kernel_rfl) rfl (by omega)
theorem ops_one (o : OpS) : ∀ u ∈ o.cells, u.oneCell' = true := by intro u hu; simp [OpS.cells, SE.cells] at hu; rcases hu with rfl | rfl | rfl | rfl | rfl | rfl | rfl | rfl | rfl | rfl | rfl <;> rfl
theorem Opl.rev {w : World} {A B : Option Addr} {n c : Nat} {L : List OpS} {base : Nat} (h : Opl w A n L) (ho : w.ownsRow base 63 11 (.slice B n c) n (L.reverse.flatMap OpS.cells)) : Opl w B n L.reverse := by
  obtain ⟨B', c', e, h1, h2, h3⟩ := own_shape_n ho
  injection e with e1 e2 e3
  subst e1
  exact ⟨h3, by rw [List.length_reverse]; exact h.len, fun o hm => h.ok o (List.mem_reverse.1 hm)⟩
theorem ask_all {w : World} {g bm N : Nat} {most : Int} {f : Ky3 → Option OneE} (q : StF w g bm most f N) (hN : N ≤ 1048576) {t : Int} (ht : 0 ≤ t ∧ t ≤ 9223372036854775807) :
    Calls Tryz.prog 29 #[.pointer (some ⟨g, 0, none⟩), .int .i64 t] w fun e w' => ∃ A c, e = .returned (.slice A N c) ∧ ∃ ss ks, KsOf f N ks ∧ Sts w' A N c ss ∧ ss.map SE.h = ks.map (hAt f t) ∧ ss.map SE.B = ks.map (bAt f) ∧ Below w.heap.size w w' := by
  refine (stall_any _ t f N w (eachAt_of q ht hN) hN).mono ?_
  rintro e w' ⟨v, rfl, ks, hks, ss, h1, h2, hy, hown, hb⟩
  obtain ⟨A, c, rfl, h3, h4, h5⟩ := own_shape_n hown
  exact ⟨A, c, rfl, ss, ks, hks, ⟨h5, by rw [← List.length_map (f := SE.h), h1, List.length_map, hks.len], ⟨h3, h4⟩, fun s hs => (hy.own s hs).rd⟩, h1, h2, hb⟩
/-- The keys of a law's calls, so far. -/
def ApartTo (L : List OpS) (i : Nat) : Prop := ∀ (m k : Nat) (a b : OpS), m < i → k < m → L[m]? = some a → L[k]? = some b → a.s.key ≠ b.s.key
def NowTo (L : List OpS) (now : Int) (i : Nat) : Prop := ∀ (m : Nat) (o : OpS), m < i → L[m]? = some o → 0 ≤ o.now ∧ o.now ≤ now
end Go.Proofs.YtpncbggjngamgaaGreatDoor
namespace Go.Proofs.YtpncbggjngamgaaGreatDoor
set_option linter.unusedVariables false
open Go.RowKit

theorem may11 (m : Int) (w : World) : Calls Tryz.prog 7 #[.int .i64 m] w fun e w' => e = .returned (.bool (decide (1 ≤ m ∧ m ≤ 4096))) ∧ w = w' := by
  by_cases h1 : 1 ≤ m
  · have d1 : decide (1 ≤ m) = true := decide_eq_true h1
    by_cases h2 : m ≤ 4096
    · have d2 : decide (m ≤ 4096) = true := decide_eq_true h2
      rw [decide_eq_true (And.intro h1 h2)]
      go_enter Tryz.func7, Tryz.ntmps7
      go_wp2
      go_ret
      exact ⟨rfl, rfl⟩
    · have d2 : decide (m ≤ 4096) = false := decide_eq_false h2
      rw [decide_eq_false (fun h : 1 ≤ m ∧ m ≤ 4096 => h2 h.2)]
      go_enter Tryz.func7, Tryz.ntmps7
      go_wp2
      go_ret
      exact ⟨rfl, rfl⟩
  · have d1 : decide (1 ≤ m) = false := decide_eq_false h1
    rw [decide_eq_false (fun h : 1 ≤ m ∧ m ≤ 4096 => h1 h.1)]
    go_enter Tryz.func7, Tryz.ntmps7
    go_wp2
    go_ret
    exact ⟨rfl, rfl⟩
theorem one_any (base : Nat) (w : World) (g bm : Nat) (most : Int) (f : Ky3 → Option OneE) (N gd : Nat) (v : Value) (xs : List OneE) (gb : Nat) (G : Nat → Sl) (L : Nat → List Sl) (h : PB base w g bm most f N gd v xs gb G L) (o : OpS) (ho : o.ok w) (hs : o.s.n ≤ 1099511627776) (hob : 0 < o.s.n → ∀ ad, o.s.A = some ad → ad.block < base) :
    Calls Tryz.prog 8 #[.pointer (some ⟨g, 0, none⟩), .pointer (some ⟨gd, 0, none⟩), .agg #[.int .u8 o.do_, .int .i64 o.now, .int .u16 o.s.h.age, .int .u8 o.s.h.opts, .int .u8 o.s.h.typ, .int .u32 o.s.h.id, .int .u32 o.s.h.adv, .int .i32 o.s.h.seq, .int .u16 o.s.h.sum, .int .u16 o.s.h.len, .slice o.s.A o.s.n o.s.c], .pointer (some ⟨gb, 0, none⟩)] w fun e w' => OneP base w w' g bm most f N gd v xs gb G L e := by
  have hd := ho.do_
  have hc : o.do_ % 6 = 0 ∨ o.do_ % 6 = 1 ∨ o.do_ % 6 = 2 ∨ o.do_ % 6 = 3 ∨ o.do_ % 6 = 4 ∨ o.do_ % 6 = 5 := by omega
  rcases hc with hc | hc | hc | hc | hc | hc
  · exact one_put0 base w g bm most f N gd v xs gb G L h o ho hs hob hc
  · exact one_put1 base w g bm most f N gd v xs gb G L h o ho hs hob hc
  · exact one_put2 base w g bm most f N gd v xs gb G L h o ho hs hob hc
  · exact one_drop base w g bm most f N gd v xs gb G L h o ho hs hob hc
  · exact one_get base w g bm most f N gd v xs gb G L h o ho hs hob hc
  · exact one_when base w g bm most f N gd v xs gb G L h o ho hs hob hc
section
variable {base : Nat} {w w' : World} {g bm : Nat} {most : Int} {f : Ky3 → Option OneE} {N gd : Nat} {v : Value} {xs : List OneE} {gb : Nat} {G : Nat → Sl} {L : Nat → List Sl} {f' : Ky3 → Option OneE} {N' : Nat} {v' : Value} {xs' : List OneE} {G' : Nat → Sl} {L' : Nat → List Sl}
theorem BagF.ge (h : BagN w base gb G L) (hg : base ≤ gb) {b : Nat} (hb : BagF gb G b) : base ≤ b := by
  rcases hb with rfl | ⟨j, hj, hb⟩
  · exact hg
  · exact (own_ge (h.row j hj) hb).1
theorem OneR.below (h0 : PB base w g bm most f N gd v xs gb G L) (h : OneR base w w' g bm most f N gd v xs gb G L f' N' v' xs' G' L') : Below base w w' :=
  h.k.below (fun b hb => by
    rcases hb with (e | e | e) | e
    · rw [e]; exact h0.p.hbm
    · rw [e]; exact h0.p.hgd
    · exact (own_ge h0.p.r.row e).1
    · exact BagF.ge h0.b h0.hgb e) h0.base_le
/-- Another pair of stores stands while these are called. -/
theorem PairS.beside {g2 bm2 : Nat} {most2 : Int} {f2 : Ky3 → Option OneE} {N2 gd2 : Nat} {v2 : Value} {xs2 : List OneE} (p : PairS base w g2 bm2 most2 f2 N2 gd2 v2 xs2) (h0 : PB base w g bm most f N gd v xs gb G L) (k : Kept (fun b => PairF bm gd v b ∨ BagF gb G b) w w')
    (h1 : bm2 ≠ bm) (h2 : gd2 ≠ gd) (h3 : ∀ b, v2.ownBlock = some b → v.ownBlock ≠ some b) : PairS base w' g2 bm2 most2 f2 N2 gd2 v2 xs2 := by
  have u8 : ∀ {s : SE}, s.ok base w → ∀ b, s.b.ownBlock = some b → ¬ (PairF bm gd v b ∨ BagF gb G b) := fun hs b hb e => by
    rcases e with (e | e | e) | e
    · exact own_ne_mapF hs.body h0.p.q.map b hb e
    · exact own_blk_ne hs.body h0.p.r.blk (by decide) (e ▸ hb)
    · exact own_ne hs.body h0.p.r.row (by decide) b hb e
    · exact h0.b.not_own hs.body (by decide) (fun j hj => bel_bty 0 j (by decide) hj) b hb e
  refine p.kept k (fun e => ?_) (fun e => ?_) (fun e => ?_) (fun b hb e => ?_) (fun k x hx => u8 (p.own k x hx)) (fun x hx => u8 (p.r.own x hx).1)
  · rcases e with (e | e | e) | e
    · exact h0.p.q.map.ne_blk p.q.blk e.symm
    · exact blk_ne p.q.blk h0.p.r.blk (by decide) e
    · exact own_blk_ne h0.p.r.row p.q.blk (by decide) e
    · exact h0.b.not_blk p.q.blk (by decide) bty_st e
  · rcases e with (e | e | e) | e
    · exact h1 e
    · exact p.q.map.ne_blk h0.p.r.blk e
    · exact own_ne_mapF h0.p.r.row p.q.map bm2 e rfl
    · exact h0.b.not_map p.q.map e
  · rcases e with (e | e | e) | e
    · exact h0.p.q.map.ne_blk p.r.blk e.symm
    · exact h2 e
    · exact own_blk_ne h0.p.r.row p.r.blk (by decide) e
    · exact h0.b.not_blk p.r.blk (by decide) bty_rst e
  · rcases e with (e | e | e) | e
    · exact own_ne_mapF p.r.row h0.p.q.map b hb e
    · exact own_blk_ne p.r.row h0.p.r.blk (by decide) (e ▸ hb)
    · exact h3 b hb e
    · exact h0.b.not_own p.r.row (by decide) (fun j hj e2 => bty_one j hj e2.symm) b hb e
end
theorem nil19 : (#[.slice none 0 0, .slice none 0 0, .slice none 0 0, .slice none 0 0, .slice none 0 0, .slice none 0 0, .slice none 0 0, .slice none 0 0, .slice none 0 0, .slice none 0 0, .slice none 0 0, .slice none 0 0, .slice none 0 0, .slice none 0 0, .slice none 0 0, .slice none 0 0, .slice none 0 0, .slice none 0 0, .slice none 0 0] : Array Value) = Array.replicate 19 (.slice none 0 0) := rfl
theorem Opl.may {w : World} {A : Option Addr} {n : Nat} {L : List OpS} (h : Opl w A n L) {o : OpS} (ho : o ∈ L) : 0 < o.s.n → ∀ ad, o.s.A = some ad → ad.block < w.heap.size := fun h0 ad hA => by
  obtain ⟨ad', e, hb, _⟩ := (h.ok o ho).s.body.2 h0
  rw [hA] at e
  injection e with e
  rw [e]
  exact hb
structure Cop1 (w : World) (g bm : Nat) (most : Int) (gd gb n : Nat) (iv : Value) (wr : World) : Prop where
  ex : ∃ (i : Nat) (f : Ky3 → Option OneE) (N : Nat) (v : Value) (xs : List OneE) (G : Nat → Sl) (L : Nat → List Sl), iv = .int .i64 i ∧ i ≤ n ∧ Hid (PB w.heap.size wr g bm most f N gd v xs gb G L)
  below : Hid (Below w.heap.size w wr)
structure Cop2 (w : World) (g bm : Nat) (most : Int) (f0 : Ky3 → Option OneE) (N0 gw : Nat) (vw : Value) (ys : List OneE) (gc bc gd gb n : Nat) (iv : Value) (wr : World) : Prop where
  ex : ∃ (i : Nat) (f : Ky3 → Option OneE) (N : Nat) (v : Value) (xs : List OneE) (G : Nat → Sl) (L : Nat → List Sl), iv = .int .i64 i ∧ i ≤ n ∧ Hid (PB w.heap.size wr gc bc most f N gd v xs gb G L) ∧ Hid (∀ b, vw.ownBlock = some b → v.ownBlock ≠ some b)
  was : Hid (PairS w.heap.size wr g bm most f0 N0 gw vw ys)
  below : Hid (Below w.heap.size w wr)
end Go.Proofs.YtpncbggjngamgaaGreatDoor
