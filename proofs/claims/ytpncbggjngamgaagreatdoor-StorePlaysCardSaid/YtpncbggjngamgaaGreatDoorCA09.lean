/-
  The reference's store: Put. Printed by gen_rst9.py.
  The reference's store: Drop. Printed by gen_rst10.py.
  A region that draws its order and ends in a store: what holds of the world need not hold behind the last operation.
  The reference's store: Copy. Printed by gen_rst11.py.
  EqHeads of rows that say the same. Printed by gen_eqh.py.
  Contracts of WideBytes and SpareBytes.
-/
import Derived.Test.YtpncbggjngamgaaGreatDoorCA08
import Derived.Test.YtpncbggjngamgaaGreatDoorCA04
import Derived.Test.YtpncbggjngamgaaGreatDoorCA02
import Derived.Test.YtpncbggjngamgaaGreatDoorCA07
namespace Go.Proofs.YtpncbggjngamgaaGreatDoor
set_option linter.unusedVariables false
open Go.RowKit

theorem el_one : El Tryz.prog 29 108 10 56 := El.mk' Tryz.underlying29 (z := .agg #[.int .u16 0, .int .u8 0, .int .u8 0, .int .u32 0, .int .u32 0, .int .i32 0, .int .u16 0, .int .u16 0, .slice none 0 0, .int .i64 0]) (by kernel_rfl) rfl (by omega)
theorem flat_drop {α : Type} {cs : α → List Value} {k : Nat} (hk : ∀ a, (cs a).length = k) : ∀ (L : List α) (i : Nat), (L.flatMap cs).drop (i * k) = (L.drop i).flatMap cs := by
  intro L
  induction L with
  | nil => intro i; simp
  | cons a r ih =>
    intro i
    cases i with
    | zero => simp
    | succ i =>
      have e1 : (i + 1) * k = (cs a).length + i * k := by rw [Nat.add_mul, hk a]; omega
      rw [List.flatMap_cons, e1, List.drop_length_add_append, List.drop_succ_cons]
      exact ih i
theorem RfS.tail {base : Nat} {w : World} {g n c i : Nat} {ad : Addr} {most : Int} {xs : List OneE} (q : RfS base w g (.slice (some ad) n c) most xs) (hl : xs.length = n) (hi : i ≤ n) :
    Reads w w.heap.size 10 (some (ad.add (i * 10))) (n - i) ((xs.drop i).flatMap oneL) := by
  have h := q.row
  rw [hl] at h
  have h2 := Reads.cut (Reads.of_own h) (k := i) (cap := c + i + 1) hi (by have := q.shape; obtain ⟨A, n', c', e, _, h1, _⟩ := this; injection e with _ e2 e3; omega)
  rw [if_neg (by omega), flat_drop oneL_len] at h2
  exact h2
theorem info_One : (Tryz.prog.info? 108).map (·.size) = some 10 := by kernel_rfl
/-- What Put leaves. -/
structure PutR (base : Nat) (w w' : World) (g : Nat) (v : Value) (most : Int) (xs : List OneE) (x : SE) (now : Int) (x' : SE) (v' : Value) (xs' : List OneE) : Prop where
  q : RfS base w' g v' most xs'
  row : PutRow xs xs' ⟨x', now⟩
  h : x'.h = x.h
  B : x'.B = x.B
  n : x'.n = x.n
  ok : x'.ok w.heap.size w'
  k : Kept (fun b => b = g ∨ v.ownBlock = some b) w w'
  vb : v'.ownBlock = v.ownBlock ∨ ∃ b, v'.ownBlock = some b ∧ w.heap.size ≤ b
  room : (rowAt xs x.key).isSome = true ∨ (xs.length : Int) < most
  len : xs'.length = if (rowAt xs x.key).isSome = true then xs.length else xs.length + 1
def PutP (base : Nat) (w w' : World) (g : Nat) (v : Value) (most : Int) (xs : List OneE) (x : SE) (now : Int) (e : Ending) : Prop :=
  (∃ x' v' xs', e = .returned (.int .i64 0) ∧ PutR base w w' g v most xs x now x' v' xs') ∨ (e = .returned (.int .i64 47) ∧ rowAt xs x.key = none ∧ most ≤ (xs.length : Int) ∧ Below w.heap.size w w')
set_option maxRecDepth 100000 in
set_option maxHeartbeats 8000000 in
theorem put11 (base : Nat) (w : World) (g : Nat) (v : Value) (most : Int) (xs : List OneE) (q : RfS base w g v most xs) (hA : AscL xs) (hbs : base ≤ w.heap.size) (hN : xs.length ≤ 4096) (x : SE) (hx : x.rd w) (now : Int) (hn : 0 ≤ now ∧ now ≤ 9223372036854775807) :
    Calls Tryz.prog 19 #[.pointer (some ⟨g, 0, none⟩), .int .i64 now, x.v] w fun e w' => PutP base w w' g v most xs x now e := by
  obtain ⟨⟨xage, xopts, k1, k2, k3, xseq, xsum, xlen⟩, xA, xn, xc, xB⟩ := x
  obtain ⟨A, n, c, rfl, hl, hc1, hc2⟩ := q.shape
  have hb1 : Below w.heap.size w (w.alloc (.cells #[.int .u16 xage, .int .u8 xopts, .int .u8 k1, .int .u32 k2, .int .u32 k3, .int .i32 xseq, .int .u16 xsum, .int .u16 xlen, .slice xA xn xc] 61)) := (Below.refl _ _).alloc (Nat.le_refl _) _
  have HBx : Hid (Blk (w.alloc (.cells #[.int .u16 xage, .int .u8 xopts, .int .u8 k1, .int .u32 k2, .int .u32 k3, .int .i32 xseq, .int .u16 xsum, .int .u16 xlen, .slice xA xn xc] 61)) w.heap.size 61 #[.int .u16 xage, .int .u8 xopts, .int .u8 k1, .int .u32 k2, .int .u32 k3, .int .i32 xseq, .int .u16 xsum, .int .u16 xlen, .slice xA xn xc]) := Lib.hid (Blk.new _ _ _)
  have HQ := Lib.hid (q.later hb1)
  have HX := Lib.hid (hx.later hb1)
  have HA := Lib.hid hA
  have HL := Lib.hid hl
  have HB1 := Lib.hid hb1
  have HV := Lib.hid (fun i => (fun (h : (Value.slice A n c).ownBlock = some i) => own_ge q.row h))
  have hN2 : n ≤ 4096 := by omega
  have a0 := HBx.out.cell 0; have a1 := HBx.out.cell 1; have a2 := HBx.out.cell 2; have a3 := HBx.out.cell 3; have a4 := HBx.out.cell 4; have a5 := HBx.out.cell 5; have a6 := HBx.out.cell 6; have a7 := HBx.out.cell 7
  simp only [List.getElem?_toArray, List.getElem?_cons_zero, List.getElem?_cons_succ] at a0 a1 a2 a3 a4 a5 a6 a7
  have dn : decide (now < 0) = false := decide_eq_false (by omega)
  clear q hx hA hl hb1 hN
  show Calls Tryz.prog 19 #[.pointer (some ⟨g, 0, none⟩), .int .i64 now, .agg #[.int .u16 xage, .int .u8 xopts, .int .u8 k1, .int .u32 k2, .int .u32 k3, .int .i32 xseq, .int .u16 xsum, .int .u16 xlen, .slice xA xn xc]] w fun e w' => PutP base w w' g (.slice A n c) most xs (⟨⟨xage, xopts, k1, k2, k3, xseq, xsum, xlen⟩, xA, xn, xc, xB⟩ : SE) now e
  go_enter Tryz.func19, Tryz.ntmps19
  go_wp2_with fail
  clear a0 a1 a2 a3 a4 a5 a6 a7 dn
  generalize w.alloc (.cells #[.int .u16 xage, .int .u8 xopts, .int .u8 k1, .int .u32 k2, .int .u32 k3, .int .i32 xseq, .int .u16 xsum, .int .u16 xlen, .slice xA xn xc] 61) = w1 at *
  refine (rkey_hd ⟨xage, xopts, k1, k2, k3, xseq, xsum, xlen⟩ w1).mono ?_
  rintro e w2 ⟨rfl, hb2⟩
  have HQ2 := Lib.hid (HQ.out.later hb2)
  have HX2 := Lib.hid (HX.out.later hb2)
  have HBx2 := Lib.hid (HBx.out.later hb2)
  have HB2 := Lib.hid (below_then HB1.out hb2)
  clear hb2 HQ HX HBx HB1
  have hb3 : Below w2.heap.size w2 (w2.alloc (.cells #[.int .u8 k1, .int .u32 k2, .int .u32 k3] 68)) := (Below.refl _ _).alloc (Nat.le_refl _) _
  have HK3 : Hid (Blk (w2.alloc (.cells #[.int .u8 k1, .int .u32 k2, .int .u32 k3] 68)) w2.heap.size 68 #[.int .u8 k1, .int .u32 k2, .int .u32 k3]) := Lib.hid (Blk.new _ _ _)
  have HQ3 := Lib.hid (HQ2.out.later hb3)
  have HX3 := Lib.hid (HX2.out.later hb3)
  have HBx3 := Lib.hid (HBx2.out.later hb3)
  have HB3 := Lib.hid (below_then HB2.out hb3)
  clear hb3 HQ2 HX2 HBx2
  have b0 := HK3.out.cell 0; have b1 := HK3.out.cell 1; have b2 := HK3.out.cell 2
  simp only [List.getElem?_toArray, List.getElem?_cons_zero, List.getElem?_cons_succ] at b0 b1 b2
  go_wp2_with fail
  clear b0 b1 b2
  generalize w2.alloc (.cells #[.int .u8 k1, .int .u32 k2, .int .u32 k3] 68) = w3 at *
  have HGk : Hid (w.heap.size ≤ w2.heap.size) := Lib.hid HB2.out.size
  generalize w2.heap.size = gk at *
  clear HB2
  refine (find11 base _ g _ most xs HQ3.out (k1, k2, k3)).mono ?_
  rintro e w4 ⟨z, rfl, hz, hb4⟩
  have HQ4 := Lib.hid (HQ3.out.later hb4)
  have HX4 := Lib.hid (HX3.out.later hb4)
  have HBx4 := Lib.hid (HBx3.out.later hb4)
  have HK4 := Lib.hid (HK3.out.later hb4)
  have HB4 := Lib.hid (below_then HB3.out hb4)
  clear hb4 HQ3 HX3 HBx3 HK3 HB3
  rcases rowAt_of hz with ⟨i, y, rfl, hxs, hr⟩ | ⟨rfl, hr⟩
  · clear hz
    have hin : i < n := by have := (List.getElem?_eq_some_iff.1 hxs).1; have := HL.out; omega
    have hinI : (i : Int) < n := by omega
    have HR := Lib.hid (And.intro hxs hr)
    clear hxs hr
    have hrow := HQ4.out.row
    rcases hrow.2 with ⟨_, h0⟩ | ⟨gr, cap, cur, hv, hbg, -⟩
    · exact absurd h0 (by have := HL.out; omega)
    · injection hv with hv1 hv2 hv3
      subst hv1 hv3
      have di : decide (0 ≤ (i : Int)) = true := decide_eq_true (by omega)
      have HBG := Lib.hid hbg
      clear hrow hv2 hbg cur
      go_wp2_with fail
      have hbd : Below w4.heap.size w4 w4.drew := (Below.refl _ _).drew
      have HQ5 := Lib.hid (HQ4.out.later hbd)
      have HX5 := Lib.hid (HX4.out.later hbd)
      have HS : Hid ((fun W : World => Blk W g 31 #[.slice (some ⟨gr, 0, none⟩) n c, .int .i64 most] ∧ Blk W w.heap.size 61 #[.int .u16 xage, .int .u8 xopts, .int .u8 k1, .int .u32 k2, .int .u32 k3, .int .i32 xseq, .int .u16 xsum, .int .u16 xlen, .slice xA xn xc]) w4.drew) := Lib.hid ⟨HQ5.out.blk, HBx4.out.later hbd⟩
      have HB5 := Lib.hid HB4.out.drew
      clear hbd HQ4 HX4 HBx4 HK4 HB4 di
      refine wp_region_s (fun W : World => Blk W g 31 #[.slice (some ⟨gr, 0, none⟩) n c, .int .i64 most] ∧ Blk W w.heap.size 61 #[.int .u16 xage, .int .u8 xopts, .int .u8 k1, .int .u32 k2, .int .u32 k3, .int .i32 xseq, .int .u16 xsum, .int .u16 xlen, .slice xA xn xc]) [(0, true), (1, true), (2, true), (4, true), (7, true), (3, true), (5, true), (6, false), (8, true), (9, true), (10, false)] (by kernel_rfl) (fun _ d _ _ _ h => by cases d <;> exact h) ?_
      simp only [List.map_cons, List.map_nil, nthOp_zero, nthOp_succ]
      generalize w4.drew = w5 at *
      refine wpS_take HS (by kernel_rfl) (by intro W hW; clear hW; go_simp; try with_reducible rfl) ?_
      refine wpS_take HS (by kernel_rfl) (by intro W hW; clear hW; go_simp; try with_reducible rfl) ?_
      refine wpS_take HS (by kernel_rfl) (by intro W hW; clear hW; go_simp; try with_reducible rfl) ?_
      refine wpS_take HS (by kernel_rfl) (by intro W hW; clear hW; go_simp; try with_reducible rfl) ?_
      refine wpS_take HS (by kernel_rfl) (by intro W hW; clear hW; go_simp; try with_reducible rfl) ?_
      refine wpS_take HS (by kernel_rfl) (by intro W hW; have g0 := hW.1.cell 0; simp only [List.getElem?_toArray, List.getElem?_cons_zero, List.getElem?_cons_succ] at g0; clear hW; go_simp; try with_reducible rfl) ?_
      refine wpS_take HS (by kernel_rfl) (fun W hW => exec_load_row rfl rfl hW.2 Tryz.underlying61 rfl info_state) ?_
      go_simp
      refine wpS_do fun K hK => ?_
      go_wp2_with fail
      refine (copied11 (⟨⟨xage, xopts, k1, k2, k3, xseq, xsum, xlen⟩, xA, xn, xc, xB⟩ : SE) w5 HX5.out).mono ?_
      rintro e w6 ⟨s', rfl, hcp, hb6⟩
      have HCp := Lib.hid hcp
      have HQ6 := Lib.hid (HQ5.out.later hb6)
      have HB6 := Lib.hid (below_then HB5.out hb6)
      have HSZ := Lib.hid (HB5.out.size)
      replace HS : Hid ((fun W : World => Blk W g 31 #[.slice (some ⟨gr, 0, none⟩) n c, .int .i64 most] ∧ Blk W w.heap.size 61 #[.int .u16 xage, .int .u8 xopts, .int .u8 k1, .int .u32 k2, .int .u32 k3, .int .i32 xseq, .int .u16 xsum, .int .u16 xlen, .slice xA xn xc]) w6) := Lib.hid ⟨HS.out.1.later hb6, HS.out.2.later hb6⟩
      clear hcp hb6 HQ5 HX5 HB5
      go_wp2_with fail
      refine hK.out _ _ HS.out ?_
      clear hK K
      refine wpS_take HS (by kernel_rfl) (by intro W hW; clear hW; go_simp; try with_reducible rfl) ?_
      refine wpS_take HS (by kernel_rfl) (by intro W hW; clear hW; go_simp; try with_reducible rfl) ?_
      go_simp
      refine wpS_do fun K hK => ?_
      obtain ⟨cur, hg6, hle, how, hkp⟩ := own_item (i := i) oneL_len (show w6.ownsRow base 108 10 (.slice (some ⟨gr, 0, none⟩) n c) n (xs.flatMap oneL) from by have h := HQ6.out.row; rwa [HL.out] at h) HL.out hin (⟨s', now⟩ : OneE)
      have hgne : g ≠ gr := fun e => by
        have h := own_blk_ne HQ6.out.row HQ6.out.blk (by decide)
        exact h (by rw [e]; rfl)
      have HS7 : Hid ((fun W : World => Blk W g 31 #[.slice (some ⟨gr, 0, none⟩) n c, .int .i64 most] ∧ Blk W w.heap.size 61 #[.int .u16 xage, .int .u8 xopts, .int .u8 k1, .int .u32 k2, .int .u32 k3, .int .i32 xseq, .int .u16 xsum, .int .u16 xlen, .slice xA xn xc]) (w6.setRow gr (putIn cur (i * 10) (oneL ⟨s', now⟩).toArray))) := Lib.hid ⟨HS.out.1.kept hkp hgne, HS.out.2.kept hkp (fun e => by
        have h := own_blk_ne HQ6.out.row HS.out.2 (by decide)
        exact h (by rw [e]; rfl))⟩
      refine wpList_store_in rfl 108 (.tmp 30) (.tmp 29) rfl gr (i * 10) (oneL ⟨s', now⟩).toArray rfl rfl 108 cur hg6 info_One hle (by simpa using oneL_one ⟨s', now⟩) ?_
      have HW := Lib.hid (And.intro how hkp)
      clear how hkp hg6 hle
      generalize w6.setRow gr (putIn cur (i * 10) (oneL ⟨s', now⟩).toArray) = w7 at *
      go_wp2_with fail
      refine hK.out _ _ HS7.out ?_
      clear hK K
      refine wpS_nil ?_
      go_simp
      go_wp2_with fail
      go_ret
      have hg0 : gr < w.heap.size := (HV.out gr rfl).2
      have hyk := rowAt_some HR.out.2
      refine Or.inl ⟨s', .slice (some ⟨gr, 0, none⟩) n c, xs.set i ⟨s', now⟩, rfl, ⟨⟨HS7.out.1, ?_, fun z hz => ?_⟩, ?_, HCp.out.h, HCp.out.B, HCp.out.n, ?_, ?_, .inl rfl, .inl ?_, ?_⟩⟩
      · rw [List.length_set, HL.out]; exact HW.out.1
      · rcases List.mem_or_eq_of_mem_set hz with h1 | h1
        · have h2 := HQ6.out.own z h1
          exact ⟨⟨h2.1.head, own_kept h2.1.body HW.out.2 (fun j hj e => by subst e; exact own_ne h2.1.body HQ6.out.row (by decide) _ hj rfl), h2.1.oct, h2.1.len⟩, h2.2⟩
        · subst h1
          have h2 := HCp.out.ok
          exact ⟨⟨h2.head, own_mono (own_kept h2.body HW.out.2 (fun j hj e => by subst e; exact own_ne h2.body HQ6.out.row (by decide) _ hj rfl)) (Nat.le_trans hbs HSZ.out), h2.oct, h2.len⟩, hn⟩
      · have h := HA.out.set (y := ⟨s', now⟩) HR.out.1 (by rw [hyk.2]; show (s'.h.typ, s'.h.id, s'.h.adv) = _; rw [HCp.out.h])
        exact h
      · have h2 := HCp.out.ok
        exact ⟨h2.head, own_mono (own_kept h2.body HW.out.2 (fun j hj e => by subst e; exact own_ne h2.body HQ6.out.row (by decide) _ hj rfl)) HSZ.out, h2.oct, h2.len⟩
      · exact (Kept.of_new HB6.out (fun b => b = g ∨ (Value.slice (some ⟨gr, 0, none⟩) n c).ownBlock = some b)).trans HW.out.2 (fun j _ e => .inr (by rw [e]; rfl))
      · show (rowAt xs (k1, k2, k3)).isSome = true
        rw [HR.out.2]; rfl
      · rw [List.length_set, if_pos (by show (rowAt xs (k1, k2, k3)).isSome = true; rw [HR.out.2]; rfl)]
  · clear hz
    have HR := Lib.hid hr
    clear hr
    have dm : decide ((0 : Int) ≤ -1) = false := by decide
    go_wp2_with fail
    have hbd : Below w4.heap.size w4 w4.drew := (Below.refl _ _).drew
    have HQ5 := Lib.hid (HQ4.out.later hbd)
    have HX5 := Lib.hid (HX4.out.later hbd)
    have HBx5 := Lib.hid (HBx4.out.later hbd)
    have HK5 := Lib.hid (HK4.out.later hbd)
    have HS : Hid ((fun W : World => Blk W g 31 #[.slice A n c, .int .i64 most]) w4.drew) := Lib.hid HQ5.out.blk
    have HB5 := Lib.hid HB4.out.drew
    clear hbd HQ4 HX4 HBx4 HK4 HB4 dm
    refine wp_region_s (fun W : World => Blk W g 31 #[.slice A n c, .int .i64 most]) [(0, true), (1, true), (2, true), (5, true), (6, true), (7, true), (3, true), (4, true), (8, true), (9, true)] (by kernel_rfl) (fun _ d _ _ _ h => by cases d <;> exact h) ?_
    simp only [List.map_cons, List.map_nil, nthOp_zero, nthOp_succ]
    generalize w4.drew = w5 at *
    refine wpS_take HS (by kernel_rfl) (by intro W hW; have g0 := hW.cell 0; have g1 := hW.cell 1; simp only [List.getElem?_toArray, List.getElem?_cons_zero, List.getElem?_cons_succ] at g0 g1; clear hW; go_simp; try with_reducible rfl) ?_
    refine wpS_take HS (by kernel_rfl) (by intro W hW; have g0 := hW.cell 0; have g1 := hW.cell 1; simp only [List.getElem?_toArray, List.getElem?_cons_zero, List.getElem?_cons_succ] at g0 g1; clear hW; go_simp; try with_reducible rfl) ?_
    refine wpS_take HS (by kernel_rfl) (by intro W hW; have g0 := hW.cell 0; have g1 := hW.cell 1; simp only [List.getElem?_toArray, List.getElem?_cons_zero, List.getElem?_cons_succ] at g0 g1; clear hW; go_simp; try with_reducible rfl) ?_
    refine wpS_take HS (by kernel_rfl) (by intro W hW; have g0 := hW.cell 0; have g1 := hW.cell 1; simp only [List.getElem?_toArray, List.getElem?_cons_zero, List.getElem?_cons_succ] at g0 g1; clear hW; go_simp; try with_reducible rfl) ?_
    refine wpS_take HS (by kernel_rfl) (by intro W hW; have g0 := hW.cell 0; have g1 := hW.cell 1; simp only [List.getElem?_toArray, List.getElem?_cons_zero, List.getElem?_cons_succ] at g0 g1; clear hW; go_simp; try with_reducible rfl) ?_
    refine wpS_take HS (by kernel_rfl) (by intro W hW; have g0 := hW.cell 0; have g1 := hW.cell 1; simp only [List.getElem?_toArray, List.getElem?_cons_zero, List.getElem?_cons_succ] at g0 g1; clear hW; go_simp; try with_reducible rfl) ?_
    refine wpS_take HS (by kernel_rfl) (by intro W hW; have g0 := hW.cell 0; have g1 := hW.cell 1; simp only [List.getElem?_toArray, List.getElem?_cons_zero, List.getElem?_cons_succ] at g0 g1; clear hW; go_simp; try with_reducible rfl) ?_
    refine wpS_take HS (by kernel_rfl) (by intro W hW; have g0 := hW.cell 0; have g1 := hW.cell 1; simp only [List.getElem?_toArray, List.getElem?_cons_zero, List.getElem?_cons_succ] at g0 g1; clear hW; go_simp; try with_reducible rfl) ?_
    refine wpS_take HS (by kernel_rfl) (by intro W hW; have g0 := hW.cell 0; have g1 := hW.cell 1; simp only [List.getElem?_toArray, List.getElem?_cons_zero, List.getElem?_cons_succ] at g0 g1; clear hW; go_simp; try with_reducible rfl) ?_
    refine wpS_take HS (by kernel_rfl) (by intro W hW; have g0 := hW.cell 0; have g1 := hW.cell 1; simp only [List.getElem?_toArray, List.getElem?_cons_zero, List.getElem?_cons_succ] at g0 g1; clear hW; go_simp; try with_reducible rfl) ?_
    refine wpS_nil ?_
    go_simp
    by_cases hfull : most ≤ (n : Int)
    · have df : decide (most ≤ (n : Int)) = true := decide_eq_true hfull
      go_wp2_with fail
      go_ret
      exact Or.inr ⟨rfl, HR.out, by rw [HL.out]; exact hfull, HB5.out⟩
    · have df : decide (most ≤ (n : Int)) = false := decide_eq_false hfull
      go_wp2_with fail
      clear df HS
      go_loopw [9, 10] (fun lv iv wr => ∃ i : Nat, iv = .int .i64 i ∧ i ≤ n ∧ Hid (wr.ownsRow w5.heap.size 108 10 lv i ((xs.take i).flatMap oneL)) ∧ Hid (∀ j x, j < i → xs[j]? = some x → ltK x.s.key (k1, k2, k3) = true) ∧ Hid (Below w5.heap.size w5 wr)) (fun _ iv _ => n - (intOf iv).toNat)
      case atStart => exact ⟨0, rfl, Nat.zero_le _, Lib.hid (World.ownsRow_nil _ _ _ _), Lib.hid fun j x h => by omega, Lib.hid (Below.refl _ _)⟩
      case round =>
        obtain ⟨i, rfl, hi, hrow, hlow, hb⟩ := hrel
        generalize wr = wj at *
        have HQj := Lib.hid (HQ5.out.later hb.out)
        have HKj := Lib.hid (HK5.out.later hb.out)
        by_cases hlt : i < n
        · have hltI : (i : Int) < n := by omega
          obtain ⟨ad, x, hA, hxs, hxa⟩ := HQj.out.at_ hlt HL.out
          subst hA
          have HX := Lib.hid hxs
          have HOx := Lib.hid (HQj.out.own x (List.mem_of_getElem? hxs)).1.head
          go_wp2_with fail
          have hbd : Below wj.heap.size wj wj.drew := (Below.refl _ _).drew
          have HS : Hid ((fun W : World => Blk W g 31 #[.slice (some ad) n c, .int .i64 most] ∧ OneAt W (ad.add (i * 10)) x ∧ Blk W gk 68 #[.int .u8 k1, .int .u32 k2, .int .u32 k3]) wj.drew) := Lib.hid ⟨HQj.out.blk.later hbd, hxa.later hbd, HKj.out.later hbd⟩
          have HBj := Lib.hid hb.out.drew
          have HRj := Lib.hid (own_kept hrow.out (Kept.of_new hbd (fun _ => False)) (fun _ _ h => h))
          clear hbd hxs hxa hb hrow HKj HQj
          refine wp_region_s (fun W : World => Blk W g 31 #[.slice (some ad) n c, .int .i64 most] ∧ OneAt W (ad.add (i * 10)) x ∧ Blk W gk 68 #[.int .u8 k1, .int .u32 k2, .int .u32 k3]) [(0, true), (1, true), (2, true), (3, true), (4, true), (5, true), (6, true), (7, true), (8, true), (9, true), (10, true), (12, true), (11, true), (13, true), (14, true), (15, true), (16, true), (18, true), (17, false), (19, false), (20, true), (21, true)] (by kernel_rfl) (fun _ d _ _ _ h => by cases d <;> exact h) ?_
          simp only [List.map_cons, List.map_nil, nthOp_zero, nthOp_succ]
          generalize wj.drew = w6 at *
          refine wpS_take HS (by kernel_rfl) (by intro W hW; clear hW; go_simp; try with_reducible rfl) ?_
          refine wpS_take HS (by kernel_rfl) (by intro W hW; clear hW; go_simp; try with_reducible rfl) ?_
          refine wpS_take HS (by kernel_rfl) (by intro W hW; clear hW; go_simp; try with_reducible rfl) ?_
          refine wpS_take HS (by kernel_rfl) (by intro W hW; clear hW; go_simp; try with_reducible rfl) ?_
          refine wpS_take HS (by kernel_rfl) (by intro W hW; have g0 := hW.1.cell 0; simp only [List.getElem?_toArray, List.getElem?_cons_zero, List.getElem?_cons_succ] at g0; clear hW; go_simp; try with_reducible rfl) ?_
          refine wpS_take HS (by kernel_rfl) (by intro W hW; have g0 := hW.1.cell 0; simp only [List.getElem?_toArray, List.getElem?_cons_zero, List.getElem?_cons_succ] at g0; clear hW; go_simp; try with_reducible rfl) ?_
          refine wpS_take HS (by kernel_rfl) (by intro W hW; have g0 := hW.1.cell 0; simp only [List.getElem?_toArray, List.getElem?_cons_zero, List.getElem?_cons_succ] at g0; clear hW; go_simp; try with_reducible rfl) ?_
          go_simp
          refine wpS_take HS (by kernel_rfl) (by intro W hW; clear hW; go_simp; try with_reducible rfl) ?_
          refine wpS_take HS (by kernel_rfl) (by intro W hW; clear hW; go_simp; try with_reducible rfl) ?_
          refine wpS_take HS (by kernel_rfl) (by intro W hW; clear hW; go_simp; try with_reducible rfl) ?_
          refine wpS_take HS (by kernel_rfl) (by intro W hW; clear hW; go_simp; try with_reducible rfl) ?_
          refine wpS_take HS (by kernel_rfl) (by intro W hW; clear hW; go_simp; try with_reducible rfl) ?_
          refine wpS_take HS (by kernel_rfl) (by intro W hW; have g0 := hW.1.cell 0; simp only [List.getElem?_toArray, List.getElem?_cons_zero, List.getElem?_cons_succ] at g0; clear hW; go_simp; try with_reducible rfl) ?_
          refine wpS_take HS (by kernel_rfl) (by intro W hW; clear hW; go_simp; try with_reducible rfl) ?_
          refine wpS_take HS (by kernel_rfl) (by intro W hW; clear hW; go_simp; try with_reducible rfl) ?_
          refine wpS_take HS (by kernel_rfl) (by intro W hW; clear hW; go_simp; try with_reducible rfl) ?_
          go_simp
          refine wpS_take HS (by kernel_rfl) (by intro W hW; obtain ⟨q0, q1, q2, q3, q4, q5, q6, q7, q8, q9⟩ := hW.2.1; clear hW; go_simp; try with_reducible rfl) ?_
          refine wpS_take HS (by kernel_rfl) (fun W hW => exec_load_row rfl rfl hW.2.2 Tryz.underlying68 rfl info_key3) ?_
          go_simp
          refine wpS_do fun K hK => ?_
          go_wp2_with fail
          refine (rkey_hd x.s.h w6).mono ?_
          rintro e w7 ⟨rfl, hb7⟩
          replace HS : Hid ((fun W : World => Blk W g 31 #[.slice (some ad) n c, .int .i64 most] ∧ OneAt W (ad.add (i * 10)) x ∧ Blk W gk 68 #[.int .u8 k1, .int .u32 k2, .int .u32 k3]) w7) := Lib.hid ⟨HS.out.1.later hb7, HS.out.2.1.later hb7, HS.out.2.2.later hb7⟩
          have HR7 := Lib.hid (own_kept HRj.out (Kept.of_new hb7 (fun _ => False)) (fun _ _ h => h))
          have HB7 := Lib.hid (below_then HBj.out hb7)
          clear hb7 HRj HBj
          go_wp2_with fail
          refine hK.out _ _ HS.out ?_
          clear hK K
          go_simp
          refine wpS_do fun K hK => ?_
          go_wp2_with fail
          refine (keys05 (x.s.h.typ, x.s.h.id, x.s.h.adv) (k1, k2, k3) w7 ⟨HOx.out.typ, HOx.out.id, HOx.out.adv⟩ ⟨HX5.out.head.typ, HX5.out.head.id, HX5.out.head.adv⟩).mono ?_
          rintro e w8 ⟨rfl, hb8⟩
          replace HS : Hid ((fun W : World => Blk W g 31 #[.slice (some ad) n c, .int .i64 most] ∧ OneAt W (ad.add (i * 10)) x ∧ Blk W gk 68 #[.int .u8 k1, .int .u32 k2, .int .u32 k3]) w8) := Lib.hid ⟨HS.out.1.later hb8, HS.out.2.1.later hb8, HS.out.2.2.later hb8⟩
          have HR8 := Lib.hid (own_kept HR7.out (Kept.of_new hb8 (fun _ => False)) (fun _ _ h => h))
          have HB8 := Lib.hid (below_then HB7.out hb8)
          clear hb8 HR7 HB7
          go_wp2_with fail
          refine hK.out _ _ HS.out ?_
          clear hK K
          refine wpS_take HS (by kernel_rfl) (by intro W hW; clear hW; go_simp; try with_reducible rfl) ?_
          rw [cmpK_lt]
          refine wpS_take HS (by kernel_rfl) (by intro W hW; clear hW; go_simp; try with_reducible rfl) ?_
          refine wpS_nil ?_
          go_simp
          by_cases hlk : ltK (x.s.h.typ, x.s.h.id, x.s.h.adv) (k1, k2, k3) = true
          · rw [hlk]
            have HLk := Lib.hid hlk
            clear hlk
            have HQ8 := Lib.hid (HQ5.out.later HB8.out)
            have g0 := HQ8.out.blk.cell 0
            simp only [List.getElem?_toArray, List.getElem?_cons_zero, List.getElem?_cons_succ] at g0
            obtain ⟨q0, q1, q2, q3, q4, q5, q6, q7, q8, q9⟩ := HS.out.2.1
            have HXr : Hid (Reads (w8.alloc (.cells #[.int .u16 x.s.h.age, .int .u8 x.s.h.opts, .int .u8 x.s.h.typ, .int .u32 x.s.h.id, .int .u32 x.s.h.adv, .int .i32 x.s.h.seq, .int .u16 x.s.h.sum, .int .u16 x.s.h.len, .slice x.s.A x.s.n x.s.c, .int .i64 x.at_] 108)) (w8.heap.size + 1) 10 (some ⟨w8.heap.size, 0, none⟩) 1 (oneL x)) :=
              Lib.hid ⟨rfl, fun _ => ⟨_, rfl, Nat.lt_succ_self _, fun j u hu => by rw [add_none, Nat.zero_add, (Blk.new w8 108 #[.int .u16 x.s.h.age, .int .u8 x.s.h.opts, .int .u8 x.s.h.typ, .int .u32 x.s.h.id, .int .u32 x.s.h.adv, .int .i32 x.s.h.seq, .int .u16 x.s.h.sum, .int .u16 x.s.h.len, .slice x.s.A x.s.n x.s.c, .int .i64 x.at_]).cell]; simpa [oneL] using hu⟩⟩
            have HR9 := Lib.hid (HR8.out.alloc (.cells #[.int .u16 x.s.h.age, .int .u8 x.s.h.opts, .int .u8 x.s.h.typ, .int .u32 x.s.h.id, .int .u32 x.s.h.adv, .int .i32 x.s.h.seq, .int .u16 x.s.h.sum, .int .u16 x.s.h.len, .slice x.s.A x.s.n x.s.c, .int .i64 x.at_] 108))
            have hb9 : Below w8.heap.size w8 (w8.alloc (.cells #[.int .u16 x.s.h.age, .int .u8 x.s.h.opts, .int .u8 x.s.h.typ, .int .u32 x.s.h.id, .int .u32 x.s.h.adv, .int .i32 x.s.h.seq, .int .u16 x.s.h.sum, .int .u16 x.s.h.len, .slice x.s.A x.s.n x.s.c, .int .i64 x.at_] 108)) := (Below.refl _ _).alloc (Nat.le_refl _) _
            have HB9 := Lib.hid (below_then HB8.out hb9)
            have hsz : w5.heap.size ≤ w8.heap.size := HB8.out.size
            clear hb9 HR8 HS
            go_wp2_with (at_builtin; go_must (refine wpList_app el_one rfl (.tmp 63) (.tmp 71) rfl HR9.out rfl HXr.out rfl (oneL_one _) (by simp only [maxLen]; omega) (by omega) (by rw [World.size_alloc]; omega) ?_); intro v' w' ho' hb' hg' _; have H10 := Lib.hid (And.intro ho' (And.intro hb' hg')); clear ho' hb' hg')
            go_roundw
            case rel =>
              refine ⟨i + 1, by go_num, by omega, Lib.hid ?_, Lib.hid fun j z hj hz => ?_, Lib.hid (HB9.out.trans H10.out.2.1)⟩
              · have h := H10.out.1
                rw [take_one HX.out, List.flatMap_append]
                simpa using h
              · by_cases hji : j < i
                · exact hlow.out j z hji hz
                · obtain rfl : j = i := by omega
                  rw [HX.out] at hz
                  injection hz with hz
                  subst hz
                  exact HLk.out
            case measure => simp [intOf]; omega
          · rw [Bool.not_eq_true] at hlk
            rw [hlk]
            have HST : Hid (∀ z, xs[i]? = some z → ltK z.s.key (k1, k2, k3) = false) := Lib.hid fun z hz => by
              rw [HX.out] at hz
              injection hz with hz
              subst hz
              exact hlk
            clear hlk HS
            have HQz := Lib.hid (HQ5.out.later HB8.out)
            have HXz := Lib.hid (HX5.out.later HB8.out)
            have HBz := Lib.hid (HBx5.out.later HB8.out)
            have c0 := HBz.out.cell 0; have c1 := HBz.out.cell 1; have c2 := HBz.out.cell 2; have c3 := HBz.out.cell 3; have c4 := HBz.out.cell 4; have c5 := HBz.out.cell 5; have c6 := HBz.out.cell 6; have c7 := HBz.out.cell 7; have c8 := HBz.out.cell 8
            simp only [List.getElem?_toArray, List.getElem?_cons_zero, List.getElem?_cons_succ] at c0 c1 c2 c3 c4 c5 c6 c7 c8
            go_wp2_with fail
            clear c0 c1 c2 c3 c4 c5 c6 c7 c8
            refine (copied11 (⟨⟨xage, xopts, k1, k2, k3, xseq, xsum, xlen⟩, xA, xn, xc, xB⟩ : SE) w8 HXz.out).mono ?_
            rintro e w9 ⟨s', rfl, hcp, hb9⟩
            have HCp := Lib.hid hcp
            have HR9 := Lib.hid (own_kept HR8.out (Kept.of_new hb9 (fun _ => False)) (fun _ _ h => h))
            have HB9 := Lib.hid (below_then HB8.out hb9)
            have hsz8 : w5.heap.size ≤ w8.heap.size := HB8.out.size
            clear hcp hb9 HR8 HQz HXz HBz
            have hb10 : Below w9.heap.size w9 (w9.alloc (.cells #[.int .u16 s'.h.age, .int .u8 s'.h.opts, .int .u8 s'.h.typ, .int .u32 s'.h.id, .int .u32 s'.h.adv, .int .i32 s'.h.seq, .int .u16 s'.h.sum, .int .u16 s'.h.len, .slice s'.A s'.n s'.c, .int .i64 now] 108)) := (Below.refl _ _).alloc (Nat.le_refl _) _
            have HXr : Hid (Reads (w9.alloc (.cells #[.int .u16 s'.h.age, .int .u8 s'.h.opts, .int .u8 s'.h.typ, .int .u32 s'.h.id, .int .u32 s'.h.adv, .int .i32 s'.h.seq, .int .u16 s'.h.sum, .int .u16 s'.h.len, .slice s'.A s'.n s'.c, .int .i64 now] 108)) (w9.heap.size + 1) 10 (some ⟨w9.heap.size, 0, none⟩) 1 (oneL ⟨s', now⟩)) :=
              Lib.hid ⟨rfl, fun _ => ⟨_, rfl, Nat.lt_succ_self _, fun j u hu => by rw [add_none, Nat.zero_add, (Blk.new w9 108 #[.int .u16 s'.h.age, .int .u8 s'.h.opts, .int .u8 s'.h.typ, .int .u32 s'.h.id, .int .u32 s'.h.adv, .int .i32 s'.h.seq, .int .u16 s'.h.sum, .int .u16 s'.h.len, .slice s'.A s'.n s'.c, .int .i64 now]).cell]; simpa [oneL] using hu⟩⟩
            have HR10 := Lib.hid (HR9.out.alloc (.cells #[.int .u16 s'.h.age, .int .u8 s'.h.opts, .int .u8 s'.h.typ, .int .u32 s'.h.id, .int .u32 s'.h.adv, .int .i32 s'.h.seq, .int .u16 s'.h.sum, .int .u16 s'.h.len, .slice s'.A s'.n s'.c, .int .i64 now] 108))
            have HO10 := Lib.hid (HCp.out.ok.later hb10)
            have HB10 := Lib.hid (below_then HB9.out hb10)
            have hsz9 : w5.heap.size ≤ w9.heap.size := HB9.out.size
            clear hb10 HR9 HB9
            go_wp2_with (first | (at_builtin; refine wpList_app el_one rfl (.tmp 75) (.tmp 80) rfl HR10.out rfl HXr.out rfl (oneL_one _) (by simp only [maxLen]; omega) (by omega) (by rw [World.size_alloc]; omega) ?_; intro v1 w11 ho11 hb11 hg11 _; have HB11 := Lib.hid (HB10.out.trans hb11); have HR11 := Lib.hid ho11; have HO11 := Lib.hid (HO10.out.grown HR10.out (by decide) hg11); clear ho11 hb11 hg11 HXr HR10 HO10 HB10; have HQ11 := Lib.hid (HQ5.out.later HB11.out); have g0 := HQ11.out.blk.cell 0; simp only [List.getElem?_toArray, List.getElem?_cons_zero, List.getElem?_cons_succ] at g0; have hinc : (i : Int) ≤ n := (by omega); have HRd := Lib.hid (HQ11.out.tail (i := i) HL.out hi)) | (at_builtin; go_must (refine wpList_app el_one rfl (.tmp 82) (.tmp 88) rfl HR11.out rfl HRd.out rfl (flatG_one oneL_one _) (by simp only [maxLen]; omega) (by omega) (by have := HB11.out.size; omega) ?_); intro v2 w12 ho12 hb12 hg12 _; obtain ⟨A2, c2, rfl, -⟩ := (OwnW.of_own ho12).shape; have HB12 := Lib.hid (HB11.out.trans hb12); have HR12 := Lib.hid ho12; have HO12 := Lib.hid (HO11.out.grown HR11.out (by decide) hg12); clear ho12 hb12 hg12 HRd HR11 HO11 HB11 HQ11 g0; have HQ12 := Lib.hid (HQ5.out.later HB12.out); have g0 := HQ12.out.blk.cell 0; have f0 := HQ12.out.blk.frozen 0; simp only [List.getElem?_toArray, List.getElem?_cons_zero, List.getElem?_cons_succ] at g0))
            all_goals
              go_ret
              have hck : s'.key = (k1, k2, k3) := by show (s'.h.typ, s'.h.id, s'.h.adv) = _; rw [HCp.out.h]
              have hno : ∀ z ∈ xs, z.s.key ≠ (k1, k2, k3) := fun z hz e => by
                have h := HR.out
                unfold rowAt at h
                rw [List.find?_eq_none] at h
                exact h z hz (decide_eq_true e)
              have hbase : base ≤ w5.heap.size := Nat.le_trans hbs HB5.out.size
              have hins : AscL (xs.take i ++ [(⟨s', now⟩ : OneE)] ++ xs.drop i) ∧ ∀ k, rowAt (xs.take i ++ [(⟨s', now⟩ : OneE)] ++ xs.drop i) k = if k = s'.key then some (⟨s', now⟩ : OneE) else rowAt xs k :=
                HA.out.ins (y := ⟨s', now⟩) (fun j x hj hx => (by show ltK x.s.key s'.key = true; rw [hck]; exact hlow.out j x hj hx)) (fun x hx => (by show ltK x.s.key s'.key = false; rw [hck]; exact HST.out x hx)) (fun x hx => (by show x.s.key ≠ s'.key; rw [hck]; exact hno x hx))
              have hlen : (xs.take i ++ [(⟨s', now⟩ : OneE)] ++ xs.drop i).length = i + 1 + (n - i) := by
                rw [List.length_append, List.length_append, List.length_take, List.length_drop, List.length_singleton, HL.out, Nat.min_eq_left hi]
              refine Or.inl ⟨s', .slice A2 (i + 1 + (n - i)) c2, xs.take i ++ [(⟨s', now⟩ : OneE)] ++ xs.drop i, rfl, ⟨⟨HQ12.out.blk.set_ 0 _, ?_, fun z hz => ?_⟩, hins, HCp.out.h, HCp.out.B, HCp.out.n, ?_, ?_, ?_, .inr (by rw [HL.out]; omega), ?_⟩⟩
              · rw [hlen, List.flatMap_append, List.flatMap_append, List.flatMap_singleton]
                exact own_mono (own_cells HR12.out HQ12.out.blk (by decide) 0 _) hbase
              · have hz2 : z ∈ xs ∨ z = ⟨s', now⟩ := by
                  rcases List.mem_append.1 hz with hz | hz
                  · rcases List.mem_append.1 hz with hz | hz
                    · exact .inl (List.mem_of_mem_take hz)
                    · exact .inr (List.mem_singleton.1 hz)
                  · exact .inl (List.mem_of_mem_drop hz)
                rcases hz2 with h1 | h1
                · have h2 := HQ12.out.own z h1
                  exact ⟨⟨h2.1.head, own_cells h2.1.body HQ12.out.blk (by decide) 0 _, h2.1.oct, h2.1.len⟩, h2.2⟩
                · subst h1
                  exact ⟨⟨HO12.out.head, own_mono (own_cells HO12.out.body HQ12.out.blk (by decide) 0 _) (Nat.le_trans hbase hsz8), HO12.out.oct, HO12.out.len⟩, hn⟩
              · exact ⟨HO12.out.head, own_mono (own_cells HO12.out.body HQ12.out.blk (by decide) 0 _) (Nat.le_trans HB5.out.size hsz8), HO12.out.oct, HO12.out.len⟩
              · exact (Kept.of_new (below_then HB5.out HB12.out) (fun b => b = g ∨ _)).setCell (p := ⟨g, 0, none⟩) (fun _ => .inl rfl) _
              · right
                rcases HR12.out.2 with ⟨_, h0⟩ | ⟨gg, cap, cur, hv, hgb, _⟩
                · omega
                · exact ⟨gg, by rw [hv]; rfl, Nat.le_trans HB5.out.size hgb⟩
              · rw [hlen, if_neg (by show ¬ (rowAt xs (k1, k2, k3)).isSome = true; rw [HR.out]; simp), HL.out]
                omega
        · have dlt : decide ((i : Int) < n) = false := decide_eq_false (by omega)
          have hz : ∀ z, xs[i]? = some z → ltK z.s.key (k1, k2, k3) = false := fun z hz => by
            have := (List.getElem?_eq_some_iff.1 hz).1
            have := HL.out
            omega
          have HST := Lib.hid hz
          clear hz
          go_wp2_with fail
          have hbd : Below wj.heap.size wj wj.drew := (Below.refl _ _).drew
          have HS : Hid ((fun W : World => Blk W g 31 #[.slice A n c, .int .i64 most]) wj.drew) := Lib.hid (HQj.out.blk.later hbd)
          have HB8 := Lib.hid hb.out.drew
          have HR8 := Lib.hid (own_kept hrow.out (Kept.of_new hbd (fun _ => False)) (fun _ _ h => h))
          clear hbd hb hrow HKj HQj
          refine wp_region_s (fun W : World => Blk W g 31 #[.slice A n c, .int .i64 most]) [(0, true), (1, true), (2, true), (3, true), (4, true), (5, true), (6, true), (7, true), (8, true), (9, true), (10, true), (12, true), (11, true), (13, true), (14, true), (15, true), (16, true), (18, true), (17, false), (19, false), (20, true), (21, true)] (by kernel_rfl) (fun _ d _ _ _ h => by cases d <;> exact h) ?_
          simp only [List.map_cons, List.map_nil, nthOp_zero, nthOp_succ]
          generalize wj.drew = w8 at *
          refine wpS_take HS (by kernel_rfl) (by intro W hW; clear hW; go_simp; try with_reducible rfl) ?_
          refine wpS_take HS (by kernel_rfl) (by intro W hW; clear hW; go_simp; try with_reducible rfl) ?_
          refine wpS_take HS (by kernel_rfl) (by intro W hW; clear hW; go_simp; try with_reducible rfl) ?_
          refine wpS_take HS (by kernel_rfl) (by intro W hW; clear hW; go_simp; try with_reducible rfl) ?_
          refine wpS_take HS (by kernel_rfl) (by intro W hW; have g0 := hW.cell 0; have g1 := hW.cell 1; simp only [List.getElem?_toArray, List.getElem?_cons_zero, List.getElem?_cons_succ] at g0 g1; clear hW; go_simp; try with_reducible rfl) ?_
          refine wpS_take HS (by kernel_rfl) (by intro W hW; have g0 := hW.cell 0; have g1 := hW.cell 1; simp only [List.getElem?_toArray, List.getElem?_cons_zero, List.getElem?_cons_succ] at g0 g1; clear hW; go_simp; try with_reducible rfl) ?_
          refine wpS_take HS (by kernel_rfl) (by intro W hW; have g0 := hW.cell 0; have g1 := hW.cell 1; simp only [List.getElem?_toArray, List.getElem?_cons_zero, List.getElem?_cons_succ] at g0 g1; clear hW; go_simp; try with_reducible rfl) ?_
          go_simp
          refine wpS_take HS (by kernel_rfl) (by intro W hW; clear hW; go_simp; try with_reducible rfl) ?_
          refine wpS_skip HS (by kernel_rfl) ?_
          refine wpS_skip HS (by kernel_rfl) ?_
          refine wpS_skip HS (by kernel_rfl) ?_
          refine wpS_skip HS (by kernel_rfl) ?_
          refine wpS_skip HS (by kernel_rfl) ?_
          refine wpS_skip HS (by kernel_rfl) ?_
          refine wpS_skip HS (by kernel_rfl) ?_
          refine wpS_skip HS (by kernel_rfl) ?_
          refine wpS_skip HS (by kernel_rfl) ?_
          refine wpS_skip HS (by kernel_rfl) ?_
          go_simp
          refine wpS_do fun K hK => ?_
          go_wp2_with fail
          refine hK.out _ _ HS.out ?_
          clear hK K
          go_simp
          refine wpS_do fun K hK => ?_
          go_wp2_with fail
          refine hK.out _ _ HS.out ?_
          clear hK K
          go_simp
          refine wpS_skip HS (by kernel_rfl) ?_
          refine wpS_take HS (by kernel_rfl) (by intro W hW; clear hW; go_simp; try with_reducible rfl) ?_
          refine wpS_nil ?_
          go_simp
          clear HS
          have HQz := Lib.hid (HQ5.out.later HB8.out)
          have HXz := Lib.hid (HX5.out.later HB8.out)
          have HBz := Lib.hid (HBx5.out.later HB8.out)
          have c0 := HBz.out.cell 0; have c1 := HBz.out.cell 1; have c2 := HBz.out.cell 2; have c3 := HBz.out.cell 3; have c4 := HBz.out.cell 4; have c5 := HBz.out.cell 5; have c6 := HBz.out.cell 6; have c7 := HBz.out.cell 7; have c8 := HBz.out.cell 8
          simp only [List.getElem?_toArray, List.getElem?_cons_zero, List.getElem?_cons_succ] at c0 c1 c2 c3 c4 c5 c6 c7 c8
          go_wp2_with fail
          clear c0 c1 c2 c3 c4 c5 c6 c7 c8
          refine (copied11 (⟨⟨xage, xopts, k1, k2, k3, xseq, xsum, xlen⟩, xA, xn, xc, xB⟩ : SE) w8 HXz.out).mono ?_
          rintro e w9 ⟨s', rfl, hcp, hb9⟩
          have HCp := Lib.hid hcp
          have HR9 := Lib.hid (own_kept HR8.out (Kept.of_new hb9 (fun _ => False)) (fun _ _ h => h))
          have HB9 := Lib.hid (below_then HB8.out hb9)
          have hsz8 : w5.heap.size ≤ w8.heap.size := HB8.out.size
          clear hcp hb9 HR8 HQz HXz HBz
          have hb10 : Below w9.heap.size w9 (w9.alloc (.cells #[.int .u16 s'.h.age, .int .u8 s'.h.opts, .int .u8 s'.h.typ, .int .u32 s'.h.id, .int .u32 s'.h.adv, .int .i32 s'.h.seq, .int .u16 s'.h.sum, .int .u16 s'.h.len, .slice s'.A s'.n s'.c, .int .i64 now] 108)) := (Below.refl _ _).alloc (Nat.le_refl _) _
          have HXr : Hid (Reads (w9.alloc (.cells #[.int .u16 s'.h.age, .int .u8 s'.h.opts, .int .u8 s'.h.typ, .int .u32 s'.h.id, .int .u32 s'.h.adv, .int .i32 s'.h.seq, .int .u16 s'.h.sum, .int .u16 s'.h.len, .slice s'.A s'.n s'.c, .int .i64 now] 108)) (w9.heap.size + 1) 10 (some ⟨w9.heap.size, 0, none⟩) 1 (oneL ⟨s', now⟩)) :=
            Lib.hid ⟨rfl, fun _ => ⟨_, rfl, Nat.lt_succ_self _, fun j u hu => by rw [add_none, Nat.zero_add, (Blk.new w9 108 #[.int .u16 s'.h.age, .int .u8 s'.h.opts, .int .u8 s'.h.typ, .int .u32 s'.h.id, .int .u32 s'.h.adv, .int .i32 s'.h.seq, .int .u16 s'.h.sum, .int .u16 s'.h.len, .slice s'.A s'.n s'.c, .int .i64 now]).cell]; simpa [oneL] using hu⟩⟩
          have HR10 := Lib.hid (HR9.out.alloc (.cells #[.int .u16 s'.h.age, .int .u8 s'.h.opts, .int .u8 s'.h.typ, .int .u32 s'.h.id, .int .u32 s'.h.adv, .int .i32 s'.h.seq, .int .u16 s'.h.sum, .int .u16 s'.h.len, .slice s'.A s'.n s'.c, .int .i64 now] 108))
          have HO10 := Lib.hid (HCp.out.ok.later hb10)
          have HB10 := Lib.hid (below_then HB9.out hb10)
          have hsz9 : w5.heap.size ≤ w9.heap.size := HB9.out.size
          clear hb10 HR9 HB9
          go_wp2_with (first | (at_builtin; refine wpList_app el_one rfl (.tmp 75) (.tmp 80) rfl HR10.out rfl HXr.out rfl (oneL_one _) (by simp only [maxLen]; omega) (by omega) (by rw [World.size_alloc]; omega) ?_; intro v1 w11 ho11 hb11 hg11 _; have HB11 := Lib.hid (HB10.out.trans hb11); have HR11 := Lib.hid ho11; have HO11 := Lib.hid (HO10.out.grown HR10.out (by decide) hg11); clear ho11 hb11 hg11 HXr HR10 HO10 HB10; have HQ11 := Lib.hid (HQ5.out.later HB11.out); have g0 := HQ11.out.blk.cell 0; simp only [List.getElem?_toArray, List.getElem?_cons_zero, List.getElem?_cons_succ] at g0; have hinc : (i : Int) ≤ n := (by omega); skip) | (at_builtin; go_must (refine wpList_app el_one rfl (.tmp 82) (.tmp 88) rfl HR11.out rfl (show Reads w11 0 10 _ (n - i) ((xs.drop i).flatMap oneL) from ⟨by rw [flatG_len oneL_len, List.length_drop, HL.out], fun h => absurd h (by omega)⟩) rfl (flatG_one oneL_one _) (by simp only [maxLen]; omega) (by omega) (by have := HB11.out.size; omega) ?_); intro v2 w12 ho12 hb12 hg12 _; obtain ⟨A2, c2, rfl, -⟩ := (OwnW.of_own ho12).shape; have HB12 := Lib.hid (HB11.out.trans hb12); have HR12 := Lib.hid ho12; have HO12 := Lib.hid (HO11.out.grown HR11.out (by decide) hg12); clear ho12 hb12 hg12 HR11 HO11 HB11 HQ11 g0; have HQ12 := Lib.hid (HQ5.out.later HB12.out); have g0 := HQ12.out.blk.cell 0; have f0 := HQ12.out.blk.frozen 0; simp only [List.getElem?_toArray, List.getElem?_cons_zero, List.getElem?_cons_succ] at g0))
          all_goals
            go_ret
            have hck : s'.key = (k1, k2, k3) := by show (s'.h.typ, s'.h.id, s'.h.adv) = _; rw [HCp.out.h]
            have hno : ∀ z ∈ xs, z.s.key ≠ (k1, k2, k3) := fun z hz e => by
              have h := HR.out
              unfold rowAt at h
              rw [List.find?_eq_none] at h
              exact h z hz (decide_eq_true e)
            have hbase : base ≤ w5.heap.size := Nat.le_trans hbs HB5.out.size
            have hins : AscL (xs.take i ++ [(⟨s', now⟩ : OneE)] ++ xs.drop i) ∧ ∀ k, rowAt (xs.take i ++ [(⟨s', now⟩ : OneE)] ++ xs.drop i) k = if k = s'.key then some (⟨s', now⟩ : OneE) else rowAt xs k :=
              HA.out.ins (y := ⟨s', now⟩) (fun j x hj hx => (by show ltK x.s.key s'.key = true; rw [hck]; exact hlow.out j x hj hx)) (fun x hx => (by show ltK x.s.key s'.key = false; rw [hck]; exact HST.out x hx)) (fun x hx => (by show x.s.key ≠ s'.key; rw [hck]; exact hno x hx))
            have hlen : (xs.take i ++ [(⟨s', now⟩ : OneE)] ++ xs.drop i).length = i + 1 + (n - i) := by
              rw [List.length_append, List.length_append, List.length_take, List.length_drop, List.length_singleton, HL.out, Nat.min_eq_left hi]
            refine Or.inl ⟨s', .slice A2 (i + 1 + (n - i)) c2, xs.take i ++ [(⟨s', now⟩ : OneE)] ++ xs.drop i, rfl, ⟨⟨HQ12.out.blk.set_ 0 _, ?_, fun z hz => ?_⟩, hins, HCp.out.h, HCp.out.B, HCp.out.n, ?_, ?_, ?_, .inr (by rw [HL.out]; omega), ?_⟩⟩
            · rw [hlen, List.flatMap_append, List.flatMap_append, List.flatMap_singleton]
              exact own_mono (own_cells HR12.out HQ12.out.blk (by decide) 0 _) hbase
            · have hz2 : z ∈ xs ∨ z = ⟨s', now⟩ := by
                rcases List.mem_append.1 hz with hz | hz
                · rcases List.mem_append.1 hz with hz | hz
                  · exact .inl (List.mem_of_mem_take hz)
                  · exact .inr (List.mem_singleton.1 hz)
                · exact .inl (List.mem_of_mem_drop hz)
              rcases hz2 with h1 | h1
              · have h2 := HQ12.out.own z h1
                exact ⟨⟨h2.1.head, own_cells h2.1.body HQ12.out.blk (by decide) 0 _, h2.1.oct, h2.1.len⟩, h2.2⟩
              · subst h1
                exact ⟨⟨HO12.out.head, own_mono (own_cells HO12.out.body HQ12.out.blk (by decide) 0 _) (Nat.le_trans hbase hsz8), HO12.out.oct, HO12.out.len⟩, hn⟩
            · exact ⟨HO12.out.head, own_mono (own_cells HO12.out.body HQ12.out.blk (by decide) 0 _) (Nat.le_trans HB5.out.size hsz8), HO12.out.oct, HO12.out.len⟩
            · exact (Kept.of_new (below_then HB5.out HB12.out) (fun b => b = g ∨ _)).setCell (p := ⟨g, 0, none⟩) (fun _ => .inl rfl) _
            · right
              rcases HR12.out.2 with ⟨_, h0⟩ | ⟨gg, cap, cur, hv, hgb, _⟩
              · omega
              · exact ⟨gg, by rw [hv]; rfl, Nat.le_trans HB5.out.size hgb⟩
            · rw [hlen, if_neg (by show ¬ (rowAt xs (k1, k2, k3)).isSome = true; rw [HR.out]; simp), HL.out]
              omega
end Go.Proofs.YtpncbggjngamgaaGreatDoor
namespace Go.Proofs.YtpncbggjngamgaaGreatDoor
set_option linter.unusedVariables false
open Go.RowKit

theorem Reads.preK {w : World} {B size n k : Nat} {A : Option Addr} {xs : List Value} (h : Reads w B size A n xs) (hk : k ≤ n) : Reads w B size A k (xs.take (k * size)) := by
  refine ⟨by rw [List.length_take, h.1]; exact Nat.min_eq_left (Nat.mul_le_mul_right _ hk), fun hn => ?_⟩
  obtain ⟨ad, rfl, hb, hcell⟩ := h.2 (by omega)
  refine ⟨ad, rfl, hb, fun j u hu => hcell j u ?_⟩
  rw [List.getElem?_take] at hu
  split at hu
  · exact hu
  · cases hu
theorem flat_take {α : Type} {cs : α → List Value} {k : Nat} (hk : ∀ a, (cs a).length = k) : ∀ (L : List α) (i : Nat), (L.flatMap cs).take (i * k) = (L.take i).flatMap cs := by
  intro L
  induction L with
  | nil => intro i; simp
  | cons a r ih =>
    intro i
    cases i with
    | zero => simp
    | succ i =>
      have e1 : (i + 1) * k = (cs a).length + i * k := by rw [Nat.add_mul, hk a]; omega
      rw [List.flatMap_cons, e1, List.take_length_add_append, List.take_succ_cons, List.flatMap_cons, ih i]
theorem RfS.front {base : Nat} {w : World} {g n c i : Nat} {ad : Addr} {most : Int} {xs : List OneE} (q : RfS base w g (.slice (some ad) n c) most xs) (hl : xs.length = n) (hi : i ≤ n) :
    Reads w w.heap.size 10 (some ad) i ((xs.take i).flatMap oneL) := by
  have h := q.row
  rw [hl] at h
  have h2 := Reads.preK (Reads.of_own h) (k := i) hi
  rw [flat_take oneL_len] at h2
  exact h2
theorem RfS.tailIf {base : Nat} {w : World} {g gr n c i : Nat} {most : Int} {xs : List OneE} (q : RfS base w g (.slice (some ⟨gr, 0, none⟩) n c) most xs) (hl : xs.length = n) (hi : i ≤ n) :
    Reads w w.heap.size 10 (if c = i then some ⟨gr, 0, none⟩ else some ⟨gr, i * 10, none⟩) (n - i) ((xs.drop i).flatMap oneL) := by
  have h := q.row
  rw [hl] at h
  have h2 := Reads.cut (Reads.of_own h) (k := i) (cap := c) hi (by have := q.shape; obtain ⟨A, n', c', e, _, h1, _⟩ := this; injection e with _ e2 e3; omega)
  rw [flat_drop oneL_len, Option.map_some, add_none, Nat.zero_add] at h2
  exact h2
/-- What Drop leaves of a key that is there. -/
structure DropR (base : Nat) (w w' : World) (g : Nat) (v : Value) (most : Int) (xs : List OneE) (k : Ky3) (v' : Value) (xs' : List OneE) : Prop where
  q : RfS base w' g v' most xs'
  row : CutRow xs xs' k
  there : (rowAt xs k).isSome = true
  len : xs'.length + 1 = xs.length
  k : Kept (fun b => b = g) w w'
  vb : ∀ b, v'.ownBlock = some b → w.heap.size ≤ b
def DropP (base : Nat) (w w' : World) (g : Nat) (v : Value) (most : Int) (xs : List OneE) (k : Ky3) (e : Ending) : Prop :=
  (∃ v' xs', e = .returned (.bool true) ∧ DropR base w w' g v most xs k v' xs') ∨ (e = .returned (.bool false) ∧ rowAt xs k = none ∧ Below w.heap.size w w')
set_option maxRecDepth 100000 in
set_option maxHeartbeats 8000000 in
theorem drop11 (base : Nat) (w : World) (g : Nat) (v : Value) (most : Int) (xs : List OneE) (q : RfS base w g v most xs) (hA : AscL xs) (hbs : base ≤ w.heap.size) (hN : xs.length ≤ 4096) (k : Ky3) :
    Calls Tryz.prog 23 #[.pointer (some ⟨g, 0, none⟩), keyV k] w fun e w' => DropP base w w' g v most xs k e := by
  obtain ⟨k1, k2, k3⟩ := k
  obtain ⟨A, n, c, rfl, hl, hc1, hc2⟩ := q.shape
  have hb1 : Below w.heap.size w (w.alloc (.cells #[.int .u8 k1, .int .u32 k2, .int .u32 k3] 68)) := (Below.refl _ _).alloc (Nat.le_refl _) _
  have HQ := Lib.hid (q.later hb1)
  have hk : Blk (w.alloc (.cells #[.int .u8 k1, .int .u32 k2, .int .u32 k3] 68)) w.heap.size 68 #[.int .u8 k1, .int .u32 k2, .int .u32 k3] := Blk.new _ _ _
  have b0 := hk.cell 0; have b1 := hk.cell 1; have b2 := hk.cell 2
  simp only [List.getElem?_toArray, List.getElem?_cons_zero, List.getElem?_cons_succ] at b0 b1 b2
  have HB1 := Lib.hid hb1
  have HL := Lib.hid hl
  have HA := Lib.hid hA
  have hN2 : n ≤ 4096 := by omega
  clear q hb1 hl hk hA hN
  go_enter Tryz.func23, Tryz.ntmps23
  go_wp2_with fail
  refine (find11 base _ g _ most xs HQ.out (k1, k2, k3)).mono ?_
  rintro e w2 ⟨z, rfl, hz, hb2⟩
  have HQ2 := Lib.hid (HQ.out.later hb2)
  have HB2 := Lib.hid (below_then HB1.out hb2)
  clear hb2 HQ HB1 b0 b1 b2
  rcases rowAt_of hz with ⟨i, x, rfl, hx, hr⟩ | ⟨rfl, hr⟩
  · have hin : i < n := by have := (List.getElem?_eq_some_iff.1 hx).1; have := HL.out; omega
    have hinI : (i : Int) ≤ n := by omega
    have hinJ : (i : Int) + 1 ≤ n := by omega
    have HR := Lib.hid (And.intro hx hr)
    have hrow := HQ2.out.row
    rcases hrow.2 with ⟨_, h0⟩ | ⟨gr, cap, cur, hv, hbg, -⟩
    · exact absurd h0 (by have := HL.out; omega)
    injection hv with hv1 hv2 hv3
    subst hv1 hv3
    have wi : IntKind.i64.wrap ((i : Int) + 1) = i + 1 := by rw [IntKind.wrap_i64]; omega
    have di : decide ((i : Int) < 0) = false := decide_eq_false (by omega)
    have HF := Lib.hid (HQ2.out.front HL.out (Nat.le_of_lt hin))
    have g0 := HQ2.out.blk.cell 0
    simp only [List.getElem?_toArray, List.getElem?_cons_zero, List.getElem?_cons_succ] at g0
    have HQ0 := HQ2
    have HBa := HB2
    clear hz hx hr hrow hv2 hbg cur
    go_wp2_with (first | (at_builtin; refine wpList_app el_one rfl (.tmp 12) (.tmp 18) rfl (World.ownsRow_nil w2 w2.heap.size 108 10) rfl HF.out rfl (flatG_one oneL_one _) (by simp only [maxLen]; omega) (by omega) (Nat.le_refl _) ?_; intro v3 w3 ho3 hb3 hg3 _; rw [Nat.zero_add, List.nil_append] at ho3; have HR3 := Lib.hid ho3; have HB3 := Lib.hid hb3; clear ho3 hb3 hg3 HF g0; have HQ3 := Lib.hid (HQ0.out.later HB3.out); have ht := HQ3.out.tailIf (i := i + 1) HL.out hin; have HT := Lib.hid ht; clear ht; have g0 := HQ3.out.blk.cell 0; simp only [List.getElem?_toArray, List.getElem?_cons_zero, List.getElem?_cons_succ] at g0) | (at_builtin; go_must (refine wpList_app el_one rfl (.tmp 20) (.tmp 27) rfl HR3.out rfl HT.out rfl (flatG_one oneL_one _) (by simp only [maxLen]; omega) (by omega) (by have := HB3.out.size; omega) ?_); intro v4 w4 ho4 hb4 hg4 _; obtain ⟨A2, c2, rfl, -⟩ := (OwnW.of_own ho4).shape; have HR4 := Lib.hid ho4; have HB4 := Lib.hid (HB3.out.trans hb4); clear ho4 hb4 hg4 HT HR3 HB3 HQ3 g0; have HQ4 := Lib.hid (HQ0.out.later HB4.out); have g0 := HQ4.out.blk.cell 0; have f0 := HQ4.out.blk.frozen 0; simp only [List.getElem?_toArray, List.getElem?_cons_zero, List.getElem?_cons_succ] at g0))
    all_goals
      go_ret
      have hkey := rowAt_some HR.out.2
      have hcut := HA.out.cut HR.out.1
      rw [hkey.2] at hcut
      have hlen : (xs.take i ++ xs.drop (i + 1)).length = i + (n - (i + 1)) := by
        rw [List.length_append, List.length_take, List.length_drop, HL.out, Nat.min_eq_left (Nat.le_of_lt hin)]
      refine Or.inl ⟨.slice A2 (i + (n - (i + 1))) c2, xs.take i ++ xs.drop (i + 1), rfl, ⟨⟨HQ4.out.blk.set_ 0 _, ?_, fun z hz => ?_⟩, hcut, by rw [HR.out.2]; rfl, by rw [hlen, HL.out]; omega, ?_, ?_⟩⟩
      · rw [hlen, List.flatMap_append]
        have h := own_mono (own_cells HR4.out HQ4.out.blk (by decide) 0 (.slice A2 (i + (n - (i + 1))) c2)) (Nat.le_trans hbs HBa.out.size)
        exact h
      · have hz2 : z ∈ xs := by
          rcases List.mem_append.1 hz with hz | hz
          · exact List.mem_of_mem_take hz
          · exact List.mem_of_mem_drop hz
        have h2 := HQ4.out.own z hz2
        exact ⟨⟨h2.1.head, own_cells h2.1.body HQ4.out.blk (by decide) 0 _, h2.1.oct, h2.1.len⟩, h2.2⟩
      · exact (Kept.of_new (below_then HBa.out HB4.out) (fun b => b = g)).setCell (p := ⟨g, 0, none⟩) (fun _ => rfl) _
      · intro b hb
        exact Nat.le_trans HBa.out.size (own_ge HR4.out hb).1
  · clear hz
    go_wp2_with fail
    go_ret
    exact Or.inr ⟨rfl, hr, HB2.out⟩
end Go.Proofs.YtpncbggjngamgaaGreatDoor
namespace Go.Proofs.YtpncbggjngamgaaGreatDoor
set_option linter.unusedVariables false
open Go.RowKit

section
variable {P : Program} {ops : Array Oper} {S : World → Prop} {Q : Exit → Act → World → Prop}
/-- Something is still to come. -/
def Open_ (ops : Array Oper) (listed : Array Bool) : Prop := ∃ m, m < ops.size ∧ listed.getD m true = false
def wpAnyG (P : Program) (ops : Array Oper) (Q : Exit → Act → World → Prop) (S : World → Prop) : Nat → Array Bool → Act → World → Prop
  | 0, listed, a, w => Region.ready .any ops listed = [] ∧ Q .normal a w
  | fuel + 1, listed, a, w => (Region.ready .any ops listed = [] → Q .normal a w) ∧
      ∀ i ∈ Region.ready .any ops listed, wpOp P ops Q i (fun a' w' => (Open_ ops (listed.setIfInBounds i true) → S w') ∧ wpAnyG P ops Q S fuel (listed.setIfInBounds i true) a' w') a w
theorem wpAny_of_g : ∀ (fuel : Nat) (listed : Array Bool) (a : Act) (w : World), wpAnyG P ops Q S fuel listed a w → wpAny P .any ops Q fuel listed a w
  | 0, _, _, _, h => h
  | fuel + 1, _, _, _, h => ⟨h.1, fun i hi => wpOp_mono (fun a' w' h' => wpAny_of_g fuel _ a' w' h'.2) (h.2 i hi)⟩
theorem wpAnyG_all {rs : List Nat} {fuel : Nat} {listed : Array Bool} {a : Act} {w : World} (hr : Region.ready .any ops listed = rs) (hne : rs ≠ [])
    (h : ∀ i ∈ rs, wpOp P ops Q i (fun a' w' => (Open_ ops (listed.setIfInBounds i true) → S w') ∧ wpAnyG P ops Q S fuel (listed.setIfInBounds i true) a' w') a w) : wpAnyG P ops Q S (fuel + 1) listed a w :=
  ⟨fun h0 => absurd (hr ▸ h0) hne, hr ▸ h⟩
theorem wpAnyG_done {listed : Array Bool} {a : Act} {w : World} (hr : Region.ready .any ops listed = []) (h : Q .normal a w) : ∀ fuel, wpAnyG P ops Q S fuel listed a w
  | 0 => ⟨hr, h⟩
  | _ + 1 => ⟨fun _ => h, by rw [hr]; simp⟩

/-- Another operation waits for number i. -/
def waitedFor (ops : Array Oper) (listed : Array Bool) (i : Nat) : Bool :=
  (List.range ops.size).any fun m => m != i && !listed.getD m true && match ops[m]? with
    | some om => om.after.any fun e => Region.binds .any e && e.on == i
    | none => false

theorem wpAnyG_first {i : Nat} {oi : Oper} {v : Value} (hi : ops[i]? = some oi) (hsel : ∀ (j : Nat) (o : Oper) cs b, ops[j]? = some o → o.op ≠ .select cs b)
    (hQ : ∀ c a w, Q (.panic c) (a.put oi.dst v) w → Q (.panic c) a w) :
    ∀ (fuel : Nat) (listed : Array Bool) (a : Act) (w : World), waitedFor ops listed i = true → Region.free .any ops listed i = true → i ∈ Region.ready .any ops listed → YieldsQ P ops S oi v a → S w →
      wpAnyG P ops Q S fuel (listed.setIfInBounds i true) (a.put oi.dst v) w → wpAnyG P ops Q S (fuel + 1) listed a w := by
  intro fuel
  induction fuel with
  | zero =>
    intro listed a w hwt hf hr hy hS H
    refine ⟨fun h => (by rw [h] at hr; cases hr), fun j hj => ?_⟩
    rcases Decidable.em (j = i) with e | e
    · rw [e]; exact hy.wpOp hi hS ⟨fun _ => hS, H⟩
    · have := ready_mono hj e
      rw [H.1] at this
      cases this
  | succ fuel ih =>
    intro listed a w hwt hf hr hy hS H
    refine ⟨fun h => (by rw [h] at hr; cases hr), fun j hj => ?_⟩
    rcases Decidable.em (j = i) with e | e
    · rw [e]; exact hy.wpOp hi hS ⟨fun _ => hS, H⟩
    obtain ⟨hjun, oj, hoj, hall⟩ := mem_ready.1 hj
    have hiun := (mem_ready.1 hr).1
    have hno : ∀ x ∈ oj.after, Region.binds .any x = true → x.on ≠ i := fun x hx hb he => by
      have h1 := hall x hx hb
      rw [he] at h1
      rcases Nat.lt_or_ge i listed.size with h' | h'
      · simp [h'] at hiun h1
        rw [hiun] at h1
        cases h1
      · simp [Array.getElem?_eq_none h'] at h1
    -- the one that waits for i is not j, and is still to come
    unfold waitedFor at hwt
    simp only [List.any_eq_true, List.mem_range, Bool.and_eq_true, bne_iff_ne, Bool.not_eq_true'] at hwt
    obtain ⟨m, hm, ⟨hmi, hmun⟩, hmw⟩ := hwt
    have hmj : j ≠ m := by
      rintro rfl
      rw [hoj] at hmw
      obtain ⟨x, hx, hxb⟩ := Array.any_eq_true'.1 hmw
      simp only [Bool.and_eq_true, beq_iff_eq] at hxb
      exact hno x hx hxb.1 hxb.2
    have hopen : Open_ ops ((listed.setIfInBounds i true).setIfInBounds j true) := ⟨m, hm, by rw [getD_set_ne true hmj, getD_set_ne true (Ne.symm hmi)]; exact hmun⟩
    have hwt' : waitedFor ops (listed.setIfInBounds j true) i = true := by
      unfold waitedFor
      simp only [List.any_eq_true, List.mem_range, Bool.and_eq_true, bne_iff_ne, Bool.not_eq_true']
      exact ⟨m, hm, ⟨hmi, by rw [getD_set_ne true hmj]; exact hmun⟩, hmw⟩
    have hap := Region.free_spec hi hf j oj hoj e hjun hno
    have hfalse : YieldsIf P ops (fun _ => False) oi v a := by
      rcases hy with ⟨h1, _⟩ | h1
      · exact .inl ⟨h1, fun _ h => h.elim⟩
      · exact .inr h1
    have h2 := wpOp_tell hoj (wpOp_putIf hoj hap (fun cs b => hsel i oi cs b hi) (fun cs b => hsel j oj cs b hoj) hQ hfalse (H.2 j (ready_mono hj e)))
    refine wpOp_mono (fun a' w' h3 => ?_) h2
    obtain ⟨⟨_, hS0, h3⟩, ds, u, rfl⟩ := h3
    have hS' := hS0 hopen
    refine ⟨fun _ => hS', ih (listed.setIfInBounds j true) _ w' hwt' ?_ (ready_mono hr (Ne.symm e)) ?_ hS' ?_⟩
    · unfold Region.free at hf ⊢
      rw [hi] at hf ⊢
      simp only [List.all_eq_true, List.mem_range] at hf ⊢
      intro k hk
      have := hf k hk
      simp only [Bool.or_eq_true] at this ⊢
      rcases this with (h | h) | h
      · exact .inl (.inl h)
      · refine .inl (.inr ?_)
        by_cases hjk : j = k
        · subst hjk
          rw [hjun] at h
          cases h
        · rw [getD_set_ne true hjk]; exact h
      · exact .inr h
    · have h3' := (Oper.apart_spec hap).2.2
      refine hy.same ?_ ?_
      · rw [execOp_put oi (fun cs b => hsel i oi cs b hi) _ oj.dst u h3', act_defers]
      · rw [wanted_put oi _ oj.dst u h3']
    · rw [Array.setIfInBounds_comm _ _ e]
      exact h3

def okStepsG (ops : Array Oper) : Array Bool → List RStep → Bool
  | listed, [] => (Region.ready .any ops listed).isEmpty && (List.range ops.size).all fun m => listed.getD m true
  | listed, .take i :: r => waitedFor ops listed i && Region.free .any ops listed i && (Region.ready .any ops listed).contains i && okStepsG ops (listed.setIfInBounds i true) r
  | listed, .one i :: r => (Region.ready .any ops listed == [i]) && okStepsG ops (listed.setIfInBounds i true) r
  | _, .two _ _ :: _ => false
def wpG (P : Program) (ops : Array Oper) (Q : Exit → Act → World → Prop) (S : World → Prop) : List RNode → Act → World → Prop
  | [], a, w => Q .normal a w
  | .take o :: r, a, w => ∃ v, YieldsQ P ops S o v a ∧ S w ∧ wpG P ops Q S r (a.put o.dst v) w
  | .one o :: r, a, w => ∀ Q' : Exit → Act → World → Prop, (∀ a w, (r ≠ [] → S w) → wpG P ops Q S r a w → Q' .normal a w) → wpList P ops Q' [o] a w
  | .two _ _ :: _, _, _ => False
theorem wpAny_gs (hs : Region.noSelect ops = true) (hQ : ∀ c d v a w, Q (.panic c) (Act.put a d v) w → Q (.panic c) a w) : ∀ (π : List RStep) (listed : Array Bool) (a : Act) (w : World),
    okStepsG ops listed π = true → wpG P ops Q S (π.map (RStep.node ops.toList)) a w → wpAnyG P ops Q S (π.map RStep.count).sum listed a w := by
  have get : ∀ i, i < ops.size → ops[i]? = some (nthOp ops.toList i) := fun i hlt => by
    have := nthOp_get ops.toList i (by simpa using hlt)
    simpa using this
  intro π
  induction π with
  | nil =>
    intro listed a w ho h
    simp only [okStepsG, Bool.and_eq_true, List.isEmpty_iff] at ho
    exact wpAnyG_done ho.1 h _
  | cons x r ih =>
    intro listed a w ho h
    cases x with
    | take i =>
      simp only [okStepsG, Bool.and_eq_true] at ho
      obtain ⟨⟨⟨hw, hf⟩, hr⟩, ho⟩ := ho
      obtain ⟨v, hy, hS, hrest⟩ := h
      have hi := get i (ready_lt (by simpa using hr))
      show wpAnyG P ops Q S (1 + (r.map RStep.count).sum) listed a w
      rw [Nat.add_comm]
      exact wpAnyG_first hi (Region.noSelect_spec hs) (fun c a w h => hQ c _ _ a w h) _ listed a w hw hf (by simpa using hr) hy hS (ih _ _ _ ho hrest)
    | one i =>
      simp only [okStepsG, Bool.and_eq_true, beq_iff_eq] at ho
      obtain ⟨hr, ho⟩ := ho
      have hi := get i (ready_lt (by rw [hr]; exact List.mem_singleton.2 rfl))
      show wpAnyG P ops Q S (1 + (r.map RStep.count).sum) listed a w
      rw [Nat.add_comm]
      refine wpAnyG_all hr (by simp) (fun j hj => ?_)
      rw [List.mem_singleton] at hj
      subst hj
      refine wpOp_of_list hi (h _ (fun a w hS hh => ⟨fun hop => hS (fun hnil => ?_), ih _ _ _ ho hh⟩))
      have hrn : r = [] := by simpa using hnil
      subst hrn
      simp only [okStepsG, Bool.and_eq_true, List.all_eq_true, List.mem_range] at ho
      obtain ⟨m, hm, hmu⟩ := hop
      rw [ho.2 m hm] at hmu
      cases hmu
    | two i j => simp [okStepsG] at ho

/-- A region that draws its order, walked step by step, beside S; S need not hold behind the last step. -/
theorem wp_region_g {id : Nat} {a : Act} {w : World} (S : World → Prop) (π : List RStep)
    (hm : (P.follows .mixedOrders && Region.noSelect ops && ((π.map RStep.count).sum == ops.size) && okStepsG ops (Array.replicate ops.size false) π) = true)
    (hQ : ∀ c d v a w, Q (.panic c) (Act.put a d v) w → Q (.panic c) a w)
    (h : wpG P ops Q S (π.map (RStep.node ops.toList)) a w.drew) : (Code.region id ops true).wp P Q a w := by
  simp only [Bool.and_eq_true, beq_iff_eq] at hm
  obtain ⟨⟨⟨h1, h2⟩, h3⟩, h4⟩ := hm
  refine wp_region_any h1 ?_
  rw [← h3]
  exact wpAny_of_g (S := S) _ _ _ _ (wpAny_gs h2 hQ π _ a _ (by rw [h3]; exact h4) h)

variable {r : List RNode} {o o' : Oper} {a : Act} {w : World} {v : Value}
theorem wpG_nil (h : Q .normal a w) : wpG P ops Q S [] a w := h
theorem wpG_take (hS : Hid (S w)) (hw : Region.wanted o (yielded ops a.tmps) = true) (hv : ∀ w, S w → (execOp a.eval o).run P w = .ok (.value v) w) (h : wpG P ops Q S r (a.put o.dst v) w) : wpG P ops Q S (.take o :: r) a w :=
  ⟨v, .inl ⟨hw, fun w hS => .inl (hv w hS)⟩, hS, h⟩
theorem wpG_call (hS : Hid (S w)) (hw : Region.wanted o (yielded ops a.tmps) = true) {f : FuncId} {args : Array Value} (hv : ∀ w, S w → (execOp a.eval o).run P w = .ok (.enter f args) w)
    (hc : ∀ w, S w → Calls P f args w (fun e w' => e = .returned v ∧ w = w')) (h : wpG P ops Q S r (a.put o.dst v) w) : wpG P ops Q S (.take o :: r) a w :=
  ⟨v, .inl ⟨hw, fun w hS => .inr ⟨f, args, hv w hS, hc w hS⟩⟩, hS, h⟩
theorem wpG_do (h : ∀ K : Exit → Act → World → Prop, Hid (∀ a w, S w → wpG P ops Q S r a w → K .normal a w) → wpList P ops K [o] a w) : wpG P ops Q S (.one o :: r) a w := fun Q' hQ' => h Q' (fun a w hS hh => hQ' a w (fun _ => hS) hh)
theorem wpG_last (h : ∀ K : Exit → Act → World → Prop, Hid (∀ a w, Q .normal a w → K .normal a w) → wpList P ops K [o] a w) : wpG P ops Q S [.one o] a w := fun Q' hQ' => h Q' (fun a w hh => hQ' a w (fun h => absurd rfl h) hh)
end
end Go.Proofs.YtpncbggjngamgaaGreatDoor
namespace Go.Proofs.YtpncbggjngamgaaGreatDoor
set_option linter.unusedVariables false
open Go.RowKit

def entO (x : OneE) : Hd × List Int × Int := (x.s.h, x.s.B, x.at_)
/-- Rows that say the same. -/
def SameL (xs ys : List OneE) : Prop := ys.map entO = xs.map entO
theorem SameL.len {xs ys : List OneE} (h : SameL xs ys) : ys.length = xs.length := by have := congrArg List.length h; simpa using this
theorem Link.same_rows {f : Ky3 → Option OneE} : ∀ {xs ys : List OneE}, Link f xs → SameL xs ys → Link f ys := by
  intro xs ys l h
  have hl := h.len
  have hget : ∀ (i : Nat) (y : OneE), ys[i]? = some y → ∃ x, xs[i]? = some x ∧ entO y = entO x := by
    intro i y hy
    have h1 := congrArg (fun l => l[i]?) h
    simp only [List.getElem?_map, hy, Option.map_some] at h1
    cases hx : xs[i]? with
    | none => rw [hx] at h1; cases h1
    | some x => rw [hx] at h1; injection h1 with h1; exact ⟨x, rfl, h1⟩
  have hkey : ∀ {x y : OneE}, entO y = entO x → y.s.key = x.s.key := by
    intro x y e
    have e1 : y.s.h = x.s.h := congrArg (fun p : Hd × List Int × Int => p.1) e
    unfold SE.key
    rw [e1]
  have hA : AscL ys := by
    unfold AscL
    rw [List.pairwise_iff_getElem]
    intro i j hi hj hij
    obtain ⟨x, hx, ex⟩ := hget i _ (List.getElem?_eq_getElem hi)
    obtain ⟨y, hy, ey⟩ := hget j _ (List.getElem?_eq_getElem hj)
    rw [hkey ex, hkey ey]
    exact l.asc i j x y hij hx hy
  refine ⟨hA.asc, l.key, fun k => ?_⟩
  rw [l.same k]
  have hfind : ∀ (xs ys : List OneE), ys.map entO = xs.map entO → (rowAt ys k).map entO = (rowAt xs k).map entO := by
    intro xs
    induction xs with
    | nil => intro ys h; have : ys = [] := by simpa using h
             rw [this]
    | cons x r ih =>
      intro ys h
      cases ys with
      | nil => cases h
      | cons y t =>
        rw [List.map_cons, List.map_cons] at h
        injection h with h1 h2
        unfold rowAt
        rw [List.find?_cons, List.find?_cons, hkey h1]
        by_cases e : x.s.key = k
        · rw [decide_eq_true e]
          show some (entO y) = some (entO x)
          rw [h1]
        · rw [decide_eq_false e]
          exact ih t h2
  have h3 := hfind xs ys h
  exact h3.symm
theorem OneAt.below {w w' : World} {ad : Addr} {x : OneE} {B : Nat} (h : OneAt w ad x) (hb : Below B w w') (hl : ad.block < B) : OneAt w' ad x := by
  obtain ⟨h0, h1, h2, h3, h4, h5, h6, h7, h8, h9⟩ := h
  have H : ∀ (p : Addr) v, p.block < B → w.cell? p = some v → w'.cell? p = some v := fun p v hp e => (hb.cell hp).trans e
  exact ⟨H _ _ hl h0, H _ _ hl h1, H _ _ hl h2, H _ _ hl h3, H _ _ hl h4, H _ _ hl h5, H _ _ hl h6, H _ _ hl h7, H _ _ hl h8, H _ _ hl h9⟩
/-- What Copy has gathered. -/
structure CopR (w : World) (gn : Nat) (most : Int) (xs : List OneE) (iv : Value) (wr : World) : Prop where
  ex : ∃ (i c2 : Nat) (A2 : Option Addr) (ys : List OneE), iv = .int .i64 i ∧ i ≤ xs.length ∧ Hid (Blk wr gn 31 #[.slice A2 i c2, .int .i64 most]) ∧ Hid (wr.ownsRow w.heap.size 108 10 (.slice A2 i c2) i (ys.flatMap oneL)) ∧ Hid (SameL (xs.take i) ys) ∧ Hid (∀ y ∈ ys, y.s.ok w.heap.size wr ∧ (0 ≤ y.at_ ∧ y.at_ ≤ 9223372036854775807))
  below : Hid (Below w.heap.size w wr)
end Go.Proofs.YtpncbggjngamgaaGreatDoor
namespace Go.Proofs.YtpncbggjngamgaaGreatDoor
set_option linter.unusedVariables false
open Go.RowKit

theorem exec_head_ne {o : Oper} {ev : Operand → Value} {x y : Operand} {t : TypeId} (ho : o.op = .binOp .neq 58 x y t) (a b : Hd) (hx : ev x = .agg #[.int .u16 a.age, .int .u8 a.opts, .int .u8 a.typ, .int .u32 a.id, .int .u32 a.adv, .int .i32 a.seq, .int .u16 a.sum, .int .u16 a.len]) (hy : ev y = .agg #[.int .u16 b.age, .int .u8 b.opts, .int .u8 b.typ, .int .u32 b.id, .int .u32 b.adv, .int .i32 b.seq, .int .u16 b.sum, .int .u16 b.len]) (W : World) :
    (execOp ev o).run Tryz.prog W = .ok (.value (.bool (!eqHd a b))) W := by
  unfold execOp
  simp only [ho]
  rw [hx, hy]
  have e1 : (eqGuard .neq 58 x y (.agg #[.int .u16 a.age, .int .u8 a.opts, .int .u8 a.typ, .int .u32 a.id, .int .u32 a.adv, .int .i32 a.seq, .int .u16 a.sum, .int .u16 a.len]) (.agg #[.int .u16 b.age, .int .u8 b.opts, .int .u8 b.typ, .int .u32 b.id, .int .u32 b.adv, .int .i32 b.seq, .int .u16 b.sum, .int .u16 b.len])).run Tryz.prog W = .ok () W := run_eqGuard_agg _ _ _ _ _ _ _ Tryz.eqGuardType58
  have e2 : (Op.equal 58 (.agg #[.int .u16 a.age, .int .u8 a.opts, .int .u8 a.typ, .int .u32 a.id, .int .u32 a.adv, .int .i32 a.seq, .int .u16 a.sum, .int .u16 a.len]) (.agg #[.int .u16 b.age, .int .u8 b.opts, .int .u8 b.typ, .int .u32 b.id, .int .u32 b.adv, .int .i32 b.seq, .int .u16 b.sum, .int .u16 b.len])).run Tryz.prog W = .ok (eqHd a b) W := hd_eq a b W
  simp [binOp, Sem.run_bind, Sem.run_pure, e2, e1, Result.andThen_ok]
set_option maxRecDepth 100000 in
set_option maxHeartbeats 4000000 in
theorem eqHeads_any (A B : Option Addr) (n c m d : Nat) (hs ks : List Hd) (w : World) (hx : Hdl w A n c hs) (hy : Hdl w B m d ks) (he : hs = ks) :
    Calls Tryz.prog 34 #[.slice A n c, .slice B m d] w fun e w' => e = .returned (.bool true) ∧ Below w.heap.size w w' := by
  subst he
  have hnm : n = m := by rw [← hx.len, ← hy.len]
  subst hnm
  have HX := Lib.hid hx
  have HY := Lib.hid hy
  have hc := hx.cap
  have hd := hy.cap
  clear hx hy
  go_enter Tryz.func34, Tryz.ntmps34
  go_wp2
  go_loopw [5] (fun iv wr => ∃ i : Nat, iv = .int .i64 i ∧ i ≤ n ∧ Hid (Below w.heap.size w wr)) (fun iv _ => n - (intOf iv).toNat)
  case atStart => exact ⟨0, rfl, Nat.zero_le _, Lib.hid (Below.refl _ _)⟩
  case round =>
    obtain ⟨i, rfl, hi, hb⟩ := hrel
    by_cases hlt : i < n
    · have hltI : (i : Int) < n := by omega
      obtain ⟨ad, x, hA, hxs, hxa⟩ := (HX.out.later hb.out).at_ hlt
      obtain ⟨bd, y, hB, hys, hya⟩ := (HY.out.later hb.out).at_ hlt
      subst hA hB
      rw [hxs] at hys
      injection hys with hys
      subst hys
      have hbd : Below wr.heap.size wr wr.drew := (Below.refl _ _).drew
      have HS : Hid ((fun W : World => HdAt W (ad.add (i * 8)) x ∧ HdAt W (bd.add (i * 8)) x) wr.drew) := Lib.hid ⟨hxa.later hbd, hya.later hbd⟩
      have HB := Lib.hid hb.out.drew
      clear hxs hxa hya hbd
      go_wp2_with fail
      refine wp_region_s (fun W : World => HdAt W (ad.add (i * 8)) x ∧ HdAt W (bd.add (i * 8)) x) [(0, true), (1, true), (2, true), (4, true), (5, true), (6, true), (3, true), (7, true), (8, true)] (by kernel_rfl) (fun _ d _ _ _ h => by cases d <;> exact h) ?_
      simp only [List.map_cons, List.map_nil, nthOp_zero, nthOp_succ]
      generalize wr.drew = w3 at *
      refine wpS_take HS (by kernel_rfl) (by intro W hW; clear hW; go_simp; try with_reducible rfl) ?_
      refine wpS_take HS (by kernel_rfl) (by intro W hW; clear hW; go_simp; try with_reducible rfl) ?_
      refine wpS_take HS (by kernel_rfl) (by intro W hW; clear hW; go_simp; try with_reducible rfl) ?_
      refine wpS_take HS (by kernel_rfl) (by intro W hW; clear hW; go_simp; try with_reducible rfl) ?_
      refine wpS_take HS (by kernel_rfl) (by intro W hW; clear hW; go_simp; try with_reducible rfl) ?_
      refine wpS_take HS (by kernel_rfl) (by intro W hW; clear hW; go_simp; try with_reducible rfl) ?_
      refine wpS_take HS (by kernel_rfl) (by intro W hW; obtain ⟨q0, q1, q2, q3, q4, q5, q6, q7⟩ := hW.1; go_simp; try with_reducible rfl) ?_
      refine wpS_take HS (by kernel_rfl) (by intro W hW; obtain ⟨q0, q1, q2, q3, q4, q5, q6, q7⟩ := hW.2; go_simp; try with_reducible rfl) ?_
      go_simp
      refine wpS_take HS (by kernel_rfl) (fun W _ => exec_head_ne rfl x x rfl rfl W) ?_
      rw [(eqHd_iff x x).2 rfl]
      refine wpS_nil ?_
      go_simp
      go_wp2_with fail
      go_roundw
      case rel => exact ⟨i + 1, by go_num, by omega, HB⟩
      case measure => simp [intOf]; omega
    · obtain rfl : i = n := by omega
      go_wp2
      go_ret
      exact ⟨rfl, hb.out⟩
end Go.Proofs.YtpncbggjngamgaaGreatDoor
namespace Go.Proofs.YtpncbggjngamgaaGreatDoor
set_option linter.unusedVariables false
open Go.RowKit

/-- What WideBytes leaves: a new block with the bytes and the marks. -/
def WideAt (w w' : World) (xs : List Int) (e : Ending) : Prop :=
  ∃ g, e = .returned (.slice (some ⟨g, 0, none⟩) xs.length (xs.length + 64)) ∧ w.heap.size ≤ g ∧ Blk w' g 5 (u8s (wide xs)).toArray ∧ Below w.heap.size w w'

set_option maxHeartbeats 400000 in
theorem wideBytes_any (A : Option Addr) (n c : Nat) (xs : List Int) (w : World) (hx : Reads w w.heap.size 1 A n (u8s xs)) (hn : n ≤ 1099511627776) :
    Calls Tryz.prog 65 #[.slice A n c] w fun e w' => WideAt w w' xs e := by
  have hlx := hx.u8len
  have hmk := fun W => run_make_row' (P := Tryz.prog) 59 5 _ 1 Tryz.underlying59 info_u8 rfl .i64 .i64 (n + 64) (by omega) (by omega) W
  have ec : ((n + 64 : Nat) : Int) = (n : Int) + 64 := by omega
  rw [ec] at hmk
  have hz0 : madeCells #[.int .u8 0] (n + 64) = Fill (.int .u8 0) (u8s (wide xs)) 0 := by
    rw [Fill.zero, u8s_length, wide_length, hlx]; simp [madeCells, Array.ext_iff, Nat.mod_one]
  rw [hz0] at hmk
  have Hlx := Lib.hid hlx
  clear hlx hz0 ec
  go_enter Tryz.func65, Tryz.ntmps65
  go_wp2
  go_loopw [4] (fun i wr => ∃ k : Nat, i = .int .i64 k ∧ k ≤ n + 64 ∧ Blk wr w.heap.size 5 (Fill (.int .u8 0) (u8s (wide xs)) k) ∧ Below w.heap.size w wr) (fun i _ => n + 64 - (intOf i).toNat)
  case atStart => exact ⟨0, rfl, by omega, Blk.new _ _ _, (Below.refl _ _).alloc (Nat.le_refl _) _⟩
  case round =>
    obtain ⟨k, rfl, hk, hblk, hbel⟩ := hrel
    by_cases hlt : k < n
    · obtain ⟨a, x, rfl, _, hx1, h1⟩ := (hx.below hbel).u8at hlt
      have hwl : k < (u8s (wide xs)).length := by rw [u8s_length, wide_length, Hlx.out]; omega
      have h2 : wr.cell? ⟨w.heap.size, k, none⟩ = some (.int .u8 0) := by rw [hblk.cell, Fill.at_ _ _ hwl]
      have h3 := hblk.frozen k
      clear hwl
      go_wp2
      go_roundw
      case rel =>
        refine ⟨k + 1, by go_num, by omega, ?_, hbel.setCell (Nat.le_refl _) _⟩
        have := hblk.set_ k (.int .u8 x)
        rwa [Fill.set _ _ (u8s_get_of (wide_low hx1))] at this
      case measure => simp [intOf]; omega
    · by_cases hlt2 : k < n + 64
      · have hwl : k < (u8s (wide xs)).length := by rw [u8s_length, wide_length, Hlx.out]; omega
        have h2 : wr.cell? ⟨w.heap.size, k, none⟩ = some (.int .u8 0) := by rw [hblk.cell, Fill.at_ _ _ hwl]
        have h3 := hblk.frozen k
        clear hwl
        go_wp2
        go_roundw
        case rel =>
          refine ⟨k + 1, by go_num, by omega, ?_, hbel.setCell (Nat.le_refl _) _⟩
          have := hblk.set_ k (.int .u8 ((279 + 7 * (k : Int) + 3) % 256))
          rw [Fill.set _ _ (u8s_get_of (wide_high (by rw [Hlx.out]; omega) (by rw [Hlx.out]; omega)))] at this
          exact this
        case measure => simp [intOf]; omega
      · go_wp2
        go_ret
        obtain rfl : k = n + 64 := by omega
        refine ⟨w.heap.size, by rw [Hlx.out]; rfl, Nat.le_refl _, ?_, hbel⟩
        rwa [Fill.full _ _ (by rw [u8s_length, wide_length, Hlx.out]; omega)] at hblk

/-- SpareBytes says yes of what WideBytes made. -/
theorem spareBytes_yes (A : Option Addr) (n c : Nat) (xs : List Int) (w : World) (B : Nat) (hx : Reads w B 1 A (n + 64) (u8s (wide xs))) (hlx : xs.length = n) (hc : n + 64 ≤ c) (hn : n ≤ 1099511627776) :
    Calls Tryz.prog 70 #[.slice A n c] w fun e w' => e = .returned (.bool true) ∧ ∃ k, w' = w.drewN k := by
  have Hlx := Lib.hid hlx
  clear hlx
  go_enter Tryz.func70, Tryz.ntmps70
  go_wp2
  go_loopw [4] (fun i wr => ∃ k : Nat, i = .int .i64 k ∧ n ≤ k ∧ k ≤ n + 64 ∧ ∃ d, wr = w.drewN d) (fun i _ => n + 64 - (intOf i).toNat)
  case atStart => exact ⟨n, rfl, by omega, by omega, 0, rfl⟩
  case round =>
    obtain ⟨k, rfl, hk1, hk2, d, rfl⟩ := hrel
    by_cases hlt : k < n + 64
    · obtain ⟨a, x, rfl, _, hx1, h1⟩ := hx.u8at hlt
      have hxe : x = (279 + 7 * (k : Int) + 3) % 256 := by
        have := hx1.out
        rw [wide_high (by rw [Hlx.out]; omega) (by rw [Hlx.out]; omega)] at this
        injection this with this
        exact this.symm
      have hb : (x == (279 + 7 * (k : Int) + 3) % 256) = true := by simp [hxe]
      clear hxe
      go_wp2
      go_roundw
      case rel => exact ⟨k + 1, by go_num, by omega, by omega, _, rfl⟩
      case measure => simp [intOf]; omega
    · go_wp2
      go_ret
      exact ⟨rfl, _, rfl⟩
end Go.Proofs.YtpncbggjngamgaaGreatDoor
