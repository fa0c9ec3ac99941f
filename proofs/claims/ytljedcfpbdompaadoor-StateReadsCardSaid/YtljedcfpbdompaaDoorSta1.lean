/-
  Heads and states: their bytes.
-/
import Derived.Test.YtljedcfpbdompaaDoorWtr
import Derived.Test.YtljedcfpbdompaaDoorOwnW
import Derived.Test.YtljedcfpbdompaaDoorRgn4
import Derived.Test.YtljedcfpbdompaaDoorFlat
import Derived.Laws.BitsAllLaws
namespace Go.Proofs.YtljedcfpbdompaaDoor
set_option linter.unusedVariables false
open Go.RowKit

/-- A head, as plain data. -/
structure Hd where
  age : Int
  opts : Int
  typ : Int
  id : Int
  adv : Int
  seq : Int
  sum : Int
  len : Int
structure Hd.ok (h : Hd) : Prop where
  age : 0 ≤ h.age ∧ h.age ≤ 65535
  opts : 0 ≤ h.opts ∧ h.opts ≤ 255
  typ : 0 ≤ h.typ ∧ h.typ ≤ 255
  id : 0 ≤ h.id ∧ h.id ≤ 4294967295
  adv : 0 ≤ h.adv ∧ h.adv ≤ 4294967295
  seq : -2147483648 ≤ h.seq ∧ h.seq ≤ 2147483647
  sum : 0 ≤ h.sum ∧ h.sum ≤ 65535
  len : 0 ≤ h.len ∧ h.len ≤ 65535
def Hd.cells (h : Hd) : List Value := [.int .u16 h.age, .int .u8 h.opts, .int .u8 h.typ, .int .u32 h.id, .int .u32 h.adv, .int .i32 h.seq, .int .u16 h.sum, .int .u16 h.len]
@[reducible] def Hd.v (h : Hd) : Value := .agg #[.int .u16 h.age, .int .u8 h.opts, .int .u8 h.typ, .int .u32 h.id, .int .u32 h.adv, .int .i32 h.seq, .int .u16 h.sum, .int .u16 h.len]
/-- A head's bytes. -/
def hdB (h : Hd) : List Int := numB h.age 2 ++ [h.opts, h.typ] ++ numB h.id 4 ++ numB h.adv 4 ++ numB (h.seq % 4294967296) 4 ++ numB h.sum 2 ++ numB h.len 2
theorem hdB_len (h : Hd) : (hdB h).length = 20 := rfl
theorem hdB_oct {h : Hd} (k : h.ok) : Oct (hdB h) := by
  have := k.age; have := k.opts; have := k.typ; have := k.id; have := k.adv; have := k.seq; have := k.sum; have := k.len
  unfold hdB
  refine Oct.append (Oct.append (Oct.append (Oct.append (Oct.append (Oct.append (numB_oct (by omega) (by omega) 2) ?_) (numB_oct (by omega) (by omega) 4)) (numB_oct (by omega) (by omega) 4)) (numB_oct (by omega) (by omega) 4)) (numB_oct (by omega) (by omega) 2)) (numB_oct (by omega) (by omega) 2)
  refine Oct.of_mem fun x hx => ?_
  simp only [List.mem_cons, List.not_mem_nil, or_false] at hx
  omega
def HdBlk (W : World) (gh : Nat) (h : Hd) : Prop := Blk W gh 28 #[.int .u16 h.age, .int .u8 h.opts, .int .u8 h.typ, .int .u32 h.id, .int .u32 h.adv, .int .i32 h.seq, .int .u16 h.sum, .int .u16 h.len]
def PenBlk (W : World) (gp g : Nat) : Prop := Blk W gp 87 #[.pointer (some ⟨g, 0, none⟩)]
def PhS (W : World) (gp g gh : Nat) (h : Hd) : Prop := PenBlk W gp g ∧ HdBlk W gh h
theorem PhS.keep {W W' : World} {gp g gh : Nat} {h : Hd} (k : KeepT W W') (p : PhS W gp g gh h) : PhS W' gp g gh h := ⟨k.2 _ _ _ p.1 (by decide) (by decide), k.2 _ _ _ p.2 (by decide) (by decide)⟩
theorem two_reads {W : World} {g : Nat} {a b : Int} (hb : Blk W g 5 #[.int .u8 a, .int .u8 b]) : Reads W W.heap.size 1 (some ⟨g, 0, none⟩) 2 (u8s [a, b]) :=
  ⟨rfl, fun _ => ⟨_, rfl, hb.lt, fun j u hu => by rw [add_none, Nat.zero_add, hb.cell]; simpa [u8s] using hu⟩⟩
set_option maxRecDepth 100000 in
set_option maxHeartbeats 8000000 in
theorem penHead_any (w0 w : World) (g : Nat) (M : Int) (ys : List Int) (h : WR w0 w g M ys) (hd : Hd) (hok : hd.ok) :
    Calls Tryd.prog 61 #[.agg #[.pointer (some ⟨g, 0, none⟩)], hd.v] w fun e w' => e = .returned (.tuple #[]) ∧ WR w0 w' g M (ys ++ hdB hd) ∧ KeepT w w' := by
  have HW : Hid (WR w0 ((w.alloc (.cells #[.pointer (some ⟨g, 0, none⟩)] 87)).alloc (.cells #[.int .u16 hd.age, .int .u8 hd.opts, .int .u8 hd.typ, .int .u32 hd.id, .int .u32 hd.adv, .int .i32 hd.seq, .int .u16 hd.sum, .int .u16 hd.len] 28)).drew g M ys) := Lib.hid ((h.alloc _).alloc _).drew
  have HK : Hid (KeepT w ((w.alloc (.cells #[.pointer (some ⟨g, 0, none⟩)] 87)).alloc (.cells #[.int .u16 hd.age, .int .u8 hd.opts, .int .u8 hd.typ, .int .u32 hd.id, .int .u32 hd.adv, .int .i32 hd.seq, .int .u16 hd.sum, .int .u16 hd.len] 28)).drew) := Lib.hid (KeepT.of_below (below_two _ _ _).drew)
  have HS : Hid ((fun W : World => PhS W w.heap.size g (w.heap.size + 1) hd) ((w.alloc (.cells #[.pointer (some ⟨g, 0, none⟩)] 87)).alloc (.cells #[.int .u16 hd.age, .int .u8 hd.opts, .int .u8 hd.typ, .int .u32 hd.id, .int .u32 hd.adv, .int .i32 hd.seq, .int .u16 hd.sum, .int .u16 hd.len] 28)).drew) := Lib.hid ⟨((Blk.new _ _ _).alloc _).drewN 1, show HdBlk _ _ _ from new_at _ _ _⟩
  have HO := Lib.hid hok
  obtain ⟨w1e, w2e, w3e, w4e⟩ : IntKind.u32.wrap hd.age = hd.age ∧ IntKind.u32.wrap hd.seq = hd.seq % 4294967296 ∧ IntKind.u32.wrap hd.sum = hd.sum ∧ IntKind.u32.wrap hd.len = hd.len := by
    have := hok.age; have := hok.sum; have := hok.len
    refine ⟨?_, ?_, ?_, ?_⟩ <;> simp [IntKind.wrap, IntKind.bits, IntKind.signed] <;> omega
  clear h hok
  go_enter Tryd.func61, Tryd.ntmps61
  go_wp2_with fail
  generalize w.heap.size = gp at *
  generalize gp + 1 = gh at *
  refine wp_region_r (fun W : World => PhS W gp g gh hd) [.take 0, .take 2, .take 6, .take 8, .take 12, .take 15, .take 18, .take 22, .take 26, .take 1, .take 3, .take 4, .take 7, .take 9, .take 13, .take 16, .take 19, .take 20, .take 23, .take 24, .take 27, .take 28, .two 5 10, .one 11, .one 14, .one 17, .one 21, .one 25, .one 29] (by kernel_rfl) (fun _ d _ _ _ h => by cases d <;> exact h) ?_
  simp only [List.map_cons, List.map_nil, RStep.node, nthOp_zero, nthOp_succ]
  generalize ((w.alloc (.cells #[.pointer (some ⟨g, 0, none⟩)] 87)).alloc (.cells #[.int .u16 hd.age, .int .u8 hd.opts, .int .u8 hd.typ, .int .u32 hd.id, .int .u32 hd.adv, .int .i32 hd.seq, .int .u16 hd.sum, .int .u16 hd.len] 28)).drew = v0 at *
  refine wpR_take HS (by rfl) (by intro W hW; clear hW; go_simp; try with_reducible rfl) ?_
  refine wpR_take HS (by rfl) (by intro W hW; clear hW; go_simp; try with_reducible rfl) ?_
  refine wpR_take HS (by rfl) (by intro W hW; clear hW; go_simp; try with_reducible rfl) ?_
  refine wpR_take HS (by rfl) (by intro W hW; clear hW; go_simp; try with_reducible rfl) ?_
  refine wpR_take HS (by rfl) (by intro W hW; clear hW; go_simp; try with_reducible rfl) ?_
  refine wpR_take HS (by rfl) (by intro W hW; clear hW; go_simp; try with_reducible rfl) ?_
  go_simp
  refine wpR_take HS (by rfl) (by intro W hW; clear hW; go_simp; try with_reducible rfl) ?_
  refine wpR_take HS (by rfl) (by intro W hW; clear hW; go_simp; try with_reducible rfl) ?_
  refine wpR_take HS (by rfl) (by intro W hW; clear hW; go_simp; try with_reducible rfl) ?_
  refine wpR_take HS (by rfl) (by intro W hW; obtain ⟨hp, hh⟩ := hW; unfold PenBlk at hp; unfold HdBlk at hh; have a0 := hp.cell 0; have b0 := hh.cell 0; have b1 := hh.cell 1; have b2 := hh.cell 2; have b3 := hh.cell 3; have b4 := hh.cell 4; have b5 := hh.cell 5; have b6 := hh.cell 6; have b7 := hh.cell 7; clear hp hh; simp at a0 b0 b1 b2 b3 b4 b5 b6 b7; go_simp; try with_reducible rfl) ?_
  refine wpR_take HS (by rfl) (by intro W hW; obtain ⟨hp, hh⟩ := hW; unfold PenBlk at hp; unfold HdBlk at hh; have a0 := hp.cell 0; have b0 := hh.cell 0; have b1 := hh.cell 1; have b2 := hh.cell 2; have b3 := hh.cell 3; have b4 := hh.cell 4; have b5 := hh.cell 5; have b6 := hh.cell 6; have b7 := hh.cell 7; clear hp hh; simp at a0 b0 b1 b2 b3 b4 b5 b6 b7; go_simp; try with_reducible rfl) ?_
  refine wpR_take HS (by rfl) (by intro W hW; clear hW; go_simp; try with_reducible rfl) ?_
  go_simp
  refine wpR_take HS (by rfl) (by intro W hW; obtain ⟨hp, hh⟩ := hW; unfold PenBlk at hp; unfold HdBlk at hh; have a0 := hp.cell 0; have b0 := hh.cell 0; have b1 := hh.cell 1; have b2 := hh.cell 2; have b3 := hh.cell 3; have b4 := hh.cell 4; have b5 := hh.cell 5; have b6 := hh.cell 6; have b7 := hh.cell 7; clear hp hh; simp at a0 b0 b1 b2 b3 b4 b5 b6 b7; go_simp; try with_reducible rfl) ?_
  refine wpR_take HS (by rfl) (by intro W hW; obtain ⟨hp, hh⟩ := hW; unfold PenBlk at hp; unfold HdBlk at hh; have a0 := hp.cell 0; have b0 := hh.cell 0; have b1 := hh.cell 1; have b2 := hh.cell 2; have b3 := hh.cell 3; have b4 := hh.cell 4; have b5 := hh.cell 5; have b6 := hh.cell 6; have b7 := hh.cell 7; clear hp hh; simp at a0 b0 b1 b2 b3 b4 b5 b6 b7; go_simp; try with_reducible rfl) ?_
  refine wpR_take HS (by rfl) (by intro W hW; obtain ⟨hp, hh⟩ := hW; unfold PenBlk at hp; unfold HdBlk at hh; have a0 := hp.cell 0; have b0 := hh.cell 0; have b1 := hh.cell 1; have b2 := hh.cell 2; have b3 := hh.cell 3; have b4 := hh.cell 4; have b5 := hh.cell 5; have b6 := hh.cell 6; have b7 := hh.cell 7; clear hp hh; simp at a0 b0 b1 b2 b3 b4 b5 b6 b7; go_simp; try with_reducible rfl) ?_
  refine wpR_take HS (by rfl) (by intro W hW; obtain ⟨hp, hh⟩ := hW; unfold PenBlk at hp; unfold HdBlk at hh; have a0 := hp.cell 0; have b0 := hh.cell 0; have b1 := hh.cell 1; have b2 := hh.cell 2; have b3 := hh.cell 3; have b4 := hh.cell 4; have b5 := hh.cell 5; have b6 := hh.cell 6; have b7 := hh.cell 7; clear hp hh; simp at a0 b0 b1 b2 b3 b4 b5 b6 b7; go_simp; try with_reducible rfl) ?_
  refine wpR_take HS (by rfl) (by intro W hW; obtain ⟨hp, hh⟩ := hW; unfold PenBlk at hp; unfold HdBlk at hh; have a0 := hp.cell 0; have b0 := hh.cell 0; have b1 := hh.cell 1; have b2 := hh.cell 2; have b3 := hh.cell 3; have b4 := hh.cell 4; have b5 := hh.cell 5; have b6 := hh.cell 6; have b7 := hh.cell 7; clear hp hh; simp at a0 b0 b1 b2 b3 b4 b5 b6 b7; go_simp; try with_reducible rfl) ?_
  refine wpR_take HS (by rfl) (by intro W hW; clear hW; go_simp; try with_reducible rfl) ?_
  go_simp
  refine wpR_take HS (by rfl) (by intro W hW; obtain ⟨hp, hh⟩ := hW; unfold PenBlk at hp; unfold HdBlk at hh; have a0 := hp.cell 0; have b0 := hh.cell 0; have b1 := hh.cell 1; have b2 := hh.cell 2; have b3 := hh.cell 3; have b4 := hh.cell 4; have b5 := hh.cell 5; have b6 := hh.cell 6; have b7 := hh.cell 7; clear hp hh; simp at a0 b0 b1 b2 b3 b4 b5 b6 b7; go_simp; try with_reducible rfl) ?_
  refine wpR_take HS (by rfl) (by intro W hW; clear hW; go_simp; try with_reducible rfl) ?_
  refine wpR_take HS (by rfl) (by intro W hW; obtain ⟨hp, hh⟩ := hW; unfold PenBlk at hp; unfold HdBlk at hh; have a0 := hp.cell 0; have b0 := hh.cell 0; have b1 := hh.cell 1; have b2 := hh.cell 2; have b3 := hh.cell 3; have b4 := hh.cell 4; have b5 := hh.cell 5; have b6 := hh.cell 6; have b7 := hh.cell 7; clear hp hh; simp at a0 b0 b1 b2 b3 b4 b5 b6 b7; go_simp; try with_reducible rfl) ?_
  refine wpR_take HS (by rfl) (by intro W hW; clear hW; go_simp; try with_reducible rfl) ?_
  go_simp
  refine wpR_two (fun K K1 hK hK1 => ?_) (fun K K1 hK hK1 => ?_)
  · go_wp2_with fail
    refine (wr_num w0 v0 g M _ HW.out hd.age 2 (by have := HO.out.age; omega) (by have := HO.out.age; omega) (by omega) (fits_of (by omega) (by omega) (.inr (by have := HO.out.age; omega)))).mono ?_
    rintro e v1 ⟨rfl, hw, hk⟩
    replace HW := Lib.hid hw
    replace HK := Lib.hid (HK.out.trans hk)
    replace HS : Hid ((fun W : World => PhS W gp g gh hd) v1) := Lib.hid (HS.out.keep hk)
    clear hw hk
    go_wp2_with fail
    refine hK1.out _ _ HS.out ?_
    go_wp2_with fail
    have hb2 : Below v1.heap.size v1 (v1.alloc (.cells #[.int .u8 hd.opts, .int .u8 hd.typ] 5)) := (Below.refl _ _).alloc (Nat.le_refl _) _
    have HX := Lib.hid (Blk.new v1 5 #[.int .u8 hd.opts, .int .u8 hd.typ])
    replace HW := Lib.hid (HW.out.later hb2)
    replace HK := Lib.hid (HK.out.trans (KeepT.of_below hb2))
    replace HS : Hid ((fun W : World => PhS W gp g gh hd) (v1.alloc (.cells #[.int .u8 hd.opts, .int .u8 hd.typ] 5))) := Lib.hid (HS.out.keep (KeepT.of_below hb2))
    clear hb2
    refine hK.out _ _ HS.out ?_
    clear hK hK1 K K1
    have HR := Lib.hid (two_reads HX.out)
    generalize v1.heap.size = gx at *
    generalize v1.alloc (.cells #[.int .u8 hd.opts, .int .u8 hd.typ] 5) = v2 at *
    clear HX
    go_simp
    refine wpR_do fun K hK => ?_
    go_wp2_with fail
    refine (wr_put w0 _ g M _ _ HW.out _ 2 2 HR.out (by omega)).mono ?_
    rintro e v3 ⟨rfl, hw, hk⟩
    replace HW := Lib.hid hw
    replace HK := Lib.hid (HK.out.trans hk)
    replace HS : Hid ((fun W : World => PhS W gp g gh hd) v3) := Lib.hid (HS.out.keep hk)
    clear hw hk HR
    go_wp2_with fail
    refine hK.out _ _ HS.out ?_
    clear hK K
    go_simp
    refine wpR_do fun K hK => ?_
    go_wp2_with fail
    refine (wr_num w0 v3 g M _ HW.out hd.id 4 (by have := HO.out.id; omega) (by have := HO.out.id; omega) (by omega) (fits_of (by omega) (by omega) (.inl rfl))).mono ?_
    rintro e v4 ⟨rfl, hw, hk⟩
    replace HW := Lib.hid hw
    replace HK := Lib.hid (HK.out.trans hk)
    replace HS : Hid ((fun W : World => PhS W gp g gh hd) v4) := Lib.hid (HS.out.keep hk)
    clear hw hk
    go_wp2_with fail
    refine hK.out _ _ HS.out ?_
    clear hK K
    go_simp
    refine wpR_do fun K hK => ?_
    go_wp2_with fail
    refine (wr_num w0 v4 g M _ HW.out hd.adv 4 (by have := HO.out.adv; omega) (by have := HO.out.adv; omega) (by omega) (fits_of (by omega) (by omega) (.inl rfl))).mono ?_
    rintro e v5 ⟨rfl, hw, hk⟩
    replace HW := Lib.hid hw
    replace HK := Lib.hid (HK.out.trans hk)
    replace HS : Hid ((fun W : World => PhS W gp g gh hd) v5) := Lib.hid (HS.out.keep hk)
    clear hw hk
    go_wp2_with fail
    refine hK.out _ _ HS.out ?_
    clear hK K
    go_simp
    refine wpR_do fun K hK => ?_
    go_wp2_with fail
    refine (wr_num w0 v5 g M _ HW.out (hd.seq % 4294967296) 4 (by have := HO.out.seq; omega) (by have := HO.out.seq; omega) (by omega) (fits_of (by omega) (by omega) (.inl rfl))).mono ?_
    rintro e v6 ⟨rfl, hw, hk⟩
    replace HW := Lib.hid hw
    replace HK := Lib.hid (HK.out.trans hk)
    replace HS : Hid ((fun W : World => PhS W gp g gh hd) v6) := Lib.hid (HS.out.keep hk)
    clear hw hk
    go_wp2_with fail
    refine hK.out _ _ HS.out ?_
    clear hK K
    go_simp
    refine wpR_do fun K hK => ?_
    go_wp2_with fail
    refine (wr_num w0 v6 g M _ HW.out hd.sum 2 (by have := HO.out.sum; omega) (by have := HO.out.sum; omega) (by omega) (fits_of (by omega) (by omega) (.inr (by have := HO.out.sum; omega)))).mono ?_
    rintro e v7 ⟨rfl, hw, hk⟩
    replace HW := Lib.hid hw
    replace HK := Lib.hid (HK.out.trans hk)
    replace HS : Hid ((fun W : World => PhS W gp g gh hd) v7) := Lib.hid (HS.out.keep hk)
    clear hw hk
    go_wp2_with fail
    refine hK.out _ _ HS.out ?_
    clear hK K
    go_simp
    refine wpR_do fun K hK => ?_
    go_wp2_with fail
    refine (wr_num w0 v7 g M _ HW.out hd.len 2 (by have := HO.out.len; omega) (by have := HO.out.len; omega) (by omega) (fits_of (by omega) (by omega) (.inr (by have := HO.out.len; omega)))).mono ?_
    rintro e v8 ⟨rfl, hw, hk⟩
    replace HW := Lib.hid hw
    replace HK := Lib.hid (HK.out.trans hk)
    replace HS : Hid ((fun W : World => PhS W gp g gh hd) v8) := Lib.hid (HS.out.keep hk)
    clear hw hk
    go_wp2_with fail
    refine hK.out _ _ HS.out ?_
    clear hK K
    refine wpR_nil ?_
    go_simp
    go_wp2_with fail
    go_end0
    refine ⟨rfl, ?_, HK.out⟩
    have := HW.out
    simp only [List.append_assoc] at this
    unfold hdB
    simpa only [List.append_assoc] using this
  · go_wp2_with fail
    have hb2 : Below v0.heap.size v0 (v0.alloc (.cells #[.int .u8 hd.opts, .int .u8 hd.typ] 5)) := (Below.refl _ _).alloc (Nat.le_refl _) _
    have HX := Lib.hid (Blk.new v0 5 #[.int .u8 hd.opts, .int .u8 hd.typ])
    have HW0 := HW
    replace HW := Lib.hid (HW.out.later hb2)
    replace HK := Lib.hid (HK.out.trans (KeepT.of_below hb2))
    replace HS : Hid ((fun W : World => PhS W gp g gh hd) (v0.alloc (.cells #[.int .u8 hd.opts, .int .u8 hd.typ] 5))) := Lib.hid (HS.out.keep (KeepT.of_below hb2))
    clear hb2
    refine hK1.out _ _ HS.out ?_
    go_wp2_with fail
    refine (wr_num_x w0 v0 g M _ HW0.out _ hd.age 2 (by have := HO.out.age; omega) (by have := HO.out.age; omega) (by omega) (fits_of (by omega) (by omega) (.inr (by have := HO.out.age; omega)))).mono ?_
    rintro e v2 ⟨rfl, hw, hk, hx⟩
    replace HW := Lib.hid hw
    replace HK := Lib.hid (HK.out.trans hk)
    replace HS : Hid ((fun W : World => PhS W gp g gh hd) v2) := Lib.hid (HS.out.keep hk)
    have HR := Lib.hid (two_reads (W := v2) (g := v0.heap.size) (a := hd.opts) (b := hd.typ) hx)
    clear hw hk hx HW0 HX
    go_wp2_with fail
    refine hK.out _ _ HS.out ?_
    clear hK hK1 K K1
    go_simp
    refine wpR_do fun K hK => ?_
    go_wp2_with fail
    refine (wr_put w0 _ g M _ _ HW.out _ 2 2 HR.out (by omega)).mono ?_
    rintro e v3 ⟨rfl, hw, hk⟩
    replace HW := Lib.hid hw
    replace HK := Lib.hid (HK.out.trans hk)
    replace HS : Hid ((fun W : World => PhS W gp g gh hd) v3) := Lib.hid (HS.out.keep hk)
    clear hw hk HR
    go_wp2_with fail
    refine hK.out _ _ HS.out ?_
    clear hK K
    go_simp
    refine wpR_do fun K hK => ?_
    go_wp2_with fail
    refine (wr_num w0 v3 g M _ HW.out hd.id 4 (by have := HO.out.id; omega) (by have := HO.out.id; omega) (by omega) (fits_of (by omega) (by omega) (.inl rfl))).mono ?_
    rintro e v4 ⟨rfl, hw, hk⟩
    replace HW := Lib.hid hw
    replace HK := Lib.hid (HK.out.trans hk)
    replace HS : Hid ((fun W : World => PhS W gp g gh hd) v4) := Lib.hid (HS.out.keep hk)
    clear hw hk
    go_wp2_with fail
    refine hK.out _ _ HS.out ?_
    clear hK K
    go_simp
    refine wpR_do fun K hK => ?_
    go_wp2_with fail
    refine (wr_num w0 v4 g M _ HW.out hd.adv 4 (by have := HO.out.adv; omega) (by have := HO.out.adv; omega) (by omega) (fits_of (by omega) (by omega) (.inl rfl))).mono ?_
    rintro e v5 ⟨rfl, hw, hk⟩
    replace HW := Lib.hid hw
    replace HK := Lib.hid (HK.out.trans hk)
    replace HS : Hid ((fun W : World => PhS W gp g gh hd) v5) := Lib.hid (HS.out.keep hk)
    clear hw hk
    go_wp2_with fail
    refine hK.out _ _ HS.out ?_
    clear hK K
    go_simp
    refine wpR_do fun K hK => ?_
    go_wp2_with fail
    refine (wr_num w0 v5 g M _ HW.out (hd.seq % 4294967296) 4 (by have := HO.out.seq; omega) (by have := HO.out.seq; omega) (by omega) (fits_of (by omega) (by omega) (.inl rfl))).mono ?_
    rintro e v6 ⟨rfl, hw, hk⟩
    replace HW := Lib.hid hw
    replace HK := Lib.hid (HK.out.trans hk)
    replace HS : Hid ((fun W : World => PhS W gp g gh hd) v6) := Lib.hid (HS.out.keep hk)
    clear hw hk
    go_wp2_with fail
    refine hK.out _ _ HS.out ?_
    clear hK K
    go_simp
    refine wpR_do fun K hK => ?_
    go_wp2_with fail
    refine (wr_num w0 v6 g M _ HW.out hd.sum 2 (by have := HO.out.sum; omega) (by have := HO.out.sum; omega) (by omega) (fits_of (by omega) (by omega) (.inr (by have := HO.out.sum; omega)))).mono ?_
    rintro e v7 ⟨rfl, hw, hk⟩
    replace HW := Lib.hid hw
    replace HK := Lib.hid (HK.out.trans hk)
    replace HS : Hid ((fun W : World => PhS W gp g gh hd) v7) := Lib.hid (HS.out.keep hk)
    clear hw hk
    go_wp2_with fail
    refine hK.out _ _ HS.out ?_
    clear hK K
    go_simp
    refine wpR_do fun K hK => ?_
    go_wp2_with fail
    refine (wr_num w0 v7 g M _ HW.out hd.len 2 (by have := HO.out.len; omega) (by have := HO.out.len; omega) (by omega) (fits_of (by omega) (by omega) (.inr (by have := HO.out.len; omega)))).mono ?_
    rintro e v8 ⟨rfl, hw, hk⟩
    replace HW := Lib.hid hw
    replace HK := Lib.hid (HK.out.trans hk)
    replace HS : Hid ((fun W : World => PhS W gp g gh hd) v8) := Lib.hid (HS.out.keep hk)
    clear hw hk
    go_wp2_with fail
    refine hK.out _ _ HS.out ?_
    clear hK K
    refine wpR_nil ?_
    go_simp
    go_wp2_with fail
    go_end0
    refine ⟨rfl, ?_, HK.out⟩
    have := HW.out
    simp only [List.append_assoc] at this
    unfold hdB
    simpa only [List.append_assoc] using this
end Go.Proofs.YtljedcfpbdompaaDoor
