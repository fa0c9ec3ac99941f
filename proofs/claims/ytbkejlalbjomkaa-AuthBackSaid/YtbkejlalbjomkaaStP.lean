/-
  Heads and states: their bytes.
  States in memory; CopyState, EqState; Bytes.
  Heads read; ReadHead, Read; EqState.
  Read: a state taken from the beginning of bytes.
  What was thrown is caught; the table of forms; formOf.
-/
import Derived.Test.YtbkejlalbjomkaaWtr
import Derived.Test.YtbkejlalbjomkaaOwnW
import Derived.Test.YtbkejlalbjomkaaRgn4
import Derived.Test.YtbkejlalbjomkaaFlat
import Derived.Laws.BitsAllLaws
import Derived.Test.YtbkejlalbjomkaaSumB3
import Derived.Defers
import Derived.Recover
import Derived.Laws.Pointers
namespace Go.Proofs.Ytbkejlalbjomkaa
set_option linter.unusedVariables false
open Go.RowKit

/-- A head, as plain data. -/
structure Hd where
  age : Int
  opts : Int
  typ : Int
  id : Int
  adv : Int
  seq : Int
  sum : Int
  len : Int
structure Hd.ok (h : Hd) : Prop where
  age : 0 ≤ h.age ∧ h.age ≤ 65535
  opts : 0 ≤ h.opts ∧ h.opts ≤ 255
  typ : 0 ≤ h.typ ∧ h.typ ≤ 255
  id : 0 ≤ h.id ∧ h.id ≤ 4294967295
  adv : 0 ≤ h.adv ∧ h.adv ≤ 4294967295
  seq : -2147483648 ≤ h.seq ∧ h.seq ≤ 2147483647
  sum : 0 ≤ h.sum ∧ h.sum ≤ 65535
  len : 0 ≤ h.len ∧ h.len ≤ 65535
def Hd.cells (h : Hd) : List Value := [.int .u16 h.age, .int .u8 h.opts, .int .u8 h.typ, .int .u32 h.id, .int .u32 h.adv, .int .i32 h.seq, .int .u16 h.sum, .int .u16 h.len]
@[reducible] def Hd.v (h : Hd) : Value := .agg #[.int .u16 h.age, .int .u8 h.opts, .int .u8 h.typ, .int .u32 h.id, .int .u32 h.adv, .int .i32 h.seq, .int .u16 h.sum, .int .u16 h.len]
/-- A head's bytes. -/
def hdB (h : Hd) : List Int := numB h.age 2 ++ [h.opts, h.typ] ++ numB h.id 4 ++ numB h.adv 4 ++ numB (h.seq % 4294967296) 4 ++ numB h.sum 2 ++ numB h.len 2
theorem hdB_len (h : Hd) : (hdB h).length = 20 := rfl
theorem hdB_oct {h : Hd} (k : h.ok) : Oct (hdB h) := by
  have := k.age; have := k.opts; have := k.typ; have := k.id; have := k.adv; have := k.seq; have := k.sum; have := k.len
  unfold hdB
  refine Oct.append (Oct.append (Oct.append (Oct.append (Oct.append (Oct.append (numB_oct (by omega) (by omega) 2) ?_) (numB_oct (by omega) (by omega) 4)) (numB_oct (by omega) (by omega) 4)) (numB_oct (by omega) (by omega) 4)) (numB_oct (by omega) (by omega) 2)) (numB_oct (by omega) (by omega) 2)
  refine Oct.of_mem fun x hx => ?_
  simp only [List.mem_cons, List.not_mem_nil, or_false] at hx
  omega
def HdBlk (W : World) (gh : Nat) (h : Hd) : Prop := Blk W gh 74 #[.int .u16 h.age, .int .u8 h.opts, .int .u8 h.typ, .int .u32 h.id, .int .u32 h.adv, .int .i32 h.seq, .int .u16 h.sum, .int .u16 h.len]
def PenBlk (W : World) (gp g : Nat) : Prop := Blk W gp 148 #[.pointer (some ⟨g, 0, none⟩)]
def PhS (W : World) (gp g gh : Nat) (h : Hd) : Prop := PenBlk W gp g ∧ HdBlk W gh h
theorem PhS.keep {W W' : World} {gp g gh : Nat} {h : Hd} (k : KeepT W W') (p : PhS W gp g gh h) : PhS W' gp g gh h := ⟨k.2 _ _ _ p.1 (by decide) (by decide), k.2 _ _ _ p.2 (by decide) (by decide)⟩
theorem two_reads {W : World} {g : Nat} {a b : Int} (hb : Blk W g 5 #[.int .u8 a, .int .u8 b]) : Reads W W.heap.size 1 (some ⟨g, 0, none⟩) 2 (u8s [a, b]) :=
  ⟨rfl, fun _ => ⟨_, rfl, hb.lt, fun j u hu => by rw [add_none, Nat.zero_add, hb.cell]; simpa [u8s] using hu⟩⟩
set_option maxRecDepth 100000 in
set_option maxHeartbeats 8000000 in
theorem penHead_any (w0 w : World) (g : Nat) (M : Int) (ys : List Int) (h : WR w0 w g M ys) (hd : Hd) (hok : hd.ok) :
    Calls Try.prog 97 #[.agg #[.pointer (some ⟨g, 0, none⟩)], hd.v] w fun e w' => e = .returned (.tuple #[]) ∧ WR w0 w' g M (ys ++ hdB hd) ∧ KeepT w w' := by
  have HW : Hid (WR w0 ((w.alloc (.cells #[.pointer (some ⟨g, 0, none⟩)] 148)).alloc (.cells #[.int .u16 hd.age, .int .u8 hd.opts, .int .u8 hd.typ, .int .u32 hd.id, .int .u32 hd.adv, .int .i32 hd.seq, .int .u16 hd.sum, .int .u16 hd.len] 74)).drew g M ys) := Lib.hid ((h.alloc _).alloc _).drew
  have HK : Hid (KeepT w ((w.alloc (.cells #[.pointer (some ⟨g, 0, none⟩)] 148)).alloc (.cells #[.int .u16 hd.age, .int .u8 hd.opts, .int .u8 hd.typ, .int .u32 hd.id, .int .u32 hd.adv, .int .i32 hd.seq, .int .u16 hd.sum, .int .u16 hd.len] 74)).drew) := Lib.hid (KeepT.of_below (below_two _ _ _).drew)
  have HS : Hid ((fun W : World => PhS W w.heap.size g (w.heap.size + 1) hd) ((w.alloc (.cells #[.pointer (some ⟨g, 0, none⟩)] 148)).alloc (.cells #[.int .u16 hd.age, .int .u8 hd.opts, .int .u8 hd.typ, .int .u32 hd.id, .int .u32 hd.adv, .int .i32 hd.seq, .int .u16 hd.sum, .int .u16 hd.len] 74)).drew) := Lib.hid ⟨((Blk.new _ _ _).alloc _).drewN 1, show HdBlk _ _ _ from new_at _ _ _⟩
  have HO := Lib.hid hok
  obtain ⟨w1e, w2e, w3e, w4e⟩ : IntKind.u32.wrap hd.age = hd.age ∧ IntKind.u32.wrap hd.seq = hd.seq % 4294967296 ∧ IntKind.u32.wrap hd.sum = hd.sum ∧ IntKind.u32.wrap hd.len = hd.len := by
    have := hok.age; have := hok.sum; have := hok.len
    refine ⟨?_, ?_, ?_, ?_⟩ <;> simp [IntKind.wrap, IntKind.bits, IntKind.signed] <;> omega
  clear h hok
  go_enter Try.func97, Try.ntmps97
  go_wp2_with fail
  generalize w.heap.size = gp at *
  generalize gp + 1 = gh at *
  refine wp_region_r (fun W : World => PhS W gp g gh hd) [.take 0, .take 2, .take 6, .take 8, .take 12, .take 15, .take 18, .take 22, .take 26, .take 1, .take 3, .take 4, .take 7, .take 9, .take 13, .take 16, .take 19, .take 20, .take 23, .take 24, .take 27, .take 28, .two 5 10, .one 11, .one 14, .one 17, .one 21, .one 25, .one 29] (by kernel_rfl) (fun _ d _ _ _ h => by cases d <;> exact h) ?_
  simp only [List.map_cons, List.map_nil, RStep.node, nthOp_zero, nthOp_succ]
  generalize ((w.alloc (.cells #[.pointer (some ⟨g, 0, none⟩)] 148)).alloc (.cells #[.int .u16 hd.age, .int .u8 hd.opts, .int .u8 hd.typ, .int .u32 hd.id, .int .u32 hd.adv, .int .i32 hd.seq, .int .u16 hd.sum, .int .u16 hd.len] 74)).drew = v0 at *
  refine wpR_take HS (by rfl) (by intro W hW; clear hW; go_simp; try with_reducible rfl) ?_
  refine wpR_take HS (by rfl) (by intro W hW; clear hW; go_simp; try with_reducible rfl) ?_
  refine wpR_take HS (by rfl) (by intro W hW; clear hW; go_simp; try with_reducible rfl) ?_
  refine wpR_take HS (by rfl) (by intro W hW; clear hW; go_simp; try with_reducible rfl) ?_
  refine wpR_take HS (by rfl) (by intro W hW; clear hW; go_simp; try with_reducible rfl) ?_
  refine wpR_take HS (by rfl) (by intro W hW; clear hW; go_simp; try with_reducible rfl) ?_
  go_simp
  refine wpR_take HS (by rfl) (by intro W hW; clear hW; go_simp; try with_reducible rfl) ?_
  refine wpR_take HS (by rfl) (by intro W hW; clear hW; go_simp; try with_reducible rfl) ?_
  refine wpR_take HS (by rfl) (by intro W hW; clear hW; go_simp; try with_reducible rfl) ?_
  refine wpR_take HS (by rfl) (by intro W hW; obtain ⟨hp, hh⟩ := hW; unfold PenBlk at hp; unfold HdBlk at hh; have a0 := hp.cell 0; have b0 := hh.cell 0; have b1 := hh.cell 1; have b2 := hh.cell 2; have b3 := hh.cell 3; have b4 := hh.cell 4; have b5 := hh.cell 5; have b6 := hh.cell 6; have b7 := hh.cell 7; clear hp hh; simp at a0 b0 b1 b2 b3 b4 b5 b6 b7; go_simp; try with_reducible rfl) ?_
  refine wpR_take HS (by rfl) (by intro W hW; obtain ⟨hp, hh⟩ := hW; unfold PenBlk at hp; unfold HdBlk at hh; have a0 := hp.cell 0; have b0 := hh.cell 0; have b1 := hh.cell 1; have b2 := hh.cell 2; have b3 := hh.cell 3; have b4 := hh.cell 4; have b5 := hh.cell 5; have b6 := hh.cell 6; have b7 := hh.cell 7; clear hp hh; simp at a0 b0 b1 b2 b3 b4 b5 b6 b7; go_simp; try with_reducible rfl) ?_
  refine wpR_take HS (by rfl) (by intro W hW; clear hW; go_simp; try with_reducible rfl) ?_
  go_simp
  refine wpR_take HS (by rfl) (by intro W hW; obtain ⟨hp, hh⟩ := hW; unfold PenBlk at hp; unfold HdBlk at hh; have a0 := hp.cell 0; have b0 := hh.cell 0; have b1 := hh.cell 1; have b2 := hh.cell 2; have b3 := hh.cell 3; have b4 := hh.cell 4; have b5 := hh.cell 5; have b6 := hh.cell 6; have b7 := hh.cell 7; clear hp hh; simp at a0 b0 b1 b2 b3 b4 b5 b6 b7; go_simp; try with_reducible rfl) ?_
  refine wpR_take HS (by rfl) (by intro W hW; obtain ⟨hp, hh⟩ := hW; unfold PenBlk at hp; unfold HdBlk at hh; have a0 := hp.cell 0; have b0 := hh.cell 0; have b1 := hh.cell 1; have b2 := hh.cell 2; have b3 := hh.cell 3; have b4 := hh.cell 4; have b5 := hh.cell 5; have b6 := hh.cell 6; have b7 := hh.cell 7; clear hp hh; simp at a0 b0 b1 b2 b3 b4 b5 b6 b7; go_simp; try with_reducible rfl) ?_
  refine wpR_take HS (by rfl) (by intro W hW; obtain ⟨hp, hh⟩ := hW; unfold PenBlk at hp; unfold HdBlk at hh; have a0 := hp.cell 0; have b0 := hh.cell 0; have b1 := hh.cell 1; have b2 := hh.cell 2; have b3 := hh.cell 3; have b4 := hh.cell 4; have b5 := hh.cell 5; have b6 := hh.cell 6; have b7 := hh.cell 7; clear hp hh; simp at a0 b0 b1 b2 b3 b4 b5 b6 b7; go_simp; try with_reducible rfl) ?_
  refine wpR_take HS (by rfl) (by intro W hW; obtain ⟨hp, hh⟩ := hW; unfold PenBlk at hp; unfold HdBlk at hh; have a0 := hp.cell 0; have b0 := hh.cell 0; have b1 := hh.cell 1; have b2 := hh.cell 2; have b3 := hh.cell 3; have b4 := hh.cell 4; have b5 := hh.cell 5; have b6 := hh.cell 6; have b7 := hh.cell 7; clear hp hh; simp at a0 b0 b1 b2 b3 b4 b5 b6 b7; go_simp; try with_reducible rfl) ?_
  refine wpR_take HS (by rfl) (by intro W hW; obtain ⟨hp, hh⟩ := hW; unfold PenBlk at hp; unfold HdBlk at hh; have a0 := hp.cell 0; have b0 := hh.cell 0; have b1 := hh.cell 1; have b2 := hh.cell 2; have b3 := hh.cell 3; have b4 := hh.cell 4; have b5 := hh.cell 5; have b6 := hh.cell 6; have b7 := hh.cell 7; clear hp hh; simp at a0 b0 b1 b2 b3 b4 b5 b6 b7; go_simp; try with_reducible rfl) ?_
  refine wpR_take HS (by rfl) (by intro W hW; clear hW; go_simp; try with_reducible rfl) ?_
  go_simp
  refine wpR_take HS (by rfl) (by intro W hW; obtain ⟨hp, hh⟩ := hW; unfold PenBlk at hp; unfold HdBlk at hh; have a0 := hp.cell 0; have b0 := hh.cell 0; have b1 := hh.cell 1; have b2 := hh.cell 2; have b3 := hh.cell 3; have b4 := hh.cell 4; have b5 := hh.cell 5; have b6 := hh.cell 6; have b7 := hh.cell 7; clear hp hh; simp at a0 b0 b1 b2 b3 b4 b5 b6 b7; go_simp; try with_reducible rfl) ?_
  refine wpR_take HS (by rfl) (by intro W hW; clear hW; go_simp; try with_reducible rfl) ?_
  refine wpR_take HS (by rfl) (by intro W hW; obtain ⟨hp, hh⟩ := hW; unfold PenBlk at hp; unfold HdBlk at hh; have a0 := hp.cell 0; have b0 := hh.cell 0; have b1 := hh.cell 1; have b2 := hh.cell 2; have b3 := hh.cell 3; have b4 := hh.cell 4; have b5 := hh.cell 5; have b6 := hh.cell 6; have b7 := hh.cell 7; clear hp hh; simp at a0 b0 b1 b2 b3 b4 b5 b6 b7; go_simp; try with_reducible rfl) ?_
  refine wpR_take HS (by rfl) (by intro W hW; clear hW; go_simp; try with_reducible rfl) ?_
  go_simp
  refine wpR_two (fun K K1 hK hK1 => ?_) (fun K K1 hK hK1 => ?_)
  · go_wp2_with fail
    refine (wr_num w0 v0 g M _ HW.out hd.age 2 (by have := HO.out.age; omega) (by have := HO.out.age; omega) (by omega) (fits_of (by omega) (by omega) (.inr (by have := HO.out.age; omega)))).mono ?_
    rintro e v1 ⟨rfl, hw, hk⟩
    replace HW := Lib.hid hw
    replace HK := Lib.hid (HK.out.trans hk)
    replace HS : Hid ((fun W : World => PhS W gp g gh hd) v1) := Lib.hid (HS.out.keep hk)
    clear hw hk
    go_wp2_with fail
    refine hK1.out _ _ HS.out ?_
    go_wp2_with fail
    have hb2 : Below v1.heap.size v1 (v1.alloc (.cells #[.int .u8 hd.opts, .int .u8 hd.typ] 5)) := (Below.refl _ _).alloc (Nat.le_refl _) _
    have HX := Lib.hid (Blk.new v1 5 #[.int .u8 hd.opts, .int .u8 hd.typ])
    replace HW := Lib.hid (HW.out.later hb2)
    replace HK := Lib.hid (HK.out.trans (KeepT.of_below hb2))
    replace HS : Hid ((fun W : World => PhS W gp g gh hd) (v1.alloc (.cells #[.int .u8 hd.opts, .int .u8 hd.typ] 5))) := Lib.hid (HS.out.keep (KeepT.of_below hb2))
    clear hb2
    refine hK.out _ _ HS.out ?_
    clear hK hK1 K K1
    have HR := Lib.hid (two_reads HX.out)
    generalize v1.heap.size = gx at *
    generalize v1.alloc (.cells #[.int .u8 hd.opts, .int .u8 hd.typ] 5) = v2 at *
    clear HX
    go_simp
    refine wpR_do fun K hK => ?_
    go_wp2_with fail
    refine (wr_put w0 _ g M _ _ HW.out _ 2 2 HR.out (by omega)).mono ?_
    rintro e v3 ⟨rfl, hw, hk⟩
    replace HW := Lib.hid hw
    replace HK := Lib.hid (HK.out.trans hk)
    replace HS : Hid ((fun W : World => PhS W gp g gh hd) v3) := Lib.hid (HS.out.keep hk)
    clear hw hk HR
    go_wp2_with fail
    refine hK.out _ _ HS.out ?_
    clear hK K
    go_simp
    refine wpR_do fun K hK => ?_
    go_wp2_with fail
    refine (wr_num w0 v3 g M _ HW.out hd.id 4 (by have := HO.out.id; omega) (by have := HO.out.id; omega) (by omega) (fits_of (by omega) (by omega) (.inl rfl))).mono ?_
    rintro e v4 ⟨rfl, hw, hk⟩
    replace HW := Lib.hid hw
    replace HK := Lib.hid (HK.out.trans hk)
    replace HS : Hid ((fun W : World => PhS W gp g gh hd) v4) := Lib.hid (HS.out.keep hk)
    clear hw hk
    go_wp2_with fail
    refine hK.out _ _ HS.out ?_
    clear hK K
    go_simp
    refine wpR_do fun K hK => ?_
    go_wp2_with fail
    refine (wr_num w0 v4 g M _ HW.out hd.adv 4 (by have := HO.out.adv; omega) (by have := HO.out.adv; omega) (by omega) (fits_of (by omega) (by omega) (.inl rfl))).mono ?_
    rintro e v5 ⟨rfl, hw, hk⟩
    replace HW := Lib.hid hw
    replace HK := Lib.hid (HK.out.trans hk)
    replace HS : Hid ((fun W : World => PhS W gp g gh hd) v5) := Lib.hid (HS.out.keep hk)
    clear hw hk
    go_wp2_with fail
    refine hK.out _ _ HS.out ?_
    clear hK K
    go_simp
    refine wpR_do fun K hK => ?_
    go_wp2_with fail
    refine (wr_num w0 v5 g M _ HW.out (hd.seq % 4294967296) 4 (by have := HO.out.seq; omega) (by have := HO.out.seq; omega) (by omega) (fits_of (by omega) (by omega) (.inl rfl))).mono ?_
    rintro e v6 ⟨rfl, hw, hk⟩
    replace HW := Lib.hid hw
    replace HK := Lib.hid (HK.out.trans hk)
    replace HS : Hid ((fun W : World => PhS W gp g gh hd) v6) := Lib.hid (HS.out.keep hk)
    clear hw hk
    go_wp2_with fail
    refine hK.out _ _ HS.out ?_
    clear hK K
    go_simp
    refine wpR_do fun K hK => ?_
    go_wp2_with fail
    refine (wr_num w0 v6 g M _ HW.out hd.sum 2 (by have := HO.out.sum; omega) (by have := HO.out.sum; omega) (by omega) (fits_of (by omega) (by omega) (.inr (by have := HO.out.sum; omega)))).mono ?_
    rintro e v7 ⟨rfl, hw, hk⟩
    replace HW := Lib.hid hw
    replace HK := Lib.hid (HK.out.trans hk)
    replace HS : Hid ((fun W : World => PhS W gp g gh hd) v7) := Lib.hid (HS.out.keep hk)
    clear hw hk
    go_wp2_with fail
    refine hK.out _ _ HS.out ?_
    clear hK K
    go_simp
    refine wpR_do fun K hK => ?_
    go_wp2_with fail
    refine (wr_num w0 v7 g M _ HW.out hd.len 2 (by have := HO.out.len; omega) (by have := HO.out.len; omega) (by omega) (fits_of (by omega) (by omega) (.inr (by have := HO.out.len; omega)))).mono ?_
    rintro e v8 ⟨rfl, hw, hk⟩
    replace HW := Lib.hid hw
    replace HK := Lib.hid (HK.out.trans hk)
    replace HS : Hid ((fun W : World => PhS W gp g gh hd) v8) := Lib.hid (HS.out.keep hk)
    clear hw hk
    go_wp2_with fail
    refine hK.out _ _ HS.out ?_
    clear hK K
    refine wpR_nil ?_
    go_simp
    go_wp2_with fail
    go_end0
    refine ⟨rfl, ?_, HK.out⟩
    have := HW.out
    simp only [List.append_assoc] at this
    unfold hdB
    simpa only [List.append_assoc] using this
  · go_wp2_with fail
    have hb2 : Below v0.heap.size v0 (v0.alloc (.cells #[.int .u8 hd.opts, .int .u8 hd.typ] 5)) := (Below.refl _ _).alloc (Nat.le_refl _) _
    have HX := Lib.hid (Blk.new v0 5 #[.int .u8 hd.opts, .int .u8 hd.typ])
    have HW0 := HW
    replace HW := Lib.hid (HW.out.later hb2)
    replace HK := Lib.hid (HK.out.trans (KeepT.of_below hb2))
    replace HS : Hid ((fun W : World => PhS W gp g gh hd) (v0.alloc (.cells #[.int .u8 hd.opts, .int .u8 hd.typ] 5))) := Lib.hid (HS.out.keep (KeepT.of_below hb2))
    clear hb2
    refine hK1.out _ _ HS.out ?_
    go_wp2_with fail
    refine (wr_num_x w0 v0 g M _ HW0.out _ hd.age 2 (by have := HO.out.age; omega) (by have := HO.out.age; omega) (by omega) (fits_of (by omega) (by omega) (.inr (by have := HO.out.age; omega)))).mono ?_
    rintro e v2 ⟨rfl, hw, hk, hx⟩
    replace HW := Lib.hid hw
    replace HK := Lib.hid (HK.out.trans hk)
    replace HS : Hid ((fun W : World => PhS W gp g gh hd) v2) := Lib.hid (HS.out.keep hk)
    have HR := Lib.hid (two_reads (W := v2) (g := v0.heap.size) (a := hd.opts) (b := hd.typ) hx)
    clear hw hk hx HW0 HX
    go_wp2_with fail
    refine hK.out _ _ HS.out ?_
    clear hK hK1 K K1
    go_simp
    refine wpR_do fun K hK => ?_
    go_wp2_with fail
    refine (wr_put w0 _ g M _ _ HW.out _ 2 2 HR.out (by omega)).mono ?_
    rintro e v3 ⟨rfl, hw, hk⟩
    replace HW := Lib.hid hw
    replace HK := Lib.hid (HK.out.trans hk)
    replace HS : Hid ((fun W : World => PhS W gp g gh hd) v3) := Lib.hid (HS.out.keep hk)
    clear hw hk HR
    go_wp2_with fail
    refine hK.out _ _ HS.out ?_
    clear hK K
    go_simp
    refine wpR_do fun K hK => ?_
    go_wp2_with fail
    refine (wr_num w0 v3 g M _ HW.out hd.id 4 (by have := HO.out.id; omega) (by have := HO.out.id; omega) (by omega) (fits_of (by omega) (by omega) (.inl rfl))).mono ?_
    rintro e v4 ⟨rfl, hw, hk⟩
    replace HW := Lib.hid hw
    replace HK := Lib.hid (HK.out.trans hk)
    replace HS : Hid ((fun W : World => PhS W gp g gh hd) v4) := Lib.hid (HS.out.keep hk)
    clear hw hk
    go_wp2_with fail
    refine hK.out _ _ HS.out ?_
    clear hK K
    go_simp
    refine wpR_do fun K hK => ?_
    go_wp2_with fail
    refine (wr_num w0 v4 g M _ HW.out hd.adv 4 (by have := HO.out.adv; omega) (by have := HO.out.adv; omega) (by omega) (fits_of (by omega) (by omega) (.inl rfl))).mono ?_
    rintro e v5 ⟨rfl, hw, hk⟩
    replace HW := Lib.hid hw
    replace HK := Lib.hid (HK.out.trans hk)
    replace HS : Hid ((fun W : World => PhS W gp g gh hd) v5) := Lib.hid (HS.out.keep hk)
    clear hw hk
    go_wp2_with fail
    refine hK.out _ _ HS.out ?_
    clear hK K
    go_simp
    refine wpR_do fun K hK => ?_
    go_wp2_with fail
    refine (wr_num w0 v5 g M _ HW.out (hd.seq % 4294967296) 4 (by have := HO.out.seq; omega) (by have := HO.out.seq; omega) (by omega) (fits_of (by omega) (by omega) (.inl rfl))).mono ?_
    rintro e v6 ⟨rfl, hw, hk⟩
    replace HW := Lib.hid hw
    replace HK := Lib.hid (HK.out.trans hk)
    replace HS : Hid ((fun W : World => PhS W gp g gh hd) v6) := Lib.hid (HS.out.keep hk)
    clear hw hk
    go_wp2_with fail
    refine hK.out _ _ HS.out ?_
    clear hK K
    go_simp
    refine wpR_do fun K hK => ?_
    go_wp2_with fail
    refine (wr_num w0 v6 g M _ HW.out hd.sum 2 (by have := HO.out.sum; omega) (by have := HO.out.sum; omega) (by omega) (fits_of (by omega) (by omega) (.inr (by have := HO.out.sum; omega)))).mono ?_
    rintro e v7 ⟨rfl, hw, hk⟩
    replace HW := Lib.hid hw
    replace HK := Lib.hid (HK.out.trans hk)
    replace HS : Hid ((fun W : World => PhS W gp g gh hd) v7) := Lib.hid (HS.out.keep hk)
    clear hw hk
    go_wp2_with fail
    refine hK.out _ _ HS.out ?_
    clear hK K
    go_simp
    refine wpR_do fun K hK => ?_
    go_wp2_with fail
    refine (wr_num w0 v7 g M _ HW.out hd.len 2 (by have := HO.out.len; omega) (by have := HO.out.len; omega) (by omega) (fits_of (by omega) (by omega) (.inr (by have := HO.out.len; omega)))).mono ?_
    rintro e v8 ⟨rfl, hw, hk⟩
    replace HW := Lib.hid hw
    replace HK := Lib.hid (HK.out.trans hk)
    replace HS : Hid ((fun W : World => PhS W gp g gh hd) v8) := Lib.hid (HS.out.keep hk)
    clear hw hk
    go_wp2_with fail
    refine hK.out _ _ HS.out ?_
    clear hK K
    refine wpR_nil ?_
    go_simp
    go_wp2_with fail
    go_end0
    refine ⟨rfl, ?_, HK.out⟩
    have := HW.out
    simp only [List.append_assoc] at this
    unfold hdB
    simpa only [List.append_assoc] using this
end Go.Proofs.Ytbkejlalbjomkaa
namespace Go.Proofs.Ytbkejlalbjomkaa
set_option linter.unusedVariables false
open Go.RowKit Go.ChangeShapes Go.WideShapes

@[reducible] def stV (h : Hd) (A : Option Addr) (n c : Nat) : Value := .agg #[.int .u16 h.age, .int .u8 h.opts, .int .u8 h.typ, .int .u32 h.id, .int .u32 h.adv, .int .i32 h.seq, .int .u16 h.sum, .int .u16 h.len, .slice A n c]
@[reducible] def stC (h : Hd) (A : Option Addr) (n c : Nat) : Array Value := #[.int .u16 h.age, .int .u8 h.opts, .int .u8 h.typ, .int .u32 h.id, .int .u32 h.adv, .int .i32 h.seq, .int .u16 h.sum, .int .u16 h.len, .slice A n c]
@[reducible] def zC : Array Value := #[.int .u16 0, .int .u8 0, .int .u8 0, .int .u32 0, .int .u32 0, .int .i32 0, .int .u16 0, .int .u16 0, .slice none 0 0]
@[reducible] def zeroSt : Value := .agg #[.int .u16 0, .int .u8 0, .int .u8 0, .int .u32 0, .int .u32 0, .int .i32 0, .int .u16 0, .int .u16 0, .slice none 0 0]
theorem stC_facts {W : World} {g : Nat} {h : Hd} {A : Option Addr} {n c : Nat} (b : Blk W g 76 (stC h A n c)) :
    W.cell? ⟨g, 0, none⟩ = some (.int .u16 h.age) ∧ W.cell? ⟨g, 1, none⟩ = some (.int .u8 h.opts) ∧ W.cell? ⟨g, 2, none⟩ = some (.int .u8 h.typ) ∧ W.cell? ⟨g, 3, none⟩ = some (.int .u32 h.id) ∧ W.cell? ⟨g, 4, none⟩ = some (.int .u32 h.adv) ∧
    W.cell? ⟨g, 5, none⟩ = some (.int .i32 h.seq) ∧ W.cell? ⟨g, 6, none⟩ = some (.int .u16 h.sum) ∧ W.cell? ⟨g, 7, none⟩ = some (.int .u16 h.len) ∧ W.cell? ⟨g, 8, none⟩ = some (.slice A n c) :=
  ⟨b.cell 0, b.cell 1, b.cell 2, b.cell 3, b.cell 4, b.cell 5, b.cell 6, b.cell 7, b.cell 8⟩
theorem info_state : (Try.prog.info? 76).map (·.size) = some 9 := by kernel_rfl
theorem info_head : (Try.prog.info? 74).map (·.size) = some 8 := by kernel_rfl
theorem results_cell_row_tmp {P : Program} {fn : Func} {p u : Tmp} {ty : TypeId} (h : fn.results = #[.cell p ty, .tmp u]) (tmps : Array Value) (w : World) (g : Nat) (t : TypeId) (cs : Array Value) (fr : Nat × Nat) (d : TypeDesc)
    (hp : tmps.getD p undef = .pointer (some ⟨g, 0, none⟩)) (hg : w.heap[g]? = some (.cells cs t fr))
    (hu : P.underlying ty = some d) (hd : (match d with | .struct _ | .array _ _ => true | _ => false) = true) (hi : (P.info? ty).map (·.size) = some cs.size) :
    (results fn tmps).run P w = .ok (.tuple #[.agg cs, tmps.getD u undef]) w := by
  have hp' : tmps[p]?.getD undef = .pointer (some ⟨g, 0, none⟩) := by simpa using hp
  simp [results, h, hp', asAddr, run_loadVar_row w g t ty cs fr d hg hu hd hi]
theorem results_cell_row_tmp2 {P : Program} {fn : Func} {p u u' : Tmp} {ty : TypeId} (h : fn.results = #[.cell p ty, .tmp u, .tmp u']) (tmps : Array Value) (w : World) (g : Nat) (t : TypeId) (cs : Array Value) (fr : Nat × Nat) (d : TypeDesc)
    (hp : tmps.getD p undef = .pointer (some ⟨g, 0, none⟩)) (hg : w.heap[g]? = some (.cells cs t fr))
    (hu : P.underlying ty = some d) (hd : (match d with | .struct _ | .array _ _ => true | _ => false) = true) (hi : (P.info? ty).map (·.size) = some cs.size) :
    (results fn tmps).run P w = .ok (.tuple #[.agg cs, tmps.getD u undef, tmps.getD u' undef]) w := by
  have hp' : tmps[p]?.getD undef = .pointer (some ⟨g, 0, none⟩) := by simpa using hp
  simp [results, h, hp', asAddr, run_loadVar_row w g t ty cs fr d hg hu hd hi]
/-- One state: its head, where its body stands, and the body's bytes. -/
structure SE where
  h : Hd
  A : Option Addr
  n : Nat
  c : Nat
  B : List Int
@[reducible] def SE.v (s : SE) : Value := stV s.h s.A s.n s.c
/-- A state that can be read. -/
structure SE.rd (w : World) (s : SE) : Prop where
  head : s.h.ok
  body : Reads w w.heap.size 1 s.A s.n (u8s s.B)
  oct : Oct s.B
  cap : s.n ≤ s.c ∧ s.c ≤ 9223372036854775807
  len : s.n ≤ 1099511627776
theorem SE.rd.bl {w : World} {s : SE} (h : s.rd w) : s.B.length = s.n := h.body.u8len
theorem SE.rd.kept {R : Nat → Prop} {w w' : World} {s : SE} (h : s.rd w) (k : Kept R w w') (hn : ∀ ad, s.A = some ad → ¬ R ad.block) : s.rd w' := ⟨h.head, h.body.keptUp k (fun _ ad e => hn ad e), h.oct, h.cap, h.len⟩
theorem SE.rd.later {w w' : World} {s : SE} (h : s.rd w) (hb : Below w.heap.size w w') : s.rd w' := h.kept (Kept.of_new hb (fun _ => False)) (fun _ _ h => h)
@[reducible] def SE.b (s : SE) : Value := .slice s.A s.n s.c
/-- A state whose body is a row of its own, new since base. -/
structure SE.ok (base : Nat) (w : World) (s : SE) : Prop where
  head : s.h.ok
  body : w.ownsRow base 5 1 s.b s.n (u8s s.B)
  oct : Oct s.B
  len : s.n ≤ 1099511627776
theorem SE.ok.later {base : Nat} {w w' : World} {s : SE} (h : s.ok base w) (hb : Below w.heap.size w w') : s.ok base w' := ⟨h.head, own_kept h.body (Kept.of_new hb (fun _ => False)) (fun _ _ h => h), h.oct, h.len⟩
theorem SE.ok.rd {base : Nat} {w : World} {s : SE} (h : s.ok base w) : s.rd w := by
  obtain ⟨A, c, e, h1, h2, h3⟩ := own_shape h.body
  injection e with e1 _ e3
  exact ⟨h.head, by rw [e1]; exact h3, h.oct, by rw [e3]; exact ⟨h1, h2⟩, h.len⟩
theorem SE.ok.mono {base b' : Nat} {w : World} {s : SE} (h : s.ok base w) (hb : b' ≤ base) : s.ok b' w := ⟨h.head, own_mono h.body hb, h.oct, h.len⟩
/-- What counts of a state. -/
structure CopyOf (w w' : World) (s s' : SE) : Prop where
  h : s'.h = s.h
  B : s'.B = s.B
  n : s'.n = s.n
  ok : s'.ok w.heap.size w'
set_option maxRecDepth 100000 in
set_option maxHeartbeats 2000000 in
theorem copyState_any (s : SE) (w : World) (hs : s.rd w) : Calls Try.prog 84 #[s.v] w fun e w' => ∃ s', e = .returned s'.v ∧ CopyOf w w' s s' ∧ Below w.heap.size w w' := by
  obtain ⟨h, A, n, c, B⟩ := s
  have Hok := Lib.hid hs
  have hz : Hid (Blk ((w.alloc (.cells (stC h A n c) 76)).alloc (.cells zC 76)) (w.heap.size + 1) 76 zC) := new_at _ _ _
  have hx : Hid (Blk ((w.alloc (.cells (stC h A n c) 76)).alloc (.cells zC 76)) w.heap.size 76 (stC h A n c)) := Lib.hid ((Blk.new _ _ _).alloc _)
  have hb : Hid (Below w.heap.size w ((w.alloc (.cells (stC h A n c) 76)).alloc (.cells zC 76))) := below_two _ _ _
  have hR := Lib.hid (Hok.out.body.later hb.out)
  have hn : n ≤ 1099511627776 := Hok.out.len
  have hl : Hid (B.length = n) := Lib.hid Hok.out.body.u8len
  clear hs
  show Calls Try.prog 84 #[stV h A n c] w fun e w' => ∃ s', e = .returned s'.v ∧ CopyOf w w' ⟨h, A, n, c, B⟩ s' ∧ Below w.heap.size w w'
  go_enter Try.func84, Try.ntmps84
  go_wp2_with fail
  unfold stC zC at *
  generalize (w.alloc (.cells #[.int .u16 h.age, .int .u8 h.opts, .int .u8 h.typ, .int .u32 h.id, .int .u32 h.adv, .int .i32 h.seq, .int .u16 h.sum, .int .u16 h.len, .slice A n c] 76)).alloc (.cells #[.int .u16 0, .int .u8 0, .int .u8 0, .int .u32 0, .int .u32 0, .int .i32 0, .int .u16 0, .int .u16 0, .slice none 0 0] 76) = w1 at *
  refine (copyBytes_any A n c B w1 hR.out hn).mono ?_
  rintro e w2 ⟨v, rfl, hown, hb2⟩
  have H2 := Lib.hid (And.intro hown hb2)
  obtain ⟨A7, c7, hv, -⟩ := own_shape hown
  subst hv
  have x2 := hx.out.later hb2
  have z2 := hz.out.later hb2
  have HX := Lib.hid (And.intro x2 z2)
  obtain ⟨y0, y1, y2, y3, y4, y5, y6, y7, y8⟩ := stC_facts x2
  have f8 := x2.frozen 8
  have hne : w.heap.size ≠ w.heap.size + 1 := by omega
  clear hown hb2 x2 z2
  go_wp2_with (refine wpList_store_row rfl 76 _ _ rfl (w.heap.size + 1) #[.int .u16 h.age, .int .u8 h.opts, .int .u8 h.typ, .int .u32 h.id, .int .u32 h.adv, .int .i32 h.seq, .int .u16 h.sum, .int .u16 h.len, .slice A7 B.length c7] rfl rfl 76 _ (HX.out.2.far (by simp) _) info_state rfl (by simp [Value.oneCell']) ?_)
  refine bodyPost_ret (results_cell_row rfl _ _ (w.heap.size + 1) 76 #[.int .u16 h.age, .int .u8 h.opts, .int .u8 h.typ, .int .u32 h.id, .int .u32 h.adv, .int .i32 h.seq, .int .u16 h.sum, .int .u16 h.len, .slice A7 B.length c7] (0, 0) _ rfl ((HX.out.2.far (by simp) _).setRow _) Try.underlying76 rfl info_state) rfl ?_
  have hb3 : Below w.heap.size w w2 := below_then hb.out H2.out.2
  have h1s := hz.out.lt
  refine ⟨⟨h, A7, B.length, c7, B⟩, rfl, ⟨rfl, rfl, hl.out, ⟨Hok.out.head, ?_, Hok.out.oct, by rw [hl.out]; exact hn⟩⟩, ?_⟩
  · have k1 := (kept_setC w2 w.heap.size 8 (.slice A7 B.length c7)).mono (T := fun j => j = w.heap.size ∨ j = w.heap.size + 1) fun i _ e => .inl e
    refine own_mono (own_kept H2.out.1 (k1.trans (Kept.of_grown (only_setRow _ (w.heap.size + 1) _)) (fun i _ e => .inr (by simpa using e.symm))) ?_) hb.out.size
    intro i hi e
    have := (own_ge H2.out.1 hi).1
    omega
  · exact below_setRow (hb3.setCell (by simp) _) (Nat.le_succ _) _
/-- A state's bytes. -/
def stB (s : SE) : List Int := hdB s.h ++ s.B
set_option maxRecDepth 100000 in
set_option maxHeartbeats 4000000 in
theorem bytes_any (s : SE) (w : World) (hs : s.rd w) (hn : s.n ≤ 1073741824) : Calls Try.prog 81 #[s.v] w fun e w' => ∃ u, e = .returned u ∧ w'.ownsRow w.heap.size 5 1 u (20 + s.n) (u8s (stB s)) ∧ Below w.heap.size w w' := by
  obtain ⟨h, A, n, c, B⟩ := s
  have HOK := Lib.hid hs
  have hn' : n ≤ 1073741824 := hn
  have hw : IntKind.i64.wrap (20 + (n : Int)) = 20 + n := by rw [IntKind.wrap_i64]; omega
  have hb1 : Below w.heap.size w (w.alloc (.cells #[.int .u16 h.age, .int .u8 h.opts, .int .u8 h.typ, .int .u32 h.id, .int .u32 h.adv, .int .i32 h.seq, .int .u16 h.sum, .int .u16 h.len, .slice A n c] 76)) := (Below.refl _ _).alloc (Nat.le_refl _) _
  have HB1 := Lib.hid hb1
  have HX1 := Lib.hid (Blk.new w 76 (stC h A n c))
  clear hs hn hb1
  show Calls Try.prog 81 #[stV h A n c] w _
  go_enter Try.func81, Try.ntmps81
  go_wp2_with fail
  unfold stC at *
  generalize hgs : w.heap.size = gs at *
  generalize w.alloc (.cells #[.int .u16 h.age, .int .u8 h.opts, .int .u8 h.typ, .int .u32 h.id, .int .u32 h.adv, .int .i32 h.seq, .int .u16 h.sum, .int .u16 h.len, .slice A n c] 76) = w1 at *
  have HGS := Lib.hid hgs
  clear hgs
  refine (wr_new (20 + n) w1 (by omega) (by omega)).mono ?_
  rintro e w2 ⟨g, rfl, hw2, hg1, hg2⟩
  have HW2 := Lib.hid hw2
  have hb3 : Below w2.heap.size w2 (w2.alloc (.cells #[.pointer (some ⟨g, 0, none⟩)] 148)) := (Below.refl _ _).alloc (Nat.le_refl _) _
  have HP3 : Hid (PenBlk (w2.alloc (.cells #[.pointer (some ⟨g, 0, none⟩)] 148)) w2.heap.size g) := Lib.hid (Blk.new _ _ _)
  have HX3 := Lib.hid ((HX1.out.later hw2.b).later hb3)
  have HW3 := Lib.hid (hw2.later hb3)
  obtain ⟨x0, x1, x2, x3, x4, x5, x6, x7, x8⟩ := stC_facts HX3.out
  have hp0 := HP3.out
  unfold PenBlk at hp0
  have p0 := hp0.cell 0
  simp at p0
  clear hw2 HW2 hb3 hg1 hg2 hp0
  go_wp2_with fail
  generalize w2.heap.size = gp at *
  generalize w2.alloc (.cells #[.pointer (some ⟨g, 0, none⟩)] 148) = w3 at *
  clear x0 x1 x2 x3 x4 x5 x6 x7 x8 p0
  refine (penHead_any w1 w3 g _ [] HW3.out h HOK.out.head).mono ?_
  rintro e w4 ⟨rfl, hw4, hk4⟩
  have HW4 := Lib.hid hw4
  have HX4 := hk4.2 _ _ _ HX3.out (by decide) (by decide)
  have HP4 := hk4.2 _ _ _ HP3.out (by decide) (by decide)
  have x8 := HX4.cell 8
  have p0 := HP4.cell 0
  simp at x8 p0
  have hbw : Below w.heap.size w w4 := below_then (by rw [HGS.out]; exact HB1.out) hw4.b
  have HR4 := Lib.hid (HOK.out.body.later hbw)
  have HBW := Lib.hid hbw
  clear hw4 hk4 HX4 HP4 HX3 HP3 HW3 hbw
  go_wp2_with fail
  refine (wr_put w1 w4 g _ _ B HW4.out A n c HR4.out (by omega)).mono ?_
  rintro e w5 ⟨rfl, hw5, hk5⟩
  have HW5 := Lib.hid hw5
  clear hw5 hk5 x8 p0 HW4
  have hBl : Hid (([] ++ hdB h ++ B).length = 20 + n) := Lib.hid (by rw [List.length_append, List.nil_append, hdB_len, HOK.out.bl])
  go_wp2_with fail
  refine (wr_done_yes w1 w5 g _ _ HW5.out (by rw [hBl.out]; omega)).mono ?_
  rintro e w6 ⟨u, rfl, ho, hb6⟩
  rw [hBl.out] at ho
  have HD := Lib.hid (And.intro ho hb6)
  obtain ⟨A6, c6, hu, -⟩ := own_shape ho
  subst hu
  clear ho hb6
  go_wp2_with fail
  go_ret
  obtain ⟨ho, hb6⟩ := HD.out
  have hb5 : Below w.heap.size w w5 := below_then (by rw [HGS.out]; exact HB1.out) HW5.out.b
  refine ⟨_, rfl, ?_, ?_⟩
  · exact own_mono ho hb5.size
  · exact below_then hb5 hb6
end Go.Proofs.Ytbkejlalbjomkaa
namespace Go.Proofs.Ytbkejlalbjomkaa
set_option linter.unusedVariables false
open Go.RowKit Go.ChangeShapes Go.WideShapes

theorem num_at {xs : List Int} {p k : Nat} (h : p + k ≤ xs.length) (h1 : 1 ≤ k) (h4 : k ≤ 4) : (⟨xs, p, 0⟩ : Rd).num k = (be ((xs.drop p).take k), ⟨xs, p + k, 0⟩) := by
  have e1 : (if (k : Int) < 1 ∨ 4 < (k : Int) then (-1 : Int) else k) = k := by rw [if_neg (by omega)]
  unfold Rd.num
  rw [e1]
  unfold Rd.next
  rw [if_pos rfl, if_neg (by omega), if_neg (by simp only; omega)]
  rfl
theorem be_at {xs : List Int} (ho : Oct xs) (p k : Nat) : 0 ≤ be ((xs.drop p).take k) ∧ be ((xs.drop p).take k) < 256 ^ k := be_take (ho.drop p) k
theorem rr_at (w0 w : World) (g : Nat) (q : Rq) (xs : List Int) (p k : Nat) (h : RR w0 w g q ⟨xs, p, 0⟩) (hp : p + k ≤ xs.length) (h1 : 1 ≤ k) (h4 : k ≤ 4) :
    Calls Try.prog 51 #[.pointer (some ⟨g, 0, none⟩), .int .i64 (k : Int)] w fun e w' => e = .returned (.int .u32 (be ((xs.drop p).take k))) ∧ RR w0 w' g q ⟨xs, p + k, 0⟩ ∧ Kept (fun i => i = g) w w' := by
  have := rr_num w0 w g q _ h k (by omega)
  rw [num_at hp h1 h4] at this
  exact this
/-- The head that stands at a place. -/
def hdAt (xs : List Int) (p : Nat) : Hd :=
  ⟨be ((xs.drop p).take 2), be ((xs.drop (p + 2)).take 1), be ((xs.drop (p + 3)).take 1), be ((xs.drop (p + 4)).take 4), be ((xs.drop (p + 8)).take 4), wrap32 (be ((xs.drop (p + 12)).take 4)), be ((xs.drop (p + 16)).take 2), be ((xs.drop (p + 18)).take 2)⟩
theorem wrap_i32_eq (x : Int) : wrap32 x = (x + 2147483648) % 4294967296 - 2147483648 := by unfold wrap32; rfl
theorem hdAt_ok {xs : List Int} (ho : Oct xs) (p : Nat) : (hdAt xs p).ok := by
  have a := be_at ho p 2
  have b := be_at ho (p + 2) 1
  have c := be_at ho (p + 3) 1
  have d := be_at ho (p + 4) 4
  have e := be_at ho (p + 8) 4
  have f := be_at ho (p + 16) 2
  have g := be_at ho (p + 18) 2
  refine ⟨?_, ?_, ?_, ?_, ?_, ?_, ?_, ?_⟩ <;> unfold hdAt <;> (try simp only) <;> first | omega | (rw [wrap_i32_eq]; omega)
set_option maxRecDepth 100000 in
set_option maxHeartbeats 4000000 in
theorem rdHead_any (w0 w : World) (g : Nat) (q : Rq) (xs : List Int) (p : Nat) (h : RR w0 w g q ⟨xs, p, 0⟩) (hl : p + 20 ≤ xs.length) :
    Calls Try.prog 101 #[.pointer (some ⟨g, 0, none⟩)] w fun e w' => e = .returned (hdAt xs p).v ∧ RR w0 w' g q ⟨xs, p + 20, 0⟩ ∧ Kept (fun i => i = g) w w' := by
  have ho : Oct xs := h.oct
  have hgl : g < w.heap.size := h.rs.blk.lt
  have HA := Lib.hid (And.intro h.rs.addr (And.intro h.b.size (h.rs.len)))
  obtain ⟨e1, e2, e3, e4, e5⟩ : IntKind.u16.wrap (be ((xs.drop p).take 2)) = be ((xs.drop p).take 2) ∧ IntKind.u8.wrap (be ((xs.drop (p + 2)).take 1)) = be ((xs.drop (p + 2)).take 1) ∧ IntKind.u8.wrap (be ((xs.drop (p + 3)).take 1)) = be ((xs.drop (p + 3)).take 1) ∧ IntKind.u16.wrap (be ((xs.drop (p + 16)).take 2)) = be ((xs.drop (p + 16)).take 2) ∧ IntKind.u16.wrap (be ((xs.drop (p + 18)).take 2)) = be ((xs.drop (p + 18)).take 2) := by
    have a := be_at ho p 2
    have b := be_at ho (p + 2) 1
    have c := be_at ho (p + 3) 1
    have f := be_at ho (p + 16) 2
    have g := be_at ho (p + 18) 2
    simp only [IntKind.wrap, IntKind.bits, IntKind.signed]
    refine ⟨?_, ?_, ?_, ?_, ?_⟩ <;> simp <;> omega
  have hb0 : Below w.heap.size w (w.alloc (.cells #[.int .u16 0, .int .u8 0, .int .u8 0, .int .u32 0, .int .u32 0, .int .i32 0, .int .u16 0, .int .u16 0] 74)) := (Below.refl _ _).alloc (Nat.le_refl _) _
  have HR := Lib.hid (h.later hb0)
  have HK := Lib.hid (Kept.of_new hb0 (fun i => i = g))
  have HZ := Lib.hid (Blk.new w 74 #[.int .u16 0, .int .u8 0, .int .u8 0, .int .u32 0, .int .u32 0, .int .i32 0, .int .u16 0, .int .u16 0])
  have HG := Lib.hid hgl
  clear h ho hgl hb0
  go_enter Try.func101, Try.ntmps101
  go_wp2_with fail
  generalize hgr : w.heap.size = gr at *
  generalize w.alloc (.cells #[.int .u16 0, .int .u8 0, .int .u8 0, .int .u32 0, .int .u32 0, .int .i32 0, .int .u16 0, .int .u16 0] 74) = v0 at *
  have hgrg : Hid (gr ≠ g) := Lib.hid (by have := HG.out; omega)
  have HGR := Lib.hid hgr
  clear hgr
  refine (rr_at w0 v0 g q xs (p) 2 HR.out (by omega) (by omega) (by omega)).mono ?_
  rintro e v1 ⟨rfl, hr, hk⟩
  replace HR := Lib.hid hr
  replace HK := Lib.hid (HK.out.trans hk (fun _ _ e => e))
  replace HZ := Lib.hid (HZ.out.kept hk hgrg.out)
  clear hr hk
  go_wp2_with fail
  refine (rr_at w0 v1 g q xs (p + 2) 1 HR.out (by omega) (by omega) (by omega)).mono ?_
  rintro e v2 ⟨rfl, hr, hk⟩
  replace HR := Lib.hid hr
  replace HK := Lib.hid (HK.out.trans hk (fun _ _ e => e))
  replace HZ := Lib.hid (HZ.out.kept hk hgrg.out)
  clear hr hk
  go_wp2_with fail
  refine (rr_at w0 v2 g q xs (p + 3) 1 HR.out (by omega) (by omega) (by omega)).mono ?_
  rintro e v3 ⟨rfl, hr, hk⟩
  replace HR := Lib.hid hr
  replace HK := Lib.hid (HK.out.trans hk (fun _ _ e => e))
  replace HZ := Lib.hid (HZ.out.kept hk hgrg.out)
  clear hr hk
  go_wp2_with fail
  refine (rr_at w0 v3 g q xs (p + 4) 4 HR.out (by omega) (by omega) (by omega)).mono ?_
  rintro e v4 ⟨rfl, hr, hk⟩
  replace HR := Lib.hid hr
  replace HK := Lib.hid (HK.out.trans hk (fun _ _ e => e))
  replace HZ := Lib.hid (HZ.out.kept hk hgrg.out)
  clear hr hk
  go_wp2_with fail
  refine (rr_at w0 v4 g q xs (p + 8) 4 HR.out (by omega) (by omega) (by omega)).mono ?_
  rintro e v5 ⟨rfl, hr, hk⟩
  replace HR := Lib.hid hr
  replace HK := Lib.hid (HK.out.trans hk (fun _ _ e => e))
  replace HZ := Lib.hid (HZ.out.kept hk hgrg.out)
  clear hr hk
  go_wp2_with fail
  refine (rr_at w0 v5 g q xs (p + 12) 4 HR.out (by omega) (by omega) (by omega)).mono ?_
  rintro e v6 ⟨rfl, hr, hk⟩
  replace HR := Lib.hid hr
  replace HK := Lib.hid (HK.out.trans hk (fun _ _ e => e))
  replace HZ := Lib.hid (HZ.out.kept hk hgrg.out)
  clear hr hk
  go_wp2_with fail
  refine (rr_at w0 v6 g q xs (p + 16) 2 HR.out (by omega) (by omega) (by omega)).mono ?_
  rintro e v7 ⟨rfl, hr, hk⟩
  replace HR := Lib.hid hr
  replace HK := Lib.hid (HK.out.trans hk (fun _ _ e => e))
  replace HZ := Lib.hid (HZ.out.kept hk hgrg.out)
  clear hr hk
  go_wp2_with fail
  refine (rr_at w0 v7 g q xs (p + 18) 2 HR.out (by omega) (by omega) (by omega)).mono ?_
  rintro e v8 ⟨rfl, hr, hk⟩
  replace HR := Lib.hid hr
  replace HK := Lib.hid (HK.out.trans hk (fun _ _ e => e))
  replace HZ := Lib.hid (HZ.out.kept hk hgrg.out)
  clear hr hk
  go_wp2_with (refine wpList_store_row rfl 74 _ _ rfl gr #[.int .u16 (be ((xs.drop p).take 2)), .int .u8 (be ((xs.drop (p + 2)).take 1)), .int .u8 (be ((xs.drop (p + 3)).take 1)), .int .u32 (be ((xs.drop (p + 4)).take 4)), .int .u32 (be ((xs.drop (p + 8)).take 4)), .int .i32 (wrap32 (be ((xs.drop (p + 12)).take 4))), .int .u16 (be ((xs.drop (p + 16)).take 2)), .int .u16 (be ((xs.drop (p + 18)).take 2))] rfl rfl 74 _ HZ.out info_head rfl (by simp [Value.oneCell']) ?_)
  refine bodyPost_ret (results_cell_row rfl _ _ gr 74 #[.int .u16 (be ((xs.drop p).take 2)), .int .u8 (be ((xs.drop (p + 2)).take 1)), .int .u8 (be ((xs.drop (p + 3)).take 1)), .int .u32 (be ((xs.drop (p + 4)).take 4)), .int .u32 (be ((xs.drop (p + 8)).take 4)), .int .i32 (wrap32 (be ((xs.drop (p + 12)).take 4))), .int .u16 (be ((xs.drop (p + 16)).take 2)), .int .u16 (be ((xs.drop (p + 18)).take 2))] (0, 0) _ rfl (HZ.out.setRow _) Try.underlying74 rfl info_head) rfl ⟨rfl, ?_, ?_⟩
  · refine HR.out.kept (R := fun i => i = gr) ((Kept.of_grown (only_setRow v8 gr _)).mono fun i _ e => by simpa using e.symm) (fun e => hgrg.out e.symm) (fun h0 ad e e' => ?_) (fun i e => ?_)
    · have h1 := HA.out.1 h0 ad e
      have h2 : ad.block = gr := e'
      omega
    · have h1 := HA.out.2.1
      have h2 : i = gr := e
      omega
  · exact HK.out.trans ((Kept.of_grown (only_setRow v8 gr _)).mono (T := fun i => i = gr) fun i _ e => by simpa using e.symm) (fun i hi e => absurd hi (by
      have h1 := HGR.out
      have h2 : i = gr := e
      omega))
/-- What ReadHead answers. -/
def rhH (xs : List Int) : Hd := if xs.length < 20 then ⟨0, 0, 0, 0, 0, 0, 0, 0⟩ else hdAt xs 0
def rhE (xs : List Int) : Int := if xs.length < 20 then 10 else 0
theorem hdAt_take {xs : List Int} (h : 20 ≤ xs.length) : hdAt (xs.take 20) 0 = hdAt xs 0 := by
  have key : ∀ p k, p + k ≤ 20 → ((xs.take 20).drop p).take k = (xs.drop p).take k := by
    intro p k hpk
    rw [List.drop_take, List.take_take]
    congr 1
    omega
  unfold hdAt
  rw [key 0 2 (by omega), key (0 + 2) 1 (by omega), key (0 + 3) 1 (by omega), key (0 + 4) 4 (by omega), key (0 + 8) 4 (by omega), key (0 + 12) 4 (by omega), key (0 + 16) 2 (by omega), key (0 + 18) 2 (by omega)]
set_option maxRecDepth 100000 in
set_option maxHeartbeats 4000000 in
theorem readHead_any (A : Option Addr) (n c : Nat) (xs : List Int) (w : World) (hx : Reads w w.heap.size 1 A n (u8s xs)) (ho : Oct xs) (hc : n ≤ c) (hcm : c ≤ 9223372036854775807) (hn : n ≤ 140737488355328) :
    Calls Try.prog 99 #[.slice A n c] w fun e w' => e = .returned (.tuple #[(rhH xs).v, .int .i64 (rhE xs)]) ∧ Below w.heap.size w w' := by
  have hl := hx.u8len
  have hb0 : Below w.heap.size w (w.alloc (.cells #[.int .u16 0, .int .u8 0, .int .u8 0, .int .u32 0, .int .u32 0, .int .i32 0, .int .u16 0, .int .u16 0] 74)) := (Below.refl _ _).alloc (Nat.le_refl _) _
  have HZ := Lib.hid (Blk.new w 74 #[.int .u16 0, .int .u8 0, .int .u8 0, .int .u32 0, .int .u32 0, .int .i32 0, .int .u16 0, .int .u16 0])
  have HB := Lib.hid hb0
  by_cases h20 : n < 20
  · have e1 : rhH xs = ⟨0, 0, 0, 0, 0, 0, 0, 0⟩ := by unfold rhH; rw [if_pos (by omega)]
    have e2 : rhE xs = 10 := by unfold rhE; rw [if_pos (by omega)]
    rw [e1, e2]
    have hd : decide ((n : Int) < 20) = true := decide_eq_true (by omega)
    clear hx ho hl hb0 e1 e2
    go_enter Try.func99, Try.ntmps99
    go_wp2_with (refine wpList_store_row rfl 74 _ _ rfl w.heap.size #[.int .u16 0, .int .u8 0, .int .u8 0, .int .u32 0, .int .u32 0, .int .i32 0, .int .u16 0, .int .u16 0] rfl rfl 74 _ (heap_alloc_new w _) info_head rfl (by simp [Value.oneCell']) ?_; rw [World.setRow_alloc_new])
    exact bodyPost_ret (results_cell_row_tmp rfl _ _ w.heap.size 74 #[.int .u16 0, .int .u8 0, .int .u8 0, .int .u32 0, .int .u32 0, .int .i32 0, .int .u16 0, .int .u16 0] (0, 0) _ rfl HZ.out Try.underlying74 rfl info_head) rfl ⟨rfl, HB.out⟩
  · have e1 : rhH xs = hdAt (xs.take 20) 0 := by unfold rhH; rw [if_neg (by omega), hdAt_take (by omega)]
    have e2 : rhE xs = 0 := by unfold rhE; rw [if_neg (by omega)]
    obtain ⟨H, hH⟩ : ∃ H, hdAt (xs.take 20) 0 = H := ⟨_, rfl⟩
    rw [e1, e2, hH]
    have HH := Lib.hid hH
    have hd : decide ((n : Int) < 20) = false := decide_eq_false (by omega)
    have HR := Lib.hid ((hx.later hb0).u8pre (k := 20) (by omega))
    have HO := Lib.hid (ho.take 20)
    have HL : Hid ((xs.take 20).length = 20) := Lib.hid (by rw [List.length_take]; omega)
    have h20c : (20 : Int) ≤ c := by omega
    clear hx ho hl hb0 e1 e2 hH
    go_enter Try.func99, Try.ntmps99
    go_wp2_with fail
    generalize hgr : w.heap.size = gr at *
    have HGR := Lib.hid hgr
    clear hgr
    generalize w.alloc (.cells #[.int .u16 0, .int .u8 0, .int .u8 0, .int .u32 0, .int .u32 0, .int .i32 0, .int .u16 0, .int .u16 0] 74) = w1 at *
    refine (rr_new A 20 c (xs.take 20) w1 HR.out HO.out (by omega)).mono ?_
    rintro e w2 ⟨g, q, rfl, hr⟩
    have HR2 := Lib.hid hr
    clear hr
    go_wp2_with fail
    have HD := rdHead_any w1 w2 g q (xs.take 20) 0 HR2.out (by rw [HL.out]; omega)
    rw [HH.out] at HD
    refine HD.mono ?_
    clear HD
    rintro e w3 ⟨rfl, hr, _⟩
    have HZ3 := Lib.hid (HZ.out.later hr.b)
    have HB3 : Hid (Below w.heap.size w w3) := Lib.hid (below_then (by rw [HGR.out]; exact HB.out) hr.b)
    clear hr HR2
    go_wp2_with (refine wpList_store_row rfl 74 _ _ rfl gr #[.int .u16 H.age, .int .u8 H.opts, .int .u8 H.typ, .int .u32 H.id, .int .u32 H.adv, .int .i32 H.seq, .int .u16 H.sum, .int .u16 H.len] rfl rfl 74 _ HZ3.out info_head rfl (by simp [Value.oneCell']) ?_)
    exact bodyPost_ret (results_cell_row_tmp rfl _ _ gr 74 #[.int .u16 H.age, .int .u8 H.opts, .int .u8 H.typ, .int .u32 H.id, .int .u32 H.adv, .int .i32 H.seq, .int .u16 H.sum, .int .u16 H.len] (0, 0) _ rfl (HZ3.out.setRow _) Try.underlying74 rfl info_head) rfl ⟨rfl, below_setRow HB3.out (by have := HGR.out; omega) _⟩
end Go.Proofs.Ytbkejlalbjomkaa
namespace Go.Proofs.Ytbkejlalbjomkaa
set_option linter.unusedVariables false
open Go.RowKit Go.ChangeShapes Go.WideShapes

/-- What Read tells. -/
def rdE (xs : List Int) : Int := if xs.length < 20 then 10 else if (hdAt xs 0).len < 20 then 22 else if (xs.length : Int) < (hdAt xs 0).len then 10 else 0
theorem rh_yes {xs : List Int} (h : 20 ≤ xs.length) : rhH xs = hdAt xs 0 ∧ rhE xs = 0 := ⟨by unfold rhH; rw [if_neg (by omega)], by unfold rhE; rw [if_neg (by omega)]⟩
theorem rh_no {xs : List Int} (h : xs.length < 20) : rhH xs = ⟨0, 0, 0, 0, 0, 0, 0, 0⟩ ∧ rhE xs = 10 := ⟨by unfold rhH; rw [if_pos h], by unfold rhE; rw [if_pos h]⟩
def HdBl (W : World) (gh : Nat) (h : Hd) : Prop := W.cell? ⟨gh, 0, none⟩ = some (.int .u16 h.age) ∧ W.cell? ⟨gh, 1, none⟩ = some (.int .u8 h.opts) ∧ W.cell? ⟨gh, 2, none⟩ = some (.int .u8 h.typ) ∧ W.cell? ⟨gh, 3, none⟩ = some (.int .u32 h.id) ∧ W.cell? ⟨gh, 4, none⟩ = some (.int .u32 h.adv) ∧
    W.cell? ⟨gh, 5, none⟩ = some (.int .i32 h.seq) ∧ W.cell? ⟨gh, 6, none⟩ = some (.int .u16 h.sum) ∧ W.cell? ⟨gh, 7, none⟩ = some (.int .u16 h.len)
theorem HdBlk.cells {W : World} {gh : Nat} {h : Hd} (b : HdBlk W gh h) : HdBl W gh h := by
  unfold HdBlk at b
  exact ⟨b.cell 0, b.cell 1, b.cell 2, b.cell 3, b.cell 4, b.cell 5, b.cell 6, b.cell 7⟩
set_option maxRecDepth 100000 in
set_option maxHeartbeats 8000000 in
theorem read_no (A : Option Addr) (n c : Nat) (xs : List Int) (w : World) (hx : Reads w w.heap.size 1 A n (u8s xs)) (ho : Oct xs) (hc : n ≤ c) (hcm : c ≤ 9223372036854775807) (hn : n ≤ 140737488355328) (he : rdE xs ≠ 0) :
    Calls Try.prog 88 #[.slice A n c] w fun e w' => e = .returned (.tuple #[zeroSt, .int .i64 0, .int .i64 (rdE xs)]) ∧ Below w.heap.size w w' := by
  have hl := hx.u8len
  have hb0 : Below w.heap.size w (w.alloc (.cells zC 76)) := (Below.refl _ _).alloc (Nat.le_refl _) _
  have HZ := Lib.hid (Blk.new w 76 zC)
  have HB := Lib.hid hb0
  have HX := Lib.hid (And.intro (hx.later hb0) (And.intro ho hl))
  have HC : Hid ((xs.length < 20 ∧ rdE xs = 10) ∨ (20 ≤ xs.length ∧ (hdAt xs 0).len < 20 ∧ rdE xs = 22) ∨ (20 ≤ xs.length ∧ ¬ (hdAt xs 0).len < 20 ∧ (xs.length : Int) < (hdAt xs 0).len ∧ rdE xs = 10)) := Lib.hid (by
    unfold rdE at *
    by_cases h1 : xs.length < 20
    · exact .inl ⟨h1, if_pos h1⟩
    · rw [if_neg h1] at *
      by_cases h2 : (hdAt xs 0).len < 20
      · exact .inr (.inl ⟨by omega, h2, if_pos h2⟩)
      · rw [if_neg h2] at *
        by_cases h3 : (xs.length : Int) < (hdAt xs 0).len
        · exact .inr (.inr ⟨by omega, h2, h3, if_pos h3⟩)
        · rw [if_neg h3] at he
          exact absurd rfl he)
  generalize rdE xs = E at *
  clear hx ho hl hb0 he
  go_enter Try.func88, Try.ntmps88
  go_wp2_with fail
  unfold zC at *
  generalize hgr : w.heap.size = gr at *
  have HGR := Lib.hid hgr
  clear hgr
  generalize w.alloc (.cells #[.int .u16 0, .int .u8 0, .int .u8 0, .int .u32 0, .int .u32 0, .int .i32 0, .int .u16 0, .int .u16 0, .slice none 0 0] 76) = w1 at *
  have HD := readHead_any A n c xs w1 HX.out.1 HX.out.2.1 hc hcm hn
  have ENDS : ∀ (W : World) (b : Below gr w W) (z : Blk W gr 76 #[.int .u16 0, .int .u8 0, .int .u8 0, .int .u32 0, .int .u32 0, .int .i32 0, .int .u16 0, .int .u16 0, .slice none 0 0]) (cs : Array Value), Below gr w (W.setRow gr cs) := fun W b _ cs => below_setRow b (Nat.le_refl _) cs
  have HE := Lib.hid ENDS
  clear ENDS
  rcases HC.out with ⟨h1, hE⟩ | ⟨h1, h2, hE⟩ | ⟨h1, h2, h3, hE⟩
  · rw [(rh_no h1).1, (rh_no h1).2] at HD
    refine HD.mono ?_
    clear HD
    rintro e w2 ⟨rfl, hb2⟩
    have HZ3 := Lib.hid ((HZ.out.later hb2).alloc (.cells #[.int .u16 0, .int .u8 0, .int .u8 0, .int .u32 0, .int .u32 0, .int .i32 0, .int .u16 0, .int .u16 0] 74))
    have hb3 : Below w.heap.size w w2 := below_then (by rw [HGR.out]; exact HB.out) hb2
    have HB3 : Hid (Below gr w (w2.alloc (.cells #[.int .u16 0, .int .u8 0, .int .u8 0, .int .u32 0, .int .u32 0, .int .i32 0, .int .u16 0, .int .u16 0] 74))) := Lib.hid (by rw [← HGR.out]; exact hb3.alloc hb3.size _)
    subst hE
    clear hb2 hb3 HC h1
    go_wp2_with (refine wpList_store_row rfl 76 _ _ rfl gr #[.int .u16 0, .int .u8 0, .int .u8 0, .int .u32 0, .int .u32 0, .int .i32 0, .int .u16 0, .int .u16 0, .slice none 0 0] rfl rfl 76 _ HZ3.out info_state rfl (by simp [Value.oneCell']) ?_)
    exact bodyPost_ret (results_cell_row_tmp2 rfl _ _ gr 76 #[.int .u16 0, .int .u8 0, .int .u8 0, .int .u32 0, .int .u32 0, .int .i32 0, .int .u16 0, .int .u16 0, .slice none 0 0] (0, 0) _ rfl (HZ3.out.setRow _) Try.underlying76 rfl info_state) rfl ⟨rfl, by rw [HGR.out]; exact HE.out _ HB3.out HZ3.out _⟩
  · rw [(rh_yes h1).1, (rh_yes h1).2] at HD
    obtain ⟨H, hH⟩ : ∃ H, hdAt xs 0 = H := ⟨_, rfl⟩
    rw [hH] at HD h2
    refine HD.mono ?_
    clear HD
    rintro e w2 ⟨rfl, hb2⟩
    have HZ3 := Lib.hid ((HZ.out.later hb2).alloc (.cells #[.int .u16 H.age, .int .u8 H.opts, .int .u8 H.typ, .int .u32 H.id, .int .u32 H.adv, .int .i32 H.seq, .int .u16 H.sum, .int .u16 H.len] 74))
    have hb3 : Below w.heap.size w w2 := below_then (by rw [HGR.out]; exact HB.out) hb2
    have HB3 : Hid (Below gr w (w2.alloc (.cells #[.int .u16 H.age, .int .u8 H.opts, .int .u8 H.typ, .int .u32 H.id, .int .u32 H.adv, .int .i32 H.seq, .int .u16 H.sum, .int .u16 H.len] 74))) := Lib.hid (by rw [← HGR.out]; exact hb3.alloc hb3.size _)
    subst hE
    have d1 : decide (H.len < 20) = true := decide_eq_true h2
    clear hb2 hb3 HC h1 hH h2
    go_wp2_with (refine wpList_store_row rfl 76 _ _ rfl gr #[.int .u16 0, .int .u8 0, .int .u8 0, .int .u32 0, .int .u32 0, .int .i32 0, .int .u16 0, .int .u16 0, .slice none 0 0] rfl rfl 76 _ HZ3.out info_state rfl (by simp [Value.oneCell']) ?_)
    exact bodyPost_ret (results_cell_row_tmp2 rfl _ _ gr 76 #[.int .u16 0, .int .u8 0, .int .u8 0, .int .u32 0, .int .u32 0, .int .i32 0, .int .u16 0, .int .u16 0, .slice none 0 0] (0, 0) _ rfl (HZ3.out.setRow _) Try.underlying76 rfl info_state) rfl ⟨rfl, by rw [HGR.out]; exact HE.out _ HB3.out HZ3.out _⟩
  · rw [(rh_yes h1).1, (rh_yes h1).2] at HD
    have hok := (hdAt_ok HX.out.2.1 0).len
    obtain ⟨H, hH⟩ : ∃ H, hdAt xs 0 = H := ⟨_, rfl⟩
    rw [hH] at HD h2 h3 hok
    rw [HX.out.2.2] at h3
    refine HD.mono ?_
    clear HD
    rintro e w2 ⟨rfl, hb2⟩
    have HZ3 := Lib.hid ((HZ.out.later hb2).alloc (.cells #[.int .u16 H.age, .int .u8 H.opts, .int .u8 H.typ, .int .u32 H.id, .int .u32 H.adv, .int .i32 H.seq, .int .u16 H.sum, .int .u16 H.len] 74))
    have hb3 : Below w.heap.size w w2 := below_then (by rw [HGR.out]; exact HB.out) hb2
    have HB3 : Hid (Below gr w (w2.alloc (.cells #[.int .u16 H.age, .int .u8 H.opts, .int .u8 H.typ, .int .u32 H.id, .int .u32 H.adv, .int .i32 H.seq, .int .u16 H.sum, .int .u16 H.len] 74))) := Lib.hid (by rw [← HGR.out]; exact hb3.alloc hb3.size _)
    subst hE
    have d1 : decide (H.len < 20) = false := decide_eq_false (by omega)
    have d2 : decide ((n : Int) < H.len) = true := decide_eq_true h3
    clear hb2 hb3 HC h1 hH h2 h3
    go_wp2_with (refine wpList_store_row rfl 76 _ _ rfl gr #[.int .u16 0, .int .u8 0, .int .u8 0, .int .u32 0, .int .u32 0, .int .i32 0, .int .u16 0, .int .u16 0, .slice none 0 0] rfl rfl 76 _ HZ3.out info_state rfl (by simp [Value.oneCell']) ?_)
    exact bodyPost_ret (results_cell_row_tmp2 rfl _ _ gr 76 #[.int .u16 0, .int .u8 0, .int .u8 0, .int .u32 0, .int .u32 0, .int .i32 0, .int .u16 0, .int .u16 0, .slice none 0 0] (0, 0) _ rfl (HZ3.out.setRow _) Try.underlying76 rfl info_state) rfl ⟨rfl, by rw [HGR.out]; exact HE.out _ HB3.out HZ3.out _⟩
/-- A state that was read. -/
structure RdS (w w' : World) (xs : List Int) (s' : SE) : Prop where
  h : s'.h = hdAt xs 0
  B : s'.B = (xs.take (hdAt xs 0).len.toNat).drop 20
  n : (s'.n : Int) = (hdAt xs 0).len - 20
  ok : s'.ok w.heap.size w'
theorem take_drop_len (xs : List Int) {m : Nat} (h : m ≤ xs.length) : ((xs.take m).drop 20).length = m - 20 := by rw [List.length_drop, List.length_take]; omega
set_option maxRecDepth 100000 in
set_option maxHeartbeats 8000000 in
theorem read_yes (A : Option Addr) (n c : Nat) (xs : List Int) (w : World) (hx : Reads w w.heap.size 1 A n (u8s xs)) (ho : Oct xs) (hc : n ≤ c) (hcm : c ≤ 9223372036854775807) (hn : n ≤ 140737488355328) (he : rdE xs = 0) :
    Calls Try.prog 88 #[.slice A n c] w fun e w' => ∃ s', e = .returned (.tuple #[s'.v, .int .i64 (hdAt xs 0).len, .int .i64 0]) ∧ RdS w w' xs s' ∧ Below w.heap.size w w' := by
  have hl := hx.u8len
  have hb0 : Below w.heap.size w (w.alloc (.cells zC 76)) := (Below.refl _ _).alloc (Nat.le_refl _) _
  have HZ := Lib.hid (Blk.new w 76 zC)
  have HB := Lib.hid hb0
  have HX := Lib.hid (And.intro (hx.later hb0) (And.intro ho hl))
  obtain ⟨h1, h2, h3⟩ : 20 ≤ xs.length ∧ 20 ≤ (hdAt xs 0).len ∧ (hdAt xs 0).len ≤ xs.length := by
    unfold rdE at he
    split at he
    · cases he
    · split at he
      · cases he
      · split at he
        · cases he
        · omega
  have hok := hdAt_ok ho 0
  obtain ⟨m, hm⟩ : ∃ m : Nat, (hdAt xs 0).len = m := ⟨(hdAt xs 0).len.toNat, by omega⟩
  have hm20 : 20 ≤ m := by omega
  have hmn : m ≤ n := by omega
  have hm16 : m ≤ 65535 := by have := hok.len; omega
  obtain ⟨H, hH⟩ : ∃ H, hdAt xs 0 = H := ⟨_, rfl⟩
  rw [hH] at hm h2 h3 hok
  obtain ⟨ha, hp, ht, hi, hv, hs, hu, hln⟩ := H
  have hm' : hln = m := hm
  subst hm'
  clear hm
  have HL := Lib.hid (And.intro hH hok)
  obtain ⟨B, hB⟩ : ∃ B, (xs.take m).drop 20 = B := ⟨_, rfl⟩
  have HBl : Hid (B.length = m - 20) := Lib.hid (by rw [← hB]; exact take_drop_len xs (by omega))
  have HBB := Lib.hid hB
  have d1 : decide ((m : Int) < 20) = false := decide_eq_false (by omega)
  have d2 : decide ((n : Int) < m) = false := decide_eq_false (by omega)
  have hmI : (20 : Int) ≤ m := by omega
  have hmc : (m : Int) ≤ c := by omega
  have RH := Lib.hid (rh_yes h1)
  have hwm : IntKind.i64.wrap (m : Int) = m := by rw [IntKind.wrap_i64]; omega
  rw [hH]
  clear hx ho hl hb0 he h1 h2 h3 hok hB
  go_enter Try.func88, Try.ntmps88
  go_wp2_with fail
  unfold zC at *
  generalize hgr : w.heap.size = gr at *
  have HGR := Lib.hid hgr
  clear hgr
  generalize w.alloc (.cells #[.int .u16 0, .int .u8 0, .int .u8 0, .int .u32 0, .int .u32 0, .int .i32 0, .int .u16 0, .int .u16 0, .slice none 0 0] 76) = w1 at *
  have HD := readHead_any A n c xs w1 HX.out.1 HX.out.2.1 (by omega) hcm hn
  rw [RH.out.1, RH.out.2, hH] at HD
  refine HD.mono ?_
  clear HD hH
  rintro e w2 ⟨rfl, hb2⟩
  have hb3 : Below w.heap.size w w2 := below_then (by rw [HGR.out]; exact HB.out) hb2
  have hb4 : Below w2.heap.size w2 (w2.alloc (.cells #[.int .u16 ha, .int .u8 hp, .int .u8 ht, .int .u32 hi, .int .u32 hv, .int .i32 hs, .int .u16 hu, .int .u16 (m : Int)] 74)) := (Below.refl _ _).alloc (Nat.le_refl _) _
  have HZ3 := Lib.hid ((HZ.out.later hb2).later hb4)
  have HB3 := Lib.hid (below_then hb3 hb4)
  have HX3 := Lib.hid ((HX.out.1.later hb2).later hb4)
  have HH3 : Hid (HdBl (w2.alloc (.cells #[.int .u16 ha, .int .u8 hp, .int .u8 ht, .int .u32 hi, .int .u32 hv, .int .i32 hs, .int .u16 hu, .int .u16 (m : Int)] 74)) w2.heap.size ⟨ha, hp, ht, hi, hv, hs, hu, m⟩) := Lib.hid (HdBlk.cells (Blk.new _ _ _))
  obtain ⟨a0, a1, a2, a3, a4, a5, a6, a7⟩ := HH3.out
  have HGH : Hid (gr < w2.heap.size) := Lib.hid (by have := (HZ.out.later hb2).lt; exact this)
  clear hb2 hb3 hb4
  go_wp2_with fail
  generalize w2.heap.size = gh at *
  generalize w2.alloc (.cells #[.int .u16 ha, .int .u8 hp, .int .u8 ht, .int .u32 hi, .int .u32 hv, .int .i32 hs, .int .u16 hu, .int .u16 (m : Int)] 74) = w3 at *
  clear a0 a1 a2 a3 a4 a5 a6 a7
  have HS : Hid ((fun W : World => HdBl W gh ⟨ha, hp, ht, hi, hv, hs, hu, m⟩) w3.drew) := HH3
  have HR := Lib.hid ((HX3.out.u8pre hmn).u8cut (k := 20) (cap := c) hm20 (by omega))
  rw [HBB.out] at HR
  refine wp_region_s (fun W : World => HdBl W gh ⟨ha, hp, ht, hi, hv, hs, hu, m⟩) [(1, true), (2, true), (7, true), (0, true), (3, true), (4, true), (8, true), (9, true), (5, false), (6, true), (10, false), (11, true), (12, true)] (by kernel_rfl) (fun _ d _ _ _ h => by cases d <;> exact h) ?_
  simp only [List.map_cons, List.map_nil, nthOp_zero, nthOp_succ]
  have HX45 : Hid (w.heap.size ≤ w3.drew.heap.size) := Lib.hid HB3.out.size
  have HX4 := Lib.hid (And.intro (HZ3.out.drewN 1) (And.intro (below_drewN HB3.out 1) HR.out))
  replace HX4 : Hid (Blk w3.drew gr 76 _ ∧ Below w.heap.size w w3.drew ∧ Reads w3.drew w3.drew.heap.size 1 (if c = 20 then A else A.map (·.add 20)) (m - 20) (u8s B)) := HX4
  generalize w3.drew = w4 at *
  clear HX3 HR HZ3 HB3 HH3
  refine wpS_take HS (by rfl) (by intro W hW; clear hW; go_simp; try with_reducible rfl) ?_
  refine wpS_take HS (by rfl) (by intro W hW; clear hW; go_simp; try with_reducible rfl) ?_
  refine wpS_take HS (by rfl) (by intro W hW; clear hW; go_simp; try with_reducible rfl) ?_
  refine wpS_take HS (by rfl) (by intro W hW; obtain ⟨a0, a1, a2, a3, a4, a5, a6, a7⟩ := hW; go_simp; try with_reducible rfl) ?_
  refine wpS_take HS (by rfl) (by intro W hW; obtain ⟨a0, a1, a2, a3, a4, a5, a6, a7⟩ := hW; go_simp; try with_reducible rfl) ?_
  go_simp
  refine wpS_take HS (by rfl) (by intro W hW; clear hW; go_simp; try with_reducible rfl) ?_
  refine wpS_take HS (by rfl) (by intro W hW; obtain ⟨a0, a1, a2, a3, a4, a5, a6, a7⟩ := hW; go_simp; try with_reducible rfl) ?_
  refine wpS_take HS (by rfl) (by intro W hW; clear hW; go_simp; try with_reducible rfl) ?_
  go_simp
  refine wpS_do fun K hK => ?_
  go_wp2_with fail
  · have hr0 := HX4.out.2.2
    rw [if_pos (by omega)] at hr0
    refine (clone_any A (m - 20) 0 B w4 hr0 (by omega)).mono ?_
    rintro e w5 ⟨v, rfl, ho, hb⟩
    rw [HBl.out] at ho
    have HO5 := Lib.hid (And.intro ho hb)
    obtain ⟨A5, c5, hv5, -⟩ := own_shape ho
    subst hv5
    have HS5 : Hid ((fun W : World => HdBl W gh ⟨ha, hp, ht, hi, hv, hs, hu, m⟩) w5) := Lib.hid (by
      obtain ⟨a0, a1, a2, a3, a4, a5, a6, a7⟩ := HS.out
      have q := fun p v (e : w4.cell? p = some v) => (hb.cell (cell_lt e)).trans e
      exact ⟨q _ _ a0, q _ _ a1, q _ _ a2, q _ _ a3, q _ _ a4, q _ _ a5, q _ _ a6, q _ _ a7⟩)
    have HZ5 := Lib.hid (HX4.out.1.later hb)
    have HB5 := Lib.hid (below_then HX4.out.2.1 hb)
    have HG5 := Lib.hid (And.intro HX4.out.1.lt HX4.out.2.1.size)
    clear ho hb hr0 HS HX4
    go_wp2_with fail
    refine hK.out _ _ HS5.out ?_
    clear hK K
    refine wpS_take HS5 (by rfl) (by intro W hW; clear hW; go_simp; try with_reducible rfl) ?_
    go_simp
    refine wpS_do fun K hK => ?_
    go_wp2_with (refine wpList_store_row rfl 76 _ _ rfl gr #[.int .u16 ha, .int .u8 hp, .int .u8 ht, .int .u32 hi, .int .u32 hv, .int .i32 hs, .int .u16 hu, .int .u16 (m : Int), .slice A5 (m - 20) c5] rfl rfl 76 _ HZ5.out info_state rfl (by simp [Value.oneCell']) ?_)
    have hk6 : Kept (fun i => i = gr) w5 (w5.setRow gr #[.int .u16 ha, .int .u8 hp, .int .u8 ht, .int .u32 hi, .int .u32 hv, .int .i32 hs, .int .u16 hu, .int .u16 (m : Int), .slice A5 (m - 20) c5]) := (Kept.of_grown (only_setRow w5 gr _)).mono fun i _ e => by simpa using e.symm
    have hne : gh ≠ gr := by have := HGH.out; omega
    have HS6 : Hid ((fun W : World => HdBl W gh ⟨ha, hp, ht, hi, hv, hs, hu, m⟩) (w5.setRow gr #[.int .u16 ha, .int .u8 hp, .int .u8 ht, .int .u32 hi, .int .u32 hv, .int .i32 hs, .int .u16 hu, .int .u16 (m : Int), .slice A5 (m - 20) c5])) := Lib.hid (by
      obtain ⟨a0, a1, a2, a3, a4, a5, a6, a7⟩ := HS5.out
      have q := fun p v (hp : p.block = gh) (e : w5.cell? p = some v) => (hk6.cell (cell_lt e) (by rw [hp]; exact hne)).trans e
      exact ⟨q _ _ rfl a0, q _ _ rfl a1, q _ _ rfl a2, q _ _ rfl a3, q _ _ rfl a4, q _ _ rfl a5, q _ _ rfl a6, q _ _ rfl a7⟩)
    refine hK.out _ _ HS6.out ?_
    clear hK K
    refine wpS_take HS6 (by rfl) (by intro W hW; clear hW; go_simp; try with_reducible rfl) ?_
    refine wpS_take HS6 (by rfl) (by intro W hW; clear hW; go_simp; try with_reducible rfl) ?_
    refine wpS_nil ?_
    go_simp
    go_wp2_with fail
    refine bodyPost_ret (results_cell_row_tmp2 rfl _ _ gr 76 #[.int .u16 ha, .int .u8 hp, .int .u8 ht, .int .u32 hi, .int .u32 hv, .int .i32 hs, .int .u16 hu, .int .u16 (m : Int), .slice A5 (m - 20) c5] (0, 0) _ rfl (HZ5.out.setRow _) Try.underlying76 rfl info_state) rfl ⟨⟨⟨ha, hp, ht, hi, hv, hs, hu, m⟩, A5, m - 20, c5, B⟩, rfl, ⟨HL.out.1.symm, ?_, ?_, ⟨HL.out.2, ?_, ?_, ?_⟩⟩, ?_⟩
    · rw [HL.out.1]; exact HBB.out.symm
    · rw [HL.out.1]; show ((m - 20 : Nat) : Int) = m - 20; omega
    · refine own_mono (own_kept HO5.out.1 hk6 (fun i hi e => ?_)) HX45.out
      have h1 := (own_ge HO5.out.1 hi).1
      have h2 : i = gr := e
      have := HG5.out.1
      omega
    · show Oct B
      rw [← HBB.out]
      exact (HX.out.2.1.take m).drop 20
    · show m - 20 ≤ 1099511627776
      omega
    · exact below_setRow HB5.out (by have := HGR.out; omega) _
  · have hr0 := HX4.out.2.2
    replace hr0 : Reads w4 w4.heap.size 1 (A.map fun x => ⟨x.block, x.off + 20, none⟩) (m - 20) (u8s B) := by
      rw [if_neg (by omega)] at hr0
      have e : (fun x : Addr => x.add 20) = fun x => (⟨x.block, x.off + 20, none⟩ : Addr) := by funext x; unfold Addr.add; simp
      rwa [e] at hr0
    refine (clone_any (A.map fun x => ⟨x.block, x.off + 20, none⟩) (m - 20) (c - 20) B w4 hr0 (by omega)).mono ?_
    rintro e w5 ⟨v, rfl, ho, hb⟩
    rw [HBl.out] at ho
    have HO5 := Lib.hid (And.intro ho hb)
    obtain ⟨A5, c5, hv5, -⟩ := own_shape ho
    subst hv5
    have HS5 : Hid ((fun W : World => HdBl W gh ⟨ha, hp, ht, hi, hv, hs, hu, m⟩) w5) := Lib.hid (by
      obtain ⟨a0, a1, a2, a3, a4, a5, a6, a7⟩ := HS.out
      have q := fun p v (e : w4.cell? p = some v) => (hb.cell (cell_lt e)).trans e
      exact ⟨q _ _ a0, q _ _ a1, q _ _ a2, q _ _ a3, q _ _ a4, q _ _ a5, q _ _ a6, q _ _ a7⟩)
    have HZ5 := Lib.hid (HX4.out.1.later hb)
    have HB5 := Lib.hid (below_then HX4.out.2.1 hb)
    have HG5 := Lib.hid (And.intro HX4.out.1.lt HX4.out.2.1.size)
    clear ho hb hr0 HS HX4
    go_wp2_with fail
    refine hK.out _ _ HS5.out ?_
    clear hK K
    refine wpS_take HS5 (by rfl) (by intro W hW; clear hW; go_simp; try with_reducible rfl) ?_
    go_simp
    refine wpS_do fun K hK => ?_
    go_wp2_with (refine wpList_store_row rfl 76 _ _ rfl gr #[.int .u16 ha, .int .u8 hp, .int .u8 ht, .int .u32 hi, .int .u32 hv, .int .i32 hs, .int .u16 hu, .int .u16 (m : Int), .slice A5 (m - 20) c5] rfl rfl 76 _ HZ5.out info_state rfl (by simp [Value.oneCell']) ?_)
    have hk6 : Kept (fun i => i = gr) w5 (w5.setRow gr #[.int .u16 ha, .int .u8 hp, .int .u8 ht, .int .u32 hi, .int .u32 hv, .int .i32 hs, .int .u16 hu, .int .u16 (m : Int), .slice A5 (m - 20) c5]) := (Kept.of_grown (only_setRow w5 gr _)).mono fun i _ e => by simpa using e.symm
    have hne : gh ≠ gr := by have := HGH.out; omega
    have HS6 : Hid ((fun W : World => HdBl W gh ⟨ha, hp, ht, hi, hv, hs, hu, m⟩) (w5.setRow gr #[.int .u16 ha, .int .u8 hp, .int .u8 ht, .int .u32 hi, .int .u32 hv, .int .i32 hs, .int .u16 hu, .int .u16 (m : Int), .slice A5 (m - 20) c5])) := Lib.hid (by
      obtain ⟨a0, a1, a2, a3, a4, a5, a6, a7⟩ := HS5.out
      have q := fun p v (hp : p.block = gh) (e : w5.cell? p = some v) => (hk6.cell (cell_lt e) (by rw [hp]; exact hne)).trans e
      exact ⟨q _ _ rfl a0, q _ _ rfl a1, q _ _ rfl a2, q _ _ rfl a3, q _ _ rfl a4, q _ _ rfl a5, q _ _ rfl a6, q _ _ rfl a7⟩)
    refine hK.out _ _ HS6.out ?_
    clear hK K
    refine wpS_take HS6 (by rfl) (by intro W hW; clear hW; go_simp; try with_reducible rfl) ?_
    refine wpS_take HS6 (by rfl) (by intro W hW; clear hW; go_simp; try with_reducible rfl) ?_
    refine wpS_nil ?_
    go_simp
    go_wp2_with fail
    refine bodyPost_ret (results_cell_row_tmp2 rfl _ _ gr 76 #[.int .u16 ha, .int .u8 hp, .int .u8 ht, .int .u32 hi, .int .u32 hv, .int .i32 hs, .int .u16 hu, .int .u16 (m : Int), .slice A5 (m - 20) c5] (0, 0) _ rfl (HZ5.out.setRow _) Try.underlying76 rfl info_state) rfl ⟨⟨⟨ha, hp, ht, hi, hv, hs, hu, m⟩, A5, m - 20, c5, B⟩, rfl, ⟨HL.out.1.symm, ?_, ?_, ⟨HL.out.2, ?_, ?_, ?_⟩⟩, ?_⟩
    · rw [HL.out.1]; exact HBB.out.symm
    · rw [HL.out.1]; show ((m - 20 : Nat) : Int) = m - 20; omega
    · refine own_mono (own_kept HO5.out.1 hk6 (fun i hi e => ?_)) HX45.out
      have h1 := (own_ge HO5.out.1 hi).1
      have h2 : i = gr := e
      have := HG5.out.1
      omega
    · show Oct B
      rw [← HBB.out]
      exact (HX.out.2.1.take m).drop 20
    · show m - 20 ≤ 1099511627776
      omega
    · exact below_setRow HB5.out (by have := HGR.out; omega) _
end Go.Proofs.Ytbkejlalbjomkaa
namespace Go.Proofs.Ytbkejlalbjomkaa
set_option linter.unusedVariables false
open Go.RowKit Go.ChangeShapes Go.WideShapes

theorem errno_ne (k : Int) (w : World) : (binOp .neq 20 (.iface 40 (.int .i64 k)) Value.nilIface).run Try.prog w = .ok (.bool true) w := by kernel_rfl
theorem nil_ne (w : World) : (binOp .neq 20 Value.nilIface Value.nilIface).run Try.prog w = .ok (.bool false) w := by kernel_rfl
theorem assert_errno (k : Int) (w : World) : (Instr.typeAssert (.iface 40 (.int .i64 k)) 20 40 true).run Try.prog w = .ok (.tuple #[.int .i64 k, .bool true]) w := by kernel_rfl
end Go.Proofs.Ytbkejlalbjomkaa
