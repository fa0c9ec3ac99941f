/-
  What no store answers: StoreNone. Printed by gen_sto12.py.
-/
import Derived.Test.YtpncbggjngamgaaSto10
namespace Go.Proofs.Ytpncbggjngamgaa
set_option linter.unusedVariables false
open Go.RowKit

set_option maxRecDepth 100000 in
set_option maxHeartbeats 8000000 in
theorem none_walk (now : Int) (x : SE) (w : World) (hx : SArg w x) : Calls Try.prog 6 #[.int .i64 now, x.v] w fun e w' => e = .returned (.bool true) ∧ Below w.heap.size w w' := by
  obtain ⟨⟨xage, xopts, k1, k2, k3, xseq, xsum, xlen⟩, xA, xn, xc, xB⟩ := x
  have hb1 : Below w.heap.size w (w.alloc (.cells #[.int .u16 xage, .int .u8 xopts, .int .u8 k1, .int .u32 k2, .int .u32 k3, .int .i32 xseq, .int .u16 xsum, .int .u16 xlen, .slice xA xn xc] 31)) := (Below.refl _ _).alloc (Nat.le_refl _) _
  have HX1 : Hid (Blk (w.alloc (.cells #[.int .u16 xage, .int .u8 xopts, .int .u8 k1, .int .u32 k2, .int .u32 k3, .int .i32 xseq, .int .u16 xsum, .int .u16 xlen, .slice xA xn xc] 31)) w.heap.size 31 #[.int .u16 xage, .int .u8 xopts, .int .u8 k1, .int .u32 k2, .int .u32 k3, .int .i32 xseq, .int .u16 xsum, .int .u16 xlen, .slice xA xn xc]) := Lib.hid (Blk.new _ _ _)
  have HX := Lib.hid hx
  have HB1 := Lib.hid hb1
  have a8 := HX1.out.cell 8
  simp only [List.getElem?_toArray, List.getElem?_cons_zero, List.getElem?_cons_succ] at a8
  clear hx hb1
  go_enter Try.func6, Try.ntmps6
  by_cases hn : 16384 < xn
  · have dn : decide ((16384 : Int) < (xn : Int)) = true := decide_eq_true (by omega)
    go_wp2_with (go_at_call 8; refine (lives_any _).mono ?_; rintro e w2 ⟨rfl, hb2⟩; have HB2 := Lib.hid (below_then HB1.out hb2); clear hb2)
    go_ret
    exact ⟨rfl, HB2.out⟩
  · have dn : decide ((16384 : Int) < (xn : Int)) = false := decide_eq_false (by omega)
    go_wp2_with fail
    have hbz : Below w.heap.size w ((w.alloc (.cells #[.int .u16 xage, .int .u8 xopts, .int .u8 k1, .int .u32 k2, .int .u32 k3, .int .i32 xseq, .int .u16 xsum, .int .u16 xlen, .slice xA xn xc] 31)).alloc (.cells #[.map none, .int .i64 0] 91)) := below_two _ _ _
    have HXb := Lib.hid (HX1.out.alloc (.cells #[.map none, .int .i64 0] 91))
    have HZ : Hid (Blk ((w.alloc (.cells #[.int .u16 xage, .int .u8 xopts, .int .u8 k1, .int .u32 k2, .int .u32 k3, .int .i32 xseq, .int .u16 xsum, .int .u16 xlen, .slice xA xn xc] 31)).alloc (.cells #[.map none, .int .i64 0] 91)) (w.heap.size + 1) 91 #[.map none, .int .i64 0]) := Lib.hid (new_at _ _ _)
    have HB2 := Lib.hid hbz
    clear hbz HX1 HB1 a8
    generalize (w.alloc (.cells #[.int .u16 xage, .int .u8 xopts, .int .u8 k1, .int .u32 k2, .int .u32 k3, .int .i32 xseq, .int .u16 xsum, .int .u16 xlen, .slice xA xn xc] 31)).alloc (.cells #[.map none, .int .i64 0] 91) = w2 at *
    refine (rkey_any (⟨xage, xopts, k1, k2, k3, xseq, xsum, xlen⟩ : Hd) w2).mono ?_
    rintro e w3 ⟨rfl, hb3⟩
    have hb4 := below_then hb3 ((Below.refl w3.heap.size w3).alloc (Nat.le_refl _) (.cells #[.int .u8 k1, .int .u32 k2, .int .u32 k3] 45))
    have HXb4 := Lib.hid (HXb.out.later hb4)
    have HZ4 := Lib.hid (HZ.out.later hb4)
    have HB4 := Lib.hid (below_then HB2.out hb4)
    have HK4 : Hid (Blk (w3.alloc (.cells #[.int .u8 k1, .int .u32 k2, .int .u32 k3] 45)) w3.heap.size 45 #[.int .u8 k1, .int .u32 k2, .int .u32 k3]) := Lib.hid (Blk.new _ _ _)
    clear hb3 hb4 HXb HZ HB2
    go_wp2_with fail
    generalize w3.alloc (.cells #[.int .u8 k1, .int .u32 k2, .int .u32 k3] 45) = w4 at *
    generalize w3.heap.size = gk at *
    have HNp4 := Lib.hid (noSt_nil w4)
    have HNz4 := Lib.hid (noSt_zero w4 (w.heap.size + 1) (HZ4.out.cell 0))
    clear HZ4
    have kf0 := HK4.out.cell 0; have kf1 := HK4.out.cell 1; have kf2 := HK4.out.cell 2
    simp only [List.getElem?_toArray, List.getElem?_cons_zero, List.getElem?_cons_succ] at kf0 kf1 kf2
    go_wp2_with fail
    refine (stget_no none w4 HNp4.out (k1, k2, k3) now).mono ?_
    rintro e w5 ⟨rfl, hb⟩
    clear kf0 kf1 kf2
    have HXb5 := Lib.hid (HXb4.out.later hb)
    have HK5 := Lib.hid (HK4.out.later hb)
    have HNp5 := Lib.hid (HNp4.out.later hb)
    have HNz5 := Lib.hid (HNz4.out.later hb)
    have HB5 := Lib.hid (below_then HB4.out hb)
    clear HXb4 HK4 HNp4 HNz4 HB4 hb
    have hba : Below w5.heap.size w5 (w5.alloc (.cells #[.int .u16 0, .int .u8 0, .int .u8 0, .int .u32 0, .int .u32 0, .int .i32 0, .int .u16 0, .int .u16 0, .slice none 0 0] 31)) := (Below.refl _ _).alloc (Nat.le_refl _) _
    have HGa6 : Hid (Blk (w5.alloc (.cells #[.int .u16 0, .int .u8 0, .int .u8 0, .int .u32 0, .int .u32 0, .int .i32 0, .int .u16 0, .int .u16 0, .slice none 0 0] 31)) w5.heap.size 31 #[.int .u16 0, .int .u8 0, .int .u8 0, .int .u32 0, .int .u32 0, .int .i32 0, .int .u16 0, .int .u16 0, .slice none 0 0]) := Lib.hid (Blk.new _ _ _)
    have HXb6 := Lib.hid (HXb5.out.later hba)
    have HK6 := Lib.hid (HK5.out.later hba)
    have HNp6 := Lib.hid (HNp5.out.later hba)
    have HNz6 := Lib.hid (HNz5.out.later hba)
    have HB6 := Lib.hid (below_then HB5.out hba)
    clear HXb5 HK5 HNp5 HNz5 HB5 hba
    have kf0 := HK6.out.cell 0; have kf1 := HK6.out.cell 1; have kf2 := HK6.out.cell 2
    simp only [List.getElem?_toArray, List.getElem?_cons_zero, List.getElem?_cons_succ] at kf0 kf1 kf2
    go_wp2_with fail
    generalize w5.alloc (.cells #[.int .u16 0, .int .u8 0, .int .u8 0, .int .u32 0, .int .u32 0, .int .i32 0, .int .u16 0, .int .u16 0, .slice none 0 0] 31) = w6 at *
    generalize w5.heap.size = ga at *
    refine (stget_no (some ⟨w.heap.size + 1, 0, none⟩) w6 HNz6.out (k1, k2, k3) now).mono ?_
    rintro e w7 ⟨rfl, hb⟩
    clear kf0 kf1 kf2
    have HXb7 := Lib.hid (HXb6.out.later hb)
    have HK7 := Lib.hid (HK6.out.later hb)
    have HNp7 := Lib.hid (HNp6.out.later hb)
    have HNz7 := Lib.hid (HNz6.out.later hb)
    have HGa7 := Lib.hid (HGa6.out.later hb)
    have HB7 := Lib.hid (below_then HB6.out hb)
    clear HXb6 HK6 HNp6 HNz6 HGa6 HB6 hb
    have hba : Below w7.heap.size w7 (w7.alloc (.cells #[.int .u16 0, .int .u8 0, .int .u8 0, .int .u32 0, .int .u32 0, .int .i32 0, .int .u16 0, .int .u16 0, .slice none 0 0] 31)) := (Below.refl _ _).alloc (Nat.le_refl _) _
    have HGb8 : Hid (Blk (w7.alloc (.cells #[.int .u16 0, .int .u8 0, .int .u8 0, .int .u32 0, .int .u32 0, .int .i32 0, .int .u16 0, .int .u16 0, .slice none 0 0] 31)) w7.heap.size 31 #[.int .u16 0, .int .u8 0, .int .u8 0, .int .u32 0, .int .u32 0, .int .i32 0, .int .u16 0, .int .u16 0, .slice none 0 0]) := Lib.hid (Blk.new _ _ _)
    have HXb8 := Lib.hid (HXb7.out.later hba)
    have HK8 := Lib.hid (HK7.out.later hba)
    have HNp8 := Lib.hid (HNp7.out.later hba)
    have HNz8 := Lib.hid (HNz7.out.later hba)
    have HGa8 := Lib.hid (HGa7.out.later hba)
    have HB8 := Lib.hid (below_then HB7.out hba)
    clear HXb7 HK7 HNp7 HNz7 HGa7 HB7 hba
    have kf0 := HK8.out.cell 0; have kf1 := HK8.out.cell 1; have kf2 := HK8.out.cell 2
    simp only [List.getElem?_toArray, List.getElem?_cons_zero, List.getElem?_cons_succ] at kf0 kf1 kf2
    go_wp2_with fail
    generalize w7.alloc (.cells #[.int .u16 0, .int .u8 0, .int .u8 0, .int .u32 0, .int .u32 0, .int .i32 0, .int .u16 0, .int .u16 0, .slice none 0 0] 31) = w8 at *
    generalize w7.heap.size = gb at *
    refine (stwhen_no none w8 HNp8.out (k1, k2, k3)).mono ?_
    rintro e w9 ⟨rfl, hb⟩
    clear kf0 kf1 kf2
    have HXb9 := Lib.hid (HXb8.out.later hb)
    have HK9 := Lib.hid (HK8.out.later hb)
    have HNp9 := Lib.hid (HNp8.out.later hb)
    have HNz9 := Lib.hid (HNz8.out.later hb)
    have HGa9 := Lib.hid (HGa8.out.later hb)
    have HGb9 := Lib.hid (HGb8.out.later hb)
    have HB9 := Lib.hid (below_then HB8.out hb)
    clear HXb8 HK8 HNp8 HNz8 HGa8 HGb8 HB8 hb
    go_wp2_with fail
    refine (stnext_any (some ⟨w.heap.size + 1, 0, none⟩) now (fun _ : Ky3 => (none : Option OneE)) 0 w9 (eachAt_no HNz9.out) (by omega) (fun _ _ h => by cases h)).mono ?_
    rintro e w10 ⟨ks, hks, rfl, hb⟩
    obtain rfl : ks = [] := List.length_eq_zero_iff.1 hks.len
    rw [show nextK (fun _ : Ky3 => (none : Option OneE)) now [] = none from rfl]
    clear hks
    have HXb10 := Lib.hid (HXb9.out.later hb)
    have HK10 := Lib.hid (HK9.out.later hb)
    have HNp10 := Lib.hid (HNp9.out.later hb)
    have HNz10 := Lib.hid (HNz9.out.later hb)
    have HGa10 := Lib.hid (HGa9.out.later hb)
    have HGb10 := Lib.hid (HGb9.out.later hb)
    have HB10 := Lib.hid (below_then HB9.out hb)
    clear HXb9 HK9 HNp9 HNz9 HGa9 HGb9 HB9 hb
    have xf0 := HXb10.out.cell 0
    have xf1 := HXb10.out.cell 1
    have xf2 := HXb10.out.cell 2
    have xf3 := HXb10.out.cell 3
    have xf4 := HXb10.out.cell 4
    have xf5 := HXb10.out.cell 5
    have xf6 := HXb10.out.cell 6
    have xf7 := HXb10.out.cell 7
    have xf8 := HXb10.out.cell 8
    simp only [List.getElem?_toArray, List.getElem?_cons_zero, List.getElem?_cons_succ] at xf0 xf1 xf2 xf3 xf4 xf5 xf6 xf7 xf8
    go_wp2_with fail
    refine (stput_no none w10 HNp10.out (⟨⟨xage, xopts, k1, k2, k3, xseq, xsum, xlen⟩, xA, xn, xc, xB⟩ : SE) now).mono ?_
    rintro e w11 ⟨rfl, hb⟩
    clear xf0 xf1 xf2 xf3 xf4 xf5 xf6 xf7 xf8
    have HXb11 := Lib.hid (HXb10.out.later hb)
    have HK11 := Lib.hid (HK10.out.later hb)
    have HNp11 := Lib.hid (HNp10.out.later hb)
    have HNz11 := Lib.hid (HNz10.out.later hb)
    have HGa11 := Lib.hid (HGa10.out.later hb)
    have HGb11 := Lib.hid (HGb10.out.later hb)
    have HB11 := Lib.hid (below_then HB10.out hb)
    clear HXb10 HK10 HNp10 HNz10 HGa10 HGb10 HB10 hb
    have xf0 := HXb11.out.cell 0
    have xf1 := HXb11.out.cell 1
    have xf2 := HXb11.out.cell 2
    have xf3 := HXb11.out.cell 3
    have xf4 := HXb11.out.cell 4
    have xf5 := HXb11.out.cell 5
    have xf6 := HXb11.out.cell 6
    have xf7 := HXb11.out.cell 7
    have xf8 := HXb11.out.cell 8
    simp only [List.getElem?_toArray, List.getElem?_cons_zero, List.getElem?_cons_succ] at xf0 xf1 xf2 xf3 xf4 xf5 xf6 xf7 xf8
    go_wp2_with fail
    refine (stput_no (some ⟨w.heap.size + 1, 0, none⟩) w11 HNz11.out (⟨⟨xage, xopts, k1, k2, k3, xseq, xsum, xlen⟩, xA, xn, xc, xB⟩ : SE) now).mono ?_
    rintro e w12 ⟨rfl, hb⟩
    clear xf0 xf1 xf2 xf3 xf4 xf5 xf6 xf7 xf8
    have HXb12 := Lib.hid (HXb11.out.later hb)
    have HK12 := Lib.hid (HK11.out.later hb)
    have HNp12 := Lib.hid (HNp11.out.later hb)
    have HNz12 := Lib.hid (HNz11.out.later hb)
    have HGa12 := Lib.hid (HGa11.out.later hb)
    have HGb12 := Lib.hid (HGb11.out.later hb)
    have HB12 := Lib.hid (below_then HB11.out hb)
    clear HXb11 HK11 HNp11 HNz11 HGa11 HGb11 HB11 hb
    have kf0 := HK12.out.cell 0; have kf1 := HK12.out.cell 1; have kf2 := HK12.out.cell 2
    simp only [List.getElem?_toArray, List.getElem?_cons_zero, List.getElem?_cons_succ] at kf0 kf1 kf2
    go_wp2_with fail
    refine (stdrop_no none w12 HNp12.out (k1, k2, k3)).mono ?_
    rintro e w13 ⟨rfl, hb⟩
    clear kf0 kf1 kf2
    have HXb13 := Lib.hid (HXb12.out.later hb)
    have HK13 := Lib.hid (HK12.out.later hb)
    have HNp13 := Lib.hid (HNp12.out.later hb)
    have HNz13 := Lib.hid (HNz12.out.later hb)
    have HGa13 := Lib.hid (HGa12.out.later hb)
    have HGb13 := Lib.hid (HGb12.out.later hb)
    have HB13 := Lib.hid (below_then HB12.out hb)
    clear HXb12 HK12 HNp12 HNz12 HGa12 HGb12 HB12 hb
    have kf0 := HK13.out.cell 0; have kf1 := HK13.out.cell 1; have kf2 := HK13.out.cell 2
    simp only [List.getElem?_toArray, List.getElem?_cons_zero, List.getElem?_cons_succ] at kf0 kf1 kf2
    go_wp2_with fail
    refine (stdrop_no (some ⟨w.heap.size + 1, 0, none⟩) w13 HNz13.out (k1, k2, k3)).mono ?_
    rintro e w14 ⟨rfl, hb⟩
    clear kf0 kf1 kf2
    have HXb14 := Lib.hid (HXb13.out.later hb)
    have HK14 := Lib.hid (HK13.out.later hb)
    have HNp14 := Lib.hid (HNp13.out.later hb)
    have HNz14 := Lib.hid (HNz13.out.later hb)
    have HGa14 := Lib.hid (HGa13.out.later hb)
    have HGb14 := Lib.hid (HGb13.out.later hb)
    have HB14 := Lib.hid (below_then HB13.out hb)
    clear HXb13 HK13 HNp13 HNz13 HGa13 HGb13 HB13 hb
    go_wp2_with fail
    refine (stcopy_no none w14 HNp14.out).mono ?_
    rintro e w' ⟨rfl, rfl⟩
    go_wp2_with fail
    refine (stcopy_no (some ⟨w.heap.size + 1, 0, none⟩) w14 HNz14.out).mono ?_
    rintro e w' ⟨rfl, rfl⟩
    have zf0 := HGa14.out.cell 0
    have zf1 := HGa14.out.cell 1
    have zf2 := HGa14.out.cell 2
    have zf3 := HGa14.out.cell 3
    have zf4 := HGa14.out.cell 4
    have zf5 := HGa14.out.cell 5
    have zf6 := HGa14.out.cell 6
    have zf7 := HGa14.out.cell 7
    have zf8 := HGa14.out.cell 8
    simp only [List.getElem?_toArray, List.getElem?_cons_zero, List.getElem?_cons_succ] at zf0 zf1 zf2 zf3 zf4 zf5 zf6 zf7 zf8
    go_wp2_with fail
    refine (eqState_any (⟨⟨0, 0, 0, 0, 0, 0, 0, 0⟩, none, 0, 0, []⟩ : SE) (⟨⟨0, 0, 0, 0, 0, 0, 0, 0⟩, none, 0, 0, []⟩ : SE) w14 (rd_nil w14 _ ⟨by decide, by decide, by decide, by decide, by decide, by decide, by decide, by decide⟩) (rd_nil w14 _ ⟨by decide, by decide, by decide, by decide, by decide, by decide, by decide, by decide⟩)).mono ?_
    rintro e w15 ⟨rfl, hb⟩
    clear zf0 zf1 zf2 zf3 zf4 zf5 zf6 zf7 zf8
    rw [show eqS (⟨⟨0, 0, 0, 0, 0, 0, 0, 0⟩, none, 0, 0, []⟩ : SE) (⟨⟨0, 0, 0, 0, 0, 0, 0, 0⟩, none, 0, 0, []⟩ : SE) = true from rfl]
    have HXb15 := Lib.hid (HXb14.out.later hb)
    have HK15 := Lib.hid (HK14.out.later hb)
    have HNp15 := Lib.hid (HNp14.out.later hb)
    have HNz15 := Lib.hid (HNz14.out.later hb)
    have HGa15 := Lib.hid (HGa14.out.later hb)
    have HGb15 := Lib.hid (HGb14.out.later hb)
    have HB15 := Lib.hid (below_then HB14.out hb)
    clear HXb14 HK14 HNp14 HNz14 HGa14 HGb14 HB14 hb
    have zf0 := HGb15.out.cell 0
    have zf1 := HGb15.out.cell 1
    have zf2 := HGb15.out.cell 2
    have zf3 := HGb15.out.cell 3
    have zf4 := HGb15.out.cell 4
    have zf5 := HGb15.out.cell 5
    have zf6 := HGb15.out.cell 6
    have zf7 := HGb15.out.cell 7
    have zf8 := HGb15.out.cell 8
    simp only [List.getElem?_toArray, List.getElem?_cons_zero, List.getElem?_cons_succ] at zf0 zf1 zf2 zf3 zf4 zf5 zf6 zf7 zf8
    go_wp2_with fail
    refine (eqState_any (⟨⟨0, 0, 0, 0, 0, 0, 0, 0⟩, none, 0, 0, []⟩ : SE) (⟨⟨0, 0, 0, 0, 0, 0, 0, 0⟩, none, 0, 0, []⟩ : SE) w15 (rd_nil w15 _ ⟨by decide, by decide, by decide, by decide, by decide, by decide, by decide, by decide⟩) (rd_nil w15 _ ⟨by decide, by decide, by decide, by decide, by decide, by decide, by decide, by decide⟩)).mono ?_
    rintro e w16 ⟨rfl, hb⟩
    clear zf0 zf1 zf2 zf3 zf4 zf5 zf6 zf7 zf8
    rw [show eqS (⟨⟨0, 0, 0, 0, 0, 0, 0, 0⟩, none, 0, 0, []⟩ : SE) (⟨⟨0, 0, 0, 0, 0, 0, 0, 0⟩, none, 0, 0, []⟩ : SE) = true from rfl]
    have HXb16 := Lib.hid (HXb15.out.later hb)
    have HK16 := Lib.hid (HK15.out.later hb)
    have HNp16 := Lib.hid (HNp15.out.later hb)
    have HNz16 := Lib.hid (HNz15.out.later hb)
    have HGa16 := Lib.hid (HGa15.out.later hb)
    have HGb16 := Lib.hid (HGb15.out.later hb)
    have HB16 := Lib.hid (below_then HB15.out hb)
    clear HXb15 HK15 HNp15 HNz15 HGa15 HGb15 HB15 hb
    go_wp2_with fail
    refine (stall_any none now (fun _ : Ky3 => (none : Option OneE)) 0 w16 (eachAt_no HNp16.out) (by omega)).mono ?_
    rintro e w17 ⟨v1, rfl, ks, hks, ss, h1, h2, h3, hown, hb⟩
    obtain ⟨A1, c1, rfl, hc1, -, -⟩ := own_shape_n hown
    clear hks h1 h2 h3 hown
    have HXb17 := Lib.hid (HXb16.out.later hb)
    have HK17 := Lib.hid (HK16.out.later hb)
    have HNp17 := Lib.hid (HNp16.out.later hb)
    have HNz17 := Lib.hid (HNz16.out.later hb)
    have HGa17 := Lib.hid (HGa16.out.later hb)
    have HGb17 := Lib.hid (HGb16.out.later hb)
    have HB17 := Lib.hid (below_then HB16.out hb)
    clear HXb16 HK16 HNp16 HNz16 HGa16 HGb16 HB16 hb
    go_wp2_with fail
    refine (stheads_any (some ⟨w.heap.size + 1, 0, none⟩) now (fun _ : Ky3 => (none : Option OneE)) 0 w17 (eachAt_no HNz17.out) (by omega)).mono ?_
    rintro e w18 ⟨v2, ks2, rfl, hks, hown, hb⟩
    obtain ⟨A2, c2, rfl, hc2, -, -⟩ := own_shape_n hown
    clear hks hown
    have HXb18 := Lib.hid (HXb17.out.later hb)
    have HK18 := Lib.hid (HK17.out.later hb)
    have HNp18 := Lib.hid (HNp17.out.later hb)
    have HNz18 := Lib.hid (HNz17.out.later hb)
    have HGa18 := Lib.hid (HGa17.out.later hb)
    have HGb18 := Lib.hid (HGb17.out.later hb)
    have HB18 := Lib.hid (below_then HB17.out hb)
    clear HXb17 HK17 HNp17 HNz17 HGa17 HGb17 HB17 hb
    go_wp2_with fail
    refine (stdue_any none now (fun _ : Ky3 => (none : Option OneE)) 0 w18 (eachAt_no HNp18.out) (by omega)).mono ?_
    rintro e w19 ⟨v3, rfl, ks3, hks, hown, hb⟩
    obtain rfl : ks3 = [] := List.length_eq_zero_iff.1 hks.len
    obtain ⟨A3, c3, rfl, hc3, -, -⟩ := own_shape_n hown
    clear hks hown
    rw [show (dueK (fun _ : Ky3 => (none : Option OneE)) now []).length = 0 from rfl]
    have HXb19 := Lib.hid (HXb18.out.later hb)
    have HK19 := Lib.hid (HK18.out.later hb)
    have HNp19 := Lib.hid (HNp18.out.later hb)
    have HNz19 := Lib.hid (HNz18.out.later hb)
    have HGa19 := Lib.hid (HGa18.out.later hb)
    have HGb19 := Lib.hid (HGb18.out.later hb)
    have HB19 := Lib.hid (below_then HB18.out hb)
    clear HXb18 HK18 HNp18 HNz18 HGa18 HGb18 HB18 hb
    go_wp2_with fail
    refine (stlen_no none w19 HNp19.out).mono ?_
    rintro e w' ⟨rfl, rfl⟩
    go_wp2_with fail
    refine (stlen_no (some ⟨w.heap.size + 1, 0, none⟩) w19 HNz19.out).mono ?_
    rintro e w' ⟨rfl, rfl⟩
    go_wp2_with fail
    refine (lives_any w19).mono ?_
    rintro e w20 ⟨rfl, hb⟩
    have HBe := Lib.hid (below_then HB19.out hb)
    clear hb
    go_wp2_with fail
    go_ret
    exact ⟨rfl, HBe.out⟩
end Go.Proofs.Ytpncbggjngamgaa
