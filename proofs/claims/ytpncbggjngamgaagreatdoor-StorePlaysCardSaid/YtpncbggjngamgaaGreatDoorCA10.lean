/-
  Stores asked at a time below nought; WideState and SpareState. Printed by gen_neg.py.
  The store: Drop, Copy. Printed by gen_sto15.py.
  The bag: a list more of a kind. Printed by gen_bga.py.
  The bag: AddState, AddStates. Printed by gen_bgs.py.
  Both stores and the bag side by side: what stands while one of them is written.
-/
import Derived.Test.YtpncbggjngamgaaGreatDoorCA09
import Derived.Test.YtpncbggjngamgaaGreatDoorCA08
import Derived.Lib.SliceRun
import Derived.Shelf.SlMaps.Clone
namespace Go.Proofs.YtpncbggjngamgaaGreatDoor
set_option linter.unusedVariables false
open Go.RowKit

theorem stput_neg (w : World) (g bm : Nat) (hc : w.cell? ⟨g, 0, none⟩ = some (.map (some bm))) (x : SE) (now : Int) (hn : now < 0) : Calls Tryz.prog 13 #[.pointer (some ⟨g, 0, none⟩), .int .i64 now, x.v] w fun e w' => e = .returned (.int .i64 1) ∧ Below w.heap.size w w' := by
  obtain ⟨⟨xage, xopts, k1, k2, k3, xseq, xsum, xlen⟩, xA, xn, xc, xB⟩ := x
  have hb : Below w.heap.size w (w.alloc (.cells #[.int .u16 xage, .int .u8 xopts, .int .u8 k1, .int .u32 k2, .int .u32 k3, .int .i32 xseq, .int .u16 xsum, .int .u16 xlen, .slice xA xn xc] 61)) := (Below.refl _ _).alloc (Nat.le_refl _) _
  have HN := Lib.hid (stnone_any (w.alloc (.cells #[.int .u16 xage, .int .u8 xopts, .int .u8 k1, .int .u32 k2, .int .u32 k3, .int .i32 xseq, .int .u16 xsum, .int .u16 xlen, .slice xA xn xc] 61)) g bm ((hb.cell (cell_lt hc)).trans hc))
  have HB := Lib.hid hb
  have dn : decide (now < 0) = true := decide_eq_true hn
  clear hb hc
  go_enter Tryz.func13, Tryz.ntmps13
  go_wp2_with (go_at_call 28; refine HN.out.mono ?_; rintro e w' ⟨rfl, rfl⟩)
  go_ret
  exact ⟨rfl, HB.out⟩
theorem stget_neg (w : World) (g bm : Nat) (hc : w.cell? ⟨g, 0, none⟩ = some (.map (some bm))) (k : Ky3) (now : Int) (hn : now < 0) : Calls Tryz.prog 14 #[.pointer (some ⟨g, 0, none⟩), .int .i64 now, keyV k] w fun e w' => e = .returned (.tuple #[zeroSt, .bool false]) ∧ Below w.heap.size w w' := by
  obtain ⟨k1, k2, k3⟩ := k
  have hb : Below w.heap.size w ((w.alloc (.cells #[.int .u8 k1, .int .u32 k2, .int .u32 k3] 68)).alloc (.cells #[.int .u16 0, .int .u8 0, .int .u8 0, .int .u32 0, .int .u32 0, .int .i32 0, .int .u16 0, .int .u16 0, .slice none 0 0] 61)) := below_two _ _ _
  have HR0 : Hid (Blk ((w.alloc (.cells #[.int .u8 k1, .int .u32 k2, .int .u32 k3] 68)).alloc (.cells #[.int .u16 0, .int .u8 0, .int .u8 0, .int .u32 0, .int .u32 0, .int .i32 0, .int .u16 0, .int .u16 0, .slice none 0 0] 61)) (w.heap.size + 1) 61 #[.int .u16 0, .int .u8 0, .int .u8 0, .int .u32 0, .int .u32 0, .int .i32 0, .int .u16 0, .int .u16 0, .slice none 0 0]) := Lib.hid (new_at _ _ _)
  have HN := Lib.hid (stnone_any ((w.alloc (.cells #[.int .u8 k1, .int .u32 k2, .int .u32 k3] 68)).alloc (.cells #[.int .u16 0, .int .u8 0, .int .u8 0, .int .u32 0, .int .u32 0, .int .i32 0, .int .u16 0, .int .u16 0, .slice none 0 0] 61)) g bm ((hb.cell (cell_lt hc)).trans hc))
  have HB := Lib.hid hb
  have dn : decide (now < 0) = true := decide_eq_true hn
  clear hb hc
  go_enter Tryz.func14, Tryz.ntmps14
  go_wp2_with (first
    | (go_at_call 28; refine HN.out.mono ?_; rintro e w' ⟨rfl, rfl⟩)
    | (refine wpList_store_row rfl 61 _ _ rfl (w.heap.size + 1) #[.int .u16 0, .int .u8 0, .int .u8 0, .int .u32 0, .int .u32 0, .int .i32 0, .int .u16 0, .int .u16 0, .slice none 0 0] rfl rfl 61 _ HR0.out info_state rfl (by simp [Value.oneCell']) ?_))
  refine bodyPost_ret (results_cell_row_tmp rfl _ _ (w.heap.size + 1) 61 #[.int .u16 0, .int .u8 0, .int .u8 0, .int .u32 0, .int .u32 0, .int .i32 0, .int .u16 0, .int .u16 0, .slice none 0 0] (0, 0) _ rfl (HR0.out.setRow _) Tryz.underlying61 rfl info_state) rfl ?_
  exact ⟨rfl, below_setRow HB.out (by omega) _⟩
theorem put11_neg (w : World) (g : Nat) (x : SE) (now : Int) (hn : now < 0) : Calls Tryz.prog 19 #[.pointer (some ⟨g, 0, none⟩), .int .i64 now, x.v] w fun e w' => e = .returned (.int .i64 1) ∧ Below w.heap.size w w' := by
  obtain ⟨⟨xage, xopts, k1, k2, k3, xseq, xsum, xlen⟩, xA, xn, xc, xB⟩ := x
  have hb : Below w.heap.size w (w.alloc (.cells #[.int .u16 xage, .int .u8 xopts, .int .u8 k1, .int .u32 k2, .int .u32 k3, .int .i32 xseq, .int .u16 xsum, .int .u16 xlen, .slice xA xn xc] 61)) := (Below.refl _ _).alloc (Nat.le_refl _) _
  have HB := Lib.hid hb
  have dn : decide (now < 0) = true := decide_eq_true hn
  clear hb
  go_enter Tryz.func19, Tryz.ntmps19
  go_wp2_with fail
  go_ret
  exact ⟨rfl, HB.out⟩
set_option maxRecDepth 100000 in
set_option maxHeartbeats 4000000 in
theorem get11_neg (base : Nat) (w : World) (g : Nat) (v : Value) (most : Int) (xs : List OneE) (q : RfS base w g v most xs) (k : Ky3) (now : Int) (hn : now < 0) :
    Calls Tryz.prog 24 #[.pointer (some ⟨g, 0, none⟩), .int .i64 now, keyV k] w fun e w' => e = .returned (.tuple #[zeroSt, .bool false]) ∧ Below w.heap.size w w' := by
  obtain ⟨k1, k2, k3⟩ := k
  have hb1 : Below w.heap.size w ((w.alloc (.cells #[.int .u8 k1, .int .u32 k2, .int .u32 k3] 68)).alloc (.cells #[.int .u16 0, .int .u8 0, .int .u8 0, .int .u32 0, .int .u32 0, .int .i32 0, .int .u16 0, .int .u16 0, .slice none 0 0] 61)) := below_two _ _ _
  have HQ := Lib.hid (q.later hb1)
  have hk : Blk ((w.alloc (.cells #[.int .u8 k1, .int .u32 k2, .int .u32 k3] 68)).alloc (.cells #[.int .u16 0, .int .u8 0, .int .u8 0, .int .u32 0, .int .u32 0, .int .i32 0, .int .u16 0, .int .u16 0, .slice none 0 0] 61)) w.heap.size 68 #[.int .u8 k1, .int .u32 k2, .int .u32 k3] := (Blk.new _ _ _).alloc _
  have HZ : Hid (Blk ((w.alloc (.cells #[.int .u8 k1, .int .u32 k2, .int .u32 k3] 68)).alloc (.cells #[.int .u16 0, .int .u8 0, .int .u8 0, .int .u32 0, .int .u32 0, .int .i32 0, .int .u16 0, .int .u16 0, .slice none 0 0] 61)) (w.heap.size + 1) 61 #[.int .u16 0, .int .u8 0, .int .u8 0, .int .u32 0, .int .u32 0, .int .i32 0, .int .u16 0, .int .u16 0, .slice none 0 0]) := new_at _ _ _
  have b0 := hk.cell 0; have b1 := hk.cell 1; have b2 := hk.cell 2
  simp only [List.getElem?_toArray, List.getElem?_cons_zero, List.getElem?_cons_succ] at b0 b1 b2
  have HB1 := Lib.hid hb1
  have dn : decide (now < 0) = true := decide_eq_true hn
  clear q hb1 hk
  go_enter Tryz.func24, Tryz.ntmps24
  go_wp2_with fail
  refine (find11 base _ g _ most xs HQ.out (k1, k2, k3)).mono ?_
  rintro e w2 ⟨z, rfl, -, hb2⟩
  have HB2 := Lib.hid (below_then HB1.out hb2)
  have HZ2 := Lib.hid (HZ.out.later hb2)
  clear hb2 HQ HB1 HZ b0 b1 b2
  by_cases hz : z < 0
  · have dz : decide (z < 0) = true := decide_eq_true hz
    go_wp2_with (refine wpList_store_row rfl 61 _ _ rfl (w.heap.size + 1) #[.int .u16 0, .int .u8 0, .int .u8 0, .int .u32 0, .int .u32 0, .int .i32 0, .int .u16 0, .int .u16 0, .slice none 0 0] rfl rfl 61 _ HZ2.out info_state rfl (by simp [Value.oneCell']) ?_)
    refine bodyPost_ret (results_cell_row_tmp rfl _ _ (w.heap.size + 1) 61 #[.int .u16 0, .int .u8 0, .int .u8 0, .int .u32 0, .int .u32 0, .int .i32 0, .int .u16 0, .int .u16 0, .slice none 0 0] (0, 0) _ rfl (HZ2.out.setRow _) Tryz.underlying61 rfl info_state) rfl ?_
    exact ⟨rfl, below_setRow HB2.out (by omega) _⟩
  · have dz : decide (z < 0) = false := decide_eq_false hz
    go_wp2_with (refine wpList_store_row rfl 61 _ _ rfl (w.heap.size + 1) #[.int .u16 0, .int .u8 0, .int .u8 0, .int .u32 0, .int .u32 0, .int .i32 0, .int .u16 0, .int .u16 0, .slice none 0 0] rfl rfl 61 _ HZ2.out info_state rfl (by simp [Value.oneCell']) ?_)
    refine bodyPost_ret (results_cell_row_tmp rfl _ _ (w.heap.size + 1) 61 #[.int .u16 0, .int .u8 0, .int .u8 0, .int .u32 0, .int .u32 0, .int .i32 0, .int .u16 0, .int .u16 0, .slice none 0 0] (0, 0) _ rfl (HZ2.out.setRow _) Tryz.underlying61 rfl info_state) rfl ?_
    exact ⟨rfl, below_setRow HB2.out (by omega) _⟩
set_option maxRecDepth 100000 in
set_option maxHeartbeats 4000000 in
theorem all11_neg (base : Nat) (w : World) (g : Nat) (v : Value) (most : Int) (xs : List OneE) (q : RfS base w g v most xs) (now : Int) (hn : now < 0) :
    Calls Tryz.prog 33 #[.pointer (some ⟨g, 0, none⟩), .int .i64 now] w fun e w' => e = .returned (.slice none 0 0) ∧ w = w' := by
  obtain ⟨A, n, c, rfl, hl, hc1, hc2⟩ := q.shape
  have g0 := q.blk.cell 0
  simp only [List.getElem?_toArray, List.getElem?_cons_zero, List.getElem?_cons_succ] at g0
  have dn : decide (0 ≤ now) = false := decide_eq_false (by omega)
  clear q hl
  go_enter Tryz.func33, Tryz.ntmps33
  go_wp2_with fail
  go_loopw [5, 6] (fun lv iv wr => lv = .slice none 0 0 ∧ iv = .int .i64 0 ∧ wr = w) (fun _ _ _ => 0)
  case atStart => exact ⟨rfl, rfl, rfl⟩
  case round =>
    obtain ⟨rfl, rfl, hw⟩ := hrel
    obtain rfl : w = wr := hw.symm
    by_cases hz : 0 < n
    · have dz : decide ((0 : Int) < n) = true := decide_eq_true (by omega)
      go_wp2_with fail
      go_ret
      exact ⟨rfl, rfl⟩
    · have dz : decide ((0 : Int) < n) = false := decide_eq_false (by omega)
      go_wp2_with fail
      go_ret
      exact ⟨rfl, rfl⟩
set_option maxRecDepth 100000 in
set_option maxHeartbeats 4000000 in
theorem heads11_neg (base : Nat) (w : World) (g : Nat) (v : Value) (most : Int) (xs : List OneE) (q : RfS base w g v most xs) (now : Int) (hn : now < 0) :
    Calls Tryz.prog 35 #[.pointer (some ⟨g, 0, none⟩), .int .i64 now] w fun e w' => e = .returned (.slice none 0 0) ∧ w = w' := by
  obtain ⟨A, n, c, rfl, hl, hc1, hc2⟩ := q.shape
  have g0 := q.blk.cell 0
  simp only [List.getElem?_toArray, List.getElem?_cons_zero, List.getElem?_cons_succ] at g0
  have dn : decide (0 ≤ now) = false := decide_eq_false (by omega)
  clear q hl
  go_enter Tryz.func35, Tryz.ntmps35
  go_wp2_with fail
  go_loopw [5, 6] (fun lv iv wr => lv = .slice none 0 0 ∧ iv = .int .i64 0 ∧ wr = w) (fun _ _ _ => 0)
  case atStart => exact ⟨rfl, rfl, rfl⟩
  case round =>
    obtain ⟨rfl, rfl, hw⟩ := hrel
    obtain rfl : w = wr := hw.symm
    by_cases hz : 0 < n
    · have dz : decide ((0 : Int) < n) = true := decide_eq_true (by omega)
      go_wp2_with fail
      go_ret
      exact ⟨rfl, rfl⟩
    · have dz : decide ((0 : Int) < n) = false := decide_eq_false (by omega)
      go_wp2_with fail
      go_ret
      exact ⟨rfl, rfl⟩
set_option maxRecDepth 100000 in
set_option maxHeartbeats 4000000 in
theorem due11_neg (base : Nat) (w : World) (g : Nat) (v : Value) (most : Int) (xs : List OneE) (q : RfS base w g v most xs) (now : Int) (hn : now < 0) :
    Calls Tryz.prog 37 #[.pointer (some ⟨g, 0, none⟩), .int .i64 now] w fun e w' => e = .returned (.slice none 0 0) ∧ w = w' := by
  obtain ⟨A, n, c, rfl, hl, hc1, hc2⟩ := q.shape
  have g0 := q.blk.cell 0
  simp only [List.getElem?_toArray, List.getElem?_cons_zero, List.getElem?_cons_succ] at g0
  have dn : decide (0 ≤ now) = false := decide_eq_false (by omega)
  clear q hl
  go_enter Tryz.func37, Tryz.ntmps37
  go_wp2_with fail
  go_loopw [5, 6] (fun lv iv wr => lv = .slice none 0 0 ∧ iv = .int .i64 0 ∧ wr = w) (fun _ _ _ => 0)
  case atStart => exact ⟨rfl, rfl, rfl⟩
  case round =>
    obtain ⟨rfl, rfl, hw⟩ := hrel
    obtain rfl : w = wr := hw.symm
    by_cases hz : 0 < n
    · have dz : decide ((0 : Int) < n) = true := decide_eq_true (by omega)
      go_wp2_with fail
      go_ret
      exact ⟨rfl, rfl⟩
    · have dz : decide ((0 : Int) < n) = false := decide_eq_false (by omega)
      go_wp2_with fail
      go_ret
      exact ⟨rfl, rfl⟩
set_option maxRecDepth 100000 in
set_option maxHeartbeats 4000000 in
theorem next11_neg (base : Nat) (w : World) (g : Nat) (v : Value) (most : Int) (xs : List OneE) (q : RfS base w g v most xs) (now : Int) (hn : now < 0) :
    Calls Tryz.prog 31 #[.pointer (some ⟨g, 0, none⟩), .int .i64 now] w fun e w' => e = .returned (.tuple #[.int .i64 0, .bool false]) ∧ w = w' := by
  obtain ⟨A, n, c, rfl, hl, hc1, hc2⟩ := q.shape
  have g0 := q.blk.cell 0
  simp only [List.getElem?_toArray, List.getElem?_cons_zero, List.getElem?_cons_succ] at g0
  have dn : decide (0 ≤ now) = false := decide_eq_false (by omega)
  clear q hl
  go_enter Tryz.func31, Tryz.ntmps31
  go_wp2_with fail
  go_loopw [6, 7, 8] (fun bv sv iv wr => bv = .int .i64 0 ∧ sv = .bool false ∧ iv = .int .i64 0 ∧ wr = w) (fun _ _ _ _ => 0)
  case atStart => exact ⟨rfl, rfl, rfl, rfl⟩
  case round =>
    obtain ⟨rfl, rfl, rfl, hw⟩ := hrel
    obtain rfl : w = wr := hw.symm
    by_cases hz : 0 < n
    · have dz : decide ((0 : Int) < n) = true := decide_eq_true (by omega)
      go_wp2_with fail
      go_ret2
      exact ⟨rfl, rfl⟩
    · have dz : decide ((0 : Int) < n) = false := decide_eq_false (by omega)
      go_wp2_with fail
      go_ret2
      exact ⟨rfl, rfl⟩
/-- What WideState leaves: the state's head, the body in a new block with marks behind it. -/
def WideS (w w' : World) (s : SE) (e : Ending) : Prop :=
  ∃ g, e = .returned (stV s.h (some ⟨g, 0, none⟩) s.n (s.n + 64)) ∧ w.heap.size ≤ g ∧ Blk w' g 5 (u8s (wide s.B)).toArray ∧ Below w.heap.size w w'
set_option maxRecDepth 100000 in
set_option maxHeartbeats 2000000 in
theorem wideState_any (s : SE) (w : World) (hs : s.rd w) : Calls Tryz.prog 18 #[s.v] w fun e w' => WideS w w' s e := by
  obtain ⟨h, A, n, c, B⟩ := s
  have Hok := Lib.hid hs
  have hz : Hid (Blk ((w.alloc (.cells #[.int .u16 h.age, .int .u8 h.opts, .int .u8 h.typ, .int .u32 h.id, .int .u32 h.adv, .int .i32 h.seq, .int .u16 h.sum, .int .u16 h.len, .slice A n c] 61)).alloc (.cells #[.int .u16 0, .int .u8 0, .int .u8 0, .int .u32 0, .int .u32 0, .int .i32 0, .int .u16 0, .int .u16 0, .slice none 0 0] 61)) (w.heap.size + 1) 61 #[.int .u16 0, .int .u8 0, .int .u8 0, .int .u32 0, .int .u32 0, .int .i32 0, .int .u16 0, .int .u16 0, .slice none 0 0]) := new_at _ _ _
  have hx : Hid (Blk ((w.alloc (.cells #[.int .u16 h.age, .int .u8 h.opts, .int .u8 h.typ, .int .u32 h.id, .int .u32 h.adv, .int .i32 h.seq, .int .u16 h.sum, .int .u16 h.len, .slice A n c] 61)).alloc (.cells #[.int .u16 0, .int .u8 0, .int .u8 0, .int .u32 0, .int .u32 0, .int .i32 0, .int .u16 0, .int .u16 0, .slice none 0 0] 61)) w.heap.size 61 #[.int .u16 h.age, .int .u8 h.opts, .int .u8 h.typ, .int .u32 h.id, .int .u32 h.adv, .int .i32 h.seq, .int .u16 h.sum, .int .u16 h.len, .slice A n c]) := Lib.hid ((Blk.new _ _ _).alloc _)
  have hb : Hid (Below w.heap.size w ((w.alloc (.cells #[.int .u16 h.age, .int .u8 h.opts, .int .u8 h.typ, .int .u32 h.id, .int .u32 h.adv, .int .i32 h.seq, .int .u16 h.sum, .int .u16 h.len, .slice A n c] 61)).alloc (.cells #[.int .u16 0, .int .u8 0, .int .u8 0, .int .u32 0, .int .u32 0, .int .i32 0, .int .u16 0, .int .u16 0, .slice none 0 0] 61))) := below_two _ _ _
  have hR := Lib.hid (Hok.out.body.later hb.out)
  have hn : n ≤ 1099511627776 := Hok.out.len
  have hl : Hid (B.length = n) := Lib.hid Hok.out.body.u8len
  have x8 := hx.out.cell 8
  simp only [List.getElem?_toArray, List.getElem?_cons_zero, List.getElem?_cons_succ] at x8
  clear hs
  show Calls Tryz.prog 18 #[.agg #[.int .u16 h.age, .int .u8 h.opts, .int .u8 h.typ, .int .u32 h.id, .int .u32 h.adv, .int .i32 h.seq, .int .u16 h.sum, .int .u16 h.len, .slice A n c]] w fun e w' => WideS w w' ⟨h, A, n, c, B⟩ e
  go_enter Tryz.func18, Tryz.ntmps18
  go_wp2_with fail
  clear x8
  generalize ((w.alloc (.cells #[.int .u16 h.age, .int .u8 h.opts, .int .u8 h.typ, .int .u32 h.id, .int .u32 h.adv, .int .i32 h.seq, .int .u16 h.sum, .int .u16 h.len, .slice A n c] 61)).alloc (.cells #[.int .u16 0, .int .u8 0, .int .u8 0, .int .u32 0, .int .u32 0, .int .i32 0, .int .u16 0, .int .u16 0, .slice none 0 0] 61)) = w1 at *
  refine (wideBytes_any A n c B w1 hR.out hn).mono ?_
  rintro e w2 ⟨gi, rfl, hgi, hBi, hb2⟩
  have H2 := Lib.hid (And.intro hgi (And.intro hBi hb2))
  have x2 := hx.out.later hb2
  have z2 := hz.out.later hb2
  have HX := Lib.hid (And.intro x2 z2)
  obtain ⟨y0, y1, y2, y3, y4, y5, y6, y7, y8⟩ := stC_facts x2
  have f8 := x2.frozen 8
  have hne : w.heap.size ≠ w.heap.size + 1 := by omega
  clear hgi hBi hb2 x2 z2
  go_wp2_with (refine wpList_store_row rfl 61 _ _ rfl (w.heap.size + 1) #[.int .u16 h.age, .int .u8 h.opts, .int .u8 h.typ, .int .u32 h.id, .int .u32 h.adv, .int .i32 h.seq, .int .u16 h.sum, .int .u16 h.len, .slice (some ⟨gi, 0, none⟩) B.length (B.length + 64)] rfl rfl 61 _ (HX.out.2.far (by simp) _) info_state rfl (by simp [Value.oneCell']) ?_)
  refine bodyPost_ret (results_cell_row rfl _ _ (w.heap.size + 1) 61 #[.int .u16 h.age, .int .u8 h.opts, .int .u8 h.typ, .int .u32 h.id, .int .u32 h.adv, .int .i32 h.seq, .int .u16 h.sum, .int .u16 h.len, .slice (some ⟨gi, 0, none⟩) B.length (B.length + 64)] (0, 0) _ rfl ((HX.out.2.far (by simp) _).setRow _) Tryz.underlying61 rfl info_state) rfl ?_
  have hb3 : Below w.heap.size w w2 := below_then hb.out H2.out.2.2
  have h1s : w.heap.size + 1 < w1.heap.size := hz.out.lt
  have hgi1 : w1.heap.size ≤ gi := H2.out.1
  refine ⟨gi, ?_, by omega, ?_, below_setRow (hb3.setCell (p := ⟨w.heap.size, 8, none⟩) (Nat.le_refl _) _) (Nat.le_succ _) _⟩
  · rw [hl.out]
  · refine Blk.setRow_far (H2.out.2.1.far (p := ⟨w.heap.size, 8, none⟩) (by show gi ≠ w.heap.size; omega) _) (by omega) _
set_option maxRecDepth 100000 in
theorem spareState_yes (h : Hd) (g n : Nat) (B : List Int) (w : World) (hB : Blk w g 5 (u8s (wide B)).toArray) (hl : B.length = n) (hn : n ≤ 1099511627776) :
    Calls Tryz.prog 21 #[stV h (some ⟨g, 0, none⟩) n (n + 64)] w fun e w' => e = .returned (.bool true) ∧ Below w.heap.size w w' := by
  have hb : Below w.heap.size w (w.alloc (.cells #[.int .u16 h.age, .int .u8 h.opts, .int .u8 h.typ, .int .u32 h.id, .int .u32 h.adv, .int .i32 h.seq, .int .u16 h.sum, .int .u16 h.len, .slice (some ⟨g, 0, none⟩) n (n + 64)] 61)) := (Below.refl _ _).alloc (Nat.le_refl _) _
  have hX : Blk (w.alloc (.cells #[.int .u16 h.age, .int .u8 h.opts, .int .u8 h.typ, .int .u32 h.id, .int .u32 h.adv, .int .i32 h.seq, .int .u16 h.sum, .int .u16 h.len, .slice (some ⟨g, 0, none⟩) n (n + 64)] 61)) w.heap.size 61 #[.int .u16 h.age, .int .u8 h.opts, .int .u8 h.typ, .int .u32 h.id, .int .u32 h.adv, .int .i32 h.seq, .int .u16 h.sum, .int .u16 h.len, .slice (some ⟨g, 0, none⟩) n (n + 64)] := Blk.new _ _ _
  have x8 := hX.cell 8
  simp only [List.getElem?_toArray, List.getElem?_cons_zero, List.getElem?_cons_succ] at x8
  have hrd : Reads (w.alloc (.cells #[.int .u16 h.age, .int .u8 h.opts, .int .u8 h.typ, .int .u32 h.id, .int .u32 h.adv, .int .i32 h.seq, .int .u16 h.sum, .int .u16 h.len, .slice (some ⟨g, 0, none⟩) n (n + 64)] 61)) (g + 1) 1 (some ⟨g, 0, none⟩) (n + 64) (u8s (wide B)) := by
    have h1 := (hB.alloc (.cells #[.int .u16 h.age, .int .u8 h.opts, .int .u8 h.typ, .int .u32 h.id, .int .u32 h.adv, .int .i32 h.seq, .int .u16 h.sum, .int .u16 h.len, .slice (some ⟨g, 0, none⟩) n (n + 64)] 61)).reads (n := n + 64) (by rw [u8s_length, wide_length, hl]; exact Nat.le_refl _)
    rwa [List.take_of_length_le (by rw [u8s_length, wide_length, hl]; exact Nat.le_refl _)] at h1
  have HC := Lib.hid (spareBytes_yes (some ⟨g, 0, none⟩) n (n + 64) B _ _ hrd hl (Nat.le_refl _) hn)
  have HB := Lib.hid hb
  clear hB hX hrd hb
  show Calls Tryz.prog 21 #[.agg #[.int .u16 h.age, .int .u8 h.opts, .int .u8 h.typ, .int .u32 h.id, .int .u32 h.adv, .int .i32 h.seq, .int .u16 h.sum, .int .u16 h.len, .slice (some ⟨g, 0, none⟩) n (n + 64)]] w fun e w' => e = .returned (.bool true) ∧ Below w.heap.size w w'
  go_enter Tryz.func21, Tryz.ntmps21
  go_wp2_with fail
  refine HC.out.mono ?_
  rintro e w2 ⟨rfl, q, rfl⟩
  have HB2 := Lib.hid (below_drewN HB.out q)
  go_wp2_with fail
  go_ret
  exact ⟨rfl, HB2.out⟩
end Go.Proofs.YtpncbggjngamgaaGreatDoor
namespace Go.Proofs.YtpncbggjngamgaaGreatDoor
set_option linter.unusedVariables false
open Go.RowKit

theorem dropK_map (f : Ky3 → Option OneE) (k : Ky3) : updF (fun k => (f k).map OneE.v) k none = fun k' => (dropK f k k').map OneE.v := by
  funext k'
  unfold updF dropK
  by_cases h : k' = k
  · rw [if_pos h, if_pos h]; rfl
  · rw [if_neg h, if_neg h]
theorem dropK_some {f : Ky3 → Option OneE} {k k' : Ky3} {x : OneE} (h : dropK f k k' = some x) : f k' = some x := by
  unfold dropK at h
  by_cases e : k' = k
  · rw [if_pos e] at h; cases h
  · rwa [if_neg e] at h
def DropAt (w w' : World) (g bm : Nat) (most : Int) (f : Ky3 → Option OneE) (n : Nat) (k : Ky3) (e : Ending) : Prop :=
  e = .returned (.bool (f k).isSome) ∧ StF w' g bm most (dropK f k) (if (f k).isSome then n - 1 else n) ∧ Kept (fun i => i = bm) w w'
set_option maxRecDepth 100000 in
set_option maxHeartbeats 4000000 in
theorem stdrop_any (w : World) (g bm : Nat) (most : Int) (f : Ky3 → Option OneE) (n : Nat) (q : StF w g bm most f n) (k : Ky3) :
    Calls Tryz.prog 22 #[.pointer (some ⟨g, 0, none⟩), keyV k] w fun e w' => DropAt w w' g bm most f n k e := by
  obtain ⟨k1, k2, k3⟩ := k
  have hb0 : Below w.heap.size w (w.alloc (.cells #[.int .u8 k1, .int .u32 k2, .int .u32 k3] 68)) := (Below.refl _ _).alloc (Nat.le_refl _) _
  have HQ := Lib.hid (q.later hb0)
  have HK0 : Hid (Blk (w.alloc (.cells #[.int .u8 k1, .int .u32 k2, .int .u32 k3] 68)) w.heap.size 68 #[.int .u8 k1, .int .u32 k2, .int .u32 k3]) := Lib.hid (Blk.new _ _ _)
  have HB0 := Lib.hid hb0
  have HN := Lib.hid (stnone_any _ g bm (show (w.alloc (.cells #[.int .u8 k1, .int .u32 k2, .int .u32 k3] 68)).cell? ⟨g, 0, none⟩ = some (.map (some bm)) from HQ.out.blk.cell 0))
  obtain ⟨x, b, hx, hxb⟩ := lookS f (k1, k2, k3)
  obtain ⟨⟨⟨yage, yopts, ytyp, yid, yadv, yseq, ysum, ylen⟩, yA, yn, yc, yB⟩, yat⟩ := x
  have HLK := Lib.hid hx
  have HXB := Lib.hid hxb
  have HQ0 := Lib.hid q
  clear q hb0 hx hxb
  go_enter Tryz.func22, Tryz.ntmps22
  go_wp2_with (go_at_call 28; refine HN.out.mono ?_; rintro e w' ⟨rfl, rfl⟩)
  generalize w.alloc (.cells #[.int .u8 k1, .int .u32 k2, .int .u32 k3] 68) = w1 at *
  generalize hgk : w.heap.size = gk at *
  refine wp_region_s (fun W : World => Blk W g 79 #[.map (some bm), .int .i64 most] ∧ Blk W gk 68 #[.int .u8 k1, .int .u32 k2, .int .u32 k3] ∧ MapF keyV W bm (fun k => (f k).map OneE.v) n) [(0, true), (1, true), (2, true), (3, true), (4, true), (5, true), (6, true), (7, true), (8, true), (9, false), (10, false), (11, true)] (by kernel_rfl) (fun _ d _ _ _ h => by cases d <;> exact h) ?_
  simp only [List.map_cons, List.map_nil, nthOp_zero, nthOp_succ]
  have HS : Hid ((fun W : World => Blk W g 79 #[.map (some bm), .int .i64 most] ∧ Blk W gk 68 #[.int .u8 k1, .int .u32 k2, .int .u32 k3] ∧ MapF keyV W bm (fun k => (f k).map OneE.v) n) w1.drew) := Lib.hid ⟨(HQ.out.later (Below.refl _ _).drew).blk, HK0.out.later (Below.refl _ _).drew, (HQ.out.later (Below.refl _ _).drew).map⟩
  have hbd : Below w1.heap.size w1 w1.drew := (Below.refl _ _).drew
  have HBD := Lib.hid hbd
  clear hbd
  generalize hwd : w1.drew = w2 at *
  clear hwd
  refine wpS_take HS (by kernel_rfl) (by intro W hW; have j0 := hW.1.cell 0; have j1 := hW.1.cell 1; simp only [List.getElem?_toArray, List.getElem?_cons_zero, List.getElem?_cons_succ] at j0 j1; clear hW; go_simp; try with_reducible rfl) ?_
  refine wpS_take HS (by kernel_rfl) (by intro W hW; have j0 := hW.1.cell 0; have j1 := hW.1.cell 1; simp only [List.getElem?_toArray, List.getElem?_cons_zero, List.getElem?_cons_succ] at j0 j1; clear hW; go_simp; try with_reducible rfl) ?_
  refine wpS_take HS (by kernel_rfl) (by intro W hW; have j0 := hW.1.cell 0; have j1 := hW.1.cell 1; simp only [List.getElem?_toArray, List.getElem?_cons_zero, List.getElem?_cons_succ] at j0 j1; clear hW; go_simp; try with_reducible rfl) ?_
  refine wpS_take HS (by kernel_rfl) (by intro W hW; have j0 := hW.1.cell 0; have j1 := hW.1.cell 1; simp only [List.getElem?_toArray, List.getElem?_cons_zero, List.getElem?_cons_succ] at j0 j1; clear hW; go_simp; try with_reducible rfl) ?_
  refine wpS_take HS (by kernel_rfl) (fun W hW => exec_load_row rfl rfl hW.2.1 Tryz.underlying68 rfl info_key3) ?_
  refine wpS_take HS (by kernel_rfl) (fun W hW => exec_lookupF (a := (k1, k2, k3)) keyT Tryz.underlying77 zeroOne rfl hW.2.2 rfl rfl) ?_
  simp only [HLK.out]
  refine wpS_take HS (by kernel_rfl) (by intro W hW; have j0 := hW.1.cell 0; have j1 := hW.1.cell 1; simp only [List.getElem?_toArray, List.getElem?_cons_zero, List.getElem?_cons_succ] at j0 j1; clear hW; go_simp; try with_reducible rfl) ?_
  refine wpS_take HS (by kernel_rfl) (by intro W hW; have j0 := hW.1.cell 0; have j1 := hW.1.cell 1; simp only [List.getElem?_toArray, List.getElem?_cons_zero, List.getElem?_cons_succ] at j0 j1; clear hW; go_simp; try with_reducible rfl) ?_
  refine wpS_take HS (by kernel_rfl) (by intro W hW; have j0 := hW.1.cell 0; have j1 := hW.1.cell 1; simp only [List.getElem?_toArray, List.getElem?_cons_zero, List.getElem?_cons_succ] at j0 j1; clear hW; go_simp; try with_reducible rfl) ?_
  refine wpS_do fun K hK => ?_
  go_wp2
  have hba : Below w2.heap.size w2 (w2.alloc (.cells #[.int .u16 0, .int .u8 0, .int .u8 0, .int .u32 0, .int .u32 0, .int .i32 0, .int .u16 0, .int .u16 0, .slice none 0 0, .int .i64 0] 98)) := (Below.refl _ _).alloc (Nat.le_refl _) _
  refine hK.out _ _ ⟨HS.out.1.later hba, HS.out.2.1.later hba, HS.out.2.2.later hba⟩ ?_
  clear hK K hba
  refine wpS_do fun K hK => ?_
  go_wp2_with (go_must (refine wpList_store_row rfl 98 _ _ rfl w2.heap.size #[.int .u16 yage, .int .u8 yopts, .int .u8 ytyp, .int .u32 yid, .int .u32 yadv, .int .i32 yseq, .int .u16 ysum, .int .u16 ylen, .slice yA yn yc, .int .i64 yat] rfl rfl 98 _ (heap_alloc_new w2 _) info_one rfl (by simp [Value.oneCell']) ?_; rw [World.setRow_alloc_new]))
  have hb1 : Below w2.heap.size w2 (w2.alloc (.cells #[.int .u16 yage, .int .u8 yopts, .int .u8 ytyp, .int .u32 yid, .int .u32 yadv, .int .i32 yseq, .int .u16 ysum, .int .u16 ylen, .slice yA yn yc, .int .i64 yat] 98)) := (Below.refl _ _).alloc (Nat.le_refl _) _
  have HX : Hid (Blk (w2.alloc (.cells #[.int .u16 yage, .int .u8 yopts, .int .u8 ytyp, .int .u32 yid, .int .u32 yadv, .int .i32 yseq, .int .u16 ysum, .int .u16 ylen, .slice yA yn yc, .int .i64 yat] 98)) w2.heap.size 98 #[.int .u16 yage, .int .u8 yopts, .int .u8 ytyp, .int .u32 yid, .int .u32 yadv, .int .i32 yseq, .int .u16 ysum, .int .u16 ylen, .slice yA yn yc, .int .i64 yat]) := Lib.hid (Blk.new _ _ _)
  replace HS : Hid ((fun W : World => Blk W g 79 #[.map (some bm), .int .i64 most] ∧ Blk W gk 68 #[.int .u8 k1, .int .u32 k2, .int .u32 k3] ∧ MapF keyV W bm (fun k => (f k).map OneE.v) n) (w2.alloc (.cells #[.int .u16 yage, .int .u8 yopts, .int .u8 ytyp, .int .u32 yid, .int .u32 yadv, .int .i32 yseq, .int .u16 ysum, .int .u16 ylen, .slice yA yn yc, .int .i64 yat] 98))) := Lib.hid ⟨HS.out.1.later hb1, HS.out.2.1.later hb1, HS.out.2.2.later hb1⟩
  have HB1 := Lib.hid hb1
  clear hb1
  refine hK.out _ _ HS.out ?_
  clear hK K
  generalize hg1 : w2.alloc (.cells #[.int .u16 yage, .int .u8 yopts, .int .u8 ytyp, .int .u32 yid, .int .u32 yadv, .int .i32 yseq, .int .u16 ysum, .int .u16 ylen, .slice yA yn yc, .int .i64 yat] 98) = w3 at *
  clear hg1
  generalize hgx : w2.heap.size = gx at *
  refine wpS_take HS (by kernel_rfl) (by intro W hW; have j0 := hW.1.cell 0; have j1 := hW.1.cell 1; simp only [List.getElem?_toArray, List.getElem?_cons_zero, List.getElem?_cons_succ] at j0 j1; clear hW; go_simp; try with_reducible rfl) ?_
  refine wpS_nil ?_
  go_simp
  subst hgk
  subst hgx
  have hbd4 : Below w3.heap.size w3 w3.drew := (Below.refl _ _).drew
  replace HS : Hid ((fun W : World => Blk W g 79 #[.map (some bm), .int .i64 most] ∧ Blk W w.heap.size 68 #[.int .u8 k1, .int .u32 k2, .int .u32 k3] ∧ MapF keyV W bm (fun k => (f k).map OneE.v) n) w3.drew) := Lib.hid ⟨HS.out.1.later hbd4, HS.out.2.1.later hbd4, HS.out.2.2.later hbd4⟩
  have HBE := Lib.hid (below_then (below_then (below_then HB0.out HBD.out) HB1.out) hbd4)
  clear hbd4 HX HB0 HB1 HBD HQ
  go_wp2_with fail
  refine wp_region_s (fun W : World => Blk W g 79 #[.map (some bm), .int .i64 most] ∧ Blk W w.heap.size 68 #[.int .u8 k1, .int .u32 k2, .int .u32 k3]) [(0, true), (1, true), (2, true), (3, true), (4, true), (5, false)] (by kernel_rfl) (fun _ d _ _ _ h => by cases d <;> exact h) ?_
  simp only [List.map_cons, List.map_nil, nthOp_zero, nthOp_succ]
  have HP : Hid ((fun W : World => Blk W g 79 #[.map (some bm), .int .i64 most] ∧ Blk W w.heap.size 68 #[.int .u8 k1, .int .u32 k2, .int .u32 k3]) w3.drew) := Lib.hid ⟨HS.out.1, HS.out.2.1⟩
  have HM := Lib.hid HS.out.2.2
  clear HS
  generalize w3.drew = w4 at *
  refine wpS_take HP (by kernel_rfl) (by intro W hW; clear hW; go_simp; try with_reducible rfl) ?_
  refine wpS_take HP (by kernel_rfl) (by intro W hW; clear hW; go_simp; try with_reducible rfl) ?_
  refine wpS_take HP (by kernel_rfl) (by intro W hW; clear hW; go_simp; try with_reducible rfl) ?_
  refine wpS_take HP (by kernel_rfl) (by intro W hW; have j0 := hW.1.cell 0; have j1 := hW.1.cell 1; simp only [List.getElem?_toArray, List.getElem?_cons_zero, List.getElem?_cons_succ] at j0 j1; clear hW; go_simp; try with_reducible rfl) ?_
  refine wpS_take HP (by kernel_rfl) (fun W hW => exec_load_row rfl rfl hW.2 Tryz.underlying68 rfl info_key3) ?_
  go_simp
  refine wpS_do fun K hK => ?_
  go_wp2_with (go_must (refine wpList_deleteF keyT Tryz.underlying77 rfl (.tmp 21) (.tmp 22) 68 rfl HM.out rfl (k1, k2, k3) rfl ?_); intro w5 hm5 hk5)
  have hne : ∀ {gg : Nat} {t : TypeId} {cs : Array Value}, Blk w4 gg t cs → ¬ (gg = bm) := fun hg e => HM.out.ne_blk hg e.symm
  refine hK.out _ _ ⟨HP.out.1.kept hk5 (hne HP.out.1), HP.out.2.kept hk5 (hne HP.out.2)⟩ ?_
  clear hK K
  refine wpS_nil ?_
  go_simp
  go_wp2_with fail
  go_ret
  have hb : (f (k1, k2, k3)).isSome = b := by
    rcases HXB.out with ⟨h, rfl⟩ | ⟨h, rfl, _⟩
    · rw [h]; rfl
    · rw [h]; rfl
  rw [dropK_map] at hm5
  have hiso : ((f (k1, k2, k3)).map OneE.v).isSome = (f (k1, k2, k3)).isSome := by cases f (k1, k2, k3) <;> rfl
  rw [hiso] at hm5
  refine ⟨by rw [hb]; rfl, ⟨HP.out.1.kept hk5 (hne HP.out.1), hm5, fun k' x' hk' => ?_⟩, (Kept.of_new HBE.out (fun i => i = bm)).trans hk5 (fun _ _ h => h)⟩
  have hg := HQ0.out.good k' x' (dropK_some hk')
  have h4 := hg.2.1.later HBE.out
  exact ⟨hg.1, h4.kept2 hk5 (rd_ne_map h4 HM.out), hg.2.2⟩
end Go.Proofs.YtpncbggjngamgaaGreatDoor
namespace Go.Proofs.YtpncbggjngamgaaGreatDoor
set_option linter.unusedVariables false
open Go.RowKit Go.ChangeShapes Go.WideShapes

/-- What an adder leaves. -/
structure Added (n0 : Nat) (G G' : Nat → Sl) (L L' : Nat → List Sl) (j : Nat) (l : Sl) : Prop where
  oth : ∀ i, i ≠ j → G' i = G i ∧ L' i = L i
  self : L' j = L j ∨ L' j = L j ++ [l]
  blk : ∀ b, (G' j).v.ownBlock = some b → (G j).v.ownBlock = some b ∨ n0 ≤ b
def AddP (W W' : World) (base g : Nat) (G : Nat → Sl) (L : Nat → List Sl) (j : Nat) (l : Sl) (e : Ending) : Prop :=
  (∃ v, e = .returned v) ∧ ∃ G' L', BagN W' base g G' L' ∧ Kept (BagF g G) W W' ∧ Added W.heap.size G G' L L' j l
theorem el_b0 : El Tryz.prog 33 59 1 24 := El.mk' Tryz.underlying33 (z := .slice none 0 0) (by kernel_rfl) rfl (by decide)
set_option maxRecDepth 100000 in
set_option maxHeartbeats 2000000 in
theorem addBytes_any (W : World) (base g : Nat) (G : Nat → Sl) (L : Nat → List Sl) (h : BagN W base g G L) (hb : base ≤ W.heap.size) (l : Sl) (xs : List Value) (hl : W.ownsRow base 5 (bsz 0) l.v l.n xs) (hlf : l.n ≤ 1099511627776)
    (hsep : ∀ s ∈ L 0, ∀ b, s.v.ownBlock = some b → l.v.ownBlock ≠ some b) :
    Calls Tryz.prog 72 #[.pointer (some ⟨g, 0, none⟩), .slice l.A l.n l.c] W fun e w' => AddP W w' base g G L 0 l e := by
  obtain ⟨lA, ln, lc⟩ := l
  obtain ⟨⟨GA, gn, gc⟩, hG⟩ : ∃ s, G 0 = s := ⟨_, rfl⟩
  have y0 := (h.cell (j := 0) (by decide)).1
  rw [hG] at y0
  have HH := Lib.hid h
  have HG := Lib.hid hG
  have HLs := Lib.hid (And.intro hl hsep)
  have HB := Lib.hid hb
  have hfew : gn ≤ 300 := by have := h.few 0 (by decide); rw [hG] at this; exact this
  clear h hG hl hsep hb
  dsimp only [Sl.v] at y0
  by_cases hlt : gn < 300
  · have hd : decide ((gn : Int) < 300) = true := decide_eq_true (by omega)
    have hbb : Below W.heap.size W (W.alloc (.cells #[.slice lA ln lc] 59)) := (Below.refl _ _).alloc (Nat.le_refl _) _
    have HHb := Lib.hid (HH.out.later hbb)
    have hr := HHb.out.row 0 (by decide)
    rw [HG.out] at hr
    have HR := Lib.hid (show (W.alloc (.cells #[.slice lA ln lc] 59)).ownsRow base 59 1 (.slice GA gn gc) gn (slv (L 0)) from hr)
    have HRd : Hid (Reads (W.alloc (.cells #[.slice lA ln lc] 59)) (W.heap.size + 1) 1 (some ⟨W.heap.size, 0, none⟩) 1 [.slice lA ln lc]) := Lib.hid (Reads.one_new _ _ _)
    have HLb := Lib.hid (own_kept HLs.out.1 (Kept.of_new hbb (fun _ => False)) (fun _ _ h => h))
    have HW1 := Lib.hid hbb
    clear hr hbb
    go_enter Tryz.func72, Tryz.ntmps72
    go_wp2_with (at_builtin; go_must (refine wpList_app el_b0 rfl (.tmp 14) (.tmp 16) rfl HR.out rfl HRd.out rfl (by simp [Value.oneCell']) (by simp only [maxLen]; omega) (by omega) (by have := HB.out; rw [World.size_alloc]; omega) ?_); intro v2 w2 ho2 hb2 hg2 hbl2; obtain ⟨s2A, s2c, hv2, -⟩ := (OwnW.of_own ho2).shape; subst hv2; have H2 := Lib.hid (And.intro ho2 (And.intro hg2 hbl2)); have hcc : w2.cell? ⟨g, 0, none⟩ = some (.slice GA gn gc) ∧ w2.frozen? ⟨g, 0, none⟩ = false := (by obtain ⟨C, hC, _, hc⟩ := HHb.out.blk; have hC2 : Blk w2 g 53 C := hC.grown hg2 (fun e => own_blk_ne HR.out hC (by decide) e.symm); have h7 := hc 0 (by decide); rw [HG.out] at h7; exact ⟨(hC2.cell 0).trans h7, hC2.frozen 0⟩); clear ho2 hb2 hg2 hbl2; clear y0; have y0 := hcc.1; have f0 := hcc.2; clear hcc)
    go_end0
    have hadd := HHb.out.add (j := 0) (by decide) (by rw [HG.out]; exact hlt) (l := ⟨lA, ln, lc⟩) (s2 := ⟨s2A, gn + 1, s2c⟩) HLb.out hlf HLs.out.2 (by rw [HG.out]; exact H2.out.1) (by rw [HG.out]) (by rw [HG.out]; exact H2.out.2.1) (by rw [HG.out]; exact H2.out.2.2)
    refine ⟨⟨_, rfl⟩, _, _, hadd.1, (Kept.of_new HW1.out (BagF g G)).trans hadd.2 (fun _ _ h => h), ⟨fun i hi => ⟨updN_ne _ _ hi, updN_ne _ _ hi⟩, .inr (updN_self _ _ _), fun b hb => ?_⟩⟩
    rw [updN_self] at hb
    rcases H2.out.2.2 with e | e
    · left
      rw [HG.out]
      exact e.symm.trans hb
    · right
      have e2 := e.symm.trans hb
      injection e2 with e2
      rw [← e2, World.size_alloc]
      omega
  · have hd : decide ((gn : Int) < 300) = false := decide_eq_false (by omega)
    go_enter Tryz.func72, Tryz.ntmps72
    go_wp2_with fail
    go_end0
    exact ⟨⟨_, rfl⟩, G, L, HH.out, Kept.refl _ _, ⟨fun i _ => ⟨rfl, rfl⟩, .inl rfl, fun b hb => .inl hb⟩⟩
theorem el_b7 : El Tryz.prog 40 89 1 24 := El.mk' Tryz.underlying40 (z := .slice none 0 0) (by kernel_rfl) rfl (by decide)
set_option maxRecDepth 100000 in
set_option maxHeartbeats 2000000 in
theorem addHeads_any (W : World) (base g : Nat) (G : Nat → Sl) (L : Nat → List Sl) (h : BagN W base g G L) (hb : base ≤ W.heap.size) (l : Sl) (xs : List Value) (hl : W.ownsRow base 58 (bsz 7) l.v l.n xs) (hlf : l.n ≤ 1099511627776)
    (hsep : ∀ s ∈ L 7, ∀ b, s.v.ownBlock = some b → l.v.ownBlock ≠ some b) :
    Calls Tryz.prog 39 #[.pointer (some ⟨g, 0, none⟩), .slice l.A l.n l.c] W fun e w' => AddP W w' base g G L 7 l e := by
  obtain ⟨lA, ln, lc⟩ := l
  obtain ⟨⟨GA, gn, gc⟩, hG⟩ : ∃ s, G 7 = s := ⟨_, rfl⟩
  have y0 := (h.cell (j := 7) (by decide)).1
  rw [hG] at y0
  have HH := Lib.hid h
  have HG := Lib.hid hG
  have HLs := Lib.hid (And.intro hl hsep)
  have HB := Lib.hid hb
  have hfew : gn ≤ 300 := by have := h.few 7 (by decide); rw [hG] at this; exact this
  clear h hG hl hsep hb
  dsimp only [Sl.v] at y0
  by_cases hlt : gn < 300
  · have hd : decide ((gn : Int) < 300) = true := decide_eq_true (by omega)
    have hbb : Below W.heap.size W (W.alloc (.cells #[.slice lA ln lc] 89)) := (Below.refl _ _).alloc (Nat.le_refl _) _
    have HHb := Lib.hid (HH.out.later hbb)
    have hr := HHb.out.row 7 (by decide)
    rw [HG.out] at hr
    have HR := Lib.hid (show (W.alloc (.cells #[.slice lA ln lc] 89)).ownsRow base 89 1 (.slice GA gn gc) gn (slv (L 7)) from hr)
    have HRd : Hid (Reads (W.alloc (.cells #[.slice lA ln lc] 89)) (W.heap.size + 1) 1 (some ⟨W.heap.size, 0, none⟩) 1 [.slice lA ln lc]) := Lib.hid (Reads.one_new _ _ _)
    have HLb := Lib.hid (own_kept HLs.out.1 (Kept.of_new hbb (fun _ => False)) (fun _ _ h => h))
    have HW1 := Lib.hid hbb
    clear hr hbb
    go_enter Tryz.func39, Tryz.ntmps39
    go_wp2_with (at_builtin; go_must (refine wpList_app el_b7 rfl (.tmp 14) (.tmp 16) rfl HR.out rfl HRd.out rfl (by simp [Value.oneCell']) (by simp only [maxLen]; omega) (by omega) (by have := HB.out; rw [World.size_alloc]; omega) ?_); intro v2 w2 ho2 hb2 hg2 hbl2; obtain ⟨s2A, s2c, hv2, -⟩ := (OwnW.of_own ho2).shape; subst hv2; have H2 := Lib.hid (And.intro ho2 (And.intro hg2 hbl2)); have hcc : w2.cell? ⟨g, 7, none⟩ = some (.slice GA gn gc) ∧ w2.frozen? ⟨g, 7, none⟩ = false := (by obtain ⟨C, hC, _, hc⟩ := HHb.out.blk; have hC2 : Blk w2 g 53 C := hC.grown hg2 (fun e => own_blk_ne HR.out hC (by decide) e.symm); have h7 := hc 7 (by decide); rw [HG.out] at h7; exact ⟨(hC2.cell 7).trans h7, hC2.frozen 7⟩); clear ho2 hb2 hg2 hbl2; clear y0; have y0 := hcc.1; have f0 := hcc.2; clear hcc)
    go_end0
    have hadd := HHb.out.add (j := 7) (by decide) (by rw [HG.out]; exact hlt) (l := ⟨lA, ln, lc⟩) (s2 := ⟨s2A, gn + 1, s2c⟩) HLb.out hlf HLs.out.2 (by rw [HG.out]; exact H2.out.1) (by rw [HG.out]) (by rw [HG.out]; exact H2.out.2.1) (by rw [HG.out]; exact H2.out.2.2)
    refine ⟨⟨_, rfl⟩, _, _, hadd.1, (Kept.of_new HW1.out (BagF g G)).trans hadd.2 (fun _ _ h => h), ⟨fun i hi => ⟨updN_ne _ _ hi, updN_ne _ _ hi⟩, .inr (updN_self _ _ _), fun b hb => ?_⟩⟩
    rw [updN_self] at hb
    rcases H2.out.2.2 with e | e
    · left
      rw [HG.out]
      exact e.symm.trans hb
    · right
      have e2 := e.symm.trans hb
      injection e2 with e2
      rw [← e2, World.size_alloc]
      omega
  · have hd : decide ((gn : Int) < 300) = false := decide_eq_false (by omega)
    go_enter Tryz.func39, Tryz.ntmps39
    go_wp2_with fail
    go_end0
    exact ⟨⟨_, rfl⟩, G, L, HH.out, Kept.refl _ _, ⟨fun i _ => ⟨rfl, rfl⟩, .inl rfl, fun b hb => .inl hb⟩⟩
theorem el_b8 : El Tryz.prog 41 75 1 24 := El.mk' Tryz.underlying41 (z := .slice none 0 0) (by kernel_rfl) rfl (by decide)
set_option maxRecDepth 100000 in
set_option maxHeartbeats 2000000 in
theorem addKeys_any (W : World) (base g : Nat) (G : Nat → Sl) (L : Nat → List Sl) (h : BagN W base g G L) (hb : base ≤ W.heap.size) (l : Sl) (xs : List Value) (hl : W.ownsRow base 68 (bsz 8) l.v l.n xs) (hlf : l.n ≤ 1099511627776)
    (hsep : ∀ s ∈ L 8, ∀ b, s.v.ownBlock = some b → l.v.ownBlock ≠ some b) :
    Calls Tryz.prog 40 #[.pointer (some ⟨g, 0, none⟩), .slice l.A l.n l.c] W fun e w' => AddP W w' base g G L 8 l e := by
  obtain ⟨lA, ln, lc⟩ := l
  obtain ⟨⟨GA, gn, gc⟩, hG⟩ : ∃ s, G 8 = s := ⟨_, rfl⟩
  have y0 := (h.cell (j := 8) (by decide)).1
  rw [hG] at y0
  have HH := Lib.hid h
  have HG := Lib.hid hG
  have HLs := Lib.hid (And.intro hl hsep)
  have HB := Lib.hid hb
  have hfew : gn ≤ 300 := by have := h.few 8 (by decide); rw [hG] at this; exact this
  clear h hG hl hsep hb
  dsimp only [Sl.v] at y0
  by_cases hlt : gn < 300
  · have hd : decide ((gn : Int) < 300) = true := decide_eq_true (by omega)
    have hbb : Below W.heap.size W (W.alloc (.cells #[.slice lA ln lc] 75)) := (Below.refl _ _).alloc (Nat.le_refl _) _
    have HHb := Lib.hid (HH.out.later hbb)
    have hr := HHb.out.row 8 (by decide)
    rw [HG.out] at hr
    have HR := Lib.hid (show (W.alloc (.cells #[.slice lA ln lc] 75)).ownsRow base 75 1 (.slice GA gn gc) gn (slv (L 8)) from hr)
    have HRd : Hid (Reads (W.alloc (.cells #[.slice lA ln lc] 75)) (W.heap.size + 1) 1 (some ⟨W.heap.size, 0, none⟩) 1 [.slice lA ln lc]) := Lib.hid (Reads.one_new _ _ _)
    have HLb := Lib.hid (own_kept HLs.out.1 (Kept.of_new hbb (fun _ => False)) (fun _ _ h => h))
    have HW1 := Lib.hid hbb
    clear hr hbb
    go_enter Tryz.func40, Tryz.ntmps40
    go_wp2_with (at_builtin; go_must (refine wpList_app el_b8 rfl (.tmp 14) (.tmp 16) rfl HR.out rfl HRd.out rfl (by simp [Value.oneCell']) (by simp only [maxLen]; omega) (by omega) (by have := HB.out; rw [World.size_alloc]; omega) ?_); intro v2 w2 ho2 hb2 hg2 hbl2; obtain ⟨s2A, s2c, hv2, -⟩ := (OwnW.of_own ho2).shape; subst hv2; have H2 := Lib.hid (And.intro ho2 (And.intro hg2 hbl2)); have hcc : w2.cell? ⟨g, 8, none⟩ = some (.slice GA gn gc) ∧ w2.frozen? ⟨g, 8, none⟩ = false := (by obtain ⟨C, hC, _, hc⟩ := HHb.out.blk; have hC2 : Blk w2 g 53 C := hC.grown hg2 (fun e => own_blk_ne HR.out hC (by decide) e.symm); have h7 := hc 8 (by decide); rw [HG.out] at h7; exact ⟨(hC2.cell 8).trans h7, hC2.frozen 8⟩); clear ho2 hb2 hg2 hbl2; clear y0; have y0 := hcc.1; have f0 := hcc.2; clear hcc)
    go_end0
    have hadd := HHb.out.add (j := 8) (by decide) (by rw [HG.out]; exact hlt) (l := ⟨lA, ln, lc⟩) (s2 := ⟨s2A, gn + 1, s2c⟩) HLb.out hlf HLs.out.2 (by rw [HG.out]; exact H2.out.1) (by rw [HG.out]) (by rw [HG.out]; exact H2.out.2.1) (by rw [HG.out]; exact H2.out.2.2)
    refine ⟨⟨_, rfl⟩, _, _, hadd.1, (Kept.of_new HW1.out (BagF g G)).trans hadd.2 (fun _ _ h => h), ⟨fun i hi => ⟨updN_ne _ _ hi, updN_ne _ _ hi⟩, .inr (updN_self _ _ _), fun b hb => ?_⟩⟩
    rw [updN_self] at hb
    rcases H2.out.2.2 with e | e
    · left
      rw [HG.out]
      exact e.symm.trans hb
    · right
      have e2 := e.symm.trans hb
      injection e2 with e2
      rw [← e2, World.size_alloc]
      omega
  · have hd : decide ((gn : Int) < 300) = false := decide_eq_false (by omega)
    go_enter Tryz.func40, Tryz.ntmps40
    go_wp2_with fail
    go_end0
    exact ⟨⟨_, rfl⟩, G, L, HH.out, Kept.refl _ _, ⟨fun i _ => ⟨rfl, rfl⟩, .inl rfl, fun b hb => .inl hb⟩⟩
theorem el_b14 : El Tryz.prog 47 87 1 24 := El.mk' Tryz.underlying47 (z := .slice none 0 0) (by kernel_rfl) rfl (by decide)
end Go.Proofs.YtpncbggjngamgaaGreatDoor
namespace Go.Proofs.YtpncbggjngamgaaGreatDoor
set_option linter.unusedVariables false
open Go.RowKit

/-- A state's body as a slice. -/
def SE.sl (s : SE) : Sl := ⟨s.A, s.n, s.c⟩
theorem SE.ok.gsl {base : Nat} {w : World} {s : SE} (h : s.ok base w) : w.ownsRow base 5 (bsz 0) s.sl.v s.sl.n (u8s s.B) := h.body
/-- How a bag grew: what was gathered anew stands in blocks from n0 on, its own lists in their old blocks or in blocks from n1 on. -/
structure BagUp (n0 n1 : Nat) (G G' : Nat → Sl) (L L' : Nat → List Sl) : Prop where
  mem : ∀ j, ∀ s ∈ L' j, s ∈ L j ∨ ∀ b, s.v.ownBlock = some b → n0 ≤ b
  blk : ∀ j b, (G' j).v.ownBlock = some b → (G j).v.ownBlock = some b ∨ n1 ≤ b
theorem BagUp.refl (n0 n1 : Nat) (G : Nat → Sl) (L : Nat → List Sl) : BagUp n0 n1 G G L L := ⟨fun _ _ h => .inl h, fun _ _ h => .inl h⟩
theorem BagUp.trans {n0 m0 n1 m1 : Nat} {G G' G'' : Nat → Sl} {L L' L'' : Nat → List Sl} (h : BagUp n0 n1 G G' L L') (k : BagUp m0 m1 G' G'' L' L'') (hn : n0 ≤ m0) (hm : n1 ≤ m1) : BagUp n0 n1 G G'' L L'' :=
  ⟨fun j s hs => (k.mem j s hs).elim (fun h1 => h.mem j s h1) (fun h1 => .inr fun b hb => Nat.le_trans hn (h1 b hb)), fun j b hb => (k.blk j b hb).elim (fun h1 => h.blk j b h1) (fun h1 => .inr (Nat.le_trans hm h1))⟩
theorem Added.up {n0 n1 : Nat} {G G' : Nat → Sl} {L L' : Nat → List Sl} {j : Nat} {l : Sl} (h : Added n1 G G' L L' j l) (hl : ∀ b, l.v.ownBlock = some b → n0 ≤ b) : BagUp n0 n1 G G' L L' := by
  refine ⟨fun i s hs => ?_, fun i b hb => ?_⟩
  · by_cases e : i = j
    · subst e
      rcases h.self with e2 | e2
      · rw [e2] at hs; exact .inl hs
      · rw [e2] at hs
        rcases List.mem_append.1 hs with hs | hs
        · exact .inl hs
        · rw [List.mem_singleton] at hs
          subst hs
          exact .inr hl
    · rw [(h.oth i e).2] at hs
      exact .inl hs
  · by_cases e : i = j
    · subst e
      exact h.blk b hb
    · rw [(h.oth i e).1] at hb
      exact .inl hb
theorem BagF.back {n0 n1 g b : Nat} {G G' : Nat → Sl} {L L' : Nat → List Sl} (h : BagF g G' b) (u : BagUp n0 n1 G G' L L') (hb : b < n1) : BagF g G b := by
  rcases h with h | ⟨j, hj, h⟩
  · exact .inl h
  · rcases u.blk j b h with h1 | h1
    · exact .inr ⟨j, hj, h1⟩
    · omega
theorem BagN.not_own {W : World} {base g b' sz n : Nat} {G : Nat → Sl} {L : Nat → List Sl} {e : TypeId} {v : Value} {xs : List Value} (h : BagN W base g G L) (ho : W.ownsRow b' e sz v n xs) (h1 : e ≠ 53) (h2 : ∀ j, j < 19 → e ≠ bty j) : ∀ b, v.ownBlock = some b → ¬ BagF g G b := by
  intro b hb hF
  rcases hF with rfl | ⟨j, hj, hF⟩
  · obtain ⟨C, hC, _⟩ := h.blk
    exact own_blk_ne ho hC h1 hb
  · exact own_ne ho (h.row j hj) (h2 j hj) b hb hF
theorem BagN.not_blk {W : World} {base g b : Nat} {G : Nat → Sl} {L : Nat → List Sl} {t : TypeId} {cs : Array Value} (h : BagN W base g G L) (hB : Blk W b t cs) (h1 : t ≠ 53) (h2 : ∀ j, j < 19 → bty j ≠ t) : ¬ BagF g G b := by
  intro hF
  rcases hF with rfl | ⟨j, hj, hF⟩
  · obtain ⟨C, hC, _⟩ := h.blk
    exact blk_ne hC hB (fun e => h1 e.symm) rfl
  · exact own_blk_ne (h.row j hj) hB (h2 j hj) hF
theorem BagN.keep_ok {W W' : World} {base g B : Nat} {G : Nat → Sl} {L : Nat → List Sl} {s : SE} (h : BagN W base g G L) (k : Kept (BagF g G) W W') (hs : s.ok B W) : s.ok B W' :=
  ⟨hs.head, own_kept hs.body k (h.not_own hs.body (by decide) (fun j hj => bel_bty 0 j (by decide) hj)), hs.oct, hs.len⟩
set_option maxRecDepth 100000 in
set_option maxHeartbeats 2000000 in
theorem addState_any (W : World) (base g : Nat) (G : Nat → Sl) (L : Nat → List Sl) (h : BagN W base g G L) (hb : base ≤ W.heap.size) (s : SE) (hs : s.ok base W) (hsep : ∀ t ∈ L 0, ∀ b, t.v.ownBlock = some b → s.b.ownBlock ≠ some b) :
    Calls Tryz.prog 25 #[.pointer (some ⟨g, 0, none⟩), s.v] W fun e w' => AddP W w' base g G L 0 s.sl e := by
  obtain ⟨h0, A, n, c, B⟩ := s
  have hbb : Below W.heap.size W (W.alloc (.cells #[.int .u16 h0.age, .int .u8 h0.opts, .int .u8 h0.typ, .int .u32 h0.id, .int .u32 h0.adv, .int .i32 h0.seq, .int .u16 h0.sum, .int .u16 h0.len, .slice A n c] 61)) := (Below.refl _ _).alloc (Nat.le_refl _) _
  have hX : Blk (W.alloc (.cells #[.int .u16 h0.age, .int .u8 h0.opts, .int .u8 h0.typ, .int .u32 h0.id, .int .u32 h0.adv, .int .i32 h0.seq, .int .u16 h0.sum, .int .u16 h0.len, .slice A n c] 61)) W.heap.size 61 #[.int .u16 h0.age, .int .u8 h0.opts, .int .u8 h0.typ, .int .u32 h0.id, .int .u32 h0.adv, .int .i32 h0.seq, .int .u16 h0.sum, .int .u16 h0.len, .slice A n c] := Blk.new _ _ _
  have x8 := hX.cell 8
  simp only [List.getElem?_toArray, List.getElem?_cons_zero, List.getElem?_cons_succ] at x8
  have HA := Lib.hid (addBytes_any (W.alloc (.cells #[.int .u16 h0.age, .int .u8 h0.opts, .int .u8 h0.typ, .int .u32 h0.id, .int .u32 h0.adv, .int .i32 h0.seq, .int .u16 h0.sum, .int .u16 h0.len, .slice A n c] 61)) base g G L (h.later hbb) (by rw [World.size_alloc]; omega) ⟨A, n, c⟩ (u8s B) (hs.later hbb).gsl hs.len hsep)
  have HB := Lib.hid hbb
  clear h hs hsep hX hbb
  show Calls Tryz.prog 25 #[.pointer (some ⟨g, 0, none⟩), .agg #[.int .u16 h0.age, .int .u8 h0.opts, .int .u8 h0.typ, .int .u32 h0.id, .int .u32 h0.adv, .int .i32 h0.seq, .int .u16 h0.sum, .int .u16 h0.len, .slice A n c]] W fun e w' => AddP W w' base g G L 0 ⟨A, n, c⟩ e
  go_enter Tryz.func25, Tryz.ntmps25
  go_wp2_with fail
  refine HA.out.mono ?_
  rintro e w2 ⟨⟨v, rfl⟩, G', L', h1, h2, h3⟩
  have H := Lib.hid (And.intro h1 (And.intro h2 h3))
  clear h1 h2 h3
  go_wp2_with fail
  go_end0
  exact ⟨⟨_, rfl⟩, G', L', H.out.1, (Kept.of_new HB.out (BagF g G)).trans H.out.2.1 (fun _ _ h => h), ⟨H.out.2.2.oth, H.out.2.2.self, fun b hb => (H.out.2.2.blk b hb).imp id (fun h => Nat.le_trans HB.out.size h)⟩⟩
/-- What AddStates leaves. -/
def AddsP (W W' : World) (base g n0 : Nat) (G : Nat → Sl) (L : Nat → List Sl) (e : Ending) : Prop :=
  (∃ v, e = .returned v) ∧ ∃ G' L', BagN W' base g G' L' ∧ Kept (BagF g G) W W' ∧ BagUp n0 W.heap.size G G' L L' ∧ ∀ j, j ≠ 0 → j ≠ 14 → G' j = G j ∧ L' j = L j
structure AdsR (W : World) (base g n0 : Nat) (G : Nat → Sl) (L : Nat → List Sl) (A : Option Addr) (N c : Nat) (ss : List SE) (iv : Value) (wr : World) : Prop where
  ex : ∃ (i : Nat) (G' : Nat → Sl) (L' : Nat → List Sl), iv = .int .i64 i ∧ i ≤ N ∧ Hid (BagN wr base g G' L') ∧ Hid (BagUp n0 W.heap.size G G' L L' ∧ ∀ j, j ≠ 0 → j ≠ 14 → G' j = G j ∧ L' j = L j) ∧ Hid (∀ t ∈ L' 0, t ∈ L 0 ∨ ∃ x ∈ ss.take i, t = x.sl)
  k : Hid (Kept (BagF g G) W wr)
  row : Hid (wr.ownsRow base 61 9 (.slice A N c) N (ss.flatMap stL))
  ok : Hid (∀ x ∈ ss, x.ok base wr)
set_option maxRecDepth 100000 in
set_option maxHeartbeats 4000000 in
theorem addStates_any (W : World) (base g n0 : Nat) (G : Nat → Sl) (L : Nat → List Sl) (h : BagN W base g G L) (hb : base ≤ W.heap.size) (hn0 : n0 ≤ W.heap.size) (A : Option Addr) (N c : Nat) (ss : List SE) (hN : N ≤ 4096) (hl : ss.length = N)
    (hr : W.ownsRow n0 61 9 (.slice A N c) N (ss.flatMap stL)) (hbn : base ≤ n0) (hs : ∀ x ∈ ss, x.ok n0 W) (hp : ss.Pairwise fun a b => ∀ p, a.b.ownBlock = some p → b.b.ownBlock ≠ some p)
    (hs0 : ∀ t ∈ L 0, ∀ b, t.v.ownBlock = some b → b < n0) (hs14 : ∀ t ∈ L 14, ∀ b, t.v.ownBlock = some b → b < n0) :
    Calls Tryz.prog 38 #[.pointer (some ⟨g, 0, none⟩), .slice A N c] W fun e w' => AddsP W w' base g n0 G L e := by
  obtain ⟨⟨GA, gn, gc⟩, hG⟩ : ∃ s, G 14 = s := ⟨_, rfl⟩
  have y0 := (h.cell (j := 14) (by decide)).1
  rw [hG] at y0
  have HH := Lib.hid h
  have HG := Lib.hid hG
  have HL := Lib.hid hl
  have HP := Lib.hid hp
  have HR := Lib.hid hr
  have HS := Lib.hid hs
  have HS0 := Lib.hid hs0
  have HS14 := Lib.hid hs14
  have HB := Lib.hid hb
  have hfew : gn ≤ 300 := by have := h.few 14 (by decide); rw [hG] at this; exact this
  have HNb : Hid (∀ b, (⟨A, N, c⟩ : Sl).v.ownBlock = some b → n0 ≤ b) := Lib.hid fun b hb => (own_ge hr hb).1
  have HNs : Hid (∀ x ∈ ss, ∀ b, x.sl.v.ownBlock = some b → n0 ≤ b) := Lib.hid fun x hx b hb => (own_ge (hs x hx).body hb).1
  clear h hG hl hp hr hs hs0 hs14 hb
  dsimp only [Sl.v] at y0
  go_enter Tryz.func38, Tryz.ntmps38
  by_cases hlt : gn < 300
  · have hd : decide ((gn : Int) < 300) = true := decide_eq_true (by omega)
    have hbb : Below W.heap.size W (W.alloc (.cells #[.slice A N c] 87)) := (Below.refl _ _).alloc (Nat.le_refl _) _
    have HHb := Lib.hid (HH.out.later hbb)
    have hr := HHb.out.row 14 (by decide)
    rw [HG.out] at hr
    have HR1 := Lib.hid (show (W.alloc (.cells #[.slice A N c] 87)).ownsRow base 87 1 (.slice GA gn gc) gn (slv (L 14)) from hr)
    have HRd : Hid (Reads (W.alloc (.cells #[.slice A N c] 87)) (W.heap.size + 1) 1 (some ⟨W.heap.size, 0, none⟩) 1 [.slice A N c]) := Lib.hid (Reads.one_new _ _ _)
    have HLb := Lib.hid (own_kept (own_mono HR.out hbn) (Kept.of_new hbb (fun _ => False)) (fun _ _ h => h))
    have HW1 := Lib.hid hbb
    clear hr hbb
    go_wp2_with (at_builtin; go_must (refine wpList_app el_b14 rfl (.tmp 15) (.tmp 17) rfl HR1.out rfl HRd.out rfl (by simp [Value.oneCell']) (by simp only [maxLen]; omega) (by omega) (by have := HB.out; rw [World.size_alloc]; omega) ?_); intro v2 w2 ho2 hb2 hg2 hbl2; obtain ⟨s2A, s2c, hv2, -⟩ := (OwnW.of_own ho2).shape; subst hv2; have H2 := Lib.hid (And.intro ho2 (And.intro hg2 hbl2)); have hcc : w2.cell? ⟨g, 14, none⟩ = some (.slice GA gn gc) ∧ w2.frozen? ⟨g, 14, none⟩ = false := (by obtain ⟨C, hC, _, hc⟩ := HHb.out.blk; have hC2 : Blk w2 g 53 C := hC.grown hg2 (fun e => own_blk_ne HR1.out hC (by decide) e.symm); have h7 := hc 14 (by decide); rw [HG.out] at h7; exact ⟨(hC2.cell 14).trans h7, hC2.frozen 14⟩); clear ho2 hb2 hg2 hbl2; clear y0; have y0 := hcc.1; have f0 := hcc.2; clear hcc)
    have hadd := HHb.out.add (j := 14) (by decide) (by rw [HG.out]; exact hlt) (l := ⟨A, N, c⟩) (s2 := ⟨s2A, gn + 1, s2c⟩) HLb.out (by show N ≤ _; omega) (fun s hs b hb hb2 => by have h1 := HS14.out s hs b hb; have h2 := HNb.out b hb2; omega) (by rw [HG.out]; exact H2.out.1) (by rw [HG.out]) (by rw [HG.out]; exact H2.out.2.1) (by rw [HG.out]; exact H2.out.2.2)
    have hk3 : Kept (BagF g G) W (w2.setCell ⟨g, 14, none⟩ (.slice s2A (gn + 1) s2c)) := (Kept.of_new HW1.out (BagF g G)).trans hadd.2 (fun _ _ h => h)
    have HU : Hid (BagUp n0 W.heap.size G (updN G 14 ⟨s2A, gn + 1, s2c⟩) L (updN L 14 (L 14 ++ [⟨A, N, c⟩]))) := Lib.hid (by
      refine Added.up (j := 14) (l := ⟨A, N, c⟩) ⟨fun i hi => ⟨updN_ne _ _ hi, updN_ne _ _ hi⟩, .inr (updN_self _ _ _), fun b hb => ?_⟩ HNb.out
      rw [updN_self] at hb
      rcases H2.out.2.2 with e | e
      · left
        rw [HG.out]
        exact e.symm.trans hb
      · right
        have e2 := e.symm.trans hb
        injection e2 with e2
        rw [← e2, World.size_alloc]
        omega)
    have HN3 := Lib.hid hadd.1
    have HL0 : Hid ((updN L 14 (L 14 ++ [(⟨A, N, c⟩ : Sl)])) 0 = L 0) := Lib.hid (updN_ne _ _ (by decide))
    have HR3 := Lib.hid (own_kept (own_mono HR.out hbn) hk3 (HH.out.not_own HR.out (by decide) (fun j hj => bel_bty 14 j (by decide) hj)))
    have HO3 : Hid (∀ x ∈ ss, x.ok base (w2.setCell ⟨g, 14, none⟩ (.slice s2A (gn + 1) s2c))) := Lib.hid fun x hx => HH.out.keep_ok hk3 ((HS.out x hx).mono hbn)
    have HK3 := Lib.hid hk3
    clear y0 f0 hadd hk3 H2 HR1 HRd HLb HHb HW1
    have HOF : Hid (∀ j, j ≠ 0 → j ≠ 14 → (updN G 14 (⟨s2A, gn + 1, s2c⟩ : Sl)) j = G j ∧ (updN L 14 (L 14 ++ [(⟨A, N, c⟩ : Sl)])) j = L j) := Lib.hid fun j _ hj => ⟨updN_ne _ _ hj, updN_ne _ _ hj⟩
    generalize w2.setCell ⟨g, 14, none⟩ (.slice s2A (gn + 1) s2c) = w3 at *
    generalize updN G 14 (⟨s2A, gn + 1, s2c⟩ : Sl) = G3 at *
    generalize updN L 14 (L 14 ++ [(⟨A, N, c⟩ : Sl)]) = L3 at *
    go_loopw [4] (AdsR W base g n0 G L A N c ss) (fun iv _ => N - (intOf iv).toNat)
    case atStart => exact ⟨⟨0, G3, L3, rfl, Nat.zero_le _, HN3, Lib.hid ⟨HU.out, HOF.out⟩, Lib.hid fun t ht => (by rw [HL0.out] at ht; exact .inl ht)⟩, HK3, HR3, HO3⟩
    case round =>
      obtain ⟨⟨i, G', L', rfl, hi, hN', hU, hmem⟩, hk, hrow, hok⟩ := hrel
      generalize wr = wj at *
      by_cases hlt2 : i < N
      · have hd2 : decide ((i : Int) < N) = true := decide_eq_true (by omega)
        by_cases h300 : i < 300
        · have hd3 : decide ((i : Int) < 300) = true := decide_eq_true (by omega)
          obtain ⟨ad, x, hA, hadb, hxs, h00, h0j⟩ := rowG_at stL_len (Reads.of_own hrow.out) HL.out hlt2
          subst hA
          have HX := Lib.hid hxs
          have hxm := List.mem_of_getElem? hxs
          have q0 := h00 _ rfl; have q1 := h0j 1 _ (by decide) rfl; have q2 := h0j 2 _ (by decide) rfl; have q3 := h0j 3 _ (by decide) rfl; have q4 := h0j 4 _ (by decide) rfl; have q5 := h0j 5 _ (by decide) rfl; have q6 := h0j 6 _ (by decide) rfl; have q7 := h0j 7 _ (by decide) rfl; have q8 := h0j 8 _ (by decide) rfl
          have hnear : ∀ t ∈ L' 0, ∀ b, t.v.ownBlock = some b → x.b.ownBlock ≠ some b := by
            intro t ht b hb hxb
            rcases hmem.out t ht with h1 | ⟨y, hy, rfl⟩
            · have h2 := HS0.out t h1 b hb
              have h3 := HNs.out x hxm b hxb
              omega
            · obtain ⟨m, hm, hme⟩ := List.mem_iff_getElem.1 hy
              rw [List.length_take] at hm
              rw [List.getElem_take] at hme
              have hp := HP.out
              rw [List.pairwise_iff_getElem] at hp
              have hix := (List.getElem?_eq_some_iff.1 HX.out)
              have h4 := hp m i (by omega) hix.1 (by omega) b (by rw [hme]; exact hb)
              rw [hix.2] at h4
              exact h4 hxb
          have HAd := Lib.hid (addState_any wj base g G' L' hN'.out (Nat.le_trans HB.out hk.out.size) x (hok.out x hxm) hnear)
          have HXm := Lib.hid hxm
          clear h00 h0j hxs hxm hnear hadb
          go_wp2_with fail
          refine HAd.out.mono ?_
          rintro e w5 ⟨⟨v, rfl⟩, G5, L5, h1, h2, h3⟩
          have H5 := Lib.hid (And.intro h1 (And.intro h2 h3))
          clear h1 h2 h3 HAd q0 q1 q2 q3 q4 q5 q6 q7 q8
          go_wp2_with fail
          go_roundw
          case rel =>
            have hsz := hk.out.size
            have hu5 := Added.up (n0 := n0) H5.out.2.2 (HNs.out x HXm.out)
            refine ⟨⟨i + 1, G5, L5, by go_num, by omega, Lib.hid H5.out.1, Lib.hid ⟨hU.out.1.trans hu5 (Nat.le_refl _) hsz, fun j h0 h14 => ⟨((H5.out.2.2.oth j h0).1).trans (hU.out.2 j h0 h14).1, ((H5.out.2.2.oth j h0).2).trans (hU.out.2 j h0 h14).2⟩⟩, Lib.hid fun t ht => ?_⟩, Lib.hid (hk.out.trans H5.out.2.1 (fun b hb hF => hF.back hU.out.1 hb)), Lib.hid (own_kept hrow.out H5.out.2.1 (hN'.out.not_own hrow.out (by decide) (fun j hj => bel_bty 14 j (by decide) hj))), Lib.hid fun y hy => hN'.out.keep_ok H5.out.2.1 (hok.out y hy)⟩
            rw [take_one HX.out]
            rcases H5.out.2.2.self with e | e
            · rw [e] at ht
              exact (hmem.out t ht).imp id fun ⟨y, hy, e⟩ => ⟨y, List.mem_append_left _ hy, e⟩
            · rw [e] at ht
              rcases List.mem_append.1 ht with ht | ht
              · exact (hmem.out t ht).imp id fun ⟨y, hy, e⟩ => ⟨y, List.mem_append_left _ hy, e⟩
              · exact .inr ⟨x, List.mem_append_right _ (List.mem_singleton.2 rfl), List.mem_singleton.1 ht⟩
          case measure => simp [intOf]; omega
        · have hd3 : decide ((i : Int) < 300) = false := decide_eq_false (by omega)
          go_wp2_with fail
          go_end0
          exact ⟨⟨_, rfl⟩, G', L', hN'.out, hk.out, hU.out.1, hU.out.2⟩
      · have hd2 : decide ((i : Int) < N) = false := decide_eq_false (by omega)
        go_wp2_with fail
        go_end0
        exact ⟨⟨_, rfl⟩, G', L', hN'.out, hk.out, hU.out.1, hU.out.2⟩
  · have hd : decide ((gn : Int) < 300) = false := decide_eq_false (by omega)
    go_wp2_with fail
    have HU : Hid (BagUp n0 W.heap.size G G L L) := Lib.hid (BagUp.refl _ _ _ _)
    have HOF : Hid (∀ j, j ≠ 0 → j ≠ 14 → G j = G j ∧ L j = L j) := Lib.hid fun _ _ _ => ⟨rfl, rfl⟩
    have HN3 := HH
    have HL0 : Hid (L 0 = L 0) := rfl
    have HR3 := Lib.hid (own_mono HR.out hbn)
    have HO3 : Hid (∀ x ∈ ss, x.ok base W) := Lib.hid fun x hx => (HS.out x hx).mono hbn
    have HK3 : Hid (Kept (BagF g G) W W) := Lib.hid (Kept.refl _ _)
    clear y0
    go_loopw [4] (AdsR W base g n0 G L A N c ss) (fun iv _ => N - (intOf iv).toNat)
    case atStart => exact ⟨⟨0, G, L, rfl, Nat.zero_le _, HN3, Lib.hid ⟨HU.out, HOF.out⟩, Lib.hid fun t ht => (by rw [HL0.out] at ht; exact .inl ht)⟩, HK3, HR3, HO3⟩
    case round =>
      obtain ⟨⟨i, G', L', rfl, hi, hN', hU, hmem⟩, hk, hrow, hok⟩ := hrel
      generalize wr = wj at *
      by_cases hlt2 : i < N
      · have hd2 : decide ((i : Int) < N) = true := decide_eq_true (by omega)
        by_cases h300 : i < 300
        · have hd3 : decide ((i : Int) < 300) = true := decide_eq_true (by omega)
          obtain ⟨ad, x, hA, hadb, hxs, h00, h0j⟩ := rowG_at stL_len (Reads.of_own hrow.out) HL.out hlt2
          subst hA
          have HX := Lib.hid hxs
          have hxm := List.mem_of_getElem? hxs
          have q0 := h00 _ rfl; have q1 := h0j 1 _ (by decide) rfl; have q2 := h0j 2 _ (by decide) rfl; have q3 := h0j 3 _ (by decide) rfl; have q4 := h0j 4 _ (by decide) rfl; have q5 := h0j 5 _ (by decide) rfl; have q6 := h0j 6 _ (by decide) rfl; have q7 := h0j 7 _ (by decide) rfl; have q8 := h0j 8 _ (by decide) rfl
          have hnear : ∀ t ∈ L' 0, ∀ b, t.v.ownBlock = some b → x.b.ownBlock ≠ some b := by
            intro t ht b hb hxb
            rcases hmem.out t ht with h1 | ⟨y, hy, rfl⟩
            · have h2 := HS0.out t h1 b hb
              have h3 := HNs.out x hxm b hxb
              omega
            · obtain ⟨m, hm, hme⟩ := List.mem_iff_getElem.1 hy
              rw [List.length_take] at hm
              rw [List.getElem_take] at hme
              have hp := HP.out
              rw [List.pairwise_iff_getElem] at hp
              have hix := (List.getElem?_eq_some_iff.1 HX.out)
              have h4 := hp m i (by omega) hix.1 (by omega) b (by rw [hme]; exact hb)
              rw [hix.2] at h4
              exact h4 hxb
          have HAd := Lib.hid (addState_any wj base g G' L' hN'.out (Nat.le_trans HB.out hk.out.size) x (hok.out x hxm) hnear)
          have HXm := Lib.hid hxm
          clear h00 h0j hxs hxm hnear hadb
          go_wp2_with fail
          refine HAd.out.mono ?_
          rintro e w5 ⟨⟨v, rfl⟩, G5, L5, h1, h2, h3⟩
          have H5 := Lib.hid (And.intro h1 (And.intro h2 h3))
          clear h1 h2 h3 HAd q0 q1 q2 q3 q4 q5 q6 q7 q8
          go_wp2_with fail
          go_roundw
          case rel =>
            have hsz := hk.out.size
            have hu5 := Added.up (n0 := n0) H5.out.2.2 (HNs.out x HXm.out)
            refine ⟨⟨i + 1, G5, L5, by go_num, by omega, Lib.hid H5.out.1, Lib.hid ⟨hU.out.1.trans hu5 (Nat.le_refl _) hsz, fun j h0 h14 => ⟨((H5.out.2.2.oth j h0).1).trans (hU.out.2 j h0 h14).1, ((H5.out.2.2.oth j h0).2).trans (hU.out.2 j h0 h14).2⟩⟩, Lib.hid fun t ht => ?_⟩, Lib.hid (hk.out.trans H5.out.2.1 (fun b hb hF => hF.back hU.out.1 hb)), Lib.hid (own_kept hrow.out H5.out.2.1 (hN'.out.not_own hrow.out (by decide) (fun j hj => bel_bty 14 j (by decide) hj))), Lib.hid fun y hy => hN'.out.keep_ok H5.out.2.1 (hok.out y hy)⟩
            rw [take_one HX.out]
            rcases H5.out.2.2.self with e | e
            · rw [e] at ht
              exact (hmem.out t ht).imp id fun ⟨y, hy, e⟩ => ⟨y, List.mem_append_left _ hy, e⟩
            · rw [e] at ht
              rcases List.mem_append.1 ht with ht | ht
              · exact (hmem.out t ht).imp id fun ⟨y, hy, e⟩ => ⟨y, List.mem_append_left _ hy, e⟩
              · exact .inr ⟨x, List.mem_append_right _ (List.mem_singleton.2 rfl), List.mem_singleton.1 ht⟩
          case measure => simp [intOf]; omega
        · have hd3 : decide ((i : Int) < 300) = false := decide_eq_false (by omega)
          go_wp2_with fail
          go_end0
          exact ⟨⟨_, rfl⟩, G', L', hN'.out, hk.out, hU.out.1, hU.out.2⟩
      · have hd2 : decide ((i : Int) < N) = false := decide_eq_false (by omega)
        go_wp2_with fail
        go_end0
        exact ⟨⟨_, rfl⟩, G', L', hN'.out, hk.out, hU.out.1, hU.out.2⟩
end Go.Proofs.YtpncbggjngamgaaGreatDoor
namespace Go.Proofs.YtpncbggjngamgaaGreatDoor
set_option linter.unusedVariables false
open Go.RowKit

/-- The program's store and the reference's, that hold the same. -/
structure PairS (base : Nat) (w : World) (g bm : Nat) (most : Int) (f : Ky3 → Option OneE) (N gd : Nat) (v : Value) (xs : List OneE) : Prop where
  q : StF w g bm most f N
  own : ∀ k x, f k = some x → x.s.ok base w
  r : RfS base w gd v most xs
  l : Link f xs
  n : N = xs.length
  lim : (N : Int) ≤ most ∧ most ≤ 4096
  hbm : base ≤ bm
  hgd : base ≤ gd
/-- What is written of them. -/
def PairF (bm gd : Nat) (v : Value) (b : Nat) : Prop := b = bm ∨ b = gd ∨ v.ownBlock = some b
section
variable {base : Nat} {w w' : World} {g bm : Nat} {most : Int} {f : Ky3 → Option OneE} {N gd : Nat} {v : Value} {xs : List OneE} {gb bb : Nat} {G : Nat → Sl} {L : Nat → List Sl} {R : Nat → Prop}
theorem PairS.kept (h : PairS base w g bm most f N gd v xs) (k : Kept R w w') (h1 : ¬ R g) (h2 : ¬ R bm) (h3 : ¬ R gd) (h4 : ∀ b, v.ownBlock = some b → ¬ R b) (h5 : ∀ k x, f k = some x → ∀ b, x.s.b.ownBlock = some b → ¬ R b) (h6 : ∀ x ∈ xs, ∀ b, x.s.b.ownBlock = some b → ¬ R b) : PairS base w' g bm most f N gd v xs := by
  have ho : ∀ k x, f k = some x → x.s.ok base w' := fun k' x hx => by
    have h0 := h.own k' x hx
    exact ⟨h0.head, own_kept h0.body k (h5 k' x hx), h0.oct, h0.len⟩
  refine ⟨⟨h.q.blk.kept k h1, h.q.map.kept k h2, fun k' x hx => ⟨(h.q.good k' x hx).1, (ho k' x hx).rd, (h.q.good k' x hx).2.2⟩⟩, ho, ⟨h.r.blk.kept k h3, own_kept h.r.row k h4, fun x hx => ?_⟩, h.l, h.n, h.lim, h.hbm, h.hgd⟩
  have h0 := h.r.own x hx
  exact ⟨⟨h0.1.head, own_kept h0.1.body k (h6 x hx), h0.1.oct, h0.1.len⟩, h0.2⟩
theorem PairS.later (h : PairS base w g bm most f N gd v xs) (hb : Below w.heap.size w w') : PairS base w' g bm most f N gd v xs :=
  h.kept (Kept.of_new hb (fun _ => False)) (fun h => h) (fun h => h) (fun h => h) (fun _ _ h => h) (fun _ _ _ _ _ h => h) (fun _ _ _ _ h => h)
theorem bty_st : ∀ j, j < 19 → bty j ≠ 79 := by decide
theorem bty_rst : ∀ j, j < 19 → bty j ≠ 31 := by decide
theorem bty_one : ∀ j, j < 19 → bty j ≠ 108 := by decide
theorem bel_st : ∀ j, j < 19 → bel j ≠ 79 := by decide
theorem bel_rst : ∀ j, j < 19 → bel j ≠ 31 := by decide
theorem bel_one : ∀ j, j < 19 → bel j ≠ 108 := by decide
theorem bel_state_key : (5 ≠ 79) ∧ (5 ≠ 31) ∧ (5 ≠ 108) := by decide
theorem BagN.not_map {F : Ky3 → Option Value} {n : Nat} (h : BagN w bb gb G L) (hm : MapF keyV w bm F n) : ¬ BagF gb G bm := by
  intro hF
  rcases hF with e | ⟨j, hj, hF⟩
  · obtain ⟨C, hC, _⟩ := h.blk
    exact hm.ne_blk hC e
  · exact own_ne_mapF (h.row j hj) hm bm hF rfl
/-- The stores stand while the bag is written. -/
theorem PairS.bag (h : PairS base w g bm most f N gd v xs) (hb : BagN w bb gb G L) (k : Kept (BagF gb G) w w') : PairS base w' g bm most f N gd v xs :=
  h.kept k (hb.not_blk h.q.blk (by decide) bty_st) (hb.not_map h.q.map) (hb.not_blk h.r.blk (by decide) bty_rst) (hb.not_own h.r.row (by decide) (fun j hj e => bty_one j hj e.symm))
    (fun k' x hx => hb.not_own (h.own k' x hx).body (by decide) (fun j hj => bel_bty 0 j (by decide) hj)) (fun x hx => hb.not_own (h.r.own x hx).1.body (by decide) (fun j hj => bel_bty 0 j (by decide) hj))
/-- The bag stands while the program's map is written. -/
theorem BagN.map {F : Ky3 → Option Value} {n : Nat} (h : BagN w bb gb G L) (hm : MapF keyV w bm F n) (k : Kept (fun b => b = bm) w w') : BagN w' bb gb G L := by
  refine h.kept k (fun e => ?_) (fun j hj b hb => own_ne_mapF (h.row j hj) hm b hb) (fun j hj s hs b hb => ?_)
  · obtain ⟨C, hC, _⟩ := h.blk
    exact hm.ne_blk hC e.symm
  · obtain ⟨ys, hy⟩ := h.has j hj s hs
    exact own_ne_mapF hy hm b hb
/-- The bag stands while the reference's store is written. -/
theorem BagN.ref (h : BagN w bb gb G L) (q : RfS base w gd v most xs) (k : Kept (fun b => b = gd ∨ v.ownBlock = some b) w w') : BagN w' bb gb G L := by
  refine h.kept k (fun e => ?_) (fun j hj b hb e => ?_) (fun j hj s hs b hb e => ?_)
  · obtain ⟨C, hC, _⟩ := h.blk
    rcases e with e | e
    · exact blk_ne hC q.blk (by decide) e
    · exact own_blk_ne q.row hC (by decide) e
  · rcases e with e | e
    · exact own_blk_ne (h.row j hj) q.blk (bty_rst j hj) (e ▸ hb)
    · exact own_ne (h.row j hj) q.row (bty_one j hj) b hb e
  · obtain ⟨ys, hy⟩ := h.has j hj s hs
    rcases e with e | e
    · exact own_blk_ne hy q.blk (bel_rst j hj) (e ▸ hb)
    · exact own_ne hy q.row (bel_one j hj) b hb e
/-- The program's store stands while the reference's is written. -/
theorem StF.ref (h : StF w g bm most f N) (ho : ∀ k x, f k = some x → x.s.ok base w) (q : RfS bb w gd v most xs) (k : Kept (fun b => b = gd ∨ v.ownBlock = some b) w w') : StF w' g bm most f N ∧ ∀ k x, f k = some x → x.s.ok base w' := by
  have ho' : ∀ k x, f k = some x → x.s.ok base w' := fun k' x hx => by
    have h0 := ho k' x hx
    refine ⟨h0.head, own_kept h0.body k (fun b hb e => ?_), h0.oct, h0.len⟩
    rcases e with e | e
    · exact own_blk_ne h0.body q.blk (by decide) (e ▸ hb)
    · exact own_ne h0.body q.row (by decide) b hb e
  refine ⟨⟨h.blk.kept k (fun e => ?_), h.map.kept k (fun e => ?_), fun k' x hx => ⟨(h.good k' x hx).1, (ho' k' x hx).rd, (h.good k' x hx).2.2⟩⟩, ho'⟩
  · rcases e with e | e
    · exact blk_ne h.blk q.blk (by decide) e
    · exact own_blk_ne q.row h.blk (by decide) e
  · rcases e with e | e
    · exact h.map.ne_blk q.blk e
    · exact own_ne_mapF q.row h.map bm e rfl
/-- The reference's store stands while the program's map is written. -/
theorem RfS.map {F : Ky3 → Option Value} {n : Nat} (h : RfS base w gd v most xs) (hm : MapF keyV w bm F n) (k : Kept (fun b => b = bm) w w') : RfS base w' gd v most xs :=
  ⟨h.blk.kept k (fun e => hm.ne_blk h.blk e.symm), own_kept h.row k (fun b hb => own_ne_mapF h.row hm b hb), fun x hx => ⟨⟨(h.own x hx).1.head, own_kept (h.own x hx).1.body k (fun b hb => own_ne_mapF (h.own x hx).1.body hm b hb), (h.own x hx).1.oct, (h.own x hx).1.len⟩, (h.own x hx).2⟩⟩
end
/-- No body of a store lies in the bag's rows of bytes. -/
def Dj (f : Ky3 → Option OneE) (xs : List OneE) (L0 : List Sl) : Prop := ∀ s ∈ L0, ∀ b, s.v.ownBlock = some b → (∀ k x, f k = some x → x.s.b.ownBlock ≠ some b) ∧ ∀ x ∈ xs, x.s.b.ownBlock ≠ some b
/-- Both stores and the bag. -/
structure PB (base : Nat) (w : World) (g bm : Nat) (most : Int) (f : Ky3 → Option OneE) (N gd : Nat) (v : Value) (xs : List OneE) (gb : Nat) (G : Nat → Sl) (L : Nat → List Sl) : Prop where
  p : PairS base w g bm most f N gd v xs
  b : BagN w base gb G L
  dj : Dj f xs (L 0)
  hgb : base ≤ gb
theorem PB.later {base : Nat} {w w' : World} {g bm : Nat} {most : Int} {f : Ky3 → Option OneE} {N gd : Nat} {v : Value} {xs : List OneE} {gb : Nat} {G : Nat → Sl} {L : Nat → List Sl} (h : PB base w g bm most f N gd v xs gb G L) (hb : Below w.heap.size w w') : PB base w' g bm most f N gd v xs gb G L :=
  ⟨h.p.later hb, h.b.later hb, h.dj, h.hgb⟩
theorem PB.base_le {base : Nat} {w : World} {g bm : Nat} {most : Int} {f : Ky3 → Option OneE} {N gd : Nat} {v : Value} {xs : List OneE} {gb : Nat} {G : Nat → Sl} {L : Nat → List Sl} (h : PB base w g bm most f N gd v xs gb G L) : base ≤ w.heap.size := by
  have := h.hgb
  have := h.b.lt
  omega
/-- What a call of both leaves. -/
structure OneR (base : Nat) (w w' : World) (g bm : Nat) (most : Int) (f : Ky3 → Option OneE) (N gd : Nat) (v : Value) (xs : List OneE) (gb : Nat) (G : Nat → Sl) (L : Nat → List Sl) (f' : Ky3 → Option OneE) (N' : Nat) (v' : Value) (xs' : List OneE) (G' : Nat → Sl) (L' : Nat → List Sl) : Prop where
  h : PB base w' g bm most f' N' gd v' xs' gb G' L'
  k : Kept (fun b => PairF bm gd v b ∨ BagF gb G b) w w'
  vb : ∀ b, v'.ownBlock = some b → v.ownBlock = some b ∨ w.heap.size ≤ b
  up : BagUp w.heap.size w.heap.size G G' L L'
  oth : ∀ j, j ≠ 0 → G' j = G j
def OneP (base : Nat) (w w' : World) (g bm : Nat) (most : Int) (f : Ky3 → Option OneE) (N gd : Nat) (v : Value) (xs : List OneE) (gb : Nat) (G : Nat → Sl) (L : Nat → List Sl) (e : Ending) : Prop :=
  e = .returned (.bool true) ∧ ∃ f' N' v' xs' G' L', OneR base w w' g bm most f N gd v xs gb G L f' N' v' xs' G' L'
section
variable {base : Nat} {w w1 w2 : World} {g bm : Nat} {most : Int} {f : Ky3 → Option OneE} {N gd : Nat} {v : Value} {xs : List OneE} {gb : Nat} {G : Nat → Sl} {L : Nat → List Sl}
theorem PB.lt8 (h : PB base w g bm most f N gd v xs gb G L) : (∀ k x, f k = some x → ∀ b, x.s.b.ownBlock = some b → b < w.heap.size) ∧ (∀ x ∈ xs, ∀ b, x.s.b.ownBlock = some b → b < w.heap.size) ∧ ∀ s ∈ L 0, ∀ b, s.v.ownBlock = some b → b < w.heap.size :=
  ⟨fun k x hx b hb => (own_ge (h.p.own k x hx).body hb).2, fun x hx b hb => (own_ge (h.p.r.own x hx).1.body hb).2, fun s hs b hb => by obtain ⟨ys, hy⟩ := h.b.has 0 (by decide) s hs; exact (own_ge hy hb).2⟩
/-- Nothing was done. -/
theorem PB.same (h : PB base w g bm most f N gd v xs gb G L) (hb : Below w.heap.size w w2) : OneP base w w2 g bm most f N gd v xs gb G L (.returned (.bool true)) :=
  ⟨rfl, f, N, v, xs, G, L, h.later hb, Kept.of_new hb _, fun b hb => .inl hb, BagUp.refl _ _ _ _, fun _ _ => rfl⟩
end
section
variable {base : Nat} {w w1 w2 : World} {g bm : Nat} {most : Int} {f : Ky3 → Option OneE} {N gd : Nat} {v : Value} {xs : List OneE} {gb : Nat} {G : Nat → Sl} {L : Nat → List Sl} {f' : Ky3 → Option OneE} {N' : Nat} {v' : Value} {xs' : List OneE} {G' : Nat → Sl} {L' : Nat → List Sl}
theorem OneR.later (h : OneR base w w1 g bm most f N gd v xs gb G L f' N' v' xs' G' L') (hb : Below w1.heap.size w1 w2) : OneR base w w2 g bm most f N gd v xs gb G L f' N' v' xs' G' L' :=
  ⟨h.h.later hb, h.k.trans (Kept.of_new hb (fun _ => False)) (fun _ _ e => e.elim), h.vb, h.up, h.oth⟩
theorem bty_u8 : ∀ j, j < 19 → bty j ≠ 5 := by decide
theorem bel_u8 : ∀ j, j < 19 → j ≠ 0 → bel j ≠ 5 := by decide
/-- The marks on the bytes that were handed in are no matter to the stores. -/
theorem OneR.marked {gi : Nat} {cs : Array Value} (h : OneR base w w1 g bm most f N gd v xs gb G L f' N' v' xs' G' L') (k : Kept (fun b => b = gi) w1 w2) (hB : Blk w1 gi 5 cs)
    (hn : (∀ k x, f' k = some x → ∀ b, x.s.b.ownBlock = some b → b ≠ gi) ∧ (∀ x ∈ xs', ∀ b, x.s.b.ownBlock = some b → b ≠ gi) ∧ ∀ s ∈ L' 0, ∀ b, s.v.ownBlock = some b → b ≠ gi) (hg : w.heap.size ≤ gi) :
    OneR base w w2 g bm most f N gd v xs gb G L f' N' v' xs' G' L' := by
  refine ⟨⟨h.h.p.kept k (blk_ne h.h.p.q.blk hB (by decide)) (h.h.p.q.map.ne_blk hB) (blk_ne h.h.p.r.blk hB (by decide)) (fun b hb e => own_blk_ne h.h.p.r.row hB (by decide) (e ▸ hb)) hn.1 hn.2.1, h.h.b.kept k ?_ (fun j hj b hb e => own_blk_ne (h.h.b.row j hj) hB (bty_u8 j hj) (e ▸ hb)) (fun j hj s hs b hb e => ?_), h.h.dj, h.h.hgb⟩, h.k.trans k (fun b hb e => absurd e (by omega)), h.vb, h.up, h.oth⟩
  · obtain ⟨C, hC, _⟩ := h.h.b.blk
    exact blk_ne hC hB (by decide)
  · by_cases hj0 : j = 0
    · subst hj0
      exact hn.2.2 s hs b hb e
    · obtain ⟨ys, hy⟩ := h.h.b.has j hj s hs
      exact own_blk_ne hy hB (bel_u8 j hj hj0) (e ▸ hb)
theorem Link.iso {f : Ky3 → Option OneE} {xs : List OneE} (l : Link f xs) (k : Ky3) : (f k).isSome = (rowAt xs k).isSome := by
  cases hr : rowAt xs k with
  | none => rw [l.none_ hr]
  | some x => obtain ⟨z, hz, _⟩ := l.some_ hr; rw [hz]; rfl
end
end Go.Proofs.YtpncbggjngamgaaGreatDoor
