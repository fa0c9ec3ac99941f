/-
  EqState; how states and rows of Op come in. Printed by gen_ste.py out of XPk0.
  lodestarlaw11's heavy and filled. Printed by gen_sto11.py.
  What a store tells at a time, by the keys in order: the laws of Stp turned to keys. No program in sight.
  One state that gets older: lives. Printed by gen_sto10.py.
  EqKeys; keys of a row; what order.Keys answers of keys in order. Printed by gen_eqk.py.
  StoreAges' walk. Printed by gen_sto13.py.
  The reference's store in memory: a row of states with their times; find. Printed by gen_rst3.py.
  The reference's store: Len, When, Get. Printed by gen_rst4.py.
-/
import Derived.Test.YtpncbggjngamgaaGreatDoorCA03
import Derived.Test.YtpncbggjngamgaaGreatDoorCA02
import Derived.ChangeArms
import Derived.WideShapes
import Derived.OpenShut
import Derived.SizedLaws
import Derived.Test.YtpncbggjngamgaaGreatDoorCA06
namespace Go.Proofs.YtpncbggjngamgaaGreatDoor
set_option linter.unusedVariables false
open Go.RowKit Go.ChangeShapes Go.WideShapes
set_option maxRecDepth 100000

theorem hd_fields : (Tryz.prog.fieldsOf 58).toList = [{ name := "Age", type := 55, offset := 0, embedded := false, tag := "", pkgPath := "", byteOffset := 0 }, { name := "Opts", type := 5, offset := 1, embedded := false, tag := "", pkgPath := "", byteOffset := 2 }, { name := "Type", type := 5, offset := 2, embedded := false, tag := "", pkgPath := "", byteOffset := 3 }, { name := "ID", type := 56, offset := 3, embedded := false, tag := "", pkgPath := "", byteOffset := 4 }, { name := "Adv", type := 56, offset := 4, embedded := false, tag := "", pkgPath := "", byteOffset := 8 }, { name := "Seq", type := 21, offset := 5, embedded := false, tag := "", pkgPath := "", byteOffset := 12 }, { name := "Sum", type := 55, offset := 6, embedded := false, tag := "", pkgPath := "", byteOffset := 16 }, { name := "Len", type := 55, offset := 7, embedded := false, tag := "", pkgPath := "", byteOffset := 18 }] := by kernel_rfl
def eqHd (a b : Hd) : Bool := decide (a.age = b.age) && decide (a.opts = b.opts) && decide (a.typ = b.typ) && decide (a.id = b.id) && decide (a.adv = b.adv) && decide (a.seq = b.seq) && decide (a.sum = b.sum) && decide (a.len = b.len)
theorem eqHd_iff (a b : Hd) : eqHd a b = true ↔ a = b := by
  obtain ⟨a1, a2, a3, a4, a5, a6, a7, a8⟩ := a
  obtain ⟨b1, b2, b3, b4, b5, b6, b7, b8⟩ := b
  unfold eqHd
  simp [and_assoc]
theorem hd_eq (a b : Hd) (w : World) : (Op.equalIn 10000 58 (.agg #[.int .u16 a.age, .int .u8 a.opts, .int .u8 a.typ, .int .u32 a.id, .int .u32 a.adv, .int .i32 a.seq, .int .u16 a.sum, .int .u16 a.len]) (.agg #[.int .u16 b.age, .int .u8 b.opts, .int .u8 b.typ, .int .u32 b.id, .int .u32 b.adv, .int .i32 b.seq, .int .u16 b.sum, .int .u16 b.len])).run Tryz.prog w = .ok (eqHd a b) w := by
  obtain ⟨a1, a2, a3, a4, a5, a6, a7, a8⟩ := a
  obtain ⟨b1, b2, b3, b4, b5, b6, b7, b8⟩ := b
  rw [show (10000 : Nat) = 9999 + 1 from rfl, run_equalIn_agg w 9999 58 _ _ (by kernel_rfl) (by kernel_rfl), hd_fields]
  unfold eqHd
  go_simp
  by_cases h1 : a1 = b1
  · by_cases h2 : a2 = b2
    · by_cases h3 : a3 = b3
      · by_cases h4 : a4 = b4
        · by_cases h5 : a5 = b5
          · by_cases h6 : a6 = b6
            · by_cases h7 : a7 = b7 <;> by_cases h8 : a8 = b8 <;> simp [h1, h2, h3, h4, h5, h6, h7, h8]
            · simp [h1, h2, h3, h4, h5, h6]
          · simp [h1, h2, h3, h4, h5]
        · simp [h1, h2, h3, h4]
      · simp [h1, h2, h3]
    · simp [h1, h2]
  · simp [h1]
def eqS (s t : SE) : Bool := eqHd s.h t.h && decide (s.B = t.B)
set_option maxRecDepth 100000 in
set_option maxHeartbeats 4000000 in
theorem eqState_any (s t : SE) (w : World) (hs : s.rd w) (ht : t.rd w) : Calls Tryz.prog 20 #[s.v, t.v] w fun e w' => e = .returned (.bool (eqS s t)) ∧ Below w.heap.size w w' := by
  obtain ⟨h, A, n, c, X⟩ := s
  obtain ⟨k, A2, n2, c2, Y⟩ := t
  have X1 : Hid (Blk ((w.alloc (.cells (stC h A n c) 61)).alloc (.cells (stC k A2 n2 c2) 61)) w.heap.size 61 (stC h A n c)) := Lib.hid ((Blk.new _ _ _).alloc _)
  have X2 : Hid (Blk ((w.alloc (.cells (stC h A n c) 61)).alloc (.cells (stC k A2 n2 c2) 61)) (w.heap.size + 1) 61 (stC k A2 n2 c2)) := new_at _ _ _
  have HW : Hid (Below w.heap.size w ((w.alloc (.cells (stC h A n c) 61)).alloc (.cells (stC k A2 n2 c2) 61))) := below_two _ _ _
  have HD := Lib.hid (fun (W : World) (hW : Below w.heap.size w W) => eqBytes_any A A2 n c n2 c2 X Y W _ _ (hs.body.later hW) (ht.body.later hW) (by have := hs.len; simp only at this; omega) (by have := ht.len; simp only at this; omega))
  clear hs ht
  obtain ⟨a0, a1, a2, a3, a4, a5, a6, a7, a8⟩ := stC_facts X1.out
  obtain ⟨b0, b1, b2, b3, b4, b5, b6, b7, b8⟩ := stC_facts X2.out
  show Calls Tryz.prog 20 #[stV h A n c, stV k A2 n2 c2] w _
  have hz : eqS ⟨h, A, n, c, X⟩ ⟨k, A2, n2, c2, Y⟩ = (eqHd h k && decide (X = Y)) := rfl
  generalize decide (X = Y) = dd at *
  obtain ⟨dh, hdh⟩ : ∃ dh, eqHd h k = dh := ⟨_, rfl⟩
  have hq : ∀ W : World, (Op.equalIn 10000 58 (.agg #[.int .u16 h.age, .int .u8 h.opts, .int .u8 h.typ, .int .u32 h.id, .int .u32 h.adv, .int .i32 h.seq, .int .u16 h.sum, .int .u16 h.len]) (.agg #[.int .u16 k.age, .int .u8 k.opts, .int .u8 k.typ, .int .u32 k.id, .int .u32 k.adv, .int .i32 k.seq, .int .u16 k.sum, .int .u16 k.len])).run Tryz.prog W = .ok dh W := fun W => by rw [hd_eq, hdh]
  rw [hdh] at hz
  clear hdh
  cases dh
  · go_enter Tryz.func20, Tryz.ntmps20
    unfold stC at *
    go_wp2_with fail
    go_ret
    exact ⟨by rw [hz]; try rfl, HW.out⟩
  · go_enter Tryz.func20, Tryz.ntmps20
    unfold stC at *
    go_wp2_with fail
    refine (HD.out _ HW.out).mono ?_
    rintro e w1 ⟨rfl, q, rfl⟩
    go_wp2_with fail
    go_ret
    exact ⟨by rw [hz]; try rfl, below_drewN HW.out q⟩
set_option maxRecDepth 100000 in
theorem head_of {H : Type} {enc : TypeId × Value → H} {w : World} {held : Bool} (fuel : Nat) (cs : List Value) (x : DataW H × List MemPlace) (h : DataW.trod enc Tryz.prog w 0 (fun _ => true) held fuel 58 cs = some x) :
    ∃ h : Hd, cs = h.cells ∧ h.ok ∧ ((∀ N ∈ x.1.weights Tryz.prog 58, N ≤ reachBytes) → True) := by
  obtain ⟨xs, n, _, hxw, hl, hxl, hf⟩ := DataW.trod_struct Tryz.underlying58 h
  have hC : Tryz.prog.cellsOf 58 = 8 := by kernel_rfl
  rw [hC] at hl
  match cs, hl, xs, hxl with
  | [c0, c1, c2, c3, c4, c5, c6, c7], _, [y0, y1, y2, y3, y4, y5, y6, y7], _ =>
    have g0 : DataW.trod enc Tryz.prog w 0 (fun _ => true) held n 55 (([c0, c1, c2, c3, c4, c5, c6, c7].drop 0).take (Tryz.prog.cellsOf 55)) = some y0 := hf 0 _ rfl
    rw [show Tryz.prog.cellsOf 55 = 1 from by kernel_rfl] at g0
    replace g0 : DataW.trod enc Tryz.prog w 0 (fun _ => true) held n 55 [c0] = some y0 := g0
    have g1 : DataW.trod enc Tryz.prog w 0 (fun _ => true) held n 5 (([c0, c1, c2, c3, c4, c5, c6, c7].drop 1).take (Tryz.prog.cellsOf 5)) = some y1 := hf 1 _ rfl
    rw [show Tryz.prog.cellsOf 5 = 1 from by kernel_rfl] at g1
    replace g1 : DataW.trod enc Tryz.prog w 0 (fun _ => true) held n 5 [c1] = some y1 := g1
    have g2 : DataW.trod enc Tryz.prog w 0 (fun _ => true) held n 5 (([c0, c1, c2, c3, c4, c5, c6, c7].drop 2).take (Tryz.prog.cellsOf 5)) = some y2 := hf 2 _ rfl
    rw [show Tryz.prog.cellsOf 5 = 1 from by kernel_rfl] at g2
    replace g2 : DataW.trod enc Tryz.prog w 0 (fun _ => true) held n 5 [c2] = some y2 := g2
    have g3 : DataW.trod enc Tryz.prog w 0 (fun _ => true) held n 56 (([c0, c1, c2, c3, c4, c5, c6, c7].drop 3).take (Tryz.prog.cellsOf 56)) = some y3 := hf 3 _ rfl
    rw [show Tryz.prog.cellsOf 56 = 1 from by kernel_rfl] at g3
    replace g3 : DataW.trod enc Tryz.prog w 0 (fun _ => true) held n 56 [c3] = some y3 := g3
    have g4 : DataW.trod enc Tryz.prog w 0 (fun _ => true) held n 56 (([c0, c1, c2, c3, c4, c5, c6, c7].drop 4).take (Tryz.prog.cellsOf 56)) = some y4 := hf 4 _ rfl
    rw [show Tryz.prog.cellsOf 56 = 1 from by kernel_rfl] at g4
    replace g4 : DataW.trod enc Tryz.prog w 0 (fun _ => true) held n 56 [c4] = some y4 := g4
    have g5 : DataW.trod enc Tryz.prog w 0 (fun _ => true) held n 21 (([c0, c1, c2, c3, c4, c5, c6, c7].drop 5).take (Tryz.prog.cellsOf 21)) = some y5 := hf 5 _ rfl
    rw [show Tryz.prog.cellsOf 21 = 1 from by kernel_rfl] at g5
    replace g5 : DataW.trod enc Tryz.prog w 0 (fun _ => true) held n 21 [c5] = some y5 := g5
    have g6 : DataW.trod enc Tryz.prog w 0 (fun _ => true) held n 55 (([c0, c1, c2, c3, c4, c5, c6, c7].drop 6).take (Tryz.prog.cellsOf 55)) = some y6 := hf 6 _ rfl
    rw [show Tryz.prog.cellsOf 55 = 1 from by kernel_rfl] at g6
    replace g6 : DataW.trod enc Tryz.prog w 0 (fun _ => true) held n 55 [c6] = some y6 := g6
    have g7 : DataW.trod enc Tryz.prog w 0 (fun _ => true) held n 55 (([c0, c1, c2, c3, c4, c5, c6, c7].drop 7).take (Tryz.prog.cellsOf 55)) = some y7 := hf 7 _ rfl
    rw [show Tryz.prog.cellsOf 55 = 1 from by kernel_rfl] at g7
    replace g7 : DataW.trod enc Tryz.prog w 0 (fun _ => true) held n 55 [c7] = some y7 := g7
    obtain ⟨a0, e0, _, w0⟩ := DataW.trod_int Tryz.underlying55 g0
    injection e0 with e0 _; subst e0
    have b0 := bounds_u16 w0
    obtain ⟨a1, e1, _, w1⟩ := DataW.trod_int Tryz.underlying5 g1
    injection e1 with e1 _; subst e1
    have b1 := bounds_u8 w1
    obtain ⟨a2, e2, _, w2⟩ := DataW.trod_int Tryz.underlying5 g2
    injection e2 with e2 _; subst e2
    have b2 := bounds_u8 w2
    obtain ⟨a3, e3, _, w3⟩ := DataW.trod_int Tryz.underlying56 g3
    injection e3 with e3 _; subst e3
    have b3 := bounds_u32 w3
    obtain ⟨a4, e4, _, w4⟩ := DataW.trod_int Tryz.underlying56 g4
    injection e4 with e4 _; subst e4
    have b4 := bounds_u32 w4
    obtain ⟨a5, e5, _, w5⟩ := DataW.trod_int Tryz.underlying21 g5
    injection e5 with e5 _; subst e5
    have b5 := bounds_i32 w5
    obtain ⟨a6, e6, _, w6⟩ := DataW.trod_int Tryz.underlying55 g6
    injection e6 with e6 _; subst e6
    have b6 := bounds_u16 w6
    obtain ⟨a7, e7, _, w7⟩ := DataW.trod_int Tryz.underlying55 g7
    injection e7 with e7 _; subst e7
    have b7 := bounds_u16 w7
    exact ⟨⟨a0, a1, a2, a3, a4, a5, a6, a7⟩, rfl, ⟨b0, b1, b2, b3, b4, b5, b6, b7⟩, fun _ => trivial⟩
/-- A state as it comes in. -/
structure SArg (w : World) (s : SE) : Prop where
  head : s.h.ok
  body : Reads w w.heap.size 1 s.A s.n (u8s s.B)
  oct : Oct s.B
  cap : s.n ≤ s.c ∧ s.c ≤ 9223372036854775807
theorem SArg.later {w w' : World} {s : SE} (h : SArg w s) (hb : Below w.heap.size w w') : SArg w' s := ⟨h.head, h.body.later hb, h.oct, h.cap⟩
theorem SArg.rd {w : World} {s : SE} (h : SArg w s) (hn : s.n ≤ 1099511627776) : s.rd w := ⟨h.head, h.body, h.oct, h.cap, hn⟩
def SE.cells (s : SE) : List Value := [.int .u16 s.h.age, .int .u8 s.h.opts, .int .u8 s.h.typ, .int .u32 s.h.id, .int .u32 s.h.adv, .int .i32 s.h.seq, .int .u16 s.h.sum, .int .u16 s.h.len, .slice s.A s.n s.c]
theorem st_len (s : SE) : s.cells.length = 9 := rfl
set_option maxRecDepth 100000 in
theorem state_of {H : Type} {enc : TypeId × Value → H} {w : World} {held : Bool} (fuel : Nat) (cs : List Value) (x : DataW H × List MemPlace) (h : DataW.trod enc Tryz.prog w 0 (fun _ => true) held fuel 61 cs = some x) :
    ∃ s : SE, cs = s.cells ∧ SArg w s ∧ ((∀ N ∈ x.1.weights Tryz.prog 61, N ≤ reachBytes) → s.n ≤ reachBytes) := by
  obtain ⟨xs, n, _, hxw, hl, hxl, hf⟩ := DataW.trod_struct Tryz.underlying61 h
  have hC : Tryz.prog.cellsOf 61 = 9 := by kernel_rfl
  rw [hC] at hl
  match cs, hl, xs, hxl with
  | [c0, c1, c2, c3, c4, c5, c6, c7, c8], _, [y0, y1], _ =>
    have g0 : DataW.trod enc Tryz.prog w 0 (fun _ => true) held n 58 (([c0, c1, c2, c3, c4, c5, c6, c7, c8].drop 0).take (Tryz.prog.cellsOf 58)) = some y0 := hf 0 _ rfl
    rw [show Tryz.prog.cellsOf 58 = 8 from by kernel_rfl] at g0
    replace g0 : DataW.trod enc Tryz.prog w 0 (fun _ => true) held n 58 [c0, c1, c2, c3, c4, c5, c6, c7] = some y0 := g0
    have g1 : DataW.trod enc Tryz.prog w 0 (fun _ => true) held n 59 (([c0, c1, c2, c3, c4, c5, c6, c7, c8].drop 8).take (Tryz.prog.cellsOf 59)) = some y1 := hf 1 _ rfl
    rw [show Tryz.prog.cellsOf 59 = 1 from by kernel_rfl] at g1
    replace g1 : DataW.trod enc Tryz.prog w 0 (fun _ => true) held n 59 [c8] = some y1 := g1
    obtain ⟨hd, e0, o0, -⟩ := head_of _ _ _ g0
    simp only [Hd.cells, List.cons.injEq, and_true] at e0
    obtain ⟨rfl, rfl, rfl, rfl, rfl, rfl, rfl, rfl⟩ := e0
    obtain ⟨A1, n1, k1, z1, rfl, ⟨r1, o1, m1⟩, v1⟩ := bytes_open Tryz.underlying59 Tryz.underlying5 (by kernel_rfl) (by kernel_rfl) g1
    refine ⟨⟨hd, A1, n1, k1, z1⟩, rfl, ⟨o0, r1, o1, m1⟩, fun hw => ?_⟩
    rw [hxw] at hw
    refine Nat.le_trans m1.1 (v1 fun N hN => hw N ?_)
    simp only [DataW.weights, Tryz.underlying61]
    exact DataW.weights_mem_each (j := 1) (t := 59) (d := y1.1) rfl rfl N hN
/-- The cells of a state that stands at an address. -/
def StAt (w : World) (ad : Addr) (s : SE) : Prop :=
  w.cell? ad = some (.int .u16 s.h.age) ∧ w.cell? ⟨ad.block, ad.off + 1, none⟩ = some (.int .u8 s.h.opts) ∧ w.cell? ⟨ad.block, ad.off + 2, none⟩ = some (.int .u8 s.h.typ) ∧ w.cell? ⟨ad.block, ad.off + 3, none⟩ = some (.int .u32 s.h.id) ∧ w.cell? ⟨ad.block, ad.off + 4, none⟩ = some (.int .u32 s.h.adv) ∧
    w.cell? ⟨ad.block, ad.off + 5, none⟩ = some (.int .i32 s.h.seq) ∧ w.cell? ⟨ad.block, ad.off + 6, none⟩ = some (.int .u16 s.h.sum) ∧ w.cell? ⟨ad.block, ad.off + 7, none⟩ = some (.int .u16 s.h.len) ∧ w.cell? ⟨ad.block, ad.off + 8, none⟩ = some (.slice s.A s.n s.c)
theorem StAt.later {w w' : World} {ad : Addr} {s : SE} (h : StAt w ad s) (hb : Below w.heap.size w w') : StAt w' ad s := by
  obtain ⟨h0, h1, h2, h3, h4, h5, h6, h7, h8⟩ := h
  have hl := cell_lt h0
  have H : ∀ (p : Addr) v, w.cell? p = some v → w'.cell? p = some v := fun p v e => (hb.cell (cell_lt e)).trans e
  exact ⟨H _ _ h0, H _ _ h1, H _ _ h2, H _ _ h3, H _ _ h4, H _ _ h5, H _ _ h6, H _ _ h7, H _ _ h8⟩
theorem state_arg {H : Type} {enc : TypeId × Value → H} {w : World} {r : Reach} {b : Nat} {held : Bool} {v : Value} {d : DataW H} {p : List MemPlace}
    (hv : Value.okWide Tryz.prog w r b 61 v) (h : DataW.Trod enc Tryz.prog w 0 (fun _ => true) held 61 v d p) : ∃ s : SE, v = s.v ∧ SArg w s := by
  obtain ⟨cs, rfl, _⟩ := okWide_struct Tryz.underlying61 hv
  obtain ⟨fuel, hf⟩ := h
  obtain ⟨x, e, hx, -⟩ := state_of _ _ _ hf
  refine ⟨x, ?_, hx⟩
  obtain ⟨l⟩ := cs
  simp only [Value.cells] at e
  subst e
  rfl
theorem i64_arg {H : Type} {enc : TypeId × Value → H} {w : World} {r : Reach} {b : Nat} {held : Bool} {v : Value} {d : DataW H} {p : List MemPlace}
    (hv : Value.okWide Tryz.prog w r b 3 v) (h : DataW.Trod enc Tryz.prog w 0 (fun _ => true) held 3 v d p) : ∃ n, v = .int .i64 n ∧ -9223372036854775808 ≤ n ∧ n ≤ 9223372036854775807 := by
  obtain ⟨r, rfl, _, _, hwr⟩ := Go.ChangeShapes.open_int Tryz.underlying3 hv h
  have := bounds_i64 hwr
  exact ⟨r, rfl, by omega, by omega⟩
/-- One call: what is done, when, with which state. -/
structure OpS where
  do_ : Int
  now : Int
  s : SE
def OpS.cells (o : OpS) : List Value := .int .u8 o.do_ :: .int .i64 o.now :: o.s.cells
theorem ops_len (o : OpS) : o.cells.length = 11 := rfl
structure OpS.ok (w : World) (o : OpS) : Prop where
  do_ : 0 ≤ o.do_ ∧ o.do_ ≤ 255
  now : -9223372036854775808 ≤ o.now ∧ o.now ≤ 9223372036854775807
  s : SArg w o.s
theorem OpS.ok.later {w w' : World} {o : OpS} (h : o.ok w) (hb : Below w.heap.size w w') : o.ok w' := ⟨h.do_, h.now, h.s.later hb⟩
set_option maxRecDepth 100000 in
theorem ops_of {H : Type} {enc : TypeId × Value → H} {w : World} {held : Bool} (fuel : Nat) (cs : List Value) (x : DataW H × List MemPlace) (h : DataW.trod enc Tryz.prog w 0 (fun _ => true) held fuel 63 cs = some x) :
    ∃ o : OpS, cs = o.cells ∧ o.ok w ∧ ((∀ N ∈ x.1.weights Tryz.prog 63, N ≤ reachBytes) → o.s.n ≤ reachBytes) := by
  obtain ⟨xs, n, _, hxw, hl, hxl, hf⟩ := DataW.trod_struct Tryz.underlying63 h
  have hC : Tryz.prog.cellsOf 63 = 11 := by kernel_rfl
  rw [hC] at hl
  match cs, hl, xs, hxl with
  | [c0, c1, c2, c3, c4, c5, c6, c7, c8, c9, c10], _, [y0, y1, y2], _ =>
    have g0 : DataW.trod enc Tryz.prog w 0 (fun _ => true) held n 5 (([c0, c1, c2, c3, c4, c5, c6, c7, c8, c9, c10].drop 0).take (Tryz.prog.cellsOf 5)) = some y0 := hf 0 _ rfl
    rw [show Tryz.prog.cellsOf 5 = 1 from by kernel_rfl] at g0
    replace g0 : DataW.trod enc Tryz.prog w 0 (fun _ => true) held n 5 [c0] = some y0 := g0
    have g1 : DataW.trod enc Tryz.prog w 0 (fun _ => true) held n 3 (([c0, c1, c2, c3, c4, c5, c6, c7, c8, c9, c10].drop 1).take (Tryz.prog.cellsOf 3)) = some y1 := hf 1 _ rfl
    rw [show Tryz.prog.cellsOf 3 = 1 from by kernel_rfl] at g1
    replace g1 : DataW.trod enc Tryz.prog w 0 (fun _ => true) held n 3 [c1] = some y1 := g1
    have g2 : DataW.trod enc Tryz.prog w 0 (fun _ => true) held n 61 (([c0, c1, c2, c3, c4, c5, c6, c7, c8, c9, c10].drop 2).take (Tryz.prog.cellsOf 61)) = some y2 := hf 2 _ rfl
    rw [show Tryz.prog.cellsOf 61 = 9 from by kernel_rfl] at g2
    replace g2 : DataW.trod enc Tryz.prog w 0 (fun _ => true) held n 61 [c2, c3, c4, c5, c6, c7, c8, c9, c10] = some y2 := g2
    obtain ⟨a0, e0, _, w0⟩ := DataW.trod_int Tryz.underlying5 g0
    injection e0 with e0 _; subst e0
    have b0 := bounds_u8 w0
    obtain ⟨a1, e1, _, w1⟩ := DataW.trod_int Tryz.underlying3 g1
    injection e1 with e1 _; subst e1
    have b1 := bounds_i64 w1
    obtain ⟨s, e2, o2, v2⟩ := state_of _ _ _ g2
    refine ⟨⟨a0, a1, s⟩, ?_, ⟨b0, (show -9223372036854775808 ≤ a1 ∧ a1 ≤ 9223372036854775807 from ⟨by omega, by omega⟩), o2⟩, fun hw => ?_⟩
    · unfold OpS.cells
      rw [← e2]
    · rw [hxw] at hw
      refine v2 fun N hN => hw N ?_
      simp only [DataW.weights, Tryz.underlying63]
      exact DataW.weights_mem_each (j := 2) (t := 61) (d := y2.1) rfl rfl N hN
structure Opl (w : World) (A : Option Addr) (n : Nat) (L : List OpS) : Prop where
  row : Reads w w.heap.size 11 A n (L.flatMap OpS.cells)
  len : L.length = n
  ok : ∀ o ∈ L, o.ok w
theorem Opl.later {w w' : World} {A : Option Addr} {n : Nat} {L : List OpS} (h : Opl w A n L) (hb : Below w.heap.size w w') : Opl w' A n L := ⟨h.row.later hb, h.len, fun s hs => (h.ok s hs).later hb⟩
/-- The cells of a call that stands at an address. -/
def OpAt (w : World) (ad : Addr) (o : OpS) : Prop :=
  w.cell? ad = some (.int .u8 o.do_) ∧ w.cell? ⟨ad.block, ad.off + 1, none⟩ = some (.int .i64 o.now) ∧ w.cell? ⟨ad.block, ad.off + 2, none⟩ = some (.int .u16 o.s.h.age) ∧ w.cell? ⟨ad.block, ad.off + 3, none⟩ = some (.int .u8 o.s.h.opts) ∧
    w.cell? ⟨ad.block, ad.off + 4, none⟩ = some (.int .u8 o.s.h.typ) ∧ w.cell? ⟨ad.block, ad.off + 5, none⟩ = some (.int .u32 o.s.h.id) ∧ w.cell? ⟨ad.block, ad.off + 6, none⟩ = some (.int .u32 o.s.h.adv) ∧
    w.cell? ⟨ad.block, ad.off + 7, none⟩ = some (.int .i32 o.s.h.seq) ∧ w.cell? ⟨ad.block, ad.off + 8, none⟩ = some (.int .u16 o.s.h.sum) ∧ w.cell? ⟨ad.block, ad.off + 9, none⟩ = some (.int .u16 o.s.h.len) ∧ w.cell? ⟨ad.block, ad.off + 10, none⟩ = some (.slice o.s.A o.s.n o.s.c)
theorem Opl.at_ {w : World} {A : Option Addr} {n i : Nat} {L : List OpS} (h : Opl w A n L) (hi : i < n) : ∃ ad o, A = some ad ∧ ad.block < w.heap.size ∧ L[i]? = some o ∧ o.ok w ∧ OpAt w (ad.add (i * 11)) o := by
  obtain ⟨ad, s, e, hb, hs, h0, hj⟩ := rowG_at ops_len h.row h.len hi
  exact ⟨ad, s, e, hb, hs, h.ok s (List.mem_of_getElem? hs), h0 _ rfl, hj 1 _ (by decide) rfl, hj 2 _ (by decide) rfl, hj 3 _ (by decide) rfl, hj 4 _ (by decide) rfl, hj 5 _ (by decide) rfl, hj 6 _ (by decide) rfl, hj 7 _ (by decide) rfl, hj 8 _ (by decide) rfl, hj 9 _ (by decide) rfl, hj 10 _ (by decide) rfl⟩
theorem OpAt.later {w w' : World} {ad : Addr} {o : OpS} (h : OpAt w ad o) (hb : Below w.heap.size w w') : OpAt w' ad o := by
  obtain ⟨h0, h1, h2, h3, h4, h5, h6, h7, h8, h9, h10⟩ := h
  have H : ∀ (p : Addr) v, w.cell? p = some v → w'.cell? p = some v := fun p v e => (hb.cell (cell_lt e)).trans e
  exact ⟨H _ _ h0, H _ _ h1, H _ _ h2, H _ _ h3, H _ _ h4, H _ _ h5, H _ _ h6, H _ _ h7, H _ _ h8, H _ _ h9, H _ _ h10⟩
theorem ops_arg {H : Type} {enc : TypeId × Value → H} {w : World} {r : Reach} {b : Nat} {held : Bool} {v : Value} {d : DataW H} {p : List MemPlace}
    (hv : Value.okWide Tryz.prog w r b 22 v) (h : DataW.Trod enc Tryz.prog w 0 (fun _ => true) held 22 v d p) :
    ∃ (A : Option Addr) (n c : Nat) (L : List OpS), v = .slice A n c ∧ Opl w A n L ∧ n ≤ c ∧ c ≤ 9223372036854775807 ∧ ((∀ N ∈ d.weights Tryz.prog 22, N ≤ reachBytes) → ∀ o ∈ L, o.s.n ≤ reachBytes) := by
  obtain ⟨A, n, c, L, e, h1, h2, h3, h4, h5, h6⟩ := slice_arg (cs := OpS.cells) ops_len (by decide) Tryz.underlying22 (by kernel_rfl) ops_of hv h
  exact ⟨A, n, c, L, e, ⟨h1, h2, h3⟩, h4, h5, fun hw => (h6 hw).1⟩
end Go.Proofs.YtpncbggjngamgaaGreatDoor
namespace Go.Proofs.YtpncbggjngamgaaGreatDoor
set_option linter.unusedVariables false
open Go.RowKit

theorem below_kept {w w1 w2 : World} {F : Nat → Prop} (h : Below w.heap.size w w1) (k : Kept F w1 w2) (hF : ∀ i, F i → w.heap.size ≤ i) : Below w.heap.size w w2 :=
  h.trans (k.below hF h.size)
/-- The bytes of the first i bodies. -/
def osum (L : List OpS) (i : Nat) : Nat := ((L.take i).map fun o => o.s.n).sum
theorem osum_succ {L : List OpS} {i : Nat} {o : OpS} (h : L[i]? = some o) : osum L (i + 1) = osum L i + o.s.n := by
  unfold osum
  rw [List.take_add_one, h]
  simp
theorem osum_ge (L : List OpS) : ∀ o ∈ L, o.s.n ≤ osum L L.length := by
  unfold osum
  rw [List.take_length]
  induction L with
  | nil => intro o h; cases h
  | cons a r ih =>
    intro o h
    rw [List.map_cons, List.sum_cons]
    rcases List.mem_cons.1 h with rfl | h
    · omega
    · have := ih o h; omega
def HvPost (w w' : World) (L : List OpS) (n : Nat) (e : Ending) : Prop := ∃ b, e = .returned (.bool b) ∧ (∃ k, w' = w.drewN k) ∧ (b = false → n ≤ 120 ∧ ∀ o ∈ L, o.s.n ≤ 16384)
set_option maxRecDepth 100000 in
set_option maxHeartbeats 4000000 in
theorem opHeavy_any (A : Option Addr) (n c : Nat) (L : List OpS) (w : World) (hL : Opl w A n L) (hr : ∀ o ∈ L, o.s.n ≤ reachBytes) (hc : n ≤ c) (hcm : c ≤ 9223372036854775807) :
    Calls Tryz.prog 4 #[.slice A n c] w fun e w' => HvPost w w' L n e := by
  have HL := Lib.hid hL
  have HR := Lib.hid hr
  clear hL hr
  go_enter Tryz.func4, Tryz.ntmps4
  go_wp2
  go_loopw [3, 4] (fun sv iv wr => ∃ i k : Nat, sv = .int .i64 k ∧ iv = .int .i64 i ∧ i ≤ n ∧ Hid (k = n + osum L i) ∧ k ≤ 9223372036854775807 ∧ ∃ d, wr = w.drewN d) (fun _ iv _ => n - (intOf iv).toNat)
  case atStart => exact ⟨0, n, rfl, rfl, by omega, rfl, by omega, 0, rfl⟩
  case round =>
    obtain ⟨i, k, rfl, rfl, hi, hk, hkb, d, rfl⟩ := hrel
    by_cases hlt : i < n
    · by_cases hsm : k ≤ 16384
      · obtain ⟨ad, ⟨o0, on, ⟨oh, oA, om, oc, oB⟩⟩, rfl, _, hs, hok, a0, a1, a2, a3, a4, a5, a6, a7, a8, a9, a10⟩ := HL.out.at_ hlt
        have hm := HR.out _ (List.mem_of_getElem? hs)
        have hm' : om ≤ 140737488355328 := by unfold reachBytes at hm; simp only at hm; omega
        have HK := Lib.hid (osum_succ hs)
        clear hm hs hok a0 a1 a2 a3 a4 a5 a6 a7 a8 a9
        go_wp2
        go_roundw
        case rel => exact ⟨i + 1, k + om, by go_num, by go_num, by omega, by show _ = _; rw [HK.out, hk.out]; simp only; omega, by omega, _, rfl⟩
        case measure => simp [intOf]; omega
      · go_wp2
        go_ret
        exact ⟨_, rfl, ⟨_, rfl⟩, fun h => by simp at h⟩
    · obtain rfl : i = n := by omega
      by_cases hsm : k ≤ 16384
      · by_cases h120 : i ≤ 120
        · go_wp2
          go_ret
          refine ⟨_, rfl, ⟨_, rfl⟩, fun h => ⟨h120, fun o ho => ?_⟩⟩
          have h1 := osum_ge L o ho
          rw [HL.out.len] at h1
          have := hk.out
          omega
        · go_wp2
          go_ret
          exact ⟨_, rfl, ⟨_, rfl⟩, fun h => by simp at h; omega⟩
      · go_wp2
        go_ret
        exact ⟨_, rfl, ⟨_, rfl⟩, fun h => by simp at h⟩

/-- What a store holds, its rows of bytes apart. -/
def contF (f : Ky3 → Option OneE) : Ky3 → Option (Hd × List Int × Int) := fun k => (f k).map fun x => (x.s.h, x.s.B, x.at_)
def upC (F : Ky3 → Option (Hd × List Int × Int)) (o : OpS) : Ky3 → Option (Hd × List Int × Int) := fun k => if k = o.s.key then some (o.s.h, o.s.B, max o.now 0) else F k
def fillC (L : List OpS) : Ky3 → Option (Hd × List Int × Int) := L.foldl upC fun _ => none
theorem fillC_snoc (l : List OpS) (o : OpS) : fillC (l ++ [o]) = upC (fillC l) o := by unfold fillC; rw [List.foldl_append]; rfl
theorem contF_upd (f : Ky3 → Option OneE) (o : OpS) (x : SE) (t : Int) (h1 : x.h = o.s.h) (h2 : x.B = o.s.B) (h3 : t = max o.now 0) : contF (updK f o.s.key ⟨x, t⟩) = upC (contF f) o := by
  funext k
  unfold contF updK upC
  by_cases h : k = o.s.key
  · rw [if_pos h, if_pos h, Option.map_some, h1, h2, h3]
  · rw [if_neg h, if_neg h]
theorem fillC_some : ∀ (n : Nat) (L : List OpS), L.length = n → ∀ k c, fillC L k = some c → ∃ o ∈ L, o.s.key = k ∧ c = (o.s.h, o.s.B, max o.now 0) := by
  intro n
  induction n with
  | zero =>
    intro L hl k c h
    rw [List.length_eq_zero_iff] at hl
    subst hl
    cases h
  | succ n ih =>
    intro L hl k c h
    rcases List.eq_nil_or_concat L with rfl | ⟨l, o, rfl⟩
    · simp at hl
    · rw [List.concat_eq_append] at *
      rw [fillC_snoc] at h
      unfold upC at h
      split at h
      · rename_i hk
        injection h with h
        exact ⟨o, by simp, hk.symm, h.symm⟩
      · obtain ⟨o', ho', h1⟩ := ih l (by simp at hl; omega) k c h
        exact ⟨o', by simp [ho'], h1⟩
structure FlRel (w : World) (L : List OpS) (g bm : Nat) (i : Value) (wr : World) : Prop where
  ex : ∃ (j N : Nat) (f : Ky3 → Option OneE), i = .int .i64 j ∧ j ≤ L.length ∧ Hid (StF wr g bm 4096 f N) ∧ Hid (N ≤ j) ∧ Hid (contF f = fillC (L.take j))
  below : Hid (Below w.heap.size w wr)
def Filled (w w' : World) (L : List OpS) (e : Ending) : Prop := ∃ g bm f N, e = .returned (.pointer (some ⟨g, 0, none⟩)) ∧ StF w' g bm 4096 f N ∧ N ≤ L.length ∧ contF f = fillC L ∧ w.heap.size ≤ g ∧ w.heap.size ≤ bm ∧ Below w.heap.size w w'
end Go.Proofs.YtpncbggjngamgaaGreatDoor
namespace Go.Proofs.YtpncbggjngamgaaGreatDoor
set_option linter.unusedVariables false
open Go.RowKit

theorem asc_unique : ∀ (s s2 : List Ky3), (∀ (i j : Nat) (a b : Ky3), i < j → s[i]? = some a → s[j]? = some b → ltK a b = true) → (∀ (i j : Nat) (a b : Ky3), i < j → s2[i]? = some a → s2[j]? = some b → ltK a b = true) → (∀ e, e ∈ s ↔ e ∈ s2) → s = s2 := by
  have hno : ∀ (a : Ky3) (t : List Ky3), (∀ (i j : Nat) (x y : Ky3), i < j → (a :: t)[i]? = some x → (a :: t)[j]? = some y → ltK x y = true) → ∀ x ∈ t, ltK a x = true := by
    intro a t h x hx
    obtain ⟨i, hi, hi'⟩ := List.getElem_of_mem hx
    exact h 0 (i + 1) a x (by omega) rfl (by rw [List.getElem?_cons_succ, List.getElem?_eq_getElem hi, hi'])
  have hirr : ∀ a : Ky3, ltK a a = true → False := fun a h => by rw [ltK_irrefl] at h; cases h
  intro s
  induction s with
  | nil =>
    intro s2 _ _ hm
    cases s2 with
    | nil => rfl
    | cons a t => exact absurd ((hm a).2 List.mem_cons_self) (by simp)
  | cons a t ih =>
    intro s2 ha ha2 hm
    cases s2 with
    | nil => exact absurd ((hm a).1 List.mem_cons_self) (by simp)
    | cons b t2 =>
      have h1 := hno a t ha
      have h2 := hno b t2 ha2
      have hab : a = b := by
        rcases List.mem_cons.1 ((hm a).1 List.mem_cons_self) with h | h
        · exact h
        · rcases List.mem_cons.1 ((hm b).2 List.mem_cons_self) with h' | h'
          · exact h'.symm
          · exact (hirr a (ltK_trans (h1 b h') (h2 a h))).elim
      subst hab
      rw [ih t2 (fun i j x y hij hi hj => ha (i + 1) (j + 1) x y (by omega) hi hj) (fun i j x y hij hi hj => ha2 (i + 1) (j + 1) x y (by omega) hi hj) fun e => ?_]
      have := hm e
      rw [List.mem_cons, List.mem_cons] at this
      constructor
      · intro he
        rcases this.1 (.inr he) with h | h
        · subst h; exact (hirr e (h1 e he)).elim
        · exact h
      · intro he
        rcases this.2 (.inr he) with h | h
        · subst h; exact (hirr e (h2 e he)).elim
        · exact h
theorem ks_unique {f : Ky3 → Option OneE} {n m : Nat} {ks ls : List Ky3} (h : KsOf f n ks) (h2 : KsOf f m ls) : ls = ks :=
  asc_unique ls ks h2.asc h.asc fun e => (h2.mem e).trans (h.mem e).symm
/-- The times and ages of a store that the law fills. -/
def FewAt (f : Ky3 → Option OneE) : Prop := ∀ k x, f k = some x → x.s.key = k ∧ x.may
theorem dueK_E (f : Ky3 → Option OneE) (now : Int) (ks : List Ky3) : dueK f now ks = dueE (ks.map (entK f)) now := by
  unfold dueK dueE
  rw [List.filter_map, List.map_map]
  have : ((fun p : Ent11 => p.1) ∘ entK f) = id := rfl
  rw [this, List.map_id]
  rfl
theorem few_may {f : Ky3 → Option OneE} {n : Nat} {ks : List Ky3} (hf : FewAt f) (h : KsOf f n ks) : ∀ p ∈ ks.map (entK f), p.2.may := by
  intro p hp
  obtain ⟨k, hk, rfl⟩ := List.mem_map.1 hp
  obtain ⟨x, hx⟩ := Option.isSome_iff_exists.1 ((h.mem k).1 hk)
  unfold entK
  rw [hx]
  exact (hf k x hx).2
theorem nextK_E {f : Ky3 → Option OneE} {n : Nat} {ks : List Ky3} (hf : FewAt f) (h : KsOf f n ks) (now : Int) : nextK f now ks = nextE (ks.map (entK f)) now := by
  unfold nextK nextE
  have key : ∀ (E : List Ent11) (b : Option Int), (∀ p ∈ E, p.2.may) → E.foldl (stepW now) b = E.foldl (stepE now) b := by
    intro E
    induction E with
    | nil => intro b _; rfl
    | cons p r ih =>
      intro b hE
      have hp := hE p List.mem_cons_self
      have hw : decide (p.2.end_ ≤ 9223372036854775807) = true := decide_eq_true (by unfold OneE.end_; have := hp.at_; have := hp.age; omega)
      rw [List.foldl_cons, List.foldl_cons, ih _ fun q hq => hE q (List.mem_cons_of_mem _ hq)]
      congr 1
      unfold stepW stepE
      rw [hw, Bool.and_true]
      cases b <;> rfl
  exact key _ _ (few_may hf h)
theorem agesK_some {f : Ky3 → Option OneE} {n : Nat} {ks : List Ky3} (hf : FewAt f) (h : KsOf f n ks) {now t : Int} (hn : nextK f now ks = some t) :
    now < t ∧ t ≤ 1099511631376 ∧ dueK f (t - 1) ks = dueK f now ks ∧ (dueK f now ks).length < (dueK f t ks).length ∧ ∀ k ∈ dueK f now ks, k ∈ dueK f t ks := by
  rw [nextK_E hf h] at hn
  obtain ⟨h1, h2, h3, h4⟩ := ages_some (few_may hf h) hn
  obtain ⟨⟨p, hp, _, ht⟩, _⟩ := next_some hn
  have hm := few_may hf h p hp
  simp only [dueK_E]
  refine ⟨h1, ?_, h2, h3, h4⟩
  unfold OneE.end_ at ht
  have := hm.at_
  have := hm.age
  omega
theorem agesK_none {f : Ky3 → Option OneE} {n : Nat} {ks : List Ky3} (hf : FewAt f) (h : KsOf f n ks) {now t : Int} (hn : nextK f now ks = none) (ht : now ≤ t) : dueK f t ks = dueK f now ks := by
  rw [nextK_E hf h] at hn
  simp only [dueK_E]
  exact ages_none (few_may hf h) hn ht
theorem headsK {f : Ky3 → Option OneE} {n : Nat} {ks : List Ky3} (hf : FewAt f) (h : KsOf f n ks) (now : Int) {i : Nat} {x : Hd} (hx : (ks.map (hAt f now))[i]? = some x) : ks[i]? = some (x.typ, x.id, x.adv) := by
  rw [List.getElem?_map] at hx
  cases hk : ks[i]? with
  | none => rw [hk] at hx; cases hx
  | some k =>
    rw [hk] at hx
    injection hx with hx
    obtain ⟨y, hy⟩ := Option.isSome_iff_exists.1 ((h.mem k).1 (List.mem_of_getElem? hk))
    subst hx
    have h1 := (hf k y hy).1
    have e : hAt f now k = y.headAt now := by unfold hAt; rw [hy]; rfl
    rw [e, ← h1]
    rfl
theorem few_fill {f : Ky3 → Option OneE} {L : List OpS} {w w' : World} {g bm : Nat} {most : Int} {N : Nat} (q : StF w' g bm most f N) (hc : contF f = fillC L) (hL : ∀ o ∈ L, o.ok w) (ht : ∀ o ∈ L, o.now ≤ 1099511627776) : FewAt f := by
  intro k x hx
  refine ⟨(q.good k x hx).1, ?_⟩
  have h : fillC L k = some (x.s.h, x.s.B, x.at_) := by rw [← hc]; unfold contF; rw [hx]; rfl
  obtain ⟨o, ho, h1, h2⟩ := fillC_some _ L rfl k _ h
  injection h2 with h2 h3
  injection h3 with h3 h4
  have h5 := (hL o ho).s.head.age
  have h6 := ht o ho
  refine ⟨by rw [h2]; exact h5, ?_⟩
  rw [h4]
  omega
end Go.Proofs.YtpncbggjngamgaaGreatDoor
namespace Go.Proofs.YtpncbggjngamgaaGreatDoor
set_option linter.unusedVariables false
open Go.RowKit

theorem exec_key_eq {o : Oper} {ev : Operand → Value} {x y : Operand} {t : TypeId} (ho : o.op = .binOp .eql 68 x y t) (a b : Ky3) (hx : ev x = keyV a) (hy : ev y = keyV b) (W : World) :
    (execOp ev o).run Tryz.prog W = .ok (.value (.bool (decide (a = b)))) W := by
  unfold execOp
  simp only [ho]
  rw [hx, hy]
  have e1 : (eqGuard .eql 68 x y (keyV a) (keyV b)).run Tryz.prog W = .ok () W := run_eqGuard_agg _ _ _ _ _ _ _ Tryz.eqGuardType68
  simp [binOp, Sem.run_bind, Sem.run_pure, key_eq, e1, Result.andThen_ok]
theorem rd_nil (w : World) (h : Hd) (hh : h.ok) : (⟨h, none, 0, 0, []⟩ : SE).rd w := ⟨hh, ⟨rfl, fun h => absurd h (by simp)⟩, (fun k x hx => by simp at hx), ⟨Nat.le_refl _, by simp⟩, Nat.zero_le _⟩
theorem ks_one {f : Ky3 → Option OneE} {k : Ky3} {n : Nat} {ks : List Ky3} (hf : ∀ k', (f k').isSome = true ↔ k' = k) (h : KsOf f n ks) : ks = [k] := by
  refine asc_unique ks [k] h.asc ?_ fun e => by rw [h.mem, hf, List.mem_singleton]
  intro i j a b hij hi hj
  have := (List.getElem?_eq_some_iff.1 hj).1
  simp at this
  omega
/-- What is asked of the one state. -/
theorem lives_asks {f : Ky3 → Option OneE} {x : SE} (hx : x.h = ⟨10, 0, 1, 0, 0, 0, 0, 0⟩) (hf : f (1, 0, 0) = some ⟨x, 5⟩) : nextK f 5 [(1, 0, 0)] = some 3595 ∧ dueK f 3595 [(1, 0, 0)] = [(1, 0, 0)] ∧ (⟨x, 5⟩ : OneE).headAt 8 = ⟨13, 0, 1, 0, 0, 0, 0, 0⟩ := by
  obtain ⟨h, A, n, c, B⟩ := x
  simp only at hx
  subst hx
  refine ⟨?_, ?_, rfl⟩
  · simp only [nextK, entK, List.map_cons, List.map_nil, List.foldl_cons, List.foldl_nil, hf, Option.getD_some]
    rfl
  · simp only [dueK, hAt, List.filter_cons, List.filter_nil, hf, Option.getD_some]
    rfl
set_option maxRecDepth 100000 in
set_option maxHeartbeats 8000000 in
theorem lives_any (w : World) : Calls Tryz.prog 5 #[] w fun e w' => e = .returned (.bool true) ∧ Below w.heap.size w w' := by
  have HNew := Lib.hid (stnew_any 1 w (by omega) (by omega))
  go_enter Tryz.func5, Tryz.ntmps5
  go_wp2_with (go_at_call 6; refine HNew.out.mono ?_; rintro e w1 ⟨g, bm, rfl, q1, hg, hbm, hb1⟩; have HQ1 := Lib.hid q1; have HG := Lib.hid hg; have HBM := Lib.hid hbm; have HB1 := Lib.hid hb1; clear q1 hg hbm hb1)
  clear HNew
  have hb2 : Below w1.heap.size w1 (w1.alloc (.cells #[.int .u8 1, .int .u32 0, .int .u32 0] 68)) := (Below.refl _ _).alloc (Nat.le_refl _) _
  have HB2 := Lib.hid (below_then HB1.out hb2)
  have HQ2 := Lib.hid (HQ1.out.later hb2)
  have HK2 : Hid (Blk (w1.alloc (.cells #[.int .u8 1, .int .u32 0, .int .u32 0] 68)) w1.heap.size 68 #[.int .u8 1, .int .u32 0, .int .u32 0]) := Lib.hid (Blk.new _ _ _)
  have hkb : Hid (w1.heap.size ≠ bm) := Lib.hid (by have := HQ1.out.map.lt; omega)
  clear hb2 HB1 HQ1
  generalize w1.alloc (.cells #[.int .u8 1, .int .u32 0, .int .u32 0] 68) = w2 at *
  generalize w1.heap.size = gk at *
  have HP := Lib.hid (stput_any w2 g bm 1 _ 0 HQ2.out (⟨⟨10, 0, 1, 0, 0, 0, 0, 0⟩, none, 0, 0, []⟩ : SE) (rd_nil w2 _ ⟨by decide, by decide, by decide, by decide, by decide, by decide, by decide, by decide⟩) 5 (by omega) (.inr (by decide)))
  go_wp2_with fail
  refine HP.out.mono ?_
  rintro e w3 ⟨x', rfl, hxh, -, -, q3, hk3⟩
  have hb3 := below_kept HB2.out hk3 (fun i hi => by rw [hi]; exact HBM.out)
  have hkk := HK2.out.kept hk3 hkb.out
  simp only at hxh
  have q3' : StF w3 g bm 1 (updK (fun _ => none) (1, 0, 0) ⟨x', 5⟩) 1 := q3
  clear q3
  obtain ⟨f1, hf1⟩ : ∃ f1, updK (fun _ => none) (1, 0, 0) ⟨x', 5⟩ = f1 := ⟨_, rfl⟩
  rw [hf1] at q3'
  have hfx : f1 (1, 0, 0) = some ⟨x', 5⟩ := by rw [← hf1]; rfl
  have hf2 : f1 (2, 0, 0) = none := by rw [← hf1]; rfl
  have hfs : ∀ k', (f1 k').isSome = true ↔ k' = (1, 0, 0) := fun k' => by
    rw [← hf1]
    unfold updK
    by_cases h : k' = (1, 0, 0) <;> simp [h]
  obtain ⟨l1, l2, l3⟩ := lives_asks hxh hfx
  have HQ3 := Lib.hid q3'
  have HK3 := Lib.hid hkk
  have HB3 := Lib.hid hb3
  have HF := Lib.hid (And.intro hfx (And.intro hf2 hfs))
  have HA := Lib.hid (And.intro l1 (And.intro l2 l3))
  clear hxh hk3 q3' hf1 hfx hf2 hfs l1 l2 l3 hkk hb3 HP HQ2 HK2 HB2
  have HP2 := Lib.hid (stputfull_any w3 g bm 1 f1 1 HQ3.out (⟨⟨0, 0, 2, 0, 0, 0, 0, 0⟩, none, 0, 0, []⟩ : SE) (rd_nil w3 _ ⟨by decide, by decide, by decide, by decide, by decide, by decide, by decide, by decide⟩) 5 (by omega) ⟨HF.out.2.1, by decide⟩)
  go_wp2_with fail
  refine HP2.out.mono ?_
  rintro e w4 ⟨rfl, hb4⟩
  have HQ4 := Lib.hid (HQ3.out.later hb4)
  have HK4 := Lib.hid (HK3.out.later hb4)
  have HB4 := Lib.hid (below_then HB3.out hb4)
  clear hb4 HQ3 HK3 HB3 HP2
  have HGe := Lib.hid (stget_any w4 g bm 1 f1 1 HQ4.out (1, 0, 0) 8 (by omega))
  have kf0 := HK4.out.cell 0; have kf1 := HK4.out.cell 1; have kf2 := HK4.out.cell 2
  simp only [List.getElem?_toArray, List.getElem?_cons_zero, List.getElem?_cons_succ] at kf0 kf1 kf2
  go_wp2_with fail
  refine HGe.out.mono ?_
  rintro e w5 ⟨hge, -⟩
  obtain ⟨s', rfl, hsh, hso, hsB, hsn, hb5⟩ := hge _ HF.out.1
  rw [HA.out.2.2] at hsh
  obtain ⟨sh, sA, sn, sc, sB⟩ := s'
  simp only at hsh
  subst hsh
  have HQ5 := Lib.hid (HQ4.out.later hb5)
  have HK5 := Lib.hid (HK4.out.later hb5)
  have HB5 := Lib.hid (below_then HB4.out hb5)
  clear hge hso hsB hsn hb5 HQ4 HK4 HB4 HGe kf0 kf1 kf2
  go_wp2_with fail
  have hb6 : Below w5.heap.size w5 (w5.alloc (.cells #[.int .u16 13, .int .u8 0, .int .u8 1, .int .u32 0, .int .u32 0, .int .i32 0, .int .u16 0, .int .u16 0, .slice sA sn sc] 61)) := (Below.refl _ _).alloc (Nat.le_refl _) _
  have HX6 : Hid (Blk (w5.alloc (.cells #[.int .u16 13, .int .u8 0, .int .u8 1, .int .u32 0, .int .u32 0, .int .i32 0, .int .u16 0, .int .u16 0, .slice sA sn sc] 61)) w5.heap.size 61 #[.int .u16 13, .int .u8 0, .int .u8 1, .int .u32 0, .int .u32 0, .int .i32 0, .int .u16 0, .int .u16 0, .slice sA sn sc]) := Lib.hid (Blk.new _ _ _)
  have HQ6 := Lib.hid (HQ5.out.later hb6)
  have HK6 := Lib.hid (HK5.out.later hb6)
  have HB6 := Lib.hid (below_then HB5.out hb6)
  clear hb6 HQ5 HK5 HB5
  generalize w5.alloc (.cells #[.int .u16 13, .int .u8 0, .int .u8 1, .int .u32 0, .int .u32 0, .int .i32 0, .int .u16 0, .int .u16 0, .slice sA sn sc] 61) = w6 at *
  generalize w5.heap.size = gx at *
  have hq6 : ∀ k x, f1 k = some x → ∃ g' bm' most, some (⟨g, 0, none⟩ : Addr) = some ⟨g', 0, none⟩ ∧ StF w6 g' bm' most f1 1 := fun _ _ _ => ⟨g, bm, 1, rfl, HQ6.out⟩
  have HNx := Lib.hid (stnext_any (some ⟨g, 0, none⟩) 5 f1 1 w6 (eachAt_of HQ6.out (by omega) (by omega)) (by omega) hq6)
  clear hq6
  refine HNx.out.mono ?_
  rintro e w7 ⟨ks, hks, rfl, hb7⟩
  rw [ks_one HF.out.2.2 hks, HA.out.1]
  have HX7 := Lib.hid (HX6.out.later hb7)
  have HQ7 := Lib.hid (HQ6.out.later hb7)
  have HK7 := Lib.hid (HK6.out.later hb7)
  have HB7 := Lib.hid (below_then HB6.out hb7)
  clear hks hb7 HX6 HQ6 HK6 HB6 HNx
  have HD := Lib.hid (stdue_any (some ⟨g, 0, none⟩) 3595 f1 1 w7 (eachAt_of HQ7.out (by omega) (by omega)) (by omega))
  go_wp2_with fail
  refine HD.out.mono ?_
  rintro e w8 ⟨v, rfl, ks, hks, hown, hb8⟩
  rw [ks_one HF.out.2.2 hks, HA.out.2.1] at hown
  obtain ⟨A, c, rfl, hc1, hc2, hrd⟩ := own_shape_n hown
  obtain ⟨ad, hA, hadb, hcl⟩ := hrd.2 (by decide)
  subst hA
  have HKy : Hid (w8.cell? ad = some (.int .u8 1) ∧ w8.cell? ⟨ad.block, ad.off + 1, none⟩ = some (.int .u32 0) ∧ w8.cell? ⟨ad.block, ad.off + 2, none⟩ = some (.int .u32 0)) := by
    refine Lib.hid ⟨?_, ?_, ?_⟩
    · exact hcl 0 (.int .u8 1) rfl
    · exact hcl 1 (.int .u32 0) rfl
    · exact hcl 2 (.int .u32 0) rfl
  have HX8 := Lib.hid (HX7.out.later hb8)
  have HQ8 := Lib.hid (HQ7.out.later hb8)
  have HK8 := Lib.hid (HK7.out.later hb8)
  have HB8 := Lib.hid (below_then HB7.out hb8)
  have HC := Lib.hid (And.intro hc1 hc2)
  have hl1 : [(1, 0, 0)].length = 1 := rfl
  clear hks hown hrd hadb hcl hb8 HX7 HQ7 HK7 HB7 HD hc1 hc2
  go_wp2_with fail
  refine wp_region_s (fun W : World => Blk W gx 61 #[.int .u16 13, .int .u8 0, .int .u8 1, .int .u32 0, .int .u32 0, .int .i32 0, .int .u16 0, .int .u16 0, .slice sA sn sc] ∧ Blk W gk 68 #[.int .u8 1, .int .u32 0, .int .u32 0] ∧ (W.cell? ad = some (.int .u8 1) ∧ W.cell? ⟨ad.block, ad.off + 1, none⟩ = some (.int .u32 0) ∧ W.cell? ⟨ad.block, ad.off + 2, none⟩ = some (.int .u32 0)) ∧ StF W g bm 1 f1 1) [(0, true), (1, true), (2, true), (3, true), (4, true), (5, true), (6, true), (7, true), (8, true), (9, true), (10, true), (11, true), (12, true), (13, true), (14, true), (15, true), (16, true), (17, true), (18, true), (19, true), (20, true), (21, true), (22, true), (23, true), (24, true), (25, true), (26, true), (27, true), (28, true), (29, true), (30, true), (31, true), (32, true), (33, true), (34, true), (35, true), (36, false), (37, true), (38, true), (39, true)] (by kernel_rfl) (fun _ d _ _ _ h => by cases d <;> exact h) ?_
  simp only [List.map_cons, List.map_nil, nthOp_zero, nthOp_succ]
  have hbd : Below w8.heap.size w8 w8.drew := (Below.refl _ _).drew
  have HS : Hid ((fun W : World => Blk W gx 61 #[.int .u16 13, .int .u8 0, .int .u8 1, .int .u32 0, .int .u32 0, .int .i32 0, .int .u16 0, .int .u16 0, .slice sA sn sc] ∧ Blk W gk 68 #[.int .u8 1, .int .u32 0, .int .u32 0] ∧ (W.cell? ad = some (.int .u8 1) ∧ W.cell? ⟨ad.block, ad.off + 1, none⟩ = some (.int .u32 0) ∧ W.cell? ⟨ad.block, ad.off + 2, none⟩ = some (.int .u32 0)) ∧ StF W g bm 1 f1 1) w8.drew) := Lib.hid ⟨HX8.out.later hbd, HK8.out.later hbd, ⟨(hbd.cell (cell_lt HKy.out.1)).trans HKy.out.1, (hbd.cell (cell_lt HKy.out.2.1)).trans HKy.out.2.1, (hbd.cell (cell_lt HKy.out.2.2)).trans HKy.out.2.2⟩, HQ8.out.later hbd⟩
  have HB9 := Lib.hid (below_then HB8.out hbd)
  clear hbd HX8 HQ8 HK8 HB8 HKy
  generalize w8.drew = w9 at *
  refine wpS_take HS (by kernel_rfl) (by intro W hW; have j0 := hW.1.cell 0; have k0 := hW.2.1.cell 0; have k1 := hW.2.1.cell 1; have k2 := hW.2.1.cell 2; have q0 := hW.2.2.1.1; have q1 := hW.2.2.1.2.1; have q2 := hW.2.2.1.2.2; simp only [List.getElem?_toArray, List.getElem?_cons_zero, List.getElem?_cons_succ] at j0 k0 k1 k2; clear hW; go_simp; try with_reducible rfl) ?_
  refine wpS_take HS (by kernel_rfl) (by intro W hW; have j0 := hW.1.cell 0; have k0 := hW.2.1.cell 0; have k1 := hW.2.1.cell 1; have k2 := hW.2.1.cell 2; have q0 := hW.2.2.1.1; have q1 := hW.2.2.1.2.1; have q2 := hW.2.2.1.2.2; simp only [List.getElem?_toArray, List.getElem?_cons_zero, List.getElem?_cons_succ] at j0 k0 k1 k2; clear hW; go_simp; try with_reducible rfl) ?_
  refine wpS_take HS (by kernel_rfl) (by intro W hW; have j0 := hW.1.cell 0; have k0 := hW.2.1.cell 0; have k1 := hW.2.1.cell 1; have k2 := hW.2.1.cell 2; have q0 := hW.2.2.1.1; have q1 := hW.2.2.1.2.1; have q2 := hW.2.2.1.2.2; simp only [List.getElem?_toArray, List.getElem?_cons_zero, List.getElem?_cons_succ] at j0 k0 k1 k2; clear hW; go_simp; try with_reducible rfl) ?_
  refine wpS_take HS (by kernel_rfl) (by intro W hW; have j0 := hW.1.cell 0; have k0 := hW.2.1.cell 0; have k1 := hW.2.1.cell 1; have k2 := hW.2.1.cell 2; have q0 := hW.2.2.1.1; have q1 := hW.2.2.1.2.1; have q2 := hW.2.2.1.2.2; simp only [List.getElem?_toArray, List.getElem?_cons_zero, List.getElem?_cons_succ] at j0 k0 k1 k2; clear hW; go_simp; try with_reducible rfl) ?_
  refine wpS_take HS (by kernel_rfl) (by intro W hW; have j0 := hW.1.cell 0; have k0 := hW.2.1.cell 0; have k1 := hW.2.1.cell 1; have k2 := hW.2.1.cell 2; have q0 := hW.2.2.1.1; have q1 := hW.2.2.1.2.1; have q2 := hW.2.2.1.2.2; simp only [List.getElem?_toArray, List.getElem?_cons_zero, List.getElem?_cons_succ] at j0 k0 k1 k2; clear hW; go_simp; try with_reducible rfl) ?_
  refine wpS_take HS (by kernel_rfl) (by intro W hW; have j0 := hW.1.cell 0; have k0 := hW.2.1.cell 0; have k1 := hW.2.1.cell 1; have k2 := hW.2.1.cell 2; have q0 := hW.2.2.1.1; have q1 := hW.2.2.1.2.1; have q2 := hW.2.2.1.2.2; simp only [List.getElem?_toArray, List.getElem?_cons_zero, List.getElem?_cons_succ] at j0 k0 k1 k2; clear hW; go_simp; try with_reducible rfl) ?_
  refine wpS_take HS (by kernel_rfl) (by intro W hW; have j0 := hW.1.cell 0; have k0 := hW.2.1.cell 0; have k1 := hW.2.1.cell 1; have k2 := hW.2.1.cell 2; have q0 := hW.2.2.1.1; have q1 := hW.2.2.1.2.1; have q2 := hW.2.2.1.2.2; simp only [List.getElem?_toArray, List.getElem?_cons_zero, List.getElem?_cons_succ] at j0 k0 k1 k2; clear hW; go_simp; try with_reducible rfl) ?_
  refine wpS_take HS (by kernel_rfl) (by intro W hW; have j0 := hW.1.cell 0; have k0 := hW.2.1.cell 0; have k1 := hW.2.1.cell 1; have k2 := hW.2.1.cell 2; have q0 := hW.2.2.1.1; have q1 := hW.2.2.1.2.1; have q2 := hW.2.2.1.2.2; simp only [List.getElem?_toArray, List.getElem?_cons_zero, List.getElem?_cons_succ] at j0 k0 k1 k2; clear hW; go_simp; try with_reducible rfl) ?_
  refine wpS_take HS (by kernel_rfl) (by intro W hW; have j0 := hW.1.cell 0; have k0 := hW.2.1.cell 0; have k1 := hW.2.1.cell 1; have k2 := hW.2.1.cell 2; have q0 := hW.2.2.1.1; have q1 := hW.2.2.1.2.1; have q2 := hW.2.2.1.2.2; simp only [List.getElem?_toArray, List.getElem?_cons_zero, List.getElem?_cons_succ] at j0 k0 k1 k2; clear hW; go_simp; try with_reducible rfl) ?_
  refine wpS_take HS (by kernel_rfl) (by intro W hW; have j0 := hW.1.cell 0; have k0 := hW.2.1.cell 0; have k1 := hW.2.1.cell 1; have k2 := hW.2.1.cell 2; have q0 := hW.2.2.1.1; have q1 := hW.2.2.1.2.1; have q2 := hW.2.2.1.2.2; simp only [List.getElem?_toArray, List.getElem?_cons_zero, List.getElem?_cons_succ] at j0 k0 k1 k2; clear hW; go_simp; try with_reducible rfl) ?_
  refine wpS_take HS (by kernel_rfl) (by intro W hW; have j0 := hW.1.cell 0; have k0 := hW.2.1.cell 0; have k1 := hW.2.1.cell 1; have k2 := hW.2.1.cell 2; have q0 := hW.2.2.1.1; have q1 := hW.2.2.1.2.1; have q2 := hW.2.2.1.2.2; simp only [List.getElem?_toArray, List.getElem?_cons_zero, List.getElem?_cons_succ] at j0 k0 k1 k2; clear hW; go_simp; try with_reducible rfl) ?_
  refine wpS_take HS (by kernel_rfl) (by intro W hW; have j0 := hW.1.cell 0; have k0 := hW.2.1.cell 0; have k1 := hW.2.1.cell 1; have k2 := hW.2.1.cell 2; have q0 := hW.2.2.1.1; have q1 := hW.2.2.1.2.1; have q2 := hW.2.2.1.2.2; simp only [List.getElem?_toArray, List.getElem?_cons_zero, List.getElem?_cons_succ] at j0 k0 k1 k2; clear hW; go_simp; try with_reducible rfl) ?_
  refine wpS_take HS (by kernel_rfl) (by intro W hW; have j0 := hW.1.cell 0; have k0 := hW.2.1.cell 0; have k1 := hW.2.1.cell 1; have k2 := hW.2.1.cell 2; have q0 := hW.2.2.1.1; have q1 := hW.2.2.1.2.1; have q2 := hW.2.2.1.2.2; simp only [List.getElem?_toArray, List.getElem?_cons_zero, List.getElem?_cons_succ] at j0 k0 k1 k2; clear hW; go_simp; try with_reducible rfl) ?_
  refine wpS_take HS (by kernel_rfl) (by intro W hW; have j0 := hW.1.cell 0; have k0 := hW.2.1.cell 0; have k1 := hW.2.1.cell 1; have k2 := hW.2.1.cell 2; have q0 := hW.2.2.1.1; have q1 := hW.2.2.1.2.1; have q2 := hW.2.2.1.2.2; simp only [List.getElem?_toArray, List.getElem?_cons_zero, List.getElem?_cons_succ] at j0 k0 k1 k2; clear hW; go_simp; try with_reducible rfl) ?_
  refine wpS_take HS (by kernel_rfl) (by intro W hW; have j0 := hW.1.cell 0; have k0 := hW.2.1.cell 0; have k1 := hW.2.1.cell 1; have k2 := hW.2.1.cell 2; have q0 := hW.2.2.1.1; have q1 := hW.2.2.1.2.1; have q2 := hW.2.2.1.2.2; simp only [List.getElem?_toArray, List.getElem?_cons_zero, List.getElem?_cons_succ] at j0 k0 k1 k2; clear hW; go_simp; try with_reducible rfl) ?_
  refine wpS_take HS (by kernel_rfl) (by intro W hW; have j0 := hW.1.cell 0; have k0 := hW.2.1.cell 0; have k1 := hW.2.1.cell 1; have k2 := hW.2.1.cell 2; have q0 := hW.2.2.1.1; have q1 := hW.2.2.1.2.1; have q2 := hW.2.2.1.2.2; simp only [List.getElem?_toArray, List.getElem?_cons_zero, List.getElem?_cons_succ] at j0 k0 k1 k2; clear hW; go_simp; try with_reducible rfl) ?_
  refine wpS_take HS (by kernel_rfl) (by intro W hW; have j0 := hW.1.cell 0; have k0 := hW.2.1.cell 0; have k1 := hW.2.1.cell 1; have k2 := hW.2.1.cell 2; have q0 := hW.2.2.1.1; have q1 := hW.2.2.1.2.1; have q2 := hW.2.2.1.2.2; simp only [List.getElem?_toArray, List.getElem?_cons_zero, List.getElem?_cons_succ] at j0 k0 k1 k2; clear hW; go_simp; try with_reducible rfl) ?_
  refine wpS_take HS (by kernel_rfl) (by intro W hW; have j0 := hW.1.cell 0; have k0 := hW.2.1.cell 0; have k1 := hW.2.1.cell 1; have k2 := hW.2.1.cell 2; have q0 := hW.2.2.1.1; have q1 := hW.2.2.1.2.1; have q2 := hW.2.2.1.2.2; simp only [List.getElem?_toArray, List.getElem?_cons_zero, List.getElem?_cons_succ] at j0 k0 k1 k2; clear hW; go_simp; try with_reducible rfl) ?_
  refine wpS_take HS (by kernel_rfl) (by intro W hW; have j0 := hW.1.cell 0; have k0 := hW.2.1.cell 0; have k1 := hW.2.1.cell 1; have k2 := hW.2.1.cell 2; have q0 := hW.2.2.1.1; have q1 := hW.2.2.1.2.1; have q2 := hW.2.2.1.2.2; simp only [List.getElem?_toArray, List.getElem?_cons_zero, List.getElem?_cons_succ] at j0 k0 k1 k2; clear hW; go_simp; try with_reducible rfl) ?_
  refine wpS_take HS (by kernel_rfl) (by intro W hW; have j0 := hW.1.cell 0; have k0 := hW.2.1.cell 0; have k1 := hW.2.1.cell 1; have k2 := hW.2.1.cell 2; have q0 := hW.2.2.1.1; have q1 := hW.2.2.1.2.1; have q2 := hW.2.2.1.2.2; simp only [List.getElem?_toArray, List.getElem?_cons_zero, List.getElem?_cons_succ] at j0 k0 k1 k2; clear hW; go_simp; try with_reducible rfl) ?_
  refine wpS_take HS (by kernel_rfl) (by intro W hW; have j0 := hW.1.cell 0; have k0 := hW.2.1.cell 0; have k1 := hW.2.1.cell 1; have k2 := hW.2.1.cell 2; have q0 := hW.2.2.1.1; have q1 := hW.2.2.1.2.1; have q2 := hW.2.2.1.2.2; simp only [List.getElem?_toArray, List.getElem?_cons_zero, List.getElem?_cons_succ] at j0 k0 k1 k2; clear hW; go_simp; try with_reducible rfl) ?_
  refine wpS_take HS (by kernel_rfl) (by intro W hW; have j0 := hW.1.cell 0; have k0 := hW.2.1.cell 0; have k1 := hW.2.1.cell 1; have k2 := hW.2.1.cell 2; have q0 := hW.2.2.1.1; have q1 := hW.2.2.1.2.1; have q2 := hW.2.2.1.2.2; simp only [List.getElem?_toArray, List.getElem?_cons_zero, List.getElem?_cons_succ] at j0 k0 k1 k2; clear hW; go_simp; try with_reducible rfl) ?_
  refine wpS_take HS (by kernel_rfl) (by intro W hW; have j0 := hW.1.cell 0; have k0 := hW.2.1.cell 0; have k1 := hW.2.1.cell 1; have k2 := hW.2.1.cell 2; have q0 := hW.2.2.1.1; have q1 := hW.2.2.1.2.1; have q2 := hW.2.2.1.2.2; simp only [List.getElem?_toArray, List.getElem?_cons_zero, List.getElem?_cons_succ] at j0 k0 k1 k2; clear hW; go_simp; try with_reducible rfl) ?_
  refine wpS_take HS (by kernel_rfl) (by intro W hW; have j0 := hW.1.cell 0; have k0 := hW.2.1.cell 0; have k1 := hW.2.1.cell 1; have k2 := hW.2.1.cell 2; have q0 := hW.2.2.1.1; have q1 := hW.2.2.1.2.1; have q2 := hW.2.2.1.2.2; simp only [List.getElem?_toArray, List.getElem?_cons_zero, List.getElem?_cons_succ] at j0 k0 k1 k2; clear hW; go_simp; try with_reducible rfl) ?_
  refine wpS_take HS (by kernel_rfl) (by intro W hW; have j0 := hW.1.cell 0; have k0 := hW.2.1.cell 0; have k1 := hW.2.1.cell 1; have k2 := hW.2.1.cell 2; have q0 := hW.2.2.1.1; have q1 := hW.2.2.1.2.1; have q2 := hW.2.2.1.2.2; simp only [List.getElem?_toArray, List.getElem?_cons_zero, List.getElem?_cons_succ] at j0 k0 k1 k2; clear hW; go_simp; try with_reducible rfl) ?_
  refine wpS_take HS (by kernel_rfl) (by intro W hW; have j0 := hW.1.cell 0; have k0 := hW.2.1.cell 0; have k1 := hW.2.1.cell 1; have k2 := hW.2.1.cell 2; have q0 := hW.2.2.1.1; have q1 := hW.2.2.1.2.1; have q2 := hW.2.2.1.2.2; simp only [List.getElem?_toArray, List.getElem?_cons_zero, List.getElem?_cons_succ] at j0 k0 k1 k2; clear hW; go_simp; try with_reducible rfl) ?_
  refine wpS_take HS (by kernel_rfl) (by intro W hW; have j0 := hW.1.cell 0; have k0 := hW.2.1.cell 0; have k1 := hW.2.1.cell 1; have k2 := hW.2.1.cell 2; have q0 := hW.2.2.1.1; have q1 := hW.2.2.1.2.1; have q2 := hW.2.2.1.2.2; simp only [List.getElem?_toArray, List.getElem?_cons_zero, List.getElem?_cons_succ] at j0 k0 k1 k2; clear hW; go_simp; try with_reducible rfl) ?_
  refine wpS_take HS (by kernel_rfl) (by intro W hW; have j0 := hW.1.cell 0; have k0 := hW.2.1.cell 0; have k1 := hW.2.1.cell 1; have k2 := hW.2.1.cell 2; have q0 := hW.2.2.1.1; have q1 := hW.2.2.1.2.1; have q2 := hW.2.2.1.2.2; simp only [List.getElem?_toArray, List.getElem?_cons_zero, List.getElem?_cons_succ] at j0 k0 k1 k2; clear hW; go_simp; try with_reducible rfl) ?_
  refine wpS_take HS (by kernel_rfl) (by intro W hW; have j0 := hW.1.cell 0; have k0 := hW.2.1.cell 0; have k1 := hW.2.1.cell 1; have k2 := hW.2.1.cell 2; have q0 := hW.2.2.1.1; have q1 := hW.2.2.1.2.1; have q2 := hW.2.2.1.2.2; simp only [List.getElem?_toArray, List.getElem?_cons_zero, List.getElem?_cons_succ] at j0 k0 k1 k2; clear hW; go_simp; try with_reducible rfl) ?_
  refine wpS_take HS (by kernel_rfl) (by intro W hW; have j0 := hW.1.cell 0; have k0 := hW.2.1.cell 0; have k1 := hW.2.1.cell 1; have k2 := hW.2.1.cell 2; have q0 := hW.2.2.1.1; have q1 := hW.2.2.1.2.1; have q2 := hW.2.2.1.2.2; simp only [List.getElem?_toArray, List.getElem?_cons_zero, List.getElem?_cons_succ] at j0 k0 k1 k2; clear hW; go_simp; try with_reducible rfl) ?_
  refine wpS_take HS (by kernel_rfl) (by intro W hW; have j0 := hW.1.cell 0; have k0 := hW.2.1.cell 0; have k1 := hW.2.1.cell 1; have k2 := hW.2.1.cell 2; have q0 := hW.2.2.1.1; have q1 := hW.2.2.1.2.1; have q2 := hW.2.2.1.2.2; simp only [List.getElem?_toArray, List.getElem?_cons_zero, List.getElem?_cons_succ] at j0 k0 k1 k2; clear hW; go_simp; try with_reducible rfl) ?_
  refine wpS_take HS (by kernel_rfl) (by intro W hW; have j0 := hW.1.cell 0; have k0 := hW.2.1.cell 0; have k1 := hW.2.1.cell 1; have k2 := hW.2.1.cell 2; have q0 := hW.2.2.1.1; have q1 := hW.2.2.1.2.1; have q2 := hW.2.2.1.2.2; simp only [List.getElem?_toArray, List.getElem?_cons_zero, List.getElem?_cons_succ] at j0 k0 k1 k2; clear hW; go_simp; try with_reducible rfl) ?_
  go_simp
  refine wpS_take HS (by kernel_rfl) (fun W _ => exec_key_eq rfl (1, 0, 0) (1, 0, 0) rfl rfl W) ?_
  rw [show decide (((1, 0, 0) : Ky3) = (1, 0, 0)) = true from rfl]
  refine wpS_take HS (by kernel_rfl) (by intro W hW; have j0 := hW.1.cell 0; have k0 := hW.2.1.cell 0; have k1 := hW.2.1.cell 1; have k2 := hW.2.1.cell 2; have q0 := hW.2.2.1.1; have q1 := hW.2.2.1.2.1; have q2 := hW.2.2.1.2.2; simp only [List.getElem?_toArray, List.getElem?_cons_zero, List.getElem?_cons_succ] at j0 k0 k1 k2; clear hW; go_simp; try with_reducible rfl) ?_
  refine wpS_take HS (by kernel_rfl) (by intro W hW; have j0 := hW.1.cell 0; have k0 := hW.2.1.cell 0; have k1 := hW.2.1.cell 1; have k2 := hW.2.1.cell 2; have q0 := hW.2.2.1.1; have q1 := hW.2.2.1.2.1; have q2 := hW.2.2.1.2.2; simp only [List.getElem?_toArray, List.getElem?_cons_zero, List.getElem?_cons_succ] at j0 k0 k1 k2; clear hW; go_simp; try with_reducible rfl) ?_
  refine wpS_take HS (by kernel_rfl) (by intro W hW; have j0 := hW.1.cell 0; have k0 := hW.2.1.cell 0; have k1 := hW.2.1.cell 1; have k2 := hW.2.1.cell 2; have q0 := hW.2.2.1.1; have q1 := hW.2.2.1.2.1; have q2 := hW.2.2.1.2.2; simp only [List.getElem?_toArray, List.getElem?_cons_zero, List.getElem?_cons_succ] at j0 k0 k1 k2; clear hW; go_simp; try with_reducible rfl) ?_
  go_simp
  refine wpS_do fun K hK => ?_
  go_wp2_with fail
  refine (stlen_any w9 g bm 1 f1 1 HS.out.2.2.2).mono ?_
  rintro e w10 ⟨rfl, rfl⟩
  go_wp2_with fail
  refine hK.out _ _ HS.out ?_
  clear hK K
  refine wpS_take HS (by kernel_rfl) (by intro W hW; have j0 := hW.1.cell 0; have k0 := hW.2.1.cell 0; have k1 := hW.2.1.cell 1; have k2 := hW.2.1.cell 2; have q0 := hW.2.2.1.1; have q1 := hW.2.2.1.2.1; have q2 := hW.2.2.1.2.2; simp only [List.getElem?_toArray, List.getElem?_cons_zero, List.getElem?_cons_succ] at j0 k0 k1 k2; clear hW; go_simp; try with_reducible rfl) ?_
  refine wpS_take HS (by kernel_rfl) (by intro W hW; have j0 := hW.1.cell 0; have k0 := hW.2.1.cell 0; have k1 := hW.2.1.cell 1; have k2 := hW.2.1.cell 2; have q0 := hW.2.2.1.1; have q1 := hW.2.2.1.2.1; have q2 := hW.2.2.1.2.2; simp only [List.getElem?_toArray, List.getElem?_cons_zero, List.getElem?_cons_succ] at j0 k0 k1 k2; clear hW; go_simp; try with_reducible rfl) ?_
  refine wpS_take HS (by kernel_rfl) (by intro W hW; have j0 := hW.1.cell 0; have k0 := hW.2.1.cell 0; have k1 := hW.2.1.cell 1; have k2 := hW.2.1.cell 2; have q0 := hW.2.2.1.1; have q1 := hW.2.2.1.2.1; have q2 := hW.2.2.1.2.2; simp only [List.getElem?_toArray, List.getElem?_cons_zero, List.getElem?_cons_succ] at j0 k0 k1 k2; clear hW; go_simp; try with_reducible rfl) ?_
  refine wpS_nil ?_
  go_simp
  go_wp2
  go_ret
  exact ⟨rfl, HB9.out⟩
end Go.Proofs.YtpncbggjngamgaaGreatDoor
namespace Go.Proofs.YtpncbggjngamgaaGreatDoor
set_option linter.unusedVariables false
open Go.RowKit

theorem nth_ne {α : Type} {xs ys : List α} {k : Nat} {x y : α} (h1 : Hid (xs[k]? = some x)) (h2 : Hid (ys[k]? = some y)) (h : x ≠ y) : xs ≠ ys := by
  rintro rfl
  have a := h1.out
  have b := h2.out
  rw [a] at b
  exact h (by injection b)
theorem take_snoc3 {α : Type} {xs ys : List α} {k : Nat} {x y : α} (h1 : Hid (xs[k]? = some x)) (h2 : Hid (ys[k]? = some y)) (h : x = y) (he : Hid (xs.take k = ys.take k)) : Hid (xs.take (k+1) = ys.take (k+1)) := by
  subst h
  have e : xs.take (k+1) = ys.take (k+1) := by rw [List.take_add_one, List.take_add_one, he.out, h1.out, h2.out]
  exact e
theorem cmpK_lt_one {a b : Ky3} (h : ltK a b = true) : cmpK a b = -1 := by
  have h0 := cmpK_lt a b
  rw [h] at h0
  have h1 : cmpK a b < 0 := of_decide_eq_true h0
  have hc : ∀ x y : Int, -1 ≤ cmpI x y := fun x y => by unfold cmpI; split <;> (try split) <;> omega
  have h2 : -1 ≤ cmpK a b := by
    unfold cmpK
    have c1 := hc a.1 b.1
    have c2 := hc a.2.1 b.2.1
    have c3 := hc a.2.2 b.2.2
    generalize cmpI a.1 b.1 = n1 at *
    generalize cmpI a.2.1 b.2.1 = n2 at *
    generalize cmpI a.2.2 b.2.2 = n3 at *
    simp only [firstNZ]
    split
    · split
      · split <;> omega
      · omega
    · omega
  omega
theorem below_grow (w : World) (k : Nat) (os : Array Obj) : Below w.heap.size w (Go.Sort.grow (w.drewN k) os) :=
  ⟨rfl, rfl, rfl, by show w.heap.size ≤ (w.heap ++ os).size; simp, fun i hi => by
    show (w.heap ++ os)[i]? = w.heap[i]?
    rw [Array.getElem?_append_left hi]⟩
theorem exec_key_ne {o : Oper} {ev : Operand → Value} {x y : Operand} {t : TypeId} (ho : o.op = .binOp .neq 68 x y t) (a b : Ky3) (hx : ev x = keyV a) (hy : ev y = keyV b) (W : World) :
    (execOp ev o).run Tryz.prog W = .ok (.value (.bool (!decide (a = b)))) W := by
  unfold execOp
  simp only [ho]
  rw [hx, hy]
  have e1 : (eqGuard .neq 68 x y (keyV a) (keyV b)).run Tryz.prog W = .ok () W := run_eqGuard_agg _ _ _ _ _ _ _ Tryz.eqGuardType68
  simp [binOp, Sem.run_bind, Sem.run_pure, key_eq, e1, Result.andThen_ok]
/-- The cells of a key that stands at an address. -/
def KyAt (w : World) (ad : Addr) (k : Ky3) : Prop := w.cell? ad = some (.int .u8 k.1) ∧ w.cell? ⟨ad.block, ad.off + 1, none⟩ = some (.int .u32 k.2.1) ∧ w.cell? ⟨ad.block, ad.off + 2, none⟩ = some (.int .u32 k.2.2)
theorem KyAt.later {w w' : World} {ad : Addr} {k : Ky3} (h : KyAt w ad k) (hb : Below w.heap.size w w') : KyAt w' ad k := by
  obtain ⟨h0, h1, h2⟩ := h
  have H : ∀ (p : Addr) v, w.cell? p = some v → w'.cell? p = some v := fun p v e => (hb.cell (cell_lt e)).trans e
  exact ⟨H _ _ h0, H _ _ h1, H _ _ h2⟩
/-- A row of keys that can be read. -/
structure Kyl (w : World) (A : Option Addr) (n c : Nat) (ks : List Ky3) : Prop where
  row : Reads w w.heap.size 3 A n (ks.flatMap keyC)
  len : ks.length = n
  cap : n ≤ c ∧ c ≤ 9223372036854775807
theorem Kyl.later {w w' : World} {A : Option Addr} {n c : Nat} {ks : List Ky3} (h : Kyl w A n c ks) (hb : Below w.heap.size w w') : Kyl w' A n c ks := ⟨h.row.later hb, h.len, h.cap⟩
theorem Kyl.at_ {w : World} {A : Option Addr} {n c i : Nat} {ks : List Ky3} (h : Kyl w A n c ks) (hi : i < n) : ∃ ad k, A = some ad ∧ ks[i]? = some k ∧ KyAt w (ad.add (i * 3)) k := by
  obtain ⟨ad, s, e, hb, hs, h0, hj⟩ := rowG_at keyC_len h.row h.len hi
  exact ⟨ad, s, e, hs, h0 _ rfl, hj 1 _ (by decide) rfl, hj 2 _ (by decide) rfl⟩
theorem own_keys {w : World} {base : Nat} {v : Value} {ks : List Ky3} (h : w.ownsRow base 68 3 v ks.length (ks.flatMap keyC)) : ∃ A c, v = .slice A ks.length c ∧ Kyl w A ks.length c ks := by
  obtain ⟨A, c, e, h1, h2, h3⟩ := own_shape_n h
  exact ⟨A, c, e, h3, rfl, h1, h2⟩
set_option maxRecDepth 100000 in
set_option maxHeartbeats 4000000 in
theorem eqKeys_any (A B : Option Addr) (n c m d : Nat) (ks ls : List Ky3) (w : World) (hx : Kyl w A n c ks) (hy : Kyl w B m d ls) :
    Calls Tryz.prog 36 #[.slice A n c, .slice B m d] w fun e w' => e = .returned (.bool (decide (ks = ls))) ∧ Below w.heap.size w w' := by
  have HX := Lib.hid hx
  have HY := Lib.hid hy
  have hc := hx.cap
  have hd := hy.cap
  clear hx hy
  by_cases hnm : n = m
  · subst hnm
    go_enter Tryz.func36, Tryz.ntmps36
    go_wp2
    go_loopw [5] (fun iv wr => ∃ i : Nat, iv = .int .i64 i ∧ i ≤ n ∧ Hid (ks.take i = ls.take i) ∧ Hid (Below w.heap.size w wr)) (fun iv _ => n - (intOf iv).toNat)
    case atStart => exact ⟨0, rfl, Nat.zero_le _, Lib.hid rfl, Lib.hid (Below.refl _ _)⟩
    case round =>
      obtain ⟨i, rfl, hi, htk, hb⟩ := hrel
      by_cases hlt : i < n
      · have hltI : (i : Int) < n := by omega
        obtain ⟨ad, x, hA, hxs, hxa⟩ := HX.out.at_ hlt
        obtain ⟨bd, y, hB, hys, hya⟩ := HY.out.at_ hlt
        subst hA hB
        have HK := Lib.hid (And.intro hxs hys)
        have HS : Hid ((fun W : World => KyAt W (ad.add (i * 3)) x ∧ KyAt W (bd.add (i * 3)) y) wr.drew) := Lib.hid ⟨hxa.later hb.out.drew, hya.later hb.out.drew⟩
        have HB := Lib.hid hb.out.drew
        clear hxs hys hxa hya
        go_wp2
        refine wp_region_s (fun W : World => KyAt W (ad.add (i * 3)) x ∧ KyAt W (bd.add (i * 3)) y) [(0, true), (1, true), (2, true), (4, true), (5, true), (6, true), (3, true), (7, true), (8, true)] (by kernel_rfl) (fun _ d _ _ _ h => by cases d <;> exact h) ?_
        simp only [List.map_cons, List.map_nil, nthOp_zero, nthOp_succ]
        generalize wr.drew = w3 at *
        refine wpS_take HS (by kernel_rfl) (by intro W hW; clear hW; go_simp; try with_reducible rfl) ?_
        refine wpS_take HS (by kernel_rfl) (by intro W hW; clear hW; go_simp; try with_reducible rfl) ?_
        refine wpS_take HS (by kernel_rfl) (by intro W hW; clear hW; go_simp; try with_reducible rfl) ?_
        refine wpS_take HS (by kernel_rfl) (by intro W hW; clear hW; go_simp; try with_reducible rfl) ?_
        refine wpS_take HS (by kernel_rfl) (by intro W hW; clear hW; go_simp; try with_reducible rfl) ?_
        refine wpS_take HS (by kernel_rfl) (by intro W hW; clear hW; go_simp; try with_reducible rfl) ?_
        refine wpS_take HS (by kernel_rfl) (by intro W hW; obtain ⟨q0, q1, q2⟩ := hW.1; go_simp; try with_reducible rfl) ?_
        refine wpS_take HS (by kernel_rfl) (by intro W hW; obtain ⟨q0, q1, q2⟩ := hW.2; go_simp; try with_reducible rfl) ?_
        go_simp
        refine wpS_take HS (by kernel_rfl) (fun W _ => exec_key_ne rfl x y rfl rfl W) ?_
        refine wpS_nil ?_
        by_cases hxy : x = y
        · rw [decide_eq_true hxy]
          have HE := Lib.hid hxy
          clear hxy
          go_wp2
          go_roundw
          case rel => exact ⟨i + 1, by go_num, by omega, take_snoc3 (Lib.hid HK.out.1) (Lib.hid HK.out.2) HE.out htk, HB⟩
          case measure => simp [intOf]; omega
        · rw [decide_eq_false hxy]
          have HE := Lib.hid hxy
          clear hxy
          go_wp2
          go_ret
          exact ⟨by rw [decide_eq_false (nth_ne (Lib.hid HK.out.1) (Lib.hid HK.out.2) HE.out)]; rfl, HB.out⟩
      · obtain rfl : i = n := by omega
        go_wp2
        go_ret
        have h := htk.out
        rw [List.take_of_length_le (by rw [HX.out.len]; exact Nat.le_refl _), List.take_of_length_le (by rw [HY.out.len]; exact Nat.le_refl _)] at h
        exact ⟨by rw [decide_eq_true h]; rfl, hb.out⟩
  · have hne : ks ≠ ls := fun e => hnm (by rw [← HX.out.len, ← HY.out.len, e])
    have dn : ((n : Int) == (m : Int)) = false := by rw [beq_eq_false_iff_ne]; omega
    have dn2 : ((n : Int) != (m : Int)) = true := by simp [bne, dn]
    rw [decide_eq_false hne]
    clear hne
    go_enter Tryz.func36, Tryz.ntmps36
    go_wp2
    go_ret
    exact ⟨rfl, Below.refl _ _⟩
end Go.Proofs.YtpncbggjngamgaaGreatDoor
namespace Go.Proofs.YtpncbggjngamgaaGreatDoor
set_option linter.unusedVariables false
open Go.RowKit

/-- The cells of a head that stands at an address. -/
def HdAt (w : World) (ad : Addr) (h : Hd) : Prop :=
  w.cell? ad = some (.int .u16 h.age) ∧ w.cell? ⟨ad.block, ad.off + 1, none⟩ = some (.int .u8 h.opts) ∧ w.cell? ⟨ad.block, ad.off + 2, none⟩ = some (.int .u8 h.typ) ∧ w.cell? ⟨ad.block, ad.off + 3, none⟩ = some (.int .u32 h.id) ∧
    w.cell? ⟨ad.block, ad.off + 4, none⟩ = some (.int .u32 h.adv) ∧ w.cell? ⟨ad.block, ad.off + 5, none⟩ = some (.int .i32 h.seq) ∧ w.cell? ⟨ad.block, ad.off + 6, none⟩ = some (.int .u16 h.sum) ∧ w.cell? ⟨ad.block, ad.off + 7, none⟩ = some (.int .u16 h.len)
theorem HdAt.later {w w' : World} {ad : Addr} {h : Hd} (a : HdAt w ad h) (hb : Below w.heap.size w w') : HdAt w' ad h := by
  obtain ⟨h0, h1, h2, h3, h4, h5, h6, h7⟩ := a
  have H : ∀ (p : Addr) v, w.cell? p = some v → w'.cell? p = some v := fun p v e => (hb.cell (cell_lt e)).trans e
  exact ⟨H _ _ h0, H _ _ h1, H _ _ h2, H _ _ h3, H _ _ h4, H _ _ h5, H _ _ h6, H _ _ h7⟩
theorem hd_len (h : Hd) : h.cells.length = 8 := rfl
/-- A row of heads that can be read. -/
structure Hdl (w : World) (A : Option Addr) (n c : Nat) (hs : List Hd) : Prop where
  row : Reads w w.heap.size 8 A n (hs.flatMap Hd.cells)
  len : hs.length = n
  cap : n ≤ c ∧ c ≤ 9223372036854775807
theorem Hdl.later {w w' : World} {A : Option Addr} {n c : Nat} {hs : List Hd} (h : Hdl w A n c hs) (hb : Below w.heap.size w w') : Hdl w' A n c hs := ⟨h.row.later hb, h.len, h.cap⟩
theorem Hdl.at_ {w : World} {A : Option Addr} {n c i : Nat} {hs : List Hd} (h : Hdl w A n c hs) (hi : i < n) : ∃ ad k, A = some ad ∧ hs[i]? = some k ∧ HdAt w (ad.add (i * 8)) k := by
  obtain ⟨ad, s, e, hb, hs, h0, hj⟩ := rowG_at hd_len h.row h.len hi
  exact ⟨ad, s, e, hs, h0 _ rfl, hj 1 _ (by decide) rfl, hj 2 _ (by decide) rfl, hj 3 _ (by decide) rfl, hj 4 _ (by decide) rfl, hj 5 _ (by decide) rfl, hj 6 _ (by decide) rfl, hj 7 _ (by decide) rfl⟩
theorem rkey_hd (h : Hd) (w : World) : Calls Tryz.prog 17 #[.agg #[.int .u16 h.age, .int .u8 h.opts, .int .u8 h.typ, .int .u32 h.id, .int .u32 h.adv, .int .i32 h.seq, .int .u16 h.sum, .int .u16 h.len]] w fun e w' => e = .returned (keyV (h.typ, h.id, h.adv)) ∧ Below w.heap.size w w' := rkey_any h w
/-- What is known when a law's store is asked: its keys in order, which are old now. -/
structure AskS (w : World) (g bm : Nat) (f : Ky3 → Option OneE) (N : Nat) (ks : List Ky3) : Prop where
  q : StF w g bm 4096 f N
  ks : KsOf f N ks
  few : FewAt f
  n : N ≤ 1048576
theorem AskS.later {w w' : World} {g bm N : Nat} {f : Ky3 → Option OneE} {ks : List Ky3} (h : AskS w g bm f N ks) (hb : Below w.heap.size w w') : AskS w' g bm f N ks := ⟨h.q.later hb, h.ks, h.few, h.n⟩
theorem ask_due {w : World} {g bm N : Nat} {f : Ky3 → Option OneE} {ks : List Ky3} (h : AskS w g bm f N ks) {t : Int} (ht : 0 ≤ t ∧ t ≤ 9223372036854775807) {D : List Ky3} (hD : dueK f t ks = D) :
    Calls Tryz.prog 16 #[.pointer (some ⟨g, 0, none⟩), .int .i64 t] w fun e w' => ∃ A n c, e = .returned (.slice A n c) ∧ Kyl w' A n c D ∧ Below w.heap.size w w' := by
  refine (stdue_any _ t f N w (eachAt_of h.q ht h.n) h.n).mono ?_
  rintro e w' ⟨v, rfl, ks2, h2, hown, hb⟩
  rw [ks_unique h.ks h2, hD] at hown
  obtain ⟨A, c, rfl, hk⟩ := own_keys hown
  exact ⟨A, _, c, rfl, hk, hb⟩
theorem ask_heads {w : World} {g bm N : Nat} {f : Ky3 → Option OneE} {ks : List Ky3} (h : AskS w g bm f N ks) {t : Int} (ht : 0 ≤ t ∧ t ≤ 9223372036854775807) :
    Calls Tryz.prog 30 #[.pointer (some ⟨g, 0, none⟩), .int .i64 t] w fun e w' => ∃ A c, e = .returned (.slice A N c) ∧ Hdl w' A N c (ks.map (hAt f t)) ∧ Below w.heap.size w w' := by
  refine (stheads_any _ t f N w (eachAt_of h.q ht h.n) h.n).mono ?_
  rintro e w' ⟨v, ks2, rfl, h2, hown, hb⟩
  rw [ks_unique h.ks h2] at hown
  obtain ⟨A, c, rfl, h3, h4, h5⟩ := own_shape_n hown
  exact ⟨A, c, rfl, ⟨h5, by rw [List.length_map, h.ks.len], h3, h4⟩, hb⟩
theorem ask_next {w : World} {g bm N : Nat} {f : Ky3 → Option OneE} {ks : List Ky3} (h : AskS w g bm f N ks) {t : Int} (ht : 0 ≤ t ∧ t ≤ 9223372036854775807) {nx : Option Int} (hx : nextK f t ks = nx) :
    Calls Tryz.prog 15 #[.pointer (some ⟨g, 0, none⟩), .int .i64 t] w fun e w' => e = .returned (.tuple #[.int .i64 (nxB nx), .bool nx.isSome]) ∧ Below w.heap.size w w' := by
  refine (stnext_any _ t f N w (eachAt_of h.q ht h.n) h.n fun k x hk => ⟨g, bm, 4096, rfl, h.q⟩).mono ?_
  rintro e w' ⟨ks2, h2, rfl, hb⟩
  rw [ks_unique h.ks h2, hx]
  exact ⟨rfl, hb⟩
end Go.Proofs.YtpncbggjngamgaaGreatDoor
namespace Go.Proofs.YtpncbggjngamgaaGreatDoor
set_option linter.unusedVariables false
open Go.RowKit

def oneL (x : OneE) : List Value := [.int .u16 x.s.h.age, .int .u8 x.s.h.opts, .int .u8 x.s.h.typ, .int .u32 x.s.h.id, .int .u32 x.s.h.adv, .int .i32 x.s.h.seq, .int .u16 x.s.h.sum, .int .u16 x.s.h.len, .slice x.s.A x.s.n x.s.c, .int .i64 x.at_]
theorem oneL_len (x : OneE) : (oneL x).length = 10 := rfl
theorem oneL_one (x : OneE) : ∀ u ∈ oneL x, u.oneCell' = true := by intro u hu; simp [oneL] at hu; rcases hu with rfl | rfl | rfl | rfl | rfl | rfl | rfl | rfl | rfl | rfl <;> rfl
/-- The reference's store: its row, new since base. -/
structure RfS (base : Nat) (w : World) (g : Nat) (v : Value) (most : Int) (xs : List OneE) : Prop where
  blk : Blk w g 31 #[v, .int .i64 most]
  row : w.ownsRow base 108 10 v xs.length (xs.flatMap oneL)
  own : ∀ x ∈ xs, x.s.ok base w ∧ (0 ≤ x.at_ ∧ x.at_ ≤ 9223372036854775807)
theorem RfS.later {base : Nat} {w w' : World} {g : Nat} {v : Value} {most : Int} {xs : List OneE} (h : RfS base w g v most xs) (hb : Below w.heap.size w w') : RfS base w' g v most xs :=
  ⟨h.blk.later hb, own_kept h.row (Kept.of_new hb (fun _ => False)) (fun _ _ h => h), fun x hx => ⟨(h.own x hx).1.later hb, (h.own x hx).2⟩⟩
theorem RfS.good {base : Nat} {w : World} {g : Nat} {v : Value} {most : Int} {xs : List OneE} (h : RfS base w g v most xs) : ∀ x ∈ xs, x.s.rd w ∧ (0 ≤ x.at_ ∧ x.at_ ≤ 9223372036854775807) := fun x hx => ⟨(h.own x hx).1.rd, (h.own x hx).2⟩
/-- The cells of a state with its time that stands at an address. -/
def OneAt (w : World) (ad : Addr) (x : OneE) : Prop :=
  w.cell? ad = some (.int .u16 x.s.h.age) ∧ w.cell? ⟨ad.block, ad.off + 1, none⟩ = some (.int .u8 x.s.h.opts) ∧ w.cell? ⟨ad.block, ad.off + 2, none⟩ = some (.int .u8 x.s.h.typ) ∧ w.cell? ⟨ad.block, ad.off + 3, none⟩ = some (.int .u32 x.s.h.id) ∧ w.cell? ⟨ad.block, ad.off + 4, none⟩ = some (.int .u32 x.s.h.adv) ∧
    w.cell? ⟨ad.block, ad.off + 5, none⟩ = some (.int .i32 x.s.h.seq) ∧ w.cell? ⟨ad.block, ad.off + 6, none⟩ = some (.int .u16 x.s.h.sum) ∧ w.cell? ⟨ad.block, ad.off + 7, none⟩ = some (.int .u16 x.s.h.len) ∧ w.cell? ⟨ad.block, ad.off + 8, none⟩ = some (.slice x.s.A x.s.n x.s.c) ∧ w.cell? ⟨ad.block, ad.off + 9, none⟩ = some (.int .i64 x.at_)
theorem OneAt.later {w w' : World} {ad : Addr} {x : OneE} (h : OneAt w ad x) (hb : Below w.heap.size w w') : OneAt w' ad x := by
  obtain ⟨h0, h1, h2, h3, h4, h5, h6, h7, h8, h9⟩ := h
  have H : ∀ (p : Addr) v, w.cell? p = some v → w'.cell? p = some v := fun p v e => (hb.cell (cell_lt e)).trans e
  exact ⟨H _ _ h0, H _ _ h1, H _ _ h2, H _ _ h3, H _ _ h4, H _ _ h5, H _ _ h6, H _ _ h7, H _ _ h8, H _ _ h9⟩
theorem RfS.shape {base : Nat} {w : World} {g : Nat} {v : Value} {most : Int} {xs : List OneE} (h : RfS base w g v most xs) : ∃ A n c, v = .slice A n c ∧ xs.length = n ∧ n ≤ c ∧ c ≤ 9223372036854775807 := by
  obtain ⟨A, c, e, h1, h2, _⟩ := own_shape_n h.row
  exact ⟨A, _, c, e, rfl, h1, h2⟩
theorem RfS.at_ {base : Nat} {w : World} {g n c : Nat} {A : Option Addr} {most : Int} {xs : List OneE} (h : RfS base w g (.slice A n c) most xs) {i : Nat} (hi : i < n) (hl : xs.length = n) : ∃ ad x, A = some ad ∧ xs[i]? = some x ∧ OneAt w (ad.add (i * 10)) x := by
  obtain ⟨A', c', e, h1, h2, h3⟩ := own_shape_n h.row
  injection e with e1 e2 e3
  subst e1
  rw [hl] at h3
  obtain ⟨ad, s, e, hb, hs, h0, hj⟩ := rowG_at oneL_len h3 hl hi
  exact ⟨ad, s, e, hs, h0 _ rfl, hj 1 _ (by decide) rfl, hj 2 _ (by decide) rfl, hj 3 _ (by decide) rfl, hj 4 _ (by decide) rfl, hj 5 _ (by decide) rfl, hj 6 _ (by decide) rfl, hj 7 _ (by decide) rfl, hj 8 _ (by decide) rfl, hj 9 _ (by decide) rfl⟩
/-- Where a key is found: its place, or -1. -/
def FoundAt (xs : List OneE) (k : Ky3) (z : Int) : Prop := (∃ (i : Nat) (x : OneE), z = i ∧ xs[i]? = some x ∧ x.s.key = k ∧ ∀ j y, j < i → xs[j]? = some y → y.s.key ≠ k) ∨ (z = -1 ∧ ∀ x ∈ xs, x.s.key ≠ k)
set_option maxRecDepth 100000 in
set_option maxHeartbeats 4000000 in
theorem find11 (base : Nat) (w : World) (g : Nat) (v : Value) (most : Int) (xs : List OneE) (q : RfS base w g v most xs) (k : Ky3) :
    Calls Tryz.prog 66 #[.pointer (some ⟨g, 0, none⟩), keyV k] w fun e w' => ∃ z, e = .returned (.int .i64 z) ∧ FoundAt xs k z ∧ Below w.heap.size w w' := by
  obtain ⟨k1, k2, k3⟩ := k
  obtain ⟨A, n, c, rfl, hl, hc1, hc2⟩ := q.shape
  have hb1 : Below w.heap.size w (w.alloc (.cells #[.int .u8 k1, .int .u32 k2, .int .u32 k3] 68)) := (Below.refl _ _).alloc (Nat.le_refl _) _
  have HQ := Lib.hid (q.later hb1)
  have HK : Hid (Blk (w.alloc (.cells #[.int .u8 k1, .int .u32 k2, .int .u32 k3] 68)) w.heap.size 68 #[.int .u8 k1, .int .u32 k2, .int .u32 k3]) := Lib.hid (Blk.new _ _ _)
  have HB1 := Lib.hid hb1
  have HL := Lib.hid hl
  clear q hb1 hl
  go_enter Tryz.func66, Tryz.ntmps66
  go_wp2_with fail
  generalize w.alloc (.cells #[.int .u8 k1, .int .u32 k2, .int .u32 k3] 68) = w1 at *
  go_loopw [5] (fun iv wr => ∃ i : Nat, iv = .int .i64 i ∧ i ≤ n ∧ Hid (∀ j y, j < i → xs[j]? = some y → y.s.key ≠ (k1, k2, k3)) ∧ Hid (Below w1.heap.size w1 wr)) (fun iv _ => n - (intOf iv).toNat)
  case atStart => exact ⟨0, rfl, Nat.zero_le _, Lib.hid fun j y h => by omega, Lib.hid (Below.refl _ _)⟩
  case round =>
    obtain ⟨i, rfl, hi, hno, hb⟩ := hrel
    have HQr := Lib.hid (HQ.out.later hb.out)
    have g0 := HQr.out.blk.cell 0
    simp only [List.getElem?_toArray, List.getElem?_cons_zero, List.getElem?_cons_succ] at g0
    by_cases hlt : i < n
    · have hltI : (i : Int) < n := by omega
      obtain ⟨ad, x, hA, hxs, hxa⟩ := HQr.out.at_ hlt HL.out
      subst hA
      have HX := Lib.hid hxs
      have hbd : Below wr.heap.size wr wr.drew := (Below.refl _ _).drew
      have HS : Hid ((fun W : World => Blk W g 31 #[.slice (some ad) n c, .int .i64 most] ∧ OneAt W (ad.add (i * 10)) x ∧ Blk W w.heap.size 68 #[.int .u8 k1, .int .u32 k2, .int .u32 k3]) wr.drew) := Lib.hid ⟨HQr.out.blk.later hbd, hxa.later hbd, (HK.out.later hb.out).later hbd⟩
      have HB := Lib.hid hb.out.drew
      go_wp2_with fail
      clear hxs hxa hbd g0
      refine wp_region_s (fun W : World => Blk W g 31 #[.slice (some ad) n c, .int .i64 most] ∧ OneAt W (ad.add (i * 10)) x ∧ Blk W w.heap.size 68 #[.int .u8 k1, .int .u32 k2, .int .u32 k3]) [(0, true), (1, true), (2, true), (4, true), (3, true), (5, true), (6, true), (7, true), (8, true), (10, true), (9, false), (11, true)] (by kernel_rfl) (fun _ d _ _ _ h => by cases d <;> exact h) ?_
      simp only [List.map_cons, List.map_nil, nthOp_zero, nthOp_succ]
      generalize wr.drew = w3 at *
      refine wpS_take HS (by kernel_rfl) (by intro W hW; clear hW; go_simp; try with_reducible rfl) ?_
      refine wpS_take HS (by kernel_rfl) (by intro W hW; clear hW; go_simp; try with_reducible rfl) ?_
      refine wpS_take HS (by kernel_rfl) (by intro W hW; clear hW; go_simp; try with_reducible rfl) ?_
      refine wpS_take HS (by kernel_rfl) (by intro W hW; clear hW; go_simp; try with_reducible rfl) ?_
      refine wpS_take HS (by kernel_rfl) (by intro W hW; have b0 := hW.1.cell 0; simp only [List.getElem?_toArray, List.getElem?_cons_zero, List.getElem?_cons_succ] at b0; clear hW; go_simp; try with_reducible rfl) ?_
      refine wpS_take HS (by kernel_rfl) (by intro W hW; clear hW; go_simp; try with_reducible rfl) ?_
      refine wpS_take HS (by kernel_rfl) (by intro W hW; clear hW; go_simp; try with_reducible rfl) ?_
      refine wpS_take HS (by kernel_rfl) (by intro W hW; clear hW; go_simp; try with_reducible rfl) ?_
      refine wpS_take HS (by kernel_rfl) (by intro W hW; obtain ⟨q0, q1, q2, q3, q4, q5, q6, q7, q8, q9⟩ := hW.2.1; clear hW; go_simp; try with_reducible rfl) ?_
      refine wpS_take HS (by kernel_rfl) (by intro W hW; have b0 := hW.2.2.cell 0; have b1 := hW.2.2.cell 1; have b2 := hW.2.2.cell 2; simp only [List.getElem?_toArray, List.getElem?_cons_zero, List.getElem?_cons_succ] at b0 b1 b2; clear hW; go_simp; try with_reducible rfl) ?_
      go_simp
      refine wpS_do fun K hK => ?_
      go_wp2_with fail
      refine (rkey_hd x.s.h w3).mono ?_
      rintro e w4 ⟨rfl, hb4⟩
      have HS4 : Hid ((fun W : World => Blk W g 31 #[.slice (some ad) n c, .int .i64 most] ∧ OneAt W (ad.add (i * 10)) x ∧ Blk W w.heap.size 68 #[.int .u8 k1, .int .u32 k2, .int .u32 k3]) w4) := Lib.hid ⟨HS.out.1.later hb4, HS.out.2.1.later hb4, HS.out.2.2.later hb4⟩
      have HB4 := Lib.hid (below_then HB.out hb4)
      clear hb4 HS HB
      go_wp2_with fail
      refine hK.out _ _ HS4.out ?_
      clear hK K
      refine wpS_take HS4 (by kernel_rfl) (fun W _ => exec_key_eq rfl (x.s.h.typ, x.s.h.id, x.s.h.adv) (k1, k2, k3) rfl rfl W) ?_
      refine wpS_nil ?_
      by_cases hkk : (x.s.h.typ, x.s.h.id, x.s.h.adv) = (k1, k2, k3)
      · rw [decide_eq_true hkk]
        have HE := Lib.hid hkk
        clear hkk
        go_simp
        go_wp2_with fail
        go_ret
        exact ⟨_, rfl, .inl ⟨i, x, rfl, HX.out, HE.out, hno.out⟩, below_then HB1.out HB4.out⟩
      · rw [decide_eq_false hkk]
        have HE := Lib.hid hkk
        clear hkk
        go_simp
        go_wp2_with fail
        go_roundw
        case rel =>
          refine ⟨i + 1, by go_num, by omega, Lib.hid fun j y hj e1 => ?_, HB4⟩
          by_cases hji : j < i
          · exact hno.out j y hji e1
          · obtain rfl : j = i := by omega
            rw [HX.out] at e1
            injection e1 with e1
            subst e1
            exact HE.out
        case measure => simp [intOf]; omega
    · obtain rfl : i = n := by omega
      go_wp2_with fail
      go_ret
      refine ⟨_, rfl, .inr ⟨rfl, fun x hx => ?_⟩, below_then HB1.out hb.out⟩
      obtain ⟨j, hj⟩ := List.getElem?_of_mem hx
      exact hno.out j x (by have := (List.getElem?_eq_some_iff.1 hj).1; have := HL.out; omega) hj
end Go.Proofs.YtpncbggjngamgaaGreatDoor
namespace Go.Proofs.YtpncbggjngamgaaGreatDoor
set_option linter.unusedVariables false
open Go.RowKit

/-- The state of a key in a row. -/
def rowAt (xs : List OneE) (k : Ky3) : Option OneE := xs.find? fun x => decide (x.s.key = k)
theorem rowAt_of {xs : List OneE} {k : Ky3} {z : Int} (h : FoundAt xs k z) : (∃ (i : Nat) (x : OneE), z = i ∧ xs[i]? = some x ∧ rowAt xs k = some x) ∨ (z = -1 ∧ rowAt xs k = none) := by
  rcases h with ⟨i, x, e, hx, hk, hno⟩ | ⟨e, hno⟩
  · refine .inl ⟨i, x, e, hx, ?_⟩
    unfold rowAt
    rw [List.find?_eq_some_iff_getElem]
    have hi := (List.getElem?_eq_some_iff.1 hx).1
    have he := (List.getElem?_eq_some_iff.1 hx).2
    refine ⟨decide_eq_true hk, i, hi, he, fun j hj => ?_⟩
    have := hno j (xs[j]'(by omega)) hj (List.getElem?_eq_getElem _)
    simpa using this
  · refine .inr ⟨e, ?_⟩
    unfold rowAt
    rw [List.find?_eq_none]
    intro x hx
    simpa using hno x hx
theorem rlen11 (base : Nat) (w : World) (g : Nat) (v : Value) (most : Int) (xs : List OneE) (q : RfS base w g v most xs) :
    Calls Tryz.prog 10 #[.pointer (some ⟨g, 0, none⟩)] w fun e w' => e = .returned (.int .i64 (xs.length : Int)) ∧ w = w' := by
  obtain ⟨A, n, c, rfl, hl, hc1, hc2⟩ := q.shape
  have g0 := q.blk.cell 0
  simp only [List.getElem?_toArray, List.getElem?_cons_zero, List.getElem?_cons_succ] at g0
  have HL := Lib.hid hl
  clear q hl
  go_enter Tryz.func10, Tryz.ntmps10
  go_wp2
  go_ret
  exact ⟨by rw [HL.out]; rfl, rfl⟩
set_option maxRecDepth 100000 in
set_option maxHeartbeats 4000000 in
theorem when11 (base : Nat) (w : World) (g : Nat) (v : Value) (most : Int) (xs : List OneE) (q : RfS base w g v most xs) (k : Ky3) :
    Calls Tryz.prog 27 #[.pointer (some ⟨g, 0, none⟩), keyV k] w fun e w' => (∃ z b, e = .returned (.tuple #[.int .i64 z, .bool b]) ∧ ((∃ x, rowAt xs k = some x ∧ z = x.at_ ∧ b = true) ∨ (rowAt xs k = none ∧ z = 0 ∧ b = false))) ∧ Below w.heap.size w w' := by
  obtain ⟨k1, k2, k3⟩ := k
  obtain ⟨A, n, c, rfl, hl, hc1, hc2⟩ := q.shape
  have hb1 : Below w.heap.size w (w.alloc (.cells #[.int .u8 k1, .int .u32 k2, .int .u32 k3] 68)) := (Below.refl _ _).alloc (Nat.le_refl _) _
  have HQ := Lib.hid (q.later hb1)
  have hk : Blk (w.alloc (.cells #[.int .u8 k1, .int .u32 k2, .int .u32 k3] 68)) w.heap.size 68 #[.int .u8 k1, .int .u32 k2, .int .u32 k3] := Blk.new _ _ _
  have b0 := hk.cell 0; have b1 := hk.cell 1; have b2 := hk.cell 2
  simp only [List.getElem?_toArray, List.getElem?_cons_zero, List.getElem?_cons_succ] at b0 b1 b2
  have HB1 := Lib.hid hb1
  have HL := Lib.hid hl
  clear q hb1 hl hk
  go_enter Tryz.func27, Tryz.ntmps27
  go_wp2_with fail
  refine (find11 base _ g _ most xs HQ.out (k1, k2, k3)).mono ?_
  rintro e w2 ⟨z, rfl, hz, hb2⟩
  have HQ2 := Lib.hid (HQ.out.later hb2)
  have HB2 := Lib.hid (below_then HB1.out hb2)
  clear hb2 HQ HB1 b0 b1 b2
  have g0 := HQ2.out.blk.cell 0
  simp only [List.getElem?_toArray, List.getElem?_cons_zero, List.getElem?_cons_succ] at g0
  rcases rowAt_of hz with ⟨i, x, rfl, hx, hr⟩ | ⟨rfl, hr⟩
  · have hin : i < n := by have := (List.getElem?_eq_some_iff.1 hx).1; have := HL.out; omega
    have hinI : (i : Int) < n := by omega
    obtain ⟨ad, x', hA, hx', hxa⟩ := HQ2.out.at_ hin HL.out
    rw [hx] at hx'
    injection hx' with hx'
    subst hx' hA
    have q9 := hxa.2.2.2.2.2.2.2.2.2
    have HR := Lib.hid hr
    have di : decide ((i : Int) < 0) = false := decide_eq_false (by omega)
    clear hz hx hr hxa
    go_wp2_with fail
    go_ret2
    exact ⟨⟨_, _, rfl, .inl ⟨x, HR.out, rfl, rfl⟩⟩, HB2.out⟩
  · have HR := Lib.hid hr
    clear hz hr
    go_wp2_with fail
    go_ret2
    exact ⟨⟨_, _, rfl, .inr ⟨HR.out, rfl, rfl⟩⟩, HB2.out⟩
set_option maxRecDepth 100000 in
set_option maxHeartbeats 4000000 in
theorem get11 (base : Nat) (w : World) (g : Nat) (v : Value) (most : Int) (xs : List OneE) (q : RfS base w g v most xs) (k : Ky3) (now : Int) (hn : 0 ≤ now ∧ now ≤ 9223372036854775807) :
    Calls Tryz.prog 24 #[.pointer (some ⟨g, 0, none⟩), .int .i64 now, keyV k] w fun e w' => (∀ x, rowAt xs k = some x → GetAt w w' x now e) ∧ (rowAt xs k = none → e = .returned (.tuple #[zeroSt, .bool false]) ∧ Below w.heap.size w w') := by
  obtain ⟨k1, k2, k3⟩ := k
  obtain ⟨A, n, c, rfl, hl, hc1, hc2⟩ := q.shape
  have hb1 : Below w.heap.size w ((w.alloc (.cells #[.int .u8 k1, .int .u32 k2, .int .u32 k3] 68)).alloc (.cells #[.int .u16 0, .int .u8 0, .int .u8 0, .int .u32 0, .int .u32 0, .int .i32 0, .int .u16 0, .int .u16 0, .slice none 0 0] 61)) := below_two _ _ _
  have HQ := Lib.hid (q.later hb1)
  have hk : Blk ((w.alloc (.cells #[.int .u8 k1, .int .u32 k2, .int .u32 k3] 68)).alloc (.cells #[.int .u16 0, .int .u8 0, .int .u8 0, .int .u32 0, .int .u32 0, .int .i32 0, .int .u16 0, .int .u16 0, .slice none 0 0] 61)) w.heap.size 68 #[.int .u8 k1, .int .u32 k2, .int .u32 k3] := (Blk.new _ _ _).alloc _
  have HZ : Hid (Blk ((w.alloc (.cells #[.int .u8 k1, .int .u32 k2, .int .u32 k3] 68)).alloc (.cells #[.int .u16 0, .int .u8 0, .int .u8 0, .int .u32 0, .int .u32 0, .int .i32 0, .int .u16 0, .int .u16 0, .slice none 0 0] 61)) (w.heap.size + 1) 61 #[.int .u16 0, .int .u8 0, .int .u8 0, .int .u32 0, .int .u32 0, .int .i32 0, .int .u16 0, .int .u16 0, .slice none 0 0]) := new_at _ _ _
  have b0 := hk.cell 0; have b1 := hk.cell 1; have b2 := hk.cell 2
  simp only [List.getElem?_toArray, List.getElem?_cons_zero, List.getElem?_cons_succ] at b0 b1 b2
  have HB1 := Lib.hid hb1
  have HL := Lib.hid hl
  have dn : decide (now < 0) = false := decide_eq_false (by omega)
  clear q hb1 hl hk
  go_enter Tryz.func24, Tryz.ntmps24
  go_wp2_with fail
  refine (find11 base _ g _ most xs HQ.out (k1, k2, k3)).mono ?_
  rintro e w2 ⟨z, rfl, hz, hb2⟩
  have HQ2 := Lib.hid (HQ.out.later hb2)
  have HB2 := Lib.hid (below_then HB1.out hb2)
  have HZ2 := Lib.hid (HZ.out.later hb2)
  clear hb2 HQ HB1 HZ b0 b1 b2
  have g0 := HQ2.out.blk.cell 0
  simp only [List.getElem?_toArray, List.getElem?_cons_zero, List.getElem?_cons_succ] at g0
  rcases rowAt_of hz with ⟨i, x, rfl, hx, hr⟩ | ⟨rfl, hr⟩
  · have hin : i < n := by have := (List.getElem?_eq_some_iff.1 hx).1; have := HL.out; omega
    have hinI : (i : Int) < n := by omega
    obtain ⟨ad, x', hA, hx', hxa⟩ := HQ2.out.at_ hin HL.out
    rw [hx] at hx'
    injection hx' with hx'
    subst hx' hA
    have HR := Lib.hid hr
    have hgd := HQ2.out.good x (List.mem_of_getElem? hx)
    have HAt := Lib.hid (at11 x now w2 hgd.1 hgd.2 hn)
    have di : decide ((i : Int) < 0) = false := decide_eq_false (by omega)
    obtain ⟨q0, q1, q2, q3, q4, q5, q6, q7, q8, q9⟩ := hxa
    clear hz hx hr hgd
    go_wp2_with fail
    refine HAt.out.mono ?_
    rintro e w3 ⟨s', rfl, h1, h2, h3, h4, h5⟩
    have HT := Lib.hid (And.intro h1 (And.intro h2 (And.intro h3 (And.intro h4 h5))))
    have HZ3 := Lib.hid (HZ2.out.later h5)
    clear h1 h2 h3 h4 h5 HAt q0 q1 q2 q3 q4 q5 q6 q7 q8 q9 g0
    go_wp2_with (refine wpList_store_row rfl 61 _ _ rfl (w.heap.size + 1) #[.int .u16 s'.h.age, .int .u8 s'.h.opts, .int .u8 s'.h.typ, .int .u32 s'.h.id, .int .u32 s'.h.adv, .int .i32 s'.h.seq, .int .u16 s'.h.sum, .int .u16 s'.h.len, .slice s'.A s'.n s'.c] rfl rfl 61 _ HZ3.out info_state rfl (by simp [Value.oneCell']) ?_)
    refine bodyPost_ret (results_cell_row_tmp rfl _ _ (w.heap.size + 1) 61 #[.int .u16 s'.h.age, .int .u8 s'.h.opts, .int .u8 s'.h.typ, .int .u32 s'.h.id, .int .u32 s'.h.adv, .int .i32 s'.h.seq, .int .u16 s'.h.sum, .int .u16 s'.h.len, .slice s'.A s'.n s'.c] (0, 0) _ rfl (HZ3.out.setRow _) Tryz.underlying61 rfl info_state) rfl ?_
    refine ⟨fun y hy => ?_, fun hy => (by rw [HR.out] at hy; cases hy)⟩
    have hxe : y = x := by have := hy.symm.trans HR.out; injection this
    subst hxe
    have hsz := HB2.out.size
    refine ⟨s', rfl, HT.out.1, ?_, HT.out.2.2.1, HT.out.2.2.2.1, below_setRow (below_then HB2.out HT.out.2.2.2.2) (by omega) _⟩
    have h := HT.out.2.1.mono hsz
    exact ⟨h.head, own_row h.body HZ3.out (by decide) _, h.oct, h.len⟩
  · have HR := Lib.hid hr
    clear hz hr
    go_wp2_with (refine wpList_store_row rfl 61 _ _ rfl (w.heap.size + 1) #[.int .u16 0, .int .u8 0, .int .u8 0, .int .u32 0, .int .u32 0, .int .i32 0, .int .u16 0, .int .u16 0, .slice none 0 0] rfl rfl 61 _ HZ2.out info_state rfl (by simp [Value.oneCell']) ?_)
    refine bodyPost_ret (results_cell_row_tmp rfl _ _ (w.heap.size + 1) 61 #[.int .u16 0, .int .u8 0, .int .u8 0, .int .u32 0, .int .u32 0, .int .i32 0, .int .u16 0, .int .u16 0, .slice none 0 0] (0, 0) _ rfl (HZ2.out.setRow _) Tryz.underlying61 rfl info_state) rfl ?_
    exact ⟨fun x hx => (by rw [HR.out] at hx; cases hx), fun _ => ⟨rfl, below_setRow HB2.out (by omega) _⟩⟩
end Go.Proofs.YtpncbggjngamgaaGreatDoor
