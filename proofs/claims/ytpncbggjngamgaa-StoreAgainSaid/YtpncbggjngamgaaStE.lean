/-
  EqState; how states and rows of Op come in. Printed by gen_ste.py out of XPk0.
-/
import Derived.Test.YtpncbggjngamgaaSto4
import Derived.Test.YtpncbggjngamgaaRefA
import Derived.Test.YtpncbggjngamgaaFlat
import Derived.ChangeArms
import Derived.WideShapes
import Derived.OpenShut
import Derived.SizedLaws
namespace Go.Proofs.Ytpncbggjngamgaa
set_option linter.unusedVariables false
open Go.RowKit Go.ChangeShapes Go.WideShapes
set_option maxRecDepth 100000

theorem hd_fields : (Try.prog.fieldsOf 28).toList = [{ name := "Age", type := 25, offset := 0, embedded := false, tag := "", pkgPath := "", byteOffset := 0 }, { name := "Opts", type := 5, offset := 1, embedded := false, tag := "", pkgPath := "", byteOffset := 2 }, { name := "Type", type := 5, offset := 2, embedded := false, tag := "", pkgPath := "", byteOffset := 3 }, { name := "ID", type := 26, offset := 3, embedded := false, tag := "", pkgPath := "", byteOffset := 4 }, { name := "Adv", type := 26, offset := 4, embedded := false, tag := "", pkgPath := "", byteOffset := 8 }, { name := "Seq", type := 21, offset := 5, embedded := false, tag := "", pkgPath := "", byteOffset := 12 }, { name := "Sum", type := 25, offset := 6, embedded := false, tag := "", pkgPath := "", byteOffset := 16 }, { name := "Len", type := 25, offset := 7, embedded := false, tag := "", pkgPath := "", byteOffset := 18 }] := by kernel_rfl
def eqHd (a b : Hd) : Bool := decide (a.age = b.age) && decide (a.opts = b.opts) && decide (a.typ = b.typ) && decide (a.id = b.id) && decide (a.adv = b.adv) && decide (a.seq = b.seq) && decide (a.sum = b.sum) && decide (a.len = b.len)
theorem eqHd_iff (a b : Hd) : eqHd a b = true ↔ a = b := by
  obtain ⟨a1, a2, a3, a4, a5, a6, a7, a8⟩ := a
  obtain ⟨b1, b2, b3, b4, b5, b6, b7, b8⟩ := b
  unfold eqHd
  simp [and_assoc]
theorem hd_eq (a b : Hd) (w : World) : (Op.equalIn 10000 28 (.agg #[.int .u16 a.age, .int .u8 a.opts, .int .u8 a.typ, .int .u32 a.id, .int .u32 a.adv, .int .i32 a.seq, .int .u16 a.sum, .int .u16 a.len]) (.agg #[.int .u16 b.age, .int .u8 b.opts, .int .u8 b.typ, .int .u32 b.id, .int .u32 b.adv, .int .i32 b.seq, .int .u16 b.sum, .int .u16 b.len])).run Try.prog w = .ok (eqHd a b) w := by
  obtain ⟨a1, a2, a3, a4, a5, a6, a7, a8⟩ := a
  obtain ⟨b1, b2, b3, b4, b5, b6, b7, b8⟩ := b
  rw [show (10000 : Nat) = 9999 + 1 from rfl, run_equalIn_agg w 9999 28 _ _ (by kernel_rfl) (by kernel_rfl), hd_fields]
  unfold eqHd
  go_simp
  by_cases h1 : a1 = b1
  · by_cases h2 : a2 = b2
    · by_cases h3 : a3 = b3
      · by_cases h4 : a4 = b4
        · by_cases h5 : a5 = b5
          · by_cases h6 : a6 = b6
            · by_cases h7 : a7 = b7 <;> by_cases h8 : a8 = b8 <;> simp [h1, h2, h3, h4, h5, h6, h7, h8]
            · simp [h1, h2, h3, h4, h5, h6]
          · simp [h1, h2, h3, h4, h5]
        · simp [h1, h2, h3, h4]
      · simp [h1, h2, h3]
    · simp [h1, h2]
  · simp [h1]
def eqS (s t : SE) : Bool := eqHd s.h t.h && decide (s.B = t.B)
set_option maxRecDepth 100000 in
set_option maxHeartbeats 4000000 in
theorem eqState_any (s t : SE) (w : World) (hs : s.rd w) (ht : t.rd w) : Calls Try.prog 20 #[s.v, t.v] w fun e w' => e = .returned (.bool (eqS s t)) ∧ Below w.heap.size w w' := by
  obtain ⟨h, A, n, c, X⟩ := s
  obtain ⟨k, A2, n2, c2, Y⟩ := t
  have X1 : Hid (Blk ((w.alloc (.cells (stC h A n c) 31)).alloc (.cells (stC k A2 n2 c2) 31)) w.heap.size 31 (stC h A n c)) := Lib.hid ((Blk.new _ _ _).alloc _)
  have X2 : Hid (Blk ((w.alloc (.cells (stC h A n c) 31)).alloc (.cells (stC k A2 n2 c2) 31)) (w.heap.size + 1) 31 (stC k A2 n2 c2)) := new_at _ _ _
  have HW : Hid (Below w.heap.size w ((w.alloc (.cells (stC h A n c) 31)).alloc (.cells (stC k A2 n2 c2) 31))) := below_two _ _ _
  have HD := Lib.hid (fun (W : World) (hW : Below w.heap.size w W) => eqBytes_any A A2 n c n2 c2 X Y W _ _ (hs.body.later hW) (ht.body.later hW) (by have := hs.len; simp only at this; omega) (by have := ht.len; simp only at this; omega))
  clear hs ht
  obtain ⟨a0, a1, a2, a3, a4, a5, a6, a7, a8⟩ := stC_facts X1.out
  obtain ⟨b0, b1, b2, b3, b4, b5, b6, b7, b8⟩ := stC_facts X2.out
  show Calls Try.prog 20 #[stV h A n c, stV k A2 n2 c2] w _
  have hz : eqS ⟨h, A, n, c, X⟩ ⟨k, A2, n2, c2, Y⟩ = (eqHd h k && decide (X = Y)) := rfl
  generalize decide (X = Y) = dd at *
  obtain ⟨dh, hdh⟩ : ∃ dh, eqHd h k = dh := ⟨_, rfl⟩
  have hq : ∀ W : World, (Op.equalIn 10000 28 (.agg #[.int .u16 h.age, .int .u8 h.opts, .int .u8 h.typ, .int .u32 h.id, .int .u32 h.adv, .int .i32 h.seq, .int .u16 h.sum, .int .u16 h.len]) (.agg #[.int .u16 k.age, .int .u8 k.opts, .int .u8 k.typ, .int .u32 k.id, .int .u32 k.adv, .int .i32 k.seq, .int .u16 k.sum, .int .u16 k.len])).run Try.prog W = .ok dh W := fun W => by rw [hd_eq, hdh]
  rw [hdh] at hz
  clear hdh
  cases dh
  · go_enter Try.func20, Try.ntmps20
    unfold stC at *
    go_wp2_with fail
    go_ret
    exact ⟨by rw [hz]; try rfl, HW.out⟩
  · go_enter Try.func20, Try.ntmps20
    unfold stC at *
    go_wp2_with fail
    refine (HD.out _ HW.out).mono ?_
    rintro e w1 ⟨rfl, q, rfl⟩
    go_wp2_with fail
    go_ret
    exact ⟨by rw [hz]; try rfl, below_drewN HW.out q⟩
set_option maxRecDepth 100000 in
theorem head_of {H : Type} {enc : TypeId × Value → H} {w : World} {held : Bool} (fuel : Nat) (cs : List Value) (x : DataW H × List MemPlace) (h : DataW.trod enc Try.prog w 0 (fun _ => true) held fuel 28 cs = some x) :
    ∃ h : Hd, cs = h.cells ∧ h.ok ∧ ((∀ N ∈ x.1.weights Try.prog 28, N ≤ reachBytes) → True) := by
  obtain ⟨xs, n, _, hxw, hl, hxl, hf⟩ := DataW.trod_struct Try.underlying28 h
  have hC : Try.prog.cellsOf 28 = 8 := by kernel_rfl
  rw [hC] at hl
  match cs, hl, xs, hxl with
  | [c0, c1, c2, c3, c4, c5, c6, c7], _, [y0, y1, y2, y3, y4, y5, y6, y7], _ =>
    have g0 : DataW.trod enc Try.prog w 0 (fun _ => true) held n 25 (([c0, c1, c2, c3, c4, c5, c6, c7].drop 0).take (Try.prog.cellsOf 25)) = some y0 := hf 0 _ rfl
    rw [show Try.prog.cellsOf 25 = 1 from by kernel_rfl] at g0
    replace g0 : DataW.trod enc Try.prog w 0 (fun _ => true) held n 25 [c0] = some y0 := g0
    have g1 : DataW.trod enc Try.prog w 0 (fun _ => true) held n 5 (([c0, c1, c2, c3, c4, c5, c6, c7].drop 1).take (Try.prog.cellsOf 5)) = some y1 := hf 1 _ rfl
    rw [show Try.prog.cellsOf 5 = 1 from by kernel_rfl] at g1
    replace g1 : DataW.trod enc Try.prog w 0 (fun _ => true) held n 5 [c1] = some y1 := g1
    have g2 : DataW.trod enc Try.prog w 0 (fun _ => true) held n 5 (([c0, c1, c2, c3, c4, c5, c6, c7].drop 2).take (Try.prog.cellsOf 5)) = some y2 := hf 2 _ rfl
    rw [show Try.prog.cellsOf 5 = 1 from by kernel_rfl] at g2
    replace g2 : DataW.trod enc Try.prog w 0 (fun _ => true) held n 5 [c2] = some y2 := g2
    have g3 : DataW.trod enc Try.prog w 0 (fun _ => true) held n 26 (([c0, c1, c2, c3, c4, c5, c6, c7].drop 3).take (Try.prog.cellsOf 26)) = some y3 := hf 3 _ rfl
    rw [show Try.prog.cellsOf 26 = 1 from by kernel_rfl] at g3
    replace g3 : DataW.trod enc Try.prog w 0 (fun _ => true) held n 26 [c3] = some y3 := g3
    have g4 : DataW.trod enc Try.prog w 0 (fun _ => true) held n 26 (([c0, c1, c2, c3, c4, c5, c6, c7].drop 4).take (Try.prog.cellsOf 26)) = some y4 := hf 4 _ rfl
    rw [show Try.prog.cellsOf 26 = 1 from by kernel_rfl] at g4
    replace g4 : DataW.trod enc Try.prog w 0 (fun _ => true) held n 26 [c4] = some y4 := g4
    have g5 : DataW.trod enc Try.prog w 0 (fun _ => true) held n 21 (([c0, c1, c2, c3, c4, c5, c6, c7].drop 5).take (Try.prog.cellsOf 21)) = some y5 := hf 5 _ rfl
    rw [show Try.prog.cellsOf 21 = 1 from by kernel_rfl] at g5
    replace g5 : DataW.trod enc Try.prog w 0 (fun _ => true) held n 21 [c5] = some y5 := g5
    have g6 : DataW.trod enc Try.prog w 0 (fun _ => true) held n 25 (([c0, c1, c2, c3, c4, c5, c6, c7].drop 6).take (Try.prog.cellsOf 25)) = some y6 := hf 6 _ rfl
    rw [show Try.prog.cellsOf 25 = 1 from by kernel_rfl] at g6
    replace g6 : DataW.trod enc Try.prog w 0 (fun _ => true) held n 25 [c6] = some y6 := g6
    have g7 : DataW.trod enc Try.prog w 0 (fun _ => true) held n 25 (([c0, c1, c2, c3, c4, c5, c6, c7].drop 7).take (Try.prog.cellsOf 25)) = some y7 := hf 7 _ rfl
    rw [show Try.prog.cellsOf 25 = 1 from by kernel_rfl] at g7
    replace g7 : DataW.trod enc Try.prog w 0 (fun _ => true) held n 25 [c7] = some y7 := g7
    obtain ⟨a0, e0, _, w0⟩ := DataW.trod_int Try.underlying25 g0
    injection e0 with e0 _; subst e0
    have b0 := bounds_u16 w0
    obtain ⟨a1, e1, _, w1⟩ := DataW.trod_int Try.underlying5 g1
    injection e1 with e1 _; subst e1
    have b1 := bounds_u8 w1
    obtain ⟨a2, e2, _, w2⟩ := DataW.trod_int Try.underlying5 g2
    injection e2 with e2 _; subst e2
    have b2 := bounds_u8 w2
    obtain ⟨a3, e3, _, w3⟩ := DataW.trod_int Try.underlying26 g3
    injection e3 with e3 _; subst e3
    have b3 := bounds_u32 w3
    obtain ⟨a4, e4, _, w4⟩ := DataW.trod_int Try.underlying26 g4
    injection e4 with e4 _; subst e4
    have b4 := bounds_u32 w4
    obtain ⟨a5, e5, _, w5⟩ := DataW.trod_int Try.underlying21 g5
    injection e5 with e5 _; subst e5
    have b5 := bounds_i32 w5
    obtain ⟨a6, e6, _, w6⟩ := DataW.trod_int Try.underlying25 g6
    injection e6 with e6 _; subst e6
    have b6 := bounds_u16 w6
    obtain ⟨a7, e7, _, w7⟩ := DataW.trod_int Try.underlying25 g7
    injection e7 with e7 _; subst e7
    have b7 := bounds_u16 w7
    exact ⟨⟨a0, a1, a2, a3, a4, a5, a6, a7⟩, rfl, ⟨b0, b1, b2, b3, b4, b5, b6, b7⟩, fun _ => trivial⟩
/-- A state as it comes in. -/
structure SArg (w : World) (s : SE) : Prop where
  head : s.h.ok
  body : Reads w w.heap.size 1 s.A s.n (u8s s.B)
  oct : Oct s.B
  cap : s.n ≤ s.c ∧ s.c ≤ 9223372036854775807
theorem SArg.later {w w' : World} {s : SE} (h : SArg w s) (hb : Below w.heap.size w w') : SArg w' s := ⟨h.head, h.body.later hb, h.oct, h.cap⟩
theorem SArg.rd {w : World} {s : SE} (h : SArg w s) (hn : s.n ≤ 1099511627776) : s.rd w := ⟨h.head, h.body, h.oct, h.cap, hn⟩
def SE.cells (s : SE) : List Value := [.int .u16 s.h.age, .int .u8 s.h.opts, .int .u8 s.h.typ, .int .u32 s.h.id, .int .u32 s.h.adv, .int .i32 s.h.seq, .int .u16 s.h.sum, .int .u16 s.h.len, .slice s.A s.n s.c]
theorem st_len (s : SE) : s.cells.length = 9 := rfl
set_option maxRecDepth 100000 in
theorem state_of {H : Type} {enc : TypeId × Value → H} {w : World} {held : Bool} (fuel : Nat) (cs : List Value) (x : DataW H × List MemPlace) (h : DataW.trod enc Try.prog w 0 (fun _ => true) held fuel 31 cs = some x) :
    ∃ s : SE, cs = s.cells ∧ SArg w s ∧ ((∀ N ∈ x.1.weights Try.prog 31, N ≤ reachBytes) → s.n ≤ reachBytes) := by
  obtain ⟨xs, n, _, hxw, hl, hxl, hf⟩ := DataW.trod_struct Try.underlying31 h
  have hC : Try.prog.cellsOf 31 = 9 := by kernel_rfl
  rw [hC] at hl
  match cs, hl, xs, hxl with
  | [c0, c1, c2, c3, c4, c5, c6, c7, c8], _, [y0, y1], _ =>
    have g0 : DataW.trod enc Try.prog w 0 (fun _ => true) held n 28 (([c0, c1, c2, c3, c4, c5, c6, c7, c8].drop 0).take (Try.prog.cellsOf 28)) = some y0 := hf 0 _ rfl
    rw [show Try.prog.cellsOf 28 = 8 from by kernel_rfl] at g0
    replace g0 : DataW.trod enc Try.prog w 0 (fun _ => true) held n 28 [c0, c1, c2, c3, c4, c5, c6, c7] = some y0 := g0
    have g1 : DataW.trod enc Try.prog w 0 (fun _ => true) held n 29 (([c0, c1, c2, c3, c4, c5, c6, c7, c8].drop 8).take (Try.prog.cellsOf 29)) = some y1 := hf 1 _ rfl
    rw [show Try.prog.cellsOf 29 = 1 from by kernel_rfl] at g1
    replace g1 : DataW.trod enc Try.prog w 0 (fun _ => true) held n 29 [c8] = some y1 := g1
    obtain ⟨hd, e0, o0, -⟩ := head_of _ _ _ g0
    simp only [Hd.cells, List.cons.injEq, and_true] at e0
    obtain ⟨rfl, rfl, rfl, rfl, rfl, rfl, rfl, rfl⟩ := e0
    obtain ⟨A1, n1, k1, z1, rfl, ⟨r1, o1, m1⟩, v1⟩ := bytes_open Try.underlying29 Try.underlying5 (by kernel_rfl) (by kernel_rfl) g1
    refine ⟨⟨hd, A1, n1, k1, z1⟩, rfl, ⟨o0, r1, o1, m1⟩, fun hw => ?_⟩
    rw [hxw] at hw
    refine Nat.le_trans m1.1 (v1 fun N hN => hw N ?_)
    simp only [DataW.weights, Try.underlying31]
    exact DataW.weights_mem_each (j := 1) (t := 29) (d := y1.1) rfl rfl N hN
/-- The cells of a state that stands at an address. -/
def StAt (w : World) (ad : Addr) (s : SE) : Prop :=
  w.cell? ad = some (.int .u16 s.h.age) ∧ w.cell? ⟨ad.block, ad.off + 1, none⟩ = some (.int .u8 s.h.opts) ∧ w.cell? ⟨ad.block, ad.off + 2, none⟩ = some (.int .u8 s.h.typ) ∧ w.cell? ⟨ad.block, ad.off + 3, none⟩ = some (.int .u32 s.h.id) ∧ w.cell? ⟨ad.block, ad.off + 4, none⟩ = some (.int .u32 s.h.adv) ∧
    w.cell? ⟨ad.block, ad.off + 5, none⟩ = some (.int .i32 s.h.seq) ∧ w.cell? ⟨ad.block, ad.off + 6, none⟩ = some (.int .u16 s.h.sum) ∧ w.cell? ⟨ad.block, ad.off + 7, none⟩ = some (.int .u16 s.h.len) ∧ w.cell? ⟨ad.block, ad.off + 8, none⟩ = some (.slice s.A s.n s.c)
theorem StAt.later {w w' : World} {ad : Addr} {s : SE} (h : StAt w ad s) (hb : Below w.heap.size w w') : StAt w' ad s := by
  obtain ⟨h0, h1, h2, h3, h4, h5, h6, h7, h8⟩ := h
  have hl := cell_lt h0
  have H : ∀ (p : Addr) v, w.cell? p = some v → w'.cell? p = some v := fun p v e => (hb.cell (cell_lt e)).trans e
  exact ⟨H _ _ h0, H _ _ h1, H _ _ h2, H _ _ h3, H _ _ h4, H _ _ h5, H _ _ h6, H _ _ h7, H _ _ h8⟩
theorem state_arg {H : Type} {enc : TypeId × Value → H} {w : World} {r : Reach} {b : Nat} {held : Bool} {v : Value} {d : DataW H} {p : List MemPlace}
    (hv : Value.okWide Try.prog w r b 31 v) (h : DataW.Trod enc Try.prog w 0 (fun _ => true) held 31 v d p) : ∃ s : SE, v = s.v ∧ SArg w s := by
  obtain ⟨cs, rfl, _⟩ := okWide_struct Try.underlying31 hv
  obtain ⟨fuel, hf⟩ := h
  obtain ⟨x, e, hx, -⟩ := state_of _ _ _ hf
  refine ⟨x, ?_, hx⟩
  obtain ⟨l⟩ := cs
  simp only [Value.cells] at e
  subst e
  rfl
theorem i64_arg {H : Type} {enc : TypeId × Value → H} {w : World} {r : Reach} {b : Nat} {held : Bool} {v : Value} {d : DataW H} {p : List MemPlace}
    (hv : Value.okWide Try.prog w r b 3 v) (h : DataW.Trod enc Try.prog w 0 (fun _ => true) held 3 v d p) : ∃ n, v = .int .i64 n ∧ -9223372036854775808 ≤ n ∧ n ≤ 9223372036854775807 := by
  obtain ⟨r, rfl, _, _, hwr⟩ := Go.ChangeShapes.open_int Try.underlying3 hv h
  have := bounds_i64 hwr
  exact ⟨r, rfl, by omega, by omega⟩
/-- One call: what is done, when, with which state. -/
structure OpS where
  do_ : Int
  now : Int
  s : SE
def OpS.cells (o : OpS) : List Value := .int .u8 o.do_ :: .int .i64 o.now :: o.s.cells
theorem ops_len (o : OpS) : o.cells.length = 11 := rfl
structure OpS.ok (w : World) (o : OpS) : Prop where
  do_ : 0 ≤ o.do_ ∧ o.do_ ≤ 255
  now : -9223372036854775808 ≤ o.now ∧ o.now ≤ 9223372036854775807
  s : SArg w o.s
theorem OpS.ok.later {w w' : World} {o : OpS} (h : o.ok w) (hb : Below w.heap.size w w') : o.ok w' := ⟨h.do_, h.now, h.s.later hb⟩
set_option maxRecDepth 100000 in
theorem ops_of {H : Type} {enc : TypeId × Value → H} {w : World} {held : Bool} (fuel : Nat) (cs : List Value) (x : DataW H × List MemPlace) (h : DataW.trod enc Try.prog w 0 (fun _ => true) held fuel 33 cs = some x) :
    ∃ o : OpS, cs = o.cells ∧ o.ok w ∧ ((∀ N ∈ x.1.weights Try.prog 33, N ≤ reachBytes) → o.s.n ≤ reachBytes) := by
  obtain ⟨xs, n, _, hxw, hl, hxl, hf⟩ := DataW.trod_struct Try.underlying33 h
  have hC : Try.prog.cellsOf 33 = 11 := by kernel_rfl
  rw [hC] at hl
  match cs, hl, xs, hxl with
  | [c0, c1, c2, c3, c4, c5, c6, c7, c8, c9, c10], _, [y0, y1, y2], _ =>
    have g0 : DataW.trod enc Try.prog w 0 (fun _ => true) held n 5 (([c0, c1, c2, c3, c4, c5, c6, c7, c8, c9, c10].drop 0).take (Try.prog.cellsOf 5)) = some y0 := hf 0 _ rfl
    rw [show Try.prog.cellsOf 5 = 1 from by kernel_rfl] at g0
    replace g0 : DataW.trod enc Try.prog w 0 (fun _ => true) held n 5 [c0] = some y0 := g0
    have g1 : DataW.trod enc Try.prog w 0 (fun _ => true) held n 3 (([c0, c1, c2, c3, c4, c5, c6, c7, c8, c9, c10].drop 1).take (Try.prog.cellsOf 3)) = some y1 := hf 1 _ rfl
    rw [show Try.prog.cellsOf 3 = 1 from by kernel_rfl] at g1
    replace g1 : DataW.trod enc Try.prog w 0 (fun _ => true) held n 3 [c1] = some y1 := g1
    have g2 : DataW.trod enc Try.prog w 0 (fun _ => true) held n 31 (([c0, c1, c2, c3, c4, c5, c6, c7, c8, c9, c10].drop 2).take (Try.prog.cellsOf 31)) = some y2 := hf 2 _ rfl
    rw [show Try.prog.cellsOf 31 = 9 from by kernel_rfl] at g2
    replace g2 : DataW.trod enc Try.prog w 0 (fun _ => true) held n 31 [c2, c3, c4, c5, c6, c7, c8, c9, c10] = some y2 := g2
    obtain ⟨a0, e0, _, w0⟩ := DataW.trod_int Try.underlying5 g0
    injection e0 with e0 _; subst e0
    have b0 := bounds_u8 w0
    obtain ⟨a1, e1, _, w1⟩ := DataW.trod_int Try.underlying3 g1
    injection e1 with e1 _; subst e1
    have b1 := bounds_i64 w1
    obtain ⟨s, e2, o2, v2⟩ := state_of _ _ _ g2
    refine ⟨⟨a0, a1, s⟩, ?_, ⟨b0, (show -9223372036854775808 ≤ a1 ∧ a1 ≤ 9223372036854775807 from ⟨by omega, by omega⟩), o2⟩, fun hw => ?_⟩
    · unfold OpS.cells
      rw [← e2]
    · rw [hxw] at hw
      refine v2 fun N hN => hw N ?_
      simp only [DataW.weights, Try.underlying33]
      exact DataW.weights_mem_each (j := 2) (t := 31) (d := y2.1) rfl rfl N hN
structure Opl (w : World) (A : Option Addr) (n : Nat) (L : List OpS) : Prop where
  row : Reads w w.heap.size 11 A n (L.flatMap OpS.cells)
  len : L.length = n
  ok : ∀ o ∈ L, o.ok w
theorem Opl.later {w w' : World} {A : Option Addr} {n : Nat} {L : List OpS} (h : Opl w A n L) (hb : Below w.heap.size w w') : Opl w' A n L := ⟨h.row.later hb, h.len, fun s hs => (h.ok s hs).later hb⟩
/-- The cells of a call that stands at an address. -/
def OpAt (w : World) (ad : Addr) (o : OpS) : Prop :=
  w.cell? ad = some (.int .u8 o.do_) ∧ w.cell? ⟨ad.block, ad.off + 1, none⟩ = some (.int .i64 o.now) ∧ w.cell? ⟨ad.block, ad.off + 2, none⟩ = some (.int .u16 o.s.h.age) ∧ w.cell? ⟨ad.block, ad.off + 3, none⟩ = some (.int .u8 o.s.h.opts) ∧
    w.cell? ⟨ad.block, ad.off + 4, none⟩ = some (.int .u8 o.s.h.typ) ∧ w.cell? ⟨ad.block, ad.off + 5, none⟩ = some (.int .u32 o.s.h.id) ∧ w.cell? ⟨ad.block, ad.off + 6, none⟩ = some (.int .u32 o.s.h.adv) ∧
    w.cell? ⟨ad.block, ad.off + 7, none⟩ = some (.int .i32 o.s.h.seq) ∧ w.cell? ⟨ad.block, ad.off + 8, none⟩ = some (.int .u16 o.s.h.sum) ∧ w.cell? ⟨ad.block, ad.off + 9, none⟩ = some (.int .u16 o.s.h.len) ∧ w.cell? ⟨ad.block, ad.off + 10, none⟩ = some (.slice o.s.A o.s.n o.s.c)
theorem Opl.at_ {w : World} {A : Option Addr} {n i : Nat} {L : List OpS} (h : Opl w A n L) (hi : i < n) : ∃ ad o, A = some ad ∧ ad.block < w.heap.size ∧ L[i]? = some o ∧ o.ok w ∧ OpAt w (ad.add (i * 11)) o := by
  obtain ⟨ad, s, e, hb, hs, h0, hj⟩ := rowG_at ops_len h.row h.len hi
  exact ⟨ad, s, e, hb, hs, h.ok s (List.mem_of_getElem? hs), h0 _ rfl, hj 1 _ (by decide) rfl, hj 2 _ (by decide) rfl, hj 3 _ (by decide) rfl, hj 4 _ (by decide) rfl, hj 5 _ (by decide) rfl, hj 6 _ (by decide) rfl, hj 7 _ (by decide) rfl, hj 8 _ (by decide) rfl, hj 9 _ (by decide) rfl, hj 10 _ (by decide) rfl⟩
theorem OpAt.later {w w' : World} {ad : Addr} {o : OpS} (h : OpAt w ad o) (hb : Below w.heap.size w w') : OpAt w' ad o := by
  obtain ⟨h0, h1, h2, h3, h4, h5, h6, h7, h8, h9, h10⟩ := h
  have H : ∀ (p : Addr) v, w.cell? p = some v → w'.cell? p = some v := fun p v e => (hb.cell (cell_lt e)).trans e
  exact ⟨H _ _ h0, H _ _ h1, H _ _ h2, H _ _ h3, H _ _ h4, H _ _ h5, H _ _ h6, H _ _ h7, H _ _ h8, H _ _ h9, H _ _ h10⟩
theorem ops_arg {H : Type} {enc : TypeId × Value → H} {w : World} {r : Reach} {b : Nat} {held : Bool} {v : Value} {d : DataW H} {p : List MemPlace}
    (hv : Value.okWide Try.prog w r b 22 v) (h : DataW.Trod enc Try.prog w 0 (fun _ => true) held 22 v d p) :
    ∃ (A : Option Addr) (n c : Nat) (L : List OpS), v = .slice A n c ∧ Opl w A n L ∧ n ≤ c ∧ c ≤ 9223372036854775807 ∧ ((∀ N ∈ d.weights Try.prog 22, N ≤ reachBytes) → ∀ o ∈ L, o.s.n ≤ reachBytes) := by
  obtain ⟨A, n, c, L, e, h1, h2, h3, h4, h5, h6⟩ := slice_arg (cs := OpS.cells) ops_len (by decide) Try.underlying22 (by kernel_rfl) ops_of hv h
  exact ⟨A, n, c, L, e, ⟨h1, h2, h3⟩, h4, h5, fun hw => (h6 hw).1⟩
end Go.Proofs.Ytpncbggjngamgaa
