/-
  What the arguments of the chapter's laws are. Printed by gen_opn06.py.
-/
import Derived.Test.YtljedcfpbdompaaDoorStaM3
import Derived.ChangeArms
import Derived.WideShapes
import Derived.OpenShut
import Derived.SizedLaws
namespace Go.Proofs.YtljedcfpbdompaaDoor
set_option linter.unusedVariables false
open Go.ChangeShapes Go.WideShapes Go.RowKit
set_option maxRecDepth 100000

set_option maxRecDepth 100000 in
theorem head_of {H : Type} {enc : TypeId × Value → H} {w : World} {held : Bool} (fuel : Nat) (cs : List Value) (x : DataW H × List MemPlace) (h : DataW.trod enc Tryd.prog w 0 (fun _ => true) held fuel 28 cs = some x) :
    ∃ h : Hd, cs = h.cells ∧ h.ok ∧ ((∀ N ∈ x.1.weights Tryd.prog 28, N ≤ reachBytes) → True) := by
  obtain ⟨xs, n, _, hxw, hl, hxl, hf⟩ := DataW.trod_struct Tryd.underlying28 h
  have hC : Tryd.prog.cellsOf 28 = 8 := by kernel_rfl
  rw [hC] at hl
  match cs, hl, xs, hxl with
  | [c0, c1, c2, c3, c4, c5, c6, c7], _, [y0, y1, y2, y3, y4, y5, y6, y7], _ =>
    have g0 : DataW.trod enc Tryd.prog w 0 (fun _ => true) held n 25 (([c0, c1, c2, c3, c4, c5, c6, c7].drop 0).take (Tryd.prog.cellsOf 25)) = some y0 := hf 0 _ rfl
    rw [show Tryd.prog.cellsOf 25 = 1 from by kernel_rfl] at g0
    replace g0 : DataW.trod enc Tryd.prog w 0 (fun _ => true) held n 25 [c0] = some y0 := g0
    have g1 : DataW.trod enc Tryd.prog w 0 (fun _ => true) held n 5 (([c0, c1, c2, c3, c4, c5, c6, c7].drop 1).take (Tryd.prog.cellsOf 5)) = some y1 := hf 1 _ rfl
    rw [show Tryd.prog.cellsOf 5 = 1 from by kernel_rfl] at g1
    replace g1 : DataW.trod enc Tryd.prog w 0 (fun _ => true) held n 5 [c1] = some y1 := g1
    have g2 : DataW.trod enc Tryd.prog w 0 (fun _ => true) held n 5 (([c0, c1, c2, c3, c4, c5, c6, c7].drop 2).take (Tryd.prog.cellsOf 5)) = some y2 := hf 2 _ rfl
    rw [show Tryd.prog.cellsOf 5 = 1 from by kernel_rfl] at g2
    replace g2 : DataW.trod enc Tryd.prog w 0 (fun _ => true) held n 5 [c2] = some y2 := g2
    have g3 : DataW.trod enc Tryd.prog w 0 (fun _ => true) held n 26 (([c0, c1, c2, c3, c4, c5, c6, c7].drop 3).take (Tryd.prog.cellsOf 26)) = some y3 := hf 3 _ rfl
    rw [show Tryd.prog.cellsOf 26 = 1 from by kernel_rfl] at g3
    replace g3 : DataW.trod enc Tryd.prog w 0 (fun _ => true) held n 26 [c3] = some y3 := g3
    have g4 : DataW.trod enc Tryd.prog w 0 (fun _ => true) held n 26 (([c0, c1, c2, c3, c4, c5, c6, c7].drop 4).take (Tryd.prog.cellsOf 26)) = some y4 := hf 4 _ rfl
    rw [show Tryd.prog.cellsOf 26 = 1 from by kernel_rfl] at g4
    replace g4 : DataW.trod enc Tryd.prog w 0 (fun _ => true) held n 26 [c4] = some y4 := g4
    have g5 : DataW.trod enc Tryd.prog w 0 (fun _ => true) held n 21 (([c0, c1, c2, c3, c4, c5, c6, c7].drop 5).take (Tryd.prog.cellsOf 21)) = some y5 := hf 5 _ rfl
    rw [show Tryd.prog.cellsOf 21 = 1 from by kernel_rfl] at g5
    replace g5 : DataW.trod enc Tryd.prog w 0 (fun _ => true) held n 21 [c5] = some y5 := g5
    have g6 : DataW.trod enc Tryd.prog w 0 (fun _ => true) held n 25 (([c0, c1, c2, c3, c4, c5, c6, c7].drop 6).take (Tryd.prog.cellsOf 25)) = some y6 := hf 6 _ rfl
    rw [show Tryd.prog.cellsOf 25 = 1 from by kernel_rfl] at g6
    replace g6 : DataW.trod enc Tryd.prog w 0 (fun _ => true) held n 25 [c6] = some y6 := g6
    have g7 : DataW.trod enc Tryd.prog w 0 (fun _ => true) held n 25 (([c0, c1, c2, c3, c4, c5, c6, c7].drop 7).take (Tryd.prog.cellsOf 25)) = some y7 := hf 7 _ rfl
    rw [show Tryd.prog.cellsOf 25 = 1 from by kernel_rfl] at g7
    replace g7 : DataW.trod enc Tryd.prog w 0 (fun _ => true) held n 25 [c7] = some y7 := g7
    obtain ⟨a0, e0, _, w0⟩ := DataW.trod_int Tryd.underlying25 g0
    injection e0 with e0 _; subst e0
    have b0 := bounds_u16 w0
    obtain ⟨a1, e1, _, w1⟩ := DataW.trod_int Tryd.underlying5 g1
    injection e1 with e1 _; subst e1
    have b1 := bounds_u8 w1
    obtain ⟨a2, e2, _, w2⟩ := DataW.trod_int Tryd.underlying5 g2
    injection e2 with e2 _; subst e2
    have b2 := bounds_u8 w2
    obtain ⟨a3, e3, _, w3⟩ := DataW.trod_int Tryd.underlying26 g3
    injection e3 with e3 _; subst e3
    have b3 := bounds_u32 w3
    obtain ⟨a4, e4, _, w4⟩ := DataW.trod_int Tryd.underlying26 g4
    injection e4 with e4 _; subst e4
    have b4 := bounds_u32 w4
    obtain ⟨a5, e5, _, w5⟩ := DataW.trod_int Tryd.underlying21 g5
    injection e5 with e5 _; subst e5
    have b5 := bounds_i32 w5
    obtain ⟨a6, e6, _, w6⟩ := DataW.trod_int Tryd.underlying25 g6
    injection e6 with e6 _; subst e6
    have b6 := bounds_u16 w6
    obtain ⟨a7, e7, _, w7⟩ := DataW.trod_int Tryd.underlying25 g7
    injection e7 with e7 _; subst e7
    have b7 := bounds_u16 w7
    exact ⟨⟨a0, a1, a2, a3, a4, a5, a6, a7⟩, rfl, ⟨b0, b1, b2, b3, b4, b5, b6, b7⟩, fun _ => trivial⟩
set_option maxRecDepth 100000 in
theorem link_of {H : Type} {enc : TypeId × Value → H} {w : World} {held : Bool} (fuel : Nat) (cs : List Value) (x : DataW H × List MemPlace) (h : DataW.trod enc Tryd.prog w 0 (fun _ => true) held fuel 111 cs = some x) :
    ∃ a : Lk, cs = a.cells ∧ a.ok ∧ ((∀ N ∈ x.1.weights Tryd.prog 111, N ≤ reachBytes) → True) := by
  obtain ⟨xs, n, _, hxw, hl, hxl, hf⟩ := DataW.trod_struct Tryd.underlying111 h
  have hC : Tryd.prog.cellsOf 111 = 4 := by kernel_rfl
  rw [hC] at hl
  match cs, hl, xs, hxl with
  | [c0, c1, c2, c3], _, [y0, y1, y2, y3], _ =>
    have g0 : DataW.trod enc Tryd.prog w 0 (fun _ => true) held n 26 (([c0, c1, c2, c3].drop 0).take (Tryd.prog.cellsOf 26)) = some y0 := hf 0 _ rfl
    rw [show Tryd.prog.cellsOf 26 = 1 from by kernel_rfl] at g0
    replace g0 : DataW.trod enc Tryd.prog w 0 (fun _ => true) held n 26 [c0] = some y0 := g0
    have g1 : DataW.trod enc Tryd.prog w 0 (fun _ => true) held n 26 (([c0, c1, c2, c3].drop 1).take (Tryd.prog.cellsOf 26)) = some y1 := hf 1 _ rfl
    rw [show Tryd.prog.cellsOf 26 = 1 from by kernel_rfl] at g1
    replace g1 : DataW.trod enc Tryd.prog w 0 (fun _ => true) held n 26 [c1] = some y1 := g1
    have g2 : DataW.trod enc Tryd.prog w 0 (fun _ => true) held n 5 (([c0, c1, c2, c3].drop 2).take (Tryd.prog.cellsOf 5)) = some y2 := hf 2 _ rfl
    rw [show Tryd.prog.cellsOf 5 = 1 from by kernel_rfl] at g2
    replace g2 : DataW.trod enc Tryd.prog w 0 (fun _ => true) held n 5 [c2] = some y2 := g2
    have g3 : DataW.trod enc Tryd.prog w 0 (fun _ => true) held n 25 (([c0, c1, c2, c3].drop 3).take (Tryd.prog.cellsOf 25)) = some y3 := hf 3 _ rfl
    rw [show Tryd.prog.cellsOf 25 = 1 from by kernel_rfl] at g3
    replace g3 : DataW.trod enc Tryd.prog w 0 (fun _ => true) held n 25 [c3] = some y3 := g3
    obtain ⟨a0, e0, _, w0⟩ := DataW.trod_int Tryd.underlying26 g0
    injection e0 with e0 _; subst e0
    have b0 := bounds_u32 w0
    obtain ⟨a1, e1, _, w1⟩ := DataW.trod_int Tryd.underlying26 g1
    injection e1 with e1 _; subst e1
    have b1 := bounds_u32 w1
    obtain ⟨a2, e2, _, w2⟩ := DataW.trod_int Tryd.underlying5 g2
    injection e2 with e2 _; subst e2
    have b2 := bounds_u8 w2
    obtain ⟨a3, e3, _, w3⟩ := DataW.trod_int Tryd.underlying25 g3
    injection e3 with e3 _; subst e3
    have b3 := bounds_u16 w3
    exact ⟨⟨a0, a1, a2, a3⟩, rfl, ⟨b0, b1, b2, b3⟩, fun _ => trivial⟩
theorem word_of {H : Type} {enc : TypeId × Value → H} {w : World} {held : Bool} (fuel : Nat) (cs : List Value) (x : DataW H × List MemPlace) (h : DataW.trod enc Tryd.prog w 0 (fun _ => true) held fuel 26 cs = some x) :
    ∃ a : Int, cs = [Value.int .u32 a] ∧ (0 ≤ a ∧ a ≤ 4294967295) ∧ ((∀ N ∈ x.1.weights Tryd.prog 26, N ≤ reachBytes) → True) := by
  obtain ⟨a, e, _, wf⟩ := DataW.trod_int Tryd.underlying26 h
  exact ⟨a, e, bounds_u32 wf, fun _ => trivial⟩
/-- A body as it comes in. -/
structure BArg (w : World) (b : BA) : Prop where
  flags : 0 ≤ b.flags ∧ b.flags ≤ 255
  lrow : Reads w w.heap.size 4 b.LA b.ln (b.links.flatMap Lk.cells)
  llen : b.links.length = b.ln
  lok : ∀ x ∈ b.links, x.ok
  mask : 0 ≤ b.mask ∧ b.mask ≤ 4294967295
  rrow : Reads w w.heap.size 1 b.RA b.rn (u32s b.routers)
  rlen : b.routers.length = b.rn
  rok : ∀ x ∈ b.routers, 0 ≤ x ∧ x ≤ 4294967295
  metric : 0 ≤ b.metric ∧ b.metric ≤ 4294967295
  fwd : 0 ≤ b.fwd ∧ b.fwd ≤ 4294967295
  tag : 0 ≤ b.tag ∧ b.tag ≤ 4294967295
  drow : Reads w w.heap.size 1 b.DA b.dn (u8s b.data)
  doct : Oct b.data
  cap : b.ln ≤ b.lc ∧ b.lc ≤ 9223372036854775807 ∧ b.rn ≤ b.rc ∧ b.rc ≤ 9223372036854775807 ∧ b.dn ≤ b.dc ∧ b.dc ≤ 9223372036854775807
theorem BArg.rd {w : World} {b : BA} (h : BArg w b) (few : b.ln ≤ 1073741824 ∧ b.rn ≤ 1073741824 ∧ b.dn ≤ 1073741824) : b.rd w :=
  ⟨h.flags, h.lrow, h.llen, h.lok, h.mask, h.rrow, h.rlen, h.rok, h.metric, h.fwd, h.tag, h.drow, h.doct, h.cap, few⟩
def BA.cells (b : BA) : List Value := [.int .u8 b.flags, .slice b.LA b.ln b.lc, .int .u32 b.mask, .slice b.RA b.rn b.rc, .int .u32 b.metric, .bool b.t2, .int .u32 b.fwd, .int .u32 b.tag, .slice b.DA b.dn b.dc]
set_option maxRecDepth 100000 in
theorem body_of {H : Type} {enc : TypeId × Value → H} {w : World} {held : Bool} (fuel : Nat) (cs : List Value) (x : DataW H × List MemPlace) (h : DataW.trod enc Tryd.prog w 0 (fun _ => true) held fuel 67 cs = some x) :
    ∃ b : BA, cs = b.cells ∧ BArg w b := by
  obtain ⟨xs, n, _, hxw, hl, hxl, hf⟩ := DataW.trod_struct Tryd.underlying67 h
  have hC : Tryd.prog.cellsOf 67 = 9 := by kernel_rfl
  rw [hC] at hl
  match cs, hl, xs, hxl with
  | [c0, c1, c2, c3, c4, c5, c6, c7, c8], _, [y0, y1, y2, y3, y4, y5, y6, y7, y8], _ =>
    have g0 : DataW.trod enc Tryd.prog w 0 (fun _ => true) held n 5 (([c0, c1, c2, c3, c4, c5, c6, c7, c8].drop 0).take (Tryd.prog.cellsOf 5)) = some y0 := hf 0 _ rfl
    rw [show Tryd.prog.cellsOf 5 = 1 from by kernel_rfl] at g0
    replace g0 : DataW.trod enc Tryd.prog w 0 (fun _ => true) held n 5 [c0] = some y0 := g0
    have g1 : DataW.trod enc Tryd.prog w 0 (fun _ => true) held n 64 (([c0, c1, c2, c3, c4, c5, c6, c7, c8].drop 1).take (Tryd.prog.cellsOf 64)) = some y1 := hf 1 _ rfl
    rw [show Tryd.prog.cellsOf 64 = 1 from by kernel_rfl] at g1
    replace g1 : DataW.trod enc Tryd.prog w 0 (fun _ => true) held n 64 [c1] = some y1 := g1
    have g2 : DataW.trod enc Tryd.prog w 0 (fun _ => true) held n 26 (([c0, c1, c2, c3, c4, c5, c6, c7, c8].drop 2).take (Tryd.prog.cellsOf 26)) = some y2 := hf 2 _ rfl
    rw [show Tryd.prog.cellsOf 26 = 1 from by kernel_rfl] at g2
    replace g2 : DataW.trod enc Tryd.prog w 0 (fun _ => true) held n 26 [c2] = some y2 := g2
    have g3 : DataW.trod enc Tryd.prog w 0 (fun _ => true) held n 65 (([c0, c1, c2, c3, c4, c5, c6, c7, c8].drop 3).take (Tryd.prog.cellsOf 65)) = some y3 := hf 3 _ rfl
    rw [show Tryd.prog.cellsOf 65 = 1 from by kernel_rfl] at g3
    replace g3 : DataW.trod enc Tryd.prog w 0 (fun _ => true) held n 65 [c3] = some y3 := g3
    have g4 : DataW.trod enc Tryd.prog w 0 (fun _ => true) held n 26 (([c0, c1, c2, c3, c4, c5, c6, c7, c8].drop 4).take (Tryd.prog.cellsOf 26)) = some y4 := hf 4 _ rfl
    rw [show Tryd.prog.cellsOf 26 = 1 from by kernel_rfl] at g4
    replace g4 : DataW.trod enc Tryd.prog w 0 (fun _ => true) held n 26 [c4] = some y4 := g4
    have g5 : DataW.trod enc Tryd.prog w 0 (fun _ => true) held n 4 (([c0, c1, c2, c3, c4, c5, c6, c7, c8].drop 5).take (Tryd.prog.cellsOf 4)) = some y5 := hf 5 _ rfl
    rw [show Tryd.prog.cellsOf 4 = 1 from by kernel_rfl] at g5
    replace g5 : DataW.trod enc Tryd.prog w 0 (fun _ => true) held n 4 [c5] = some y5 := g5
    have g6 : DataW.trod enc Tryd.prog w 0 (fun _ => true) held n 26 (([c0, c1, c2, c3, c4, c5, c6, c7, c8].drop 6).take (Tryd.prog.cellsOf 26)) = some y6 := hf 6 _ rfl
    rw [show Tryd.prog.cellsOf 26 = 1 from by kernel_rfl] at g6
    replace g6 : DataW.trod enc Tryd.prog w 0 (fun _ => true) held n 26 [c6] = some y6 := g6
    have g7 : DataW.trod enc Tryd.prog w 0 (fun _ => true) held n 26 (([c0, c1, c2, c3, c4, c5, c6, c7, c8].drop 7).take (Tryd.prog.cellsOf 26)) = some y7 := hf 7 _ rfl
    rw [show Tryd.prog.cellsOf 26 = 1 from by kernel_rfl] at g7
    replace g7 : DataW.trod enc Tryd.prog w 0 (fun _ => true) held n 26 [c7] = some y7 := g7
    have g8 : DataW.trod enc Tryd.prog w 0 (fun _ => true) held n 22 (([c0, c1, c2, c3, c4, c5, c6, c7, c8].drop 8).take (Tryd.prog.cellsOf 22)) = some y8 := hf 8 _ rfl
    rw [show Tryd.prog.cellsOf 22 = 1 from by kernel_rfl] at g8
    replace g8 : DataW.trod enc Tryd.prog w 0 (fun _ => true) held n 22 [c8] = some y8 := g8
    obtain ⟨a0, e0, _, w0⟩ := DataW.trod_int Tryd.underlying5 g0
    injection e0 with e0 _; subst e0
    have b0 := bounds_u8 w0
    obtain ⟨A1, n1, k1, z1, rfl, r1, l1, o1, m1, q1, -⟩ := slice_open (cs := Lk.cells) lk_len (by decide) Tryd.underlying64 (by kernel_rfl) link_of g1
    obtain ⟨a2, e2, _, w2⟩ := DataW.trod_int Tryd.underlying26 g2
    injection e2 with e2 _; subst e2
    have b2 := bounds_u32 w2
    obtain ⟨A3, n3, k3, z3, rfl, r3, l3, o3, m3, q3, -⟩ := slice_open (cs := fun x : Int => [Value.int .u32 x]) (fun _ => rfl) (by decide) Tryd.underlying65 (by kernel_rfl) word_of g3
    obtain ⟨a4, e4, _, w4⟩ := DataW.trod_int Tryd.underlying26 g4
    injection e4 with e4 _; subst e4
    have b4 := bounds_u32 w4
    obtain ⟨a5, e5, _⟩ := DataW.trod_bool Tryd.underlying4 g5
    injection e5 with e5 _; subst e5
    obtain ⟨a6, e6, _, w6⟩ := DataW.trod_int Tryd.underlying26 g6
    injection e6 with e6 _; subst e6
    have b6 := bounds_u32 w6
    obtain ⟨a7, e7, _, w7⟩ := DataW.trod_int Tryd.underlying26 g7
    injection e7 with e7 _; subst e7
    have b7 := bounds_u32 w7
    obtain ⟨A8, n8, k8, z8, rfl, ⟨r8, o8, m8⟩, v8⟩ := bytes_open Tryd.underlying22 Tryd.underlying5 (by kernel_rfl) (by kernel_rfl) g8
    exact ⟨⟨a0, A1, n1, k1, z1, a2, A3, n3, k3, z3, a4, a5, a6, a7, A8, n8, k8, z8⟩, rfl, ⟨b0, r1, l1, o1, b2, r3, l3, o3, b4, b6, b7, r8, o8, ⟨m1, q1, m3, q3, m8⟩⟩⟩
/-- A state as it comes in. -/
structure SArg (w : World) (s : SE) : Prop where
  head : s.h.ok
  body : Reads w w.heap.size 1 s.A s.n (u8s s.B)
  oct : Oct s.B
  cap : s.n ≤ s.c ∧ s.c ≤ 9223372036854775807
theorem SArg.later {w w' : World} {s : SE} (h : SArg w s) (hb : Below w.heap.size w w') : SArg w' s := ⟨h.head, h.body.later hb, h.oct, h.cap⟩
theorem SArg.rd {w : World} {s : SE} (h : SArg w s) (hn : s.n ≤ 1099511627776) : s.rd w := ⟨h.head, h.body, h.oct, h.cap, hn⟩
def SE.cells (s : SE) : List Value := [.int .u16 s.h.age, .int .u8 s.h.opts, .int .u8 s.h.typ, .int .u32 s.h.id, .int .u32 s.h.adv, .int .i32 s.h.seq, .int .u16 s.h.sum, .int .u16 s.h.len, .slice s.A s.n s.c]
theorem st_len (s : SE) : s.cells.length = 9 := rfl
set_option maxRecDepth 100000 in
theorem state_of {H : Type} {enc : TypeId × Value → H} {w : World} {held : Bool} (fuel : Nat) (cs : List Value) (x : DataW H × List MemPlace) (h : DataW.trod enc Tryd.prog w 0 (fun _ => true) held fuel 33 cs = some x) :
    ∃ s : SE, cs = s.cells ∧ SArg w s ∧ ((∀ N ∈ x.1.weights Tryd.prog 33, N ≤ reachBytes) → s.n ≤ reachBytes) := by
  obtain ⟨xs, n, _, hxw, hl, hxl, hf⟩ := DataW.trod_struct Tryd.underlying33 h
  have hC : Tryd.prog.cellsOf 33 = 9 := by kernel_rfl
  rw [hC] at hl
  match cs, hl, xs, hxl with
  | [c0, c1, c2, c3, c4, c5, c6, c7, c8], _, [y0, y1], _ =>
    have g0 : DataW.trod enc Tryd.prog w 0 (fun _ => true) held n 28 (([c0, c1, c2, c3, c4, c5, c6, c7, c8].drop 0).take (Tryd.prog.cellsOf 28)) = some y0 := hf 0 _ rfl
    rw [show Tryd.prog.cellsOf 28 = 8 from by kernel_rfl] at g0
    replace g0 : DataW.trod enc Tryd.prog w 0 (fun _ => true) held n 28 [c0, c1, c2, c3, c4, c5, c6, c7] = some y0 := g0
    have g1 : DataW.trod enc Tryd.prog w 0 (fun _ => true) held n 22 (([c0, c1, c2, c3, c4, c5, c6, c7, c8].drop 8).take (Tryd.prog.cellsOf 22)) = some y1 := hf 1 _ rfl
    rw [show Tryd.prog.cellsOf 22 = 1 from by kernel_rfl] at g1
    replace g1 : DataW.trod enc Tryd.prog w 0 (fun _ => true) held n 22 [c8] = some y1 := g1
    obtain ⟨hd, e0, o0, -⟩ := head_of _ _ _ g0
    simp only [Hd.cells, List.cons.injEq, and_true] at e0
    obtain ⟨rfl, rfl, rfl, rfl, rfl, rfl, rfl, rfl⟩ := e0
    obtain ⟨A1, n1, k1, z1, rfl, ⟨r1, o1, m1⟩, v1⟩ := bytes_open Tryd.underlying22 Tryd.underlying5 (by kernel_rfl) (by kernel_rfl) g1
    refine ⟨⟨hd, A1, n1, k1, z1⟩, rfl, ⟨o0, r1, o1, m1⟩, fun hw => ?_⟩
    rw [hxw] at hw
    refine Nat.le_trans m1.1 (v1 fun N hN => hw N ?_)
    simp only [DataW.weights, Tryd.underlying33]
    exact DataW.weights_mem_each (j := 1) (t := 22) (d := y1.1) rfl rfl N hN
structure Stl (w : World) (A : Option Addr) (n : Nat) (L : List SE) : Prop where
  row : Reads w w.heap.size 9 A n (L.flatMap SE.cells)
  len : L.length = n
  ok : ∀ s ∈ L, SArg w s
theorem Stl.later {w w' : World} {A : Option Addr} {n : Nat} {L : List SE} (h : Stl w A n L) (hb : Below w.heap.size w w') : Stl w' A n L := ⟨h.row.later hb, h.len, fun s hs => (h.ok s hs).later hb⟩
/-- The cells of a state that stands at an address. -/
def StAt (w : World) (ad : Addr) (s : SE) : Prop :=
  w.cell? ad = some (.int .u16 s.h.age) ∧ w.cell? ⟨ad.block, ad.off + 1, none⟩ = some (.int .u8 s.h.opts) ∧ w.cell? ⟨ad.block, ad.off + 2, none⟩ = some (.int .u8 s.h.typ) ∧ w.cell? ⟨ad.block, ad.off + 3, none⟩ = some (.int .u32 s.h.id) ∧ w.cell? ⟨ad.block, ad.off + 4, none⟩ = some (.int .u32 s.h.adv) ∧
    w.cell? ⟨ad.block, ad.off + 5, none⟩ = some (.int .i32 s.h.seq) ∧ w.cell? ⟨ad.block, ad.off + 6, none⟩ = some (.int .u16 s.h.sum) ∧ w.cell? ⟨ad.block, ad.off + 7, none⟩ = some (.int .u16 s.h.len) ∧ w.cell? ⟨ad.block, ad.off + 8, none⟩ = some (.slice s.A s.n s.c)
theorem Stl.at_ {w : World} {A : Option Addr} {n i : Nat} {L : List SE} (h : Stl w A n L) (hi : i < n) : ∃ ad s, A = some ad ∧ ad.block < w.heap.size ∧ L[i]? = some s ∧ SArg w s ∧ StAt w (ad.add (i * 9)) s := by
  obtain ⟨ad, s, e, hb, hs, h0, hj⟩ := rowG_at st_len h.row h.len hi
  exact ⟨ad, s, e, hb, hs, h.ok s (List.mem_of_getElem? hs), h0 _ rfl, hj 1 _ (by decide) rfl, hj 2 _ (by decide) rfl, hj 3 _ (by decide) rfl, hj 4 _ (by decide) rfl, hj 5 _ (by decide) rfl, hj 6 _ (by decide) rfl, hj 7 _ (by decide) rfl, hj 8 _ (by decide) rfl⟩
theorem StAt.later {w w' : World} {ad : Addr} {s : SE} (h : StAt w ad s) (hb : Below w.heap.size w w') : StAt w' ad s := by
  obtain ⟨h0, h1, h2, h3, h4, h5, h6, h7, h8⟩ := h
  have hl := cell_lt h0
  have H : ∀ (p : Addr) v, w.cell? p = some v → w'.cell? p = some v := fun p v e => (hb.cell (cell_lt e)).trans e
  exact ⟨H _ _ h0, H _ _ h1, H _ _ h2, H _ _ h3, H _ _ h4, H _ _ h5, H _ _ h6, H _ _ h7, H _ _ h8⟩
theorem states_arg {H : Type} {enc : TypeId × Value → H} {w : World} {r : Reach} {b : Nat} {held : Bool} {v : Value} {d : DataW H} {p : List MemPlace}
    (hv : Value.okWide Tryd.prog w r b 124 v) (h : DataW.Trod enc Tryd.prog w 0 (fun _ => true) held 124 v d p) :
    ∃ (A : Option Addr) (n c : Nat) (L : List SE), v = .slice A n c ∧ Stl w A n L ∧ n ≤ c ∧ c ≤ 9223372036854775807 ∧ ((∀ N ∈ d.weights Tryd.prog 124, N ≤ reachBytes) → ∀ s ∈ L, s.n ≤ reachBytes) := by
  obtain ⟨A, n, c, L, e, h1, h2, h3, h4, h5, h6⟩ := slice_arg (cs := SE.cells) st_len (by decide) Tryd.underlying124 (by kernel_rfl) state_of hv h
  exact ⟨A, n, c, L, e, ⟨h1, h2, h3⟩, h4, h5, fun hw => (h6 hw).1⟩
theorem head_arg {H : Type} {enc : TypeId × Value → H} {w : World} {r : Reach} {b : Nat} {held : Bool} {v : Value} {d : DataW H} {p : List MemPlace}
    (hv : Value.okWide Tryd.prog w r b 28 v) (h : DataW.Trod enc Tryd.prog w 0 (fun _ => true) held 28 v d p) : ∃ h : Hd, v = h.v ∧ h.ok := by
  obtain ⟨cs, rfl, _⟩ := okWide_struct Tryd.underlying28 hv
  obtain ⟨fuel, hf⟩ := h
  obtain ⟨x, e, hx, -⟩ := head_of _ _ _ hf
  refine ⟨x, ?_, hx⟩
  obtain ⟨l⟩ := cs
  simp only [Value.cells] at e
  subst e
  rfl
theorem body_arg {H : Type} {enc : TypeId × Value → H} {w : World} {r : Reach} {b : Nat} {held : Bool} {v : Value} {d : DataW H} {p : List MemPlace}
    (hv : Value.okWide Tryd.prog w r b 67 v) (h : DataW.Trod enc Tryd.prog w 0 (fun _ => true) held 67 v d p) : ∃ b : BA, v = b.v ∧ BArg w b := by
  obtain ⟨cs, rfl, _⟩ := okWide_struct Tryd.underlying67 hv
  obtain ⟨fuel, hf⟩ := h
  obtain ⟨x, e, hx⟩ := body_of _ _ _ hf
  refine ⟨x, ?_, hx⟩
  obtain ⟨l⟩ := cs
  simp only [Value.cells] at e
  subst e
  rfl
theorem state_arg {H : Type} {enc : TypeId × Value → H} {w : World} {r : Reach} {b : Nat} {held : Bool} {v : Value} {d : DataW H} {p : List MemPlace}
    (hv : Value.okWide Tryd.prog w r b 33 v) (h : DataW.Trod enc Tryd.prog w 0 (fun _ => true) held 33 v d p) : ∃ s : SE, v = s.v ∧ SArg w s := by
  obtain ⟨cs, rfl, _⟩ := okWide_struct Tryd.underlying33 hv
  obtain ⟨fuel, hf⟩ := h
  obtain ⟨x, e, hx, -⟩ := state_of _ _ _ hf
  refine ⟨x, ?_, hx⟩
  obtain ⟨l⟩ := cs
  simp only [Value.cells] at e
  subst e
  rfl
theorem int_arg {w : World} {r : Reach} {b : Nat} {v : Value} (h : Value.okWide Tryd.prog w r b 3 v) : ∃ n, v = .int .i64 n := Go.WideShapes.okWide_int Tryd.underlying3 h
theorem u16_arg {H : Type} {enc : TypeId × Value → H} {w : World} {r : Reach} {b : Nat} {held : Bool} {v : Value} {d : DataW H} {p : List MemPlace}
    (hv : Value.okWide Tryd.prog w r b 25 v) (h : DataW.Trod enc Tryd.prog w 0 (fun _ => true) held 25 v d p) : ∃ n, v = .int .u16 n ∧ 0 ≤ n ∧ n ≤ 65535 := by
  obtain ⟨r, rfl, _, _, hwr⟩ := Go.ChangeShapes.open_int Tryd.underlying25 hv h
  exact ⟨r, rfl, bounds_u16 hwr⟩
theorem u8_arg {H : Type} {enc : TypeId × Value → H} {w : World} {r : Reach} {b : Nat} {held : Bool} {v : Value} {d : DataW H} {p : List MemPlace}
    (hv : Value.okWide Tryd.prog w r b 5 v) (h : DataW.Trod enc Tryd.prog w 0 (fun _ => true) held 5 v d p) : ∃ n, v = .int .u8 n ∧ 0 ≤ n ∧ n ≤ 255 := by
  obtain ⟨r, rfl, _, _, hwr⟩ := Go.ChangeShapes.open_int Tryd.underlying5 hv h
  exact ⟨r, rfl, bounds_u8 hwr⟩
end Go.Proofs.YtljedcfpbdompaaDoor
