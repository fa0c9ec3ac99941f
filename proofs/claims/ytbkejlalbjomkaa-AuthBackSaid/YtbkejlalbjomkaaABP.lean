/-
  What the arguments of the packets' laws are; a packet in memory of its own can be read. Printed by gen_pk29.py.
  What was read of a packet's bytes are its bytes; what was laid is read back: plain laws.
  A packet goes into bytes and back; what is read is written as it was: plain laws.
  What was encoded is decoded as the same: plain laws.
-/
import Derived.Test.YtbkejlalbjomkaaPk28
import Derived.ChangeArms
import Derived.WideShapes
import Derived.OpenShut
import Derived.SizedLaws
namespace Go.Proofs.Ytbkejlalbjomkaa
set_option linter.unusedVariables false
open Go.ChangeShapes Go.WideShapes Go.RowKit
set_option maxRecDepth 100000

theorem reach_le {n k : Nat} (hk : 0 < k) (h : n * k ≤ reachBytes) : n ≤ 140737488355328 := Nat.le_trans (Nat.le_mul_of_pos_right n hk) (Nat.le_trans h (by decide))
set_option maxRecDepth 100000 in
theorem key_of {H : Type} {enc : TypeId × Value → H} {w : World} {held : Bool} (fuel : Nat) (cs : List Value) (x : DataW H × List MemPlace) (h : DataW.trod enc Try.prog w 0 (fun _ => true) held fuel 129 cs = some x) :
    ∃ k : Ky, cs = k.cells ∧ k.ok ∧ ((∀ N ∈ x.1.weights Try.prog 129, N ≤ reachBytes) → True) := by
  obtain ⟨xs, n, _, hxw, hl, hxl, hf⟩ := DataW.trod_struct Try.underlying129 h
  have hC : Try.prog.cellsOf 129 = 3 := by kernel_rfl
  rw [hC] at hl
  match cs, hl, xs, hxl with
  | [c0, c1, c2], _, [y0, y1, y2], _ =>
    have g0 : DataW.trod enc Try.prog w 0 (fun _ => true) held n 5 (([c0, c1, c2].drop 0).take (Try.prog.cellsOf 5)) = some y0 := hf 0 _ rfl
    rw [show Try.prog.cellsOf 5 = 1 from by kernel_rfl] at g0
    replace g0 : DataW.trod enc Try.prog w 0 (fun _ => true) held n 5 [c0] = some y0 := g0
    have g1 : DataW.trod enc Try.prog w 0 (fun _ => true) held n 22 (([c0, c1, c2].drop 1).take (Try.prog.cellsOf 22)) = some y1 := hf 1 _ rfl
    rw [show Try.prog.cellsOf 22 = 1 from by kernel_rfl] at g1
    replace g1 : DataW.trod enc Try.prog w 0 (fun _ => true) held n 22 [c1] = some y1 := g1
    have g2 : DataW.trod enc Try.prog w 0 (fun _ => true) held n 22 (([c0, c1, c2].drop 2).take (Try.prog.cellsOf 22)) = some y2 := hf 2 _ rfl
    rw [show Try.prog.cellsOf 22 = 1 from by kernel_rfl] at g2
    replace g2 : DataW.trod enc Try.prog w 0 (fun _ => true) held n 22 [c2] = some y2 := g2
    obtain ⟨a0, e0, _, w0⟩ := DataW.trod_int Try.underlying5 g0
    injection e0 with e0 _; subst e0
    have b0 := bounds_u8 w0
    obtain ⟨a1, e1, _, w1⟩ := DataW.trod_int Try.underlying22 g1
    injection e1 with e1 _; subst e1
    have b1 := bounds_u32 w1
    obtain ⟨a2, e2, _, w2⟩ := DataW.trod_int Try.underlying22 g2
    injection e2 with e2 _; subst e2
    have b2 := bounds_u32 w2
    exact ⟨⟨a0, a1, a2⟩, rfl, ⟨by omega, b1, b2⟩, fun _ => trivial⟩
set_option maxRecDepth 100000 in
theorem hello_of {H : Type} {enc : TypeId × Value → H} {w : World} {held : Bool} (fuel : Nat) (cs : List Value) (x : DataW H × List MemPlace) (h : DataW.trod enc Try.prog w 0 (fun _ => true) held fuel 26 cs = some x) :
    ∃ (a b c d e f g : Int) (A : Option Addr) (n k : Nat) (L : List Int), cs = [.int .u32 a, .int .u16 b, .int .u8 c, .int .u8 d, .int .u32 e, .int .u32 f, .int .u32 g, .slice A n k] ∧ (0 ≤ a ∧ a ≤ 4294967295) ∧ (0 ≤ b ∧ b ≤ 65535) ∧ (0 ≤ c ∧ c ≤ 255) ∧ (0 ≤ d ∧ d ≤ 255) ∧ (0 ≤ e ∧ e ≤ 4294967295) ∧ (0 ≤ f ∧ f ≤ 4294967295) ∧ (0 ≤ g ∧ g ≤ 4294967295) ∧ (Reads w w.heap.size 1 A n (L.flatMap fun x : Int => [Value.int .u32 x]) ∧ L.length = n ∧ (∀ x ∈ L, 0 ≤ x ∧ x ≤ 4294967295) ∧ (n ≤ k ∧ k ≤ 9223372036854775807)) ∧ ((∀ N ∈ x.1.weights Try.prog 26, N ≤ reachBytes) → n ≤ 140737488355328) := by
  obtain ⟨xs, n, _, hxw, hl, hxl, hf⟩ := DataW.trod_struct Try.underlying26 h
  have hC : Try.prog.cellsOf 26 = 8 := by kernel_rfl
  rw [hC] at hl
  match cs, hl, xs, hxl with
  | [c0, c1, c2, c3, c4, c5, c6, c7], _, [y0, y1, y2, y3, y4, y5, y6, y7], _ =>
    have g0 : DataW.trod enc Try.prog w 0 (fun _ => true) held n 22 (([c0, c1, c2, c3, c4, c5, c6, c7].drop 0).take (Try.prog.cellsOf 22)) = some y0 := hf 0 _ rfl
    rw [show Try.prog.cellsOf 22 = 1 from by kernel_rfl] at g0
    replace g0 : DataW.trod enc Try.prog w 0 (fun _ => true) held n 22 [c0] = some y0 := g0
    have g1 : DataW.trod enc Try.prog w 0 (fun _ => true) held n 23 (([c0, c1, c2, c3, c4, c5, c6, c7].drop 1).take (Try.prog.cellsOf 23)) = some y1 := hf 1 _ rfl
    rw [show Try.prog.cellsOf 23 = 1 from by kernel_rfl] at g1
    replace g1 : DataW.trod enc Try.prog w 0 (fun _ => true) held n 23 [c1] = some y1 := g1
    have g2 : DataW.trod enc Try.prog w 0 (fun _ => true) held n 5 (([c0, c1, c2, c3, c4, c5, c6, c7].drop 2).take (Try.prog.cellsOf 5)) = some y2 := hf 2 _ rfl
    rw [show Try.prog.cellsOf 5 = 1 from by kernel_rfl] at g2
    replace g2 : DataW.trod enc Try.prog w 0 (fun _ => true) held n 5 [c2] = some y2 := g2
    have g3 : DataW.trod enc Try.prog w 0 (fun _ => true) held n 5 (([c0, c1, c2, c3, c4, c5, c6, c7].drop 3).take (Try.prog.cellsOf 5)) = some y3 := hf 3 _ rfl
    rw [show Try.prog.cellsOf 5 = 1 from by kernel_rfl] at g3
    replace g3 : DataW.trod enc Try.prog w 0 (fun _ => true) held n 5 [c3] = some y3 := g3
    have g4 : DataW.trod enc Try.prog w 0 (fun _ => true) held n 22 (([c0, c1, c2, c3, c4, c5, c6, c7].drop 4).take (Try.prog.cellsOf 22)) = some y4 := hf 4 _ rfl
    rw [show Try.prog.cellsOf 22 = 1 from by kernel_rfl] at g4
    replace g4 : DataW.trod enc Try.prog w 0 (fun _ => true) held n 22 [c4] = some y4 := g4
    have g5 : DataW.trod enc Try.prog w 0 (fun _ => true) held n 22 (([c0, c1, c2, c3, c4, c5, c6, c7].drop 5).take (Try.prog.cellsOf 22)) = some y5 := hf 5 _ rfl
    rw [show Try.prog.cellsOf 22 = 1 from by kernel_rfl] at g5
    replace g5 : DataW.trod enc Try.prog w 0 (fun _ => true) held n 22 [c5] = some y5 := g5
    have g6 : DataW.trod enc Try.prog w 0 (fun _ => true) held n 22 (([c0, c1, c2, c3, c4, c5, c6, c7].drop 6).take (Try.prog.cellsOf 22)) = some y6 := hf 6 _ rfl
    rw [show Try.prog.cellsOf 22 = 1 from by kernel_rfl] at g6
    replace g6 : DataW.trod enc Try.prog w 0 (fun _ => true) held n 22 [c6] = some y6 := g6
    have g7 : DataW.trod enc Try.prog w 0 (fun _ => true) held n 24 (([c0, c1, c2, c3, c4, c5, c6, c7].drop 7).take (Try.prog.cellsOf 24)) = some y7 := hf 7 _ rfl
    rw [show Try.prog.cellsOf 24 = 1 from by kernel_rfl] at g7
    replace g7 : DataW.trod enc Try.prog w 0 (fun _ => true) held n 24 [c7] = some y7 := g7
    obtain ⟨a0, e0, _, w0⟩ := DataW.trod_int Try.underlying22 g0
    injection e0 with e0 _; subst e0
    have b0 := bounds_u32 w0
    obtain ⟨a1, e1, _, w1⟩ := DataW.trod_int Try.underlying23 g1
    injection e1 with e1 _; subst e1
    have b1 := bounds_u16 w1
    obtain ⟨a2, e2, _, w2⟩ := DataW.trod_int Try.underlying5 g2
    injection e2 with e2 _; subst e2
    have b2 := bounds_u8 w2
    obtain ⟨a3, e3, _, w3⟩ := DataW.trod_int Try.underlying5 g3
    injection e3 with e3 _; subst e3
    have b3 := bounds_u8 w3
    obtain ⟨a4, e4, _, w4⟩ := DataW.trod_int Try.underlying22 g4
    injection e4 with e4 _; subst e4
    have b4 := bounds_u32 w4
    obtain ⟨a5, e5, _, w5⟩ := DataW.trod_int Try.underlying22 g5
    injection e5 with e5 _; subst e5
    have b5 := bounds_u32 w5
    obtain ⟨a6, e6, _, w6⟩ := DataW.trod_int Try.underlying22 g6
    injection e6 with e6 _; subst e6
    have b6 := bounds_u32 w6
    obtain ⟨A7, n7, k7, z7, rfl, r7, l7, o7, m7, q7, v7⟩ := slice_open (cs := fun x : Int => [Value.int .u32 x]) (fun _ => rfl) (by decide) Try.underlying24 (by kernel_rfl) word_of g7
    refine ⟨a0, a1, a2, a3, a4, a5, a6, A7, n7, k7, z7, rfl, b0, b1, b2, b3, b4, b5, b6, ⟨r7, l7, o7, m7, q7⟩, fun hw => ?_⟩
    rw [hxw] at hw
    exact reach_le (by rw [show Try.prog.bytesOf 22 = 4 from by kernel_rfl]; decide) (v7 (fun N hN => hw N (by simp only [DataW.weights, Try.underlying26]; exact DataW.weights_mem_each (j := 7) (t := 24) (d := y7.1) rfl rfl N hN))).2
set_option maxRecDepth 100000 in
theorem dd_of {H : Type} {enc : TypeId × Value → H} {w : World} {held : Bool} (fuel : Nat) (cs : List Value) (x : DataW H × List MemPlace) (h : DataW.trod enc Try.prog w 0 (fun _ => true) held fuel 29 cs = some x) :
    ∃ (a b c d : Int) (A : Option Addr) (n k : Nat) (L : List Hd), cs = [.int .u16 a, .int .u8 b, .int .u8 c, .int .u32 d, .slice A n k] ∧ (0 ≤ a ∧ a ≤ 65535) ∧ (0 ≤ b ∧ b ≤ 255) ∧ (0 ≤ c ∧ c ≤ 255) ∧ (0 ≤ d ∧ d ≤ 4294967295) ∧ (Reads w w.heap.size 8 A n (L.flatMap Hd.cells) ∧ L.length = n ∧ (∀ x ∈ L, x.ok) ∧ (n ≤ k ∧ k ≤ 9223372036854775807)) ∧ ((∀ N ∈ x.1.weights Try.prog 29, N ≤ reachBytes) → n ≤ 140737488355328) := by
  obtain ⟨xs, n, _, hxw, hl, hxl, hf⟩ := DataW.trod_struct Try.underlying29 h
  have hC : Try.prog.cellsOf 29 = 5 := by kernel_rfl
  rw [hC] at hl
  match cs, hl, xs, hxl with
  | [c0, c1, c2, c3, c4], _, [y0, y1, y2, y3, y4], _ =>
    have g0 : DataW.trod enc Try.prog w 0 (fun _ => true) held n 23 (([c0, c1, c2, c3, c4].drop 0).take (Try.prog.cellsOf 23)) = some y0 := hf 0 _ rfl
    rw [show Try.prog.cellsOf 23 = 1 from by kernel_rfl] at g0
    replace g0 : DataW.trod enc Try.prog w 0 (fun _ => true) held n 23 [c0] = some y0 := g0
    have g1 : DataW.trod enc Try.prog w 0 (fun _ => true) held n 5 (([c0, c1, c2, c3, c4].drop 1).take (Try.prog.cellsOf 5)) = some y1 := hf 1 _ rfl
    rw [show Try.prog.cellsOf 5 = 1 from by kernel_rfl] at g1
    replace g1 : DataW.trod enc Try.prog w 0 (fun _ => true) held n 5 [c1] = some y1 := g1
    have g2 : DataW.trod enc Try.prog w 0 (fun _ => true) held n 5 (([c0, c1, c2, c3, c4].drop 2).take (Try.prog.cellsOf 5)) = some y2 := hf 2 _ rfl
    rw [show Try.prog.cellsOf 5 = 1 from by kernel_rfl] at g2
    replace g2 : DataW.trod enc Try.prog w 0 (fun _ => true) held n 5 [c2] = some y2 := g2
    have g3 : DataW.trod enc Try.prog w 0 (fun _ => true) held n 22 (([c0, c1, c2, c3, c4].drop 3).take (Try.prog.cellsOf 22)) = some y3 := hf 3 _ rfl
    rw [show Try.prog.cellsOf 22 = 1 from by kernel_rfl] at g3
    replace g3 : DataW.trod enc Try.prog w 0 (fun _ => true) held n 22 [c3] = some y3 := g3
    have g4 : DataW.trod enc Try.prog w 0 (fun _ => true) held n 27 (([c0, c1, c2, c3, c4].drop 4).take (Try.prog.cellsOf 27)) = some y4 := hf 4 _ rfl
    rw [show Try.prog.cellsOf 27 = 1 from by kernel_rfl] at g4
    replace g4 : DataW.trod enc Try.prog w 0 (fun _ => true) held n 27 [c4] = some y4 := g4
    obtain ⟨a0, e0, _, w0⟩ := DataW.trod_int Try.underlying23 g0
    injection e0 with e0 _; subst e0
    have b0 := bounds_u16 w0
    obtain ⟨a1, e1, _, w1⟩ := DataW.trod_int Try.underlying5 g1
    injection e1 with e1 _; subst e1
    have b1 := bounds_u8 w1
    obtain ⟨a2, e2, _, w2⟩ := DataW.trod_int Try.underlying5 g2
    injection e2 with e2 _; subst e2
    have b2 := bounds_u8 w2
    obtain ⟨a3, e3, _, w3⟩ := DataW.trod_int Try.underlying22 g3
    injection e3 with e3 _; subst e3
    have b3 := bounds_u32 w3
    obtain ⟨A4, n4, k4, z4, rfl, r4, l4, o4, m4, q4, v4⟩ := slice_open (cs := Hd.cells) hd_len (by decide) Try.underlying27 (by kernel_rfl) head_of g4
    refine ⟨a0, a1, a2, a3, A4, n4, k4, z4, rfl, b0, b1, b2, b3, ⟨r4, l4, o4, m4, q4⟩, fun hw => ?_⟩
    rw [hxw] at hw
    exact reach_le (by rw [show Try.prog.bytesOf 74 = 20 from by kernel_rfl]; decide) (v4 (fun N hN => hw N (by simp only [DataW.weights, Try.underlying29]; exact DataW.weights_mem_each (j := 4) (t := 27) (d := y4.1) rfl rfl N hN))).2
theorem u32s_flat (L : List Int) : (L.flatMap fun x : Int => [Value.int .u32 x]) = u32s L := by
  induction L with
  | nil => rfl
  | cons x L ih => rw [List.flatMap_cons, ih]; rfl
set_option maxRecDepth 100000 in
theorem packet_of {H : Type} {enc : TypeId × Value → H} {w : World} {held : Bool} (fuel : Nat) (cs : List Value) (x : DataW H × List MemPlace) (h : DataW.trod enc Try.prog w 0 (fun _ => true) held fuel 33 cs = some x) :
    ∃ p : PA, cs = p.C.toList ∧ p.rd w ∧ ((∀ N ∈ x.1.weights Try.prog 33, N ≤ reachBytes) → p.fit) := by
  obtain ⟨xs, n, _, hxw, hl, hxl, hf⟩ := DataW.trod_struct Try.underlying33 h
  have hC : Try.prog.cellsOf 33 = 19 := by kernel_rfl
  rw [hC] at hl
  match cs, hl, xs, hxl with
  | [c0, c1, c2, c3, c4, c5, c6, c7, c8, c9, c10, c11, c12, c13, c14, c15, c16, c17, c18], _, [y0, y1, y2, y3, y4, y5, y6, y7], _ =>
    have g0 : DataW.trod enc Try.prog w 0 (fun _ => true) held n 5 (([c0, c1, c2, c3, c4, c5, c6, c7, c8, c9, c10, c11, c12, c13, c14, c15, c16, c17, c18].drop 0).take (Try.prog.cellsOf 5)) = some y0 := hf 0 _ rfl
    rw [show Try.prog.cellsOf 5 = 1 from by kernel_rfl] at g0
    replace g0 : DataW.trod enc Try.prog w 0 (fun _ => true) held n 5 [c0] = some y0 := g0
    have g1 : DataW.trod enc Try.prog w 0 (fun _ => true) held n 22 (([c0, c1, c2, c3, c4, c5, c6, c7, c8, c9, c10, c11, c12, c13, c14, c15, c16, c17, c18].drop 1).take (Try.prog.cellsOf 22)) = some y1 := hf 1 _ rfl
    rw [show Try.prog.cellsOf 22 = 1 from by kernel_rfl] at g1
    replace g1 : DataW.trod enc Try.prog w 0 (fun _ => true) held n 22 [c1] = some y1 := g1
    have g2 : DataW.trod enc Try.prog w 0 (fun _ => true) held n 22 (([c0, c1, c2, c3, c4, c5, c6, c7, c8, c9, c10, c11, c12, c13, c14, c15, c16, c17, c18].drop 2).take (Try.prog.cellsOf 22)) = some y2 := hf 2 _ rfl
    rw [show Try.prog.cellsOf 22 = 1 from by kernel_rfl] at g2
    replace g2 : DataW.trod enc Try.prog w 0 (fun _ => true) held n 22 [c2] = some y2 := g2
    have g3 : DataW.trod enc Try.prog w 0 (fun _ => true) held n 26 (([c0, c1, c2, c3, c4, c5, c6, c7, c8, c9, c10, c11, c12, c13, c14, c15, c16, c17, c18].drop 3).take (Try.prog.cellsOf 26)) = some y3 := hf 3 _ rfl
    rw [show Try.prog.cellsOf 26 = 8 from by kernel_rfl] at g3
    replace g3 : DataW.trod enc Try.prog w 0 (fun _ => true) held n 26 [c3, c4, c5, c6, c7, c8, c9, c10] = some y3 := g3
    have g4 : DataW.trod enc Try.prog w 0 (fun _ => true) held n 29 (([c0, c1, c2, c3, c4, c5, c6, c7, c8, c9, c10, c11, c12, c13, c14, c15, c16, c17, c18].drop 11).take (Try.prog.cellsOf 29)) = some y4 := hf 4 _ rfl
    rw [show Try.prog.cellsOf 29 = 5 from by kernel_rfl] at g4
    replace g4 : DataW.trod enc Try.prog w 0 (fun _ => true) held n 29 [c11, c12, c13, c14, c15] = some y4 := g4
    have g5 : DataW.trod enc Try.prog w 0 (fun _ => true) held n 30 (([c0, c1, c2, c3, c4, c5, c6, c7, c8, c9, c10, c11, c12, c13, c14, c15, c16, c17, c18].drop 16).take (Try.prog.cellsOf 30)) = some y5 := hf 5 _ rfl
    rw [show Try.prog.cellsOf 30 = 1 from by kernel_rfl] at g5
    replace g5 : DataW.trod enc Try.prog w 0 (fun _ => true) held n 30 [c16] = some y5 := g5
    have g6 : DataW.trod enc Try.prog w 0 (fun _ => true) held n 31 (([c0, c1, c2, c3, c4, c5, c6, c7, c8, c9, c10, c11, c12, c13, c14, c15, c16, c17, c18].drop 17).take (Try.prog.cellsOf 31)) = some y6 := hf 6 _ rfl
    rw [show Try.prog.cellsOf 31 = 1 from by kernel_rfl] at g6
    replace g6 : DataW.trod enc Try.prog w 0 (fun _ => true) held n 31 [c17] = some y6 := g6
    have g7 : DataW.trod enc Try.prog w 0 (fun _ => true) held n 27 (([c0, c1, c2, c3, c4, c5, c6, c7, c8, c9, c10, c11, c12, c13, c14, c15, c16, c17, c18].drop 18).take (Try.prog.cellsOf 27)) = some y7 := hf 7 _ rfl
    rw [show Try.prog.cellsOf 27 = 1 from by kernel_rfl] at g7
    replace g7 : DataW.trod enc Try.prog w 0 (fun _ => true) held n 27 [c18] = some y7 := g7
    obtain ⟨a0, e0, _, w0⟩ := DataW.trod_int Try.underlying5 g0
    injection e0 with e0 _; subst e0
    have b0 := bounds_u8 w0
    obtain ⟨a1, e1, _, w1⟩ := DataW.trod_int Try.underlying22 g1
    injection e1 with e1 _; subst e1
    have b1 := bounds_u32 w1
    obtain ⟨a2, e2, _, w2⟩ := DataW.trod_int Try.underlying22 g2
    injection e2 with e2 _; subst e2
    have b2 := bounds_u32 w2
    obtain ⟨hm, hi, ho, hp, hd, hr, hb, hA, hn, hc, hnb, e3, f3⟩ := hello_of _ _ _ g3
    simp only [List.cons.injEq, and_true] at e3
    obtain ⟨rfl, rfl, rfl, rfl, rfl, rfl, rfl, rfl⟩ := e3
    obtain ⟨dm, dop, dfl, dsq, dA, dn, dc, ddh, e4, f4⟩ := dd_of _ _ _ g4
    simp only [List.cons.injEq, and_true] at e4
    obtain ⟨rfl, rfl, rfl, rfl, rfl⟩ := e4
    obtain ⟨A5, n5, k5, z5, rfl, r5, l5, o5, m5, q5, v5⟩ := slice_open (cs := Ky.cells) ky_len (by decide) Try.underlying30 (by kernel_rfl) key_of g5
    obtain ⟨A6, n6, k6, z6, rfl, r6, l6, o6, m6, q6, v6⟩ := slice_open (cs := SE.cells) st_len (by decide) Try.underlying31 (by kernel_rfl) state_of g6
    obtain ⟨A7, n7, k7, z7, rfl, r7, l7, o7, m7, q7, v7⟩ := slice_open (cs := Hd.cells) hd_len (by decide) Try.underlying27 (by kernel_rfl) head_of g7
    obtain ⟨h1, h2, h3, h4, h5, h6, h7, ⟨s1, s2, s3, s4⟩, s5⟩ := f3
    obtain ⟨j1, j2, j3, j4, ⟨t1, t2, t3, t4⟩, t5⟩ := f4
    rw [u32s_flat] at s1
    refine ⟨⟨a0, a1, a2, hm, hi, ho, hp, hd, hr, hb, hA, hn, hc, hnb, dm, dop, dfl, dsq, dA, dn, dc, ddh, A5, n5, k5, z5, A6, n6, k6, z6, A7, n7, k7, z7⟩, rfl, ⟨⟨b0, b1, b2, h1, h2, h3, h4, h5, h6, h7, j1, j2, j3, j4, s3, t3, o5, o7, s2, t2, l5, l6, l7, s4, t4, ⟨m5, q5⟩, ⟨m6, q6⟩, ⟨m7, q7⟩⟩, s1, t1, r5, r6, o6, r7⟩, fun hw => ?_⟩
    rw [hxw] at hw
    exact ⟨s5 (fun N hN => hw N (by simp only [DataW.weights, Try.underlying33]; exact DataW.weights_mem_each (j := 3) (t := 26) (d := y3.1) rfl rfl N hN)), t5 (fun N hN => hw N (by simp only [DataW.weights, Try.underlying33]; exact DataW.weights_mem_each (j := 4) (t := 29) (d := y4.1) rfl rfl N hN)), reach_le (by rw [show Try.prog.bytesOf 129 = 12 from by kernel_rfl]; decide) (v5 (fun N hN => hw N (by simp only [DataW.weights, Try.underlying33]; exact DataW.weights_mem_each (j := 5) (t := 30) (d := y5.1) rfl rfl N hN))).2, reach_le (by rw [show Try.prog.bytesOf 76 = 48 from by kernel_rfl]; decide) (v6 (fun N hN => hw N (by simp only [DataW.weights, Try.underlying33]; exact DataW.weights_mem_each (j := 6) (t := 31) (d := y6.1) rfl rfl N hN))).2, reach_le (by rw [show Try.prog.bytesOf 74 = 20 from by kernel_rfl]; decide) (v7 (fun N hN => hw N (by simp only [DataW.weights, Try.underlying33]; exact DataW.weights_mem_each (j := 7) (t := 27) (d := y7.1) rfl rfl N hN))).2, fun s hs => Nat.le_trans ((v6 (fun N hN => hw N (by simp only [DataW.weights, Try.underlying33]; exact DataW.weights_mem_each (j := 6) (t := 31) (d := y6.1) rfl rfl N hN))).1 s hs) (by decide)⟩
theorem packet_arg {H : Type} {enc : TypeId × Value → H} {w : World} {r : Reach} {b : Nat} {held : Bool} {v : Value} {d : DataW H} {p : List MemPlace}
    (hv : Value.okWide Try.prog w r b 33 v) (h : DataW.Trod enc Try.prog w 0 (fun _ => true) held 33 v d p) : ∃ p : PA, v = p.v ∧ p.rd w ∧ ((∀ N ∈ d.weights Try.prog 33, N ≤ reachBytes) → p.fit) := by
  obtain ⟨cs, rfl, _⟩ := okWide_struct Try.underlying33 hv
  obtain ⟨fuel, hf⟩ := h
  obtain ⟨x, e, hx, hf⟩ := packet_of _ _ _ hf
  refine ⟨x, ?_, hx, hf⟩
  obtain ⟨l⟩ := cs
  simp only [Value.cells] at e
  subst e
  rfl
/-- What a packet's numbers are in. -/
structure PA.rng (p : PA) : Prop where
  typ : 0 ≤ p.typ ∧ p.typ ≤ 255
  router : 0 ≤ p.router ∧ p.router ≤ 4294967295
  area : 0 ≤ p.area ∧ p.area ≤ 4294967295
  mask : 0 ≤ p.mask ∧ p.mask ≤ 4294967295
  ivl : 0 ≤ p.ivl ∧ p.ivl ≤ 65535
  hopts : 0 ≤ p.hopts ∧ p.hopts ≤ 255
  pri : 0 ≤ p.pri ∧ p.pri ≤ 255
  dead : 0 ≤ p.dead ∧ p.dead ≤ 4294967295
  dr : 0 ≤ p.dr ∧ p.dr ≤ 4294967295
  bdr : 0 ≤ p.bdr ∧ p.bdr ≤ 4294967295
  mtu : 0 ≤ p.mtu ∧ p.mtu ≤ 65535
  dopts : 0 ≤ p.dopts ∧ p.dopts ≤ 255
  flags : 0 ≤ p.flags ∧ p.flags ≤ 255
  seq : 0 ≤ p.seq ∧ p.seq ≤ 4294967295
  nb : ∀ x ∈ p.nb, 0 ≤ x ∧ x ≤ 4294967295
  dh : ∀ h ∈ p.dh, h.ok
  ks : ∀ k ∈ p.ks, k.ok
  hs : ∀ h ∈ p.hs, h.ok
theorem PA.ok.rng {p : PA} (h : p.ok) : p.rng := ⟨h.typ, h.router, h.area, h.mask, h.ivl, h.hopts, h.pri, h.dead, h.dr, h.bdr, h.mtu, h.dopts, h.flags, h.seq, h.nb, h.dh, h.ks, h.hs⟩
theorem own_caps {w : World} {base size n c : Nat} {e : TypeId} {A : Option Addr} {xs : List Value} (h : w.ownsRow base e size (.slice A n c) n xs) : n ≤ c ∧ c ≤ 9223372036854775807 := by
  obtain ⟨A', c', e, h1, h2, _⟩ := own_shape_n h
  injection e with _ _ e
  subst e
  exact ⟨h1, h2⟩
/-- A packet in memory of its own can be read. -/
theorem PkY.rd {w W : World} {p : PA} (h : PkY w W p) (r : p.rng) : p.rd W := by
  have l1 := h.n.1
  have l2 := h.d.1
  have l3 := h.k.1
  have l4 := h.s.row.1
  have l5 := h.h.1
  rw [flatG_len hd_len] at l2 l5
  rw [flatG_len ky_len] at l3
  rw [flatG_len st_len] at l4
  rw [← u32s_flat, flatG_len (cs := fun x : Int => [Value.int .u32 x]) (k := 1) (fun _ => rfl)] at l1
  have l1' : p.nb.length = p.nn := by omega
  exact ⟨⟨r.typ, r.router, r.area, r.mask, r.ivl, r.hopts, r.pri, r.dead, r.dr, r.bdr, r.mtu, r.dopts, r.flags, r.seq, r.nb, r.dh, r.ks, r.hs, l1', by omega, by omega, by omega, by omega, own_caps h.n, own_caps h.d, own_caps h.k, own_caps h.s.row, own_caps h.h⟩,
    Reads.of_own h.n, Reads.of_own h.d, Reads.of_own h.k, Reads.of_own h.s.row, fun s hs => ⟨(h.s.ok s hs).head, (h.s.ok s hs).rd.body, (h.s.ok s hs).oct, (h.s.ok s hs).rd.cap⟩, Reads.of_own h.h⟩
theorem SameP.rng {p q : PA} (h : SameP p q) (r : p.rng) : q.rng := by
  rw [h.eq]
  exact ⟨r.typ, r.router, r.area, r.mask, r.ivl, r.hopts, r.pri, r.dead, r.dr, r.bdr, r.mtu, r.dopts, r.flags, r.seq, r.nb, r.dh, r.ks, r.hs⟩
theorem SameP.few {p q : PA} (h : SameP p q) (f : p.few) : q.few := by
  refine ⟨by rw [h.eq]; exact f.n, by rw [h.eq]; exact f.d, by rw [h.eq]; exact f.k, by rw [h.eq]; exact f.s, by rw [h.eq]; exact f.h, fun s hs => ?_⟩
  have h1 : s.con ∈ q.ss.map SE.con := List.mem_map.2 ⟨s, hs, rfl⟩
  rw [h.st] at h1
  obtain ⟨t, ht, e⟩ := List.mem_map.1 h1
  have := f.b t ht
  unfold SE.con at e
  injection e with _ e
  injection e with e _
  omega
end Go.Proofs.Ytbkejlalbjomkaa
namespace Go.Proofs.Ytbkejlalbjomkaa
set_option linter.unusedVariables false
open Go.RowKit

/-- A head that was laid is read back. -/
theorem hdAt_hdB {h : Hd} (k : h.ok) (B : List Int) : hdAt (hdB h ++ B) 0 = h := by
  obtain ⟨a, o, t, i, d, s, m, l⟩ := h
  have e1 := be_numB2 k.age.1 (by have := k.age; omega)
  have e2 := be_numB4 k.id.1 (by have := k.id; omega)
  have e3 := be_numB4 k.adv.1 (by have := k.adv; omega)
  have e4 := be_numB4 (x := s % 4294967296) (by omega) (by omega)
  have e5 := be_numB2 k.sum.1 (by have := k.sum; omega)
  have e6 := be_numB2 k.len.1 (by have := k.len; omega)
  simp only at e1 e2 e3 e5 e6
  unfold hdAt
  rw [show ((hdB ⟨a, o, t, i, d, s, m, l⟩ ++ B).drop 0).take 2 = numB a 2 from rfl, show ((hdB ⟨a, o, t, i, d, s, m, l⟩ ++ B).drop (0 + 2)).take 1 = [o] from rfl, show ((hdB ⟨a, o, t, i, d, s, m, l⟩ ++ B).drop (0 + 3)).take 1 = [t] from rfl, show ((hdB ⟨a, o, t, i, d, s, m, l⟩ ++ B).drop (0 + 4)).take 4 = numB i 4 from rfl, show ((hdB ⟨a, o, t, i, d, s, m, l⟩ ++ B).drop (0 + 8)).take 4 = numB d 4 from rfl, show ((hdB ⟨a, o, t, i, d, s, m, l⟩ ++ B).drop (0 + 12)).take 4 = numB (s % 4294967296) 4 from rfl, show ((hdB ⟨a, o, t, i, d, s, m, l⟩ ++ B).drop (0 + 16)).take 2 = numB m 2 from rfl, show ((hdB ⟨a, o, t, i, d, s, m, l⟩ ++ B).drop (0 + 18)).take 2 = numB l 2 from rfl, e1, e2, e3, e4, e5, e6, wrap_i32_eq]
  have hs := k.seq
  simp only at hs
  rw [show (s % 4294967296 + 2147483648) % 4294967296 - 2147483648 = s by omega]
  simp [be]
theorem four_of {a b c d : Int} (ha : 0 ≤ a ∧ a ≤ 255) (hb : 0 ≤ b ∧ b ≤ 255) (hc : 0 ≤ c ∧ c ≤ 255) (hd : 0 ≤ d ∧ d ≤ 255) : numB (be [a, b, c, d]) 4 = [a, b, c, d] := by
  simp [numB, four, be]
  omega
theorem two_of {c d : Int} (hc : 0 ≤ c ∧ c ≤ 255) (hd : 0 ≤ d ∧ d ≤ 255) : numB (be [c, d]) 2 = [c, d] := by
  simp [numB, four, be]
  omega
/-- Bytes that were read as a head are the head's bytes. -/
theorem hdB_hdAt {xs : List Int} (ho : Oct xs) (hl : 20 ≤ xs.length) : hdB (hdAt xs 0) = xs.take 20 := by
  obtain ⟨a0, a1, a2, a3, a4, a5, a6, a7, a8, a9, b0, b1, b2, b3, b4, b5, b6, b7, b8, b9, r, rfl⟩ : ∃ a0 a1 a2 a3 a4 a5 a6 a7 a8 a9 b0 b1 b2 b3 b4 b5 b6 b7 b8 b9 r, xs = a0 :: a1 :: a2 :: a3 :: a4 :: a5 :: a6 :: a7 :: a8 :: a9 :: b0 :: b1 :: b2 :: b3 :: b4 :: b5 :: b6 :: b7 :: b8 :: b9 :: r := by
    rcases xs with _ | ⟨a0, _ | ⟨a1, _ | ⟨a2, _ | ⟨a3, _ | ⟨a4, _ | ⟨a5, _ | ⟨a6, _ | ⟨a7, _ | ⟨a8, _ | ⟨a9, _ | ⟨b0, _ | ⟨b1, _ | ⟨b2, _ | ⟨b3, _ | ⟨b4, _ | ⟨b5, _ | ⟨b6, _ | ⟨b7, _ | ⟨b8, _ | ⟨b9, r⟩⟩⟩⟩⟩⟩⟩⟩⟩⟩⟩⟩⟩⟩⟩⟩⟩⟩⟩⟩ <;> first | (exact ⟨_, _, _, _, _, _, _, _, _, _, _, _, _, _, _, _, _, _, _, _, _, rfl⟩) | (exfalso; simp only [List.length_cons, List.length_nil] at hl; omega)
  have o := fun i x h => ho i x h
  have w0 : wrap32 (be [b2, b3, b4, b5]) % 4294967296 = be [b2, b3, b4, b5] := by
    have h2 := o 12 b2 rfl
    have h3 := o 13 b3 rfl
    have h4 := o 14 b4 rfl
    have h5 := o 15 b5 rfl
    rw [wrap_i32_eq]
    have : be [b2, b3, b4, b5] = ((b2 * 256 + b3) * 256 + b4) * 256 + b5 := by simp [be]
    omega
  show numB (be [a0, a1]) 2 ++ [be [a2], be [a3]] ++ numB (be [a4, a5, a6, a7]) 4 ++ numB (be [a8, a9, b0, b1]) 4 ++ numB (wrap32 (be [b2, b3, b4, b5]) % 4294967296) 4 ++ numB (be [b6, b7]) 2 ++ numB (be [b8, b9]) 2 = [a0, a1, a2, a3, a4, a5, a6, a7, a8, a9, b0, b1, b2, b3, b4, b5, b6, b7, b8, b9]
  rw [w0, two_of (o 0 a0 rfl) (o 1 a1 rfl), four_of (o 4 a4 rfl) (o 5 a5 rfl) (o 6 a6 rfl) (o 7 a7 rfl), four_of (o 8 a8 rfl) (o 9 a9 rfl) (o 10 b0 rfl) (o 11 b1 rfl), four_of (o 12 b2 rfl) (o 13 b3 rfl) (o 14 b4 rfl) (o 15 b5 rfl), two_of (o 16 b6 rfl) (o 17 b7 rfl), two_of (o 18 b8 rfl) (o 19 b9 rfl)]
  simp [be]

theorem numB4_be {l : List Int} (hl : l.length = 4) (ho : Oct l) : numB (be l) 4 = l := by
  match l, hl with
  | [a, b, c, d], _ => exact four_of (ho 0 a rfl) (ho 1 b rfl) (ho 2 c rfl) (ho 3 d rfl)
theorem chunks {α : Type} (f : α → List Int) (g : Nat → α) (k pos : Nat) (ys : List Int) (n : Nat) (h : ∀ i, i < n → f (g i) = (ys.drop (pos + k * i)).take k) : ((List.range n).map g).flatMap f = (ys.drop pos).take (k * n) := by
  induction n with
  | zero => simp
  | succ n ih =>
    rw [List.range_succ, List.map_append, List.flatMap_append, ih fun i hi => h i (by omega), List.map_singleton, List.flatMap_singleton, h n (by omega), Nat.mul_succ, List.take_add, List.drop_drop]
theorem flat_inj {α : Type} (f : α → List Int) {k : Nat} (hk : 0 < k) (hl : ∀ a, (f a).length = k) (P : α → Prop) (hi : ∀ a b, P a → P b → f a = f b → a = b) : ∀ L M : List α, (∀ a ∈ L, P a) → (∀ a ∈ M, P a) → L.flatMap f = M.flatMap f → L = M
  | [], [], _, _, _ => rfl
  | [], b :: M, _, _, e => by
    have := congrArg List.length e
    rw [List.flatMap_cons, List.length_append, hl] at this
    simp at this
    omega
  | a :: L, [], _, _, e => by
    have := congrArg List.length e
    rw [List.flatMap_cons, List.length_append, hl] at this
    simp at this
    omega
  | a :: L, b :: M, h1, h2, e => by
    rw [List.flatMap_cons, List.flatMap_cons] at e
    obtain ⟨e1, e2⟩ := List.append_inj e (by rw [hl, hl])
    rw [hi a b (h1 a (List.mem_cons_self ..)) (h2 b (List.mem_cons_self ..)) e1, flat_inj f hk hl P hi L M (fun x hx => h1 x (List.mem_cons_of_mem _ hx)) (fun x hx => h2 x (List.mem_cons_of_mem _ hx)) e2]
theorem take_oct {ys : List Int} (ho : Oct ys) (p k : Nat) : Oct ((ys.drop p).take k) := (ho.drop p).take k
theorem word_at {ys : List Int} (ho : Oct ys) {p : Nat} (h : p + 4 ≤ ys.length) : numB (be ((ys.drop p).take 4)) 4 = (ys.drop p).take 4 := numB4_be (by rw [List.length_take, List.length_drop]; omega) (take_oct ho p 4)
theorem wordsB_at {ys : List Int} (ho : Oct ys) {pos n : Nat} (h : pos + 4 * n = ys.length) : wordsB (wordsAt ys pos n) = ys.drop pos := by
  unfold wordsB wordsAt
  rw [chunks (fun x => numB x 4) (fun i => be ((ys.drop (pos + 4 * i)).take 4)) 4 pos ys n fun i hi => word_at ho (by omega)]
  exact take_all (by rw [List.length_drop]; omega)
theorem hdsB_at {ys : List Int} (ho : Oct ys) {pos n : Nat} (h : pos + 20 * n = ys.length) : hdsB (hdsAt ys pos n) = ys.drop pos := by
  unfold hdsB hdsAt
  rw [chunks hdB (fun i => hdAt ys (pos + 20 * i)) 20 pos ys n fun i hi => by
    rw [← hdAt_drop]
    exact hdB_hdAt (ho.drop _) (by rw [List.length_drop]; omega)]
  exact take_all (by rw [List.length_drop]; omega)
theorem keyB_at {ys : List Int} (ho : Oct ys) {p : Nat} (h : p + 12 ≤ ys.length) : keyB (kyAt ys p) = (ys.drop p).take 12 := by
  unfold keyB kyAt
  rw [word_at ho (by omega), word_at ho (by omega), word_at ho (by omega)]
  have e : ∀ l : List Int, l.take 12 = l.take 4 ++ (l.drop 4).take 4 ++ (l.drop 8).take 4 := fun l => by
    rw [show (12 : Nat) = 4 + 4 + 4 from rfl, List.take_add, List.take_add]
  rw [e, List.drop_drop, List.drop_drop]
theorem keysB_at {ys : List Int} (ho : Oct ys) {pos n : Nat} (h : pos + 12 * n = ys.length) : keysB (kysAt ys pos n) = ys.drop pos := by
  unfold keysB kysAt
  rw [chunks keyB (fun i => kyAt ys (pos + 12 * i)) 12 pos ys n fun i hi => keyB_at ho (by omega)]
  exact take_all (by rw [List.length_drop]; omega)
/-- A state's bytes. -/
def hbB (x : Hd × List Int) : List Int := hdB x.1 ++ x.2
theorem hdB_len20 (h : Hd) : (hdB h).length = 20 := rfl
theorem upS_some : ∀ (n : Nat) (ys : List Int) (L : List (Hd × List Int)), Oct ys → upS n ys = some L → L.length = n ∧ L.flatMap hbB = ys ∧ ∀ x ∈ L, x.1.ok ∧ x.1.len = x.2.length + 20 ∧ Oct x.2
  | 0, ys, L, ho, h => by
    unfold upS at h
    split at h
    · rename_i h0
      injection h with h
      subst h
      exact ⟨rfl, (List.eq_nil_of_length_eq_zero h0).symm, fun x hx => by simp at hx⟩
    · cases h
  | n + 1, ys, L, ho, h => by
    unfold upS at h
    split at h
    · rename_i he
      obtain ⟨h20, hm20, hml⟩ := rdE_yes he
      obtain ⟨m, hm⟩ : ∃ m : Nat, (hdAt ys 0).len = m := ⟨(hdAt ys 0).len.toNat, by omega⟩
      rw [hm, Int.toNat_natCast] at h
      cases hu : upS n (ys.drop m) with
      | none => rw [hu] at h; cases h
      | some M =>
        rw [hu] at h
        injection h with h
        subst h
        obtain ⟨i1, i2, i3⟩ := upS_some n (ys.drop m) M (ho.drop m) hu
        refine ⟨by rw [List.length_cons, i1], ?_, ?_⟩
        · rw [List.flatMap_cons, i2]
          show hdB (hdAt ys 0) ++ (ys.take m).drop 20 ++ ys.drop m = ys
          rw [hdB_hdAt ho h20]
          have : ys.take 20 ++ (ys.take m).drop 20 = ys.take m := by
            have := List.take_append_drop 20 (ys.take m)
            rwa [List.take_take, Nat.min_eq_left (by omega)] at this
          rw [this, List.take_append_drop]
        · intro x hx
          rcases List.mem_cons.1 hx with rfl | hx
          · refine ⟨hdAt_ok ho 0, ?_, (ho.take m).drop 20⟩
            show (hdAt ys 0).len = _
            rw [hm, List.length_drop, List.length_take]
            omega
          · exact i3 x hx
    · cases h
theorem upS_of : ∀ L : List (Hd × List Int), (∀ x ∈ L, x.1.ok ∧ x.1.len = x.2.length + 20) → upS L.length (L.flatMap hbB) = some L
  | [], _ => rfl
  | x :: L, h => by
    obtain ⟨hok, hlen⟩ := h x (List.mem_cons_self ..)
    have ih := upS_of L fun y hy => h y (List.mem_cons_of_mem _ hy)
    have hh : hdAt ((x :: L).flatMap hbB) 0 = x.1 := by
      rw [List.flatMap_cons]
      show hdAt (hdB x.1 ++ x.2 ++ _) 0 = _
      rw [List.append_assoc]
      exact hdAt_hdB hok _
    have hl : ((x :: L).flatMap hbB).length = 20 + x.2.length + (L.flatMap hbB).length := by
      rw [List.flatMap_cons, List.length_append]
      show (hdB x.1 ++ x.2).length + _ = _
      rw [List.length_append, hdB_len20]
    have hr : rdE ((x :: L).flatMap hbB) = 0 := by
      unfold rdE
      rw [hh, hl, if_neg (by omega), if_neg (by omega), if_neg (by omega)]
    have hm : x.1.len.toNat = (hbB x).length := by
      show _ = (hdB x.1 ++ x.2).length
      rw [List.length_append, hdB_len20]
      omega
    rw [List.length_cons]
    unfold upS
    rw [if_pos hr, hh, hm, List.flatMap_cons, List.drop_left, List.take_left, ih]
    rfl
end Go.Proofs.Ytbkejlalbjomkaa
namespace Go.Proofs.Ytbkejlalbjomkaa
set_option linter.unusedVariables false
open Go.RowKit

theorem statesB_hb (L : List SE) : statesB L = (L.map SE.hb).flatMap hbB := by
  unfold statesB
  rw [List.flatMap_map]
  rfl
theorem PIs.typ {ys : List Int} {t r a : Int} {p : PA} (h : PIs ys t r a p) : p.typ = t ∧ p.router = r ∧ p.area = a := by
  rcases h with ⟨h, e⟩ | ⟨h, e⟩ | ⟨h, e⟩ | ⟨h, _, _, e⟩ | ⟨h, e⟩ <;> rw [e] <;> exact ⟨rfl, rfl, rfl⟩
theorem PIs.alone {ys : List Int} {t r a : Int} {p : PA} (h : PIs ys t r a p) : p.alone := by
  rcases h with ⟨rfl, e⟩ | ⟨rfl, e⟩ | ⟨rfl, e⟩ | ⟨rfl, _, _, e⟩ | ⟨rfl, e⟩ <;> rw [e]
  · exact ⟨fun _ => rfl, fun h => (h ⟨rfl, rfl, rfl, rfl, rfl⟩).elim, fun h => absurd h (Nat.lt_irrefl 0), fun h => absurd h (Nat.lt_irrefl 0), fun h => absurd h (Nat.lt_irrefl 0)⟩
  · exact ⟨fun h => (h ⟨rfl, rfl, rfl, rfl, rfl, rfl, rfl, rfl⟩).elim, fun _ => rfl, fun h => absurd h (Nat.lt_irrefl 0), fun h => absurd h (Nat.lt_irrefl 0), fun h => absurd h (Nat.lt_irrefl 0)⟩
  · exact ⟨fun h => (h ⟨rfl, rfl, rfl, rfl, rfl, rfl, rfl, rfl⟩).elim, fun h => (h ⟨rfl, rfl, rfl, rfl, rfl⟩).elim, fun _ => rfl, fun h => absurd h (Nat.lt_irrefl 0), fun h => absurd h (Nat.lt_irrefl 0)⟩
  · exact ⟨fun h => (h ⟨rfl, rfl, rfl, rfl, rfl, rfl, rfl, rfl⟩).elim, fun h => (h ⟨rfl, rfl, rfl, rfl, rfl⟩).elim, fun h => absurd h (Nat.lt_irrefl 0), fun _ => rfl, fun h => absurd h (Nat.lt_irrefl 0)⟩
  · exact ⟨fun h => (h ⟨rfl, rfl, rfl, rfl, rfl, rfl, rfl, rfl⟩).elim, fun h => (h ⟨rfl, rfl, rfl, rfl, rfl⟩).elim, fun h => absurd h (Nat.lt_irrefl 0), fun h => absurd h (Nat.lt_irrefl 0), fun _ => rfl⟩
theorem PIs.lens {ys : List Int} {t r a : Int} {p : PA} (ho : Oct ys) (h : PIs ys t r a p) (hn : ∀ s ∈ p.ss, s.B.length = s.n) : ∀ s ∈ p.ss, s.h.len = s.n + 20 := by
  intro s hs
  have hss : (∃ M, upS M (ys.drop (24 + 4)) = some (p.ss.map SE.hb)) ∨ p.ss = [] := by
    rcases h with ⟨rfl, e⟩ | ⟨rfl, e⟩ | ⟨rfl, e⟩ | ⟨rfl, hu, _, e⟩ | ⟨rfl, e⟩
    · exact .inr (by rw [e]; rfl)
    · exact .inr (by rw [e]; rfl)
    · exact .inr (by rw [e]; rfl)
    · exact .inl ⟨_, hu⟩
    · exact .inr (by rw [e]; rfl)
  rcases hss with ⟨M, hu⟩ | e
  · obtain ⟨_, _, i3⟩ := upS_some _ _ _ (ho.drop _) hu
    have := (i3 s.hb (List.mem_map.2 ⟨s, hs, rfl⟩)).2.1
    have e2 := hn s hs
    show s.h.len = _
    have e3 : s.hb.2 = s.B := rfl
    have e4 : s.hb.1 = s.h := rfl
    rw [e3, e4, e2] at this
    exact this
  · rw [e] at hs
    simp at hs
end Go.Proofs.Ytbkejlalbjomkaa
namespace Go.Proofs.Ytbkejlalbjomkaa
set_option linter.unusedVariables false
open Go.RowKit

theorem flat_len {α : Type} (f : α → List Int) {k : Nat} (hl : ∀ a, (f a).length = k) (L : List α) : (L.flatMap f).length = k * L.length := by
  induction L with
  | nil => simp
  | cons x L ih => rw [List.flatMap_cons, List.length_append, hl, ih, List.length_cons, Nat.mul_succ]; omega
theorem encB_drop (p : PA) (a : Au) : (encB p a).drop 24 = partB p := by rw [encB_form]; rfl
theorem encB_ty (p : PA) (a : Au) : tyAt (encB p a) = p.typ := by
  rw [encB_form]
  show be [p.typ] = p.typ
  simp [be]
theorem encB_kd (p : PA) (a : Au) (h : 0 ≤ a.k ∧ a.k ≤ 65535) : kdAt (encB p a) = a.k := by
  rw [encB_form]
  show be [a.k / 256 % 256, a.k % 256] = a.k
  simp [be]
  omega
theorem encB_router (p : PA) (a : Au) (h : 0 ≤ p.router ∧ p.router ≤ 4294967295) : be (((encB p a).drop 4).take 4) = p.router := by
  rw [encB_form]
  show be (numB p.router 4) = p.router
  exact be_numB4 h.1 (by omega)
theorem encB_area (p : PA) (a : Au) (h : 0 ≤ p.area ∧ p.area ≤ 4294967295) : be (((encB p a).drop 8).take 4) = p.area := by
  rw [encB_form]
  show be (numB p.area 4) = p.area
  exact be_numB4 h.1 (by omega)
theorem encB_au (p : PA) (a : Au) (h : 0 ≤ a.k ∧ a.k ≤ 65535) : auAt (encB p a) = a := by
  unfold auAt
  rw [encB_kd p a h, encB_form]
  rfl
theorem kyAt_keyB' {k : Ky} (h1 : 0 ≤ k.t ∧ k.t < 4294967296) (h2 : 0 ≤ k.id ∧ k.id < 4294967296) (h3 : 0 ≤ k.adv ∧ k.adv < 4294967296) : kyAt (keyB k) 0 = k := by
  obtain ⟨t, i, v⟩ := k
  have e1 := be_numB4 h1.1 h1.2
  have e2 := be_numB4 h2.1 h2.2
  have e3 := be_numB4 h3.1 h3.2
  show Ky.mk (be (numB t 4)) (be (numB i 4)) (be (numB v 4)) = _
  rw [e1, e2, e3]
def Ky.wide (k : Ky) : Prop := (0 ≤ k.t ∧ k.t < 4294967296) ∧ (0 ≤ k.id ∧ k.id < 4294967296) ∧ (0 ≤ k.adv ∧ k.adv < 4294967296)
theorem keys_read {ys : List Int} {L : List Ky} (ho : Oct ys) (hL : ∀ k ∈ L, k.ok) (h : ys.drop 24 = keysB L) (h24 : 24 ≤ ys.length) : (ys.length - 24) % 12 = 0 ∧ kysAt ys 24 ((ys.length - 24) / 12) = L := by
  have hl : (ys.drop 24).length = 12 * L.length := by rw [h]; exact flat_len keyB (fun _ => rfl) L
  rw [List.length_drop] at hl
  refine ⟨by omega, ?_⟩
  refine flat_inj keyB (k := 12) (by decide) (fun _ => rfl) Ky.wide (fun a b ha hb e => ?_) _ _ (fun k hk => ?_) (fun k hk => ?_) ?_
  · rw [← kyAt_keyB' ha.1 ha.2.1 ha.2.2, ← kyAt_keyB' hb.1 hb.2.1 hb.2.2, e]
  · unfold kysAt at hk
    obtain ⟨i, _, rfl⟩ := List.mem_map.1 hk
    have b1 := be_at ho (24 + 12 * i) 4
    have b2 := be_at ho (24 + 12 * i + 4) 4
    have b3 := be_at ho (24 + 12 * i + 8) 4
    rw [show (256 : Int) ^ 4 = 4294967296 from by decide] at b1 b2 b3
    exact ⟨b1, b2, b3⟩
  · have := hL k hk
    have h1 := this.t
    have h2 := this.id
    have h3 := this.adv
    exact ⟨by omega, by omega, by omega⟩
  · rw [show (kysAt ys 24 ((ys.length - 24) / 12)).flatMap keyB = ys.drop 24 from keysB_at ho (by omega), h]
    rfl
theorem heads_read {ys : List Int} {L : List Hd} {pos : Nat} (ho : Oct ys) (hL : ∀ k ∈ L, k.ok) (h : ys.drop pos = hdsB L) (h24 : pos ≤ ys.length) : (ys.length - pos) % 20 = 0 ∧ hdsAt ys pos ((ys.length - pos) / 20) = L := by
  have hl : (ys.drop pos).length = 20 * L.length := by rw [h]; exact flat_len hdB (fun _ => rfl) L
  rw [List.length_drop] at hl
  refine ⟨by omega, ?_⟩
  refine flat_inj hdB (k := 20) (by decide) (fun _ => rfl) Hd.ok (fun a b ha hb e => ?_) _ _ (fun k hk => ?_) hL ?_
  · have h1 := hdAt_hdB ha []
    have h2 := hdAt_hdB hb []
    rw [List.append_nil] at h1 h2
    rw [← h1, ← h2, e]
  · unfold hdsAt at hk
    obtain ⟨i, _, rfl⟩ := List.mem_map.1 hk
    exact hdAt_ok ho _
  · rw [show (hdsAt ys pos ((ys.length - pos) / 20)).flatMap hdB = ys.drop pos from hdsB_at ho (by omega), h]
    rfl
theorem words_read {ys : List Int} {L : List Int} {pos : Nat} (ho : Oct ys) (hL : ∀ k ∈ L, 0 ≤ k ∧ k ≤ 4294967295) (h : ys.drop pos = wordsB L) (h24 : pos ≤ ys.length) : (ys.length - pos) % 4 = 0 ∧ wordsAt ys pos ((ys.length - pos) / 4) = L := by
  have hl : (ys.drop pos).length = 4 * L.length := by rw [h]; exact flat_len (fun x => numB x 4) (fun _ => rfl) L
  rw [List.length_drop] at hl
  refine ⟨by omega, ?_⟩
  refine flat_inj (fun x => numB x 4) (k := 4) (by decide) (fun _ => rfl) (fun x => 0 ≤ x ∧ x < 4294967296) (fun a b ha hb e => ?_) _ _ (fun k hk => ?_) (fun k hk => ?_) ?_
  · rw [← be_numB4 ha.1 ha.2, ← be_numB4 hb.1 hb.2, e]
  · unfold wordsAt at hk
    obtain ⟨i, _, rfl⟩ := List.mem_map.1 hk
    have b1 := be_at ho (pos + 4 * i) 4
    exact ⟨b1.1, by have := b1.2; simpa using this⟩
  · have := hL k hk
    omega
  · rw [show (wordsAt ys pos ((ys.length - pos) / 4)).flatMap (fun x => numB x 4) = ys.drop pos from wordsB_at ho (by omega), h]
    rfl
theorem drop_more {ys z : List Int} {a : Nat} (h : ys.drop 24 = z) : ys.drop (24 + a) = z.drop a := by rw [← h, List.drop_drop]
/-- What a packet's lists are, beside its numbers. -/
structure Enc (p : PA) (a : Au) : Prop where
  e : EncOk p a
  ok : p.ok
  au : a.ok
  o : Oct (encB1 p a)
  s : ∀ s ∈ p.ss, s.B.length = s.n ∧ s.h.ok
theorem Enc.oct {p : PA} {a : Au} (h : Enc p a) : Oct (encB p a) := encB_oct h.e h.o
theorem Enc.upd {p : PA} {a : Au} (h : Enc p a) (t : p.typ = 4) : be (((encB p a).drop 24).take 4) = p.sn ∧ (encB p a).drop (24 + 4) = (p.ss.map SE.hb).flatMap hbB := by
    have hp := encL_part p a
    have hd := encB_drop p a
    have e : partB p = updB p := by unfold partB; rw [if_neg (by omega), if_neg (by omega), if_neg (by omega), if_pos t]
    rw [e] at hd
    have l4 : 4 ≤ (partB p).length := by
      rw [e]
      unfold updB
      rw [List.length_append]
      show 4 ≤ 4 + _
      omega
    have e2 : be (((encB p a).drop 24).take 4) = p.sn := by
      rw [hd]
      show be (numB p.sn 4) = p.sn
      have hsz : p.ss.length ≤ (statesB p.ss).length := by
        unfold statesB
        have : ∀ L : List SE, L.length ≤ (L.flatMap stB).length := fun L => by
          induction L with
          | nil => simp
          | cons x L ih =>
            rw [List.flatMap_cons, List.length_append, List.length_cons]
            have : 20 ≤ (stB x).length := by
              show 20 ≤ (hdB x.h ++ x.B).length
              rw [List.length_append, hdB_len20]
              omega
            omega
        exact this _
      have hul : (updB p).length = 4 + (statesB p.ss).length := by
        unfold updB
        rw [List.length_append]
        rfl
      have := h.e.len
      have := h.ok.sl
      rw [e] at hp
      exact be_numB4 (by omega) (by omega)
    have e3 : (encB p a).drop (24 + 4) = (p.ss.map SE.hb).flatMap hbB := by
      rw [drop_more hd, ← statesB_hb]
      rfl
    exact ⟨e2, e3⟩
theorem Enc.part {p : PA} {a : Au} (h : Enc p a) : partOk (encB p a) p.typ := by
  have hl := encB_len p a
  have hp := encL_part p a
  have hd := encB_drop p a
  have ho := h.oct
  have ht := h.e.typ
  constructor
  · intro t
    have e : partB p = helloB p := by unfold partB; rw [if_pos t]
    have l : (helloB p).length = 20 + 4 * p.nb.length := by
      unfold helloB
      rw [List.length_append, show (wordsB p.nb).length = 4 * p.nb.length from flat_len (fun x => numB x 4) (fun _ => rfl) p.nb]
      rfl
    rw [e, l] at hp
    exact ⟨by omega, by omega⟩
  · intro t
    have e : partB p = descB p := by unfold partB; rw [if_neg (by omega), if_pos t]
    have l : (descB p).length = 8 + 20 * p.dh.length := by
      unfold descB
      rw [List.length_append, show (hdsB p.dh).length = 20 * p.dh.length from flat_len hdB (fun _ => rfl) p.dh]
      rfl
    rw [e, l] at hp
    exact ⟨by omega, by omega⟩
  · intro t
    have e : partB p = keysB p.ks := by unfold partB; rw [if_neg (by omega), if_neg (by omega), if_pos t]
    rw [e] at hd
    obtain ⟨k1, k2⟩ := keys_read ho h.ok.ks hd (by omega)
    exact ⟨k1, fun k hk => by rw [k2] at hk; exact (h.ok.ks k hk).t.2⟩
  · intro t
    have e : partB p = updB p := by unfold partB; rw [if_neg (by omega), if_neg (by omega), if_neg (by omega), if_pos t]
    obtain ⟨e2, e3⟩ := h.upd t
    have l4 : 4 ≤ (partB p).length := by
      rw [e]
      unfold updB
      rw [List.length_append]
      show 4 ≤ 4 + _
      omega
    refine ⟨by omega, p.ss.map SE.hb, ?_⟩
    rw [e2, e3, Int.toNat_natCast, show p.sn = (p.ss.map SE.hb).length by rw [List.length_map]; exact h.ok.sl.symm]
    refine upS_of _ fun x hx => ?_
    obtain ⟨s, hs, rfl⟩ := List.mem_map.1 hx
    obtain ⟨k1, k2⟩ := h.s s hs
    refine ⟨k2, ?_⟩
    have := h.e.lens s hs
    show s.h.len = s.B.length + 20
    rw [k1]
    exact this
  · intro t
    have e : partB p = hdsB p.hs := by unfold partB; rw [if_neg (by omega), if_neg (by omega), if_neg (by omega), if_neg (by omega)]
    rw [e] at hd
    exact (heads_read ho h.ok.hs hd (by omega)).1
/-- What was encoded is a packet. -/
theorem Enc.dec {p : PA} {a : Au} (h : Enc p a) : DecOk (encB p a) := by
  have hl := encB_len p a
  refine ⟨by rw [enc_pkLen p a h.e], ?_, ?_, ?_, ?_⟩
  · rw [encB_kd p a h.au.k]; exact h.e.kind
  · intro _
    rw [enc_pkLen p a h.e, hl]
  · intro hk
    rw [encB_kd p a h.au.k] at hk
    exact enc_right p a h.e hk h.o
  · rw [enc_pkB p a h.e, encB_ty]
    exact h.part
theorem nb_nil {p : PA} (h : p.ok) (h0 : p.nn = 0) : p.nb = [] := List.eq_nil_of_length_eq_zero (by rw [h.nl, h0])
theorem noHe {p : PA} (h : p.ok) (hs : ¬ p.helloS) : p.mask = 0 ∧ p.ivl = 0 ∧ p.hopts = 0 ∧ p.pri = 0 ∧ p.dead = 0 ∧ p.dr = 0 ∧ p.bdr = 0 ∧ p.nb = [] := by
  unfold PA.helloS at hs
  rw [Decidable.not_not] at hs
  obtain ⟨h1, h2, h3, h4, h5, h6, h7, h8⟩ := hs
  exact ⟨h1, h2, h3, h4, h5, h6, h7, nb_nil h h8⟩
theorem noDe {p : PA} (h : p.ok) (hs : ¬ p.ddS) : p.mtu = 0 ∧ p.dopts = 0 ∧ p.flags = 0 ∧ p.seq = 0 ∧ p.dh = [] := by
  unfold PA.ddS at hs
  rw [Decidable.not_not] at hs
  obtain ⟨h1, h2, h3, h4, h5⟩ := hs
  exact ⟨h1, h2, h3, h4, List.eq_nil_of_length_eq_zero (by rw [h.dl, h5])⟩
/-- What was encoded is decoded as the same. -/
theorem Enc.same {p q : PA} {a : Au} (h : Enc p a) (hq : PIs (pkB (encB p a)) (tyAt (encB p a)) (be (((encB p a).drop 4).take 4)) (be (((encB p a).drop 8).take 4)) q) : EqPa q p := by
  have hl := encB_len p a
  have hp := encL_part p a
  have hd := encB_drop p a
  have ho := h.oct
  have ht := h.e.typ
  rw [enc_pkB p a h.e, encB_ty, encB_router p a h.ok.router, encB_area p a h.ok.area] at hq
  obtain ⟨ys, hys⟩ : ∃ ys, encB p a = ys := ⟨_, rfl⟩
  rw [hys] at hl hd ho hq
  have al := h.e.alone
  have nH : p.typ ≠ 1 → _ := fun n => noHe h.ok (fun c => n (al.1 c))
  have nD : p.typ ≠ 2 → _ := fun n => noDe h.ok (fun c => n (al.2.1 c))
  have nK : p.typ ≠ 3 → p.ks = [] := fun n => List.eq_nil_of_length_eq_zero (by rw [h.ok.kl]; have := al.2.2.1; omega)
  have nS : p.typ ≠ 4 → p.ss = [] := fun n => List.eq_nil_of_length_eq_zero (by rw [h.ok.sl]; have := al.2.2.2.1; omega)
  have nA : p.typ ≠ 5 → p.hs = [] := fun n => List.eq_nil_of_length_eq_zero (by rw [h.ok.hl]; have := al.2.2.2.2; omega)
  obtain ⟨q1, q2, q3⟩ := hq.typ
  refine ⟨q1, q2, q3, ?_⟩
  unfold EqHe EqDe
  rcases hq with ⟨t, e⟩ | ⟨t, e⟩ | ⟨t, e⟩ | ⟨t, hu, _, e⟩ | ⟨t, e⟩
  · obtain ⟨d1, d2, d3, d4, d5⟩ := nD (by omega)
    have eb : partB p = helloB p := by unfold partB; rw [if_pos t]
    rw [eb] at hd hp
    have hw : ys.drop (24 + 20) = wordsB p.nb := by rw [drop_more hd]; rfl
    have hll : 20 ≤ (helloB p).length := by
      unfold helloB
      rw [List.length_append]
      show 20 ≤ 20 + _
      omega
    have m1 : q.mask = p.mask := by
      rw [show q.mask = be ((ys.drop 24).take 4) from congrArg PA.mask e, hd]
      show be (numB p.mask 4) = p.mask
      exact be_numB4 h.ok.mask.1 (by have := h.ok.mask; omega)
    have m2 : q.ivl = p.ivl := by
      rw [show q.ivl = be ((ys.drop (24 + 4)).take 2) from congrArg PA.ivl e, drop_more hd]
      show be (numB p.ivl 2) = p.ivl
      exact be_numB2 h.ok.ivl.1 (by have := h.ok.ivl; omega)
    have m3 : q.hopts = p.hopts := by
      rw [show q.hopts = be ((ys.drop (24 + 6)).take 1) from congrArg PA.hopts e, drop_more hd]
      show be [p.hopts] = p.hopts
      simp [be]
    have m4 : q.pri = p.pri := by
      rw [show q.pri = be ((ys.drop (24 + 7)).take 1) from congrArg PA.pri e, drop_more hd]
      show be [p.pri] = p.pri
      simp [be]
    have m5 : q.dead = p.dead := by
      rw [show q.dead = be ((ys.drop (24 + 8)).take 4) from congrArg PA.dead e, drop_more hd]
      show be (numB p.dead 4) = p.dead
      exact be_numB4 h.ok.dead.1 (by have := h.ok.dead; omega)
    have m6 : q.dr = p.dr := by
      rw [show q.dr = be ((ys.drop (24 + 12)).take 4) from congrArg PA.dr e, drop_more hd]
      show be (numB p.dr 4) = p.dr
      exact be_numB4 h.ok.dr.1 (by have := h.ok.dr; omega)
    have m7 : q.bdr = p.bdr := by
      rw [show q.bdr = be ((ys.drop (24 + 16)).take 4) from congrArg PA.bdr e, drop_more hd]
      show be (numB p.bdr 4) = p.bdr
      exact be_numB4 h.ok.bdr.1 (by have := h.ok.bdr; omega)
    have m8 : q.nb = p.nb := (congrArg PA.nb e).trans (words_read ho h.ok.nb hw (by omega)).2
    exact ⟨⟨m1, m2, m3, m4, m5, m6, m7, m8⟩, ⟨(congrArg PA.mtu e).trans d1.symm, (congrArg PA.dopts e).trans d2.symm, (congrArg PA.flags e).trans d3.symm, (congrArg PA.seq e).trans d4.symm, (congrArg PA.dh e).trans d5.symm⟩, (congrArg PA.ks e).trans (nK (by omega)).symm, (by rw [nS (by omega), show q.ss = [] from congrArg PA.ss e]), (congrArg PA.hs e).trans (nA (by omega)).symm⟩
  · obtain ⟨c1, c2, c3, c4, c5, c6, c7, c8⟩ := nH (by omega)
    have eb : partB p = descB p := by unfold partB; rw [if_neg (by omega), if_pos t]
    rw [eb] at hd hp
    have hw : ys.drop (24 + 8) = hdsB p.dh := by rw [drop_more hd]; rfl
    have hll : 8 ≤ (descB p).length := by
      unfold descB
      rw [List.length_append]
      show 8 ≤ 8 + _
      omega
    have m1 : q.mtu = p.mtu := by
      rw [show q.mtu = be ((ys.drop 24).take 2) from congrArg PA.mtu e, hd]
      show be (numB p.mtu 2) = p.mtu
      exact be_numB2 h.ok.mtu.1 (by have := h.ok.mtu; omega)
    have m2 : q.dopts = p.dopts := by
      rw [show q.dopts = be ((ys.drop (24 + 2)).take 1) from congrArg PA.dopts e, drop_more hd]
      show be [p.dopts] = p.dopts
      simp [be]
    have m3 : q.flags = p.flags := by
      rw [show q.flags = be ((ys.drop (24 + 3)).take 1) from congrArg PA.flags e, drop_more hd]
      show be [p.flags] = p.flags
      simp [be]
    have m4 : q.seq = p.seq := by
      rw [show q.seq = be ((ys.drop (24 + 4)).take 4) from congrArg PA.seq e, drop_more hd]
      show be (numB p.seq 4) = p.seq
      exact be_numB4 h.ok.seq.1 (by have := h.ok.seq; omega)
    have m5 : q.dh = p.dh := (congrArg PA.dh e).trans (heads_read ho h.ok.dh hw (by omega)).2
    exact ⟨⟨(congrArg PA.mask e).trans c1.symm, (congrArg PA.ivl e).trans c2.symm, (congrArg PA.hopts e).trans c3.symm, (congrArg PA.pri e).trans c4.symm, (congrArg PA.dead e).trans c5.symm, (congrArg PA.dr e).trans c6.symm, (congrArg PA.bdr e).trans c7.symm, (congrArg PA.nb e).trans c8.symm⟩, ⟨m1, m2, m3, m4, m5⟩, (congrArg PA.ks e).trans (nK (by omega)).symm, (by rw [nS (by omega), show q.ss = [] from congrArg PA.ss e]), (congrArg PA.hs e).trans (nA (by omega)).symm⟩
  · obtain ⟨c1, c2, c3, c4, c5, c6, c7, c8⟩ := nH (by omega)
    obtain ⟨d1, d2, d3, d4, d5⟩ := nD (by omega)
    have eb : partB p = keysB p.ks := by unfold partB; rw [if_neg (by omega), if_neg (by omega), if_pos t]
    rw [eb] at hd
    exact ⟨⟨(congrArg PA.mask e).trans c1.symm, (congrArg PA.ivl e).trans c2.symm, (congrArg PA.hopts e).trans c3.symm, (congrArg PA.pri e).trans c4.symm, (congrArg PA.dead e).trans c5.symm, (congrArg PA.dr e).trans c6.symm, (congrArg PA.bdr e).trans c7.symm, (congrArg PA.nb e).trans c8.symm⟩, ⟨(congrArg PA.mtu e).trans d1.symm, (congrArg PA.dopts e).trans d2.symm, (congrArg PA.flags e).trans d3.symm, (congrArg PA.seq e).trans d4.symm, (congrArg PA.dh e).trans d5.symm⟩, (congrArg PA.ks e).trans (keys_read ho h.ok.ks hd (by omega)).2, (by rw [nS (by omega), show q.ss = [] from congrArg PA.ss e]), (congrArg PA.hs e).trans (nA (by omega)).symm⟩
  · obtain ⟨c1, c2, c3, c4, c5, c6, c7, c8⟩ := nH (by omega)
    obtain ⟨d1, d2, d3, d4, d5⟩ := nD (by omega)
    have hsp : be ((ys.drop 24).take 4) = p.sn ∧ ys.drop (24 + 4) = (p.ss.map SE.hb).flatMap hbB := by
      obtain ⟨g1, g2⟩ := h.upd t
      rw [hys] at g1 g2
      exact ⟨g1, g2⟩
    rw [hsp.1, hsp.2, Int.toNat_natCast, show p.sn = (p.ss.map SE.hb).length by rw [List.length_map]; exact h.ok.sl.symm, upS_of _ fun x hx => by
      obtain ⟨s, hs, rfl⟩ := List.mem_map.1 hx
      obtain ⟨k1, k2⟩ := h.s s hs
      refine ⟨k2, ?_⟩
      have := h.e.lens s hs
      show s.h.len = s.B.length + 20
      rw [k1]
      exact this] at hu
    injection hu with hu
    exact ⟨⟨(congrArg PA.mask e).trans c1.symm, (congrArg PA.ivl e).trans c2.symm, (congrArg PA.hopts e).trans c3.symm, (congrArg PA.pri e).trans c4.symm, (congrArg PA.dead e).trans c5.symm, (congrArg PA.dr e).trans c6.symm, (congrArg PA.bdr e).trans c7.symm, (congrArg PA.nb e).trans c8.symm⟩, ⟨(congrArg PA.mtu e).trans d1.symm, (congrArg PA.dopts e).trans d2.symm, (congrArg PA.flags e).trans d3.symm, (congrArg PA.seq e).trans d4.symm, (congrArg PA.dh e).trans d5.symm⟩, (congrArg PA.ks e).trans (nK (by omega)).symm, hu.symm, (congrArg PA.hs e).trans (nA (by omega)).symm⟩
  · obtain ⟨c1, c2, c3, c4, c5, c6, c7, c8⟩ := nH (by omega)
    obtain ⟨d1, d2, d3, d4, d5⟩ := nD (by omega)
    have eb : partB p = hdsB p.hs := by unfold partB; rw [if_neg (by omega), if_neg (by omega), if_neg (by omega), if_neg (by omega)]
    rw [eb] at hd
    exact ⟨⟨(congrArg PA.mask e).trans c1.symm, (congrArg PA.ivl e).trans c2.symm, (congrArg PA.hopts e).trans c3.symm, (congrArg PA.pri e).trans c4.symm, (congrArg PA.dead e).trans c5.symm, (congrArg PA.dr e).trans c6.symm, (congrArg PA.bdr e).trans c7.symm, (congrArg PA.nb e).trans c8.symm⟩, ⟨(congrArg PA.mtu e).trans d1.symm, (congrArg PA.dopts e).trans d2.symm, (congrArg PA.flags e).trans d3.symm, (congrArg PA.seq e).trans d4.symm, (congrArg PA.dh e).trans d5.symm⟩, (congrArg PA.ks e).trans (nK (by omega)).symm, (by rw [nS (by omega), show q.ss = [] from congrArg PA.ss e]), (congrArg PA.hs e).trans (heads_read ho h.ok.hs hd (by omega)).2⟩
end Go.Proofs.Ytbkejlalbjomkaa
