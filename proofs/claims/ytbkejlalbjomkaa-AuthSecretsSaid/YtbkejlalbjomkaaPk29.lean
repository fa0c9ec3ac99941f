/-
  What the arguments of the packets' laws are; a packet in memory of its own can be read. Printed by gen_pk29.py.
-/
import Derived.Test.YtbkejlalbjomkaaPk28
import Derived.ChangeArms
import Derived.WideShapes
import Derived.OpenShut
import Derived.SizedLaws
namespace Go.Proofs.Ytbkejlalbjomkaa
set_option linter.unusedVariables false
open Go.ChangeShapes Go.WideShapes Go.RowKit
set_option maxRecDepth 100000

theorem reach_le {n k : Nat} (hk : 0 < k) (h : n * k ≤ reachBytes) : n ≤ 140737488355328 := Nat.le_trans (Nat.le_mul_of_pos_right n hk) (Nat.le_trans h (by decide))
set_option maxRecDepth 100000 in
theorem key_of {H : Type} {enc : TypeId × Value → H} {w : World} {held : Bool} (fuel : Nat) (cs : List Value) (x : DataW H × List MemPlace) (h : DataW.trod enc Try.prog w 0 (fun _ => true) held fuel 129 cs = some x) :
    ∃ k : Ky, cs = k.cells ∧ k.ok ∧ ((∀ N ∈ x.1.weights Try.prog 129, N ≤ reachBytes) → True) := by
  obtain ⟨xs, n, _, hxw, hl, hxl, hf⟩ := DataW.trod_struct Try.underlying129 h
  have hC : Try.prog.cellsOf 129 = 3 := by kernel_rfl
  rw [hC] at hl
  match cs, hl, xs, hxl with
  | [c0, c1, c2], _, [y0, y1, y2], _ =>
    have g0 : DataW.trod enc Try.prog w 0 (fun _ => true) held n 5 (([c0, c1, c2].drop 0).take (Try.prog.cellsOf 5)) = some y0 := hf 0 _ rfl
    rw [show Try.prog.cellsOf 5 = 1 from by kernel_rfl] at g0
    replace g0 : DataW.trod enc Try.prog w 0 (fun _ => true) held n 5 [c0] = some y0 := g0
    have g1 : DataW.trod enc Try.prog w 0 (fun _ => true) held n 22 (([c0, c1, c2].drop 1).take (Try.prog.cellsOf 22)) = some y1 := hf 1 _ rfl
    rw [show Try.prog.cellsOf 22 = 1 from by kernel_rfl] at g1
    replace g1 : DataW.trod enc Try.prog w 0 (fun _ => true) held n 22 [c1] = some y1 := g1
    have g2 : DataW.trod enc Try.prog w 0 (fun _ => true) held n 22 (([c0, c1, c2].drop 2).take (Try.prog.cellsOf 22)) = some y2 := hf 2 _ rfl
    rw [show Try.prog.cellsOf 22 = 1 from by kernel_rfl] at g2
    replace g2 : DataW.trod enc Try.prog w 0 (fun _ => true) held n 22 [c2] = some y2 := g2
    obtain ⟨a0, e0, _, w0⟩ := DataW.trod_int Try.underlying5 g0
    injection e0 with e0 _; subst e0
    have b0 := bounds_u8 w0
    obtain ⟨a1, e1, _, w1⟩ := DataW.trod_int Try.underlying22 g1
    injection e1 with e1 _; subst e1
    have b1 := bounds_u32 w1
    obtain ⟨a2, e2, _, w2⟩ := DataW.trod_int Try.underlying22 g2
    injection e2 with e2 _; subst e2
    have b2 := bounds_u32 w2
    exact ⟨⟨a0, a1, a2⟩, rfl, ⟨by omega, b1, b2⟩, fun _ => trivial⟩
set_option maxRecDepth 100000 in
theorem hello_of {H : Type} {enc : TypeId × Value → H} {w : World} {held : Bool} (fuel : Nat) (cs : List Value) (x : DataW H × List MemPlace) (h : DataW.trod enc Try.prog w 0 (fun _ => true) held fuel 26 cs = some x) :
    ∃ (a b c d e f g : Int) (A : Option Addr) (n k : Nat) (L : List Int), cs = [.int .u32 a, .int .u16 b, .int .u8 c, .int .u8 d, .int .u32 e, .int .u32 f, .int .u32 g, .slice A n k] ∧ (0 ≤ a ∧ a ≤ 4294967295) ∧ (0 ≤ b ∧ b ≤ 65535) ∧ (0 ≤ c ∧ c ≤ 255) ∧ (0 ≤ d ∧ d ≤ 255) ∧ (0 ≤ e ∧ e ≤ 4294967295) ∧ (0 ≤ f ∧ f ≤ 4294967295) ∧ (0 ≤ g ∧ g ≤ 4294967295) ∧ (Reads w w.heap.size 1 A n (L.flatMap fun x : Int => [Value.int .u32 x]) ∧ L.length = n ∧ (∀ x ∈ L, 0 ≤ x ∧ x ≤ 4294967295) ∧ (n ≤ k ∧ k ≤ 9223372036854775807)) ∧ ((∀ N ∈ x.1.weights Try.prog 26, N ≤ reachBytes) → n ≤ 140737488355328) := by
  obtain ⟨xs, n, _, hxw, hl, hxl, hf⟩ := DataW.trod_struct Try.underlying26 h
  have hC : Try.prog.cellsOf 26 = 8 := by kernel_rfl
  rw [hC] at hl
  match cs, hl, xs, hxl with
  | [c0, c1, c2, c3, c4, c5, c6, c7], _, [y0, y1, y2, y3, y4, y5, y6, y7], _ =>
    have g0 : DataW.trod enc Try.prog w 0 (fun _ => true) held n 22 (([c0, c1, c2, c3, c4, c5, c6, c7].drop 0).take (Try.prog.cellsOf 22)) = some y0 := hf 0 _ rfl
    rw [show Try.prog.cellsOf 22 = 1 from by kernel_rfl] at g0
    replace g0 : DataW.trod enc Try.prog w 0 (fun _ => true) held n 22 [c0] = some y0 := g0
    have g1 : DataW.trod enc Try.prog w 0 (fun _ => true) held n 23 (([c0, c1, c2, c3, c4, c5, c6, c7].drop 1).take (Try.prog.cellsOf 23)) = some y1 := hf 1 _ rfl
    rw [show Try.prog.cellsOf 23 = 1 from by kernel_rfl] at g1
    replace g1 : DataW.trod enc Try.prog w 0 (fun _ => true) held n 23 [c1] = some y1 := g1
    have g2 : DataW.trod enc Try.prog w 0 (fun _ => true) held n 5 (([c0, c1, c2, c3, c4, c5, c6, c7].drop 2).take (Try.prog.cellsOf 5)) = some y2 := hf 2 _ rfl
    rw [show Try.prog.cellsOf 5 = 1 from by kernel_rfl] at g2
    replace g2 : DataW.trod enc Try.prog w 0 (fun _ => true) held n 5 [c2] = some y2 := g2
    have g3 : DataW.trod enc Try.prog w 0 (fun _ => true) held n 5 (([c0, c1, c2, c3, c4, c5, c6, c7].drop 3).take (Try.prog.cellsOf 5)) = some y3 := hf 3 _ rfl
    rw [show Try.prog.cellsOf 5 = 1 from by kernel_rfl] at g3
    replace g3 : DataW.trod enc Try.prog w 0 (fun _ => true) held n 5 [c3] = some y3 := g3
    have g4 : DataW.trod enc Try.prog w 0 (fun _ => true) held n 22 (([c0, c1, c2, c3, c4, c5, c6, c7].drop 4).take (Try.prog.cellsOf 22)) = some y4 := hf 4 _ rfl
    rw [show Try.prog.cellsOf 22 = 1 from by kernel_rfl] at g4
    replace g4 : DataW.trod enc Try.prog w 0 (fun _ => true) held n 22 [c4] = some y4 := g4
    have g5 : DataW.trod enc Try.prog w 0 (fun _ => true) held n 22 (([c0, c1, c2, c3, c4, c5, c6, c7].drop 5).take (Try.prog.cellsOf 22)) = some y5 := hf 5 _ rfl
    rw [show Try.prog.cellsOf 22 = 1 from by kernel_rfl] at g5
    replace g5 : DataW.trod enc Try.prog w 0 (fun _ => true) held n 22 [c5] = some y5 := g5
    have g6 : DataW.trod enc Try.prog w 0 (fun _ => true) held n 22 (([c0, c1, c2, c3, c4, c5, c6, c7].drop 6).take (Try.prog.cellsOf 22)) = some y6 := hf 6 _ rfl
    rw [show Try.prog.cellsOf 22 = 1 from by kernel_rfl] at g6
    replace g6 : DataW.trod enc Try.prog w 0 (fun _ => true) held n 22 [c6] = some y6 := g6
    have g7 : DataW.trod enc Try.prog w 0 (fun _ => true) held n 24 (([c0, c1, c2, c3, c4, c5, c6, c7].drop 7).take (Try.prog.cellsOf 24)) = some y7 := hf 7 _ rfl
    rw [show Try.prog.cellsOf 24 = 1 from by kernel_rfl] at g7
    replace g7 : DataW.trod enc Try.prog w 0 (fun _ => true) held n 24 [c7] = some y7 := g7
    obtain ⟨a0, e0, _, w0⟩ := DataW.trod_int Try.underlying22 g0
    injection e0 with e0 _; subst e0
    have b0 := bounds_u32 w0
    obtain ⟨a1, e1, _, w1⟩ := DataW.trod_int Try.underlying23 g1
    injection e1 with e1 _; subst e1
    have b1 := bounds_u16 w1
    obtain ⟨a2, e2, _, w2⟩ := DataW.trod_int Try.underlying5 g2
    injection e2 with e2 _; subst e2
    have b2 := bounds_u8 w2
    obtain ⟨a3, e3, _, w3⟩ := DataW.trod_int Try.underlying5 g3
    injection e3 with e3 _; subst e3
    have b3 := bounds_u8 w3
    obtain ⟨a4, e4, _, w4⟩ := DataW.trod_int Try.underlying22 g4
    injection e4 with e4 _; subst e4
    have b4 := bounds_u32 w4
    obtain ⟨a5, e5, _, w5⟩ := DataW.trod_int Try.underlying22 g5
    injection e5 with e5 _; subst e5
    have b5 := bounds_u32 w5
    obtain ⟨a6, e6, _, w6⟩ := DataW.trod_int Try.underlying22 g6
    injection e6 with e6 _; subst e6
    have b6 := bounds_u32 w6
    obtain ⟨A7, n7, k7, z7, rfl, r7, l7, o7, m7, q7, v7⟩ := slice_open (cs := fun x : Int => [Value.int .u32 x]) (fun _ => rfl) (by decide) Try.underlying24 (by kernel_rfl) word_of g7
    refine ⟨a0, a1, a2, a3, a4, a5, a6, A7, n7, k7, z7, rfl, b0, b1, b2, b3, b4, b5, b6, ⟨r7, l7, o7, m7, q7⟩, fun hw => ?_⟩
    rw [hxw] at hw
    exact reach_le (by rw [show Try.prog.bytesOf 22 = 4 from by kernel_rfl]; decide) (v7 (fun N hN => hw N (by simp only [DataW.weights, Try.underlying26]; exact DataW.weights_mem_each (j := 7) (t := 24) (d := y7.1) rfl rfl N hN))).2
set_option maxRecDepth 100000 in
theorem dd_of {H : Type} {enc : TypeId × Value → H} {w : World} {held : Bool} (fuel : Nat) (cs : List Value) (x : DataW H × List MemPlace) (h : DataW.trod enc Try.prog w 0 (fun _ => true) held fuel 29 cs = some x) :
    ∃ (a b c d : Int) (A : Option Addr) (n k : Nat) (L : List Hd), cs = [.int .u16 a, .int .u8 b, .int .u8 c, .int .u32 d, .slice A n k] ∧ (0 ≤ a ∧ a ≤ 65535) ∧ (0 ≤ b ∧ b ≤ 255) ∧ (0 ≤ c ∧ c ≤ 255) ∧ (0 ≤ d ∧ d ≤ 4294967295) ∧ (Reads w w.heap.size 8 A n (L.flatMap Hd.cells) ∧ L.length = n ∧ (∀ x ∈ L, x.ok) ∧ (n ≤ k ∧ k ≤ 9223372036854775807)) ∧ ((∀ N ∈ x.1.weights Try.prog 29, N ≤ reachBytes) → n ≤ 140737488355328) := by
  obtain ⟨xs, n, _, hxw, hl, hxl, hf⟩ := DataW.trod_struct Try.underlying29 h
  have hC : Try.prog.cellsOf 29 = 5 := by kernel_rfl
  rw [hC] at hl
  match cs, hl, xs, hxl with
  | [c0, c1, c2, c3, c4], _, [y0, y1, y2, y3, y4], _ =>
    have g0 : DataW.trod enc Try.prog w 0 (fun _ => true) held n 23 (([c0, c1, c2, c3, c4].drop 0).take (Try.prog.cellsOf 23)) = some y0 := hf 0 _ rfl
    rw [show Try.prog.cellsOf 23 = 1 from by kernel_rfl] at g0
    replace g0 : DataW.trod enc Try.prog w 0 (fun _ => true) held n 23 [c0] = some y0 := g0
    have g1 : DataW.trod enc Try.prog w 0 (fun _ => true) held n 5 (([c0, c1, c2, c3, c4].drop 1).take (Try.prog.cellsOf 5)) = some y1 := hf 1 _ rfl
    rw [show Try.prog.cellsOf 5 = 1 from by kernel_rfl] at g1
    replace g1 : DataW.trod enc Try.prog w 0 (fun _ => true) held n 5 [c1] = some y1 := g1
    have g2 : DataW.trod enc Try.prog w 0 (fun _ => true) held n 5 (([c0, c1, c2, c3, c4].drop 2).take (Try.prog.cellsOf 5)) = some y2 := hf 2 _ rfl
    rw [show Try.prog.cellsOf 5 = 1 from by kernel_rfl] at g2
    replace g2 : DataW.trod enc Try.prog w 0 (fun _ => true) held n 5 [c2] = some y2 := g2
    have g3 : DataW.trod enc Try.prog w 0 (fun _ => true) held n 22 (([c0, c1, c2, c3, c4].drop 3).take (Try.prog.cellsOf 22)) = some y3 := hf 3 _ rfl
    rw [show Try.prog.cellsOf 22 = 1 from by kernel_rfl] at g3
    replace g3 : DataW.trod enc Try.prog w 0 (fun _ => true) held n 22 [c3] = some y3 := g3
    have g4 : DataW.trod enc Try.prog w 0 (fun _ => true) held n 27 (([c0, c1, c2, c3, c4].drop 4).take (Try.prog.cellsOf 27)) = some y4 := hf 4 _ rfl
    rw [show Try.prog.cellsOf 27 = 1 from by kernel_rfl] at g4
    replace g4 : DataW.trod enc Try.prog w 0 (fun _ => true) held n 27 [c4] = some y4 := g4
    obtain ⟨a0, e0, _, w0⟩ := DataW.trod_int Try.underlying23 g0
    injection e0 with e0 _; subst e0
    have b0 := bounds_u16 w0
    obtain ⟨a1, e1, _, w1⟩ := DataW.trod_int Try.underlying5 g1
    injection e1 with e1 _; subst e1
    have b1 := bounds_u8 w1
    obtain ⟨a2, e2, _, w2⟩ := DataW.trod_int Try.underlying5 g2
    injection e2 with e2 _; subst e2
    have b2 := bounds_u8 w2
    obtain ⟨a3, e3, _, w3⟩ := DataW.trod_int Try.underlying22 g3
    injection e3 with e3 _; subst e3
    have b3 := bounds_u32 w3
    obtain ⟨A4, n4, k4, z4, rfl, r4, l4, o4, m4, q4, v4⟩ := slice_open (cs := Hd.cells) hd_len (by decide) Try.underlying27 (by kernel_rfl) head_of g4
    refine ⟨a0, a1, a2, a3, A4, n4, k4, z4, rfl, b0, b1, b2, b3, ⟨r4, l4, o4, m4, q4⟩, fun hw => ?_⟩
    rw [hxw] at hw
    exact reach_le (by rw [show Try.prog.bytesOf 74 = 20 from by kernel_rfl]; decide) (v4 (fun N hN => hw N (by simp only [DataW.weights, Try.underlying29]; exact DataW.weights_mem_each (j := 4) (t := 27) (d := y4.1) rfl rfl N hN))).2
theorem u32s_flat (L : List Int) : (L.flatMap fun x : Int => [Value.int .u32 x]) = u32s L := by
  induction L with
  | nil => rfl
  | cons x L ih => rw [List.flatMap_cons, ih]; rfl
set_option maxRecDepth 100000 in
theorem packet_of {H : Type} {enc : TypeId × Value → H} {w : World} {held : Bool} (fuel : Nat) (cs : List Value) (x : DataW H × List MemPlace) (h : DataW.trod enc Try.prog w 0 (fun _ => true) held fuel 33 cs = some x) :
    ∃ p : PA, cs = p.C.toList ∧ p.rd w ∧ ((∀ N ∈ x.1.weights Try.prog 33, N ≤ reachBytes) → p.fit) := by
  obtain ⟨xs, n, _, hxw, hl, hxl, hf⟩ := DataW.trod_struct Try.underlying33 h
  have hC : Try.prog.cellsOf 33 = 19 := by kernel_rfl
  rw [hC] at hl
  match cs, hl, xs, hxl with
  | [c0, c1, c2, c3, c4, c5, c6, c7, c8, c9, c10, c11, c12, c13, c14, c15, c16, c17, c18], _, [y0, y1, y2, y3, y4, y5, y6, y7], _ =>
    have g0 : DataW.trod enc Try.prog w 0 (fun _ => true) held n 5 (([c0, c1, c2, c3, c4, c5, c6, c7, c8, c9, c10, c11, c12, c13, c14, c15, c16, c17, c18].drop 0).take (Try.prog.cellsOf 5)) = some y0 := hf 0 _ rfl
    rw [show Try.prog.cellsOf 5 = 1 from by kernel_rfl] at g0
    replace g0 : DataW.trod enc Try.prog w 0 (fun _ => true) held n 5 [c0] = some y0 := g0
    have g1 : DataW.trod enc Try.prog w 0 (fun _ => true) held n 22 (([c0, c1, c2, c3, c4, c5, c6, c7, c8, c9, c10, c11, c12, c13, c14, c15, c16, c17, c18].drop 1).take (Try.prog.cellsOf 22)) = some y1 := hf 1 _ rfl
    rw [show Try.prog.cellsOf 22 = 1 from by kernel_rfl] at g1
    replace g1 : DataW.trod enc Try.prog w 0 (fun _ => true) held n 22 [c1] = some y1 := g1
    have g2 : DataW.trod enc Try.prog w 0 (fun _ => true) held n 22 (([c0, c1, c2, c3, c4, c5, c6, c7, c8, c9, c10, c11, c12, c13, c14, c15, c16, c17, c18].drop 2).take (Try.prog.cellsOf 22)) = some y2 := hf 2 _ rfl
    rw [show Try.prog.cellsOf 22 = 1 from by kernel_rfl] at g2
    replace g2 : DataW.trod enc Try.prog w 0 (fun _ => true) held n 22 [c2] = some y2 := g2
    have g3 : DataW.trod enc Try.prog w 0 (fun _ => true) held n 26 (([c0, c1, c2, c3, c4, c5, c6, c7, c8, c9, c10, c11, c12, c13, c14, c15, c16, c17, c18].drop 3).take (Try.prog.cellsOf 26)) = some y3 := hf 3 _ rfl
    rw [show Try.prog.cellsOf 26 = 8 from by kernel_rfl] at g3
    replace g3 : DataW.trod enc Try.prog w 0 (fun _ => true) held n 26 [c3, c4, c5, c6, c7, c8, c9, c10] = some y3 := g3
    have g4 : DataW.trod enc Try.prog w 0 (fun _ => true) held n 29 (([c0, c1, c2, c3, c4, c5, c6, c7, c8, c9, c10, c11, c12, c13, c14, c15, c16, c17, c18].drop 11).take (Try.prog.cellsOf 29)) = some y4 := hf 4 _ rfl
    rw [show Try.prog.cellsOf 29 = 5 from by kernel_rfl] at g4
    replace g4 : DataW.trod enc Try.prog w 0 (fun _ => true) held n 29 [c11, c12, c13, c14, c15] = some y4 := g4
    have g5 : DataW.trod enc Try.prog w 0 (fun _ => true) held n 30 (([c0, c1, c2, c3, c4, c5, c6, c7, c8, c9, c10, c11, c12, c13, c14, c15, c16, c17, c18].drop 16).take (Try.prog.cellsOf 30)) = some y5 := hf 5 _ rfl
    rw [show Try.prog.cellsOf 30 = 1 from by kernel_rfl] at g5
    replace g5 : DataW.trod enc Try.prog w 0 (fun _ => true) held n 30 [c16] = some y5 := g5
    have g6 : DataW.trod enc Try.prog w 0 (fun _ => true) held n 31 (([c0, c1, c2, c3, c4, c5, c6, c7, c8, c9, c10, c11, c12, c13, c14, c15, c16, c17, c18].drop 17).take (Try.prog.cellsOf 31)) = some y6 := hf 6 _ rfl
    rw [show Try.prog.cellsOf 31 = 1 from by kernel_rfl] at g6
    replace g6 : DataW.trod enc Try.prog w 0 (fun _ => true) held n 31 [c17] = some y6 := g6
    have g7 : DataW.trod enc Try.prog w 0 (fun _ => true) held n 27 (([c0, c1, c2, c3, c4, c5, c6, c7, c8, c9, c10, c11, c12, c13, c14, c15, c16, c17, c18].drop 18).take (Try.prog.cellsOf 27)) = some y7 := hf 7 _ rfl
    rw [show Try.prog.cellsOf 27 = 1 from by kernel_rfl] at g7
    replace g7 : DataW.trod enc Try.prog w 0 (fun _ => true) held n 27 [c18] = some y7 := g7
    obtain ⟨a0, e0, _, w0⟩ := DataW.trod_int Try.underlying5 g0
    injection e0 with e0 _; subst e0
    have b0 := bounds_u8 w0
    obtain ⟨a1, e1, _, w1⟩ := DataW.trod_int Try.underlying22 g1
    injection e1 with e1 _; subst e1
    have b1 := bounds_u32 w1
    obtain ⟨a2, e2, _, w2⟩ := DataW.trod_int Try.underlying22 g2
    injection e2 with e2 _; subst e2
    have b2 := bounds_u32 w2
    obtain ⟨hm, hi, ho, hp, hd, hr, hb, hA, hn, hc, hnb, e3, f3⟩ := hello_of _ _ _ g3
    simp only [List.cons.injEq, and_true] at e3
    obtain ⟨rfl, rfl, rfl, rfl, rfl, rfl, rfl, rfl⟩ := e3
    obtain ⟨dm, dop, dfl, dsq, dA, dn, dc, ddh, e4, f4⟩ := dd_of _ _ _ g4
    simp only [List.cons.injEq, and_true] at e4
    obtain ⟨rfl, rfl, rfl, rfl, rfl⟩ := e4
    obtain ⟨A5, n5, k5, z5, rfl, r5, l5, o5, m5, q5, v5⟩ := slice_open (cs := Ky.cells) ky_len (by decide) Try.underlying30 (by kernel_rfl) key_of g5
    obtain ⟨A6, n6, k6, z6, rfl, r6, l6, o6, m6, q6, v6⟩ := slice_open (cs := SE.cells) st_len (by decide) Try.underlying31 (by kernel_rfl) state_of g6
    obtain ⟨A7, n7, k7, z7, rfl, r7, l7, o7, m7, q7, v7⟩ := slice_open (cs := Hd.cells) hd_len (by decide) Try.underlying27 (by kernel_rfl) head_of g7
    obtain ⟨h1, h2, h3, h4, h5, h6, h7, ⟨s1, s2, s3, s4⟩, s5⟩ := f3
    obtain ⟨j1, j2, j3, j4, ⟨t1, t2, t3, t4⟩, t5⟩ := f4
    rw [u32s_flat] at s1
    refine ⟨⟨a0, a1, a2, hm, hi, ho, hp, hd, hr, hb, hA, hn, hc, hnb, dm, dop, dfl, dsq, dA, dn, dc, ddh, A5, n5, k5, z5, A6, n6, k6, z6, A7, n7, k7, z7⟩, rfl, ⟨⟨b0, b1, b2, h1, h2, h3, h4, h5, h6, h7, j1, j2, j3, j4, s3, t3, o5, o7, s2, t2, l5, l6, l7, s4, t4, ⟨m5, q5⟩, ⟨m6, q6⟩, ⟨m7, q7⟩⟩, s1, t1, r5, r6, o6, r7⟩, fun hw => ?_⟩
    rw [hxw] at hw
    exact ⟨s5 (fun N hN => hw N (by simp only [DataW.weights, Try.underlying33]; exact DataW.weights_mem_each (j := 3) (t := 26) (d := y3.1) rfl rfl N hN)), t5 (fun N hN => hw N (by simp only [DataW.weights, Try.underlying33]; exact DataW.weights_mem_each (j := 4) (t := 29) (d := y4.1) rfl rfl N hN)), reach_le (by rw [show Try.prog.bytesOf 129 = 12 from by kernel_rfl]; decide) (v5 (fun N hN => hw N (by simp only [DataW.weights, Try.underlying33]; exact DataW.weights_mem_each (j := 5) (t := 30) (d := y5.1) rfl rfl N hN))).2, reach_le (by rw [show Try.prog.bytesOf 76 = 48 from by kernel_rfl]; decide) (v6 (fun N hN => hw N (by simp only [DataW.weights, Try.underlying33]; exact DataW.weights_mem_each (j := 6) (t := 31) (d := y6.1) rfl rfl N hN))).2, reach_le (by rw [show Try.prog.bytesOf 74 = 20 from by kernel_rfl]; decide) (v7 (fun N hN => hw N (by simp only [DataW.weights, Try.underlying33]; exact DataW.weights_mem_each (j := 7) (t := 27) (d := y7.1) rfl rfl N hN))).2, fun s hs => Nat.le_trans ((v6 (fun N hN => hw N (by simp only [DataW.weights, Try.underlying33]; exact DataW.weights_mem_each (j := 6) (t := 31) (d := y6.1) rfl rfl N hN))).1 s hs) (by decide)⟩
theorem packet_arg {H : Type} {enc : TypeId × Value → H} {w : World} {r : Reach} {b : Nat} {held : Bool} {v : Value} {d : DataW H} {p : List MemPlace}
    (hv : Value.okWide Try.prog w r b 33 v) (h : DataW.Trod enc Try.prog w 0 (fun _ => true) held 33 v d p) : ∃ p : PA, v = p.v ∧ p.rd w ∧ ((∀ N ∈ d.weights Try.prog 33, N ≤ reachBytes) → p.fit) := by
  obtain ⟨cs, rfl, _⟩ := okWide_struct Try.underlying33 hv
  obtain ⟨fuel, hf⟩ := h
  obtain ⟨x, e, hx, hf⟩ := packet_of _ _ _ hf
  refine ⟨x, ?_, hx, hf⟩
  obtain ⟨l⟩ := cs
  simp only [Value.cells] at e
  subst e
  rfl
theorem arr8_of {H : Type} {enc : TypeId × Value → H} {w : World} {held : Bool} (fuel : Nat) (cs : List Value) (x : DataW H × List MemPlace) (h : DataW.trod enc Try.prog w 0 (fun _ => true) held fuel 34 cs = some x) :
    ∃ l : List Int, cs = u8s l ∧ l.length = 8 ∧ Oct l := by
  obtain ⟨xs, n, _, hxw, hl, hxl, hf⟩ := DataW.trod_array Try.underlying34 h
  have hC : Try.prog.cellsOf 34 = 8 := by kernel_rfl
  have hE : Try.prog.cellsOf 5 = 1 := by kernel_rfl
  rw [hC] at hl
  rw [hE] at hf
  have hk : ∀ i, i < 8 → ∃ a : Int, cs[i]? = some (.int .u8 a) ∧ 0 ≤ a ∧ a ≤ 255 := by
    intro i hi
    have := hf i hi
    rw [List.getElem?_eq_getElem (by omega)] at this
    obtain ⟨a, e, _, wf⟩ := DataW.trod_int Try.underlying5 this
    refine ⟨a, ?_, bounds_u8 wf⟩
    have e2 := congrArg (fun l : List Value => l[0]?) e
    simpa [List.getElem?_take, List.getElem?_drop] using e2
  obtain ⟨L, hL, hLk⟩ := choose_list 8 hk
  refine ⟨L, ?_, hL, fun k x hx => (hLk k x hx).2⟩
  apply List.ext_getElem?
  intro i
  rw [show (u8s L)[i]? = L[i]?.map (Value.int .u8) by simp [u8s]]
  cases hi : L[i]? with
  | some q => rw [(hLk i q hi).1]; rfl
  | none =>
    rw [List.getElem?_eq_none_iff] at hi
    rw [List.getElem?_eq_none (by omega)]
    rfl
theorem okWide_arr8 {w : World} {r : Reach} {b : Nat} {v : Value} (h : Value.okWide Try.prog w r b 34 v) : ∃ cs, v = .agg cs := by
  simp only [Value.okWide, Try.underlying34] at h
  obtain ⟨cs, h1, _⟩ := h
  exact ⟨cs, h1⟩
theorem arr8_arg {H : Type} {enc : TypeId × Value → H} {w : World} {r : Reach} {b : Nat} {held : Bool} {v : Value} {d : DataW H} {p : List MemPlace}
    (hv : Value.okWide Try.prog w r b 34 v) (h : DataW.Trod enc Try.prog w 0 (fun _ => true) held 34 v d p) : ∃ l : List Int, v = .agg (u8s l).toArray ∧ l.length = 8 ∧ Oct l := by
  obtain ⟨cs, rfl⟩ := okWide_arr8 hv
  obtain ⟨fuel, hf⟩ := h
  obtain ⟨l, e, hl, ho⟩ := arr8_of _ _ _ hf
  refine ⟨l, ?_, hl, ho⟩
  obtain ⟨cs⟩ := cs
  simp only [Value.cells] at e
  subst e
  rfl
theorem auth_of {H : Type} {enc : TypeId × Value → H} {w : World} {held : Bool} (fuel : Nat) (cs : List Value) (x : DataW H × List MemPlace) (h : DataW.trod enc Try.prog w 0 (fun _ => true) held fuel 36 cs = some x) :
    ∃ a : Au, cs = a.C.toList ∧ a.ok := by
  obtain ⟨xs, n, _, hxw, hl, hxl, hf⟩ := DataW.trod_struct Try.underlying36 h
  have hC : Try.prog.cellsOf 36 = 9 := by kernel_rfl
  rw [hC] at hl
  match cs, hl, xs, hxl with
  | [c0, c1, c2, c3, c4, c5, c6, c7, c8], _, [y0, y1], _ =>
    have g0 : DataW.trod enc Try.prog w 0 (fun _ => true) held n 23 (([c0, c1, c2, c3, c4, c5, c6, c7, c8].drop 0).take (Try.prog.cellsOf 23)) = some y0 := hf 0 _ rfl
    rw [show Try.prog.cellsOf 23 = 1 from by kernel_rfl] at g0
    replace g0 : DataW.trod enc Try.prog w 0 (fun _ => true) held n 23 [c0] = some y0 := g0
    have g1 : DataW.trod enc Try.prog w 0 (fun _ => true) held n 34 (([c0, c1, c2, c3, c4, c5, c6, c7, c8].drop 1).take (Try.prog.cellsOf 34)) = some y1 := hf 1 _ rfl
    rw [show Try.prog.cellsOf 34 = 8 from by kernel_rfl] at g1
    replace g1 : DataW.trod enc Try.prog w 0 (fun _ => true) held n 34 [c1, c2, c3, c4, c5, c6, c7, c8] = some y1 := g1
    obtain ⟨a0, e0, _, w0⟩ := DataW.trod_int Try.underlying23 g0
    injection e0 with e0 _; subst e0
    have b0 := bounds_u16 w0
    obtain ⟨l, e1, hl8, ho⟩ := arr8_of _ _ _ g1
    obtain ⟨d0, d1, d2, d3, d4, d5, d6, d7, rfl⟩ := take8_of hl8
    refine ⟨⟨a0, d0, d1, d2, d3, d4, d5, d6, d7⟩, ?_, ⟨b0, ho⟩⟩
    rw [e1]
    rfl
theorem auth_arg {H : Type} {enc : TypeId × Value → H} {w : World} {r : Reach} {b : Nat} {held : Bool} {v : Value} {d : DataW H} {p : List MemPlace}
    (hv : Value.okWide Try.prog w r b 36 v) (h : DataW.Trod enc Try.prog w 0 (fun _ => true) held 36 v d p) : ∃ a : Au, v = a.v ∧ a.ok := by
  obtain ⟨cs, rfl, _⟩ := okWide_struct Try.underlying36 hv
  obtain ⟨fuel, hf⟩ := h
  obtain ⟨x, e, hx⟩ := auth_of _ _ _ hf
  refine ⟨x, ?_, hx⟩
  obtain ⟨l⟩ := cs
  simp only [Value.cells] at e
  subst e
  rfl
/-- What a packet's numbers are in. -/
structure PA.rng (p : PA) : Prop where
  typ : 0 ≤ p.typ ∧ p.typ ≤ 255
  router : 0 ≤ p.router ∧ p.router ≤ 4294967295
  area : 0 ≤ p.area ∧ p.area ≤ 4294967295
  mask : 0 ≤ p.mask ∧ p.mask ≤ 4294967295
  ivl : 0 ≤ p.ivl ∧ p.ivl ≤ 65535
  hopts : 0 ≤ p.hopts ∧ p.hopts ≤ 255
  pri : 0 ≤ p.pri ∧ p.pri ≤ 255
  dead : 0 ≤ p.dead ∧ p.dead ≤ 4294967295
  dr : 0 ≤ p.dr ∧ p.dr ≤ 4294967295
  bdr : 0 ≤ p.bdr ∧ p.bdr ≤ 4294967295
  mtu : 0 ≤ p.mtu ∧ p.mtu ≤ 65535
  dopts : 0 ≤ p.dopts ∧ p.dopts ≤ 255
  flags : 0 ≤ p.flags ∧ p.flags ≤ 255
  seq : 0 ≤ p.seq ∧ p.seq ≤ 4294967295
  nb : ∀ x ∈ p.nb, 0 ≤ x ∧ x ≤ 4294967295
  dh : ∀ h ∈ p.dh, h.ok
  ks : ∀ k ∈ p.ks, k.ok
  hs : ∀ h ∈ p.hs, h.ok
theorem PA.ok.rng {p : PA} (h : p.ok) : p.rng := ⟨h.typ, h.router, h.area, h.mask, h.ivl, h.hopts, h.pri, h.dead, h.dr, h.bdr, h.mtu, h.dopts, h.flags, h.seq, h.nb, h.dh, h.ks, h.hs⟩
theorem own_caps {w : World} {base size n c : Nat} {e : TypeId} {A : Option Addr} {xs : List Value} (h : w.ownsRow base e size (.slice A n c) n xs) : n ≤ c ∧ c ≤ 9223372036854775807 := by
  obtain ⟨A', c', e, h1, h2, _⟩ := own_shape_n h
  injection e with _ _ e
  subst e
  exact ⟨h1, h2⟩
/-- A packet in memory of its own can be read. -/
theorem PkY.rd {w W : World} {p : PA} (h : PkY w W p) (r : p.rng) : p.rd W := by
  have l1 := h.n.1
  have l2 := h.d.1
  have l3 := h.k.1
  have l4 := h.s.row.1
  have l5 := h.h.1
  rw [flatG_len hd_len] at l2 l5
  rw [flatG_len ky_len] at l3
  rw [flatG_len st_len] at l4
  rw [← u32s_flat, flatG_len (cs := fun x : Int => [Value.int .u32 x]) (k := 1) (fun _ => rfl)] at l1
  have l1' : p.nb.length = p.nn := by omega
  exact ⟨⟨r.typ, r.router, r.area, r.mask, r.ivl, r.hopts, r.pri, r.dead, r.dr, r.bdr, r.mtu, r.dopts, r.flags, r.seq, r.nb, r.dh, r.ks, r.hs, l1', by omega, by omega, by omega, by omega, own_caps h.n, own_caps h.d, own_caps h.k, own_caps h.s.row, own_caps h.h⟩,
    Reads.of_own h.n, Reads.of_own h.d, Reads.of_own h.k, Reads.of_own h.s.row, fun s hs => ⟨(h.s.ok s hs).head, (h.s.ok s hs).rd.body, (h.s.ok s hs).oct, (h.s.ok s hs).rd.cap⟩, Reads.of_own h.h⟩
theorem SameP.rng {p q : PA} (h : SameP p q) (r : p.rng) : q.rng := by
  rw [h.eq]
  exact ⟨r.typ, r.router, r.area, r.mask, r.ivl, r.hopts, r.pri, r.dead, r.dr, r.bdr, r.mtu, r.dopts, r.flags, r.seq, r.nb, r.dh, r.ks, r.hs⟩
theorem SameP.few {p q : PA} (h : SameP p q) (f : p.few) : q.few := by
  refine ⟨by rw [h.eq]; exact f.n, by rw [h.eq]; exact f.d, by rw [h.eq]; exact f.k, by rw [h.eq]; exact f.s, by rw [h.eq]; exact f.h, fun s hs => ?_⟩
  have h1 : s.con ∈ q.ss.map SE.con := List.mem_map.2 ⟨s, hs, rfl⟩
  rw [h.st] at h1
  obtain ⟨t, ht, e⟩ := List.mem_map.1 h1
  have := f.b t ht
  unfold SE.con at e
  injection e with _ e
  injection e with e _
  omega
end Go.Proofs.Ytbkejlalbjomkaa
