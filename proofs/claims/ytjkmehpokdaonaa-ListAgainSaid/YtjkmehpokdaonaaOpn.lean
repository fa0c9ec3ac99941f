/-
  What the struct arguments of the chapter's laws are.
-/
import Derived.Test.YtjkmehpokdaonaaSpr1
import Derived.Test.YtjkmehpokdaonaaBase
import Derived.ChangeArms
import Derived.WideShapes
import Derived.OpenShut
namespace Go.Proofs.Ytjkmehpokdaonaa
set_option linter.unusedVariables false
open Go.ChangeShapes Go.WideShapes Go.RowKit

theorem head_of {H : Type} {enc : TypeId × Value → H} {w : World} {base : Nat} {spare : Nat → Bool} {held : Bool} {fuel : Nat} {cs : List Value} {x : DataW H × List MemPlace} (h : DataW.trod enc Try.prog w base spare held fuel 25 cs = some x) : ∃ h : Hd, h.ok ∧ cs = h.cells := by
  obtain ⟨xs, n, _, _, hl, hxl, hf⟩ := DataW.trod_struct Try.underlying25 h
  have hC : Try.prog.cellsOf 25 = 8 := by kernel_rfl
  rw [hC] at hl
  match cs, hl, xs, hxl with
  | [c0, c1, c2, c3, c4, c5, c6, c7], _, [y0, y1, y2, y3, y4, y5, y6, y7], _ =>
    have g0 : DataW.trod enc Try.prog w base spare held n 22 (([c0, c1, c2, c3, c4, c5, c6, c7].drop 0).take (Try.prog.cellsOf 22)) = some y0 := hf 0 _ rfl
    rw [show Try.prog.cellsOf 22 = 1 from by kernel_rfl] at g0
    replace g0 : DataW.trod enc Try.prog w base spare held n 22 [c0] = some y0 := g0
    have g1 : DataW.trod enc Try.prog w base spare held n 5 (([c0, c1, c2, c3, c4, c5, c6, c7].drop 1).take (Try.prog.cellsOf 5)) = some y1 := hf 1 _ rfl
    rw [show Try.prog.cellsOf 5 = 1 from by kernel_rfl] at g1
    replace g1 : DataW.trod enc Try.prog w base spare held n 5 [c1] = some y1 := g1
    have g2 : DataW.trod enc Try.prog w base spare held n 5 (([c0, c1, c2, c3, c4, c5, c6, c7].drop 2).take (Try.prog.cellsOf 5)) = some y2 := hf 2 _ rfl
    rw [show Try.prog.cellsOf 5 = 1 from by kernel_rfl] at g2
    replace g2 : DataW.trod enc Try.prog w base spare held n 5 [c2] = some y2 := g2
    have g3 : DataW.trod enc Try.prog w base spare held n 23 (([c0, c1, c2, c3, c4, c5, c6, c7].drop 3).take (Try.prog.cellsOf 23)) = some y3 := hf 3 _ rfl
    rw [show Try.prog.cellsOf 23 = 1 from by kernel_rfl] at g3
    replace g3 : DataW.trod enc Try.prog w base spare held n 23 [c3] = some y3 := g3
    have g4 : DataW.trod enc Try.prog w base spare held n 23 (([c0, c1, c2, c3, c4, c5, c6, c7].drop 4).take (Try.prog.cellsOf 23)) = some y4 := hf 4 _ rfl
    rw [show Try.prog.cellsOf 23 = 1 from by kernel_rfl] at g4
    replace g4 : DataW.trod enc Try.prog w base spare held n 23 [c4] = some y4 := g4
    have g5 : DataW.trod enc Try.prog w base spare held n 21 (([c0, c1, c2, c3, c4, c5, c6, c7].drop 5).take (Try.prog.cellsOf 21)) = some y5 := hf 5 _ rfl
    rw [show Try.prog.cellsOf 21 = 1 from by kernel_rfl] at g5
    replace g5 : DataW.trod enc Try.prog w base spare held n 21 [c5] = some y5 := g5
    have g6 : DataW.trod enc Try.prog w base spare held n 22 (([c0, c1, c2, c3, c4, c5, c6, c7].drop 6).take (Try.prog.cellsOf 22)) = some y6 := hf 6 _ rfl
    rw [show Try.prog.cellsOf 22 = 1 from by kernel_rfl] at g6
    replace g6 : DataW.trod enc Try.prog w base spare held n 22 [c6] = some y6 := g6
    have g7 : DataW.trod enc Try.prog w base spare held n 22 (([c0, c1, c2, c3, c4, c5, c6, c7].drop 7).take (Try.prog.cellsOf 22)) = some y7 := hf 7 _ rfl
    rw [show Try.prog.cellsOf 22 = 1 from by kernel_rfl] at g7
    replace g7 : DataW.trod enc Try.prog w base spare held n 22 [c7] = some y7 := g7
    obtain ⟨a0, e0, _, w0⟩ := DataW.trod_int Try.underlying22 g0
    injection e0 with e0 _; subst e0
    have b0 := bounds_u16 w0
    obtain ⟨a1, e1, _, w1⟩ := DataW.trod_int Try.underlying5 g1
    injection e1 with e1 _; subst e1
    have b1 := bounds_u8 w1
    obtain ⟨a2, e2, _, w2⟩ := DataW.trod_int Try.underlying5 g2
    injection e2 with e2 _; subst e2
    have b2 := bounds_u8 w2
    obtain ⟨a3, e3, _, w3⟩ := DataW.trod_int Try.underlying23 g3
    injection e3 with e3 _; subst e3
    have b3 := bounds_u32 w3
    obtain ⟨a4, e4, _, w4⟩ := DataW.trod_int Try.underlying23 g4
    injection e4 with e4 _; subst e4
    have b4 := bounds_u32 w4
    obtain ⟨a5, e5, _, w5⟩ := DataW.trod_int Try.underlying21 g5
    injection e5 with e5 _; subst e5
    have b5 := bounds_i32 w5
    obtain ⟨a6, e6, _, w6⟩ := DataW.trod_int Try.underlying22 g6
    injection e6 with e6 _; subst e6
    have b6 := bounds_u16 w6
    obtain ⟨a7, e7, _, w7⟩ := DataW.trod_int Try.underlying22 g7
    injection e7 with e7 _; subst e7
    have b7 := bounds_u16 w7
    exact ⟨⟨a0, a1, a2, a3, a4, a5, a6, a7⟩, ⟨b0, b1, b2, b3, b4, b5, b6, b7⟩, rfl⟩
theorem came_of {H : Type} {enc : TypeId × Value → H} {w : World} {base : Nat} {spare : Nat → Bool} {held : Bool} {fuel : Nat} {cs : List Value} {x : DataW H × List MemPlace} (h : DataW.trod enc Try.prog w base spare held fuel 27 cs = some x) : ∃ c : Cm, c.ok ∧ Value.agg cs.toArray = c.v := by
  obtain ⟨xs, n, _, _, hl, hxl, hf⟩ := DataW.trod_struct Try.underlying27 h
  have hC : Try.prog.cellsOf 27 = 22 := by kernel_rfl
  rw [hC] at hl
  match cs, hl, xs, hxl with
  | [c0, c1, c2, c3, c4, c5, c6, c7, c8, c9, c10, c11, c12, c13, c14, c15, c16, c17, c18, c19, c20, c21], _, [y0, y1, y2, y3, y4, y5, y6, y7], _ =>
    have g0 : DataW.trod enc Try.prog w base spare held n 25 (([c0, c1, c2, c3, c4, c5, c6, c7, c8, c9, c10, c11, c12, c13, c14, c15, c16, c17, c18, c19, c20, c21].drop 0).take (Try.prog.cellsOf 25)) = some y0 := hf 0 _ rfl
    rw [show Try.prog.cellsOf 25 = 8 from by kernel_rfl] at g0
    replace g0 : DataW.trod enc Try.prog w base spare held n 25 [c0, c1, c2, c3, c4, c5, c6, c7] = some y0 := g0
    have g1 : DataW.trod enc Try.prog w base spare held n 4 (([c0, c1, c2, c3, c4, c5, c6, c7, c8, c9, c10, c11, c12, c13, c14, c15, c16, c17, c18, c19, c20, c21].drop 8).take (Try.prog.cellsOf 4)) = some y1 := hf 1 _ rfl
    rw [show Try.prog.cellsOf 4 = 1 from by kernel_rfl] at g1
    replace g1 : DataW.trod enc Try.prog w base spare held n 4 [c8] = some y1 := g1
    have g2 : DataW.trod enc Try.prog w base spare held n 25 (([c0, c1, c2, c3, c4, c5, c6, c7, c8, c9, c10, c11, c12, c13, c14, c15, c16, c17, c18, c19, c20, c21].drop 9).take (Try.prog.cellsOf 25)) = some y2 := hf 2 _ rfl
    rw [show Try.prog.cellsOf 25 = 8 from by kernel_rfl] at g2
    replace g2 : DataW.trod enc Try.prog w base spare held n 25 [c9, c10, c11, c12, c13, c14, c15, c16] = some y2 := g2
    have g3 : DataW.trod enc Try.prog w base spare held n 23 (([c0, c1, c2, c3, c4, c5, c6, c7, c8, c9, c10, c11, c12, c13, c14, c15, c16, c17, c18, c19, c20, c21].drop 17).take (Try.prog.cellsOf 23)) = some y3 := hf 3 _ rfl
    rw [show Try.prog.cellsOf 23 = 1 from by kernel_rfl] at g3
    replace g3 : DataW.trod enc Try.prog w base spare held n 23 [c17] = some y3 := g3
    have g4 : DataW.trod enc Try.prog w base spare held n 23 (([c0, c1, c2, c3, c4, c5, c6, c7, c8, c9, c10, c11, c12, c13, c14, c15, c16, c17, c18, c19, c20, c21].drop 18).take (Try.prog.cellsOf 23)) = some y4 := hf 4 _ rfl
    rw [show Try.prog.cellsOf 23 = 1 from by kernel_rfl] at g4
    replace g4 : DataW.trod enc Try.prog w base spare held n 23 [c18] = some y4 := g4
    have g5 : DataW.trod enc Try.prog w base spare held n 4 (([c0, c1, c2, c3, c4, c5, c6, c7, c8, c9, c10, c11, c12, c13, c14, c15, c16, c17, c18, c19, c20, c21].drop 19).take (Try.prog.cellsOf 4)) = some y5 := hf 5 _ rfl
    rw [show Try.prog.cellsOf 4 = 1 from by kernel_rfl] at g5
    replace g5 : DataW.trod enc Try.prog w base spare held n 4 [c19] = some y5 := g5
    have g6 : DataW.trod enc Try.prog w base spare held n 4 (([c0, c1, c2, c3, c4, c5, c6, c7, c8, c9, c10, c11, c12, c13, c14, c15, c16, c17, c18, c19, c20, c21].drop 20).take (Try.prog.cellsOf 4)) = some y6 := hf 6 _ rfl
    rw [show Try.prog.cellsOf 4 = 1 from by kernel_rfl] at g6
    replace g6 : DataW.trod enc Try.prog w base spare held n 4 [c20] = some y6 := g6
    have g7 : DataW.trod enc Try.prog w base spare held n 4 (([c0, c1, c2, c3, c4, c5, c6, c7, c8, c9, c10, c11, c12, c13, c14, c15, c16, c17, c18, c19, c20, c21].drop 21).take (Try.prog.cellsOf 4)) = some y7 := hf 7 _ rfl
    rw [show Try.prog.cellsOf 4 = 1 from by kernel_rfl] at g7
    replace g7 : DataW.trod enc Try.prog w base spare held n 4 [c21] = some y7 := g7
    obtain ⟨g, o0, e0⟩ := head_of g0
    simp only [Hd.cells, List.cons.injEq, and_true] at e0
    obtain ⟨rfl, rfl, rfl, rfl, rfl, rfl, rfl, rfl⟩ := e0
    obtain ⟨a1, e1, _⟩ := DataW.trod_bool Try.underlying4 g1
    injection e1 with e1 _; subst e1
    obtain ⟨o, o2, e2⟩ := head_of g2
    simp only [Hd.cells, List.cons.injEq, and_true] at e2
    obtain ⟨rfl, rfl, rfl, rfl, rfl, rfl, rfl, rfl⟩ := e2
    obtain ⟨a3, e3, _, w3⟩ := DataW.trod_int Try.underlying23 g3
    injection e3 with e3 _; subst e3
    have b3 := bounds_u32 w3
    obtain ⟨a4, e4, _, w4⟩ := DataW.trod_int Try.underlying23 g4
    injection e4 with e4 _; subst e4
    have b4 := bounds_u32 w4
    obtain ⟨a5, e5, _⟩ := DataW.trod_bool Try.underlying4 g5
    injection e5 with e5 _; subst e5
    obtain ⟨a6, e6, _⟩ := DataW.trod_bool Try.underlying4 g6
    injection e6 with e6 _; subst e6
    obtain ⟨a7, e7, _⟩ := DataW.trod_bool Try.underlying4 g7
    injection e7 with e7 _; subst e7
    exact ⟨⟨g, a1, o, a3, a4, a5, a6, a7⟩, ⟨o0, o2, b3, b4⟩, rfl⟩
theorem asked_of {H : Type} {enc : TypeId × Value → H} {w : World} {base : Nat} {spare : Nat → Bool} {held : Bool} {fuel : Nat} {cs : List Value} {x : DataW H × List MemPlace} (h : DataW.trod enc Try.prog w base spare held fuel 60 cs = some x) : ∃ (a0 : Int) (g o : Hd) (a3 : Int), (0 ≤ a0 ∧ a0 ≤ 255) ∧ g.ok ∧ o.ok ∧ (0 ≤ a3 ∧ a3 ≤ 65535) ∧ cs = .int .u8 a0 :: (g.cells ++ (o.cells ++ [.int .u16 a3])) := by
  obtain ⟨xs, n, _, _, hl, hxl, hf⟩ := DataW.trod_struct Try.underlying60 h
  have hC : Try.prog.cellsOf 60 = 18 := by kernel_rfl
  rw [hC] at hl
  match cs, hl, xs, hxl with
  | [c0, c1, c2, c3, c4, c5, c6, c7, c8, c9, c10, c11, c12, c13, c14, c15, c16, c17], _, [y0, y1, y2, y3], _ =>
    have g0 : DataW.trod enc Try.prog w base spare held n 5 (([c0, c1, c2, c3, c4, c5, c6, c7, c8, c9, c10, c11, c12, c13, c14, c15, c16, c17].drop 0).take (Try.prog.cellsOf 5)) = some y0 := hf 0 _ rfl
    rw [show Try.prog.cellsOf 5 = 1 from by kernel_rfl] at g0
    replace g0 : DataW.trod enc Try.prog w base spare held n 5 [c0] = some y0 := g0
    have g1 : DataW.trod enc Try.prog w base spare held n 25 (([c0, c1, c2, c3, c4, c5, c6, c7, c8, c9, c10, c11, c12, c13, c14, c15, c16, c17].drop 1).take (Try.prog.cellsOf 25)) = some y1 := hf 1 _ rfl
    rw [show Try.prog.cellsOf 25 = 8 from by kernel_rfl] at g1
    replace g1 : DataW.trod enc Try.prog w base spare held n 25 [c1, c2, c3, c4, c5, c6, c7, c8] = some y1 := g1
    have g2 : DataW.trod enc Try.prog w base spare held n 25 (([c0, c1, c2, c3, c4, c5, c6, c7, c8, c9, c10, c11, c12, c13, c14, c15, c16, c17].drop 9).take (Try.prog.cellsOf 25)) = some y2 := hf 2 _ rfl
    rw [show Try.prog.cellsOf 25 = 8 from by kernel_rfl] at g2
    replace g2 : DataW.trod enc Try.prog w base spare held n 25 [c9, c10, c11, c12, c13, c14, c15, c16] = some y2 := g2
    have g3 : DataW.trod enc Try.prog w base spare held n 22 (([c0, c1, c2, c3, c4, c5, c6, c7, c8, c9, c10, c11, c12, c13, c14, c15, c16, c17].drop 17).take (Try.prog.cellsOf 22)) = some y3 := hf 3 _ rfl
    rw [show Try.prog.cellsOf 22 = 1 from by kernel_rfl] at g3
    replace g3 : DataW.trod enc Try.prog w base spare held n 22 [c17] = some y3 := g3
    obtain ⟨a0, e0, _, w0⟩ := DataW.trod_int Try.underlying5 g0
    injection e0 with e0 _; subst e0
    have b0 := bounds_u8 w0
    obtain ⟨g, o1, e1⟩ := head_of g1
    simp only [Hd.cells, List.cons.injEq, and_true] at e1
    obtain ⟨rfl, rfl, rfl, rfl, rfl, rfl, rfl, rfl⟩ := e1
    obtain ⟨o, o2, e2⟩ := head_of g2
    simp only [Hd.cells, List.cons.injEq, and_true] at e2
    obtain ⟨rfl, rfl, rfl, rfl, rfl, rfl, rfl, rfl⟩ := e2
    obtain ⟨a3, e3, _, w3⟩ := DataW.trod_int Try.underlying22 g3
    injection e3 with e3 _; subst e3
    have b3 := bounds_u16 w3
    exact ⟨a0, g, o, a3, b0, o1, o2, b3, rfl⟩
theorem head_arg {H : Type} {enc : TypeId × Value → H} {w : World} {r : Reach} {b base : Nat} {spare : Nat → Bool} {held : Bool} {v : Value} {d : DataW H} {p : List MemPlace}
    (hv : Value.okWide Try.prog w r b 25 v) (h : DataW.Trod enc Try.prog w base spare held 25 v d p) : ∃ h : Hd, h.ok ∧ v = h.v := by
  obtain ⟨cs, rfl, _⟩ := okWide_struct Try.underlying25 hv
  obtain ⟨fuel, hf⟩ := h
  obtain ⟨x, hx, e⟩ := head_of hf
  refine ⟨x, hx, ?_⟩
  obtain ⟨l⟩ := cs
  simp only [Value.cells] at e
  subst e
  rfl
theorem came_arg {H : Type} {enc : TypeId × Value → H} {w : World} {r : Reach} {b base : Nat} {spare : Nat → Bool} {held : Bool} {v : Value} {d : DataW H} {p : List MemPlace}
    (hv : Value.okWide Try.prog w r b 27 v) (h : DataW.Trod enc Try.prog w base spare held 27 v d p) : ∃ c : Cm, c.ok ∧ v = c.v := by
  obtain ⟨cs, rfl, _⟩ := okWide_struct Try.underlying27 hv
  obtain ⟨fuel, hf⟩ := h
  obtain ⟨x, hx, e⟩ := came_of hf
  exact ⟨x, hx, e⟩
theorem asked_arg {H : Type} {enc : TypeId × Value → H} {w : World} {r : Reach} {b base : Nat} {spare : Nat → Bool} {held : Bool} {v : Value} {d : DataW H} {p : List MemPlace}
    (hv : Value.okWide Try.prog w r b 60 v) (h : DataW.Trod enc Try.prog w base spare held 60 v d p) :
    ∃ (a0 : Int) (g o : Hd) (a3 : Int), (0 ≤ a0 ∧ a0 ≤ 255) ∧ g.ok ∧ o.ok ∧ (0 ≤ a3 ∧ a3 ≤ 65535) ∧ v = .agg (Value.int .u8 a0 :: (g.cells ++ (o.cells ++ [.int .u16 a3]))).toArray := by
  obtain ⟨cs, rfl, _⟩ := okWide_struct Try.underlying60 hv
  obtain ⟨fuel, hf⟩ := h
  obtain ⟨a0, g, o, a3, h1, h2, h3, h4, e⟩ := asked_of hf
  refine ⟨a0, g, o, a3, h1, h2, h3, h4, ?_⟩
  obtain ⟨l⟩ := cs
  simp only [Value.cells] at e
  subst e
  rfl
end Go.Proofs.Ytjkmehpokdaonaa
