/-
  What a link state is, as an argument.
-/
import Derived.Test.YtjkmehpokdaonaaOpn
import Derived.Test.YtjkmehpokdaonaaSpr3
namespace Go.Proofs.Ytjkmehpokdaonaa
set_option linter.unusedVariables false
open Go.ChangeShapes Go.WideShapes Go.RowKit

theorem state_of {H : Type} {enc : TypeId × Value → H} {w : World} {base : Nat} {spare : Nat → Bool} {held : Bool} {fuel : Nat} {cs : List Value} {x : DataW H × List MemPlace} (h : DataW.trod enc Try.prog w base spare held fuel 44 cs = some x) :
    ∃ (g : Hd) (A : Option Addr) (n c : Nat), g.ok ∧ cs = g.cells ++ [.slice A n c] := by
  obtain ⟨xs, n, _, _, hl, hxl, hf⟩ := DataW.trod_struct Try.underlying44 h
  have hC : Try.prog.cellsOf 44 = 9 := by kernel_rfl
  rw [hC] at hl
  match cs, hl, xs, hxl with
  | [c0, c1, c2, c3, c4, c5, c6, c7, c8], _, [y0, y1], _ =>
    have g0 : DataW.trod enc Try.prog w base spare held n 25 (([c0, c1, c2, c3, c4, c5, c6, c7, c8].drop 0).take (Try.prog.cellsOf 25)) = some y0 := hf 0 _ rfl
    rw [show Try.prog.cellsOf 25 = 8 from by kernel_rfl] at g0
    replace g0 : DataW.trod enc Try.prog w base spare held n 25 [c0, c1, c2, c3, c4, c5, c6, c7] = some y0 := g0
    have g1 : DataW.trod enc Try.prog w base spare held n 42 (([c0, c1, c2, c3, c4, c5, c6, c7, c8].drop 8).take (Try.prog.cellsOf 42)) = some y1 := hf 1 _ rfl
    rw [show Try.prog.cellsOf 42 = 1 from by kernel_rfl] at g1
    replace g1 : DataW.trod enc Try.prog w base spare held n 42 [c8] = some y1 := g1
    obtain ⟨g, o0, e0⟩ := head_of g0
    simp only [Hd.cells, List.cons.injEq, and_true] at e0
    obtain ⟨rfl, rfl, rfl, rfl, rfl, rfl, rfl, rfl⟩ := e0
    rcases DataW.trod_slice Try.underlying42 g1 with ⟨e1, _⟩ | ⟨a, len, cap, _, _, _, _, e1, _⟩
    · injection e1 with e1 _; subst e1
      exact ⟨g, _, _, _, o0, rfl⟩
    · injection e1 with e1 _; subst e1
      exact ⟨g, _, _, _, o0, rfl⟩
theorem state_arg {H : Type} {enc : TypeId × Value → H} {w : World} {r : Reach} {b base : Nat} {spare : Nat → Bool} {held : Bool} {v : Value} {d : DataW H} {p : List MemPlace}
    (hv : Value.okWide Try.prog w r b 44 v) (h : DataW.Trod enc Try.prog w base spare held 44 v d p) : ∃ (g : Hd) (A : Option Addr) (n c : Nat), g.ok ∧ v = stV g A n c := by
  obtain ⟨cs, rfl, _⟩ := okWide_struct Try.underlying44 hv
  obtain ⟨fuel, hf⟩ := h
  obtain ⟨g, A, n, c, o, e⟩ := state_of hf
  refine ⟨g, A, n, c, o, ?_⟩
  obtain ⟨l⟩ := cs
  simp only [Value.cells] at e
  subst e
  rfl
end Go.Proofs.Ytjkmehpokdaonaa
