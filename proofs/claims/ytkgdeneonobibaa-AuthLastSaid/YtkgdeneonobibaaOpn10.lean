/-
  What a list of calls of auth.Last is, as an argument.
-/
import Derived.Test.YtkgdeneonobibaaLst4
import Derived.Test.YtkgdeneonobibaaOpn9
namespace Go.Proofs.Ytkgdeneonobibaa
set_option linter.unusedVariables false
open Go.ChangeShapes Go.WideShapes Go.RowKit

theorem flatOp_inv (L : List OpK) : ∀ (j : Nat) (u : Value), (L.flatMap OpK.cells)[j]? = some u → ∃ i r k, j = i * 3 + r ∧ r < 3 ∧ L[i]? = some k ∧ k.cells[r]? = some u := by
  induction L with
  | nil => intro j u h; simp at h
  | cons a L ih =>
    intro j u h
    rw [List.flatMap_cons] at h
    have h7 : a.cells.length = 3 := rfl
    rcases Nat.lt_or_ge j 3 with hj | hj
    · rw [List.getElem?_append_left (by omega)] at h
      exact ⟨0, j, a, by omega, hj, rfl, h⟩
    · rw [List.getElem?_append_right (by omega), h7] at h
      obtain ⟨i, r, k, e, hr, hk, hu⟩ := ih _ u h
      exact ⟨i + 1, r, k, by omega, hr, by simpa using hk, hu⟩
theorem flatOp_len (L : List OpK) : (L.flatMap OpK.cells).length = L.length * 3 := by
  induction L with
  | nil => rfl
  | cons a L ih => rw [List.flatMap_cons, List.length_append, ih, List.length_cons, show a.cells.length = 3 from rfl]; omega
set_option maxRecDepth 100000 in
theorem op_of {H : Type} {enc : TypeId × Value → H} {w : World} {held : Bool} {fuel : Nat} {cs : List Value} {x : DataW H × List MemPlace} (h : DataW.trod enc Try.prog w 0 (fun _ => true) held fuel 56 cs = some x) :
    ∃ k : OpK, cs = k.cells ∧ 0 ≤ k.d ∧ k.d ≤ 255 := by
  obtain ⟨xs, n, _, hx, hl, hxl, hf⟩ := DataW.trod_struct Try.underlying56 h
  have hC : Try.prog.cellsOf 56 = 3 := by kernel_rfl
  rw [hC] at hl
  match cs, hl, xs, hxl with
  | [c0, c1, c2], _, [y0, y1, y2], _ =>
    have one8 : Try.prog.cellsOf 5 = 1 := by kernel_rfl
    have one32 : Try.prog.cellsOf 34 = 1 := by kernel_rfl
    have g0 : DataW.trod enc Try.prog w 0 (fun _ => true) held n 5 (([c0, c1, c2].drop 0).take (Try.prog.cellsOf 5)) = some y0 := hf 0 _ rfl
    have g1 : DataW.trod enc Try.prog w 0 (fun _ => true) held n 34 (([c0, c1, c2].drop 1).take (Try.prog.cellsOf 34)) = some y1 := hf 1 _ rfl
    have g2 : DataW.trod enc Try.prog w 0 (fun _ => true) held n 34 (([c0, c1, c2].drop 2).take (Try.prog.cellsOf 34)) = some y2 := hf 2 _ rfl
    rw [one8] at g0; rw [one32] at g1 g2
    replace g0 : DataW.trod enc Try.prog w 0 (fun _ => true) held n 5 [c0] = some y0 := g0
    replace g1 : DataW.trod enc Try.prog w 0 (fun _ => true) held n 34 [c1] = some y1 := g1
    replace g2 : DataW.trod enc Try.prog w 0 (fun _ => true) held n 34 [c2] = some y2 := g2
    obtain ⟨a0, e0, _, w0⟩ := DataW.trod_int Try.underlying5 g0
    injection e0 with e0 _; subst e0
    obtain ⟨a1, e1, _, w1⟩ := DataW.trod_int Try.underlying34 g1
    injection e1 with e1 _; subst e1
    obtain ⟨a2, e2, _, w2⟩ := DataW.trod_int Try.underlying34 g2
    injection e2 with e2 _; subst e2
    have := bounds_u8 w0
    exact ⟨⟨a0, a1, a2⟩, rfl, this.1, by simpa using this.2⟩
set_option maxRecDepth 100000 in
theorem ops_arg {H : Type} {enc : TypeId × Value → H} {w : World} {r : Reach} {b : Nat} {held : Bool} {v : Value} {d : DataW H} {p : List MemPlace}
    (hv : Value.okWide Try.prog w r b 49 v) (h : DataW.Trod enc Try.prog w 0 (fun _ => true) held 49 v d p) :
    ∃ (A : Option Addr) (n c : Nat) (L : List OpK), v = .slice A n c ∧ Ops w A n L ∧ n ≤ c ∧ c ≤ 9223372036854775807 := by
  obtain ⟨A, n, c, rfl⟩ := okWide_slice Try.underlying49 hv
  obtain ⟨fuel, hf⟩ := h
  have hC : Try.prog.cellsOf 56 = 3 := by kernel_rfl
  rcases DataW.trod_slice Try.underlying49 hf with ⟨e1, _⟩ | ⟨a, len, cap, elems, rest, fu, _, e1, hxx, _, hlc, hm, hlen, hel, _⟩
  · simp [Value.cells] at e1
    obtain ⟨rfl, rfl, rfl⟩ := e1
    exact ⟨none, 0, 0, [], rfl, ⟨⟨rfl, fun h => absurd h (by omega)⟩, rfl, by simp⟩, Nat.le_refl _, by omega⟩
  · simp [Value.cells] at e1
    obtain ⟨rfl, rfl, rfl⟩ := e1
    rw [hC] at hel
    have hk : ∀ i, i < n → ∃ k : OpK, (∀ j, j < 3 → w.cell? (a.add (i * 3 + j)) = k.cells[j]?) ∧ 0 ≤ k.d ∧ k.d ≤ 255 := by
      intro i hi
      have h1 := hel i hi
      rw [List.getElem?_eq_getElem (by omega)] at h1
      cases hcs : w.cells? 0 (a.add (i * 3)) 3 with
      | none => rw [hcs] at h1; cases h1
      | some cs =>
        rw [hcs] at h1
        obtain ⟨k, rfl, hok⟩ := op_of h1
        refine ⟨k, fun j hj => ?_, hok⟩
        have := (World.cells?_some hcs).2.2 j hj
        rwa [add_of_add] at this
    obtain ⟨L, hL, hLk⟩ := choose_list n hk
    refine ⟨some a, n, c, L, rfl, ⟨⟨by rw [flatOp_len, hL], fun h0 => ⟨a, rfl, ?_, ?_⟩⟩, hL, ?_⟩, hlc, hm⟩
    · obtain ⟨k, hk0, _⟩ := hk 0 h0
      have := hk0 0 (by decide)
      rw [Nat.zero_mul, Nat.zero_add] at this
      have := cell_lt this
      rwa [block_of_add] at this
    · intro j u hu
      obtain ⟨i, r, k, rfl, hr, hki, hku⟩ := flatOp_inv L j u hu
      rw [(hLk i k hki).1 r hr]
      exact hku
    · intro k hk
      obtain ⟨i, hi⟩ := List.getElem?_of_mem hk
      exact (hLk i k hi).2
end Go.Proofs.Ytkgdeneonobibaa
