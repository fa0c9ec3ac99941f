/-
  What a chain of keys is, as an argument, and how long its secrets are.
-/
import Derived.Test.YtkgdeneonobibaaAut7
import Derived.ChangeArms
import Derived.WideShapes
import Derived.OpenShut
import Derived.RowKit
import Derived.SizedLaws
namespace Go.Proofs.Ytkgdeneonobibaa
set_option linter.unusedVariables false
open Go.ChangeShapes Go.WideShapes Go.RowKit

theorem choose_list {α : Type} {P : Nat → α → Prop} : ∀ n, (∀ i, i < n → ∃ a, P i a) → ∃ L : List α, L.length = n ∧ ∀ i a, L[i]? = some a → P i a := by
  intro n
  induction n with
  | zero => exact fun _ => ⟨[], rfl, by simp⟩
  | succ n ih =>
    intro h
    obtain ⟨L, hl, hL⟩ := ih fun i hi => h i (by omega)
    obtain ⟨a, ha⟩ := h n (by omega)
    refine ⟨L ++ [a], by simp [hl], fun i b hb => ?_⟩
    rcases Nat.lt_or_ge i n with hi | hi
    · rw [List.getElem?_append_left (by omega)] at hb
      exact hL i b hb
    · rw [List.getElem?_append_right (by omega), hl] at hb
      have : i - n = 0 := by
        have := (List.getElem?_eq_some_iff.1 hb).1
        simp at this; omega
      rw [this] at hb
      simp at hb
      obtain rfl : i = n := by omega
      subst hb
      exact ha
theorem flat_inv (L : List AK) : ∀ (j : Nat) (u : Value), (L.flatMap AK.cells)[j]? = some u → ∃ i r k, j = i * 7 + r ∧ r < 7 ∧ L[i]? = some k ∧ k.cells[r]? = some u := by
  induction L with
  | nil => intro j u h; simp at h
  | cons a L ih =>
    intro j u h
    rw [List.flatMap_cons] at h
    have h7 : a.cells.length = 7 := rfl
    rcases Nat.lt_or_ge j 7 with hj | hj
    · rw [List.getElem?_append_left (by omega)] at h
      exact ⟨0, j, a, by omega, hj, rfl, h⟩
    · rw [List.getElem?_append_right (by omega), h7] at h
      obtain ⟨i, r, k, e, hr, hk, hu⟩ := ih _ u h
      exact ⟨i + 1, r, k, by omega, hr, by simpa using hk, hu⟩
theorem flat_len (L : List AK) : (L.flatMap AK.cells).length = L.length * 7 := by
  induction L with
  | nil => rfl
  | cons a L ih => rw [List.flatMap_cons, List.length_append, ih, List.length_cons, show a.cells.length = 7 from rfl]; omega
theorem weightsAll_mem {H : Type} {P : Program} {e : TypeId} : ∀ {l : List (DataW H)} {d : DataW H}, d ∈ l → ∀ n ∈ d.weights P e, n ∈ DataW.weightsAll P e l
  | d' :: r, d, hd, n, hn => by
    simp only [DataW.weightsAll, List.mem_append]
    rcases List.mem_cons.1 hd with rfl | h
    · exact Or.inl hn
    · exact Or.inr (weightsAll_mem h n hn)
theorem bytes_of {H : Type} {enc : TypeId × Value → H} {w : World} {held : Bool} {fuel : Nat} {v : Value} {x : DataW H × List MemPlace} (h : DataW.trod enc Try.prog w 0 (fun _ => true) held fuel 32 [v] = some x) :
    ∃ (A : Option Addr) (n c : Nat) (zs : List Int), v = .slice A n c ∧ IsRow .u8 w A n c zs ∧ ((∀ N ∈ x.1.weights Try.prog 32, N ≤ reachBytes) → c ≤ reachBytes) := by
  rcases open_ints Try.underlying32 Try.underlying5 (by kernel_rfl) h with ⟨hcs, _⟩ | ⟨ax, l, c, zs, hcs, _, hl, hm, hz, hx, hcell, hwz⟩
  · injection hcs with hcs _; subst hcs
    exact ⟨none, 0, 0, [], rfl, .inl ⟨rfl, rfl, rfl, rfl⟩, fun _ => Nat.zero_le _⟩
  · injection hcs with hcs _; subst hcs
    have hzc : zs.length = c := by simpa using hz
    refine ⟨_, _, _, zs, rfl, .inr ⟨_, rfl, hl, hm, hzc, hcell, hwz⟩, fun hw => ?_⟩
    have hb1 : Try.prog.bytesOf 5 = 1 := by kernel_rfl
    rw [hx] at hw
    have h1 := hw c (by
      simp only [DataW.weights, Try.underlying32, List.mem_cons]
      left
      rw [hb1]
      simp [lits]
      omega)
    exact h1
set_option maxRecDepth 100000 in
theorem key_of {H : Type} {enc : TypeId × Value → H} {w : World} {held : Bool} {fuel : Nat} {cs : List Value} {x : DataW H × List MemPlace} (h : DataW.trod enc Try.prog w 0 (fun _ => true) held fuel 70 cs = some x) :
    ∃ k : AK, cs = k.cells ∧ KOk w k ∧ ((∀ N ∈ x.1.weights Try.prog 70, N ≤ reachBytes) → k.n ≤ reachBytes) := by
  obtain ⟨xs, n, _, hx, hl, hxl, hf⟩ := DataW.trod_struct Try.underlying70 h
  have hC : Try.prog.cellsOf 70 = 7 := by kernel_rfl
  rw [hC] at hl
  match cs, hl, xs, hxl with
  | [c0, c1, c2, c3, c4, c5, c6], _, [y0, y1, y2, y3, y4, y5, y6], _ =>
    have one8 : Try.prog.cellsOf 5 = 1 := by kernel_rfl
    have one16 : Try.prog.cellsOf 58 = 1 := by kernel_rfl
    have oneS : Try.prog.cellsOf 32 = 1 := by kernel_rfl
    have oneI : Try.prog.cellsOf 3 = 1 := by kernel_rfl
    have g0 : DataW.trod enc Try.prog w 0 (fun _ => true) held n 5 (([c0, c1, c2, c3, c4, c5, c6].drop 0).take (Try.prog.cellsOf 5)) = some y0 := hf 0 _ rfl
    have g1 : DataW.trod enc Try.prog w 0 (fun _ => true) held n 58 (([c0, c1, c2, c3, c4, c5, c6].drop 1).take (Try.prog.cellsOf 58)) = some y1 := hf 1 _ rfl
    have g2 : DataW.trod enc Try.prog w 0 (fun _ => true) held n 32 (([c0, c1, c2, c3, c4, c5, c6].drop 2).take (Try.prog.cellsOf 32)) = some y2 := hf 2 _ rfl
    have g3 : DataW.trod enc Try.prog w 0 (fun _ => true) held n 3 (([c0, c1, c2, c3, c4, c5, c6].drop 3).take (Try.prog.cellsOf 3)) = some y3 := hf 3 _ rfl
    have g4 : DataW.trod enc Try.prog w 0 (fun _ => true) held n 3 (([c0, c1, c2, c3, c4, c5, c6].drop 4).take (Try.prog.cellsOf 3)) = some y4 := hf 4 _ rfl
    have g5 : DataW.trod enc Try.prog w 0 (fun _ => true) held n 3 (([c0, c1, c2, c3, c4, c5, c6].drop 5).take (Try.prog.cellsOf 3)) = some y5 := hf 5 _ rfl
    have g6 : DataW.trod enc Try.prog w 0 (fun _ => true) held n 3 (([c0, c1, c2, c3, c4, c5, c6].drop 6).take (Try.prog.cellsOf 3)) = some y6 := hf 6 _ rfl
    rw [one8] at g0; rw [one16] at g1; rw [oneS] at g2; rw [oneI] at g3 g4 g5 g6
    replace g0 : DataW.trod enc Try.prog w 0 (fun _ => true) held n 5 [c0] = some y0 := g0
    replace g1 : DataW.trod enc Try.prog w 0 (fun _ => true) held n 58 [c1] = some y1 := g1
    replace g2 : DataW.trod enc Try.prog w 0 (fun _ => true) held n 32 [c2] = some y2 := g2
    replace g3 : DataW.trod enc Try.prog w 0 (fun _ => true) held n 3 [c3] = some y3 := g3
    replace g4 : DataW.trod enc Try.prog w 0 (fun _ => true) held n 3 [c4] = some y4 := g4
    replace g5 : DataW.trod enc Try.prog w 0 (fun _ => true) held n 3 [c5] = some y5 := g5
    replace g6 : DataW.trod enc Try.prog w 0 (fun _ => true) held n 3 [c6] = some y6 := g6
    obtain ⟨a0, e0, _, w0⟩ := DataW.trod_int Try.underlying5 g0
    injection e0 with e0 _; subst e0
    obtain ⟨a1, e1, _, w1⟩ := DataW.trod_int Try.underlying58 g1
    injection e1 with e1 _; subst e1
    obtain ⟨A, m, c, zs, rfl, hrow, hwt⟩ := bytes_of g2
    obtain ⟨a3, e3, _, w3⟩ := DataW.trod_int Try.underlying3 g3
    injection e3 with e3 _; subst e3
    obtain ⟨a4, e4, _, w4⟩ := DataW.trod_int Try.underlying3 g4
    injection e4 with e4 _; subst e4
    obtain ⟨a5, e5, _, w5⟩ := DataW.trod_int Try.underlying3 g5
    injection e5 with e5 _; subst e5
    obtain ⟨a6, e6, _, w6⟩ := DataW.trod_int Try.underlying3 g6
    injection e6 with e6 _; subst e6
    obtain ⟨hr, ho, hc, hm⟩ := isRow_u8 hrow
    refine ⟨⟨a0, a1, A, m, c, a3, a4, a5, a6, _⟩, rfl, ⟨bounds_u8 w0, bounds_u16 w1, hr, ho, hc, hm⟩, fun hw => ?_⟩
    rw [hx] at hw
    refine Nat.le_trans hc (hwt fun N hN => hw N ?_)
    simp only [DataW.weights, Try.underlying70]
    exact DataW.weights_mem_each (j := 2) (t := 32) (d := y2.1) rfl rfl N hN
set_option maxRecDepth 100000 in
theorem keys_arg {H : Type} {enc : TypeId × Value → H} {w : World} {r : Reach} {b : Nat} {held : Bool} {v : Value} {d : DataW H} {p : List MemPlace}
    (hv : Value.okWide Try.prog w r b 22 v) (h : DataW.Trod enc Try.prog w 0 (fun _ => true) held 22 v d p) :
    ∃ (A : Option Addr) (n c : Nat) (L : List AK), v = .slice A n c ∧ Keys w A n L ∧ n ≤ c ∧ c ≤ 9223372036854775807 ∧ ((∀ N ∈ d.weights Try.prog 22, N ≤ reachBytes) → ∀ k ∈ L, k.n ≤ reachBytes) := by
  obtain ⟨A, n, c, rfl⟩ := okWide_slice Try.underlying22 hv
  obtain ⟨fuel, hf⟩ := h
  have hC : Try.prog.cellsOf 70 = 7 := by kernel_rfl
  rcases DataW.trod_slice Try.underlying22 hf with ⟨e1, _⟩ | ⟨a, len, cap, elems, rest, fu, _, e1, hxx, _, hlc, hm, hlen, hel, _⟩
  · simp [Value.cells] at e1
    obtain ⟨rfl, rfl, rfl⟩ := e1
    exact ⟨none, 0, 0, [], rfl, ⟨⟨rfl, fun h => absurd h (by omega)⟩, rfl, by simp⟩, Nat.le_refl _, by omega, fun _ => by simp⟩
  · simp [Value.cells] at e1
    obtain ⟨rfl, rfl, rfl⟩ := e1
    rw [hC] at hel
    have hk : ∀ i, i < n → ∃ k : AK, (∀ j, j < 7 → w.cell? (a.add (i * 7 + j)) = k.cells[j]?) ∧ KOk w k ∧ ((∀ N ∈ DataW.weightsAll Try.prog 70 (elems.map (·.1)), N ≤ reachBytes) → k.n ≤ reachBytes) := by
      intro i hi
      have h1 := hel i hi
      rw [List.getElem?_eq_getElem (by omega)] at h1
      cases hcs : w.cells? 0 (a.add (i * 7)) 7 with
      | none => rw [hcs] at h1; cases h1
      | some cs =>
        rw [hcs] at h1
        obtain ⟨k, rfl, hok, hkw⟩ := key_of h1
        refine ⟨k, fun j hj => ?_, hok, fun hw => hkw fun N hN => hw N (weightsAll_mem (List.mem_map.2 ⟨_, List.getElem_mem _, rfl⟩) N hN)⟩
        have := (World.cells?_some hcs).2.2 j hj
        rwa [add_of_add] at this
    obtain ⟨L, hL, hLk⟩ := choose_list n hk
    refine ⟨some a, n, c, L, rfl, ⟨⟨by rw [flat_len, hL], fun h0 => ⟨a, rfl, ?_, ?_⟩⟩, hL, ?_⟩, hlc, hm, ?_⟩
    · obtain ⟨k, hk0, _⟩ := hk 0 h0
      have := hk0 0 (by decide)
      rw [Nat.zero_mul, Nat.zero_add] at this
      have := cell_lt this
      rwa [block_of_add] at this
    · intro j u hu
      obtain ⟨i, r, k, rfl, hr, hki, hku⟩ := flat_inv L j u hu
      rw [(hLk i k hki).1 r hr]
      exact hku
    · intro k hk
      obtain ⟨i, hi⟩ := List.getElem?_of_mem hk
      exact (hLk i k hi).2.1
    · intro hw k hk
      obtain ⟨i, hi⟩ := List.getElem?_of_mem hk
      refine (hLk i k hi).2.2 fun N hN => hw N ?_
      simp only [Prod.mk.injEq] at hxx
      rw [hxx.1]
      simp only [DataW.weights, Try.underlying22, List.mem_cons, List.mem_append]
      exact .inr (.inl hN)
set_option maxRecDepth 100000 in
theorem int_arg {w : World} {r : Reach} {b : Nat} {v : Value} (h : Value.okWide Try.prog w r b 3 v) : ∃ n, v = .int .i64 n := Go.WideShapes.okWide_int Try.underlying3 h
end Go.Proofs.Ytkgdeneonobibaa
