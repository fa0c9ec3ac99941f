/-
  What the laws' arguments are; the rows' condition as the walks want it.
-/
import Derived.Test.YtljmmpjcagchmaaDoorPfx18
import Derived.Test.YtljmmpjcagchmaaDoorPfx15
import Derived.Test.YtljmmpjcagchmaaDoorPfx6
import Derived.ChangeArms
import Derived.WideShapes
import Derived.OpenShut
import Derived.ShutString
import Derived.ChangeMaps5
import Derived.RowKit
import Derived.SizedLaws
namespace Go.Proofs.YtljmmpjcagchmaaDoor
set_option linter.unusedVariables false
open Go.ChangeShapes Go.WideShapes Go.RowKit

theorem env_of_laid {W : World} (h : laidMetH Tryd.prog laid5 W) : Env W := have ⟨a, b, c⟩ := of_laid h; ⟨a, b, c⟩
theorem nat_of {n : Int} (h : 0 ≤ n) : ∃ k : Nat, n = k := ⟨n.toNat, by omega⟩
theorem prefix_of {H : Type} {enc : TypeId × Value → H} {w : World} {base : Nat} {spare : Nat → Bool} {held : Bool} {fuel : Nat} {cs : List Value} {x : DataW H × List MemPlace}
    (h : DataW.trod enc Tryd.prog w base spare held fuel 31 cs = some x) : ∃ p : Pf, p.ok ∧ cs = p.cells := by
  obtain ⟨xs, n, _, _, hl, hxl, hf⟩ := DataW.trod_struct Tryd.underlying31 h
  have hC : Tryd.prog.cellsOf 31 = 2 := by kernel_rfl
  rw [hC] at hl
  match cs, hl, xs, hxl with
  | [c0, c1], _, [y0, y1], _ =>
    have g0 : DataW.trod enc Tryd.prog w base spare held n 23 (([c0, c1].drop 0).take (Tryd.prog.cellsOf 23)) = some y0 := hf 0 _ rfl
    rw [show Tryd.prog.cellsOf 23 = 1 from by kernel_rfl] at g0
    replace g0 : DataW.trod enc Tryd.prog w base spare held n 23 [c0] = some y0 := g0
    have g1 : DataW.trod enc Tryd.prog w base spare held n 5 (([c0, c1].drop 1).take (Tryd.prog.cellsOf 5)) = some y1 := hf 1 _ rfl
    rw [show Tryd.prog.cellsOf 5 = 1 from by kernel_rfl] at g1
    replace g1 : DataW.trod enc Tryd.prog w base spare held n 5 [c1] = some y1 := g1
    obtain ⟨a0, e0, _, w0⟩ := DataW.trod_int Tryd.underlying23 g0
    injection e0 with e0 _; subst e0
    have b0 := bounds_u32 w0
    obtain ⟨a1, e1, _, w1⟩ := DataW.trod_int Tryd.underlying5 g1
    injection e1 with e1 _; subst e1
    have b1 := bounds_u8 w1
    obtain ⟨k0, rfl⟩ := nat_of b0.1
    obtain ⟨k1, rfl⟩ := nat_of b1.1
    exact ⟨⟨k0, k1⟩, ⟨by simp only; omega, by simp only; omega⟩, rfl⟩
theorem prefix_arg {H : Type} {enc : TypeId × Value → H} {w : World} {r : Reach} {b base : Nat} {spare : Nat → Bool} {held : Bool} {v : Value} {d : DataW H} {p : List MemPlace}
    (hv : Value.okWide Tryd.prog w r b 31 v) (h : DataW.Trod enc Tryd.prog w base spare held 31 v d p) : ∃ p : Pf, p.ok ∧ v = p.v := by
  obtain ⟨cs, rfl, _⟩ := okWide_struct Tryd.underlying31 hv
  obtain ⟨fuel, hf⟩ := h
  obtain ⟨p, o, e⟩ := prefix_of hf
  refine ⟨p, o, ?_⟩
  obtain ⟨l⟩ := cs
  simp only [Value.cells] at e
  subst e
  rfl
theorem u32_arg {H : Type} {enc : TypeId × Value → H} {w : World} {r : Reach} {b base : Nat} {spare : Nat → Bool} {held : Bool} {v : Value} {d : DataW H} {p : List MemPlace}
    (hv : Value.okWide Tryd.prog w r b 23 v) (h : DataW.Trod enc Tryd.prog w base spare held 23 v d p) : ∃ n : Nat, n < 4294967296 ∧ v = .int .u32 n := by
  obtain ⟨n, rfl⟩ := Go.WideShapes.okWide_int Tryd.underlying23 hv
  obtain ⟨fuel, hf⟩ := h
  obtain ⟨a0, e0, _, w0⟩ := DataW.trod_int Tryd.underlying23 hf
  have b0 := bounds_u32 w0
  simp only [Value.cells, List.cons.injEq, and_true] at e0
  injection e0 with _ e0; subst e0
  obtain ⟨k0, rfl⟩ := nat_of b0.1
  exact ⟨k0, by omega, rfl⟩
theorem u8n_arg {H : Type} {enc : TypeId × Value → H} {w : World} {r : Reach} {b base : Nat} {spare : Nat → Bool} {held : Bool} {v : Value} {d : DataW H} {p : List MemPlace}
    (hv : Value.okWide Tryd.prog w r b 5 v) (h : DataW.Trod enc Tryd.prog w base spare held 5 v d p) : ∃ n : Nat, n < 256 ∧ v = .int .u8 n := by
  obtain ⟨n, rfl⟩ := Go.WideShapes.okWide_int Tryd.underlying5 hv
  obtain ⟨fuel, hf⟩ := h
  obtain ⟨a0, e0, _, w0⟩ := DataW.trod_int Tryd.underlying5 hf
  have b0 := bounds_u8 w0
  simp only [Value.cells, List.cons.injEq, and_true] at e0
  injection e0 with _ e0; subst e0
  obtain ⟨k0, rfl⟩ := nat_of b0.1
  exact ⟨k0, by omega, rfl⟩
theorem str_arg {H : Type} {enc : TypeId × Value → H} {w : World} {r : Reach} {b base : Nat} {spare : Nat → Bool} {held : Bool} {v : Value} {d : DataW H} {p : List MemPlace}
    (hv : Value.okWide Tryd.prog w r b 9 v) (h : DataW.Trod enc Tryd.prog w base spare held 9 v d p) : ∃ s : ByteArray, s.size ≤ maxLen ∧ v = .string s := by
  obtain ⟨s, rfl, _, _, hs⟩ := Go.ChangeMaps.open_string Tryd.underlying9 hv h
  exact ⟨s, hs, rfl⟩
theorem choose_list {α : Type} {P : Nat → α → Prop} : ∀ n, (∀ i, i < n → ∃ a, P i a) → ∃ L : List α, L.length = n ∧ ∀ i a, L[i]? = some a → P i a := by
  intro n
  induction n with
  | zero => exact fun _ => ⟨[], rfl, by simp⟩
  | succ n ih =>
    intro h
    obtain ⟨L, hl, hL⟩ := ih fun i hi => h i (by omega)
    obtain ⟨a, ha⟩ := h n (by omega)
    refine ⟨L ++ [a], by simp [hl], fun i b hb => ?_⟩
    rcases Nat.lt_or_ge i n with hi | hi
    · rw [List.getElem?_append_left (by omega)] at hb
      exact hL i b hb
    · rw [List.getElem?_append_right (by omega), hl] at hb
      have : i - n = 0 := by
        have := (List.getElem?_eq_some_iff.1 hb).1
        simp at this; omega
      rw [this] at hb
      simp at hb
      obtain rfl : i = n := by omega
      subst hb
      exact ha
theorem flat2_inv (L : List Pf) : ∀ (j : Nat) (u : Value), (L.flatMap Pf.cells)[j]? = some u → ∃ i r k, j = i * 2 + r ∧ r < 2 ∧ L[i]? = some k ∧ k.cells[r]? = some u := by
  induction L with
  | nil => intro j u h; simp at h
  | cons a L ih =>
    intro j u h
    rw [List.flatMap_cons] at h
    have h7 : a.cells.length = 2 := rfl
    rcases Nat.lt_or_ge j 2 with hj | hj
    · rw [List.getElem?_append_left (by omega)] at h
      exact ⟨0, j, a, by omega, hj, rfl, h⟩
    · rw [List.getElem?_append_right (by omega), h7] at h
      obtain ⟨i, r, k, e, hr, hk, hu⟩ := ih _ u h
      exact ⟨i + 1, r, k, by omega, hr, by simpa using hk, hu⟩
theorem flat2_len (L : List Pf) : (L.flatMap Pf.cells).length = L.length * 2 := by
  induction L with
  | nil => rfl
  | cons a L ih => rw [List.flatMap_cons, List.length_append, ih]; simp [Pf.cells]; omega
set_option maxRecDepth 100000 in
theorem prefixes_arg {H : Type} {enc : TypeId × Value → H} {w : World} {r : Reach} {b : Nat} {held : Bool} {v : Value} {d : DataW H} {p : List MemPlace}
    (hv : Value.okWide Tryd.prog w r b 22 v) (h : DataW.Trod enc Tryd.prog w 0 (fun _ => true) held 22 v d p) :
    ∃ (A : Option Addr) (n c : Nat) (L : List Pf), v = .slice A n c ∧ Pfs w A n L ∧ n ≤ c ∧ c ≤ 9223372036854775807 := by
  obtain ⟨A, n, c, rfl⟩ := okWide_slice Tryd.underlying22 hv
  obtain ⟨fuel, hf⟩ := h
  have hC : Tryd.prog.cellsOf 31 = 2 := by kernel_rfl
  rcases DataW.trod_slice Tryd.underlying22 hf with ⟨e1, _⟩ | ⟨a, len, cap, elems, rest, fu, _, e1, hxx, _, hlc, hm, hlen, hel, _⟩
  · simp [Value.cells] at e1
    obtain ⟨rfl, rfl, rfl⟩ := e1
    exact ⟨none, 0, 0, [], rfl, ⟨⟨rfl, fun h => absurd h (by omega)⟩, rfl, by simp⟩, Nat.le_refl _, by omega⟩
  · simp [Value.cells] at e1
    obtain ⟨rfl, rfl, rfl⟩ := e1
    rw [hC] at hel
    have hk : ∀ i, i < n → ∃ k : Pf, (∀ j, j < 2 → w.cell? (a.add (i * 2 + j)) = k.cells[j]?) ∧ k.ok := by
      intro i hi
      have h1 := hel i hi
      rw [List.getElem?_eq_getElem (by omega)] at h1
      cases hcs : w.cells? 0 (a.add (i * 2)) 2 with
      | none => rw [hcs] at h1; cases h1
      | some cs =>
        rw [hcs] at h1
        obtain ⟨k, hok, rfl⟩ := prefix_of h1
        refine ⟨k, fun j hj => ?_, hok⟩
        have := (World.cells?_some hcs).2.2 j hj
        rwa [add_of_add] at this
    obtain ⟨L, hL, hLk⟩ := choose_list n hk
    refine ⟨some a, n, c, L, rfl, ⟨⟨by rw [flat2_len, hL], fun h0 => ⟨a, rfl, ?_, ?_⟩⟩, hL, ?_⟩, hlc, hm⟩
    · obtain ⟨k, hk0, _⟩ := hk 0 h0
      have := hk0 0 (by decide)
      rw [Nat.zero_mul, Nat.zero_add] at this
      have := cell_lt this
      rwa [block_of_add] at this
    · intro j u hu
      obtain ⟨i, r, k, rfl, hr, hki, hku⟩ := flat2_inv L j u hu
      rw [(hLk i k hki).1 r hr]
      exact hku
    · intro k hk
      obtain ⟨i, hi⟩ := List.getElem?_of_mem hk
      exact (hLk i k hi).2
end Go.Proofs.YtljmmpjcagchmaaDoor
