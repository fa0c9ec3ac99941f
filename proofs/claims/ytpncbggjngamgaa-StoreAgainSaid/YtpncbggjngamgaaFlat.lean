/-
  Rows of structs: the cells of a list of items laid one behind the other, and how a slice of them is opened.
-/
import Derived.Test.YtpncbggjngamgaaBase
import Derived.ChangeArms
import Derived.WideShapes
import Derived.OpenShut
import Derived.RowKit
import Derived.SizedLaws
import Derived.Lib.Hide
namespace Go.Proofs.Ytpncbggjngamgaa
set_option linter.unusedVariables false
open Go.ChangeShapes Go.WideShapes Go.RowKit

theorem choose_list {α : Type} {P : Nat → α → Prop} : ∀ n, (∀ i, i < n → ∃ a, P i a) → ∃ L : List α, L.length = n ∧ ∀ i a, L[i]? = some a → P i a := by
  intro n
  induction n with
  | zero => exact fun _ => ⟨[], rfl, by simp⟩
  | succ n ih =>
    intro h
    obtain ⟨L, hl, hL⟩ := ih fun i hi => h i (by omega)
    obtain ⟨a, ha⟩ := h n (by omega)
    refine ⟨L ++ [a], by simp [hl], fun i b hb => ?_⟩
    rcases Nat.lt_or_ge i n with hi | hi
    · rw [List.getElem?_append_left (by omega)] at hb
      exact hL i b hb
    · rw [List.getElem?_append_right (by omega), hl] at hb
      have : i - n = 0 := by
        have := (List.getElem?_eq_some_iff.1 hb).1
        simp at this; omega
      rw [this] at hb
      simp at hb
      obtain rfl : i = n := by omega
      subst hb
      exact ha
section
variable {α : Type} {cs : α → List Value} {k : Nat}
theorem flatG_inv (hk : ∀ a, (cs a).length = k) (L : List α) : ∀ (j : Nat) (u : Value), (L.flatMap cs)[j]? = some u → ∃ i r a, j = i * k + r ∧ r < k ∧ L[i]? = some a ∧ (cs a)[r]? = some u := by
  induction L with
  | nil => intro j u h; simp at h
  | cons a L ih =>
    intro j u h
    rw [List.flatMap_cons] at h
    have h7 := hk a
    rcases Nat.lt_or_ge j k with hj | hj
    · rw [List.getElem?_append_left (by omega)] at h
      exact ⟨0, j, a, by omega, hj, rfl, h⟩
    · rw [List.getElem?_append_right (by omega), h7] at h
      obtain ⟨i, r, b, e, hr, hb, hu⟩ := ih _ u h
      exact ⟨i + 1, r, b, by rw [Nat.add_mul]; omega, hr, by simpa using hb, hu⟩
theorem flatG_len (hk : ∀ a, (cs a).length = k) (L : List α) : (L.flatMap cs).length = L.length * k := by
  induction L with
  | nil => simp
  | cons a L ih => rw [List.flatMap_cons, List.length_append, ih, List.length_cons, hk a, Nat.add_mul]; omega
theorem flatG_get (hk : ∀ a, (cs a).length = k) (L : List α) (i j : Nat) (a : α) (u : Value) (ha : L[i]? = some a) (hu : (cs a)[j]? = some u) : (L.flatMap cs)[i * k + j]? = some u := by
  have hj : j < k := by have := (List.getElem?_eq_some_iff.1 hu).1; rw [hk] at this; exact this
  induction L generalizing i with
  | nil => simp at ha
  | cons b r ih =>
    rw [List.flatMap_cons]
    have hb := hk b
    cases i with
    | zero =>
      simp at ha; subst ha
      rw [Nat.zero_mul, Nat.zero_add, List.getElem?_append_left (by omega)]
      exact hu
    | succ i =>
      simp at ha
      rw [Nat.add_mul, List.getElem?_append_right (by omega)]
      have : i * k + 1 * k + j - (cs b).length = i * k + j := by omega
      rw [this]
      exact ih i ha
theorem flatG_one (h1 : ∀ a, ∀ u ∈ cs a, u.oneCell' = true) (L : List α) : ∀ u ∈ L.flatMap cs, u.oneCell' = true := by
  intro u hu
  obtain ⟨a, _, h⟩ := List.mem_flatMap.1 hu
  exact h1 a u h
end
theorem add_litG (ad : Addr) (x j : Nat) (hj : 0 < j) : ad.add (x + j) = ⟨(ad.add x).block, (ad.add x).off + j, none⟩ := by
  unfold Addr.add
  by_cases h : x = 0
  · subst h; simp; omega
  · rw [if_neg (by omega), if_neg h]; simp [Nat.add_assoc]
/-- The cells of item i of a row. -/
theorem rowG_at {α : Type} {cs : α → List Value} {k : Nat} (hk : ∀ a, (cs a).length = k) {w : World} {B n i : Nat} {A : Option Addr} {L : List α} (h : Reads w B k A n (L.flatMap cs)) (hl : L.length = n) (hi : i < n) :
    ∃ ad a, A = some ad ∧ ad.block < B ∧ L[i]? = some a ∧ (∀ u, (cs a)[0]? = some u → w.cell? (ad.add (i * k)) = some u) ∧ ∀ j u, 0 < j → (cs a)[j]? = some u → w.cell? ⟨(ad.add (i * k)).block, (ad.add (i * k)).off + j, none⟩ = some u := by
  obtain ⟨ad, e, hb, hc⟩ := h.2 (by omega)
  have hil : i < L.length := by omega
  refine ⟨ad, L[i], e, hb, List.getElem?_eq_getElem hil, fun u hu => ?_, fun j u hj hu => ?_⟩
  · have := hc _ _ (flatG_get hk L i 0 _ u (List.getElem?_eq_getElem hil) hu)
    simpa using this
  · have := hc _ _ (flatG_get hk L i j _ u (List.getElem?_eq_getElem hil) hu)
    rwa [add_litG ad _ j hj] at this
theorem weightsAll_mem {H : Type} {P : Program} {e : TypeId} : ∀ {l : List (DataW H)} {d : DataW H}, d ∈ l → ∀ n ∈ d.weights P e, n ∈ DataW.weightsAll P e l
  | d' :: r, d, hd, n, hn => by
    simp only [DataW.weightsAll, List.mem_append]
    rcases List.mem_cons.1 hd with rfl | h
    · exact Or.inl hn
    · exact Or.inr (weightsAll_mem h n hn)
/-- A slice, opened: its items, what each of them is, and what it weighs. -/
theorem slice_open {H : Type} {enc : TypeId × Value → H} {P : Program} {w : World} {held : Bool} {t e : TypeId} {α : Type} {cs : α → List Value} {k : Nat} {Ok Wt : α → Prop} (hk : ∀ a, (cs a).length = k) (hpos : 0 < k)
    (ht : P.underlying t = some (.slice e)) (hC : P.cellsOf e = k)
    (hel : ∀ fuel (l : List Value) x, DataW.trod enc P w 0 (fun _ => true) held fuel e l = some x → ∃ a, l = cs a ∧ Ok a ∧ ((∀ N ∈ x.1.weights P e, N ≤ reachBytes) → Wt a))
    {fuel : Nat} {v : Value} {x : DataW H × List MemPlace} (hf : DataW.trod enc P w 0 (fun _ => true) held fuel t [v] = some x) :
    ∃ (A : Option Addr) (n c : Nat) (L : List α), v = .slice A n c ∧ Reads w w.heap.size k A n (L.flatMap cs) ∧ L.length = n ∧ (∀ a ∈ L, Ok a) ∧ n ≤ c ∧ c ≤ 9223372036854775807 ∧
      ((∀ N ∈ x.1.weights P t, N ≤ reachBytes) → (∀ a ∈ L, Wt a) ∧ n * P.bytesOf e ≤ reachBytes) := by
  rcases DataW.trod_slice ht hf with ⟨e1, _⟩ | ⟨a, len, cap, elems, rest, fu, _, e1, hxx, _, hlc, hm, hlen, hel', _⟩
  · simp at e1
    subst e1
    exact ⟨none, 0, 0, [], rfl, ⟨by simp, fun h => absurd h (by omega)⟩, rfl, by simp, Nat.le_refl _, by omega, fun _ => ⟨by simp, by simp⟩⟩
  · simp at e1
    subst e1
    rw [hC] at hel'
    have hkk : ∀ i, i < len → ∃ q : α, (∀ j, j < k → w.cell? (a.add (i * k + j)) = (cs q)[j]?) ∧ Ok q ∧ ((∀ N ∈ DataW.weightsAll P e (elems.map (·.1)), N ≤ reachBytes) → Wt q) := by
      intro i hi
      have h1 := hel' i hi
      rw [List.getElem?_eq_getElem (by omega)] at h1
      cases hcs : w.cells? 0 (a.add (i * k)) k with
      | none => rw [hcs] at h1; cases h1
      | some l =>
        rw [hcs] at h1
        obtain ⟨q, rfl, hok, hkw⟩ := hel _ _ _ h1
        refine ⟨q, fun j hj => ?_, hok, fun hw => hkw fun N hN => hw N (weightsAll_mem (List.mem_map.2 ⟨_, List.getElem_mem _, rfl⟩) N hN)⟩
        have := (World.cells?_some hcs).2.2 j hj
        rwa [add_of_add] at this
    obtain ⟨L, hL, hLk⟩ := choose_list len hkk
    refine ⟨some a, len, cap, L, rfl, ⟨by rw [flatG_len hk, hL], fun h0 => ⟨a, rfl, ?_, ?_⟩⟩, hL, ?_, hlc, hm, ?_⟩
    · obtain ⟨q, hk0, _⟩ := hkk 0 h0
      have := hk0 0 hpos
      rw [Nat.zero_mul, Nat.zero_add, List.getElem?_eq_getElem (by rw [hk]; exact hpos)] at this
      have := cell_lt this
      rwa [block_of_add] at this
    · intro j u hu
      obtain ⟨i, r, q, rfl, hr, hki, hku⟩ := flatG_inv hk L j u hu
      rw [(hLk i q hki).1 r hr]
      exact hku
    · intro q hq
      obtain ⟨i, hi⟩ := List.getElem?_of_mem hq
      exact (hLk i q hi).2.1
    · intro hw
      simp only at hxx
      subst hxx
      simp only [DataW.weights, ht, List.mem_cons, List.mem_append] at hw
      refine ⟨fun q hq => ?_, ?_⟩
      · obtain ⟨i, hi⟩ := List.getElem?_of_mem hq
        exact (hLk i q hi).2.2 fun N hN => hw N (.inr (.inl hN))
      · refine Nat.le_trans (Nat.mul_le_mul_right _ ?_) (hw _ (.inl rfl))
        rw [List.length_map, hlen]
        exact Nat.le_add_right _ _
/-- The same of an argument. -/
theorem slice_arg {H : Type} {enc : TypeId × Value → H} {P : Program} {w : World} {r : Reach} {b : Nat} {held : Bool} {t e : TypeId} {α : Type} {cs : α → List Value} {k : Nat} {Ok Wt : α → Prop} (hk : ∀ a, (cs a).length = k) (hpos : 0 < k)
    (ht : P.underlying t = some (.slice e)) (hC : P.cellsOf e = k)
    (hel : ∀ fuel (l : List Value) x, DataW.trod enc P w 0 (fun _ => true) held fuel e l = some x → ∃ a, l = cs a ∧ Ok a ∧ ((∀ N ∈ x.1.weights P e, N ≤ reachBytes) → Wt a))
    {v : Value} {d : DataW H} {p : List MemPlace} (hv : Value.okWide P w r b t v) (h : DataW.Trod enc P w 0 (fun _ => true) held t v d p) :
    ∃ (A : Option Addr) (n c : Nat) (L : List α), v = .slice A n c ∧ Reads w w.heap.size k A n (L.flatMap cs) ∧ L.length = n ∧ (∀ a ∈ L, Ok a) ∧ n ≤ c ∧ c ≤ 9223372036854775807 ∧
      ((∀ N ∈ d.weights P t, N ≤ reachBytes) → (∀ a ∈ L, Wt a) ∧ n * P.bytesOf e ≤ reachBytes) := by
  obtain ⟨A, n, c, rfl⟩ := okWide_slice ht hv
  obtain ⟨fuel, hf⟩ := h
  exact slice_open hk hpos ht hC hel hf
/-- Its bytes, opened. -/
theorem bytes_open {H : Type} {enc : TypeId × Value → H} {P : Program} {w : World} {held : Bool} {t e : TypeId} (ht : P.underlying t = some (.slice e)) (he : P.underlying e = some (.int .u8)) (hc : P.cellsOf e = 1) (hb : P.bytesOf e = 1)
    {fuel : Nat} {v : Value} {x : DataW H × List MemPlace} (h : DataW.trod enc P w 0 (fun _ => true) held fuel t [v] = some x) :
    ∃ (A : Option Addr) (n c : Nat) (zs : List Int), v = .slice A n c ∧ (Reads w w.heap.size 1 A n (u8s zs) ∧ Oct zs ∧ n ≤ c ∧ c ≤ 9223372036854775807) ∧ ((∀ N ∈ x.1.weights P t, N ≤ reachBytes) → c ≤ reachBytes) := by
  rcases open_ints ht he hc h with ⟨hcs, _⟩ | ⟨ax, l, c, zs, hcs, _, hl, hm, hz, hx, hcell, hwz⟩
  · injection hcs with hcs _; subst hcs
    exact ⟨none, 0, 0, [], rfl, isRow_u8 (zs := []) (.inl ⟨rfl, rfl, rfl, rfl⟩), fun _ => Nat.zero_le _⟩
  · injection hcs with hcs _; subst hcs
    have hzc : zs.length = c := by simpa using hz
    refine ⟨_, _, _, zs.take l, rfl, isRow_u8 (zs := zs) (.inr ⟨_, rfl, hl, hm, hzc, hcell, hwz⟩), fun hw => ?_⟩
    rw [hx] at hw
    exact hw c (by
      simp only [DataW.weights, ht, List.mem_cons]
      left
      rw [hb]
      simp [lits]
      omega)
end Go.Proofs.Ytpncbggjngamgaa
