/-
  What an encoded packet's bytes are: plain laws.
-/
import Derived.Test.YtbkejlalbjomkaaPkF
import Derived.Test.YtbkejlalbjomkaaSumMath2
namespace Go.Proofs.Ytbkejlalbjomkaa
set_option linter.unusedVariables false
open Go.RowKit

theorem list24 {l : List Int} (h : 24 ≤ l.length) : ∃ x0 x1 x2 x3 x4 x5 x6 x7 x8 x9 x10 x11 x12 x13 x14 x15 x16 x17 x18 x19 x20 x21 x22 x23 T, l = x0 :: x1 :: x2 :: x3 :: x4 :: x5 :: x6 :: x7 :: x8 :: x9 :: x10 :: x11 :: x12 :: x13 :: x14 :: x15 :: x16 :: x17 :: x18 :: x19 :: x20 :: x21 :: x22 :: x23 :: T := by
  obtain ⟨x0, x1, x2, x3, x4, x5, x6, x7, e1⟩ := take8_of (l := l.take 8) (by rw [List.length_take]; omega)
  obtain ⟨x8, x9, x10, x11, x12, x13, x14, x15, e2⟩ := take8_of (l := (l.drop 8).take 8) (by rw [List.length_take, List.length_drop]; omega)
  obtain ⟨x16, x17, x18, x19, x20, x21, x22, x23, e3⟩ := take8_of (l := (l.drop 16).take 8) (by rw [List.length_take, List.length_drop]; omega)
  refine ⟨x0, x1, x2, x3, x4, x5, x6, x7, x8, x9, x10, x11, x12, x13, x14, x15, x16, x17, x18, x19, x20, x21, x22, x23, l.drop 24, ?_⟩
  have a1 : l = l.take 8 ++ ((l.drop 8).take 8 ++ ((l.drop 16).take 8 ++ l.drop 24)) := by
    have h3 : (l.drop 16).take 8 ++ l.drop 24 = l.drop 16 := by
      have := List.take_append_drop 8 (l.drop 16)
      rwa [List.drop_drop] at this
    rw [h3]
    have h2 : (l.drop 8).take 8 ++ l.drop 16 = l.drop 8 := by
      have := List.take_append_drop 8 (l.drop 8)
      rwa [List.drop_drop] at this
    rw [h2]
    exact (List.take_append_drop 8 l).symm
  rw [e1, e2, e3] at a1
  exact a1
/-- A packet's head. -/
def hd24 (p : PA) (a : Au) (s1 s2 : Int) : List Int := [2, p.typ, (encL p a : Int) / 256 % 256, (encL p a : Int) % 256, p.router / 16777216, p.router / 65536 % 256, p.router / 256 % 256, p.router % 256, p.area / 16777216, p.area / 65536 % 256, p.area / 256 % 256, p.area % 256, s1, s2, a.k / 256 % 256, a.k % 256, a.d0, a.d1, a.d2, a.d3, a.d4, a.d5, a.d6, a.d7]
theorem pb_two (v : Int) : pb v 2 = [v / 256 % 256, v % 256] := by
  simp [pb, List.range_succ]
theorem encB1_form (p : PA) (a : Au) : encB1 p a = hd24 p a 0 0 ++ partB p := by
  unfold encB1
  rw [pb_two]
  rfl
def sHi (p : PA) (a : Au) : Int := if a.k = 2 then 0 else encS p a / 256
def sLo (p : PA) (a : Au) : Int := if a.k = 2 then 0 else encS p a % 256
theorem encB_form (p : PA) (a : Au) : encB p a = hd24 p a (sHi p a) (sLo p a) ++ partB p := by
  unfold encB sHi sLo
  split
  · exact encB1_form p a
  · rw [encB1_form]
    rfl
theorem sumd_hd (p : PA) (a : Au) (s1 s2 : Int) (T : List Int) : sumd (hd24 p a s1 s2 ++ T) = (hd24 p a s1 s2).take 16 ++ T := rfl
theorem hd24_len (p : PA) (a : Au) (s1 s2 : Int) (T : List Int) : (hd24 p a s1 s2 ++ T).length = 24 + T.length := by simp [hd24]; omega
theorem encL_part (p : PA) (a : Au) : encL p a = 24 + (partB p).length := by unfold encL; rw [List.length_append, encH_len]
theorem enc_pkLen (p : PA) (a : Au) (h : EncOk p a) : pkLen (encB p a) = ((encL p a : Int), 0) := by
  have h1 := h.typ
  have h2 := h.len
  have h3 := encL_ge p a
  have h4 := encL_part p a
  rw [encB_form]
  unfold pkLen
  have e0 : (hd24 p a (sHi p a) (sLo p a) ++ partB p).getD 0 0 = 2 := rfl
  have e1 : (hd24 p a (sHi p a) (sLo p a) ++ partB p).getD 1 0 = p.typ := rfl
  have e2 : (hd24 p a (sHi p a) (sLo p a) ++ partB p).getD 2 0 = (encL p a : Int) / 256 % 256 := rfl
  have e3 : (hd24 p a (sHi p a) (sLo p a) ++ partB p).getD 3 0 = (encL p a : Int) % 256 := rfl
  rw [e0, e1, e2, e3, hd24_len]
  have e4 : (encL p a : Int) / 256 % 256 * 256 + (encL p a : Int) % 256 = encL p a := by omega
  rw [e4]
  rw [if_neg (by omega), if_neg (by decide), if_neg (by omega), if_neg (by omega)]
theorem foldS_iff {t : Int} (h : 0 ≤ t) : foldS t = 65535 ↔ 0 < t ∧ t % 65535 = 0 := by
  unfold foldS
  split <;> omega
theorem take_all {l : List Int} {n : Nat} (h : l.length = n) : l.take n = l := List.take_of_length_le (by omega)
theorem enc_pkB (p : PA) (a : Au) (h : EncOk p a) : pkB (encB p a) = encB p a := by
  unfold pkB
  rw [enc_pkLen p a h, Int.toNat_natCast]
  exact take_all (encB_len p a)
/-- The sum that was laid is right. -/
theorem enc_right (p : PA) (a : Au) (h : EncOk p a) (hk : a.k ≠ 2) (ho : Oct (encB1 p a)) : pkRight (encB p a) = true := by
  unfold pkRight
  rw [enc_pkLen p a h]
  simp only [Int.toNat_natCast, decide_true, Bool.true_and]
  rw [take_all (encB_len p a)]
  have e : sumd (encB p a) = ((sumd (encB1 p a)).set (2 * 6) (encS p a / 256)).set (2 * 6 + 1) (encS p a % 256) := by
    unfold encB
    rw [if_neg hk, encB1_form]
    rfl
  unfold sumOk
  rw [e]
  refine plain_right ho.sumd ?_ ?_ rfl
  · rw [encB1_form]; rfl
  · rw [encB1_form]; rfl
/-- What is right stays so where Data is another one. -/
theorem data_same {xs : List Int} (h24 : 24 ≤ xs.length) (D : List Int) (hD : D.length = 8) : pkLen (pat xs 16 D 8) = pkLen xs ∧ ((pkLen xs).2 = 0 → pkRight (pat xs 16 D 8) = pkRight xs) := by
  obtain ⟨x0, x1, x2, x3, x4, x5, x6, x7, x8, x9, x10, x11, x12, x13, x14, x15, x16, x17, x18, x19, x20, x21, x22, x23, T, rfl⟩ := list24 h24
  obtain ⟨d0, d1, d2, d3, d4, d5, d6, d7, rfl⟩ := take8_of hD
  have hl : pkLen (pat (x0 :: x1 :: x2 :: x3 :: x4 :: x5 :: x6 :: x7 :: x8 :: x9 :: x10 :: x11 :: x12 :: x13 :: x14 :: x15 :: x16 :: x17 :: x18 :: x19 :: x20 :: x21 :: x22 :: x23 :: T) 16 [d0, d1, d2, d3, d4, d5, d6, d7] 8) = pkLen (x0 :: x1 :: x2 :: x3 :: x4 :: x5 :: x6 :: x7 :: x8 :: x9 :: x10 :: x11 :: x12 :: x13 :: x14 :: x15 :: x16 :: x17 :: x18 :: x19 :: x20 :: x21 :: x22 :: x23 :: T) := by
    rfl
  refine ⟨hl, fun h => ?_⟩
  obtain ⟨k1, k2⟩ := pkLen_ok h
  unfold pkRight
  rw [hl]
  obtain ⟨m, hm⟩ : ∃ m : Nat, (pkLen (x0 :: x1 :: x2 :: x3 :: x4 :: x5 :: x6 :: x7 :: x8 :: x9 :: x10 :: x11 :: x12 :: x13 :: x14 :: x15 :: x16 :: x17 :: x18 :: x19 :: x20 :: x21 :: x22 :: x23 :: T)).1.toNat = m + 24 := ⟨(pkLen (x0 :: x1 :: x2 :: x3 :: x4 :: x5 :: x6 :: x7 :: x8 :: x9 :: x10 :: x11 :: x12 :: x13 :: x14 :: x15 :: x16 :: x17 :: x18 :: x19 :: x20 :: x21 :: x22 :: x23 :: T)).1.toNat - 24, by omega⟩
  rw [hm]
  rfl
theorem sumd_set_lo {l : List Int} {i : Nat} (x : Int) (hi : i < 16) (hl : 24 ≤ l.length) : sumd (l.set i x) = (sumd l).set i x := by
  unfold sumd
  rw [List.take_set, List.drop_set_of_lt (by omega), List.set_append_left _ _ (by rw [List.length_take]; omega)]
theorem sumd_set_hi {l : List Int} {i : Nat} (x : Int) (hi : 24 ≤ i) (hl : 24 ≤ l.length) : sumd (l.set i x) = (sumd l).set (i - 8) x := by
  unfold sumd
  have e : (l.take 16).length = 16 := by rw [List.length_take]; omega
  rw [List.take_set_of_le (by omega), List.drop_set, if_neg (by omega), List.set_append_right _ _ (by omega), e]
  congr 2
theorem sumd_at_lo {l : List Int} {i : Nat} (hi : i < 16) (hl : 24 ≤ l.length) : (sumd l)[i]? = l[i]? := by
  unfold sumd
  rw [List.getElem?_append_left (by rw [List.length_take]; omega), List.getElem?_take, if_pos hi]
theorem sumd_at_hi {l : List Int} {i : Nat} (hi : 24 ≤ i) (hl : 24 ≤ l.length) : (sumd l)[i - 8]? = l[i]? := by
  unfold sumd
  have e : (l.take 16).length = 16 := by rw [List.length_take]; omega
  rw [List.getElem?_append_right (by omega), e, List.getElem?_drop]
  congr 1
  omega
theorem pkLen_set {l : List Int} {i : Nat} (x : Int) (hi : 4 ≤ i) : pkLen (l.set i x) = pkLen l := by
  have e : ∀ j, j < 4 → (l.set i x).getD j 0 = l.getD j 0 := fun j hj => by
    simp only [List.getD_eq_getElem?_getD]
    rw [List.getElem?_set_ne (by omega)]
  unfold pkLen
  rw [List.length_set, e 0 (by omega), e 1 (by omega), e 2 (by omega), e 3 (by omega)]
theorem encB_oct {p : PA} {a : Au} (h : EncOk p a) (ho : Oct (encB1 p a)) : Oct (encB p a) := by
  have := encS_range p a ho
  unfold encB
  split
  · exact ho
  · exact (ho.set 12 (by omega)).set 13 (by omega)
theorem ws_ge : ∀ {l : List Int} {k : Nat} {x y : Int}, Oct l → l[2 * k]? = some x → l[2 * k + 1]? = some y → 256 * x + y ≤ ws true l
  | [], k, x, y, ho, h, h' => by simp at h
  | [a], 0, x, y, ho, h, h' => by simp at h'
  | [a], k + 1, x, y, ho, h, h' => by simp [Nat.mul_add] at h
  | a :: b :: r, 0, x, y, ho, h, h' => by
    simp at h h'; subst h h'
    have hr : Oct r := fun k z hz => ho (k + 2) z (by simpa using hz)
    have := (ws_nonneg hr true).1
    simp [ws]
    omega
  | a :: b :: r, k + 1, x, y, ho, h, h' => by
    have e : 2 * (k + 1) = 2 * k + 2 := by omega
    rw [e] at h h'
    simp at h
    have h2 : r[2 * k + 1]? = some y := by simpa using h'
    have hr : Oct r := fun k z hz => ho (k + 2) z (by simpa using hz)
    have := ws_ge hr h h2
    have h0 := ho 0 a rfl
    have h1 := ho 1 b rfl
    simp only [ws]
    omega
theorem ws_ge2 {l : List Int} {k : Nat} {z x y : Int} (ho : Oct l) (h0 : l[0]? = some z) (hk : 1 ≤ k) (h : l[2 * k]? = some x) (h' : l[2 * k + 1]? = some y) : 256 * z + (256 * x + y) ≤ ws true l := by
  obtain ⟨j, rfl⟩ : ∃ j, k = j + 1 := ⟨k - 1, by omega⟩
  have e : 2 * (j + 1) = 2 * j + 2 := by omega
  rw [e] at h h'
  match l, h0 with
  | [a], h0 => simp at h
  | a :: b :: r, h0 =>
    simp at h h0
    have h2 : r[2 * j + 1]? = some y := by simpa using h'
    have hr : Oct r := fun k z hz => ho (k + 2) z (by simpa using hz)
    have := ws_ge hr h h2
    have h1 := ho 1 b rfl
    subst h0
    simp only [ws]
    omega
theorem two_changed {p : PA} {a : Au} (h : EncOk p a) (hk : a.k ≠ 2) (ho : Oct (encB1 p a)) {i : Nat} (hi : 4 ≤ i) (he : i % 2 = 0) (hn : i + 1 < encL p a) (hd : i < 16 ∨ 24 ≤ i) {u v x y : Int}
    (hu : (encB p a)[i]? = some u) (hv : (encB p a)[i + 1]? = some v) (hx : 0 ≤ x ∧ x ≤ 255) (hy : 0 ≤ y ∧ y ≤ 255) :
    pkRight (((encB p a).set i x).set (i + 1) y) = decide ((u * 256 + v) % 65535 = (x * 256 + y) % 65535) := by
  have hr := enc_right p a h hk ho
  have hO := encB_oct h ho
  have hl : (encB p a).length = encL p a := encB_len p a
  have h24 := encL_ge p a
  have hfirst : ∃ T, encB p a = 2 :: T := ⟨_, by rw [encB_form]; rfl⟩
  have hln := enc_pkLen p a h
  generalize encB p a = b at *
  have key : ∃ k, 2 * k < (sumd b).length ∧ (sumd b)[2 * k]? = some u ∧ (sumd b)[2 * k + 1]? = some v ∧ sumd ((b.set i x).set (i + 1) y) = ((sumd b).set (2 * k) x).set (2 * k + 1) y ∧ 1 ≤ k := by
    rcases hd with hd | hd
    · refine ⟨i / 2, ?_, ?_, ?_, ?_, by omega⟩
      · have e : 2 * (i / 2) = i := by omega
        rw [e]
        have := sumd_at_lo (l := b) hd (by omega)
        rw [hu] at this
        exact (List.getElem?_eq_some_iff.1 this).1
      · rw [show 2 * (i / 2) = i by omega, sumd_at_lo hd (by omega)]; exact hu
      · rw [show 2 * (i / 2) + 1 = i + 1 by omega, sumd_at_lo (by omega) (by omega)]; exact hv
      · rw [show 2 * (i / 2) = i by omega, sumd_set_lo _ (by omega) (by rw [List.length_set]; omega), sumd_set_lo _ hd (by omega)]
    · refine ⟨(i - 8) / 2, ?_, ?_, ?_, ?_, by omega⟩
      · rw [show 2 * ((i - 8) / 2) = i - 8 by omega]
        have := sumd_at_hi (l := b) hd (by omega)
        rw [hu] at this
        exact (List.getElem?_eq_some_iff.1 this).1
      · rw [show 2 * ((i - 8) / 2) = i - 8 by omega, sumd_at_hi hd (by omega)]; exact hu
      · rw [show 2 * ((i - 8) / 2) + 1 = i + 1 - 8 by omega, sumd_at_hi (by omega) (by omega)]; exact hv
      · rw [show 2 * ((i - 8) / 2) = i - 8 by omega, show i - 8 + 1 = i + 1 - 8 by omega, sumd_set_hi _ (by omega) (by rw [List.length_set]; omega), sumd_set_hi _ hd (by omega)]
  obtain ⟨k, hk0, h1, h2, h3, hk1⟩ := key
  have hlen' : ((b.set i x).set (i + 1) y).length = encL p a := by rw [List.length_set, List.length_set, hl]
  have hS : sumOk (sumd b) = true := by
    unfold pkRight at hr
    rw [hln] at hr
    simp only [Int.toNat_natCast, decide_true, Bool.true_and] at hr
    rwa [take_all hl] at hr
  unfold pkRight
  rw [pkLen_set _ (by omega), pkLen_set _ hi, hln]
  simp only [Int.toNat_natCast, decide_true, Bool.true_and]
  rw [take_all hlen', h3]
  unfold sumOk at hS ⊢
  rw [ws_set h1 h2]
  have hpos := (ws_nonneg hO.sumd true).1
  have hS' := (foldS_iff hpos).1 (by simpa using hS)
  have hOu := hO _ _ hu
  have hOv := hO _ _ hv
  have hbig : 512 + u * 256 + v ≤ ws true (sumd b) := by
    obtain ⟨T, hT⟩ := hfirst
    have h00 : (sumd b)[0]? = some 2 := by rw [hT]; rfl
    have := ws_ge2 hO.sumd h00 hk1 h1 h2
    omega
  have hnn : 0 ≤ ws true (sumd b) + 256 * (x - u) + (y - v) := by omega
  apply Bool.eq_iff_iff.2
  rw [beq_iff_eq, foldS_iff hnn, decide_eq_true_iff]
  omega
end Go.Proofs.Ytbkejlalbjomkaa
