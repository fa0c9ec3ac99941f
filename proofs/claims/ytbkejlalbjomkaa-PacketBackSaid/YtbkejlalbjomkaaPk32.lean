/-
  A packet goes into bytes and back; what is read is written as it was: plain laws.
-/
import Derived.Test.YtbkejlalbjomkaaPk31
namespace Go.Proofs.Ytbkejlalbjomkaa
set_option linter.unusedVariables false
open Go.RowKit

theorem two_at {ys : List Int} (ho : Oct ys) {p : Nat} (h : p + 2 ≤ ys.length) : numB (be ((ys.drop p).take 2)) 2 = (ys.drop p).take 2 := by
  have hl : ((ys.drop p).take 2).length = 2 := by rw [List.length_take, List.length_drop]; omega
  have ho2 := take_oct ho p 2
  generalize (ys.drop p).take 2 = l at hl ho2
  match l, hl with
  | [a, b], _ => exact two_of (ho2 0 a rfl) (ho2 1 b rfl)
theorem one_at {ys : List Int} {p : Nat} (h : p + 1 ≤ ys.length) : [be ((ys.drop p).take 1)] = (ys.drop p).take 1 := by
  have hl : ((ys.drop p).take 1).length = 1 := by rw [List.length_take, List.length_drop]; omega
  generalize (ys.drop p).take 1 = l at hl
  match l, hl with
  | [a], _ => simp [be]
theorem glue (ys : List Int) (p i j : Nat) : (ys.drop p).take i ++ (ys.drop (p + i)).take j = (ys.drop p).take (i + j) := by rw [List.take_add, List.drop_drop]
theorem glue_end (ys : List Int) (p i : Nat) : (ys.drop p).take i ++ ys.drop (p + i) = ys.drop p := by rw [← List.drop_drop, List.take_append_drop]
theorem statesB_hb (L : List SE) : statesB L = (L.map SE.hb).flatMap hbB := by
  unfold statesB
  rw [List.flatMap_map]
  rfl
theorem PIs.typ {ys : List Int} {t r a : Int} {p : PA} (h : PIs ys t r a p) : p.typ = t ∧ p.router = r ∧ p.area = a := by
  rcases h with ⟨h, e⟩ | ⟨h, e⟩ | ⟨h, e⟩ | ⟨h, _, _, e⟩ | ⟨h, e⟩ <;> rw [e] <;> exact ⟨rfl, rfl, rfl⟩
theorem partB_at {ys : List Int} {t r a : Int} {p : PA} (ho : Oct ys) (h24 : 24 ≤ ys.length) (hk : partOk ys t) (h : PIs ys t r a p) : partB p = ys.drop 24 := by
  have ht := h.typ.1
  unfold partB
  rcases h with ⟨rfl, e⟩ | ⟨rfl, e⟩ | ⟨rfl, e⟩ | ⟨rfl, hu, hl, e⟩ | ⟨rfl, e⟩
  · obtain ⟨k1, k2⟩ := hk.h1 rfl
    rw [if_pos ht, e]
    show numB (be ((ys.drop 24).take 4)) 4 ++ numB (be ((ys.drop (24 + 4)).take 2)) 2 ++ ([be ((ys.drop (24 + 6)).take 1)] ++ [be ((ys.drop (24 + 7)).take 1)]) ++ numB (be ((ys.drop (24 + 8)).take 4)) 4 ++ numB (be ((ys.drop (24 + 12)).take 4)) 4 ++ numB (be ((ys.drop (24 + 16)).take 4)) 4 ++ wordsB (wordsAt ys (24 + 20) ((ys.length - (24 + 20)) / 4)) = ys.drop 24
    rw [word_at ho (by omega), two_at ho (by omega), one_at (by omega), one_at (by omega), word_at ho (by omega), word_at ho (by omega), word_at ho (by omega), wordsB_at ho (by omega)]
    rw [← List.append_assoc, glue ys 24 4 2, glue ys 24 6 1, glue ys 24 7 1, glue ys 24 8 4, glue ys 24 12 4, glue ys 24 16 4, glue_end ys 24 20]
  · obtain ⟨k1, k2⟩ := hk.h2 rfl
    rw [if_neg (by omega), if_pos ht, e]
    show numB (be ((ys.drop 24).take 2)) 2 ++ ([be ((ys.drop (24 + 2)).take 1)] ++ [be ((ys.drop (24 + 3)).take 1)]) ++ numB (be ((ys.drop (24 + 4)).take 4)) 4 ++ hdsB (hdsAt ys (24 + 8) ((ys.length - (24 + 8)) / 20)) = ys.drop 24
    rw [two_at ho (by omega), one_at (by omega), one_at (by omega), word_at ho (by omega), hdsB_at ho (by omega)]
    rw [← List.append_assoc, glue ys 24 2 1, glue ys 24 3 1, glue ys 24 4 4, glue_end ys 24 8]
  · obtain ⟨k1, k2⟩ := hk.h3 rfl
    rw [if_neg (by omega), if_neg (by omega), if_pos ht, e]
    exact keysB_at ho (by omega)
  · obtain ⟨k1, _⟩ := hk.h4 rfl
    obtain ⟨i1, i2, i3⟩ := upS_some _ _ _ (ho.drop _) hu
    rw [if_neg (by omega), if_neg (by omega), if_neg (by omega), if_pos ht]
    show numB p.sn 4 ++ statesB p.ss = ys.drop 24
    have hb := be_at ho 24 4
    rw [statesB_hb, i2]
    rw [List.length_map, hl] at i1
    have : ((p.sn : Nat) : Int) = be ((ys.drop 24).take 4) := by omega
    rw [this, word_at ho (by omega), glue_end]
  · have k := hk.h5 rfl
    rw [if_neg (by omega), if_neg (by omega), if_neg (by omega), if_neg (by omega), e]
    exact hdsB_at ho (by omega)
theorem pkLen_le {xs : List Int} (ho : Oct xs) (h : (pkLen xs).2 = 0) : (pkLen xs).1 ≤ 65535 ∧ xs.getD 0 0 = 2 ∧ (pkLen xs).1 = xs.getD 2 0 * 256 + xs.getD 3 0 := by
  have hl := (pkLen_ok h)
  have b : ∀ i, xs.getD i 0 ≤ 255 := fun i => by
    rw [List.getD_eq_getElem?_getD]
    cases hi : xs[i]? with
    | none => simp
    | some v => have := ho i v hi; simpa using this.2
  have b2 := b 2
  have b3 := b 3
  unfold pkLen at h ⊢
  split at h
  · cases h
  · split at h
    · cases h
    · split at h
      · cases h
      · split at h
        · cases h
        · rename_i h1 h2 h3 h4
          rw [if_neg h1, if_neg h2, if_neg h3, if_neg h4]
          refine ⟨by simp only; omega, by omega, rfl⟩
theorem pkB_len {xs : List Int} (h : (pkLen xs).2 = 0) : ((pkB xs).length : Int) = (pkLen xs).1 := by
  have := pkLen_ok h
  unfold pkB
  rw [List.length_take]
  omega
theorem PIs.alone {ys : List Int} {t r a : Int} {p : PA} (h : PIs ys t r a p) : p.alone := by
  rcases h with ⟨rfl, e⟩ | ⟨rfl, e⟩ | ⟨rfl, e⟩ | ⟨rfl, _, _, e⟩ | ⟨rfl, e⟩ <;> rw [e]
  · exact ⟨fun _ => rfl, fun h => (h ⟨rfl, rfl, rfl, rfl, rfl⟩).elim, fun h => absurd h (Nat.lt_irrefl 0), fun h => absurd h (Nat.lt_irrefl 0), fun h => absurd h (Nat.lt_irrefl 0)⟩
  · exact ⟨fun h => (h ⟨rfl, rfl, rfl, rfl, rfl, rfl, rfl, rfl⟩).elim, fun _ => rfl, fun h => absurd h (Nat.lt_irrefl 0), fun h => absurd h (Nat.lt_irrefl 0), fun h => absurd h (Nat.lt_irrefl 0)⟩
  · exact ⟨fun h => (h ⟨rfl, rfl, rfl, rfl, rfl, rfl, rfl, rfl⟩).elim, fun h => (h ⟨rfl, rfl, rfl, rfl, rfl⟩).elim, fun _ => rfl, fun h => absurd h (Nat.lt_irrefl 0), fun h => absurd h (Nat.lt_irrefl 0)⟩
  · exact ⟨fun h => (h ⟨rfl, rfl, rfl, rfl, rfl, rfl, rfl, rfl⟩).elim, fun h => (h ⟨rfl, rfl, rfl, rfl, rfl⟩).elim, fun h => absurd h (Nat.lt_irrefl 0), fun _ => rfl, fun h => absurd h (Nat.lt_irrefl 0)⟩
  · exact ⟨fun h => (h ⟨rfl, rfl, rfl, rfl, rfl, rfl, rfl, rfl⟩).elim, fun h => (h ⟨rfl, rfl, rfl, rfl, rfl⟩).elim, fun h => absurd h (Nat.lt_irrefl 0), fun h => absurd h (Nat.lt_irrefl 0), fun _ => rfl⟩
theorem PIs.lens {ys : List Int} {t r a : Int} {p : PA} (ho : Oct ys) (h : PIs ys t r a p) (hn : ∀ s ∈ p.ss, s.B.length = s.n) : ∀ s ∈ p.ss, s.h.len = s.n + 20 := by
  intro s hs
  have hss : (∃ M, upS M (ys.drop (24 + 4)) = some (p.ss.map SE.hb)) ∨ p.ss = [] := by
    rcases h with ⟨rfl, e⟩ | ⟨rfl, e⟩ | ⟨rfl, e⟩ | ⟨rfl, hu, _, e⟩ | ⟨rfl, e⟩
    · exact .inr (by rw [e]; rfl)
    · exact .inr (by rw [e]; rfl)
    · exact .inr (by rw [e]; rfl)
    · exact .inl ⟨_, hu⟩
    · exact .inr (by rw [e]; rfl)
  rcases hss with ⟨M, hu⟩ | e
  · obtain ⟨_, _, i3⟩ := upS_some _ _ _ (ho.drop _) hu
    have := (i3 s.hb (List.mem_map.2 ⟨s, hs, rfl⟩)).2.1
    have e2 := hn s hs
    show s.h.len = _
    have e3 : s.hb.2 = s.B := rfl
    have e4 : s.hb.1 = s.h := rfl
    rw [e3, e4, e2] at this
    exact this
  · rw [e] at hs
    simp at hs
/-- What was decoded may be encoded, and is as long. -/
theorem dec_enc {xs : List Int} {p : PA} (ho : Oct xs) (hd : DecOk xs) (h : PIs (pkB xs) (tyAt xs) (be ((xs.drop 4).take 4)) (be ((xs.drop 8).take 4)) p) (hn : ∀ s ∈ p.ss, s.B.length = s.n) :
    EncOk p (auAt xs) ∧ (encL p (auAt xs) : Int) = (pkLen xs).1 ∧ partB p = (pkB xs).drop 24 := by
  have h1 := pkLen_ok hd.len
  have h2 := pkLen_le ho hd.len
  have h3 := pkB_len hd.len
  have ho2 : Oct (pkB xs) := ho.take _
  have hp := partB_at ho2 (by omega) hd.part h
  have hL : (encL p (auAt xs) : Int) = (pkLen xs).1 := by
    rw [encL_part, hp, List.length_drop]
    omega
  refine ⟨⟨?_, h.alone, h.lens ho2 hn, hd.kind, by omega⟩, hL, hp⟩
  rw [h.typ.1]
  exact pkLen_type hd.len
theorem head_back {xs : List Int} {p : PA} (ho : Oct xs) (hd : DecOk xs) (h : PIs (pkB xs) (tyAt xs) (be ((xs.drop 4).take 4)) (be ((xs.drop 8).take 4)) p) (hn : ∀ s ∈ p.ss, s.B.length = s.n) (s1 s2 : Int) :
    hd24 p (auAt xs) s1 s2 ++ partB p = ((pkB xs).set 12 s1).set 13 s2 := by
  obtain ⟨_, hL, hpb⟩ := dec_enc ho hd h hn
  obtain ⟨ht, hr, ha⟩ := h.typ
  have h1 := pkLen_ok hd.len
  obtain ⟨_, g0, g2⟩ := pkLen_le ho hd.len
  have h3 := pkB_len hd.len
  have ho2 : Oct (pkB xs) := ho.take _
  have bt : ∀ a k, a + k ≤ 24 → (xs.drop a).take k = ((pkB xs).drop a).take k := fun a k hak => by
    unfold pkB
    rw [bytes_at (by omega)]
  have gd : ∀ i, i < 24 → xs.getD i 0 = (pkB xs).getD i 0 := fun i hi => by
    unfold pkB
    rw [List.getD_eq_getElem?_getD, List.getD_eq_getElem?_getD, List.getElem?_take, if_pos (by omega)]
  rw [gd 0 (by omega)] at g0
  rw [gd 2 (by omega), gd 3 (by omega)] at g2
  have eT : tyAt xs = be (((pkB xs).drop 1).take 1) := by unfold tyAt; rw [bt 1 1 (by omega)]
  have eA : auAt xs = auL (be (((pkB xs).drop 14).take 2)) (((pkB xs).drop 16).take 8) := by unfold auAt kdAt; rw [bt 14 2 (by omega), bt 16 8 (by omega)]
  rw [eT] at ht
  rw [bt 4 4 (by omega)] at hr
  rw [bt 8 4 (by omega)] at ha
  obtain ⟨y0, y1, y2, y3, y4, y5, y6, y7, y8, y9, y10, y11, y12, y13, y14, y15, y16, y17, y18, y19, y20, y21, y22, y23, T, hy⟩ := list24 (l := pkB xs) (by omega)
  rw [hy] at ht hr ha hpb ho2 g0 g2 h3 eA ⊢
  rw [eA] at hL ⊢
  have b0 := ho2 0 y0 rfl
  have b1 := ho2 1 y1 rfl
  have b2 := ho2 2 y2 rfl
  have b3 := ho2 3 y3 rfl
  have b4 := ho2 4 y4 rfl
  have b5 := ho2 5 y5 rfl
  have b6 := ho2 6 y6 rfl
  have b7 := ho2 7 y7 rfl
  have b8 := ho2 8 y8 rfl
  have b9 := ho2 9 y9 rfl
  have b10 := ho2 10 y10 rfl
  have b11 := ho2 11 y11 rfl
  have b12 := ho2 12 y12 rfl
  have b13 := ho2 13 y13 rfl
  have b14 := ho2 14 y14 rfl
  have b15 := ho2 15 y15 rfl
  have b16 := ho2 16 y16 rfl
  have b17 := ho2 17 y17 rfl
  have b18 := ho2 18 y18 rfl
  have b19 := ho2 19 y19 rfl
  have b20 := ho2 20 y20 rfl
  have b21 := ho2 21 y21 rfl
  have b22 := ho2 22 y22 rfl
  have b23 := ho2 23 y23 rfl
  have v1 : p.typ = y1 := by rw [ht]; simp [be]
  have v2 : p.router = ((y4 * 256 + y5) * 256 + y6) * 256 + y7 := by rw [hr]; simp [be]
  have v3 : p.area = ((y8 * 256 + y9) * 256 + y10) * 256 + y11 := by rw [ha]; simp [be]
  have v4 : y0 = 2 := by simpa using g0
  have v5 : (pkLen xs).1 = y2 * 256 + y3 := by simpa using g2
  have e : ∀ A : Au, A = auL (be [y14, y15]) [y16, y17, y18, y19, y20, y21, y22, y23] → (encL p A : Int) = y2 * 256 + y3 → hd24 p A s1 s2 = [y0, y1, y2, y3, y4, y5, y6, y7, y8, y9, y10, y11, s1, s2, y14, y15, y16, y17, y18, y19, y20, y21, y22, y23] := fun A hA hl => by
    have vk : A.k = y14 * 256 + y15 := by rw [hA]; simp [auL, be]
    have w0 : (encL p A : Int) / 256 % 256 = y2 := by omega
    have w1 : (encL p A : Int) % 256 = y3 := by omega
    have w2 : p.router / 16777216 = y4 := by omega
    have w3 : p.router / 65536 % 256 = y5 := by omega
    have w4 : p.router / 256 % 256 = y6 := by omega
    have w5 : p.router % 256 = y7 := by omega
    have w6 : p.area / 16777216 = y8 := by omega
    have w7 : p.area / 65536 % 256 = y9 := by omega
    have w8 : p.area / 256 % 256 = y10 := by omega
    have w9 : p.area % 256 = y11 := by omega
    have wa : A.k / 256 % 256 = y14 := by omega
    have wb : A.k % 256 = y15 := by omega
    unfold hd24
    rw [w0, w1, w2, w3, w4, w5, w6, w7, w8, w9, wa, wb, v1, v4, hA]
    rfl
  show hd24 p (auL (be [y14, y15]) [y16, y17, y18, y19, y20, y21, y22, y23]) s1 s2 ++ partB p = _
  rw [e _ rfl (by rw [← v5]; exact hL), hpb]
  rfl
/-- What a sum can be where another one is right, too. -/
theorem sum_back {t y12 y13 : Int} (h0 : 0 < t) (b1 : 0 ≤ y12 ∧ y12 ≤ 255) (b2 : 0 ≤ y13 ∧ y13 ≤ 255) (hr : foldS (t + 256 * y12 + y13) = 65535) :
    ((65535 - foldS t) / 256 = y12 ∧ (65535 - foldS t) % 256 = y13) ∨ (y12 = 255 ∧ y13 = 255) := by
  rw [foldS_iff (by omega)] at hr
  unfold foldS
  rw [if_neg (by omega)]
  obtain ⟨r, hr2⟩ : ∃ r, (t - 1) % 65535 = r := ⟨_, rfl⟩
  obtain ⟨q, hq⟩ : ∃ q, (t - 1) / 65535 = q := ⟨_, rfl⟩
  have h1 : t - 1 = 65535 * q + r := by omega
  have h2 : 0 ≤ r ∧ r < 65535 := by omega
  rw [hr2]
  clear hr2 hq
  have h3 : (r + 1) + (256 * y12 + y13) = 65535 ∨ (r + 1) + (256 * y12 + y13) = 131070 := by omega
  rcases h3 with h3 | h3
  · have h4 : 65535 - (r + 1) = 256 * y12 + y13 := by omega
    rw [h4]
    omega
  · omega
theorem set_same {l : List Int} {i : Nat} {v : Int} (h : l[i]? = some v) : l.set i v = l := by
  apply List.ext_getElem?
  intro j
  rw [List.getElem?_set]
  split
  · rename_i e
    subst e
    have := (List.getElem?_eq_some_iff.1 h).1
    rw [if_pos this, h]
  · rfl
theorem back_at {xs : List Int} {p : PA} (ho : Oct xs) (hd : DecOk xs) (h : PIs (pkB xs) (tyAt xs) (be ((xs.drop 4).take 4)) (be ((xs.drop 8).take 4)) p) (hn : ∀ s ∈ p.ss, s.B.length = s.n) {i : Nat} (hi : (i : Int) < (pkLen xs).1) :
    (encB p (auAt xs))[i]? = xs[i]? ∨ ((i = 12 ∨ i = 13) ∧ ((auAt xs).k = 2 ∨ (xs[12]? = some 255 ∧ xs[13]? = some 255))) := by
  have h1 := pkLen_ok hd.len
  have h3 := pkB_len hd.len
  have at_ : ∀ j : Nat, (j : Int) < (pkLen xs).1 → (pkB xs)[j]? = xs[j]? := fun j hj => by
    unfold pkB
    rw [List.getElem?_take, if_pos (by omega)]
  by_cases hk : (auAt xs).k = 2
  · by_cases h12 : i = 12 ∨ i = 13
    · exact .inr ⟨h12, .inl hk⟩
    · left
      rw [encB_form, head_back ho hd h hn, List.getElem?_set_ne (by omega), List.getElem?_set_ne (by omega), at_ i hi]
  · obtain ⟨hE, hL, hpb⟩ := dec_enc ho hd h hn
    have ho2 : Oct (pkB xs) := ho.take _
    have hrt := hd.right hk
    unfold pkRight at hrt
    rw [hd.len] at hrt
    simp only [decide_true, Bool.true_and] at hrt
    have hw : sumOk (sumd (pkB xs)) = true := hrt
    have e1 : encB1 p (auAt xs) = ((pkB xs).set 12 0).set 13 0 := by rw [encB1_form, head_back ho hd h hn]
    obtain ⟨y12, hy12⟩ : ∃ y, (pkB xs)[12]? = some y := ⟨_, List.getElem?_eq_getElem (by omega)⟩
    obtain ⟨y13, hy13⟩ : ∃ y, (pkB xs)[13]? = some y := ⟨_, List.getElem?_eq_getElem (by omega)⟩
    have b12 := ho2 _ _ hy12
    have b13 := ho2 _ _ hy13
    have e2 : sumd (encB1 p (auAt xs)) = ((sumd (pkB xs)).set (2 * 6) 0).set (2 * 6 + 1) 0 := by
      rw [e1, sumd_set_lo _ (by omega) (by rw [List.length_set]; omega), sumd_set_lo _ (by omega) (by omega)]
    have e3 := ws_set (l := sumd (pkB xs)) (k := 6) (u := 0) (v := 0) (by rw [sumd_at_lo (by omega) (by omega)]; exact hy12) (by rw [sumd_at_lo (by omega) (by omega)]; exact hy13)
    rw [← e2] at e3
    have hS : encS p (auAt xs) = 65535 - foldS (ws true (sumd (encB1 p (auAt xs)))) := rfl
    have hO1 : Oct (encB1 p (auAt xs)) := by rw [e1]; exact (ho2.set 12 (by omega)).set 13 (by omega)
    have hpos : 0 < ws true (sumd (encB1 p (auAt xs))) := by
      rw [encB1_form]
      have ho3 : Oct (sumd (hd24 p (auAt xs) 0 0 ++ partB p)) := by rw [← encB1_form]; exact hO1.sumd
      rw [sumd_hd] at ho3 ⊢
      have h8 : Oct ((((hd24 p (auAt xs) 0 0).take 16 ++ partB p)).drop 2) := ho3.drop 2
      have := (ws_nonneg h8 true).1
      have ht0 : 0 ≤ p.typ := (ho3 1 p.typ rfl).1
      show 0 < 256 * 2 + (p.typ + ws true (((hd24 p (auAt xs) 0 0).take 16 ++ partB p).drop 2))
      omega
    unfold sumOk at hw
    have hw2 : foldS (ws true (sumd (pkB xs))) = 65535 := by simpa using hw
    have e4 : ws true (sumd (pkB xs)) = ws true (sumd (encB1 p (auAt xs))) + 256 * y12 + y13 := by omega
    rw [e4] at hw2
    rcases sum_back hpos b12 b13 hw2 with ⟨s1, s2⟩ | ⟨s1, s2⟩
    · left
      rw [← hS] at s1 s2
      rw [encB_form, head_back ho hd h hn]
      unfold sHi sLo
      rw [if_neg hk, if_neg hk, s1, s2]
      have e5 : ((pkB xs).set 12 y12).set 13 y13 = pkB xs := by
        rw [set_same hy12, set_same hy13]
      rw [e5, at_ i hi]
    · by_cases h12 : i = 12 ∨ i = 13
      · refine .inr ⟨h12, .inr ⟨?_, ?_⟩⟩
        · rw [← at_ 12 (by omega), hy12, s1]
        · rw [← at_ 13 (by omega), hy13, s2]
      · left
        rw [encB_form, head_back ho hd h hn, List.getElem?_set_ne (by omega), List.getElem?_set_ne (by omega), at_ i hi]
end Go.Proofs.Ytbkejlalbjomkaa
