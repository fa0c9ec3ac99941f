/-
  Plain arithmetic of the sums when bytes are exchanged (no program in sight).
-/
import Derived.Test.YtbkejlalbjomkaaSumMath
namespace Go.Proofs.Ytbkejlalbjomkaa
set_option linter.unusedVariables false

theorem S0_set : ∀ {l : List Int} {i : Nat} {x v : Int}, l[i]? = some x → S0 (l.set i v) = S0 l + (v - x)
  | [], i, x, v, h => by simp at h
  | a :: r, 0, x, v, h => by simp at h; subst h; simp only [List.set_cons_zero, S0]; omega
  | a :: r, i + 1, x, v, h => by
    simp at h
    have := S0_set (v := v) h
    simp only [List.set_cons_succ, S0]
    omega
theorem S1_set : ∀ {l : List Int} {i : Nat} {x v : Int}, l[i]? = some x → S1 (l.set i v) = S1 l + ((l.length : Int) - i) * (v - x)
  | [], i, x, v, h => by simp at h
  | a :: r, 0, x, v, h => by
    simp at h; subst h
    simp only [List.set_cons_zero, S1, List.length_cons]
    have e : (((r.length + 1 : Nat) : Int) - ((0 : Nat) : Int)) * (v - a) = ((r.length : Int) + 1) * v - ((r.length : Int) + 1) * a := by
      have : (((r.length + 1 : Nat) : Int) - ((0 : Nat) : Int)) = (r.length : Int) + 1 := by omega
      rw [this, Int.mul_sub]
    rw [e]; omega
  | a :: r, i + 1, x, v, h => by
    simp at h
    have := S1_set (v := v) h
    simp only [List.set_cons_succ, S1, List.length_cons, List.length_set]
    rw [this]
    have e : (((r.length + 1 : Nat) : Int) - ((i + 1 : Nat) : Int)) = (r.length : Int) - i := by omega
    rw [e]
    omega
theorem ws_set : ∀ {l : List Int} {k : Nat} {x y u v : Int}, l[2 * k]? = some x → l[2 * k + 1]? = some y → ws true ((l.set (2 * k) u).set (2 * k + 1) v) = ws true l + 256 * (u - x) + (v - y)
  | [], k, x, y, u, v, h, h' => by simp at h
  | [a], 0, x, y, u, v, h, h' => by simp at h'
  | [a], k + 1, x, y, u, v, h, h' => by simp [Nat.mul_add] at h
  | a :: b :: r, 0, x, y, u, v, h, h' => by
    simp at h h'; subst h h'
    simp [ws]
    omega
  | a :: b :: r, k + 1, x, y, u, v, h, h' => by
    have e : 2 * (k + 1) = 2 * k + 2 := by omega
    rw [e] at h h' ⊢
    simp at h
    have h2 : r[2 * k + 1]? = some y := by simpa using h'
    have := ws_set (u := u) (v := v) h h2
    simp only [List.set_cons_succ, ws]
    omega

theorem emod_zero_of {a b : Int} (h : a % 255 = 0) (e : a = b) : b % 255 = 0 := by rw [← e]; exact h

/-- The bytes laid in make both sums nought. -/
theorem laid_zero {xs : List Int} {j : Nat} (hj : j + 2 ≤ xs.length) {X Y : Int}
    (hX : X = wh (((((xs.length : Int) - j) % 255 - 1) * (S0 (holed j xs) % 255) - S1 (holed j xs) % 255))) (hY : Y = wh (S1 (holed j xs) % 255 - ((xs.length : Int) - j) % 255 * (S0 (holed j xs) % 255))) :
    S0 ((xs.set j X).set (j + 1) Y) % 255 = 0 ∧ S1 ((xs.set j X).set (j + 1) Y) % 255 = 0 := by
  have hfit := fits_it (S0 (holed j xs) % 255) (S1 (holed j xs) % 255) (((xs.length : Int) - j) % 255)
  rw [← hX, ← hY] at hfit
  obtain ⟨f0, f1⟩ := hfit
  have hl := holed_length hj
  have hm := (masked_holed hj).2
  have g0 : (holed j xs)[j]? = some 0 := (hm j (by omega)).1 ⟨by omega, .inl rfl⟩
  have g1 : (holed j xs)[j + 1]? = some 0 := (hm (j + 1) (by omega)).1 ⟨by omega, .inr (by omega)⟩
  have e : (xs.set j X).set (j + 1) Y = ((holed j xs).set j X).set (j + 1) Y := by
    apply List.ext_getElem?
    intro k
    simp only [List.getElem?_set, List.length_set, hl]
    split
    · rfl
    · split
      · rfl
      · rename_i h1 h2
        by_cases hk : k < xs.length
        · exact ((hm k hk).2 (fun hs => by rcases hs.2 with h | h <;> omega)).symm
        · rw [List.getElem?_eq_none (by omega), List.getElem?_eq_none (by omega)]
  have g1' : ((holed j xs).set j X)[j + 1]? = some 0 := by rw [List.getElem?_set_ne (by omega)]; exact g1
  rw [e, S0_set g1', S0_set g0, S1_set g1', S1_set g0, List.length_set, hl]
  generalize S0 (holed j xs) = c0 at *
  generalize S1 (holed j xs) = c1 at *
  constructor
  · omega
  · obtain ⟨m, hm⟩ : ∃ m : Int, m = (xs.length : Int) - j := ⟨_, rfl⟩
    have hm2 : (xs.length : Int) - ((j + 1 : Nat) : Int) = m - 1 := by omega
    rw [hm2]
    rw [← hm] at f1 ⊢
    obtain ⟨q, hq⟩ : ∃ q, m % 255 = m + 255 * q := ⟨-(m / 255), by omega⟩
    obtain ⟨q2, hq2⟩ : ∃ q, (m % 255 + 254) % 255 = m - 1 + 255 * q := ⟨(m % 255 + 254) % 255 / 255 - (m - 1) / 255 + 0, by omega⟩
    rw [hq2, hq] at f1
    obtain ⟨t, ht⟩ : ∃ t, c1 % 255 + (m + 255 * q) * X + (m - 1 + 255 * q2) * Y = 255 * t := ⟨(c1 % 255 + (m + 255 * q) * X + (m - 1 + 255 * q2) * Y) / 255, by omega⟩
    have : c1 + m * (X - 0) + (m - 1) * (Y - 0) = 255 * (t - q * X - q2 * Y + c1 / 255) := by
      have hc : c1 = c1 % 255 + 255 * (c1 / 255) := by omega
      generalize c1 % 255 = r at *
      generalize c1 / 255 = r2 at *
      subst hc
      grind
    rw [this]; omega
/-- One byte changed is found just if it is another one modulo 255. -/
theorem changed_iff {W : List Int} {i : Nat} {x v : Int} (h : W[i]? = some x) (h0 : S0 W % 255 = 0) (h1 : S1 W % 255 = 0) :
    (S0 (W.set i v) % 255 == 0 && S1 (W.set i v) % 255 == 0) = (x % 255 == v % 255) := by
  rw [S0_set h, S1_set h]
  by_cases e : x % 255 = v % 255
  · obtain ⟨t, ht⟩ : ∃ t, v - x = 255 * t := ⟨v / 255 - x / 255, by omega⟩
    have e2 : ((W.length : Int) - i) * (v - x) = 255 * (((W.length : Int) - i) * t) := by rw [ht]; grind
    rw [e2]
    generalize ((W.length : Int) - i) * t = q
    have a : (S0 W + (v - x)) % 255 = 0 := by omega
    have b : (S1 W + 255 * q) % 255 = 0 := by omega
    rw [a, b, e]
    simp
  · have a : ¬ (S0 W + (v - x)) % 255 = 0 := by omega
    have b : (x % 255 == v % 255) = false := by simp [e]
    rw [b]
    simp [a]
/-- Two neighbours exchanged are found just if they are unlike modulo 255. -/
theorem swapped_iff {W : List Int} {i : Nat} {x y : Int} (h : W[i]? = some x) (h' : W[i + 1]? = some y) (h0 : S0 W % 255 = 0) (h1 : S1 W % 255 = 0) :
    (S0 ((W.set i y).set (i + 1) x) % 255 == 0 && S1 ((W.set i y).set (i + 1) x) % 255 == 0) = (x % 255 == y % 255) := by
  have g : (W.set i y)[i + 1]? = some y := by rw [List.getElem?_set_ne (by omega)]; exact h'
  rw [S0_set g, S0_set h, S1_set g, S1_set h, List.length_set]
  have e1 : S0 W + (y - x) + (x - y) = S0 W := by omega
  have e2 : S1 W + ((W.length : Int) - i) * (y - x) + ((W.length : Int) - ((i + 1 : Nat) : Int)) * (x - y) = S1 W + (y - x) := by
    have : ((i + 1 : Nat) : Int) = (i : Int) + 1 := by omega
    rw [this]; grind
  rw [e1, e2, h0]
  by_cases e : x % 255 = y % 255
  · have b : (S1 W + (y - x)) % 255 = 0 := by omega
    rw [b, e]; simp
  · have b : ¬ (S1 W + (y - x)) % 255 = 0 := by omega
    have c : (x % 255 == y % 255) = false := by simp [e]
    rw [c]; simp [b]
/-- The plain sum, laid in at an even place, makes the bytes right. -/
theorem plain_right {P : List Int} (ho : Oct P) {k : Nat} (h : P[2 * k]? = some 0) (h' : P[2 * k + 1]? = some 0) {s : Int} (hs : s = 65535 - foldS (ws true P)) :
    (foldS (ws true ((P.set (2 * k) (s / 256)).set (2 * k + 1) (s % 256))) == 65535) = true := by
  rw [ws_set h h']
  have hn := (ws_nonneg ho true).1
  have hr := foldS_range hn
  have e : ws true P + 256 * (s / 256 - 0) + (s % 256 - 0) = ws true P + s := by omega
  rw [e, hs]
  generalize ws true P = t at *
  have : foldS (t + (65535 - foldS t)) = 65535 := by unfold foldS at *; split <;> split at * <;> omega
  rw [this]; rfl
/-- Fletcher does not look at the two bytes. -/
theorem fl_laid {xs : List Int} {j : Nat} (hj : j + 2 ≤ xs.length) (X Y : Int) : fl j ((xs.set j X).set (j + 1) Y) = fl j xs := by
  have e : holed j ((xs.set j X).set (j + 1) Y) = holed j xs := by
    unfold holed
    congr 1
    · congr 1
      rw [List.take_set_of_le (by omega), List.take_set_of_le (by omega)]
    · rw [List.drop_set_of_lt (by omega), List.drop_set_of_lt (by omega)]
  unfold fl
  rw [e, List.length_set, List.length_set]
theorem Oct.set {l : List Int} (h : Oct l) (i : Nat) {v : Int} (hv : 0 ≤ v ∧ v ≤ 255) : Oct (l.set i v) := fun k x hx => by
  rw [List.getElem?_set] at hx
  split at hx
  · split at hx
    · injection hx with hx; subst hx; exact hv
    · cases hx
  · exact h k x hx
end Go.Proofs.Ytbkejlalbjomkaa
