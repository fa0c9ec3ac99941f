/-
  Plain arithmetic of the two sums (no program in sight).
-/
import Derived.Test.YtbkejlalbjomkaaBase
namespace Go.Proofs.Ytbkejlalbjomkaa
set_option linter.unusedVariables false

/-- The sum of words; true: the next byte is a word's high one. -/
def ws : Bool → List Int → Int
  | _, [] => 0
  | true, a :: r => 256 * a + ws false r
  | false, a :: r => a + ws true r
/-- What a sum folds to. -/
def foldS (t : Int) : Int := if t = 0 then 0 else (t - 1) % 65535 + 1

theorem ws_nonneg {l : List Int} (h : Oct l) : ∀ b, 0 ≤ ws b l ∧ ws b l ≤ 65280 * l.length := by
  induction l with
  | nil => intro b; cases b <;> simp [ws]
  | cons a r ih =>
    have h0 := h 0 a rfl
    have hr : Oct r := h.drop 1
    intro b
    have h1 := ih hr true
    have h2 := ih hr false
    cases b <;> simp only [ws, List.length_cons] <;> omega
theorem foldS_small {t : Int} (h0 : 0 ≤ t) (h1 : t ≤ 65535) : foldS t = t := by unfold foldS; split <;> omega
theorem foldS_sub {t : Int} (h : 65535 < t) : foldS (t - 65535) = foldS t := by unfold foldS; split <;> split <;> omega
theorem foldS_step {s : Int} (h : 65535 < s) : foldS (s / 65536 + s % 65536) = foldS s ∧ 0 ≤ s / 65536 + s % 65536 ∧ s / 65536 + s % 65536 < s := by
  unfold foldS
  refine ⟨?_, by omega, by omega⟩
  split <;> split <;> omega
theorem foldS_range {t : Int} (h : 0 ≤ t) : 0 ≤ foldS t ∧ foldS t ≤ 65535 := by unfold foldS; split <;> omega

theorem foldS_word {t x y : Int} {zs : List Int} {T : Int} (hx : zs[0]? = some x) (hy : zs[1]? = some y) (hf : foldS (t + ws true zs) = T) :
    foldS (t + (x * 256 + y) + ws true (zs.drop 2)) = T := by
  rcases zs with _ | ⟨a, _ | ⟨b, r⟩⟩
  · simp at hx
  · simp at hy
  · simp at hx hy
    subst hx hy
    rw [← hf]
    congr 1
    simp only [ws, List.drop_succ_cons, List.drop_zero]
    omega
theorem foldS_word2 {t x y : Int} {zs : List Int} {T : Int} (ho : Oct zs) (hx : zs[0]? = some x) (hy : zs[1]? = some y) (hf : foldS (t + ws true zs) = T) (hb : 65535 < t + (x * 256 + y)) :
    foldS (t + (x * 256 + y) - 65535 + ws true (zs.drop 2)) = T := by
  rw [← foldS_word hx hy hf, ← foldS_sub (t := t + (x * 256 + y) + ws true (zs.drop 2)) (by have := ws_nonneg (ho.drop 2) true; omega)]
  congr 1
  omega
theorem ws_step {k : Nat} {xs : List Int} {x t T : Int} (hx : xs[k]? = some x) (h : t + ws (k % 2 == 0) (xs.drop k) = T) :
    t + (if k % 2 = 0 then 256 * x else x) + ws ((k + 1) % 2 == 0) (xs.drop (k + 1)) = T := by
  have hl : k < xs.length := by
    rcases Nat.lt_or_ge k xs.length with hlt | hge
    · exact hlt
    · rw [List.getElem?_eq_none hge] at hx; cases hx
  rw [List.drop_eq_getElem_cons hl] at h
  have e : xs[k] = x := by rw [List.getElem?_eq_getElem hl] at hx; injection hx
  rw [e] at h
  by_cases h2 : k % 2 = 0
  · rw [if_pos h2]
    have h1 : (k % 2 == 0) = true := by simp [h2]
    have h3 : ((k + 1) % 2 == 0) = false := by simp; omega
    rw [h1] at h
    rw [h3]
    simp only [ws] at h
    omega
  · rw [if_neg h2]
    have h1 : (k % 2 == 0) = false := by simp [h2]
    have h3 : ((k + 1) % 2 == 0) = true := by simp; omega
    rw [h1] at h
    rw [h3]
    simp only [ws] at h
    omega

/-- The sum of bytes, and the sum of the sums behind each byte. -/
def S0 : List Int → Int
  | [] => 0
  | x :: r => x + S0 r
def S1 : List Int → Int
  | [] => 0
  | x :: r => (r.length + 1) * x + S1 r
theorem S0_app (p q : List Int) : S0 (p ++ q) = S0 p + S0 q := by
  induction p with
  | nil => simp [S0]
  | cons x r ih => simp only [List.cons_append, S0, ih]; omega
theorem S1_app (p q : List Int) : S1 (p ++ q) = S1 p + q.length * S0 p + S1 q := by
  induction p with
  | nil => simp [S1, S0]
  | cons x r ih =>
    simp only [List.cons_append, S1, S0, ih, List.length_append, Int.natCast_add, Int.add_mul, Int.mul_add]
    omega
theorem S0_snoc (p : List Int) (x : Int) : S0 (p ++ [x]) = S0 p + x := by rw [S0_app]; simp [S0]
theorem S1_snoc (p : List Int) (x : Int) : S1 (p ++ [x]) = S1 p + S0 p + x := by rw [S1_app]; simp [S1]
theorem S0_nonneg {l : List Int} (h : Oct l) : 0 ≤ S0 l ∧ S0 l ≤ 255 * l.length := by
  induction l with
  | nil => simp [S0]
  | cons x r ih =>
    have h0 := h 0 x rfl
    have h1 := ih (h.drop 1)
    simp only [S0, List.length_cons]
    omega
theorem S1_nonneg {l : List Int} (h : Oct l) : 0 ≤ S1 l ∧ S1 l ≤ 255 * l.length * l.length := by
  induction l with
  | nil => simp [S1]
  | cons x r ih =>
    have h0 := h 0 x rfl
    have h1 := ih (h.drop 1)
    simp only [S1, List.length_cons]
    have hx : (r.length + 1 : Int) * x ≤ (r.length + 1) * 255 := Int.mul_le_mul_of_nonneg_left (by omega) (by omega)
    have hx0 : 0 ≤ (r.length + 1 : Int) * x := Int.mul_nonneg (by omega) (by omega)
    have e : (255 * ((r.length : Int) + 1) * ((r.length : Int) + 1)) = 255 * r.length * r.length + 510 * r.length + 255 := by
      simp only [Int.mul_add, Int.add_mul]; omega
    push_cast
    omega

theorem mod_cong {a b : Int} (n : Int) (h : a % n = b % n) (c d : Int) : (c + d * a) % n = (c + d * b) % n := by
  rw [Int.add_emod, Int.mul_emod, h, ← Int.mul_emod, ← Int.add_emod]
theorem add_end0 {zs : List Int} {a0 b0 T : Int} {k : Nat} (h : b0 = a0 + S0 (zs.take k)) (hf : (a0 + S0 zs) % 255 = T) : (b0 % 255 + S0 (zs.drop k)) % 255 = T := by
  have e : S0 zs = S0 (zs.take k) + S0 (zs.drop k) := by rw [← S0_app, List.take_append_drop]
  rw [← hf, e, h]
  omega
theorem add_end1 {zs : List Int} {a0 a1 b0 b1 T m : Int} {k n : Nat} (h : b0 = a0 + S0 (zs.take k)) (h' : b1 = a1 + k * a0 + S1 (zs.take k)) (hn : zs.length = n) (hk : k ≤ n) (hm : m = (n : Int) - k)
    (hf : (a1 + n * a0 + S1 zs) % 255 = T) : (b1 % 255 + m * (b0 % 255) + S1 (zs.drop k)) % 255 = T := by
  have e : S1 zs = S1 (zs.take k) + m * S0 (zs.take k) + S1 (zs.drop k) := by
    conv => lhs; rw [← List.take_append_drop k zs]
    rw [S1_app, List.length_drop, hn, hm, Int.natCast_sub hk]
  have e1 : a1 + n * a0 + S1 zs = b1 + S1 (zs.drop k) + m * b0 := by
    rw [e, h, h', hm]
    simp only [Int.sub_mul, Int.mul_add]
    omega
  rw [← hf, e1]
  have h3 := mod_cong 255 (a := b0 % 255) (b := b0) (by omega) (b1 % 255 + S1 (zs.drop k)) m
  have e2 : b1 % 255 + m * (b0 % 255) + S1 (zs.drop k) = b1 % 255 + S1 (zs.drop k) + m * (b0 % 255) := by omega
  rw [e2, h3]
  generalize m * b0 = q
  omega
theorem take_S {zs : List Int} {k : Nat} {x : Int} (hx : zs[k]? = some x) : zs.take (k + 1) = zs.take k ++ [x] := by
  rw [List.take_add_one, hx]; rfl
theorem add_round0 {zs : List Int} {k : Nat} {x a0 b0 : Int} (hx : zs[k]? = some x) (h : b0 = a0 + S0 (zs.take k)) : b0 + x = a0 + S0 (zs.take (k + 1)) := by
  rw [take_S hx, S0_snoc, h]; omega
theorem add_round1 {zs : List Int} {k : Nat} {x a0 a1 b0 b1 : Int} (hx : zs[k]? = some x) (h : b0 = a0 + S0 (zs.take k)) (h' : b1 = a1 + k * a0 + S1 (zs.take k)) :
    b1 + (b0 + x) = a1 + ((k + 1 : Nat) : Int) * a0 + S1 (zs.take (k + 1)) := by
  rw [take_S hx, S1_snoc, h', h, Int.natCast_add, Int.add_mul]; omega

/-- Both sums, of a list, are what both.add makes of two halves. -/
theorem both0 (p q : List Int) : (S0 p % 255 + S0 q) % 255 = S0 (p ++ q) % 255 := by rw [S0_app]; omega
theorem both1 (p q : List Int) {n : Nat} (h : q.length = n) : (S1 p % 255 + n * (S0 p % 255) + S1 q) % 255 = S1 (p ++ q) % 255 := by
  rw [S1_app, h]
  have h3 := mod_cong 255 (a := S0 p % 255) (b := S0 p) (by omega) (S1 p % 255 + S1 q) (n : Int)
  have e2 : S1 p % 255 + n * (S0 p % 255) + S1 q = S1 p % 255 + S1 q + n * (S0 p % 255) := by omega
  rw [e2, h3]
  generalize (n : Int) * S0 p = r
  omega

/-- The byte from 1 to 255 that is v modulo 255. -/
def wh (v : Int) : Int := if v % 255 = 0 then 255 else v % 255
theorem wh_range (v : Int) : 1 ≤ wh v ∧ wh v ≤ 255 := by unfold wh; split <;> omega
theorem wh_mod (v : Int) : wh v % 255 = v % 255 := by unfold wh; split <;> omega
theorem wh_zero {v : Int} (h : v % 255 = 0) : wh v = 255 := by unfold wh; rw [if_pos h]
theorem wh_other {v : Int} (h : ¬ v % 255 = 0) : wh v = v % 255 := by unfold wh; rw [if_neg h]
theorem tmod_255 (v : Int) : v.tmod 255 = if 0 ≤ v then v % 255 else -((-v) % 255) := by
  split
  · rename_i h
    exact Int.tmod_eq_emod_of_nonneg h
  · rename_i h
    have e : v.tmod 255 = -((-v).tmod 255) := by rw [Int.neg_tmod, Int.neg_neg]
    rw [e, Int.tmod_eq_emod_of_nonneg (by omega)]
theorem tmod_low (v : Int) : -254 ≤ v.tmod 255 ∧ v.tmod 255 ≤ 254 := by
  rw [tmod_255]
  split <;> omega
theorem tmod_whole (v : Int) : (v.tmod 255 + 255).tmod 255 = v % 255 := by
  have h := tmod_low v
  rw [Int.tmod_eq_emod_of_nonneg (by omega), tmod_255]
  split <;> omega

/-- What the reference asks of a pair. -/
def Fits (c0 c1 N x y : Int) : Prop := (c0 + x + y) % 255 = 0 ∧ (c1 + N * x + (N + 254) % 255 * y) % 255 = 0
theorem fits_only {c0 c1 N x y : Int} (h : Fits c0 c1 N x y) (hx : 1 ≤ x ∧ x ≤ 255) (hy : 1 ≤ y ∧ y ≤ 255) : x = wh ((N - 1) * c0 - c1) ∧ y = wh (c1 - N * c0) := by
  obtain ⟨h1, h2⟩ := h
  obtain ⟨a, ha⟩ : ∃ a, x + y + c0 = 255 * a := ⟨(c0 + x + y) / 255, by omega⟩
  obtain ⟨e, he⟩ : ∃ e, (N + 254) % 255 = N - 1 + 255 * e := ⟨1 - (N + 254) / 255, by omega⟩
  obtain ⟨b, hb⟩ : ∃ b, c1 + N * x + (N + 254) % 255 * y = 255 * b := ⟨(c1 + N * x + (N + 254) % 255 * y) / 255, by omega⟩
  have k1 : x - ((N - 1) * c0 - c1) = 255 * (b - e * y - (N - 1) * a) := by rw [he] at hb; grind
  have k2 : y - (c1 - N * c0) = 255 * (a - (b - e * y - (N - 1) * a)) := by rw [he] at hb; grind
  have w1 := wh_range ((N - 1) * c0 - c1)
  have w2 := wh_range (c1 - N * c0)
  have m1 := wh_mod ((N - 1) * c0 - c1)
  have m2 := wh_mod (c1 - N * c0)
  generalize (N - 1) * c0 - c1 = p at *
  generalize c1 - N * c0 = q at *
  generalize b - e * y - (N - 1) * a = r at *
  constructor <;> omega
theorem fits_it (c0 c1 N : Int) : Fits c0 c1 N (wh ((N - 1) * c0 - c1)) (wh (c1 - N * c0)) := by
  have m1 := wh_mod ((N - 1) * c0 - c1)
  have m2 := wh_mod (c1 - N * c0)
  generalize hx : wh ((N - 1) * c0 - c1) = x at *
  generalize hy : wh (c1 - N * c0) = y at *
  obtain ⟨e, he⟩ : ∃ e, (N + 254) % 255 = N - 1 + 255 * e := ⟨1 - (N + 254) / 255, by omega⟩
  obtain ⟨a, ha⟩ : ∃ a, x = (N - 1) * c0 - c1 + 255 * a := ⟨x / 255 - ((N - 1) * c0 - c1) / 255, by omega⟩
  obtain ⟨b, hb⟩ : ∃ b, y = c1 - N * c0 + 255 * b := ⟨y / 255 - (c1 - N * c0) / 255, by omega⟩
  have k1 : c0 + x + y = 255 * (a + b) := by rw [ha, hb]; grind
  have k2 : c1 + N * x + (N + 254) % 255 * y = 255 * (N * a + (N - 1) * b + e * y) := by rw [he]; grind
  unfold Fits
  rw [k1, k2]
  constructor <;> omega

/-- The two bytes that the sum leaves open, as nought. -/
def holed (at_ : Nat) (xs : List Int) : List Int := xs.take at_ ++ [0, 0] ++ xs.drop (at_ + 2)
theorem holed_length {at_ : Nat} {xs : List Int} (h : at_ + 2 ≤ xs.length) : (holed at_ xs).length = xs.length := by
  simp [holed]; omega
/-- What Fletcher hands back. -/
def fl (at_ : Nat) (xs : List Int) : Int :=
  let c0 := S0 (holed at_ xs) % 255
  let c1 := S1 (holed at_ xs) % 255
  let N := ((xs.length : Int) - at_) % 255
  wh ((N - 1) * c0 - c1) * 256 + wh (c1 - N * c0)

theorem prod_bound0 (a b : Int) (h0 : 0 ≤ a) (h1 : a ≤ 254) (h2 : 0 ≤ b) (h3 : b ≤ 254) : 0 ≤ a * b ∧ a * b ≤ 64516 :=
  ⟨Int.mul_nonneg h0 h2, Int.le_trans (Int.mul_le_mul_of_nonneg_left h3 h0) (by omega)⟩
theorem prod_bound0' (a b : Int) (h0 : 0 ≤ a) (h1 : a ≤ 254) (h2 : 0 ≤ b) (h3 : b ≤ 255) : 0 ≤ a * b ∧ a * b ≤ 64770 :=
  ⟨Int.mul_nonneg h0 h2, Int.le_trans (Int.mul_le_mul_of_nonneg_left h3 h0) (by omega)⟩
theorem prod_bound (a b : Int) (h0 : -1 ≤ a) (h1 : a ≤ 254) (h2 : 0 ≤ b) (h3 : b ≤ 254) : -254 ≤ a * b ∧ a * b ≤ 64516 := by
  have h := prod_bound0
  by_cases ha : 0 ≤ a
  · have := prod_bound0 a b ha h1 h2 h3
    omega
  · obtain rfl : a = -1 := by omega
    omega

/-- Does the reference pass this place by? -/
def skips (at_ : Int) (k : Nat) : Prop := 0 ≤ at_ ∧ ((k : Int) = at_ ∨ (k : Int) = at_ + 1)
/-- M is xs, with nought where the reference passes by. -/
def Masked (at_ : Int) (xs M : List Int) : Prop := M.length = xs.length ∧ ∀ k, k < xs.length → (skips at_ k → M[k]? = some 0) ∧ (¬ skips at_ k → M[k]? = xs[k]?)
theorem masked_all (xs : List Int) {i : Int} (h : i < 0) : Masked i xs xs := ⟨rfl, fun k _ => ⟨fun hs => absurd hs.1 (by omega), fun _ => rfl⟩⟩
theorem masked_holed {i : Nat} {xs : List Int} (h : i + 2 ≤ xs.length) : Masked i xs (holed i xs) := by
  refine ⟨holed_length h, fun k hk => ⟨fun hs => ?_, fun hs => ?_⟩⟩
  · obtain ⟨_, hs⟩ := hs
    unfold holed
    rw [List.getElem?_append_left (by simp; omega), List.getElem?_append_right (by simp; omega)]
    have hl : (xs.take i).length = i := by simp; omega
    rw [hl]
    rcases hs with hs | hs
    · have : k - i = 0 := by omega
      rw [this]; rfl
    · have : k - i = 1 := by omega
      rw [this]; rfl
  · have hs' : ¬ ((k : Int) = i ∨ (k : Int) = i + 1) := fun e => hs ⟨by omega, e⟩
    have hl : (xs.take i).length = i := by simp; omega
    unfold holed
    by_cases hk2 : k < i
    · rw [List.getElem?_append_left (by simp; omega), List.getElem?_append_left (by omega), List.getElem?_take_of_lt hk2]
    · rw [List.getElem?_append_right (by simp; omega), List.getElem?_drop]
      congr 1
      simp only [List.length_append, hl, List.length_cons, List.length_nil]
      omega
theorem ref_round0 {M : List Int} {k : Nat} {x c : Int} (hx : M[k]? = some x) (h : c = S0 (M.take k) % 255) : (c + x) % 255 = S0 (M.take (k + 1)) % 255 := by
  rw [take_S hx, S0_snoc, h]; omega
theorem ref_round1 {M : List Int} {k n : Nat} {x c : Int} (hx : M[k]? = some x) (hk : k < n) (h : c = (S1 (M.take k) + ((n : Int) - k) * S0 (M.take k)) % 255) :
    (c + ((n : Int) - k) % 255 * x) % 255 = (S1 (M.take (k + 1)) + ((n : Int) - ((k + 1 : Nat) : Int)) * S0 (M.take (k + 1))) % 255 := by
  rw [take_S hx, S0_snoc, S1_snoc, h]
  have e1 : S1 (M.take k) + S0 (M.take k) + x + ((n : Int) - ((k + 1 : Nat) : Int)) * (S0 (M.take k) + x) = S1 (M.take k) + ((n : Int) - k) * S0 (M.take k) + ((n : Int) - k) * x := by
    have : ((k + 1 : Nat) : Int) = (k : Int) + 1 := by omega
    rw [this]; grind
  rw [e1]
  generalize S1 (M.take k) + ((n : Int) - k) * S0 (M.take k) = p
  have h3 := mod_cong 255 (a := ((n : Int) - k) % 255) (b := (n : Int) - k) (by omega) (p % 255) x
  have e2 : x * (((n : Int) - k) % 255) = ((n : Int) - k) % 255 * x := Int.mul_comm _ _
  have e3 : x * ((n : Int) - k) = ((n : Int) - k) * x := Int.mul_comm _ _
  rw [e2, e3] at h3
  rw [h3]
  generalize ((n : Int) - k) * x = q
  omega
end Go.Proofs.Ytbkejlalbjomkaa
