/-
  What was read of a packet's bytes are its bytes; what was laid is read back: plain laws.
-/
import Derived.Test.YtbkejlalbjomkaaPk28
namespace Go.Proofs.Ytbkejlalbjomkaa
set_option linter.unusedVariables false
open Go.RowKit

/-- A head that was laid is read back. -/
theorem hdAt_hdB {h : Hd} (k : h.ok) (B : List Int) : hdAt (hdB h ++ B) 0 = h := by
  obtain ⟨a, o, t, i, d, s, m, l⟩ := h
  have e1 := be_numB2 k.age.1 (by have := k.age; omega)
  have e2 := be_numB4 k.id.1 (by have := k.id; omega)
  have e3 := be_numB4 k.adv.1 (by have := k.adv; omega)
  have e4 := be_numB4 (x := s % 4294967296) (by omega) (by omega)
  have e5 := be_numB2 k.sum.1 (by have := k.sum; omega)
  have e6 := be_numB2 k.len.1 (by have := k.len; omega)
  simp only at e1 e2 e3 e5 e6
  unfold hdAt
  rw [show ((hdB ⟨a, o, t, i, d, s, m, l⟩ ++ B).drop 0).take 2 = numB a 2 from rfl, show ((hdB ⟨a, o, t, i, d, s, m, l⟩ ++ B).drop (0 + 2)).take 1 = [o] from rfl, show ((hdB ⟨a, o, t, i, d, s, m, l⟩ ++ B).drop (0 + 3)).take 1 = [t] from rfl, show ((hdB ⟨a, o, t, i, d, s, m, l⟩ ++ B).drop (0 + 4)).take 4 = numB i 4 from rfl, show ((hdB ⟨a, o, t, i, d, s, m, l⟩ ++ B).drop (0 + 8)).take 4 = numB d 4 from rfl, show ((hdB ⟨a, o, t, i, d, s, m, l⟩ ++ B).drop (0 + 12)).take 4 = numB (s % 4294967296) 4 from rfl, show ((hdB ⟨a, o, t, i, d, s, m, l⟩ ++ B).drop (0 + 16)).take 2 = numB m 2 from rfl, show ((hdB ⟨a, o, t, i, d, s, m, l⟩ ++ B).drop (0 + 18)).take 2 = numB l 2 from rfl, e1, e2, e3, e4, e5, e6, wrap_i32_eq]
  have hs := k.seq
  simp only at hs
  rw [show (s % 4294967296 + 2147483648) % 4294967296 - 2147483648 = s by omega]
  simp [be]
theorem four_of {a b c d : Int} (ha : 0 ≤ a ∧ a ≤ 255) (hb : 0 ≤ b ∧ b ≤ 255) (hc : 0 ≤ c ∧ c ≤ 255) (hd : 0 ≤ d ∧ d ≤ 255) : numB (be [a, b, c, d]) 4 = [a, b, c, d] := by
  simp [numB, four, be]
  omega
theorem two_of {c d : Int} (hc : 0 ≤ c ∧ c ≤ 255) (hd : 0 ≤ d ∧ d ≤ 255) : numB (be [c, d]) 2 = [c, d] := by
  simp [numB, four, be]
  omega
/-- Bytes that were read as a head are the head's bytes. -/
theorem hdB_hdAt {xs : List Int} (ho : Oct xs) (hl : 20 ≤ xs.length) : hdB (hdAt xs 0) = xs.take 20 := by
  obtain ⟨a0, a1, a2, a3, a4, a5, a6, a7, a8, a9, b0, b1, b2, b3, b4, b5, b6, b7, b8, b9, r, rfl⟩ : ∃ a0 a1 a2 a3 a4 a5 a6 a7 a8 a9 b0 b1 b2 b3 b4 b5 b6 b7 b8 b9 r, xs = a0 :: a1 :: a2 :: a3 :: a4 :: a5 :: a6 :: a7 :: a8 :: a9 :: b0 :: b1 :: b2 :: b3 :: b4 :: b5 :: b6 :: b7 :: b8 :: b9 :: r := by
    rcases xs with _ | ⟨a0, _ | ⟨a1, _ | ⟨a2, _ | ⟨a3, _ | ⟨a4, _ | ⟨a5, _ | ⟨a6, _ | ⟨a7, _ | ⟨a8, _ | ⟨a9, _ | ⟨b0, _ | ⟨b1, _ | ⟨b2, _ | ⟨b3, _ | ⟨b4, _ | ⟨b5, _ | ⟨b6, _ | ⟨b7, _ | ⟨b8, _ | ⟨b9, r⟩⟩⟩⟩⟩⟩⟩⟩⟩⟩⟩⟩⟩⟩⟩⟩⟩⟩⟩⟩ <;> first | (exact ⟨_, _, _, _, _, _, _, _, _, _, _, _, _, _, _, _, _, _, _, _, _, rfl⟩) | (exfalso; simp only [List.length_cons, List.length_nil] at hl; omega)
  have o := fun i x h => ho i x h
  have w0 : wrap32 (be [b2, b3, b4, b5]) % 4294967296 = be [b2, b3, b4, b5] := by
    have h2 := o 12 b2 rfl
    have h3 := o 13 b3 rfl
    have h4 := o 14 b4 rfl
    have h5 := o 15 b5 rfl
    rw [wrap_i32_eq]
    have : be [b2, b3, b4, b5] = ((b2 * 256 + b3) * 256 + b4) * 256 + b5 := by simp [be]
    omega
  show numB (be [a0, a1]) 2 ++ [be [a2], be [a3]] ++ numB (be [a4, a5, a6, a7]) 4 ++ numB (be [a8, a9, b0, b1]) 4 ++ numB (wrap32 (be [b2, b3, b4, b5]) % 4294967296) 4 ++ numB (be [b6, b7]) 2 ++ numB (be [b8, b9]) 2 = [a0, a1, a2, a3, a4, a5, a6, a7, a8, a9, b0, b1, b2, b3, b4, b5, b6, b7, b8, b9]
  rw [w0, two_of (o 0 a0 rfl) (o 1 a1 rfl), four_of (o 4 a4 rfl) (o 5 a5 rfl) (o 6 a6 rfl) (o 7 a7 rfl), four_of (o 8 a8 rfl) (o 9 a9 rfl) (o 10 b0 rfl) (o 11 b1 rfl), four_of (o 12 b2 rfl) (o 13 b3 rfl) (o 14 b4 rfl) (o 15 b5 rfl), two_of (o 16 b6 rfl) (o 17 b7 rfl), two_of (o 18 b8 rfl) (o 19 b9 rfl)]
  simp [be]

theorem numB4_be {l : List Int} (hl : l.length = 4) (ho : Oct l) : numB (be l) 4 = l := by
  match l, hl with
  | [a, b, c, d], _ => exact four_of (ho 0 a rfl) (ho 1 b rfl) (ho 2 c rfl) (ho 3 d rfl)
theorem chunks {α : Type} (f : α → List Int) (g : Nat → α) (k pos : Nat) (ys : List Int) (n : Nat) (h : ∀ i, i < n → f (g i) = (ys.drop (pos + k * i)).take k) : ((List.range n).map g).flatMap f = (ys.drop pos).take (k * n) := by
  induction n with
  | zero => simp
  | succ n ih =>
    rw [List.range_succ, List.map_append, List.flatMap_append, ih fun i hi => h i (by omega), List.map_singleton, List.flatMap_singleton, h n (by omega), Nat.mul_succ, List.take_add, List.drop_drop]
theorem flat_inj {α : Type} (f : α → List Int) {k : Nat} (hk : 0 < k) (hl : ∀ a, (f a).length = k) (P : α → Prop) (hi : ∀ a b, P a → P b → f a = f b → a = b) : ∀ L M : List α, (∀ a ∈ L, P a) → (∀ a ∈ M, P a) → L.flatMap f = M.flatMap f → L = M
  | [], [], _, _, _ => rfl
  | [], b :: M, _, _, e => by
    have := congrArg List.length e
    rw [List.flatMap_cons, List.length_append, hl] at this
    simp at this
    omega
  | a :: L, [], _, _, e => by
    have := congrArg List.length e
    rw [List.flatMap_cons, List.length_append, hl] at this
    simp at this
    omega
  | a :: L, b :: M, h1, h2, e => by
    rw [List.flatMap_cons, List.flatMap_cons] at e
    obtain ⟨e1, e2⟩ := List.append_inj e (by rw [hl, hl])
    rw [hi a b (h1 a (List.mem_cons_self ..)) (h2 b (List.mem_cons_self ..)) e1, flat_inj f hk hl P hi L M (fun x hx => h1 x (List.mem_cons_of_mem _ hx)) (fun x hx => h2 x (List.mem_cons_of_mem _ hx)) e2]
theorem take_oct {ys : List Int} (ho : Oct ys) (p k : Nat) : Oct ((ys.drop p).take k) := (ho.drop p).take k
theorem word_at {ys : List Int} (ho : Oct ys) {p : Nat} (h : p + 4 ≤ ys.length) : numB (be ((ys.drop p).take 4)) 4 = (ys.drop p).take 4 := numB4_be (by rw [List.length_take, List.length_drop]; omega) (take_oct ho p 4)
theorem wordsB_at {ys : List Int} (ho : Oct ys) {pos n : Nat} (h : pos + 4 * n = ys.length) : wordsB (wordsAt ys pos n) = ys.drop pos := by
  unfold wordsB wordsAt
  rw [chunks (fun x => numB x 4) (fun i => be ((ys.drop (pos + 4 * i)).take 4)) 4 pos ys n fun i hi => word_at ho (by omega)]
  exact take_all (by rw [List.length_drop]; omega)
theorem hdsB_at {ys : List Int} (ho : Oct ys) {pos n : Nat} (h : pos + 20 * n = ys.length) : hdsB (hdsAt ys pos n) = ys.drop pos := by
  unfold hdsB hdsAt
  rw [chunks hdB (fun i => hdAt ys (pos + 20 * i)) 20 pos ys n fun i hi => by
    rw [← hdAt_drop]
    exact hdB_hdAt (ho.drop _) (by rw [List.length_drop]; omega)]
  exact take_all (by rw [List.length_drop]; omega)
theorem keyB_at {ys : List Int} (ho : Oct ys) {p : Nat} (h : p + 12 ≤ ys.length) : keyB (kyAt ys p) = (ys.drop p).take 12 := by
  unfold keyB kyAt
  rw [word_at ho (by omega), word_at ho (by omega), word_at ho (by omega)]
  have e : ∀ l : List Int, l.take 12 = l.take 4 ++ (l.drop 4).take 4 ++ (l.drop 8).take 4 := fun l => by
    rw [show (12 : Nat) = 4 + 4 + 4 from rfl, List.take_add, List.take_add]
  rw [e, List.drop_drop, List.drop_drop]
theorem keysB_at {ys : List Int} (ho : Oct ys) {pos n : Nat} (h : pos + 12 * n = ys.length) : keysB (kysAt ys pos n) = ys.drop pos := by
  unfold keysB kysAt
  rw [chunks keyB (fun i => kyAt ys (pos + 12 * i)) 12 pos ys n fun i hi => keyB_at ho (by omega)]
  exact take_all (by rw [List.length_drop]; omega)
/-- A state's bytes. -/
def hbB (x : Hd × List Int) : List Int := hdB x.1 ++ x.2
theorem hdB_len20 (h : Hd) : (hdB h).length = 20 := rfl
theorem upS_some : ∀ (n : Nat) (ys : List Int) (L : List (Hd × List Int)), Oct ys → upS n ys = some L → L.length = n ∧ L.flatMap hbB = ys ∧ ∀ x ∈ L, x.1.ok ∧ x.1.len = x.2.length + 20 ∧ Oct x.2
  | 0, ys, L, ho, h => by
    unfold upS at h
    split at h
    · rename_i h0
      injection h with h
      subst h
      exact ⟨rfl, (List.eq_nil_of_length_eq_zero h0).symm, fun x hx => by simp at hx⟩
    · cases h
  | n + 1, ys, L, ho, h => by
    unfold upS at h
    split at h
    · rename_i he
      obtain ⟨h20, hm20, hml⟩ := rdE_yes he
      obtain ⟨m, hm⟩ : ∃ m : Nat, (hdAt ys 0).len = m := ⟨(hdAt ys 0).len.toNat, by omega⟩
      rw [hm, Int.toNat_natCast] at h
      cases hu : upS n (ys.drop m) with
      | none => rw [hu] at h; cases h
      | some M =>
        rw [hu] at h
        injection h with h
        subst h
        obtain ⟨i1, i2, i3⟩ := upS_some n (ys.drop m) M (ho.drop m) hu
        refine ⟨by rw [List.length_cons, i1], ?_, ?_⟩
        · rw [List.flatMap_cons, i2]
          show hdB (hdAt ys 0) ++ (ys.take m).drop 20 ++ ys.drop m = ys
          rw [hdB_hdAt ho h20]
          have : ys.take 20 ++ (ys.take m).drop 20 = ys.take m := by
            have := List.take_append_drop 20 (ys.take m)
            rwa [List.take_take, Nat.min_eq_left (by omega)] at this
          rw [this, List.take_append_drop]
        · intro x hx
          rcases List.mem_cons.1 hx with rfl | hx
          · refine ⟨hdAt_ok ho 0, ?_, (ho.take m).drop 20⟩
            show (hdAt ys 0).len = _
            rw [hm, List.length_drop, List.length_take]
            omega
          · exact i3 x hx
    · cases h
theorem upS_of : ∀ L : List (Hd × List Int), (∀ x ∈ L, x.1.ok ∧ x.1.len = x.2.length + 20) → upS L.length (L.flatMap hbB) = some L
  | [], _ => rfl
  | x :: L, h => by
    obtain ⟨hok, hlen⟩ := h x (List.mem_cons_self ..)
    have ih := upS_of L fun y hy => h y (List.mem_cons_of_mem _ hy)
    have hh : hdAt ((x :: L).flatMap hbB) 0 = x.1 := by
      rw [List.flatMap_cons]
      show hdAt (hdB x.1 ++ x.2 ++ _) 0 = _
      rw [List.append_assoc]
      exact hdAt_hdB hok _
    have hl : ((x :: L).flatMap hbB).length = 20 + x.2.length + (L.flatMap hbB).length := by
      rw [List.flatMap_cons, List.length_append]
      show (hdB x.1 ++ x.2).length + _ = _
      rw [List.length_append, hdB_len20]
    have hr : rdE ((x :: L).flatMap hbB) = 0 := by
      unfold rdE
      rw [hh, hl, if_neg (by omega), if_neg (by omega), if_neg (by omega)]
    have hm : x.1.len.toNat = (hbB x).length := by
      show _ = (hdB x.1 ++ x.2).length
      rw [List.length_append, hdB_len20]
      omega
    rw [List.length_cons]
    unfold upS
    rw [if_pos hr, hh, hm, List.flatMap_cons, List.drop_left, List.take_left, ih]
    rfl
end Go.Proofs.Ytbkejlalbjomkaa
