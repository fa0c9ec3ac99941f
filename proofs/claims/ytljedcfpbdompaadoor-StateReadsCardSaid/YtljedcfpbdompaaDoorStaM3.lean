/-
  What a body's bytes say is the body.
  Heads read back; what was sealed is whole; a byte that is changed is found.
  Decode. Printed by gen_sta28.py.
-/
import Derived.Test.YtljedcfpbdompaaDoorStaM2
import Derived.Test.YtljedcfpbdompaaDoorSumMath2
namespace Go.Proofs.YtljedcfpbdompaaDoor
set_option linter.unusedVariables false
open Go.RowKit Go.ChangeShapes Go.WideShapes

theorem drop_flat {α β : Type} (f : α → List β) (n : Nat) : ∀ (l : List α) (i : Nat), (∀ x ∈ l, (f x).length = n) → ∀ x, l[i]? = some x → ∃ r, (l.flatMap f).drop (n * i) = f x ++ r
  | [], i, _, x, hx => by simp at hx
  | y :: l, 0, h, x, hx => by
    simp at hx
    subst hx
    exact ⟨l.flatMap f, by simp⟩
  | y :: l, i + 1, h, x, hx => by
    obtain ⟨r, hr⟩ := drop_flat f n l i (fun z hz => h z (by simp [hz])) x (by simpa using hx)
    refine ⟨r, ?_⟩
    rw [List.flatMap_cons, show n * (i + 1) = (f y).length + n * i by rw [h y (by simp), Nat.mul_add]; omega, ← List.drop_drop, List.drop_left, hr]
theorem flat_len {α β : Type} (f : α → List β) (n : Nat) (l : List α) (h : ∀ x ∈ l, (f x).length = n) : (l.flatMap f).length = n * l.length := by
  induction l with
  | nil => simp
  | cons y l ih => rw [List.flatMap_cons, List.length_append, ih (fun x hx => h x (by simp [hx])), h y (by simp), List.length_cons, Nat.mul_add]; omega
theorem numB4_len (x : Int) : (numB x 4).length = 4 := rfl
theorem lkB_len (x : Lk) : (lkB x).length = 12 := rfl
theorem link_back (x : Lk) (h : x.ok) (r : List Int) (xs : List Int) (p : Nat) (hp : xs.drop p = lkB x ++ r) : linkAt xs p = x := by
  have e4 : xs.drop (p + 4) = (lkB x ++ r).drop 4 := by rw [← hp, List.drop_drop]
  have e8 : xs.drop (p + 8) = (lkB x ++ r).drop 8 := by rw [← hp, List.drop_drop]
  have e10 : xs.drop (p + 10) = (lkB x ++ r).drop 10 := by rw [← hp, List.drop_drop]
  unfold linkAt
  rw [hp, e4, e8, e10]
  have a := be_numB4 h.id.1 (by have := h.id; omega)
  have b := be_numB4 h.data.1 (by have := h.data; omega)
  have c := be_numB2 h.cost.1 (by have := h.cost; omega)
  rw [show ((lkB x ++ r).take 4) = numB x.id 4 from rfl, show (((lkB x ++ r).drop 4).take 4) = numB x.data 4 from rfl, show (((lkB x ++ r).drop 8).take 1) = [x.typ] from rfl, show (((lkB x ++ r).drop 10).take 2) = numB x.cost 2 from rfl, a, b, c]
  simp [be]
theorem map_back {α : Type} (l : List α) (f : Nat → α) (h : ∀ i x, l[i]? = some x → f i = x) : l = (List.range l.length).map f := by
  apply List.ext_getElem
  · simp
  · intro i h1 h2
    rw [List.getElem_map, List.getElem_range]
    exact (h i l[i] (List.getElem?_eq_getElem h1)).symm
/-- What a body's bytes say is the body. -/
theorem says_1 (b : BA) {w : World} (h : b.rd w) (hl : b.ln ≤ 65535) (hm : mayB 1 b = true) : fitB 1 (bdB 1 b) ∧ Says 1 (bdB 1 b) b := by
  unfold mayB aloneB at hm
  simp at hm
  obtain ⟨⟨⟨⟨⟨⟨⟨m1, m2⟩, m3⟩, m4⟩, m5⟩, m6⟩, -⟩, -⟩ := hm
  have hr : b.routers = [] := List.eq_nil_of_length_eq_zero (by have := h.rlen; omega)
  have hd : b.data = [] := List.eq_nil_of_length_eq_zero (by have := h.drow.u8len; omega)
  have hln := h.llen
  have k0 : be (((bdB 1 b).drop 0).take 1) = b.flags := by
    rw [show ((bdB 1 b).drop 0).take 1 = [b.flags] from rfl]
    simp [be]
  have k2 : be (((bdB 1 b).drop 2).take 2) = b.links.length := by
    rw [show ((bdB 1 b).drop 2).take 2 = numB b.links.length 2 from rfl]
    exact be_numB2 (by omega) (by omega)
  have e4 : (bdB 1 b).drop 4 = b.links.flatMap lkB := rfl
  have l4 : (bdB 1 b).length = 4 + (b.links.flatMap lkB).length := by
    rw [show bdB 1 b = [b.flags, 0] ++ numB b.links.length 2 ++ b.links.flatMap lkB from rfl, List.length_append]
    rfl
  rw [flat_len lkB 12 _ (fun x _ => lkB_len x)] at l4
  refine ⟨?_, ?_, ?_, ?_, ?_, ?_, ?_, ?_, ?_, ?_⟩
  · unfold fitB
    rw [if_pos rfl, k2]
    omega
  · rw [if_pos rfl, k0]
  · rw [if_pos rfl, k2]
    rw [show ((b.links.length : Int)).toNat = b.links.length from rfl]
    exact map_back b.links _ fun i x hx => by
      obtain ⟨r, hr⟩ := drop_flat lkB 12 b.links i (fun x _ => lkB_len x) x hx
      exact link_back x (h.lok x (List.mem_of_getElem? hx)) r _ _ (by rw [← List.drop_drop, e4, hr])
  all_goals simp_all
theorem says_2 (b : BA) {w : World} (h : b.rd w) (hm : mayB 2 b = true) : fitB 2 (bdB 2 b) ∧ Says 2 (bdB 2 b) b := by
  unfold mayB aloneB at hm
  simp at hm
  obtain ⟨⟨⟨⟨⟨⟨⟨m0, m1⟩, m3⟩, m4⟩, m5⟩, m6⟩, -⟩, -⟩ := hm
  have hr : b.links = [] := List.eq_nil_of_length_eq_zero (by have := h.llen; omega)
  have hd : b.data = [] := List.eq_nil_of_length_eq_zero (by have := h.drow.u8len; omega)
  have k0 : be (((bdB 2 b).drop 0).take 4) = b.mask := by
    rw [show ((bdB 2 b).drop 0).take 4 = numB b.mask 4 from rfl]
    exact be_numB4 h.mask.1 (by have := h.mask; omega)
  have e4 : (bdB 2 b).drop 4 = b.routers.flatMap (fun x => numB x 4) := rfl
  have l4 : (bdB 2 b).length = 4 + (b.routers.flatMap (fun x => numB x 4)).length := by
    rw [show bdB 2 b = numB b.mask 4 ++ b.routers.flatMap (fun x => numB x 4) from rfl, List.length_append]
    rfl
  rw [flat_len _ 4 _ (fun x _ => numB4_len x)] at l4
  have l5 : (bdB 2 b).length / 4 - 1 = b.routers.length := by omega
  refine ⟨?_, ?_, ?_, ?_, ?_, ?_, ?_, ?_, ?_, ?_⟩
  · unfold fitB
    rw [if_neg (by decide), if_pos rfl]
    omega
  · simp [m0]
  · simp [hr]
  · simp only [k0]; simp
  · rw [if_pos rfl, l5]
    exact map_back b.routers _ fun i x hx => by
      obtain ⟨r, hr⟩ := drop_flat (fun x => numB x 4) 4 b.routers i (fun x _ => numB4_len x) x hx
      have hx4 := h.rok x (List.mem_of_getElem? hx)
      rw [← List.drop_drop, e4, hr, show (numB x 4 ++ r).take 4 = numB x 4 from rfl]
      exact be_numB4 hx4.1 (by omega)
  all_goals simp_all
theorem says_34 (t : Int) (ht : t = 3 ∨ t = 4) (b : BA) {w : World} (h : b.rd w) (hm : mayB t b = true) : fitB t (bdB t b) ∧ Says t (bdB t b) b := by
  have he : bdB t b = numB b.mask 4 ++ numB b.metric 4 := by rcases ht with rfl | rfl <;> rfl
  have hk : b.flags = 0 ∧ b.ln = 0 ∧ b.rn = 0 ∧ b.dn = 0 ∧ (t = 4 → b.mask = 0) ∧ b.t2 = false ∧ b.fwd = 0 ∧ b.tag = 0 := by
    unfold mayB aloneB at hm
    rcases ht with rfl | rfl <;> simp at hm <;> obtain ⟨⟨⟨⟨⟨⟨hm1, hm2⟩, hm3⟩, hm4⟩, hm5⟩, -⟩, -⟩ := hm <;> simp_all <;> omega
  obtain ⟨m0, m1, m2, m3, -, m4, m5, m6⟩ := hk
  have hl : b.links = [] := List.eq_nil_of_length_eq_zero (by have := h.llen; omega)
  have hr : b.routers = [] := List.eq_nil_of_length_eq_zero (by have := h.rlen; omega)
  have hd : b.data = [] := List.eq_nil_of_length_eq_zero (by have := h.drow.u8len; omega)
  have k0 : be (((bdB t b).drop 0).take 4) = b.mask := by
    rw [he, show ((numB b.mask 4 ++ numB b.metric 4).drop 0).take 4 = numB b.mask 4 from rfl]
    exact be_numB4 h.mask.1 (by have := h.mask; omega)
  have k4 : be (((bdB t b).drop 4).take 4) = b.metric := by
    rw [he, show ((numB b.mask 4 ++ numB b.metric 4).drop 4).take 4 = numB b.metric 4 from rfl]
    exact be_numB4 h.metric.1 (by have := h.metric; omega)
  have n1 : t ≠ 1 := by omega
  have n2 : t ≠ 2 := by omega
  have n5 : t ≠ 5 := by omega
  have n7 : t ≠ 7 := by omega
  refine ⟨?_, ?_, ?_, ?_, ?_, ?_, ?_, ?_, ?_, ?_⟩
  · unfold fitB
    rw [if_neg n1, if_neg n2, if_pos ht, he]
    rfl
  · simp [m0, n1]
  · simp [hl, n1]
  · rw [if_pos (by omega), k0]
  · simp [hr, n2]
  · rw [if_pos ht, k4]
  · simp [m4, n5, n7]
  · simp [m5, n5, n7]
  · simp [m6, n5, n7]
  · rw [if_pos (by omega), hd]
theorem says_57 (t : Int) (ht : t = 5 ∨ t = 7) (b : BA) {w : World} (h : b.rd w) (hm : mayB t b = true) : fitB t (bdB t b) ∧ Says t (bdB t b) b := by
  have hmm : b.metric ≤ 16777215 := by
    unfold mayB restB at hm
    simp at hm
    omega
  have he : bdB t b = numB b.mask 4 ++ [if b.t2 then (128 : Int) else 0] ++ numB b.metric 3 ++ numB b.fwd 4 ++ numB b.tag 4 := by rcases ht with rfl | rfl <;> rfl
  have hk : b.flags = 0 ∧ b.ln = 0 ∧ b.rn = 0 ∧ b.dn = 0 := by
    unfold mayB aloneB at hm
    rcases ht with rfl | rfl <;> simp at hm <;> obtain ⟨⟨hm1, -⟩, -⟩ := hm <;> simp_all <;> omega
  obtain ⟨m0, m1, m2, m3⟩ := hk
  have hl : b.links = [] := List.eq_nil_of_length_eq_zero (by have := h.llen; omega)
  have hr : b.routers = [] := List.eq_nil_of_length_eq_zero (by have := h.rlen; omega)
  have hd : b.data = [] := List.eq_nil_of_length_eq_zero (by have := h.drow.u8len; omega)
  have k0 : be (((bdB t b).drop 0).take 4) = b.mask := by
    rw [he, show ((numB b.mask 4 ++ [if b.t2 then (128 : Int) else 0] ++ numB b.metric 3 ++ numB b.fwd 4 ++ numB b.tag 4).drop 0).take 4 = numB b.mask 4 from rfl]
    exact be_numB4 h.mask.1 (by have := h.mask; omega)
  have k4 : be (((bdB t b).drop 4).take 1) = if b.t2 then (128 : Int) else 0 := by
    rw [he, show ((numB b.mask 4 ++ [if b.t2 then (128 : Int) else 0] ++ numB b.metric 3 ++ numB b.fwd 4 ++ numB b.tag 4).drop 4).take 1 = [if b.t2 then (128 : Int) else 0] from rfl]
    simp [be]
  have k5 : be (((bdB t b).drop 5).take 3) = b.metric := by
    rw [he, show ((numB b.mask 4 ++ [if b.t2 then (128 : Int) else 0] ++ numB b.metric 3 ++ numB b.fwd 4 ++ numB b.tag 4).drop 5).take 3 = numB b.metric 3 from rfl]
    exact be_numB3 h.metric.1 (by omega)
  have k8 : be (((bdB t b).drop 8).take 4) = b.fwd := by
    rw [he, show ((numB b.mask 4 ++ [if b.t2 then (128 : Int) else 0] ++ numB b.metric 3 ++ numB b.fwd 4 ++ numB b.tag 4).drop 8).take 4 = numB b.fwd 4 from rfl]
    exact be_numB4 h.fwd.1 (by have := h.fwd; omega)
  have k12 : be (((bdB t b).drop 12).take 4) = b.tag := by
    rw [he, show ((numB b.mask 4 ++ [if b.t2 then (128 : Int) else 0] ++ numB b.metric 3 ++ numB b.fwd 4 ++ numB b.tag 4).drop 12).take 4 = numB b.tag 4 from rfl]
    exact be_numB4 h.tag.1 (by have := h.tag; omega)
  have n1 : t ≠ 1 := by omega
  have n2 : t ≠ 2 := by omega
  have n34 : ¬ (t = 3 ∨ t = 4) := by omega
  refine ⟨?_, ?_, ?_, ?_, ?_, ?_, ?_, ?_, ?_, ?_⟩
  · unfold fitB
    rw [if_neg n1, if_neg n2, if_neg n34, if_pos ht, he]
    rfl
  · simp [m0, n1]
  · simp [hl, n1]
  · rw [if_pos (by omega), k0]
  · simp [hr, n2]
  · rw [if_neg n34, if_pos ht, k5]
  · rw [if_pos ht, k4]
    cases b.t2 <;> rfl
  · rw [if_pos ht, k8]
  · rw [if_pos ht, k12]
  · rw [if_pos (by omega), hd]
theorem says_9 (t : Int) (ht : t = 9 ∨ t = 10 ∨ t = 11) (b : BA) {w : World} (h : b.rd w) (hm : mayB t b = true) : fitB t (bdB t b) ∧ Says t (bdB t b) b := by
  have he : bdB t b = b.data := by rcases ht with rfl | rfl | rfl <;> rfl
  have hk : b.flags = 0 ∧ b.ln = 0 ∧ b.rn = 0 ∧ b.mask = 0 ∧ b.metric = 0 ∧ b.t2 = false ∧ b.fwd = 0 ∧ b.tag = 0 := by
    unfold mayB aloneB at hm
    rcases ht with rfl | rfl | rfl <;> simp at hm <;> obtain ⟨⟨⟨⟨⟨⟨⟨hm1, hm2⟩, hm3⟩, hm4⟩, hm5⟩, hm6⟩, -⟩, -⟩ := hm <;> simp_all <;> omega
  obtain ⟨m0, m1, m2, m3, m4, m5, m6, m7⟩ := hk
  have hl : b.links = [] := List.eq_nil_of_length_eq_zero (by have := h.llen; omega)
  have hr : b.routers = [] := List.eq_nil_of_length_eq_zero (by have := h.rlen; omega)
  have n : t ≠ 1 ∧ t ≠ 2 ∧ t ≠ 3 ∧ t ≠ 4 ∧ t ≠ 5 ∧ t ≠ 7 := by omega
  obtain ⟨n1, n2, n3, n4, n5, n7⟩ := n
  refine ⟨?_, ?_, ?_, ?_, ?_, ?_, ?_, ?_, ?_, ?_⟩
  · simp [fitB, n1, n2, n3, n4, n5, n7]
  all_goals simp [n1, n2, n3, n4, n5, n7, m0, m3, m4, m5, m6, m7, hl, hr, he]
/-- How long the bytes are of what bytes say. -/
theorem says_len {t : Int} {xs : List Int} {b : BA} (ho : Oct xs) (h : Says t xs b) (hf : fitB t xs) : (bdB t b).length = xs.length := by
  unfold fitB at hf
  unfold bdB
  by_cases n1 : t = 1
  · rw [if_pos n1] at hf ⊢
    have hl := h.links
    rw [if_pos n1] at hl
    rw [List.length_append, flat_len lkB 12 _ (fun x _ => lkB_len x), hl, List.length_map, List.length_range]
    rw [List.length_append]
    show 2 + 2 + _ = _
    omega
  · rw [if_neg n1] at hf ⊢
    by_cases n2 : t = 2
    · rw [if_pos n2] at hf ⊢
      have hl := h.routers
      rw [if_pos n2] at hl
      rw [List.length_append, flat_len _ 4 _ (fun x _ => numB4_len x), hl, List.length_map, List.length_range]
      show 4 + _ = _
      omega
    · rw [if_neg n2] at hf ⊢
      by_cases n3 : t = 3 ∨ t = 4
      · rw [if_pos n3] at hf ⊢
        rw [hf]; rfl
      · rw [if_neg n3] at hf ⊢
        by_cases n5 : t = 5 ∨ t = 7
        · rw [if_pos n5] at hf ⊢
          rw [hf]; rfl
        · rw [if_neg n5]
          have hl := h.data
          rw [if_neg (by omega)] at hl
          rw [hl]
theorem says_any (t : Int) (ht : Kn t) (b : BA) {w : World} (h : b.rd w) (hl : t = 1 → b.ln ≤ 65535) (hm : mayB t b = true) : fitB t (bdB t b) ∧ Says t (bdB t b) b := by
  rcases ht with rfl | rfl | h3 | h3 | h3 | h3 | h3 | h3 | h3
  · exact says_1 b h (hl rfl) hm
  · exact says_2 b h hm
  · exact says_34 t (.inl h3) b h hm
  · exact says_34 t (.inr h3) b h hm
  · exact says_57 t (.inl h3) b h hm
  · exact says_57 t (.inr h3) b h hm
  · exact says_9 t (.inl h3) b h hm
  · exact says_9 t (.inr (.inl h3)) b h hm
  · exact says_9 t (.inr (.inr h3)) b h hm
/-- The bytes of a body that may be are good. -/
theorem good_bdB {t : Int} (ht : Kn t) {b : BA} {w : World} (h : b.rd w) (hl : t = 1 → b.ln ≤ 65535) (hm : mayB t b = true) : goodB t (bdB t b) := by
  obtain ⟨h1, h2⟩ := says_any t ht b h hl hm
  exact ⟨h1, b, h2, h.llen, h.rlen, h.drow.u8len, hm, rfl⟩
theorem may_metric {t : Int} {b : BA} (h : mayB t b = true) : b.metric ≤ 16777215 := by
  unfold mayB restB at h
  simp at h
  omega
end Go.Proofs.YtljedcfpbdompaaDoor
namespace Go.Proofs.YtljedcfpbdompaaDoor
set_option linter.unusedVariables false
open Go.RowKit Go.ChangeShapes Go.WideShapes

/-- A head that was laid is read back. -/
theorem hdAt_hdB {h : Hd} (k : h.ok) (B : List Int) : hdAt (hdB h ++ B) 0 = h := by
  obtain ⟨a, o, t, i, d, s, m, l⟩ := h
  have e1 := be_numB2 k.age.1 (by have := k.age; omega)
  have e2 := be_numB4 k.id.1 (by have := k.id; omega)
  have e3 := be_numB4 k.adv.1 (by have := k.adv; omega)
  have e4 := be_numB4 (x := s % 4294967296) (by omega) (by omega)
  have e5 := be_numB2 k.sum.1 (by have := k.sum; omega)
  have e6 := be_numB2 k.len.1 (by have := k.len; omega)
  simp only at e1 e2 e3 e5 e6
  unfold hdAt
  rw [show ((hdB ⟨a, o, t, i, d, s, m, l⟩ ++ B).drop 0).take 2 = numB a 2 from rfl, show ((hdB ⟨a, o, t, i, d, s, m, l⟩ ++ B).drop (0 + 2)).take 1 = [o] from rfl, show ((hdB ⟨a, o, t, i, d, s, m, l⟩ ++ B).drop (0 + 3)).take 1 = [t] from rfl, show ((hdB ⟨a, o, t, i, d, s, m, l⟩ ++ B).drop (0 + 4)).take 4 = numB i 4 from rfl, show ((hdB ⟨a, o, t, i, d, s, m, l⟩ ++ B).drop (0 + 8)).take 4 = numB d 4 from rfl, show ((hdB ⟨a, o, t, i, d, s, m, l⟩ ++ B).drop (0 + 12)).take 4 = numB (s % 4294967296) 4 from rfl, show ((hdB ⟨a, o, t, i, d, s, m, l⟩ ++ B).drop (0 + 16)).take 2 = numB m 2 from rfl, show ((hdB ⟨a, o, t, i, d, s, m, l⟩ ++ B).drop (0 + 18)).take 2 = numB l 2 from rfl, e1, e2, e3, e4, e5, e6, wrap_i32_eq]
  have hs := k.seq
  simp only at hs
  rw [show (s % 4294967296 + 2147483648) % 4294967296 - 2147483648 = s by omega]
  simp [be]
theorem four_of {a b c d : Int} (ha : 0 ≤ a ∧ a ≤ 255) (hb : 0 ≤ b ∧ b ≤ 255) (hc : 0 ≤ c ∧ c ≤ 255) (hd : 0 ≤ d ∧ d ≤ 255) : numB (be [a, b, c, d]) 4 = [a, b, c, d] := by
  simp [numB, four, be]
  omega
theorem two_of {c d : Int} (hc : 0 ≤ c ∧ c ≤ 255) (hd : 0 ≤ d ∧ d ≤ 255) : numB (be [c, d]) 2 = [c, d] := by
  simp [numB, four, be]
  omega
/-- Bytes that were read as a head are the head's bytes. -/
theorem hdB_hdAt {xs : List Int} (ho : Oct xs) (hl : 20 ≤ xs.length) : hdB (hdAt xs 0) = xs.take 20 := by
  obtain ⟨a0, a1, a2, a3, a4, a5, a6, a7, a8, a9, b0, b1, b2, b3, b4, b5, b6, b7, b8, b9, r, rfl⟩ : ∃ a0 a1 a2 a3 a4 a5 a6 a7 a8 a9 b0 b1 b2 b3 b4 b5 b6 b7 b8 b9 r, xs = a0 :: a1 :: a2 :: a3 :: a4 :: a5 :: a6 :: a7 :: a8 :: a9 :: b0 :: b1 :: b2 :: b3 :: b4 :: b5 :: b6 :: b7 :: b8 :: b9 :: r := by
    rcases xs with _ | ⟨a0, _ | ⟨a1, _ | ⟨a2, _ | ⟨a3, _ | ⟨a4, _ | ⟨a5, _ | ⟨a6, _ | ⟨a7, _ | ⟨a8, _ | ⟨a9, _ | ⟨b0, _ | ⟨b1, _ | ⟨b2, _ | ⟨b3, _ | ⟨b4, _ | ⟨b5, _ | ⟨b6, _ | ⟨b7, _ | ⟨b8, _ | ⟨b9, r⟩⟩⟩⟩⟩⟩⟩⟩⟩⟩⟩⟩⟩⟩⟩⟩⟩⟩⟩⟩ <;> first | (exact ⟨_, _, _, _, _, _, _, _, _, _, _, _, _, _, _, _, _, _, _, _, _, rfl⟩) | (exfalso; simp only [List.length_cons, List.length_nil] at hl; omega)
  have o := fun i x h => ho i x h
  have w0 : wrap32 (be [b2, b3, b4, b5]) % 4294967296 = be [b2, b3, b4, b5] := by
    have h2 := o 12 b2 rfl
    have h3 := o 13 b3 rfl
    have h4 := o 14 b4 rfl
    have h5 := o 15 b5 rfl
    rw [wrap_i32_eq]
    have : be [b2, b3, b4, b5] = ((b2 * 256 + b3) * 256 + b4) * 256 + b5 := by simp [be]
    omega
  show numB (be [a0, a1]) 2 ++ [be [a2], be [a3]] ++ numB (be [a4, a5, a6, a7]) 4 ++ numB (be [a8, a9, b0, b1]) 4 ++ numB (wrap32 (be [b2, b3, b4, b5]) % 4294967296) 4 ++ numB (be [b6, b7]) 2 ++ numB (be [b8, b9]) 2 = [a0, a1, a2, a3, a4, a5, a6, a7, a8, a9, b0, b1, b2, b3, b4, b5, b6, b7, b8, b9]
  rw [w0, two_of (o 0 a0 rfl) (o 1 a1 rfl), four_of (o 4 a4 rfl) (o 5 a5 rfl) (o 6 a6 rfl) (o 7 a7 rfl), four_of (o 8 a8 rfl) (o 9 a9 rfl) (o 10 b0 rfl) (o 11 b1 rfl), four_of (o 12 b2 rfl) (o 13 b3 rfl) (o 14 b4 rfl) (o 15 b5 rfl), two_of (o 16 b6 rfl) (o 17 b7 rfl), two_of (o 18 b8 rfl) (o 19 b9 rfl)]
  simp [be]
/-- The sum is laid where Fletcher looks past it. -/
theorem seal_set (h : Hd) (n : Int) (B : List Int) (m : Int) : (hdB ⟨h.age, h.opts, h.typ, h.id, h.adv, h.seq, m, n⟩ ++ B).drop 2 = (((hdB (lenH h n) ++ B).drop 2).set 14 (m / 256 % 256)).set 15 (m % 256) := rfl
theorem sum_laid (h : Hd) (n : Int) (B : List Int) (m : Int) : fl 14 ((hdB ⟨h.age, h.opts, h.typ, h.id, h.adv, h.seq, m, n⟩ ++ B).drop 2) = sumOf h n B := by
  rw [seal_set]
  refine fl_laid ?_ _ _
  rw [List.length_drop, List.length_append, hdB_len]
  omega
theorem seal_again (h : Hd) (n : Int) (B : List Int) : sealH (sealH h n B) n B = sealH h n B := by
  have e : sumOf (sealH h n B) n B = sumOf h n B := sum_laid h n B (sumOf h n B)
  show Hd.mk h.age h.opts h.typ h.id h.adv h.seq (sumOf (sealH h n B) n B) n = Hd.mk h.age h.opts h.typ h.id h.adv h.seq (sumOf h n B) n
  rw [e]
theorem age_out (a b o t i d s m l : Int) (B : List Int) : (hdB ⟨a, o, t, i, d, s, m, l⟩ ++ B).drop 2 = (hdB ⟨b, o, t, i, d, s, m, l⟩ ++ B).drop 2 := rfl
/-- What was sealed is whole, whatever its age. -/
theorem seal_whole (h : Hd) (n : Int) (B : List Int) (age : Int) :
    S0 ((hdB ⟨age, h.opts, h.typ, h.id, h.adv, h.seq, sumOf h n B, n⟩ ++ B).drop 2) % 255 = 0 ∧ S1 ((hdB ⟨age, h.opts, h.typ, h.id, h.adv, h.seq, sumOf h n B, n⟩ ++ B).drop 2) % 255 = 0 := by
  have hl : 14 + 2 ≤ ((hdB (lenH h n) ++ B).drop 2).length := by
    rw [List.length_drop, List.length_append, hdB_len]
    omega
  rw [age_out age h.age, seal_set h n B (sumOf h n B)]
  refine laid_zero hl ?_ ?_
  · unfold sumOf fl
    have a := wh_range
    generalize (hdB (lenH h n) ++ B).drop 2 = xs at *
    simp only
    have a1 := a ((((xs.length : Int) - (14 : Nat)) % 255 - 1) * (S0 (holed 14 xs) % 255) - S1 (holed 14 xs) % 255)
    have a2 := a (S1 (holed 14 xs) % 255 - ((xs.length : Int) - (14 : Nat)) % 255 * (S0 (holed 14 xs) % 255))
    omega
  · unfold sumOf fl
    have a := wh_range
    generalize (hdB (lenH h n) ++ B).drop 2 = xs at *
    simp only
    have a1 := a ((((xs.length : Int) - (14 : Nat)) % 255 - 1) * (S0 (holed 14 xs) % 255) - S1 (holed 14 xs) % 255)
    have a2 := a (S1 (holed 14 xs) % 255 - ((xs.length : Int) - (14 : Nat)) % 255 * (S0 (holed 14 xs) % 255))
    omega
/-- A byte that is changed is found. -/
theorem guard_found {h : Hd} {B : List Int} {at_ : Nat} {x v : Int} (ho : Oct ((hdB h ++ B).set at_ v)) (hx : (hdB h ++ B)[at_]? = some x) (h2 : 2 ≤ at_) (hn : x % 255 ≠ v % 255)
    (h0 : S0 ((hdB h ++ B).drop 2) % 255 = 0) (h1 : S1 ((hdB h ++ B).drop 2) % 255 = 0) :
    (S0 ((hdB (hdAt ((hdB h ++ B).set at_ v) 0) ++ ((hdB h ++ B).set at_ v).drop 20).drop 2) % 255 == 0 && S1 ((hdB (hdAt ((hdB h ++ B).set at_ v) 0) ++ ((hdB h ++ B).set at_ v).drop 20).drop 2) % 255 == 0) = false := by
  have hl : 20 ≤ ((hdB h ++ B).set at_ v).length := by
    rw [List.length_set, List.length_append, hdB_len]
    omega
  rw [hdB_hdAt ho hl, List.take_append_drop]
  have e : ((hdB h ++ B).set at_ v).drop 2 = ((hdB h ++ B).drop 2).set (at_ - 2) v := by
    obtain ⟨k, rfl⟩ : ∃ k, at_ = k + 2 := ⟨at_ - 2, by omega⟩
    rfl
  rw [e, changed_iff (x := x) ?_ h0 h1]
  · simpa using hn
  · rw [List.getElem?_drop, show 2 + (at_ - 2) = at_ by omega, hx]
/-- The first of states that stand one behind the other. -/
theorem read_first {h : Hd} (k : h.ok) {B : List Int} (r : List Int) (hl : h.len = 20 + B.length) : rdE (hdB h ++ B ++ r) = 0 ∧ hdAt (hdB h ++ B ++ r) 0 = h ∧ ((hdB h ++ B ++ r).take h.len.toNat).drop 20 = B := by
  have e : hdAt (hdB h ++ B ++ r) 0 = h := by rw [List.append_assoc]; exact hdAt_hdB k _
  have e2 : (hdB h ++ B ++ r).length = 20 + B.length + r.length := by rw [List.length_append, List.length_append, hdB_len]
  refine ⟨?_, e, ?_⟩
  · unfold rdE
    rw [e, if_neg (by omega), if_neg (by omega), if_neg (by omega)]
  · rw [show h.len.toNat = (hdB h ++ B).length by rw [List.length_append, hdB_len]; omega, List.take_left, show (20 : Nat) = (hdB h).length from rfl, List.drop_left]
end Go.Proofs.YtljedcfpbdompaaDoor
namespace Go.Proofs.YtljedcfpbdompaaDoor
set_option linter.unusedVariables false
open Go.RowKit Go.ChangeShapes Go.WideShapes

@[reducible] def zBC : Array Value := #[.int .u8 0, .slice none 0 0, .int .u32 0, .slice none 0 0, .int .u32 0, .bool false, .int .u32 0, .int .u32 0, .slice none 0 0]
@[reducible] def zeroB : Value := .agg #[.int .u8 0, .slice none 0 0, .int .u32 0, .slice none 0 0, .int .u32 0, .bool false, .int .u32 0, .int .u32 0, .slice none 0 0]
theorem three_new (w : World) (a b c : Obj) : let W := (((w.alloc a).alloc b).alloc c)
    W.heap[w.heap.size]? = some a ∧ W.heap[w.heap.size + 1]? = some b ∧ W.heap[w.heap.size + 1 + 1]? = some c ∧ Below w.heap.size w W := by
  intro W
  have e1 : (w.alloc a).heap.size = w.heap.size + 1 := World.size_alloc _ _
  have e2 : ((w.alloc a).alloc b).heap.size = w.heap.size + 1 + 1 := by rw [World.size_alloc, e1]
  have keep : ∀ (v : World) (o : Obj) (i : Nat) (x : Obj), v.heap[i]? = some x → (v.alloc o).heap[i]? = some x := fun v o i x h => by
    have hi : i < v.heap.size := by
      rcases Nat.lt_or_ge i v.heap.size with h2 | h2
      · exact h2
      · rw [Array.getElem?_eq_none h2] at h; cases h
    exact (Below.heap_alloc v o i hi).trans h
  refine ⟨keep _ _ _ _ (keep _ _ _ _ (heap_alloc_new w a)), ?_, ?_, ?_⟩
  · exact keep _ _ _ _ (by have := heap_alloc_new (w.alloc a) b; rwa [e1] at this)
  · have := heap_alloc_new ((w.alloc a).alloc b) c; rwa [e2] at this
  · exact (((Below.refl _ _).alloc (Nat.le_refl _) _).alloc (by rw [World.size_alloc]; omega) _).alloc (by rw [e2]; omega) _
/-- The blocks that Decode made first. -/
structure DeF (W : World) (gs gb ge : Nat) (h : Hd) (A : Option Addr) (n c : Nat) (k : Int) : Prop where
  s : Blk W gs 33 (stC h A n c)
  b : Blk W gb 67 zBC
  e : Blk W ge 29 #[.int .i64 k]
theorem DeF.keep {W W' : World} {gs gb ge : Nat} {h : Hd} {A : Option Addr} {n c : Nat} {k : Int} (f : DeF W gs gb ge h A n c k) (kt : KeepT W W') : DeF W' gs gb ge h A n c k :=
  ⟨kt.2 _ _ _ f.s (by decide) (by decide), kt.2 _ _ _ f.b (by decide) (by decide), kt.2 _ _ _ f.e (by decide) (by decide)⟩
theorem DeF.later {W W' : World} {gs gb ge : Nat} {h : Hd} {A : Option Addr} {n c : Nat} {k : Int} (f : DeF W gs gb ge h A n c k) (hb : Below W.heap.size W W') : DeF W' gs gb ge h A n c k := f.keep (KeepT.of_below hb)
theorem DeF.kept {R : Nat → Prop} {W W' : World} {gs gb ge : Nat} {h : Hd} {A : Option Addr} {n c : Nat} {k : Int} (f : DeF W gs gb ge h A n c k) (kt : Kept R W W') (hs : ¬ R gs) (hb : ¬ R gb) (he : ¬ R ge) : DeF W' gs gb ge h A n c k :=
  ⟨f.s.kept kt hs, f.b.kept kt hb, f.e.kept kt he⟩
theorem deF_new (w : World) (h : Hd) (A : Option Addr) (n c : Nat) : DeF (((w.alloc (.cells #[.int .u16 h.age, .int .u8 h.opts, .int .u8 h.typ, .int .u32 h.id, .int .u32 h.adv, .int .i32 h.seq, .int .u16 h.sum, .int .u16 h.len, .slice A n c] 33)).alloc (.cells #[.int .u8 0, .slice none 0 0, .int .u32 0, .slice none 0 0, .int .u32 0, .bool false, .int .u32 0, .int .u32 0, .slice none 0 0] 67)).alloc (.cells #[.int .i64 0] 29)) w.heap.size (w.heap.size + 1) (w.heap.size + 1 + 1) h A n c 0 ∧ Below w.heap.size w (((w.alloc (.cells #[.int .u16 h.age, .int .u8 h.opts, .int .u8 h.typ, .int .u32 h.id, .int .u32 h.adv, .int .i32 h.seq, .int .u16 h.sum, .int .u16 h.len, .slice A n c] 33)).alloc (.cells #[.int .u8 0, .slice none 0 0, .int .u32 0, .slice none 0 0, .int .u32 0, .bool false, .int .u32 0, .int .u32 0, .slice none 0 0] 67)).alloc (.cells #[.int .i64 0] 29)) := by
  obtain ⟨n0, n1, n2, nb⟩ := three_new w (.cells #[.int .u16 h.age, .int .u8 h.opts, .int .u8 h.typ, .int .u32 h.id, .int .u32 h.adv, .int .i32 h.seq, .int .u16 h.sum, .int .u16 h.len, .slice A n c] 33) (.cells #[.int .u8 0, .slice none 0 0, .int .u32 0, .slice none 0 0, .int .u32 0, .bool false, .int .u32 0, .int .u32 0, .slice none 0 0] 67) (.cells #[.int .i64 0] 29)
  exact ⟨⟨n0, n1, n2⟩, nb⟩
theorem BA.own.kept {R : Nat → Prop} {base : Nat} {w w' : World} {b : BA} (o : b.own base w) (k : Kept R w w') (hn : ∀ i, R i → i < base) : b.own base w' :=
  ⟨own_kept o.1 k (fun i hi e => by have h1 := (own_ge o.1 hi).1; have h2 := hn i e; omega), own_kept o.2.1 k (fun i hi e => by have h1 := (own_ge o.2.1 hi).1; have h2 := hn i e; omega), own_kept o.2.2 k (fun i hi e => by have h1 := (own_ge o.2.2 hi).1; have h2 := hn i e; omega)⟩
theorem BA.own.later {base : Nat} {w w' : World} {b : BA} (o : b.own base w) (hb : Below w.heap.size w w') : b.own base w' := o.kept (Kept.of_new hb (fun _ => False)) (fun _ h => h.elim)
theorem BA.own.mono {base b' : Nat} {w : World} {b : BA} (o : b.own base w) (hb : b' ≤ base) : b.own b' w := ⟨own_mono o.1 hb, own_mono o.2.1 hb, own_mono o.2.2 hb⟩
theorem BA.own.rd {base : Nat} {w w' : World} {b : BA} (o : b.own base w') (h : b.rd w) : b.rd w' :=
  ⟨h.flags, Reads.of_own o.1, h.llen, h.lok, h.mask, Reads.of_own o.2.1, h.rlen, h.rok, h.metric, h.fwd, h.tag, Reads.of_own o.2.2, h.doct, h.cap, h.few⟩
/-- What stands while Decode looks at a body. -/
structure DcR (w W : World) (gs gb ge gf gx base : Nat) (h : Hd) (A : Option Addr) (n c : Nat) (b : BA) : Prop where
  d : DeF W gs gb ge h A n c 0
  f : Blk W gf 81 #[.func (.func (wF h.typ)) #[] #[], .func (.func (rF h.typ)) #[] #[]]
  x : BBlk W gx b
  o : b.own base W
  r : b.rd W
  bl : Below w.heap.size w W
theorem DcR.later {w W W' : World} {gs gb ge gf gx base : Nat} {h : Hd} {A : Option Addr} {n c : Nat} {b : BA} (f : DcR w W gs gb ge gf gx base h A n c b) (hb : Below W.heap.size W W') : DcR w W' gs gb ge gf gx base h A n c b :=
  ⟨f.d.later hb, f.f.later hb, Blk.later f.x hb, f.o.later hb, f.r.later hb, below_then f.bl hb⟩
theorem says_ln {t : Int} {xs : List Int} {b : BA} {w : World} (hr : b.rd w) (h : Says t xs b) (hf : fitB t xs) : b.ln ≤ xs.length := by
  have hl := h.links
  have h2 := hr.llen
  by_cases n1 : t = 1
  · unfold fitB at hf
    rw [if_pos n1] at hl hf
    rw [hl, List.length_map, List.length_range] at h2
    omega
  · rw [if_neg n1] at hl
    rw [hl] at h2
    simp at h2
    omega
theorem good_of {t : Int} {xs : List Int} {b : BA} {w : World} (hr : b.rd w) (h : Says t xs b) (hf : fitB t xs) : goodB t xs ↔ (mayB t b = true ∧ bdB t b = xs) := by
  constructor
  · rintro ⟨_, b2, h1, h2, h3, h4, h5, h6⟩
    have hs := says_same h1 h
    have e1 := hr.llen
    have e2 := hr.rlen
    have e3 := hr.drow.u8len
    have g1 := congrArg List.length hs.links
    have g2 := congrArg List.length hs.routers
    have g3 := congrArg List.length hs.data
    refine ⟨?_, ?_⟩
    · rw [mayB_same hs (by omega) (by omega) (by omega)]
      exact h5
    · rw [bdB_same hs]
      exact h6
  · rintro ⟨h1, h2⟩
    exact ⟨hf, b, h, hr.llen, hr.rlen, hr.drow.u8len, h1, h2⟩
set_option maxRecDepth 100000 in
set_option maxHeartbeats 8000000 in
theorem dec_len (s : SE) (w : World) (hs : s.rd w) (hn : s.n ≤ 1073741824) (hl : s.h.len ≠ 20 + s.n) : Calls Tryd.prog 16 #[s.v] w fun e w' => e = .returned (.tuple #[zeroB, .int .i64 22]) ∧ Below w.heap.size w w' := by
  obtain ⟨h, A, n, c, B⟩ := s
  have HN := Lib.hid (deF_new w h A n c)
  have HO := Lib.hid hs
  have hn' : n ≤ 1073741824 := hn
  have hw : IntKind.i64.wrap (20 + (n : Int)) = 20 + n := by rw [IntKind.wrap_i64]; omega
  have hk : IntKind.i64.wrap h.len = h.len := by have := hs.head.len; simp only at this; rw [IntKind.wrap_i64]; omega
  have hl2 : (h.len != 20 + (n : Int)) = true := by simpa using hl
  clear hl
  clear hn hs
  show Calls Tryd.prog 16 #[stV h A n c] w _
  go_enter_defers Tryd.func16, Tryd.ntmps16
  obtain ⟨a0, a1, a2, a3, a4, a5, a6, a7, a8⟩ := stC_facts HN.out.1.s
  have e0 := HN.out.1.e.cell 0
  have f0 := HN.out.1.e.frozen 0
  have SZ := Lib.hid (HN.out.1).b
  have EZ := Lib.hid (HN.out.1).e
  have BZ := Lib.hid (HN.out.2)
  go_wp2_with (refine wpList_store_row rfl 67 _ _ rfl (w.heap.size + 1) #[.int .u8 0, .slice none 0 0, .int .u32 0, .slice none 0 0, .int .u32 0, .bool false, .int .u32 0, .int .u32 0, .slice none 0 0] rfl rfl 67 _ SZ.out info_body rfl (by simp [Value.oneCell']) ?_; replace SZ := Lib.hid (SZ.out.setRow #[.int .u8 0, .slice none 0 0, .int .u32 0, .slice none 0 0, .int .u32 0, .bool false, .int .u32 0, .int .u32 0, .slice none 0 0]); replace EZ := Lib.hid (EZ.out.setRow_far (g' := w.heap.size + 1) (by omega) #[.int .u8 0, .slice none 0 0, .int .u32 0, .slice none 0 0, .int .u32 0, .bool false, .int .u32 0, .int .u32 0, .slice none 0 0]); replace BZ := Lib.hid (below_setRow BZ.out (g := w.heap.size + 1) (by omega) #[.int .u8 0, .slice none 0 0, .int .u32 0, .slice none 0 0, .int .u32 0, .bool false, .int .u32 0, .int .u32 0, .slice none 0 0]); clear a0 a1 a2 a3 a4 a5 a6 a7 a8 e0 f0; have e0 := EZ.out.cell 0; have f0 := EZ.out.frozen 0; generalize (((w.alloc (.cells #[.int .u16 h.age, .int .u8 h.opts, .int .u8 h.typ, .int .u32 h.id, .int .u32 h.adv, .int .i32 h.seq, .int .u16 h.sum, .int .u16 h.len, .slice A n c] 33)).alloc (.cells #[.int .u8 0, .slice none 0 0, .int .u32 0, .slice none 0 0, .int .u32 0, .bool false, .int .u32 0, .int .u32 0, .slice none 0 0] 67)).alloc (.cells #[.int .i64 0] 29)).setRow (w.heap.size + 1) #[.int .u8 0, .slice none 0 0, .int .u32 0, .slice none 0 0, .int .u32 0, .bool false, .int .u32 0, .int .u32 0, .slice none 0 0] = wy at *)
  have s3 := SZ.out.far (p := ⟨w.heap.size + 1 + 1, 0, none⟩) (by simp) (.int .i64 22)
  have e3 := (EZ.out.set_ 0 (.int .i64 22)).cell 0
  have b3 := BZ.out.setCell (p := ⟨w.heap.size + 1 + 1, 0, none⟩) (by simp; omega) (.int .i64 22)
  generalize wy.setCell ⟨w.heap.size + 1 + 1, 0, none⟩ (.int .i64 22) = wz at *
  refine leaves_cons (f := 42) (args := #[.pointer (some ⟨w.heap.size + 1 + 1, 0, none⟩)]) (by simp) (by simp [go_sem]) ?_
  refine (caught_idle ⟨w.heap.size + 1 + 1, 0, none⟩ wz).mono ?_
  rintro e u' w'' ⟨rfl, rfl, rfl⟩
  simp [Leaves, settle, go_sem]
  exact ⟨_, results_two rfl _ _ (w.heap.size + 1) (w.heap.size + 1 + 1) 67 zBC (0, 0) _ (.int .i64 22) rfl s3 Tryd.underlying67 rfl info_body rfl (load_errno _ _ _ e3), rfl, b3⟩
set_option maxRecDepth 100000 in
set_option maxHeartbeats 8000000 in
theorem dec_type (s : SE) (w : World) (hs : s.rd w) (hn : s.n ≤ 1073741824) (hl : s.h.len = 20 + s.n) (hk0 : ¬ Kn s.h.typ) : Calls Tryd.prog 16 #[s.v] w fun e w' => e = .returned (.tuple #[zeroB, .int .i64 21]) ∧ Below w.heap.size w w' := by
  obtain ⟨h, A, n, c, B⟩ := s
  have HN := Lib.hid (deF_new w h A n c)
  have HO := Lib.hid hs
  have hn' : n ≤ 1073741824 := hn
  have hw : IntKind.i64.wrap (20 + (n : Int)) = 20 + n := by rw [IntKind.wrap_i64]; omega
  have hk : IntKind.i64.wrap h.len = h.len := by have := hs.head.len; simp only at this; rw [IntKind.wrap_i64]; omega
  have hl2 : (h.len != 20 + (n : Int)) = false := by simpa using hl
  have HF := Lib.hid (fun W => formOf_no h.typ hs.head.typ.1 hs.head.typ.2 hk0 W)
  clear hl hk0
  clear hn hs
  show Calls Tryd.prog 16 #[stV h A n c] w _
  go_enter_defers Tryd.func16, Tryd.ntmps16
  obtain ⟨a0, a1, a2, a3, a4, a5, a6, a7, a8⟩ := stC_facts HN.out.1.s
  have e0 := HN.out.1.e.cell 0
  have f0 := HN.out.1.e.frozen 0
  go_wp2_with fail
  clear a0 a1 a2 a3 a4 a5 a6 a7 a8 e0 f0
  refine (HF.out _).mono ?_
  rintro e w2 ⟨rfl, hb⟩
  go_wp2_with fail
  have D9 := HN.out.1.later hb
  have B9 := below_then HN.out.2 hb
  refine leaves_cons (f := 42) (args := #[.pointer (some ⟨w.heap.size + 1 + 1, 0, none⟩)]) (by simp) (by simp [go_sem]) ?_
  refine (caught_panicking ⟨w.heap.size + 1 + 1, 0, none⟩ 0 21 [] w2 (D9.e.cell 0) (D9.e.frozen 0)).mono ?_
  rintro e u' w'' ⟨rfl, rfl, rfl⟩
  have s3 := D9.b.far (p := ⟨w.heap.size + 1 + 1, 0, none⟩) (by simp) (.int .i64 21)
  have e3 := (D9.e.set_ 0 (.int .i64 21)).cell 0
  have b3 := B9.setCell (p := ⟨w.heap.size + 1 + 1, 0, none⟩) (by simp; omega) (.int .i64 21)
  clear D9 B9
  generalize w2.setCell ⟨w.heap.size + 1 + 1, 0, none⟩ (.int .i64 21) = wz at *
  simp [Leaves, settle, go_sem]
  exact ⟨_, results_two rfl _ _ (w.heap.size + 1) (w.heap.size + 1 + 1) 67 zBC (0, 0) _ (.int .i64 21) rfl s3 Tryd.underlying67 rfl info_body rfl (load_errno _ _ _ e3), rfl, b3⟩
set_option maxRecDepth 100000 in
set_option maxHeartbeats 8000000 in
theorem dec_read (s : SE) (w : World) (hs : s.rd w) (hn : s.n ≤ 1073741824) (hl : s.h.len = 20 + s.n) (hk0 : Kn s.h.typ) (hf : ¬ fitB s.h.typ s.B) : Calls Tryd.prog 16 #[s.v] w fun e w' => e = .returned (.tuple #[zeroB, .int .i64 28]) ∧ Below w.heap.size w w' := by
  obtain ⟨h, A, n, c, B⟩ := s
  have HN := Lib.hid (deF_new w h A n c)
  have HO := Lib.hid hs
  have hn' : n ≤ 1073741824 := hn
  have hw : IntKind.i64.wrap (20 + (n : Int)) = 20 + n := by rw [IntKind.wrap_i64]; omega
  have hk : IntKind.i64.wrap h.len = h.len := by have := hs.head.len; simp only at this; rw [IntKind.wrap_i64]; omega
  have hl2 : (h.len != 20 + (n : Int)) = false := by simpa using hl
  have HF := Lib.hid (fun W => formOf_yes h.typ hk0 W)
  have hcf := fun args W => enter_w h.typ hk0 args W
  have hcr := fun args W => enter_r h.typ hk0 args W
  have HBl : Hid (B.length = n) := Lib.hid hs.bl
  have HRD := Lib.hid (fun (w0 W : World) (g : Nat) (q : Rq) (hr : RR w0 W g q ⟨B, 0, 0⟩) => read_form h.typ hk0 w0 W g q B hr (by have := HBl.out; omega))
  have HFit := Lib.hid hf
  clear hl hk0 hf
  clear hn hs
  show Calls Tryd.prog 16 #[stV h A n c] w _
  go_enter_defers Tryd.func16, Tryd.ntmps16
  obtain ⟨a0, a1, a2, a3, a4, a5, a6, a7, a8⟩ := stC_facts HN.out.1.s
  have e0 := HN.out.1.e.cell 0
  have f0 := HN.out.1.e.frozen 0
  go_wp2_with fail
  clear a0 a1 a2 a3 a4 a5 a6 a7 a8 e0 f0
  refine (HF.out _).mono ?_
  rintro e w2 ⟨rfl, hb⟩
  have HN2 := Lib.hid (And.intro (HN.out.1.later hb) (below_then HN.out.2 hb))
  clear hb HN
  have HN3 := Lib.hid (And.intro (HN2.out.1.later (W' := w2.alloc (.cells #[.func (.func (wF h.typ)) #[] #[], .func (.func (rF h.typ)) #[] #[]] 81)) ((Below.refl _ _).alloc (Nat.le_refl _) _)) (HN2.out.2.alloc HN2.out.2.size (.cells #[.func (.func (wF h.typ)) #[] #[], .func (.func (rF h.typ)) #[] #[]] 81)))
  have HFM : Hid (Blk (w2.alloc (.cells #[.func (.func (wF h.typ)) #[] #[], .func (.func (rF h.typ)) #[] #[]] 81)) w2.heap.size 81 #[.func (.func (wF h.typ)) #[] #[], .func (.func (rF h.typ)) #[] #[]]) := Blk.new _ _ _
  obtain ⟨a0, a1, a2, a3, a4, a5, a6, a7, a8⟩ := stC_facts HN3.out.1.s
  go_wp2_with (refine wpList_store_row rfl 81 _ _ rfl w2.heap.size #[.func (.func (wF h.typ)) #[] #[], .func (.func (rF h.typ)) #[] #[]] rfl rfl 81 _ (heap_alloc_new w2 _) info_form rfl (by simp [Value.oneCell']) ?_; rw [World.setRow_alloc_new])
  go_wp2_with fail
  clear a0 a1 a2 a3 a4 a5 a6 a7 a8
  generalize w2.heap.size = gf at *
  generalize w2.alloc (.cells #[.func (.func (wF h.typ)) #[] #[], .func (.func (rF h.typ)) #[] #[]] 81) = w3 at *
  refine (rr_new A n c B w3 (HO.out.later HN3.out.2).body HO.out.oct (by omega)).mono ?_
  rintro e w4 ⟨g, q, rfl, hr4⟩
  have HR4 := Lib.hid hr4
  have hf4 := Blk.later HFM.out hr4.b
  have m1 := hf4.cell 1
  clear hr4 hf4 HN2
  go_wp2_with fail
  clear m1
  refine (HRD.out w3 w4 g q HR4.out).mono ?_
  rintro e w5 ⟨b, s5, rfl, hr5, ⟨hb5, ho5⟩, -, hx5, hy5, hz5⟩
  have HY := Lib.hid (And.intro hx5 (And.intro hy5 hz5))
  have hb6 : Below w5.heap.size w5 (w5.alloc (.cells #[.int .u8 b.flags, .slice b.LA b.ln b.lc, .int .u32 b.mask, .slice b.RA b.rn b.rc, .int .u32 b.metric, .bool b.t2, .int .u32 b.fwd, .int .u32 b.tag, .slice b.DA b.dn b.dc] 67)) := (Below.refl _ _).alloc (Nat.le_refl _) _
  have HX6 : Hid (DcR w (w5.alloc (.cells #[.int .u8 b.flags, .slice b.LA b.ln b.lc, .int .u32 b.mask, .slice b.RA b.rn b.rc, .int .u32 b.metric, .bool b.t2, .int .u32 b.fwd, .int .u32 b.tag, .slice b.DA b.dn b.dc] 67)) w.heap.size (w.heap.size + 1) (w.heap.size + 1 + 1) gf w5.heap.size w4.heap.size h A n c b) := Lib.hid ⟨(HN3.out.1.later hr5.b).later hb6, (Blk.later HFM.out hr5.b).later hb6, Blk.new _ _ _, ho5.later hb6, hb5.later hb6, below_then (below_then HN3.out.2 hr5.b) hb6⟩
  have HR6 := Lib.hid (hr5.later hb6)
  have HB4 : Hid (w.heap.size + 1 + 1 < w4.heap.size) := Lib.hid (Nat.lt_of_lt_of_le HN3.out.1.e.lt HR4.out.b.size)
  clear hr5 hb5 ho5 hx5 hy5 hz5 hb6 HR4 HFM HN3
  go_wp2_with (refine wpList_store_row rfl 67 _ _ rfl w5.heap.size #[.int .u8 b.flags, .slice b.LA b.ln b.lc, .int .u32 b.mask, .slice b.RA b.rn b.rc, .int .u32 b.metric, .bool b.t2, .int .u32 b.fwd, .int .u32 b.tag, .slice b.DA b.dn b.dc] rfl rfl 67 _ (heap_alloc_new w5 _) info_body rfl (by simp [Value.oneCell']) ?_; rw [World.setRow_alloc_new])
  go_wp2_with fail
  generalize w5.heap.size = gx at *
  generalize w5.alloc (.cells #[.int .u8 b.flags, .slice b.LA b.ln b.lc, .int .u32 b.mask, .slice b.RA b.rn b.rc, .int .u32 b.metric, .bool b.t2, .int .u32 b.fwd, .int .u32 b.tag, .slice b.DA b.dn b.dc] 67) = w6 at *
  refine (rr_err w3 w6 g q s5 HR6.out).mono ?_
  rintro e w6x ⟨rfl, rfl⟩
  have HLft : Hid (s5.e = 0 → 0 ≤ s5.left) := Lib.hid (by
    intro h0
    unfold Rd.left
    rw [if_pos h0]
    have h1 := HR6.out.rs.le
    have h2 := HR6.out.rs.len
    omega)
  have hno : ¬ (s5.e = 0 ∧ s5.left = 0) := fun hh => HFit.out (HY.out.2.1 hh).1
  have e0 := HX6.out.d.e.cell 0
  have f0 := HX6.out.d.e.frozen 0
  obtain ⟨ee, hee⟩ : ∃ ee, s5.e = ee := ⟨_, rfl⟩
  rw [hee]
  by_cases h0 : ee = 0
  · subst h0
    have hpos : 0 < s5.left := by
      have h1 := HLft.out hee
      have h2 : s5.left ≠ 0 := fun h3 => hno ⟨hee, h3⟩
      omega
    clear hno hee
    go_wp2_with fail
    refine (rr_left w3 w6 g q s5 HR6.out).mono ?_
    rintro e w7 ⟨rfl, kk, rfl⟩
    have HX7 := Lib.hid (HX6.out.later (below_of_drewN _ w6 kk))
    clear e0 f0
    have e0 := HX7.out.d.e.cell 0
    have f0 := HX7.out.d.e.frozen 0
    generalize w6.drewN kk = w7 at *
    obtain ⟨lf, hlf⟩ : ∃ lf, s5.left = lf := ⟨_, rfl⟩
    rw [hlf] at hpos ⊢
    have hd : decide (0 < lf) = true := decide_eq_true hpos
    clear hlf hpos
    have SZ := Lib.hid (HX7.out.d).b
    have EZ := Lib.hid (HX7.out.d).e
    have BZ := Lib.hid (HX7.out.bl)
    go_wp2_with (refine wpList_store_row rfl 67 _ _ rfl (w.heap.size + 1) #[.int .u8 0, .slice none 0 0, .int .u32 0, .slice none 0 0, .int .u32 0, .bool false, .int .u32 0, .int .u32 0, .slice none 0 0] rfl rfl 67 _ SZ.out info_body rfl (by simp [Value.oneCell']) ?_; replace SZ := Lib.hid (SZ.out.setRow #[.int .u8 0, .slice none 0 0, .int .u32 0, .slice none 0 0, .int .u32 0, .bool false, .int .u32 0, .int .u32 0, .slice none 0 0]); replace EZ := Lib.hid (EZ.out.setRow_far (g' := w.heap.size + 1) (by omega) #[.int .u8 0, .slice none 0 0, .int .u32 0, .slice none 0 0, .int .u32 0, .bool false, .int .u32 0, .int .u32 0, .slice none 0 0]); replace BZ := Lib.hid (below_setRow BZ.out (g := w.heap.size + 1) (by omega) #[.int .u8 0, .slice none 0 0, .int .u32 0, .slice none 0 0, .int .u32 0, .bool false, .int .u32 0, .int .u32 0, .slice none 0 0]); clear e0 f0; have e0 := EZ.out.cell 0; have f0 := EZ.out.frozen 0; generalize w7.setRow (w.heap.size + 1) #[.int .u8 0, .slice none 0 0, .int .u32 0, .slice none 0 0, .int .u32 0, .bool false, .int .u32 0, .int .u32 0, .slice none 0 0] = wy at *)
    have s3 := SZ.out.far (p := ⟨w.heap.size + 1 + 1, 0, none⟩) (by simp) (.int .i64 28)
    have e3 := (EZ.out.set_ 0 (.int .i64 28)).cell 0
    have b3 := BZ.out.setCell (p := ⟨w.heap.size + 1 + 1, 0, none⟩) (by simp; omega) (.int .i64 28)
    generalize wy.setCell ⟨w.heap.size + 1 + 1, 0, none⟩ (.int .i64 28) = wz at *
    refine leaves_cons (f := 42) (args := #[.pointer (some ⟨w.heap.size + 1 + 1, 0, none⟩)]) (by simp) (by simp [go_sem]) ?_
    refine (caught_idle ⟨w.heap.size + 1 + 1, 0, none⟩ wz).mono ?_
    rintro e u' w'' ⟨rfl, rfl, rfl⟩
    simp [Leaves, settle, go_sem]
    exact ⟨_, results_two rfl _ _ (w.heap.size + 1) (w.heap.size + 1 + 1) 67 zBC (0, 0) _ (.int .i64 28) rfl s3 Tryd.underlying67 rfl info_body rfl (load_errno _ _ _ e3), rfl, b3⟩
  · have hne : (ee != 0) = true := by simpa using h0
    clear h0 hee hno
    have SZ := Lib.hid (HX6.out.d).b
    have EZ := Lib.hid (HX6.out.d).e
    have BZ := Lib.hid (HX6.out.bl)
    go_wp2_with (refine wpList_store_row rfl 67 _ _ rfl (w.heap.size + 1) #[.int .u8 0, .slice none 0 0, .int .u32 0, .slice none 0 0, .int .u32 0, .bool false, .int .u32 0, .int .u32 0, .slice none 0 0] rfl rfl 67 _ SZ.out info_body rfl (by simp [Value.oneCell']) ?_; replace SZ := Lib.hid (SZ.out.setRow #[.int .u8 0, .slice none 0 0, .int .u32 0, .slice none 0 0, .int .u32 0, .bool false, .int .u32 0, .int .u32 0, .slice none 0 0]); replace EZ := Lib.hid (EZ.out.setRow_far (g' := w.heap.size + 1) (by omega) #[.int .u8 0, .slice none 0 0, .int .u32 0, .slice none 0 0, .int .u32 0, .bool false, .int .u32 0, .int .u32 0, .slice none 0 0]); replace BZ := Lib.hid (below_setRow BZ.out (g := w.heap.size + 1) (by omega) #[.int .u8 0, .slice none 0 0, .int .u32 0, .slice none 0 0, .int .u32 0, .bool false, .int .u32 0, .int .u32 0, .slice none 0 0]); clear e0 f0; have e0 := EZ.out.cell 0; have f0 := EZ.out.frozen 0; generalize w6.setRow (w.heap.size + 1) #[.int .u8 0, .slice none 0 0, .int .u32 0, .slice none 0 0, .int .u32 0, .bool false, .int .u32 0, .int .u32 0, .slice none 0 0] = wy at *)
    have s3 := SZ.out.far (p := ⟨w.heap.size + 1 + 1, 0, none⟩) (by simp) (.int .i64 28)
    have e3 := (EZ.out.set_ 0 (.int .i64 28)).cell 0
    have b3 := BZ.out.setCell (p := ⟨w.heap.size + 1 + 1, 0, none⟩) (by simp; omega) (.int .i64 28)
    generalize wy.setCell ⟨w.heap.size + 1 + 1, 0, none⟩ (.int .i64 28) = wz at *
    refine leaves_cons (f := 42) (args := #[.pointer (some ⟨w.heap.size + 1 + 1, 0, none⟩)]) (by simp) (by simp [go_sem]) ?_
    refine (caught_idle ⟨w.heap.size + 1 + 1, 0, none⟩ wz).mono ?_
    rintro e u' w'' ⟨rfl, rfl, rfl⟩
    simp [Leaves, settle, go_sem]
    exact ⟨_, results_two rfl _ _ (w.heap.size + 1) (w.heap.size + 1 + 1) 67 zBC (0, 0) _ (.int .i64 28) rfl s3 Tryd.underlying67 rfl info_body rfl (load_errno _ _ _ e3), rfl, b3⟩
set_option maxRecDepth 100000 in
set_option maxHeartbeats 8000000 in
theorem dec_may (s : SE) (w : World) (hs : s.rd w) (hn : s.n ≤ 1073741824) (hl : s.h.len = 20 + s.n) (hk0 : Kn s.h.typ) (hf : fitB s.h.typ s.B) (hg : ∀ b : BA, ∀ W, b.rd W → Says s.h.typ s.B b → mayB s.h.typ b = false) : Calls Tryd.prog 16 #[s.v] w fun e w' => e = .returned (.tuple #[zeroB, .int .i64 28]) ∧ Below w.heap.size w w' := by
  obtain ⟨h, A, n, c, B⟩ := s
  have HN := Lib.hid (deF_new w h A n c)
  have HO := Lib.hid hs
  have hn' : n ≤ 1073741824 := hn
  have hw : IntKind.i64.wrap (20 + (n : Int)) = 20 + n := by rw [IntKind.wrap_i64]; omega
  have hk : IntKind.i64.wrap h.len = h.len := by have := hs.head.len; simp only at this; rw [IntKind.wrap_i64]; omega
  have hl2 : (h.len != 20 + (n : Int)) = false := by simpa using hl
  have HF := Lib.hid (fun W => formOf_yes h.typ hk0 W)
  have hcf := fun args W => enter_w h.typ hk0 args W
  have hcr := fun args W => enter_r h.typ hk0 args W
  have HBl : Hid (B.length = n) := Lib.hid hs.bl
  have HRD := Lib.hid (fun (w0 W : World) (g : Nat) (q : Rq) (hr : RR w0 W g q ⟨B, 0, 0⟩) => read_form h.typ hk0 w0 W g q B hr (by have := HBl.out; omega))
  have HMY := Lib.hid (fun (W : World) (b : BA) (hb : b.rd W) => may_any h.typ hk0 W b hb)
  have HFit := Lib.hid hf
  have HG := Lib.hid hg
  clear hl hk0 hf hg
  clear hn hs
  show Calls Tryd.prog 16 #[stV h A n c] w _
  go_enter_defers Tryd.func16, Tryd.ntmps16
  obtain ⟨a0, a1, a2, a3, a4, a5, a6, a7, a8⟩ := stC_facts HN.out.1.s
  have e0 := HN.out.1.e.cell 0
  have f0 := HN.out.1.e.frozen 0
  go_wp2_with fail
  clear a0 a1 a2 a3 a4 a5 a6 a7 a8 e0 f0
  refine (HF.out _).mono ?_
  rintro e w2 ⟨rfl, hb⟩
  have HN2 := Lib.hid (And.intro (HN.out.1.later hb) (below_then HN.out.2 hb))
  clear hb HN
  have HN3 := Lib.hid (And.intro (HN2.out.1.later (W' := w2.alloc (.cells #[.func (.func (wF h.typ)) #[] #[], .func (.func (rF h.typ)) #[] #[]] 81)) ((Below.refl _ _).alloc (Nat.le_refl _) _)) (HN2.out.2.alloc HN2.out.2.size (.cells #[.func (.func (wF h.typ)) #[] #[], .func (.func (rF h.typ)) #[] #[]] 81)))
  have HFM : Hid (Blk (w2.alloc (.cells #[.func (.func (wF h.typ)) #[] #[], .func (.func (rF h.typ)) #[] #[]] 81)) w2.heap.size 81 #[.func (.func (wF h.typ)) #[] #[], .func (.func (rF h.typ)) #[] #[]]) := Blk.new _ _ _
  obtain ⟨a0, a1, a2, a3, a4, a5, a6, a7, a8⟩ := stC_facts HN3.out.1.s
  go_wp2_with (refine wpList_store_row rfl 81 _ _ rfl w2.heap.size #[.func (.func (wF h.typ)) #[] #[], .func (.func (rF h.typ)) #[] #[]] rfl rfl 81 _ (heap_alloc_new w2 _) info_form rfl (by simp [Value.oneCell']) ?_; rw [World.setRow_alloc_new])
  go_wp2_with fail
  clear a0 a1 a2 a3 a4 a5 a6 a7 a8
  generalize w2.heap.size = gf at *
  generalize w2.alloc (.cells #[.func (.func (wF h.typ)) #[] #[], .func (.func (rF h.typ)) #[] #[]] 81) = w3 at *
  refine (rr_new A n c B w3 (HO.out.later HN3.out.2).body HO.out.oct (by omega)).mono ?_
  rintro e w4 ⟨g, q, rfl, hr4⟩
  have HR4 := Lib.hid hr4
  have hf4 := Blk.later HFM.out hr4.b
  have m1 := hf4.cell 1
  clear hr4 hf4 HN2
  go_wp2_with fail
  clear m1
  refine (HRD.out w3 w4 g q HR4.out).mono ?_
  rintro e w5 ⟨b, s5, rfl, hr5, ⟨hb5, ho5⟩, -, hx5, hy5, hz5⟩
  have HY := Lib.hid (And.intro hx5 (And.intro hy5 hz5))
  have hb6 : Below w5.heap.size w5 (w5.alloc (.cells #[.int .u8 b.flags, .slice b.LA b.ln b.lc, .int .u32 b.mask, .slice b.RA b.rn b.rc, .int .u32 b.metric, .bool b.t2, .int .u32 b.fwd, .int .u32 b.tag, .slice b.DA b.dn b.dc] 67)) := (Below.refl _ _).alloc (Nat.le_refl _) _
  have HX6 : Hid (DcR w (w5.alloc (.cells #[.int .u8 b.flags, .slice b.LA b.ln b.lc, .int .u32 b.mask, .slice b.RA b.rn b.rc, .int .u32 b.metric, .bool b.t2, .int .u32 b.fwd, .int .u32 b.tag, .slice b.DA b.dn b.dc] 67)) w.heap.size (w.heap.size + 1) (w.heap.size + 1 + 1) gf w5.heap.size w4.heap.size h A n c b) := Lib.hid ⟨(HN3.out.1.later hr5.b).later hb6, (Blk.later HFM.out hr5.b).later hb6, Blk.new _ _ _, ho5.later hb6, hb5.later hb6, below_then (below_then HN3.out.2 hr5.b) hb6⟩
  have HR6 := Lib.hid (hr5.later hb6)
  have HB4 : Hid (w.heap.size + 1 + 1 < w4.heap.size) := Lib.hid (Nat.lt_of_lt_of_le HN3.out.1.e.lt HR4.out.b.size)
  clear hr5 hb5 ho5 hx5 hy5 hz5 hb6 HR4 HFM HN3
  go_wp2_with (refine wpList_store_row rfl 67 _ _ rfl w5.heap.size #[.int .u8 b.flags, .slice b.LA b.ln b.lc, .int .u32 b.mask, .slice b.RA b.rn b.rc, .int .u32 b.metric, .bool b.t2, .int .u32 b.fwd, .int .u32 b.tag, .slice b.DA b.dn b.dc] rfl rfl 67 _ (heap_alloc_new w5 _) info_body rfl (by simp [Value.oneCell']) ?_; rw [World.setRow_alloc_new])
  go_wp2_with fail
  generalize w5.heap.size = gx at *
  generalize w5.alloc (.cells #[.int .u8 b.flags, .slice b.LA b.ln b.lc, .int .u32 b.mask, .slice b.RA b.rn b.rc, .int .u32 b.metric, .bool b.t2, .int .u32 b.fwd, .int .u32 b.tag, .slice b.DA b.dn b.dc] 67) = w6 at *
  refine (rr_err w3 w6 g q s5 HR6.out).mono ?_
  rintro e w6x ⟨rfl, rfl⟩
  have HLft : Hid (s5.e = 0 → 0 ≤ s5.left) := Lib.hid (by
    intro h0
    unfold Rd.left
    rw [if_pos h0]
    have h1 := HR6.out.rs.le
    have h2 := HR6.out.rs.len
    omega)
  obtain ⟨he5, hl5⟩ := HY.out.2.2 HFit.out
  obtain ⟨-, hsy⟩ := HY.out.2.1 ⟨he5, hl5⟩
  have HSy := Lib.hid hsy
  rw [he5]
  clear hsy he5 HLft HY
  go_wp2_with fail
  refine (rr_left w3 w6 g q s5 HR6.out).mono ?_
  rintro e w7 ⟨rfl, kk, rfl⟩
  have HX7 := Lib.hid (HX6.out.later (below_of_drewN _ w6 kk))
  clear HX6 HR6
  generalize w6.drewN kk = w7 at *
  rw [hl5]
  clear hl5
  obtain ⟨a0, a1, a2, a3, a4, a5, a6, a7, a8⟩ := stC_facts HX7.out.d.s
  obtain ⟨c0, c1, c2, c3, c4, c5, c6, c7, c8⟩ := body_facts HX7.out.x
  go_wp2_with fail
  clear a0 a1 a2 a3 a4 a5 a6 a7 a8 c0 c1 c2 c3 c4 c5 c6 c7 c8
  have hmy := HMY.out w7 b HX7.out.r
  rw [HG.out b w7 HX7.out.r HSy.out] at hmy
  refine hmy.mono ?_
  clear hmy
  rintro e w8 ⟨he, hb8⟩
  rw [if_neg (by decide)] at he
  subst he
  have HX8 := Lib.hid (HX7.out.later hb8)
  clear hb8 HX7
  go_wp2_with fail
  have D9 := HX8.out.d
  have B9 := HX8.out.bl
  refine leaves_cons (f := 42) (args := #[.pointer (some ⟨w.heap.size + 1 + 1, 0, none⟩)]) (by simp) (by simp [go_sem]) ?_
  refine (caught_panicking ⟨w.heap.size + 1 + 1, 0, none⟩ 0 28 [] w8 (D9.e.cell 0) (D9.e.frozen 0)).mono ?_
  rintro e u' w'' ⟨rfl, rfl, rfl⟩
  have s3 := D9.b.far (p := ⟨w.heap.size + 1 + 1, 0, none⟩) (by simp) (.int .i64 28)
  have e3 := (D9.e.set_ 0 (.int .i64 28)).cell 0
  have b3 := B9.setCell (p := ⟨w.heap.size + 1 + 1, 0, none⟩) (by simp; omega) (.int .i64 28)
  clear D9 B9
  generalize w8.setCell ⟨w.heap.size + 1 + 1, 0, none⟩ (.int .i64 28) = wz at *
  simp [Leaves, settle, go_sem]
  exact ⟨_, results_two rfl _ _ (w.heap.size + 1) (w.heap.size + 1 + 1) 67 zBC (0, 0) _ (.int .i64 28) rfl s3 Tryd.underlying67 rfl info_body rfl (load_errno _ _ _ e3), rfl, b3⟩
set_option maxRecDepth 100000 in
set_option maxHeartbeats 8000000 in
theorem dec_same (s : SE) (w : World) (hs : s.rd w) (hn : s.n ≤ 1073741824) (hl : s.h.len = 20 + s.n) (hk0 : Kn s.h.typ) (hf : fitB s.h.typ s.B) (hg : ∀ b : BA, ∀ W, b.rd W → Says s.h.typ s.B b → mayB s.h.typ b = true) (hq : ∀ b : BA, ∀ W, b.rd W → Says s.h.typ s.B b → bdB s.h.typ b ≠ s.B) : Calls Tryd.prog 16 #[s.v] w fun e w' => e = .returned (.tuple #[zeroB, .int .i64 28]) ∧ Below w.heap.size w w' := by
  obtain ⟨h, A, n, c, B⟩ := s
  have HN := Lib.hid (deF_new w h A n c)
  have HO := Lib.hid hs
  have hn' : n ≤ 1073741824 := hn
  have hw : IntKind.i64.wrap (20 + (n : Int)) = 20 + n := by rw [IntKind.wrap_i64]; omega
  have hk : IntKind.i64.wrap h.len = h.len := by have := hs.head.len; simp only at this; rw [IntKind.wrap_i64]; omega
  have hl2 : (h.len != 20 + (n : Int)) = false := by simpa using hl
  have HF := Lib.hid (fun W => formOf_yes h.typ hk0 W)
  have hcf := fun args W => enter_w h.typ hk0 args W
  have hcr := fun args W => enter_r h.typ hk0 args W
  have HBl : Hid (B.length = n) := Lib.hid hs.bl
  have HRD := Lib.hid (fun (w0 W : World) (g : Nat) (q : Rq) (hr : RR w0 W g q ⟨B, 0, 0⟩) => read_form h.typ hk0 w0 W g q B hr (by have := HBl.out; omega))
  have HMY := Lib.hid (fun (W : World) (b : BA) (hb : b.rd W) => may_any h.typ hk0 W b hb)
  have HFit := Lib.hid hf
  have HFW := Lib.hid (fun (w0 W : World) (g : Nat) (b : BA) (hw : WR w0 W g 65535 []) (hb : b.rd w0) (hl : b.ln ≤ 65535) (hm : b.metric ≤ 16777215) => formW_any h.typ hk0 w0 W g 65535 [] hw b hb hl hm)
  have HLen := Lib.hid hl
  have HG := Lib.hid hg
  have HQ := Lib.hid hq
  clear hl hk0 hf hg hq
  clear hn hs
  show Calls Tryd.prog 16 #[stV h A n c] w _
  go_enter_defers Tryd.func16, Tryd.ntmps16
  obtain ⟨a0, a1, a2, a3, a4, a5, a6, a7, a8⟩ := stC_facts HN.out.1.s
  have e0 := HN.out.1.e.cell 0
  have f0 := HN.out.1.e.frozen 0
  go_wp2_with fail
  clear a0 a1 a2 a3 a4 a5 a6 a7 a8 e0 f0
  refine (HF.out _).mono ?_
  rintro e w2 ⟨rfl, hb⟩
  have HN2 := Lib.hid (And.intro (HN.out.1.later hb) (below_then HN.out.2 hb))
  clear hb HN
  have HN3 := Lib.hid (And.intro (HN2.out.1.later (W' := w2.alloc (.cells #[.func (.func (wF h.typ)) #[] #[], .func (.func (rF h.typ)) #[] #[]] 81)) ((Below.refl _ _).alloc (Nat.le_refl _) _)) (HN2.out.2.alloc HN2.out.2.size (.cells #[.func (.func (wF h.typ)) #[] #[], .func (.func (rF h.typ)) #[] #[]] 81)))
  have HFM : Hid (Blk (w2.alloc (.cells #[.func (.func (wF h.typ)) #[] #[], .func (.func (rF h.typ)) #[] #[]] 81)) w2.heap.size 81 #[.func (.func (wF h.typ)) #[] #[], .func (.func (rF h.typ)) #[] #[]]) := Blk.new _ _ _
  obtain ⟨a0, a1, a2, a3, a4, a5, a6, a7, a8⟩ := stC_facts HN3.out.1.s
  go_wp2_with (refine wpList_store_row rfl 81 _ _ rfl w2.heap.size #[.func (.func (wF h.typ)) #[] #[], .func (.func (rF h.typ)) #[] #[]] rfl rfl 81 _ (heap_alloc_new w2 _) info_form rfl (by simp [Value.oneCell']) ?_; rw [World.setRow_alloc_new])
  go_wp2_with fail
  clear a0 a1 a2 a3 a4 a5 a6 a7 a8
  generalize w2.heap.size = gf at *
  generalize w2.alloc (.cells #[.func (.func (wF h.typ)) #[] #[], .func (.func (rF h.typ)) #[] #[]] 81) = w3 at *
  refine (rr_new A n c B w3 (HO.out.later HN3.out.2).body HO.out.oct (by omega)).mono ?_
  rintro e w4 ⟨g, q, rfl, hr4⟩
  have HR4 := Lib.hid hr4
  have hf4 := Blk.later HFM.out hr4.b
  have m1 := hf4.cell 1
  clear hr4 hf4 HN2
  go_wp2_with fail
  clear m1
  refine (HRD.out w3 w4 g q HR4.out).mono ?_
  rintro e w5 ⟨b, s5, rfl, hr5, ⟨hb5, ho5⟩, -, hx5, hy5, hz5⟩
  have HY := Lib.hid (And.intro hx5 (And.intro hy5 hz5))
  have hb6 : Below w5.heap.size w5 (w5.alloc (.cells #[.int .u8 b.flags, .slice b.LA b.ln b.lc, .int .u32 b.mask, .slice b.RA b.rn b.rc, .int .u32 b.metric, .bool b.t2, .int .u32 b.fwd, .int .u32 b.tag, .slice b.DA b.dn b.dc] 67)) := (Below.refl _ _).alloc (Nat.le_refl _) _
  have HX6 : Hid (DcR w (w5.alloc (.cells #[.int .u8 b.flags, .slice b.LA b.ln b.lc, .int .u32 b.mask, .slice b.RA b.rn b.rc, .int .u32 b.metric, .bool b.t2, .int .u32 b.fwd, .int .u32 b.tag, .slice b.DA b.dn b.dc] 67)) w.heap.size (w.heap.size + 1) (w.heap.size + 1 + 1) gf w5.heap.size w4.heap.size h A n c b) := Lib.hid ⟨(HN3.out.1.later hr5.b).later hb6, (Blk.later HFM.out hr5.b).later hb6, Blk.new _ _ _, ho5.later hb6, hb5.later hb6, below_then (below_then HN3.out.2 hr5.b) hb6⟩
  have HR6 := Lib.hid (hr5.later hb6)
  have HB4 : Hid (w.heap.size + 1 + 1 < w4.heap.size) := Lib.hid (Nat.lt_of_lt_of_le HN3.out.1.e.lt HR4.out.b.size)
  clear hr5 hb5 ho5 hx5 hy5 hz5 hb6 HR4 HFM HN3
  go_wp2_with (refine wpList_store_row rfl 67 _ _ rfl w5.heap.size #[.int .u8 b.flags, .slice b.LA b.ln b.lc, .int .u32 b.mask, .slice b.RA b.rn b.rc, .int .u32 b.metric, .bool b.t2, .int .u32 b.fwd, .int .u32 b.tag, .slice b.DA b.dn b.dc] rfl rfl 67 _ (heap_alloc_new w5 _) info_body rfl (by simp [Value.oneCell']) ?_; rw [World.setRow_alloc_new])
  go_wp2_with fail
  generalize w5.heap.size = gx at *
  generalize w5.alloc (.cells #[.int .u8 b.flags, .slice b.LA b.ln b.lc, .int .u32 b.mask, .slice b.RA b.rn b.rc, .int .u32 b.metric, .bool b.t2, .int .u32 b.fwd, .int .u32 b.tag, .slice b.DA b.dn b.dc] 67) = w6 at *
  refine (rr_err w3 w6 g q s5 HR6.out).mono ?_
  rintro e w6x ⟨rfl, rfl⟩
  have HLft : Hid (s5.e = 0 → 0 ≤ s5.left) := Lib.hid (by
    intro h0
    unfold Rd.left
    rw [if_pos h0]
    have h1 := HR6.out.rs.le
    have h2 := HR6.out.rs.len
    omega)
  obtain ⟨he5, hl5⟩ := HY.out.2.2 HFit.out
  obtain ⟨-, hsy⟩ := HY.out.2.1 ⟨he5, hl5⟩
  have HSy := Lib.hid hsy
  rw [he5]
  clear hsy he5 HLft HY
  go_wp2_with fail
  refine (rr_left w3 w6 g q s5 HR6.out).mono ?_
  rintro e w7 ⟨rfl, kk, rfl⟩
  have HX7 := Lib.hid (HX6.out.later (below_of_drewN _ w6 kk))
  clear HX6 HR6
  generalize w6.drewN kk = w7 at *
  rw [hl5]
  clear hl5
  obtain ⟨a0, a1, a2, a3, a4, a5, a6, a7, a8⟩ := stC_facts HX7.out.d.s
  obtain ⟨c0, c1, c2, c3, c4, c5, c6, c7, c8⟩ := body_facts HX7.out.x
  go_wp2_with fail
  clear a0 a1 a2 a3 a4 a5 a6 a7 a8 c0 c1 c2 c3 c4 c5 c6 c7 c8
  have hmy := HMY.out w7 b HX7.out.r
  rw [HG.out b w7 HX7.out.r HSy.out] at hmy
  refine hmy.mono ?_
  clear hmy
  rintro e w8 ⟨he, hb8⟩
  rw [if_pos rfl] at he
  subst he
  have HX8 := Lib.hid (HX7.out.later hb8)
  clear hb8
  go_wp2_with fail
  refine (wr_new 65535 w8 (by omega) (by omega)).mono ?_
  rintro e w9 ⟨g2, rfl, hw9, hg9, hg9'⟩
  have HX9 := Lib.hid (HX8.out.later hw9.b)
  have hbp : Below w9.heap.size w9 (w9.alloc (.cells #[.pointer (some ⟨g2, 0, none⟩)] 87)) := (Below.refl _ _).alloc (Nat.le_refl _) _
  have HXa := Lib.hid (HX9.out.later hbp)
  have HPa : Hid (Blk (w9.alloc (.cells #[.pointer (some ⟨g2, 0, none⟩)] 87)) w9.heap.size 87 #[.pointer (some ⟨g2, 0, none⟩)]) := Lib.hid (Blk.new _ _ _)
  have hwa := hw9.alloc (.cells #[.pointer (some ⟨g2, 0, none⟩)] 87)
  have HWa := Lib.hid hwa
  obtain ⟨c0, c1, c2, c3, c4, c5, c6, c7, c8⟩ := body_facts HXa.out.x
  have m0 := HXa.out.f.cell 0
  have p0 := HPa.out.cell 0
  clear hwa hw9 hg9 hg9' hbp HX9
  go_wp2_with fail
  clear c0 c1 c2 c3 c4 c5 c6 c7 c8 m0 p0
  generalize w9.heap.size = gp at *
  generalize w9.alloc (.cells #[.pointer (some ⟨g2, 0, none⟩)] 87) = wa at *
  have HLn : Hid (b.ln ≤ 65535 ∧ b.metric ≤ 16777215 ∧ (bdB h.typ b).length ≤ 65535) := Lib.hid (by
    have h1 := says_ln HX8.out.r HSy.out HFit.out
    have h2 := HBl.out
    have h3 := HO.out.head.len
    have h4 := HLen.out
    have h5 := may_metric (HG.out b w7 HX7.out.r HSy.out)
    have h6 : (bdB h.typ b).length = B.length := says_len HO.out.oct HSy.out HFit.out
    simp only at h3
    exact ⟨by omega, h5, by omega⟩)
  refine (HFW.out w8 wa g2 b HWa.out HX8.out.r HLn.out.1 HLn.out.2.1).mono ?_
  rintro e wb ⟨rfl, hwb, hkb⟩
  have HXb := Lib.hid (HX8.out.later hwb.b)
  have HPb : Hid (Blk wb gp 87 #[.pointer (some ⟨g2, 0, none⟩)]) := Lib.hid (hkb.2 _ _ _ HPa.out (by decide) (by decide))
  have p0 := HPb.out.cell 0
  have HWb := Lib.hid hwb
  clear hwb hkb HXa HPa HWa
  go_wp2_with fail
  clear p0
  rw [List.nil_append] at *
  refine (wr_done_yes w8 wb g2 65535 _ HWb.out (by have := HLn.out.2.2; omega)).mono ?_
  rintro e wc ⟨u, rfl, hu, hbc⟩
  have HXc := Lib.hid (HXb.out.later hbc)
  obtain ⟨A3, c3, hv, hc3, hm3, hr3⟩ := own_shape hu
  subst hv
  have HRc := Lib.hid hr3
  clear hu hbc HXb HWb HPb hc3 hm3 hr3
  have a8 := (HXc.out.d.s).cell 8
  go_wp2_with fail
  clear a8
  refine (sliceEqual_any A3 A (bdB h.typ b).length c3 n c _ B wc _ _ HRc.out (HO.out.later HXc.out.bl).body (by have := HLn.out.2.2; omega) (by omega)).mono ?_
  rintro e wd ⟨rfl, kd, rfl⟩
  have HXd := Lib.hid (HXc.out.later (below_of_drewN _ wc kd))
  clear HRc HXc
  generalize wc.drewN kd = wd at *
  have e0 := HXd.out.d.e.cell 0
  have f0 := HXd.out.d.e.frozen 0
  have hne : decide (bdB h.typ b = B) = false := decide_eq_false (HQ.out b wd HXd.out.r HSy.out)
  rw [hne]
  clear hne
  have SZ := Lib.hid (HXd.out.d).b
  have EZ := Lib.hid (HXd.out.d).e
  have BZ := Lib.hid (HXd.out.bl)
  go_wp2_with (refine wpList_store_row rfl 67 _ _ rfl (w.heap.size + 1) #[.int .u8 0, .slice none 0 0, .int .u32 0, .slice none 0 0, .int .u32 0, .bool false, .int .u32 0, .int .u32 0, .slice none 0 0] rfl rfl 67 _ SZ.out info_body rfl (by simp [Value.oneCell']) ?_; replace SZ := Lib.hid (SZ.out.setRow #[.int .u8 0, .slice none 0 0, .int .u32 0, .slice none 0 0, .int .u32 0, .bool false, .int .u32 0, .int .u32 0, .slice none 0 0]); replace EZ := Lib.hid (EZ.out.setRow_far (g' := w.heap.size + 1) (by omega) #[.int .u8 0, .slice none 0 0, .int .u32 0, .slice none 0 0, .int .u32 0, .bool false, .int .u32 0, .int .u32 0, .slice none 0 0]); replace BZ := Lib.hid (below_setRow BZ.out (g := w.heap.size + 1) (by omega) #[.int .u8 0, .slice none 0 0, .int .u32 0, .slice none 0 0, .int .u32 0, .bool false, .int .u32 0, .int .u32 0, .slice none 0 0]); clear e0 f0; have e0 := EZ.out.cell 0; have f0 := EZ.out.frozen 0; generalize wd.setRow (w.heap.size + 1) #[.int .u8 0, .slice none 0 0, .int .u32 0, .slice none 0 0, .int .u32 0, .bool false, .int .u32 0, .int .u32 0, .slice none 0 0] = wy at *)
  have s3 := SZ.out.far (p := ⟨w.heap.size + 1 + 1, 0, none⟩) (by simp) (.int .i64 28)
  have e3 := (EZ.out.set_ 0 (.int .i64 28)).cell 0
  have b3 := BZ.out.setCell (p := ⟨w.heap.size + 1 + 1, 0, none⟩) (by simp; omega) (.int .i64 28)
  generalize wy.setCell ⟨w.heap.size + 1 + 1, 0, none⟩ (.int .i64 28) = wz at *
  refine leaves_cons (f := 42) (args := #[.pointer (some ⟨w.heap.size + 1 + 1, 0, none⟩)]) (by simp) (by simp [go_sem]) ?_
  refine (caught_idle ⟨w.heap.size + 1 + 1, 0, none⟩ wz).mono ?_
  rintro e u' w'' ⟨rfl, rfl, rfl⟩
  simp [Leaves, settle, go_sem]
  exact ⟨_, results_two rfl _ _ (w.heap.size + 1) (w.heap.size + 1 + 1) 67 zBC (0, 0) _ (.int .i64 28) rfl s3 Tryd.underlying67 rfl info_body rfl (load_errno _ _ _ e3), rfl, b3⟩
set_option maxRecDepth 100000 in
set_option maxHeartbeats 8000000 in
theorem dec_ok (s : SE) (w : World) (hs : s.rd w) (hn : s.n ≤ 1073741824) (hl : s.h.len = 20 + s.n) (hk0 : Kn s.h.typ) (hf : fitB s.h.typ s.B) (hg : ∀ b : BA, ∀ W, b.rd W → Says s.h.typ s.B b → mayB s.h.typ b = true) (hq : ∀ b : BA, ∀ W, b.rd W → Says s.h.typ s.B b → bdB s.h.typ b = s.B) : Calls Tryd.prog 16 #[s.v] w fun e w' => ∃ b : BA, e = .returned (.tuple #[b.v, .int .i64 0]) ∧ Says s.h.typ s.B b ∧ b.rd w' ∧ b.own w.heap.size w' ∧ Below w.heap.size w w' := by
  obtain ⟨h, A, n, c, B⟩ := s
  have HN := Lib.hid (deF_new w h A n c)
  have HO := Lib.hid hs
  have hn' : n ≤ 1073741824 := hn
  have hw : IntKind.i64.wrap (20 + (n : Int)) = 20 + n := by rw [IntKind.wrap_i64]; omega
  have hk : IntKind.i64.wrap h.len = h.len := by have := hs.head.len; simp only at this; rw [IntKind.wrap_i64]; omega
  have hl2 : (h.len != 20 + (n : Int)) = false := by simpa using hl
  have HF := Lib.hid (fun W => formOf_yes h.typ hk0 W)
  have hcf := fun args W => enter_w h.typ hk0 args W
  have hcr := fun args W => enter_r h.typ hk0 args W
  have HBl : Hid (B.length = n) := Lib.hid hs.bl
  have HRD := Lib.hid (fun (w0 W : World) (g : Nat) (q : Rq) (hr : RR w0 W g q ⟨B, 0, 0⟩) => read_form h.typ hk0 w0 W g q B hr (by have := HBl.out; omega))
  have HMY := Lib.hid (fun (W : World) (b : BA) (hb : b.rd W) => may_any h.typ hk0 W b hb)
  have HFit := Lib.hid hf
  have HFW := Lib.hid (fun (w0 W : World) (g : Nat) (b : BA) (hw : WR w0 W g 65535 []) (hb : b.rd w0) (hl : b.ln ≤ 65535) (hm : b.metric ≤ 16777215) => formW_any h.typ hk0 w0 W g 65535 [] hw b hb hl hm)
  have HLen := Lib.hid hl
  have HG := Lib.hid hg
  have HQ := Lib.hid hq
  clear hl hk0 hf hg hq
  clear hn hs
  show Calls Tryd.prog 16 #[stV h A n c] w _
  go_enter_defers Tryd.func16, Tryd.ntmps16
  obtain ⟨a0, a1, a2, a3, a4, a5, a6, a7, a8⟩ := stC_facts HN.out.1.s
  have e0 := HN.out.1.e.cell 0
  have f0 := HN.out.1.e.frozen 0
  go_wp2_with fail
  clear a0 a1 a2 a3 a4 a5 a6 a7 a8 e0 f0
  refine (HF.out _).mono ?_
  rintro e w2 ⟨rfl, hb⟩
  have HN2 := Lib.hid (And.intro (HN.out.1.later hb) (below_then HN.out.2 hb))
  clear hb HN
  have HN3 := Lib.hid (And.intro (HN2.out.1.later (W' := w2.alloc (.cells #[.func (.func (wF h.typ)) #[] #[], .func (.func (rF h.typ)) #[] #[]] 81)) ((Below.refl _ _).alloc (Nat.le_refl _) _)) (HN2.out.2.alloc HN2.out.2.size (.cells #[.func (.func (wF h.typ)) #[] #[], .func (.func (rF h.typ)) #[] #[]] 81)))
  have HFM : Hid (Blk (w2.alloc (.cells #[.func (.func (wF h.typ)) #[] #[], .func (.func (rF h.typ)) #[] #[]] 81)) w2.heap.size 81 #[.func (.func (wF h.typ)) #[] #[], .func (.func (rF h.typ)) #[] #[]]) := Blk.new _ _ _
  obtain ⟨a0, a1, a2, a3, a4, a5, a6, a7, a8⟩ := stC_facts HN3.out.1.s
  go_wp2_with (refine wpList_store_row rfl 81 _ _ rfl w2.heap.size #[.func (.func (wF h.typ)) #[] #[], .func (.func (rF h.typ)) #[] #[]] rfl rfl 81 _ (heap_alloc_new w2 _) info_form rfl (by simp [Value.oneCell']) ?_; rw [World.setRow_alloc_new])
  go_wp2_with fail
  clear a0 a1 a2 a3 a4 a5 a6 a7 a8
  generalize w2.heap.size = gf at *
  generalize w2.alloc (.cells #[.func (.func (wF h.typ)) #[] #[], .func (.func (rF h.typ)) #[] #[]] 81) = w3 at *
  refine (rr_new A n c B w3 (HO.out.later HN3.out.2).body HO.out.oct (by omega)).mono ?_
  rintro e w4 ⟨g, q, rfl, hr4⟩
  have HR4 := Lib.hid hr4
  have hf4 := Blk.later HFM.out hr4.b
  have m1 := hf4.cell 1
  clear hr4 hf4 HN2
  go_wp2_with fail
  clear m1
  refine (HRD.out w3 w4 g q HR4.out).mono ?_
  rintro e w5 ⟨b, s5, rfl, hr5, ⟨hb5, ho5⟩, -, hx5, hy5, hz5⟩
  have HY := Lib.hid (And.intro hx5 (And.intro hy5 hz5))
  have hb6 : Below w5.heap.size w5 (w5.alloc (.cells #[.int .u8 b.flags, .slice b.LA b.ln b.lc, .int .u32 b.mask, .slice b.RA b.rn b.rc, .int .u32 b.metric, .bool b.t2, .int .u32 b.fwd, .int .u32 b.tag, .slice b.DA b.dn b.dc] 67)) := (Below.refl _ _).alloc (Nat.le_refl _) _
  have HX6 : Hid (DcR w (w5.alloc (.cells #[.int .u8 b.flags, .slice b.LA b.ln b.lc, .int .u32 b.mask, .slice b.RA b.rn b.rc, .int .u32 b.metric, .bool b.t2, .int .u32 b.fwd, .int .u32 b.tag, .slice b.DA b.dn b.dc] 67)) w.heap.size (w.heap.size + 1) (w.heap.size + 1 + 1) gf w5.heap.size w4.heap.size h A n c b) := Lib.hid ⟨(HN3.out.1.later hr5.b).later hb6, (Blk.later HFM.out hr5.b).later hb6, Blk.new _ _ _, ho5.later hb6, hb5.later hb6, below_then (below_then HN3.out.2 hr5.b) hb6⟩
  have HR6 := Lib.hid (hr5.later hb6)
  have HB4 : Hid (w.heap.size + 1 + 1 < w4.heap.size) := Lib.hid (Nat.lt_of_lt_of_le HN3.out.1.e.lt HR4.out.b.size)
  clear hr5 hb5 ho5 hx5 hy5 hz5 hb6 HR4 HFM HN3
  go_wp2_with (refine wpList_store_row rfl 67 _ _ rfl w5.heap.size #[.int .u8 b.flags, .slice b.LA b.ln b.lc, .int .u32 b.mask, .slice b.RA b.rn b.rc, .int .u32 b.metric, .bool b.t2, .int .u32 b.fwd, .int .u32 b.tag, .slice b.DA b.dn b.dc] rfl rfl 67 _ (heap_alloc_new w5 _) info_body rfl (by simp [Value.oneCell']) ?_; rw [World.setRow_alloc_new])
  go_wp2_with fail
  generalize w5.heap.size = gx at *
  generalize w5.alloc (.cells #[.int .u8 b.flags, .slice b.LA b.ln b.lc, .int .u32 b.mask, .slice b.RA b.rn b.rc, .int .u32 b.metric, .bool b.t2, .int .u32 b.fwd, .int .u32 b.tag, .slice b.DA b.dn b.dc] 67) = w6 at *
  refine (rr_err w3 w6 g q s5 HR6.out).mono ?_
  rintro e w6x ⟨rfl, rfl⟩
  have HLft : Hid (s5.e = 0 → 0 ≤ s5.left) := Lib.hid (by
    intro h0
    unfold Rd.left
    rw [if_pos h0]
    have h1 := HR6.out.rs.le
    have h2 := HR6.out.rs.len
    omega)
  obtain ⟨he5, hl5⟩ := HY.out.2.2 HFit.out
  obtain ⟨-, hsy⟩ := HY.out.2.1 ⟨he5, hl5⟩
  have HSy := Lib.hid hsy
  rw [he5]
  clear hsy he5 HLft HY
  go_wp2_with fail
  refine (rr_left w3 w6 g q s5 HR6.out).mono ?_
  rintro e w7 ⟨rfl, kk, rfl⟩
  have HX7 := Lib.hid (HX6.out.later (below_of_drewN _ w6 kk))
  clear HX6 HR6
  generalize w6.drewN kk = w7 at *
  rw [hl5]
  clear hl5
  obtain ⟨a0, a1, a2, a3, a4, a5, a6, a7, a8⟩ := stC_facts HX7.out.d.s
  obtain ⟨c0, c1, c2, c3, c4, c5, c6, c7, c8⟩ := body_facts HX7.out.x
  go_wp2_with fail
  clear a0 a1 a2 a3 a4 a5 a6 a7 a8 c0 c1 c2 c3 c4 c5 c6 c7 c8
  have hmy := HMY.out w7 b HX7.out.r
  rw [HG.out b w7 HX7.out.r HSy.out] at hmy
  refine hmy.mono ?_
  clear hmy
  rintro e w8 ⟨he, hb8⟩
  rw [if_pos rfl] at he
  subst he
  have HX8 := Lib.hid (HX7.out.later hb8)
  clear hb8
  go_wp2_with fail
  refine (wr_new 65535 w8 (by omega) (by omega)).mono ?_
  rintro e w9 ⟨g2, rfl, hw9, hg9, hg9'⟩
  have HX9 := Lib.hid (HX8.out.later hw9.b)
  have hbp : Below w9.heap.size w9 (w9.alloc (.cells #[.pointer (some ⟨g2, 0, none⟩)] 87)) := (Below.refl _ _).alloc (Nat.le_refl _) _
  have HXa := Lib.hid (HX9.out.later hbp)
  have HPa : Hid (Blk (w9.alloc (.cells #[.pointer (some ⟨g2, 0, none⟩)] 87)) w9.heap.size 87 #[.pointer (some ⟨g2, 0, none⟩)]) := Lib.hid (Blk.new _ _ _)
  have hwa := hw9.alloc (.cells #[.pointer (some ⟨g2, 0, none⟩)] 87)
  have HWa := Lib.hid hwa
  obtain ⟨c0, c1, c2, c3, c4, c5, c6, c7, c8⟩ := body_facts HXa.out.x
  have m0 := HXa.out.f.cell 0
  have p0 := HPa.out.cell 0
  clear hwa hw9 hg9 hg9' hbp HX9
  go_wp2_with fail
  clear c0 c1 c2 c3 c4 c5 c6 c7 c8 m0 p0
  generalize w9.heap.size = gp at *
  generalize w9.alloc (.cells #[.pointer (some ⟨g2, 0, none⟩)] 87) = wa at *
  have HLn : Hid (b.ln ≤ 65535 ∧ b.metric ≤ 16777215 ∧ (bdB h.typ b).length ≤ 65535) := Lib.hid (by
    have h1 := says_ln HX8.out.r HSy.out HFit.out
    have h2 := HBl.out
    have h3 := HO.out.head.len
    have h4 := HLen.out
    have h5 := may_metric (HG.out b w7 HX7.out.r HSy.out)
    have h6 : (bdB h.typ b).length = B.length := says_len HO.out.oct HSy.out HFit.out
    simp only at h3
    exact ⟨by omega, h5, by omega⟩)
  refine (HFW.out w8 wa g2 b HWa.out HX8.out.r HLn.out.1 HLn.out.2.1).mono ?_
  rintro e wb ⟨rfl, hwb, hkb⟩
  have HXb := Lib.hid (HX8.out.later hwb.b)
  have HPb : Hid (Blk wb gp 87 #[.pointer (some ⟨g2, 0, none⟩)]) := Lib.hid (hkb.2 _ _ _ HPa.out (by decide) (by decide))
  have p0 := HPb.out.cell 0
  have HWb := Lib.hid hwb
  clear hwb hkb HXa HPa HWa
  go_wp2_with fail
  clear p0
  rw [List.nil_append] at *
  refine (wr_done_yes w8 wb g2 65535 _ HWb.out (by have := HLn.out.2.2; omega)).mono ?_
  rintro e wc ⟨u, rfl, hu, hbc⟩
  have HXc := Lib.hid (HXb.out.later hbc)
  obtain ⟨A3, c3, hv, hc3, hm3, hr3⟩ := own_shape hu
  subst hv
  have HRc := Lib.hid hr3
  clear hu hbc HXb HWb HPb hc3 hm3 hr3
  have a8 := (HXc.out.d.s).cell 8
  go_wp2_with fail
  clear a8
  refine (sliceEqual_any A3 A (bdB h.typ b).length c3 n c _ B wc _ _ HRc.out (HO.out.later HXc.out.bl).body (by have := HLn.out.2.2; omega) (by omega)).mono ?_
  rintro e wd ⟨rfl, kd, rfl⟩
  have HXd := Lib.hid (HXc.out.later (below_of_drewN _ wc kd))
  clear HRc HXc
  generalize wc.drewN kd = wd at *
  have e0 := HXd.out.d.e.cell 0
  have f0 := HXd.out.d.e.frozen 0
  have hne : decide (bdB h.typ b = B) = true := decide_eq_true (HQ.out b wd HXd.out.r HSy.out)
  rw [hne]
  clear hne
  obtain ⟨c0, c1, c2, c3, c4, c5, c6, c7, c8⟩ := body_facts HXd.out.x
  have SZ := Lib.hid (HXd.out.d).b
  have EZ := Lib.hid (HXd.out.d).e
  have BZ := Lib.hid (HXd.out.bl)
  go_wp2_with (refine wpList_store_row rfl 67 _ _ rfl (w.heap.size + 1) #[.int .u8 b.flags, .slice b.LA b.ln b.lc, .int .u32 b.mask, .slice b.RA b.rn b.rc, .int .u32 b.metric, .bool b.t2, .int .u32 b.fwd, .int .u32 b.tag, .slice b.DA b.dn b.dc] rfl rfl 67 _ SZ.out info_body rfl (by simp [Value.oneCell']) ?_; replace SZ := Lib.hid (SZ.out.setRow #[.int .u8 b.flags, .slice b.LA b.ln b.lc, .int .u32 b.mask, .slice b.RA b.rn b.rc, .int .u32 b.metric, .bool b.t2, .int .u32 b.fwd, .int .u32 b.tag, .slice b.DA b.dn b.dc]); replace EZ := Lib.hid (EZ.out.setRow_far (g' := w.heap.size + 1) (by omega) #[.int .u8 b.flags, .slice b.LA b.ln b.lc, .int .u32 b.mask, .slice b.RA b.rn b.rc, .int .u32 b.metric, .bool b.t2, .int .u32 b.fwd, .int .u32 b.tag, .slice b.DA b.dn b.dc]); replace BZ := Lib.hid (below_setRow BZ.out (g := w.heap.size + 1) (by omega) #[.int .u8 b.flags, .slice b.LA b.ln b.lc, .int .u32 b.mask, .slice b.RA b.rn b.rc, .int .u32 b.metric, .bool b.t2, .int .u32 b.fwd, .int .u32 b.tag, .slice b.DA b.dn b.dc]); clear e0 f0 c0 c1 c2 c3 c4 c5 c6 c7 c8; have e0 := EZ.out.cell 0; have f0 := EZ.out.frozen 0; have oy := Lib.hid (HXd.out.o.kept (Kept.of_grown (only_setRow wd (w.heap.size + 1) #[.int .u8 b.flags, .slice b.LA b.ln b.lc, .int .u32 b.mask, .slice b.RA b.rn b.rc, .int .u32 b.metric, .bool b.t2, .int .u32 b.fwd, .int .u32 b.tag, .slice b.DA b.dn b.dc])) (fun i e => by injection e with e; have := HB4.out; omega)); generalize wd.setRow (w.heap.size + 1) #[.int .u8 b.flags, .slice b.LA b.ln b.lc, .int .u32 b.mask, .slice b.RA b.rn b.rc, .int .u32 b.metric, .bool b.t2, .int .u32 b.fwd, .int .u32 b.tag, .slice b.DA b.dn b.dc] = wy at *)
  have s3 := SZ.out.far (p := ⟨w.heap.size + 1 + 1, 0, none⟩) (by simp) (.int .i64 0)
  have e3 := (EZ.out.set_ 0 (.int .i64 0)).cell 0
  have b3 := BZ.out.setCell (p := ⟨w.heap.size + 1 + 1, 0, none⟩) (by simp; omega) (.int .i64 0)
  have oz := oy.out.kept (kept_setC wy (w.heap.size + 1 + 1) 0 (.int .i64 0)) (fun i e => by have h1 : i = w.heap.size + 1 + 1 := e; have := HB4.out; omega)
  generalize wy.setCell ⟨w.heap.size + 1 + 1, 0, none⟩ (.int .i64 0) = wz at *
  refine leaves_cons (f := 42) (args := #[.pointer (some ⟨w.heap.size + 1 + 1, 0, none⟩)]) (by simp) (by simp [go_sem]) ?_
  refine (caught_idle ⟨w.heap.size + 1 + 1, 0, none⟩ wz).mono ?_
  rintro e u' w'' ⟨rfl, rfl, rfl⟩
  simp [Leaves, settle, go_sem]
  exact ⟨_, results_two rfl _ _ (w.heap.size + 1) (w.heap.size + 1 + 1) 67 #[.int .u8 b.flags, .slice b.LA b.ln b.lc, .int .u32 b.mask, .slice b.RA b.rn b.rc, .int .u32 b.metric, .bool b.t2, .int .u32 b.fwd, .int .u32 b.tag, .slice b.DA b.dn b.dc] (0, 0) _ (.int .i64 0) rfl s3 Tryd.underlying67 rfl info_body rfl (load_errno _ _ _ e3), b, rfl, HSy.out, oz.rd HXd.out.r, oz.mono (by have := HB4.out; omega), b3⟩
def zB : BA := ⟨0, none, 0, 0, [], 0, none, 0, 0, [], 0, false, 0, 0, none, 0, 0, []⟩
theorem zB_rd (w : World) : zB.rd w := ⟨by simp [zB], Reads.none_, rfl, by simp [zB], by simp [zB], Reads.none_, rfl, by simp [zB], by simp [zB], by simp [zB], by simp [zB], Reads.none_, (fun i x hx => by simp [zB] at hx), by simp [zB], by simp [zB]⟩
theorem zB_own (w : World) (base : Nat) : zB.own base w := ⟨own_nil _ _ _ _, own_nil _ _ _ _, own_nil _ _ _ _⟩
/-- What Decode says. -/
def DecS (s : SE) (b : BA) (k : Int) : Prop :=
  (s.h.len ≠ 20 + s.n ∧ k = 22 ∧ b = zB) ∨ (s.h.len = 20 + s.n ∧ ¬ Kn s.h.typ ∧ k = 21 ∧ b = zB) ∨ (s.h.len = 20 + s.n ∧ Kn s.h.typ ∧ ¬ goodB s.h.typ s.B ∧ k = 28 ∧ b = zB) ∨ (s.h.len = 20 + s.n ∧ Kn s.h.typ ∧ goodB s.h.typ s.B ∧ k = 0 ∧ Says s.h.typ s.B b)
theorem decode_any (s : SE) (w : World) (hs : s.rd w) (hn : s.n ≤ 1073741824) : Calls Tryd.prog 16 #[s.v] w fun e w' => ∃ b k, e = .returned (.tuple #[BA.v b, .int .i64 k]) ∧ DecS s b k ∧ b.rd w' ∧ b.own w.heap.size w' ∧ Below w.heap.size w w' := by
  by_cases hl : s.h.len = 20 + s.n
  · by_cases hk : Kn s.h.typ
    · have no : ¬ goodB s.h.typ s.B → (Calls Tryd.prog 16 #[s.v] w fun e w' => e = .returned (.tuple #[zeroB, .int .i64 28]) ∧ Below w.heap.size w w') → Calls Tryd.prog 16 #[s.v] w fun e w' => ∃ b k, e = .returned (.tuple #[BA.v b, .int .i64 k]) ∧ DecS s b k ∧ b.rd w' ∧ b.own w.heap.size w' ∧ Below w.heap.size w w' :=
        fun hg hc => hc.mono fun e w' ⟨h1, h2⟩ => ⟨zB, 28, h1, .inr (.inr (.inl ⟨hl, hk, hg, rfl, rfl⟩)), zB_rd _, zB_own _ _, h2⟩
      by_cases hf : fitB s.h.typ s.B
      · by_cases hg : ∃ b : BA, ∃ W, b.rd W ∧ Says s.h.typ s.B b ∧ mayB s.h.typ b = true ∧ bdB s.h.typ b = s.B
        · obtain ⟨b, W, h1, h2, h3, h4⟩ := hg
          have hgood : goodB s.h.typ s.B := (good_of h1 h2 hf).2 ⟨h3, h4⟩
          exact (dec_ok s w hs hn hl hk hf (fun b' W' r y => ((good_of r y hf).1 hgood).1) (fun b' W' r y => ((good_of r y hf).1 hgood).2)).mono fun e w' ⟨b', g1, g2, g3, g4, g5⟩ => ⟨b', 0, g1, .inr (.inr (.inr ⟨hl, hk, hgood, rfl, g2⟩)), g3, g4, g5⟩
        · by_cases hm : ∃ b : BA, ∃ W, b.rd W ∧ Says s.h.typ s.B b
          · obtain ⟨b, W, h1, h2⟩ := hm
            have hng : ¬ goodB s.h.typ s.B := fun hh => hg ⟨b, W, h1, h2, (good_of h1 h2 hf).1 hh⟩
            have hall : ∀ b' : BA, ∀ W', b'.rd W' → Says s.h.typ s.B b' → mayB s.h.typ b' = mayB s.h.typ b ∧ bdB s.h.typ b' = bdB s.h.typ b := fun b' W' r y => by
              have hs2 := says_same h2 y
              have g1 := congrArg List.length hs2.links
              have g2 := congrArg List.length hs2.routers
              have g3 := congrArg List.length hs2.data
              have e1 := r.llen; have e2 := r.rlen; have e3 := r.drow.u8len
              have f1 := h1.llen; have f2 := h1.rlen; have f3 := h1.drow.u8len
              exact ⟨mayB_same hs2 (by omega) (by omega) (by omega), bdB_same hs2⟩
            cases hmb : mayB s.h.typ b with
            | false => exact no hng (dec_may s w hs hn hl hk hf fun b' W' r y => by rw [(hall b' W' r y).1]; exact hmb)
            | true => exact no hng (dec_same s w hs hn hl hk hf (fun b' W' r y => by rw [(hall b' W' r y).1]; exact hmb) (fun b' W' r y hh => hg ⟨b', W', r, y, by rw [(hall b' W' r y).1]; exact hmb, hh⟩))
          · exact (dec_ok s w hs hn hl hk hf (fun b' W' r y => absurd ⟨b', W', r, y⟩ hm) (fun b' W' r y => absurd ⟨b', W', r, y⟩ hm)).mono fun e w' ⟨b', g1, g2, g3, _⟩ => absurd ⟨b', w', g3, g2⟩ hm
      · exact no (fun hh => hf hh.1) (dec_read s w hs hn hl hk hf)
    · exact (dec_type s w hs hn hl hk).mono fun e w' ⟨h1, h2⟩ => ⟨zB, 21, h1, .inr (.inl ⟨hl, hk, rfl, rfl⟩), zB_rd _, zB_own _ _, h2⟩
  · exact (dec_len s w hs hn hl).mono fun e w' ⟨h1, h2⟩ => ⟨zB, 22, h1, .inl ⟨hl, rfl, rfl⟩, zB_rd _, zB_own _ _, h2⟩
end Go.Proofs.YtljedcfpbdompaaDoor
