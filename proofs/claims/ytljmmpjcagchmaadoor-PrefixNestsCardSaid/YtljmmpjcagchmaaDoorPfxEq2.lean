/-
  Both parse the same prefixes; a prefix's text is there and back.
-/
import Derived.Test.YtljmmpjcagchmaaDoorPfxEq
namespace Go.Proofs.YtljmmpjcagchmaaDoor
set_option linter.unusedVariables false
open Go.RowKit

theorem atoi_lists : ∀ n : Fin 33, Lib.atoiAll (if n.val < 10 then [UInt8.ofNat (48 + n.val)] else [UInt8.ofNat (48 + n.val / 10), UInt8.ofNat (48 + n.val % 10)]) = .ok (n.val : Int) := by decide +kernel
theorem atoi_dig {n : Nat} (h : n ≤ 32) : Lib.atoiAll (Lib.decDigits n) = .ok (n : Int) := by
  have := atoi_lists ⟨n, by omega⟩
  simp only at this
  by_cases h1 : n < 10
  · rw [Lib.decDigits_one h1]; rwa [if_pos h1] at this
  · rw [Lib.decDigits_two h1 (by omega)]; rwa [if_neg h1] at this
theorem cutL_app {x : List UInt8} (hx : (47 : UInt8) ∉ x) (y : List UInt8) : cutL (x ++ 47 :: y) = x.length := by
  refine cutL_at _ _ (fun i hi => ?_) ?_
  · rw [List.getElem?_append_left hi]
    intro h
    exact hx (List.mem_of_getElem? h)
  · rw [List.getElem?_append_right (Nat.le_refl _), Nat.sub_self]; rfl
theorem cutL_no {x : List UInt8} (hx : (47 : UInt8) ∉ x) : cutL x = x.length := cutL_none _ (fun i _ h => hx (List.mem_of_getElem? h))
theorem take_app {x y : List UInt8} (hx : (47 : UInt8) ∉ x) : (x ++ 47 :: y).take (cutL (x ++ 47 :: y)) = x := by rw [cutL_app hx, List.take_left]
theorem drop_app {x y : List UInt8} (hx : (47 : UInt8) ∉ x) : (x ++ 47 :: y).drop (cutL (x ++ 47 :: y) + 1) = y := by
  rw [cutL_app hx, ← List.drop_drop, List.drop_left]; rfl
theorem cutL_ne {x y : List UInt8} (hx : (47 : UInt8) ∉ x) : cutL (x ++ 47 :: y) ≠ (x ++ 47 :: y).length := by rw [cutL_app hx]; simp
theorem parse_eq (l : List UInt8) : parseP l = parseR l := by
  have hj := join_split 47 l
  cases hs : splitL 47 l with
  | nil => exact absurd hs (splitL_ne _ _)
  | cons x ws =>
    rw [hs] at hj
    have hx : (47 : UInt8) ∉ x := hj.2 x (by simp)
    cases ws with
    | nil =>
      have e : l = x := hj.1.symm
      rw [parseR_len (by rw [hs]; simp), parse_nocut (by rw [e]; exact cutL_no hx)]
    | cons y r =>
      have e : l = x ++ 47 :: joinL 47 (y :: r) := by
        rw [← hj.1, joinL_cons (by simp)]
      cases r with
      | nil =>
        rw [show joinL 47 [y] = y from rfl] at e
        have hR : parseR l = match adR x with
          | none => (⟨0, 0⟩, 13)
          | some a => if (numR y 32).2 = true then (if isP a (numR y 32).1 = true then (⟨a, (numR y 32).1⟩, 0) else (⟨0, 0⟩, 12)) else (⟨0, 0⟩, 13) := by unfold parseR; rw [hs]; rfl
        rw [hR]
        have ht : l.take (cutL l) = x := by rw [e]; exact take_app hx
        have hd : l.drop (cutL l + 1) = y := by rw [e]; exact drop_app hx
        have hc : cutL l ≠ l.length := by rw [e]; exact cutL_ne hx
        cases ha : adR x with
        | none => rw [parse_none (by rw [ht, adP_adR, ha])]
        | some a =>
          simp only
          by_cases hn : (numR y 32).2 = true
          · have hy := numR_inv (by decide) hn
            have hlt := numR_lt hn
            rw [if_pos hn]
            have hat : Lib.atoiAll (l.drop (cutL l + 1)) = .ok (((numR y 32).1 : Nat) : Int) := by
              rw [hd]
              conv => lhs; rw [hy]
              exact atoi_dig hlt
            rw [parse_good (a := a) (n := (numR y 32).1) (by rw [ht, adP_adR, ha]) hc hat hlt (by rw [hd]; exact hy.symm)]
          · rw [if_neg hn]
            refine parse_bad fun v hv => ?_
            by_cases h1 : v < 0
            · exact .inl h1
            · by_cases h2 : 32 < v
              · exact .inr (.inl h2)
              · refine .inr (.inr fun h3 => hn ?_)
                rw [hd] at h3
                rw [← h3, numR_dig (by omega) (by decide)]
      | cons z r =>
        rw [parseR_len (by rw [hs]; simp)]
        have hd : l.drop (cutL l + 1) = joinL 47 (y :: z :: r) := by rw [e]; exact drop_app hx
        refine parse_bad fun v hv => ?_
        by_cases h1 : v < 0
        · exact .inl h1
        · by_cases h2 : 32 < v
          · exact .inr (.inl h2)
          · refine .inr (.inr fun h3 => ?_)
            rw [hd, joinL_cons (by simp)] at h3
            exact dig_no (n := v.toNat) (by omega) (c := 47) (by decide) (by rw [h3]; simp)
theorem dotL_no47 (a : Nat) : (47 : UInt8) ∉ dotL a := by
  have h := fun k => dig_no (part_lt a k) (c := 47) (by decide)
  rw [dotL_eq]
  simp only [List.mem_append, List.mem_cons, not_or]
  exact ⟨h 0, by decide, h 1, by decide, h 2, by decide, h 3⟩
/-- A prefix's text is read as it. -/
theorem parse_text {a n : Nat} (ha : a < 4294967296) (h : isP a n = true) : parseP (textL a n) = (⟨a, n⟩, 0) := by
  have hn := isP_le h
  have hx := dotL_no47 a
  rw [textL_yes h, parse_good (a := a) (n := n) (by rw [take_app hx]; exact adP_dotL ha) (cutL_ne hx) (by rw [drop_app hx]; exact atoi_dig hn) hn (by rw [drop_app hx]), if_pos h]
/-- What is read is the text of what comes. -/
theorem text_parse {l : List UInt8} {p : Pf} (h : parseP l = (p, 0)) : textL p.a p.n = l ∧ p.a < 4294967296 ∧ p.n ≤ 32 ∧ isP p.a p.n = true := by
  rw [parse_eq] at h
  have hj := join_split 47 l
  unfold parseR at h
  split at h
  · rename_i x y hs
    rw [hs] at hj
    split at h
    · injection h with _ h; cases h
    · rename_i a ha
      split at h
      · rename_i hn
        split at h
        · rename_i hp
          injection h with h _
          subst h
          have hy := numR_inv (by decide) hn
          have hxx := adR_inv ha
          refine ⟨?_, adR_lt ha, numR_lt hn, hp⟩
          simp only
          rw [textL_yes hp, ← hxx, ← hy]
          exact hj.1
        · injection h with _ h; cases h
      · injection h with _ h; cases h
  · injection h with _ h; cases h
theorem addr_text {l : List UInt8} {a : Nat} (h : adP 3 l 0 = some a) : dotL a = l := (adP_inv h).symm
end Go.Proofs.YtljmmpjcagchmaaDoor
