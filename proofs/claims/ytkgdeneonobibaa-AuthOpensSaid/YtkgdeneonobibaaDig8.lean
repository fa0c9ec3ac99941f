/-
  The reference's keyed digest, walked.
-/
import Derived.Test.YtkgdeneonobibaaDig7
namespace Go.Proofs.Ytkgdeneonobibaa
set_option linter.unusedVariables false
open Go.RowKit

/-- A key cut or filled up to sixteen octets. -/
def key16 (ks : List Int) : List Int := ks.take 16 ++ List.replicate (16 - ks.length) 0
theorem key16_length (ks : List Int) : (key16 ks).length = 16 := by simp [key16]; omega
theorem key16_in {ks : List Int} {j : Nat} (hj : j < 16) (h : j < ks.length) : (key16 ks)[j]? = ks[j]? := by
  rw [key16, List.getElem?_append_left (by simp; omega), List.getElem?_take_of_lt hj]
theorem key16_out {ks : List Int} {j : Nat} (hj : j < 16) (h : ¬ j < ks.length) : (key16 ks)[j]? = some 0 := by
  rw [key16, List.getElem?_append_right (by simp; omega), List.getElem?_replicate, if_pos (by simp; omega)]
theorem key16_oct {ks : List Int} (h : Oct ks) : Oct (key16 ks) :=
  (h.take 16).append fun i x hx => by
    have := (List.mem_replicate.1 (List.mem_of_getElem? hx)).2
    omega
theorem take_next {L : List Int} {j : Nat} {x : Int} (h : L[j]? = some x) : L.take (j + 1) = L.take j ++ [x] := by rw [List.take_add_one, h]; rfl

/-- What holds ahead of each octet of the key. -/
def KeyAt (w : World) (xs ks : List Int) (v i : Value) (wq : World) : Prop :=
  ∃ j : Nat, i = .int .i64 j ∧ j ≤ 16 ∧ OwnB w wq v (xs ++ (key16 ks).take j)
theorem KeyAt.next {w w3 : World} {xs ks : List Int} {v3 : Value} {j : Nat} {b : Int} (hj : j < 16) (hb : (key16 ks)[j]? = some b) (H3 : OwnB w w3 v3 (xs ++ (key16 ks).take j ++ [b])) :
    KeyAt w xs ks v3 (.int .i64 ((j + 1 : Nat) : Int)) w3 :=
  ⟨j + 1, rfl, by omega, by rw [take_next hb, ← List.append_assoc]; exact H3⟩

set_option maxRecDepth 100000 in
set_option maxHeartbeats 1000000 in
/-- The reference's keyed digest: the digest of the text with the key's sixteen octets behind it. -/
theorem refKeyed_any (K A : Option Addr) (kn kc n c : Nat) (ks xs : List Int) (w : World) (hk : Reads w w.heap.size 1 K kn (u8s ks)) (hx : Reads w w.heap.size 1 A n (u8s xs)) (hko : Oct ks) (ho : Oct xs) (hn : n ≤ 1099511627000) (hkn : kn ≤ 9223372036854775807) :
    Calls Try.prog 95 #[.slice K kn kc, .slice A n c] w fun e w' => ∃ v, e = .returned v ∧ OwnB w w' v (md (xs ++ key16 ks)) := by
  have hlx := Lib.hid hx.u8len
  have hlk := Lib.hid hk.u8len
  have H0 := OwnB.nil w
  go_enter Try.func95, Try.ntmps95
  go_wp2_with (at_builtin; refine wpList_app el_u8 rfl (.tmp 7) (.tmp 8) rfl H0.1 rfl hx rfl u8s_one (by simp only [maxLen, List.length_nil]; omega) (by simp only [List.length_nil]; omega) (Nat.le_refl _) ?_; intro v1 w1 ho1 hb1 _ _; have H1 := Lib.hid (H0.app rfl hlx.out ho1 hb1); clear ho1 hb1 hx)
  have HK := Lib.hid hk
  clear hk H0
  go_loopw [5, 6] (fun v i wq => KeyAt w xs ks v i wq) (fun _ i _ => (16 - intOf i).toNat)
  case atStart => exact ⟨0, rfl, by omega, by simpa using H1.out⟩
  case round =>
    clear H1
    obtain ⟨j, rfl, hj, hcq⟩ := hrel
    have hLl : (xs ++ (key16 ks).take j).length = n + j := by rw [List.length_append, List.length_take, key16_length, hlx.out]; omega
    have HLl := Lib.hid hLl
    obtain ⟨A5, c5, hv⟩ := hcq.shape
    rw [hLl] at hv
    clear hLl
    subst hv
    have HC := Lib.hid hcq
    clear hcq
    obtain ⟨wo, rfl⟩ : ∃ wo : World, wo = wr := ⟨_, rfl⟩
    by_cases hj16 : j < 16
    · by_cases hjk : j < kn
      · obtain ⟨ad, x, rfl, _, hx1, hc1⟩ := (HK.out.later HC.out.2).u8at hjk
        have HB : Hid ((key16 ks)[j]? = some x) := by
          show _ = _
          rw [key16_in hj16 (by rw [hlk.out]; exact hjk)]; exact hx1.out
        go_wp2_with (at_builtin; refine wpList_app el_u8 rfl (.tmp 18) (.tmp 23) rfl (HC.out.own HLl.out (.cells #[.int .u8 x] 5)) rfl (Reads.one_new wo (.int .u8 x) 5) rfl (one_u8 _) (by simp only [maxLen]; omega) (by omega) (HC.out.room _) ?_; intro v3 w3 ho3 hb3 _ _; have H3 := Lib.hid (HC.out.push HLl.out ho3 hb3); clear ho3 hb3)
        go_roundw
        case rel => exact KeyAt.next hj16 HB.out H3.out
        case measure => simp [intOf]; omega
      · have HB : Hid ((key16 ks)[j]? = some 0) := key16_out hj16 (by rw [hlk.out]; exact hjk)
        go_wp2_with (at_builtin; refine wpList_app el_u8 rfl (.tmp 25) (.tmp 26) rfl (HC.out.own HLl.out (.cells #[.int .u8 0] 5)) rfl (Reads.one_new wo (.int .u8 0) 5) rfl (one_u8 _) (by simp only [maxLen]; omega) (by omega) (HC.out.room _) ?_; intro v3 w3 ho3 hb3 _ _; have H3 := Lib.hid (HC.out.push HLl.out ho3 hb3); clear ho3 hb3)
        go_roundw
        case rel => exact KeyAt.next hj16 HB.out H3.out
        case measure => simp [intOf]; omega
    · obtain rfl : j = 16 := by omega
      have e3 : Hid ((key16 ks).take 16 = key16 ks) := List.take_of_length_le (by rw [key16_length]; omega)
      have HR := Lib.hid (HC.out.reads HLl.out)
      go_wp2_with (go_at_call 113; refine (refOf_any A5 (n + 16) c5 _ _ HR.out (ho.append ((key16_oct hko).take 16)) (by omega)).mono ?_; rintro e w7 ⟨v7, rfl, h7⟩)
      go_ret
      exact ⟨_, rfl, by rw [e3.out] at h7; exact h7.from HC.out.2⟩
end Go.Proofs.Ytkgdeneonobibaa
