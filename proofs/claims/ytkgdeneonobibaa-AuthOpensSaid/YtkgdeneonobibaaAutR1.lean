/-
  The reference's number, Length, summed, Right of a packet, walked.
-/
import Derived.Test.YtkgdeneonobibaaNum
import Derived.Test.YtkgdeneonobibaaAut8
namespace Go.Proofs.Ytkgdeneonobibaa
set_option linter.unusedVariables false
open Go.RowKit

set_option maxHeartbeats 1000000 in
theorem refNumber_any (A : Option Addr) (n c : Nat) (xs : List Int) (w : World) (B : Nat) (hx : Reads w B 1 A n (u8s xs)) (ho : Oct xs) (hn : n ≤ 4) :
    Calls Try.prog 94 #[.slice A n c] w fun e w' => e = .returned (.int .u32 (numB xs)) ∧ w = w' := by
  have hl := Lib.hid hx.u8len
  have HX := Lib.hid hx
  have HO := Lib.hid ho
  clear hx ho
  go_enter Try.func94, Try.ntmps94
  go_wp2
  go_loopw [3, 4] (NumRel xs w n) (fun _ i _ => n - (intOf i).toNat)
  case atStart => exact ⟨0, rfl, rfl, by omega, rfl⟩
  case round =>
    obtain ⟨k, rfl, rfl, hk, rfl⟩ := hrel
    by_cases hlt : k < n
    · obtain ⟨a, x, rfl, _, hx1, h1⟩ := HX.out.u8at hlt
      obtain ⟨ox1, ox2⟩ := HO.out _ _ hx1.out
      obtain ⟨o1, o2⟩ := numB_le3 (HO.out.take k) (by rw [List.length_take]; omega)
      have hnx := Lib.hid (numRel_next (w := wr) (n := n) hx1 hlt)
      generalize numB (xs.take k) = v at *
      have w1 : IntKind.u32.wrap (256 * v) = 256 * v := IntWalk.u32_in _ (by omega)
      have w2 : IntKind.u32.wrap x = x := IntWalk.u32_in _ (by omega)
      have w3 : IntKind.u32.wrap (256 * v + x) = 256 * v + x := IntWalk.u32_in _ (by omega)
      go_wp2
      go_roundw
      case rel => exact hnx.out
      case measure => simp [intOf]; omega
    · obtain rfl : k = n := by omega
      have he : Hid (xs.take k = xs) := List.take_of_length_le (by rw [hl.out]; omega)
      go_wp2
      go_ret
      exact ⟨by rw [he.out]; rfl, rfl⟩
theorem numB_pair {xs : List Int} {k : Nat} {z u : Int} (hz : xs[k]? = some z) (hu : xs[k + 1]? = some u) : numB ((xs.drop k).take 2) = z * 256 + u := by
  have h : (xs.drop k).take 2 = [z, u] := by
    have a : (xs.drop k)[0]? = some z := by rw [List.getElem?_drop]; exact hz
    have b : (xs.drop k)[1]? = some u := by rw [List.getElem?_drop]; exact hu
    rcases hd : xs.drop k with _ | ⟨p, _ | ⟨q, r⟩⟩ <;> rw [hd] at a b <;> simp at a b
    subst a b; rfl
  rw [h, numB_two]
set_option maxHeartbeats 1000000 in
theorem refLength_any (A : Option Addr) (n c : Nat) (xs : List Int) (w : World) (B : Nat) (hx : Reads w B 1 A n (u8s xs)) (ho : Oct xs) (hc : n ≤ c) (hm : c ≤ 9223372036854775807) :
    Calls Try.prog 47 #[.slice A n c] w fun e w' => e = .returned (.tuple #[.int .i64 (pkLen xs).1, .int .i64 (pkLen xs).2]) ∧ w = w' := by
  have hl := hx.u8len
  by_cases h24 : n < 24
  · have hr : Hid (pkLen xs = (0, 10)) := by show _ = _; unfold pkLen; rw [if_pos (by omega)]
    clear hx ho hc hm hl
    go_enter Try.func47, Try.ntmps47
    go_wp2
    go_ret2
    exact ⟨by rw [hr.out]; rfl, rfl⟩
  · obtain ⟨a, x, rfl, _, hx0, h0⟩ := hx.u8at0 (by omega)
    obtain ⟨a1, y, e1, _, hy0, h1⟩ := hx.u8atc (k := 1) (by omega) (by omega)
    obtain rfl : a = a1 := by injection e1
    obtain ⟨a2, z, e2, _, hz0, h2⟩ := hx.u8atc (k := 2) (by omega) (by omega)
    obtain rfl : a = a2 := by injection e2
    obtain ⟨a3, u, e3, _, hu0, h3⟩ := hx.u8atc (k := 3) (by omega) (by omega)
    obtain rfl : a = a3 := by injection e3
    obtain ⟨oz1, oz2⟩ := ho _ _ hz0.out
    obtain ⟨ou1, ou2⟩ := ho _ _ hu0.out
    have hr2 : Reads w B 1 (some ⟨a.block, a.off + 2, none⟩) 2 (u8s ((xs.drop 2).take 2)) := (hx.u8cutc (k := 2) (by omega) (by omega)).u8pre (by omega)
    have HN : Hid (∀ c' : Nat, Calls Try.prog 94 #[.slice (some ⟨a.block, a.off + 2, none⟩) 2 c'] w fun e w' => e = .returned (.int .u32 (z * 256 + u)) ∧ w = w') := fun c' => by
      have := refNumber_any _ 2 c' _ w B hr2 ((ho.drop 2).take 2) (by omega)
      rwa [numB_pair hz0.out hu0.out] at this
    have gx := getD_of hx0.out
    have gy := getD_of hy0.out
    have gz := getD_of hz0.out
    have gu := getD_of hu0.out
    have hp : Hid (pkLen xs = if x ≠ 2 then (0, 20) else if y < 1 ∨ 5 < y then (0, 21) else if z * 256 + u < 24 ∨ (n : Int) < z * 256 + u then (0, 22) else (z * 256 + u, 0)) := by
      show _ = _
      unfold pkLen
      rw [if_neg (by omega), gx, gy, gz, gu, hl]
    clear gx gy gz gu hx0 hy0 hz0 hu0 hx ho hl e1 e2 e3 h2 h3 hr2
    by_cases hq : x = 2
    · subst hq
      by_cases hy1 : y < 1
      · have hr : Hid (pkLen xs = (0, 21)) := by show _ = _; rw [hp.out, if_neg (by omega), if_pos (.inl hy1)]
        clear hp oz1 oz2 ou1 ou2
        go_enter Try.func47, Try.ntmps47
        go_wp2
        go_ret2
        exact ⟨by rw [hr.out]; rfl, rfl⟩
      by_cases hy2 : 5 < y
      · have hr : Hid (pkLen xs = (0, 21)) := by show _ = _; rw [hp.out, if_neg (by omega), if_pos (.inr hy2)]
        clear hp oz1 oz2 ou1 ou2
        go_enter Try.func47, Try.ntmps47
        go_wp2
        go_ret2
        exact ⟨by rw [hr.out]; rfl, rfl⟩
      have w1 : IntKind.i64.wrap (z * 256 + u) = z * 256 + u := IntWalk.i64_in _ (by omega)
      have c4 : (4 : Int) ≤ (c : Int) := by omega
      by_cases hs : z * 256 + u < 24
      · have hr : Hid (pkLen xs = (0, 22)) := by show _ = _; rw [hp.out, if_neg (by omega), if_neg (by omega), if_pos (.inl hs)]
        clear hp
        generalize z * 256 + u = N at *
        go_enter Try.func47, Try.ntmps47
        go_wp2_with (go_at_call 94; refine (HN.out _).mono ?_; rintro e w' ⟨rfl, rfl⟩)
        go_ret2
        exact ⟨by rw [hr.out]; rfl, rfl⟩
      by_cases hg : (n : Int) < z * 256 + u
      · have hr : Hid (pkLen xs = (0, 22)) := by show _ = _; rw [hp.out, if_neg (by omega), if_neg (by omega), if_pos (.inr hg)]
        clear hp
        generalize z * 256 + u = N at *
        go_enter Try.func47, Try.ntmps47
        go_wp2_with (go_at_call 94; refine (HN.out _).mono ?_; rintro e w' ⟨rfl, rfl⟩)
        go_ret2
        exact ⟨by rw [hr.out]; rfl, rfl⟩
      · have hr : Hid (pkLen xs = (z * 256 + u, 0)) := by show _ = _; rw [hp.out, if_neg (by omega), if_neg (by omega), if_neg (by omega)]
        clear hp
        generalize z * 256 + u = N at *
        go_enter Try.func47, Try.ntmps47
        go_wp2_with (go_at_call 94; refine (HN.out _).mono ?_; rintro e w' ⟨rfl, rfl⟩)
        go_ret2
        exact ⟨by rw [hr.out]; rfl, rfl⟩
    · have hr : Hid (pkLen xs = (0, 20)) := by show _ = _; rw [hp.out, if_pos hq]
      have hq' : (x == 2) = false := by simpa using hq
      clear hp oz1 oz2 ou1 ou2 hq
      go_enter Try.func47, Try.ntmps47
      go_wp2
      go_ret2
      exact ⟨by rw [hr.out]; rfl, rfl⟩
set_option maxHeartbeats 2000000 in
theorem refSummed_any (A : Option Addr) (n c : Nat) (xs : List Int) (w : World) (hx : Reads w w.heap.size 1 A n (u8s xs)) (h24 : 24 ≤ n) (hc : n ≤ c) (hm : c ≤ 9223372036854775807) (hn : n ≤ 1099511627776) :
    Calls Try.prog 115 #[.slice A n c] w fun e w' => SumdAt w w' xs e := by
  obtain ⟨ad, rfl⟩ : ∃ ad, A = some ad := by obtain ⟨ad, e, _⟩ := hx.2 (by omega); exact ⟨ad, e⟩
  have hl := hx.u8len
  have H16 : Hid (Reads w w.heap.size 1 (some ad) 16 (u8s (xs.take 16))) := hx.u8pre (by omega)
  have hl16 : Hid ((xs.take 16).length = 16) := by show _ = _; rw [List.length_take]; omega
  have h16c : (16 : Int) ≤ (c : Int) := by omega
  have h24n : (24 : Int) ≤ (n : Int) := by omega
  have hnc : (n : Int) ≤ (c : Int) := by omega
  have hl24 : Hid ((xs.drop 24).length = n - 24) := by show _ = _; rw [List.length_drop, hl]
  have H0 := Lib.hid (OwnB.nil w)
  by_cases hc24 : c = 24
  · have hd : xs.drop 24 = [] := List.drop_eq_nil_of_le (by omega)
    have H24 : Hid (Reads w w.heap.size 1 (some ad) (n - 24) (u8s (xs.drop 24))) := by
      have : Reads w w.heap.size 1 (some ad) (n - 24) [] := ⟨by simp; omega, fun h => absurd h (by omega)⟩
      show Reads _ _ _ _ _ _
      rw [hd]; exact this
    clear hd hx
    go_enter Try.func115, Try.ntmps115
    go_wp2_with (first
      | (at_builtin; refine wpList_app el_u8 rfl (.tmp 4) (.tmp 6) rfl H0.out.1 rfl H16.out rfl u8s_one (by simp only [maxLen, List.length_nil]; omega) (by simp only [List.length_nil]; omega) H0.out.2.size ?_; intro v4 w4 ho4 hb4 _ _; have H4 := Lib.hid (H0.out.app rfl hl16.out ho4 hb4); have H4b := Lib.hid (H24.out.below hb4); clear ho4 hb4; rw [List.nil_append] at H4)
      | (at_builtin; refine wpList_app el_u8 rfl (.tmp 8) (.tmp 10) rfl H4.out.1 rfl H4b.out rfl u8s_one (by simp only [maxLen, hl16.out]; omega) (by simp only [hl16.out]; omega) H4.out.2.size ?_; intro v5 w5 ho5 hb5 _ _; have H5 := Lib.hid (H4.out.app rfl hl24.out ho5 hb5); clear ho5 hb5))
    go_ret
    exact ⟨_, rfl, H5.out⟩
  · have H24 : Hid (Reads w w.heap.size 1 (some ⟨ad.block, ad.off + 24, none⟩) (n - 24) (u8s (xs.drop 24))) := hx.u8cutc h24 (by omega)
    clear hx
    go_enter Try.func115, Try.ntmps115
    go_wp2_with (first
      | (at_builtin; refine wpList_app el_u8 rfl (.tmp 4) (.tmp 6) rfl H0.out.1 rfl H16.out rfl u8s_one (by simp only [maxLen, List.length_nil]; omega) (by simp only [List.length_nil]; omega) H0.out.2.size ?_; intro v4 w4 ho4 hb4 _ _; have H4 := Lib.hid (H0.out.app rfl hl16.out ho4 hb4); have H4b := Lib.hid (H24.out.below hb4); clear ho4 hb4; rw [List.nil_append] at H4)
      | (at_builtin; refine wpList_app el_u8 rfl (.tmp 8) (.tmp 10) rfl H4.out.1 rfl H4b.out rfl u8s_one (by simp only [maxLen, hl16.out]; omega) (by simp only [hl16.out]; omega) H4.out.2.size ?_; intro v5 w5 ho5 hb5 _ _; have H5 := Lib.hid (H4.out.app rfl hl24.out ho5 hb5); clear ho5 hb5))
    go_ret
    exact ⟨_, rfl, H5.out⟩
set_option maxHeartbeats 1000000 in
theorem refPright_any (A : Option Addr) (n c : Nat) (xs : List Int) (w : World) (hx : Reads w w.heap.size 1 A n (u8s xs)) (ho : Oct xs) (hc : n ≤ c) (hm : c ≤ 9223372036854775807) (hn : n ≤ 1099511627776) :
    Calls Try.prog 96 #[.slice A n c] w fun e w' => e = .returned (.bool (pkRight xs)) ∧ Below w.heap.size w w' := by
  have hl := hx.u8len
  have HL := Lib.hid (refLength_any A n c xs w w.heap.size hx ho hc hm)
  have HX := Lib.hid hx
  have HO := Lib.hid ho
  have hp : Hid (pkRight xs = (decide ((pkLen xs).2 = 0) && sumOk (sumd (xs.take (pkLen xs).1.toNat)))) := rfl
  have hok := fun h => pkLen_ok (xs := xs) h
  clear hx ho
  generalize pkLen xs = p at *
  obtain ⟨N, e⟩ := p
  simp only at hp hok
  by_cases h0 : e = 0
  · subst h0
    obtain ⟨h1, h2⟩ := hok rfl
    obtain ⟨m, rfl⟩ : ∃ m : Nat, N = m := ⟨N.toNat, by omega⟩
    rw [Int.toNat_natCast] at hp
    have hmn : m ≤ n := by omega
    have hmc : (m : Int) ≤ (c : Int) := by omega
    have hlm : (xs.take m).length = m := by rw [List.length_take]; omega
    have h24 : 24 ≤ m := by omega
    have hsl : Hid ((sumd (xs.take m)).length ≤ 1099511627776) := by
      show _ ≤ _
      simp only [sumd, List.length_append, List.length_take, List.length_drop, hl]
      omega
    clear hok h1 h2
    go_enter Try.func96, Try.ntmps96
    go_wp2_with (first
      | (go_at_call 47; refine HL.out.mono ?_; rintro e w1 ⟨rfl, rfl⟩; have HM : Hid (Reads w w.heap.size 1 A m (u8s (xs.take m))) := HX.out.u8pre hmn; clear HL)
      | (go_at_call 115; refine (refSummed_any A m c (xs.take m) _ HM.out h24 (by omega) hm (by omega)).mono ?_; rintro e w2 ⟨v, rfl, hv⟩; have HV := Lib.hid hv; obtain ⟨A2, c2, hs⟩ := hv.shape; subst hs; clear hv)
      | (go_at_call 114; refine (refRight_any A2 _ c2 (sumd (xs.take m)) w2 w2.heap.size (HV.out.reads rfl) (HO.out.take m).sumd (OwnB.caps HV.out rfl).1 (OwnB.caps HV.out rfl).2 hsl.out).mono ?_; rintro e w3 ⟨rfl, d2, rfl⟩))
    go_ret
    refine ⟨?_, below_drewN HV.out.2 _⟩
    rw [hp.out]
    simp [sumOk]
  · have h0' : (e == 0) = false := by simpa using h0
    have hz : Hid (pkRight xs = false) := by show _ = _; rw [hp.out]; simp [h0]
    clear hok hp
    go_enter Try.func96, Try.ntmps96
    go_wp2_with (go_at_call 47; refine HL.out.mono ?_; rintro e w1 ⟨rfl, rfl⟩; clear HL)
    go_ret
    exact ⟨by rw [hz.out]; rfl, Below.refl _ _⟩
end Go.Proofs.Ytkgdeneonobibaa
