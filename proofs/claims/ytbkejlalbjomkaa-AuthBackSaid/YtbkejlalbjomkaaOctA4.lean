/-
  octet's Patch, walked.
-/
import Derived.Test.YtbkejlalbjomkaaOctA3
import Derived.Test.YtbkejlalbjomkaaFour
namespace Go.Proofs.Ytbkejlalbjomkaa
set_option linter.unusedVariables false
open Go.RowKit

/-- j bytes of them in their place. -/
def pat (xs : List Int) (a : Nat) (ys : List Int) (j : Nat) : List Int := xs.take a ++ ys.take j ++ xs.drop (a + j)
theorem pat_zero (xs : List Int) (a : Nat) (ys : List Int) : pat xs a ys 0 = xs := by simp [pat]
theorem pat_length {xs ys : List Int} {a j : Nat} (h : a + j ≤ xs.length) (hj : j ≤ ys.length) : (pat xs a ys j).length = xs.length := by
  simp only [pat, List.length_append, List.length_take, List.length_drop]; omega
theorem pat_set {xs ys : List Int} {a j : Nat} {y : Int} (h : a + j < xs.length) (hy : ys[j]? = some y) : (pat xs a ys j).set (a + j) y = pat xs a ys (j + 1) := by
  have hj : j < ys.length := by
    rcases Nat.lt_or_ge j ys.length with hlt | hge
    · exact hlt
    · rw [List.getElem?_eq_none hge] at hy; cases hy
  unfold pat
  have hl : (xs.take a ++ ys.take j).length = a + j := by simp; omega
  rw [List.set_append_right _ _ (by omega), hl, Nat.sub_self, List.drop_eq_getElem_cons h, List.set_cons_zero, List.take_add_one, hy]
  simp [Nat.add_assoc]
def Wr.patch (s : Wr) (at_ v n : Int) : Wr :=
  if s.e = 0 then
    if fitsB v n = true ∧ 0 ≤ at_ ∧ at_ ≤ (s.xs.length : Int) - n then { s with xs := pat s.xs at_.toNat (pb v n.toNat) n.toNat } else { s with e := 1 }
  else s
theorem own_of_row {w : World} {base g cap : Nat} {t : TypeId} {xs : List Value} {n : Nat} (h : Row w g t cap xs) (hb : base ≤ g) (hm : cap ≤ 9223372036854775807) (hn : xs.length = n) : w.ownsRow base t 1 (.slice (some ⟨g, 0, none⟩) n cap) n xs := by
  obtain ⟨hl, cur, hk, hs, ht⟩ := h
  exact ⟨by omega, .inr ⟨g, cap, cur, rfl, hb, hk, by omega, by unfold maxLen; exact hm, by omega, by rw [← hn, Nat.mul_one]; exact ht⟩⟩
theorem Row.kept {S : Nat → Prop} {w w' : World} {g cap : Nat} {t : TypeId} {xs : List Value} (h : Row w g t cap xs) (k : Kept S w w') (hn : ¬ S g) : Row w' g t cap xs := by
  obtain ⟨hl, cur, hk, r⟩ := h
  exact ⟨hl, cur, hk.kept k hn, r⟩

/-- What Patch leaves. -/
def PatchPost (base : Nat) (w w' : World) (g : Nat) (v : Value) (s' : Wr) (e : Ending) : Prop := e = .returned (.tuple #[]) ∧ WPost base w w' g v s'

set_option maxRecDepth 100000 in
set_option maxHeartbeats 1000000 in
theorem patch_any (base g : Nat) (v : Value) (s : Wr) (a x n : Int) (w : World) (h : WS base w g v s) (hx0 : 0 ≤ x) (hx1 : x ≤ 4294967295) (ha0 : -9223372036854775808 ≤ a) (ha1 : a ≤ 9223372036854775807) (hn0 : -9223372036854775808 ≤ n) (hn1 : n ≤ 9223372036854775807) (hl : s.xs.length ≤ 140737488355328) :
    Calls Try.prog 39 #[.pointer (some ⟨g, 0, none⟩), .int .i64 a, .int .u32 x, .int .i64 n] w fun e w' => PatchPost base w w' g v (s.patch a x n) e := by
  by_cases he : s.e = 0
  · have hee := wwhole_any w base g v s h
    rw [show (s.e == 0) = true by simp [he]] at hee
    have HE := Lib.hid hee
    clear hee
    have hff := fits_any w x n hx0 hx1 hn0 hn1
    obtain ⟨A0, c0, hv, hc0, hm, hr0⟩ := own_shape h.2.2
    have c0' : w.cell? ⟨g, 0, none⟩ = some (.slice A0 s.xs.length c0) := by rw [h.2.1.cell, hv]; rfl
    by_cases hok : fitsB x n = true ∧ 0 ≤ a ∧ a ≤ (s.xs.length : Int) - n
    · obtain ⟨hf, h0, h1⟩ := hok
      have hp : Hid (s.patch a x n = { s with xs := pat s.xs a.toNat (pb x n.toNat) n.toNat }) := by show _ = _; rw [Wr.patch, if_pos he, if_pos ⟨hf, h0, h1⟩]
      rw [hf] at hff
      have hn : 1 ≤ n ∧ n ≤ 4 := by simp [fitsB] at hf; omega
      obtain ⟨N, rfl⟩ := Int.eq_ofNat_of_zero_le (by omega : 0 ≤ n)
      obtain ⟨a, rfl⟩ := Int.eq_ofNat_of_zero_le h0
      rw [Int.toNat_natCast, Int.toNat_natCast] at hp
      have hN1 : 1 ≤ N := by omega
      have hN4 : N ≤ 4 := by omega
      have haN : a + N ≤ s.xs.length := by omega
      obtain ⟨gb, cap, hv', hgb, hnc, hcm, hrow⟩ := Row.of_own h.2.2 (by omega)
      rw [hv'] at hv
      injection hv with hA _ hc
      subst hA hc
      unfold maxLen at hcm
      have hne : gb ≠ g := by
        have := own_blk_ne h.2.2 h.2.1 (by decide)
        rw [hv'] at this
        intro e
        exact this (by rw [e]; rfl)
      have HF := Lib.hid hff
      have H := Lib.hid h
      have HV := Lib.hid hv'
      have HRow := Lib.hid hrow
      clear h hff hf he hv' hr0 hrow hn hn0 hn1 ha0 ha1 h0
      go_enter Try.func39, Try.ntmps39
      go_wp2_with (first
        | (go_at_call 78; refine HE.out.mono ?_; rintro e w' ⟨rfl, rfl⟩)
        | (go_at_call 79; refine HF.out.mono ?_; rintro e w' ⟨rfl, rfl⟩))
      go_loopw [35] (fun i wr => ∃ j : Nat, i = .int .i64 j ∧ j ≤ N ∧ Row wr gb 5 cap (u8s (pat s.xs a (pb x N) j)) ∧ Kept (fun i => i = gb) w wr) (fun i _ => N - (intOf i).toNat)
      case atStart => exact ⟨0, rfl, by omega, by rw [pat_zero]; exact HRow.out, Kept.refl _ _⟩
      case round =>
        obtain ⟨j, rfl, hj, hrow, hkept⟩ := hrel
        by_cases hlt : j < N
        · have hpl : (pat s.xs a (pb x N) j).length = s.xs.length := pat_length (by omega) (by rw [pb_length]; omega)
          obtain ⟨y, hy, hcy⟩ := hrow.u8cell (i := a + j) (by rw [hpl]; omega)
          have hfy := hrow.frozen (a + j)
          have hS : wr.drew.cell? ⟨g, 0, none⟩ = some (.slice (some ⟨gb, 0, none⟩) s.xs.length cap) := by
            have := (H.out.2.1.kept hkept (fun e => hne e.symm)).cell 0
            rw [HV.out] at this
            exact this
          have HS : Hid ((fun W : World => W.cell? ⟨g, 0, none⟩ = some (.slice (some ⟨gb, 0, none⟩) s.xs.length cap)) wr.drew) := hS
          have HSet := Lib.hid (hrow.u8set (a + j) (x / 2 ^ (8 * (N - 1 - j)) % 256))
          rw [pat_set (by omega) (pb_at x hlt)] at HSet
          have HK := Lib.hid (hkept.trans (kept_set wr gb (a + j) (.int .u8 (x / 2 ^ (8 * (N - 1 - j)) % 256))) (fun _ _ h => h)).drew
          clear hpl hS hrow hkept
          obtain ⟨q, hq⟩ : ∃ q, q = 8 * (N - 1 - j) := ⟨_, rfl⟩
          rw [← hq] at HSet HK
          obtain ⟨r, hr⟩ : ∃ r : Int, r = (N : Int) - 1 - j := ⟨_, rfl⟩
          have hq32 : (q : Int) ≤ 32 := by omega
          have hq0 : 0 ≤ (q : Int) := by omega
          have hwA : IntKind.i64.wrap ((N : Int) - 1) = (N : Int) - 1 := IntWalk.i64_in _ (by omega)
          have hwB : IntKind.i64.wrap ((N : Int) - 1 - j) = r := by rw [hr]; exact IntWalk.i64_in _ (by omega)
          have hwC : IntKind.i64.wrap (8 * r) = (q : Int) := by rw [IntWalk.i64_in _ (by omega)]; omega
          have hwD : IntKind.i64.wrap ((a : Int) + j) = (a : Int) + j := IntWalk.i64_in _ (by omega)
          have hi0 : 0 ≤ (a : Int) + j := by omega
          have hi1 : (a : Int) + j < (s.xs.length : Int) := by omega
          have hi2 : ((a : Int) + j).toNat = a + j := by omega
          clear hq hr
          go_wp2
          refine wp_region_s (fun W => W.cell? ⟨g, 0, none⟩ = some (.slice (some ⟨gb, 0, none⟩) s.xs.length cap)) [(0, true), (1, true), (2, true), (4, true), (5, true), (6, true), (7, true), (8, true), (9, true), (10, true), (11, true), (12, true), (13, true), (14, true), (3, true), (15, true), (16, false)] (by kernel_rfl) (fun _ d _ _ _ h => by cases d <;> exact h) ?_
          simp only [List.map_cons, List.map_nil, nthOp_zero, nthOp_succ]
          refine wpS_take HS (by rfl) (by intro W hW; go_simp; try with_reducible rfl) ?_
          refine wpS_take HS (by rfl) (by intro W hW; go_simp; try with_reducible rfl) ?_
          refine wpS_take HS (by rfl) (by intro W hW; go_simp; try with_reducible rfl) ?_
          refine wpS_take HS (by rfl) (by intro W hW; go_simp; try with_reducible rfl) ?_
          refine wpS_take HS (by rfl) (by intro W hW; go_simp; try with_reducible rfl) ?_
          refine wpS_take HS (by rfl) (by intro W hW; go_simp; try with_reducible rfl) ?_
          refine wpS_take HS (by rfl) (by intro W hW; go_simp; try with_reducible rfl) ?_
          refine wpS_take HS (by rfl) (by intro W hW; go_simp; try with_reducible rfl) ?_
          refine wpS_take HS (by rfl) (by intro W hW; go_simp; try with_reducible rfl) ?_
          refine wpS_take HS (by rfl) (by intro W hW; go_simp; try with_reducible rfl) ?_
          refine wpS_take HS (by rfl) (by intro W hW; go_simp; try with_reducible rfl) ?_
          refine wpS_take HS (by rfl) (by intro W hW; go_simp; try with_reducible rfl) ?_
          refine wpS_take HS (by rfl) (by intro W hW; go_simp; try with_reducible rfl) ?_
          refine wpS_take HS (by rfl) (by intro W hW; go_simp; try with_reducible rfl) ?_
          refine wpS_take HS (by rfl) (by intro W hW; go_simp; try with_reducible rfl) ?_
          refine wpS_take HS (by rfl) (by intro W hW; go_simp; try with_reducible rfl) ?_
          refine wpS_do fun K1 hK1 => ?_
          go_wp2
          refine hK1.out _ _ ?_ ?_
          · have := HS.out
            show World.cell? (wr.setCell ⟨gb, a + j, none⟩ _) _ = _
            rw [World.cell?_setCell_other _ _ _ _ (fun e => hne (by injection e))]
            exact this
          clear hK1 K1
          refine wpS_nil ?_
          go_wp2
          go_roundw
          case rel => exact ⟨j + 1, by go_num, by omega, HSet.out, HK.out⟩
          case measure => simp [intOf]; omega
        · obtain rfl : j = N := by omega
          have HR := Lib.hid hrow
          have HK := Lib.hid hkept
          clear hrow hkept
          go_wp2
          go_end0
          refine ⟨rfl, ?_⟩
          rw [hp.out]
          refine ⟨v, ⟨H.out.1, H.out.2.1.kept HK.out (fun e => hne e.symm), ?_⟩, HK.out.mono (fun i _ hi => .inr (by rw [HV.out, hi]; rfl)), .inl rfl⟩
          rw [HV.out]
          have hpl : (pat s.xs a (pb x j) j).length = s.xs.length := pat_length (by omega) (by rw [pb_length]; omega)
          show World.ownsRow _ _ _ _ _ (pat s.xs a (pb x j) j).length (u8s (pat s.xs a (pb x j) j))
          rw [← hpl]
          exact own_of_row HR.out hgb (by omega) (by rw [u8s_length])
    · have hp : Hid (s.patch a x n = { s with e := 1 }) := by show _ = _; rw [Wr.patch, if_pos he, if_neg hok]
      have f2 := h.2.1.frozen 2
      have c2 : w.cell? ⟨g, 2, none⟩ = some (.int .i64 s.e) := by rw [h.2.1.cell]; rfl
      have H := Lib.hid h
      have HN : fitsB x n = true → 1 ≤ n ∧ n ≤ 4 := fun hf => by simp [fitsB] at hf; omega
      clear h he hv
      by_cases hf : fitsB x n = true
      · have hn := HN hf
        rw [hf] at hff
        have HF := Lib.hid hff
        have hno : ¬ (0 ≤ a ∧ a ≤ (s.xs.length : Int) - n) := fun e => hok ⟨hf, e.1, e.2⟩
        clear hff hf hok HN
        by_cases ha : a < 0
        all_goals
          go_enter Try.func39, Try.ntmps39
          go_wp2_with (first
            | (go_at_call 78; refine HE.out.mono ?_; rintro e w' ⟨rfl, rfl⟩)
            | (go_at_call 79; refine HF.out.mono ?_; rintro e w' ⟨rfl, rfl⟩))
          refine bodyPost_ret (results_none rfl _ _ _) rfl ⟨rfl, ?_⟩
          rw [hp.out]
          exact WPost.err H.out 1 0
      · rw [Bool.not_eq_true] at hf
        rw [hf] at hff
        have HF := Lib.hid hff
        clear hff hf hok HN
        go_enter Try.func39, Try.ntmps39
        go_wp2_with (first
          | (go_at_call 78; refine HE.out.mono ?_; rintro e w' ⟨rfl, rfl⟩)
          | (go_at_call 79; refine HF.out.mono ?_; rintro e w' ⟨rfl, rfl⟩))
        refine bodyPost_ret (results_none rfl _ _ _) rfl ⟨rfl, ?_⟩
        rw [hp.out]
        exact WPost.err H.out 1 0
  · have hee := wwhole_any w base g v s h
    rw [show (s.e == 0) = false by simp [he]] at hee
    have HE := Lib.hid hee
    have hp : Hid (s.patch a x n = s) := by show _ = _; rw [Wr.patch, if_neg he]
    have H := Lib.hid h
    clear hee he h
    go_enter Try.func39, Try.ntmps39
    go_wp2_with (go_at_call 78; refine HE.out.mono ?_; rintro e w' ⟨rfl, rfl⟩)
    refine bodyPost_ret (results_none rfl _ _ _) rfl ⟨rfl, ?_⟩
    rw [hp.out]
    exact WPost.same H.out
end Go.Proofs.Ytbkejlalbjomkaa
