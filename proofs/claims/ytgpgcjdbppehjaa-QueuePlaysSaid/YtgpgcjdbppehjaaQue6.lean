/-
  container/heap: down over the rows.
-/
import Derived.Test.YtgpgcjdbppehjaaQue5
namespace Go.Proofs.Ytgpgcjdbppehjaa
set_option linter.unusedVariables false
open Go.RowKit

structure DnRel (w : World) (F : Nat → Prop) (g bm : Nat) (most : Int) (i0 n N : Nat) (r0 : List Ent × Nat) (j : Value) (wr : World) : Prop where
  ex : ∃ (i : Nat) (l : List Ent), j = .int .i64 i ∧ i < n ∧ i0 ≤ i ∧ l.length = N ∧ Hid (QF wr F g bm most l) ∧ Hid (downL l i n = r0)
  kept : Hid (Kept F w wr)
set_option maxRecDepth 100000 in
set_option maxHeartbeats 8000000 in
theorem down_any (w : World) (F : Nat → Prop) (g bm : Nat) (most : Int) (l : List Ent) (q : QF w F g bm most l) (i0 n : Nat) (hi : i0 < n) (hn : n ≤ l.length) :
    Calls Try.prog 39 #[rowsV g, .int .i64 i0, .int .i64 n] w fun e w' => e = .returned (.bool (decide (i0 < (downL l i0 n).2))) ∧ QF w' F g bm most (downL l i0 n).1 ∧ Kept F w w' := by
  have HQ := Lib.hid q
  have hfew := q.few
  obtain ⟨r0, hr0⟩ : ∃ r0, downL l i0 n = r0 := ⟨_, rfl⟩
  have HR0 := Lib.hid hr0
  obtain ⟨N, hN⟩ : ∃ N, l.length = N := ⟨_, rfl⟩
  rw [hN] at hn hfew
  rw [hr0]
  have HN := Lib.hid hN
  clear q hr0 hN
  have hm1 := fun W => methLess g W
  have hm2 := fun W => methSwap g W
  go_enter Try.func39, Try.ntmps39
  go_wp2
  go_loopw [7] (DnRel w F g bm most i0 n N r0) (fun t _ => n - (intOf t).toNat)
  case atStart => exact ⟨⟨i0, l, rfl, hi, Nat.le_refl _, HN.out, HQ, HR0⟩, Lib.hid (Kept.refl _ _)⟩
  case round =>
    clear HQ HR0 HN
    obtain ⟨⟨i, ll, rfl, hin, h0i, hlN, HQ, HR⟩, hk⟩ := hrel
    have HN := Lib.hid hlN
    clear hlN
    obtain ⟨d, hd⟩ : ∃ d, 2 * i = d := ⟨_, rfl⟩
    obtain ⟨c1, hc1⟩ : ∃ c1, 2 * i + 1 = c1 := ⟨_, rfl⟩
    obtain ⟨c2, hc2⟩ : ∃ c2, 2 * i + 2 = c2 := ⟨_, rfl⟩
    have HD := Lib.hid (And.intro hd (And.intro hc1 hc2))
    have e1 : 2 * (i : Int) = d := by omega
    have e2 : (d : Int) + 1 = c1 := by omega
    have e3 : (c1 : Int) + 1 = c2 := by omega
    have hic : i < c1 := by omega
    have hic2 : c1 < c2 := by omega
    have hb : c2 ≤ 2097154 := by omega
    have w1 : IntKind.i64.wrap (d : Int) = d := by rw [IntKind.wrap_i64]; omega
    have w2 : IntKind.i64.wrap (c1 : Int) = c1 := by rw [IntKind.wrap_i64]; omega
    have w3 : IntKind.i64.wrap (c2 : Int) = c2 := by rw [IntKind.wrap_i64]; omega
    clear hd hc1 hc2
    by_cases hA : c1 < n
    · have hA1 : decide (n ≤ c1) = false := decide_eq_false (by omega)
      have hA2 : ¬ (c1 : Int) < 0 := by omega
      by_cases hB : c2 < n
      · have hB1 : decide (c2 < n) = true := decide_eq_true hB
        cases hlt : lt_ ll c2 c1
        · have HLT := Lib.hid hlt
          clear hlt
          have HC : Hid (child ll i n = c1) := Lib.hid (by have := HD.out; unfold child; rw [if_neg (by rw [this.2.1, this.2.2, HLT.out]; simp)]; omega)
          cases hl2 : lt_ ll c1 i
          · have HL2 := Lib.hid hl2
            have HE : Hid (r0 = (ll, i)) := Lib.hid (by rw [← HR.out, downL, dif_pos (by have := HD.out; omega), HC.out, hl2, if_neg (by simp)])
            clear hl2
            go_wp2_with fail
            refine (rowsLess_any wr F g bm most ll HQ.out c2 c1 (by rw [HN.out]; omega) (by rw [HN.out]; omega)).mono ?_
            rintro e v2 ⟨rfl, hb⟩
            rw [HLT.out]
            have HB2 := Lib.hid hb
            clear hb
            go_wp2_with fail
            refine (rowsLess_any v2 F g bm most ll (HQ.out.later HB2.out) c1 i (by rw [HN.out]; omega) (by rw [HN.out]; omega)).mono ?_
            rintro e v3 ⟨rfl, hb⟩
            rw [HL2.out]
            have HB3 := Lib.hid hb
            clear hb
            go_wp2
            have hgt : decide ((i0 : Int) < i) = decide (i0 < i) := by congr 1; simp
            go_ret
            rw [HE.out]
            exact ⟨by simp, ((HQ.out.later HB2.out).later HB3.out), ((hk.out.trans (Kept.of_new HB2.out _) (fun _ _ e => e)).trans (Kept.of_new HB3.out _) (fun _ _ e => e))⟩
          · have HL2 := Lib.hid hl2
            have HE : Hid (downL (swapL ll i c1) c1 n = r0) := Lib.hid (by rw [← HR.out]; conv => rhs; rw [downL, dif_pos (by have := HD.out; omega), HC.out, hl2, if_pos rfl])
            clear hl2
            go_wp2_with fail
            refine (rowsLess_any wr F g bm most ll HQ.out c2 c1 (by rw [HN.out]; omega) (by rw [HN.out]; omega)).mono ?_
            rintro e v2 ⟨rfl, hb⟩
            rw [HLT.out]
            have HB2 := Lib.hid hb
            clear hb
            go_wp2_with fail
            refine (rowsLess_any v2 F g bm most ll (HQ.out.later HB2.out) c1 i (by rw [HN.out]; omega) (by rw [HN.out]; omega)).mono ?_
            rintro e v3 ⟨rfl, hb⟩
            rw [HL2.out]
            have HB3 := Lib.hid hb
            clear hb
            go_wp2_with (go_at_call 85; refine (rowsSwap_any v3 F g bm most ll ((HQ.out.later HB2.out).later HB3.out) i c1 (by rw [HN.out]; omega) (by rw [HN.out]; omega)).mono ?_; rintro e v4 ⟨rfl, hs, hk3⟩; have H4 := Lib.hid (And.intro hs hk3); clear hs hk3)
            go_roundw
            case rel => exact ⟨⟨c1, swapL ll i c1, rfl, by omega, by omega, by rw [swapL_len]; exact HN.out, Lib.hid H4.out.1, HE⟩, Lib.hid (((hk.out.trans (Kept.of_new HB2.out _) (fun _ _ e => e)).trans (Kept.of_new HB3.out _) (fun _ _ e => e)).trans H4.out.2 (fun _ _ e => e))⟩
            case measure => simp [intOf]; omega
        · have HLT := Lib.hid hlt
          clear hlt
          have HC : Hid (child ll i n = c2) := Lib.hid (by have := HD.out; unfold child; rw [if_pos (by rw [this.2.1, this.2.2, HLT.out]; simp [hB])]; omega)
          cases hl2 : lt_ ll c2 i
          · have HL2 := Lib.hid hl2
            have HE : Hid (r0 = (ll, i)) := Lib.hid (by rw [← HR.out, downL, dif_pos (by have := HD.out; omega), HC.out, hl2, if_neg (by simp)])
            clear hl2
            go_wp2_with fail
            refine (rowsLess_any wr F g bm most ll HQ.out c2 c1 (by rw [HN.out]; omega) (by rw [HN.out]; omega)).mono ?_
            rintro e v2 ⟨rfl, hb⟩
            rw [HLT.out]
            have HB2 := Lib.hid hb
            clear hb
            go_wp2_with fail
            refine (rowsLess_any v2 F g bm most ll (HQ.out.later HB2.out) c2 i (by rw [HN.out]; omega) (by rw [HN.out]; omega)).mono ?_
            rintro e v3 ⟨rfl, hb⟩
            rw [HL2.out]
            have HB3 := Lib.hid hb
            clear hb
            go_wp2
            have hgt : decide ((i0 : Int) < i) = decide (i0 < i) := by congr 1; simp
            go_ret
            rw [HE.out]
            exact ⟨by simp, ((HQ.out.later HB2.out).later HB3.out), ((hk.out.trans (Kept.of_new HB2.out _) (fun _ _ e => e)).trans (Kept.of_new HB3.out _) (fun _ _ e => e))⟩
          · have HL2 := Lib.hid hl2
            have HE : Hid (downL (swapL ll i c2) c2 n = r0) := Lib.hid (by rw [← HR.out]; conv => rhs; rw [downL, dif_pos (by have := HD.out; omega), HC.out, hl2, if_pos rfl])
            clear hl2
            go_wp2_with fail
            refine (rowsLess_any wr F g bm most ll HQ.out c2 c1 (by rw [HN.out]; omega) (by rw [HN.out]; omega)).mono ?_
            rintro e v2 ⟨rfl, hb⟩
            rw [HLT.out]
            have HB2 := Lib.hid hb
            clear hb
            go_wp2_with fail
            refine (rowsLess_any v2 F g bm most ll (HQ.out.later HB2.out) c2 i (by rw [HN.out]; omega) (by rw [HN.out]; omega)).mono ?_
            rintro e v3 ⟨rfl, hb⟩
            rw [HL2.out]
            have HB3 := Lib.hid hb
            clear hb
            go_wp2_with (go_at_call 85; refine (rowsSwap_any v3 F g bm most ll ((HQ.out.later HB2.out).later HB3.out) i c2 (by rw [HN.out]; omega) (by rw [HN.out]; omega)).mono ?_; rintro e v4 ⟨rfl, hs, hk3⟩; have H4 := Lib.hid (And.intro hs hk3); clear hs hk3)
            go_roundw
            case rel => exact ⟨⟨c2, swapL ll i c2, rfl, by omega, by omega, by rw [swapL_len]; exact HN.out, Lib.hid H4.out.1, HE⟩, Lib.hid (((hk.out.trans (Kept.of_new HB2.out _) (fun _ _ e => e)).trans (Kept.of_new HB3.out _) (fun _ _ e => e)).trans H4.out.2 (fun _ _ e => e))⟩
            case measure => simp [intOf]; omega
      · have hB1 : decide (c2 < n) = false := decide_eq_false hB
        have HC : Hid (child ll i n = c1) := Lib.hid (by have := HD.out; unfold child; rw [if_neg (by rw [this.2.2]; simp [hB])]; omega)
        cases hl2 : lt_ ll c1 i
        · have HL2 := Lib.hid hl2
          have HE : Hid (r0 = (ll, i)) := Lib.hid (by rw [← HR.out, downL, dif_pos (by have := HD.out; omega), HC.out, hl2, if_neg (by simp)])
          clear hl2
          go_wp2_with fail
          refine (rowsLess_any wr F g bm most ll HQ.out c1 i (by rw [HN.out]; omega) (by rw [HN.out]; omega)).mono ?_
          rintro e v3 ⟨rfl, hb⟩
          rw [HL2.out]
          have HB3 := Lib.hid hb
          clear hb
          go_wp2
          have hgt : decide ((i0 : Int) < i) = decide (i0 < i) := by congr 1; simp
          go_ret
          rw [HE.out]
          exact ⟨by simp, (HQ.out.later HB3.out), (hk.out.trans (Kept.of_new HB3.out _) (fun _ _ e => e))⟩
        · have HL2 := Lib.hid hl2
          have HE : Hid (downL (swapL ll i c1) c1 n = r0) := Lib.hid (by rw [← HR.out]; conv => rhs; rw [downL, dif_pos (by have := HD.out; omega), HC.out, hl2, if_pos rfl])
          clear hl2
          go_wp2_with fail
          refine (rowsLess_any wr F g bm most ll HQ.out c1 i (by rw [HN.out]; omega) (by rw [HN.out]; omega)).mono ?_
          rintro e v3 ⟨rfl, hb⟩
          rw [HL2.out]
          have HB3 := Lib.hid hb
          clear hb
          go_wp2_with (go_at_call 85; refine (rowsSwap_any v3 F g bm most ll (HQ.out.later HB3.out) i c1 (by rw [HN.out]; omega) (by rw [HN.out]; omega)).mono ?_; rintro e v4 ⟨rfl, hs, hk3⟩; have H4 := Lib.hid (And.intro hs hk3); clear hs hk3)
          go_roundw
          case rel => exact ⟨⟨c1, swapL ll i c1, rfl, by omega, by omega, by rw [swapL_len]; exact HN.out, Lib.hid H4.out.1, HE⟩, Lib.hid ((hk.out.trans (Kept.of_new HB3.out _) (fun _ _ e => e)).trans H4.out.2 (fun _ _ e => e))⟩
          case measure => simp [intOf]; omega
    · have hA1 : decide (n ≤ c1) = true := decide_eq_true (by omega)
      have HE : Hid (r0 = (ll, i)) := Lib.hid (by rw [← HR.out, downL, dif_neg (by have := HD.out; omega)])
      go_wp2
      have hgt : decide ((i0 : Int) < i) = decide (i0 < i) := by congr 1; simp
      go_ret
      rw [HE.out]
      exact ⟨by simp, HQ.out, hk.out⟩
end Go.Proofs.Ytgpgcjdbppehjaa
