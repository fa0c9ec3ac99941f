/-
  SumGuards, walked.
-/
import Derived.Test.YtdihdelojpnmoaaSum5
import Derived.Test.YtdihdelojpnmoaaSumMath2
import Derived.Test.YtdihdelojpnmoaaBase2
import Derived.Deep.RegionHeld3
namespace Go.Proofs.Ytdihdelojpnmoaa
set_option linter.unusedVariables false
open Go.RowKit

theorem shr8 (X Y : Int) (h0 : 0 ≤ Y) (h1 : Y ≤ 255) : (X * 256 + Y) / 256 = X := by omega
theorem low8 (X Y : Int) (h0 : 0 ≤ Y) (h1 : Y ≤ 255) : (X * 256 + Y) % 256 = Y := by omega

set_option maxRecDepth 100000 in
set_option maxHeartbeats 4000000 in
theorem sumGuards_walk (A : Option Addr) (n c : Nat) (xs : List Int) (a i tb : Int) (w : World) (hx : Reads w w.heap.size 1 A n (u8s xs)) (ho : Oct xs) (hc : n ≤ c) (hm : c ≤ 9223372036854775807)
    (ha0 : -9223372036854775808 ≤ a) (ha1 : a ≤ 9223372036854775807) (hi0 : -9223372036854775808 ≤ i) (hi1 : i ≤ 9223372036854775807) (ht0 : 0 ≤ tb) (ht1 : tb ≤ 255) :
    Calls Try.prog 4 #[.slice A n c, .int .i64 a, .int .i64 i, .int .u8 tb] w fun e w' => e = .returned (.bool true) ∧ Below w.heap.size w w' := by
  by_cases hbig : 16384 < n
  · go_enter Try.func4, Try.ntmps4
    go_wp2_with (go_at_call 5; refine (lives_any _).mono ?_; rintro e w' ⟨rfl, hb⟩)
    go_ret
    exact ⟨rfl, hb⟩
  by_cases hneg : a < 0
  · go_enter Try.func4, Try.ntmps4
    go_wp2_with (go_at_call 5; refine (lives_any _).mono ?_; rintro e w' ⟨rfl, hb⟩)
    go_ret
    exact ⟨rfl, hb⟩
  by_cases hfar : (n : Int) - 1 ≤ a
  · go_enter Try.func4, Try.ntmps4
    go_wp2_with (go_at_call 5; refine (lives_any _).mono ?_; rintro e w' ⟨rfl, hb⟩)
    go_ret
    exact ⟨rfl, hb⟩
  obtain ⟨j, rfl⟩ := Int.eq_ofNat_of_zero_le (show 0 ≤ a by omega)
  have hj : j + 2 ≤ n := by omega
  have hlx := hx.u8len
  obtain ⟨X, hX⟩ : ∃ q, q = wh (((((xs.length : Int) - j) % 255 - 1) * (S0 (holed j xs) % 255) - S1 (holed j xs) % 255)) := ⟨_, rfl⟩
  obtain ⟨Y, hY⟩ : ∃ q, q = wh (S1 (holed j xs) % 255 - ((xs.length : Int) - j) % 255 * (S0 (holed j xs) % 255)) := ⟨_, rfl⟩
  have hfl : fl j xs = X * 256 + Y := by unfold fl; rw [hX, hY]
  have hz := Lib.hid (laid_zero (by omega) hX hY)
  have hX' := wh_range (((((xs.length : Int) - j) % 255 - 1) * (S0 (holed j xs) % 255) - S1 (holed j xs) % 255))
  have hY' := wh_range (S1 (holed j xs) % 255 - ((xs.length : Int) - j) % 255 * (S0 (holed j xs) % 255))
  rw [← hX] at hX'
  rw [← hY] at hY'
  obtain ⟨X0, X1⟩ := hX'
  obtain ⟨Y0, Y1⟩ := hY'
  clear hX hY
  have hb0 : (X == 0) = false := by simp; omega
  have hb1 : (Y == 0) = false := by simp; omega
  have u1 := shr8 X Y (by omega) Y1
  have u2 := low8 X Y (by omega) Y1
  have u3 : bits .and .u16 (X * 256 + Y) 255 = Y := by rw [u16_and_mask8 _ (by omega) (by omega)]; exact u2
  have hW : Hid (fl j ((xs.set j X).set (j + 1) Y) = X * 256 + Y) := by rw [← hfl]; exact fl_laid (by omega) X Y
  have Hfl := Lib.hid hfl
  have Hlx := Lib.hid hlx
  clear hfl hlx
  go_enter Try.func4, Try.ntmps4
  go_wp2_with fail
  refine (copyBytes_row _ _ _ xs _ hx (by omega) (by omega)).mono ?_
  rintro e v1 ⟨g1, c1, he1, hg1, hc1, hm1, hr1, hb1⟩
  rw [Hlx.out] at he1
  subst he1
  have hrd1 := Lib.hid (hr1.reads (n := n) (by rw [u8s_length, Hlx.out]))
  rw [Hlx.out] at hc1
  clear hr1
  go_wp2_with fail
  have cf := fletcher_any _ n c1 xs j v1 hrd1.out ho hc1 hm1 (by omega) hj
  rw [Hfl.out] at cf
  refine cf.mono ?_
  clear cf
  rintro e v2 ⟨rfl, hb2⟩
  have K2 := below_then hb1 hb2
  go_wp2_with fail
  refine (copyBytes_row _ _ _ xs _ (hx.later K2) (by omega) (by omega)).mono ?_
  rintro e v3 ⟨g, cap, he3, hg3, hc3, hm3, hr3, hb3⟩
  rw [Hlx.out] at he3 hc3
  subst he3
  have K3 := below_then K2 hb3
  have hgw : w.heap.size ≤ g := Nat.le_trans K2.size hg3
  obtain ⟨xj, _, hcj⟩ := hr3.u8cell (i := j) (by rw [Hlx.out]; omega)
  obtain ⟨xk, _, hck⟩ := hr3.u8cell (i := j + 1) (by rw [Hlx.out]; omega)
  have fj := hr3.frozen j
  have fk := hr3.frozen (j + 1)
  have R4 := (hr3.u8set j X).u8set (j + 1) Y
  have K4 := (K3.setCell (p := ⟨g, j, none⟩) hgw (.int .u8 X)).setCell (p := ⟨g, j + 1, none⟩) hgw (.int .u8 Y)
  obtain ⟨W, hWd⟩ : ∃ W, W = (xs.set j X).set (j + 1) Y := ⟨_, rfl⟩
  rw [← hWd] at R4
  have hWl : W.length = n := by rw [hWd]; simp [Hlx.out]
  have HWl := Lib.hid hWl
  have hWo : Oct W := by rw [hWd]; exact (ho.set _ (by omega)).set _ (by omega)
  rw [← hWd] at hW hz
  have H4 : Hid (Row ((v3.setCell ⟨g, j, none⟩ (.int .u8 X)).setCell ⟨g, j + 1, none⟩ (.int .u8 Y)) g 5 cap (u8s W)) := R4
  have HK4 : Hid (Below w.heap.size w ((v3.setCell ⟨g, j, none⟩ (.int .u8 X)).setCell ⟨g, j + 1, none⟩ (.int .u8 Y))) := K4
  clear hWd hWl R4 K4 hb1 hb2 hb3 K2 K3 hr3
  go_wp2_with fail
  generalize (v3.setCell ⟨g, j, none⟩ (.int .u8 X)).setCell ⟨g, j + 1, none⟩ (.int .u8 Y) = v4 at *
  have R4 := H4.out
  have K4 := HK4.out
  clear hcj hck fj fk H4 HK4
  refine (copyBytes_row _ _ _ W _ (R4.u8reads HWl.out) (by omega) (by omega)).mono ?_
  rintro e v5 ⟨g5, c5, he5, hg5, hc5, hm5, hr5, hb5⟩
  rw [HWl.out] at he5 hc5
  subst he5
  have K5 := below_then K4 hb5
  have R5 := R4.later hb5
  go_wp2_with fail
  have cf := fletcher_any _ n c5 W j v5 (hr5.u8reads HWl.out) hWo hc5 hm5 (by omega) hj
  rw [hW.out] at cf
  refine cf.mono ?_
  clear cf
  rintro e v6 ⟨rfl, hb6⟩
  have K6 := below_then K5 hb6
  have R6 := R5.later hb6
  clear R5 R4 K5 K4 hb5 hb6 hr5
  go_wp2_with fail
  refine (copyBytes_row _ _ _ W _ (R6.u8reads HWl.out) (by omega) (by omega)).mono ?_
  rintro e v7 ⟨g7, c7, he7, hg7, hc7, hm7, hr7, hb7⟩
  rw [HWl.out] at he7 hc7
  subst he7
  have K7 := below_then K6 hb7
  have R7 := R6.later hb7
  go_wp2_with fail
  have cw := prog_whole_any _ n c7 W v7 (hr7.u8reads HWl.out) hWo hc7 hm7
  rw [hz.out.1, hz.out.2] at cw
  refine cw.mono ?_
  clear cw
  rintro e v8 ⟨rfl, hb8⟩
  have K8 := below_then K7 hb8
  have R8 := R7.later hb8
  clear R6 R7 K6 K7 hb7 hb8 hr7
  by_cases hk0 : i < 0
  · clear R8
    go_wp2_with fail
    refine (copyBytes_row _ _ _ xs _ (hx.later K8) (by omega) (by omega)).mono ?_
    rintro e v8a ⟨ga, ca, hea, hga, hca, hma, hra, hba⟩
    rw [Hlx.out] at hea hca
    subst hea
    have K8a := below_then K8 hba
    have hgw2 : w.heap.size ≤ ga := Nat.le_trans K8.size hga
    obtain ⟨xa, _, hcca⟩ := hra.u8cell (i := j - j % 2) (by rw [Hlx.out]; omega)
    obtain ⟨xb, _, hccb⟩ := hra.u8cell (i := j - j % 2 + 1) (by rw [Hlx.out]; omega)
    have ffa := hra.frozen (j - j % 2)
    have ffb := hra.frozen (j - j % 2 + 1)
    obtain ⟨P, hP⟩ : ∃ P, P = (xs.set (j - j % 2) 0).set (j - j % 2 + 1) 0 := ⟨_, rfl⟩
    have Rb' : Hid (Row ((v8a.setCell ⟨ga, j - j % 2, none⟩ (.int .u8 0)).setCell ⟨ga, j - j % 2 + 1, none⟩ (.int .u8 0)) ga 5 ca (u8s P)) := by rw [hP]; exact (hra.u8set (j - j % 2) 0).u8set (j - j % 2 + 1) 0
    have Kb' : Hid (Below w.heap.size w ((v8a.setCell ⟨ga, j - j % 2, none⟩ (.int .u8 0)).setCell ⟨ga, j - j % 2 + 1, none⟩ (.int .u8 0))) := (K8a.setCell (p := ⟨ga, j - j % 2, none⟩) hgw2 (.int .u8 0)).setCell (p := ⟨ga, j - j % 2 + 1, none⟩) hgw2 (.int .u8 0)
    have hPo : Oct P := by rw [hP]; exact (ho.set _ (by omega)).set _ (by omega)
    have HPl : Hid (P.length = n) := by rw [hP]; show _ = _; simp [Hlx.out]
    have HPe : Hid (P[j - j % 2]? = some 0 ∧ P[j - j % 2 + 1]? = some 0) := by
      have := Hlx.out
      rw [hP]
      exact ⟨by rw [List.getElem?_set_ne (by omega), List.getElem?_set_self (by omega)], by rw [List.getElem?_set_self (by rw [List.length_set]; omega)]⟩
    clear hra hba K8a hP
    go_wp2_with fail
    generalize (v8a.setCell ⟨ga, j - j % 2, none⟩ (.int .u8 0)).setCell ⟨ga, j - j % 2 + 1, none⟩ (.int .u8 0) = v8b at *
    have K8b := Kb'.out
    have RB := Rb'.out
    clear hcca hccb ffa ffb Rb' Kb'
    refine (copyBytes_row _ _ _ P _ (RB.u8reads HPl.out) (by omega) (by omega)).mono ?_
    rintro e v8c ⟨gb, cb, heb, hgb, hcb, hmb, hrb, hbb⟩
    rw [HPl.out] at heb hcb
    subst heb
    have K8c := below_then K8b hbb
    have RC := RB.later hbb
    obtain ⟨s, hs⟩ : ∃ s, s = 65535 - foldS (ws true P) := ⟨_, rfl⟩
    have hsr := foldS_range (ws_nonneg hPo true).1
    have hs0 : 0 ≤ s ∧ s ≤ 65535 := by omega
    obtain ⟨hs0, hs1⟩ := hs0
    have Hs := Lib.hid hs
    clear hs hsr
    go_wp2_with fail
    have cp := toBelow (plain_any _ n cb P _ _ (hrb.u8reads HPl.out) hPo hcb hmb)
    rw [← Hs.out] at cp
    refine cp.mono ?_
    clear cp
    rintro e v8d ⟨rfl, hbd⟩
    have K8d := below_then K8c hbd
    have RD := RC.later hbd
    obtain ⟨xa, _, hcca⟩ := RD.u8cell (i := j - j % 2) (by rw [HPl.out]; omega)
    obtain ⟨xb, _, hccb⟩ := RD.u8cell (i := j - j % 2 + 1) (by rw [HPl.out]; omega)
    have ffa := RD.frozen (j - j % 2)
    have ffb := RD.frozen (j - j % 2 + 1)
    have Rb' : Hid (Row ((v8d.setCell ⟨ga, j - j % 2, none⟩ (.int .u8 (s / 256))).setCell ⟨ga, j - j % 2 + 1, none⟩ (.int .u8 (s % 256))) ga 5 ca (u8s ((P.set (j - j % 2) (s / 256)).set (j - j % 2 + 1) (s % 256)))) := (RD.u8set (j - j % 2) _).u8set (j - j % 2 + 1) _
    have Kb' : Hid (Below w.heap.size w ((v8d.setCell ⟨ga, j - j % 2, none⟩ (.int .u8 (s / 256))).setCell ⟨ga, j - j % 2 + 1, none⟩ (.int .u8 (s % 256)))) := (K8d.setCell (p := ⟨ga, j - j % 2, none⟩) hgw2 (.int .u8 (s / 256))).setCell (p := ⟨ga, j - j % 2 + 1, none⟩) hgw2 (.int .u8 (s % 256))
    clear RB RC RD K8b K8c K8d hrb hbb hbd
    go_wp2_with fail
    generalize (v8d.setCell ⟨ga, j - j % 2, none⟩ (.int .u8 (s / 256))).setCell ⟨ga, j - j % 2 + 1, none⟩ (.int .u8 (s % 256)) = v8e at *
    have K8e := Kb'.out
    have RE := Rb'.out
    clear hcca hccb ffa ffb Rb' Kb'
    have hE2 : j - j % 2 = 2 * (j / 2) := by omega
    have cr := toBelow (right_any _ n ca _ _ _ (RE.u8reads (by simp [HPl.out])) ((hPo.set _ (by omega)).set _ (by omega)) hca hma)
    have hpr : (foldS (ws true ((P.set (j - j % 2) (s / 256)).set (j - j % 2 + 1) (s % 256))) == 65535) = true := by
      have := HPe.out
      rw [hE2] at this ⊢
      exact plain_right hPo this.1 this.2 Hs.out
    rw [hpr] at cr
    refine cr.mono ?_
    clear cr hpr hE2
    rintro e v8f ⟨rfl, hbf⟩
    have K8f := below_then K8e hbf
    go_wp2_with fail
    refine (lives_any _).mono ?_
    rintro e v8g ⟨rfl, hbg⟩
    have K8g := below_then K8f hbg
    go_wp2_with fail
    go_ret
    exact ⟨rfl, K8g⟩
  obtain ⟨k, rfl⟩ := Int.eq_ofNat_of_zero_le (show 0 ≤ i by omega)
  by_cases hk1 : n ≤ k
  · clear R8
    go_wp2_with fail
    refine (copyBytes_row _ _ _ xs _ (hx.later K8) (by omega) (by omega)).mono ?_
    rintro e v8a ⟨ga, ca, hea, hga, hca, hma, hra, hba⟩
    rw [Hlx.out] at hea hca
    subst hea
    have K8a := below_then K8 hba
    have hgw2 : w.heap.size ≤ ga := Nat.le_trans K8.size hga
    obtain ⟨xa, _, hcca⟩ := hra.u8cell (i := j - j % 2) (by rw [Hlx.out]; omega)
    obtain ⟨xb, _, hccb⟩ := hra.u8cell (i := j - j % 2 + 1) (by rw [Hlx.out]; omega)
    have ffa := hra.frozen (j - j % 2)
    have ffb := hra.frozen (j - j % 2 + 1)
    obtain ⟨P, hP⟩ : ∃ P, P = (xs.set (j - j % 2) 0).set (j - j % 2 + 1) 0 := ⟨_, rfl⟩
    have Rb' : Hid (Row ((v8a.setCell ⟨ga, j - j % 2, none⟩ (.int .u8 0)).setCell ⟨ga, j - j % 2 + 1, none⟩ (.int .u8 0)) ga 5 ca (u8s P)) := by rw [hP]; exact (hra.u8set (j - j % 2) 0).u8set (j - j % 2 + 1) 0
    have Kb' : Hid (Below w.heap.size w ((v8a.setCell ⟨ga, j - j % 2, none⟩ (.int .u8 0)).setCell ⟨ga, j - j % 2 + 1, none⟩ (.int .u8 0))) := (K8a.setCell (p := ⟨ga, j - j % 2, none⟩) hgw2 (.int .u8 0)).setCell (p := ⟨ga, j - j % 2 + 1, none⟩) hgw2 (.int .u8 0)
    have hPo : Oct P := by rw [hP]; exact (ho.set _ (by omega)).set _ (by omega)
    have HPl : Hid (P.length = n) := by rw [hP]; show _ = _; simp [Hlx.out]
    have HPe : Hid (P[j - j % 2]? = some 0 ∧ P[j - j % 2 + 1]? = some 0) := by
      have := Hlx.out
      rw [hP]
      exact ⟨by rw [List.getElem?_set_ne (by omega), List.getElem?_set_self (by omega)], by rw [List.getElem?_set_self (by rw [List.length_set]; omega)]⟩
    clear hra hba K8a hP
    go_wp2_with fail
    generalize (v8a.setCell ⟨ga, j - j % 2, none⟩ (.int .u8 0)).setCell ⟨ga, j - j % 2 + 1, none⟩ (.int .u8 0) = v8b at *
    have K8b := Kb'.out
    have RB := Rb'.out
    clear hcca hccb ffa ffb Rb' Kb'
    refine (copyBytes_row _ _ _ P _ (RB.u8reads HPl.out) (by omega) (by omega)).mono ?_
    rintro e v8c ⟨gb, cb, heb, hgb, hcb, hmb, hrb, hbb⟩
    rw [HPl.out] at heb hcb
    subst heb
    have K8c := below_then K8b hbb
    have RC := RB.later hbb
    obtain ⟨s, hs⟩ : ∃ s, s = 65535 - foldS (ws true P) := ⟨_, rfl⟩
    have hsr := foldS_range (ws_nonneg hPo true).1
    have hs0 : 0 ≤ s ∧ s ≤ 65535 := by omega
    obtain ⟨hs0, hs1⟩ := hs0
    have Hs := Lib.hid hs
    clear hs hsr
    go_wp2_with fail
    have cp := toBelow (plain_any _ n cb P _ _ (hrb.u8reads HPl.out) hPo hcb hmb)
    rw [← Hs.out] at cp
    refine cp.mono ?_
    clear cp
    rintro e v8d ⟨rfl, hbd⟩
    have K8d := below_then K8c hbd
    have RD := RC.later hbd
    obtain ⟨xa, _, hcca⟩ := RD.u8cell (i := j - j % 2) (by rw [HPl.out]; omega)
    obtain ⟨xb, _, hccb⟩ := RD.u8cell (i := j - j % 2 + 1) (by rw [HPl.out]; omega)
    have ffa := RD.frozen (j - j % 2)
    have ffb := RD.frozen (j - j % 2 + 1)
    have Rb' : Hid (Row ((v8d.setCell ⟨ga, j - j % 2, none⟩ (.int .u8 (s / 256))).setCell ⟨ga, j - j % 2 + 1, none⟩ (.int .u8 (s % 256))) ga 5 ca (u8s ((P.set (j - j % 2) (s / 256)).set (j - j % 2 + 1) (s % 256)))) := (RD.u8set (j - j % 2) _).u8set (j - j % 2 + 1) _
    have Kb' : Hid (Below w.heap.size w ((v8d.setCell ⟨ga, j - j % 2, none⟩ (.int .u8 (s / 256))).setCell ⟨ga, j - j % 2 + 1, none⟩ (.int .u8 (s % 256)))) := (K8d.setCell (p := ⟨ga, j - j % 2, none⟩) hgw2 (.int .u8 (s / 256))).setCell (p := ⟨ga, j - j % 2 + 1, none⟩) hgw2 (.int .u8 (s % 256))
    clear RB RC RD K8b K8c K8d hrb hbb hbd
    go_wp2_with fail
    generalize (v8d.setCell ⟨ga, j - j % 2, none⟩ (.int .u8 (s / 256))).setCell ⟨ga, j - j % 2 + 1, none⟩ (.int .u8 (s % 256)) = v8e at *
    have K8e := Kb'.out
    have RE := Rb'.out
    clear hcca hccb ffa ffb Rb' Kb'
    have hE2 : j - j % 2 = 2 * (j / 2) := by omega
    have cr := toBelow (right_any _ n ca _ _ _ (RE.u8reads (by simp [HPl.out])) ((hPo.set _ (by omega)).set _ (by omega)) hca hma)
    have hpr : (foldS (ws true ((P.set (j - j % 2) (s / 256)).set (j - j % 2 + 1) (s % 256))) == 65535) = true := by
      have := HPe.out
      rw [hE2] at this ⊢
      exact plain_right hPo this.1 this.2 Hs.out
    rw [hpr] at cr
    refine cr.mono ?_
    clear cr hpr hE2
    rintro e v8f ⟨rfl, hbf⟩
    have K8f := below_then K8e hbf
    go_wp2_with fail
    refine (lives_any _).mono ?_
    rintro e v8g ⟨rfl, hbg⟩
    have K8g := below_then K8f hbg
    go_wp2_with fail
    go_ret
    exact ⟨rfl, K8g⟩
  have hk2 : k < n := by omega
  obtain ⟨x, hxk, hcx⟩ := R8.u8cell (i := k) (by rw [HWl.out]; exact hk2)
  obtain ⟨hx0, hx1⟩ := hWo _ _ hxk.out
  by_cases hk3 : (n : Int) - 1 ≤ k
  · by_cases hxt : x = tb
    · have hbx : (x != tb) = false := by simp [hxt]
      clear hxt R8
      go_wp2_with fail
      refine (copyBytes_row _ _ _ xs _ (hx.later K8) (by omega) (by omega)).mono ?_
      rintro e v8a ⟨ga, ca, hea, hga, hca, hma, hra, hba⟩
      rw [Hlx.out] at hea hca
      subst hea
      have K8a := below_then K8 hba
      have hgw2 : w.heap.size ≤ ga := Nat.le_trans K8.size hga
      obtain ⟨xa, _, hcca⟩ := hra.u8cell (i := j - j % 2) (by rw [Hlx.out]; omega)
      obtain ⟨xb, _, hccb⟩ := hra.u8cell (i := j - j % 2 + 1) (by rw [Hlx.out]; omega)
      have ffa := hra.frozen (j - j % 2)
      have ffb := hra.frozen (j - j % 2 + 1)
      obtain ⟨P, hP⟩ : ∃ P, P = (xs.set (j - j % 2) 0).set (j - j % 2 + 1) 0 := ⟨_, rfl⟩
      have Rb' : Hid (Row ((v8a.setCell ⟨ga, j - j % 2, none⟩ (.int .u8 0)).setCell ⟨ga, j - j % 2 + 1, none⟩ (.int .u8 0)) ga 5 ca (u8s P)) := by rw [hP]; exact (hra.u8set (j - j % 2) 0).u8set (j - j % 2 + 1) 0
      have Kb' : Hid (Below w.heap.size w ((v8a.setCell ⟨ga, j - j % 2, none⟩ (.int .u8 0)).setCell ⟨ga, j - j % 2 + 1, none⟩ (.int .u8 0))) := (K8a.setCell (p := ⟨ga, j - j % 2, none⟩) hgw2 (.int .u8 0)).setCell (p := ⟨ga, j - j % 2 + 1, none⟩) hgw2 (.int .u8 0)
      have hPo : Oct P := by rw [hP]; exact (ho.set _ (by omega)).set _ (by omega)
      have HPl : Hid (P.length = n) := by rw [hP]; show _ = _; simp [Hlx.out]
      have HPe : Hid (P[j - j % 2]? = some 0 ∧ P[j - j % 2 + 1]? = some 0) := by
        have := Hlx.out
        rw [hP]
        exact ⟨by rw [List.getElem?_set_ne (by omega), List.getElem?_set_self (by omega)], by rw [List.getElem?_set_self (by rw [List.length_set]; omega)]⟩
      clear hra hba K8a hP
      go_wp2_with fail
      generalize (v8a.setCell ⟨ga, j - j % 2, none⟩ (.int .u8 0)).setCell ⟨ga, j - j % 2 + 1, none⟩ (.int .u8 0) = v8b at *
      have K8b := Kb'.out
      have RB := Rb'.out
      clear hcca hccb ffa ffb Rb' Kb'
      refine (copyBytes_row _ _ _ P _ (RB.u8reads HPl.out) (by omega) (by omega)).mono ?_
      rintro e v8c ⟨gb, cb, heb, hgb, hcb, hmb, hrb, hbb⟩
      rw [HPl.out] at heb hcb
      subst heb
      have K8c := below_then K8b hbb
      have RC := RB.later hbb
      obtain ⟨s, hs⟩ : ∃ s, s = 65535 - foldS (ws true P) := ⟨_, rfl⟩
      have hsr := foldS_range (ws_nonneg hPo true).1
      have hs0 : 0 ≤ s ∧ s ≤ 65535 := by omega
      obtain ⟨hs0, hs1⟩ := hs0
      have Hs := Lib.hid hs
      clear hs hsr
      go_wp2_with fail
      have cp := toBelow (plain_any _ n cb P _ _ (hrb.u8reads HPl.out) hPo hcb hmb)
      rw [← Hs.out] at cp
      refine cp.mono ?_
      clear cp
      rintro e v8d ⟨rfl, hbd⟩
      have K8d := below_then K8c hbd
      have RD := RC.later hbd
      obtain ⟨xa, _, hcca⟩ := RD.u8cell (i := j - j % 2) (by rw [HPl.out]; omega)
      obtain ⟨xb, _, hccb⟩ := RD.u8cell (i := j - j % 2 + 1) (by rw [HPl.out]; omega)
      have ffa := RD.frozen (j - j % 2)
      have ffb := RD.frozen (j - j % 2 + 1)
      have Rb' : Hid (Row ((v8d.setCell ⟨ga, j - j % 2, none⟩ (.int .u8 (s / 256))).setCell ⟨ga, j - j % 2 + 1, none⟩ (.int .u8 (s % 256))) ga 5 ca (u8s ((P.set (j - j % 2) (s / 256)).set (j - j % 2 + 1) (s % 256)))) := (RD.u8set (j - j % 2) _).u8set (j - j % 2 + 1) _
      have Kb' : Hid (Below w.heap.size w ((v8d.setCell ⟨ga, j - j % 2, none⟩ (.int .u8 (s / 256))).setCell ⟨ga, j - j % 2 + 1, none⟩ (.int .u8 (s % 256)))) := (K8d.setCell (p := ⟨ga, j - j % 2, none⟩) hgw2 (.int .u8 (s / 256))).setCell (p := ⟨ga, j - j % 2 + 1, none⟩) hgw2 (.int .u8 (s % 256))
      clear RB RC RD K8b K8c K8d hrb hbb hbd
      go_wp2_with fail
      generalize (v8d.setCell ⟨ga, j - j % 2, none⟩ (.int .u8 (s / 256))).setCell ⟨ga, j - j % 2 + 1, none⟩ (.int .u8 (s % 256)) = v8e at *
      have K8e := Kb'.out
      have RE := Rb'.out
      clear hcca hccb ffa ffb Rb' Kb'
      have hE2 : j - j % 2 = 2 * (j / 2) := by omega
      have cr := toBelow (right_any _ n ca _ _ _ (RE.u8reads (by simp [HPl.out])) ((hPo.set _ (by omega)).set _ (by omega)) hca hma)
      have hpr : (foldS (ws true ((P.set (j - j % 2) (s / 256)).set (j - j % 2 + 1) (s % 256))) == 65535) = true := by
        have := HPe.out
        rw [hE2] at this ⊢
        exact plain_right hPo this.1 this.2 Hs.out
      rw [hpr] at cr
      refine cr.mono ?_
      clear cr hpr hE2
      rintro e v8f ⟨rfl, hbf⟩
      have K8f := below_then K8e hbf
      go_wp2_with fail
      refine (lives_any _).mono ?_
      rintro e v8g ⟨rfl, hbg⟩
      have K8g := below_then K8f hbg
      go_wp2_with fail
      go_ret
      exact ⟨rfl, K8g⟩
    · have hbx : (x != tb) = true := by simp [hxt]
      clear hxt
      go_wp2_with fail
      refine (copyBytes_row _ _ _ W _ (R8.u8reads HWl.out) (by omega) (by omega)).mono ?_
      rintro e v8a ⟨ga, ca, hea, hga, hca, hma, hra, hba⟩
      rw [HWl.out] at hea hca
      subst hea
      have K8a := below_then K8 hba
      have R8a := R8.later hba
      have hgne : g ≠ ga := by have := R8.lt; omega
      obtain ⟨xa, _, hcca⟩ := hra.u8cell (i := k) (by rw [HWl.out]; omega)
      have ffa := hra.frozen k
      have Rb' : Hid (Row (v8a.setCell ⟨ga, k, none⟩ (.int .u8 tb)) ga 5 ca (u8s (W.set k tb))) := hra.u8set k tb
      have Kb' : Hid (Below w.heap.size w (v8a.setCell ⟨ga, k, none⟩ (.int .u8 tb))) := K8a.setCell (p := ⟨ga, k, none⟩) (Nat.le_trans K8.size hga) (.int .u8 tb)
      have Rw' : Hid (Row (v8a.setCell ⟨ga, k, none⟩ (.int .u8 tb)) g 5 cap (u8s W)) := R8a.far (p := ⟨ga, k, none⟩) hgne (.int .u8 tb)
      clear hra hba R8a K8a
      go_wp2_with fail
      generalize v8a.setCell ⟨ga, k, none⟩ (.int .u8 tb) = v8b at *
      have K8b := Kb'.out
      have R8b := Rw'.out
      have RB := Rb'.out
      clear hcca ffa Rb' Kb' Rw' hcx
      have hcw := R8b.cell (u8s_get_of hxk.out)
      have cw := prog_whole_any _ n ca (W.set k tb) v8b.drew (RB.u8reads (by rw [List.length_set, HWl.out])) (hWo.set _ ⟨ht0, ht1⟩) hca hma
      rw [changed_iff hxk.out hz.out.1 hz.out.2] at cw
      have HCW := Lib.hid cw
      clear cw RB
      have hgb := R8b.lt
      have r1 : x.tmod 255 = x % 255 := Int.tmod_eq_emod_of_nonneg hx0
      have r2 : tb.tmod 255 = tb % 255 := Int.tmod_eq_emod_of_nonneg ht0
      have r3 : IntKind.u8.wrap (x % 255) = x % 255 := IntWalk.u8_in _ (by omega)
      have r4 : IntKind.u8.wrap (tb % 255) = tb % 255 := IntWalk.u8_in _ (by omega)
      go_region_held3 (fun w' => w'.cell? ⟨g, k, none⟩ = some (.int .u8 x)) (go_keep) (first | (go_at_call 13; refine (Hid.out HCW).mono ?_; rintro e v8c ⟨rfl, hbc⟩; have hcwc := (hbc.cell (p := ⟨g, k, none⟩) hgb).trans hcw))
      have K8c := below_then K8b (below_drew_left hbc)
      have R8c := R8b.later (below_drew_left hbc)
      clear r1 r2 r3 r4
      clear HCW hbc hcw hcwc K8b R8b hgb hgne hga K8 R8 hca hma
      clear R8c
      go_wp2_with fail
      refine (copyBytes_row _ _ _ xs _ (hx.later K8c) (by omega) (by omega)).mono ?_
      rintro e v8ca ⟨ga, ca, hea, hga, hca, hma, hra, hba⟩
      rw [Hlx.out] at hea hca
      subst hea
      have K8ca := below_then K8c hba
      have hgw2 : w.heap.size ≤ ga := Nat.le_trans K8c.size hga
      obtain ⟨xa, _, hcca⟩ := hra.u8cell (i := j - j % 2) (by rw [Hlx.out]; omega)
      obtain ⟨xb, _, hccb⟩ := hra.u8cell (i := j - j % 2 + 1) (by rw [Hlx.out]; omega)
      have ffa := hra.frozen (j - j % 2)
      have ffb := hra.frozen (j - j % 2 + 1)
      obtain ⟨P, hP⟩ : ∃ P, P = (xs.set (j - j % 2) 0).set (j - j % 2 + 1) 0 := ⟨_, rfl⟩
      have Rb' : Hid (Row ((v8ca.setCell ⟨ga, j - j % 2, none⟩ (.int .u8 0)).setCell ⟨ga, j - j % 2 + 1, none⟩ (.int .u8 0)) ga 5 ca (u8s P)) := by rw [hP]; exact (hra.u8set (j - j % 2) 0).u8set (j - j % 2 + 1) 0
      have Kb' : Hid (Below w.heap.size w ((v8ca.setCell ⟨ga, j - j % 2, none⟩ (.int .u8 0)).setCell ⟨ga, j - j % 2 + 1, none⟩ (.int .u8 0))) := (K8ca.setCell (p := ⟨ga, j - j % 2, none⟩) hgw2 (.int .u8 0)).setCell (p := ⟨ga, j - j % 2 + 1, none⟩) hgw2 (.int .u8 0)
      have hPo : Oct P := by rw [hP]; exact (ho.set _ (by omega)).set _ (by omega)
      have HPl : Hid (P.length = n) := by rw [hP]; show _ = _; simp [Hlx.out]
      have HPe : Hid (P[j - j % 2]? = some 0 ∧ P[j - j % 2 + 1]? = some 0) := by
        have := Hlx.out
        rw [hP]
        exact ⟨by rw [List.getElem?_set_ne (by omega), List.getElem?_set_self (by omega)], by rw [List.getElem?_set_self (by rw [List.length_set]; omega)]⟩
      clear hra hba K8ca hP
      go_wp2_with fail
      generalize (v8ca.setCell ⟨ga, j - j % 2, none⟩ (.int .u8 0)).setCell ⟨ga, j - j % 2 + 1, none⟩ (.int .u8 0) = v8cb at *
      have K8cb := Kb'.out
      have RB := Rb'.out
      clear hcca hccb ffa ffb Rb' Kb'
      refine (copyBytes_row _ _ _ P _ (RB.u8reads HPl.out) (by omega) (by omega)).mono ?_
      rintro e v8cc ⟨gb, cb, heb, hgb, hcb, hmb, hrb, hbb⟩
      rw [HPl.out] at heb hcb
      subst heb
      have K8cc := below_then K8cb hbb
      have RC := RB.later hbb
      obtain ⟨s, hs⟩ : ∃ s, s = 65535 - foldS (ws true P) := ⟨_, rfl⟩
      have hsr := foldS_range (ws_nonneg hPo true).1
      have hs0 : 0 ≤ s ∧ s ≤ 65535 := by omega
      obtain ⟨hs0, hs1⟩ := hs0
      have Hs := Lib.hid hs
      clear hs hsr
      go_wp2_with fail
      have cp := toBelow (plain_any _ n cb P _ _ (hrb.u8reads HPl.out) hPo hcb hmb)
      rw [← Hs.out] at cp
      refine cp.mono ?_
      clear cp
      rintro e v8cd ⟨rfl, hbd⟩
      have K8cd := below_then K8cc hbd
      have RD := RC.later hbd
      obtain ⟨xa, _, hcca⟩ := RD.u8cell (i := j - j % 2) (by rw [HPl.out]; omega)
      obtain ⟨xb, _, hccb⟩ := RD.u8cell (i := j - j % 2 + 1) (by rw [HPl.out]; omega)
      have ffa := RD.frozen (j - j % 2)
      have ffb := RD.frozen (j - j % 2 + 1)
      have Rb' : Hid (Row ((v8cd.setCell ⟨ga, j - j % 2, none⟩ (.int .u8 (s / 256))).setCell ⟨ga, j - j % 2 + 1, none⟩ (.int .u8 (s % 256))) ga 5 ca (u8s ((P.set (j - j % 2) (s / 256)).set (j - j % 2 + 1) (s % 256)))) := (RD.u8set (j - j % 2) _).u8set (j - j % 2 + 1) _
      have Kb' : Hid (Below w.heap.size w ((v8cd.setCell ⟨ga, j - j % 2, none⟩ (.int .u8 (s / 256))).setCell ⟨ga, j - j % 2 + 1, none⟩ (.int .u8 (s % 256)))) := (K8cd.setCell (p := ⟨ga, j - j % 2, none⟩) hgw2 (.int .u8 (s / 256))).setCell (p := ⟨ga, j - j % 2 + 1, none⟩) hgw2 (.int .u8 (s % 256))
      clear RB RC RD K8cb K8cc K8cd hrb hbb hbd
      go_wp2_with fail
      generalize (v8cd.setCell ⟨ga, j - j % 2, none⟩ (.int .u8 (s / 256))).setCell ⟨ga, j - j % 2 + 1, none⟩ (.int .u8 (s % 256)) = v8ce at *
      have K8ce := Kb'.out
      have RE := Rb'.out
      clear hcca hccb ffa ffb Rb' Kb'
      have hE2 : j - j % 2 = 2 * (j / 2) := by omega
      have cr := toBelow (right_any _ n ca _ _ _ (RE.u8reads (by simp [HPl.out])) ((hPo.set _ (by omega)).set _ (by omega)) hca hma)
      have hpr : (foldS (ws true ((P.set (j - j % 2) (s / 256)).set (j - j % 2 + 1) (s % 256))) == 65535) = true := by
        have := HPe.out
        rw [hE2] at this ⊢
        exact plain_right hPo this.1 this.2 Hs.out
      rw [hpr] at cr
      refine cr.mono ?_
      clear cr hpr hE2
      rintro e v8cf ⟨rfl, hbf⟩
      have K8cf := below_then K8ce hbf
      go_wp2_with fail
      refine (lives_any _).mono ?_
      rintro e v8cg ⟨rfl, hbg⟩
      have K8cg := below_then K8cf hbg
      go_wp2_with fail
      go_ret
      exact ⟨rfl, K8cg⟩
  · obtain ⟨y, hyk, hcy⟩ := R8.u8cell (i := k + 1) (by rw [HWl.out]; omega)
    obtain ⟨hy0, hy1⟩ := hWo _ _ hyk.out
    clear hcy
    by_cases hxt : x = tb
    · have hbx : (x != tb) = false := by simp [hxt]
      clear hxt
      go_wp2_with fail
      refine (copyBytes_row _ _ _ W _ (R8.u8reads HWl.out) (by omega) (by omega)).mono ?_
      rintro e v8a ⟨ga, ca, hea, hga, hca, hma, hra, hba⟩
      rw [HWl.out] at hea hca
      subst hea
      have K8a := below_then K8 hba
      have R8a := R8.later hba
      have hgne : g ≠ ga := by have := R8.lt; omega
      obtain ⟨xa, _, hcca⟩ := hra.u8cell (i := k) (by rw [HWl.out]; omega)
      obtain ⟨xb, _, hccb⟩ := hra.u8cell (i := k + 1) (by rw [HWl.out]; omega)
      have ffa := hra.frozen k
      have ffb := hra.frozen (k + 1)
      have hcwx := R8a.cell (u8s_get_of hxk.out)
      have hcwy := R8a.cell (u8s_get_of hyk.out)
      have hcwx2 : (v8a.setCell ⟨ga, k, none⟩ (.int .u8 y)).cell? ⟨g, k, none⟩ = some (.int .u8 x) := (R8a.far (p := ⟨ga, k, none⟩) hgne (.int .u8 y)).cell (u8s_get_of hxk.out)
      have Rb' : Hid (Row ((v8a.setCell ⟨ga, k, none⟩ (.int .u8 y)).setCell ⟨ga, k + 1, none⟩ (.int .u8 x)) ga 5 ca (u8s ((W.set k y).set (k + 1) x))) := (hra.u8set k y).u8set (k + 1) x
      have Kb' : Hid (Below w.heap.size w ((v8a.setCell ⟨ga, k, none⟩ (.int .u8 y)).setCell ⟨ga, k + 1, none⟩ (.int .u8 x))) := (K8a.setCell (p := ⟨ga, k, none⟩) (Nat.le_trans K8.size hga) (.int .u8 y)).setCell (p := ⟨ga, k + 1, none⟩) (Nat.le_trans K8.size hga) (.int .u8 x)
      have Rw' : Hid (Row ((v8a.setCell ⟨ga, k, none⟩ (.int .u8 y)).setCell ⟨ga, k + 1, none⟩ (.int .u8 x)) g 5 cap (u8s W)) := (R8a.far (p := ⟨ga, k, none⟩) hgne (.int .u8 y)).far (p := ⟨ga, k + 1, none⟩) hgne (.int .u8 x)
      clear hra hba R8a K8a
      go_wp2_with fail
      generalize (v8a.setCell ⟨ga, k, none⟩ (.int .u8 y)).setCell ⟨ga, k + 1, none⟩ (.int .u8 x) = v8b at *
      have K8b := Kb'.out
      have R8b := Rw'.out
      have RB := Rb'.out
      clear hcca hccb ffa ffb Rb' Kb' Rw' hcwx hcwy hcwx2
      have hcw := R8b.cell (u8s_get_of hxk.out)
      have hcw2 := R8b.cell (u8s_get_of hyk.out)
      have cw := prog_whole_any _ n ca ((W.set k y).set (k + 1) x) v8b.drew (RB.u8reads (by rw [List.length_set, List.length_set, HWl.out])) ((hWo.set _ ⟨hy0, hy1⟩).set _ ⟨hx0, hx1⟩) hca hma
      rw [swapped_iff hxk.out hyk.out hz.out.1 hz.out.2] at cw
      have HCW := Lib.hid cw
      clear cw RB
      have hgb := R8b.lt
      have r1 : x.tmod 255 = x % 255 := Int.tmod_eq_emod_of_nonneg hx0
      have r2 : y.tmod 255 = y % 255 := Int.tmod_eq_emod_of_nonneg hy0
      have r3 : IntKind.u8.wrap (x % 255) = x % 255 := IntWalk.u8_in _ (by omega)
      have r4 : IntKind.u8.wrap (y % 255) = y % 255 := IntWalk.u8_in _ (by omega)
      have r6 : (0 : Int) ≤ (k : Int) + 1 := by omega
      have r7 : (k : Int) + 1 < (n : Int) := by omega
      have r5 : IntKind.i64.wrap ((k : Int) + 1) = (k : Int) + 1 := IntWalk.i64_in _ (by omega)
      have r8 : ((k : Int) + 1).toNat = k + 1 := by omega
      go_region_held3 (fun w' => w'.cell? ⟨g, k, none⟩ = some (.int .u8 x) ∧ w'.cell? ⟨g, k + 1, none⟩ = some (.int .u8 y)) (go_keep) (first | (go_at_call 13; refine (Hid.out HCW).mono ?_; rintro e v8c ⟨rfl, hbc⟩; have hcwc := (hbc.cell (p := ⟨g, k, none⟩) hgb).trans hcw; have hcwd := (hbc.cell (p := ⟨g, k + 1, none⟩) hgb).trans hcw2))
      have K8c := below_then K8b (below_drew_left hbc)
      clear r1 r2 r3 r4 r5 r6 r7 r8
      clear HCW hbc hcw hcwc hcw2 hcwd K8b R8b hgb hgne hga K8 R8 hca hma
      go_wp2_with fail
      refine (copyBytes_row _ _ _ xs _ (hx.later K8c) (by omega) (by omega)).mono ?_
      rintro e v8ca ⟨ga, ca, hea, hga, hca, hma, hra, hba⟩
      rw [Hlx.out] at hea hca
      subst hea
      have K8ca := below_then K8c hba
      have hgw2 : w.heap.size ≤ ga := Nat.le_trans K8c.size hga
      obtain ⟨xa, _, hcca⟩ := hra.u8cell (i := j - j % 2) (by rw [Hlx.out]; omega)
      obtain ⟨xb, _, hccb⟩ := hra.u8cell (i := j - j % 2 + 1) (by rw [Hlx.out]; omega)
      have ffa := hra.frozen (j - j % 2)
      have ffb := hra.frozen (j - j % 2 + 1)
      obtain ⟨P, hP⟩ : ∃ P, P = (xs.set (j - j % 2) 0).set (j - j % 2 + 1) 0 := ⟨_, rfl⟩
      have Rb' : Hid (Row ((v8ca.setCell ⟨ga, j - j % 2, none⟩ (.int .u8 0)).setCell ⟨ga, j - j % 2 + 1, none⟩ (.int .u8 0)) ga 5 ca (u8s P)) := by rw [hP]; exact (hra.u8set (j - j % 2) 0).u8set (j - j % 2 + 1) 0
      have Kb' : Hid (Below w.heap.size w ((v8ca.setCell ⟨ga, j - j % 2, none⟩ (.int .u8 0)).setCell ⟨ga, j - j % 2 + 1, none⟩ (.int .u8 0))) := (K8ca.setCell (p := ⟨ga, j - j % 2, none⟩) hgw2 (.int .u8 0)).setCell (p := ⟨ga, j - j % 2 + 1, none⟩) hgw2 (.int .u8 0)
      have hPo : Oct P := by rw [hP]; exact (ho.set _ (by omega)).set _ (by omega)
      have HPl : Hid (P.length = n) := by rw [hP]; show _ = _; simp [Hlx.out]
      have HPe : Hid (P[j - j % 2]? = some 0 ∧ P[j - j % 2 + 1]? = some 0) := by
        have := Hlx.out
        rw [hP]
        exact ⟨by rw [List.getElem?_set_ne (by omega), List.getElem?_set_self (by omega)], by rw [List.getElem?_set_self (by rw [List.length_set]; omega)]⟩
      clear hra hba K8ca hP
      go_wp2_with fail
      generalize (v8ca.setCell ⟨ga, j - j % 2, none⟩ (.int .u8 0)).setCell ⟨ga, j - j % 2 + 1, none⟩ (.int .u8 0) = v8cb at *
      have K8cb := Kb'.out
      have RB := Rb'.out
      clear hcca hccb ffa ffb Rb' Kb'
      refine (copyBytes_row _ _ _ P _ (RB.u8reads HPl.out) (by omega) (by omega)).mono ?_
      rintro e v8cc ⟨gb, cb, heb, hgb, hcb, hmb, hrb, hbb⟩
      rw [HPl.out] at heb hcb
      subst heb
      have K8cc := below_then K8cb hbb
      have RC := RB.later hbb
      obtain ⟨s, hs⟩ : ∃ s, s = 65535 - foldS (ws true P) := ⟨_, rfl⟩
      have hsr := foldS_range (ws_nonneg hPo true).1
      have hs0 : 0 ≤ s ∧ s ≤ 65535 := by omega
      obtain ⟨hs0, hs1⟩ := hs0
      have Hs := Lib.hid hs
      clear hs hsr
      go_wp2_with fail
      have cp := toBelow (plain_any _ n cb P _ _ (hrb.u8reads HPl.out) hPo hcb hmb)
      rw [← Hs.out] at cp
      refine cp.mono ?_
      clear cp
      rintro e v8cd ⟨rfl, hbd⟩
      have K8cd := below_then K8cc hbd
      have RD := RC.later hbd
      obtain ⟨xa, _, hcca⟩ := RD.u8cell (i := j - j % 2) (by rw [HPl.out]; omega)
      obtain ⟨xb, _, hccb⟩ := RD.u8cell (i := j - j % 2 + 1) (by rw [HPl.out]; omega)
      have ffa := RD.frozen (j - j % 2)
      have ffb := RD.frozen (j - j % 2 + 1)
      have Rb' : Hid (Row ((v8cd.setCell ⟨ga, j - j % 2, none⟩ (.int .u8 (s / 256))).setCell ⟨ga, j - j % 2 + 1, none⟩ (.int .u8 (s % 256))) ga 5 ca (u8s ((P.set (j - j % 2) (s / 256)).set (j - j % 2 + 1) (s % 256)))) := (RD.u8set (j - j % 2) _).u8set (j - j % 2 + 1) _
      have Kb' : Hid (Below w.heap.size w ((v8cd.setCell ⟨ga, j - j % 2, none⟩ (.int .u8 (s / 256))).setCell ⟨ga, j - j % 2 + 1, none⟩ (.int .u8 (s % 256)))) := (K8cd.setCell (p := ⟨ga, j - j % 2, none⟩) hgw2 (.int .u8 (s / 256))).setCell (p := ⟨ga, j - j % 2 + 1, none⟩) hgw2 (.int .u8 (s % 256))
      clear RB RC RD K8cb K8cc K8cd hrb hbb hbd
      go_wp2_with fail
      generalize (v8cd.setCell ⟨ga, j - j % 2, none⟩ (.int .u8 (s / 256))).setCell ⟨ga, j - j % 2 + 1, none⟩ (.int .u8 (s % 256)) = v8ce at *
      have K8ce := Kb'.out
      have RE := Rb'.out
      clear hcca hccb ffa ffb Rb' Kb'
      have hE2 : j - j % 2 = 2 * (j / 2) := by omega
      have cr := toBelow (right_any _ n ca _ _ _ (RE.u8reads (by simp [HPl.out])) ((hPo.set _ (by omega)).set _ (by omega)) hca hma)
      have hpr : (foldS (ws true ((P.set (j - j % 2) (s / 256)).set (j - j % 2 + 1) (s % 256))) == 65535) = true := by
        have := HPe.out
        rw [hE2] at this ⊢
        exact plain_right hPo this.1 this.2 Hs.out
      rw [hpr] at cr
      refine cr.mono ?_
      clear cr hpr hE2
      rintro e v8cf ⟨rfl, hbf⟩
      have K8cf := below_then K8ce hbf
      go_wp2_with fail
      refine (lives_any _).mono ?_
      rintro e v8cg ⟨rfl, hbg⟩
      have K8cg := below_then K8cf hbg
      go_wp2_with fail
      go_ret
      exact ⟨rfl, K8cg⟩
    · have hbx : (x != tb) = true := by simp [hxt]
      clear hxt
      go_wp2_with fail
      refine (copyBytes_row _ _ _ W _ (R8.u8reads HWl.out) (by omega) (by omega)).mono ?_
      rintro e v8a ⟨ga, ca, hea, hga, hca, hma, hra, hba⟩
      rw [HWl.out] at hea hca
      subst hea
      have K8a := below_then K8 hba
      have R8a := R8.later hba
      have hgne : g ≠ ga := by have := R8.lt; omega
      obtain ⟨xa, _, hcca⟩ := hra.u8cell (i := k) (by rw [HWl.out]; omega)
      have ffa := hra.frozen k
      have Rb' : Hid (Row (v8a.setCell ⟨ga, k, none⟩ (.int .u8 tb)) ga 5 ca (u8s (W.set k tb))) := hra.u8set k tb
      have Kb' : Hid (Below w.heap.size w (v8a.setCell ⟨ga, k, none⟩ (.int .u8 tb))) := K8a.setCell (p := ⟨ga, k, none⟩) (Nat.le_trans K8.size hga) (.int .u8 tb)
      have Rw' : Hid (Row (v8a.setCell ⟨ga, k, none⟩ (.int .u8 tb)) g 5 cap (u8s W)) := R8a.far (p := ⟨ga, k, none⟩) hgne (.int .u8 tb)
      clear hra hba R8a K8a
      go_wp2_with fail
      generalize v8a.setCell ⟨ga, k, none⟩ (.int .u8 tb) = v8b at *
      have K8b := Kb'.out
      have R8b := Rw'.out
      have RB := Rb'.out
      clear hcca ffa Rb' Kb' Rw' hcx
      have hcw := R8b.cell (u8s_get_of hxk.out)
      have cw := prog_whole_any _ n ca (W.set k tb) v8b.drew (RB.u8reads (by rw [List.length_set, HWl.out])) (hWo.set _ ⟨ht0, ht1⟩) hca hma
      rw [changed_iff hxk.out hz.out.1 hz.out.2] at cw
      have HCW := Lib.hid cw
      clear cw RB
      have hgb := R8b.lt
      have r1 : x.tmod 255 = x % 255 := Int.tmod_eq_emod_of_nonneg hx0
      have r2 : tb.tmod 255 = tb % 255 := Int.tmod_eq_emod_of_nonneg ht0
      have r3 : IntKind.u8.wrap (x % 255) = x % 255 := IntWalk.u8_in _ (by omega)
      have r4 : IntKind.u8.wrap (tb % 255) = tb % 255 := IntWalk.u8_in _ (by omega)
      go_region_held3 (fun w' => w'.cell? ⟨g, k, none⟩ = some (.int .u8 x)) (go_keep) (first | (go_at_call 13; refine (Hid.out HCW).mono ?_; rintro e v8c ⟨rfl, hbc⟩; have hcwc := (hbc.cell (p := ⟨g, k, none⟩) hgb).trans hcw))
      have K8c := below_then K8b (below_drew_left hbc)
      have R8c := R8b.later (below_drew_left hbc)
      clear r1 r2 r3 r4
      clear HCW hbc hcw hcwc K8b R8b hgb hgne hga K8 R8 hca hma
      go_wp2_with fail
      refine (copyBytes_row _ _ _ W _ (R8c.u8reads HWl.out) (by omega) (by omega)).mono ?_
      rintro e v8ca ⟨ga, ca, hea, hga, hca, hma, hra, hba⟩
      rw [HWl.out] at hea hca
      subst hea
      have K8ca := below_then K8c hba
      have R8ca := R8c.later hba
      have hgne : g ≠ ga := by have := R8c.lt; omega
      obtain ⟨xa, _, hcca⟩ := hra.u8cell (i := k) (by rw [HWl.out]; omega)
      obtain ⟨xb, _, hccb⟩ := hra.u8cell (i := k + 1) (by rw [HWl.out]; omega)
      have ffa := hra.frozen k
      have ffb := hra.frozen (k + 1)
      have hcwx := R8ca.cell (u8s_get_of hxk.out)
      have hcwy := R8ca.cell (u8s_get_of hyk.out)
      have hcwx2 : (v8ca.setCell ⟨ga, k, none⟩ (.int .u8 y)).cell? ⟨g, k, none⟩ = some (.int .u8 x) := (R8ca.far (p := ⟨ga, k, none⟩) hgne (.int .u8 y)).cell (u8s_get_of hxk.out)
      have Rb' : Hid (Row ((v8ca.setCell ⟨ga, k, none⟩ (.int .u8 y)).setCell ⟨ga, k + 1, none⟩ (.int .u8 x)) ga 5 ca (u8s ((W.set k y).set (k + 1) x))) := (hra.u8set k y).u8set (k + 1) x
      have Kb' : Hid (Below w.heap.size w ((v8ca.setCell ⟨ga, k, none⟩ (.int .u8 y)).setCell ⟨ga, k + 1, none⟩ (.int .u8 x))) := (K8ca.setCell (p := ⟨ga, k, none⟩) (Nat.le_trans K8c.size hga) (.int .u8 y)).setCell (p := ⟨ga, k + 1, none⟩) (Nat.le_trans K8c.size hga) (.int .u8 x)
      have Rw' : Hid (Row ((v8ca.setCell ⟨ga, k, none⟩ (.int .u8 y)).setCell ⟨ga, k + 1, none⟩ (.int .u8 x)) g 5 cap (u8s W)) := (R8ca.far (p := ⟨ga, k, none⟩) hgne (.int .u8 y)).far (p := ⟨ga, k + 1, none⟩) hgne (.int .u8 x)
      clear hra hba R8ca K8ca
      go_wp2_with fail
      generalize (v8ca.setCell ⟨ga, k, none⟩ (.int .u8 y)).setCell ⟨ga, k + 1, none⟩ (.int .u8 x) = v8cb at *
      have K8cb := Kb'.out
      have R8cb := Rw'.out
      have RB := Rb'.out
      clear hcca hccb ffa ffb Rb' Kb' Rw' hcwx hcwy hcwx2
      have hcw := R8cb.cell (u8s_get_of hxk.out)
      have hcw2 := R8cb.cell (u8s_get_of hyk.out)
      have cw := prog_whole_any _ n ca ((W.set k y).set (k + 1) x) v8cb.drew (RB.u8reads (by rw [List.length_set, List.length_set, HWl.out])) ((hWo.set _ ⟨hy0, hy1⟩).set _ ⟨hx0, hx1⟩) hca hma
      rw [swapped_iff hxk.out hyk.out hz.out.1 hz.out.2] at cw
      have HCW := Lib.hid cw
      clear cw RB
      have hgb := R8cb.lt
      have r1 : x.tmod 255 = x % 255 := Int.tmod_eq_emod_of_nonneg hx0
      have r2 : y.tmod 255 = y % 255 := Int.tmod_eq_emod_of_nonneg hy0
      have r3 : IntKind.u8.wrap (x % 255) = x % 255 := IntWalk.u8_in _ (by omega)
      have r4 : IntKind.u8.wrap (y % 255) = y % 255 := IntWalk.u8_in _ (by omega)
      have r6 : (0 : Int) ≤ (k : Int) + 1 := by omega
      have r7 : (k : Int) + 1 < (n : Int) := by omega
      have r5 : IntKind.i64.wrap ((k : Int) + 1) = (k : Int) + 1 := IntWalk.i64_in _ (by omega)
      have r8 : ((k : Int) + 1).toNat = k + 1 := by omega
      go_region_held3 (fun w' => w'.cell? ⟨g, k, none⟩ = some (.int .u8 x) ∧ w'.cell? ⟨g, k + 1, none⟩ = some (.int .u8 y)) (go_keep) (first | (go_at_call 13; refine (Hid.out HCW).mono ?_; rintro e v8cc ⟨rfl, hbc⟩; have hcwc := (hbc.cell (p := ⟨g, k, none⟩) hgb).trans hcw; have hcwd := (hbc.cell (p := ⟨g, k + 1, none⟩) hgb).trans hcw2))
      have K8cc := below_then K8cb (below_drew_left hbc)
      clear r1 r2 r3 r4 r5 r6 r7 r8
      clear HCW hbc hcw hcwc hcw2 hcwd K8cb R8cb hgb hgne hga K8c R8c hca hma
      go_wp2_with fail
      refine (copyBytes_row _ _ _ xs _ (hx.later K8cc) (by omega) (by omega)).mono ?_
      rintro e v8cca ⟨ga, ca, hea, hga, hca, hma, hra, hba⟩
      rw [Hlx.out] at hea hca
      subst hea
      have K8cca := below_then K8cc hba
      have hgw2 : w.heap.size ≤ ga := Nat.le_trans K8cc.size hga
      obtain ⟨xa, _, hcca⟩ := hra.u8cell (i := j - j % 2) (by rw [Hlx.out]; omega)
      obtain ⟨xb, _, hccb⟩ := hra.u8cell (i := j - j % 2 + 1) (by rw [Hlx.out]; omega)
      have ffa := hra.frozen (j - j % 2)
      have ffb := hra.frozen (j - j % 2 + 1)
      obtain ⟨P, hP⟩ : ∃ P, P = (xs.set (j - j % 2) 0).set (j - j % 2 + 1) 0 := ⟨_, rfl⟩
      have Rb' : Hid (Row ((v8cca.setCell ⟨ga, j - j % 2, none⟩ (.int .u8 0)).setCell ⟨ga, j - j % 2 + 1, none⟩ (.int .u8 0)) ga 5 ca (u8s P)) := by rw [hP]; exact (hra.u8set (j - j % 2) 0).u8set (j - j % 2 + 1) 0
      have Kb' : Hid (Below w.heap.size w ((v8cca.setCell ⟨ga, j - j % 2, none⟩ (.int .u8 0)).setCell ⟨ga, j - j % 2 + 1, none⟩ (.int .u8 0))) := (K8cca.setCell (p := ⟨ga, j - j % 2, none⟩) hgw2 (.int .u8 0)).setCell (p := ⟨ga, j - j % 2 + 1, none⟩) hgw2 (.int .u8 0)
      have hPo : Oct P := by rw [hP]; exact (ho.set _ (by omega)).set _ (by omega)
      have HPl : Hid (P.length = n) := by rw [hP]; show _ = _; simp [Hlx.out]
      have HPe : Hid (P[j - j % 2]? = some 0 ∧ P[j - j % 2 + 1]? = some 0) := by
        have := Hlx.out
        rw [hP]
        exact ⟨by rw [List.getElem?_set_ne (by omega), List.getElem?_set_self (by omega)], by rw [List.getElem?_set_self (by rw [List.length_set]; omega)]⟩
      clear hra hba K8cca hP
      go_wp2_with fail
      generalize (v8cca.setCell ⟨ga, j - j % 2, none⟩ (.int .u8 0)).setCell ⟨ga, j - j % 2 + 1, none⟩ (.int .u8 0) = v8ccb at *
      have K8ccb := Kb'.out
      have RB := Rb'.out
      clear hcca hccb ffa ffb Rb' Kb'
      refine (copyBytes_row _ _ _ P _ (RB.u8reads HPl.out) (by omega) (by omega)).mono ?_
      rintro e v8ccc ⟨gb, cb, heb, hgb, hcb, hmb, hrb, hbb⟩
      rw [HPl.out] at heb hcb
      subst heb
      have K8ccc := below_then K8ccb hbb
      have RC := RB.later hbb
      obtain ⟨s, hs⟩ : ∃ s, s = 65535 - foldS (ws true P) := ⟨_, rfl⟩
      have hsr := foldS_range (ws_nonneg hPo true).1
      have hs0 : 0 ≤ s ∧ s ≤ 65535 := by omega
      obtain ⟨hs0, hs1⟩ := hs0
      have Hs := Lib.hid hs
      clear hs hsr
      go_wp2_with fail
      have cp := toBelow (plain_any _ n cb P _ _ (hrb.u8reads HPl.out) hPo hcb hmb)
      rw [← Hs.out] at cp
      refine cp.mono ?_
      clear cp
      rintro e v8ccd ⟨rfl, hbd⟩
      have K8ccd := below_then K8ccc hbd
      have RD := RC.later hbd
      obtain ⟨xa, _, hcca⟩ := RD.u8cell (i := j - j % 2) (by rw [HPl.out]; omega)
      obtain ⟨xb, _, hccb⟩ := RD.u8cell (i := j - j % 2 + 1) (by rw [HPl.out]; omega)
      have ffa := RD.frozen (j - j % 2)
      have ffb := RD.frozen (j - j % 2 + 1)
      have Rb' : Hid (Row ((v8ccd.setCell ⟨ga, j - j % 2, none⟩ (.int .u8 (s / 256))).setCell ⟨ga, j - j % 2 + 1, none⟩ (.int .u8 (s % 256))) ga 5 ca (u8s ((P.set (j - j % 2) (s / 256)).set (j - j % 2 + 1) (s % 256)))) := (RD.u8set (j - j % 2) _).u8set (j - j % 2 + 1) _
      have Kb' : Hid (Below w.heap.size w ((v8ccd.setCell ⟨ga, j - j % 2, none⟩ (.int .u8 (s / 256))).setCell ⟨ga, j - j % 2 + 1, none⟩ (.int .u8 (s % 256)))) := (K8ccd.setCell (p := ⟨ga, j - j % 2, none⟩) hgw2 (.int .u8 (s / 256))).setCell (p := ⟨ga, j - j % 2 + 1, none⟩) hgw2 (.int .u8 (s % 256))
      clear RB RC RD K8ccb K8ccc K8ccd hrb hbb hbd
      go_wp2_with fail
      generalize (v8ccd.setCell ⟨ga, j - j % 2, none⟩ (.int .u8 (s / 256))).setCell ⟨ga, j - j % 2 + 1, none⟩ (.int .u8 (s % 256)) = v8cce at *
      have K8cce := Kb'.out
      have RE := Rb'.out
      clear hcca hccb ffa ffb Rb' Kb'
      have hE2 : j - j % 2 = 2 * (j / 2) := by omega
      have cr := toBelow (right_any _ n ca _ _ _ (RE.u8reads (by simp [HPl.out])) ((hPo.set _ (by omega)).set _ (by omega)) hca hma)
      have hpr : (foldS (ws true ((P.set (j - j % 2) (s / 256)).set (j - j % 2 + 1) (s % 256))) == 65535) = true := by
        have := HPe.out
        rw [hE2] at this ⊢
        exact plain_right hPo this.1 this.2 Hs.out
      rw [hpr] at cr
      refine cr.mono ?_
      clear cr hpr hE2
      rintro e v8ccf ⟨rfl, hbf⟩
      have K8ccf := below_then K8cce hbf
      go_wp2_with fail
      refine (lives_any _).mono ?_
      rintro e v8ccg ⟨rfl, hbg⟩
      have K8ccg := below_then K8ccf hbg
      go_wp2_with fail
      go_ret
      exact ⟨rfl, K8ccg⟩
end Go.Proofs.Ytdihdelojpnmoaa
