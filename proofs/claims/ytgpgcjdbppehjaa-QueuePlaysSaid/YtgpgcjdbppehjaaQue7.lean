/-
  container/heap: Push, Fix, Pop over the rows.
-/
import Derived.Test.YtgpgcjdbppehjaaQue6
namespace Go.Proofs.Ytgpgcjdbppehjaa
set_option linter.unusedVariables false
open Go.RowKit

theorem down_idle (w : World) (g i0 n : Nat) (h : n ≤ 2 * i0 + 1) (hi : i0 ≤ 1048576) (hn : n ≤ 1048576) :
    Calls Try.prog 39 #[rowsV g, .int .i64 i0, .int .i64 n] w fun e w' => e = .returned (.bool false) ∧ w = w' := by
  obtain ⟨d, hd⟩ : ∃ d, 2 * i0 = d := ⟨_, rfl⟩
  obtain ⟨c1, hc1⟩ : ∃ c1, 2 * i0 + 1 = c1 := ⟨_, rfl⟩
  have e1 : 2 * (i0 : Int) = d := by omega
  have e2 : (d : Int) + 1 = c1 := by omega
  have w1 : IntKind.i64.wrap (d : Int) = d := by rw [IntKind.wrap_i64]; omega
  have w2 : IntKind.i64.wrap (c1 : Int) = c1 := by rw [IntKind.wrap_i64]; omega
  have hA1 : decide (n ≤ c1) = true := decide_eq_true (by omega)
  clear hd hc1 h
  go_enter Try.func39, Try.ntmps39
  go_wp2
  go_loopw [7] (fun t wr => t = .int .i64 i0 ∧ w = wr) (fun _ _ => 0)
  case atStart => exact ⟨rfl, rfl⟩
  case round =>
    obtain ⟨rfl, rfl⟩ := hrel
    go_wp2
    go_ret
    exact ⟨by simp, rfl⟩
def pushL (l : List Ent) (e : Ent) : List Ent := upL (l ++ [e]) l.length
set_option maxRecDepth 100000 in
theorem heapPush_any (w : World) (F : Nat → Prop) (g bm : Nat) (most : Int) (l : List Ent) (e : Ent) (q : QF w F g bm most l) (he : e.ok) (hn : posL l e.what = none) (hfew : l.length < 1048576) :
    Calls Try.prog 24 #[rowsV g, .iface 32 e.v] w fun e' w' => e' = .returned (.tuple #[]) ∧ ∃ F', QF w' F' g bm most (pushL l e) ∧ Grew w F F' ∧ Kept F w w' := by
  have HQ := Lib.hid q
  have HE := Lib.hid (And.intro he hn)
  clear q he hn
  have hm1 := fun W => methPush g W
  have hm2 := fun W => methLen g W
  go_enter Try.func24, Try.ntmps24
  go_wp2_with fail
  refine (rowsPush_any w F g bm most l e HQ.out HE.out.1 HE.out.2 hfew).mono ?_
  rintro e' w1 ⟨rfl, F1, q1, g1, k1⟩
  have H1 := Lib.hid (And.intro q1 (And.intro g1 k1))
  clear q1 g1 k1
  go_wp2_with fail
  refine (rowsLen_any w1 F1 g bm most _ H1.out.1).mono ?_
  rintro e' w' ⟨rfl, rfl⟩
  have hlen : ((l ++ [e]).length : Int) = l.length + 1 := by simp
  have hw : IntKind.i64.wrap (l.length : Int) = l.length := by rw [IntKind.wrap_i64]; omega
  rw [hlen]
  go_wp2_with fail
  refine (up_any w1 F1 g bm most (l ++ [e]) H1.out.1 l.length (by simp)).mono ?_
  rintro e' w2 ⟨rfl, q2, k2⟩
  have H2 := Lib.hid (And.intro q2 k2)
  clear q2 k2
  go_wp2
  go_end0
  exact ⟨rfl, F1, H2.out.1, H1.out.2.1, H1.out.2.2.trans_grew H2.out.2 H1.out.2.1⟩
def fixL (l : List Ent) (i : Nat) : List Ent := if i < (downL l i l.length).2 then (downL l i l.length).1 else upL (downL l i l.length).1 i
set_option maxRecDepth 100000 in
theorem heapFix_any (w : World) (F : Nat → Prop) (g bm : Nat) (most : Int) (l : List Ent) (q : QF w F g bm most l) (i : Nat) (hi : i < l.length) :
    Calls Try.prog 23 #[rowsV g, .int .i64 i] w fun e' w' => e' = .returned (.tuple #[]) ∧ QF w' F g bm most (fixL l i) ∧ Kept F w w' := by
  have HQ := Lib.hid q
  have HS := Lib.hid (down_same l.length _ i l rfl (Nat.le_refl _) hi)
  clear q
  have hm2 := fun W => methLen g W
  by_cases hd : i < (downL l i l.length).2
  · have HX : Hid (fixL l i = (downL l i l.length).1) := Lib.hid (by unfold fixL; rw [if_pos hd])
    have HD := Lib.hid (decide_eq_true hd)
    clear hd
    go_enter Try.func23, Try.ntmps23
    go_wp2_with fail
    refine (rowsLen_any w F g bm most l HQ.out).mono ?_
    rintro e' w' ⟨rfl, rfl⟩
    go_wp2_with fail
    refine (down_any w F g bm most l HQ.out i l.length hi (Nat.le_refl _)).mono ?_
    rintro e' w2 ⟨rfl, q2, k2⟩
    rw [HD.out]
    have H2 := Lib.hid (And.intro q2 k2)
    clear q2 k2
    go_wp2
    go_end0
    rw [HX.out]
    exact ⟨rfl, H2.out.1, H2.out.2⟩
  · have HX : Hid (fixL l i = upL (downL l i l.length).1 i) := Lib.hid (by unfold fixL; rw [if_neg hd])
    have HD := Lib.hid (decide_eq_false hd)
    clear hd
    go_enter Try.func23, Try.ntmps23
    go_wp2_with fail
    refine (rowsLen_any w F g bm most l HQ.out).mono ?_
    rintro e' w' ⟨rfl, rfl⟩
    go_wp2_with fail
    refine (down_any w F g bm most l HQ.out i l.length hi (Nat.le_refl _)).mono ?_
    rintro e' w2 ⟨rfl, q2, k2⟩
    rw [HD.out]
    have H2 := Lib.hid (And.intro q2 k2)
    clear q2 k2
    go_wp2_with fail
    refine (up_any w2 F g bm most _ H2.out.1 i (by rw [HS.out.1.len]; exact hi)).mono ?_
    rintro e' w3 ⟨rfl, q3, k3⟩
    have H3 := Lib.hid (And.intro q3 k3)
    clear q3 k3
    go_wp2
    go_end0
    rw [HX.out]
    exact ⟨rfl, H3.out.1, H2.out.2.trans H3.out.2 (fun _ _ e => e)⟩
def popL (l : List Ent) (n : Nat) : List Ent := (downL (swapL l 0 n) 0 n).1.take n
set_option maxRecDepth 100000 in
theorem heapPop_any (w : World) (F : Nat → Prop) (g bm : Nat) (most : Int) (l : List Ent) (q : QF w F g bm most l) (n : Nat) (hl : l.length = n + 1) (z : Ent) (hz : l[0]? = some z) :
    Calls Try.prog 25 #[rowsV g] w fun e' w' => e' = .returned (.iface 32 z.v) ∧ QF w' F g bm most (popL l n) ∧ Kept F w w' := by
  have HQ := Lib.hid q
  have hfew := q.few
  have hsw : (swapL l 0 n)[n]? = some z := by rw [swapL_get (by omega) (by omega)]; unfold swp; split <;> (try rw [if_pos rfl]) <;> simp_all
  have HL := Lib.hid hl
  have HSW := Lib.hid hsw
  clear q hz hsw
  rw [hl] at hfew
  have hm2 := fun W => methLen g W
  have hm3 := fun W => methSwap g W
  have hm4 := fun W => methPop g W
  have hw : IntKind.i64.wrap (n : Int) = n := by rw [IntKind.wrap_i64]; omega
  go_enter Try.func25, Try.ntmps25
  go_wp2_with fail
  refine (rowsLen_any w F g bm most l HQ.out).mono ?_
  rintro e' w' ⟨rfl, rfl⟩
  have hlen : (l.length : Int) = n + 1 := by omega
  rw [hlen]
  clear hlen hl
  go_wp2_with fail
  refine (rowsSwap_any w F g bm most l HQ.out 0 n (by rw [HL.out]; omega) (by rw [HL.out]; omega)).mono ?_
  rintro e' w2 ⟨rfl, q2, k2⟩
  have H2 := Lib.hid (And.intro q2 k2)
  clear q2 k2
  go_wp2_with fail
  by_cases h0 : n = 0
  · subst h0
    refine (down_idle w2 g 0 0 (by omega) (by omega) (by omega)).mono ?_
    rintro e' w' ⟨rfl, rfl⟩
    have HX : Hid (popL l 0 = (swapL l 0 0).take 0) := Lib.hid (by unfold popL; rw [downL, dif_neg (by omega)])
    go_wp2_with fail
    refine (rowsPop_any w2 F g bm most _ 0 z H2.out.1 (by rw [swapL_len, HL.out]) HSW.out).mono ?_
    rintro e' w3 ⟨rfl, q3, k3⟩
    have H3 := Lib.hid (And.intro q3 k3)
    clear q3 k3
    go_wp2
    go_ret
    rw [HX.out]
    exact ⟨rfl, H3.out.1, H2.out.2.trans H3.out.2 (fun _ _ e => e)⟩
  · have HS := Lib.hid (down_same n _ 0 (swapL l 0 n) rfl (by rw [swapL_len, HL.out]; omega) (by omega))
    refine (down_any w2 F g bm most (swapL l 0 n) H2.out.1 0 n (by omega) (by rw [swapL_len, HL.out]; omega)).mono ?_
    rintro e' w3 ⟨rfl, q3, k3⟩
    have H3 := Lib.hid (And.intro q3 k3)
    clear q3 k3 h0
    go_wp2_with fail
    refine (rowsPop_any w3 F g bm most _ n z H3.out.1 (by rw [HS.out.1.len, swapL_len, HL.out]) (by rw [HS.out.2.1 n (Nat.le_refl _)]; exact HSW.out)).mono ?_
    rintro e' w4 ⟨rfl, q4, k4⟩
    have H4 := Lib.hid (And.intro q4 k4)
    clear q4 k4
    go_wp2
    go_ret
    exact ⟨rfl, H4.out.1, (H2.out.2.trans H3.out.2 (fun _ _ e => e)).trans H4.out.2 (fun _ _ e => e)⟩
end Go.Proofs.Ytgpgcjdbppehjaa
