/-
  StoreAgain's walk. Printed by gen_sto14.py.
  StoreCopies' walk. Printed by gen_cop.py.
-/
import Derived.Test.YtpncbggjngamgaaCA08
import Derived.Test.YtpncbggjngamgaaCA09
import Derived.Test.YtpncbggjngamgaaCA13
namespace Go.Proofs.Ytpncbggjngamgaa
set_option linter.unusedVariables false
open Go.RowKit

theorem el_op : El Try.prog 22 33 11 64 := El.mk' Try.underlying22 (z := .agg #[.int .u8 0, .int .i64 0, .int .u16 0, .int .u8 0, .int .u8 0, .int .u32 0, .int .u32 0, .int .i32 0, .int .u16 0, .int .u16 0, .slice none 0 0]) (by kernel_rfl) rfl (by omega)
theorem ops_one (o : OpS) : ∀ u ∈ o.cells, u.oneCell' = true := by intro u hu; simp [OpS.cells, SE.cells] at hu; rcases hu with rfl | rfl | rfl | rfl | rfl | rfl | rfl | rfl | rfl | rfl | rfl <;> rfl
theorem Opl.rev {w : World} {A B : Option Addr} {n c : Nat} {L : List OpS} {base : Nat} (h : Opl w A n L) (ho : w.ownsRow base 33 11 (.slice B n c) n (L.reverse.flatMap OpS.cells)) : Opl w B n L.reverse := by
  obtain ⟨B', c', e, h1, h2, h3⟩ := own_shape_n ho
  injection e with e1 e2 e3
  subst e1
  exact ⟨h3, by rw [List.length_reverse]; exact h.len, fun o hm => h.ok o (List.mem_reverse.1 hm)⟩
theorem ask_all {w : World} {g bm N : Nat} {most : Int} {f : Ky3 → Option OneE} (q : StF w g bm most f N) (hN : N ≤ 1048576) {t : Int} (ht : 0 ≤ t ∧ t ≤ 9223372036854775807) :
    Calls Try.prog 17 #[.pointer (some ⟨g, 0, none⟩), .int .i64 t] w fun e w' => ∃ A c, e = .returned (.slice A N c) ∧ ∃ ss ks, KsOf f N ks ∧ Sts w' A N c ss ∧ ss.map SE.h = ks.map (hAt f t) ∧ ss.map SE.B = ks.map (bAt f) ∧ Below w.heap.size w w' := by
  refine (stall_any _ t f N w (eachAt_of q ht hN) hN).mono ?_
  rintro e w' ⟨v, rfl, ks, hks, ss, h1, h2, hy, hown, hb⟩
  obtain ⟨A, c, rfl, h3, h4, h5⟩ := own_shape_n hown
  exact ⟨A, c, rfl, ss, ks, hks, ⟨h5, by rw [← List.length_map (f := SE.h), h1, List.length_map, hks.len], ⟨h3, h4⟩, fun s hs => (hy.own s hs).rd⟩, h1, h2, hb⟩
/-- The keys of a law's calls, so far. -/
def ApartTo (L : List OpS) (i : Nat) : Prop := ∀ (m k : Nat) (a b : OpS), m < i → k < m → L[m]? = some a → L[k]? = some b → a.s.key ≠ b.s.key
def NowTo (L : List OpS) (now : Int) (i : Nat) : Prop := ∀ (m : Nat) (o : OpS), m < i → L[m]? = some o → 0 ≤ o.now ∧ o.now ≤ now
set_option maxRecDepth 100000 in
set_option maxHeartbeats 16000000 in
theorem again_walk (A : Option Addr) (n c : Nat) (L : List OpS) (now later : Int) (w : World) (hL : Opl w A n L) (hr : ∀ o ∈ L, o.s.n ≤ reachBytes) (hc : n ≤ c ∧ c ≤ 9223372036854775807) :
    Calls Try.prog 4 #[.slice A n c, .int .i64 now, .int .i64 later] w fun e w' => e = .returned (.bool true) ∧ Below w.heap.size w w' := by
  have HL := Lib.hid hL
  have HR := Lib.hid hr
  clear hL hr
  go_enter Try.func4, Try.ntmps4
  go_wp2_with fail
  refine (opHeavy_any A n c L w HL.out HR.out hc.1 hc.2).mono ?_
  rintro e w1 ⟨b, rfl, ⟨q, rfl⟩, hb⟩
  have HH := Lib.hid hb
  clear hb
  cases b with
  | true =>
    go_wp2_with fail
    refine (lives_any _).mono ?_
    rintro e wl ⟨rfl, hbl⟩
    have HBl := Lib.hid (below_then (below_of_drewN _ w q) hbl)
    clear hbl
    go_wp2_with fail
    go_ret
    exact ⟨rfl, HBl.out⟩
  | false =>
    have h120 := (HH.out rfl).1
    have HSm := Lib.hid (HH.out rfl).2
    clear HH
    by_cases hng : now < 0
    · have d0 : decide (now < 0) = true := decide_eq_true hng
      go_wp2_with fail
      refine (lives_any _).mono ?_
      rintro e wl ⟨rfl, hbl⟩
      have HBl := Lib.hid (below_then (below_of_drewN _ w q) hbl)
      clear hbl
      go_wp2_with fail
      go_ret
      exact ⟨rfl, HBl.out⟩
    · have d0 : decide (now < 0) = false := decide_eq_false hng
      by_cases hlt0 : later < now
      · have d1 : decide (later < now) = true := decide_eq_true hlt0
        go_wp2_with fail
        refine (lives_any _).mono ?_
        rintro e wl ⟨rfl, hbl⟩
        have HBl := Lib.hid (below_then (below_of_drewN _ w q) hbl)
        clear hbl
        go_wp2_with fail
        go_ret
        exact ⟨rfl, HBl.out⟩
      · have d1 : decide (later < now) = false := decide_eq_false hlt0
        by_cases hbg : 1099511627776 < later
        · have d2 : decide (1099511627776 < later) = true := decide_eq_true hbg
          go_wp2_with fail
          refine (lives_any _).mono ?_
          rintro e wl ⟨rfl, hbl⟩
          have HBl := Lib.hid (below_then (below_of_drewN _ w q) hbl)
          clear hbl
          go_wp2_with fail
          go_ret
          exact ⟨rfl, HBl.out⟩
        · have d2 : decide (1099511627776 < later) = false := decide_eq_false hbg
          go_wp2_with fail
          clear d0 d1 d2
          go_loopw [7] (fun iv wr => ∃ i : Nat, iv = .int .i64 i ∧ i ≤ n ∧ Hid (NowTo L now i) ∧ Hid (ApartTo L i) ∧ Hid (Below w.heap.size w wr)) (fun iv _ => n - (intOf iv).toNat)
          case atStart => exact ⟨0, rfl, Nat.zero_le _, Lib.hid fun m o h => by omega, Lib.hid fun m k a b h => by omega, Lib.hid (below_of_drewN _ w q)⟩
          case round =>
            obtain ⟨i, rfl, hin, hno, hap, hbr⟩ := hrel
            generalize wr = wj at *
            by_cases hlt : i < n
            · have hltI : (i : Int) < n := by omega
              obtain ⟨ad, o, hA, hadl, hso, hok, hat⟩ := (HL.out.later hbr.out).at_ hlt
              subst hA
              have q1 := hat.2.1
              have HO := Lib.hid (And.intro hso hat)
              clear hat hok hso
              by_cases hob : now < o.now
              · have d3 : decide (now < o.now) = true := decide_eq_true hob
                go_wp2_with fail
                refine (lives_any _).mono ?_
                rintro e wl ⟨rfl, hbl⟩
                have HBl := Lib.hid (below_then hbr.out hbl)
                clear hbl
                go_wp2_with fail
                go_ret
                exact ⟨rfl, HBl.out⟩
              · have d3 : decide (now < o.now) = false := decide_eq_false hob
                by_cases ho0 : o.now < 0
                · have d4 : decide (o.now < 0) = true := decide_eq_true ho0
                  go_wp2_with fail
                  refine (lives_any _).mono ?_
                  rintro e wl ⟨rfl, hbl⟩
                  have HBl := Lib.hid (below_then hbr.out hbl)
                  clear hbl
                  go_wp2_with fail
                  go_ret
                  exact ⟨rfl, HBl.out⟩
                · have d4 : decide (o.now < 0) = false := decide_eq_false ho0
                  go_wp2_with fail
                  clear q1 d3 d4
                  go_loopw [8] (fun kv wr2 => ∃ k : Nat, kv = .int .i64 k ∧ k ≤ i ∧ Hid (∀ (m : Nat) (b : OpS), m < k → L[m]? = some b → o.s.key ≠ b.s.key) ∧ Hid (Below wj.heap.size wj wr2)) (fun kv _ => i - (intOf kv).toNat)
                  case atStart => exact ⟨0, rfl, Nat.zero_le _, Lib.hid fun m b h => by omega, Lib.hid (Below.refl _ _)⟩
                  case round =>
                    obtain ⟨k, rfl, hk, hne, hbk⟩ := hrel
                    by_cases hki : k < i
                    · have hkI : (k : Int) < i := by omega
                      have hknI : (k : Int) < n := by omega
                      obtain ⟨ad', o2, hA', hadl', hso2, hok2, hat2⟩ := (HL.out.later (below_then hbr.out hbk.out)).at_ (i := k) (by omega)
                      injection hA' with hA'
                      subst hA'
                      have HO2 := Lib.hid hso2
                      have hbd : Below wr.heap.size wr wr.drew := (Below.refl _ _).drew
                      have HS : Hid ((fun W : World => OpAt W (ad.add (i * 11)) o ∧ OpAt W (ad.add (k * 11)) o2) wr.drew) := Lib.hid ⟨(HO.out.2.later hbk.out).later hbd, hat2.later hbd⟩
                      have HB := Lib.hid hbk.out.drew
                      clear hso2 hok2 hat2 hbd hadl'
                      go_wp2_with fail
                      refine wp_region_s (fun W : World => OpAt W (ad.add (i * 11)) o ∧ OpAt W (ad.add (k * 11)) o2) [(0, true), (1, true), (2, true), (3, true), (4, true), (7, true), (8, true), (9, true), (10, true), (11, true), (5, true), (12, true), (6, false), (13, false), (14, true)] (by kernel_rfl) (fun _ d _ _ _ h => by cases d <;> exact h) ?_
                      simp only [List.map_cons, List.map_nil, nthOp_zero, nthOp_succ]
                      generalize wr.drew = w10 at *
                      refine wpS_take HS (by kernel_rfl) (by intro W hW; clear hW; go_simp; try with_reducible rfl) ?_
                      refine wpS_take HS (by kernel_rfl) (by intro W hW; clear hW; go_simp; try with_reducible rfl) ?_
                      refine wpS_take HS (by kernel_rfl) (by intro W hW; clear hW; go_simp; try with_reducible rfl) ?_
                      refine wpS_take HS (by kernel_rfl) (by intro W hW; clear hW; go_simp; try with_reducible rfl) ?_
                      refine wpS_take HS (by kernel_rfl) (by intro W hW; clear hW; go_simp; try with_reducible rfl) ?_
                      refine wpS_take HS (by kernel_rfl) (by intro W hW; clear hW; go_simp; try with_reducible rfl) ?_
                      refine wpS_take HS (by kernel_rfl) (by intro W hW; clear hW; go_simp; try with_reducible rfl) ?_
                      refine wpS_take HS (by kernel_rfl) (by intro W hW; clear hW; go_simp; try with_reducible rfl) ?_
                      refine wpS_take HS (by kernel_rfl) (by intro W hW; clear hW; go_simp; try with_reducible rfl) ?_
                      refine wpS_take HS (by kernel_rfl) (by intro W hW; clear hW; go_simp; try with_reducible rfl) ?_
                      refine wpS_take HS (by kernel_rfl) (by intro W hW; obtain ⟨q0, q1, q2, q3, q4, q5, q6, q7, q8, q9, q10⟩ := hW.1; go_simp; try with_reducible rfl) ?_
                      refine wpS_take HS (by kernel_rfl) (by intro W hW; obtain ⟨q0, q1, q2, q3, q4, q5, q6, q7, q8, q9, q10⟩ := hW.2; go_simp; try with_reducible rfl) ?_
                      go_simp
                      refine wpS_do fun K hK => ?_
                      go_wp2_with fail
                      refine (rkey_hd o.s.h w10).mono ?_
                      rintro e w11 ⟨rfl, hb11⟩
                      have HS11 : Hid (OpAt w11 (ad.add (i * 11)) o ∧ OpAt w11 (ad.add (k * 11)) o2) := Lib.hid ⟨HS.out.1.later hb11, HS.out.2.later hb11⟩
                      have HB11 := Lib.hid (below_then HB.out hb11)
                      clear hb11 HS HB
                      go_wp2_with fail
                      refine hK.out _ _ HS11.out ?_
                      clear hK K
                      refine wpS_do fun K hK => ?_
                      go_wp2_with fail
                      refine (rkey_hd o2.s.h w11).mono ?_
                      rintro e w12 ⟨rfl, hb12⟩
                      have HS12 : Hid (OpAt w12 (ad.add (i * 11)) o ∧ OpAt w12 (ad.add (k * 11)) o2) := Lib.hid ⟨HS11.out.1.later hb12, HS11.out.2.later hb12⟩
                      have HB12 := Lib.hid (below_then HB11.out hb12)
                      clear hb12 HS11 HB11
                      go_wp2_with fail
                      refine hK.out _ _ HS12.out ?_
                      clear hK K
                      refine wpS_take HS12 (by kernel_rfl) (fun W _ => exec_key_eq rfl (o.s.h.typ, o.s.h.id, o.s.h.adv) (o2.s.h.typ, o2.s.h.id, o2.s.h.adv) rfl rfl W) ?_
                      refine wpS_nil ?_
                      by_cases hkk : (o.s.h.typ, o.s.h.id, o.s.h.adv) = (o2.s.h.typ, o2.s.h.id, o2.s.h.adv)
                      · rw [decide_eq_true hkk]
                        clear hkk
                        go_simp
                        go_wp2_with fail
                        refine (lives_any _).mono ?_
                        rintro e wl ⟨rfl, hbl⟩
                        have HBl := Lib.hid (below_then (below_then hbr.out HB12.out) hbl)
                        clear hbl
                        go_wp2_with fail
                        go_ret
                        exact ⟨rfl, HBl.out⟩
                      · rw [decide_eq_false hkk]
                        have HE := Lib.hid hkk
                        clear hkk
                        go_simp
                        go_wp2_with fail
                        go_roundw
                        case rel =>
                          refine ⟨k + 1, by go_num, by omega, Lib.hid fun m b hm e1 => ?_, HB12⟩
                          by_cases hmk : m < k
                          · exact hne.out m b hmk e1
                          · obtain rfl : m = k := by omega
                            rw [HO2.out] at e1
                            injection e1 with e1
                            subst e1
                            exact HE.out
                        case measure => simp [intOf]; omega
                    · obtain rfl : k = i := by omega
                      go_wp2_with fail
                      go_roundw
                      case rel =>
                        refine ⟨k + 1, by go_num, by omega, Lib.hid fun m o' hm e1 => ?_, Lib.hid fun m k' a b hm hk' e1 e2 => ?_, Lib.hid (below_then hbr.out hbk.out)⟩
                        · by_cases hmk : m < k
                          · exact hno.out m o' hmk e1
                          · obtain rfl : m = k := by omega
                            rw [HO.out.1] at e1
                            injection e1 with e1
                            subst e1
                            omega
                        · by_cases hmk : m < k
                          · exact hap.out m k' a b hmk hk' e1 e2
                          · obtain rfl : m = k := by omega
                            rw [HO.out.1] at e1
                            injection e1 with e1
                            subst e1
                            exact hne.out k' b hk' e2
                      case measure => simp [intOf]; omega
            · obtain rfl : i = n := by omega
              have HN : Hid (∀ o ∈ L, 0 ≤ o.now ∧ o.now ≤ now) := Lib.hid fun o ho => by
                obtain ⟨m, hm⟩ := List.getElem?_of_mem ho
                refine hno.out m o ?_ hm
                have h1 := (List.getElem?_eq_some_iff.1 hm).1
                have h2 := HL.out.len
                omega
              have HP : Hid (KeysApart L) := Lib.hid (apart_of fun m k a b hkm e1 e2 => hap.out m k a b (by have h1 := (List.getElem?_eq_some_iff.1 e1).1; have h2 := HL.out.len; omega) hkm e1 e2)
              clear hno hap hin hlt
              go_wp2_with fail
              refine (filled_any A i c L wj (HL.out.later hbr.out) h120 HSm.out).mono ?_
              rintro e w3 ⟨g, bm, f, N, rfl, hq, hN, hcf, -, hbm, hb3⟩
              have HQ3 := Lib.hid hq
              have HF := Lib.hid (few_fill hq hcf (fun o ho => (HL.out.later hbr.out).ok o ho) (fun o ho => by have := (HN.out o ho).2; omega))
              have HC := Lib.hid hcf
              have HB3 := Lib.hid (below_then hbr.out hb3)
              have HBM : Hid (w.heap.size ≤ bm) := Lib.hid (Nat.le_trans hbr.out.size hbm)
              have HN3 : Hid (N ≤ i) := Lib.hid (by have := HL.out.len; omega)
              clear hq hN hcf hb3 hbr hbm
              have HL3 := Lib.hid (HL.out.later HB3.out)
              go_wp2_with fail
              go_loopw [10, 11] (fun bv iv wr => ∃ (m : Nat) (z : Int), iv = .int .i64 z ∧ Hid (z + 1 = m) ∧ m ≤ i ∧ Hid (wr.ownsRow w3.heap.size 33 11 bv (i - m) ((L.drop m).reverse.flatMap OpS.cells)) ∧ Hid (Below w3.heap.size w3 wr)) (fun _ iv _ => (intOf iv + 1).toNat)
              case atStart =>
                refine ⟨i, (i : Int) - 1, rfl, Lib.hid (by omega), Nat.le_refl _, Lib.hid ?_, Lib.hid (Below.refl _ _)⟩
                rw [Nat.sub_self, List.drop_of_length_le (by have := HL.out.len; omega)]
                exact World.ownsRow_nil _ _ _ _
              case round =>
                obtain ⟨m, z, rfl, hz, hm, hrow, hb⟩ := hrel
                generalize wr = wj at *
                by_cases hm0 : m = 0
                · subst hm0
                  obtain rfl : z = -1 := by have := hz.out; omega
                  have dz : decide ((0 : Int) ≤ -1) = false := rfl
                  have hrow2 := hrow.out
                  rw [Nat.sub_zero, List.drop_zero] at hrow2
                  obtain ⟨B, cb, rfl, hcb1, hcb2, -⟩ := own_shape_n hrow2
                  have HBk : Hid (Opl wj B i L.reverse) := Lib.hid (Opl.rev (HL3.out.later hb.out) hrow2)
                  have HBj := Lib.hid (below_then HB3.out hb.out)
                  have HQj := Lib.hid (HQ3.out.later hb.out)
                  clear hrow hrow2 hz HL3 HQ3 HB3 hb
                  go_wp2_with fail
                  refine (filled_any B i cb L.reverse wj HBk.out h120 (fun o ho => HSm.out o (List.mem_reverse.1 ho))).mono ?_
                  rintro e w4 ⟨g2, bm2, f2, N2, rfl, hq2, hN2, hcf2, -, -, hb4⟩
                  have HC2 : Hid (contF f2 = contF f) := Lib.hid (by rw [hcf2, fillC_rev HP.out, HC.out])
                  have HQ24 := Lib.hid hq2
                  have HQ4 := Lib.hid (HQj.out.later hb4)
                  have HB4 := Lib.hid (below_then HBj.out hb4)
                  have hN2' : N2 ≤ i := by have := HL.out.len; rw [List.length_reverse] at hN2; omega
                  have HN2 := Lib.hid hN2'
                  have hlr : 0 ≤ later ∧ later ≤ 9223372036854775807 := ⟨by omega, by omega⟩
                  have hnr : 0 ≤ now ∧ now ≤ 9223372036854775807 := ⟨by omega, by omega⟩
                  clear hq2 hN2 hcf2 hb4 HQj HBj HBk hN2' dz hcb1 hcb2
                  go_wp2_with fail
                  refine (ask_all HQ4.out (by have := HN3.out; omega) hlr).mono ?_
                  rintro e w5 ⟨A1, c1, rfl, ss, ks, hks, hst, hsh, hsB, hb5⟩
                  have HW5 := Lib.hid hst
                  have HKs := Lib.hid hks
                  have HSs := Lib.hid (And.intro hsh hsB)
                  have HQ5 := Lib.hid (HQ4.out.later hb5)
                  have HQ25 := Lib.hid (HQ24.out.later hb5)
                  have HB5 := Lib.hid (below_then HB4.out hb5)
                  clear hst hks hsh hsB hb5 HQ4 HQ24 HB4
                  go_wp2_with fail
                  refine (ask_all HQ25.out (by have := HN2.out; omega) hlr).mono ?_
                  rintro e w6 ⟨A2, c2, rfl, ss2, ks2, hks2, hst2, hsh2, hsB2, hb6⟩
                  have HW6 := Lib.hid (HW5.out.later hb6)
                  have HQ6 := Lib.hid (HQ5.out.later hb6)
                  have HB6 := Lib.hid (below_then HB5.out hb6)
                  have hkk : ks2 = ks := ks_cont HKs.out hks2 (fun k => by rw [← cont_some, ← cont_some, HC2.out])
                  have hcm : ks.map (hAt f2 later) = ks.map (hAt f later) := List.map_congr_left fun k _ => (cont_at HC2.out later k).1
                  have hcB : ks.map (bAt f2) = ks.map (bAt f) := List.map_congr_left fun k _ => (cont_at HC2.out later k).2
                  rw [hkk] at hsh2 hsB2
                  have hw2 : Hid (Sts w6 A2 N2 c2 ss2) := Lib.hid hst2
                  have HE2 := Lib.hid (And.intro (hsh2.trans (hcm.trans HSs.out.1.symm)) (hsB2.trans (hcB.trans HSs.out.2.symm)))
                  clear hst2 hks2 hsh2 hsB2 hb6 hkk hcm hcB HW5 HQ5 HQ25 HB5 HC2
                  go_wp2_with fail
                  refine (eqStates_any A2 A1 N2 c2 N c1 ss2 ss w6 hw2.out HW6.out HE2.out.1 HE2.out.2).mono ?_
                  rintro e w7 ⟨rfl, hb7⟩
                  have HW7 := Lib.hid (HW6.out.later hb7)
                  have HQ7 := Lib.hid (HQ6.out.later hb7)
                  have HB7 := Lib.hid (below_then HB6.out hb7)
                  clear hb7 HW6 HQ6 HB6 hw2 HE2
                  go_wp2_with fail
                  refine (ask_all HQ7.out (by have := HN3.out; omega) hnr).mono ?_
                  rintro e w8 ⟨A3, c3, rfl, ss3, ks3, hks3, hst3, hsh3, hsB3, hb8⟩
                  rw [ks_unique HKs.out hks3] at hsh3 hsB3
                  have HS3 := Lib.hid (And.intro hsh3 hsB3)
                  have HT8 := Lib.hid hst3
                  have HW8 := Lib.hid (HW7.out.later hb8)
                  have HQ8 := Lib.hid (HQ7.out.later hb8)
                  have HB8 := Lib.hid (below_then HB7.out hb8)
                  have hcap3 := hst3.cap
                  clear hst3 hks3 hsh3 hsB3 hb8 HW7 HQ7 HB7
                  go_wp2_with fail
                  go_loopw [15] (fun iv wr => ∃ (j : Nat) (fj : Ky3 → Option OneE), iv = .int .i64 j ∧ j ≤ N ∧ Hid (StF wr g bm 4096 fj N) ∧ Hid (contF fj = agC f now (ks.take j)) ∧ Hid (Sts wr A3 N c3 ss3) ∧ Hid (Sts wr A1 N c1 ss) ∧ Hid (Below w.heap.size w wr)) (fun iv _ => N - (intOf iv).toNat)
                  case atStart => exact ⟨0, f, rfl, Nat.zero_le _, HQ8, Lib.hid (by rw [List.take_zero, agC_nil]), HT8, HW8, HB8⟩
                  case round =>
                    obtain ⟨j, fj, rfl, hj, hq, hcj, ht3, hw, hb⟩ := hrel
                    generalize wr = wj at *
                    by_cases hjn : j < N
                    · have hjI : (j : Int) < N := by omega
                      obtain ⟨ad, s, hA, hss, hsr, hsa⟩ := ht3.out.at_ hjn
                      subst hA
                      obtain ⟨q0, q1, q2, q3, q4, q5, q6, q7, q8⟩ := hsa
                      have hkj : j < ks.length := by rw [HKs.out.len]; exact hjn
                      obtain ⟨k, hk⟩ : ∃ k, ks[j]? = some k := ⟨_, List.getElem?_eq_getElem hkj⟩
                      have hsh : s.h = hAt f now k ∧ s.B = bAt f k := by
                        have e1 := congrArg (fun l => l[j]?) HS3.out.1
                        have e2 := congrArg (fun l => l[j]?) HS3.out.2
                        simp only [List.getElem?_map, hss, hk, Option.map_some] at e1 e2
                        injection e1 with e1
                        injection e2 with e2
                        exact ⟨e1, e2⟩
                      have hsk : s.key = k := by
                        have h1 := headsK HF.out HKs.out now (i := j) (x := s.h) (by rw [List.getElem?_map, hk, Option.map_some, hsh.1])
                        rw [hk] at h1
                        injection h1 with h1
                        exact h1.symm
                      have hfk : (fj s.key).isSome = true := by
                        rw [hsk, ← cont_some, hcj.out]
                        unfold agC
                        split
                        · rfl
                        · rw [cont_some]
                          exact (HKs.out.mem k).1 (List.mem_of_getElem? hk)
                      have HP2 := Lib.hid (stput_any wj g bm 4096 fj N hq.out s hsr now hnr (.inl hfk))
                      have HK := Lib.hid (And.intro hk (And.intro hsh (And.intro hsk hfk)))
                      clear hss hsr hk hsh hsk hfk hkj
                      go_wp2_with fail
                      refine HP2.out.mono ?_
                      rintro e w9 ⟨x', rfl, hxh, hxB, -, hq9, hk9⟩
                      rw [if_pos HK.out.2.2.2, HK.out.2.2.1] at hq9
                      have hm := hq.out.map
                      have HQ9 := Lib.hid hq9
                      have HC9 : Hid (contF (updK fj k ⟨x', now⟩) = agC f now (ks.take (j + 1))) := Lib.hid (agC_step hcj.out HK.out.1 (hxh.trans HK.out.2.1.1) (hxB.trans HK.out.2.1.2))
                      have HT9 := Lib.hid (ht3.out.kept hm hk9)
                      have HW9 := Lib.hid (hw.out.kept hm hk9)
                      have HB9 := Lib.hid (below_kept hb.out hk9 (fun i hi => by rw [hi]; exact HBM.out))
                      clear hxh hxB hq9 hk9 hm q0 q1 q2 q3 q4 q5 q6 q7 q8 HP2
                      go_wp2_with fail
                      go_roundw
                      case rel => exact ⟨j + 1, _, by go_num, by omega, HQ9, HC9, HT9, HW9, HB9⟩
                      case measure => simp [intOf]; omega
                    · obtain rfl : j = N := by omega
                      have hca := hcj.out
                      rw [List.take_of_length_le (by rw [HKs.out.len]; exact Nat.le_refl _)] at hca
                      have HG := Lib.hid (again_at HF.out HKs.out hca (fun k x hx => by
                        have h1 : fillC L k = some (x.s.h, x.s.B, x.at_) := by rw [← HC.out]; unfold contF; rw [hx]; rfl
                        obtain ⟨o, ho, _, h2⟩ := fillC_some _ L rfl k _ h1
                        injection h2 with _ h2
                        injection h2 with _ h2
                        have := HN.out o ho
                        omega) hlt0)
                      clear hcj hca ht3 HS3 HQ8 HT8 HW8 HB8 hjn
                      go_wp2_with fail
                      refine (ask_all hq.out (by have := HN3.out; omega) hlr).mono ?_
                      rintro e w9 ⟨A5, c5, rfl, ss5, ks5, hks5, hst5, hsh5, hsB5, hb9⟩
                      have hkk : ks5 = ks := ks_cont HKs.out hks5 (fun k => (HG.out k).2.2)
                      rw [hkk] at hsh5 hsB5
                      have hcm : ks.map (hAt fj later) = ks.map (hAt f later) := List.map_congr_left fun k _ => (HG.out k).1
                      have hcB : ks.map (bAt fj) = ks.map (bAt f) := List.map_congr_left fun k _ => (HG.out k).2.1
                      rw [hcm, ← HSs.out.1] at hsh5
                      rw [hcB, ← HSs.out.2] at hsB5
                      have HE : Hid (∀ (m : Nat) (x y : SE), ss[m]? = some x → ss5[m]? = some y → x.h = y.h ∧ x.B = y.B) := Lib.hid fun m x y h1 h2 => by
                        have e1 := congrArg (fun l => l[m]?) hsh5
                        have e2 := congrArg (fun l => l[m]?) hsB5
                        simp only [List.getElem?_map, h1, h2, Option.map_some] at e1 e2
                        injection e1 with e1
                        injection e2 with e2
                        exact ⟨e1.symm, e2.symm⟩
                      have HW9 := Lib.hid (hw.out.later hb9)
                      have HT9 := Lib.hid hst5
                      have HB9 := Lib.hid (below_then hb.out hb9)
                      have hcap1 := hw.out.cap
                      have hcap5 := hst5.cap
                      clear hks5 hkk hcm hcB hsh5 hsB5 hst5 hb9 hw hq HG
                      go_wp2_with fail
                      go_loopw [17] (fun iv wr => ∃ m : Nat, iv = .int .i64 m ∧ m ≤ j ∧ Hid (Below w9.heap.size w9 wr)) (fun iv _ => j - (intOf iv).toNat)
                      case atStart => exact ⟨0, rfl, Nat.zero_le _, Lib.hid (Below.refl _ _)⟩
                      case round =>
                        obtain ⟨m, rfl, hmj, hbm⟩ := hrel
                        generalize wr = wk at *
                        by_cases hmn : m < j
                        · have hmI : (m : Int) < j := by omega
                          obtain ⟨ad, x, hA1, hxs, hxr, hxa⟩ := (HW9.out.later hbm.out).at_ hmn
                          obtain ⟨bd, y, hA5, hys, hyr, hya⟩ := (HT9.out.later hbm.out).at_ hmn
                          subst hA1 hA5
                          have hxy := HE.out m x y hxs hys
                          have hb1 : Below wk.heap.size wk (wk.alloc (.cells #[.int .u16 x.h.age, .int .u8 x.h.opts, .int .u8 x.h.typ, .int .u32 x.h.id, .int .u32 x.h.adv, .int .i32 x.h.seq, .int .u16 x.h.sum, .int .u16 x.h.len, .slice x.A x.n x.c] 31)) := (Below.refl _ _).alloc (Nat.le_refl _) _
                          have hb2 : Below wk.heap.size wk ((wk.alloc (.cells #[.int .u16 x.h.age, .int .u8 x.h.opts, .int .u8 x.h.typ, .int .u32 x.h.id, .int .u32 x.h.adv, .int .i32 x.h.seq, .int .u16 x.h.sum, .int .u16 x.h.len, .slice x.A x.n x.c] 31)).alloc (.cells #[.int .u16 x.h.age, .int .u8 x.h.opts, .int .u8 x.h.typ, .int .u32 x.h.id, .int .u32 x.h.adv, .int .i32 x.h.seq, .int .u16 x.h.sum, .int .u16 x.h.len, .slice y.A y.n y.c] 31)) := below_two _ _ _
                          have hya1 := hya.later hb1
                          unfold StAt at hya1
                          rw [← hxy.1] at hya1
                          obtain ⟨q0, q1, q2, q3, q4, q5, q6, q7, q8⟩ := hxa
                          obtain ⟨p0, p1, p2, p3, p4, p5, p6, p7, p8⟩ := hya1
                          have X1 : Hid (Blk ((wk.alloc (.cells #[.int .u16 x.h.age, .int .u8 x.h.opts, .int .u8 x.h.typ, .int .u32 x.h.id, .int .u32 x.h.adv, .int .i32 x.h.seq, .int .u16 x.h.sum, .int .u16 x.h.len, .slice x.A x.n x.c] 31)).alloc (.cells #[.int .u16 x.h.age, .int .u8 x.h.opts, .int .u8 x.h.typ, .int .u32 x.h.id, .int .u32 x.h.adv, .int .i32 x.h.seq, .int .u16 x.h.sum, .int .u16 x.h.len, .slice y.A y.n y.c] 31)) wk.heap.size 31 #[.int .u16 x.h.age, .int .u8 x.h.opts, .int .u8 x.h.typ, .int .u32 x.h.id, .int .u32 x.h.adv, .int .i32 x.h.seq, .int .u16 x.h.sum, .int .u16 x.h.len, .slice x.A x.n x.c]) := Lib.hid ((Blk.new _ _ _).alloc _)
                          have X2 : Hid (Blk ((wk.alloc (.cells #[.int .u16 x.h.age, .int .u8 x.h.opts, .int .u8 x.h.typ, .int .u32 x.h.id, .int .u32 x.h.adv, .int .i32 x.h.seq, .int .u16 x.h.sum, .int .u16 x.h.len, .slice x.A x.n x.c] 31)).alloc (.cells #[.int .u16 x.h.age, .int .u8 x.h.opts, .int .u8 x.h.typ, .int .u32 x.h.id, .int .u32 x.h.adv, .int .i32 x.h.seq, .int .u16 x.h.sum, .int .u16 x.h.len, .slice y.A y.n y.c] 31)) (wk.heap.size + 1) 31 #[.int .u16 x.h.age, .int .u8 x.h.opts, .int .u8 x.h.typ, .int .u32 x.h.id, .int .u32 x.h.adv, .int .i32 x.h.seq, .int .u16 x.h.sum, .int .u16 x.h.len, .slice y.A y.n y.c]) := new_at _ _ _
                          have r0 := X1.out.cell 0
                          have t0 := X2.out.cell 0
                          simp only [List.getElem?_toArray, List.getElem?_cons_zero, List.getElem?_cons_succ] at r0 t0
                          have HR := Lib.hid (And.intro hxr (And.intro hyr hxy))
                          have HB2 := Lib.hid (And.intro hb2 hbm.out)
                          clear hxs hys hxr hyr hya hxy hb1 hb2 hbm
                          go_wp2_with fail
                          · clear q0 q1 q2 q3 q4 q5 q6 q7 q8 p0 p1 p2 p3 p4 p5 p6 p7 p8 X1 X2 r0 t0
                            have hW : Below wk.heap.size wk ((wk.alloc (.cells #[.int .u16 x.h.age, .int .u8 x.h.opts, .int .u8 x.h.typ, .int .u32 x.h.id, .int .u32 x.h.adv, .int .i32 x.h.seq, .int .u16 x.h.sum, .int .u16 x.h.len, .slice x.A x.n x.c] 31)).alloc (.cells #[.int .u16 x.h.age, .int .u8 x.h.opts, .int .u8 x.h.typ, .int .u32 x.h.id, .int .u32 x.h.adv, .int .i32 x.h.seq, .int .u16 x.h.sum, .int .u16 x.h.len, .slice y.A y.n y.c] 31)) := below_two _ _ _
                            have hcl : Calls Try.prog 20 #[.agg #[.int .u16 x.h.age, .int .u8 x.h.opts, .int .u8 x.h.typ, .int .u32 x.h.id, .int .u32 x.h.adv, .int .i32 x.h.seq, .int .u16 x.h.sum, .int .u16 x.h.len, .slice x.A x.n x.c], .agg #[.int .u16 x.h.age, .int .u8 x.h.opts, .int .u8 x.h.typ, .int .u32 x.h.id, .int .u32 x.h.adv, .int .i32 x.h.seq, .int .u16 x.h.sum, .int .u16 x.h.len, .slice y.A y.n y.c]] ((wk.alloc (.cells #[.int .u16 x.h.age, .int .u8 x.h.opts, .int .u8 x.h.typ, .int .u32 x.h.id, .int .u32 x.h.adv, .int .i32 x.h.seq, .int .u16 x.h.sum, .int .u16 x.h.len, .slice x.A x.n x.c] 31)).alloc (.cells #[.int .u16 x.h.age, .int .u8 x.h.opts, .int .u8 x.h.typ, .int .u32 x.h.id, .int .u32 x.h.adv, .int .i32 x.h.seq, .int .u16 x.h.sum, .int .u16 x.h.len, .slice y.A y.n y.c] 31)) fun e w' => e = .returned (.bool true) ∧ Below ((wk.alloc (.cells #[.int .u16 x.h.age, .int .u8 x.h.opts, .int .u8 x.h.typ, .int .u32 x.h.id, .int .u32 x.h.adv, .int .i32 x.h.seq, .int .u16 x.h.sum, .int .u16 x.h.len, .slice x.A x.n x.c] 31)).alloc (.cells #[.int .u16 x.h.age, .int .u8 x.h.opts, .int .u8 x.h.typ, .int .u32 x.h.id, .int .u32 x.h.adv, .int .i32 x.h.seq, .int .u16 x.h.sum, .int .u16 x.h.len, .slice y.A y.n y.c] 31)).heap.size ((wk.alloc (.cells #[.int .u16 x.h.age, .int .u8 x.h.opts, .int .u8 x.h.typ, .int .u32 x.h.id, .int .u32 x.h.adv, .int .i32 x.h.seq, .int .u16 x.h.sum, .int .u16 x.h.len, .slice x.A x.n x.c] 31)).alloc (.cells #[.int .u16 x.h.age, .int .u8 x.h.opts, .int .u8 x.h.typ, .int .u32 x.h.id, .int .u32 x.h.adv, .int .i32 x.h.seq, .int .u16 x.h.sum, .int .u16 x.h.len, .slice y.A y.n y.c] 31)) w' := eqState_at ⟨x.h, x.A, x.n, x.c, x.B⟩ ⟨x.h, y.A, y.n, y.c, y.B⟩ _ ⟨HR.out.1.head, (HR.out.1.later hW).body, HR.out.1.oct, HR.out.1.cap, HR.out.1.len⟩ ⟨HR.out.1.head, (HR.out.2.1.later hW).body, HR.out.2.1.oct, HR.out.2.1.cap, HR.out.2.1.len⟩ rfl HR.out.2.2.2
                            generalize ((wk.alloc (.cells #[.int .u16 x.h.age, .int .u8 x.h.opts, .int .u8 x.h.typ, .int .u32 x.h.id, .int .u32 x.h.adv, .int .i32 x.h.seq, .int .u16 x.h.sum, .int .u16 x.h.len, .slice x.A x.n x.c] 31)).alloc (.cells #[.int .u16 x.h.age, .int .u8 x.h.opts, .int .u8 x.h.typ, .int .u32 x.h.id, .int .u32 x.h.adv, .int .i32 x.h.seq, .int .u16 x.h.sum, .int .u16 x.h.len, .slice y.A y.n y.c] 31)) = wz at hW hcl ⊢
                            refine hcl.mono ?_
                            rintro e w10 ⟨rfl, hb10⟩
                            have HBx := Lib.hid (below_then HB2.out.2 (below_then hW hb10))
                            clear hb10 hW hcl HR HB2 HE HSs HF HC HN HP HSm
                            go_wp2_with fail
                            go_roundw
                            case rel => exact ⟨m + 1, by go_num, by omega, HBx⟩
                            case measure => simp [intOf]; omega
                          · clear q0 q1 q2 q3 q4 q5 q6 q7 q8 p0 p1 p2 p3 p4 p5 p6 p7 p8 X1 X2 r0 t0
                            have hW : Below wk.heap.size wk ((wk.alloc (.cells #[.int .u16 0, .int .u8 x.h.opts, .int .u8 x.h.typ, .int .u32 x.h.id, .int .u32 x.h.adv, .int .i32 x.h.seq, .int .u16 x.h.sum, .int .u16 x.h.len, .slice x.A x.n x.c] 31)).alloc (.cells #[.int .u16 0, .int .u8 x.h.opts, .int .u8 x.h.typ, .int .u32 x.h.id, .int .u32 x.h.adv, .int .i32 x.h.seq, .int .u16 x.h.sum, .int .u16 x.h.len, .slice y.A y.n y.c] 31)) := below_two _ _ _
                            have hcl : Calls Try.prog 20 #[.agg #[.int .u16 0, .int .u8 x.h.opts, .int .u8 x.h.typ, .int .u32 x.h.id, .int .u32 x.h.adv, .int .i32 x.h.seq, .int .u16 x.h.sum, .int .u16 x.h.len, .slice x.A x.n x.c], .agg #[.int .u16 0, .int .u8 x.h.opts, .int .u8 x.h.typ, .int .u32 x.h.id, .int .u32 x.h.adv, .int .i32 x.h.seq, .int .u16 x.h.sum, .int .u16 x.h.len, .slice y.A y.n y.c]] ((wk.alloc (.cells #[.int .u16 0, .int .u8 x.h.opts, .int .u8 x.h.typ, .int .u32 x.h.id, .int .u32 x.h.adv, .int .i32 x.h.seq, .int .u16 x.h.sum, .int .u16 x.h.len, .slice x.A x.n x.c] 31)).alloc (.cells #[.int .u16 0, .int .u8 x.h.opts, .int .u8 x.h.typ, .int .u32 x.h.id, .int .u32 x.h.adv, .int .i32 x.h.seq, .int .u16 x.h.sum, .int .u16 x.h.len, .slice y.A y.n y.c] 31)) fun e w' => e = .returned (.bool true) ∧ Below ((wk.alloc (.cells #[.int .u16 0, .int .u8 x.h.opts, .int .u8 x.h.typ, .int .u32 x.h.id, .int .u32 x.h.adv, .int .i32 x.h.seq, .int .u16 x.h.sum, .int .u16 x.h.len, .slice x.A x.n x.c] 31)).alloc (.cells #[.int .u16 0, .int .u8 x.h.opts, .int .u8 x.h.typ, .int .u32 x.h.id, .int .u32 x.h.adv, .int .i32 x.h.seq, .int .u16 x.h.sum, .int .u16 x.h.len, .slice y.A y.n y.c] 31)).heap.size ((wk.alloc (.cells #[.int .u16 0, .int .u8 x.h.opts, .int .u8 x.h.typ, .int .u32 x.h.id, .int .u32 x.h.adv, .int .i32 x.h.seq, .int .u16 x.h.sum, .int .u16 x.h.len, .slice x.A x.n x.c] 31)).alloc (.cells #[.int .u16 0, .int .u8 x.h.opts, .int .u8 x.h.typ, .int .u32 x.h.id, .int .u32 x.h.adv, .int .i32 x.h.seq, .int .u16 x.h.sum, .int .u16 x.h.len, .slice y.A y.n y.c] 31)) w' := eqState_at ⟨⟨0, x.h.opts, x.h.typ, x.h.id, x.h.adv, x.h.seq, x.h.sum, x.h.len⟩, x.A, x.n, x.c, x.B⟩ ⟨⟨0, x.h.opts, x.h.typ, x.h.id, x.h.adv, x.h.seq, x.h.sum, x.h.len⟩, y.A, y.n, y.c, y.B⟩ _ ⟨⟨(show (0 : Int) ≤ 0 ∧ (0 : Int) ≤ 65535 by decide), HR.out.1.head.opts, HR.out.1.head.typ, HR.out.1.head.id, HR.out.1.head.adv, HR.out.1.head.seq, HR.out.1.head.sum, HR.out.1.head.len⟩, (HR.out.1.later hW).body, HR.out.1.oct, HR.out.1.cap, HR.out.1.len⟩ ⟨⟨(show (0 : Int) ≤ 0 ∧ (0 : Int) ≤ 65535 by decide), HR.out.1.head.opts, HR.out.1.head.typ, HR.out.1.head.id, HR.out.1.head.adv, HR.out.1.head.seq, HR.out.1.head.sum, HR.out.1.head.len⟩, (HR.out.2.1.later hW).body, HR.out.2.1.oct, HR.out.2.1.cap, HR.out.2.1.len⟩ rfl HR.out.2.2.2
                            generalize ((wk.alloc (.cells #[.int .u16 0, .int .u8 x.h.opts, .int .u8 x.h.typ, .int .u32 x.h.id, .int .u32 x.h.adv, .int .i32 x.h.seq, .int .u16 x.h.sum, .int .u16 x.h.len, .slice x.A x.n x.c] 31)).alloc (.cells #[.int .u16 0, .int .u8 x.h.opts, .int .u8 x.h.typ, .int .u32 x.h.id, .int .u32 x.h.adv, .int .i32 x.h.seq, .int .u16 x.h.sum, .int .u16 x.h.len, .slice y.A y.n y.c] 31)) = wz at hW hcl ⊢
                            refine hcl.mono ?_
                            rintro e w10 ⟨rfl, hb10⟩
                            have HBx := Lib.hid (below_then HB2.out.2 (below_then hW hb10))
                            clear hb10 hW hcl HR HB2 HE HSs HF HC HN HP HSm
                            go_wp2_with fail
                            go_roundw
                            case rel => exact ⟨m + 1, by go_num, by omega, HBx⟩
                            case measure => simp [intOf]; omega
                        · obtain rfl : m = j := by omega
                          go_wp2_with fail
                          refine (lives_any _).mono ?_
                          rintro e wl ⟨rfl, hbl⟩
                          have HBl := Lib.hid (below_then (below_then HB9.out hbm.out) hbl)
                          clear hbl
                          go_wp2_with fail
                          go_ret
                          exact ⟨rfl, HBl.out⟩
                · obtain ⟨p, rfl⟩ : ∃ p, m = p + 1 := ⟨m - 1, by omega⟩
                  obtain rfl : z = (p : Int) := by have := hz.out; omega
                  have hpI : (p : Int) < i := by omega
                  obtain ⟨ad, o, hA, hadl, hso, hok, hat⟩ := (HL3.out.later hb.out).at_ (i := p) (by omega)
                  subst hA
                  have HO := Lib.hid hso
                  obtain ⟨q0, q1, q2, q3, q4, q5, q6, q7, q8, q9, q10⟩ := hat
                  have HX : Hid (Reads (wj.alloc (.cells #[.int .u8 o.do_, .int .i64 o.now, .int .u16 o.s.h.age, .int .u8 o.s.h.opts, .int .u8 o.s.h.typ, .int .u32 o.s.h.id, .int .u32 o.s.h.adv, .int .i32 o.s.h.seq, .int .u16 o.s.h.sum, .int .u16 o.s.h.len, .slice o.s.A o.s.n o.s.c] 33)) (wj.heap.size + 1) 11 (some ⟨wj.heap.size, 0, none⟩) 1 o.cells) :=
                    Lib.hid ⟨rfl, fun _ => ⟨_, rfl, Nat.lt_succ_self _, fun j u hu => by rw [add_none, Nat.zero_add, (Blk.new wj 33 #[.int .u8 o.do_, .int .i64 o.now, .int .u16 o.s.h.age, .int .u8 o.s.h.opts, .int .u8 o.s.h.typ, .int .u32 o.s.h.id, .int .u32 o.s.h.adv, .int .i32 o.s.h.seq, .int .u16 o.s.h.sum, .int .u16 o.s.h.len, .slice o.s.A o.s.n o.s.c]).cell]; simpa [OpS.cells, SE.cells] using hu⟩⟩
                  have HRw := Lib.hid (hrow.out.alloc (.cells #[.int .u8 o.do_, .int .i64 o.now, .int .u16 o.s.h.age, .int .u8 o.s.h.opts, .int .u8 o.s.h.typ, .int .u32 o.s.h.id, .int .u32 o.s.h.adv, .int .i32 o.s.h.seq, .int .u16 o.s.h.sum, .int .u16 o.s.h.len, .slice o.s.A o.s.n o.s.c] 33))
                  have hbase : w3.heap.size ≤ wj.heap.size := hb.out.size
                  have HBa : Hid (Below w3.heap.size w3 (wj.alloc (.cells #[.int .u8 o.do_, .int .i64 o.now, .int .u16 o.s.h.age, .int .u8 o.s.h.opts, .int .u8 o.s.h.typ, .int .u32 o.s.h.id, .int .u32 o.s.h.adv, .int .i32 o.s.h.seq, .int .u16 o.s.h.sum, .int .u16 o.s.h.len, .slice o.s.A o.s.n o.s.c] 33))) := Lib.hid (hb.out.alloc hbase _)
                  have HBb := Lib.hid hb.out.size
                  clear hso hok hrow hz hm0 hb
                  go_wp2_with (at_builtin; refine wpList_app el_op rfl (.tmp 88) (.tmp 93) rfl HRw.out rfl HX.out rfl (ops_one o) (by simp only [maxLen]; omega) (by omega) (by rw [World.size_alloc]; omega) ?_; intro v' w' ho' hb' _ _; have H4 := Lib.hid (And.intro ho' hb'); clear ho' hb')
                  go_roundw
                  case rel =>
                    refine ⟨p, (p : Int) - 1, by go_num, Lib.hid (by omega), by omega, Lib.hid ?_, Lib.hid (HBa.out.trans H4.out.2)⟩
                    have h := H4.out.1
                    have hpl : p < L.length := by have := HL.out.len; omega
                    have e1 : i - (p + 1) + 1 = i - p := by omega
                    have e2 : L.drop p = o :: L.drop (p + 1) := by
                      rw [List.drop_eq_getElem_cons hpl]
                      have h2 := HO.out
                      rw [List.getElem?_eq_getElem hpl] at h2
                      injection h2 with h2
                      rw [h2]
                    rw [e2, List.reverse_cons, List.flatMap_append, ← e1]
                    simpa using h
                  case measure => simp [intOf]
end Go.Proofs.Ytpncbggjngamgaa
namespace Go.Proofs.Ytpncbggjngamgaa
set_option linter.unusedVariables false
open Go.RowKit

theorem may11 (m : Int) (w : World) : Calls Try.prog 21 #[.int .i64 m] w fun e w' => e = .returned (.bool (decide (1 ≤ m ∧ m ≤ 4096))) ∧ w = w' := by
  by_cases h1 : 1 ≤ m
  · have d1 : decide (1 ≤ m) = true := decide_eq_true h1
    by_cases h2 : m ≤ 4096
    · have d2 : decide (m ≤ 4096) = true := decide_eq_true h2
      rw [decide_eq_true (And.intro h1 h2)]
      go_enter Try.func21, Try.ntmps21
      go_wp2
      go_ret
      exact ⟨rfl, rfl⟩
    · have d2 : decide (m ≤ 4096) = false := decide_eq_false h2
      rw [decide_eq_false (fun h : 1 ≤ m ∧ m ≤ 4096 => h2 h.2)]
      go_enter Try.func21, Try.ntmps21
      go_wp2
      go_ret
      exact ⟨rfl, rfl⟩
  · have d1 : decide (1 ≤ m) = false := decide_eq_false h1
    rw [decide_eq_false (fun h : 1 ≤ m ∧ m ≤ 4096 => h1 h.1)]
    go_enter Try.func21, Try.ntmps21
    go_wp2
    go_ret
    exact ⟨rfl, rfl⟩
theorem one_any (base : Nat) (w : World) (g bm : Nat) (most : Int) (f : Ky3 → Option OneE) (N gd : Nat) (v : Value) (xs : List OneE) (gb : Nat) (G : Nat → Sl) (L : Nat → List Sl) (h : PB base w g bm most f N gd v xs gb G L) (o : OpS) (ho : o.ok w) (hs : o.s.n ≤ 1099511627776) (hob : 0 < o.s.n → ∀ ad, o.s.A = some ad → ad.block < base) :
    Calls Try.prog 23 #[.pointer (some ⟨g, 0, none⟩), .pointer (some ⟨gd, 0, none⟩), .agg #[.int .u8 o.do_, .int .i64 o.now, .int .u16 o.s.h.age, .int .u8 o.s.h.opts, .int .u8 o.s.h.typ, .int .u32 o.s.h.id, .int .u32 o.s.h.adv, .int .i32 o.s.h.seq, .int .u16 o.s.h.sum, .int .u16 o.s.h.len, .slice o.s.A o.s.n o.s.c], .pointer (some ⟨gb, 0, none⟩)] w fun e w' => OneP base w w' g bm most f N gd v xs gb G L e := by
  have hd := ho.do_
  have hc : o.do_ % 6 = 0 ∨ o.do_ % 6 = 1 ∨ o.do_ % 6 = 2 ∨ o.do_ % 6 = 3 ∨ o.do_ % 6 = 4 ∨ o.do_ % 6 = 5 := by omega
  rcases hc with hc | hc | hc | hc | hc | hc
  · exact one_put0 base w g bm most f N gd v xs gb G L h o ho hs hob hc
  · exact one_put1 base w g bm most f N gd v xs gb G L h o ho hs hob hc
  · exact one_put2 base w g bm most f N gd v xs gb G L h o ho hs hob hc
  · exact one_drop base w g bm most f N gd v xs gb G L h o ho hs hob hc
  · exact one_get base w g bm most f N gd v xs gb G L h o ho hs hob hc
  · exact one_when base w g bm most f N gd v xs gb G L h o ho hs hob hc
section
variable {base : Nat} {w w' : World} {g bm : Nat} {most : Int} {f : Ky3 → Option OneE} {N gd : Nat} {v : Value} {xs : List OneE} {gb : Nat} {G : Nat → Sl} {L : Nat → List Sl} {f' : Ky3 → Option OneE} {N' : Nat} {v' : Value} {xs' : List OneE} {G' : Nat → Sl} {L' : Nat → List Sl}
theorem BagF.ge (h : BagN w base gb G L) (hg : base ≤ gb) {b : Nat} (hb : BagF gb G b) : base ≤ b := by
  rcases hb with rfl | ⟨j, hj, hb⟩
  · exact hg
  · exact (own_ge (h.row j hj) hb).1
theorem OneR.below (h0 : PB base w g bm most f N gd v xs gb G L) (h : OneR base w w' g bm most f N gd v xs gb G L f' N' v' xs' G' L') : Below base w w' :=
  h.k.below (fun b hb => by
    rcases hb with (e | e | e) | e
    · rw [e]; exact h0.p.hbm
    · rw [e]; exact h0.p.hgd
    · exact (own_ge h0.p.r.row e).1
    · exact BagF.ge h0.b h0.hgb e) h0.base_le
/-- Another pair of stores stands while these are called. -/
theorem PairS.beside {g2 bm2 : Nat} {most2 : Int} {f2 : Ky3 → Option OneE} {N2 gd2 : Nat} {v2 : Value} {xs2 : List OneE} (p : PairS base w g2 bm2 most2 f2 N2 gd2 v2 xs2) (h0 : PB base w g bm most f N gd v xs gb G L) (k : Kept (fun b => PairF bm gd v b ∨ BagF gb G b) w w')
    (h1 : bm2 ≠ bm) (h2 : gd2 ≠ gd) (h3 : ∀ b, v2.ownBlock = some b → v.ownBlock ≠ some b) : PairS base w' g2 bm2 most2 f2 N2 gd2 v2 xs2 := by
  have u8 : ∀ {s : SE}, s.ok base w → ∀ b, s.b.ownBlock = some b → ¬ (PairF bm gd v b ∨ BagF gb G b) := fun hs b hb e => by
    rcases e with (e | e | e) | e
    · exact own_ne_mapF hs.body h0.p.q.map b hb e
    · exact own_blk_ne hs.body h0.p.r.blk (by decide) (e ▸ hb)
    · exact own_ne hs.body h0.p.r.row (by decide) b hb e
    · exact h0.b.not_own hs.body (by decide) (fun j hj => bel_bty 0 j (by decide) hj) b hb e
  refine p.kept k (fun e => ?_) (fun e => ?_) (fun e => ?_) (fun b hb e => ?_) (fun k x hx => u8 (p.own k x hx)) (fun x hx => u8 (p.r.own x hx).1)
  · rcases e with (e | e | e) | e
    · exact h0.p.q.map.ne_blk p.q.blk e.symm
    · exact blk_ne p.q.blk h0.p.r.blk (by decide) e
    · exact own_blk_ne h0.p.r.row p.q.blk (by decide) e
    · exact h0.b.not_blk p.q.blk (by decide) bty_st e
  · rcases e with (e | e | e) | e
    · exact h1 e
    · exact p.q.map.ne_blk h0.p.r.blk e
    · exact own_ne_mapF h0.p.r.row p.q.map bm2 e rfl
    · exact h0.b.not_map p.q.map e
  · rcases e with (e | e | e) | e
    · exact h0.p.q.map.ne_blk p.r.blk e.symm
    · exact h2 e
    · exact own_blk_ne h0.p.r.row p.r.blk (by decide) e
    · exact h0.b.not_blk p.r.blk (by decide) bty_rst e
  · rcases e with (e | e | e) | e
    · exact own_ne_mapF p.r.row h0.p.q.map b hb e
    · exact own_blk_ne p.r.row h0.p.r.blk (by decide) (e ▸ hb)
    · exact h3 b hb e
    · exact h0.b.not_own p.r.row (by decide) (fun j hj e2 => bty_one j hj e2.symm) b hb e
end
theorem nil19 : (#[.slice none 0 0, .slice none 0 0, .slice none 0 0, .slice none 0 0, .slice none 0 0, .slice none 0 0, .slice none 0 0, .slice none 0 0, .slice none 0 0, .slice none 0 0, .slice none 0 0, .slice none 0 0, .slice none 0 0, .slice none 0 0, .slice none 0 0, .slice none 0 0, .slice none 0 0, .slice none 0 0, .slice none 0 0] : Array Value) = Array.replicate 19 (.slice none 0 0) := rfl
theorem Opl.may {w : World} {A : Option Addr} {n : Nat} {L : List OpS} (h : Opl w A n L) {o : OpS} (ho : o ∈ L) : 0 < o.s.n → ∀ ad, o.s.A = some ad → ad.block < w.heap.size := fun h0 ad hA => by
  obtain ⟨ad', e, hb, _⟩ := (h.ok o ho).s.body.2 h0
  rw [hA] at e
  injection e with e
  rw [e]
  exact hb
structure Cop1 (w : World) (g bm : Nat) (most : Int) (gd gb n : Nat) (iv : Value) (wr : World) : Prop where
  ex : ∃ (i : Nat) (f : Ky3 → Option OneE) (N : Nat) (v : Value) (xs : List OneE) (G : Nat → Sl) (L : Nat → List Sl), iv = .int .i64 i ∧ i ≤ n ∧ Hid (PB w.heap.size wr g bm most f N gd v xs gb G L)
  below : Hid (Below w.heap.size w wr)
structure Cop2 (w : World) (g bm : Nat) (most : Int) (f0 : Ky3 → Option OneE) (N0 gw : Nat) (vw : Value) (ys : List OneE) (gc bc gd gb n : Nat) (iv : Value) (wr : World) : Prop where
  ex : ∃ (i : Nat) (f : Ky3 → Option OneE) (N : Nat) (v : Value) (xs : List OneE) (G : Nat → Sl) (L : Nat → List Sl), iv = .int .i64 i ∧ i ≤ n ∧ Hid (PB w.heap.size wr gc bc most f N gd v xs gb G L) ∧ Hid (∀ b, vw.ownBlock = some b → v.ownBlock ≠ some b)
  was : Hid (PairS w.heap.size wr g bm most f0 N0 gw vw ys)
  below : Hid (Below w.heap.size w wr)
set_option maxRecDepth 100000 in
set_option maxHeartbeats 16000000 in
theorem copies_walk (most : Int) (A : Option Addr) (n c : Nat) (L : List OpS) (A2 : Option Addr) (n2 c2 : Nat) (M : List OpS) (now : Int) (w : World) (hL : Opl w A n L) (hr : ∀ o ∈ L, o.s.n ≤ reachBytes) (hc : n ≤ c ∧ c ≤ 9223372036854775807) (hM : Opl w A2 n2 M) (hr2 : ∀ o ∈ M, o.s.n ≤ reachBytes) (hc2 : n2 ≤ c2 ∧ c2 ≤ 9223372036854775807) (hnow : now ≤ 9223372036854775807) :
    Calls Try.prog 5 #[.int .i64 most, .slice A n c, .slice A2 n2 c2, .int .i64 now] w fun e w' => e = .returned (.bool true) ∧ Below w.heap.size w w' := by
  have HL := Lib.hid hL
  have HM := Lib.hid hM
  have HR := Lib.hid hr
  have HR2 := Lib.hid hr2
  clear hL hr hM hr2
  go_enter Try.func5, Try.ntmps5
  go_wp2_with fail
  refine (opHeavy_any A n c L w HL.out HR.out hc.1 hc.2).mono ?_
  rintro e w1 ⟨b, rfl, ⟨q, rfl⟩, hb⟩
  have HH := Lib.hid hb
  clear hb
  cases b with
  | true =>
    go_wp2_with fail
    refine (lives_any _).mono ?_
    rintro e wl ⟨rfl, hbl⟩
    have HBl := Lib.hid (below_then (below_of_drewN _ w q) hbl)
    clear hbl
    go_wp2_with fail
    go_ret
    exact ⟨rfl, HBl.out⟩
  | false =>
    have h120 := (HH.out rfl).1
    have HSm := Lib.hid (HH.out rfl).2
    have HB1 : Hid (Below w.heap.size w (w.drewN q)) := Lib.hid (below_of_drewN _ w q)
    clear HH
    generalize w.drewN q = w1 at *
    go_wp2_with fail
    refine (opHeavy_any A2 n2 c2 M w1 (HM.out.later HB1.out) HR2.out hc2.1 hc2.2).mono ?_
    rintro e w2 ⟨b, rfl, ⟨q2, rfl⟩, hb⟩
    have HH := Lib.hid hb
    have HB2 : Hid (Below w.heap.size w (w1.drewN q2)) := Lib.hid (below_drewN HB1.out q2)
    clear hb HB1
    generalize w1.drewN q2 = w2 at *
    cases b with
    | true =>
      go_wp2_with fail
      refine (lives_any _).mono ?_
      rintro e wl ⟨rfl, hbl⟩
      have HBl := Lib.hid (below_then HB2.out hbl)
      clear hbl
      go_wp2_with fail
      go_ret
      exact ⟨rfl, HBl.out⟩
    | false =>
      have h120b := (HH.out rfl).1
      have HSm2 := Lib.hid (HH.out rfl).2
      clear HH
      go_wp2_with fail
      refine (may11 most w2).mono ?_
      rintro e w' ⟨rfl, rfl⟩
      by_cases hmay : 1 ≤ most ∧ most ≤ 4096
      · rw [decide_eq_true hmay]
        go_wp2_with fail
        refine (stnew_any most w2 hmay.1 hmay.2).mono ?_
        rintro e w3 ⟨g, bm, rfl, hq, hg, hbm, hb3⟩
        have HQ3 := Lib.hid hq
        have hsz2 : w.heap.size ≤ w2.heap.size := HB2.out.size
        have HB3 := Lib.hid (below_then HB2.out hb3)
        have hbmw : w.heap.size ≤ bm := by omega
        clear hq hb3 HB2
        have hb4 : Below w3.heap.size w3 (w3.alloc (.cells #[.slice none 0 0, .int .i64 most] 61)) := (Below.refl _ _).alloc (Nat.le_refl _) _
        have hb5 : Below w3.heap.size w3 ((w3.alloc (.cells #[.slice none 0 0, .int .i64 most] 61)).alloc (.cells #[.slice none 0 0, .slice none 0 0, .slice none 0 0, .slice none 0 0, .slice none 0 0, .slice none 0 0, .slice none 0 0, .slice none 0 0, .slice none 0 0, .slice none 0 0, .slice none 0 0, .slice none 0 0, .slice none 0 0, .slice none 0 0, .slice none 0 0, .slice none 0 0, .slice none 0 0, .slice none 0 0, .slice none 0 0] 83)) := below_two _ _ _
        have hsz3 : w.heap.size ≤ w3.heap.size := HB3.out.size
        have HPB : Hid (PB w.heap.size ((w3.alloc (.cells #[.slice none 0 0, .int .i64 most] 61)).alloc (.cells #[.slice none 0 0, .slice none 0 0, .slice none 0 0, .slice none 0 0, .slice none 0 0, .slice none 0 0, .slice none 0 0, .slice none 0 0, .slice none 0 0, .slice none 0 0, .slice none 0 0, .slice none 0 0, .slice none 0 0, .slice none 0 0, .slice none 0 0, .slice none 0 0, .slice none 0 0, .slice none 0 0, .slice none 0 0] 83)) g bm most (fun _ => none) 0 w3.heap.size (.slice none 0 0) [] (w3.heap.size + 1) (fun _ => slNil) (fun _ => [])) := Lib.hid
          ⟨⟨HQ3.out.later hb5, fun k x h => (by cases h), ⟨(Blk.new _ _ _).alloc _, World.ownsRow_nil _ _ _ _, by simp⟩, link_nil, rfl, ⟨by omega, hmay.2⟩, hbmw, hsz3⟩, (by
            have h := BagN.new (w3.alloc (.cells #[.slice none 0 0, .int .i64 most] 61)) w.heap.size
            rw [World.size_alloc] at h
            exact h), fun s hs => (by simp at hs), by omega⟩
        have HB5 := Lib.hid (below_then HB3.out hb5)
        clear hb4 hb5 HQ3 HB3
        go_wp2_with fail
        generalize (w3.alloc (.cells #[.slice none 0 0, .int .i64 most] 61)).alloc (.cells #[.slice none 0 0, .slice none 0 0, .slice none 0 0, .slice none 0 0, .slice none 0 0, .slice none 0 0, .slice none 0 0, .slice none 0 0, .slice none 0 0, .slice none 0 0, .slice none 0 0, .slice none 0 0, .slice none 0 0, .slice none 0 0, .slice none 0 0, .slice none 0 0, .slice none 0 0, .slice none 0 0, .slice none 0 0] 83) = w5 at *
        generalize hgd : w3.heap.size = gd at *
        clear hgd
        go_loopw [12] (Cop1 w g bm most gd (gd + 1) n) (fun iv _ => n - (intOf iv).toNat)
        case atStart => exact ⟨⟨0, _, _, _, _, _, _, rfl, Nat.zero_le _, HPB⟩, HB5⟩
        case round =>
          obtain ⟨⟨i, f, N, v, xs, G, Lb, rfl, hi, hp⟩, hb⟩ := hrel
          generalize wr = wj at *
          by_cases hlt : i < n
          · have hltI : (i : Int) < n := by omega
            obtain ⟨ad, o, hA, hadl, hso, hok, hat⟩ := (HL.out.later hb.out).at_ hlt
            subst hA
            have hom := List.mem_of_getElem? hso
            have HOne := Lib.hid (one_any w.heap.size wj g bm most f N gd v xs (gd + 1) G Lb hp.out o hok (by have := HSm.out o hom; omega) (HL.out.may hom))
            obtain ⟨q0, q1, q2, q3, q4, q5, q6, q7, q8, q9, q10⟩ := hat
            clear hso hok hom hadl
            go_wp2_with fail
            refine HOne.out.mono ?_
            rintro e w7 ⟨rfl, f', N', v', xs', G', L', hr⟩
            have HR7 := Lib.hid hr
            have HB7 := Lib.hid (hb.out.trans (hr.below hp.out))
            clear hr HOne q0 q1 q2 q3 q4 q5 q6 q7 q8 q9 q10
            go_wp2_with fail
            go_roundw
            case rel => exact ⟨⟨i + 1, f', N', v', xs', G', L', by go_num, by omega, Lib.hid HR7.out.h⟩, HB7⟩
            case measure => simp [intOf]; omega
          · obtain rfl : i = n := by omega
            clear HPB
            go_wp2_with fail
            refine (stcopy_any wj g bm most f N hp.out.p.q).mono ?_
            rintro e w7 ⟨gc, bc, rfl, hqc, hgc, hbc, hb7⟩
            have HQc := Lib.hid hqc
            have HP7 := Lib.hid (hp.out.later hb7)
            have hszj : w.heap.size ≤ wj.heap.size := hb.out.size
            have HB7 := Lib.hid (below_then hb.out hb7)
            have HSz7 := Lib.hid hb7.size
            have hbm7 : bm < wj.heap.size := hp.out.p.q.map.lt
            have hgdj : gd < wj.heap.size := hp.out.p.r.blk.lt
            clear hqc hb7
            go_wp2_with fail
            refine (copy11 w.heap.size w7 gd v most xs HP7.out.p.r (by have := HP7.out.p.n; have := HP7.out.p.lim; omega)).mono ?_
            rintro e w8 ⟨rfl, vw, ys, hrw, hsm, hb8⟩
            have HQ8 := Lib.hid (HQc.out.later hb8)
            have HP8 := Lib.hid (HP7.out.later hb8)
            have hsz7 : w.heap.size ≤ w7.heap.size := HB7.out.size
            have HB8 := Lib.hid (below_then HB7.out hb8)
            have HWas : Hid (PairS w.heap.size w8 g bm most f N w7.heap.size vw ys) := Lib.hid ⟨HP8.out.p.q, HP8.out.p.own, ⟨hrw.blk, own_mono hrw.row hsz7, fun x hx => ⟨(hrw.own x hx).1.mono hsz7, (hrw.own x hx).2⟩⟩, HP8.out.p.l.same_rows hsm, by rw [hsm.len]; exact HP8.out.p.n, HP8.out.p.lim, HP8.out.p.hbm, hsz7⟩
            have HC : Hid (PB w.heap.size w8 gc bc most f N gd v xs (gd + 1) G Lb) := Lib.hid ⟨⟨HQ8.out, HP8.out.p.own, HP8.out.p.r, HP8.out.p.l, HP8.out.p.n, HP8.out.p.lim, by omega, HP8.out.p.hgd⟩, HP8.out.b, HP8.out.dj, HP8.out.hgb⟩
            have HNv : Hid (∀ b, vw.ownBlock = some b → v.ownBlock ≠ some b) := Lib.hid fun b h1 h2 => by
              have h3 := (own_ge hrw.row h1).1
              have h4 := (own_ge HP7.out.p.r.row h2).2
              omega
            have hne1 : bm ≠ bc := by omega
            have hne2 : w7.heap.size ≠ gd := by have := HSz7.out; omega
            have hvwl : Hid (∀ b, vw.ownBlock = some b → b < w8.heap.size) := Lib.hid fun b h1 => (own_ge hrw.row h1).2
            clear hrw hsm hb8 HQ8 HQc HP7 HP8 HB7 hp hb
            go_wp2_with fail
            generalize hgw : w7.heap.size = gw at *
            clear hgw
            go_loopw [15] (Cop2 w g bm most f N gw vw ys gc bc gd (gd + 1) n2) (fun iv _ => n2 - (intOf iv).toNat)
            case atStart => exact ⟨⟨0, _, _, _, _, _, _, rfl, Nat.zero_le _, HC, HNv⟩, HWas, HB8⟩
            case round =>
              obtain ⟨⟨j, f', N', v', xs', G', L', rfl, hj, hp, hnv⟩, hwas, hb⟩ := hrel
              generalize wr = wk at *
              by_cases hlt2 : j < n2
              · have hltJ : (j : Int) < n2 := by omega
                obtain ⟨ad, o, hA, hadl, hso, hok, hat⟩ := (HM.out.later hb.out).at_ hlt2
                subst hA
                have hom := List.mem_of_getElem? hso
                have HOne := Lib.hid (one_any w.heap.size wk gc bc most f' N' gd v' xs' (gd + 1) G' L' hp.out o hok (by have := HSm2.out o hom; omega) (HM.out.may hom))
                obtain ⟨q0, q1, q2, q3, q4, q5, q6, q7, q8, q9, q10⟩ := hat
                clear hso hok hom hadl
                go_wp2_with fail
                refine HOne.out.mono ?_
                rintro e w9 ⟨rfl, f9, N9, v9, xs9, G9, L9, hr⟩
                have HR9 := Lib.hid hr
                have HB9 := Lib.hid (hb.out.trans (hr.below hp.out))
                have HW9 := Lib.hid (hwas.out.beside hp.out hr.k hne1 hne2 hnv.out)
                clear hr HOne q0 q1 q2 q3 q4 q5 q6 q7 q8 q9 q10
                go_wp2_with fail
                go_roundw
                case rel =>
                  refine ⟨⟨j + 1, f9, N9, v9, xs9, G9, L9, by go_num, by omega, Lib.hid HR9.out.h, Lib.hid fun b h1 h2 => ?_⟩, HW9, HB9⟩
                  rcases HR9.out.vb b h2 with h3 | h3
                  · exact hnv.out b h1 h3
                  · have := (own_ge hwas.out.r.row h1).2
                    omega
                case measure => simp [intOf]; omega
              · obtain rfl : j = n2 := by omega
                have hbA : Below wk.heap.size wk (wk.alloc (.cells #[.slice none 0 0, .slice none 0 0, .slice none 0 0, .slice none 0 0, .slice none 0 0, .slice none 0 0, .slice none 0 0, .slice none 0 0, .slice none 0 0, .slice none 0 0, .slice none 0 0, .slice none 0 0, .slice none 0 0, .slice none 0 0, .slice none 0 0, .slice none 0 0, .slice none 0 0, .slice none 0 0, .slice none 0 0] 83)) := (Below.refl _ _).alloc (Nat.le_refl _) _
                have HBag : Hid (BagN (wk.alloc (.cells #[.slice none 0 0, .slice none 0 0, .slice none 0 0, .slice none 0 0, .slice none 0 0, .slice none 0 0, .slice none 0 0, .slice none 0 0, .slice none 0 0, .slice none 0 0, .slice none 0 0, .slice none 0 0, .slice none 0 0, .slice none 0 0, .slice none 0 0, .slice none 0 0, .slice none 0 0, .slice none 0 0, .slice none 0 0] 83)) w.heap.size wk.heap.size (fun _ => slNil) (fun _ => [])) := Lib.hid (BagN.new wk w.heap.size)
                have HWa := Lib.hid (hwas.out.later hbA)
                have HPa := Lib.hid (hp.out.p.later hbA)
                have HBa := Lib.hid (below_then hb.out hbA)
                have hszk : w.heap.size ≤ wk.heap.size := hb.out.size
                clear hbA hwas hp hb HC HWas
                go_wp2_with fail
                generalize hwa : wk.alloc (.cells #[.slice none 0 0, .slice none 0 0, .slice none 0 0, .slice none 0 0, .slice none 0 0, .slice none 0 0, .slice none 0 0, .slice none 0 0, .slice none 0 0, .slice none 0 0, .slice none 0 0, .slice none 0 0, .slice none 0 0, .slice none 0 0, .slice none 0 0, .slice none 0 0, .slice none 0 0, .slice none 0 0, .slice none 0 0] 83) = wa at *
                generalize wk.heap.size = gl at *
                clear hwa
                refine (like_any w.heap.size wa g bm most f N gw vw ys gl _ _ HWa.out HBag.out HBa.out.size now hnow).mono ?_
                rintro e wb ⟨rfl, Gb, Lb2, hbg, hkb, hub⟩
                have HPb := Lib.hid (HPa.out.bag HBag.out hkb)
                have HBg2 := Lib.hid hbg
                have HBb := Lib.hid (HBa.out.trans (hkb.below (fun b hb => BagF.ge HBag.out hszk hb) HBa.out.size))
                clear hbg hkb hub HWa HPa
                go_wp2_with fail
                refine (like_any w.heap.size wb gc bc most f' N' gd v' xs' gl _ _ HPb.out HBg2.out HBb.out.size now hnow).mono ?_
                rintro e wc ⟨rfl, Gc, Lc, hbg, hkc, huc⟩
                have HBc := Lib.hid (HBb.out.trans (hkc.below (fun b hb => BagF.ge HBg2.out hszk hb) HBb.out.size))
                clear hbg hkc huc
                go_wp2_with fail
                refine (lives_any _).mono ?_
                rintro e wl ⟨rfl, hbl⟩
                have HBl := Lib.hid (below_then HBc.out hbl)
                clear hbl
                go_wp2_with fail
                go_ret
                exact ⟨rfl, HBl.out⟩
      · rw [decide_eq_false hmay]
        go_wp2_with fail
        refine (lives_any _).mono ?_
        rintro e wl ⟨rfl, hbl⟩
        have HBl := Lib.hid (below_then HB2.out hbl)
        clear hbl
        go_wp2_with fail
        go_ret
        exact ⟨rfl, HBl.out⟩
end Go.Proofs.Ytpncbggjngamgaa
