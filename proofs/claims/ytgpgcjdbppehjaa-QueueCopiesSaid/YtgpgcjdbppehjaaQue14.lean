/-
  The law QueueOrder, walked.
-/
import Derived.Test.YtgpgcjdbppehjaaNeq
namespace Go.Proofs.Ytgpgcjdbppehjaa
set_option linter.unusedVariables false
open Go.RowKit

theorem OpRow.at2 {w : World} {A : Option Addr} {ad : Addr} {n i : Nat} {L : List OpA} {o : OpA} (h : OpRow w A n L) (ho : L[i]? = some o) (hA : A = some ad) : OpAt w (ad.add (i * 4)) o := by
  obtain ⟨ad', o', e, h1, _, h2⟩ := h.at_ (by rw [← h.len]; exact (List.getElem?_eq_some_iff.1 ho).1)
  rw [hA] at e
  injection e with e
  rw [ho] at h1
  injection h1 with h1
  rw [e, h1]; exact h2
def Op2 (W : World) (ad ad' : Addr) (o o' : OpA) : Prop := OpAt W ad o ∧ OpAt W ad' o'
set_option maxRecDepth 100000 in
set_option maxHeartbeats 16000000 in
theorem queueOrder_main (A A2 : Option Addr) (n c n2 c2 : Nat) (L : List OpA) (ss : List Int) (w : World) (hn : n ≤ 200) (hn2 : n2 ≤ 200) (hL : OpRow w A n L) (hS : Reads w w.heap.size 1 A2 n2 (ss.flatMap fun b => [Value.int .u16 b])) (hsl : ss.length = n2) (hsb : ∀ s ∈ ss, 0 ≤ s ∧ s ≤ 65535) :
    Calls Try.prog 3 #[.slice A n c, .slice A2 n2 c2] w fun e w' => e = .returned (.bool true) ∧ Below w.heap.size w w' := by
  have d1 : decide ((200 : Int) < n) = false := decide_eq_false (by omega)
  have d2 : decide ((200 : Int) < n2) = false := decide_eq_false (by omega)
  have HL := Lib.hid hL
  have HLen := Lib.hid hL.len
  have HSS := Lib.hid (And.intro hS (And.intro hsl hsb))
  clear hL hS hsl hsb
  go_enter Try.func3, Try.ntmps3
  go_wp2_with fail
  refine (qnew_any 1048576 w (by omega) (by omega)).mono ?_
  rintro e w1 ⟨g, bm, rfl, q1, hg, hbm, hb1⟩
  have H1 := Lib.hid (And.intro q1 (And.intro hg (And.intro hbm hb1)))
  clear q1 hg hbm hb1
  go_wp2_with fail
  refine (qnew_any 1048576 w1 (by omega) (by omega)).mono ?_
  rintro e w2 ⟨g2, bm2, rfl, q2, hg2, hbm2, hb2⟩
  have T0 : Hid (Two w w2 (fun i => i = g ∨ i = bm) (fun i => i = g2 ∨ i = bm2) g bm g2 bm2 [] []) := by
    have e1 := H1.out.1.lim g (.inl rfl)
    have e2 := H1.out.1.lim bm (.inr rfl)
    have e3 := H1.out.2.2.2.size
    have e4 := H1.out.2.1
    have e5 := H1.out.2.2.1
    refine Lib.hid ⟨H1.out.1.later hb2, q2, QI.nil, QI.nil, fun i h h' => ?_, fun i h => ?_, fun i h => ?_, below_then H1.out.2.2.2 hb2⟩
    · rcases h with rfl | rfl <;> rcases h' with h' | h' <;> omega
    · rcases h with rfl | rfl <;> omega
    · rcases h with rfl | rfl <;> omega
  clear q2 hg2 hbm2 hb2
  go_wp2_with fail
  clear d1 d2
  go_loopw [7] (Q1 w L g bm g2 bm2) (fun t _ => n - (intOf t).toNat)
  case atStart => exact ⟨⟨0, _, _, [], rfl, Nat.zero_le _, T0, Lib.hid fun x => ⟨fun h => by simp at h, fun ⟨p, o, h, _⟩ => by omega⟩, Lib.hid rfl, Lib.hid fun p q o o' h => by omega⟩⟩
  case round =>
    clear T0
    obtain ⟨⟨j, F, F2, l, rfl, hjn, HT, HM, HLl, HD⟩⟩ := hrel
    rw [HLen.out] at hjn
    generalize wr = wj at *
    by_cases hlt : j < n
    · have hltI : (j : Int) < n := by omega
      obtain ⟨ad, oj, hA, hoj, hok, hat⟩ := (HL.out.later HT.out.below).at_ hlt
      subst hA
      have HJ := Lib.hid (And.intro hoj (And.intro hok hat))
      clear hoj hok hat
      go_wp2_with fail
      go_loopw [8, 9] (Q1i wj L j oj.x) (fun _ t _ => j - (intOf t).toNat)
      case atStart => exact ⟨⟨0, false, rfl, rfl, Nat.zero_le _, Lib.hid fun _ q o h => by omega⟩, Lib.hid (Below.refl _ _)⟩
      case round =>
        obtain ⟨⟨p, b, rfl, rfl, hpj, hno⟩, hbk⟩ := hrel
        by_cases hpl : p < j
        · have hplI : (p : Int) < j := by omega
          have hpn : p < n := by omega
          obtain ⟨ad', op, hA', hop, hokp, hatp⟩ := (HL.out.later (below_then HT.out.below hbk.out)).at_ hpn
          injection hA' with hA'
          subst hA'
          have HP := Lib.hid (And.intro hop hatp)
          have HS : Hid ((fun W : World => Op2 W (ad.add (p * 4)) (ad.add (j * 4)) op oj) wr.drew) := Lib.hid ⟨hatp, HJ.out.2.2.later hbk.out.drew⟩
          have hbk2 : Hid (Below wj.heap.size wj wr.drew) := hbk.out.drew
          clear hop hokp hatp
          go_wp2_with fail
          cases b
          · refine wp_region_s (fun W : World => Op2 W (ad.add (p * 4)) (ad.add (j * 4)) op oj) [(0, true), (1, true), (2, true), (3, true), (4, true), (5, true), (7, true), (8, true), (9, true), (10, true), (6, true), (11, true), (12, true), (13, true), (14, true)] (by kernel_rfl) (fun _ d _ _ _ h => by cases d <;> exact h) ?_
            simp only [List.map_cons, List.map_nil, nthOp_zero, nthOp_succ]
            generalize wr.drew = w3 at *
            refine wpS_take HS (by kernel_rfl) (by intro W hW; clear hW; go_simp; try with_reducible rfl) ?_
            refine wpS_take HS (by kernel_rfl) (by intro W hW; clear hW; go_simp; try with_reducible rfl) ?_
            refine wpS_take HS (by kernel_rfl) (by intro W hW; clear hW; go_simp; try with_reducible rfl) ?_
            refine wpS_take HS (by kernel_rfl) (by intro W hW; clear hW; go_simp; try with_reducible rfl) ?_
            refine wpS_take HS (by kernel_rfl) (by intro W hW; clear hW; go_simp; try with_reducible rfl) ?_
            go_simp
            refine wpS_take HS (by kernel_rfl) (by intro W hW; clear hW; go_simp; try with_reducible rfl) ?_
            refine wpS_take HS (by kernel_rfl) (by intro W hW; clear hW; go_simp; try with_reducible rfl) ?_
            refine wpS_take HS (by kernel_rfl) (by intro W hW; clear hW; go_simp; try with_reducible rfl) ?_
            refine wpS_take HS (by kernel_rfl) (by intro W hW; clear hW; go_simp; try with_reducible rfl) ?_
            refine wpS_take HS (by kernel_rfl) (by intro W hW; clear hW; go_simp; try with_reducible rfl) ?_
            go_simp
            refine wpS_take HS (by kernel_rfl) (by intro W hW; obtain ⟨⟨c1, c2, c3⟩, d1, d2, d3⟩ := hW; go_simp; try with_reducible rfl) ?_
            refine wpS_take HS (by kernel_rfl) (by intro W hW; obtain ⟨⟨c1, c2, c3⟩, d1, d2, d3⟩ := hW; go_simp; try with_reducible rfl) ?_
            go_simp
            refine wpS_take HS (by kernel_rfl) (by intro W hW; clear hW; go_simp; try with_reducible rfl) ?_
            by_cases hx : op.x = oj.x
            · have hbx : (op.x == oj.x) = true := by rw [beq_iff_eq]; exact hx
              clear hx
              go_simp
              refine wpS_take HS (by kernel_rfl) (by intro W hW; clear hW; go_simp; try with_reducible rfl) ?_
              refine wpS_take HS (by kernel_rfl) (by intro W hW; clear hW; go_simp; try with_reducible rfl) ?_
              go_simp
              refine wpS_nil ?_
              go_simp
              go_wp2_with fail
              go_roundw
              case rel => exact ⟨⟨p + 1, true, rfl, by go_num, by omega, Lib.hid (fun h => by cases h)⟩, hbk2⟩
              case measure => simp [intOf]; omega
            · have hbx : (op.x == oj.x) = false := by rw [beq_eq_false_iff_ne]; exact hx
              have HX := Lib.hid hx
              clear hx
              go_simp
              refine wpS_take HS (by kernel_rfl) (by intro W hW; clear hW; go_simp; try with_reducible rfl) ?_
              refine wpS_take HS (by kernel_rfl) (by intro W hW; clear hW; go_simp; try with_reducible rfl) ?_
              go_simp
              refine wpS_nil ?_
              go_simp
              go_wp2_with fail
              go_roundw
              case rel => exact ⟨⟨p + 1, false, rfl, by go_num, by omega, Lib.hid (fun _ q o hq ho => by
                                by_cases hqp : q < p
                                · exact hno.out rfl q o hqp ho
                                · obtain rfl : q = p := by omega
                                  rw [HP.out.1] at ho
                                  injection ho with ho
                                  rw [← ho]; exact HX.out)⟩, hbk2⟩
              case measure => simp [intOf]; omega
          · refine wp_region_s (fun W : World => Op2 W (ad.add (p * 4)) (ad.add (j * 4)) op oj) [(0, true), (1, true), (2, true), (3, true), (4, true), (5, true), (7, true), (8, true), (9, true), (10, true), (6, true), (11, true), (12, true), (13, true), (14, true)] (by kernel_rfl) (fun _ d _ _ _ h => by cases d <;> exact h) ?_
            simp only [List.map_cons, List.map_nil, nthOp_zero, nthOp_succ]
            generalize wr.drew = w3 at *
            refine wpS_take HS (by kernel_rfl) (by intro W hW; clear hW; go_simp; try with_reducible rfl) ?_
            refine wpS_take HS (by kernel_rfl) (by intro W hW; clear hW; go_simp; try with_reducible rfl) ?_
            go_simp
            refine wpS_skip HS (by kernel_rfl) ?_
            refine wpS_skip HS (by kernel_rfl) ?_
            refine wpS_skip HS (by kernel_rfl) ?_
            refine wpS_skip HS (by kernel_rfl) ?_
            refine wpS_skip HS (by kernel_rfl) ?_
            refine wpS_skip HS (by kernel_rfl) ?_
            refine wpS_skip HS (by kernel_rfl) ?_
            refine wpS_skip HS (by kernel_rfl) ?_
            refine wpS_skip HS (by kernel_rfl) ?_
            refine wpS_skip HS (by kernel_rfl) ?_
            refine wpS_skip HS (by kernel_rfl) ?_
            go_simp
            refine wpS_take HS (by kernel_rfl) (by intro W hW; clear hW; go_simp; try with_reducible rfl) ?_
            refine wpS_take HS (by kernel_rfl) (by intro W hW; clear hW; go_simp; try with_reducible rfl) ?_
            go_simp
            refine wpS_nil ?_
            go_simp
            go_wp2_with fail
            go_roundw
            case rel => exact ⟨⟨p + 1, true, rfl, by go_num, by omega, Lib.hid (fun h => by cases h)⟩, hbk2⟩
            case measure => simp [intOf]; omega
        · obtain rfl : p = j := by omega
          cases b
          · have HB2 := Lib.hid (below_then HT.out.below hbk.out)
            have HT2 := Lib.hid (HT.out.later hbk.out)
            have HAt := Lib.hid (HJ.out.2.2.later hbk.out)
            have hnx : posL l oj.x = none := posL_none.2 (fun x hx => by
              obtain ⟨p', o, h1, h2, h3⟩ := (HM.out x).1 hx
              rw [h3]
              exact hno.out rfl p' o h1 h2)
            have HNX := Lib.hid hnx
            clear hnx
            have HS : Hid ((fun W : World => OpAt W (ad.add (p * 4)) oj) wr.drew) := Lib.hid HAt.out
            have HT3 : Hid (Two w wr.drew F F2 g bm g2 bm2 l []) := Lib.hid (HT2.out.later (Below.refl _ _).drew)
            go_wp2_with fail
            refine wp_region_s (fun W : World => OpAt W (ad.add (p * 4)) oj) [(0, true), (1, true), (2, true), (3, true), (4, true), (6, true), (7, true), (8, true), (9, true), (11, true), (12, true), (13, true), (14, true), (5, true), (10, true), (15, true), (16, false), (17, true)] (by kernel_rfl) (fun _ d _ _ _ h => by cases d <;> exact h) ?_
            simp only [List.map_cons, List.map_nil, nthOp_zero, nthOp_succ]
            generalize wr.drew = w3 at *
            refine wpS_take HS (by kernel_rfl) (by intro W hW; clear hW; go_simp; try with_reducible rfl) ?_
            refine wpS_take HS (by kernel_rfl) (by intro W hW; clear hW; go_simp; try with_reducible rfl) ?_
            refine wpS_take HS (by kernel_rfl) (by intro W hW; clear hW; go_simp; try with_reducible rfl) ?_
            refine wpS_take HS (by kernel_rfl) (by intro W hW; clear hW; go_simp; try with_reducible rfl) ?_
            refine wpS_take HS (by kernel_rfl) (by intro W hW; clear hW; go_simp; try with_reducible rfl) ?_
            refine wpS_take HS (by kernel_rfl) (by intro W hW; clear hW; go_simp; try with_reducible rfl) ?_
            go_simp
            refine wpS_take HS (by kernel_rfl) (by intro W hW; clear hW; go_simp; try with_reducible rfl) ?_
            refine wpS_take HS (by kernel_rfl) (by intro W hW; clear hW; go_simp; try with_reducible rfl) ?_
            refine wpS_take HS (by kernel_rfl) (by intro W hW; clear hW; go_simp; try with_reducible rfl) ?_
            refine wpS_take HS (by kernel_rfl) (by intro W hW; clear hW; go_simp; try with_reducible rfl) ?_
            refine wpS_take HS (by kernel_rfl) (by intro W hW; clear hW; go_simp; try with_reducible rfl) ?_
            refine wpS_take HS (by kernel_rfl) (by intro W hW; clear hW; go_simp; try with_reducible rfl) ?_
            go_simp
            refine wpS_take HS (by kernel_rfl) (by intro W hW; clear hW; go_simp; try with_reducible rfl) ?_
            refine wpS_take HS (by kernel_rfl) (by intro W hW; obtain ⟨c1, c2, c3⟩ := hW; go_simp; try with_reducible rfl) ?_
            refine wpS_take HS (by kernel_rfl) (by intro W hW; obtain ⟨c1, c2, c3⟩ := hW; go_simp; try with_reducible rfl) ?_
            refine wpS_take HS (by kernel_rfl) (by intro W hW; obtain ⟨c1, c2, c3⟩ := hW; go_simp; try with_reducible rfl) ?_
            refine wpS_do fun K hK => ?_
            go_simp
            go_wp2_with fail
            refine (put_new w3 F g bm 1048576 l HT3.out.q (by omega) oj.a oj.r oj.x HJ.out.2.1.e HNX.out (by have := HLl.out; omega)).mono ?_
            rintro e w4 ⟨rfl, F4, q4, g4, k4⟩
            have H4 : Hid (Two w w4 F4 F2 g bm g2 bm2 (pushL l oj.e) []) := Lib.hid (HT3.out.stepq q4 (push_facts HT3.out.qi HNX.out).1 g4 k4)
            have HS4 : Hid ((fun W : World => OpAt W (ad.add (p * 4)) oj) w4) := Lib.hid ((HL.out.later H4.out.below).at2 HJ.out.1 rfl)
            clear q4 g4 k4
            go_wp2_with fail
            refine hK.out _ _ HS4.out ?_
            clear hK K
            refine wpS_take HS4 (by kernel_rfl) (by intro W hW; clear hW; go_simp; try with_reducible rfl) ?_
            go_simp
            refine wpS_nil ?_
            go_simp
            go_wp2_with fail
            go_roundw
            case rel =>
              have hoo : l.length = p := HLl.out
              have pf := push_facts HT3.out.qi (e := oj.e) HNX.out
              refine ⟨⟨p + 1, F4, F2, pushL l oj.e, by go_num, by rw [HLen.out]; omega, H4, Lib.hid fun x => ?_, Lib.hid (by rw [pf.2.2]; omega), Lib.hid fun a b o o' ha hb ho ho' he => ?_⟩⟩
              · rw [pf.2.1, HM.out]
                constructor
                · rintro (⟨a, o, h1, h2, h3⟩ | rfl)
                  · exact ⟨a, o, by omega, h2, h3⟩
                  · exact ⟨p, oj, by omega, HJ.out.1, rfl⟩
                · rintro ⟨a, o, h1, h2, h3⟩
                  by_cases hap : a < p
                  · exact .inl ⟨a, o, hap, h2, h3⟩
                  · obtain rfl : a = p := by omega
                    rw [HJ.out.1] at h2
                    injection h2 with h2
                    exact .inr (by rw [h3, h2])
              · by_cases h1 : a < p <;> by_cases h2 : b < p
                · exact HD.out a b o o' h1 h2 ho ho' he
                · obtain rfl : b = p := by omega
                  rw [HJ.out.1] at ho'
                  injection ho' with ho'
                  exact absurd (by rw [he, ho']) (hno.out trivial a o h1 ho)
                · obtain rfl : a = p := by omega
                  rw [HJ.out.1] at ho
                  injection ho with ho
                  exact absurd (by rw [← he, ho]) (hno.out trivial b o' h2 ho')
                · omega
            case measure => simp [intOf]; omega
          · have HB2 := Lib.hid (below_then HT.out.below hbk.out)
            go_wp2_with (go_at_call 8; refine (lives_any _).mono ?_; rintro e w6 ⟨rfl, hb⟩; have H6 := Lib.hid hb; clear hb)
            go_ret
            exact ⟨rfl, below_then HB2.out H6.out⟩
    · obtain rfl : j = n := by omega
      clear hlt
      have hj0 : (0 : Int) ≤ j := by omega
      have hwj : IntKind.i64.wrap ((j : Int) - 1) = j - 1 := by rw [IntKind.wrap_i64]; omega
      go_wp2_with fail
      clear hwj
      go_loopw [10] (Q2 w L F l g bm g2 bm2) (fun t _ => (intOf t + 1).toNat)
      case atStart => exact ⟨⟨j, _, F2, [], rfl, rfl, by rw [HLen.out]; exact Nat.le_refl _, HT, Lib.hid fun x => ⟨fun h => by simp at h, fun ⟨p, o, h1, h2, _⟩ => by have := (List.getElem?_eq_some_iff.1 h2).1; rw [HLen.out] at this; omega⟩, Lib.hid (by rw [HLen.out]; simp)⟩⟩
      case round =>
        clear HT
        obtain ⟨⟨m, z, F3, l2, rfl, hz, hmn, HT, HM2, HLl2⟩⟩ := hrel
        rw [HLen.out] at hmn
        cases m with
        | succ k =>
          obtain rfl : z = k := by omega
          clear hz
          have hkn : k < j := by omega
          obtain ⟨ad, ok, hA, hok1, hok2, hat⟩ := (HL.out.later HT.out.below).at_ hkn
          subst hA
          have HJ := Lib.hid (And.intro hok1 (And.intro hok2 hat))
          have hnx : posL l2 ok.x = none := posL_none.2 (fun x hx => by
            obtain ⟨p', o, h1, h2, h3⟩ := (HM2.out x).1 hx
            rw [h3]
            intro he
            have := HD.out p' k o ok (by have := (List.getElem?_eq_some_iff.1 h2).1; rw [HLen.out] at this; exact this) hkn h2 hok1 he
            omega)
          have HNX := Lib.hid hnx
          clear hnx hok1 hok2 hat
          have HS : Hid ((fun W : World => OpAt W (ad.add (k * 4)) ok) wr.drew) := Lib.hid HJ.out.2.2
          have HT3 : Hid (Two w wr.drew F F3 g bm g2 bm2 l l2) := Lib.hid (HT.out.later (Below.refl _ _).drew)
          have hk0 : (0 : Int) ≤ k := by omega
          have hwt : IntKind.i64.wrap (ok.a.tdiv 2) = ok.a.tdiv 2 := by have := tdiv_half HJ.out.2.1.a; rw [IntKind.wrap_i64]; omega
          have hwk : IntKind.i64.wrap ((k : Int) - 1) = k - 1 := by rw [IntKind.wrap_i64]; omega
          go_wp2_with fail
          refine wp_region_s (fun W : World => OpAt W (ad.add (k * 4)) ok) [(0, true), (1, true), (2, true), (3, true), (4, true), (7, true), (8, true), (9, true), (10, true), (12, true), (13, true), (14, true), (15, true), (5, true), (6, true), (11, true), (16, true), (17, false)] (by kernel_rfl) (fun _ d _ _ _ h => by cases d <;> exact h) ?_
          simp only [List.map_cons, List.map_nil, nthOp_zero, nthOp_succ]
          generalize wr.drew = w3 at *
          refine wpS_take HS (by kernel_rfl) (by intro W hW; clear hW; go_simp; try with_reducible rfl) ?_
          refine wpS_take HS (by kernel_rfl) (by intro W hW; clear hW; go_simp; try with_reducible rfl) ?_
          refine wpS_take HS (by kernel_rfl) (by intro W hW; clear hW; go_simp; try with_reducible rfl) ?_
          refine wpS_take HS (by kernel_rfl) (by intro W hW; clear hW; go_simp; try with_reducible rfl) ?_
          refine wpS_take HS (by kernel_rfl) (by intro W hW; clear hW; go_simp; try with_reducible rfl) ?_
          refine wpS_take HS (by kernel_rfl) (by intro W hW; clear hW; go_simp; try with_reducible rfl) ?_
          go_simp
          refine wpS_take HS (by kernel_rfl) (by intro W hW; clear hW; go_simp; try with_reducible rfl) ?_
          refine wpS_take HS (by kernel_rfl) (by intro W hW; clear hW; go_simp; try with_reducible rfl) ?_
          refine wpS_take HS (by kernel_rfl) (by intro W hW; clear hW; go_simp; try with_reducible rfl) ?_
          refine wpS_take HS (by kernel_rfl) (by intro W hW; clear hW; go_simp; try with_reducible rfl) ?_
          refine wpS_take HS (by kernel_rfl) (by intro W hW; clear hW; go_simp; try with_reducible rfl) ?_
          refine wpS_take HS (by kernel_rfl) (by intro W hW; clear hW; go_simp; try with_reducible rfl) ?_
          go_simp
          refine wpS_take HS (by kernel_rfl) (by intro W hW; clear hW; go_simp; try with_reducible rfl) ?_
          refine wpS_take HS (by kernel_rfl) (by intro W hW; obtain ⟨c1, c2, c3⟩ := hW; go_simp; try with_reducible rfl) ?_
          refine wpS_take HS (by kernel_rfl) (by intro W hW; clear hW; go_simp; try with_reducible rfl) ?_
          refine wpS_take HS (by kernel_rfl) (by intro W hW; obtain ⟨c1, c2, c3⟩ := hW; go_simp; try with_reducible rfl) ?_
          refine wpS_take HS (by kernel_rfl) (by intro W hW; obtain ⟨c1, c2, c3⟩ := hW; go_simp; try with_reducible rfl) ?_
          refine wpS_do fun K hK => ?_
          go_simp
          go_wp2_with fail
          refine (put_new w3 F3 g2 bm2 1048576 l2 HT3.out.r (by omega) (ok.a.tdiv 2) ok.r ok.x HJ.out.2.1.half HNX.out (by have := HLl2.out; have h2 := HLen.out; omega)).mono ?_
          rintro e w4 ⟨rfl, F4, q4, g4, k4⟩
          have H4 : Hid (Two w w4 F F4 g bm g2 bm2 l (pushL l2 ok.half)) := Lib.hid (HT3.out.stepr q4 (push_facts HT3.out.ri HNX.out).1 g4 k4)
          have HS4 : Hid ((fun W : World => OpAt W (ad.add (k * 4)) ok) w4) := Lib.hid ((HL.out.later H4.out.below).at2 HJ.out.1 rfl)
          clear q4 g4 k4
          go_wp2_with fail
          refine hK.out _ _ HS4.out ?_
          clear hK K
          go_simp
          refine wpS_nil ?_
          go_simp
          go_wp2_with fail
          go_roundw
          case rel =>
            have pf := push_facts HT3.out.ri (e := ok.half) HNX.out
            refine ⟨⟨k, _, F4, pushL l2 ok.half, rfl, rfl, by rw [HLen.out]; omega, H4, Lib.hid fun x => ?_, Lib.hid (by rw [pf.2.2]; have := HLl2.out; omega)⟩⟩
            rw [pf.2.1, HM2.out]
            constructor
            · rintro (⟨a, o, h1, h2, h3⟩ | rfl)
              · exact ⟨a, o, by omega, h2, h3⟩
              · exact ⟨k, ok, Nat.le_refl _, HJ.out.1, rfl⟩
            · rintro ⟨a, o, h1, h2, h3⟩
              by_cases hap : k + 1 ≤ a
              · exact .inl ⟨a, o, hap, h2, h3⟩
              · obtain rfl : a = k := by omega
                rw [HJ.out.1] at h2
                injection h2 with h2
                exact .inr (by rw [h3, h2])
          case measure => simp [intOf] <;> omega
        | zero =>
          obtain rfl : z = -1 := by omega
          clear hz hmn
          have hwj : IntKind.i64.wrap ((j : Int) - 1) = j - 1 := by rw [IntKind.wrap_i64]; omega
          go_wp2_with fail
          clear hwj
          go_loopw [11] (Q3 w L F F3 l g bm g2 bm2) (fun t _ => (intOf t + 1).toNat)
          case atStart => exact ⟨⟨j, _, l2, rfl, rfl, by rw [HLen.out]; exact Nat.le_refl _, HT, Lib.hid fun x => by
            rw [HM2.out]
            constructor
            · rintro ⟨p, o, _, h2, h3⟩
              exact ⟨p, o, h2, .inr ⟨by have := (List.getElem?_eq_some_iff.1 h2).1; rw [HLen.out] at this; exact this, h3⟩⟩
            · rintro ⟨p, o, h2, h3 | h3⟩
              · have := (List.getElem?_eq_some_iff.1 h2).1; rw [HLen.out] at this; omega
              · exact ⟨p, o, Nat.zero_le _, h2, h3.2⟩⟩⟩
          case round =>
            clear HT HM2 HLl2
            obtain ⟨⟨m, z, l2, rfl, hz, hmn, HT, HM3⟩⟩ := hrel
            rw [HLen.out] at hmn
            cases m with
            | succ k =>
              obtain rfl : z = k := by omega
              clear hz
              have hkn : k < j := by omega
              obtain ⟨ad, ok, hA, hok1, hok2, hat⟩ := (HL.out.later HT.out.below).at_ hkn
              subst hA
              have HJ := Lib.hid (And.intro hok1 (And.intro hok2 hat))
              obtain ⟨i0, hi0⟩ := List.getElem?_of_mem ((HM3.out ok.half).2 ⟨k, ok, hok1, .inr ⟨Nat.lt_succ_self k, rfl⟩⟩)
              have HP : Hid (posL l2 ok.x = some i0) := Lib.hid ((posL_some HT.out.ri.dist).2 ⟨_, hi0, rfl⟩)
              have HI := Lib.hid hi0
              clear hok1 hok2 hat hi0
              have HS : Hid ((fun W : World => OpAt W (ad.add (k * 4)) ok) wr.drew) := Lib.hid HJ.out.2.2
              have HT3 : Hid (Two w wr.drew F F3 g bm g2 bm2 l l2) := Lib.hid (HT.out.later (Below.refl _ _).drew)
              have hk0 : (0 : Int) ≤ k := by omega
              have hwk : IntKind.i64.wrap ((k : Int) - 1) = k - 1 := by rw [IntKind.wrap_i64]; omega
              go_wp2_with fail
              refine wp_region_s (fun W : World => OpAt W (ad.add (k * 4)) ok) [(0, true), (1, true), (2, true), (3, true), (4, true), (6, true), (7, true), (8, true), (9, true), (11, true), (12, true), (13, true), (14, true), (5, true), (10, true), (15, true), (16, false), (17, true)] (by kernel_rfl) (fun _ d _ _ _ h => by cases d <;> exact h) ?_
              simp only [List.map_cons, List.map_nil, nthOp_zero, nthOp_succ]
              generalize wr.drew = w3 at *
              refine wpS_take HS (by kernel_rfl) (by intro W hW; clear hW; go_simp; try with_reducible rfl) ?_
              refine wpS_take HS (by kernel_rfl) (by intro W hW; clear hW; go_simp; try with_reducible rfl) ?_
              refine wpS_take HS (by kernel_rfl) (by intro W hW; clear hW; go_simp; try with_reducible rfl) ?_
              refine wpS_take HS (by kernel_rfl) (by intro W hW; clear hW; go_simp; try with_reducible rfl) ?_
              refine wpS_take HS (by kernel_rfl) (by intro W hW; clear hW; go_simp; try with_reducible rfl) ?_
              refine wpS_take HS (by kernel_rfl) (by intro W hW; clear hW; go_simp; try with_reducible rfl) ?_
              go_simp
              refine wpS_take HS (by kernel_rfl) (by intro W hW; clear hW; go_simp; try with_reducible rfl) ?_
              refine wpS_take HS (by kernel_rfl) (by intro W hW; clear hW; go_simp; try with_reducible rfl) ?_
              refine wpS_take HS (by kernel_rfl) (by intro W hW; clear hW; go_simp; try with_reducible rfl) ?_
              refine wpS_take HS (by kernel_rfl) (by intro W hW; clear hW; go_simp; try with_reducible rfl) ?_
              refine wpS_take HS (by kernel_rfl) (by intro W hW; clear hW; go_simp; try with_reducible rfl) ?_
              refine wpS_take HS (by kernel_rfl) (by intro W hW; clear hW; go_simp; try with_reducible rfl) ?_
              go_simp
              refine wpS_take HS (by kernel_rfl) (by intro W hW; clear hW; go_simp; try with_reducible rfl) ?_
              refine wpS_take HS (by kernel_rfl) (by intro W hW; obtain ⟨c1, c2, c3⟩ := hW; go_simp; try with_reducible rfl) ?_
              refine wpS_take HS (by kernel_rfl) (by intro W hW; obtain ⟨c1, c2, c3⟩ := hW; go_simp; try with_reducible rfl) ?_
              refine wpS_take HS (by kernel_rfl) (by intro W hW; obtain ⟨c1, c2, c3⟩ := hW; go_simp; try with_reducible rfl) ?_
              refine wpS_do fun K hK => ?_
              go_simp
              go_wp2_with fail
              refine (put_old w3 F3 g2 bm2 1048576 l2 HT3.out.r (by omega) ok.a ok.r ok.x HJ.out.2.1.e i0 HP.out).mono ?_
              rintro e w4 ⟨rfl, q4, k4⟩
              have H4 : Hid (Two w w4 F F3 g bm g2 bm2 l (fixL (l2.set i0 ok.e) i0)) := Lib.hid (HT3.out.stepr q4 (fix_facts HT3.out.ri HI.out ok.a ok.r).1 (Grew.refl _ _) k4)
              have HS4 : Hid ((fun W : World => OpAt W (ad.add (k * 4)) ok) w4) := Lib.hid ((HL.out.later H4.out.below).at2 HJ.out.1 rfl)
              clear q4 k4
              go_wp2_with fail
              refine hK.out _ _ HS4.out ?_
              clear hK K
              refine wpS_take HS4 (by kernel_rfl) (by intro W hW; clear hW; go_simp; try with_reducible rfl) ?_
              go_simp
              refine wpS_nil ?_
              go_simp
              go_wp2_with fail
              go_roundw
              case rel =>
                have ff := fix_facts HT3.out.ri HI.out ok.a ok.r
                refine ⟨⟨k, _, fixL (l2.set i0 ok.e) i0, rfl, rfl, by rw [HLen.out]; omega, H4, Lib.hid fun x => ?_⟩⟩
                rw [ff.2.1, HM3.out]
                constructor
                · rintro (rfl | ⟨⟨a, o, h2, h3 | h3⟩, hne⟩)
                  · exact ⟨k, ok, HJ.out.1, .inl ⟨Nat.le_refl _, rfl⟩⟩
                  · exact ⟨a, o, h2, .inl ⟨by omega, h3.2⟩⟩
                  · refine ⟨a, o, h2, .inr ⟨?_, h3.2⟩⟩
                    by_cases hak : a = k
                    · subst hak
                      rw [HJ.out.1] at h2
                      injection h2 with h2
                      exact absurd (by rw [h3.2, h2]) hne
                    · omega
                · rintro ⟨a, o, h2, h3 | h3⟩
                  · by_cases hak : a = k
                    · subst hak
                      rw [HJ.out.1] at h2
                      injection h2 with h2
                      exact .inl (by rw [h3.2, h2])
                    · have hal := (List.getElem?_eq_some_iff.1 h2).1
                      rw [HLen.out] at hal
                      refine .inr ⟨⟨a, o, h2, .inl ⟨by omega, h3.2⟩⟩, fun he => hak (HD.out a k o ok hal hkn h2 HJ.out.1 ?_)⟩
                      rw [h3.2] at he; exact he
                  · have hal : a < j := by omega
                    refine .inr ⟨⟨a, o, h2, .inr ⟨by omega, h3.2⟩⟩, fun he => ?_⟩
                    have := HD.out a k o ok hal hkn h2 HJ.out.1 (by rw [h3.2] at he; exact he)
                    omega
              case measure => simp [intOf] <;> omega
            | zero =>
              obtain rfl : z = -1 := by omega
              clear hz hmn
              have hsame : Hid (∀ x, x ∈ l ↔ x ∈ l2) := Lib.hid fun x => by
                rw [HM.out, HM3.out]
                constructor
                · rintro ⟨p, o, _, h2, h3⟩
                  exact ⟨p, o, h2, .inl ⟨Nat.zero_le _, h3⟩⟩
                · rintro ⟨p, o, h2, h3 | h3⟩
                  · exact ⟨p, o, by have := (List.getElem?_eq_some_iff.1 h2).1; rw [HLen.out] at this; exact this, h2, h3.2⟩
                  · omega
              have hll : l.length = j := HLl.out
              have HT5 : Hid (Two w (wr.alloc (.cells #[.int .i64 (-9223372036854775808), .int .i64 0, .int .u64 0] 32)) F F3 g bm g2 bm2 l l2 ∧ Blk (wr.alloc (.cells #[.int .i64 (-9223372036854775808), .int .i64 0, .int .u64 0] 32)) wr.heap.size 32 #[.int .i64 (-9223372036854775808), .int .i64 0, .int .u64 0]) := Lib.hid ⟨HT.out.later ((Below.refl _ _).alloc (Nat.le_refl _) _), Blk.new _ _ _⟩
              have HGL : Hid ((∀ i, F i → i ≠ wr.heap.size) ∧ (∀ i, F3 i → i ≠ wr.heap.size) ∧ w.heap.size ≤ wr.heap.size) := Lib.hid ⟨fun i hi => Nat.ne_of_lt (HT.out.q.lim i hi), fun i hi => Nat.ne_of_lt (HT.out.r.lim i hi), HT.out.below.size⟩
              go_wp2_with (refine wpList_store_row rfl 32 _ _ rfl wr.heap.size #[.int .i64 (-9223372036854775808), .int .i64 0, .int .u64 0] rfl rfl 32 _ (heap_alloc_new wr _) info_ent rfl (by simp [Value.oneCell']) ?_; rw [World.setRow_alloc_new])
              generalize wr.alloc (.cells #[.int .i64 (-9223372036854775808), .int .i64 0, .int .u64 0] 32) = w5 at *
              generalize wr.heap.size = gl at *
              clear HM3 HM HLl HD H1 HT wj
              go_loopw [12, 14, 15] (Q4 w F F3 g bm g2 bm2 gl j n2) (fun _ _ t _ => n2 - (intOf t).toNat)
              case atStart => exact ⟨⟨0, 0, 0, l, l2, ⟨-9223372036854775808, 0, 0⟩, rfl, rfl, rfl, Nat.zero_le _, by omega, by omega, Nat.le_refl _, Lib.hid HT5.out.1, hsame, by omega, Lib.hid HT5.out.2, Lib.hid fun h => absurd h (Nat.lt_irrefl 0)⟩⟩
              case round =>
                clear HT5 hsame hll
                obtain ⟨⟨s, cc, t, l, l2, z, rfl, rfl, rfl, hsn, ht0, ht1, hcs, HT, hsame, hlc, HZ, hord⟩⟩ := hrel
                by_cases hsl : s < n2
                · have hslI : (s : Int) < n2 := by omega
                  obtain ⟨ad2, sv, hA2, had2, hsv, hsc, _⟩ := rowG_at (cs := fun b => [Value.int .u16 b]) (k := 1) (fun _ => rfl) ((HSS.out.1.below HT.out.below).more HT.out.below.size) HSS.out.2.1 hsl
                  subst hA2
                  have c20 := hsc _ rfl
                  rw [Nat.mul_one] at c20
                  obtain ⟨sb0, sb1⟩ := HSS.out.2.2 sv (List.mem_of_getElem? hsv)
                  have ht2 : t ≤ 13107000 := by omega
                  clear hsc hsv
                  go_wp2_with fail
                  refine (take_all wr F g bm (t + sv) l HT.out.q).mono ?_
                  rintro e wA ⟨x, b, l', rfl, qA, hA, kA⟩
                  have HK := Lib.hid hA
                  have TA := Lib.hid (HT.out.stepq qA (hA.qi HT.out.qi) (Grew.refl _ _) kA)
                  have ZA := Lib.hid (HZ.out.kept kA (fun h => HGL.out.1 gl h rfl))
                  clear qA hA kA c20
                  have hbB : Below wA.heap.size wA (wA.alloc (.cells #[.int .i64 x.at_, .int .i64 x.rank, .int .u64 x.what] 32)) := (Below.refl _ _).alloc (Nat.le_refl _) _
                  have TB := Lib.hid (TA.out.later hbB)
                  have ZB := Lib.hid (ZA.out.later hbB)
                  have XB := Lib.hid (Blk.new wA 32 #[.int .i64 x.at_, .int .i64 x.rank, .int .u64 x.what])
                  have HGX : Hid (∀ i, F3 i → i ≠ wA.heap.size) := Lib.hid fun i hi => Nat.ne_of_lt (TA.out.r.lim i hi)
                  clear hbB TA ZA
                  go_wp2_with (refine wpList_store_row rfl 32 _ _ rfl wA.heap.size #[.int .i64 x.at_, .int .i64 x.rank, .int .u64 x.what] rfl rfl 32 _ (heap_alloc_new wA _) info_ent rfl (by simp [Value.oneCell']) ?_; rw [World.setRow_alloc_new])
                  generalize wA.alloc (.cells #[.int .i64 x.at_, .int .i64 x.rank, .int .u64 x.what] 32) = wB at *
                  generalize wA.heap.size = gx at *
                  refine (take_all wB F3 g2 bm2 (t + sv) l2 TB.out.r).mono ?_
                  rintro e wC ⟨y, d, l2', rfl, qC, hC, kC⟩
                  obtain ⟨rfl, rfl, hsm⟩ := tk_same HK.out hC HT.out.qi HT.out.ri hsame.out
                  have TC := Lib.hid (TB.out.stepr qC (hC.qi HT.out.ri) (Grew.refl _ _) kC)
                  have ZC := Lib.hid (ZB.out.kept kC (fun h => HGL.out.2.1 gl h rfl))
                  have XC := Lib.hid (XB.out.kept kC (fun h => HGX.out gx h rfl))
                  have HSM := Lib.hid hsm
                  clear qC hC kC hsm TB ZB XB
                  have hbD : Below wC.heap.size wC (wC.alloc (.cells #[.int .i64 x.at_, .int .i64 x.rank, .int .u64 x.what] 32)) := (Below.refl _ _).alloc (Nat.le_refl _) _
                  have TD := Lib.hid (TC.out.later hbD)
                  have ZD := Lib.hid (ZC.out.later hbD)
                  have XD := Lib.hid (XC.out.later hbD)
                  have YD := Lib.hid (Blk.new wC 32 #[.int .i64 x.at_, .int .i64 x.rank, .int .u64 x.what])
                  clear hbD TC ZC XC
                  have x0 : (wC.alloc (.cells #[.int .i64 x.at_, .int .i64 x.rank, .int .u64 x.what] 32)).cell? ⟨gx, 0, none⟩ = some (.int .i64 x.at_) := XD.out.cell 0
                  have x1 : (wC.alloc (.cells #[.int .i64 x.at_, .int .i64 x.rank, .int .u64 x.what] 32)).cell? ⟨gx, 1, none⟩ = some (.int .i64 x.rank) := XD.out.cell 1
                  have x2 : (wC.alloc (.cells #[.int .i64 x.at_, .int .i64 x.rank, .int .u64 x.what] 32)).cell? ⟨gx, 2, none⟩ = some (.int .u64 x.what) := XD.out.cell 2
                  have y0 : (wC.alloc (.cells #[.int .i64 x.at_, .int .i64 x.rank, .int .u64 x.what] 32)).cell? ⟨wC.heap.size, 0, none⟩ = some (.int .i64 x.at_) := YD.out.cell 0
                  have y1 : (wC.alloc (.cells #[.int .i64 x.at_, .int .i64 x.rank, .int .u64 x.what] 32)).cell? ⟨wC.heap.size, 1, none⟩ = some (.int .i64 x.rank) := YD.out.cell 1
                  have y2 : (wC.alloc (.cells #[.int .i64 x.at_, .int .i64 x.rank, .int .u64 x.what] 32)).cell? ⟨wC.heap.size, 2, none⟩ = some (.int .u64 x.what) := YD.out.cell 2
                  have z0 : (wC.alloc (.cells #[.int .i64 x.at_, .int .i64 x.rank, .int .u64 x.what] 32)).cell? ⟨gl, 0, none⟩ = some (.int .i64 z.at_) := ZD.out.cell 0
                  have z1 : (wC.alloc (.cells #[.int .i64 x.at_, .int .i64 x.rank, .int .u64 x.what] 32)).cell? ⟨gl, 1, none⟩ = some (.int .i64 z.rank) := ZD.out.cell 1
                  have hq1 := fun W => ent_neq_self x W
                  have hq2 : ∀ W, (Op.equalIn 10000 32 (.agg #[.int .i64 x.at_, .int .i64 x.rank, .int .u64 x.what]) (.agg #[.int .i64 x.at_, .int .i64 x.rank, .int .u64 x.what])).run Try.prog W = .ok true W := fun W => by rw [ent_eq]; simp
                  cases b
                  · have hno := HK.out.no rfl
                    obtain ⟨hx, hl', hlt⟩ := hno
                    have HLT := Lib.hid hlt
                    have HL' := Lib.hid hl'
                    clear hlt hx hl'
                    go_wp2_with fail
                    generalize (wC.alloc (.cells #[.int .i64 x.at_, .int .i64 x.rank, .int .u64 x.what] 32)) = wD at *
                    generalize wC.heap.size = gy at *
                    clear x0 x1 x2 y0 y1 y2 z0 z1
                    refine (next_all wD F g bm l' TD.out.q).mono ?_
                    rintro e wE ⟨nx, nb, rfl, hnx, hbE⟩
                    have hbF : Below wE.heap.size wE (wE.alloc (.cells #[.int .i64 nx.at_, .int .i64 nx.rank, .int .u64 nx.what] 32)) := (Below.refl _ _).alloc (Nat.le_refl _) _
                    have hbEF := below_then hbE hbF
                    have TF := Lib.hid (TD.out.later hbEF)
                    have ZF := Lib.hid (ZD.out.later hbEF)
                    have XF := Lib.hid (XD.out.later hbEF)
                    have NF := Lib.hid (Blk.new wE 32 #[.int .i64 nx.at_, .int .i64 nx.rank, .int .u64 nx.what])
                    have HNX := Lib.hid hnx
                    clear hbE hbF hbEF hnx TD ZD XD YD
                    have n0 : (wE.alloc (.cells #[.int .i64 nx.at_, .int .i64 nx.rank, .int .u64 nx.what] 32)).cell? ⟨wE.heap.size, 0, none⟩ = some (.int .i64 nx.at_) := NF.out.cell 0
                    have x0 : (wE.alloc (.cells #[.int .i64 nx.at_, .int .i64 nx.rank, .int .u64 nx.what] 32)).cell? ⟨gx, 0, none⟩ = some (.int .i64 x.at_) := XF.out.cell 0
                    have x1 : (wE.alloc (.cells #[.int .i64 nx.at_, .int .i64 nx.rank, .int .u64 nx.what] 32)).cell? ⟨gx, 1, none⟩ = some (.int .i64 x.rank) := XF.out.cell 1
                    have x2 : (wE.alloc (.cells #[.int .i64 nx.at_, .int .i64 nx.rank, .int .u64 nx.what] 32)).cell? ⟨gx, 2, none⟩ = some (.int .u64 x.what) := XF.out.cell 2
                    cases nb
                    · go_wp2_with fail
                      go_roundw
                      case rel => exact ⟨⟨s + 1, cc, t + sv, l', l2', z, rfl, rfl, by go_num, by omega, by omega, by omega, by omega, TF, HSM, by rw [HL'.out]; exact hlc, ZF, Lib.hid fun h y hy => hord.out h y (by rw [HL'.out] at hy; exact hy)⟩⟩
                      case measure => simp [intOf]; omega
                    · have hnt : decide (nx.at_ ≤ t + sv) = false := decide_eq_false (by
                        have h1 := HNX.out rfl
                        rw [HL'.out] at h1
                        have := HLT.out nx h1
                        omega)
                      go_wp2_with fail
                      go_roundw
                      case rel => exact ⟨⟨s + 1, cc, t + sv, l', l2', z, rfl, rfl, by go_num, by omega, by omega, by omega, by omega, TF, HSM, by rw [HL'.out]; exact hlc, ZF, Lib.hid fun h y hy => hord.out h y (by rw [HL'.out] at hy; exact hy)⟩⟩
                      case measure => simp [intOf]; omega
                  · have ho := tk_ord HK.out HT.out.qi
                    have hat : decide (t + sv < x.at_) = false := decide_eq_false (by have := ho.2.2.2; omega)
                    by_cases hc0 : cc = 0
                    · have hcd : decide ((0 : Int) < cc) = false := decide_eq_false (by omega)
                      clear ho
                      go_wp2_with fail
                      generalize (wC.alloc (.cells #[.int .i64 x.at_, .int .i64 x.rank, .int .u64 x.what] 32)) = wD at *
                      generalize wC.heap.size = gy at *
                      clear x0 x1 x2 y0 y1 y2 z0 z1 hat hcd
                      refine (next_all wD F g bm l' TD.out.q).mono ?_
                      rintro e wE ⟨nx, nb, rfl, hnx, hbE⟩
                      have hbF : Below wE.heap.size wE (wE.alloc (.cells #[.int .i64 nx.at_, .int .i64 nx.rank, .int .u64 nx.what] 32)) := (Below.refl _ _).alloc (Nat.le_refl _) _
                      have hbEF := below_then hbE hbF
                      have TF := Lib.hid (TD.out.later hbEF)
                      have ZF := Lib.hid (ZD.out.later hbEF)
                      have XF := Lib.hid (XD.out.later hbEF)
                      have NF := Lib.hid (Blk.new wE 32 #[.int .i64 nx.at_, .int .i64 nx.rank, .int .u64 nx.what])
                      have HNX := Lib.hid hnx
                      clear hbE hbF hbEF hnx TD ZD XD YD
                      have n0 : (wE.alloc (.cells #[.int .i64 nx.at_, .int .i64 nx.rank, .int .u64 nx.what] 32)).cell? ⟨wE.heap.size, 0, none⟩ = some (.int .i64 nx.at_) := NF.out.cell 0
                      have x0 : (wE.alloc (.cells #[.int .i64 nx.at_, .int .i64 nx.rank, .int .u64 nx.what] 32)).cell? ⟨gx, 0, none⟩ = some (.int .i64 x.at_) := XF.out.cell 0
                      have x1 : (wE.alloc (.cells #[.int .i64 nx.at_, .int .i64 nx.rank, .int .u64 nx.what] 32)).cell? ⟨gx, 1, none⟩ = some (.int .i64 x.rank) := XF.out.cell 1
                      have x2 : (wE.alloc (.cells #[.int .i64 nx.at_, .int .i64 nx.rank, .int .u64 nx.what] 32)).cell? ⟨gx, 2, none⟩ = some (.int .u64 x.what) := XF.out.cell 2
                      go_wp2_with (refine wpList_store_row rfl 32 _ _ rfl gl #[.int .i64 x.at_, .int .i64 x.rank, .int .u64 x.what] rfl rfl 32 _ ZF.out info_ent rfl (by simp [Value.oneCell']) ?_)
                      go_roundw
                      case rel =>
                        have ho := tk_ord HK.out HT.out.qi
                        have kz : Kept (fun i => i = gl) (wE.alloc (.cells #[.int .i64 nx.at_, .int .i64 nx.rank, .int .u64 nx.what] 32)) ((wE.alloc (.cells #[.int .i64 nx.at_, .int .i64 nx.rank, .int .u64 nx.what] 32)).setRow gl #[.int .i64 x.at_, .int .i64 x.rank, .int .u64 x.what]) := (Kept.of_grown (only_setRow _ gl _)).mono fun i _ e => by simpa using e.symm
                        exact ⟨⟨s + 1, cc + 1, t + sv, l', l2', x, rfl, by go_num, by go_num, by omega, by omega, by omega, by omega, Lib.hid (TF.out.keptAt kz (fun h => HGL.out.1 gl h rfl) (fun h => HGL.out.2.1 gl h rfl) HGL.out.2.2), HSM, by have := ho.2.1; omega, Lib.hid (ZF.out.setRow _), Lib.hid fun _ => ho.1⟩⟩
                      case measure => simp [intOf]; omega
                    · have hcd : decide ((0 : Int) < cc) = true := decide_eq_true (by omega)
                      have hcp : 0 < cc := by omega
                      have hle := hord.out (by omega) x ho.2.2.1
                      have hle2 : ¬ (x.at_ < z.at_ ∨ (x.at_ = z.at_ ∧ (x.rank < z.rank ∨ (x.rank = z.rank ∧ x.what < z.what)))) := by rw [← lessE_iff, hle]; simp
                      have hna : decide (x.at_ < z.at_) = false := decide_eq_false (by omega)
                      by_cases hae : x.at_ = z.at_
                      · have hae2 : (x.at_ == z.at_) = true := by rw [beq_iff_eq]; exact hae
                        have hnr : decide (x.rank < z.rank) = false := decide_eq_false (by omega)
                        clear ho hle hle2 hae hc0
                        go_wp2_with fail
                        generalize (wC.alloc (.cells #[.int .i64 x.at_, .int .i64 x.rank, .int .u64 x.what] 32)) = wD at *
                        generalize wC.heap.size = gy at *
                        clear x0 x1 x2 y0 y1 y2 z0 z1 hat hcd hna hae2 hnr
                        refine (next_all wD F g bm l' TD.out.q).mono ?_
                        rintro e wE ⟨nx, nb, rfl, hnx, hbE⟩
                        have hbF : Below wE.heap.size wE (wE.alloc (.cells #[.int .i64 nx.at_, .int .i64 nx.rank, .int .u64 nx.what] 32)) := (Below.refl _ _).alloc (Nat.le_refl _) _
                        have hbEF := below_then hbE hbF
                        have TF := Lib.hid (TD.out.later hbEF)
                        have ZF := Lib.hid (ZD.out.later hbEF)
                        have XF := Lib.hid (XD.out.later hbEF)
                        have NF := Lib.hid (Blk.new wE 32 #[.int .i64 nx.at_, .int .i64 nx.rank, .int .u64 nx.what])
                        have HNX := Lib.hid hnx
                        clear hbE hbF hbEF hnx TD ZD XD YD
                        have n0 : (wE.alloc (.cells #[.int .i64 nx.at_, .int .i64 nx.rank, .int .u64 nx.what] 32)).cell? ⟨wE.heap.size, 0, none⟩ = some (.int .i64 nx.at_) := NF.out.cell 0
                        have x0 : (wE.alloc (.cells #[.int .i64 nx.at_, .int .i64 nx.rank, .int .u64 nx.what] 32)).cell? ⟨gx, 0, none⟩ = some (.int .i64 x.at_) := XF.out.cell 0
                        have x1 : (wE.alloc (.cells #[.int .i64 nx.at_, .int .i64 nx.rank, .int .u64 nx.what] 32)).cell? ⟨gx, 1, none⟩ = some (.int .i64 x.rank) := XF.out.cell 1
                        have x2 : (wE.alloc (.cells #[.int .i64 nx.at_, .int .i64 nx.rank, .int .u64 nx.what] 32)).cell? ⟨gx, 2, none⟩ = some (.int .u64 x.what) := XF.out.cell 2
                        go_wp2_with (refine wpList_store_row rfl 32 _ _ rfl gl #[.int .i64 x.at_, .int .i64 x.rank, .int .u64 x.what] rfl rfl 32 _ ZF.out info_ent rfl (by simp [Value.oneCell']) ?_)
                        go_roundw
                        case rel =>
                          have ho := tk_ord HK.out HT.out.qi
                          have kz : Kept (fun i => i = gl) (wE.alloc (.cells #[.int .i64 nx.at_, .int .i64 nx.rank, .int .u64 nx.what] 32)) ((wE.alloc (.cells #[.int .i64 nx.at_, .int .i64 nx.rank, .int .u64 nx.what] 32)).setRow gl #[.int .i64 x.at_, .int .i64 x.rank, .int .u64 x.what]) := (Kept.of_grown (only_setRow _ gl _)).mono fun i _ e => by simpa using e.symm
                          exact ⟨⟨s + 1, cc + 1, t + sv, l', l2', x, rfl, by go_num, by go_num, by omega, by omega, by omega, by omega, Lib.hid (TF.out.keptAt kz (fun h => HGL.out.1 gl h rfl) (fun h => HGL.out.2.1 gl h rfl) HGL.out.2.2), HSM, by have := ho.2.1; omega, Lib.hid (ZF.out.setRow _), Lib.hid fun _ => ho.1⟩⟩
                        case measure => simp [intOf]; omega
                      · have hae2 : (x.at_ == z.at_) = false := by rw [beq_eq_false_iff_ne]; exact hae
                        clear ho hle hle2 hae hc0
                        go_wp2_with fail
                        generalize (wC.alloc (.cells #[.int .i64 x.at_, .int .i64 x.rank, .int .u64 x.what] 32)) = wD at *
                        generalize wC.heap.size = gy at *
                        clear x0 x1 x2 y0 y1 y2 z0 z1 hat hcd hna hae2
                        refine (next_all wD F g bm l' TD.out.q).mono ?_
                        rintro e wE ⟨nx, nb, rfl, hnx, hbE⟩
                        have hbF : Below wE.heap.size wE (wE.alloc (.cells #[.int .i64 nx.at_, .int .i64 nx.rank, .int .u64 nx.what] 32)) := (Below.refl _ _).alloc (Nat.le_refl _) _
                        have hbEF := below_then hbE hbF
                        have TF := Lib.hid (TD.out.later hbEF)
                        have ZF := Lib.hid (ZD.out.later hbEF)
                        have XF := Lib.hid (XD.out.later hbEF)
                        have NF := Lib.hid (Blk.new wE 32 #[.int .i64 nx.at_, .int .i64 nx.rank, .int .u64 nx.what])
                        have HNX := Lib.hid hnx
                        clear hbE hbF hbEF hnx TD ZD XD YD
                        have n0 : (wE.alloc (.cells #[.int .i64 nx.at_, .int .i64 nx.rank, .int .u64 nx.what] 32)).cell? ⟨wE.heap.size, 0, none⟩ = some (.int .i64 nx.at_) := NF.out.cell 0
                        have x0 : (wE.alloc (.cells #[.int .i64 nx.at_, .int .i64 nx.rank, .int .u64 nx.what] 32)).cell? ⟨gx, 0, none⟩ = some (.int .i64 x.at_) := XF.out.cell 0
                        have x1 : (wE.alloc (.cells #[.int .i64 nx.at_, .int .i64 nx.rank, .int .u64 nx.what] 32)).cell? ⟨gx, 1, none⟩ = some (.int .i64 x.rank) := XF.out.cell 1
                        have x2 : (wE.alloc (.cells #[.int .i64 nx.at_, .int .i64 nx.rank, .int .u64 nx.what] 32)).cell? ⟨gx, 2, none⟩ = some (.int .u64 x.what) := XF.out.cell 2
                        go_wp2_with (refine wpList_store_row rfl 32 _ _ rfl gl #[.int .i64 x.at_, .int .i64 x.rank, .int .u64 x.what] rfl rfl 32 _ ZF.out info_ent rfl (by simp [Value.oneCell']) ?_)
                        go_roundw
                        case rel =>
                          have ho := tk_ord HK.out HT.out.qi
                          have kz : Kept (fun i => i = gl) (wE.alloc (.cells #[.int .i64 nx.at_, .int .i64 nx.rank, .int .u64 nx.what] 32)) ((wE.alloc (.cells #[.int .i64 nx.at_, .int .i64 nx.rank, .int .u64 nx.what] 32)).setRow gl #[.int .i64 x.at_, .int .i64 x.rank, .int .u64 x.what]) := (Kept.of_grown (only_setRow _ gl _)).mono fun i _ e => by simpa using e.symm
                          exact ⟨⟨s + 1, cc + 1, t + sv, l', l2', x, rfl, by go_num, by go_num, by omega, by omega, by omega, by omega, Lib.hid (TF.out.keptAt kz (fun h => HGL.out.1 gl h rfl) (fun h => HGL.out.2.1 gl h rfl) HGL.out.2.2), HSM, by have := ho.2.1; omega, Lib.hid (ZF.out.setRow _), Lib.hid fun _ => ho.1⟩⟩
                        case measure => simp [intOf]; omega
                · obtain rfl : s = n2 := by omega
                  have hll := same_len HT.out.qi.dist HT.out.ri.dist hsame.out
                  have e1 : ((l.length : Int) == (j : Int) - cc) = true := by rw [beq_iff_eq]; omega
                  have hcj : (cc : Int) ≤ j := by omega
                  have HQL := Lib.hid (qlen_any wr F g bm 1048576 l HT.out.q (by omega))
                  have HRL := Lib.hid (qlen_any wr F3 g2 bm2 1048576 l2 HT.out.r (by omega))
                  rw [← hll] at HRL
                  obtain ⟨lq, hlq⟩ : ∃ lq, l.length = lq := ⟨_, rfl⟩
                  rw [hlq] at HQL HRL e1
                  clear hll hlc hlq
                  go_wp2_with fail
                  refine HQL.out.mono ?_
                  rintro e w' ⟨rfl, rfl⟩
                  go_wp2_with fail
                  refine HRL.out.mono ?_
                  rintro e w' ⟨rfl, rfl⟩
                  go_wp2_with fail
                  refine HQL.out.mono ?_
                  rintro e w' ⟨rfl, rfl⟩
                  go_wp2_with fail
                  refine (lives_any _).mono ?_
                  rintro e w7 ⟨rfl, hb⟩
                  have H7 := Lib.hid (below_then HT.out.below hb)
                  clear hb
                  go_wp2_with fail
                  go_ret
                  exact ⟨rfl, H7.out⟩
end Go.Proofs.Ytgpgcjdbppehjaa
