/-
  The law QueuePlays, where its guards let it go, and all of it; the law QueueCopies, walked.
-/
import Derived.Test.YtgpgcjdbppehjaaQue33
import Derived.Test.YtgpgcjdbppehjaaQue16
namespace Go.Proofs.Ytgpgcjdbppehjaa
set_option linter.unusedVariables false
open Go.RowKit Go.ChangeShapes Go.WideShapes

set_option maxRecDepth 100000 in
theorem queuePlays_walk (m : Int) (A : Option Addr) (n c : Nat) (L : List OpA) (w : World) (hc : n ≤ c) (hcm : c ≤ 9223372036854775807) (hL : OpRow w A n L) :
    Calls Try.prog 5 #[.int .i64 m, .slice A n c] w fun e w' => e = .returned (.bool true) ∧ Below w.heap.size w w' := by
  by_cases hn : n ≤ 300
  · by_cases hm : 1 ≤ m ∧ m ≤ 1048576
    · exact queuePlays_main m A n c L w hm.1 hm.2 hn hL
    · have HN := Lib.hid (qnew_no m w (by omega))
      have HM := Lib.hid (may_no m w (by omega))
      have d1 : decide ((300 : Int) < (n : Int)) = false := decide_eq_false (by omega)
      clear hL hm
      go_enter Try.func5, Try.ntmps5
      go_wp2_with fail
      refine HN.out.mono ?_
      rintro e w1 ⟨rfl, rfl⟩
      go_wp2_with fail
      refine HM.out.mono ?_
      rintro e w1 ⟨rfl, rfl⟩
      go_wp2_with (go_at_call 8; refine (lives_any _).mono ?_; rintro e w6 ⟨rfl, hb⟩; have H6 := Lib.hid hb; clear hb)
      go_ret
      exact ⟨rfl, H6.out⟩
  · have d1 : decide ((300 : Int) < (n : Int)) = true := decide_eq_true (by omega)
    clear hL
    go_enter Try.func5, Try.ntmps5
    go_wp2_with (go_at_call 8; refine (lives_any _).mono ?_; rintro e w6 ⟨rfl, hb⟩; have H6 := Lib.hid hb; clear hb)
    go_ret
    exact ⟨rfl, H6.out⟩
/-- The second loop: the copy and the list, and what is kept beside them. -/
structure CoI (w wz : World) (N gc bmc g2 : Nat) (most : Int) (Fc0 F20 : Nat → Prop) (i : Value) (wr : World) : Prop where
  ex : ∃ (j : Nat) (F F2 : Nat → Prop) (l D : List Ent), i = .int .i64 j ∧ j ≤ N ∧ Hid (PairH w wr F F2 gc bmc g2 most l D) ∧ Hid (∀ e, e ∈ l ↔ e ∈ D) ∧ Hid (Grew wz Fc0 F ∧ Grew wz F20 F2)
  kept : Hid (Kept (fun i => Fc0 i ∨ F20 i) wz wr)
set_option maxRecDepth 100000 in
set_option maxHeartbeats 16000000 in
theorem queueCopies_main (m : Int) (A A2 : Option Addr) (n c n2 c2 : Nat) (L L2 : List OpA) (w : World) (h1 : 1 ≤ m) (h2 : m ≤ 1048576) (hn : n + n2 ≤ 300) (hL : OpRow w A n L) (hL2 : OpRow w A2 n2 L2) :
    Calls Try.prog 6 #[.int .i64 m, .slice A n c, .slice A2 n2 c2] w fun e w' => e = .returned (.bool true) ∧ Below w.heap.size w w' := by
  have d1 : decide ((300 : Int) < (n : Int) + n2) = false := decide_eq_false (by omega)
  have dw : IntKind.i64.wrap ((n : Int) + n2) = n + n2 := by rw [IntKind.wrap_i64]; omega
  have HL := Lib.hid hL
  have HL2 := Lib.hid hL2
  clear hL hL2
  go_enter Try.func6, Try.ntmps6
  go_wp2_with fail
  refine (may_yes m w h1 h2).mono ?_
  rintro e w' ⟨rfl, rfl⟩
  go_wp2_with fail
  refine (qnew_any m w h1 h2).mono ?_
  rintro e w1 ⟨g, bm, rfl, q1, hg, hbm, hb1⟩
  have T0 := Lib.hid (pair_new q1 hg hbm hb1)
  clear q1 hg hbm hb1
  go_wp2_with fail
  generalize w1.heap.size = g2 at *
  generalize w1.alloc (.cells #[.slice none 0 0, .int .i64 m] 48) = w2 at *
  clear d1 dw
  go_loopw [9] (PlI w n g bm g2 m) (fun t _ => n - (intOf t).toNat)
  case atStart => exact ⟨⟨0, _, _, [], [], rfl, Nat.zero_le _, T0, Lib.hid fun e => Iff.rfl⟩⟩
  case round =>
    clear T0
    obtain ⟨⟨j, F, F2, l, D, rfl, hjn, HT, HM⟩⟩ := hrel
    by_cases hlt : j < n
    · have hltI : (j : Int) < n := by omega
      obtain ⟨ad, oj, hA, hoj, hok, hat⟩ := (HL.out.later HT.out.below).at4 hlt
      subst hA
      have HOK := Lib.hid hok
      obtain ⟨a0, a1, a2, a3⟩ := hat
      clear hoj hok
      go_wp2_with fail
      refine (one_any w wr F F2 g bm g2 m l D HT.out HM.out h1 h2 oj HOK.out).mono ?_
      rintro e w4 ⟨F4, F5, l4, D4, rfl, s4⟩
      have HT4 := Lib.hid s4.h
      have HM4 := Lib.hid s4.m
      clear s4 a0 a1 a2 a3 HT HM
      go_wp2_with fail
      go_roundw
      case rel => exact ⟨⟨j + 1, F4, F5, l4, D4, by go_num, by omega, HT4, HM4⟩⟩
      case measure => simp [intOf]; omega
    · obtain rfl : j = n := by omega
      clear hlt hjn
      generalize wr = wj at *
      go_wp2_with fail
      refine (qcopy_any wj F g bm m l HT.out.q h1).mono ?_
      rintro e w3 ⟨gc, bmc, rfl, qc, hb3⟩
      have HT3 := Lib.hid (HT.out.later hb3)
      have HC3 := Lib.hid (And.intro qc hb3)
      clear qc hb3
      go_wp2_with fail
      refine (rall_any w3 F2 g2 m D HT3.out.r HT3.out.d).mono ?_
      rintro e w4 ⟨v, rfl, hR⟩
      have HR := Lib.hid hR
      have HT4 := Lib.hid (HT3.out.later hR.bel)
      have HC4 : Hid (PairH w w4 (fun i => wj.heap.size ≤ i ∧ i < w3.heap.size) F2 gc bmc g2 m l D) := Lib.hid ⟨HC3.out.1.later hR.bel, HT.out.qi, HT4.out.r, HT.out.d, fun i hi h => by have := HT.out.r.lim i h; omega, fun i hi => Nat.le_trans HT.out.below.size hi.1, HT.out.hF2, HT4.out.below⟩
      have HF : Hid (∀ i, F i → i < wj.heap.size) := Lib.hid HT.out.q.lim
      have HF2 : Hid (∀ i, F2 i → i < wj.heap.size) := Lib.hid HT.out.r.lim
      have HS3 := Lib.hid (HC3.out.2.size)
      obtain ⟨Av, cv, hv⟩ : ∃ Av cv, v = .slice Av D.length cv := by
        obtain ⟨L', _, ho⟩ := HR.out.ex
        obtain ⟨Av, cv, hv, _⟩ := ho.shape
        exact ⟨Av, cv, hv⟩
      subst hv
      clear hR HT3 HC3 HT
      go_wp2_with fail
      go_loopw [12] (CoI w w4 n2 gc bmc g2 m (fun i => wj.heap.size ≤ i ∧ i < w3.heap.size) F2) (fun t _ => n2 - (intOf t).toNat)
      case atStart => exact ⟨⟨0, _, _, l, D, rfl, Nat.zero_le _, HC4, HM, Lib.hid ⟨Grew.refl _ _, Grew.refl _ _⟩⟩, Lib.hid (Kept.refl _ _)⟩
      case round =>
        clear HC4
        obtain ⟨⟨k, Fc, Fd, lc, Dd, rfl, hk, HP, HMm, HG⟩, HK⟩ := hrel
        by_cases hlt : k < n2
        · have hltI : (k : Int) < n2 := by omega
          obtain ⟨ad, oj, hA, hoj, hok, hat⟩ := (HL2.out.later HP.out.below).at4 hlt
          subst hA
          have HOK := Lib.hid hok
          obtain ⟨a0, a1, a2, a3⟩ := hat
          clear hoj hok
          go_wp2_with fail
          refine (one_any w wr Fc Fd gc bmc g2 m lc Dd HP.out HMm.out h1 h2 oj HOK.out).mono ?_
          rintro e w5 ⟨F4, F5, l4, D4, rfl, s4⟩
          have HT5 := Lib.hid s4.h
          have HM5 := Lib.hid s4.m
          have HG5 := Lib.hid (And.intro (HG.out.1.trans s4.gq HK.out.size) (HG.out.2.trans s4.gr HK.out.size))
          have HK5 : Hid (Kept (fun i => (wj.heap.size ≤ i ∧ i < w3.heap.size) ∨ F2 i) w4 w5) := Lib.hid (HK.out.trans s4.k (fun i hi h => h.elim (fun h => (HG.out.1.2 i h).elim .inl (fun h => absurd hi (by omega))) (fun h => (HG.out.2.2 i h).elim .inr (fun h => absurd hi (by omega)))))
          clear s4 a0 a1 a2 a3 HP HMm HG HK
          go_wp2_with fail
          go_roundw
          case rel => exact ⟨⟨k + 1, F4, F5, l4, D4, by go_num, by omega, HT5, HM5, HG5⟩, HK5⟩
          case measure => simp [intOf]; omega
        · have dk : decide ((k : Int) < n2) = false := decide_eq_false (by omega)
          have HQ : Hid (QF wr F g bm m l) := Lib.hid (HT4.out.q.kept HK.out (fun i hi h => h.elim (fun h => by have := HF.out i hi; omega) (fun h => HT4.out.dis i hi h)))
          have HV : Hid (∃ L0, Sorted_ D L0 ∧ OwnW wr 73 3 (.slice Av D.length cv) D.length (L0.flatMap Ent.cells)) := Lib.hid (by
            obtain ⟨L0, hs0, ho0⟩ := HR.out.ex
            exact ⟨L0, hs0, ho0.kept HK.out (fun i hi h => by
              have h9 := HR.out.base i hi
              rcases h with h | h
              · omega
              · have := HF2.out i h; have := HS3.out; omega)⟩)
          have HQI := Lib.hid (And.intro HT4.out.qi HT4.out.d)
          clear HK HG HT4 HR
          go_wp2_with fail
          refine (all_any wr F g bm m l HQ.out h1).mono ?_
          rintro e w5 ⟨v5, rfl, hA⟩
          have HP5 := Lib.hid (HP.out.later hA.bel)
          obtain ⟨L5, hs5, ho5⟩ := hA.ex
          obtain ⟨L0, hs0, ho0⟩ := HV.out
          obtain rfl := sorted_eq hs5 hs0 HQI.out.1.dist HQI.out.2 HM.out
          have hlen := same_len HQI.out.1.dist HQI.out.2 HM.out
          obtain ⟨A5, c5, rfl, -, -, hR5, -⟩ := ho5.shape
          obtain ⟨A6, c6, he6, -, -, hR6, -⟩ := (ho0.later hA.bel).shape
          injection he6 with he6 _ he7
          subst he6 he7
          rw [← hlen] at hR6
          have HR5 := Lib.hid (And.intro hs5.perm.length_eq (And.intro hR5 hR6))
          have HFE := Lib.hid HQ.out.few
          clear hA hs5 ho5 hs0 ho0 hR5 hR6 HV HQ HP
          go_wp2_with fail
          rw [← hlen]
          clear hlen
          refine (same_true A5 Av l.length c5 cv L5 w5 HR5.out.1 HFE.out HR5.out.2.1 HR5.out.2.2).mono ?_
          rintro e w6 ⟨rfl, hb6⟩
          have HP6 := Lib.hid (HP5.out.later hb6)
          clear hb6 HP5 HR5
          go_wp2_with fail
          refine (all_any w6 Fc gc bmc m lc HP6.out.q h1).mono ?_
          rintro e w7 ⟨v7, rfl, hA⟩
          have HA := Lib.hid hA
          have HP7 := Lib.hid (HP6.out.later hA.bel)
          clear hA
          go_wp2_with fail
          refine (rall_any w7 Fd g2 m Dd HP7.out.r HP7.out.d).mono ?_
          rintro e w8 ⟨v8, rfl, hB⟩
          have HP8 := Lib.hid (HP7.out.later hB.bel)
          obtain ⟨L', A1, A9, c1, c9, rfl, rfl, hl', hr1, hr2⟩ := (two_rows HA.out hB HP7.out.qi.dist HP7.out.d HMm.out).ex
          have HB8 := Lib.hid (And.intro hl' (And.intro hr1 hr2))
          have HFE2 := Lib.hid HP8.out.q.few
          clear hB hr1 hr2 hl' HA HP7 HP6
          go_wp2_with fail
          refine (same_true A1 A9 lc.length c1 c9 L' w8 HB8.out.1 HFE2.out HB8.out.2.1 HB8.out.2.2).mono ?_
          rintro e w9 ⟨rfl, hb9⟩
          have HB9 := Lib.hid (below_then HP8.out.below hb9)
          clear hb9 HP8 HB8
          go_wp2_with fail
          refine (lives_any w9).mono ?_
          rintro e w10 ⟨rfl, hb10⟩
          have HB := Lib.hid (below_then HB9.out hb10)
          clear hb10
          go_wp2_with fail
          go_ret
          exact ⟨rfl, HB.out⟩
set_option maxRecDepth 100000 in
theorem queueCopies_walk (m : Int) (A A2 : Option Addr) (n c n2 c2 : Nat) (L L2 : List OpA) (w : World) (hs : n ≤ 140737488355328) (hs2 : n2 ≤ 140737488355328) (hL : OpRow w A n L) (hL2 : OpRow w A2 n2 L2) :
    Calls Try.prog 6 #[.int .i64 m, .slice A n c, .slice A2 n2 c2] w fun e w' => e = .returned (.bool true) ∧ Below w.heap.size w w' := by
  by_cases hn : n + n2 ≤ 300
  · by_cases hm : 1 ≤ m ∧ m ≤ 1048576
    · exact queueCopies_main m A A2 n c n2 c2 L L2 w hm.1 hm.2 hn hL hL2
    · have HM := Lib.hid (may_no m w (by omega))
      have d1 : decide ((300 : Int) < (n : Int) + n2) = false := decide_eq_false (by omega)
      clear hL hL2 hm
      go_enter Try.func6, Try.ntmps6
      go_wp2_with fail
      refine HM.out.mono ?_
      rintro e w1 ⟨rfl, rfl⟩
      go_wp2_with (go_at_call 8; refine (lives_any _).mono ?_; rintro e w6 ⟨rfl, hb⟩; have H6 := Lib.hid hb; clear hb)
      go_ret
      exact ⟨rfl, H6.out⟩
  · have d1 : decide ((300 : Int) < (n : Int) + n2) = true := decide_eq_true (by omega)
    clear hL hL2
    go_enter Try.func6, Try.ntmps6
    go_wp2_with (go_at_call 8; refine (lives_any _).mono ?_; rintro e w6 ⟨rfl, hb⟩; have H6 := Lib.hid hb; clear hb)
    go_ret
    exact ⟨rfl, H6.out⟩
end Go.Proofs.Ytgpgcjdbppehjaa
