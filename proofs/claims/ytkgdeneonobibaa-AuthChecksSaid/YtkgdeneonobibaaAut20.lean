/-
  AuthChecks, walked.
-/
import Derived.Test.YtkgdeneonobibaaAut14
import Derived.Test.YtkgdeneonobibaaAut18
import Derived.Test.YtkgdeneonobibaaAut19
namespace Go.Proofs.Ytkgdeneonobibaa
set_option linter.unusedVariables false
open Go.RowKit

set_option maxRecDepth 100000 in
set_option maxHeartbeats 2000000 in
theorem authChecks_walk (A : Option Addr) (n c : Nat) (L : List AK) (now : Int) (w : World) (hL : Keys w A n L) (hc : n ≤ c) (hm : c ≤ 9223372036854775807) (hs : ∀ k ∈ L, k.n ≤ 140737488351232) :
    Calls Try.prog 3 #[.slice A n c, .int .i64 now] w fun e w' => e = .returned (.bool true) ∧ Below w.heap.size w w' := by
  have HL := Lib.hid hL
  have HN := Lib.hid hs
  clear hL hs
  go_enter Try.func3, Try.ntmps3
  go_wp2_with fail
  refine (heavy_any none A 0 0 n c L w HL.out (by omega) HN.out (by omega)).mono ?_
  rintro e w' ⟨h, rfl, rfl, hh⟩
  have HH := Lib.hid hh
  clear hh
  cases h
  · obtain ⟨_, hn, hks⟩ := HH.out rfl
    have HKs := Lib.hid hks
    clear HH hks
    go_wp2_with fail
    refine (given_any A n c L w HL.out hn HKs.out).mono ?_
    rintro e w1 ⟨v, L', rfl, hl', ho, hw, hb⟩
    obtain ⟨A', c', rfl, hK', hc', hm'⟩ := keys_of_given (HL.out.later hb) HKs.out hl' ho hw
    have F1 : Hid (Keys w1 A n L ∧ Keys w1 A' n L' ∧ WdAll w1 w.heap.size L L' ∧ Below w.heap.size w w1) := ⟨HL.out.later hb, hK', hw, hb⟩
    have HCo := Lib.hid (core_of hw (hl'.trans HL.out.len.symm))
    clear hb ho hw hK'
    go_wp2_with fail
    have HC1 := Lib.hid (check_any A' n c' L' w1 F1.out.2.1 hc' (by omega))
    rw [core_check HCo.out] at HC1
    have hpe : Hid (checkOf L = checkOf L) := rfl
    generalize hp : checkOf L = p at *
    obtain ⟨p1, p2⟩ := p
    refine HC1.out.mono ?_
    rintro e w2 ⟨rfl, hb⟩
    have F2 : Hid (Keys w2 A n L ∧ Keys w2 A' n L' ∧ WdAll w2 w.heap.size L L' ∧ Below w.heap.size w w2) := ⟨F1.out.1.later hb, F1.out.2.1.later hb, fun q k k' h1 h2 => (F1.out.2.2.1 q k k' h1 h2).later hb, below_then F1.out.2.2.2 hb⟩
    clear hb F1 HC1
    go_wp2_with fail
    have HC2 := Lib.hid (refCheck_any A n c L w2 F2.out.1 hc (by omega))
    rw [hp] at HC2
    refine HC2.out.mono ?_
    rintro e w3 ⟨rfl, hb⟩
    have F3 : Hid (Keys w3 A n L ∧ Keys w3 A' n L' ∧ WdAll w3 w.heap.size L L' ∧ Below w.heap.size w w3) := ⟨F2.out.1.later hb, F2.out.2.1.later hb, fun q k k' h1 h2 => (F2.out.2.2.1 q k k' h1 h2).later hb, below_then F2.out.2.2.2 hb⟩
    clear hb F2 HC2 hp hpe
    go_wp2_with fail
    have HC3 := Lib.hid (choose_any A' n c' L' now w3 F3.out.2.1 (by omega))
    rw [core_choose now HCo.out] at HC3
    generalize hq : chooseOf L now = q at *
    refine HC3.out.mono ?_
    rintro e w4 ⟨rfl, hb⟩
    have F4 : Hid (Keys w4 A n L ∧ Keys w4 A' n L' ∧ WdAll w4 w.heap.size L L' ∧ Below w.heap.size w w4) := ⟨F3.out.1.later hb, F3.out.2.1.later hb, fun q k k' h1 h2 => (F3.out.2.2.1 q k k' h1 h2).later hb, below_then F3.out.2.2.2 hb⟩
    clear hb F3 HC3
    go_wp2_with fail
    have HC4 := Lib.hid (toBelow (refChoose_any A n c L now w4 F4.out.1 (by omega)))
    rw [hq] at HC4
    refine HC4.out.mono ?_
    rintro e w5 ⟨rfl, hb⟩
    have F5 : Hid (Keys w5 A n L ∧ Keys w5 A' n L' ∧ WdAll w5 w.heap.size L L' ∧ Below w.heap.size w w5) := ⟨F4.out.1.later hb, F4.out.2.1.later hb, fun q k k' h1 h2 => (F4.out.2.2.1 q k k' h1 h2).later hb, below_then F4.out.2.2.2 hb⟩
    clear hb F4 HC4 hq
    go_wp2_with fail
    have HC5 := Lib.hid (toBelow (stays_any A A' n c c' w.heap.size L L' w5 F5.out.1 F5.out.2.1 F5.out.2.2.1 hn HKs.out))
    refine HC5.out.mono ?_
    rintro e w6 ⟨rfl, hb⟩
    have HB6 := Lib.hid (below_then F5.out.2.2.2 hb)
    clear hb F5 HC5
    go_wp2_with (go_at_call 10; refine (lives_any w6).mono ?_; rintro e w7 ⟨rfl, hb⟩; have HE := Lib.hid (below_then HB6.out hb); clear hb)
    go_ret
    exact ⟨rfl, HE.out⟩
  · go_wp2_with (go_at_call 10; refine (lives_any w).mono ?_; rintro e w7 ⟨rfl, hb⟩; have HE := Lib.hid hb; clear hb)
    go_ret
    exact ⟨rfl, HE.out⟩
end Go.Proofs.Ytkgdeneonobibaa
