/-
  PrefixBest, walked.
-/
import Derived.Test.YtljmmpjcagchmaaDoorPfx16
import Derived.Test.YtljmmpjcagchmaaDoorPfx17
namespace Go.Proofs.YtljmmpjcagchmaaDoor
set_option linter.unusedVariables false
open Go.RowKit

set_option maxRecDepth 100000 in
set_option maxHeartbeats 4000000 in
theorem bestLaw_any (A : Option Addr) (n c : Nat) (L : List Pf) (b : Nat) (w : World) (hL : Pfs w A n L) (hb : b < 4294967296) (hE : Env w) :
    Calls Tryd.prog 3 #[.slice A n c, .int .u32 b] w fun e w' => e = .returned (.bool true) ∧ Below w.heap.size w w' := by
  have HE := Lib.hid hE
  clear hE
  have HV : Hid (∀ W : World, Env W → Calls Tryd.prog 7 #[] W fun e w' => e = .returned (.bool true) ∧ Below W.heap.size W w') := fun W h => lives_any W h
  by_cases hl : 16384 < n
  · clear hL hb
    go_enter Tryd.func3, Tryd.ntmps3
    go_wp2_with fail
    refine (HV.out _ HE.out).mono ?_
    rintro e w1 ⟨rfl, hb1⟩
    have HB1 := Lib.hid hb1
    clear hb1
    go_wp2_with fail
    go_ret
    exact ⟨rfl, HB1.out⟩
  have HL := Lib.hid hL
  have HW := Lib.hid (widePrefixes_any A n c L w hL (by omega))
  have hlen := Lib.hid hL.len
  have d1 : decide ((16384 : Int) < n) = false := decide_eq_false (by omega)
  have hn : n ≤ 16384 := by omega
  have Hok := Lib.hid hL.ok
  have HF1 : Hid (∀ (A : Option Addr) (c : Nat) (W : World), Pfs W A n L → Calls Tryd.prog 9 #[.slice A n c, .int .u32 b] W fun e w' => e = .returned (.int .i64 (bestV (bestTo L b n))) ∧ Below W.heap.size W w') := Lib.hid fun A c W h => best_any A n c L b W h hb (by omega)
  have HF2 : Hid (∀ (A : Option Addr) (c : Nat) (W : World), Pfs W A n L → Calls Tryd.prog 10 #[.slice A n c, .int .u32 b] W fun e w' => e = .returned (.int .i64 (bestV (bestTo L b n))) ∧ Below W.heap.size W w') := Lib.hid fun A c W h => refBest_any A n c L b W h hb (by omega)
  have HF3 : Hid (∀ (A A' : Option Addr) (c c' : Nat) (W : World), Pfs W A n L → Pfs W A' n L → Calls Tryd.prog 11 #[.slice A n c, .slice A' n c'] W fun e w' => e = .returned (.bool true) ∧ Below W.heap.size W w') := Lib.hid fun A A' c c' W h h' => eqPrefixes_yes A A' n c c' L W h h' (by omega)
  have HF4 : Hid (∀ (g : Nat) (W : World), Blk W g 31 (cells2 (wideP L)) → Calls Tryd.prog 12 #[.slice (some ⟨g, 0, none⟩) n (n + 64)] W fun e w' => e = .returned (.bool true) ∧ Below W.heap.size W w') := Lib.hid fun g W h => sparePrefixes_yes g n L W h hlen.out (by omega)
  clear hL hl hb
  generalize bestV (bestTo L b n) = r at *
  go_enter Tryd.func3, Tryd.ntmps3
  go_wp2_with fail
  refine HW.out.mono ?_
  rintro e w1 ⟨g, rfl, hk, hb1⟩
  have HK1 := Lib.hid hk
  have HB1 := Lib.hid hb1
  have HG1 : Hid (Pfs w1 (some ⟨g, 0, none⟩) n L) := Lib.hid (by
    have h1 : n ≤ (wideP L).length := by rw [wideP_len, hlen.out]; omega
    have h2 := Pfs.of_blk (M := wideP L) hk h1 (by
      have := wideP_take L
      rw [hlen.out] at this
      rw [this]; exact Hok.out)
    have := wideP_take L
    rw [hlen.out] at this
    rwa [this] at h2)
  have HL1 := Lib.hid (HL.out.later hb1)
  clear hk hb1 HL HW
  rw [hlen.out]
  go_wp2_with fail
  refine (HF1.out _ _ _ HG1.out).mono ?_
  rintro e w2 ⟨rfl, hb⟩
  have HB2 := Lib.hid (below_then HB1.out hb)
  have HK2 := Lib.hid (HK1.out.later hb)
  have HG2 := Lib.hid (HG1.out.later hb)
  have HL2 := Lib.hid (HL1.out.later hb)
  clear hb HB1 HK1 HG1 HL1
  go_wp2_with fail
  refine (HF2.out _ _ _ HL2.out).mono ?_
  rintro e w3 ⟨rfl, hb⟩
  have HB3 := Lib.hid (below_then HB2.out hb)
  have HK3 := Lib.hid (HK2.out.later hb)
  have HG3 := Lib.hid (HG2.out.later hb)
  have HL3 := Lib.hid (HL2.out.later hb)
  clear hb HB2 HK2 HG2 HL2
  go_wp2_with fail
  refine (HF3.out _ _ _ _ _ HG3.out HL3.out).mono ?_
  rintro e w4 ⟨rfl, hb⟩
  have HB4 := Lib.hid (below_then HB3.out hb)
  have HK4 := Lib.hid (HK3.out.later hb)
  clear hb HB3 HK3 HG3 HL3
  go_wp2_with fail
  refine (HF4.out _ _ HK4.out).mono ?_
  rintro e w5 ⟨rfl, hb⟩
  have HB5 := Lib.hid (below_then HB4.out hb)
  clear hb HB4 HK4
  go_wp2_with fail
  refine (HV.out _ (HE.out.later HB5.out)).mono ?_
  rintro e w6 ⟨rfl, hb⟩
  have HB6 := Lib.hid (below_then HB5.out hb)
  clear hb HB5
  go_wp2_with fail
  go_ret
  exact ⟨rfl, HB6.out⟩
end Go.Proofs.YtljmmpjcagchmaaDoor
