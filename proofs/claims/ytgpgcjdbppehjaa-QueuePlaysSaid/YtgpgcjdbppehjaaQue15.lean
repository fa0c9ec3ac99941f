/-
  The law QueueOrder, where its guard lets it go, and all of it.
-/
import Derived.Test.YtgpgcjdbppehjaaQue14
namespace Go.Proofs.Ytgpgcjdbppehjaa
set_option linter.unusedVariables false
open Go.RowKit

set_option maxRecDepth 100000 in
theorem queueOrder_walk (A A2 : Option Addr) (n c n2 c2 : Nat) (L : List OpA) (ss : List Int) (w : World) (hc : n ≤ c) (hcm : c ≤ 9223372036854775807) (hc2 : n2 ≤ c2) (hcm2 : c2 ≤ 9223372036854775807) (hL : OpRow w A n L) (hS : Reads w w.heap.size 1 A2 n2 (ss.flatMap fun b => [Value.int .u16 b])) (hsl : ss.length = n2) (hsb : ∀ s ∈ ss, 0 ≤ s ∧ s ≤ 65535) :
    Calls Try.prog 3 #[.slice A n c, .slice A2 n2 c2] w fun e w' => e = .returned (.bool true) ∧ Below w.heap.size w w' := by
  by_cases h1 : 200 < n
  · have d1 : decide ((200 : Int) < n) = true := decide_eq_true (by omega)
    clear hL hS hsl hsb
    go_enter Try.func3, Try.ntmps3
    go_wp2_with (go_at_call 8; refine (lives_any _).mono ?_; rintro e w6 ⟨rfl, hb⟩; have H6 := Lib.hid hb; clear hb)
    go_ret
    exact ⟨rfl, H6.out⟩
  · by_cases h2 : 200 < n2
    · have d1 : decide ((200 : Int) < n) = false := decide_eq_false (by omega)
      have d2 : decide ((200 : Int) < n2) = true := decide_eq_true (by omega)
      clear hL hS hsl hsb h1
      go_enter Try.func3, Try.ntmps3
      go_wp2_with (go_at_call 8; refine (lives_any _).mono ?_; rintro e w6 ⟨rfl, hb⟩; have H6 := Lib.hid hb; clear hb)
      go_ret
      exact ⟨rfl, H6.out⟩
    · exact queueOrder_main A A2 n c n2 c2 L ss w (by omega) (by omega) hL hS hsl hsb
end Go.Proofs.Ytgpgcjdbppehjaa
