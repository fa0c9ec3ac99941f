/-
  The law ListAgain, where its guard lets it go, and all of it.
-/
import Derived.Test.YtjkmehpokdaonaaLis8
namespace Go.Proofs.Ytjkmehpokdaonaa
set_option linter.unusedVariables false
open Go.RowKit

set_option maxRecDepth 100000 in
theorem listAgain_walk (r : Int) (A A2 : Option Addr) (n c n2 c2 : Nat) (L : List SE) (bs : List Bool) (w : World) (h0 : 0 ≤ r) (h1 : r ≤ 65535) (hnc : n ≤ c) (hc : c ≤ 9223372036854775807) (hL : Stl w A n L) (hB : Reads w w.heap.size 1 A2 n2 (bs.flatMap fun b => [Value.bool b])) (hbl : bs.length = n2) (hc2 : n2 ≤ 9223372036854775807) :
    Calls Try.prog 5 #[.int .u16 r, .slice A n c, .slice A2 n2 c2] w fun e w' => e = .returned (.bool true) ∧ Below w.heap.size w w' := by
  by_cases hg : 1 ≤ r ∧ r ≤ 20 ∧ 1 ≤ n ∧ n ≤ 12
  · exact listAgain_main r A A2 n c n2 c2 L bs w hg.1 hg.2.1 hg.2.2.1 hg.2.2.2 hL hB hbl hc2
  · clear hL hB hbl
    by_cases c0 : r = 0
    · subst c0
      clear hg
      go_enter Try.func5, Try.ntmps5
      go_wp2_with (go_at_call 10; refine (works_any _).mono ?_; rintro e w7 ⟨rfl, hb⟩; have H7 := Lib.hid hb; clear hb)
      go_ret
      exact ⟨rfl, H7.out⟩
    · have d0 : (r == 0) = false := by rw [beq_eq_false_iff_ne]; exact c0
      by_cases c1 : 20 < r
      · have d1 : decide (20 < r) = true := decide_eq_true c1
        clear hg c0
        go_enter Try.func5, Try.ntmps5
        go_wp2_with (go_at_call 10; refine (works_any _).mono ?_; rintro e w7 ⟨rfl, hb⟩; have H7 := Lib.hid hb; clear hb)
        go_ret
        exact ⟨rfl, H7.out⟩
      · have d1 : decide (20 < r) = false := decide_eq_false c1
        by_cases c2 : 12 < n
        · have d2 : decide ((12 : Int) < n) = true := decide_eq_true (by omega)
          clear hg c0 c1
          go_enter Try.func5, Try.ntmps5
          go_wp2_with (go_at_call 10; refine (works_any _).mono ?_; rintro e w7 ⟨rfl, hb⟩; have H7 := Lib.hid hb; clear hb)
          go_ret
          exact ⟨rfl, H7.out⟩
        · have d2 : decide ((12 : Int) < n) = false := decide_eq_false (by omega)
          have d3 : ((n : Int) == 0) = true := by rw [beq_iff_eq]; omega
          clear hg c0 c1 c2
          go_enter Try.func5, Try.ntmps5
          go_wp2_with (go_at_call 10; refine (works_any _).mono ?_; rintro e w7 ⟨rfl, hb⟩; have H7 := Lib.hid hb; clear hb)
          go_ret
          exact ⟨rfl, H7.out⟩
theorem u16_arg {H : Type} {enc : TypeId × Value → H} {w : World} {r : Reach} {b : Nat} {held : Bool} {v : Value} {d : DataW H} {p : List MemPlace}
    (hv : Value.okWide Try.prog w r b 22 v) (h : DataW.Trod enc Try.prog w 0 (fun _ => true) held 22 v d p) : ∃ n, v = .int .u16 n ∧ 0 ≤ n ∧ n ≤ 65535 := by
  obtain ⟨r, rfl, _, _, hwr⟩ := Go.ChangeShapes.open_int Try.underlying22 hv h
  exact ⟨r, rfl, bounds_u16 hwr⟩
end Go.Proofs.Ytjkmehpokdaonaa
