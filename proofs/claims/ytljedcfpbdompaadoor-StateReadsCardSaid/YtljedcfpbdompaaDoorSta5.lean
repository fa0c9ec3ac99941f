/-
  What was thrown is caught; the table of forms; formOf.
-/
import Derived.Test.YtljedcfpbdompaaDoorSta4
import Derived.Defers
import Derived.Recover
import Derived.Laws.Pointers
namespace Go.Proofs.YtljedcfpbdompaaDoor
set_option linter.unusedVariables false
open Go.RowKit Go.ChangeShapes Go.WideShapes

theorem errno_ne (k : Int) (w : World) : (binOp .neq 20 (.iface 29 (.int .i64 k)) Value.nilIface).run Tryd.prog w = .ok (.bool true) w := by kernel_rfl
theorem nil_ne (w : World) : (binOp .neq 20 Value.nilIface Value.nilIface).run Tryd.prog w = .ok (.bool false) w := by kernel_rfl
theorem assert_errno (k : Int) (w : World) : (Instr.typeAssert (.iface 29 (.int .i64 k)) 20 29 true).run Tryd.prog w = .ok (.tuple #[.int .i64 k, .bool true]) w := by kernel_rfl
set_option maxRecDepth 100000 in
set_option maxHeartbeats 2000000 in
theorem caught_panicking (p : Addr) (x k : Int) (older : List PanicEntry) (w : World) (hc : w.cell? p = some (.int .i64 x)) (hz : w.frozen? p = false) :
    CallsD Tryd.prog 42 #[.pointer (some p)] (.panicking ({ v := .iface 29 (.int .i64 k), recovered := false } :: older)) w fun e u' w' =>
      e = .returned (.tuple #[]) ∧ u' = .panicking ({ v := .iface 29 (.int .i64 k), recovered := true } :: older) ∧ w' = w.setCell p (.int .i64 k) := by
  refine callsD_of_wpS Tryd.func42 rfl fun c₀ cs hu => ?_
  apply wpS_seq
  apply wpS_region
  simp [wpOpsS, go_sem, recoverD, hu, Tryd.ntmps42, Exit.thenS]
  refine wpS_of_wp ?_
  rw [show (#[Value.pointer (some p)] ++ ((Array.replicate 18 undef).setIfInBounds 4 (.iface 29 (.int .i64 k))).setIfInBounds 1 (.iface 29 (.int .i64 k))) = #[.pointer (some p), undef, (.iface 29 (.int .i64 k)), undef, undef, (.iface 29 (.int .i64 k)), undef, undef, undef, undef, undef, undef, undef, undef, undef, undef, undef, undef, undef] from rfl]
  have h1 := errno_ne k
  have h2 := assert_errno k
  go_wp2
  simp [bodyPostS, results, Tryd.results42]
set_option maxRecDepth 100000 in
set_option maxHeartbeats 2000000 in
theorem caught_idle (p : Addr) (w : World) :
    CallsD Tryd.prog 42 #[.pointer (some p)] .returning w fun e u' w' => e = .returned (.tuple #[]) ∧ u' = .returning ∧ w' = w := by
  refine callsD_of_wpS Tryd.func42 rfl fun c₀ cs hu => ?_
  apply wpS_seq
  apply wpS_region
  simp [wpOpsS, go_sem, recoverD, hu, Tryd.ntmps42, Exit.thenS]
  refine wpS_of_wp ?_
  have h1 := nil_ne
  rw [show (#[Value.pointer (some p)] ++ ((Array.replicate 18 undef).setIfInBounds 4 .nilIface).setIfInBounds 1 .nilIface) = #[.pointer (some p), undef, .nilIface, undef, undef, .nilIface, undef, undef, undef, undef, undef, undef, undef, undef, undef, undef, undef, undef, undef] from rfl]
  go_wp2
  cases c₀
  simp_all [bodyPostS, results, Tryd.results42]
end Go.Proofs.YtljedcfpbdompaaDoor
