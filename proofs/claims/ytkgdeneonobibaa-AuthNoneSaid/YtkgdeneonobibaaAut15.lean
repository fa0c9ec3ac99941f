/-
  AuthNone: no list of last numbers, walked.
-/
import Derived.Test.YtkgdeneonobibaaAut14
import Derived.WideShapes
namespace Go.Proofs.Ytkgdeneonobibaa
set_option linter.unusedVariables false
open Go.RowKit

theorem key32 (e : Bool) (r : Int) (W : World) : (Instr.checkKey e 10000 34 (.int .u32 r)).run Try.prog W = .ok () W := by kernel_rfl
theorem del_none (ty : TypeId) (r : Int) (W : World) : (Builtin.delete_ #[41, 34] ty #[.map none, .int .u32 r]).run Try.prog W = .ok (.tuple #[]) W := by
  unfold Builtin.delete_
  simp [Sem.run_bind, run_underlying Try.underlying41, Result.andThen_ok, key32]
theorem look_none (r : Int) (W : World) : (Instr.lookup 41 (.map none) (.int .u32 r) true).run Try.prog W = .ok (.tuple #[.int .u32 0, .bool false]) W := by
  have hz : (zeroValue 34).run Try.prog W = .ok (.int .u32 0) W := by kernel_rfl
  have hf : (Instr.findKey 34 (.int .u32 r) []).run Try.prog W = .ok none W := by kernel_rfl
  unfold Instr.lookup
  simp [hf, Sem.run_bind, run_underlying Try.underlying41, Result.andThen_ok, key32, hz]
theorem forgetNil_any (w : World) (r : Int) : Calls Try.prog 22 #[.pointer none, .int .u32 r] w fun e w' => e = .returned (.tuple #[]) ∧ w = w' := by
  go_enter Try.func22, Try.ntmps22
  go_wp2
  go_end0
  exact ⟨rfl, rfl⟩
theorem forgetZ_any (w : World) (g : Nat) (r : Int) (h : w.cell? ⟨g, 0, none⟩ = some (.map none)) : Calls Try.prog 22 #[.pointer (some ⟨g, 0, none⟩), .int .u32 r] w fun e w' => e = .returned (.tuple #[]) ∧ w = w' := by
  have hd := fun (ty : TypeId) (W : World) => del_none ty r W
  go_enter Try.func22, Try.ntmps22
  go_wp2
  go_end0
  exact ⟨rfl, rfl⟩
theorem getNil_any (w : World) (r : Int) : Calls Try.prog 23 #[.pointer none, .int .u32 r] w fun e w' => e = .returned (.tuple #[.int .u32 0, .bool false]) ∧ w = w' := by
  have hl := fun (W : World) => look_none r W
  go_enter Try.func23, Try.ntmps23
  go_wp2
  go_ret2
  exact ⟨rfl, rfl⟩
theorem getZ_any (w : World) (g : Nat) (r : Int) (h : w.cell? ⟨g, 0, none⟩ = some (.map none)) : Calls Try.prog 23 #[.pointer (some ⟨g, 0, none⟩), .int .u32 r] w fun e w' => e = .returned (.tuple #[.int .u32 0, .bool false]) ∧ w = w' := by
  have hl := fun (W : World) => look_none r W
  go_enter Try.func23, Try.ntmps23
  go_wp2
  go_ret2
  exact ⟨rfl, rfl⟩
theorem takeNil_any (w : World) (r s : Int) : Calls Try.prog 24 #[.pointer none, .int .u32 r, .int .u32 s] w fun e w' => e = .returned (.int .i64 1) ∧ w = w' := by
  go_enter Try.func24, Try.ntmps24
  go_wp2
  go_ret
  exact ⟨rfl, rfl⟩
theorem takeZ_any (w : World) (g : Nat) (r s : Int) (h : w.cell? ⟨g, 0, none⟩ = some (.map none)) : Calls Try.prog 24 #[.pointer (some ⟨g, 0, none⟩), .int .u32 r, .int .u32 s] w fun e w' => e = .returned (.int .i64 1) ∧ w = w' := by
  have hE := fun W : World => run_eql_map_nil (P := Try.prog) W 41 34 34 none Try.underlying41
  simp only [Option.isNone_none] at hE
  go_enter Try.func24, Try.ntmps24
  go_wp2
  go_ret
  exact ⟨rfl, rfl⟩
set_option maxRecDepth 100000 in
set_option maxHeartbeats 2000000 in
theorem authNone_walk (r q : Int) (w : World) : Calls Try.prog 5 #[.int .u32 r, .int .u32 q] w fun e w' => e = .returned (.bool true) ∧ Below w.heap.size w w' := by
  have HC : Hid ((w.alloc (.cells #[.map none] 43)).cell? ⟨w.heap.size, 0, none⟩ = some (.map none)) := (Blk.new w 43 #[.map none]).cell 0
  have HB : Hid (Below w.heap.size w (w.alloc (.cells #[.map none] 43))) := (Below.refl _ _).alloc (Nat.le_refl _) _
  go_enter Try.func5, Try.ntmps5
  go_wp2_with fail
  generalize w.alloc (.cells #[.map none] 43) = w1 at *
  generalize hs0 : w.heap.size = g at *
  refine (forgetNil_any w1 r).mono ?_
  rintro e w' ⟨rfl, rfl⟩
  go_wp2_with fail
  refine (forgetZ_any w1 g r HC.out).mono ?_
  rintro e w' ⟨rfl, rfl⟩
  go_wp2_with fail
  refine (getNil_any w1 r).mono ?_
  rintro e w' ⟨rfl, rfl⟩
  go_wp2_with fail
  refine (getZ_any w1 g r HC.out).mono ?_
  rintro e w' ⟨rfl, rfl⟩
  go_wp2_with fail
  refine (takeNil_any w1 r q).mono ?_
  rintro e w' ⟨rfl, rfl⟩
  go_wp2_with fail
  refine (takeZ_any w1 g r q HC.out).mono ?_
  rintro e w' ⟨rfl, rfl⟩
  go_wp2_with (go_at_call 10; refine (lives_any w1).mono ?_; rintro e w2 ⟨rfl, hb⟩; have HE := Lib.hid hb; clear hb)
  go_ret
  subst hs0
  exact ⟨rfl, below_then HB.out HE.out⟩
set_option maxRecDepth 100000 in
theorem u32_arg {w : World} {r : Reach} {b : Nat} {v : Value} (h : Value.okWide Try.prog w r b 34 v) : ∃ n, v = .int .u32 n := Go.WideShapes.okWide_int Try.underlying34 h
end Go.Proofs.Ytkgdeneonobibaa
