/-
  Entries compared.
-/
import Derived.Test.YtgpgcjdbppehjaaQue13
namespace Go.Proofs.Ytgpgcjdbppehjaa
set_option linter.unusedVariables false
open Go.RowKit
theorem ent_fields : (Try.prog.fieldsOf 32).toList = [{ name := "At", type := 3, offset := 0, embedded := false, tag := "", pkgPath := "", byteOffset := 0 }, { name := "Rank", type := 3, offset := 1, embedded := false, tag := "", pkgPath := "", byteOffset := 8 }, { name := "What", type := 27, offset := 2, embedded := false, tag := "", pkgPath := "", byteOffset := 16 }] := by kernel_rfl
theorem ent_eq (a b : Ent) (w : World) : (Op.equalIn 10000 32 (.agg #[.int .i64 a.at_, .int .i64 a.rank, .int .u64 a.what]) (.agg #[.int .i64 b.at_, .int .i64 b.rank, .int .u64 b.what])).run Try.prog w = .ok (decide (a = b)) w := by
  obtain ⟨a1, a2, a3⟩ := a
  obtain ⟨b1, b2, b3⟩ := b
  rw [show (10000 : Nat) = 9999 + 1 from rfl, run_equalIn_agg w 9999 32 _ _ (by kernel_rfl) (by kernel_rfl), ent_fields]
  go_simp
  by_cases h1 : a1 = b1 <;> by_cases h2 : a2 = b2 <;> by_cases h3 : a3 = b3 <;> simp [h1, h2, h3]
theorem ent_neq_self (x : Ent) (W : World) : (binOp .neq 32 (.agg #[.int .i64 x.at_, .int .i64 x.rank, .int .u64 x.what]) (.agg #[.int .i64 x.at_, .int .i64 x.rank, .int .u64 x.what])).run Try.prog W = .ok (.bool false) W := by
  rw [run_neq_struct, ent_eq]
  simp
theorem ent_guard (x y : Operand) (a b : Ent) (W : World) : (eqGuard .neq 32 x y (.agg #[.int .i64 a.at_, .int .i64 a.rank, .int .u64 a.what]) (.agg #[.int .i64 b.at_, .int .i64 b.rank, .int .u64 b.what])).run Try.prog W = .ok () W :=
  run_eqGuard_agg _ _ _ _ _ _ _ Try.eqGuardType32
theorem wpList_neq_self {ops : Array Oper} {rest : List Oper} {o : Oper} {st : Act} {Q0 : Exit → Act → World → Prop} {w : World} (g : Nat × Bool) (hg : o.guard = some g) (x y : Operand) (t : TypeId) (ho : o.op = .binOp .neq 32 x y t) (e : Ent)
    (hx : st.eval x = .agg #[.int .i64 e.at_, .int .i64 e.rank, .int .u64 e.what]) (hy : st.eval y = .agg #[.int .i64 e.at_, .int .i64 e.rank, .int .u64 e.what]) : (execOp st.eval o).run Try.prog w = .ok (.value (.bool false)) w := by
  unfold execOp
  simp only [ho]
  rw [hx, hy]
  simp [Sem.run_bind, Sem.run_pure, ent_guard, ent_neq_self, Result.andThen_ok]
end Go.Proofs.Ytgpgcjdbppehjaa
