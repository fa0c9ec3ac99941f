/-
  api.Key as the key of a map.
-/
import Derived.Test.YtpncbggjngamgaaMapL
namespace Go.Proofs.Ytpncbggjngamgaa
set_option linter.unusedVariables false
open Go.RowKit

@[reducible] def keyV (k : Int × Int × Int) : Value := .agg #[.int .u8 k.1, .int .u32 k.2.1, .int .u32 k.2.2]
theorem key_fields : (Try.prog.fieldsOf 45).toList = [{ name := "Type", type := 5, offset := 0, embedded := false, tag := "", pkgPath := "", byteOffset := 0 }, { name := "ID", type := 26, offset := 1, embedded := false, tag := "", pkgPath := "", byteOffset := 4 }, { name := "Adv", type := 26, offset := 2, embedded := false, tag := "", pkgPath := "", byteOffset := 8 }] := by kernel_rfl
theorem key_eq (a b : Int × Int × Int) (w : World) : (Op.equal 45 (keyV a) (keyV b)).run Try.prog w = .ok (decide (a = b)) w := by
  obtain ⟨a1, a2, a3⟩ := a
  obtain ⟨b1, b2, b3⟩ := b
  have h : (Op.equal 45 (keyV (a1, a2, a3)) (keyV (b1, b2, b3))).run Try.prog w = (Op.equalIn (9999 + 1) 45 (keyV (a1, a2, a3)) (keyV (b1, b2, b3))).run Try.prog w := rfl
  rw [h, run_equalIn_agg w 9999 45 _ _ (by kernel_rfl) (by kernel_rfl), key_fields]
  go_simp
  by_cases h1 : a1 = b1 <;> by_cases h2 : a2 = b2 <;> by_cases h3 : a3 = b3 <;> simp [h1, h2, h3]
theorem key_check (e : Bool) (a : Int × Int × Int) (w : World) : (Instr.checkKey e 10000 45 (keyV a)).run Try.prog w = .ok () w := by kernel_rfl
theorem key_bits (a : Int × Int × Int) : Instr.sameBits 10000 (keyV a) (keyV a) = true := by
  obtain ⟨a1, a2, a3⟩ := a
  simp [keyV, Instr.sameBits]
theorem keyT : KeyT Try.prog 45 keyV := ⟨key_eq, key_check, ⟨_, Try.underlying45, .inl fun a b => rfl⟩, key_bits⟩
end Go.Proofs.Ytpncbggjngamgaa
