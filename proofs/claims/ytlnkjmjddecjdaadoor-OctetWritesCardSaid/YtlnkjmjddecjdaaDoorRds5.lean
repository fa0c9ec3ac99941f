/-
  What the row's cell 'laid' lists: three tables, of which the walk needs nothing.
-/
import Derived.Test.YtlnkjmjddecjdaaDoorRows
import Derived.Stop.LaidErr
import Derived.LaidMore
import Derived.Test.YtlnkjmjddecjdaaDoorFlat
namespace Go.Proofs.YtlnkjmjddecjdaaDoor
open Go Go.RowKit Go.ChangeShapes
set_option linter.unusedVariables false

/-- What the three listed variables read as. -/
def laid5 : List (String × DataW Unit) := [("math/bits.deBruijn32tab", Rows.laid_math_bits_deBruijn32tab), ("math/bits.deBruijn64tab", Rows.laid_math_bits_deBruijn64tab), ("internal/strconv.uint64pow10", Rows.laid_internal_strconv_uint64pow10)]
def Env (w : World) : Prop := True
theorem env_of_laid {W : World} (h : laidMetH Tryd.prog laid5 W) : Env W := trivial
/-- The door's own heap meets the condition. -/
theorem door_met (os : Os) (args : Array Value) : laidMetH Tryd.prog laid5 ((World.doorLaid Tryd.prog 400 os).forCall (fun _ _ => 0) ⟨#[], args, []⟩).memory :=
  laidMetH_of_parts3 (fuel := 8) (laidMet_of_run' 8 (by kernel_rfl) (by kernel_rfl)) (by kernel_rfl) (by kernel_rfl)
set_option maxRecDepth 100000 in
theorem bytes_arg {H : Type} {enc : TypeId × Value → H} {w : World} {r : Reach} {b : Nat} {held : Bool} {v : Value} {d : DataW H} {p : List MemPlace}
    (hv : Value.okWide Tryd.prog w r b 28 v) (h : DataW.Trod enc Tryd.prog w 0 (fun _ => true) held 28 v d p) :
    ∃ (A : Option Addr) (n c : Nat) (zs : List Int), v = .slice A n c ∧ Reads w w.heap.size 1 A n (u8s zs) ∧ Oct zs ∧ n ≤ c ∧ c ≤ 9223372036854775807 := by
  obtain ⟨A, n, c, rfl⟩ := Go.WideShapes.okWide_slice Tryd.underlying28 hv
  obtain ⟨fuel, hf⟩ := h
  obtain ⟨A2, n2, c2, zs, e, h1, _⟩ := bytes_open Tryd.underlying28 Tryd.underlying5 (by kernel_rfl) (by kernel_rfl) hf
  exact ⟨A2, n2, c2, zs, e, h1⟩
end Go.Proofs.YtlnkjmjddecjdaaDoor
