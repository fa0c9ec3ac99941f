/-
  What the rows' cell 'laid' gives the walks: the table of the powers of ten, the two errors of strconv.
-/
import Derived.Test.YtljmmpjcagchmaaDoorRows
import Derived.Stop.LaidErr
import Derived.Lib.LaidTab
import Derived.Lib.ItoaNum
import Derived.LaidMore
namespace Go.Proofs.YtljmmpjcagchmaaDoor
open Go Go.RowKit Go.ChangeShapes
set_option linter.unusedVariables false

theorem gSyn : Tryd.prog.globalNamed "strconv.ErrSyntax" = some 0 := by kernel_rfl
theorem gRng : Tryd.prog.globalNamed "strconv.ErrRange" = some 1 := by kernel_rfl
theorem gPow : Tryd.prog.globalNamed "internal/strconv.uint64pow10" = some 2 := by kernel_rfl
theorem tySyn : (Tryd.prog.globals[0]?).map (·.type) = some 61 := by kernel_rfl
theorem tyRng : (Tryd.prog.globals[1]?).map (·.type) = some 61 := by kernel_rfl
theorem tyPow : (Tryd.prog.globals[2]?).map (·.type) = some 92 := by kernel_rfl
theorem star : "*" ++ "errors.errorString" = "*errors.errorString" := by decide
theorem rowErr (u : TypeId) (h : Tryd.prog.typeName? 3 u = some "*errors.errorString") : u = 98 :=
  typeName_ptr_named (nm := "errors.errorString") (by rw [star]; kernel_rfl) (by kernel_rfl) (by decide) u (by rw [star]; exact h)
theorem cErr : Tryd.prog.cellsOf 100 = 1 := by kernel_rfl
theorem cStr : Tryd.prog.cellsOf 9 = 1 := by kernel_rfl
theorem cU64 : Tryd.prog.cellsOf 67 = 1 := by kernel_rfl
theorem cPow : Tryd.prog.cellsOf 92 = 20 := by kernel_rfl
/-- What the five listed variables read as. -/
def laid5 : List (String × DataW Unit) := [("math/bits.deBruijn32tab", Rows.laid_math_bits_deBruijn32tab), ("math/bits.deBruijn64tab", Rows.laid_math_bits_deBruijn64tab), ("internal/strconv.uint64pow10", Rows.laid_internal_strconv_uint64pow10), ("strconv.ErrRange", Rows.laid_strconv_ErrRange), ("strconv.ErrSyntax", Rows.laid_strconv_ErrSyntax)]
theorem pow_data : (Rows.laid_internal_strconv_uint64pow10 : DataW Unit) = Lib.tabData .u64 Lib.pow10Tab := by kernel_rfl
theorem of_laid {W : World} (h : laidMetH Tryd.prog laid5 W) : Lib.TabIs Tryd.prog W "internal/strconv.uint64pow10" .u64 Lib.pow10Tab ∧
    (∃ tp p, W.var? Tryd.prog "strconv.ErrSyntax" = some #[.iface tp p]) ∧ (∃ tp p, W.var? Tryd.prog "strconv.ErrRange" = some #[.iface tp p]) := by
  rw [MakeChecks.laidMetH_plain _ _ _ (by kernel_rfl)] at h
  have h3 := h.tail.tail
  have h4 := h3.tail
  have h5 := h4.tail
  rw [pow_data] at h3
  obtain ⟨a1, s1, v1, -, -, -⟩ := laid_sentinel h4 gRng tyRng Tryd.underlying61 rowErr Tryd.underlying98 Tryd.underlying100 rfl rfl Tryd.underlying9 cErr cStr
  obtain ⟨a0, s0, v0, -, -, -⟩ := laid_sentinel h5 gSyn tySyn Tryd.underlying61 rowErr Tryd.underlying98 Tryd.underlying100 rfl rfl Tryd.underlying9 cErr cStr
  exact ⟨Lib.tabIs_of_head gPow tyPow Tryd.underlying92 Tryd.underlying67 cU64 cPow h3, ⟨_, _, v0⟩, ⟨_, _, v1⟩⟩
/-- The door's own heap meets the condition. -/
theorem door_met (os : Os) (args : Array Value) : laidMetH Tryd.prog laid5 ((World.doorLaid Tryd.prog 400 os).forCall (fun _ _ => 0) ⟨#[], args, []⟩).memory :=
  laidMetH_of_parts3 (fuel := 8) (laidMet_of_run' 8 (by kernel_rfl) (by kernel_rfl)) (by kernel_rfl) (by kernel_rfl)

end Go.Proofs.YtljmmpjcagchmaaDoor
