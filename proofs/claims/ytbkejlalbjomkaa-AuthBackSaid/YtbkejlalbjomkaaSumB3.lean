/-
  Fletcher and Whole of the program.
-/
import Derived.Test.YtbkejlalbjomkaaSumB2
import Derived.Test.YtbkejlalbjomkaaArrEq
namespace Go.Proofs.Ytbkejlalbjomkaa
set_option linter.unusedVariables false
open Go.RowKit

theorem Oct.zz : Oct [0, 0] := Oct.of_mem (by simp)

end Go.Proofs.Ytbkejlalbjomkaa
