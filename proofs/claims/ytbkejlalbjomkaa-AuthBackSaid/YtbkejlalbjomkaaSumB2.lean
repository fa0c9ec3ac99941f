/-
  The pair of sums that the program adds up: (*both).add.
-/
import Derived.Test.YtbkejlalbjomkaaRefA
import Derived.Test.YtbkejlalbjomkaaSumMath
import Derived.Test.YtbkejlalbjomkaaBits
import Derived.RegionTactic
import Derived.ChangeAlike
import Derived.BigRegion
namespace Go.Proofs.Ytbkejlalbjomkaa
set_option linter.unusedVariables false
open Go.RowKit

theorem ret_int {k : IntKind} {a b : Int} (h : a = b) : Ending.returned (.int k a) = .returned (.int k b) := by rw [h]

end Go.Proofs.Ytbkejlalbjomkaa
