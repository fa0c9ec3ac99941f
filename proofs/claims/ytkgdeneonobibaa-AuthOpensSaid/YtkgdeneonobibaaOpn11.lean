/-
  A list of bytes, as an argument.
-/
import Derived.Test.YtkgdeneonobibaaOpn9
namespace Go.Proofs.Ytkgdeneonobibaa
set_option linter.unusedVariables false
open Go.ChangeShapes Go.WideShapes Go.RowKit

set_option maxRecDepth 100000 in
theorem u8_arg {H : Type} {enc : TypeId × Value → H} {w : World} {r : Reach} {b : Nat} {held : Bool} {v : Value} {d : DataW H} {p : List MemPlace}
    (hv : Value.okWide Try.prog w r b 32 v) (h : DataW.Trod enc Try.prog w 0 (fun _ => true) held 32 v d p) :
    ∃ (A : Option Addr) (n c : Nat) (zs : List Int), v = .slice A n c ∧ IsRow .u8 w A n c zs ∧ ((∀ N ∈ d.weights Try.prog 32, N ≤ reachBytes) → c ≤ reachBytes) := by
  obtain ⟨A, n, c, rfl⟩ := okWide_slice Try.underlying32 hv
  obtain ⟨fuel, hf⟩ := h
  exact bytes_of hf
end Go.Proofs.Ytkgdeneonobibaa
