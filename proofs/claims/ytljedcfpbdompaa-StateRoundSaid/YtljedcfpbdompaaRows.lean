/-
  No cell of these rows narrows 'for every input' (looked for: loops, veiled, ifaces, maps, wideKeys, modest, calm, conditions, laid).
  DERIVED. THE GIVEN ROWS OF THIS SEAT. 3 by the template 'for every input the law returns true; each argument reads behind the call as it read before'; 0 by the template 'total and deterministic' (their statements: YtljedcfpbdompaaTotals.lean).
  GIVEN WITH THE SEED: the statements are not yours to turn. If you find one false, say at which input.
  Laid BY PROGRAM, IN A SANDBOX (cutbox-rows.mjs): the forced cells as the released guide's own fill.sh prints them over the translation fe9b255d2a4adac2… (all of the seat's roots in one cut). By AI agents, Wed Nov 11 2026. No macro, syntax, notation, axiom, sorry.
-/
import Derived.Test.YtljedcfpbdompaaChecked
import GoSem.Claim
import GoSem.ClaimJoined
import GoSem.ClaimMapViews
import Derived.JoinedTies
import Derived.KernelRfl
namespace Go.Proofs.Ytljedcfpbdompaa
/- THE CELL 'sum', in the pinned program and in every row, IS THE sha256 OF THE DUMP (.gsa) THAT YtljedcfpbdompaaProg.lean LOADS. Nothing in Lean hashes anything: it is a label: what it is worth is what the hold of that sum in a sandbox is worth. -/
noncomputable def Try.pinned : Pinned := { name := "ytljedcfpbdompaa", sum := "fe9b255d2a4adac23e3af2b2be3688cf89c9cfd18a04168539c8c52071a94337", checked := Try.checked }
namespace Rows
def none {H : Type} : Left H := { results := [], args := [] }

/-- 'lodestarlaw06.StateRound': WHATEVER THE INPUT: true; the input reads as it did. -/
def stateRoundSpec : ChangeSpec := { name := "stateRound", fn := fun _ => fun
  | [d1, d2, d3] => { results := [.lit (.bool true)], args := [d1, d2, d3] }
  | _ => none }
def stateRoundRow : OpenClaim := { program := "ytljedcfpbdompaa", sum := "fe9b255d2a4adac23e3af2b2be3688cf89c9cfd18a04168539c8c52071a94337", func := "lodestar/lodestarlaw06.StateRound", spec := "stateRound", unfollowed := true, recurses := true, apart := false }
def StateRoundSaid : Prop := stateRoundRow.holds Try.pinned (OpenSpec.ofChange stateRoundSpec)

/-- ITS FALSE NEIGHBOUR: 'it returns false'. Refute it at one input. -/
def stateRoundWrong : ChangeSpec := { name := "stateRound", fn := fun _ => fun
  | [d1, d2, d3] => { results := [.lit (.bool false)], args := [d1, d2, d3] }
  | _ => none }
def StateRoundWrongFalsely : Prop := stateRoundRow.holds Try.pinned (OpenSpec.ofChange stateRoundWrong)

/-- 'lodestarlaw06.StateGuards': WHATEVER THE INPUT: true; the input reads as it did. -/
def stateGuardsSpec : ChangeSpec := { name := "stateGuards", fn := fun _ => fun
  | [d1, d2, d3] => { results := [.lit (.bool true)], args := [d1, d2, d3] }
  | _ => none }
def stateGuardsRow : OpenClaim := { program := "ytljedcfpbdompaa", sum := "fe9b255d2a4adac23e3af2b2be3688cf89c9cfd18a04168539c8c52071a94337", func := "lodestar/lodestarlaw06.StateGuards", spec := "stateGuards", unfollowed := true, recurses := true, apart := false }
def StateGuardsSaid : Prop := stateGuardsRow.holds Try.pinned (OpenSpec.ofChange stateGuardsSpec)

/-- ITS FALSE NEIGHBOUR: 'it returns false'. Refute it at one input. -/
def stateGuardsWrong : ChangeSpec := { name := "stateGuards", fn := fun _ => fun
  | [d1, d2, d3] => { results := [.lit (.bool false)], args := [d1, d2, d3] }
  | _ => none }
def StateGuardsWrongFalsely : Prop := stateGuardsRow.holds Try.pinned (OpenSpec.ofChange stateGuardsWrong)

/-- 'lodestarlaw06.StateRow': WHATEVER THE INPUT: true; the input reads as it did. -/
def stateRowSpec : ChangeSpec := { name := "stateRow", fn := fun _ => fun
  | [d] => { results := [.lit (.bool true)], args := [d] }
  | _ => none }
def stateRowRow : OpenClaim := { program := "ytljedcfpbdompaa", sum := "fe9b255d2a4adac23e3af2b2be3688cf89c9cfd18a04168539c8c52071a94337", func := "lodestar/lodestarlaw06.StateRow", spec := "stateRow", unfollowed := true, recurses := true, apart := false }
def StateRowSaid : Prop := stateRowRow.holds Try.pinned (OpenSpec.ofChange stateRowSpec)

/-- ITS FALSE NEIGHBOUR: 'it returns false'. Refute it at one input. -/
def stateRowWrong : ChangeSpec := { name := "stateRow", fn := fun _ => fun
  | [d] => { results := [.lit (.bool false)], args := [d] }
  | _ => none }
def StateRowWrongFalsely : Prop := stateRowRow.holds Try.pinned (OpenSpec.ofChange stateRowWrong)

/- THE SECOND FORM. 'bulk': how many values and letters a reading holds, each counted each time it is reached (what is shared counts as often as it is met; a slice's spare places count too). A statement '..UptoSaid' is the law's where the arguments, and the package variables that the reading takes, are together of bulk at most 1048576: NARROWER than '..Said'. Prove '..Said' where nothing that the law and all that it calls make is longer than what came in: it says more and counts as full. Else prove '..UptoSaid'. A law counts once. -/
mutual
def uptoBulk {H : Type} : DataW H → Nat
  | .lit (.string bytes) => bytes.length + 1
  | .lit _ => 1
  | .nil => 1
  | .ptr d => uptoBulk d + 1
  | .slice elems spare => uptoBulkAll elems + uptoBulkAll spare + 1
  | .agg parts => uptoBulkAll parts + 1
  | .iface _ d => uptoBulk d + 1
  | .map entries => uptoBulkEntries entries + 1
  | .held _ => 1
def uptoBulkAll {H : Type} : List (DataW H) → Nat
  | [] => 0
  | d :: r => uptoBulk d + uptoBulkAll r
def uptoBulkEntries {H : Type} : List (Lit × DataW H) → Nat
  | [] => 0
  | x :: r => uptoBulkEntry x + uptoBulkEntries r
def uptoBulkEntry {H : Type} : Lit × DataW H → Nat
  | (.string bytes, d) => bytes.length + uptoBulk d + 1
  | (_, d) => uptoBulk d + 1
 end
def uptoSmall : (H : Type) → List (DataW H) → Bool := fun _ ds => decide (uptoBulkAll ds ≤ 1048576)
def OpenSpec.upto (s : _root_.Go.ChangeSpec) : _root_.Go.OpenSpec := { _root_.Go.OpenSpec.ofChange s with cond := some uptoSmall }

/-- 'lodestarlaw06.StateRound', WHERE WHAT IT READS IS OF BULK AT MOST 1048576: true; the input reads as it did. -/
def stateRoundUptoRow : OpenClaim := { program := "ytljedcfpbdompaa", sum := "fe9b255d2a4adac23e3af2b2be3688cf89c9cfd18a04168539c8c52071a94337", func := "lodestar/lodestarlaw06.StateRound", spec := "stateRound", unfollowed := true, recurses := true, apart := false, narrowed := true }
def StateRoundUptoSaid : Prop := stateRoundUptoRow.holds Try.pinned (OpenSpec.upto stateRoundSpec)

/-- 'lodestarlaw06.StateGuards', WHERE WHAT IT READS IS OF BULK AT MOST 1048576: true; the input reads as it did. -/
def stateGuardsUptoRow : OpenClaim := { program := "ytljedcfpbdompaa", sum := "fe9b255d2a4adac23e3af2b2be3688cf89c9cfd18a04168539c8c52071a94337", func := "lodestar/lodestarlaw06.StateGuards", spec := "stateGuards", unfollowed := true, recurses := true, apart := false, narrowed := true }
def StateGuardsUptoSaid : Prop := stateGuardsUptoRow.holds Try.pinned (OpenSpec.upto stateGuardsSpec)

/-- 'lodestarlaw06.StateRow', WHERE WHAT IT READS IS OF BULK AT MOST 1048576: true; the input reads as it did. -/
def stateRowUptoRow : OpenClaim := { program := "ytljedcfpbdompaa", sum := "fe9b255d2a4adac23e3af2b2be3688cf89c9cfd18a04168539c8c52071a94337", func := "lodestar/lodestarlaw06.StateRow", spec := "stateRow", unfollowed := true, recurses := true, apart := false, narrowed := true }
def StateRowUptoSaid : Prop := stateRowUptoRow.holds Try.pinned (OpenSpec.upto stateRowSpec)

end Rows
end Go.Proofs.Ytljedcfpbdompaa
