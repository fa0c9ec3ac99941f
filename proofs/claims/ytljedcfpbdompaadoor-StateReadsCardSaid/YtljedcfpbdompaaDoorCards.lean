/-
  DERIVED. GIVEN WITH THE SEED: THE CARDS: each row of YtljedcfpbdompaaDoorRows.lean that lists a variable, with what it lists TIED to the program's text (the seventh form; the later family's looks); each row that meets fmt, with fmt's text TOLD by the authors' own Lean function (tested against real Go, not proved from fmt's source: count such statements apart). THE CARD IS WHAT COUNTS. Prove the row's statement (the work); the ties are given (YtljedcfpbdompaaDoorTie.lean); close each card by the builder's one call (the guide's Derived/Test/ToyasCard.lean, 'card_holds'). Laid BY PROGRAM, IN A SANDBOX (cutbox-door.mjs). By AI agents, Wed Nov 11 2026. No macro, syntax, notation, axiom, sorry.
-/
import Derived.Test.YtljedcfpbdompaaDoorRows
import GoSem.ClaimSeven
namespace Go.Proofs.YtljedcfpbdompaaDoor
namespace Rows

/-- THE TIED CARD OF 'lodestarlaw06.StateReads'. -/
def stateReadsCard : Claim7 := { stood := { row := stateReadsRow, standIns := [], harness := (true, "2738fa673eaaef51781bb5fd9d8e8e2a8daaa66f1860970d58fea10fb28d837a"), looks := true }, kinds := [], alts := [], laidByText := true, laidKinds := [.data, .data, .data], laidTests := true, laidLooks := .later }
def StateReadsCardSaid : Prop := Claim7.holds Tryd.pinned (.plain (OpenSpec.ofChange stateReadsSpec)) stateReadsCard

/-- THE SECOND FORM's CARD OF 'lodestarlaw06.StateReads'. -/
def stateReadsUptoCard : Claim7 := { stood := { row := stateReadsUptoRow, standIns := [], harness := (true, "2738fa673eaaef51781bb5fd9d8e8e2a8daaa66f1860970d58fea10fb28d837a"), looks := true }, kinds := [], alts := [], laidByText := true, laidKinds := [.data, .data, .data], laidTests := true, laidLooks := .later }
def StateReadsUptoCardSaid : Prop := Claim7.holds Tryd.pinned (.plain (OpenSpec.upto stateReadsSpec)) stateReadsUptoCard
end Rows
end Go.Proofs.YtljedcfpbdompaaDoor
