/-
  DERIVED. GIVEN WITH THE SEED: THE CARDS: each row of YtlnkjmjddecjdaaDoorRows.lean that lists a variable, with what it lists TIED to the program's text (the seventh form; the later family's looks); each row that meets fmt, with fmt's text TOLD by the authors' own Lean function (tested against real Go, not proved from fmt's source: count such statements apart). THE CARD IS WHAT COUNTS. Prove the row's statement (the work); the ties are given (YtlnkjmjddecjdaaDoorTie.lean); close each card by the builder's one call (the guide's Derived/Test/ToyasCard.lean, 'card_holds'). Laid BY PROGRAM, IN A SANDBOX (cutbox-door.mjs). By AI agents, Wed Nov 11 2026. No macro, syntax, notation, axiom, sorry.
-/
import Derived.Test.YtlnkjmjddecjdaaDoorRows
import GoSem.ClaimSeven
namespace Go.Proofs.YtlnkjmjddecjdaaDoor
namespace Rows

/-- THE TIED CARD OF 'lodestarlaw01.OctetWrites'. -/
def octetWritesCard : Claim7 := { stood := { row := octetWritesRow, standIns := [], harness := (true, "5f1cdc90c06d612d2f34705d77cfa6edf34517cf8e78fb25eba886cbc6de487e"), looks := false }, kinds := [], alts := [], laidByText := true, laidKinds := [.data, .data, .data], laidTests := true, laidLooks := .later }
def OctetWritesCardSaid : Prop := Claim7.holds Tryd.pinned (.plain (OpenSpec.ofChange octetWritesSpec)) octetWritesCard

/-- THE SECOND FORM's CARD OF 'lodestarlaw01.OctetWrites'. -/
def octetWritesUptoCard : Claim7 := { stood := { row := octetWritesUptoRow, standIns := [], harness := (true, "5f1cdc90c06d612d2f34705d77cfa6edf34517cf8e78fb25eba886cbc6de487e"), looks := false }, kinds := [], alts := [], laidByText := true, laidKinds := [.data, .data, .data], laidTests := true, laidLooks := .later }
def OctetWritesUptoCardSaid : Prop := Claim7.holds Tryd.pinned (.plain (OpenSpec.upto octetWritesSpec)) octetWritesUptoCard
end Rows
end Go.Proofs.YtlnkjmjddecjdaaDoor
