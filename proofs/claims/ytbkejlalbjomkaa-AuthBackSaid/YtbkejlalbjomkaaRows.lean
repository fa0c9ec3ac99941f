/-
  No cell of these rows narrows 'for every input' (looked for: loops, veiled, ifaces, maps, wideKeys, modest, calm, conditions, laid).
  DERIVED. THE GIVEN ROWS OF THIS SEAT. 5 by the template 'for every input the law returns true; each argument reads behind the call as it read before'; 0 by the template 'total and deterministic' (their statements: YtbkejlalbjomkaaTotals.lean).
  GIVEN WITH THE SEED: the statements are not yours to turn. If you find one false, say at which input.
  Laid BY PROGRAM, IN A SANDBOX (cutbox-rows.mjs): the forced cells as the released guide's own fill.sh prints them over the translation 0f8e33ab7e79dd72… (all of the seat's roots in one cut). By AI agents, Wed Nov 11 2026. No macro, syntax, notation, axiom, sorry.
-/
import Derived.Test.YtbkejlalbjomkaaChecked
import GoSem.Claim
import GoSem.ClaimJoined
import GoSem.ClaimMapViews
import Derived.JoinedTies
import Derived.KernelRfl
namespace Go.Proofs.Ytbkejlalbjomkaa
/- THE CELL 'sum', in the pinned program and in every row, IS THE sha256 OF THE DUMP (.gsa) THAT YtbkejlalbjomkaaProg.lean LOADS. Nothing in Lean hashes anything: it is a label: what it is worth is what the hold of that sum in a sandbox is worth. -/
noncomputable def Try.pinned : Pinned := { name := "ytbkejlalbjomkaa", sum := "0f8e33ab7e79dd7250fb78b95531516e5ddf19d19344971a738a010aae8715d7", checked := Try.checked }
namespace Rows
def none {H : Type} : Left H := { results := [], args := [] }

/-- 'lodestarlaw07.PacketRound': WHATEVER THE INPUT: true; the input reads as it did. -/
def packetRoundSpec : ChangeSpec := { name := "packetRound", fn := fun _ => fun
  | [d1, d2] => { results := [.lit (.bool true)], args := [d1, d2] }
  | _ => none }
def packetRoundRow : OpenClaim := { program := "ytbkejlalbjomkaa", sum := "0f8e33ab7e79dd7250fb78b95531516e5ddf19d19344971a738a010aae8715d7", func := "lodestar/lodestarlaw07.PacketRound", spec := "packetRound", unfollowed := true, recurses := true, apart := false }
def PacketRoundSaid : Prop := packetRoundRow.holds Try.pinned (OpenSpec.ofChange packetRoundSpec)

/-- ITS FALSE NEIGHBOUR: 'it returns false'. Refute it at one input. -/
def packetRoundWrong : ChangeSpec := { name := "packetRound", fn := fun _ => fun
  | [d1, d2] => { results := [.lit (.bool false)], args := [d1, d2] }
  | _ => none }
def PacketRoundWrongFalsely : Prop := packetRoundRow.holds Try.pinned (OpenSpec.ofChange packetRoundWrong)

/-- 'lodestarlaw07.PacketBack': WHATEVER THE INPUT: true; the input reads as it did. -/
def packetBackSpec : ChangeSpec := { name := "packetBack", fn := fun _ => fun
  | [d] => { results := [.lit (.bool true)], args := [d] }
  | _ => none }
def packetBackRow : OpenClaim := { program := "ytbkejlalbjomkaa", sum := "0f8e33ab7e79dd7250fb78b95531516e5ddf19d19344971a738a010aae8715d7", func := "lodestar/lodestarlaw07.PacketBack", spec := "packetBack", unfollowed := true, recurses := true, apart := false }
def PacketBackSaid : Prop := packetBackRow.holds Try.pinned (OpenSpec.ofChange packetBackSpec)

/-- ITS FALSE NEIGHBOUR: 'it returns false'. Refute it at one input. -/
def packetBackWrong : ChangeSpec := { name := "packetBack", fn := fun _ => fun
  | [d] => { results := [.lit (.bool false)], args := [d] }
  | _ => none }
def PacketBackWrongFalsely : Prop := packetBackRow.holds Try.pinned (OpenSpec.ofChange packetBackWrong)

/-- 'lodestarlaw07.PacketGuards': WHATEVER THE INPUT: true; the input reads as it did. -/
def packetGuardsSpec : ChangeSpec := { name := "packetGuards", fn := fun _ => fun
  | [d1, d2, d3, d4, d5, d6] => { results := [.lit (.bool true)], args := [d1, d2, d3, d4, d5, d6] }
  | _ => none }
def packetGuardsRow : OpenClaim := { program := "ytbkejlalbjomkaa", sum := "0f8e33ab7e79dd7250fb78b95531516e5ddf19d19344971a738a010aae8715d7", func := "lodestar/lodestarlaw07.PacketGuards", spec := "packetGuards", unfollowed := true, recurses := true, apart := false }
def PacketGuardsSaid : Prop := packetGuardsRow.holds Try.pinned (OpenSpec.ofChange packetGuardsSpec)

/-- ITS FALSE NEIGHBOUR: 'it returns false'. Refute it at one input. -/
def packetGuardsWrong : ChangeSpec := { name := "packetGuards", fn := fun _ => fun
  | [d1, d2, d3, d4, d5, d6] => { results := [.lit (.bool false)], args := [d1, d2, d3, d4, d5, d6] }
  | _ => none }
def PacketGuardsWrongFalsely : Prop := packetGuardsRow.holds Try.pinned (OpenSpec.ofChange packetGuardsWrong)

/-- 'lodestarlaw08.AuthSecrets': WHATEVER THE INPUT: true; the input reads as it did. -/
def authSecretsSpec : ChangeSpec := { name := "authSecrets", fn := fun _ => fun
  | [d1, d2, d3] => { results := [.lit (.bool true)], args := [d1, d2, d3] }
  | _ => none }
def authSecretsRow : OpenClaim := { program := "ytbkejlalbjomkaa", sum := "0f8e33ab7e79dd7250fb78b95531516e5ddf19d19344971a738a010aae8715d7", func := "lodestar/lodestarlaw08.AuthSecrets", spec := "authSecrets", unfollowed := true, recurses := true, apart := false }
def AuthSecretsSaid : Prop := authSecretsRow.holds Try.pinned (OpenSpec.ofChange authSecretsSpec)

/-- ITS FALSE NEIGHBOUR: 'it returns false'. Refute it at one input. -/
def authSecretsWrong : ChangeSpec := { name := "authSecrets", fn := fun _ => fun
  | [d1, d2, d3] => { results := [.lit (.bool false)], args := [d1, d2, d3] }
  | _ => none }
def AuthSecretsWrongFalsely : Prop := authSecretsRow.holds Try.pinned (OpenSpec.ofChange authSecretsWrong)

/-- 'lodestarlaw08.AuthBack': WHATEVER THE INPUT: true; the input reads as it did. -/
def authBackSpec : ChangeSpec := { name := "authBack", fn := fun _ => fun
  | [d1, d2, d3, d4] => { results := [.lit (.bool true)], args := [d1, d2, d3, d4] }
  | _ => none }
def authBackRow : OpenClaim := { program := "ytbkejlalbjomkaa", sum := "0f8e33ab7e79dd7250fb78b95531516e5ddf19d19344971a738a010aae8715d7", func := "lodestar/lodestarlaw08.AuthBack", spec := "authBack", unfollowed := true, recurses := true, apart := false }
def AuthBackSaid : Prop := authBackRow.holds Try.pinned (OpenSpec.ofChange authBackSpec)

/-- ITS FALSE NEIGHBOUR: 'it returns false'. Refute it at one input. -/
def authBackWrong : ChangeSpec := { name := "authBack", fn := fun _ => fun
  | [d1, d2, d3, d4] => { results := [.lit (.bool false)], args := [d1, d2, d3, d4] }
  | _ => none }
def AuthBackWrongFalsely : Prop := authBackRow.holds Try.pinned (OpenSpec.ofChange authBackWrong)

/- THE SECOND FORM. 'bulk': how many values and letters a reading holds, each counted each time it is reached (what is shared counts as often as it is met; a slice's spare places count too). A statement '..UptoSaid' is the law's where the arguments, and the package variables that the reading takes, are together of bulk at most 1048576: NARROWER than '..Said'. Prove '..Said' where nothing that the law and all that it calls make is longer than what came in: it says more and counts as full. Else prove '..UptoSaid'. A law counts once. -/
mutual
def uptoBulk {H : Type} : DataW H → Nat
  | .lit (.string bytes) => bytes.length + 1
  | .lit _ => 1
  | .nil => 1
  | .ptr d => uptoBulk d + 1
  | .slice elems spare => uptoBulkAll elems + uptoBulkAll spare + 1
  | .agg parts => uptoBulkAll parts + 1
  | .iface _ d => uptoBulk d + 1
  | .map entries => uptoBulkEntries entries + 1
  | .held _ => 1
def uptoBulkAll {H : Type} : List (DataW H) → Nat
  | [] => 0
  | d :: r => uptoBulk d + uptoBulkAll r
def uptoBulkEntries {H : Type} : List (Lit × DataW H) → Nat
  | [] => 0
  | x :: r => uptoBulkEntry x + uptoBulkEntries r
def uptoBulkEntry {H : Type} : Lit × DataW H → Nat
  | (.string bytes, d) => bytes.length + uptoBulk d + 1
  | (_, d) => uptoBulk d + 1
 end
def uptoSmall : (H : Type) → List (DataW H) → Bool := fun _ ds => decide (uptoBulkAll ds ≤ 1048576)
def OpenSpec.upto (s : _root_.Go.ChangeSpec) : _root_.Go.OpenSpec := { _root_.Go.OpenSpec.ofChange s with cond := some uptoSmall }

/-- 'lodestarlaw07.PacketRound', WHERE WHAT IT READS IS OF BULK AT MOST 1048576: true; the input reads as it did. -/
def packetRoundUptoRow : OpenClaim := { program := "ytbkejlalbjomkaa", sum := "0f8e33ab7e79dd7250fb78b95531516e5ddf19d19344971a738a010aae8715d7", func := "lodestar/lodestarlaw07.PacketRound", spec := "packetRound", unfollowed := true, recurses := true, apart := false, narrowed := true }
def PacketRoundUptoSaid : Prop := packetRoundUptoRow.holds Try.pinned (OpenSpec.upto packetRoundSpec)

/-- 'lodestarlaw07.PacketBack', WHERE WHAT IT READS IS OF BULK AT MOST 1048576: true; the input reads as it did. -/
def packetBackUptoRow : OpenClaim := { program := "ytbkejlalbjomkaa", sum := "0f8e33ab7e79dd7250fb78b95531516e5ddf19d19344971a738a010aae8715d7", func := "lodestar/lodestarlaw07.PacketBack", spec := "packetBack", unfollowed := true, recurses := true, apart := false, narrowed := true }
def PacketBackUptoSaid : Prop := packetBackUptoRow.holds Try.pinned (OpenSpec.upto packetBackSpec)

/-- 'lodestarlaw07.PacketGuards', WHERE WHAT IT READS IS OF BULK AT MOST 1048576: true; the input reads as it did. -/
def packetGuardsUptoRow : OpenClaim := { program := "ytbkejlalbjomkaa", sum := "0f8e33ab7e79dd7250fb78b95531516e5ddf19d19344971a738a010aae8715d7", func := "lodestar/lodestarlaw07.PacketGuards", spec := "packetGuards", unfollowed := true, recurses := true, apart := false, narrowed := true }
def PacketGuardsUptoSaid : Prop := packetGuardsUptoRow.holds Try.pinned (OpenSpec.upto packetGuardsSpec)

/-- 'lodestarlaw08.AuthSecrets', WHERE WHAT IT READS IS OF BULK AT MOST 1048576: true; the input reads as it did. -/
def authSecretsUptoRow : OpenClaim := { program := "ytbkejlalbjomkaa", sum := "0f8e33ab7e79dd7250fb78b95531516e5ddf19d19344971a738a010aae8715d7", func := "lodestar/lodestarlaw08.AuthSecrets", spec := "authSecrets", unfollowed := true, recurses := true, apart := false, narrowed := true }
def AuthSecretsUptoSaid : Prop := authSecretsUptoRow.holds Try.pinned (OpenSpec.upto authSecretsSpec)

/-- 'lodestarlaw08.AuthBack', WHERE WHAT IT READS IS OF BULK AT MOST 1048576: true; the input reads as it did. -/
def authBackUptoRow : OpenClaim := { program := "ytbkejlalbjomkaa", sum := "0f8e33ab7e79dd7250fb78b95531516e5ddf19d19344971a738a010aae8715d7", func := "lodestar/lodestarlaw08.AuthBack", spec := "authBack", unfollowed := true, recurses := true, apart := false, narrowed := true }
def AuthBackUptoSaid : Prop := authBackUptoRow.holds Try.pinned (OpenSpec.upto authBackSpec)

end Rows
end Go.Proofs.Ytbkejlalbjomkaa
