/-
  No cell of these rows narrows 'for every input' (looked for: loops, veiled, ifaces, maps, wideKeys, modest, calm, conditions, laid).
  DERIVED. THE GIVEN ROWS OF THIS SEAT. 6 by the template 'for every input the law returns true; each argument reads behind the call as it read before'; 0 by the template 'total and deterministic' (their statements: YtkgdeneonobibaaTotals.lean).
  GIVEN WITH THE SEED: the statements are not yours to turn. If you find one false, say at which input.
  Laid BY PROGRAM, IN A SANDBOX (cutbox-rows.mjs): the forced cells as the released guide's own fill.sh prints them over the translation bfdd4f0178d6971a… (all of the seat's roots in one cut). By AI agents, Wed Nov 11 2026. No macro, syntax, notation, axiom, sorry.
-/
import Derived.Test.YtkgdeneonobibaaChecked
import GoSem.Claim
import GoSem.ClaimJoined
import GoSem.ClaimMapViews
import Derived.JoinedTies
import Derived.KernelRfl
namespace Go.Proofs.Ytkgdeneonobibaa
/- THE CELL 'sum', in the pinned program and in every row, IS THE sha256 OF THE DUMP (.gsa) THAT YtkgdeneonobibaaProg.lean LOADS. Nothing in Lean hashes anything: it is a label: what it is worth is what the hold of that sum in a sandbox is worth. -/
noncomputable def Try.pinned : Pinned := { name := "ytkgdeneonobibaa", sum := "bfdd4f0178d6971a70ded5cbfb285cd8710b1aed9c6d3d150f1a2ec1d0086ff6", checked := Try.checked }
namespace Rows
def none {H : Type} : Left H := { results := [], args := [] }

/-- 'lodestarlaw08.AuthChecks': WHATEVER THE INPUT: true; the input reads as it did. -/
def authChecksSpec : ChangeSpec := { name := "authChecks", fn := fun _ => fun
  | [d1, d2] => { results := [.lit (.bool true)], args := [d1, d2] }
  | _ => none }
def authChecksRow : OpenClaim := { program := "ytkgdeneonobibaa", sum := "bfdd4f0178d6971a70ded5cbfb285cd8710b1aed9c6d3d150f1a2ec1d0086ff6", func := "lodestar/lodestarlaw08.AuthChecks", spec := "authChecks", unfollowed := true, recurses := true, apart := false }
def AuthChecksSaid : Prop := authChecksRow.holds Try.pinned (OpenSpec.ofChange authChecksSpec)

/-- ITS FALSE NEIGHBOUR: 'it returns false'. Refute it at one input. -/
def authChecksWrong : ChangeSpec := { name := "authChecks", fn := fun _ => fun
  | [d1, d2] => { results := [.lit (.bool false)], args := [d1, d2] }
  | _ => none }
def AuthChecksWrongFalsely : Prop := authChecksRow.holds Try.pinned (OpenSpec.ofChange authChecksWrong)

/-- 'lodestarlaw08.AuthOpens': WHATEVER THE INPUT: true; the input reads as it did. -/
def authOpensSpec : ChangeSpec := { name := "authOpens", fn := fun _ => fun
  | [d1, d2, d3] => { results := [.lit (.bool true)], args := [d1, d2, d3] }
  | _ => none }
def authOpensRow : OpenClaim := { program := "ytkgdeneonobibaa", sum := "bfdd4f0178d6971a70ded5cbfb285cd8710b1aed9c6d3d150f1a2ec1d0086ff6", func := "lodestar/lodestarlaw08.AuthOpens", spec := "authOpens", unfollowed := true, recurses := true, apart := false }
def AuthOpensSaid : Prop := authOpensRow.holds Try.pinned (OpenSpec.ofChange authOpensSpec)

/-- ITS FALSE NEIGHBOUR: 'it returns false'. Refute it at one input. -/
def authOpensWrong : ChangeSpec := { name := "authOpens", fn := fun _ => fun
  | [d1, d2, d3] => { results := [.lit (.bool false)], args := [d1, d2, d3] }
  | _ => none }
def AuthOpensWrongFalsely : Prop := authOpensRow.holds Try.pinned (OpenSpec.ofChange authOpensWrong)

/-- 'lodestarlaw08.AuthNone': WHATEVER THE INPUT: true; the input reads as it did. -/
def authNoneSpec : ChangeSpec := { name := "authNone", fn := fun _ => fun
  | [d1, d2] => { results := [.lit (.bool true)], args := [d1, d2] }
  | _ => none }
def authNoneRow : OpenClaim := { program := "ytkgdeneonobibaa", sum := "bfdd4f0178d6971a70ded5cbfb285cd8710b1aed9c6d3d150f1a2ec1d0086ff6", func := "lodestar/lodestarlaw08.AuthNone", spec := "authNone", unfollowed := true, recurses := true, apart := false }
def AuthNoneSaid : Prop := authNoneRow.holds Try.pinned (OpenSpec.ofChange authNoneSpec)

/-- ITS FALSE NEIGHBOUR: 'it returns false'. Refute it at one input. -/
def authNoneWrong : ChangeSpec := { name := "authNone", fn := fun _ => fun
  | [d1, d2] => { results := [.lit (.bool false)], args := [d1, d2] }
  | _ => none }
def AuthNoneWrongFalsely : Prop := authNoneRow.holds Try.pinned (OpenSpec.ofChange authNoneWrong)

/-- 'lodestarlaw08.AuthLast': WHATEVER THE INPUT: true; the input reads as it did. -/
def authLastSpec : ChangeSpec := { name := "authLast", fn := fun _ => fun
  | [d] => { results := [.lit (.bool true)], args := [d] }
  | _ => none }
def authLastRow : OpenClaim := { program := "ytkgdeneonobibaa", sum := "bfdd4f0178d6971a70ded5cbfb285cd8710b1aed9c6d3d150f1a2ec1d0086ff6", func := "lodestar/lodestarlaw08.AuthLast", spec := "authLast", unfollowed := true, recurses := true, apart := false }
def AuthLastSaid : Prop := authLastRow.holds Try.pinned (OpenSpec.ofChange authLastSpec)

/-- ITS FALSE NEIGHBOUR: 'it returns false'. Refute it at one input. -/
def authLastWrong : ChangeSpec := { name := "authLast", fn := fun _ => fun
  | [d] => { results := [.lit (.bool false)], args := [d] }
  | _ => none }
def AuthLastWrongFalsely : Prop := authLastRow.holds Try.pinned (OpenSpec.ofChange authLastWrong)

/-- 'lodestarlaw08.AuthSecrets': WHATEVER THE INPUT: true; the input reads as it did. -/
def authSecretsSpec : ChangeSpec := { name := "authSecrets", fn := fun _ => fun
  | [d1, d2, d3] => { results := [.lit (.bool true)], args := [d1, d2, d3] }
  | _ => none }
def authSecretsRow : OpenClaim := { program := "ytkgdeneonobibaa", sum := "bfdd4f0178d6971a70ded5cbfb285cd8710b1aed9c6d3d150f1a2ec1d0086ff6", func := "lodestar/lodestarlaw08.AuthSecrets", spec := "authSecrets", unfollowed := true, recurses := true, apart := false }
def AuthSecretsSaid : Prop := authSecretsRow.holds Try.pinned (OpenSpec.ofChange authSecretsSpec)

/-- ITS FALSE NEIGHBOUR: 'it returns false'. Refute it at one input. -/
def authSecretsWrong : ChangeSpec := { name := "authSecrets", fn := fun _ => fun
  | [d1, d2, d3] => { results := [.lit (.bool false)], args := [d1, d2, d3] }
  | _ => none }
def AuthSecretsWrongFalsely : Prop := authSecretsRow.holds Try.pinned (OpenSpec.ofChange authSecretsWrong)

/-- 'lodestarlaw08.AuthBack': WHATEVER THE INPUT: true; the input reads as it did. -/
def authBackSpec : ChangeSpec := { name := "authBack", fn := fun _ => fun
  | [d1, d2, d3, d4] => { results := [.lit (.bool true)], args := [d1, d2, d3, d4] }
  | _ => none }
def authBackRow : OpenClaim := { program := "ytkgdeneonobibaa", sum := "bfdd4f0178d6971a70ded5cbfb285cd8710b1aed9c6d3d150f1a2ec1d0086ff6", func := "lodestar/lodestarlaw08.AuthBack", spec := "authBack", unfollowed := true, recurses := true, apart := false }
def AuthBackSaid : Prop := authBackRow.holds Try.pinned (OpenSpec.ofChange authBackSpec)

/-- ITS FALSE NEIGHBOUR: 'it returns false'. Refute it at one input. -/
def authBackWrong : ChangeSpec := { name := "authBack", fn := fun _ => fun
  | [d1, d2, d3, d4] => { results := [.lit (.bool false)], args := [d1, d2, d3, d4] }
  | _ => none }
def AuthBackWrongFalsely : Prop := authBackRow.holds Try.pinned (OpenSpec.ofChange authBackWrong)

/- THE SECOND FORM. 'bulk': how many values and letters a reading holds, each counted each time it is reached (what is shared counts as often as it is met; a slice's spare places count too). A statement '..UptoSaid' is the law's where the arguments, and the package variables that the reading takes, are together of bulk at most 1048576: NARROWER than '..Said'. Prove '..Said' where nothing that the law and all that it calls make is longer than what came in: it says more and counts as full. Else prove '..UptoSaid'. A law counts once. -/
mutual
def uptoBulk {H : Type} : DataW H → Nat
  | .lit (.string bytes) => bytes.length + 1
  | .lit _ => 1
  | .nil => 1
  | .ptr d => uptoBulk d + 1
  | .slice elems spare => uptoBulkAll elems + uptoBulkAll spare + 1
  | .agg parts => uptoBulkAll parts + 1
  | .iface _ d => uptoBulk d + 1
  | .map entries => uptoBulkEntries entries + 1
  | .held _ => 1
def uptoBulkAll {H : Type} : List (DataW H) → Nat
  | [] => 0
  | d :: r => uptoBulk d + uptoBulkAll r
def uptoBulkEntries {H : Type} : List (Lit × DataW H) → Nat
  | [] => 0
  | x :: r => uptoBulkEntry x + uptoBulkEntries r
def uptoBulkEntry {H : Type} : Lit × DataW H → Nat
  | (.string bytes, d) => bytes.length + uptoBulk d + 1
  | (_, d) => uptoBulk d + 1
 end
def uptoSmall : (H : Type) → List (DataW H) → Bool := fun _ ds => decide (uptoBulkAll ds ≤ 1048576)
def OpenSpec.upto (s : _root_.Go.ChangeSpec) : _root_.Go.OpenSpec := { _root_.Go.OpenSpec.ofChange s with cond := some uptoSmall }

/-- 'lodestarlaw08.AuthChecks', WHERE WHAT IT READS IS OF BULK AT MOST 1048576: true; the input reads as it did. -/
def authChecksUptoRow : OpenClaim := { program := "ytkgdeneonobibaa", sum := "bfdd4f0178d6971a70ded5cbfb285cd8710b1aed9c6d3d150f1a2ec1d0086ff6", func := "lodestar/lodestarlaw08.AuthChecks", spec := "authChecks", unfollowed := true, recurses := true, apart := false, narrowed := true }
def AuthChecksUptoSaid : Prop := authChecksUptoRow.holds Try.pinned (OpenSpec.upto authChecksSpec)

/-- 'lodestarlaw08.AuthOpens', WHERE WHAT IT READS IS OF BULK AT MOST 1048576: true; the input reads as it did. -/
def authOpensUptoRow : OpenClaim := { program := "ytkgdeneonobibaa", sum := "bfdd4f0178d6971a70ded5cbfb285cd8710b1aed9c6d3d150f1a2ec1d0086ff6", func := "lodestar/lodestarlaw08.AuthOpens", spec := "authOpens", unfollowed := true, recurses := true, apart := false, narrowed := true }
def AuthOpensUptoSaid : Prop := authOpensUptoRow.holds Try.pinned (OpenSpec.upto authOpensSpec)

/-- 'lodestarlaw08.AuthNone', WHERE WHAT IT READS IS OF BULK AT MOST 1048576: true; the input reads as it did. -/
def authNoneUptoRow : OpenClaim := { program := "ytkgdeneonobibaa", sum := "bfdd4f0178d6971a70ded5cbfb285cd8710b1aed9c6d3d150f1a2ec1d0086ff6", func := "lodestar/lodestarlaw08.AuthNone", spec := "authNone", unfollowed := true, recurses := true, apart := false, narrowed := true }
def AuthNoneUptoSaid : Prop := authNoneUptoRow.holds Try.pinned (OpenSpec.upto authNoneSpec)

/-- 'lodestarlaw08.AuthLast', WHERE WHAT IT READS IS OF BULK AT MOST 1048576: true; the input reads as it did. -/
def authLastUptoRow : OpenClaim := { program := "ytkgdeneonobibaa", sum := "bfdd4f0178d6971a70ded5cbfb285cd8710b1aed9c6d3d150f1a2ec1d0086ff6", func := "lodestar/lodestarlaw08.AuthLast", spec := "authLast", unfollowed := true, recurses := true, apart := false, narrowed := true }
def AuthLastUptoSaid : Prop := authLastUptoRow.holds Try.pinned (OpenSpec.upto authLastSpec)

/-- 'lodestarlaw08.AuthSecrets', WHERE WHAT IT READS IS OF BULK AT MOST 1048576: true; the input reads as it did. -/
def authSecretsUptoRow : OpenClaim := { program := "ytkgdeneonobibaa", sum := "bfdd4f0178d6971a70ded5cbfb285cd8710b1aed9c6d3d150f1a2ec1d0086ff6", func := "lodestar/lodestarlaw08.AuthSecrets", spec := "authSecrets", unfollowed := true, recurses := true, apart := false, narrowed := true }
def AuthSecretsUptoSaid : Prop := authSecretsUptoRow.holds Try.pinned (OpenSpec.upto authSecretsSpec)

/-- 'lodestarlaw08.AuthBack', WHERE WHAT IT READS IS OF BULK AT MOST 1048576: true; the input reads as it did. -/
def authBackUptoRow : OpenClaim := { program := "ytkgdeneonobibaa", sum := "bfdd4f0178d6971a70ded5cbfb285cd8710b1aed9c6d3d150f1a2ec1d0086ff6", func := "lodestar/lodestarlaw08.AuthBack", spec := "authBack", unfollowed := true, recurses := true, apart := false, narrowed := true }
def AuthBackUptoSaid : Prop := authBackUptoRow.holds Try.pinned (OpenSpec.upto authBackSpec)

end Rows
end Go.Proofs.Ytkgdeneonobibaa
