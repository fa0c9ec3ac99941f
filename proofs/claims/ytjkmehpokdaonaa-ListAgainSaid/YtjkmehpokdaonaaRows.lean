/-
  No cell of these rows narrows 'for every input' (looked for: loops, veiled, ifaces, maps, wideKeys, modest, calm, conditions, laid).
  DERIVED. THE GIVEN ROWS OF THIS SEAT. 5 by the template 'for every input the law returns true; each argument reads behind the call as it read before'; 0 by the template 'total and deterministic' (their statements: YtjkmehpokdaonaaTotals.lean).
  GIVEN WITH THE SEED: the statements are not yours to turn. If you find one false, say at which input.
  Laid BY PROGRAM, IN A SANDBOX (cutbox-rows.mjs): the forced cells as the released guide's own fill.sh prints them over the translation 9a65b0f04ba24896… (all of the seat's roots in one cut). By AI agents, Wed Nov 11 2026. No macro, syntax, notation, axiom, sorry.
-/
import Derived.Test.YtjkmehpokdaonaaChecked
import GoSem.Claim
import GoSem.ClaimJoined
import GoSem.ClaimMapViews
import Derived.JoinedTies
import Derived.KernelRfl
namespace Go.Proofs.Ytjkmehpokdaonaa
/- THE CELL 'sum', in the pinned program and in every row, IS THE sha256 OF THE DUMP (.gsa) THAT YtjkmehpokdaonaaProg.lean LOADS. Nothing in Lean hashes anything: it is a label: what it is worth is what the hold of that sum in a sandbox is worth. -/
noncomputable def Try.pinned : Pinned := { name := "ytjkmehpokdaonaa", sum := "9a65b0f04ba248967dd15a4da98d6c7ee4a7e2f40de368ac9c24ab0ccebd3095", checked := Try.checked }
namespace Rows
def none {H : Type} : Left H := { results := [], args := [] }

/-- 'lodestarlaw15.SpreadJudges': WHATEVER THE INPUT: true; the input reads as it did. -/
def spreadJudgesSpec : ChangeSpec := { name := "spreadJudges", fn := fun _ => fun
  | [d] => { results := [.lit (.bool true)], args := [d] }
  | _ => none }
def spreadJudgesRow : OpenClaim := { program := "ytjkmehpokdaonaa", sum := "9a65b0f04ba248967dd15a4da98d6c7ee4a7e2f40de368ac9c24ab0ccebd3095", func := "lodestar/lodestarlaw15.SpreadJudges", spec := "spreadJudges", unfollowed := true, recurses := true, plainKeys := false, apart := false }
def SpreadJudgesSaid : Prop := spreadJudgesRow.holds Try.pinned (OpenSpec.ofChange spreadJudgesSpec)

/-- ITS FALSE NEIGHBOUR: 'it returns false'. Refute it at one input. -/
def spreadJudgesWrong : ChangeSpec := { name := "spreadJudges", fn := fun _ => fun
  | [d] => { results := [.lit (.bool false)], args := [d] }
  | _ => none }
def SpreadJudgesWrongFalsely : Prop := spreadJudgesRow.holds Try.pinned (OpenSpec.ofChange spreadJudgesWrong)

/-- 'lodestarlaw15.SpreadNewer': WHATEVER THE INPUT: true; the input reads as it did. -/
def spreadNewerSpec : ChangeSpec := { name := "spreadNewer", fn := fun _ => fun
  | [d1, d2] => { results := [.lit (.bool true)], args := [d1, d2] }
  | _ => none }
def spreadNewerRow : OpenClaim := { program := "ytjkmehpokdaonaa", sum := "9a65b0f04ba248967dd15a4da98d6c7ee4a7e2f40de368ac9c24ab0ccebd3095", func := "lodestar/lodestarlaw15.SpreadNewer", spec := "spreadNewer", unfollowed := true, recurses := true, plainKeys := false, apart := false }
def SpreadNewerSaid : Prop := spreadNewerRow.holds Try.pinned (OpenSpec.ofChange spreadNewerSpec)

/-- ITS FALSE NEIGHBOUR: 'it returns false'. Refute it at one input. -/
def spreadNewerWrong : ChangeSpec := { name := "spreadNewer", fn := fun _ => fun
  | [d1, d2] => { results := [.lit (.bool false)], args := [d1, d2] }
  | _ => none }
def SpreadNewerWrongFalsely : Prop := spreadNewerRow.holds Try.pinned (OpenSpec.ofChange spreadNewerWrong)

/-- 'lodestarlaw15.ListAgain': WHATEVER THE INPUT: true; the input reads as it did. -/
def listAgainSpec : ChangeSpec := { name := "listAgain", fn := fun _ => fun
  | [d1, d2, d3] => { results := [.lit (.bool true)], args := [d1, d2, d3] }
  | _ => none }
def listAgainRow : OpenClaim := { program := "ytjkmehpokdaonaa", sum := "9a65b0f04ba248967dd15a4da98d6c7ee4a7e2f40de368ac9c24ab0ccebd3095", func := "lodestar/lodestarlaw15.ListAgain", spec := "listAgain", unfollowed := true, recurses := true, plainKeys := false, apart := false }
def ListAgainSaid : Prop := listAgainRow.holds Try.pinned (OpenSpec.ofChange listAgainSpec)

/-- ITS FALSE NEIGHBOUR: 'it returns false'. Refute it at one input. -/
def listAgainWrong : ChangeSpec := { name := "listAgain", fn := fun _ => fun
  | [d1, d2, d3] => { results := [.lit (.bool false)], args := [d1, d2, d3] }
  | _ => none }
def ListAgainWrongFalsely : Prop := listAgainRow.holds Try.pinned (OpenSpec.ofChange listAgainWrong)

/-- 'lodestarlaw15.ListNone': WHATEVER THE INPUT: true; the input reads as it did. -/
def listNoneSpec : ChangeSpec := { name := "listNone", fn := fun _ => fun
  | [d] => { results := [.lit (.bool true)], args := [d] }
  | _ => none }
def listNoneRow : OpenClaim := { program := "ytjkmehpokdaonaa", sum := "9a65b0f04ba248967dd15a4da98d6c7ee4a7e2f40de368ac9c24ab0ccebd3095", func := "lodestar/lodestarlaw15.ListNone", spec := "listNone", unfollowed := true, recurses := true, plainKeys := false, apart := false }
def ListNoneSaid : Prop := listNoneRow.holds Try.pinned (OpenSpec.ofChange listNoneSpec)

/-- ITS FALSE NEIGHBOUR: 'it returns false'. Refute it at one input. -/
def listNoneWrong : ChangeSpec := { name := "listNone", fn := fun _ => fun
  | [d] => { results := [.lit (.bool false)], args := [d] }
  | _ => none }
def ListNoneWrongFalsely : Prop := listNoneRow.holds Try.pinned (OpenSpec.ofChange listNoneWrong)

/-- 'lodestarlaw15.SpreadGoes': WHATEVER THE INPUT: true; the input reads as it did. -/
def spreadGoesSpec : ChangeSpec := { name := "spreadGoes", fn := fun _ => fun
  | [d] => { results := [.lit (.bool true)], args := [d] }
  | _ => none }
def spreadGoesRow : OpenClaim := { program := "ytjkmehpokdaonaa", sum := "9a65b0f04ba248967dd15a4da98d6c7ee4a7e2f40de368ac9c24ab0ccebd3095", func := "lodestar/lodestarlaw15.SpreadGoes", spec := "spreadGoes", unfollowed := true, recurses := true, plainKeys := false, apart := false }
def SpreadGoesSaid : Prop := spreadGoesRow.holds Try.pinned (OpenSpec.ofChange spreadGoesSpec)

/-- ITS FALSE NEIGHBOUR: 'it returns false'. Refute it at one input. -/
def spreadGoesWrong : ChangeSpec := { name := "spreadGoes", fn := fun _ => fun
  | [d] => { results := [.lit (.bool false)], args := [d] }
  | _ => none }
def SpreadGoesWrongFalsely : Prop := spreadGoesRow.holds Try.pinned (OpenSpec.ofChange spreadGoesWrong)

/- THE SECOND FORM. 'bulk': how many values and letters a reading holds, each counted each time it is reached (what is shared counts as often as it is met; a slice's spare places count too). A statement '..UptoSaid' is the law's where the arguments, and the package variables that the reading takes, are together of bulk at most 1048576: NARROWER than '..Said'. Prove '..Said' where nothing that the law and all that it calls make is longer than what came in: it says more and counts as full. Else prove '..UptoSaid'. A law counts once. -/
mutual
def uptoBulk {H : Type} : DataW H → Nat
  | .lit (.string bytes) => bytes.length + 1
  | .lit _ => 1
  | .nil => 1
  | .ptr d => uptoBulk d + 1
  | .slice elems spare => uptoBulkAll elems + uptoBulkAll spare + 1
  | .agg parts => uptoBulkAll parts + 1
  | .iface _ d => uptoBulk d + 1
  | .map entries => uptoBulkEntries entries + 1
  | .held _ => 1
def uptoBulkAll {H : Type} : List (DataW H) → Nat
  | [] => 0
  | d :: r => uptoBulk d + uptoBulkAll r
def uptoBulkEntries {H : Type} : List (Lit × DataW H) → Nat
  | [] => 0
  | x :: r => uptoBulkEntry x + uptoBulkEntries r
def uptoBulkEntry {H : Type} : Lit × DataW H → Nat
  | (.string bytes, d) => bytes.length + uptoBulk d + 1
  | (_, d) => uptoBulk d + 1
 end
def uptoSmall : (H : Type) → List (DataW H) → Bool := fun _ ds => decide (uptoBulkAll ds ≤ 1048576)
def OpenSpec.upto (s : _root_.Go.ChangeSpec) : _root_.Go.OpenSpec := { _root_.Go.OpenSpec.ofChange s with cond := some uptoSmall }

/-- 'lodestarlaw15.SpreadJudges', WHERE WHAT IT READS IS OF BULK AT MOST 1048576: true; the input reads as it did. -/
def spreadJudgesUptoRow : OpenClaim := { program := "ytjkmehpokdaonaa", sum := "9a65b0f04ba248967dd15a4da98d6c7ee4a7e2f40de368ac9c24ab0ccebd3095", func := "lodestar/lodestarlaw15.SpreadJudges", spec := "spreadJudges", unfollowed := true, recurses := true, plainKeys := false, apart := false, narrowed := true }
def SpreadJudgesUptoSaid : Prop := spreadJudgesUptoRow.holds Try.pinned (OpenSpec.upto spreadJudgesSpec)

/-- 'lodestarlaw15.SpreadNewer', WHERE WHAT IT READS IS OF BULK AT MOST 1048576: true; the input reads as it did. -/
def spreadNewerUptoRow : OpenClaim := { program := "ytjkmehpokdaonaa", sum := "9a65b0f04ba248967dd15a4da98d6c7ee4a7e2f40de368ac9c24ab0ccebd3095", func := "lodestar/lodestarlaw15.SpreadNewer", spec := "spreadNewer", unfollowed := true, recurses := true, plainKeys := false, apart := false, narrowed := true }
def SpreadNewerUptoSaid : Prop := spreadNewerUptoRow.holds Try.pinned (OpenSpec.upto spreadNewerSpec)

/-- 'lodestarlaw15.ListAgain', WHERE WHAT IT READS IS OF BULK AT MOST 1048576: true; the input reads as it did. -/
def listAgainUptoRow : OpenClaim := { program := "ytjkmehpokdaonaa", sum := "9a65b0f04ba248967dd15a4da98d6c7ee4a7e2f40de368ac9c24ab0ccebd3095", func := "lodestar/lodestarlaw15.ListAgain", spec := "listAgain", unfollowed := true, recurses := true, plainKeys := false, apart := false, narrowed := true }
def ListAgainUptoSaid : Prop := listAgainUptoRow.holds Try.pinned (OpenSpec.upto listAgainSpec)

/-- 'lodestarlaw15.ListNone', WHERE WHAT IT READS IS OF BULK AT MOST 1048576: true; the input reads as it did. -/
def listNoneUptoRow : OpenClaim := { program := "ytjkmehpokdaonaa", sum := "9a65b0f04ba248967dd15a4da98d6c7ee4a7e2f40de368ac9c24ab0ccebd3095", func := "lodestar/lodestarlaw15.ListNone", spec := "listNone", unfollowed := true, recurses := true, plainKeys := false, apart := false, narrowed := true }
def ListNoneUptoSaid : Prop := listNoneUptoRow.holds Try.pinned (OpenSpec.upto listNoneSpec)

/-- 'lodestarlaw15.SpreadGoes', WHERE WHAT IT READS IS OF BULK AT MOST 1048576: true; the input reads as it did. -/
def spreadGoesUptoRow : OpenClaim := { program := "ytjkmehpokdaonaa", sum := "9a65b0f04ba248967dd15a4da98d6c7ee4a7e2f40de368ac9c24ab0ccebd3095", func := "lodestar/lodestarlaw15.SpreadGoes", spec := "spreadGoes", unfollowed := true, recurses := true, plainKeys := false, apart := false, narrowed := true }
def SpreadGoesUptoSaid : Prop := spreadGoesUptoRow.holds Try.pinned (OpenSpec.upto spreadGoesSpec)

end Rows
end Go.Proofs.Ytjkmehpokdaonaa
