/-
  lodestarref01.Four, walked: the bytes of a number, the greatest first.
-/
import Derived.Test.YtbkejlalbjomkaaRefA
import Derived.Test.YtbkejlalbjomkaaKept
import Derived.Test.YtbkejlalbjomkaaRgn
import Derived.Test.YtbkejlalbjomkaaBits
namespace Go.Proofs.Ytbkejlalbjomkaa
set_option linter.unusedVariables false
open Go.RowKit

/-- The bytes of a number of N bytes. -/
def pb (v : Int) (N : Nat) : List Int := (List.range N).map fun j => v / 2 ^ (8 * (N - 1 - j)) % 256
theorem pb_length (v : Int) (N : Nat) : (pb v N).length = N := by simp [pb]
theorem pb_at (v : Int) {N j : Nat} (h : j < N) : (pb v N)[j]? = some (v / 2 ^ (8 * (N - 1 - j)) % 256) := by simp [pb, h]
theorem pb_oct (v : Int) (N : Nat) : Oct (pb v N) := Oct.of_mem fun x hx => by
  simp only [pb, List.mem_map] at hx
  obtain ⟨j, _, rfl⟩ := hx
  omega
theorem pb_take (v : Int) {N j : Nat} (h : j < N) : (pb v N).take (j + 1) = (pb v N).take j ++ [v / 2 ^ (8 * (N - 1 - j)) % 256] := by
  rw [List.take_add_one, pb_at v h]; rfl
theorem one_b8 (b : Int) : ∀ u ∈ [Value.int .u8 b], u.oneCell' = true := by intro u hu; simp at hu; subst hu; rfl

/-- What a call leaves that hands a row of bytes of its own. -/
def OwnB8 (w w' : World) (xs : List Int) (e : Ending) : Prop := ∃ u, e = .returned u ∧ w'.ownsRow w.heap.size 5 1 u xs.length (u8s xs) ∧ Below w.heap.size w w'
def F4 (w : World) (v : Int) (N : Nat) (lv iv : Value) (wr : World) : Prop :=
  ∃ (j : Nat) (A : Option Addr) (c : Nat), j ≤ N ∧ lv = .slice A j c ∧ iv = .int .i64 ((N : Int) - 1 - (j : Int)) ∧ Hid (wr.ownsRow w.heap.size 5 1 (.slice A j c) j (u8s ((pb v N).take j))) ∧ Hid (Below w.heap.size w wr)
end Go.Proofs.Ytbkejlalbjomkaa
