/-
  More plain words on rows of bytes.
-/
import Derived.Test.YtdihdelojpnmoaaRef0
namespace Go.Proofs.Ytdihdelojpnmoaa
set_option linter.unusedVariables false
open Go.RowKit

theorem u8s_set (l : List Int) (i : Nat) (v : Int) : (u8s l).set i (.int .u8 v) = u8s (l.set i v) := by
  simp [u8s, List.map_set]
/-- A store of a byte into a row of bytes. -/
theorem Row.u8set {w : World} {g cap : Nat} {t : TypeId} {l : List Int} (h : Row w g t cap (u8s l)) (i : Nat) (v : Int) : Row (w.setCell ⟨g, i, none⟩ (.int .u8 v)) g t cap (u8s (l.set i v)) := by
  have := h.set_ i (.int .u8 v)
  rwa [u8s_set] at this
theorem Row.u8cell {w : World} {g cap : Nat} {t : TypeId} {l : List Int} (h : Row w g t cap (u8s l)) {i : Nat} (hi : i < l.length) : ∃ x, Hid (l[i]? = some x) ∧ w.cell? ⟨g, i, none⟩ = some (.int .u8 x) :=
  ⟨l[i], List.getElem?_eq_getElem hi, h.cell (u8s_get_of (List.getElem?_eq_getElem hi))⟩
theorem Row.u8reads {w : World} {g cap n : Nat} {t : TypeId} {l : List Int} (h : Row w g t cap (u8s l)) (hl : l.length = n) : Reads w w.heap.size 1 (some ⟨g, 0, none⟩) n (u8s l) :=
  h.reads (by rw [u8s_length]; exact hl)
theorem below_drew_left {w w' : World} (h : Below w.drew.heap.size w.drew w') : Below w.heap.size w w' := ⟨h.os, h.tape, h.output, h.size, h.block⟩
end Go.Proofs.Ytdihdelojpnmoaa
