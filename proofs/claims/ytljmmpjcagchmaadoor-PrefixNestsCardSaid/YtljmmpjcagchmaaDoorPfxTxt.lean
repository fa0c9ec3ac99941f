/-
  Texts of addresses and prefixes: the first stroke, and what stands between runes.
-/
import Derived.Test.YtljmmpjcagchmaaDoorPfx9
import Derived.Lib.DecodeN
import Derived.Laws.RangeAny
namespace Go.Proofs.YtljmmpjcagchmaaDoor
set_option linter.unusedVariables false
open Go.RowKit

/-- Where the first stroke stands, or the length. -/
def cutL (l : List UInt8) : Nat := (l.takeWhile (· != 47)).length
theorem cutL_le (l : List UInt8) : cutL l ≤ l.length := by
  unfold cutL
  exact (List.takeWhile_sublist _).length_le
theorem cutL_at : ∀ (l : List UInt8) (p : Nat), (∀ i, i < p → l[i]? ≠ some 47) → l[p]? = some 47 → cutL l = p := by
  intro l
  induction l with
  | nil => intro p _ h; simp at h
  | cons c r ih =>
    intro p h1 h2
    cases p with
    | zero =>
      simp at h2
      subst h2
      rfl
    | succ p =>
      have h0 := h1 0 (by omega)
      simp at h0
      have hc : (c != 47) = true := by simp [h0]
      have := ih p (fun i hi => by have := h1 (i + 1) (by omega); simpa using this) (by simpa using h2)
      unfold cutL at this ⊢
      rw [List.takeWhile_cons, if_pos hc, List.length_cons, this]
theorem cutL_none : ∀ (l : List UInt8), (∀ i, i < l.length → l[i]? ≠ some 47) → cutL l = l.length := by
  intro l
  induction l with
  | nil => intro _; rfl
  | cons c r ih =>
    intro h1
    have h0 := h1 0 (by simp)
    simp at h0
    have hc : (c != 47) = true := by simp [h0]
    have := ih (fun i hi => by have := h1 (i + 1) (by simp; omega); simpa using this)
    unfold cutL at this ⊢
    rw [List.takeWhile_cons, if_pos hc, List.length_cons, List.length_cons, this]

set_option maxHeartbeats 1000000 in
theorem decodeN_skip (n b0 b1 b2 b3 : Nat) (hn : 0 < n) : 1 ≤ (Lib.decodeN n b0 b1 b2 b3).2 ∧ (Lib.decodeN n b0 b1 b2 b3).2 ≤ n ∧ ((Lib.decodeN n b0 b1 b2 b3).1 = 47 ↔ b0 = 47) ∧ (1 < (Lib.decodeN n b0 b1 b2 b3).2 → b0 ≠ 47 ∧ b1 ≠ 47) ∧ (2 < (Lib.decodeN n b0 b1 b2 b3).2 → b2 ≠ 47) ∧ (3 < (Lib.decodeN n b0 b1 b2 b3).2 → b3 ≠ 47) ∧ (Lib.decodeN n b0 b1 b2 b3).2 ≤ 4 := by
  unfold Lib.decodeN
  repeat' split
  all_goals
    dsimp only
    exact ⟨by omega, by omega, ⟨fun h => by omega, fun h => by omega⟩, fun h => ⟨by omega, by omega⟩, fun h => by omega, fun h => by omega, by omega⟩
theorem get_opt {s : ByteArray} {i : Nat} (h : i < s.size) : (bytesOf s)[i]? = some (s.get! i) := by
  have h1 : i < s.data.size := h
  rw [Array.getElem?_toList, Array.getElem?_eq_getElem h1]
  simp [ByteArray.get!, getElem!_pos s.data i h1]
theorem u8_47 (c : UInt8) : c = 47 ↔ c.toNat = 47 := ⟨fun h => by rw [h]; rfl, fun h => UInt8.toNat_inj.1 h⟩
/-- One rune on. -/
theorem skip_rune {s : ByteArray} {pos : Nat} (h : pos < s.size) (hno : ∀ i, i < pos → (bytesOf s)[i]? ≠ some 47) :
    1 ≤ (Utf8.decode s pos).2 ∧ pos + (Utf8.decode s pos).2 ≤ s.size ∧ ((Utf8.decode s pos).1 = 47 → (bytesOf s)[pos]? = some 47) ∧ ((Utf8.decode s pos).1 ≠ 47 → ∀ i, i < pos + (Utf8.decode s pos).2 → (bytesOf s)[i]? ≠ some 47) := by
  have hd := decodeN_skip (s.size - pos) (s.get! pos).toNat (s.get! (pos + 1)).toNat (s.get! (pos + 2)).toNat (s.get! (pos + 3)).toNat (by omega)
  rw [← Lib.decode_at] at hd
  obtain ⟨d1, d2, d3, d4, d5, d6, d7⟩ := hd
  refine ⟨d1, by omega, fun he => ?_, fun hne i hi => ?_⟩
  · rw [get_opt h, (u8_47 _).2 (d3.1 he)]
  · by_cases hp : i < pos
    · exact hno i hp
    · have hi2 : i < s.size := by omega
      rw [get_opt hi2]
      intro he
      injection he with he
      rw [u8_47] at he
      have : i = pos ∨ i = pos + 1 ∨ i = pos + 2 ∨ i = pos + 3 := by omega
      rcases this with rfl | rfl | rfl | rfl
      · exact hne (d3.2 he)
      · exact (d4 (by omega)).2 he
      · exact d5 (by omega) he
      · exact d6 (by omega) he
end Go.Proofs.YtljmmpjcagchmaaDoor
