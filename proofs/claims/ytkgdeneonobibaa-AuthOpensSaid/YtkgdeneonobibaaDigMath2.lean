/-
  The digest's padding and its row of blocks (no program in sight).
-/
import Derived.Test.YtkgdeneonobibaaDigMath
namespace Go.Proofs.Ytkgdeneonobibaa
set_option linter.unusedVariables false

/-- The state behind k blocks of 64 bytes. -/
def bl (s : Q4) (p : List Int) : Nat → Q4
  | 0 => s
  | n + 1 => blk (bl s p n) (p.drop (64 * n))
def pad (xs : List Int) : List Int :=
  xs ++ [128] ++ List.replicate ((119 - xs.length % 64) % 64) 0 ++ (List.range 8).map fun i => ((xs.length : Int) * 8) / 2 ^ (8 * i) % 256
def s0 : Q4 := ⟨1732584193, 4023233417, 2562383102, 271733878⟩
def Q4.nth (q : Q4) (i : Nat) : Int := if i = 0 then q.a else if i = 1 then q.b else if i = 2 then q.c else q.d
def outOf (q : Q4) : List Int := (List.range 16).map fun i => q.nth (i / 4) / 2 ^ (8 * (i % 4)) % 256
def md (xs : List Int) : List Int := outOf (bl s0 (pad xs) ((pad xs).length / 64))
theorem word_congr {p p' : List Int} {k : Nat} (hk : k < 16) (h : ∀ i, i < 64 → p[i]? = p'[i]?) : word p k = word p' k := by
  unfold word
  simp only [List.getD]
  rw [h (4 * k) (by omega), h (4 * k + 1) (by omega), h (4 * k + 2) (by omega), h (4 * k + 3) (by omega)]
theorem blk_congr {q : Q4} {p p' : List Int} (h : ∀ i, i < 64 → p[i]? = p'[i]?) : blk q p = blk q p' := by
  have e : words p = words p' := List.map_congr_left fun k hk => word_congr (by simpa using hk) h
  unfold blk
  rw [e]
theorem bl_ok {s : Q4} (hs : s.ok) (p : List Int) : ∀ n, (bl s p n).ok
  | 0 => hs
  | n + 1 => blk_ok _ _
theorem s0_ok : s0.ok := by unfold Q4.ok U32 s0; decide
theorem drop_at {xs : List Int} (m i : Nat) : (xs.drop m)[i]? = xs[m + i]? := by rw [List.getElem?_drop]
/-- The padding's own bytes, behind what is left of the last whole block. -/
def lenBytes (n : Nat) : List Int := (List.range 8).map fun i => ((n : Int) * 8) / 2 ^ (8 * i) % 256
theorem pad_eq (xs : List Int) : pad xs = xs ++ [128] ++ List.replicate ((119 - xs.length % 64) % 64) 0 ++ lenBytes xs.length := rfl
theorem pad_low {xs : List Int} {i : Nat} (h : i < xs.length) : (pad xs)[i]? = xs[i]? := by
  rw [pad_eq, List.append_assoc, List.append_assoc, List.getElem?_append_left h]
theorem bl_step {xs : List Int} {Q : Q4} {k : Nat} (h : Q = bl s0 (pad xs) k) (hk : 64 * k + 64 ≤ xs.length) : blk Q (xs.drop (64 * k)) = bl s0 (pad xs) (k + 1) := by
  rw [h]
  show _ = blk _ ((pad xs).drop (64 * k))
  exact blk_congr fun i hi => by rw [drop_at, drop_at, pad_low (by omega)]
/-- What stands behind k blocks of the padded bytes, where k blocks are whole. -/
theorem pad_drop {xs : List Int} {k : Nat} (hk : 64 * k ≤ xs.length) : (pad xs).drop (64 * k) = xs.drop (64 * k) ++ [128] ++ List.replicate ((119 - xs.length % 64) % 64) 0 ++ lenBytes xs.length := by
  rw [pad_eq, List.append_assoc, List.append_assoc, List.drop_append_of_le_length hk, List.append_assoc, List.append_assoc]
theorem bl_next {xs : List Int} {Q : Q4} {k : Nat} (h : Q = bl s0 (pad xs) k) : blk Q ((pad xs).drop (64 * k)) = bl s0 (pad xs) (k + 1) := by rw [h]; rfl
theorem pad_length (xs : List Int) : (pad xs).length = xs.length + 9 + (119 - xs.length % 64) % 64 := by rw [pad_eq]; simp [lenBytes]; omega
theorem lenBytes_at {n j : Nat} (h : j < 8) : (lenBytes n)[j]? = some (((n : Int) * 8) / 2 ^ (8 * j) % 256) := by
  unfold lenBytes
  rw [List.getElem?_map, List.getElem?_range h]
  rfl
theorem lenBytes_length (n : Nat) : (lenBytes n).length = 8 := by simp [lenBytes]
theorem outOf_length (q : Q4) : (outOf q).length = 16 := by simp [outOf]
theorem outOf_at {q : Q4} {i : Nat} (h : i < 16) : (outOf q)[i]? = some (q.nth (i / 4) / 2 ^ (8 * (i % 4)) % 256) := by
  unfold outOf
  rw [List.getElem?_map, List.getElem?_range h]
  rfl
theorem pad_oct {xs : List Int} (h : Oct xs) : Oct (pad xs) := by
  rw [pad_eq]
  refine ((h.append (Oct.of_mem (by simp))).append (Oct.of_mem fun x hx => ?_)).append (Oct.of_mem fun x hx => ?_)
  · rw [List.mem_replicate] at hx; omega
  · simp only [lenBytes, List.mem_map] at hx
    obtain ⟨i, _, rfl⟩ := hx
    omega
theorem nth_ok {q : Q4} (h : q.ok) (i : Nat) : U32 (q.nth i) := by
  unfold Q4.nth
  split
  · exact h.1
  · split
    · exact h.2.1
    · split
      · exact h.2.2.1
      · exact h.2.2.2
end Go.Proofs.Ytkgdeneonobibaa
