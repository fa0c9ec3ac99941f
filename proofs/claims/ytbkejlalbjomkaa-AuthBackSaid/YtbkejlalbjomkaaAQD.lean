/-
  The digest as the chapter lays it down, on lists of numbers (no program in sight).
  The digest's padding and its row of blocks (no program in sight).
  Small functions of package digest.
  One block of the digest, walked.
  digest.Of, walked.
  Same of both, 'lives', and the law DigestSame, walked.
  The reference's keyed digest, walked.
  The keyed digest of the program, walked.
  The reference's digested, walked.
  The reference's Open, walked.
  A region that draws its order, inside a round of a range over a function: the laws of Rgn and Rgn2 there.
  auth.openDigest, walked.
  auth.Open, the other ways, walked; and all together.
-/
import Derived.Test.YtbkejlalbjomkaaBase
import Derived.Test.YtbkejlalbjomkaaBits
import Derived.Laws.Tables
import Derived.Deep.WholeRow
import Derived.Test.YtbkejlalbjomkaaRefW
import Derived.Test.YtbkejlalbjomkaaBase2
import Derived.StillTailTactics
import Derived.Test.YtbkejlalbjomkaaArrEq
import Derived.Lib.SlBytesConst
import Derived.Laws.CopyOwn
import Derived.Test.YtbkejlalbjomkaaRgn
import Derived.Test.YtbkejlalbjomkaaOwnP
import Derived.Test.YtbkejlalbjomkaaAQ2
import Derived.Test.YtbkejlalbjomkaaAQ1
import Derived.Test.YtbkejlalbjomkaaRgn2
import Derived.RangeFuncCalls
import Derived.OrdersIn
import Derived.TacticsIn
import Derived.Deep.Cut
namespace Go.Proofs.Ytbkejlalbjomkaa
set_option linter.unusedVariables false

def T64 : List Int := [3614090360, 3905402710, 606105819, 3250441966, 4118548399, 1200080426, 2821735955, 4249261313, 1770035416, 2336552879, 4294925233, 2304563134, 1804603682, 4254626195, 2792965006, 1236535329, 4129170786, 3225465664, 643717713, 3921069994, 3593408605, 38016083, 3634488961, 3889429448, 568446438, 3275163606, 4107603335, 1163531501, 2850285829, 4243563512, 1735328473, 2368359562, 4294588738, 2272392833, 1839030562, 4259657740, 2763975236, 1272893353, 4139469664, 3200236656, 681279174, 3936430074, 3572445317, 76029189, 3654602809, 3873151461, 530742520, 3299628645, 4096336452, 1126891415, 2878612391, 4237533241, 1700485571, 2399980690, 4293915773, 2240044497, 1873313359, 4264355552, 2734768916, 1309151649, 4149444226, 3174756917, 718787259, 3951481745]
def By16 : List Int := [7, 12, 17, 22, 5, 9, 14, 20, 4, 11, 16, 23, 6, 10, 15, 21]
def rot (v : Int) (n : Nat) : Int := bits .or .u32 (v * 2 ^ n % 4294967296) (v / 2 ^ (32 - n))
def mixI (i : Nat) (b c d : Int) : Int :=
  if i < 16 then bits .or .u32 (bits .and .u32 b c) (bits .and .u32 (bits .xor .u32 4294967295 b) d)
  else if i < 32 then bits .or .u32 (bits .and .u32 d b) (bits .and .u32 (bits .xor .u32 4294967295 d) c)
  else if i < 48 then bits .xor .u32 (bits .xor .u32 b c) d
  else bits .xor .u32 c (bits .or .u32 b (bits .xor .u32 4294967295 d))
def whI (i : Nat) : Nat := if i < 16 then i else if i < 32 then (5 * i + 1) % 16 else if i < 48 then (3 * i + 5) % 16 else 7 * i % 16
def byI (i : Nat) : Nat := (By16.getD (4 * (i / 16) + i % 4) 1).toNat
/-- Four numbers, as one state. -/
structure Q4 where
  a : Int
  b : Int
  c : Int
  d : Int
def wr32 (x : Int) : Int := x % 4294967296
def stepI (M : List Int) (i : Nat) (q : Q4) : Q4 :=
  ⟨q.d, wr32 (q.b + rot (wr32 (wr32 (wr32 (q.a + mixI i q.b q.c q.d) + T64.getD i 0) + M.getD (whI i) 0)) (byI i)), q.b, q.c⟩
def iterI (M : List Int) (s : Q4) : Nat → Q4
  | 0 => s
  | n + 1 => stepI M n (iterI M s n)
/-- A number out of four bytes. -/
def word (p : List Int) (k : Nat) : Int :=
  bits .or .u32 (bits .or .u32 (bits .or .u32 (p.getD (4 * k) 0) (p.getD (4 * k + 1) 0 * 256)) (p.getD (4 * k + 2) 0 * 65536)) (p.getD (4 * k + 3) 0 * 16777216)
def words (p : List Int) : List Int := (List.range 16).map (word p)
def blk (s : Q4) (p : List Int) : Q4 :=
  let q := iterI (words p) s 64
  ⟨wr32 (s.a + q.a), wr32 (s.b + q.b), wr32 (s.c + q.c), wr32 (s.d + q.d)⟩
def U32 (x : Int) : Prop := 0 ≤ x ∧ x ≤ 4294967295
def Q4.ok (q : Q4) : Prop := U32 q.a ∧ U32 q.b ∧ U32 q.c ∧ U32 q.d
theorem wr32_ok (x : Int) : U32 (wr32 x) := by unfold U32 wr32; omega
theorem stepI_ok {M : List Int} {i : Nat} {q : Q4} (h : q.ok) : (stepI M i q).ok := ⟨h.2.2.2, wr32_ok _, h.2.1, h.2.2.1⟩
theorem blk_ok (s : Q4) (p : List Int) : (blk s p).ok := ⟨wr32_ok _, wr32_ok _, wr32_ok _, wr32_ok _⟩
theorem byI_table : ∀ i, i < 64 → 1 ≤ byI i ∧ byI i ≤ 31 := by decide
theorem step_b {M : List Int} {i : Nat} {q : Q4} {t m f : Int} (ht : T64[i]? = some t) (hm : M[whI i]? = some m) (hf : mixI i q.b q.c q.d = f) :
    (stepI M i q).b = wr32 (q.b + rot (wr32 (wr32 (wr32 (q.a + f) + t) + m)) (byI i)) := by
  simp only [stepI, List.getD, ht, hm, Option.getD_some, hf]
theorem whI_lt {i : Nat} (h : i < 64) : whI i < 16 := by unfold whI; (repeat' split) <;> omega
theorem step_eq {M : List Int} {q Q : Q4} {n : Nat} (h : Q = iterI M q n) : stepI M n Q = iterI M q (n + 1) := by rw [h]; rfl
theorem mix_at0 {j : Nat} {b c d : Int} (h : j < 16) : mixI (16 * 0 + j) b c d = mixI 0 b c d := by unfold mixI; (repeat' split) <;> first | rfl | omega
theorem mix_at1 {j : Nat} {b c d : Int} (h : j < 16) : mixI (16 * 1 + j) b c d = mixI 16 b c d := by unfold mixI; (repeat' split) <;> first | rfl | omega
theorem mix_at2 {j : Nat} {b c d : Int} (h : j < 16) : mixI (16 * 2 + j) b c d = mixI 32 b c d := by unfold mixI; (repeat' split) <;> first | rfl | omega
theorem mix_at3 {j : Nat} {b c d : Int} (h : j < 16) : mixI (16 * 3 + j) b c d = mixI 48 b c d := by unfold mixI; (repeat' split) <;> first | rfl | omega
end Go.Proofs.Ytbkejlalbjomkaa
namespace Go.Proofs.Ytbkejlalbjomkaa
set_option linter.unusedVariables false

/-- The state behind k blocks of 64 bytes. -/
def bl (s : Q4) (p : List Int) : Nat → Q4
  | 0 => s
  | n + 1 => blk (bl s p n) (p.drop (64 * n))
def pad (xs : List Int) : List Int :=
  xs ++ [128] ++ List.replicate ((119 - xs.length % 64) % 64) 0 ++ (List.range 8).map fun i => ((xs.length : Int) * 8) / 2 ^ (8 * i) % 256
def s0 : Q4 := ⟨1732584193, 4023233417, 2562383102, 271733878⟩
def Q4.nth (q : Q4) (i : Nat) : Int := if i = 0 then q.a else if i = 1 then q.b else if i = 2 then q.c else q.d
def outOf (q : Q4) : List Int := (List.range 16).map fun i => q.nth (i / 4) / 2 ^ (8 * (i % 4)) % 256
def md (xs : List Int) : List Int := outOf (bl s0 (pad xs) ((pad xs).length / 64))
theorem word_congr {p p' : List Int} {k : Nat} (hk : k < 16) (h : ∀ i, i < 64 → p[i]? = p'[i]?) : word p k = word p' k := by
  unfold word
  simp only [List.getD]
  rw [h (4 * k) (by omega), h (4 * k + 1) (by omega), h (4 * k + 2) (by omega), h (4 * k + 3) (by omega)]
theorem blk_congr {q : Q4} {p p' : List Int} (h : ∀ i, i < 64 → p[i]? = p'[i]?) : blk q p = blk q p' := by
  have e : words p = words p' := List.map_congr_left fun k hk => word_congr (by simpa using hk) h
  unfold blk
  rw [e]
theorem s0_ok : s0.ok := by unfold Q4.ok U32 s0; decide
theorem drop_at {xs : List Int} (m i : Nat) : (xs.drop m)[i]? = xs[m + i]? := by rw [List.getElem?_drop]
/-- The padding's own bytes, behind what is left of the last whole block. -/
def lenBytes (n : Nat) : List Int := (List.range 8).map fun i => ((n : Int) * 8) / 2 ^ (8 * i) % 256
theorem pad_eq (xs : List Int) : pad xs = xs ++ [128] ++ List.replicate ((119 - xs.length % 64) % 64) 0 ++ lenBytes xs.length := rfl
theorem pad_low {xs : List Int} {i : Nat} (h : i < xs.length) : (pad xs)[i]? = xs[i]? := by
  rw [pad_eq, List.append_assoc, List.append_assoc, List.getElem?_append_left h]
theorem bl_step {xs : List Int} {Q : Q4} {k : Nat} (h : Q = bl s0 (pad xs) k) (hk : 64 * k + 64 ≤ xs.length) : blk Q (xs.drop (64 * k)) = bl s0 (pad xs) (k + 1) := by
  rw [h]
  show _ = blk _ ((pad xs).drop (64 * k))
  exact blk_congr fun i hi => by rw [drop_at, drop_at, pad_low (by omega)]
/-- What stands behind k blocks of the padded bytes, where k blocks are whole. -/
theorem pad_drop {xs : List Int} {k : Nat} (hk : 64 * k ≤ xs.length) : (pad xs).drop (64 * k) = xs.drop (64 * k) ++ [128] ++ List.replicate ((119 - xs.length % 64) % 64) 0 ++ lenBytes xs.length := by
  rw [pad_eq, List.append_assoc, List.append_assoc, List.drop_append_of_le_length hk, List.append_assoc, List.append_assoc]
theorem bl_next {xs : List Int} {Q : Q4} {k : Nat} (h : Q = bl s0 (pad xs) k) : blk Q ((pad xs).drop (64 * k)) = bl s0 (pad xs) (k + 1) := by rw [h]; rfl
theorem pad_length (xs : List Int) : (pad xs).length = xs.length + 9 + (119 - xs.length % 64) % 64 := by rw [pad_eq]; simp [lenBytes]; omega
theorem lenBytes_at {n j : Nat} (h : j < 8) : (lenBytes n)[j]? = some (((n : Int) * 8) / 2 ^ (8 * j) % 256) := by
  unfold lenBytes
  rw [List.getElem?_map, List.getElem?_range h]
  rfl
theorem lenBytes_length (n : Nat) : (lenBytes n).length = 8 := by simp [lenBytes]
theorem outOf_length (q : Q4) : (outOf q).length = 16 := by simp [outOf]
theorem outOf_at {q : Q4} {i : Nat} (h : i < 16) : (outOf q)[i]? = some (q.nth (i / 4) / 2 ^ (8 * (i % 4)) % 256) := by
  unfold outOf
  rw [List.getElem?_map, List.getElem?_range h]
  rfl
theorem pad_oct {xs : List Int} (h : Oct xs) : Oct (pad xs) := by
  rw [pad_eq]
  refine ((h.append (Oct.of_mem (by simp))).append (Oct.of_mem fun x hx => ?_)).append (Oct.of_mem fun x hx => ?_)
  · rw [List.mem_replicate] at hx; omega
  · simp only [lenBytes, List.mem_map] at hx
    obtain ⟨i, _, rfl⟩ := hx
    omega
theorem nth_ok {q : Q4} (h : q.ok) (i : Nat) : U32 (q.nth i) := by
  unfold Q4.nth
  split
  · exact h.1
  · split
    · exact h.2.1
    · split
      · exact h.2.2.1
      · exact h.2.2.2
end Go.Proofs.Ytbkejlalbjomkaa
namespace Go.Proofs.Ytbkejlalbjomkaa
set_option linter.unusedVariables false
open Go.RowKit

/-- An operation that only reckons. -/
theorem wpList_value {P : Program} {ops : Array Oper} {rest : List Oper} {o : Oper} {a : Act} {w : World} {Q : Exit → Act → World → Prop} (hg : o.guard = none) (v : Value)
    (hr : (execOp a.eval o).run P w = .ok (.value v) w) (h : wpList P ops Q rest (a.put o.dst v) w) : wpList P ops Q (o :: rest) a w :=
  wpList_plain hg fun _ hK => by
    unfold Oper.wp
    rw [hr]
    exact hK _ _ h

theorem mix0_any (b c d : Int) (w : World) : Calls Try.prog 105 #[.int .u32 b, .int .u32 c, .int .u32 d] w fun e w' => e = .returned (.int .u32 (mixI 0 b c d)) ∧ w' = w := by
  go_enter Try.func105, Try.ntmps105
  go_wp2
  go_ret
  exact ⟨rfl, rfl⟩
theorem mix1_any (b c d : Int) (w : World) : Calls Try.prog 106 #[.int .u32 b, .int .u32 c, .int .u32 d] w fun e w' => e = .returned (.int .u32 (mixI 16 b c d)) ∧ w' = w := by
  go_enter Try.func106, Try.ntmps106
  go_wp2
  go_ret
  exact ⟨rfl, rfl⟩
theorem mix2_any (b c d : Int) (w : World) : Calls Try.prog 107 #[.int .u32 b, .int .u32 c, .int .u32 d] w fun e w' => e = .returned (.int .u32 (mixI 32 b c d)) ∧ w' = w := by
  go_enter Try.func107, Try.ntmps107
  go_wp2
  go_ret
  exact ⟨rfl, rfl⟩
theorem mix3_any (b c d : Int) (w : World) : Calls Try.prog 108 #[.int .u32 b, .int .u32 c, .int .u32 d] w fun e w' => e = .returned (.int .u32 (mixI 48 b c d)) ∧ w' = w := by
  go_enter Try.func108, Try.ntmps108
  go_wp2
  go_ret
  exact ⟨rfl, rfl⟩
theorem rot_any (v : Int) (n : Nat) (w : World) (h0 : 1 ≤ n) (h1 : n ≤ 31) (hv0 : 0 ≤ v) (hv1 : v ≤ 4294967295) : Calls Try.prog 104 #[.int .u32 v, .int .i64 n] w fun e w' => e = .returned (.int .u32 (rot v n)) ∧ w' = w := by
  have e1 := u64_and_mask5 n h1
  have e2 : IntKind.u64.wrap (n : Int) = n := IntWalk.u64_in _ (by omega)
  have e3 : IntKind.u64.wrap (32 - (n : Int)) = 32 - n := IntWalk.u64_in _ (by omega)
  go_enter Try.func104, Try.ntmps104
  go_wp2
  go_ret
  exact ⟨rfl, rfl⟩

/-- The table of numbers, as cells. -/
def t64 : Array Value := (T64.map (Value.int .u32)).toArray
set_option maxRecDepth 100000 in
theorem consts_any (w : World) : Calls Try.prog 102 #[] w fun e w' => e = .returned (.agg t64) ∧ Below w.heap.size w w' := by
  go_enter Try.func102, Try.ntmps102
  go_wp2_with (first | (refine wpList_value (o := ⟨some 1, _, _, _, _, _⟩) rfl (.agg t64) (by kernel_rfl) ?_) | (refine wpList_store_row rfl 157 _ _ rfl w.heap.size t64 rfl rfl 157 _ (heap_alloc_new w _) (by kernel_rfl) (by kernel_rfl) (by kernel_rfl) ?_; rw [World.setRow_alloc_new]))
  exact bodyPost_ret (results_cell_row rfl _ _ w.heap.size 157 t64 (0, 0) _ rfl (heap_alloc_new w _) Try.underlying157 rfl (by kernel_rfl)) rfl ⟨rfl, (Below.refl _ _).alloc (Nat.le_refl _) _⟩

def i64 (n : Int) : Value := .int .i64 n
def r28 : Array Value := #[.func (.func 105) #[] #[], i64 1, i64 0, i64 7, i64 12, i64 17, i64 22, .func (.func 106) #[] #[], i64 5, i64 1, i64 5, i64 9, i64 14, i64 20,
  .func (.func 107) #[] #[], i64 3, i64 5, i64 4, i64 11, i64 16, i64 23, .func (.func 108) #[] #[], i64 7, i64 0, i64 6, i64 10, i64 15, i64 21]
set_option maxRecDepth 100000 in
theorem rounds_any (w : World) : Calls Try.prog 103 #[] w fun e w' => e = .returned (.agg r28) ∧ Below w.heap.size w w' := by
  go_enter Try.func103, Try.ntmps103
  go_wp2_with (refine wpList_store_row rfl 163 _ _ rfl w.heap.size r28 rfl rfl 163 _ (heap_alloc_new w _) (by kernel_rfl) (by kernel_rfl) (by kernel_rfl) ?_; rw [World.setRow_alloc_new])
  exact bodyPost_ret (results_cell_row rfl _ _ w.heap.size 163 r28 (0, 0) _ rfl (heap_alloc_new w _) Try.underlying163 rfl (by kernel_rfl)) rfl ⟨rfl, (Below.refl _ _).alloc (Nat.le_refl _) _⟩
def u32sD (l : List Int) : List Value := l.map (Value.int .u32)
theorem t64_at {w : World} {g : Nat} {t : TypeId} (h : Blk w g t t64) {i : Nat} (hi : i < 64) : ∃ x, Hid (T64[i]? = some x) ∧ w.cell? ⟨g, i, none⟩ = some (.int .u32 x) := by
  have hl : i < T64.length := hi
  refine ⟨T64[i], List.getElem?_eq_getElem hl, ?_⟩
  rw [h.cell]
  simp only [t64, List.getElem?_toArray, List.getElem?_map, List.getElem?_eq_getElem hl, Option.map_some]
theorem u32s_at {w : World} {g : Nat} {t : TypeId} {M : List Int} (h : Blk w g t (u32sD M).toArray) {i : Nat} (hi : i < M.length) : ∃ x, Hid (M[i]? = some x) ∧ w.cell? ⟨g, i, none⟩ = some (.int .u32 x) := by
  refine ⟨M[i], List.getElem?_eq_getElem hi, ?_⟩
  rw [h.cell]
  simp only [u32sD, List.getElem?_toArray, List.getElem?_map, List.getElem?_eq_getElem hi, Option.map_some]
theorem below16 {P : Nat → Prop} (h : P 0 ∧ P 1 ∧ P 2 ∧ P 3 ∧ P 4 ∧ P 5 ∧ P 6 ∧ P 7 ∧ P 8 ∧ P 9 ∧ P 10 ∧ P 11 ∧ P 12 ∧ P 13 ∧ P 14 ∧ P 15) {j : Nat} (hj : j < 16) : P j := by
  obtain ⟨h0, h1, h2, h3, h4, h5, h6, h7, h8, h9, h10, h11, h12, h13, h14, h15⟩ := h
  have hh : j = 0 ∨ j = 1 ∨ j = 2 ∨ j = 3 ∨ j = 4 ∨ j = 5 ∨ j = 6 ∨ j = 7 ∨ j = 8 ∨ j = 9 ∨ j = 10 ∨ j = 11 ∨ j = 12 ∨ j = 13 ∨ j = 14 ∨ j = 15 := by omega
  rcases hh with rfl | rfl | rfl | rfl | rfl | rfl | rfl | rfl | rfl | rfl | rfl | rfl | rfl | rfl | rfl | rfl <;> assumption
theorem by16_at0 {w : World} {g : Nat} {t : TypeId} (h : Blk w g t #[.func (.func 105) #[] #[], .int .i64 1, .int .i64 0, .int .i64 7, .int .i64 12, .int .i64 17, .int .i64 22]) {j : Nat} (hj : j < 16) : w.cell? ⟨g, 3 + j % 4, none⟩ = some (.int .i64 (byI (16 * 0 + j) : Nat)) := by
  rw [h.cell]
  revert hj
  intro hj
  exact below16 (P := fun j => (#[.func (.func 105) #[] #[], .int .i64 1, .int .i64 0, .int .i64 7, .int .i64 12, .int .i64 17, .int .i64 22] : Array Value)[3 + j % 4]? = some (.int .i64 (byI (16 * 0 + j) : Nat))) (by refine ⟨rfl, rfl, rfl, rfl, rfl, rfl, rfl, rfl, rfl, rfl, rfl, rfl, rfl, rfl, rfl, rfl⟩) hj
theorem by16_at1 {w : World} {g : Nat} {t : TypeId} (h : Blk w g t #[.func (.func 106) #[] #[], .int .i64 5, .int .i64 1, .int .i64 5, .int .i64 9, .int .i64 14, .int .i64 20]) {j : Nat} (hj : j < 16) : w.cell? ⟨g, 3 + j % 4, none⟩ = some (.int .i64 (byI (16 * 1 + j) : Nat)) := by
  rw [h.cell]
  revert hj
  intro hj
  exact below16 (P := fun j => (#[.func (.func 106) #[] #[], .int .i64 5, .int .i64 1, .int .i64 5, .int .i64 9, .int .i64 14, .int .i64 20] : Array Value)[3 + j % 4]? = some (.int .i64 (byI (16 * 1 + j) : Nat))) (by refine ⟨rfl, rfl, rfl, rfl, rfl, rfl, rfl, rfl, rfl, rfl, rfl, rfl, rfl, rfl, rfl, rfl⟩) hj
theorem by16_at2 {w : World} {g : Nat} {t : TypeId} (h : Blk w g t #[.func (.func 107) #[] #[], .int .i64 3, .int .i64 5, .int .i64 4, .int .i64 11, .int .i64 16, .int .i64 23]) {j : Nat} (hj : j < 16) : w.cell? ⟨g, 3 + j % 4, none⟩ = some (.int .i64 (byI (16 * 2 + j) : Nat)) := by
  rw [h.cell]
  revert hj
  intro hj
  exact below16 (P := fun j => (#[.func (.func 107) #[] #[], .int .i64 3, .int .i64 5, .int .i64 4, .int .i64 11, .int .i64 16, .int .i64 23] : Array Value)[3 + j % 4]? = some (.int .i64 (byI (16 * 2 + j) : Nat))) (by refine ⟨rfl, rfl, rfl, rfl, rfl, rfl, rfl, rfl, rfl, rfl, rfl, rfl, rfl, rfl, rfl, rfl⟩) hj
theorem by16_at3 {w : World} {g : Nat} {t : TypeId} (h : Blk w g t #[.func (.func 108) #[] #[], .int .i64 7, .int .i64 0, .int .i64 6, .int .i64 10, .int .i64 15, .int .i64 21]) {j : Nat} (hj : j < 16) : w.cell? ⟨g, 3 + j % 4, none⟩ = some (.int .i64 (byI (16 * 3 + j) : Nat)) := by
  rw [h.cell]
  revert hj
  intro hj
  exact below16 (P := fun j => (#[.func (.func 108) #[] #[], .int .i64 7, .int .i64 0, .int .i64 6, .int .i64 10, .int .i64 15, .int .i64 21] : Array Value)[3 + j % 4]? = some (.int .i64 (byI (16 * 3 + j) : Nat))) (by refine ⟨rfl, rfl, rfl, rfl, rfl, rfl, rfl, rfl, rfl, rfl, rfl, rfl, rfl, rfl, rfl, rfl⟩) hj
end Go.Proofs.Ytbkejlalbjomkaa
namespace Go.Proofs.Ytbkejlalbjomkaa
set_option linter.unusedVariables false
open Go.RowKit

def q4 (q : Q4) : Array Value := #[.int .u32 q.a, .int .u32 q.b, .int .u32 q.c, .int .u32 q.d]

theorem blk_word {xs : List Int} {k : Nat} {x0 x1 x2 x3 : Int} (h0 : xs[4 * k]? = some x0) (h1 : xs[4 * k + 1]? = some x1) (h2 : xs[4 * k + 2]? = some x2) (h3 : xs[4 * k + 3]? = some x3) (hk : k < 16) :
    (u32sD (words xs))[k]? = some (.int .u32 (bits .or .u32 (bits .or .u32 (bits .or .u32 x0 (x1 * 256)) (x2 * 65536)) (x3 * 16777216))) := by
  unfold u32sD words
  rw [List.getElem?_map, List.getElem?_map, List.getElem?_range hk]
  simp only [Option.map_some, word, List.getD, h0, h1, h2, h3, Option.getD_some]
theorem i33 : (Try.prog.info? 152).map (·.size) = some 4 := by kernel_rfl
theorem q4_one (q : Q4) : (q4 q).all (·.oneCell') = true := by simp [q4, Value.oneCell']
theorem words_length (xs : List Int) : (u32sD (words xs)).length = 16 := by simp [u32sD, words]

set_option maxRecDepth 100000 in
set_option maxHeartbeats 1000000 in
theorem block_any (A : Option Addr) (n c : Nat) (xs : List Int) (q : Q4) (w : World) (hx : Reads w w.heap.size 1 A n (u8s xs)) (ho : Oct xs) (hn : 64 ≤ n) (hn2 : n ≤ 9223372036854775807) (hq : q.ok) :
    Calls Try.prog 100 #[.agg (q4 q), .slice A n c] w fun e w' => e = .returned (.agg (q4 (blk q xs))) ∧ Below w.heap.size w w' := by
  unfold q4
  go_enter Try.func100, Try.ntmps100
  go_wp2
  go_loopw [17] (fun i wr => ∃ k : Nat, i = .int .i64 k ∧ k ≤ 16 ∧ Blk wr w.heap.size 152 (q4 q) ∧ Blk wr (w.heap.size + 1) 152 (q4 ⟨0, 0, 0, 0⟩) ∧ Blk wr (w.heap.size + 1 + 1) 156 (Fill (.int .u32 0) (u32sD (words xs)) k) ∧ Below w.heap.size w wr) (fun i _ => 16 - (intOf i).toNat)
  case atStart =>
    refine ⟨0, rfl, by omega, ?_, ?_, ?_, ?_⟩
    · exact ((Blk.new w _ _).alloc _).alloc _
    · have := (Blk.new (w.alloc (.cells (q4 q) 152)) 152 (q4 ⟨0, 0, 0, 0⟩)).alloc (.cells (Array.replicate 16 (.int .u32 0)) 156)
      rw [World.size_alloc] at this
      exact this
    · have := Blk.new ((w.alloc (.cells (q4 q) 152)).alloc (.cells (q4 ⟨0, 0, 0, 0⟩) 152)) 156 (Array.replicate 16 (.int .u32 0))
      rw [World.size_alloc, World.size_alloc] at this
      rw [Fill.zero, words_length]
      exact this
    · exact (((Below.refl _ _).alloc (Nat.le_refl _) _).alloc (by simp) _).alloc (by simp; omega) _
  case round =>
    obtain ⟨k, rfl, hk, hb0, hb1, hb2, hbel⟩ := hrel
    have hxr := hx.below hbel
    by_cases hlt : k < 16
    · obtain ⟨a, x0, rfl, hal, hx0, h0⟩ := hxr.u8at (k := 4 * k) (by omega)
      obtain ⟨a', x1, e1, _, hx1, h1⟩ := hxr.u8atc (k := 4 * k + 1) (by omega) (by omega)
      obtain rfl : a = a' := by injection e1
      obtain ⟨a', x2, e2, _, hx2, h2⟩ := hxr.u8atc (k := 4 * k + 2) (by omega) (by omega)
      obtain rfl : a = a' := by injection e2
      obtain ⟨a', x3, e3, _, hx3, h3⟩ := hxr.u8atc (k := 4 * k + 3) (by omega) (by omega)
      obtain rfl : a = a' := by injection e3
      obtain ⟨y00, y01⟩ := ho _ _ hx0.out
      obtain ⟨y10, y11⟩ := ho _ _ hx1.out
      obtain ⟨y20, y21⟩ := ho _ _ hx2.out
      obtain ⟨y30, y31⟩ := ho _ _ hx3.out
      have hw := Lib.hid (blk_word hx0.out hx1.out hx2.out hx3.out hlt)
      have hc : wr.cell? ⟨w.heap.size + 1 + 1, k, none⟩ = some (.int .u32 0) := by rw [hb2.cell, Fill.at_ _ _ (by rw [words_length]; exact hlt)]
      have hf := hb2.frozen k
      have v1 : IntKind.i64.wrap (4 * (k : Int)) = 4 * (k : Int) := IntWalk.i64_in _ (by omega)
      have v2 : IntKind.i64.wrap (4 * (k : Int) + 1) = 4 * (k : Int) + 1 := IntWalk.i64_in _ (by omega)
      have v3 : IntKind.i64.wrap (4 * (k : Int) + 2) = 4 * (k : Int) + 2 := IntWalk.i64_in _ (by omega)
      have v4 : IntKind.i64.wrap (4 * (k : Int) + 3) = 4 * (k : Int) + 3 := IntWalk.i64_in _ (by omega)
      have n1 : (4 * (k : Int)).toNat = 4 * k := by omega
      have n2 : (4 * (k : Int) + 1).toNat = 4 * k + 1 := by omega
      have n3 : (4 * (k : Int) + 2).toNat = 4 * k + 2 := by omega
      have n4 : (4 * (k : Int) + 3).toNat = 4 * k + 3 := by omega
      have b1 : 4 * (k : Int) < (n : Int) := by omega
      have b2 : 4 * (k : Int) + 1 < (n : Int) := by omega
      have b3 : 4 * (k : Int) + 2 < (n : Int) := by omega
      have b4 : 4 * (k : Int) + 3 < (n : Int) := by omega
      have b5 : (0 : Int) ≤ 4 * (k : Int) := by omega
      have b6 : (0 : Int) ≤ 4 * (k : Int) + 1 := by omega
      have b7 : (0 : Int) ≤ 4 * (k : Int) + 2 := by omega
      have b8 : (0 : Int) ≤ 4 * (k : Int) + 3 := by omega
      have u0 : IntKind.u32.wrap x0 = x0 := IntWalk.u32_in _ (by omega)
      have u1 : IntKind.u32.wrap x1 = x1 := IntWalk.u32_in _ (by omega)
      have u2 : IntKind.u32.wrap x2 = x2 := IntWalk.u32_in _ (by omega)
      have u3 : IntKind.u32.wrap x3 = x3 := IntWalk.u32_in _ (by omega)
      have u4 : IntKind.u32.wrap (x1 * 256) = x1 * 256 := IntWalk.u32_in _ (by omega)
      have u5 : IntKind.u32.wrap (x2 * 65536) = x2 * 65536 := IntWalk.u32_in _ (by omega)
      have u6 : IntKind.u32.wrap (x3 * 16777216) = x3 * 16777216 := IntWalk.u32_in _ (by omega)
      go_wp2
      go_still_tail 35, (by kernel_rfl)
      change wpList _ _ _ _ _ wr.drew
      go_wp2
      go_roundw
      case rel =>
        have e2 := hb2.set_ k (.int .u32 (bits .or .u32 (bits .or .u32 (bits .or .u32 x0 (x1 * 256)) (x2 * 65536)) (x3 * 16777216)))
        rw [Fill.set _ _ hw.out] at e2
        exact ⟨k + 1, by go_num, by omega, hb0.far (p := ⟨w.heap.size + 1 + 1, k, none⟩) (by show _ ≠ w.heap.size + 1 + 1; omega) _, hb1.far (p := ⟨w.heap.size + 1 + 1, k, none⟩) (by show _ ≠ w.heap.size + 1 + 1; omega) _, e2, (hbel.setCell (p := ⟨w.heap.size + 1 + 1, k, none⟩) (by show _ ≤ w.heap.size + 1 + 1; omega) _).drew⟩
      case measure => simp [intOf]; omega
    · rw [Fill.full _ _ (by rw [words_length]; omega)] at hb2
      obtain ⟨M, hM⟩ : ∃ M, M = words xs := ⟨_, rfl⟩
      have HB : Hid (blk q xs = ⟨wr32 (q.a + (iterI M q 64).a), wr32 (q.b + (iterI M q 64).b), wr32 (q.c + (iterI M q 64).c), wr32 (q.d + (iterI M q 64).d)⟩) := by rw [hM]; rfl
      have hMl : Hid (M.length = 16) := by rw [hM]; show _ = _; simp [words]
      rw [← hM] at hb2
      clear hM hx hxr ho
      obtain ⟨wo, rfl⟩ : ∃ wo : World, wo = wr := ⟨_, rfl⟩
      go_wp2_with fail
      refine (consts_any _).mono ?_
      rintro e w1 ⟨rfl, hbw1⟩
      have K1 := Lib.hid (below_then hbel hbw1)
      have c0 := Lib.hid (hb0.later hbw1)
      have c1 := Lib.hid (hb1.later hbw1)
      have c2 := Lib.hid (hb2.later hbw1)
      clear hb0 hb1 hb2 hbel hbw1
      go_wp2_with (refine wpList_store_row rfl 157 _ _ rfl w1.heap.size t64 rfl rfl 157 _ (heap_alloc_new w1 _) (by kernel_rfl) (by kernel_rfl) (by kernel_rfl) ?_; rw [World.setRow_alloc_new])
      have d0 := (c0.out.alloc (.cells t64 157))
      have d1 := (c1.out.alloc (.cells t64 157))
      have d2 := (c2.out.alloc (.cells t64 157))
      have d3 := Blk.new w1 157 t64
      have KD := (K1.out.alloc (Nat.le_trans (Nat.le_refl _) K1.out.size) (.cells t64 157))
      have s0 := d0.cell 0
      have s1 := d0.cell 1
      have s2 := d0.cell 2
      have s3 := d0.cell 3
      simp only [q4] at s0 s1 s2 s3
      generalize w1.heap.size = gt at *
      obtain ⟨wd, hwd⟩ : ∃ wd, wd = w1.alloc (.cells t64 157) := ⟨_, rfl⟩
      rw [← hwd] at d0 d1 d2 d3 KD s0 s1 s2 s3 ⊢
      clear hwd c0 c1 c2 K1
      have D0 := Lib.hid d0
      have D1 := Lib.hid d1
      have D2 := Lib.hid d2
      have D3 := Lib.hid d3
      have KD' := Lib.hid KD
      clear d0 d1 d2 d3 KD
      go_quiet (fail)
      go_wp2_with fail
      refine (rounds_any _).mono ?_
      rintro e w2 ⟨rfl, hb2'⟩
      have f0 := (D0.out.drewN _).later hb2'
      have f1 := (D1.out.drewN _).later hb2'
      have f2 := (D2.out.drewN _).later hb2'
      have f3 := (D3.out.drewN _).later hb2'
      have f0k := below_then (below_drewN KD'.out _) hb2'
      clear hb2' D0 D1 D2 D3 KD' s0 s1 s2 s3
      go_wp2
      go_loopw [8, 9, 10, 11, 66] (fun a b c d i wk => ∃ (k : Nat) (Q : Q4), i = .int .i64 k ∧ k ≤ 4 ∧ a = .int .u32 Q.a ∧ b = .int .u32 Q.b ∧ c = .int .u32 Q.c ∧ d = .int .u32 Q.d ∧ Hid (Q = iterI M q (16 * k)) ∧ Hid Q.ok ∧
          Blk wk w.heap.size 152 (q4 q) ∧ Blk wk (w.heap.size + 1) 152 (q4 ⟨0, 0, 0, 0⟩) ∧ Blk wk (w.heap.size + 1 + 1) 156 (u32sD M).toArray ∧ Blk wk gt 157 t64 ∧ Below w.heap.size w wk) (fun _ _ _ _ i _ => 4 - (intOf i).toNat)
      case atStart => exact ⟨0, q, rfl, by omega, rfl, rfl, rfl, rfl, rfl, hq, f0, f1, f2, f3, f0k⟩
      case round =>
        clear f0 f1 f2 f3 f0k
        obtain ⟨k, Q, rfl, hk, rfl, rfl, rfl, rfl, hQ, hQo, f0, f1, f2, f3, f0k⟩ := hrel
        obtain ⟨wk, rfl⟩ : ∃ wk : World, wk = wr := ⟨_, rfl⟩
        by_cases hk0 : k = 0
        · subst hk0
          have i0 : ∀ W, (Instr.index 163 (.agg r28) (.int .i64 0)).run Try.prog W = .ok (.agg #[.func (.func 105) #[] #[], .int .i64 1, .int .i64 0, .int .i64 7, .int .i64 12, .int .i64 17, .int .i64 22]) W := fun _ => by kernel_rfl
          go_wp2_with (refine wpList_store_row rfl 162 _ _ rfl wk.heap.size #[.func (.func 105) #[] #[], .int .i64 1, .int .i64 0, .int .i64 7, .int .i64 12, .int .i64 17, .int .i64 22] rfl rfl 162 _ (heap_alloc_new wk _) (by kernel_rfl) (by kernel_rfl) (by kernel_rfl) ?_; rw [World.setRow_alloc_new])
          have f4 := Blk.new wk 162 #[.func (.func 105) #[] #[], .int .i64 1, .int .i64 0, .int .i64 7, .int .i64 12, .int .i64 17, .int .i64 22]
          have KF := f0k.alloc (Nat.le_trans (Nat.le_refl _) f0k.size) (.cells #[.func (.func 105) #[] #[], .int .i64 1, .int .i64 0, .int .i64 7, .int .i64 12, .int .i64 17, .int .i64 22] 162)
          have g0 := f0.alloc (.cells #[.func (.func 105) #[] #[], .int .i64 1, .int .i64 0, .int .i64 7, .int .i64 12, .int .i64 17, .int .i64 22] 162)
          have g1 := f1.alloc (.cells #[.func (.func 105) #[] #[], .int .i64 1, .int .i64 0, .int .i64 7, .int .i64 12, .int .i64 17, .int .i64 22] 162)
          have g2 := f2.alloc (.cells #[.func (.func 105) #[] #[], .int .i64 1, .int .i64 0, .int .i64 7, .int .i64 12, .int .i64 17, .int .i64 22] 162)
          have g3 := f3.alloc (.cells #[.func (.func 105) #[] #[], .int .i64 1, .int .i64 0, .int .i64 7, .int .i64 12, .int .i64 17, .int .i64 22] 162)
          generalize wk.heap.size = gr at *
          generalize wk.alloc (.cells #[.func (.func 105) #[] #[], .int .i64 1, .int .i64 0, .int .i64 7, .int .i64 12, .int .i64 17, .int .i64 22] 162) = wo2 at *
          clear f0 f1 f2 f3 f0k
          have G : Hid (Blk wo2 w.heap.size 152 (q4 q) ∧ Blk wo2 (w.heap.size + 1) 152 (q4 ⟨0, 0, 0, 0⟩) ∧ Blk wo2 (w.heap.size + 1 + 1) 156 (u32sD M).toArray ∧ Blk wo2 gt 157 t64 ∧ Below w.heap.size w wo2) := ⟨g0, g1, g2, g3, KF⟩
          have F4 : Hid (Blk wo2 gr 162 #[.func (.func 105) #[] #[], .int .i64 1, .int .i64 0, .int .i64 7, .int .i64 12, .int .i64 17, .int .i64 22]) := f4
          clear f4 KF g0 g1 g2 g3
          go_wp2
          go_loopw [8, 9, 10, 11, 70] (fun a b c d i wj => ∃ (j : Nat) (Q : Q4), i = .int .i64 j ∧ j ≤ 16 ∧ a = .int .u32 Q.a ∧ b = .int .u32 Q.b ∧ c = .int .u32 Q.c ∧ d = .int .u32 Q.d ∧ Hid (Q = iterI M q (16 * 0 + j)) ∧ Hid Q.ok ∧ ∃ dn, wj = wo2.drewN dn) (fun _ _ _ _ i _ => 16 - (intOf i).toNat)
          case atStart => exact ⟨0, Q, rfl, by omega, rfl, rfl, rfl, rfl, hQ, hQo, 0, rfl⟩
          case round =>
            obtain ⟨j, Q, rfl, hj, rfl, rfl, rfl, rfl, hQ, hQo, dn, rfl⟩ := hrel
            by_cases hjlt : j < 16
            · obtain ⟨t, ht, hct⟩ := t64_at G.out.2.2.2.1 (i := 16 * 0 + j) (by omega)
              obtain ⟨m, hm, hcm⟩ := u32s_at G.out.2.2.1 (i := whI (16 * 0 + j)) (by rw [hMl.out]; exact whI_lt (by omega))
              have hcn := by16_at0 F4.out hjlt
              obtain ⟨N, hN⟩ : ∃ N, N = byI (16 * 0 + j) := ⟨_, rfl⟩
              have hNb := byI_table (16 * 0 + j) (by omega)
              rw [← hN] at hNb hcn
              obtain ⟨hN0, hN1⟩ := hNb
              have HN := Lib.hid hN
              clear hN
              have e1 : whI (16 * 0 + j) = (j) % 16 := by unfold whI; (repeat' split) <;> omega
              have e2 : 16 * 0 + j = j := by omega
              rw [e1] at hcm
              rw [e2] at hct
              have cf : wo2.cell? ⟨gr, 0, none⟩ = some (.func (.func 105) #[] #[]) := F4.out.cell 0
              have ct : wo2.cell? ⟨gr, 1, none⟩ = some (.int .i64 1) := F4.out.cell 1
              have cm : wo2.cell? ⟨gr, 2, none⟩ = some (.int .i64 0) := F4.out.cell 2
              clear e1 e2
              have W32 : ∀ x, IntKind.u32.wrap x = wr32 x := IntKind.wrap_u32
              have x0 : ((j : Int)).tmod 16 = ((j : Int)) % 16 := Int.tmod_eq_emod_of_nonneg (by omega)
              have x1 : IntKind.i64.wrap (((j : Int)) % 16) = ((j : Int)) % 16 := IntWalk.i64_in _ (by omega)
              have x2 : (((j : Int)) % 16).toNat = (j) % 16 := by omega
              have x3 : ((j : Int)).toNat = j := by omega
              have x4 : (0 : Int) ≤ ((j : Int)) % 16 := by omega
              have x5 : ((j : Int)) % 16 < (16 : Int) := by omega
              have x6 : (j : Int) < (64 : Int) := by omega
              have x7 : (0 : Int) ≤ (j : Int) := by omega
              go_wp2
              go_quiet ((go_at_call 105; exact quiet_add_same (mix0_any _ _ _ _)))
              clear x0 x1 x2 x3 x4 x5 x6 x7
              have hv := wr32_ok (wr32 (wr32 (Q.a + mixI 0 Q.b Q.c Q.d) + t) + m)
              obtain ⟨hv0, hv1⟩ := hv
              go_wp2_with (go_at_call 104; refine (rot_any _ N _ hN0 hN1 hv0 hv1).mono ?_; rintro e w' ⟨rfl, rfl⟩)
              go_roundw
              case rel => exact ⟨j + 1, stepI M (16 * 0 + j) Q, by go_num, by omega, rfl, by rw [step_b ht.out hm.out (f := mixI 0 Q.b Q.c Q.d) (mix_at0 (by omega)), ← HN.out], rfl, rfl, step_eq hQ.out, stepI_ok hQo.out, _, rfl⟩
              case measure => simp [intOf]; omega
            · go_wp2
              go_roundw
              case rel => exact ⟨0 + 1, Q, rfl, by omega, rfl, rfl, rfl, rfl, by rw [hQ.out]; show _ = iterI M q _; congr 1; omega, hQo.out, G.out.1.drewN _, G.out.2.1.drewN _, G.out.2.2.1.drewN _, G.out.2.2.2.1.drewN _, below_drewN G.out.2.2.2.2 _⟩
              case measure => simp [intOf]
        by_cases hk1 : k = 1
        · subst hk1
          have i0 : ∀ W, (Instr.index 163 (.agg r28) (.int .i64 1)).run Try.prog W = .ok (.agg #[.func (.func 106) #[] #[], .int .i64 5, .int .i64 1, .int .i64 5, .int .i64 9, .int .i64 14, .int .i64 20]) W := fun _ => by kernel_rfl
          go_wp2_with (refine wpList_store_row rfl 162 _ _ rfl wk.heap.size #[.func (.func 106) #[] #[], .int .i64 5, .int .i64 1, .int .i64 5, .int .i64 9, .int .i64 14, .int .i64 20] rfl rfl 162 _ (heap_alloc_new wk _) (by kernel_rfl) (by kernel_rfl) (by kernel_rfl) ?_; rw [World.setRow_alloc_new])
          have f4 := Blk.new wk 162 #[.func (.func 106) #[] #[], .int .i64 5, .int .i64 1, .int .i64 5, .int .i64 9, .int .i64 14, .int .i64 20]
          have KF := f0k.alloc (Nat.le_trans (Nat.le_refl _) f0k.size) (.cells #[.func (.func 106) #[] #[], .int .i64 5, .int .i64 1, .int .i64 5, .int .i64 9, .int .i64 14, .int .i64 20] 162)
          have g0 := f0.alloc (.cells #[.func (.func 106) #[] #[], .int .i64 5, .int .i64 1, .int .i64 5, .int .i64 9, .int .i64 14, .int .i64 20] 162)
          have g1 := f1.alloc (.cells #[.func (.func 106) #[] #[], .int .i64 5, .int .i64 1, .int .i64 5, .int .i64 9, .int .i64 14, .int .i64 20] 162)
          have g2 := f2.alloc (.cells #[.func (.func 106) #[] #[], .int .i64 5, .int .i64 1, .int .i64 5, .int .i64 9, .int .i64 14, .int .i64 20] 162)
          have g3 := f3.alloc (.cells #[.func (.func 106) #[] #[], .int .i64 5, .int .i64 1, .int .i64 5, .int .i64 9, .int .i64 14, .int .i64 20] 162)
          generalize wk.heap.size = gr at *
          generalize wk.alloc (.cells #[.func (.func 106) #[] #[], .int .i64 5, .int .i64 1, .int .i64 5, .int .i64 9, .int .i64 14, .int .i64 20] 162) = wo2 at *
          clear f0 f1 f2 f3 f0k
          have G : Hid (Blk wo2 w.heap.size 152 (q4 q) ∧ Blk wo2 (w.heap.size + 1) 152 (q4 ⟨0, 0, 0, 0⟩) ∧ Blk wo2 (w.heap.size + 1 + 1) 156 (u32sD M).toArray ∧ Blk wo2 gt 157 t64 ∧ Below w.heap.size w wo2) := ⟨g0, g1, g2, g3, KF⟩
          have F4 : Hid (Blk wo2 gr 162 #[.func (.func 106) #[] #[], .int .i64 5, .int .i64 1, .int .i64 5, .int .i64 9, .int .i64 14, .int .i64 20]) := f4
          clear f4 KF g0 g1 g2 g3
          go_wp2
          go_loopw [8, 9, 10, 11, 70] (fun a b c d i wj => ∃ (j : Nat) (Q : Q4), i = .int .i64 j ∧ j ≤ 16 ∧ a = .int .u32 Q.a ∧ b = .int .u32 Q.b ∧ c = .int .u32 Q.c ∧ d = .int .u32 Q.d ∧ Hid (Q = iterI M q (16 * 1 + j)) ∧ Hid Q.ok ∧ ∃ dn, wj = wo2.drewN dn) (fun _ _ _ _ i _ => 16 - (intOf i).toNat)
          case atStart => exact ⟨0, Q, rfl, by omega, rfl, rfl, rfl, rfl, hQ, hQo, 0, rfl⟩
          case round =>
            obtain ⟨j, Q, rfl, hj, rfl, rfl, rfl, rfl, hQ, hQo, dn, rfl⟩ := hrel
            by_cases hjlt : j < 16
            · obtain ⟨t, ht, hct⟩ := t64_at G.out.2.2.2.1 (i := 16 * 1 + j) (by omega)
              obtain ⟨m, hm, hcm⟩ := u32s_at G.out.2.2.1 (i := whI (16 * 1 + j)) (by rw [hMl.out]; exact whI_lt (by omega))
              have hcn := by16_at1 F4.out hjlt
              obtain ⟨N, hN⟩ : ∃ N, N = byI (16 * 1 + j) := ⟨_, rfl⟩
              have hNb := byI_table (16 * 1 + j) (by omega)
              rw [← hN] at hNb hcn
              obtain ⟨hN0, hN1⟩ := hNb
              have HN := Lib.hid hN
              clear hN
              have e1 : whI (16 * 1 + j) = (5 * (16 + j) + 1) % 16 := by unfold whI; (repeat' split) <;> omega
              have e2 : 16 * 1 + j = 16 + j := by omega
              rw [e1] at hcm
              rw [e2] at hct
              have cf : wo2.cell? ⟨gr, 0, none⟩ = some (.func (.func 106) #[] #[]) := F4.out.cell 0
              have ct : wo2.cell? ⟨gr, 1, none⟩ = some (.int .i64 5) := F4.out.cell 1
              have cm : wo2.cell? ⟨gr, 2, none⟩ = some (.int .i64 1) := F4.out.cell 2
              clear e1 e2
              have W32 : ∀ x, IntKind.u32.wrap x = wr32 x := IntKind.wrap_u32
              have x0 : IntKind.i64.wrap (5 * (16 + (j : Int))) = 5 * (16 + (j : Int)) := IntWalk.i64_in _ (by omega)
              have x1 : IntKind.i64.wrap (5 * (16 + (j : Int)) + 1) = 5 * (16 + (j : Int)) + 1 := IntWalk.i64_in _ (by omega)
              have x2 : (5 * (16 + (j : Int)) + 1).tmod 16 = (5 * (16 + (j : Int)) + 1) % 16 := Int.tmod_eq_emod_of_nonneg (by omega)
              have x3 : IntKind.i64.wrap ((5 * (16 + (j : Int)) + 1) % 16) = (5 * (16 + (j : Int)) + 1) % 16 := IntWalk.i64_in _ (by omega)
              have x4 : ((5 * (16 + (j : Int)) + 1) % 16).toNat = (5 * (16 + j) + 1) % 16 := by omega
              have x5 : (16 + (j : Int)).toNat = 16 + j := by omega
              have x6 : (0 : Int) ≤ (5 * (16 + (j : Int)) + 1) % 16 := by omega
              have x7 : (5 * (16 + (j : Int)) + 1) % 16 < (16 : Int) := by omega
              have x8 : 16 + (j : Int) < (64 : Int) := by omega
              have x9 : (0 : Int) ≤ 16 + (j : Int) := by omega
              go_wp2
              go_quiet ((go_at_call 106; exact quiet_add_same (mix1_any _ _ _ _)))
              clear x0 x1 x2 x3 x4 x5 x6 x7 x8 x9
              have hv := wr32_ok (wr32 (wr32 (Q.a + mixI 16 Q.b Q.c Q.d) + t) + m)
              obtain ⟨hv0, hv1⟩ := hv
              go_wp2_with (go_at_call 104; refine (rot_any _ N _ hN0 hN1 hv0 hv1).mono ?_; rintro e w' ⟨rfl, rfl⟩)
              go_roundw
              case rel => exact ⟨j + 1, stepI M (16 * 1 + j) Q, by go_num, by omega, rfl, by rw [step_b ht.out hm.out (f := mixI 16 Q.b Q.c Q.d) (mix_at1 (by omega)), ← HN.out], rfl, rfl, step_eq hQ.out, stepI_ok hQo.out, _, rfl⟩
              case measure => simp [intOf]; omega
            · go_wp2
              go_roundw
              case rel => exact ⟨1 + 1, Q, rfl, by omega, rfl, rfl, rfl, rfl, by rw [hQ.out]; show _ = iterI M q _; congr 1; omega, hQo.out, G.out.1.drewN _, G.out.2.1.drewN _, G.out.2.2.1.drewN _, G.out.2.2.2.1.drewN _, below_drewN G.out.2.2.2.2 _⟩
              case measure => simp [intOf]
        by_cases hk2 : k = 2
        · subst hk2
          have i0 : ∀ W, (Instr.index 163 (.agg r28) (.int .i64 2)).run Try.prog W = .ok (.agg #[.func (.func 107) #[] #[], .int .i64 3, .int .i64 5, .int .i64 4, .int .i64 11, .int .i64 16, .int .i64 23]) W := fun _ => by kernel_rfl
          go_wp2_with (refine wpList_store_row rfl 162 _ _ rfl wk.heap.size #[.func (.func 107) #[] #[], .int .i64 3, .int .i64 5, .int .i64 4, .int .i64 11, .int .i64 16, .int .i64 23] rfl rfl 162 _ (heap_alloc_new wk _) (by kernel_rfl) (by kernel_rfl) (by kernel_rfl) ?_; rw [World.setRow_alloc_new])
          have f4 := Blk.new wk 162 #[.func (.func 107) #[] #[], .int .i64 3, .int .i64 5, .int .i64 4, .int .i64 11, .int .i64 16, .int .i64 23]
          have KF := f0k.alloc (Nat.le_trans (Nat.le_refl _) f0k.size) (.cells #[.func (.func 107) #[] #[], .int .i64 3, .int .i64 5, .int .i64 4, .int .i64 11, .int .i64 16, .int .i64 23] 162)
          have g0 := f0.alloc (.cells #[.func (.func 107) #[] #[], .int .i64 3, .int .i64 5, .int .i64 4, .int .i64 11, .int .i64 16, .int .i64 23] 162)
          have g1 := f1.alloc (.cells #[.func (.func 107) #[] #[], .int .i64 3, .int .i64 5, .int .i64 4, .int .i64 11, .int .i64 16, .int .i64 23] 162)
          have g2 := f2.alloc (.cells #[.func (.func 107) #[] #[], .int .i64 3, .int .i64 5, .int .i64 4, .int .i64 11, .int .i64 16, .int .i64 23] 162)
          have g3 := f3.alloc (.cells #[.func (.func 107) #[] #[], .int .i64 3, .int .i64 5, .int .i64 4, .int .i64 11, .int .i64 16, .int .i64 23] 162)
          generalize wk.heap.size = gr at *
          generalize wk.alloc (.cells #[.func (.func 107) #[] #[], .int .i64 3, .int .i64 5, .int .i64 4, .int .i64 11, .int .i64 16, .int .i64 23] 162) = wo2 at *
          clear f0 f1 f2 f3 f0k
          have G : Hid (Blk wo2 w.heap.size 152 (q4 q) ∧ Blk wo2 (w.heap.size + 1) 152 (q4 ⟨0, 0, 0, 0⟩) ∧ Blk wo2 (w.heap.size + 1 + 1) 156 (u32sD M).toArray ∧ Blk wo2 gt 157 t64 ∧ Below w.heap.size w wo2) := ⟨g0, g1, g2, g3, KF⟩
          have F4 : Hid (Blk wo2 gr 162 #[.func (.func 107) #[] #[], .int .i64 3, .int .i64 5, .int .i64 4, .int .i64 11, .int .i64 16, .int .i64 23]) := f4
          clear f4 KF g0 g1 g2 g3
          go_wp2
          go_loopw [8, 9, 10, 11, 70] (fun a b c d i wj => ∃ (j : Nat) (Q : Q4), i = .int .i64 j ∧ j ≤ 16 ∧ a = .int .u32 Q.a ∧ b = .int .u32 Q.b ∧ c = .int .u32 Q.c ∧ d = .int .u32 Q.d ∧ Hid (Q = iterI M q (16 * 2 + j)) ∧ Hid Q.ok ∧ ∃ dn, wj = wo2.drewN dn) (fun _ _ _ _ i _ => 16 - (intOf i).toNat)
          case atStart => exact ⟨0, Q, rfl, by omega, rfl, rfl, rfl, rfl, hQ, hQo, 0, rfl⟩
          case round =>
            obtain ⟨j, Q, rfl, hj, rfl, rfl, rfl, rfl, hQ, hQo, dn, rfl⟩ := hrel
            by_cases hjlt : j < 16
            · obtain ⟨t, ht, hct⟩ := t64_at G.out.2.2.2.1 (i := 16 * 2 + j) (by omega)
              obtain ⟨m, hm, hcm⟩ := u32s_at G.out.2.2.1 (i := whI (16 * 2 + j)) (by rw [hMl.out]; exact whI_lt (by omega))
              have hcn := by16_at2 F4.out hjlt
              obtain ⟨N, hN⟩ : ∃ N, N = byI (16 * 2 + j) := ⟨_, rfl⟩
              have hNb := byI_table (16 * 2 + j) (by omega)
              rw [← hN] at hNb hcn
              obtain ⟨hN0, hN1⟩ := hNb
              have HN := Lib.hid hN
              clear hN
              have e1 : whI (16 * 2 + j) = (3 * (32 + j) + 5) % 16 := by unfold whI; (repeat' split) <;> omega
              have e2 : 16 * 2 + j = 32 + j := by omega
              rw [e1] at hcm
              rw [e2] at hct
              have cf : wo2.cell? ⟨gr, 0, none⟩ = some (.func (.func 107) #[] #[]) := F4.out.cell 0
              have ct : wo2.cell? ⟨gr, 1, none⟩ = some (.int .i64 3) := F4.out.cell 1
              have cm : wo2.cell? ⟨gr, 2, none⟩ = some (.int .i64 5) := F4.out.cell 2
              clear e1 e2
              have W32 : ∀ x, IntKind.u32.wrap x = wr32 x := IntKind.wrap_u32
              have x0 : IntKind.i64.wrap (3 * (32 + (j : Int))) = 3 * (32 + (j : Int)) := IntWalk.i64_in _ (by omega)
              have x1 : IntKind.i64.wrap (3 * (32 + (j : Int)) + 5) = 3 * (32 + (j : Int)) + 5 := IntWalk.i64_in _ (by omega)
              have x2 : (3 * (32 + (j : Int)) + 5).tmod 16 = (3 * (32 + (j : Int)) + 5) % 16 := Int.tmod_eq_emod_of_nonneg (by omega)
              have x3 : IntKind.i64.wrap ((3 * (32 + (j : Int)) + 5) % 16) = (3 * (32 + (j : Int)) + 5) % 16 := IntWalk.i64_in _ (by omega)
              have x4 : ((3 * (32 + (j : Int)) + 5) % 16).toNat = (3 * (32 + j) + 5) % 16 := by omega
              have x5 : (32 + (j : Int)).toNat = 32 + j := by omega
              have x6 : (0 : Int) ≤ (3 * (32 + (j : Int)) + 5) % 16 := by omega
              have x7 : (3 * (32 + (j : Int)) + 5) % 16 < (16 : Int) := by omega
              have x8 : 32 + (j : Int) < (64 : Int) := by omega
              have x9 : (0 : Int) ≤ 32 + (j : Int) := by omega
              go_wp2
              go_quiet ((go_at_call 107; exact quiet_add_same (mix2_any _ _ _ _)))
              clear x0 x1 x2 x3 x4 x5 x6 x7 x8 x9
              have hv := wr32_ok (wr32 (wr32 (Q.a + mixI 32 Q.b Q.c Q.d) + t) + m)
              obtain ⟨hv0, hv1⟩ := hv
              go_wp2_with (go_at_call 104; refine (rot_any _ N _ hN0 hN1 hv0 hv1).mono ?_; rintro e w' ⟨rfl, rfl⟩)
              go_roundw
              case rel => exact ⟨j + 1, stepI M (16 * 2 + j) Q, by go_num, by omega, rfl, by rw [step_b ht.out hm.out (f := mixI 32 Q.b Q.c Q.d) (mix_at2 (by omega)), ← HN.out], rfl, rfl, step_eq hQ.out, stepI_ok hQo.out, _, rfl⟩
              case measure => simp [intOf]; omega
            · go_wp2
              go_roundw
              case rel => exact ⟨2 + 1, Q, rfl, by omega, rfl, rfl, rfl, rfl, by rw [hQ.out]; show _ = iterI M q _; congr 1; omega, hQo.out, G.out.1.drewN _, G.out.2.1.drewN _, G.out.2.2.1.drewN _, G.out.2.2.2.1.drewN _, below_drewN G.out.2.2.2.2 _⟩
              case measure => simp [intOf]
        by_cases hk3 : k = 3
        · subst hk3
          have i0 : ∀ W, (Instr.index 163 (.agg r28) (.int .i64 3)).run Try.prog W = .ok (.agg #[.func (.func 108) #[] #[], .int .i64 7, .int .i64 0, .int .i64 6, .int .i64 10, .int .i64 15, .int .i64 21]) W := fun _ => by kernel_rfl
          go_wp2_with (refine wpList_store_row rfl 162 _ _ rfl wk.heap.size #[.func (.func 108) #[] #[], .int .i64 7, .int .i64 0, .int .i64 6, .int .i64 10, .int .i64 15, .int .i64 21] rfl rfl 162 _ (heap_alloc_new wk _) (by kernel_rfl) (by kernel_rfl) (by kernel_rfl) ?_; rw [World.setRow_alloc_new])
          have f4 := Blk.new wk 162 #[.func (.func 108) #[] #[], .int .i64 7, .int .i64 0, .int .i64 6, .int .i64 10, .int .i64 15, .int .i64 21]
          have KF := f0k.alloc (Nat.le_trans (Nat.le_refl _) f0k.size) (.cells #[.func (.func 108) #[] #[], .int .i64 7, .int .i64 0, .int .i64 6, .int .i64 10, .int .i64 15, .int .i64 21] 162)
          have g0 := f0.alloc (.cells #[.func (.func 108) #[] #[], .int .i64 7, .int .i64 0, .int .i64 6, .int .i64 10, .int .i64 15, .int .i64 21] 162)
          have g1 := f1.alloc (.cells #[.func (.func 108) #[] #[], .int .i64 7, .int .i64 0, .int .i64 6, .int .i64 10, .int .i64 15, .int .i64 21] 162)
          have g2 := f2.alloc (.cells #[.func (.func 108) #[] #[], .int .i64 7, .int .i64 0, .int .i64 6, .int .i64 10, .int .i64 15, .int .i64 21] 162)
          have g3 := f3.alloc (.cells #[.func (.func 108) #[] #[], .int .i64 7, .int .i64 0, .int .i64 6, .int .i64 10, .int .i64 15, .int .i64 21] 162)
          generalize wk.heap.size = gr at *
          generalize wk.alloc (.cells #[.func (.func 108) #[] #[], .int .i64 7, .int .i64 0, .int .i64 6, .int .i64 10, .int .i64 15, .int .i64 21] 162) = wo2 at *
          clear f0 f1 f2 f3 f0k
          have G : Hid (Blk wo2 w.heap.size 152 (q4 q) ∧ Blk wo2 (w.heap.size + 1) 152 (q4 ⟨0, 0, 0, 0⟩) ∧ Blk wo2 (w.heap.size + 1 + 1) 156 (u32sD M).toArray ∧ Blk wo2 gt 157 t64 ∧ Below w.heap.size w wo2) := ⟨g0, g1, g2, g3, KF⟩
          have F4 : Hid (Blk wo2 gr 162 #[.func (.func 108) #[] #[], .int .i64 7, .int .i64 0, .int .i64 6, .int .i64 10, .int .i64 15, .int .i64 21]) := f4
          clear f4 KF g0 g1 g2 g3
          go_wp2
          go_loopw [8, 9, 10, 11, 70] (fun a b c d i wj => ∃ (j : Nat) (Q : Q4), i = .int .i64 j ∧ j ≤ 16 ∧ a = .int .u32 Q.a ∧ b = .int .u32 Q.b ∧ c = .int .u32 Q.c ∧ d = .int .u32 Q.d ∧ Hid (Q = iterI M q (16 * 3 + j)) ∧ Hid Q.ok ∧ ∃ dn, wj = wo2.drewN dn) (fun _ _ _ _ i _ => 16 - (intOf i).toNat)
          case atStart => exact ⟨0, Q, rfl, by omega, rfl, rfl, rfl, rfl, hQ, hQo, 0, rfl⟩
          case round =>
            obtain ⟨j, Q, rfl, hj, rfl, rfl, rfl, rfl, hQ, hQo, dn, rfl⟩ := hrel
            by_cases hjlt : j < 16
            · obtain ⟨t, ht, hct⟩ := t64_at G.out.2.2.2.1 (i := 16 * 3 + j) (by omega)
              obtain ⟨m, hm, hcm⟩ := u32s_at G.out.2.2.1 (i := whI (16 * 3 + j)) (by rw [hMl.out]; exact whI_lt (by omega))
              have hcn := by16_at3 F4.out hjlt
              obtain ⟨N, hN⟩ : ∃ N, N = byI (16 * 3 + j) := ⟨_, rfl⟩
              have hNb := byI_table (16 * 3 + j) (by omega)
              rw [← hN] at hNb hcn
              obtain ⟨hN0, hN1⟩ := hNb
              have HN := Lib.hid hN
              clear hN
              have e1 : whI (16 * 3 + j) = (7 * (48 + j)) % 16 := by unfold whI; (repeat' split) <;> omega
              have e2 : 16 * 3 + j = 48 + j := by omega
              rw [e1] at hcm
              rw [e2] at hct
              have cf : wo2.cell? ⟨gr, 0, none⟩ = some (.func (.func 108) #[] #[]) := F4.out.cell 0
              have ct : wo2.cell? ⟨gr, 1, none⟩ = some (.int .i64 7) := F4.out.cell 1
              have cm : wo2.cell? ⟨gr, 2, none⟩ = some (.int .i64 0) := F4.out.cell 2
              clear e1 e2
              have W32 : ∀ x, IntKind.u32.wrap x = wr32 x := IntKind.wrap_u32
              have x0 : IntKind.i64.wrap (7 * (48 + (j : Int))) = 7 * (48 + (j : Int)) := IntWalk.i64_in _ (by omega)
              have x1 : (7 * (48 + (j : Int))).tmod 16 = (7 * (48 + (j : Int))) % 16 := Int.tmod_eq_emod_of_nonneg (by omega)
              have x2 : IntKind.i64.wrap ((7 * (48 + (j : Int))) % 16) = (7 * (48 + (j : Int))) % 16 := IntWalk.i64_in _ (by omega)
              have x3 : ((7 * (48 + (j : Int))) % 16).toNat = (7 * (48 + j)) % 16 := by omega
              have x4 : (48 + (j : Int)).toNat = 48 + j := by omega
              have x5 : (0 : Int) ≤ (7 * (48 + (j : Int))) % 16 := by omega
              have x6 : (7 * (48 + (j : Int))) % 16 < (16 : Int) := by omega
              have x7 : 48 + (j : Int) < (64 : Int) := by omega
              have x8 : (0 : Int) ≤ 48 + (j : Int) := by omega
              go_wp2
              go_quiet ((go_at_call 108; exact quiet_add_same (mix3_any _ _ _ _)))
              clear x0 x1 x2 x3 x4 x5 x6 x7 x8
              have hv := wr32_ok (wr32 (wr32 (Q.a + mixI 48 Q.b Q.c Q.d) + t) + m)
              obtain ⟨hv0, hv1⟩ := hv
              go_wp2_with (go_at_call 104; refine (rot_any _ N _ hN0 hN1 hv0 hv1).mono ?_; rintro e w' ⟨rfl, rfl⟩)
              go_roundw
              case rel => exact ⟨j + 1, stepI M (16 * 3 + j) Q, by go_num, by omega, rfl, by rw [step_b ht.out hm.out (f := mixI 48 Q.b Q.c Q.d) (mix_at3 (by omega)), ← HN.out], rfl, rfl, step_eq hQ.out, stepI_ok hQo.out, _, rfl⟩
              case measure => simp [intOf]; omega
            · go_wp2
              go_roundw
              case rel => exact ⟨3 + 1, Q, rfl, by omega, rfl, rfl, rfl, rfl, by rw [hQ.out]; show _ = iterI M q _; congr 1; omega, hQo.out, G.out.1.drewN _, G.out.2.1.drewN _, G.out.2.2.1.drewN _, G.out.2.2.2.1.drewN _, below_drewN G.out.2.2.2.2 _⟩
              case measure => simp [intOf]
        have hk4 : k = 4 := by omega
        subst hk4
        have s0 := f0.cell 0
        have s1 := f0.cell 1
        have s2 := f0.cell 2
        have s3 := f0.cell 3
        simp only [q4] at s0 s1 s2 s3
        have W32 : ∀ x, IntKind.u32.wrap x = wr32 x := IntKind.wrap_u32
        go_wp2_with (refine wpList_store_row rfl 152 _ _ rfl (w.heap.size + 1) (q4 ⟨wr32 (q.a + Q.a), wr32 (q.b + Q.b), wr32 (q.c + Q.c), wr32 (q.d + Q.d)⟩) rfl rfl 152 _ f1 i33 rfl (q4_one _) ?_)
        refine bodyPost_ret (results_cell_row rfl _ _ (w.heap.size + 1) 152 (q4 ⟨wr32 (q.a + Q.a), wr32 (q.b + Q.b), wr32 (q.c + Q.c), wr32 (q.d + Q.d)⟩) (0, 0) _ rfl (f1.setRow _) Try.underlying152 rfl i33) rfl ⟨?_, below_setRow f0k (by omega) _⟩
        rw [HB.out, ← show Q = iterI M q 64 from hQ.out]
        rfl
end Go.Proofs.Ytbkejlalbjomkaa
namespace Go.Proofs.Ytbkejlalbjomkaa
set_option linter.unusedVariables false
open Go.RowKit

theorem i27 : (Try.prog.info? 116).map (·.size) = some 16 := by kernel_rfl

theorem q4_nth {w : World} {g : Nat} {t : TypeId} {Q : Q4} (h : Blk w g t (q4 Q)) {i : Nat} (hi : i < 4) : w.cell? ⟨g, i, none⟩ = some (.int .u32 (Q.nth i)) := by
  rw [h.cell]
  have : i = 0 ∨ i = 1 ∨ i = 2 ∨ i = 3 := by omega
  rcases this with rfl | rfl | rfl | rfl <;> rfl
def z16 : Array Value := Array.replicate 16 (.int .u8 0)
/-- What is being padded: the row, the state, the room for the answer. -/
def Cur (w0 w : World) (Q : Q4) (v : Value) (L : List Int) : Prop :=
  (∃ g cap, v = .slice (some ⟨g, 0, none⟩) L.length cap) ∧ w.ownsRow (w0.heap.size + 2) 5 1 v L.length (u8s L) ∧ Blk w w0.heap.size 116 z16 ∧ Blk w (w0.heap.size + 1) 152 (q4 Q) ∧ Below w0.heap.size w0 w ∧ w0.heap.size + 2 ≤ w.heap.size
theorem Cur.mk' {w0 w : World} {Q : Q4} {v : Value} {L : List Int} {n : Nat} (hn : L.length = n) (h0 : 0 < n) (ho : w.ownsRow (w0.heap.size + 2) 5 1 v n (u8s L)) (h1 : Blk w w0.heap.size 116 z16) (h2 : Blk w (w0.heap.size + 1) 152 (q4 Q)) (hb : Below w0.heap.size w0 w)
    (hs : w0.heap.size + 2 ≤ w.heap.size) : Cur w0 w Q v L := by
  subst hn
  obtain ⟨g, cap, hv, _⟩ := ho.form h0
  exact ⟨⟨g, cap, hv⟩, ho, h1, h2, hb, hs⟩
theorem Cur.pre {w0 w : World} {Q : Q4} {v : Value} {L : List Int} (h : Cur w0 w Q v L) (o : Obj) : (w.alloc o).ownsRow (w0.heap.size + 2) 5 1 v L.length (u8s L) ∧ w0.heap.size + 2 ≤ (w.alloc o).heap.size :=
  ⟨h.2.1.alloc o, by rw [World.size_alloc]; have := h.2.2.2.2.2; omega⟩
theorem Cur.push {w0 w w2 : World} {Q : Q4} {v v2 : Value} {L : List Int} {b : Int} {o : Obj} (h : Cur w0 w Q v L) (ho : w2.ownsRow (w0.heap.size + 2) 5 1 v2 (L.length + 1) (u8s L ++ [.int .u8 b])) (hb : Below (w0.heap.size + 2) (w.alloc o) w2) : Cur w0 w2 Q v2 (L ++ [b]) := by
  have hs := hb.size
  rw [World.size_alloc] at hs
  have hw := h.2.2.2.2.2
  refine Cur.mk' (n := L.length + 1) (by simp) (by omega) ?_ ((h.2.2.1.alloc o).below hb (by omega)) ((h.2.2.2.1.alloc o).below hb (by omega)) ((h.2.2.2.2.1.alloc h.2.2.2.2.1.size o).trans (hb.mono (by omega))) (by omega)
  rw [u8s_append]
  exact ho
theorem one_ok (b : Int) : ∀ u ∈ [Value.int .u8 b], u.oneCell' = true := by intro u hu; simp at hu; subst hu; rfl

/-- What holds ahead of each block of the padded bytes' end. -/
def L4 (w : World) (xs L3 : List Int) (g4 cap4 T : Nat) (v : Value) (wq : World) : Prop :=
  ∃ (A'' : Option Addr) (c'' m4 k2 : Nat) (Q2 : Q4), v = .slice A'' m4 c'' ∧ m4 + 64 * k2 = T ∧ m4 ≤ c'' ∧ c'' ≤ 9223372036854775807 ∧
    (∀ W, Row W g4 5 cap4 (u8s L3) → Reads W W.heap.size 1 A'' m4 (u8s ((pad xs).drop (64 * k2)))) ∧ Q2 = bl s0 (pad xs) k2 ∧ Q2.ok ∧
    Row wq g4 5 cap4 (u8s L3) ∧ Blk wq w.heap.size 116 z16 ∧ Blk wq (w.heap.size + 1) 152 (q4 Q2) ∧ Below w.heap.size w wq
theorem L4.next {w w7 : World} {xs L3 : List Int} {g4 cap4 T m4 c'' k2 : Nat} {A'' : Option Addr} {Q2 : Q4} (hmT : m4 + 64 * k2 = T) (h64 : 64 ≤ m4) (hc2 : m4 ≤ c'') (hm2 : c'' ≤ 9223372036854775807)
    (hR4 : ∀ W, Row W g4 5 cap4 (u8s L3) → Reads W W.heap.size 1 A'' m4 (u8s ((pad xs).drop (64 * k2)))) (hQ2 : Q2 = bl s0 (pad xs) k2) (hg : w.heap.size + 2 ≤ g4)
    (hrow : Row w7 g4 5 cap4 (u8s L3)) (h0 : Blk w7 w.heap.size 116 z16) (h1 : Blk w7 (w.heap.size + 1) 152 (q4 Q2)) (hb : Below w.heap.size w w7) :
    L4 w xs L3 g4 cap4 T (.slice (if c'' = 64 then A'' else A''.map (·.add 64)) (m4 - 64) (c'' - 64)) (w7.setRow (w.heap.size + 1) (q4 (blk Q2 ((pad xs).drop (64 * k2))))) := by
  refine ⟨_, _, _, k2 + 1, _, rfl, by omega, by omega, by omega, fun W hW => ?_, bl_next hQ2, blk_ok _ _, hrow.setRow_far (by omega) _, h0.setRow_far (by omega) _, h1.setRow _, below_setRow hb (by omega) _⟩
  have hr2 := (hR4 W hW).u8cut (k := 64) (cap := c'') h64 hc2
  rw [List.drop_drop] at hr2
  have e2 : 64 * k2 + 64 = 64 * (k2 + 1) := by omega
  rw [e2] at hr2
  exact hr2

set_option maxRecDepth 100000 in
set_option maxHeartbeats 2000000 in
theorem of_any (A : Option Addr) (n c : Nat) (xs : List Int) (w : World) (hx : Reads w w.heap.size 1 A n (u8s xs)) (ho : Oct xs) (hc : n ≤ c) (hm : c ≤ 9223372036854775807) (hn : n ≤ 1099511627776) :
    Calls Try.prog 93 #[.slice A n c] w fun e w' => e = .returned (.agg (u8s (md xs)).toArray) ∧ Below w.heap.size w w' := by
  have hlx := Lib.hid hx.u8len
  go_enter Try.func93, Try.ntmps93
  have l33 := fun (W : World) (g : Nat) (Q : Q4) (h : Blk W g 152 (q4 Q)) => h
  go_wp2_with (refine wpList_store_row rfl 152 _ _ rfl (w.heap.size + 1) (q4 s0) rfl rfl 152 _ (heap_alloc_new _ _) i33 rfl (q4_one _) ?_; rw [World.setRow_alloc_new])
  go_loopw [4] (fun r wr => ∃ (A' : Option Addr) (c' k : Nat) (Q : Q4), r = .slice A' (n - 64 * k) c' ∧ 64 * k ≤ n ∧ n - 64 * k ≤ c' ∧ c' ≤ 9223372036854775807 ∧ Reads wr w.heap.size 1 A' (n - 64 * k) (u8s (xs.drop (64 * k))) ∧ Hid (Q = bl s0 (pad xs) k) ∧ Hid Q.ok ∧
      Blk wr w.heap.size 116 (Array.replicate 16 (.int .u8 0)) ∧ Blk wr (w.heap.size + 1) 152 (q4 Q) ∧ Below w.heap.size w wr) (fun r _ => lenOf r)
  case atStart =>
    refine ⟨A, c, 0, s0, rfl, by omega, hc, hm, by simpa using (hx.alloc (Nat.le_refl _) _).alloc (by simp) _, rfl, s0_ok, ?_, ?_, ?_⟩
    · exact (Blk.new w _ _).alloc _
    · have := Blk.new (w.alloc (.cells (Array.replicate 16 (.int .u8 0)) 116)) 152 (q4 s0)
      rw [World.size_alloc] at this
      exact this
    · exact ((Below.refl _ _).alloc (Nat.le_refl _) _).alloc (by simp) _
  case round =>
    obtain ⟨A', c', k, Q, rfl, hk, hc', hm', hr, hQ, hQo, h0, h1, hb⟩ := hrel
    by_cases h64 : 64 ≤ n - 64 * k
    · go_wp2_with (first
        | (refine wpList_load_row rfl 152 _ rfl (w.heap.size + 1) rfl 152 (q4 Q) (0, 0) _ h1 Try.underlying152 rfl i33 ?_)
        | (go_at_call 100; refine (block_any _ _ _ _ Q _ (hr.more hb.size) (ho.drop _) h64 (by omega) hQo.out).mono ?_; rintro e w1 ⟨rfl, hb1⟩; have h1' := h1.later hb1)
        | (refine wpList_store_row rfl 152 _ _ rfl (w.heap.size + 1) (q4 (blk Q (xs.drop (64 * k)))) rfl rfl 152 _ h1' i33 rfl (q4_one _) ?_))
      go_roundw
      case rel =>
        have hb2 := below_setRow (below_then hb hb1) (g := w.heap.size + 1) (by omega) (q4 (blk Q (xs.drop (64 * k))))
        have e1 : n - 64 * k - 64 = n - 64 * (k + 1) := by omega
        have hcut := (hx.below hb2)
        have hr2 := ((hr.below ((hb1.mono hb.size))).only (g := w.heap.size + 1) (w' := w1.setRow (w.heap.size + 1) (q4 (blk Q (xs.drop (64 * k))))) (Nat.le_trans hb.size hb1.size) (fun ad had => by
          obtain ⟨ad', e, hlt, _⟩ := hr.2 (by omega)
          rw [had] at e
          injection e with e
          subst e
          omega) (only_setRow _ _ _)).u8cut (k := 64) (cap := c') h64 hc'
        rw [List.drop_drop, e1] at hr2
        have e2 : 64 * k + 64 = 64 * (k + 1) := by omega
        rw [e2] at hr2
        exact ⟨_, c' - 64, k + 1, blk Q (xs.drop (64 * k)), by rw [e1]; rfl, by omega, by omega, by omega, hr2, bl_step hQ.out (by rw [hlx.out]; omega), blk_ok _ _, (h0.later hb1).setRow_far (by omega) _, h1'.setRow _, hb2⟩
      case measure => simp [lenOf]; omega
    · have hlt : n - 64 * k < 64 := by omega
      have hmk := fun W => run_makeN (P := Try.prog) Try.underlying39 info_u8 rfl .i64 .i64 0 128 (by omega) (by omega) (by omega) W
      simp only [Int.natCast_zero, show ((128 : Nat) : Int) = 128 from rfl] at hmk
      have hB2 : w.heap.size + 2 ≤ wr.heap.size := by have := h1.lt; omega
      have hown0 := World.ownsRow_made (base := w.heap.size + 2) (e := 5) (size := 1) wr (madeCells #[.int .u8 0] 128) 128 hB2 (by simp only [maxLen]; omega) (by rw [madeCells_size])
      have hr0 := (hr.more hb.size).alloc (Nat.le_refl _) (.cells (madeCells #[.int .u8 0] 128) 5)
      have hK0 := hb.alloc hb.size (.cells (madeCells #[.int .u8 0] 128) 5)
      have m0 := h0.alloc (.cells (madeCells #[.int .u8 0] 128) 5)
      have m1 := h1.alloc (.cells (madeCells #[.int .u8 0] 128) 5)
      have hsz0 : w.heap.size + 2 ≤ (wr.alloc (.cells (madeCells #[.int .u8 0] 128) 5)).heap.size := by rw [World.size_alloc]; omega
      have HO := Lib.hid (And.intro hown0 (And.intro hr0 (And.intro hK0 (And.intro m0 (And.intro m1 hsz0)))))
      clear hown0 hr0 hK0 m0 m1 hsz0 h0 h1 hr hb
      obtain ⟨R, hR⟩ : ∃ R, R = xs.drop (64 * k) := ⟨_, rfl⟩
      have hRl : R.length = n - 64 * k := by rw [hR, List.length_drop, hlx.out]
      rw [← hR] at HO
      go_wp2_with (first
        | (at_builtin; refine wpList_app el_u8 rfl (.tmp 20) (.tmp 21) rfl HO.out.1 rfl HO.out.2.1 rfl u8s_one (by simp only [maxLen]; omega) (by omega) HO.out.2.2.2.2.2 ?_; intro v1 w1 hown1 hbw1 hg1 hat1; rw [List.nil_append, Nat.zero_add] at hown1; have hs1 := hbw1.size; have HO1 := Lib.hid (And.intro (hown1.alloc (.cells #[.int .u8 128] 5)) (And.intro ((HO.out.2.2.2.1.below hbw1 (by omega)).alloc (.cells #[.int .u8 128] 5)) (And.intro ((HO.out.2.2.2.2.1.below hbw1 (by omega)).alloc (.cells #[.int .u8 128] 5)) (And.intro (((HO.out.2.2.1.trans (hbw1.mono (by omega)))).alloc (by have := HO.out.2.2.2.2.2; omega) (.cells #[.int .u8 128] 5)) (show w.heap.size + 2 ≤ (w1.alloc (.cells #[.int .u8 128] 5)).heap.size by rw [World.size_alloc]; have := HO.out.2.2.2.2.2; omega))))); clear hown1 hbw1 hg1 hat1)
        | (at_builtin; refine wpList_app el_u8 rfl (.tmp 22) (.tmp 23) rfl HO1.out.1 rfl (Reads.one_new w1 (.int .u8 128) 5) rfl (by intro u hu; simp at hu; subst hu; rfl) (by simp only [maxLen]; omega) (by omega) HO1.out.2.2.2.2 ?_; intro v2 w2 hown2 hbw2 hg2 hat2))
      have hcur : Cur w w2 Q v2 (R ++ [128]) := Cur.mk' (n := n - 64 * k + 1) (by simp [hRl]) (by omega) (by rw [u8s_append]; exact hown2) (HO1.out.2.1.below hbw2 (by omega)) (HO1.out.2.2.1.below hbw2 (by omega)) (HO1.out.2.2.2.1.trans (hbw2.mono (by omega))) (by have := HO1.out.2.2.2.2; have := hbw2.size; omega)
      clear HO HO1 hown2 hbw2 hg2 hat2 hs1
      have HR := Lib.hid hR
      have HRl := Lib.hid hRl
      clear hR hRl
      obtain ⟨Z, hZ⟩ : ∃ Z, Z = (119 - n % 64) % 64 := ⟨_, rfl⟩
      have hZb : Z ≤ 63 := by omega
      have HZ := Lib.hid hZ
      clear hZ
      go_loopw [5] (fun v wq => ∃ z : Nat, z ≤ Z ∧ Cur w wq Q v (R ++ [128] ++ List.replicate z 0)) (fun v _ => 200 - lenOf v)
      case atStart => exact ⟨0, by omega, by simpa using hcur⟩
      case round =>
        obtain ⟨z, hz, hcq⟩ := hrel
        obtain ⟨⟨g, cap, hv⟩, _⟩ := id hcq
        have hLl : (R ++ [128] ++ List.replicate z 0).length = n - 64 * k + 1 + z := by simp [HRl.out]; omega
        have HLl := Lib.hid hLl
        rw [hLl] at hv
        clear hLl
        subst hv
        obtain ⟨wo, rfl⟩ : ∃ wo : World, wo = wr := ⟨_, rfl⟩
        by_cases hzZ : z < Z
        · have hb : (((n - 64 * k + 1 + z : Nat) : Int) % 64 != 56) = true := by simp; have := HZ.out; omega
          have HC := Lib.hid hcq
          clear hcq hcur
          go_wp2_with (at_builtin; refine wpList_app el_u8 rfl (.tmp 29) (.tmp 30) rfl (by have := (HC.out.pre (.cells #[.int .u8 0] 5)).1; rw [HLl.out] at this; exact this) rfl (Reads.one_new _ (.int .u8 0) 5) rfl (one_ok 0) (by simp only [maxLen]; omega) (by omega) (HC.out.pre _).2 ?_; intro v3 w3 hown3 hbw3 hg3 hat3)
          have hp : Cur w w3 Q v3 (R ++ [128] ++ List.replicate (z + 1) 0) := by
            rw [List.replicate_succ', ← List.append_assoc]
            exact HC.out.push (by rw [HLl.out]; exact hown3) hbw3
          obtain ⟨⟨g3, cap3, hv3⟩, _⟩ := id hp
          rw [List.length_append, List.length_append, HRl.out, List.length_replicate] at hv3
          subst hv3
          clear hown3 hbw3 hg3 hat3
          go_roundw
          case rel => exact ⟨z + 1, by omega, hp⟩
          case measure => simp [lenOf]; omega
        · have hb : (((n - 64 * k + 1 + z : Nat) : Int) % 64 != 56) = false := by simp; have := HZ.out; omega
          obtain rfl : z = Z := by omega
          have HC := Lib.hid hcq
          clear hcq hcur hz hzZ
          have w8 : IntKind.u64.wrap (n : Int) = n := IntWalk.u64_in _ (by omega)
          have w9 : IntKind.u64.wrap ((n : Int) * 8) = (n : Int) * 8 := IntWalk.u64_in _ (by omega)
          go_wp2
          obtain ⟨L2, hL2⟩ : ∃ L2, L2 = R ++ [128] ++ List.replicate z 0 := ⟨_, rfl⟩
          rw [← hL2] at HC HLl
          clear hb
          generalize ((((n - 64 * k : Nat) : Int) + 1 + (z : Int)) % 64 != 56) = bb
          go_loopw [5, 36] (fun v i wq => ∃ j : Nat, i = .int .i64 j ∧ j ≤ 8 ∧ Cur w wq Q v (L2 ++ (lenBytes n).take j)) (fun _ i _ => 8 - (intOf i).toNat)
          case atStart => exact ⟨0, rfl, by omega, by simpa using HC.out⟩
          case round =>
            clear HC
            obtain ⟨j, rfl, hj, hcq⟩ := hrel
            obtain ⟨⟨g4, cap4, hv⟩, _⟩ := id hcq
            have hLl : (L2 ++ (lenBytes n).take j).length = n - 64 * k + 1 + z + j := by simp [HLl.out, lenBytes_length]; omega
            have HLl2 := Lib.hid hLl
            rw [hLl] at hv
            clear hLl
            subst hv
            obtain ⟨wo2, rfl⟩ : ∃ wo2 : World, wo2 = wr := ⟨_, rfl⟩
            by_cases hj8 : j < 8
            · have hx8 := Lib.hid (lenBytes_at (n := n) hj8)
              have HC := Lib.hid hcq
              clear hcq
              go_wp2_with (at_builtin; refine wpList_app el_u8 rfl (.tmp 39) (.tmp 45) rfl (by have := (HC.out.pre (.cells #[.int .u8 (((n : Int) * 8) / 2 ^ (8 * j) % 256)] 5)).1; rw [HLl2.out] at this; exact this) rfl (Reads.one_new _ (.int .u8 (((n : Int) * 8) / 2 ^ (8 * j) % 256)) 5) rfl (one_ok _) (by simp only [maxLen]; omega) (by omega) (HC.out.pre _).2 ?_; intro v3 w3 hown3 hbw3 hg3 hat3)
              have hp : Cur w w3 Q v3 (L2 ++ (lenBytes n).take (j + 1)) := by
                have e : (lenBytes n).take (j + 1) = (lenBytes n).take j ++ [((n : Int) * 8) / 2 ^ (8 * j) % 256] := by rw [List.take_add_one, hx8.out]; rfl
                rw [e, ← List.append_assoc]
                exact HC.out.push (by rw [HLl2.out]; exact hown3) hbw3
              clear hown3 hbw3 hg3 hat3
              go_roundw
              case rel => exact ⟨j + 1, by go_num, by omega, hp⟩
              case measure => simp [intOf]; omega
            · obtain rfl : j = 8 := by omega
              obtain ⟨L3, hL3⟩ : ∃ L3, L3 = (pad xs).drop (64 * k) := ⟨_, rfl⟩
              have e3 : L2 ++ (lenBytes n).take 8 = L3 := by
                rw [hL3, pad_drop (by rw [hlx.out]; exact hk), hlx.out, ← HZ.out, ← HR.out, hL2, List.take_of_length_le (by rw [lenBytes_length]; omega)]
              rw [e3] at hcq HLl2
              obtain ⟨T, hT⟩ : ∃ T, T = n + 9 + z := ⟨_, rfl⟩
              have hpl : (pad xs).length = T := by rw [pad_length, hlx.out, hT, ← HZ.out]
              have hT64 : T % 64 = 0 := by have := HZ.out; omega
              have eT : n - 64 * k + 1 + z + 8 = T - 64 * k := by omega
              have hkT : 64 * k ≤ T := by omega
              have hrow := row_of_own (by have := hcq.2.1; rw [HLl2.out] at this; exact this)
              obtain ⟨hrow, hg4, hcap1, hcap2⟩ := hrow
              have hR3 : Hid (∀ W, Row W g4 5 cap4 (u8s L3) → Reads W W.heap.size 1 (some ⟨g4, 0, none⟩) (T - 64 * k) (u8s ((pad xs).drop (64 * k)))) := fun W h => by
                rw [← hL3]
                exact h.u8reads (by rw [HLl2.out, eT])
              have HP := Lib.hid hpl
              obtain ⟨_, _, hq0, hq1, hqb, hqs⟩ := hcq
              clear e3 hpl hL2 hL3
              rw [eT]
              rw [eT] at hcap1
              clear eT
              have HT64 := Lib.hid hT64
              have hTle : T ≤ 1099511628000 := by omega
              clear hT hT64
              go_wp2
              obtain ⟨wp, rfl⟩ : ∃ wp : World, wp = wo2 := ⟨_, rfl⟩
              rw [show (((8 : Nat) : Int)) = 8 from rfl]
              go_loopw [5] (fun v wq => L4 w xs L3 g4 cap4 T v wq) (fun v _ => lenOf v)
              case atStart => exact ⟨_, _, _, k, Q, rfl, by omega, hcap1, hcap2, hR3.out, hQ.out, hQo.out, hrow, hq0, hq1, hqb⟩
              case round =>
                clear hQ hQo hrow hq0 hq1 hqb hR3 hcap1 hcap2 hkT
                obtain ⟨A'', c'', m4, k2, Q2, rfl, hmT, hc2, hm2, hR4, hQ2, hQ2o, hrow, h0, h1, hb⟩ := hrel
                replace hmT := Lib.hid hmT
                replace hQ2 := Lib.hid hQ2
                replace hR4 := Lib.hid hR4
                replace hQ2o := Lib.hid hQ2o
                by_cases h64' : 64 ≤ m4
                · have hpo := (pad_oct ho).drop (64 * k2)
                  by_cases hc64 : c'' = 64
                  · subst hc64
                    obtain rfl : m4 = 64 := by omega
                    go_wp2_with (first
                      | (refine wpList_load_row rfl 152 _ rfl (w.heap.size + 1) rfl 152 (q4 Q2) (0, 0) _ h1 Try.underlying152 rfl i33 ?_)
                      | (go_at_call 100; refine (block_any _ _ _ _ Q2 _ (hR4.out _ hrow) hpo (by omega) (by omega) hQ2o.out).mono ?_; rintro e w7 ⟨rfl, hb7⟩; have h1' := h1.later hb7)
                      | (refine wpList_store_row rfl 152 _ _ rfl (w.heap.size + 1) (q4 (blk Q2 ((pad xs).drop (64 * k2)))) rfl rfl 152 _ h1' i33 rfl (q4_one _) ?_))
                    go_roundw
                    case rel =>
                      have hnext := L4.next (w := w) hmT.out h64' hc2 hm2 hR4.out hQ2.out hg4 (hrow.later hb7) (h0.later hb7) h1' (below_then hb hb7)
                      exact hnext
                    case measure => simp [lenOf]
                  · go_wp2_with (first
                      | (refine wpList_load_row rfl 152 _ rfl (w.heap.size + 1) rfl 152 (q4 Q2) (0, 0) _ h1 Try.underlying152 rfl i33 ?_)
                      | (go_at_call 100; refine (block_any _ _ _ _ Q2 _ (hR4.out _ hrow) hpo (by omega) (by omega) hQ2o.out).mono ?_; rintro e w7 ⟨rfl, hb7⟩; have h1' := h1.later hb7)
                      | (refine wpList_store_row rfl 152 _ _ rfl (w.heap.size + 1) (q4 (blk Q2 ((pad xs).drop (64 * k2)))) rfl rfl 152 _ h1' i33 rfl (q4_one _) ?_))
                    go_roundw
                    case rel =>
                      have hnext := L4.next (w := w) hmT.out h64' hc2 hm2 hR4.out hQ2.out hg4 (hrow.later hb7) (h0.later hb7) h1' (below_then hb hb7)
                      rw [if_neg hc64] at hnext
                      exact hnext
                    case measure => simp [lenOf]; omega
                · obtain rfl : m4 = 0 := by have := hmT.out; have := HT64.out; omega
                  have hMd : Hid (md xs = outOf Q2) := by
                    show _ = _
                    unfold md
                    rw [HP.out, hQ2.out, ← hmT.out, Nat.zero_add, Nat.mul_div_cancel_left _ (by omega)]
                  obtain ⟨wo3, rfl⟩ : ∃ wo3 : World, wo3 = wr := ⟨_, rfl⟩
                  have K0 : Hid (Blk (wo3.alloc (.cells z16 116)) w.heap.size 116 z16 ∧ Blk (wo3.alloc (.cells z16 116)) (w.heap.size + 1) 152 (q4 Q2) ∧ Below w.heap.size w (wo3.alloc (.cells z16 116)) ∧ Blk (wo3.alloc (.cells z16 116)) wo3.heap.size 116 z16 ∧ w.heap.size + 1 < wo3.heap.size) :=
                    ⟨h0.alloc _, h1.alloc _, hb.alloc hb.size _, Blk.new _ _ _, h1.lt⟩
                  have hQn := Lib.hid (fun i => nth_ok hQ2o.out i)
                  clear hrow h0 h1 hb hR4 hQ2 hc2 hm2
                  go_wp2
                  have hol : (u8s (outOf Q2)).length = 16 := by rw [u8s_length, outOf_length]
                  have HOL := Lib.hid hol
                  clear hol
                  have hgo : w.heap.size + 1 < wo3.heap.size := K0.out.2.2.2.2
                  go_loopw [56] (fun i wq => ∃ j : Nat, i = .int .i64 j ∧ j ≤ 16 ∧ Blk wq w.heap.size 116 z16 ∧ Blk wq (w.heap.size + 1) 152 (q4 Q2) ∧ Below w.heap.size w wq ∧ Blk wq wo3.heap.size 116 (Fill (.int .u8 0) (u8s (outOf Q2)) j)) (fun i _ => 16 - (intOf i).toNat)
                  case atStart => exact ⟨0, rfl, by omega, K0.out.1, K0.out.2.1, K0.out.2.2.1, by rw [Fill.zero, HOL.out]; exact K0.out.2.2.2.1⟩
                  case round =>
                    clear K0
                    obtain ⟨j, rfl, hj, h0, h1, hb, ho16⟩ := hrel
                    by_cases hj16 : j < 16
                    · have hcs := q4_nth h1 (i := j / 4) (by omega)
                      have hxo := Lib.hid (outOf_at (q := Q2) hj16)
                      have hrange := hQn.out (j / 4)
                      generalize Q2.nth (j / 4) = x at *
                      obtain ⟨hx0, hx1⟩ := hrange
                      have hco : wr.cell? ⟨wo3.heap.size, j, none⟩ = some (.int .u8 0) := by rw [ho16.cell, Fill.at_ _ _ (by rw [HOL.out]; exact hj16)]
                      have hfo := ho16.frozen j
                      go_wp2
                      go_roundw
                      case rel =>
                        have e2 := ho16.set_ j (.int .u8 (x / 2 ^ (8 * (j % 4)) % 256))
                        rw [Fill.set _ _ (u8s_get_of hxo.out)] at e2
                        exact ⟨j + 1, by go_num, by omega, h0.far (p := ⟨wo3.heap.size, j, none⟩) (by show _ ≠ wo3.heap.size; omega) _, h1.far (p := ⟨wo3.heap.size, j, none⟩) (by show _ ≠ wo3.heap.size; omega) _, hb.setCell (p := ⟨wo3.heap.size, j, none⟩) (by show _ ≤ wo3.heap.size; omega) _, e2⟩
                      case measure => simp [intOf]; omega
                    · rw [Fill.full _ _ (by rw [HOL.out]; omega)] at ho16
                      have HR16 : Hid ((u8s (outOf Q2)).toArray.size = 16 ∧ (u8s (outOf Q2)).toArray.all (·.oneCell') = true) := ⟨by simp [HOL.out], by simp [u8s, Value.oneCell']⟩
                      go_wp2_with (first
                        | (refine wpList_load_row rfl 116 _ rfl wo3.heap.size rfl 116 (u8s (outOf Q2)).toArray (0, 0) _ ho16 Try.underlying116 rfl (by rw [HR16.out.1]; exact i27) ?_)
                        | (refine wpList_store_row rfl 116 _ _ rfl w.heap.size (u8s (outOf Q2)).toArray rfl rfl 116 _ h0 (by rw [HR16.out.1]; exact i27) (by rw [HR16.out.1]; rfl) HR16.out.2 ?_))
                      refine bodyPost_ret (results_cell_row rfl _ _ w.heap.size 116 (u8s (outOf Q2)).toArray (0, 0) _ rfl (h0.setRow _) Try.underlying116 rfl (by rw [HR16.out.1]; exact i27)) rfl ⟨?_, below_setRow hb (by omega) _⟩
                      rw [hMd.out]
end Go.Proofs.Ytbkejlalbjomkaa
namespace Go.Proofs.Ytbkejlalbjomkaa
set_option linter.unusedVariables false
open Go.RowKit

theorem u8_or_xor {u x y : Int} (u0 : 0 ≤ u) (u1 : u ≤ 255) (x0 : 0 ≤ x) (x1 : x ≤ 255) (y0 : 0 ≤ y) (y1 : y ≤ 255) :
    0 ≤ bits .or .u8 u (bits .xor .u8 x y) ∧ bits .or .u8 u (bits .xor .u8 x y) ≤ 255 ∧ (bits .or .u8 u (bits .xor .u8 x y) = 0 ↔ u = 0 ∧ x = y) := by
  obtain ⟨a, rfl⟩ := Int.eq_ofNat_of_zero_le u0
  obtain ⟨b, rfl⟩ := Int.eq_ofNat_of_zero_le x0
  obtain ⟨c, rfl⟩ := Int.eq_ofNat_of_zero_le y0
  have hx : b ^^^ c < 2 ^ 8 := Nat.xor_lt_two_pow (by omega) (by omega)
  have ho : a ||| (b ^^^ c) < 2 ^ 8 := Nat.or_lt_two_pow (by omega) hx
  rw [u8_xor_nat b c (by omega) (by omega), u8_or_nat a _ (by omega) (by omega)]
  refine ⟨by omega, by omega, ?_⟩
  have e : a ||| (b ^^^ c) = 0 ↔ a = 0 ∧ b = c := by
    rw [Nat.or_eq_zero_iff]
    constructor
    · rintro ⟨h, h'⟩
      have := congrArg (· ^^^ c) h'
      simp [Nat.xor_assoc] at this
      exact ⟨h, this⟩
    · rintro ⟨h, rfl⟩
      exact ⟨h, Nat.xor_self _⟩
  constructor
  · intro h
    have := e.1 (by omega)
    omega
  · intro h
    have := e.2 (by omega)
    omega
theorem take_iff {xs ys : List Int} {k : Nat} {x y u v : Int} (h1 : xs[k]? = some x) (h2 : ys[k]? = some y) (hu : u = 0 ↔ xs.take k = ys.take k) (hv : v = 0 ↔ u = 0 ∧ x = y) : v = 0 ↔ xs.take (k + 1) = ys.take (k + 1) := by
  rw [hv, hu, List.take_add_one, List.take_add_one, h1, h2]
  have hl : (xs.take k).length = (ys.take k).length := by
    have a : k < xs.length := by
      rcases Nat.lt_or_ge k xs.length with h | h
      · exact h
      · rw [List.getElem?_eq_none h] at h1; cases h1
    have b : k < ys.length := by
      rcases Nat.lt_or_ge k ys.length with h | h
      · exact h
      · rw [List.getElem?_eq_none h] at h2; cases h2
    simp; omega
  constructor
  · rintro ⟨h, rfl⟩
    rw [h]
  · intro h
    have := List.append_inj h hl
    exact ⟨this.1, by simpa using this.2⟩

set_option maxHeartbeats 400000 in
theorem same_any (A A' : Option Addr) (n c n' c' : Nat) (xs ys : List Int) (w : World) (B B' : Nat) (hx : Reads w B 1 A n (u8s xs)) (hy : Reads w B' 1 A' n' (u8s ys)) (hox : Oct xs) (hoy : Oct ys) (hn : n ≤ 9223372036854775807) (hn' : n' ≤ 9223372036854775807) :
    Calls Try.prog 94 #[.slice A n c, .slice A' n' c'] w fun e w' => e = .returned (.bool (decide (xs = ys))) ∧ ∃ k, w' = w.drewN k := by
  have hlx := hx.u8len
  have hly := hy.u8len
  by_cases hl : n = n'
  · obtain rfl := hl
    have Hlx := Lib.hid hlx
    have Hly := Lib.hid hly
    clear hlx hly
    go_enter Try.func94, Try.ntmps94
    go_wp2
    go_loopw [5, 14] (fun u i wr => ∃ (k : Nat) (v : Int), i = .int .i64 k ∧ u = .int .u8 v ∧ k ≤ n ∧ 0 ≤ v ∧ v ≤ 255 ∧ Hid (v = 0 ↔ xs.take k = ys.take k) ∧ ∃ d, wr = w.drewN d) (fun _ i _ => n - (intOf i).toNat)
    case atStart => exact ⟨0, 0, rfl, rfl, by omega, by omega, by omega, by simp [Hid], 0, rfl⟩
    case round =>
      obtain ⟨k, v, rfl, rfl, hk, hv0, hv1, hv, d, rfl⟩ := hrel
      by_cases hlt : k < n
      · obtain ⟨a, x, rfl, _, hx1, h1⟩ := hx.u8at hlt
        obtain ⟨a', y, rfl, _, hy1, h2⟩ := hy.u8at hlt
        obtain ⟨x0, x1⟩ := hox _ _ hx1.out
        obtain ⟨y0, y1⟩ := hoy _ _ hy1.out
        have hb := u8_or_xor hv0 hv1 x0 x1 y0 y1
        have HB := Lib.hid hb
        clear hb
        go_wp2
        go_quiet (fail)
        go_wp2
        go_roundw
        case rel => exact ⟨k + 1, _, by go_num, rfl, by omega, HB.out.1, HB.out.2.1, take_iff hx1.out hy1.out hv.out HB.out.2.2, _, rfl⟩
        case measure => simp [intOf]; omega
      · obtain rfl : n = k := by omega
        have heq : Hid ((v == 0) = decide (xs = ys)) := by
          have := hv.out
          rw [List.take_of_length_le (by rw [Hlx.out]; omega), List.take_of_length_le (by rw [Hly.out]; omega)] at this
          show _ = _
          rw [Bool.eq_iff_iff]
          simp [this]
        clear Hlx Hly
        go_wp2
        go_ret
        exact ⟨by rw [← heq.out]; rfl, _, rfl⟩
  · have hb : ((n : Int) != (n' : Int)) = true := by simp; omega
    have hne : xs ≠ ys := by rintro rfl; omega
    clear hlx hly
    go_enter Try.func94, Try.ntmps94
    go_wp2
    go_ret
    exact ⟨by simp [hne], 0, rfl⟩

theorem md_len (xs : List Int) : (md xs).length = 16 := by unfold md; exact outOf_length _
end Go.Proofs.Ytbkejlalbjomkaa
namespace Go.Proofs.Ytbkejlalbjomkaa
set_option linter.unusedVariables false
open Go.RowKit

/-- A key cut or filled up to sixteen octets. -/
def key16 (ks : List Int) : List Int := ks.take 16 ++ List.replicate (16 - ks.length) 0
theorem key16_length (ks : List Int) : (key16 ks).length = 16 := by simp [key16]; omega
theorem key16_oct {ks : List Int} (h : Oct ks) : Oct (key16 ks) :=
  (h.take 16).append fun i x hx => by
    have := (List.mem_replicate.1 (List.mem_of_getElem? hx)).2
    omega
theorem take_next {L : List Int} {j : Nat} {x : Int} (h : L[j]? = some x) : L.take (j + 1) = L.take j ++ [x] := by rw [List.take_add_one, h]; rfl

/-- What holds ahead of each octet of the key. -/
def KeyAt (w : World) (xs ks : List Int) (v i : Value) (wq : World) : Prop :=
  ∃ j : Nat, i = .int .i64 j ∧ j ≤ 16 ∧ OwnB w wq v (xs ++ (key16 ks).take j)
theorem KeyAt.next {w w3 : World} {xs ks : List Int} {v3 : Value} {j : Nat} {b : Int} (hj : j < 16) (hb : (key16 ks)[j]? = some b) (H3 : OwnB w w3 v3 (xs ++ (key16 ks).take j ++ [b])) :
    KeyAt w xs ks v3 (.int .i64 ((j + 1 : Nat) : Int)) w3 :=
  ⟨j + 1, rfl, by omega, by rw [take_next hb, ← List.append_assoc]; exact H3⟩

end Go.Proofs.Ytbkejlalbjomkaa
namespace Go.Proofs.Ytbkejlalbjomkaa
set_option linter.unusedVariables false
open Go.RowKit

theorem splice_key (ks : List Int) : splice (List.replicate 16 (Value.int .u8 0)) 0 (u8s (ks.take 16)) = u8s (key16 ks) := by
  unfold splice key16
  rw [u8s_append, List.take_zero, List.nil_append, List.drop_replicate]
  congr 1
  simp [u8s]
  omega
theorem u8s_take_at {w : World} {A : Option Addr} {B n : Nat} {ks : List Int} (h : Reads w B 1 A n (u8s ks)) (h0 : 0 < (u8s (ks.take 16)).length) :
    ∃ ad, A = some ad ∧ ∀ j v, (u8s (ks.take 16))[j]? = some v → w.cell? (ad.add j) = some v := by
  have hl := h.u8len
  have hn : 0 < n := by rw [u8s_length, List.length_take] at h0; omega
  obtain ⟨ad, x, e, _, _, _⟩ := h.u8at hn
  refine ⟨ad, e, fun j v hv => ?_⟩
  rw [← u8s_take, List.getElem?_take] at hv
  split at hv
  · have hj : j < n := by
      have := (List.getElem?_eq_some_iff.1 hv).1
      rw [u8s_length] at this; omega
    obtain ⟨ad', u, e', _, hu, hc⟩ := h.at_ hj
    rw [e] at e'
    obtain rfl := Option.some.inj e'
    rw [hu] at hv
    rw [hc, ← hv]
  · simp at hv

set_option maxRecDepth 100000 in
set_option maxHeartbeats 1000000 in
theorem keyed_any (K A : Option Addr) (kn kc n c : Nat) (ks xs : List Int) (w : World) (hk : Reads w w.heap.size 1 K kn (u8s ks)) (hx : Reads w w.heap.size 1 A n (u8s xs)) (hko : Oct ks) (ho : Oct xs) (hn : n ≤ 1099511627000) (hkn : kn ≤ 9223372036854775807) :
    Calls Try.prog 74 #[.slice K kn kc, .slice A n c] w fun e w' => e = .returned (.agg (u8s (md (xs ++ key16 ks))).toArray) ∧ Below w.heap.size w w' := by
  have hlx := Lib.hid hx.u8len
  have hlk := Lib.hid hk.u8len
  have HK := Lib.hid hk
  have HXr := Lib.hid hx
  clear hk hx
  go_enter Try.func74, Try.ntmps74
  obtain ⟨C, hC⟩ : ∃ C, C = u8s (ks.take 16) := ⟨_, rfl⟩
  have HC := Lib.hid hC
  have HCl : Hid (C.length = Nat.min kn 16) := by
    show _ = _
    rw [hC, u8s_length, List.length_take, hlk.out]; exact Nat.min_comm _ _
  have HC1 : Hid (∀ v ∈ C, v.oneCell' = true) := by rw [hC]; exact u8s_one
  clear hC
  have HP : Hid (0 < C.length → ∃ ad, K = some ad ∧ ∀ j v, C[j]? = some v → ((w.alloc (.cells z16 116)).alloc (.cells z16 116)).cell? (ad.add j) = some v) := by
    intro h0
    rw [HC.out] at h0 ⊢
    exact u8s_take_at (((HK.out.alloc (Nat.le_refl _) _).more (by rw [World.size_alloc]; omega)).alloc (Nat.le_refl _) _) h0
  have HG : Hid (((w.alloc (.cells z16 116)).alloc (.cells z16 116)).heap[w.heap.size + 1]? = some (.cells (List.replicate 16 (.int .u8 0)).toArray 116 (0, 0))) := by
    have := Blk.new (w.alloc (.cells z16 116)) 116 z16
    rw [World.size_alloc] at this; exact this
  have HBw : Hid (Below (w.heap.size + 1) (w.alloc (.cells z16 116)) ((w.alloc (.cells z16 116)).alloc (.cells z16 116))) := (Below.refl _ _).alloc (by rw [World.size_alloc]; omega) _
  have HF : Hid (0 + C.length ≤ (List.replicate 16 (Value.int .u8 0)).length) := by
    show _ ≤ _
    rw [List.length_replicate, HCl.out]; have : Nat.min kn 16 ≤ 16 := Nat.min_le_right kn 16; omega
  go_wp2_with (refine wpList_copy_splice (o := ⟨some 8, _, _, _, _, _⟩) rfl (.tmp 6) (.tmp 7) 39 39 rfl 5 rfl rfl _ _ _ _ _ _ rfl rfl (w.heap.size + 1) 0 (List.replicate 16 (.int .u8 0)) 116 HG.out C HCl.out (fun h0 => ⟨rfl, HP.out h0⟩) HF.out HC1.out (w.heap.size + 1) (w.alloc (.cells z16 116)) HBw.out (Nat.le_refl _) ?_; intro w2 HG2 hb2)
  have hw16 : IntKind.i64.wrap ((n : Int) + 16) = (n : Int) + 16 := IntWalk.i64_in _ (by omega)
  have hmk := fun W => run_makeN (P := Try.prog) Try.underlying39 info_u8 rfl .i64 .i64 0 (n + 16) (by omega) (by omega) (by omega) W
  simp only [Int.natCast_zero, Int.natCast_add, show ((16 : Nat) : Int) = 16 from rfl] at hmk
  have hown0 : ∀ W : World, Hid ((W.alloc (.cells (madeCells #[Value.int .u8 0] (n + 16)) 5)).ownsRow W.heap.size 5 1 (.slice (some ⟨W.heap.size, 0, none⟩) 0 (n + 16)) 0 (u8s [])) := fun W => by
    have := World.ownsRow_made (base := W.heap.size) (e := 5) (size := 1) W (madeCells #[.int .u8 0] (n + 16)) (n + 16) (Nat.le_refl _) (by simp only [maxLen]; omega) (by rw [madeCells_size]; simp)
    exact this
  refine wp_region_w [(0, true), (1, true), (2, true), (4, true), (6, true), (3, false), (5, false), (7, false), (8, false), (9, false)] (by kernel_rfl) (fun _ d _ _ _ h => by cases d <;> exact h) ?_
  simp only [List.map_cons, List.map_nil, nthOp_zero, nthOp_succ]
  refine wpW_take (by rfl) (by intro W; go_simp; try with_reducible rfl) ?_
  refine wpW_take (by rfl) (by intro W; go_simp; try with_reducible rfl) ?_
  refine wpW_take (by rfl) (by intro W; go_simp; try with_reducible rfl) ?_
  refine wpW_take (by rfl) (by intro W; go_simp; try with_reducible rfl) ?_
  refine wpW_take (by rfl) (by intro W; go_simp; try with_reducible rfl) ?_
  refine wpW_do fun K3 hK3 => ?_
  have HO : Hid (OwnB w2 ((w2.alloc (.cells (madeCells #[Value.int .u8 0] (n + 16)) 5)).drew) (.slice (some ⟨w2.heap.size, 0, none⟩) 0 (n + 16)) [] ∧
      Reads ((w2.alloc (.cells (madeCells #[Value.int .u8 0] (n + 16)) 5)).drew) w.heap.size 1 A n (u8s xs) ∧ Blk ((w2.alloc (.cells (madeCells #[Value.int .u8 0] (n + 16)) 5)).drew) (w.heap.size + 1) 116 (u8s (key16 ks)).toArray ∧
      Blk ((w2.alloc (.cells (madeCells #[Value.int .u8 0] (n + 16)) 5)).drew) w.heap.size 116 z16 ∧ Below w.heap.size w ((w2.alloc (.cells (madeCells #[Value.int .u8 0] (n + 16)) 5)).drew) ∧ w.heap.size + 1 < w2.heap.size) := by
    have hA : Below w.heap.size w (w.alloc (.cells z16 116)) := (Below.refl _ _).alloc (Nat.le_refl _) _
    have hB : Below w.heap.size w w2 := hA.trans (hb2.mono (by omega))
    have hS := (show Blk w2 (w.heap.size + 1) 116 _ from HG2).lt
    refine ⟨⟨(hown0 w2).out, ((Below.refl _ _).alloc (Nat.le_refl _) _).drew⟩, (HXr.out.below hB).alloc (by omega) _, ?_, ?_, (hB.alloc (by omega) _).drew, hS⟩
    · have h1 := (show Blk w2 (w.heap.size + 1) 116 _ from HG2).alloc (.cells (madeCells #[Value.int .u8 0] (n + 16)) 5)
      rw [HC.out, splice_key] at h1
      exact h1
    · exact ((Blk.new w 116 z16).below hb2 (by omega)).alloc _
  clear hown0 HXr HBw HF
  go_wp2
  refine hK3.out _ _ ?_
  clear hK3 K3 HG2 hb2 hmk hw16
  generalize (w2.alloc (.cells (madeCells #[Value.int .u8 0] (n + 16)) 5)).drew = w3 at *
  refine wpW_do fun K4 hK4 => ?_
  go_wp2_with (at_builtin; refine wpList_app el_u8 rfl (.tmp 12) (.tmp 13) rfl HO.out.1.1 rfl HO.out.2.1 rfl u8s_one (by simp only [maxLen, List.length_nil]; omega) (by simp only [List.length_nil]; omega) HO.out.1.2.size ?_; intro v4 w4 ho4 hb4 _ _; have H4 := Lib.hid (HO.out.1.app rfl hlx.out ho4 hb4); have H4b := Lib.hid hb4; clear ho4 hb4)
  refine hK4.out _ _ ?_
  clear hK4 K4
  have HR4 : Hid (Reads w4 (w.heap.size + 2) 1 (some ⟨w.heap.size + 1, 0, none⟩) 16 (u8s (key16 ks))) := by
    have h1 := (HO.out.2.2.1.below H4b.out HO.out.2.2.2.2.2).reads (n := 16) (by rw [u8s_length, key16_length]; omega)
    rwa [List.take_of_length_le (by rw [u8s_length, key16_length]; omega)] at h1
  refine wpW_do fun K5 hK5 => ?_
  go_wp2_with (at_builtin; refine wpList_app el_u8 rfl (.tmp 14) (.tmp 15) rfl H4.out.1 rfl HR4.out rfl u8s_one (by simp only [maxLen, List.nil_append, hlx.out]; omega) (by simp only [List.nil_append, hlx.out]; omega) H4.out.2.size ?_; intro v5 w5 ho5 hb5 _ _; have H5 := Lib.hid (H4.out.app rfl (by rw [key16_length]) ho5 hb5); have H5b := Lib.hid hb5; clear ho5 hb5)
  refine hK5.out _ _ ?_
  clear hK5 K5 HR4
  rw [List.nil_append] at H5
  obtain ⟨A5, c5, hv⟩ := H5.out.shape
  have hL5 : (xs ++ key16 ks).length = n + 16 := by rw [List.length_append, key16_length, hlx.out]
  rw [hL5] at hv
  subst hv
  have HR5 := Lib.hid (H5.out.reads hL5)
  have hc5 : n + 16 ≤ c5 := by
    have := H5.out.1
    rw [hL5] at this
    rcases this.2 with ⟨h1, _⟩ | ⟨g, cap, cur, h1, _, _, h2, _⟩
    · injection h1 with _ h1 _; omega
    · injection h1 with _ h1 h3; omega
  have hm5 : c5 ≤ 9223372036854775807 := by
    have := H5.out.1
    rw [hL5] at this
    rcases this.2 with ⟨h1, _⟩ | ⟨g, cap, cur, h1, _, _, _, h2, _⟩
    · injection h1 with _ h1 _; omega
    · injection h1 with _ h1 h3; unfold maxLen at h2; omega
  clear hL5
  have HB5 : Hid (Blk w5 w.heap.size 116 z16 ∧ Below w.heap.size w w5) :=
    ⟨(HO.out.2.2.2.1.below H4b.out (by have := HO.out.2.2.2.2.2; omega)).below H5b.out (by have := HO.out.2.2.2.2.2; omega),
      (HO.out.2.2.2.2.1.trans (H4b.out.mono (by have := HO.out.2.2.2.2.2; omega))).trans (H5b.out.mono (by have := HO.out.2.2.2.2.2; omega))⟩
  refine wpW_do fun K6 hK6 => ?_
  go_wp2_with (go_at_call 93; refine (of_any A5 (n + 16) c5 _ _ HR5.out (ho.append (key16_oct hko)) hc5 hm5 (by omega)).mono ?_; rintro e w6 ⟨rfl, hb6⟩; have H6b := Lib.hid hb6; clear hb6)
  refine hK6.out _ _ ?_
  clear hK6 K6
  have h6 := HB5.out.1.later H6b.out
  have HR16 : Hid ((u8s (md (xs ++ key16 ks))).toArray.size = 16 ∧ (u8s (md (xs ++ key16 ks))).toArray.all (·.oneCell') = true) := ⟨by simp [u8s_length, md_len], by simp [u8s, Value.oneCell']⟩
  refine wpW_do fun K7 hK7 => ?_
  go_wp2_with (refine wpList_store_row rfl 116 _ _ rfl w.heap.size (u8s (md (xs ++ key16 ks))).toArray rfl rfl 116 _ h6 (by rw [HR16.out.1]; exact i27) (by rw [HR16.out.1]; rfl) HR16.out.2 ?_)
  refine hK7.out _ _ ?_
  clear hK7 K7
  refine wpW_nil ?_
  go_wp2
  refine bodyPost_ret (results_cell_row rfl _ _ w.heap.size 116 (u8s (md (xs ++ key16 ks))).toArray (0, 0) _ rfl (h6.setRow _) Try.underlying116 rfl (by rw [HR16.out.1]; exact i27)) rfl ⟨rfl, below_setRow (below_then HB5.out.2 H6b.out) (Nat.le_refl _) _⟩
end Go.Proofs.Ytbkejlalbjomkaa
namespace Go.Proofs.Ytbkejlalbjomkaa
set_option linter.unusedVariables false
open Go.RowKit

/-- Does a key open the packet, by its digest? -/
def dgB (xs : List Int) (N : Nat) (now : Int) (k : AK) : Bool := (k.id == xs.getD 18 0) && (tkB now k && decide (md (xs.take N ++ key16 k.bs) = xs.drop N))
def seqOf (xs : List Int) : Int := bits .or .u32 (bits .or .u32 (bits .or .u32 (xs.getD 20 0 * 16777216) (xs.getD 21 0 * 65536)) (xs.getD 22 0 * 256)) (xs.getD 23 0)
def digOf (xs : List Int) (N : Nat) (L : List AK) (now : Int) : Int × Int × Int :=
  if xs.getD 16 0 ≠ 0 ∨ xs.getD 17 0 ≠ 0 ∨ xs.getD 19 0 ≠ 16 then (0, 0, 24)
  else if xs.length ≠ N + 16 then (0, 0, 22)
  else if L.any (dgB xs N now) then (seqOf xs, N, 0) else (0, 0, 26)
def DgAt (w w' : World) (p : Int × Int × Int) (e : Ending) : Prop := e = .returned (.tuple #[.int .u32 p.1, .int .i64 p.2.1, .int .i64 p.2.2]) ∧ Below w.heap.size w w'
theorem dgAt {w w' : World} {p q : Int × Int × Int} {e : Ending} (h : DgAt w w' p e) (hq : q = p) : DgAt w w' q e := hq ▸ h
end Go.Proofs.Ytbkejlalbjomkaa
namespace Go.Proofs.Ytbkejlalbjomkaa
set_option linter.unusedVariables false
open Go.RowKit

/-- Does a key open the packet, by its password? -/
def pwB (xs : List Int) (now : Int) (k : AK) : Bool := tkB now k && decide (pw k.bs = (xs.drop 16).take 8)
/-- What opening answers: the number, the length, the error. -/
def openOf (xs : List Int) (L : List AK) (now : Int) : Int × Int × Int :=
  if (pkLen xs).2 ≠ 0 then (0, 0, (pkLen xs).2)
  else if 0 < L.length ∧ (checkOf L).1 ≠ 0 then (0, 0, 26)
  else if pkKind xs ≠ kind0 L then (0, 0, 25)
  else if kind0 L = 2 then digOf xs (pkLen xs).1.toNat L now
  else if wholeOf xs (pkLen xs).1 ≠ 0 then (0, 0, wholeOf xs (pkLen xs).1)
  else if kind0 L = 0 then (0, (pkLen xs).1, 0)
  else if L.any (pwB xs now) then (0, (pkLen xs).1, 0) else (0, 0, 26)
theorem check_kind {L : List AK} (h0 : 0 < L.length) (h : (checkOf L).1 = 0) : kind0 L = 1 ∨ kind0 L = 2 := by
  rcases L with _ | ⟨k, r⟩
  · simp at h0
  · unfold checkOf at h
    split at h
    · cases h
    · rw [List.length_cons] at h
      unfold checkFrom at h
      simp only [List.getElem?_cons_zero] at h
      split at h
      · cases h
      · rename_i hb
        simp only [badB, mayB, Bool.not_eq_true, Bool.or_eq_false_iff, Bool.not_eq_false', Bool.and_eq_true, decide_eq_true_eq] at hb
        obtain ⟨⟨⟨⟨⟨⟨⟨h1, h2⟩, h3⟩, _⟩, _⟩, _⟩, _⟩, _⟩ := hb
        unfold longest at h3
        show k.kind = 1 ∨ k.kind = 2
        split at h3
        · exact .inl ‹_›
        · split at h3
          · exact .inr ‹_›
          · omega
theorem checkFrom_two (L : List AK) : ∀ n i, (checkFrom L n i).1 = 0 → checkFrom L n i = (0, 0) := by
  intro n
  induction n with
  | zero => intro i _; rfl
  | succ n ih =>
    intro i h
    unfold checkFrom at h ⊢
    cases hk : L[i]? with
    | none => rfl
    | some k =>
      rw [hk] at h
      simp only at h ⊢
      split at h
      · cases h
      · split at h
        · cases h
        · rename_i h1 h2
          rw [if_neg h1, if_neg h2]
          exact ih _ h
theorem check_two {L : List AK} (h : (checkOf L).1 = 0) : checkOf L = (0, 0) := by
  unfold checkOf at h ⊢
  split at h
  · cases h
  · rename_i h1
    rw [if_neg h1]
    exact checkFrom_two L _ _ h
def plOut (xs : List Int) (L : List AK) (now : Int) (N : Nat) : Value := if L.any (pwB xs now) then .tuple #[.int .u32 0, .int .i64 N, .int .i64 0] else .tuple #[.int .u32 0, .int .i64 0, .int .i64 26]
end Go.Proofs.Ytbkejlalbjomkaa
namespace Go.Proofs.Ytbkejlalbjomkaa
set_option linter.unusedVariables false
open Go.RowKit

def noDefer (ops : Array Oper) : Bool := ops.toList.all fun o => match o.op with | .defer _ => false | _ => true
theorem noDefer_spec {ops : Array Oper} (h : noDefer ops = true) {i : Nat} {o : Oper} (ho : ops[i]? = some o) : ∀ c, o.op ≠ .defer c := by
  intro c hc
  unfold noDefer at h
  have hm : o ∈ ops.toList := by
    rw [Array.mem_toList_iff]
    exact Array.mem_of_getElem? ho
  have := List.all_eq_true.1 h o hm
  rw [hc] at this
  cases this
theorem rowsIn_of {P : Program} {row : String} {args : Array Value} {w : World} {R : Value → World → Prop} {l n : Nat} (h : Rows P row args w R) : RowsIn (Fence.wide.inRound l) n P row args w R :=
  fun c cs _ => by
    obtain ⟨v, w', r, s⟩ := h c cs
    exact ⟨v, w', r, stepsIn_wide.2 s⟩
theorem opIn_of_op {P : Program} {l n : Nat} {o : Oper} {a : Act} {w : World} {K : Act → World → Prop} {Q : Exit → Act → World → Prop} (hnd : ∀ c, o.op ≠ .defer c) (h : o.wp P a w K Q) : o.wpIn (Fence.wide.inRound l) n P a w K Q := by
  refine ⟨fun f _ => trivial, ?_⟩
  rw [Fence.inRound_round, Oper.semAt_some _ _ _ hnd]
  unfold Oper.wp at h
  generalize (execOp a.eval o).run P w = r at *
  cases r with
  | ok x w' =>
    cases x <;> simp only [Oper.upon, Oper.uponIn] at h ⊢ <;>
      first
        | exact h
        | exact ⟨fun h => (by cases h), CallsIn.inRound l (callsIn_wide.2 h)⟩
        | exact ⟨fun h => (by cases h), rowsIn_of h⟩
  | halt x w' => cases x <;> simp only [Oper.upon, Oper.uponIn] at h ⊢ <;> exact h
theorem wpOpIn_of {P : Program} {ops : Array Oper} {Q : Exit → Act → World → Prop} {l n i : Nat} {K : Act → World → Prop} {a : Act} {w : World} (hnd : noDefer ops = true) (hQo : ∀ a w, ¬ Q .outgrown a w) (h : wpOp P ops Q i K a w) : wpOpIn (Fence.wide.inRound l) n P ops Q i K a w := by
  unfold wpOp at h
  unfold wpOpIn
  cases hi : ops[i]? with
  | none => rw [hi] at h; exact h
  | some o =>
    rw [hi] at h
    simp only at h ⊢
    split
    · rename_i hw; rw [if_pos hw] at h; exact opIn_of_op (noDefer_spec hnd hi) (h.resolve_right fun ⟨_, a, w, hh⟩ => hQo a w hh)
    · rename_i hw; rw [if_neg hw] at h; exact ⟨fun _ _ => trivial, h⟩
theorem wpAnyIn_of {P : Program} {md : Region.Mode} {ops : Array Oper} {Q : Exit → Act → World → Prop} {l n : Nat} (hnd : noDefer ops = true) (hQo : ∀ a w, ¬ Q .outgrown a w) : ∀ (fuel : Nat) (listed : Array Bool) (a : Act) (w : World),
    wpAny P md ops Q fuel listed a w → wpAnyIn (Fence.wide.inRound l) n P md ops Q fuel listed a w := by
  intro fuel
  induction fuel with
  | zero => intro listed a w h; exact h
  | succ fuel ih => intro listed a w h; exact ⟨h.1, fun i hi => wpOpIn_mono (fun a w => ih _ a w) (wpOpIn_of hnd hQo (h.2 i hi))⟩
section
variable {P : Program} {id l n : Nat} {ops : Array Oper} {Q : Exit → Act → World → Prop} {a : Act} {w : World}
/-- In a round: a region that draws its order, walked in an order of ours, beside S. -/
theorem wpIn_round_s (S : World → Prop) (π : List (Nat × Bool))
    (hm : (P.follows .mixedOrders && Region.noSelect ops && noDefer ops && (π.length == ops.size) && okOrder ops (Array.replicate ops.size false) π) = true)
    (hQ : ∀ c d v a w, Q (.panic c) (Act.put a d v) w → Q (.panic c) a w) (hQo : ∀ a w, ¬ Q .outgrown a w)
    (h : wpS P ops Q S (π.map fun x => (nthOp ops.toList x.1, x.2)) a w.drew) : (Code.region id ops true).wpIn (Fence.wide.inRound l) n P Q a w := by
  simp only [Bool.and_eq_true, beq_iff_eq] at hm
  obtain ⟨⟨⟨⟨h1, h2⟩, h0⟩, h3⟩, h4⟩ := hm
  refine wpIn_region_any h1 (wpAnyIn_of h0 hQo _ _ _ _ (wpAny_of_held (S := S) _ _ _ _ ?_))
  rw [← h3]
  exact wpAny_s h2 hQ π _ a _ (by rw [h3]; exact h4) h
/-- In a round: a region that draws its order, walked step by step, beside S. -/
theorem wpIn_round_r (S : World → Prop) (π : List RStep)
    (hm : (P.follows .mixedOrders && Region.noSelect ops && noDefer ops && ((π.map RStep.count).sum == ops.size) && okSteps ops (Array.replicate ops.size false) π) = true)
    (hQ : ∀ c d v a w, Q (.panic c) (Act.put a d v) w → Q (.panic c) a w) (hQo : ∀ a w, ¬ Q .outgrown a w)
    (h : wpR P ops Q S (π.map (RStep.node ops.toList)) a w.drew) : (Code.region id ops true).wpIn (Fence.wide.inRound l) n P Q a w := by
  simp only [Bool.and_eq_true, beq_iff_eq] at hm
  obtain ⟨⟨⟨⟨h1, h2⟩, h0⟩, h3⟩, h4⟩ := hm
  refine wpIn_region_any h1 (wpAnyIn_of h0 hQo _ _ _ _ (wpAny_of_held (S := S) _ _ _ _ ?_))
  rw [← h3]
  exact wpAny_r h2 hQ π _ a _ (by rw [h3]; exact h4) h
end
end Go.Proofs.Ytbkejlalbjomkaa
namespace Go.Proofs.Ytbkejlalbjomkaa
set_option linter.unusedVariables false
open Go.RowKit Go.Shelf
attribute [local go_sem] Oper.semAt_some

/-- The six boxes of openDigest. -/
structure DB (w W : World) (g : Nat) (sl nn r0 r1 r2 dt : Value) : Prop where
  b0 : Blk W g 39 #[sl]
  b1 : Blk W (g + 1) 3 #[nn]
  b2 : Blk W (g + 1 + 1) 22 #[r0]
  b3 : Blk W (g + 1 + 1 + 1) 3 #[r1]
  b4 : Blk W (g + 1 + 1 + 1 + 1) 40 #[r2]
  b5 : Blk W (g + 1 + 1 + 1 + 1 + 1) 39 #[dt]
  bel : Below g w W
section
variable {w W W' : World} {g : Nat} {sl nn r0 r1 r2 dt : Value}
theorem DB.later (h : DB w W g sl nn r0 r1 r2 dt) (hb : Below W.heap.size W W') : DB w W' g sl nn r0 r1 r2 dt :=
  ⟨h.b0.later hb, h.b1.later hb, h.b2.later hb, h.b3.later hb, h.b4.later hb, h.b5.later hb, h.bel.trans (hb.mono (Nat.le_of_lt h.b0.lt))⟩
theorem DB.drew (h : DB w W g sl nn r0 r1 r2 dt) : DB w W.drew g sl nn r0 r1 r2 dt := ⟨h.b0, h.b1, h.b2, h.b3, h.b4, h.b5, h.bel.drew⟩
theorem DB.drewN (h : DB w W g sl nn r0 r1 r2 dt) (d : Nat) : DB w (W.drewN d) g sl nn r0 r1 r2 dt := ⟨h.b0, h.b1, h.b2, h.b3, h.b4, h.b5, below_drewN h.bel d⟩
theorem DB.set2 (h : DB w W g sl nn r0 r1 r2 dt) (u : Value) : DB w (W.setCell ⟨g + 1 + 1, 0, none⟩ u) g sl nn u r1 r2 dt :=
  ⟨h.b0.far (p := ⟨g + 1 + 1, 0, none⟩) (by simp <;> omega) _, h.b1.far (p := ⟨g + 1 + 1, 0, none⟩) (by simp) _, h.b2.set_ 0 u, h.b3.far (p := ⟨g + 1 + 1, 0, none⟩) (by simp) _, h.b4.far (p := ⟨g + 1 + 1, 0, none⟩) (by simp <;> omega) _, h.b5.far (p := ⟨g + 1 + 1, 0, none⟩) (by simp <;> omega) _, h.bel.setCell (p := ⟨g + 1 + 1, 0, none⟩) (by simp <;> omega) _⟩
theorem DB.set3 (h : DB w W g sl nn r0 r1 r2 dt) (u : Value) : DB w (W.setCell ⟨g + 1 + 1 + 1, 0, none⟩ u) g sl nn r0 u r2 dt :=
  ⟨h.b0.far (p := ⟨g + 1 + 1 + 1, 0, none⟩) (by simp <;> omega) _, h.b1.far (p := ⟨g + 1 + 1 + 1, 0, none⟩) (by simp <;> omega) _, h.b2.far (p := ⟨g + 1 + 1 + 1, 0, none⟩) (by simp) _, h.b3.set_ 0 u, h.b4.far (p := ⟨g + 1 + 1 + 1, 0, none⟩) (by simp) _, h.b5.far (p := ⟨g + 1 + 1 + 1, 0, none⟩) (by simp <;> omega) _, h.bel.setCell (p := ⟨g + 1 + 1 + 1, 0, none⟩) (by simp <;> omega) _⟩
theorem DB.set4 (h : DB w W g sl nn r0 r1 r2 dt) (u : Value) : DB w (W.setCell ⟨g + 1 + 1 + 1 + 1, 0, none⟩ u) g sl nn r0 r1 u dt :=
  ⟨h.b0.far (p := ⟨g + 1 + 1 + 1 + 1, 0, none⟩) (by simp <;> omega) _, h.b1.far (p := ⟨g + 1 + 1 + 1 + 1, 0, none⟩) (by simp <;> omega) _, h.b2.far (p := ⟨g + 1 + 1 + 1 + 1, 0, none⟩) (by simp <;> omega) _, h.b3.far (p := ⟨g + 1 + 1 + 1 + 1, 0, none⟩) (by simp) _, h.b4.set_ 0 u, h.b5.far (p := ⟨g + 1 + 1 + 1 + 1, 0, none⟩) (by simp) _, h.bel.setCell (p := ⟨g + 1 + 1 + 1 + 1, 0, none⟩) (by simp <;> omega) _⟩
end
theorem six_new (w : World) (sl nn dt : Value) : DB w ((((((w.alloc (.cells #[sl] 39)).alloc (.cells #[nn] 3)).alloc (.cells #[.int .u32 0] 22)).alloc (.cells #[.int .i64 0] 3)).alloc (.cells #[.int .i64 0] 40)).alloc (.cells #[dt] 39)) w.heap.size sl nn (.int .u32 0) (.int .i64 0) (.int .i64 0) dt := by
  have h1 := Blk.new (w.alloc (.cells #[sl] 39)) 3 #[nn]
  have h2 := Blk.new ((w.alloc (.cells #[sl] 39)).alloc (.cells #[nn] 3)) 22 #[.int .u32 0]
  have h3 := Blk.new (((w.alloc (.cells #[sl] 39)).alloc (.cells #[nn] 3)).alloc (.cells #[.int .u32 0] 22)) 3 #[.int .i64 0]
  have h4 := Blk.new ((((w.alloc (.cells #[sl] 39)).alloc (.cells #[nn] 3)).alloc (.cells #[.int .u32 0] 22)).alloc (.cells #[.int .i64 0] 3)) 40 #[.int .i64 0]
  have h5 := Blk.new (((((w.alloc (.cells #[sl] 39)).alloc (.cells #[nn] 3)).alloc (.cells #[.int .u32 0] 22)).alloc (.cells #[.int .i64 0] 3)).alloc (.cells #[.int .i64 0] 40)) 39 #[dt]
  simp only [World.size_alloc] at h1 h2 h3 h4 h5
  refine ⟨(((((Blk.new _ _ _).alloc _).alloc _).alloc _).alloc _).alloc _, (((h1.alloc _).alloc _).alloc _).alloc _, ((h2.alloc _).alloc _).alloc _, (h3.alloc _).alloc _, h4.alloc _, h5, ?_⟩
  exact ((((((Below.refl _ _).alloc (Nat.le_refl _) _).alloc (by simp only [World.size_alloc]; omega) _).alloc (by simp only [World.size_alloc]; omega) _).alloc (by simp only [World.size_alloc]; omega) _).alloc (by simp only [World.size_alloc]; omega) _).alloc (by simp only [World.size_alloc]; omega) _
theorem DB.own {w : World} {g B : Nat} {sl nn r0 r1 r2 dt : Value} (hB : g + 1 + 1 + 1 + 1 + 1 < B) {β : Type} : OwnFrom B (fun (_ : β) W => DB w W g sl nn r0 r1 r2 dt) := by
  intro s W W' row h hg hr
  have ne : ∀ k, k < B → some k ≠ row := fun k hk e => by have := (hr k e.symm).1; omega
  refine ⟨h.b0.grown hg (ne _ (by omega)), h.b1.grown hg (ne _ (by omega)), h.b2.grown hg (ne _ (by omega)), h.b3.grown hg (ne _ (by omega)), h.b4.grown hg (ne _ (by omega)), h.b5.grown hg (ne _ hB), ?_⟩
  exact h.bel.grown hg (Nat.le_of_lt h.b0.lt) (fun k e => by have := (hr k e).1; omega)
theorem db_after {w W : World} {g D : Nat} {sl nn r0 r1 r2 dt : Value} (h : DB w W g sl nn r0 r1 r2 dt) (hD : g + 1 + 1 + 1 + 1 + 1 < D) (hK : W.heap[D]? = some (.deferred (some []))) : DB w (W.putObj D (.deferred none)) g sl nn r0 r1 r2 dt :=
  DB.own (β := Unit) hD () W _ (some D) h (grownBy_putObj' _ D (.deferred none)) (fun r e => by cases e; exact ⟨Nat.le_refl _, _, hK, rfl⟩)
theorem db_results {w W : World} {g : Nat} {sl nn x y z dt : Value} {ts : Array Value} (h : DB w W g sl nn x y z dt) (h6 : ts.getD 8 undef = .pointer (some ⟨g + 1 + 1, 0, none⟩)) (h7 : ts.getD 9 undef = .pointer (some ⟨g + 1 + 1 + 1, 0, none⟩)) (h8 : ts.getD 10 undef = .pointer (some ⟨g + 1 + 1 + 1 + 1, 0, none⟩)) :
    (results Try.f76 ts).run Try.prog W = .ok (.tuple #[x, y, z]) W := by
  have k1 := h.b2.cell 0; have k2 := h.b3.cell 0; have k3 := h.b4.cell 0
  simp only [List.getElem?_toArray, List.getElem?_cons_zero] at k1 k2 k3
  simp only [Array.getD_eq_getD_getElem?] at h6 h7 h8
  simp [results, Try.f76, go_sem, h6, h7, h8, k1, k2, k3]
theorem dat8 {w : World} {g n : Nat} {xa : Addr} {xs : List Int} (hx : Reads w g 1 (some xa) n (u8s xs)) (ho : Oct xs) (hn : 24 ≤ n) : ∃ y0 y1 y2 y3 y4 y5 y6 y7 : Int,
    Hid (xs.getD 16 0 = y0 ∧ xs.getD 17 0 = y1 ∧ xs.getD 18 0 = y2 ∧ xs.getD 19 0 = y3 ∧ xs.getD 20 0 = y4 ∧ xs.getD 21 0 = y5 ∧ xs.getD 22 0 = y6 ∧ xs.getD 23 0 = y7) ∧
    (0 ≤ y4 ∧ y4 ≤ 255 ∧ 0 ≤ y5 ∧ y5 ≤ 255 ∧ 0 ≤ y6 ∧ y6 ≤ 255 ∧ 0 ≤ y7 ∧ y7 ≤ 255) ∧ Hid (∀ W : World, Below g w W →
    W.cell? ⟨xa.block, xa.off + 16, none⟩ = some (.int .u8 y0) ∧ W.cell? ⟨xa.block, xa.off + 16 + 1, none⟩ = some (.int .u8 y1) ∧ W.cell? ⟨xa.block, xa.off + 16 + 2, none⟩ = some (.int .u8 y2) ∧ W.cell? ⟨xa.block, xa.off + 16 + 3, none⟩ = some (.int .u8 y3) ∧
    W.cell? ⟨xa.block, xa.off + 16 + 4, none⟩ = some (.int .u8 y4) ∧ W.cell? ⟨xa.block, xa.off + 16 + 5, none⟩ = some (.int .u8 y5) ∧ W.cell? ⟨xa.block, xa.off + 16 + 6, none⟩ = some (.int .u8 y6) ∧ W.cell? ⟨xa.block, xa.off + 16 + 7, none⟩ = some (.int .u8 y7)) := by
  obtain ⟨y0, y1, y2, y3, y4, y5, y6, y7, hE, hW⟩ := data8 hx hn
  have G : ∀ k y, k < 8 → [y0, y1, y2, y3, y4, y5, y6, y7][k]? = some y → xs[16 + k]? = some y := fun k y hk h => by
    rw [← hE, List.getElem?_take, if_pos hk, List.getElem?_drop] at h
    exact h
  have b := fun k y hk h => ho (16 + k) y (G k y hk h)
  have d := fun k y hk h => getD_of (G k y hk h)
  exact ⟨y0, y1, y2, y3, y4, y5, y6, y7, ⟨d 0 _ (by decide) rfl, d 1 _ (by decide) rfl, d 2 _ (by decide) rfl, d 3 _ (by decide) rfl, d 4 _ (by decide) rfl, d 5 _ (by decide) rfl, d 6 _ (by decide) rfl, d 7 _ (by decide) rfl⟩,
    ⟨(b 4 _ (by decide) rfl).1, (b 4 _ (by decide) rfl).2, (b 5 _ (by decide) rfl).1, (b 5 _ (by decide) rfl).2, (b 6 _ (by decide) rfl).1, (b 6 _ (by decide) rfl).2, (b 7 _ (by decide) rfl).1, (b 7 _ (by decide) rfl).2⟩, hW⟩
/-- What the rounds of openDigest read. -/
structure SS (w V : World) (g Bx : Nat) (key : Array Value) (sl nn dt : Value) : Prop where
  key : Blk V Bx 59 key
  b0 : Blk V g 39 #[sl]
  b1 : Blk V (g + 1) 3 #[nn]
  b5 : Blk V (g + 1 + 1 + 1 + 1 + 1) 39 #[dt]
  bel : Below g w V
theorem SS.later {w V V' : World} {g Bx : Nat} {key : Array Value} {sl nn dt : Value} (h : SS w V g Bx key sl nn dt) (hb : Below V.heap.size V V') : SS w V' g Bx key sl nn dt :=
  ⟨h.key.later hb, h.b0.later hb, h.b1.later hb, h.b5.later hb, h.bel.trans (hb.mono (Nat.le_of_lt h.b0.lt))⟩
theorem SS.of_db {w V : World} {g Bx : Nat} {key : Array Value} {sl nn r0 r1 r2 dt : Value} (h : DB w V g sl nn r0 r1 r2 dt) (hk : Blk V Bx 59 key) : SS w V g Bx key sl nn dt := ⟨hk, h.b0, h.b1, h.b5, h.bel⟩
theorem blk_set {V : World} {g q i : Nat} {t : TypeId} {cs : Array Value} (h : Blk V g t cs) (hne : g ≠ q) (u : Value) : Blk (V.setCell ⟨q, i, none⟩ u) g t cs := h.far (p := ⟨q, i, none⟩) hne u
/-- Does a key's digest open the packet? -/
def dgK (xs : List Int) (N : Nat) (k : AK) : Bool := (k.id == xs.getD 18 0) && decide (md (xs.take N ++ key16 k.bs) = xs.drop N)
/-- None of them opens the packet. -/
def NoK (xs : List Int) (N : Nat) {L : List AK} (pre : List {k : AK // k ∈ L}) : Prop := ∀ y : {k : AK // k ∈ L}, y ∈ pre → dgK xs N y.1 = false
theorem NoK.nil (xs : List Int) (N : Nat) (L : List AK) : NoK xs N ([] : List {k : AK // k ∈ L}) := fun y hy => by simp at hy
theorem NoK.next {xs : List Int} {N : Nat} {L : List AK} {pre : List {k : AK // k ∈ L}} {x : {k : AK // k ∈ L}} (h : NoK xs N pre) (hx : dgK xs N x.1 = false) : NoK xs N (pre ++ [x]) := fun y hy => by
  rcases List.mem_append.1 hy with h1 | h1
  · exact h y h1
  · rw [List.mem_singleton] at h1; subst h1; exact hx
@[reducible] def z16r : Array Value := #[.int .u8 0, .int .u8 0, .int .u8 0, .int .u8 0, .int .u8 0, .int .u8 0, .int .u8 0, .int .u8 0, .int .u8 0, .int .u8 0, .int .u8 0, .int .u8 0, .int .u8 0, .int .u8 0, .int .u8 0, .int .u8 0]
theorem md_oct (xs : List Int) : Oct (md xs) := fun i x hx => by
  have hi : i < 16 := by have := (List.getElem?_eq_some_iff.1 hx).1; rw [md_len] at this; exact this
  unfold md at hx
  rw [outOf_at hi] at hx
  injection hx with hx
  omega
theorem dg_no {xs : List Int} {N : Nat} {L : List AK} {now : Int} (h : ∀ y : {k : AK // k ∈ L}, y ∈ takenTo L now L.length → dgK xs N y.1 = false) : L.any (dgB xs N now) = false := by
  rw [List.any_eq_false]
  intro k hk hd
  unfold dgB at hd
  simp only [Bool.and_eq_true] at hd
  obtain ⟨h1, h2, h3⟩ := hd
  have hm : (⟨k, hk⟩ : {k : AK // k ∈ L}) ∈ takenTo L now L.length := by
    unfold takenTo
    rw [List.take_of_length_le (by simp)]
    exact List.mem_filter.2 ⟨List.mem_attach _ _, h2⟩
  have := h _ hm
  unfold dgK at this
  rw [h1, h3] at this
  cases this
theorem dg_yes {xs : List Int} {N : Nat} {L : List AK} {now : Int} {pre : List {k : AK // k ∈ L}} (hp : pre <+: takenTo L now L.length) (h : ∃ y : {k : AK // k ∈ L}, y ∈ pre ∧ dgK xs N y.1 = true) : L.any (dgB xs N now) = true := by
  obtain ⟨y, hy, hd⟩ := h
  have hm := hp.subset hy
  unfold takenTo at hm
  have ht := (List.mem_filter.1 hm).2
  unfold dgK at hd
  simp only [Bool.and_eq_true] at hd
  refine List.any_eq_true.2 ⟨y.1, y.2, ?_⟩
  unfold dgB
  rw [hd.1, hd.2, ht]
  rfl
@[reducible] def odT (a : Addr) (KA : Option Addr) (c m kc N g B1 : Nat) (now : Int) {L : List AK} (x : {k : AK // k ∈ L}) (Bx : Nat) : Array Value := #[.slice (some a) (N + 16) c, .int .i64 N, .slice KA m kc, .int .i64 now, .pointer (some ⟨g, 0, none⟩), .pointer (some ⟨g + 1, 0, none⟩), undef, undef, .pointer (some ⟨g + 1 + 1, 0, none⟩), .pointer (some ⟨g + 1 + 1 + 1, 0, none⟩), .pointer (some ⟨g + 1 + 1 + 1 + 1, 0, none⟩), .pointer (some ⟨g + 1 + 1 + 1 + 1 + 1, 0, none⟩), .pointer (some ⟨Bx, 0, none⟩), undef, .slice (some a) (N + 16) c, .slice (some ⟨a.block, a.off + 16, none⟩) 8 (c - 16), .bool false, .slice (some ⟨a.block, a.off + 16, none⟩) 8 (c - 16), .pointer (some ⟨a.block, a.off + 16, none⟩), .int .u8 0, .bool false, .bool false, .slice (some ⟨a.block, a.off + 16, none⟩) 8 (c - 16), .pointer (some ⟨a.block, a.off + 16 + 1, none⟩), .int .u8 0, .bool false, .bool false, .bool false, .slice (some ⟨a.block, a.off + 16, none⟩) 8 (c - 16), .pointer (some ⟨a.block, a.off + 16 + 3, none⟩), .int .u8 16, .bool false, .bool false, .bool false, .slice (some a) (N + 16) c, .int .i64 ((N : Int) + 16), .int .i64 N, .int .i64 ((N : Int) + 16), .bool false, .slice KA m kc, .int .i64 now, .func (.func 95) #[] #[.pointer (some ⟨B1, 0, none⟩), .pointer (some ⟨B1 + 1, 0, none⟩)], x.1.v, undef, undef, undef, undef, undef, undef, undef, undef, undef, undef, undef, undef, undef, undef, undef, undef, undef, undef, undef, undef, undef, undef, undef, undef, undef, undef, undef, undef, undef, undef, undef, undef, undef, undef, undef, undef, undef, undef, undef, undef]
set_option maxRecDepth 100000 in
set_option maxHeartbeats 4000000 in
theorem odig_any (A KA : Option Addr) (n c m kc N : Nat) (xs : List Int) (L : List AK) (now : Int) (w : World) (hx : Reads w w.heap.size 1 A n (u8s xs)) (ho : Oct xs) (hc : n ≤ c) (hm : c ≤ 9223372036854775807) (hn : n ≤ 1099511627000)
    (hL : Keys w KA m L) (hkc : m ≤ kc) (hkm : kc ≤ 9223372036854775807) (h24 : 24 ≤ N) (hNn : N ≤ n) :
    Calls Try.prog 76 #[.slice A n c, .int .i64 N, .slice KA m kc, .int .i64 now] w fun e w' => DgAt w w' (digOf xs N L now) e := by
  have hl := hx.u8len
  obtain ⟨a, rfl⟩ : ∃ ad, A = some ad := by obtain ⟨ad, e, _⟩ := hx.2 (by omega); exact ⟨ad, e⟩
  obtain ⟨y0, y1, y2, y3, y4, y5, y6, y7, HG, ⟨o4, p4, o5, p5, o6, p6, o7, p7⟩, HY⟩ := dat8 hx ho (by omega)
  have hp : Hid (digOf xs N L now = (if y0 ≠ 0 ∨ y1 ≠ 0 ∨ y3 ≠ 16 then ((0, 0, 24) : Int × Int × Int) else if n ≠ N + 16 then (0, 0, 22) else if L.any (dgB xs N now) then (seqOf xs, (N : Int), 0) else (0, 0, 26))) := by
    show _ = _
    unfold digOf
    obtain ⟨g0, g1, g2, g3, _⟩ := HG.out
    rw [g0, g1, g3, hl]
  have H6 := Lib.hid (six_new w (.slice (some a) n c) (.int .i64 N) (.slice (some ⟨a.block, a.off + 16, none⟩) 8 (c - 16)))
  have l24 : (24 : Int) ≤ (c : Int) := by omega
  have HX := Lib.hid hx
  have HO := Lib.hid ho
  have HL := Lib.hid hL
  clear hx ho hL
  refine (callsIn_wide (n := 6)).1 (callsIn_of_wp_marks Try.func76 rfl trivial ?_ rfl)
  simp only [Try.ntmps76, List.size_toArray, List.length_cons, List.length_nil, Nat.reduceAdd, Nat.reduceSub, Array.replicate_succ, Array.replicate_zero, List.push_toArray, List.append_toArray, List.nil_append, List.cons_append]
  refine wpIn_wide.2 ?_
  go_upto_region 2 with (fail)
  generalize (((((w.alloc (.cells #[.slice (some a) n c] 39)).alloc (.cells #[.int .i64 N] 3)).alloc (.cells #[.int .u32 0] 22)).alloc (.cells #[.int .i64 0] 3)).alloc (.cells #[.int .i64 0] 40)).alloc (.cells #[.slice (some ⟨a.block, a.off + 16, none⟩) 8 (c - 16)] 39) = w0 at *
  generalize hs0 : w.heap.size = g at *
  obtain ⟨d0, d1, d2, d3, d4, d5, d6, d7⟩ := HY.out w0 H6.out.bel
  have k0 := H6.out.b0.cell 0; have k1 := H6.out.b1.cell 0; have k2 := H6.out.b2.cell 0; have k3 := H6.out.b3.cell 0; have k4 := H6.out.b4.cell 0; have k5 := H6.out.b5.cell 0; have f2 := H6.out.b2.frozen 0; have f3 := H6.out.b3.frozen 0; have f4 := H6.out.b4.frozen 0
  simp only [List.getElem?_toArray, List.getElem?_cons_zero] at k0 k1 k2 k3 k4 k5
  by_cases hbad : y0 = 0 ∧ y1 = 0 ∧ y3 = 16
  · obtain ⟨rfl, rfl, rfl⟩ := hbad
    have w16 : IntKind.i64.wrap ((N : Int) + 16) = (N : Int) + 16 := IntWalk.i64_in _ (by omega)
    by_cases gn : n = N + 16
    · subst gn
      go_wp2_with fail
      refine (taken_any KA m kc now w0).mono ?_
      rintro e w6 ⟨rfl, rfl⟩
      clear k0 k1 k2 k3 k4 k5 f2 f3 f4 d0 d1 d2 d3 d4 d5 d6 d7
      go_wp2_with fail
      have HB1 : Hid (((w0.alloc (.cells #[.slice KA m kc] 61)).alloc (.cells #[.int .i64 now] 3)).cell? ⟨w0.heap.size, 0, none⟩ = some (.slice KA m kc) ∧ ((w0.alloc (.cells #[.slice KA m kc] 61)).alloc (.cells #[.int .i64 now] 3)).cell? ⟨w0.heap.size + 1, 0, none⟩ = some (.int .i64 now) ∧
          ((w0.alloc (.cells #[.slice KA m kc] 61)).alloc (.cells #[.int .i64 now] 3)).heap.size = w0.heap.size + 2 ∧ DB w ((w0.alloc (.cells #[.slice KA m kc] 61)).alloc (.cells #[.int .i64 now] 3)) g (.slice (some a) (N + 16) c) (.int .i64 N) (.int .u32 0) (.int .i64 0) (.int .i64 0) (.slice (some ⟨a.block, a.off + 16, none⟩) 8 (c - 16)) ∧ g + 1 + 1 + 1 + 1 + 1 < w0.heap.size) := by
        have h1 : Blk ((w0.alloc (.cells #[.slice KA m kc] 61)).alloc (.cells #[.int .i64 now] 3)) w0.heap.size 61 #[.slice KA m kc] := (Blk.new _ _ _).alloc _
        have h2 : Blk ((w0.alloc (.cells #[.slice KA m kc] 61)).alloc (.cells #[.int .i64 now] 3)) (w0.heap.size + 1) 3 #[.int .i64 now] := new_at _ _ _
        exact ⟨h1.cell 0, h2.cell 0, by rw [World.size_alloc, World.size_alloc], H6.out.later (below_two_ _ _ _), H6.out.b5.lt⟩
      generalize (w0.alloc (.cells #[.slice KA m kc] 61)).alloc (.cells #[.int .i64 now] 3) = w7 at *
      clear H6
      generalize w0.heap.size = B1 at *
      refine (wpIn_wide (n := 6)).1 ?_
      refine wpIn_rangeFunc_ownH (α := {k : AK // k ∈ L}) rfl (by decide) (gf := 95) (lb := #[.pointer (some ⟨B1, 0, none⟩), .pointer (some ⟨B1 + 1, 0, none⟩)]) rfl trivial (enters_of Try.func95 (by kernel_rfl) rfl)
        (encs := fun x => #[x.1.v]) (Kp := Below w7.heap.size) (S := fun ys => ys = takenTo L now L.length) (Sp := fun pre => pre <+: takenTo L now L.length) (N := L.length) (w0 := w7)
        (fun l J Jx W hW hJ _ hY h0 => taken1_in Fence.wide 5 trivial rfl (by decide) l B1 (B1 + 1) w7.heap.size KA m kc L now (by omega) HL.out.len J Jx W hJ hY hW.size (by have := HB1.out.2.2.1; omega) (by have := HB1.out.2.2.1; omega)
          ((hW.cell (p := ⟨B1, 0, none⟩) (by have := HB1.out.2.2.1; show B1 < _; omega)).trans HB1.out.1) ((hW.cell (p := ⟨B1 + 1, 0, none⟩) (by have := HB1.out.2.2.1; show B1 + 1 < _; omega)).trans HB1.out.2.1)
          ((HL.out.later (hs0 ▸ HB1.out.2.2.2.1.bel)).row.below hW) h0)
        belowK_t (belowK_b (Nat.le_refl _)) (Below.refl _ _) (fun _ => rfl)
        (fun pre W => NoK xs N pre ∧ DB w W g (.slice (some a) (N + 16) c) (.int .i64 N) (.int .u32 0) (.int .i64 0) (.int .i64 0) (.slice (some ⟨a.block, a.off + 16, none⟩) 8 (c - 16)) ∧ w7.heap.size ≤ W.heap.size)
        (fun cd pre W => (cd = .ret ∧ ∃ y : {k : AK // k ∈ L}, y ∈ pre ∧ dgK xs N y.1 = true) ∧ DB w W g (.slice (some a) (N + 16) c) (.int .i64 N) (.int .u32 (seqOf xs)) (.int .i64 N) (.int .i64 0) (.slice (some ⟨a.block, a.off + 16, none⟩) 8 (c - 16)))
        (OwnFrom.and (ownFrom_pure _ _) (OwnFrom.and (DB.own (by have := HB1.out.2.2; omega)) (fun _ _ _ _ h hg _ => Nat.le_trans h hg.size)))
        (fun cd => OwnFrom.and (ownFrom_pure _ (fun (pre : List {k : AK // k ∈ L}) => cd = .ret ∧ ∃ y : {k : AK // k ∈ L}, y ∈ pre ∧ dgK xs N y.1 = true)) (DB.own (by have := HB1.out.2.2; omega)))
        ⟨NoK.nil xs N L, HB1.out.2.2.2.1, Nat.le_refl _⟩
        (fun x a' W => ∃ Bx, w7.heap.size ≤ Bx ∧ Blk W Bx 59 x.1.cells.toArray ∧ a' = { tmps := odT a KA c m kc N g B1 now x Bx, defers := [] })
        (fun x a' s W W' row h hg hr => by
          obtain ⟨Bx, h1, h2, h3⟩ := h
          exact ⟨Bx, h1, blk_own (β := Unit) () W W' row h2 hg hr, h3⟩)
        ?assign ?body ?done ?stop
      case assign =>
        intro l pre x W K hI hK
        obtain ⟨⟨id, kind, S, sn, sc, sf, su, tf, tu, bs⟩, hxL⟩ := x
        have hB : Below W.heap.size W (W.alloc (.cells #[.int .u8 id, .int .u16 kind, .slice S sn sc, .int .i64 sf, .int .i64 su, .int .i64 tf, .int .i64 tu] 59)) := (Below.refl _ _).alloc (Nat.le_refl _) _
        gi_wp2
        exact hK _ _ (KeepsFrom.of_below hB) (hB.mono hI.2.2) ⟨hI.1, hI.2.1.later hB, Nat.le_trans hI.2.2 hB.size⟩ ⟨W.heap.size, hI.2.2, Blk.new _ _ _, rfl⟩
      case done =>
        rintro D ys W hD rfl ⟨hno, hOB, hsz⟩ hK
        have HO3 := Lib.hid (((hOB.set2 (.int .u32 0)).set3 (.int .i64 0)).set4 (.int .i64 26))
        have HK3 : Hid ((((W.setCell ⟨g + 1 + 1, 0, none⟩ (.int .u32 0)).setCell ⟨g + 1 + 1 + 1, 0, none⟩ (.int .i64 0)).setCell ⟨g + 1 + 1 + 1 + 1, 0, none⟩ (.int .i64 26)).heap[D]? = some (.deferred (some []))) :=
          (KeepsOthers.setCell _ _ _).same D _ ((KeepsOthers.setCell _ _ _).same D _ ((KeepsOthers.setCell _ _ _).same D _ hK rfl) rfl) rfl
        have hr : Hid (digOf xs N L now = (0, 0, 26)) := by show _ = _; rw [hp.out, if_neg (by omega), if_neg (by omega), if_neg (by rw [dg_no hno]; decide)]
        have k1 := hOB.b2.cell 0; have k2 := hOB.b3.cell 0; have k3 := hOB.b4.cell 0; have f1 := hOB.b2.frozen 0; have f2 := hOB.b3.frozen 0; have f3 := hOB.b4.frozen 0
        simp only [List.getElem?_toArray, List.getElem?_cons_zero] at k1 k2 k3
        clear hOB hno hK hp
        go_wp2
        generalize ((W.setCell ⟨g + 1 + 1, 0, none⟩ (.int .u32 0)).setCell ⟨g + 1 + 1 + 1, 0, none⟩ (.int .i64 0)).setCell ⟨g + 1 + 1 + 1 + 1, 0, none⟩ (.int .i64 26) = W3 at *
        refine ⟨by simp, .inl ⟨_, _, rfl, run_takeDeferred HK3.out, ?_⟩⟩
        have HP := db_after HO3.out (by have := HB1.out.2.2; omega) HK3.out
        exact ⟨_, db_results HP rfl rfl rfl, dgAt ⟨rfl, by rw [hs0]; exact HP.bel⟩ hr.out⟩
      case stop =>
        rintro D cd pre W hD hpre ⟨⟨rfl, hex⟩, hOB⟩ hK
        refine wpIn_wide.2 ?_
        have hr : Hid (digOf xs N L now = (seqOf xs, (N : Int), 0)) := by show _ = _; rw [hp.out, if_neg (by omega), if_neg (by omega), if_pos (dg_yes hpre hex)]
        go_wp2
        refine ⟨by simp, .inl ⟨_, _, rfl, run_takeDeferred hK, ?_⟩⟩
        have HP := db_after hOB (by have := HB1.out.2.2; omega) hK
        exact ⟨_, db_results HP rfl rfl rfl, dgAt ⟨rfl, by rw [hs0]; exact HP.bel⟩ hr.out⟩
      case body =>
        rintro l pre x a' W hlw ⟨r, hr⟩ ⟨hno, hOB, hsz⟩ ⟨Bx, hBx, bX, rfl⟩ hlt
        obtain ⟨⟨id, kind, S, sn, sc, sf, su, tf, tu, bs⟩, hxL⟩ := x
        have HOB := Lib.hid hOB
        have HNO := Lib.hid hno
        have HSS : Hid ((fun V : World => SS w V g Bx #[.int .u8 id, .int .u16 kind, .slice S sn sc, .int .i64 sf, .int .i64 su, .int .i64 tf, .int .i64 tu] (.slice (some a) (N + 16) c) (.int .i64 N) (.slice (some ⟨a.block, a.off + 16, none⟩) 8 (c - 16))) W.drew) := (SS.of_db hOB.drew (show Blk W Bx 59 #[.int .u8 id, .int .u16 kind, .slice S sn sc, .int .i64 sf, .int .i64 su, .int .i64 tf, .int .i64 tu] from bX))
        have HXB : Hid (w7.heap.size ≤ Bx ∧ Bx < W.heap.size) := ⟨hBx, bX.lt⟩
        have HKO : Hid (∀ V : World, Below g w V → KOk V ⟨id, kind, S, sn, sc, sf, su, tf, tu, bs⟩) := fun V hV => (HL.out.later (hs0 ▸ hV)).ok _ hxL
        have HXl : Hid (∀ V : World, Below g w V → Reads V V.heap.size 1 (some a) (N + 16) (u8s xs)) := fun V hV => (HX.out.below hV).more (by have := hV.size; omega)
        have HGD := HG.out.2.2.1
        have HGd := Lib.hid HGD
        have hNl : (N : Int) ≤ (c : Int) := by omega
        have hcN : ¬ c = N := by omega
        have hNn2 : (N : Int) ≤ (N : Int) + 16 := by omega
        clear hOB bX hno hr hlw HGD
        gi_wp2
        refine wpIn_round_s (fun V : World => SS w V g Bx #[.int .u8 id, .int .u16 kind, .slice S sn sc, .int .i64 sf, .int .i64 su, .int .i64 tf, .int .i64 tu] (.slice (some a) (N + 16) c) (.int .i64 N) (.slice (some ⟨a.block, a.off + 16, none⟩) 8 (c - 16))) [(0, true), (1, true), (2, true), (3, true), (4, true), (5, true)] (by kernel_rfl) (fun _ d _ _ _ h => by cases d <;> exact h) (fun _ _ h => h) ?_
        simp only [List.map_cons, List.map_nil, nthOp_zero, nthOp_succ]
        have HBd : Hid (Below W.heap.size W W.drew) := (Below.refl _ _).drew
        generalize W.drew = w1 at *
        refine wpS_take HSS (by kernel_rfl) (by intro V hV; have j0 := hV.key.cell 0; have j2 := hV.key.cell 2; have k0 := hV.b0.cell 0; have k1 := hV.b1.cell 0; have k5 := hV.b5.cell 0; obtain ⟨d0, d1, d2, d3, d4, d5, d6, d7⟩ := HY.out V hV.bel; clear hV; simp only [List.getElem?_toArray, List.getElem?_cons_zero, List.getElem?_cons_succ] at j0 j2 k0 k1 k5; go_simp; try with_reducible rfl) ?_
        refine wpS_take HSS (by kernel_rfl) (by intro V hV; have j0 := hV.key.cell 0; have j2 := hV.key.cell 2; have k0 := hV.b0.cell 0; have k1 := hV.b1.cell 0; have k5 := hV.b5.cell 0; obtain ⟨d0, d1, d2, d3, d4, d5, d6, d7⟩ := HY.out V hV.bel; clear hV; simp only [List.getElem?_toArray, List.getElem?_cons_zero, List.getElem?_cons_succ] at j0 j2 k0 k1 k5; go_simp; try with_reducible rfl) ?_
        refine wpS_take HSS (by kernel_rfl) (by intro V hV; have j0 := hV.key.cell 0; have j2 := hV.key.cell 2; have k0 := hV.b0.cell 0; have k1 := hV.b1.cell 0; have k5 := hV.b5.cell 0; obtain ⟨d0, d1, d2, d3, d4, d5, d6, d7⟩ := HY.out V hV.bel; clear hV; simp only [List.getElem?_toArray, List.getElem?_cons_zero, List.getElem?_cons_succ] at j0 j2 k0 k1 k5; go_simp; try with_reducible rfl) ?_
        refine wpS_take HSS (by kernel_rfl) (by intro V hV; have j0 := hV.key.cell 0; have j2 := hV.key.cell 2; have k0 := hV.b0.cell 0; have k1 := hV.b1.cell 0; have k5 := hV.b5.cell 0; obtain ⟨d0, d1, d2, d3, d4, d5, d6, d7⟩ := HY.out V hV.bel; clear hV; simp only [List.getElem?_toArray, List.getElem?_cons_zero, List.getElem?_cons_succ] at j0 j2 k0 k1 k5; go_simp; try with_reducible rfl) ?_
        refine wpS_take HSS (by kernel_rfl) (by intro V hV; have j0 := hV.key.cell 0; have j2 := hV.key.cell 2; have k0 := hV.b0.cell 0; have k1 := hV.b1.cell 0; have k5 := hV.b5.cell 0; obtain ⟨d0, d1, d2, d3, d4, d5, d6, d7⟩ := HY.out V hV.bel; clear hV; simp only [List.getElem?_toArray, List.getElem?_cons_zero, List.getElem?_cons_succ] at j0 j2 k0 k1 k5; go_simp; try with_reducible rfl) ?_
        refine wpS_take HSS (by kernel_rfl) (by intro V hV; have j0 := hV.key.cell 0; have j2 := hV.key.cell 2; have k0 := hV.b0.cell 0; have k1 := hV.b1.cell 0; have k5 := hV.b5.cell 0; obtain ⟨d0, d1, d2, d3, d4, d5, d6, d7⟩ := HY.out V hV.bel; clear hV; simp only [List.getElem?_toArray, List.getElem?_cons_zero, List.getElem?_cons_succ] at j0 j2 k0 k1 k5; go_simp; try with_reducible rfl) ?_
        refine wpS_nil ?_
        go_simp
        by_cases q1 : id = y2
        · subst q1
          gi_wp2
          obtain ⟨bb, hb0⟩ : ∃ bb, bb = decide (md (xs.take N ++ key16 bs) = xs.drop N) := ⟨_, rfl⟩
          have hbb := Lib.hid hb0
          have hdk : Hid (dgK xs N ⟨id, kind, S, sn, sc, sf, su, tf, tu, bs⟩ = bb) := by show _ = _; unfold dgK; simp only [HGd.out]; simp [hb0]
          clear hb0
          have HSS2 : Hid ((fun V : World => SS w V g Bx #[.int .u8 id, .int .u16 kind, .slice S sn sc, .int .i64 sf, .int .i64 su, .int .i64 tf, .int .i64 tu] (.slice (some a) (N + 16) c) (.int .i64 N) (.slice (some ⟨a.block, a.off + 16, none⟩) 8 (c - 16))) w1.drew) := HSS.out.later (Below.refl _ _).drew
          have HBd2 : Hid (Below W.heap.size W w1.drew) := HBd.out.drew
          refine wpIn_round_r (fun V : World => SS w V g Bx #[.int .u8 id, .int .u16 kind, .slice S sn sc, .int .i64 sf, .int .i64 su, .int .i64 tf, .int .i64 tu] (.slice (some a) (N + 16) c) (.int .i64 N) (.slice (some ⟨a.block, a.off + 16, none⟩) 8 (c - 16))) [.take 0, .take 1, .take 2, .take 3, .take 4, .two 5 6, .one 7] (by kernel_rfl) (fun _ d _ _ _ h => by cases d <;> exact h) (fun _ _ h => h) ?_
          simp only [List.map_cons, List.map_nil, RStep.node, nthOp_zero, nthOp_succ]
          clear HSS HBd
          generalize w1.drew = w2 at *
          refine wpR_take HSS2 (by kernel_rfl) (by intro V hV; have j0 := hV.key.cell 0; have j2 := hV.key.cell 2; have k0 := hV.b0.cell 0; have k1 := hV.b1.cell 0; have k5 := hV.b5.cell 0; obtain ⟨d0, d1, d2, d3, d4, d5, d6, d7⟩ := HY.out V hV.bel; clear hV; simp only [List.getElem?_toArray, List.getElem?_cons_zero, List.getElem?_cons_succ] at j0 j2 k0 k1 k5; go_simp; try with_reducible rfl) ?_
          refine wpR_take HSS2 (by kernel_rfl) (by intro V hV; have j0 := hV.key.cell 0; have j2 := hV.key.cell 2; have k0 := hV.b0.cell 0; have k1 := hV.b1.cell 0; have k5 := hV.b5.cell 0; obtain ⟨d0, d1, d2, d3, d4, d5, d6, d7⟩ := HY.out V hV.bel; clear hV; simp only [List.getElem?_toArray, List.getElem?_cons_zero, List.getElem?_cons_succ] at j0 j2 k0 k1 k5; go_simp; try with_reducible rfl) ?_
          refine wpR_take HSS2 (by kernel_rfl) (by intro V hV; have j0 := hV.key.cell 0; have j2 := hV.key.cell 2; have k0 := hV.b0.cell 0; have k1 := hV.b1.cell 0; have k5 := hV.b5.cell 0; obtain ⟨d0, d1, d2, d3, d4, d5, d6, d7⟩ := HY.out V hV.bel; clear hV; simp only [List.getElem?_toArray, List.getElem?_cons_zero, List.getElem?_cons_succ] at j0 j2 k0 k1 k5; go_simp; try with_reducible rfl) ?_
          refine wpR_take HSS2 (by kernel_rfl) (by intro V hV; have j0 := hV.key.cell 0; have j2 := hV.key.cell 2; have k0 := hV.b0.cell 0; have k1 := hV.b1.cell 0; have k5 := hV.b5.cell 0; obtain ⟨d0, d1, d2, d3, d4, d5, d6, d7⟩ := HY.out V hV.bel; clear hV; simp only [List.getElem?_toArray, List.getElem?_cons_zero, List.getElem?_cons_succ] at j0 j2 k0 k1 k5; go_simp; try with_reducible rfl) ?_
          refine wpR_take HSS2 (by kernel_rfl) (by intro V hV; have j0 := hV.key.cell 0; have j2 := hV.key.cell 2; have k0 := hV.b0.cell 0; have k1 := hV.b1.cell 0; have k5 := hV.b5.cell 0; obtain ⟨d0, d1, d2, d3, d4, d5, d6, d7⟩ := HY.out V hV.bel; clear hV; simp only [List.getElem?_toArray, List.getElem?_cons_zero, List.getElem?_cons_succ] at j0 j2 k0 k1 k5; go_simp; try with_reducible rfl) ?_
          go_simp
          have HKEY : Hid (∀ V : World, Below g w V → Calls Try.prog 74 #[.slice S sn sc, .slice (some a) N c] V fun e w' => e = .returned (.agg (u8s (md (xs.take N ++ key16 bs))).toArray) ∧ Below V.heap.size V w') := fun V hV =>
            keyed_any S (some a) sn sc N c bs (xs.take N) V (HKO.out V hV).sec ((HXl.out V hV).u8pre (by omega)) (HKO.out V hV).oct (HO.out.take N) (by omega) (by have h1 := (HKO.out V hV).cap.1; have h2 := (HKO.out V hV).cap.2; simp only at h1 h2; omega)
          have F16 : Hid ((u8s (md (xs.take N ++ key16 bs))).toArray.size = 16 ∧ (u8s (md (xs.take N ++ key16 bs))).toArray.all (·.oneCell') = true) := ⟨by simp [u8s_length, md_len], by simp [u8s, Value.oneCell']⟩
          refine wpR_two (fun K K1 hK hK1 => ?_) (fun K K1 hK hK1 => ?_)
          · go_wp2_with (go_at_call 74; refine (HKEY.out w2 HSS2.out.bel).mono ?_; rintro e w3 ⟨rfl, hb3⟩; have H3 := Lib.hid hb3; clear hb3)
            refine hK1.out _ _ (HSS2.out.later H3.out) ?_
            clear hK1 K1
            have HB4 : Hid (Below W.heap.size W (w3.alloc (.cells z16r 116)) ∧ Blk (w3.alloc (.cells z16r 116)) w3.heap.size 116 z16r ∧ W.heap.size ≤ w3.heap.size ∧ (fun V : World => SS w V g Bx #[.int .u8 id, .int .u16 kind, .slice S sn sc, .int .i64 sf, .int .i64 su, .int .i64 tf, .int .i64 tu] (.slice (some a) (N + 16) c) (.int .i64 N) (.slice (some ⟨a.block, a.off + 16, none⟩) 8 (c - 16))) (w3.alloc (.cells z16r 116)) ∧ w2.heap.size ≤ w3.heap.size) :=
              ⟨(HBd2.out.trans (H3.out.mono HBd2.out.size)).alloc (HBd2.out.trans (H3.out.mono HBd2.out.size)).size _, Blk.new _ _ _, (HBd2.out.trans (H3.out.mono HBd2.out.size)).size, (HSS2.out.later H3.out).later ((Below.refl _ _).alloc (Nat.le_refl _) _), H3.out.size⟩
            go_wp2
            refine hK.out _ _ HB4.out.2.2.2.1 ?_
            clear hK K HSS2 HBd2 H3
            generalize w3.alloc (.cells z16r 116) = w4 at *
            generalize w3.heap.size = D at *
            refine wpR_do fun K hK => ?_
            go_wp2_with (refine wpList_store_row rfl 116 _ _ rfl D (u8s (md (xs.take N ++ key16 bs))).toArray rfl rfl 116 _ HB4.out.2.1 (by rw [F16.out.1]; exact i27) (by rw [F16.out.1]; rfl) F16.out.2 ?_)
            have HB5 : Hid (Below W.heap.size W (w4.setRow D (u8s (md (xs.take N ++ key16 bs))).toArray) ∧ Blk (w4.setRow D (u8s (md (xs.take N ++ key16 bs))).toArray) D 116 (u8s (md (xs.take N ++ key16 bs))).toArray ∧ (fun V : World => SS w V g Bx #[.int .u8 id, .int .u16 kind, .slice S sn sc, .int .i64 sf, .int .i64 su, .int .i64 tf, .int .i64 tu] (.slice (some a) (N + 16) c) (.int .i64 N) (.slice (some ⟨a.block, a.off + 16, none⟩) 8 (c - 16))) (w4.setRow D (u8s (md (xs.take N ++ key16 bs))).toArray) ∧ Below w7.heap.size W (w4.setRow D (u8s (md (xs.take N ++ key16 bs))).toArray)) := by
              have h1 := below_setRow HB4.out.1 HB4.out.2.2.1 (u8s (md (xs.take N ++ key16 bs))).toArray
              exact ⟨h1, HB4.out.2.1.setRow _, SS.of_db (HOB.out.later h1) (by have := HB4.out.2.2.2.1.key; exact this.setRow_far (by have h5 := HXB.out; have h6 := HB4.out.2.2.1; omega) _), h1.mono hsz⟩
            refine hK.out _ _ HB5.out.2.2.1 ?_
            clear hK K HB4 HKEY
            generalize w4.setRow D (u8s (md (xs.take N ++ key16 bs))).toArray = w5 at *
            refine wpR_nil ?_
            try go_simp
            gi_wp2
            have HSS6 : Hid ((fun V : World => SS w V g Bx #[.int .u8 id, .int .u16 kind, .slice S sn sc, .int .i64 sf, .int .i64 su, .int .i64 tf, .int .i64 tu] (.slice (some a) (N + 16) c) (.int .i64 N) (.slice (some ⟨a.block, a.off + 16, none⟩) 8 (c - 16))) w5.drew) := HB5.out.2.2.1.later (Below.refl _ _).drew
            have HB6 : Hid (Below W.heap.size W w5.drew ∧ Reads w5.drew w5.drew.heap.size 1 (some ⟨D, 0, none⟩) 16 (u8s (md (xs.take N ++ key16 bs)))) := ⟨HB5.out.1.drew, by
              have h1 := (HB5.out.2.1.reads (n := 16) (by rw [u8s_length, md_len]; omega))
              rw [List.take_of_length_le (by rw [u8s_length, md_len]; omega)] at h1
              exact h1.more HB5.out.2.1.lt⟩
            refine wpIn_round_s (fun V : World => SS w V g Bx #[.int .u8 id, .int .u16 kind, .slice S sn sc, .int .i64 sf, .int .i64 su, .int .i64 tf, .int .i64 tu] (.slice (some a) (N + 16) c) (.int .i64 N) (.slice (some ⟨a.block, a.off + 16, none⟩) 8 (c - 16))) [(0, true), (1, true), (2, true), (3, true), (4, false)] (by kernel_rfl) (fun _ d _ _ _ h => by cases d <;> exact h) (fun _ _ h => h) ?_
            simp only [List.map_cons, List.map_nil, nthOp_zero, nthOp_succ]
            clear HB5
            generalize w5.drew = w6 at *
            refine wpS_take HSS6 (by kernel_rfl) (by intro V hV; have j0 := hV.key.cell 0; have j2 := hV.key.cell 2; have k0 := hV.b0.cell 0; have k1 := hV.b1.cell 0; have k5 := hV.b5.cell 0; obtain ⟨d0, d1, d2, d3, d4, d5, d6, d7⟩ := HY.out V hV.bel; clear hV; simp only [List.getElem?_toArray, List.getElem?_cons_zero, List.getElem?_cons_succ] at j0 j2 k0 k1 k5; go_simp; try with_reducible rfl) ?_
            refine wpS_take HSS6 (by kernel_rfl) (by intro V hV; have j0 := hV.key.cell 0; have j2 := hV.key.cell 2; have k0 := hV.b0.cell 0; have k1 := hV.b1.cell 0; have k5 := hV.b5.cell 0; obtain ⟨d0, d1, d2, d3, d4, d5, d6, d7⟩ := HY.out V hV.bel; clear hV; simp only [List.getElem?_toArray, List.getElem?_cons_zero, List.getElem?_cons_succ] at j0 j2 k0 k1 k5; go_simp; try with_reducible rfl) ?_
            refine wpS_take HSS6 (by kernel_rfl) (by intro V hV; have j0 := hV.key.cell 0; have j2 := hV.key.cell 2; have k0 := hV.b0.cell 0; have k1 := hV.b1.cell 0; have k5 := hV.b5.cell 0; obtain ⟨d0, d1, d2, d3, d4, d5, d6, d7⟩ := HY.out V hV.bel; clear hV; simp only [List.getElem?_toArray, List.getElem?_cons_zero, List.getElem?_cons_succ] at j0 j2 k0 k1 k5; go_simp; try with_reducible rfl) ?_
            refine wpS_take HSS6 (by kernel_rfl) (by intro V hV; have j0 := hV.key.cell 0; have j2 := hV.key.cell 2; have k0 := hV.b0.cell 0; have k1 := hV.b1.cell 0; have k5 := hV.b5.cell 0; obtain ⟨d0, d1, d2, d3, d4, d5, d6, d7⟩ := HY.out V hV.bel; clear hV; simp only [List.getElem?_toArray, List.getElem?_cons_zero, List.getElem?_cons_succ] at j0 j2 k0 k1 k5; go_simp; try with_reducible rfl) ?_
            go_simp
            have HSm := Lib.hid (toBelow (same_any (some ⟨D, 0, none⟩) (some (a.add N)) 16 16 16 (c - N) (md (xs.take N ++ key16 bs)) (xs.drop N) w6 w6.heap.size w6.heap.size HB6.out.2 (by
              have h1 := (HXl.out _ HSS6.out.bel).u8cut (k := N) (cap := c) (by omega) (by omega)
              rw [if_neg hcN] at h1
              rwa [show N + 16 - N = 16 by omega] at h1) (md_oct _) (HO.out.drop N) (by omega) (by omega)))
            rw [← hbb.out] at HSm
            refine wpS_do fun K hK => ?_
            go_wp2_with (go_at_call 94; refine HSm.out.mono ?_; rintro e w8 ⟨rfl, hb8⟩; have H8 := Lib.hid hb8; clear hb8)
            have HSS8 : Hid ((fun V : World => SS w V g Bx #[.int .u8 id, .int .u16 kind, .slice S sn sc, .int .i64 sf, .int .i64 su, .int .i64 tf, .int .i64 tu] (.slice (some a) (N + 16) c) (.int .i64 N) (.slice (some ⟨a.block, a.off + 16, none⟩) 8 (c - 16))) w8) := HSS6.out.later H8.out
            have HB8 := Lib.hid (HB6.out.1.trans (H8.out.mono HB6.out.1.size))
            refine hK.out _ _ HSS8.out ?_
            clear hK K HSm HSS6 HB6 H8
            refine wpS_nil ?_
            try go_simp
            cases bb
            · gi_wp2
              exact ⟨KeepsFrom.of_below HB8.out, HB8.out.mono hsz, HNO.out.next hdk.out, HOB.out.later HB8.out, Nat.le_trans hsz HB8.out.size⟩
            · gi_wp2
              have HDB9 : Hid (DB w w8.drew g (.slice (some a) (N + 16) c) (.int .i64 N) (.int .u32 0) (.int .i64 0) (.int .i64 0) (.slice (some ⟨a.block, a.off + 16, none⟩) 8 (c - 16))) := (HOB.out.later HB8.out).drew
              have HSS9 : Hid ((fun V : World => SS w V g Bx #[.int .u8 id, .int .u16 kind, .slice S sn sc, .int .i64 sf, .int .i64 su, .int .i64 tf, .int .i64 tu] (.slice (some a) (N + 16) c) (.int .i64 N) (.slice (some ⟨a.block, a.off + 16, none⟩) 8 (c - 16))) w8.drew) := HSS8.out.later (Below.refl _ _).drew
              have HB9 : Hid (Below W.heap.size W w8.drew) := HB8.out.drew
              have HQ : Hid (seqOf xs = bits .or .u32 (bits .or .u32 (bits .or .u32 (y4 * 16777216) (y5 * 65536)) (y6 * 256)) y7) := by
                obtain ⟨_, _, _, _, e4, e5, e6, e7⟩ := HG.out
                show _ = _; unfold seqOf; rw [e4, e5, e6, e7]
              have z0 : IntKind.u32.wrap y4 = y4 := IntWalk.u32_in _ (by omega)
              have z1 : IntKind.u32.wrap y5 = y5 := IntWalk.u32_in _ (by omega)
              have z2 : IntKind.u32.wrap y6 = y6 := IntWalk.u32_in _ (by omega)
              have z3 : IntKind.u32.wrap y7 = y7 := IntWalk.u32_in _ (by omega)
              have z4 : IntKind.u32.wrap (y4 * 16777216) = y4 * 16777216 := IntWalk.u32_in _ (by omega)
              have z5 : IntKind.u32.wrap (y5 * 65536) = y5 * 65536 := IntWalk.u32_in _ (by omega)
              have z6 : IntKind.u32.wrap (y6 * 256) = y6 * 256 := IntWalk.u32_in _ (by omega)
              refine wpIn_round_s (fun V : World => SS w V g Bx #[.int .u8 id, .int .u16 kind, .slice S sn sc, .int .i64 sf, .int .i64 su, .int .i64 tf, .int .i64 tu] (.slice (some a) (N + 16) c) (.int .i64 N) (.slice (some ⟨a.block, a.off + 16, none⟩) 8 (c - 16))) [(0, true), (1, true), (2, true), (3, true), (4, true), (5, true), (6, true), (7, true), (8, true), (9, true), (10, true), (11, true), (12, true), (13, true), (14, true), (15, true), (16, true), (17, true), (18, true), (19, true), (20, true), (21, true), (22, true), (23, false), (24, false), (25, false)] (by kernel_rfl) (fun _ d _ _ _ h => by cases d <;> exact h) (fun _ _ h => h) ?_
              simp only [List.map_cons, List.map_nil, nthOp_zero, nthOp_succ]
              clear HSS8 HB8
              generalize w8.drew = w9 at *
              refine wpS_take HSS9 (by kernel_rfl) (by intro V hV; have j0 := hV.key.cell 0; have j2 := hV.key.cell 2; have k0 := hV.b0.cell 0; have k1 := hV.b1.cell 0; have k5 := hV.b5.cell 0; obtain ⟨d0, d1, d2, d3, d4, d5, d6, d7⟩ := HY.out V hV.bel; clear hV; simp only [List.getElem?_toArray, List.getElem?_cons_zero, List.getElem?_cons_succ] at j0 j2 k0 k1 k5; go_simp; try with_reducible rfl) ?_
              refine wpS_take HSS9 (by kernel_rfl) (by intro V hV; have j0 := hV.key.cell 0; have j2 := hV.key.cell 2; have k0 := hV.b0.cell 0; have k1 := hV.b1.cell 0; have k5 := hV.b5.cell 0; obtain ⟨d0, d1, d2, d3, d4, d5, d6, d7⟩ := HY.out V hV.bel; clear hV; simp only [List.getElem?_toArray, List.getElem?_cons_zero, List.getElem?_cons_succ] at j0 j2 k0 k1 k5; go_simp; try with_reducible rfl) ?_
              refine wpS_take HSS9 (by kernel_rfl) (by intro V hV; have j0 := hV.key.cell 0; have j2 := hV.key.cell 2; have k0 := hV.b0.cell 0; have k1 := hV.b1.cell 0; have k5 := hV.b5.cell 0; obtain ⟨d0, d1, d2, d3, d4, d5, d6, d7⟩ := HY.out V hV.bel; clear hV; simp only [List.getElem?_toArray, List.getElem?_cons_zero, List.getElem?_cons_succ] at j0 j2 k0 k1 k5; go_simp; try with_reducible rfl) ?_
              refine wpS_take HSS9 (by kernel_rfl) (by intro V hV; have j0 := hV.key.cell 0; have j2 := hV.key.cell 2; have k0 := hV.b0.cell 0; have k1 := hV.b1.cell 0; have k5 := hV.b5.cell 0; obtain ⟨d0, d1, d2, d3, d4, d5, d6, d7⟩ := HY.out V hV.bel; clear hV; simp only [List.getElem?_toArray, List.getElem?_cons_zero, List.getElem?_cons_succ] at j0 j2 k0 k1 k5; go_simp; try with_reducible rfl) ?_
              refine wpS_take HSS9 (by kernel_rfl) (by intro V hV; have j0 := hV.key.cell 0; have j2 := hV.key.cell 2; have k0 := hV.b0.cell 0; have k1 := hV.b1.cell 0; have k5 := hV.b5.cell 0; obtain ⟨d0, d1, d2, d3, d4, d5, d6, d7⟩ := HY.out V hV.bel; clear hV; simp only [List.getElem?_toArray, List.getElem?_cons_zero, List.getElem?_cons_succ] at j0 j2 k0 k1 k5; go_simp; try with_reducible rfl) ?_
              refine wpS_take HSS9 (by kernel_rfl) (by intro V hV; have j0 := hV.key.cell 0; have j2 := hV.key.cell 2; have k0 := hV.b0.cell 0; have k1 := hV.b1.cell 0; have k5 := hV.b5.cell 0; obtain ⟨d0, d1, d2, d3, d4, d5, d6, d7⟩ := HY.out V hV.bel; clear hV; simp only [List.getElem?_toArray, List.getElem?_cons_zero, List.getElem?_cons_succ] at j0 j2 k0 k1 k5; go_simp; try with_reducible rfl) ?_
              refine wpS_take HSS9 (by kernel_rfl) (by intro V hV; have j0 := hV.key.cell 0; have j2 := hV.key.cell 2; have k0 := hV.b0.cell 0; have k1 := hV.b1.cell 0; have k5 := hV.b5.cell 0; obtain ⟨d0, d1, d2, d3, d4, d5, d6, d7⟩ := HY.out V hV.bel; clear hV; simp only [List.getElem?_toArray, List.getElem?_cons_zero, List.getElem?_cons_succ] at j0 j2 k0 k1 k5; go_simp; try with_reducible rfl) ?_
              refine wpS_take HSS9 (by kernel_rfl) (by intro V hV; have j0 := hV.key.cell 0; have j2 := hV.key.cell 2; have k0 := hV.b0.cell 0; have k1 := hV.b1.cell 0; have k5 := hV.b5.cell 0; obtain ⟨d0, d1, d2, d3, d4, d5, d6, d7⟩ := HY.out V hV.bel; clear hV; simp only [List.getElem?_toArray, List.getElem?_cons_zero, List.getElem?_cons_succ] at j0 j2 k0 k1 k5; go_simp; try with_reducible rfl) ?_
              refine wpS_take HSS9 (by kernel_rfl) (by intro V hV; have j0 := hV.key.cell 0; have j2 := hV.key.cell 2; have k0 := hV.b0.cell 0; have k1 := hV.b1.cell 0; have k5 := hV.b5.cell 0; obtain ⟨d0, d1, d2, d3, d4, d5, d6, d7⟩ := HY.out V hV.bel; clear hV; simp only [List.getElem?_toArray, List.getElem?_cons_zero, List.getElem?_cons_succ] at j0 j2 k0 k1 k5; go_simp; try with_reducible rfl) ?_
              refine wpS_take HSS9 (by kernel_rfl) (by intro V hV; have j0 := hV.key.cell 0; have j2 := hV.key.cell 2; have k0 := hV.b0.cell 0; have k1 := hV.b1.cell 0; have k5 := hV.b5.cell 0; obtain ⟨d0, d1, d2, d3, d4, d5, d6, d7⟩ := HY.out V hV.bel; clear hV; simp only [List.getElem?_toArray, List.getElem?_cons_zero, List.getElem?_cons_succ] at j0 j2 k0 k1 k5; go_simp; try with_reducible rfl) ?_
              refine wpS_take HSS9 (by kernel_rfl) (by intro V hV; have j0 := hV.key.cell 0; have j2 := hV.key.cell 2; have k0 := hV.b0.cell 0; have k1 := hV.b1.cell 0; have k5 := hV.b5.cell 0; obtain ⟨d0, d1, d2, d3, d4, d5, d6, d7⟩ := HY.out V hV.bel; clear hV; simp only [List.getElem?_toArray, List.getElem?_cons_zero, List.getElem?_cons_succ] at j0 j2 k0 k1 k5; go_simp; try with_reducible rfl) ?_
              refine wpS_take HSS9 (by kernel_rfl) (by intro V hV; have j0 := hV.key.cell 0; have j2 := hV.key.cell 2; have k0 := hV.b0.cell 0; have k1 := hV.b1.cell 0; have k5 := hV.b5.cell 0; obtain ⟨d0, d1, d2, d3, d4, d5, d6, d7⟩ := HY.out V hV.bel; clear hV; simp only [List.getElem?_toArray, List.getElem?_cons_zero, List.getElem?_cons_succ] at j0 j2 k0 k1 k5; go_simp; try with_reducible rfl) ?_
              refine wpS_take HSS9 (by kernel_rfl) (by intro V hV; have j0 := hV.key.cell 0; have j2 := hV.key.cell 2; have k0 := hV.b0.cell 0; have k1 := hV.b1.cell 0; have k5 := hV.b5.cell 0; obtain ⟨d0, d1, d2, d3, d4, d5, d6, d7⟩ := HY.out V hV.bel; clear hV; simp only [List.getElem?_toArray, List.getElem?_cons_zero, List.getElem?_cons_succ] at j0 j2 k0 k1 k5; go_simp; try with_reducible rfl) ?_
              refine wpS_take HSS9 (by kernel_rfl) (by intro V hV; have j0 := hV.key.cell 0; have j2 := hV.key.cell 2; have k0 := hV.b0.cell 0; have k1 := hV.b1.cell 0; have k5 := hV.b5.cell 0; obtain ⟨d0, d1, d2, d3, d4, d5, d6, d7⟩ := HY.out V hV.bel; clear hV; simp only [List.getElem?_toArray, List.getElem?_cons_zero, List.getElem?_cons_succ] at j0 j2 k0 k1 k5; go_simp; try with_reducible rfl) ?_
              refine wpS_take HSS9 (by kernel_rfl) (by intro V hV; have j0 := hV.key.cell 0; have j2 := hV.key.cell 2; have k0 := hV.b0.cell 0; have k1 := hV.b1.cell 0; have k5 := hV.b5.cell 0; obtain ⟨d0, d1, d2, d3, d4, d5, d6, d7⟩ := HY.out V hV.bel; clear hV; simp only [List.getElem?_toArray, List.getElem?_cons_zero, List.getElem?_cons_succ] at j0 j2 k0 k1 k5; go_simp; try with_reducible rfl) ?_
              refine wpS_take HSS9 (by kernel_rfl) (by intro V hV; have j0 := hV.key.cell 0; have j2 := hV.key.cell 2; have k0 := hV.b0.cell 0; have k1 := hV.b1.cell 0; have k5 := hV.b5.cell 0; obtain ⟨d0, d1, d2, d3, d4, d5, d6, d7⟩ := HY.out V hV.bel; clear hV; simp only [List.getElem?_toArray, List.getElem?_cons_zero, List.getElem?_cons_succ] at j0 j2 k0 k1 k5; go_simp; try with_reducible rfl) ?_
              refine wpS_take HSS9 (by kernel_rfl) (by intro V hV; have j0 := hV.key.cell 0; have j2 := hV.key.cell 2; have k0 := hV.b0.cell 0; have k1 := hV.b1.cell 0; have k5 := hV.b5.cell 0; obtain ⟨d0, d1, d2, d3, d4, d5, d6, d7⟩ := HY.out V hV.bel; clear hV; simp only [List.getElem?_toArray, List.getElem?_cons_zero, List.getElem?_cons_succ] at j0 j2 k0 k1 k5; go_simp; try with_reducible rfl) ?_
              refine wpS_take HSS9 (by kernel_rfl) (by intro V hV; have j0 := hV.key.cell 0; have j2 := hV.key.cell 2; have k0 := hV.b0.cell 0; have k1 := hV.b1.cell 0; have k5 := hV.b5.cell 0; obtain ⟨d0, d1, d2, d3, d4, d5, d6, d7⟩ := HY.out V hV.bel; clear hV; simp only [List.getElem?_toArray, List.getElem?_cons_zero, List.getElem?_cons_succ] at j0 j2 k0 k1 k5; go_simp; try with_reducible rfl) ?_
              refine wpS_take HSS9 (by kernel_rfl) (by intro V hV; have j0 := hV.key.cell 0; have j2 := hV.key.cell 2; have k0 := hV.b0.cell 0; have k1 := hV.b1.cell 0; have k5 := hV.b5.cell 0; obtain ⟨d0, d1, d2, d3, d4, d5, d6, d7⟩ := HY.out V hV.bel; clear hV; simp only [List.getElem?_toArray, List.getElem?_cons_zero, List.getElem?_cons_succ] at j0 j2 k0 k1 k5; go_simp; try with_reducible rfl) ?_
              refine wpS_take HSS9 (by kernel_rfl) (by intro V hV; have j0 := hV.key.cell 0; have j2 := hV.key.cell 2; have k0 := hV.b0.cell 0; have k1 := hV.b1.cell 0; have k5 := hV.b5.cell 0; obtain ⟨d0, d1, d2, d3, d4, d5, d6, d7⟩ := HY.out V hV.bel; clear hV; simp only [List.getElem?_toArray, List.getElem?_cons_zero, List.getElem?_cons_succ] at j0 j2 k0 k1 k5; go_simp; try with_reducible rfl) ?_
              refine wpS_take HSS9 (by kernel_rfl) (by intro V hV; have j0 := hV.key.cell 0; have j2 := hV.key.cell 2; have k0 := hV.b0.cell 0; have k1 := hV.b1.cell 0; have k5 := hV.b5.cell 0; obtain ⟨d0, d1, d2, d3, d4, d5, d6, d7⟩ := HY.out V hV.bel; clear hV; simp only [List.getElem?_toArray, List.getElem?_cons_zero, List.getElem?_cons_succ] at j0 j2 k0 k1 k5; go_simp; try with_reducible rfl) ?_
              refine wpS_take HSS9 (by kernel_rfl) (by intro V hV; have j0 := hV.key.cell 0; have j2 := hV.key.cell 2; have k0 := hV.b0.cell 0; have k1 := hV.b1.cell 0; have k5 := hV.b5.cell 0; obtain ⟨d0, d1, d2, d3, d4, d5, d6, d7⟩ := HY.out V hV.bel; clear hV; simp only [List.getElem?_toArray, List.getElem?_cons_zero, List.getElem?_cons_succ] at j0 j2 k0 k1 k5; go_simp; try with_reducible rfl) ?_
              refine wpS_take HSS9 (by kernel_rfl) (by intro V hV; have j0 := hV.key.cell 0; have j2 := hV.key.cell 2; have k0 := hV.b0.cell 0; have k1 := hV.b1.cell 0; have k5 := hV.b5.cell 0; obtain ⟨d0, d1, d2, d3, d4, d5, d6, d7⟩ := HY.out V hV.bel; clear hV; simp only [List.getElem?_toArray, List.getElem?_cons_zero, List.getElem?_cons_succ] at j0 j2 k0 k1 k5; go_simp; try with_reducible rfl) ?_
              go_simp
              rw [← HQ.out]
              have k2 := HDB9.out.b2.cell 0; have k3 := HDB9.out.b3.cell 0; have k4 := HDB9.out.b4.cell 0; have f2 := HDB9.out.b2.frozen 0; have f3 := HDB9.out.b3.frozen 0; have f4 := HDB9.out.b4.frozen 0
              simp only [List.getElem?_toArray, List.getElem?_cons_zero] at k2 k3 k4
              have HE : Hid (KeepsFrom w7.heap.size W (((w9.setCell ⟨g + 1 + 1, 0, none⟩ (.int .u32 (seqOf xs))).setCell ⟨g + 1 + 1 + 1, 0, none⟩ (.int .i64 N)).setCell ⟨g + 1 + 1 + 1 + 1, 0, none⟩ (.int .i64 0)) ∧ DB w (((w9.setCell ⟨g + 1 + 1, 0, none⟩ (.int .u32 (seqOf xs))).setCell ⟨g + 1 + 1 + 1, 0, none⟩ (.int .i64 N)).setCell ⟨g + 1 + 1 + 1 + 1, 0, none⟩ (.int .i64 0)) g (.slice (some a) (N + 16) c) (.int .i64 N) (.int .u32 (seqOf xs)) (.int .i64 N) (.int .i64 0) (.slice (some ⟨a.block, a.off + 16, none⟩) 8 (c - 16))) :=
                ⟨(KeepsFrom.of_below HB9.out).trans (((KeepsOthers.setCell _ _ _).trans ((KeepsOthers.setCell _ _ _).trans (KeepsOthers.setCell _ _ _))).from _), ((HDB9.out.set2 (.int .u32 (seqOf xs))).set3 (.int .i64 N)).set4 (.int .i64 0)⟩
              refine wpS_do fun K hK => ?_
              go_wp2
              refine hK.out _ _ (SS.of_db (HDB9.out.set2 (.int .u32 (seqOf xs))) (blk_set HSS9.out.key (by have h1 := HXB.out; have h2 := HB1.out.2.2; omega) _)) ?_
              clear hK K
              refine wpS_do fun K hK => ?_
              go_wp2
              refine hK.out _ _ (SS.of_db ((HDB9.out.set2 (.int .u32 (seqOf xs))).set3 (.int .i64 N)) (blk_set (blk_set HSS9.out.key (by have h1 := HXB.out; have h2 := HB1.out.2.2; omega) _) (by have h1 := HXB.out; have h2 := HB1.out.2.2; omega) _)) ?_
              clear hK K
              refine wpS_do fun K hK => ?_
              go_wp2
              refine hK.out _ _ (SS.of_db HE.out.2 (blk_set (blk_set (blk_set HSS9.out.key (by have h1 := HXB.out; have h2 := HB1.out.2.2; omega) _) (by have h1 := HXB.out; have h2 := HB1.out.2.2; omega) _) (by have h1 := HXB.out; have h2 := HB1.out.2.2; omega) _)) ?_
              clear hK K
              refine wpS_nil ?_
              try go_simp
              gi_wp2
              exact ⟨HE.out.1, ⟨rfl, _, List.mem_append.2 (.inr (List.mem_singleton.2 rfl)), hdk.out⟩, HE.out.2⟩
          · have HB3 : Hid (Below W.heap.size W (w2.alloc (.cells z16r 116)) ∧ Blk (w2.alloc (.cells z16r 116)) w2.heap.size 116 z16r ∧ W.heap.size ≤ w2.heap.size ∧ (fun V : World => SS w V g Bx #[.int .u8 id, .int .u16 kind, .slice S sn sc, .int .i64 sf, .int .i64 su, .int .i64 tf, .int .i64 tu] (.slice (some a) (N + 16) c) (.int .i64 N) (.slice (some ⟨a.block, a.off + 16, none⟩) 8 (c - 16))) (w2.alloc (.cells z16r 116))) :=
              ⟨HBd2.out.alloc HBd2.out.size _, Blk.new _ _ _, HBd2.out.size, HSS2.out.later ((Below.refl _ _).alloc (Nat.le_refl _) _)⟩
            go_wp2
            refine hK1.out _ _ HB3.out.2.2.2 ?_
            clear hK1 K1 HSS2 HBd2
            generalize w2.alloc (.cells z16r 116) = w3 at *
            generalize w2.heap.size = D at *
            go_wp2_with (go_at_call 74; refine (HKEY.out w3 HB3.out.2.2.2.bel).mono ?_; rintro e w4 ⟨rfl, hb4⟩; have H4 := Lib.hid hb4; clear hb4)
            have HB4 : Hid (Below W.heap.size W w4 ∧ Blk w4 D 116 z16r ∧ W.heap.size ≤ D ∧ (fun V : World => SS w V g Bx #[.int .u8 id, .int .u16 kind, .slice S sn sc, .int .i64 sf, .int .i64 su, .int .i64 tf, .int .i64 tu] (.slice (some a) (N + 16) c) (.int .i64 N) (.slice (some ⟨a.block, a.off + 16, none⟩) 8 (c - 16))) w4 ∧ True) :=
              ⟨HB3.out.1.trans (H4.out.mono HB3.out.1.size), HB3.out.2.1.later H4.out, HB3.out.2.2.1, HB3.out.2.2.2.later H4.out, trivial⟩
            refine hK.out _ _ HB4.out.2.2.2.1 ?_
            clear hK K HB3 H4
            refine wpR_do fun K hK => ?_
            go_wp2_with (refine wpList_store_row rfl 116 _ _ rfl D (u8s (md (xs.take N ++ key16 bs))).toArray rfl rfl 116 _ HB4.out.2.1 (by rw [F16.out.1]; exact i27) (by rw [F16.out.1]; rfl) F16.out.2 ?_)
            have HB5 : Hid (Below W.heap.size W (w4.setRow D (u8s (md (xs.take N ++ key16 bs))).toArray) ∧ Blk (w4.setRow D (u8s (md (xs.take N ++ key16 bs))).toArray) D 116 (u8s (md (xs.take N ++ key16 bs))).toArray ∧ (fun V : World => SS w V g Bx #[.int .u8 id, .int .u16 kind, .slice S sn sc, .int .i64 sf, .int .i64 su, .int .i64 tf, .int .i64 tu] (.slice (some a) (N + 16) c) (.int .i64 N) (.slice (some ⟨a.block, a.off + 16, none⟩) 8 (c - 16))) (w4.setRow D (u8s (md (xs.take N ++ key16 bs))).toArray) ∧ Below w7.heap.size W (w4.setRow D (u8s (md (xs.take N ++ key16 bs))).toArray)) := by
              have h1 := below_setRow HB4.out.1 HB4.out.2.2.1 (u8s (md (xs.take N ++ key16 bs))).toArray
              exact ⟨h1, HB4.out.2.1.setRow _, SS.of_db (HOB.out.later h1) (by have := HB4.out.2.2.2.1.key; exact this.setRow_far (by have h5 := HXB.out; have h6 := HB4.out.2.2.1; omega) _), h1.mono hsz⟩
            refine hK.out _ _ HB5.out.2.2.1 ?_
            clear hK K HB4 HKEY
            generalize w4.setRow D (u8s (md (xs.take N ++ key16 bs))).toArray = w5 at *
            refine wpR_nil ?_
            try go_simp
            gi_wp2
            have HSS6 : Hid ((fun V : World => SS w V g Bx #[.int .u8 id, .int .u16 kind, .slice S sn sc, .int .i64 sf, .int .i64 su, .int .i64 tf, .int .i64 tu] (.slice (some a) (N + 16) c) (.int .i64 N) (.slice (some ⟨a.block, a.off + 16, none⟩) 8 (c - 16))) w5.drew) := HB5.out.2.2.1.later (Below.refl _ _).drew
            have HB6 : Hid (Below W.heap.size W w5.drew ∧ Reads w5.drew w5.drew.heap.size 1 (some ⟨D, 0, none⟩) 16 (u8s (md (xs.take N ++ key16 bs)))) := ⟨HB5.out.1.drew, by
              have h1 := (HB5.out.2.1.reads (n := 16) (by rw [u8s_length, md_len]; omega))
              rw [List.take_of_length_le (by rw [u8s_length, md_len]; omega)] at h1
              exact h1.more HB5.out.2.1.lt⟩
            refine wpIn_round_s (fun V : World => SS w V g Bx #[.int .u8 id, .int .u16 kind, .slice S sn sc, .int .i64 sf, .int .i64 su, .int .i64 tf, .int .i64 tu] (.slice (some a) (N + 16) c) (.int .i64 N) (.slice (some ⟨a.block, a.off + 16, none⟩) 8 (c - 16))) [(0, true), (1, true), (2, true), (3, true), (4, false)] (by kernel_rfl) (fun _ d _ _ _ h => by cases d <;> exact h) (fun _ _ h => h) ?_
            simp only [List.map_cons, List.map_nil, nthOp_zero, nthOp_succ]
            clear HB5
            generalize w5.drew = w6 at *
            refine wpS_take HSS6 (by kernel_rfl) (by intro V hV; have j0 := hV.key.cell 0; have j2 := hV.key.cell 2; have k0 := hV.b0.cell 0; have k1 := hV.b1.cell 0; have k5 := hV.b5.cell 0; obtain ⟨d0, d1, d2, d3, d4, d5, d6, d7⟩ := HY.out V hV.bel; clear hV; simp only [List.getElem?_toArray, List.getElem?_cons_zero, List.getElem?_cons_succ] at j0 j2 k0 k1 k5; go_simp; try with_reducible rfl) ?_
            refine wpS_take HSS6 (by kernel_rfl) (by intro V hV; have j0 := hV.key.cell 0; have j2 := hV.key.cell 2; have k0 := hV.b0.cell 0; have k1 := hV.b1.cell 0; have k5 := hV.b5.cell 0; obtain ⟨d0, d1, d2, d3, d4, d5, d6, d7⟩ := HY.out V hV.bel; clear hV; simp only [List.getElem?_toArray, List.getElem?_cons_zero, List.getElem?_cons_succ] at j0 j2 k0 k1 k5; go_simp; try with_reducible rfl) ?_
            refine wpS_take HSS6 (by kernel_rfl) (by intro V hV; have j0 := hV.key.cell 0; have j2 := hV.key.cell 2; have k0 := hV.b0.cell 0; have k1 := hV.b1.cell 0; have k5 := hV.b5.cell 0; obtain ⟨d0, d1, d2, d3, d4, d5, d6, d7⟩ := HY.out V hV.bel; clear hV; simp only [List.getElem?_toArray, List.getElem?_cons_zero, List.getElem?_cons_succ] at j0 j2 k0 k1 k5; go_simp; try with_reducible rfl) ?_
            refine wpS_take HSS6 (by kernel_rfl) (by intro V hV; have j0 := hV.key.cell 0; have j2 := hV.key.cell 2; have k0 := hV.b0.cell 0; have k1 := hV.b1.cell 0; have k5 := hV.b5.cell 0; obtain ⟨d0, d1, d2, d3, d4, d5, d6, d7⟩ := HY.out V hV.bel; clear hV; simp only [List.getElem?_toArray, List.getElem?_cons_zero, List.getElem?_cons_succ] at j0 j2 k0 k1 k5; go_simp; try with_reducible rfl) ?_
            go_simp
            have HSm := Lib.hid (toBelow (same_any (some ⟨D, 0, none⟩) (some (a.add N)) 16 16 16 (c - N) (md (xs.take N ++ key16 bs)) (xs.drop N) w6 w6.heap.size w6.heap.size HB6.out.2 (by
              have h1 := (HXl.out _ HSS6.out.bel).u8cut (k := N) (cap := c) (by omega) (by omega)
              rw [if_neg hcN] at h1
              rwa [show N + 16 - N = 16 by omega] at h1) (md_oct _) (HO.out.drop N) (by omega) (by omega)))
            rw [← hbb.out] at HSm
            refine wpS_do fun K hK => ?_
            go_wp2_with (go_at_call 94; refine HSm.out.mono ?_; rintro e w8 ⟨rfl, hb8⟩; have H8 := Lib.hid hb8; clear hb8)
            have HSS8 : Hid ((fun V : World => SS w V g Bx #[.int .u8 id, .int .u16 kind, .slice S sn sc, .int .i64 sf, .int .i64 su, .int .i64 tf, .int .i64 tu] (.slice (some a) (N + 16) c) (.int .i64 N) (.slice (some ⟨a.block, a.off + 16, none⟩) 8 (c - 16))) w8) := HSS6.out.later H8.out
            have HB8 := Lib.hid (HB6.out.1.trans (H8.out.mono HB6.out.1.size))
            refine hK.out _ _ HSS8.out ?_
            clear hK K HSm HSS6 HB6 H8
            refine wpS_nil ?_
            try go_simp
            cases bb
            · gi_wp2
              exact ⟨KeepsFrom.of_below HB8.out, HB8.out.mono hsz, HNO.out.next hdk.out, HOB.out.later HB8.out, Nat.le_trans hsz HB8.out.size⟩
            · gi_wp2
              have HDB9 : Hid (DB w w8.drew g (.slice (some a) (N + 16) c) (.int .i64 N) (.int .u32 0) (.int .i64 0) (.int .i64 0) (.slice (some ⟨a.block, a.off + 16, none⟩) 8 (c - 16))) := (HOB.out.later HB8.out).drew
              have HSS9 : Hid ((fun V : World => SS w V g Bx #[.int .u8 id, .int .u16 kind, .slice S sn sc, .int .i64 sf, .int .i64 su, .int .i64 tf, .int .i64 tu] (.slice (some a) (N + 16) c) (.int .i64 N) (.slice (some ⟨a.block, a.off + 16, none⟩) 8 (c - 16))) w8.drew) := HSS8.out.later (Below.refl _ _).drew
              have HB9 : Hid (Below W.heap.size W w8.drew) := HB8.out.drew
              have HQ : Hid (seqOf xs = bits .or .u32 (bits .or .u32 (bits .or .u32 (y4 * 16777216) (y5 * 65536)) (y6 * 256)) y7) := by
                obtain ⟨_, _, _, _, e4, e5, e6, e7⟩ := HG.out
                show _ = _; unfold seqOf; rw [e4, e5, e6, e7]
              have z0 : IntKind.u32.wrap y4 = y4 := IntWalk.u32_in _ (by omega)
              have z1 : IntKind.u32.wrap y5 = y5 := IntWalk.u32_in _ (by omega)
              have z2 : IntKind.u32.wrap y6 = y6 := IntWalk.u32_in _ (by omega)
              have z3 : IntKind.u32.wrap y7 = y7 := IntWalk.u32_in _ (by omega)
              have z4 : IntKind.u32.wrap (y4 * 16777216) = y4 * 16777216 := IntWalk.u32_in _ (by omega)
              have z5 : IntKind.u32.wrap (y5 * 65536) = y5 * 65536 := IntWalk.u32_in _ (by omega)
              have z6 : IntKind.u32.wrap (y6 * 256) = y6 * 256 := IntWalk.u32_in _ (by omega)
              refine wpIn_round_s (fun V : World => SS w V g Bx #[.int .u8 id, .int .u16 kind, .slice S sn sc, .int .i64 sf, .int .i64 su, .int .i64 tf, .int .i64 tu] (.slice (some a) (N + 16) c) (.int .i64 N) (.slice (some ⟨a.block, a.off + 16, none⟩) 8 (c - 16))) [(0, true), (1, true), (2, true), (3, true), (4, true), (5, true), (6, true), (7, true), (8, true), (9, true), (10, true), (11, true), (12, true), (13, true), (14, true), (15, true), (16, true), (17, true), (18, true), (19, true), (20, true), (21, true), (22, true), (23, false), (24, false), (25, false)] (by kernel_rfl) (fun _ d _ _ _ h => by cases d <;> exact h) (fun _ _ h => h) ?_
              simp only [List.map_cons, List.map_nil, nthOp_zero, nthOp_succ]
              clear HSS8 HB8
              generalize w8.drew = w9 at *
              refine wpS_take HSS9 (by kernel_rfl) (by intro V hV; have j0 := hV.key.cell 0; have j2 := hV.key.cell 2; have k0 := hV.b0.cell 0; have k1 := hV.b1.cell 0; have k5 := hV.b5.cell 0; obtain ⟨d0, d1, d2, d3, d4, d5, d6, d7⟩ := HY.out V hV.bel; clear hV; simp only [List.getElem?_toArray, List.getElem?_cons_zero, List.getElem?_cons_succ] at j0 j2 k0 k1 k5; go_simp; try with_reducible rfl) ?_
              refine wpS_take HSS9 (by kernel_rfl) (by intro V hV; have j0 := hV.key.cell 0; have j2 := hV.key.cell 2; have k0 := hV.b0.cell 0; have k1 := hV.b1.cell 0; have k5 := hV.b5.cell 0; obtain ⟨d0, d1, d2, d3, d4, d5, d6, d7⟩ := HY.out V hV.bel; clear hV; simp only [List.getElem?_toArray, List.getElem?_cons_zero, List.getElem?_cons_succ] at j0 j2 k0 k1 k5; go_simp; try with_reducible rfl) ?_
              refine wpS_take HSS9 (by kernel_rfl) (by intro V hV; have j0 := hV.key.cell 0; have j2 := hV.key.cell 2; have k0 := hV.b0.cell 0; have k1 := hV.b1.cell 0; have k5 := hV.b5.cell 0; obtain ⟨d0, d1, d2, d3, d4, d5, d6, d7⟩ := HY.out V hV.bel; clear hV; simp only [List.getElem?_toArray, List.getElem?_cons_zero, List.getElem?_cons_succ] at j0 j2 k0 k1 k5; go_simp; try with_reducible rfl) ?_
              refine wpS_take HSS9 (by kernel_rfl) (by intro V hV; have j0 := hV.key.cell 0; have j2 := hV.key.cell 2; have k0 := hV.b0.cell 0; have k1 := hV.b1.cell 0; have k5 := hV.b5.cell 0; obtain ⟨d0, d1, d2, d3, d4, d5, d6, d7⟩ := HY.out V hV.bel; clear hV; simp only [List.getElem?_toArray, List.getElem?_cons_zero, List.getElem?_cons_succ] at j0 j2 k0 k1 k5; go_simp; try with_reducible rfl) ?_
              refine wpS_take HSS9 (by kernel_rfl) (by intro V hV; have j0 := hV.key.cell 0; have j2 := hV.key.cell 2; have k0 := hV.b0.cell 0; have k1 := hV.b1.cell 0; have k5 := hV.b5.cell 0; obtain ⟨d0, d1, d2, d3, d4, d5, d6, d7⟩ := HY.out V hV.bel; clear hV; simp only [List.getElem?_toArray, List.getElem?_cons_zero, List.getElem?_cons_succ] at j0 j2 k0 k1 k5; go_simp; try with_reducible rfl) ?_
              refine wpS_take HSS9 (by kernel_rfl) (by intro V hV; have j0 := hV.key.cell 0; have j2 := hV.key.cell 2; have k0 := hV.b0.cell 0; have k1 := hV.b1.cell 0; have k5 := hV.b5.cell 0; obtain ⟨d0, d1, d2, d3, d4, d5, d6, d7⟩ := HY.out V hV.bel; clear hV; simp only [List.getElem?_toArray, List.getElem?_cons_zero, List.getElem?_cons_succ] at j0 j2 k0 k1 k5; go_simp; try with_reducible rfl) ?_
              refine wpS_take HSS9 (by kernel_rfl) (by intro V hV; have j0 := hV.key.cell 0; have j2 := hV.key.cell 2; have k0 := hV.b0.cell 0; have k1 := hV.b1.cell 0; have k5 := hV.b5.cell 0; obtain ⟨d0, d1, d2, d3, d4, d5, d6, d7⟩ := HY.out V hV.bel; clear hV; simp only [List.getElem?_toArray, List.getElem?_cons_zero, List.getElem?_cons_succ] at j0 j2 k0 k1 k5; go_simp; try with_reducible rfl) ?_
              refine wpS_take HSS9 (by kernel_rfl) (by intro V hV; have j0 := hV.key.cell 0; have j2 := hV.key.cell 2; have k0 := hV.b0.cell 0; have k1 := hV.b1.cell 0; have k5 := hV.b5.cell 0; obtain ⟨d0, d1, d2, d3, d4, d5, d6, d7⟩ := HY.out V hV.bel; clear hV; simp only [List.getElem?_toArray, List.getElem?_cons_zero, List.getElem?_cons_succ] at j0 j2 k0 k1 k5; go_simp; try with_reducible rfl) ?_
              refine wpS_take HSS9 (by kernel_rfl) (by intro V hV; have j0 := hV.key.cell 0; have j2 := hV.key.cell 2; have k0 := hV.b0.cell 0; have k1 := hV.b1.cell 0; have k5 := hV.b5.cell 0; obtain ⟨d0, d1, d2, d3, d4, d5, d6, d7⟩ := HY.out V hV.bel; clear hV; simp only [List.getElem?_toArray, List.getElem?_cons_zero, List.getElem?_cons_succ] at j0 j2 k0 k1 k5; go_simp; try with_reducible rfl) ?_
              refine wpS_take HSS9 (by kernel_rfl) (by intro V hV; have j0 := hV.key.cell 0; have j2 := hV.key.cell 2; have k0 := hV.b0.cell 0; have k1 := hV.b1.cell 0; have k5 := hV.b5.cell 0; obtain ⟨d0, d1, d2, d3, d4, d5, d6, d7⟩ := HY.out V hV.bel; clear hV; simp only [List.getElem?_toArray, List.getElem?_cons_zero, List.getElem?_cons_succ] at j0 j2 k0 k1 k5; go_simp; try with_reducible rfl) ?_
              refine wpS_take HSS9 (by kernel_rfl) (by intro V hV; have j0 := hV.key.cell 0; have j2 := hV.key.cell 2; have k0 := hV.b0.cell 0; have k1 := hV.b1.cell 0; have k5 := hV.b5.cell 0; obtain ⟨d0, d1, d2, d3, d4, d5, d6, d7⟩ := HY.out V hV.bel; clear hV; simp only [List.getElem?_toArray, List.getElem?_cons_zero, List.getElem?_cons_succ] at j0 j2 k0 k1 k5; go_simp; try with_reducible rfl) ?_
              refine wpS_take HSS9 (by kernel_rfl) (by intro V hV; have j0 := hV.key.cell 0; have j2 := hV.key.cell 2; have k0 := hV.b0.cell 0; have k1 := hV.b1.cell 0; have k5 := hV.b5.cell 0; obtain ⟨d0, d1, d2, d3, d4, d5, d6, d7⟩ := HY.out V hV.bel; clear hV; simp only [List.getElem?_toArray, List.getElem?_cons_zero, List.getElem?_cons_succ] at j0 j2 k0 k1 k5; go_simp; try with_reducible rfl) ?_
              refine wpS_take HSS9 (by kernel_rfl) (by intro V hV; have j0 := hV.key.cell 0; have j2 := hV.key.cell 2; have k0 := hV.b0.cell 0; have k1 := hV.b1.cell 0; have k5 := hV.b5.cell 0; obtain ⟨d0, d1, d2, d3, d4, d5, d6, d7⟩ := HY.out V hV.bel; clear hV; simp only [List.getElem?_toArray, List.getElem?_cons_zero, List.getElem?_cons_succ] at j0 j2 k0 k1 k5; go_simp; try with_reducible rfl) ?_
              refine wpS_take HSS9 (by kernel_rfl) (by intro V hV; have j0 := hV.key.cell 0; have j2 := hV.key.cell 2; have k0 := hV.b0.cell 0; have k1 := hV.b1.cell 0; have k5 := hV.b5.cell 0; obtain ⟨d0, d1, d2, d3, d4, d5, d6, d7⟩ := HY.out V hV.bel; clear hV; simp only [List.getElem?_toArray, List.getElem?_cons_zero, List.getElem?_cons_succ] at j0 j2 k0 k1 k5; go_simp; try with_reducible rfl) ?_
              refine wpS_take HSS9 (by kernel_rfl) (by intro V hV; have j0 := hV.key.cell 0; have j2 := hV.key.cell 2; have k0 := hV.b0.cell 0; have k1 := hV.b1.cell 0; have k5 := hV.b5.cell 0; obtain ⟨d0, d1, d2, d3, d4, d5, d6, d7⟩ := HY.out V hV.bel; clear hV; simp only [List.getElem?_toArray, List.getElem?_cons_zero, List.getElem?_cons_succ] at j0 j2 k0 k1 k5; go_simp; try with_reducible rfl) ?_
              refine wpS_take HSS9 (by kernel_rfl) (by intro V hV; have j0 := hV.key.cell 0; have j2 := hV.key.cell 2; have k0 := hV.b0.cell 0; have k1 := hV.b1.cell 0; have k5 := hV.b5.cell 0; obtain ⟨d0, d1, d2, d3, d4, d5, d6, d7⟩ := HY.out V hV.bel; clear hV; simp only [List.getElem?_toArray, List.getElem?_cons_zero, List.getElem?_cons_succ] at j0 j2 k0 k1 k5; go_simp; try with_reducible rfl) ?_
              refine wpS_take HSS9 (by kernel_rfl) (by intro V hV; have j0 := hV.key.cell 0; have j2 := hV.key.cell 2; have k0 := hV.b0.cell 0; have k1 := hV.b1.cell 0; have k5 := hV.b5.cell 0; obtain ⟨d0, d1, d2, d3, d4, d5, d6, d7⟩ := HY.out V hV.bel; clear hV; simp only [List.getElem?_toArray, List.getElem?_cons_zero, List.getElem?_cons_succ] at j0 j2 k0 k1 k5; go_simp; try with_reducible rfl) ?_
              refine wpS_take HSS9 (by kernel_rfl) (by intro V hV; have j0 := hV.key.cell 0; have j2 := hV.key.cell 2; have k0 := hV.b0.cell 0; have k1 := hV.b1.cell 0; have k5 := hV.b5.cell 0; obtain ⟨d0, d1, d2, d3, d4, d5, d6, d7⟩ := HY.out V hV.bel; clear hV; simp only [List.getElem?_toArray, List.getElem?_cons_zero, List.getElem?_cons_succ] at j0 j2 k0 k1 k5; go_simp; try with_reducible rfl) ?_
              refine wpS_take HSS9 (by kernel_rfl) (by intro V hV; have j0 := hV.key.cell 0; have j2 := hV.key.cell 2; have k0 := hV.b0.cell 0; have k1 := hV.b1.cell 0; have k5 := hV.b5.cell 0; obtain ⟨d0, d1, d2, d3, d4, d5, d6, d7⟩ := HY.out V hV.bel; clear hV; simp only [List.getElem?_toArray, List.getElem?_cons_zero, List.getElem?_cons_succ] at j0 j2 k0 k1 k5; go_simp; try with_reducible rfl) ?_
              refine wpS_take HSS9 (by kernel_rfl) (by intro V hV; have j0 := hV.key.cell 0; have j2 := hV.key.cell 2; have k0 := hV.b0.cell 0; have k1 := hV.b1.cell 0; have k5 := hV.b5.cell 0; obtain ⟨d0, d1, d2, d3, d4, d5, d6, d7⟩ := HY.out V hV.bel; clear hV; simp only [List.getElem?_toArray, List.getElem?_cons_zero, List.getElem?_cons_succ] at j0 j2 k0 k1 k5; go_simp; try with_reducible rfl) ?_
              refine wpS_take HSS9 (by kernel_rfl) (by intro V hV; have j0 := hV.key.cell 0; have j2 := hV.key.cell 2; have k0 := hV.b0.cell 0; have k1 := hV.b1.cell 0; have k5 := hV.b5.cell 0; obtain ⟨d0, d1, d2, d3, d4, d5, d6, d7⟩ := HY.out V hV.bel; clear hV; simp only [List.getElem?_toArray, List.getElem?_cons_zero, List.getElem?_cons_succ] at j0 j2 k0 k1 k5; go_simp; try with_reducible rfl) ?_
              refine wpS_take HSS9 (by kernel_rfl) (by intro V hV; have j0 := hV.key.cell 0; have j2 := hV.key.cell 2; have k0 := hV.b0.cell 0; have k1 := hV.b1.cell 0; have k5 := hV.b5.cell 0; obtain ⟨d0, d1, d2, d3, d4, d5, d6, d7⟩ := HY.out V hV.bel; clear hV; simp only [List.getElem?_toArray, List.getElem?_cons_zero, List.getElem?_cons_succ] at j0 j2 k0 k1 k5; go_simp; try with_reducible rfl) ?_
              refine wpS_take HSS9 (by kernel_rfl) (by intro V hV; have j0 := hV.key.cell 0; have j2 := hV.key.cell 2; have k0 := hV.b0.cell 0; have k1 := hV.b1.cell 0; have k5 := hV.b5.cell 0; obtain ⟨d0, d1, d2, d3, d4, d5, d6, d7⟩ := HY.out V hV.bel; clear hV; simp only [List.getElem?_toArray, List.getElem?_cons_zero, List.getElem?_cons_succ] at j0 j2 k0 k1 k5; go_simp; try with_reducible rfl) ?_
              go_simp
              rw [← HQ.out]
              have k2 := HDB9.out.b2.cell 0; have k3 := HDB9.out.b3.cell 0; have k4 := HDB9.out.b4.cell 0; have f2 := HDB9.out.b2.frozen 0; have f3 := HDB9.out.b3.frozen 0; have f4 := HDB9.out.b4.frozen 0
              simp only [List.getElem?_toArray, List.getElem?_cons_zero] at k2 k3 k4
              have HE : Hid (KeepsFrom w7.heap.size W (((w9.setCell ⟨g + 1 + 1, 0, none⟩ (.int .u32 (seqOf xs))).setCell ⟨g + 1 + 1 + 1, 0, none⟩ (.int .i64 N)).setCell ⟨g + 1 + 1 + 1 + 1, 0, none⟩ (.int .i64 0)) ∧ DB w (((w9.setCell ⟨g + 1 + 1, 0, none⟩ (.int .u32 (seqOf xs))).setCell ⟨g + 1 + 1 + 1, 0, none⟩ (.int .i64 N)).setCell ⟨g + 1 + 1 + 1 + 1, 0, none⟩ (.int .i64 0)) g (.slice (some a) (N + 16) c) (.int .i64 N) (.int .u32 (seqOf xs)) (.int .i64 N) (.int .i64 0) (.slice (some ⟨a.block, a.off + 16, none⟩) 8 (c - 16))) :=
                ⟨(KeepsFrom.of_below HB9.out).trans (((KeepsOthers.setCell _ _ _).trans ((KeepsOthers.setCell _ _ _).trans (KeepsOthers.setCell _ _ _))).from _), ((HDB9.out.set2 (.int .u32 (seqOf xs))).set3 (.int .i64 N)).set4 (.int .i64 0)⟩
              refine wpS_do fun K hK => ?_
              go_wp2
              refine hK.out _ _ (SS.of_db (HDB9.out.set2 (.int .u32 (seqOf xs))) (blk_set HSS9.out.key (by have h1 := HXB.out; have h2 := HB1.out.2.2; omega) _)) ?_
              clear hK K
              refine wpS_do fun K hK => ?_
              go_wp2
              refine hK.out _ _ (SS.of_db ((HDB9.out.set2 (.int .u32 (seqOf xs))).set3 (.int .i64 N)) (blk_set (blk_set HSS9.out.key (by have h1 := HXB.out; have h2 := HB1.out.2.2; omega) _) (by have h1 := HXB.out; have h2 := HB1.out.2.2; omega) _)) ?_
              clear hK K
              refine wpS_do fun K hK => ?_
              go_wp2
              refine hK.out _ _ (SS.of_db HE.out.2 (blk_set (blk_set (blk_set HSS9.out.key (by have h1 := HXB.out; have h2 := HB1.out.2.2; omega) _) (by have h1 := HXB.out; have h2 := HB1.out.2.2; omega) _) (by have h1 := HXB.out; have h2 := HB1.out.2.2; omega) _)) ?_
              clear hK K
              refine wpS_nil ?_
              try go_simp
              gi_wp2
              exact ⟨HE.out.1, ⟨rfl, _, List.mem_append.2 (.inr (List.mem_singleton.2 rfl)), hdk.out⟩, HE.out.2⟩
        · have q1' : (id == y2) = false := by simpa using q1
          have q1'' : (id != y2) = true := by simpa using q1
          have hdk : Hid (dgK xs N ⟨id, kind, S, sn, sc, sf, su, tf, tu, bs⟩ = false) := by show _ = _; unfold dgK; simp only [HGd.out]; simp [q1]
          gi_wp2
          exact ⟨KeepsFrom.of_below HBd.out, HBd.out.mono hsz, HNO.out.next hdk.out, HOB.out.later HBd.out, Nat.le_trans hsz HBd.out.size⟩
    · have gn' : ((n : Int) == (N : Int) + 16) = false := by simp; omega
      have gn'' : ((n : Int) != (N : Int) + 16) = true := by simp; omega
      have hr : Hid (digOf xs N L now = (0, 0, 22)) := by show _ = _; rw [hp.out, if_neg (by omega), if_pos gn]
      have H9 := Lib.hid (((H6.out.set2 (.int .u32 0)).set3 (.int .i64 0)).set4 (.int .i64 22))
      clear hp gn hl H6
      go_wp2_with fail
      generalize ((w0.setCell ⟨g + 1 + 1, 0, none⟩ (.int .u32 0)).setCell ⟨g + 1 + 1 + 1, 0, none⟩ (.int .i64 0)).setCell ⟨g + 1 + 1 + 1 + 1, 0, none⟩ (.int .i64 22) = W9 at *
      exact ⟨_, db_results H9.out rfl rfl rfl, dgAt ⟨rfl, by rw [hs0]; exact H9.out.bel⟩ hr.out⟩
  · have hr : Hid (digOf xs N L now = (0, 0, 24)) := by show _ = _; rw [hp.out, if_pos (by omega)]
    have H9 := Lib.hid (((H6.out.set2 (.int .u32 0)).set3 (.int .i64 0)).set4 (.int .i64 24))
    clear hp hl
    by_cases g0 : y0 = 0
    · subst g0
      by_cases g1 : y1 = 0
      · subst g1
        have g3 : y3 ≠ 16 := fun h => hbad ⟨rfl, rfl, h⟩
        have g3' : (y3 == 16) = false := by simpa using g3
        have g3'' : (y3 != 16) = true := by simpa using g3
        clear hbad g3
        go_wp2_with fail
        generalize ((w0.setCell ⟨g + 1 + 1, 0, none⟩ (.int .u32 0)).setCell ⟨g + 1 + 1 + 1, 0, none⟩ (.int .i64 0)).setCell ⟨g + 1 + 1 + 1 + 1, 0, none⟩ (.int .i64 24) = W9 at *
        exact ⟨_, db_results H9.out rfl rfl rfl, dgAt ⟨rfl, by rw [hs0]; exact H9.out.bel⟩ hr.out⟩
      · have g1' : (y1 == 0) = false := by simpa using g1
        have g1'' : (y1 != 0) = true := by simpa using g1
        clear hbad g1
        go_wp2_with fail
        generalize ((w0.setCell ⟨g + 1 + 1, 0, none⟩ (.int .u32 0)).setCell ⟨g + 1 + 1 + 1, 0, none⟩ (.int .i64 0)).setCell ⟨g + 1 + 1 + 1 + 1, 0, none⟩ (.int .i64 24) = W9 at *
        exact ⟨_, db_results H9.out rfl rfl rfl, dgAt ⟨rfl, by rw [hs0]; exact H9.out.bel⟩ hr.out⟩
    · have g0' : (y0 == 0) = false := by simpa using g0
      have g0'' : (y0 != 0) = true := by simpa using g0
      clear hbad g0
      go_wp2_with fail
      generalize ((w0.setCell ⟨g + 1 + 1, 0, none⟩ (.int .u32 0)).setCell ⟨g + 1 + 1 + 1, 0, none⟩ (.int .i64 0)).setCell ⟨g + 1 + 1 + 1 + 1, 0, none⟩ (.int .i64 24) = W9 at *
      exact ⟨_, db_results H9.out rfl rfl rfl, dgAt ⟨rfl, by rw [hs0]; exact H9.out.bel⟩ hr.out⟩
end Go.Proofs.Ytbkejlalbjomkaa
namespace Go.Proofs.Ytbkejlalbjomkaa
set_option linter.unusedVariables false
open Go.RowKit Go.Shelf
attribute [local go_sem] Oper.semAt_some

set_option maxRecDepth 100000 in
set_option maxHeartbeats 4000000 in
theorem open_len
    (A KA : Option Addr) (n c m kc : Nat) (xs : List Int) (L : List AK) (now : Int) (w : World) (hx : Reads w w.heap.size 1 A n (u8s xs)) (ho : Oct xs) (hc : n ≤ c) (hm : c ≤ 9223372036854775807) (hn : n ≤ 1099511627000)
    (hL : Keys w KA m L) (hkc : m ≤ kc) (hkm : kc ≤ 9223372036854775807)
    (E : Int) (hp : pkLen xs = (0, E)) (hE : E ≠ 0) :
    Calls Try.prog 27 #[.slice A n c, .slice KA m kc, .int .i64 now] w fun e w' => e = .returned (.tuple #[.int .u32 0, .int .i64 0, .int .i64 E]) ∧ Below w.heap.size w w' := by
  have HLen : Hid (∀ W : World, Below w.heap.size w W → Calls Try.prog 15 #[.slice A n c] W fun e w' => PkAt W w' (0, E) e) := fun W hb => by
    have := length_any A n c xs W W.heap.size (hx.later hb) ho hc hm
    rwa [hp] at this
  have hE' : (E == 0) = false := by simpa using hE
  have hE'' : (E != 0) = true := by simpa using hE
  clear hx ho hL hp hE
  have H4 := Lib.hid (four_new w (.slice A n c))
  refine (callsIn_wide (n := 6)).1 (callsIn_of_wp_marks Try.func27 rfl trivial ?_ rfl)
  simp only [Try.ntmps27, List.size_toArray, List.length_cons, List.length_nil, Nat.reduceAdd, Nat.reduceSub, Array.replicate_succ, Array.replicate_zero, List.push_toArray, List.append_toArray, List.nil_append, List.cons_append]
  refine wpIn_wide.2 ?_
  go_wp2_with fail
  generalize (((w.alloc (.cells #[.slice A n c] 39)).alloc (.cells #[.int .u32 0] 22)).alloc (.cells #[.int .i64 0] 3)).alloc (.cells #[.int .i64 0] 40) = w0 at *
  generalize hs0 : w.heap.size = g at *
  refine (HLen.out w0 H4.out.bel).mono ?_
  rintro e w1 ⟨rfl, d, rfl⟩
  have k0 := H4.out.b0.cell 0; have k1 := H4.out.b1.cell 0; have k2 := H4.out.b2.cell 0; have k3 := H4.out.b3.cell 0; have f1 := H4.out.b1.frozen 0; have f2 := H4.out.b2.frozen 0; have f3 := H4.out.b3.frozen 0
  simp only [List.getElem?_toArray, List.getElem?_cons_zero] at k0 k1 k2 k3
  have H5 := Lib.hid (((H4.out.drewN d).set7 (.int .i64 0)).set8 (.int .i64 E))
  clear H4 HLen
  have H9 := Lib.hid ((((H5.out.set6 (.int .u32 0)).set7 (.int .i64 0)).set8 (.int .i64 E)).drew)
  go_wp2_with fail
  go_region
  go_wp2
  generalize ((((((w0.drewN d).setCell ⟨g + 1 + 1, 0, none⟩ (.int .i64 0)).setCell ⟨g + 1 + 1 + 1, 0, none⟩ (.int .i64 E)).setCell ⟨g + 1, 0, none⟩ (.int .u32 0)).setCell ⟨g + 1 + 1, 0, none⟩ (.int .i64 0)).setCell ⟨g + 1 + 1 + 1, 0, none⟩ (.int .i64 E)).drew = W9 at *
  exact ⟨_, op_results H9.out rfl rfl rfl, rfl, by rw [hs0]; exact H9.out.bel⟩
set_option maxRecDepth 100000 in
set_option maxHeartbeats 4000000 in
theorem open_chk
    (A KA : Option Addr) (n c m kc : Nat) (xs : List Int) (L : List AK) (now : Int) (w : World) (hx : Reads w w.heap.size 1 A n (u8s xs)) (ho : Oct xs) (hc : n ≤ c) (hm : c ≤ 9223372036854775807) (hn : n ≤ 1099511627000)
    (hL : Keys w KA m L) (hkc : m ≤ kc) (hkm : kc ≤ 9223372036854775807)
    (N : Nat) (E P : Int) (h0 : 0 < m) (hp : pkLen xs = ((N : Int), 0)) (hck : checkOf L = (E, P)) (hE : E ≠ 0) :
    Calls Try.prog 27 #[.slice A n c, .slice KA m kc, .int .i64 now] w fun e w' => e = .returned (.tuple #[.int .u32 0, .int .i64 0, .int .i64 26]) ∧ Below w.heap.size w w' := by
  have HLen : Hid (∀ W : World, Below w.heap.size w W → Calls Try.prog 15 #[.slice A n c] W fun e w' => PkAt W w' ((N : Int), 0) e) := fun W hb => by
    have := length_any A n c xs W W.heap.size (hx.later hb) ho hc hm
    rwa [hp] at this
  have HCk : Hid (∀ W : World, Below w.heap.size w W → Calls Try.prog 25 #[.slice KA m kc] W fun e w' => CkAt W w' (E, P) e) := fun W hb => by
    have := check_any KA m kc L W (hL.later hb) hkc (by omega)
    rwa [hck] at this
  have hE' : (E == 0) = false := by simpa using hE
  have hE'' : (E != 0) = true := by simpa using hE
  have hm0 : (0 : Int) < (m : Int) := by omega
  clear hx ho hL hp hck hE
  have H4 := Lib.hid (four_new w (.slice A n c))
  refine (callsIn_wide (n := 6)).1 (callsIn_of_wp_marks Try.func27 rfl trivial ?_ rfl)
  simp only [Try.ntmps27, List.size_toArray, List.length_cons, List.length_nil, Nat.reduceAdd, Nat.reduceSub, Array.replicate_succ, Array.replicate_zero, List.push_toArray, List.append_toArray, List.nil_append, List.cons_append]
  refine wpIn_wide.2 ?_
  go_wp2_with fail
  generalize (((w.alloc (.cells #[.slice A n c] 39)).alloc (.cells #[.int .u32 0] 22)).alloc (.cells #[.int .i64 0] 3)).alloc (.cells #[.int .i64 0] 40) = w0 at *
  generalize hs0 : w.heap.size = g at *
  refine (HLen.out w0 H4.out.bel).mono ?_
  rintro e w1 ⟨rfl, d, rfl⟩
  have k0 := H4.out.b0.cell 0; have k1 := H4.out.b1.cell 0; have k2 := H4.out.b2.cell 0; have k3 := H4.out.b3.cell 0; have f1 := H4.out.b1.frozen 0; have f2 := H4.out.b2.frozen 0; have f3 := H4.out.b3.frozen 0
  simp only [List.getElem?_toArray, List.getElem?_cons_zero] at k0 k1 k2 k3
  have H5 := Lib.hid (((H4.out.drewN d).set7 (.int .i64 N)).set8 (.int .i64 0))
  clear H4 HLen
  go_wp2_with fail
  generalize ((w0.drewN d).setCell ⟨g + 1 + 1, 0, none⟩ (.int .i64 (N : Int))).setCell ⟨g + 1 + 1 + 1, 0, none⟩ (.int .i64 0) = w2 at *
  clear k0 k1 k2 k3 f1 f2 f3
  refine (HCk.out w2 H5.out.bel).mono ?_
  rintro e w3 ⟨rfl, hb⟩
  have H6 := Lib.hid (H5.out.later hb)
  clear hb H5 HCk
  have k0 := H6.out.b0.cell 0; have k1 := H6.out.b1.cell 0; have k2 := H6.out.b2.cell 0; have k3 := H6.out.b3.cell 0; have f1 := H6.out.b1.frozen 0; have f2 := H6.out.b2.frozen 0; have f3 := H6.out.b3.frozen 0
  simp only [List.getElem?_toArray, List.getElem?_cons_zero] at k0 k1 k2 k3
  have H9 := Lib.hid ((((H6.out.set6 (.int .u32 0)).set7 (.int .i64 0)).set8 (.int .i64 26)))
  go_wp2_with fail
  generalize ((w3.setCell ⟨g + 1, 0, none⟩ (.int .u32 0)).setCell ⟨g + 1 + 1, 0, none⟩ (.int .i64 0)).setCell ⟨g + 1 + 1 + 1, 0, none⟩ (.int .i64 26) = W9 at *
  exact ⟨_, op_results H9.out rfl rfl rfl, rfl, by rw [hs0]; exact H9.out.bel⟩
set_option maxRecDepth 100000 in
set_option maxHeartbeats 4000000 in
theorem open_kind
    (A KA : Option Addr) (n c m kc : Nat) (xs : List Int) (L : List AK) (now : Int) (w : World) (hx : Reads w w.heap.size 1 A n (u8s xs)) (ho : Oct xs) (hc : n ≤ c) (hm : c ≤ 9223372036854775807) (hn : n ≤ 1099511627000)
    (hL : Keys w KA m L) (hkc : m ≤ kc) (hkm : kc ≤ 9223372036854775807)
    (N : Nat) (K K0 : Int) (h0 : 0 < m) (hp : pkLen xs = ((N : Int), 0)) (hck : checkOf L = (0, 0)) (hpk : pkKind xs = K) (hkd : kind0 L = K0) (hK : K ≠ K0) :
    Calls Try.prog 27 #[.slice A n c, .slice KA m kc, .int .i64 now] w fun e w' => e = .returned (.tuple #[.int .u32 0, .int .i64 0, .int .i64 25]) ∧ Below w.heap.size w w' := by
  obtain ⟨h24, hNn⟩ := pkLen_ok (xs := xs) (by rw [hp])
  rw [hp] at h24 hNn
  simp only at h24 hNn
  rw [hx.u8len] at hNn
  have HLen : Hid (∀ W : World, Below w.heap.size w W → Calls Try.prog 15 #[.slice A n c] W fun e w' => PkAt W w' ((N : Int), 0) e) := fun W hb => by
    have := length_any A n c xs W W.heap.size (hx.later hb) ho hc hm
    rwa [hp] at this
  have HCk : Hid (∀ W : World, Below w.heap.size w W → Calls Try.prog 25 #[.slice KA m kc] W fun e w' => CkAt W w' (0, 0) e) := fun W hb => by
    have := check_any KA m kc L W (hL.later hb) hkc (by omega)
    rwa [hck] at this
  have HKd : Hid (∀ W : World, Below w.heap.size w W → Calls Try.prog 71 #[.slice A n c] W fun e w' => e = .returned (.int .u16 K) ∧ ∃ k, w' = W.drewN k) := fun W hb => by
    have := kind_any A n c xs W W.heap.size (hx.later hb) ho (by omega) hc hm
    rwa [hpk] at this
  obtain ⟨kad, rfl⟩ : ∃ ad, KA = some ad := by obtain ⟨ad, e, _⟩ := hL.row.2 (by omega); exact ⟨ad, e⟩
  have HF1 : Hid (∀ W : World, Below w.heap.size w W → W.cell? ⟨kad.block, kad.off + 1, none⟩ = some (.int .u16 K0)) := fun W hb => by
    have := (hL.later hb).first h0
    rwa [hkd] at this
  have hK' : (K == K0) = false := by simpa using hK
  have hK'' : (K != K0) = true := by simpa using hK
  have hm0 : (0 : Int) < (m : Int) := by omega
  clear hx ho hL hp hck hpk hkd hK
  have H4 := Lib.hid (four_new w (.slice A n c))
  refine (callsIn_wide (n := 6)).1 (callsIn_of_wp_marks Try.func27 rfl trivial ?_ rfl)
  simp only [Try.ntmps27, List.size_toArray, List.length_cons, List.length_nil, Nat.reduceAdd, Nat.reduceSub, Array.replicate_succ, Array.replicate_zero, List.push_toArray, List.append_toArray, List.nil_append, List.cons_append]
  refine wpIn_wide.2 ?_
  go_wp2_with fail
  generalize (((w.alloc (.cells #[.slice A n c] 39)).alloc (.cells #[.int .u32 0] 22)).alloc (.cells #[.int .i64 0] 3)).alloc (.cells #[.int .i64 0] 40) = w0 at *
  generalize hs0 : w.heap.size = g at *
  refine (HLen.out w0 H4.out.bel).mono ?_
  rintro e w1 ⟨rfl, d, rfl⟩
  have k0 := H4.out.b0.cell 0; have k1 := H4.out.b1.cell 0; have k2 := H4.out.b2.cell 0; have k3 := H4.out.b3.cell 0; have f1 := H4.out.b1.frozen 0; have f2 := H4.out.b2.frozen 0; have f3 := H4.out.b3.frozen 0
  simp only [List.getElem?_toArray, List.getElem?_cons_zero] at k0 k1 k2 k3
  have H5 := Lib.hid (((H4.out.drewN d).set7 (.int .i64 N)).set8 (.int .i64 0))
  clear H4 HLen
  go_wp2_with fail
  generalize ((w0.drewN d).setCell ⟨g + 1 + 1, 0, none⟩ (.int .i64 (N : Int))).setCell ⟨g + 1 + 1 + 1, 0, none⟩ (.int .i64 0) = w2 at *
  clear k0 k1 k2 k3 f1 f2 f3
  refine (HCk.out w2 H5.out.bel).mono ?_
  rintro e w3 ⟨rfl, hb⟩
  have H6 := Lib.hid (H5.out.later hb)
  clear hb H5 HCk
  have k0 := H6.out.b0.cell 0; have k1 := H6.out.b1.cell 0; have k2 := H6.out.b2.cell 0; have k3 := H6.out.b3.cell 0; have f1 := H6.out.b1.frozen 0; have f2 := H6.out.b2.frozen 0; have f3 := H6.out.b3.frozen 0
  simp only [List.getElem?_toArray, List.getElem?_cons_zero] at k0 k1 k2 k3
  have q1 := HF1.out w3 H6.out.bel
  go_wp2_with fail
  refine (HKd.out w3 H6.out.bel).mono ?_
  rintro e w4 ⟨rfl, d4, hw4⟩
  have H7 := Lib.hid (H6.out.drewN d4)
  rw [← hw4] at H7
  clear H6 HKd HF1 q1 hw4 k0 k1 k2 k3 f1 f2 f3
  have k0 := H7.out.b0.cell 0; have k1 := H7.out.b1.cell 0; have k2 := H7.out.b2.cell 0; have k3 := H7.out.b3.cell 0; have f1 := H7.out.b1.frozen 0; have f2 := H7.out.b2.frozen 0; have f3 := H7.out.b3.frozen 0
  simp only [List.getElem?_toArray, List.getElem?_cons_zero] at k0 k1 k2 k3
  have H9 := Lib.hid ((((H7.out.set6 (.int .u32 0)).set7 (.int .i64 0)).set8 (.int .i64 25)))
  go_wp2_with fail
  generalize ((w4.setCell ⟨g + 1, 0, none⟩ (.int .u32 0)).setCell ⟨g + 1 + 1, 0, none⟩ (.int .i64 0)).setCell ⟨g + 1 + 1 + 1, 0, none⟩ (.int .i64 25) = W9 at *
  exact ⟨_, op_results H9.out rfl rfl rfl, rfl, by rw [hs0]; exact H9.out.bel⟩
set_option maxRecDepth 100000 in
set_option maxHeartbeats 4000000 in
theorem open_kind0
    (A KA : Option Addr) (n c m kc : Nat) (xs : List Int) (L : List AK) (now : Int) (w : World) (hx : Reads w w.heap.size 1 A n (u8s xs)) (ho : Oct xs) (hc : n ≤ c) (hm : c ≤ 9223372036854775807) (hn : n ≤ 1099511627000)
    (hL : Keys w KA m L) (hkc : m ≤ kc) (hkm : kc ≤ 9223372036854775807)
    (N : Nat) (K : Int) (h0 : m = 0) (hp : pkLen xs = ((N : Int), 0)) (hpk : pkKind xs = K) (hK : K ≠ 0) :
    Calls Try.prog 27 #[.slice A n c, .slice KA m kc, .int .i64 now] w fun e w' => e = .returned (.tuple #[.int .u32 0, .int .i64 0, .int .i64 25]) ∧ Below w.heap.size w w' := by
  obtain ⟨h24, hNn⟩ := pkLen_ok (xs := xs) (by rw [hp])
  rw [hp] at h24 hNn
  simp only at h24 hNn
  rw [hx.u8len] at hNn
  have HLen : Hid (∀ W : World, Below w.heap.size w W → Calls Try.prog 15 #[.slice A n c] W fun e w' => PkAt W w' ((N : Int), 0) e) := fun W hb => by
    have := length_any A n c xs W W.heap.size (hx.later hb) ho hc hm
    rwa [hp] at this
  have HKd : Hid (∀ W : World, Below w.heap.size w W → Calls Try.prog 71 #[.slice A n c] W fun e w' => e = .returned (.int .u16 K) ∧ ∃ k, w' = W.drewN k) := fun W hb => by
    have := kind_any A n c xs W W.heap.size (hx.later hb) ho (by omega) hc hm
    rwa [hpk] at this
  have hK' : (K == 0) = false := by simpa using hK
  have hK'' : (K != 0) = true := by simpa using hK
  clear hx ho hL hp hpk hK
  have H4 := Lib.hid (four_new w (.slice A n c))
  refine (callsIn_wide (n := 6)).1 (callsIn_of_wp_marks Try.func27 rfl trivial ?_ rfl)
  simp only [Try.ntmps27, List.size_toArray, List.length_cons, List.length_nil, Nat.reduceAdd, Nat.reduceSub, Array.replicate_succ, Array.replicate_zero, List.push_toArray, List.append_toArray, List.nil_append, List.cons_append]
  refine wpIn_wide.2 ?_
  go_wp2_with fail
  generalize (((w.alloc (.cells #[.slice A n c] 39)).alloc (.cells #[.int .u32 0] 22)).alloc (.cells #[.int .i64 0] 3)).alloc (.cells #[.int .i64 0] 40) = w0 at *
  generalize hs0 : w.heap.size = g at *
  refine (HLen.out w0 H4.out.bel).mono ?_
  rintro e w1 ⟨rfl, d, rfl⟩
  have k0 := H4.out.b0.cell 0; have k1 := H4.out.b1.cell 0; have k2 := H4.out.b2.cell 0; have k3 := H4.out.b3.cell 0; have f1 := H4.out.b1.frozen 0; have f2 := H4.out.b2.frozen 0; have f3 := H4.out.b3.frozen 0
  simp only [List.getElem?_toArray, List.getElem?_cons_zero] at k0 k1 k2 k3
  have H5 := Lib.hid (((H4.out.drewN d).set7 (.int .i64 N)).set8 (.int .i64 0))
  clear H4 HLen
  subst h0
  go_wp2_with fail
  generalize ((w0.drewN d).setCell ⟨g + 1 + 1, 0, none⟩ (.int .i64 (N : Int))).setCell ⟨g + 1 + 1 + 1, 0, none⟩ (.int .i64 0) = w2 at *
  refine (HKd.out w2 H5.out.bel).mono ?_
  rintro e w4 ⟨rfl, d4, hw4⟩
  have H7 := Lib.hid (H5.out.drewN d4)
  rw [← hw4] at H7
  clear H5 HKd hw4 k0 k1 k2 k3 f1 f2 f3
  have k0 := H7.out.b0.cell 0; have k1 := H7.out.b1.cell 0; have k2 := H7.out.b2.cell 0; have k3 := H7.out.b3.cell 0; have f1 := H7.out.b1.frozen 0; have f2 := H7.out.b2.frozen 0; have f3 := H7.out.b3.frozen 0
  simp only [List.getElem?_toArray, List.getElem?_cons_zero] at k0 k1 k2 k3
  have H9 := Lib.hid ((((H7.out.set6 (.int .u32 0)).set7 (.int .i64 0)).set8 (.int .i64 25)))
  go_wp2_with fail
  generalize ((w4.setCell ⟨g + 1, 0, none⟩ (.int .u32 0)).setCell ⟨g + 1 + 1, 0, none⟩ (.int .i64 0)).setCell ⟨g + 1 + 1 + 1, 0, none⟩ (.int .i64 25) = W9 at *
  exact ⟨_, op_results H9.out rfl rfl rfl, rfl, by rw [hs0]; exact H9.out.bel⟩
set_option maxRecDepth 100000 in
set_option maxHeartbeats 4000000 in
theorem open_dig
    (A KA : Option Addr) (n c m kc : Nat) (xs : List Int) (L : List AK) (now : Int) (w : World) (hx : Reads w w.heap.size 1 A n (u8s xs)) (ho : Oct xs) (hc : n ≤ c) (hm : c ≤ 9223372036854775807) (hn : n ≤ 1099511627000)
    (hL : Keys w KA m L) (hkc : m ≤ kc) (hkm : kc ≤ 9223372036854775807)
    (N : Nat) (q1 q2 q3 : Int) (h0 : 0 < m) (hp : pkLen xs = ((N : Int), 0)) (hck : checkOf L = (0, 0)) (hpk : pkKind xs = 2) (hkd : kind0 L = 2) (hdg : digOf xs N L now = (q1, q2, q3)) :
    Calls Try.prog 27 #[.slice A n c, .slice KA m kc, .int .i64 now] w fun e w' => e = .returned (.tuple #[.int .u32 q1, .int .i64 q2, .int .i64 q3]) ∧ Below w.heap.size w w' := by
  obtain ⟨h24, hNn⟩ := pkLen_ok (xs := xs) (by rw [hp])
  rw [hp] at h24 hNn
  simp only at h24 hNn
  rw [hx.u8len] at hNn
  have HLen : Hid (∀ W : World, Below w.heap.size w W → Calls Try.prog 15 #[.slice A n c] W fun e w' => PkAt W w' ((N : Int), 0) e) := fun W hb => by
    have := length_any A n c xs W W.heap.size (hx.later hb) ho hc hm
    rwa [hp] at this
  have HCk : Hid (∀ W : World, Below w.heap.size w W → Calls Try.prog 25 #[.slice KA m kc] W fun e w' => CkAt W w' (0, 0) e) := fun W hb => by
    have := check_any KA m kc L W (hL.later hb) hkc (by omega)
    rwa [hck] at this
  have HKd : Hid (∀ W : World, Below w.heap.size w W → Calls Try.prog 71 #[.slice A n c] W fun e w' => e = .returned (.int .u16 2) ∧ ∃ k, w' = W.drewN k) := fun W hb => by
    have := kind_any A n c xs W W.heap.size (hx.later hb) ho (by omega) hc hm
    rwa [hpk] at this
  have HDg : Hid (∀ W : World, Below w.heap.size w W → Calls Try.prog 76 #[.slice A n c, .int .i64 (N : Int), .slice KA m kc, .int .i64 now] W fun e w' => DgAt W w' (q1, q2, q3) e) := fun W hb => by
    have := odig_any A KA n c m kc N xs L now W (hx.later hb) ho hc hm hn (hL.later hb) hkc hkm (by omega) (by omega)
    rwa [hdg] at this
  obtain ⟨kad, rfl⟩ : ∃ ad, KA = some ad := by obtain ⟨ad, e, _⟩ := hL.row.2 (by omega); exact ⟨ad, e⟩
  have HF1 : Hid (∀ W : World, Below w.heap.size w W → W.cell? ⟨kad.block, kad.off + 1, none⟩ = some (.int .u16 2)) := fun W hb => by
    have := (hL.later hb).first h0
    rwa [hkd] at this
  have hm0 : (0 : Int) < (m : Int) := by omega
  clear hx ho hL hp hck hpk hkd hdg
  have H4 := Lib.hid (four_new w (.slice A n c))
  refine (callsIn_wide (n := 6)).1 (callsIn_of_wp_marks Try.func27 rfl trivial ?_ rfl)
  simp only [Try.ntmps27, List.size_toArray, List.length_cons, List.length_nil, Nat.reduceAdd, Nat.reduceSub, Array.replicate_succ, Array.replicate_zero, List.push_toArray, List.append_toArray, List.nil_append, List.cons_append]
  refine wpIn_wide.2 ?_
  go_wp2_with fail
  generalize (((w.alloc (.cells #[.slice A n c] 39)).alloc (.cells #[.int .u32 0] 22)).alloc (.cells #[.int .i64 0] 3)).alloc (.cells #[.int .i64 0] 40) = w0 at *
  generalize hs0 : w.heap.size = g at *
  refine (HLen.out w0 H4.out.bel).mono ?_
  rintro e w1 ⟨rfl, d, rfl⟩
  have k0 := H4.out.b0.cell 0; have k1 := H4.out.b1.cell 0; have k2 := H4.out.b2.cell 0; have k3 := H4.out.b3.cell 0; have f1 := H4.out.b1.frozen 0; have f2 := H4.out.b2.frozen 0; have f3 := H4.out.b3.frozen 0
  simp only [List.getElem?_toArray, List.getElem?_cons_zero] at k0 k1 k2 k3
  have H5 := Lib.hid (((H4.out.drewN d).set7 (.int .i64 N)).set8 (.int .i64 0))
  clear H4 HLen
  go_wp2_with fail
  generalize ((w0.drewN d).setCell ⟨g + 1 + 1, 0, none⟩ (.int .i64 (N : Int))).setCell ⟨g + 1 + 1 + 1, 0, none⟩ (.int .i64 0) = w2 at *
  clear k0 k1 k2 k3 f1 f2 f3
  refine (HCk.out w2 H5.out.bel).mono ?_
  rintro e w3 ⟨rfl, hb⟩
  have H6 := Lib.hid (H5.out.later hb)
  clear hb H5 HCk
  have k0 := H6.out.b0.cell 0; have k1 := H6.out.b1.cell 0; have k2 := H6.out.b2.cell 0; have k3 := H6.out.b3.cell 0; have f1 := H6.out.b1.frozen 0; have f2 := H6.out.b2.frozen 0; have f3 := H6.out.b3.frozen 0
  simp only [List.getElem?_toArray, List.getElem?_cons_zero] at k0 k1 k2 k3
  have s1 := HF1.out w3 H6.out.bel
  go_wp2_with fail
  refine (HKd.out w3 H6.out.bel).mono ?_
  rintro e w4 ⟨rfl, d4, hw4⟩
  have H7 := Lib.hid (H6.out.drewN d4)
  rw [← hw4] at H7
  clear H6 HKd HF1 s1 hw4 k0 k1 k2 k3 f1 f2 f3
  have k0 := H7.out.b0.cell 0; have k1 := H7.out.b1.cell 0; have k2 := H7.out.b2.cell 0; have k3 := H7.out.b3.cell 0; have f1 := H7.out.b1.frozen 0; have f2 := H7.out.b2.frozen 0; have f3 := H7.out.b3.frozen 0
  simp only [List.getElem?_toArray, List.getElem?_cons_zero] at k0 k1 k2 k3
  go_wp2_with fail
  refine (HDg.out w4 H7.out.bel).mono ?_
  rintro e w5 ⟨rfl, hb⟩
  have H8 := Lib.hid (H7.out.later hb)
  clear hb H7 HDg k0 k1 k2 k3 f1 f2 f3
  have k0 := H8.out.b0.cell 0; have k1 := H8.out.b1.cell 0; have k2 := H8.out.b2.cell 0; have k3 := H8.out.b3.cell 0; have f1 := H8.out.b1.frozen 0; have f2 := H8.out.b2.frozen 0; have f3 := H8.out.b3.frozen 0
  simp only [List.getElem?_toArray, List.getElem?_cons_zero] at k0 k1 k2 k3
  have H9 := Lib.hid ((((H8.out.set6 (.int .u32 q1)).set7 (.int .i64 q2)).set8 (.int .i64 q3)))
  go_wp2_with fail
  generalize ((w5.setCell ⟨g + 1, 0, none⟩ (.int .u32 q1)).setCell ⟨g + 1 + 1, 0, none⟩ (.int .i64 q2)).setCell ⟨g + 1 + 1 + 1, 0, none⟩ (.int .i64 q3) = W9 at *
  exact ⟨_, op_results H9.out rfl rfl rfl, rfl, by rw [hs0]; exact H9.out.bel⟩
set_option maxRecDepth 100000 in
set_option maxHeartbeats 4000000 in
theorem open_whole0
    (A KA : Option Addr) (n c m kc : Nat) (xs : List Int) (L : List AK) (now : Int) (w : World) (hx : Reads w w.heap.size 1 A n (u8s xs)) (ho : Oct xs) (hc : n ≤ c) (hm : c ≤ 9223372036854775807) (hn : n ≤ 1099511627000)
    (hL : Keys w KA m L) (hkc : m ≤ kc) (hkm : kc ≤ 9223372036854775807)
    (N : Nat) (E : Int) (h0 : m = 0) (hp : pkLen xs = ((N : Int), 0)) (hpk : pkKind xs = 0) (hwh : wholeOf xs N = E) (hE : E ≠ 0) :
    Calls Try.prog 27 #[.slice A n c, .slice KA m kc, .int .i64 now] w fun e w' => e = .returned (.tuple #[.int .u32 0, .int .i64 0, .int .i64 E]) ∧ Below w.heap.size w w' := by
  obtain ⟨h24, hNn⟩ := pkLen_ok (xs := xs) (by rw [hp])
  rw [hp] at h24 hNn
  simp only at h24 hNn
  rw [hx.u8len] at hNn
  have HLen : Hid (∀ W : World, Below w.heap.size w W → Calls Try.prog 15 #[.slice A n c] W fun e w' => PkAt W w' ((N : Int), 0) e) := fun W hb => by
    have := length_any A n c xs W W.heap.size (hx.later hb) ho hc hm
    rwa [hp] at this
  have HKd : Hid (∀ W : World, Below w.heap.size w W → Calls Try.prog 71 #[.slice A n c] W fun e w' => e = .returned (.int .u16 0) ∧ ∃ k, w' = W.drewN k) := fun W hb => by
    have := kind_any A n c xs W W.heap.size (hx.later hb) ho (by omega) hc hm
    rwa [hpk] at this
  have HWh : Hid (∀ W : World, Below w.heap.size w W → Calls Try.prog 72 #[.slice A n c, .int .i64 (N : Int)] W fun e w' => e = .returned (.int .i64 E) ∧ Below W.heap.size W w') := fun W hb => by
    have := awhole_any A n c xs N W (hx.later hb) ho hc hm (by omega)
    rwa [hwh] at this
  have hE' : (E == 0) = false := by simpa using hE
  have hE'' : (E != 0) = true := by simpa using hE
  clear hx ho hL hp hpk hwh hE
  have H4 := Lib.hid (four_new w (.slice A n c))
  refine (callsIn_wide (n := 6)).1 (callsIn_of_wp_marks Try.func27 rfl trivial ?_ rfl)
  simp only [Try.ntmps27, List.size_toArray, List.length_cons, List.length_nil, Nat.reduceAdd, Nat.reduceSub, Array.replicate_succ, Array.replicate_zero, List.push_toArray, List.append_toArray, List.nil_append, List.cons_append]
  refine wpIn_wide.2 ?_
  go_wp2_with fail
  generalize (((w.alloc (.cells #[.slice A n c] 39)).alloc (.cells #[.int .u32 0] 22)).alloc (.cells #[.int .i64 0] 3)).alloc (.cells #[.int .i64 0] 40) = w0 at *
  generalize hs0 : w.heap.size = g at *
  refine (HLen.out w0 H4.out.bel).mono ?_
  rintro e w1 ⟨rfl, d, rfl⟩
  have k0 := H4.out.b0.cell 0; have k1 := H4.out.b1.cell 0; have k2 := H4.out.b2.cell 0; have k3 := H4.out.b3.cell 0; have f1 := H4.out.b1.frozen 0; have f2 := H4.out.b2.frozen 0; have f3 := H4.out.b3.frozen 0
  simp only [List.getElem?_toArray, List.getElem?_cons_zero] at k0 k1 k2 k3
  have H5 := Lib.hid (((H4.out.drewN d).set7 (.int .i64 N)).set8 (.int .i64 0))
  clear H4 HLen
  subst h0
  go_wp2_with fail
  generalize ((w0.drewN d).setCell ⟨g + 1 + 1, 0, none⟩ (.int .i64 (N : Int))).setCell ⟨g + 1 + 1 + 1, 0, none⟩ (.int .i64 0) = w2 at *
  refine (HKd.out w2 H5.out.bel).mono ?_
  rintro e w4 ⟨rfl, d4, hw4⟩
  have H7 := Lib.hid (H5.out.drewN d4)
  rw [← hw4] at H7
  clear H5 HKd hw4 k0 k1 k2 k3 f1 f2 f3
  have k0 := H7.out.b0.cell 0; have k1 := H7.out.b1.cell 0; have k2 := H7.out.b2.cell 0; have k3 := H7.out.b3.cell 0; have f1 := H7.out.b1.frozen 0; have f2 := H7.out.b2.frozen 0; have f3 := H7.out.b3.frozen 0
  simp only [List.getElem?_toArray, List.getElem?_cons_zero] at k0 k1 k2 k3
  go_wp2_with fail
  refine (HWh.out w4 H7.out.bel).mono ?_
  rintro e w5 ⟨rfl, hb⟩
  have H8 := Lib.hid (H7.out.later hb)
  clear hb H7 HWh k0 k1 k2 k3 f1 f2 f3
  have k0 := H8.out.b0.cell 0; have k1 := H8.out.b1.cell 0; have k2 := H8.out.b2.cell 0; have k3 := H8.out.b3.cell 0; have f1 := H8.out.b1.frozen 0; have f2 := H8.out.b2.frozen 0; have f3 := H8.out.b3.frozen 0
  simp only [List.getElem?_toArray, List.getElem?_cons_zero] at k0 k1 k2 k3
  have H9 := Lib.hid ((((H8.out.set6 (.int .u32 0)).set7 (.int .i64 0)).set8 (.int .i64 E)))
  go_wp2_with fail
  generalize ((w5.setCell ⟨g + 1, 0, none⟩ (.int .u32 0)).setCell ⟨g + 1 + 1, 0, none⟩ (.int .i64 0)).setCell ⟨g + 1 + 1 + 1, 0, none⟩ (.int .i64 E) = W9 at *
  exact ⟨_, op_results H9.out rfl rfl rfl, rfl, by rw [hs0]; exact H9.out.bel⟩
set_option maxRecDepth 100000 in
set_option maxHeartbeats 4000000 in
theorem open_whole
    (A KA : Option Addr) (n c m kc : Nat) (xs : List Int) (L : List AK) (now : Int) (w : World) (hx : Reads w w.heap.size 1 A n (u8s xs)) (ho : Oct xs) (hc : n ≤ c) (hm : c ≤ 9223372036854775807) (hn : n ≤ 1099511627000)
    (hL : Keys w KA m L) (hkc : m ≤ kc) (hkm : kc ≤ 9223372036854775807)
    (N : Nat) (E : Int) (h0 : 0 < m) (hp : pkLen xs = ((N : Int), 0)) (hck : checkOf L = (0, 0)) (hpk : pkKind xs = 1) (hkd : kind0 L = 1) (hwh : wholeOf xs N = E) (hE : E ≠ 0) :
    Calls Try.prog 27 #[.slice A n c, .slice KA m kc, .int .i64 now] w fun e w' => e = .returned (.tuple #[.int .u32 0, .int .i64 0, .int .i64 E]) ∧ Below w.heap.size w w' := by
  obtain ⟨h24, hNn⟩ := pkLen_ok (xs := xs) (by rw [hp])
  rw [hp] at h24 hNn
  simp only at h24 hNn
  rw [hx.u8len] at hNn
  have HLen : Hid (∀ W : World, Below w.heap.size w W → Calls Try.prog 15 #[.slice A n c] W fun e w' => PkAt W w' ((N : Int), 0) e) := fun W hb => by
    have := length_any A n c xs W W.heap.size (hx.later hb) ho hc hm
    rwa [hp] at this
  have HCk : Hid (∀ W : World, Below w.heap.size w W → Calls Try.prog 25 #[.slice KA m kc] W fun e w' => CkAt W w' (0, 0) e) := fun W hb => by
    have := check_any KA m kc L W (hL.later hb) hkc (by omega)
    rwa [hck] at this
  have HKd : Hid (∀ W : World, Below w.heap.size w W → Calls Try.prog 71 #[.slice A n c] W fun e w' => e = .returned (.int .u16 1) ∧ ∃ k, w' = W.drewN k) := fun W hb => by
    have := kind_any A n c xs W W.heap.size (hx.later hb) ho (by omega) hc hm
    rwa [hpk] at this
  have HWh : Hid (∀ W : World, Below w.heap.size w W → Calls Try.prog 72 #[.slice A n c, .int .i64 (N : Int)] W fun e w' => e = .returned (.int .i64 E) ∧ Below W.heap.size W w') := fun W hb => by
    have := awhole_any A n c xs N W (hx.later hb) ho hc hm (by omega)
    rwa [hwh] at this
  obtain ⟨kad, rfl⟩ : ∃ ad, KA = some ad := by obtain ⟨ad, e, _⟩ := hL.row.2 (by omega); exact ⟨ad, e⟩
  have HF1 : Hid (∀ W : World, Below w.heap.size w W → W.cell? ⟨kad.block, kad.off + 1, none⟩ = some (.int .u16 1)) := fun W hb => by
    have := (hL.later hb).first h0
    rwa [hkd] at this
  have hE' : (E == 0) = false := by simpa using hE
  have hE'' : (E != 0) = true := by simpa using hE
  have hm0 : (0 : Int) < (m : Int) := by omega
  clear hx ho hL hp hck hpk hkd hwh hE
  have H4 := Lib.hid (four_new w (.slice A n c))
  refine (callsIn_wide (n := 6)).1 (callsIn_of_wp_marks Try.func27 rfl trivial ?_ rfl)
  simp only [Try.ntmps27, List.size_toArray, List.length_cons, List.length_nil, Nat.reduceAdd, Nat.reduceSub, Array.replicate_succ, Array.replicate_zero, List.push_toArray, List.append_toArray, List.nil_append, List.cons_append]
  refine wpIn_wide.2 ?_
  go_wp2_with fail
  generalize (((w.alloc (.cells #[.slice A n c] 39)).alloc (.cells #[.int .u32 0] 22)).alloc (.cells #[.int .i64 0] 3)).alloc (.cells #[.int .i64 0] 40) = w0 at *
  generalize hs0 : w.heap.size = g at *
  refine (HLen.out w0 H4.out.bel).mono ?_
  rintro e w1 ⟨rfl, d, rfl⟩
  have k0 := H4.out.b0.cell 0; have k1 := H4.out.b1.cell 0; have k2 := H4.out.b2.cell 0; have k3 := H4.out.b3.cell 0; have f1 := H4.out.b1.frozen 0; have f2 := H4.out.b2.frozen 0; have f3 := H4.out.b3.frozen 0
  simp only [List.getElem?_toArray, List.getElem?_cons_zero] at k0 k1 k2 k3
  have H5 := Lib.hid (((H4.out.drewN d).set7 (.int .i64 N)).set8 (.int .i64 0))
  clear H4 HLen
  go_wp2_with fail
  generalize ((w0.drewN d).setCell ⟨g + 1 + 1, 0, none⟩ (.int .i64 (N : Int))).setCell ⟨g + 1 + 1 + 1, 0, none⟩ (.int .i64 0) = w2 at *
  clear k0 k1 k2 k3 f1 f2 f3
  refine (HCk.out w2 H5.out.bel).mono ?_
  rintro e w3 ⟨rfl, hb⟩
  have H6 := Lib.hid (H5.out.later hb)
  clear hb H5 HCk
  have k0 := H6.out.b0.cell 0; have k1 := H6.out.b1.cell 0; have k2 := H6.out.b2.cell 0; have k3 := H6.out.b3.cell 0; have f1 := H6.out.b1.frozen 0; have f2 := H6.out.b2.frozen 0; have f3 := H6.out.b3.frozen 0
  simp only [List.getElem?_toArray, List.getElem?_cons_zero] at k0 k1 k2 k3
  have q1 := HF1.out w3 H6.out.bel
  go_wp2_with fail
  refine (HKd.out w3 H6.out.bel).mono ?_
  rintro e w4 ⟨rfl, d4, hw4⟩
  have H7 := Lib.hid (H6.out.drewN d4)
  rw [← hw4] at H7
  clear H6 HKd HF1 q1 hw4 k0 k1 k2 k3 f1 f2 f3
  have k0 := H7.out.b0.cell 0; have k1 := H7.out.b1.cell 0; have k2 := H7.out.b2.cell 0; have k3 := H7.out.b3.cell 0; have f1 := H7.out.b1.frozen 0; have f2 := H7.out.b2.frozen 0; have f3 := H7.out.b3.frozen 0
  simp only [List.getElem?_toArray, List.getElem?_cons_zero] at k0 k1 k2 k3
  go_wp2_with fail
  refine (HWh.out w4 H7.out.bel).mono ?_
  rintro e w5 ⟨rfl, hb⟩
  have H8 := Lib.hid (H7.out.later hb)
  clear hb H7 HWh k0 k1 k2 k3 f1 f2 f3
  have k0 := H8.out.b0.cell 0; have k1 := H8.out.b1.cell 0; have k2 := H8.out.b2.cell 0; have k3 := H8.out.b3.cell 0; have f1 := H8.out.b1.frozen 0; have f2 := H8.out.b2.frozen 0; have f3 := H8.out.b3.frozen 0
  simp only [List.getElem?_toArray, List.getElem?_cons_zero] at k0 k1 k2 k3
  have H9 := Lib.hid ((((H8.out.set6 (.int .u32 0)).set7 (.int .i64 0)).set8 (.int .i64 E)))
  go_wp2_with fail
  generalize ((w5.setCell ⟨g + 1, 0, none⟩ (.int .u32 0)).setCell ⟨g + 1 + 1, 0, none⟩ (.int .i64 0)).setCell ⟨g + 1 + 1 + 1, 0, none⟩ (.int .i64 E) = W9 at *
  exact ⟨_, op_results H9.out rfl rfl rfl, rfl, by rw [hs0]; exact H9.out.bel⟩
set_option maxRecDepth 100000 in
set_option maxHeartbeats 4000000 in
theorem open_null
    (A KA : Option Addr) (n c m kc : Nat) (xs : List Int) (L : List AK) (now : Int) (w : World) (hx : Reads w w.heap.size 1 A n (u8s xs)) (ho : Oct xs) (hc : n ≤ c) (hm : c ≤ 9223372036854775807) (hn : n ≤ 1099511627000)
    (hL : Keys w KA m L) (hkc : m ≤ kc) (hkm : kc ≤ 9223372036854775807)
    (N : Nat) (h0 : m = 0) (hp : pkLen xs = ((N : Int), 0)) (hpk : pkKind xs = 0) (hwh : wholeOf xs N = 0) :
    Calls Try.prog 27 #[.slice A n c, .slice KA m kc, .int .i64 now] w fun e w' => e = .returned (.tuple #[.int .u32 0, .int .i64 N, .int .i64 0]) ∧ Below w.heap.size w w' := by
  obtain ⟨h24, hNn⟩ := pkLen_ok (xs := xs) (by rw [hp])
  rw [hp] at h24 hNn
  simp only at h24 hNn
  rw [hx.u8len] at hNn
  have HLen : Hid (∀ W : World, Below w.heap.size w W → Calls Try.prog 15 #[.slice A n c] W fun e w' => PkAt W w' ((N : Int), 0) e) := fun W hb => by
    have := length_any A n c xs W W.heap.size (hx.later hb) ho hc hm
    rwa [hp] at this
  have HKd : Hid (∀ W : World, Below w.heap.size w W → Calls Try.prog 71 #[.slice A n c] W fun e w' => e = .returned (.int .u16 0) ∧ ∃ k, w' = W.drewN k) := fun W hb => by
    have := kind_any A n c xs W W.heap.size (hx.later hb) ho (by omega) hc hm
    rwa [hpk] at this
  have HWh : Hid (∀ W : World, Below w.heap.size w W → Calls Try.prog 72 #[.slice A n c, .int .i64 (N : Int)] W fun e w' => e = .returned (.int .i64 0) ∧ Below W.heap.size W w') := fun W hb => by
    have := awhole_any A n c xs N W (hx.later hb) ho hc hm (by omega)
    rwa [hwh] at this
  clear hx ho hL hp hpk hwh
  have H4 := Lib.hid (four_new w (.slice A n c))
  refine (callsIn_wide (n := 6)).1 (callsIn_of_wp_marks Try.func27 rfl trivial ?_ rfl)
  simp only [Try.ntmps27, List.size_toArray, List.length_cons, List.length_nil, Nat.reduceAdd, Nat.reduceSub, Array.replicate_succ, Array.replicate_zero, List.push_toArray, List.append_toArray, List.nil_append, List.cons_append]
  refine wpIn_wide.2 ?_
  go_wp2_with fail
  generalize (((w.alloc (.cells #[.slice A n c] 39)).alloc (.cells #[.int .u32 0] 22)).alloc (.cells #[.int .i64 0] 3)).alloc (.cells #[.int .i64 0] 40) = w0 at *
  generalize hs0 : w.heap.size = g at *
  refine (HLen.out w0 H4.out.bel).mono ?_
  rintro e w1 ⟨rfl, d, rfl⟩
  have k0 := H4.out.b0.cell 0; have k1 := H4.out.b1.cell 0; have k2 := H4.out.b2.cell 0; have k3 := H4.out.b3.cell 0; have f1 := H4.out.b1.frozen 0; have f2 := H4.out.b2.frozen 0; have f3 := H4.out.b3.frozen 0
  simp only [List.getElem?_toArray, List.getElem?_cons_zero] at k0 k1 k2 k3
  have H5 := Lib.hid (((H4.out.drewN d).set7 (.int .i64 N)).set8 (.int .i64 0))
  clear H4 HLen
  subst h0
  go_wp2_with fail
  generalize ((w0.drewN d).setCell ⟨g + 1 + 1, 0, none⟩ (.int .i64 (N : Int))).setCell ⟨g + 1 + 1 + 1, 0, none⟩ (.int .i64 0) = w2 at *
  refine (HKd.out w2 H5.out.bel).mono ?_
  rintro e w4 ⟨rfl, d4, hw4⟩
  have H7 := Lib.hid (H5.out.drewN d4)
  rw [← hw4] at H7
  clear H5 HKd hw4 k0 k1 k2 k3 f1 f2 f3
  have k0 := H7.out.b0.cell 0; have k1 := H7.out.b1.cell 0; have k2 := H7.out.b2.cell 0; have k3 := H7.out.b3.cell 0; have f1 := H7.out.b1.frozen 0; have f2 := H7.out.b2.frozen 0; have f3 := H7.out.b3.frozen 0
  simp only [List.getElem?_toArray, List.getElem?_cons_zero] at k0 k1 k2 k3
  go_wp2_with fail
  refine (HWh.out w4 H7.out.bel).mono ?_
  rintro e w5 ⟨rfl, hb⟩
  have H8 := Lib.hid (H7.out.later hb)
  clear hb H7 HWh k0 k1 k2 k3 f1 f2 f3
  have k0 := H8.out.b0.cell 0; have k1 := H8.out.b1.cell 0; have k2 := H8.out.b2.cell 0; have k3 := H8.out.b3.cell 0; have f1 := H8.out.b1.frozen 0; have f2 := H8.out.b2.frozen 0; have f3 := H8.out.b3.frozen 0
  simp only [List.getElem?_toArray, List.getElem?_cons_zero] at k0 k1 k2 k3
  have H9 := Lib.hid ((((H8.out.set6 (.int .u32 0)).set7 (.int .i64 (N : Int))).set8 (.int .i64 0)).drew)
  go_wp2_with fail
  go_region
  go_wp2
  generalize (((w5.setCell ⟨g + 1, 0, none⟩ (.int .u32 0)).setCell ⟨g + 1 + 1, 0, none⟩ (.int .i64 (N : Int))).setCell ⟨g + 1 + 1 + 1, 0, none⟩ (.int .i64 0)).drew = W9 at *
  exact ⟨_, op_results H9.out rfl rfl rfl, rfl, by rw [hs0]; exact H9.out.bel⟩
theorem opOut_plOut (xs : List Int) (L : List AK) (now : Int) (N : Nat) : opOut xs L now N = plOut xs L now N := by
  have h : (takenTo L now L.length).any (fun k => pw k.1.bs == (xs.drop 16).take 8) = L.any (pwB xs now) := by
    rw [Bool.eq_iff_iff]
    simp only [List.any_eq_true]
    unfold takenTo
    rw [List.take_of_length_le (by simp)]
    constructor
    · rintro ⟨y, hy, h1⟩
      refine ⟨y.1, y.2, ?_⟩
      unfold pwB
      rw [(List.mem_filter.1 hy).2]
      simpa using h1
    · rintro ⟨k, hk, h1⟩
      unfold pwB at h1
      simp only [Bool.and_eq_true, decide_eq_true_eq] at h1
      exact ⟨⟨k, hk⟩, List.mem_filter.2 ⟨List.mem_attach _ _, h1.1⟩, by simpa using h1.2⟩
  unfold opOut plOut
  rw [h]
theorem keys_nil {w : World} {KA : Option Addr} {m : Nat} {L : List AK} (hL : Keys w KA m L) (h : m = 0) : L = [] := List.eq_nil_of_length_eq_zero (by rw [hL.len, h])
theorem pkLen_nat {xs : List Int} (h : (pkLen xs).2 = 0) : pkLen xs = (((pkLen xs).1.toNat : Int), 0) := by
  have h1 := (pkLen_ok h).1
  rw [Int.toNat_of_nonneg (by omega)]
  exact Prod.ext rfl h
theorem pkLen_bad {xs : List Int} (h : (pkLen xs).2 ≠ 0) : pkLen xs = (0, (pkLen xs).2) := by
  unfold pkLen at h ⊢
  split
  · rfl
  · split
    · rfl
    · split
      · rfl
      · split
        · rfl
        · rename_i h1 h2 h3 h4
          rw [if_neg h1, if_neg h2, if_neg h3, if_neg h4] at h
          exact absurd rfl h
section
variable {xs : List Int} {L : List AK} {now : Int} {N : Nat}
theorem oo_len (hE : (pkLen xs).2 ≠ 0) : openOf xs L now = (0, 0, (pkLen xs).2) := by unfold openOf; rw [if_pos hE]
theorem oo_chk (hp : pkLen xs = ((N : Int), 0)) (h0 : 0 < L.length) (hC : (checkOf L).1 ≠ 0) : openOf xs L now = (0, 0, 26) := by unfold openOf; rw [if_neg (by rw [hp]; simp), if_pos ⟨h0, hC⟩]
theorem oo_kind (hp : pkLen xs = ((N : Int), 0)) (hC : ¬ (0 < L.length ∧ (checkOf L).1 ≠ 0)) (hK : pkKind xs ≠ kind0 L) : openOf xs L now = (0, 0, 25) := by unfold openOf; rw [if_neg (by rw [hp]; simp), if_neg hC, if_pos hK]
theorem oo_dig (hp : pkLen xs = ((N : Int), 0)) (hC : ¬ (0 < L.length ∧ (checkOf L).1 ≠ 0)) (hK : pkKind xs = kind0 L) (h2 : kind0 L = 2) : openOf xs L now = digOf xs N L now := by unfold openOf; rw [if_neg (by rw [hp]; simp), if_neg hC, if_neg (by simp [hK]), if_pos h2, hp]; simp
theorem oo_whole (hp : pkLen xs = ((N : Int), 0)) (hC : ¬ (0 < L.length ∧ (checkOf L).1 ≠ 0)) (hK : pkKind xs = kind0 L) (h2 : kind0 L ≠ 2) (hW : wholeOf xs N ≠ 0) : openOf xs L now = (0, 0, wholeOf xs N) := by
  unfold openOf; rw [if_neg (by rw [hp]; simp), if_neg hC, if_neg (by simp [hK]), if_neg h2, hp]
  simp only
  rw [if_pos hW]
theorem oo_null (hp : pkLen xs = ((N : Int), 0)) (hC : ¬ (0 < L.length ∧ (checkOf L).1 ≠ 0)) (hK : pkKind xs = kind0 L) (h2 : kind0 L = 0) (hW : wholeOf xs N = 0) : openOf xs L now = (0, (N : Int), 0) := by
  unfold openOf; rw [if_neg (by rw [hp]; simp), if_neg hC, if_neg (by simp [hK]), if_neg (by omega), hp]
  simp only
  rw [if_neg (by omega), if_pos h2]
theorem oo_plain (hp : pkLen xs = ((N : Int), 0)) (hC : ¬ (0 < L.length ∧ (checkOf L).1 ≠ 0)) (hK : pkKind xs = kind0 L) (h2 : kind0 L = 1) (hW : wholeOf xs N = 0) : openOf xs L now = if L.any (pwB xs now) then (0, (N : Int), 0) else (0, 0, 26) := by
  unfold openOf; rw [if_neg (by rw [hp]; simp), if_neg hC, if_neg (by simp [hK]), if_neg (by omega), hp]
  simp only
  rw [if_neg (by omega), if_neg (by omega)]
theorem pl_at {w w' : World} {e : Ending} (h : e = .returned (plOut xs L now N)) (hb : Below w.heap.size w w') : DgAt w w' (if L.any (pwB xs now) then (0, (N : Int), 0) else (0, 0, 26)) e := by
  refine ⟨?_, hb⟩
  rw [h]
  unfold plOut
  split <;> rfl
end
set_option maxHeartbeats 1000000 in
theorem open_any
    (A KA : Option Addr) (n c m kc : Nat) (xs : List Int) (L : List AK) (now : Int) (w : World) (hx : Reads w w.heap.size 1 A n (u8s xs)) (ho : Oct xs) (hc : n ≤ c) (hm : c ≤ 9223372036854775807) (hn : n ≤ 1099511627000)
    (hL : Keys w KA m L) (hkc : m ≤ kc) (hkm : kc ≤ 9223372036854775807) (hkn : ∀ k ∈ L, k.n ≤ 1099511627000) :
    Calls Try.prog 27 #[.slice A n c, .slice KA m kc, .int .i64 now] w fun e w' => DgAt w w' (openOf xs L now) e := by
  by_cases hE : (pkLen xs).2 = 0
  · have hp := pkLen_nat hE
    obtain ⟨N, hN⟩ : ∃ N, N = (pkLen xs).1.toNat := ⟨_, rfl⟩
    rw [← hN] at hp
    by_cases h0 : m = 0
    · have hLn := keys_nil hL h0
      have hk0 : kind0 L = 0 := by rw [hLn]; rfl
      have hC : ¬ (0 < L.length ∧ (checkOf L).1 ≠ 0) := by rw [hLn]; simp
      by_cases hK : pkKind xs = 0
      · by_cases hW : wholeOf xs N = 0
        · exact (open_null A KA n c m kc xs L now w hx ho hc hm hn hL hkc hkm N h0 hp hK hW).mono fun e w' ⟨h1, h2⟩ => dgAt (p := (0, (N : Int), 0)) ⟨h1, h2⟩ (oo_null hp hC (hK.trans hk0.symm) hk0 hW)
        · exact (open_whole0 A KA n c m kc xs L now w hx ho hc hm hn hL hkc hkm N _ h0 hp hK rfl hW).mono fun e w' ⟨h1, h2⟩ => dgAt (p := (0, 0, wholeOf xs N)) ⟨h1, h2⟩ (oo_whole hp hC (hK.trans hk0.symm) (by omega) hW)
      · exact (open_kind0 A KA n c m kc xs L now w hx ho hc hm hn hL hkc hkm N _ h0 hp rfl hK).mono fun e w' ⟨h1, h2⟩ => dgAt (p := (0, 0, 25)) ⟨h1, h2⟩ (oo_kind hp hC (by omega))
    · have h0' : 0 < m := by omega
      have hl0 : 0 < L.length := by rw [hL.len]; exact h0'
      by_cases hC : (checkOf L).1 = 0
      · have hck := check_two hC
        have hC' : ¬ (0 < L.length ∧ (checkOf L).1 ≠ 0) := fun h => h.2 hC
        by_cases hK : pkKind xs = kind0 L
        · rcases check_kind hl0 hC with h1 | h2
          · by_cases hW : wholeOf xs N = 0
            · exact (open_plain A KA n c m kc N xs L now w hx ho hc hm (by omega) hL hkc hkm h0' hp hck h1 (hK.trans h1) hW).mono fun e w' ⟨h3, h4⟩ => dgAt (pl_at (by rw [h3, opOut_plOut]) h4) (oo_plain hp hC' hK h1 hW)
            · exact (open_whole A KA n c m kc xs L now w hx ho hc hm hn hL hkc hkm N _ h0' hp hck (hK.trans h1) h1 rfl hW).mono fun e w' ⟨h3, h4⟩ => dgAt (p := (0, 0, wholeOf xs N)) ⟨h3, h4⟩ (oo_whole hp hC' hK (by omega) hW)
          · exact (open_dig A KA n c m kc xs L now w hx ho hc hm hn hL hkc hkm N _ _ _ h0' hp hck (hK.trans h2) h2 (Prod.ext rfl (Prod.ext rfl rfl))).mono fun e w' ⟨h3, h4⟩ => dgAt (p := digOf xs N L now) ⟨h3, h4⟩ (oo_dig hp hC' hK h2)
        · exact (open_kind A KA n c m kc xs L now w hx ho hc hm hn hL hkc hkm N _ _ h0' hp hck rfl rfl hK).mono fun e w' ⟨h1, h2⟩ => dgAt (p := (0, 0, 25)) ⟨h1, h2⟩ (oo_kind hp hC' hK)
      · exact (open_chk A KA n c m kc xs L now w hx ho hc hm hn hL hkc hkm N _ _ h0' hp rfl hC).mono fun e w' ⟨h1, h2⟩ => dgAt (p := (0, 0, 26)) ⟨h1, h2⟩ (oo_chk hp hl0 hC)
  · exact (open_len A KA n c m kc xs L now w hx ho hc hm hn hL hkc hkm _ (pkLen_bad hE) hE).mono fun e w' ⟨h1, h2⟩ => dgAt (p := (0, 0, (pkLen xs).2)) ⟨h1, h2⟩ (oo_len hE)
end Go.Proofs.Ytbkejlalbjomkaa
