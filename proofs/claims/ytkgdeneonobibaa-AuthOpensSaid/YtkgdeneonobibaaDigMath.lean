/-
  The digest as the chapter lays it down, on lists of numbers (no program in sight).
-/
import Derived.Test.YtkgdeneonobibaaBase
namespace Go.Proofs.Ytkgdeneonobibaa
set_option linter.unusedVariables false

def T64 : List Int := [3614090360, 3905402710, 606105819, 3250441966, 4118548399, 1200080426, 2821735955, 4249261313, 1770035416, 2336552879, 4294925233, 2304563134, 1804603682, 4254626195, 2792965006, 1236535329, 4129170786, 3225465664, 643717713, 3921069994, 3593408605, 38016083, 3634488961, 3889429448, 568446438, 3275163606, 4107603335, 1163531501, 2850285829, 4243563512, 1735328473, 2368359562, 4294588738, 2272392833, 1839030562, 4259657740, 2763975236, 1272893353, 4139469664, 3200236656, 681279174, 3936430074, 3572445317, 76029189, 3654602809, 3873151461, 530742520, 3299628645, 4096336452, 1126891415, 2878612391, 4237533241, 1700485571, 2399980690, 4293915773, 2240044497, 1873313359, 4264355552, 2734768916, 1309151649, 4149444226, 3174756917, 718787259, 3951481745]
def By16 : List Int := [7, 12, 17, 22, 5, 9, 14, 20, 4, 11, 16, 23, 6, 10, 15, 21]
def and32 (a b : Int) : Int := bits .and .u32 a b
def or32 (a b : Int) : Int := bits .or .u32 a b
def xor32 (a b : Int) : Int := bits .xor .u32 a b
def not32 (a : Int) : Int := bits .xor .u32 4294967295 a
def rot (v : Int) (n : Nat) : Int := bits .or .u32 (v * 2 ^ n % 4294967296) (v / 2 ^ (32 - n))
def mixI (i : Nat) (b c d : Int) : Int :=
  if i < 16 then bits .or .u32 (bits .and .u32 b c) (bits .and .u32 (bits .xor .u32 4294967295 b) d)
  else if i < 32 then bits .or .u32 (bits .and .u32 d b) (bits .and .u32 (bits .xor .u32 4294967295 d) c)
  else if i < 48 then bits .xor .u32 (bits .xor .u32 b c) d
  else bits .xor .u32 c (bits .or .u32 b (bits .xor .u32 4294967295 d))
def whI (i : Nat) : Nat := if i < 16 then i else if i < 32 then (5 * i + 1) % 16 else if i < 48 then (3 * i + 5) % 16 else 7 * i % 16
def byI (i : Nat) : Nat := (By16.getD (4 * (i / 16) + i % 4) 1).toNat
/-- Four numbers, as one state. -/
structure Q4 where
  a : Int
  b : Int
  c : Int
  d : Int
def wr32 (x : Int) : Int := x % 4294967296
def stepI (M : List Int) (i : Nat) (q : Q4) : Q4 :=
  ⟨q.d, wr32 (q.b + rot (wr32 (wr32 (wr32 (q.a + mixI i q.b q.c q.d) + T64.getD i 0) + M.getD (whI i) 0)) (byI i)), q.b, q.c⟩
def iterI (M : List Int) (s : Q4) : Nat → Q4
  | 0 => s
  | n + 1 => stepI M n (iterI M s n)
/-- A number out of four bytes. -/
def word (p : List Int) (k : Nat) : Int :=
  bits .or .u32 (bits .or .u32 (bits .or .u32 (p.getD (4 * k) 0) (p.getD (4 * k + 1) 0 * 256)) (p.getD (4 * k + 2) 0 * 65536)) (p.getD (4 * k + 3) 0 * 16777216)
def words (p : List Int) : List Int := (List.range 16).map (word p)
def blk (s : Q4) (p : List Int) : Q4 :=
  let q := iterI (words p) s 64
  ⟨wr32 (s.a + q.a), wr32 (s.b + q.b), wr32 (s.c + q.c), wr32 (s.d + q.d)⟩
def U32 (x : Int) : Prop := 0 ≤ x ∧ x ≤ 4294967295
def Q4.ok (q : Q4) : Prop := U32 q.a ∧ U32 q.b ∧ U32 q.c ∧ U32 q.d
theorem wr32_ok (x : Int) : U32 (wr32 x) := by unfold U32 wr32; omega
theorem stepI_ok {M : List Int} {i : Nat} {q : Q4} (h : q.ok) : (stepI M i q).ok := ⟨h.2.2.2, wr32_ok _, h.2.1, h.2.2.1⟩
theorem iterI_ok {M : List Int} {s : Q4} (h : s.ok) : ∀ n, (iterI M s n).ok
  | 0 => h
  | n + 1 => stepI_ok (iterI_ok h n)
theorem blk_ok (s : Q4) (p : List Int) : (blk s p).ok := ⟨wr32_ok _, wr32_ok _, wr32_ok _, wr32_ok _⟩
theorem byI_table : ∀ i, i < 64 → 1 ≤ byI i ∧ byI i ≤ 31 := by decide
theorem step_a {M : List Int} {i : Nat} {q : Q4} : (stepI M i q).a = q.d := rfl
theorem step_c {M : List Int} {i : Nat} {q : Q4} : (stepI M i q).c = q.b := rfl
theorem step_d {M : List Int} {i : Nat} {q : Q4} : (stepI M i q).d = q.c := rfl
theorem step_b {M : List Int} {i : Nat} {q : Q4} {t m f : Int} (ht : T64[i]? = some t) (hm : M[whI i]? = some m) (hf : mixI i q.b q.c q.d = f) :
    (stepI M i q).b = wr32 (q.b + rot (wr32 (wr32 (wr32 (q.a + f) + t) + m)) (byI i)) := by
  simp only [stepI, List.getD, ht, hm, Option.getD_some, hf]
theorem whI_lt {i : Nat} (h : i < 64) : whI i < 16 := by unfold whI; (repeat' split) <;> omega
theorem step_eq {M : List Int} {q Q : Q4} {n : Nat} (h : Q = iterI M q n) : stepI M n Q = iterI M q (n + 1) := by rw [h]; rfl
theorem mix_at0 {j : Nat} {b c d : Int} (h : j < 16) : mixI (16 * 0 + j) b c d = mixI 0 b c d := by unfold mixI; (repeat' split) <;> first | rfl | omega
theorem mix_at1 {j : Nat} {b c d : Int} (h : j < 16) : mixI (16 * 1 + j) b c d = mixI 16 b c d := by unfold mixI; (repeat' split) <;> first | rfl | omega
theorem mix_at2 {j : Nat} {b c d : Int} (h : j < 16) : mixI (16 * 2 + j) b c d = mixI 32 b c d := by unfold mixI; (repeat' split) <;> first | rfl | omega
theorem mix_at3 {j : Nat} {b c d : Int} (h : j < 16) : mixI (16 * 3 + j) b c d = mixI 48 b c d := by unfold mixI; (repeat' split) <;> first | rfl | omega
end Go.Proofs.Ytkgdeneonobibaa
