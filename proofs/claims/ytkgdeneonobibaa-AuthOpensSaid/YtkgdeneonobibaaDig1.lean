/-
  Small functions of package digest.
-/
import Derived.Test.YtkgdeneonobibaaBits
import Derived.Test.YtkgdeneonobibaaDigMath
import Derived.Laws.Tables
import Derived.Deep.WholeRow
namespace Go.Proofs.Ytkgdeneonobibaa
set_option linter.unusedVariables false
open Go.RowKit

/-- An operation that only reckons. -/
theorem wpList_value {P : Program} {ops : Array Oper} {rest : List Oper} {o : Oper} {a : Act} {w : World} {Q : Exit → Act → World → Prop} (hg : o.guard = none) (v : Value)
    (hr : (execOp a.eval o).run P w = .ok (.value v) w) (h : wpList P ops Q rest (a.put o.dst v) w) : wpList P ops Q (o :: rest) a w :=
  wpList_plain hg fun _ hK => by
    unfold Oper.wp
    rw [hr]
    exact hK _ _ h

theorem mix0_any (b c d : Int) (w : World) : Calls Try.prog 133 #[.int .u32 b, .int .u32 c, .int .u32 d] w fun e w' => e = .returned (.int .u32 (mixI 0 b c d)) ∧ w' = w := by
  go_enter Try.func133, Try.ntmps133
  go_wp2
  go_ret
  exact ⟨rfl, rfl⟩
theorem mix1_any (b c d : Int) (w : World) : Calls Try.prog 134 #[.int .u32 b, .int .u32 c, .int .u32 d] w fun e w' => e = .returned (.int .u32 (mixI 16 b c d)) ∧ w' = w := by
  go_enter Try.func134, Try.ntmps134
  go_wp2
  go_ret
  exact ⟨rfl, rfl⟩
theorem mix2_any (b c d : Int) (w : World) : Calls Try.prog 135 #[.int .u32 b, .int .u32 c, .int .u32 d] w fun e w' => e = .returned (.int .u32 (mixI 32 b c d)) ∧ w' = w := by
  go_enter Try.func135, Try.ntmps135
  go_wp2
  go_ret
  exact ⟨rfl, rfl⟩
theorem mix3_any (b c d : Int) (w : World) : Calls Try.prog 136 #[.int .u32 b, .int .u32 c, .int .u32 d] w fun e w' => e = .returned (.int .u32 (mixI 48 b c d)) ∧ w' = w := by
  go_enter Try.func136, Try.ntmps136
  go_wp2
  go_ret
  exact ⟨rfl, rfl⟩
theorem rot_any (v : Int) (n : Nat) (w : World) (h0 : 1 ≤ n) (h1 : n ≤ 31) (hv0 : 0 ≤ v) (hv1 : v ≤ 4294967295) : Calls Try.prog 126 #[.int .u32 v, .int .i64 n] w fun e w' => e = .returned (.int .u32 (rot v n)) ∧ w' = w := by
  have e1 := u64_and_mask5 n h1
  have e2 : IntKind.u64.wrap (n : Int) = n := IntWalk.u64_in _ (by omega)
  have e3 : IntKind.u64.wrap (32 - (n : Int)) = 32 - n := IntWalk.u64_in _ (by omega)
  go_enter Try.func126, Try.ntmps126
  go_wp2
  go_ret
  exact ⟨rfl, rfl⟩

/-- The table of numbers, as cells. -/
def t64 : Array Value := (T64.map (Value.int .u32)).toArray
set_option maxRecDepth 100000 in
theorem consts_any (w : World) : Calls Try.prog 124 #[] w fun e w' => e = .returned (.agg t64) ∧ Below w.heap.size w w' := by
  go_enter Try.func124, Try.ntmps124
  go_wp2_with (first | (refine wpList_value (o := ⟨some 1, _, _, _, _, _⟩) rfl (.agg t64) (by kernel_rfl) ?_) | (refine wpList_store_row rfl 177 _ _ rfl w.heap.size t64 rfl rfl 177 _ (heap_alloc_new w _) (by kernel_rfl) (by kernel_rfl) (by kernel_rfl) ?_; rw [World.setRow_alloc_new]))
  exact bodyPost_ret (results_cell_row rfl _ _ w.heap.size 177 t64 (0, 0) _ rfl (heap_alloc_new w _) Try.underlying177 rfl (by kernel_rfl)) rfl ⟨rfl, (Below.refl _ _).alloc (Nat.le_refl _) _⟩

def i64 (n : Int) : Value := .int .i64 n
def r28 : Array Value := #[.func (.func 133) #[] #[], i64 1, i64 0, i64 7, i64 12, i64 17, i64 22, .func (.func 134) #[] #[], i64 5, i64 1, i64 5, i64 9, i64 14, i64 20,
  .func (.func 135) #[] #[], i64 3, i64 5, i64 4, i64 11, i64 16, i64 23, .func (.func 136) #[] #[], i64 7, i64 0, i64 6, i64 10, i64 15, i64 21]
set_option maxRecDepth 100000 in
theorem rounds_any (w : World) : Calls Try.prog 125 #[] w fun e w' => e = .returned (.agg r28) ∧ Below w.heap.size w w' := by
  go_enter Try.func125, Try.ntmps125
  go_wp2_with (refine wpList_store_row rfl 183 _ _ rfl w.heap.size r28 rfl rfl 183 _ (heap_alloc_new w _) (by kernel_rfl) (by kernel_rfl) (by kernel_rfl) ?_; rw [World.setRow_alloc_new])
  exact bodyPost_ret (results_cell_row rfl _ _ w.heap.size 183 r28 (0, 0) _ rfl (heap_alloc_new w _) Try.underlying183 rfl (by kernel_rfl)) rfl ⟨rfl, (Below.refl _ _).alloc (Nat.le_refl _) _⟩
def u32s (l : List Int) : List Value := l.map (Value.int .u32)
theorem t64_at {w : World} {g : Nat} {t : TypeId} (h : Blk w g t t64) {i : Nat} (hi : i < 64) : ∃ x, Hid (T64[i]? = some x) ∧ w.cell? ⟨g, i, none⟩ = some (.int .u32 x) := by
  have hl : i < T64.length := hi
  refine ⟨T64[i], List.getElem?_eq_getElem hl, ?_⟩
  rw [h.cell]
  simp only [t64, List.getElem?_toArray, List.getElem?_map, List.getElem?_eq_getElem hl, Option.map_some]
theorem u32s_at {w : World} {g : Nat} {t : TypeId} {M : List Int} (h : Blk w g t (u32s M).toArray) {i : Nat} (hi : i < M.length) : ∃ x, Hid (M[i]? = some x) ∧ w.cell? ⟨g, i, none⟩ = some (.int .u32 x) := by
  refine ⟨M[i], List.getElem?_eq_getElem hi, ?_⟩
  rw [h.cell]
  simp only [u32s, List.getElem?_toArray, List.getElem?_map, List.getElem?_eq_getElem hi, Option.map_some]
theorem below16 {P : Nat → Prop} (h : P 0 ∧ P 1 ∧ P 2 ∧ P 3 ∧ P 4 ∧ P 5 ∧ P 6 ∧ P 7 ∧ P 8 ∧ P 9 ∧ P 10 ∧ P 11 ∧ P 12 ∧ P 13 ∧ P 14 ∧ P 15) {j : Nat} (hj : j < 16) : P j := by
  obtain ⟨h0, h1, h2, h3, h4, h5, h6, h7, h8, h9, h10, h11, h12, h13, h14, h15⟩ := h
  have hh : j = 0 ∨ j = 1 ∨ j = 2 ∨ j = 3 ∨ j = 4 ∨ j = 5 ∨ j = 6 ∨ j = 7 ∨ j = 8 ∨ j = 9 ∨ j = 10 ∨ j = 11 ∨ j = 12 ∨ j = 13 ∨ j = 14 ∨ j = 15 := by omega
  rcases hh with rfl | rfl | rfl | rfl | rfl | rfl | rfl | rfl | rfl | rfl | rfl | rfl | rfl | rfl | rfl | rfl <;> assumption
theorem by16_at0 {w : World} {g : Nat} {t : TypeId} (h : Blk w g t #[.func (.func 133) #[] #[], .int .i64 1, .int .i64 0, .int .i64 7, .int .i64 12, .int .i64 17, .int .i64 22]) {j : Nat} (hj : j < 16) : w.cell? ⟨g, 3 + j % 4, none⟩ = some (.int .i64 (byI (16 * 0 + j) : Nat)) := by
  rw [h.cell]
  revert hj
  intro hj
  exact below16 (P := fun j => (#[.func (.func 133) #[] #[], .int .i64 1, .int .i64 0, .int .i64 7, .int .i64 12, .int .i64 17, .int .i64 22] : Array Value)[3 + j % 4]? = some (.int .i64 (byI (16 * 0 + j) : Nat))) (by refine ⟨rfl, rfl, rfl, rfl, rfl, rfl, rfl, rfl, rfl, rfl, rfl, rfl, rfl, rfl, rfl, rfl⟩) hj
theorem by16_at1 {w : World} {g : Nat} {t : TypeId} (h : Blk w g t #[.func (.func 134) #[] #[], .int .i64 5, .int .i64 1, .int .i64 5, .int .i64 9, .int .i64 14, .int .i64 20]) {j : Nat} (hj : j < 16) : w.cell? ⟨g, 3 + j % 4, none⟩ = some (.int .i64 (byI (16 * 1 + j) : Nat)) := by
  rw [h.cell]
  revert hj
  intro hj
  exact below16 (P := fun j => (#[.func (.func 134) #[] #[], .int .i64 5, .int .i64 1, .int .i64 5, .int .i64 9, .int .i64 14, .int .i64 20] : Array Value)[3 + j % 4]? = some (.int .i64 (byI (16 * 1 + j) : Nat))) (by refine ⟨rfl, rfl, rfl, rfl, rfl, rfl, rfl, rfl, rfl, rfl, rfl, rfl, rfl, rfl, rfl, rfl⟩) hj
theorem by16_at2 {w : World} {g : Nat} {t : TypeId} (h : Blk w g t #[.func (.func 135) #[] #[], .int .i64 3, .int .i64 5, .int .i64 4, .int .i64 11, .int .i64 16, .int .i64 23]) {j : Nat} (hj : j < 16) : w.cell? ⟨g, 3 + j % 4, none⟩ = some (.int .i64 (byI (16 * 2 + j) : Nat)) := by
  rw [h.cell]
  revert hj
  intro hj
  exact below16 (P := fun j => (#[.func (.func 135) #[] #[], .int .i64 3, .int .i64 5, .int .i64 4, .int .i64 11, .int .i64 16, .int .i64 23] : Array Value)[3 + j % 4]? = some (.int .i64 (byI (16 * 2 + j) : Nat))) (by refine ⟨rfl, rfl, rfl, rfl, rfl, rfl, rfl, rfl, rfl, rfl, rfl, rfl, rfl, rfl, rfl, rfl⟩) hj
theorem by16_at3 {w : World} {g : Nat} {t : TypeId} (h : Blk w g t #[.func (.func 136) #[] #[], .int .i64 7, .int .i64 0, .int .i64 6, .int .i64 10, .int .i64 15, .int .i64 21]) {j : Nat} (hj : j < 16) : w.cell? ⟨g, 3 + j % 4, none⟩ = some (.int .i64 (byI (16 * 3 + j) : Nat)) := by
  rw [h.cell]
  revert hj
  intro hj
  exact below16 (P := fun j => (#[.func (.func 136) #[] #[], .int .i64 7, .int .i64 0, .int .i64 6, .int .i64 10, .int .i64 15, .int .i64 21] : Array Value)[3 + j % 4]? = some (.int .i64 (byI (16 * 3 + j) : Nat))) (by refine ⟨rfl, rfl, rfl, rfl, rfl, rfl, rfl, rfl, rfl, rfl, rfl, rfl, rfl, rfl, rfl, rfl⟩) hj
end Go.Proofs.Ytkgdeneonobibaa
