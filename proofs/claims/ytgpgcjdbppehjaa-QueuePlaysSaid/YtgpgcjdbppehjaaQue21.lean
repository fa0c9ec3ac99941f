/-
  The row's values, handed on one by one (slices.Values), inside a fence.
-/
import Derived.RangeFuncNested
import Derived.RangeFuncBound
import Derived.RangeFuncCalls
import Derived.RangeFuncLeaves
import Derived.Shelf.Abstract
import Derived.Shelf.RegionOpen
import Derived.WalkKit
import Derived.OwnWalkIn
import Derived.TacticsInMore
import Derived.LoopNIn
import Derived.LoopIn
import Derived.Test.YtgpgcjdbppehjaaQue20
import Derived.Test.YtgpgcjdbppehjaaQue18
namespace Go.Proofs.Ytgpgcjdbppehjaa
set_option linter.unusedVariables false
open Go.RowKit Go.Shelf
attribute [local go_sem] Oper.semAt_some

set_option maxRecDepth 100000 in
set_option maxHeartbeats 2000000 in
theorem vals_in (F : Fence) (n : Nat) (hf : F.fn 43) (hro : F.round = none) (hn : 1 ≤ n) (l B1 n₀ : Nat) (A : Option Addr) (m c : Nat) (L : List Ent) (hm : m ≤ 1048576) (hLl : L.length = m)
    (J Jx : List Ent → World → Prop) (W : World) (hJ : AbidesFrom W.heap.size J)
    (hY : ∀ pre x W1, J pre W1 → pre.length < L.length → YieldAt F (n - 1) Try.prog l #[x.v] W1 fun e W' =>
      (e = .returned (.bool true) ∧ J (pre ++ [x]) W' ∧ Below n₀ W1 W') ∨ (e = .returned (.bool false) ∧ Jx (pre ++ [x]) W'))
    (hn₀ : n₀ ≤ W.heap.size) (hb1 : B1 < n₀) (hB1 : W.cell? ⟨B1, 0, none⟩ = some (.slice A m c)) (hL : Reads W n₀ 3 A m (L.flatMap Ent.cells)) (h0 : J [] W) :
    CallsIn F n Try.prog 43 #[.func (.yield l) #[] #[], .pointer (some ⟨B1, 0, none⟩)] W fun e W' => (∃ v, e = .returned v) ∧
      ((∃ ys, ys = L ∧ J ys W') ∨ (∃ pre, pre <+: L ∧ Jx pre W')) := by
  have HL := Lib.hid hL
  have HJ0 := Lib.hid h0
  clear hL h0
  refine callsIn_of_wp Try.func43 rfl hf ?_ hro
  simp only [Try.ntmps43, List.size_toArray, List.length_cons, List.length_nil, Nat.reduceAdd, Nat.reduceSub, Array.replicate_succ, Array.replicate_zero, List.push_toArray, List.append_toArray, List.nil_append, List.cons_append]
  gi_wp2
  gi_loopw [7] (fun i wr => ∃ j : Nat, i = .int .i64 j ∧ j ≤ m ∧ J (L.take j) wr ∧ Below n₀ W wr)
    (fun i _ => m - (intOf i).toNat)
  case atStart => exact ⟨0, rfl, by omega, HJ0.out, Below.refl _ _⟩
  case round =>
    obtain ⟨j, rfl, hj, hJs, hb⟩ := hrel
    have HB := Lib.hid hb
    clear hb
    by_cases hlt : j < m
    · obtain ⟨ad, k, rfl, had, hk, c0', cj⟩ := rowG_at ent_len (HL.out.below HB.out) hLl hlt
      have hk := Lib.hid hk
      have c0 := c0' _ rfl
      have c1 := cj 1 _ (by decide) rfl
      have c2 := cj 2 _ (by decide) rfl
      clear c0' cj
      have HST : Hid (L.take (j + 1) = L.take j ++ [k]) := Lib.hid (by rw [List.take_add_one, hk.out]; rfl)
      have hlen : (L.take j).length ≤ j := by rw [List.length_take]; omega
      obtain ⟨at_, rank, what⟩ := k
      try simp only [Ent.cells] at c0 c1 c2
      have HB1' : Hid (Below n₀ W (wr.alloc (.cells #[.int .i64 at_, .int .i64 rank, .int .u64 what] 32))) := Lib.hid (HB.out.alloc (Nat.le_trans hn₀ HB.out.size) _)
      have hJ1 : J (L.take j) (wr.alloc (.cells #[.int .i64 at_, .int .i64 rank, .int .u64 what] 32)) := hJ _ wr _ none hJs (World.grownBy_alloc wr _ none) (fun r e => by cases e)
      obtain ⟨fn, tmps, assign, body, hy, hR⟩ := hY _ ⟨at_, rank, what⟩ _ hJ1 (by omega)
      try dsimp only at hy
      gi_wp2
      refine hR.mono ?_
      rintro e W3 (⟨rfl, hJ3, hk3⟩ | ⟨rfl, hJx3⟩)
      · rw [← HST.out] at hJ3
        gi_wp2
        go_roundw
        case rel => exact ⟨j + 1, by simp, by omega, hJ3, HB1'.out.trans hk3⟩
        case measure => simp [intOf]; omega
      · rw [← HST.out] at hJx3
        gi_wp2
        refine bodyPost_ret (results_none rfl _ _ _) rfl ?_
        exact ⟨⟨_, rfl⟩, .inr ⟨_, List.take_prefix _ _, hJx3⟩⟩
    · obtain rfl : j = m := by omega
      gi_wp2
      go_end0
      exact ⟨⟨_, rfl⟩, .inl ⟨_, by rw [← hLl, List.take_length], hJs⟩⟩
theorem values_any (A : Option Addr) (m c : Nat) (w : World) : Calls Try.prog 28 #[.slice A m c] w fun e w' =>
    e = .returned (.func (.func 43) #[] #[.pointer (some ⟨w.heap.size, 0, none⟩)]) ∧ w' = w.alloc (.cells #[.slice A m c] 41) := by
  go_enter Try.func28, Try.ntmps28
  go_wp2
  go_ret
  exact ⟨rfl, rfl⟩
end Go.Proofs.Ytgpgcjdbppehjaa
