/-
  maps.Keys of the store's map: the keys, handed on one by one in some order, inside a fence. Printed by gen_sk2.py.
-/
import Derived.RangeFuncNested
import Derived.RangeFuncBound
import Derived.RangeFuncCalls
import Derived.RangeFuncLeaves
import Derived.Shelf.Abstract
import Derived.Shelf.RegionOpen
import Derived.WalkKit
import Derived.OwnWalkIn
import Derived.TacticsInMore
import Derived.LoopNIn
import Derived.LoopIn
import Derived.Test.YtpncbggjngamgaaRgM
import Derived.Test.YtpncbggjngamgaaSkA
namespace Go.Proofs.Ytpncbggjngamgaa
set_option linter.unusedVariables false
open Go.RowKit Go.Shelf
attribute [local go_sem] Oper.semAt_some

def keyD : Value → Ky3
  | .agg ⟨[.int .u8 a, .int .u32 b, .int .u32 c]⟩ => (a, b, c)
  | _ => (0, 0, 0)
theorem kw_alloc (w : World) (o : Obj) : KeepsWalks w (w.alloc o) := ⟨by simp, fun k x h _ => (Below.heap_alloc w o k (Array.getElem?_eq_some_iff.1 h).1).trans h⟩
theorem keyD_V (k : Ky3) : keyD (keyV k) = k := rfl
set_option maxRecDepth 100000 in
set_option maxHeartbeats 2000000 in
theorem keys_in (F : Fence) (n : Nat) (hf : F.fn 82) (hro : F.round = none) (hn : 1 ≤ n) (l B1 n₀ bm N : Nat) (f : Ky3 → Option Value) (es : Array MapEntry) (clock : Nat) (L : List (Ky3 × Value))
    (J Jx : List Ky3 → World → Prop) (W : World) (hJ : AbidesFrom W.heap.size J)
    (hY : ∀ pre x W1, J pre W1 → pre.length < N → YieldAt F (n - 1) Try.prog l #[keyV x] W1 fun e W' =>
      (e = .returned (.bool true) ∧ J (pre ++ [x]) W' ∧ (Below n₀ W1 W' ∧ KeepsWalks W1 W')) ∨ (e = .returned (.bool false) ∧ Jx (pre ++ [x]) W'))
    (hn₀ : n₀ ≤ W.heap.size) (hB1 : W.cell? ⟨B1, 0, none⟩ = some (.map (some bm))) (hm : MapFs keyV W bm f N es clock L) (h0 : J [] W) :
    CallsIn F n Try.prog 82 #[.func (.yield l) #[] #[], .pointer (some ⟨B1, 0, none⟩)] W fun e W' => (∃ v, e = .returned v) ∧
      ((∃ ys, ys.Perm (L.map (·.1)) ∧ J ys W') ∨ (∃ pre, True ∧ Jx pre W')) := by
  refine callsIn_of_wp Try.func82 rfl hf ?_ hro
  simp only [Try.ntmps82, List.size_toArray, List.length_cons, List.length_nil, Nat.reduceAdd, Nat.reduceSub, Array.replicate_succ, Array.replicate_zero, List.push_toArray, List.append_toArray, List.nil_append, List.cons_append]
  gi_wp2_with (gi_at_range; refine wpListIn_rangeF rfl _ _ rfl _ _ Try.underlying89 bm rfl hm ?_; intro w0 hrg0 hg0 hs0)
  go_frame
  gi_loopw [3] (fun _ wr => ∃ (since c0 : Nat) (seen : Array Nat) (pre : List Ky3), RgF keyV wr bm W.heap.size f N es clock L since seen c0 pre ∧ J pre wr) (fun _ wr => wr.rangeLeft bm W.heap.size)
  case atStart => exact ⟨_, _, _, [], hrg0, hJ [] W w0 none h0 hg0 (fun r e => by cases e)⟩
  case round =>
    obtain ⟨since, c0, seen, pre, hrg, hJs⟩ := hrel
    gi_wp2_with (gi_at_next; refine wpListIn_nextF rfl _ rfl bm W.heap.size rfl hrg ?_ ?_)
    · intro hc0
      gi_wp2
      go_end0
      exact ⟨⟨_, rfl⟩, .inl ⟨pre, hrg.done keyD_V (by first | exact hc0 | (rw [hc0]; rfl)), hJs⟩⟩
    · intro k1 k2 k3 v w2 seen' hx hrg2 hlt hg2 hs2 hen
      have hJ2 : J pre w2 := hJ pre wr w2 (some W.heap.size) hJs hg2 (fun r e => by cases e; exact ⟨Nat.le_refl _, _, hrg.it, rfl⟩)
      have hJ3 : J pre (w2.alloc (.cells #[.int .u8 k1, .int .u32 k2, .int .u32 k3] 45)) := hJ pre w2 _ none hJ2 (World.grownBy_alloc w2 _ none) (fun r e => by cases e)
      have hrg4 := hrg2.walks (kw_alloc w2 (.cells #[.int .u8 k1, .int .u32 k2, .int .u32 k3] 45))
      obtain ⟨fn, tmps, assign, body, hy, hR⟩ := hY pre (k1, k2, k3) _ hJ3 (by have := hrg.len; omega)
      try dsimp only at hy
      have hen' : (Instr.entry (.pointer (some ⟨W.heap.size, 0, none⟩))).run Try.prog w2 = .ok (.tuple #[.agg #[.int .u8 k1, .int .u32 k2, .int .u32 k3], v]) w2 := hen
      clear hs2 hen
      gi_wp2
      refine hR.mono ?_
      rintro e W3 (⟨rfl, hJ4, hk3⟩ | ⟨rfl, hJx3⟩)
      · gi_wp2
        have hrg3 := hrg4.walks hk3.2
        go_roundw
        case rel => exact ⟨_, _, _, pre ++ [(k1, k2, k3)], hrg3, hJ4⟩
        case measure => rw [hrg3.left, hrg.left]; exact hlt
      · gi_wp2
        refine bodyPost_ret (results_none rfl _ _ _) rfl ?_
        exact ⟨⟨_, rfl⟩, .inr ⟨_, trivial, hJx3⟩⟩
theorem keysF_any (bm : Nat) (w : World) : Calls Try.prog 65 #[.map (some bm)] w fun e w' =>
    e = .returned (.func (.func 82) #[] #[.pointer (some ⟨w.heap.size, 0, none⟩)]) ∧ w' = w.alloc (.cells #[.map (some bm)] 89) := by
  go_enter Try.func65, Try.ntmps65
  go_wp2
  go_ret
  exact ⟨rfl, rfl⟩
end Go.Proofs.Ytpncbggjngamgaa
