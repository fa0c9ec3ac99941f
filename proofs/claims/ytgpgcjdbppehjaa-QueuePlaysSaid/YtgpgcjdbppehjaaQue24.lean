/-
  slices.SortFunc at no entry, SortedFunc, All.
-/
import Derived.Test.YtgpgcjdbppehjaaQue23
namespace Go.Proofs.Ytgpgcjdbppehjaa
set_option linter.unusedVariables false
open Go.RowKit Go.Shelf Go.Sort

set_option maxHeartbeats 2000000 in
theorem ins_none (fv : Value) (w : World) : Calls Try.prog 50 #[.slice none 0 0, .int .i64 0, .int .i64 0, fv] w fun e w' => e = .returned (.tuple #[]) ∧ w' = w := by
  go_enter Try.func50, Try.ntmps50
  go_wp2
  refine wp_loop_rounds 1 ?_
  rw [rounds_succ]
  go_wp2
  go_end0
  exact ⟨rfl, rfl⟩
set_option maxHeartbeats 2000000 in
theorem pdq_none (lim : Int) (fv : Value) (w : World) : Calls Try.prog 48 #[.slice none 0 0, .int .i64 0, .int .i64 0, .int .i64 lim, fv] w fun e w' => e = .returned (.tuple #[]) ∧ w' = w := by
  go_enter Try.func48, Try.ntmps48
  go_wp2
  refine wp_loop_rounds 1 ?_
  rw [rounds_succ]
  go_wp2_with (go_at_call 50; refine (ins_none fv _).mono ?_; rintro e w' ⟨rfl, rfl⟩)
  (try simp only [Exit.inBlock, Exit.then]); refine bodyPost_ret (results_none rfl _ _ _) rfl ?_
  exact ⟨rfl, rfl⟩
theorem len_zero (w : World) : Calls Try.prog 49 #[.int .u64 0] w fun e w' => e = .returned (.int .i64 (Lib.bitLen 0 : Nat)) ∧ w' = w := by
  have h := Any.bits_Len (SlLaysF0.n15.bits (P := Try.prog) (ρ := Try.sortEnt_ren) { Try.sortEnt with }) 0 w (by omega) (by omega)
  exact h
set_option maxHeartbeats 2000000 in
theorem sort_none (fv : Value) (w : World) : Calls Try.prog 42 #[.slice none 0 0, fv] w fun e w' => e = .returned (.tuple #[]) ∧ w' = w := by
  go_enter Try.func42, Try.ntmps42
  go_wp2_with (first | (go_at_call 49; refine (len_zero _).mono ?_; rintro e w' ⟨rfl, rfl⟩) | (go_at_call 48; refine (pdq_none _ fv _).mono ?_; rintro e w' ⟨rfl, rfl⟩))
  go_end0
  exact ⟨rfl, rfl⟩
/-- A sorted row of the call's own. -/
structure AllAt (w w' : World) (l : List Ent) (v : Value) : Prop where
  ex : ∃ L', Sorted_ l L' ∧ OwnW w' 32 3 v l.length (L'.flatMap Ent.cells)
  base : ∀ i, v.ownBlock = some i → w.heap.size ≤ i
  bel : RowKit.Below w.heap.size w w'
theorem sortedFunc_any (B1 : Nat) (A : Option Addr) (m c : Nat) (L : List Ent) (w : World) (hB1 : w.cell? ⟨B1, 0, none⟩ = some (.slice A m c)) (hL : Reads w w.heap.size 3 A m (L.flatMap Ent.cells)) (hLl : L.length = m) (hm : m ≤ 1048576) :
    Calls Try.prog 27 #[.func (.func 43) #[] #[.pointer (some ⟨B1, 0, none⟩)], .func (.func 29) #[] #[]] w fun e w' =>
      ∃ v, e = .returned v ∧ AllAt w w' L v := by
  have H := Lib.hid (collect_any B1 A m c L w hB1 hL hLl hm)
  clear hB1 hL
  subst hLl
  go_enter Try.func27, Try.ntmps27
  go_wp2_with fail
  refine H.out.mono ?_
  rintro e w1 ⟨v, rfl, h1, h2⟩
  have hb2 := Lib.hid h2
  clear h2 H
  rcases h1.2 with ⟨rfl, h0⟩ | ⟨g, cap, cur, rfl, hbase, hk, hnc, hcm, hcs, ht⟩
  · have hnil : L = [] := List.eq_nil_of_length_eq_zero h0
    subst hnil
    clear h1 h0
    go_wp2_with (go_at_call 42; refine (sort_none _ _).mono ?_; rintro e w' ⟨rfl, rfl⟩)
    go_ret
    exact ⟨_, rfl, ⟨[], ⟨List.Perm.refl _, fun i j a b _ h => by simp at h⟩, OwnW.nil _ _ _⟩, (fun i h => by cases h), hb2.out⟩
  · have hS := Lib.hid (sort_any g cap L cur w1 hk (by rw [hcs]; exact Nat.mul_le_mul_right 3 hnc) ht hm)
    have HK := Lib.hid (And.intro hnc (And.intro hcm (And.intro hcs hbase)))
    clear h1 hk hnc hcm hcs hbase ht
    go_wp2_with fail
    refine hS.out.mono ?_
    rintro e w2 ⟨rfl, L', cur', hs, hB, hsz, ht, hb⟩
    have HS := Lib.hid (And.intro hs (And.intro hB (And.intro hsz (And.intro ht hb))))
    clear hs hB hsz ht hb hS
    go_wp2
    go_ret
    obtain ⟨hs, hB, hsz, ht, hb⟩ := HS.out
    obtain ⟨hnc, hcm, hcs, hbase⟩ := HK.out
    have hl := hs.perm.length_eq
    have hbb : ∀ i, Value.ownBlock (.slice (some ⟨g, 0, none⟩) L.length cap) = some i → w.heap.size ≤ i := by
      intro i h
      have : g = i := by simpa [Value.ownBlock] using h
      omega
    have hO : OwnW w2 32 3 (.slice (some ⟨g, 0, none⟩) L.length cap) L.length (L'.flatMap Ent.cells) := ⟨by rw [flatG_len ent_len, hl], .inr ⟨g, cap, cur', rfl, hB, hnc, by unfold maxLen at hcm; exact hcm, by rw [hsz, hcs]; exact Nat.le_refl _, ht⟩⟩
    exact ⟨_, rfl, ⟨⟨L', hs, hO⟩, hbb, hb2.out.trans (hb.mono hbase)⟩⟩
theorem all_any (w : World) (F : Nat → Prop) (g bm : Nat) (most : Int) (l : List Ent) (q : QF w F g bm most l) (hm : 1 ≤ most) :
    Calls Try.prog 15 #[.pointer (some ⟨g, 0, none⟩)] w fun e w' => ∃ v, e = .returned v ∧ AllAt w w' l v := by
  obtain ⟨kv, hB, hO, hF⟩ := q.ex
  obtain ⟨A, c, rfl, -, -, hR, -⟩ := hO.shape
  have h0 : w.cell? ⟨g, 0, none⟩ = some (.slice A l.length c) := hB.cell 0
  have HN := Lib.hid (qnone_any w F g bm most l q hm)
  have hfew := q.few
  have hb1 : RowKit.Below w.heap.size w (w.alloc (.cells #[.slice A l.length c] 41)) := (Below.refl _ _).alloc (Nat.le_refl _) _
  have HS := Lib.hid (sortedFunc_any w.heap.size A l.length c l _ ((Blk.new w 41 #[.slice A l.length c]).cell 0) (hR.later hb1) rfl hfew)
  have HB := Lib.hid hb1
  clear q hB hO hF hR hb1
  go_enter Try.func15, Try.ntmps15
  go_wp2_with (go_at_call 22; refine HN.out.mono ?_; rintro e w' ⟨rfl, rfl⟩)
  refine (values_any A l.length c w).mono ?_
  rintro e w1 ⟨rfl, rfl⟩
  go_wp2_with fail
  refine HS.out.mono ?_
  rintro e w2 ⟨v, rfl, hA⟩
  have HA := Lib.hid hA
  obtain ⟨L', hs, hO⟩ := hA.ex
  obtain ⟨A3, c3, rfl, -⟩ := hO.shape
  clear hA hs hO
  go_wp2
  go_ret
  exact ⟨_, rfl, HA.out.ex, fun i h => by have := HA.out.base i h; rw [World.size_alloc] at this; omega, HB.out.trans (HA.out.bel.mono HB.out.size)⟩
end Go.Proofs.Ytgpgcjdbppehjaa
