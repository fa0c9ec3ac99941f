/-
  The queue: none, New, Len, Next, Take.
-/
import Derived.Test.YtgpgcjdbppehjaaQue7
namespace Go.Proofs.Ytgpgcjdbppehjaa
set_option linter.unusedVariables false
open Go.RowKit

theorem results_cell_row_tmp {P : Program} {fn : Func} {p u : Tmp} {ty : TypeId} (h : fn.results = #[.cell p ty, .tmp u]) (tmps : Array Value) (w : World) (g : Nat) (t : TypeId) (cs : Array Value) (fr : Nat × Nat) (d : TypeDesc)
    (hp : tmps.getD p undef = .pointer (some ⟨g, 0, none⟩)) (hg : w.heap[g]? = some (.cells cs t fr))
    (hu : P.underlying ty = some d) (hd : (match d with | .struct _ | .array _ _ => true | _ => false) = true) (hi : (P.info? ty).map (·.size) = some cs.size) :
    (results fn tmps).run P w = .ok (.tuple #[.agg cs, tmps.getD u undef]) w := by
  have hp' : tmps[p]?.getD undef = .pointer (some ⟨g, 0, none⟩) := by simpa using hp
  simp [results, h, hp', asAddr, run_loadVar_row w g t ty cs fr d hg hu hd hi]
@[reducible] def zE : Ent := ⟨0, 0, 0⟩
theorem qnone_any (w : World) (F : Nat → Prop) (g bm : Nat) (most : Int) (l : List Ent) (q : QF w F g bm most l) (hm : 1 ≤ most) :
    Calls Try.prog 22 #[.pointer (some ⟨g, 0, none⟩)] w fun e w' => e = .returned (.bool false) ∧ w = w' := by
  obtain ⟨kv, hB, hO, hF⟩ := q.ex
  have h2 : w.cell? ⟨g, 2, none⟩ = some (.int .i64 most) := hB.cell 2
  have hd : (most == 0) = false := by rw [beq_eq_false_iff_ne]; omega
  clear q hB hO hF
  go_enter Try.func22, Try.ntmps22
  go_wp2
  go_ret
  exact ⟨rfl, rfl⟩
theorem qnew_any (m : Int) (w : World) (h0 : 1 ≤ m) (h1 : m ≤ 1048576) : Calls Try.prog 9 #[.int .i64 m] w fun e w' => ∃ g bm, e = .returned (.pointer (some ⟨g, 0, none⟩)) ∧ QF w' (fun i => i = g ∨ i = bm) g bm m [] ∧ w.heap.size ≤ g ∧ w.heap.size ≤ bm ∧ Below w.heap.size w w' := by
  have hmm := @run_makeMap Try.prog
  have d1 : decide (m < 1) = false := decide_eq_false (by omega)
  have d2 : decide (1048576 < m) = false := decide_eq_false (by omega)
  go_enter Try.func9, Try.ntmps9
  go_wp2
  go_ret
  refine ⟨_, w.heap.size, rfl, ⟨⟨_, new_at _ _ _, OwnW.nil _ _ _, fun i h => by cases h⟩, (MapF.new enc64 w).later ((Below.refl _ _).alloc (Nat.le_refl _) _), .inl rfl, .inr rfl, by simp, fun i j a b h => by simp at h, by simp, fun i h => ?_⟩, Nat.le_succ _, Nat.le_refl _, below_two _ _ _⟩
  rcases h with rfl | rfl <;> simp <;> omega
theorem qnew_no (m : Int) (w : World) (h : m < 1 ∨ 1048576 < m) : Calls Try.prog 9 #[.int .i64 m] w fun e w' => e = .returned (.pointer none) ∧ w = w' := by
  by_cases h1 : m < 1
  · have d1 : decide (m < 1) = true := decide_eq_true h1
    go_enter Try.func9, Try.ntmps9
    go_wp2
    go_ret
    exact ⟨rfl, rfl⟩
  · have d1 : decide (m < 1) = false := decide_eq_false h1
    have d2 : decide (1048576 < m) = true := decide_eq_true (by omega)
    clear h h1
    go_enter Try.func9, Try.ntmps9
    go_wp2
    go_ret
    exact ⟨rfl, rfl⟩
theorem qlen_any (w : World) (F : Nat → Prop) (g bm : Nat) (most : Int) (l : List Ent) (q : QF w F g bm most l) (hm : 1 ≤ most) :
    Calls Try.prog 13 #[.pointer (some ⟨g, 0, none⟩)] w fun e w' => e = .returned (.int .i64 l.length) ∧ w = w' := by
  obtain ⟨kv, hB, hO, hF⟩ := q.ex
  obtain ⟨A, c, rfl, -⟩ := hO.shape
  have h0 : w.cell? ⟨g, 0, none⟩ = some (.slice A l.length c) := hB.cell 0
  have HN := Lib.hid (qnone_any w F g bm most l q hm)
  clear q hB hO hF
  go_enter Try.func13, Try.ntmps13
  go_wp2_with (go_at_call 22; refine HN.out.mono ?_; rintro e w' ⟨rfl, rfl⟩)
  go_ret
  exact ⟨rfl, rfl⟩
theorem next_none (w : World) (F : Nat → Prop) (g bm : Nat) (most : Int) (q : QF w F g bm most []) (hm : 1 ≤ most) :
    Calls Try.prog 12 #[.pointer (some ⟨g, 0, none⟩)] w fun e w' => e = .returned (.tuple #[zE.v, .bool false]) ∧ Below w.heap.size w w' := by
  have hb1 : Below w.heap.size w (w.alloc (.cells #[.int .i64 0, .int .i64 0, .int .u64 0] 32)) := (Below.refl _ _).alloc (Nat.le_refl _) _
  have q1 := q.later hb1
  obtain ⟨kv, hB, hO, hF⟩ := q1.ex
  obtain ⟨A, c, rfl, -⟩ := hO.shape
  have h0 : (w.alloc (.cells #[.int .i64 0, .int .i64 0, .int .u64 0] 32)).cell? ⟨g, 0, none⟩ = some (.slice A 0 c) := hB.cell 0
  have HN := Lib.hid (qnone_any _ F g bm most [] q1 hm)
  have HZ := Lib.hid (Blk.new w 32 #[.int .i64 0, .int .i64 0, .int .u64 0])
  have HB1 := Lib.hid hb1
  clear q hB hO hF q1 hb1
  go_enter Try.func12, Try.ntmps12
  go_wp2_with (first
    | (go_at_call 22; refine HN.out.mono ?_; rintro e w' ⟨rfl, rfl⟩)
    | (refine wpList_store_row rfl 32 _ _ rfl w.heap.size #[.int .i64 0, .int .i64 0, .int .u64 0] rfl rfl 32 _ (heap_alloc_new w _) info_ent rfl (by simp [Value.oneCell']) ?_; rw [World.setRow_alloc_new]))
  exact bodyPost_ret (results_cell_row_tmp rfl _ _ w.heap.size 32 #[.int .i64 0, .int .i64 0, .int .u64 0] (0, 0) _ rfl HZ.out Try.underlying32 rfl info_ent) rfl ⟨rfl, HB1.out⟩
theorem next_some (w : World) (F : Nat → Prop) (g bm : Nat) (most : Int) (l : List Ent) (q : QF w F g bm most l) (hm : 1 ≤ most) (z : Ent) (hz : l[0]? = some z) :
    Calls Try.prog 12 #[.pointer (some ⟨g, 0, none⟩)] w fun e w' => e = .returned (.tuple #[z.v, .bool true]) ∧ Below w.heap.size w w' := by
  have hb1 : Below w.heap.size w (w.alloc (.cells #[.int .i64 0, .int .i64 0, .int .u64 0] 32)) := (Below.refl _ _).alloc (Nat.le_refl _) _
  have q1 := q.later hb1
  have hlp : 0 < l.length := (List.getElem?_eq_some_iff.1 hz).1
  obtain ⟨gk, cap, cur, hB, hBk, hnc, hcm, hcs, ht, hFg, hgk, hbgk, hbg⟩ := q1.row hlp
  have h0 : (w.alloc (.cells #[.int .i64 0, .int .i64 0, .int .u64 0] 32)).cell? ⟨g, 0, none⟩ = some (.slice (some ⟨gk, 0, none⟩) l.length cap) := hB.cell 0
  obtain ⟨c0, c1, c2⟩ := ent_cells hBk ht hz
  have HN := Lib.hid (qnone_any _ F g bm most l q1 hm)
  have HZ := Lib.hid (Blk.new w 32 #[.int .i64 z.at_, .int .i64 z.rank, .int .u64 z.what])
  have hb2 : Below w.heap.size w (w.alloc (.cells #[.int .i64 z.at_, .int .i64 z.rank, .int .u64 z.what] 32)) := (Below.refl _ _).alloc (Nat.le_refl _) _
  have HB1 := Lib.hid hb2
  have hl0 : ((l.length : Int) == 0) = false := by rw [beq_eq_false_iff_ne]; omega
  have hlI : (0 : Int) < l.length := by omega
  obtain ⟨N, hN⟩ : ∃ N, l.length = N := ⟨_, rfl⟩
  rw [hN] at h0 hl0 hlI hlp
  rw [Nat.zero_mul] at c0
  rw [Nat.zero_mul, Nat.zero_add] at c1 c2
  clear q hB q1 hb1 hBk hnc hcm hcs ht hz hb2 hN hFg hgk hbgk hbg
  go_enter Try.func12, Try.ntmps12
  go_wp2_with (first
    | (go_at_call 22; refine HN.out.mono ?_; rintro e w' ⟨rfl, rfl⟩)
    | (refine wpList_store_row rfl 32 _ _ rfl w.heap.size #[.int .i64 z.at_, .int .i64 z.rank, .int .u64 z.what] rfl rfl 32 _ (heap_alloc_new w _) info_ent rfl (by simp [Value.oneCell']) ?_; rw [World.setRow_alloc_new]))
  exact bodyPost_ret (results_cell_row_tmp rfl _ _ w.heap.size 32 #[.int .i64 z.at_, .int .i64 z.rank, .int .u64 z.what] (0, 0) _ rfl HZ.out Try.underlying32 rfl info_ent) rfl ⟨rfl, HB1.out⟩
end Go.Proofs.Ytgpgcjdbppehjaa
