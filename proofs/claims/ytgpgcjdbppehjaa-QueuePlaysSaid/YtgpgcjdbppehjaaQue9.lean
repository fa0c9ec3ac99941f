/-
  The queue: Take.
-/
import Derived.Test.YtgpgcjdbppehjaaQue8
namespace Go.Proofs.Ytgpgcjdbppehjaa
set_option linter.unusedVariables false
open Go.RowKit

set_option maxRecDepth 100000 in
theorem take_none (w : World) (F : Nat → Prop) (g bm : Nat) (most now : Int) (q : QF w F g bm most []) (hm : 1 ≤ most) :
    Calls Try.prog 11 #[.pointer (some ⟨g, 0, none⟩), .int .i64 now] w fun e w' => e = .returned (.tuple #[zE.v, .bool false]) ∧ Below w.heap.size w w' := by
  have hb1 : Below w.heap.size w (w.alloc (.cells #[.int .i64 0, .int .i64 0, .int .u64 0] 32)) := (Below.refl _ _).alloc (Nat.le_refl _) _
  have q1 := Lib.hid (q.later hb1)
  have HZ := Lib.hid (Blk.new w 32 #[.int .i64 0, .int .i64 0, .int .u64 0])
  have HB1 := Lib.hid hb1
  clear q hb1
  go_enter Try.func11, Try.ntmps11
  go_wp2_with fail
  refine (next_none _ F g bm most q1.out hm).mono ?_
  rintro e w2 ⟨rfl, hb⟩
  have HZ2 := Lib.hid (HZ.out.later hb)
  have HB2 := Lib.hid (below_then HB1.out hb)
  clear hb HZ HB1 q1
  have HZ3 := Lib.hid (HZ2.out.alloc (.cells #[.int .i64 0, .int .i64 0, .int .u64 0] 32))
  have HB3 : Hid (Below w.heap.size w (w2.alloc (.cells #[.int .i64 0, .int .i64 0, .int .u64 0] 32))) := Lib.hid (HB2.out.alloc HB2.out.size _)
  go_wp2_with (first
    | (refine wpList_store_row rfl 32 _ _ rfl w2.heap.size #[.int .i64 0, .int .i64 0, .int .u64 0] rfl rfl 32 _ (heap_alloc_new w2 _) info_ent rfl (by simp [Value.oneCell']) ?_; rw [World.setRow_alloc_new])
    | (refine wpList_store_row rfl 32 _ _ rfl w.heap.size #[.int .i64 0, .int .i64 0, .int .u64 0] rfl rfl 32 _ HZ3.out info_ent rfl (by simp [Value.oneCell']) ?_))
  refine bodyPost_ret (results_cell_row_tmp rfl _ _ w.heap.size 32 #[.int .i64 0, .int .i64 0, .int .u64 0] (0, 0) _ rfl (HZ3.out.setRow _) Try.underlying32 rfl info_ent) rfl ⟨rfl, ?_⟩
  exact below_setRow HB3.out (Nat.le_refl _) _
set_option maxRecDepth 100000 in
theorem take_early (w : World) (F : Nat → Prop) (g bm : Nat) (most now : Int) (l : List Ent) (q : QF w F g bm most l) (hm : 1 ≤ most) (z : Ent) (hz : l[0]? = some z) (hn : now < z.at_) :
    Calls Try.prog 11 #[.pointer (some ⟨g, 0, none⟩), .int .i64 now] w fun e w' => e = .returned (.tuple #[zE.v, .bool false]) ∧ Below w.heap.size w w' := by
  have hb1 : Below w.heap.size w (w.alloc (.cells #[.int .i64 0, .int .i64 0, .int .u64 0] 32)) := (Below.refl _ _).alloc (Nat.le_refl _) _
  have q1 := Lib.hid (q.later hb1)
  have HZ := Lib.hid (Blk.new w 32 #[.int .i64 0, .int .i64 0, .int .u64 0])
  have HB1 := Lib.hid hb1
  have HZZ := Lib.hid hz
  have hd : decide (now < z.at_) = true := decide_eq_true hn
  clear q hb1 hz hn
  go_enter Try.func11, Try.ntmps11
  go_wp2_with fail
  refine (next_some _ F g bm most l q1.out hm z HZZ.out).mono ?_
  rintro e w2 ⟨rfl, hb⟩
  have HZ2 := Lib.hid (HZ.out.later hb)
  have HB2 := Lib.hid (below_then HB1.out hb)
  clear hb HZ HB1 q1
  have HZ3 := Lib.hid (HZ2.out.alloc (.cells #[.int .i64 z.at_, .int .i64 z.rank, .int .u64 z.what] 32))
  have HB3 : Hid (Below w.heap.size w (w2.alloc (.cells #[.int .i64 z.at_, .int .i64 z.rank, .int .u64 z.what] 32))) := Lib.hid (HB2.out.alloc HB2.out.size _)
  go_wp2_with (first
    | (refine wpList_store_row rfl 32 _ _ rfl w2.heap.size #[.int .i64 z.at_, .int .i64 z.rank, .int .u64 z.what] rfl rfl 32 _ (heap_alloc_new w2 _) info_ent rfl (by simp [Value.oneCell']) ?_; rw [World.setRow_alloc_new])
    | (refine wpList_store_row rfl 32 _ _ rfl w.heap.size #[.int .i64 0, .int .i64 0, .int .u64 0] rfl rfl 32 _ HZ3.out info_ent rfl (by simp [Value.oneCell']) ?_))
  refine bodyPost_ret (results_cell_row_tmp rfl _ _ w.heap.size 32 #[.int .i64 0, .int .i64 0, .int .u64 0] (0, 0) _ rfl (HZ3.out.setRow _) Try.underlying32 rfl info_ent) rfl ⟨rfl, ?_⟩
  exact below_setRow HB3.out (Nat.le_refl _) _
set_option maxRecDepth 100000 in
theorem take_due (w : World) (F : Nat → Prop) (g bm : Nat) (most now : Int) (l : List Ent) (q : QF w F g bm most l) (hm : 1 ≤ most) (n : Nat) (hl : l.length = n + 1) (z : Ent) (hz : l[0]? = some z) (hn : z.at_ ≤ now) :
    Calls Try.prog 11 #[.pointer (some ⟨g, 0, none⟩), .int .i64 now] w fun e w' => e = .returned (.tuple #[z.v, .bool true]) ∧ QF w' F g bm most (popL l n) ∧ Kept F w w' := by
  have hb1 : Below w.heap.size w (w.alloc (.cells #[.int .i64 0, .int .i64 0, .int .u64 0] 32)) := (Below.refl _ _).alloc (Nat.le_refl _) _
  have q1 := Lib.hid (q.later hb1)
  have HLIM := Lib.hid q.lim
  have HZ := Lib.hid (Blk.new w 32 #[.int .i64 0, .int .i64 0, .int .u64 0])
  have HB1 := Lib.hid hb1
  have HZZ := Lib.hid (And.intro hz hl)
  have hd : decide (now < z.at_) = false := decide_eq_false (by omega)
  have hta := fun W : World => assert_ent z W
  clear q hb1 hz hn hl
  go_enter Try.func11, Try.ntmps11
  go_wp2_with fail
  refine (next_some _ F g bm most l q1.out hm z HZZ.out.1).mono ?_
  rintro e w2 ⟨rfl, hb⟩
  have HZ2 := Lib.hid (HZ.out.later hb)
  have HB2 := Lib.hid (below_then HB1.out hb)
  have q2 := Lib.hid (q1.out.later hb)
  clear hb HZ HB1 q1
  have HZ3 := Lib.hid (HZ2.out.alloc (.cells #[.int .i64 z.at_, .int .i64 z.rank, .int .u64 z.what] 32))
  have HB3 : Hid (Below w.heap.size w (w2.alloc (.cells #[.int .i64 z.at_, .int .i64 z.rank, .int .u64 z.what] 32))) := Lib.hid (HB2.out.alloc HB2.out.size _)
  have q3 := Lib.hid (q2.out.later (w' := w2.alloc (.cells #[.int .i64 z.at_, .int .i64 z.rank, .int .u64 z.what] 32)) ((Below.refl _ _).alloc (Nat.le_refl _) _))
  go_wp2_with (refine wpList_store_row rfl 32 _ _ rfl w2.heap.size #[.int .i64 z.at_, .int .i64 z.rank, .int .u64 z.what] rfl rfl 32 _ (heap_alloc_new w2 _) info_ent rfl (by simp [Value.oneCell']) ?_; rw [World.setRow_alloc_new])
  refine (heapPop_any _ F g bm most l q3.out n HZZ.out.2 z HZZ.out.1).mono ?_
  rintro e w4 ⟨rfl, q4, k4⟩
  have H4 := Lib.hid (And.intro q4 k4)
  have hnF : Hid (¬ F w.heap.size) := Lib.hid fun h => by have := HLIM.out _ h; omega
  have HZ4 := Lib.hid (HZ3.out.kept k4 hnF.out)
  clear q4 k4
  go_wp2_with (refine wpList_store_row rfl 32 _ _ rfl w.heap.size #[.int .i64 z.at_, .int .i64 z.rank, .int .u64 z.what] rfl rfl 32 _ HZ4.out info_ent rfl (by simp [Value.oneCell']) ?_)
  have k5 : Kept (fun i => i = w.heap.size) w4 (w4.setRow w.heap.size #[.int .i64 z.at_, .int .i64 z.rank, .int .u64 z.what]) := (Kept.of_grown (only_setRow w4 w.heap.size #[.int .i64 z.at_, .int .i64 z.rank, .int .u64 z.what])).mono fun i _ e => by simpa using e.symm
  refine bodyPost_ret (results_cell_row_tmp rfl _ _ w.heap.size 32 #[.int .i64 z.at_, .int .i64 z.rank, .int .u64 z.what] (0, 0) _ rfl (HZ4.out.setRow _) Try.underlying32 rfl info_ent) rfl ⟨rfl, H4.out.1.kept k5 (fun i hi e => hnF.out (e ▸ hi)), ?_⟩
  have hk := (Kept.of_new HB3.out F).trans H4.out.2 (fun _ _ e => e)
  exact (hk.trans (k5.mono (T := fun i => F i ∨ w.heap.size ≤ i) (fun i _ e => .inr (by omega))) (S := F) (fun i hi e => e.elim id (fun e => absurd hi (by omega))))
end Go.Proofs.Ytgpgcjdbppehjaa
