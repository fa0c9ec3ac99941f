/-
  The reference's queue: Take.
-/
import Derived.Test.YtgpgcjdbppehjaaQue28
namespace Go.Proofs.Ytgpgcjdbppehjaa
set_option linter.unusedVariables false
open Go.RowKit

/-- What Take tells. -/
structure TakeM (l : List Ent) (t : Int) (z : Ent) (b : Bool) (l' : List Ent) : Prop where
  yes : b = true → z ∈ l ∧ (∀ y ∈ l, lessE y z = false) ∧ z.at_ ≤ t ∧ (∀ e, e ∈ l' ↔ e ∈ l ∧ e.what ≠ z.what)
  no : b = false → z = zE ∧ l' = l ∧ ∀ y ∈ l, t < y.at_
theorem least_at {l : List Ent} {z : Ent} (h : ∀ y ∈ l, lessE y z = false) : ∀ y ∈ l, z.at_ ≤ y.at_ := by
  intro y hy
  rcases Int.lt_or_le y.at_ z.at_ with h1 | h1
  · have := h y hy
    rw [(lessE_iff y z).2 (.inl h1)] at this
    cases this
  · exact h1
set_option maxRecDepth 100000 in
set_option maxHeartbeats 8000000 in
theorem rtake_any (w : World) (F : Nat → Prop) (g : Nat) (most now : Int) (l : List Ent) (q : RQ w F g most l) (hd : Dist l) :
    Calls Try.prog 35 #[.pointer (some ⟨g, 0, none⟩), .int .i64 now] w fun e w' => ∃ F' l' z b, e = .returned (.tuple #[z.v, .bool b]) ∧ RStep_ w w' F F' g most l' ∧ TakeM l now z b l' := by
  have hb1 : Below w.heap.size w (w.alloc (.cells #[.int .i64 0, .int .i64 0, .int .u64 0] 73)) := (Below.refl _ _).alloc (Nat.le_refl _) _
  have q1 := Lib.hid (q.later hb1)
  have HLIM := Lib.hid q.lim
  have HD := Lib.hid hd
  have HZ := Lib.hid (Blk.new w 73 #[.int .i64 0, .int .i64 0, .int .u64 0])
  have HB1 := Lib.hid hb1
  clear q hb1 hd
  go_enter Try.func35, Try.ntmps35
  go_wp2_with fail
  refine (rnext_any _ F g most l q1.out).mono ?_
  rintro e w2 ⟨z, b, rfl, hm, hb⟩
  have HM := Lib.hid hm
  have HZ2 := Lib.hid (HZ.out.later hb)
  have HB2 := Lib.hid (below_then HB1.out hb)
  have q2 := Lib.hid (q1.out.later hb)
  clear hb HZ HB1 q1 hm
  have HZ3 := Lib.hid (HZ2.out.alloc (.cells #[.int .i64 z.at_, .int .i64 z.rank, .int .u64 z.what] 73))
  have HX3 := Lib.hid (Blk.new w2 73 #[.int .i64 z.at_, .int .i64 z.rank, .int .u64 z.what])
  have HB3 : Hid (Below w.heap.size w (w2.alloc (.cells #[.int .i64 z.at_, .int .i64 z.rank, .int .u64 z.what] 73))) := Lib.hid (HB2.out.alloc HB2.out.size _)
  have q3 := Lib.hid (q2.out.later (w' := w2.alloc (.cells #[.int .i64 z.at_, .int .i64 z.rank, .int .u64 z.what] 73)) ((Below.refl _ _).alloc (Nat.le_refl _) _))
  have hnF : Hid (¬ F w.heap.size ∧ ¬ F w2.heap.size ∧ w.heap.size < w2.heap.size) := Lib.hid ⟨fun h => by have := HLIM.out _ h; omega, fun h => by have := HLIM.out _ h; have := HB2.out.size; omega, by
    have := HZ2.out.lt; exact this⟩
  cases b
  · obtain ⟨rfl, rfl⟩ := HM.out.no rfl
    go_wp2_with (first
      | (refine wpList_store_row rfl 73 _ _ rfl w2.heap.size #[.int .i64 zE.at_, .int .i64 zE.rank, .int .u64 zE.what] rfl rfl 73 _ (heap_alloc_new w2 _) info_refent rfl (by simp [Value.oneCell']) ?_; rw [World.setRow_alloc_new])
      | (refine wpList_store_row rfl 73 _ _ rfl w.heap.size #[.int .i64 0, .int .i64 0, .int .u64 0] rfl rfl 73 _ HZ3.out info_refent rfl (by simp [Value.oneCell']) ?_))
    refine bodyPost_ret (results_cell_row_tmp rfl _ _ w.heap.size 73 #[.int .i64 0, .int .i64 0, .int .u64 0] (0, 0) _ rfl (HZ3.out.setRow _) Try.underlying73 rfl info_refent) rfl ⟨F, [], zE, false, rfl, ?_, ⟨(fun h => by cases h), fun _ => ⟨rfl, rfl, fun y hy => by cases hy⟩⟩⟩
    have hbb := below_setRow HB3.out (Nat.le_refl w.heap.size) #[.int .i64 0, .int .i64 0, .int .u64 0]
    exact ⟨q3.out.kept (R := fun i => i = w.heap.size) ((Kept.of_grown (only_setRow _ w.heap.size _)).mono fun i _ e => by simpa using e.symm) (fun i hi e => hnF.out.1 (e ▸ hi)), HD.out, Grew.refl _ _, Kept.of_new hbb F⟩
  · obtain ⟨hz, hl⟩ := HM.out.yes rfl
    have HL := Lib.hid (And.intro hz hl)
    clear hz hl
    by_cases hn : now < z.at_
    · have hdn : decide (now < z.at_) = true := decide_eq_true hn
      have HN := Lib.hid hn
      clear hn
      go_wp2_with (first
        | (refine wpList_store_row rfl 73 _ _ rfl w2.heap.size #[.int .i64 z.at_, .int .i64 z.rank, .int .u64 z.what] rfl rfl 73 _ (heap_alloc_new w2 _) info_refent rfl (by simp [Value.oneCell']) ?_; rw [World.setRow_alloc_new])
        | (refine wpList_store_row rfl 73 _ _ rfl w.heap.size #[.int .i64 0, .int .i64 0, .int .u64 0] rfl rfl 73 _ HZ3.out info_refent rfl (by simp [Value.oneCell']) ?_))
      refine bodyPost_ret (results_cell_row_tmp rfl _ _ w.heap.size 73 #[.int .i64 0, .int .i64 0, .int .u64 0] (0, 0) _ rfl (HZ3.out.setRow _) Try.underlying73 rfl info_refent) rfl ⟨F, l, zE, false, rfl, ?_, ⟨(fun h => by cases h), fun _ => ⟨rfl, rfl, fun y hy => by have := least_at HL.out.2 y hy; have := HN.out; omega⟩⟩⟩
      have hbb := below_setRow HB3.out (Nat.le_refl w.heap.size) #[.int .i64 0, .int .i64 0, .int .u64 0]
      exact ⟨q3.out.kept (R := fun i => i = w.heap.size) ((Kept.of_grown (only_setRow _ w.heap.size _)).mono fun i _ e => by simpa using e.symm) (fun i hi e => hnF.out.1 (e ▸ hi)), HD.out, Grew.refl _ _, Kept.of_new hbb F⟩
    · have hdn : decide (now < z.at_) = false := decide_eq_false hn
      have HN := Lib.hid hn
      clear hn
      go_wp2_with (refine wpList_store_row rfl 73 _ _ rfl w2.heap.size #[.int .i64 z.at_, .int .i64 z.rank, .int .u64 z.what] rfl rfl 73 _ (heap_alloc_new w2 _) info_refent rfl (by simp [Value.oneCell']) ?_; rw [World.setRow_alloc_new])
      refine (rdrop_any _ F g most l q3.out HD.out z.what).mono ?_
      rintro e w4 ⟨F4, l4, b4, rfl, h4, d4, -⟩
      have H4 := Lib.hid (And.intro h4 d4)
      have HZ4 := Lib.hid (HZ3.out.kept h4.k hnF.out.1)
      have HX4 := HX3.out.kept h4.k hnF.out.2.1
      have e0 := HX4.cell 0
      have e1 := HX4.cell 1
      have e2 := HX4.cell 2
      simp at e0 e1 e2
      clear h4 d4 HX4 HX3 HZ3 HZ2
      go_wp2_with (refine wpList_store_row rfl 73 _ _ rfl w.heap.size #[.int .i64 z.at_, .int .i64 z.rank, .int .u64 z.what] rfl rfl 73 _ HZ4.out info_refent rfl (by simp [Value.oneCell']) ?_)
      have k5 : Kept (fun i => i = w.heap.size) w4 (w4.setRow w.heap.size #[.int .i64 z.at_, .int .i64 z.rank, .int .u64 z.what]) := (Kept.of_grown (only_setRow w4 w.heap.size #[.int .i64 z.at_, .int .i64 z.rank, .int .u64 z.what])).mono fun i _ e => by simpa using e.symm
      refine bodyPost_ret (results_cell_row_tmp rfl _ _ w.heap.size 73 #[.int .i64 z.at_, .int .i64 z.rank, .int .u64 z.what] (0, 0) _ rfl (HZ4.out.setRow _) Try.underlying73 rfl info_refent) rfl ⟨F4, l4, z, true, rfl, ?_, ⟨fun _ => ⟨HL.out.1, HL.out.2, by have := HN.out; omega, H4.out.2.mem⟩, (fun h => by cases h)⟩⟩
      have hn4 : ∀ i, F4 i → i ≠ w.heap.size := fun i hi e => (H4.out.1.g.2 i hi).elim (fun h => hnF.out.1 (e ▸ h)) (fun h => by rw [World.size_alloc] at h; have := hnF.out.2.2; omega)
      refine ⟨H4.out.1.q.kept k5 hn4, H4.out.1.d, ⟨H4.out.1.g.1, fun i hi => (H4.out.1.g.2 i hi).elim .inl (fun h => .inr (Nat.le_trans HB3.out.size h))⟩, ?_⟩
      have hk := (Kept.of_new HB3.out F).trans H4.out.1.k (fun _ _ e => e)
      exact (hk.trans (k5.mono (T := fun i => F i ∨ w.heap.size ≤ i) (fun i _ e => .inr (by omega))) (S := F) (fun i hi e => e.elim id (fun e => absurd hi (by omega))))
end Go.Proofs.Ytgpgcjdbppehjaa
