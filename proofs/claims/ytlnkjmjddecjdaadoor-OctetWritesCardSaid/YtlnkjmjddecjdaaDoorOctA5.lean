/-
  lodestarlaw01.lives, walked.
-/
import Derived.Test.YtlnkjmjddecjdaaDoorOctA4
namespace Go.Proofs.YtlnkjmjddecjdaaDoor
set_option linter.unusedVariables false
open Go.RowKit

theorem oct_of (zs : List Int) (h : (zs.all fun x => decide (0 ≤ x) && decide (x ≤ 255)) = true) : Oct zs := Oct.of_mem fun x hx => by
  have := List.all_eq_true.1 h x hx
  simpa using this
/-- A slice that reads just the list. -/
theorem Reads.one_lit (w : World) (xs : List Int) (t : TypeId) {n : Nat} (hn : xs.length = n) : Reads (w.alloc (.cells (u8s xs).toArray t)) (w.alloc (.cells (u8s xs).toArray t)).heap.size 1 (some ⟨w.heap.size, 0, none⟩) n (u8s xs) := by
  have := (Blk.new w t (u8s xs).toArray).readsFrom 0 n (by rw [u8s_length]; omega)
  simpa using this

set_option maxRecDepth 100000 in
set_option maxHeartbeats 1000000 in
theorem lives_any (w : World) : Calls Tryd.prog 5 #[] w fun e w' => e = .returned (.bool true) ∧ Below w.heap.size w w' := by
  have e1 : Hid ((⟨max 4 0, 0, []⟩ : Wr).num 258 2 = ⟨4, 0, [1, 2]⟩) := by show _ = _; rfl
  have e2 : Hid ((⟨4, 0, [1, 2]⟩ : Wr).put [7] = ⟨4, 0, [1, 2, 7]⟩) := by show _ = _; rfl
  have e3 : Hid ((⟨4, 0, [1, 2, 7]⟩ : Wr).patch 1 9 1 = ⟨4, 0, [1, 9, 7]⟩) := by show _ = _; rfl
  have e4 : Hid ((⟨[1, 9, 7], 0, 0⟩ : Rd).num 3 = (67847, ⟨[1, 9, 7], 3, 0⟩)) := by show _ = _; rfl
  have e5 : Hid ((⟨[1, 9, 7], 3, 0⟩ : Rd).num 1 = (0, ⟨[1, 9, 7], 3, 10⟩)) := by show _ = _; rfl
  go_enter Tryd.func5, Tryd.ntmps5
  go_wp2_with fail
  refine (write_any 4 w (by omega) (by omega)).mono ?_
  rintro e w1 ⟨g, rfl, h1, hb1⟩
  have hbb : w.heap.size ≤ g := h1.1
  go_wp2_with fail
  refine (num_any _ g _ _ 258 2 w1 h1 (by omega) (by omega) (by omega) (by omega) (by simp) (by simp; omega) (by simp; omega)).mono ?_
  rintro e w2 ⟨rfl, hp⟩
  have hb2 := hb1.trans (WPost.below h1 hp)
  rw [e1.out] at hp
  obtain ⟨v2, h2, _, _⟩ := hp
  clear h1
  go_wp2_with fail
  refine (put_any _ g v2 _ (some ⟨w2.heap.size, 0, none⟩) 1 1 [7] (w2.alloc (.cells (u8s [7]).toArray 5)) (h2.alloc _) (Reads.one_lit w2 [7] 5 rfl) (by simp) (by simp) (by simp)).mono ?_
  rintro e w3 ⟨rfl, hp⟩
  have hb3 := (hb2.alloc hb2.size _).trans (WPost.below (h2.alloc _) hp)
  rw [e2.out] at hp
  obtain ⟨v3, h3, _, _⟩ := hp
  clear h2
  go_wp2_with fail
  refine (patch_any _ g v3 _ 1 9 1 w3 h3 (by omega) (by omega) (by omega) (by omega) (by omega) (by omega) (by simp)).mono ?_
  rintro e w4 ⟨rfl, hp⟩
  have hb4 := hb3.trans (WPost.below h3 hp)
  rw [e3.out] at hp
  obtain ⟨v4, h4, _, _⟩ := hp
  clear h3
  go_wp2_with fail
  refine (done_any _ g v4 _ w4 h4 (by simp)).mono ?_
  rintro e w5 ⟨u, rfl, hu, hb5⟩
  rw [if_pos rfl] at hu
  obtain ⟨A5, c5, hu5, hc5, hm5, hr5⟩ := own_shape hu
  subst hu5
  have hb5' := below_then hb4 hb5
  clear h4 hu hb5
  go_wp2_with fail
  refine (read_any A5 3 c5 [1, 9, 7] w5 hr5 (by omega)).mono ?_
  rintro e w6 ⟨g6, A6, c6, rfl, h6, hg6, hb6⟩
  have hb6' := below_then hb5' hb6
  have hg6' : w.heap.size ≤ g6 := Nat.le_trans hb5'.size hg6
  clear hb6 hr5
  go_wp2_with fail
  refine (rnum_any w6 g6 A6 3 c6 _ 3 h6 (oct_of _ rfl) (by omega) (by omega)).mono ?_
  intro e w7 hq
  unfold RNumPost at hq
  rw [e4.out] at hq
  obtain ⟨rfl, h7, k7⟩ := hq
  have hb7 := hb6'.trans (k7.below (B := w.heap.size) (fun i hi => by rw [hi]; exact hg6') (by have := hb6'.size; omega))
  clear h6 k7
  go_wp2_with fail
  refine (rnum_any w7 g6 A6 3 c6 _ 1 h7 (oct_of _ rfl) (by omega) (by omega)).mono ?_
  intro e w8 hq
  unfold RNumPost at hq
  rw [e5.out] at hq
  obtain ⟨rfl, h8, k8⟩ := hq
  have hb8 := hb7.trans (k8.below (B := w.heap.size) (fun i hi => by rw [hi]; exact hg6') (by have := hb7.size; omega))
  clear h7 k8
  go_wp2_with (first
    | (go_at_call 22; refine (err_any w8 g6 A6 3 c6 _ h8).mono ?_; rintro e w' ⟨rfl, rfl⟩)
    | (go_at_call 23; refine (at_any w8 g6 A6 3 c6 _ h8).mono ?_; rintro e w' ⟨rfl, rfl⟩))
  go_ret
  exact ⟨rfl, hb8⟩
end Go.Proofs.YtlnkjmjddecjdaaDoor
