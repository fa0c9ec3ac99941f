/-
  The queue: Copy.
-/
import Derived.Test.YtgpgcjdbppehjaaQue19
namespace Go.Proofs.Ytgpgcjdbppehjaa
set_option linter.unusedVariables false
open Go.RowKit

theorem ents_one (l : List Ent) : ∀ u ∈ l.flatMap Ent.cells, u.oneCell' = true := by
  intro u hu
  obtain ⟨e, -, h⟩ := List.mem_flatMap.1 hu
  exact ent_one e u h
/-- A copy of the queue lies in blocks of its own. -/
theorem qcopy_any (w : World) (F : Nat → Prop) (g bm : Nat) (most : Int) (l : List Ent) (q : QF w F g bm most l) (hm : 1 ≤ most) :
    Calls Try.prog 20 #[.pointer (some ⟨g, 0, none⟩)] w fun e w' => ∃ g' bm', e = .returned (.pointer (some ⟨g', 0, none⟩)) ∧ QF w' (fun i => w.heap.size ≤ i ∧ i < w'.heap.size) g' bm' most l ∧ Below w.heap.size w w' := by
  obtain ⟨kv, hB, hO, hF⟩ := q.ex
  obtain ⟨A, c, rfl, -, -, hR⟩ := hO.shape
  have HN := Lib.hid (qnone_any w F g bm most l q hm)
  have HQ := Lib.hid q
  have HS : Hid ((fun W : World => W.cell? ⟨g, 0, none⟩ = some (.slice A l.length c) ∧ W.cell? ⟨g, 1, none⟩ = some (.map (some bm)) ∧ W.cell? ⟨g, 2, none⟩ = some (.int .i64 most)) w) := Lib.hid ⟨hB.cell 0, hB.cell 1, hB.cell 2⟩
  have HR := Lib.hid hO
  clear q hB hO hF
  go_enter Try.func20, Try.ntmps20
  go_wp2_with (go_at_call 22; refine HN.out.mono ?_; rintro e w' ⟨rfl, rfl⟩)
  refine wp_region_s (fun W : World => W.cell? ⟨g, 0, none⟩ = some (.slice A l.length c) ∧ W.cell? ⟨g, 1, none⟩ = some (.map (some bm)) ∧ W.cell? ⟨g, 2, none⟩ = some (.int .i64 most)) [(0, true), (1, true), (2, true), (3, true), (6, true), (7, true), (8, true), (9, true), (13, true), (14, true), (15, true), (4, true), (10, true), (16, true), (5, false), (11, false), (12, true), (17, true), (18, false), (19, true)] (by kernel_rfl) (fun _ d _ _ _ h => by cases d <;> exact h) ?_
  simp only [List.map_cons, List.map_nil, nthOp_zero, nthOp_succ]
  generalize hw1 : w.drew = w1 at *
  have HW1 := Lib.hid hw1
  have hb0 : Below w.heap.size w w1 := by rw [← HW1.out]; exact below_drewN (Below.refl _ _) 1
  have HS1 : Hid ((fun W : World => W.cell? ⟨g, 0, none⟩ = some (.slice A l.length c) ∧ W.cell? ⟨g, 1, none⟩ = some (.map (some bm)) ∧ W.cell? ⟨g, 2, none⟩ = some (.int .i64 most)) w1) := by rw [← HW1.out]; exact HS
  have HR1 := Lib.hid (hR.1.later hb0)
  have HM1 := Lib.hid (HQ.out.map.later hb0)
  have HE := Lib.hid (ents_one l)
  have HB0 := Lib.hid hb0
  clear hw1 HS HW1 hb0 hR
  refine wpS_take HS1 (by rfl) (by intro W hW; obtain ⟨c0, c1, c2⟩ := hW; go_simp; try with_reducible rfl) ?_
  refine wpS_take HS1 (by rfl) (by intro W hW; obtain ⟨c0, c1, c2⟩ := hW; go_simp; try with_reducible rfl) ?_
  refine wpS_take HS1 (by rfl) (by intro W hW; obtain ⟨c0, c1, c2⟩ := hW; go_simp; try with_reducible rfl) ?_
  refine wpS_take HS1 (by rfl) (by intro W hW; obtain ⟨c0, c1, c2⟩ := hW; go_simp; try with_reducible rfl) ?_
  refine wpS_take HS1 (by rfl) (by intro W hW; obtain ⟨c0, c1, c2⟩ := hW; go_simp; try with_reducible rfl) ?_
  refine wpS_take HS1 (by rfl) (by intro W hW; obtain ⟨c0, c1, c2⟩ := hW; go_simp; try with_reducible rfl) ?_
  refine wpS_take HS1 (by rfl) (by intro W hW; obtain ⟨c0, c1, c2⟩ := hW; go_simp; try with_reducible rfl) ?_
  refine wpS_take HS1 (by rfl) (by intro W hW; obtain ⟨c0, c1, c2⟩ := hW; go_simp; try with_reducible rfl) ?_
  refine wpS_take HS1 (by rfl) (by intro W hW; obtain ⟨c0, c1, c2⟩ := hW; go_simp; try with_reducible rfl) ?_
  refine wpS_take HS1 (by rfl) (by intro W hW; obtain ⟨c0, c1, c2⟩ := hW; go_simp; try with_reducible rfl) ?_
  refine wpS_take HS1 (by rfl) (by intro W hW; obtain ⟨c0, c1, c2⟩ := hW; go_simp; try with_reducible rfl) ?_
  refine wpS_take HS1 (by rfl) (by intro W hW; obtain ⟨c0, c1, c2⟩ := hW; go_simp; try with_reducible rfl) ?_
  refine wpS_take HS1 (by rfl) (by intro W hW; obtain ⟨c0, c1, c2⟩ := hW; go_simp; try with_reducible rfl) ?_
  refine wpS_take HS1 (by rfl) (by intro W hW; obtain ⟨c0, c1, c2⟩ := hW; go_simp; try with_reducible rfl) ?_
  refine wpS_do fun K hK => ?_
  go_wp2_with fail
  refine (cloneE_any A l.length c _ w1 HR1.out HE.out HQ.out.few).mono ?_
  rintro e w2 ⟨v2, rfl, ho2, hb2⟩
  obtain ⟨A2, c2, rfl, -⟩ := (OwnW.of_own ho2).shape
  have HO2 := Lib.hid ho2
  have HB2 := Lib.hid hb2
  have HS2 : Hid ((fun W : World => W.cell? ⟨g, 0, none⟩ = some (.slice A l.length c) ∧ W.cell? ⟨g, 1, none⟩ = some (.map (some bm)) ∧ W.cell? ⟨g, 2, none⟩ = some (.int .i64 most)) w2) := Lib.hid ⟨(hb2.cell (cell_lt HS1.out.1)).trans HS1.out.1, (hb2.cell (cell_lt HS1.out.2.1)).trans HS1.out.2.1, (hb2.cell (cell_lt HS1.out.2.2)).trans HS1.out.2.2⟩
  clear ho2 hb2
  go_wp2_with fail
  refine hK.out _ _ HS2.out ?_
  clear hK K HS1
  refine wpS_do fun K hK => ?_
  go_wp2_with fail
  refine (cloneM_any bm l.length (posF l) w2 (HM1.out.later HB2.out)).mono ?_
  rintro e w3 ⟨rfl, hm3, hb3⟩
  have HM3 := Lib.hid hm3
  have HB3 := Lib.hid hb3
  have HS3 : Hid ((fun W : World => W.cell? ⟨g, 0, none⟩ = some (.slice A l.length c) ∧ W.cell? ⟨g, 1, none⟩ = some (.map (some bm)) ∧ W.cell? ⟨g, 2, none⟩ = some (.int .i64 most)) w3) := Lib.hid ⟨(hb3.cell (cell_lt HS2.out.1)).trans HS2.out.1, (hb3.cell (cell_lt HS2.out.2.1)).trans HS2.out.2.1, (hb3.cell (cell_lt HS2.out.2.2)).trans HS2.out.2.2⟩
  clear hm3 hb3
  go_wp2_with fail
  refine hK.out _ _ HS3.out ?_
  clear hK K HS2
  refine wpS_take HS3 (by rfl) (by intro W hW; obtain ⟨c0, c1, c2⟩ := hW; go_simp; try with_reducible rfl) ?_
  refine wpS_take HS3 (by rfl) (by intro W hW; obtain ⟨c0, c1, c2⟩ := hW; go_simp; try with_reducible rfl) ?_
  go_simp
  refine wpS_do fun K hK => ?_
  go_wp2_with fail
  have HB4 : Hid (Below w3.heap.size w3 (w3.alloc (.cells #[.slice A2 l.length c2, .map (some w2.heap.size), .int .i64 most] 59))) := Lib.hid ((Below.refl _ _).alloc (Nat.le_refl _) _)
  have HS4 : Hid ((fun W : World => W.cell? ⟨g, 0, none⟩ = some (.slice A l.length c) ∧ W.cell? ⟨g, 1, none⟩ = some (.map (some bm)) ∧ W.cell? ⟨g, 2, none⟩ = some (.int .i64 most)) (w3.alloc (.cells #[.slice A2 l.length c2, .map (some w2.heap.size), .int .i64 most] 59))) := Lib.hid ⟨(HB4.out.cell (cell_lt HS3.out.1)).trans HS3.out.1, (HB4.out.cell (cell_lt HS3.out.2.1)).trans HS3.out.2.1, (HB4.out.cell (cell_lt HS3.out.2.2)).trans HS3.out.2.2⟩
  refine hK.out _ _ HS4.out ?_
  clear hK K HS3
  refine wpS_take HS4 (by rfl) (by intro W hW; go_simp; try with_reducible rfl) ?_
  refine wpS_nil ?_
  go_wp2; try go_simp
  go_ret
  have hb3 := below_then (below_then HB0.out HB2.out) HB3.out
  have hs : w.heap.size ≤ w1.heap.size ∧ w1.heap.size ≤ w2.heap.size ∧ w2.heap.size ≤ w3.heap.size := ⟨HB0.out.size, HB2.out.size, HB3.out.size⟩
  have ho := ((OwnW.of_own HO2.out).later HB3.out).later HB4.out
  have hlt := HM3.out.lt
  refine ⟨w3.heap.size, rfl, ⟨w2.heap.size, ⟨⟨_, heap_alloc_new w3 _, ho, fun i h => ⟨?_, ho.lt h⟩⟩, HM3.out.later HB4.out, ?_, ?_, HQ.out.ok, HQ.out.dist, HQ.out.few, fun i h => h.2⟩⟩, below_then hb3 HB4.out⟩
  · rcases HO2.out.2 with ⟨h1, _⟩ | ⟨g2, cap, cur, h1, h2, -⟩
    · rw [h1] at h
      cases h
    · rw [h1] at h
      have h4 : g2 = i := by injection h
      omega
  · simp only [World.size_alloc]; omega
  · simp only [World.size_alloc]; omega
end Go.Proofs.Ytgpgcjdbppehjaa
