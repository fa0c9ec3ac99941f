/-
  order: Newer, the reference's and the program's, walked.
-/
import Derived.Test.YtjkmehpokdaonaaOrd1
import Derived.Deep.RegionWith
import Derived.Deep.DeepCutAuto
namespace Go.Proofs.Ytjkmehpokdaonaa
set_option linter.unusedVariables false
open Go.RowKit

@[reducible] def Hd.v (h : Hd) : Value := .agg #[.int .u16 h.age, .int .u8 h.opts, .int .u8 h.typ, .int .u32 h.id, .int .u32 h.adv, .int .i32 h.seq, .int .u16 h.sum, .int .u16 h.len]
theorem cmpI_eq (x : Int) : cmpI x x = 0 := by unfold cmpI; rw [if_neg (by omega), if_neg (by omega)]
theorem cmpI_ne {x y : Int} (h : x ≠ y) : cmpI x y ≠ 0 := by unfold cmpI; split; omega; split <;> omega
theorem newer_seq {a b : Hd} (h : a.seq ≠ b.seq) : newerOf a b = cmpI a.seq b.seq := by unfold newerOf firstNZ; rw [if_neg (cmpI_ne h)]
theorem newer_sum {a b : Hd} (h : a.seq = b.seq) (h2 : a.sum ≠ b.sum) : newerOf a b = cmpI a.sum b.sum := by
  unfold newerOf firstNZ
  rw [h, cmpI_eq, if_pos rfl]
  unfold firstNZ
  rw [if_neg (cmpI_ne h2)]
theorem newer_age {a b : Hd} (h : a.seq = b.seq) (h2 : a.sum = b.sum) : newerOf a b = firstNZ [dist1 (yearsOf a.age) (yearsOf b.age), dist2 (yearsOf a.age) (yearsOf b.age)] := by
  unfold newerOf
  rw [h, h2, cmpI_eq, cmpI_eq]
  rfl

theorem fin_unlike {X Y : Int} (h : (X == 3600) ≠ (Y == 3600)) : firstNZ [dist1 X Y, dist2 X Y] = cmpI X Y := by
  have hne : X ≠ Y := by rintro rfl; exact h rfl
  have hd : dist1 X Y = cmpI X Y := by
    unfold dist1
    rw [if_neg]
    intro e
    apply h
    by_cases hx : X = 3600
    · have : Y = 3600 := by rw [← e]; exact hx
      rw [hx, this]
    · have hy : ¬ Y = 3600 := by rw [← e]; exact hx
      rw [beq_eq_false_iff_ne.2 hx, beq_eq_false_iff_ne.2 hy]
  unfold firstNZ
  rw [hd, if_neg (cmpI_ne hne)]
theorem fin_like {X Y : Int} (h : (X == 3600) = (Y == 3600)) : firstNZ [dist1 X Y, dist2 X Y] = dist2 X Y := by
  have hd : dist1 X Y = 0 := by
    unfold dist1
    rw [if_pos]
    have : (X = 3600) ↔ (Y = 3600) := by
      rw [← beq_iff_eq (a := X), ← beq_iff_eq (a := Y), h]
    exact propext this
  unfold firstNZ
  rw [hd, if_pos rfl]
  unfold firstNZ
  split
  · rename_i h0; rw [h0]; rfl
  · rfl

set_option maxRecDepth 100000 in
set_option maxHeartbeats 1000000 in
theorem refNewer_any (a b : Hd) (w : World) (ha : a.ok) (hb : b.ok) :
    Calls Try.prog 11 #[a.v, b.v] w fun e w' => e = .returned (.int .i64 (newerOf a b)) ∧ Below w.heap.size w w' := by
  have hk : Hid (Below w.heap.size w ((w.alloc (.cells a.cells.toArray 25)).alloc (.cells b.cells.toArray 25))) := ((Below.refl _ _).alloc (Nat.le_refl _) _).alloc (by rw [World.size_alloc]; omega) _
  have HA := Lib.hid ha
  have HB := Lib.hid hb
  have s0 := ha.seq
  have s1 := hb.seq
  have u0 := ha.sum
  have u1 := hb.sum
  have ya := years_bound a.age ha.age.1
  have yb := years_bound b.age hb.age.1
  clear ha hb
  by_cases hs : a.seq = b.seq
  · by_cases hu : a.sum = b.sum
    · have he := Lib.hid (newer_age hs hu)
      have b1 : (a.seq != b.seq) = false := by simp [hs]
      have b2 : (a.sum != b.sum) = false := by simp [hu]
      clear hs hu
      have hY : Hid (∀ W : World, Calls Try.prog 34 #[.int .u16 a.age] W fun e w' => e = .returned (.int .i64 (yearsOf a.age)) ∧ W = w') := fun W => refYears_any _ _ HA.out.age.1 HA.out.age.2
      have hZ : Hid (∀ W : World, Calls Try.prog 34 #[.int .u16 b.age] W fun e w' => e = .returned (.int .i64 (yearsOf b.age)) ∧ W = w') := fun W => refYears_any _ _ HB.out.age.1 HB.out.age.2
      have hO : Hid (∀ W : World, Calls Try.prog 35 #[.int .u16 a.age] W fun e w' => e = .returned (.bool (yearsOf a.age == 3600)) ∧ W = w') := fun W => ref5Old_any _ _ HA.out.age.1 HA.out.age.2
      have hQ : Hid (∀ W : World, Calls Try.prog 35 #[.int .u16 b.age] W fun e w' => e = .returned (.bool (yearsOf b.age == 3600)) ∧ W = w') := fun W => ref5Old_any _ _ HB.out.age.1 HB.out.age.2
      generalize yearsOf a.age = X at *
      generalize yearsOf b.age = Y at *
      have HS : Hid ((fun W : World => W.cell? ⟨w.heap.size, 0, none⟩ = some (.int .u16 a.age) ∧ W.cell? ⟨w.heap.size + 1, 0, none⟩ = some (.int .u16 b.age)) ((w.alloc (.cells a.cells.toArray 25)).alloc (.cells b.cells.toArray 25)).drew) := by
        refine ⟨((Blk.new w 25 a.cells.toArray).alloc _).cell 0, ?_⟩
        have := (Blk.new (w.alloc (.cells a.cells.toArray 25)) 25 b.cells.toArray).cell 0
        rw [World.size_alloc] at this
        exact this
      cases hx : (X == 3600) <;> cases hy : (Y == 3600)
      all_goals
        have h36 := Lib.hid (And.intro hx hy)
        rw [hx] at hO
        rw [hy] at hQ
        clear hx hy
        go_enter Try.func11, Try.ntmps11
        go_wp2_with fail
        refine (hY.out _).mono ?_
        rintro e w' ⟨rfl, rfl⟩
        go_wp2_with fail
        refine (hZ.out _).mono ?_
        rintro e w' ⟨rfl, rfl⟩
        go_wp2_with fail
        refine wp_region_s (fun W : World => W.cell? ⟨w.heap.size, 0, none⟩ = some (.int .u16 a.age) ∧ W.cell? ⟨w.heap.size + 1, 0, none⟩ = some (.int .u16 b.age)) [(0, true), (3, true), (1, true), (4, true), (2, false), (5, false), (6, true)] (by kernel_rfl) (fun _ d _ _ _ h => by cases d <;> exact h) ?_
        simp only [List.map_cons, List.map_nil, nthOp_zero, nthOp_succ]
        refine wpS_take HS (by rfl) (by intro W hW; go_simp; try with_reducible rfl) ?_
        refine wpS_take HS (by rfl) (by intro W hW; go_simp; try with_reducible rfl) ?_
        refine wpS_take HS (by rfl) (by intro W hW; go_simp; try with_reducible rfl) ?_
        refine wpS_take HS (by rfl) (by intro W hW; go_simp; try with_reducible rfl) ?_
        refine wpS_do fun K1 hK1 => ?_
        go_wp2_with fail
        refine (hO.out _).mono ?_
        rintro e w' ⟨rfl, rfl⟩
        go_wp2_with fail
        refine hK1.out _ _ HS.out ?_
        clear hK1 K1
        refine wpS_do fun K1 hK1 => ?_
        go_wp2_with fail
        refine (hQ.out _).mono ?_
        rintro e w' ⟨rfl, rfl⟩
        go_wp2_with fail
        refine hK1.out _ _ HS.out ?_
        clear hK1 K1
        refine wpS_take HS (by rfl) (by intro W hW; go_simp; try with_reducible rfl) ?_
        refine wpS_nil ?_
        go_wp2_with (go_at_call 33; refine (compare_any _ _ _).mono ?_; rintro e w' ⟨rfl, rfl⟩)
        all_goals
          go_ret
          refine ⟨?_, hk.out.drew⟩
          rw [he.out]
          first
            | (rw [fin_unlike (by rw [h36.out.1, h36.out.2]; decide)]; rfl)
            | (rw [fin_like (by rw [h36.out.1, h36.out.2])]; unfold dist2; first | (rw [if_pos (by omega)]; rfl) | (rw [if_neg (by omega)]; rfl))
    · have he := Lib.hid (newer_sum hs hu)
      have b1 : (a.seq != b.seq) = false := by simp [hs]
      have b2 : (a.sum != b.sum) = true := by simp [hu]
      clear hs hu
      go_enter Try.func11, Try.ntmps11
      go_wp2_with (go_at_call 33; refine (compare_any _ _ _).mono ?_; rintro e w' ⟨rfl, rfl⟩)
      go_ret
      exact ⟨by rw [he.out]; rfl, hk.out⟩
  · have he := Lib.hid (newer_seq hs)
    have b1 : (a.seq != b.seq) = true := by simp [hs]
    clear hs
    go_enter Try.func11, Try.ntmps11
    go_wp2_with (go_at_call 32; refine (refSeq_any _ _ _ s0.1 s0.2 s1.1 s1.2).mono ?_; rintro e w' ⟨rfl, rfl⟩)
    go_ret
    exact ⟨by rw [he.out]; rfl, hk.out⟩
end Go.Proofs.Ytjkmehpokdaonaa
