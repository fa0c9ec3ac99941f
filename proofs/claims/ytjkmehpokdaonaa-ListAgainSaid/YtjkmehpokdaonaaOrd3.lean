/-
  order.Newer of the program, with its closures, walked.
-/
import Derived.Test.YtjkmehpokdaonaaOrd2
import Derived.Test.YtjkmehpokdaonaaRgn2
namespace Go.Proofs.Ytjkmehpokdaonaa
set_option linter.unusedVariables false
open Go.RowKit

/-- The four questions, as they lie in memory. -/
def asks (pa pb px py : Value) : List Value :=
  [.func (.func 42) #[] #[pa, pb], .func (.func 44) #[] #[pa, pb], .func (.func 46) #[] #[px, py], .func (.func 48) #[] #[px, py]]

set_option maxHeartbeats 1000000 in
theorem q1_any (w : World) (ga gb : Nat) (a b : Hd) (ha : Blk w ga 25 a.cells.toArray) (hb : Blk w gb 25 b.cells.toArray) :
    Calls Try.prog 42 #[.pointer (some ⟨ga, 0, none⟩), .pointer (some ⟨gb, 0, none⟩)] w fun e w' => e = .returned (.int .i64 (cmpI a.seq b.seq)) ∧ w = w' := by
  have h1 : w.cell? ⟨ga, 5, none⟩ = some (.int .i32 a.seq) := ha.cell 5
  have h2 : w.cell? ⟨gb, 5, none⟩ = some (.int .i32 b.seq) := hb.cell 5
  clear ha hb
  go_enter Try.func42, Try.ntmps42
  go_wp2_with (go_at_call 43; refine (seq_any _ _ _).mono ?_; rintro e w' ⟨rfl, rfl⟩)
  go_ret
  exact ⟨rfl, rfl⟩
theorem q2_any (w : World) (ga gb : Nat) (a b : Hd) (ha : Blk w ga 25 a.cells.toArray) (hb : Blk w gb 25 b.cells.toArray) :
    Calls Try.prog 44 #[.pointer (some ⟨ga, 0, none⟩), .pointer (some ⟨gb, 0, none⟩)] w fun e w' => e = .returned (.int .i64 (cmpI a.sum b.sum)) ∧ w = w' := by
  have h1 : w.cell? ⟨ga, 6, none⟩ = some (.int .u16 a.sum) := ha.cell 6
  have h2 : w.cell? ⟨gb, 6, none⟩ = some (.int .u16 b.sum) := hb.cell 6
  clear ha hb
  go_enter Try.func44, Try.ntmps44
  go_wp2_with (go_at_call 45; refine (cmp16_any _ _ _).mono ?_; rintro e w' ⟨rfl, rfl⟩)
  go_ret
  exact ⟨rfl, rfl⟩
theorem q3_any (w : World) (gx gy : Nat) (X Y : Int) (hx : Blk w gx 3 #[.int .i64 X]) (hy : Blk w gy 3 #[.int .i64 Y]) :
    Calls Try.prog 46 #[.pointer (some ⟨gx, 0, none⟩), .pointer (some ⟨gy, 0, none⟩)] w fun e w' => e = .returned (.int .i64 (dist1 X Y)) ∧ w = w' := by
  have h1 : w.cell? ⟨gx, 0, none⟩ = some (.int .i64 X) := hx.cell 0
  have h2 : w.cell? ⟨gy, 0, none⟩ = some (.int .i64 Y) := hy.cell 0
  clear hx hy
  have hd1 : Hid ((X == 3600) = (Y == 3600) → dist1 X Y = 0) := fun h => by
    unfold dist1
    rw [if_pos]
    have : (X = 3600) ↔ (Y = 3600) := by rw [← beq_iff_eq (a := X), ← beq_iff_eq (a := Y), h]
    exact propext this
  have hd2 : Hid ((X == 3600) ≠ (Y == 3600) → dist1 X Y = cmpI X Y) := fun h => by
    have := fin_unlike h
    unfold firstNZ at this
    split at this
    · rename_i h0
      exfalso
      have hne : X ≠ Y := by rintro rfl; exact h rfl
      unfold firstNZ at this
      split at this
      · exact cmpI_ne hne this.symm
      · unfold dist1 at h0
        split at h0
        · rename_i he
          apply h
          by_cases hx3 : X = 3600
          · have hy3 : Y = 3600 := by rw [← he]; exact hx3
            rw [hx3, hy3]
          · have hy3 : ¬ Y = 3600 := by rw [← he]; exact hx3
            rw [beq_eq_false_iff_ne.2 hx3, beq_eq_false_iff_ne.2 hy3]
        · exact cmpI_ne hne h0
    · exact this
  cases hX : (X == 3600) <;> cases hY : (Y == 3600)
  all_goals
    have H36 := Lib.hid (And.intro hX hY)
    go_enter Try.func46, Try.ntmps46
    go_wp2_with (go_at_call 47; refine (cmp64_any _ _ _).mono ?_; rintro e w' ⟨rfl, rfl⟩)
    go_ret
    refine ⟨?_, rfl⟩
    first
      | (rw [hd1.out (by rw [H36.out.1, H36.out.2])]; rfl)
      | (rw [hd2.out (by rw [H36.out.1, H36.out.2]; decide)]; rfl)
theorem q4_any (w : World) (gx gy : Nat) (X Y : Int) (hx : Blk w gx 3 #[.int .i64 X]) (hy : Blk w gy 3 #[.int .i64 Y]) (x0 : 0 ≤ X) (x1 : X ≤ 3600) (y0 : 0 ≤ Y) (y1 : Y ≤ 3600) :
    Calls Try.prog 48 #[.pointer (some ⟨gx, 0, none⟩), .pointer (some ⟨gy, 0, none⟩)] w fun e w' => e = .returned (.int .i64 (dist2 X Y)) ∧ w = w' := by
  have h1 : w.cell? ⟨gx, 0, none⟩ = some (.int .i64 X) := hx.cell 0
  have h2 : w.cell? ⟨gy, 0, none⟩ = some (.int .i64 Y) := hy.cell 0
  clear hx hy
  have hd : Hid (dist2 X Y = if X - Y > 900 ∨ Y - X > 900 then cmpI Y X else 0) := rfl
  by_cases hc : X - Y ≤ Y - X
  all_goals
    by_cases hf : X - Y > 900 ∨ Y - X > 900
    all_goals
      have HF := Lib.hid hf
      go_enter Try.func48, Try.ntmps48
      go_wp2_with (go_at_call 47; refine (cmp64_any _ _ _).mono ?_; rintro e w' ⟨rfl, rfl⟩)
      all_goals
        go_ret
        refine ⟨?_, rfl⟩
        rw [hd.out]
        first
          | (rw [if_pos HF.out]; rfl)
          | (rw [if_neg HF.out]; rfl)

set_option maxRecDepth 100000 in
set_option maxHeartbeats 2000000 in
theorem first_any (w : World) (gs ga gb gx gy : Nat) (a b : Hd) (X Y : Int) (hs : Blk w gs 57 (asks (.pointer (some ⟨ga, 0, none⟩)) (.pointer (some ⟨gb, 0, none⟩)) (.pointer (some ⟨gx, 0, none⟩)) (.pointer (some ⟨gy, 0, none⟩))).toArray)
    (ha : Blk w ga 25 a.cells.toArray) (hb : Blk w gb 25 b.cells.toArray) (hx : Blk w gx 3 #[.int .i64 X]) (hy : Blk w gy 3 #[.int .i64 Y]) (x0 : 0 ≤ X) (x1 : X ≤ 3600) (y0 : 0 ≤ Y) (y1 : Y ≤ 3600) :
    Calls Try.prog 41 #[.slice (some ⟨gs, 0, none⟩) 4 4] w fun e w' => e = .returned (.int .i64 (firstNZ [cmpI a.seq b.seq, cmpI a.sum b.sum, dist1 X Y, dist2 X Y])) ∧ w = w' := by
  have Q1 := Lib.hid (q1_any w ga gb a b ha hb)
  have Q2 := Lib.hid (q2_any w ga gb a b ha hb)
  have Q3 := Lib.hid (q3_any w gx gy X Y hx hy)
  have Q4 := Lib.hid (q4_any w gx gy X Y hx hy x0 x1 y0 y1)
  have c0 : w.cell? ⟨gs, 0, none⟩ = some (.func (.func 42) #[] #[.pointer (some ⟨ga, 0, none⟩), .pointer (some ⟨gb, 0, none⟩)]) := hs.cell 0
  have c1 : w.cell? ⟨gs, 1, none⟩ = some (.func (.func 44) #[] #[.pointer (some ⟨ga, 0, none⟩), .pointer (some ⟨gb, 0, none⟩)]) := hs.cell 1
  have c2 : w.cell? ⟨gs, 2, none⟩ = some (.func (.func 46) #[] #[.pointer (some ⟨gx, 0, none⟩), .pointer (some ⟨gy, 0, none⟩)]) := hs.cell 2
  have c3 : w.cell? ⟨gs, 3, none⟩ = some (.func (.func 48) #[] #[.pointer (some ⟨gx, 0, none⟩), .pointer (some ⟨gy, 0, none⟩)]) := hs.cell 3
  clear hs ha hb hx hy
  obtain ⟨n1, h1⟩ : ∃ n, n = cmpI a.seq b.seq := ⟨_, rfl⟩
  obtain ⟨n2, h2⟩ : ∃ n, n = cmpI a.sum b.sum := ⟨_, rfl⟩
  obtain ⟨n3, h3⟩ : ∃ n, n = dist1 X Y := ⟨_, rfl⟩
  obtain ⟨n4, h4⟩ : ∃ n, n = dist2 X Y := ⟨_, rfl⟩
  rw [← h1] at Q1 ⊢
  rw [← h2] at Q2 ⊢
  rw [← h3] at Q3 ⊢
  rw [← h4] at Q4 ⊢
  clear h1 h2 h3 h4
  go_enter Try.func41, Try.ntmps41
  go_wp2
  go_loop [8] (fun i => ∃ k : Nat, i = .int .i64 k ∧ k ≤ 4 ∧ Hid (firstNZ [n1, n2, n3, n4] = firstNZ ([n1, n2, n3, n4].drop k))) (fun i => 4 - (intOf i).toNat)
  case atStart => exact ⟨0, rfl, by omega, rfl⟩
  case round =>
    obtain ⟨k, rfl, hk, hn⟩ := hrel
    have hk5 : k = 0 ∨ k = 1 ∨ k = 2 ∨ k = 3 ∨ k = 4 := by omega
    rcases hk5 with rfl | rfl | rfl | rfl | rfl
    · by_cases hz : n1 = 0
      · have hb : (n1 != 0) = false := by simp [hz]
        have hn' : Hid (firstNZ [n1, n2, n3, n4] = firstNZ ([n1, n2, n3, n4].drop 1)) := by
          show _ = _
          rw [hn.out]
          show firstNZ ([n1, n2, n3, n4]) = _
          rw [firstNZ, if_pos hz]
          rfl
        clear hz hn
        go_wp2_with fail
        refine Q1.out.mono ?_
        rintro e w' ⟨rfl, rfl⟩
        go_wp2_with fail
        go_round
        case rel => exact ⟨1, rfl, by omega, hn'⟩
        case measure => simp [intOf]
      · have hb : (n1 != 0) = true := by simp [hz]
        have hn' : Hid (firstNZ [n1, n2, n3, n4] = n1) := by
          show _ = _
          rw [hn.out]
          show firstNZ ([n1, n2, n3, n4]) = _
          rw [firstNZ, if_neg hz]
        clear hz hn
        go_wp2_with fail
        refine Q1.out.mono ?_
        rintro e w' ⟨rfl, rfl⟩
        go_wp2_with fail
        go_ret
        exact ⟨by rw [hn'.out]; rfl, rfl⟩
    · by_cases hz : n2 = 0
      · have hb : (n2 != 0) = false := by simp [hz]
        have hn' : Hid (firstNZ [n1, n2, n3, n4] = firstNZ ([n1, n2, n3, n4].drop 2)) := by
          show _ = _
          rw [hn.out]
          show firstNZ ([n2, n3, n4]) = _
          rw [firstNZ, if_pos hz]
          rfl
        clear hz hn
        go_wp2_with fail
        refine Q2.out.mono ?_
        rintro e w' ⟨rfl, rfl⟩
        go_wp2_with fail
        go_round
        case rel => exact ⟨2, rfl, by omega, hn'⟩
        case measure => simp [intOf]
      · have hb : (n2 != 0) = true := by simp [hz]
        have hn' : Hid (firstNZ [n1, n2, n3, n4] = n2) := by
          show _ = _
          rw [hn.out]
          show firstNZ ([n2, n3, n4]) = _
          rw [firstNZ, if_neg hz]
        clear hz hn
        go_wp2_with fail
        refine Q2.out.mono ?_
        rintro e w' ⟨rfl, rfl⟩
        go_wp2_with fail
        go_ret
        exact ⟨by rw [hn'.out]; rfl, rfl⟩
    · by_cases hz : n3 = 0
      · have hb : (n3 != 0) = false := by simp [hz]
        have hn' : Hid (firstNZ [n1, n2, n3, n4] = firstNZ ([n1, n2, n3, n4].drop 3)) := by
          show _ = _
          rw [hn.out]
          show firstNZ ([n3, n4]) = _
          rw [firstNZ, if_pos hz]
          rfl
        clear hz hn
        go_wp2_with fail
        refine Q3.out.mono ?_
        rintro e w' ⟨rfl, rfl⟩
        go_wp2_with fail
        go_round
        case rel => exact ⟨3, rfl, by omega, hn'⟩
        case measure => simp [intOf]
      · have hb : (n3 != 0) = true := by simp [hz]
        have hn' : Hid (firstNZ [n1, n2, n3, n4] = n3) := by
          show _ = _
          rw [hn.out]
          show firstNZ ([n3, n4]) = _
          rw [firstNZ, if_neg hz]
        clear hz hn
        go_wp2_with fail
        refine Q3.out.mono ?_
        rintro e w' ⟨rfl, rfl⟩
        go_wp2_with fail
        go_ret
        exact ⟨by rw [hn'.out]; rfl, rfl⟩
    · by_cases hz : n4 = 0
      · have hb : (n4 != 0) = false := by simp [hz]
        have hn' : Hid (firstNZ [n1, n2, n3, n4] = firstNZ ([n1, n2, n3, n4].drop 4)) := by
          show _ = _
          rw [hn.out]
          show firstNZ ([n4]) = _
          rw [firstNZ, if_pos hz]
          rfl
        clear hz hn
        go_wp2_with fail
        refine Q4.out.mono ?_
        rintro e w' ⟨rfl, rfl⟩
        go_wp2_with fail
        go_round
        case rel => exact ⟨4, rfl, by omega, hn'⟩
        case measure => simp [intOf]
      · have hb : (n4 != 0) = true := by simp [hz]
        have hn' : Hid (firstNZ [n1, n2, n3, n4] = n4) := by
          show _ = _
          rw [hn.out]
          show firstNZ ([n4]) = _
          rw [firstNZ, if_neg hz]
        clear hz hn
        go_wp2_with fail
        refine Q4.out.mono ?_
        rintro e w' ⟨rfl, rfl⟩
        go_wp2_with fail
        go_ret
        exact ⟨by rw [hn'.out]; rfl, rfl⟩
    · go_wp2_with fail
      go_ret
      exact ⟨by rw [hn.out]; rfl, rfl⟩

theorem five_new (w : World) (A B C D E : Obj) : (((((w.alloc A).alloc B).alloc C).alloc D).alloc E).drew.heap[w.heap.size]? = some A ∧ (((((w.alloc A).alloc B).alloc C).alloc D).alloc E).drew.heap[w.heap.size + 1]? = some B ∧
    (((((w.alloc A).alloc B).alloc C).alloc D).alloc E).drew.heap[w.heap.size + 1 + 1]? = some C ∧ (((((w.alloc A).alloc B).alloc C).alloc D).alloc E).drew.heap[w.heap.size + 1 + 1 + 1]? = some D ∧
    (((((w.alloc A).alloc B).alloc C).alloc D).alloc E).drew.heap[w.heap.size + 1 + 1 + 1 + 1]? = some E := by
  simp only [World.drew, World.alloc, Array.getElem?_push, Array.size_push]
  refine ⟨?_, ?_, ?_, ?_, ?_⟩
  all_goals
    repeat (first | rfl | rw [if_pos (by omega)] | rw [if_neg (by omega)])

set_option maxRecDepth 100000 in
set_option maxHeartbeats 2000000 in
theorem newer_any (a b : Hd) (w : World) (ha : a.ok) (hb : b.ok) :
    Calls Try.prog 30 #[a.v, b.v] w fun e w' => e = .returned (.int .i64 (newerOf a b)) ∧ Below w.heap.size w w' := by
  have hY : Hid (∀ W : World, Calls Try.prog 40 #[.int .u16 a.age] W fun e w' => e = .returned (.int .i64 (yearsOf a.age)) ∧ W = w') := fun W => years_any _ _ ha.age.1 ha.age.2
  have hZ : Hid (∀ W : World, Calls Try.prog 40 #[.int .u16 b.age] W fun e w' => e = .returned (.int .i64 (yearsOf b.age)) ∧ W = w') := fun W => years_any _ _ hb.age.1 hb.age.2
  have ya := years_bound a.age ha.age.1
  have yb := years_bound b.age hb.age.1
  have he : Hid (newerOf a b = firstNZ [cmpI a.seq b.seq, cmpI a.sum b.sum, dist1 (yearsOf a.age) (yearsOf b.age), dist2 (yearsOf a.age) (yearsOf b.age)]) := rfl
  clear ha hb
  generalize yearsOf a.age = X at *
  generalize yearsOf b.age = Y at *
  have HS : Hid ((fun W : World => W.cell? ⟨w.heap.size, 0, none⟩ = some (.int .u16 a.age) ∧ W.cell? ⟨w.heap.size + 1, 0, none⟩ = some (.int .u16 b.age)) ((w.alloc (.cells a.cells.toArray 25)).alloc (.cells b.cells.toArray 25)).drew) := by
    refine ⟨((Blk.new w 25 a.cells.toArray).alloc _).cell 0, ?_⟩
    have := (Blk.new (w.alloc (.cells a.cells.toArray 25)) 25 b.cells.toArray).cell 0
    rw [World.size_alloc] at this
    exact this
  go_enter Try.func30, Try.ntmps30
  go_wp2_with fail
  refine wp_region_r (fun W : World => W.cell? ⟨w.heap.size, 0, none⟩ = some (.int .u16 a.age) ∧ W.cell? ⟨w.heap.size + 1, 0, none⟩ = some (.int .u16 b.age)) [.take 0, .take 3, .take 1, .take 4, .take 2, .take 5, .two 6 7, .one 8, .one 9] (by kernel_rfl) (fun _ d _ _ _ h => by cases d <;> exact h) ?_
  simp only [List.map_cons, List.map_nil, RStep.node, nthOp_zero, nthOp_succ]
  refine wpR_take HS (by rfl) (by intro W hW; go_simp; try with_reducible rfl) ?_
  refine wpR_take HS (by rfl) (by intro W hW; go_simp; try with_reducible rfl) ?_
  refine wpR_take HS (by rfl) (by intro W hW; go_simp; try with_reducible rfl) ?_
  refine wpR_take HS (by rfl) (by intro W hW; go_simp; try with_reducible rfl) ?_
  refine wpR_call HS (by rfl) (by intro W hW; go_simp; try with_reducible rfl) (fun W _ => hY.out W) ?_
  refine wpR_call HS (by rfl) (by intro W hW; go_simp; try with_reducible rfl) (fun W _ => hZ.out W) ?_
  refine wpR_two (fun K K1 hK hK1 => ?_) (fun K K1 hK hK1 => ?_)
  all_goals
    go_wp2
    refine hK1.out _ _ (by refine ⟨?_, ?_⟩ <;> go_simp) ?_
    clear hK1 K1
    go_wp2
    refine hK.out _ _ (by refine ⟨?_, ?_⟩ <;> go_simp) ?_
    clear hK K
    refine wpR_do fun K hK => ?_
    go_wp2
    refine hK.out _ _ (by refine ⟨?_, ?_⟩ <;> go_simp) ?_
    clear hK K
    refine wpR_do fun K hK => ?_
    go_wp2
    refine hK.out _ _ (by refine ⟨?_, ?_⟩ <;> go_simp) ?_
    clear hK K
    refine wpR_nil ?_
    go_wp2_with fail
  · have h5 := five_new w (.cells a.cells.toArray 25) (.cells b.cells.toArray 25) (.cells #[.int .i64 X] 3) (.cells #[.int .i64 Y] 3) (.cells (asks (.pointer (some ⟨w.heap.size, 0, none⟩)) (.pointer (some ⟨w.heap.size + 1, 0, none⟩)) (.pointer (some ⟨(w.heap.size + 1 + 1), 0, none⟩)) (.pointer (some ⟨(w.heap.size + 1 + 1 + 1), 0, none⟩))).toArray 57)
    refine (first_any _ _ w.heap.size (w.heap.size + 1) (w.heap.size + 1 + 1) (w.heap.size + 1 + 1 + 1) a b X Y h5.2.2.2.2 h5.1 h5.2.1 h5.2.2.1 h5.2.2.2.1 ya.1 ya.2 yb.1 yb.2).mono ?_
    clear h5
    rintro e w' ⟨rfl, rfl⟩
    go_wp2_with fail
    go_ret
    refine ⟨by rw [he.out]; rfl, ?_⟩
    repeat (first | exact Below.refl _ _ | refine Below.drew ?_ | refine Below.alloc ?_ (by simp; try omega) _)
  · have h5 := five_new w (.cells a.cells.toArray 25) (.cells b.cells.toArray 25) (.cells #[.int .i64 Y] 3) (.cells #[.int .i64 X] 3) (.cells (asks (.pointer (some ⟨w.heap.size, 0, none⟩)) (.pointer (some ⟨w.heap.size + 1, 0, none⟩)) (.pointer (some ⟨(w.heap.size + 1 + 1 + 1), 0, none⟩)) (.pointer (some ⟨(w.heap.size + 1 + 1), 0, none⟩))).toArray 57)
    refine (first_any _ _ w.heap.size (w.heap.size + 1) (w.heap.size + 1 + 1 + 1) (w.heap.size + 1 + 1) a b X Y h5.2.2.2.2 h5.1 h5.2.1 h5.2.2.2.1 h5.2.2.1 ya.1 ya.2 yb.1 yb.2).mono ?_
    clear h5
    rintro e w' ⟨rfl, rfl⟩
    go_wp2_with fail
    go_ret
    refine ⟨by rw [he.out]; rfl, ?_⟩
    repeat (first | exact Below.refl _ _ | refine Below.drew ?_ | refine Below.alloc ?_ (by simp; try omega) _)
end Go.Proofs.Ytjkmehpokdaonaa
