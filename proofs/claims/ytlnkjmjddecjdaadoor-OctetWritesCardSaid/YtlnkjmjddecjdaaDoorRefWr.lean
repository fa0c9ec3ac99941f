/-
  lodestarref01's writer, walked: fits, Put, Number, Patch.
-/
import Derived.Test.YtlnkjmjddecjdaaDoorOctA4
namespace Go.Proofs.YtlnkjmjddecjdaaDoor
set_option linter.unusedVariables false
open Go.RowKit

/-- The reference's writer in memory; its limit as it was given. -/
def WD (base : Nat) (w : World) (g : Nat) (v : Value) (m : Int) (s : Wr) : Prop :=
  base ≤ g ∧ Blk w g 31 #[v, .int .i64 m, .int .i64 s.e] ∧ w.ownsRow base 5 1 v s.xs.length (u8s s.xs)
def DPost (base : Nat) (w w' : World) (g : Nat) (v : Value) (m : Int) (s' : Wr) : Prop :=
  ∃ v', WD base w' g v' m s' ∧ Kept (fun i => i = g ∨ v.ownBlock = some i) w w' ∧ (v'.ownBlock = v.ownBlock ∨ ∃ i, w.heap.size ≤ i ∧ v'.ownBlock = some i)
theorem DPost.drewN {base g : Nat} {w : World} {v : Value} {m : Int} {s : Wr} (h : WD base w g v m s) (n : Nat) : DPost base w (w.drewN n) g v m s := ⟨v, h, (Kept.refl _ w).drewN n, .inl rfl⟩
theorem DPost.same {base g : Nat} {w : World} {v : Value} {m : Int} {s : Wr} (h : WD base w g v m s) : DPost base w w g v m s := ⟨v, h, Kept.refl _ _, .inl rfl⟩
theorem DPost.below {base g : Nat} {w w' : World} {v : Value} {m : Int} {s s' : Wr} (h : WD base w g v m s) (p : DPost base w w' g v m s') : Below base w w' := by
  obtain ⟨v', _, k, _⟩ := p
  refine k.below (fun i hi => ?_) (by have := h.2.1.lt; have := h.1; omega)
  rcases hi with rfl | hi
  · exact h.1
  · exact (own_ge h.2.2 hi).1
theorem DPost.err {base g : Nat} {w : World} {v : Value} {m : Int} {s : Wr} (h : WD base w g v m s) (e : Int) (n : Nat) : DPost base w ((w.drewN n).setCell ⟨g, 2, none⟩ (.int .i64 e)) g v m { s with e := e } :=
  ⟨v, ⟨h.1, Blk.set_ (w := w.drewN n) h.2.1 2 _, own_setCell (w := w.drewN n) h.2.2 h.2.1 (by decide) _⟩, ((Kept.refl _ w).drewN n).setCell (p := ⟨g, 2, none⟩) (fun _ => .inl rfl) _, .inl rfl⟩
theorem DPost.from {base g : Nat} {w w1 w' : World} {v : Value} {m : Int} {s' : Wr} (p : DPost base w1 w' g v m s') (k : Below w.heap.size w w1) : DPost base w w' g v m s' := by
  obtain ⟨v', h1, h2, h3⟩ := p
  refine ⟨v', h1, (Kept.of_new k _).trans h2 (fun i _ hi => hi), ?_⟩
  rcases h3 with h3 | ⟨i, hi, h3⟩
  · exact .inl h3
  · exact .inr ⟨i, Nat.le_trans k.size hi, h3⟩
theorem WD.later {base g : Nat} {w w' : World} {v : Value} {m : Int} {s : Wr} (h : WD base w g v m s) (k : Below w.heap.size w w') : WD base w' g v m s :=
  ⟨h.1, h.2.1.later k, own_kept h.2.2 (Kept.of_new k (fun _ => False)) (fun _ _ h => h)⟩

set_option maxHeartbeats 400000 in
theorem dfits_any (w : World) (v n : Int) (hv0 : 0 ≤ v) (hv1 : v ≤ 4294967295) (hn0 : -9223372036854775808 ≤ n) (hn1 : n ≤ 9223372036854775807) :
    Calls Tryd.prog 26 #[.int .u32 v, .int .i64 n] w fun e w' => e = .returned (.bool (fitsB v n)) ∧ w = w' := by
  by_cases h1 : n < 1
  · have hb : decide (1 ≤ n) = false := by simp; omega
    have hf : Hid (fitsB v n = false) := by show _ = _; simp [fitsB, hb]
    go_enter Tryd.func26, Tryd.ntmps26
    go_wp2
    go_ret
    exact ⟨by rw [hf.out]; rfl, rfl⟩
  by_cases h4 : 4 < n
  · have hb : decide (n ≤ 4) = false := by simp; omega
    have hf : Hid (fitsB v n = false) := by show _ = _; simp [fitsB, hb]
    go_enter Tryd.func26, Tryd.ntmps26
    go_wp2
    go_ret
    exact ⟨by rw [hf.out]; rfl, rfl⟩
  have hn : n = 1 ∨ n = 2 ∨ n = 3 ∨ n = 4 := by omega
  clear h1 h4 hn0 hn1
  have f1 : Hid (fitsB v 1 = (v / 256 == 0)) := by show _ = _; simp [fitsB]
  have f2 : Hid (fitsB v 2 = (v / 65536 == 0)) := by show _ = _; simp [fitsB]
  have f3 : Hid (fitsB v 3 = (v / 16777216 == 0)) := by show _ = _; simp [fitsB]
  have f4 : Hid (fitsB v 4 = true) := by show _ = _; simp [fitsB]
  rcases hn with rfl | rfl | rfl | rfl
  all_goals
    go_enter Tryd.func26, Tryd.ntmps26
    go_wp2
    go_ret
  · exact ⟨by rw [f1.out]; rfl, rfl⟩
  · exact ⟨by rw [f2.out]; rfl, rfl⟩
  · exact ⟨by rw [f3.out]; rfl, rfl⟩
  · exact ⟨by rw [f4.out]; rfl, rfl⟩


set_option maxRecDepth 100000 in
set_option maxHeartbeats 1000000 in
theorem dput_any (base g : Nat) (v : Value) (m : Int) (s : Wr) (A : Option Addr) (n c : Nat) (ys : List Int) (w : World) (h : WD base w g v m s) (hM : s.most = max m 0) (hy : Reads w w.heap.size 1 A n (u8s ys)) (hn : s.xs.length + n ≤ 140737488355328) (hm0 : -9223372036854775808 ≤ m) (hm1 : m ≤ 9223372036854775807) :
    Calls Tryd.prog 11 #[.pointer (some ⟨g, 0, none⟩), .slice A n c] w fun e w' => e = .returned (.tuple #[]) ∧ DPost base w w' g v m (s.put ys) := by
  have hl := hy.u8len
  have c2 : w.cell? ⟨g, 2, none⟩ = some (.int .i64 s.e) := by rw [h.2.1.cell]; rfl
  by_cases he : s.e = 0
  · rw [he] at c2
    obtain ⟨A0, c0, hv, hc0, hcm, hr0⟩ := own_shape h.2.2
    have HS : Hid ((fun W : World => W.cell? ⟨g, 1, none⟩ = some (.int .i64 m) ∧ W.cell? ⟨g, 0, none⟩ = some (.slice A0 s.xs.length c0)) w) := Lib.hid ⟨by rw [h.2.1.cell]; rfl, by rw [h.2.1.cell, hv]; rfl⟩
    have f2 := h.2.1.frozen 2
    have H := Lib.hid h
    have HV := Lib.hid hv
    have HY := Lib.hid hy
    have HL := Lib.hid hl
    rcases Int.lt_or_le m 0 with hm | hm
    rotate_left
    ·
      have hMM : s.most = m := by omega
      by_cases hlong : (n : Int) > m - s.xs.length
      · have hp : Hid (s.put ys = { s with e := 11 }) := by show _ = _; rw [Wr.put, if_pos he, hl, hMM, if_pos hlong]
        have wr1 : IntKind.i64.wrap (m - (s.xs.length : Int)) = m - s.xs.length := IntWalk.i64_in _ (by omega)
        have wr2 : IntKind.i64.wrap (-(s.xs.length : Int)) = -(s.xs.length : Int) := IntWalk.i64_in _ (by omega)
        clear h hv he hy hr0 hl hM hMM
        go_enter Tryd.func11, Tryd.ntmps11
        go_wp2_with fail
        refine wp_region_s (fun W : World => W.cell? ⟨g, 1, none⟩ = some (.int .i64 m) ∧ W.cell? ⟨g, 0, none⟩ = some (.slice A0 s.xs.length c0)) [(0, true), (1, true), (2, true), (3, true), (4, true), (7, true), (8, true), (9, true), (5, true), (10, true), (11, true), (6, false), (12, true), (13, true)] (by kernel_rfl) (fun _ d _ _ _ h => by cases d <;> exact h) ?_
        simp only [List.map_cons, List.map_nil, nthOp_zero, nthOp_succ]
        refine wpS_take HS (by rfl) (by intro W hW; obtain ⟨q1, q2⟩ := hW; go_simp; try with_reducible rfl) ?_
        refine wpS_take HS (by rfl) (by intro W hW; obtain ⟨q1, q2⟩ := hW; go_simp; try with_reducible rfl) ?_
        refine wpS_take HS (by rfl) (by intro W hW; obtain ⟨q1, q2⟩ := hW; go_simp; try with_reducible rfl) ?_
        refine wpS_take HS (by rfl) (by intro W hW; obtain ⟨q1, q2⟩ := hW; go_simp; try with_reducible rfl) ?_
        refine wpS_take HS (by rfl) (by intro W hW; obtain ⟨q1, q2⟩ := hW; go_simp; try with_reducible rfl) ?_
        refine wpS_take HS (by rfl) (by intro W hW; obtain ⟨q1, q2⟩ := hW; go_simp; try with_reducible rfl) ?_
        refine wpS_take HS (by rfl) (by intro W hW; obtain ⟨q1, q2⟩ := hW; go_simp; try with_reducible rfl) ?_
        refine wpS_take HS (by rfl) (by intro W hW; obtain ⟨q1, q2⟩ := hW; go_simp; try with_reducible rfl) ?_
        refine wpS_take HS (by rfl) (by intro W hW; obtain ⟨q1, q2⟩ := hW; go_simp; try with_reducible rfl) ?_
        refine wpS_take HS (by rfl) (by intro W hW; obtain ⟨q1, q2⟩ := hW; go_simp; try with_reducible rfl) ?_
        refine wpS_take HS (by rfl) (by intro W hW; obtain ⟨q1, q2⟩ := hW; go_simp; try with_reducible rfl) ?_
        refine wpS_do fun K1 hK1 => ?_
        go_wp2_with fail
        refine hK1.out _ _ HS.out ?_
        clear hK1 K1
        refine wpS_take HS (by rfl) (by intro W hW; obtain ⟨q1, q2⟩ := hW; go_simp; try with_reducible rfl) ?_
        refine wpS_take HS (by rfl) (by intro W hW; obtain ⟨q1, q2⟩ := hW; go_simp; try with_reducible rfl) ?_
        refine wpS_nil ?_
        go_wp2_with fail
        try go_simp
        refine bodyPost_ret (results_none rfl _ _ _) rfl ?_
        exact ⟨rfl, by rw [hp.out]; exact (DPost.err H.out 11 1 : DPost base w ((w.drewN 1).setCell ⟨g, 2, none⟩ (.int .i64 11)) g v m { s with e := 11 })⟩
      · have hp : Hid (s.put ys = { s with xs := s.xs ++ ys }) := by show _ = _; rw [Wr.put, if_pos he, hl, hMM, if_neg hlong]
        have wr1 : IntKind.i64.wrap (m - (s.xs.length : Int)) = m - s.xs.length := IntWalk.i64_in _ (by omega)
        have wr2 : IntKind.i64.wrap (-(s.xs.length : Int)) = -(s.xs.length : Int) := IntWalk.i64_in _ (by omega)
        clear h hv he hy hr0 hl hM hMM
        go_enter Tryd.func11, Tryd.ntmps11
        go_wp2_with fail
        refine wp_region_s (fun W : World => W.cell? ⟨g, 1, none⟩ = some (.int .i64 m) ∧ W.cell? ⟨g, 0, none⟩ = some (.slice A0 s.xs.length c0)) [(0, true), (1, true), (2, true), (3, true), (4, true), (7, true), (8, true), (9, true), (5, true), (10, true), (11, true), (6, false), (12, true), (13, true)] (by kernel_rfl) (fun _ d _ _ _ h => by cases d <;> exact h) ?_
        simp only [List.map_cons, List.map_nil, nthOp_zero, nthOp_succ]
        refine wpS_take HS (by rfl) (by intro W hW; obtain ⟨q1, q2⟩ := hW; go_simp; try with_reducible rfl) ?_
        refine wpS_take HS (by rfl) (by intro W hW; obtain ⟨q1, q2⟩ := hW; go_simp; try with_reducible rfl) ?_
        refine wpS_take HS (by rfl) (by intro W hW; obtain ⟨q1, q2⟩ := hW; go_simp; try with_reducible rfl) ?_
        refine wpS_take HS (by rfl) (by intro W hW; obtain ⟨q1, q2⟩ := hW; go_simp; try with_reducible rfl) ?_
        refine wpS_take HS (by rfl) (by intro W hW; obtain ⟨q1, q2⟩ := hW; go_simp; try with_reducible rfl) ?_
        refine wpS_take HS (by rfl) (by intro W hW; obtain ⟨q1, q2⟩ := hW; go_simp; try with_reducible rfl) ?_
        refine wpS_take HS (by rfl) (by intro W hW; obtain ⟨q1, q2⟩ := hW; go_simp; try with_reducible rfl) ?_
        refine wpS_take HS (by rfl) (by intro W hW; obtain ⟨q1, q2⟩ := hW; go_simp; try with_reducible rfl) ?_
        refine wpS_take HS (by rfl) (by intro W hW; obtain ⟨q1, q2⟩ := hW; go_simp; try with_reducible rfl) ?_
        refine wpS_take HS (by rfl) (by intro W hW; obtain ⟨q1, q2⟩ := hW; go_simp; try with_reducible rfl) ?_
        refine wpS_take HS (by rfl) (by intro W hW; obtain ⟨q1, q2⟩ := hW; go_simp; try with_reducible rfl) ?_
        refine wpS_do fun K1 hK1 => ?_
        go_wp2_with fail
        refine hK1.out _ _ HS.out ?_
        clear hK1 K1
        refine wpS_take HS (by rfl) (by intro W hW; obtain ⟨q1, q2⟩ := hW; go_simp; try with_reducible rfl) ?_
        refine wpS_take HS (by rfl) (by intro W hW; obtain ⟨q1, q2⟩ := hW; go_simp; try with_reducible rfl) ?_
        refine wpS_nil ?_
        have c0' : w.drew.cell? ⟨g, 0, none⟩ = some (.slice A0 s.xs.length c0) := HS.out.2
        have HD1 : Hid (WD base w.drew g v m s) := H.out
        have HYd : Hid (Reads w.drew w.drew.heap.size 1 A n (u8s ys)) := HY.out
        have HNE : Hid (some g ≠ (Value.slice A0 s.xs.length c0).ownBlock) := by
          have := own_blk_ne H.out.2.2 H.out.2.1 (by decide)
          rw [HV.out] at this
          exact fun e => this e.symm
        have HO : Hid (w.drew.ownsRow base 5 1 (.slice A0 s.xs.length c0) s.xs.length (u8s s.xs)) := by have := H.out.2.2; rw [HV.out] at this; exact this
        go_wp2_with (at_builtin; refine wpList_app el_u8 rfl (.tmp 30) (.tmp 31) rfl HO.out rfl HYd.out rfl u8s_one (by simp only [maxLen]; omega) (by omega) (by show base ≤ w.heap.size; have := H.out.2.1.lt; have := H.out.1; omega) ?_; intro v1 w1 ho1 hb1 hg1 hat1; have hsh := own_shape ho1; obtain ⟨A1, k1, hv1, _, _, _⟩ := hsh; subst hv1; have HB1 := Lib.hid (HD1.out.2.1.grown hg1 HNE.out); have HO1 := Lib.hid ho1; have HG1 := Lib.hid hg1; have HA1 := Lib.hid hat1; have cc0 : w1.cell? ⟨g, 0, none⟩ = some v := (by rw [HB1.out.cell]; rfl); have ff0 := HB1.out.frozen 0; clear ho1 hb1 hg1 hat1)
        refine bodyPost_end (results_none rfl _ _ _) rfl ?_
        refine ⟨rfl, ?_⟩
        rw [hp.out]
        refine ⟨_, ⟨H.out.1, HB1.out.set_ 0 _, ?_⟩, ?_, ?_⟩
        · have := own_setCell (i := 0) HO1.out HB1.out (by decide) (.slice A1 (s.xs.length + n) k1)
          show World.ownsRow _ _ _ _ _ (s.xs ++ ys).length (u8s (s.xs ++ ys))
          rw [List.length_append, HL.out, u8s_append]
          exact this
        · have h1 : Kept (fun i => i = g ∨ v.ownBlock = some i) w w1 := (Kept.refl _ w).drew.trans (Kept.of_grown HG1.out) (fun i _ hi => .inr (by rw [HV.out]; exact hi))
          exact h1.setCell (p := ⟨g, 0, none⟩) (fun _ => .inl rfl) _
        · rcases HA1.out with h1 | h1
          · exact .inl (by rw [h1, HV.out])
          · exact .inr ⟨_, Nat.le_refl _, h1⟩
    ·
      have hMM : s.most = 0 := by omega
      by_cases hlong : (n : Int) > 0 - s.xs.length
      · have hp : Hid (s.put ys = { s with e := 11 }) := by show _ = _; rw [Wr.put, if_pos he, hl, hMM, if_pos hlong]
        have wr1 : IntKind.i64.wrap (0 - (s.xs.length : Int)) = 0 - s.xs.length := IntWalk.i64_in _ (by omega)
        have wr2 : IntKind.i64.wrap (-(s.xs.length : Int)) = -(s.xs.length : Int) := IntWalk.i64_in _ (by omega)
        clear h hv he hy hr0 hl hM hMM
        go_enter Tryd.func11, Tryd.ntmps11
        go_wp2_with fail
        refine wp_region_s (fun W : World => W.cell? ⟨g, 1, none⟩ = some (.int .i64 m) ∧ W.cell? ⟨g, 0, none⟩ = some (.slice A0 s.xs.length c0)) [(0, true), (1, true), (2, true), (3, true), (4, true), (7, true), (8, true), (9, true), (5, true), (10, true), (11, true), (6, false), (12, true), (13, true)] (by kernel_rfl) (fun _ d _ _ _ h => by cases d <;> exact h) ?_
        simp only [List.map_cons, List.map_nil, nthOp_zero, nthOp_succ]
        refine wpS_take HS (by rfl) (by intro W hW; obtain ⟨q1, q2⟩ := hW; go_simp; try with_reducible rfl) ?_
        refine wpS_take HS (by rfl) (by intro W hW; obtain ⟨q1, q2⟩ := hW; go_simp; try with_reducible rfl) ?_
        refine wpS_take HS (by rfl) (by intro W hW; obtain ⟨q1, q2⟩ := hW; go_simp; try with_reducible rfl) ?_
        refine wpS_take HS (by rfl) (by intro W hW; obtain ⟨q1, q2⟩ := hW; go_simp; try with_reducible rfl) ?_
        refine wpS_take HS (by rfl) (by intro W hW; obtain ⟨q1, q2⟩ := hW; go_simp; try with_reducible rfl) ?_
        refine wpS_take HS (by rfl) (by intro W hW; obtain ⟨q1, q2⟩ := hW; go_simp; try with_reducible rfl) ?_
        refine wpS_take HS (by rfl) (by intro W hW; obtain ⟨q1, q2⟩ := hW; go_simp; try with_reducible rfl) ?_
        refine wpS_take HS (by rfl) (by intro W hW; obtain ⟨q1, q2⟩ := hW; go_simp; try with_reducible rfl) ?_
        refine wpS_take HS (by rfl) (by intro W hW; obtain ⟨q1, q2⟩ := hW; go_simp; try with_reducible rfl) ?_
        refine wpS_take HS (by rfl) (by intro W hW; obtain ⟨q1, q2⟩ := hW; go_simp; try with_reducible rfl) ?_
        refine wpS_take HS (by rfl) (by intro W hW; obtain ⟨q1, q2⟩ := hW; go_simp; try with_reducible rfl) ?_
        refine wpS_do fun K1 hK1 => ?_
        go_wp2_with fail
        refine hK1.out _ _ HS.out ?_
        clear hK1 K1
        refine wpS_take HS (by rfl) (by intro W hW; obtain ⟨q1, q2⟩ := hW; go_simp; try with_reducible rfl) ?_
        refine wpS_take HS (by rfl) (by intro W hW; obtain ⟨q1, q2⟩ := hW; go_simp; try with_reducible rfl) ?_
        refine wpS_nil ?_
        go_wp2_with fail
        try go_simp
        refine bodyPost_ret (results_none rfl _ _ _) rfl ?_
        exact ⟨rfl, by rw [hp.out]; exact (DPost.err H.out 11 1 : DPost base w ((w.drewN 1).setCell ⟨g, 2, none⟩ (.int .i64 11)) g v m { s with e := 11 })⟩
      · have hp : Hid (s.put ys = { s with xs := s.xs ++ ys }) := by show _ = _; rw [Wr.put, if_pos he, hl, hMM, if_neg hlong]
        have wr1 : IntKind.i64.wrap (0 - (s.xs.length : Int)) = 0 - s.xs.length := IntWalk.i64_in _ (by omega)
        have wr2 : IntKind.i64.wrap (-(s.xs.length : Int)) = -(s.xs.length : Int) := IntWalk.i64_in _ (by omega)
        clear h hv he hy hr0 hl hM hMM
        go_enter Tryd.func11, Tryd.ntmps11
        go_wp2_with fail
        refine wp_region_s (fun W : World => W.cell? ⟨g, 1, none⟩ = some (.int .i64 m) ∧ W.cell? ⟨g, 0, none⟩ = some (.slice A0 s.xs.length c0)) [(0, true), (1, true), (2, true), (3, true), (4, true), (7, true), (8, true), (9, true), (5, true), (10, true), (11, true), (6, false), (12, true), (13, true)] (by kernel_rfl) (fun _ d _ _ _ h => by cases d <;> exact h) ?_
        simp only [List.map_cons, List.map_nil, nthOp_zero, nthOp_succ]
        refine wpS_take HS (by rfl) (by intro W hW; obtain ⟨q1, q2⟩ := hW; go_simp; try with_reducible rfl) ?_
        refine wpS_take HS (by rfl) (by intro W hW; obtain ⟨q1, q2⟩ := hW; go_simp; try with_reducible rfl) ?_
        refine wpS_take HS (by rfl) (by intro W hW; obtain ⟨q1, q2⟩ := hW; go_simp; try with_reducible rfl) ?_
        refine wpS_take HS (by rfl) (by intro W hW; obtain ⟨q1, q2⟩ := hW; go_simp; try with_reducible rfl) ?_
        refine wpS_take HS (by rfl) (by intro W hW; obtain ⟨q1, q2⟩ := hW; go_simp; try with_reducible rfl) ?_
        refine wpS_take HS (by rfl) (by intro W hW; obtain ⟨q1, q2⟩ := hW; go_simp; try with_reducible rfl) ?_
        refine wpS_take HS (by rfl) (by intro W hW; obtain ⟨q1, q2⟩ := hW; go_simp; try with_reducible rfl) ?_
        refine wpS_take HS (by rfl) (by intro W hW; obtain ⟨q1, q2⟩ := hW; go_simp; try with_reducible rfl) ?_
        refine wpS_take HS (by rfl) (by intro W hW; obtain ⟨q1, q2⟩ := hW; go_simp; try with_reducible rfl) ?_
        refine wpS_take HS (by rfl) (by intro W hW; obtain ⟨q1, q2⟩ := hW; go_simp; try with_reducible rfl) ?_
        refine wpS_take HS (by rfl) (by intro W hW; obtain ⟨q1, q2⟩ := hW; go_simp; try with_reducible rfl) ?_
        refine wpS_do fun K1 hK1 => ?_
        go_wp2_with fail
        refine hK1.out _ _ HS.out ?_
        clear hK1 K1
        refine wpS_take HS (by rfl) (by intro W hW; obtain ⟨q1, q2⟩ := hW; go_simp; try with_reducible rfl) ?_
        refine wpS_take HS (by rfl) (by intro W hW; obtain ⟨q1, q2⟩ := hW; go_simp; try with_reducible rfl) ?_
        refine wpS_nil ?_
        have c0' : w.drew.cell? ⟨g, 0, none⟩ = some (.slice A0 s.xs.length c0) := HS.out.2
        have HD1 : Hid (WD base w.drew g v m s) := H.out
        have HYd : Hid (Reads w.drew w.drew.heap.size 1 A n (u8s ys)) := HY.out
        have HNE : Hid (some g ≠ (Value.slice A0 s.xs.length c0).ownBlock) := by
          have := own_blk_ne H.out.2.2 H.out.2.1 (by decide)
          rw [HV.out] at this
          exact fun e => this e.symm
        have HO : Hid (w.drew.ownsRow base 5 1 (.slice A0 s.xs.length c0) s.xs.length (u8s s.xs)) := by have := H.out.2.2; rw [HV.out] at this; exact this
        go_wp2_with (at_builtin; refine wpList_app el_u8 rfl (.tmp 30) (.tmp 31) rfl HO.out rfl HYd.out rfl u8s_one (by simp only [maxLen]; omega) (by omega) (by show base ≤ w.heap.size; have := H.out.2.1.lt; have := H.out.1; omega) ?_; intro v1 w1 ho1 hb1 hg1 hat1; have hsh := own_shape ho1; obtain ⟨A1, k1, hv1, _, _, _⟩ := hsh; subst hv1; have HB1 := Lib.hid (HD1.out.2.1.grown hg1 HNE.out); have HO1 := Lib.hid ho1; have HG1 := Lib.hid hg1; have HA1 := Lib.hid hat1; have cc0 : w1.cell? ⟨g, 0, none⟩ = some v := (by rw [HB1.out.cell]; rfl); have ff0 := HB1.out.frozen 0; clear ho1 hb1 hg1 hat1)
        refine bodyPost_end (results_none rfl _ _ _) rfl ?_
        refine ⟨rfl, ?_⟩
        rw [hp.out]
        refine ⟨_, ⟨H.out.1, HB1.out.set_ 0 _, ?_⟩, ?_, ?_⟩
        · have := own_setCell (i := 0) HO1.out HB1.out (by decide) (.slice A1 (s.xs.length + n) k1)
          show World.ownsRow _ _ _ _ _ (s.xs ++ ys).length (u8s (s.xs ++ ys))
          rw [List.length_append, HL.out, u8s_append]
          exact this
        · have h1 : Kept (fun i => i = g ∨ v.ownBlock = some i) w w1 := (Kept.refl _ w).drew.trans (Kept.of_grown HG1.out) (fun i _ hi => .inr (by rw [HV.out]; exact hi))
          exact h1.setCell (p := ⟨g, 0, none⟩) (fun _ => .inl rfl) _
        · rcases HA1.out with h1 | h1
          · exact .inl (by rw [h1, HV.out])
          · exact .inr ⟨_, Nat.le_refl _, h1⟩
  · have hp : Hid (s.put ys = s) := by show _ = _; rw [Wr.put, if_neg he]
    have hb : (s.e != 0) = true := by simp [he]
    have H := Lib.hid h
    clear he h hy
    go_enter Tryd.func11, Tryd.ntmps11
    go_wp2_with fail
    refine bodyPost_ret (results_none rfl _ _ _) rfl ?_
    exact ⟨rfl, by rw [hp.out]; exact DPost.same H.out⟩

theorem pb_four (x : Int) (h0 : 0 ≤ x) (h1 : x ≤ 4294967295) (N : Nat) (hN : 1 ≤ N) (h4 : N ≤ 4) : (four x).drop (4 - N) = pb x N := by
  have hc : N = 1 ∨ N = 2 ∨ N = 3 ∨ N = 4 := by omega
  rcases hc with rfl | rfl | rfl | rfl
  · simp [four, pb, List.range_succ]
  · simp [four, pb, List.range_succ]
  · simp [four, pb, List.range_succ]
  · simp [four, pb, List.range_succ]; omega
set_option maxRecDepth 100000 in
set_option maxHeartbeats 1000000 in
theorem dnum_any (base g : Nat) (v : Value) (m : Int) (s : Wr) (x n : Int) (w : World) (h : WD base w g v m s) (hM : s.most = max m 0) (hx0 : 0 ≤ x) (hx1 : x ≤ 4294967295) (hn0 : -9223372036854775808 ≤ n) (hn1 : n ≤ 9223372036854775807) (hl : s.xs.length + 4 ≤ 140737488355328) (hm0 : -9223372036854775808 ≤ m) (hm1 : m ≤ 9223372036854775807) :
    Calls Tryd.prog 15 #[.pointer (some ⟨g, 0, none⟩), .int .u32 x, .int .i64 n] w fun e w' => e = .returned (.tuple #[]) ∧ DPost base w w' g v m (s.num x n) := by
  have c2 : w.cell? ⟨g, 2, none⟩ = some (.int .i64 s.e) := by rw [h.2.1.cell]; rfl
  have f2 := h.2.1.frozen 2
  have hff := dfits_any w x n hx0 hx1 hn0 hn1
  by_cases he : s.e = 0
  · rw [he] at c2
    by_cases hf : fitsB x n = true
    · rw [hf] at hff
      have hn : 1 ≤ n ∧ n ≤ 4 := by simp [fitsB] at hf; omega
      obtain ⟨N, rfl⟩ := Int.eq_ofNat_of_zero_le (by omega : 0 ≤ n)
      have hp : Hid (s.num x N = s.put (pb x N)) := by
        show _ = _
        rw [Wr.num, if_pos he, if_pos hf, show (4 - (N : Int)).toNat = 4 - N from by omega, pb_four x hx0 hx1 N (by omega) (by omega)]
      have HF := Lib.hid hff
      have H := Lib.hid h
      have hN4 : N ≤ 4 := by omega
      clear h hff hf he hn hn0 hn1
      go_enter Tryd.func15, Tryd.ntmps15
      go_wp2_with fail
      refine HF.out.mono ?_
      rintro e w' ⟨rfl, rfl⟩
      go_wp2_with fail
      refine (fourN_any x N w hx0 hx1 hN4).mono ?_
      rintro e w1 ⟨u, rfl, hu, hb⟩
      rw [pb_length] at hu
      obtain ⟨A1, c1, rfl, _, _, hr⟩ := own_shape hu
      have HR := Lib.hid hr
      have HB := Lib.hid hb
      have H1 := Lib.hid (H.out.later hb)
      clear hu hr hb
      go_wp2_with fail
      refine (dput_any base g v m s A1 N c1 (pb x N) w1 H1.out hM HR.out (by omega) hm0 hm1).mono ?_
      rintro e w2 ⟨rfl, hd⟩
      have HD := Lib.hid (hd.from HB.out)
      clear hd
      go_wp2_with fail
      go_end0
      exact ⟨rfl, by rw [hp.out]; exact HD.out⟩
    · rw [Bool.not_eq_true] at hf
      have hp : Hid (s.num x n = { s with e := 1 }) := by show _ = _; rw [Wr.num, if_pos he, hf]; rfl
      rw [hf] at hff
      have HF := Lib.hid hff
      have H := Lib.hid h
      clear h hff hf he
      go_enter Tryd.func15, Tryd.ntmps15
      go_wp2_with fail
      refine HF.out.mono ?_
      rintro e w' ⟨rfl, rfl⟩
      go_wp2_with fail
      refine bodyPost_ret (results_none rfl _ _ _) rfl ?_
      exact ⟨rfl, by rw [hp.out]; exact DPost.err H.out 1 0⟩
  · have hp : Hid (s.num x n = s) := by show _ = _; rw [Wr.num, if_neg he]
    have hb : (s.e != 0) = true := by simp [he]
    have H := Lib.hid h
    clear he h
    go_enter Tryd.func15, Tryd.ntmps15
    go_wp2_with fail
    refine bodyPost_ret (results_none rfl _ _ _) rfl ?_
    exact ⟨rfl, by rw [hp.out]; exact DPost.same H.out⟩
set_option maxRecDepth 100000 in
set_option maxHeartbeats 1000000 in
theorem dpatch_any (base g : Nat) (v : Value) (m : Int) (s : Wr) (a x n : Int) (w : World) (h : WD base w g v m s) (hx0 : 0 ≤ x) (hx1 : x ≤ 4294967295) (ha0 : -9223372036854775808 ≤ a) (ha1 : a ≤ 9223372036854775807) (hn0 : -9223372036854775808 ≤ n) (hn1 : n ≤ 9223372036854775807) (hl : s.xs.length ≤ 140737488355328) :
    Calls Tryd.prog 13 #[.pointer (some ⟨g, 0, none⟩), .int .i64 a, .int .u32 x, .int .i64 n] w fun e w' => e = .returned (.tuple #[]) ∧ DPost base w w' g v m (s.patch a x n) := by
  by_cases he : s.e = 0
  · have c2 : w.cell? ⟨g, 2, none⟩ = some (.int .i64 0) := by rw [h.2.1.cell, ← he]; rfl
    have hff := dfits_any w x n hx0 hx1 hn0 hn1
    obtain ⟨A0, c0, hv, hc0, hm, hr0⟩ := own_shape h.2.2
    have c0' : w.cell? ⟨g, 0, none⟩ = some (.slice A0 s.xs.length c0) := by rw [h.2.1.cell, hv]; rfl
    by_cases hok : fitsB x n = true ∧ 0 ≤ a ∧ a ≤ (s.xs.length : Int) - n
    · obtain ⟨hf, h0, h1⟩ := hok
      have hp : Hid (s.patch a x n = { s with xs := pat s.xs a.toNat (pb x n.toNat) n.toNat }) := by show _ = _; rw [Wr.patch, if_pos he, if_pos ⟨hf, h0, h1⟩]
      rw [hf] at hff
      have hn : 1 ≤ n ∧ n ≤ 4 := by simp [fitsB] at hf; omega
      obtain ⟨N, rfl⟩ := Int.eq_ofNat_of_zero_le (by omega : 0 ≤ n)
      obtain ⟨a, rfl⟩ := Int.eq_ofNat_of_zero_le h0
      rw [Int.toNat_natCast, Int.toNat_natCast] at hp
      have hN1 : 1 ≤ N := by omega
      have hN4 : N ≤ 4 := by omega
      have haN : a + N ≤ s.xs.length := by omega
      obtain ⟨gb, cap, hv', hgb, hnc, hcm, hrow⟩ := Row.of_own h.2.2 (by omega)
      rw [hv'] at hv
      injection hv with hA _ hc
      subst hA hc
      unfold maxLen at hcm
      have hne : gb ≠ g := by
        have := own_blk_ne h.2.2 h.2.1 (by decide)
        rw [hv'] at this
        intro e
        exact this (by rw [e]; rfl)
      have HF := Lib.hid hff
      have H := Lib.hid h
      have HV := Lib.hid hv'
      have HRow := Lib.hid hrow
      clear h hff hf he hv' hr0 hrow hn hn0 hn1 ha0 ha1 h0
      go_enter Tryd.func13, Tryd.ntmps13
      go_wp2_with (go_at_call 26; refine HF.out.mono ?_; rintro e w' ⟨rfl, rfl⟩)
      go_loopw [8] (fun i wr => ∃ j : Nat, i = .int .i64 j ∧ j ≤ N ∧ Row wr gb 5 cap (u8s (pat s.xs a (pb x N) j)) ∧ Kept (fun i => i = gb) w wr) (fun i _ => N - (intOf i).toNat)
      case atStart => exact ⟨0, rfl, by omega, by rw [pat_zero]; exact HRow.out, Kept.refl _ _⟩
      case round =>
        obtain ⟨j, rfl, hj, hrow, hkept⟩ := hrel
        by_cases hlt : j < N
        · have hpl : (pat s.xs a (pb x N) j).length = s.xs.length := pat_length (by omega) (by rw [pb_length]; omega)
          obtain ⟨y, hy, hcy⟩ := hrow.u8cell (i := a + j) (by rw [hpl]; omega)
          have hfy := hrow.frozen (a + j)
          have hS : wr.drew.cell? ⟨g, 0, none⟩ = some (.slice (some ⟨gb, 0, none⟩) s.xs.length cap) := by
            have := (H.out.2.1.kept hkept (fun e => hne e.symm)).cell 0
            rw [HV.out] at this
            exact this
          have HS : Hid ((fun W : World => W.cell? ⟨g, 0, none⟩ = some (.slice (some ⟨gb, 0, none⟩) s.xs.length cap)) wr.drew) := hS
          have HSet := Lib.hid (hrow.u8set (a + j) (x / 2 ^ (8 * (N - 1 - j)) % 256))
          rw [pat_set (by omega) (pb_at x hlt)] at HSet
          have HK := Lib.hid (hkept.trans (kept_set wr gb (a + j) (.int .u8 (x / 2 ^ (8 * (N - 1 - j)) % 256))) (fun _ _ h => h)).drew
          clear hpl hS hrow hkept
          obtain ⟨q, hq⟩ : ∃ q, q = 8 * (N - 1 - j) := ⟨_, rfl⟩
          rw [← hq] at HSet HK
          obtain ⟨r, hr⟩ : ∃ r : Int, r = (N : Int) - 1 - j := ⟨_, rfl⟩
          have hq32 : (q : Int) ≤ 32 := by omega
          have hq0 : 0 ≤ (q : Int) := by omega
          have hwA : IntKind.i64.wrap ((N : Int) - 1) = (N : Int) - 1 := IntWalk.i64_in _ (by omega)
          have hwB : IntKind.i64.wrap ((N : Int) - 1 - j) = r := by rw [hr]; exact IntWalk.i64_in _ (by omega)
          have hwC : IntKind.i64.wrap (8 * r) = (q : Int) := by rw [IntWalk.i64_in _ (by omega)]; omega
          have hwD : IntKind.i64.wrap ((a : Int) + j) = (a : Int) + j := IntWalk.i64_in _ (by omega)
          have hi0 : 0 ≤ (a : Int) + j := by omega
          have hi1 : (a : Int) + j < (s.xs.length : Int) := by omega
          have hi2 : ((a : Int) + j).toNat = a + j := by omega
          clear hq hr
          go_wp2
          refine wp_region_s (fun W => W.cell? ⟨g, 0, none⟩ = some (.slice (some ⟨gb, 0, none⟩) s.xs.length cap)) [(0, true), (1, true), (2, true), (4, true), (5, true), (6, true), (7, true), (8, true), (9, true), (10, true), (11, true), (12, true), (13, true), (14, true), (3, true), (15, true), (16, false)] (by kernel_rfl) (fun _ d _ _ _ h => by cases d <;> exact h) ?_
          simp only [List.map_cons, List.map_nil, nthOp_zero, nthOp_succ]
          refine wpS_take HS (by rfl) (by intro W hW; go_simp; try with_reducible rfl) ?_
          refine wpS_take HS (by rfl) (by intro W hW; go_simp; try with_reducible rfl) ?_
          refine wpS_take HS (by rfl) (by intro W hW; go_simp; try with_reducible rfl) ?_
          refine wpS_take HS (by rfl) (by intro W hW; go_simp; try with_reducible rfl) ?_
          refine wpS_take HS (by rfl) (by intro W hW; go_simp; try with_reducible rfl) ?_
          refine wpS_take HS (by rfl) (by intro W hW; go_simp; try with_reducible rfl) ?_
          refine wpS_take HS (by rfl) (by intro W hW; go_simp; try with_reducible rfl) ?_
          refine wpS_take HS (by rfl) (by intro W hW; go_simp; try with_reducible rfl) ?_
          refine wpS_take HS (by rfl) (by intro W hW; go_simp; try with_reducible rfl) ?_
          refine wpS_take HS (by rfl) (by intro W hW; go_simp; try with_reducible rfl) ?_
          refine wpS_take HS (by rfl) (by intro W hW; go_simp; try with_reducible rfl) ?_
          refine wpS_take HS (by rfl) (by intro W hW; go_simp; try with_reducible rfl) ?_
          refine wpS_take HS (by rfl) (by intro W hW; go_simp; try with_reducible rfl) ?_
          refine wpS_take HS (by rfl) (by intro W hW; go_simp; try with_reducible rfl) ?_
          refine wpS_take HS (by rfl) (by intro W hW; go_simp; try with_reducible rfl) ?_
          refine wpS_take HS (by rfl) (by intro W hW; go_simp; try with_reducible rfl) ?_
          refine wpS_do fun K1 hK1 => ?_
          go_wp2
          refine hK1.out _ _ ?_ ?_
          · have := HS.out
            show World.cell? (wr.setCell ⟨gb, a + j, none⟩ _) _ = _
            rw [World.cell?_setCell_other _ _ _ _ (fun e => hne (by injection e))]
            exact this
          clear hK1 K1
          refine wpS_nil ?_
          go_wp2
          go_roundw
          case rel => exact ⟨j + 1, by go_num, by omega, HSet.out, HK.out⟩
          case measure => simp [intOf]; omega
        · obtain rfl : j = N := by omega
          have HR := Lib.hid hrow
          have HK := Lib.hid hkept
          clear hrow hkept
          go_wp2
          go_end0
          refine ⟨rfl, ?_⟩
          rw [hp.out]
          refine ⟨v, ⟨H.out.1, H.out.2.1.kept HK.out (fun e => hne e.symm), ?_⟩, HK.out.mono (fun i _ hi => .inr (by rw [HV.out, hi]; rfl)), .inl rfl⟩
          rw [HV.out]
          have hpl : (pat s.xs a (pb x j) j).length = s.xs.length := pat_length (by omega) (by rw [pb_length]; omega)
          show World.ownsRow _ _ _ _ _ (pat s.xs a (pb x j) j).length (u8s (pat s.xs a (pb x j) j))
          rw [← hpl]
          exact own_of_row HR.out hgb (by omega) (by rw [u8s_length])
    · have hp : Hid (s.patch a x n = { s with e := 1 }) := by show _ = _; rw [Wr.patch, if_pos he, if_neg hok]
      have f2 := h.2.1.frozen 2
      have H := Lib.hid h
      have HN : fitsB x n = true → 1 ≤ n ∧ n ≤ 4 := fun hf => by simp [fitsB] at hf; omega
      clear h he hv
      by_cases hf : fitsB x n = true
      · have hn := HN hf
        rw [hf] at hff
        have HF := Lib.hid hff
        have hno : ¬ (0 ≤ a ∧ a ≤ (s.xs.length : Int) - n) := fun e => hok ⟨hf, e.1, e.2⟩
        clear hff hf hok HN
        by_cases ha : a < 0
        all_goals
          go_enter Tryd.func13, Tryd.ntmps13
          go_wp2_with (go_at_call 26; refine HF.out.mono ?_; rintro e w' ⟨rfl, rfl⟩)
          refine bodyPost_ret (results_none rfl _ _ _) rfl ⟨rfl, ?_⟩
          rw [hp.out]
          exact DPost.err H.out 1 0
      · rw [Bool.not_eq_true] at hf
        rw [hf] at hff
        have HF := Lib.hid hff
        clear hff hf hok HN
        go_enter Tryd.func13, Tryd.ntmps13
        go_wp2_with (go_at_call 26; refine HF.out.mono ?_; rintro e w' ⟨rfl, rfl⟩)
        refine bodyPost_ret (results_none rfl _ _ _) rfl ⟨rfl, ?_⟩
        rw [hp.out]
        exact DPost.err H.out 1 0
  · have hp : Hid (s.patch a x n = s) := by show _ = _; rw [Wr.patch, if_neg he]
    have c2 : w.cell? ⟨g, 2, none⟩ = some (.int .i64 s.e) := by rw [h.2.1.cell]; rfl
    have hb : (s.e != 0) = true := by simp [he]
    have H := Lib.hid h
    clear he h
    go_enter Tryd.func13, Tryd.ntmps13
    go_wp2_with fail
    refine bodyPost_ret (results_none rfl _ _ _) rfl ?_
    exact ⟨rfl, by rw [hp.out]; exact DPost.same H.out⟩
end Go.Proofs.YtlnkjmjddecjdaaDoor
