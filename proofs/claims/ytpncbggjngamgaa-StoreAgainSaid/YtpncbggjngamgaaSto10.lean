/-
  One state that gets older: lives. Printed by gen_sto10.py.
-/
import Derived.Test.YtpncbggjngamgaaStq
namespace Go.Proofs.Ytpncbggjngamgaa
set_option linter.unusedVariables false
open Go.RowKit

theorem exec_key_eq {o : Oper} {ev : Operand → Value} {x y : Operand} {t : TypeId} (ho : o.op = .binOp .eql 45 x y t) (a b : Ky3) (hx : ev x = keyV a) (hy : ev y = keyV b) (W : World) :
    (execOp ev o).run Try.prog W = .ok (.value (.bool (decide (a = b)))) W := by
  unfold execOp
  simp only [ho]
  rw [hx, hy]
  have e1 : (eqGuard .eql 45 x y (keyV a) (keyV b)).run Try.prog W = .ok () W := run_eqGuard_agg _ _ _ _ _ _ _ Try.eqGuardType45
  simp [binOp, Sem.run_bind, Sem.run_pure, key_eq, e1, Result.andThen_ok]
theorem rd_nil (w : World) (h : Hd) (hh : h.ok) : (⟨h, none, 0, 0, []⟩ : SE).rd w := ⟨hh, ⟨rfl, fun h => absurd h (by simp)⟩, (fun k x hx => by simp at hx), ⟨Nat.le_refl _, by simp⟩, Nat.zero_le _⟩
theorem ks_one {f : Ky3 → Option OneE} {k : Ky3} {n : Nat} {ks : List Ky3} (hf : ∀ k', (f k').isSome = true ↔ k' = k) (h : KsOf f n ks) : ks = [k] := by
  refine asc_unique ks [k] h.asc ?_ fun e => by rw [h.mem, hf, List.mem_singleton]
  intro i j a b hij hi hj
  have := (List.getElem?_eq_some_iff.1 hj).1
  simp at this
  omega
/-- What is asked of the one state. -/
theorem lives_asks {f : Ky3 → Option OneE} {x : SE} (hx : x.h = ⟨10, 0, 1, 0, 0, 0, 0, 0⟩) (hf : f (1, 0, 0) = some ⟨x, 5⟩) : nextK f 5 [(1, 0, 0)] = some 3595 ∧ dueK f 3595 [(1, 0, 0)] = [(1, 0, 0)] ∧ (⟨x, 5⟩ : OneE).headAt 8 = ⟨13, 0, 1, 0, 0, 0, 0, 0⟩ := by
  obtain ⟨h, A, n, c, B⟩ := x
  simp only at hx
  subst hx
  refine ⟨?_, ?_, rfl⟩
  · simp only [nextK, entK, List.map_cons, List.map_nil, List.foldl_cons, List.foldl_nil, hf, Option.getD_some]
    rfl
  · simp only [dueK, hAt, List.filter_cons, List.filter_nil, hf, Option.getD_some]
    rfl
set_option maxRecDepth 100000 in
set_option maxHeartbeats 8000000 in
theorem lives_any (w : World) : Calls Try.prog 8 #[] w fun e w' => e = .returned (.bool true) ∧ Below w.heap.size w w' := by
  have HNew := Lib.hid (stnew_any 1 w (by omega) (by omega))
  go_enter Try.func8, Try.ntmps8
  go_wp2_with (go_at_call 22; refine HNew.out.mono ?_; rintro e w1 ⟨g, bm, rfl, q1, hg, hbm, hb1⟩; have HQ1 := Lib.hid q1; have HG := Lib.hid hg; have HBM := Lib.hid hbm; have HB1 := Lib.hid hb1; clear q1 hg hbm hb1)
  clear HNew
  have hb2 : Below w1.heap.size w1 (w1.alloc (.cells #[.int .u8 1, .int .u32 0, .int .u32 0] 45)) := (Below.refl _ _).alloc (Nat.le_refl _) _
  have HB2 := Lib.hid (below_then HB1.out hb2)
  have HQ2 := Lib.hid (HQ1.out.later hb2)
  have HK2 : Hid (Blk (w1.alloc (.cells #[.int .u8 1, .int .u32 0, .int .u32 0] 45)) w1.heap.size 45 #[.int .u8 1, .int .u32 0, .int .u32 0]) := Lib.hid (Blk.new _ _ _)
  have hkb : Hid (w1.heap.size ≠ bm) := Lib.hid (by have := HQ1.out.map.lt; omega)
  clear hb2 HB1 HQ1
  generalize w1.alloc (.cells #[.int .u8 1, .int .u32 0, .int .u32 0] 45) = w2 at *
  generalize w1.heap.size = gk at *
  have HP := Lib.hid (stput_any w2 g bm 1 _ 0 HQ2.out (⟨⟨10, 0, 1, 0, 0, 0, 0, 0⟩, none, 0, 0, []⟩ : SE) (rd_nil w2 _ ⟨by decide, by decide, by decide, by decide, by decide, by decide, by decide, by decide⟩) 5 (by omega) (.inr (by decide)))
  go_wp2_with fail
  refine HP.out.mono ?_
  rintro e w3 ⟨x', rfl, hxh, -, -, q3, hk3⟩
  have hb3 := below_kept HB2.out hk3 (fun i hi => by rw [hi]; exact HBM.out)
  have hkk := HK2.out.kept hk3 hkb.out
  simp only at hxh
  have q3' : StF w3 g bm 1 (updK (fun _ => none) (1, 0, 0) ⟨x', 5⟩) 1 := q3
  clear q3
  obtain ⟨f1, hf1⟩ : ∃ f1, updK (fun _ => none) (1, 0, 0) ⟨x', 5⟩ = f1 := ⟨_, rfl⟩
  rw [hf1] at q3'
  have hfx : f1 (1, 0, 0) = some ⟨x', 5⟩ := by rw [← hf1]; rfl
  have hf2 : f1 (2, 0, 0) = none := by rw [← hf1]; rfl
  have hfs : ∀ k', (f1 k').isSome = true ↔ k' = (1, 0, 0) := fun k' => by
    rw [← hf1]
    unfold updK
    by_cases h : k' = (1, 0, 0) <;> simp [h]
  obtain ⟨l1, l2, l3⟩ := lives_asks hxh hfx
  have HQ3 := Lib.hid q3'
  have HK3 := Lib.hid hkk
  have HB3 := Lib.hid hb3
  have HF := Lib.hid (And.intro hfx (And.intro hf2 hfs))
  have HA := Lib.hid (And.intro l1 (And.intro l2 l3))
  clear hxh hk3 q3' hf1 hfx hf2 hfs l1 l2 l3 hkk hb3 HP HQ2 HK2 HB2
  have HP2 := Lib.hid (stputfull_any w3 g bm 1 f1 1 HQ3.out (⟨⟨0, 0, 2, 0, 0, 0, 0, 0⟩, none, 0, 0, []⟩ : SE) (rd_nil w3 _ ⟨by decide, by decide, by decide, by decide, by decide, by decide, by decide, by decide⟩) 5 (by omega) ⟨HF.out.2.1, by decide⟩)
  go_wp2_with fail
  refine HP2.out.mono ?_
  rintro e w4 ⟨rfl, hb4⟩
  have HQ4 := Lib.hid (HQ3.out.later hb4)
  have HK4 := Lib.hid (HK3.out.later hb4)
  have HB4 := Lib.hid (below_then HB3.out hb4)
  clear hb4 HQ3 HK3 HB3 HP2
  have HGe := Lib.hid (stget_any w4 g bm 1 f1 1 HQ4.out (1, 0, 0) 8 (by omega))
  have kf0 := HK4.out.cell 0; have kf1 := HK4.out.cell 1; have kf2 := HK4.out.cell 2
  simp only [List.getElem?_toArray, List.getElem?_cons_zero, List.getElem?_cons_succ] at kf0 kf1 kf2
  go_wp2_with fail
  refine HGe.out.mono ?_
  rintro e w5 ⟨hge, -⟩
  obtain ⟨s', rfl, hsh, hso, hsB, hsn, hb5⟩ := hge _ HF.out.1
  rw [HA.out.2.2] at hsh
  obtain ⟨sh, sA, sn, sc, sB⟩ := s'
  simp only at hsh
  subst hsh
  have HQ5 := Lib.hid (HQ4.out.later hb5)
  have HK5 := Lib.hid (HK4.out.later hb5)
  have HB5 := Lib.hid (below_then HB4.out hb5)
  clear hge hso hsB hsn hb5 HQ4 HK4 HB4 HGe kf0 kf1 kf2
  go_wp2_with fail
  have hb6 : Below w5.heap.size w5 (w5.alloc (.cells #[.int .u16 13, .int .u8 0, .int .u8 1, .int .u32 0, .int .u32 0, .int .i32 0, .int .u16 0, .int .u16 0, .slice sA sn sc] 31)) := (Below.refl _ _).alloc (Nat.le_refl _) _
  have HX6 : Hid (Blk (w5.alloc (.cells #[.int .u16 13, .int .u8 0, .int .u8 1, .int .u32 0, .int .u32 0, .int .i32 0, .int .u16 0, .int .u16 0, .slice sA sn sc] 31)) w5.heap.size 31 #[.int .u16 13, .int .u8 0, .int .u8 1, .int .u32 0, .int .u32 0, .int .i32 0, .int .u16 0, .int .u16 0, .slice sA sn sc]) := Lib.hid (Blk.new _ _ _)
  have HQ6 := Lib.hid (HQ5.out.later hb6)
  have HK6 := Lib.hid (HK5.out.later hb6)
  have HB6 := Lib.hid (below_then HB5.out hb6)
  clear hb6 HQ5 HK5 HB5
  generalize w5.alloc (.cells #[.int .u16 13, .int .u8 0, .int .u8 1, .int .u32 0, .int .u32 0, .int .i32 0, .int .u16 0, .int .u16 0, .slice sA sn sc] 31) = w6 at *
  generalize w5.heap.size = gx at *
  have hq6 : ∀ k x, f1 k = some x → ∃ g' bm' most, some (⟨g, 0, none⟩ : Addr) = some ⟨g', 0, none⟩ ∧ StF w6 g' bm' most f1 1 := fun _ _ _ => ⟨g, bm, 1, rfl, HQ6.out⟩
  have HNx := Lib.hid (stnext_any (some ⟨g, 0, none⟩) 5 f1 1 w6 (eachAt_of HQ6.out (by omega) (by omega)) (by omega) hq6)
  clear hq6
  refine HNx.out.mono ?_
  rintro e w7 ⟨ks, hks, rfl, hb7⟩
  rw [ks_one HF.out.2.2 hks, HA.out.1]
  have HX7 := Lib.hid (HX6.out.later hb7)
  have HQ7 := Lib.hid (HQ6.out.later hb7)
  have HK7 := Lib.hid (HK6.out.later hb7)
  have HB7 := Lib.hid (below_then HB6.out hb7)
  clear hks hb7 HX6 HQ6 HK6 HB6 HNx
  have HD := Lib.hid (stdue_any (some ⟨g, 0, none⟩) 3595 f1 1 w7 (eachAt_of HQ7.out (by omega) (by omega)) (by omega))
  go_wp2_with fail
  refine HD.out.mono ?_
  rintro e w8 ⟨v, rfl, ks, hks, hown, hb8⟩
  rw [ks_one HF.out.2.2 hks, HA.out.2.1] at hown
  obtain ⟨A, c, rfl, hc1, hc2, hrd⟩ := own_shape_n hown
  obtain ⟨ad, hA, hadb, hcl⟩ := hrd.2 (by decide)
  subst hA
  have HKy : Hid (w8.cell? ad = some (.int .u8 1) ∧ w8.cell? ⟨ad.block, ad.off + 1, none⟩ = some (.int .u32 0) ∧ w8.cell? ⟨ad.block, ad.off + 2, none⟩ = some (.int .u32 0)) := by
    refine Lib.hid ⟨?_, ?_, ?_⟩
    · exact hcl 0 (.int .u8 1) rfl
    · exact hcl 1 (.int .u32 0) rfl
    · exact hcl 2 (.int .u32 0) rfl
  have HX8 := Lib.hid (HX7.out.later hb8)
  have HQ8 := Lib.hid (HQ7.out.later hb8)
  have HK8 := Lib.hid (HK7.out.later hb8)
  have HB8 := Lib.hid (below_then HB7.out hb8)
  have HC := Lib.hid (And.intro hc1 hc2)
  have hl1 : [(1, 0, 0)].length = 1 := rfl
  clear hks hown hrd hadb hcl hb8 HX7 HQ7 HK7 HB7 HD hc1 hc2
  go_wp2_with fail
  refine wp_region_s (fun W : World => Blk W gx 31 #[.int .u16 13, .int .u8 0, .int .u8 1, .int .u32 0, .int .u32 0, .int .i32 0, .int .u16 0, .int .u16 0, .slice sA sn sc] ∧ Blk W gk 45 #[.int .u8 1, .int .u32 0, .int .u32 0] ∧ (W.cell? ad = some (.int .u8 1) ∧ W.cell? ⟨ad.block, ad.off + 1, none⟩ = some (.int .u32 0) ∧ W.cell? ⟨ad.block, ad.off + 2, none⟩ = some (.int .u32 0)) ∧ StF W g bm 1 f1 1) [(0, true), (1, true), (2, true), (3, true), (4, true), (5, true), (6, true), (7, true), (8, true), (9, true), (10, true), (11, true), (12, true), (13, true), (14, true), (15, true), (16, true), (17, true), (18, true), (19, true), (20, true), (21, true), (22, true), (23, true), (24, true), (25, true), (26, true), (27, true), (28, true), (29, true), (30, true), (31, true), (32, true), (33, true), (34, true), (35, true), (36, false), (37, true), (38, true), (39, true)] (by kernel_rfl) (fun _ d _ _ _ h => by cases d <;> exact h) ?_
  simp only [List.map_cons, List.map_nil, nthOp_zero, nthOp_succ]
  have hbd : Below w8.heap.size w8 w8.drew := (Below.refl _ _).drew
  have HS : Hid ((fun W : World => Blk W gx 31 #[.int .u16 13, .int .u8 0, .int .u8 1, .int .u32 0, .int .u32 0, .int .i32 0, .int .u16 0, .int .u16 0, .slice sA sn sc] ∧ Blk W gk 45 #[.int .u8 1, .int .u32 0, .int .u32 0] ∧ (W.cell? ad = some (.int .u8 1) ∧ W.cell? ⟨ad.block, ad.off + 1, none⟩ = some (.int .u32 0) ∧ W.cell? ⟨ad.block, ad.off + 2, none⟩ = some (.int .u32 0)) ∧ StF W g bm 1 f1 1) w8.drew) := Lib.hid ⟨HX8.out.later hbd, HK8.out.later hbd, ⟨(hbd.cell (cell_lt HKy.out.1)).trans HKy.out.1, (hbd.cell (cell_lt HKy.out.2.1)).trans HKy.out.2.1, (hbd.cell (cell_lt HKy.out.2.2)).trans HKy.out.2.2⟩, HQ8.out.later hbd⟩
  have HB9 := Lib.hid (below_then HB8.out hbd)
  clear hbd HX8 HQ8 HK8 HB8 HKy
  generalize w8.drew = w9 at *
  refine wpS_take HS (by kernel_rfl) (by intro W hW; have j0 := hW.1.cell 0; have k0 := hW.2.1.cell 0; have k1 := hW.2.1.cell 1; have k2 := hW.2.1.cell 2; have q0 := hW.2.2.1.1; have q1 := hW.2.2.1.2.1; have q2 := hW.2.2.1.2.2; simp only [List.getElem?_toArray, List.getElem?_cons_zero, List.getElem?_cons_succ] at j0 k0 k1 k2; clear hW; go_simp; try with_reducible rfl) ?_
  refine wpS_take HS (by kernel_rfl) (by intro W hW; have j0 := hW.1.cell 0; have k0 := hW.2.1.cell 0; have k1 := hW.2.1.cell 1; have k2 := hW.2.1.cell 2; have q0 := hW.2.2.1.1; have q1 := hW.2.2.1.2.1; have q2 := hW.2.2.1.2.2; simp only [List.getElem?_toArray, List.getElem?_cons_zero, List.getElem?_cons_succ] at j0 k0 k1 k2; clear hW; go_simp; try with_reducible rfl) ?_
  refine wpS_take HS (by kernel_rfl) (by intro W hW; have j0 := hW.1.cell 0; have k0 := hW.2.1.cell 0; have k1 := hW.2.1.cell 1; have k2 := hW.2.1.cell 2; have q0 := hW.2.2.1.1; have q1 := hW.2.2.1.2.1; have q2 := hW.2.2.1.2.2; simp only [List.getElem?_toArray, List.getElem?_cons_zero, List.getElem?_cons_succ] at j0 k0 k1 k2; clear hW; go_simp; try with_reducible rfl) ?_
  refine wpS_take HS (by kernel_rfl) (by intro W hW; have j0 := hW.1.cell 0; have k0 := hW.2.1.cell 0; have k1 := hW.2.1.cell 1; have k2 := hW.2.1.cell 2; have q0 := hW.2.2.1.1; have q1 := hW.2.2.1.2.1; have q2 := hW.2.2.1.2.2; simp only [List.getElem?_toArray, List.getElem?_cons_zero, List.getElem?_cons_succ] at j0 k0 k1 k2; clear hW; go_simp; try with_reducible rfl) ?_
  refine wpS_take HS (by kernel_rfl) (by intro W hW; have j0 := hW.1.cell 0; have k0 := hW.2.1.cell 0; have k1 := hW.2.1.cell 1; have k2 := hW.2.1.cell 2; have q0 := hW.2.2.1.1; have q1 := hW.2.2.1.2.1; have q2 := hW.2.2.1.2.2; simp only [List.getElem?_toArray, List.getElem?_cons_zero, List.getElem?_cons_succ] at j0 k0 k1 k2; clear hW; go_simp; try with_reducible rfl) ?_
  refine wpS_take HS (by kernel_rfl) (by intro W hW; have j0 := hW.1.cell 0; have k0 := hW.2.1.cell 0; have k1 := hW.2.1.cell 1; have k2 := hW.2.1.cell 2; have q0 := hW.2.2.1.1; have q1 := hW.2.2.1.2.1; have q2 := hW.2.2.1.2.2; simp only [List.getElem?_toArray, List.getElem?_cons_zero, List.getElem?_cons_succ] at j0 k0 k1 k2; clear hW; go_simp; try with_reducible rfl) ?_
  refine wpS_take HS (by kernel_rfl) (by intro W hW; have j0 := hW.1.cell 0; have k0 := hW.2.1.cell 0; have k1 := hW.2.1.cell 1; have k2 := hW.2.1.cell 2; have q0 := hW.2.2.1.1; have q1 := hW.2.2.1.2.1; have q2 := hW.2.2.1.2.2; simp only [List.getElem?_toArray, List.getElem?_cons_zero, List.getElem?_cons_succ] at j0 k0 k1 k2; clear hW; go_simp; try with_reducible rfl) ?_
  refine wpS_take HS (by kernel_rfl) (by intro W hW; have j0 := hW.1.cell 0; have k0 := hW.2.1.cell 0; have k1 := hW.2.1.cell 1; have k2 := hW.2.1.cell 2; have q0 := hW.2.2.1.1; have q1 := hW.2.2.1.2.1; have q2 := hW.2.2.1.2.2; simp only [List.getElem?_toArray, List.getElem?_cons_zero, List.getElem?_cons_succ] at j0 k0 k1 k2; clear hW; go_simp; try with_reducible rfl) ?_
  refine wpS_take HS (by kernel_rfl) (by intro W hW; have j0 := hW.1.cell 0; have k0 := hW.2.1.cell 0; have k1 := hW.2.1.cell 1; have k2 := hW.2.1.cell 2; have q0 := hW.2.2.1.1; have q1 := hW.2.2.1.2.1; have q2 := hW.2.2.1.2.2; simp only [List.getElem?_toArray, List.getElem?_cons_zero, List.getElem?_cons_succ] at j0 k0 k1 k2; clear hW; go_simp; try with_reducible rfl) ?_
  refine wpS_take HS (by kernel_rfl) (by intro W hW; have j0 := hW.1.cell 0; have k0 := hW.2.1.cell 0; have k1 := hW.2.1.cell 1; have k2 := hW.2.1.cell 2; have q0 := hW.2.2.1.1; have q1 := hW.2.2.1.2.1; have q2 := hW.2.2.1.2.2; simp only [List.getElem?_toArray, List.getElem?_cons_zero, List.getElem?_cons_succ] at j0 k0 k1 k2; clear hW; go_simp; try with_reducible rfl) ?_
  refine wpS_take HS (by kernel_rfl) (by intro W hW; have j0 := hW.1.cell 0; have k0 := hW.2.1.cell 0; have k1 := hW.2.1.cell 1; have k2 := hW.2.1.cell 2; have q0 := hW.2.2.1.1; have q1 := hW.2.2.1.2.1; have q2 := hW.2.2.1.2.2; simp only [List.getElem?_toArray, List.getElem?_cons_zero, List.getElem?_cons_succ] at j0 k0 k1 k2; clear hW; go_simp; try with_reducible rfl) ?_
  refine wpS_take HS (by kernel_rfl) (by intro W hW; have j0 := hW.1.cell 0; have k0 := hW.2.1.cell 0; have k1 := hW.2.1.cell 1; have k2 := hW.2.1.cell 2; have q0 := hW.2.2.1.1; have q1 := hW.2.2.1.2.1; have q2 := hW.2.2.1.2.2; simp only [List.getElem?_toArray, List.getElem?_cons_zero, List.getElem?_cons_succ] at j0 k0 k1 k2; clear hW; go_simp; try with_reducible rfl) ?_
  refine wpS_take HS (by kernel_rfl) (by intro W hW; have j0 := hW.1.cell 0; have k0 := hW.2.1.cell 0; have k1 := hW.2.1.cell 1; have k2 := hW.2.1.cell 2; have q0 := hW.2.2.1.1; have q1 := hW.2.2.1.2.1; have q2 := hW.2.2.1.2.2; simp only [List.getElem?_toArray, List.getElem?_cons_zero, List.getElem?_cons_succ] at j0 k0 k1 k2; clear hW; go_simp; try with_reducible rfl) ?_
  refine wpS_take HS (by kernel_rfl) (by intro W hW; have j0 := hW.1.cell 0; have k0 := hW.2.1.cell 0; have k1 := hW.2.1.cell 1; have k2 := hW.2.1.cell 2; have q0 := hW.2.2.1.1; have q1 := hW.2.2.1.2.1; have q2 := hW.2.2.1.2.2; simp only [List.getElem?_toArray, List.getElem?_cons_zero, List.getElem?_cons_succ] at j0 k0 k1 k2; clear hW; go_simp; try with_reducible rfl) ?_
  refine wpS_take HS (by kernel_rfl) (by intro W hW; have j0 := hW.1.cell 0; have k0 := hW.2.1.cell 0; have k1 := hW.2.1.cell 1; have k2 := hW.2.1.cell 2; have q0 := hW.2.2.1.1; have q1 := hW.2.2.1.2.1; have q2 := hW.2.2.1.2.2; simp only [List.getElem?_toArray, List.getElem?_cons_zero, List.getElem?_cons_succ] at j0 k0 k1 k2; clear hW; go_simp; try with_reducible rfl) ?_
  refine wpS_take HS (by kernel_rfl) (by intro W hW; have j0 := hW.1.cell 0; have k0 := hW.2.1.cell 0; have k1 := hW.2.1.cell 1; have k2 := hW.2.1.cell 2; have q0 := hW.2.2.1.1; have q1 := hW.2.2.1.2.1; have q2 := hW.2.2.1.2.2; simp only [List.getElem?_toArray, List.getElem?_cons_zero, List.getElem?_cons_succ] at j0 k0 k1 k2; clear hW; go_simp; try with_reducible rfl) ?_
  refine wpS_take HS (by kernel_rfl) (by intro W hW; have j0 := hW.1.cell 0; have k0 := hW.2.1.cell 0; have k1 := hW.2.1.cell 1; have k2 := hW.2.1.cell 2; have q0 := hW.2.2.1.1; have q1 := hW.2.2.1.2.1; have q2 := hW.2.2.1.2.2; simp only [List.getElem?_toArray, List.getElem?_cons_zero, List.getElem?_cons_succ] at j0 k0 k1 k2; clear hW; go_simp; try with_reducible rfl) ?_
  refine wpS_take HS (by kernel_rfl) (by intro W hW; have j0 := hW.1.cell 0; have k0 := hW.2.1.cell 0; have k1 := hW.2.1.cell 1; have k2 := hW.2.1.cell 2; have q0 := hW.2.2.1.1; have q1 := hW.2.2.1.2.1; have q2 := hW.2.2.1.2.2; simp only [List.getElem?_toArray, List.getElem?_cons_zero, List.getElem?_cons_succ] at j0 k0 k1 k2; clear hW; go_simp; try with_reducible rfl) ?_
  refine wpS_take HS (by kernel_rfl) (by intro W hW; have j0 := hW.1.cell 0; have k0 := hW.2.1.cell 0; have k1 := hW.2.1.cell 1; have k2 := hW.2.1.cell 2; have q0 := hW.2.2.1.1; have q1 := hW.2.2.1.2.1; have q2 := hW.2.2.1.2.2; simp only [List.getElem?_toArray, List.getElem?_cons_zero, List.getElem?_cons_succ] at j0 k0 k1 k2; clear hW; go_simp; try with_reducible rfl) ?_
  refine wpS_take HS (by kernel_rfl) (by intro W hW; have j0 := hW.1.cell 0; have k0 := hW.2.1.cell 0; have k1 := hW.2.1.cell 1; have k2 := hW.2.1.cell 2; have q0 := hW.2.2.1.1; have q1 := hW.2.2.1.2.1; have q2 := hW.2.2.1.2.2; simp only [List.getElem?_toArray, List.getElem?_cons_zero, List.getElem?_cons_succ] at j0 k0 k1 k2; clear hW; go_simp; try with_reducible rfl) ?_
  refine wpS_take HS (by kernel_rfl) (by intro W hW; have j0 := hW.1.cell 0; have k0 := hW.2.1.cell 0; have k1 := hW.2.1.cell 1; have k2 := hW.2.1.cell 2; have q0 := hW.2.2.1.1; have q1 := hW.2.2.1.2.1; have q2 := hW.2.2.1.2.2; simp only [List.getElem?_toArray, List.getElem?_cons_zero, List.getElem?_cons_succ] at j0 k0 k1 k2; clear hW; go_simp; try with_reducible rfl) ?_
  refine wpS_take HS (by kernel_rfl) (by intro W hW; have j0 := hW.1.cell 0; have k0 := hW.2.1.cell 0; have k1 := hW.2.1.cell 1; have k2 := hW.2.1.cell 2; have q0 := hW.2.2.1.1; have q1 := hW.2.2.1.2.1; have q2 := hW.2.2.1.2.2; simp only [List.getElem?_toArray, List.getElem?_cons_zero, List.getElem?_cons_succ] at j0 k0 k1 k2; clear hW; go_simp; try with_reducible rfl) ?_
  refine wpS_take HS (by kernel_rfl) (by intro W hW; have j0 := hW.1.cell 0; have k0 := hW.2.1.cell 0; have k1 := hW.2.1.cell 1; have k2 := hW.2.1.cell 2; have q0 := hW.2.2.1.1; have q1 := hW.2.2.1.2.1; have q2 := hW.2.2.1.2.2; simp only [List.getElem?_toArray, List.getElem?_cons_zero, List.getElem?_cons_succ] at j0 k0 k1 k2; clear hW; go_simp; try with_reducible rfl) ?_
  refine wpS_take HS (by kernel_rfl) (by intro W hW; have j0 := hW.1.cell 0; have k0 := hW.2.1.cell 0; have k1 := hW.2.1.cell 1; have k2 := hW.2.1.cell 2; have q0 := hW.2.2.1.1; have q1 := hW.2.2.1.2.1; have q2 := hW.2.2.1.2.2; simp only [List.getElem?_toArray, List.getElem?_cons_zero, List.getElem?_cons_succ] at j0 k0 k1 k2; clear hW; go_simp; try with_reducible rfl) ?_
  refine wpS_take HS (by kernel_rfl) (by intro W hW; have j0 := hW.1.cell 0; have k0 := hW.2.1.cell 0; have k1 := hW.2.1.cell 1; have k2 := hW.2.1.cell 2; have q0 := hW.2.2.1.1; have q1 := hW.2.2.1.2.1; have q2 := hW.2.2.1.2.2; simp only [List.getElem?_toArray, List.getElem?_cons_zero, List.getElem?_cons_succ] at j0 k0 k1 k2; clear hW; go_simp; try with_reducible rfl) ?_
  refine wpS_take HS (by kernel_rfl) (by intro W hW; have j0 := hW.1.cell 0; have k0 := hW.2.1.cell 0; have k1 := hW.2.1.cell 1; have k2 := hW.2.1.cell 2; have q0 := hW.2.2.1.1; have q1 := hW.2.2.1.2.1; have q2 := hW.2.2.1.2.2; simp only [List.getElem?_toArray, List.getElem?_cons_zero, List.getElem?_cons_succ] at j0 k0 k1 k2; clear hW; go_simp; try with_reducible rfl) ?_
  refine wpS_take HS (by kernel_rfl) (by intro W hW; have j0 := hW.1.cell 0; have k0 := hW.2.1.cell 0; have k1 := hW.2.1.cell 1; have k2 := hW.2.1.cell 2; have q0 := hW.2.2.1.1; have q1 := hW.2.2.1.2.1; have q2 := hW.2.2.1.2.2; simp only [List.getElem?_toArray, List.getElem?_cons_zero, List.getElem?_cons_succ] at j0 k0 k1 k2; clear hW; go_simp; try with_reducible rfl) ?_
  refine wpS_take HS (by kernel_rfl) (by intro W hW; have j0 := hW.1.cell 0; have k0 := hW.2.1.cell 0; have k1 := hW.2.1.cell 1; have k2 := hW.2.1.cell 2; have q0 := hW.2.2.1.1; have q1 := hW.2.2.1.2.1; have q2 := hW.2.2.1.2.2; simp only [List.getElem?_toArray, List.getElem?_cons_zero, List.getElem?_cons_succ] at j0 k0 k1 k2; clear hW; go_simp; try with_reducible rfl) ?_
  refine wpS_take HS (by kernel_rfl) (by intro W hW; have j0 := hW.1.cell 0; have k0 := hW.2.1.cell 0; have k1 := hW.2.1.cell 1; have k2 := hW.2.1.cell 2; have q0 := hW.2.2.1.1; have q1 := hW.2.2.1.2.1; have q2 := hW.2.2.1.2.2; simp only [List.getElem?_toArray, List.getElem?_cons_zero, List.getElem?_cons_succ] at j0 k0 k1 k2; clear hW; go_simp; try with_reducible rfl) ?_
  refine wpS_take HS (by kernel_rfl) (by intro W hW; have j0 := hW.1.cell 0; have k0 := hW.2.1.cell 0; have k1 := hW.2.1.cell 1; have k2 := hW.2.1.cell 2; have q0 := hW.2.2.1.1; have q1 := hW.2.2.1.2.1; have q2 := hW.2.2.1.2.2; simp only [List.getElem?_toArray, List.getElem?_cons_zero, List.getElem?_cons_succ] at j0 k0 k1 k2; clear hW; go_simp; try with_reducible rfl) ?_
  refine wpS_take HS (by kernel_rfl) (by intro W hW; have j0 := hW.1.cell 0; have k0 := hW.2.1.cell 0; have k1 := hW.2.1.cell 1; have k2 := hW.2.1.cell 2; have q0 := hW.2.2.1.1; have q1 := hW.2.2.1.2.1; have q2 := hW.2.2.1.2.2; simp only [List.getElem?_toArray, List.getElem?_cons_zero, List.getElem?_cons_succ] at j0 k0 k1 k2; clear hW; go_simp; try with_reducible rfl) ?_
  refine wpS_take HS (by kernel_rfl) (by intro W hW; have j0 := hW.1.cell 0; have k0 := hW.2.1.cell 0; have k1 := hW.2.1.cell 1; have k2 := hW.2.1.cell 2; have q0 := hW.2.2.1.1; have q1 := hW.2.2.1.2.1; have q2 := hW.2.2.1.2.2; simp only [List.getElem?_toArray, List.getElem?_cons_zero, List.getElem?_cons_succ] at j0 k0 k1 k2; clear hW; go_simp; try with_reducible rfl) ?_
  go_simp
  refine wpS_take HS (by kernel_rfl) (fun W _ => exec_key_eq rfl (1, 0, 0) (1, 0, 0) rfl rfl W) ?_
  rw [show decide (((1, 0, 0) : Ky3) = (1, 0, 0)) = true from rfl]
  refine wpS_take HS (by kernel_rfl) (by intro W hW; have j0 := hW.1.cell 0; have k0 := hW.2.1.cell 0; have k1 := hW.2.1.cell 1; have k2 := hW.2.1.cell 2; have q0 := hW.2.2.1.1; have q1 := hW.2.2.1.2.1; have q2 := hW.2.2.1.2.2; simp only [List.getElem?_toArray, List.getElem?_cons_zero, List.getElem?_cons_succ] at j0 k0 k1 k2; clear hW; go_simp; try with_reducible rfl) ?_
  refine wpS_take HS (by kernel_rfl) (by intro W hW; have j0 := hW.1.cell 0; have k0 := hW.2.1.cell 0; have k1 := hW.2.1.cell 1; have k2 := hW.2.1.cell 2; have q0 := hW.2.2.1.1; have q1 := hW.2.2.1.2.1; have q2 := hW.2.2.1.2.2; simp only [List.getElem?_toArray, List.getElem?_cons_zero, List.getElem?_cons_succ] at j0 k0 k1 k2; clear hW; go_simp; try with_reducible rfl) ?_
  refine wpS_take HS (by kernel_rfl) (by intro W hW; have j0 := hW.1.cell 0; have k0 := hW.2.1.cell 0; have k1 := hW.2.1.cell 1; have k2 := hW.2.1.cell 2; have q0 := hW.2.2.1.1; have q1 := hW.2.2.1.2.1; have q2 := hW.2.2.1.2.2; simp only [List.getElem?_toArray, List.getElem?_cons_zero, List.getElem?_cons_succ] at j0 k0 k1 k2; clear hW; go_simp; try with_reducible rfl) ?_
  go_simp
  refine wpS_do fun K hK => ?_
  go_wp2_with fail
  refine (stlen_any w9 g bm 1 f1 1 HS.out.2.2.2).mono ?_
  rintro e w10 ⟨rfl, rfl⟩
  go_wp2_with fail
  refine hK.out _ _ HS.out ?_
  clear hK K
  refine wpS_take HS (by kernel_rfl) (by intro W hW; have j0 := hW.1.cell 0; have k0 := hW.2.1.cell 0; have k1 := hW.2.1.cell 1; have k2 := hW.2.1.cell 2; have q0 := hW.2.2.1.1; have q1 := hW.2.2.1.2.1; have q2 := hW.2.2.1.2.2; simp only [List.getElem?_toArray, List.getElem?_cons_zero, List.getElem?_cons_succ] at j0 k0 k1 k2; clear hW; go_simp; try with_reducible rfl) ?_
  refine wpS_take HS (by kernel_rfl) (by intro W hW; have j0 := hW.1.cell 0; have k0 := hW.2.1.cell 0; have k1 := hW.2.1.cell 1; have k2 := hW.2.1.cell 2; have q0 := hW.2.2.1.1; have q1 := hW.2.2.1.2.1; have q2 := hW.2.2.1.2.2; simp only [List.getElem?_toArray, List.getElem?_cons_zero, List.getElem?_cons_succ] at j0 k0 k1 k2; clear hW; go_simp; try with_reducible rfl) ?_
  refine wpS_take HS (by kernel_rfl) (by intro W hW; have j0 := hW.1.cell 0; have k0 := hW.2.1.cell 0; have k1 := hW.2.1.cell 1; have k2 := hW.2.1.cell 2; have q0 := hW.2.2.1.1; have q1 := hW.2.2.1.2.1; have q2 := hW.2.2.1.2.2; simp only [List.getElem?_toArray, List.getElem?_cons_zero, List.getElem?_cons_succ] at j0 k0 k1 k2; clear hW; go_simp; try with_reducible rfl) ?_
  refine wpS_nil ?_
  go_simp
  go_wp2
  go_ret
  exact ⟨rfl, HB9.out⟩
end Go.Proofs.Ytpncbggjngamgaa
