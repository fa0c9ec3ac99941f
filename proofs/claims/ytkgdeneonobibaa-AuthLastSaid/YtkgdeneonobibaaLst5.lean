/-
  AuthLast: the walk.
-/
import Derived.Test.YtkgdeneonobibaaLst4
namespace Go.Proofs.Ytkgdeneonobibaa
set_option linter.unusedVariables false
open Go.RowKit

set_option maxRecDepth 100000 in
set_option maxHeartbeats 4000000 in
theorem authLast_walk (A : Option Addr) (n c : Nat) (L : List OpK) (w : World) (hL : Ops w A n L) (hc : n ≤ c) (hm : c ≤ 9223372036854775807) :
    Calls Try.prog 6 #[.slice A n c] w fun e w' => e = .returned (.bool true) ∧ Below w.heap.size w w' := by
  have HL := Lib.hid hL
  clear hL
  go_enter Try.func6, Try.ntmps6
  by_cases hbig : 1000 < n
  · go_wp2_with (go_at_call 10; refine (lives_any w).mono ?_; rintro e w7 ⟨rfl, hb⟩; have HE := Lib.hid hb; clear hb)
    go_ret
    exact ⟨rfl, HE.out⟩
  go_wp2_with fail
  refine (new_any w).mono ?_
  rintro e w1 ⟨g, bm, rfl, hM1, _, ob1, hb1⟩
  have H1 : Hid (LastM w1 g bm [] ∧ w.heap.size ≤ bm ∧ Below w.heap.size w w1) := ⟨hM1, ob1, hb1⟩
  clear hM1 ob1 hb1
  go_wp2_with fail
  refine (new_any w1).mono ?_
  rintro e w2 ⟨g2, bm2, rfl, hM2, _, ob2, hb2⟩
  have HI := Lib.hid (LI.start H1.out.1 hM2 H1.out.2.1 ob2 H1.out.2.2 hb2)
  clear hM2 ob2 hb2 H1
  go_wp2
  generalize w2.alloc (.cells #[.slice none 0 0] 54) = w3 at *
  generalize w2.heap.size = gd at *
  go_loopw [6] (LaRel w g bm g2 bm2 gd n) (fun i _ => n - (intOf i).toNat)
  case atStart => exact ⟨0, _, rfl, by omega, HI.out⟩
  case round =>
    clear HI
    obtain ⟨j, f, rfl, hj, hi⟩ := hrel
    have HI := Lib.hid hi
    clear hi
    by_cases hlt : j < n
    · obtain ⟨ad, k, rfl, hk, hu1, hu2, c0, c1, c2⟩ := (HL.out.later HI.out.b).at_ hlt
      obtain ⟨d, r, s⟩ := k
      simp only at c0 c1 c2 hu1 hu2
      have hb4 : Hid (Below wr.heap.size wr (wr.alloc (.cells #[.int .u8 d, .int .u32 r, .int .u32 s] 56))) := (Below.refl _ _).alloc (Nat.le_refl _) _
      cases hz : (d % 4 == 0)
      · go_wp2_with fail
        have HI4 := Lib.hid (HI.out.later hb4.out)
        have HX : Hid (Blk (wr.alloc (.cells #[.int .u8 d, .int .u32 r, .int .u32 s] 56)) wr.heap.size 56 #[.int .u8 d, .int .u32 r, .int .u32 s]) := Blk.new _ _ _
        clear hb4 HI c0 c1 c2
        generalize wr.alloc (.cells #[.int .u8 d, .int .u32 r, .int .u32 s] 56) = w4 at *
        generalize wr.heap.size = gx at *
        refine wp_region_s (fun W : World => Blk W gx 56 #[.int .u8 d, .int .u32 r, .int .u32 s]) [(0, true), (1, true), (3, true), (6, true), (7, true), (9, true), (2, true), (4, true), (8, true), (10, true), (5, false), (11, false), (12, true)] (by kernel_rfl) (fun _ d _ _ _ h => by cases d <;> exact h) ?_
        simp only [List.map_cons, List.map_nil, nthOp_zero, nthOp_succ]
        have HI4d : Hid (LI w w4.drew g bm g2 bm2 gd f f j) := HI4.out.later ((Below.refl _ _).drew)
        have HX4 : Hid (Blk w4.drew gx 56 #[.int .u8 d, .int .u32 r, .int .u32 s]) := HX.out
        clear HI4 HX
        generalize w4.drew = w4 at *
        refine wpS_take HX4 (by kernel_rfl) (by intro W hW; have q0 := hW.cell 0; have q1 := hW.cell 1; have q2 := hW.cell 2; clear hW; simp only [List.getElem?_toArray, List.getElem?_cons_zero, List.getElem?_cons_succ] at q0 q1 q2; go_simp; try with_reducible rfl) ?_
        refine wpS_take HX4 (by kernel_rfl) (by intro W hW; have q0 := hW.cell 0; have q1 := hW.cell 1; have q2 := hW.cell 2; clear hW; simp only [List.getElem?_toArray, List.getElem?_cons_zero, List.getElem?_cons_succ] at q0 q1 q2; go_simp; try with_reducible rfl) ?_
        refine wpS_take HX4 (by kernel_rfl) (by intro W hW; have q0 := hW.cell 0; have q1 := hW.cell 1; have q2 := hW.cell 2; clear hW; simp only [List.getElem?_toArray, List.getElem?_cons_zero, List.getElem?_cons_succ] at q0 q1 q2; go_simp; try with_reducible rfl) ?_
        refine wpS_take HX4 (by kernel_rfl) (by intro W hW; have q0 := hW.cell 0; have q1 := hW.cell 1; have q2 := hW.cell 2; clear hW; simp only [List.getElem?_toArray, List.getElem?_cons_zero, List.getElem?_cons_succ] at q0 q1 q2; go_simp; try with_reducible rfl) ?_
        refine wpS_take HX4 (by kernel_rfl) (by intro W hW; have q0 := hW.cell 0; have q1 := hW.cell 1; have q2 := hW.cell 2; clear hW; simp only [List.getElem?_toArray, List.getElem?_cons_zero, List.getElem?_cons_succ] at q0 q1 q2; go_simp; try with_reducible rfl) ?_
        refine wpS_take HX4 (by kernel_rfl) (by intro W hW; have q0 := hW.cell 0; have q1 := hW.cell 1; have q2 := hW.cell 2; clear hW; simp only [List.getElem?_toArray, List.getElem?_cons_zero, List.getElem?_cons_succ] at q0 q1 q2; go_simp; try with_reducible rfl) ?_
        refine wpS_take HX4 (by kernel_rfl) (by intro W hW; have q0 := hW.cell 0; have q1 := hW.cell 1; have q2 := hW.cell 2; clear hW; simp only [List.getElem?_toArray, List.getElem?_cons_zero, List.getElem?_cons_succ] at q0 q1 q2; go_simp; try with_reducible rfl) ?_
        refine wpS_take HX4 (by kernel_rfl) (by intro W hW; have q0 := hW.cell 0; have q1 := hW.cell 1; have q2 := hW.cell 2; clear hW; simp only [List.getElem?_toArray, List.getElem?_cons_zero, List.getElem?_cons_succ] at q0 q1 q2; go_simp; try with_reducible rfl) ?_
        refine wpS_take HX4 (by kernel_rfl) (by intro W hW; have q0 := hW.cell 0; have q1 := hW.cell 1; have q2 := hW.cell 2; clear hW; simp only [List.getElem?_toArray, List.getElem?_cons_zero, List.getElem?_cons_succ] at q0 q1 q2; go_simp; try with_reducible rfl) ?_
        refine wpS_take HX4 (by kernel_rfl) (by intro W hW; have q0 := hW.cell 0; have q1 := hW.cell 1; have q2 := hW.cell 2; clear hW; simp only [List.getElem?_toArray, List.getElem?_cons_zero, List.getElem?_cons_succ] at q0 q1 q2; go_simp; try with_reducible rfl) ?_
        refine wpS_do fun K1 hK1 => ?_
        go_wp2_with fail
        refine (takeM_any w4 g bm f r s HI4d.out.x).mono ?_
        rintro e w5 ⟨rfl, hx5, hk5⟩
        have HX5 := Lib.hid (HI4d.out.boxX HX4.out hk5)
        have HI5 := Lib.hid (HI4d.out.setX hx5 hk5)
        clear HI4d HX4 hx5 hk5
        go_wp2_with fail
        refine hK1.out _ _ HX5.out ?_
        clear hK1 K1
        refine wpS_do fun K1 hK1 => ?_
        have HT := Lib.hid (HI5.out.takeD (by omega) r s)
        go_wp2_with fail
        refine HT.out.mono ?_
        rintro e w6 ⟨rfl, hi6, hk6⟩
        have HX6 := Lib.hid (HI5.out.boxD HX5.out (by decide) hk6)
        have HI6 := Lib.hid hi6
        clear hi6 hk6 HI5 HX5 HT
        generalize takeE (f r) s = v6 at *
        generalize takeF f r s = f6 at *
        go_wp2_with fail
        refine hK1.out _ _ HX6.out ?_
        clear hK1 K1
        refine wpS_take HX6 (by kernel_rfl) (by intro W hW; clear hW; go_simp; try with_reducible rfl) ?_
        refine wpS_nil ?_
        go_simp
        clear HX6
        go_wp2_with fail
        go_loopw [8] (InRel w6 (j + 1)) (fun i _ => j + 1 - (intOf i).toNat)
        case atStart => exact ⟨0, rfl, by omega, rfl⟩
        case round =>
          obtain ⟨q, rfl, hq, rfl⟩ := hrel
          by_cases hlt2 : q ≤ j
          · obtain ⟨ad2, k2, had, _, _, _, c0, c1, c2⟩ := (HL.out.later HI6.out.b).at_ (i := q) (by omega)
            injection had with had
            subst had
            obtain ⟨d2, r2, s2⟩ := k2
            simp only at c0 c1 c2
            have HG1 := Lib.hid (getF_any _ g bm f6 r2 HI6.out.x)
            have HG2 := Lib.hid (HI6.out.getD r2)
            generalize f6 r2 = o2 at HG1 HG2
            cases o2 with
            | none =>
              simp only [getV] at HG1 HG2
              go_wp2_with fail
              refine HG1.out.mono ?_
              rintro e w' ⟨rfl, rfl⟩
              go_wp2_with fail
              refine HG2.out.mono ?_
              rintro e w' ⟨rfl, rfl⟩
              go_wp2_with fail
              go_roundw
              case rel => exact ⟨q + 1, by simp, by omega, rfl⟩
              case measure => simp [intOf]; omega
            | some t2 =>
              simp only [getV] at HG1 HG2
              go_wp2_with fail
              refine HG1.out.mono ?_
              rintro e w' ⟨rfl, rfl⟩
              go_wp2_with fail
              refine HG2.out.mono ?_
              rintro e w' ⟨rfl, rfl⟩
              go_wp2_with fail
              go_roundw
              case rel => exact ⟨q + 1, by simp, by omega, rfl⟩
              case measure => simp [intOf]; omega
          · obtain rfl : q = j + 1 := by omega
            go_wp2_with fail
            go_roundw
            case rel => exact ⟨j + 1, f6, by simp, by omega, HI6.out⟩
            case measure => simp [intOf]; omega
      · go_wp2_with fail
        have HI4 := Lib.hid (HI.out.later hb4.out)
        have HX : Hid (Blk (wr.alloc (.cells #[.int .u8 d, .int .u32 r, .int .u32 s] 56)) wr.heap.size 56 #[.int .u8 d, .int .u32 r, .int .u32 s]) := Blk.new _ _ _
        clear hb4 HI c0 c1 c2
        generalize wr.alloc (.cells #[.int .u8 d, .int .u32 r, .int .u32 s] 56) = w4 at *
        generalize wr.heap.size = gx at *
        refine (forgetF_any w4 g bm f r HI4.out.x).mono ?_
        rintro e w5 ⟨rfl, hx5, hk5⟩
        have HX5 := Lib.hid (HI4.out.boxX HX.out hk5)
        have HI5 := Lib.hid (HI4.out.setX hx5 hk5)
        have q1 := HX5.out.cell 1
        simp only [List.getElem?_toArray, List.getElem?_cons_zero, List.getElem?_cons_succ] at q1
        clear HI4 HX hx5 hk5
        go_wp2_with fail
        refine (HI5.out.forgetD (by omega) r).mono ?_
        rintro e w6 ⟨rfl, hi6⟩
        have HI6 := Lib.hid hi6
        clear hi6 HI5 HX5 q1
        go_wp2_with fail
        generalize upd f r none = f6 at *
        go_loopw [8] (InRel w6 (j + 1)) (fun i _ => j + 1 - (intOf i).toNat)
        case atStart => exact ⟨0, rfl, by omega, rfl⟩
        case round =>
          obtain ⟨q, rfl, hq, rfl⟩ := hrel
          by_cases hlt2 : q ≤ j
          · obtain ⟨ad2, k2, had, _, _, _, c0, c1, c2⟩ := (HL.out.later HI6.out.b).at_ (i := q) (by omega)
            injection had with had
            subst had
            obtain ⟨d2, r2, s2⟩ := k2
            simp only at c0 c1 c2
            have HG1 := Lib.hid (getF_any _ g bm f6 r2 HI6.out.x)
            have HG2 := Lib.hid (HI6.out.getD r2)
            generalize f6 r2 = o2 at HG1 HG2
            cases o2 with
            | none =>
              simp only [getV] at HG1 HG2
              go_wp2_with fail
              refine HG1.out.mono ?_
              rintro e w' ⟨rfl, rfl⟩
              go_wp2_with fail
              refine HG2.out.mono ?_
              rintro e w' ⟨rfl, rfl⟩
              go_wp2_with fail
              go_roundw
              case rel => exact ⟨q + 1, by simp, by omega, rfl⟩
              case measure => simp [intOf]; omega
            | some t2 =>
              simp only [getV] at HG1 HG2
              go_wp2_with fail
              refine HG1.out.mono ?_
              rintro e w' ⟨rfl, rfl⟩
              go_wp2_with fail
              refine HG2.out.mono ?_
              rintro e w' ⟨rfl, rfl⟩
              go_wp2_with fail
              go_roundw
              case rel => exact ⟨q + 1, by simp, by omega, rfl⟩
              case measure => simp [intOf]; omega
          · obtain rfl : q = j + 1 := by omega
            go_wp2_with fail
            go_roundw
            case rel => exact ⟨j + 1, f6, by simp, by omega, HI6.out⟩
            case measure => simp [intOf]; omega
    · obtain rfl : j = n := by omega
      go_wp2_with fail
      have HI6 := Lib.hid HI.out
      have HG := Lib.hid (fun r2 => getF_any _ g2 bm2 (fun _ => none) r2 HI6.out.y)
      simp only [getV] at HG
      go_loopw [13] (InRel wr j) (fun i _ => j - (intOf i).toNat)
      case atStart => exact ⟨0, rfl, by omega, rfl⟩
      case round =>
        obtain ⟨q, rfl, hq, rfl⟩ := hrel
        by_cases hlt2 : q < j
        · obtain ⟨ad2, k2, rfl, _, _, _, c0, c1, c2⟩ := (HL.out.later HI6.out.b).at_ (i := q) (by omega)
          obtain ⟨d2, r2, s2⟩ := k2
          simp only at c0 c1 c2
          go_wp2_with fail
          refine (HG.out r2).mono ?_
          rintro e w' ⟨rfl, rfl⟩
          go_wp2_with fail
          go_roundw
          case rel => exact ⟨q + 1, by simp, by omega, rfl⟩
          case measure => simp [intOf]; omega
        · obtain rfl : q = j := by omega
          go_wp2_with (go_at_call 10; refine (lives_any _).mono ?_; rintro e w7 ⟨rfl, hb⟩; have HE := Lib.hid (below_then HI6.out.b hb); clear hb)
          go_ret
          exact ⟨rfl, HE.out⟩
end Go.Proofs.Ytkgdeneonobibaa
