/-
  Bag.apartHeads: rows of structs stand apart. Printed by gen_ap.py.
-/
import Derived.Test.YtpncbggjngamgaaGreatDoorCA13
namespace Go.Proofs.YtpncbggjngamgaaGreatDoor
set_option linter.unusedVariables false
open Go.RowKit

@[reducible] def kHeads : Kd := { e := 58, es := 89, sz := 8, j := 7, mrk := fun k i => [.int .u16 0, .int .u8 0, .int .u8 0, .int .u32 (mkW k i), .int .u32 0, .int .i32 0, .int .u16 0, .int .u16 0] }
theorem kHeads_ok : kHeads.ok := ⟨fun _ _ => rfl, by decide, fun k i u hu => by simp at hu; rcases hu with rfl | rfl | rfl | rfl | rfl | rfl | rfl | rfl <;> rfl, by decide, by decide, by decide⟩
theorem el_rowHeads : El Tryz.prog 89 58 8 20 := El.mk' Tryz.underlying89 (z := .agg #[.int .u16 0, .int .u8 0, .int .u8 0, .int .u32 0, .int .u32 0, .int .i32 0, .int .u16 0, .int .u16 0]) (by kernel_rfl) rfl (by decide)
theorem el_lstHeads : El Tryz.prog 40 89 1 24 := El.mk' Tryz.underlying40 (z := .slice none 0 0) (by kernel_rfl) rfl (by decide)
theorem info_Heads : (Tryz.prog.info? 58).map (·.size) = some 8 := by kernel_rfl
theorem MarkHeads {W : World} {base m i : Nat} {s : Sl} (h : Has kHeads W base s (mkR kHeads m s.n)) (hi : i < s.n) : ∃ gg, s.A = some ⟨gg, 0, none⟩ ∧ W.cell? ⟨gg, i * 8, none⟩ = some (.int .u16 0) ∧ W.cell? ⟨gg, i * 8 + 1, none⟩ = some (.int .u8 0) ∧ W.cell? ⟨gg, i * 8 + 2, none⟩ = some (.int .u8 0) ∧ W.cell? ⟨gg, i * 8 + 3, none⟩ = some (.int .u32 (mkW m i)) ∧ W.cell? ⟨gg, i * 8 + 4, none⟩ = some (.int .u32 0) ∧ W.cell? ⟨gg, i * 8 + 5, none⟩ = some (.int .i32 0) ∧ W.cell? ⟨gg, i * 8 + 6, none⟩ = some (.int .u16 0) ∧ W.cell? ⟨gg, i * 8 + 7, none⟩ = some (.int .u16 0) := by
  obtain ⟨gg, hA, h0, hc⟩ := h.mark kHeads_ok hi
  exact ⟨gg, hA, h0, hc 1 _ rfl, hc 2 _ rfl, hc 3 _ rfl, hc 4 _ rfl, hc 5 _ rfl, hc 6 _ rfl, hc 7 _ rfl⟩
set_option maxRecDepth 100000 in
set_option maxHeartbeats 16000000 in
theorem apartHeads_any (W0 : World) (base g : Nat) (C : Array Value) (G : Sl) (L : List Sl) (h0 : Ap1 kHeads W0 W0 base g C G L 0) (hbase : base ≤ W0.heap.size) :
    Calls Tryz.prog 48 #[.pointer (some ⟨g, 0, none⟩)] W0 fun e w' => e = .returned (.bool true) ∧ Kept (RowF L) W0 w' := by
  obtain ⟨GA, K, Gc⟩ := G
  have HA := Lib.hid h0
  have hK : K ≤ 300 := h0.bag.few
  have HGl : Hid (∀ i, (⟨GA, K, Gc⟩ : Sl).v.ownBlock = some i → i < W0.heap.size) := Lib.hid (fun i hi => (own_ge h0.bag.row hi).2)
  have HBs := Lib.hid hbase
  clear h0 hbase
  go_enter Tryz.func48, Tryz.ntmps48
  go_wp2_with fail
  go_loopw [3] (P1 kHeads W0 base g C ⟨GA, K, Gc⟩ L) (fun n _ => K - (intOf n).toNat)
  case atStart => exact ⟨0, rfl, Nat.zero_le _, HA⟩
  case round =>
    obtain ⟨n, rfl, hn, HX⟩ := hrel
    replace hn : n ≤ K := hn
    clear HA
    generalize wr = wn at *
    have y0 := HX.out.bag.cell
    dsimp only [Sl.v] at y0
    by_cases hlt : n < K
    · have hd : decide ((n : Int) < K) = true := decide_eq_true (by omega)
      obtain ⟨s, hs⟩ : ∃ s, L[n]? = some s := ⟨L[n]'(by rw [HX.out.bag.len]; exact hlt), List.getElem?_eq_getElem _⟩
      obtain ⟨gg, hgA, hrow⟩ := own_cellS HX.out.bag.row (slv_get hs)
      dsimp only at hgA
      subst hgA
      obtain ⟨sA, sn, sc⟩ := s
      have HS := Lib.hid (And.intro hs (HX.out.few n _ hs))
      have hsn : sn ≤ 1099511627776 := HS.out.2
      clear hs
      dsimp only [Sl.v] at hrow
      go_wp2_with fail
      clear y0 hrow
      go_loopw [4] (P1i kHeads wn base n ⟨sA, sn, sc⟩) (fun i _ => sn - (intOf i).toNat)
      case atStart => exact ⟨0, rfl, Nat.zero_le _, Lib.hid (by obtain ⟨X, hX⟩ := HX.out.rows n _ HS.out.1; exact ⟨X, hX, marked_zero _ _ _, Kept.refl _ _⟩)⟩
      case round =>
        obtain ⟨i, rfl, hi, hY⟩ := hrel
        replace hi : i ≤ sn := hi
        generalize wr = wi at *
        obtain ⟨Y, HY⟩ := hY.out
        replace HY := Lib.hid HY
        clear hY
        obtain ⟨X, hX⟩ := HX.out.rows n _ HS.out.1
        have HBg := Lib.hid (HX.out.bag.put kHeads_ok hX HY.out.2.2)
        clear hX X
        have y0 := HBg.out.cell
        dsimp only [Sl.v] at y0
        obtain ⟨gg2, hgA2, hrow⟩ := own_cellS HBg.out.row (slv_get HS.out.1)
        injection hgA2 with hgA2
        injection hgA2 with hgA2
        subst hgA2
        dsimp only [Sl.v] at hrow
        by_cases hil : i < sn
        · have hd2 : decide ((i : Int) < sn) = true := decide_eq_true (by omega)
          obtain ⟨gb, cur, hsA, hbk, hgb, hsz, -⟩ := HY.out.1.blk (show 0 < sn by omega)
          replace hsA : sA = some ⟨gb, 0, none⟩ := hsA
          subst hsA
          have hilI : (i : Int) < sn := by omega
          have hnlI : (n : Int) < K := by omega
          have w5 := u32_wrap n i
          have hne1 : ¬ (g = gb) := fun e => blk_ne HBg.out.blk hbk (by decide) e
          have hne2 : ¬ (gg = gb) := fun e => own_blk_ne HBg.out.row hbk (by decide) (by rw [e]; rfl)
          have HS7 : Hid ((fun W : World => W.cell? ⟨g, 7, none⟩ = some (.slice (some ⟨gg, 0, none⟩) K Gc) ∧ W.cell? ⟨gg, n, none⟩ = some (.slice (some ⟨gb, 0, none⟩) sn sc)) wi.drew) := Lib.hid ⟨y0, hrow⟩
          have HYd : Hid (Has kHeads wi.drew base ⟨some ⟨gb, 0, none⟩, sn, sc⟩ Y ∧ Marked kHeads n i Y ∧ Kept (fun b => (⟨some ⟨gb, 0, none⟩, sn, sc⟩ : Sl).v.ownBlock = some b) wn wi.drew) := Lib.hid ⟨HY.out.1.later (Below.refl _ _).drew, HY.out.2.1, HY.out.2.2.drew⟩
          clear hgb hbk hsz cur HY
          go_wp2_with fail
          refine wp_region_s (fun W : World => W.cell? ⟨g, 7, none⟩ = some (.slice (some ⟨gg, 0, none⟩) K Gc) ∧ W.cell? ⟨gg, n, none⟩ = some (.slice (some ⟨gb, 0, none⟩) sn sc)) [(0, true), (1, true), (2, true), (4, true), (7, true), (8, true), (9, true), (3, true), (5, true), (6, true), (10, false), (11, true), (12, true), (13, true), (14, false)] (by kernel_rfl) (fun _ d _ _ _ h => by cases d <;> exact h) ?_
          simp only [List.map_cons, List.map_nil, nthOp_zero, nthOp_succ]
          clear y0 hrow HBg
          generalize wi.drew = w7 at *
          refine wpS_take HS7 (by kernel_rfl) (by intro W hW; clear hW; go_simp; try with_reducible rfl) ?_
          refine wpS_take HS7 (by kernel_rfl) (by intro W hW; clear hW; go_simp; try with_reducible rfl) ?_
          refine wpS_take HS7 (by kernel_rfl) (by intro W hW; clear hW; go_simp; try with_reducible rfl) ?_
          refine wpS_take HS7 (by kernel_rfl) (by intro W hW; clear hW; go_simp; try with_reducible rfl) ?_
          refine wpS_take HS7 (by kernel_rfl) (by intro W hW; clear hW; go_simp; try with_reducible rfl) ?_
          refine wpS_take HS7 (by kernel_rfl) (by intro W hW; clear hW; go_simp; try with_reducible rfl) ?_
          refine wpS_take HS7 (by kernel_rfl) (by intro W hW; clear hW; go_simp; try with_reducible rfl) ?_
          refine wpS_take HS7 (by kernel_rfl) (by intro W hW; obtain ⟨c0, c1⟩ := hW; go_simp; try with_reducible rfl) ?_
          refine wpS_take HS7 (by kernel_rfl) (by intro W hW; clear hW; go_simp; try with_reducible rfl) ?_
          refine wpS_take HS7 (by kernel_rfl) (by intro W hW; obtain ⟨c0, c1⟩ := hW; go_simp; try with_reducible rfl) ?_
          go_simp
          refine wpS_do fun KK hK => ?_
          go_wp2_with fail
          refine (num_any n i _ (by omega) (by omega)).mono ?_
          rintro e w' ⟨rfl, rfl⟩
          go_wp2_with fail
          refine hK.out _ _ HS7.out ?_
          clear hK KK
          refine wpS_take (v := .int .u32 (mkW n i)) HS7 (by kernel_rfl) (by intro W hW; clear hW; go_simp; try with_reducible rfl) ?_
          refine wpS_take HS7 (by kernel_rfl) (by intro W hW; clear hW; go_simp; try with_reducible rfl) ?_
          refine wpS_take HS7 (by kernel_rfl) (by intro W hW; clear hW; go_simp; try with_reducible rfl) ?_
          go_simp
          refine wpS_do fun KK hK => ?_
          obtain ⟨cur, hb7, hle, hhas, hkp⟩ := HYd.out.1.put (i := i) (gg := gb) rfl hil (ys := [.int .u16 0, .int .u8 0, .int .u8 0, .int .u32 (mkW n i), .int .u32 0, .int .i32 0, .int .u16 0, .int .u16 0]) rfl
          refine wpList_store_in rfl 58 (.tmp 48) (.tmp 47) rfl gb (i * 8) #[.int .u16 0, .int .u8 0, .int .u8 0, .int .u32 (mkW n i), .int .u32 0, .int .i32 0, .int .u16 0, .int .u16 0] rfl rfl 58 cur hb7 info_Heads hle (by intro u hu; simp at hu; rcases hu with rfl | rfl | rfl | rfl | rfl | rfl | rfl | rfl <;> rfl) ?_
          have HW := Lib.hid (And.intro hhas hkp)
          have HS8 : Hid ((fun W : World => W.cell? ⟨g, 7, none⟩ = some (.slice (some ⟨gg, 0, none⟩) K Gc) ∧ W.cell? ⟨gg, n, none⟩ = some (.slice (some ⟨gb, 0, none⟩) sn sc)) (w7.setRow gb (putIn cur (i * 8) #[.int .u16 0, .int .u8 0, .int .u8 0, .int .u32 (mkW n i), .int .u32 0, .int .i32 0, .int .u16 0, .int .u16 0]))) := Lib.hid ⟨(hkp.cell (cell_lt HS7.out.1) hne1).trans HS7.out.1, (hkp.cell (cell_lt HS7.out.2) hne2).trans HS7.out.2⟩
          clear hb7 hle hhas hkp
          generalize hw8 : w7.setRow gb (putIn cur (i * 8) #[.int .u16 0, .int .u8 0, .int .u8 0, .int .u32 (mkW n i), .int .u32 0, .int .i32 0, .int .u16 0, .int .u16 0]) = w8 at *
          have HW8 := HW
          clear hw8 HW
          go_wp2_with fail
          refine hK.out _ _ HS8.out ?_
          clear hK KK
          refine wpS_nil ?_
          go_simp
          go_wp2_with fail
          have hYl : Y.length = sn * kHeads.sz := HYd.out.1.1
          go_roundw
          case rel =>
            refine ⟨i + 1, by push_cast; rfl, hil, Lib.hid ⟨_, HW8.out.1, marked_put kHeads_ok HYd.out.2.1 hYl hil, HYd.out.2.2.trans HW8.out.2 (fun b hb e => by rw [show b = gb from e]; rfl)⟩⟩
          case measure =>
            simp only [intOf]
            omega
        · have hd2 : decide ((i : Int) < sn) = false := decide_eq_false (by omega)
          go_wp2_with fail
          go_roundw
          case rel =>
            have hYm : Y = mkR kHeads n sn := marked_all (K := kHeads) (k := n) (n := sn) (Y := Y) (by have h := HY.out.2.1; have e : i = sn := (by omega); rw [e] at h; exact h) HY.out.1.1
            exact ⟨n + 1, by push_cast; rfl, hlt, Lib.hid (HX.out.turn kHeads_ok HS.out.1 HY.out.2.2 (by have h := HY.out.1; rw [hYm] at h; exact h))⟩
          case measure =>
            simp only [intOf]
            omega
    · have hd : decide ((n : Int) < K) = false := decide_eq_false (by omega)
      have HA2 : Hid (Ap2 kHeads W0 wn base g C ⟨GA, K, Gc⟩ L [] [] ⟨none, 0, 0⟩ ⟨none, 0, 0⟩ 0) := Lib.hid ⟨fun k s hs => HX.out.done k s (by have h2 := (List.getElem?_eq_some_iff.1 hs).1; have h3 : L.length = K := HX.out.bag.len; omega) hs, HX.out.sep, HX.out.few, HX.out.bag, HGl.out, HX.out.kp, World.ownsRow_nil _ _ _ _, rfl, World.ownsRow_nil _ _ _ _, rfl, fun i hi => by simp [Value.ownBlock] at hi, fun k o ho => by simp at ho, fun k o ho => by simp at ho⟩
      clear HX
      go_wp2_with fail
      clear y0 hd hn hlt
      go_loopw [5, 6, 7] (P2 kHeads W0 base g C ⟨GA, K, Gc⟩ L) (fun _ _ n _ => K - (intOf n).toNat)
      case atStart => exact ⟨0, [], [], ⟨none, 0, 0⟩, ⟨none, 0, 0⟩, rfl, rfl, rfl, Nat.zero_le _, HA2⟩
      case round =>
        obtain ⟨n, O, M, oS, mS, rfl, rfl, rfl, hn, HX⟩ := hrel
        replace hn : n ≤ K := hn
        clear HA2
        generalize wr = wn2 at *
        have y0 := HX.out.bag.cell
        dsimp only [Sl.v] at y0
        by_cases hlt : n < K
        · have hd : decide ((n : Int) < K) = true := decide_eq_true (by omega)
          obtain ⟨s, hs⟩ : ∃ s, L[n]? = some s := ⟨L[n]'(by rw [HX.out.bag.len]; exact hlt), List.getElem?_eq_getElem _⟩
          obtain ⟨gg, hgA, hrow⟩ := own_cellS HX.out.bag.row (slv_get hs)
          dsimp only at hgA
          subst hgA
          obtain ⟨sA, sn, sc⟩ := s
          have HS := Lib.hid (And.intro hs (HX.out.few n _ hs))
          have hsn : sn ≤ 1099511627776 := HS.out.2
          clear hs
          dsimp only [Sl.v] at hrow
          go_wp2_with fail
          clear y0 hrow
          go_loopw [5, 8, 9] (P2i kHeads W0 wn2 base n ⟨sA, sn, sc⟩ oS O) (fun _ _ i _ => sn + 70 - (intOf i).toNat)
          case atStart => exact ⟨sn, ⟨sA, sn, sc⟩, oS, O, false, rfl, rfl, rfl, Nat.le_add_right _ _, by simp, Lib.hid (HX.out.start HS.out.1)⟩
          case round =>
            obtain ⟨i, l, oS', O', d, rfl, rfl, rfl, hi, hdd, HI⟩ := hrel
            replace hi : i ≤ sn + 70 := hi
            replace hdd : d = decide (sn < i) := hdd
            generalize wr = wi at *
            have HBg := Lib.hid (HX.out.bagIn kHeads_ok HS.out.1 HI.out.k)
            have y0 := HBg.out.cell
            dsimp only [Sl.v] at y0
            obtain ⟨gg2, hgA2, hrow⟩ := own_cellS HBg.out.row (slv_get HS.out.1)
            injection hgA2 with hgA2
            injection hgA2 with hgA2
            subst hgA2
            dsimp only [Sl.v] at hrow
            have hln := HI.out.ln
            have w0 : IntKind.i64.wrap ((sn : Int) + 70) = sn + 70 := by rw [IntKind.wrap_i64]; omega
            by_cases hil : i < sn + 70
            · have hd2 : decide ((i : Int) < sn + 70) = true := decide_eq_true (by omega)
              have hd3 : decide (i < sn + 70) = true := decide_eq_true hil
              have w5 := u32_wrap n i
              have HKw := HI.out.k.size
              obtain ⟨lA, ln, lc⟩ := l
              replace hln : ln = i := hln
              subst hln
              have hbb : Below wi.heap.size wi (wi.alloc (.cells #[.int .u16 0, .int .u8 0, .int .u8 0, .int .u32 (mkW n ln), .int .u32 0, .int .i32 0, .int .u16 0, .int .u16 0] 58)) := (Below.refl _ _).alloc (Nat.le_refl _) _
              have HIb := Lib.hid (HI.out.later hbb)
              have HRd : Hid (Reads (wi.alloc (.cells #[.int .u16 0, .int .u8 0, .int .u8 0, .int .u32 (mkW n ln), .int .u32 0, .int .i32 0, .int .u16 0, .int .u16 0] 58)) (wi.heap.size + 1) 8 (some ⟨wi.heap.size, 0, none⟩) 1 (kHeads.mrk n ln)) := Lib.hid ⟨rfl, fun _ => ⟨_, rfl, Nat.lt_succ_self _, fun j u hu => by rw [add_none, Nat.zero_add, (Blk.new wi 58 #[.int .u16 0, .int .u8 0, .int .u8 0, .int .u32 (mkW n ln), .int .u32 0, .int .i32 0, .int .u16 0, .int .u16 0]).cell]; simpa using hu⟩⟩
              have HKb := Lib.hid (Nat.le_trans HKw hbb.size)
              have HBz := Lib.hid (Nat.le_trans (Nat.le_trans HBs.out HX.out.kp.size) (Nat.le_trans HKw hbb.size))
              clear hbb
              by_cases his : ln = sn
              · subst his
                have hdf : d = false := by rw [hdd]; simp
                subst hdf
                have HON : Hid (oS'.n = n) := Lib.hid (by
                  rcases HI.out.oc with ⟨_, _, q⟩ | ⟨q, _⟩
                  · rw [q]; exact HX.out.on
                  · cases q)
                clear hdd hil hi
                go_wp2_with fail
                refine (num_any n ln _ (by omega) (by omega)).mono ?_
                rintro e w' ⟨rfl, rfl⟩
                go_wp2_with (first | (at_builtin; refine wpList_app3 el_rowHeads rfl (.tmp 80) (.tmp 86) rfl (show World.ownsRow (wi.alloc (.cells #[.int .u16 0, .int .u8 0, .int .u8 0, .int .u32 (mkW n ln), .int .u32 0, .int .i32 0, .int .u16 0, .int .u16 0] 58)) base 58 8 (.slice lA ln lc) ln (mkR kHeads n ln) from HIb.out.lhas) rfl HRd.out rfl (kHeads_ok.one n ln) (by simp only [maxLen]; omega) (by omega) HBz.out (by decide) ?_; intro v2 w2 ho2 hg2; obtain ⟨l2, hv2, HI2x⟩ := HIb.out.app kHeads_ok HKb.out hg2 ho2; subst hv2; have HI2 := Lib.hid HI2x; have HBg2 := Lib.hid (HX.out.bagIn kHeads_ok HS.out.1 HI2x.k); clear ho2 hg2 HI2x; clear y0 hrow; have y0 := HBg2.out.cell; dsimp only [Sl.v] at y0; obtain ⟨gg3, hgA3, hrow⟩ := own_cellS HBg2.out.row (slv_get HS.out.1); injection hgA3 with hgA3; injection hgA3 with hgA3; subst hgA3; dsimp only [Sl.v] at hrow; obtain ⟨lA2, ln2, lc2⟩ := l2; dsimp only [Sl.v]) | (at_builtin; have hb4 : Below w2.heap.size w2 (w2.alloc (.cells #[.slice lA2 ln2 lc2] 89)) := (Below.refl _ _).alloc (Nat.le_refl _) _; have HI4 := Lib.hid (HI2.out.later hb4); have HRd4 : Hid (Reads (w2.alloc (.cells #[.slice lA2 ln2 lc2] 89)) (w2.heap.size + 1) 1 (some ⟨w2.heap.size, 0, none⟩) 1 [.slice lA2 ln2 lc2]) := Lib.hid (Reads.one_new _ _ _); have HK4 := Lib.hid (Nat.le_trans HI2.out.k.size hb4.size); go_must (refine wpList_app3 el_lstHeads rfl (.tmp 98) (.tmp 100) rfl HI4.out.orow rfl HRd4.out rfl (by simp [Value.oneCell']) (by have := HON.out; simp only [maxLen]; omega) (by have := HON.out; omega) (Nat.le_trans HX.out.kp.size HK4.out) (by decide) ?_); intro v5 w5 ho5 hg5; obtain ⟨oS5, hv5, hn5, HI5x⟩ := HI4.out.one kHeads_ok HK4.out rfl hg5 ho5; subst hv5; have HI5 := Lib.hid HI5x; clear ho5 hg5 HI5x hb4 y0 hrow))
                go_roundw
                case rel => exact ⟨_, _, _, ⟨ln + 1, ⟨lA2, ln2, lc2⟩, oS5, _, true, rfl, rfl, by push_cast; rfl, by show ln + 1 ≤ ln + 70; omega, by simp, HI5⟩, rfl, rfl, rfl⟩
                case measure =>
                  simp only [intOf]
                  omega
              · have hne : ((ln : Int) == (sn : Int)) = false := by simp; omega
                have hdt : d = true := by
                  rw [hdd]
                  have := HI.out.sn
                  dsimp only at this
                  simp
                  omega
                go_wp2_with fail
                refine (num_any n ln _ (by omega) (by omega)).mono ?_
                rintro e w' ⟨rfl, rfl⟩
                go_wp2_with (at_builtin; go_must (refine wpList_app3 el_rowHeads rfl (.tmp 80) (.tmp 86) rfl (show World.ownsRow (wi.alloc (.cells #[.int .u16 0, .int .u8 0, .int .u8 0, .int .u32 (mkW n ln), .int .u32 0, .int .i32 0, .int .u16 0, .int .u16 0] 58)) base 58 8 (.slice lA ln lc) ln (mkR kHeads n ln) from HIb.out.lhas) rfl HRd.out rfl (kHeads_ok.one n ln) (by simp only [maxLen]; omega) (by omega) HBz.out (by decide) ?_); intro v2 w2 ho2 hg2; obtain ⟨l2, hv2, HI2x⟩ := HIb.out.app kHeads_ok HKb.out hg2 ho2; subst hv2; have HI2 := Lib.hid HI2x; have HBg2 := Lib.hid (HX.out.bagIn kHeads_ok HS.out.1 HI2x.k); clear ho2 hg2 HI2x; clear y0 hrow; have y0 := HBg2.out.cell; dsimp only [Sl.v] at y0; obtain ⟨gg3, hgA3, hrow⟩ := own_cellS HBg2.out.row (slv_get HS.out.1); injection hgA3 with hgA3; injection hgA3 with hgA3; subst hgA3; dsimp only [Sl.v] at hrow; obtain ⟨lA2, ln2, lc2⟩ := l2; dsimp only [Sl.v])
                go_roundw
                case rel => exact ⟨_, _, _, ⟨ln + 1, ⟨lA2, ln2, lc2⟩, oS', O', d, rfl, rfl, by push_cast; rfl, by show ln + 1 ≤ sn + 70; omega, by rw [hdt]; have := HI.out.sn; dsimp only at this; simp; omega, HI2⟩, rfl, rfl, rfl⟩
                case measure =>
                  simp only [intOf]
                  omega
            · have hd2 : decide ((i : Int) < sn + 70) = false := decide_eq_false (by omega)
              have hd3 : decide (i < sn + 70) = false := decide_eq_false hil
              have hdt : d = true := by rw [hdd]; simp; omega
              have hi70 : i = sn + 70 := by omega
              subst hdt
              have HI7 := Lib.hid HI.out
              rw [hi70] at HI7
              clear hi70 hi
              obtain ⟨lA, ln, lc⟩ := l
              have HMn : Hid (mS.n ≤ 300) := Lib.hid (by have := HX.out.mn; omega)
              have hbb : Below wi.heap.size wi (wi.alloc (.cells #[.slice lA ln lc] 89)) := (Below.refl _ _).alloc (Nat.le_refl _) _
              have HIb := Lib.hid (HI7.out.later hbb)
              have HMb := Lib.hid (HX.out.moreIn kHeads_ok HS.out.1 HIb.out.k)
              have HRd : Hid (Reads (wi.alloc (.cells #[.slice lA ln lc] 89)) (wi.heap.size + 1) 1 (some ⟨wi.heap.size, 0, none⟩) 1 [.slice lA ln lc]) := Lib.hid (Reads.one_new _ _ _)
              have HBz := Lib.hid (Nat.le_trans HX.out.kp.size (Nat.le_trans HI.out.k.size hbb.size))
              clear hbb
              go_wp2_with (at_builtin; go_must (refine wpList_app3 el_lstHeads rfl (.tmp 102) (.tmp 104) rfl HMb.out rfl HRd.out rfl (by simp [Value.oneCell']) (by have := HMn.out; simp only [maxLen]; omega) (by have := HMn.out; omega) HBz.out (by decide) ?_); intro v2 w2 ho2 hg2; obtain ⟨mS2, hv2, HX2x⟩ := HX.out.next kHeads_ok HS.out.1 HIb.out hg2 ho2; subst hv2; have HX2 := Lib.hid HX2x; clear ho2 hg2 HX2x y0 hrow)
              go_roundw
              case rel => first | exact ⟨n + 1, _, _, _, mS2, rfl, rfl, by push_cast; rfl, hlt, HX2⟩ | exact ⟨_, _, _, ⟨n + 1, _, _, _, mS2, rfl, rfl, by push_cast; rfl, hlt, HX2⟩, rfl, rfl, rfl⟩
              case measure =>
                simp only [intOf]
                omega
        · have hd : decide ((n : Int) < K) = false := decide_eq_false (by omega)
          have hnK : n = K := by omega
          subst hnK
          obtain ⟨oA, on, oc⟩ := oS
          obtain ⟨mA, mn, mc⟩ := mS
          obtain rfl : on = n := by have := HX.out.on; dsimp only at this; omega
          obtain rfl : mn = on := by have := HX.out.mn; dsimp only at this; omega
          dsimp only [Sl.v]
          go_wp2_with fail
          clear y0 hd hlt
          go_loopw [10] (fun nv W => ∃ m : Nat, nv = .int .i64 m ∧ m ≤ mn ∧ Hid (Below wn2.heap.size wn2 W)) (fun m _ => mn - (intOf m).toNat)
          case atStart => exact ⟨0, rfl, Nat.zero_le _, Lib.hid (Below.refl _ _)⟩
          case round =>
            obtain ⟨m, rfl, hm, hbm⟩ := hrel
            generalize wr = wm at *
            have hbag := HX.out.bag.blk.later hbm.out
            have y0 : wm.cell? ⟨g, 7, none⟩ = some (.slice GA mn Gc) := by rw [hbag.cell]; exact HX.out.bag.cj
            by_cases hml : m < mn
            · have hd : decide ((m : Int) < mn) = true := decide_eq_true (by omega)
              obtain ⟨s, hs⟩ : ∃ s, L[m]? = some s := ⟨L[m]'(by rw [HX.out.bag.len]; exact hml), List.getElem?_eq_getElem _⟩
              obtain ⟨o, ho⟩ : ∃ o, O[m]? = some o := ⟨O[m]'(by rw [HX.out.ol]; omega), List.getElem?_eq_getElem _⟩
              obtain ⟨q, hq⟩ : ∃ q, M[m]? = some q := ⟨M[m]'(by rw [HX.out.ml]; omega), List.getElem?_eq_getElem _⟩
              obtain ⟨gg, hgA1, hrow0⟩ := own_cellS HX.out.bag.row (slv_get hs)
              obtain ⟨go, hgA2, hrow20⟩ := own_cellS HX.out.orow (slv_get ho)
              obtain ⟨gq, hgA3, hrow30⟩ := own_cellS HX.out.mrow (slv_get hq)
              dsimp only at hgA1 hgA2 hgA3
              subst hgA1 hgA2 hgA3
              have HS := Lib.hid (And.intro (HX.out.rows m s hs) (And.intro (HX.out.few m s hs) (And.intro (HX.out.oh m o ho).2.1 (HX.out.mh m q hq).2.1)))
              have e1 := (HX.out.oh m o ho).1 s hs
              have e2 := (HX.out.mh m q hq).1 s hs
              obtain ⟨sA, sn, sc⟩ := s
              obtain ⟨oA, on, oc⟩ := o
              obtain ⟨qA, qn, qc⟩ := q
              have HN : Hid (on = sn + 1 ∧ qn = sn + 70 ∧ sn ≤ 1099511627776) := Lib.hid ⟨e1, e2, HS.out.2.1⟩
              dsimp only [Sl.v] at hrow0 hrow20 hrow30
              have HRows := Lib.hid (And.intro (show wn2.cell? ⟨g, 7, none⟩ = some (.slice (some ⟨gg, 0, none⟩) mn Gc) from (by rw [HX.out.bag.blk.cell]; exact HX.out.bag.cj)) (And.intro hrow0 (And.intro hrow20 hrow30)))
              have hup : ∀ W : World, Below wn2.heap.size wn2 W → W.cell? ⟨g, 7, none⟩ = some (.slice (some ⟨gg, 0, none⟩) mn Gc) ∧ W.cell? ⟨gg, m, none⟩ = some (.slice sA sn sc) ∧ W.cell? ⟨go, m, none⟩ = some (.slice oA on oc) ∧ W.cell? ⟨gq, m, none⟩ = some (.slice qA qn qc) := fun W hb =>
                ⟨(hb.cell (cell_lt HRows.out.1)).trans HRows.out.1, (hb.cell (cell_lt HRows.out.2.1)).trans HRows.out.2.1, (hb.cell (cell_lt HRows.out.2.2.1)).trans HRows.out.2.2.1, (hb.cell (cell_lt HRows.out.2.2.2)).trans HRows.out.2.2.2⟩
              have HUp := Lib.hid hup
              have hqn : qn ≤ 1099511627846 := by have := HN.out; omega
              have hrow3 := (hup _ hbm.out).2.2.2
              clear hs ho hq e1 e2 hup hrow0 hrow20 hrow30 hbag
              go_wp2_with fail
              clear y0 hrow3
              go_loopw [11] (fun iv W => ∃ i : Nat, iv = .int .i64 i ∧ i ≤ qn ∧ Hid (Below wn2.heap.size wn2 W)) (fun i _ => qn - (intOf i).toNat)
              case atStart => exact ⟨0, rfl, Nat.zero_le _, hbm⟩
              case round =>
                obtain ⟨i, rfl, hi, hbi⟩ := hrel
                generalize wr = wk at *
                obtain ⟨y0, hrow, hrow2, hrow3⟩ := HUp.out _ hbi.out
                by_cases hiq : i < qn
                · have hd2 : decide ((i : Int) < qn) = true := decide_eq_true (by omega)
                  obtain ⟨gb, hqA, q0, q1, q2, q3, q4, q5, q6, q7⟩ := MarkHeads (HS.out.2.2.2.later hbi.out) (i := i) hiq
                  replace hqA : qA = some ⟨gb, 0, none⟩ := hqA
                  subst hqA
                  have hiqI : (i : Int) < qn := by omega
                  have hmlI : (m : Int) < mn := by omega
                  have w5 := u32_wrap m i
                  have hbA : Below wk.heap.size wk (wk.alloc (.cells #[.int .u16 0, .int .u8 0, .int .u8 0, .int .u32 (mkW m i), .int .u32 0, .int .i32 0, .int .u16 0, .int .u16 0] 58)) := (Below.refl _ _).alloc (Nat.le_refl _) _
                  have HXA : Hid (Blk (wk.alloc (.cells #[.int .u16 0, .int .u8 0, .int .u8 0, .int .u32 (mkW m i), .int .u32 0, .int .i32 0, .int .u16 0, .int .u16 0] 58)) wk.heap.size 58 #[.int .u16 0, .int .u8 0, .int .u8 0, .int .u32 (mkW m i), .int .u32 0, .int .i32 0, .int .u16 0, .int .u16 0]) := Lib.hid (Blk.new _ _ _)
                  have HBA := Lib.hid (below_then hbi.out hbA)
                  obtain ⟨z0, zrow, zrow2, zrow3⟩ := HUp.out _ HBA.out
                  have hgl1 := cell_lt y0
                  clear hbA
                  by_cases h1 : i < sn
                  · have hd3 : decide ((i : Int) < sn) = true := decide_eq_true (by omega)
                    have hd4 : ((i : Int) == (sn : Int)) = false := by simp; omega
                    obtain ⟨gb2, hsA, u0, u1, u2, u3, u4, u5, u6, u7⟩ := MarkHeads (HS.out.1.later HBA.out) (i := i) h1
                    replace hsA : sA = some ⟨gb2, 0, none⟩ := hsA
                    subst hsA
                    have h1I : (i : Int) < sn := by omega
                    go_wp2_with fail
                    clear u0 u1 u2 u3 u4 u5 u6 u7
                    clear hd3 hd4 y0 hrow hrow2 hrow3 z0 zrow zrow2 zrow3 q0 q1 q2 q3 q4 q5 q6 q7
                    generalize hgx : wk.heap.size = gx at *
                    generalize hwA : wk.alloc (.cells #[.int .u16 0, .int .u8 0, .int .u8 0, .int .u32 (mkW m i), .int .u32 0, .int .i32 0, .int .u16 0, .int .u16 0] 58) = wA at *
                    clear hwA
                    have HS31 : Hid ((fun W : World => Blk W gx 58 #[.int .u16 0, .int .u8 0, .int .u8 0, .int .u32 (mkW m i), .int .u32 0, .int .i32 0, .int .u16 0, .int .u16 0]) wA.drew) := Lib.hid (HXA.out.later (Below.refl _ _).drew)
                    have HB31 : Hid (Below wn2.heap.size wn2 wA.drew) := Lib.hid HBA.out.drew
                    clear HXA HBA
                    refine wp_region_s (fun W : World => Blk W gx 58 #[.int .u16 0, .int .u8 0, .int .u8 0, .int .u32 (mkW m i), .int .u32 0, .int .i32 0, .int .u16 0, .int .u16 0]) [(1, true), (2, true), (0, true), (3, false), (4, true), (5, true), (6, true), (7, true)] (by kernel_rfl) (fun _ d _ _ _ h => by cases d <;> exact h) ?_
                    simp only [List.map_cons, List.map_nil, nthOp_zero, nthOp_succ]
                    generalize wA.drew = wB at *
                    refine wpS_take HS31 (by kernel_rfl) (by intro W hW; clear hW; go_simp; try with_reducible rfl) ?_
                    refine wpS_take HS31 (by kernel_rfl) (by intro W hW; clear hW; go_simp; try with_reducible rfl) ?_
                    refine wpS_take HS31 (by kernel_rfl) (fun W hW => exec_load_row rfl rfl hW Tryz.underlying58 rfl info_Heads) ?_
                    go_simp
                    refine wpS_do fun KK hK => ?_
                    go_wp2_with fail
                    refine (num_any m i _ (by omega) (by omega)).mono ?_
                    rintro e w' ⟨rfl, rfl⟩
                    go_wp2_with fail
                    refine hK.out _ _ HS31.out ?_
                    clear hK KK
                    refine wpS_take HS31 (by kernel_rfl) (by intro W hW; clear hW; go_simp; try with_reducible rfl) ?_
                    refine wpS_take HS31 (by kernel_rfl) (by intro W hW; clear hW; go_simp; try with_reducible rfl) ?_
                    refine wpS_take HS31 (by kernel_rfl) (fun W _ => exec_head_same rfl (mkW m i) rfl rfl W) ?_
                    refine wpS_take HS31 (by kernel_rfl) (by intro W hW; clear hW; go_simp; try with_reducible rfl) ?_
                    refine wpS_nil ?_
                    go_simp
                    obtain ⟨-, -, -, zrow3⟩ := HUp.out _ HB31.out
                    obtain ⟨gb7, hq7, q0, q1, q2, q3, q4, q5, q6, q7⟩ := MarkHeads (HS.out.2.2.2.later HB31.out) (i := i) hiq
                    injection hq7 with hq7
                    injection hq7 with hq7 _ _
                    subst hq7
                    go_wp2_with (refine wpList_store_row rfl 58 _ _ rfl gx #[.int .u16 0, .int .u8 0, .int .u8 0, .int .u32 (mkW m i), .int .u32 0, .int .i32 0, .int .u16 0, .int .u16 0] rfl rfl 58 _ HS31.out info_Heads rfl (by simp [Value.oneCell']) ?_)
                    clear zrow3 q0 q1 q2 q3 q4 q5 q6 q7
                    have hgxs : wn2.heap.size ≤ gx := by rw [← hgx]; exact hbi.out.size
                    have HXC : Hid (Blk (wB.setRow gx #[.int .u16 0, .int .u8 0, .int .u8 0, .int .u32 (mkW m i), .int .u32 0, .int .i32 0, .int .u16 0, .int .u16 0]) gx 58 #[.int .u16 0, .int .u8 0, .int .u8 0, .int .u32 (mkW m i), .int .u32 0, .int .i32 0, .int .u16 0, .int .u16 0]) := Lib.hid (HS31.out.setRow _)
                    have HBC : Hid (Below wn2.heap.size wn2 (wB.setRow gx #[.int .u16 0, .int .u8 0, .int .u8 0, .int .u32 (mkW m i), .int .u32 0, .int .i32 0, .int .u16 0, .int .u16 0])) := Lib.hid (below_setRow HB31.out hgxs _)
                    clear HS31 HB31
                    generalize wB.setRow gx #[.int .u16 0, .int .u8 0, .int .u8 0, .int .u32 (mkW m i), .int .u32 0, .int .i32 0, .int .u16 0, .int .u16 0] = wC at *
                    have HS33 : Hid ((fun W : World => Blk W gx 58 #[.int .u16 0, .int .u8 0, .int .u8 0, .int .u32 (mkW m i), .int .u32 0, .int .i32 0, .int .u16 0, .int .u16 0]) wC.drew) := Lib.hid (HXC.out.later (Below.refl _ _).drew)
                    have HB33 : Hid (Below wn2.heap.size wn2 wC.drew) := Lib.hid HBC.out.drew
                    clear HXC HBC
                    refine wp_region_s (fun W : World => Blk W gx 58 #[.int .u16 0, .int .u8 0, .int .u8 0, .int .u32 (mkW m i), .int .u32 0, .int .i32 0, .int .u16 0, .int .u16 0]) [(0, true), (1, true), (2, true), (4, true), (5, true), (3, true), (6, false), (7, true), (8, true), (9, true), (10, true), (11, true)] (by kernel_rfl) (fun _ d _ _ _ h => by cases d <;> exact h) ?_
                    simp only [List.map_cons, List.map_nil, nthOp_zero, nthOp_succ]
                    generalize wC.drew = wD at *
                    refine wpS_take HS33 (by kernel_rfl) (by intro W hW; clear hW; go_simp; try with_reducible rfl) ?_
                    refine wpS_take HS33 (by kernel_rfl) (by intro W hW; clear hW; go_simp; try with_reducible rfl) ?_
                    refine wpS_take HS33 (by kernel_rfl) (by intro W hW; clear hW; go_simp; try with_reducible rfl) ?_
                    refine wpS_take HS33 (by kernel_rfl) (by intro W hW; clear hW; go_simp; try with_reducible rfl) ?_
                    refine wpS_take HS33 (by kernel_rfl) (by intro W hW; clear hW; go_simp; try with_reducible rfl) ?_
                    refine wpS_take HS33 (by kernel_rfl) (fun W hW => exec_load_row rfl rfl hW Tryz.underlying58 rfl info_Heads) ?_
                    go_simp
                    refine wpS_do fun KK hK => ?_
                    go_wp2_with fail
                    refine (num_any m i _ (by omega) (by omega)).mono ?_
                    rintro e w' ⟨rfl, rfl⟩
                    go_wp2_with fail
                    refine hK.out _ _ HS33.out ?_
                    clear hK KK
                    refine wpS_take HS33 (by kernel_rfl) (by intro W hW; clear hW; go_simp; try with_reducible rfl) ?_
                    refine wpS_take HS33 (by kernel_rfl) (by intro W hW; clear hW; go_simp; try with_reducible rfl) ?_
                    refine wpS_take HS33 (by kernel_rfl) (fun W _ => exec_head_same rfl (mkW m i) rfl rfl W) ?_
                    refine wpS_take HS33 (by kernel_rfl) (by intro W hW; clear hW; go_simp; try with_reducible rfl) ?_
                    refine wpS_take HS33 (by kernel_rfl) (by intro W hW; clear hW; go_simp; try with_reducible rfl) ?_
                    refine wpS_nil ?_
                    go_simp
                    go_wp2_with fail
                    go_roundw
                    case rel => exact ⟨i + 1, by push_cast; rfl, hiq, HB33⟩
                    case measure =>
                      simp only [intOf]
                      omega
                  · have hd3 : decide ((i : Int) < sn) = false := decide_eq_false (by omega)
                    by_cases h2 : i = sn
                    · have hd4 : ((i : Int) == (sn : Int)) = true := by simp; omega
                      have hion : i < on := by have := HN.out; omega
                      obtain ⟨gb2, hoA, u0, u1, u2, u3, u4, u5, u6, u7⟩ := MarkHeads (HS.out.2.2.1.later HBA.out) (i := i) hion
                      replace hoA : oA = some ⟨gb2, 0, none⟩ := hoA
                      subst hoA
                      have hd5 : decide ((i : Int) < on) = true := decide_eq_true (by omega)
                      have HH := Lib.hid h2
                      clear h2
                      go_wp2_with fail
                      clear u0 u1 u2 u3 u4 u5 u6 u7 hd5
                      clear hd3 hd4 y0 hrow hrow2 hrow3 z0 zrow zrow2 zrow3 q0 q1 q2 q3 q4 q5 q6 q7
                      generalize hgx : wk.heap.size = gx at *
                      generalize hwA : wk.alloc (.cells #[.int .u16 0, .int .u8 0, .int .u8 0, .int .u32 (mkW m i), .int .u32 0, .int .i32 0, .int .u16 0, .int .u16 0] 58) = wA at *
                      clear hwA
                      have HS31 : Hid ((fun W : World => Blk W gx 58 #[.int .u16 0, .int .u8 0, .int .u8 0, .int .u32 (mkW m i), .int .u32 0, .int .i32 0, .int .u16 0, .int .u16 0]) wA.drew) := Lib.hid (HXA.out.later (Below.refl _ _).drew)
                      have HB31 : Hid (Below wn2.heap.size wn2 wA.drew) := Lib.hid HBA.out.drew
                      clear HXA HBA
                      refine wp_region_s (fun W : World => Blk W gx 58 #[.int .u16 0, .int .u8 0, .int .u8 0, .int .u32 (mkW m i), .int .u32 0, .int .i32 0, .int .u16 0, .int .u16 0]) [(1, true), (2, true), (0, true), (3, false), (4, true), (5, true), (6, true), (7, true)] (by kernel_rfl) (fun _ d _ _ _ h => by cases d <;> exact h) ?_
                      simp only [List.map_cons, List.map_nil, nthOp_zero, nthOp_succ]
                      generalize wA.drew = wB at *
                      refine wpS_take HS31 (by kernel_rfl) (by intro W hW; clear hW; go_simp; try with_reducible rfl) ?_
                      refine wpS_take HS31 (by kernel_rfl) (by intro W hW; clear hW; go_simp; try with_reducible rfl) ?_
                      refine wpS_take HS31 (by kernel_rfl) (fun W hW => exec_load_row rfl rfl hW Tryz.underlying58 rfl info_Heads) ?_
                      go_simp
                      refine wpS_do fun KK hK => ?_
                      go_wp2_with fail
                      refine (num_any m i _ (by omega) (by omega)).mono ?_
                      rintro e w' ⟨rfl, rfl⟩
                      go_wp2_with fail
                      refine hK.out _ _ HS31.out ?_
                      clear hK KK
                      refine wpS_take HS31 (by kernel_rfl) (by intro W hW; clear hW; go_simp; try with_reducible rfl) ?_
                      refine wpS_take HS31 (by kernel_rfl) (by intro W hW; clear hW; go_simp; try with_reducible rfl) ?_
                      refine wpS_take HS31 (by kernel_rfl) (fun W _ => exec_head_same rfl (mkW m i) rfl rfl W) ?_
                      refine wpS_take HS31 (by kernel_rfl) (by intro W hW; clear hW; go_simp; try with_reducible rfl) ?_
                      refine wpS_nil ?_
                      go_simp
                      obtain ⟨-, -, -, zrow3⟩ := HUp.out _ HB31.out
                      obtain ⟨gb7, hq7, q0, q1, q2, q3, q4, q5, q6, q7⟩ := MarkHeads (HS.out.2.2.2.later HB31.out) (i := i) hiq
                      injection hq7 with hq7
                      injection hq7 with hq7 _ _
                      subst hq7
                      go_wp2_with (refine wpList_store_row rfl 58 _ _ rfl gx #[.int .u16 0, .int .u8 0, .int .u8 0, .int .u32 (mkW m i), .int .u32 0, .int .i32 0, .int .u16 0, .int .u16 0] rfl rfl 58 _ HS31.out info_Heads rfl (by simp [Value.oneCell']) ?_)
                      clear zrow3 q0 q1 q2 q3 q4 q5 q6 q7
                      have hgxs : wn2.heap.size ≤ gx := by rw [← hgx]; exact hbi.out.size
                      have HXC : Hid (Blk (wB.setRow gx #[.int .u16 0, .int .u8 0, .int .u8 0, .int .u32 (mkW m i), .int .u32 0, .int .i32 0, .int .u16 0, .int .u16 0]) gx 58 #[.int .u16 0, .int .u8 0, .int .u8 0, .int .u32 (mkW m i), .int .u32 0, .int .i32 0, .int .u16 0, .int .u16 0]) := Lib.hid (HS31.out.setRow _)
                      have HBC : Hid (Below wn2.heap.size wn2 (wB.setRow gx #[.int .u16 0, .int .u8 0, .int .u8 0, .int .u32 (mkW m i), .int .u32 0, .int .i32 0, .int .u16 0, .int .u16 0])) := Lib.hid (below_setRow HB31.out hgxs _)
                      clear HS31 HB31
                      generalize wB.setRow gx #[.int .u16 0, .int .u8 0, .int .u8 0, .int .u32 (mkW m i), .int .u32 0, .int .i32 0, .int .u16 0, .int .u16 0] = wC at *
                      have HS33 : Hid ((fun W : World => Blk W gx 58 #[.int .u16 0, .int .u8 0, .int .u8 0, .int .u32 (mkW m i), .int .u32 0, .int .i32 0, .int .u16 0, .int .u16 0]) wC.drew) := Lib.hid (HXC.out.later (Below.refl _ _).drew)
                      have HB33 : Hid (Below wn2.heap.size wn2 wC.drew) := Lib.hid HBC.out.drew
                      clear HXC HBC
                      refine wp_region_s (fun W : World => Blk W gx 58 #[.int .u16 0, .int .u8 0, .int .u8 0, .int .u32 (mkW m i), .int .u32 0, .int .i32 0, .int .u16 0, .int .u16 0]) [(0, true), (1, true), (2, true), (4, true), (5, true), (3, true), (6, false), (7, true), (8, true), (9, true), (10, true), (11, true)] (by kernel_rfl) (fun _ d _ _ _ h => by cases d <;> exact h) ?_
                      simp only [List.map_cons, List.map_nil, nthOp_zero, nthOp_succ]
                      generalize wC.drew = wD at *
                      refine wpS_take HS33 (by kernel_rfl) (by intro W hW; clear hW; go_simp; try with_reducible rfl) ?_
                      refine wpS_take HS33 (by kernel_rfl) (by intro W hW; clear hW; go_simp; try with_reducible rfl) ?_
                      refine wpS_take HS33 (by kernel_rfl) (by intro W hW; clear hW; go_simp; try with_reducible rfl) ?_
                      refine wpS_take HS33 (by kernel_rfl) (by intro W hW; clear hW; go_simp; try with_reducible rfl) ?_
                      refine wpS_take HS33 (by kernel_rfl) (by intro W hW; clear hW; go_simp; try with_reducible rfl) ?_
                      refine wpS_take HS33 (by kernel_rfl) (fun W hW => exec_load_row rfl rfl hW Tryz.underlying58 rfl info_Heads) ?_
                      go_simp
                      refine wpS_do fun KK hK => ?_
                      go_wp2_with fail
                      refine (num_any m i _ (by omega) (by omega)).mono ?_
                      rintro e w' ⟨rfl, rfl⟩
                      go_wp2_with fail
                      refine hK.out _ _ HS33.out ?_
                      clear hK KK
                      refine wpS_take HS33 (by kernel_rfl) (by intro W hW; clear hW; go_simp; try with_reducible rfl) ?_
                      refine wpS_take HS33 (by kernel_rfl) (by intro W hW; clear hW; go_simp; try with_reducible rfl) ?_
                      refine wpS_take HS33 (by kernel_rfl) (fun W _ => exec_head_same rfl (mkW m i) rfl rfl W) ?_
                      refine wpS_take HS33 (by kernel_rfl) (by intro W hW; clear hW; go_simp; try with_reducible rfl) ?_
                      refine wpS_take HS33 (by kernel_rfl) (by intro W hW; clear hW; go_simp; try with_reducible rfl) ?_
                      refine wpS_nil ?_
                      go_simp
                      go_wp2_with fail
                      go_roundw
                      case rel => exact ⟨i + 1, by push_cast; rfl, hiq, HB33⟩
                      case measure =>
                        simp only [intOf]
                        omega
                    · have hd4 : ((i : Int) == (sn : Int)) = false := by simp; omega
                      go_wp2_with fail
                      clear hd3 hd4 y0 hrow hrow2 hrow3 z0 zrow zrow2 zrow3 q0 q1 q2 q3 q4 q5 q6 q7
                      generalize hgx : wk.heap.size = gx at *
                      generalize hwA : wk.alloc (.cells #[.int .u16 0, .int .u8 0, .int .u8 0, .int .u32 (mkW m i), .int .u32 0, .int .i32 0, .int .u16 0, .int .u16 0] 58) = wA at *
                      clear hwA
                      have HS31 : Hid ((fun W : World => Blk W gx 58 #[.int .u16 0, .int .u8 0, .int .u8 0, .int .u32 (mkW m i), .int .u32 0, .int .i32 0, .int .u16 0, .int .u16 0]) wA.drew) := Lib.hid (HXA.out.later (Below.refl _ _).drew)
                      have HB31 : Hid (Below wn2.heap.size wn2 wA.drew) := Lib.hid HBA.out.drew
                      clear HXA HBA
                      refine wp_region_s (fun W : World => Blk W gx 58 #[.int .u16 0, .int .u8 0, .int .u8 0, .int .u32 (mkW m i), .int .u32 0, .int .i32 0, .int .u16 0, .int .u16 0]) [(1, true), (2, true), (0, true), (3, false), (4, true), (5, true), (6, true), (7, true)] (by kernel_rfl) (fun _ d _ _ _ h => by cases d <;> exact h) ?_
                      simp only [List.map_cons, List.map_nil, nthOp_zero, nthOp_succ]
                      generalize wA.drew = wB at *
                      refine wpS_take HS31 (by kernel_rfl) (by intro W hW; clear hW; go_simp; try with_reducible rfl) ?_
                      refine wpS_take HS31 (by kernel_rfl) (by intro W hW; clear hW; go_simp; try with_reducible rfl) ?_
                      refine wpS_take HS31 (by kernel_rfl) (fun W hW => exec_load_row rfl rfl hW Tryz.underlying58 rfl info_Heads) ?_
                      go_simp
                      refine wpS_do fun KK hK => ?_
                      go_wp2_with fail
                      refine (num_any m i _ (by omega) (by omega)).mono ?_
                      rintro e w' ⟨rfl, rfl⟩
                      go_wp2_with fail
                      refine hK.out _ _ HS31.out ?_
                      clear hK KK
                      refine wpS_take HS31 (by kernel_rfl) (by intro W hW; clear hW; go_simp; try with_reducible rfl) ?_
                      refine wpS_take HS31 (by kernel_rfl) (by intro W hW; clear hW; go_simp; try with_reducible rfl) ?_
                      refine wpS_take HS31 (by kernel_rfl) (fun W _ => exec_head_same rfl (mkW m i) rfl rfl W) ?_
                      refine wpS_take HS31 (by kernel_rfl) (by intro W hW; clear hW; go_simp; try with_reducible rfl) ?_
                      refine wpS_nil ?_
                      go_simp
                      obtain ⟨-, -, -, zrow3⟩ := HUp.out _ HB31.out
                      obtain ⟨gb7, hq7, q0, q1, q2, q3, q4, q5, q6, q7⟩ := MarkHeads (HS.out.2.2.2.later HB31.out) (i := i) hiq
                      injection hq7 with hq7
                      injection hq7 with hq7 _ _
                      subst hq7
                      go_wp2_with (refine wpList_store_row rfl 58 _ _ rfl gx #[.int .u16 0, .int .u8 0, .int .u8 0, .int .u32 (mkW m i), .int .u32 0, .int .i32 0, .int .u16 0, .int .u16 0] rfl rfl 58 _ HS31.out info_Heads rfl (by simp [Value.oneCell']) ?_)
                      clear zrow3 q0 q1 q2 q3 q4 q5 q6 q7
                      have hgxs : wn2.heap.size ≤ gx := by rw [← hgx]; exact hbi.out.size
                      have HXC : Hid (Blk (wB.setRow gx #[.int .u16 0, .int .u8 0, .int .u8 0, .int .u32 (mkW m i), .int .u32 0, .int .i32 0, .int .u16 0, .int .u16 0]) gx 58 #[.int .u16 0, .int .u8 0, .int .u8 0, .int .u32 (mkW m i), .int .u32 0, .int .i32 0, .int .u16 0, .int .u16 0]) := Lib.hid (HS31.out.setRow _)
                      have HBC : Hid (Below wn2.heap.size wn2 (wB.setRow gx #[.int .u16 0, .int .u8 0, .int .u8 0, .int .u32 (mkW m i), .int .u32 0, .int .i32 0, .int .u16 0, .int .u16 0])) := Lib.hid (below_setRow HB31.out hgxs _)
                      clear HS31 HB31
                      generalize wB.setRow gx #[.int .u16 0, .int .u8 0, .int .u8 0, .int .u32 (mkW m i), .int .u32 0, .int .i32 0, .int .u16 0, .int .u16 0] = wC at *
                      have HS33 : Hid ((fun W : World => Blk W gx 58 #[.int .u16 0, .int .u8 0, .int .u8 0, .int .u32 (mkW m i), .int .u32 0, .int .i32 0, .int .u16 0, .int .u16 0]) wC.drew) := Lib.hid (HXC.out.later (Below.refl _ _).drew)
                      have HB33 : Hid (Below wn2.heap.size wn2 wC.drew) := Lib.hid HBC.out.drew
                      clear HXC HBC
                      refine wp_region_s (fun W : World => Blk W gx 58 #[.int .u16 0, .int .u8 0, .int .u8 0, .int .u32 (mkW m i), .int .u32 0, .int .i32 0, .int .u16 0, .int .u16 0]) [(0, true), (1, true), (2, true), (4, true), (5, true), (3, true), (6, false), (7, true), (8, true), (9, true), (10, true), (11, true)] (by kernel_rfl) (fun _ d _ _ _ h => by cases d <;> exact h) ?_
                      simp only [List.map_cons, List.map_nil, nthOp_zero, nthOp_succ]
                      generalize wC.drew = wD at *
                      refine wpS_take HS33 (by kernel_rfl) (by intro W hW; clear hW; go_simp; try with_reducible rfl) ?_
                      refine wpS_take HS33 (by kernel_rfl) (by intro W hW; clear hW; go_simp; try with_reducible rfl) ?_
                      refine wpS_take HS33 (by kernel_rfl) (by intro W hW; clear hW; go_simp; try with_reducible rfl) ?_
                      refine wpS_take HS33 (by kernel_rfl) (by intro W hW; clear hW; go_simp; try with_reducible rfl) ?_
                      refine wpS_take HS33 (by kernel_rfl) (by intro W hW; clear hW; go_simp; try with_reducible rfl) ?_
                      refine wpS_take HS33 (by kernel_rfl) (fun W hW => exec_load_row rfl rfl hW Tryz.underlying58 rfl info_Heads) ?_
                      go_simp
                      refine wpS_do fun KK hK => ?_
                      go_wp2_with fail
                      refine (num_any m i _ (by omega) (by omega)).mono ?_
                      rintro e w' ⟨rfl, rfl⟩
                      go_wp2_with fail
                      refine hK.out _ _ HS33.out ?_
                      clear hK KK
                      refine wpS_take HS33 (by kernel_rfl) (by intro W hW; clear hW; go_simp; try with_reducible rfl) ?_
                      refine wpS_take HS33 (by kernel_rfl) (by intro W hW; clear hW; go_simp; try with_reducible rfl) ?_
                      refine wpS_take HS33 (by kernel_rfl) (fun W _ => exec_head_same rfl (mkW m i) rfl rfl W) ?_
                      refine wpS_take HS33 (by kernel_rfl) (by intro W hW; clear hW; go_simp; try with_reducible rfl) ?_
                      refine wpS_take HS33 (by kernel_rfl) (by intro W hW; clear hW; go_simp; try with_reducible rfl) ?_
                      refine wpS_nil ?_
                      go_simp
                      go_wp2_with fail
                      go_roundw
                      case rel => exact ⟨i + 1, by push_cast; rfl, hiq, HB33⟩
                      case measure =>
                        simp only [intOf]
                        omega
                · have hd2 : decide ((i : Int) < qn) = false := decide_eq_false (by omega)
                  go_wp2_with fail
                  go_roundw
                  case rel => exact ⟨m + 1, by push_cast; rfl, hml, hbi⟩
                  case measure =>
                    simp only [intOf]
                    omega
            · have hd : decide ((m : Int) < mn) = false := decide_eq_false (by omega)
              go_wp2_with fail
              go_ret
              exact ⟨rfl, HX.out.kp.trans (Kept.of_new hbm.out (fun _ => False)) (fun _ _ e => e.elim)⟩
end Go.Proofs.YtpncbggjngamgaaGreatDoor
