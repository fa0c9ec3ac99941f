/-
  Bag.apartBytes: the walk. Printed by gen_bag3.py.
-/
import Derived.Test.YtlnkjmjddecjdaaDoorBagM
namespace Go.Proofs.YtlnkjmjddecjdaaDoor
set_option linter.unusedVariables false
open Go.RowKit Go.ChangeShapes Go.WideShapes

theorem el_b : El Tryd.prog 47 28 1 24 := El.mk' Tryd.underlying47 (z := .slice none 0 0) (by kernel_rfl) rfl (by decide)
theorem own_cellS {W : World} {base : Nat} {e : TypeId} {G : Sl} {xs : List Value} (h : W.ownsRow base e 1 G.v G.n xs) {k : Nat} {u : Value} (hu : xs[k]? = some u) : ∃ gg, G.A = some ⟨gg, 0, none⟩ ∧ W.cell? ⟨gg, k, none⟩ = some u := by
  obtain ⟨gg, c, hv, hc, _, _⟩ := own_cell h hu
  injection hv with hv _ _
  exact ⟨gg, hv, hc⟩
def B1 (W0 : World) (base g : Nat) (C : Array Value) (G : Sl) (L : List Sl) (nv : Value) (W : World) : Prop := ∃ n : Nat, nv = .int .i64 n ∧ n ≤ G.n ∧ Hid (∃ X, Ap1 W0 W base g C G L X n)
def B1i (Wn : World) (base g : Nat) (n : Nat) (s : Sl) (iv : Value) (W : World) : Prop :=
  ∃ i : Nat, iv = .int .i64 i ∧ i ≤ s.n ∧ Hid (∃ Y, Has W base s Y ∧ (∀ j, j < i → Y[j]? = some (mkB n j)) ∧ Kept (fun b => s.v.ownBlock = some b) Wn W)
def B2 (W0 : World) (base g : Nat) (C : Array Value) (G : Sl) (L : List Sl) (ov mv nv : Value) (W : World) : Prop :=
  ∃ (n : Nat) (O M : List Sl) (oS mS : Sl), ov = oS.v ∧ mv = mS.v ∧ nv = .int .i64 n ∧ n ≤ G.n ∧ Hid (Ap2 W0 W base g C G L O M oS mS n)
def B2i (W0 Wn : World) (base n : Nat) (s oS : Sl) (O : List Sl) (ov lv iv : Value) (W : World) : Prop :=
  ∃ (i : Nat) (l oS' : Sl) (O' : List Sl) (d : Bool), ov = oS'.v ∧ lv = l.v ∧ iv = .int .i64 i ∧ i ≤ s.n + 70 ∧ d = decide (s.n < i) ∧ Hid (In2 Wn W base W0.heap.size n s oS O i l O' oS' d)
theorem wraps (n i : Nat) (hn : n ≤ 300) (hi : i ≤ 1099511627946) : IntKind.i64.wrap (31 * (n : Int)) = 31 * n ∧ IntKind.i64.wrap (7 * (i : Int)) = 7 * i ∧ IntKind.i64.wrap (31 * (n : Int) + 7 * i) = 31 * n + 7 * i ∧ IntKind.i64.wrap (31 * (n : Int) + 7 * i + 3) = 31 * n + 7 * i + 3 ∧ IntKind.u8.wrap (31 * (n : Int) + 7 * i + 3) = mkB n i :=
  ⟨by rw [IntKind.wrap_i64]; omega, by rw [IntKind.wrap_i64]; omega, by rw [IntKind.wrap_i64]; omega, by rw [IntKind.wrap_i64]; omega, by rw [u8_wrap]; rfl⟩
set_option maxRecDepth 100000 in
set_option maxHeartbeats 16000000 in
theorem apartBytes_any (W0 : World) (base g : Nat) (C : Array Value) (G : Sl) (L : List Sl) (X0 : Nat → List Int) (hB : BagB W0 base g C G L) (hR : Rows8 W0 base L X0) (hbase : base ≤ W0.heap.size) :
    Calls Tryd.prog 29 #[.pointer (some ⟨g, 0, none⟩)] W0 fun e w' => e = .returned (.bool true) ∧ Below base W0 w' ∧ Blk w' g 67 C := by
  obtain ⟨GA, K, Gc⟩ := G
  have HA : Hid (∃ X, Ap1 W0 W0 base g C ⟨GA, K, Gc⟩ L X 0) := Lib.hid ⟨X0, hR, fun k s hk => absurd hk (by omega), hB, Below.refl _ _⟩
  have hK : K ≤ 300 := hB.few
  have HGl : Hid (∀ i, (⟨GA, K, Gc⟩ : Sl).v.ownBlock = some i → i < W0.heap.size) := Lib.hid (fun i hi => (own_ge hB.row hi).2)
  have HBs := Lib.hid hbase
  clear hB hR hbase
  go_enter Tryd.func29, Tryd.ntmps29
  go_wp2_with fail
  go_loopw [3] (B1 W0 base g C ⟨GA, K, Gc⟩ L) (fun n _ => K - (intOf n).toNat)
  case atStart => exact ⟨0, rfl, Nat.zero_le _, HA⟩
  case round =>
    obtain ⟨n, rfl, hn, hA⟩ := hrel
    replace hn : n ≤ K := hn
    clear HA
    obtain ⟨X, HX⟩ := hA.out
    replace HX := Lib.hid HX
    clear hA
    have y0 := HX.out.bag.cell
    dsimp only [Sl.v] at y0
    by_cases hlt : n < K
    · have hd : decide ((n : Int) < K) = true := decide_eq_true (by omega)
      obtain ⟨s, hs⟩ : ∃ s, L[n]? = some s := ⟨L[n]'(by rw [HX.out.bag.len]; exact hlt), List.getElem?_eq_getElem _⟩
      obtain ⟨gg, hgA, hrow⟩ := own_cellS HX.out.bag.row (slv_get hs)
      dsimp only at hgA
      subst hgA
      obtain ⟨sA, sn, sc⟩ := s
      have HS := Lib.hid (And.intro hs (HX.out.rows.few n _ hs))
      have hsn : sn ≤ 1099511627776 := HS.out.2
      clear hs
      dsimp only [Sl.v] at hrow
      go_wp2_with fail
      clear y0 hrow
      go_loopw [4] (B1i wr base g n ⟨sA, sn, sc⟩) (fun i _ => sn - (intOf i).toNat)
      case atStart => exact ⟨0, rfl, Nat.zero_le _, Lib.hid ⟨X n, HX.out.rows.has n _ HS.out.1, fun j hj => absurd hj (by omega), Kept.refl _ _⟩⟩
      case round =>
        obtain ⟨i, rfl, hi, hY⟩ := hrel
        replace hi : i ≤ sn := hi
        obtain ⟨Y, HY⟩ := hY.out
        replace HY := Lib.hid HY
        clear hY
        have HBg := Lib.hid (bag_put HX.out.bag (HX.out.rows.has n _ HS.out.1) HY.out.2.2)
        have y0 := HBg.out.cell
        dsimp only [Sl.v] at y0
        obtain ⟨gg2, hgA2, hrow⟩ := own_cellS HBg.out.row (slv_get HS.out.1)
        injection hgA2 with hgA2
        injection hgA2 with hgA2
        subst hgA2
        dsimp only [Sl.v] at hrow
        by_cases hil : i < sn
        · have hd2 : decide ((i : Int) < sn) = true := decide_eq_true (by omega)
          obtain ⟨gb, x, hsA, hx, hcx, hfx, hgb⟩ := HY.out.1.cell hil
          replace hsA : sA = some ⟨gb, 0, none⟩ := hsA
          subst hsA
          obtain ⟨w1, w2, w3, w4, w5⟩ := wraps n i (by omega) (by omega)
          clear hx hgb
          go_wp2_with fail
          go_roundw
          case rel =>
            refine ⟨i + 1, by push_cast; rfl, hil, Lib.hid ⟨Y.set i (mkB n i), HY.out.1.set rfl i _, fun j hj => ?_, HY.out.2.2.trans (kept_setC wr gb i (.int .u8 (mkB n i))) (fun b hb e => by rw [show b = gb from e]; rfl)⟩⟩
            by_cases hji : j = i
            · subst hji
              rw [List.getElem?_set_self (by rw [HY.out.1.len]; exact hil)]
            · rw [List.getElem?_set_ne (by omega)]
              exact HY.out.2.1 j (by omega)
          case measure =>
            simp only [intOf]
            omega
        · have hd2 : decide ((i : Int) < sn) = false := decide_eq_false (by omega)
          go_wp2_with fail
          go_roundw
          case rel =>
            have hYm : Y = mkL n sn := mk_all HY.out.1.len fun j hj => HY.out.2.1 j (by omega)
            refine ⟨n + 1, by push_cast; rfl, hlt, Lib.hid ⟨_, HX.out.rows.put HS.out.1 HY.out.2.2 HY.out.1, fun k s hk hs => ?_, HBg.out, HX.out.bl.trans (HY.out.2.2.below (fun b hb => (own_ge (show World.ownsRow _ base 5 1 _ _ _ from HX.out.rows.has n _ HS.out.1) hb).1) (Nat.le_trans HBs.out HX.out.bl.size))⟩⟩
            by_cases hkn : k = n
            · subst hkn
              rw [HS.out.1] at hs
              injection hs with hs
              subst hs
              show (if k = k then Y else X k) = _
              rw [if_pos rfl]
              exact hYm
            · show (if k = n then Y else X k) = _
              rw [if_neg hkn]
              exact HX.out.done k s (by omega) hs
          case measure =>
            simp only [intOf]
            omega
    · have hd : decide ((n : Int) < K) = false := decide_eq_false (by omega)
      have HA2 : Hid (Ap2 W0 wr base g C ⟨GA, K, Gc⟩ L [] [] ⟨none, 0, 0⟩ ⟨none, 0, 0⟩ 0) := Lib.hid ⟨fun k s hs => by
          have h1 := HX.out.rows.has k s hs
          have h2 := (List.getElem?_eq_some_iff.1 hs).1
          have h3 : L.length = K := HX.out.bag.len
          rwa [HX.out.done k s (by omega) hs] at h1, HX.out.rows.sep, HX.out.rows.few, HX.out.bag, HGl.out, HX.out.bl, World.ownsRow_nil _ _ _ _, rfl, World.ownsRow_nil _ _ _ _, rfl, fun i hi => by simp [Value.ownBlock] at hi, fun k o ho => by simp at ho, fun k o ho => by simp at ho⟩
      clear HX
      go_wp2_with fail
      clear y0 hd hn hlt
      go_loopw [5, 6, 7] (B2 W0 base g C ⟨GA, K, Gc⟩ L) (fun _ _ n _ => K - (intOf n).toNat)
      case atStart => exact ⟨0, [], [], ⟨none, 0, 0⟩, ⟨none, 0, 0⟩, rfl, rfl, rfl, Nat.zero_le _, HA2⟩
      case round =>
        obtain ⟨n, O, M, oS, mS, rfl, rfl, rfl, hn, HX⟩ := hrel
        replace hn : n ≤ K := hn
        clear HA2
        have y0 := HX.out.bag.cell
        dsimp only [Sl.v] at y0
        by_cases hlt : n < K
        · have hd : decide ((n : Int) < K) = true := decide_eq_true (by omega)
          obtain ⟨s, hs⟩ : ∃ s, L[n]? = some s := ⟨L[n]'(by rw [HX.out.bag.len]; exact hlt), List.getElem?_eq_getElem _⟩
          obtain ⟨gg, hgA, hrow⟩ := own_cellS HX.out.bag.row (slv_get hs)
          dsimp only at hgA
          subst hgA
          obtain ⟨sA, sn, sc⟩ := s
          have HS := Lib.hid (And.intro hs (HX.out.few n _ hs))
          have hsn : sn ≤ 1099511627776 := HS.out.2
          clear hs
          dsimp only [Sl.v] at hrow
          go_wp2_with fail
          clear y0 hrow
          go_loopw [5, 8, 9] (B2i W0 wr base n ⟨sA, sn, sc⟩ oS O) (fun _ _ i _ => sn + 70 - (intOf i).toNat)
          case atStart => exact ⟨sn, ⟨sA, sn, sc⟩, oS, O, false, rfl, rfl, rfl, Nat.le_add_right _ _, by simp, Lib.hid (HX.out.start HS.out.1)⟩
          case round =>
            obtain ⟨i, l, oS', O', d, rfl, rfl, rfl, hi, hdd, HI⟩ := hrel
            replace hi : i ≤ sn + 70 := hi
            replace hdd : d = decide (sn < i) := hdd
            have HBg := Lib.hid (HX.out.bagIn HS.out.1 HI.out.k)
            have y0 := HBg.out.cell
            dsimp only [Sl.v] at y0
            obtain ⟨gg2, hgA2, hrow⟩ := own_cellS HBg.out.row (slv_get HS.out.1)
            injection hgA2 with hgA2
            injection hgA2 with hgA2
            subst hgA2
            dsimp only [Sl.v] at hrow
            have hln := HI.out.ln
            by_cases hil : i < sn + 70
            · have hd2 : decide ((i : Int) < sn + 70) = true := decide_eq_true (by omega)
              have hd3 : decide (i < sn + 70) = true := decide_eq_true hil
              have w0 : IntKind.i64.wrap ((sn : Int) + 70) = sn + 70 := by rw [IntKind.wrap_i64]; omega
              obtain ⟨w1, w2, w3, w4, w5⟩ := wraps n i (by omega) (by omega)
              have HKw := HI.out.k.size
              obtain ⟨lA, ln, lc⟩ := l
              replace hln : ln = i := hln
              subst hln
              have hbb : Below wr.heap.size wr (wr.alloc (.cells #[.int .u8 (mkB n ln)] 5)) := (Below.refl _ _).alloc (Nat.le_refl _) _
              have HIb := Lib.hid (HI.out.later hbb)
              have HRd : Hid (Reads (wr.alloc (.cells #[.int .u8 (mkB n ln)] 5)) (wr.heap.size + 1) 1 (some ⟨wr.heap.size, 0, none⟩) 1 [.int .u8 (mkB n ln)]) := Lib.hid (Reads.one_new _ _ _)
              have HKb := Lib.hid (Nat.le_trans HKw hbb.size)
              have HBz := Lib.hid (Nat.le_trans (Nat.le_trans HBs.out HX.out.bl.size) (Nat.le_trans HKw hbb.size))
              clear hbb
              by_cases his : ln = sn
              · subst his
                have hdf : d = false := by rw [hdd]; simp
                subst hdf
                have HON : Hid (oS'.n = n) := Lib.hid (by
                  rcases HI.out.oc with ⟨_, _, q⟩ | ⟨q, _⟩
                  · rw [q]; exact HX.out.on
                  · cases q)
                clear hdd hil hi
                go_wp2_with (first | (at_builtin; refine wpList_app2 el_u8 rfl (.tmp 82) (.tmp 90) rfl (show World.ownsRow (wr.alloc (.cells #[.int .u8 (mkB n ln)] 5)) base 5 1 (.slice lA ln lc) ln (u8s (mkL n ln)) from HIb.out.lhas) rfl HRd.out rfl (by simp [Value.oneCell']) (by simp only [maxLen]; omega) (by omega) HBz.out (by decide) ?_; intro v2 w2 ho2 hg2; obtain ⟨l2, hv2, HI2x⟩ := HIb.out.app HKb.out hg2 ho2; subst hv2; have HI2 := Lib.hid HI2x; have HBg2 := Lib.hid (HX.out.bagIn HS.out.1 HI2x.k); clear ho2 hg2 HI2x; clear y0 hrow; have y0 := HBg2.out.cell; dsimp only [Sl.v] at y0; obtain ⟨gg3, hgA3, hrow⟩ := own_cellS HBg2.out.row (slv_get HS.out.1); injection hgA3 with hgA3; injection hgA3 with hgA3; subst hgA3; dsimp only [Sl.v] at hrow; obtain ⟨lA2, ln2, lc2⟩ := l2; dsimp only [Sl.v]) | (at_builtin; have hb4 : Below w2.heap.size w2 (w2.alloc (.cells #[.slice lA2 ln2 lc2] 28)) := (Below.refl _ _).alloc (Nat.le_refl _) _; have HI4 := Lib.hid (HI2.out.later hb4); have HRd4 : Hid (Reads (w2.alloc (.cells #[.slice lA2 ln2 lc2] 28)) (w2.heap.size + 1) 1 (some ⟨w2.heap.size, 0, none⟩) 1 [.slice lA2 ln2 lc2]) := Lib.hid (Reads.one_new _ _ _); have HK4 := Lib.hid (Nat.le_trans HI2.out.k.size hb4.size); go_must (refine wpList_app2 el_b rfl (.tmp 102) (.tmp 104) rfl HI4.out.orow rfl HRd4.out rfl (by simp [Value.oneCell']) (by have := HON.out; simp only [maxLen]; omega) (by have := HON.out; omega) (Nat.le_trans HX.out.bl.size HK4.out) (by decide) ?_); intro v5 w5 ho5 hg5; obtain ⟨oS5, hv5, hn5, HI5x⟩ := HI4.out.one HK4.out rfl hg5 ho5; subst hv5; have HI5 := Lib.hid HI5x; clear ho5 hg5 HI5x hb4 y0 hrow))
                go_roundw
                case rel => exact ⟨_, _, _, ⟨ln + 1, ⟨lA2, ln2, lc2⟩, oS5, _, true, rfl, rfl, by push_cast; rfl, by show ln + 1 ≤ ln + 70; omega, by simp, HI5⟩, rfl, rfl, rfl⟩
                case measure =>
                  simp only [intOf]
                  omega
              · have hne : ((ln : Int) == (sn : Int)) = false := by simp; omega
                have hdt : d = true := by
                  rw [hdd]
                  have := HI.out.sn
                  dsimp only at this
                  simp
                  omega
                go_wp2_with (at_builtin; go_must (refine wpList_app2 el_u8 rfl (.tmp 82) (.tmp 90) rfl (show World.ownsRow (wr.alloc (.cells #[.int .u8 (mkB n ln)] 5)) base 5 1 (.slice lA ln lc) ln (u8s (mkL n ln)) from HIb.out.lhas) rfl HRd.out rfl (by simp [Value.oneCell']) (by simp only [maxLen]; omega) (by omega) HBz.out (by decide) ?_); intro v2 w2 ho2 hg2; obtain ⟨l2, hv2, HI2x⟩ := HIb.out.app HKb.out hg2 ho2; subst hv2; have HI2 := Lib.hid HI2x; have HBg2 := Lib.hid (HX.out.bagIn HS.out.1 HI2x.k); clear ho2 hg2 HI2x; clear y0 hrow; have y0 := HBg2.out.cell; dsimp only [Sl.v] at y0; obtain ⟨gg3, hgA3, hrow⟩ := own_cellS HBg2.out.row (slv_get HS.out.1); injection hgA3 with hgA3; injection hgA3 with hgA3; subst hgA3; dsimp only [Sl.v] at hrow; obtain ⟨lA2, ln2, lc2⟩ := l2; dsimp only [Sl.v])
                go_roundw
                case rel => exact ⟨_, _, _, ⟨ln + 1, ⟨lA2, ln2, lc2⟩, oS', O', d, rfl, rfl, by push_cast; rfl, by show ln + 1 ≤ sn + 70; omega, by rw [hdt]; have := HI.out.sn; dsimp only at this; simp; omega, HI2⟩, rfl, rfl, rfl⟩
                case measure =>
                  simp only [intOf]
                  omega
            · have hd2 : decide ((i : Int) < sn + 70) = false := decide_eq_false (by omega)
              have hd3 : decide (i < sn + 70) = false := decide_eq_false hil
              have w0 : IntKind.i64.wrap ((sn : Int) + 70) = sn + 70 := by rw [IntKind.wrap_i64]; omega
              have hdt : d = true := by rw [hdd]; simp; omega
              have hi70 : i = sn + 70 := by omega
              subst hdt
              have HI7 := Lib.hid HI.out
              rw [hi70] at HI7
              clear hi70 hi
              obtain ⟨lA, ln, lc⟩ := l
              have HMn : Hid (mS.n ≤ 300) := Lib.hid (by have := HX.out.mn; omega)
              have hbb : Below wr.heap.size wr (wr.alloc (.cells #[.slice lA ln lc] 28)) := (Below.refl _ _).alloc (Nat.le_refl _) _
              have HIb := Lib.hid (HI7.out.later hbb)
              have HMb := Lib.hid (HX.out.moreIn HS.out.1 HIb.out.k)
              have HRd : Hid (Reads (wr.alloc (.cells #[.slice lA ln lc] 28)) (wr.heap.size + 1) 1 (some ⟨wr.heap.size, 0, none⟩) 1 [.slice lA ln lc]) := Lib.hid (Reads.one_new _ _ _)
              have HBz := Lib.hid (Nat.le_trans HX.out.bl.size (Nat.le_trans HI.out.k.size hbb.size))
              clear hbb
              go_wp2_with (at_builtin; go_must (refine wpList_app2 el_b rfl (.tmp 106) (.tmp 108) rfl HMb.out rfl HRd.out rfl (by simp [Value.oneCell']) (by have := HMn.out; simp only [maxLen]; omega) (by have := HMn.out; omega) HBz.out (by decide) ?_); intro v2 w2 ho2 hg2; obtain ⟨mS2, hv2, HX2x⟩ := HX.out.next HS.out.1 HIb.out HBs.out hg2 ho2; subst hv2; have HX2 := Lib.hid HX2x; clear ho2 hg2 HX2x y0 hrow)
              go_roundw
              case rel => first | exact ⟨n + 1, _, _, _, mS2, rfl, rfl, by push_cast; rfl, hlt, HX2⟩ | exact ⟨_, _, _, ⟨n + 1, _, _, _, mS2, rfl, rfl, by push_cast; rfl, hlt, HX2⟩, rfl, rfl, rfl⟩
              case measure =>
                simp only [intOf]
                omega
        · have hd : decide ((n : Int) < K) = false := decide_eq_false (by omega)
          have hnK : n = K := by omega
          subst hnK
          obtain ⟨oA, on, oc⟩ := oS
          obtain ⟨mA, mn, mc⟩ := mS
          obtain rfl : on = n := by have := HX.out.on; dsimp only at this; omega
          obtain rfl : mn = on := by have := HX.out.mn; dsimp only at this; omega
          dsimp only [Sl.v]
          go_wp2_with fail
          clear y0 hd hlt
          go_loopw [10] (fun nv W => ∃ m : Nat, nv = .int .i64 m ∧ m ≤ mn ∧ W = wr) (fun m _ => mn - (intOf m).toNat)
          case atStart => exact ⟨0, rfl, Nat.zero_le _, rfl⟩
          case round =>
            obtain ⟨m, rfl, hm, rfl⟩ := hrel
            have y0 := HX.out.bag.cell
            dsimp only [Sl.v] at y0
            by_cases hml : m < mn
            · have hd : decide ((m : Int) < mn) = true := decide_eq_true (by omega)
              obtain ⟨s, hs⟩ : ∃ s, L[m]? = some s := ⟨L[m]'(by rw [HX.out.bag.len]; exact hml), List.getElem?_eq_getElem _⟩
              obtain ⟨o, ho⟩ : ∃ o, O[m]? = some o := ⟨O[m]'(by rw [HX.out.ol]; omega), List.getElem?_eq_getElem _⟩
              obtain ⟨q, hq⟩ : ∃ q, M[m]? = some q := ⟨M[m]'(by rw [HX.out.ml]; omega), List.getElem?_eq_getElem _⟩
              obtain ⟨gg, hgA1, hrow⟩ := own_cellS HX.out.bag.row (slv_get hs)
              obtain ⟨go, hgA2, hrow2⟩ := own_cellS HX.out.orow (slv_get ho)
              obtain ⟨gq, hgA3, hrow3⟩ := own_cellS HX.out.mrow (slv_get hq)
              dsimp only at hgA1 hgA2 hgA3
              subst hgA1 hgA2 hgA3
              have HS := Lib.hid (And.intro (HX.out.rows m s hs) (And.intro (HX.out.few m s hs) (And.intro (HX.out.oh m o ho).2.1 (HX.out.mh m q hq).2.1)))
              have e1 := (HX.out.oh m o ho).1 s hs
              have e2 := (HX.out.mh m q hq).1 s hs
              obtain ⟨sA, sn, sc⟩ := s
              obtain ⟨oA, on, oc⟩ := o
              obtain ⟨qA, qn, qc⟩ := q
              have HN : Hid (on = sn + 1 ∧ qn = sn + 70 ∧ sn ≤ 1099511627776) := Lib.hid ⟨e1, e2, HS.out.2.1⟩
              dsimp only [Sl.v] at hrow hrow2 hrow3
              have hqn : qn ≤ 1099511627846 := by have := HN.out; omega
              clear hs ho hq e1 e2
              go_wp2_with fail
              go_loopw [11] (fun iv W => ∃ i : Nat, iv = .int .i64 i ∧ i ≤ qn ∧ W = wr) (fun i _ => qn - (intOf i).toNat)
              case atStart => exact ⟨0, rfl, Nat.zero_le _, rfl⟩
              case round =>
                obtain ⟨i, rfl, hi, rfl⟩ := hrel
                by_cases hiq : i < qn
                · have hd2 : decide ((i : Int) < qn) = true := decide_eq_true (by omega)
                  obtain ⟨gb, x, hqA, hx, hcx, -, -⟩ := HS.out.2.2.2.cell (k := i) hiq
                  replace hqA : qA = some ⟨gb, 0, none⟩ := hqA
                  subst hqA
                  have hx2 : x = mkB m i := by rw [mkL_at hiq] at hx; injection hx with hx; exact hx.symm
                  subst hx2
                  obtain ⟨w1, w2, w3, w4, w5⟩ := wraps m i (by omega) (by have := HN.out; omega)
                  clear hx
                  by_cases h1 : i < sn
                  · have hd3 : decide ((i : Int) < sn) = true := decide_eq_true (by omega)
                    have hd4 : ((i : Int) == (sn : Int)) = false := by simp; omega
                    obtain ⟨gb2, x, hsA, hx, hcx2, -, -⟩ := HS.out.1.cell (k := i) h1
                    replace hsA : sA = some ⟨gb2, 0, none⟩ := hsA
                    subst hsA
                    have hx2 : x = mkB m i := by rw [mkL_at h1] at hx; injection hx with hx; exact hx.symm
                    subst hx2
                    clear hx
                    go_wp2_with fail
                    go_roundw
                    case rel => exact ⟨i + 1, by push_cast; rfl, hiq, by first | rfl | trivial⟩
                    case measure =>
                      simp only [intOf]
                      omega
                  · have hd3 : decide ((i : Int) < sn) = false := decide_eq_false (by omega)
                    by_cases h2 : i = sn
                    · have hd4 : ((i : Int) == (sn : Int)) = true := by simp; omega
                      obtain ⟨gb2, x, hoA, hx, hcx2, -, -⟩ := HS.out.2.2.1.cell (k := i) (show i < on by have := HN.out; omega)
                      replace hoA : oA = some ⟨gb2, 0, none⟩ := hoA
                      subst hoA
                      have hx2 : x = mkB m i := by rw [mkL_at (show i < on by have := HN.out; omega)] at hx; injection hx with hx; exact hx.symm
                      have hion : i < on := by have := HN.out; omega
                      have hd5 : decide ((i : Int) < on) = true := decide_eq_true (by omega)
                      subst hx2
                      clear hx
                      have HH := Lib.hid h2
                      clear h2
                      go_wp2_with fail
                      go_roundw
                      case rel => exact ⟨i + 1, by push_cast; rfl, hiq, by first | rfl | trivial⟩
                      case measure =>
                        simp only [intOf]
                        omega
                    · have hd4 : ((i : Int) == (sn : Int)) = false := by simp; omega
                      go_wp2_with fail
                      go_roundw
                      case rel => exact ⟨i + 1, by push_cast; rfl, hiq, by first | rfl | trivial⟩
                      case measure =>
                        simp only [intOf]
                        omega
                · have hd2 : decide ((i : Int) < qn) = false := decide_eq_false (by omega)
                  go_wp2_with fail
                  go_roundw
                  case rel => exact ⟨m + 1, by push_cast; rfl, hml, by first | rfl | trivial⟩
                  case measure =>
                    simp only [intOf]
                    omega
            · have hd : decide ((m : Int) < mn) = false := decide_eq_false (by omega)
              go_wp2_with fail
              go_ret
              exact ⟨rfl, HX.out.bl, HX.out.bag.blk⟩
end Go.Proofs.YtlnkjmjddecjdaaDoor
