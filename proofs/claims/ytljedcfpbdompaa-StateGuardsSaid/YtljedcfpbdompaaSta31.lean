/-
  StateGuards: the walk. Printed by gen_sta31.py.
-/
import Derived.Test.YtljedcfpbdompaaStaM4
import Derived.Test.YtljedcfpbdompaaSta27
namespace Go.Proofs.Ytljedcfpbdompaa
set_option linter.unusedVariables false
open Go.RowKit Go.ChangeShapes Go.WideShapes

theorem chk_zero {s : SE} (h : ChkS s 0) : s.h.len = 20 + s.n ∧ WholeS s := by
  rcases h with ⟨_, h1⟩ | ⟨_, _, h1⟩ | ⟨h1, _, h2, _⟩
  · exact absurd h1 (by decide)
  · exact absurd h1 (by decide)
  · exact ⟨h1, h2⟩
theorem chk_not {s : SE} {k : Int} (h : ¬ WholeS s) (hk : ChkS s k) : k ≠ 0 := by
  rintro rfl
  exact h (chk_zero hk).2
set_option maxRecDepth 100000 in
set_option maxHeartbeats 16000000 in
theorem stateGuards_walk (s : SE) (at_ tb : Int) (w : World) (hs : SArg w s) (ht0 : 0 ≤ tb) (ht1 : tb ≤ 255) : Calls Try.prog 4 #[s.v, .int .i64 at_, .int .u8 tb] w fun e w' => e = .returned (.bool true) ∧ Below w.heap.size w w' := by
  obtain ⟨h, A, n, c, B⟩ := s
  have hb0 : Below w.heap.size w (w.alloc (.cells #[.int .u16 h.age, .int .u8 h.opts, .int .u8 h.typ, .int .u32 h.id, .int .u32 h.adv, .int .i32 h.seq, .int .u16 h.sum, .int .u16 h.len, .slice A n c] 34)) := (Below.refl _ _).alloc (Nat.le_refl _) _
  have HX := Lib.hid (Blk.new w 34 (stC h A n c))
  have HB := Lib.hid hb0
  have HO := Lib.hid (hs.later hb0)
  clear hs hb0
  obtain ⟨y0, y1, y2, y3, y4, y5, y6, y7, y8⟩ := stC_facts HX.out
  show Calls Try.prog 4 #[stV h A n c, .int .i64 at_, .int .u8 tb] w _
  go_enter Try.func4, Try.ntmps4
  unfold stC at *
  by_cases h4 : 4096 < n
  · have hd : decide ((4096 : Int) < n) = true := decide_eq_true (by omega)
    go_wp2_with fail
    refine (lives_any _).mono ?_
    rintro e wl ⟨rfl, hbl⟩
    go_wp2_with fail
    go_ret
    exact ⟨rfl, below_then HB.out hbl⟩
  · have hd : decide ((4096 : Int) < n) = false := decide_eq_false (by omega)
    have hn : n ≤ 4096 := by omega
    clear h4
    go_wp2_with fail
    clear y0 y1 y2 y3 y4 y5 y6 y7 y8
    generalize hgs : w.heap.size = gs at *
    have HGS := Lib.hid hgs
    clear hgs
    generalize w.alloc (.cells #[.int .u16 h.age, .int .u8 h.opts, .int .u8 h.typ, .int .u32 h.id, .int .u32 h.adv, .int .i32 h.seq, .int .u16 h.sum, .int .u16 h.len, .slice A n c] 34) = w1 at *
    have HR1 : Hid (SE.rd w1 ⟨h, A, n, c, B⟩) := Lib.hid (HO.out.rd (by show n ≤ 1099511627776; omega))
    refine (copyState_any ⟨h, A, n, c, B⟩ w1 HR1.out).mono ?_
    rintro e w2 ⟨⟨h', A', n', c', B'⟩, rfl, ⟨e1, e2, e3, hok⟩, hb2⟩
    obtain rfl : h = h' := e1.symm
    obtain rfl : B = B' := e2.symm
    obtain rfl : n = n' := e3.symm
    have HB1 : Hid (Below w.heap.size w w1) := by rw [HGS.out]; exact HB
    have HB2 := Lib.hid (below_then HB1.out hb2)
    have HX2 := Lib.hid (HX.out.later hb2)
    have HR2 := Lib.hid (HR1.out.later hb2)
    have HC2 := Lib.hid hok.rd
    clear hb2 hok
    go_wp2_with fail
    refine (check_any ⟨h, A', n, c', B⟩ w2 HC2.out (by show n ≤ 1073741824; omega)).mono ?_
    rintro e w3 ⟨k, rfl, hk, hb3⟩
    have HB3 := Lib.hid (below_then HB2.out hb3)
    have HX3 := Lib.hid (HX2.out.later hb3)
    have HR3 := Lib.hid (HR2.out.later hb3)
    clear hb3 HC2 HR2 HX2
    by_cases hk0 : k = 0
    · subst hk0
      have HW := Lib.hid (chk_zero hk)
      clear hk
      obtain ⟨y0, y1, y2, y3, y4, y5, y6, y7, y8⟩ := stC_facts HX3.out
      go_wp2_with fail
      clear y0 y1 y2 y3 y4 y5 y6 y7 y8
      refine (copyState_any ⟨h, A, n, c, B⟩ w3 HR3.out).mono ?_
      rintro e w4 ⟨⟨h', A4, n', c4, B'⟩, rfl, ⟨e1, e2, e3, hok⟩, hb4⟩
      obtain rfl : h = h' := e1.symm
      obtain rfl : B = B' := e2.symm
      obtain rfl : n = n' := e3.symm
      have HB4 := Lib.hid (below_then HB3.out hb4)
      have HC4 := Lib.hid hok.rd
      clear hb4 hok
      go_wp2_with fail
      refine (bytes_any ⟨h, A4, n, c4, B⟩ w4 HC4.out (by show n ≤ 1073741824; omega)).mono ?_
      rintro e w5 ⟨u, rfl, hu, hb5⟩
      replace hu : w5.ownsRow w4.heap.size 5 1 u (20 + n) (u8s (hdB h ++ B)) := hu
      have HOc : Hid (Oct (hdB h ++ B)) := Lib.hid (Oct.append (hdB_oct HC4.out.head) HC4.out.oct)
      obtain ⟨W, hW⟩ : ∃ W, hdB h ++ B = W := ⟨_, rfl⟩
      have HWd := Lib.hid hW
      rw [hW] at hu HOc
      clear hW
      obtain ⟨g, cap, rfl, hge, hcap, hcm, hrow⟩ := Row.of_own hu (by omega)
      have HB5 := Lib.hid (below_then HB4.out hb5)
      have HRow := Lib.hid hrow
      have HGe : Hid (w.heap.size ≤ g) := Lib.hid (Nat.le_trans HB4.out.size hge)
      have HWl : Hid (W.length = 20 + n) := Lib.hid (by have := hu.1; rw [u8s_length] at this; omega)
      have HCp := Lib.hid (And.intro hcap hcm)
      clear hu hb5 hge hcap hcm hrow
      by_cases ha2 : at_ < 2
      · have hda : decide (at_ < 2) = true := decide_eq_true ha2
        clear ha2
        go_wp2_with fail
        refine (lives_any _).mono ?_
        rintro e wl ⟨rfl, hbl⟩
        go_wp2_with fail
        go_ret
        exact ⟨rfl, below_then HB5.out hbl⟩
      · have hda : decide (at_ < 2) = false := decide_eq_false ha2
        by_cases han : (20 + n : Int) ≤ at_
        · have hdb : decide ((20 + n : Int) ≤ at_) = true := decide_eq_true han
          have hdc : decide (((20 + n : Nat) : Int) ≤ at_) = true := decide_eq_true (by omega)
          clear ha2 han
          go_wp2_with fail
          refine (lives_any _).mono ?_
          rintro e wl ⟨rfl, hbl⟩
          go_wp2_with fail
          go_ret
          exact ⟨rfl, below_then HB5.out hbl⟩
        · obtain ⟨i, rfl⟩ := Int.eq_ofNat_of_zero_le (show 0 ≤ at_ by omega)
          have hdb : decide ((20 + n : Int) ≤ (i : Int)) = false := decide_eq_false han
          have hdc : decide (((20 + n : Nat) : Int) ≤ (i : Int)) = false := decide_eq_false (by omega)
          have HI : Hid (2 ≤ i ∧ i < 20 + n) := Lib.hid (by omega)
          have hi0 : (0 : Int) ≤ (i : Int) := by omega
          have hi1 : i < 20 + n := by omega
          obtain ⟨x, hx, hcx⟩ := HRow.out.u8cell (i := i) (by have := HWl.out; omega)
          have HXo := HOc.out i x hx.out
          have r1 : x.tmod 255 = x % 255 := Int.tmod_eq_emod_of_nonneg HXo.1
          have r2 : tb.tmod 255 = tb % 255 := Int.tmod_eq_emod_of_nonneg ht0
          have r3 : IntKind.u8.wrap (x % 255) = x % 255 := IntWalk.u8_in _ (by omega)
          have r4 : IntKind.u8.wrap (tb % 255) = tb % 255 := IntWalk.u8_in _ (by omega)
          clear ha2 han
          by_cases hxt : x % 255 = tb % 255
          · have hbx : (x % 255 == tb % 255) = true := by simpa using hxt
            clear hxt
            go_wp2_with fail
            refine (lives_any _).mono ?_
            rintro e wl ⟨rfl, hbl⟩
            go_wp2_with fail
            go_ret
            exact ⟨rfl, below_then HB5.out hbl⟩
          · have hbx : (x % 255 == tb % 255) = false := by simpa using hxt
            have HXt := Lib.hid hxt
            have hcf := HRow.out.frozen i
            clear hxt
            have HR6 := Lib.hid (HRow.out.u8set i tb)
            have HB6 := Lib.hid (HB5.out.setCell (p := ⟨g, i, none⟩) HGe.out (.int .u8 tb))
            have HO6 := Lib.hid (HOc.out.set i ⟨ht0, ht1⟩)
            have HL6 : Hid ((W.set i tb).length = 20 + n) := Lib.hid (by rw [List.length_set]; exact HWl.out)
            go_wp2_with fail
            clear hcx hcf
            generalize w5.setCell ⟨g, i, none⟩ (.int .u8 tb) = w6 at *
            have hre := HR6.out.u8reads HL6.out
            obtain ⟨V, hV⟩ : ∃ V, W.set i tb = V := ⟨_, rfl⟩
            have HVd := Lib.hid hV
            rw [hV] at hre HO6 HL6
            clear hV HR6
            by_cases hE : rdE V = 0
            · refine (read_yes (some ⟨g, 0, none⟩) (20 + n) cap V w6 hre HO6.out HCp.out.1 (by have := HCp.out.2; simp only [maxLen] at this; omega) (by omega) hE).mono ?_
              clear hre
              rintro e w7 ⟨⟨h', A7, n', c7, B'⟩, rfl, ⟨e1, e2, e3, hok⟩, hb7⟩
              have HS7 := Lib.hid (And.intro e1 (And.intro e2 e3))
              have hb8 : Below w7.heap.size w7 (w7.alloc (.cells #[.int .u16 h'.age, .int .u8 h'.opts, .int .u8 h'.typ, .int .u32 h'.id, .int .u32 h'.adv, .int .i32 h'.seq, .int .u16 h'.sum, .int .u16 h'.len, .slice A7 n' c7] 34)) := (Below.refl _ _).alloc (Nat.le_refl _) _
              have HX8 := Lib.hid (Blk.new w7 34 (stC h' A7 n' c7))
              have HC8 := Lib.hid (hok.rd.later hb8)
              have HB8 := Lib.hid (below_then (below_then HB6.out hb7) hb8)
              have HLen := Lib.hid (hdAt_ok HO6.out 0).len
              obtain ⟨y0, y1, y2, y3, y4, y5, y6, y7, y8⟩ := stC_facts HX8.out
              clear e1 e2 e3 hok hb7 hb8
              unfold stC at *
              by_cases hlb : (hdAt V 0).len = 20 + n
              · have hl8 : ((hdAt V 0).len == (20 + n : Int)) = true := by simpa using hlb
                have HLb := Lib.hid hlb
                clear hlb
                go_wp2_with fail
                clear y0 y1 y2 y3 y4 y5 y6 y7 y8
                generalize w7.alloc (.cells #[.int .u16 h'.age, .int .u8 h'.opts, .int .u8 h'.typ, .int .u32 h'.id, .int .u32 h'.adv, .int .i32 h'.seq, .int .u16 h'.sum, .int .u16 h'.len, .slice A7 n' c7] 34) = w8 at *
                refine (check_any ⟨h', A7, n', c7, B'⟩ w8 HC8.out (by show n' ≤ 1073741824; have h1 := HS7.out.2.2; have h2 := HLb.out; omega)).mono ?_
                rintro e w9 ⟨k, rfl, hk, hb9⟩
                have HB9 := Lib.hid (below_then HB8.out hb9)
                clear hb9
                have hkn : (k == 0) = false := by
                  have hwn : ¬ WholeS ⟨h', A7, n', c7, B'⟩ := by
                    have h1 := HS7.out.1
                    have h2 := HS7.out.2.1
                    (try simp only at h1 h2)
                    have h3 : (V.take (hdAt V 0).len.toNat) = V := List.take_of_length_le (by have h4 := HLb.out; have h5 := HL6.out; omega)
                    rw [h3] at h2
                    unfold WholeS stB
                    rw [h1, h2]
                    have hg := guard_found (h := h) (B := B) (at_ := i) (x := x) (v := tb) (by rw [HWd.out, HVd.out]; exact HO6.out) (by rw [HWd.out]; exact hx.out) HI.out.1 HXt.out HW.out.2.1 HW.out.2.2
                    rw [HWd.out, HVd.out] at hg
                    intro hh
                    rw [hh.1, hh.2] at hg
                    simp at hg
                  have := chk_not hwn hk
                  simpa using this
                clear hk
                go_wp2_with fail
                refine (lives_any _).mono ?_
                rintro e wl ⟨rfl, hbl⟩
                go_wp2_with fail
                go_ret
                exact ⟨rfl, below_then HB9.out hbl⟩
              · have hl8 : ((hdAt V 0).len == (20 + n : Int)) = false := by simpa using hlb
                clear hlb
                go_wp2_with fail
                refine (lives_any _).mono ?_
                rintro e wl ⟨rfl, hbl⟩
                go_wp2_with fail
                go_ret
                exact ⟨rfl, below_then HB8.out hbl⟩
            · have hEn : (rdE V == 0) = false := by simpa using hE
              refine (read_no (some ⟨g, 0, none⟩) (20 + n) cap V w6 hre HO6.out HCp.out.1 (by have := HCp.out.2; simp only [maxLen] at this; omega) (by omega) hE).mono ?_
              clear hre
              rintro e w7 ⟨rfl, hb7⟩
              have hb8 : Below w7.heap.size w7 (w7.alloc (.cells #[.int .u16 0, .int .u8 0, .int .u8 0, .int .u32 0, .int .u32 0, .int .i32 0, .int .u16 0, .int .u16 0, .slice none 0 0] 34)) := (Below.refl _ _).alloc (Nat.le_refl _) _
              have HB8 := Lib.hid (below_then (below_then HB6.out hb7) hb8)
              clear hb7 hb8 hE
              go_wp2_with fail
              refine (lives_any _).mono ?_
              rintro e wl ⟨rfl, hbl⟩
              go_wp2_with fail
              go_ret
              exact ⟨rfl, below_then HB8.out hbl⟩
    · have hkn : (k != 0) = true := by simpa using hk0
      clear hk0 hk
      go_wp2_with fail
      refine (lives_any _).mono ?_
      rintro e wl ⟨rfl, hbl⟩
      go_wp2_with fail
      go_ret
      exact ⟨rfl, below_then HB3.out hbl⟩
end Go.Proofs.Ytljedcfpbdompaa
