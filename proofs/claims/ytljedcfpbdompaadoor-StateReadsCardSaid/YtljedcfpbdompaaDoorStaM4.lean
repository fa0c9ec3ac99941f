/-
  Check. Printed by gen_sta29.py.
  What is sealed is right; lives.
-/
import Derived.Test.YtljedcfpbdompaaDoorStaM3
namespace Go.Proofs.YtljedcfpbdompaaDoor
set_option linter.unusedVariables false
open Go.RowKit Go.ChangeShapes Go.WideShapes

theorem u16_andNot15 (x : Int) (h0 : 0 ≤ x) (h1 : x ≤ 65535) : bits .andNot .u16 x 32768 = x % 32768 := by
  rw [u16_andNot _ _ (by omega) (by omega) (by omega) (by omega)]
  obtain ⟨a, rfl⟩ := Int.eq_ofNat_of_zero_le h0
  have e : 65535 - ((32768 : Int)).toNat = 2 ^ 15 - 1 := by omega
  rw [e, Int.toNat_natCast, Nat.and_two_pow_sub_one_eq_mod]
  omega
/-- A state's sum is right. -/
def WholeS (s : SE) : Prop := S0 ((stB s).drop 2) % 255 = 0 ∧ S1 ((stB s).drop 2) % 255 = 0
/-- Its numbers are not. -/
def OddS (s : SE) : Prop := s.h.seq = -2147483648 ∨ 3600 < s.h.age % 32768
/-- What Check says. -/
def ChkS (s : SE) (k : Int) : Prop :=
  (s.h.len ≠ 20 + s.n ∧ k = 22) ∨ (s.h.len = 20 + s.n ∧ (s.h.sum = 0 ∨ ¬ WholeS s) ∧ k = 23) ∨
  (s.h.len = 20 + s.n ∧ s.h.sum ≠ 0 ∧ WholeS s ∧ ((¬ Kn s.h.typ ∧ k = 21) ∨ (Kn s.h.typ ∧ ((OddS s ∧ k = 24) ∨ (¬ OddS s ∧ ((goodB s.h.typ s.B ∧ k = 0) ∨ (¬ goodB s.h.typ s.B ∧ k = 28)))))))
set_option maxRecDepth 100000 in
set_option maxHeartbeats 8000000 in
theorem chk_len (s : SE) (w : World) (hs : s.rd w) (hn : s.n ≤ 1073741824) (hl : s.h.len ≠ 20 + s.n) : Calls Tryd.prog 17 #[s.v] w fun e w' => e = .returned (.int .i64 22) ∧ Below w.heap.size w w' := by
  obtain ⟨h, A, n, c, B⟩ := s
  have hb0 : Below w.heap.size w (w.alloc (.cells #[.int .u16 h.age, .int .u8 h.opts, .int .u8 h.typ, .int .u32 h.id, .int .u32 h.adv, .int .i32 h.seq, .int .u16 h.sum, .int .u16 h.len, .slice A n c] 33)) := (Below.refl _ _).alloc (Nat.le_refl _) _
  have HX := Lib.hid (Blk.new w 33 (stC h A n c))
  have HB := Lib.hid hb0
  have HO := Lib.hid hs
  have hn' : n ≤ 1073741824 := hn
  have hw : IntKind.i64.wrap (20 + (n : Int)) = 20 + n := by rw [IntKind.wrap_i64]; omega
  have hk : IntKind.i64.wrap h.len = h.len := by have := hs.head.len; simp only at this; rw [IntKind.wrap_i64]; omega
  have hl2 : (h.len != 20 + (n : Int)) = true := by simpa using hl
  clear hl
  clear hn hs hb0
  show Calls Tryd.prog 17 #[stV h A n c] w _
  go_enter Tryd.func17, Tryd.ntmps17
  obtain ⟨y0, y1, y2, y3, y4, y5, y6, y7, y8⟩ := stC_facts HX.out
  unfold stC at *
  go_wp2_with fail
  go_ret
  exact ⟨rfl, HB.out⟩
set_option maxRecDepth 100000 in
set_option maxHeartbeats 8000000 in
theorem chk_sum (s : SE) (w : World) (hs : s.rd w) (hn : s.n ≤ 1073741824) (hl : s.h.len = 20 + s.n) (hz : s.h.sum = 0) : Calls Tryd.prog 17 #[s.v] w fun e w' => e = .returned (.int .i64 23) ∧ Below w.heap.size w w' := by
  obtain ⟨h, A, n, c, B⟩ := s
  have hb0 : Below w.heap.size w (w.alloc (.cells #[.int .u16 h.age, .int .u8 h.opts, .int .u8 h.typ, .int .u32 h.id, .int .u32 h.adv, .int .i32 h.seq, .int .u16 h.sum, .int .u16 h.len, .slice A n c] 33)) := (Below.refl _ _).alloc (Nat.le_refl _) _
  have HX := Lib.hid (Blk.new w 33 (stC h A n c))
  have HB := Lib.hid hb0
  have HO := Lib.hid hs
  have hn' : n ≤ 1073741824 := hn
  have hw : IntKind.i64.wrap (20 + (n : Int)) = 20 + n := by rw [IntKind.wrap_i64]; omega
  have hk : IntKind.i64.wrap h.len = h.len := by have := hs.head.len; simp only at this; rw [IntKind.wrap_i64]; omega
  have hl2 : (h.len != 20 + (n : Int)) = false := by simpa using hl
  have hz2 : (h.sum == 0) = true := by simpa using hz
  clear hl hz
  clear hn hs hb0
  show Calls Tryd.prog 17 #[stV h A n c] w _
  go_enter Tryd.func17, Tryd.ntmps17
  obtain ⟨y0, y1, y2, y3, y4, y5, y6, y7, y8⟩ := stC_facts HX.out
  unfold stC at *
  go_wp2_with fail
  go_ret
  exact ⟨rfl, HB.out⟩
set_option maxRecDepth 100000 in
set_option maxHeartbeats 8000000 in
theorem chk_whole (s : SE) (w : World) (hs : s.rd w) (hn : s.n ≤ 1073741824) (hl : s.h.len = 20 + s.n) (hz : s.h.sum ≠ 0) (hq : ¬ WholeS s) : Calls Tryd.prog 17 #[s.v] w fun e w' => e = .returned (.int .i64 23) ∧ Below w.heap.size w w' := by
  obtain ⟨h, A, n, c, B⟩ := s
  have hb0 : Below w.heap.size w (w.alloc (.cells #[.int .u16 h.age, .int .u8 h.opts, .int .u8 h.typ, .int .u32 h.id, .int .u32 h.adv, .int .i32 h.seq, .int .u16 h.sum, .int .u16 h.len, .slice A n c] 33)) := (Below.refl _ _).alloc (Nat.le_refl _) _
  have HX := Lib.hid (Blk.new w 33 (stC h A n c))
  have HB := Lib.hid hb0
  have HO := Lib.hid hs
  have hn' : n ≤ 1073741824 := hn
  have hw : IntKind.i64.wrap (20 + (n : Int)) = 20 + n := by rw [IntKind.wrap_i64]; omega
  have hk : IntKind.i64.wrap h.len = h.len := by have := hs.head.len; simp only at this; rw [IntKind.wrap_i64]; omega
  have hl2 : (h.len != 20 + (n : Int)) = false := by simpa using hl
  have hz2 : (h.sum == 0) = false := by simpa using hz
  have HW : Hid ((S0 ((stB ⟨h, A, n, c, B⟩).drop 2) % 255 == 0 && S1 ((stB ⟨h, A, n, c, B⟩).drop 2) % 255 == 0) = false) := Lib.hid (by
    unfold WholeS at hq
    rw [Bool.eq_false_iff]
    intro hh
    simp only [Bool.and_eq_true, beq_iff_eq] at hh
    exact hq hh)
  clear hl hz hq
  clear hn hs hb0
  show Calls Tryd.prog 17 #[stV h A n c] w _
  go_enter Tryd.func17, Tryd.ntmps17
  obtain ⟨y0, y1, y2, y3, y4, y5, y6, y7, y8⟩ := stC_facts HX.out
  unfold stC at *
  go_wp2_with fail
  clear y0 y1 y2 y3 y4 y5 y6 y7 y8
  generalize hgs : w.heap.size = gs at *
  generalize w.alloc (.cells #[.int .u16 h.age, .int .u8 h.opts, .int .u8 h.typ, .int .u32 h.id, .int .u32 h.adv, .int .i32 h.seq, .int .u16 h.sum, .int .u16 h.len, .slice A n c] 33) = w1 at *
  have HGS := Lib.hid hgs
  clear hgs
  have HO1 : Hid (SE.rd w1 ⟨h, A, n, c, B⟩) := Lib.hid (HO.out.later (by rw [HGS.out]; exact HB.out))
  refine (bytes_any ⟨h, A, n, c, B⟩ w1 HO1.out hn').mono ?_
  rintro e w2 ⟨u, rfl, hu, hb2⟩
  replace hu : w2.ownsRow w1.heap.size 5 1 u (20 + n) (u8s (stB ⟨h, A, n, c, B⟩)) := hu
  obtain ⟨A2, c2, hv2, hc2, hm2, hr2⟩ := own_shape hu
  subst hv2
  have hoct : Oct (stB ⟨h, A, n, c, B⟩) := Oct.append (hdB_oct HO.out.head) HO.out.oct
  have HC2 := Lib.hid (hr2.u8cutc (k := 2) (by omega) (by decide))
  have HC3 := Lib.hid (And.intro (hoct.drop 2) (And.intro hc2 hm2))
  have hcne : ¬ c2 = 2 := by omega
  have hle2 : (2 : Int) ≤ 20 + (n : Int) := by omega
  have HX2 := Lib.hid (HX.out.later hb2)
  have HB2 : Hid (Below w.heap.size w w2) := Lib.hid (below_then (by rw [HGS.out]; exact HB.out) hb2)
  clear hu hr2 hoct hc2 hm2 hb2
  go_wp2_with fail
  have HWP := prog_whole_any _ (20 + n - 2) (c2 - 2) _ w2 HC2.out HC3.out.1 (by have := HC3.out.2; omega) (by have := HC3.out.2; omega)
  rw [HW.out] at HWP
  refine HWP.mono ?_
  clear HWP HC2
  rintro e w3 ⟨rfl, hb3⟩
  have HX3 := Lib.hid (HX2.out.later hb3)
  have HB3 := Lib.hid (below_then HB2.out hb3)
  clear hb3
  go_wp2_with fail
  go_ret
  exact ⟨rfl, HB3.out⟩
set_option maxRecDepth 100000 in
set_option maxHeartbeats 8000000 in
theorem chk_go (s : SE) (w : World) (hs : s.rd w) (hn : s.n ≤ 1073741824) (hl : s.h.len = 20 + s.n) (hz : s.h.sum ≠ 0) (hq : WholeS s) : Calls Tryd.prog 17 #[s.v] w fun e w' => ∃ k, e = .returned (.int .i64 k) ∧ ChkS s k ∧ Below w.heap.size w w' := by
  obtain ⟨h, A, n, c, B⟩ := s
  have hb0 : Below w.heap.size w (w.alloc (.cells #[.int .u16 h.age, .int .u8 h.opts, .int .u8 h.typ, .int .u32 h.id, .int .u32 h.adv, .int .i32 h.seq, .int .u16 h.sum, .int .u16 h.len, .slice A n c] 33)) := (Below.refl _ _).alloc (Nat.le_refl _) _
  have HX := Lib.hid (Blk.new w 33 (stC h A n c))
  have HB := Lib.hid hb0
  have HO := Lib.hid hs
  have hn' : n ≤ 1073741824 := hn
  have hw : IntKind.i64.wrap (20 + (n : Int)) = 20 + n := by rw [IntKind.wrap_i64]; omega
  have hk : IntKind.i64.wrap h.len = h.len := by have := hs.head.len; simp only at this; rw [IntKind.wrap_i64]; omega
  have hl2 : (h.len != 20 + (n : Int)) = false := by simpa using hl
  have hz2 : (h.sum == 0) = false := by simpa using hz
  have HW : Hid ((S0 ((stB ⟨h, A, n, c, B⟩).drop 2) % 255 == 0 && S1 ((stB ⟨h, A, n, c, B⟩).drop 2) % 255 == 0) = true) := Lib.hid (by
    unfold WholeS at hq
    simp only [Bool.and_eq_true, beq_iff_eq]
    exact hq)
  have hba := u16_andNot15 h.age (by have := hs.head.age; simp only at this; omega) (by have := hs.head.age; simp only at this; omega)
  have HA := Lib.hid (And.intro hl (And.intro hz hq))
  clear hl hz hq
  clear hn hs hb0
  show Calls Tryd.prog 17 #[stV h A n c] w _
  go_enter Tryd.func17, Tryd.ntmps17
  obtain ⟨y0, y1, y2, y3, y4, y5, y6, y7, y8⟩ := stC_facts HX.out
  unfold stC at *
  go_wp2_with fail
  clear y0 y1 y2 y3 y4 y5 y6 y7 y8
  generalize hgs : w.heap.size = gs at *
  generalize w.alloc (.cells #[.int .u16 h.age, .int .u8 h.opts, .int .u8 h.typ, .int .u32 h.id, .int .u32 h.adv, .int .i32 h.seq, .int .u16 h.sum, .int .u16 h.len, .slice A n c] 33) = w1 at *
  have HGS := Lib.hid hgs
  clear hgs
  have HO1 : Hid (SE.rd w1 ⟨h, A, n, c, B⟩) := Lib.hid (HO.out.later (by rw [HGS.out]; exact HB.out))
  refine (bytes_any ⟨h, A, n, c, B⟩ w1 HO1.out hn').mono ?_
  rintro e w2 ⟨u, rfl, hu, hb2⟩
  replace hu : w2.ownsRow w1.heap.size 5 1 u (20 + n) (u8s (stB ⟨h, A, n, c, B⟩)) := hu
  obtain ⟨A2, c2, hv2, hc2, hm2, hr2⟩ := own_shape hu
  subst hv2
  have hoct : Oct (stB ⟨h, A, n, c, B⟩) := Oct.append (hdB_oct HO.out.head) HO.out.oct
  have HC2 := Lib.hid (hr2.u8cutc (k := 2) (by omega) (by decide))
  have HC3 := Lib.hid (And.intro (hoct.drop 2) (And.intro hc2 hm2))
  have hcne : ¬ c2 = 2 := by omega
  have hle2 : (2 : Int) ≤ 20 + (n : Int) := by omega
  have HX2 := Lib.hid (HX.out.later hb2)
  have HB2 : Hid (Below w.heap.size w w2) := Lib.hid (below_then (by rw [HGS.out]; exact HB.out) hb2)
  clear hu hr2 hoct hc2 hm2 hb2
  go_wp2_with fail
  have HWP := prog_whole_any _ (20 + n - 2) (c2 - 2) _ w2 HC2.out HC3.out.1 (by have := HC3.out.2; omega) (by have := HC3.out.2; omega)
  rw [HW.out] at HWP
  refine HWP.mono ?_
  clear HWP HC2
  rintro e w3 ⟨rfl, hb3⟩
  have HX3 := Lib.hid (HX2.out.later hb3)
  have HB3 := Lib.hid (below_then HB2.out hb3)
  clear hb3
  obtain ⟨y0, y1, y2, y3, y4, y5, y6, y7, y8⟩ := stC_facts HX3.out
  go_wp2_with fail
  clear y0 y1 y2 y3 y4 y5 y6 y7 y8
  refine (decode_any ⟨h, A, n, c, B⟩ w3 (HO.out.later HB3.out) hn').mono ?_
  rintro e w4 ⟨b, k, rfl, hd, -, -, hb4⟩
  have HX4 := Lib.hid (HX3.out.later hb4)
  have HB4 := Lib.hid (below_then HB3.out hb4)
  have HD := Lib.hid hd
  clear hb4 hd
  have hb5 : Below w4.heap.size w4 (w4.alloc (.cells #[.int .u8 b.flags, .slice b.LA b.ln b.lc, .int .u32 b.mask, .slice b.RA b.rn b.rc, .int .u32 b.metric, .bool b.t2, .int .u32 b.fwd, .int .u32 b.tag, .slice b.DA b.dn b.dc] 67)) := (Below.refl _ _).alloc (Nat.le_refl _) _
  have HX5 := Lib.hid (HX4.out.later hb5)
  have HB5 := Lib.hid (below_then HB4.out hb5)
  obtain ⟨y0, y1, y2, y3, y4, y5, y6, y7, y8⟩ := stC_facts HX5.out
  clear hb5
  have HK : Hid (¬ Kn h.typ ∧ k = 21 ∨ Kn h.typ ∧ (k != 21) = true ∧ (goodB h.typ B ∧ k = 0 ∨ ¬ goodB h.typ B ∧ k = 28)) := Lib.hid (by
    rcases HD.out with ⟨h1, _⟩ | ⟨_, h1, h2, _⟩ | ⟨_, h1, h2, h3, _⟩ | ⟨_, h1, h2, h3, _⟩
    · exact absurd HA.out.1 h1
    · exact .inl ⟨h1, h2⟩
    · exact .inr ⟨h1, by rw [h3]; rfl, .inr ⟨h2, h3⟩⟩
    · exact .inr ⟨h1, by rw [h3]; rfl, .inl ⟨h2, h3⟩⟩)
  clear y1 y2 y3 y4 y6 y7 y8
  have HK2 : Hid (¬ Kn h.typ ∧ k = 21) ∨ (k != 21) = true ∧ Hid (Kn h.typ ∧ (goodB h.typ B ∧ k = 0 ∨ ¬ goodB h.typ B ∧ k = 28)) := by
    rcases HK.out with h1 | ⟨h1, h2, h3⟩
    · exact .inl (Lib.hid h1)
    · exact .inr ⟨h2, Lib.hid ⟨h1, h3⟩⟩
  rcases HK2 with HK2 | ⟨hk21, HK2⟩
  · have hk21 : (k != 21) = false := by rw [HK2.out.2]; rfl
    go_wp2_with fail
    go_ret
    exact ⟨k, rfl, .inr (.inr ⟨HA.out.1, HA.out.2.1, HA.out.2.2, .inl HK2.out⟩), HB5.out⟩
  · by_cases hs1 : h.seq = -2147483648
    · have hsq : (h.seq == -2147483648) = true := by simpa using hs1
      have HQ := Lib.hid (show OddS ⟨h, A, n, c, B⟩ from .inl hs1)
      clear hs1
      go_wp2_with fail
      go_ret
      exact ⟨24, rfl, .inr (.inr ⟨HA.out.1, HA.out.2.1, HA.out.2.2, .inr ⟨HK2.out.1, .inl ⟨HQ.out, rfl⟩⟩⟩), HB5.out⟩
    · have hsq : (h.seq == -2147483648) = false := by simpa using hs1
      have HQ1 := Lib.hid hs1
      clear hs1
      by_cases ha : 3600 < h.age % 32768
      · have had : decide (3600 < h.age % 32768) = true := decide_eq_true ha
        have HQ := Lib.hid (show OddS ⟨h, A, n, c, B⟩ from .inr ha)
        clear ha
        go_wp2_with fail
        go_ret
        exact ⟨24, rfl, .inr (.inr ⟨HA.out.1, HA.out.2.1, HA.out.2.2, .inr ⟨HK2.out.1, .inl ⟨HQ.out, rfl⟩⟩⟩), HB5.out⟩
      · have had : decide (3600 < h.age % 32768) = false := decide_eq_false ha
        have HQ := Lib.hid (show ¬ OddS ⟨h, A, n, c, B⟩ from fun h => h.elim HQ1.out ha)
        clear ha
        go_wp2_with fail
        go_ret
        exact ⟨k, rfl, .inr (.inr ⟨HA.out.1, HA.out.2.1, HA.out.2.2, .inr ⟨HK2.out.1, .inr ⟨HQ.out, HK2.out.2⟩⟩⟩), HB5.out⟩
theorem check_any (s : SE) (w : World) (hs : s.rd w) (hn : s.n ≤ 1073741824) : Calls Tryd.prog 17 #[s.v] w fun e w' => ∃ k, e = .returned (.int .i64 k) ∧ ChkS s k ∧ Below w.heap.size w w' := by
  by_cases hl : s.h.len = 20 + s.n
  · by_cases hz : s.h.sum = 0
    · exact (chk_sum s w hs hn hl hz).mono fun e w' ⟨h1, h2⟩ => ⟨23, h1, .inr (.inl ⟨hl, .inl hz, rfl⟩), h2⟩
    · by_cases hq : WholeS s
      · exact chk_go s w hs hn hl hz hq
      · exact (chk_whole s w hs hn hl hz hq).mono fun e w' ⟨h1, h2⟩ => ⟨23, h1, .inr (.inl ⟨hl, .inr hq, rfl⟩), h2⟩
  · exact (chk_len s w hs hn hl).mono fun e w' ⟨h1, h2⟩ => ⟨22, h1, .inl ⟨hl, rfl⟩, h2⟩
end Go.Proofs.YtljedcfpbdompaaDoor
namespace Go.Proofs.YtljedcfpbdompaaDoor
set_option linter.unusedVariables false
open Go.RowKit Go.ChangeShapes Go.WideShapes

theorem chk_right {s : SE} (hl : s.h.len = 20 + s.n) (hz : s.h.sum ≠ 0) (hw : WholeS s) (hk : Kn s.h.typ) (ho : ¬ OddS s) (hg : goodB s.h.typ s.B) {k : Int} (h : ChkS s k) : k = 0 := by
  rcases h with ⟨h1, _⟩ | ⟨_, h1, _⟩ | ⟨_, _, _, h1⟩
  · exact absurd hl h1
  · rcases h1 with h1 | h1
    · exact absurd h1 hz
    · exact absurd hw h1
  · rcases h1 with ⟨h1, _⟩ | ⟨_, h1⟩
    · exact absurd hk h1
    · rcases h1 with ⟨h1, _⟩ | ⟨_, h1⟩
      · exact absurd h1 ho
      · rcases h1 with ⟨_, h1⟩ | ⟨h1, _⟩
        · exact h1
        · exact absurd hg h1
/-- A state that was sealed. -/
structure SealedS (s : SE) (h : Hd) : Prop where
  h : s.h = sealH h (20 + s.n) s.B
theorem SealedS.len {s : SE} {h : Hd} (k : SealedS s h) : s.h.len = 20 + s.n := by rw [k.h]
theorem SealedS.sum {s : SE} {h : Hd} (k : SealedS s h) : s.h.sum ≠ 0 := by
  rw [k.h]
  have := fl_range 14 ((hdB (lenH h (20 + s.n)) ++ s.B).drop 2)
  show fl 14 ((hdB (lenH h (20 + s.n)) ++ s.B).drop 2) ≠ 0
  omega
theorem SealedS.whole {s : SE} {h : Hd} (k : SealedS s h) : WholeS s := by
  have := seal_whole h (20 + s.n) s.B h.age
  unfold WholeS stB
  rw [k.h]
  exact this
@[reducible] def hL : Hd := ⟨0, 0, 3, 0, 0, 1, 0, 0⟩
@[reducible] def bL : BA := ⟨0, none, 0, 0, [], 4294967040, none, 0, 0, [], 10, false, 0, 0, none, 0, 0, []⟩
theorem hL_ok : hL.ok := ⟨by decide, by decide, by decide, by decide, by decide, by decide, by decide, by decide⟩
theorem bL_rd (w : World) : bL.rd w := ⟨by decide, Reads.none_, rfl, by simp, by decide, Reads.none_, rfl, by simp, by decide, by decide, by decide, Reads.none_, (fun i x hx => by simp at hx), by simp, by simp⟩
theorem bL_may : mayB 3 bL = true := by kernel_rfl
theorem kn3 : Kn 3 := .inr (.inr (.inl rfl))
theorem enc_lives (w : World) : Calls Tryd.prog 15 #[hL.v, bL.v] w fun e w' => ∃ s : SE, e = .returned (.tuple #[s.v, .int .i64 0]) ∧ SealedS s hL ∧ s.B = bdB 3 bL ∧ s.n = 8 ∧ s.ok w.heap.size w' ∧ Below w.heap.size w w' := by
  refine (enc_ok w hL hL_ok bL (bL_rd w) kn3 bL_may (by decide) (by decide) (by decide)).mono ?_
  rintro e w' ⟨s, rfl, ⟨h1, h2, h3, h4⟩, h5⟩
  exact ⟨s, rfl, ⟨by rw [h1, h2]⟩, h2, h3, h4, h5⟩
set_option maxRecDepth 100000 in
set_option maxHeartbeats 8000000 in
theorem lives_any (w : World) : Calls Tryd.prog 4 #[] w fun e w' => e = .returned (.bool true) ∧ Below w.heap.size w w' := by
  have HE := Lib.hid (fun W => enc_lives W)
  have HT := Lib.hid (fun W => enc_type W ⟨0, 0, 6, 0, 0, 0, 0, 0⟩ ⟨by decide, by decide, by decide, by decide, by decide, by decide, by decide, by decide⟩ ⟨0, none, 0, 0, [], 0, none, 0, 0, [], 0, false, 0, 0, none, 0, 0, []⟩ (by unfold Kn; decide))
  go_enter Tryd.func4, Tryd.ntmps4
  go_wp2_with fail
  refine (HE.out w).mono ?_
  rintro e w1 ⟨⟨h, A, n, c, B⟩, rfl, hsl, hB, hn, hok, hb1⟩
  simp only at hB hn
  subst hB hn
  have H1 := Lib.hid (And.intro hsl (And.intro hok hb1))
  have l28 : (h.len == 28) = true := by
    have := hsl.len
    simp only at this
    rw [this]; rfl
  have hb2 : Below w1.heap.size w1 (w1.alloc (.cells (stC h A 8 c) 33)) := (Below.refl _ _).alloc (Nat.le_refl _) _
  have HX2 := Lib.hid (Blk.new w1 33 (stC h A 8 c))
  have HR2 := Lib.hid (hok.rd.later hb2)
  have HB2 := Lib.hid (below_then hb1 hb2)
  obtain ⟨y0, y1, y2, y3, y4, y5, y6, y7, y8⟩ := stC_facts HX2.out
  clear hb2 hsl hok hb1
  go_wp2_with fail
  unfold stC at *
  clear y0 y1 y2 y3 y4 y5 y6 y7 y8
  generalize w1.heap.size = gs at *
  generalize w1.alloc (.cells #[.int .u16 h.age, .int .u8 h.opts, .int .u8 h.typ, .int .u32 h.id, .int .u32 h.adv, .int .i32 h.seq, .int .u16 h.sum, .int .u16 h.len, .slice A 8 c] 33) = w2 at *
  refine (decode_any ⟨h, A, 8, c, bdB 3 bL⟩ w2 HR2.out (by show 8 ≤ 1073741824; omega)).mono ?_
  rintro e w3 ⟨b, k, rfl, hd, -, -, hb3⟩
  have hgood : goodB 3 (bdB 3 bL) := good_bdB kn3 (bL_rd w) (by decide) bL_may
  have htyp : h.typ = 3 := congrArg Hd.typ H1.out.1.h
  have hkm : k = 0 ∧ b.metric = 10 := by
    rcases hd with ⟨h1, _⟩ | ⟨_, h1, _⟩ | ⟨_, _, h1, _⟩ | ⟨_, _, _, h1, h2⟩
    · exact absurd H1.out.1.len h1
    · exact absurd (show Kn h.typ by rw [htyp]; exact kn3) h1
    · exact absurd (show goodB h.typ (bdB 3 bL) by rw [htyp]; exact hgood) h1
    · replace h2 : Says h.typ (bdB 3 bL) b := h2
      rw [htyp] at h2
      exact ⟨h1, (says_same (says_any 3 kn3 bL (bL_rd w) (by decide) bL_may).2 h2).metric⟩
  obtain ⟨rfl, hm⟩ := hkm
  have hm10 : (b.metric == 10) = true := by rw [hm]; rfl
  have hb4 : Below w3.heap.size w3 (w3.alloc (.cells #[.int .u8 b.flags, .slice b.LA b.ln b.lc, .int .u32 b.mask, .slice b.RA b.rn b.rc, .int .u32 b.metric, .bool b.t2, .int .u32 b.fwd, .int .u32 b.tag, .slice b.DA b.dn b.dc] 67)) := (Below.refl _ _).alloc (Nat.le_refl _) _
  have HX4 := Lib.hid ((HX2.out.later hb3).later hb4)
  have HR4 := Lib.hid ((HR2.out.later hb3).later hb4)
  have HB4 := Lib.hid (below_then (below_then HB2.out hb3) hb4)
  have HM4 := Lib.hid (Blk.new w3 67 #[.int .u8 b.flags, .slice b.LA b.ln b.lc, .int .u32 b.mask, .slice b.RA b.rn b.rc, .int .u32 b.metric, .bool b.t2, .int .u32 b.fwd, .int .u32 b.tag, .slice b.DA b.dn b.dc])
  have HGd := Lib.hid (And.intro hgood htyp)
  clear hb3 hb4 hd hgood htyp hm HX2 HR2 HB2
  go_wp2_with fail
  generalize w3.heap.size = gx at *
  generalize w3.alloc (.cells #[.int .u8 b.flags, .slice b.LA b.ln b.lc, .int .u32 b.mask, .slice b.RA b.rn b.rc, .int .u32 b.metric, .bool b.t2, .int .u32 b.fwd, .int .u32 b.tag, .slice b.DA b.dn b.dc] 67) = w4 at *
  refine (HT.out w4).mono ?_
  rintro e w5 ⟨rfl, hb5⟩
  have hb6 : Below w5.heap.size w5 (w5.alloc (.cells #[.int .u16 0, .int .u8 0, .int .u8 0, .int .u32 0, .int .u32 0, .int .i32 0, .int .u16 0, .int .u16 0, .slice none 0 0] 33)) := (Below.refl _ _).alloc (Nat.le_refl _) _
  have HX6 := Lib.hid ((HX4.out.later hb5).later hb6)
  have HR6 := Lib.hid ((HR4.out.later hb5).later hb6)
  have HB6 := Lib.hid (below_then (below_then HB4.out hb5) hb6)
  have HM6 := Lib.hid ((HM4.out.later hb5).later hb6)
  obtain ⟨y0, y1, y2, y3, y4, y5, y6, y7, y8⟩ := stC_facts HX6.out
  have m4 := HM6.out.cell 4
  clear hb5 hb6 HX4 HR4 HB4 HM4
  go_wp2_with fail
  clear y0 y1 y2 y3 y4 y5 y6 y7 y8 m4
  generalize w5.alloc (.cells #[.int .u16 0, .int .u8 0, .int .u8 0, .int .u32 0, .int .u32 0, .int .i32 0, .int .u16 0, .int .u16 0, .slice none 0 0] 33) = w6 at *
  refine (check_any ⟨h, A, 8, c, bdB 3 bL⟩ w6 HR6.out (by show 8 ≤ 1073741824; omega)).mono ?_
  rintro e w7 ⟨k, rfl, hk, hb7⟩
  have hk0 : k = 0 := by
    have hh : h = sealH hL (20 + 8) (bdB 3 bL) := H1.out.1.h
    refine chk_right H1.out.1.len H1.out.1.sum H1.out.1.whole (by show Kn h.typ; rw [HGd.out.2]; exact kn3) ?_ (by show goodB h.typ _; rw [HGd.out.2]; exact HGd.out.1) hk
    unfold OddS
    simp only
    rw [hh]
    simp
  subst hk0
  go_wp2_with fail
  go_ret
  exact ⟨rfl, below_then HB6.out hb7⟩
end Go.Proofs.YtljedcfpbdompaaDoor
