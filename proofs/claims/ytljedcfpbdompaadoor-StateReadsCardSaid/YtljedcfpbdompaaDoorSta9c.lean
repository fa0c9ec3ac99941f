/-
  may, type by type (5, 7).
-/
import Derived.Test.YtljedcfpbdompaaDoorSta9
namespace Go.Proofs.YtljedcfpbdompaaDoor
set_option linter.unusedVariables false
open Go.RowKit Go.ChangeShapes Go.WideShapes

set_option maxRecDepth 100000 in
set_option maxHeartbeats 16000000 in
theorem may_5 (w : World) (b : BA) (hb : b.rd w) : Calls Tryd.prog 44 #[.int .u8 5, b.v] w fun e w' => MayP w (mayB 5 b) e w' := by
  have hmi : ∀ W : World, (Instr.makeInterface 29 (.int .i64 28)).run Tryd.prog W = .ok (.iface 29 (.int .i64 28)) W := fun W => by kernel_rfl
  have HO := Lib.hid hb
  have hfew := hb.few
  clear hb
  go_enter Tryd.func44, Tryd.ntmps44
  go_wp2_with fail
  refine (bits_int b.mask _ (by have := HO.out.mask; omega) (by have := HO.out.mask; omega)).mono ?_
  rintro e w1 ⟨rfl, rfl⟩
  generalize hq2 : (bitsN b.mask.toNat).2 = q2 at *
  generalize (bitsN b.mask.toNat).1 = q1 at *
  have HQ := Lib.hid hq2
  clear hq2
  cases q2
  all_goals
    go_wp2_with fail
    all_goals first
      | (refine ⟨rfl, ?_, below_two _ _ _⟩
         have hm : mayB 5 b = false := by
           rw [Bool.eq_false_iff]
           intro hh
           have HH0 := hh
           have hq := HQ.out
           unfold mayB aloneB restB at hh
           simp at hh
           first | (have h7 := may_q HH0; rw [hq] at h7; cases h7; done) | (simp_all; done) | omega
         rw [hm]
         rfl)
      | skip
  all_goals
    have HRL := Lib.hid (And.intro HO.out.llen (And.intro HO.out.lok HO.out.lrow))
    have HM : Hid (lksB b = mayB 5 b) := Lib.hid (by
      have hq := HQ.out
      unfold mayB aloneB restB
      simp_all)
    obtain ⟨n, hn⟩ : ∃ n, b.ln = n := ⟨_, rfl⟩
    have HNn := Lib.hid hn
    rw [hn] at HRL hfew
    try rw [hn]
    clear hn
    obtain ⟨R, hR⟩ : ∃ R, b.links = R := ⟨_, rfl⟩
    have HRn := Lib.hid hR
    rw [hR] at HRL
    clear hR
    obtain ⟨LA, hLA⟩ : ∃ LA, b.LA = LA := ⟨_, rfl⟩
    rw [hLA] at HRL
    try rw [hLA]
    clear hLA
    go_loopw [116] (MyI w R) (fun t _ => n - (intOf t).toNat)
    case atStart => exact ⟨⟨0, rfl, Nat.zero_le _, Lib.hid fun x hx => (by simp at hx)⟩, Lib.hid (below_two _ _ _)⟩
    case round =>
      obtain ⟨⟨k, rfl, hk, HK⟩, HBk⟩ := hrel
      rw [HRL.out.1] at hk
      by_cases hlt : k < n
      · have hltI : (k : Int) < n := by omega
        obtain ⟨ad, x, hA, -, hx, h0, hj⟩ := rowG_at lk_len (HRL.out.2.2.later HBk.out) HRL.out.1 hlt
        subst hA
        have l0 := h0 _ rfl
        have l1 := hj 1 _ (by decide) rfl
        have l2 := hj 2 _ (by decide) rfl
        have l3 := hj 3 _ (by decide) rfl
        have HX := Lib.hid hx
        have HBk2 := Lib.hid (HBk.out.alloc HBk.out.size (.cells #[.int .u32 x.id, .int .u32 x.data, .int .u8 x.typ, .int .u16 x.cost] 111))
        clear h0 hj hx
        by_cases h1 : 1 ≤ x.typ
        · have d1 : decide (x.typ < 1) = false := decide_eq_false (by omega)
          by_cases h4 : x.typ ≤ 4
          · have d2 : decide (4 < x.typ) = false := decide_eq_false (by omega)
            have HX4 := Lib.hid (And.intro h1 h4)
            clear h1 h4
            go_wp2_with fail
            go_roundw
            case rel => exact ⟨⟨k + 1, by go_num, by rw [HRL.out.1]; omega, Lib.hid fun y hy => by
              have e1 : R.take (k + 1) = R.take k ++ [x] := by rw [List.take_add_one, HX.out]; rfl
              rw [e1] at hy
              rcases List.mem_append.1 hy with hy | hy
              · exact HK.out y hy
              · simp at hy; subst hy; exact HX4.out⟩, HBk2⟩
            case measure => simp [intOf]; omega
          · have d2 : decide (4 < x.typ) = true := decide_eq_true (by omega)
            have HN := Lib.hid (lks_no (b := b) (by rw [HRn.out]; exact HX.out) (fun h => h4 h.2))
            clear h1 h4
            go_wp2_with fail
            refine ⟨rfl, ?_, HBk2.out⟩
            rw [← HM.out, HN.out]
            rfl
        · have d1 : decide (x.typ < 1) = true := decide_eq_true (by omega)
          have HN := Lib.hid (lks_no (b := b) (by rw [HRn.out]; exact HX.out) (fun h => h1 h.1))
          clear h1
          go_wp2_with fail
          refine ⟨rfl, ?_, HBk2.out⟩
          rw [← HM.out, HN.out]
          rfl
      · obtain rfl : k = n := by omega
        have HY := Lib.hid (lks_yes (b := b) (by rw [HRn.out, HNn.out]; exact HK.out) (by rw [HRn.out, HNn.out]; exact HRL.out.1))
        clear hlt
        go_wp2_with fail
        go_end0
        refine ⟨?_, HBk.out⟩
        rw [← HM.out, HY.out]
        rfl
set_option maxRecDepth 100000 in
set_option maxHeartbeats 16000000 in
theorem may_7 (w : World) (b : BA) (hb : b.rd w) : Calls Tryd.prog 44 #[.int .u8 7, b.v] w fun e w' => MayP w (mayB 7 b) e w' := by
  have hmi : ∀ W : World, (Instr.makeInterface 29 (.int .i64 28)).run Tryd.prog W = .ok (.iface 29 (.int .i64 28)) W := fun W => by kernel_rfl
  have HO := Lib.hid hb
  have hfew := hb.few
  clear hb
  go_enter Tryd.func44, Tryd.ntmps44
  go_wp2_with fail
  refine (bits_int b.mask _ (by have := HO.out.mask; omega) (by have := HO.out.mask; omega)).mono ?_
  rintro e w1 ⟨rfl, rfl⟩
  generalize hq2 : (bitsN b.mask.toNat).2 = q2 at *
  generalize (bitsN b.mask.toNat).1 = q1 at *
  have HQ := Lib.hid hq2
  clear hq2
  cases q2
  all_goals
    go_wp2_with fail
    all_goals first
      | (refine ⟨rfl, ?_, below_two _ _ _⟩
         have hm : mayB 7 b = false := by
           rw [Bool.eq_false_iff]
           intro hh
           have HH0 := hh
           have hq := HQ.out
           unfold mayB aloneB restB at hh
           simp at hh
           first | (have h7 := may_q HH0; rw [hq] at h7; cases h7; done) | (simp_all; done) | omega
         rw [hm]
         rfl)
      | skip
  all_goals
    have HRL := Lib.hid (And.intro HO.out.llen (And.intro HO.out.lok HO.out.lrow))
    have HM : Hid (lksB b = mayB 7 b) := Lib.hid (by
      have hq := HQ.out
      unfold mayB aloneB restB
      simp_all)
    obtain ⟨n, hn⟩ : ∃ n, b.ln = n := ⟨_, rfl⟩
    have HNn := Lib.hid hn
    rw [hn] at HRL hfew
    try rw [hn]
    clear hn
    obtain ⟨R, hR⟩ : ∃ R, b.links = R := ⟨_, rfl⟩
    have HRn := Lib.hid hR
    rw [hR] at HRL
    clear hR
    obtain ⟨LA, hLA⟩ : ∃ LA, b.LA = LA := ⟨_, rfl⟩
    rw [hLA] at HRL
    try rw [hLA]
    clear hLA
    go_loopw [116] (MyI w R) (fun t _ => n - (intOf t).toNat)
    case atStart => exact ⟨⟨0, rfl, Nat.zero_le _, Lib.hid fun x hx => (by simp at hx)⟩, Lib.hid (below_two _ _ _)⟩
    case round =>
      obtain ⟨⟨k, rfl, hk, HK⟩, HBk⟩ := hrel
      rw [HRL.out.1] at hk
      by_cases hlt : k < n
      · have hltI : (k : Int) < n := by omega
        obtain ⟨ad, x, hA, -, hx, h0, hj⟩ := rowG_at lk_len (HRL.out.2.2.later HBk.out) HRL.out.1 hlt
        subst hA
        have l0 := h0 _ rfl
        have l1 := hj 1 _ (by decide) rfl
        have l2 := hj 2 _ (by decide) rfl
        have l3 := hj 3 _ (by decide) rfl
        have HX := Lib.hid hx
        have HBk2 := Lib.hid (HBk.out.alloc HBk.out.size (.cells #[.int .u32 x.id, .int .u32 x.data, .int .u8 x.typ, .int .u16 x.cost] 111))
        clear h0 hj hx
        by_cases h1 : 1 ≤ x.typ
        · have d1 : decide (x.typ < 1) = false := decide_eq_false (by omega)
          by_cases h4 : x.typ ≤ 4
          · have d2 : decide (4 < x.typ) = false := decide_eq_false (by omega)
            have HX4 := Lib.hid (And.intro h1 h4)
            clear h1 h4
            go_wp2_with fail
            go_roundw
            case rel => exact ⟨⟨k + 1, by go_num, by rw [HRL.out.1]; omega, Lib.hid fun y hy => by
              have e1 : R.take (k + 1) = R.take k ++ [x] := by rw [List.take_add_one, HX.out]; rfl
              rw [e1] at hy
              rcases List.mem_append.1 hy with hy | hy
              · exact HK.out y hy
              · simp at hy; subst hy; exact HX4.out⟩, HBk2⟩
            case measure => simp [intOf]; omega
          · have d2 : decide (4 < x.typ) = true := decide_eq_true (by omega)
            have HN := Lib.hid (lks_no (b := b) (by rw [HRn.out]; exact HX.out) (fun h => h4 h.2))
            clear h1 h4
            go_wp2_with fail
            refine ⟨rfl, ?_, HBk2.out⟩
            rw [← HM.out, HN.out]
            rfl
        · have d1 : decide (x.typ < 1) = true := decide_eq_true (by omega)
          have HN := Lib.hid (lks_no (b := b) (by rw [HRn.out]; exact HX.out) (fun h => h1 h.1))
          clear h1
          go_wp2_with fail
          refine ⟨rfl, ?_, HBk2.out⟩
          rw [← HM.out, HN.out]
          rfl
      · obtain rfl : k = n := by omega
        have HY := Lib.hid (lks_yes (b := b) (by rw [HRn.out, HNn.out]; exact HK.out) (by rw [HRn.out, HNn.out]; exact HRL.out.1))
        clear hlt
        go_wp2_with fail
        go_end0
        refine ⟨?_, HBk.out⟩
        rw [← HM.out, HY.out]
        rfl
end Go.Proofs.YtljedcfpbdompaaDoor
