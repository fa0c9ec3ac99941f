/-
  container/heap: up and down over the rows.
-/
import Derived.Test.YtgpgcjdbppehjaaQue4
namespace Go.Proofs.Ytgpgcjdbppehjaa
set_option linter.unusedVariables false
open Go.RowKit

@[reducible] def rowsV (g : Nat) : Value := .iface 63 (.pointer (some ⟨g, 0, none⟩))
theorem methLen (g : Nat) (W : World) : (method 229 63 (.pointer (some ⟨g, 0, none⟩)) "Len").run Try.prog W = .ok (86, .pointer (some ⟨g, 0, none⟩)) W := by kernel_rfl
theorem methLess (g : Nat) (W : World) : (method 229 63 (.pointer (some ⟨g, 0, none⟩)) "Less").run Try.prog W = .ok (82, .pointer (some ⟨g, 0, none⟩)) W := by kernel_rfl
theorem methSwap (g : Nat) (W : World) : (method 229 63 (.pointer (some ⟨g, 0, none⟩)) "Swap").run Try.prog W = .ok (85, .pointer (some ⟨g, 0, none⟩)) W := by kernel_rfl
theorem methPush (g : Nat) (W : World) : (method 229 63 (.pointer (some ⟨g, 0, none⟩)) "Push").run Try.prog W = .ok (84, .pointer (some ⟨g, 0, none⟩)) W := by kernel_rfl
theorem methPop (g : Nat) (W : World) : (method 229 63 (.pointer (some ⟨g, 0, none⟩)) "Pop").run Try.prog W = .ok (83, .pointer (some ⟨g, 0, none⟩)) W := by kernel_rfl
structure UpRel (w : World) (F : Nat → Prop) (g bm : Nat) (most : Int) (l0 : List Ent) (j : Value) (wr : World) : Prop where
  ex : ∃ (jj : Nat) (l : List Ent), j = .int .i64 jj ∧ jj < l.length ∧ l.length ≤ 1048576 ∧ Hid (QF wr F g bm most l) ∧ Hid (upL l jj = l0)
  kept : Hid (Kept F w wr)
set_option maxRecDepth 100000 in
set_option maxHeartbeats 4000000 in
theorem up_any (w : World) (F : Nat → Prop) (g bm : Nat) (most : Int) (l : List Ent) (q : QF w F g bm most l) (j : Nat) (hj : j < l.length) :
    Calls Try.prog 40 #[rowsV g, .int .i64 j] w fun e w' => e = .returned (.tuple #[]) ∧ QF w' F g bm most (upL l j) ∧ Kept F w w' := by
  have HQ := Lib.hid q
  have hfew := q.few
  obtain ⟨l1, hl1⟩ : ∃ l1, upL l j = l1 := ⟨_, rfl⟩
  have HL1 := Lib.hid hl1
  rw [hl1]
  clear q hl1
  have hm1 := fun W => methLess g W
  have hm2 := fun W => methSwap g W
  go_enter Try.func40, Try.ntmps40
  go_wp2
  go_loopw [1] (UpRel w F g bm most l1) (fun t _ => (intOf t).toNat)
  case atStart => exact ⟨⟨j, l, rfl, hj, hfew, HQ, HL1⟩, Lib.hid (Kept.refl _ _)⟩
  case round =>
    clear hj hfew HQ HL1
    obtain ⟨⟨jj, ll, rfl, hjl, hfew, HQ, HL⟩, hk⟩ := hrel
    by_cases h0 : jj = 0
    · subst h0
      have HL2 : Hid (ll = l1) := Lib.hid (by rw [← HL.out, upL, if_pos rfl])
      have e1 : IntKind.i64.wrap (-1) = -1 := by rfl
      have e2 : (-1 : Int).tdiv 2 = 0 := by rfl
      go_wp2
      go_end0
      exact ⟨rfl, HL2.out ▸ HQ.out, hk.out⟩
    · obtain ⟨ip, hip⟩ : ∃ ip, par jj = ip := ⟨_, rfl⟩
      have hipl : ip < jj := by rw [← hip]; exact par_lt (by omega)
      have e1 : IntKind.i64.wrap ((jj : Int) - 1) = jj - 1 := by rw [IntKind.wrap_i64]; omega
      have e2 : ((jj : Int) - 1) / 2 = ip := by rw [← hip]; unfold par; omega
      have e3 : ((jj : Int) - 1).tdiv 2 = ip := by rw [Int.tdiv_eq_ediv_of_nonneg (by omega)]; exact e2
      have e4 : ((ip : Int) == jj) = false := by rw [beq_eq_false_iff_ne]; omega
      have HI := Lib.hid hip
      have hj0 : (0 : Int) ≤ (jj : Int) - 1 := by omega
      clear hip
      cases hlt : lt_ ll jj ip
      · have HL2 : Hid (ll = l1) := Lib.hid (by rw [← HL.out, upL, if_neg h0, HI.out, hlt, if_neg (by simp)])
        have HLT := Lib.hid hlt
        clear hlt h0
        go_wp2_with (go_at_call 82; refine (rowsLess_any wr F g bm most ll HQ.out jj ip hjl (by omega)).mono ?_; rintro e w2 ⟨rfl, hb⟩; rw [HLT.out]; have HB := Lib.hid hb; clear hb)
        go_end0
        exact ⟨rfl, HL2.out ▸ HQ.out.later HB.out, hk.out.trans (Kept.of_new HB.out _) (fun _ _ e => e)⟩
      · have HL2 : Hid (upL (swapL ll ip jj) ip = l1) := Lib.hid (by rw [← HL.out]; conv => rhs; rw [upL, if_neg h0, HI.out, hlt, if_pos rfl])
        have HLT := Lib.hid hlt
        clear hlt h0
        go_wp2_with (first
          | (go_at_call 82; refine (rowsLess_any wr F g bm most ll HQ.out jj ip hjl (by omega)).mono ?_; rintro e w2 ⟨rfl, hb⟩; rw [HLT.out]; have HB := Lib.hid hb; clear hb)
          | (go_at_call 85; refine (rowsSwap_any w2 F g bm most ll (HQ.out.later HB.out) ip jj (by omega) hjl).mono ?_; rintro e w3 ⟨rfl, hs, hk3⟩; have H3 := Lib.hid (And.intro hs hk3); clear hs hk3))
        go_roundw
        case rel => exact ⟨⟨ip, swapL ll ip jj, rfl, by rw [swapL_len]; omega, by rw [swapL_len]; exact hfew, Lib.hid H3.out.1, HL2⟩, Lib.hid ((hk.out.trans (Kept.of_new HB.out _) (fun _ _ e => e)).trans H3.out.2 (fun _ _ e => e))⟩
        case measure => simp [intOf]; omega
end Go.Proofs.Ytgpgcjdbppehjaa
