/-
  prefix.Address's inner function, walked.
-/
import Derived.Test.YtljmmpjcagchmaaDoorPfx7
namespace Go.Proofs.YtljmmpjcagchmaaDoor
set_option linter.unusedVariables false
open Go.RowKit

/-- A number of at most f digits at the head of a text: how many they are, and their value behind n. -/
def runN : Nat → List UInt8 → Nat → Nat × Nat
  | 0, _, n => (0, n)
  | _ + 1, [], n => (0, n)
  | f + 1, c :: r, n => if 48 ≤ c.toNat ∧ c.toNat ≤ 57 then ((runN f r (10 * n + (c.toNat - 48))).1 + 1, (runN f r (10 * n + (c.toNat - 48))).2) else (0, n)
theorem runN_le : ∀ f l n, (runN f l n).1 ≤ f ∧ (runN f l n).1 ≤ l.length := by
  intro f
  induction f with
  | zero => intro l n; simp [runN]
  | succ f ih =>
    intro l n
    cases l with
    | nil => simp [runN]
    | cons c r =>
      unfold runN
      have := ih r (10 * n + (c.toNat - 48))
      split <;> simp <;> omega
/-- Is what the run told a number? -/
def okN (l : List UInt8) : Bool := decide (0 < (runN 4 l 0).1) && (decide ((runN 4 l 0).2 < 256) && (decide ((runN 4 l 0).1 = 1) || (l.headD 0 != 48)))

theorem okN_of {L : List UInt8} {j acc : Nat} (h : runN 4 L 0 = (j, acc)) : okN L = (decide (0 < j) && (decide (acc < 256) && (decide (j = 1) || (L.headD 0 != 48)))) := by unfold okN; rw [h]
theorem runN_nil (f n : Nat) : runN f [] n = (0, n) := by cases f <;> rfl
theorem runN_stop {f n : Nat} {c : UInt8} {r : List UInt8} (h : ¬ (48 ≤ c.toNat ∧ c.toNat ≤ 57)) : runN f (c :: r) n = (0, n) := by
  cases f
  · rfl
  · rw [runN, if_neg h]
theorem pow10_le {j : Nat} (h : j ≤ 3) : 10 ^ j ≤ 1000 := Nat.pow_le_pow_right (n := 10) (by decide) h
abbrev bytesOf (s : ByteArray) : List UInt8 := s.data.toList
theorem drop_at {s : ByteArray} {i : Nat} (h : i < s.size) : (bytesOf s).drop i = s[i] :: (bytesOf s).drop (i + 1) := by
  have h1 : i < (bytesOf s).length := by rw [Array.length_toList]; exact h
  rw [List.drop_eq_getElem_cons h1]
  rfl
theorem drop_end {s : ByteArray} {i : Nat} (h : s.size ≤ i) : (bytesOf s).drop i = [] := List.drop_eq_nil_of_le (by rw [Array.length_toList]; exact h)
theorem head_at {s : ByteArray} {i : Nat} (h : i < s.size) : ((bytesOf s).drop i).headD 0 = s[i] := by rw [drop_at h]; rfl
theorem u8_ne48 (c : UInt8) : (c != 48) = ((c.toNat : Int) != 48) := by
  rw [Bool.eq_iff_iff, bne_iff_ne, bne_iff_ne]
  constructor
  · intro h e; apply h; apply UInt8.toNat_inj.1; show c.toNat = 48; omega
  · rintro h rfl; exact h rfl
theorem blk_ty {w : World} {g : Nat} {t t' : TypeId} {cs cs' : Array Value} (h : Blk w g t cs) (h' : Blk w g t' cs') : t = t' := by
  unfold Blk at h h'
  rw [h] at h'
  injection h' with h'
  injection h'
structure TRel (w : World) (gA gS : Nat) (s : ByteArray) (at0 : Nat) (n : Value) (wr : World) : Prop where
  ex : ∃ j acc : Nat, n = .int .u32 acc ∧ j ≤ 4 ∧ acc < 10 ^ j ∧ at0 + j ≤ s.size ∧ Hid (runN 4 ((bytesOf s).drop at0) 0 = ((runN (4 - j) ((bytesOf s).drop (at0 + j)) acc).1 + j, (runN (4 - j) ((bytesOf s).drop (at0 + j)) acc).2)) ∧ Blk wr gA 3 #[.int .i64 (at0 + j : Nat)]
  s : Blk wr gS 9 #[.string s]
  kept : Kept (fun i => i = gA) w wr
set_option maxRecDepth 100000 in
set_option maxHeartbeats 2000000 in
theorem take_any (w : World) (gA gS : Nat) (s : ByteArray) (at0 : Nat) (hA : Blk w gA 3 #[.int .i64 at0]) (hS : Blk w gS 9 #[.string s]) (hl : at0 ≤ s.size) (hm : s.size ≤ 1099511627776) :
    Calls Tryd.prog 39 #[.pointer (some ⟨gA, 0, none⟩), .pointer (some ⟨gS, 0, none⟩)] w fun e w' =>
      e = .returned (.tuple #[.int .u32 (runN 4 ((bytesOf s).drop at0) 0).2, .bool (okN ((bytesOf s).drop at0))]) ∧ Blk w' gA 3 #[.int .i64 (at0 + (runN 4 ((bytesOf s).drop at0) 0).1 : Nat)] ∧ Kept (fun i => i = gA) w w' := by
  have cA : w.cell? ⟨gA, 0, none⟩ = some (.int .i64 at0) := hA.cell 0
  have HA := Lib.hid hA
  have HS := Lib.hid hS
  clear hA hS
  go_enter Tryd.func39, Tryd.ntmps39
  go_wp2
  clear cA
  go_loopw [5] (TRel w gA gS s at0) (fun n wr => (4 + at0 - (intOf ((wr.cell? ⟨gA, 0, none⟩).getD undef)).toNat))
  case atStart => exact ⟨⟨0, 0, rfl, by omega, by omega, by omega, rfl, HA.out⟩, HS.out, Kept.refl _ _⟩
  case round =>
    obtain ⟨⟨j, acc, rfl, hj, hacc, hjs, hrun, hA⟩, hS, hk⟩ := hrel
    have cA : wr.cell? ⟨gA, 0, none⟩ = some (.int .i64 (at0 + j : Nat)) := hA.cell 0
    have cS : wr.cell? ⟨gS, 0, none⟩ = some (.string s) := hS.cell 0
    have HA1 := Lib.hid hA
    have HS1 := Lib.hid hS
    have HK1 := Lib.hid hk
    have hsub : (at0 : Int) + j - at0 = j := by omega
    have hne : gA ≠ gS := fun e => by subst e; exact absurd (blk_ty hA hS) (by decide)
    clear hA hS hk
    by_cases h1 : at0 + j < s.size
    · have h1i : (at0 : Int) + j < s.size := by omega
      have hd := drop_at h1
      by_cases h2 : 48 ≤ s[at0 + j].toNat
      · have h2i : (48 : Int) ≤ s[at0 + j].toNat := by omega
        by_cases h3 : s[at0 + j].toNat ≤ 57
        · have h3i : (s[at0 + j].toNat : Int) ≤ 57 := by omega
          by_cases h4 : j < 4
          · have h4i : (j : Int) < 4 := by omega
            have h10 := pow10_le (by omega : j ≤ 3)
            have h101 : 10 ^ (j + 1) = 10 * 10 ^ j := by rw [Nat.pow_succ]; omega
            have hfz := HA1.out.frozen 0
            have hnew : Hid (runN 4 ((bytesOf s).drop at0) 0 = ((runN (4 - (j + 1)) ((bytesOf s).drop (at0 + (j + 1))) (10 * acc + (s[at0 + j].toNat - 48))).1 + (j + 1), (runN (4 - (j + 1)) ((bytesOf s).drop (at0 + (j + 1))) (10 * acc + (s[at0 + j].toNat - 48))).2)) := by
              show _ = _
              rw [hrun.out, hd, show 4 - j = (4 - (j + 1)) + 1 by omega, runN, if_pos ⟨h2, h3⟩]
              simp only [Nat.add_assoc, Nat.add_comm 1 j]
            go_wp2
            have hcell : Blk (wr.setCell ⟨gA, 0, none⟩ (.int .i64 ((at0 : Int) + j + 1))) gA 3 #[.int .i64 (at0 + (j + 1) : Nat)] := by
              have := HA1.out.set_ 0 (.int .i64 ((at0 : Int) + j + 1))
              rwa [show (#[Value.int .i64 ((at0 + j : Nat) : Int)].setIfInBounds 0 (.int .i64 ((at0 : Int) + j + 1))) = #[.int .i64 ((at0 + (j + 1) : Nat) : Int)] by simp; omega] at this
            refine ⟨⟨⟨j + 1, 10 * acc + (s[at0 + j].toNat - 48), by congr 1; omega, by omega, by omega, by omega, hnew, hcell⟩, HS1.out.far hne.symm _, HK1.out.setCell (fun _ => rfl) _⟩, ?_⟩
            rw [show ((wr.setCell ⟨gA, 0, none⟩ (.int .i64 ((at0 : Int) + j + 1))).cell? ⟨gA, 0, none⟩) = some (.int .i64 ((at0 + (j + 1) : Nat) : Int)) from hcell.cell 0, cA]
            simp only [Option.getD_some, intOf, Int.toNat_natCast]
            omega
          · have h4i : decide ((j : Int) < 4) = false := decide_eq_false (by omega)
            have hR : Hid (runN 4 ((bytesOf s).drop at0) 0 = (j, acc)) := by
              show _ = _
              rw [hrun.out, show 4 - j = 0 by omega, runN]
              simp
            clear hrun hacc hd
            have d1 : decide ((at0 : Int) < (at0 : Int) + (j : Int)) = true := decide_eq_true (by omega)
            by_cases ha : acc < 256
            · have ha1 : (acc : Int) < 256 := by omega
              have d3 : ((j : Int) == 1) = false := by simp; omega
              have h0s : at0 < s.size := by omega
              have h0i : (at0 : Int) < s.size := by omega
              have hF : Hid (okN ((bytesOf s).drop at0) = ((s[at0].toNat : Int) != 48) ∧ (runN 4 ((bytesOf s).drop at0) 0).2 = acc) := ⟨by rw [okN_of hR.out, decide_eq_true ha, decide_eq_true (by omega : 0 < j), decide_eq_false (by omega : ¬ j = 1), head_at h0s]; simp only [Bool.true_and, Bool.false_or]; exact u8_ne48 _, by rw [hR.out]⟩
              have hG : Hid ((runN 4 ((bytesOf s).drop at0) 0).1 = j) := by show _ = _; rw [hR.out]
              clear hR
              go_wp2
              go_quiet (fail)
              go_wp2
              go_ret2
              exact ⟨by rw [hF.out.1, hF.out.2]; try (first | rfl | (simp; done)), by rw [hG.out]; exact HA1.out.drewN _, HK1.out.drewN _⟩
            · have ha1 : decide ((acc : Int) < 256) = false := decide_eq_false (by omega)
              have hF : Hid (okN ((bytesOf s).drop at0) = false ∧ (runN 4 ((bytesOf s).drop at0) 0).2 = acc) := ⟨by rw [okN_of hR.out, decide_eq_false ha]; simp, by rw [hR.out]⟩
              have hG : Hid ((runN 4 ((bytesOf s).drop at0) 0).1 = j) := by show _ = _; rw [hR.out]
              clear hR
              go_wp2
              go_quiet (fail)
              go_wp2
              go_ret2
              exact ⟨by rw [hF.out.1, hF.out.2]; try (first | rfl | (simp; done)), by rw [hG.out]; exact HA1.out.drewN _, HK1.out.drewN _⟩
        · have h3i : decide ((s[at0 + j].toNat : Int) ≤ 57) = false := decide_eq_false (by omega)
          have hR : Hid (runN 4 ((bytesOf s).drop at0) 0 = (j, acc)) := by
            show _ = _
            rw [hrun.out, hd, runN_stop (by omega)]
            simp
          clear hrun hacc
          clear hd
          by_cases hj0 : j = 0
          · have d1 : decide ((at0 : Int) < (at0 : Int) + (j : Int)) = false := decide_eq_false (by omega)
            have hF : Hid (okN ((bytesOf s).drop at0) = false ∧ (runN 4 ((bytesOf s).drop at0) 0).2 = acc) := ⟨by rw [okN_of hR.out, decide_eq_false (by omega : ¬ 0 < j)]; rfl, by rw [hR.out]⟩
            have hG : Hid ((runN 4 ((bytesOf s).drop at0) 0).1 = j) := by show _ = _; rw [hR.out]
            clear hj0
            clear hR
            go_wp2
            go_quiet (fail)
            go_wp2
            go_ret2
            exact ⟨by rw [hF.out.1, hF.out.2]; try (first | rfl | (simp; done)), by rw [hG.out]; exact HA1.out.drewN _, HK1.out.drewN _⟩
          have d1 : decide ((at0 : Int) < (at0 : Int) + (j : Int)) = true := decide_eq_true (by omega)
          by_cases ha : acc < 256
          · have ha1 : (acc : Int) < 256 := by omega
            by_cases hj1 : j = 1
            · have d3 : ((j : Int) == 1) = true := by simp; omega
              have hF : Hid (okN ((bytesOf s).drop at0) = true ∧ (runN 4 ((bytesOf s).drop at0) 0).2 = acc) := ⟨by rw [okN_of hR.out, decide_eq_true ha, decide_eq_true (by omega : 0 < j), decide_eq_true hj1]; rfl, by rw [hR.out]⟩
              have hG : Hid ((runN 4 ((bytesOf s).drop at0) 0).1 = j) := by show _ = _; rw [hR.out]
              clear hj1
              clear hR
              go_wp2
              go_quiet (fail)
              go_wp2
              go_ret2
              exact ⟨by rw [hF.out.1, hF.out.2]; try (first | rfl | (simp; done)), by rw [hG.out]; exact HA1.out.drewN _, HK1.out.drewN _⟩
            have d3 : ((j : Int) == 1) = false := by simp; omega
            have h0s : at0 < s.size := by omega
            have h0i : (at0 : Int) < s.size := by omega
            have hF : Hid (okN ((bytesOf s).drop at0) = ((s[at0].toNat : Int) != 48) ∧ (runN 4 ((bytesOf s).drop at0) 0).2 = acc) := ⟨by rw [okN_of hR.out, decide_eq_true ha, decide_eq_true (by omega : 0 < j), decide_eq_false (by omega : ¬ j = 1), head_at h0s]; simp only [Bool.true_and, Bool.false_or]; exact u8_ne48 _, by rw [hR.out]⟩
            have hG : Hid ((runN 4 ((bytesOf s).drop at0) 0).1 = j) := by show _ = _; rw [hR.out]
            clear hR
            go_wp2
            go_quiet (fail)
            go_wp2
            go_ret2
            exact ⟨by rw [hF.out.1, hF.out.2]; try (first | rfl | (simp; done)), by rw [hG.out]; exact HA1.out.drewN _, HK1.out.drewN _⟩
          · have ha1 : decide ((acc : Int) < 256) = false := decide_eq_false (by omega)
            have hF : Hid (okN ((bytesOf s).drop at0) = false ∧ (runN 4 ((bytesOf s).drop at0) 0).2 = acc) := ⟨by rw [okN_of hR.out, decide_eq_false ha]; simp, by rw [hR.out]⟩
            have hG : Hid ((runN 4 ((bytesOf s).drop at0) 0).1 = j) := by show _ = _; rw [hR.out]
            clear hR
            go_wp2
            go_quiet (fail)
            go_wp2
            go_ret2
            exact ⟨by rw [hF.out.1, hF.out.2]; try (first | rfl | (simp; done)), by rw [hG.out]; exact HA1.out.drewN _, HK1.out.drewN _⟩
      · have h2i : decide ((48 : Int) ≤ s[at0 + j].toNat) = false := decide_eq_false (by omega)
        have hR : Hid (runN 4 ((bytesOf s).drop at0) 0 = (j, acc)) := by
          show _ = _
          rw [hrun.out, hd, runN_stop (by omega)]
          simp
        clear hrun hacc
        clear hd
        by_cases hj0 : j = 0
        · have d1 : decide ((at0 : Int) < (at0 : Int) + (j : Int)) = false := decide_eq_false (by omega)
          have hF : Hid (okN ((bytesOf s).drop at0) = false ∧ (runN 4 ((bytesOf s).drop at0) 0).2 = acc) := ⟨by rw [okN_of hR.out, decide_eq_false (by omega : ¬ 0 < j)]; rfl, by rw [hR.out]⟩
          have hG : Hid ((runN 4 ((bytesOf s).drop at0) 0).1 = j) := by show _ = _; rw [hR.out]
          clear hj0
          clear hR
          go_wp2
          go_quiet (fail)
          go_wp2
          go_ret2
          exact ⟨by rw [hF.out.1, hF.out.2]; try (first | rfl | (simp; done)), by rw [hG.out]; exact HA1.out.drewN _, HK1.out.drewN _⟩
        have d1 : decide ((at0 : Int) < (at0 : Int) + (j : Int)) = true := decide_eq_true (by omega)
        by_cases ha : acc < 256
        · have ha1 : (acc : Int) < 256 := by omega
          by_cases hj1 : j = 1
          · have d3 : ((j : Int) == 1) = true := by simp; omega
            have hF : Hid (okN ((bytesOf s).drop at0) = true ∧ (runN 4 ((bytesOf s).drop at0) 0).2 = acc) := ⟨by rw [okN_of hR.out, decide_eq_true ha, decide_eq_true (by omega : 0 < j), decide_eq_true hj1]; rfl, by rw [hR.out]⟩
            have hG : Hid ((runN 4 ((bytesOf s).drop at0) 0).1 = j) := by show _ = _; rw [hR.out]
            clear hj1
            clear hR
            go_wp2
            go_quiet (fail)
            go_wp2
            go_ret2
            exact ⟨by rw [hF.out.1, hF.out.2]; try (first | rfl | (simp; done)), by rw [hG.out]; exact HA1.out.drewN _, HK1.out.drewN _⟩
          have d3 : ((j : Int) == 1) = false := by simp; omega
          have h0s : at0 < s.size := by omega
          have h0i : (at0 : Int) < s.size := by omega
          have hF : Hid (okN ((bytesOf s).drop at0) = ((s[at0].toNat : Int) != 48) ∧ (runN 4 ((bytesOf s).drop at0) 0).2 = acc) := ⟨by rw [okN_of hR.out, decide_eq_true ha, decide_eq_true (by omega : 0 < j), decide_eq_false (by omega : ¬ j = 1), head_at h0s]; simp only [Bool.true_and, Bool.false_or]; exact u8_ne48 _, by rw [hR.out]⟩
          have hG : Hid ((runN 4 ((bytesOf s).drop at0) 0).1 = j) := by show _ = _; rw [hR.out]
          clear hR
          go_wp2
          go_quiet (fail)
          go_wp2
          go_ret2
          exact ⟨by rw [hF.out.1, hF.out.2]; try (first | rfl | (simp; done)), by rw [hG.out]; exact HA1.out.drewN _, HK1.out.drewN _⟩
        · have ha1 : decide ((acc : Int) < 256) = false := decide_eq_false (by omega)
          have hF : Hid (okN ((bytesOf s).drop at0) = false ∧ (runN 4 ((bytesOf s).drop at0) 0).2 = acc) := ⟨by rw [okN_of hR.out, decide_eq_false ha]; simp, by rw [hR.out]⟩
          have hG : Hid ((runN 4 ((bytesOf s).drop at0) 0).1 = j) := by show _ = _; rw [hR.out]
          clear hR
          go_wp2
          go_quiet (fail)
          go_wp2
          go_ret2
          exact ⟨by rw [hF.out.1, hF.out.2]; try (first | rfl | (simp; done)), by rw [hG.out]; exact HA1.out.drewN _, HK1.out.drewN _⟩
    · have h1i : decide ((at0 : Int) + j < s.size) = false := decide_eq_false (by omega)
      have hR : Hid (runN 4 ((bytesOf s).drop at0) 0 = (j, acc)) := by
        show _ = _
        rw [hrun.out, drop_end (by omega), runN_nil]
        simp
      clear hrun hacc
      by_cases hj0 : j = 0
      · have d1 : decide ((at0 : Int) < (at0 : Int) + (j : Int)) = false := decide_eq_false (by omega)
        have hF : Hid (okN ((bytesOf s).drop at0) = false ∧ (runN 4 ((bytesOf s).drop at0) 0).2 = acc) := ⟨by rw [okN_of hR.out, decide_eq_false (by omega : ¬ 0 < j)]; rfl, by rw [hR.out]⟩
        have hG : Hid ((runN 4 ((bytesOf s).drop at0) 0).1 = j) := by show _ = _; rw [hR.out]
        clear hj0
        clear hR
        go_wp2
        go_quiet (fail)
        go_wp2
        go_ret2
        exact ⟨by rw [hF.out.1, hF.out.2]; try (first | rfl | (simp; done)), by rw [hG.out]; exact HA1.out.drewN _, HK1.out.drewN _⟩
      have d1 : decide ((at0 : Int) < (at0 : Int) + (j : Int)) = true := decide_eq_true (by omega)
      by_cases ha : acc < 256
      · have ha1 : (acc : Int) < 256 := by omega
        by_cases hj1 : j = 1
        · have d3 : ((j : Int) == 1) = true := by simp; omega
          have hF : Hid (okN ((bytesOf s).drop at0) = true ∧ (runN 4 ((bytesOf s).drop at0) 0).2 = acc) := ⟨by rw [okN_of hR.out, decide_eq_true ha, decide_eq_true (by omega : 0 < j), decide_eq_true hj1]; rfl, by rw [hR.out]⟩
          have hG : Hid ((runN 4 ((bytesOf s).drop at0) 0).1 = j) := by show _ = _; rw [hR.out]
          clear hj1
          clear hR
          go_wp2
          go_quiet (fail)
          go_wp2
          go_ret2
          exact ⟨by rw [hF.out.1, hF.out.2]; try (first | rfl | (simp; done)), by rw [hG.out]; exact HA1.out.drewN _, HK1.out.drewN _⟩
        have d3 : ((j : Int) == 1) = false := by simp; omega
        have h0s : at0 < s.size := by omega
        have h0i : (at0 : Int) < s.size := by omega
        have hF : Hid (okN ((bytesOf s).drop at0) = ((s[at0].toNat : Int) != 48) ∧ (runN 4 ((bytesOf s).drop at0) 0).2 = acc) := ⟨by rw [okN_of hR.out, decide_eq_true ha, decide_eq_true (by omega : 0 < j), decide_eq_false (by omega : ¬ j = 1), head_at h0s]; simp only [Bool.true_and, Bool.false_or]; exact u8_ne48 _, by rw [hR.out]⟩
        have hG : Hid ((runN 4 ((bytesOf s).drop at0) 0).1 = j) := by show _ = _; rw [hR.out]
        clear hR
        go_wp2
        go_quiet (fail)
        go_wp2
        go_ret2
        exact ⟨by rw [hF.out.1, hF.out.2]; try (first | rfl | (simp; done)), by rw [hG.out]; exact HA1.out.drewN _, HK1.out.drewN _⟩
      · have ha1 : decide ((acc : Int) < 256) = false := decide_eq_false (by omega)
        have hF : Hid (okN ((bytesOf s).drop at0) = false ∧ (runN 4 ((bytesOf s).drop at0) 0).2 = acc) := ⟨by rw [okN_of hR.out, decide_eq_false ha]; simp, by rw [hR.out]⟩
        have hG : Hid ((runN 4 ((bytesOf s).drop at0) 0).1 = j) := by show _ = _; rw [hR.out]
        clear hR
        go_wp2
        go_quiet (fail)
        go_wp2
        go_ret2
        exact ⟨by rw [hF.out.1, hF.out.2]; try (first | rfl | (simp; done)), by rw [hG.out]; exact HA1.out.drewN _, HK1.out.drewN _⟩
end Go.Proofs.YtljmmpjcagchmaaDoor
