/-
  prefix.Address, walked.
-/
import Derived.Test.YtljmmpjcagchmaaDoorPfx8
import Derived.Test.YtljmmpjcagchmaaDoorBits
import Derived.WalkMore
namespace Go.Proofs.YtljmmpjcagchmaaDoor
set_option linter.unusedVariables false
open Go.RowKit

/-- Numbers with dots between them: k more behind this one. -/
def adP : Nat → List UInt8 → Nat → Option Nat
  | 0, l, acc => if okN l = true ∧ l.drop (runN 4 l 0).1 = [] then some (acc * 256 + (runN 4 l 0).2) else none
  | k + 1, l, acc => if okN l = true ∧ (l.drop (runN 4 l 0).1).head? = some 46 then adP k (l.drop ((runN 4 l 0).1 + 1)) (acc * 256 + (runN 4 l 0).2) else none
def outN (o : Option Nat) : Value := match o with | some a => .tuple #[.int .u32 a, .int .i64 0] | none => .tuple #[.int .u32 0, .int .i64 13]
theorem adP_no {k : Nat} {l : List UInt8} {acc : Nat} (h : okN l = false) : adP k l acc = none := by cases k <;> (unfold adP; rw [if_neg (by simp [h])])
theorem adP_end {l : List UInt8} {acc : Nat} (h : okN l = true) (h1 : l.drop (runN 4 l 0).1 = []) : adP 0 l acc = some (acc * 256 + (runN 4 l 0).2) := by unfold adP; rw [if_pos ⟨h, h1⟩]
theorem adP_more {l : List UInt8} {acc : Nat} (h1 : l.drop (runN 4 l 0).1 ≠ []) : adP 0 l acc = none := by unfold adP; rw [if_neg (fun h => h1 h.2)]
theorem adP_dot {k : Nat} {l : List UInt8} {acc : Nat} (h : okN l = true) (h1 : (l.drop (runN 4 l 0).1).head? = some 46) : adP (k + 1) l acc = adP k (l.drop ((runN 4 l 0).1 + 1)) (acc * 256 + (runN 4 l 0).2) := by rw [adP, if_pos ⟨h, h1⟩]
theorem adP_nodot {k : Nat} {l : List UInt8} {acc : Nat} (h1 : (l.drop (runN 4 l 0).1).head? ≠ some 46) : adP (k + 1) l acc = none := by rw [adP, if_neg (fun h => h1 h.2)]
theorem okN_lt {l : List UInt8} (h : okN l = true) : (runN 4 l 0).2 < 256 := by
  unfold okN at h
  simp only [Bool.and_eq_true, decide_eq_true_eq] at h
  exact h.2.1
theorem or8 (x y : Nat) (h1 : x ≤ 16777215) (h3 : y ≤ 255) : bits .or .u32 ((x : Int) * 256) (y : Int) = ((x * 256 + y : Nat) : Int) := by
  rw [u32_or_8 _ _ (by omega) (by omega) (by omega) (by omega)]
  omega

structure ARel (w : World) (s : ByteArray) (addr i : Value) (wr : World) : Prop where
  ex : ∃ k acc at0 : Nat, i = .int .i64 k ∧ addr = .int .u32 acc ∧ k ≤ 3 ∧ acc < 256 ^ k ∧ at0 ≤ s.size ∧ Hid (adP 3 (bytesOf s) 0 = adP (3 - k) ((bytesOf s).drop at0) acc) ∧ Blk wr (w.heap.size + 1) 3 #[.int .i64 at0]
  s : Blk wr w.heap.size 9 #[.string s]
  kept : Below w.heap.size w wr
theorem pow256_le {k : Nat} (h : k ≤ 3) : 256 ^ k ≤ 16777216 := Nat.pow_le_pow_right (n := 256) (by decide) h
set_option maxRecDepth 100000 in
set_option maxHeartbeats 2000000 in
theorem address_any (w : World) (s : ByteArray) (hm : s.size ≤ 1099511627776) :
    Calls Tryd.prog 14 #[.string s] w fun e w' => e = .returned (outN (adP 3 (bytesOf s) 0)) ∧ Below w.heap.size w w' := by
  go_enter Tryd.func14, Tryd.ntmps14
  go_wp2
  go_step3
  go_wp2
  go_step3
  go_wp2
  go_loopw [6, 7] (ARel w s) (fun _ i _ => 3 - (intOf i).toNat)
  case atStart =>
    refine ⟨⟨0, 0, 0, rfl, rfl, by omega, by omega, by omega, rfl, ?_⟩, (Blk.new _ _ _).alloc _, ((Below.refl _ _).alloc (Nat.le_refl _) _).alloc (by rw [World.size_alloc]; omega) _⟩
    have := Blk.new (w.alloc (.cells #[.string s] 9)) 3 #[.int .i64 0]
    rwa [World.size_alloc] at this
  case round =>
    obtain ⟨⟨k, acc, at0, rfl, rfl, hk, hacc, hat, hrun, hA⟩, hS, hk0⟩ := hrel
    have hT := take_any wr (w.heap.size + 1) w.heap.size s at0 hA hS hat hm
    have hz := runN_le 4 ((bytesOf s).drop at0) 0
    have h256 := pow256_le hk
    have h257 : 256 ^ (k + 1) = 256 * 256 ^ k := by rw [Nat.pow_succ]; omega
    have hlen : ((bytesOf s).drop at0).length = s.size - at0 := by rw [List.length_drop, Array.length_toList]; rfl
    have HT := Lib.hid hT
    have HS1 := Lib.hid hS
    have HB1 := Lib.hid hk0
    clear hT hA hS hk0
    cases hok : okN ((bytesOf s).drop at0)
    · have hR : Hid (adP 3 (bytesOf s) 0 = none) := by show _ = _; rw [hrun.out, adP_no hok]
      rw [hok] at HT
      clear hrun
      go_wp2_with fail
      refine HT.out.mono ?_
      rintro e w1 ⟨rfl, hA, hK⟩
      have HB2 : Hid (Below w.heap.size w w1) := HB1.out.trans (hK.below (B := w.heap.size) (fun i hi => by omega) HB1.out.size)
      clear hA hK
      go_wp2_with fail
      rw [Exit.noGoto_ret]
      go_ret2
      exact ⟨by rw [hR.out]; rfl, HB2.out⟩
    · have hn := okN_lt hok
      have hdot := adP_dot (k := 3 - k - 1) (acc := acc) hok
      have hnod := adP_nodot (k := 3 - k - 1) (acc := acc) (l := (bytesOf s).drop at0)
      have hend := adP_end (acc := acc) hok
      have hmor := adP_more (acc := acc) (l := (bytesOf s).drop at0)
      rw [hok] at HT
      generalize hN : (runN 4 ((bytesOf s).drop at0) 0).2 = n at *
      generalize hC : (runN 4 ((bytesOf s).drop at0) 0).1 = c at *
      rw [List.drop_drop] at hdot hnod hend hmor
      rw [List.drop_drop, ← Nat.add_assoc] at hdot
      have hor := or8 acc n (by omega) (by omega)
      have HD := Lib.hid hdot
      have HN := Lib.hid hnod
      have HE := Lib.hid hend
      have HM := Lib.hid hmor
      clear hdot hnod hend hmor
      by_cases hk3 : k = 3
      · subst hk3
        by_cases he : at0 + c = s.size
        · have hR : Hid (adP 3 (bytesOf s) 0 = some (acc * 256 + n)) := by show _ = _; rw [hrun.out]; exact HE.out (drop_end (by omega))
          have hne : ((at0 + c : Nat) : Int) = s.size := by omega
          clear hrun HD HN HE HM
          go_wp2_with fail
          refine HT.out.mono ?_
          rintro e w1 ⟨rfl, hA, hK⟩
          have HB2 : Hid (Below w.heap.size w w1) := HB1.out.trans (hK.below (B := w.heap.size) (fun i hi => by omega) HB1.out.size)
          have cS : w1.cell? ⟨w.heap.size, 0, none⟩ = some (.string s) := (HS1.out.kept hK (by omega)).cell 0
          have cA : w1.cell? ⟨w.heap.size + 1, 0, none⟩ = some (.int .i64 s.size) := by rw [← hne]; exact hA.cell 0
          clear hA hK hne
          go_wp2_with fail
          rw [Exit.noGoto_ret]
          go_ret2
          exact ⟨by rw [hR.out]; rfl, HB2.out⟩
        · have hR : Hid (adP 3 (bytesOf s) 0 = none) := by show _ = _; rw [hrun.out]; exact HM.out (by rw [drop_at (by omega)]; simp)
          have hne : (((at0 + c : Nat) : Int) != s.size) = true := by simp; omega
          clear hrun HD HN HE HM
          go_wp2_with fail
          refine HT.out.mono ?_
          rintro e w1 ⟨rfl, hA, hK⟩
          have HB2 : Hid (Below w.heap.size w w1) := HB1.out.trans (hK.below (B := w.heap.size) (fun i hi => by omega) HB1.out.size)
          have cS : w1.cell? ⟨w.heap.size, 0, none⟩ = some (.string s) := (HS1.out.kept hK (by omega)).cell 0
          have cA : w1.cell? ⟨w.heap.size + 1, 0, none⟩ = some (.int .i64 (at0 + c : Nat)) := hA.cell 0
          clear hA hK
          go_wp2_with fail
          rw [Exit.noGoto_ret]
          go_ret2
          exact ⟨by rw [hR.out]; rfl, HB2.out⟩
      · have hk3i : ((k : Int) == 3) = false := by simp; omega
        rw [show 3 - k - 1 + 1 = 3 - k by omega] at HD HN
        by_cases he : at0 + c < s.size
        · have hne : (((at0 + c : Nat) : Int) == s.size) = false := by simp; omega
          by_cases hd : s[at0 + c] = 46
          · have hR : Hid (adP 3 (bytesOf s) 0 = adP (3 - (k + 1)) ((bytesOf s).drop (at0 + c + 1)) (acc * 256 + n)) := by
              show _ = _
              rw [hrun.out, HD.out (by rw [drop_at he, hd]; rfl)]
              rfl
            have hd1 : (s[at0 + c].toNat : Int) = 46 := by rw [hd]; rfl
            have hei : ((at0 + c : Nat) : Int) < s.size := by omega
            clear hrun HD HN HE HM
            go_wp2_with fail
            refine HT.out.mono ?_
            rintro e w1 ⟨rfl, hA, hK⟩
            have HB2 : Hid (Below w.heap.size w w1) := HB1.out.trans (hK.below (B := w.heap.size) (fun i hi => by omega) HB1.out.size)
            have cS : w1.cell? ⟨w.heap.size, 0, none⟩ = some (.string s) := (HS1.out.kept hK (by omega)).cell 0
            have hA1 := Lib.hid hA
            have hS2 := Lib.hid (HS1.out.kept hK (by omega))
            have cA : w1.cell? ⟨w.heap.size + 1, 0, none⟩ = some (.int .i64 (at0 + c : Nat)) := hA.cell 0
            have hfz := hA.frozen 0
            clear hA hK
            go_wp2_with fail
            have hA2 : Blk (w1.setCell ⟨w.heap.size + 1, 0, none⟩ (.int .i64 ((at0 : Int) + c + 1))) (w.heap.size + 1) 3 #[.int .i64 (at0 + c + 1 : Nat)] := by
              have := hA1.out.set_ 0 (.int .i64 ((at0 : Int) + c + 1))
              rwa [show (#[Value.int .i64 ((at0 + c : Nat) : Int)].setIfInBounds 0 (.int .i64 ((at0 : Int) + c + 1))) = #[.int .i64 ((at0 + c + 1 : Nat) : Int)] by simp] at this
            refine ⟨⟨⟨k + 1, acc * 256 + n, at0 + c + 1, by simp, by simp, by omega, by omega, by omega, hR, hA2⟩, hS2.out.far (by simp) _, HB2.out.setCell (by simp) _⟩, ?_⟩
            simp [intOf]
            omega
          · have hR : Hid (adP 3 (bytesOf s) 0 = none) := by
              show _ = _
              rw [hrun.out]
              exact HN.out (by rw [drop_at he]; simpa using hd)
            have hd1 : ((s[at0 + c].toNat : Int) != 46) = true := by
              simp only [bne_iff_ne, ne_eq]
              intro h; apply hd; apply UInt8.toNat_inj.1; show s[at0 + c].toNat = 46; omega
            have hei : ((at0 + c : Nat) : Int) < s.size := by omega
            clear hrun HD HN HE HM
            go_wp2_with fail
            refine HT.out.mono ?_
            rintro e w1 ⟨rfl, hA, hK⟩
            have HB2 : Hid (Below w.heap.size w w1) := HB1.out.trans (hK.below (B := w.heap.size) (fun i hi => by omega) HB1.out.size)
            have cS : w1.cell? ⟨w.heap.size, 0, none⟩ = some (.string s) := (HS1.out.kept hK (by omega)).cell 0
            have cA : w1.cell? ⟨w.heap.size + 1, 0, none⟩ = some (.int .i64 (at0 + c : Nat)) := hA.cell 0
            clear hA hK
            go_wp2_with fail
            rw [Exit.noGoto_ret]
            go_ret2
            exact ⟨by rw [hR.out]; rfl, HB2.out⟩
        · have hes : at0 + c = s.size := by omega
          have hR : Hid (adP 3 (bytesOf s) 0 = none) := by
            show _ = _
            rw [hrun.out]
            exact HN.out (by rw [drop_end (by omega)]; simp)
          have hne : ((at0 + c : Nat) : Int) = s.size := by omega
          clear hrun HD HN HE HM
          go_wp2_with fail
          refine HT.out.mono ?_
          rintro e w1 ⟨rfl, hA, hK⟩
          have HB2 : Hid (Below w.heap.size w w1) := HB1.out.trans (hK.below (B := w.heap.size) (fun i hi => by omega) HB1.out.size)
          have cS : w1.cell? ⟨w.heap.size, 0, none⟩ = some (.string s) := (HS1.out.kept hK (by omega)).cell 0
          have cA : w1.cell? ⟨w.heap.size + 1, 0, none⟩ = some (.int .i64 s.size) := by rw [← hne]; exact hA.cell 0
          clear hA hK hne
          go_wp2_with fail
          rw [Exit.noGoto_ret]
          go_ret2
          exact ⟨by rw [hR.out]; rfl, HB2.out⟩
end Go.Proofs.YtljmmpjcagchmaaDoor
