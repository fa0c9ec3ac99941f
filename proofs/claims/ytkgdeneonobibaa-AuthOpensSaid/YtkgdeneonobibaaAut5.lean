/-
  Chains of keys: Check of the program, walked.
-/
import Derived.Test.YtkgdeneonobibaaAut4
import Derived.Test.YtkgdeneonobibaaRgn
namespace Go.Proofs.Ytkgdeneonobibaa
set_option linter.unusedVariables false
open Go.RowKit

theorem flat_take (L : List AK) (i : Nat) : (L.take i).flatMap AK.cells = (L.flatMap AK.cells).take (i * 7) := by
  induction L generalizing i with
  | nil => simp
  | cons a r ih =>
    cases i with
    | zero => simp
    | succ i =>
      rw [List.take_succ_cons, List.flatMap_cons, List.flatMap_cons, ih, List.take_append]
      have h7 : a.cells.length = 7 := rfl
      rw [List.take_of_length_le (l := a.cells) (by rw [h7]; omega), h7, show (i + 1) * 7 - 7 = i * 7 by omega]
theorem Keys.take {w : World} {A : Option Addr} {n i : Nat} {L : List AK} (h : Keys w A n L) (hi : i ≤ n) : Keys w A i (L.take i) := by
  refine ⟨?_, ?_, fun k hk => h.ok k (List.mem_of_mem_take hk)⟩
  · rw [flat_take]
    refine ⟨?_, fun h0 => ?_⟩
    · rw [List.length_take, h.row.1]
      exact Nat.min_eq_left (Nat.mul_le_mul_right 7 hi)
    · obtain ⟨ad, e, hb, hc⟩ := h.row.2 (by omega)
      refine ⟨ad, e, hb, fun j u hu => hc j u ?_⟩
      rw [List.getElem?_take] at hu
      split at hu
      · exact hu
      · cases hu
  · rw [List.length_take, h.len]; exact Nat.min_eq_left hi
theorem same_id {o : AK} {k : AK} {w : World} {g : Nat} (hk : Blk w g 70 k.cells.toArray) :
    Calls Try.prog 39 #[o.v, .pointer (some ⟨g, 0, none⟩)] w fun e w' => e = .returned (.bool (o.id == k.id)) ∧ Below w.heap.size w w' := by
  have h0 : w.cell? ⟨g, 0, none⟩ = some (.int .u8 k.id) := hk.cell 0
  have hg := hk.lt
  have HB : Hid (Below w.heap.size w (w.alloc (.cells #[.int .u8 o.id, .int .u16 o.kind, .slice o.A o.n o.c, .int .i64 o.sf, .int .i64 o.su, .int .i64 o.tf, .int .i64 o.tu] 70))) := (Below.refl _ _).alloc (Nat.le_refl _) _
  clear hk
  go_enter Try.func39, Try.ntmps39
  go_wp2
  go_ret
  exact ⟨rfl, HB.out⟩
def ixRel (w : World) (L : List AK) (k : AK) (n : Nat) (i : Value) (wr : World) : Prop :=
  ∃ j : Nat, i = .int .i64 j ∧ j ≤ n ∧ (∀ o ∈ L.take j, (o.id == k.id) = false) ∧ Below w.heap.size w wr
def ixOut (w w' : World) (L : List AK) (k : AK) (e : Ending) : Prop := (∃ r : Int, e = .returned (.int .i64 r) ∧ decide (0 ≤ r) = L.any (fun o => o.id == k.id)) ∧ Below w.heap.size w w'
set_option maxHeartbeats 1000000 in
theorem indexFunc_any (A : Option Addr) (n c g : Nat) (L : List AK) (k : AK) (w : World) (hL : Keys w A n L) (hk : Blk w g 70 k.cells.toArray) (hn : n ≤ 9223372036854775807) :
    Calls Try.prog 91 #[.slice A n c, .func (.func 39) #[] #[.pointer (some ⟨g, 0, none⟩)]] w fun e w' => ixOut w w' L k e := by
  have HL := Lib.hid hL
  have HK : Hid (Blk w g 70 k.cells.toArray) := hk
  clear hL hk
  go_enter Try.func91, Try.ntmps91
  go_wp2
  go_loopw [8] (ixRel w L k n) (fun i _ => n - (intOf i).toNat)
  case atStart => exact ⟨0, rfl, by omega, by simp, Below.refl _ _⟩
  case round =>
    obtain ⟨i, rfl, hi, hno, hb⟩ := hrel
    have HB := Lib.hid hb
    have HNO : Hid (∀ o ∈ L.take i, (o.id == k.id) = false) := hno
    clear hb hno
    by_cases hlt : i < n
    · obtain ⟨ad, o, rfl, hbl, ho, hok, c0, c1, c2, c3, c4, c5, c6⟩ := (HL.out.later HB.out).at_ hlt
      clear hok
      have HS : Hid (∀ W : World, Blk W g 70 k.cells.toArray → Calls Try.prog 39 #[o.v, .pointer (some ⟨g, 0, none⟩)] W fun e w' => e = .returned (.bool (o.id == k.id)) ∧ Below W.heap.size W w') := fun W h => same_id h
      obtain ⟨id, kind, S, sn, sc, sf, su, tf, tu, bs⟩ := o
      simp only at c0 c1 c2 c3 c4 c5 c6
      by_cases hs : (id == k.id) = true
      · simp only [hs] at HS
        go_wp2_with (go_at_call 39; refine (HS.out _ (HK.out.later HB.out)).mono ?_; rintro e w1 ⟨rfl, hb1⟩; have HB1 := Lib.hid (below_then HB.out hb1); clear hb1)
        go_ret
        refine ⟨⟨_, rfl, ?_⟩, HB1.out⟩
        rw [decide_eq_true (by omega : (0 : Int) ≤ (i : Nat))]
        exact (List.any_eq_true.2 ⟨_, List.mem_of_getElem? ho.out, hs⟩).symm
      · have hs' : (id == k.id) = false := by simpa using hs
        simp only [hs'] at HS
        go_wp2_with (go_at_call 39; refine (HS.out _ (HK.out.later HB.out)).mono ?_; rintro e w1 ⟨rfl, hb1⟩; have HB1 := Lib.hid (below_then HB.out hb1); clear hb1)
        go_roundw
        case rel =>
          refine ⟨i + 1, by simp, by omega, ?_, HB1.out⟩
          intro o ho'
          rw [List.take_add_one, List.mem_append] at ho'
          rcases ho' with h | h
          · exact HNO.out o h
          · rw [ho.out] at h
            simp at h
            subst h
            exact hs'
        case measure => simp [intOf]; omega
    · obtain rfl : i = n := by omega
      go_wp2
      go_ret
      refine ⟨⟨_, rfl, ?_⟩, HB.out⟩
      rw [decide_eq_false (by omega : ¬ (0 : Int) ≤ -1)]
      have h := HNO.out
      rw [List.take_of_length_le (by rw [HL.out.len]; exact Nat.le_refl _)] at h
      exact (List.any_eq_false.2 fun o ho => by rw [h o ho]; decide).symm
theorem containsFunc_any (A : Option Addr) (n c g : Nat) (L : List AK) (k : AK) (w : World) (hL : Keys w A n L) (hk : Blk w g 70 k.cells.toArray) (hn : n ≤ 9223372036854775807) :
    Calls Try.prog 38 #[.slice A n c, .func (.func 39) #[] #[.pointer (some ⟨g, 0, none⟩)]] w fun e w' =>
      e = .returned (.bool (L.any (fun o => o.id == k.id))) ∧ Below w.heap.size w w' := by
  have H := Lib.hid (indexFunc_any A n c g L k w hL hk hn)
  clear hL hk
  go_enter Try.func38, Try.ntmps38
  go_wp2_with (go_at_call 91; refine H.out.mono ?_; rintro e w1 ⟨⟨r, rfl, hr⟩, hb1⟩; have HB1 := Lib.hid hb1; have HR := Lib.hid hr; clear hb1 hr)
  go_ret
  refine ⟨?_, HB1.out⟩
  rw [← HR.out]
  rfl
end Go.Proofs.Ytkgdeneonobibaa
