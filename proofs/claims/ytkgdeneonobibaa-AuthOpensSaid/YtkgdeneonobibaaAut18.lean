/-
  Chains of keys: the law's stays, walked.
-/
import Derived.Test.YtkgdeneonobibaaAut17
namespace Go.Proofs.Ytkgdeneonobibaa
set_option linter.unusedVariables false
open Go.RowKit

def StRel (w : World) (n : Nat) (i : Value) (wr : World) : Prop := ∃ j d : Nat, i = .int .i64 j ∧ j ≤ n ∧ wr = w.drewN d
set_option maxRecDepth 100000 in
set_option maxHeartbeats 4000000 in
theorem stays_any (A A' : Option Addr) (n c c' b : Nat) (L L' : List AK) (w : World) (hL : Keys w A n L) (hL' : Keys w A' n L') (hw : WdAll w b L L') (hn : n ≤ 131072) (hs : ∀ k ∈ L, k.n ≤ 131072) :
    Calls Try.prog 16 #[.slice A' n c', .slice A n c] w fun e w' => e = .returned (.bool true) ∧ ∃ k, w' = w.drewN k := by
  have HL := Lib.hid hL
  have HL' := Lib.hid hL'
  have HW := Lib.hid hw
  have HN := Lib.hid hs
  clear hL hL' hw hs
  go_enter Try.func16, Try.ntmps16
  go_wp2
  go_loopw [5] (StRel w n) (fun i _ => n - (intOf i).toNat)
  case atStart => exact ⟨0, 0, rfl, by omega, rfl⟩
  case round =>
    obtain ⟨i, d, rfl, hi, rfl⟩ := hrel
    by_cases hlt : i < n
    · obtain ⟨ad, k, rfl, _, hk, hok, c0, c1, c2, c3, c4, c5, c6⟩ := HL.out.at_ hlt
      obtain ⟨ad', k', rfl, _, hk', hok', d0, d1, d2, d3, d4, d5, d6⟩ := HL'.out.at_ hlt
      have hwd := HW.out i k k' hk.out hk'.out
      have hkn := HN.out k (List.mem_of_getElem? hk.out)
      obtain ⟨id, kind, S, sn, sc, sf, su, tf, tu, bs⟩ := k
      obtain ⟨id', kind', S', sn', sc', sf', su', tf', tu', bs'⟩ := k'
      obtain ⟨e1, e2, e3, e4, e5, e6, e7, e8, gw, e9, e10, _, hB⟩ := hwd
      simp only at e1 e2 e3 e4 e5 e6 e7 e8 e9 e10 hkn hB
      subst e1 e2 e3 e4 e5 e6 e7 e8 e9 e10
      have hbl : bs'.length = sn' := hok.out.sec.u8len
      have HX : Hid (Reads w w.heap.size 1 S sn' (u8s bs')) := hok.out.sec
      have HX' : Hid (Reads w w.heap.size 1 (some ⟨gw, 0, none⟩) sn' (u8s bs')) := hok'.out.sec
      have HM : Hid (Reads w w.heap.size 1 (some ⟨gw, 0, none⟩) (sn' + 64) (u8s (wide bs'))) := by
        have h1 := (Blk.reads (xs := u8s (wide bs')) hB (n := sn' + 64) (by rw [u8s_length, wide_length]; omega)).more (B' := w.heap.size) hB.lt
        rwa [List.take_of_length_le (by rw [u8s_length, wide_length]; omega)] at h1
      clear hB hok hok' hk hk'
      simp only at c0 c1 c2 c3 c4 c5 c6 d0 d1 d2 d3 d4 d5 d6
      have HE : Hid (∀ q : Nat, Calls Try.prog 20 #[.slice (some ⟨gw, 0, none⟩) sn' (sn' + 64), .slice S sn' sc] (w.drewN q) fun e w' => e = .returned (.bool true) ∧ ∃ k, w' = (w.drewN q).drewN k) := fun q => by
        have := eqBytes_any (some ⟨gw, 0, none⟩) S sn' (sn' + 64) sn' sc bs' bs' (w.drewN q) w.heap.size w.heap.size (HX'.out.drewN q) (HX.out.drewN q) (by omega) (by omega)
        rwa [decide_eq_true (rfl : bs' = bs')] at this
      have HSp : Hid (∀ q : Nat, Calls Try.prog 21 #[.slice (some ⟨gw, 0, none⟩) sn' (sn' + 64)] (w.drewN q) fun e w' => e = .returned (.bool true) ∧ ∃ k, w' = (w.drewN q).drewN k) := fun q =>
        spareBytes_yes (some ⟨gw, 0, none⟩) sn' (sn' + 64) bs' (w.drewN q) w.heap.size (HM.out.drewN q) hbl (Nat.le_refl _) (by omega)
      go_wp2
      go_quiet (first
        | (go_at_call 20; exact quiet_add (HE.out _))
        | (go_at_call 21; exact quiet_add (HSp.out _)))
      go_wp2
      go_roundw
      case rel => exact ⟨i + 1, _, by simp, by omega, rfl⟩
      case measure => simp [intOf]; omega
    · obtain rfl : i = n := by omega
      go_wp2
      go_ret
      exact ⟨rfl, _, rfl⟩
end Go.Proofs.Ytkgdeneonobibaa
