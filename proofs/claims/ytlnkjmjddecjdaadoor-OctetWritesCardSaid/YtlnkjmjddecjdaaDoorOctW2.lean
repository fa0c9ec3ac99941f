/-
  octet's Len, lodestarlaw01's heavy; two writers since a world.
-/
import Derived.Test.YtlnkjmjddecjdaaDoorOctW1
import Derived.Test.YtlnkjmjddecjdaaDoorOctA5
namespace Go.Proofs.YtlnkjmjddecjdaaDoor
set_option linter.unusedVariables false
open Go.RowKit

theorem wlen_any (w : World) (base g : Nat) (v : Value) (s : Wr) (h : WS base w g v s) :
    Calls Tryd.prog 16 #[.pointer (some ⟨g, 0, none⟩)] w fun e w' => e = .returned (.int .i64 (s.xs.length : Int)) ∧ ∃ k, w' = w.drewN k := by
  obtain ⟨A0, c0, hv, hc0, hm, hr0⟩ := own_shape h.2.2
  have c0' : w.cell? ⟨g, 0, none⟩ = some (.slice A0 s.xs.length c0) := by rw [h.2.1.cell, hv]; rfl
  have c3 : w.cell? ⟨g, 3, none⟩ = some (.bool true) := by rw [h.2.1.cell]; rfl
  clear h hv hr0
  go_enter Tryd.func16, Tryd.ntmps16
  go_wp2
  go_ret
  exact ⟨rfl, 0, rfl⟩

/-- What heavy answers. -/
def HvPost (w w' : World) (L : List OpA) (n : Nat) (e : Ending) : Prop := ∃ b, e = .returned (.bool b) ∧ (∃ k, w' = w.drewN k) ∧ (b = false → bsum L n ≤ 65536 ∧ n ≤ 200)
theorem opHeavy_any (A : Option Addr) (n c : Nat) (L : List OpA) (w : World) (hL : Opl w A n L) (hr : ∀ o ∈ L, o.m ≤ reachBytes) (hc : n ≤ c) (hcm : c ≤ 9223372036854775807) :
    Calls Tryd.prog 4 #[.slice none 0 0, .slice A n c] w fun e w' => HvPost w w' L n e := by
  have HL := Lib.hid hL
  have HR := Lib.hid hr
  clear hL hr
  go_enter Tryd.func4, Tryd.ntmps4
  go_wp2
  go_loopw [5, 6] (fun sv iv wr => ∃ i k : Nat, sv = .int .i64 k ∧ iv = .int .i64 i ∧ i ≤ n ∧ Hid (k = bsum L i) ∧ k ≤ 140737488420864 ∧ ∃ d, wr = w.drewN d) (fun _ iv _ => n - (intOf iv).toNat)
  case atStart => exact ⟨0, 0, rfl, rfl, by omega, rfl, by omega, 0, rfl⟩
  case round =>
    obtain ⟨i, k, rfl, rfl, hi, hk, hkb, d, rfl⟩ := hrel
    by_cases hlt : i < n
    · by_cases hsm : k ≤ 65536
      · obtain ⟨ad, ⟨o0, on, oa, ov, oA, om, oc, oB⟩, rfl, _, hs, hok, a0, a1, a2, a3, a4⟩ := HL.out.at_ hlt
        have hm := HR.out _ (List.mem_of_getElem? hs)
        have hm' : om ≤ 140737488355328 := by unfold reachBytes at hm; simp only at hm; omega
        have HK := Lib.hid (bsum_succ hs)
        clear hm hs hok a0 a1 a2 a3
        go_wp2
        go_roundw
        case rel => exact ⟨i + 1, k + om, by go_num, by go_num, by omega, by show _ = _; rw [HK.out, hk.out], by omega, _, rfl⟩
        case measure => simp [intOf]; omega
      · go_wp2
        go_ret
        exact ⟨_, rfl, ⟨_, rfl⟩, fun h => by simp at h⟩
    · obtain rfl : i = n := by omega
      by_cases hsm : k ≤ 65536
      · go_wp2
        go_ret
        refine ⟨_, rfl, ⟨_, rfl⟩, fun h => ?_⟩
        have := hk.out
        simp at h
        omega
      · go_wp2
        go_ret
        exact ⟨_, rfl, ⟨_, rfl⟩, fun h => by simp at h⟩

theorem bsum_le (L : List OpA) {i n : Nat} (h : i ≤ n) : bsum L i ≤ bsum L n := by
  induction h with
  | refl => exact Nat.le_refl _
  | @step k _ ih =>
    refine Nat.le_trans ih ?_
    cases hk : L[k]? with
    | none =>
      unfold bsum
      rw [List.take_of_length_le (by have := List.getElem?_eq_none_iff.1 hk; omega : L.length ≤ k), List.take_of_length_le (by have := List.getElem?_eq_none_iff.1 hk; omega : L.length ≤ k.succ)]
      exact Nat.le_refl _
    | some o => rw [bsum_succ hk]; omega
/-- Two writers side by side, both new since w. -/
structure Wk (w W : World) (g : Nat) (v : Value) (gd : Nat) (vd : Value) (m : Int) (s t : Wr) : Prop where
  two : Two w.heap.size W g v gd vd m s t
  b : Below w.heap.size w W
theorem Wk.later {w W W' : World} {g gd : Nat} {v vd : Value} {m : Int} {s t : Wr} (h : Wk w W g v gd vd m s t) (k : Below W.heap.size W W') : Wk w W' g v gd vd m s t :=
  ⟨h.two.later k, below_then h.b k⟩
theorem Wk.stepW {w W W' : World} {g gd : Nat} {v vd : Value} {m : Int} {s s' t : Wr} (h : Wk w W g v gd vd m s t) (p : WPost w.heap.size W W' g v s') : ∃ v', Wk w W' g v' gd vd m s' t := by
  obtain ⟨v', h1⟩ := h.two.stepW p
  exact ⟨v', h1, h.b.trans (WPost.below h.two.ws p)⟩
theorem Wk.stepD {w W W' : World} {g gd : Nat} {v vd : Value} {m : Int} {s t t' : Wr} (h : Wk w W g v gd vd m s t) (p : DPost w.heap.size W W' gd vd m t') : ∃ vd', Wk w W' g v gd vd' m s t' := by
  obtain ⟨v', h1⟩ := h.two.stepD p
  exact ⟨v', h1, h.b.trans (DPost.below h.two.wd p)⟩
theorem Wk.dcells {w W : World} {g gd : Nat} {v vd : Value} {m : Int} {s t : Wr} (h : Wk w W g v gd vd m s t) : ∃ A c, vd = .slice A t.xs.length c ∧ t.xs.length ≤ c ∧ c ≤ 9223372036854775807 ∧ W.cell? ⟨gd, 0, none⟩ = some (.slice A t.xs.length c) ∧ W.cell? ⟨gd, 2, none⟩ = some (.int .i64 t.e) ∧ Reads W W.heap.size 1 A t.xs.length (u8s t.xs) := by
  obtain ⟨A, c, e, h1, h2, h3⟩ := own_shape h.two.wd.2.2
  exact ⟨A, c, e, h1, h2, by rw [h.two.wd.2.1.cell, e]; rfl, by rw [h.two.wd.2.1.cell]; rfl, h3⟩
/-- A reading of what is old stays. -/
theorem Opl.since {w W : World} {A : Option Addr} {n : Nat} {L : List OpA} (h : Opl w A n L) (b : Below w.heap.size w W) : Opl W A n L := h.later b
end Go.Proofs.YtlnkjmjddecjdaaDoor
