/-
  packet.Length, auth.kind and the reference's, walked.
-/
import Derived.Test.YtbkejlalbjomkaaSumP
import Derived.Test.YtbkejlalbjomkaaBase2
namespace Go.Proofs.Ytbkejlalbjomkaa
set_option linter.unusedVariables false
open Go.RowKit

/-- A packet's length, and the error. -/
def pkLen (xs : List Int) : Int × Int :=
  if xs.length < 24 then (0, 10)
  else if xs.getD 0 0 ≠ 2 then (0, 20)
  else if xs.getD 1 0 < 1 ∨ 5 < xs.getD 1 0 then (0, 21)
  else if xs.getD 2 0 * 256 + xs.getD 3 0 < 24 ∨ (xs.length : Int) < xs.getD 2 0 * 256 + xs.getD 3 0 then (0, 22)
  else (xs.getD 2 0 * 256 + xs.getD 3 0, 0)
theorem getD_of {xs : List Int} {k : Nat} {x : Int} (h : xs[k]? = some x) : xs.getD k 0 = x := by simp [List.getD, h]
def PkAt (w w' : World) (p : Int × Int) (e : Ending) : Prop := e = .returned (.tuple #[.int .i64 p.1, .int .i64 p.2]) ∧ ∃ k, w' = w.drewN k
theorem pkAt {w w' : World} {p q : Int × Int} {e : Ending} (h : PkAt w w' p e) (hq : q = p) : PkAt w w' q e := hq ▸ h

set_option maxHeartbeats 1000000 in
theorem length_any (A : Option Addr) (n c : Nat) (xs : List Int) (w : World) (B : Nat) (hx : Reads w B 1 A n (u8s xs)) (ho : Oct xs) (hc : n ≤ c) (hm : c ≤ 9223372036854775807) :
    Calls Try.prog 15 #[.slice A n c] w fun e w' => PkAt w w' (pkLen xs) e := by
  have hl := hx.u8len
  by_cases h24 : n < 24
  · have hr : Hid (pkLen xs = (0, 10)) := by show _ = _; unfold pkLen; rw [if_pos (by omega)]
    clear hx ho hc hm hl
    go_enter Try.func15, Try.ntmps15
    go_wp2
    go_ret2
    exact pkAt ⟨rfl, 0, rfl⟩ hr.out
  · obtain ⟨a, x, rfl, _, hx0, h0⟩ := hx.u8at0 (by omega)
    obtain ⟨a1, y, e1, _, hy0, h1⟩ := hx.u8atc (k := 1) (by omega) (by omega)
    obtain rfl : a = a1 := by injection e1
    obtain ⟨a2, z, e2, _, hz0, h2⟩ := hx.u8atc (k := 2) (by omega) (by omega)
    obtain rfl : a = a2 := by injection e2
    obtain ⟨a3, u, e3, _, hu0, h3⟩ := hx.u8atc (k := 3) (by omega) (by omega)
    obtain rfl : a = a3 := by injection e3
    obtain ⟨oz1, oz2⟩ := ho _ _ hz0.out
    obtain ⟨ou1, ou2⟩ := ho _ _ hu0.out
    have gx := getD_of hx0.out
    have gy := getD_of hy0.out
    have gz := getD_of hz0.out
    have gu := getD_of hu0.out
    have hp : Hid (pkLen xs = if x ≠ 2 then (0, 20) else if y < 1 ∨ 5 < y then (0, 21) else if z * 256 + u < 24 ∨ (n : Int) < z * 256 + u then (0, 22) else (z * 256 + u, 0)) := by
      show _ = _
      unfold pkLen
      rw [if_neg (by omega), gx, gy, gz, gu, hl]
    clear gx gy gz gu hx0 hy0 hz0 hu0 hx ho hl e1 e2 e3
    by_cases hq : x = 2
    · subst hq
      by_cases hy1 : y < 1
      · have hr : Hid (pkLen xs = (0, 21)) := by show _ = _; rw [hp.out, if_neg (by omega), if_pos (.inl hy1)]
        clear hp oz1 oz2 ou1 ou2
        go_enter Try.func15, Try.ntmps15
        go_wp2
        go_ret2
        exact pkAt ⟨rfl, 0, rfl⟩ hr.out
      by_cases hy2 : 5 < y
      · have hr : Hid (pkLen xs = (0, 21)) := by show _ = _; rw [hp.out, if_neg (by omega), if_pos (.inr hy2)]
        clear hp oz1 oz2 ou1 ou2
        go_enter Try.func15, Try.ntmps15
        go_wp2
        go_ret2
        exact pkAt ⟨rfl, 0, rfl⟩ hr.out
      have w1 : IntKind.i64.wrap z = z := IntWalk.i64_in _ (by omega)
      have w2 : IntKind.i64.wrap u = u := IntWalk.i64_in _ (by omega)
      have w3 : IntKind.i64.wrap (z * 256) = z * 256 := IntWalk.i64_in _ (by omega)
      have w4 := i64_or_8 z u oz1 (by omega) ou1 ou2
      by_cases hs : z * 256 + u < 24
      · have hr : Hid (pkLen xs = (0, 22)) := by show _ = _; rw [hp.out, if_neg (by omega), if_neg (by omega), if_pos (.inl hs)]
        clear hp oz1 oz2 ou1 ou2
        go_enter Try.func15, Try.ntmps15
        go_wp2
        go_quiet (fail)
        go_wp2
        go_ret2
        exact pkAt ⟨rfl, _, rfl⟩ hr.out
      by_cases hg : (n : Int) < z * 256 + u
      · have hr : Hid (pkLen xs = (0, 22)) := by show _ = _; rw [hp.out, if_neg (by omega), if_neg (by omega), if_pos (.inr hg)]
        clear hp oz1 oz2 ou1 ou2
        go_enter Try.func15, Try.ntmps15
        go_wp2
        go_quiet (fail)
        go_wp2
        go_ret2
        exact pkAt ⟨rfl, _, rfl⟩ hr.out
      · have hr : Hid (pkLen xs = (z * 256 + u, 0)) := by show _ = _; rw [hp.out, if_neg (by omega), if_neg (by omega), if_neg (by omega)]
        clear hp oz1 oz2 ou1 ou2
        go_enter Try.func15, Try.ntmps15
        go_wp2
        go_quiet (fail)
        go_wp2
        go_ret2
        exact pkAt ⟨rfl, _, rfl⟩ hr.out
    · have hr : Hid (pkLen xs = (0, 20)) := by show _ = _; rw [hp.out, if_pos hq]
      have hq' : (x == 2) = false := by simpa using hq
      clear hp oz1 oz2 ou1 ou2 hq
      go_enter Try.func15, Try.ntmps15
      go_wp2
      go_ret2
      exact pkAt ⟨rfl, 0, rfl⟩ hr.out
def pkKind (xs : List Int) : Int := xs.getD 14 0 * 256 + xs.getD 15 0
theorem kind_any (A : Option Addr) (n c : Nat) (xs : List Int) (w : World) (B : Nat) (hx : Reads w B 1 A n (u8s xs)) (ho : Oct xs) (hn : 24 ≤ n) (hc : n ≤ c) (hm : c ≤ 9223372036854775807) :
    Calls Try.prog 71 #[.slice A n c] w fun e w' => e = .returned (.int .u16 (pkKind xs)) ∧ ∃ k, w' = w.drewN k := by
  obtain ⟨a, x, rfl, _, hx0, h0⟩ := hx.u8atc (k := 14) (by omega) (by omega)
  obtain ⟨a1, y, e1, _, hy0, h1⟩ := hx.u8atc (k := 15) (by omega) (by omega)
  obtain rfl : a = a1 := by injection e1
  obtain ⟨ox1, ox2⟩ := ho _ _ hx0.out
  obtain ⟨oy1, oy2⟩ := ho _ _ hy0.out
  have hr : Hid (pkKind xs = x * 256 + y) := by show _ = _; unfold pkKind; rw [getD_of hx0.out, getD_of hy0.out]
  have l1 : 14 < n := by omega
  have l2 : 15 < n := by omega
  have w1 : IntKind.u16.wrap x = x := IntWalk.u16_in _ (by omega)
  have w2 : IntKind.u16.wrap y = y := IntWalk.u16_in _ (by omega)
  have w3 : IntKind.u16.wrap (x * 256) = x * 256 := IntWalk.u16_in _ (by omega)
  have w4 := u16_or_8 x y ox1 (by omega) oy1 oy2
  clear hx0 hy0 hx ho e1 hn hc hm
  go_enter Try.func71, Try.ntmps71
  go_wp2
  go_quiet (fail)
  go_wp2
  go_ret
  exact ⟨by rw [hr.out]; rfl, _, rfl⟩
end Go.Proofs.Ytbkejlalbjomkaa
