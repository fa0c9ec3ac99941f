/-
  Contracts of lodestarref00's functions on bytes: EqBytes, WideBytes, SpareBytes, CopyBytes.
-/
import Derived.Test.YtpncbggjngamgaaBase
import Derived.Deep.OwnRows
namespace Go.Proofs.Ytpncbggjngamgaa
set_option linter.unusedVariables false
open Go.RowKit

theorem u8s_nth_ne {xs ys : List Int} {k : Nat} {x y : Int} (h1 : Hid (xs[k]? = some x)) (h2 : Hid (ys[k]? = some y)) (h : x ≠ y) : xs ≠ ys := by
  rintro rfl
  have a := h1.out
  have b := h2.out
  rw [a] at b
  exact h (by injection b)
theorem take_snoc2 {xs ys : List Int} {k : Nat} {x y : Int} (h1 : Hid (xs[k]? = some x)) (h2 : Hid (ys[k]? = some y)) (h : x = y) (he : Hid (xs.take k = ys.take k)) : Hid (xs.take (k+1) = ys.take (k+1)) := by
  subst h
  have e : xs.take (k+1) = ys.take (k+1) := by rw [List.take_add_one, List.take_add_one, he.out, h1.out, h2.out]
  exact e

set_option maxHeartbeats 400000 in
theorem eqBytes_any (A A' : Option Addr) (n c n' c' : Nat) (xs ys : List Int) (w : World) (B B' : Nat)
   (hx : Reads w B 1 A n (u8s xs)) (hy : Reads w B' 1 A' n' (u8s ys)) (hn : n ≤ 9223372036854775807) (hn' : n' ≤ 9223372036854775807) :
    Calls Try.prog 42 #[.slice A n c, .slice A' n' c'] w fun e w' => e = .returned (.bool (decide (xs = ys))) ∧ ∃ k, w' = w.drewN k := by
  have hlx := hx.u8len
  have hly := hy.u8len
  by_cases hl : n = n'
  · obtain rfl := hl
    have Hlx := Lib.hid hlx
    have Hly := Lib.hid hly
    clear hlx hly
    go_enter Try.func42, Try.ntmps42
    go_wp2
    go_loopw [5] (fun i wr => ∃ k : Nat, i = .int .i64 k ∧ k ≤ n ∧ Hid (xs.take k = ys.take k) ∧ ∃ d, wr = w.drewN d) (fun i _ => n - (intOf i).toNat)
    case atStart => exact ⟨0, rfl, by omega, rfl, 0, rfl⟩
    case round =>
      obtain ⟨k, rfl, hk, he, d, rfl⟩ := hrel
      by_cases hlt : k < n
      · obtain ⟨a, x, rfl, _, hx1, h1⟩ := hx.u8at hlt
        obtain ⟨a', y, rfl, _, hy1, h2⟩ := hy.u8at hlt
        by_cases hxy : x = y
        · have hb : (x != y) = false := by simp [hxy]
          have Hxy := Lib.hid hxy
          clear hxy
          go_wp2
          go_quiet (fail)
          go_wp2
          go_roundw
          case rel => exact ⟨k + 1, by go_num, by omega, take_snoc2 hx1 hy1 Hxy.out he, _, rfl⟩
          case measure => simp [intOf]; omega
        · have hb : (x != y) = true := by simp [hxy]
          have hne := u8s_nth_ne hx1 hy1 hxy
          clear hxy
          go_wp2
          go_quiet (fail)
          go_wp2
          go_ret
          exact ⟨by simp [hne], _, World.drewN_drewN ..⟩
      · obtain rfl : n = k := by omega
        have heq : xs = ys := by have := he.out; rwa [List.take_of_length_le (by rw [Hlx.out]; omega), List.take_of_length_le (by rw [Hly.out]; omega)] at this
        clear Hlx Hly he
        go_wp2
        go_ret
        exact ⟨by simp [heq], _, rfl⟩
  · have hb : ((n : Int) != (n' : Int)) = true := by simp; omega
    have hne : xs ≠ ys := by rintro rfl; omega
    clear hlx hly
    go_enter Try.func42, Try.ntmps42
    go_wp2
    go_ret
    exact ⟨by simp [hne], 0, rfl⟩

/-- The marks behind a list of n bytes. -/
def marks (n : Nat) : List Int := (List.range 64).map fun j => ((279 + 7 * ((n + j : Nat) : Int) + 3) % 256)
theorem marks_length (n : Nat) : (marks n).length = 64 := by simp [marks]
theorem marks_at (n : Nat) {j : Nat} (h : j < 64) : (marks n)[j]? = some ((279 + 7 * ((n + j : Nat) : Int) + 3) % 256) := by
  simp [marks, h]
def wide (xs : List Int) : List Int := xs ++ marks xs.length
theorem wide_length (xs : List Int) : (wide xs).length = xs.length + 64 := by simp [wide, marks_length]
theorem wide_low {xs : List Int} {k : Nat} {x : Int} (h : xs[k]? = some x) : (wide xs)[k]? = some x := by
  have hl : k < xs.length := by
    rcases Nat.lt_or_ge k xs.length with hlt | hge
    · exact hlt
    · rw [List.getElem?_eq_none hge] at h; cases h
  unfold wide
  rw [List.getElem?_append_left hl, h]
theorem wide_high {xs : List Int} {k : Nat} (h1 : xs.length ≤ k) (h2 : k < xs.length + 64) : (wide xs)[k]? = some ((279 + 7 * (k : Int) + 3) % 256) := by
  unfold wide
  rw [List.getElem?_append_right h1, marks_at _ (by omega)]
  congr 5
  omega
theorem wide_take (xs : List Int) : (wide xs).take xs.length = xs := by simp [wide]

theorem info_u8 : (Try.prog.info? 5).map (fun i => (i.zero, i.size, i.bytes)) = some (some (.int .u8 0), 1, 1) := by kernel_rfl
theorem el_u8 : El Try.prog 29 5 1 1 := El.mk' Try.underlying29 info_u8 rfl (by omega)

/-- What CopyBytes leaves. -/
def CopyAt (w w' : World) (xs : List Int) (e : Ending) : Prop :=
  ∃ v, e = .returned v ∧ w'.ownsRow w.heap.size 5 1 v xs.length (u8s xs) ∧ Below w.heap.size w w'

theorem copyBytes_any (A : Option Addr) (n c : Nat) (xs : List Int) (w : World) (hx : Reads w w.heap.size 1 A n (u8s xs)) (hn : n ≤ 1099511627776) :
    Calls Try.prog 62 #[.slice A n c] w fun e w' => CopyAt w w' xs e := by
  have hlx := Lib.hid hx.u8len
  go_enter Try.func62, Try.ntmps62
  go_wp2_with (at_builtin; refine wpList_app el_u8 rfl _ _ rfl (World.ownsRow_nil _ w.heap.size _ _) rfl hx rfl u8s_one (by simp only [maxLen]; omega) (by omega) (Nat.le_refl _) ?_; intro v w1 hown hbel _ _)
  go_ret
  refine ⟨v, rfl, ?_, hbel⟩
  rw [hlx.out]
  simpa using hown

/-- What CopyBytes leaves of a list that is not empty. -/
def CopyRow (w w' : World) (xs : List Int) (e : Ending) : Prop :=
  ∃ g cap, e = .returned (.slice (some ⟨g, 0, none⟩) xs.length cap) ∧ w.heap.size ≤ g ∧ xs.length ≤ cap ∧ cap ≤ 9223372036854775807 ∧ Row w' g 5 cap (u8s xs) ∧ Below w.heap.size w w'
theorem copyBytes_row (A : Option Addr) (n c : Nat) (xs : List Int) (w : World) (hx : Reads w w.heap.size 1 A n (u8s xs)) (h0 : 0 < n) (hn : n ≤ 1099511627776) :
    Calls Try.prog 62 #[.slice A n c] w fun e w' => CopyRow w w' xs e := by
  have hl := hx.u8len
  refine (copyBytes_any A n c xs w hx hn).mono ?_
  rintro e w' ⟨v, rfl, hown, hb⟩
  obtain ⟨g, cap, rfl, hg, hc, hm, hr⟩ := Row.of_own hown (by omega)
  exact ⟨g, cap, rfl, hg, hc, by unfold maxLen at hm; exact hm, hr, hb⟩
end Go.Proofs.Ytpncbggjngamgaa
