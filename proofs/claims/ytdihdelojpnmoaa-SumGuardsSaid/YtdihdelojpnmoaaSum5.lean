/-
  'lives' and both laws, walked.
-/
import Derived.Test.YtdihdelojpnmoaaSum3
import Derived.Test.YtdihdelojpnmoaaSum4
namespace Go.Proofs.Ytdihdelojpnmoaa
set_option linter.unusedVariables false
open Go.RowKit

theorem oct_of (zs : List Int) (h : (zs.all fun x => decide (0 ≤ x) && decide (x ≤ 255)) = true) : Oct zs := Oct.of_mem fun x hx => by
  have := List.all_eq_true.1 h x hx
  simpa using this

set_option maxRecDepth 100000 in
set_option maxHeartbeats 1000000 in
theorem lives_any (w : World) : Calls Try.prog 5 #[] w fun e w' => e = .returned (.bool true) ∧ Below w.heap.size w w' := by
  have f1 : fl 2 [1, 2, 0, 0] = 63492 := by decide
  have f2 : (65535 - foldS (ws true [1, 2, 3])) = 64509 := by decide
  have f3 : (foldS (ws true [0, 1, 255, 254]) == 65535) = true := by decide
  have f4 : (S0 [1, 2, 248, 4] % 255 == 0 && S1 [1, 2, 248, 4] % 255 == 0) = true := by decide
  have f5 : (S0 [1] % 255 == 0 && S1 [1] % 255 == 0) = false := by decide
  have c1 := fun W : World => fletcher_any (some ⟨W.heap.size, 0, none⟩) 4 4 [1, 2, 0, 0] 2 _ (Reads.lit_ W (u8s [1, 2, 0, 0]) 5 rfl) (oct_of _ rfl) (by omega) (by omega) (by omega) (by omega)
  have c2 := fun W : World => toBelow0 (fletcher_no (some ⟨W.heap.size, 0, none⟩) 2 2 1 (W.alloc (.cells (u8s [1, 2]).toArray 5)) (by omega) (by omega))
  have c3 := fun W : World => toBelow (plain_any (some ⟨W.heap.size, 0, none⟩) 3 3 [1, 2, 3] _ _ (Reads.lit_ W (u8s [1, 2, 3]) 5 rfl) (oct_of _ rfl) (by omega) (by omega))
  have c4 := fun W : World => toBelow (right_any (some ⟨W.heap.size, 0, none⟩) 4 4 [0, 1, 255, 254] _ _ (Reads.lit_ W (u8s [0, 1, 255, 254]) 5 rfl) (oct_of _ rfl) (by omega) (by omega))
  have c5 := fun W : World => prog_whole_any (some ⟨W.heap.size, 0, none⟩) 4 4 [1, 2, 248, 4] _ (Reads.lit_ W (u8s [1, 2, 248, 4]) 5 rfl) (oct_of _ rfl) (by omega) (by omega)
  have c6 := fun W : World => prog_whole_any (some ⟨W.heap.size, 0, none⟩) 1 1 [1] _ (Reads.lit_ W (u8s [1]) 5 rfl) (oct_of _ rfl) (by omega) (by omega)
  simp only [f1, f2, f3, f4, f5] at c1 c3 c4 c5 c6
  have C1 := Lib.hid c1
  have C2 := Lib.hid c2
  have C3 := Lib.hid c3
  have C4 := Lib.hid c4
  have C5 := Lib.hid c5
  have C6 := Lib.hid c6
  clear c1 c2 c3 c4 c5 c6 f1 f2 f3 f4 f5
  go_enter Try.func5, Try.ntmps5
  go_wp2_with fail
  refine (C1.out w).mono ?_
  rintro e w1 ⟨rfl, hb1⟩
  have k1 := below_lit (Below.refl _ w) _ hb1
  go_wp2_with fail
  refine (C2.out w1).mono ?_
  rintro e w2 ⟨rfl, hb2⟩
  have k2 := below_lit k1 _ hb2
  go_wp2_with fail
  refine (C3.out _).mono ?_
  rintro e w3 ⟨rfl, hb3⟩
  have k3 := below_lit k2 _ hb3
  go_wp2_with fail
  refine (C4.out _).mono ?_
  rintro e w4 ⟨rfl, hb4⟩
  have k4 := below_lit k3 _ hb4
  go_wp2_with fail
  refine (C5.out _).mono ?_
  rintro e w5 ⟨rfl, hb5⟩
  have k5 := below_lit k4 _ hb5
  go_wp2_with fail
  refine (C6.out _).mono ?_
  rintro e w6 ⟨rfl, hb6⟩
  have k6 := below_lit k5 _ hb6
  go_wp2_with fail
  go_ret
  exact ⟨rfl, k6⟩

/-- What both Fletchers hand back, wherever the place is. -/
def flr (n : Nat) (i : Int) (xs : List Int) : Int × Int := if 0 ≤ i ∧ i < (n : Int) - 1 then (fl i.toNat xs, 0) else (0, 1)
theorem fletcher_all (A : Option Addr) (n c : Nat) (xs : List Int) (i : Int) (w : World) (hx : Reads w w.heap.size 1 A n (u8s xs)) (ho : Oct xs) (hc : n ≤ c) (hm : c ≤ 9223372036854775807) (hn : n ≤ 1099511627776) :
    Calls Try.prog 7 #[.slice A n c, .int .i64 i] w fun e w' => e = .returned (.tuple #[.int .u16 (flr n i xs).1, .int .i64 (flr n i xs).2]) ∧ Below w.heap.size w w' := by
  unfold flr
  split
  · rename_i h
    obtain ⟨j, rfl⟩ := Int.eq_ofNat_of_zero_le h.1
    rw [Int.toNat_natCast]
    exact fletcher_any A n c xs j w hx ho hc hm hn (by omega)
  · exact toBelow0 (fletcher_no A n c i w (by omega) (by omega))
theorem refFletcher_all (A : Option Addr) (n c : Nat) (xs : List Int) (i : Int) (w : World) (hx : Reads w w.heap.size 1 A n (u8s xs)) (ho : Oct xs) (hc : n ≤ c) (hm : c ≤ 9223372036854775807) (hn : n ≤ 1099511627776) :
    Calls Try.prog 8 #[.slice A n c, .int .i64 i] w fun e w' => e = .returned (.tuple #[.int .u16 (flr n i xs).1, .int .i64 (flr n i xs).2]) ∧ Below w.heap.size w w' := by
  unfold flr
  split
  · rename_i h
    obtain ⟨j, rfl⟩ := Int.eq_ofNat_of_zero_le h.1
    rw [Int.toNat_natCast]
    exact toBelow (refFletcher_any A n c xs j w _ hx ho hc hm hn (by omega))
  · exact toBelow0 (refFletcher_no A n c i w (by omega) (by omega))

set_option maxRecDepth 100000 in
set_option maxHeartbeats 1000000 in
theorem sumTells_walk (A : Option Addr) (n c : Nat) (xs : List Int) (i : Int) (w : World) (hx : Reads w w.heap.size 1 A n (u8s xs)) (ho : Oct xs) (hc : n ≤ c) (hm : c ≤ 9223372036854775807) (hi0 : -9223372036854775808 ≤ i) (hi1 : i ≤ 9223372036854775807) :
    Calls Try.prog 3 #[.slice A n c, .int .i64 i] w fun e w' => e = .returned (.bool true) ∧ Below w.heap.size w w' := by
  by_cases hbig : 65536 < n
  · go_enter Try.func3, Try.ntmps3
    go_wp2_with (go_at_call 5; refine (lives_any _).mono ?_; rintro e w' ⟨rfl, hb⟩)
    go_ret
    exact ⟨rfl, hb⟩
  · have hlx := Lib.hid hx.u8len
    go_enter Try.func3, Try.ntmps3
    go_wp2_with fail
    refine (wideBytes_any A n c xs w hx (by omega)).mono ?_
    rintro e w1 ⟨g, he, hg, hblk, hb1⟩
    rw [hlx.out] at he
    subst he
    have hlw : (u8s (wide xs)).length = n + 64 := by rw [u8s_length, wide_length, hlx.out]
    have HLW := Lib.hid hlw
    have hr1 : Reads w1 w1.heap.size 1 (some ⟨g, 0, none⟩) (n + 64) (u8s (wide xs)) := by
      have := hblk.reads (n := n + 64) (by omega)
      rw [List.take_of_length_le (by omega)] at this
      exact this.more hblk.lt
    have hin1 : Reads w1 w1.heap.size 1 (some ⟨g, 0, none⟩) n (u8s xs) := by
      have := hr1.u8pre (k := n) (by omega)
      have e := wide_take xs
      rw [hlx.out] at e
      rwa [e] at this
    clear hlw hblk
    have K1 := Below.refl w1.heap.size w1
    go_wp2_with fail
    refine (fletcher_all _ _ _ xs i _ (hin1.later K1) ho (by omega) (by omega) (by omega)).mono ?_
    rintro e v1 ⟨rfl, h1⟩
    have K2 := below_then K1 h1
    go_wp2_with fail
    refine (refFletcher_all _ _ _ xs i _ (hx.later (below_then hb1 K2)) ho (by omega) (by omega) (by omega)).mono ?_
    rintro e v2 ⟨rfl, h2⟩
    have K3 := below_then K2 h2
    go_wp2_with fail
    refine (toBelow (plain_any _ _ _ xs _ _ (hin1.later K3) ho (by omega) (by omega))).mono ?_
    rintro e v3 ⟨rfl, h3⟩
    have K4 := below_then K3 h3
    go_wp2_with fail
    refine (toBelow (refPlain_any _ _ _ xs _ _ (hx.later (below_then hb1 K4)) ho (by omega) (by omega) (by omega))).mono ?_
    rintro e v4 ⟨rfl, h4⟩
    have K5 := below_then K4 h4
    go_wp2_with fail
    refine (toBelow (right_any _ _ _ xs _ _ (hin1.later K5) ho (by omega) (by omega))).mono ?_
    rintro e v5 ⟨rfl, h5⟩
    have K6 := below_then K5 h5
    go_wp2_with fail
    refine (toBelow (refRight_any _ _ _ xs _ _ (hx.later (below_then hb1 K6)) ho (by omega) (by omega) (by omega))).mono ?_
    rintro e v6 ⟨rfl, h6⟩
    have K7 := below_then K6 h6
    go_wp2_with fail
    refine (prog_whole_any _ _ _ xs _ (hin1.later K7) ho (by omega) (by omega)).mono ?_
    rintro e v7 ⟨rfl, h7⟩
    have K8 := below_then K7 h7
    go_wp2_with fail
    refine (toBelow (refWhole_any _ _ _ xs _ _ (hx.later (below_then hb1 K8)) ho (by omega) (by omega) (by omega))).mono ?_
    rintro e v8 ⟨rfl, h8⟩
    have K9 := below_then K8 h8
    go_wp2_with fail
    refine (toBelow (eqBytes_any _ _ _ _ _ _ xs xs _ _ _ (hin1.later K9) (hx.later (below_then hb1 K9)) (by omega) (by omega))).mono ?_
    rintro e v9 ⟨rfl, h9⟩
    have K10 := below_then K9 h9
    have hdec : decide (xs = xs) = true := by simp
    go_wp2_with fail
    refine (toBelow (spareBytes_yes _ _ _ xs _ _ (hr1.later K10) hlx.out (by omega) (by omega))).mono ?_
    rintro e v10 ⟨rfl, h10⟩
    have K11 := below_then K10 h10
    go_wp2_with fail
    refine (lives_any _).mono ?_
    rintro e v11 ⟨rfl, h11⟩
    have K12 := below_then K11 h11
    go_wp2_with fail
    go_ret
    exact ⟨rfl, below_then hb1 K12⟩
end Go.Proofs.Ytdihdelojpnmoaa
