/-
  Fletcher and Whole of the program.
-/
import Derived.Test.YtljedcfpbdompaaDoorSumB2
import Derived.Test.YtljedcfpbdompaaDoorArrEq
namespace Go.Proofs.YtljedcfpbdompaaDoor
set_option linter.unusedVariables false
open Go.RowKit

theorem add_pre (g : Nat) (A : Option Addr) (n c : Nat) (xs p : List Int) (w : World) (B : Nat) (hx : Reads w B 1 A n (u8s xs)) (ho : Oct xs) (hc : n ≤ c) (hm : c ≤ 9223372036854775807)
    (hB0 : B ≤ w.heap.size) (hne : 0 < n → ∀ ad, A = some ad → ad.block ≠ g) (hb : Blk w g 150 #[.int .i64 (S0 p % 255), .int .i64 (S1 p % 255)]) :
    Calls Tryd.prog 60 #[.pointer (some ⟨g, 0, none⟩), .slice A n c] w fun e w' => e = .returned (.tuple #[]) ∧
      Blk w' g 150 #[.int .i64 (S0 (p ++ xs) % 255), .int .i64 (S1 (p ++ xs) % 255)] ∧ w.grownBy w' (some g) :=
  (add_any g A n c xs _ _ w B hx ho hc hm hB0 hne hb (by omega) (by omega)).mono fun e w' ⟨h1, h2, h3⟩ => ⟨h1, by rw [both0, both1 p xs hx.u8len] at h2; exact h2, h3⟩

theorem whole_any (v : Int) (w : World) (h0 : -1000000 ≤ v) (h1 : v ≤ 1000000) :
    Calls Tryd.prog 77 #[.int .i64 v] w fun e w' => e = .returned (.int .i64 (wh v)) ∧ w' = w := by
  have ht := tmod_low v
  have he : v % 255 = v.tmod 255 % 255 := by rw [tmod_255]; split <;> omega
  obtain ⟨t, ht'⟩ : ∃ t, v.tmod 255 = t := ⟨_, rfl⟩
  rw [ht'] at ht he
  obtain ⟨ht0, ht1⟩ := ht
  by_cases hz : v % 255 = 0
  · have hb : (t % 255 == 0) = true := by rw [← he]; simp [hz]
    have HZ := Lib.hid (wh_zero hz)
    clear hz he
    go_enter Tryd.func77, Tryd.ntmps77
    go_wp2
    go_ret
    exact ⟨by rw [HZ.out]; rfl, rfl⟩
  · have hb : (t % 255 == 0) = false := by rw [← he]; simp [hz]
    have HZ := Lib.hid (wh_other hz)
    have HE : Hid (v % 255 = (t + 255) % 255) := by show _ = _; omega
    clear hz he
    go_enter Tryd.func77, Tryd.ntmps77
    go_wp2
    go_ret
    exact ⟨by rw [HZ.out, HE.out]; rfl, rfl⟩

theorem both_eq (a b c d : Int) (w : World) : (binOp .eql 150 (.agg #[.int .i64 a, .int .i64 b]) (.agg #[.int .i64 c, .int .i64 d])).run Tryd.prog w = .ok (.bool (a == c && b == d)) w := by
  have h := run_eql_ints (P := Tryd.prog) w 150 3 2 .i64 Tryd.underlying150 Tryd.underlying3 (fun _ => by kernel_rfl) [a, b] [c, d] rfl rfl
  have e : ([a, b] == [c, d]) = (a == c && b == d) := by simp [List.cons_beq_cons]
  rw [e] at h
  exact h

theorem prog_whole_any (A : Option Addr) (n c : Nat) (xs : List Int) (w : World) (hx : Reads w w.heap.size 1 A n (u8s xs)) (ho : Oct xs) (hc : n ≤ c) (hm : c ≤ 9223372036854775807) :
    Calls Tryd.prog 51 #[.slice A n c] w fun e w' => e = .returned (.bool (S0 xs % 255 == 0 && S1 xs % 255 == 0)) ∧ Below w.heap.size w w' := by
  go_enter Tryd.func51, Tryd.ntmps51
  have hb0 : Blk (w.alloc (.cells #[.int .i64 0, .int .i64 0] 150)) w.heap.size 150 #[.int .i64 (S0 [] % 255), .int .i64 (S1 [] % 255)] := Blk.new _ _ _
  have haway := Lib.hid (hx.away (Nat.le_refl _))
  have heq := fun a b c d W => both_eq a b c d W
  go_wp2_with (go_at_call 60; refine (add_pre _ _ _ _ xs [] _ _ (hx.alloc (Nat.le_refl _) _) ho hc hm (by simp) haway.out hb0).mono ?_; rintro e w' ⟨rfl, hb, hg⟩; have q0 : w'.cell? ⟨w.heap.size, 0, none⟩ = some (.int .i64 (S0 xs % 255)) := hb.cell 0; have q1 : w'.cell? ⟨w.heap.size, 1, none⟩ = some (.int .i64 (S1 xs % 255)) := hb.cell 1)
  go_ret
  exact ⟨rfl, (Below.refl _ _).trans (((Below.refl _ _).alloc (Nat.le_refl _) _).grown hg (by simp) (fun k hk => by injection hk with hk; omega))⟩

theorem fletcher_no (A : Option Addr) (n c : Nat) (i : Int) (w : World) (h : i < 0 ∨ (n : Int) - 1 ≤ i) (hm : n ≤ 9223372036854775807) :
    Calls Tryd.prog 58 #[.slice A n c, .int .i64 i] w fun e w' => e = .returned (.tuple #[.int .u16 0, .int .i64 1]) ∧ w' = w := by
  by_cases h0 : i < 0
  · go_enter Tryd.func58, Tryd.ntmps58
    go_wp2
    go_ret2
    exact ⟨rfl, rfl⟩
  · have h1 : (n : Int) - 1 ≤ i := by omega
    go_enter Tryd.func58, Tryd.ntmps58
    go_wp2
    go_ret2
    exact ⟨rfl, rfl⟩

theorem Oct.zz : Oct [0, 0] := Oct.of_mem (by simp)

set_option maxRecDepth 100000 in
set_option maxHeartbeats 1000000 in
theorem fletcher_any (A : Option Addr) (n c : Nat) (xs : List Int) (i : Nat) (w : World) (hx : Reads w w.heap.size 1 A n (u8s xs)) (ho : Oct xs) (hc : n ≤ c) (hm : c ≤ 9223372036854775807) (hn : n ≤ 1099511627776) (hi : i + 2 ≤ n) :
    Calls Tryd.prog 58 #[.slice A n c, .int .i64 i] w fun e w' => e = .returned (.tuple #[.int .u16 (fl i xs), .int .i64 0]) ∧ Below w.heap.size w w' := by
  have hb0 : Blk (w.alloc (.cells #[.int .i64 0, .int .i64 0] 150)) w.heap.size 150 #[.int .i64 (S0 [] % 255), .int .i64 (S1 [] % 255)] := Blk.new _ _ _
  have haway := Lib.hid (hx.away (Nat.le_refl _))
  have hx1 := Lib.hid ((hx.alloc (Nat.le_refl _) (.cells #[.int .i64 0, .int .i64 0] 150)).u8pre (k := i) (by omega))
  go_enter Tryd.func58, Tryd.ntmps58
  go_wp2_with fail
  refine (add_pre _ _ _ _ (xs.take i) [] _ _ hx1.out (ho.take _) (by omega) (by omega) (by rw [World.size_alloc]; omega) (fun _ => haway.out (by omega)) hb0).mono ?_
  rintro e w1 ⟨rfl, hb1, hg1⟩
  have hs1 := hg1.size
  simp at hs1
  go_wp2_with fail
  have hr0 : Reads (w1.alloc (.cells #[.int .u8 0, .int .u8 0] 5)) (w1.heap.size + 1) 1 (some ⟨w1.heap.size, 0, none⟩) 2 (u8s [0, 0]) := Reads.lit _ _ _ rfl
  refine (add_pre _ _ _ _ [0, 0] _ _ _ hr0 Oct.zz (by omega) (by omega) (by rw [World.size_alloc]; omega) (fun _ ad had => by injection had with had; subst had; show w1.heap.size ≠ _; omega) (hb1.alloc _)).mono ?_
  rintro e w2 ⟨rfl, hb2, hg2⟩
  have hs2 := hg2.size
  simp at hs2
  have hgx : w.grownBy w2 (some w.heap.size) := World.grownBy.trans (only_alloc (World.grownBy.trans (only_alloc (World.grownBy.refl _ _) _) hg1) _) hg2
  have hx2 : Reads w2 w.heap.size 1 (if c = i + 2 then A else A.map (·.add (i + 2))) (n - (i + 2)) (u8s (xs.drop (i + 2))) :=
    (hx.only (Nat.le_refl _) (fun ad had => haway.out (by omega) ad had) hgx).u8cut (k := i + 2) (by omega) hc
  have hne2 : Hid (0 < n - (i + 2) → ∀ ad, (if c = i + 2 then A else A.map (·.add (i + 2))) = some ad → ad.block ≠ w.heap.size) := fun _ => map_block_if fun ad had => haway.out (by omega) ad had
  have hws : w.heap.size ≤ w2.heap.size := by omega
  go_wp2_with (go_at_call 60; refine (add_pre _ _ _ _ _ _ _ _ hx2 (ho.drop _) (by omega) (by omega) hws hne2.out hb2).mono ?_; rintro e w3 ⟨rfl, hb3, hg3⟩; clear hx2 hne2; generalize (if c = i + 2 then A else A.map (·.add (i + 2))) = A3)
  have e3 : [] ++ xs.take i ++ [0, 0] ++ xs.drop (i + 2) = holed i xs := rfl
  rw [e3] at hb3
  obtain ⟨c0, hc0⟩ : ∃ q, q = S0 (holed i xs) % 255 := ⟨_, rfl⟩
  obtain ⟨c1, hc1⟩ : ∃ q, q = S1 (holed i xs) % 255 := ⟨_, rfl⟩
  obtain ⟨N, hN⟩ : ∃ q, q = ((n : Int) - i) % 255 := ⟨_, rfl⟩
  have hfl : Hid (fl i xs = wh ((N - 1) * c0 - c1) * 256 + wh (c1 - N * c0)) := by
    show _ = _
    unfold fl
    rw [hc0, hc1, hN, hx.u8len]
  rw [← hc0, ← hc1] at hb3
  have c00 : 0 ≤ c0 ∧ c0 ≤ 254 := by omega
  have c11 : 0 ≤ c1 ∧ c1 ≤ 254 := by omega
  have NN : 0 ≤ N ∧ N ≤ 254 := by omega
  rw [← hN]
  clear hc0 hc1 hN
  have q0 : w3.cell? ⟨w.heap.size, 0, none⟩ = some (.int .i64 c0) := hb3.cell 0
  have q1 : w3.cell? ⟨w.heap.size, 1, none⟩ = some (.int .i64 c1) := hb3.cell 1
  have p1 : -254 ≤ (N - 1) * c0 ∧ (N - 1) * c0 ≤ 64516 := prod_bound (N - 1) c0 (by omega) (by omega) (by omega) (by omega)
  have p2 : 0 ≤ N * c0 ∧ N * c0 ≤ 64516 := prod_bound0 N c0 (by omega) (by omega) (by omega) (by omega)
  obtain ⟨p10, p11⟩ := p1
  obtain ⟨p20, p21⟩ := p2
  obtain ⟨c000, c001⟩ := c00
  obtain ⟨c110, c111⟩ := c11
  obtain ⟨N0, N1⟩ := NN
  have v1 : IntKind.i64.wrap ((N - 1) * c0) = (N - 1) * c0 := IntWalk.i64_in _ (by omega)
  have v2 : IntKind.i64.wrap (N - 1) = N - 1 := IntWalk.i64_in _ (by omega)
  have v3 : IntKind.i64.wrap ((N - 1) * c0 - c1) = (N - 1) * c0 - c1 := IntWalk.i64_in _ (by omega)
  have v4 : IntKind.i64.wrap (N * c0) = N * c0 := IntWalk.i64_in _ (by omega)
  have v5 : IntKind.i64.wrap (c1 - N * c0) = c1 - N * c0 := IntWalk.i64_in _ (by omega)
  go_quiet ((go_at_call 77; exact Calls.quiet_of_same (whole_any _ _ (by omega) (by omega))))
  have hX := wh_range ((N - 1) * c0 - c1)
  have hY := wh_range (c1 - N * c0)
  clear v1 v2 v3 v4 v5 p10 p11 p20 p21
  generalize wh ((N - 1) * c0 - c1) = X at *
  generalize wh (c1 - N * c0) = Y at *
  obtain ⟨X0, X1⟩ := hX
  obtain ⟨Y0, Y1⟩ := hY
  have v6 := i64_or_8 X Y (by omega) (by omega) (by omega) (by omega)
  have v7 : IntKind.i64.wrap (X * 256) = X * 256 := IntWalk.i64_in _ (by omega)
  go_wp2
  go_ret2
  refine ⟨?_, ?_⟩
  · rw [hfl.out]
    rfl
  · exact below_drewN ((Below.refl _ _).grown (World.grownBy.trans hgx hg3) (Nat.le_refl _) (fun k hk => by injection hk with hk; omega)) _
end Go.Proofs.YtljedcfpbdompaaDoor
