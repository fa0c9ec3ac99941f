/-
  Same of both, 'lives', and the law DigestSame, walked.
-/
import Derived.Test.YtkdcklkeehiekaaDig3
import Derived.Test.YtkdcklkeehiekaaArrEq
import Derived.Lib.SlBytesConst
namespace Go.Proofs.Ytkdcklkeehiekaa
set_option linter.unusedVariables false
open Go.RowKit

theorem u8_or_xor {u x y : Int} (u0 : 0 ≤ u) (u1 : u ≤ 255) (x0 : 0 ≤ x) (x1 : x ≤ 255) (y0 : 0 ≤ y) (y1 : y ≤ 255) :
    0 ≤ bits .or .u8 u (bits .xor .u8 x y) ∧ bits .or .u8 u (bits .xor .u8 x y) ≤ 255 ∧ (bits .or .u8 u (bits .xor .u8 x y) = 0 ↔ u = 0 ∧ x = y) := by
  obtain ⟨a, rfl⟩ := Int.eq_ofNat_of_zero_le u0
  obtain ⟨b, rfl⟩ := Int.eq_ofNat_of_zero_le x0
  obtain ⟨c, rfl⟩ := Int.eq_ofNat_of_zero_le y0
  have hx : b ^^^ c < 2 ^ 8 := Nat.xor_lt_two_pow (by omega) (by omega)
  have ho : a ||| (b ^^^ c) < 2 ^ 8 := Nat.or_lt_two_pow (by omega) hx
  rw [u8_xor_nat b c (by omega) (by omega), u8_or_nat a _ (by omega) (by omega)]
  refine ⟨by omega, by omega, ?_⟩
  have e : a ||| (b ^^^ c) = 0 ↔ a = 0 ∧ b = c := by
    rw [Nat.or_eq_zero_iff]
    constructor
    · rintro ⟨h, h'⟩
      have := congrArg (· ^^^ c) h'
      simp [Nat.xor_assoc] at this
      exact ⟨h, this⟩
    · rintro ⟨h, rfl⟩
      exact ⟨h, Nat.xor_self _⟩
  constructor
  · intro h
    have := e.1 (by omega)
    omega
  · intro h
    have := e.2 (by omega)
    omega
theorem take_iff {xs ys : List Int} {k : Nat} {x y u v : Int} (h1 : xs[k]? = some x) (h2 : ys[k]? = some y) (hu : u = 0 ↔ xs.take k = ys.take k) (hv : v = 0 ↔ u = 0 ∧ x = y) : v = 0 ↔ xs.take (k + 1) = ys.take (k + 1) := by
  rw [hv, hu, List.take_add_one, List.take_add_one, h1, h2]
  have hl : (xs.take k).length = (ys.take k).length := by
    have a : k < xs.length := by
      rcases Nat.lt_or_ge k xs.length with h | h
      · exact h
      · rw [List.getElem?_eq_none h] at h1; cases h1
    have b : k < ys.length := by
      rcases Nat.lt_or_ge k ys.length with h | h
      · exact h
      · rw [List.getElem?_eq_none h] at h2; cases h2
    simp; omega
  constructor
  · rintro ⟨h, rfl⟩
    rw [h]
  · intro h
    have := List.append_inj h hl
    exact ⟨this.1, by simpa using this.2⟩

set_option maxHeartbeats 400000 in
theorem same_any (A A' : Option Addr) (n c n' c' : Nat) (xs ys : List Int) (w : World) (B B' : Nat) (hx : Reads w B 1 A n (u8s xs)) (hy : Reads w B' 1 A' n' (u8s ys)) (hox : Oct xs) (hoy : Oct ys) (hn : n ≤ 9223372036854775807) (hn' : n' ≤ 9223372036854775807) :
    Calls Try.prog 8 #[.slice A n c, .slice A' n' c'] w fun e w' => e = .returned (.bool (decide (xs = ys))) ∧ ∃ k, w' = w.drewN k := by
  have hlx := hx.u8len
  have hly := hy.u8len
  by_cases hl : n = n'
  · obtain rfl := hl
    have Hlx := Lib.hid hlx
    have Hly := Lib.hid hly
    clear hlx hly
    go_enter Try.func8, Try.ntmps8
    go_wp2
    go_loopw [5, 14] (fun u i wr => ∃ (k : Nat) (v : Int), i = .int .i64 k ∧ u = .int .u8 v ∧ k ≤ n ∧ 0 ≤ v ∧ v ≤ 255 ∧ Hid (v = 0 ↔ xs.take k = ys.take k) ∧ ∃ d, wr = w.drewN d) (fun _ i _ => n - (intOf i).toNat)
    case atStart => exact ⟨0, 0, rfl, rfl, by omega, by omega, by omega, by simp [Hid], 0, rfl⟩
    case round =>
      obtain ⟨k, v, rfl, rfl, hk, hv0, hv1, hv, d, rfl⟩ := hrel
      by_cases hlt : k < n
      · obtain ⟨a, x, rfl, _, hx1, h1⟩ := hx.u8at hlt
        obtain ⟨a', y, rfl, _, hy1, h2⟩ := hy.u8at hlt
        obtain ⟨x0, x1⟩ := hox _ _ hx1.out
        obtain ⟨y0, y1⟩ := hoy _ _ hy1.out
        have hb := u8_or_xor hv0 hv1 x0 x1 y0 y1
        have HB := Lib.hid hb
        clear hb
        go_wp2
        go_quiet (fail)
        go_wp2
        go_roundw
        case rel => exact ⟨k + 1, _, by go_num, rfl, by omega, HB.out.1, HB.out.2.1, take_iff hx1.out hy1.out hv.out HB.out.2.2, _, rfl⟩
        case measure => simp [intOf]; omega
      · obtain rfl : n = k := by omega
        have heq : Hid ((v == 0) = decide (xs = ys)) := by
          have := hv.out
          rw [List.take_of_length_le (by rw [Hlx.out]; omega), List.take_of_length_le (by rw [Hly.out]; omega)] at this
          show _ = _
          rw [Bool.eq_iff_iff]
          simp [this]
        clear Hlx Hly
        go_wp2
        go_ret
        exact ⟨by rw [← heq.out]; rfl, _, rfl⟩
  · have hb : ((n : Int) != (n' : Int)) = true := by simp; omega
    have hne : xs ≠ ys := by rintro rfl; omega
    clear hlx hly
    go_enter Try.func8, Try.ntmps8
    go_wp2
    go_ret
    exact ⟨by simp [hne], 0, rfl⟩

set_option maxHeartbeats 400000 in
theorem refSame_any (A A' : Option Addr) (n c n' c' : Nat) (xs ys : List Int) (w : World) (B B' : Nat)
   (hx : Reads w B 1 A n (u8s xs)) (hy : Reads w B' 1 A' n' (u8s ys)) (hn : n ≤ 9223372036854775807) (hn' : n' ≤ 9223372036854775807) :
    Calls Try.prog 9 #[.slice A n c, .slice A' n' c'] w fun e w' => e = .returned (.bool (decide (xs = ys))) ∧ ∃ k, w' = w.drewN k := by
  have hlx := hx.u8len
  have hly := hy.u8len
  by_cases hl : n = n'
  · obtain rfl := hl
    have Hlx := Lib.hid hlx
    have Hly := Lib.hid hly
    clear hlx hly
    go_enter Try.func9, Try.ntmps9
    go_wp2
    go_loopw [5] (fun i wr => ∃ k : Nat, i = .int .i64 k ∧ k ≤ n ∧ Hid (xs.take k = ys.take k) ∧ ∃ d, wr = w.drewN d) (fun i _ => n - (intOf i).toNat)
    case atStart => exact ⟨0, rfl, by omega, rfl, 0, rfl⟩
    case round =>
      obtain ⟨k, rfl, hk, he, d, rfl⟩ := hrel
      by_cases hlt : k < n
      · obtain ⟨a, x, rfl, _, hx1, h1⟩ := hx.u8at hlt
        obtain ⟨a', y, rfl, _, hy1, h2⟩ := hy.u8at hlt
        by_cases hxy : x = y
        · have hb : (x != y) = false := by simp [hxy]
          have Hxy := Lib.hid hxy
          clear hxy
          go_wp2
          go_quiet (fail)
          go_wp2
          go_roundw
          case rel => exact ⟨k + 1, by go_num, by omega, take_snoc2 hx1 hy1 Hxy.out he, _, rfl⟩
          case measure => simp [intOf]; omega
        · have hb : (x != y) = true := by simp [hxy]
          have hne := u8s_nth_ne hx1 hy1 hxy
          clear hxy
          go_wp2
          go_quiet (fail)
          go_wp2
          go_ret
          exact ⟨by simp [hne], _, World.drewN_drewN ..⟩
      · obtain rfl : n = k := by omega
        have heq : xs = ys := by have := he.out; rwa [List.take_of_length_le (by rw [Hlx.out]; omega), List.take_of_length_le (by rw [Hly.out]; omega)] at this
        clear Hlx Hly he
        go_wp2
        go_ret
        exact ⟨by simp [heq], _, rfl⟩
  · have hb : ((n : Int) != (n' : Int)) = true := by simp; omega
    have hne : xs ≠ ys := by rintro rfl; omega
    clear hlx hly
    go_enter Try.func9, Try.ntmps9
    go_wp2
    go_ret
    exact ⟨by simp [hne], 0, rfl⟩

theorem md_abc : md [97, 98, 99] = [144, 1, 80, 152, 60, 210, 79, 176, 214, 150, 63, 125, 40, 225, 127, 114] := by decide +kernel

theorem oct_of (zs : List Int) (h : (zs.all fun x => decide (0 ≤ x) && decide (x ≤ 255)) = true) : Oct zs := Oct.of_mem fun x hx => by
  have := List.all_eq_true.1 h x hx
  simpa using this

/-- The list abc's digest, as cells. -/
def abc16 : List Int := [144, 1, 80, 152, 60, 210, 79, 176, 214, 150, 63, 125, 40, 225, 127, 114]
theorem Reads.litm (w : World) (xs : List Value) (t : TypeId) (fz : Nat × Nat) {n : Nat} (hn : xs.length = n) : Reads (w.alloc (.cells xs.toArray t fz)) (w.alloc (.cells xs.toArray t fz)).heap.size 1 (some ⟨w.heap.size, 0, none⟩) n xs :=
  ⟨by omega, fun _ => ⟨_, rfl, by rw [World.size_alloc]; exact Nat.lt_succ_self _, fun j u hu => by
    rw [add_none, Nat.zero_add, World.cell?_alloc_mark]
    simpa using hu⟩⟩
theorem md_len (xs : List Int) : (md xs).length = 16 := by unfold md; exact outOf_length _
theorem arr16_eq (xs ys : List Int) (hx : xs.length = 16) (hy : ys.length = 16) (w : World) : (binOp .eql 27 (.agg (u8s xs).toArray) (.agg (u8s ys).toArray)).run Try.prog w = .ok (.bool (xs == ys)) w :=
  run_eql_ints (P := Try.prog) w 27 5 16 .u8 Try.underlying27 Try.underlying5 (fun _ => by kernel_rfl) xs ys hx hy

set_option maxRecDepth 100000 in
set_option maxHeartbeats 1000000 in
theorem lives_any (w : World) : Calls Try.prog 6 #[] w fun e w' => e = .returned (.bool true) ∧ Below w.heap.size w w' := by
  have c1 := fun W : World => of_any (some ⟨W.heap.size, 0, none⟩) 3 3 [97, 98, 99] _ (Reads.litm W (u8s [97, 98, 99]) 5 (3, 4) rfl) (oct_of _ rfl) (by omega) (by omega) (by omega)
  rw [md_abc] at c1
  have C1 := Lib.hid c1
  clear c1
  have c2 := fun (W : World) => toBelow (same_any (some ⟨W.heap.size, 0, none⟩) (some ⟨W.heap.size + 1, 0, none⟩) 1 1 1 1 [1] [1] ((W.alloc (.cells (u8s [1]).toArray 5)).alloc (.cells (u8s [1]).toArray 5)) _ _ ((Reads.lit W (u8s [1]) 5 rfl).alloc (by rw [World.size_alloc]; omega) _) (by have h := Reads.lit (W.alloc (.cells (u8s [1]).toArray 5)) (u8s [1]) 5 (n := 1) rfl; rw [World.size_alloc] at h; exact h) (oct_of _ rfl) (oct_of _ rfl) (by omega) (by omega))
  have c3 := fun (W : World) => toBelow (same_any none (some ⟨W.heap.size, 0, none⟩) 0 0 1 1 [] [0] (W.alloc (.cells (u8s [0]).toArray 5)) 0 _ Reads.none_ (Reads.lit W (u8s [0]) 5 rfl) (oct_of _ rfl) (oct_of _ rfl) (by omega) (by omega))
  have d2 : decide (([1] : List Int) = [1]) = true := by decide
  have d3 : decide (([] : List Int) = [0]) = false := by decide
  simp only [d2, d3] at c2 c3
  have C2 := Lib.hid c2
  have C3 := Lib.hid c3
  clear c2 c3 d2 d3
  have kc := fun (w : World) (C : Array Value) (n c : Nat) => Lib.run_convert_bytes_const (P := Try.prog) w 22 5 C n c Try.underlying22 Try.underlying5
  go_enter Try.func6, Try.ntmps6
  go_wp2_with fail
  refine (C1.out w).mono ?_
  rintro e w1 ⟨rfl, hb1⟩
  have k1 := below_lit (Below.refl _ w) _ hb1
  go_wp2_with (first
    | (refine wpList_store_row rfl 27 _ _ rfl w1.heap.size (u8s abc16).toArray rfl rfl 27 _ (heap_alloc_new w1 _) (by kernel_rfl) (by kernel_rfl) (by kernel_rfl) ?_; rw [World.setRow_alloc_new])
    | (refine wpList_load_row (o := ⟨some 5, _, _, _, _, _⟩) rfl 27 _ rfl w1.heap.size rfl 27 (u8s abc16).toArray (0, 0) _ (heap_alloc_new w1 _) Try.underlying27 rfl (by kernel_rfl) ?_)
    | (refine wpList_value (o := ⟨some 6, _, _, _, _, _⟩) rfl (.agg (u8s abc16).toArray) (by kernel_rfl) ?_)
    | (refine wpList_value (o := ⟨some 7, _, _, _, _, _⟩) rfl (.bool true) (by kernel_rfl) ?_))
  have k1' := k1.alloc k1.size (.cells (u8s abc16).toArray 27)
  have e1 : w1.heap.size + 1 = (w1.alloc (.cells (u8s abc16).toArray 27)).heap.size := (World.size_alloc ..).symm
  rw [e1]
  generalize w1.alloc (.cells (u8s abc16).toArray 27) = w2 at *
  clear e1
  refine (C2.out w2).mono ?_
  rintro e w3 ⟨rfl, hb3⟩
  have k3 := below_then ((k1'.alloc k1'.size (.cells (u8s [1]).toArray 5)).alloc (by rw [World.size_alloc]; have := k1'.size; omega) (.cells (u8s [1]).toArray 5)) hb3
  go_wp2_with fail
  refine (C3.out w3).mono ?_
  rintro e w4 ⟨rfl, hb4⟩
  have k4 := below_lit k3 _ hb4
  go_wp2_with fail
  go_ret
  exact ⟨rfl, k4⟩

/-- What is known behind WideBytes. -/
theorem wide_reads {w w1 : World} {xs : List Int} {n : Nat} {e : Ending} (hl : xs.length = n) (h : WideAt w w1 xs e) :
    ∃ g, e = .returned (.slice (some ⟨g, 0, none⟩) n (n + 64)) ∧ Reads w1 w1.heap.size 1 (some ⟨g, 0, none⟩) (n + 64) (u8s (wide xs)) ∧ Reads w1 w1.heap.size 1 (some ⟨g, 0, none⟩) n (u8s xs) ∧ Below w.heap.size w w1 := by
  obtain ⟨g, he, hg, hblk, hb1⟩ := h
  subst hl
  have hlw : (u8s (wide xs)).length = xs.length + 64 := by rw [u8s_length, wide_length]
  have hr1 : Reads w1 w1.heap.size 1 (some ⟨g, 0, none⟩) (xs.length + 64) (u8s (wide xs)) := by
    have := hblk.reads (n := xs.length + 64) (by omega)
    rw [List.take_of_length_le (by omega)] at this
    exact this.more hblk.lt
  refine ⟨g, he, hr1, ?_, hb1⟩
  have := hr1.u8pre (k := xs.length) (by omega)
  rwa [wide_take xs] at this

set_option maxRecDepth 100000 in
set_option maxHeartbeats 1000000 in
theorem digestSame_walk (A A' : Option Addr) (n c n' c' : Nat) (xs ys : List Int) (w : World) (hx : Reads w w.heap.size 1 A n (u8s xs)) (hy : Reads w w.heap.size 1 A' n' (u8s ys)) (hox : Oct xs) (hoy : Oct ys)
    (hc : n ≤ c) (hm : c ≤ 9223372036854775807) (hc' : n' ≤ c') (hm' : c' ≤ 9223372036854775807) :
    Calls Try.prog 3 #[.slice A n c, .slice A' n' c'] w fun e w' => e = .returned (.bool true) ∧ Below w.heap.size w w' := by
  by_cases hbig : 1048576 < n
  · go_enter Try.func3, Try.ntmps3
    go_wp2_with (go_at_call 6; refine (lives_any _).mono ?_; rintro e w' ⟨rfl, hb⟩)
    go_ret
    exact ⟨rfl, hb⟩
  by_cases hbig' : 1048576 < n'
  · go_enter Try.func3, Try.ntmps3
    go_wp2_with (go_at_call 6; refine (lives_any _).mono ?_; rintro e w' ⟨rfl, hb⟩)
    go_ret
    exact ⟨rfl, hb⟩
  have hlx := Lib.hid hx.u8len
  have hly := Lib.hid hy.u8len
  go_enter Try.func3, Try.ntmps3
  go_wp2_with fail
  refine (wideBytes_any A n c xs w hx (by omega)).mono ?_
  intro e w1 hw1
  obtain ⟨g1, he1, hW1, hX1, hb1⟩ := wide_reads hlx.out hw1
  subst he1
  clear hw1
  go_wp2_with fail
  refine (wideBytes_any A' n' c' ys w1 (hy.later hb1) (by omega)).mono ?_
  intro e w2 hw2
  obtain ⟨g2, he2, hW2, hY2, hb2⟩ := wide_reads hly.out hw2
  subst he2
  clear hw2
  have K1 := Below.refl w2.heap.size w2
  have hx2 := hx.later (below_then hb1 hb2)
  have hy2 := hy.later (below_then hb1 hb2)
  have hX2 := hX1.later hb2
  have hW12 := hW1.later hb2
  go_wp2_with fail
  have cq := toBelow (same_any _ _ _ (n + 64) _ (n' + 64) xs ys _ _ _ (hX2.later K1) (hY2.later K1) hox hoy (by omega) (by omega))
  refine cq.mono ?_
  clear cq
  rintro e v1 ⟨rfl, h1⟩
  have K2 := below_then K1 h1
  go_wp2_with fail
  have cq := toBelow (refSame_any _ _ _ c _ c' xs ys _ _ _ (hx2.later K2) (hy2.later K2) (by omega) (by omega))
  refine cq.mono ?_
  clear cq
  rintro e v2 ⟨rfl, h2⟩
  have K3 := below_then K2 h2
  go_wp2_with fail
  have cq := toBelow (same_any _ _ _ (n + 64) _ (n + 64) xs xs _ _ _ (hX2.later K3) (hX2.later K3) hox hox (by omega) (by omega))
  rw [decide_eq_true (rfl : xs = xs)] at cq
  refine cq.mono ?_
  clear cq
  rintro e v3 ⟨rfl, h3⟩
  have K4 := below_then K3 h3
  go_wp2_with fail
  have cq := toBelow (eqBytes_any _ _ _ (n + 64) _ c xs xs _ _ _ (hX2.later K4) (hx2.later K4) (by omega) (by omega))
  rw [decide_eq_true (rfl : xs = xs)] at cq
  refine cq.mono ?_
  clear cq
  rintro e v4 ⟨rfl, h4⟩
  have K5 := below_then K4 h4
  go_wp2_with fail
  have cq := toBelow (eqBytes_any _ _ _ (n' + 64) _ c' ys ys _ _ _ (hY2.later K5) (hy2.later K5) (by omega) (by omega))
  rw [decide_eq_true (rfl : ys = ys)] at cq
  refine cq.mono ?_
  clear cq
  rintro e v5 ⟨rfl, h5⟩
  have K6 := below_then K5 h5
  go_wp2_with fail
  have cq := toBelow (spareBytes_yes _ _ (n + 64) xs _ _ (hW12.later K6) hlx.out (by omega) (by omega))
  refine cq.mono ?_
  clear cq
  rintro e v6 ⟨rfl, h6⟩
  have K7 := below_then K6 h6
  go_wp2_with fail
  have cq := lives_any v6
  refine cq.mono ?_
  clear cq
  rintro e v7 ⟨rfl, h7⟩
  have K8 := below_then K7 h7
  go_wp2_with fail
  go_ret
  exact ⟨rfl, below_then (below_then hb1 hb2) K8⟩
end Go.Proofs.Ytkdcklkeehiekaa
