/-
  octet: Read, and the reader's Number, Err, Left, At, walked.
-/
import Derived.Test.YtbkejlalbjomkaaOctA2
namespace Go.Proofs.Ytbkejlalbjomkaa
set_option linter.unusedVariables false
open Go.RowKit

theorem be_snoc (ys : List Int) (c : Int) : be (ys ++ [c]) = be ys * 256 + c := by simp [be, List.foldl_append]
theorem be_take {ys : List Int} (h : Oct ys) (j : Nat) : 0 ≤ be (ys.take j) ∧ be (ys.take j) < 256 ^ j := by
  induction j with
  | zero => simp [be]
  | succ j ih =>
    rw [Int.pow_succ]
    rw [List.take_add_one]
    rcases hx : ys[j]? with _ | x
    · simp only [Option.toList_none, List.append_nil]
      omega
    · have := h j x hx
      simp only [Option.toList_some]
      rw [be_snoc]
      omega

/-- Read: a reader of a copy. -/
theorem read_any (A : Option Addr) (n c : Nat) (xs : List Int) (w : World) (hx : Reads w w.heap.size 1 A n (u8s xs)) (hn : n ≤ 140737488355328) :
    Calls Try.prog 50 #[.slice A n c] w fun e w' => ∃ g A' c', e = .returned (.pointer (some ⟨g, 0, none⟩)) ∧ RS w' g A' n c' ⟨xs, 0, 0⟩ ∧ w.heap.size ≤ g ∧ Below w.heap.size w w' := by
  have hl := Lib.hid hx.u8len
  go_enter Try.func50, Try.ntmps50
  go_wp2_with (go_at_call 73; refine (clone_any A n c xs w hx hn).mono ?_; rintro e w1 ⟨u, rfl, ho, hb⟩; have hs := own_shape ho; obtain ⟨A1, c1, hu, h1, h2, h3⟩ := hs; rw [hl.out] at hu; subst hu; have HO := Lib.hid (And.intro h1 (And.intro h2 (And.intro h3 hb))); clear ho hb h1 h2 h3)
  go_ret
  rw [hl.out] at HO
  obtain ⟨h1, h2, h3, hb⟩ := HO.out
  exact ⟨_, A1, c1, rfl, ⟨Blk.new _ _ _, h3.later ((Below.refl _ _).alloc (Nat.le_refl _) _), Nat.zero_le _, h1, h2, fun h0 => h3.ne_blk (Nat.le_refl _) h0⟩, hb.size, hb.alloc hb.size _⟩

theorem err_any (w : World) (g : Nat) (A : Option Addr) (n c : Nat) (s : Rd) (h : RS w g A n c s) :
    Calls Try.prog 89 #[.pointer (some ⟨g, 0, none⟩)] w fun e w' => e = .returned (.int .i64 s.e) ∧ w = w' := by
  have c2 : w.cell? ⟨g, 2, none⟩ = some (.int .i64 s.e) := by rw [h.blk.cell]; rfl
  have H := Lib.hid (none_any w g A n c s h)
  clear h
  go_enter Try.func89, Try.ntmps89
  go_wp2_with (go_at_call 98; refine H.out.mono ?_; rintro e w' ⟨rfl, rfl⟩)
  go_ret
  exact ⟨rfl, rfl⟩
def Rd.left (s : Rd) : Int := if s.e = 0 then (s.xs.length : Int) - s.pos else 0
theorem left_any (w : World) (g : Nat) (A : Option Addr) (n c : Nat) (s : Rd) (h : RS w g A n c s) :
    Calls Try.prog 86 #[.pointer (some ⟨g, 0, none⟩)] w fun e w' => e = .returned (.int .i64 s.left) ∧ ∃ k, w' = w.drewN k := by
  have c0 : w.cell? ⟨g, 0, none⟩ = some (.slice A n c) := by rw [h.blk.cell]; rfl
  have c1 : w.cell? ⟨g, 1, none⟩ = some (.int .i64 (s.pos : Int)) := by rw [h.blk.cell]; rfl
  have c2 : w.cell? ⟨g, 2, none⟩ = some (.int .i64 s.e) := by rw [h.blk.cell]; rfl
  have H := Lib.hid (none_any w g A n c s h)
  have hle := h.le
  have hcap := h.cap
  have hmax := h.max
  have hl := h.len
  by_cases he : s.e = 0
  · have e : Hid (s.left = (n : Int) - s.pos) := by show _ = _; rw [Rd.left, if_pos he, hl]
    rw [he] at c2
    clear h he hl
    go_enter Try.func86, Try.ntmps86
    go_wp2_with (go_at_call 98; refine H.out.mono ?_; rintro e w' ⟨rfl, rfl⟩)
    go_quiet (fail)
    go_wp2
    go_ret
    exact ⟨by rw [e.out]; rfl, _, rfl⟩
  · have e : Hid (s.left = 0) := by show _ = _; rw [Rd.left, if_neg he]
    have hb : (s.e != 0) = true := by simp [he]
    clear h he hl
    go_enter Try.func86, Try.ntmps86
    go_wp2_with (go_at_call 98; refine H.out.mono ?_; rintro e w' ⟨rfl, rfl⟩)
    go_ret
    exact ⟨by rw [e.out]; rfl, 0, rfl⟩

/-- What Number leaves. -/
def RNumPost (w w' : World) (g : Nat) (A : Option Addr) (n c : Nat) (s : Rd) (k : Int) (e : Ending) : Prop :=
  e = .returned (.int .u32 (s.num k).1) ∧ RS w' g A n c (s.num k).2 ∧ Kept (fun i => i = g) w w'
theorem next_len {s s' : Rd} {k : Int} {ys : List Int} (h : s.next k = (some ys, s')) : ys.length = k.toNat := by
  unfold Rd.next at h
  split at h
  · split at h
    · cases h
    · split at h
      · cases h
      · injection h with h _
        injection h with h
        rw [← h, List.length_take, List.length_drop]
        omega
  · cases h
theorem next_oct {s s' : Rd} {k : Int} {ys : List Int} (h : s.next k = (some ys, s')) (ho : Oct s.xs) : Oct ys := by
  unfold Rd.next at h
  split at h
  · split at h
    · cases h
    · split at h
      · cases h
      · injection h with h _
        injection h with h
        rw [← h]
        exact (ho.drop _).take _
  · cases h

/-- What 'next' hands back, in one form. -/
theorem next_form {w w1 : World} {g n c : Nat} {A : Option Addr} {s : Rd} {k : Int} {e : Ending} (h : NextPost w w1 g A n c s k e) (ho : Oct s.xs) :
    ∃ A' m b ys, e = .returned (.tuple #[.slice A' m m, .bool b]) ∧ Reads w1 w1.heap.size 1 A' m (u8s ys) ∧ (m : Int) ≤ max k 0 ∧ be ys = beOf (s.next k).1 ∧ Oct ys ∧ RS w1 g A n c (s.next k).2 ∧ Kept (fun i => i = g) w w1 := by
  unfold NextPost at h
  obtain ⟨h1, h2, h3⟩ := h
  rcases hs : s.next k with ⟨_ | ys, s'⟩
  · rw [hs] at h3 h1
    exact ⟨none, 0, false, [], h3, Reads.none_, by omega, rfl, fun i x hx => by simp at hx, h1, h2⟩
  · rw [hs] at h3 h1
    obtain ⟨A', he, hr, _⟩ := h3
    exact ⟨A', k.toNat, true, ys, he, hr, by omega, rfl, next_oct hs ho, h1, h2⟩

set_option maxRecDepth 100000 in
set_option maxHeartbeats 1000000 in
theorem rnum_any (w : World) (g : Nat) (A : Option Addr) (n c : Nat) (s : Rd) (k : Int) (h : RS w g A n c s) (ho : Oct s.xs) (hk0 : -9223372036854775808 ≤ k) (hk1 : k ≤ 9223372036854775807) :
    Calls Try.prog 51 #[.pointer (some ⟨g, 0, none⟩), .int .i64 k] w fun e w' => RNumPost w w' g A n c s k e := by
  obtain ⟨K, hK⟩ : ∃ K, K = if k < 1 ∨ 4 < k then -1 else k := ⟨_, rfl⟩
  have hp : Hid (s.num k = (beOf (s.next K).1, (s.next K).2)) := by show _ = _; rw [Rd.num, ← hK]
  have HN := Lib.hid (next_any w g A n c s K h (by split at hK <;> omega) (by split at hK <;> omega))
  have HKb : Hid (K ≤ 4) := by show _ ≤ _; split at hK <;> omega
  have HO := Lib.hid ho
  clear h
  have hc : k < 1 ∨ 4 < k ∨ (1 ≤ k ∧ k ≤ 4) := by omega
  rcases hc with hc | hc | ⟨hc, hc'⟩
  · rw [if_pos (.inl hc)] at hK
    subst hK
    go_enter Try.func51, Try.ntmps51
    go_wp2_with fail
    refine HN.out.mono ?_
    intro e w1 hq
    obtain ⟨A', m, b, ys, rfl, hr, hm, hbe, hoy, hrs, hkp⟩ := next_form hq ho
    have HR := Lib.hid hr
    have HL := Lib.hid hr.u8len
    have HF := Lib.hid (And.intro hbe (And.intro hrs hkp))
    have hm4 : m ≤ 4 := by omega
    clear hq hr hbe hrs hkp hm ho
    go_wp2
    go_loop [7, 24] (fun v i => ∃ j : Nat, j ≤ m ∧ i = .int .i64 j ∧ v = .int .u32 (be (ys.take j))) (fun _ i => m - (intOf i).toNat)
    case atStart => exact ⟨0, by omega, rfl, rfl⟩
    case round =>
      obtain ⟨j, hj, rfl, rfl⟩ := hrel
      have hv := be_take hoy j
      by_cases hlt : j < m
      · obtain ⟨ad, x, rfl, _, hx1, hc1⟩ := HR.out.u8at hlt
        have hx := hoy j x hx1.out
        have hv2 : be (ys.take j) ≤ 16777215 := by
          have : (256 : Int) ^ j ≤ 16777216 := by
            have h3 : j = 0 ∨ j = 1 ∨ j = 2 ∨ j = 3 := by omega
            rcases h3 with rfl | rfl | rfl | rfl <;> decide
          omega
        have HT : Hid (be (ys.take (j + 1)) = be (ys.take j) * 256 + x) := by
          show _ = _
          rw [List.take_add_one, hx1.out]
          exact be_snoc _ _
        obtain ⟨hv0, _⟩ := hv
        generalize be (ys.take j) = V at *
        have hor := u32_or_8 V x hv0 hv2 hx.1 hx.2
        go_wp2
        go_round
        case rel => exact ⟨j + 1, by omega, by go_num, by rw [HT.out]⟩
        case measure => simp [intOf]; omega
      · obtain rfl : j = m := by omega
        go_wp2
        go_ret
        refine ⟨?_, ?_, HF.out.2.2⟩
        · rw [hp.out, ← HF.out.1, List.take_of_length_le (by rw [HL.out]; exact Nat.le_refl _)]
          rfl
        · rw [hp.out]; exact HF.out.2.1
  · rw [if_pos (.inr hc)] at hK
    subst hK
    go_enter Try.func51, Try.ntmps51
    go_wp2_with fail
    refine HN.out.mono ?_
    intro e w1 hq
    obtain ⟨A', m, b, ys, rfl, hr, hm, hbe, hoy, hrs, hkp⟩ := next_form hq ho
    have HR := Lib.hid hr
    have HL := Lib.hid hr.u8len
    have HF := Lib.hid (And.intro hbe (And.intro hrs hkp))
    have hm4 : m ≤ 4 := by omega
    clear hq hr hbe hrs hkp hm ho
    go_wp2
    go_loop [7, 24] (fun v i => ∃ j : Nat, j ≤ m ∧ i = .int .i64 j ∧ v = .int .u32 (be (ys.take j))) (fun _ i => m - (intOf i).toNat)
    case atStart => exact ⟨0, by omega, rfl, rfl⟩
    case round =>
      obtain ⟨j, hj, rfl, rfl⟩ := hrel
      have hv := be_take hoy j
      by_cases hlt : j < m
      · obtain ⟨ad, x, rfl, _, hx1, hc1⟩ := HR.out.u8at hlt
        have hx := hoy j x hx1.out
        have hv2 : be (ys.take j) ≤ 16777215 := by
          have : (256 : Int) ^ j ≤ 16777216 := by
            have h3 : j = 0 ∨ j = 1 ∨ j = 2 ∨ j = 3 := by omega
            rcases h3 with rfl | rfl | rfl | rfl <;> decide
          omega
        have HT : Hid (be (ys.take (j + 1)) = be (ys.take j) * 256 + x) := by
          show _ = _
          rw [List.take_add_one, hx1.out]
          exact be_snoc _ _
        obtain ⟨hv0, _⟩ := hv
        generalize be (ys.take j) = V at *
        have hor := u32_or_8 V x hv0 hv2 hx.1 hx.2
        go_wp2
        go_round
        case rel => exact ⟨j + 1, by omega, by go_num, by rw [HT.out]⟩
        case measure => simp [intOf]; omega
      · obtain rfl : j = m := by omega
        go_wp2
        go_ret
        refine ⟨?_, ?_, HF.out.2.2⟩
        · rw [hp.out, ← HF.out.1, List.take_of_length_le (by rw [HL.out]; exact Nat.le_refl _)]
          rfl
        · rw [hp.out]; exact HF.out.2.1
  · rw [if_neg (by omega)] at hK
    subst hK
    go_enter Try.func51, Try.ntmps51
    go_wp2_with fail
    refine HN.out.mono ?_
    intro e w1 hq
    obtain ⟨A', m, b, ys, rfl, hr, hm, hbe, hoy, hrs, hkp⟩ := next_form hq ho
    have HR := Lib.hid hr
    have HL := Lib.hid hr.u8len
    have HF := Lib.hid (And.intro hbe (And.intro hrs hkp))
    have hm4 : m ≤ 4 := by omega
    clear hq hr hbe hrs hkp hm ho
    go_wp2
    go_loop [7, 24] (fun v i => ∃ j : Nat, j ≤ m ∧ i = .int .i64 j ∧ v = .int .u32 (be (ys.take j))) (fun _ i => m - (intOf i).toNat)
    case atStart => exact ⟨0, by omega, rfl, rfl⟩
    case round =>
      obtain ⟨j, hj, rfl, rfl⟩ := hrel
      have hv := be_take hoy j
      by_cases hlt : j < m
      · obtain ⟨ad, x, rfl, _, hx1, hc1⟩ := HR.out.u8at hlt
        have hx := hoy j x hx1.out
        have hv2 : be (ys.take j) ≤ 16777215 := by
          have : (256 : Int) ^ j ≤ 16777216 := by
            have h3 : j = 0 ∨ j = 1 ∨ j = 2 ∨ j = 3 := by omega
            rcases h3 with rfl | rfl | rfl | rfl <;> decide
          omega
        have HT : Hid (be (ys.take (j + 1)) = be (ys.take j) * 256 + x) := by
          show _ = _
          rw [List.take_add_one, hx1.out]
          exact be_snoc _ _
        obtain ⟨hv0, _⟩ := hv
        generalize be (ys.take j) = V at *
        have hor := u32_or_8 V x hv0 hv2 hx.1 hx.2
        go_wp2
        go_round
        case rel => exact ⟨j + 1, by omega, by go_num, by rw [HT.out]⟩
        case measure => simp [intOf]; omega
      · obtain rfl : j = m := by omega
        go_wp2
        go_ret
        refine ⟨?_, ?_, HF.out.2.2⟩
        · rw [hp.out, ← HF.out.1, List.take_of_length_le (by rw [HL.out]; exact Nat.le_refl _)]
          rfl
        · rw [hp.out]; exact HF.out.2.1
end Go.Proofs.Ytbkejlalbjomkaa
