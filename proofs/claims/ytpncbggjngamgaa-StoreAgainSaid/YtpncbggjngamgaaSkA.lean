/-
  order.Keys, walked; it is an order of keys. Printed by gen_sk1.py.
-/
import Derived.Test.YtpncbggjngamgaaKeyT
import Derived.Test.YtpncbggjngamgaaKept
import Derived.Test.YtpncbggjngamgaaBase2
import Derived.Laws.Tables
namespace Go.Proofs.Ytpncbggjngamgaa
set_option linter.unusedVariables false
open Go.RowKit

def cmpI (x y : Int) : Int := if x < y then -1 else if y < x then 1 else 0
/-- The first that is not nought. -/
def firstNZ : List Int → Int
  | [] => 0
  | n :: l => if n = 0 then firstNZ l else n
abbrev Ky3 := Int × Int × Int
def keyC (k : Ky3) : List Value := [.int .u8 k.1, .int .u32 k.2.1, .int .u32 k.2.2]
theorem keyC_len (k : Ky3) : (keyC k).length = 3 := rfl
theorem keyC_one (k : Ky3) : ∀ u ∈ keyC k, u.oneCell' = true := by
  intro u hu
  simp only [keyC, List.mem_cons, List.not_mem_nil, or_false] at hu
  rcases hu with rfl | rfl | rfl <;> rfl
def cmpK (a b : Ky3) : Int := firstNZ [cmpI a.1 b.1, cmpI a.2.1 b.2.1, cmpI a.2.2 b.2.2]
theorem cmpI_self (x : Int) : cmpI x x = 0 := by unfold cmpI; simp
theorem cmpI_zero {x y : Int} : cmpI x y = 0 ↔ x = y := by unfold cmpI; split <;> (try split) <;> omega
theorem cmpI_neg {x y : Int} : cmpI x y < 0 ↔ x < y := by unfold cmpI; split <;> (try split) <;> omega
theorem cmpK_self (a : Ky3) : cmpK a a = 0 := by simp [cmpK, firstNZ, cmpI_self]
def ltK (a b : Ky3) : Bool := decide (a.1 < b.1 ∨ (a.1 = b.1 ∧ (a.2.1 < b.2.1 ∨ (a.2.1 = b.2.1 ∧ a.2.2 < b.2.2))))
theorem cmpK_lt (a b : Ky3) : decide (cmpK a b < 0) = ltK a b := by
  unfold cmpK ltK
  simp only [firstNZ]
  apply decide_eq_decide.2
  have h1 := cmpI_zero (x := a.1) (y := b.1)
  have h2 := cmpI_zero (x := a.2.1) (y := b.2.1)
  have h3 := cmpI_zero (x := a.2.2) (y := b.2.2)
  have g1 := cmpI_neg (x := a.1) (y := b.1)
  have g2 := cmpI_neg (x := a.2.1) (y := b.2.1)
  have g3 := cmpI_neg (x := a.2.2) (y := b.2.2)
  generalize cmpI a.1 b.1 = n1 at *
  generalize cmpI a.2.1 b.2.1 = n2 at *
  generalize cmpI a.2.2 b.2.2 = n3 at *
  split
  · split
    · split <;> omega
    · omega
  · omega
theorem ltK_irrefl (a : Ky3) : ltK a a = false := by simp [ltK]
theorem ltK_trans {a b c : Ky3} (h : ltK a b = true) (k : ltK b c = true) : ltK a c = true := by
  simp only [ltK, decide_eq_true_eq] at *
  omega
theorem geK_trans {a b c : Ky3} (h : ltK a b = false) (k : ltK b c = false) : ltK a c = false := by
  simp only [ltK, decide_eq_false_iff_not] at *
  omega
theorem ltK_eq {a b : Ky3} (h : ltK a b = false) (k : ltK b a = false) : a = b := by
  obtain ⟨a1, a2, a3⟩ := a
  obtain ⟨b1, b2, b3⟩ := b
  simp only [ltK, decide_eq_false_iff_not] at h k
  simp only [Prod.mk.injEq]
  omega
set_option maxHeartbeats 1000000
theorem cmpu8_any (x y : Int) (w : World) :
    Calls Try.prog 36 #[.int .u8 x, .int .u8 y] w fun e w' => e = .returned (.int .i64 (cmpI x y)) ∧ w = w' := by
  have h3 : x < y ∨ y < x ∨ x = y := by omega
  rcases h3 with h | h | h
  · have e : Hid (cmpI x y = -1) := by show _ = _; unfold cmpI; rw [if_pos h]
    go_enter Try.func36, Try.ntmps36
    go_wp2
    go_ret
    exact ⟨by rw [e.out]; rfl, rfl⟩
  · have e : Hid (cmpI x y = 1) := by show _ = _; unfold cmpI; rw [if_neg (by omega), if_pos h]
    go_enter Try.func36, Try.ntmps36
    go_wp2
    go_ret
    exact ⟨by rw [e.out]; rfl, rfl⟩
  · subst h
    have e : Hid (cmpI x x = 0) := by show _ = _; unfold cmpI; rw [if_neg (by omega), if_neg (by omega)]
    go_enter Try.func36, Try.ntmps36
    go_wp2
    go_ret
    exact ⟨by rw [e.out]; rfl, rfl⟩
theorem cmpu32_any (x y : Int) (w : World) :
    Calls Try.prog 38 #[.int .u32 x, .int .u32 y] w fun e w' => e = .returned (.int .i64 (cmpI x y)) ∧ w = w' := by
  have h3 : x < y ∨ y < x ∨ x = y := by omega
  rcases h3 with h | h | h
  · have e : Hid (cmpI x y = -1) := by show _ = _; unfold cmpI; rw [if_pos h]
    go_enter Try.func38, Try.ntmps38
    go_wp2
    go_ret
    exact ⟨by rw [e.out]; rfl, rfl⟩
  · have e : Hid (cmpI x y = 1) := by show _ = _; unfold cmpI; rw [if_neg (by omega), if_pos h]
    go_enter Try.func38, Try.ntmps38
    go_wp2
    go_ret
    exact ⟨by rw [e.out]; rfl, rfl⟩
  · subst h
    have e : Hid (cmpI x x = 0) := by show _ = _; unfold cmpI; rw [if_neg (by omega), if_neg (by omega)]
    go_enter Try.func38, Try.ntmps38
    go_wp2
    go_ret
    exact ⟨by rw [e.out]; rfl, rfl⟩
theorem k1_any (w : World) (ga gb : Nat) (a b : Ky3) (ha : Blk w ga 45 (keyC a).toArray) (hb : Blk w gb 45 (keyC b).toArray) :
    Calls Try.prog 35 #[.pointer (some ⟨ga, 0, none⟩), .pointer (some ⟨gb, 0, none⟩)] w fun e w' => e = .returned (.int .i64 (cmpI a.1 b.1)) ∧ w = w' := by
  have h1 : w.cell? ⟨ga, 0, none⟩ = some (.int .u8 a.1) := ha.cell 0
  have h2 : w.cell? ⟨gb, 0, none⟩ = some (.int .u8 b.1) := hb.cell 0
  clear ha hb
  go_enter Try.func35, Try.ntmps35
  go_wp2_with (go_at_call 36; refine (cmpu8_any _ _ _).mono ?_; rintro e w' ⟨rfl, rfl⟩)
  go_ret
  exact ⟨rfl, rfl⟩
theorem k2_any (w : World) (ga gb : Nat) (a b : Ky3) (ha : Blk w ga 45 (keyC a).toArray) (hb : Blk w gb 45 (keyC b).toArray) :
    Calls Try.prog 37 #[.pointer (some ⟨ga, 0, none⟩), .pointer (some ⟨gb, 0, none⟩)] w fun e w' => e = .returned (.int .i64 (cmpI a.2.1 b.2.1)) ∧ w = w' := by
  have h1 : w.cell? ⟨ga, 1, none⟩ = some (.int .u32 a.2.1) := ha.cell 1
  have h2 : w.cell? ⟨gb, 1, none⟩ = some (.int .u32 b.2.1) := hb.cell 1
  clear ha hb
  go_enter Try.func37, Try.ntmps37
  go_wp2_with (go_at_call 38; refine (cmpu32_any _ _ _).mono ?_; rintro e w' ⟨rfl, rfl⟩)
  go_ret
  exact ⟨rfl, rfl⟩
theorem k3_any (w : World) (ga gb : Nat) (a b : Ky3) (ha : Blk w ga 45 (keyC a).toArray) (hb : Blk w gb 45 (keyC b).toArray) :
    Calls Try.prog 39 #[.pointer (some ⟨ga, 0, none⟩), .pointer (some ⟨gb, 0, none⟩)] w fun e w' => e = .returned (.int .i64 (cmpI a.2.2 b.2.2)) ∧ w = w' := by
  have h1 : w.cell? ⟨ga, 2, none⟩ = some (.int .u32 a.2.2) := ha.cell 2
  have h2 : w.cell? ⟨gb, 2, none⟩ = some (.int .u32 b.2.2) := hb.cell 2
  clear ha hb
  go_enter Try.func39, Try.ntmps39
  go_wp2_with (go_at_call 38; refine (cmpu32_any _ _ _).mono ?_; rintro e w' ⟨rfl, rfl⟩)
  go_ret
  exact ⟨rfl, rfl⟩
set_option maxRecDepth 100000 in
set_option maxHeartbeats 2000000 in
theorem firstK_any (w : World) (gs ga gb : Nat) (a b : Ky3) (hs : Blk w gs 42 #[.func (.func 35) #[] #[.pointer (some ⟨ga, 0, none⟩), .pointer (some ⟨gb, 0, none⟩)], .func (.func 37) #[] #[.pointer (some ⟨ga, 0, none⟩), .pointer (some ⟨gb, 0, none⟩)], .func (.func 39) #[] #[.pointer (some ⟨ga, 0, none⟩), .pointer (some ⟨gb, 0, none⟩)]])
    (ha : Blk w ga 45 (keyC a).toArray) (hb : Blk w gb 45 (keyC b).toArray) :
    Calls Try.prog 34 #[.slice (some ⟨gs, 0, none⟩) 3 3] w fun e w' => e = .returned (.int .i64 (cmpK a b)) ∧ w = w' := by
  have Q1 := Lib.hid (k1_any w ga gb a b ha hb)
  have Q2 := Lib.hid (k2_any w ga gb a b ha hb)
  have Q3 := Lib.hid (k3_any w ga gb a b ha hb)
  have c0 : w.cell? ⟨gs, 0, none⟩ = some (.func (.func 35) #[] #[.pointer (some ⟨ga, 0, none⟩), .pointer (some ⟨gb, 0, none⟩)]) := hs.cell 0
  have c1 : w.cell? ⟨gs, 1, none⟩ = some (.func (.func 37) #[] #[.pointer (some ⟨ga, 0, none⟩), .pointer (some ⟨gb, 0, none⟩)]) := hs.cell 1
  have c2 : w.cell? ⟨gs, 2, none⟩ = some (.func (.func 39) #[] #[.pointer (some ⟨ga, 0, none⟩), .pointer (some ⟨gb, 0, none⟩)]) := hs.cell 2
  clear hs ha hb
  unfold cmpK
  obtain ⟨n1, h1⟩ : ∃ n, n = cmpI a.1 b.1 := ⟨_, rfl⟩
  obtain ⟨n2, h2⟩ : ∃ n, n = cmpI a.2.1 b.2.1 := ⟨_, rfl⟩
  obtain ⟨n3, h3⟩ : ∃ n, n = cmpI a.2.2 b.2.2 := ⟨_, rfl⟩
  rw [← h1] at Q1 ⊢
  rw [← h2] at Q2 ⊢
  rw [← h3] at Q3 ⊢
  clear h1 h2 h3
  go_enter Try.func34, Try.ntmps34
  go_wp2
  go_loop [8] (fun i => ∃ k : Nat, i = .int .i64 k ∧ k ≤ 3 ∧ Hid (firstNZ [n1, n2, n3] = firstNZ ([n1, n2, n3].drop k))) (fun i => 3 - (intOf i).toNat)
  case atStart => exact ⟨0, rfl, by omega, rfl⟩
  case round =>
    obtain ⟨k, rfl, hk, hn⟩ := hrel
    have hk5 : k = 0 ∨ k = 1 ∨ k = 2 ∨ k = 3 := by omega
    rcases hk5 with rfl | rfl | rfl | rfl
    · by_cases hz : n1 = 0
      · have hb : (n1 != 0) = false := by simp [hz]
        have hn' : Hid (firstNZ [n1, n2, n3] = firstNZ ([n1, n2, n3].drop 1)) := by
          show _ = _
          rw [hn.out]
          show firstNZ ([n1, n2, n3]) = _
          rw [firstNZ, if_pos hz]
          rfl
        clear hz hn
        go_wp2_with fail
        refine Q1.out.mono ?_
        rintro e w' ⟨rfl, rfl⟩
        go_wp2_with fail
        go_round
        case rel => exact ⟨1, rfl, by omega, hn'⟩
        case measure => simp [intOf]
      · have hb : (n1 != 0) = true := by simp [hz]
        have hn' : Hid (firstNZ [n1, n2, n3] = n1) := by
          show _ = _
          rw [hn.out]
          show firstNZ ([n1, n2, n3]) = _
          rw [firstNZ, if_neg hz]
        clear hz hn
        go_wp2_with fail
        refine Q1.out.mono ?_
        rintro e w' ⟨rfl, rfl⟩
        go_wp2_with fail
        go_ret
        exact ⟨by rw [hn'.out]; rfl, rfl⟩
    · by_cases hz : n2 = 0
      · have hb : (n2 != 0) = false := by simp [hz]
        have hn' : Hid (firstNZ [n1, n2, n3] = firstNZ ([n1, n2, n3].drop 2)) := by
          show _ = _
          rw [hn.out]
          show firstNZ ([n2, n3]) = _
          rw [firstNZ, if_pos hz]
          rfl
        clear hz hn
        go_wp2_with fail
        refine Q2.out.mono ?_
        rintro e w' ⟨rfl, rfl⟩
        go_wp2_with fail
        go_round
        case rel => exact ⟨2, rfl, by omega, hn'⟩
        case measure => simp [intOf]
      · have hb : (n2 != 0) = true := by simp [hz]
        have hn' : Hid (firstNZ [n1, n2, n3] = n2) := by
          show _ = _
          rw [hn.out]
          show firstNZ ([n2, n3]) = _
          rw [firstNZ, if_neg hz]
        clear hz hn
        go_wp2_with fail
        refine Q2.out.mono ?_
        rintro e w' ⟨rfl, rfl⟩
        go_wp2_with fail
        go_ret
        exact ⟨by rw [hn'.out]; rfl, rfl⟩
    · by_cases hz : n3 = 0
      · have hb : (n3 != 0) = false := by simp [hz]
        have hn' : Hid (firstNZ [n1, n2, n3] = firstNZ ([n1, n2, n3].drop 3)) := by
          show _ = _
          rw [hn.out]
          show firstNZ ([n3]) = _
          rw [firstNZ, if_pos hz]
          rfl
        clear hz hn
        go_wp2_with fail
        refine Q3.out.mono ?_
        rintro e w' ⟨rfl, rfl⟩
        go_wp2_with fail
        go_round
        case rel => exact ⟨3, rfl, by omega, hn'⟩
        case measure => simp [intOf]
      · have hb : (n3 != 0) = true := by simp [hz]
        have hn' : Hid (firstNZ [n1, n2, n3] = n3) := by
          show _ = _
          rw [hn.out]
          show firstNZ ([n3]) = _
          rw [firstNZ, if_neg hz]
        clear hz hn
        go_wp2_with fail
        refine Q3.out.mono ?_
        rintro e w' ⟨rfl, rfl⟩
        go_wp2_with fail
        go_ret
        exact ⟨by rw [hn'.out]; rfl, rfl⟩
    · go_wp2_with fail
      go_ret
      exact ⟨by rw [hn.out]; rfl, rfl⟩
end Go.Proofs.Ytpncbggjngamgaa
