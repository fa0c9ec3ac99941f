/-
  The reference's kind, password, plainly, walked.
-/
import Derived.Test.YtkgdeneonobibaaAutR1
import Derived.Test.YtkgdeneonobibaaAut9
namespace Go.Proofs.Ytkgdeneonobibaa
set_option linter.unusedVariables false
open Go.RowKit

theorem refKind_any (A : Option Addr) (n c : Nat) (xs : List Int) (w : World) (B : Nat) (hx : Reads w B 1 A n (u8s xs)) (ho : Oct xs) (hn : 24 ≤ n) (hc : n ≤ c) (hm : c ≤ 9223372036854775807) :
    Calls Try.prog 48 #[.slice A n c] w fun e w' => e = .returned (.int .i64 (pkKind xs)) ∧ ∃ k, w' = w.drewN k := by
  obtain ⟨a, x, rfl, _, hx0, h0⟩ := hx.u8atc (k := 14) (by omega) (by omega)
  obtain ⟨a1, y, e1, _, hy0, h1⟩ := hx.u8atc (k := 15) (by omega) (by omega)
  obtain rfl : a = a1 := by injection e1
  obtain ⟨ox1, ox2⟩ := ho _ _ hx0.out
  obtain ⟨oy1, oy2⟩ := ho _ _ hy0.out
  have hr : Hid (pkKind xs = 256 * x + y) := by show _ = _; unfold pkKind; rw [getD_of hx0.out, getD_of hy0.out, Int.mul_comm]
  have l1 : 14 < n := by omega
  have l2 : 15 < n := by omega
  have w1 : IntKind.i64.wrap x = x := IntWalk.i64_in _ (by omega)
  have w2 : IntKind.i64.wrap y = y := IntWalk.i64_in _ (by omega)
  have w3 : IntKind.i64.wrap (256 * x) = 256 * x := IntWalk.i64_in _ (by omega)
  have w4 : IntKind.i64.wrap (256 * x + y) = 256 * x + y := IntWalk.i64_in _ (by omega)
  clear hx0 hy0 hx ho e1 hn hc hm
  go_enter Try.func48, Try.ntmps48
  go_wp2
  go_quiet (fail)
  go_wp2
  go_ret
  exact ⟨by rw [hr.out]; rfl, _, rfl⟩
/-- What holds ahead of each nought behind a secret. -/
def PwRel (w : World) (bs : List Int) (v : Value) (wr : World) : Prop := ∃ j : Nat, j ≤ 8 - bs.length ∧ OwnB w wr v (bs ++ List.replicate j 0)
theorem PwRel.next {w w3 : World} {bs : List Int} {v3 : Value} {j : Nat} (hj : j < 8 - bs.length) (H3 : OwnB w w3 v3 (bs ++ List.replicate j 0 ++ [0])) : PwRel w bs v3 w3 :=
  ⟨j + 1, by omega, by rw [List.replicate_succ', ← List.append_assoc]; exact H3⟩
theorem pw_end {bs : List Int} {j : Nat} (h8 : 8 ≤ (bs ++ List.replicate j 0).length) (hj : j ≤ 8 - bs.length) : (bs ++ List.replicate j 0).take 8 = pw bs := by
  unfold pw
  rw [List.length_append, List.length_replicate] at h8
  obtain rfl : j = 8 - bs.length := by omega
  rw [List.take_append]
  congr 1
  rw [List.take_replicate]
  congr 1
  omega
theorem OwnB.reads8 {w0 w : World} {A : Option Addr} {n c : Nat} {L : List Int} (h : OwnB w0 w (.slice A n c) L) (hn : L.length = n) (h8 : 8 ≤ n) : Reads w w.heap.size 1 A 8 (u8s (L.take 8)) := (h.reads hn).u8pre h8
/-- What the reference's password leaves: eight bytes that can be read. -/
def PwAt (w w' : World) (bs : List Int) (e : Ending) : Prop := ∃ A c, e = .returned (.slice A 8 c) ∧ Reads w' w'.heap.size 1 A 8 (u8s (pw bs)) ∧ Below w.heap.size w w'
set_option maxRecDepth 100000 in
set_option maxHeartbeats 1000000 in
theorem refPassword_any (k : AK) (w : World) (hk : KOk w k) (hn : k.n ≤ 1099511627000) : Calls Try.prog 52 #[k.v] w fun e w' => PwAt w w' k.bs e := by
  obtain ⟨id, kind, A, n, c, sf, su, tf, tu, bs⟩ := k
  have hl : bs.length = n := hk.sec.u8len
  have HL := Lib.hid hl
  have HX : Hid (Reads w w.heap.size 1 A n (u8s bs)) := hk.sec
  simp only at hn
  clear hk hl
  have HB : Hid (OwnB w (w.alloc (.cells #[.int .u8 id, .int .u16 kind, .slice A n c, .int .i64 sf, .int .i64 su, .int .i64 tf, .int .i64 tu] 70)) (.slice none 0 0) [] ∧ Reads (w.alloc (.cells #[.int .u8 id, .int .u16 kind, .slice A n c, .int .i64 sf, .int .i64 su, .int .i64 tf, .int .i64 tu] 70)) w.heap.size 1 A n (u8s bs)) :=
    ⟨⟨World.ownsRow_nil _ _ _ _, (Below.refl _ _).alloc (Nat.le_refl _) _⟩, HX.out.alloc (Nat.le_refl _) _⟩
  clear HX
  go_enter Try.func52, Try.ntmps52
  go_wp2_with (at_builtin; refine wpList_app el_u8 rfl (.tmp 4) (.tmp 6) rfl HB.out.1.1 rfl HB.out.2 rfl u8s_one (by simp only [maxLen, List.length_nil]; omega) (by simp only [List.length_nil]; omega) HB.out.1.2.size ?_; intro v4 w4 ho4 hb4 _ _; have H4 := Lib.hid (HB.out.1.app rfl HL.out ho4 hb4); clear ho4 hb4 HB; rw [List.nil_append] at H4)
  go_loopw [3] (fun v wr => PwRel w bs v wr) (fun v _ => 8 - lenOf v)
  case atStart => exact ⟨0, by omega, by simpa using H4.out⟩
  case round =>
    clear H4
    obtain ⟨j, hj, hcq⟩ := hrel
    have hLl : (bs ++ List.replicate j 0).length = n + j := by rw [List.length_append, List.length_replicate, HL.out]
    have HLl := Lib.hid hLl
    obtain ⟨A5, c5, hv⟩ := hcq.shape
    rw [hLl] at hv
    clear hLl
    subst hv
    have HC := Lib.hid hcq
    have hj2 : Hid (j ≤ 8 - bs.length) := hj
    rw [HL.out] at hj
    clear hcq
    obtain ⟨wo, rfl⟩ : ∃ wo : World, wo = wr := ⟨_, rfl⟩
    by_cases h8 : n + j < 8
    · have h8' : (n : Int) + (j : Int) < 8 := by omega
      have hj8 : Hid (j < 8 - bs.length) := by show _ < _; rw [HL.out]; omega
      go_wp2_with (at_builtin; refine wpList_app el_u8 rfl (.tmp 11) (.tmp 12) rfl (HC.out.own HLl.out (.cells #[.int .u8 0] 5)) rfl (Reads.one_new wo (.int .u8 0) 5) rfl (one_u8 _) (by simp only [maxLen]; omega) (by omega) (HC.out.room _) ?_; intro v3 w3 ho3 hb3 _ _; have H3 := Lib.hid (HC.out.push HLl.out ho3 hb3); clear ho3 hb3)
      go_roundw
      case rel => exact PwRel.next hj8.out H3.out
      case measure =>
        obtain ⟨A6, c6, hv⟩ := H3.out.shape
        rw [hv]
        simp only [lenOf, List.length_append, List.length_replicate, HL.out, List.length_singleton]
        omega
    · have h8' : 8 ≤ (n : Int) + (j : Int) := by omega
      have hcc := (OwnB.caps HC.out HLl.out).1
      have hc8 : (8 : Int) ≤ (c5 : Int) := by omega
      have HR : Hid (Reads wo wo.heap.size 1 A5 8 (u8s (pw bs))) := by
        have := HC.out.reads8 HLl.out (by omega)
        rwa [pw_end (by rw [HLl.out]; omega) hj2.out] at this
      go_wp2
      go_ret
      exact ⟨_, _, rfl, HR.out, HC.out.2⟩
theorem refPlainly_any (A : Option Addr) (n c : Nat) (xs : List Int) (N : Int) (w : World) (hx : Reads w w.heap.size 1 A n (u8s xs)) (ho : Oct xs) (hc : n ≤ c) (hm : c ≤ 9223372036854775807) (hn : n ≤ 1099511627776) :
    Calls Try.prog 50 #[.slice A n c, .int .i64 N] w fun e w' => e = .returned (.int .i64 (wholeOf xs N)) ∧ Below w.heap.size w w' := by
  have hl := hx.u8len
  have HR := Lib.hid (refPright_any A n c xs w hx ho hc hm hn)
  clear hx ho
  by_cases h0 : (n : Int) = N
  · have h1 : ((n : Int) == N) = true := by simpa using h0
    have h2 : ((n : Int) != N) = false := by rw [bne, h1]; rfl
    cases hr : pkRight xs
    · have hv : Hid (wholeOf xs N = 23) := by show _ = _; unfold wholeOf; rw [if_neg (by rw [hl]; omega), hr]; rfl
      rw [hr] at HR
      clear h0 hr
      go_enter Try.func50, Try.ntmps50
      go_wp2_with (go_at_call 96; refine HR.out.mono ?_; rintro e w1 ⟨rfl, hb⟩; have HB := Lib.hid hb; clear hb HR)
      go_ret
      exact ⟨by rw [hv.out]; rfl, HB.out⟩
    · have hv : Hid (wholeOf xs N = 0) := by show _ = _; unfold wholeOf; rw [if_neg (by rw [hl]; omega), hr]; rfl
      rw [hr] at HR
      clear h0 hr
      go_enter Try.func50, Try.ntmps50
      go_wp2_with (go_at_call 96; refine HR.out.mono ?_; rintro e w1 ⟨rfl, hb⟩; have HB := Lib.hid hb; clear hb HR)
      go_ret
      exact ⟨by rw [hv.out]; rfl, HB.out⟩
  · have h1 : ((n : Int) == N) = false := by simpa using h0
    have h2 : ((n : Int) != N) = true := by rw [bne, h1]; rfl
    have hv : Hid (wholeOf xs N = 22) := by show _ = _; unfold wholeOf; rw [if_pos (by rw [hl]; omega)]
    clear h0 HR
    go_enter Try.func50, Try.ntmps50
    go_wp2
    go_ret
    exact ⟨by rw [hv.out]; rfl, Below.refl _ _⟩
end Go.Proofs.Ytkgdeneonobibaa
