/-
  lodestarlaw08.lives, walked.
-/
import Derived.Test.YtkgdeneonobibaaAut13
import Derived.Lib.SlBytesConst
namespace Go.Proofs.Ytkgdeneonobibaa
set_option linter.unusedVariables false
open Go.RowKit

theorem plainAck_any (w : World) : Calls Try.prog 36 #[] w fun e w' => e = .returned (.slice (some ⟨w.heap.size, 0, none⟩) 24 24) ∧ w' = w.alloc (.cells (u8s yl0).toArray 5) := by
  go_enter Try.func36, Try.ntmps36
  go_wp2
  go_ret
  exact ⟨rfl, rfl⟩
theorem Reads.litm (w : World) (xs : List Value) (t : TypeId) (fz : Nat × Nat) {n : Nat} (hn : xs.length = n) : Reads (w.alloc (.cells xs.toArray t fz)) (w.alloc (.cells xs.toArray t fz)).heap.size 1 (some ⟨w.heap.size, 0, none⟩) n xs :=
  ⟨by omega, fun _ => ⟨_, rfl, by rw [World.size_alloc]; exact Nat.lt_succ_self _, fun j u hu => by
    rw [add_none, Nat.zero_add, World.cell?_alloc_mark]
    simpa using hu⟩⟩
theorem lk_keys (w : World) (g : Nat) (h0 : Reads w w.heap.size 1 (some ⟨g, 0, none⟩) 2 (u8s [97, 98])) (h1 : Blk w (g + 1) 70 #[.int .u8 7, .int .u16 1, .slice (some ⟨g, 0, none⟩) 2 2, .int .i64 0, .int .i64 99, .int .i64 0, .int .i64 99]) :
    Keys w (some ⟨g + 1, 0, none⟩) 1 [lk (some ⟨g, 0, none⟩) 2] := by
  refine ⟨⟨rfl, fun _ => ⟨_, rfl, h1.lt, fun j u hu => ?_⟩⟩, rfl, ?_⟩
  · rw [add_none, Nat.zero_add, h1.cell j, List.getElem?_toArray]
    exact hu
  · intro k hk
    rw [List.mem_singleton] at hk
    subst hk
    refine ⟨(by decide : (0 : Int) ≤ 7 ∧ (7 : Int) ≤ 255), (by decide : (0 : Int) ≤ 1 ∧ (1 : Int) ≤ 65535), ?_, (oct_of [97, 98] (by decide +kernel) : Oct [97, 98]), (by decide : (2 : Nat) ≤ 2 ∧ (2 : Nat) ≤ 9223372036854775807)⟩
    exact h0
theorem op_5 (S : Option Addr) (sc : Nat) : opOut yl6 [lk S sc] 5 24 = .tuple #[.int .u32 0, .int .i64 24, .int .i64 0] := by kernel_rfl
theorem op_100 (S : Option Addr) (sc : Nat) : opOut yl6 [lk S sc] 100 24 = .tuple #[.int .u32 0, .int .i64 0, .int .i64 26] := by kernel_rfl
theorem lk_kind0 (S : Option Addr) (sc : Nat) : kind0 [lk S sc] = 1 := rfl
set_option maxRecDepth 100000 in
set_option maxHeartbeats 4000000 in
theorem lives_any (w : World) : Calls Try.prog 10 #[] w fun e w' => e = .returned (.bool true) ∧ Below w.heap.size w w' := by
  have HK : Hid (Keys ((w.alloc (.cells #[.int .u8 97, .int .u8 98] 5 (2, 3))).alloc (.cells #[.int .u8 7, .int .u16 1, .slice (some ⟨w.heap.size, 0, none⟩) 2 2, .int .i64 0, .int .i64 99, .int .i64 0, .int .i64 99] 70)) (some ⟨w.heap.size + 1, 0, none⟩) 1 [lk (some ⟨w.heap.size, 0, none⟩) 2] ∧
      Below w.heap.size w ((w.alloc (.cells #[.int .u8 97, .int .u8 98] 5 (2, 3))).alloc (.cells #[.int .u8 7, .int .u16 1, .slice (some ⟨w.heap.size, 0, none⟩) 2 2, .int .i64 0, .int .i64 99, .int .i64 0, .int .i64 99] 70))) :=
    ⟨lk_keys _ _ ((Reads.litm w (u8s [97, 98]) 5 (2, 3) rfl).later ((Below.refl _ _).alloc (Nat.le_refl _) _)) (new_at _ _ _), below_two_ _ _ _⟩
  have kc := fun (w : World) (C : Array Value) (n c : Nat) => Lib.run_convert_bytes_const (P := Try.prog) w 32 5 C n c Try.underlying32 Try.underlying5
  go_enter Try.func10, Try.ntmps10
  go_wp2_with (go_at_call 36; refine (plainAck_any _).mono ?_; rintro e w3 ⟨rfl, rfl⟩)
  clear kc
  have H3 : Hid (Keys (((w.alloc (.cells #[.int .u8 97, .int .u8 98] 5 (2, 3))).alloc (.cells #[.int .u8 7, .int .u16 1, .slice (some ⟨w.heap.size, 0, none⟩) 2 2, .int .i64 0, .int .i64 99, .int .i64 0, .int .i64 99] 70)).alloc (.cells (u8s yl0).toArray 5)) (some ⟨w.heap.size + 1, 0, none⟩) 1 [lk (some ⟨w.heap.size, 0, none⟩) 2] ∧ Below w.heap.size w (((w.alloc (.cells #[.int .u8 97, .int .u8 98] 5 (2, 3))).alloc (.cells #[.int .u8 7, .int .u16 1, .slice (some ⟨w.heap.size, 0, none⟩) 2 2, .int .i64 0, .int .i64 99, .int .i64 0, .int .i64 99] 70)).alloc (.cells (u8s yl0).toArray 5)) ∧ Reads (((w.alloc (.cells #[.int .u8 97, .int .u8 98] 5 (2, 3))).alloc (.cells #[.int .u8 7, .int .u16 1, .slice (some ⟨w.heap.size, 0, none⟩) 2 2, .int .i64 0, .int .i64 99, .int .i64 0, .int .i64 99] 70)).alloc (.cells (u8s yl0).toArray 5)) (((w.alloc (.cells #[.int .u8 97, .int .u8 98] 5 (2, 3))).alloc (.cells #[.int .u8 7, .int .u16 1, .slice (some ⟨w.heap.size, 0, none⟩) 2 2, .int .i64 0, .int .i64 99, .int .i64 0, .int .i64 99] 70)).alloc (.cells (u8s yl0).toArray 5)).heap.size 1 (some ⟨w.heap.size + 1 + 1, 0, none⟩) 24 (u8s yl0)) := by
    have hb := (Below.refl ((w.alloc (.cells #[.int .u8 97, .int .u8 98] 5 (2, 3))).alloc (.cells #[.int .u8 7, .int .u16 1, .slice (some ⟨w.heap.size, 0, none⟩) 2 2, .int .i64 0, .int .i64 99, .int .i64 0, .int .i64 99] 70)).heap.size _).alloc (Nat.le_refl _) (.cells (u8s yl0).toArray 5)
    refine ⟨HK.out.1.later hb, below_then HK.out.2 hb, ?_⟩
    have h := Blk.new ((w.alloc (.cells #[.int .u8 97, .int .u8 98] 5 (2, 3))).alloc (.cells #[.int .u8 7, .int .u16 1, .slice (some ⟨w.heap.size, 0, none⟩) 2 2, .int .i64 0, .int .i64 99, .int .i64 0, .int .i64 99] 70)) 5 (u8s yl0).toArray
    rw [World.size_alloc, World.size_alloc] at h
    have h2 := (Blk.reads (xs := u8s yl0) h (n := 24) (Nat.le_refl _)).more (B' := _) h.lt
    rwa [List.take_of_length_le (by rw [u8s_length]; decide)] at h2
  clear HK
  generalize (((w.alloc (.cells #[.int .u8 97, .int .u8 98] 5 (2, 3))).alloc (.cells #[.int .u8 7, .int .u16 1, .slice (some ⟨w.heap.size, 0, none⟩) 2 2, .int .i64 0, .int .i64 99, .int .i64 0, .int .i64 99] 70)).alloc (.cells (u8s yl0).toArray 5)) = w3 at *
  try simp only [World.size_alloc]
  generalize hs0 : w.heap.size = g at *
  go_wp2_with fail
  refine (sign_lives (some ⟨g + 1 + 1, 0, none⟩) (some ⟨g, 0, none⟩) 24 1 2 ⟨g + 1, 0, none⟩ w3 H3.out.2.2 (by decide) (by decide) H3.out.1 (by decide) (by decide)).mono ?_
  rintro e w4 ⟨gc, cap, R, rfl, hcap, hcm, hF⟩
  have F4 := Lib.hid hF
  have HK4 := Lib.hid (H3.out.1.later F4.out.bel)
  clear hF
  go_wp2_with fail
  refine (open_plain (some ⟨gc, 0, none⟩) (some ⟨g + 1, 0, none⟩) 24 cap 1 1 24 yl6 [lk (some ⟨g, 0, none⟩) 2] 5 w4 (F4.out.cb.reads rfl) y6_oct hcap hcm (by decide) HK4.out (by decide) (by decide) (by decide) y6_len (lk_check _ _) (lk_kind0 _ _) y6_kind y6_whole).mono ?_
  rw [op_5]
  rintro e w5 ⟨rfl, hb⟩
  have F5 := Lib.hid (F4.out.later hb)
  have HK5 := Lib.hid (HK4.out.later hb)
  clear hb F4 HK4
  go_wp2_with fail
  refine (open_plain (some ⟨gc, 0, none⟩) (some ⟨g + 1, 0, none⟩) 24 cap 1 1 24 yl6 [lk (some ⟨g, 0, none⟩) 2] 100 w5 (F5.out.cb.reads rfl) y6_oct hcap hcm (by decide) HK5.out (by decide) (by decide) (by decide) y6_len (lk_check _ _) (lk_kind0 _ _) y6_kind y6_whole).mono ?_
  rw [op_100]
  rintro e w6 ⟨rfl, hb⟩
  have F6 := Lib.hid (F5.out.later hb)
  clear hb F5 HK5
  have c15 := F6.out.cb.cell (k := 15) (y := 1) rfl
  have c16 := F6.out.cb.cell (k := 16) (y := 97) rfl
  go_wp2
  go_ret
  have h0 := H3.out.2.1.size
  refine ⟨rfl, ?_⟩
  subst hs0
  exact H3.out.2.1.trans (F6.out.bel.mono h0)
end Go.Proofs.Ytkgdeneonobibaa
