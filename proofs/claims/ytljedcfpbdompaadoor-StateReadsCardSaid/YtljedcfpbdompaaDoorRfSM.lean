/-
  lodestarref06: number.
  lodestarref06: ReadHead. Printed by gen_rfs2.py.
  lodestarref06: Read. Printed by gen_rfs3.py.
-/
import Derived.Test.YtljedcfpbdompaaDoorSta4
import Derived.Test.YtljedcfpbdompaaDoorRefW
import Derived.Test.YtljedcfpbdompaaDoorRgn3
import Derived.Test.YtljedcfpbdompaaDoorRgn4
namespace Go.Proofs.YtljedcfpbdompaaDoor
set_option linter.unusedVariables false
open Go.RowKit Go.ChangeShapes Go.WideShapes

theorem be_low {zs : List Int} (ho : Oct zs) {k : Nat} (hk : k < 4) : 0 ≤ be (zs.take k) ∧ be (zs.take k) ≤ 16777215 := by
  have h := be_take ho k
  have : k = 0 ∨ k = 1 ∨ k = 2 ∨ k = 3 := by omega
  rcases this with rfl | rfl | rfl | rfl <;> omega
set_option maxHeartbeats 2000000 in
theorem number_any (A : Option Addr) (n c : Nat) (zs : List Int) (w : World) (B : Nat) (hx : Reads w B 1 A n (u8s zs)) (ho : Oct zs) (hn : n ≤ 4) :
    Calls Tryd.prog 20 #[.slice A n c] w fun e w' => e = .returned (.int .u32 (be zs)) ∧ w = w' := by
  have HL := Lib.hid hx.u8len
  have HO := Lib.hid ho
  go_enter Tryd.func20, Tryd.ntmps20
  go_wp2_with fail
  go_loopw [3, 4] (fun v i wr => ∃ k : Nat, v = .int .u32 (be (zs.take k)) ∧ i = .int .i64 k ∧ k ≤ n ∧ wr = w) (fun _ i _ => n - (intOf i).toNat)
  case atStart => exact ⟨0, rfl, rfl, Nat.zero_le _, rfl⟩
  case round =>
    obtain ⟨k, rfl, rfl, hk, hw⟩ := hrel
    obtain rfl : w = wr := hw.symm
    by_cases hlt : k < n
    · have hd : decide ((k : Int) < n) = true := decide_eq_true (by omega)
      obtain ⟨a, x, rfl, _, hx1, h1⟩ := hx.u8at hlt
      obtain ⟨q0, q1⟩ := be_low HO.out (show k < 4 by omega)
      obtain ⟨x0, x1⟩ := HO.out k x hx1.out
      have hbe : Hid (be (zs.take (k + 1)) = be (zs.take k) * 256 + x) := Lib.hid (by
        rw [← be_snoc]
        congr 1
        obtain ⟨hi, rfl⟩ := List.getElem?_eq_some_iff.1 hx1.out
        exact List.take_succ_eq_append_getElem hi)
      obtain ⟨b, hb⟩ : ∃ b, be (zs.take k) = b := ⟨_, rfl⟩
      rw [hb] at q0 q1 hbe ⊢
      have w1 : IntKind.u32.wrap (256 * b) = 256 * b := by rw [IntKind.wrap_u32]; omega
      have w2 : IntKind.u32.wrap x = x := by rw [IntKind.wrap_u32]; omega
      have w3 : IntKind.u32.wrap (256 * b + x) = 256 * b + x := by rw [IntKind.wrap_u32]; omega
      clear hb
      go_wp2_with fail
      go_roundw
      case rel => exact ⟨k + 1, by rw [hbe.out]; congr 1; omega, by push_cast; rfl, hlt, by first | rfl | trivial⟩
      case measure =>
        simp only [intOf]
        omega
    · have hd : decide ((k : Int) < n) = false := decide_eq_false (by omega)
      have hz : zs.take k = zs := List.take_of_length_le (by have := HL.out; omega)
      rw [hz]
      go_wp2_with fail
      go_ret
      exact ⟨rfl, rfl⟩
end Go.Proofs.YtljedcfpbdompaaDoor
namespace Go.Proofs.YtljedcfpbdompaaDoor
set_option linter.unusedVariables false
open Go.RowKit Go.ChangeShapes Go.WideShapes

theorem i32w (x : Int) : IntKind.i32.wrap x = wrap32 x := IntWalk.i32_left x
theorem take_one {xs : List Int} {k : Nat} {x : Int} (h : xs[k]? = some x) : (xs.drop k).take 1 = [x] := by
  obtain ⟨hk, rfl⟩ := List.getElem?_eq_some_iff.1 h
  rw [List.drop_eq_getElem_cons hk]
  rfl
set_option maxRecDepth 100000 in
set_option maxHeartbeats 8000000 in
theorem refReadHead_any (A : Option Addr) (n c : Nat) (xs : List Int) (w : World) (hx : Reads w w.heap.size 1 A n (u8s xs)) (ho : Oct xs) (hc : n ≤ c) (hcm : c ≤ 9223372036854775807) (hn : n ≤ 140737488355328) :
    Calls Tryd.prog 7 #[.slice A n c] w fun e w' => e = .returned (.tuple #[(rhH xs).v, .int .i64 (rhE xs)]) ∧ Below w.heap.size w w' := by
  have hl := hx.u8len
  have hb0 : Below w.heap.size w (w.alloc (.cells #[.int .u16 0, .int .u8 0, .int .u8 0, .int .u32 0, .int .u32 0, .int .i32 0, .int .u16 0, .int .u16 0] 28)) := (Below.refl _ _).alloc (Nat.le_refl _) _
  have HZ := Lib.hid (Blk.new w 28 #[.int .u16 0, .int .u8 0, .int .u8 0, .int .u32 0, .int .u32 0, .int .i32 0, .int .u16 0, .int .u16 0])
  have HB := Lib.hid hb0
  by_cases h20 : n < 20
  · have e1 : rhH xs = ⟨0, 0, 0, 0, 0, 0, 0, 0⟩ := by unfold rhH; rw [if_pos (by omega)]
    have e2 : rhE xs = 10 := by unfold rhE; rw [if_pos (by omega)]
    rw [e1, e2]
    have hd : decide ((n : Int) < 20) = true := decide_eq_true (by omega)
    clear hx ho hl hb0 e1 e2
    go_enter Tryd.func7, Tryd.ntmps7
    go_wp2_with (refine wpList_store_row rfl 28 _ _ rfl w.heap.size #[.int .u16 0, .int .u8 0, .int .u8 0, .int .u32 0, .int .u32 0, .int .i32 0, .int .u16 0, .int .u16 0] rfl rfl 28 _ HZ.out info_head rfl (by simp [Value.oneCell']) ?_)
    exact bodyPost_ret (results_cell_row_tmp rfl _ _ w.heap.size 28 #[.int .u16 0, .int .u8 0, .int .u8 0, .int .u32 0, .int .u32 0, .int .i32 0, .int .u16 0, .int .u16 0] (0, 0) _ rfl (HZ.out.setRow _) Tryd.underlying28 rfl info_head) rfl ⟨rfl, below_setRow HB.out (Nat.le_refl _) _⟩
  · have e1 : rhH xs = hdAt xs 0 := by unfold rhH; rw [if_neg (by omega)]
    have e2 : rhE xs = 0 := by unfold rhE; rw [if_neg (by omega)]
    rw [e1, e2]
    have hd : decide ((n : Int) < 20) = false := decide_eq_false (by omega)
    have hx0 := hx.alloc (Nat.le_refl _) (.cells #[.int .u16 0, .int .u8 0, .int .u8 0, .int .u32 0, .int .u32 0, .int .i32 0, .int .u16 0, .int .u16 0] 28)
    have C0 := Lib.hid (hx0.u8pre (k := 2) (by omega))
    have C4 := Lib.hid ((hx0.u8cutc (k := 4) (by omega) (by decide)).u8pre (k := 4) (by omega))
    have C8 := Lib.hid ((hx0.u8cutc (k := 8) (by omega) (by decide)).u8pre (k := 4) (by omega))
    have C12 := Lib.hid ((hx0.u8cutc (k := 12) (by omega) (by decide)).u8pre (k := 4) (by omega))
    have C16 := Lib.hid ((hx0.u8cutc (k := 16) (by omega) (by decide)).u8pre (k := 2) (by omega))
    have C18 := Lib.hid ((hx0.u8cutc (k := 18) (by omega) (by decide)).u8pre (k := 2) (by omega))
    obtain ⟨ad, o2, rfl, hab, hx2, hc2⟩ := hx0.u8atc (k := 2) (by omega) (by decide)
    obtain ⟨ad', o3, ead, _, hx3, hc3⟩ := hx0.u8atc (k := 3) (by omega) (by decide)
    injection ead with ead
    subst ead
    have hS : (fun W : World => W.cell? ⟨ad.block, ad.off + 2, none⟩ = some (.int .u8 o2) ∧ W.cell? ⟨ad.block, ad.off + 3, none⟩ = some (.int .u8 o3)) (w.alloc (.cells #[.int .u16 0, .int .u8 0, .int .u8 0, .int .u32 0, .int .u32 0, .int .i32 0, .int .u16 0, .int .u16 0] 28)).drew := ⟨hc2, hc3⟩
    have HS := Lib.hid hS
    have HZd : Hid (Blk (w.alloc (.cells #[.int .u16 0, .int .u8 0, .int .u8 0, .int .u32 0, .int .u32 0, .int .i32 0, .int .u16 0, .int .u16 0] 28)).drew w.heap.size 28 #[.int .u16 0, .int .u8 0, .int .u8 0, .int .u32 0, .int .u32 0, .int .i32 0, .int .u16 0, .int .u16 0]) := HZ
    have HBd : Hid (Below w.heap.size w (w.alloc (.cells #[.int .u16 0, .int .u8 0, .int .u8 0, .int .u32 0, .int .u32 0, .int .i32 0, .int .u16 0, .int .u16 0] 28)).drew) := Lib.hid HB.out.drew
    have N0 := Lib.hid (number_any _ 2 c _ (w.alloc (.cells #[.int .u16 0, .int .u8 0, .int .u8 0, .int .u32 0, .int .u32 0, .int .i32 0, .int .u16 0, .int .u16 0] 28)).drew _ C0.out (ho.take 2) (by decide))
    have N4 := Lib.hid (number_any _ 4 (c - 4) _ (w.alloc (.cells #[.int .u16 0, .int .u8 0, .int .u8 0, .int .u32 0, .int .u32 0, .int .i32 0, .int .u16 0, .int .u16 0] 28)).drew _ C4.out ((ho.drop 4).take 4) (by decide))
    have N8 := Lib.hid (number_any _ 4 (c - 8) _ (w.alloc (.cells #[.int .u16 0, .int .u8 0, .int .u8 0, .int .u32 0, .int .u32 0, .int .i32 0, .int .u16 0, .int .u16 0] 28)).drew _ C8.out ((ho.drop 8).take 4) (by decide))
    have N12 := Lib.hid (number_any _ 4 (c - 12) _ (w.alloc (.cells #[.int .u16 0, .int .u8 0, .int .u8 0, .int .u32 0, .int .u32 0, .int .i32 0, .int .u16 0, .int .u16 0] 28)).drew _ C12.out ((ho.drop 12).take 4) (by decide))
    have N16 := Lib.hid (number_any _ 2 (c - 16) _ (w.alloc (.cells #[.int .u16 0, .int .u8 0, .int .u8 0, .int .u32 0, .int .u32 0, .int .i32 0, .int .u16 0, .int .u16 0] 28)).drew _ C16.out ((ho.drop 16).take 2) (by decide))
    have N18 := Lib.hid (number_any _ 2 (c - 18) _ (w.alloc (.cells #[.int .u16 0, .int .u8 0, .int .u8 0, .int .u32 0, .int .u32 0, .int .i32 0, .int .u16 0, .int .u16 0] 28)).drew _ C18.out ((ho.drop 18).take 2) (by decide))
    have q0 := be_at ho 0 2
    have q16 := be_at ho 16 2
    have q18 := be_at ho 18 2
    have hhd : hdAt xs 0 = ⟨be ((xs.drop 0).take 2), o2, o3, be ((xs.drop 4).take 4), be ((xs.drop 8).take 4), wrap32 (be ((xs.drop 12).take 4)), be ((xs.drop 16).take 2), be ((xs.drop 18).take 2)⟩ := by
      have p2 : (xs.drop 2).take 1 = [o2] := take_one hx2.out
      have p3 : (xs.drop 3).take 1 = [o3] := take_one hx3.out
      unfold hdAt
      rw [show 0 + 2 = 2 from rfl, show 0 + 3 = 3 from rfl, p2, p3]
      simp [be]
    rw [hhd]
    rw [show xs.take 2 = (xs.drop 0).take 2 from rfl] at N0
    generalize be ((xs.drop 0).take 2) = b0 at *
    generalize be ((xs.drop 4).take 4) = b4 at *
    generalize be ((xs.drop 8).take 4) = b8 at *
    generalize be ((xs.drop 12).take 4) = b12 at *
    generalize be ((xs.drop 16).take 2) = b16 at *
    generalize be ((xs.drop 18).take 2) = b18 at *
    have w0 : IntKind.u16.wrap b0 = b0 := by simp [IntKind.wrap, IntKind.bits, IntKind.signed]; omega
    have w16 : IntKind.u16.wrap b16 = b16 := by simp [IntKind.wrap, IntKind.bits, IntKind.signed]; omega
    have w18 : IntKind.u16.wrap b18 = b18 := by simp [IntKind.wrap, IntKind.bits, IntKind.signed]; omega
    have n4 : ¬ c = 4 := by omega
    have n8 : ¬ c = 8 := by omega
    have n12 : ¬ c = 12 := by omega
    have n16 : ¬ c = 16 := by omega
    have n18 : ¬ c = 18 := by omega
    have HAb := Lib.hid hab
    have l2 : (2 : Int) ≤ c := by omega
    have m2 : 2 ≤ c := by omega
    have l8 : (8 : Int) ≤ c := by omega
    have m8 : 8 ≤ c := by omega
    have l12 : (12 : Int) ≤ c := by omega
    have m12 : 12 ≤ c := by omega
    have l16 : (16 : Int) ≤ c := by omega
    have m16 : 16 ≤ c := by omega
    have l18 : (18 : Int) ≤ c := by omega
    have m18 : 18 ≤ c := by omega
    have l20 : (20 : Int) ≤ c := by omega
    have m20 : 20 ≤ c := by omega
    have h20n : 20 ≤ n := by omega
    have i2 : (2 : Int) < n := by omega
    have i3 : (3 : Int) < n := by omega
    have i2' : 2 < n := by omega
    have i3' : 3 < n := by omega
    clear hS HZ HB hx hx0 C0 C4 C8 C12 C16 C18 hhd e1 e2 hb0 hc2 hc3 hx2 hx3 ho hl q0 q16 q18 hab
    go_enter Tryd.func7, Tryd.ntmps7
    go_wp2_with fail
    refine wp_region_s (fun W : World => W.cell? ⟨ad.block, ad.off + 2, none⟩ = some (.int .u8 o2) ∧ W.cell? ⟨ad.block, ad.off + 3, none⟩ = some (.int .u8 o3)) [(0, true), (1, true), (4, true), (5, true), (7, true), (8, true), (10, true), (11, true), (13, true), (14, true), (16, true), (17, true), (20, true), (21, true), (24, true), (25, true), (6, true), (9, true), (2, false), (3, true), (12, false), (15, false), (18, false), (19, true), (22, false), (23, true), (26, false), (27, true), (28, true), (29, false), (30, true)] (by kernel_rfl) (fun _ d _ _ _ h => by cases d <;> exact h) ?_
    simp only [List.map_cons, List.map_nil, nthOp_zero, nthOp_succ]
    generalize (w.alloc (.cells #[.int .u16 0, .int .u8 0, .int .u8 0, .int .u32 0, .int .u32 0, .int .i32 0, .int .u16 0, .int .u16 0] 28)).drew = v at *
    refine wpS_take HS (by rfl) (by intro W hW; obtain ⟨hW1, hW2⟩ := hW; go_simp; try with_reducible rfl) ?_
    refine wpS_take HS (by rfl) (by intro W hW; obtain ⟨hW1, hW2⟩ := hW; go_simp; try with_reducible rfl) ?_
    refine wpS_take HS (by rfl) (by intro W hW; obtain ⟨hW1, hW2⟩ := hW; go_simp; try with_reducible rfl) ?_
    refine wpS_take HS (by rfl) (by intro W hW; obtain ⟨hW1, hW2⟩ := hW; go_simp; try with_reducible rfl) ?_
    refine wpS_take HS (by rfl) (by intro W hW; obtain ⟨hW1, hW2⟩ := hW; go_simp; try with_reducible rfl) ?_
    refine wpS_take HS (by rfl) (by intro W hW; obtain ⟨hW1, hW2⟩ := hW; go_simp; try with_reducible rfl) ?_
    refine wpS_take HS (by rfl) (by intro W hW; obtain ⟨hW1, hW2⟩ := hW; go_simp; try with_reducible rfl) ?_
    refine wpS_take HS (by rfl) (by intro W hW; obtain ⟨hW1, hW2⟩ := hW; go_simp; try with_reducible rfl) ?_
    refine wpS_take HS (by rfl) (by intro W hW; obtain ⟨hW1, hW2⟩ := hW; go_simp; try with_reducible rfl) ?_
    refine wpS_take HS (by rfl) (by intro W hW; obtain ⟨hW1, hW2⟩ := hW; go_simp; try with_reducible rfl) ?_
    refine wpS_take HS (by rfl) (by intro W hW; obtain ⟨hW1, hW2⟩ := hW; go_simp; try with_reducible rfl) ?_
    refine wpS_take HS (by rfl) (by intro W hW; obtain ⟨hW1, hW2⟩ := hW; go_simp; try with_reducible rfl) ?_
    refine wpS_take HS (by rfl) (by intro W hW; obtain ⟨hW1, hW2⟩ := hW; go_simp; try with_reducible rfl) ?_
    refine wpS_take HS (by rfl) (by intro W hW; obtain ⟨hW1, hW2⟩ := hW; go_simp; try with_reducible rfl) ?_
    refine wpS_take HS (by rfl) (by intro W hW; obtain ⟨hW1, hW2⟩ := hW; go_simp; try with_reducible rfl) ?_
    refine wpS_take HS (by rfl) (by intro W hW; obtain ⟨hW1, hW2⟩ := hW; go_simp; try with_reducible rfl) ?_
    refine wpS_take HS (by rfl) (by intro W hW; obtain ⟨hW1, hW2⟩ := hW; go_simp; try with_reducible rfl) ?_
    refine wpS_take HS (by rfl) (by intro W hW; obtain ⟨hW1, hW2⟩ := hW; go_simp; try with_reducible rfl) ?_
    go_simp
    refine wpS_do fun K hK => ?_
    go_wp2_with fail
    refine N0.out.mono ?_
    rintro e v' ⟨rfl, hv'⟩
    obtain rfl : v = v' := hv'
    go_wp2_with fail
    refine hK.out _ _ HS.out ?_
    clear hK K
    refine wpS_take HS (by rfl) (by intro W hW; obtain ⟨hW1, hW2⟩ := hW; go_simp; try with_reducible rfl) ?_
    go_simp
    refine wpS_do fun K hK => ?_
    go_wp2_with fail
    refine N4.out.mono ?_
    rintro e v' ⟨rfl, hv'⟩
    obtain rfl : v = v' := hv'
    go_wp2_with fail
    refine hK.out _ _ HS.out ?_
    clear hK K
    go_simp
    refine wpS_do fun K hK => ?_
    go_wp2_with fail
    refine N8.out.mono ?_
    rintro e v' ⟨rfl, hv'⟩
    obtain rfl : v = v' := hv'
    go_wp2_with fail
    refine hK.out _ _ HS.out ?_
    clear hK K
    go_simp
    refine wpS_do fun K hK => ?_
    go_wp2_with fail
    refine N12.out.mono ?_
    rintro e v' ⟨rfl, hv'⟩
    obtain rfl : v = v' := hv'
    go_wp2_with fail
    refine hK.out _ _ HS.out ?_
    clear hK K
    refine wpS_take HS (by rfl) (by intro W hW; obtain ⟨hW1, hW2⟩ := hW; go_simp; try with_reducible rfl) ?_
    go_simp
    refine wpS_do fun K hK => ?_
    go_wp2_with fail
    refine N16.out.mono ?_
    rintro e v' ⟨rfl, hv'⟩
    obtain rfl : v = v' := hv'
    go_wp2_with fail
    refine hK.out _ _ HS.out ?_
    clear hK K
    refine wpS_take HS (by rfl) (by intro W hW; obtain ⟨hW1, hW2⟩ := hW; go_simp; try with_reducible rfl) ?_
    go_simp
    refine wpS_do fun K hK => ?_
    go_wp2_with fail
    refine N18.out.mono ?_
    rintro e v' ⟨rfl, hv'⟩
    obtain rfl : v = v' := hv'
    go_wp2_with fail
    refine hK.out _ _ HS.out ?_
    clear hK K
    refine wpS_take HS (by rfl) (by intro W hW; obtain ⟨hW1, hW2⟩ := hW; go_simp; try with_reducible rfl) ?_
    refine wpS_take HS (by rfl) (by intro W hW; obtain ⟨hW1, hW2⟩ := hW; go_simp; try with_reducible rfl) ?_
    go_simp
    refine wpS_do fun K hK => ?_
    go_wp2_with (refine wpList_store_row rfl 28 _ _ rfl w.heap.size #[.int .u16 b0, .int .u8 o2, .int .u8 o3, .int .u32 b4, .int .u32 b8, .int .i32 (IntKind.i32.wrap b12), .int .u16 b16, .int .u16 b18] rfl rfl 28 _ HZd.out info_head rfl (by simp [Value.oneCell']) ?_)
    have hbs : Below w.heap.size v (v.setRow w.heap.size #[.int .u16 b0, .int .u8 o2, .int .u8 o3, .int .u32 b4, .int .u32 b8, .int .i32 (IntKind.i32.wrap b12), .int .u16 b16, .int .u16 b18]) := below_setRow (Below.refl _ _) (Nat.le_refl _) _
    have HS2 : Hid ((fun W : World => W.cell? ⟨ad.block, ad.off + 2, none⟩ = some (.int .u8 o2) ∧ W.cell? ⟨ad.block, ad.off + 3, none⟩ = some (.int .u8 o3)) (v.setRow w.heap.size #[.int .u16 b0, .int .u8 o2, .int .u8 o3, .int .u32 b4, .int .u32 b8, .int .i32 (IntKind.i32.wrap b12), .int .u16 b16, .int .u16 b18])) := Lib.hid ⟨(hbs.cell (p := ⟨ad.block, ad.off + 2, none⟩) HAb.out).trans HS.out.1, (hbs.cell (p := ⟨ad.block, ad.off + 3, none⟩) HAb.out).trans HS.out.2⟩
    refine hK.out _ _ HS2.out ?_
    clear hK K hbs
    refine wpS_take HS2 (by rfl) (by intro W hW; clear hW; go_simp; try with_reducible rfl) ?_
    refine wpS_nil ?_
    go_simp
    go_wp2_with fail
    exact bodyPost_ret (results_cell_row_tmp rfl _ _ w.heap.size 28 #[.int .u16 b0, .int .u8 o2, .int .u8 o3, .int .u32 b4, .int .u32 b8, .int .i32 (IntKind.i32.wrap b12), .int .u16 b16, .int .u16 b18] (0, 0) _ rfl (HZd.out.setRow _) Tryd.underlying28 rfl info_head) rfl ⟨by rw [← i32w b12]; rfl, below_setRow HBd.out (Nat.le_refl _) _⟩
end Go.Proofs.YtljedcfpbdompaaDoor
namespace Go.Proofs.YtljedcfpbdompaaDoor
set_option linter.unusedVariables false
open Go.RowKit Go.ChangeShapes Go.WideShapes

set_option maxRecDepth 100000 in
set_option maxHeartbeats 8000000 in
theorem refRead_no (A : Option Addr) (n c : Nat) (xs : List Int) (w : World) (hx : Reads w w.heap.size 1 A n (u8s xs)) (ho : Oct xs) (hc : n ≤ c) (hcm : c ≤ 9223372036854775807) (hn : n ≤ 140737488355328) (he : rdE xs ≠ 0) :
    Calls Tryd.prog 9 #[.slice A n c] w fun e w' => e = .returned (.tuple #[zeroSt, .int .i64 0, .int .i64 (rdE xs)]) ∧ Below w.heap.size w w' := by
  have hl := hx.u8len
  have hb0 : Below w.heap.size w (w.alloc (.cells zC 33)) := (Below.refl _ _).alloc (Nat.le_refl _) _
  have HZ := Lib.hid (Blk.new w 33 zC)
  have HB := Lib.hid hb0
  have HX := Lib.hid (And.intro (hx.later hb0) (And.intro ho hl))
  have HC : Hid ((xs.length < 20 ∧ rdE xs = 10) ∨ (20 ≤ xs.length ∧ (hdAt xs 0).len < 20 ∧ rdE xs = 22) ∨ (20 ≤ xs.length ∧ ¬ (hdAt xs 0).len < 20 ∧ (xs.length : Int) < (hdAt xs 0).len ∧ rdE xs = 10)) := Lib.hid (by
    unfold rdE at *
    by_cases h1 : xs.length < 20
    · exact .inl ⟨h1, if_pos h1⟩
    · rw [if_neg h1] at *
      by_cases h2 : (hdAt xs 0).len < 20
      · exact .inr (.inl ⟨by omega, h2, if_pos h2⟩)
      · rw [if_neg h2] at *
        by_cases h3 : (xs.length : Int) < (hdAt xs 0).len
        · exact .inr (.inr ⟨by omega, h2, h3, if_pos h3⟩)
        · rw [if_neg h3] at he
          exact absurd rfl he)
  generalize rdE xs = E at *
  clear hx ho hl hb0 he
  go_enter Tryd.func9, Tryd.ntmps9
  go_wp2_with fail
  unfold zC at *
  generalize hgr : w.heap.size = gr at *
  have HGR := Lib.hid hgr
  clear hgr
  generalize w.alloc (.cells #[.int .u16 0, .int .u8 0, .int .u8 0, .int .u32 0, .int .u32 0, .int .i32 0, .int .u16 0, .int .u16 0, .slice none 0 0] 33) = w1 at *
  have HD := refReadHead_any A n c xs w1 HX.out.1 HX.out.2.1 hc hcm hn
  have ENDS : ∀ (W : World) (b : Below gr w W) (z : Blk W gr 33 #[.int .u16 0, .int .u8 0, .int .u8 0, .int .u32 0, .int .u32 0, .int .i32 0, .int .u16 0, .int .u16 0, .slice none 0 0]) (cs : Array Value), Below gr w (W.setRow gr cs) := fun W b _ cs => below_setRow b (Nat.le_refl _) cs
  have HE := Lib.hid ENDS
  clear ENDS
  rcases HC.out with ⟨h1, hE⟩ | ⟨h1, h2, hE⟩ | ⟨h1, h2, h3, hE⟩
  · rw [(rh_no h1).1, (rh_no h1).2] at HD
    refine HD.mono ?_
    clear HD
    rintro e w2 ⟨rfl, hb2⟩
    have HZ3 := Lib.hid ((HZ.out.later hb2).alloc (.cells #[.int .u16 0, .int .u8 0, .int .u8 0, .int .u32 0, .int .u32 0, .int .i32 0, .int .u16 0, .int .u16 0] 28))
    have hb3 : Below w.heap.size w w2 := below_then (by rw [HGR.out]; exact HB.out) hb2
    have HB3 : Hid (Below gr w (w2.alloc (.cells #[.int .u16 0, .int .u8 0, .int .u8 0, .int .u32 0, .int .u32 0, .int .i32 0, .int .u16 0, .int .u16 0] 28))) := Lib.hid (by rw [← HGR.out]; exact hb3.alloc hb3.size _)
    subst hE
    clear hb2 hb3 HC h1
    go_wp2_with (refine wpList_store_row rfl 33 _ _ rfl gr #[.int .u16 0, .int .u8 0, .int .u8 0, .int .u32 0, .int .u32 0, .int .i32 0, .int .u16 0, .int .u16 0, .slice none 0 0] rfl rfl 33 _ HZ3.out info_state rfl (by simp [Value.oneCell']) ?_)
    exact bodyPost_ret (results_cell_row_tmp2 rfl _ _ gr 33 #[.int .u16 0, .int .u8 0, .int .u8 0, .int .u32 0, .int .u32 0, .int .i32 0, .int .u16 0, .int .u16 0, .slice none 0 0] (0, 0) _ rfl (HZ3.out.setRow _) Tryd.underlying33 rfl info_state) rfl ⟨rfl, by rw [HGR.out]; exact HE.out _ HB3.out HZ3.out _⟩
  · rw [(rh_yes h1).1, (rh_yes h1).2] at HD
    obtain ⟨H, hH⟩ : ∃ H, hdAt xs 0 = H := ⟨_, rfl⟩
    rw [hH] at HD h2
    refine HD.mono ?_
    clear HD
    rintro e w2 ⟨rfl, hb2⟩
    have HZ3 := Lib.hid ((HZ.out.later hb2).alloc (.cells #[.int .u16 H.age, .int .u8 H.opts, .int .u8 H.typ, .int .u32 H.id, .int .u32 H.adv, .int .i32 H.seq, .int .u16 H.sum, .int .u16 H.len] 28))
    have hb3 : Below w.heap.size w w2 := below_then (by rw [HGR.out]; exact HB.out) hb2
    have HB3 : Hid (Below gr w (w2.alloc (.cells #[.int .u16 H.age, .int .u8 H.opts, .int .u8 H.typ, .int .u32 H.id, .int .u32 H.adv, .int .i32 H.seq, .int .u16 H.sum, .int .u16 H.len] 28))) := Lib.hid (by rw [← HGR.out]; exact hb3.alloc hb3.size _)
    subst hE
    have d1 : decide (H.len < 20) = true := decide_eq_true h2
    have hwm : IntKind.i64.wrap H.len = H.len := by have hok := (hdAt_ok HX.out.2.1 0).len; rw [hH] at hok; rw [IntKind.wrap_i64]; omega
    clear hb2 hb3 HC h1 hH h2
    go_wp2_with (refine wpList_store_row rfl 33 _ _ rfl gr #[.int .u16 0, .int .u8 0, .int .u8 0, .int .u32 0, .int .u32 0, .int .i32 0, .int .u16 0, .int .u16 0, .slice none 0 0] rfl rfl 33 _ HZ3.out info_state rfl (by simp [Value.oneCell']) ?_)
    exact bodyPost_ret (results_cell_row_tmp2 rfl _ _ gr 33 #[.int .u16 0, .int .u8 0, .int .u8 0, .int .u32 0, .int .u32 0, .int .i32 0, .int .u16 0, .int .u16 0, .slice none 0 0] (0, 0) _ rfl (HZ3.out.setRow _) Tryd.underlying33 rfl info_state) rfl ⟨rfl, by rw [HGR.out]; exact HE.out _ HB3.out HZ3.out _⟩
  · rw [(rh_yes h1).1, (rh_yes h1).2] at HD
    have hok := (hdAt_ok HX.out.2.1 0).len
    obtain ⟨H, hH⟩ : ∃ H, hdAt xs 0 = H := ⟨_, rfl⟩
    rw [hH] at HD h2 h3 hok
    rw [HX.out.2.2] at h3
    refine HD.mono ?_
    clear HD
    rintro e w2 ⟨rfl, hb2⟩
    have HZ3 := Lib.hid ((HZ.out.later hb2).alloc (.cells #[.int .u16 H.age, .int .u8 H.opts, .int .u8 H.typ, .int .u32 H.id, .int .u32 H.adv, .int .i32 H.seq, .int .u16 H.sum, .int .u16 H.len] 28))
    have hb3 : Below w.heap.size w w2 := below_then (by rw [HGR.out]; exact HB.out) hb2
    have HB3 : Hid (Below gr w (w2.alloc (.cells #[.int .u16 H.age, .int .u8 H.opts, .int .u8 H.typ, .int .u32 H.id, .int .u32 H.adv, .int .i32 H.seq, .int .u16 H.sum, .int .u16 H.len] 28))) := Lib.hid (by rw [← HGR.out]; exact hb3.alloc hb3.size _)
    subst hE
    have d1 : decide (H.len < 20) = false := decide_eq_false (by omega)
    have d2 : decide ((n : Int) < H.len) = true := decide_eq_true h3
    have hwm : IntKind.i64.wrap H.len = H.len := by rw [IntKind.wrap_i64]; omega
    clear hb2 hb3 HC h1 hH h2 h3
    go_wp2_with (refine wpList_store_row rfl 33 _ _ rfl gr #[.int .u16 0, .int .u8 0, .int .u8 0, .int .u32 0, .int .u32 0, .int .i32 0, .int .u16 0, .int .u16 0, .slice none 0 0] rfl rfl 33 _ HZ3.out info_state rfl (by simp [Value.oneCell']) ?_)
    exact bodyPost_ret (results_cell_row_tmp2 rfl _ _ gr 33 #[.int .u16 0, .int .u8 0, .int .u8 0, .int .u32 0, .int .u32 0, .int .i32 0, .int .u16 0, .int .u16 0, .slice none 0 0] (0, 0) _ rfl (HZ3.out.setRow _) Tryd.underlying33 rfl info_state) rfl ⟨rfl, by rw [HGR.out]; exact HE.out _ HB3.out HZ3.out _⟩
set_option maxRecDepth 100000 in
set_option maxHeartbeats 8000000 in
theorem refRead_yes (A : Option Addr) (n c : Nat) (xs : List Int) (w : World) (hx : Reads w w.heap.size 1 A n (u8s xs)) (ho : Oct xs) (hc : n ≤ c) (hcm : c ≤ 9223372036854775807) (hn : n ≤ 140737488355328) (he : rdE xs = 0) :
    Calls Tryd.prog 9 #[.slice A n c] w fun e w' => ∃ s', e = .returned (.tuple #[s'.v, .int .i64 (hdAt xs 0).len, .int .i64 0]) ∧ RdS w w' xs s' ∧ Below w.heap.size w w' := by
  have hl := hx.u8len
  have hb0 : Below w.heap.size w (w.alloc (.cells zC 33)) := (Below.refl _ _).alloc (Nat.le_refl _) _
  have HZ := Lib.hid (Blk.new w 33 zC)
  have HB := Lib.hid hb0
  have HX := Lib.hid (And.intro (hx.later hb0) (And.intro ho hl))
  obtain ⟨h1, h2, h3⟩ : 20 ≤ xs.length ∧ 20 ≤ (hdAt xs 0).len ∧ (hdAt xs 0).len ≤ xs.length := by
    unfold rdE at he
    split at he
    · cases he
    · split at he
      · cases he
      · split at he
        · cases he
        · omega
  have hok := hdAt_ok ho 0
  obtain ⟨m, hm⟩ : ∃ m : Nat, (hdAt xs 0).len = m := ⟨(hdAt xs 0).len.toNat, by omega⟩
  have hm20 : 20 ≤ m := by omega
  have hmn : m ≤ n := by omega
  have hm16 : m ≤ 65535 := by have := hok.len; omega
  obtain ⟨H, hH⟩ : ∃ H, hdAt xs 0 = H := ⟨_, rfl⟩
  rw [hH] at hm h2 h3 hok
  obtain ⟨ha, hp, ht, hi, hv, hs, hu, hln⟩ := H
  have hm' : hln = m := hm
  subst hm'
  clear hm
  have HL := Lib.hid (And.intro hH hok)
  obtain ⟨B, hB⟩ : ∃ B, (xs.take m).drop 20 = B := ⟨_, rfl⟩
  have HBl : Hid (B.length = m - 20) := Lib.hid (by rw [← hB]; exact take_drop_len xs (by omega))
  have HBB := Lib.hid hB
  have d1 : decide ((m : Int) < 20) = false := decide_eq_false (by omega)
  have d2 : decide ((n : Int) < m) = false := decide_eq_false (by omega)
  have hmI : (20 : Int) ≤ m := by omega
  have hmc : (m : Int) ≤ c := by omega
  have RH := Lib.hid (rh_yes h1)
  have hwm : IntKind.i64.wrap (m : Int) = m := by rw [IntKind.wrap_i64]; omega
  rw [hH]
  clear hx ho hl hb0 he h1 h2 h3 hok hB
  go_enter Tryd.func9, Tryd.ntmps9
  go_wp2_with fail
  unfold zC at *
  generalize hgr : w.heap.size = gr at *
  have HGR := Lib.hid hgr
  clear hgr
  generalize w.alloc (.cells #[.int .u16 0, .int .u8 0, .int .u8 0, .int .u32 0, .int .u32 0, .int .i32 0, .int .u16 0, .int .u16 0, .slice none 0 0] 33) = w1 at *
  have HD := refReadHead_any A n c xs w1 HX.out.1 HX.out.2.1 (by omega) hcm hn
  rw [RH.out.1, RH.out.2, hH] at HD
  refine HD.mono ?_
  clear HD hH
  rintro e w2 ⟨rfl, hb2⟩
  have hb3 : Below w.heap.size w w2 := below_then (by rw [HGR.out]; exact HB.out) hb2
  have hb4 : Below w2.heap.size w2 (w2.alloc (.cells #[.int .u16 ha, .int .u8 hp, .int .u8 ht, .int .u32 hi, .int .u32 hv, .int .i32 hs, .int .u16 hu, .int .u16 (m : Int)] 28)) := (Below.refl _ _).alloc (Nat.le_refl _) _
  have HZ3 := Lib.hid ((HZ.out.later hb2).later hb4)
  have HB3 := Lib.hid (below_then hb3 hb4)
  have HX3 := Lib.hid ((HX.out.1.later hb2).later hb4)
  have HH3 : Hid (HdBl (w2.alloc (.cells #[.int .u16 ha, .int .u8 hp, .int .u8 ht, .int .u32 hi, .int .u32 hv, .int .i32 hs, .int .u16 hu, .int .u16 (m : Int)] 28)) w2.heap.size ⟨ha, hp, ht, hi, hv, hs, hu, m⟩) := Lib.hid (HdBlk.cells (Blk.new _ _ _))
  obtain ⟨a0, a1, a2, a3, a4, a5, a6, a7⟩ := HH3.out
  have HGH : Hid (gr < w2.heap.size) := Lib.hid (by have := (HZ.out.later hb2).lt; exact this)
  clear hb2 hb3 hb4
  have hb6 : Below (w2.alloc (.cells #[.int .u16 ha, .int .u8 hp, .int .u8 ht, .int .u32 hi, .int .u32 hv, .int .i32 hs, .int .u16 hu, .int .u16 (m : Int)] 28)).heap.size (w2.alloc (.cells #[.int .u16 ha, .int .u8 hp, .int .u8 ht, .int .u32 hi, .int .u32 hv, .int .i32 hs, .int .u16 hu, .int .u16 (m : Int)] 28)) ((w2.alloc (.cells #[.int .u16 ha, .int .u8 hp, .int .u8 ht, .int .u32 hi, .int .u32 hv, .int .i32 hs, .int .u16 hu, .int .u16 (m : Int)] 28)).alloc (.cells #[.int .u16 ha, .int .u8 hp, .int .u8 ht, .int .u32 hi, .int .u32 hv, .int .i32 hs, .int .u16 hu, .int .u16 (m : Int), .slice none 0 0] 33)) := (Below.refl _ _).alloc (Nat.le_refl _) _
  have HZ6 := Lib.hid (HZ3.out.later hb6)
  have HB6 := Lib.hid (below_then HB3.out hb6)
  have HX6 := Lib.hid (HX3.out.later hb6)
  have HS6 : Hid (Blk ((w2.alloc (.cells #[.int .u16 ha, .int .u8 hp, .int .u8 ht, .int .u32 hi, .int .u32 hv, .int .i32 hs, .int .u16 hu, .int .u16 (m : Int)] 28)).alloc (.cells #[.int .u16 ha, .int .u8 hp, .int .u8 ht, .int .u32 hi, .int .u32 hv, .int .i32 hs, .int .u16 hu, .int .u16 (m : Int), .slice none 0 0] 33)) (w2.alloc (.cells #[.int .u16 ha, .int .u8 hp, .int .u8 ht, .int .u32 hi, .int .u32 hv, .int .i32 hs, .int .u16 hu, .int .u16 (m : Int)] 28)).heap.size 33 #[.int .u16 ha, .int .u8 hp, .int .u8 ht, .int .u32 hi, .int .u32 hv, .int .i32 hs, .int .u16 hu, .int .u16 (m : Int), .slice none 0 0]) := Lib.hid (Blk.new _ _ _)
  have HG6 : Hid (gr < (w2.alloc (.cells #[.int .u16 ha, .int .u8 hp, .int .u8 ht, .int .u32 hi, .int .u32 hv, .int .i32 hs, .int .u16 hu, .int .u16 (m : Int)] 28)).heap.size) := Lib.hid HZ3.out.lt
  clear hb6
  go_wp2_with fail
  clear a0 a1 a2 a3 a4 a5 a6 a7 HH3 HX3 HZ3 HB3
  rw [show (w2.alloc (.cells #[.int .u16 ha, .int .u8 hp, .int .u8 ht, .int .u32 hi, .int .u32 hv, .int .i32 hs, .int .u16 hu, .int .u16 (m : Int)] 28)).heap.size = w2.heap.size + 1 from World.size_alloc _ _] at HS6 HG6
  generalize w2.heap.size + 1 = gs at *
  generalize (w2.alloc (.cells #[.int .u16 ha, .int .u8 hp, .int .u8 ht, .int .u32 hi, .int .u32 hv, .int .i32 hs, .int .u16 hu, .int .u16 (m : Int)] 28)).alloc (.cells #[.int .u16 ha, .int .u8 hp, .int .u8 ht, .int .u32 hi, .int .u32 hv, .int .i32 hs, .int .u16 hu, .int .u16 (m : Int), .slice none 0 0] 33) = w3 at *
  have HR0 := Lib.hid ((HX6.out.u8pre hmn).u8cut (k := 20) (cap := c) hm20 (by omega))
  rw [HBB.out] at HR0
  by_cases hc20 : c = 20
  · have HR : Hid (Reads w3 w3.heap.size 1 A (m - 20) (u8s B)) := Lib.hid (by have := HR0.out; rwa [if_pos hc20] at this)
    clear HR0 HX6
    subst hc20
    have hm20i : (m : Int) ≤ 20 := by omega
    have HS : Hid ((fun W : World => W.cell? ⟨gs, 8, none⟩ = some (.slice none 0 0)) w3.drew) := Lib.hid (HS6.out.cell 8)
    refine wp_region_g (fun W : World => W.cell? ⟨gs, 8, none⟩ = some (.slice none 0 0)) [.take 0, .take 2, .take 3, .take 4, .take 1, .one 5, .take 6, .one 7] (by kernel_rfl) (fun _ d _ _ _ h => by cases d <;> exact h) ?_
    simp only [List.map_cons, List.map_nil, RStep.node, nthOp_zero, nthOp_succ]
    replace HZ6 := Lib.hid (show Blk w3.drew gr 33 _ from HZ6.out)
    replace HB6 := Lib.hid (show Below w.heap.size w w3.drew from HB6.out.drew)
    replace HS6 := Lib.hid (show Blk w3.drew gs 33 _ from HS6.out)
    replace HR := Lib.hid (show Reads w3.drew w3.drew.heap.size 1 A (m - 20) (u8s B) from HR.out)
    generalize w3.drew = w4 at *
    refine wpG_take HS (by rfl) (by intro W hW; go_simp; try with_reducible rfl) ?_
    refine wpG_take HS (by rfl) (by intro W hW; go_simp; try with_reducible rfl) ?_
    refine wpG_take HS (by rfl) (by intro W hW; go_simp; try with_reducible rfl) ?_
    refine wpG_take HS (by rfl) (by intro W hW; go_simp; try with_reducible rfl) ?_
    refine wpG_take HS (by rfl) (by intro W hW; go_simp; try with_reducible rfl) ?_
    go_simp
    refine wpG_do fun K hK => ?_
    go_wp2_with (at_builtin; go_must (refine wpList_app el_u8 rfl (.tmp 32) (.tmp 35) rfl (World.ownsRow_nil w4 w4.heap.size 5 1) rfl HR.out rfl u8s_one (by simp only [maxLen]; omega) (by omega) (Nat.le_refl _) ?_); intro v5 w5 ho5 hb5 _ _; simp only [Nat.zero_add, List.nil_append] at ho5; obtain ⟨A5, c5, hv5, -⟩ := own_shape ho5; subst hv5; have HO5 := Lib.hid ho5; have HB5 := Lib.hid hb5; clear ho5 hb5)
    have HS5 : Hid ((fun W : World => W.cell? ⟨gs, 8, none⟩ = some (.slice none 0 0)) w5) := Lib.hid ((HS6.out.later HB5.out).cell 8)
    refine hK.out _ _ HS5.out ?_
    clear hK K
    refine wpG_take HS5 (by rfl) (by intro W hW; go_simp; try with_reducible rfl) ?_
    go_simp
    refine wpG_last fun K hK => ?_
    have HX5 := Lib.hid (HS6.out.later HB5.out)
    have HZ5 := Lib.hid (HZ6.out.later HB5.out)
    have hB5 := below_then HB6.out HB5.out
    have f8 := HX5.out.frozen 8
    have y8 := HX5.out.cell 8
    go_wp2_with fail
    have HX7 : Hid (Blk (w5.setCell ⟨gs, 8, none⟩ (.slice A5 (m - 20) c5)) gs 33 #[.int .u16 ha, .int .u8 hp, .int .u8 ht, .int .u32 hi, .int .u32 hv, .int .i32 hs, .int .u16 hu, .int .u16 (m : Int), .slice A5 (m - 20) c5]) := Lib.hid (HX5.out.set_ 8 _)
    have HZ7 := Lib.hid (HZ5.out.far (p := ⟨gs, 8, none⟩) (Nat.ne_of_lt HG6.out) (.slice A5 (m - 20) c5))
    have hgw : w.heap.size ≤ gs := by have h1 := HGR.out; have h2 := HG6.out; omega
    have HB7 := Lib.hid (hB5.setCell (p := ⟨gs, 8, none⟩) hgw (.slice A5 (m - 20) c5))
    have hgs4 : gs < w4.heap.size := HS6.out.lt
    have HO7 := Lib.hid (own_kept HO5.out (kept_setC w5 gs 8 (.slice A5 (m - 20) c5)) (fun i hi e => by have h1 := (own_ge HO5.out hi).1; have h2 : i = gs := e; omega))
    have HW4 : Hid (w.heap.size ≤ w4.heap.size) := Lib.hid HB6.out.size
    refine hK.out _ _ ?_
    clear hK K f8 y8 hB5
    generalize w5.setCell ⟨gs, 8, none⟩ (.slice A5 (m - 20) c5) = w7 at *
    obtain ⟨y0, y1, y2, y3, y4, y5, y6, y7, y8⟩ := stC_facts (h := ⟨ha, hp, ht, hi, hv, hs, hu, m⟩) HX7.out
    dsimp only at y0 y1 y2 y3 y4 y5 y6 y7
    go_wp2_with (refine wpList_store_row rfl 33 _ _ rfl gr #[.int .u16 ha, .int .u8 hp, .int .u8 ht, .int .u32 hi, .int .u32 hv, .int .i32 hs, .int .u16 hu, .int .u16 (m : Int), .slice A5 (m - 20) c5] rfl rfl 33 _ HZ7.out info_state rfl (by simp [Value.oneCell']) ?_)
    refine bodyPost_ret (results_cell_row_tmp2 rfl _ _ gr 33 #[.int .u16 ha, .int .u8 hp, .int .u8 ht, .int .u32 hi, .int .u32 hv, .int .i32 hs, .int .u16 hu, .int .u16 (m : Int), .slice A5 (m - 20) c5] (0, 0) _ rfl (HZ7.out.setRow _) Tryd.underlying33 rfl info_state) rfl ⟨⟨⟨ha, hp, ht, hi, hv, hs, hu, m⟩, A5, m - 20, c5, B⟩, rfl, ⟨HL.out.1.symm, ?_, ?_, HL.out.2, ?_, ?_, ?_⟩, ?_⟩
    · show B = (xs.take (hdAt xs 0).len.toNat).drop 20
      rw [HL.out.1]
      exact HBB.out.symm
    · show ((m - 20 : Nat) : Int) = (hdAt xs 0).len - 20
      rw [HL.out.1]
      show ((m - 20 : Nat) : Int) = (m : Int) - 20
      omega
    · exact own_mono (own_kept HO7.out ((Kept.of_grown (only_setRow w7 gr _)).mono (T := fun i => i = gr) fun i _ e => by simpa using e.symm) (fun i hi e => by have h1 := (own_ge HO7.out hi).1; have h2 := HG6.out; have h3 : i = gr := e; omega)) HW4.out
    · rw [← HBB.out]
      exact (HX.out.2.1.take _).drop _
    · show m - 20 ≤ 1099511627776
      omega
    · exact below_setRow HB7.out (by rw [HGR.out]; exact Nat.le_refl _) _
  · have HR : Hid (Reads w3 w3.heap.size 1 (A.map (·.add 20)) (m - 20) (u8s B)) := Lib.hid (by have := HR0.out; rwa [if_neg hc20] at this)
    clear HR0 HX6
    have HS : Hid ((fun W : World => W.cell? ⟨gs, 8, none⟩ = some (.slice none 0 0)) w3.drew) := Lib.hid (HS6.out.cell 8)
    refine wp_region_g (fun W : World => W.cell? ⟨gs, 8, none⟩ = some (.slice none 0 0)) [.take 0, .take 2, .take 3, .take 4, .take 1, .one 5, .take 6, .one 7] (by kernel_rfl) (fun _ d _ _ _ h => by cases d <;> exact h) ?_
    simp only [List.map_cons, List.map_nil, RStep.node, nthOp_zero, nthOp_succ]
    replace HZ6 := Lib.hid (show Blk w3.drew gr 33 _ from HZ6.out)
    replace HB6 := Lib.hid (show Below w.heap.size w w3.drew from HB6.out.drew)
    replace HS6 := Lib.hid (show Blk w3.drew gs 33 _ from HS6.out)
    replace HR := Lib.hid (show Reads w3.drew w3.drew.heap.size 1 (A.map (·.add 20)) (m - 20) (u8s B) from HR.out)
    generalize w3.drew = w4 at *
    refine wpG_take HS (by rfl) (by intro W hW; go_simp; try with_reducible rfl) ?_
    refine wpG_take HS (by rfl) (by intro W hW; go_simp; try with_reducible rfl) ?_
    refine wpG_take HS (by rfl) (by intro W hW; go_simp; try with_reducible rfl) ?_
    refine wpG_take HS (by rfl) (by intro W hW; go_simp; try with_reducible rfl) ?_
    refine wpG_take HS (by rfl) (by intro W hW; go_simp; try with_reducible rfl) ?_
    go_simp
    refine wpG_do fun K hK => ?_
    go_wp2_with (at_builtin; go_must (refine wpList_app el_u8 rfl (.tmp 32) (.tmp 35) rfl (World.ownsRow_nil w4 w4.heap.size 5 1) rfl HR.out rfl u8s_one (by simp only [maxLen]; omega) (by omega) (Nat.le_refl _) ?_); intro v5 w5 ho5 hb5 _ _; simp only [Nat.zero_add, List.nil_append] at ho5; obtain ⟨A5, c5, hv5, -⟩ := own_shape ho5; subst hv5; have HO5 := Lib.hid ho5; have HB5 := Lib.hid hb5; clear ho5 hb5)
    have HS5 : Hid ((fun W : World => W.cell? ⟨gs, 8, none⟩ = some (.slice none 0 0)) w5) := Lib.hid ((HS6.out.later HB5.out).cell 8)
    refine hK.out _ _ HS5.out ?_
    clear hK K
    refine wpG_take HS5 (by rfl) (by intro W hW; go_simp; try with_reducible rfl) ?_
    go_simp
    refine wpG_last fun K hK => ?_
    have HX5 := Lib.hid (HS6.out.later HB5.out)
    have HZ5 := Lib.hid (HZ6.out.later HB5.out)
    have hB5 := below_then HB6.out HB5.out
    have f8 := HX5.out.frozen 8
    have y8 := HX5.out.cell 8
    go_wp2_with fail
    have HX7 : Hid (Blk (w5.setCell ⟨gs, 8, none⟩ (.slice A5 (m - 20) c5)) gs 33 #[.int .u16 ha, .int .u8 hp, .int .u8 ht, .int .u32 hi, .int .u32 hv, .int .i32 hs, .int .u16 hu, .int .u16 (m : Int), .slice A5 (m - 20) c5]) := Lib.hid (HX5.out.set_ 8 _)
    have HZ7 := Lib.hid (HZ5.out.far (p := ⟨gs, 8, none⟩) (Nat.ne_of_lt HG6.out) (.slice A5 (m - 20) c5))
    have hgw : w.heap.size ≤ gs := by have h1 := HGR.out; have h2 := HG6.out; omega
    have HB7 := Lib.hid (hB5.setCell (p := ⟨gs, 8, none⟩) hgw (.slice A5 (m - 20) c5))
    have hgs4 : gs < w4.heap.size := HS6.out.lt
    have HO7 := Lib.hid (own_kept HO5.out (kept_setC w5 gs 8 (.slice A5 (m - 20) c5)) (fun i hi e => by have h1 := (own_ge HO5.out hi).1; have h2 : i = gs := e; omega))
    have HW4 : Hid (w.heap.size ≤ w4.heap.size) := Lib.hid HB6.out.size
    refine hK.out _ _ ?_
    clear hK K f8 y8 hB5
    generalize w5.setCell ⟨gs, 8, none⟩ (.slice A5 (m - 20) c5) = w7 at *
    obtain ⟨y0, y1, y2, y3, y4, y5, y6, y7, y8⟩ := stC_facts (h := ⟨ha, hp, ht, hi, hv, hs, hu, m⟩) HX7.out
    dsimp only at y0 y1 y2 y3 y4 y5 y6 y7
    go_wp2_with (refine wpList_store_row rfl 33 _ _ rfl gr #[.int .u16 ha, .int .u8 hp, .int .u8 ht, .int .u32 hi, .int .u32 hv, .int .i32 hs, .int .u16 hu, .int .u16 (m : Int), .slice A5 (m - 20) c5] rfl rfl 33 _ HZ7.out info_state rfl (by simp [Value.oneCell']) ?_)
    refine bodyPost_ret (results_cell_row_tmp2 rfl _ _ gr 33 #[.int .u16 ha, .int .u8 hp, .int .u8 ht, .int .u32 hi, .int .u32 hv, .int .i32 hs, .int .u16 hu, .int .u16 (m : Int), .slice A5 (m - 20) c5] (0, 0) _ rfl (HZ7.out.setRow _) Tryd.underlying33 rfl info_state) rfl ⟨⟨⟨ha, hp, ht, hi, hv, hs, hu, m⟩, A5, m - 20, c5, B⟩, rfl, ⟨HL.out.1.symm, ?_, ?_, HL.out.2, ?_, ?_, ?_⟩, ?_⟩
    · show B = (xs.take (hdAt xs 0).len.toNat).drop 20
      rw [HL.out.1]
      exact HBB.out.symm
    · show ((m - 20 : Nat) : Int) = (hdAt xs 0).len - 20
      rw [HL.out.1]
      show ((m - 20 : Nat) : Int) = (m : Int) - 20
      omega
    · exact own_mono (own_kept HO7.out ((Kept.of_grown (only_setRow w7 gr _)).mono (T := fun i => i = gr) fun i _ e => by simpa using e.symm) (fun i hi e => by have h1 := (own_ge HO7.out hi).1; have h2 := HG6.out; have h3 : i = gr := e; omega)) HW4.out
    · rw [← HBB.out]
      exact (HX.out.2.1.take _).drop _
    · show m - 20 ≤ 1099511627776
      omega
    · exact below_setRow HB7.out (by rw [HGR.out]; exact Nat.le_refl _) _
end Go.Proofs.YtljedcfpbdompaaDoor
