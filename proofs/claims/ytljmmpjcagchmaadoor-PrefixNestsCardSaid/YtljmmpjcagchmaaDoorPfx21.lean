/-
  PrefixTexts, walked.
-/
import Derived.Test.YtljmmpjcagchmaaDoorPfx20
namespace Go.Proofs.YtljmmpjcagchmaaDoor
set_option linter.unusedVariables false
open Go.RowKit

theorem long_any (n : Nat) (w : World) (h : ¬ 2147483647 < n) : Calls Tryd.prog 13 #[.int .i64 n] w fun e w' => e = .returned (.bool false) ∧ w = w' := by
  have h1 : decide ((2147483647 : Int) < n) = false := decide_eq_false (by omega)
  go_enter Tryd.func13, Tryd.ntmps13
  go_wp2
  go_ret
  exact ⟨by first | rfl | (rw [h1]; rfl), rfl⟩
theorem longer_any (n : Nat) (w : World) (h : 2147483647 < n) : Calls Tryd.prog 13 #[.int .i64 n] w fun e w' => e = .returned (.bool true) ∧ w = w' := by
  have h1 : decide ((2147483647 : Int) < n) = true := decide_eq_true (by omega)
  go_enter Tryd.func13, Tryd.ntmps13
  go_wp2
  go_ret
  exact ⟨by first | rfl | (rw [h1]; rfl), rfl⟩
structure S7 (g h i : Nat) (p x : Pf) (W : World) : Prop where
  cp : Blk W g 31 (cellsP p)
  cx : Blk W h 31 (cellsP x)
  cy : Blk W i 31 (cellsP x)
theorem S7.later {g h i : Nat} {p x : Pf} {W W' : World} (s : S7 g h i p x W) (hb : Below W.heap.size W W') : S7 g h i p x W' := ⟨s.cp.later hb, s.cx.later hb, s.cy.later hb⟩
theorem S7.facts {g h i : Nat} {p x : Pf} {W : World} (s : S7 g h i p x W) : (W.cell? ⟨g, 0, none⟩ = some (.int .u32 p.a) ∧ W.cell? ⟨g, 1, none⟩ = some (.int .u8 p.n)) ∧
    W.cell? ⟨h, 0, none⟩ = some (.int .u32 x.a) ∧ W.cell? ⟨h, 1, none⟩ = some (.int .u8 x.n) ∧ W.cell? ⟨i, 0, none⟩ = some (.int .u32 x.a) ∧ W.cell? ⟨i, 1, none⟩ = some (.int .u8 x.n) :=
  ⟨⟨s.cp.cell 0, s.cp.cell 1⟩, s.cx.cell 0, s.cx.cell 1, s.cy.cell 0, s.cy.cell 1⟩
theorem S7.of {w1 w2 : World} {g : Nat} {p x : Pf} (hp : Blk w1 g 31 (cellsP p))
    (hb : Below (w1.alloc (.cells (cellsP x) 31)).heap.size (w1.alloc (.cells (cellsP x) 31)) w2) :
    S7 g w1.heap.size w2.heap.size p x (w2.alloc (.cells (cellsP x) 31)).drew :=
  ⟨(((hp.alloc _).later hb).alloc _).drewN 1, (((Blk.new w1 _ _).later hb).alloc _).drewN 1, (Blk.new w2 _ _).drewN 1⟩
theorem outN_ex (o : Option Nat) : ∃ (a e : Int), outN o = .tuple #[.int .u32 a, .int .i64 e] := by cases o <;> exact ⟨_, _, rfl⟩

set_option maxRecDepth 100000 in
set_option maxHeartbeats 8000000 in
theorem texts_any (s : ByteArray) (p : Pf) (w : World) (hp : p.ok) (hE : Env w) :
    Calls Tryd.prog 4 #[.string s, p.v] w fun e w' => e = .returned (.bool true) ∧ Below w.heap.size w w' := by
  obtain ⟨a, n⟩ := p
  have HE := Lib.hid hE
  clear hE
  have HL : Hid (∀ W : World, Env W → Calls Tryd.prog 7 #[] W fun e w' => e = .returned (.bool true) ∧ Below W.heap.size W w') := fun W h => lives_any W h
  show Calls Tryd.prog 4 #[.string s, .agg #[.int .u32 a, .int .u8 n]] w fun e w' => e = .returned (.bool true) ∧ Below w.heap.size w w'
  by_cases hl : 2147483647 < s.size
  · have HG := Lib.hid (fun W => longer_any s.size W hl)
    clear hp hl
    go_enter Tryd.func4, Tryd.ntmps4
    go_wp2_with fail
    refine (HG.out _).mono ?_
    rintro e w_ ⟨rfl, rfl⟩
    go_wp2_with fail
    have HB : Hid (Below w.heap.size w (w.alloc (.cells #[.int .u32 a, .int .u8 n] 31))) := Lib.hid ((Below.refl _ _).alloc (Nat.le_refl _) _)
    refine (HL.out _ (HE.out.later HB.out)).mono ?_
    rintro e w1 ⟨rfl, hb1⟩
    have HB2 := Lib.hid (below_then HB.out hb1)
    clear hb1 HB
    go_wp2_with fail
    go_ret
    exact ⟨rfl, HB2.out⟩
  have HG := Lib.hid (fun W => long_any s.size W hl)
  have hm : s.size ≤ 1099511627776 := by omega
  have HA1 : Hid (∀ W : World, Calls Tryd.prog 14 #[.string s] W fun e w' => e = .returned (outN (adP 3 (bytesOf s) 0)) ∧ Below W.heap.size W w') := Lib.hid (fun W => address_any W s hm)
  have HA2 : Hid (∀ W : World, Calls Tryd.prog 15 #[.string s] W fun e w' => e = .returned (outN (adP 3 (bytesOf s) 0)) ∧ Below W.heap.size W w') := Lib.hid (fun W => by rw [adP_adR]; exact refAddress_any W s hm)
  have HP1 : Hid (∀ W : World, Env W → Calls Tryd.prog 16 #[.string s] W fun e w' => e = .returned (outP (parseP (bytesOf s))) ∧ Below W.heap.size W w') := Lib.hid (fun W h => parse_any W s hm h)
  have HP2 : Hid (∀ W : World, Env W → Calls Tryd.prog 17 #[.string s] W fun e w' => e = .returned (outP (parseP (bytesOf s))) ∧ Below W.heap.size W w') := Lib.hid (fun W h => by rw [parse_eq]; exact refParse_any W s hm)
  have HD1 : Hid (∀ W : World, Env W → Calls Tryd.prog 18 #[.int .u32 a] W fun e w' => e = .returned (str (dotL a)) ∧ Below W.heap.size W w') := Lib.hid (fun W h => dotted_any a W hp.a h)
  have HD2 : Hid (∀ W : World, Env W → Calls Tryd.prog 19 #[.int .u32 a] W fun e w' => e = .returned (str (dotL a)) ∧ Below W.heap.size W w') := Lib.hid (fun W h => refDotted_any a W hp.a h)
  have HT1 : Hid (∀ W : World, Env W → Calls Tryd.prog 20 #[.agg #[.int .u32 a, .int .u8 n]] W fun e w' => e = .returned (str (textL a n)) ∧ Below W.heap.size W w') := Lib.hid (fun W h => text_any ⟨a, n⟩ W hp h)
  have HT2 : Hid (∀ W : World, Env W → Calls Tryd.prog 21 #[.agg #[.int .u32 a, .int .u8 n]] W fun e w' => e = .returned (str (textL a n)) ∧ Below W.heap.size W w') := Lib.hid (fun W h => refText_any ⟨a, n⟩ W hp h)
  clear hp hm hl
  obtain ⟨av, ae, h0⟩ := outN_ex (adP 3 (bytesOf s) 0)
  rw [h0] at HA1 HA2
  generalize parseP (bytesOf s) = q at *
  obtain ⟨⟨x, y⟩, ek⟩ := q
  simp only [outP_ok] at HP1 HP2
  obtain ⟨sd, hsd⟩ : ∃ sd, str (dotL a) = .string sd := ⟨_, rfl⟩
  obtain ⟨st, hst⟩ : ∃ st, str (textL a n) = .string st := ⟨_, rfl⟩
  rw [hsd] at HD1 HD2
  rw [hst] at HT1 HT2
  clear hsd hst h0
  go_enter Tryd.func4, Tryd.ntmps4
  go_wp2_with fail
  refine (HG.out _).mono ?_
  rintro e w_ ⟨rfl, rfl⟩
  go_wp2_with fail
  have HB0 : Hid (Below w.heap.size w (w.alloc (.cells #[.int .u32 a, .int .u8 n] 31))) := Lib.hid ((Below.refl _ _).alloc (Nat.le_refl _) _)
  have HK0 : Hid (Blk (w.alloc (.cells #[.int .u32 a, .int .u8 n] 31)) w.heap.size 31 (cellsP ⟨a, n⟩)) := Lib.hid (Blk.new _ _ _)
  refine (HA1.out _).mono ?_
  rintro e w1 ⟨rfl, hb⟩
  have HB1 := Lib.hid (below_then HB0.out hb)
  have HK1 := Lib.hid (HK0.out.later hb)
  clear hb HB0 HK0
  go_wp2_with fail
  refine (HA2.out _).mono ?_
  rintro e w2 ⟨rfl, hb⟩
  have HB2 := Lib.hid (below_then HB1.out hb)
  have HK2 := Lib.hid (HK1.out.later hb)
  clear hb HB1 HK1 w1
  go_wp2_with fail
  refine (HP1.out _ (HE.out.later HB2.out)).mono ?_
  rintro e w3 ⟨rfl, hb⟩
  have HB3 := Lib.hid (below_then HB2.out hb)
  have HK3 := Lib.hid (HK2.out.later hb)
  clear hb HB2 HK2 w2
  have HB4 : Hid (Below w.heap.size w (w3.alloc (.cells #[.int .u32 x, .int .u8 y] 31))) := Lib.hid (HB3.out.alloc (by have := HB3.out.size; omega) _)
  go_wp2_with fail
  refine (HP2.out _ (HE.out.later HB4.out)).mono ?_
  rintro e w4 ⟨rfl, hb⟩
  have HB5 := Lib.hid hb
  clear hb
  go_wp2_with fail
  have HS0 : Hid (S7 w.heap.size w3.heap.size w4.heap.size ⟨a, n⟩ ⟨x, y⟩ (w4.alloc (.cells #[.int .u32 x, .int .u8 y] 31)).drew) := Lib.hid (S7.of HK3.out HB5.out)
  have HB0 : Hid (Below w.heap.size w (w4.alloc (.cells #[.int .u32 x, .int .u8 y] 31)).drew) := Lib.hid (below_of (x := ⟨x, y⟩) HB3.out HB5.out)
  clear HB5 HB4 HB3 HK3
  refine wp_region_s (S7 w.heap.size w3.heap.size w4.heap.size ⟨a, n⟩ ⟨x, y⟩) [(0, true), (1, true), (2, true), (3, true), (4, true), (5, true), (6, true), (7, true), (8, true), (9, true), (10, true), (11, true), (12, true), (13, true), (14, true), (15, true), (16, true), (17, true), (18, true), (19, true), (22, true), (20, true), (23, true), (21, false), (24, false), (25, true), (26, true), (27, true), (28, true), (30, true), (29, false), (31, false), (32, true), (33, true), (34, true), (35, false), (36, true), (37, true)] (by kernel_rfl) (fun _ d _ _ _ h => by cases d <;> exact h) ?_
  simp only [List.map_cons, List.map_nil, nthOp_zero, nthOp_succ]
  generalize (w4.alloc (.cells #[.int .u32 x, .int .u8 y] 31)).drew = w0 at *
  generalize w3.heap.size = g1 at *
  generalize w4.heap.size = g2 at *
  clear w3 w4
  refine wpS_take HS0 (by kernel_rfl) (by intro W hW; clear hW; go_simp; try with_reducible rfl) ?_
  refine wpS_take HS0 (by kernel_rfl) (by intro W hW; clear hW; go_simp; try with_reducible rfl) ?_
  refine wpS_take HS0 (by kernel_rfl) (by intro W hW; clear hW; go_simp; try with_reducible rfl) ?_
  refine wpS_take HS0 (by kernel_rfl) (by intro W hW; clear hW; go_simp; try with_reducible rfl) ?_
  refine wpS_take HS0 (by kernel_rfl) (by intro W hW; clear hW; go_simp; try with_reducible rfl) ?_
  refine wpS_take HS0 (by kernel_rfl) (by intro W hW; clear hW; go_simp; try with_reducible rfl) ?_
  refine wpS_take HS0 (by kernel_rfl) (by intro W hW; clear hW; go_simp; try with_reducible rfl) ?_
  refine wpS_take HS0 (by kernel_rfl) (by intro W hW; clear hW; go_simp; try with_reducible rfl) ?_
  refine wpS_take HS0 (by kernel_rfl) (by intro W hW; clear hW; go_simp; try with_reducible rfl) ?_
  refine wpS_take HS0 (by kernel_rfl) (by intro W hW; have q0 := hW.facts; obtain ⟨⟨_, _⟩, _, _, _, _⟩ := q0; clear hW; go_simp; try with_reducible rfl) ?_
  refine wpS_take HS0 (by kernel_rfl) (by intro W hW; have q0 := hW.facts; obtain ⟨⟨_, _⟩, _, _, _, _⟩ := q0; clear hW; go_simp; try with_reducible rfl) ?_
  refine wpS_take HS0 (by kernel_rfl) (by intro W hW; clear hW; go_simp; try with_reducible rfl) ?_
  refine wpS_take HS0 (by kernel_rfl) (by intro W hW; clear hW; go_simp; try with_reducible rfl) ?_
  refine wpS_take HS0 (by kernel_rfl) (by intro W hW; clear hW; go_simp; try with_reducible rfl) ?_
  refine wpS_take HS0 (by kernel_rfl) (by intro W hW; clear hW; go_simp; try with_reducible rfl) ?_
  refine wpS_take HS0 (by kernel_rfl) (by intro W hW; clear hW; go_simp; try with_reducible rfl) ?_
  refine wpS_take HS0 (by kernel_rfl) (by intro W hW; clear hW; go_simp; try with_reducible rfl) ?_
  refine wpS_take HS0 (by kernel_rfl) (by intro W hW; clear hW; go_simp; try with_reducible rfl) ?_
  refine wpS_take HS0 (by kernel_rfl) (by intro W hW; clear hW; go_simp; try with_reducible rfl) ?_
  refine wpS_take HS0 (by kernel_rfl) (by intro W hW; clear hW; go_simp; try with_reducible rfl) ?_
  refine wpS_take HS0 (by kernel_rfl) (by intro W hW; clear hW; go_simp; try with_reducible rfl) ?_
  refine wpS_take HS0 (by kernel_rfl) (by intro W hW; have q0 := hW.facts; obtain ⟨⟨_, _⟩, _, _, _, _⟩ := q0; clear hW; go_simp; try with_reducible rfl) ?_
  refine wpS_take HS0 (by kernel_rfl) (by intro W hW; have q0 := hW.facts; obtain ⟨⟨_, _⟩, _, _, _, _⟩ := q0; clear hW; go_simp; try with_reducible rfl) ?_
  try go_simp
  refine wpS_do fun K1 hK1 => ?_
  go_wp2_with fail
  refine (HD1.out _ (HE.out.later HB0.out)).mono ?_
  rintro e v1 ⟨rfl, hb1⟩
  have HS1 : Hid (S7 w.heap.size g1 g2 ⟨a, n⟩ ⟨x, y⟩ v1) := Lib.hid (HS0.out.later hb1)
  have HB1 := Lib.hid (below_then HB0.out hb1)
  clear hb1 HS0 HB0
  go_wp2_with fail
  refine hK1.out _ _ HS1.out ?_
  clear hK1 K1
  try go_simp
  refine wpS_do fun K2 hK2 => ?_
  go_wp2_with fail
  refine (HD2.out _ (HE.out.later HB1.out)).mono ?_
  rintro e v2 ⟨rfl, hb2⟩
  have HS2 : Hid (S7 w.heap.size g1 g2 ⟨a, n⟩ ⟨x, y⟩ v2) := Lib.hid (HS1.out.later hb2)
  have HB2 := Lib.hid (below_then HB1.out hb2)
  clear hb2 HS1 HB1
  go_wp2_with fail
  refine hK2.out _ _ HS2.out ?_
  clear hK2 K2
  refine wpS_take HS2 (by kernel_rfl) (by intro W hW; clear hW; go_simp; try with_reducible rfl) ?_
  refine wpS_take HS2 (by kernel_rfl) (by intro W hW; clear hW; go_simp; try with_reducible rfl) ?_
  refine wpS_take HS2 (by kernel_rfl) (by intro W hW; clear hW; go_simp; try with_reducible rfl) ?_
  refine wpS_take HS2 (by kernel_rfl) (by intro W hW; have q0 := hW.facts; obtain ⟨⟨_, _⟩, _, _, _, _⟩ := q0; clear hW; go_simp; try with_reducible rfl) ?_
  refine wpS_take HS2 (by kernel_rfl) (by intro W hW; have q0 := hW.facts; obtain ⟨⟨_, _⟩, _, _, _, _⟩ := q0; clear hW; go_simp; try with_reducible rfl) ?_
  try go_simp
  refine wpS_do fun K3 hK3 => ?_
  go_wp2_with fail
  refine (HT1.out _ (HE.out.later HB2.out)).mono ?_
  rintro e v3 ⟨rfl, hb3⟩
  have HS3 : Hid (S7 w.heap.size g1 g2 ⟨a, n⟩ ⟨x, y⟩ v3) := Lib.hid (HS2.out.later hb3)
  have HB3 := Lib.hid (below_then HB2.out hb3)
  clear hb3 HS2 HB2
  go_wp2_with fail
  refine hK3.out _ _ HS3.out ?_
  clear hK3 K3
  try go_simp
  refine wpS_do fun K4 hK4 => ?_
  go_wp2_with fail
  refine (HT2.out _ (HE.out.later HB3.out)).mono ?_
  rintro e v4 ⟨rfl, hb4⟩
  have HS4 : Hid (S7 w.heap.size g1 g2 ⟨a, n⟩ ⟨x, y⟩ v4) := Lib.hid (HS3.out.later hb4)
  have HB4 := Lib.hid (below_then HB3.out hb4)
  clear hb4 HS3 HB3
  go_wp2_with fail
  refine hK4.out _ _ HS4.out ?_
  clear hK4 K4
  refine wpS_take HS4 (by kernel_rfl) (by intro W hW; clear hW; go_simp; try with_reducible rfl) ?_
  refine wpS_take HS4 (by kernel_rfl) (by intro W hW; clear hW; go_simp; try with_reducible rfl) ?_
  refine wpS_take HS4 (by kernel_rfl) (by intro W hW; clear hW; go_simp; try with_reducible rfl) ?_
  try go_simp
  refine wpS_do fun K5 hK5 => ?_
  go_wp2_with fail
  refine (HL.out _ (HE.out.later HB4.out)).mono ?_
  rintro e v5 ⟨rfl, hb5⟩
  have HS5 : Hid (S7 w.heap.size g1 g2 ⟨a, n⟩ ⟨x, y⟩ v5) := Lib.hid (HS4.out.later hb5)
  have HB5 := Lib.hid (below_then HB4.out hb5)
  clear hb5 HS4 HB4
  go_wp2_with fail
  refine hK5.out _ _ HS5.out ?_
  clear hK5 K5
  refine wpS_take HS5 (by kernel_rfl) (by intro W hW; clear hW; go_simp; try with_reducible rfl) ?_
  refine wpS_take HS5 (by kernel_rfl) (by intro W hW; clear hW; go_simp; try with_reducible rfl) ?_
  refine wpS_nil ?_
  try go_simp
  go_wp2_with fail
  go_ret
  exact ⟨rfl, HB5.out⟩
end Go.Proofs.YtljmmpjcagchmaaDoor
