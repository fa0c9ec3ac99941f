/-
  PrefixTells, walked.
-/
import Derived.Test.YtljmmpjcagchmaaDoorPfx17
namespace Go.Proofs.YtljmmpjcagchmaaDoor
set_option linter.unusedVariables false
open Go.RowKit

abbrev cellsP (p : Pf) : Array Value := #[.int .u32 p.a, .int .u8 p.n]
structure S8 (g h i : Nat) (p q x : Pf) (W : World) : Prop where
  cp : Blk W g 31 (cellsP p)
  cq : Blk W (g + 1) 31 (cellsP q)
  cx : Blk W h 31 (cellsP x)
  cy : Blk W i 31 (cellsP x)
theorem S8.later {g h i : Nat} {p q x : Pf} {W W' : World} (s : S8 g h i p q x W) (hb : Below W.heap.size W W') : S8 g h i p q x W' := ⟨s.cp.later hb, s.cq.later hb, s.cx.later hb, s.cy.later hb⟩
theorem S8.facts {g h i : Nat} {p q x : Pf} {W : World} (s : S8 g h i p q x W) : (W.cell? ⟨g, 0, none⟩ = some (.int .u32 p.a) ∧ W.cell? ⟨g, 1, none⟩ = some (.int .u8 p.n) ∧ W.cell? ⟨g + 1, 0, none⟩ = some (.int .u32 q.a) ∧ W.cell? ⟨g + 1, 1, none⟩ = some (.int .u8 q.n)) ∧
    W.cell? ⟨h, 0, none⟩ = some (.int .u32 x.a) ∧ W.cell? ⟨h, 1, none⟩ = some (.int .u8 x.n) ∧ W.cell? ⟨i, 0, none⟩ = some (.int .u32 x.a) ∧ W.cell? ⟨i, 1, none⟩ = some (.int .u8 x.n) :=
  ⟨⟨s.cp.cell 0, s.cp.cell 1, s.cq.cell 0, s.cq.cell 1⟩, s.cx.cell 0, s.cx.cell 1, s.cy.cell 0, s.cy.cell 1⟩

theorem two_boxes {w w1 : World} {x y x' y' : Value} {t t' : TypeId} (hb : Below ((w.alloc (.cells #[x, y] t)).alloc (.cells #[x', y'] t')).heap.size ((w.alloc (.cells #[x, y] t)).alloc (.cells #[x', y'] t')) w1) :
    Blk w1 w.heap.size t #[x, y] ∧ Blk w1 (w.heap.size + 1) t' #[x', y'] ∧ Below w.heap.size w w1 := by
  refine ⟨((Blk.new w t #[x, y]).alloc _).later hb, ?_, below_then (((Below.refl _ w).alloc (Nat.le_refl _) _).alloc (by rw [World.size_alloc]; omega) _) hb⟩
  have := (Blk.new (w.alloc (.cells #[x, y] t)) t' #[x', y']).later hb
  rwa [World.size_alloc] at this
theorem errP_t : errP true = 0 := rfl
theorem errP_f : errP false = 12 := rfl
theorem S8.of {w w1 w2 : World} {p q x : Pf} (hp : Blk w1 w.heap.size 31 (cellsP p)) (hq : Blk w1 (w.heap.size + 1) 31 (cellsP q))
    (hb : Below (w1.alloc (.cells (cellsP x) 31)).heap.size (w1.alloc (.cells (cellsP x) 31)) w2) :
    S8 w.heap.size w1.heap.size w2.heap.size p q x (w2.alloc (.cells (cellsP x) 31)).drew :=
  ⟨(((hp.alloc _).later hb).alloc _).drewN 1, (((hq.alloc _).later hb).alloc _).drewN 1, (((Blk.new w1 _ _).later hb).alloc _).drewN 1, (Blk.new w2 _ _).drewN 1⟩
theorem below_of {w w1 w2 : World} {x : Pf} (hB : Below w.heap.size w w1)
    (hb : Below (w1.alloc (.cells (cellsP x) 31)).heap.size (w1.alloc (.cells (cellsP x) 31)) w2) :
    Below w.heap.size w (w2.alloc (.cells (cellsP x) 31)).drew := by
  have h1 := hB.size
  have h2 : Below w.heap.size w (w1.alloc (.cells (cellsP x) 31)) := hB.alloc (by omega) _
  have h3 := below_then h2 hb
  exact (h3.alloc (by have := h3.size; omega) (.cells (cellsP x) 31)).drew

set_option maxRecDepth 100000 in
set_option maxHeartbeats 8000000 in
theorem tells_any (p q : Pf) (addr : Nat) (w : World) (hp : p.ok) (hq : q.ok) (ha : addr < 4294967296) (hE : Env w) :
    Calls Tryd.prog 6 #[p.v, q.v, .int .u32 addr] w fun e w' => e = .returned (.bool true) ∧ Below w.heap.size w w' := by
  obtain ⟨a, n⟩ := p
  obtain ⟨b, m⟩ := q
  have HE := Lib.hid hE
  clear hE
  have hn : n < 256 := hp.n
  have HN1 : Hid (∀ W : World, Calls Tryd.prog 27 #[.int .u32 addr] W fun e w' => e = .returned (.tuple #[.int .u8 (bitsN addr).1, .bool (bitsN addr).2]) ∧ W = w') := (fun W => bits_any addr W ha)
  have HN2 : Hid (∀ W : World, Calls Tryd.prog 28 #[.int .u32 addr] W fun e w' => e = .returned (.tuple #[.int .u8 (bitsN addr).1, .bool (bitsN addr).2]) ∧ W = w') := (fun W => refBits_any addr W ha)
  have HK1 : Hid (∀ W : World, Calls Tryd.prog 22 #[.int .u32 addr, .int .u8 n] W fun e w' => e = .returned (.tuple #[.agg #[.int .u32 (mk addr n).1.a, .int .u8 (mk addr n).1.n], .int .i64 (mk addr n).2]) ∧ Below W.heap.size W w') := (fun W => make_any addr n W ha hn)
  have HK2 : Hid (∀ W : World, Calls Tryd.prog 29 #[.int .u32 addr, .int .u8 n] W fun e w' => e = .returned (.tuple #[.agg #[.int .u32 (mk addr n).1.a, .int .u8 (mk addr n).1.n], .int .i64 (mk addr n).2]) ∧ Below W.heap.size W w') := (fun W => refMake_any addr n W ha hn)
  have HM1 : Hid (∀ W : World, Calls Tryd.prog 26 #[.int .u8 n] W fun e w' => e = .returned (.int .u32 (maskN n)) ∧ W = w') := (fun W => mask_any n W hn)
  have HM2 : Hid (∀ W : World, Calls Tryd.prog 30 #[.int .u8 n] W fun e w' => e = .returned (.int .u32 (maskN n)) ∧ W = w') := (fun W => refMask_any n W hn)
  have HC : Hid (∀ W : World, Calls Tryd.prog 31 #[.agg #[.int .u32 a, .int .u8 n]] W fun e w' => e = .returned (.int .i64 (errP (isP a n))) ∧ Below W.heap.size W w') := (fun W => check_any ⟨a, n⟩ W hp)
  have HI : Hid (∀ W : World, Calls Tryd.prog 32 #[.agg #[.int .u32 a, .int .u8 n]] W fun e w' => e = .returned (.bool (isP a n)) ∧ Below W.heap.size W w') := (fun W => refIs_any ⟨a, n⟩ W hp)
  have HH1 : Hid (∀ W : World, Calls Tryd.prog 23 #[.agg #[.int .u32 a, .int .u8 n], .int .u32 addr] W fun e w' => e = .returned (.bool (hasP a n addr)) ∧ Below W.heap.size W w') := (fun W => has_any ⟨a, n⟩ addr W hp ha)
  have HH2 : Hid (∀ W : World, Calls Tryd.prog 33 #[.agg #[.int .u32 a, .int .u8 n], .int .u32 addr] W fun e w' => e = .returned (.bool (hasP a n addr)) ∧ Below W.heap.size W w') := (fun W => refHas_any ⟨a, n⟩ addr W hp ha)
  have HV1 : Hid (∀ W : World, Calls Tryd.prog 24 #[.agg #[.int .u32 a, .int .u8 n], .agg #[.int .u32 b, .int .u8 m]] W fun e w' => e = .returned (.bool (covP a n b m)) ∧ Below W.heap.size W w') := (fun W => covers_any ⟨a, n⟩ ⟨b, m⟩ W hp hq)
  have HV2 : Hid (∀ W : World, Calls Tryd.prog 34 #[.agg #[.int .u32 a, .int .u8 n], .agg #[.int .u32 b, .int .u8 m]] W fun e w' => e = .returned (.bool (covP a n b m)) ∧ Below W.heap.size W w') := (fun W => refCovers_any ⟨a, n⟩ ⟨b, m⟩ W hp hq)
  have HO1 : Hid (∀ W : World, Calls Tryd.prog 25 #[.agg #[.int .u32 a, .int .u8 n], .agg #[.int .u32 b, .int .u8 m]] W fun e w' => e = .returned (.bool (overP a n b m)) ∧ Below W.heap.size W w') := (fun W => overlap_any ⟨a, n⟩ ⟨b, m⟩ W hp hq)
  have HO2 : Hid (∀ W : World, Calls Tryd.prog 35 #[.agg #[.int .u32 a, .int .u8 n], .agg #[.int .u32 b, .int .u8 m]] W fun e w' => e = .returned (.bool (overP a n b m)) ∧ Below W.heap.size W w') := (fun W => refOverlap_any ⟨a, n⟩ ⟨b, m⟩ W hp hq)
  have HQ1 : Hid (∀ W : World, Calls Tryd.prog 36 #[.agg #[.int .u32 a, .int .u8 n], .agg #[.int .u32 b, .int .u8 m]] W fun e w' => e = .returned (.int .i64 (cmpP a n b m)) ∧ Below W.heap.size W w') := (fun W => compare_any ⟨a, n⟩ ⟨b, m⟩ W)
  have HQ2 : Hid (∀ W : World, Calls Tryd.prog 37 #[.agg #[.int .u32 a, .int .u8 n], .agg #[.int .u32 b, .int .u8 m]] W fun e w' => e = .returned (.int .i64 (cmpP a n b m)) ∧ Below W.heap.size W w') := (fun W => refCompare_any ⟨a, n⟩ ⟨b, m⟩ W)
  have HL : Hid (∀ W : World, Env W → Calls Tryd.prog 7 #[] W fun e w' => e = .returned (.bool true) ∧ Below W.heap.size W w') := fun W h => lives_any W h
  clear hp hq ha hn
  show Calls Tryd.prog 6 #[.agg #[.int .u32 a, .int .u8 n], .agg #[.int .u32 b, .int .u8 m], .int .u32 addr] w fun e w' => e = .returned (.bool true) ∧ Below w.heap.size w w'
  generalize bitsN addr = bn at *
  obtain ⟨bn, bt⟩ := bn
  generalize mk addr n = k at *
  obtain ⟨⟨x, y⟩, ek⟩ := k
  generalize maskN n = M at *
  generalize hasP a n addr = zh at *
  generalize covP a n b m = zc at *
  generalize overP a n b m = zo at *
  generalize cmpP a n b m = zq at *
  simp only at HN1 HN2 HK1 HK2
  go_enter Tryd.func6, Tryd.ntmps6
  go_wp2_with fail
  refine (HN1.out _).mono ?_
  rintro e w_ ⟨rfl, rfl⟩
  go_wp2_with fail
  refine (HN2.out _).mono ?_
  rintro e w_ ⟨rfl, rfl⟩
  go_wp2_with fail
  refine (HK1.out _).mono ?_
  rintro e w1 ⟨rfl, hb1⟩
  obtain ⟨hA, hB, hw1⟩ := two_boxes hb1
  have HW1 := Lib.hid hw1
  have HA1 := Lib.hid hA
  have HB1' := Lib.hid hB
  have c1 : (w1.alloc (.cells #[.int .u32 x, .int .u8 y] 31)).cell? ⟨w.heap.size, 1, none⟩ = some (.int .u8 n) := (hA.alloc _).cell 1
  clear hA hB hw1 hb1
  go_wp2_with fail
  refine (HK2.out _).mono ?_
  rintro e w2 ⟨rfl, hb2⟩
  have HB2 := Lib.hid hb2
  clear hb2 c1
  go_wp2_with fail
  have HS0 : Hid (S8 w.heap.size w1.heap.size w2.heap.size ⟨a, n⟩ ⟨b, m⟩ ⟨x, y⟩ (w2.alloc (.cells #[.int .u32 x, .int .u8 y] 31)).drew) := Lib.hid (S8.of HA1.out HB1'.out HB2.out)
  have HB0 : Hid (Below w.heap.size w (w2.alloc (.cells #[.int .u32 x, .int .u8 y] 31)).drew) := Lib.hid (below_of (x := ⟨x, y⟩) HW1.out HB2.out)
  clear HA1 HB1' HB2 HW1
  refine wp_region_s (S8 w.heap.size w1.heap.size w2.heap.size ⟨a, n⟩ ⟨b, m⟩ ⟨x, y⟩) [(0, true), (3, true), (1, true), (4, true), (2, false), (5, false), (6, true), (7, true), (8, true), (9, true), (10, true), (11, true), (12, true), (13, true), (14, true), (15, true), (16, true), (17, true), (18, true), (19, true), (20, true), (21, true), (22, true), (23, true), (24, true), (25, true), (26, true), (27, true), (28, true), (31, true), (29, false), (30, true), (32, false), (33, true), (34, true)] (by kernel_rfl) (fun _ d _ _ _ h => by cases d <;> exact h) ?_
  simp only [List.map_cons, List.map_nil, nthOp_zero, nthOp_succ]
  generalize (w2.alloc (.cells #[.int .u32 x, .int .u8 y] 31)).drew = w0 at *
  generalize w1.heap.size = g1 at *
  generalize w2.heap.size = g2 at *
  clear w1 w2
  refine wpS_take HS0 (by kernel_rfl) (by intro W hW; clear hW; go_simp; try with_reducible rfl) ?_
  refine wpS_take HS0 (by kernel_rfl) (by intro W hW; clear hW; go_simp; try with_reducible rfl) ?_
  refine wpS_take HS0 (by kernel_rfl) (by intro W hW; have q0 := hW.facts; obtain ⟨⟨_, _, _, _⟩, _, _, _, _⟩ := q0; clear hW; go_simp; try with_reducible rfl) ?_
  refine wpS_take HS0 (by kernel_rfl) (by intro W hW; have q0 := hW.facts; obtain ⟨⟨_, _, _, _⟩, _, _, _, _⟩ := q0; clear hW; go_simp; try with_reducible rfl) ?_
  try go_simp
  refine wpS_do fun K1 hK1 => ?_
  go_wp2_with fail
  refine (HM1.out _).mono ?_
  rintro e w_ ⟨rfl, rfl⟩
  go_wp2_with fail
  refine hK1.out _ _ HS0.out ?_
  clear hK1 K1
  try go_simp
  refine wpS_do fun K2 hK2 => ?_
  go_wp2_with fail
  refine (HM2.out _).mono ?_
  rintro e w_ ⟨rfl, rfl⟩
  go_wp2_with fail
  refine hK2.out _ _ HS0.out ?_
  clear hK2 K2
  refine wpS_take HS0 (by kernel_rfl) (by intro W hW; clear hW; go_simp; try with_reducible rfl) ?_
  refine wpS_take HS0 (by kernel_rfl) (by intro W hW; clear hW; go_simp; try with_reducible rfl) ?_
  refine wpS_take HS0 (by kernel_rfl) (by intro W hW; clear hW; go_simp; try with_reducible rfl) ?_
  refine wpS_take HS0 (by kernel_rfl) (by intro W hW; clear hW; go_simp; try with_reducible rfl) ?_
  refine wpS_take HS0 (by kernel_rfl) (by intro W hW; clear hW; go_simp; try with_reducible rfl) ?_
  refine wpS_take HS0 (by kernel_rfl) (by intro W hW; clear hW; go_simp; try with_reducible rfl) ?_
  refine wpS_take HS0 (by kernel_rfl) (by intro W hW; clear hW; go_simp; try with_reducible rfl) ?_
  refine wpS_take HS0 (by kernel_rfl) (by intro W hW; clear hW; go_simp; try with_reducible rfl) ?_
  refine wpS_take HS0 (by kernel_rfl) (by intro W hW; clear hW; go_simp; try with_reducible rfl) ?_
  refine wpS_take HS0 (by kernel_rfl) (by intro W hW; clear hW; go_simp; try with_reducible rfl) ?_
  refine wpS_take HS0 (by kernel_rfl) (by intro W hW; clear hW; go_simp; try with_reducible rfl) ?_
  refine wpS_take HS0 (by kernel_rfl) (by intro W hW; clear hW; go_simp; try with_reducible rfl) ?_
  refine wpS_take HS0 (by kernel_rfl) (by intro W hW; have q0 := hW.facts; obtain ⟨⟨_, _, _, _⟩, _, _, _, _⟩ := q0; clear hW; go_simp; try with_reducible rfl) ?_
  refine wpS_take HS0 (by kernel_rfl) (by intro W hW; have q0 := hW.facts; obtain ⟨⟨_, _, _, _⟩, _, _, _, _⟩ := q0; clear hW; go_simp; try with_reducible rfl) ?_
  refine wpS_take HS0 (by kernel_rfl) (by intro W hW; clear hW; go_simp; try with_reducible rfl) ?_
  refine wpS_take HS0 (by kernel_rfl) (by intro W hW; clear hW; go_simp; try with_reducible rfl) ?_
  refine wpS_take HS0 (by kernel_rfl) (by intro W hW; clear hW; go_simp; try with_reducible rfl) ?_
  refine wpS_take HS0 (by kernel_rfl) (by intro W hW; clear hW; go_simp; try with_reducible rfl) ?_
  refine wpS_take HS0 (by kernel_rfl) (by intro W hW; clear hW; go_simp; try with_reducible rfl) ?_
  refine wpS_take HS0 (by kernel_rfl) (by intro W hW; clear hW; go_simp; try with_reducible rfl) ?_
  refine wpS_take HS0 (by kernel_rfl) (by intro W hW; clear hW; go_simp; try with_reducible rfl) ?_
  refine wpS_take HS0 (by kernel_rfl) (by intro W hW; clear hW; go_simp; try with_reducible rfl) ?_
  refine wpS_take HS0 (by kernel_rfl) (by intro W hW; have q0 := hW.facts; obtain ⟨⟨_, _, _, _⟩, _, _, _, _⟩ := q0; clear hW; go_simp; try with_reducible rfl) ?_
  refine wpS_take HS0 (by kernel_rfl) (by intro W hW; have q0 := hW.facts; obtain ⟨⟨_, _, _, _⟩, _, _, _, _⟩ := q0; clear hW; go_simp; try with_reducible rfl) ?_
  try go_simp
  refine wpS_do fun K3 hK3 => ?_
  go_wp2_with fail
  refine (HC.out _).mono ?_
  rintro e v3 ⟨rfl, hb3⟩
  have HS3 : Hid (S8 w.heap.size g1 g2 ⟨a, n⟩ ⟨b, m⟩ ⟨x, y⟩ v3) := Lib.hid (HS0.out.later hb3)
  have HB3 := Lib.hid (below_then HB0.out hb3)
  clear hb3 HS0 HB0
  go_wp2_with fail
  refine hK3.out _ _ HS3.out ?_
  clear hK3 K3
  refine wpS_take HS3 (by kernel_rfl) (by intro W hW; clear hW; go_simp; try with_reducible rfl) ?_
  try go_simp
  refine wpS_do fun K4 hK4 => ?_
  go_wp2_with fail
  refine (HI.out _).mono ?_
  rintro e v4 ⟨rfl, hb4⟩
  have HS4 : Hid (S8 w.heap.size g1 g2 ⟨a, n⟩ ⟨b, m⟩ ⟨x, y⟩ v4) := Lib.hid (HS3.out.later hb4)
  have HB4 := Lib.hid (below_then HB3.out hb4)
  clear hb4 HS3 HB3
  go_wp2_with fail
  refine hK4.out _ _ HS4.out ?_
  clear hK4 K4
  refine wpS_take HS4 (by kernel_rfl) (by intro W hW; clear hW; go_simp; try with_reducible rfl) ?_
  refine wpS_take HS4 (by kernel_rfl) (by intro W hW; clear hW; go_simp; try with_reducible rfl) ?_
  refine wpS_nil ?_
  try go_simp
  generalize isP a n = z at *
  cases z
  · simp only [errP_t, errP_f] at HC ⊢
    go_wp2_with fail
    refine wp_region_s (S8 w.heap.size g1 g2 ⟨a, n⟩ ⟨b, m⟩ ⟨x, y⟩) [(0, true), (1, false), (2, true), (3, true), (4, true), (5, false), (6, true), (7, true), (8, true), (10, true), (13, true), (9, true), (12, true), (11, false), (14, false), (15, true), (16, true), (17, true), (18, true), (19, true), (21, true), (22, true), (20, false), (23, false), (24, true), (25, true), (26, true), (27, true), (28, true), (30, true), (31, true), (29, false), (32, false), (33, true), (34, true)] (by kernel_rfl) (fun _ d _ _ _ h => by cases d <;> exact h) ?_
    simp only [List.map_cons, List.map_nil, nthOp_zero, nthOp_succ]
    have HS_ := Lib.hid (HS4.out.later (Below.refl _ _).drew)
    have HB_ := Lib.hid (HB4.out.drew)
    generalize v4.drew = v_ at *
    clear HS4 HB4 v4
    refine wpS_take HS_ (by kernel_rfl) (by intro W hW; have q0 := hW.facts; obtain ⟨⟨_, _, _, _⟩, _, _, _, _⟩ := q0; clear hW; go_simp; try with_reducible rfl) ?_
    try go_simp
    refine wpS_do fun K5 hK5 => ?_
    go_wp2_with fail
    refine (HC.out _).mono ?_
    rintro e v5 ⟨rfl, hb5⟩
    have HS5 : Hid (S8 w.heap.size g1 g2 ⟨a, n⟩ ⟨b, m⟩ ⟨x, y⟩ v5) := Lib.hid (HS_.out.later hb5)
    have HB5 := Lib.hid (below_then HB_.out hb5)
    clear hb5 HS_ HB_
    go_wp2_with fail
    refine hK5.out _ _ HS5.out ?_
    clear hK5 K5
    refine wpS_take HS5 (by kernel_rfl) (by intro W hW; clear hW; go_simp; try with_reducible rfl) ?_
    refine wpS_take HS5 (by kernel_rfl) (by intro W hW; clear hW; go_simp; try with_reducible rfl) ?_
    refine wpS_take HS5 (by kernel_rfl) (by intro W hW; have q0 := hW.facts; obtain ⟨⟨_, _, _, _⟩, _, _, _, _⟩ := q0; clear hW; go_simp; try with_reducible rfl) ?_
    try go_simp
    refine wpS_do fun K6 hK6 => ?_
    go_wp2_with fail
    refine (HC.out _).mono ?_
    rintro e v6 ⟨rfl, hb6⟩
    have HS6 : Hid (S8 w.heap.size g1 g2 ⟨a, n⟩ ⟨b, m⟩ ⟨x, y⟩ v6) := Lib.hid (HS5.out.later hb6)
    have HB6 := Lib.hid (below_then HB5.out hb6)
    clear hb6 HS5 HB5
    go_wp2_with fail
    refine hK6.out _ _ HS6.out ?_
    clear hK6 K6
    refine wpS_take HS6 (by kernel_rfl) (by intro W hW; clear hW; go_simp; try with_reducible rfl) ?_
    refine wpS_take HS6 (by kernel_rfl) (by intro W hW; clear hW; go_simp; try with_reducible rfl) ?_
    refine wpS_take HS6 (by kernel_rfl) (by intro W hW; clear hW; go_simp; try with_reducible rfl) ?_
    refine wpS_take HS6 (by kernel_rfl) (by intro W hW; clear hW; go_simp; try with_reducible rfl) ?_
    refine wpS_take HS6 (by kernel_rfl) (by intro W hW; clear hW; go_simp; try with_reducible rfl) ?_
    refine wpS_take HS6 (by kernel_rfl) (by intro W hW; have q0 := hW.facts; obtain ⟨⟨_, _, _, _⟩, _, _, _, _⟩ := q0; clear hW; go_simp; try with_reducible rfl) ?_
    refine wpS_take HS6 (by kernel_rfl) (by intro W hW; have q0 := hW.facts; obtain ⟨⟨_, _, _, _⟩, _, _, _, _⟩ := q0; clear hW; go_simp; try with_reducible rfl) ?_
    try go_simp
    refine wpS_do fun K7 hK7 => ?_
    go_wp2_with fail
    refine (HH1.out _).mono ?_
    rintro e v7 ⟨rfl, hb7⟩
    have HS7 : Hid (S8 w.heap.size g1 g2 ⟨a, n⟩ ⟨b, m⟩ ⟨x, y⟩ v7) := Lib.hid (HS6.out.later hb7)
    have HB7 := Lib.hid (below_then HB6.out hb7)
    clear hb7 HS6 HB6
    go_wp2_with fail
    refine hK7.out _ _ HS7.out ?_
    clear hK7 K7
    try go_simp
    refine wpS_do fun K8 hK8 => ?_
    go_wp2_with fail
    refine (HH2.out _).mono ?_
    rintro e v8 ⟨rfl, hb8⟩
    have HS8 : Hid (S8 w.heap.size g1 g2 ⟨a, n⟩ ⟨b, m⟩ ⟨x, y⟩ v8) := Lib.hid (HS7.out.later hb8)
    have HB8 := Lib.hid (below_then HB7.out hb8)
    clear hb8 HS7 HB7
    go_wp2_with fail
    refine hK8.out _ _ HS8.out ?_
    clear hK8 K8
    refine wpS_take HS8 (by kernel_rfl) (by intro W hW; clear hW; go_simp; try with_reducible rfl) ?_
    refine wpS_take HS8 (by kernel_rfl) (by intro W hW; clear hW; go_simp; try with_reducible rfl) ?_
    refine wpS_take HS8 (by kernel_rfl) (by intro W hW; clear hW; go_simp; try with_reducible rfl) ?_
    refine wpS_take HS8 (by kernel_rfl) (by intro W hW; have q0 := hW.facts; obtain ⟨⟨_, _, _, _⟩, _, _, _, _⟩ := q0; clear hW; go_simp; try with_reducible rfl) ?_
    refine wpS_take HS8 (by kernel_rfl) (by intro W hW; have q0 := hW.facts; obtain ⟨⟨_, _, _, _⟩, _, _, _, _⟩ := q0; clear hW; go_simp; try with_reducible rfl) ?_
    refine wpS_take HS8 (by kernel_rfl) (by intro W hW; have q0 := hW.facts; obtain ⟨⟨_, _, _, _⟩, _, _, _, _⟩ := q0; clear hW; go_simp; try with_reducible rfl) ?_
    refine wpS_take HS8 (by kernel_rfl) (by intro W hW; have q0 := hW.facts; obtain ⟨⟨_, _, _, _⟩, _, _, _, _⟩ := q0; clear hW; go_simp; try with_reducible rfl) ?_
    try go_simp
    refine wpS_do fun K9 hK9 => ?_
    go_wp2_with fail
    refine (HV1.out _).mono ?_
    rintro e v9 ⟨rfl, hb9⟩
    have HS9 : Hid (S8 w.heap.size g1 g2 ⟨a, n⟩ ⟨b, m⟩ ⟨x, y⟩ v9) := Lib.hid (HS8.out.later hb9)
    have HB9 := Lib.hid (below_then HB8.out hb9)
    clear hb9 HS8 HB8
    go_wp2_with fail
    refine hK9.out _ _ HS9.out ?_
    clear hK9 K9
    try go_simp
    refine wpS_do fun K10 hK10 => ?_
    go_wp2_with fail
    refine (HV2.out _).mono ?_
    rintro e v10 ⟨rfl, hb10⟩
    have HS10 : Hid (S8 w.heap.size g1 g2 ⟨a, n⟩ ⟨b, m⟩ ⟨x, y⟩ v10) := Lib.hid (HS9.out.later hb10)
    have HB10 := Lib.hid (below_then HB9.out hb10)
    clear hb10 HS9 HB9
    go_wp2_with fail
    refine hK10.out _ _ HS10.out ?_
    clear hK10 K10
    refine wpS_take HS10 (by kernel_rfl) (by intro W hW; clear hW; go_simp; try with_reducible rfl) ?_
    refine wpS_take HS10 (by kernel_rfl) (by intro W hW; clear hW; go_simp; try with_reducible rfl) ?_
    refine wpS_take HS10 (by kernel_rfl) (by intro W hW; clear hW; go_simp; try with_reducible rfl) ?_
    refine wpS_take HS10 (by kernel_rfl) (by intro W hW; have q0 := hW.facts; obtain ⟨⟨_, _, _, _⟩, _, _, _, _⟩ := q0; clear hW; go_simp; try with_reducible rfl) ?_
    refine wpS_take HS10 (by kernel_rfl) (by intro W hW; have q0 := hW.facts; obtain ⟨⟨_, _, _, _⟩, _, _, _, _⟩ := q0; clear hW; go_simp; try with_reducible rfl) ?_
    refine wpS_take HS10 (by kernel_rfl) (by intro W hW; have q0 := hW.facts; obtain ⟨⟨_, _, _, _⟩, _, _, _, _⟩ := q0; clear hW; go_simp; try with_reducible rfl) ?_
    refine wpS_take HS10 (by kernel_rfl) (by intro W hW; have q0 := hW.facts; obtain ⟨⟨_, _, _, _⟩, _, _, _, _⟩ := q0; clear hW; go_simp; try with_reducible rfl) ?_
    try go_simp
    refine wpS_do fun K11 hK11 => ?_
    go_wp2_with fail
    refine (HO1.out _).mono ?_
    rintro e v11 ⟨rfl, hb11⟩
    have HS11 : Hid (S8 w.heap.size g1 g2 ⟨a, n⟩ ⟨b, m⟩ ⟨x, y⟩ v11) := Lib.hid (HS10.out.later hb11)
    have HB11 := Lib.hid (below_then HB10.out hb11)
    clear hb11 HS10 HB10
    go_wp2_with fail
    refine hK11.out _ _ HS11.out ?_
    clear hK11 K11
    try go_simp
    refine wpS_do fun K12 hK12 => ?_
    go_wp2_with fail
    refine (HO2.out _).mono ?_
    rintro e v12 ⟨rfl, hb12⟩
    have HS12 : Hid (S8 w.heap.size g1 g2 ⟨a, n⟩ ⟨b, m⟩ ⟨x, y⟩ v12) := Lib.hid (HS11.out.later hb12)
    have HB12 := Lib.hid (below_then HB11.out hb12)
    clear hb12 HS11 HB11
    go_wp2_with fail
    refine hK12.out _ _ HS12.out ?_
    clear hK12 K12
    refine wpS_take HS12 (by kernel_rfl) (by intro W hW; clear hW; go_simp; try with_reducible rfl) ?_
    refine wpS_take HS12 (by kernel_rfl) (by intro W hW; clear hW; go_simp; try with_reducible rfl) ?_
    refine wpS_nil ?_
    try go_simp
    go_wp2_with fail
    refine wp_region_s (S8 w.heap.size g1 g2 ⟨a, n⟩ ⟨b, m⟩ ⟨x, y⟩) [(0, true), (1, true), (3, true), (4, true), (2, false), (5, false), (6, true), (7, true), (8, false), (9, true), (10, true)] (by kernel_rfl) (fun _ d _ _ _ h => by cases d <;> exact h) ?_
    simp only [List.map_cons, List.map_nil, nthOp_zero, nthOp_succ]
    have HS__ := Lib.hid (HS12.out.later (Below.refl _ _).drew)
    have HB__ := Lib.hid (HB12.out.drew)
    generalize v12.drew = v__ at *
    clear HS12 HB12 v12
    refine wpS_take HS__ (by kernel_rfl) (by intro W hW; have q0 := hW.facts; obtain ⟨⟨_, _, _, _⟩, _, _, _, _⟩ := q0; clear hW; go_simp; try with_reducible rfl) ?_
    refine wpS_take HS__ (by kernel_rfl) (by intro W hW; have q0 := hW.facts; obtain ⟨⟨_, _, _, _⟩, _, _, _, _⟩ := q0; clear hW; go_simp; try with_reducible rfl) ?_
    refine wpS_take HS__ (by kernel_rfl) (by intro W hW; have q0 := hW.facts; obtain ⟨⟨_, _, _, _⟩, _, _, _, _⟩ := q0; clear hW; go_simp; try with_reducible rfl) ?_
    refine wpS_take HS__ (by kernel_rfl) (by intro W hW; have q0 := hW.facts; obtain ⟨⟨_, _, _, _⟩, _, _, _, _⟩ := q0; clear hW; go_simp; try with_reducible rfl) ?_
    try go_simp
    refine wpS_do fun K13 hK13 => ?_
    go_wp2_with fail
    refine (HQ1.out _).mono ?_
    rintro e v13 ⟨rfl, hb13⟩
    have HS13 : Hid (S8 w.heap.size g1 g2 ⟨a, n⟩ ⟨b, m⟩ ⟨x, y⟩ v13) := Lib.hid (HS__.out.later hb13)
    have HB13 := Lib.hid (below_then HB__.out hb13)
    clear hb13 HS__ HB__
    go_wp2_with fail
    refine hK13.out _ _ HS13.out ?_
    clear hK13 K13
    try go_simp
    refine wpS_do fun K14 hK14 => ?_
    go_wp2_with fail
    refine (HQ2.out _).mono ?_
    rintro e v14 ⟨rfl, hb14⟩
    have HS14 : Hid (S8 w.heap.size g1 g2 ⟨a, n⟩ ⟨b, m⟩ ⟨x, y⟩ v14) := Lib.hid (HS13.out.later hb14)
    have HB14 := Lib.hid (below_then HB13.out hb14)
    clear hb14 HS13 HB13
    go_wp2_with fail
    refine hK14.out _ _ HS14.out ?_
    clear hK14 K14
    refine wpS_take HS14 (by kernel_rfl) (by intro W hW; clear hW; go_simp; try with_reducible rfl) ?_
    refine wpS_take HS14 (by kernel_rfl) (by intro W hW; clear hW; go_simp; try with_reducible rfl) ?_
    try go_simp
    refine wpS_do fun K15 hK15 => ?_
    go_wp2_with fail
    refine (HL.out _ (HE.out.later HB14.out)).mono ?_
    rintro e v15 ⟨rfl, hb15⟩
    have HS15 : Hid (S8 w.heap.size g1 g2 ⟨a, n⟩ ⟨b, m⟩ ⟨x, y⟩ v15) := Lib.hid (HS14.out.later hb15)
    have HB15 := Lib.hid (below_then HB14.out hb15)
    clear hb15 HS14 HB14
    go_wp2_with fail
    refine hK15.out _ _ HS15.out ?_
    clear hK15 K15
    refine wpS_take HS15 (by kernel_rfl) (by intro W hW; clear hW; go_simp; try with_reducible rfl) ?_
    refine wpS_take HS15 (by kernel_rfl) (by intro W hW; clear hW; go_simp; try with_reducible rfl) ?_
    refine wpS_nil ?_
    try go_simp
    go_wp2_with fail
    go_ret
    exact ⟨rfl, HB15.out⟩
  · simp only [errP_t, errP_f] at HC ⊢
    go_wp2_with fail
    refine wp_region_s (S8 w.heap.size g1 g2 ⟨a, n⟩ ⟨b, m⟩ ⟨x, y⟩) [(0, true), (1, false), (2, true), (3, true), (4, true), (5, false), (6, true), (7, true), (8, true), (10, true), (13, true), (9, true), (12, true), (11, false), (14, false), (15, true), (16, true), (17, true), (18, true), (19, true), (21, true), (22, true), (20, false), (23, false), (24, true), (25, true), (26, true), (27, true), (28, true), (30, true), (31, true), (29, false), (32, false), (33, true), (34, true)] (by kernel_rfl) (fun _ d _ _ _ h => by cases d <;> exact h) ?_
    simp only [List.map_cons, List.map_nil, nthOp_zero, nthOp_succ]
    have HS_ := Lib.hid (HS4.out.later (Below.refl _ _).drew)
    have HB_ := Lib.hid (HB4.out.drew)
    generalize v4.drew = v_ at *
    clear HS4 HB4 v4
    refine wpS_take HS_ (by kernel_rfl) (by intro W hW; have q0 := hW.facts; obtain ⟨⟨_, _, _, _⟩, _, _, _, _⟩ := q0; clear hW; go_simp; try with_reducible rfl) ?_
    try go_simp
    refine wpS_do fun K5 hK5 => ?_
    go_wp2_with fail
    refine (HC.out _).mono ?_
    rintro e v5 ⟨rfl, hb5⟩
    have HS5 : Hid (S8 w.heap.size g1 g2 ⟨a, n⟩ ⟨b, m⟩ ⟨x, y⟩ v5) := Lib.hid (HS_.out.later hb5)
    have HB5 := Lib.hid (below_then HB_.out hb5)
    clear hb5 HS_ HB_
    go_wp2_with fail
    refine hK5.out _ _ HS5.out ?_
    clear hK5 K5
    refine wpS_take HS5 (by kernel_rfl) (by intro W hW; clear hW; go_simp; try with_reducible rfl) ?_
    refine wpS_take HS5 (by kernel_rfl) (by intro W hW; clear hW; go_simp; try with_reducible rfl) ?_
    refine wpS_skip HS5 (by kernel_rfl) ?_
    try go_simp
    refine wpS_do fun K6 hK6 => ?_
    go_wp2_with fail
    refine hK6.out _ _ HS5.out ?_
    clear hK6 K6
    refine wpS_skip HS5 (by kernel_rfl) ?_
    refine wpS_take HS5 (by kernel_rfl) (by intro W hW; clear hW; go_simp; try with_reducible rfl) ?_
    refine wpS_take HS5 (by kernel_rfl) (by intro W hW; clear hW; go_simp; try with_reducible rfl) ?_
    refine wpS_take HS5 (by kernel_rfl) (by intro W hW; clear hW; go_simp; try with_reducible rfl) ?_
    refine wpS_take HS5 (by kernel_rfl) (by intro W hW; clear hW; go_simp; try with_reducible rfl) ?_
    refine wpS_take HS5 (by kernel_rfl) (by intro W hW; have q0 := hW.facts; obtain ⟨⟨_, _, _, _⟩, _, _, _, _⟩ := q0; clear hW; go_simp; try with_reducible rfl) ?_
    refine wpS_take HS5 (by kernel_rfl) (by intro W hW; have q0 := hW.facts; obtain ⟨⟨_, _, _, _⟩, _, _, _, _⟩ := q0; clear hW; go_simp; try with_reducible rfl) ?_
    try go_simp
    refine wpS_do fun K7 hK7 => ?_
    go_wp2_with fail
    refine (HH1.out _).mono ?_
    rintro e v7 ⟨rfl, hb7⟩
    have HS7 : Hid (S8 w.heap.size g1 g2 ⟨a, n⟩ ⟨b, m⟩ ⟨x, y⟩ v7) := Lib.hid (HS5.out.later hb7)
    have HB7 := Lib.hid (below_then HB5.out hb7)
    clear hb7 HS5 HB5
    go_wp2_with fail
    refine hK7.out _ _ HS7.out ?_
    clear hK7 K7
    try go_simp
    refine wpS_do fun K8 hK8 => ?_
    go_wp2_with fail
    refine (HH2.out _).mono ?_
    rintro e v8 ⟨rfl, hb8⟩
    have HS8 : Hid (S8 w.heap.size g1 g2 ⟨a, n⟩ ⟨b, m⟩ ⟨x, y⟩ v8) := Lib.hid (HS7.out.later hb8)
    have HB8 := Lib.hid (below_then HB7.out hb8)
    clear hb8 HS7 HB7
    go_wp2_with fail
    refine hK8.out _ _ HS8.out ?_
    clear hK8 K8
    refine wpS_take HS8 (by kernel_rfl) (by intro W hW; clear hW; go_simp; try with_reducible rfl) ?_
    refine wpS_take HS8 (by kernel_rfl) (by intro W hW; clear hW; go_simp; try with_reducible rfl) ?_
    refine wpS_take HS8 (by kernel_rfl) (by intro W hW; clear hW; go_simp; try with_reducible rfl) ?_
    refine wpS_take HS8 (by kernel_rfl) (by intro W hW; have q0 := hW.facts; obtain ⟨⟨_, _, _, _⟩, _, _, _, _⟩ := q0; clear hW; go_simp; try with_reducible rfl) ?_
    refine wpS_take HS8 (by kernel_rfl) (by intro W hW; have q0 := hW.facts; obtain ⟨⟨_, _, _, _⟩, _, _, _, _⟩ := q0; clear hW; go_simp; try with_reducible rfl) ?_
    refine wpS_take HS8 (by kernel_rfl) (by intro W hW; have q0 := hW.facts; obtain ⟨⟨_, _, _, _⟩, _, _, _, _⟩ := q0; clear hW; go_simp; try with_reducible rfl) ?_
    refine wpS_take HS8 (by kernel_rfl) (by intro W hW; have q0 := hW.facts; obtain ⟨⟨_, _, _, _⟩, _, _, _, _⟩ := q0; clear hW; go_simp; try with_reducible rfl) ?_
    try go_simp
    refine wpS_do fun K9 hK9 => ?_
    go_wp2_with fail
    refine (HV1.out _).mono ?_
    rintro e v9 ⟨rfl, hb9⟩
    have HS9 : Hid (S8 w.heap.size g1 g2 ⟨a, n⟩ ⟨b, m⟩ ⟨x, y⟩ v9) := Lib.hid (HS8.out.later hb9)
    have HB9 := Lib.hid (below_then HB8.out hb9)
    clear hb9 HS8 HB8
    go_wp2_with fail
    refine hK9.out _ _ HS9.out ?_
    clear hK9 K9
    try go_simp
    refine wpS_do fun K10 hK10 => ?_
    go_wp2_with fail
    refine (HV2.out _).mono ?_
    rintro e v10 ⟨rfl, hb10⟩
    have HS10 : Hid (S8 w.heap.size g1 g2 ⟨a, n⟩ ⟨b, m⟩ ⟨x, y⟩ v10) := Lib.hid (HS9.out.later hb10)
    have HB10 := Lib.hid (below_then HB9.out hb10)
    clear hb10 HS9 HB9
    go_wp2_with fail
    refine hK10.out _ _ HS10.out ?_
    clear hK10 K10
    refine wpS_take HS10 (by kernel_rfl) (by intro W hW; clear hW; go_simp; try with_reducible rfl) ?_
    refine wpS_take HS10 (by kernel_rfl) (by intro W hW; clear hW; go_simp; try with_reducible rfl) ?_
    refine wpS_take HS10 (by kernel_rfl) (by intro W hW; clear hW; go_simp; try with_reducible rfl) ?_
    refine wpS_take HS10 (by kernel_rfl) (by intro W hW; have q0 := hW.facts; obtain ⟨⟨_, _, _, _⟩, _, _, _, _⟩ := q0; clear hW; go_simp; try with_reducible rfl) ?_
    refine wpS_take HS10 (by kernel_rfl) (by intro W hW; have q0 := hW.facts; obtain ⟨⟨_, _, _, _⟩, _, _, _, _⟩ := q0; clear hW; go_simp; try with_reducible rfl) ?_
    refine wpS_take HS10 (by kernel_rfl) (by intro W hW; have q0 := hW.facts; obtain ⟨⟨_, _, _, _⟩, _, _, _, _⟩ := q0; clear hW; go_simp; try with_reducible rfl) ?_
    refine wpS_take HS10 (by kernel_rfl) (by intro W hW; have q0 := hW.facts; obtain ⟨⟨_, _, _, _⟩, _, _, _, _⟩ := q0; clear hW; go_simp; try with_reducible rfl) ?_
    try go_simp
    refine wpS_do fun K11 hK11 => ?_
    go_wp2_with fail
    refine (HO1.out _).mono ?_
    rintro e v11 ⟨rfl, hb11⟩
    have HS11 : Hid (S8 w.heap.size g1 g2 ⟨a, n⟩ ⟨b, m⟩ ⟨x, y⟩ v11) := Lib.hid (HS10.out.later hb11)
    have HB11 := Lib.hid (below_then HB10.out hb11)
    clear hb11 HS10 HB10
    go_wp2_with fail
    refine hK11.out _ _ HS11.out ?_
    clear hK11 K11
    try go_simp
    refine wpS_do fun K12 hK12 => ?_
    go_wp2_with fail
    refine (HO2.out _).mono ?_
    rintro e v12 ⟨rfl, hb12⟩
    have HS12 : Hid (S8 w.heap.size g1 g2 ⟨a, n⟩ ⟨b, m⟩ ⟨x, y⟩ v12) := Lib.hid (HS11.out.later hb12)
    have HB12 := Lib.hid (below_then HB11.out hb12)
    clear hb12 HS11 HB11
    go_wp2_with fail
    refine hK12.out _ _ HS12.out ?_
    clear hK12 K12
    refine wpS_take HS12 (by kernel_rfl) (by intro W hW; clear hW; go_simp; try with_reducible rfl) ?_
    refine wpS_take HS12 (by kernel_rfl) (by intro W hW; clear hW; go_simp; try with_reducible rfl) ?_
    refine wpS_nil ?_
    try go_simp
    go_wp2_with fail
    refine wp_region_s (S8 w.heap.size g1 g2 ⟨a, n⟩ ⟨b, m⟩ ⟨x, y⟩) [(0, true), (1, true), (3, true), (4, true), (2, false), (5, false), (6, true), (7, true), (8, false), (9, true), (10, true)] (by kernel_rfl) (fun _ d _ _ _ h => by cases d <;> exact h) ?_
    simp only [List.map_cons, List.map_nil, nthOp_zero, nthOp_succ]
    have HS__ := Lib.hid (HS12.out.later (Below.refl _ _).drew)
    have HB__ := Lib.hid (HB12.out.drew)
    generalize v12.drew = v__ at *
    clear HS12 HB12 v12
    refine wpS_take HS__ (by kernel_rfl) (by intro W hW; have q0 := hW.facts; obtain ⟨⟨_, _, _, _⟩, _, _, _, _⟩ := q0; clear hW; go_simp; try with_reducible rfl) ?_
    refine wpS_take HS__ (by kernel_rfl) (by intro W hW; have q0 := hW.facts; obtain ⟨⟨_, _, _, _⟩, _, _, _, _⟩ := q0; clear hW; go_simp; try with_reducible rfl) ?_
    refine wpS_take HS__ (by kernel_rfl) (by intro W hW; have q0 := hW.facts; obtain ⟨⟨_, _, _, _⟩, _, _, _, _⟩ := q0; clear hW; go_simp; try with_reducible rfl) ?_
    refine wpS_take HS__ (by kernel_rfl) (by intro W hW; have q0 := hW.facts; obtain ⟨⟨_, _, _, _⟩, _, _, _, _⟩ := q0; clear hW; go_simp; try with_reducible rfl) ?_
    try go_simp
    refine wpS_do fun K13 hK13 => ?_
    go_wp2_with fail
    refine (HQ1.out _).mono ?_
    rintro e v13 ⟨rfl, hb13⟩
    have HS13 : Hid (S8 w.heap.size g1 g2 ⟨a, n⟩ ⟨b, m⟩ ⟨x, y⟩ v13) := Lib.hid (HS__.out.later hb13)
    have HB13 := Lib.hid (below_then HB__.out hb13)
    clear hb13 HS__ HB__
    go_wp2_with fail
    refine hK13.out _ _ HS13.out ?_
    clear hK13 K13
    try go_simp
    refine wpS_do fun K14 hK14 => ?_
    go_wp2_with fail
    refine (HQ2.out _).mono ?_
    rintro e v14 ⟨rfl, hb14⟩
    have HS14 : Hid (S8 w.heap.size g1 g2 ⟨a, n⟩ ⟨b, m⟩ ⟨x, y⟩ v14) := Lib.hid (HS13.out.later hb14)
    have HB14 := Lib.hid (below_then HB13.out hb14)
    clear hb14 HS13 HB13
    go_wp2_with fail
    refine hK14.out _ _ HS14.out ?_
    clear hK14 K14
    refine wpS_take HS14 (by kernel_rfl) (by intro W hW; clear hW; go_simp; try with_reducible rfl) ?_
    refine wpS_take HS14 (by kernel_rfl) (by intro W hW; clear hW; go_simp; try with_reducible rfl) ?_
    try go_simp
    refine wpS_do fun K15 hK15 => ?_
    go_wp2_with fail
    refine (HL.out _ (HE.out.later HB14.out)).mono ?_
    rintro e v15 ⟨rfl, hb15⟩
    have HS15 : Hid (S8 w.heap.size g1 g2 ⟨a, n⟩ ⟨b, m⟩ ⟨x, y⟩ v15) := Lib.hid (HS14.out.later hb15)
    have HB15 := Lib.hid (below_then HB14.out hb15)
    clear hb15 HS14 HB14
    go_wp2_with fail
    refine hK15.out _ _ HS15.out ?_
    clear hK15 K15
    refine wpS_take HS15 (by kernel_rfl) (by intro W hW; clear hW; go_simp; try with_reducible rfl) ?_
    refine wpS_take HS15 (by kernel_rfl) (by intro W hW; clear hW; go_simp; try with_reducible rfl) ?_
    refine wpS_nil ?_
    try go_simp
    go_wp2_with fail
    go_ret
    exact ⟨rfl, HB15.out⟩
end Go.Proofs.YtljmmpjcagchmaaDoor
