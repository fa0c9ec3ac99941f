/-
  One call of both; two rows compared.
-/
import Derived.Test.YtgpgcjdbppehjaaQue30
namespace Go.Proofs.Ytgpgcjdbppehjaa
set_option linter.unusedVariables false
open Go.RowKit

set_option maxRecDepth 100000 in
theorem eq_self (a : Ent) (w : World) : Calls Try.prog 34 #[a.v, a.v] w fun e w' => e = .returned (.bool true) ∧ Below w.heap.size w w' := by
  go_enter Try.func34, Try.ntmps34
  go_wp2
  go_ret
  exact ⟨rfl, below_two _ _ _⟩
structure SmI (wz : World) (n : Nat) (i : Value) (wr : World) : Prop where
  ex : ∃ j : Nat, i = .int .i64 j ∧ j ≤ n
  below : Hid (Below wz.heap.size wz wr)
def Ent2R (W : World) (ad ad' : Addr) (o : Ent) : Prop := EntAt W ad o ∧ EntAt W ad' o
theorem Ent2R.later {W W' : World} {ad ad' : Addr} {o : Ent} (h : Ent2R W ad ad' o) (hb : Below W.heap.size W W') : Ent2R W' ad ad' o := ⟨h.1.later hb, h.2.later hb⟩
set_option maxRecDepth 100000 in
set_option maxHeartbeats 4000000 in
theorem same_true (A A' : Option Addr) (N c c' : Nat) (L : List Ent) (w : World) (hL : L.length = N) (hN : N ≤ 1048576) (hR : Reads w w.heap.size 3 A N (L.flatMap Ent.cells)) (hR' : Reads w w.heap.size 3 A' N (L.flatMap Ent.cells)) :
    Calls Try.prog 18 #[.slice A N c, .slice A' N c'] w fun e w' => e = .returned (.bool true) ∧ Below w.heap.size w w' := by
  have HR := Lib.hid (And.intro hR hR')
  have HL := Lib.hid hL
  clear hR hR' hL
  go_enter Try.func18, Try.ntmps18
  go_wp2
  go_loopw [5] (SmI w N) (fun t _ => N - (intOf t).toNat)
  case atStart => exact ⟨⟨0, rfl, Nat.zero_le _⟩, Lib.hid (Below.refl _ _)⟩
  case round =>
    obtain ⟨⟨k, rfl, hk⟩, hbk⟩ := hrel
    by_cases hlt : k < N
    · have hltI : (k : Int) < N := by omega
      obtain ⟨ad4, e4, hA4, -, he4, h40, h4j⟩ := rowG_at ent_len (HR.out.1.later hbk.out) HL.out hlt
      obtain ⟨ad5, e5, hA5, -, he5, h50, h5j⟩ := rowG_at ent_len (HR.out.2.later hbk.out) HL.out hlt
      subst hA4 hA5
      rw [he4] at he5
      injection he5 with he5
      subst he5
      have HS : Hid ((fun W : World => Ent2R W (ad4.add (k * 3)) (ad5.add (k * 3)) e4) wr.drew) := Lib.hid ⟨⟨h40 _ rfl, h4j 1 _ (by decide) rfl, h4j 2 _ (by decide) rfl⟩, h50 _ rfl, h5j 1 _ (by decide) rfl, h5j 2 _ (by decide) rfl⟩
      have hbk2 : Hid (Below w.heap.size w wr.drew) := hbk.out.drew
      clear h40 h4j h50 h5j he4 hbk
      go_wp2_with fail
      refine wp_region_s (fun W : World => Ent2R W (ad4.add (k * 3)) (ad5.add (k * 3)) e4) [(0, true), (1, true), (2, true), (4, true), (5, true), (6, true), (3, true), (7, true), (8, false), (9, true)] (by kernel_rfl) (fun _ d _ _ _ h => by cases d <;> exact h) ?_
      simp only [List.map_cons, List.map_nil, nthOp_zero, nthOp_succ]
      generalize wr.drew = w3 at *
      refine wpS_take HS (by rfl) (by intro W hW; clear hW; go_simp; try with_reducible rfl) ?_
      refine wpS_take HS (by rfl) (by intro W hW; clear hW; go_simp; try with_reducible rfl) ?_
      refine wpS_take HS (by rfl) (by intro W hW; clear hW; go_simp; try with_reducible rfl) ?_
      refine wpS_take HS (by rfl) (by intro W hW; clear hW; go_simp; try with_reducible rfl) ?_
      refine wpS_take HS (by rfl) (by intro W hW; clear hW; go_simp; try with_reducible rfl) ?_
      refine wpS_take HS (by rfl) (by intro W hW; clear hW; go_simp; try with_reducible rfl) ?_
      refine wpS_take HS (by rfl) (by intro W hW; obtain ⟨⟨c1, c2, c3⟩, d1, d2, d3⟩ := hW; go_simp; try with_reducible rfl) ?_
      refine wpS_take HS (by rfl) (by intro W hW; obtain ⟨⟨c1, c2, c3⟩, d1, d2, d3⟩ := hW; go_simp; try with_reducible rfl) ?_
      go_simp
      refine wpS_do fun K hK => ?_
      go_wp2_with fail
      refine (eq_self e4 w3).mono ?_
      rintro e w4 ⟨rfl, hb⟩
      have HS4 : Hid ((fun W : World => Ent2R W (ad4.add (k * 3)) (ad5.add (k * 3)) e4) w4) := Lib.hid (HS.out.later hb)
      have hbk4 := Lib.hid (below_then hbk2.out hb)
      clear hb HS hbk2
      go_wp2_with fail
      refine hK.out _ _ HS4.out ?_
      clear hK K
      refine wpS_take HS4 (by rfl) (by intro W hW; clear hW; go_simp; try with_reducible rfl) ?_
      refine wpS_nil ?_
      go_simp
      go_wp2_with fail
      go_roundw
      case rel => exact ⟨⟨k + 1, by go_num, by omega⟩, hbk4⟩
      case measure => simp [intOf]; omega
    · have dk : decide ((k : Int) < N) = false := decide_eq_false (by omega)
      go_wp2_with fail
      go_ret
      exact ⟨rfl, hbk.out⟩
def Box4 (W : World) (gx : Nat) (o : OpA) : Prop := W.cell? ⟨gx, 0, none⟩ = some (.int .u8 o.d) ∧ W.cell? ⟨gx, 1, none⟩ = some (.int .i64 o.a) ∧ W.cell? ⟨gx, 2, none⟩ = some (.int .i64 o.r) ∧ W.cell? ⟨gx, 3, none⟩ = some (.int .u64 o.x)
theorem Box4.kept {R : Nat → Prop} {W W' : World} {gx : Nat} {o : OpA} (h : Box4 W gx o) (k : Kept R W W') (hn : ¬ R gx) : Box4 W' gx o :=
  ⟨(k.cell (cell_lt h.1) hn).trans h.1, (k.cell (cell_lt h.2.1) hn).trans h.2.1, (k.cell (cell_lt h.2.2.1) hn).trans h.2.2.1, (k.cell (cell_lt h.2.2.2) hn).trans h.2.2.2⟩
theorem box4_new (w : World) (t : TypeId) (o : OpA) : Box4 (w.alloc (.cells #[.int .u8 o.d, .int .i64 o.a, .int .i64 o.r, .int .u64 o.x] t)) w.heap.size o :=
  ⟨(Blk.new w t _).cell 0, (Blk.new w t _).cell 1, (Blk.new w t _).cell 2, (Blk.new w t _).cell 3⟩
/-- What stands while both are called. -/
structure OneI (w wr W : World) (F F2 F' F2' : Nat → Prop) (g bm g2 gx : Nat) (most : Int) (l D : List Ent) (o : OpA) : Prop where
  h : PairH w W F' F2' g bm g2 most l D
  gq : Grew wr F F'
  gr : Grew wr F2 F2'
  k : Kept (fun i => F i ∨ F2 i) wr W
  b : Box4 W gx o
  n : wr.heap.size ≤ gx ∧ gx < W.heap.size ∧ ¬ F' gx ∧ ¬ F2' gx
section
variable {w wr W W' : World} {F F2 F' F2' F'' : Nat → Prop} {g bm g2 gx : Nat} {most : Int} {l D l' : List Ent} {o : OpA}
theorem OneI.later (t : OneI w wr W F F2 F' F2' g bm g2 gx most l D o) (hb : Below W.heap.size W W') : OneI w wr W' F F2 F' F2' g bm g2 gx most l D o :=
  ⟨t.h.later hb, t.gq, t.gr, t.k.trans (Kept.of_new hb (fun i => F i ∨ F2 i)) (fun _ _ e => e), t.b.kept (Kept.of_new hb (fun _ => False)) (fun h => h), t.n.1, Nat.lt_of_lt_of_le t.n.2.1 hb.size, t.n.2.2⟩
theorem OneI.stepq (t : OneI w wr W F F2 F' F2' g bm g2 gx most l D o) (hq : QF W' F'' g bm most l') (hi : QI l') (hg : Grew W F' F'') (hk : Kept F' W W') : OneI w wr W' F F2 F'' F2' g bm g2 gx most l' D o :=
  ⟨t.h.stepq hq hi hg hk, t.gq.trans hg t.k.size, t.gr, t.k.trans hk (fun i hi h => (t.gq.2 i h).elim .inl (fun h => absurd hi (by omega))), t.b.kept hk t.n.2.2.1, t.n.1, Nat.lt_of_lt_of_le t.n.2.1 hk.size, fun h => (hg.2 gx h).elim t.n.2.2.1 (fun h => by have := t.n.2.1; omega), t.n.2.2.2⟩
theorem OneI.stepr (t : OneI w wr W F F2 F' F2' g bm g2 gx most l D o) (s : RStep_ W W' F2' F'' g2 most l') : OneI w wr W' F F2 F' F'' g bm g2 gx most l l' o :=
  ⟨t.h.stepr s, t.gq, t.gr.trans s.g t.k.size, t.k.trans s.k (fun i hi h => (t.gr.2 i h).elim .inr (fun h => absurd hi (by omega))), t.b.kept s.k t.n.2.2.2, t.n.1, Nat.lt_of_lt_of_le t.n.2.1 s.k.size, t.n.2.2.1, fun h => (s.g.2 gx h).elim t.n.2.2.2 (fun h => by have := t.n.2.1; omega)⟩
theorem OneI.done (t : OneI w wr W F F2 F' F2' g bm g2 gx most l D o) (hm : ∀ e, e ∈ l ↔ e ∈ D) : PStep w wr W F F2 F' F2' g bm g2 most l D := ⟨t.h, hm, t.gq, t.gr, t.k⟩
end
set_option maxRecDepth 100000 in
set_option maxHeartbeats 8000000 in
theorem one_put0 (w wr : World) (F F2 : Nat → Prop) (g bm g2 : Nat) (most : Int) (l D : List Ent) (hp : PairH w wr F F2 g bm g2 most l D) (hm : ∀ e, e ∈ l ↔ e ∈ D) (h1 : 1 ≤ most) (h2 : most ≤ 1048576) (o : OpA) (hok : o.ok) (hc : o.d % 6 = 0) :
    Calls Try.prog 17 #[.pointer (some ⟨g, 0, none⟩), .pointer (some ⟨g2, 0, none⟩), .agg #[.int .u8 o.d, .int .i64 o.a, .int .i64 o.r, .int .u64 o.x]] wr fun e w' => ∃ F' F2' l' D', e = .returned (.bool true) ∧ PStep w wr w' F F2 F' F2' g bm g2 most l' D' := by
  have HP := Lib.hid hp
  have HM := Lib.hid hm
  have HK := Lib.hid hok
  have hd := hok.d
  have HI : Hid (OneI w wr (wr.alloc (.cells #[.int .u8 o.d, .int .i64 o.a, .int .i64 o.r, .int .u64 o.x] 29)) F F2 F F2 g bm g2 wr.heap.size most l D o) := Lib.hid
    ⟨hp.later ((Below.refl _ _).alloc (Nat.le_refl _) _), Grew.refl _ _, Grew.refl _ _, (Kept.refl _ _).alloc _, box4_new _ _ _, Nat.le_refl _, by rw [World.size_alloc]; omega, fun h => by have := hp.q.lim _ h; omega, fun h => by have := hp.r.lim _ h; omega⟩
  clear hp hm hok
  have hw : IntKind.u8.wrap (o.d % 6) = o.d % 6 := by simp [IntKind.wrap, IntKind.bits, IntKind.signed]; omega
  have htm : o.d.tmod 6 = o.d % 6 := Int.tmod_eq_emod_of_nonneg hd.1
  have hdv : (6 : Int) ∣ o.d ∨ True := .inr trivial
  clear hdv
  go_enter Try.func17, Try.ntmps17
  go_wp2_with fail
  generalize hgx : wr.heap.size = gx at *
  generalize hw1 : wr.alloc (.cells #[.int .u8 o.d, .int .i64 o.a, .int .i64 o.r, .int .u64 o.x] 29) = w1 at *
  clear hgx hw1 hd hw htm
  have HI1 : Hid (OneI w wr w1.drew F F2 F F2 g bm g2 gx most l D o) := Lib.hid (HI.out.later (Below.refl _ _).drew)
  clear HI
  refine wp_region_s (fun W : World => Box4 W gx o) [(0, true), (1, true), (3, true), (5, true), (8, true), (9, true), (11, true), (13, true), (2, true), (4, true), (6, true), (10, true), (12, true), (14, true), (7, false), (15, false), (16, true), (17, true)] (by kernel_rfl) (fun _ d _ _ _ h => by cases d <;> exact h) ?_
  simp only [List.map_cons, List.map_nil, nthOp_zero, nthOp_succ]
  generalize w1.drew = w2 at *
  have HS : Hid ((fun W : World => Box4 W gx o) w2) := Lib.hid HI1.out.b
  refine wpS_take HS (by rfl) (by intro W hW; clear hW; go_simp; try with_reducible rfl) ?_
  refine wpS_take HS (by rfl) (by intro W hW; clear hW; go_simp; try with_reducible rfl) ?_
  refine wpS_take HS (by rfl) (by intro W hW; clear hW; go_simp; try with_reducible rfl) ?_
  refine wpS_take HS (by rfl) (by intro W hW; clear hW; go_simp; try with_reducible rfl) ?_
  go_simp
  refine wpS_take HS (by rfl) (by intro W hW; clear hW; go_simp; try with_reducible rfl) ?_
  refine wpS_take HS (by rfl) (by intro W hW; clear hW; go_simp; try with_reducible rfl) ?_
  refine wpS_take HS (by rfl) (by intro W hW; clear hW; go_simp; try with_reducible rfl) ?_
  refine wpS_take HS (by rfl) (by intro W hW; clear hW; go_simp; try with_reducible rfl) ?_
  go_simp
  refine wpS_take HS (by rfl) (by intro W hW; obtain ⟨a0, a1, a2, a3⟩ := hW; go_simp; try with_reducible rfl) ?_
  refine wpS_take HS (by rfl) (by intro W hW; obtain ⟨a0, a1, a2, a3⟩ := hW; go_simp; try with_reducible rfl) ?_
  refine wpS_take HS (by rfl) (by intro W hW; obtain ⟨a0, a1, a2, a3⟩ := hW; go_simp; try with_reducible rfl) ?_
  go_simp
  refine wpS_take HS (by rfl) (by intro W hW; obtain ⟨a0, a1, a2, a3⟩ := hW; go_simp; try with_reducible rfl) ?_
  refine wpS_take HS (by rfl) (by intro W hW; obtain ⟨a0, a1, a2, a3⟩ := hW; go_simp; try with_reducible rfl) ?_
  refine wpS_take HS (by rfl) (by intro W hW; obtain ⟨a0, a1, a2, a3⟩ := hW; go_simp; try with_reducible rfl) ?_
  go_simp
  refine wpS_do fun K hK => ?_
  go_wp2_with fail
  refine (put_all w2 F g bm most l HI1.out.h.q HI1.out.h.qi h1 h2 o.a o.r o.x HK.out.e).mono ?_
  rintro e w3 ⟨F3, l3, b, rfl, q3, i3, g3, k3, p3⟩
  have HI3 := Lib.hid (HI1.out.stepq q3 i3 g3 k3)
  have P3 := Lib.hid p3
  clear q3 i3 g3 k3 p3
  go_wp2_with fail
  refine hK.out _ _ HI3.out.b ?_
  clear hK K HS
  go_simp
  refine wpS_do fun K hK => ?_
  go_wp2_with fail
  refine (rput_any w3 F2 g2 most D HI3.out.h.r HI3.out.h.d h2 o.a o.r o.x).mono ?_
  rintro e w4 ⟨F4, l4, b4, rfl, s4, p4⟩
  have HI4 := Lib.hid (HI3.out.stepr s4)
  obtain ⟨hb, hm4⟩ := putM_agree HI1.out.h.qi.dist HI1.out.h.d HM.out P3.out p4
  subst hb
  have HM4 := Lib.hid hm4
  have HS4 : Hid ((fun W : World => Box4 W gx o) w4) := Lib.hid HI4.out.b
  clear s4 p4 hm4 P3 HI3 HI1
  go_wp2_with fail
  refine hK.out _ _ HS4.out ?_
  clear hK K
  cases b
  all_goals
    refine wpS_take HS4 (by rfl) (by intro W hW; clear hW; go_simp; try with_reducible rfl) ?_
    refine wpS_take HS4 (by rfl) (by intro W hW; clear hW; go_simp; try with_reducible rfl) ?_
    refine wpS_nil ?_
    go_simp
    go_wp2_with fail
    go_ret
    exact ⟨_, _, _, _, rfl, HI4.out.done HM4.out⟩
set_option maxRecDepth 100000 in
set_option maxHeartbeats 8000000 in
theorem one_put1 (w wr : World) (F F2 : Nat → Prop) (g bm g2 : Nat) (most : Int) (l D : List Ent) (hp : PairH w wr F F2 g bm g2 most l D) (hm : ∀ e, e ∈ l ↔ e ∈ D) (h1 : 1 ≤ most) (h2 : most ≤ 1048576) (o : OpA) (hok : o.ok) (hc : o.d % 6 = 1) :
    Calls Try.prog 17 #[.pointer (some ⟨g, 0, none⟩), .pointer (some ⟨g2, 0, none⟩), .agg #[.int .u8 o.d, .int .i64 o.a, .int .i64 o.r, .int .u64 o.x]] wr fun e w' => ∃ F' F2' l' D', e = .returned (.bool true) ∧ PStep w wr w' F F2 F' F2' g bm g2 most l' D' := by
  have HP := Lib.hid hp
  have HM := Lib.hid hm
  have HK := Lib.hid hok
  have hd := hok.d
  have HI : Hid (OneI w wr (wr.alloc (.cells #[.int .u8 o.d, .int .i64 o.a, .int .i64 o.r, .int .u64 o.x] 29)) F F2 F F2 g bm g2 wr.heap.size most l D o) := Lib.hid
    ⟨hp.later ((Below.refl _ _).alloc (Nat.le_refl _) _), Grew.refl _ _, Grew.refl _ _, (Kept.refl _ _).alloc _, box4_new _ _ _, Nat.le_refl _, by rw [World.size_alloc]; omega, fun h => by have := hp.q.lim _ h; omega, fun h => by have := hp.r.lim _ h; omega⟩
  clear hp hm hok
  have hw : IntKind.u8.wrap (o.d % 6) = o.d % 6 := by simp [IntKind.wrap, IntKind.bits, IntKind.signed]; omega
  have htm : o.d.tmod 6 = o.d % 6 := Int.tmod_eq_emod_of_nonneg hd.1
  have hdv : (6 : Int) ∣ o.d ∨ True := .inr trivial
  clear hdv
  go_enter Try.func17, Try.ntmps17
  go_wp2_with fail
  generalize hgx : wr.heap.size = gx at *
  generalize hw1 : wr.alloc (.cells #[.int .u8 o.d, .int .i64 o.a, .int .i64 o.r, .int .u64 o.x] 29) = w1 at *
  clear hgx hw1 hd hw htm
  have HI1 : Hid (OneI w wr w1.drew F F2 F F2 g bm g2 gx most l D o) := Lib.hid (HI.out.later (Below.refl _ _).drew)
  clear HI
  refine wp_region_s (fun W : World => Box4 W gx o) [(0, true), (1, true), (3, true), (5, true), (8, true), (9, true), (11, true), (13, true), (2, true), (4, true), (6, true), (10, true), (12, true), (14, true), (7, false), (15, false), (16, true), (17, true)] (by kernel_rfl) (fun _ d _ _ _ h => by cases d <;> exact h) ?_
  simp only [List.map_cons, List.map_nil, nthOp_zero, nthOp_succ]
  generalize w1.drew = w2 at *
  have HS : Hid ((fun W : World => Box4 W gx o) w2) := Lib.hid HI1.out.b
  refine wpS_take HS (by rfl) (by intro W hW; clear hW; go_simp; try with_reducible rfl) ?_
  refine wpS_take HS (by rfl) (by intro W hW; clear hW; go_simp; try with_reducible rfl) ?_
  refine wpS_take HS (by rfl) (by intro W hW; clear hW; go_simp; try with_reducible rfl) ?_
  refine wpS_take HS (by rfl) (by intro W hW; clear hW; go_simp; try with_reducible rfl) ?_
  go_simp
  refine wpS_take HS (by rfl) (by intro W hW; clear hW; go_simp; try with_reducible rfl) ?_
  refine wpS_take HS (by rfl) (by intro W hW; clear hW; go_simp; try with_reducible rfl) ?_
  refine wpS_take HS (by rfl) (by intro W hW; clear hW; go_simp; try with_reducible rfl) ?_
  refine wpS_take HS (by rfl) (by intro W hW; clear hW; go_simp; try with_reducible rfl) ?_
  go_simp
  refine wpS_take HS (by rfl) (by intro W hW; obtain ⟨a0, a1, a2, a3⟩ := hW; go_simp; try with_reducible rfl) ?_
  refine wpS_take HS (by rfl) (by intro W hW; obtain ⟨a0, a1, a2, a3⟩ := hW; go_simp; try with_reducible rfl) ?_
  refine wpS_take HS (by rfl) (by intro W hW; obtain ⟨a0, a1, a2, a3⟩ := hW; go_simp; try with_reducible rfl) ?_
  go_simp
  refine wpS_take HS (by rfl) (by intro W hW; obtain ⟨a0, a1, a2, a3⟩ := hW; go_simp; try with_reducible rfl) ?_
  refine wpS_take HS (by rfl) (by intro W hW; obtain ⟨a0, a1, a2, a3⟩ := hW; go_simp; try with_reducible rfl) ?_
  refine wpS_take HS (by rfl) (by intro W hW; obtain ⟨a0, a1, a2, a3⟩ := hW; go_simp; try with_reducible rfl) ?_
  go_simp
  refine wpS_do fun K hK => ?_
  go_wp2_with fail
  refine (put_all w2 F g bm most l HI1.out.h.q HI1.out.h.qi h1 h2 o.a o.r o.x HK.out.e).mono ?_
  rintro e w3 ⟨F3, l3, b, rfl, q3, i3, g3, k3, p3⟩
  have HI3 := Lib.hid (HI1.out.stepq q3 i3 g3 k3)
  have P3 := Lib.hid p3
  clear q3 i3 g3 k3 p3
  go_wp2_with fail
  refine hK.out _ _ HI3.out.b ?_
  clear hK K HS
  go_simp
  refine wpS_do fun K hK => ?_
  go_wp2_with fail
  refine (rput_any w3 F2 g2 most D HI3.out.h.r HI3.out.h.d h2 o.a o.r o.x).mono ?_
  rintro e w4 ⟨F4, l4, b4, rfl, s4, p4⟩
  have HI4 := Lib.hid (HI3.out.stepr s4)
  obtain ⟨hb, hm4⟩ := putM_agree HI1.out.h.qi.dist HI1.out.h.d HM.out P3.out p4
  subst hb
  have HM4 := Lib.hid hm4
  have HS4 : Hid ((fun W : World => Box4 W gx o) w4) := Lib.hid HI4.out.b
  clear s4 p4 hm4 P3 HI3 HI1
  go_wp2_with fail
  refine hK.out _ _ HS4.out ?_
  clear hK K
  cases b
  all_goals
    refine wpS_take HS4 (by rfl) (by intro W hW; clear hW; go_simp; try with_reducible rfl) ?_
    refine wpS_take HS4 (by rfl) (by intro W hW; clear hW; go_simp; try with_reducible rfl) ?_
    refine wpS_nil ?_
    go_simp
    go_wp2_with fail
    go_ret
    exact ⟨_, _, _, _, rfl, HI4.out.done HM4.out⟩
set_option maxRecDepth 100000 in
set_option maxHeartbeats 8000000 in
theorem one_drop (w wr : World) (F F2 : Nat → Prop) (g bm g2 : Nat) (most : Int) (l D : List Ent) (hp : PairH w wr F F2 g bm g2 most l D) (hm : ∀ e, e ∈ l ↔ e ∈ D) (h1 : 1 ≤ most) (h2 : most ≤ 1048576) (o : OpA) (hok : o.ok) (hc : o.d % 6 = 2) :
    Calls Try.prog 17 #[.pointer (some ⟨g, 0, none⟩), .pointer (some ⟨g2, 0, none⟩), .agg #[.int .u8 o.d, .int .i64 o.a, .int .i64 o.r, .int .u64 o.x]] wr fun e w' => ∃ F' F2' l' D', e = .returned (.bool true) ∧ PStep w wr w' F F2 F' F2' g bm g2 most l' D' := by
  have HP := Lib.hid hp
  have HM := Lib.hid hm
  have HK := Lib.hid hok
  have hd := hok.d
  have HI : Hid (OneI w wr (wr.alloc (.cells #[.int .u8 o.d, .int .i64 o.a, .int .i64 o.r, .int .u64 o.x] 29)) F F2 F F2 g bm g2 wr.heap.size most l D o) := Lib.hid
    ⟨hp.later ((Below.refl _ _).alloc (Nat.le_refl _) _), Grew.refl _ _, Grew.refl _ _, (Kept.refl _ _).alloc _, box4_new _ _ _, Nat.le_refl _, by rw [World.size_alloc]; omega, fun h => by have := hp.q.lim _ h; omega, fun h => by have := hp.r.lim _ h; omega⟩
  clear hp hm hok
  have hw : IntKind.u8.wrap (o.d % 6) = o.d % 6 := by simp [IntKind.wrap, IntKind.bits, IntKind.signed]; omega
  have htm : o.d.tmod 6 = o.d % 6 := Int.tmod_eq_emod_of_nonneg hd.1
  have hdv : (6 : Int) ∣ o.d ∨ True := .inr trivial
  clear hdv
  go_enter Try.func17, Try.ntmps17
  go_wp2_with fail
  generalize hgx : wr.heap.size = gx at *
  generalize hw1 : wr.alloc (.cells #[.int .u8 o.d, .int .i64 o.a, .int .i64 o.r, .int .u64 o.x] 29) = w1 at *
  clear hgx hw1 hd hw htm
  have HI1 : Hid (OneI w wr w1.drew F F2 F F2 g bm g2 gx most l D o) := Lib.hid (HI.out.later (Below.refl _ _).drew)
  clear HI
  refine wp_region_s (fun W : World => Box4 W gx o) [(0, true), (1, true), (4, true), (5, true), (2, true), (6, true), (3, false), (7, false), (8, true), (9, true)] (by kernel_rfl) (fun _ d _ _ _ h => by cases d <;> exact h) ?_
  simp only [List.map_cons, List.map_nil, nthOp_zero, nthOp_succ]
  generalize w1.drew = w2 at *
  have HS : Hid ((fun W : World => Box4 W gx o) w2) := Lib.hid HI1.out.b
  refine wpS_take HS (by rfl) (by intro W hW; clear hW; go_simp; try with_reducible rfl) ?_
  refine wpS_take HS (by rfl) (by intro W hW; clear hW; go_simp; try with_reducible rfl) ?_
  refine wpS_take HS (by rfl) (by intro W hW; clear hW; go_simp; try with_reducible rfl) ?_
  refine wpS_take HS (by rfl) (by intro W hW; clear hW; go_simp; try with_reducible rfl) ?_
  go_simp
  refine wpS_take HS (by rfl) (by intro W hW; obtain ⟨a0, a1, a2, a3⟩ := hW; go_simp; try with_reducible rfl) ?_
  refine wpS_take HS (by rfl) (by intro W hW; obtain ⟨a0, a1, a2, a3⟩ := hW; go_simp; try with_reducible rfl) ?_
  go_simp
  refine wpS_do fun K hK => ?_
  go_wp2_with fail
  refine (drop_all w2 F g bm most l HI1.out.h.q HI1.out.h.qi h1 o.x).mono ?_
  rintro e w3 ⟨l3, b, rfl, q3, i3, k3, p3⟩
  have HI3 := Lib.hid (HI1.out.stepq q3 i3 (Grew.refl _ _) k3)
  have P3 := Lib.hid p3
  clear q3 i3 k3 p3
  go_wp2_with fail
  refine hK.out _ _ HI3.out.b ?_
  clear hK K HS
  go_simp
  refine wpS_do fun K hK => ?_
  go_wp2_with fail
  refine (rdrop_any w3 F2 g2 most D HI3.out.h.r HI3.out.h.d o.x).mono ?_
  rintro e w4 ⟨F4, l4, b4, rfl, s4, p4, -⟩
  have HI4 := Lib.hid (HI3.out.stepr s4)
  obtain ⟨hb, hm4⟩ := dropM_agree HM.out P3.out p4
  subst hb
  have HM4 := Lib.hid hm4
  have HS4 : Hid ((fun W : World => Box4 W gx o) w4) := Lib.hid HI4.out.b
  clear s4 p4 hm4 P3 HI3 HI1
  go_wp2_with fail
  refine hK.out _ _ HS4.out ?_
  clear hK K
  cases b
  all_goals
    refine wpS_take HS4 (by rfl) (by intro W hW; clear hW; go_simp; try with_reducible rfl) ?_
    refine wpS_take HS4 (by rfl) (by intro W hW; clear hW; go_simp; try with_reducible rfl) ?_
    refine wpS_nil ?_
    go_simp
    go_wp2_with fail
    go_ret
    exact ⟨_, _, _, _, rfl, HI4.out.done HM4.out⟩
set_option maxRecDepth 100000 in
set_option maxHeartbeats 8000000 in
theorem one_next (w wr : World) (F F2 : Nat → Prop) (g bm g2 : Nat) (most : Int) (l D : List Ent) (hp : PairH w wr F F2 g bm g2 most l D) (hm : ∀ e, e ∈ l ↔ e ∈ D) (h1 : 1 ≤ most) (h2 : most ≤ 1048576) (o : OpA) (hok : o.ok) (hc : o.d % 6 = 3) :
    Calls Try.prog 17 #[.pointer (some ⟨g, 0, none⟩), .pointer (some ⟨g2, 0, none⟩), .agg #[.int .u8 o.d, .int .i64 o.a, .int .i64 o.r, .int .u64 o.x]] wr fun e w' => ∃ F' F2' l' D', e = .returned (.bool true) ∧ PStep w wr w' F F2 F' F2' g bm g2 most l' D' := by
  have HP := Lib.hid hp
  have HM := Lib.hid hm
  have HK := Lib.hid hok
  have hd := hok.d
  have HI : Hid (OneI w wr (wr.alloc (.cells #[.int .u8 o.d, .int .i64 o.a, .int .i64 o.r, .int .u64 o.x] 29)) F F2 F F2 g bm g2 wr.heap.size most l D o) := Lib.hid
    ⟨hp.later ((Below.refl _ _).alloc (Nat.le_refl _) _), Grew.refl _ _, Grew.refl _ _, (Kept.refl _ _).alloc _, box4_new _ _ _, Nat.le_refl _, by rw [World.size_alloc]; omega, fun h => by have := hp.q.lim _ h; omega, fun h => by have := hp.r.lim _ h; omega⟩
  clear hp hm hok
  have hw : IntKind.u8.wrap (o.d % 6) = o.d % 6 := by simp [IntKind.wrap, IntKind.bits, IntKind.signed]; omega
  have htm : o.d.tmod 6 = o.d % 6 := Int.tmod_eq_emod_of_nonneg hd.1
  have hdv : (6 : Int) ∣ o.d ∨ True := .inr trivial
  clear hdv
  go_enter Try.func17, Try.ntmps17
  go_wp2_with fail
  generalize hgx : wr.heap.size = gx at *
  generalize hw1 : wr.alloc (.cells #[.int .u8 o.d, .int .i64 o.a, .int .i64 o.r, .int .u64 o.x] 29) = w1 at *
  clear hgx hw1 hd hw htm
  refine (qnext_m w1 F g bm most l HI.out.h.q HI.out.h.qi h1).mono ?_
  rintro e w2 ⟨z, b, rfl, n2, hb⟩
  have N2 := Lib.hid n2
  have HI3 := Lib.hid ((HI.out.later hb).later (W' := w2.alloc (.cells #[.int .i64 z.at_, .int .i64 z.rank, .int .u64 z.what] 32)) ((Below.refl _ _).alloc (Nat.le_refl _) _))
  have BX3 := Lib.hid (Blk.new w2 32 #[.int .i64 z.at_, .int .i64 z.rank, .int .u64 z.what])
  clear hb n2 HI
  go_wp2_with fail
  generalize w2.heap.size = gy at *
  generalize w2.alloc (.cells #[.int .i64 z.at_, .int .i64 z.rank, .int .u64 z.what] 32) = w3 at *
  refine (rnext_any w3 F2 g2 most D HI3.out.h.r).mono ?_
  rintro e w4 ⟨z4, b4, rfl, n4, hb⟩
  obtain ⟨hbb, hzz⟩ := nextM_agree HM.out N2.out n4
  subst hbb hzz
  have HI4 := Lib.hid (HI3.out.later hb)
  have BX4 := Lib.hid (BX3.out.later hb)
  have HM4 := HM
  clear hb n4 N2 HI3 BX3 HM
  have HI5 := Lib.hid (HI4.out.later (W' := w4.alloc (.cells #[.int .i64 z.at_, .int .i64 z.rank, .int .u64 z.what] 73)) ((Below.refl _ _).alloc (Nat.le_refl _) _))
  have hx5 := BX4.out.alloc (.cells #[.int .i64 z.at_, .int .i64 z.rank, .int .u64 z.what] 73)
  have e0 := hx5.cell 0
  have e1 := hx5.cell 1
  have e2 := hx5.cell 2
  simp at e0 e1 e2
  clear hx5 BX4 HI4
  cases b
  all_goals
    go_wp2_with fail
    refine (eq_self z _).mono ?_
    rintro e w6 ⟨rfl, hb⟩
    have HI6 := Lib.hid (HI5.out.later hb)
    clear hb e0 e1 e2 HI5
    go_wp2_with fail
    go_ret
    exact ⟨_, _, _, _, rfl, HI6.out.done HM4.out⟩
set_option maxRecDepth 100000 in
set_option maxHeartbeats 8000000 in
theorem one_take (w wr : World) (F F2 : Nat → Prop) (g bm g2 : Nat) (most : Int) (l D : List Ent) (hp : PairH w wr F F2 g bm g2 most l D) (hm : ∀ e, e ∈ l ↔ e ∈ D) (h1 : 1 ≤ most) (h2 : most ≤ 1048576) (o : OpA) (hok : o.ok) (hc : o.d % 6 = 4) :
    Calls Try.prog 17 #[.pointer (some ⟨g, 0, none⟩), .pointer (some ⟨g2, 0, none⟩), .agg #[.int .u8 o.d, .int .i64 o.a, .int .i64 o.r, .int .u64 o.x]] wr fun e w' => ∃ F' F2' l' D', e = .returned (.bool true) ∧ PStep w wr w' F F2 F' F2' g bm g2 most l' D' := by
  have HP := Lib.hid hp
  have HM := Lib.hid hm
  have HK := Lib.hid hok
  have hd := hok.d
  have HI : Hid (OneI w wr (wr.alloc (.cells #[.int .u8 o.d, .int .i64 o.a, .int .i64 o.r, .int .u64 o.x] 29)) F F2 F F2 g bm g2 wr.heap.size most l D o) := Lib.hid
    ⟨hp.later ((Below.refl _ _).alloc (Nat.le_refl _) _), Grew.refl _ _, Grew.refl _ _, (Kept.refl _ _).alloc _, box4_new _ _ _, Nat.le_refl _, by rw [World.size_alloc]; omega, fun h => by have := hp.q.lim _ h; omega, fun h => by have := hp.r.lim _ h; omega⟩
  clear hp hm hok
  have hw : IntKind.u8.wrap (o.d % 6) = o.d % 6 := by simp [IntKind.wrap, IntKind.bits, IntKind.signed]; omega
  have htm : o.d.tmod 6 = o.d % 6 := Int.tmod_eq_emod_of_nonneg hd.1
  have hdv : (6 : Int) ∣ o.d ∨ True := .inr trivial
  clear hdv
  go_enter Try.func17, Try.ntmps17
  go_wp2_with fail
  generalize hgx : wr.heap.size = gx at *
  generalize hw1 : wr.alloc (.cells #[.int .u8 o.d, .int .i64 o.a, .int .i64 o.r, .int .u64 o.x] 29) = w1 at *
  clear hgx hw1 hd hw htm
  have HA1 := HI.out.b
  obtain ⟨a0, a1, a2, a3⟩ := HA1
  go_wp2_with fail
  refine (qtake_m w1 F g bm most o.a l HI.out.h.q HI.out.h.qi h1).mono ?_
  rintro e w2 ⟨l2, z, b, rfl, q2, i2, k2, n2⟩
  have N2 := Lib.hid n2
  have HI3 := Lib.hid ((HI.out.stepq q2 i2 (Grew.refl _ _) k2).later (W' := w2.alloc (.cells #[.int .i64 z.at_, .int .i64 z.rank, .int .u64 z.what] 32)) ((Below.refl _ _).alloc (Nat.le_refl _) _))
  have BX3 := Lib.hid (Blk.new w2 32 #[.int .i64 z.at_, .int .i64 z.rank, .int .u64 z.what])
  have HNF : Hid (¬ F2 w2.heap.size) := Lib.hid fun h => by have := (HI.out.h.stepq q2 i2 (Grew.refl _ _) k2).r.lim _ h; omega
  clear q2 i2 k2 n2 HI a0 a1 a2 a3
  have HA3 := HI3.out.b
  obtain ⟨a0, a1, a2, a3⟩ := HA3
  go_wp2_with fail
  clear a0 a1 a2 a3
  generalize w2.heap.size = gy at *
  generalize w2.alloc (.cells #[.int .i64 z.at_, .int .i64 z.rank, .int .u64 z.what] 32) = w3 at *
  refine (rtake_any w3 F2 g2 most o.a D HI3.out.h.r HI3.out.h.d).mono ?_
  rintro e w4 ⟨F4, l4, z4, b4, rfl, s4, n4⟩
  obtain ⟨hbb, hzz, hm4⟩ := takeM_agree HM.out N2.out n4
  subst hbb hzz
  have HI4 := Lib.hid (HI3.out.stepr s4)
  have BX4 := Lib.hid (BX3.out.kept s4.k HNF.out)
  have HM4 := Lib.hid hm4
  clear s4 n4 hm4 N2 HI3 BX3 HM HNF
  have HI5 := Lib.hid (HI4.out.later (W' := w4.alloc (.cells #[.int .i64 z.at_, .int .i64 z.rank, .int .u64 z.what] 73)) ((Below.refl _ _).alloc (Nat.le_refl _) _))
  have hx5 := BX4.out.alloc (.cells #[.int .i64 z.at_, .int .i64 z.rank, .int .u64 z.what] 73)
  have e0 := hx5.cell 0
  have e1 := hx5.cell 1
  have e2 := hx5.cell 2
  simp at e0 e1 e2
  clear hx5 BX4 HI4
  cases b
  all_goals
    go_wp2_with fail
    refine (eq_self z _).mono ?_
    rintro e w6 ⟨rfl, hb⟩
    have HI6 := Lib.hid (HI5.out.later hb)
    clear hb e0 e1 e2 HI5
    go_wp2_with fail
    go_ret
    exact ⟨_, _, _, _, rfl, HI6.out.done HM4.out⟩
set_option maxRecDepth 100000 in
set_option maxHeartbeats 8000000 in
theorem one_when (w wr : World) (F F2 : Nat → Prop) (g bm g2 : Nat) (most : Int) (l D : List Ent) (hp : PairH w wr F F2 g bm g2 most l D) (hm : ∀ e, e ∈ l ↔ e ∈ D) (h1 : 1 ≤ most) (h2 : most ≤ 1048576) (o : OpA) (hok : o.ok) (hc : o.d % 6 = 5) :
    Calls Try.prog 17 #[.pointer (some ⟨g, 0, none⟩), .pointer (some ⟨g2, 0, none⟩), .agg #[.int .u8 o.d, .int .i64 o.a, .int .i64 o.r, .int .u64 o.x]] wr fun e w' => ∃ F' F2' l' D', e = .returned (.bool true) ∧ PStep w wr w' F F2 F' F2' g bm g2 most l' D' := by
  have HP := Lib.hid hp
  have HM := Lib.hid hm
  have HK := Lib.hid hok
  have hd := hok.d
  have HI : Hid (OneI w wr (wr.alloc (.cells #[.int .u8 o.d, .int .i64 o.a, .int .i64 o.r, .int .u64 o.x] 29)) F F2 F F2 g bm g2 wr.heap.size most l D o) := Lib.hid
    ⟨hp.later ((Below.refl _ _).alloc (Nat.le_refl _) _), Grew.refl _ _, Grew.refl _ _, (Kept.refl _ _).alloc _, box4_new _ _ _, Nat.le_refl _, by rw [World.size_alloc]; omega, fun h => by have := hp.q.lim _ h; omega, fun h => by have := hp.r.lim _ h; omega⟩
  clear hp hm hok
  have hw : IntKind.u8.wrap (o.d % 6) = o.d % 6 := by simp [IntKind.wrap, IntKind.bits, IntKind.signed]; omega
  have htm : o.d.tmod 6 = o.d % 6 := Int.tmod_eq_emod_of_nonneg hd.1
  have hdv : (6 : Int) ∣ o.d ∨ True := .inr trivial
  clear hdv
  go_enter Try.func17, Try.ntmps17
  go_wp2_with fail
  generalize hgx : wr.heap.size = gx at *
  generalize hw1 : wr.alloc (.cells #[.int .u8 o.d, .int .i64 o.a, .int .i64 o.r, .int .u64 o.x] 29) = w1 at *
  clear hgx hw1 hd hw htm
  have HA1 := HI.out.b
  obtain ⟨a0, a1, a2, a3⟩ := HA1
  go_wp2_with fail
  refine (qwhen_m w1 F g bm most l HI.out.h.q HI.out.h.qi h1 o.x).mono ?_
  rintro e w2 ⟨n, b, rfl, n2, rfl⟩
  have N2 := Lib.hid n2
  clear n2
  go_wp2_with fail
  refine (rwhen_any w1 F2 g2 most D HI.out.h.r o.x).mono ?_
  rintro e w4 ⟨n4, b4, rfl, m4, rfl⟩
  obtain ⟨hbb, hzz⟩ := whenM_agree HI.out.h.d HM.out N2.out m4
  subst hbb hzz
  clear m4 N2 a0 a1 a2 a3
  cases b
  all_goals
    go_wp2_with fail
    go_ret
    exact ⟨_, _, _, _, rfl, HI.out.done HM.out⟩
end Go.Proofs.Ytgpgcjdbppehjaa
