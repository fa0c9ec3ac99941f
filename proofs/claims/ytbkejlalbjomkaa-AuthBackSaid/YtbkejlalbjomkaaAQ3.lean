/-
  auth.Sign as lives calls it, walked.
  lodestarlaw08.lives, walked.
-/
import Derived.Test.YtbkejlalbjomkaaAQ2
import Derived.Test.YtbkejlalbjomkaaOctA2
import Derived.Laws.CopyOwn
import Derived.Test.YtbkejlalbjomkaaAQ1
import Derived.Deep.WholeRow
import Derived.Lib.SlBytesConst
namespace Go.Proofs.Ytbkejlalbjomkaa
set_option linter.unusedVariables false
open Go.RowKit

/-- A block of bytes, the first ones known. -/
def CB (W : World) (g : Nat) (ys : List Int) (R : List Value) : Prop := Blk W g 5 (u8s ys ++ R).toArray
theorem CB.of_own {w : World} {base n : Nat} {v : Value} {xs : List Int} (h : w.ownsRow base 5 1 v n (u8s xs)) (hn : 0 < n) (hl : xs.length = n) : ∃ g cap R, v = .slice (some ⟨g, 0, none⟩) n cap ∧ base ≤ g ∧ CB w g xs R ∧ n ≤ cap ∧ cap ≤ 9223372036854775807 := by
  rcases h.2 with ⟨_, h0⟩ | ⟨g, cap, cur, hv, hb, hc, h1, h2, h3, h4⟩
  · omega
  · refine ⟨g, cap, cur.toList.drop n, hv, hb, ?_, h1, h2⟩
    show w.heap[g]? = _
    rw [hc, ← h4, Nat.mul_one, List.take_append_drop]
theorem CB.lt {W : World} {g : Nat} {ys : List Int} {R : List Value} (h : CB W g ys R) : g < W.heap.size := Blk.lt h
theorem CB.cell {W : World} {g : Nat} {ys : List Int} {R : List Value} (h : CB W g ys R) {k : Nat} {y : Int} (hk : ys[k]? = some y) : W.cell? ⟨g, k, none⟩ = some (.int .u8 y) := by
  have := Blk.cell h k
  rw [this, List.getElem?_toArray, List.getElem?_append_left (by rw [u8s_length]; exact (List.getElem?_eq_some_iff.1 hk).1)]
  unfold u8s
  rw [List.getElem?_map, hk]
  rfl
theorem CB.frozen {W : World} {g : Nat} {ys : List Int} {R : List Value} (h : CB W g ys R) (k : Nat) : W.frozen? ⟨g, k, none⟩ = false := Blk.frozen h k
theorem CB.later {W W' : World} {g : Nat} {ys : List Int} {R : List Value} (h : CB W g ys R) (hb : Below W.heap.size W W') : CB W' g ys R := Blk.later h hb
theorem CB.set_ {W : World} {g : Nat} {ys : List Int} {R : List Value} (h : CB W g ys R) (k : Nat) (y : Int) (hk : k < ys.length) : CB (W.setCell ⟨g, k, none⟩ (.int .u8 y)) g (ys.set k y) R := by
  have h1 : Blk (W.setCell ⟨g, k, none⟩ (.int .u8 y)) g 5 ((u8s ys ++ R).toArray.setIfInBounds k (.int .u8 y)) := Blk.set_ h k _
  show Blk _ _ _ _
  have e : (u8s ys ++ R).toArray.setIfInBounds k (.int .u8 y) = (u8s (ys.set k y) ++ R).toArray := by
    rw [List.setIfInBounds_toArray, List.set_append_left _ _ (by rw [u8s_length]; exact hk)]
    unfold u8s
    rw [List.map_set]
  rwa [e] at h1
theorem CB.reads {W : World} {g n : Nat} {ys : List Int} {R : List Value} (h : CB W g ys R) (hn : ys.length = n) : Reads W W.heap.size 1 (some ⟨g, 0, none⟩) n (u8s ys) := by
  have h1 := (Blk.reads (xs := u8s ys ++ R) h (n := n) (by rw [List.length_append, u8s_length]; omega)).more (B' := W.heap.size) (h.lt)
  rwa [List.take_append_of_le_length (by rw [u8s_length]; omega), List.take_of_length_le (by rw [u8s_length]; omega)] at h1
@[reducible] def yl0 : List Int := [2, 5, 0, 24, 0, 0, 0, 1, 0, 0, 0, 0, 253, 225, 0, 0, 0, 0, 0, 0, 0, 0, 0, 0]
@[reducible] def yl1 : List Int := [2, 5, 0, 24, 0, 0, 0, 1, 0, 0, 0, 0, 0, 225, 0, 0, 0, 0, 0, 0, 0, 0, 0, 0]
@[reducible] def yl2 : List Int := [2, 5, 0, 24, 0, 0, 0, 1, 0, 0, 0, 0, 0, 0, 0, 0, 0, 0, 0, 0, 0, 0, 0, 0]
@[reducible] def yl3 : List Int := [2, 5, 0, 24, 0, 0, 0, 1, 0, 0, 0, 0, 0, 0, 0, 1, 0, 0, 0, 0, 0, 0, 0, 0]
@[reducible] def yl4 : List Int := [2, 5, 0, 24, 0, 0, 0, 1, 0, 0, 0, 0, 253, 0, 0, 1, 0, 0, 0, 0, 0, 0, 0, 0]
@[reducible] def yl5 : List Int := [2, 5, 0, 24, 0, 0, 0, 1, 0, 0, 0, 0, 253, 224, 0, 1, 0, 0, 0, 0, 0, 0, 0, 0]
@[reducible] def yl6 : List Int := [2, 5, 0, 24, 0, 0, 0, 1, 0, 0, 0, 0, 253, 224, 0, 1, 97, 98, 0, 0, 0, 0, 0, 0]
/-- What stands while Sign goes on. -/
structure SF (w W : World) (g : Nat) (ys : List Int) (R : List Value) : Prop where
  cb : CB W g ys R
  bel : Below w.heap.size w W
  ge : w.heap.size ≤ g
theorem SF.later {w W W' : World} {g : Nat} {ys : List Int} {R : List Value} (h : SF w W g ys R) (hb : Below W.heap.size W W') : SF w W' g ys R := ⟨h.cb.later hb, h.bel.trans (hb.mono h.bel.size), h.ge⟩
theorem SF.set_ {w W : World} {g : Nat} {ys zs : List Int} {R : List Value} (h : SF w W g ys R) (k : Nat) (y : Int) (hk : k < ys.length) (hz : ys.set k y = zs) : SF w (W.setCell ⟨g, k, none⟩ (.int .u8 y)) g zs R :=
  ⟨hz ▸ h.cb.set_ k y hk, h.bel.setCell (p := ⟨g, k, none⟩) h.ge _, h.ge⟩
theorem oct_of (zs : List Int) (h : (zs.all fun x => decide (0 ≤ x) && decide (x ≤ 255)) = true) : Oct zs := Oct.of_mem fun x hx => by
  have := List.all_eq_true.1 h x hx
  simpa using this
theorem zeros3 (j : Nat) (hj : j < 8) : yl3[16 + j]? = some 0 := by
  rcases (by omega : j = 0 ∨ j = 1 ∨ j = 2 ∨ j = 3 ∨ j = 4 ∨ j = 5 ∨ j = 6 ∨ j = 7) with rfl | rfl | rfl | rfl | rfl | rfl | rfl | rfl <;> rfl
theorem SF.clear8 {w W : World} {g : Nat} {R : List Value} (h : SF w W g yl3 R) : SF w (W.setCells g 16 [.int .u8 0, .int .u8 0, .int .u8 0, .int .u8 0, .int .u8 0, .int .u8 0, .int .u8 0, .int .u8 0]) g yl3 R :=
  (((((((h.set_ (zs := yl3) 16 0 (by decide) rfl).set_ (zs := yl3) 17 0 (by decide) rfl).set_ (zs := yl3) 18 0 (by decide) rfl).set_ (zs := yl3) 19 0 (by decide) rfl).set_ (zs := yl3) 20 0 (by decide) rfl).set_ (zs := yl3) 21 0 (by decide) rfl).set_ (zs := yl3) 22 0 (by decide) rfl).set_ (zs := yl3) 23 0 (by decide) rfl
theorem blk_clear8 {W : World} {g k : Nat} {t : TypeId} {cs : Array Value} (h : Blk W k t cs) (hne : k ≠ g) : Blk (W.setCells g 16 [.int .u8 0, .int .u8 0, .int .u8 0, .int .u8 0, .int .u8 0, .int .u8 0, .int .u8 0, .int .u8 0]) k t cs :=
  (((((((h.far (p := ⟨g, 16, none⟩) hne _).far (p := ⟨g, 17, none⟩) hne _).far (p := ⟨g, 18, none⟩) hne _).far (p := ⟨g, 19, none⟩) hne _).far (p := ⟨g, 20, none⟩) hne _).far (p := ⟨g, 21, none⟩) hne _).far (p := ⟨g, 22, none⟩) hne _).far (p := ⟨g, 23, none⟩) hne _
theorem y3_plain : 65535 - foldS (ws true yl3) = 64992 := by decide +kernel
/-- The key of lives. -/
@[reducible] def lk (S : Option Addr) (sc : Nat) : AK := ⟨7, 1, S, 2, sc, 0, 99, 0, 99, [97, 98]⟩
theorem pw_ab {S : Option Addr} {sc : Nat} : (u8s (pw (lk S sc).bs)).toArray = #[.int .u8 97, .int .u8 98, .int .u8 0, .int .u8 0, .int .u8 0, .int .u8 0, .int .u8 0, .int .u8 0] := by kernel_rfl
/-- A whole row stored into the block that was made last. -/
theorem wpList_store_new {P : Program} {ops : Array Oper} {rest : List Oper} {a : Act} {w : World} {Q : Exit → Act → World → Prop} {ty T : TypeId} {x y : Operand} {p af}
    (cs old : Array Value) (t : TypeId) (hx : a.eval x = .pointer (some ⟨w.heap.size, 0, none⟩)) (hy : a.eval y = .agg cs) (hi : (P.info? ty).map (·.size) = some cs.size)
    (hold : old.size = cs.size) (h1 : cs.all (·.oneCell') = true) (h : wpList P ops Q rest a (w.alloc (.cells cs t))) :
    wpList P ops Q (⟨none, .store ty x y, T, p, af, none⟩ :: rest) a (w.alloc (.cells old t)) := by
  refine wpList_store_row rfl ty x y rfl w.heap.size cs hx hy t old (heap_alloc_new w _) hi hold h1 ?_
  rw [World.setRow_alloc_new]
  exact h
theorem yck_len : pkLen yl0 = (24, 0) := by decide +kernel
theorem yck_kind : pkKind yl0 = 0 := by decide +kernel
theorem yck_whole : wholeOf yl0 24 = 0 := by decide +kernel
theorem yck_oct : Oct yl0 := oct_of _ (by decide +kernel)
theorem y3_oct : Oct yl3 := oct_of _ (by decide +kernel)
theorem y6_oct : Oct yl6 := oct_of _ (by decide +kernel)
theorem y6_len : pkLen yl6 = (24, 0) := by decide +kernel
theorem y6_kind : pkKind yl6 = 1 := by decide +kernel
theorem y6_whole : wholeOf yl6 24 = 0 := by decide +kernel
theorem lk_check (S : Option Addr) (sc : Nat) : checkOf [lk S sc] = (0, 0) := by kernel_rfl
theorem lk_choose (S : Option Addr) (sc : Nat) : chooseOf [lk S sc] 5 = 0 := by kernel_rfl
set_option maxRecDepth 100000 in
set_option maxHeartbeats 4000000 in
theorem sign_lives (A S : Option Addr) (c kc sc : Nat) (kad : Addr) (w : World) (hx : Reads w w.heap.size 1 A 24 (u8s yl0)) (hc : 24 ≤ c) (hm : c ≤ 9223372036854775807) (hL : Keys w (some kad) 1 [lk S sc]) (hkc : 1 ≤ kc) (hkm : kc ≤ 9223372036854775807) :
    Calls Try.prog 26 #[.slice A 24 c, .slice (some kad) 1 kc, .int .i64 5, .int .u32 0] w fun e w' => ∃ g cap R, e = .returned (.tuple #[.slice (some ⟨g, 0, none⟩) 24 cap, .int .i64 0]) ∧ 24 ≤ cap ∧ cap ≤ 9223372036854775807 ∧ SF w w' g yl6 R := by
  have HX := Lib.hid hx
  have HL := Lib.hid hL
  have HLen : Hid (∀ W : World, Below w.heap.size w W → Calls Try.prog 15 #[.slice A 24 c] W fun e w' => PkAt W w' (24, 0) e) := fun W hb => by
    have := length_any A 24 c yl0 W W.heap.size (hx.later hb) yck_oct hc hm
    rwa [yck_len] at this
  have HCk : Hid (∀ W : World, Below w.heap.size w W → Calls Try.prog 25 #[.slice (some kad) 1 kc] W fun e w' => CkAt W w' (0, 0) e) := fun W hb => by
    have := check_any (some kad) 1 kc [lk S sc] W (hL.later hb) hkc (by omega)
    rwa [lk_check] at this
  have HCh : Hid (∀ W : World, Below w.heap.size w W → Calls Try.prog 28 #[.slice (some kad) 1 kc, .int .i64 5] W fun e w' => e = .returned (.int .i64 0) ∧ Below W.heap.size W w') := fun W hb => by
    have := choose_any (some kad) 1 kc [lk S sc] 5 W (hL.later hb) (by omega)
    rwa [lk_choose] at this
  have HKd : Hid (∀ W : World, Below w.heap.size w W → Calls Try.prog 71 #[.slice A 24 c] W fun e w' => e = .returned (.int .u16 0) ∧ ∃ k, w' = W.drewN k) := fun W hb => by
    have := kind_any A 24 c yl0 W W.heap.size (hx.later hb) yck_oct (by omega) hc hm
    rwa [yck_kind] at this
  have HWh : Hid (∀ W : World, Below w.heap.size w W → Calls Try.prog 72 #[.slice A 24 c, .int .i64 24] W fun e w' => e = .returned (.int .i64 0) ∧ Below W.heap.size W w') := fun W hb => by
    have := awhole_any A 24 c yl0 24 W (hx.later hb) yck_oct hc hm (by omega)
    rwa [yck_whole] at this
  have HCl : Hid (∀ W : World, Below w.heap.size w W → Calls Try.prog 73 #[.slice A 24 c] W fun e w' => ∃ v, e = .returned v ∧ w'.ownsRow W.heap.size 5 1 v 24 (u8s yl0) ∧ Below W.heap.size W w') := fun W hb => clone_any A 24 c yl0 W (hx.later hb) (by omega)
  have HKc : Hid (∀ W : World, Below w.heap.size w W → (W.cell? kad = some (.int .u8 7) ∧ W.cell? ⟨kad.block, kad.off + 1, none⟩ = some (.int .u16 1) ∧ W.cell? ⟨kad.block, kad.off + 2, none⟩ = some (.slice S 2 sc) ∧ W.cell? ⟨kad.block, kad.off + 3, none⟩ = some (.int .i64 0) ∧
      W.cell? ⟨kad.block, kad.off + 4, none⟩ = some (.int .i64 99) ∧ W.cell? ⟨kad.block, kad.off + 5, none⟩ = some (.int .i64 0) ∧ W.cell? ⟨kad.block, kad.off + 6, none⟩ = some (.int .i64 99))) := fun W hb => by
    have := (hL.later hb).cells_at (i := 0) (k := lk S sc) rfl
    simpa [Addr.add] using this
  clear hx hL
  go_enter Try.func26, Try.ntmps26
  go_wp2_with (first
    | (go_at_call 15; refine (HLen.out w (Below.refl _ _)).mono ?_; rintro e w1 ⟨rfl, d1, hw1⟩; have H1 : Hid (Below w.heap.size w w1) := hw1 ▸ below_drewN (Below.refl _ _) d1; clear hw1 HLen)
    | (go_at_call 71; refine (HKd.out w1 H1.out).mono ?_; rintro e w2 ⟨rfl, d2, hw2⟩; have H2 : Hid (Below w.heap.size w w2) := hw2 ▸ below_drewN H1.out d2; clear hw2 HKd)
    | (go_at_call 72; refine (HWh.out w2 H2.out).mono ?_; rintro e w3 ⟨rfl, hb⟩; have H3 := Lib.hid (below_then H2.out hb); clear hb HWh)
    | (go_at_call 73; refine (HCl.out w3 H3.out).mono ?_; rintro e w4 ⟨v, rfl, hown, hb⟩; obtain ⟨gc, cap, R, rfl, hge, hcb, hcap, hcm⟩ := CB.of_own hown (by omega) rfl; have F4 : Hid (SF w w4 gc yl0 R) := ⟨hcb, below_then H3.out hb, Nat.le_trans H3.out.size hge⟩; clear hb HCl hown hge hcb)
    | (go_at_call 28; refine (HCh.out w4 F4.out.bel).mono ?_; rintro e w5 ⟨rfl, hb⟩; have F5 := Lib.hid (F4.out.later hb); clear hb HCh)
    | (go_at_call 25; refine (HCk.out w5 F5.out.bel).mono ?_; rintro e w6 ⟨rfl, hb⟩; have F6 := Lib.hid (F5.out.later hb); obtain ⟨q0, q1, q2, q3, q4, q5, q6⟩ := HKc.out w6 F6.out.bel; clear hb HCk))
  have HS7 : Hid (Blk (w6.alloc (.cells #[.int .u8 7, .int .u16 1, .slice S 2 sc, .int .i64 0, .int .i64 99, .int .i64 0, .int .i64 99] 59)).drew w6.heap.size 59 #[.int .u8 7, .int .u16 1, .slice S 2 sc, .int .i64 0, .int .i64 99, .int .i64 0, .int .i64 99]) := Blk.new _ _ _
  have F7 : Hid (SF w (w6.alloc (.cells #[.int .u8 7, .int .u16 1, .slice S 2 sc, .int .i64 0, .int .i64 99, .int .i64 0, .int .i64 99] 59)).drew gc yl0 R) := ⟨F6.out.cb.later ((Below.refl _ _).alloc (Nat.le_refl _) _).drew, (F6.out.bel.alloc F6.out.bel.size _).drew, F6.out.ge⟩
  have hgk := F6.out.cb.lt
  refine wp_region_s (fun W : World => Blk W w6.heap.size 59 #[.int .u8 7, .int .u16 1, .slice S 2 sc, .int .i64 0, .int .i64 99, .int .i64 0, .int .i64 99]) [(0, true), (1, true), (2, true), (3, true), (6, true), (4, true), (5, true), (7, false), (8, true), (9, false), (10, true), (11, false)] (by kernel_rfl) (fun _ d _ _ _ h => by cases d <;> exact h) ?_
  simp only [List.map_cons, List.map_nil, nthOp_zero, nthOp_succ]
  clear q0 q1 q2 q3 q4 q5 q6 F4 F5 F6 H1 H2 H3
  generalize (w6.alloc (.cells #[.int .u8 7, .int .u16 1, .slice S 2 sc, .int .i64 0, .int .i64 99, .int .i64 0, .int .i64 99] 59)).drew = w7 at *
  generalize w6.heap.size = gk at *
  refine wpS_take HS7 (by kernel_rfl) (by intro W hW; have j1 := hW.cell 1; simp only [List.getElem?_toArray, List.getElem?_cons_zero, List.getElem?_cons_succ] at j1; clear hW; go_simp; try with_reducible rfl) ?_
  refine wpS_take HS7 (by kernel_rfl) (by intro W hW; have j1 := hW.cell 1; simp only [List.getElem?_toArray, List.getElem?_cons_zero, List.getElem?_cons_succ] at j1; clear hW; go_simp; try with_reducible rfl) ?_
  refine wpS_take HS7 (by kernel_rfl) (by intro W hW; have j1 := hW.cell 1; simp only [List.getElem?_toArray, List.getElem?_cons_zero, List.getElem?_cons_succ] at j1; clear hW; go_simp; try with_reducible rfl) ?_
  refine wpS_take HS7 (by kernel_rfl) (by intro W hW; have j1 := hW.cell 1; simp only [List.getElem?_toArray, List.getElem?_cons_zero, List.getElem?_cons_succ] at j1; clear hW; go_simp; try with_reducible rfl) ?_
  refine wpS_take HS7 (by kernel_rfl) (by intro W hW; have j1 := hW.cell 1; simp only [List.getElem?_toArray, List.getElem?_cons_zero, List.getElem?_cons_succ] at j1; clear hW; go_simp; try with_reducible rfl) ?_
  refine wpS_take HS7 (by kernel_rfl) (by intro W hW; have j1 := hW.cell 1; simp only [List.getElem?_toArray, List.getElem?_cons_zero, List.getElem?_cons_succ] at j1; clear hW; go_simp; try with_reducible rfl) ?_
  refine wpS_take HS7 (by kernel_rfl) (by intro W hW; have j1 := hW.cell 1; simp only [List.getElem?_toArray, List.getElem?_cons_zero, List.getElem?_cons_succ] at j1; clear hW; go_simp; try with_reducible rfl) ?_
  refine wpS_do fun K1 hK1 => ?_
  have c12 := F7.out.cb.cell (k := 12) (y := 253) rfl; have f12 := F7.out.cb.frozen 12
  go_wp2
  have F8 := Lib.hid (F7.out.set_ (zs := yl1) 12 0 (by decide) rfl)
  have HS8 : Hid (Blk (w7.setCell ⟨gc, 12, none⟩ (.int .u8 0)) gk 59 #[.int .u8 7, .int .u16 1, .slice S 2 sc, .int .i64 0, .int .i64 99, .int .i64 0, .int .i64 99]) := HS7.out.far (p := ⟨gc, 12, none⟩) (Nat.ne_of_gt hgk) _
  refine hK1.out _ _ HS8.out ?_
  clear hK1 K1 c12 f12 HS7 F7
  generalize w7.setCell ⟨gc, 12, none⟩ (.int .u8 0) = w8 at *
  refine wpS_take HS8 (by kernel_rfl) (by intro W hW; have j1 := hW.cell 1; simp only [List.getElem?_toArray, List.getElem?_cons_zero, List.getElem?_cons_succ] at j1; clear hW; go_simp; try with_reducible rfl) ?_
  refine wpS_do fun K1 hK1 => ?_
  have c13 := F8.out.cb.cell (k := 13) (y := 225) rfl; have f13 := F8.out.cb.frozen 13
  go_wp2
  have F9 := Lib.hid (F8.out.set_ (zs := yl2) 13 0 (by decide) rfl)
  have HS9 : Hid (Blk (w8.setCell ⟨gc, 13, none⟩ (.int .u8 0)) gk 59 #[.int .u8 7, .int .u16 1, .slice S 2 sc, .int .i64 0, .int .i64 99, .int .i64 0, .int .i64 99]) := HS8.out.far (p := ⟨gc, 13, none⟩) (Nat.ne_of_gt hgk) _
  refine hK1.out _ _ HS9.out ?_
  clear hK1 K1 c13 f13 HS8 F8
  generalize w8.setCell ⟨gc, 13, none⟩ (.int .u8 0) = w9 at *
  refine wpS_take HS9 (by kernel_rfl) (by intro W hW; have j1 := hW.cell 1; simp only [List.getElem?_toArray, List.getElem?_cons_zero, List.getElem?_cons_succ] at j1; clear hW; go_simp; try with_reducible rfl) ?_
  refine wpS_do fun K1 hK1 => ?_
  have c15 := F9.out.cb.cell (k := 15) (y := 0) rfl; have f15 := F9.out.cb.frozen 15
  go_wp2
  have F10 := Lib.hid (F9.out.set_ (zs := yl3) 15 1 (by decide) rfl)
  have HS10 : Hid (Blk (w9.setCell ⟨gc, 15, none⟩ (.int .u8 1)) gk 59 #[.int .u8 7, .int .u16 1, .slice S 2 sc, .int .i64 0, .int .i64 99, .int .i64 0, .int .i64 99]) := HS9.out.far (p := ⟨gc, 15, none⟩) (Nat.ne_of_gt hgk) _
  refine hK1.out _ _ HS10.out ?_
  clear hK1 K1 c15 f15 HS9 F9
  generalize w9.setCell ⟨gc, 15, none⟩ (.int .u8 1) = w10 at *
  refine wpS_nil ?_
  go_simp
  have j1 : w10.cell? ⟨gk, 1, none⟩ = some (.int .u16 1) := HS10.out.cell 1
  have hclr : ∀ ty, (Builtin.clear_ #[39] ty #[.slice (some ⟨gc, 16, none⟩) 8 (cap - 16)]).run Try.prog w10 = .ok (.tuple #[]) (w10.setCells gc 16 (List.replicate 8 (.int .u8 0))) := fun ty =>
    Lib.run_clear_slice (P := Try.prog) w10 39 5 ty (.int .u8 0) Try.underlying39 (fun _ => by kernel_rfl) rfl rfl gc 16 8 (cap - 16) (by decide)
      (fun j hj => by have h := F10.out.cb.cell (k := 16 + j) (y := 0) (zeros3 j hj); rw [h]; rfl) (fun j _ => F10.out.cb.frozen (16 + j))
  have h24c : (24 : Int) ≤ (cap : Int) := by omega
  go_wp2_with fail
  have F11 := Lib.hid F10.out.clear8
  have HS11 := Lib.hid (blk_clear8 (g := gc) HS10.out (Nat.ne_of_gt hgk))
  clear F10 HS10 hclr j1
  generalize w10.setCells gc 16 [.int .u8 0, .int .u8 0, .int .u8 0, .int .u8 0, .int .u8 0, .int .u8 0, .int .u8 0, .int .u8 0] = w11 at *
  refine (plain_any (some ⟨gc, 0, none⟩) 24 cap yl3 w11 w11.heap.size (F11.out.cb.reads rfl) y3_oct hcap hcm).mono ?_
  rw [y3_plain]
  rintro e w12 ⟨rfl, d12, hw12⟩
  have F12 : Hid (SF w w12 gc yl3 R) := hw12 ▸ ⟨F11.out.cb, below_drewN F11.out.bel d12, F11.out.ge⟩
  have HS12 : Hid (Blk w12 gk 59 #[.int .u8 7, .int .u16 1, .slice S 2 sc, .int .i64 0, .int .i64 99, .int .i64 0, .int .i64 99]) := by rw [hw12]; exact HS11.out.drewN d12
  clear F11 HS11 hw12
  have F13 := Lib.hid (F12.out.set_ (zs := yl4) 12 253 (by decide) rfl)
  have F14 := Lib.hid (F13.out.set_ (zs := yl5) 13 224 (by decide) rfl)
  have HS14 : Hid (Blk ((w12.setCell ⟨gc, 12, none⟩ (.int .u8 253)).setCell ⟨gc, 13, none⟩ (.int .u8 224)) gk 59 #[.int .u8 7, .int .u16 1, .slice S 2 sc, .int .i64 0, .int .i64 99, .int .i64 0, .int .i64 99]) := (HS12.out.far (p := ⟨gc, 12, none⟩) (Nat.ne_of_gt hgk) _).far (p := ⟨gc, 13, none⟩) (Nat.ne_of_gt hgk) _
  have c12 := F12.out.cb.cell (k := 12) (y := 0) rfl; have f12 := F12.out.cb.frozen 12; have c13 := F12.out.cb.cell (k := 13) (y := 0) rfl; have f13 := F12.out.cb.frozen 13
  have j0 := HS14.out.cell 0; have j1 := HS14.out.cell 1; have j2 := HS14.out.cell 2; have j3 := HS14.out.cell 3; have j4 := HS14.out.cell 4; have j5 := HS14.out.cell 5; have j6 := HS14.out.cell 6
  simp only [List.getElem?_toArray, List.getElem?_cons_zero, List.getElem?_cons_succ] at j0 j1 j2 j3 j4 j5 j6
  clear F12 HS12 F13
  go_wp2_with fail
  generalize (w12.setCell ⟨gc, 12, none⟩ (.int .u8 253)).setCell ⟨gc, 13, none⟩ (.int .u8 224) = w14 at *
  clear c12 f12 c13 f13 j0 j1 j2 j3 j4 j5 j6
  refine (password_any (lk S sc) w14 ((HL.out.later F14.out.bel).ok _ (List.mem_singleton.2 rfl))).mono ?_
  rw [pw_ab]
  rintro e w15 ⟨rfl, hb⟩
  have F15 := Lib.hid (F14.out.later hb)
  clear hb F14 HS14
  go_wp2_with (refine wpList_store_new #[.int .u8 97, .int .u8 98, .int .u8 0, .int .u8 0, .int .u8 0, .int .u8 0, .int .u8 0, .int .u8 0] _ 34 rfl rfl i8 rfl (by rfl) ?_)
  have F16 : Hid (SF w (w15.alloc (.cells #[.int .u8 97, .int .u8 98, .int .u8 0, .int .u8 0, .int .u8 0, .int .u8 0, .int .u8 0, .int .u8 0] 34)).drew gc yl5 R) := ⟨F15.out.cb.later ((Below.refl _ _).alloc (Nat.le_refl _) _).drew, (F15.out.bel.alloc F15.out.bel.size _).drew, F15.out.ge⟩
  have HP16 : Hid (Blk (w15.alloc (.cells #[.int .u8 97, .int .u8 98, .int .u8 0, .int .u8 0, .int .u8 0, .int .u8 0, .int .u8 0, .int .u8 0] 34)).drew w15.heap.size 34 #[.int .u8 97, .int .u8 98, .int .u8 0, .int .u8 0, .int .u8 0, .int .u8 0, .int .u8 0, .int .u8 0]) := Blk.new _ _ _
  clear F15
  have hc16 : ¬ cap = 16 := by omega
  refine wp_region_w [(0, true), (1, true), (2, true), (3, false)] (by kernel_rfl) (fun _ d _ _ _ h => by cases d <;> exact h) ?_
  simp only [List.map_cons, List.map_nil, nthOp_zero, nthOp_succ]
  generalize (w15.alloc (.cells #[.int .u8 97, .int .u8 98, .int .u8 0, .int .u8 0, .int .u8 0, .int .u8 0, .int .u8 0, .int .u8 0] 34)).drew = w16 at *
  generalize w15.heap.size = gp at *
  refine wpW_take (by rfl) (by intro W; go_simp; try with_reducible rfl) ?_
  refine wpW_take (by rfl) (by intro W; go_simp; try with_reducible rfl) ?_
  refine wpW_take (by rfl) (by intro W; go_simp; try with_reducible rfl) ?_
  refine wpW_do fun K1 hK1 => ?_
  have HG : Hid (w16.heap[gc]? = some (.cells (u8s yl5 ++ R).toArray 5 (0, 0))) := F16.out.cb
  have HP : Hid (0 < ([.int .u8 97, .int .u8 98, .int .u8 0, .int .u8 0, .int .u8 0, .int .u8 0, .int .u8 0, .int .u8 0] : List Value).length → ∃ ad : Addr, some (⟨gp, 0, none⟩ : Addr) = some ad ∧ ∀ j v, ([.int .u8 97, .int .u8 98, .int .u8 0, .int .u8 0, .int .u8 0, .int .u8 0, .int .u8 0, .int .u8 0] : List Value)[j]? = some v → w16.cell? (ad.add j) = some v) := fun _ =>
    ⟨_, rfl, fun j v hv => by rw [add_none, Nat.zero_add, HP16.out.cell j, List.getElem?_toArray]; exact hv⟩
  have HF : Hid (16 + ([.int .u8 97, .int .u8 98, .int .u8 0, .int .u8 0, .int .u8 0, .int .u8 0, .int .u8 0, .int .u8 0] : List Value).length ≤ (u8s yl5 ++ R).length) := by
    show _ ≤ _
    rw [List.length_append, u8s_length]
    simp
  have H1c : Hid (∀ v ∈ ([.int .u8 97, .int .u8 98, .int .u8 0, .int .u8 0, .int .u8 0, .int .u8 0, .int .u8 0, .int .u8 0] : List Value), v.oneCell' = true) := by
    show ∀ v ∈ _, _
    intro v hv
    simp at hv
    rcases hv with rfl | rfl | rfl <;> rfl
  go_wp2_with (go_loud (refine wpList_copy_splice (o := ⟨some 123, _, _, _, _, _⟩) rfl (.tmp 121) (.tmp 122) 39 39 rfl 5 rfl rfl _ _ _ _ _ _ rfl rfl gc 16 (u8s yl5 ++ R) 5 HG.out [.int .u8 97, .int .u8 98, .int .u8 0, .int .u8 0, .int .u8 0, .int .u8 0, .int .u8 0, .int .u8 0] rfl (fun h0 => ⟨rfl, HP.out h0⟩) HF.out H1c.out w.heap.size w F16.out.bel F16.out.ge ?_); intro w17 HG2 hb2)
  refine hK1.out _ _ ?_
  clear hK1 K1
  refine wpW_nil ?_
  go_simp
  go_wp2
  go_ret2
  exact ⟨gc, cap, R, rfl, hcap, hcm, HG2, hb2, F16.out.ge⟩
end Go.Proofs.Ytbkejlalbjomkaa
namespace Go.Proofs.Ytbkejlalbjomkaa
set_option linter.unusedVariables false
open Go.RowKit

theorem plainAck_any (w : World) : Calls Try.prog 66 #[] w fun e w' => e = .returned (.slice (some ⟨w.heap.size, 0, none⟩) 24 24) ∧ w' = w.alloc (.cells (u8s yl0).toArray 5) := by
  go_enter Try.func66, Try.ntmps66
  go_wp2
  go_ret
  exact ⟨rfl, rfl⟩
theorem Reads.litmA (w : World) (xs : List Value) (t : TypeId) (fz : Nat × Nat) {n : Nat} (hn : xs.length = n) : Reads (w.alloc (.cells xs.toArray t fz)) (w.alloc (.cells xs.toArray t fz)).heap.size 1 (some ⟨w.heap.size, 0, none⟩) n xs :=
  ⟨by omega, fun _ => ⟨_, rfl, by rw [World.size_alloc]; exact Nat.lt_succ_self _, fun j u hu => by
    rw [add_none, Nat.zero_add, World.cell?_alloc_mark]
    simpa using hu⟩⟩
theorem lk_keys (w : World) (g : Nat) (h0 : Reads w w.heap.size 1 (some ⟨g, 0, none⟩) 2 (u8s [97, 98])) (h1 : Blk w (g + 1) 59 #[.int .u8 7, .int .u16 1, .slice (some ⟨g, 0, none⟩) 2 2, .int .i64 0, .int .i64 99, .int .i64 0, .int .i64 99]) :
    Keys w (some ⟨g + 1, 0, none⟩) 1 [lk (some ⟨g, 0, none⟩) 2] := by
  refine ⟨⟨rfl, fun _ => ⟨_, rfl, h1.lt, fun j u hu => ?_⟩⟩, rfl, ?_⟩
  · rw [add_none, Nat.zero_add, h1.cell j, List.getElem?_toArray]
    exact hu
  · intro k hk
    rw [List.mem_singleton] at hk
    subst hk
    refine ⟨(by decide : (0 : Int) ≤ 7 ∧ (7 : Int) ≤ 255), (by decide : (0 : Int) ≤ 1 ∧ (1 : Int) ≤ 65535), ?_, (oct_of [97, 98] (by decide +kernel) : Oct [97, 98]), (by decide : (2 : Nat) ≤ 2 ∧ (2 : Nat) ≤ 9223372036854775807)⟩
    exact h0
theorem op_5 (S : Option Addr) (sc : Nat) : opOut yl6 [lk S sc] 5 24 = .tuple #[.int .u32 0, .int .i64 24, .int .i64 0] := by kernel_rfl
theorem op_100 (S : Option Addr) (sc : Nat) : opOut yl6 [lk S sc] 100 24 = .tuple #[.int .u32 0, .int .i64 0, .int .i64 26] := by kernel_rfl
theorem lk_kind0 (S : Option Addr) (sc : Nat) : kind0 [lk S sc] = 1 := rfl
set_option maxRecDepth 100000 in
set_option maxHeartbeats 4000000 in
theorem lives8_any (w : World) : Calls Try.prog 23 #[] w fun e w' => e = .returned (.bool true) ∧ Below w.heap.size w w' := by
  have HK : Hid (Keys ((w.alloc (.cells #[.int .u8 97, .int .u8 98] 5 (2, 3))).alloc (.cells #[.int .u8 7, .int .u16 1, .slice (some ⟨w.heap.size, 0, none⟩) 2 2, .int .i64 0, .int .i64 99, .int .i64 0, .int .i64 99] 59)) (some ⟨w.heap.size + 1, 0, none⟩) 1 [lk (some ⟨w.heap.size, 0, none⟩) 2] ∧
      Below w.heap.size w ((w.alloc (.cells #[.int .u8 97, .int .u8 98] 5 (2, 3))).alloc (.cells #[.int .u8 7, .int .u16 1, .slice (some ⟨w.heap.size, 0, none⟩) 2 2, .int .i64 0, .int .i64 99, .int .i64 0, .int .i64 99] 59))) :=
    ⟨lk_keys _ _ ((Reads.litmA w (u8s [97, 98]) 5 (2, 3) rfl).later ((Below.refl _ _).alloc (Nat.le_refl _) _)) (new_at _ _ _), below_two_ _ _ _⟩
  have kc := fun (w : World) (C : Array Value) (n c : Nat) => Lib.run_convert_bytes_const (P := Try.prog) w 39 5 C n c Try.underlying39 Try.underlying5
  go_enter Try.func23, Try.ntmps23
  go_wp2_with (go_at_call 66; refine (plainAck_any _).mono ?_; rintro e w3 ⟨rfl, rfl⟩)
  clear kc
  have H3 : Hid (Keys (((w.alloc (.cells #[.int .u8 97, .int .u8 98] 5 (2, 3))).alloc (.cells #[.int .u8 7, .int .u16 1, .slice (some ⟨w.heap.size, 0, none⟩) 2 2, .int .i64 0, .int .i64 99, .int .i64 0, .int .i64 99] 59)).alloc (.cells (u8s yl0).toArray 5)) (some ⟨w.heap.size + 1, 0, none⟩) 1 [lk (some ⟨w.heap.size, 0, none⟩) 2] ∧ Below w.heap.size w (((w.alloc (.cells #[.int .u8 97, .int .u8 98] 5 (2, 3))).alloc (.cells #[.int .u8 7, .int .u16 1, .slice (some ⟨w.heap.size, 0, none⟩) 2 2, .int .i64 0, .int .i64 99, .int .i64 0, .int .i64 99] 59)).alloc (.cells (u8s yl0).toArray 5)) ∧ Reads (((w.alloc (.cells #[.int .u8 97, .int .u8 98] 5 (2, 3))).alloc (.cells #[.int .u8 7, .int .u16 1, .slice (some ⟨w.heap.size, 0, none⟩) 2 2, .int .i64 0, .int .i64 99, .int .i64 0, .int .i64 99] 59)).alloc (.cells (u8s yl0).toArray 5)) (((w.alloc (.cells #[.int .u8 97, .int .u8 98] 5 (2, 3))).alloc (.cells #[.int .u8 7, .int .u16 1, .slice (some ⟨w.heap.size, 0, none⟩) 2 2, .int .i64 0, .int .i64 99, .int .i64 0, .int .i64 99] 59)).alloc (.cells (u8s yl0).toArray 5)).heap.size 1 (some ⟨w.heap.size + 1 + 1, 0, none⟩) 24 (u8s yl0)) := by
    have hb := (Below.refl ((w.alloc (.cells #[.int .u8 97, .int .u8 98] 5 (2, 3))).alloc (.cells #[.int .u8 7, .int .u16 1, .slice (some ⟨w.heap.size, 0, none⟩) 2 2, .int .i64 0, .int .i64 99, .int .i64 0, .int .i64 99] 59)).heap.size _).alloc (Nat.le_refl _) (.cells (u8s yl0).toArray 5)
    refine ⟨HK.out.1.later hb, below_then HK.out.2 hb, ?_⟩
    have h := Blk.new ((w.alloc (.cells #[.int .u8 97, .int .u8 98] 5 (2, 3))).alloc (.cells #[.int .u8 7, .int .u16 1, .slice (some ⟨w.heap.size, 0, none⟩) 2 2, .int .i64 0, .int .i64 99, .int .i64 0, .int .i64 99] 59)) 5 (u8s yl0).toArray
    rw [World.size_alloc, World.size_alloc] at h
    have h2 := (Blk.reads (xs := u8s yl0) h (n := 24) (Nat.le_refl _)).more (B' := _) h.lt
    rwa [List.take_of_length_le (by rw [u8s_length]; decide)] at h2
  clear HK
  generalize (((w.alloc (.cells #[.int .u8 97, .int .u8 98] 5 (2, 3))).alloc (.cells #[.int .u8 7, .int .u16 1, .slice (some ⟨w.heap.size, 0, none⟩) 2 2, .int .i64 0, .int .i64 99, .int .i64 0, .int .i64 99] 59)).alloc (.cells (u8s yl0).toArray 5)) = w3 at *
  try simp only [World.size_alloc]
  generalize hs0 : w.heap.size = g at *
  go_wp2_with fail
  refine (sign_lives (some ⟨g + 1 + 1, 0, none⟩) (some ⟨g, 0, none⟩) 24 1 2 ⟨g + 1, 0, none⟩ w3 H3.out.2.2 (by decide) (by decide) H3.out.1 (by decide) (by decide)).mono ?_
  rintro e w4 ⟨gc, cap, R, rfl, hcap, hcm, hF⟩
  have F4 := Lib.hid hF
  have HK4 := Lib.hid (H3.out.1.later F4.out.bel)
  clear hF
  go_wp2_with fail
  refine (open_plain (some ⟨gc, 0, none⟩) (some ⟨g + 1, 0, none⟩) 24 cap 1 1 24 yl6 [lk (some ⟨g, 0, none⟩) 2] 5 w4 (F4.out.cb.reads rfl) y6_oct hcap hcm (by decide) HK4.out (by decide) (by decide) (by decide) y6_len (lk_check _ _) (lk_kind0 _ _) y6_kind y6_whole).mono ?_
  rw [op_5]
  rintro e w5 ⟨rfl, hb⟩
  have F5 := Lib.hid (F4.out.later hb)
  have HK5 := Lib.hid (HK4.out.later hb)
  clear hb F4 HK4
  go_wp2_with fail
  refine (open_plain (some ⟨gc, 0, none⟩) (some ⟨g + 1, 0, none⟩) 24 cap 1 1 24 yl6 [lk (some ⟨g, 0, none⟩) 2] 100 w5 (F5.out.cb.reads rfl) y6_oct hcap hcm (by decide) HK5.out (by decide) (by decide) (by decide) y6_len (lk_check _ _) (lk_kind0 _ _) y6_kind y6_whole).mono ?_
  rw [op_100]
  rintro e w6 ⟨rfl, hb⟩
  have F6 := Lib.hid (F5.out.later hb)
  clear hb F5 HK5
  have c15 := F6.out.cb.cell (k := 15) (y := 1) rfl
  have c16 := F6.out.cb.cell (k := 16) (y := 97) rfl
  go_wp2
  go_ret
  have h0 := H3.out.2.1.size
  refine ⟨rfl, ?_⟩
  subst hs0
  exact H3.out.2.1.trans (F6.out.bel.mono h0)
end Go.Proofs.Ytbkejlalbjomkaa
