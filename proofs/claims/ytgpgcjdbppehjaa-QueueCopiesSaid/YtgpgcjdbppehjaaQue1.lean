/-
  The queue in memory; less, and the rows' Len and Less.
-/
import Derived.Test.YtgpgcjdbppehjaaOwnW
import Derived.Test.YtgpgcjdbppehjaaHeap
import Derived.Test.YtgpgcjdbppehjaaMapF
import Derived.Test.YtgpgcjdbppehjaaFlat
import Derived.Test.YtgpgcjdbppehjaaRgn3
import Derived.Test.YtgpgcjdbppehjaaRgn4
namespace Go.Proofs.Ytgpgcjdbppehjaa
set_option linter.unusedVariables false
open Go.RowKit

@[reducible] def enc64 (r : Int) : Value := .int .u64 r
theorem u64_eq (a b : Int) (w : World) : (Op.equal 27 (enc64 a) (enc64 b)).run Try.prog w = .ok (decide (a = b)) w := by kernel_rfl
theorem u64_check (e : Bool) (a : Int) (w : World) : (Instr.checkKey e 10000 27 (enc64 a)).run Try.prog w = .ok () w := by kernel_rfl
theorem u64_bits (a : Int) : Instr.sameBits 10000 (enc64 a) (enc64 a) = true := by simp [enc64, Instr.sameBits]
theorem u64T : KeyT Try.prog 27 enc64 := ⟨u64_eq, u64_check, ⟨_, Try.underlying27, .inr fun a b => rfl⟩, u64_bits⟩
theorem enc64_inj : ∀ x y : Int, enc64 x = enc64 y → x = y := fun x y h => by injection h
theorem zeroInt (w : World) : (zeroValue 3).run Try.prog w = .ok (.int .i64 0) w := by kernel_rfl
def Ent.cells (e : Ent) : List Value := [.int .i64 e.at_, .int .i64 e.rank, .int .u64 e.what]
@[reducible] def Ent.v (e : Ent) : Value := .agg #[.int .i64 e.at_, .int .i64 e.rank, .int .u64 e.what]
theorem ent_len (e : Ent) : e.cells.length = 3 := rfl
theorem ent_one (e : Ent) : ∀ u ∈ e.cells, u.oneCell' = true := by
  intro u hu
  simp only [Ent.cells, List.mem_cons, List.not_mem_nil, or_false] at hu
  rcases hu with rfl | rfl | rfl <;> rfl
structure Ent.ok (e : Ent) : Prop where
  at_ : -9223372036854775808 ≤ e.at_ ∧ e.at_ ≤ 9223372036854775807
  rank : -9223372036854775808 ≤ e.rank ∧ e.rank ≤ 9223372036854775807
  what : 0 ≤ e.what ∧ e.what ≤ 18446744073709551615
theorem info_ent3 : (Try.prog.info? 32).map (fun i => (i.zero, i.size, i.bytes)) = some (some (.agg #[.int .i64 0, .int .i64 0, .int .u64 0]), 3, 24) := by kernel_rfl
theorem info_ent : (Try.prog.info? 32).map (·.size) = some 3 := by kernel_rfl
theorem el_ent : El Try.prog 41 32 3 24 := El.mk' Try.underlying41 info_ent3 rfl (by omega)
def posF (l : List Ent) : Int → Option Value := fun x => (posL l x).map fun (i : Nat) => .int .i64 (i : Int)
/-- A queue: block g, its map in block bm, of the entries l; all of its blocks in F. -/
structure QF (w : World) (F : Nat → Prop) (g bm : Nat) (most : Int) (l : List Ent) : Prop where
  ex : ∃ kv, Blk w g 59 #[kv, .map (some bm), .int .i64 most] ∧ OwnW w 32 3 kv l.length (l.flatMap Ent.cells) ∧ ∀ i, kv.ownBlock = some i → F i
  map : MapF enc64 w bm (posF l) l.length
  fg : F g
  fb : F bm
  ok : ∀ e ∈ l, e.ok
  dist : Dist l
  few : l.length ≤ 1048576
  lim : ∀ i, F i → i < w.heap.size
theorem QF.later {w w' : World} {F : Nat → Prop} {g bm : Nat} {most : Int} {l : List Ent} (q : QF w F g bm most l) (hb : Below w.heap.size w w') : QF w' F g bm most l := by
  obtain ⟨kv, h1, h2, h3⟩ := q.ex
  exact ⟨⟨kv, h1.later hb, h2.later hb, h3⟩, q.map.later hb, q.fg, q.fb, q.ok, q.dist, q.few, fun i hi => Nat.lt_of_lt_of_le (q.lim i hi) hb.size⟩
theorem QF.kept {w w' : World} {R F : Nat → Prop} {g bm : Nat} {most : Int} {l : List Ent} (q : QF w F g bm most l) (k : Kept R w w') (hn : ∀ i, F i → ¬ R i) : QF w' F g bm most l := by
  obtain ⟨kv, h1, h2, h3⟩ := q.ex
  exact ⟨⟨kv, h1.kept k (hn g q.fg), h2.kept k (fun i hi => hn i (h3 i hi)), h3⟩, q.map.kept k (hn bm q.fb), q.fg, q.fb, q.ok, q.dist, q.few, fun i hi => Nat.lt_of_lt_of_le (q.lim i hi) k.size⟩
/-- Its row, written out. -/
theorem QF.row {w : World} {F : Nat → Prop} {g bm : Nat} {most : Int} {l : List Ent} (q : QF w F g bm most l) (hl : 0 < l.length) : ∃ gk cap cur, Blk w g 59 #[.slice (some ⟨gk, 0, none⟩) l.length cap, .map (some bm), .int .i64 most] ∧
    Blk w gk 32 cur ∧ l.length ≤ cap ∧ cap ≤ 9223372036854775807 ∧ cap * 3 ≤ cur.size ∧ cur.toList.take (l.length * 3) = l.flatMap Ent.cells ∧ F gk ∧ g ≠ gk ∧ bm ≠ gk ∧ bm ≠ g := by
  obtain ⟨kv, hB, hO, hF⟩ := q.ex
  obtain ⟨hOl, ⟨_, h0⟩ | ⟨gk, cap, cur, rfl, hBk, hnc, hcm, hcs, ht⟩⟩ := hO
  · omega
  · exact ⟨gk, cap, cur, hB, hBk, hnc, hcm, hcs, ht, hF gk rfl, blk_ne hB hBk (by decide), q.map.ne_blk hBk, q.map.ne_blk hB⟩
/-- The cells of entry j of a row. -/
theorem ent_cells {w : World} {gk : Nat} {cur : Array Value} {l : List Ent} {j : Nat} {e : Ent} (hk : Blk w gk 32 cur) (ht : cur.toList.take (l.length * 3) = l.flatMap Ent.cells) (hj : l[j]? = some e) :
    w.cell? ⟨gk, j * 3, none⟩ = some (.int .i64 e.at_) ∧ w.cell? ⟨gk, j * 3 + 1, none⟩ = some (.int .i64 e.rank) ∧ w.cell? ⟨gk, j * 3 + 2, none⟩ = some (.int .u64 e.what) := by
  have H : ∀ r u, e.cells[r]? = some u → w.cell? ⟨gk, j * 3 + r, none⟩ = some u := by
    intro r u hu
    have h1 := flatG_get ent_len l j r e u hj hu
    rw [← ht, List.getElem?_take] at h1
    split at h1
    · rw [hk.cell]; simpa using h1
    · cases h1
  exact ⟨H 0 _ rfl, H 1 _ rfl, H 2 _ rfl⟩
set_option maxRecDepth 100000 in
theorem less_any (a b : Ent) (w : World) : Calls Try.prog 30 #[a.v, b.v] w fun e w' => e = .returned (.bool (lessE a b)) ∧ Below w.heap.size w w' := by
  by_cases h1 : a.at_ = b.at_
  · by_cases h2 : a.rank = b.rank
    · have d1 : (a.at_ != b.at_) = false := by simp [h1]
      have d2 : (a.rank != b.rank) = false := by simp [h2]
      have hl := Lib.hid (show lessE a b = decide (a.what < b.what) by unfold lessE; rw [if_neg (by simp [h1]), if_neg (by simp [h2])])
      clear h1 h2
      go_enter Try.func30, Try.ntmps30
      go_wp2
      go_ret
      exact ⟨by rw [hl.out]; rfl, below_two _ _ _⟩
    · have d1 : (a.at_ != b.at_) = false := by simp [h1]
      have d2 : (a.rank != b.rank) = true := by simp [h2]
      have hl := Lib.hid (show lessE a b = decide (a.rank < b.rank) by unfold lessE; rw [if_neg (by simp [h1]), if_pos h2])
      clear h1 h2
      go_enter Try.func30, Try.ntmps30
      go_wp2
      go_ret
      exact ⟨by rw [hl.out]; rfl, below_two _ _ _⟩
  · have d1 : (a.at_ != b.at_) = true := by simp [h1]
    have hl := Lib.hid (show lessE a b = decide (a.at_ < b.at_) by unfold lessE; rw [if_pos h1])
    clear h1
    go_enter Try.func30, Try.ntmps30
    go_wp2
    go_ret
    exact ⟨by rw [hl.out]; rfl, below_two _ _ _⟩
set_option maxRecDepth 100000 in
theorem rowsLen_any (w : World) (F : Nat → Prop) (g bm : Nat) (most : Int) (l : List Ent) (q : QF w F g bm most l) :
    Calls Try.prog 86 #[.pointer (some ⟨g, 0, none⟩)] w fun e w' => e = .returned (.int .i64 l.length) ∧ w = w' := by
  obtain ⟨kv, hB, hO, hF⟩ := q.ex
  obtain ⟨A, c, rfl, -⟩ := hO.shape
  have h0 : w.cell? ⟨g, 0, none⟩ = some (.slice A l.length c) := hB.cell 0
  clear q hB hO hF
  go_enter Try.func86, Try.ntmps86
  go_wp2
  go_ret
  exact ⟨rfl, rfl⟩
set_option maxRecDepth 100000 in
set_option maxHeartbeats 4000000 in
theorem rowsLess_any (w : World) (F : Nat → Prop) (g bm : Nat) (most : Int) (l : List Ent) (q : QF w F g bm most l) (i k : Nat) (hi : i < l.length) (hk : k < l.length) :
    Calls Try.prog 82 #[.pointer (some ⟨g, 0, none⟩), .int .i64 i, .int .i64 k] w fun e w' => e = .returned (.bool (lt_ l i k)) ∧ Below w.heap.size w w' := by
  obtain ⟨gk, cap, cur, hB, hBk, hnc, hcm, hcs, ht, -, -⟩ := q.row (by omega)
  obtain ⟨a, ha⟩ : ∃ a, l[i]? = some a := ⟨_, List.getElem?_eq_getElem hi⟩
  obtain ⟨b, hb⟩ : ∃ b, l[k]? = some b := ⟨_, List.getElem?_eq_getElem hk⟩
  have HL := Lib.hid (lt_eq ha hb)
  have HS : Hid ((fun W : World => W.cell? ⟨g, 0, none⟩ = some (.slice (some ⟨gk, 0, none⟩) l.length cap) ∧ (W.cell? ⟨gk, i * 3, none⟩ = some (.int .i64 a.at_) ∧ W.cell? ⟨gk, i * 3 + 1, none⟩ = some (.int .i64 a.rank) ∧ W.cell? ⟨gk, i * 3 + 2, none⟩ = some (.int .u64 a.what)) ∧
      W.cell? ⟨gk, k * 3, none⟩ = some (.int .i64 b.at_) ∧ W.cell? ⟨gk, k * 3 + 1, none⟩ = some (.int .i64 b.rank) ∧ W.cell? ⟨gk, k * 3 + 2, none⟩ = some (.int .u64 b.what)) w.drew) := Lib.hid ⟨hB.cell 0, ent_cells hBk ht ha, ent_cells hBk ht hb⟩
  obtain ⟨N, hN⟩ : ∃ N, l.length = N := ⟨_, rfl⟩
  rw [hN] at hi hk HS
  clear hN hB hBk ht ha hb q hcs hcm hnc
  have hiI : (i : Int) < N := by omega
  have hkI : (k : Int) < N := by omega
  have hb0 : Hid (Below w.heap.size w w.drew) := Lib.hid (Below.refl _ _).drew
  go_enter Try.func82, Try.ntmps82
  go_wp2
  refine wp_region_s (fun W : World => W.cell? ⟨g, 0, none⟩ = some (.slice (some ⟨gk, 0, none⟩) N cap) ∧ (W.cell? ⟨gk, i * 3, none⟩ = some (.int .i64 a.at_) ∧ W.cell? ⟨gk, i * 3 + 1, none⟩ = some (.int .i64 a.rank) ∧ W.cell? ⟨gk, i * 3 + 2, none⟩ = some (.int .u64 a.what)) ∧
      W.cell? ⟨gk, k * 3, none⟩ = some (.int .i64 b.at_) ∧ W.cell? ⟨gk, k * 3 + 1, none⟩ = some (.int .i64 b.rank) ∧ W.cell? ⟨gk, k * 3 + 2, none⟩ = some (.int .u64 b.what))
    [(0, true), (1, true), (2, true), (4, true), (7, true), (8, true), (9, true), (11, true), (3, true), (5, true), (6, true), (10, true), (12, true), (13, true), (14, false), (15, true)] (by kernel_rfl) (fun _ d _ _ _ h => by cases d <;> exact h) ?_
  simp only [List.map_cons, List.map_nil, nthOp_zero, nthOp_succ]
  generalize w.drew = w1 at *
  refine wpS_take HS (by rfl) (by intro W hW; clear hW; go_simp; try with_reducible rfl) ?_
  refine wpS_take HS (by rfl) (by intro W hW; clear hW; go_simp; try with_reducible rfl) ?_
  refine wpS_take HS (by rfl) (by intro W hW; clear hW; go_simp; try with_reducible rfl) ?_
  refine wpS_take HS (by rfl) (by intro W hW; clear hW; go_simp; try with_reducible rfl) ?_
  refine wpS_take HS (by rfl) (by intro W hW; clear hW; go_simp; try with_reducible rfl) ?_
  refine wpS_take HS (by rfl) (by intro W hW; clear hW; go_simp; try with_reducible rfl) ?_
  refine wpS_take HS (by rfl) (by intro W hW; clear hW; go_simp; try with_reducible rfl) ?_
  refine wpS_take HS (by rfl) (by intro W hW; clear hW; go_simp; try with_reducible rfl) ?_
  refine wpS_take HS (by rfl) (by intro W hW; have c0 := hW.1; clear hW; go_simp; try with_reducible rfl) ?_
  refine wpS_take HS (by rfl) (by intro W hW; clear hW; go_simp; try with_reducible rfl) ?_
  refine wpS_take HS (by rfl) (by intro W hW; obtain ⟨-, ⟨c1, c2, c3⟩, -⟩ := hW; go_simp; try with_reducible rfl) ?_
  refine wpS_take HS (by rfl) (by intro W hW; have c0 := hW.1; clear hW; go_simp; try with_reducible rfl) ?_
  refine wpS_take HS (by rfl) (by intro W hW; clear hW; go_simp; try with_reducible rfl) ?_
  refine wpS_take HS (by rfl) (by intro W hW; obtain ⟨-, -, c1, c2, c3⟩ := hW; go_simp; try with_reducible rfl) ?_
  refine wpS_do fun K hK => ?_
  go_wp2_with fail
  refine (less_any a b _).mono ?_
  rintro e w2 ⟨rfl, hb⟩
  have hq := fun p v (e : w1.cell? p = some v) => (hb.cell (cell_lt e)).trans e
  have HS2 : Hid ((fun W : World => W.cell? ⟨g, 0, none⟩ = some (.slice (some ⟨gk, 0, none⟩) N cap) ∧ (W.cell? ⟨gk, i * 3, none⟩ = some (.int .i64 a.at_) ∧ W.cell? ⟨gk, i * 3 + 1, none⟩ = some (.int .i64 a.rank) ∧ W.cell? ⟨gk, i * 3 + 2, none⟩ = some (.int .u64 a.what)) ∧
      W.cell? ⟨gk, k * 3, none⟩ = some (.int .i64 b.at_) ∧ W.cell? ⟨gk, k * 3 + 1, none⟩ = some (.int .i64 b.rank) ∧ W.cell? ⟨gk, k * 3 + 2, none⟩ = some (.int .u64 b.what)) w2) := by
    obtain ⟨c0, ⟨c1, c2, c3⟩, c4, c5, c6⟩ := HS.out
    exact Lib.hid ⟨hq _ _ c0, ⟨hq _ _ c1, hq _ _ c2, hq _ _ c3⟩, hq _ _ c4, hq _ _ c5, hq _ _ c6⟩
  have HB2 := Lib.hid (below_then hb0.out hb)
  clear hb hq HS hb0
  go_wp2_with fail
  refine hK.out _ _ HS2.out ?_
  clear hK K
  refine wpS_take HS2 (by rfl) (by intro W hW; clear hW; go_simp; try with_reducible rfl) ?_
  refine wpS_nil ?_
  go_simp
  go_wp2_with fail
  go_ret
  exact ⟨by rw [HL.out]; rfl, HB2.out⟩
end Go.Proofs.Ytgpgcjdbppehjaa
