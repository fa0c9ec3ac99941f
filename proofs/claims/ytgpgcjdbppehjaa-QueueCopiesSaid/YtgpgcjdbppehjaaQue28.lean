/-
  The reference's queue: Put, Drop.
-/
import Derived.Test.YtgpgcjdbppehjaaQue25
import Derived.Test.YtgpgcjdbppehjaaQue27
namespace Go.Proofs.Ytgpgcjdbppehjaa
set_option linter.unusedVariables false
open Go.RowKit

theorem set_mem {l : List Ent} (hd : Dist l) {i : Nat} {e : Ent} (hi : l[i]? = some e) (a r : Int) (y : Ent) : y ∈ l.set i ⟨a, r, e.what⟩ ↔ y = ⟨a, r, e.what⟩ ∨ (y ∈ l ∧ y.what ≠ e.what) := by
  have hil := (List.getElem?_eq_some_iff.1 hi).1
  constructor
  · intro hy
    obtain ⟨j, hj⟩ := List.getElem?_of_mem hy
    rw [List.getElem?_set] at hj
    split at hj
    · rename_i h
      injection hj with hj
      exact .inl hj.symm
    · rename_i h
      refine .inr ⟨List.mem_of_getElem? hj, fun hw => h ?_⟩
      exact hd i j e y hi hj hw.symm
  · rintro (rfl | ⟨hy, hw⟩)
    · exact List.mem_of_getElem? (i := i) (List.getElem?_set_self hil)
    · obtain ⟨j, hj⟩ := List.getElem?_of_mem hy
      refine List.mem_of_getElem? (i := j) ?_
      rw [List.getElem?_set_ne]
      · exact hj
      · rintro rfl
        rw [hi] at hj
        injection hj with hj
        exact hw (by rw [hj])
theorem erase_mem {l : List Ent} (hd : Dist l) {i : Nat} {e : Ent} (hi : l[i]? = some e) (y : Ent) : y ∈ l.eraseIdx i ↔ y ∈ l ∧ y.what ≠ e.what := by
  rw [List.mem_eraseIdx_iff_getElem?]
  constructor
  · rintro ⟨j, hji, hj⟩
    exact ⟨List.mem_of_getElem? hj, fun hw => hji (hd j i y e hj hi hw)⟩
  · rintro ⟨hy, hw⟩
    obtain ⟨j, hj⟩ := List.getElem?_of_mem hy
    refine ⟨j, ?_, hj⟩
    rintro rfl
    rw [hi] at hj
    injection hj with hj
    exact hw (by rw [hj])
theorem Dist.erase {l : List Ent} (hd : Dist l) (i : Nat) : Dist (l.eraseIdx i) := by
  intro p q a b hp hq hw
  rw [List.getElem?_eraseIdx] at hp hq
  have key := fun (p' q' : Nat) (h1 : l[p']? = some a) (h2 : l[q']? = some b) => hd p' q' a b h1 h2 hw
  split at hp <;> split at hq
  · exact key _ _ hp hq
  · have := key _ _ hp hq; omega
  · have := key _ _ hp hq; omega
  · have := key _ _ hp hq; omega
theorem Dist.snoc {l : List Ent} (hd : Dist l) {e : Ent} (hn : posL l e.what = none) : Dist (l ++ [e]) := by
  have hne := posL_none.1 hn
  intro p q a b hp hq hw
  rw [List.getElem?_append] at hp hq
  split at hp <;> split at hq
  · exact hd p q a b hp hq hw
  · have : b = e := by
      have := List.mem_of_getElem? hq
      simpa using this
    exact absurd (hw.trans (by rw [this])) (hne a (List.mem_of_getElem? hp))
  · have : a = e := by
      have := List.mem_of_getElem? hp
      simpa using this
    exact absurd (hw.symm.trans (by rw [this])) (hne b (List.mem_of_getElem? hq))
  · have h1 := (List.getElem?_eq_some_iff.1 hp).1
    have h2 := (List.getElem?_eq_some_iff.1 hq).1
    simp at h1 h2
    omega
theorem ent_cellsT {t : TypeId} {w : World} {gk : Nat} {cur : Array Value} {l : List Ent} {j : Nat} {e : Ent} (hk : Blk w gk t cur) (ht : cur.toList.take (l.length * 3) = l.flatMap Ent.cells) (hj : l[j]? = some e) :
    w.cell? ⟨gk, j * 3, none⟩ = some (.int .i64 e.at_) ∧ w.cell? ⟨gk, j * 3 + 1, none⟩ = some (.int .i64 e.rank) ∧ w.cell? ⟨gk, j * 3 + 2, none⟩ = some (.int .u64 e.what) := by
  have H : ∀ r u, e.cells[r]? = some u → w.cell? ⟨gk, j * 3 + r, none⟩ = some u := by
    intro r u hu
    have h1 := flatG_get ent_len l j r e u hj hu
    rw [← ht, List.getElem?_take] at h1
    split at h1
    · rw [hk.cell]; simpa using h1
    · cases h1
  exact ⟨H 0 _ rfl, H 1 _ rfl, H 2 _ rfl⟩
/-- Two cells of an item are set. -/
theorem OwnW.set2 {t : TypeId} {w : World} {gk cap : Nat} {l : List Ent} (h : OwnW w t 3 (.slice (some ⟨gk, 0, none⟩) l.length cap) l.length (l.flatMap Ent.cells)) {i : Nat} {e : Ent} (hi : l[i]? = some e) (a r : Int) :
    OwnW ((w.setCell ⟨gk, i * 3, none⟩ (.int .i64 a)).setCell ⟨gk, i * 3 + 1, none⟩ (.int .i64 r)) t 3 (.slice (some ⟨gk, 0, none⟩) l.length cap) l.length ((l.set i ⟨a, r, e.what⟩).flatMap Ent.cells) := by
  have hil := (List.getElem?_eq_some_iff.1 hi).1
  refine ⟨by rw [flatG_len ent_len, List.length_set], ?_⟩
  rcases h.2 with ⟨h1, _⟩ | ⟨g, cap', cur, hv, hB, hnc, hcm, hcs, ht⟩
  · cases h1
  · injection hv with h1 h2 h3
    injection h1 with h1
    injection h1 with h1
    subst h1 h3
    have hc := (ent_cellsT hB ht hi).2.2
    rw [hB.cell] at hc
    refine .inr ⟨gk, cap, _, rfl, (hB.set_ (i * 3) _).set_ (i * 3 + 1) _, hnc, hcm, by simpa using hcs, ?_⟩
    have := ent_set (e := ⟨a, r, e.what⟩) ht hil (by have : l.length * 3 ≤ cap * 3 := Nat.mul_le_mul_right 3 hnc; omega)
    rw [List.length_set] at this
    rwa [set_same (i := i * 3 + 2)] at this
    rw [Array.getElem?_setIfInBounds_ne (by omega), Array.getElem?_setIfInBounds_ne (by omega)]
    exact hc
theorem RQ.row {w : World} {F : Nat → Prop} {g : Nat} {most : Int} {l : List Ent} (q : RQ w F g most l) (hl : 0 < l.length) : ∃ gk cap, Blk w g 48 #[.slice (some ⟨gk, 0, none⟩) l.length cap, .int .i64 most] ∧
    OwnW w 73 3 (.slice (some ⟨gk, 0, none⟩) l.length cap) l.length (l.flatMap Ent.cells) ∧ F gk ∧ gk ≠ g ∧ (∀ i, w.frozen? ⟨gk, i, none⟩ = false) ∧ l.length ≤ cap ∧ cap ≤ 9223372036854775807 := by
  obtain ⟨kv, hB, hO, hF⟩ := q.ex
  have hO' := hO
  obtain ⟨hOl, ⟨_, h0⟩ | ⟨gk, cap, cur, rfl, hBk, hnc, hcm, hcs, ht⟩⟩ := hO
  · omega
  · exact ⟨gk, cap, hB, hO', hF gk rfl, blk_ne hBk hB (by decide), fun i => hBk.frozen i, hnc, hcm⟩
/-- What the reference's queue is behind a call. -/
structure RStep_ (w w' : World) (F F' : Nat → Prop) (g : Nat) (most : Int) (l' : List Ent) : Prop where
  q : RQ w' F' g most l'
  d : Dist l'
  g : Grew w F F'
  k : Kept F w w'
set_option maxRecDepth 100000 in
set_option maxHeartbeats 4000000 in
theorem rput_old (w : World) (F : Nat → Prop) (g : Nat) (most : Int) (l : List Ent) (q : RQ w F g most l) (hd : Dist l) (a r x : Int) (i : Nat) (e : Ent) (he : l[i]? = some e) (hx : e.what = x) (hp : posL l x = some i) :
    Calls Try.prog 31 #[.pointer (some ⟨g, 0, none⟩), .int .i64 a, .int .i64 r, .int .u64 x] w fun e w' => e = .returned (.bool true) ∧ RStep_ w w' F F g most (l.set i ⟨a, r, x⟩) := by
  have H := Lib.hid (rfind_any w F g most l q x)
  rw [findI_some hp] at H
  have hil := (List.getElem?_eq_some_iff.1 he).1
  obtain ⟨gk, cap, hB, hO, hF, hne, hfz, hnc, hcm⟩ := q.row (by omega)
  have h0 : w.cell? ⟨g, 0, none⟩ = some (.slice (some ⟨gk, 0, none⟩) l.length cap) := hB.cell 0
  have k1 : Kept (fun b => b = gk) w ((w.setCell ⟨gk, i * 3, none⟩ (.int .i64 a)).setCell ⟨gk, i * 3 + 1, none⟩ (.int .i64 r)) := (kept_setC w gk (i * 3) _).trans (kept_setC _ gk (i * 3 + 1) _) (fun _ _ e => e)
  have hfew := q.few
  have hlim := q.lim
  have hfg := q.fg
  subst hx
  have hQ : RQ ((w.setCell ⟨gk, i * 3, none⟩ (.int .i64 a)).setCell ⟨gk, i * 3 + 1, none⟩ (.int .i64 r)) F g most (l.set i ⟨a, r, e.what⟩) := by
    refine ⟨⟨.slice (some ⟨gk, 0, none⟩) l.length cap, hB.kept k1 (Ne.symm hne), by rw [List.length_set]; exact hO.set2 he a r, fun j hj => ?_⟩, hfg, by rw [List.length_set]; exact hfew, fun j hj => Nat.lt_of_lt_of_le (hlim j hj) k1.size⟩
    have : gk = j := by simpa [Value.ownBlock] using hj
    exact this ▸ hF
  have HR : Hid (RStep_ w ((w.setCell ⟨gk, i * 3, none⟩ (.int .i64 a)).setCell ⟨gk, i * 3 + 1, none⟩ (.int .i64 r)) F F g most (l.set i ⟨a, r, e.what⟩)) := Lib.hid
    ⟨hQ, (set_facts hd he a r).1, Grew.refl _ _, k1.mono fun j _ e => e ▸ hF⟩
  clear hQ
  have h1 : (w.setCell ⟨gk, i * 3, none⟩ (.int .i64 a)).cell? ⟨g, 0, none⟩ = some (.slice (some ⟨gk, 0, none⟩) l.length cap) := ((hB.kept (kept_setC w gk (i * 3) (.int .i64 a)) (Ne.symm hne)).cell 0)
  have f0 := hfz (i * 3)
  have f1 := hfz (i * 3 + 1)
  obtain ⟨_, c0, c1⟩ : ∃ u, w.cell? ⟨gk, i * 3, none⟩ = some (.int .i64 e.at_) ∧ w.cell? ⟨gk, i * 3 + 1, none⟩ = some (.int .i64 e.rank) := by
    obtain ⟨h1, ⟨h2, _⟩ | ⟨g', cap', cur, hv, hB', _, _, _, ht⟩⟩ := hO
    · cases h2
    · injection hv with h1 h2 h3
      injection h1 with h1
      injection h1 with h1
      subst h1
      have := ent_cellsT hB' ht he
      exact ⟨(), this.1, this.2.1⟩
  obtain ⟨N, hN⟩ : ∃ N, l.length = N := ⟨_, rfl⟩
  rw [hN] at h0 h1 hil hfew
  have hiI : (i : Int) < N := by omega
  clear q hB hO hF k1 hlim hN hd hp he hfz
  go_enter Try.func31, Try.ntmps31
  go_wp2_with fail
  refine H.out.mono ?_
  rintro e' w1 ⟨rfl, rfl⟩
  go_wp2
  go_ret
  exact ⟨rfl, HR.out⟩
set_option maxRecDepth 100000 in
set_option maxHeartbeats 4000000 in
theorem rput_full (w : World) (F : Nat → Prop) (g : Nat) (most : Int) (l : List Ent) (q : RQ w F g most l) (hd : Dist l) (a r x : Int) (hp : posL l x = none) (hf : most ≤ l.length) :
    Calls Try.prog 31 #[.pointer (some ⟨g, 0, none⟩), .int .i64 a, .int .i64 r, .int .u64 x] w fun e w' => e = .returned (.bool false) ∧ RStep_ w w' F F g most l := by
  have H := Lib.hid (rfind_any w F g most l q x)
  rw [findI_none hp] at H
  have HR : Hid (RStep_ w w.drew F F g most l) := Lib.hid ⟨q.later (Below.refl _ _).drew, hd, Grew.refl _ _, (Kept.refl _ _).drew⟩
  obtain ⟨kv, hB, hO, hF⟩ := q.ex
  obtain ⟨A, c, rfl, -, -, hR, -⟩ := hO.shape
  obtain ⟨N, hN⟩ : ∃ N, l.length = N := ⟨_, rfl⟩
  rw [hN] at hB hf
  have HS : Hid ((fun W : World => W.cell? ⟨g, 0, none⟩ = some (.slice A N c) ∧ W.cell? ⟨g, 1, none⟩ = some (.int .i64 most)) w.drew) := Lib.hid ⟨hB.cell 0, hB.cell 1⟩
  have hdc : decide (most ≤ (N : Int)) = true := decide_eq_true hf
  clear q hB hO hF hR hp hf hN hd
  go_enter Try.func31, Try.ntmps31
  go_wp2_with fail
  refine H.out.mono ?_
  rintro e' w1 ⟨rfl, rfl⟩
  go_wp2_with fail
  refine wp_region_s (fun W : World => W.cell? ⟨g, 0, none⟩ = some (.slice A N c) ∧ W.cell? ⟨g, 1, none⟩ = some (.int .i64 most)) [(0, true), (1, true), (2, true), (5, true), (6, true), (7, true), (3, true), (4, true), (8, true), (9, true)] (by kernel_rfl) (fun _ d _ _ _ h => by cases d <;> exact h) ?_
  simp only [List.map_cons, List.map_nil, nthOp_zero, nthOp_succ]
  generalize w.drew = w1 at *
  refine wpS_take HS (by rfl) (by intro W hW; obtain ⟨c0, c1⟩ := hW; go_simp; try with_reducible rfl) ?_
  refine wpS_take HS (by rfl) (by intro W hW; obtain ⟨c0, c1⟩ := hW; go_simp; try with_reducible rfl) ?_
  refine wpS_take HS (by rfl) (by intro W hW; obtain ⟨c0, c1⟩ := hW; go_simp; try with_reducible rfl) ?_
  refine wpS_take HS (by rfl) (by intro W hW; obtain ⟨c0, c1⟩ := hW; go_simp; try with_reducible rfl) ?_
  refine wpS_take HS (by rfl) (by intro W hW; obtain ⟨c0, c1⟩ := hW; go_simp; try with_reducible rfl) ?_
  refine wpS_take HS (by rfl) (by intro W hW; obtain ⟨c0, c1⟩ := hW; go_simp; try with_reducible rfl) ?_
  refine wpS_take HS (by rfl) (by intro W hW; obtain ⟨c0, c1⟩ := hW; go_simp; try with_reducible rfl) ?_
  refine wpS_take HS (by rfl) (by intro W hW; obtain ⟨c0, c1⟩ := hW; go_simp; try with_reducible rfl) ?_
  refine wpS_take HS (by rfl) (by intro W hW; obtain ⟨c0, c1⟩ := hW; go_simp; try with_reducible rfl) ?_
  refine wpS_take HS (by rfl) (by intro W hW; clear hW; go_simp; try with_reducible rfl) ?_
  refine wpS_nil ?_
  go_simp
  go_wp2_with fail
  go_ret
  exact ⟨rfl, HR.out⟩
set_option maxRecDepth 100000 in
set_option maxHeartbeats 4000000 in
theorem rput_new (w : World) (F : Nat → Prop) (g : Nat) (most : Int) (l : List Ent) (q : RQ w F g most l) (hd : Dist l) (a r x : Int) (hp : posL l x = none) (hf : (l.length : Int) < most) (hm : most ≤ 1048576) :
    Calls Try.prog 31 #[.pointer (some ⟨g, 0, none⟩), .int .i64 a, .int .i64 r, .int .u64 x] w fun e w' => e = .returned (.bool true) ∧ ∃ F', RStep_ w w' F F' g most (l ++ [⟨a, r, x⟩]) := by
  have H := Lib.hid (rfind_any w F g most l q x)
  rw [findI_none hp] at H
  have HD : Hid (Dist (l ++ [⟨a, r, x⟩])) := Lib.hid (hd.snoc (e := ⟨a, r, x⟩) hp)
  obtain ⟨kv, hB, hO, hF⟩ := q.ex
  obtain ⟨A, c, rfl, hnc, hcm, hR, -⟩ := hO.shape
  have HQ := Lib.hid (And.intro q.fg q.lim)
  obtain ⟨N, hN⟩ : ∃ N, l.length = N := ⟨_, rfl⟩
  rw [hN] at hB hf hO hnc hF
  have HN := Lib.hid hN
  have HF := Lib.hid hF
  have HS : Hid ((fun W : World => W.cell? ⟨g, 0, none⟩ = some (.slice A N c) ∧ W.cell? ⟨g, 1, none⟩ = some (.int .i64 most)) w.drew) := Lib.hid ⟨hB.cell 0, hB.cell 1⟩
  have hdc : decide (most ≤ (N : Int)) = false := decide_eq_false (by omega)
  have HO := Lib.hid (hO.later (Below.refl _ _).drew)
  have HB := Lib.hid (And.intro (show Blk w.drew g _ _ from hB.drewN 1) (show Below w.heap.size w w.drew from (Below.refl _ _).drew))
  clear q hB hO hR hp hN hd hF
  go_enter Try.func31, Try.ntmps31
  go_wp2_with fail
  refine H.out.mono ?_
  rintro e' w1 ⟨rfl, rfl⟩
  go_wp2_with fail
  refine wp_region_s (fun W : World => W.cell? ⟨g, 0, none⟩ = some (.slice A N c) ∧ W.cell? ⟨g, 1, none⟩ = some (.int .i64 most)) [(0, true), (1, true), (2, true), (5, true), (6, true), (7, true), (3, true), (4, true), (8, true), (9, true)] (by kernel_rfl) (fun _ d _ _ _ h => by cases d <;> exact h) ?_
  simp only [List.map_cons, List.map_nil, nthOp_zero, nthOp_succ]
  generalize w.drew = w1 at *
  refine wpS_take HS (by rfl) (by intro W hW; obtain ⟨c0, c1⟩ := hW; go_simp; try with_reducible rfl) ?_
  refine wpS_take HS (by rfl) (by intro W hW; obtain ⟨c0, c1⟩ := hW; go_simp; try with_reducible rfl) ?_
  refine wpS_take HS (by rfl) (by intro W hW; obtain ⟨c0, c1⟩ := hW; go_simp; try with_reducible rfl) ?_
  refine wpS_take HS (by rfl) (by intro W hW; obtain ⟨c0, c1⟩ := hW; go_simp; try with_reducible rfl) ?_
  refine wpS_take HS (by rfl) (by intro W hW; obtain ⟨c0, c1⟩ := hW; go_simp; try with_reducible rfl) ?_
  refine wpS_take HS (by rfl) (by intro W hW; obtain ⟨c0, c1⟩ := hW; go_simp; try with_reducible rfl) ?_
  refine wpS_take HS (by rfl) (by intro W hW; obtain ⟨c0, c1⟩ := hW; go_simp; try with_reducible rfl) ?_
  refine wpS_take HS (by rfl) (by intro W hW; obtain ⟨c0, c1⟩ := hW; go_simp; try with_reducible rfl) ?_
  refine wpS_take HS (by rfl) (by intro W hW; obtain ⟨c0, c1⟩ := hW; go_simp; try with_reducible rfl) ?_
  refine wpS_take HS (by rfl) (by intro W hW; clear hW; go_simp; try with_reducible rfl) ?_
  refine wpS_nil ?_
  go_simp
  have hb4 : Hid (Below w1.heap.size w1 (w1.alloc (.cells #[.int .i64 a, .int .i64 r, .int .u64 x] 73)) ∧ Blk (w1.alloc (.cells #[.int .i64 a, .int .i64 r, .int .u64 x] 73)) w1.heap.size 73 #[.int .i64 a, .int .i64 r, .int .u64 x]) := Lib.hid ⟨(Below.refl _ _).alloc (Nat.le_refl _) _, Blk.new _ _ _⟩
  have HO4 := Lib.hid (HO.out.later hb4.out.1)
  have HB4 := Lib.hid (HB.out.1.later hb4.out.1)
  have HR4 : Hid (Reads (w1.alloc (.cells #[.int .i64 a, .int .i64 r, .int .u64 x] 73)) (w1.alloc (.cells #[.int .i64 a, .int .i64 r, .int .u64 x] 73)).heap.size 3 (some ⟨w1.heap.size, 0, none⟩) 1 (Ent.cells ⟨a, r, x⟩)) := Lib.hid ⟨rfl, fun _ => ⟨_, rfl, hb4.out.2.lt, fun j u hu => by rw [add_none, Nat.zero_add, hb4.out.2.cell]; simpa [Ent.cells] using hu⟩⟩
  have c0 := HS.out.1
  go_wp2_with (at_builtin; generalize hw4 : w1.alloc (.cells #[.int .i64 a, .int .i64 r, .int .u64 x] 73) = w4 at *; go_must (refine wpList_appW el_refent rfl (.tmp 45) (.tmp 50) rfl HO4.out rfl HR4.out rfl (ent_one ⟨a, r, x⟩) (by simp only [maxLen]; omega) (by omega) ?_); intro v5 w5 ho5 hk5 hn5; have H5 := Lib.hid (And.intro ho5 (And.intro hk5 hn5)); clear ho5 hk5 hn5; have HBB := HB4.out.kept H5.out.2.1 (HO4.out.ne_blk HB4.out (by decide)); have d0 := HBB.cell 0; have f0 := HBB.frozen 0; have HBB5 := Lib.hid HBB; clear hw4 HBB c0; simp at d0; obtain ⟨A5, c5, hv, -⟩ := H5.out.1.shape; subst hv)
  go_ret
  have k1 := kept_setC w5 g 0 (.slice A5 (N + 1) c5)
  have k05 : Kept F w (w5.setCell ⟨g, 0, none⟩ (.slice A5 (N + 1) c5)) :=
    ((Kept.of_new (below_then HB.out.2 hb4.out.1) F).trans (H5.out.2.1.mono (T := F) (fun i _ e => HF.out i e)) (fun _ _ e => e)).trans (k1.mono (T := F) (fun i _ e => e ▸ HQ.out.1)) (fun _ _ e => e)
  have hl1 : (l ++ [(⟨a, r, x⟩ : Ent)]).length = N + 1 := by simp [HN.out]
  have hown5 : OwnW (w5.setCell ⟨g, 0, none⟩ (.slice A5 (N + 1) c5)) 73 3 (.slice A5 (N + 1) c5) (N + 1) ((l ++ [(⟨a, r, x⟩ : Ent)]).flatMap Ent.cells) := by
    rw [List.flatMap_append]
    have := H5.out.1.kept k1 (fun i hi e => H5.out.1.ne_blk HBB5.out (by decide) (e ▸ hi))
    simpa using this
  have hs0 := HB.out.2.size
  have hs1 := hb4.out.1.size
  refine ⟨rfl, fun i => F i ∨ (Value.slice A5 (N + 1) c5).ownBlock = some i, ⟨⟨.slice A5 (l ++ [(⟨a, r, x⟩ : Ent)]).length c5, by rw [hl1]; exact HBB5.out.set_ 0 _, by rw [hl1]; exact hown5, fun i hi => .inr (by rw [hl1] at hi; exact hi)⟩, .inl HQ.out.1, by rw [hl1]; omega, fun i hi => ?_⟩, HD.out, ⟨fun i hi => .inl hi, fun i hi => ?_⟩, k05⟩
  · rcases hi with hi | hi
    · exact Nat.lt_of_lt_of_le (HQ.out.2 i hi) k05.size
    · exact hown5.lt hi
  · rcases hi with hi | hi
    · exact .inl hi
    · rcases H5.out.2.2 with h | ⟨j, h, hj⟩
      · rw [h] at hi; exact .inl (HF.out i hi)
      · rw [h] at hi
        injection hi with hi
        exact .inr (by omega)
/-- A list without its i-th item, so far. -/
def upTo (l : List Ent) (i k : Nat) : List Ent := (l.take k).eraseIdx i
theorem upTo_step {l : List Ent} {i k : Nat} {e : Ent} (he : l[k]? = some e) (hk : k ≠ i) : upTo l i (k + 1) = upTo l i k ++ [e] := by
  have hl := (List.getElem?_eq_some_iff.1 he).1
  have h1 : l.take (k + 1) = l.take k ++ [e] := by rw [List.take_add_one, he]; rfl
  unfold upTo
  rw [h1]
  rcases Nat.lt_or_ge i k with h | h
  · rw [List.eraseIdx_append_of_lt_length (by rw [List.length_take]; omega)]
  · rw [List.eraseIdx_of_length_le (by rw [List.length_append, List.length_take]; simp; omega), List.eraseIdx_of_length_le (by rw [List.length_take]; omega)]
theorem upTo_skip {l : List Ent} {i : Nat} {e : Ent} (he : l[i]? = some e) : upTo l i (i + 1) = upTo l i i := by
  have hl := (List.getElem?_eq_some_iff.1 he).1
  have h1 : l.take (i + 1) = l.take i ++ [e] := by rw [List.take_add_one, he]; rfl
  unfold upTo
  rw [h1, List.eraseIdx_append_of_length_le (by rw [List.length_take]; omega), List.eraseIdx_of_length_le (l := List.take i l) (by rw [List.length_take]; omega)]
  rw [show i - (List.take i l).length = 0 by rw [List.length_take]; omega]
  simp
theorem upTo_len {l : List Ent} {i k : Nat} (hk : k ≤ l.length) : (upTo l i k).length ≤ k := by
  unfold upTo
  have := List.length_eraseIdx_le (l.take k) i
  rw [List.length_take] at this
  omega
structure DrI (w : World) (l : List Ent) (i0 N : Nat) (v i : Value) (wr : World) : Prop where
  ex : ∃ k : Nat, i = .int .i64 k ∧ k ≤ N ∧ Hid (OwnW wr 73 3 v (upTo l i0 k).length ((upTo l i0 k).flatMap Ent.cells))
  nw : Hid (∀ j, v.ownBlock = some j → w.heap.size ≤ j)
  below : Hid (Below w.heap.size w wr)
set_option maxRecDepth 100000 in
set_option maxHeartbeats 8000000 in
theorem rdrop_yes (w : World) (F : Nat → Prop) (g : Nat) (most : Int) (l : List Ent) (q : RQ w F g most l) (hd : Dist l) (x : Int) (i0 : Nat) (e0 : Ent) (he0 : l[i0]? = some e0) (hp : posL l x = some i0) :
    Calls Try.prog 32 #[.pointer (some ⟨g, 0, none⟩), .int .u64 x] w fun e w' => e = .returned (.bool true) ∧ ∃ F', RStep_ w w' F F' g most (l.eraseIdx i0) := by
  have H := Lib.hid (rfind_any w F g most l q x)
  rw [findI_some hp] at H
  have HD : Hid (Dist (l.eraseIdx i0)) := Lib.hid (hd.erase i0)
  obtain ⟨kv, hB, hO, hF⟩ := q.ex
  obtain ⟨A, c, rfl, hnc, hcm, hR, -⟩ := hO.shape
  have HQ := Lib.hid (And.intro q.fg q.lim)
  have hfew := q.few
  have hil := (List.getElem?_eq_some_iff.1 he0).1
  obtain ⟨N, hN⟩ : ∃ N, l.length = N := ⟨_, rfl⟩
  rw [hN] at hB hR hfew hil
  have HN := Lib.hid hN
  have HB := Lib.hid hB
  have HR := Lib.hid hR
  have HE := Lib.hid he0
  have c0 := hB.cell 0
  simp at c0
  clear q hB hO hR hp hN hd hF he0
  have hiI : ((i0 : Int) < 0) = False := by simp
  go_enter Try.func32, Try.ntmps32
  go_wp2_with fail
  refine H.out.mono ?_
  rintro e' w1 ⟨rfl, rfl⟩
  go_wp2_with fail
  go_loopw [6, 7] (DrI w l i0 N) (fun _ t _ => N - (intOf t).toNat)
  case atStart => exact ⟨⟨0, rfl, Nat.zero_le _, Lib.hid (by rw [show upTo l i0 0 = [] by simp [upTo]]; exact OwnW.nil _ _ _)⟩, Lib.hid fun j h => (by simp [Value.ownBlock] at h), Lib.hid (Below.refl _ _)⟩
  case round =>
    obtain ⟨⟨k, rfl, hk, HV⟩, HW, HBl⟩ := hrel
    have HB2 := HB.out.later HBl.out
    have c1 := HB2.cell 0
    simp at c1
    by_cases hlt : k < N
    · have hltI : (k : Int) < N := by omega
      obtain ⟨ad, e, hA, -, he, e0, ej⟩ := rowG_at ent_len (HR.out.later HBl.out) HN.out hlt
      subst hA
      by_cases hki : k = i0
      · subst hki
        have hb : ((k : Int) != (k : Int)) = false := by simp
        have HUs := Lib.hid (upTo_skip he)
        clear e0 ej he HB2
        go_wp2_with fail
        go_roundw
        case rel => exact ⟨⟨k + 1, by go_num, by omega, by rw [HUs.out]; exact HV⟩, HW, HBl⟩
        case measure => simp [intOf]; omega
      · have hb : ((k : Int) != (i0 : Int)) = true := by simp; omega
        have d0 := e0 _ rfl
        have d1 := ej 1 _ (by decide) rfl
        have d2 := ej 2 _ (by decide) rfl
        have HUs := Lib.hid (upTo_step he hki)
        have HUl := Lib.hid (upTo_len (l := l) (i := i0) (k := k) (by rw [HN.out]; omega))
        have hb4 : Hid (Below wr.heap.size wr (wr.alloc (.cells #[.int .i64 e.at_, .int .i64 e.rank, .int .u64 e.what] 73)) ∧ Blk (wr.alloc (.cells #[.int .i64 e.at_, .int .i64 e.rank, .int .u64 e.what] 73)) wr.heap.size 73 #[.int .i64 e.at_, .int .i64 e.rank, .int .u64 e.what]) := Lib.hid ⟨(Below.refl _ _).alloc (Nat.le_refl _) _, Blk.new _ _ _⟩
        have HO4 := Lib.hid (HV.out.later hb4.out.1)
        have HR4 : Hid (Reads (wr.alloc (.cells #[.int .i64 e.at_, .int .i64 e.rank, .int .u64 e.what] 73)) (wr.alloc (.cells #[.int .i64 e.at_, .int .i64 e.rank, .int .u64 e.what] 73)).heap.size 3 (some ⟨wr.heap.size, 0, none⟩) 1 (Ent.cells e)) := Lib.hid ⟨rfl, fun _ => ⟨_, rfl, hb4.out.2.lt, fun j u hu => by rw [add_none, Nat.zero_add, hb4.out.2.cell]; simpa [Ent.cells] using hu⟩⟩
        have HV0 := HV.out.shape
        obtain ⟨Av, cv, hv, -⟩ := HV0
        subst hv
        clear e0 ej he HB2 hki HV
        go_wp2_with (at_builtin; go_must (refine wpList_appW el_refent rfl (.tmp 25) (.tmp 33) rfl HO4.out rfl HR4.out rfl (ent_one e) (by have := HUl.out; simp only [maxLen]; omega) (by have := HUl.out; omega) ?_); intro v5 w5 ho5 hk5 hn5; have H5 := Lib.hid (And.intro ho5 (And.intro hk5 hn5)); clear ho5 hk5 hn5)
        go_roundw
        case rel =>
          obtain ⟨ho5, hk5, hn5⟩ := H5.out
          have h1 := hb4.out.1.size
          refine ⟨⟨k + 1, by go_num, by omega, Lib.hid ?_⟩, Lib.hid fun j hj => ?_, Lib.hid ?_⟩
          · rw [HUs.out, List.length_append, List.flatMap_append]
            simpa using ho5
          · rcases hn5 with h | ⟨m, h, hm⟩
            · rw [h] at hj; exact HW.out j hj
            · rw [h] at hj
              injection hj with hj
              have := HBl.out.size
              omega
          · exact (below_then HBl.out hb4.out.1).trans (hk5.below (fun i hi => HW.out i hi) (Nat.le_trans HBl.out.size h1))
        case measure => simp [intOf]; omega
    · obtain rfl : k = N := by omega
      have f1 := HB2.frozen 0
      have HBr := Lib.hid HB2
      obtain ⟨Av, cv, hv, -⟩ := HV.out.shape
      subst hv
      clear hlt HB2
      go_wp2_with fail
      go_ret
      have eU : upTo l i0 k = l.eraseIdx i0 := by unfold upTo; rw [List.take_of_length_le (by rw [HN.out]; omega)]
      have ho := HV.out
      rw [eU] at ho
      rw [eU]
      have k1 := kept_setC wr g 0 (.slice Av (l.eraseIdx i0).length cv)
      have hown5 : OwnW (wr.setCell ⟨g, 0, none⟩ (.slice Av (l.eraseIdx i0).length cv)) 73 3 (.slice Av (l.eraseIdx i0).length cv) (l.eraseIdx i0).length ((l.eraseIdx i0).flatMap Ent.cells) :=
        ho.kept k1 (fun i hi e => ho.ne_blk HBr.out (by decide) (e ▸ hi))
      have k05 : Kept F w (wr.setCell ⟨g, 0, none⟩ (.slice Av (l.eraseIdx i0).length cv)) := (Kept.of_new HBl.out F).trans (k1.mono (T := F) (fun i _ e => e ▸ HQ.out.1)) (fun _ _ e => e)
      refine ⟨rfl, fun i => F i ∨ (Value.slice Av (l.eraseIdx i0).length cv).ownBlock = some i, ⟨⟨_, HBr.out.set_ 0 _, hown5, fun i hi => .inr hi⟩, .inl HQ.out.1, ?_, fun i hi => ?_⟩, HD.out, ⟨fun i hi => .inl hi, fun i hi => ?_⟩, k05⟩
      · have := List.length_eraseIdx_le l i0
        rw [HN.out] at this
        omega
      · rcases hi with hi | hi
        · exact Nat.lt_of_lt_of_le (HQ.out.2 i hi) k05.size
        · exact hown5.lt hi
      · rcases hi with hi | hi
        · exact .inl hi
        · have := HW.out i (by rw [eU]; exact hi)
          exact .inr this
set_option maxRecDepth 100000 in
theorem rdrop_no (w : World) (F : Nat → Prop) (g : Nat) (most : Int) (l : List Ent) (q : RQ w F g most l) (x : Int) (hp : posL l x = none) :
    Calls Try.prog 32 #[.pointer (some ⟨g, 0, none⟩), .int .u64 x] w fun e w' => e = .returned (.bool false) ∧ w = w' := by
  have H := Lib.hid (rfind_any w F g most l q x)
  rw [findI_none hp] at H
  clear q hp
  go_enter Try.func32, Try.ntmps32
  go_wp2_with fail
  refine H.out.mono ?_
  rintro e w1 ⟨rfl, rfl⟩
  go_wp2
  go_ret
  exact ⟨rfl, rfl⟩
theorem rdrop_any (w : World) (F : Nat → Prop) (g : Nat) (most : Int) (l : List Ent) (q : RQ w F g most l) (hd : Dist l) (x : Int) :
    Calls Try.prog 32 #[.pointer (some ⟨g, 0, none⟩), .int .u64 x] w fun e w' => ∃ F' l' b, e = .returned (.bool b) ∧ RStep_ w w' F F' g most l' ∧ DropM l x l' b ∧ (b = true → l'.length + 1 = l.length) := by
  rcases hp : posL l x with _ | i
  · refine (rdrop_no w F g most l q x hp).mono ?_
    rintro e w' ⟨rfl, rfl⟩
    have hn := posL_none.1 hp
    refine ⟨F, l, false, rfl, ⟨q, hd, Grew.refl _ _, Kept.refl _ _⟩, ⟨fun e => ⟨fun h => ⟨h, hn e h⟩, fun h => h.1⟩, ⟨(fun h => by cases h), ?_⟩⟩, (fun h => by cases h)⟩
    rintro ⟨e, he, hx⟩
    exact absurd hx (hn e he)
  · obtain ⟨z, hz, rfl⟩ := (posL_some hd).1 hp
    refine (rdrop_yes w F g most l q hd _ i z hz hp).mono ?_
    rintro e w' ⟨rfl, F', h⟩
    refine ⟨F', _, true, rfl, h, ⟨fun e => erase_mem hd hz e, iff_of_true rfl ⟨z, List.mem_of_getElem? hz, rfl⟩⟩, fun _ => ?_⟩
    have := (List.getElem?_eq_some_iff.1 hz).1
    rw [List.length_eraseIdx, if_pos this]
    omega
theorem rput_any (w : World) (F : Nat → Prop) (g : Nat) (most : Int) (l : List Ent) (q : RQ w F g most l) (hd : Dist l) (hm : most ≤ 1048576) (a r x : Int) :
    Calls Try.prog 31 #[.pointer (some ⟨g, 0, none⟩), .int .i64 a, .int .i64 r, .int .u64 x] w fun e w' => ∃ F' l' b, e = .returned (.bool b) ∧ RStep_ w w' F F' g most l' ∧ PutM most l a r x l' b := by
  rcases hp : posL l x with _ | i
  · have hn := posL_none.1 hp
    by_cases hf : (l.length : Int) < most
    · refine (rput_new w F g most l q hd a r x hp hf hm).mono ?_
      rintro e w' ⟨rfl, F', h⟩
      refine ⟨F', _, true, rfl, h, ⟨fun _ e => ?_, (fun h => by cases h), iff_of_true rfl (.inr hf), by simp⟩⟩
      rw [List.mem_append, List.mem_singleton]
      exact ⟨fun h => h.elim (fun h => .inr ⟨h, hn e h⟩) .inl, fun h => h.elim .inr fun h => .inl h.1⟩
    · refine (rput_full w F g most l q hd a r x hp (by omega)).mono ?_
      rintro e w' ⟨rfl, h⟩
      refine ⟨F, l, false, rfl, h, ⟨(fun h => by cases h), fun _ => rfl, ⟨(fun h => by cases h), ?_⟩, by omega⟩⟩
      rintro (⟨e, he, hx⟩ | h)
      · exact absurd hx (hn e he)
      · exact absurd h hf
  · obtain ⟨z, hz, rfl⟩ := (posL_some hd).1 hp
    refine (rput_old w F g most l q hd a r _ i z hz rfl hp).mono ?_
    rintro e w' ⟨rfl, h⟩
    exact ⟨F, _, true, rfl, h, ⟨fun _ e => set_mem hd hz a r e, (fun h => by cases h), iff_of_true rfl (.inl ⟨z, List.mem_of_getElem? hz, rfl⟩), by rw [List.length_set]; omega⟩⟩
end Go.Proofs.Ytgpgcjdbppehjaa
