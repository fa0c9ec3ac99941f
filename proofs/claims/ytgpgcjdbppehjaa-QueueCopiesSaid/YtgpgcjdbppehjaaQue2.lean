/-
  The rows' Swap.
-/
import Derived.Test.YtgpgcjdbppehjaaQue1
namespace Go.Proofs.Ytgpgcjdbppehjaa
set_option linter.unusedVariables false
open Go.RowKit

/-- A row with another entry at place i. -/
theorem ent_set {cur : Array Value} {l : List Ent} {i : Nat} {e : Ent} (ht : cur.toList.take (l.length * 3) = l.flatMap Ent.cells) (hi : i < l.length) (hcs : l.length * 3 ≤ cur.size) :
    (((cur.setIfInBounds (i * 3) (.int .i64 e.at_)).setIfInBounds (i * 3 + 1) (.int .i64 e.rank)).setIfInBounds (i * 3 + 2) (.int .u64 e.what)).toList.take ((l.set i e).length * 3) = (l.set i e).flatMap Ent.cells := by
  refine List.ext_getElem? fun j => ?_
  rw [List.getElem?_take]
  split
  · rename_i hj
    simp only [List.length_set] at hj
    have hq : j = (j / 3) * 3 + j % 3 := by omega
    have hr : j % 3 < 3 := Nat.mod_lt _ (by decide)
    have hjl : j / 3 < l.length := by omega
    obtain ⟨x, hx⟩ : ∃ x, (l.set i e)[j / 3]? = some x := ⟨_, List.getElem?_eq_getElem (by simpa using hjl)⟩
    have hxl : x.cells.length = 3 := rfl
    obtain ⟨u, hu⟩ : ∃ u, x.cells[j % 3]? = some u := ⟨_, List.getElem?_eq_getElem (by omega)⟩
    have h1 := flatG_get ent_len (l.set i e) (j / 3) (j % 3) x u hx hu
    rw [← hq] at h1
    rw [h1]
    simp only [Array.toList_setIfInBounds, List.getElem?_set, List.length_set, Array.length_toList]
    by_cases hji : i = j / 3
    · rw [List.getElem?_set, if_pos hji, if_pos hi] at hx
      injection hx with hx
      subst hx
      have h3 : j % 3 = 0 ∨ j % 3 = 1 ∨ j % 3 = 2 := by omega
      rcases h3 with h3 | h3 | h3
      · rw [h3] at hu
        have : u = .int .i64 e.at_ := by simpa [Ent.cells] using hu.symm
        rw [if_neg (by omega), if_neg (by omega), if_pos (by omega), if_pos (by omega), this]
      · rw [h3] at hu
        have : u = .int .i64 e.rank := by simpa [Ent.cells] using hu.symm
        rw [if_neg (by omega), if_pos (by omega), if_pos (by omega), this]
      · rw [h3] at hu
        have : u = .int .u64 e.what := by simpa [Ent.cells] using hu.symm
        rw [if_pos (by omega), if_pos (by omega), this]
    · rw [List.getElem?_set, if_neg hji] at hx
      have h2 := flatG_get ent_len l (j / 3) (j % 3) x u hx hu
      rw [← hq, ← ht, List.getElem?_take, if_pos (by omega)] at h2
      rw [if_neg (by omega), if_neg (by omega), if_neg (by omega), h2]
  · rename_i hj
    rw [List.getElem?_eq_none]
    rw [flatG_len ent_len]
    omega
/-- The row in block gk reads as l. -/
structure RowE (w : World) (gk cap : Nat) (l : List Ent) : Prop where
  ex : ∃ cur, Blk w gk 32 cur ∧ (cap * 3 ≤ cur.size ∧ l.length ≤ cap) ∧ cur.toList.take (l.length * 3) = l.flatMap Ent.cells
theorem RowE.cells {w : World} {gk cap : Nat} {l : List Ent} (h : RowE w gk cap l) {j : Nat} {e : Ent} (hj : l[j]? = some e) :
    w.cell? ⟨gk, j * 3, none⟩ = some (.int .i64 e.at_) ∧ w.cell? ⟨gk, j * 3 + 1, none⟩ = some (.int .i64 e.rank) ∧ w.cell? ⟨gk, j * 3 + 2, none⟩ = some (.int .u64 e.what) := by
  obtain ⟨cur, h1, _, h2⟩ := h.ex
  exact ent_cells h1 h2 hj
theorem RowE.frozen {w : World} {gk cap : Nat} {l : List Ent} (h : RowE w gk cap l) (i : Nat) : w.frozen? ⟨gk, i, none⟩ = false := by
  obtain ⟨cur, h1, _, h2⟩ := h.ex
  exact h1.frozen i
theorem RowE.set {w : World} {gk cap : Nat} {l : List Ent} (h : RowE w gk cap l) {i : Nat} (hi : i < l.length) (e : Ent) :
    RowE (((w.setCell ⟨gk, i * 3, none⟩ (.int .i64 e.at_)).setCell ⟨gk, i * 3 + 1, none⟩ (.int .i64 e.rank)).setCell ⟨gk, i * 3 + 2, none⟩ (.int .u64 e.what)) gk cap (l.set i e) := by
  obtain ⟨cur, h1, h3, h2⟩ := h.ex
  exact ⟨_, ((h1.set_ (i * 3) _).set_ (i * 3 + 1) _).set_ (i * 3 + 2) _, by simpa using h3, ent_set h2 hi (by omega)⟩
theorem kept_set3 (w : World) (gk i j k : Nat) (x y z : Value) : Kept (fun b => b = gk) w (((w.setCell ⟨gk, i, none⟩ x).setCell ⟨gk, j, none⟩ y).setCell ⟨gk, k, none⟩ z) :=
  ((kept_setC w gk i x).trans (kept_setC _ gk j y) (fun _ _ e => e)).trans (kept_setC _ gk k z) (fun _ _ e => e)
theorem RowE.kept {S : Nat → Prop} {w w' : World} {gk cap : Nat} {l : List Ent} (h : RowE w gk cap l) (k : Kept S w w') (hn : ¬ S gk) : RowE w' gk cap l := by
  obtain ⟨cur, h1, h2⟩ := h.ex
  exact ⟨cur, h1.kept k hn, h2⟩
/-- What stands in memory while the map is set right behind a swap. -/
structure SwF (w1 W : World) (g gk bm n N cap : Nat) (most : Int) (i k : Nat) (l' : List Ent) (a b : Ent) : Prop where
  blk : Blk W g 59 #[.slice (some ⟨gk, 0, none⟩) n cap, .map (some bm), .int .i64 most]
  row : RowE W gk cap l'
  len : n = N
  hi : l'[i]? = some b
  hk : l'[k]? = some a
  n1 : bm ≠ gk
  n2 : bm ≠ g
  kept : Kept (fun b => b = gk ∨ b = bm) w1 W
def SwT (W : World) (g gk bm N cap i k : Nat) (a b : Ent) : Prop :=
  W.cell? ⟨g, 0, none⟩ = some (.slice (some ⟨gk, 0, none⟩) N cap) ∧ W.cell? ⟨g, 1, none⟩ = some (.map (some bm)) ∧ W.cell? ⟨gk, i * 3 + 2, none⟩ = some (.int .u64 b.what) ∧ W.cell? ⟨gk, k * 3 + 2, none⟩ = some (.int .u64 a.what)
theorem SwF.tt {w1 W : World} {g gk bm n N cap : Nat} {most : Int} {i k : Nat} {l' : List Ent} {a b : Ent} (h : SwF w1 W g gk bm n N cap most i k l' a b) : SwT W g gk bm N cap i k a b := by
  have := h.blk.cell 0
  rw [h.len] at this
  exact ⟨this, h.blk.cell 1, (h.row.cells h.hi).2.2, (h.row.cells h.hk).2.2⟩
theorem SwF.step {w1 W W' : World} {g gk bm n N cap : Nat} {most : Int} {i k : Nat} {l' : List Ent} {a b : Ent} (h : SwF w1 W g gk bm n N cap most i k l' a b) (k' : Kept (fun j => j = bm) W W') : SwF w1 W' g gk bm n N cap most i k l' a b :=
  ⟨h.blk.kept k' (Ne.symm h.n2), h.row.kept k' (Ne.symm h.n1), h.len, h.hi, h.hk, h.n1, h.n2, h.kept.trans k' (fun _ _ e => .inr e)⟩
/-- Two loads whose order nobody can tell. -/
theorem wpR_two_pure {P : Program} {ops : Array Oper} {S : World → Prop} {Q : Exit → Act → World → Prop} {r : List RNode} {o o' : Oper} {a : Act} {w : World} {v v' : Value} (hS : Hid (S w)) (hg : o.guard = none) (hg' : o'.guard = none)
    (h1 : (execOp a.eval o).run P w = .ok (.value v) w) (h2 : (execOp (a.put o.dst v).eval o').run P w = .ok (.value v') w) (h3 : (execOp a.eval o').run P w = .ok (.value v') w) (h4 : (execOp (a.put o'.dst v').eval o).run P w = .ok (.value v) w)
    (hc : (a.put o'.dst v').put o.dst v = (a.put o.dst v).put o'.dst v') (h : wpR P ops Q S r ((a.put o.dst v).put o'.dst v') w) : wpR P ops Q S (.two o o' :: r) a w := by
  refine wpR_two (fun K K1 hK hK1 => ?_) (fun K K1 hK hK1 => ?_)
  · refine wpList_plain hg fun K0 hK0 => ?_
    unfold Oper.wp
    rw [h1]
    refine hK0 _ _ ?_
    refine hK1.out _ _ hS.out ?_
    refine wpList_plain hg' fun K0 hK0 => ?_
    unfold Oper.wp
    rw [h2]
    exact hK0 _ _ (hK.out _ _ hS.out h)
  · refine wpList_plain hg' fun K0 hK0 => ?_
    unfold Oper.wp
    rw [h3]
    refine hK0 _ _ ?_
    refine hK1.out _ _ hS.out ?_
    refine wpList_plain hg fun K0 hK0 => ?_
    unfold Oper.wp
    rw [h4]
    refine hK0 _ _ (hK.out _ _ hS.out ?_)
    rw [hc]; exact h
/-- Where entries stand behind a swap. -/
theorem posF_swap {l : List Ent} (hd : Dist l) {i k : Nat} {a b : Ent} (hi : l[i]? = some a) (hk : l[k]? = some b) :
    updF (updF (posF l) b.what (some (.int .i64 (i : Int)))) a.what (some (.int .i64 (k : Int))) = posF (swapL l i k) := by
  have hil := (List.getElem?_eq_some_iff.1 hi).1
  have hkl := (List.getElem?_eq_some_iff.1 hk).1
  have hd' := hd.swap hil hkl
  have key : ∀ x p, posL (swapL l i k) x = some p ↔ posL l x = some (swp i k p) := by
    intro x p
    rw [posL_some hd', posL_some hd, swapL_get hil hkl]
  funext x
  unfold updF posF
  by_cases h1 : x = a.what
  · rw [if_pos h1]
    have : posL (swapL l i k) x = some k := by
      rw [key, posL_some hd]
      refine ⟨a, ?_, h1.symm⟩
      unfold swp
      by_cases e : k = i
      · rw [if_pos e, e]; exact hi
      · rw [if_neg e, if_pos rfl]; exact hi
    rw [this]; rfl
  · rw [if_neg h1]
    by_cases h2 : x = b.what
    · rw [if_pos h2]
      have : posL (swapL l i k) x = some i := by
        rw [key, posL_some hd]
        refine ⟨b, ?_, h2.symm⟩
        unfold swp
        rw [if_pos rfl]; exact hk
      rw [this]; rfl
    · rw [if_neg h2]
      congr 1
      cases hp : posL l x with
      | none =>
        symm
        rw [posL_none] at hp ⊢
        intro e he
        exact hp e ((swapL_mem hil hkl e).1 he)
      | some p =>
        symm
        rw [key]
        obtain ⟨e, e1, e2⟩ := (posL_some hd).1 hp
        have hpi : p ≠ i := by rintro rfl; rw [hi] at e1; injection e1 with e1; exact h1 (by rw [e1]; exact e2.symm)
        have hpk : p ≠ k := by rintro rfl; rw [hk] at e1; injection e1 with e1; exact h2 (by rw [e1]; exact e2.symm)
        unfold swp
        rw [if_neg hpi, if_neg hpk]; exact hp
set_option maxRecDepth 100000 in
set_option maxHeartbeats 8000000 in
theorem rowsSwap_any (w : World) (F : Nat → Prop) (g bm : Nat) (most : Int) (l : List Ent) (q : QF w F g bm most l) (i k : Nat) (hi : i < l.length) (hk : k < l.length) :
    Calls Try.prog 85 #[.pointer (some ⟨g, 0, none⟩), .int .i64 i, .int .i64 k] w fun e w' => e = .returned (.tuple #[]) ∧ QF w' F g bm most (swapL l i k) ∧ Kept F w w' := by
  obtain ⟨gk, cap, cur, hB, hBk, hnc, hcm, hcs, ht, hFg, hgk, hbgk, hbg⟩ := q.row (by omega)
  obtain ⟨a, ha⟩ : ∃ a, l[i]? = some a := ⟨_, List.getElem?_eq_getElem hi⟩
  obtain ⟨b, hb⟩ : ∃ b, l[k]? = some b := ⟨_, List.getElem?_eq_getElem hk⟩
  have R0 : Hid (RowE w.drew gk cap l) := Lib.hid ⟨cur, hBk, ⟨hcs, hnc⟩, ht⟩
  have HQ := Lib.hid q
  have HA := Lib.hid (And.intro ha hb)
  have HB := Lib.hid hB
  have HC := Lib.hid (And.intro hcs (And.intro hnc (And.intro hFg (And.intro hgk (And.intro hbgk (And.intro hbg hBk))))))
  obtain ⟨N, hN⟩ : ∃ N, l.length = N := ⟨_, rfl⟩
  have HN := Lib.hid hN
  have HS : Hid ((fun W : World => W.cell? ⟨g, 0, none⟩ = some (.slice (some ⟨gk, 0, none⟩) N cap)) w.drew) := Lib.hid (by have := hB.cell 0; rw [← hN]; exact this)
  rw [hN] at hi hk
  clear hN hB hBk ht ha hb q hcs hcm hnc hFg hgk hbgk hbg
  have hiI : (i : Int) < N := by omega
  have hkI : (k : Int) < N := by omega
  go_enter Try.func85, Try.ntmps85
  go_wp2
  refine wp_region_r (fun W : World => W.cell? ⟨g, 0, none⟩ = some (.slice (some ⟨gk, 0, none⟩) N cap))
    [.take 0, .take 1, .take 2, .take 4, .take 5, .take 6, .take 7, .take 9, .take 10, .take 11, .take 12, .take 14, .take 17, .take 18, .take 19, .take 21, .take 3, .take 8, .take 13, .take 15, .take 20, .take 22, .two 16 23, .take 24, .one 25, .take 26, .one 27] (by kernel_rfl) (fun _ d _ _ _ h => by cases d <;> exact h) ?_
  simp only [List.map_cons, List.map_nil, RStep.node, nthOp_zero, nthOp_succ]
  generalize hw1 : w.drew = w1 at *
  have HW1 := Lib.hid hw1
  clear hw1
  refine wpR_take HS (by rfl) (by intro W hW; go_simp; try with_reducible rfl) ?_
  refine wpR_take HS (by rfl) (by intro W hW; go_simp; try with_reducible rfl) ?_
  refine wpR_take HS (by rfl) (by intro W hW; go_simp; try with_reducible rfl) ?_
  refine wpR_take HS (by rfl) (by intro W hW; go_simp; try with_reducible rfl) ?_
  refine wpR_take HS (by rfl) (by intro W hW; go_simp; try with_reducible rfl) ?_
  refine wpR_take HS (by rfl) (by intro W hW; go_simp; try with_reducible rfl) ?_
  refine wpR_take HS (by rfl) (by intro W hW; go_simp; try with_reducible rfl) ?_
  refine wpR_take HS (by rfl) (by intro W hW; go_simp; try with_reducible rfl) ?_
  go_simp
  refine wpR_take HS (by rfl) (by intro W hW; go_simp; try with_reducible rfl) ?_
  refine wpR_take HS (by rfl) (by intro W hW; go_simp; try with_reducible rfl) ?_
  refine wpR_take HS (by rfl) (by intro W hW; go_simp; try with_reducible rfl) ?_
  refine wpR_take HS (by rfl) (by intro W hW; go_simp; try with_reducible rfl) ?_
  refine wpR_take HS (by rfl) (by intro W hW; go_simp; try with_reducible rfl) ?_
  refine wpR_take HS (by rfl) (by intro W hW; go_simp; try with_reducible rfl) ?_
  refine wpR_take HS (by rfl) (by intro W hW; go_simp; try with_reducible rfl) ?_
  refine wpR_take HS (by rfl) (by intro W hW; go_simp; try with_reducible rfl) ?_
  go_simp
  refine wpR_take HS (by rfl) (by intro W hW; go_simp; try with_reducible rfl) ?_
  refine wpR_take HS (by rfl) (by intro W hW; go_simp; try with_reducible rfl) ?_
  refine wpR_take HS (by rfl) (by intro W hW; go_simp; try with_reducible rfl) ?_
  refine wpR_take HS (by rfl) (by intro W hW; go_simp; try with_reducible rfl) ?_
  refine wpR_take HS (by rfl) (by intro W hW; go_simp; try with_reducible rfl) ?_
  refine wpR_take HS (by rfl) (by intro W hW; go_simp; try with_reducible rfl) ?_
  go_simp
  have HR := Lib.hid (And.intro (R0.out.cells HA.out.1) (R0.out.cells HA.out.2))
  refine wpR_two_pure (v := b.v) (v' := a.v) HS rfl rfl (by obtain ⟨c1, c2, c3⟩ := HR.out.1; obtain ⟨c4, c5, c6⟩ := HR.out.2; go_simp; try with_reducible rfl) (by obtain ⟨c1, c2, c3⟩ := HR.out.1; obtain ⟨c4, c5, c6⟩ := HR.out.2; go_simp; try with_reducible rfl) (by obtain ⟨c1, c2, c3⟩ := HR.out.1; obtain ⟨c4, c5, c6⟩ := HR.out.2; go_simp; try with_reducible rfl) (by obtain ⟨c1, c2, c3⟩ := HR.out.1; obtain ⟨c4, c5, c6⟩ := HR.out.2; go_simp; try with_reducible rfl) (by rfl) ?_
  go_simp
  refine wpR_take HS (by rfl) (by intro W hW; go_simp; try with_reducible rfl) ?_
  obtain ⟨x0, x1, x2⟩ := R0.out.cells HA.out.1
  have f0 := R0.out.frozen (i * 3)
  have f1 := R0.out.frozen (i * 3 + 1)
  have f2 := R0.out.frozen (i * 3 + 2)
  have hne : g ≠ gk := HC.out.2.2.2.1
  have HNE := Lib.hid hne
  clear hne
  refine wpR_do fun K hK => ?_
  go_wp2
  have R1 : Hid (RowE (((w1.setCell ⟨gk, i * 3, none⟩ (.int .i64 b.at_)).setCell ⟨gk, i * 3 + 1, none⟩ (.int .i64 b.rank)).setCell ⟨gk, i * 3 + 2, none⟩ (.int .u64 b.what)) gk cap (l.set i b)) := Lib.hid (R0.out.set (by rw [HN.out]; exact hi) b)
  have K1 := Lib.hid (kept_set3 w1 gk (i * 3) (i * 3 + 1) (i * 3 + 2) (.int .i64 b.at_) (.int .i64 b.rank) (.int .u64 b.what))
  have HBg : Hid (Blk w1 g 59 #[.slice (some ⟨gk, 0, none⟩) l.length cap, .map (some bm), .int .i64 most]) := Lib.hid (by rw [← HW1.out]; exact HB.out)
  have HS1 : Hid ((fun W : World => W.cell? ⟨g, 0, none⟩ = some (.slice (some ⟨gk, 0, none⟩) N cap)) (((w1.setCell ⟨gk, i * 3, none⟩ (.int .i64 b.at_)).setCell ⟨gk, i * 3 + 1, none⟩ (.int .i64 b.rank)).setCell ⟨gk, i * 3 + 2, none⟩ (.int .u64 b.what))) := Lib.hid (by
    have := (HBg.out.kept K1.out HNE.out).cell 0
    rw [HN.out] at this
    exact this)
  generalize ((w1.setCell ⟨gk, i * 3, none⟩ (.int .i64 b.at_)).setCell ⟨gk, i * 3 + 1, none⟩ (.int .i64 b.rank)).setCell ⟨gk, i * 3 + 2, none⟩ (.int .u64 b.what) = w2 at *
  refine hK.out _ _ HS1.out ?_
  clear hK K x0 x1 x2 f0 f1 f2 HR
  refine wpR_take HS1 (by rfl) (by intro W hW; go_simp; try with_reducible rfl) ?_
  obtain ⟨y, hy⟩ : ∃ y, (l.set i b)[k]? = some y := ⟨_, List.getElem?_eq_getElem (by rw [List.length_set, HN.out]; exact hk)⟩
  obtain ⟨x0, x1, x2⟩ := R1.out.cells hy
  have f0 := R1.out.frozen (k * 3)
  have f1 := R1.out.frozen (k * 3 + 1)
  have f2 := R1.out.frozen (k * 3 + 2)
  clear hy
  refine wpR_do fun K hK => ?_
  go_wp2
  have R2 : Hid (RowE (((w2.setCell ⟨gk, k * 3, none⟩ (.int .i64 a.at_)).setCell ⟨gk, k * 3 + 1, none⟩ (.int .i64 a.rank)).setCell ⟨gk, k * 3 + 2, none⟩ (.int .u64 a.what)) gk cap (swapL l i k)) := Lib.hid (by
    rw [swapL_eq HA.out.1 HA.out.2]
    exact R1.out.set (by rw [List.length_set, HN.out]; exact hk) a)
  have K2 := Lib.hid (K1.out.trans (kept_set3 w2 gk (k * 3) (k * 3 + 1) (k * 3 + 2) (.int .i64 a.at_) (.int .i64 a.rank) (.int .u64 a.what)) (fun _ _ e => e))
  have HS2 : Hid ((fun W : World => W.cell? ⟨g, 0, none⟩ = some (.slice (some ⟨gk, 0, none⟩) N cap)) (((w2.setCell ⟨gk, k * 3, none⟩ (.int .i64 a.at_)).setCell ⟨gk, k * 3 + 1, none⟩ (.int .i64 a.rank)).setCell ⟨gk, k * 3 + 2, none⟩ (.int .u64 a.what))) := Lib.hid (by
    have := (HBg.out.kept K2.out HNE.out).cell 0
    rw [HN.out] at this
    exact this)
  generalize ((w2.setCell ⟨gk, k * 3, none⟩ (.int .i64 a.at_)).setCell ⟨gk, k * 3 + 1, none⟩ (.int .i64 a.rank)).setCell ⟨gk, k * 3 + 2, none⟩ (.int .u64 a.what) = w3 at *
  refine hK.out _ _ HS2.out ?_
  clear hK K x0 x1 x2 f0 f1 f2 HS1 R1 K1 HS R0
  refine wpR_nil ?_
  go_simp
  have HB3 : Hid (Blk w3 g 59 #[.slice (some ⟨gk, 0, none⟩) l.length cap, .map (some bm), .int .i64 most]) := Lib.hid (HBg.out.kept K2.out HNE.out)
  have HM3 : Hid (MapF enc64 w3 bm (posF l) l.length) := Lib.hid ((show MapF enc64 w1 bm (posF l) l.length by rw [← HW1.out]; exact HQ.out.map.drewN 1).kept K2.out HC.out.2.2.2.2.1)
  have hsi : (swapL l i k)[i]? = some b := by rw [swapL_get (by rw [HN.out]; exact hi) (by rw [HN.out]; exact hk)]; unfold swp; rw [if_pos rfl]; exact HA.out.2
  have hsk : (swapL l i k)[k]? = some a := by
    rw [swapL_get (by rw [HN.out]; exact hi) (by rw [HN.out]; exact hk)]; unfold swp
    by_cases e : k = i
    · rw [if_pos e]; have := HA.out; rw [e] at this ⊢; exact this.1
    · rw [if_neg e, if_pos rfl]; exact HA.out.1
  have HSK := Lib.hid (And.intro hsi hsk)
  clear hsi hsk
  go_wp2
  have hab : posF l b.what = some (.int .i64 (k : Int)) := by unfold posF; rw [(posL_some HQ.out.dist).2 ⟨b, HA.out.2, rfl⟩]; rfl
  have haa : posF l a.what = some (.int .i64 (i : Int)) := by unfold posF; rw [(posL_some HQ.out.dist).2 ⟨a, HA.out.1, rfl⟩]; rfl
  have HP := Lib.hid (And.intro hab haa)
  clear hab haa
  have HF : Hid (SwF w1 w3.drew g gk bm l.length N cap most i k (swapL l i k) a b) := Lib.hid ⟨HB3.out.drewN 1, R2.out.kept ((Kept.refl (fun _ => False) w3).drewN 1) (fun h => h), HN.out, HSK.out.1, HSK.out.2, HC.out.2.2.2.2.1, HC.out.2.2.2.2.2.1, (K2.out.drewN 1).mono (fun _ _ e => .inl e)⟩
  have HT : Hid ((fun W : World => SwT W g gk bm N cap i k a b) w3.drew) := Lib.hid HF.out.tt
  have HM4 : Hid (MapF enc64 w3.drew bm (posF l) l.length) := Lib.hid (HM3.out.drewN 1)
  refine wp_region_s (fun W : World => SwT W g gk bm N cap i k a b) [(0, true), (1, true), (2, true), (4, true), (5, true), (6, true), (8, true), (12, true), (13, true), (14, true), (16, true), (17, true), (18, true), (20, true), (24, true), (25, true), (3, true), (7, true), (9, true), (10, true), (11, true), (15, true), (19, true), (21, true), (22, true), (23, true), (26, false), (27, true), (28, false), (29, false), (30, true), (31, false)] (by kernel_rfl) (fun _ d _ _ _ h => by cases d <;> exact h) ?_
  simp only [List.map_cons, List.map_nil, nthOp_zero, nthOp_succ]
  generalize w3.drew = w4 at *
  clear HS2 HB3 HM3 R2 K2
  refine wpS_take HT (by rfl) (by intro W hW; obtain ⟨c0, c1, c2, c3⟩ := hW; go_simp; try with_reducible rfl) ?_
  refine wpS_take HT (by rfl) (by intro W hW; obtain ⟨c0, c1, c2, c3⟩ := hW; go_simp; try with_reducible rfl) ?_
  refine wpS_take HT (by rfl) (by intro W hW; obtain ⟨c0, c1, c2, c3⟩ := hW; go_simp; try with_reducible rfl) ?_
  refine wpS_take HT (by rfl) (by intro W hW; obtain ⟨c0, c1, c2, c3⟩ := hW; go_simp; try with_reducible rfl) ?_
  refine wpS_take HT (by rfl) (by intro W hW; obtain ⟨c0, c1, c2, c3⟩ := hW; go_simp; try with_reducible rfl) ?_
  refine wpS_take HT (by rfl) (by intro W hW; obtain ⟨c0, c1, c2, c3⟩ := hW; go_simp; try with_reducible rfl) ?_
  refine wpS_take HT (by rfl) (by intro W hW; obtain ⟨c0, c1, c2, c3⟩ := hW; go_simp; try with_reducible rfl) ?_
  refine wpS_take HT (by rfl) (by intro W hW; obtain ⟨c0, c1, c2, c3⟩ := hW; go_simp; try with_reducible rfl) ?_
  go_simp
  refine wpS_take HT (by rfl) (by intro W hW; obtain ⟨c0, c1, c2, c3⟩ := hW; go_simp; try with_reducible rfl) ?_
  refine wpS_take HT (by rfl) (by intro W hW; obtain ⟨c0, c1, c2, c3⟩ := hW; go_simp; try with_reducible rfl) ?_
  refine wpS_take HT (by rfl) (by intro W hW; obtain ⟨c0, c1, c2, c3⟩ := hW; go_simp; try with_reducible rfl) ?_
  refine wpS_take HT (by rfl) (by intro W hW; obtain ⟨c0, c1, c2, c3⟩ := hW; go_simp; try with_reducible rfl) ?_
  refine wpS_take HT (by rfl) (by intro W hW; obtain ⟨c0, c1, c2, c3⟩ := hW; go_simp; try with_reducible rfl) ?_
  refine wpS_take HT (by rfl) (by intro W hW; obtain ⟨c0, c1, c2, c3⟩ := hW; go_simp; try with_reducible rfl) ?_
  refine wpS_take HT (by rfl) (by intro W hW; obtain ⟨c0, c1, c2, c3⟩ := hW; go_simp; try with_reducible rfl) ?_
  refine wpS_take HT (by rfl) (by intro W hW; obtain ⟨c0, c1, c2, c3⟩ := hW; go_simp; try with_reducible rfl) ?_
  go_simp
  refine wpS_take HT (by rfl) (by intro W hW; obtain ⟨c0, c1, c2, c3⟩ := hW; go_simp; try with_reducible rfl) ?_
  refine wpS_take HT (by rfl) (by intro W hW; obtain ⟨c0, c1, c2, c3⟩ := hW; go_simp; try with_reducible rfl) ?_
  refine wpS_take HT (by rfl) (by intro W hW; obtain ⟨c0, c1, c2, c3⟩ := hW; go_simp; try with_reducible rfl) ?_
  refine wpS_take HT (by rfl) (by intro W hW; obtain ⟨c0, c1, c2, c3⟩ := hW; go_simp; try with_reducible rfl) ?_
  refine wpS_take HT (by rfl) (by intro W hW; obtain ⟨c0, c1, c2, c3⟩ := hW; go_simp; try with_reducible rfl) ?_
  refine wpS_take HT (by rfl) (by intro W hW; obtain ⟨c0, c1, c2, c3⟩ := hW; go_simp; try with_reducible rfl) ?_
  refine wpS_take HT (by rfl) (by intro W hW; obtain ⟨c0, c1, c2, c3⟩ := hW; go_simp; try with_reducible rfl) ?_
  refine wpS_take HT (by rfl) (by intro W hW; obtain ⟨c0, c1, c2, c3⟩ := hW; go_simp; try with_reducible rfl) ?_
  go_simp
  refine wpS_take HT (by rfl) (by intro W hW; obtain ⟨c0, c1, c2, c3⟩ := hW; go_simp; try with_reducible rfl) ?_
  refine wpS_take HT (by rfl) (by intro W hW; obtain ⟨c0, c1, c2, c3⟩ := hW; go_simp; try with_reducible rfl) ?_
  go_simp
  refine wpS_do fun K hK => ?_
  go_wp2_with (go_must (refine wpList_entryF u64T Try.underlying55 rfl (.tmp 35) (.tmp 43) rfl HM4.out rfl b.what rfl HP.out.1 ?_); intro w5 t5 hm hs hk; have HM5 := Lib.hid hm; have HS5 := Lib.hid hs; have hk5 := Lib.hid hk; clear hm hs hk)
  have HF5 := Lib.hid (HF.out.step hk5.out)
  have HT5 : Hid ((fun W : World => SwT W g gk bm N cap i k a b) w5) := Lib.hid HF5.out.tt
  refine hK.out _ _ HT5.out ?_
  clear hK K HT HF
  refine wpS_take HT5 (by rfl) (by intro W hW; go_simp; try with_reducible rfl) ?_
  refine wpS_do fun K hK => ?_
  go_wp2_with (go_must (refine wpList_entryStoreF rfl (.tmp 35) (.tmp 59) (.tmp 56) rfl HM5.out rfl HP.out.1 HS5.out rfl enc64_inj (.int .i64 i) rfl ?_); intro w6 hm hk; have HM6 := Lib.hid hm; have hk6 := Lib.hid hk; clear hm hk)
  have HF6 := Lib.hid (HF5.out.step hk6.out)
  have HT6 : Hid ((fun W : World => SwT W g gk bm N cap i k a b) w6) := Lib.hid HF6.out.tt
  refine hK.out _ _ HT6.out ?_
  clear hK K HT5 HF5
  have hq6 : Hid (updF (posF l) b.what (some (.int .i64 (i : Int))) a.what = some (.int .i64 (i : Int))) := Lib.hid (by unfold updF; split; rfl; exact HP.out.2)
  refine wpS_do fun K hK => ?_
  go_wp2_with (go_must (refine wpList_entryF u64T Try.underlying55 rfl (.tmp 47) (.tmp 55) rfl HM6.out rfl a.what rfl hq6.out ?_); intro w7 t7 hm hs hk; have HM7 := Lib.hid hm; have HS7 := Lib.hid hs; have hk7 := Lib.hid hk; clear hm hs hk)
  have HF7 := Lib.hid (HF6.out.step hk7.out)
  have HT7 : Hid ((fun W : World => SwT W g gk bm N cap i k a b) w7) := Lib.hid HF7.out.tt
  refine hK.out _ _ HT7.out ?_
  clear hK K HT6 HF6
  refine wpS_take HT7 (by rfl) (by intro W hW; go_simp; try with_reducible rfl) ?_
  refine wpS_do fun K hK => ?_
  go_wp2_with (go_must (refine wpList_entryStoreF rfl (.tmp 47) (.tmp 61) (.tmp 57) rfl HM7.out rfl hq6.out HS7.out rfl enc64_inj (.int .i64 k) rfl ?_); intro w8 hm hk; have HM8 := Lib.hid hm; have hk8 := Lib.hid hk; clear hm hk)
  have HF8 := Lib.hid (HF7.out.step hk8.out)
  have HT8 : Hid ((fun W : World => SwT W g gk bm N cap i k a b) w8) := Lib.hid HF8.out.tt
  refine hK.out _ _ HT8.out ?_
  clear hK K HT7 HF7
  refine wpS_nil ?_
  go_simp
  go_wp2
  go_end0
  have hM := HM8.out
  rw [posF_swap HQ.out.dist HA.out.1 HA.out.2] at hM
  obtain ⟨kv, e1, e2, e3⟩ := HQ.out.ex
  have hkk0 : Kept F w w1 := by rw [← HW1.out]; exact (Kept.refl F w).drewN 1
  have hkk : Kept F w w8 := hkk0.trans HF8.out.kept (fun j _ (e : j = gk ∨ j = bm) => e.elim (fun e => e ▸ HC.out.2.2.1) (fun e => e ▸ HQ.out.fb))
  refine ⟨rfl, ⟨⟨.slice (some ⟨gk, 0, none⟩) (swapL l i k).length cap, by rw [swapL_len]; exact HF8.out.blk, ?_, fun b hb => ?_⟩, by rw [swapL_len]; exact hM, HQ.out.fg, HQ.out.fb, fun e he => HQ.out.ok e ((swapL_mem (by rw [HN.out]; exact hi) (by rw [HN.out]; exact hk) e).1 he), HQ.out.dist.swap (by rw [HN.out]; exact hi) (by rw [HN.out]; exact hk), by rw [swapL_len]; exact HQ.out.few, fun i hi => Nat.lt_of_lt_of_le (HQ.out.lim i hi) hkk.size⟩, hkk⟩
  · obtain ⟨cur', r1, ⟨r2, r4⟩, r3⟩ := HF8.out.row.ex
    obtain ⟨gk', cap', cur2, hB', hBk', _, hcm', _⟩ := HQ.out.row (by rw [HN.out]; omega)
    have hcm : cap ≤ 9223372036854775807 := by
      have e0 := HB.out.cell 0
      rw [hB'.cell 0] at e0
      simp at e0
      omega
    exact ⟨by rw [flatG_len ent_len], .inr ⟨gk, cap, cur', by rw [swapL_len], r1, r4, hcm, r2, r3⟩⟩
  · simp only [Value.ownBlock, Option.some.injEq] at hb
    exact hb ▸ HC.out.2.2.1
end Go.Proofs.Ytgpgcjdbppehjaa
