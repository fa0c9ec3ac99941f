/-
  The queue: Put.
-/
import Derived.Test.YtgpgcjdbppehjaaQue9
namespace Go.Proofs.Ytgpgcjdbppehjaa
set_option linter.unusedVariables false
open Go.RowKit

theorem set_same {cur : Array Value} {i : Nat} {v : Value} (h : cur[i]? = some v) : cur.setIfInBounds i v = cur := by
  apply Array.ext_getElem?
  intro j
  rw [Array.getElem?_setIfInBounds]
  split
  · rename_i e
    subst e
    obtain ⟨h1, h2⟩ := Array.getElem?_eq_some_iff.1 h
    rw [if_pos h1, h]
  · rfl
/-- An entry with another time and rank. -/
theorem RowE.set2 {w : World} {gk cap : Nat} {l : List Ent} (h : RowE w gk cap l) {i : Nat} {e : Ent} (hi : l[i]? = some e) (a r : Int) :
    RowE ((w.setCell ⟨gk, i * 3, none⟩ (.int .i64 a)).setCell ⟨gk, i * 3 + 1, none⟩ (.int .i64 r)) gk cap (l.set i ⟨a, r, e.what⟩) := by
  have hil := (List.getElem?_eq_some_iff.1 hi).1
  have hc := (h.cells hi).2.2
  obtain ⟨cur, h1, h3, h2⟩ := h.ex
  rw [h1.cell] at hc
  refine ⟨_, (h1.set_ (i * 3) _).set_ (i * 3 + 1) _, by simpa using h3, ?_⟩
  have := ent_set (e := ⟨a, r, e.what⟩) h2 hil (by omega)
  rwa [set_same (i := i * 3 + 2)] at this
  rw [Array.getElem?_setIfInBounds_ne (by omega), Array.getElem?_setIfInBounds_ne (by omega)]
  exact hc
theorem set_facts {l : List Ent} (hd : Dist l) {i : Nat} {e : Ent} (hi : l[i]? = some e) (a r : Int) : Dist (l.set i ⟨a, r, e.what⟩) ∧ posF (l.set i ⟨a, r, e.what⟩) = posF l := by
  have hil := (List.getElem?_eq_some_iff.1 hi).1
  have hw : ∀ (j : Nat) (x : Ent), (l.set i ⟨a, r, e.what⟩)[j]? = some x → ∃ y : Ent, l[j]? = some y ∧ y.what = x.what := by
    intro j x hx
    rw [List.getElem?_set] at hx
    split at hx
    · rename_i e1
      subst e1
      injection hx with hx
      exact ⟨e, hi, by rw [← hx]⟩
    · exact ⟨x, hx, rfl⟩
  have hd' : Dist (l.set i ⟨a, r, e.what⟩) := by
    intro p q x y hp hq he
    obtain ⟨x', h1, h2⟩ := hw p x hp
    obtain ⟨y', h3, h4⟩ := hw q y hq
    exact hd p q x' y' h1 h3 (by rw [h2, h4, he])
  refine ⟨hd', ?_⟩
  funext x
  unfold posF
  congr 1
  cases hp : posL l x with
  | none =>
    rw [posL_none] at hp ⊢
    intro y hy
    obtain ⟨j, hj⟩ := List.getElem?_of_mem hy
    obtain ⟨y', h1, h2⟩ := hw j y hj
    rw [← h2]; exact hp y' (List.mem_of_getElem? h1)
  | some p =>
    obtain ⟨y, h1, h2⟩ := (posL_some hd).1 hp
    rw [posL_some hd']
    by_cases hpi : p = i
    · subst hpi
      rw [hi] at h1
      injection h1 with h1
      exact ⟨_, by rw [List.getElem?_set_self hil], by rw [← h1] at h2; exact h2⟩
    · exact ⟨y, by rw [List.getElem?_set_ne (Ne.symm hpi)]; exact h1, h2⟩
set_option maxRecDepth 100000 in
set_option maxHeartbeats 4000000 in
theorem put_old (w : World) (F : Nat → Prop) (g bm : Nat) (most : Int) (l : List Ent) (q : QF w F g bm most l) (hm : 1 ≤ most) (a r x : Int) (hok : Ent.ok ⟨a, r, x⟩) (i : Nat) (hp : posL l x = some i) :
    Calls Try.prog 10 #[.pointer (some ⟨g, 0, none⟩), .int .i64 a, .int .i64 r, .int .u64 x] w fun e w' => e = .returned (.bool true) ∧ QF w' F g bm most (fixL (l.set i ⟨a, r, x⟩) i) ∧ Kept F w w' := by
  have hil := posL_lt hp
  obtain ⟨e, he, hx⟩ := (posL_some q.dist).1 hp
  subst hx
  have HLK : Hid (lookF (posF l) e.what (.int .i64 0) true = .tuple #[.int .i64 i, .bool true]) := Lib.hid (by unfold lookF posF; rw [hp]; rfl)
  obtain ⟨gk, cap, cur, hB, hBk, hnc, hcm, hcs, ht, hFg, hgk, hbgk, hbg⟩ := q.row (by omega)
  have HSF := Lib.hid (set_facts q.dist he a r)
  have HN := Lib.hid (qnone_any w F g bm most l q hm)
  have h1 : w.cell? ⟨g, 1, none⟩ = some (.map (some bm)) := hB.cell 1
  have HM := Lib.hid q.map
  have HQ := Lib.hid q
  have HC := Lib.hid (And.intro hcm (And.intro hFg (And.intro hgk (And.intro hbgk (And.intro hbg (And.intro hok he))))))
  have R0 : Hid (RowE w.drew gk cap l) := Lib.hid ⟨cur, hBk, ⟨hcs, hnc⟩, ht⟩
  obtain ⟨N, hNl⟩ : ∃ N, l.length = N := ⟨_, rfl⟩
  have HNl := Lib.hid hNl
  rw [hNl] at hB hil
  have HB : Hid (Blk w.drew g 59 #[.slice (some ⟨gk, 0, none⟩) N cap, .map (some bm), .int .i64 most]) := Lib.hid (hB.drewN 1)
  have HS : Hid ((fun W : World => W.cell? ⟨g, 0, none⟩ = some (.slice (some ⟨gk, 0, none⟩) N cap)) w.drew) := Lib.hid (hB.cell 0)
  have hiI : (i : Int) < N := by omega
  clear hB hBk hnc hcm hcs ht hFg hgk hbgk hbg q hp he hok hNl
  have hlen : ∀ x, (l.set i x).length = N := by intro x; rw [List.length_set]; exact HNl.out
  have HLEN := Lib.hid hlen
  clear hlen
  go_enter Try.func10, Try.ntmps10
  go_wp2_with (first
    | (go_at_call 22; refine HN.out.mono ?_; rintro e w' ⟨rfl, rfl⟩)
    | (refine wpList_lookupF u64T Try.underlying55 zeroInt rfl (.tmp 18) (.tmp 19) true rfl HM.out rfl e.what rfl ?_; rw [HLK.out]))
  refine wp_region_s (fun W : World => W.cell? ⟨g, 0, none⟩ = some (.slice (some ⟨gk, 0, none⟩) N cap)) [(0, true), (1, true), (2, true), (3, true), (5, true), (6, true), (7, true), (8, true), (9, true), (11, true), (12, true), (13, true), (4, true), (10, true), (14, true), (15, true), (16, false), (17, true), (18, true), (19, false)] (by kernel_rfl) (fun _ d _ _ _ h => by cases d <;> exact h) ?_
  simp only [List.map_cons, List.map_nil, nthOp_zero, nthOp_succ]
  generalize hw1 : w.drew = w1 at *
  have HW1 := Lib.hid hw1
  clear hw1 h1
  refine wpS_take HS (by rfl) (by intro W hW; go_simp; try with_reducible rfl) ?_
  refine wpS_take HS (by rfl) (by intro W hW; go_simp; try with_reducible rfl) ?_
  refine wpS_take HS (by rfl) (by intro W hW; go_simp; try with_reducible rfl) ?_
  refine wpS_take HS (by rfl) (by intro W hW; go_simp; try with_reducible rfl) ?_
  refine wpS_take HS (by rfl) (by intro W hW; go_simp; try with_reducible rfl) ?_
  refine wpS_take HS (by rfl) (by intro W hW; go_simp; try with_reducible rfl) ?_
  refine wpS_take HS (by rfl) (by intro W hW; go_simp; try with_reducible rfl) ?_
  refine wpS_take HS (by rfl) (by intro W hW; go_simp; try with_reducible rfl) ?_
  go_simp
  refine wpS_take HS (by rfl) (by intro W hW; go_simp; try with_reducible rfl) ?_
  refine wpS_take HS (by rfl) (by intro W hW; go_simp; try with_reducible rfl) ?_
  refine wpS_take HS (by rfl) (by intro W hW; go_simp; try with_reducible rfl) ?_
  refine wpS_take HS (by rfl) (by intro W hW; go_simp; try with_reducible rfl) ?_
  refine wpS_take HS (by rfl) (by intro W hW; go_simp; try with_reducible rfl) ?_
  refine wpS_take HS (by rfl) (by intro W hW; go_simp; try with_reducible rfl) ?_
  refine wpS_take HS (by rfl) (by intro W hW; go_simp; try with_reducible rfl) ?_
  refine wpS_take HS (by rfl) (by intro W hW; go_simp; try with_reducible rfl) ?_
  go_simp
  obtain ⟨x0, x1, x2⟩ := R0.out.cells HC.out.2.2.2.2.2.2
  have f0 := R0.out.frozen (i * 3)
  refine wpS_do fun K hK => ?_
  go_wp2
  have k2 := kept_setC w1 gk (i * 3) (.int .i64 a)
  have HB2 := Lib.hid (HB.out.kept k2 HC.out.2.2.1)
  have HS2 : Hid ((fun W : World => W.cell? ⟨g, 0, none⟩ = some (.slice (some ⟨gk, 0, none⟩) N cap)) (w1.setCell ⟨gk, i * 3, none⟩ (.int .i64 a))) := Lib.hid (HB2.out.cell 0)
  refine hK.out _ _ HS2.out ?_
  clear hK K
  refine wpS_take HS2 (by rfl) (by intro W hW; go_simp; try with_reducible rfl) ?_
  refine wpS_take HS2 (by rfl) (by intro W hW; go_simp; try with_reducible rfl) ?_
  go_simp
  obtain ⟨cur', r1, -⟩ := R0.out.ex
  have r2 := r1.set_ (i * 3) (.int .i64 a)
  have x1' : (w1.setCell ⟨gk, i * 3, none⟩ (.int .i64 a)).cell? ⟨gk, i * 3 + 1, none⟩ = some (.int .i64 e.rank) := by
    rw [r2.cell, Array.getElem?_setIfInBounds_ne (by omega), ← r1.cell]; exact x1
  have f1 : (w1.setCell ⟨gk, i * 3, none⟩ (.int .i64 a)).frozen? ⟨gk, i * 3 + 1, none⟩ = false := r2.frozen _
  have R2 := Lib.hid (R0.out.set2 HC.out.2.2.2.2.2.2 a r)
  have K3 := Lib.hid (k2.trans (kept_setC (w1.setCell ⟨gk, i * 3, none⟩ (.int .i64 a)) gk (i * 3 + 1) (.int .i64 r)) (fun _ _ e => e))
  clear r1 r2 x0 x1 x2 f0 k2 R0
  generalize w1.setCell ⟨gk, i * 3, none⟩ (.int .i64 a) = w2 at *
  refine wpS_do fun K hK => ?_
  go_wp2
  generalize w2.setCell ⟨gk, i * 3 + 1, none⟩ (.int .i64 r) = w3 at *
  have HB3 := Lib.hid (HB.out.kept K3.out HC.out.2.2.1)
  refine hK.out _ _ (HB3.out.cell 0) ?_
  clear hK K
  refine wpS_nil ?_
  go_simp
  have kk1 : Kept F w w1 := by rw [← HW1.out]; exact (Kept.refl F w).drewN 1
  have kk3 := Lib.hid (kk1.trans (K3.out.mono (T := F) (fun j _ e => e ▸ HC.out.2.1)) (fun _ _ e => e))
  have Q3 : Hid (QF w3 F g bm most (l.set i ⟨a, r, e.what⟩)) := by
    refine Lib.hid ⟨⟨.slice (some ⟨gk, 0, none⟩) (l.set i ⟨a, r, e.what⟩).length cap, by rw [HLEN.out]; exact HB3.out, ?_, fun j hj => ?_⟩, ?_, HQ.out.fg, HQ.out.fb, fun y hy => ?_, HSF.out.1, by rw [HLEN.out, ← HNl.out]; exact HQ.out.few, fun j hj => Nat.lt_of_lt_of_le (HQ.out.lim j hj) kk3.out.size⟩
    · obtain ⟨cur2, r1, ⟨r2, r4⟩, r3⟩ := R2.out.ex
      exact ⟨by rw [flatG_len ent_len], .inr ⟨gk, cap, cur2, rfl, r1, r4, HC.out.1, r2, r3⟩⟩
    · simp only [Value.ownBlock, Option.some.injEq] at hj
      exact hj ▸ HC.out.2.1
    · rw [HSF.out.2, HLEN.out, ← HNl.out]
      have h1 : MapF enc64 w1 bm (posF l) l.length := by rw [← HW1.out]; exact HQ.out.map.drewN 1
      exact h1.kept K3.out HC.out.2.2.2.1
    · rcases List.mem_or_eq_of_mem_set hy with hy | hy
      · exact HQ.out.ok y hy
      · rw [hy]; exact HC.out.2.2.2.2.2.1
  clear kk1 HS HS2 HB2 R2 K3 HB3 x1' f1
  go_wp2_with (go_at_call 23; refine (heapFix_any w3 F g bm most _ Q3.out i (by rw [HLEN.out]; exact hil)).mono ?_; rintro e' w4 ⟨rfl, q4, k4⟩; have H4 := Lib.hid (And.intro q4 k4); clear q4 k4)
  go_ret
  exact ⟨rfl, H4.out.1, kk3.out.trans H4.out.2 (fun _ _ e => e)⟩
set_option maxRecDepth 100000 in
set_option maxHeartbeats 4000000 in
theorem put_full (w : World) (F : Nat → Prop) (g bm : Nat) (most : Int) (l : List Ent) (q : QF w F g bm most l) (hm : 1 ≤ most) (a r x : Int) (hok : Ent.ok ⟨a, r, x⟩) (hp : posL l x = none) (hf : most ≤ l.length) :
    Calls Try.prog 10 #[.pointer (some ⟨g, 0, none⟩), .int .i64 a, .int .i64 r, .int .u64 x] w fun e w' => e = .returned (.bool false) ∧ QF w' F g bm most l ∧ Kept F w w' := by
  have HLK : Hid (lookF (posF l) x (.int .i64 0) true = .tuple #[.int .i64 0, .bool false]) := Lib.hid (by unfold lookF posF; rw [hp]; rfl)
  obtain ⟨kv, hB, hO, hF⟩ := q.ex
  obtain ⟨A, c, rfl, -⟩ := hO.shape
  have HN := Lib.hid (qnone_any w F g bm most l q hm)
  have h1 : w.cell? ⟨g, 1, none⟩ = some (.map (some bm)) := hB.cell 1
  have HM := Lib.hid q.map
  have HQ := Lib.hid (q.later (w' := w.drew) (Below.refl _ _).drew)
  have HP := Lib.hid (And.intro hok hp)
  obtain ⟨N, hNl⟩ : ∃ N, l.length = N := ⟨_, rfl⟩
  have HNl := Lib.hid hNl
  rw [hNl] at hf
  have HS : Hid ((fun W : World => W.cell? ⟨g, 0, none⟩ = some (.slice A N c) ∧ W.cell? ⟨g, 2, none⟩ = some (.int .i64 most)) w.drew) := Lib.hid ⟨by rw [← hNl]; exact hB.cell 0, hB.cell 2⟩
  have hd : decide (most ≤ N) = true := decide_eq_true hf
  have kk1 := Lib.hid ((Kept.refl F w).drewN 1)
  clear hB hO hF q hp hok hNl
  go_enter Try.func10, Try.ntmps10
  go_wp2_with (first
    | (go_at_call 22; refine HN.out.mono ?_; rintro e w' ⟨rfl, rfl⟩)
    | (refine wpList_lookupF u64T Try.underlying55 zeroInt rfl (.tmp 18) (.tmp 19) true rfl HM.out rfl x rfl ?_; rw [HLK.out]))
  refine wp_region_s (fun W : World => W.cell? ⟨g, 0, none⟩ = some (.slice A N c) ∧ W.cell? ⟨g, 2, none⟩ = some (.int .i64 most)) [(0, true), (1, true), (2, true), (3, true), (6, true), (7, true), (8, true), (4, true), (5, true), (9, true), (10, true)] (by kernel_rfl) (fun _ d _ _ _ h => by cases d <;> exact h) ?_
  simp only [List.map_cons, List.map_nil, nthOp_zero, nthOp_succ]
  clear h1
  change wpS _ _ _ _ _ _ (w.drewN 1)
  refine wpS_take HS (by rfl) (by intro W hW; obtain ⟨c0, c1⟩ := hW; go_simp; try with_reducible rfl) ?_
  refine wpS_take HS (by rfl) (by intro W hW; obtain ⟨c0, c1⟩ := hW; go_simp; try with_reducible rfl) ?_
  refine wpS_take HS (by rfl) (by intro W hW; obtain ⟨c0, c1⟩ := hW; go_simp; try with_reducible rfl) ?_
  refine wpS_take HS (by rfl) (by intro W hW; obtain ⟨c0, c1⟩ := hW; go_simp; try with_reducible rfl) ?_
  refine wpS_take HS (by rfl) (by intro W hW; obtain ⟨c0, c1⟩ := hW; go_simp; try with_reducible rfl) ?_
  refine wpS_take HS (by rfl) (by intro W hW; obtain ⟨c0, c1⟩ := hW; go_simp; try with_reducible rfl) ?_
  go_simp
  refine wpS_take HS (by rfl) (by intro W hW; obtain ⟨c0, c1⟩ := hW; go_simp; try with_reducible rfl) ?_
  refine wpS_take HS (by rfl) (by intro W hW; obtain ⟨c0, c1⟩ := hW; go_simp; try with_reducible rfl) ?_
  refine wpS_take HS (by rfl) (by intro W hW; obtain ⟨c0, c1⟩ := hW; go_simp; try with_reducible rfl) ?_
  refine wpS_take HS (by rfl) (by intro W hW; obtain ⟨c0, c1⟩ := hW; go_simp; try with_reducible rfl) ?_
  refine wpS_take HS (by rfl) (by intro W hW; obtain ⟨c0, c1⟩ := hW; go_simp; try with_reducible rfl) ?_
  refine wpS_nil ?_
  go_simp
  go_wp2
  go_ret
  exact ⟨rfl, HQ.out, kk1.out⟩
set_option maxRecDepth 100000 in
set_option maxHeartbeats 4000000 in
theorem put_new (w : World) (F : Nat → Prop) (g bm : Nat) (most : Int) (l : List Ent) (q : QF w F g bm most l) (hm : 1 ≤ most) (a r x : Int) (hok : Ent.ok ⟨a, r, x⟩) (hp : posL l x = none) (hf : (l.length : Int) < most ∧ most ≤ 1048576) :
    Calls Try.prog 10 #[.pointer (some ⟨g, 0, none⟩), .int .i64 a, .int .i64 r, .int .u64 x] w fun e w' => e = .returned (.bool true) ∧ ∃ F', QF w' F' g bm most (pushL l ⟨a, r, x⟩) ∧ Grew w F F' ∧ Kept F w w' := by
  have HLK : Hid (lookF (posF l) x (.int .i64 0) true = .tuple #[.int .i64 0, .bool false]) := Lib.hid (by unfold lookF posF; rw [hp]; rfl)
  obtain ⟨kv, hB, hO, hF⟩ := q.ex
  obtain ⟨A, c, rfl, -⟩ := hO.shape
  have HN := Lib.hid (qnone_any w F g bm most l q hm)
  have h1 : w.cell? ⟨g, 1, none⟩ = some (.map (some bm)) := hB.cell 1
  have HM := Lib.hid q.map
  have HQ := Lib.hid (q.later (w' := w.drew) (Below.refl _ _).drew)
  have HP := Lib.hid (And.intro hok hp)
  obtain ⟨N, hNl⟩ : ∃ N, l.length = N := ⟨_, rfl⟩
  have HNl := Lib.hid hNl
  rw [hNl] at hf
  have HS : Hid ((fun W : World => W.cell? ⟨g, 0, none⟩ = some (.slice A N c) ∧ W.cell? ⟨g, 2, none⟩ = some (.int .i64 most)) w.drew) := Lib.hid ⟨by rw [← hNl]; exact hB.cell 0, hB.cell 2⟩
  have hd : decide (most ≤ N) = false := decide_eq_false (by omega)
  have kk1 := Lib.hid ((Kept.refl F w).drewN 1)
  clear hB hO hF q hp hok hNl
  go_enter Try.func10, Try.ntmps10
  go_wp2_with (first
    | (go_at_call 22; refine HN.out.mono ?_; rintro e w' ⟨rfl, rfl⟩)
    | (refine wpList_lookupF u64T Try.underlying55 zeroInt rfl (.tmp 18) (.tmp 19) true rfl HM.out rfl x rfl ?_; rw [HLK.out]))
  refine wp_region_s (fun W : World => W.cell? ⟨g, 0, none⟩ = some (.slice A N c) ∧ W.cell? ⟨g, 2, none⟩ = some (.int .i64 most)) [(0, true), (1, true), (2, true), (3, true), (6, true), (7, true), (8, true), (4, true), (5, true), (9, true), (10, true)] (by kernel_rfl) (fun _ d _ _ _ h => by cases d <;> exact h) ?_
  simp only [List.map_cons, List.map_nil, nthOp_zero, nthOp_succ]
  clear h1
  change wpS _ _ _ _ _ _ (w.drewN 1)
  refine wpS_take HS (by rfl) (by intro W hW; obtain ⟨c0, c1⟩ := hW; go_simp; try with_reducible rfl) ?_
  refine wpS_take HS (by rfl) (by intro W hW; obtain ⟨c0, c1⟩ := hW; go_simp; try with_reducible rfl) ?_
  refine wpS_take HS (by rfl) (by intro W hW; obtain ⟨c0, c1⟩ := hW; go_simp; try with_reducible rfl) ?_
  refine wpS_take HS (by rfl) (by intro W hW; obtain ⟨c0, c1⟩ := hW; go_simp; try with_reducible rfl) ?_
  refine wpS_take HS (by rfl) (by intro W hW; obtain ⟨c0, c1⟩ := hW; go_simp; try with_reducible rfl) ?_
  refine wpS_take HS (by rfl) (by intro W hW; obtain ⟨c0, c1⟩ := hW; go_simp; try with_reducible rfl) ?_
  go_simp
  refine wpS_take HS (by rfl) (by intro W hW; obtain ⟨c0, c1⟩ := hW; go_simp; try with_reducible rfl) ?_
  refine wpS_take HS (by rfl) (by intro W hW; obtain ⟨c0, c1⟩ := hW; go_simp; try with_reducible rfl) ?_
  refine wpS_take HS (by rfl) (by intro W hW; obtain ⟨c0, c1⟩ := hW; go_simp; try with_reducible rfl) ?_
  refine wpS_take HS (by rfl) (by intro W hW; obtain ⟨c0, c1⟩ := hW; go_simp; try with_reducible rfl) ?_
  refine wpS_take HS (by rfl) (by intro W hW; obtain ⟨c0, c1⟩ := hW; go_simp; try with_reducible rfl) ?_
  refine wpS_nil ?_
  go_simp
  go_wp2_with (go_at_call 24; refine (heapPush_any (w.drewN 1) F g bm most l ⟨a, r, x⟩ HQ.out HP.out.1 HP.out.2 (by rw [HNl.out]; omega)).mono ?_; rintro e' w4 ⟨rfl, F4, q4, g4, k4⟩; have H4 := Lib.hid (And.intro q4 (And.intro g4 k4)); clear q4 g4 k4)
  go_ret
  exact ⟨rfl, F4, H4.out.1, H4.out.2.1, kk1.out.trans H4.out.2.2 (fun _ _ e => e)⟩
end Go.Proofs.Ytgpgcjdbppehjaa
