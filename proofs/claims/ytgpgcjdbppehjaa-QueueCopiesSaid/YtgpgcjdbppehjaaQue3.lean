/-
  The rows' Push and Pop.
-/
import Derived.Test.YtgpgcjdbppehjaaQue2
namespace Go.Proofs.Ytgpgcjdbppehjaa
set_option linter.unusedVariables false
open Go.RowKit

/-- The new blocks of a thing. -/
def Grew (w : World) (F F' : Nat → Prop) : Prop := (∀ i, F i → F' i) ∧ ∀ i, F' i → F i ∨ w.heap.size ≤ i
theorem Grew.refl (w : World) (F : Nat → Prop) : Grew w F F := ⟨fun _ h => h, fun _ h => .inl h⟩
theorem Grew.trans {w w' : World} {F F' F'' : Nat → Prop} (h : Grew w F F') (k : Grew w' F' F'') (hs : w.heap.size ≤ w'.heap.size) : Grew w F F'' :=
  ⟨fun i hi => k.1 i (h.1 i hi), fun i hi => (k.2 i hi).elim (fun e => h.2 i e) (fun e => .inr (Nat.le_trans hs e))⟩
theorem Kept.trans_grew {w w' w'' : World} {F F' : Nat → Prop} (h : Kept F w w') (k : Kept F' w' w'') (g : Grew w F F') : Kept F w w'' :=
  h.trans k (fun i hi e => (g.2 i e).elim id (fun e => absurd hi (by omega)))
theorem OwnW.ne_mapF {κ : Type} [DecidableEq κ] {enc : κ → Value} {w : World} {e : TypeId} {size n m b : Nat} {v : Value} {xs : List Value} {f : κ → Option Value} (h : OwnW w e size v n xs) (hm : MapF enc w b f m) : v.ownBlock ≠ some b := by
  obtain ⟨es, c, L, hm⟩ := hm
  exact h.ne_map (show MapL enc w b L from ⟨es, c, hm.heap, hm.ents⟩)
theorem posF_push {l : List Ent} {e : Ent} (hd : Dist l) (hn : posL l e.what = none) : Dist (l ++ [e]) ∧ updF (posF l) e.what (some (.int .i64 (l.length : Int))) = posF (l ++ [e]) := by
  have hne := posL_none.1 hn
  have hd' : Dist (l ++ [e]) := by
    intro i j a b hi hj heq
    rcases Nat.lt_or_ge i l.length with h1 | h1 <;> rcases Nat.lt_or_ge j l.length with h2 | h2
    · rw [List.getElem?_append_left h1] at hi
      rw [List.getElem?_append_left h2] at hj
      exact hd i j a b hi hj heq
    · rw [List.getElem?_append_left h1] at hi
      rw [List.getElem?_append_right h2] at hj
      have : b = e := by cases h3 : j - l.length <;> simp [h3] at hj; exact hj.symm
      subst this
      exact absurd heq (hne a (List.mem_of_getElem? hi))
    · rw [List.getElem?_append_right h1] at hi
      rw [List.getElem?_append_left h2] at hj
      have : a = e := by cases h3 : i - l.length <;> simp [h3] at hi; exact hi.symm
      subst this
      exact absurd heq.symm (hne b (List.mem_of_getElem? hj))
    · have e1 := (List.getElem?_eq_some_iff.1 hi).1
      have e2 := (List.getElem?_eq_some_iff.1 hj).1
      simp at e1 e2
      omega
  refine ⟨hd', ?_⟩
  funext x
  unfold updF posF
  by_cases h : x = e.what
  · rw [if_pos h]
    have : posL (l ++ [e]) x = some l.length := (posL_some hd').2 ⟨e, by simp, h.symm⟩
    rw [this]; rfl
  · rw [if_neg h]
    congr 1
    cases hp : posL l x with
    | none =>
      symm
      rw [posL_none] at hp ⊢
      intro a ha
      rcases List.mem_append.1 ha with ha | ha
      · exact hp a ha
      · simp only [List.mem_cons, List.not_mem_nil, or_false] at ha
        rw [ha]; exact fun e => h e.symm
    | some p =>
      symm
      obtain ⟨a, e1, e2⟩ := (posL_some hd).1 hp
      exact (posL_some hd').2 ⟨a, by rw [List.getElem?_append_left (List.getElem?_eq_some_iff.1 e1).1]; exact e1, e2⟩
theorem posF_pop {l : List Ent} {z : Ent} {n : Nat} (hd : Dist l) (hl : l.length = n + 1) (hz : l[n]? = some z) : Dist (l.take n) ∧ updF (posF l) z.what none = posF (l.take n) := by
  have hd' : Dist (l.take n) := by
    intro i j a b hi hj heq
    rw [List.getElem?_take] at hi hj
    split at hi
    · split at hj
      · exact hd i j a b hi hj heq
      · cases hj
    · cases hi
  refine ⟨hd', ?_⟩
  funext x
  unfold updF posF
  by_cases h : x = z.what
  · rw [if_pos h]
    have : posL (l.take n) x = none := by
      rw [posL_none]
      intro a ha e
      obtain ⟨i, hi⟩ := List.getElem?_of_mem ha
      rw [List.getElem?_take] at hi
      split at hi
      · have := hd i n a z hi hz (by rw [e, h])
        omega
      · cases hi
    rw [this]; rfl
  · rw [if_neg h]
    congr 1
    cases hp : posL l x with
    | none =>
      symm
      rw [posL_none] at hp ⊢
      exact fun a ha => hp a (List.mem_of_mem_take ha)
    | some p =>
      symm
      obtain ⟨a, e1, e2⟩ := (posL_some hd).1 hp
      have hpn : p ≠ n := by rintro rfl; rw [hz] at e1; injection e1 with e1; exact h (by rw [e1]; exact e2.symm)
      have hpl := (List.getElem?_eq_some_iff.1 e1).1
      exact (posL_some hd').2 ⟨a, by rw [List.getElem?_take, if_pos (by omega)]; exact e1, e2⟩
theorem assert_ent (e : Ent) (W : World) : (Instr.typeAssert (.iface 32 e.v) 20 32 false).run Try.prog W = .ok e.v W := by kernel_rfl
set_option maxRecDepth 100000 in
set_option maxHeartbeats 8000000 in
theorem rowsPush_any (w : World) (F : Nat → Prop) (g bm : Nat) (most : Int) (l : List Ent) (e : Ent) (q : QF w F g bm most l) (he : e.ok) (hn : posL l e.what = none) (hfew : l.length < 1048576) :
    Calls Try.prog 84 #[.pointer (some ⟨g, 0, none⟩), .iface 32 e.v] w fun e' w' => e' = .returned (.tuple #[]) ∧ ∃ F', QF w' F' g bm most (l ++ [e]) ∧ Grew w F F' ∧ Kept F w w' := by
  obtain ⟨kv, hB, hO, hF⟩ := q.ex
  obtain ⟨A, c, rfl, hnc, hcm, -, -⟩ := hO.shape
  have HP := Lib.hid (posF_push q.dist hn)
  have HPN : Hid (posF l e.what = none) := Lib.hid (by unfold posF; rw [hn]; rfl)
  have HE := Lib.hid he
  have hb1 : Below w.heap.size w (w.alloc (.cells #[.int .i64 e.at_, .int .i64 e.rank, .int .u64 e.what] 32)).drew := ((Below.refl _ _).alloc (Nat.le_refl _) _).drew
  have HQ := Lib.hid (q.later hb1)
  have HLIM := Lib.hid q.lim
  have HB := Lib.hid (And.intro (hB.later hb1) (And.intro (hO.later hb1) (And.intro hF hb1)))
  have hX : Blk (w.alloc (.cells #[.int .i64 e.at_, .int .i64 e.rank, .int .u64 e.what] 32)).drew w.heap.size 32 #[.int .i64 e.at_, .int .i64 e.rank, .int .u64 e.what] := (Blk.new _ _ _).drewN 1
  obtain ⟨N, hN⟩ : ∃ N, l.length = N := ⟨_, rfl⟩
  have HN := Lib.hid hN
  have HT : Hid ((fun W : World => W.cell? ⟨g, 0, none⟩ = some (.slice A N c) ∧ W.cell? ⟨g, 1, none⟩ = some (.map (some bm)) ∧ Blk W w.heap.size 32 #[.int .i64 e.at_, .int .i64 e.rank, .int .u64 e.what]) (w.alloc (.cells #[.int .i64 e.at_, .int .i64 e.rank, .int .u64 e.what] 32)).drew) := Lib.hid ⟨by rw [← hN]; exact HB.out.1.cell 0, HB.out.1.cell 1, hX⟩
  rw [hN] at hfew hnc
  clear hN hB hO hF q he hn hX hb1
  have hta := fun W : World => assert_ent e W
  go_enter Try.func84, Try.ntmps84
  go_wp2
  generalize hgx : w.heap.size = gx at *
  have HGX := Lib.hid hgx
  clear hgx
  refine wp_region_s (fun W : World => W.cell? ⟨g, 0, none⟩ = some (.slice A N c) ∧ W.cell? ⟨g, 1, none⟩ = some (.map (some bm)) ∧ Blk W gx 32 #[.int .i64 e.at_, .int .i64 e.rank, .int .u64 e.what]) [(0, true), (1, true), (2, true), (4, true), (6, true), (7, true), (8, true), (3, true), (5, true), (9, true), (10, true), (11, false)] (by kernel_rfl) (fun _ d _ _ _ h => by cases d <;> exact h) ?_
  simp only [List.map_cons, List.map_nil, nthOp_zero, nthOp_succ]
  generalize (w.alloc (.cells #[.int .i64 e.at_, .int .i64 e.rank, .int .u64 e.what] 32)).drew = w1 at *
  refine wpS_take HT (by rfl) (by intro W hW; clear hW; go_simp; try with_reducible rfl) ?_
  refine wpS_take HT (by rfl) (by intro W hW; clear hW; go_simp; try with_reducible rfl) ?_
  refine wpS_take HT (by rfl) (by intro W hW; clear hW; go_simp; try with_reducible rfl) ?_
  refine wpS_take HT (by rfl) (by intro W hW; clear hW; go_simp; try with_reducible rfl) ?_
  refine wpS_take HT (by rfl) (by intro W hW; clear hW; go_simp; try with_reducible rfl) ?_
  refine wpS_take HT (by rfl) (by intro W hW; clear hW; go_simp; try with_reducible rfl) ?_
  refine wpS_take HT (by rfl) (by intro W hW; clear hW; go_simp; try with_reducible rfl) ?_
  refine wpS_take HT (by rfl) (by intro W hW; obtain ⟨c0, c1, hb⟩ := hW; have j0 := hb.cell 0; have j1 := hb.cell 1; have j2 := hb.cell 2; clear hb; simp at j0 j1 j2; go_simp; try with_reducible rfl) ?_
  refine wpS_take HT (by rfl) (by intro W hW; obtain ⟨c0, c1, hb⟩ := hW; have j0 := hb.cell 0; have j1 := hb.cell 1; have j2 := hb.cell 2; clear hb; simp at j0 j1 j2; go_simp; try with_reducible rfl) ?_
  refine wpS_take HT (by rfl) (by intro W hW; obtain ⟨c0, c1, hb⟩ := hW; have j0 := hb.cell 0; have j1 := hb.cell 1; have j2 := hb.cell 2; clear hb; simp at j0 j1 j2; go_simp; try with_reducible rfl) ?_
  refine wpS_take HT (by rfl) (by intro W hW; obtain ⟨c0, c1, hb⟩ := hW; have j0 := hb.cell 0; have j1 := hb.cell 1; have j2 := hb.cell 2; clear hb; simp at j0 j1 j2; go_simp; try with_reducible rfl) ?_
  go_simp
  have HM := Lib.hid HQ.out.map
  rw [HN.out] at HM
  have hbg := Lib.hid (HQ.out.map.ne_blk HB.out.1)
  have hbx := Lib.hid (HQ.out.map.ne_blk HT.out.2.2)
  refine wpS_do fun K hK => ?_
  go_wp2_with (go_must (refine wpList_storeF u64T Try.underlying55 rfl (.tmp 10) (.tmp 12) (.tmp 17) rfl HM.out rfl e.what rfl (.int .i64 N) rfl ?_); intro w2 hm hk; have HM2 := Lib.hid hm; have HK2 := Lib.hid hk; clear hm hk)
  have HT2 : Hid ((fun W : World => W.cell? ⟨g, 0, none⟩ = some (.slice A N c) ∧ W.cell? ⟨g, 1, none⟩ = some (.map (some bm)) ∧ Blk W gx 32 #[.int .i64 e.at_, .int .i64 e.rank, .int .u64 e.what]) w2) := Lib.hid ⟨(HK2.out.cell (cell_lt HT.out.1) (Ne.symm hbg.out)).trans HT.out.1, (HK2.out.cell (cell_lt HT.out.2.1) (Ne.symm hbg.out)).trans HT.out.2.1, HT.out.2.2.kept HK2.out (Ne.symm hbx.out)⟩
  refine hK.out _ _ HT2.out ?_
  clear hK K
  refine wpS_nil ?_
  go_simp
  have HO1 : OwnW w1 32 3 (.slice A N c) N (l.flatMap Ent.cells) := by have := HB.out.2.1; rw [HN.out] at this; exact this
  have HO2 : Hid (OwnW w2.drew 32 3 (.slice A N c) N (l.flatMap Ent.cells)) := Lib.hid (HO1.kept (HK2.out.drewN 1) (fun i hi e => HO1.ne_mapF HM.out (e ▸ hi)))
  clear HO1
  have HT3 : Hid ((fun W : World => W.cell? ⟨g, 0, none⟩ = some (.slice A N c) ∧ W.cell? ⟨g, 1, none⟩ = some (.map (some bm)) ∧ Blk W gx 32 #[.int .i64 e.at_, .int .i64 e.rank, .int .u64 e.what]) w2.drew) := Lib.hid ⟨HT2.out.1, HT2.out.2.1, HT2.out.2.2.drewN 1⟩
  have hm3 := HM2.out.drewN 1
  rw [HPN.out] at hm3
  have HM3 : Hid (MapF enc64 w2.drew bm (updF (posF l) e.what (some (.int .i64 N))) (N + 1)) := Lib.hid hm3
  have HK3 : Hid (Kept (fun i => i = bm) w1 w2.drew) := Lib.hid (HK2.out.drewN 1)
  have HB3 := Lib.hid (HB.out.1.kept HK3.out (Ne.symm hbg.out))
  have hgxx : g ≠ gx := fun e' => by have := HLIM.out g HQ.out.fg; omega
  clear hm3 HT2 HM2 HK2
  go_wp2
  refine wp_region_g (fun W : World => W.cell? ⟨g, 0, none⟩ = some (.slice A N c) ∧ W.cell? ⟨g, 1, none⟩ = some (.map (some bm)) ∧ Blk W gx 32 #[.int .i64 e.at_, .int .i64 e.rank, .int .u64 e.what]) [.take 0, .take 1, .take 2, .take 3, .take 4, .take 5, .one 6, .one 7, .take 8, .take 9, .one 10] (by kernel_rfl) (fun _ d _ _ _ h => by cases d <;> exact h) ?_
  simp only [List.map_cons, List.map_nil, RStep.node, nthOp_zero, nthOp_succ]
  generalize w2.drew = w3 at *
  refine wpG_take HT3 (by rfl) (by intro W hW; clear hW; go_simp; try with_reducible rfl) ?_
  refine wpG_take HT3 (by rfl) (by intro W hW; clear hW; go_simp; try with_reducible rfl) ?_
  refine wpG_take HT3 (by rfl) (by intro W hW; clear hW; go_simp; try with_reducible rfl) ?_
  refine wpG_take HT3 (by rfl) (by intro W hW; clear hW; go_simp; try with_reducible rfl) ?_
  refine wpG_take HT3 (by rfl) (by intro W hW; obtain ⟨c0, c1, hb⟩ := hW; have j0 := hb.cell 0; have j1 := hb.cell 1; have j2 := hb.cell 2; clear hb; simp at j0 j1 j2; go_simp; try with_reducible rfl) ?_
  refine wpG_take HT3 (by rfl) (by intro W hW; obtain ⟨c0, c1, hb⟩ := hW; have j0 := hb.cell 0; have j1 := hb.cell 1; have j2 := hb.cell 2; clear hb; simp at j0 j1 j2; go_simp; try with_reducible rfl) ?_
  go_simp
  refine wpG_do fun K hK => ?_
  go_wp2
  have hb4 : Hid (Below w3.heap.size w3 (w3.alloc (.cells #[.int .i64 e.at_, .int .i64 e.rank, .int .u64 e.what] 32)) ∧ Blk (w3.alloc (.cells #[.int .i64 e.at_, .int .i64 e.rank, .int .u64 e.what] 32)) w3.heap.size 32 #[.int .i64 e.at_, .int .i64 e.rank, .int .u64 e.what]) := Lib.hid ⟨(Below.refl _ _).alloc (Nat.le_refl _) _, Blk.new _ _ _⟩
  generalize w3.alloc (.cells #[.int .i64 e.at_, .int .i64 e.rank, .int .u64 e.what] 32) = w4 at *
  have HT4 : Hid ((fun W : World => W.cell? ⟨g, 0, none⟩ = some (.slice A N c) ∧ W.cell? ⟨g, 1, none⟩ = some (.map (some bm)) ∧ Blk W gx 32 #[.int .i64 e.at_, .int .i64 e.rank, .int .u64 e.what]) w4) := Lib.hid ⟨(hb4.out.1.cell (cell_lt HT3.out.1)).trans HT3.out.1, (hb4.out.1.cell (cell_lt HT3.out.2.1)).trans HT3.out.2.1, HT3.out.2.2.later hb4.out.1⟩
  have HO4 := Lib.hid (HO2.out.later hb4.out.1)
  have HM4 := Lib.hid (HM3.out.later hb4.out.1)
  have HB4 := Lib.hid (HB3.out.later hb4.out.1)
  have HR4 : Hid (Reads w4 w4.heap.size 3 (some ⟨w3.heap.size, 0, none⟩) 1 e.cells) := Lib.hid ⟨rfl, fun _ => ⟨_, rfl, hb4.out.2.lt, fun j u hu => by rw [add_none, Nat.zero_add, hb4.out.2.cell]; simpa [Ent.cells] using hu⟩⟩
  refine hK.out _ _ HT4.out ?_
  clear hK K HT3 HO2 HM3 HB3
  refine wpG_do fun K hK => ?_
  go_wp2_with (at_builtin; go_must (refine wpList_appW el_ent rfl (.tmp 22) (.tmp 24) rfl HO4.out rfl HR4.out rfl (ent_one e) (by simp only [maxLen]; omega) (by omega) ?_); intro v5 w5 ho5 hk5 hn5; have H5 := Lib.hid (And.intro ho5 (And.intro hk5 hn5)); clear ho5 hk5 hn5)
  have hgn : (Value.slice A N c).ownBlock ≠ some g := HO4.out.ne_blk HB4.out (by decide)
  have HB5 := HB4.out.kept H5.out.2.1 (fun e => hgn e)
  have c0 := HB5.cell 0
  have c1 := HB5.cell 1
  have f0 := HB5.frozen 0
  simp at c0 c1
  rw [HN.out] at c0
  have HBB := Lib.hid (And.intro HB5 hgn)
  clear HB5 hgn
  obtain ⟨A5, c5, hv, -⟩ := H5.out.1.shape
  subst hv
  have HX : Hid ((Value.slice A N c).ownBlock = some gx → False) := Lib.hid fun e' => by
    rcases HB.out.2.1.2 with ⟨h2, _⟩ | ⟨g', cap, cur, h2, h3, _⟩
    · injection h2 with h2; rw [h2] at e'; simp [Value.ownBlock] at e'
    · injection h2 with h2
      rw [h2] at e'
      have : g' = gx := by simpa [Value.ownBlock] using e'
      subst this
      have h5 := HB.out.2.2.1 g' (by rw [h2]; rfl)
      have h6 := HLIM.out _ h5
      omega
  refine hK.out _ _ ⟨c0, c1, HT4.out.2.2.kept H5.out.2.1 (fun e => HX.out e)⟩ ?_
  clear hK K
  have HT5 : Hid ((fun W : World => W.cell? ⟨g, 0, none⟩ = some (.slice A N c) ∧ W.cell? ⟨g, 1, none⟩ = some (.map (some bm)) ∧ Blk W gx 32 #[.int .i64 e.at_, .int .i64 e.rank, .int .u64 e.what]) w5) := Lib.hid ⟨c0, c1, HT4.out.2.2.kept H5.out.2.1 (fun e => HX.out e)⟩
  refine wpG_take HT5 (by rfl) (by intro W hW; clear hW; go_simp; try with_reducible rfl) ?_
  refine wpG_take HT5 (by rfl) (by intro W hW; clear hW; go_simp; try with_reducible rfl) ?_
  refine wpG_last fun K hK => ?_
  go_wp2
  refine hK.out _ _ ?_
  clear hK K
  go_wp2
  go_end0
  have k1 := kept_setC w5 g 0 (.slice A5 (N + 1) c5)
  have hF0 : ∀ i, (Value.slice A N c).ownBlock = some i → F i := fun i hi => HB.out.2.2.1 i (by rw [HN.out]; exact hi)
  have k15 : Kept F w1 (w5.setCell ⟨g, 0, none⟩ (.slice A5 (N + 1) c5)) :=
    (((HK3.out.trans (Kept.of_new hb4.out.1 (fun i => i = bm)) (fun _ _ e => e)).mono (T := F) (fun i _ e => e ▸ HQ.out.fb)).trans (H5.out.2.1.mono (T := F) (fun i _ e => hF0 i e)) (fun _ _ e => e)).trans (k1.mono (T := F) (fun i _ e => e ▸ HQ.out.fg)) (fun _ _ e => e)
  have hbw : Below w.heap.size w w1 := by rw [HGX.out]; exact HB.out.2.2.2
  have k05 : Kept F w (w5.setCell ⟨g, 0, none⟩ (.slice A5 (N + 1) c5)) := (Kept.of_new hbw F).trans k15 (fun _ _ e => e)
  have hsz1 := HB.out.2.2.2.size
  have hsz4 : w1.heap.size ≤ w4.heap.size := Nat.le_trans HK3.out.size hb4.out.1.size
  have hl1 : (l ++ [e]).length = N + 1 := by simp [HN.out]
  have hown5 : OwnW (w5.setCell ⟨g, 0, none⟩ (.slice A5 (N + 1) c5)) 32 3 (.slice A5 (N + 1) c5) (N + 1) ((l ++ [e]).flatMap Ent.cells) := by
    rw [List.flatMap_append]
    have := H5.out.1.kept k1 (fun i hi e => H5.out.1.ne_blk HBB.out.1 (by decide) (e ▸ hi))
    simpa using this
  refine ⟨rfl, fun i => F i ∨ (Value.slice A5 (N + 1) c5).ownBlock = some i, ⟨⟨.slice A5 (l ++ [e]).length c5, by rw [hl1]; exact HBB.out.1.set_ 0 _, by rw [hl1]; exact hown5, fun i hi => .inr (by rw [hl1] at hi; exact hi)⟩, ?_, .inl HQ.out.fg, .inl HQ.out.fb, ?_, HP.out.1, by rw [hl1]; omega, fun i hi => ?_⟩, ⟨fun i hi => .inl hi, fun i hi => ?_⟩, k05⟩
  · rw [hl1, ← HP.out.2, HN.out]
    exact (HM4.out.kept H5.out.2.1 (fun e => HO4.out.ne_mapF HM4.out e)).kept k1 hbg.out
  · intro x hx
    rcases List.mem_append.1 hx with hx | hx
    · exact HQ.out.ok x hx
    · simp only [List.mem_cons, List.not_mem_nil, or_false] at hx
      rw [hx]; exact HE.out
  · rcases hi with hi | hi
    · have := HLIM.out i hi
      have h2 := k05.size
      rw [HGX.out] at h2
      omega
    · exact hown5.lt hi
  · rcases hi with hi | hi
    · exact .inl hi
    · rcases H5.out.2.2 with h | ⟨j, h, hj⟩
      · rw [h] at hi; exact .inl (hF0 i hi)
      · rw [h] at hi
        injection hi with hi
        exact .inr (by omega)
end Go.Proofs.Ytgpgcjdbppehjaa
