/-
  The law QueuePlays, walked.
-/
import Derived.Test.YtgpgcjdbppehjaaQue31
import Derived.Test.YtgpgcjdbppehjaaQue32
import Derived.Test.YtgpgcjdbppehjaaQue26
namespace Go.Proofs.Ytgpgcjdbppehjaa
set_option linter.unusedVariables false
open Go.RowKit

theorem one_any (w wr : World) (F F2 : Nat → Prop) (g bm g2 : Nat) (most : Int) (l D : List Ent) (hp : PairH w wr F F2 g bm g2 most l D) (hm : ∀ e, e ∈ l ↔ e ∈ D) (h1 : 1 ≤ most) (h2 : most ≤ 1048576) (o : OpA) (hok : o.ok) :
    Calls Try.prog 17 #[.pointer (some ⟨g, 0, none⟩), .pointer (some ⟨g2, 0, none⟩), .agg #[.int .u8 o.d, .int .i64 o.a, .int .i64 o.r, .int .u64 o.x]] wr fun e w' => ∃ F' F2' l' D', e = .returned (.bool true) ∧ PStep w wr w' F F2 F' F2' g bm g2 most l' D' := by
  have h : o.d % 6 = 0 ∨ o.d % 6 = 1 ∨ o.d % 6 = 2 ∨ o.d % 6 = 3 ∨ o.d % 6 = 4 ∨ o.d % 6 = 5 := by omega
  rcases h with h | h | h | h | h | h
  · exact one_put0 w wr F F2 g bm g2 most l D hp hm h1 h2 o hok h
  · exact one_put1 w wr F F2 g bm g2 most l D hp hm h1 h2 o hok h
  · exact one_drop w wr F F2 g bm g2 most l D hp hm h1 h2 o hok h
  · exact one_next w wr F F2 g bm g2 most l D hp hm h1 h2 o hok h
  · exact one_take w wr F F2 g bm g2 most l D hp hm h1 h2 o hok h
  · exact one_when w wr F F2 g bm g2 most l D hp hm h1 h2 o hok h
theorem may_yes (m : Int) (w : World) (h1 : 1 ≤ m) (h2 : m ≤ 1048576) : Calls Try.prog 16 #[.int .i64 m] w fun e w' => e = .returned (.bool true) ∧ w = w' := by
  have d1 : decide (1 ≤ m) = true := decide_eq_true h1
  have d2 : decide (m ≤ 1048576) = true := decide_eq_true h2
  go_enter Try.func16, Try.ntmps16
  go_wp2
  go_ret
  exact ⟨rfl, rfl⟩
theorem may_no (m : Int) (w : World) (h : m < 1 ∨ 1048576 < m) : Calls Try.prog 16 #[.int .i64 m] w fun e w' => e = .returned (.bool false) ∧ w = w' := by
  by_cases h1 : 1 ≤ m
  · have d1 : decide (1 ≤ m) = true := decide_eq_true h1
    have d2 : decide (m ≤ 1048576) = false := decide_eq_false (by omega)
    go_enter Try.func16, Try.ntmps16
    go_wp2
    go_ret
    exact ⟨rfl, rfl⟩
  · have d1 : decide (1 ≤ m) = false := decide_eq_false h1
    go_enter Try.func16, Try.ntmps16
    go_wp2
    go_ret
    exact ⟨rfl, rfl⟩
def Op4At (w : World) (ad : Addr) (o : OpA) : Prop := w.cell? ad = some (.int .u8 o.d) ∧ w.cell? ⟨ad.block, ad.off + 1, none⟩ = some (.int .i64 o.a) ∧ w.cell? ⟨ad.block, ad.off + 2, none⟩ = some (.int .i64 o.r) ∧ w.cell? ⟨ad.block, ad.off + 3, none⟩ = some (.int .u64 o.x)
theorem OpRow.at4 {w : World} {A : Option Addr} {n i : Nat} {L : List OpA} (h : OpRow w A n L) (hi : i < n) : ∃ ad o, A = some ad ∧ L[i]? = some o ∧ o.ok ∧ Op4At w (ad.add (i * 4)) o := by
  obtain ⟨ad, o, e, hb, ho, h0, hj⟩ := rowG_at op_len h.row h.len hi
  exact ⟨ad, o, e, ho, h.ok o (List.mem_of_getElem? ho), h0 _ rfl, hj 1 _ (by decide) rfl, hj 2 _ (by decide) rfl, hj 3 _ (by decide) rfl⟩
theorem Op4At.later {w w' : World} {ad : Addr} {o : OpA} (h : Op4At w ad o) (hb : Below w.heap.size w w') : Op4At w' ad o :=
  ⟨(hb.cell (cell_lt h.1)).trans h.1, (hb.cell (cell_lt h.2.1)).trans h.2.1, (hb.cell (cell_lt h.2.2.1)).trans h.2.2.1, (hb.cell (cell_lt h.2.2.2)).trans h.2.2.2⟩
theorem RQ.len {w : World} {F : Nat → Prop} {g : Nat} {most : Int} {l : List Ent} (q : RQ w F g most l) : ∃ A c, w.cell? ⟨g, 0, none⟩ = some (.slice A l.length c) := by
  obtain ⟨kv, hB, hO, _⟩ := q.ex
  obtain ⟨A, c, rfl, -⟩ := hO.shape
  exact ⟨A, c, hB.cell 0⟩
/-- An empty list that is searched, new. -/
theorem RQ.new (w : World) (most : Int) : RQ (w.alloc (.cells #[.slice none 0 0, .int .i64 most] 48)) (fun i => i = w.heap.size) w.heap.size most [] :=
  ⟨⟨.slice none 0 0, Blk.new _ _ _, OwnW.nil _ _ _, fun i h => by simp [Value.ownBlock] at h⟩, rfl, by simp, fun i h => by rw [h, World.size_alloc]; omega⟩
theorem pair_new {w w1 : World} {g bm : Nat} {most : Int} (q : QF w1 (fun i => i = g ∨ i = bm) g bm most []) (hg : w.heap.size ≤ g) (hbm : w.heap.size ≤ bm) (hb : Below w.heap.size w w1) :
    PairH w (w1.alloc (.cells #[.slice none 0 0, .int .i64 most] 48)) (fun i => i = g ∨ i = bm) (fun i => i = w1.heap.size) g bm w1.heap.size most [] [] := by
  have hb2 : Below w1.heap.size w1 (w1.alloc (.cells #[.slice none 0 0, .int .i64 most] 48)) := (Below.refl _ _).alloc (Nat.le_refl _) _
  refine ⟨q.later hb2, QI.nil, RQ.new w1 most, fun i j a b h => by simp at h, fun i h h' => ?_, fun i h => ?_, fun i h => ?_, below_then hb hb2⟩
  · have := q.lim i h; omega
  · rcases h with rfl | rfl <;> omega
  · have := hb.size; omega
theorem PairH.keptAt {R F F2 : Nat → Prop} {w wr wr' : World} {g bm g2 : Nat} {most : Int} {l D : List Ent} (t : PairH w wr F F2 g bm g2 most l D) (k : Kept R wr wr') (h1 : ∀ i, R i → ¬ F i) (h2 : ∀ i, R i → ¬ F2 i) (h3 : ∀ i, R i → w.heap.size ≤ i) : PairH w wr' F F2 g bm g2 most l D :=
  ⟨t.q.kept k (fun i hi e => h1 i e hi), t.qi, t.r.kept k (fun i hi e => h2 i e hi), t.d, t.dis, t.hF, t.hF2, below_kept t.below k h3⟩
/-- The loop of calls. -/
structure PlI (w : World) (N g bm g2 : Nat) (most : Int) (i : Value) (wr : World) : Prop where
  ex : ∃ (j : Nat) (F F2 : Nat → Prop) (l D : List Ent), i = .int .i64 j ∧ j ≤ N ∧ Hid (PairH w wr F F2 g bm g2 most l D) ∧ Hid (∀ e, e ∈ l ↔ e ∈ D)
theorem PStep.pair {w wr wr' : World} {F F2 F' F2' : Nat → Prop} {g bm g2 : Nat} {most : Int} {l D : List Ent} (s : PStep w wr wr' F F2 F' F2' g bm g2 most l D) : PairH w wr' F' F2' g bm g2 most l D := s.h
theorem ownW_blk {w : World} {t : TypeId} {A : Option Addr} {n c : Nat} {xs : List Value} (h : OwnW w t 3 (.slice A n c) n xs) : ∀ ad, A = some ad → ∃ cur, ad = ⟨ad.block, 0, none⟩ ∧ Blk w ad.block t cur ∧ n * 3 ≤ cur.size := by
  intro ad hA
  rcases h.2 with ⟨h1, _⟩ | ⟨g, cap, cur, hv, hB, hnc, hcm, hcs, _⟩
  · injection h1 with h1; rw [hA] at h1; cases h1
  · injection hv with h1 h2 h3
    rw [hA] at h1
    injection h1 with h1
    subst h1
    exact ⟨cur, rfl, hB, Nat.le_trans (Nat.mul_le_mul_right 3 hnc) hcs⟩
theorem ownW_some {w : World} {t : TypeId} {A : Option Addr} {n c : Nat} {xs : List Value} (h : OwnW w t 3 (.slice A n c) n xs) (hn : 0 < n) : ∃ ad, A = some ad := by
  rcases h.2 with ⟨_, h1⟩ | ⟨g, cap, cur, hv, _⟩
  · omega
  · injection hv with h1; exact ⟨_, h1⟩
/-- The loop that clears what was handed out. -/
structure ZI (wz : World) (A : Option Addr) (N : Nat) (i : Value) (wr : World) : Prop where
  ex : ∃ k : Nat, i = .int .i64 k ∧ k ≤ N
  row : Hid (∀ ad, A = some ad → ∃ cur, ad = ⟨ad.block, 0, none⟩ ∧ Blk wr ad.block 32 cur ∧ N * 3 ≤ cur.size)
  kept : Hid (Kept (fun b => ∃ ad, A = some ad ∧ b = ad.block) wz wr)
/-- Both rows of both. -/
structure TwoRows (w1 w2 w3 : World) (l D : List Ent) (v v2 : Value) : Prop where
  ex : ∃ (L' : List Ent) (A A' : Option Addr) (c c' : Nat), v = .slice A l.length c ∧ v2 = .slice A' l.length c' ∧ L'.length = l.length ∧ Reads w3 w3.heap.size 3 A l.length (L'.flatMap Ent.cells) ∧ Reads w3 w3.heap.size 3 A' l.length (L'.flatMap Ent.cells)
theorem two_rows {w1 w2 w3 : World} {l D : List Ent} {v v2 : Value} (a : AllAt w1 w2 l v) (b : AllR w2 w3 D v2) (hl : Dist l) (hD : Dist D) (hm : ∀ e, e ∈ l ↔ e ∈ D) : TwoRows w1 w2 w3 l D v v2 := by
  obtain ⟨L, hs, ho⟩ := a.ex
  obtain ⟨L2, hs2, ho2⟩ := b.ex
  obtain rfl := sorted_eq hs hs2 hl hD hm
  rw [← same_len hl hD hm] at ho2
  obtain ⟨A, c, hv, -, -, hR, -⟩ := (ho.later b.bel).shape
  obtain ⟨A', c', hv', -, -, hR', -⟩ := ho2.shape
  exact ⟨L, A, A', c, c', hv, hv', hs.perm.length_eq, hR, hR'⟩
set_option maxRecDepth 100000 in
set_option maxHeartbeats 16000000 in
theorem queuePlays_main (m : Int) (A : Option Addr) (n c : Nat) (L : List OpA) (w : World) (h1 : 1 ≤ m) (h2 : m ≤ 1048576) (hn : n ≤ 300) (hL : OpRow w A n L) :
    Calls Try.prog 5 #[.int .i64 m, .slice A n c] w fun e w' => e = .returned (.bool true) ∧ Below w.heap.size w w' := by
  have d1 : decide ((300 : Int) < (n : Int)) = false := decide_eq_false (by omega)
  have HL := Lib.hid hL
  clear hL
  go_enter Try.func5, Try.ntmps5
  go_wp2_with fail
  refine (qnew_any m w h1 h2).mono ?_
  rintro e w1 ⟨g, bm, rfl, q1, hg, hbm, hb1⟩
  have T0 := Lib.hid (pair_new q1 hg hbm hb1)
  clear q1 hg hbm hb1
  go_wp2_with fail
  refine (may_yes m w1 h1 h2).mono ?_
  rintro e w' ⟨rfl, rfl⟩
  go_wp2_with fail
  generalize w1.heap.size = g2 at *
  generalize w1.alloc (.cells #[.slice none 0 0, .int .i64 m] 48) = w2 at *
  clear d1
  go_loopw [7] (PlI w n g bm g2 m) (fun t _ => n - (intOf t).toNat)
  case atStart => exact ⟨⟨0, _, _, [], [], rfl, Nat.zero_le _, T0, Lib.hid fun e => Iff.rfl⟩⟩
  case round =>
    clear T0
    obtain ⟨⟨j, F, F2, l, D, rfl, hjn, HT, HM⟩⟩ := hrel
    by_cases hlt : j < n
    · have hltI : (j : Int) < n := by omega
      obtain ⟨ad, oj, hA, hoj, hok, hat⟩ := (HL.out.later HT.out.below).at4 hlt
      subst hA
      have HOK := Lib.hid hok
      have HS : Hid ((fun W : World => Op4At W (ad.add (j * 4)) oj) wr.drew) := Lib.hid hat
      have HT3 : Hid (PairH w wr.drew F F2 g bm g2 m l D) := Lib.hid (HT.out.later (Below.refl _ _).drew)
      clear hoj hok hat HT
      go_wp2_with fail
      refine wp_region_t (fun W : World => Op4At W (ad.add (j * 4)) oj) (.take 0 (.take 1 (.take 2 (.take 3 (.take 4 (.take 5 (.one 6 (.take 7 (.take 8 (.take 9 (.take 11 (.take 12 (.take 13 (.fork 10 14 (.one 14 (.take 15 (.take 16 (.take 17 .nil)))) (.take 15 (.one 10 (.take 16 (.take 17 .nil)))))))))))))))))) (by kernel_rfl) (fun _ d _ _ _ h => by cases d <;> exact h) ?_
      simp only [TStep.node, nthOp_zero, nthOp_succ]
      generalize wr.drew = w3 at *
      refine wpT_take HS (by rfl) (by intro W hW; clear hW; go_simp; try with_reducible rfl) ?_
      refine wpT_take HS (by rfl) (by intro W hW; clear hW; go_simp; try with_reducible rfl) ?_
      refine wpT_take HS (by rfl) (by intro W hW; clear hW; go_simp; try with_reducible rfl) ?_
      refine wpT_take HS (by rfl) (by intro W hW; clear hW; go_simp; try with_reducible rfl) ?_
      refine wpT_take HS (by rfl) (by intro W hW; clear hW; go_simp; try with_reducible rfl) ?_
      refine wpT_take HS (by rfl) (by intro W hW; obtain ⟨a0, a1, a2, a3⟩ := hW; go_simp; try with_reducible rfl) ?_
      go_simp
      refine wpT_do fun K hK => ?_
      go_wp2_with fail
      refine (one_any w w3 F F2 g bm g2 m l D HT3.out HM.out h1 h2 oj HOK.out).mono ?_
      rintro e w4 ⟨F4, F5, l4, D4, rfl, s4⟩
      have HT4 := Lib.hid s4.h
      have HM4 := Lib.hid s4.m
      have HLn := Lib.hid (same_len s4.h.qi.dist s4.h.d s4.m)
      have HS4 : Hid ((fun W : World => Op4At W (ad.add (j * 4)) oj) w4) := Lib.hid (by
        obtain ⟨ad', o', hA', ho', _, hat'⟩ := (HL.out.later s4.h.below).at4 hlt
        injection hA' with hA'
        subst hA'
        obtain ⟨ad2, o2, hA2, ho2, _, hat2⟩ := (HL.out.later HT3.out.below).at4 hlt
        injection hA2 with hA2
        subst hA2
        rw [ho'] at ho2
        injection ho2 with ho2
        subst ho2
        have := HS.out
        have e0 := hat2.1.symm.trans this.1
        have e1 := hat2.2.1.symm.trans this.2.1
        have e2 := hat2.2.2.1.symm.trans this.2.2.1
        have e3 := hat2.2.2.2.symm.trans this.2.2.2
        simp only [Option.some.injEq, Value.int.injEq, true_and] at e0 e1 e2 e3
        obtain ⟨d0, a0, r0, x0⟩ := o'
        obtain ⟨d1, a1, r1, x1⟩ := oj
        simp only at e0 e1 e2 e3
        subst e0 e1 e2 e3
        exact hat')
      clear s4
      go_wp2_with fail
      refine hK.out _ _ HS4.out ?_
      clear hK K HS HT3 HM
      obtain ⟨A5, c5, hc5⟩ := HT4.out.r.len
      rw [← HLn.out] at hc5
      have HC5 := Lib.hid hc5
      have HLL := Lib.hid (qlen_any w4 F4 g bm m l4 HT4.out.q h1)
      clear hc5
      generalize l4.length = M at *
      refine wpT_take HS4 (by rfl) (by intro W hW; clear hW; go_simp; try with_reducible rfl) ?_
      refine wpT_take HS4 (by rfl) (by intro W hW; clear hW; go_simp; try with_reducible rfl) ?_
      refine wpT_take HS4 (by rfl) (by intro W hW; clear hW; go_simp; try with_reducible rfl) ?_
      refine wpT_take HS4 (by rfl) (by intro W hW; clear hW; go_simp; try with_reducible rfl) ?_
      refine wpT_take HS4 (by rfl) (by intro W hW; clear hW; go_simp; try with_reducible rfl) ?_
      refine wpT_take HS4 (by rfl) (by intro W hW; clear hW; go_simp; try with_reducible rfl) ?_
      go_simp
      refine wpT_fork (fun K hK => ?_) (fun K hK => ?_)
      · go_wp2_with fail
        refine HLL.out.mono ?_
        rintro e w' ⟨rfl, rfl⟩
        go_wp2_with fail
        refine hK.out _ _ HS4.out ?_
        clear hK K
        go_simp
        refine wpT_do fun K hK => ?_
        have c0 := HC5.out
        go_wp2_with fail
        refine hK.out _ _ HS4.out ?_
        clear hK K c0
        refine wpT_take HS4 (by rfl) (by intro W hW; clear hW; go_simp; try with_reducible rfl) ?_
        refine wpT_take HS4 (by rfl) (by intro W hW; clear hW; go_simp; try with_reducible rfl) ?_
        refine wpT_take HS4 (by rfl) (by intro W hW; clear hW; go_simp; try with_reducible rfl) ?_
        refine wpT_nil ?_
        go_simp
        go_wp2_with fail
        go_roundw
        case rel => exact ⟨⟨j + 1, F4, F5, l4, D4, by go_num, by omega, HT4, HM4⟩⟩
        case measure => simp [intOf]; omega
      · have c0 := HC5.out
        go_wp2_with fail
        refine hK.out _ _ HS4.out ?_
        clear hK K c0
        go_simp
        refine wpT_take HS4 (by rfl) (by intro W hW; clear hW; go_simp; try with_reducible rfl) ?_
        go_simp
        refine wpT_do fun K hK => ?_
        go_wp2_with fail
        refine HLL.out.mono ?_
        rintro e w' ⟨rfl, rfl⟩
        go_wp2_with fail
        refine hK.out _ _ HS4.out ?_
        clear hK K
        refine wpT_take HS4 (by rfl) (by intro W hW; clear hW; go_simp; try with_reducible rfl) ?_
        refine wpT_take HS4 (by rfl) (by intro W hW; clear hW; go_simp; try with_reducible rfl) ?_
        refine wpT_nil ?_
        go_simp
        go_wp2_with fail
        go_roundw
        case rel => exact ⟨⟨j + 1, F4, F5, l4, D4, by go_num, by omega, HT4, HM4⟩⟩
        case measure => simp [intOf]; omega
    · obtain rfl : j = n := by omega
      clear hlt hjn
      go_wp2_with fail
      refine (all_any wr F g bm m l HT.out.q h1).mono ?_
      rintro e w3 ⟨v, rfl, hA⟩
      have HA := Lib.hid hA
      have HT3 := Lib.hid (HT.out.later hA.bel)
      clear hA
      obtain ⟨Av, cv, hv⟩ : ∃ Av cv, v = .slice Av l.length cv := by
        obtain ⟨L', _, ho⟩ := HA.out.ex
        obtain ⟨Av, cv, hv, _⟩ := ho.shape
        exact ⟨Av, cv, hv⟩
      have HV := Lib.hid hv
      subst hv
      go_wp2_with fail
      refine (rall_any w3 F2 g2 m D HT3.out.r HT3.out.d).mono ?_
      rintro e w4 ⟨v2, rfl, hB⟩
      have HT4 := Lib.hid (HT3.out.later hB.bel)
      have HO4 : Hid (∃ xs, OwnW w4 32 3 (.slice Av l.length cv) l.length xs) := Lib.hid (by
        obtain ⟨L', _, ho⟩ := HA.out.ex
        exact ⟨_, ho.later hB.bel⟩)
      obtain ⟨L', A1, A2, c1, c2, hv1, rfl, hl', hr1, hr2⟩ := (two_rows HA.out hB HT3.out.qi.dist HT3.out.d HM.out).ex
      injection hv1 with hv1 _ hv2
      subst hv1 hv2
      have HB4 := Lib.hid (And.intro hl' (And.intro hr1 hr2))
      have HFE := Lib.hid HT4.out.q.few
      have HNE : Hid (∀ ad, Av = some ad → ¬ F ad.block ∧ ¬ F2 ad.block ∧ w.heap.size ≤ ad.block) := Lib.hid fun ad had => by
        obtain ⟨L0, _, ho⟩ := HA.out.ex
        obtain ⟨A0, c0, he, -, -, -, hown⟩ := ho.shape
        injection he with he1 _ he2
        subst he1 he2
        have h9 := HA.out.base ad.block (hown ad had).1
        exact ⟨fun h => by have := HT.out.q.lim _ h; omega, fun h => by have := HT.out.r.lim _ h; omega, Nat.le_trans HT.out.below.size h9⟩
      clear hB hr1 hr2 hl' HV HA HT3 HT
      go_wp2_with fail
      refine (same_true Av A2 l.length cv c2 L' w4 HB4.out.1 HFE.out HB4.out.2.1 HB4.out.2.2).mono ?_
      rintro e w5 ⟨rfl, hb5⟩
      have HT5 := Lib.hid (HT4.out.later hb5)
      have HO5 : Hid (∃ xs, OwnW w5 32 3 (.slice Av l.length cv) l.length xs) := Lib.hid (by
        obtain ⟨xs, ho⟩ := HO4.out
        exact ⟨_, ho.later hb5⟩)
      clear hb5 HT4 HO4 HB4
      obtain ⟨N, hN⟩ : ∃ N, l.length = N := ⟨_, rfl⟩
      rw [hN] at HO5 HFE
      have hNf := HFE.out
      rw [hN]
      clear hN
      go_wp2_with fail
      go_loopw [9] (ZI w5 Av N) (fun t _ => N - (intOf t).toNat)
      case atStart => exact ⟨⟨0, rfl, Nat.zero_le _⟩, Lib.hid (by obtain ⟨xs, ho⟩ := HO5.out; exact ownW_blk ho), Lib.hid (Kept.refl _ _)⟩
      case round =>
        obtain ⟨⟨k, rfl, hk⟩, HRW, HKP⟩ := hrel
        by_cases hlt : k < N
        · have hltI : (k : Int) < N := by omega
          obtain ⟨ad, hA⟩ : ∃ ad, Av = some ad := by obtain ⟨xs, ho⟩ := HO5.out; exact ownW_some ho (by omega)
          subst hA
          obtain ⟨cur, hadd, hBk, hcs⟩ := HRW.out ad rfl
          have hq0 : k * 3 < cur.size := by omega
          have hq1 : k * 3 + 1 < cur.size := by omega
          have hq2 : k * 3 + 2 < cur.size := by omega
          obtain ⟨u0, e0⟩ : ∃ u, wr.cell? ⟨ad.block, k * 3, none⟩ = some u := ⟨cur[k * 3], by rw [hBk.cell]; exact Array.getElem?_eq_getElem hq0⟩
          obtain ⟨u1, e1⟩ : ∃ u, wr.cell? ⟨ad.block, k * 3 + 1, none⟩ = some u := ⟨cur[k * 3 + 1], by rw [hBk.cell]; exact Array.getElem?_eq_getElem hq1⟩
          obtain ⟨u2, e2⟩ : ∃ u, wr.cell? ⟨ad.block, k * 3 + 2, none⟩ = some u := ⟨cur[k * 3 + 2], by rw [hBk.cell]; exact Array.getElem?_eq_getElem hq2⟩
          have f0 := hBk.frozen (k * 3)
          have f1 := hBk.frozen (k * 3 + 1)
          have f2 := hBk.frozen (k * 3 + 2)
          have HBk := Lib.hid hBk
          have HCs := Lib.hid hcs
          generalize ad.block = ga at *
          subst hadd
          clear hBk hcs hq0 hq1 hq2
          go_wp2_with fail
          go_roundw
          case rel =>
            refine ⟨⟨k + 1, by go_num, by omega⟩, Lib.hid fun ad' had' => ?_, Lib.hid ?_⟩
            · injection had' with had'
              subst had'
              exact ⟨_, rfl, ((HBk.out.set_ (k * 3) _).set_ (k * 3 + 1) _).set_ (k * 3 + 2) _, by simpa using HCs.out⟩
            · exact HKP.out.trans ((kept_set3 wr ga _ _ _ _ _ _).mono fun i _ e => ⟨_, rfl, e⟩) (fun _ _ e => e)
          case measure => simp [intOf]; omega
        · have dk : decide ((k : Int) < N) = false := decide_eq_false (by omega)
          have HT6 : Hid (PairH w wr F F2 g bm g2 m l D) := Lib.hid (HT5.out.keptAt HKP.out (fun i ⟨ad, h1, h2⟩ => h2 ▸ (HNE.out ad h1).1) (fun i ⟨ad, h1, h2⟩ => h2 ▸ (HNE.out ad h1).2.1) (fun i ⟨ad, h1, h2⟩ => h2 ▸ (HNE.out ad h1).2.2))
          clear HT5 HO5 HRW HKP HNE
          go_wp2_with fail
          refine (all_any wr F g bm m l HT6.out.q h1).mono ?_
          rintro e w3 ⟨v, rfl, hA⟩
          have HA := Lib.hid hA
          have HT3 := Lib.hid (HT6.out.later hA.bel)
          clear hA
          go_wp2_with fail
          refine (rall_any w3 F2 g2 m D HT3.out.r HT3.out.d).mono ?_
          rintro e w4 ⟨v2, rfl, hB⟩
          have HT4 := Lib.hid (HT3.out.later hB.bel)
          obtain ⟨L', A1, A2, c1, c2, rfl, rfl, hl', hr1, hr2⟩ := (two_rows HA.out hB HT3.out.qi.dist HT3.out.d HM.out).ex
          have HB4 := Lib.hid (And.intro hl' (And.intro hr1 hr2))
          have HFE2 := Lib.hid HT4.out.q.few
          clear hB hr1 hr2 hl' HA HT3 HT6
          go_wp2_with fail
          refine (same_true A1 A2 l.length c1 c2 L' w4 HB4.out.1 HFE2.out HB4.out.2.1 HB4.out.2.2).mono ?_
          rintro e w5 ⟨rfl, hb5⟩
          have HB5 := Lib.hid (below_then HT4.out.below hb5)
          clear hb5 HT4 HB4
          go_wp2_with fail
          refine (lives_any w5).mono ?_
          rintro e w9 ⟨rfl, hb9⟩
          have HB := Lib.hid (below_then HB5.out hb9)
          clear hb9
          go_wp2_with fail
          go_ret
          exact ⟨rfl, HB.out⟩
end Go.Proofs.Ytgpgcjdbppehjaa
