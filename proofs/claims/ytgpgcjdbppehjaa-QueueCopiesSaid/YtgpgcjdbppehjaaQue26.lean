/-
  The law QueueGone, walked.
-/
import Derived.Test.YtgpgcjdbppehjaaQue25
import Derived.Laws.BitsAllLaws
namespace Go.Proofs.Ytgpgcjdbppehjaa
set_option linter.unusedVariables false
open Go.RowKit

theorem or_one {x : Int} (h : 0 ≤ x ∧ x ≤ 18446744073709551615) : bits .or .u64 x 1 = 2 * (x / 2) + 1 := by
  obtain ⟨X, rfl⟩ := Int.eq_ofNat_of_zero_le h.1
  have h1 := u64_or_nat X 1 (by omega) (by omega)
  have h2 : X ||| 1 = 2 * (X / 2) + 1 := by
    have a := Nat.or_div_two (a := X) (b := 1)
    have b := (Nat.or_mod_two_eq_one (a := X) (b := 1)).2 (.inr rfl)
    simp at a
    omega
  rw [h2] at h1
  have h3 : ((1 : Nat) : Int) = 1 := rfl
  rw [h3] at h1
  rw [h1]
  omega
structure G3 (wz : World) (n : Nat) (i : Value) (wr : World) : Prop where
  ex : ∃ j : Nat, i = .int .i64 j ∧ j ≤ n
  below : Hid (Below wz.heap.size wz wr)
def Ent2 (W : World) (ad ad' : Addr) (o : Ent) : Prop := (W.cell? ad = some (.int .i64 o.at_) ∧ W.cell? ⟨ad.block, ad.off + 1, none⟩ = some (.int .i64 o.rank) ∧ W.cell? ⟨ad.block, ad.off + 2, none⟩ = some (.int .u64 o.what)) ∧
  (W.cell? ad' = some (.int .i64 o.at_) ∧ W.cell? ⟨ad'.block, ad'.off + 1, none⟩ = some (.int .i64 o.rank) ∧ W.cell? ⟨ad'.block, ad'.off + 2, none⟩ = some (.int .u64 o.what))
theorem exec_neq_self {o : Oper} {st : Act} {W : World} (x y : Operand) (t : TypeId) (ho : o.op = .binOp .neq 32 x y t) (e : Ent)
    (hx : st.eval x = .agg #[.int .i64 e.at_, .int .i64 e.rank, .int .u64 e.what]) (hy : st.eval y = .agg #[.int .i64 e.at_, .int .i64 e.rank, .int .u64 e.what]) : (execOp st.eval o).run Try.prog W = .ok (.value (.bool false)) W := by
  unfold execOp
  simp only [ho]
  rw [hx, hy]
  simp [Sem.run_bind, Sem.run_pure, ent_guard, ent_neq_self, Result.andThen_ok]
theorem GoneI.same {lg : List OpA} {lo hi : Nat} {lq lr lq' : List Ent} (h : GoneI lg lo hi lq lr) (hm : ∀ e, e ∈ lq' ↔ e ∈ lq) : GoneI lg lo hi lq' lr :=
  ⟨h.ev, fun e he => by rw [hm]; exact h.mem e he, fun e he => h.odd e ((hm e).1 he)⟩
structure G1 (w : World) (n : Nat) (Lg : List OpA) (g bm g2 bm2 : Nat) (i : Value) (wr : World) : Prop where
  ex : ∃ (j : Nat) (F F2 : Nat → Prop) (lq lr : List Ent), i = .int .i64 j ∧ j ≤ n ∧ Hid (Two w wr F F2 g bm g2 bm2 lq lr) ∧ Hid (GoneI Lg 0 (min j Lg.length) lq lr) ∧ Hid (lq.length ≤ 2 * j ∧ lr.length ≤ j)
structure G2 (w : World) (Lg : List OpA) (hi : Nat) (F F2 : Nat → Prop) (g bm g2 bm2 : Nat) (lr : List Ent) (i : Value) (wr : World) : Prop where
  ex : ∃ (j : Nat) (lq : List Ent), i = .int .i64 j ∧ j ≤ Lg.length ∧ Hid (Two w wr F F2 g bm g2 bm2 lq lr) ∧ Hid (GoneI Lg j hi lq lr)
set_option maxRecDepth 100000 in
set_option maxHeartbeats 16000000 in
theorem queueGone_main (A A2 : Option Addr) (n c n2 c2 : Nat) (L Lg : List OpA) (w : World) (hn : n + n2 ≤ 200) (hL : OpRow w A n L) (hG : OpRow w A2 n2 Lg) :
    Calls Try.prog 4 #[.slice A n c, .slice A2 n2 c2] w fun e w' => e = .returned (.bool true) ∧ Below w.heap.size w w' := by
  have d1 : decide ((200 : Int) < (n : Int) + n2) = false := decide_eq_false (by omega)
  have dw : IntKind.i64.wrap ((n : Int) + n2) = n + n2 := by rw [IntKind.wrap_i64]; omega
  have HL := Lib.hid hL
  have HG := Lib.hid hG
  clear hL hG
  go_enter Try.func4, Try.ntmps4
  go_wp2_with fail
  refine (qnew_any 1048576 w (by omega) (by omega)).mono ?_
  rintro e w1 ⟨g, bm, rfl, q1, hg, hbm, hb1⟩
  have H1 := Lib.hid (And.intro q1 (And.intro hg (And.intro hbm hb1)))
  clear q1 hg hbm hb1
  go_wp2_with fail
  refine (qnew_any 1048576 w1 (by omega) (by omega)).mono ?_
  rintro e w2 ⟨g2, bm2, rfl, q2, hg2, hbm2, hb2⟩
  have T0 : Hid (Two w w2 (fun i => i = g ∨ i = bm) (fun i => i = g2 ∨ i = bm2) g bm g2 bm2 [] []) := by
    have e1 := H1.out.1.lim g (.inl rfl)
    have e2 := H1.out.1.lim bm (.inr rfl)
    have e3 := H1.out.2.2.2.size
    have e4 := H1.out.2.1
    have e5 := H1.out.2.2.1
    refine Lib.hid ⟨H1.out.1.later hb2, q2, QI.nil, QI.nil, fun i h h' => ?_, fun i h => ?_, fun i h => ?_, below_then H1.out.2.2.2 hb2⟩
    · rcases h with rfl | rfl <;> rcases h' with h' | h' <;> omega
    · rcases h with rfl | rfl <;> omega
    · rcases h with rfl | rfl <;> omega
  clear q2 hg2 hbm2 hb2
  go_wp2_with fail
  clear d1 dw
  go_loopw [7] (G1 w n Lg g bm g2 bm2) (fun t _ => n - (intOf t).toNat)
  case atStart => exact ⟨⟨0, _, _, [], [], rfl, Nat.zero_le _, T0, Lib.hid (by rw [Nat.zero_min]; exact GoneI.nil Lg), Lib.hid ⟨Nat.zero_le _, Nat.zero_le _⟩⟩⟩
  case round =>
    clear T0
    obtain ⟨⟨j, F, F2, lq, lr, rfl, hjn, HT, HM, HLn⟩⟩ := hrel
    by_cases hlt : j < n
    · have hltI : (j : Int) < n := by omega
      obtain ⟨ad, oj, hA, hoj, hok, hat⟩ := (HL.out.later HT.out.below).at_ hlt
      subst hA
      have HJ := Lib.hid (And.intro hoj (And.intro hok hat))
      clear hoj hok hat
      have HS : Hid ((fun W : World => OpAt W (ad.add (j * 4)) oj) wr.drew) := Lib.hid HJ.out.2.2
      have HT3 : Hid (Two w wr.drew F F2 g bm g2 bm2 lq lr) := Lib.hid (HT.out.later (Below.refl _ _).drew)
      have hx := HJ.out.2.1.x
      have hwx : IntKind.u64.wrap (2 * (oj.x / 2)) = 2 * (oj.x / 2) := by simp [IntKind.wrap, IntKind.bits, IntKind.signed]; omega
      go_wp2_with fail
      refine wp_region_s (fun W : World => OpAt W (ad.add (j * 4)) oj) [(0, true), (1, true), (2, true), (3, true), (4, true), (6, true), (7, true), (8, true), (9, true), (11, true), (12, true), (13, true), (14, true), (5, true), (10, true), (15, true), (16, true), (17, true), (18, false)] (by kernel_rfl) (fun _ d _ _ _ h => by cases d <;> exact h) ?_
      simp only [List.map_cons, List.map_nil, nthOp_zero, nthOp_succ]
      generalize wr.drew = w3 at *
      refine wpS_take HS (by rfl) (by intro W hW; clear hW; go_simp; try with_reducible rfl) ?_
      refine wpS_take HS (by rfl) (by intro W hW; clear hW; go_simp; try with_reducible rfl) ?_
      refine wpS_take HS (by rfl) (by intro W hW; clear hW; go_simp; try with_reducible rfl) ?_
      refine wpS_take HS (by rfl) (by intro W hW; clear hW; go_simp; try with_reducible rfl) ?_
      refine wpS_take HS (by rfl) (by intro W hW; clear hW; go_simp; try with_reducible rfl) ?_
      refine wpS_take HS (by rfl) (by intro W hW; clear hW; go_simp; try with_reducible rfl) ?_
      go_simp
      refine wpS_take HS (by rfl) (by intro W hW; clear hW; go_simp; try with_reducible rfl) ?_
      refine wpS_take HS (by rfl) (by intro W hW; clear hW; go_simp; try with_reducible rfl) ?_
      refine wpS_take HS (by rfl) (by intro W hW; clear hW; go_simp; try with_reducible rfl) ?_
      refine wpS_take HS (by rfl) (by intro W hW; clear hW; go_simp; try with_reducible rfl) ?_
      refine wpS_take HS (by rfl) (by intro W hW; clear hW; go_simp; try with_reducible rfl) ?_
      refine wpS_take HS (by rfl) (by intro W hW; clear hW; go_simp; try with_reducible rfl) ?_
      go_simp
      refine wpS_take HS (by rfl) (by intro W hW; clear hW; go_simp; try with_reducible rfl) ?_
      refine wpS_take HS (by rfl) (by intro W hW; obtain ⟨c1, c2, c3⟩ := hW; go_simp; try with_reducible rfl) ?_
      refine wpS_take HS (by rfl) (by intro W hW; obtain ⟨c1, c2, c3⟩ := hW; go_simp; try with_reducible rfl) ?_
      refine wpS_take HS (by rfl) (by intro W hW; obtain ⟨c1, c2, c3⟩ := hW; go_simp; try with_reducible rfl) ?_
      refine wpS_take HS (by rfl) (by intro W hW; clear hW; go_simp; try with_reducible rfl) ?_
      refine wpS_take HS (by rfl) (by intro W hW; clear hW; go_simp; try with_reducible rfl) ?_
      go_simp
      refine wpS_do fun K hK => ?_
      go_wp2_with fail
      refine (put_all w3 F g bm 1048576 lq HT3.out.q HT3.out.qi (by omega) (by omega) oj.a oj.r (2 * (oj.x / 2)) ⟨HJ.out.2.1.a, HJ.out.2.1.r, by show 0 ≤ 2 * (oj.x / 2) ∧ 2 * (oj.x / 2) ≤ 18446744073709551615; omega⟩).mono ?_
      rintro e w4 ⟨F4, l4, b, rfl, q4, i4, g4, k4, p4⟩
      have hb : b = true := p4.iff.2 (.inr (by have := HLn.out.1; omega))
      subst hb
      have H4 : Hid (Two w w4 F4 F2 g bm g2 bm2 l4 lr) := Lib.hid (HT3.out.stepq q4 i4 g4 k4)
      have P4 := Lib.hid p4
      have HS4 : Hid ((fun W : World => OpAt W (ad.add (j * 4)) oj) w4) := Lib.hid ((HL.out.later H4.out.below).at2 HJ.out.1 rfl)
      clear q4 i4 g4 k4 p4
      go_wp2_with fail
      refine hK.out _ _ HS4.out ?_
      clear hK K
      refine wpS_nil ?_
      go_simp
      have HS5 : Hid ((fun W : World => OpAt W (ad.add (j * 4)) oj) w4.drew) := HS4
      have HT5 : Hid (Two w w4.drew F4 F2 g bm g2 bm2 l4 lr) := Lib.hid (H4.out.later (Below.refl _ _).drew)
      clear HS HT3
      go_wp2_with fail
      refine wp_region_s (fun W : World => OpAt W (ad.add (j * 4)) oj) [(0, true), (1, true), (2, true), (3, true), (4, true), (6, true), (7, true), (8, true), (9, true), (11, true), (12, true), (13, true), (14, true), (5, true), (10, true), (15, true), (16, true), (17, true), (18, false)] (by kernel_rfl) (fun _ d _ _ _ h => by cases d <;> exact h) ?_
      simp only [List.map_cons, List.map_nil, nthOp_zero, nthOp_succ]
      generalize w4.drew = w5 at *
      refine wpS_take HS5 (by rfl) (by intro W hW; clear hW; go_simp; try with_reducible rfl) ?_
      refine wpS_take HS5 (by rfl) (by intro W hW; clear hW; go_simp; try with_reducible rfl) ?_
      refine wpS_take HS5 (by rfl) (by intro W hW; clear hW; go_simp; try with_reducible rfl) ?_
      refine wpS_take HS5 (by rfl) (by intro W hW; clear hW; go_simp; try with_reducible rfl) ?_
      refine wpS_take HS5 (by rfl) (by intro W hW; clear hW; go_simp; try with_reducible rfl) ?_
      refine wpS_take HS5 (by rfl) (by intro W hW; clear hW; go_simp; try with_reducible rfl) ?_
      go_simp
      refine wpS_take HS5 (by rfl) (by intro W hW; clear hW; go_simp; try with_reducible rfl) ?_
      refine wpS_take HS5 (by rfl) (by intro W hW; clear hW; go_simp; try with_reducible rfl) ?_
      refine wpS_take HS5 (by rfl) (by intro W hW; clear hW; go_simp; try with_reducible rfl) ?_
      refine wpS_take HS5 (by rfl) (by intro W hW; clear hW; go_simp; try with_reducible rfl) ?_
      refine wpS_take HS5 (by rfl) (by intro W hW; clear hW; go_simp; try with_reducible rfl) ?_
      refine wpS_take HS5 (by rfl) (by intro W hW; clear hW; go_simp; try with_reducible rfl) ?_
      go_simp
      refine wpS_take HS5 (by rfl) (by intro W hW; clear hW; go_simp; try with_reducible rfl) ?_
      refine wpS_take HS5 (by rfl) (by intro W hW; obtain ⟨c1, c2, c3⟩ := hW; go_simp; try with_reducible rfl) ?_
      refine wpS_take HS5 (by rfl) (by intro W hW; obtain ⟨c1, c2, c3⟩ := hW; go_simp; try with_reducible rfl) ?_
      refine wpS_take HS5 (by rfl) (by intro W hW; obtain ⟨c1, c2, c3⟩ := hW; go_simp; try with_reducible rfl) ?_
      refine wpS_take HS5 (by rfl) (by intro W hW; clear hW; go_simp; try with_reducible rfl) ?_
      refine wpS_take HS5 (by rfl) (by intro W hW; clear hW; go_simp; try with_reducible rfl) ?_
      go_simp
      refine wpS_do fun K hK => ?_
      go_wp2_with fail
      refine (put_all w5 F2 g2 bm2 1048576 lr HT5.out.r HT5.out.ri (by omega) (by omega) oj.a oj.r (2 * (oj.x / 2)) ⟨HJ.out.2.1.a, HJ.out.2.1.r, by show 0 ≤ 2 * (oj.x / 2) ∧ 2 * (oj.x / 2) ≤ 18446744073709551615; omega⟩).mono ?_
      rintro e w6 ⟨F6, l6, b, rfl, q6, i6, g6, k6, p6⟩
      have hb : b = true := p6.iff.2 (.inr (by have := HLn.out.2; omega))
      subst hb
      have H6 : Hid (Two w w6 F4 F6 g bm g2 bm2 l4 l6) := Lib.hid (HT5.out.stepr q6 i6 g6 k6)
      have P6 := Lib.hid p6
      have HS6 : Hid ((fun W : World => OpAt W (ad.add (j * 4)) oj) w6) := Lib.hid ((HL.out.later H6.out.below).at2 HJ.out.1 rfl)
      clear q6 i6 g6 k6 p6
      go_wp2_with fail
      refine hK.out _ _ HS6.out ?_
      clear hK K
      refine wpS_nil ?_
      go_simp
      have HM6 : Hid (GoneI Lg 0 (min j Lg.length) l4 l6) := Lib.hid (HM.out.even (by omega) P4.out P6.out rfl rfl)
      have HN6 : Hid (l4.length ≤ 2 * j + 1 ∧ l6.length ≤ j + 1) := Lib.hid ⟨by have := P4.out.len; have := HLn.out.1; omega, by have := P6.out.len; have := HLn.out.2; omega⟩
      have HGl : Lg.length = n2 := HG.out.len
      clear HM HLn HT HS4 HS5 HT5 H4 P4 P6
      by_cases hg : j < n2
      · have hgI : (j : Int) < n2 := by omega
        obtain ⟨ad2, og, hA2, hog, hokg, hatg⟩ := (HG.out.later H6.out.below).at_ hg
        subst hA2
        have HJ2 := Lib.hid (And.intro hog (And.intro hokg hatg))
        have hxg := hokg.x
        have HS7 : Hid ((fun W : World => OpAt W (ad2.add (j * 4)) og) w6.drew) := Lib.hid hatg
        have HT7 : Hid (Two w w6.drew F4 F6 g bm g2 bm2 l4 l6) := Lib.hid (H6.out.later (Below.refl _ _).drew)
        clear hog hokg hatg
        go_wp2_with fail
        refine wp_region_s (fun W : World => OpAt W (ad2.add (j * 4)) og) [(0, true), (1, true), (2, true), (3, true), (4, true), (6, true), (7, true), (8, true), (9, true), (11, true), (12, true), (13, true), (14, true), (5, true), (10, true), (15, true), (16, true), (17, false)] (by kernel_rfl) (fun _ d _ _ _ h => by cases d <;> exact h) ?_
        simp only [List.map_cons, List.map_nil, nthOp_zero, nthOp_succ]
        generalize w6.drew = w7 at *
        refine wpS_take HS7 (by rfl) (by intro W hW; clear hW; go_simp; try with_reducible rfl) ?_
        refine wpS_take HS7 (by rfl) (by intro W hW; clear hW; go_simp; try with_reducible rfl) ?_
        refine wpS_take HS7 (by rfl) (by intro W hW; clear hW; go_simp; try with_reducible rfl) ?_
        refine wpS_take HS7 (by rfl) (by intro W hW; clear hW; go_simp; try with_reducible rfl) ?_
        refine wpS_take HS7 (by rfl) (by intro W hW; clear hW; go_simp; try with_reducible rfl) ?_
        refine wpS_take HS7 (by rfl) (by intro W hW; clear hW; go_simp; try with_reducible rfl) ?_
        go_simp
        refine wpS_take HS7 (by rfl) (by intro W hW; clear hW; go_simp; try with_reducible rfl) ?_
        refine wpS_take HS7 (by rfl) (by intro W hW; clear hW; go_simp; try with_reducible rfl) ?_
        refine wpS_take HS7 (by rfl) (by intro W hW; clear hW; go_simp; try with_reducible rfl) ?_
        refine wpS_take HS7 (by rfl) (by intro W hW; clear hW; go_simp; try with_reducible rfl) ?_
        refine wpS_take HS7 (by rfl) (by intro W hW; clear hW; go_simp; try with_reducible rfl) ?_
        refine wpS_take HS7 (by rfl) (by intro W hW; clear hW; go_simp; try with_reducible rfl) ?_
        go_simp
        refine wpS_take HS7 (by rfl) (by intro W hW; clear hW; go_simp; try with_reducible rfl) ?_
        refine wpS_take HS7 (by rfl) (by intro W hW; obtain ⟨c1, c2, c3⟩ := hW; go_simp; try with_reducible rfl) ?_
        refine wpS_take HS7 (by rfl) (by intro W hW; obtain ⟨c1, c2, c3⟩ := hW; go_simp; try with_reducible rfl) ?_
        refine wpS_take HS7 (by rfl) (by intro W hW; obtain ⟨c1, c2, c3⟩ := hW; go_simp; try with_reducible rfl) ?_
        refine wpS_take HS7 (by rfl) (by intro W hW; clear hW; go_simp; try with_reducible rfl) ?_
        go_simp
        rw [or_one hxg]
        refine wpS_do fun K hK => ?_
        go_wp2_with fail
        refine (put_all w7 F4 g bm 1048576 l4 HT7.out.q HT7.out.qi (by omega) (by omega) og.a og.r (2 * (og.x / 2) + 1) ⟨HJ2.out.2.1.a, HJ2.out.2.1.r, by show 0 ≤ 2 * (og.x / 2) + 1 ∧ 2 * (og.x / 2) + 1 ≤ 18446744073709551615; omega⟩).mono ?_
        rintro e w8 ⟨F8, l8, b, rfl, q8, i8, g8, k8, p8⟩
        have hb : b = true := p8.iff.2 (.inr (by have := HN6.out.1; omega))
        subst hb
        have H8 : Hid (Two w w8 F8 F6 g bm g2 bm2 l8 l6) := Lib.hid (HT7.out.stepq q8 i8 g8 k8)
        have P8 := Lib.hid p8
        have HS8 : Hid ((fun W : World => OpAt W (ad2.add (j * 4)) og) w8) := Lib.hid ((HG.out.later H8.out.below).at2 HJ2.out.1 rfl)
        clear q8 i8 g8 k8 p8
        go_wp2_with fail
        refine hK.out _ _ HS8.out ?_
        clear hK K
        refine wpS_nil ?_
        go_simp
        have HM8 : Hid (GoneI Lg 0 (min (j + 1) Lg.length) l8 l6) := Lib.hid (by
          rw [show min (j + 1) Lg.length = min j Lg.length + 1 by omega]
          exact HM6.out.put (by rw [show min j Lg.length = j by omega]; exact HJ2.out.1) P8.out rfl)
        have HN8 : Hid (l8.length ≤ 2 * (j + 1) ∧ l6.length ≤ j + 1) := Lib.hid ⟨by have := P8.out.len; have := HN6.out.1; omega, HN6.out.2⟩
        clear HM6 HN6 P8 HS8 HS7 HT7 H6
        go_wp2_with fail
        go_roundw
        case rel => exact ⟨⟨j + 1, F8, F6, l8, l6, by go_num, by omega, H8, HM8, HN8⟩⟩
        case measure => simp [intOf]; omega
      · have hgI : decide ((j : Int) < n2) = false := decide_eq_false (by omega)
        go_wp2_with fail
        go_roundw
        case rel => exact ⟨⟨j + 1, F4, F6, l4, l6, by go_num, by omega, H6, Lib.hid (by rw [show min (j + 1) Lg.length = min j Lg.length by omega]; exact HM6.out), Lib.hid ⟨by have := HN6.out.1; omega, HN6.out.2⟩⟩⟩
        case measure => simp [intOf]; omega
    · obtain rfl : j = n := by omega
      clear hlt hjn
      have HGl : Lg.length = n2 := HG.out.len
      obtain ⟨hi, HM2⟩ : ∃ hi, Hid (GoneI Lg 0 hi lq lr) := ⟨_, HM⟩
      clear HM HLn
      go_wp2_with fail
      go_loopw [8] (G2 w Lg hi F F2 g bm g2 bm2 lr) (fun t _ => n2 - (intOf t).toNat)
      case atStart => exact ⟨⟨0, lq, rfl, Nat.zero_le _, HT, HM2⟩⟩
      case round =>
        clear HT HM2 lq
        obtain ⟨⟨i, lq, rfl, hi2, HT, HM⟩⟩ := hrel
        by_cases hlt : i < n2
        · have hltI : (i : Int) < n2 := by omega
          obtain ⟨ad2, og, hA2, hog, hokg, hatg⟩ := (HG.out.later HT.out.below).at_ hlt
          subst hA2
          have c3 := hatg.2.2
          have hor := or_one hokg.x
          have HJ2 := Lib.hid (And.intro hog (And.intro hokg hatg))
          clear hog hokg hatg
          go_wp2_with fail
          refine (drop_all wr F g bm 1048576 lq HT.out.q HT.out.qi (by omega) (2 * (og.x / 2) + 1)).mono ?_
          rintro e w4 ⟨l4, b, rfl, q4, i4, k4, p4⟩
          have H4 : Hid (Two w w4 F F2 g bm g2 bm2 l4 lr) := Lib.hid (HT.out.stepq q4 i4 (Grew.refl _ _) k4)
          have P4 := Lib.hid p4
          clear c3 q4 i4 k4 p4
          have c3 := ((HG.out.later H4.out.below).at2 HJ2.out.1 rfl).2.2
          go_wp2_with fail
          refine (drop_all w4 F g bm 1048576 l4 H4.out.q H4.out.qi (by omega) (2 * (og.x / 2) + 1)).mono ?_
          rintro e w5 ⟨l5, b2, rfl, q5, i5, k5, p5⟩
          have H5 : Hid (Two w w5 F F2 g bm g2 bm2 l5 lr) := Lib.hid (H4.out.stepq q5 i5 (Grew.refl _ _) k5)
          obtain ⟨hb2, hm5⟩ := drop_twice P4.out p5
          subst hb2
          have HM5 : Hid (GoneI Lg (i + 1) hi l5 lr) := Lib.hid ((HM.out.drop HJ2.out.1 P4.out).same hm5)
          clear c3 q5 i5 k5 p5 hm5 P4
          go_wp2_with fail
          go_roundw
          case rel => exact ⟨⟨i + 1, l5, by go_num, by omega, H5, HM5⟩⟩
          case measure => simp [intOf]; omega
        · obtain rfl : i = Lg.length := by omega
          have HMm := Lib.hid HM.out.gone
          have HQl := Lib.hid (same_len HT.out.qi.dist HT.out.ri.dist HMm.out)
          clear HM hlt hi2
          go_wp2_with fail
          refine (all_any wr F g bm 1048576 lq HT.out.q (by omega)).mono ?_
          rintro e w4 ⟨v, rfl, hA4⟩
          obtain ⟨s4, hs4, ho4⟩ := hA4.ex
          have H4 : Hid (Two w w4 F F2 g bm g2 bm2 lq lr) := Lib.hid (HT.out.later hA4.bel)
          have HS4 := Lib.hid hs4
          have HO4 := Lib.hid ho4
          clear hA4 hs4 ho4
          go_wp2_with fail
          refine (all_any w4 F2 g2 bm2 1048576 lr H4.out.r (by omega)).mono ?_
          rintro e w5 ⟨v2, rfl, hA5⟩
          obtain ⟨s5, hs5, ho5⟩ := hA5.ex
          have H5 : Hid (Two w w5 F F2 g bm g2 bm2 lq lr) := Lib.hid (H4.out.later hA5.bel)
          have es : s4 = s5 := sorted_eq HS4.out hs5 H4.out.qi.dist H4.out.ri.dist HMm.out
          subst es
          obtain ⟨A4, c4, rfl, -, -, R4, -⟩ := (HO4.out.later hA5.bel).shape
          rw [← HQl.out] at ho5
          obtain ⟨A5, c5, rfl, -, -, R5, -⟩ := ho5.shape
          have HL4 : s4.length = lq.length := HS4.out.perm.length_eq
          have HR := Lib.hid (And.intro R4 R5)
          clear hA5 hs5 ho5 R4 R5 HO4 HS4 H4 HT HMm
          have hNf := H5.out.q.few
          generalize lq.length = N at *
          go_wp2_with fail
          go_loopw [11] (G3 w5 N) (fun t _ => N - (intOf t).toNat)
          case atStart => exact ⟨⟨0, rfl, Nat.zero_le _⟩, Lib.hid (Below.refl _ _)⟩
          case round =>
            obtain ⟨⟨k, rfl, hk⟩, hbk⟩ := hrel
            by_cases hlt : k < N
            · have hltI : (k : Int) < N := by omega
              obtain ⟨ad4, e4, hA4, -, he4, h40, h4j⟩ := rowG_at ent_len (HR.out.1.later hbk.out) HL4 hlt
              obtain ⟨ad5, e5, hA5, -, he5, h50, h5j⟩ := rowG_at ent_len (HR.out.2.later hbk.out) HL4 hlt
              subst hA4 hA5
              rw [he4] at he5
              injection he5 with he5
              subst he5
              have HS : Hid ((fun W : World => Ent2 W (ad4.add (k * 3)) (ad5.add (k * 3)) e4) wr.drew) := Lib.hid ⟨⟨h40 _ rfl, h4j 1 _ (by decide) rfl, h4j 2 _ (by decide) rfl⟩, h50 _ rfl, h5j 1 _ (by decide) rfl, h5j 2 _ (by decide) rfl⟩
              have hbk2 : Hid (Below w5.heap.size w5 wr.drew) := hbk.out.drew
              clear h40 h4j h50 h5j he4 hbk
              go_wp2_with fail
              refine wp_region_s (fun W : World => Ent2 W (ad4.add (k * 3)) (ad5.add (k * 3)) e4) [(0, true), (1, true), (2, true), (4, true), (5, true), (6, true), (3, true), (7, true), (8, true)] (by kernel_rfl) (fun _ d _ _ _ h => by cases d <;> exact h) ?_
              simp only [List.map_cons, List.map_nil, nthOp_zero, nthOp_succ]
              generalize wr.drew = w3 at *
              refine wpS_take HS (by rfl) (by intro W hW; clear hW; go_simp; try with_reducible rfl) ?_
              refine wpS_take HS (by rfl) (by intro W hW; clear hW; go_simp; try with_reducible rfl) ?_
              refine wpS_take HS (by rfl) (by intro W hW; clear hW; go_simp; try with_reducible rfl) ?_
              refine wpS_take HS (by rfl) (by intro W hW; clear hW; go_simp; try with_reducible rfl) ?_
              refine wpS_take HS (by rfl) (by intro W hW; clear hW; go_simp; try with_reducible rfl) ?_
              refine wpS_take HS (by rfl) (by intro W hW; clear hW; go_simp; try with_reducible rfl) ?_
              go_simp
              refine wpS_take HS (by rfl) (by intro W hW; obtain ⟨⟨c1, c2, c3⟩, d1, d2, d3⟩ := hW; go_simp; try with_reducible rfl) ?_
              refine wpS_take HS (by rfl) (by intro W hW; obtain ⟨⟨c1, c2, c3⟩, d1, d2, d3⟩ := hW; go_simp; try with_reducible rfl) ?_
              refine wpS_take HS (by rfl) (by intro W hW; clear hW; exact exec_neq_self _ _ _ rfl e4 rfl rfl) ?_
              go_simp
              refine wpS_nil ?_
              go_simp
              go_wp2_with fail
              go_roundw
              case rel => exact ⟨⟨k + 1, by go_num, by omega⟩, hbk2⟩
              case measure => simp [intOf]; omega
            · have dk : decide ((k : Int) < N) = false := decide_eq_false (by omega)
              go_wp2_with fail
              refine (lives_any _).mono ?_
              rintro e w9 ⟨rfl, hb9⟩
              have HB := Lib.hid (below_then (below_then H5.out.below hbk.out) hb9)
              clear hb9
              go_wp2_with fail
              go_ret
              exact ⟨rfl, HB.out⟩
set_option maxRecDepth 100000 in
theorem queueGone_walk (A A2 : Option Addr) (n c n2 c2 : Nat) (L Lg : List OpA) (w : World) (hs : n ≤ 140737488355328) (hs2 : n2 ≤ 140737488355328) (hL : OpRow w A n L) (hG : OpRow w A2 n2 Lg) :
    Calls Try.prog 4 #[.slice A n c, .slice A2 n2 c2] w fun e w' => e = .returned (.bool true) ∧ Below w.heap.size w w' := by
  by_cases h1 : n + n2 ≤ 200
  · exact queueGone_main A A2 n c n2 c2 L Lg w h1 hL hG
  · have d1 : decide ((200 : Int) < (n : Int) + n2) = true := decide_eq_true (by omega)
    clear hL hG
    go_enter Try.func4, Try.ntmps4
    go_wp2_with (go_at_call 8; refine (lives_any _).mono ?_; rintro e w6 ⟨rfl, hb⟩; have H6 := Lib.hid hb; clear hb)
    go_ret
    exact ⟨rfl, H6.out⟩
set_option maxRecDepth 100000 in
theorem ops_sized {H : Type} {enc : TypeId × Value → H} {w : World} {r : Reach} {b : Nat} {held : Bool} {v : Value} {d : DataW H} {p : List MemPlace}
    (hv : Value.okWide Try.prog w r b 22 v) (h : DataW.Trod enc Try.prog w 0 (fun _ => true) held 22 v d p) (hz : ∀ N ∈ d.weights Try.prog 22, N ≤ reachBytes) :
    ∃ (A : Option Addr) (n c : Nat) (L : List OpA), v = .slice A n c ∧ OpRow w A n L ∧ n ≤ 140737488355328 ∧ n ≤ c ∧ c ≤ 9223372036854775807 := by
  obtain ⟨A, n, c, L, e, h1, h2, h3, h4, h5, h6⟩ := slice_arg (cs := OpA.cells) op_len (by decide) Try.underlying22 (by kernel_rfl) op_of hv h
  obtain ⟨_, h7⟩ := h6 hz
  have h8 : Try.prog.bytesOf 29 = 32 := by kernel_rfl
  rw [h8] at h7
  have h9 : reachBytes ≤ 4503599627370496 := by unfold reachBytes; decide
  exact ⟨A, n, c, L, e, ⟨h1, h2, h3⟩, by omega, h4, h5⟩
end Go.Proofs.Ytgpgcjdbppehjaa
