/-
  (*spread.List).Tick, of any list.
-/
import Derived.Test.YtjkmehpokdaonaaLis5
namespace Go.Proofs.Ytjkmehpokdaonaa
set_option linter.unusedVariables false
open Go.RowKit

/-- The states at a list's front that fit. -/
def front (room : Int) (some_ : Bool) : List SE → List SE
  | [] => []
  | s :: r => if room - (20 + (s.n : Int)) < 0 ∧ some_ = true then [] else s :: front (room - (20 + (s.n : Int))) true r
def frontL (L : List SE) : List SE := front 1452 false L
theorem front_stop {room : Int} {b : Bool} {s : SE} {r : List SE} (h : room - (20 + (s.n : Int)) < 0) (hb : b = true) : front room b (s :: r) = [] := by unfold front; rw [if_pos ⟨h, hb⟩]
theorem front_on {room : Int} {b : Bool} {s : SE} {r : List SE} (h : ¬ (room - (20 + (s.n : Int)) < 0 ∧ b = true)) : front room b (s :: r) = s :: front (room - (20 + (s.n : Int))) true r := by rw [front, if_neg h]
def SE.cells (s : SE) : List Value := [.int .u16 s.h.age, .int .u8 s.h.opts, .int .u8 s.h.typ, .int .u32 s.h.id, .int .u32 s.h.adv, .int .i32 s.h.seq, .int .u16 s.h.sum, .int .u16 s.h.len, .slice s.A s.n s.c]
theorem cells_one (s : SE) : ∀ u ∈ s.cells, u.oneCell' = true := by
  intro u hu
  simp only [SE.cells, List.mem_cons, List.not_mem_nil, or_false] at hu
  rcases hu with rfl | rfl | rfl | rfl | rfl | rfl | rfl | rfl | rfl <;> rfl
/-- What counts of a state. -/
def SE.core (s : SE) : Hd × List Int × Nat := (s.h, s.B, s.n)
theorem info_state3 : (Try.prog.info? 44).map (fun i => (i.zero, i.size, i.bytes)) = some (some zeroSt, 9, 48) := by kernel_rfl
theorem el_state : El Try.prog 36 44 9 48 := El.mk' Try.underlying36 info_state3 rfl (by omega)
/-- A slice of states of its own. -/
structure Sts (base : Nat) (w : World) (v : Value) (M : List SE) : Prop where
  own : w.ownsRow base 44 9 v M.length (M.flatMap SE.cells)
  ok : ∀ s ∈ M, s.ok w
  new : ∀ s ∈ M, ∀ i, s.b.ownBlock = some i → base ≤ i
theorem Sts.later {base : Nat} {w w' : World} {v : Value} {M : List SE} (h : Sts base w v M) (hb : Below w.heap.size w w') : Sts base w' v M :=
  ⟨own_kept (S := fun _ => False) h.own (Kept.of_new hb _) (fun _ _ e => e), fun s hs => (h.ok s hs).later hb, h.new⟩
structure TRel (w5 : World) (L : List SE) (room v t : Value) (wr : World) : Prop where
  ex : ∃ (j : Nat) (q : Int) (M : List SE), t = .int .i64 j ∧ room = .int .i64 q ∧ j ≤ L.length ∧ 1452 - j * 1099511627796 ≤ q ∧ q ≤ 1452 ∧ Hid (Sts w5.heap.size wr v M) ∧ Hid (M.map SE.core = (L.take j).map SE.core) ∧
    Hid (frontL L = L.take j ++ front q (decide (0 < j)) (L.drop j))
  below : Hid (Below w5.heap.size w5 wr)

set_option maxRecDepth 100000 in
set_option maxHeartbeats 8000000 in
theorem tick_full (w : World) (F : Nat → Prop) (g bm : Nat) (r : Int) (L : List SE) (l : LF w F g bm r 1 L) (hL : L ≠ []) :
    Calls Try.prog 18 #[.pointer (some ⟨g, 0, none⟩)] w fun e w' => ∃ v M, e = .returned v ∧ Sts w.heap.size w' v M ∧ M.map SE.core = (frontL L).map SE.core ∧ LF w' F g bm r r L ∧ Kept F w w' := by
  have hm : w.cell? ⟨g, 3, none⟩ = some (.map (some bm)) := l.map_cell
  have HN := Lib.hid (fun (W : World) (h : W.cell? ⟨g, 3, none⟩ = some (.map (some bm))) => none_any W g bm h)
  obtain ⟨kv, hB, hO, hF⟩ := l.ex
  obtain ⟨hOl, ⟨_, h0⟩ | ⟨gk, cap, cur, rfl, hBk, hnc, hcm, hcs, ht⟩⟩ := hO
  · exact absurd (List.eq_nil_of_length_eq_zero h0) hL
  have h0 : w.cell? ⟨g, 0, none⟩ = some (.int .u32 r) := hB.cell 0
  have h1 : w.cell? ⟨g, 1, none⟩ = some (.int .u32 1) := hB.cell 1
  have h2 : w.cell? ⟨g, 2, none⟩ = some (.slice (some ⟨gk, 0, none⟩) L.length cap) := hB.cell 2
  have f1 := hB.frozen 1
  have hl0 : ((L.length : Int) == 0) = false := by
    rw [beq_eq_false_iff_ne]
    have : 0 < L.length := List.length_pos_iff.2 hL
    omega
  have hne := l.map.ne_blk hB
  have hgk : g ≠ gk := blk_ne hB hBk (by decide)
  have HL := Lib.hid l
  have hw1 : IntKind.u32.wrap 0 = 0 := by rfl
  -- the world once the timer is set anew
  have hs1 := (kept_setC w g 1 (.int .u32 0)).trans (kept_setC (w.setCell ⟨g, 1, none⟩ (.int .u32 0)) g 1 (.int .u32 r)) (fun _ _ e => e)
  have F5 : Hid (LF ((w.setCell ⟨g, 1, none⟩ (.int .u32 0)).setCell ⟨g, 1, none⟩ (.int .u32 r)) F g bm r r L ∧ Blk ((w.setCell ⟨g, 1, none⟩ (.int .u32 0)).setCell ⟨g, 1, none⟩ (.int .u32 r)) gk 46 cur ∧ Kept F w ((w.setCell ⟨g, 1, none⟩ (.int .u32 0)).setCell ⟨g, 1, none⟩ (.int .u32 r))) := by
    refine Lib.hid ⟨⟨⟨_, (hB.set_ 1 (.int .u32 0)).set_ 1 (.int .u32 r), (show OwnW w 46 3 _ L.length (keysL L) from ⟨hOl, .inr ⟨gk, cap, cur, rfl, hBk, hnc, hcm, hcs, ht⟩⟩).kept hs1 (fun i hi e => ?_), hF⟩, l.map.kept hs1 hne, l.fg, l.fb, fun s hs => (l.ok s hs).kept hs1 (fun i hi e => (l.ok s hs).body.ne_blk hB (by decide) (e ▸ hi)), l.bodies, l.nodup, l.few, fun i hi => Nat.lt_of_lt_of_le (l.lim i hi) hs1.size⟩, hBk.kept hs1 (fun e => hgk e.symm), hs1.mono (fun i _ e => (show F i from e ▸ l.fg))⟩
    simp only [Value.ownBlock, Option.some.injEq] at hi
    exact hgk (e ▸ hi.symm)
  have hsz5 : ((w.setCell ⟨g, 1, none⟩ (.int .u32 0)).setCell ⟨g, 1, none⟩ (.int .u32 r)).heap.size = w.heap.size := by simp [World.setCell]
  have FT := Lib.hid (And.intro ht (And.intro hcs hOl))
  have hfew := l.few
  clear l hs1 hB hBk hOl hcs ht hF
  go_enter Try.func18, Try.ntmps18
  go_wp2_with (go_at_call 36; refine (HN.out _ hm).mono ?_; rintro e w' ⟨rfl, rfl⟩)
  generalize (w.setCell ⟨g, 1, none⟩ (.int .u32 0)).setCell ⟨g, 1, none⟩ (.int .u32 r) = w5 at *
  have HSZ := Lib.hid hsz5
  clear hm HN h0 h1 h2 f1 hl0 HL hw1 hsz5
  obtain ⟨N, hN⟩ : ∃ N, L.length = N := ⟨_, rfl⟩
  have HNl := Lib.hid hN
  rw [hN] at hnc hfew ⊢
  clear hN
  go_loopw [3, 4, 42] (TRel w5 L) (fun _ _ t _ => N - (intOf t).toNat)
  case atStart =>
    exact ⟨⟨0, 1452, [], rfl, rfl, Nat.zero_le _, by omega, by omega, Lib.hid ⟨World.ownsRow_nil _ _ _ _, fun s hs => absurd hs (by simp), fun s hs => absurd hs (by simp)⟩, Lib.hid rfl, Lib.hid rfl⟩, Lib.hid (Below.refl _ _)⟩
  case round =>
    obtain ⟨⟨j, q, M, rfl, rfl, hjN, hq1, hq2, hM, hcore, hfr⟩, hbr⟩ := hrel
    rw [HNl.out] at hjN
    have hMl : M.length = j := by
      have := congrArg List.length hcore.out
      simp only [List.length_map, List.length_take] at this
      have h2 := HNl.out
      omega
    by_cases hlt : j < N
    · have hjlt : (j : Int) < N := by omega
      obtain ⟨sj, hsj⟩ : ∃ sj, L[j]? = some sj := ⟨_, List.getElem?_eq_getElem (by rw [HNl.out]; omega)⟩
      have L6 := F5.out.1.later hbr.out
      have K6 := F5.out.2.1.later hbr.out
      obtain ⟨x0, x1, x2⟩ := key_cells K6 FT.out.1 hsj
      obtain ⟨i', s', hi', hk', hf'⟩ := find_yes (k := sj.key) ⟨sj, List.mem_of_getElem? hsj, rfl⟩
      obtain rfl : j = i' := nodup_at L6.nodup hsj hi' hk'.symm
      obtain rfl : s' = sj := Option.some.inj (hi'.symm.trans hsj)
      have HF := Lib.hid hf'
      have HJ := Lib.hid hsj
      obtain ⟨h, A, n, c, B⟩ := s'
      simp only at x0 x1 x2
      have hrd := Lib.hid ((L6.ok _ (List.mem_of_getElem? hsj)).rd)
      have hn40 : n ≤ 1099511627776 := hrd.out.len
      have hbk : Below wr.heap.size wr (wr.alloc (.cells #[.int .u8 h.typ, .int .u32 h.id, .int .u32 h.adv] 46)).drew := ((Below.refl _ _).alloc (Nat.le_refl _) _).drew
      have HS : Hid ((fun W : World => LF W F g bm r r L ∧ Blk W wr.heap.size 46 #[.int .u8 h.typ, .int .u32 h.id, .int .u32 h.adv]) (wr.alloc (.cells #[.int .u8 h.typ, .int .u32 h.id, .int .u32 h.adv] 46)).drew) := Lib.hid ⟨L6.later hbk, (Blk.new _ _ _).drewN 1⟩
      have HB6 := Lib.hid (below_then hbr.out hbk)
      have HM6 := Lib.hid (hM.out.later hbk)
      have HR6 := Lib.hid (hrd.out.later hbk)
      clear L6 K6 hi' hk' hf' hsj hbk hrd
      obtain ⟨Av, cv, hv, -⟩ := (OwnW.of_own hM.out.own).shape
      subst hv
      rw [hMl]
      clear hM
      go_wp2
      refine wp_region_s (fun W : World => LF W F g bm r r L ∧ Blk W wr.heap.size 46 #[.int .u8 h.typ, .int .u32 h.id, .int .u32 h.adv]) [(0, true), (1, true), (2, true), (3, true), (4, true), (5, true), (6, false), (7, false)] (by kernel_rfl) (fun _ d _ _ _ h => by cases d <;> exact h) ?_
      simp only [List.map_cons, List.map_nil, nthOp_zero, nthOp_succ]
      generalize wr.heap.size = gx at *
      generalize (wr.alloc (.cells #[.int .u8 h.typ, .int .u32 h.id, .int .u32 h.adv] 46)).drew = w6 at *
      refine wpS_take HS (by rfl) (by intro W hW; clear hW; go_simp; try with_reducible rfl) ?_
      refine wpS_take HS (by rfl) (by intro W hW; clear hW; go_simp; try with_reducible rfl) ?_
      refine wpS_take HS (by rfl) (by intro W hW; clear hW; go_simp; try with_reducible rfl) ?_
      refine wpS_take HS (by rfl) (by intro W hW; have j3 := hW.1.map_cell; clear hW; go_simp; try with_reducible rfl) ?_
      refine wpS_take HS (by rfl) (by intro W hW; have j0 := hW.2.cell 0; have j1 := hW.2.cell 1; have j2 := hW.2.cell 2; clear hW; simp at j0 j1 j2; go_simp; try with_reducible rfl) ?_
      refine wpS_take HS (by rfl) (fun W hW => exec_lookupL (a := h.key) keyT Try.underlying53 zeroState rfl hW.1.map rfl rfl) ?_
      simp only [show lookedUp (L.map fun s => (s.key, s.v)) h.key zeroSt false = stV h A n c from by unfold lookedUp; rw [HF.out]; rfl]
      refine wpS_do fun K hK => ?_
      go_wp2
      refine hK.out _ _ ⟨HS.out.1.later ((Below.refl _ _).alloc (Nat.le_refl _) _), HS.out.2.later ((Below.refl _ _).alloc (Nat.le_refl _) _)⟩ ?_
      clear hK K
      refine wpS_do fun K hK => ?_
      go_wp2_with (go_must (refine wpList_store_row rfl 44 _ _ rfl w6.heap.size #[.int .u16 h.age, .int .u8 h.opts, .int .u8 h.typ, .int .u32 h.id, .int .u32 h.adv, .int .i32 h.seq, .int .u16 h.sum, .int .u16 h.len, .slice A n c] rfl rfl 44 _ (heap_alloc_new w6 _) info_state rfl (by simp [Value.oneCell']) ?_); rw [World.setRow_alloc_new])
      have hb7 : Below w6.heap.size w6 (w6.alloc (.cells #[.int .u16 h.age, .int .u8 h.opts, .int .u8 h.typ, .int .u32 h.id, .int .u32 h.adv, .int .i32 h.seq, .int .u16 h.sum, .int .u16 h.len, .slice A n c] 44)) := (Below.refl _ _).alloc (Nat.le_refl _) _
      have HQ : Hid (Blk (w6.alloc (.cells #[.int .u16 h.age, .int .u8 h.opts, .int .u8 h.typ, .int .u32 h.id, .int .u32 h.adv, .int .i32 h.seq, .int .u16 h.sum, .int .u16 h.len, .slice A n c] 44)) w6.heap.size 44 (stC h A n c)) := Lib.hid (Blk.new _ _ _)
      have HM7 := Lib.hid (HM6.out.later hb7)
      have HR7 := Lib.hid (HR6.out.later hb7)
      have HB7 := Lib.hid (below_then HB6.out hb7)
      refine hK.out _ _ ⟨HS.out.1.later hb7, HS.out.2.later hb7⟩ ?_
      clear hK K HS hb7 HM6 HR6 HB6
      generalize w6.alloc (.cells #[.int .u16 h.age, .int .u8 h.opts, .int .u8 h.typ, .int .u32 h.id, .int .u32 h.adv, .int .i32 h.seq, .int .u16 h.sum, .int .u16 h.len, .slice A n c] 44) = w7 at *
      generalize w6.heap.size = gs at *
      refine wpS_nil ?_
      obtain ⟨y0, y1, y2, y3, y4, y5, y6, y7, y8⟩ := stC_facts HQ.out
      by_cases hroom : q - (20 + (n : Int)) < 0
      · by_cases hj0 : 0 < j
        · have hjI : (0 : Int) < j := by omega
          go_wp2
          go_ret
          refine ⟨_, M, rfl, ?_, ?_, F5.out.1.later HB7.out, F5.out.2.2.trans (Kept.of_new HB7.out _) (fun _ _ h => h)⟩
          · have := HM7.out
            rw [hMl] at this
            rw [← HSZ.out]; exact this
          · have h2 := hfr.out
            rw [List.drop_eq_getElem_cons (by rw [HNl.out]; exact hlt), front_stop (by rw [(List.getElem?_eq_some_iff.1 HJ.out).2]; exact hroom) (by simpa using hj0), List.append_nil] at h2
            rw [h2]; exact hcore.out
        · have hdj : decide ((0 : Int) < j) = false := decide_eq_false (by omega)
          have hfo : Hid (frontL L = L.take (j + 1) ++ front (q - (20 + (n : Int))) (decide (0 < j + 1)) (L.drop (j + 1))) := by
            have h2 := hfr.out
            have h3 := List.getElem?_eq_some_iff.1 HJ.out
            rw [List.drop_eq_getElem_cons (by rw [HNl.out]; exact hlt), h3.2, front_on (by simp only [decide_eq_true_eq]; omega)] at h2
            show _ = _
            rw [h2, List.take_add_one, HJ.out]
            simp
          go_wp2_with fail
          refine (copied_any ⟨h, A, n, c, B⟩ w7 HR7.out).mono ?_
          rintro e w8 ⟨s', rfl, hcp, hb8⟩
          obtain ⟨h', A', n', c', B'⟩ := s'
          obtain rfl : h = h' := hcp.h.symm
          obtain rfl : B = B' := hcp.B.symm
          obtain rfl : n = n' := hcp.n.symm
          have HCP := Lib.hid hcp
          have HN7 := Lib.hid HB7.out.size
          have HM8 := Lib.hid (HM7.out.later hb8)
          have HB8 := Lib.hid (below_then HB7.out hb8)
          have HS8 := Lib.hid hb8.size
          rw [hMl] at HM8
          clear hcp hb8 HM7 HB7 HR7 y0 y1 y2 y3 y4 y5 y6 y7 y8 x0 x1 x2
          have hnw : Below w8.heap.size w8 (w8.alloc (.cells (SE.cells ⟨h, A', n, c', B⟩).toArray 44)) := (Below.refl _ _).alloc (Nat.le_refl _) _
          have HRN : Hid (Reads (w8.alloc (.cells (SE.cells ⟨h, A', n, c', B⟩).toArray 44)) (w8.alloc (.cells (SE.cells ⟨h, A', n, c', B⟩).toArray 44)).heap.size 9 (some ⟨w8.heap.size, 0, none⟩) 1 (SE.cells ⟨h, A', n, c', B⟩)) := Lib.hid ⟨rfl, fun _ => ⟨_, rfl, (Blk.new w8 _ _).lt, fun j u hu => by rw [add_none, Nat.zero_add, (Blk.new w8 _ _).cell, List.getElem?_toArray]; exact hu⟩⟩
          have HM9 := Lib.hid (HM8.out.later hnw)
          have HB9 := Lib.hid (below_then HB8.out hnw)
          have HC9 := Lib.hid (HCP.out.ok.later hnw)
          have hbase : w5.heap.size ≤ (w8.alloc (.cells (SE.cells ⟨h, A', n, c', B⟩).toArray 44)).heap.size := HB9.out.size
          have HN8 := Lib.hid HB8.out.size
          clear hnw HM8 HB8
          simp only [SE.cells] at HRN HM9 HB9 HC9 hbase
          go_wp2_with (at_builtin; go_must (refine wpList_app el_state rfl (.tmp 65) (.tmp 68) rfl HM9.out.own rfl HRN.out rfl (cells_one ⟨h, A', n, c', B⟩) (by simp only [maxLen]; omega) (by omega) hbase ?_); intro v10 w10 ho10 hb10 hg10 _; have H10 := Lib.hid (And.intro ho10 (And.intro hb10 hg10)); clear ho10 hb10 hg10)
          go_roundw
          case rel =>
            refine ⟨⟨j + 1, q - (20 + (n : Int)), M ++ [⟨h, A', n, c', B⟩], by go_num, rfl, by rw [HNl.out]; omega, by omega, by omega, Lib.hid ⟨?_, ?_, ?_⟩, Lib.hid ?_, hfo⟩, Lib.hid (HB9.out.trans H10.out.2.1)⟩
            · have := H10.out.1
              rw [List.length_append, List.flatMap_append]
              simpa [SE.cells] using this
            · have hkk := Kept.of_grown H10.out.2.2
              intro s hs
              rcases List.mem_append.1 hs with hs | hs
              · exact (HM9.out.ok s hs).kept hkk (fun i hi e => (HM9.out.ok s hs).body.ne_own (OwnW.of_own HM9.out.own) (by decide) hi e)
              · simp only [List.mem_cons, List.not_mem_nil, or_false] at hs
                subst hs
                exact HC9.out.kept hkk (fun i hi e => HC9.out.body.ne_own (OwnW.of_own HM9.out.own) (by decide) hi e)
            · intro s hs i hi
              rcases List.mem_append.1 hs with hs | hs
              · exact HM9.out.new s hs i hi
              · simp only [List.mem_cons, List.not_mem_nil, or_false] at hs
                subst hs
                exact Nat.le_trans HN7.out (HCP.out.new i hi)
            · rw [List.map_append, List.take_add_one, HJ.out, List.map_append, hcore.out]
              rfl
          case measure => simp [intOf]; omega
      · have hj0 : True := trivial
        have hfo : Hid (frontL L = L.take (j + 1) ++ front (q - (20 + (n : Int))) (decide (0 < j + 1)) (L.drop (j + 1))) := by
          have h2 := hfr.out
          have h3 := List.getElem?_eq_some_iff.1 HJ.out
          rw [List.drop_eq_getElem_cons (by rw [HNl.out]; exact hlt), h3.2, front_on (by simp only [decide_eq_true_eq]; omega)] at h2
          show _ = _
          rw [h2, List.take_add_one, HJ.out]
          simp
        go_wp2_with fail
        refine (copied_any ⟨h, A, n, c, B⟩ w7 HR7.out).mono ?_
        rintro e w8 ⟨s', rfl, hcp, hb8⟩
        obtain ⟨h', A', n', c', B'⟩ := s'
        obtain rfl : h = h' := hcp.h.symm
        obtain rfl : B = B' := hcp.B.symm
        obtain rfl : n = n' := hcp.n.symm
        have HCP := Lib.hid hcp
        have HN7 := Lib.hid HB7.out.size
        have HM8 := Lib.hid (HM7.out.later hb8)
        have HB8 := Lib.hid (below_then HB7.out hb8)
        have HS8 := Lib.hid hb8.size
        rw [hMl] at HM8
        clear hcp hb8 HM7 HB7 HR7 y0 y1 y2 y3 y4 y5 y6 y7 y8 x0 x1 x2
        have hnw : Below w8.heap.size w8 (w8.alloc (.cells (SE.cells ⟨h, A', n, c', B⟩).toArray 44)) := (Below.refl _ _).alloc (Nat.le_refl _) _
        have HRN : Hid (Reads (w8.alloc (.cells (SE.cells ⟨h, A', n, c', B⟩).toArray 44)) (w8.alloc (.cells (SE.cells ⟨h, A', n, c', B⟩).toArray 44)).heap.size 9 (some ⟨w8.heap.size, 0, none⟩) 1 (SE.cells ⟨h, A', n, c', B⟩)) := Lib.hid ⟨rfl, fun _ => ⟨_, rfl, (Blk.new w8 _ _).lt, fun j u hu => by rw [add_none, Nat.zero_add, (Blk.new w8 _ _).cell, List.getElem?_toArray]; exact hu⟩⟩
        have HM9 := Lib.hid (HM8.out.later hnw)
        have HB9 := Lib.hid (below_then HB8.out hnw)
        have HC9 := Lib.hid (HCP.out.ok.later hnw)
        have hbase : w5.heap.size ≤ (w8.alloc (.cells (SE.cells ⟨h, A', n, c', B⟩).toArray 44)).heap.size := HB9.out.size
        have HN8 := Lib.hid HB8.out.size
        clear hnw HM8 HB8
        simp only [SE.cells] at HRN HM9 HB9 HC9 hbase
        go_wp2_with (at_builtin; go_must (refine wpList_app el_state rfl (.tmp 65) (.tmp 68) rfl HM9.out.own rfl HRN.out rfl (cells_one ⟨h, A', n, c', B⟩) (by simp only [maxLen]; omega) (by omega) hbase ?_); intro v10 w10 ho10 hb10 hg10 _; have H10 := Lib.hid (And.intro ho10 (And.intro hb10 hg10)); clear ho10 hb10 hg10)
        go_roundw
        case rel =>
          refine ⟨⟨j + 1, q - (20 + (n : Int)), M ++ [⟨h, A', n, c', B⟩], by go_num, rfl, by rw [HNl.out]; omega, by omega, by omega, Lib.hid ⟨?_, ?_, ?_⟩, Lib.hid ?_, hfo⟩, Lib.hid (HB9.out.trans H10.out.2.1)⟩
          · have := H10.out.1
            rw [List.length_append, List.flatMap_append]
            simpa [SE.cells] using this
          · have hkk := Kept.of_grown H10.out.2.2
            intro s hs
            rcases List.mem_append.1 hs with hs | hs
            · exact (HM9.out.ok s hs).kept hkk (fun i hi e => (HM9.out.ok s hs).body.ne_own (OwnW.of_own HM9.out.own) (by decide) hi e)
            · simp only [List.mem_cons, List.not_mem_nil, or_false] at hs
              subst hs
              exact HC9.out.kept hkk (fun i hi e => HC9.out.body.ne_own (OwnW.of_own HM9.out.own) (by decide) hi e)
          · intro s hs i hi
            rcases List.mem_append.1 hs with hs | hs
            · exact HM9.out.new s hs i hi
            · simp only [List.mem_cons, List.not_mem_nil, or_false] at hs
              subst hs
              exact Nat.le_trans HN7.out (HCP.out.new i hi)
          · rw [List.map_append, List.take_add_one, HJ.out, List.map_append, hcore.out]
            rfl
        case measure => simp [intOf]; omega
    · obtain rfl : j = N := by omega
      go_wp2
      go_ret
      refine ⟨_, M, rfl, ?_, ?_, F5.out.1.later hbr.out, F5.out.2.2.trans (Kept.of_new hbr.out _) (fun _ _ h => h)⟩
      · rw [← HSZ.out]; exact hM.out
      · have h1 := hcore.out
        have h2 := hfr.out
        rw [List.take_of_length_le (by rw [HNl.out]; exact Nat.le_refl _)] at h1 h2
        rw [List.drop_of_length_le (by rw [HNl.out]; exact Nat.le_refl _)] at h2
        rw [h2, h1]
        simp [front]
end Go.Proofs.Ytjkmehpokdaonaa
