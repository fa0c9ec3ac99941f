/-
  (*spread.List).Drop, of any list.
-/
import Derived.Test.YtjkmehpokdaonaaLis2
namespace Go.Proofs.Ytjkmehpokdaonaa
set_option linter.unusedVariables false
open Go.RowKit

/-- Without a key. -/
def dropL (L : List SE) (k : Int × Int × Int) : List SE := L.filter fun s => decide (s.key ≠ k)
def hasK (L : List SE) (k : Int × Int × Int) : Bool := L.any fun s => decide (s.key = k)
theorem dropL_no {L : List SE} {k : Int × Int × Int} (h : ∀ s ∈ L, s.key ≠ k) : dropL L k = L := by
  unfold dropL
  rw [List.filter_eq_self]
  intro s hs
  simpa using h s hs
theorem hasK_no {L : List SE} {k : Int × Int × Int} (h : ∀ s ∈ L, s.key ≠ k) : hasK L k = false := by
  unfold hasK
  rw [List.any_eq_false]
  intro s hs
  simpa using h s hs
theorem hasK_yes {L : List SE} {k : Int × Int × Int} {i : Nat} {s : SE} (hi : L[i]? = some s) (hk : s.key = k) : hasK L k = true := by
  unfold hasK
  rw [List.any_eq_true]
  exact ⟨s, List.mem_of_getElem? hi, by simpa using hk⟩
theorem dropL_yes {L : List SE} {k : Int × Int × Int} (hd : (L.map SE.key).Nodup) : ∀ {i : Nat} {s : SE}, L[i]? = some s → s.key = k → dropL L k = L.eraseIdx i := by
  induction L with
  | nil => intro i s hi; simp at hi
  | cons a L ih =>
    intro i s hi hk
    rw [List.map_cons, List.nodup_cons] at hd
    cases i with
    | zero =>
      simp at hi; subst hi
      have : dropL L k = L := dropL_no fun s' hs' e => hd.1 (by rw [hk, ← e]; exact List.mem_map.2 ⟨s', hs', rfl⟩)
      unfold dropL at this ⊢
      rw [List.filter_cons, if_neg (by simp [hk]), this]
      rfl
    | succ i =>
      simp at hi
      have hne : a.key ≠ k := fun e => hd.1 (by rw [e, ← hk]; exact List.mem_map.2 ⟨s, List.mem_of_getElem? hi, rfl⟩)
      have := ih hd.2 hi hk
      unfold dropL at this ⊢
      rw [List.filter_cons, if_pos (by simpa using hne), this]
      rfl
theorem keysL_mem {L : List SE} {i : Nat} : keysL (L.eraseIdx i) = keysL (L.take i) ++ keysL (L.drop (i + 1)) := by
  rw [List.eraseIdx_eq_take_drop_succ, keysL_app]
theorem keysL_split (L : List SE) (i : Nat) : keysL (L.take i) ++ keysL (L.drop i) = keysL L := by rw [← keysL_app, List.take_append_drop]
/-- The front of a row of keys. -/
theorem own_front {w : World} {g : Nat} {cur : Array Value} {L : List SE} {i cap : Nat} (hk : Blk w g 46 cur) (hc : cap * 3 ≤ cur.size) (hi : i ≤ L.length) (hl : L.length ≤ cap) (hm : cap ≤ 9223372036854775807) (ht : cur.toList.take (L.length * 3) = keysL L) :
    OwnW w 46 3 (.slice (some ⟨g, 0, none⟩) i i) i (keysL (L.take i)) := by
  refine ⟨by rw [keysL_len]; simp; omega, .inr ⟨g, i, cur, rfl, hk, Nat.le_refl _, by omega, by omega, ?_⟩⟩
  have e := keysL_split L i
  have hlen : (keysL (L.take i)).length = i * 3 := by rw [keysL_len]; simp; omega
  have h2 : (cur.toList.take (L.length * 3)).take (i * 3) = cur.toList.take (i * 3) := by rw [List.take_take]; congr 1; omega
  rw [← h2, ht, ← e, List.take_append_of_le_length (by omega), List.take_of_length_le (by omega)]
theorem reads_back {w : World} {g : Nat} {cur : Array Value} {L : List SE} {i cap : Nat} {A1 : Option Addr} (hk : Blk w g 46 cur) (hi : i < L.length) (hl : L.length ≤ cap) (ht : cur.toList.take (L.length * 3) = keysL L)
    (hA : A1 = if cap = i + 1 then (some (⟨g, 0, none⟩ : Addr)) else some ⟨g, (i + 1) * 3, none⟩) :
    Reads w w.heap.size 3 A1 (L.length - (i + 1)) (keysL (L.drop (i + 1))) := by
  refine ⟨by rw [keysL_len]; simp, fun h0 => ?_⟩
  rw [if_neg (by omega)] at hA
  refine ⟨_, hA, hk.lt, fun j u hu => ?_⟩
  have e := keysL_split L (i + 1)
  have hlen : (keysL (L.take (i + 1))).length = (i + 1) * 3 := by rw [keysL_len]; simp; omega
  have h1 : (keysL L)[(i + 1) * 3 + j]? = some u := by rw [← e, List.getElem?_append_right (by omega), hlen, Nat.add_sub_cancel_left]; exact hu
  rw [← ht, List.getElem?_take] at h1
  split at h1
  · have ha : (⟨g, (i + 1) * 3, none⟩ : Addr).add j = ⟨g, (i + 1) * 3 + j, none⟩ := by unfold Addr.add; split <;> simp_all
    rw [ha, hk.cell]
    simpa using h1
  · cases h1
theorem key_cells {w : World} {g : Nat} {cur : Array Value} {L : List SE} {j : Nat} {s : SE} (hk : Blk w g 46 cur) (ht : cur.toList.take (L.length * 3) = keysL L) (hj : L[j]? = some s) :
    w.cell? ⟨g, j * 3, none⟩ = some (.int .u8 s.h.typ) ∧ w.cell? ⟨g, j * 3 + 1, none⟩ = some (.int .u32 s.h.id) ∧ w.cell? ⟨g, j * 3 + 2, none⟩ = some (.int .u32 s.h.adv) := by
  have H : ∀ r u, r < 3 → (kc s.key)[r]? = some u → w.cell? ⟨g, j * 3 + r, none⟩ = some u := by
    intro r u hr hu
    have h1 := keysL_at hj hu hr
    rw [← ht, List.getElem?_take] at h1
    split at h1
    · rw [hk.cell]; simpa using h1
    · cases h1
  exact ⟨H 0 _ (by decide) rfl, H 1 _ (by decide) rfl, H 2 _ (by decide) rfl⟩
def DRel (w5 : World) (i : Nat) (t : Value) (wr : World) : Prop := ∃ j : Nat, t = .int .i64 j ∧ j ≤ i ∧ Hid (Below w5.heap.size w5 wr)

set_option maxRecDepth 100000 in
set_option maxHeartbeats 4000000 in
theorem drop_any (w : World) (F : Nat → Prop) (g bm : Nat) (r t : Int) (L : List SE) (k : Int × Int × Int) (l : LF w F g bm r t L) :
    Calls Try.prog 20 #[.pointer (some ⟨g, 0, none⟩), keyV k] w fun e w' => e = .returned (.bool (hasK L k)) ∧ ∃ F', LF w' F' g bm r t (dropL L k) ∧ Grew w F F' ∧ Kept F w w' := by
  have hm : w.cell? ⟨g, 3, none⟩ = some (.map (some bm)) := l.map_cell
  have HN := Lib.hid (fun (W : World) (h : W.cell? ⟨g, 3, none⟩ = some (.map (some bm))) => none_any W g bm h)
  have hg := l.lt
  have HL := Lib.hid l
  clear l
  obtain ⟨k1, k2, k3⟩ := k
  go_enter Try.func20, Try.ntmps20
  go_wp2_with (go_at_call 36; refine (HN.out _ (by rw [World.cell?_alloc_lt _ _ _ hg]; exact hm)).mono ?_; rintro e w' ⟨rfl, rfl⟩)
  have hb1 : Hid (Below w.heap.size w (w.alloc (.cells #[.int .u8 k1, .int .u32 k2, .int .u32 k3] 46)).drew) := ((Below.refl _ _).alloc (Nat.le_refl _) _).drew
  have HK : Hid (Blk (w.alloc (.cells #[.int .u8 k1, .int .u32 k2, .int .u32 k3] 46)).drew w.heap.size 46 #[.int .u8 k1, .int .u32 k2, .int .u32 k3]) := Blk.new _ _ _
  have HS : Hid ((fun W : World => LF W F g bm r t L ∧ Blk W w.heap.size 46 #[.int .u8 k1, .int .u32 k2, .int .u32 k3]) (w.alloc (.cells #[.int .u8 k1, .int .u32 k2, .int .u32 k3] 46)).drew) := Lib.hid ⟨HL.out.later hb1.out, HK.out⟩
  obtain ⟨g0, hg0⟩ : ∃ g0, w.heap.size = g0 := ⟨_, rfl⟩
  have HG := Lib.hid hg0
  clear hm hg HN HK
  refine wp_region_s (fun W : World => LF W F g bm r t L ∧ Blk W w.heap.size 46 #[.int .u8 k1, .int .u32 k2, .int .u32 k3])
    [(0, true), (1, true), (2, true), (3, true), (4, true), (5, true), (6, true), (7, true), (8, true), (9, false), (10, false), (11, true)] (by kernel_rfl) (fun _ d _ _ _ h => by cases d <;> exact h) ?_
  simp only [List.map_cons, List.map_nil, nthOp_zero, nthOp_succ]
  generalize (w.alloc (.cells #[.int .u8 k1, .int .u32 k2, .int .u32 k3] 46)).drew = w1 at *
  rw [hg0] at hb1 HS ⊢
  clear hg0
  refine wpS_take HS (by rfl) (by intro W hW; clear hW; go_simp; try with_reducible rfl) ?_
  refine wpS_take HS (by rfl) (by intro W hW; clear hW; go_simp; try with_reducible rfl) ?_
  refine wpS_take HS (by rfl) (by intro W hW; clear hW; go_simp; try with_reducible rfl) ?_
  refine wpS_take HS (by rfl) (by intro W hW; have j3 := hW.1.map_cell; clear hW; go_simp; try with_reducible rfl) ?_
  refine wpS_take HS (by rfl) (by intro W hW; have j0 := hW.2.cell 0; have j1 := hW.2.cell 1; have j2 := hW.2.cell 2; clear hW; simp at j0 j1 j2; go_simp; try with_reducible rfl) ?_
  refine wpS_take HS (by rfl) (fun W hW => exec_lookupL (a := (k1, k2, k3)) keyT Try.underlying53 zeroState rfl hW.1.map rfl rfl) ?_
  by_cases hin : ∃ s ∈ L, s.key = (k1, k2, k3)
  · obtain ⟨i, s, hi, hk, hf⟩ := find_yes hin
    have hdy := Lib.hid (dropL_yes HS.out.1.nodup hi hk)
    have hhy := Lib.hid (hasK_yes hi hk)
    have hiN : i < L.length := (List.getElem?_eq_some_iff.1 hi).1
    obtain ⟨h, A, n, c, B⟩ := s
    simp only [show lookedUp (L.map fun s => (s.key, s.v)) (k1, k2, k3) zeroSt true = .tuple #[stV h A n c, .bool true] from by unfold lookedUp; rw [hf]; rfl]
    have HF := Lib.hid hf
    have HI := Lib.hid hi
    clear hin hi hf
    simp only [SE.key, Hd.key, Prod.mk.injEq] at hk
    obtain ⟨e1, e2, e3⟩ := hk
    subst e1; subst e2; subst e3
    refine wpS_take HS (by rfl) (by intro W hW; clear hW; go_simp; try with_reducible rfl) ?_
    refine wpS_take HS (by rfl) (by intro W hW; clear hW; go_simp; try with_reducible rfl) ?_
    refine wpS_take HS (by rfl) (by intro W hW; clear hW; go_simp; try with_reducible rfl) ?_
    refine wpS_do fun K hK => ?_
    go_wp2
    have hb2 : Hid (Below w1.heap.size w1 (w1.alloc (.cells #[.int .u16 0, .int .u8 0, .int .u8 0, .int .u32 0, .int .u32 0, .int .i32 0, .int .u16 0, .int .u16 0, .slice none 0 0] 44))) := (Below.refl _ _).alloc (Nat.le_refl _) _
    refine hK.out _ _ ⟨HS.out.1.later hb2.out, HS.out.2.later hb2.out⟩ ?_
    clear hK K
    refine wpS_do fun K hK => ?_
    go_wp2_with (refine wpList_store_row rfl 44 _ _ rfl w1.heap.size #[.int .u16 h.age, .int .u8 h.opts, .int .u8 h.typ, .int .u32 h.id, .int .u32 h.adv, .int .i32 h.seq, .int .u16 h.sum, .int .u16 h.len, .slice A n c] rfl rfl 44 _ (heap_alloc_new w1 _) info_state rfl (by simp [Value.oneCell']) ?_; rw [World.setRow_alloc_new])
    have hb3 : Hid (Below w1.heap.size w1 (w1.alloc (.cells #[.int .u16 h.age, .int .u8 h.opts, .int .u8 h.typ, .int .u32 h.id, .int .u32 h.adv, .int .i32 h.seq, .int .u16 h.sum, .int .u16 h.len, .slice A n c] 44))) := (Below.refl _ _).alloc (Nat.le_refl _) _
    have HS2 : Hid ((fun W : World => LF W F g bm r t L ∧ Blk W g0 46 #[.int .u8 h.typ, .int .u32 h.id, .int .u32 h.adv]) (w1.alloc (.cells #[.int .u16 h.age, .int .u8 h.opts, .int .u8 h.typ, .int .u32 h.id, .int .u32 h.adv, .int .i32 h.seq, .int .u16 h.sum, .int .u16 h.len, .slice A n c] 44))) := Lib.hid ⟨HS.out.1.later hb3.out, HS.out.2.later hb3.out⟩
    refine hK.out _ _ HS2.out ?_
    clear hK K
    refine wpS_take HS2 (by rfl) (by intro W hW; clear hW; go_simp; try with_reducible rfl) ?_
    refine wpS_nil ?_
    have hbw : Hid (Below w.heap.size w (w1.alloc (.cells #[.int .u16 h.age, .int .u8 h.opts, .int .u8 h.typ, .int .u32 h.id, .int .u32 h.adv, .int .i32 h.seq, .int .u16 h.sum, .int .u16 h.len, .slice A n c] 44)).drew) := Lib.hid ((below_then (HG.out ▸ hb1.out) hb3.out).drew)
    have HS3 : Hid ((fun W : World => LF W F g bm r t L ∧ Blk W g0 46 #[.int .u8 h.typ, .int .u32 h.id, .int .u32 h.adv]) (w1.alloc (.cells #[.int .u16 h.age, .int .u8 h.opts, .int .u8 h.typ, .int .u32 h.id, .int .u32 h.adv, .int .i32 h.seq, .int .u16 h.sum, .int .u16 h.len, .slice A n c] 44)).drew) := Lib.hid ⟨HS.out.1.later hb3.out.drew, HS.out.2.later hb3.out.drew⟩
    clear HS HS2 hb1 hb2 hb3
    go_wp2
    refine wp_region_g (fun W : World => LF W F g bm r t L ∧ Blk W g0 46 #[.int .u8 h.typ, .int .u32 h.id, .int .u32 h.adv])
      [.take 0, .take 1, .take 2, .take 3, .take 4, .one 5] (by kernel_rfl) (fun _ d _ _ _ h => by cases d <;> exact h) ?_
    simp only [List.map_cons, List.map_nil, RStep.node, nthOp_zero, nthOp_succ]
    generalize (w1.alloc (.cells #[.int .u16 h.age, .int .u8 h.opts, .int .u8 h.typ, .int .u32 h.id, .int .u32 h.adv, .int .i32 h.seq, .int .u16 h.sum, .int .u16 h.len, .slice A n c] 44)).drew = w4 at *
    refine wpG_take HS3 (by rfl) (by intro W hW; clear hW; go_simp; try with_reducible rfl) ?_
    refine wpG_take HS3 (by rfl) (by intro W hW; clear hW; go_simp; try with_reducible rfl) ?_
    refine wpG_take HS3 (by rfl) (by intro W hW; clear hW; go_simp; try with_reducible rfl) ?_
    refine wpG_take HS3 (by rfl) (by intro W hW; have j3 := hW.1.map_cell; clear hW; go_simp; try with_reducible rfl) ?_
    refine wpG_take HS3 (by rfl) (by intro W hW; have j0 := hW.2.cell 0; have j1 := hW.2.cell 1; have j2 := hW.2.cell 2; clear hW; simp at j0 j1 j2; go_simp; try with_reducible rfl) ?_
    refine wpG_last fun K hK => ?_
    go_wp2_with (refine wpList_deleteL keyT Try.underlying53 rfl (.tmp 25) (.tmp 26) 46 rfl HS3.out.1.map rfl (h.typ, h.id, h.adv) rfl ?_; intro w5 hm5 hk5; have H5 := Lib.hid (And.intro hm5 hk5); clear hm5 hk5)
    refine hK.out _ _ ?_
    clear hK K
    obtain ⟨kv, hB, hO, hFk⟩ := HS3.out.1.ex
    obtain ⟨hOl, ⟨_, h0⟩ | ⟨gk, cap, cur, rfl, hBk, hnc, hcm, hcs, ht⟩⟩ := hO
    · omega
    have M5 : MapL keyV w5 bm ((L.eraseIdx i).map fun s => (s.key, s.v)) := by
      have := H5.out.1
      rw [HF.out] at this
      simp only at this
      rwa [← map_eraseIdx] at this
    have hk5 : Kept (fun i => i = bm) w4 w5 := H5.out.2
    have hne := HS3.out.1.map.ne_blk hB
    have B5 := hB.kept hk5 (fun e => hne e.symm)
    have P5 := HS3.out.2.kept hk5 (fun e => HS3.out.1.map.ne_blk HS3.out.2 e.symm)
    have K5 := hBk.kept hk5 (fun e => HS3.out.1.map.ne_blk hBk e.symm)
    have hFg : F gk := hFk gk rfl
    have F5 := Lib.hid (And.intro M5 (And.intro B5 (And.intro P5 K5)))
    have FT := Lib.hid (And.intro ht (And.intro hcs hOl))
    have FK : Hid (Kept F w w5) := Lib.hid ((Kept.of_new hbw.out F).trans hk5 (fun _ _ e => e ▸ HS3.out.1.fb))
    have FO : Hid (∀ s ∈ L, s.ok w5) := Lib.hid fun s hs => (HS3.out.1.ok s hs).kept hk5 (fun j hj e => (HS3.out.1.ok s hs).body.ne_map HS3.out.1.map (e ▸ hj))
    have F0 := Lib.hid HS3.out.1
    have H5s := Lib.hid hk5.size
    clear M5 K5 hk5 hB hBk hFk hOl ht hcs H5 HS3 HF hbw
    have d2 := B5.cell 2
    clear B5 P5
    simp at d2
    obtain ⟨N, hN⟩ : ∃ N, L.length = N := ⟨_, rfl⟩
    rw [hN] at hiN hnc d2
    have HN := Lib.hid hN
    clear hN
    go_wp2
    go_loopw [32] (DRel w5 i) (fun t _ => N - (intOf t).toNat)
    case atStart => exact ⟨0, rfl, Nat.zero_le _, Lib.hid (Below.refl _ _)⟩
    case round =>
      obtain ⟨j, rfl, hj, hbj⟩ := hrel
      have hjN : (j : Int) < N := by omega
      obtain ⟨sj, hsj⟩ : ∃ sj, L[j]? = some sj := ⟨_, List.getElem?_eq_getElem (by rw [HN.out]; omega)⟩
      have K6 := F5.out.2.2.2.later hbj.out
      have P6 := F5.out.2.2.1.later hbj.out
      have B6 := F5.out.2.1.later hbj.out
      obtain ⟨x0, x1, x2⟩ := key_cells K6 FT.out.1 hsj
      have p0 := P6.cell 0; have p1 := P6.cell 1; have p2 := P6.cell 2
      simp at p0 p1 p2
      by_cases hji : j = i
      · subst hji
        obtain rfl : sj = ⟨h, A, n, c, B⟩ := Option.some.inj (hsj.symm.trans HI.out)
        simp only at x0 x1 x2
        have EA := fun o => World.cell?_alloc_lt wr (.cells #[.int .u8 h.typ, .int .u32 h.id, .int .u32 h.adv] 46) ⟨g0, o, none⟩ P6.lt
        have a0 := (EA 0).trans p0; have a1 := (EA 1).trans p1; have a2 := (EA 2).trans p2
        have hb6 : Below wr.heap.size wr (wr.alloc (.cells #[.int .u8 h.typ, .int .u32 h.id, .int .u32 h.adv] 46)).drew := ((Below.refl _ _).alloc (Nat.le_refl _) _).drew
        have F6 := Lib.hid (And.intro (B6.later hb6) (And.intro (K6.later hb6) ((Below.refl _ w5).trans (below_then hbj.out hb6))))
        have HS6 : Hid ((fun W : World => W.cell? ⟨g, 2, none⟩ = some (.slice (some ⟨gk, 0, none⟩) N cap)) (wr.alloc (.cells #[.int .u8 h.typ, .int .u32 h.id, .int .u32 h.adv] 46)).drew) := Lib.hid (by have := F6.out.1.cell 2; simp at this; rw [HN.out] at this; exact this)
        clear EA K6 P6 B6 hb6 hsj hj d2
        go_wp2
        have hw1 : IntKind.i64.wrap ((j : Int) + 1) = j + 1 := by rw [IntKind.wrap_i64]; omega
        have hc1 : (j : Int) ≤ cap := by omega
        have hc0 : (0 : Int) ≤ (j : Int) + 1 := by omega
        have hN6 : N ≤ 1000000 := by have := F0.out.few; rw [HN.out] at this; exact this
        have hc2 : (j : Int) + 1 ≤ N := by omega
        refine wp_region_g (fun W : World => W.cell? ⟨g, 2, none⟩ = some (.slice (some ⟨gk, 0, none⟩) N cap))
          [.take 0, .take 1, .take 2, .take 3, .take 5, .take 6, .take 8, .take 9, .take 10, .take 12, .take 13, .take 4, .take 7, .take 11, .take 14, .one 15, .take 16, .take 17, .one 18] (by kernel_rfl) (fun _ d _ _ _ h => by cases d <;> exact h) ?_
        simp only [List.map_cons, List.map_nil, RStep.node, nthOp_zero, nthOp_succ]
        generalize (wr.alloc (.cells #[.int .u8 h.typ, .int .u32 h.id, .int .u32 h.adv] 46)).drew = w6 at *
        clear x0 x1 x2 p0 p1 p2 a0 a1 a2
        refine wpG_take HS6 (by rfl) (by intro W hW; go_simp; try with_reducible rfl) ?_
        refine wpG_take HS6 (by rfl) (by intro W hW; go_simp; try with_reducible rfl) ?_
        refine wpG_take HS6 (by rfl) (by intro W hW; go_simp; try with_reducible rfl) ?_
        refine wpG_take HS6 (by rfl) (by intro W hW; go_simp; try with_reducible rfl) ?_
        refine wpG_take HS6 (by rfl) (by intro W hW; go_simp; try with_reducible rfl) ?_
        refine wpG_take HS6 (by rfl) (by intro W hW; go_simp; try with_reducible rfl) ?_
        refine wpG_take HS6 (by rfl) (by intro W hW; go_simp; try with_reducible rfl) ?_
        refine wpG_take HS6 (by rfl) (by intro W hW; go_simp; try with_reducible rfl) ?_
        refine wpG_take HS6 (by rfl) (by intro W hW; go_simp; try with_reducible rfl) ?_
        refine wpG_take HS6 (by rfl) (by intro W hW; go_simp; try with_reducible rfl) ?_
        refine wpG_take HS6 (by rfl) (by intro W hW; go_simp; try with_reducible rfl) ?_
        refine wpG_take HS6 (by rfl) (by intro W hW; go_simp; try with_reducible rfl) ?_
        refine wpG_take HS6 (by rfl) (by intro W hW; go_simp; try with_reducible rfl) ?_
        refine wpG_take HS6 (by rfl) (by intro W hW; go_simp; try with_reducible rfl) ?_
        refine wpG_take HS6 (by rfl) (by intro W hW; go_simp; try with_reducible rfl) ?_
        generalize hA1 : (if cap = j + 1 then (some (⟨gk, 0, none⟩ : Addr)) else some ⟨gk, (j + 1) * 3, none⟩) = A1
        have HA1 := Lib.hid hA1.symm
        clear hA1
        have hof := Lib.hid (own_front F6.out.2.1 FT.out.2.1 (L := L) (i := j) (by rw [HN.out]; omega) (by rw [HN.out]; omega) hcm FT.out.1)
        have hrb := Lib.hid (reads_back F6.out.2.1 (L := L) (i := j) (cap := cap) (by rw [HN.out]; exact hiN) (by rw [HN.out]; exact hnc) FT.out.1 HA1.out)
        rw [HN.out] at hrb
        refine wpG_do fun K hK => ?_
        go_wp2_with (go_must (refine wpList_appW (A := A1) (m := N - (j + 1)) (c := cap - (j + 1)) el_key rfl (.tmp 47) (.tmp 54) rfl hof.out (by go_simp) hrb.out (by go_simp) (keysL_one _) (by simp only [maxLen]; omega) (by omega) ?_); intro v7 w7 ho7 hk7 hn7; have H7 := Lib.hid (And.intro ho7 (And.intro hk7 hn7)); clear ho7 hk7 hn7)
        have hgk : g ≠ gk := blk_ne F6.out.1 F6.out.2.1 (by decide)
        have hk67 : Kept (fun i => i = gk) w6 w7 := H7.out.2.1.mono (fun i _ e => by simp only [Value.ownBlock, Option.some.injEq] at e; exact e.symm)
        have B7 := F6.out.1.kept hk67 hgk
        have c2 := B7.cell 2
        have f2 := B7.frozen 2
        simp at c2
        rw [HN.out] at c2
        have HS7 : Hid (w7.cell? ⟨g, 2, none⟩ = some (.slice (some ⟨gk, 0, none⟩) N cap)) := Lib.hid c2
        obtain ⟨A7, c7, hv, -⟩ := H7.out.1.shape
        subst hv
        refine hK.out _ _ HS7.out ?_
        clear hK K HS6
        refine wpG_take HS7 (by rfl) (by intro W hW; clear hW; go_simp; try with_reducible rfl) ?_
        refine wpG_take HS7 (by rfl) (by intro W hW; clear hW; go_simp; try with_reducible rfl) ?_
        refine wpG_last fun K hK => ?_
        have H8 := Lib.hid (And.intro B7 hk67)
        clear B7 hk67
        go_wp2
        refine hK.out _ _ ?_
        clear hK K
        go_wp2
        go_ret
        have hs8 := kept_setC w7 g 2 (.slice A7 (j + (N - (j + 1))) c7)
        have k58 := ((Kept.of_new F6.out.2.2 (fun i => i = g ∨ i = gk)).trans H8.out.2 (fun _ _ e => .inr e)).trans hs8 (fun _ _ e => .inl e)
        have hlen : (L.eraseIdx j).length = j + (N - (j + 1)) := by rw [List.length_eraseIdx_of_lt (by rw [HN.out]; exact hiN), HN.out]; omega
        refine ⟨by rw [hhy.out]; rfl, fun i => F i ∨ (Value.slice A7 (j + (N - (j + 1))) c7).ownBlock = some i, ?_, ⟨fun i hi => .inl hi, fun i hi => ?_⟩, ?_⟩
        · rw [hdy.out]
          refine ⟨⟨_, H8.out.1.set_ 2 _, ?_, fun i hi => .inr hi⟩, ?_, .inl F0.out.fg, .inl F0.out.fb, fun s hs => ?_, fun s hs i hi => .inl (F0.out.bodies s (List.mem_of_mem_eraseIdx hs) i hi), ?_, ?_, fun i hi => hi.elim (fun e => Nat.lt_of_lt_of_le (F5.out.2.1.lt |> fun _ => F0.out.lim i e |> fun h1 => Nat.lt_of_lt_of_le h1 H5s.out) k58.size) (fun e => by have h1 := H7.out.1.lt e; simpa [World.setCell] using h1)⟩
          · rw [hlen, keysL_mem]
            exact H7.out.1.kept hs8 (fun i hi e => H7.out.1.ne_blk H8.out.1 (by decide) (e ▸ hi))
          · exact F5.out.1.kept k58 (fun e => e.elim hne (fun e => F5.out.1.ne_blk F5.out.2.2.2 e))
          · have h1 := FO.out s (List.mem_of_mem_eraseIdx hs)
            exact h1.kept k58 (fun i hi e => e.elim (fun e => h1.body.ne_blk F5.out.2.1 (by decide) (e ▸ hi)) (fun e => h1.body.ne_blk F5.out.2.2.2 (by decide) (e ▸ hi)))
          · exact F0.out.nodup.sublist ((List.eraseIdx_sublist L j).map _)
          · rw [hlen]; omega
        · rcases hi with hi | hi
          · exact .inl hi
          · rcases H7.out.2.2 with e | ⟨i', e, hge⟩
            · rw [e] at hi
              simp only [Value.ownBlock, Option.some.injEq] at hi
              exact .inl (hi ▸ hFg)
            · rw [e] at hi
              injection hi with hi
              have h1 := FK.out.size
              have h2 := F6.out.2.2.size
              exact .inr (by omega)
        · exact FK.out.trans k58 (fun i _ e => e.elim (fun e => e ▸ F0.out.fg) (fun e => e ▸ hFg))
      · have hkk : ¬ (sj.h.typ = h.typ ∧ sj.h.id = h.id ∧ sj.h.adv = h.adv) := fun ⟨e1, e2, e3⟩ => hji (nodup_at F0.out.nodup hsj HI.out (by simp only [SE.key, Hd.key, e1, e2, e3]))
        obtain ⟨hs', As, ns, cs, Bs⟩ := sj
        simp only at x0 x1 x2 hkk
        have EA := fun o => World.cell?_alloc_lt wr (.cells #[.int .u8 hs'.typ, .int .u32 hs'.id, .int .u32 hs'.adv] 46) ⟨g0, o, none⟩ P6.lt
        have a0 := (EA 0).trans p0; have a1 := (EA 1).trans p1; have a2 := (EA 2).trans p2
        clear EA K6 P6 B6 hsj d2
        go_wp2
        all_goals
          go_roundw
          case rel => exact ⟨j + 1, by go_num, by omega, Lib.hid (below_then hbj.out ((Below.refl _ _).alloc (Nat.le_refl _) _))⟩
          case measure => simp [intOf]; omega
  · have hno : ∀ s ∈ L, s.key ≠ (k1, k2, k3) := fun s hs e => hin ⟨s, hs, e⟩
    have hd := Lib.hid (dropL_no hno)
    have hh := Lib.hid (hasK_no hno)
    simp only [show lookedUp (L.map fun s => (s.key, s.v)) (k1, k2, k3) zeroSt true = .tuple #[zeroSt, .bool false] from by unfold lookedUp; rw [find_no hno]; rfl]
    clear hin hno
    refine wpS_take HS (by rfl) (by intro W hW; clear hW; go_simp; try with_reducible rfl) ?_
    refine wpS_take HS (by rfl) (by intro W hW; clear hW; go_simp; try with_reducible rfl) ?_
    refine wpS_take HS (by rfl) (by intro W hW; clear hW; go_simp; try with_reducible rfl) ?_
    refine wpS_do fun K hK => ?_
    go_wp2
    refine hK.out _ _ ⟨HS.out.1.later ((Below.refl _ _).alloc (Nat.le_refl _) _), HS.out.2.alloc _⟩ ?_
    clear hK K
    have hb2 : Hid (Below w1.heap.size w1 (w1.alloc (.cells #[.int .u16 0, .int .u8 0, .int .u8 0, .int .u32 0, .int .u32 0, .int .i32 0, .int .u16 0, .int .u16 0, .slice none 0 0] 44))) := (Below.refl _ _).alloc (Nat.le_refl _) _
    have HS2 : Hid ((fun W : World => LF W F g bm r t L ∧ Blk W g0 46 #[.int .u8 k1, .int .u32 k2, .int .u32 k3]) (w1.alloc (.cells #[.int .u16 0, .int .u8 0, .int .u8 0, .int .u32 0, .int .u32 0, .int .i32 0, .int .u16 0, .int .u16 0, .slice none 0 0] 44))) := Lib.hid ⟨HS.out.1.later hb2.out, HS.out.2.later hb2.out⟩
    refine wpS_do fun K hK => ?_
    go_wp2_with (refine wpList_store_row rfl 44 _ _ rfl w1.heap.size #[.int .u16 0, .int .u8 0, .int .u8 0, .int .u32 0, .int .u32 0, .int .i32 0, .int .u16 0, .int .u16 0, .slice none 0 0] rfl rfl 44 _ (heap_alloc_new w1 _) info_state rfl (by simp [Value.oneCell']) ?_; rw [World.setRow_alloc_new])
    refine hK.out _ _ HS2.out ?_
    clear hK K
    refine wpS_take HS2 (by rfl) (by intro W hW; clear hW; go_simp; try with_reducible rfl) ?_
    refine wpS_nil ?_
    go_wp2
    go_ret
    have hbw := hb1.out
    rw [← HG.out] at hbw
    refine ⟨by rw [hh.out]; rfl, F, by rw [hd.out]; exact HS2.out.1, Grew.refl _ _, Kept.of_new (below_then hbw hb2.out) _⟩
end Go.Proofs.Ytjkmehpokdaonaa
