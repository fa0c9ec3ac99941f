/-
  (*spread.List).Confirm, of any list.
-/
import Derived.Test.YtjkmehpokdaonaaLis4
namespace Go.Proofs.Ytjkmehpokdaonaa
set_option linter.unusedVariables false
open Go.RowKit

/-- Is it confirmed by a head? -/
def confB (L : List SE) (o : Hd) : Bool := match L.find? fun s => decide (s.key = o.key) with
  | some s => newerOf o s.h == 0
  | none => false
theorem confB_no {L : List SE} {o : Hd} (h : ∀ s ∈ L, s.key ≠ o.key) : confB L o = false := by
  unfold confB
  rw [List.find?_eq_none.2 (fun s hs => by simpa using h s hs)]
theorem confB_yes {L : List SE} {o : Hd} (hd : (L.map SE.key).Nodup) {i : Nat} {s : SE} (hi : L[i]? = some s) (hk : s.key = o.key) : confB L o = (newerOf o s.h == 0) := by
  unfold confB
  cases hf : L.find? fun s => decide (s.key = o.key) with
  | none => exact absurd hk (by simpa using List.find?_eq_none.1 hf s (List.mem_of_getElem? hi))
  | some s' =>
    have h1 : s'.key = o.key := by simpa using List.find?_some hf
    obtain ⟨j, hj⟩ := List.getElem?_of_mem (List.mem_of_find?_eq_some hf)
    have := nodup_at hd hi hj (hk.trans h1.symm)
    subst this
    rw [hi] at hj
    injection hj with hj
    rw [hj]
/-- What is left then. -/
def confL (L : List SE) (o : Hd) : List SE := if confB L o then dropL L o.key else L
theorem confL_yes {L : List SE} {o : Hd} (h : confB L o = true) : confL L o = dropL L o.key := by unfold confL; rw [if_pos h]
theorem confL_no {L : List SE} {o : Hd} (h : confB L o = false) : confL L o = L := by unfold confL; rw [if_neg (by simp [h])]
theorem info_head : (Try.prog.info? 25).map (·.size) = some 8 := by kernel_rfl
set_option maxRecDepth 100000 in
set_option maxHeartbeats 8000000 in
theorem confirmL_any (w : World) (F : Nat → Prop) (g bm : Nat) (r t : Int) (L : List SE) (o : Hd) (l : LF w F g bm r t L) (ho : o.ok) :
    Calls Try.prog 17 #[.pointer (some ⟨g, 0, none⟩), o.v] w fun e w' => e = .returned (.bool (confB L o)) ∧ ∃ F', LF w' F' g bm r t (confL L o) ∧ Grew w F F' ∧ Kept F w w' := by
  have hm : w.cell? ⟨g, 3, none⟩ = some (.map (some bm)) := l.map_cell
  have HN := Lib.hid (fun (W : World) (h : W.cell? ⟨g, 3, none⟩ = some (.map (some bm))) => none_any W g bm h)
  have hg := l.lt
  have HL := Lib.hid l
  have Hok := Lib.hid ho
  clear l ho
  obtain ⟨g0, hg0⟩ : ∃ g0, w.heap.size = g0 := ⟨_, rfl⟩
  have HG := Lib.hid hg0
  go_enter Try.func17, Try.ntmps17
  go_wp2_with (go_at_call 36; refine (HN.out _ (by rw [World.cell?_alloc_lt _ _ _ hg]; exact hm)).mono ?_; rintro e w' ⟨rfl, rfl⟩)
  have hb1 : Hid (Below w.heap.size w (w.alloc (.cells #[.int .u16 o.age, .int .u8 o.opts, .int .u8 o.typ, .int .u32 o.id, .int .u32 o.adv, .int .i32 o.seq, .int .u16 o.sum, .int .u16 o.len] 25)).drew) := ((Below.refl _ _).alloc (Nat.le_refl _) _).drew
  have HS : Hid ((fun W : World => LF W F g bm r t L ∧ Blk W g0 25 #[.int .u16 o.age, .int .u8 o.opts, .int .u8 o.typ, .int .u32 o.id, .int .u32 o.adv, .int .i32 o.seq, .int .u16 o.sum, .int .u16 o.len]) (w.alloc (.cells #[.int .u16 o.age, .int .u8 o.opts, .int .u8 o.typ, .int .u32 o.id, .int .u32 o.adv, .int .i32 o.seq, .int .u16 o.sum, .int .u16 o.len] 25)).drew) := Lib.hid ⟨HL.out.later hb1.out, by rw [← hg0]; exact Blk.new _ _ _⟩
  clear hm hg HN HL hg0
  refine wp_region_t (fun W : World => LF W F g bm r t L ∧ Blk W g0 25 #[.int .u16 o.age, .int .u8 o.opts, .int .u8 o.typ, .int .u32 o.id, .int .u32 o.adv, .int .i32 o.seq, .int .u16 o.sum, .int .u16 o.len])
    (.take 0 <| .take 1 <| .take 2 <| .take 3 <| .take 4 <| .fork 5 10 (.take 6 <| .take 7 <| .take 8 <| .take 9 <| .one 10 <| .one 11 <| .take 12 .nil) (.one 5 <| .take 6 <| .take 7 <| .take 8 <| .take 9 <| .one 11 <| .take 12 .nil)) (by kernel_rfl) (fun _ d _ _ _ h => by cases d <;> exact h) ?_
  simp only [TStep.node, nthOp_zero, nthOp_succ]
  generalize (w.alloc (.cells #[.int .u16 o.age, .int .u8 o.opts, .int .u8 o.typ, .int .u32 o.id, .int .u32 o.adv, .int .i32 o.seq, .int .u16 o.sum, .int .u16 o.len] 25)).drew = w1 at *
  refine wpT_take HS (by rfl) (by intro W hW; clear hW; go_simp; try with_reducible rfl) ?_
  refine wpT_take HS (by rfl) (by intro W hW; clear hW; go_simp; try with_reducible rfl) ?_
  refine wpT_take HS (by rfl) (by intro W hW; clear hW; go_simp; try with_reducible rfl) ?_
  refine wpT_take HS (by rfl) (by intro W hW; have j3 := hW.1.map_cell; clear hW; go_simp; try with_reducible rfl) ?_
  refine wpT_take HS (by rfl) (by intro W hW; obtain ⟨hW1, hW2⟩ := hW; have j0 := hW2.cell 0; have j1 := hW2.cell 1; have j2 := hW2.cell 2; have j3 := hW2.cell 3; have j4 := hW2.cell 4; have j5 := hW2.cell 5; have j6 := hW2.cell 6; have j7 := hW2.cell 7; clear hW1 hW2; simp at j0 j1 j2 j3 j4 j5 j6 j7; go_simp; try with_reducible rfl) ?_
  by_cases hin : ∃ s ∈ L, s.key = o.key
  · obtain ⟨i, s, hi, hk, hff⟩ := find_yes hin
    have hf := Lib.hid hff
    have hcn := Lib.hid (confB_yes HS.out.1.nodup hi hk)
    have hhk := Lib.hid (hasK_yes hi hk)
    have HM := Lib.hid (List.mem_of_getElem? hi)
    obtain ⟨h, A, n, c, B⟩ := s
    simp only at hcn
    clear hff hin hi hk
    refine wpT_fork (fun K hK => ?_) (fun K hK => ?_)
    · go_wp2_with fail
      refine (key_any o w1).mono ?_
      rintro e w2 ⟨rfl, hb2⟩
      have H2 := Lib.hid hb2
      clear hb2
      go_wp2_with fail
      have HS2 : Hid ((fun W : World => LF W F g bm r t L ∧ Blk W g0 25 #[.int .u16 o.age, .int .u8 o.opts, .int .u8 o.typ, .int .u32 o.id, .int .u32 o.adv, .int .i32 o.seq, .int .u16 o.sum, .int .u16 o.len]) w2) := Lib.hid ⟨HS.out.1.later H2.out, HS.out.2.later H2.out⟩
      refine hK.out _ _ HS2.out ?_
      clear hK K
      refine wpT_take HS2 (by rfl) (fun W hW => exec_lookupL (a := o.key) keyT Try.underlying53 zeroState rfl hW.1.map rfl rfl) ?_
      simp only [show lookedUp (L.map fun s => (s.key, s.v)) o.key zeroSt true = .tuple #[stV h A n c, .bool true] from by unfold lookedUp; rw [hf.out]; rfl]
      refine wpT_take HS2 (by rfl) (by intro W hW; clear hW; go_simp; try with_reducible rfl) ?_
      refine wpT_take HS2 (by rfl) (by intro W hW; clear hW; go_simp; try with_reducible rfl) ?_
      refine wpT_take HS2 (by rfl) (by intro W hW; clear hW; go_simp; try with_reducible rfl) ?_
      refine wpT_do fun K hK => ?_
      go_wp2
      refine hK.out _ _ ⟨HS2.out.1.later ((Below.refl _ _).alloc (Nat.le_refl _) _), HS2.out.2.later ((Below.refl _ _).alloc (Nat.le_refl _) _)⟩ ?_
      clear hK K
      refine wpT_do fun K hK => ?_
      go_wp2_with (go_must (refine wpList_store_row rfl 44 _ _ rfl w2.heap.size #[.int .u16 h.age, .int .u8 h.opts, .int .u8 h.typ, .int .u32 h.id, .int .u32 h.adv, .int .i32 h.seq, .int .u16 h.sum, .int .u16 h.len, .slice A n c] rfl rfl 44 _ (heap_alloc_new w2 _) info_state rfl (by simp [Value.oneCell']) ?_); rw [World.setRow_alloc_new])
      have hb3 : Hid (Below w2.heap.size w2 (w2.alloc (.cells #[.int .u16 h.age, .int .u8 h.opts, .int .u8 h.typ, .int .u32 h.id, .int .u32 h.adv, .int .i32 h.seq, .int .u16 h.sum, .int .u16 h.len, .slice A n c] 44))) := (Below.refl _ _).alloc (Nat.le_refl _) _
      have HS3 : Hid ((fun W : World => LF W F g bm r t L ∧ Blk W g0 25 #[.int .u16 o.age, .int .u8 o.opts, .int .u8 o.typ, .int .u32 o.id, .int .u32 o.adv, .int .i32 o.seq, .int .u16 o.sum, .int .u16 o.len]) (w2.alloc (.cells #[.int .u16 h.age, .int .u8 h.opts, .int .u8 h.typ, .int .u32 h.id, .int .u32 h.adv, .int .i32 h.seq, .int .u16 h.sum, .int .u16 h.len, .slice A n c] 44))) := Lib.hid ⟨HS2.out.1.later hb3.out, HS2.out.2.later hb3.out⟩
      have HQ : Hid (Blk (w2.alloc (.cells #[.int .u16 h.age, .int .u8 h.opts, .int .u8 h.typ, .int .u32 h.id, .int .u32 h.adv, .int .i32 h.seq, .int .u16 h.sum, .int .u16 h.len, .slice A n c] 44)) w2.heap.size 44 #[.int .u16 h.age, .int .u8 h.opts, .int .u8 h.typ, .int .u32 h.id, .int .u32 h.adv, .int .i32 h.seq, .int .u16 h.sum, .int .u16 h.len, .slice A n c]) := Blk.new _ _ _
      have HBW : Hid (Below w.heap.size w (w2.alloc (.cells #[.int .u16 h.age, .int .u8 h.opts, .int .u8 h.typ, .int .u32 h.id, .int .u32 h.adv, .int .i32 h.seq, .int .u16 h.sum, .int .u16 h.len, .slice A n c] 44))) := Lib.hid (below_then hb1.out (below_then H2.out hb3.out))
      refine hK.out _ _ HS3.out ?_
      clear hK K HS HS2 H2 hb3 hb1
      generalize w2.alloc (.cells #[.int .u16 h.age, .int .u8 h.opts, .int .u8 h.typ, .int .u32 h.id, .int .u32 h.adv, .int .i32 h.seq, .int .u16 h.sum, .int .u16 h.len, .slice A n c] 44) = w3 at *
      generalize w2.heap.size = gs at *
      refine wpT_take HS3 (by rfl) (by intro W hW; clear hW; go_simp; try with_reducible rfl) ?_
      refine wpT_nil ?_
      have e0 := HS3.out.2.cell 0; have e1 := HS3.out.2.cell 1; have e2 := HS3.out.2.cell 2; have e3 := HS3.out.2.cell 3; have e4 := HS3.out.2.cell 4; have e5 := HS3.out.2.cell 5; have e6 := HS3.out.2.cell 6; have e7 := HS3.out.2.cell 7
      have i0 := HQ.out.cell 0; have i1 := HQ.out.cell 1; have i2 := HQ.out.cell 2; have i3 := HQ.out.cell 3; have i4 := HQ.out.cell 4; have i5 := HQ.out.cell 5; have i6 := HQ.out.cell 6; have i7 := HQ.out.cell 7
      simp at e0 e1 e2 e3 e4 e5 e6 e7 i0 i1 i2 i3 i4 i5 i6 i7
      have hho := (HS3.out.1.ok _ HM.out).head
      have HNW := Lib.hid (fun W => newer_any o h W Hok.out hho)
      clear hho
      rcases Decidable.em (newerOf o h = 0) with hn | hn
      · have hn2 := Lib.hid hn
        clear hn
        go_wp2_with (go_at_call 30; refine (HNW.out w3).mono ?_; rintro e w5 ⟨rfl, hb5⟩; have H5 := Lib.hid hb5; clear hb5; rw [hn2.out]; have P5 := HS3.out.2.later H5.out; clear e0 e1 e2 e3 e4 e5 e6 e7 i0 i1 i2 i3 i4 i5 i6 i7; have e0 := P5.cell 0; have e1 := P5.cell 1; have e2 := P5.cell 2; have e3 := P5.cell 3; have e4 := P5.cell 4; have e5 := P5.cell 5; have e6 := P5.cell 6; have e7 := P5.cell 7; clear P5; simp at e0 e1 e2 e3 e4 e5 e6 e7)
        refine (key_any o w5).mono ?_
        rintro e w6 ⟨rfl, hb6⟩
        have F6 := HS3.out.1.later (below_then H5.out hb6)
        have B6 := Lib.hid (below_then HBW.out (below_then H5.out hb6))
        clear e0 e1 e2 e3 e4 e5 e6 e7 H5 hb6 HS3 HQ HBW
        go_wp2_with fail
        refine (drop_any w6 F g bm r t L o.key F6).mono ?_
        rintro e w7 ⟨rfl, F', hl7, hg7, hk7⟩
        have H7 := Lib.hid (And.intro hl7 (And.intro hg7 hk7))
        clear hl7 hg7 hk7 F6
        go_wp2_with fail
        go_ret
        have hct : confB L o = true := by rw [hcn.out, hn2.out]; rfl
        rw [confL_yes hct, hct]
        exact ⟨by rw [hhk.out]; rfl, F', H7.out.1, ⟨H7.out.2.1.1, fun i hi => (H7.out.2.1.2 i hi).elim .inl (fun e => .inr (Nat.le_trans B6.out.size e))⟩, (Kept.of_new B6.out F).trans H7.out.2.2 (fun _ _ h => h)⟩
      · have hb : (newerOf o h == 0) = false := by rw [beq_eq_false_iff_ne]; exact hn
        have hb2 := Lib.hid hb
        go_wp2_with (go_at_call 30; refine (HNW.out w3).mono ?_; rintro e w5 ⟨rfl, hb5⟩; have H5 := Lib.hid hb5; clear hb5)
        go_ret
        have hct : confB L o = false := by rw [hcn.out, hb2.out]
        rw [confL_no hct, hct]
        exact ⟨by first | rfl | (rw [hb2.out]; rfl), F, HS3.out.1.later H5.out, Grew.refl _ _, Kept.of_new (below_then HBW.out H5.out) _⟩
    · go_wp2
      have hb2 : Hid (Below w1.heap.size w1 (w1.alloc (.cells #[.int .u16 0, .int .u8 0, .int .u8 0, .int .u32 0, .int .u32 0, .int .i32 0, .int .u16 0, .int .u16 0, .slice none 0 0] 44))) := (Below.refl _ _).alloc (Nat.le_refl _) _
      have HZ : Hid (Blk (w1.alloc (.cells #[.int .u16 0, .int .u8 0, .int .u8 0, .int .u32 0, .int .u32 0, .int .i32 0, .int .u16 0, .int .u16 0, .slice none 0 0] 44)) w1.heap.size 44 #[.int .u16 0, .int .u8 0, .int .u8 0, .int .u32 0, .int .u32 0, .int .i32 0, .int .u16 0, .int .u16 0, .slice none 0 0]) := Blk.new _ _ _
      have HS2 : Hid ((fun W : World => LF W F g bm r t L ∧ Blk W g0 25 #[.int .u16 o.age, .int .u8 o.opts, .int .u8 o.typ, .int .u32 o.id, .int .u32 o.adv, .int .i32 o.seq, .int .u16 o.sum, .int .u16 o.len]) (w1.alloc (.cells #[.int .u16 0, .int .u8 0, .int .u8 0, .int .u32 0, .int .u32 0, .int .i32 0, .int .u16 0, .int .u16 0, .slice none 0 0] 44))) := Lib.hid ⟨HS.out.1.later hb2.out, HS.out.2.later hb2.out⟩
      refine hK.out _ _ HS2.out ?_
      clear hK K
      generalize w1.alloc (.cells #[.int .u16 0, .int .u8 0, .int .u8 0, .int .u32 0, .int .u32 0, .int .i32 0, .int .u16 0, .int .u16 0, .slice none 0 0] 44) = w2 at *
      refine wpT_do fun K hK => ?_
      go_wp2_with fail
      refine (key_any o w2).mono ?_
      rintro e w3 ⟨rfl, hb3⟩
      have H3 := Lib.hid hb3
      clear hb3
      go_wp2_with fail
      have HS3 : Hid ((fun W : World => LF W F g bm r t L ∧ Blk W g0 25 #[.int .u16 o.age, .int .u8 o.opts, .int .u8 o.typ, .int .u32 o.id, .int .u32 o.adv, .int .i32 o.seq, .int .u16 o.sum, .int .u16 o.len]) w3) := Lib.hid ⟨HS2.out.1.later H3.out, HS2.out.2.later H3.out⟩
      have HZ3 : Blk w3 w1.heap.size 44 #[.int .u16 0, .int .u8 0, .int .u8 0, .int .u32 0, .int .u32 0, .int .i32 0, .int .u16 0, .int .u16 0, .slice none 0 0] := HZ.out.later H3.out
      refine hK.out _ _ HS3.out ?_
      clear hK K
      refine wpT_take HS3 (by rfl) (fun W hW => exec_lookupL (a := o.key) keyT Try.underlying53 zeroState rfl hW.1.map rfl rfl) ?_
      simp only [show lookedUp (L.map fun s => (s.key, s.v)) o.key zeroSt true = .tuple #[stV h A n c, .bool true] from by unfold lookedUp; rw [hf.out]; rfl]
      refine wpT_take HS3 (by rfl) (by intro W hW; clear hW; go_simp; try with_reducible rfl) ?_
      refine wpT_take HS3 (by rfl) (by intro W hW; clear hW; go_simp; try with_reducible rfl) ?_
      refine wpT_take HS3 (by rfl) (by intro W hW; clear hW; go_simp; try with_reducible rfl) ?_
      refine wpT_do fun K hK => ?_
      go_wp2_with (go_must (refine wpList_store_row rfl 44 _ _ rfl w1.heap.size #[.int .u16 h.age, .int .u8 h.opts, .int .u8 h.typ, .int .u32 h.id, .int .u32 h.adv, .int .i32 h.seq, .int .u16 h.sum, .int .u16 h.len, .slice A n c] rfl rfl 44 _ HZ3 info_state rfl (by simp [Value.oneCell']) ?_))
      have hb4 : Below w1.heap.size w1 (w3.setRow w1.heap.size #[.int .u16 h.age, .int .u8 h.opts, .int .u8 h.typ, .int .u32 h.id, .int .u32 h.adv, .int .i32 h.seq, .int .u16 h.sum, .int .u16 h.len, .slice A n c]) := below_setRow (below_then hb2.out H3.out) (Nat.le_refl _) _
      have HS4 : Hid ((fun W : World => LF W F g bm r t L ∧ Blk W g0 25 #[.int .u16 o.age, .int .u8 o.opts, .int .u8 o.typ, .int .u32 o.id, .int .u32 o.adv, .int .i32 o.seq, .int .u16 o.sum, .int .u16 o.len]) (w3.setRow w1.heap.size #[.int .u16 h.age, .int .u8 h.opts, .int .u8 h.typ, .int .u32 h.id, .int .u32 h.adv, .int .i32 h.seq, .int .u16 h.sum, .int .u16 h.len, .slice A n c])) := Lib.hid ⟨HS.out.1.later hb4, HS.out.2.later hb4⟩
      have HQ : Hid (Blk (w3.setRow w1.heap.size #[.int .u16 h.age, .int .u8 h.opts, .int .u8 h.typ, .int .u32 h.id, .int .u32 h.adv, .int .i32 h.seq, .int .u16 h.sum, .int .u16 h.len, .slice A n c]) w1.heap.size 44 #[.int .u16 h.age, .int .u8 h.opts, .int .u8 h.typ, .int .u32 h.id, .int .u32 h.adv, .int .i32 h.seq, .int .u16 h.sum, .int .u16 h.len, .slice A n c]) := HZ3.setRow _
      have HBW : Hid (Below w.heap.size w (w3.setRow w1.heap.size #[.int .u16 h.age, .int .u8 h.opts, .int .u8 h.typ, .int .u32 h.id, .int .u32 h.adv, .int .i32 h.seq, .int .u16 h.sum, .int .u16 h.len, .slice A n c])) := Lib.hid (below_then hb1.out hb4)
      refine hK.out _ _ HS4.out ?_
      clear hK K HS HS2 HS3 H3 hb4 HZ3 HZ hb2 hb1
      generalize w3.setRow w1.heap.size #[.int .u16 h.age, .int .u8 h.opts, .int .u8 h.typ, .int .u32 h.id, .int .u32 h.adv, .int .i32 h.seq, .int .u16 h.sum, .int .u16 h.len, .slice A n c] = w4 at *
      generalize w1.heap.size = gs at *
      refine wpT_take HS4 (by rfl) (by intro W hW; clear hW; go_simp; try with_reducible rfl) ?_
      refine wpT_nil ?_
      have e0 := HS4.out.2.cell 0; have e1 := HS4.out.2.cell 1; have e2 := HS4.out.2.cell 2; have e3 := HS4.out.2.cell 3; have e4 := HS4.out.2.cell 4; have e5 := HS4.out.2.cell 5; have e6 := HS4.out.2.cell 6; have e7 := HS4.out.2.cell 7
      have i0 := HQ.out.cell 0; have i1 := HQ.out.cell 1; have i2 := HQ.out.cell 2; have i3 := HQ.out.cell 3; have i4 := HQ.out.cell 4; have i5 := HQ.out.cell 5; have i6 := HQ.out.cell 6; have i7 := HQ.out.cell 7
      simp at e0 e1 e2 e3 e4 e5 e6 e7 i0 i1 i2 i3 i4 i5 i6 i7
      have hho := (HS4.out.1.ok _ HM.out).head
      have HNW := Lib.hid (fun W => newer_any o h W Hok.out hho)
      clear hho
      rcases Decidable.em (newerOf o h = 0) with hn | hn
      · have hn2 := Lib.hid hn
        clear hn
        go_wp2_with (go_at_call 30; refine (HNW.out w4).mono ?_; rintro e w5 ⟨rfl, hb5⟩; have H5 := Lib.hid hb5; clear hb5; rw [hn2.out]; have P5 := HS4.out.2.later H5.out; clear e0 e1 e2 e3 e4 e5 e6 e7 i0 i1 i2 i3 i4 i5 i6 i7; have e0 := P5.cell 0; have e1 := P5.cell 1; have e2 := P5.cell 2; have e3 := P5.cell 3; have e4 := P5.cell 4; have e5 := P5.cell 5; have e6 := P5.cell 6; have e7 := P5.cell 7; clear P5; simp at e0 e1 e2 e3 e4 e5 e6 e7)
        refine (key_any o w5).mono ?_
        rintro e w6 ⟨rfl, hb6⟩
        have F6 := HS4.out.1.later (below_then H5.out hb6)
        have B6 := Lib.hid (below_then HBW.out (below_then H5.out hb6))
        clear e0 e1 e2 e3 e4 e5 e6 e7 H5 hb6 HS4 HQ HBW
        go_wp2_with fail
        refine (drop_any w6 F g bm r t L o.key F6).mono ?_
        rintro e w7 ⟨rfl, F', hl7, hg7, hk7⟩
        have H7 := Lib.hid (And.intro hl7 (And.intro hg7 hk7))
        clear hl7 hg7 hk7 F6
        go_wp2_with fail
        go_ret
        have hct : confB L o = true := by rw [hcn.out, hn2.out]; rfl
        rw [confL_yes hct, hct]
        exact ⟨by rw [hhk.out]; rfl, F', H7.out.1, ⟨H7.out.2.1.1, fun i hi => (H7.out.2.1.2 i hi).elim .inl (fun e => .inr (Nat.le_trans B6.out.size e))⟩, (Kept.of_new B6.out F).trans H7.out.2.2 (fun _ _ h => h)⟩
      · have hb : (newerOf o h == 0) = false := by rw [beq_eq_false_iff_ne]; exact hn
        have hb2 := Lib.hid hb
        go_wp2_with (go_at_call 30; refine (HNW.out w4).mono ?_; rintro e w5 ⟨rfl, hb5⟩; have H5 := Lib.hid hb5; clear hb5)
        go_ret
        have hct : confB L o = false := by rw [hcn.out, hb2.out]
        rw [confL_no hct, hct]
        exact ⟨by first | rfl | (rw [hb2.out]; rfl), F, HS4.out.1.later H5.out, Grew.refl _ _, Kept.of_new (below_then HBW.out H5.out) _⟩
  · have hno : ∀ s ∈ L, s.key ≠ o.key := fun s hs e => hin ⟨s, hs, e⟩
    have hf := Lib.hid (find_no hno)
    have hcn := Lib.hid (confB_no hno)
    clear hin hno
    refine wpT_fork (fun K hK => ?_) (fun K hK => ?_)
    · go_wp2_with fail
      refine (key_any o w1).mono ?_
      rintro e w2 ⟨rfl, hb2⟩
      have H2 := Lib.hid hb2
      clear hb2
      go_wp2_with fail
      have HS2 : Hid ((fun W : World => LF W F g bm r t L ∧ Blk W g0 25 #[.int .u16 o.age, .int .u8 o.opts, .int .u8 o.typ, .int .u32 o.id, .int .u32 o.adv, .int .i32 o.seq, .int .u16 o.sum, .int .u16 o.len]) w2) := Lib.hid ⟨HS.out.1.later H2.out, HS.out.2.later H2.out⟩
      refine hK.out _ _ HS2.out ?_
      clear hK K
      refine wpT_take HS2 (by rfl) (fun W hW => exec_lookupL (a := o.key) keyT Try.underlying53 zeroState rfl hW.1.map rfl rfl) ?_
      simp only [show lookedUp (L.map fun s => (s.key, s.v)) o.key zeroSt true = .tuple #[zeroSt, .bool false] from by unfold lookedUp; rw [hf.out]; rfl]
      refine wpT_take HS2 (by rfl) (by intro W hW; clear hW; go_simp; try with_reducible rfl) ?_
      refine wpT_take HS2 (by rfl) (by intro W hW; clear hW; go_simp; try with_reducible rfl) ?_
      refine wpT_take HS2 (by rfl) (by intro W hW; clear hW; go_simp; try with_reducible rfl) ?_
      refine wpT_do fun K hK => ?_
      go_wp2
      refine hK.out _ _ ⟨HS2.out.1.later ((Below.refl _ _).alloc (Nat.le_refl _) _), HS2.out.2.later ((Below.refl _ _).alloc (Nat.le_refl _) _)⟩ ?_
      clear hK K
      refine wpT_do fun K hK => ?_
      go_wp2_with (go_must (refine wpList_store_row rfl 44 _ _ rfl w2.heap.size #[.int .u16 0, .int .u8 0, .int .u8 0, .int .u32 0, .int .u32 0, .int .i32 0, .int .u16 0, .int .u16 0, .slice none 0 0] rfl rfl 44 _ (heap_alloc_new w2 _) info_state rfl (by simp [Value.oneCell']) ?_); rw [World.setRow_alloc_new])
      have hb3 : Hid (Below w2.heap.size w2 (w2.alloc (.cells #[.int .u16 0, .int .u8 0, .int .u8 0, .int .u32 0, .int .u32 0, .int .i32 0, .int .u16 0, .int .u16 0, .slice none 0 0] 44))) := (Below.refl _ _).alloc (Nat.le_refl _) _
      have HS3 : Hid ((fun W : World => LF W F g bm r t L ∧ Blk W g0 25 #[.int .u16 o.age, .int .u8 o.opts, .int .u8 o.typ, .int .u32 o.id, .int .u32 o.adv, .int .i32 o.seq, .int .u16 o.sum, .int .u16 o.len]) (w2.alloc (.cells #[.int .u16 0, .int .u8 0, .int .u8 0, .int .u32 0, .int .u32 0, .int .i32 0, .int .u16 0, .int .u16 0, .slice none 0 0] 44))) := Lib.hid ⟨HS2.out.1.later hb3.out, HS2.out.2.later hb3.out⟩
      have HQ : Hid (Blk (w2.alloc (.cells #[.int .u16 0, .int .u8 0, .int .u8 0, .int .u32 0, .int .u32 0, .int .i32 0, .int .u16 0, .int .u16 0, .slice none 0 0] 44)) w2.heap.size 44 #[.int .u16 0, .int .u8 0, .int .u8 0, .int .u32 0, .int .u32 0, .int .i32 0, .int .u16 0, .int .u16 0, .slice none 0 0]) := Blk.new _ _ _
      have HBW : Hid (Below w.heap.size w (w2.alloc (.cells #[.int .u16 0, .int .u8 0, .int .u8 0, .int .u32 0, .int .u32 0, .int .i32 0, .int .u16 0, .int .u16 0, .slice none 0 0] 44))) := Lib.hid (below_then hb1.out (below_then H2.out hb3.out))
      refine hK.out _ _ HS3.out ?_
      clear hK K HS HS2 H2 hb3 hb1
      generalize w2.alloc (.cells #[.int .u16 0, .int .u8 0, .int .u8 0, .int .u32 0, .int .u32 0, .int .i32 0, .int .u16 0, .int .u16 0, .slice none 0 0] 44) = w3 at *
      generalize w2.heap.size = gs at *
      refine wpT_take HS3 (by rfl) (by intro W hW; clear hW; go_simp; try with_reducible rfl) ?_
      refine wpT_nil ?_
      go_wp2
      go_ret
      exact ⟨by rw [hcn.out]; rfl, F, by rw [confL_no hcn.out]; exact HS3.out.1, Grew.refl _ _, Kept.of_new HBW.out _⟩
    · go_wp2
      have hb2 : Hid (Below w1.heap.size w1 (w1.alloc (.cells #[.int .u16 0, .int .u8 0, .int .u8 0, .int .u32 0, .int .u32 0, .int .i32 0, .int .u16 0, .int .u16 0, .slice none 0 0] 44))) := (Below.refl _ _).alloc (Nat.le_refl _) _
      have HZ : Hid (Blk (w1.alloc (.cells #[.int .u16 0, .int .u8 0, .int .u8 0, .int .u32 0, .int .u32 0, .int .i32 0, .int .u16 0, .int .u16 0, .slice none 0 0] 44)) w1.heap.size 44 #[.int .u16 0, .int .u8 0, .int .u8 0, .int .u32 0, .int .u32 0, .int .i32 0, .int .u16 0, .int .u16 0, .slice none 0 0]) := Blk.new _ _ _
      have HS2 : Hid ((fun W : World => LF W F g bm r t L ∧ Blk W g0 25 #[.int .u16 o.age, .int .u8 o.opts, .int .u8 o.typ, .int .u32 o.id, .int .u32 o.adv, .int .i32 o.seq, .int .u16 o.sum, .int .u16 o.len]) (w1.alloc (.cells #[.int .u16 0, .int .u8 0, .int .u8 0, .int .u32 0, .int .u32 0, .int .i32 0, .int .u16 0, .int .u16 0, .slice none 0 0] 44))) := Lib.hid ⟨HS.out.1.later hb2.out, HS.out.2.later hb2.out⟩
      refine hK.out _ _ HS2.out ?_
      clear hK K
      generalize w1.alloc (.cells #[.int .u16 0, .int .u8 0, .int .u8 0, .int .u32 0, .int .u32 0, .int .i32 0, .int .u16 0, .int .u16 0, .slice none 0 0] 44) = w2 at *
      refine wpT_do fun K hK => ?_
      go_wp2_with fail
      refine (key_any o w2).mono ?_
      rintro e w3 ⟨rfl, hb3⟩
      have H3 := Lib.hid hb3
      clear hb3
      go_wp2_with fail
      have HS3 : Hid ((fun W : World => LF W F g bm r t L ∧ Blk W g0 25 #[.int .u16 o.age, .int .u8 o.opts, .int .u8 o.typ, .int .u32 o.id, .int .u32 o.adv, .int .i32 o.seq, .int .u16 o.sum, .int .u16 o.len]) w3) := Lib.hid ⟨HS2.out.1.later H3.out, HS2.out.2.later H3.out⟩
      have HZ3 : Blk w3 w1.heap.size 44 #[.int .u16 0, .int .u8 0, .int .u8 0, .int .u32 0, .int .u32 0, .int .i32 0, .int .u16 0, .int .u16 0, .slice none 0 0] := HZ.out.later H3.out
      refine hK.out _ _ HS3.out ?_
      clear hK K
      refine wpT_take HS3 (by rfl) (fun W hW => exec_lookupL (a := o.key) keyT Try.underlying53 zeroState rfl hW.1.map rfl rfl) ?_
      simp only [show lookedUp (L.map fun s => (s.key, s.v)) o.key zeroSt true = .tuple #[zeroSt, .bool false] from by unfold lookedUp; rw [hf.out]; rfl]
      refine wpT_take HS3 (by rfl) (by intro W hW; clear hW; go_simp; try with_reducible rfl) ?_
      refine wpT_take HS3 (by rfl) (by intro W hW; clear hW; go_simp; try with_reducible rfl) ?_
      refine wpT_take HS3 (by rfl) (by intro W hW; clear hW; go_simp; try with_reducible rfl) ?_
      refine wpT_do fun K hK => ?_
      go_wp2_with (go_must (refine wpList_store_row rfl 44 _ _ rfl w1.heap.size #[.int .u16 0, .int .u8 0, .int .u8 0, .int .u32 0, .int .u32 0, .int .i32 0, .int .u16 0, .int .u16 0, .slice none 0 0] rfl rfl 44 _ HZ3 info_state rfl (by simp [Value.oneCell']) ?_))
      have hb4 : Below w1.heap.size w1 (w3.setRow w1.heap.size #[.int .u16 0, .int .u8 0, .int .u8 0, .int .u32 0, .int .u32 0, .int .i32 0, .int .u16 0, .int .u16 0, .slice none 0 0]) := below_setRow (below_then hb2.out H3.out) (Nat.le_refl _) _
      have HS4 : Hid ((fun W : World => LF W F g bm r t L ∧ Blk W g0 25 #[.int .u16 o.age, .int .u8 o.opts, .int .u8 o.typ, .int .u32 o.id, .int .u32 o.adv, .int .i32 o.seq, .int .u16 o.sum, .int .u16 o.len]) (w3.setRow w1.heap.size #[.int .u16 0, .int .u8 0, .int .u8 0, .int .u32 0, .int .u32 0, .int .i32 0, .int .u16 0, .int .u16 0, .slice none 0 0])) := Lib.hid ⟨HS.out.1.later hb4, HS.out.2.later hb4⟩
      have HQ : Hid (Blk (w3.setRow w1.heap.size #[.int .u16 0, .int .u8 0, .int .u8 0, .int .u32 0, .int .u32 0, .int .i32 0, .int .u16 0, .int .u16 0, .slice none 0 0]) w1.heap.size 44 #[.int .u16 0, .int .u8 0, .int .u8 0, .int .u32 0, .int .u32 0, .int .i32 0, .int .u16 0, .int .u16 0, .slice none 0 0]) := HZ3.setRow _
      have HBW : Hid (Below w.heap.size w (w3.setRow w1.heap.size #[.int .u16 0, .int .u8 0, .int .u8 0, .int .u32 0, .int .u32 0, .int .i32 0, .int .u16 0, .int .u16 0, .slice none 0 0])) := Lib.hid (below_then hb1.out hb4)
      refine hK.out _ _ HS4.out ?_
      clear hK K HS HS2 HS3 H3 hb4 HZ3 HZ hb2 hb1
      generalize w3.setRow w1.heap.size #[.int .u16 0, .int .u8 0, .int .u8 0, .int .u32 0, .int .u32 0, .int .i32 0, .int .u16 0, .int .u16 0, .slice none 0 0] = w4 at *
      generalize w1.heap.size = gs at *
      refine wpT_take HS4 (by rfl) (by intro W hW; clear hW; go_simp; try with_reducible rfl) ?_
      refine wpT_nil ?_
      go_wp2
      go_ret
      exact ⟨by rw [hcn.out]; rfl, F, by rw [confL_no hcn.out]; exact HS4.out.1, Grew.refl _ _, Kept.of_new HBW.out _⟩
end Go.Proofs.Ytjkmehpokdaonaa
