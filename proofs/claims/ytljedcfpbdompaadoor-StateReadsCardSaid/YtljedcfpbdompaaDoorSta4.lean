/-
  Read: a state taken from the beginning of bytes.
-/
import Derived.Test.YtljedcfpbdompaaDoorSta3
namespace Go.Proofs.YtljedcfpbdompaaDoor
set_option linter.unusedVariables false
open Go.RowKit Go.ChangeShapes Go.WideShapes

/-- What Read tells. -/
def rdE (xs : List Int) : Int := if xs.length < 20 then 10 else if (hdAt xs 0).len < 20 then 22 else if (xs.length : Int) < (hdAt xs 0).len then 10 else 0
theorem rh_yes {xs : List Int} (h : 20 ≤ xs.length) : rhH xs = hdAt xs 0 ∧ rhE xs = 0 := ⟨by unfold rhH; rw [if_neg (by omega)], by unfold rhE; rw [if_neg (by omega)]⟩
theorem rh_no {xs : List Int} (h : xs.length < 20) : rhH xs = ⟨0, 0, 0, 0, 0, 0, 0, 0⟩ ∧ rhE xs = 10 := ⟨by unfold rhH; rw [if_pos h], by unfold rhE; rw [if_pos h]⟩
def HdBl (W : World) (gh : Nat) (h : Hd) : Prop := W.cell? ⟨gh, 0, none⟩ = some (.int .u16 h.age) ∧ W.cell? ⟨gh, 1, none⟩ = some (.int .u8 h.opts) ∧ W.cell? ⟨gh, 2, none⟩ = some (.int .u8 h.typ) ∧ W.cell? ⟨gh, 3, none⟩ = some (.int .u32 h.id) ∧ W.cell? ⟨gh, 4, none⟩ = some (.int .u32 h.adv) ∧
    W.cell? ⟨gh, 5, none⟩ = some (.int .i32 h.seq) ∧ W.cell? ⟨gh, 6, none⟩ = some (.int .u16 h.sum) ∧ W.cell? ⟨gh, 7, none⟩ = some (.int .u16 h.len)
theorem HdBlk.cells {W : World} {gh : Nat} {h : Hd} (b : HdBlk W gh h) : HdBl W gh h := by
  unfold HdBlk at b
  exact ⟨b.cell 0, b.cell 1, b.cell 2, b.cell 3, b.cell 4, b.cell 5, b.cell 6, b.cell 7⟩
set_option maxRecDepth 100000 in
set_option maxHeartbeats 8000000 in
theorem read_no (A : Option Addr) (n c : Nat) (xs : List Int) (w : World) (hx : Reads w w.heap.size 1 A n (u8s xs)) (ho : Oct xs) (hc : n ≤ c) (hcm : c ≤ 9223372036854775807) (hn : n ≤ 140737488355328) (he : rdE xs ≠ 0) :
    Calls Tryd.prog 8 #[.slice A n c] w fun e w' => e = .returned (.tuple #[zeroSt, .int .i64 0, .int .i64 (rdE xs)]) ∧ Below w.heap.size w w' := by
  have hl := hx.u8len
  have hb0 : Below w.heap.size w (w.alloc (.cells zC 33)) := (Below.refl _ _).alloc (Nat.le_refl _) _
  have HZ := Lib.hid (Blk.new w 33 zC)
  have HB := Lib.hid hb0
  have HX := Lib.hid (And.intro (hx.later hb0) (And.intro ho hl))
  have HC : Hid ((xs.length < 20 ∧ rdE xs = 10) ∨ (20 ≤ xs.length ∧ (hdAt xs 0).len < 20 ∧ rdE xs = 22) ∨ (20 ≤ xs.length ∧ ¬ (hdAt xs 0).len < 20 ∧ (xs.length : Int) < (hdAt xs 0).len ∧ rdE xs = 10)) := Lib.hid (by
    unfold rdE at *
    by_cases h1 : xs.length < 20
    · exact .inl ⟨h1, if_pos h1⟩
    · rw [if_neg h1] at *
      by_cases h2 : (hdAt xs 0).len < 20
      · exact .inr (.inl ⟨by omega, h2, if_pos h2⟩)
      · rw [if_neg h2] at *
        by_cases h3 : (xs.length : Int) < (hdAt xs 0).len
        · exact .inr (.inr ⟨by omega, h2, h3, if_pos h3⟩)
        · rw [if_neg h3] at he
          exact absurd rfl he)
  generalize rdE xs = E at *
  clear hx ho hl hb0 he
  go_enter Tryd.func8, Tryd.ntmps8
  go_wp2_with fail
  unfold zC at *
  generalize hgr : w.heap.size = gr at *
  have HGR := Lib.hid hgr
  clear hgr
  generalize w.alloc (.cells #[.int .u16 0, .int .u8 0, .int .u8 0, .int .u32 0, .int .u32 0, .int .i32 0, .int .u16 0, .int .u16 0, .slice none 0 0] 33) = w1 at *
  have HD := readHead_any A n c xs w1 HX.out.1 HX.out.2.1 hc hcm hn
  have ENDS : ∀ (W : World) (b : Below gr w W) (z : Blk W gr 33 #[.int .u16 0, .int .u8 0, .int .u8 0, .int .u32 0, .int .u32 0, .int .i32 0, .int .u16 0, .int .u16 0, .slice none 0 0]) (cs : Array Value), Below gr w (W.setRow gr cs) := fun W b _ cs => below_setRow b (Nat.le_refl _) cs
  have HE := Lib.hid ENDS
  clear ENDS
  rcases HC.out with ⟨h1, hE⟩ | ⟨h1, h2, hE⟩ | ⟨h1, h2, h3, hE⟩
  · rw [(rh_no h1).1, (rh_no h1).2] at HD
    refine HD.mono ?_
    clear HD
    rintro e w2 ⟨rfl, hb2⟩
    have HZ3 := Lib.hid ((HZ.out.later hb2).alloc (.cells #[.int .u16 0, .int .u8 0, .int .u8 0, .int .u32 0, .int .u32 0, .int .i32 0, .int .u16 0, .int .u16 0] 28))
    have hb3 : Below w.heap.size w w2 := below_then (by rw [HGR.out]; exact HB.out) hb2
    have HB3 : Hid (Below gr w (w2.alloc (.cells #[.int .u16 0, .int .u8 0, .int .u8 0, .int .u32 0, .int .u32 0, .int .i32 0, .int .u16 0, .int .u16 0] 28))) := Lib.hid (by rw [← HGR.out]; exact hb3.alloc hb3.size _)
    subst hE
    clear hb2 hb3 HC h1
    go_wp2_with (refine wpList_store_row rfl 33 _ _ rfl gr #[.int .u16 0, .int .u8 0, .int .u8 0, .int .u32 0, .int .u32 0, .int .i32 0, .int .u16 0, .int .u16 0, .slice none 0 0] rfl rfl 33 _ HZ3.out info_state rfl (by simp [Value.oneCell']) ?_)
    exact bodyPost_ret (results_cell_row_tmp2 rfl _ _ gr 33 #[.int .u16 0, .int .u8 0, .int .u8 0, .int .u32 0, .int .u32 0, .int .i32 0, .int .u16 0, .int .u16 0, .slice none 0 0] (0, 0) _ rfl (HZ3.out.setRow _) Tryd.underlying33 rfl info_state) rfl ⟨rfl, by rw [HGR.out]; exact HE.out _ HB3.out HZ3.out _⟩
  · rw [(rh_yes h1).1, (rh_yes h1).2] at HD
    obtain ⟨H, hH⟩ : ∃ H, hdAt xs 0 = H := ⟨_, rfl⟩
    rw [hH] at HD h2
    refine HD.mono ?_
    clear HD
    rintro e w2 ⟨rfl, hb2⟩
    have HZ3 := Lib.hid ((HZ.out.later hb2).alloc (.cells #[.int .u16 H.age, .int .u8 H.opts, .int .u8 H.typ, .int .u32 H.id, .int .u32 H.adv, .int .i32 H.seq, .int .u16 H.sum, .int .u16 H.len] 28))
    have hb3 : Below w.heap.size w w2 := below_then (by rw [HGR.out]; exact HB.out) hb2
    have HB3 : Hid (Below gr w (w2.alloc (.cells #[.int .u16 H.age, .int .u8 H.opts, .int .u8 H.typ, .int .u32 H.id, .int .u32 H.adv, .int .i32 H.seq, .int .u16 H.sum, .int .u16 H.len] 28))) := Lib.hid (by rw [← HGR.out]; exact hb3.alloc hb3.size _)
    subst hE
    have d1 : decide (H.len < 20) = true := decide_eq_true h2
    clear hb2 hb3 HC h1 hH h2
    go_wp2_with (refine wpList_store_row rfl 33 _ _ rfl gr #[.int .u16 0, .int .u8 0, .int .u8 0, .int .u32 0, .int .u32 0, .int .i32 0, .int .u16 0, .int .u16 0, .slice none 0 0] rfl rfl 33 _ HZ3.out info_state rfl (by simp [Value.oneCell']) ?_)
    exact bodyPost_ret (results_cell_row_tmp2 rfl _ _ gr 33 #[.int .u16 0, .int .u8 0, .int .u8 0, .int .u32 0, .int .u32 0, .int .i32 0, .int .u16 0, .int .u16 0, .slice none 0 0] (0, 0) _ rfl (HZ3.out.setRow _) Tryd.underlying33 rfl info_state) rfl ⟨rfl, by rw [HGR.out]; exact HE.out _ HB3.out HZ3.out _⟩
  · rw [(rh_yes h1).1, (rh_yes h1).2] at HD
    have hok := (hdAt_ok HX.out.2.1 0).len
    obtain ⟨H, hH⟩ : ∃ H, hdAt xs 0 = H := ⟨_, rfl⟩
    rw [hH] at HD h2 h3 hok
    rw [HX.out.2.2] at h3
    refine HD.mono ?_
    clear HD
    rintro e w2 ⟨rfl, hb2⟩
    have HZ3 := Lib.hid ((HZ.out.later hb2).alloc (.cells #[.int .u16 H.age, .int .u8 H.opts, .int .u8 H.typ, .int .u32 H.id, .int .u32 H.adv, .int .i32 H.seq, .int .u16 H.sum, .int .u16 H.len] 28))
    have hb3 : Below w.heap.size w w2 := below_then (by rw [HGR.out]; exact HB.out) hb2
    have HB3 : Hid (Below gr w (w2.alloc (.cells #[.int .u16 H.age, .int .u8 H.opts, .int .u8 H.typ, .int .u32 H.id, .int .u32 H.adv, .int .i32 H.seq, .int .u16 H.sum, .int .u16 H.len] 28))) := Lib.hid (by rw [← HGR.out]; exact hb3.alloc hb3.size _)
    subst hE
    have d1 : decide (H.len < 20) = false := decide_eq_false (by omega)
    have d2 : decide ((n : Int) < H.len) = true := decide_eq_true h3
    clear hb2 hb3 HC h1 hH h2 h3
    go_wp2_with (refine wpList_store_row rfl 33 _ _ rfl gr #[.int .u16 0, .int .u8 0, .int .u8 0, .int .u32 0, .int .u32 0, .int .i32 0, .int .u16 0, .int .u16 0, .slice none 0 0] rfl rfl 33 _ HZ3.out info_state rfl (by simp [Value.oneCell']) ?_)
    exact bodyPost_ret (results_cell_row_tmp2 rfl _ _ gr 33 #[.int .u16 0, .int .u8 0, .int .u8 0, .int .u32 0, .int .u32 0, .int .i32 0, .int .u16 0, .int .u16 0, .slice none 0 0] (0, 0) _ rfl (HZ3.out.setRow _) Tryd.underlying33 rfl info_state) rfl ⟨rfl, by rw [HGR.out]; exact HE.out _ HB3.out HZ3.out _⟩
/-- A state that was read. -/
structure RdS (w w' : World) (xs : List Int) (s' : SE) : Prop where
  h : s'.h = hdAt xs 0
  B : s'.B = (xs.take (hdAt xs 0).len.toNat).drop 20
  n : (s'.n : Int) = (hdAt xs 0).len - 20
  ok : s'.ok w.heap.size w'
theorem take_drop_len (xs : List Int) {m : Nat} (h : m ≤ xs.length) : ((xs.take m).drop 20).length = m - 20 := by rw [List.length_drop, List.length_take]; omega
set_option maxRecDepth 100000 in
set_option maxHeartbeats 8000000 in
theorem read_yes (A : Option Addr) (n c : Nat) (xs : List Int) (w : World) (hx : Reads w w.heap.size 1 A n (u8s xs)) (ho : Oct xs) (hc : n ≤ c) (hcm : c ≤ 9223372036854775807) (hn : n ≤ 140737488355328) (he : rdE xs = 0) :
    Calls Tryd.prog 8 #[.slice A n c] w fun e w' => ∃ s', e = .returned (.tuple #[s'.v, .int .i64 (hdAt xs 0).len, .int .i64 0]) ∧ RdS w w' xs s' ∧ Below w.heap.size w w' := by
  have hl := hx.u8len
  have hb0 : Below w.heap.size w (w.alloc (.cells zC 33)) := (Below.refl _ _).alloc (Nat.le_refl _) _
  have HZ := Lib.hid (Blk.new w 33 zC)
  have HB := Lib.hid hb0
  have HX := Lib.hid (And.intro (hx.later hb0) (And.intro ho hl))
  obtain ⟨h1, h2, h3⟩ : 20 ≤ xs.length ∧ 20 ≤ (hdAt xs 0).len ∧ (hdAt xs 0).len ≤ xs.length := by
    unfold rdE at he
    split at he
    · cases he
    · split at he
      · cases he
      · split at he
        · cases he
        · omega
  have hok := hdAt_ok ho 0
  obtain ⟨m, hm⟩ : ∃ m : Nat, (hdAt xs 0).len = m := ⟨(hdAt xs 0).len.toNat, by omega⟩
  have hm20 : 20 ≤ m := by omega
  have hmn : m ≤ n := by omega
  have hm16 : m ≤ 65535 := by have := hok.len; omega
  obtain ⟨H, hH⟩ : ∃ H, hdAt xs 0 = H := ⟨_, rfl⟩
  rw [hH] at hm h2 h3 hok
  obtain ⟨ha, hp, ht, hi, hv, hs, hu, hln⟩ := H
  have hm' : hln = m := hm
  subst hm'
  clear hm
  have HL := Lib.hid (And.intro hH hok)
  obtain ⟨B, hB⟩ : ∃ B, (xs.take m).drop 20 = B := ⟨_, rfl⟩
  have HBl : Hid (B.length = m - 20) := Lib.hid (by rw [← hB]; exact take_drop_len xs (by omega))
  have HBB := Lib.hid hB
  have d1 : decide ((m : Int) < 20) = false := decide_eq_false (by omega)
  have d2 : decide ((n : Int) < m) = false := decide_eq_false (by omega)
  have hmI : (20 : Int) ≤ m := by omega
  have hmc : (m : Int) ≤ c := by omega
  have RH := Lib.hid (rh_yes h1)
  have hwm : IntKind.i64.wrap (m : Int) = m := by rw [IntKind.wrap_i64]; omega
  rw [hH]
  clear hx ho hl hb0 he h1 h2 h3 hok hB
  go_enter Tryd.func8, Tryd.ntmps8
  go_wp2_with fail
  unfold zC at *
  generalize hgr : w.heap.size = gr at *
  have HGR := Lib.hid hgr
  clear hgr
  generalize w.alloc (.cells #[.int .u16 0, .int .u8 0, .int .u8 0, .int .u32 0, .int .u32 0, .int .i32 0, .int .u16 0, .int .u16 0, .slice none 0 0] 33) = w1 at *
  have HD := readHead_any A n c xs w1 HX.out.1 HX.out.2.1 (by omega) hcm hn
  rw [RH.out.1, RH.out.2, hH] at HD
  refine HD.mono ?_
  clear HD hH
  rintro e w2 ⟨rfl, hb2⟩
  have hb3 : Below w.heap.size w w2 := below_then (by rw [HGR.out]; exact HB.out) hb2
  have hb4 : Below w2.heap.size w2 (w2.alloc (.cells #[.int .u16 ha, .int .u8 hp, .int .u8 ht, .int .u32 hi, .int .u32 hv, .int .i32 hs, .int .u16 hu, .int .u16 (m : Int)] 28)) := (Below.refl _ _).alloc (Nat.le_refl _) _
  have HZ3 := Lib.hid ((HZ.out.later hb2).later hb4)
  have HB3 := Lib.hid (below_then hb3 hb4)
  have HX3 := Lib.hid ((HX.out.1.later hb2).later hb4)
  have HH3 : Hid (HdBl (w2.alloc (.cells #[.int .u16 ha, .int .u8 hp, .int .u8 ht, .int .u32 hi, .int .u32 hv, .int .i32 hs, .int .u16 hu, .int .u16 (m : Int)] 28)) w2.heap.size ⟨ha, hp, ht, hi, hv, hs, hu, m⟩) := Lib.hid (HdBlk.cells (Blk.new _ _ _))
  obtain ⟨a0, a1, a2, a3, a4, a5, a6, a7⟩ := HH3.out
  have HGH : Hid (gr < w2.heap.size) := Lib.hid (by have := (HZ.out.later hb2).lt; exact this)
  clear hb2 hb3 hb4
  go_wp2_with fail
  generalize w2.heap.size = gh at *
  generalize w2.alloc (.cells #[.int .u16 ha, .int .u8 hp, .int .u8 ht, .int .u32 hi, .int .u32 hv, .int .i32 hs, .int .u16 hu, .int .u16 (m : Int)] 28) = w3 at *
  clear a0 a1 a2 a3 a4 a5 a6 a7
  have HS : Hid ((fun W : World => HdBl W gh ⟨ha, hp, ht, hi, hv, hs, hu, m⟩) w3.drew) := HH3
  have HR := Lib.hid ((HX3.out.u8pre hmn).u8cut (k := 20) (cap := c) hm20 (by omega))
  rw [HBB.out] at HR
  refine wp_region_s (fun W : World => HdBl W gh ⟨ha, hp, ht, hi, hv, hs, hu, m⟩) [(1, true), (2, true), (7, true), (0, true), (3, true), (4, true), (8, true), (9, true), (5, false), (6, true), (10, false), (11, true), (12, true)] (by kernel_rfl) (fun _ d _ _ _ h => by cases d <;> exact h) ?_
  simp only [List.map_cons, List.map_nil, nthOp_zero, nthOp_succ]
  have HX45 : Hid (w.heap.size ≤ w3.drew.heap.size) := Lib.hid HB3.out.size
  have HX4 := Lib.hid (And.intro (HZ3.out.drewN 1) (And.intro (below_drewN HB3.out 1) HR.out))
  replace HX4 : Hid (Blk w3.drew gr 33 _ ∧ Below w.heap.size w w3.drew ∧ Reads w3.drew w3.drew.heap.size 1 (if c = 20 then A else A.map (·.add 20)) (m - 20) (u8s B)) := HX4
  generalize w3.drew = w4 at *
  clear HX3 HR HZ3 HB3 HH3
  refine wpS_take HS (by rfl) (by intro W hW; clear hW; go_simp; try with_reducible rfl) ?_
  refine wpS_take HS (by rfl) (by intro W hW; clear hW; go_simp; try with_reducible rfl) ?_
  refine wpS_take HS (by rfl) (by intro W hW; clear hW; go_simp; try with_reducible rfl) ?_
  refine wpS_take HS (by rfl) (by intro W hW; obtain ⟨a0, a1, a2, a3, a4, a5, a6, a7⟩ := hW; go_simp; try with_reducible rfl) ?_
  refine wpS_take HS (by rfl) (by intro W hW; obtain ⟨a0, a1, a2, a3, a4, a5, a6, a7⟩ := hW; go_simp; try with_reducible rfl) ?_
  go_simp
  refine wpS_take HS (by rfl) (by intro W hW; clear hW; go_simp; try with_reducible rfl) ?_
  refine wpS_take HS (by rfl) (by intro W hW; obtain ⟨a0, a1, a2, a3, a4, a5, a6, a7⟩ := hW; go_simp; try with_reducible rfl) ?_
  refine wpS_take HS (by rfl) (by intro W hW; clear hW; go_simp; try with_reducible rfl) ?_
  go_simp
  refine wpS_do fun K hK => ?_
  go_wp2_with fail
  · have hr0 := HX4.out.2.2
    rw [if_pos (by omega)] at hr0
    refine (clone_any A (m - 20) 0 B w4 hr0 (by omega)).mono ?_
    rintro e w5 ⟨v, rfl, ho, hb⟩
    rw [HBl.out] at ho
    have HO5 := Lib.hid (And.intro ho hb)
    obtain ⟨A5, c5, hv5, -⟩ := own_shape ho
    subst hv5
    have HS5 : Hid ((fun W : World => HdBl W gh ⟨ha, hp, ht, hi, hv, hs, hu, m⟩) w5) := Lib.hid (by
      obtain ⟨a0, a1, a2, a3, a4, a5, a6, a7⟩ := HS.out
      have q := fun p v (e : w4.cell? p = some v) => (hb.cell (cell_lt e)).trans e
      exact ⟨q _ _ a0, q _ _ a1, q _ _ a2, q _ _ a3, q _ _ a4, q _ _ a5, q _ _ a6, q _ _ a7⟩)
    have HZ5 := Lib.hid (HX4.out.1.later hb)
    have HB5 := Lib.hid (below_then HX4.out.2.1 hb)
    have HG5 := Lib.hid (And.intro HX4.out.1.lt HX4.out.2.1.size)
    clear ho hb hr0 HS HX4
    go_wp2_with fail
    refine hK.out _ _ HS5.out ?_
    clear hK K
    refine wpS_take HS5 (by rfl) (by intro W hW; clear hW; go_simp; try with_reducible rfl) ?_
    go_simp
    refine wpS_do fun K hK => ?_
    go_wp2_with (refine wpList_store_row rfl 33 _ _ rfl gr #[.int .u16 ha, .int .u8 hp, .int .u8 ht, .int .u32 hi, .int .u32 hv, .int .i32 hs, .int .u16 hu, .int .u16 (m : Int), .slice A5 (m - 20) c5] rfl rfl 33 _ HZ5.out info_state rfl (by simp [Value.oneCell']) ?_)
    have hk6 : Kept (fun i => i = gr) w5 (w5.setRow gr #[.int .u16 ha, .int .u8 hp, .int .u8 ht, .int .u32 hi, .int .u32 hv, .int .i32 hs, .int .u16 hu, .int .u16 (m : Int), .slice A5 (m - 20) c5]) := (Kept.of_grown (only_setRow w5 gr _)).mono fun i _ e => by simpa using e.symm
    have hne : gh ≠ gr := by have := HGH.out; omega
    have HS6 : Hid ((fun W : World => HdBl W gh ⟨ha, hp, ht, hi, hv, hs, hu, m⟩) (w5.setRow gr #[.int .u16 ha, .int .u8 hp, .int .u8 ht, .int .u32 hi, .int .u32 hv, .int .i32 hs, .int .u16 hu, .int .u16 (m : Int), .slice A5 (m - 20) c5])) := Lib.hid (by
      obtain ⟨a0, a1, a2, a3, a4, a5, a6, a7⟩ := HS5.out
      have q := fun p v (hp : p.block = gh) (e : w5.cell? p = some v) => (hk6.cell (cell_lt e) (by rw [hp]; exact hne)).trans e
      exact ⟨q _ _ rfl a0, q _ _ rfl a1, q _ _ rfl a2, q _ _ rfl a3, q _ _ rfl a4, q _ _ rfl a5, q _ _ rfl a6, q _ _ rfl a7⟩)
    refine hK.out _ _ HS6.out ?_
    clear hK K
    refine wpS_take HS6 (by rfl) (by intro W hW; clear hW; go_simp; try with_reducible rfl) ?_
    refine wpS_take HS6 (by rfl) (by intro W hW; clear hW; go_simp; try with_reducible rfl) ?_
    refine wpS_nil ?_
    go_simp
    go_wp2_with fail
    refine bodyPost_ret (results_cell_row_tmp2 rfl _ _ gr 33 #[.int .u16 ha, .int .u8 hp, .int .u8 ht, .int .u32 hi, .int .u32 hv, .int .i32 hs, .int .u16 hu, .int .u16 (m : Int), .slice A5 (m - 20) c5] (0, 0) _ rfl (HZ5.out.setRow _) Tryd.underlying33 rfl info_state) rfl ⟨⟨⟨ha, hp, ht, hi, hv, hs, hu, m⟩, A5, m - 20, c5, B⟩, rfl, ⟨HL.out.1.symm, ?_, ?_, ⟨HL.out.2, ?_, ?_, ?_⟩⟩, ?_⟩
    · rw [HL.out.1]; exact HBB.out.symm
    · rw [HL.out.1]; show ((m - 20 : Nat) : Int) = m - 20; omega
    · refine own_mono (own_kept HO5.out.1 hk6 (fun i hi e => ?_)) HX45.out
      have h1 := (own_ge HO5.out.1 hi).1
      have h2 : i = gr := e
      have := HG5.out.1
      omega
    · show Oct B
      rw [← HBB.out]
      exact (HX.out.2.1.take m).drop 20
    · show m - 20 ≤ 1099511627776
      omega
    · exact below_setRow HB5.out (by have := HGR.out; omega) _
  · have hr0 := HX4.out.2.2
    replace hr0 : Reads w4 w4.heap.size 1 (A.map fun x => ⟨x.block, x.off + 20, none⟩) (m - 20) (u8s B) := by
      rw [if_neg (by omega)] at hr0
      have e : (fun x : Addr => x.add 20) = fun x => (⟨x.block, x.off + 20, none⟩ : Addr) := by funext x; unfold Addr.add; simp
      rwa [e] at hr0
    refine (clone_any (A.map fun x => ⟨x.block, x.off + 20, none⟩) (m - 20) (c - 20) B w4 hr0 (by omega)).mono ?_
    rintro e w5 ⟨v, rfl, ho, hb⟩
    rw [HBl.out] at ho
    have HO5 := Lib.hid (And.intro ho hb)
    obtain ⟨A5, c5, hv5, -⟩ := own_shape ho
    subst hv5
    have HS5 : Hid ((fun W : World => HdBl W gh ⟨ha, hp, ht, hi, hv, hs, hu, m⟩) w5) := Lib.hid (by
      obtain ⟨a0, a1, a2, a3, a4, a5, a6, a7⟩ := HS.out
      have q := fun p v (e : w4.cell? p = some v) => (hb.cell (cell_lt e)).trans e
      exact ⟨q _ _ a0, q _ _ a1, q _ _ a2, q _ _ a3, q _ _ a4, q _ _ a5, q _ _ a6, q _ _ a7⟩)
    have HZ5 := Lib.hid (HX4.out.1.later hb)
    have HB5 := Lib.hid (below_then HX4.out.2.1 hb)
    have HG5 := Lib.hid (And.intro HX4.out.1.lt HX4.out.2.1.size)
    clear ho hb hr0 HS HX4
    go_wp2_with fail
    refine hK.out _ _ HS5.out ?_
    clear hK K
    refine wpS_take HS5 (by rfl) (by intro W hW; clear hW; go_simp; try with_reducible rfl) ?_
    go_simp
    refine wpS_do fun K hK => ?_
    go_wp2_with (refine wpList_store_row rfl 33 _ _ rfl gr #[.int .u16 ha, .int .u8 hp, .int .u8 ht, .int .u32 hi, .int .u32 hv, .int .i32 hs, .int .u16 hu, .int .u16 (m : Int), .slice A5 (m - 20) c5] rfl rfl 33 _ HZ5.out info_state rfl (by simp [Value.oneCell']) ?_)
    have hk6 : Kept (fun i => i = gr) w5 (w5.setRow gr #[.int .u16 ha, .int .u8 hp, .int .u8 ht, .int .u32 hi, .int .u32 hv, .int .i32 hs, .int .u16 hu, .int .u16 (m : Int), .slice A5 (m - 20) c5]) := (Kept.of_grown (only_setRow w5 gr _)).mono fun i _ e => by simpa using e.symm
    have hne : gh ≠ gr := by have := HGH.out; omega
    have HS6 : Hid ((fun W : World => HdBl W gh ⟨ha, hp, ht, hi, hv, hs, hu, m⟩) (w5.setRow gr #[.int .u16 ha, .int .u8 hp, .int .u8 ht, .int .u32 hi, .int .u32 hv, .int .i32 hs, .int .u16 hu, .int .u16 (m : Int), .slice A5 (m - 20) c5])) := Lib.hid (by
      obtain ⟨a0, a1, a2, a3, a4, a5, a6, a7⟩ := HS5.out
      have q := fun p v (hp : p.block = gh) (e : w5.cell? p = some v) => (hk6.cell (cell_lt e) (by rw [hp]; exact hne)).trans e
      exact ⟨q _ _ rfl a0, q _ _ rfl a1, q _ _ rfl a2, q _ _ rfl a3, q _ _ rfl a4, q _ _ rfl a5, q _ _ rfl a6, q _ _ rfl a7⟩)
    refine hK.out _ _ HS6.out ?_
    clear hK K
    refine wpS_take HS6 (by rfl) (by intro W hW; clear hW; go_simp; try with_reducible rfl) ?_
    refine wpS_take HS6 (by rfl) (by intro W hW; clear hW; go_simp; try with_reducible rfl) ?_
    refine wpS_nil ?_
    go_simp
    go_wp2_with fail
    refine bodyPost_ret (results_cell_row_tmp2 rfl _ _ gr 33 #[.int .u16 ha, .int .u8 hp, .int .u8 ht, .int .u32 hi, .int .u32 hv, .int .i32 hs, .int .u16 hu, .int .u16 (m : Int), .slice A5 (m - 20) c5] (0, 0) _ rfl (HZ5.out.setRow _) Tryd.underlying33 rfl info_state) rfl ⟨⟨⟨ha, hp, ht, hi, hv, hs, hu, m⟩, A5, m - 20, c5, B⟩, rfl, ⟨HL.out.1.symm, ?_, ?_, ⟨HL.out.2, ?_, ?_, ?_⟩⟩, ?_⟩
    · rw [HL.out.1]; exact HBB.out.symm
    · rw [HL.out.1]; show ((m - 20 : Nat) : Int) = m - 20; omega
    · refine own_mono (own_kept HO5.out.1 hk6 (fun i hi e => ?_)) HX45.out
      have h1 := (own_ge HO5.out.1 hi).1
      have h2 : i = gr := e
      have := HG5.out.1
      omega
    · show Oct B
      rw [← HBB.out]
      exact (HX.out.2.1.take m).drop 20
    · show m - 20 ≤ 1099511627776
      omega
    · exact below_setRow HB5.out (by have := HGR.out; omega) _
end Go.Proofs.YtljedcfpbdompaaDoor
