/-
  The walk of PacketGuards. Printed by gen_pk30.py.
-/
import Derived.Test.YtbkejlalbjomkaaPk29
namespace Go.Proofs.Ytbkejlalbjomkaa
set_option linter.unusedVariables false
open Go.RowKit

set_option maxRecDepth 100000 in
theorem i64_arg {H : Type} {enc : TypeId × Value → H} {w : World} {r : Reach} {b : Nat} {held : Bool} {v : Value} {d : DataW H} {p : List MemPlace}
    (hv : Value.okWide Try.prog w r b 3 v) (h : DataW.Trod enc Try.prog w 0 (fun _ => true) held 3 v d p) : ∃ n, v = .int .i64 n ∧ -9223372036854775808 ≤ n ∧ n ≤ 9223372036854775807 := by
  obtain ⟨r, rfl, _, _, hwr⟩ := Go.ChangeShapes.open_int Try.underlying3 hv h
  have := bounds_i64 hwr
  exact ⟨r, rfl, by omega, by omega⟩
/-- The boxes of a law's packet, authentication and bytes. -/
structure GdF (w W : World) (gk ga gd : Nat) (p : PA) (a : Au) (D : Array Value) : Prop where
  k : Blk W gk 33 p.C
  a : Blk W ga 36 a.C
  d : Blk W gd 34 D
  b : Below w.heap.size w W
theorem GdF.later {w W W' : World} {gk ga gd : Nat} {p : PA} {a : Au} {D : Array Value} (h : GdF w W gk ga gd p a D) (hb : Below W.heap.size W W') : GdF w W' gk ga gd p a D := ⟨h.k.later hb, h.a.later hb, h.d.later hb, below_then h.b hb⟩
theorem GdF.far {w W : World} {gk ga gd gc : Nat} {p : PA} {a : Au} {D : Array Value} (h : GdF w W gk ga gd p a D) (h1 : gk ≠ gc) (h2 : ga ≠ gc) (h3 : gd ≠ gc) (h4 : w.heap.size ≤ gc) (i : Nat) (u : Value) : GdF w (W.setCell ⟨gc, i, none⟩ u) gk ga gd p a D :=
  ⟨h.k.far (p := ⟨gc, i, none⟩) h1 u, h.a.far (p := ⟨gc, i, none⟩) h2 u, h.d.far (p := ⟨gc, i, none⟩) h3 u, h.b.setCell (p := ⟨gc, i, none⟩) h4 u⟩
theorem gd_new (w : World) (p : PA) (a : Au) (D : Array Value) : GdF w (((w.alloc (.cells p.C 33)).alloc (.cells a.C 36)).alloc (.cells D 34)) w.heap.size (w.heap.size + 1) (w.heap.size + 1 + 1) p a D := by
  obtain ⟨n0, n1, n2, nb⟩ := three_blks w (.cells p.C 33) (.cells a.C 36) (.cells D 34)
  exact ⟨n0, n1, n2, nb⟩
theorem info_au7 : (Try.prog.info? 36).map (·.size) = some 9 := by kernel_rfl
def GrI (w : World) (gk ga gd gb gc : Nat) (p : PA) (a : Au) (D : Array Value) (zs bs : List Int) (cap cap2 : Nat) (iv : Value) (W : World) : Prop :=
  ∃ j : Nat, iv = .int .i64 j ∧ j ≤ 8 ∧ Hid (GdF w W gk ga gd p a D) ∧ Hid (Row W gb 5 cap (u8s bs)) ∧ Hid (Row W gc 5 cap2 (u8s (pat bs 16 zs j)))
def GdOk (w w' : World) (e : Ending) : Prop := e = .returned (.bool true) ∧ Below w.heap.size w w'
set_option maxRecDepth 100000 in
set_option maxHeartbeats 16000000 in
theorem guards_walk (p : PA) (a : Au) (i x y z0 z1 z2 z3 z4 z5 z6 z7 : Int) (w : World) (hp : p.rd w) (hf : p.fit) (ha : a.ok) (hx : 0 ≤ x ∧ x ≤ 255) (hy : 0 ≤ y ∧ y ≤ 255) (hi : -9223372036854775808 ≤ i ∧ i ≤ 9223372036854775807) (hD : Oct [z0, z1, z2, z3, z4, z5, z6, z7]) :
    Calls Try.prog 5 #[p.v, a.v, .int .i64 i, .int .u8 x, .int .u8 y, .agg #[.int .u8 z0, .int .u8 z1, .int .u8 z2, .int .u8 z3, .int .u8 z4, .int .u8 z5, .int .u8 z6, .int .u8 z7]] w fun e w' => GdOk w w' e := by
  show Calls Try.prog 5 #[.agg #[.int .u8 p.typ, .int .u32 p.router, .int .u32 p.area, .int .u32 p.mask, .int .u16 p.ivl, .int .u8 p.hopts, .int .u8 p.pri, .int .u32 p.dead, .int .u32 p.dr, .int .u32 p.bdr, .slice p.NA p.nn p.nc, .int .u16 p.mtu, .int .u8 p.dopts, .int .u8 p.flags, .int .u32 p.seq, .slice p.DA p.dn p.dc, .slice p.KA p.kn p.kc, .slice p.SA p.sn p.sc, .slice p.HA p.hn p.hc], .agg #[.int .u16 a.k, .int .u8 a.d0, .int .u8 a.d1, .int .u8 a.d2, .int .u8 a.d3, .int .u8 a.d4, .int .u8 a.d5, .int .u8 a.d6, .int .u8 a.d7], .int .i64 i, .int .u8 x, .int .u8 y, .agg #[.int .u8 z0, .int .u8 z1, .int .u8 z2, .int .u8 z3, .int .u8 z4, .int .u8 z5, .int .u8 z6, .int .u8 z7]] w _
  have HG0 : Hid (GdF w (((w.alloc (.cells #[.int .u8 p.typ, .int .u32 p.router, .int .u32 p.area, .int .u32 p.mask, .int .u16 p.ivl, .int .u8 p.hopts, .int .u8 p.pri, .int .u32 p.dead, .int .u32 p.dr, .int .u32 p.bdr, .slice p.NA p.nn p.nc, .int .u16 p.mtu, .int .u8 p.dopts, .int .u8 p.flags, .int .u32 p.seq, .slice p.DA p.dn p.dc, .slice p.KA p.kn p.kc, .slice p.SA p.sn p.sc, .slice p.HA p.hn p.hc] 33)).alloc (.cells #[.int .u16 a.k, .int .u8 a.d0, .int .u8 a.d1, .int .u8 a.d2, .int .u8 a.d3, .int .u8 a.d4, .int .u8 a.d5, .int .u8 a.d6, .int .u8 a.d7] 36)).alloc (.cells #[.int .u8 z0, .int .u8 z1, .int .u8 z2, .int .u8 z3, .int .u8 z4, .int .u8 z5, .int .u8 z6, .int .u8 z7] 34)) w.heap.size (w.heap.size + 1) (w.heap.size + 1 + 1) p a #[.int .u8 z0, .int .u8 z1, .int .u8 z2, .int .u8 z3, .int .u8 z4, .int .u8 z5, .int .u8 z6, .int .u8 z7]) := Lib.hid (gd_new w p a #[.int .u8 z0, .int .u8 z1, .int .u8 z2, .int .u8 z3, .int .u8 z4, .int .u8 z5, .int .u8 z6, .int .u8 z7])
  have HP := Lib.hid hp
  have HFt := Lib.hid hf
  have HA := Lib.hid ha
  have HDo := Lib.hid hD
  clear hp hf ha hD
  go_enter Try.func5, Try.ntmps5
  go_wp2_with (refine wpList_load_row rfl 33 _ rfl w.heap.size rfl 33 p.C (0, 0) _ HG0.out.k Try.underlying33 rfl info_pk ?_)
  obtain ⟨gk, hgk⟩ : ∃ gk, w.heap.size = gk := ⟨_, rfl⟩
  obtain ⟨ga, hga⟩ : ∃ ga, gk + 1 = ga := ⟨_, rfl⟩
  obtain ⟨gd, hgd⟩ : ∃ gd, ga + 1 = gd := ⟨_, rfl⟩
  have HG := Lib.hid HG0.out
  clear HG0
  rw [hgk, hga, hgd] at HG
  rw [hgk, hga, hgd]
  clear hgk hga hgd
  generalize (((w.alloc (.cells #[.int .u8 p.typ, .int .u32 p.router, .int .u32 p.area, .int .u32 p.mask, .int .u16 p.ivl, .int .u8 p.hopts, .int .u8 p.pri, .int .u32 p.dead, .int .u32 p.dr, .int .u32 p.bdr, .slice p.NA p.nn p.nc, .int .u16 p.mtu, .int .u8 p.dopts, .int .u8 p.flags, .int .u32 p.seq, .slice p.DA p.dn p.dc, .slice p.KA p.kn p.kc, .slice p.SA p.sn p.sc, .slice p.HA p.hn p.hc] 33)).alloc (.cells #[.int .u16 a.k, .int .u8 a.d0, .int .u8 a.d1, .int .u8 a.d2, .int .u8 a.d3, .int .u8 a.d4, .int .u8 a.d5, .int .u8 a.d6, .int .u8 a.d7] 36)).alloc (.cells #[.int .u8 z0, .int .u8 z1, .int .u8 z2, .int .u8 z3, .int .u8 z4, .int .u8 z5, .int .u8 z6, .int .u8 z7] 34)) = w1 at *
  refine (heavy_any p w1 (HP.out.later HG.out.b) HFt.out).mono ?_
  rintro e w2 ⟨b, rfl, hfew, hb2⟩
  replace HG := Lib.hid (HG.out.later hb2)
  have HFw := Lib.hid hfew
  clear hfew hb2
  cases b with
  | true =>
    go_wp2_with fail
    refine (lives_any w2).mono ?_
    rintro e w3 ⟨rfl, hb3⟩
    replace HG := Lib.hid (HG.out.later hb3)
    clear hb3
    go_wp2_with fail
    go_ret
    exact ⟨rfl, HG.out.b⟩
  | false =>
    have HFew := Lib.hid (HFw.out rfl)
    clear HFw
    have c1 : w2.cell? ⟨ga, 0, none⟩ = some (.int .u16 a.k) := HG.out.a.cell 0
    by_cases hk1 : 1 < a.k
    · have d1 : decide ((1 : Int) < a.k) = true := decide_eq_true hk1
      go_wp2_with fail
      refine (lives_any w2).mono ?_
      rintro e w3 ⟨rfl, hb3⟩
      replace HG := Lib.hid (HG.out.later hb3)
      clear hb3 c1
      go_wp2_with fail
      go_ret
      exact ⟨rfl, HG.out.b⟩
    have d1 : decide ((1 : Int) < a.k) = false := decide_eq_false hk1
    have HK1 := Lib.hid hk1
    go_wp2_with fail
    clear c1
    replace HG := Lib.hid (HG.out.later (Below.refl _ _).drew)
    have HS : Hid ((fun W : World => Blk W gk 33 p.C ∧ Blk W ga 36 a.C) w2.drew) := Lib.hid ⟨HG.out.k, HG.out.a⟩
    refine wp_region_s (fun W : World => Blk W gk 33 p.C ∧ Blk W ga 36 a.C) [(0, true), (2, true), (1, false), (3, false), (4, false), (5, true), (6, true), (7, true), (8, true), (9, true)] (by kernel_rfl) (fun _ d _ _ _ h => by cases d <;> exact h) ?_
    simp only [List.map_cons, List.map_nil, nthOp_zero, nthOp_succ]
    generalize w2.drew = w3 at *
    refine wpS_take HS (by rfl) (fun W hW => exec_load_row rfl rfl hW.1 Try.underlying33 rfl info_pk) ?_
    refine wpS_take HS (by rfl) (fun W hW => exec_load_row rfl rfl hW.2 Try.underlying36 rfl info_au7) ?_
    go_simp
    refine wpS_do fun K hK => ?_
    go_wp2_with fail
    refine (copyPacket_any p w3 (HP.out.later HG.out.b) HFew.out).mono ?_
    rintro e w4 ⟨q, rfl, hsame, hqy, hb4⟩
    replace HG := Lib.hid (HG.out.later hb4)
    have HQ := Lib.hid (And.intro (hqy.rd (hsame.rng HP.out.ok.rng)) (hsame.few HFew.out))
    clear hsame hqy hb4 HS HP HFt
    go_wp2_with fail
    refine hK.out _ _ ⟨HG.out.k, HG.out.a⟩ ?_
    clear hK K
    refine wpS_do fun K hK => ?_
    go_wp2_with fail
    refine (auth_any a w4).mono ?_
    rintro e w5 ⟨rfl, hb5⟩
    replace HG := Lib.hid (HG.out.later hb5)
    replace HQ := Lib.hid (And.intro (HQ.out.1.later hb5) HQ.out.2)
    clear hb5
    go_wp2_with fail
    refine hK.out _ _ ⟨HG.out.k, HG.out.a⟩ ?_
    clear hK K
    refine wpS_do fun K hK => ?_
    go_wp2_with fail
    have hsz5 := HG.out.b.size
    refine (encode_any w5 q a HQ.out.1 HQ.out.2 HA.out).mono ?_
    rintro e w6 (⟨hok, u, rfl, ho, hb6⟩ | ⟨hno, k, hk0, _, rfl, hb6⟩)
    rotate_left
    · replace HG := Lib.hid (HG.out.later hb6)
      have HS : Hid ((fun W : World => Blk W gk 33 p.C ∧ Blk W ga 36 a.C) w6) := Lib.hid ⟨HG.out.k, HG.out.a⟩
      have hkb : (k != 0) = true := by simpa using hk0
      clear hb6 hno
      go_wp2_with fail
      refine hK.out _ _ HS.out ?_
      clear hK K
      refine wpS_take HS (by rfl) (by intro W hW; clear hW; go_simp; try with_reducible rfl) ?_
      go_simp
      refine wpS_take HS (by rfl) (by intro W hW; clear hW; go_simp; try with_reducible rfl) ?_
      refine wpS_take HS (by rfl) (by intro W hW; clear hW; go_simp; try with_reducible rfl) ?_
      go_simp
      refine wpS_take HS (by rfl) (by intro W hW; clear hW; go_simp; try with_reducible rfl) ?_
      refine wpS_take HS (by rfl) (by intro W hW; clear hW; go_simp; try with_reducible rfl) ?_
      refine wpS_nil ?_
      go_simp
      go_wp2_with fail
      refine (lives_any w6).mono ?_
      rintro e w7 ⟨rfl, hb7⟩
      replace HG := Lib.hid (HG.out.later hb7)
      clear hb7
      go_wp2_with fail
      go_ret
      exact ⟨rfl, HG.out.b⟩
    replace HG := Lib.hid (HG.out.later hb6)
    have HS : Hid ((fun W : World => Blk W gk 33 p.C ∧ Blk W ga 36 a.C) w6) := Lib.hid ⟨HG.out.k, HG.out.a⟩
    have hL := encL_ge q a
    have hM := hok.len
    obtain ⟨gb, cap, rfl, hgb, hnc, hcm, hrow⟩ := Row.of_own ho (by omega)
    unfold maxLen at hcm
    have HRow := Lib.hid hrow
    have HOk := Lib.hid hok
    have HGb : Hid (w.heap.size ≤ gb) := Lib.hid (Nat.le_trans hsz5 hgb)
    have HEo : Hid (Oct (encB1 q a)) := Lib.hid (encB1_oct HQ.out.1.ok HA.out HQ.out.1 HQ.out.2)
    have HNe : Hid (a.k ≠ 2) := Lib.hid (by have := HK1.out; omega)
    clear hok ho hb6 hgb hrow HQ hsz5
    obtain ⟨n, hn⟩ : ∃ n, encL q a = n := ⟨_, rfl⟩
    rw [hn] at hL hM hnc ⊢
    have HN := Lib.hid hn
    have d24 : decide ((n : Int) < 24) = false := decide_eq_false (by omega)
    clear hn
    go_wp2_with fail
    refine hK.out _ _ HS.out ?_
    clear hK K
    refine wpS_take HS (by rfl) (by intro W hW; clear hW; go_simp; try with_reducible rfl) ?_
    go_simp
    refine wpS_take HS (by rfl) (by intro W hW; clear hW; go_simp; try with_reducible rfl) ?_
    refine wpS_take HS (by rfl) (by intro W hW; clear hW; go_simp; try with_reducible rfl) ?_
    go_simp
    refine wpS_take HS (by rfl) (by intro W hW; clear hW; go_simp; try with_reducible rfl) ?_
    refine wpS_take HS (by rfl) (by intro W hW; clear hW; go_simp; try with_reducible rfl) ?_
    refine wpS_nil ?_
    go_simp
    go_wp2_with fail
    obtain ⟨bs, hbs⟩ : ∃ bs, encB q a = bs := ⟨_, rfl⟩
    have hbl : bs.length = n := by rw [← hbs, encB_len]; exact HN.out
    rw [hbs] at HRow
    have HBs := Lib.hid hbs
    clear hbs HS d24
    refine (copyBytes_row (some ⟨gb, 0, none⟩) n cap bs w6 (HRow.out.u8reads hbl) (by omega) (by omega)).mono ?_
    rintro e w7 ⟨gc, cap2, rfl, hgc, hnc2, hcm2, hr2, hb7⟩
    have HNe2 : Hid (gb ≠ gc ∧ gk ≠ gc ∧ ga ≠ gc ∧ gd ≠ gc ∧ w.heap.size ≤ gc) := Lib.hid ⟨by have := HRow.out.lt; omega, by have := HG.out.k.lt; omega, by have := HG.out.a.lt; omega, by have := HG.out.d.lt; omega, by have := HG.out.b.size; omega⟩
    replace HG := Lib.hid (HG.out.later hb7)
    replace HRow := Lib.hid (HRow.out.later hb7)
    have HR2 := Lib.hid hr2
    rw [hbl] at hnc2 ⊢
    clear hb7 hr2 hgc
    go_wp2_with fail
    go_loopw [16] (GrI w gk ga gd gb gc p a #[.int .u8 z0, .int .u8 z1, .int .u8 z2, .int .u8 z3, .int .u8 z4, .int .u8 z5, .int .u8 z6, .int .u8 z7] [z0, z1, z2, z3, z4, z5, z6, z7] bs cap cap2) (fun iv _ => 8 - (intOf iv).toNat)
    case atStart => exact ⟨0, rfl, by omega, HG, HRow, by rw [pat_zero]; exact HR2⟩
    case round =>
      obtain ⟨j, rfl, hj, hG, hRo, hR2⟩ := hrel
      clear HG HRow HR2
      by_cases hj8 : j < 8
      · obtain ⟨z, hz⟩ : ∃ z, [z0, z1, z2, z3, z4, z5, z6, z7][j]? = some z := ⟨_, List.getElem?_eq_getElem (by simpa using hj8)⟩
        have cz : wr.cell? ⟨gd, j, none⟩ = some (.int .u8 z) := by
          rw [hG.out.d.cell]
          have : (u8s [z0, z1, z2, z3, z4, z5, z6, z7])[j]? = some (.int .u8 z) := by rw [u8s_get_of hz]
          simpa [u8s] using this
        have hpl : (pat bs 16 [z0, z1, z2, z3, z4, z5, z6, z7] j).length = n := by rw [pat_length (by omega) (by simp; omega)]; exact hbl
        obtain ⟨x', hx', cx⟩ := hR2.out.u8cell (i := 16 + j) (by omega)
        have fx := hR2.out.frozen (16 + j)
        have HR3 := Lib.hid (hR2.out.u8set (16 + j) z)
        rw [pat_set (by omega) hz] at HR3
        have HG3 := Lib.hid (hG.out.far HNe2.out.2.1 HNe2.out.2.2.1 HNe2.out.2.2.2.1 HNe2.out.2.2.2.2 (16 + j) (.int .u8 z))
        have HR4 := Lib.hid (hRo.out.far (p := ⟨gc, 16 + j, none⟩) HNe2.out.1 (.int .u8 z))
        clear hx' hz hpl hG hRo hR2
        go_wp2_with fail
        exact ⟨⟨j + 1, by go_num, by omega, HG3, HR4, HR3⟩, by simp [intOf]; omega⟩
      · obtain rfl : j = 8 := by omega
        have d8 : decide (((8 : Nat) : Int) < 8) = false := by decide
        go_wp2_with fail
        obtain ⟨cs, hcs⟩ : ∃ cs, pat bs 16 [z0, z1, z2, z3, z4, z5, z6, z7] 8 = cs := ⟨_, rfl⟩
        rw [hcs] at hR2
        have hcl : cs.length = n := by rw [← hcs, pat_length (by omega) (by simp)]; exact hbl
        have HCl := Lib.hid hcl
        have hbo : Oct bs := by rw [← HBs.out]; exact encB_oct HOk.out HEo.out
        have HCo : Hid (Oct cs) := Lib.hid (by rw [← hcs]; exact pat_oct hbo HDo.out 16 8)
        have HDs := Lib.hid (data_same (xs := bs) (by omega) [z0, z1, z2, z3, z4, z5, z6, z7] rfl)
        have hln : pkLen bs = ((n : Int), 0) := by rw [← HBs.out, enc_pkLen q a HOk.out, HN.out]
        have HLc : Hid (pkLen cs = ((n : Int), 0)) := Lib.hid (by rw [← hcs, HDs.out.1]; exact hln)
        have HRc : Hid (pkRight cs = true) := Lib.hid (by rw [← hcs, HDs.out.2 (by rw [hln]), ← HBs.out]; exact enc_right q a HOk.out HNe.out HEo.out)
        clear hcs hln hbo HDs d8 hj hj8
        refine (copyBytes_row (some ⟨gc, 0, none⟩) n cap2 cs wr (hR2.out.u8reads hcl) (by omega) (by omega)).mono ?_
        rintro e w8 ⟨g8, cap8, rfl, hg8, hnc8, hcm8, hr8, hb8⟩
        replace HG := Lib.hid (hG.out.later hb8)
        replace HRow := Lib.hid (hRo.out.later hb8)
        replace HR2 := Lib.hid (hR2.out.later hb8)
        have HR8 := Lib.hid (hr8.u8reads hcl)
        rw [hcl] at hnc8 ⊢
        clear hG hRo hR2 hr8 hb8 hg8
        go_wp2_with fail
        have hlen := length_any (some ⟨g8, 0, none⟩) n cap8 cs w8 _ HR8.out HCo.out hnc8 hcm8
        rw [HLc.out] at hlen
        refine hlen.mono ?_
        clear hlen
        rintro e w9 ⟨rfl, kd, rfl⟩
        replace HG := Lib.hid (HG.out.later (below_of_drewN _ w8 kd))
        replace HRow := Lib.hid (HRow.out.later (below_of_drewN _ w8 kd))
        replace HR2 := Lib.hid (HR2.out.later (below_of_drewN _ w8 kd))
        clear HR8
        generalize w8.drewN kd = w9 at *
        go_wp2_with fail
        refine (copyBytes_row (some ⟨gc, 0, none⟩) n cap2 cs w9 (HR2.out.u8reads hcl) (by omega) (by omega)).mono ?_
        rintro e wa ⟨ga', capa, rfl, hga', hnca, hcma, hra, hba⟩
        replace HG := Lib.hid (HG.out.later hba)
        replace HRow := Lib.hid (HRow.out.later hba)
        have HRa := Lib.hid (hra.u8reads hcl)
        rw [hcl] at hnca ⊢
        clear hra hba hga' HR2
        go_wp2_with fail
        have hrg := pright_any (some ⟨ga', 0, none⟩) n capa cs wa HRa.out HCo.out hnca hcma (by omega)
        rw [HRc.out] at hrg
        refine hrg.mono ?_
        clear hrg
        rintro e wb ⟨rfl, hbb⟩
        replace HG := Lib.hid (HG.out.later hbb)
        replace HRow := Lib.hid (HRow.out.later hbb)
        clear hbb HRa HRc HLc HCo HCl hcl
        by_cases hi4 : i < 4
        · have d4 : decide (i < 4) = true := decide_eq_true hi4
          go_wp2_with fail
          refine (lives_any wb).mono ?_
          rintro e wl ⟨rfl, hbl2⟩
          replace HG := Lib.hid (HG.out.later hbl2)
          clear hbl2
          go_wp2_with fail
          go_ret
          exact ⟨rfl, HG.out.b⟩
        have d4 : decide (i < 4) = false := decide_eq_false hi4
        obtain ⟨I, hI⟩ : ∃ I : Nat, i = I := ⟨i.toNat, by omega⟩
        subst hI
        have wn1 : IntKind.i64.wrap ((n : Int) - 1) = (n : Int) - 1 := by rw [IntKind.wrap_i64]; omega
        by_cases hin : n - 1 ≤ I
        · have d5 : decide ((n : Int) - 1 ≤ (I : Int)) = true := decide_eq_true (by omega)
          go_wp2_with fail
          refine (lives_any wb).mono ?_
          rintro e wl ⟨rfl, hbl2⟩
          replace HG := Lib.hid (HG.out.later hbl2)
          clear hbl2
          go_wp2_with fail
          go_ret
          exact ⟨rfl, HG.out.b⟩
        have d5 : decide ((n : Int) - 1 ≤ (I : Int)) = false := decide_eq_false (by omega)
        have tm : (I : Int).tmod 2 = ((I % 2 : Nat) : Int) := rfl
        obtain ⟨r2, hr2⟩ : ∃ r2, I % 2 = r2 := ⟨_, rfl⟩
        rw [hr2] at tm
        by_cases hod : r2 = 1
        · subst hod
          go_wp2_with fail
          refine (lives_any wb).mono ?_
          rintro e wl ⟨rfl, hbl2⟩
          replace HG := Lib.hid (HG.out.later hbl2)
          clear hbl2
          go_wp2_with fail
          go_ret
          exact ⟨rfl, HG.out.b⟩
        obtain rfl : r2 = 0 := by omega
        by_cases h16 : 16 ≤ I ∧ I < 24
        · have d6 : decide ((16 : Int) ≤ (I : Int)) = true := decide_eq_true (by omega)
          have d7 : decide ((I : Int) < 24) = true := decide_eq_true (by omega)
          go_wp2_with fail
          refine (lives_any wb).mono ?_
          rintro e wl ⟨rfl, hbl2⟩
          replace HG := Lib.hid (HG.out.later hbl2)
          clear hbl2
          go_wp2_with fail
          go_ret
          exact ⟨rfl, HG.out.b⟩
        have HI : Hid (4 ≤ I ∧ I % 2 = 0 ∧ I + 1 < n ∧ (I < 16 ∨ 24 ≤ I)) := Lib.hid (by omega)
        by_cases h16a : 16 ≤ I
        · have d6 : decide ((16 : Int) ≤ (I : Int)) = true := decide_eq_true (by omega)
          have d7 : decide ((I : Int) < 24) = false := decide_eq_false (by omega)
          go_wp2_with fail
          obtain ⟨u, hu, cu⟩ := HRow.out.u8cell (i := I) (by omega)
          obtain ⟨v, hv, cv⟩ := HRow.out.u8cell (i := I + 1) (by omega)
          have hbo : Oct bs := by rw [← HBs.out]; exact encB_oct HOk.out HEo.out
          have hu8 := hbo _ _ hu.out
          have hv8 := hbo _ _ hv.out
          clear hbo
          have HS : Hid ((fun W : World => W.cell? ⟨gb, I, none⟩ = some (.int .u8 u) ∧ W.cell? ⟨gb, I + 1, none⟩ = some (.int .u8 v)) wb.drew) := Lib.hid ⟨cu, cv⟩
          have i1 : I < n := by omega
          have i2 : I + 1 < n := by omega
          have i3 : (I : Int) < (n : Int) := by omega
          have i4 : (I : Int) + 1 < (n : Int) := by omega
          have wI : IntKind.i64.wrap ((I : Int) + 1) = (I : Int) + 1 := by rw [IntKind.wrap_i64]; omega
          have i5 : (0 : Int) ≤ (I : Int) + 1 := by omega
          refine wp_region_s (fun W : World => W.cell? ⟨gb, I, none⟩ = some (.int .u8 u) ∧ W.cell? ⟨gb, I + 1, none⟩ = some (.int .u8 v)) [(0, true), (1, true), (2, true), (6, true), (7, true), (8, true), (9, true), (3, true), (4, true), (5, true), (10, true), (11, true), (12, true), (13, true)] (by kernel_rfl) (fun _ d _ _ _ h => by cases d <;> exact h) ?_
          simp only [List.map_cons, List.map_nil, nthOp_zero, nthOp_succ]
          replace HG := Lib.hid (HG.out.later (Below.refl _ _).drew)
          replace HRow : Hid (Row wb.drew gb 5 cap (u8s bs)) := Lib.hid (HRow.out.drewN 1)
          generalize wb.drew = wc at *
          clear cu cv
          refine wpS_take HS (by rfl) (by intro W hW; clear hW; go_simp; try with_reducible rfl) ?_
          refine wpS_take HS (by rfl) (by intro W hW; clear hW; go_simp; try with_reducible rfl) ?_
          refine wpS_take HS (by rfl) (by intro W hW; clear hW; go_simp; try with_reducible rfl) ?_
          refine wpS_take HS (by rfl) (by intro W hW; clear hW; go_simp; try with_reducible rfl) ?_
          go_simp
          refine wpS_take HS (by rfl) (by intro W hW; clear hW; go_simp; try with_reducible rfl) ?_
          refine wpS_take HS (by rfl) (by intro W hW; clear hW; go_simp; try with_reducible rfl) ?_
          refine wpS_take HS (by rfl) (by intro W hW; clear hW; go_simp; try with_reducible rfl) ?_
          go_simp
          refine wpS_take HS (by rfl) (by intro W hW; obtain ⟨cu, cv⟩ := hW; go_simp; try with_reducible rfl) ?_
          refine wpS_take HS (by rfl) (by intro W hW; clear hW; go_simp; try with_reducible rfl) ?_
          refine wpS_take HS (by rfl) (by intro W hW; clear hW; go_simp; try with_reducible rfl) ?_
          go_simp
          refine wpS_take HS (by rfl) (by intro W hW; obtain ⟨cu, cv⟩ := hW; go_simp; try with_reducible rfl) ?_
          refine wpS_take HS (by rfl) (by intro W hW; clear hW; go_simp; try with_reducible rfl) ?_
          refine wpS_take HS (by rfl) (by intro W hW; clear hW; go_simp; try with_reducible rfl) ?_
          go_simp
          refine wpS_take HS (by rfl) (by intro W hW; clear hW; go_simp; try with_reducible rfl) ?_
          refine wpS_nil ?_
          go_simp
          obtain ⟨x0, hx0, cx0⟩ := HRow.out.u8cell (i := I) (by omega)
          have f0 := HRow.out.frozen I
          have HR1 := Lib.hid (HRow.out.u8set I x)
          obtain ⟨y0, hy0, cy0⟩ := HR1.out.u8cell (i := I + 1) (by rw [List.length_set]; omega)
          have f1 := HR1.out.frozen (I + 1)
          have HR2 := Lib.hid (HR1.out.u8set (I + 1) y)
          have hgb := HGb.out
          have HB2 := Lib.hid ((HG.out.b.setCell (p := ⟨gb, I, none⟩) hgb (.int .u8 x)).setCell (p := ⟨gb, I + 1, none⟩) hgb (.int .u8 y))
          clear hx0 hy0
          go_wp2_with fail
          have wu : IntKind.i64.wrap u = u := by rw [IntKind.wrap_i64]; omega
          have wv : IntKind.i64.wrap v = v := by rw [IntKind.wrap_i64]; omega
          have wm : IntKind.i64.wrap (u * 256) = u * 256 := by rw [IntKind.wrap_i64]; omega
          have wa : IntKind.i64.wrap (u * 256 + v) = u * 256 + v := by rw [IntKind.wrap_i64]; omega
          rw [wu, wv, wm, wa]
          clear f0 f1 cx0 cy0 wu wv wm wa HRow HR1
          generalize (wc.setCell ⟨gb, I, none⟩ (.int .u8 x)).setCell ⟨gb, I + 1, none⟩ (.int .u8 y) = wd at *
          have h2c := two_changed HOk.out HNe.out HEo.out HI.out.1 HI.out.2.1 (by rw [HN.out]; exact HI.out.2.2.1) HI.out.2.2.2 (by rw [HBs.out]; exact hu.out) (by rw [HBs.out]; exact hv.out) hx hy
          rw [HBs.out] at h2c
          have hrg := pright_any (some ⟨gb, 0, none⟩) n cap ((bs.set I x).set (I + 1) y) wd (HR2.out.u8reads (by rw [List.length_set, List.length_set]; exact hbl)) (by
            have hbo : Oct bs := by rw [← HBs.out]; exact encB_oct HOk.out HEo.out
            exact (hbo.set I hx).set (I + 1) hy) hnc (by omega) (by omega)
          rw [h2c] at hrg
          clear h2c HR2
          obtain ⟨P, hP⟩ : ∃ P, u * 256 + v = P := ⟨_, rfl⟩
          obtain ⟨Q, hQ⟩ : ∃ Q, x * 256 + y = Q := ⟨_, rfl⟩
          have hP0 : 0 ≤ P := by omega
          have hQ0 : 0 ≤ Q := by omega
          rw [hP, hQ] at hrg ⊢
          have t1 : P.tmod 65535 = P % 65535 := Int.tmod_eq_emod_of_nonneg hP0
          have t2 : Q.tmod 65535 = Q % 65535 := Int.tmod_eq_emod_of_nonneg hQ0
          clear hP hQ hu hv
          refine hrg.mono ?_
          clear hrg
          rintro e we ⟨rfl, hbe⟩
          have HB3 := Lib.hid (below_then HB2.out hbe)
          clear hbe HB2
          by_cases hpq : P % 65535 = Q % 65535
          · have hb1 : (P % 65535 == Q % 65535) = true := by simpa using hpq
            rw [decide_eq_true hpq]
            go_wp2_with fail
            refine (lives_any we).mono ?_
            rintro e wl ⟨rfl, hbl2⟩
            replace HB3 := Lib.hid (below_then HB3.out hbl2)
            clear hbl2
            go_wp2_with fail
            go_ret
            exact ⟨rfl, HB3.out⟩
          · have hb1 : (P % 65535 == Q % 65535) = false := by simpa using hpq
            rw [decide_eq_false hpq]
            go_wp2_with fail
            refine (lives_any we).mono ?_
            rintro e wl ⟨rfl, hbl2⟩
            replace HB3 := Lib.hid (below_then HB3.out hbl2)
            clear hbl2
            go_wp2_with fail
            go_ret
            exact ⟨rfl, HB3.out⟩
        · have d6 : decide ((16 : Int) ≤ (I : Int)) = false := decide_eq_false (by omega)
          go_wp2_with fail
          obtain ⟨u, hu, cu⟩ := HRow.out.u8cell (i := I) (by omega)
          obtain ⟨v, hv, cv⟩ := HRow.out.u8cell (i := I + 1) (by omega)
          have hbo : Oct bs := by rw [← HBs.out]; exact encB_oct HOk.out HEo.out
          have hu8 := hbo _ _ hu.out
          have hv8 := hbo _ _ hv.out
          clear hbo
          have HS : Hid ((fun W : World => W.cell? ⟨gb, I, none⟩ = some (.int .u8 u) ∧ W.cell? ⟨gb, I + 1, none⟩ = some (.int .u8 v)) wb.drew) := Lib.hid ⟨cu, cv⟩
          have i1 : I < n := by omega
          have i2 : I + 1 < n := by omega
          have i3 : (I : Int) < (n : Int) := by omega
          have i4 : (I : Int) + 1 < (n : Int) := by omega
          have wI : IntKind.i64.wrap ((I : Int) + 1) = (I : Int) + 1 := by rw [IntKind.wrap_i64]; omega
          have i5 : (0 : Int) ≤ (I : Int) + 1 := by omega
          refine wp_region_s (fun W : World => W.cell? ⟨gb, I, none⟩ = some (.int .u8 u) ∧ W.cell? ⟨gb, I + 1, none⟩ = some (.int .u8 v)) [(0, true), (1, true), (2, true), (6, true), (7, true), (8, true), (9, true), (3, true), (4, true), (5, true), (10, true), (11, true), (12, true), (13, true)] (by kernel_rfl) (fun _ d _ _ _ h => by cases d <;> exact h) ?_
          simp only [List.map_cons, List.map_nil, nthOp_zero, nthOp_succ]
          replace HG := Lib.hid (HG.out.later (Below.refl _ _).drew)
          replace HRow : Hid (Row wb.drew gb 5 cap (u8s bs)) := Lib.hid (HRow.out.drewN 1)
          generalize wb.drew = wc at *
          clear cu cv
          refine wpS_take HS (by rfl) (by intro W hW; clear hW; go_simp; try with_reducible rfl) ?_
          refine wpS_take HS (by rfl) (by intro W hW; clear hW; go_simp; try with_reducible rfl) ?_
          refine wpS_take HS (by rfl) (by intro W hW; clear hW; go_simp; try with_reducible rfl) ?_
          refine wpS_take HS (by rfl) (by intro W hW; clear hW; go_simp; try with_reducible rfl) ?_
          go_simp
          refine wpS_take HS (by rfl) (by intro W hW; clear hW; go_simp; try with_reducible rfl) ?_
          refine wpS_take HS (by rfl) (by intro W hW; clear hW; go_simp; try with_reducible rfl) ?_
          refine wpS_take HS (by rfl) (by intro W hW; clear hW; go_simp; try with_reducible rfl) ?_
          go_simp
          refine wpS_take HS (by rfl) (by intro W hW; obtain ⟨cu, cv⟩ := hW; go_simp; try with_reducible rfl) ?_
          refine wpS_take HS (by rfl) (by intro W hW; clear hW; go_simp; try with_reducible rfl) ?_
          refine wpS_take HS (by rfl) (by intro W hW; clear hW; go_simp; try with_reducible rfl) ?_
          go_simp
          refine wpS_take HS (by rfl) (by intro W hW; obtain ⟨cu, cv⟩ := hW; go_simp; try with_reducible rfl) ?_
          refine wpS_take HS (by rfl) (by intro W hW; clear hW; go_simp; try with_reducible rfl) ?_
          refine wpS_take HS (by rfl) (by intro W hW; clear hW; go_simp; try with_reducible rfl) ?_
          go_simp
          refine wpS_take HS (by rfl) (by intro W hW; clear hW; go_simp; try with_reducible rfl) ?_
          refine wpS_nil ?_
          go_simp
          obtain ⟨x0, hx0, cx0⟩ := HRow.out.u8cell (i := I) (by omega)
          have f0 := HRow.out.frozen I
          have HR1 := Lib.hid (HRow.out.u8set I x)
          obtain ⟨y0, hy0, cy0⟩ := HR1.out.u8cell (i := I + 1) (by rw [List.length_set]; omega)
          have f1 := HR1.out.frozen (I + 1)
          have HR2 := Lib.hid (HR1.out.u8set (I + 1) y)
          have hgb := HGb.out
          have HB2 := Lib.hid ((HG.out.b.setCell (p := ⟨gb, I, none⟩) hgb (.int .u8 x)).setCell (p := ⟨gb, I + 1, none⟩) hgb (.int .u8 y))
          clear hx0 hy0
          go_wp2_with fail
          have wu : IntKind.i64.wrap u = u := by rw [IntKind.wrap_i64]; omega
          have wv : IntKind.i64.wrap v = v := by rw [IntKind.wrap_i64]; omega
          have wm : IntKind.i64.wrap (u * 256) = u * 256 := by rw [IntKind.wrap_i64]; omega
          have wa : IntKind.i64.wrap (u * 256 + v) = u * 256 + v := by rw [IntKind.wrap_i64]; omega
          rw [wu, wv, wm, wa]
          clear f0 f1 cx0 cy0 wu wv wm wa HRow HR1
          generalize (wc.setCell ⟨gb, I, none⟩ (.int .u8 x)).setCell ⟨gb, I + 1, none⟩ (.int .u8 y) = wd at *
          have h2c := two_changed HOk.out HNe.out HEo.out HI.out.1 HI.out.2.1 (by rw [HN.out]; exact HI.out.2.2.1) HI.out.2.2.2 (by rw [HBs.out]; exact hu.out) (by rw [HBs.out]; exact hv.out) hx hy
          rw [HBs.out] at h2c
          have hrg := pright_any (some ⟨gb, 0, none⟩) n cap ((bs.set I x).set (I + 1) y) wd (HR2.out.u8reads (by rw [List.length_set, List.length_set]; exact hbl)) (by
            have hbo : Oct bs := by rw [← HBs.out]; exact encB_oct HOk.out HEo.out
            exact (hbo.set I hx).set (I + 1) hy) hnc (by omega) (by omega)
          rw [h2c] at hrg
          clear h2c HR2
          obtain ⟨P, hP⟩ : ∃ P, u * 256 + v = P := ⟨_, rfl⟩
          obtain ⟨Q, hQ⟩ : ∃ Q, x * 256 + y = Q := ⟨_, rfl⟩
          have hP0 : 0 ≤ P := by omega
          have hQ0 : 0 ≤ Q := by omega
          rw [hP, hQ] at hrg ⊢
          have t1 : P.tmod 65535 = P % 65535 := Int.tmod_eq_emod_of_nonneg hP0
          have t2 : Q.tmod 65535 = Q % 65535 := Int.tmod_eq_emod_of_nonneg hQ0
          clear hP hQ hu hv
          refine hrg.mono ?_
          clear hrg
          rintro e we ⟨rfl, hbe⟩
          have HB3 := Lib.hid (below_then HB2.out hbe)
          clear hbe HB2
          by_cases hpq : P % 65535 = Q % 65535
          · have hb1 : (P % 65535 == Q % 65535) = true := by simpa using hpq
            rw [decide_eq_true hpq]
            go_wp2_with fail
            refine (lives_any we).mono ?_
            rintro e wl ⟨rfl, hbl2⟩
            replace HB3 := Lib.hid (below_then HB3.out hbl2)
            clear hbl2
            go_wp2_with fail
            go_ret
            exact ⟨rfl, HB3.out⟩
          · have hb1 : (P % 65535 == Q % 65535) = false := by simpa using hpq
            rw [decide_eq_false hpq]
            go_wp2_with fail
            refine (lives_any we).mono ?_
            rintro e wl ⟨rfl, hbl2⟩
            replace HB3 := Lib.hid (below_then HB3.out hbl2)
            clear hbl2
            go_wp2_with fail
            go_ret
            exact ⟨rfl, HB3.out⟩
end Go.Proofs.Ytbkejlalbjomkaa
