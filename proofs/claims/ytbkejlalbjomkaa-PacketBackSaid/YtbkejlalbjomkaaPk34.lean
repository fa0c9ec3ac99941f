/-
  The walk of PacketRound. Printed by gen_pk34.py.
-/
import Derived.Test.YtbkejlalbjomkaaPk30
import Derived.Test.YtbkejlalbjomkaaPk33
namespace Go.Proofs.Ytbkejlalbjomkaa
set_option linter.unusedVariables false
open Go.RowKit

theorem EqPa.of_same {p q r : PA} (h : SameP p q) (e : EqPa r q) : EqPa r p := by
  obtain ⟨e1, e2, e3, e4, e5, e6, e7, e8⟩ := e
  have hs : q.ss.map SE.hb = p.ss.map SE.hb := by
    have := congrArg (List.map fun c : Hd × Nat × List Int => (c.1, c.2.2)) h.st
    rw [List.map_map, List.map_map] at this
    exact this
  rw [hs] at e7
  have he := h.eq
  have z_typ : q.typ = p.typ := (congrArg PA.typ he).trans rfl
  have z_router : q.router = p.router := (congrArg PA.router he).trans rfl
  have z_area : q.area = p.area := (congrArg PA.area he).trans rfl
  have z_mask : q.mask = p.mask := (congrArg PA.mask he).trans rfl
  have z_ivl : q.ivl = p.ivl := (congrArg PA.ivl he).trans rfl
  have z_hopts : q.hopts = p.hopts := (congrArg PA.hopts he).trans rfl
  have z_pri : q.pri = p.pri := (congrArg PA.pri he).trans rfl
  have z_dead : q.dead = p.dead := (congrArg PA.dead he).trans rfl
  have z_dr : q.dr = p.dr := (congrArg PA.dr he).trans rfl
  have z_bdr : q.bdr = p.bdr := (congrArg PA.bdr he).trans rfl
  have z_nb : q.nb = p.nb := (congrArg PA.nb he).trans rfl
  have z_mtu : q.mtu = p.mtu := (congrArg PA.mtu he).trans rfl
  have z_dopts : q.dopts = p.dopts := (congrArg PA.dopts he).trans rfl
  have z_flags : q.flags = p.flags := (congrArg PA.flags he).trans rfl
  have z_seq : q.seq = p.seq := (congrArg PA.seq he).trans rfl
  have z_dh : q.dh = p.dh := (congrArg PA.dh he).trans rfl
  have z_ks : q.ks = p.ks := (congrArg PA.ks he).trans rfl
  have z_hs : q.hs = p.hs := (congrArg PA.hs he).trans rfl
  refine ⟨e1.trans z_typ, e2.trans z_router, e3.trans z_area, ?_, ?_, e6.trans z_ks, e7, e8.trans z_hs⟩
  · obtain ⟨h1, h2, h3, h4, h5, h6, h7, h8⟩ := e4
    exact ⟨h1.trans z_mask, h2.trans z_ivl, h3.trans z_hopts, h4.trans z_pri, h5.trans z_dead, h6.trans z_dr, h7.trans z_bdr, h8.trans z_nb⟩
  · obtain ⟨h1, h2, h3, h4, h5⟩ := e5
    exact ⟨h1.trans z_mtu, h2.trans z_dopts, h3.trans z_flags, h4.trans z_seq, h5.trans z_dh⟩
theorem EqPa.rng {p q : PA} (e : EqPa q p) (r : p.rng) : q.rng := by
  obtain ⟨e1, e2, e3, ⟨h1, h2, h3, h4, h5, h6, h7, h8⟩, ⟨k1, k2, k3, k4, k5⟩, e6, e7, e8⟩ := e
  exact ⟨by rw [e1]; exact r.typ, by rw [e2]; exact r.router, by rw [e3]; exact r.area, by rw [h1]; exact r.mask, by rw [h2]; exact r.ivl, by rw [h3]; exact r.hopts, by rw [h4]; exact r.pri, by rw [h5]; exact r.dead, by rw [h6]; exact r.dr, by rw [h7]; exact r.bdr, by rw [k1]; exact r.mtu, by rw [k2]; exact r.dopts, by rw [k3]; exact r.flags, by rw [k4]; exact r.seq, by rw [h8]; exact r.nb, by rw [k5]; exact r.dh, by rw [e6]; exact r.ks, by rw [e8]; exact r.hs⟩
theorem PA.rd.bl {p : PA} {w : World} (h : p.rd w) : ∀ s ∈ p.ss, s.B.length = s.n := fun s hs => (h.sa s hs).body.u8len
theorem EqPa.few {p q : PA} {w W : World} (e : EqPa q p) (hp : p.rd w) (hq : q.rd W) (f : p.few) : q.few := by
  obtain ⟨e1, e2, e3, ⟨h1, h2, h3, h4, h5, h6, h7, h8⟩, ⟨k1, k2, k3, k4, k5⟩, e6, e7, e8⟩ := e
  have l7 := congrArg List.length e7
  rw [List.length_map, List.length_map, hq.ok.sl, hp.ok.sl] at l7
  refine ⟨by rw [← hq.ok.nl, h8, hp.ok.nl]; exact f.n, by rw [← hq.ok.dl, k5, hp.ok.dl]; exact f.d, by rw [← hq.ok.kl, e6, hp.ok.kl]; exact f.k, by rw [l7]; exact f.s, by rw [← hq.ok.hl, e8, hp.ok.hl]; exact f.h, fun s hs => ?_⟩
  have m : s.hb ∈ q.ss.map SE.hb := List.mem_map.2 ⟨s, hs, rfl⟩
  rw [e7] at m
  obtain ⟨t, ht, et⟩ := List.mem_map.1 m
  have b := f.b t ht
  have l1 := hp.bl t ht
  have l2 := hq.bl s hs
  have l3 : t.B = s.B := congrArg Prod.snd et
  rw [← l2, ← l3, l1]
  exact b
theorem encB_congr {p q : PA} (a : Au) (h1 : p.typ = q.typ) (h2 : p.router = q.router) (h3 : p.area = q.area) (h4 : partB p = partB q) : encB p a = encB q a := by
  unfold encB encS encB1 encL encH
  rw [h1, h2, h3, h4]
theorem Enc.of_rd {q : PA} {a : Au} {w : World} (h : EncOk q a) (hr : q.rd w) (hf : q.few) (ha : a.ok) : Enc q a := ⟨h, hr.ok, ha, encB1_oct hr.ok ha hr hf, fun s hs => ⟨hr.bl s hs, (hr.sa s hs).head⟩⟩
/-- The boxes of PacketRound. -/
structure RnF (w W : World) (gk ga : Nat) (p : PA) (a : Au) : Prop where
  k : Blk W gk 33 p.C
  a : Blk W ga 36 a.C
  b : Below w.heap.size w W
theorem RnF.later {w W W' : World} {gk ga : Nat} {p : PA} {a : Au} (h : RnF w W gk ga p a) (hb : Below W.heap.size W W') : RnF w W' gk ga p a := ⟨h.k.later hb, h.a.later hb, below_then h.b hb⟩
theorem rn_new (w : World) (p : PA) (a : Au) : RnF w ((w.alloc (.cells p.C 33)).alloc (.cells a.C 36)) w.heap.size (w.heap.size + 1) p a := ⟨(Blk.new _ _ _).alloc _, new_at _ _ _, below_two _ _ _⟩
set_option maxRecDepth 100000 in
set_option maxHeartbeats 16000000 in
theorem round_walk (p : PA) (a : Au) (w : World) (hp : p.rd w) (hf : p.fit) (ha : a.ok) :
    Calls Try.prog 3 #[p.v, a.v] w fun e w' => GdOk w w' e := by
  show Calls Try.prog 3 #[.agg #[.int .u8 p.typ, .int .u32 p.router, .int .u32 p.area, .int .u32 p.mask, .int .u16 p.ivl, .int .u8 p.hopts, .int .u8 p.pri, .int .u32 p.dead, .int .u32 p.dr, .int .u32 p.bdr, .slice p.NA p.nn p.nc, .int .u16 p.mtu, .int .u8 p.dopts, .int .u8 p.flags, .int .u32 p.seq, .slice p.DA p.dn p.dc, .slice p.KA p.kn p.kc, .slice p.SA p.sn p.sc, .slice p.HA p.hn p.hc], .agg #[.int .u16 a.k, .int .u8 a.d0, .int .u8 a.d1, .int .u8 a.d2, .int .u8 a.d3, .int .u8 a.d4, .int .u8 a.d5, .int .u8 a.d6, .int .u8 a.d7]] w _
  have HG0 : Hid (RnF w ((w.alloc (.cells #[.int .u8 p.typ, .int .u32 p.router, .int .u32 p.area, .int .u32 p.mask, .int .u16 p.ivl, .int .u8 p.hopts, .int .u8 p.pri, .int .u32 p.dead, .int .u32 p.dr, .int .u32 p.bdr, .slice p.NA p.nn p.nc, .int .u16 p.mtu, .int .u8 p.dopts, .int .u8 p.flags, .int .u32 p.seq, .slice p.DA p.dn p.dc, .slice p.KA p.kn p.kc, .slice p.SA p.sn p.sc, .slice p.HA p.hn p.hc] 33)).alloc (.cells #[.int .u16 a.k, .int .u8 a.d0, .int .u8 a.d1, .int .u8 a.d2, .int .u8 a.d3, .int .u8 a.d4, .int .u8 a.d5, .int .u8 a.d6, .int .u8 a.d7] 36)) w.heap.size (w.heap.size + 1) p a) := Lib.hid (rn_new w p a)
  have HP := Lib.hid hp
  have HFt := Lib.hid hf
  have HA := Lib.hid ha
  clear hp hf ha
  go_enter Try.func3, Try.ntmps3
  go_wp2_with (refine wpList_load_row rfl 33 _ rfl w.heap.size rfl 33 p.C (0, 0) _ HG0.out.k Try.underlying33 rfl info_pk ?_)
  obtain ⟨gk, hgk⟩ : ∃ gk, w.heap.size = gk := ⟨_, rfl⟩
  obtain ⟨ga, hga⟩ : ∃ ga, gk + 1 = ga := ⟨_, rfl⟩
  have HG := Lib.hid HG0.out
  clear HG0
  rw [hgk, hga] at HG
  rw [hgk, hga]
  clear hgk hga
  generalize ((w.alloc (.cells #[.int .u8 p.typ, .int .u32 p.router, .int .u32 p.area, .int .u32 p.mask, .int .u16 p.ivl, .int .u8 p.hopts, .int .u8 p.pri, .int .u32 p.dead, .int .u32 p.dr, .int .u32 p.bdr, .slice p.NA p.nn p.nc, .int .u16 p.mtu, .int .u8 p.dopts, .int .u8 p.flags, .int .u32 p.seq, .slice p.DA p.dn p.dc, .slice p.KA p.kn p.kc, .slice p.SA p.sn p.sc, .slice p.HA p.hn p.hc] 33)).alloc (.cells #[.int .u16 a.k, .int .u8 a.d0, .int .u8 a.d1, .int .u8 a.d2, .int .u8 a.d3, .int .u8 a.d4, .int .u8 a.d5, .int .u8 a.d6, .int .u8 a.d7] 36)) = w1 at *
  refine (heavy_any p w1 (HP.out.later HG.out.b) HFt.out).mono ?_
  rintro e w2 ⟨b, rfl, hfew, hb2⟩
  replace HG := Lib.hid (HG.out.later hb2)
  have HFw := Lib.hid hfew
  clear hfew hb2
  cases b with
  | true =>
    go_wp2_with fail
    refine (lives_any w2).mono ?_
    rintro e wl ⟨rfl, hbl2⟩
    replace HG := Lib.hid (HG.out.later hbl2)
    clear hbl2
    go_wp2_with fail
    go_ret
    exact ⟨rfl, HG.out.b⟩
  | false =>
    have HFew := Lib.hid (HFw.out rfl)
    clear HFw
    go_wp2_with fail
    replace HG := Lib.hid (HG.out.later (Below.refl _ _).drew)
    have HS : Hid ((fun W : World => Blk W gk 33 p.C ∧ Blk W ga 36 a.C) w2.drew) := Lib.hid ⟨HG.out.k, HG.out.a⟩
    refine wp_region_s (fun W : World => Blk W gk 33 p.C ∧ Blk W ga 36 a.C) [(0, true), (2, true), (1, false), (3, false), (4, false), (5, true), (6, true), (7, true), (8, true), (9, true)] (by kernel_rfl) (fun _ d _ _ _ h => by cases d <;> exact h) ?_
    simp only [List.map_cons, List.map_nil, nthOp_zero, nthOp_succ]
    generalize w2.drew = w3 at *
    refine wpS_take HS (by rfl) (fun W hW => exec_load_row rfl rfl hW.1 Try.underlying33 rfl info_pk) ?_
    refine wpS_take HS (by rfl) (fun W hW => exec_load_row rfl rfl hW.2 Try.underlying36 rfl info_au7) ?_
    go_simp
    refine wpS_do fun K hK => ?_
    go_wp2_with fail
    refine (copyPacket_any p w3 (HP.out.later HG.out.b) HFew.out).mono ?_
    rintro e w4 ⟨q, rfl, hsame, hqy, hb4⟩
    replace HG := Lib.hid (HG.out.later hb4)
    have HQ := Lib.hid (And.intro (hqy.rd (hsame.rng HP.out.ok.rng)) (hsame.few HFew.out))
    have HSm := Lib.hid hsame
    clear hsame hqy hb4 HS HFt
    go_wp2_with fail
    refine hK.out _ _ ⟨HG.out.k, HG.out.a⟩ ?_
    clear hK K
    refine wpS_do fun K hK => ?_
    go_wp2_with fail
    refine (auth_any a w4).mono ?_
    rintro e w5 ⟨rfl, hb5⟩
    replace HG := Lib.hid (HG.out.later hb5)
    replace HQ := Lib.hid (And.intro (HQ.out.1.later hb5) HQ.out.2)
    clear hb5
    go_wp2_with fail
    refine hK.out _ _ ⟨HG.out.k, HG.out.a⟩ ?_
    clear hK K
    refine wpS_do fun K hK => ?_
    go_wp2_with fail
    refine (encode_any w5 q a HQ.out.1 HQ.out.2 HA.out).mono ?_
    rintro e w6 (⟨hok, u, rfl, ho, hb6⟩ | ⟨hno, k, hk0, _, rfl, hb6⟩)
    rotate_left
    · replace HG := Lib.hid (HG.out.later hb6)
      have HS : Hid ((fun W : World => Blk W gk 33 p.C ∧ Blk W ga 36 a.C) w6) := Lib.hid ⟨HG.out.k, HG.out.a⟩
      have hkb : (k != 0) = true := by simpa using hk0
      clear hb6 hno
      go_wp2_with fail
      refine hK.out _ _ HS.out ?_
      clear hK K
      refine wpS_take HS (by rfl) (by intro W hW; clear hW; go_simp; try with_reducible rfl) ?_
      go_simp
      refine wpS_take HS (by rfl) (by intro W hW; clear hW; go_simp; try with_reducible rfl) ?_
      refine wpS_take HS (by rfl) (by intro W hW; clear hW; go_simp; try with_reducible rfl) ?_
      go_simp
      refine wpS_take HS (by rfl) (by intro W hW; clear hW; go_simp; try with_reducible rfl) ?_
      refine wpS_take HS (by rfl) (by intro W hW; clear hW; go_simp; try with_reducible rfl) ?_
      refine wpS_nil ?_
      go_simp
      go_wp2_with fail
      refine (lives_any w6).mono ?_
      rintro e wl ⟨rfl, hbl2⟩
      replace HG := Lib.hid (HG.out.later hbl2)
      clear hbl2
      go_wp2_with fail
      go_ret
      exact ⟨rfl, HG.out.b⟩
    replace HG := Lib.hid (HG.out.later hb6)
    have HS : Hid ((fun W : World => Blk W gk 33 p.C ∧ Blk W ga 36 a.C) w6) := Lib.hid ⟨HG.out.k, HG.out.a⟩
    have hL := encL_ge q a
    have hM := hok.len
    obtain ⟨gb, cap, rfl, hgb, hnc, hcm, hrow⟩ := Row.of_own ho (by omega)
    unfold maxLen at hcm
    have HRow := Lib.hid hrow
    have HOk := Lib.hid hok
    have HE := Lib.hid (Enc.of_rd hok HQ.out.1 HQ.out.2 HA.out)
    clear hok ho hb6 hgb hrow HQ
    obtain ⟨n, hn⟩ : ∃ n, encL q a = n := ⟨_, rfl⟩
    rw [hn] at hL hM hnc ⊢
    have HN := Lib.hid hn
    clear hn
    go_wp2_with fail
    refine hK.out _ _ HS.out ?_
    clear hK K
    refine wpS_take HS (by rfl) (by intro W hW; clear hW; go_simp; try with_reducible rfl) ?_
    go_simp
    refine wpS_take HS (by rfl) (by intro W hW; clear hW; go_simp; try with_reducible rfl) ?_
    refine wpS_take HS (by rfl) (by intro W hW; clear hW; go_simp; try with_reducible rfl) ?_
    go_simp
    refine wpS_take HS (by rfl) (by intro W hW; clear hW; go_simp; try with_reducible rfl) ?_
    refine wpS_take HS (by rfl) (by intro W hW; clear hW; go_simp; try with_reducible rfl) ?_
    refine wpS_nil ?_
    go_simp
    go_wp2_with fail
    obtain ⟨bs, hbs⟩ : ∃ bs, encB q a = bs := ⟨_, rfl⟩
    have hbl : bs.length = n := by rw [← hbs, encB_len]; exact HN.out
    rw [hbs] at HRow
    have HBs := Lib.hid hbs
    have HBo : Hid (Oct bs) := Lib.hid (by rw [← hbs]; exact HE.out.oct)
    clear hbs HS
    refine (copyBytes_row (some ⟨gb, 0, none⟩) n cap bs w6 (HRow.out.u8reads hbl) (by omega) (by omega)).mono ?_
    rintro e w7 ⟨gc, cap2, rfl, hgc, hnc2, hcm2, hr2, hb7⟩
    replace HG := Lib.hid (HG.out.later hb7)
    replace HRow := Lib.hid (HRow.out.later hb7)
    have HR2 := Lib.hid (hr2.u8reads hbl)
    rw [hbl] at hnc2 ⊢
    clear hb7 hr2 hgc
    go_wp2_with fail
    refine (pdecode_any (some ⟨gc, 0, none⟩) n cap2 bs w7 HR2.out HBo.out hnc2 hcm2 (by omega)).mono ?_
    rintro e w8 (⟨hno, _⟩ | ⟨hdk, q2, rfl, hy, hpis, hb8⟩)
    · exact absurd (by rw [← HBs.out]; exact HE.out.dec) hno
    have HDk := Lib.hid hdk
    have hau : auAt bs = a := by rw [← HBs.out]; exact encB_au q a HA.out.k
    have hsm : EqPa q2 p := by
      have h2 := hpis
      rw [← HBs.out] at h2
      exact (HE.out.same h2).of_same HSm.out
    have HSa := Lib.hid hsm
    have HPi := Lib.hid hpis
    have hrd := hy.rd (hsm.rng HP.out.ok.rng)
    have HQ2 := Lib.hid (And.intro hrd (hsm.few HP.out hrd HFew.out))
    rw [hau]
    replace HG := Lib.hid (HG.out.later hb8)
    replace HRow := Lib.hid (HRow.out.later hb8)
    have HX3 : Hid (Blk ((w8.alloc (.cells #[.int .u8 0, .int .u32 0, .int .u32 0, .int .u32 0, .int .u16 0, .int .u8 0, .int .u8 0, .int .u32 0, .int .u32 0, .int .u32 0, .slice none 0 0, .int .u16 0, .int .u8 0, .int .u8 0, .int .u32 0, .slice none 0 0, .slice none 0 0, .slice none 0 0, .slice none 0 0] 33)).alloc (.cells #[.int .u16 0, .int .u8 0, .int .u8 0, .int .u8 0, .int .u8 0, .int .u8 0, .int .u8 0, .int .u8 0, .int .u8 0] 44)) w8.heap.size 33 #[.int .u8 0, .int .u32 0, .int .u32 0, .int .u32 0, .int .u16 0, .int .u8 0, .int .u8 0, .int .u32 0, .int .u32 0, .int .u32 0, .slice none 0 0, .int .u16 0, .int .u8 0, .int .u8 0, .int .u32 0, .slice none 0 0, .slice none 0 0, .slice none 0 0, .slice none 0 0]) := Lib.hid ((Blk.new _ _ _).alloc _)
    have HX4 : Hid (Blk ((w8.alloc (.cells #[.int .u8 0, .int .u32 0, .int .u32 0, .int .u32 0, .int .u16 0, .int .u8 0, .int .u8 0, .int .u32 0, .int .u32 0, .int .u32 0, .slice none 0 0, .int .u16 0, .int .u8 0, .int .u8 0, .int .u32 0, .slice none 0 0, .slice none 0 0, .slice none 0 0, .slice none 0 0] 33)).alloc (.cells #[.int .u16 0, .int .u8 0, .int .u8 0, .int .u8 0, .int .u8 0, .int .u8 0, .int .u8 0, .int .u8 0, .int .u8 0] 44)) (w8.heap.size + 1) 44 #[.int .u16 0, .int .u8 0, .int .u8 0, .int .u8 0, .int .u8 0, .int .u8 0, .int .u8 0, .int .u8 0, .int .u8 0]) := Lib.hid (new_at _ _ _)
    have HX5 := Lib.hid ((HX4.out).setRow_far (cs' := q2.C) (by omega : w8.heap.size + 1 ≠ w8.heap.size))
    have HX6 : Hid (Blk ((((w8.alloc (.cells #[.int .u8 0, .int .u32 0, .int .u32 0, .int .u32 0, .int .u16 0, .int .u8 0, .int .u8 0, .int .u32 0, .int .u32 0, .int .u32 0, .slice none 0 0, .int .u16 0, .int .u8 0, .int .u8 0, .int .u32 0, .slice none 0 0, .slice none 0 0, .slice none 0 0, .slice none 0 0] 33)).alloc (.cells #[.int .u16 0, .int .u8 0, .int .u8 0, .int .u8 0, .int .u8 0, .int .u8 0, .int .u8 0, .int .u8 0, .int .u8 0] 44)).setRow w8.heap.size q2.C).setRow (w8.heap.size + 1) a.C) w8.heap.size 33 q2.C) := Lib.hid ((Blk.setRow HX3.out q2.C).setRow_far (by omega) _)
    have HX7 : Hid (Blk ((((w8.alloc (.cells #[.int .u8 0, .int .u32 0, .int .u32 0, .int .u32 0, .int .u16 0, .int .u8 0, .int .u8 0, .int .u32 0, .int .u32 0, .int .u32 0, .slice none 0 0, .int .u16 0, .int .u8 0, .int .u8 0, .int .u32 0, .slice none 0 0, .slice none 0 0, .slice none 0 0, .slice none 0 0] 33)).alloc (.cells #[.int .u16 0, .int .u8 0, .int .u8 0, .int .u8 0, .int .u8 0, .int .u8 0, .int .u8 0, .int .u8 0, .int .u8 0] 44)).setRow w8.heap.size q2.C).setRow (w8.heap.size + 1) a.C) (w8.heap.size + 1) 44 a.C) := Lib.hid (Blk.setRow HX5.out _)
    have HB7 : Hid (Below w8.heap.size w8 ((((w8.alloc (.cells #[.int .u8 0, .int .u32 0, .int .u32 0, .int .u32 0, .int .u16 0, .int .u8 0, .int .u8 0, .int .u32 0, .int .u32 0, .int .u32 0, .slice none 0 0, .int .u16 0, .int .u8 0, .int .u8 0, .int .u32 0, .slice none 0 0, .slice none 0 0, .slice none 0 0, .slice none 0 0] 33)).alloc (.cells #[.int .u16 0, .int .u8 0, .int .u8 0, .int .u8 0, .int .u8 0, .int .u8 0, .int .u8 0, .int .u8 0, .int .u8 0] 44)).setRow w8.heap.size q2.C).setRow (w8.heap.size + 1) a.C)) := Lib.hid (below_setRow (below_setRow (below_two _ _ _) (Nat.le_refl _) _) (by omega) _)
    clear hdk hpis hsm hrd hy hb8 HR2
    go_wp2_with (first | (refine wpList_store_row rfl 33 _ _ rfl w8.heap.size q2.C rfl rfl 33 _ HX3.out info_pk rfl (one_PA q2) ?_) | (refine wpList_store_row rfl 44 _ _ rfl (w8.heap.size + 1) a.C rfl rfl 44 _ HX5.out info_au rfl (one_Au a) ?_))
    clear HX3 HX4 HX5
    generalize ((((w8.alloc (.cells #[.int .u8 0, .int .u32 0, .int .u32 0, .int .u32 0, .int .u16 0, .int .u8 0, .int .u8 0, .int .u32 0, .int .u32 0, .int .u32 0, .slice none 0 0, .int .u16 0, .int .u8 0, .int .u8 0, .int .u32 0, .slice none 0 0, .slice none 0 0, .slice none 0 0, .slice none 0 0] 33)).alloc (.cells #[.int .u16 0, .int .u8 0, .int .u8 0, .int .u8 0, .int .u8 0, .int .u8 0, .int .u8 0, .int .u8 0, .int .u8 0] 44)).setRow w8.heap.size q2.C).setRow (w8.heap.size + 1) a.C) = w9 at *
    generalize w8.heap.size + 1 = g8 at *
    obtain ⟨g7, hg7⟩ : ∃ g7, g7 = w8.heap.size := ⟨_, rfl⟩
    rw [← hg7] at HX6 ⊢
    clear hg7
    replace HG := Lib.hid (HG.out.later HB7.out)
    replace HRow := Lib.hid (HRow.out.later HB7.out)
    replace HQ2 := Lib.hid (And.intro (HQ2.out.1.later HB7.out) HQ2.out.2)
    clear HB7
    refine (copyBytes_row (some ⟨gb, 0, none⟩) n cap bs w9 (HRow.out.u8reads hbl) (by omega) (by omega)).mono ?_
    rintro e wa ⟨gd, capd, rfl, hgd, hncd, hcmd, hrd, hbd⟩
    replace HG := Lib.hid (HG.out.later hbd)
    replace HRow := Lib.hid (HRow.out.later hbd)
    replace HQ2 := Lib.hid (And.intro (HQ2.out.1.later hbd) HQ2.out.2)
    replace HX6 := Lib.hid (HX6.out.later hbd)
    replace HX7 := Lib.hid (HX7.out.later hbd)
    have HRd := Lib.hid (hrd.u8reads hbl)
    rw [hbl] at hncd ⊢
    clear hbd hrd hgd
    go_wp2_with fail
    have hlen := length_any (some ⟨gd, 0, none⟩) n capd bs wa _ HRd.out HBo.out hncd hcmd
    rw [show pkLen bs = ((n : Int), 0) by rw [← HBs.out, enc_pkLen q a HOk.out, HN.out]] at hlen
    refine hlen.mono ?_
    clear hlen
    rintro e wb ⟨rfl, kd, rfl⟩
    have hkd := below_of_drewN wa.heap.size wa kd
    replace HG := Lib.hid ((HG.out.later hkd).later (Below.refl _ _).drew)
    replace HRow := Lib.hid ((HRow.out.later hkd).later (Below.refl _ _).drew)
    replace HQ2 := Lib.hid (And.intro ((HQ2.out.1.later hkd).later (Below.refl _ _).drew) HQ2.out.2)
    replace HX6 := Lib.hid ((HX6.out.later hkd).later (Below.refl _ _).drew)
    replace HX7 := Lib.hid ((HX7.out.later hkd).later (Below.refl _ _).drew)
    clear HRd hkd
    generalize wa.drewN kd = wb at *
    go_wp2_with fail
    have HS : Hid ((fun W : World => Blk W gk 33 p.C ∧ Blk W ga 36 a.C ∧ Blk W g7 33 q2.C ∧ Blk W g8 44 a.C) wb.drew) := Lib.hid ⟨HG.out.k, HG.out.a, HX6.out, HX7.out⟩
    refine wp_region_s (fun W : World => Blk W gk 33 p.C ∧ Blk W ga 36 a.C ∧ Blk W g7 33 q2.C ∧ Blk W g8 44 a.C) [(0, true), (1, true), (2, true), (3, true), (4, true), (5, true), (6, true), (7, true), (8, true), (9, true), (10, true), (11, true), (12, true), (13, true), (14, true), (15, false), (16, true), (17, true), (18, true), (19, true), (20, true), (21, false), (22, true), (23, true), (24, true), (25, true), (28, true), (29, true), (30, true), (26, false), (27, false), (31, true), (32, true), (33, true), (34, true), (35, true), (36, true), (37, true)] (by kernel_rfl) (fun _ d _ _ _ h => by cases d <;> exact h) ?_
    simp only [List.map_cons, List.map_nil, nthOp_zero, nthOp_succ]
    generalize wb.drew = wc at *
    refine wpS_take HS (by kernel_rfl) (by intro W hW; clear hW; go_simp; try with_reducible rfl) ?_
    refine wpS_take HS (by kernel_rfl) (by intro W hW; clear hW; go_simp; try with_reducible rfl) ?_
    refine wpS_take HS (by kernel_rfl) (by intro W hW; clear hW; go_simp; try with_reducible rfl) ?_
    go_simp
    refine wpS_take HS (by kernel_rfl) (by intro W hW; clear hW; go_simp; try with_reducible rfl) ?_
    refine wpS_take HS (by kernel_rfl) (by intro W hW; clear hW; go_simp; try with_reducible rfl) ?_
    refine wpS_take HS (by kernel_rfl) (by intro W hW; clear hW; go_simp; try with_reducible rfl) ?_
    go_simp
    refine wpS_take HS (by kernel_rfl) (by intro W hW; clear hW; go_simp; try with_reducible rfl) ?_
    refine wpS_take HS (by kernel_rfl) (by intro W hW; clear hW; go_simp; try with_reducible rfl) ?_
    refine wpS_take HS (by kernel_rfl) (by intro W hW; clear hW; go_simp; try with_reducible rfl) ?_
    go_simp
    refine wpS_take HS (by kernel_rfl) (by intro W hW; clear hW; go_simp; try with_reducible rfl) ?_
    refine wpS_take HS (by kernel_rfl) (by intro W hW; clear hW; go_simp; try with_reducible rfl) ?_
    refine wpS_take HS (by kernel_rfl) (by intro W hW; clear hW; go_simp; try with_reducible rfl) ?_
    go_simp
    refine wpS_take HS (by kernel_rfl) (by intro W hW; clear hW; go_simp; try with_reducible rfl) ?_
    refine wpS_take HS (by kernel_rfl) (fun W hW => exec_load_row rfl rfl hW.2.2.2 Try.underlying44 rfl info_au) ?_
    refine wpS_take HS (by kernel_rfl) (fun W hW => exec_load_row rfl rfl hW.2.1 Try.underlying36 rfl info_au7) ?_
    go_simp
    go_simp
    refine wpS_do fun K hK => ?_
    go_wp2_with fail
    refine Calls.mono (authEq_any a a wc) ?_
    rintro e wd ⟨b1, rfl, hbb1, hbd1⟩
    obtain rfl : b1 = true := hbb1.2 rfl
    replace HG := Lib.hid (HG.out.later hbd1)
    replace HRow := Lib.hid (HRow.out.later hbd1)
    replace HQ2 := Lib.hid (And.intro (HQ2.out.1.later hbd1) HQ2.out.2)
    replace HX6 := Lib.hid (HX6.out.later hbd1)
    replace HX7 := Lib.hid (HX7.out.later hbd1)
    replace HS : Hid ((fun W : World => Blk W gk 33 p.C ∧ Blk W ga 36 a.C ∧ Blk W g7 33 q2.C ∧ Blk W g8 44 a.C) wd) := Lib.hid ⟨HG.out.k, HG.out.a, HX6.out, HX7.out⟩
    clear hbb1 hbd1
    go_wp2_with fail
    refine hK.out _ _ HS.out ?_
    clear hK K
    refine wpS_take HS (by kernel_rfl) (by intro W hW; clear hW; go_simp; try with_reducible rfl) ?_
    refine wpS_take HS (by kernel_rfl) (by intro W hW; clear hW; go_simp; try with_reducible rfl) ?_
    go_simp
    refine wpS_take HS (by kernel_rfl) (by intro W hW; clear hW; go_simp; try with_reducible rfl) ?_
    refine wpS_take HS (by kernel_rfl) (fun W hW => exec_load_row rfl rfl hW.2.2.1 Try.underlying33 rfl info_pk) ?_
    refine wpS_take HS (by kernel_rfl) (fun W hW => exec_load_row rfl rfl hW.1 Try.underlying33 rfl info_pk) ?_
    go_simp
    go_simp
    refine wpS_do fun K hK => ?_
    go_wp2_with fail
    refine Calls.mono (eqPacket_any q2 p wd HQ2.out.1 (HP.out.later HG.out.b) HQ2.out.2 HFew.out) ?_
    rintro e we ⟨b1, rfl, hbb1, hbd1⟩
    obtain rfl : b1 = true := hbb1.2 HSa.out
    replace HG := Lib.hid (HG.out.later hbd1)
    replace HRow := Lib.hid (HRow.out.later hbd1)
    replace HQ2 := Lib.hid (And.intro (HQ2.out.1.later hbd1) HQ2.out.2)
    replace HX6 := Lib.hid (HX6.out.later hbd1)
    replace HX7 := Lib.hid (HX7.out.later hbd1)
    replace HS : Hid ((fun W : World => Blk W gk 33 p.C ∧ Blk W ga 36 a.C ∧ Blk W g7 33 q2.C ∧ Blk W g8 44 a.C) we) := Lib.hid ⟨HG.out.k, HG.out.a, HX6.out, HX7.out⟩
    clear hbb1 hbd1
    go_wp2_with fail
    refine hK.out _ _ HS.out ?_
    clear hK K
    refine wpS_take HS (by kernel_rfl) (by intro W hW; clear hW; go_simp; try with_reducible rfl) ?_
    refine wpS_take HS (by kernel_rfl) (by intro W hW; clear hW; go_simp; try with_reducible rfl) ?_
    go_simp
    refine wpS_take HS (by kernel_rfl) (by intro W hW; clear hW; go_simp; try with_reducible rfl) ?_
    refine wpS_take HS (by kernel_rfl) (by intro W hW; clear hW; go_simp; try with_reducible rfl) ?_
    go_simp
    have HEn : Hid (EncOk q2 a ∧ encB q2 a = bs) := Lib.hid (by
      have hn2 := HQ2.out.1.bl
      have hpi := HPi.out
      obtain ⟨h1, _, h3⟩ := dec_enc HBo.out HDk.out hpi hn2
      rw [hau] at h1
      refine ⟨h1, ?_⟩
      obtain ⟨t1, t2, t3, _⟩ := HSa.out
      have s1 := HSm.out.eq
      rw [← HBs.out]
      refine encB_congr a (t1.trans (congrArg PA.typ s1).symm) (t2.trans (congrArg PA.router s1).symm) (t3.trans (congrArg PA.area s1).symm) ?_
      rw [h3, ← HBs.out, enc_pkB q a HOk.out, encB_drop])
    clear HPi HDk hau
    by_cases hk2 : a.k = 2
    · have hkb : (a.k != 2) = false := by simpa using hk2
      cases hbr : pkRight bs with
      | true =>
        refine wpS_take HS (by kernel_rfl) (by intro W hW; clear hW; go_simp; try with_reducible rfl) ?_
        refine wpS_take HS (by kernel_rfl) (by intro W hW; have c0 := hW.2.1.cell 0; clear hW; simp at c0; go_simp; try with_reducible rfl) ?_
        refine wpS_take HS (by kernel_rfl) (by intro W hW; clear hW; go_simp; try with_reducible rfl) ?_
        go_simp
        refine wpS_do fun K hK => ?_
        go_wp2_with fail
        refine (copyBytes_row (some ⟨gb, 0, none⟩) n cap bs we (HRow.out.u8reads hbl) (by omega) (by omega)).mono ?_
        rintro e wf ⟨ge, cape, rfl, hge, hnce, hcme, hre, hbe⟩
        replace HG := Lib.hid (HG.out.later hbe)
        replace HRow := Lib.hid (HRow.out.later hbe)
        replace HQ2 := Lib.hid (And.intro (HQ2.out.1.later hbe) HQ2.out.2)
        replace HX6 := Lib.hid (HX6.out.later hbe)
        replace HX7 := Lib.hid (HX7.out.later hbe)
        replace HS : Hid ((fun W : World => Blk W gk 33 p.C ∧ Blk W ga 36 a.C ∧ Blk W g7 33 q2.C ∧ Blk W g8 44 a.C) wf) := Lib.hid ⟨HG.out.k, HG.out.a, HX6.out, HX7.out⟩
        have HRe := Lib.hid (hre.u8reads hbl)
        rw [hbl] at hnce ⊢
        clear hbe hre hge
        go_wp2_with fail
        refine hK.out _ _ HS.out ?_
        clear hK K
        refine wpS_do fun K hK => ?_
        go_wp2_with fail
        have hrg := pright_any (some ⟨ge, 0, none⟩) n cape bs wf HRe.out HBo.out hnce hcme (by omega)
        rw [hbr] at hrg
        refine hrg.mono ?_
        clear hrg
        rintro e wg ⟨rfl, hbg⟩
        replace HG := Lib.hid (HG.out.later hbg)
        replace HRow := Lib.hid (HRow.out.later hbg)
        replace HQ2 := Lib.hid (And.intro (HQ2.out.1.later hbg) HQ2.out.2)
        replace HX6 := Lib.hid (HX6.out.later hbg)
        replace HX7 := Lib.hid (HX7.out.later hbg)
        replace HS : Hid ((fun W : World => Blk W gk 33 p.C ∧ Blk W ga 36 a.C ∧ Blk W g7 33 q2.C ∧ Blk W g8 44 a.C) wg) := Lib.hid ⟨HG.out.k, HG.out.a, HX6.out, HX7.out⟩
        clear hbg HRe
        go_wp2_with fail
        refine hK.out _ _ HS.out ?_
        clear hK K
        refine wpS_take HS (by kernel_rfl) (by intro W hW; clear hW; go_simp; try with_reducible rfl) ?_
        refine wpS_take HS (by kernel_rfl) (by intro W hW; clear hW; go_simp; try with_reducible rfl) ?_
        go_simp
        refine wpS_take HS (by kernel_rfl) (by intro W hW; clear hW; go_simp; try with_reducible rfl) ?_
        refine wpS_take HS (by kernel_rfl) (by intro W hW; have c0 := hW.2.1.cell 0; clear hW; simp at c0; go_simp; try with_reducible rfl) ?_
        refine wpS_take HS (by kernel_rfl) (by intro W hW; clear hW; go_simp; try with_reducible rfl) ?_
        go_simp
        refine wpS_take HS (by kernel_rfl) (by intro W hW; clear hW; go_simp; try with_reducible rfl) ?_
        refine wpS_take HS (by kernel_rfl) (by intro W hW; clear hW; go_simp; try with_reducible rfl) ?_
        refine wpS_nil ?_
        go_simp
        go_wp2_with (first | (refine wpList_load_row rfl 33 _ rfl g7 rfl 33 q2.C (0, 0) _ HX6.out Try.underlying33 rfl info_pk ?_) | (refine wpList_load_row rfl 44 _ rfl g8 rfl 44 a.C (0, 0) _ HX7.out Try.underlying44 rfl info_au ?_))
        refine (encode_any wg q2 a HQ2.out.1 HQ2.out.2 HA.out).mono ?_
        rintro e wh (⟨hok2, u, rfl, ho2, hb2⟩ | ⟨hno, _⟩)
        rotate_left
        · exact absurd HEn.out.1 hno
        replace HG := Lib.hid (HG.out.later hb2)
        replace HRow := Lib.hid (HRow.out.later hb2)
        rw [HEn.out.2] at ho2
        have hl2 : encL q2 a = n := by
          have := ho2.1
          rw [u8s_len, hbl] at this
          omega
        rw [hl2] at ho2
        obtain ⟨A9, c9, rfl, hc9, hcm9, hr9⟩ := own_shape_n ho2
        have HR9 := Lib.hid hr9
        clear hok2 ho2 hb2 hr9 hl2
        go_wp2_with fail
        refine (eqBytes_any A9 (some ⟨gb, 0, none⟩) n c9 n cap bs bs wh _ _ HR9.out (HRow.out.u8reads hbl) (by omega) (by omega)).mono ?_
        rintro e wi ⟨rfl, kd2, rfl⟩
        rw [decide_eq_true rfl]
        replace HG := Lib.hid (HG.out.later (below_of_drewN _ wh kd2))
        generalize wh.drewN kd2 = wi at *
        go_wp2_with fail
        refine (lives_any wi).mono ?_
        rintro e wl ⟨rfl, hbl2⟩
        replace HG := Lib.hid (HG.out.later hbl2)
        clear hbl2
        go_wp2_with fail
        go_ret
        exact ⟨rfl, HG.out.b⟩
      | false =>
        refine wpS_take HS (by kernel_rfl) (by intro W hW; clear hW; go_simp; try with_reducible rfl) ?_
        refine wpS_take HS (by kernel_rfl) (by intro W hW; have c0 := hW.2.1.cell 0; clear hW; simp at c0; go_simp; try with_reducible rfl) ?_
        refine wpS_take HS (by kernel_rfl) (by intro W hW; clear hW; go_simp; try with_reducible rfl) ?_
        go_simp
        refine wpS_do fun K hK => ?_
        go_wp2_with fail
        refine (copyBytes_row (some ⟨gb, 0, none⟩) n cap bs we (HRow.out.u8reads hbl) (by omega) (by omega)).mono ?_
        rintro e wf ⟨ge, cape, rfl, hge, hnce, hcme, hre, hbe⟩
        replace HG := Lib.hid (HG.out.later hbe)
        replace HRow := Lib.hid (HRow.out.later hbe)
        replace HQ2 := Lib.hid (And.intro (HQ2.out.1.later hbe) HQ2.out.2)
        replace HX6 := Lib.hid (HX6.out.later hbe)
        replace HX7 := Lib.hid (HX7.out.later hbe)
        replace HS : Hid ((fun W : World => Blk W gk 33 p.C ∧ Blk W ga 36 a.C ∧ Blk W g7 33 q2.C ∧ Blk W g8 44 a.C) wf) := Lib.hid ⟨HG.out.k, HG.out.a, HX6.out, HX7.out⟩
        have HRe := Lib.hid (hre.u8reads hbl)
        rw [hbl] at hnce ⊢
        clear hbe hre hge
        go_wp2_with fail
        refine hK.out _ _ HS.out ?_
        clear hK K
        refine wpS_do fun K hK => ?_
        go_wp2_with fail
        have hrg := pright_any (some ⟨ge, 0, none⟩) n cape bs wf HRe.out HBo.out hnce hcme (by omega)
        rw [hbr] at hrg
        refine hrg.mono ?_
        clear hrg
        rintro e wg ⟨rfl, hbg⟩
        replace HG := Lib.hid (HG.out.later hbg)
        replace HRow := Lib.hid (HRow.out.later hbg)
        replace HQ2 := Lib.hid (And.intro (HQ2.out.1.later hbg) HQ2.out.2)
        replace HX6 := Lib.hid (HX6.out.later hbg)
        replace HX7 := Lib.hid (HX7.out.later hbg)
        replace HS : Hid ((fun W : World => Blk W gk 33 p.C ∧ Blk W ga 36 a.C ∧ Blk W g7 33 q2.C ∧ Blk W g8 44 a.C) wg) := Lib.hid ⟨HG.out.k, HG.out.a, HX6.out, HX7.out⟩
        clear hbg HRe
        go_wp2_with fail
        refine hK.out _ _ HS.out ?_
        clear hK K
        refine wpS_take HS (by kernel_rfl) (by intro W hW; clear hW; go_simp; try with_reducible rfl) ?_
        refine wpS_take HS (by kernel_rfl) (by intro W hW; clear hW; go_simp; try with_reducible rfl) ?_
        go_simp
        refine wpS_skip HS (by kernel_rfl) ?_
        refine wpS_skip HS (by kernel_rfl) ?_
        refine wpS_skip HS (by kernel_rfl) ?_
        refine wpS_take HS (by kernel_rfl) (by intro W hW; clear hW; go_simp; try with_reducible rfl) ?_
        refine wpS_take HS (by kernel_rfl) (by intro W hW; clear hW; go_simp; try with_reducible rfl) ?_
        refine wpS_nil ?_
        go_simp
        go_wp2_with (first | (refine wpList_load_row rfl 33 _ rfl g7 rfl 33 q2.C (0, 0) _ HX6.out Try.underlying33 rfl info_pk ?_) | (refine wpList_load_row rfl 44 _ rfl g8 rfl 44 a.C (0, 0) _ HX7.out Try.underlying44 rfl info_au ?_))
        refine (encode_any wg q2 a HQ2.out.1 HQ2.out.2 HA.out).mono ?_
        rintro e wh (⟨hok2, u, rfl, ho2, hb2⟩ | ⟨hno, _⟩)
        rotate_left
        · exact absurd HEn.out.1 hno
        replace HG := Lib.hid (HG.out.later hb2)
        replace HRow := Lib.hid (HRow.out.later hb2)
        rw [HEn.out.2] at ho2
        have hl2 : encL q2 a = n := by
          have := ho2.1
          rw [u8s_len, hbl] at this
          omega
        rw [hl2] at ho2
        obtain ⟨A9, c9, rfl, hc9, hcm9, hr9⟩ := own_shape_n ho2
        have HR9 := Lib.hid hr9
        clear hok2 ho2 hb2 hr9 hl2
        go_wp2_with fail
        refine (eqBytes_any A9 (some ⟨gb, 0, none⟩) n c9 n cap bs bs wh _ _ HR9.out (HRow.out.u8reads hbl) (by omega) (by omega)).mono ?_
        rintro e wi ⟨rfl, kd2, rfl⟩
        rw [decide_eq_true rfl]
        replace HG := Lib.hid (HG.out.later (below_of_drewN _ wh kd2))
        generalize wh.drewN kd2 = wi at *
        go_wp2_with fail
        refine (lives_any wi).mono ?_
        rintro e wl ⟨rfl, hbl2⟩
        replace HG := Lib.hid (HG.out.later hbl2)
        clear hbl2
        go_wp2_with fail
        go_ret
        exact ⟨rfl, HG.out.b⟩
    · have hkb : (a.k != 2) = true := by simpa using hk2
      have hbr : pkRight bs = true := by rw [← HBs.out]; exact enc_right q a HOk.out hk2 HE.out.o
      refine wpS_take HS (by kernel_rfl) (by intro W hW; clear hW; go_simp; try with_reducible rfl) ?_
      refine wpS_take HS (by kernel_rfl) (by intro W hW; have c0 := hW.2.1.cell 0; clear hW; simp at c0; go_simp; try with_reducible rfl) ?_
      refine wpS_take HS (by kernel_rfl) (by intro W hW; clear hW; go_simp; try with_reducible rfl) ?_
      go_simp
      refine wpS_do fun K hK => ?_
      go_wp2_with fail
      refine (copyBytes_row (some ⟨gb, 0, none⟩) n cap bs we (HRow.out.u8reads hbl) (by omega) (by omega)).mono ?_
      rintro e wf ⟨ge, cape, rfl, hge, hnce, hcme, hre, hbe⟩
      replace HG := Lib.hid (HG.out.later hbe)
      replace HRow := Lib.hid (HRow.out.later hbe)
      replace HQ2 := Lib.hid (And.intro (HQ2.out.1.later hbe) HQ2.out.2)
      replace HX6 := Lib.hid (HX6.out.later hbe)
      replace HX7 := Lib.hid (HX7.out.later hbe)
      replace HS : Hid ((fun W : World => Blk W gk 33 p.C ∧ Blk W ga 36 a.C ∧ Blk W g7 33 q2.C ∧ Blk W g8 44 a.C) wf) := Lib.hid ⟨HG.out.k, HG.out.a, HX6.out, HX7.out⟩
      have HRe := Lib.hid (hre.u8reads hbl)
      rw [hbl] at hnce ⊢
      clear hbe hre hge
      go_wp2_with fail
      refine hK.out _ _ HS.out ?_
      clear hK K
      refine wpS_do fun K hK => ?_
      go_wp2_with fail
      have hrg := pright_any (some ⟨ge, 0, none⟩) n cape bs wf HRe.out HBo.out hnce hcme (by omega)
      rw [hbr] at hrg
      refine hrg.mono ?_
      clear hrg
      rintro e wg ⟨rfl, hbg⟩
      replace HG := Lib.hid (HG.out.later hbg)
      replace HRow := Lib.hid (HRow.out.later hbg)
      replace HQ2 := Lib.hid (And.intro (HQ2.out.1.later hbg) HQ2.out.2)
      replace HX6 := Lib.hid (HX6.out.later hbg)
      replace HX7 := Lib.hid (HX7.out.later hbg)
      replace HS : Hid ((fun W : World => Blk W gk 33 p.C ∧ Blk W ga 36 a.C ∧ Blk W g7 33 q2.C ∧ Blk W g8 44 a.C) wg) := Lib.hid ⟨HG.out.k, HG.out.a, HX6.out, HX7.out⟩
      clear hbg HRe
      go_wp2_with fail
      refine hK.out _ _ HS.out ?_
      clear hK K
      refine wpS_take HS (by kernel_rfl) (by intro W hW; clear hW; go_simp; try with_reducible rfl) ?_
      refine wpS_take HS (by kernel_rfl) (by intro W hW; clear hW; go_simp; try with_reducible rfl) ?_
      go_simp
      refine wpS_skip HS (by kernel_rfl) ?_
      refine wpS_skip HS (by kernel_rfl) ?_
      refine wpS_skip HS (by kernel_rfl) ?_
      refine wpS_take HS (by kernel_rfl) (by intro W hW; clear hW; go_simp; try with_reducible rfl) ?_
      refine wpS_take HS (by kernel_rfl) (by intro W hW; clear hW; go_simp; try with_reducible rfl) ?_
      refine wpS_nil ?_
      go_simp
      go_wp2_with (first | (refine wpList_load_row rfl 33 _ rfl g7 rfl 33 q2.C (0, 0) _ HX6.out Try.underlying33 rfl info_pk ?_) | (refine wpList_load_row rfl 44 _ rfl g8 rfl 44 a.C (0, 0) _ HX7.out Try.underlying44 rfl info_au ?_))
      refine (encode_any wg q2 a HQ2.out.1 HQ2.out.2 HA.out).mono ?_
      rintro e wh (⟨hok2, u, rfl, ho2, hb2⟩ | ⟨hno, _⟩)
      rotate_left
      · exact absurd HEn.out.1 hno
      replace HG := Lib.hid (HG.out.later hb2)
      replace HRow := Lib.hid (HRow.out.later hb2)
      rw [HEn.out.2] at ho2
      have hl2 : encL q2 a = n := by
        have := ho2.1
        rw [u8s_len, hbl] at this
        omega
      rw [hl2] at ho2
      obtain ⟨A9, c9, rfl, hc9, hcm9, hr9⟩ := own_shape_n ho2
      have HR9 := Lib.hid hr9
      clear hok2 ho2 hb2 hr9 hl2
      go_wp2_with fail
      refine (eqBytes_any A9 (some ⟨gb, 0, none⟩) n c9 n cap bs bs wh _ _ HR9.out (HRow.out.u8reads hbl) (by omega) (by omega)).mono ?_
      rintro e wi ⟨rfl, kd2, rfl⟩
      rw [decide_eq_true rfl]
      replace HG := Lib.hid (HG.out.later (below_of_drewN _ wh kd2))
      generalize wh.drewN kd2 = wi at *
      go_wp2_with fail
      refine (lives_any wi).mono ?_
      rintro e wl ⟨rfl, hbl2⟩
      replace HG := Lib.hid (HG.out.later hbl2)
      clear hbl2
      go_wp2_with fail
      go_ret
      exact ⟨rfl, HG.out.b⟩
end Go.Proofs.Ytbkejlalbjomkaa
