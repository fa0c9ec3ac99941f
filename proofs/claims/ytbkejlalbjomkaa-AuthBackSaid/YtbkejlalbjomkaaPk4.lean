/-
  Packets' parts, laid: description, ack, request, update. Printed by gen_pk4.py.
-/
import Derived.Test.YtbkejlalbjomkaaPkA
namespace Go.Proofs.Ytbkejlalbjomkaa
set_option linter.unusedVariables false
open Go.RowKit

def PkS (gp g gk : Nat) (p : PA) (W : World) : Prop := PpBlk W gp g ∧ Blk W gk 33 p.C
theorem PkS.keep {gp g gk : Nat} {p : PA} {W W' : World} (k : KeepT W W') (h : PkS gp g gk p W) : PkS gp g gk p W' := ⟨k.pen h.1, h.2.keepT k⟩
/-- The two blocks that a pen's part begins with. -/
theorem pk_start {w0 w : World} {g : Nat} {M : Int} {ys : List Int} (h : WR w0 w g M ys) (p : PA) :
    WR w0 ((w.alloc (.cells #[.pointer (some ⟨g, 0, none⟩)] 80)).alloc (.cells #[.int .u8 p.typ, .int .u32 p.router, .int .u32 p.area, .int .u32 p.mask, .int .u16 p.ivl, .int .u8 p.hopts, .int .u8 p.pri, .int .u32 p.dead, .int .u32 p.dr, .int .u32 p.bdr, .slice p.NA p.nn p.nc, .int .u16 p.mtu, .int .u8 p.dopts, .int .u8 p.flags, .int .u32 p.seq, .slice p.DA p.dn p.dc, .slice p.KA p.kn p.kc, .slice p.SA p.sn p.sc, .slice p.HA p.hn p.hc] 33)) g M ys ∧ KeepT w ((w.alloc (.cells #[.pointer (some ⟨g, 0, none⟩)] 80)).alloc (.cells #[.int .u8 p.typ, .int .u32 p.router, .int .u32 p.area, .int .u32 p.mask, .int .u16 p.ivl, .int .u8 p.hopts, .int .u8 p.pri, .int .u32 p.dead, .int .u32 p.dr, .int .u32 p.bdr, .slice p.NA p.nn p.nc, .int .u16 p.mtu, .int .u8 p.dopts, .int .u8 p.flags, .int .u32 p.seq, .slice p.DA p.dn p.dc, .slice p.KA p.kn p.kc, .slice p.SA p.sn p.sc, .slice p.HA p.hn p.hc] 33)) ∧ PkS w.heap.size g (w.heap.size + 1) p ((w.alloc (.cells #[.pointer (some ⟨g, 0, none⟩)] 80)).alloc (.cells #[.int .u8 p.typ, .int .u32 p.router, .int .u32 p.area, .int .u32 p.mask, .int .u16 p.ivl, .int .u8 p.hopts, .int .u8 p.pri, .int .u32 p.dead, .int .u32 p.dr, .int .u32 p.bdr, .slice p.NA p.nn p.nc, .int .u16 p.mtu, .int .u8 p.dopts, .int .u8 p.flags, .int .u32 p.seq, .slice p.DA p.dn p.dc, .slice p.KA p.kn p.kc, .slice p.SA p.sn p.sc, .slice p.HA p.hn p.hc] 33)) :=
  ⟨(h.alloc _).alloc _, KeepT.of_below (below_two _ _ _), (Blk.new w 80 _).alloc _, new_at w _ _⟩
/-- A Description's bytes. -/
def descB (p : PA) : List Int := numB p.mtu 2 ++ [p.dopts, p.flags] ++ numB p.seq 4 ++ hdsB p.dh
def keyB (k : Ky) : List Int := numB k.t 4 ++ numB k.id 4 ++ numB k.adv 4
def keysB (l : List Ky) : List Int := l.flatMap keyB
theorem keysB_snoc (l : List Ky) (x : Ky) : keysB (l ++ [x]) = keysB l ++ keyB x := by simp [keysB, List.flatMap_append]
def statesB (l : List SE) : List Int := l.flatMap stB
theorem statesB_snoc (l : List SE) (x : SE) : statesB (l ++ [x]) = statesB l ++ stB x := by simp [statesB, List.flatMap_append]
def updB (p : PA) : List Int := numB p.sn 4 ++ statesB p.ss

set_option maxRecDepth 100000 in
set_option maxHeartbeats 8000000 in
theorem penAck_any (w0 w : World) (g : Nat) (M : Int) (ys : List Int) (h : WR w0 w g M ys) (p : PA) (hp : p.rd w0) (hf : p.hn ≤ 1073741824) :
    Calls Try.prog 38 #[.agg #[.pointer (some ⟨g, 0, none⟩)], p.v] w fun e w' => e = .returned (.tuple #[]) ∧ WR w0 w' g M (ys ++ hdsB p.hs) ∧ KeepT w w' := by
  have H := Lib.hid (pk_start h p)
  have HP := Lib.hid hp
  have hx := H.out.2.2
  unfold PkS PpBlk at hx
  have a0 := hx.1.cell 0
  have b18 := hx.2.cell 18
  simp at a0 b18
  clear h hp hx
  show Calls Try.prog 38 #[.agg #[.pointer (some ⟨g, 0, none⟩)], .agg #[.int .u8 p.typ, .int .u32 p.router, .int .u32 p.area, .int .u32 p.mask, .int .u16 p.ivl, .int .u8 p.hopts, .int .u8 p.pri, .int .u32 p.dead, .int .u32 p.dr, .int .u32 p.bdr, .slice p.NA p.nn p.nc, .int .u16 p.mtu, .int .u8 p.dopts, .int .u8 p.flags, .int .u32 p.seq, .slice p.DA p.dn p.dc, .slice p.KA p.kn p.kc, .slice p.SA p.sn p.sc, .slice p.HA p.hn p.hc]] w _
  go_enter Try.func38, Try.ntmps38
  go_wp2_with fail
  generalize (w.alloc (.cells #[.pointer (some ⟨g, 0, none⟩)] 80)).alloc (.cells #[.int .u8 p.typ, .int .u32 p.router, .int .u32 p.area, .int .u32 p.mask, .int .u16 p.ivl, .int .u8 p.hopts, .int .u8 p.pri, .int .u32 p.dead, .int .u32 p.dr, .int .u32 p.bdr, .slice p.NA p.nn p.nc, .int .u16 p.mtu, .int .u8 p.dopts, .int .u8 p.flags, .int .u32 p.seq, .slice p.DA p.dn p.dc, .slice p.KA p.kn p.kc, .slice p.SA p.sn p.sc, .slice p.HA p.hn p.hc] 33) = w1 at *
  refine (penAll_any w0 w1 g M ys H.out.1 p.HA p.hn p.hc p.hs HP.out.hr HP.out.ok.hl HP.out.ok.hs hf).mono ?_
  rintro e w2 ⟨rfl, hw, hk⟩
  have HK := Lib.hid (H.out.2.1.trans hk)
  have HW := Lib.hid hw
  clear hw hk a0 b18
  go_wp2_with fail
  go_end0
  exact ⟨rfl, HW.out, HK.out⟩

set_option maxRecDepth 100000 in
set_option maxHeartbeats 8000000 in
theorem penDesc_any (w0 w : World) (g : Nat) (M : Int) (ys : List Int) (h : WR w0 w g M ys) (p : PA) (hp : p.rd w0) (hf : p.dn ≤ 1073741824) :
    Calls Try.prog 35 #[.agg #[.pointer (some ⟨g, 0, none⟩)], p.v] w fun e w' => e = .returned (.tuple #[]) ∧ WR w0 w' g M (ys ++ descB p) ∧ KeepT w w' := by
  have H := Lib.hid (pk_start h p)
  have HP := Lib.hid hp
  have HO := Lib.hid hp.ok
  have HW : Hid (WR w0 ((w.alloc (.cells #[.pointer (some ⟨g, 0, none⟩)] 80)).alloc (.cells #[.int .u8 p.typ, .int .u32 p.router, .int .u32 p.area, .int .u32 p.mask, .int .u16 p.ivl, .int .u8 p.hopts, .int .u8 p.pri, .int .u32 p.dead, .int .u32 p.dr, .int .u32 p.bdr, .slice p.NA p.nn p.nc, .int .u16 p.mtu, .int .u8 p.dopts, .int .u8 p.flags, .int .u32 p.seq, .slice p.DA p.dn p.dc, .slice p.KA p.kn p.kc, .slice p.SA p.sn p.sc, .slice p.HA p.hn p.hc] 33)).drew g M ys) := Lib.hid H.out.1.drew
  have HK : Hid (KeepT w ((w.alloc (.cells #[.pointer (some ⟨g, 0, none⟩)] 80)).alloc (.cells #[.int .u8 p.typ, .int .u32 p.router, .int .u32 p.area, .int .u32 p.mask, .int .u16 p.ivl, .int .u8 p.hopts, .int .u8 p.pri, .int .u32 p.dead, .int .u32 p.dr, .int .u32 p.bdr, .slice p.NA p.nn p.nc, .int .u16 p.mtu, .int .u8 p.dopts, .int .u8 p.flags, .int .u32 p.seq, .slice p.DA p.dn p.dc, .slice p.KA p.kn p.kc, .slice p.SA p.sn p.sc, .slice p.HA p.hn p.hc] 33)).drew) := Lib.hid (H.out.2.1.trans (KeepT.of_below (Below.refl _ _).drew))
  have HS : Hid (PkS w.heap.size g (w.heap.size + 1) p ((w.alloc (.cells #[.pointer (some ⟨g, 0, none⟩)] 80)).alloc (.cells #[.int .u8 p.typ, .int .u32 p.router, .int .u32 p.area, .int .u32 p.mask, .int .u16 p.ivl, .int .u8 p.hopts, .int .u8 p.pri, .int .u32 p.dead, .int .u32 p.dr, .int .u32 p.bdr, .slice p.NA p.nn p.nc, .int .u16 p.mtu, .int .u8 p.dopts, .int .u8 p.flags, .int .u32 p.seq, .slice p.DA p.dn p.dc, .slice p.KA p.kn p.kc, .slice p.SA p.sn p.sc, .slice p.HA p.hn p.hc] 33)).drew) := Lib.hid ⟨H.out.2.2.1.drewN 1, H.out.2.2.2.drewN 1⟩
  have wmtu : IntKind.u32.wrap p.mtu = p.mtu := by have := HO.out.mtu; simp [IntKind.wrap, IntKind.bits, IntKind.signed]; omega
  clear h hp H
  show Calls Try.prog 35 #[.agg #[.pointer (some ⟨g, 0, none⟩)], .agg #[.int .u8 p.typ, .int .u32 p.router, .int .u32 p.area, .int .u32 p.mask, .int .u16 p.ivl, .int .u8 p.hopts, .int .u8 p.pri, .int .u32 p.dead, .int .u32 p.dr, .int .u32 p.bdr, .slice p.NA p.nn p.nc, .int .u16 p.mtu, .int .u8 p.dopts, .int .u8 p.flags, .int .u32 p.seq, .slice p.DA p.dn p.dc, .slice p.KA p.kn p.kc, .slice p.SA p.sn p.sc, .slice p.HA p.hn p.hc]] w _
  go_enter Try.func35, Try.ntmps35
  go_wp2_with fail
  generalize hgs : w.heap.size = gp at *
  clear hgs
  generalize gp + 1 = gk at *
  refine wp_region_t (PkS gp g gk p) (.take 0 (.take 2 (.take 3 (.take 7 (.take 8 (.take 10 (.take 11 (.take 15 (.take 16 (.take 1 (.take 4 (.take 5 (.take 9 (.take 12 (.take 17 (.fork 6 13 (.one 13 (.one 14 (.one 18 .nil))) (.one 6 (.one 14 (.one 18 .nil))))))))))))))))))) (by kernel_rfl) (fun _ d _ _ _ h => by cases d <;> exact h) ?_
  simp only [TStep.node, nthOp_zero, nthOp_succ]
  generalize ((w.alloc (.cells #[.pointer (some ⟨g, 0, none⟩)] 80)).alloc (.cells #[.int .u8 p.typ, .int .u32 p.router, .int .u32 p.area, .int .u32 p.mask, .int .u16 p.ivl, .int .u8 p.hopts, .int .u8 p.pri, .int .u32 p.dead, .int .u32 p.dr, .int .u32 p.bdr, .slice p.NA p.nn p.nc, .int .u16 p.mtu, .int .u8 p.dopts, .int .u8 p.flags, .int .u32 p.seq, .slice p.DA p.dn p.dc, .slice p.KA p.kn p.kc, .slice p.SA p.sn p.sc, .slice p.HA p.hn p.hc] 33)).drew = v0 at *
  refine wpT_take HS (by rfl) (by intro W hW; clear hW; go_simp; try with_reducible rfl) ?_
  refine wpT_take HS (by rfl) (by intro W hW; clear hW; go_simp; try with_reducible rfl) ?_
  refine wpT_take HS (by rfl) (by intro W hW; clear hW; go_simp; try with_reducible rfl) ?_
  refine wpT_take HS (by rfl) (by intro W hW; clear hW; go_simp; try with_reducible rfl) ?_
  refine wpT_take HS (by rfl) (by intro W hW; clear hW; go_simp; try with_reducible rfl) ?_
  refine wpT_take HS (by rfl) (by intro W hW; clear hW; go_simp; try with_reducible rfl) ?_
  go_simp
  refine wpT_take HS (by rfl) (by intro W hW; clear hW; go_simp; try with_reducible rfl) ?_
  refine wpT_take HS (by rfl) (by intro W hW; clear hW; go_simp; try with_reducible rfl) ?_
  refine wpT_take HS (by rfl) (by intro W hW; clear hW; go_simp; try with_reducible rfl) ?_
  refine wpT_take HS (by rfl) (by intro W hW; obtain ⟨hp, hh⟩ := hW; unfold PpBlk at hp; have a0 := hp.cell 0; have b11 := hh.cell 11; have b12 := hh.cell 12; have b13 := hh.cell 13; have b14 := hh.cell 14; clear hp hh; simp at a0 b11 b12 b13 b14; go_simp; try with_reducible rfl) ?_
  refine wpT_take HS (by rfl) (by intro W hW; obtain ⟨hp, hh⟩ := hW; unfold PpBlk at hp; have a0 := hp.cell 0; have b11 := hh.cell 11; have b12 := hh.cell 12; have b13 := hh.cell 13; have b14 := hh.cell 14; clear hp hh; simp at a0 b11 b12 b13 b14; go_simp; try with_reducible rfl) ?_
  refine wpT_take HS (by rfl) (by intro W hW; clear hW; go_simp; try with_reducible rfl) ?_
  go_simp
  refine wpT_take HS (by rfl) (by intro W hW; obtain ⟨hp, hh⟩ := hW; unfold PpBlk at hp; have a0 := hp.cell 0; have b11 := hh.cell 11; have b12 := hh.cell 12; have b13 := hh.cell 13; have b14 := hh.cell 14; clear hp hh; simp at a0 b11 b12 b13 b14; go_simp; try with_reducible rfl) ?_
  refine wpT_take HS (by rfl) (by intro W hW; obtain ⟨hp, hh⟩ := hW; unfold PpBlk at hp; have a0 := hp.cell 0; have b11 := hh.cell 11; have b12 := hh.cell 12; have b13 := hh.cell 13; have b14 := hh.cell 14; clear hp hh; simp at a0 b11 b12 b13 b14; go_simp; try with_reducible rfl) ?_
  refine wpT_take HS (by rfl) (by intro W hW; obtain ⟨hp, hh⟩ := hW; unfold PpBlk at hp; have a0 := hp.cell 0; have b11 := hh.cell 11; have b12 := hh.cell 12; have b13 := hh.cell 13; have b14 := hh.cell 14; clear hp hh; simp at a0 b11 b12 b13 b14; go_simp; try with_reducible rfl) ?_
  go_simp
  refine wpT_fork (fun K hK => ?_) (fun K hK => ?_)
  · go_wp2_with fail
    refine (wr_num w0 v0 g M _ HW.out p.mtu 2 (by have := HO.out.mtu; omega) (by have := HO.out.mtu; omega) (by omega) (fits_of (by omega) (by omega) (.inr (by have := HO.out.mtu; omega)))).mono ?_
    rintro e v1 ⟨rfl, hw, hk⟩
    replace HW := Lib.hid hw
    replace HK := Lib.hid (HK.out.trans hk)
    replace HS : Hid ((PkS gp g gk p) v1) := Lib.hid (PkS.keep hk HS.out)
    clear hw hk
    go_wp2_with fail
    refine hK.out _ _ HS.out ?_
    clear hK K
    go_simp
    refine wpT_do fun K hK => ?_
    go_wp2_with fail
    have hb2 : Below v1.heap.size v1 (v1.alloc (.cells #[.int .u8 p.dopts, .int .u8 p.flags] 5)) := (Below.refl _ _).alloc (Nat.le_refl _) _
    replace HK := Lib.hid (HK.out.trans (KeepT.of_below hb2))
    replace HS : Hid ((PkS gp g gk p) (v1.alloc (.cells #[.int .u8 p.dopts, .int .u8 p.flags] 5))) := Lib.hid (PkS.keep (KeepT.of_below hb2) HS.out)
    replace HW := Lib.hid (HW.out.box #[.int .u8 p.dopts, .int .u8 p.flags])
    clear hb2
    generalize v1.heap.size = gxa at *
    generalize v1.alloc (.cells #[.int .u8 p.dopts, .int .u8 p.flags] 5) = v2 at *
    refine hK.out _ _ HS.out ?_
    clear hK K
    go_simp
    refine wpT_do fun K hK => ?_
    go_wp2_with fail
    refine (wr_put w0 v2 g M _ [p.dopts, p.flags] HW.out.wr _ 2 _ (row_reads HW.out.x rfl) (by omega)).mono ?_
    rintro e v3 ⟨rfl, hw, hk⟩
    replace HW := Lib.hid hw
    replace HK := Lib.hid (HK.out.trans hk)
    replace HS : Hid ((PkS gp g gk p) v3) := Lib.hid (PkS.keep hk HS.out)
    clear hw hk
    go_wp2_with fail
    refine hK.out _ _ HS.out ?_
    clear hK K
    go_simp
    refine wpT_do fun K hK => ?_
    go_wp2_with fail
    refine (wr_num w0 v3 g M _ HW.out p.seq 4 (by have := HO.out.seq; omega) (by have := HO.out.seq; omega) (by omega) (fits_of (by omega) (by omega) (.inl rfl))).mono ?_
    rintro e v4 ⟨rfl, hw, hk⟩
    replace HW := Lib.hid hw
    replace HK := Lib.hid (HK.out.trans hk)
    replace HS : Hid ((PkS gp g gk p) v4) := Lib.hid (PkS.keep hk HS.out)
    clear hw hk
    go_wp2_with fail
    refine hK.out _ _ HS.out ?_
    clear hK K
    refine wpT_nil ?_
    go_simp
    have hx := HS.out
    unfold PkS PpBlk at hx
    have a0 := hx.1.cell 0
    have b15 := hx.2.cell 15
    simp at a0 b15
    clear hx
    go_wp2_with fail
    refine (penAll_any w0 v4 g M _ HW.out p.DA p.dn p.dc p.dh HP.out.dr HP.out.ok.dl HP.out.ok.dh hf).mono ?_
    rintro e we ⟨rfl, hw, hk⟩
    replace HK := Lib.hid (HK.out.trans hk)
    replace HW := Lib.hid hw
    clear hw hk a0 b15 HS
    go_wp2_with fail
    go_end0
    refine ⟨rfl, ?_, HK.out⟩
    have := HW.out
    unfold descB
    simpa only [List.append_assoc] using this
  · go_wp2_with fail
    have hb2 : Below v0.heap.size v0 (v0.alloc (.cells #[.int .u8 p.dopts, .int .u8 p.flags] 5)) := (Below.refl _ _).alloc (Nat.le_refl _) _
    replace HK := Lib.hid (HK.out.trans (KeepT.of_below hb2))
    replace HS : Hid ((PkS gp g gk p) (v0.alloc (.cells #[.int .u8 p.dopts, .int .u8 p.flags] 5))) := Lib.hid (PkS.keep (KeepT.of_below hb2) HS.out)
    replace HW := Lib.hid (HW.out.box #[.int .u8 p.dopts, .int .u8 p.flags])
    clear hb2
    generalize v0.heap.size = gxa at *
    generalize v0.alloc (.cells #[.int .u8 p.dopts, .int .u8 p.flags] 5) = v5 at *
    refine hK.out _ _ HS.out ?_
    clear hK K
    go_simp
    refine wpT_do fun K hK => ?_
    go_wp2_with fail
    refine (wrx_num w0 v5 g M _ _ _ HW.out p.mtu 2 (by have := HO.out.mtu; omega) (by have := HO.out.mtu; omega) (by omega) (fits_of (by omega) (by omega) (.inr (by have := HO.out.mtu; omega)))).mono ?_
    rintro e v6 ⟨rfl, hw, hk⟩
    replace HW := Lib.hid hw
    replace HK := Lib.hid (HK.out.trans hk)
    replace HS : Hid ((PkS gp g gk p) v6) := Lib.hid (PkS.keep hk HS.out)
    clear hw hk
    go_wp2_with fail
    refine hK.out _ _ HS.out ?_
    clear hK K
    go_simp
    refine wpT_do fun K hK => ?_
    go_wp2_with fail
    refine (wr_put w0 v6 g M _ [p.dopts, p.flags] HW.out.wr _ 2 _ (row_reads HW.out.x rfl) (by omega)).mono ?_
    rintro e v7 ⟨rfl, hw, hk⟩
    replace HW := Lib.hid hw
    replace HK := Lib.hid (HK.out.trans hk)
    replace HS : Hid ((PkS gp g gk p) v7) := Lib.hid (PkS.keep hk HS.out)
    clear hw hk
    go_wp2_with fail
    refine hK.out _ _ HS.out ?_
    clear hK K
    go_simp
    refine wpT_do fun K hK => ?_
    go_wp2_with fail
    refine (wr_num w0 v7 g M _ HW.out p.seq 4 (by have := HO.out.seq; omega) (by have := HO.out.seq; omega) (by omega) (fits_of (by omega) (by omega) (.inl rfl))).mono ?_
    rintro e v8 ⟨rfl, hw, hk⟩
    replace HW := Lib.hid hw
    replace HK := Lib.hid (HK.out.trans hk)
    replace HS : Hid ((PkS gp g gk p) v8) := Lib.hid (PkS.keep hk HS.out)
    clear hw hk
    go_wp2_with fail
    refine hK.out _ _ HS.out ?_
    clear hK K
    refine wpT_nil ?_
    go_simp
    have hx := HS.out
    unfold PkS PpBlk at hx
    have a0 := hx.1.cell 0
    have b15 := hx.2.cell 15
    simp at a0 b15
    clear hx
    go_wp2_with fail
    refine (penAll_any w0 v8 g M _ HW.out p.DA p.dn p.dc p.dh HP.out.dr HP.out.ok.dl HP.out.ok.dh hf).mono ?_
    rintro e we ⟨rfl, hw, hk⟩
    replace HK := Lib.hid (HK.out.trans hk)
    replace HW := Lib.hid hw
    clear hw hk a0 b15 HS
    go_wp2_with fail
    go_end0
    refine ⟨rfl, ?_, HK.out⟩
    have := HW.out
    unfold descB
    simpa only [List.append_assoc] using this
def PyS (gp g gx : Nat) (x : Ky) (W : World) : Prop := PpBlk W gp g ∧ Blk W gx 129 #[.int .u8 x.t, .int .u32 x.id, .int .u32 x.adv]
theorem PyS.keep {gp g gx : Nat} {x : Ky} {W W' : World} (k : KeepT W W') (h : PyS gp g gx x W) : PyS gp g gx x W' := ⟨k.pen h.1, h.2.keepT k⟩
def RelK (w0 : World) (g gp : Nat) (M : Int) (ys : List Int) (L : List Ky) (n : Nat) (w1 : World) (iv : Value) (W : World) : Prop :=
  ∃ i : Nat, iv = .int .i64 i ∧ i ≤ n ∧ Hid (WR w0 W g M (ys ++ keysB (L.take i))) ∧ Hid (KeepT w1 W) ∧ Hid (PpBlk W gp g)
theorem keys_at {w : World} {B n i : Nat} {A : Option Addr} {L : List Ky} (h : Reads w B 3 A n (L.flatMap Ky.cells)) (hl : L.length = n) (hi : i < n) : ∃ ad s, A = some ad ∧ ad.block < B ∧ L[i]? = some s ∧ w.cell? (ad.add (i * 3)) = some (.int .u8 s.t) ∧ w.cell? ⟨(ad.add (i * 3)).block, (ad.add (i * 3)).off + 1, none⟩ = some (.int .u32 s.id) ∧ w.cell? ⟨(ad.add (i * 3)).block, (ad.add (i * 3)).off + 2, none⟩ = some (.int .u32 s.adv) := by
  obtain ⟨ad, s, e, hb, hs, h0, hj⟩ := rowG_at ky_len h hl hi
  exact ⟨ad, s, e, hb, hs, h0 _ rfl, hj 1 _ (by decide) rfl, hj 2 _ (by decide) rfl⟩
set_option maxRecDepth 100000 in
set_option maxHeartbeats 8000000 in
theorem penReq_any (w0 w : World) (g : Nat) (M : Int) (ys : List Int) (h : WR w0 w g M ys) (p : PA) (hp : p.rd w0) (hf : p.kn ≤ 1073741824) :
    Calls Try.prog 36 #[.agg #[.pointer (some ⟨g, 0, none⟩)], p.v] w fun e w' => e = .returned (.tuple #[]) ∧ WR w0 w' g M (ys ++ keysB p.ks) ∧ KeepT w w' := by
  have H := Lib.hid (pk_start h p)
  have HO := Lib.hid hp.ok
  obtain ⟨KA, hKA⟩ : ∃ x, p.KA = x := ⟨_, rfl⟩
  obtain ⟨kn, hkn⟩ : ∃ x, p.kn = x := ⟨_, rfl⟩
  obtain ⟨kc, hkc⟩ : ∃ x, p.kc = x := ⟨_, rfl⟩
  have HN : Hid (Reads w0 w0.heap.size 3 KA kn (p.ks.flatMap Ky.cells)) := Lib.hid (by rw [← hKA, ← hkn]; exact hp.kr)
  have HNL : Hid (p.ks.length = kn) := Lib.hid (by rw [← hkn]; exact hp.ok.kl)
  have hcc : kn ≤ kc ∧ kc ≤ 9223372036854775807 := by rw [← hkn, ← hkc]; exact hp.ok.kc
  rw [hkn] at hf
  have HKA := Lib.hid (And.intro hKA (And.intro hkn hkc))
  clear h hp hKA hkn hkc
  show Calls Try.prog 36 #[.agg #[.pointer (some ⟨g, 0, none⟩)], .agg #[.int .u8 p.typ, .int .u32 p.router, .int .u32 p.area, .int .u32 p.mask, .int .u16 p.ivl, .int .u8 p.hopts, .int .u8 p.pri, .int .u32 p.dead, .int .u32 p.dr, .int .u32 p.bdr, .slice p.NA p.nn p.nc, .int .u16 p.mtu, .int .u8 p.dopts, .int .u8 p.flags, .int .u32 p.seq, .slice p.DA p.dn p.dc, .slice p.KA p.kn p.kc, .slice p.SA p.sn p.sc, .slice p.HA p.hn p.hc]] w _
  go_enter Try.func36, Try.ntmps36
  go_wp2_with fail
  generalize hgs : w.heap.size = gp at *
  clear hgs
  generalize (w.alloc (.cells #[.pointer (some ⟨g, 0, none⟩)] 80)).alloc (.cells #[.int .u8 p.typ, .int .u32 p.router, .int .u32 p.area, .int .u32 p.mask, .int .u16 p.ivl, .int .u8 p.hopts, .int .u8 p.pri, .int .u32 p.dead, .int .u32 p.dr, .int .u32 p.bdr, .slice p.NA p.nn p.nc, .int .u16 p.mtu, .int .u8 p.dopts, .int .u8 p.flags, .int .u32 p.seq, .slice p.DA p.dn p.dc, .slice p.KA p.kn p.kc, .slice p.SA p.sn p.sc, .slice p.HA p.hn p.hc] 33) = w1 at *
  simp only [HKA.out.1, HKA.out.2.1, HKA.out.2.2]
  have HW1 : Hid (WR w0 w1 g M (ys ++ keysB (p.ks.take 0))) := Lib.hid (by simpa [keysB] using H.out.1)
  have HK1 := Lib.hid H.out.2.1
  have HP1 := Lib.hid H.out.2.2.1
  clear H
  go_loopw [9] (RelK w0 g gp M ys p.ks kn w) (fun iv _ => kn - (intOf iv).toNat)
  case atStart => exact ⟨0, rfl, by omega, HW1, HK1, HP1⟩
  case round =>
    obtain ⟨i, rfl, hi, hW, hK, hS⟩ := hrel
    by_cases hlt : i < kn
    · obtain ⟨ad, x, rfl, _, hx, a0, a1, a2⟩ := keys_at (HN.out.later hW.out.b) HNL.out hlt
      have HXO := Lib.hid (HO.out.ks x (List.mem_of_getElem? hx))
      have HT := Lib.hid (take_snocL hx)
      have hba : Below wr.heap.size wr (wr.alloc (.cells #[.int .u8 x.t, .int .u32 x.id, .int .u32 x.adv] 129)) := (Below.refl _ _).alloc (Nat.le_refl _) _
      have HW : Hid (WR w0 (wr.alloc (.cells #[.int .u8 x.t, .int .u32 x.id, .int .u32 x.adv] 129)).drew g M (ys ++ keysB (p.ks.take i))) := Lib.hid (hW.out.later hba).drew
      have HK : Hid (KeepT w (wr.alloc (.cells #[.int .u8 x.t, .int .u32 x.id, .int .u32 x.adv] 129)).drew) := Lib.hid (hK.out.trans (KeepT.of_below hba.drew))
      have HS : Hid (PyS gp g wr.heap.size x (wr.alloc (.cells #[.int .u8 x.t, .int .u32 x.id, .int .u32 x.adv] 129)).drew) := Lib.hid ⟨(hS.out.later hba).drewN 1, (Blk.new wr 129 _).drewN 1⟩
      have wt : IntKind.u32.wrap x.t = x.t := by have := HXO.out.t; simp [IntKind.wrap, IntKind.bits, IntKind.signed]; omega
      clear hx hba hW hK hS HW1 HK1 HP1
      go_wp2_with fail
      clear a0 a1 a2
      generalize wr.heap.size = gx at *
      refine wp_region_t (PyS gp g gx x) (.take 0 (.take 2 (.take 6 (.take 9 (.take 1 (.take 3 (.take 4 (.take 7 (.take 10 (.one 5 (.one 8 (.one 11 .nil)))))))))))) (by kernel_rfl) (fun _ d _ _ _ h => by cases d <;> exact h) ?_
      simp only [TStep.node, nthOp_zero, nthOp_succ]
      generalize (wr.alloc (.cells #[.int .u8 x.t, .int .u32 x.id, .int .u32 x.adv] 129)).drew = v0 at *
      refine wpT_take HS (by rfl) (by intro W hW; clear hW; go_simp; try with_reducible rfl) ?_
      refine wpT_take HS (by rfl) (by intro W hW; clear hW; go_simp; try with_reducible rfl) ?_
      refine wpT_take HS (by rfl) (by intro W hW; clear hW; go_simp; try with_reducible rfl) ?_
      refine wpT_take HS (by rfl) (by intro W hW; clear hW; go_simp; try with_reducible rfl) ?_
      refine wpT_take HS (by rfl) (by intro W hW; obtain ⟨hp, hh⟩ := hW; unfold PpBlk at hp; have a0 := hp.cell 0; have b0 := hh.cell 0; have b1 := hh.cell 1; have b2 := hh.cell 2; clear hp hh; simp at a0 b0 b1 b2; go_simp; try with_reducible rfl) ?_
      refine wpT_take HS (by rfl) (by intro W hW; obtain ⟨hp, hh⟩ := hW; unfold PpBlk at hp; have a0 := hp.cell 0; have b0 := hh.cell 0; have b1 := hh.cell 1; have b2 := hh.cell 2; clear hp hh; simp at a0 b0 b1 b2; go_simp; try with_reducible rfl) ?_
      go_simp
      refine wpT_take HS (by rfl) (by intro W hW; clear hW; go_simp; try with_reducible rfl) ?_
      refine wpT_take HS (by rfl) (by intro W hW; obtain ⟨hp, hh⟩ := hW; unfold PpBlk at hp; have a0 := hp.cell 0; have b0 := hh.cell 0; have b1 := hh.cell 1; have b2 := hh.cell 2; clear hp hh; simp at a0 b0 b1 b2; go_simp; try with_reducible rfl) ?_
      refine wpT_take HS (by rfl) (by intro W hW; obtain ⟨hp, hh⟩ := hW; unfold PpBlk at hp; have a0 := hp.cell 0; have b0 := hh.cell 0; have b1 := hh.cell 1; have b2 := hh.cell 2; clear hp hh; simp at a0 b0 b1 b2; go_simp; try with_reducible rfl) ?_
      go_simp
      refine wpT_do fun K hK => ?_
      go_wp2_with fail
      refine (wr_num w0 v0 g M _ HW.out x.t 4 (by have := HXO.out.t; omega) (by have := HXO.out.t; omega) (by omega) (fits_of (by omega) (by omega) (.inl rfl))).mono ?_
      rintro e v1 ⟨rfl, hw, hk⟩
      replace HW := Lib.hid hw
      replace HK := Lib.hid (HK.out.trans hk)
      replace HS : Hid ((PyS gp g gx x) v1) := Lib.hid (PyS.keep hk HS.out)
      clear hw hk
      go_wp2_with fail
      refine hK.out _ _ HS.out ?_
      clear hK K
      go_simp
      refine wpT_do fun K hK => ?_
      go_wp2_with fail
      refine (wr_num w0 v1 g M _ HW.out x.id 4 (by have := HXO.out.id; omega) (by have := HXO.out.id; omega) (by omega) (fits_of (by omega) (by omega) (.inl rfl))).mono ?_
      rintro e v2 ⟨rfl, hw, hk⟩
      replace HW := Lib.hid hw
      replace HK := Lib.hid (HK.out.trans hk)
      replace HS : Hid ((PyS gp g gx x) v2) := Lib.hid (PyS.keep hk HS.out)
      clear hw hk
      go_wp2_with fail
      refine hK.out _ _ HS.out ?_
      clear hK K
      go_simp
      refine wpT_do fun K hK => ?_
      go_wp2_with fail
      refine (wr_num w0 v2 g M _ HW.out x.adv 4 (by have := HXO.out.adv; omega) (by have := HXO.out.adv; omega) (by omega) (fits_of (by omega) (by omega) (.inl rfl))).mono ?_
      rintro e v3 ⟨rfl, hw, hk⟩
      replace HW := Lib.hid hw
      replace HK := Lib.hid (HK.out.trans hk)
      replace HS : Hid ((PyS gp g gx x) v3) := Lib.hid (PyS.keep hk HS.out)
      clear hw hk
      go_wp2_with fail
      refine hK.out _ _ HS.out ?_
      clear hK K
      refine wpT_nil ?_
      go_simp
      go_wp2_with fail
      go_roundw
      case rel => exact ⟨i + 1, by go_num, by omega, by rw [HT.out, keysB_snoc]; simpa only [keyB, List.append_assoc] using HW, HK, Lib.hid HS.out.1⟩
      case measure => simp [intOf]; omega
    · obtain rfl : i = kn := by omega
      have HW := hW
      have HK := hK
      clear hW hK hS
      go_wp2_with fail
      go_end0
      refine ⟨rfl, ?_, HK.out⟩
      have := HW.out
      rwa [List.take_of_length_le (by rw [HNL.out]; exact Nat.le_refl _)] at this

def PsS (gp g gx : Nat) (x : SE) (W : World) : Prop := PpBlk W gp g ∧ Blk W gx 76 #[.int .u16 x.h.age, .int .u8 x.h.opts, .int .u8 x.h.typ, .int .u32 x.h.id, .int .u32 x.h.adv, .int .i32 x.h.seq, .int .u16 x.h.sum, .int .u16 x.h.len, .slice x.A x.n x.c]
theorem PsS.keep {gp g gx : Nat} {x : SE} {W W' : World} (k : KeepT W W') (h : PsS gp g gx x W) : PsS gp g gx x W' := ⟨k.pen h.1, h.2.keepT k⟩
def RelU (w0 : World) (g gp : Nat) (M : Int) (ys : List Int) (L : List SE) (n : Nat) (w1 : World) (iv : Value) (W : World) : Prop :=
  ∃ i : Nat, iv = .int .i64 i ∧ i ≤ n ∧ Hid (WR w0 W g M (ys ++ statesB (L.take i))) ∧ Hid (KeepT w1 W) ∧ Hid (PpBlk W gp g)
set_option maxRecDepth 100000 in
set_option maxHeartbeats 8000000 in
theorem penUpd_any (w0 w : World) (g : Nat) (M : Int) (ys : List Int) (h : WR w0 w g M ys) (p : PA) (hp : p.rd w0) (hf : p.sn ≤ 1073741824) (hb : ∀ s ∈ p.ss, s.n ≤ 1073741824) :
    Calls Try.prog 37 #[.agg #[.pointer (some ⟨g, 0, none⟩)], p.v] w fun e w' => e = .returned (.tuple #[]) ∧ WR w0 w' g M (ys ++ updB p) ∧ KeepT w w' := by
  have H := Lib.hid (pk_start h p)
  have HP := Lib.hid hp
  have HB := Lib.hid hb
  obtain ⟨SA, hSA⟩ : ∃ x, p.SA = x := ⟨_, rfl⟩
  obtain ⟨sn, hsn⟩ : ∃ x, p.sn = x := ⟨_, rfl⟩
  obtain ⟨sc, hsc⟩ : ∃ x, p.sc = x := ⟨_, rfl⟩
  have HN : Hid (Stl w0 SA sn p.ss) := Lib.hid (by rw [← hSA, ← hsn]; exact ⟨hp.sr, hp.ok.sl, hp.sa⟩)
  have HNL : Hid (p.ss.length = sn) := Lib.hid (by rw [← hsn]; exact hp.ok.sl)
  have hcc : sn ≤ sc ∧ sc ≤ 9223372036854775807 := by rw [← hsn, ← hsc]; exact hp.ok.sc
  rw [hsn] at hf
  have HSA := Lib.hid (And.intro hSA (And.intro hsn hsc))
  clear h hp hSA hsn hsc hb
  show Calls Try.prog 37 #[.agg #[.pointer (some ⟨g, 0, none⟩)], .agg #[.int .u8 p.typ, .int .u32 p.router, .int .u32 p.area, .int .u32 p.mask, .int .u16 p.ivl, .int .u8 p.hopts, .int .u8 p.pri, .int .u32 p.dead, .int .u32 p.dr, .int .u32 p.bdr, .slice p.NA p.nn p.nc, .int .u16 p.mtu, .int .u8 p.dopts, .int .u8 p.flags, .int .u32 p.seq, .slice p.DA p.dn p.dc, .slice p.KA p.kn p.kc, .slice p.SA p.sn p.sc, .slice p.HA p.hn p.hc]] w _
  go_enter Try.func37, Try.ntmps37
  go_wp2_with fail
  generalize hgs : w.heap.size = gp at *
  clear hgs
  generalize hgk : gp + 1 = gk at *
  clear hgk
  generalize (w.alloc (.cells #[.pointer (some ⟨g, 0, none⟩)] 80)).alloc (.cells #[.int .u8 p.typ, .int .u32 p.router, .int .u32 p.area, .int .u32 p.mask, .int .u16 p.ivl, .int .u8 p.hopts, .int .u8 p.pri, .int .u32 p.dead, .int .u32 p.dr, .int .u32 p.bdr, .slice p.NA p.nn p.nc, .int .u16 p.mtu, .int .u8 p.dopts, .int .u8 p.flags, .int .u32 p.seq, .slice p.DA p.dn p.dc, .slice p.KA p.kn p.kc, .slice p.SA p.sn p.sc, .slice p.HA p.hn p.hc] 33) = w1 at *
  simp only [HSA.out.1, HSA.out.2.1, HSA.out.2.2]
  rw [show ((sn : Int) % 4294967296) = sn by omega]
  refine (wr_num w0 w1 g M _ H.out.1 (sn : Int) 4 (by omega) (by omega) (by omega) (fits_of (by omega) (by omega) (.inl rfl))).mono ?_
  rintro e w2 ⟨rfl, hw, hk⟩
  have HW2 := Lib.hid hw
  have HK2 := Lib.hid (H.out.2.1.trans hk)
  have HS2 := Lib.hid (PkS.keep hk H.out.2.2)
  have hx := HS2.out
  unfold PkS PpBlk at hx
  have b17 := hx.2.cell 17
  simp at b17
  rw [HSA.out.1, HSA.out.2.1, HSA.out.2.2] at b17
  clear hw hk hx H
  go_wp2_with fail
  clear b17
  have HW1 : Hid (WR w0 w2 g M (ys ++ numB (sn : Int) 4 ++ statesB (p.ss.take 0))) := Lib.hid (by simpa [statesB] using HW2.out)
  have HP1 := Lib.hid HS2.out.1
  clear HS2 HW2
  go_loopw [16] (RelU w0 g gp M (ys ++ numB (sn : Int) 4) p.ss sn w) (fun iv _ => sn - (intOf iv).toNat)
  case atStart => exact ⟨0, rfl, by omega, HW1, HK2, HP1⟩
  case round =>
    obtain ⟨i, rfl, hi, hW, hK, hS⟩ := hrel
    by_cases hlt : i < sn
    · obtain ⟨ad, x, rfl, _, hx, hok, a0, a1, a2, a3, a4, a5, a6, a7, a8⟩ := (HN.out.later hW.out.b).at_ hlt
      have HXO := Lib.hid ((HN.out.ok x (List.mem_of_getElem? hx)).rd (Nat.le_trans (HB.out x (List.mem_of_getElem? hx)) (by decide)))
      have HXn := Lib.hid (HB.out x (List.mem_of_getElem? hx))
      have HT := Lib.hid (take_snocL hx)
      have hba : Below wr.heap.size wr (wr.alloc (.cells #[.int .u16 x.h.age, .int .u8 x.h.opts, .int .u8 x.h.typ, .int .u32 x.h.id, .int .u32 x.h.adv, .int .i32 x.h.seq, .int .u16 x.h.sum, .int .u16 x.h.len, .slice x.A x.n x.c] 76)) := (Below.refl _ _).alloc (Nat.le_refl _) _
      have HW : Hid (WR w0 (wr.alloc (.cells #[.int .u16 x.h.age, .int .u8 x.h.opts, .int .u8 x.h.typ, .int .u32 x.h.id, .int .u32 x.h.adv, .int .i32 x.h.seq, .int .u16 x.h.sum, .int .u16 x.h.len, .slice x.A x.n x.c] 76)).drew g M (ys ++ numB (sn : Int) 4 ++ statesB (p.ss.take i))) := Lib.hid (hW.out.later hba).drew
      have HK : Hid (KeepT w (wr.alloc (.cells #[.int .u16 x.h.age, .int .u8 x.h.opts, .int .u8 x.h.typ, .int .u32 x.h.id, .int .u32 x.h.adv, .int .i32 x.h.seq, .int .u16 x.h.sum, .int .u16 x.h.len, .slice x.A x.n x.c] 76)).drew) := Lib.hid (hK.out.trans (KeepT.of_below hba.drew))
      have HS : Hid (PsS gp g wr.heap.size x (wr.alloc (.cells #[.int .u16 x.h.age, .int .u8 x.h.opts, .int .u8 x.h.typ, .int .u32 x.h.id, .int .u32 x.h.adv, .int .i32 x.h.seq, .int .u16 x.h.sum, .int .u16 x.h.len, .slice x.A x.n x.c] 76)).drew) := Lib.hid ⟨(hS.out.later hba).drewN 1, (Blk.new wr 76 _).drewN 1⟩
      clear hx hba hW hK hS HW1 HK2 HP1 hok
      obtain ⟨h, xA, xn, xc, xB⟩ := x
      simp only at a0 a1 a2 a3 a4 a5 a6 a7 a8
      go_wp2_with fail
      clear a0 a1 a2 a3 a4 a5 a6 a7 a8
      generalize wr.heap.size = gx at *
      refine wp_region_t (PsS gp g gx ⟨h, xA, xn, xc, xB⟩) (.take 0 (.take 1 (.take 2 (.one 3 (.one 4 .nil))))) (by kernel_rfl) (fun _ d _ _ _ h => by cases d <;> exact h) ?_
      simp only [TStep.node, nthOp_zero, nthOp_succ]
      generalize (wr.alloc (.cells #[.int .u16 h.age, .int .u8 h.opts, .int .u8 h.typ, .int .u32 h.id, .int .u32 h.adv, .int .i32 h.seq, .int .u16 h.sum, .int .u16 h.len, .slice xA xn xc] 76)).drew = v0 at *
      refine wpT_take HS (by rfl) (by intro W hW; clear hW; go_simp; try with_reducible rfl) ?_
      refine wpT_take HS (by rfl) (by intro W hW; obtain ⟨hp, hh⟩ := hW; unfold PpBlk at hp; have a0 := hp.cell 0; have b0 := hh.cell 0; have b1 := hh.cell 1; have b2 := hh.cell 2; have b3 := hh.cell 3; have b4 := hh.cell 4; have b5 := hh.cell 5; have b6 := hh.cell 6; have b7 := hh.cell 7; have b8 := hh.cell 8; clear hp hh; simp at a0 b0 b1 b2 b3 b4 b5 b6 b7 b8; go_simp; try with_reducible rfl) ?_
      refine wpT_take HS (by rfl) (by intro W hW; obtain ⟨hp, hh⟩ := hW; unfold PpBlk at hp; have a0 := hp.cell 0; have b0 := hh.cell 0; have b1 := hh.cell 1; have b2 := hh.cell 2; have b3 := hh.cell 3; have b4 := hh.cell 4; have b5 := hh.cell 5; have b6 := hh.cell 6; have b7 := hh.cell 7; have b8 := hh.cell 8; clear hp hh; simp at a0 b0 b1 b2 b3 b4 b5 b6 b7 b8; go_simp; try with_reducible rfl) ?_
      go_simp
      refine wpT_do fun K hK => ?_
      go_wp2_with fail
      refine (bytes_any ⟨h, xA, xn, xc, xB⟩ v0 (HXO.out.later HW.out.b) HXn.out).mono ?_
      rintro e v1 ⟨u, rfl, hu, hb⟩
      obtain ⟨Au, cu, hue, _, _, hru⟩ := own_shape hu
      subst hue
      have HRb := Lib.hid hru
      replace HW := Lib.hid (HW.out.later hb)
      replace HK := Lib.hid (HK.out.trans (KeepT.of_below hb))
      replace HS : Hid (PsS gp g gx ⟨h, xA, xn, xc, xB⟩ v1) := Lib.hid (PsS.keep (KeepT.of_below hb) HS.out)
      clear hu hb hru
      have hxn2 : xn ≤ 1073741824 := HXn.out
      go_wp2_with fail
      refine hK.out _ _ HS.out ?_
      clear hK K
      go_simp
      refine wpT_do fun K hK => ?_
      go_wp2_with fail
      refine (wr_put w0 v1 g M _ _ HW.out _ (20 + xn) _ HRb.out (by omega)).mono ?_
      rintro e v2 ⟨rfl, hw, hk⟩
      replace HW := Lib.hid hw
      replace HK := Lib.hid (HK.out.trans hk)
      replace HS : Hid ((PsS gp g gx ⟨h, xA, xn, xc, xB⟩) v2) := Lib.hid (PsS.keep hk HS.out)
      clear hw hk
      go_wp2_with fail
      clear HRb
      refine hK.out _ _ HS.out ?_
      clear hK K
      refine wpT_nil ?_
      go_simp
      go_wp2_with fail
      go_roundw
      case rel => exact ⟨i + 1, by go_num, by omega, by rw [HT.out, statesB_snoc]; simpa only [List.append_assoc] using HW, HK, Lib.hid HS.out.1⟩
      case measure => simp [intOf]; omega
    · obtain rfl : i = sn := by omega
      have HW := hW
      have HK := hK
      clear hW hK hS
      go_wp2_with fail
      go_end0
      refine ⟨rfl, ?_, HK.out⟩
      have := HW.out
      rw [List.take_of_length_le (by rw [HNL.out]; exact Nat.le_refl _)] at this
      unfold updB
      rw [HSA.out.2.1]
      simpa only [List.append_assoc] using this
end Go.Proofs.Ytbkejlalbjomkaa
