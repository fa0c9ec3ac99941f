/-
  Packets' parts, laid: hello, description, request. Printed by gen_pk2.py.
  Packets' parts, laid: lists of heads. Printed by gen_pk3.py.
-/
import Derived.Test.YtbkejlalbjomkaaPk1
namespace Go.Proofs.Ytbkejlalbjomkaa
set_option linter.unusedVariables false
open Go.RowKit

def wordsB (l : List Int) : List Int := l.flatMap fun x => numB x 4
theorem wordsB_snoc (l : List Int) (x : Int) : wordsB (l ++ [x]) = wordsB l ++ numB x 4 := by simp [wordsB, List.flatMap_append]
/-- A Hello's bytes. -/
def helloH (p : PA) : List Int := numB p.mask 4 ++ numB p.ivl 2 ++ [p.hopts, p.pri] ++ numB p.dead 4 ++ numB p.dr 4 ++ numB p.bdr 4
def helloB (p : PA) : List Int := helloH p ++ wordsB p.nb
def PhP (gp g gh : Nat) (p : PA) (W : World) : Prop := PpBlk W gp g ∧ Blk W gh 26 p.HC
theorem PhP.keep {gp g gh : Nat} {p : PA} {W W' : World} (k : KeepT W W') (h : PhP gp g gh p W) : PhP gp g gh p W' := ⟨k.pen h.1, h.2.keepT k⟩
theorem three_new (w : World) (a b c : Obj) : Below w.heap.size w (((w.alloc a).alloc b).alloc c) := (below_two w a b).alloc (by rw [World.size_alloc, World.size_alloc]; omega) c
def RelH (w0 : World) (g gp : Nat) (M : Int) (ys nb : List Int) (nn : Nat) (w1 : World) (iv : Value) (W : World) : Prop :=
  ∃ i : Nat, iv = .int .i64 i ∧ i ≤ nn ∧ Hid (WR w0 W g M (ys ++ wordsB (nb.take i))) ∧ Hid (KeepT w1 W) ∧ Hid (PpBlk W gp g)
theorem take_snocL {α : Type} {l : List α} {i : Nat} {x : α} (h : l[i]? = some x) : l.take (i + 1) = l.take i ++ [x] := by rw [List.take_add_one, h]; rfl
set_option maxRecDepth 100000 in
set_option maxHeartbeats 8000000 in
theorem penHello_any (w0 w : World) (g : Nat) (M : Int) (ys : List Int) (h : WR w0 w g M ys) (p : PA) (hp : p.rd w0) (hf : p.nn ≤ 1073741824) :
    Calls Try.prog 34 #[.agg #[.pointer (some ⟨g, 0, none⟩)], p.v] w fun e w' => e = .returned (.tuple #[]) ∧ WR w0 w' g M (ys ++ helloB p) ∧ KeepT w w' := by
  have HP := Lib.hid hp
  have HO := Lib.hid hp.ok
  have HW : Hid (WR w0 (((w.alloc (.cells #[.pointer (some ⟨g, 0, none⟩)] 80)).alloc (.cells #[.int .u8 p.typ, .int .u32 p.router, .int .u32 p.area, .int .u32 p.mask, .int .u16 p.ivl, .int .u8 p.hopts, .int .u8 p.pri, .int .u32 p.dead, .int .u32 p.dr, .int .u32 p.bdr, .slice p.NA p.nn p.nc, .int .u16 p.mtu, .int .u8 p.dopts, .int .u8 p.flags, .int .u32 p.seq, .slice p.DA p.dn p.dc, .slice p.KA p.kn p.kc, .slice p.SA p.sn p.sc, .slice p.HA p.hn p.hc] 33)).alloc (.cells #[.int .u32 p.mask, .int .u16 p.ivl, .int .u8 p.hopts, .int .u8 p.pri, .int .u32 p.dead, .int .u32 p.dr, .int .u32 p.bdr, .slice p.NA p.nn p.nc] 26)).drew g M ys) := Lib.hid (((h.alloc _).alloc _).alloc _).drew
  have HK : Hid (KeepT w (((w.alloc (.cells #[.pointer (some ⟨g, 0, none⟩)] 80)).alloc (.cells #[.int .u8 p.typ, .int .u32 p.router, .int .u32 p.area, .int .u32 p.mask, .int .u16 p.ivl, .int .u8 p.hopts, .int .u8 p.pri, .int .u32 p.dead, .int .u32 p.dr, .int .u32 p.bdr, .slice p.NA p.nn p.nc, .int .u16 p.mtu, .int .u8 p.dopts, .int .u8 p.flags, .int .u32 p.seq, .slice p.DA p.dn p.dc, .slice p.KA p.kn p.kc, .slice p.SA p.sn p.sc, .slice p.HA p.hn p.hc] 33)).alloc (.cells #[.int .u32 p.mask, .int .u16 p.ivl, .int .u8 p.hopts, .int .u8 p.pri, .int .u32 p.dead, .int .u32 p.dr, .int .u32 p.bdr, .slice p.NA p.nn p.nc] 26)).drew) := Lib.hid (KeepT.of_below (three_new _ _ _ _).drew)
  have HB2 := Lib.hid (new_at w (.cells #[.pointer (some ⟨g, 0, none⟩)] 80) (.cells #[.int .u8 p.typ, .int .u32 p.router, .int .u32 p.area, .int .u32 p.mask, .int .u16 p.ivl, .int .u8 p.hopts, .int .u8 p.pri, .int .u32 p.dead, .int .u32 p.dr, .int .u32 p.bdr, .slice p.NA p.nn p.nc, .int .u16 p.mtu, .int .u8 p.dopts, .int .u8 p.flags, .int .u32 p.seq, .slice p.DA p.dn p.dc, .slice p.KA p.kn p.kc, .slice p.SA p.sn p.sc, .slice p.HA p.hn p.hc] 33))
  have HS : Hid (PhP w.heap.size g (w.heap.size + 1 + 1) p (((w.alloc (.cells #[.pointer (some ⟨g, 0, none⟩)] 80)).alloc (.cells #[.int .u8 p.typ, .int .u32 p.router, .int .u32 p.area, .int .u32 p.mask, .int .u16 p.ivl, .int .u8 p.hopts, .int .u8 p.pri, .int .u32 p.dead, .int .u32 p.dr, .int .u32 p.bdr, .slice p.NA p.nn p.nc, .int .u16 p.mtu, .int .u8 p.dopts, .int .u8 p.flags, .int .u32 p.seq, .slice p.DA p.dn p.dc, .slice p.KA p.kn p.kc, .slice p.SA p.sn p.sc, .slice p.HA p.hn p.hc] 33)).alloc (.cells #[.int .u32 p.mask, .int .u16 p.ivl, .int .u8 p.hopts, .int .u8 p.pri, .int .u32 p.dead, .int .u32 p.dr, .int .u32 p.bdr, .slice p.NA p.nn p.nc] 26)).drew) := Lib.hid ⟨(((Blk.new w 80 _).alloc _).alloc _).drewN 1, by
    have := (Blk.new ((w.alloc (.cells #[.pointer (some ⟨g, 0, none⟩)] 80)).alloc (.cells #[.int .u8 p.typ, .int .u32 p.router, .int .u32 p.area, .int .u32 p.mask, .int .u16 p.ivl, .int .u8 p.hopts, .int .u8 p.pri, .int .u32 p.dead, .int .u32 p.dr, .int .u32 p.bdr, .slice p.NA p.nn p.nc, .int .u16 p.mtu, .int .u8 p.dopts, .int .u8 p.flags, .int .u32 p.seq, .slice p.DA p.dn p.dc, .slice p.KA p.kn p.kc, .slice p.SA p.sn p.sc, .slice p.HA p.hn p.hc] 33)) 26 #[.int .u32 p.mask, .int .u16 p.ivl, .int .u8 p.hopts, .int .u8 p.pri, .int .u32 p.dead, .int .u32 p.dr, .int .u32 p.bdr, .slice p.NA p.nn p.nc]).drewN 1
    rw [World.size_alloc, World.size_alloc] at this
    exact this⟩
  have wivl : IntKind.u32.wrap p.ivl = p.ivl := by have := HO.out.ivl; simp [IntKind.wrap, IntKind.bits, IntKind.signed]; omega
  obtain ⟨NA, hNA⟩ : ∃ x, p.NA = x := ⟨_, rfl⟩
  obtain ⟨nn, hnn⟩ : ∃ x, p.nn = x := ⟨_, rfl⟩
  obtain ⟨nc, hnc⟩ : ∃ x, p.nc = x := ⟨_, rfl⟩
  have HN : Hid (Reads w0 w0.heap.size 1 NA nn (u32s p.nb)) := Lib.hid (by rw [← hNA, ← hnn]; exact hp.nr)
  have hnl : p.nb.length = nn := by rw [← hnn]; exact hp.ok.nl
  have hcc : nn ≤ nc ∧ nc ≤ 9223372036854775807 := by rw [← hnn, ← hnc]; exact hp.ok.nc
  have HNL := Lib.hid hnl
  rw [hnn] at hf
  have HNA := Lib.hid (And.intro hNA (And.intro hnn hnc))
  clear h hp hnl hNA hnn hnc
  show Calls Try.prog 34 #[.agg #[.pointer (some ⟨g, 0, none⟩)], .agg #[.int .u8 p.typ, .int .u32 p.router, .int .u32 p.area, .int .u32 p.mask, .int .u16 p.ivl, .int .u8 p.hopts, .int .u8 p.pri, .int .u32 p.dead, .int .u32 p.dr, .int .u32 p.bdr, .slice p.NA p.nn p.nc, .int .u16 p.mtu, .int .u8 p.dopts, .int .u8 p.flags, .int .u32 p.seq, .slice p.DA p.dn p.dc, .slice p.KA p.kn p.kc, .slice p.SA p.sn p.sc, .slice p.HA p.hn p.hc]] w _
  go_enter Try.func34, Try.ntmps34
  have hcb : Blk ((w.alloc (.cells #[.pointer (some ⟨g, 0, none⟩)] 80)).alloc (.cells #[.int .u8 p.typ, .int .u32 p.router, .int .u32 p.area, .int .u32 p.mask, .int .u16 p.ivl, .int .u8 p.hopts, .int .u8 p.pri, .int .u32 p.dead, .int .u32 p.dr, .int .u32 p.bdr, .slice p.NA p.nn p.nc, .int .u16 p.mtu, .int .u8 p.dopts, .int .u8 p.flags, .int .u32 p.seq, .slice p.DA p.dn p.dc, .slice p.KA p.kn p.kc, .slice p.SA p.sn p.sc, .slice p.HA p.hn p.hc] 33)) (w.heap.size + 1) 33 #[.int .u8 p.typ, .int .u32 p.router, .int .u32 p.area, .int .u32 p.mask, .int .u16 p.ivl, .int .u8 p.hopts, .int .u8 p.pri, .int .u32 p.dead, .int .u32 p.dr, .int .u32 p.bdr, .slice p.NA p.nn p.nc, .int .u16 p.mtu, .int .u8 p.dopts, .int .u8 p.flags, .int .u32 p.seq, .slice p.DA p.dn p.dc, .slice p.KA p.kn p.kc, .slice p.SA p.sn p.sc, .slice p.HA p.hn p.hc] := HB2.out
  have c3 := hcb.cell 3
  have c4 := hcb.cell 4
  have c5 := hcb.cell 5
  have c6 := hcb.cell 6
  have c7 := hcb.cell 7
  have c8 := hcb.cell 8
  have c9 := hcb.cell 9
  have c10 := hcb.cell 10
  simp at c3 c4 c5 c6 c7 c8 c9 c10
  clear hcb
  go_wp2_with fail
  clear HB2
  generalize w.heap.size + 1 + 1 = gh at *
  generalize w.heap.size = gp at *
  refine wp_region_t (PhP gp g gh p) (.take 0 (.take 2 (.take 5 (.take 9 (.take 11 (.take 15 (.take 18 (.take 21 (.take 1 (.take 3 (.take 6 (.take 7 (.take 10 (.take 12 (.take 16 (.take 19 (.take 22 (.fork 4 13 (.fork 8 13 (.one 13 (.one 14 (.one 17 (.one 20 (.one 23 .nil))))) (.one 8 (.one 14 (.one 17 (.one 20 (.one 23 .nil)))))) (.one 4 (.one 8 (.one 14 (.one 17 (.one 20 (.one 23 .nil)))))))))))))))))))))))) (by kernel_rfl) (fun _ d _ _ _ h => by cases d <;> exact h) ?_
  simp only [TStep.node, nthOp_zero, nthOp_succ]
  generalize (((w.alloc (.cells #[.pointer (some ⟨g, 0, none⟩)] 80)).alloc (.cells #[.int .u8 p.typ, .int .u32 p.router, .int .u32 p.area, .int .u32 p.mask, .int .u16 p.ivl, .int .u8 p.hopts, .int .u8 p.pri, .int .u32 p.dead, .int .u32 p.dr, .int .u32 p.bdr, .slice p.NA p.nn p.nc, .int .u16 p.mtu, .int .u8 p.dopts, .int .u8 p.flags, .int .u32 p.seq, .slice p.DA p.dn p.dc, .slice p.KA p.kn p.kc, .slice p.SA p.sn p.sc, .slice p.HA p.hn p.hc] 33)).alloc (.cells #[.int .u32 p.mask, .int .u16 p.ivl, .int .u8 p.hopts, .int .u8 p.pri, .int .u32 p.dead, .int .u32 p.dr, .int .u32 p.bdr, .slice p.NA p.nn p.nc] 26)).drew = v0 at *
  refine wpT_take HS (by rfl) (by intro W hW; clear hW; go_simp; try with_reducible rfl) ?_
  refine wpT_take HS (by rfl) (by intro W hW; clear hW; go_simp; try with_reducible rfl) ?_
  refine wpT_take HS (by rfl) (by intro W hW; clear hW; go_simp; try with_reducible rfl) ?_
  refine wpT_take HS (by rfl) (by intro W hW; clear hW; go_simp; try with_reducible rfl) ?_
  refine wpT_take HS (by rfl) (by intro W hW; clear hW; go_simp; try with_reducible rfl) ?_
  refine wpT_take HS (by rfl) (by intro W hW; clear hW; go_simp; try with_reducible rfl) ?_
  go_simp
  refine wpT_take HS (by rfl) (by intro W hW; clear hW; go_simp; try with_reducible rfl) ?_
  refine wpT_take HS (by rfl) (by intro W hW; clear hW; go_simp; try with_reducible rfl) ?_
  refine wpT_take HS (by rfl) (by intro W hW; obtain ⟨hp, hh⟩ := hW; unfold PpBlk at hp; have a0 := hp.cell 0; have b0 := hh.cell 0; have b1 := hh.cell 1; have b2 := hh.cell 2; have b3 := hh.cell 3; have b4 := hh.cell 4; have b5 := hh.cell 5; have b6 := hh.cell 6; have b7 := hh.cell 7; clear hp hh; simp at a0 b0 b1 b2 b3 b4 b5 b6 b7; go_simp; try with_reducible rfl) ?_
  refine wpT_take HS (by rfl) (by intro W hW; obtain ⟨hp, hh⟩ := hW; unfold PpBlk at hp; have a0 := hp.cell 0; have b0 := hh.cell 0; have b1 := hh.cell 1; have b2 := hh.cell 2; have b3 := hh.cell 3; have b4 := hh.cell 4; have b5 := hh.cell 5; have b6 := hh.cell 6; have b7 := hh.cell 7; clear hp hh; simp at a0 b0 b1 b2 b3 b4 b5 b6 b7; go_simp; try with_reducible rfl) ?_
  refine wpT_take HS (by rfl) (by intro W hW; obtain ⟨hp, hh⟩ := hW; unfold PpBlk at hp; have a0 := hp.cell 0; have b0 := hh.cell 0; have b1 := hh.cell 1; have b2 := hh.cell 2; have b3 := hh.cell 3; have b4 := hh.cell 4; have b5 := hh.cell 5; have b6 := hh.cell 6; have b7 := hh.cell 7; clear hp hh; simp at a0 b0 b1 b2 b3 b4 b5 b6 b7; go_simp; try with_reducible rfl) ?_
  refine wpT_take HS (by rfl) (by intro W hW; clear hW; go_simp; try with_reducible rfl) ?_
  go_simp
  refine wpT_take HS (by rfl) (by intro W hW; obtain ⟨hp, hh⟩ := hW; unfold PpBlk at hp; have a0 := hp.cell 0; have b0 := hh.cell 0; have b1 := hh.cell 1; have b2 := hh.cell 2; have b3 := hh.cell 3; have b4 := hh.cell 4; have b5 := hh.cell 5; have b6 := hh.cell 6; have b7 := hh.cell 7; clear hp hh; simp at a0 b0 b1 b2 b3 b4 b5 b6 b7; go_simp; try with_reducible rfl) ?_
  refine wpT_take HS (by rfl) (by intro W hW; obtain ⟨hp, hh⟩ := hW; unfold PpBlk at hp; have a0 := hp.cell 0; have b0 := hh.cell 0; have b1 := hh.cell 1; have b2 := hh.cell 2; have b3 := hh.cell 3; have b4 := hh.cell 4; have b5 := hh.cell 5; have b6 := hh.cell 6; have b7 := hh.cell 7; clear hp hh; simp at a0 b0 b1 b2 b3 b4 b5 b6 b7; go_simp; try with_reducible rfl) ?_
  refine wpT_take HS (by rfl) (by intro W hW; obtain ⟨hp, hh⟩ := hW; unfold PpBlk at hp; have a0 := hp.cell 0; have b0 := hh.cell 0; have b1 := hh.cell 1; have b2 := hh.cell 2; have b3 := hh.cell 3; have b4 := hh.cell 4; have b5 := hh.cell 5; have b6 := hh.cell 6; have b7 := hh.cell 7; clear hp hh; simp at a0 b0 b1 b2 b3 b4 b5 b6 b7; go_simp; try with_reducible rfl) ?_
  refine wpT_take HS (by rfl) (by intro W hW; obtain ⟨hp, hh⟩ := hW; unfold PpBlk at hp; have a0 := hp.cell 0; have b0 := hh.cell 0; have b1 := hh.cell 1; have b2 := hh.cell 2; have b3 := hh.cell 3; have b4 := hh.cell 4; have b5 := hh.cell 5; have b6 := hh.cell 6; have b7 := hh.cell 7; clear hp hh; simp at a0 b0 b1 b2 b3 b4 b5 b6 b7; go_simp; try with_reducible rfl) ?_
  refine wpT_take HS (by rfl) (by intro W hW; obtain ⟨hp, hh⟩ := hW; unfold PpBlk at hp; have a0 := hp.cell 0; have b0 := hh.cell 0; have b1 := hh.cell 1; have b2 := hh.cell 2; have b3 := hh.cell 3; have b4 := hh.cell 4; have b5 := hh.cell 5; have b6 := hh.cell 6; have b7 := hh.cell 7; clear hp hh; simp at a0 b0 b1 b2 b3 b4 b5 b6 b7; go_simp; try with_reducible rfl) ?_
  go_simp
  refine wpT_fork (fun K hK => ?_) (fun K hK => ?_)
  · go_wp2_with fail
    refine (wr_num w0 v0 g M _ HW.out p.mask 4 (by have := HO.out.mask; omega) (by have := HO.out.mask; omega) (by omega) (fits_of (by omega) (by omega) (.inl rfl))).mono ?_
    rintro e v1 ⟨rfl, hw, hk⟩
    replace HW := Lib.hid hw
    replace HK := Lib.hid (HK.out.trans hk)
    replace HS : Hid ((PhP gp g gh p) v1) := Lib.hid (PhP.keep hk HS.out)
    clear hw hk
    go_wp2_with fail
    refine hK.out _ _ HS.out ?_
    clear hK K
    go_simp
    refine wpT_fork (fun K hK => ?_) (fun K hK => ?_)
    · go_wp2_with fail
      refine (wr_num w0 v1 g M _ HW.out p.ivl 2 (by have := HO.out.ivl; omega) (by have := HO.out.ivl; omega) (by omega) (fits_of (by omega) (by omega) (.inr (by have := HO.out.ivl; omega)))).mono ?_
      rintro e v2 ⟨rfl, hw, hk⟩
      replace HW := Lib.hid hw
      replace HK := Lib.hid (HK.out.trans hk)
      replace HS : Hid ((PhP gp g gh p) v2) := Lib.hid (PhP.keep hk HS.out)
      clear hw hk
      go_wp2_with fail
      refine hK.out _ _ HS.out ?_
      clear hK K
      go_simp
      refine wpT_do fun K hK => ?_
      go_wp2_with fail
      have hb2 : Below v2.heap.size v2 (v2.alloc (.cells #[.int .u8 p.hopts, .int .u8 p.pri] 5)) := (Below.refl _ _).alloc (Nat.le_refl _) _
      replace HK := Lib.hid (HK.out.trans (KeepT.of_below hb2))
      replace HS : Hid ((PhP gp g gh p) (v2.alloc (.cells #[.int .u8 p.hopts, .int .u8 p.pri] 5))) := Lib.hid (PhP.keep (KeepT.of_below hb2) HS.out)
      replace HW := Lib.hid (HW.out.box #[.int .u8 p.hopts, .int .u8 p.pri])
      clear hb2
      generalize v2.heap.size = gxa at *
      generalize v2.alloc (.cells #[.int .u8 p.hopts, .int .u8 p.pri] 5) = v3 at *
      refine hK.out _ _ HS.out ?_
      clear hK K
      go_simp
      refine wpT_do fun K hK => ?_
      go_wp2_with fail
      refine (wr_put w0 v3 g M _ [p.hopts, p.pri] HW.out.wr _ 2 _ (row_reads HW.out.x rfl) (by omega)).mono ?_
      rintro e v4 ⟨rfl, hw, hk⟩
      replace HW := Lib.hid hw
      replace HK := Lib.hid (HK.out.trans hk)
      replace HS : Hid ((PhP gp g gh p) v4) := Lib.hid (PhP.keep hk HS.out)
      clear hw hk
      go_wp2_with fail
      refine hK.out _ _ HS.out ?_
      clear hK K
      go_simp
      refine wpT_do fun K hK => ?_
      go_wp2_with fail
      refine (wr_num w0 v4 g M _ HW.out p.dead 4 (by have := HO.out.dead; omega) (by have := HO.out.dead; omega) (by omega) (fits_of (by omega) (by omega) (.inl rfl))).mono ?_
      rintro e v5 ⟨rfl, hw, hk⟩
      replace HW := Lib.hid hw
      replace HK := Lib.hid (HK.out.trans hk)
      replace HS : Hid ((PhP gp g gh p) v5) := Lib.hid (PhP.keep hk HS.out)
      clear hw hk
      go_wp2_with fail
      refine hK.out _ _ HS.out ?_
      clear hK K
      go_simp
      refine wpT_do fun K hK => ?_
      go_wp2_with fail
      refine (wr_num w0 v5 g M _ HW.out p.dr 4 (by have := HO.out.dr; omega) (by have := HO.out.dr; omega) (by omega) (fits_of (by omega) (by omega) (.inl rfl))).mono ?_
      rintro e v6 ⟨rfl, hw, hk⟩
      replace HW := Lib.hid hw
      replace HK := Lib.hid (HK.out.trans hk)
      replace HS : Hid ((PhP gp g gh p) v6) := Lib.hid (PhP.keep hk HS.out)
      clear hw hk
      go_wp2_with fail
      refine hK.out _ _ HS.out ?_
      clear hK K
      go_simp
      refine wpT_do fun K hK => ?_
      go_wp2_with fail
      refine (wr_num w0 v6 g M _ HW.out p.bdr 4 (by have := HO.out.bdr; omega) (by have := HO.out.bdr; omega) (by omega) (fits_of (by omega) (by omega) (.inl rfl))).mono ?_
      rintro e v7 ⟨rfl, hw, hk⟩
      replace HW := Lib.hid hw
      replace HK := Lib.hid (HK.out.trans hk)
      replace HS : Hid ((PhP gp g gh p) v7) := Lib.hid (PhP.keep hk HS.out)
      clear hw hk
      go_wp2_with fail
      refine hK.out _ _ HS.out ?_
      clear hK K
      refine wpT_nil ?_
      go_simp
      obtain ⟨_, hh⟩ := HS.out
      have b7 := hh.cell 7
      simp at b7
      rw [HNA.out.1, HNA.out.2.1, HNA.out.2.2] at b7
      clear hh
      go_wp2_with fail
      clear b7
      have HPn : Hid (PpBlk v7 gp g) := Lib.hid HS.out.1
      clear HS
      have HW2 : Hid (WR w0 v7 g M (ys ++ helloH p ++ wordsB (p.nb.take 0))) := by
        have := HW
        simpa only [helloH, wordsB, List.take_zero, List.flatMap_nil, List.append_nil, List.append_assoc] using this
      go_loopw [36] (RelH w0 g gp M (ys ++ helloH p) p.nb nn w) (fun iv _ => nn - (intOf iv).toNat)
      case atStart => exact ⟨0, rfl, by omega, HW2, HK, HPn⟩
      case round =>
        obtain ⟨i, rfl, hi, hW, hK, hS⟩ := hrel
        have HW := hW
        have HK := hK
        have HP := hS
        clear hW hK hS
        by_cases hlt : i < nn
        · obtain ⟨ad, x, rfl, _, hx, h1⟩ := (HN.out.later HW.out.b).u32at hlt
          have hxb := HO.out.nb x (List.mem_of_getElem? hx.out)
          have a0 : wr.cell? ⟨gp, 0, none⟩ = some (.pointer (some ⟨g, 0, none⟩)) := by have := HP.out.cell 0; simpa using this
          have HT := Lib.hid (take_snocL hx.out)
          go_wp2_with fail
          refine (wr_num w0 wr g M _ HW.out x 4 hxb.1 hxb.2 (by omega) (fits_of (by omega) (by omega) (.inl rfl))).mono ?_
          rintro e w7 ⟨rfl, hw, hk⟩
          have HW7 := Lib.hid hw
          have HK7 := Lib.hid (HK.out.trans hk)
          have HP7 := Lib.hid (hk.pen HP.out)
          clear hw hk a0 h1
          go_wp2_with fail
          go_roundw
          case rel => exact ⟨i + 1, by go_num, by omega, by rw [HT.out, wordsB_snoc, ← List.append_assoc]; exact HW7, HK7, HP7⟩
          case measure => simp [intOf]; omega
        · obtain rfl : i = nn := by omega
          go_wp2_with fail
          go_end0
          refine ⟨rfl, ?_, HK.out⟩
          have := HW.out
          rw [List.take_of_length_le (by rw [HNL.out]; exact Nat.le_refl _)] at this
          unfold helloB
          simpa only [List.append_assoc] using this
    · go_wp2_with fail
      have hb2 : Below v1.heap.size v1 (v1.alloc (.cells #[.int .u8 p.hopts, .int .u8 p.pri] 5)) := (Below.refl _ _).alloc (Nat.le_refl _) _
      replace HK := Lib.hid (HK.out.trans (KeepT.of_below hb2))
      replace HS : Hid ((PhP gp g gh p) (v1.alloc (.cells #[.int .u8 p.hopts, .int .u8 p.pri] 5))) := Lib.hid (PhP.keep (KeepT.of_below hb2) HS.out)
      replace HW := Lib.hid (HW.out.box #[.int .u8 p.hopts, .int .u8 p.pri])
      clear hb2
      generalize v1.heap.size = gxa at *
      generalize v1.alloc (.cells #[.int .u8 p.hopts, .int .u8 p.pri] 5) = v8 at *
      refine hK.out _ _ HS.out ?_
      clear hK K
      go_simp
      refine wpT_do fun K hK => ?_
      go_wp2_with fail
      refine (wrx_num w0 v8 g M _ _ _ HW.out p.ivl 2 (by have := HO.out.ivl; omega) (by have := HO.out.ivl; omega) (by omega) (fits_of (by omega) (by omega) (.inr (by have := HO.out.ivl; omega)))).mono ?_
      rintro e v9 ⟨rfl, hw, hk⟩
      replace HW := Lib.hid hw
      replace HK := Lib.hid (HK.out.trans hk)
      replace HS : Hid ((PhP gp g gh p) v9) := Lib.hid (PhP.keep hk HS.out)
      clear hw hk
      go_wp2_with fail
      refine hK.out _ _ HS.out ?_
      clear hK K
      go_simp
      refine wpT_do fun K hK => ?_
      go_wp2_with fail
      refine (wr_put w0 v9 g M _ [p.hopts, p.pri] HW.out.wr _ 2 _ (row_reads HW.out.x rfl) (by omega)).mono ?_
      rintro e v10 ⟨rfl, hw, hk⟩
      replace HW := Lib.hid hw
      replace HK := Lib.hid (HK.out.trans hk)
      replace HS : Hid ((PhP gp g gh p) v10) := Lib.hid (PhP.keep hk HS.out)
      clear hw hk
      go_wp2_with fail
      refine hK.out _ _ HS.out ?_
      clear hK K
      go_simp
      refine wpT_do fun K hK => ?_
      go_wp2_with fail
      refine (wr_num w0 v10 g M _ HW.out p.dead 4 (by have := HO.out.dead; omega) (by have := HO.out.dead; omega) (by omega) (fits_of (by omega) (by omega) (.inl rfl))).mono ?_
      rintro e v11 ⟨rfl, hw, hk⟩
      replace HW := Lib.hid hw
      replace HK := Lib.hid (HK.out.trans hk)
      replace HS : Hid ((PhP gp g gh p) v11) := Lib.hid (PhP.keep hk HS.out)
      clear hw hk
      go_wp2_with fail
      refine hK.out _ _ HS.out ?_
      clear hK K
      go_simp
      refine wpT_do fun K hK => ?_
      go_wp2_with fail
      refine (wr_num w0 v11 g M _ HW.out p.dr 4 (by have := HO.out.dr; omega) (by have := HO.out.dr; omega) (by omega) (fits_of (by omega) (by omega) (.inl rfl))).mono ?_
      rintro e v12 ⟨rfl, hw, hk⟩
      replace HW := Lib.hid hw
      replace HK := Lib.hid (HK.out.trans hk)
      replace HS : Hid ((PhP gp g gh p) v12) := Lib.hid (PhP.keep hk HS.out)
      clear hw hk
      go_wp2_with fail
      refine hK.out _ _ HS.out ?_
      clear hK K
      go_simp
      refine wpT_do fun K hK => ?_
      go_wp2_with fail
      refine (wr_num w0 v12 g M _ HW.out p.bdr 4 (by have := HO.out.bdr; omega) (by have := HO.out.bdr; omega) (by omega) (fits_of (by omega) (by omega) (.inl rfl))).mono ?_
      rintro e v13 ⟨rfl, hw, hk⟩
      replace HW := Lib.hid hw
      replace HK := Lib.hid (HK.out.trans hk)
      replace HS : Hid ((PhP gp g gh p) v13) := Lib.hid (PhP.keep hk HS.out)
      clear hw hk
      go_wp2_with fail
      refine hK.out _ _ HS.out ?_
      clear hK K
      refine wpT_nil ?_
      go_simp
      obtain ⟨_, hh⟩ := HS.out
      have b7 := hh.cell 7
      simp at b7
      rw [HNA.out.1, HNA.out.2.1, HNA.out.2.2] at b7
      clear hh
      go_wp2_with fail
      clear b7
      have HPn : Hid (PpBlk v13 gp g) := Lib.hid HS.out.1
      clear HS
      have HW2 : Hid (WR w0 v13 g M (ys ++ helloH p ++ wordsB (p.nb.take 0))) := by
        have := HW
        simpa only [helloH, wordsB, List.take_zero, List.flatMap_nil, List.append_nil, List.append_assoc] using this
      go_loopw [36] (RelH w0 g gp M (ys ++ helloH p) p.nb nn w) (fun iv _ => nn - (intOf iv).toNat)
      case atStart => exact ⟨0, rfl, by omega, HW2, HK, HPn⟩
      case round =>
        obtain ⟨i, rfl, hi, hW, hK, hS⟩ := hrel
        have HW := hW
        have HK := hK
        have HP := hS
        clear hW hK hS
        by_cases hlt : i < nn
        · obtain ⟨ad, x, rfl, _, hx, h1⟩ := (HN.out.later HW.out.b).u32at hlt
          have hxb := HO.out.nb x (List.mem_of_getElem? hx.out)
          have a0 : wr.cell? ⟨gp, 0, none⟩ = some (.pointer (some ⟨g, 0, none⟩)) := by have := HP.out.cell 0; simpa using this
          have HT := Lib.hid (take_snocL hx.out)
          go_wp2_with fail
          refine (wr_num w0 wr g M _ HW.out x 4 hxb.1 hxb.2 (by omega) (fits_of (by omega) (by omega) (.inl rfl))).mono ?_
          rintro e w7 ⟨rfl, hw, hk⟩
          have HW7 := Lib.hid hw
          have HK7 := Lib.hid (HK.out.trans hk)
          have HP7 := Lib.hid (hk.pen HP.out)
          clear hw hk a0 h1
          go_wp2_with fail
          go_roundw
          case rel => exact ⟨i + 1, by go_num, by omega, by rw [HT.out, wordsB_snoc, ← List.append_assoc]; exact HW7, HK7, HP7⟩
          case measure => simp [intOf]; omega
        · obtain rfl : i = nn := by omega
          go_wp2_with fail
          go_end0
          refine ⟨rfl, ?_, HK.out⟩
          have := HW.out
          rw [List.take_of_length_le (by rw [HNL.out]; exact Nat.le_refl _)] at this
          unfold helloB
          simpa only [List.append_assoc] using this
  · go_wp2_with fail
    have hb2 : Below v0.heap.size v0 (v0.alloc (.cells #[.int .u8 p.hopts, .int .u8 p.pri] 5)) := (Below.refl _ _).alloc (Nat.le_refl _) _
    replace HK := Lib.hid (HK.out.trans (KeepT.of_below hb2))
    replace HS : Hid ((PhP gp g gh p) (v0.alloc (.cells #[.int .u8 p.hopts, .int .u8 p.pri] 5))) := Lib.hid (PhP.keep (KeepT.of_below hb2) HS.out)
    replace HW := Lib.hid (HW.out.box #[.int .u8 p.hopts, .int .u8 p.pri])
    clear hb2
    generalize v0.heap.size = gxa at *
    generalize v0.alloc (.cells #[.int .u8 p.hopts, .int .u8 p.pri] 5) = v14 at *
    refine hK.out _ _ HS.out ?_
    clear hK K
    go_simp
    refine wpT_do fun K hK => ?_
    go_wp2_with fail
    refine (wrx_num w0 v14 g M _ _ _ HW.out p.mask 4 (by have := HO.out.mask; omega) (by have := HO.out.mask; omega) (by omega) (fits_of (by omega) (by omega) (.inl rfl))).mono ?_
    rintro e v15 ⟨rfl, hw, hk⟩
    replace HW := Lib.hid hw
    replace HK := Lib.hid (HK.out.trans hk)
    replace HS : Hid ((PhP gp g gh p) v15) := Lib.hid (PhP.keep hk HS.out)
    clear hw hk
    go_wp2_with fail
    refine hK.out _ _ HS.out ?_
    clear hK K
    go_simp
    refine wpT_do fun K hK => ?_
    go_wp2_with fail
    refine (wrx_num w0 v15 g M _ _ _ HW.out p.ivl 2 (by have := HO.out.ivl; omega) (by have := HO.out.ivl; omega) (by omega) (fits_of (by omega) (by omega) (.inr (by have := HO.out.ivl; omega)))).mono ?_
    rintro e v16 ⟨rfl, hw, hk⟩
    replace HW := Lib.hid hw
    replace HK := Lib.hid (HK.out.trans hk)
    replace HS : Hid ((PhP gp g gh p) v16) := Lib.hid (PhP.keep hk HS.out)
    clear hw hk
    go_wp2_with fail
    refine hK.out _ _ HS.out ?_
    clear hK K
    go_simp
    refine wpT_do fun K hK => ?_
    go_wp2_with fail
    refine (wr_put w0 v16 g M _ [p.hopts, p.pri] HW.out.wr _ 2 _ (row_reads HW.out.x rfl) (by omega)).mono ?_
    rintro e v17 ⟨rfl, hw, hk⟩
    replace HW := Lib.hid hw
    replace HK := Lib.hid (HK.out.trans hk)
    replace HS : Hid ((PhP gp g gh p) v17) := Lib.hid (PhP.keep hk HS.out)
    clear hw hk
    go_wp2_with fail
    refine hK.out _ _ HS.out ?_
    clear hK K
    go_simp
    refine wpT_do fun K hK => ?_
    go_wp2_with fail
    refine (wr_num w0 v17 g M _ HW.out p.dead 4 (by have := HO.out.dead; omega) (by have := HO.out.dead; omega) (by omega) (fits_of (by omega) (by omega) (.inl rfl))).mono ?_
    rintro e v18 ⟨rfl, hw, hk⟩
    replace HW := Lib.hid hw
    replace HK := Lib.hid (HK.out.trans hk)
    replace HS : Hid ((PhP gp g gh p) v18) := Lib.hid (PhP.keep hk HS.out)
    clear hw hk
    go_wp2_with fail
    refine hK.out _ _ HS.out ?_
    clear hK K
    go_simp
    refine wpT_do fun K hK => ?_
    go_wp2_with fail
    refine (wr_num w0 v18 g M _ HW.out p.dr 4 (by have := HO.out.dr; omega) (by have := HO.out.dr; omega) (by omega) (fits_of (by omega) (by omega) (.inl rfl))).mono ?_
    rintro e v19 ⟨rfl, hw, hk⟩
    replace HW := Lib.hid hw
    replace HK := Lib.hid (HK.out.trans hk)
    replace HS : Hid ((PhP gp g gh p) v19) := Lib.hid (PhP.keep hk HS.out)
    clear hw hk
    go_wp2_with fail
    refine hK.out _ _ HS.out ?_
    clear hK K
    go_simp
    refine wpT_do fun K hK => ?_
    go_wp2_with fail
    refine (wr_num w0 v19 g M _ HW.out p.bdr 4 (by have := HO.out.bdr; omega) (by have := HO.out.bdr; omega) (by omega) (fits_of (by omega) (by omega) (.inl rfl))).mono ?_
    rintro e v20 ⟨rfl, hw, hk⟩
    replace HW := Lib.hid hw
    replace HK := Lib.hid (HK.out.trans hk)
    replace HS : Hid ((PhP gp g gh p) v20) := Lib.hid (PhP.keep hk HS.out)
    clear hw hk
    go_wp2_with fail
    refine hK.out _ _ HS.out ?_
    clear hK K
    refine wpT_nil ?_
    go_simp
    obtain ⟨_, hh⟩ := HS.out
    have b7 := hh.cell 7
    simp at b7
    rw [HNA.out.1, HNA.out.2.1, HNA.out.2.2] at b7
    clear hh
    go_wp2_with fail
    clear b7
    have HPn : Hid (PpBlk v20 gp g) := Lib.hid HS.out.1
    clear HS
    have HW2 : Hid (WR w0 v20 g M (ys ++ helloH p ++ wordsB (p.nb.take 0))) := by
      have := HW
      simpa only [helloH, wordsB, List.take_zero, List.flatMap_nil, List.append_nil, List.append_assoc] using this
    go_loopw [36] (RelH w0 g gp M (ys ++ helloH p) p.nb nn w) (fun iv _ => nn - (intOf iv).toNat)
    case atStart => exact ⟨0, rfl, by omega, HW2, HK, HPn⟩
    case round =>
      obtain ⟨i, rfl, hi, hW, hK, hS⟩ := hrel
      have HW := hW
      have HK := hK
      have HP := hS
      clear hW hK hS
      by_cases hlt : i < nn
      · obtain ⟨ad, x, rfl, _, hx, h1⟩ := (HN.out.later HW.out.b).u32at hlt
        have hxb := HO.out.nb x (List.mem_of_getElem? hx.out)
        have a0 : wr.cell? ⟨gp, 0, none⟩ = some (.pointer (some ⟨g, 0, none⟩)) := by have := HP.out.cell 0; simpa using this
        have HT := Lib.hid (take_snocL hx.out)
        go_wp2_with fail
        refine (wr_num w0 wr g M _ HW.out x 4 hxb.1 hxb.2 (by omega) (fits_of (by omega) (by omega) (.inl rfl))).mono ?_
        rintro e w7 ⟨rfl, hw, hk⟩
        have HW7 := Lib.hid hw
        have HK7 := Lib.hid (HK.out.trans hk)
        have HP7 := Lib.hid (hk.pen HP.out)
        clear hw hk a0 h1
        go_wp2_with fail
        go_roundw
        case rel => exact ⟨i + 1, by go_num, by omega, by rw [HT.out, wordsB_snoc, ← List.append_assoc]; exact HW7, HK7, HP7⟩
        case measure => simp [intOf]; omega
      · obtain rfl : i = nn := by omega
        go_wp2_with fail
        go_end0
        refine ⟨rfl, ?_, HK.out⟩
        have := HW.out
        rw [List.take_of_length_le (by rw [HNL.out]; exact Nat.le_refl _)] at this
        unfold helloB
        simpa only [List.append_assoc] using this
end Go.Proofs.Ytbkejlalbjomkaa
namespace Go.Proofs.Ytbkejlalbjomkaa
set_option linter.unusedVariables false
open Go.RowKit

set_option maxRecDepth 100000 in
set_option maxHeartbeats 4000000 in
theorem stateHead_any (hd : Hd) (w : World) (hok : hd.ok) :
    Calls Try.prog 96 #[hd.v] w fun e w' => ∃ u, e = .returned u ∧ w'.ownsRow w.heap.size 5 1 u 20 (u8s (hdB hd)) ∧ Below w.heap.size w w' := by
  have HB1 : Hid (Below w.heap.size w (w.alloc (.cells #[.int .u16 hd.age, .int .u8 hd.opts, .int .u8 hd.typ, .int .u32 hd.id, .int .u32 hd.adv, .int .i32 hd.seq, .int .u16 hd.sum, .int .u16 hd.len] 74))) := Lib.hid ((Below.refl _ _).alloc (Nat.le_refl _) _)
  have HX1 : Hid (HdBlk (w.alloc (.cells #[.int .u16 hd.age, .int .u8 hd.opts, .int .u8 hd.typ, .int .u32 hd.id, .int .u32 hd.adv, .int .i32 hd.seq, .int .u16 hd.sum, .int .u16 hd.len] 74)) w.heap.size hd) := Lib.hid (Blk.new _ _ _)
  have HOk := Lib.hid hok
  have HGS : Hid (w.heap.size ≤ (w.alloc (.cells #[.int .u16 hd.age, .int .u8 hd.opts, .int .u8 hd.typ, .int .u32 hd.id, .int .u32 hd.adv, .int .i32 hd.seq, .int .u16 hd.sum, .int .u16 hd.len] 74)).heap.size) := Lib.hid HB1.out.size
  clear hok
  go_enter Try.func96, Try.ntmps96
  go_wp2_with fail
  generalize hgs : w.heap.size = gs at *
  generalize w.alloc (.cells #[.int .u16 hd.age, .int .u8 hd.opts, .int .u8 hd.typ, .int .u32 hd.id, .int .u32 hd.adv, .int .i32 hd.seq, .int .u16 hd.sum, .int .u16 hd.len] 74) = w1 at *
  have HG := Lib.hid hgs
  clear hgs
  refine (wr_new 20 w1 (by omega) (by omega)).mono ?_
  rintro e w2 ⟨g, rfl, hw2, hg1, hg2⟩
  have hb3 : Below w2.heap.size w2 (w2.alloc (.cells #[.pointer (some ⟨g, 0, none⟩)] 148)) := (Below.refl _ _).alloc (Nat.le_refl _) _
  have HP3 : Hid (PenBlk (w2.alloc (.cells #[.pointer (some ⟨g, 0, none⟩)] 148)) w2.heap.size g) := Lib.hid (Blk.new _ _ _)
  have HX3 : Hid (HdBlk (w2.alloc (.cells #[.pointer (some ⟨g, 0, none⟩)] 148)) gs hd) := Lib.hid ((HX1.out.later hw2.b).later hb3)
  have HW3 := Lib.hid (hw2.later hb3)
  have hx := HX3.out
  unfold HdBlk at hx
  have b0 := hx.cell 0
  have b1 := hx.cell 1
  have b2 := hx.cell 2
  have b3 := hx.cell 3
  have b4 := hx.cell 4
  have b5 := hx.cell 5
  have b6 := hx.cell 6
  have b7 := hx.cell 7
  simp at b0 b1 b2 b3 b4 b5 b6 b7
  clear hx hw2 hb3 HX1
  go_wp2_with fail
  clear b0 b1 b2 b3 b4 b5 b6 b7
  generalize w2.heap.size = gp at *
  generalize w2.alloc (.cells #[.pointer (some ⟨g, 0, none⟩)] 148) = w3 at *
  refine (penHead_any w1 w3 g 20 [] HW3.out hd HOk.out).mono ?_
  rintro e w4 ⟨rfl, hw4, hk4⟩
  have HW4 := Lib.hid hw4
  have hp4 : PenBlk w4 gp g := hk4.2 _ _ _ HP3.out (by decide) (by decide)
  unfold PenBlk at hp4
  have p0 := hp4.cell 0
  simp at p0
  clear hw4 hk4 hp4 HP3 HX3
  go_wp2_with fail
  refine (wr_done_yes w1 w4 g 20 _ HW4.out (by simp [hdB_len])).mono ?_
  rintro e w5 ⟨u, rfl, hu, hb5⟩
  have hl : ([] ++ hdB hd).length = 20 := by simp [hdB_len]
  rw [hl, List.nil_append] at hu
  have HU := Lib.hid hu
  have HB5 := Lib.hid hb5
  clear hu hb5 hl p0
  go_wp2_with fail
  go_ret
  refine ⟨_, rfl, own_mono HU.out ?_, ?_⟩
  · rw [HG.out]; exact Nat.le_trans HGS.out HW4.out.b.size
  · have hB1 : Below w.heap.size w w1 := by rw [HG.out]; exact HB1.out
    exact below_then (below_then hB1 HW4.out.b) HB5.out

def hdsB (l : List Hd) : List Int := l.flatMap hdB
theorem hdsB_snoc (l : List Hd) (x : Hd) : hdsB (l ++ [x]) = hdsB l ++ hdB x := by simp [hdsB, List.flatMap_append]
def PaS (gp g gh : Nat) (x : Hd) (W : World) : Prop := PpBlk W gp g ∧ HdBlk W gh x
theorem PaS.keep {gp g gh : Nat} {x : Hd} {W W' : World} (k : KeepT W W') (h : PaS gp g gh x W) : PaS gp g gh x W' := ⟨k.pen h.1, Blk.keepT h.2 k⟩
def RelA (w0 : World) (g gp : Nat) (M : Int) (ys : List Int) (L : List Hd) (n : Nat) (w1 : World) (iv : Value) (W : World) : Prop :=
  ∃ i : Nat, iv = .int .i64 i ∧ i ≤ n ∧ Hid (WR w0 W g M (ys ++ hdsB (L.take i))) ∧ Hid (KeepT w1 W) ∧ Hid (PpBlk W gp g)
/-- The cells of a head that stands at an address. -/
def HdAt (w : World) (ad : Addr) (s : Hd) : Prop :=
  w.cell? ad = some (.int .u16 s.age) ∧ w.cell? ⟨ad.block, ad.off + 1, none⟩ = some (.int .u8 s.opts) ∧ w.cell? ⟨ad.block, ad.off + 2, none⟩ = some (.int .u8 s.typ) ∧ w.cell? ⟨ad.block, ad.off + 3, none⟩ = some (.int .u32 s.id) ∧ w.cell? ⟨ad.block, ad.off + 4, none⟩ = some (.int .u32 s.adv) ∧
    w.cell? ⟨ad.block, ad.off + 5, none⟩ = some (.int .i32 s.seq) ∧ w.cell? ⟨ad.block, ad.off + 6, none⟩ = some (.int .u16 s.sum) ∧ w.cell? ⟨ad.block, ad.off + 7, none⟩ = some (.int .u16 s.len)
theorem heads_at {w : World} {B n i : Nat} {A : Option Addr} {L : List Hd} (h : Reads w B 8 A n (L.flatMap Hd.cells)) (hl : L.length = n) (hi : i < n) : ∃ ad s, A = some ad ∧ ad.block < B ∧ L[i]? = some s ∧ HdAt w (ad.add (i * 8)) s := by
  obtain ⟨ad, s, e, hb, hs, h0, hj⟩ := rowG_at hd_len h hl hi
  exact ⟨ad, s, e, hb, hs, h0 _ rfl, hj 1 _ (by decide) rfl, hj 2 _ (by decide) rfl, hj 3 _ (by decide) rfl, hj 4 _ (by decide) rfl, hj 5 _ (by decide) rfl, hj 6 _ (by decide) rfl, hj 7 _ (by decide) rfl⟩
set_option maxRecDepth 100000 in
set_option maxHeartbeats 8000000 in
theorem penAll_any (w0 w : World) (g : Nat) (M : Int) (ys : List Int) (h : WR w0 w g M ys) (A : Option Addr) (n c : Nat) (L : List Hd) (hL : Reads w0 w0.heap.size 8 A n (L.flatMap Hd.cells)) (hl : L.length = n) (hok : ∀ x ∈ L, x.ok) (hn : n ≤ 1073741824) :
    Calls Try.prog 80 #[.agg #[.pointer (some ⟨g, 0, none⟩)], .slice A n c] w fun e w' => e = .returned (.tuple #[]) ∧ WR w0 w' g M (ys ++ hdsB L) ∧ KeepT w w' := by
  have HL := Lib.hid hL
  have HLn := Lib.hid hl
  have HOk := Lib.hid hok
  have HW : Hid (WR w0 (w.alloc (.cells #[.pointer (some ⟨g, 0, none⟩)] 80)) g M (ys ++ hdsB (L.take 0))) := Lib.hid (by simpa [hdsB] using h.alloc (.cells #[.pointer (some ⟨g, 0, none⟩)] 80))
  have HK : Hid (KeepT w (w.alloc (.cells #[.pointer (some ⟨g, 0, none⟩)] 80))) := Lib.hid (KeepT.of_below ((Below.refl _ _).alloc (Nat.le_refl _) _))
  have HPn : Hid (PpBlk (w.alloc (.cells #[.pointer (some ⟨g, 0, none⟩)] 80)) w.heap.size g) := Lib.hid (Blk.new _ _ _)
  clear h hL hl hok
  go_enter Try.func80, Try.ntmps80
  go_wp2_with fail
  generalize w.heap.size = gp at *
  generalize w.alloc (.cells #[.pointer (some ⟨g, 0, none⟩)] 80) = w1 at *
  go_loopw [8] (RelA w0 g gp M ys L n w) (fun iv _ => n - (intOf iv).toNat)
  case atStart => exact ⟨0, rfl, by omega, HW, HK, HPn⟩
  case round =>
    obtain ⟨i, rfl, hi, hW, hK, hS⟩ := hrel
    by_cases hlt : i < n
    · obtain ⟨ad, x, rfl, _, hx, a0, a1, a2, a3, a4, a5, a6, a7⟩ := heads_at (HL.out.later hW.out.b) HLn.out hlt
      have HXO := Lib.hid (HOk.out x (List.mem_of_getElem? hx))
      have HT := Lib.hid (take_snocL hx)
      have hba : Below wr.heap.size wr (wr.alloc (.cells #[.int .u16 x.age, .int .u8 x.opts, .int .u8 x.typ, .int .u32 x.id, .int .u32 x.adv, .int .i32 x.seq, .int .u16 x.sum, .int .u16 x.len] 74)) := (Below.refl _ _).alloc (Nat.le_refl _) _
      have HW : Hid (WR w0 (wr.alloc (.cells #[.int .u16 x.age, .int .u8 x.opts, .int .u8 x.typ, .int .u32 x.id, .int .u32 x.adv, .int .i32 x.seq, .int .u16 x.sum, .int .u16 x.len] 74)).drew g M (ys ++ hdsB (L.take i))) := Lib.hid (hW.out.later hba).drew
      have HK : Hid (KeepT w (wr.alloc (.cells #[.int .u16 x.age, .int .u8 x.opts, .int .u8 x.typ, .int .u32 x.id, .int .u32 x.adv, .int .i32 x.seq, .int .u16 x.sum, .int .u16 x.len] 74)).drew) := Lib.hid (hK.out.trans (KeepT.of_below hba.drew))
      have HS : Hid (PaS gp g wr.heap.size x (wr.alloc (.cells #[.int .u16 x.age, .int .u8 x.opts, .int .u8 x.typ, .int .u32 x.id, .int .u32 x.adv, .int .i32 x.seq, .int .u16 x.sum, .int .u16 x.len] 74)).drew) := Lib.hid ⟨(hS.out.later hba).drewN 1, (Blk.new wr 74 _).drewN 1⟩
      clear hx hba hW hK hS
      go_wp2_with fail
      clear a0 a1 a2 a3 a4 a5 a6 a7
      generalize wr.heap.size = gh at *
      refine wp_region_t (PaS gp g gh x) (.take 0 (.take 1 (.take 2 (.one 3 (.one 4 .nil))))) (by kernel_rfl) (fun _ d _ _ _ h => by cases d <;> exact h) ?_
      simp only [TStep.node, nthOp_zero, nthOp_succ]
      generalize (wr.alloc (.cells #[.int .u16 x.age, .int .u8 x.opts, .int .u8 x.typ, .int .u32 x.id, .int .u32 x.adv, .int .i32 x.seq, .int .u16 x.sum, .int .u16 x.len] 74)).drew = v0 at *
      refine wpT_take HS (by rfl) (by intro W hW; clear hW; go_simp; try with_reducible rfl) ?_
      refine wpT_take HS (by rfl) (by intro W hW; obtain ⟨hp, hh⟩ := hW; unfold PpBlk at hp; unfold HdBlk at hh; have a0 := hp.cell 0; have b0 := hh.cell 0; have b1 := hh.cell 1; have b2 := hh.cell 2; have b3 := hh.cell 3; have b4 := hh.cell 4; have b5 := hh.cell 5; have b6 := hh.cell 6; have b7 := hh.cell 7; clear hp hh; simp at a0 b0 b1 b2 b3 b4 b5 b6 b7; go_simp; try with_reducible rfl) ?_
      refine wpT_take HS (by rfl) (by intro W hW; obtain ⟨hp, hh⟩ := hW; unfold PpBlk at hp; unfold HdBlk at hh; have a0 := hp.cell 0; have b0 := hh.cell 0; have b1 := hh.cell 1; have b2 := hh.cell 2; have b3 := hh.cell 3; have b4 := hh.cell 4; have b5 := hh.cell 5; have b6 := hh.cell 6; have b7 := hh.cell 7; clear hp hh; simp at a0 b0 b1 b2 b3 b4 b5 b6 b7; go_simp; try with_reducible rfl) ?_
      go_simp
      refine wpT_do fun K hK => ?_
      go_wp2_with fail
      refine (stateHead_any x v0 HXO.out).mono ?_
      rintro e v1 ⟨u, rfl, hu, hb⟩
      obtain ⟨Au, cu, hue, _, _, hru⟩ := own_shape hu
      subst hue
      have HRh := Lib.hid hru
      replace HW := Lib.hid (HW.out.later hb)
      replace HK := Lib.hid (HK.out.trans (KeepT.of_below hb))
      replace HS : Hid (PaS gp g gh x v1) := Lib.hid (PaS.keep (KeepT.of_below hb) HS.out)
      clear hu hb hru
      go_wp2_with fail
      refine hK.out _ _ HS.out ?_
      clear hK K
      go_simp
      refine wpT_do fun K hK => ?_
      go_wp2_with fail
      refine (wr_put w0 v1 g M _ _ HW.out _ 20 _ HRh.out (by omega)).mono ?_
      rintro e v2 ⟨rfl, hw, hk⟩
      replace HW := Lib.hid hw
      replace HK := Lib.hid (HK.out.trans hk)
      replace HS : Hid ((PaS gp g gh x) v2) := Lib.hid (PaS.keep hk HS.out)
      clear hw hk
      go_wp2_with fail
      clear HRh
      refine hK.out _ _ HS.out ?_
      clear hK K
      refine wpT_nil ?_
      go_simp
      go_wp2_with fail
      go_roundw
      case rel => exact ⟨i + 1, by go_num, by omega, by rw [HT.out, hdsB_snoc, ← List.append_assoc]; exact HW, HK, Lib.hid HS.out.1⟩
      case measure => simp [intOf]; omega
    · obtain rfl : i = n := by omega
      have HW := hW
      have HK := hK
      clear hW hK hS
      go_wp2_with fail
      go_end0
      refine ⟨rfl, ?_, HK.out⟩
      have := HW.out
      rwa [List.take_of_length_le (by rw [HLn.out]; exact Nat.le_refl _)] at this
end Go.Proofs.Ytbkejlalbjomkaa
