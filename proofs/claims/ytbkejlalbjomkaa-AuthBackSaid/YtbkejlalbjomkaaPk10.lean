/-
  Packets' parts, read: description. Printed by gen_pk10.py.
-/
import Derived.Test.YtbkejlalbjomkaaPkB
namespace Go.Proofs.Ytbkejlalbjomkaa
set_option linter.unusedVariables false
open Go.RowKit

def DescP (w0 w w' : World) (g gp : Nat) (q : Rq) (xs : List Int) (pos : Nat) (t r a : Int) (e : Ending) : Prop :=
  ((pos + 8 ≤ xs.length ∧ (xs.length - (pos + 8)) % 20 = 0) ∧ ∃ p : PA, e = .returned (.tuple #[]) ∧ PtY w0 w w' g gp q ⟨xs, xs.length, 0⟩ p ∧
    p = { p0 t r a with mtu := be ((xs.drop pos).take 2), dopts := be ((xs.drop (pos + 2)).take 1), flags := be ((xs.drop (pos + 3)).take 1), seq := be ((xs.drop (pos + 4)).take 4), DA := p.DA, dn := (xs.length - (pos + 8)) / 20, dc := p.dc, dh := hdsAt xs (pos + 8) ((xs.length - (pos + 8)) / 20) }) ∨
  (¬ (pos + 8 ≤ xs.length ∧ (xs.length - (pos + 8)) % 20 = 0) ∧ e = thrown 22 ∧ FlP w0 w w' g gp)
theorem desc_nums {xs : List Int} {pos : Nat} {x1 x2 x3 x4 : Int} {r1 r2 r3 r4 : Rd} (n1 : NumR ⟨xs, pos, 0⟩ 2 x1 r1) (n2 : NumR r1 1 x2 r2) (n3 : NumR r2 1 x3 r3) (n4 : NumR r3 4 x4 r4) :
    (r4.e = 0 → pos + 8 ≤ xs.length ∧ r4 = ⟨xs, pos + 8, 0⟩ ∧ x1 = be ((xs.drop pos).take 2) ∧ x2 = be ((xs.drop (pos + 2)).take 1) ∧ x3 = be ((xs.drop (pos + 3)).take 1) ∧ x4 = be ((xs.drop (pos + 4)).take 4)) ∧ (r4.e ≠ 0 → ¬ pos + 8 ≤ xs.length) := by
  constructor
  · intro h
    obtain ⟨h3, l4, v4, e4⟩ := n4.yes h
    obtain ⟨h2, l3, v3, e3⟩ := n3.yes h3
    obtain ⟨h1, l2, v2, e2⟩ := n2.yes h2
    obtain ⟨_, l1, v1, e1⟩ := n1.yes h1
    subst e1
    subst e2
    subst e3
    subst e4
    exact ⟨by simp only at l4; omega, rfl, v1, v2, v3, v4⟩
  · intro h hl
    obtain ⟨_, e1⟩ := n1.fit rfl (by simp only; omega)
    subst e1
    obtain ⟨_, e2⟩ := n2.fit rfl (by simp only; omega)
    subst e2
    obtain ⟨_, e3⟩ := n3.fit rfl (by simp only; omega)
    subst e3
    obtain ⟨_, e4⟩ := n4.fit rfl (by simp only; omega)
    subst e4
    exact h rfl
theorem SiBlk.keep {W W' : World} {gs g : Nat} (h : SiBlk W gs g) (k : Kept (fun i => i = g) W W') (hn : gs ≠ g) : SiBlk W' gs g := Blk.kept h k hn
set_option maxRecDepth 100000 in
set_option maxHeartbeats 8000000 in
theorem desc_any (w0 w : World) (g gp : Nat) (q : Rq) (xs : List Int) (pos : Nat) (t r a : Int) (h : PkF w0 w g gp q ⟨xs, pos, 0⟩ (p0 t r a).C) (hp : pos ≤ xs.length) (hn : xs.length ≤ 1073741824) :
    Calls Try.prog 54 #[.agg #[.pointer (some ⟨g, 0, none⟩)], .pointer (some ⟨gp, 0, none⟩)] w fun e w' => DescP w0 w w' g gp q xs pos t r a e := by
  have hb0 : Below w.heap.size w (w.alloc (.cells #[.pointer (some ⟨g, 0, none⟩)] 101)) := (Below.refl _ _).alloc (Nat.le_refl _) _
  have HF : Hid (PkF w0 (w.alloc (.cells #[.pointer (some ⟨g, 0, none⟩)] 101)).drew g gp q ⟨xs, pos, 0⟩ (p0 t r a).C) := Lib.hid ((h.later hb0).later (Below.refl _ _).drew)
  have HK : Hid (Kept (fun i => i = g ∨ i = gp) w (w.alloc (.cells #[.pointer (some ⟨g, 0, none⟩)] 101)).drew) := Lib.hid (Kept.of_new hb0 (fun i => i = g ∨ i = gp)).drew
  have HS : Hid (SiBlk (w.alloc (.cells #[.pointer (some ⟨g, 0, none⟩)] 101)).drew w.heap.size g) := Lib.hid ((Blk.new w 101 _).drewN 1)
  have HGs : Hid (w.heap.size ≠ g) := Lib.hid (by have := h.r.rs.blk.lt; omega)
  have HGp : Hid (w.heap.size ≠ gp) := Lib.hid (by have := h.k.lt; omega)
  obtain ⟨s0, hs0⟩ : ∃ s0 : Rd, s0 = ⟨xs, pos, 0⟩ := ⟨_, rfl⟩
  rw [← hs0] at HF
  have HS0 := Lib.hid hs0
  clear h hb0 hs0
  go_enter Try.func54, Try.ntmps54
  go_wp2_with fail
  generalize hgs : w.heap.size = gs at HS HGs HGp ⊢
  have HGS := Lib.hid hgs
  clear hgs
  refine wp_region_t (fun W : World => SiBlk W gs g) (.take 0 (.take 1 (.take 5 (.take 9 (.take 13 (.take 2 (.take 6 (.take 10 (.take 14 (.one 3 (.take 4 (.one 7 (.take 8 (.one 11 (.take 12 (.one 15 (.take 16 (.take 17 (.take 18 (.one 19 .nil)))))))))))))))))))) (by kernel_rfl) (fun _ d _ _ _ h => by cases d <;> exact h) ?_
  simp only [TStep.node, nthOp_zero, nthOp_succ]
  generalize (w.alloc (.cells #[.pointer (some ⟨g, 0, none⟩)] 101)).drew = v0 at *
  refine wpT_take HS (by rfl) (by intro W hW; clear hW; go_simp; try with_reducible rfl) ?_
  refine wpT_take HS (by rfl) (by intro W hW; clear hW; go_simp; try with_reducible rfl) ?_
  refine wpT_take HS (by rfl) (by intro W hW; clear hW; go_simp; try with_reducible rfl) ?_
  refine wpT_take HS (by rfl) (by intro W hW; clear hW; go_simp; try with_reducible rfl) ?_
  refine wpT_take HS (by rfl) (by intro W hW; clear hW; go_simp; try with_reducible rfl) ?_
  refine wpT_take HS (by rfl) (by intro W hW; unfold SiBlk at hW; have a0 := hW.cell 0; clear hW; simp at a0; go_simp; try with_reducible rfl) ?_
  go_simp
  refine wpT_take HS (by rfl) (by intro W hW; unfold SiBlk at hW; have a0 := hW.cell 0; clear hW; simp at a0; go_simp; try with_reducible rfl) ?_
  refine wpT_take HS (by rfl) (by intro W hW; unfold SiBlk at hW; have a0 := hW.cell 0; clear hW; simp at a0; go_simp; try with_reducible rfl) ?_
  refine wpT_take HS (by rfl) (by intro W hW; unfold SiBlk at hW; have a0 := hW.cell 0; clear hW; simp at a0; go_simp; try with_reducible rfl) ?_
  go_simp
  refine wpT_do fun K hK => ?_
  go_wp2_with fail
  refine (rr_numx w0 v0 g q _ HF.out.r 2 (by decide) (by decide)).mono ?_
  rintro e v1 ⟨x1, r1, rfl, hN, hr, hk⟩
  have HN1 := Lib.hid hN
  have hx1 : 0 ≤ x1 ∧ x1 < 65536 := ⟨hN.lo, by have := hN.hi; omega⟩
  replace HF := Lib.hid (HF.out.step hk hr)
  replace HK := Lib.hid (HK.out.trans (hk.mono (T := fun i => i = g ∨ i = gp) fun i _ e => .inl e) (fun _ _ e => e))
  replace HS : Hid (SiBlk v1 gs g) := Lib.hid (SiBlk.keep HS.out hk HGs.out)
  clear hN hr hk
  have wx1 : IntKind.u16.wrap x1 = x1 := by simp [IntKind.wrap, IntKind.bits, IntKind.signed]; omega
  go_wp2_with fail
  refine hK.out _ _ HS.out ?_
  clear hK K
  refine wpT_take HS (by rfl) (by intro W hW; clear hW; go_simp; try with_reducible rfl) ?_
  go_simp
  refine wpT_do fun K hK => ?_
  go_wp2_with fail
  refine (rr_numx w0 v1 g q _ HF.out.r 1 (by decide) (by decide)).mono ?_
  rintro e v2 ⟨x2, r2, rfl, hN, hr, hk⟩
  have HN2 := Lib.hid hN
  have hx2 : 0 ≤ x2 ∧ x2 < 256 := ⟨hN.lo, by have := hN.hi; omega⟩
  replace HF := Lib.hid (HF.out.step hk hr)
  replace HK := Lib.hid (HK.out.trans (hk.mono (T := fun i => i = g ∨ i = gp) fun i _ e => .inl e) (fun _ _ e => e))
  replace HS : Hid (SiBlk v2 gs g) := Lib.hid (SiBlk.keep HS.out hk HGs.out)
  clear hN hr hk
  have wx2 : IntKind.u8.wrap x2 = x2 := by simp [IntKind.wrap, IntKind.bits, IntKind.signed]; omega
  go_wp2_with fail
  refine hK.out _ _ HS.out ?_
  clear hK K
  refine wpT_take HS (by rfl) (by intro W hW; clear hW; go_simp; try with_reducible rfl) ?_
  go_simp
  refine wpT_do fun K hK => ?_
  go_wp2_with fail
  refine (rr_numx w0 v2 g q _ HF.out.r 1 (by decide) (by decide)).mono ?_
  rintro e v3 ⟨x3, r3, rfl, hN, hr, hk⟩
  have HN3 := Lib.hid hN
  have hx3 : 0 ≤ x3 ∧ x3 < 256 := ⟨hN.lo, by have := hN.hi; omega⟩
  replace HF := Lib.hid (HF.out.step hk hr)
  replace HK := Lib.hid (HK.out.trans (hk.mono (T := fun i => i = g ∨ i = gp) fun i _ e => .inl e) (fun _ _ e => e))
  replace HS : Hid (SiBlk v3 gs g) := Lib.hid (SiBlk.keep HS.out hk HGs.out)
  clear hN hr hk
  have wx3 : IntKind.u8.wrap x3 = x3 := by simp [IntKind.wrap, IntKind.bits, IntKind.signed]; omega
  go_wp2_with fail
  refine hK.out _ _ HS.out ?_
  clear hK K
  refine wpT_take HS (by rfl) (by intro W hW; clear hW; go_simp; try with_reducible rfl) ?_
  go_simp
  refine wpT_do fun K hK => ?_
  go_wp2_with fail
  refine (rr_numx w0 v3 g q _ HF.out.r 4 (by decide) (by decide)).mono ?_
  rintro e v4 ⟨x4, r4, rfl, hN, hr, hk⟩
  have HN4 := Lib.hid hN
  have hx4 : 0 ≤ x4 ∧ x4 < 4294967296 := ⟨hN.lo, by have := hN.hi; omega⟩
  replace HF := Lib.hid (HF.out.step hk hr)
  replace HK := Lib.hid (HK.out.trans (hk.mono (T := fun i => i = g ∨ i = gp) fun i _ e => .inl e) (fun _ _ e => e))
  replace HS : Hid (SiBlk v4 gs g) := Lib.hid (SiBlk.keep HS.out hk HGs.out)
  clear hN hr hk
  go_wp2_with fail
  refine hK.out _ _ HS.out ?_
  clear hK K
  refine wpT_take HS (by rfl) (by intro W hW; clear hW; go_simp; try with_reducible rfl) ?_
  refine wpT_take HS (by rfl) (by intro W hW; clear hW; go_simp; try with_reducible rfl) ?_
  refine wpT_take HS (by rfl) (by intro W hW; clear hW; go_simp; try with_reducible rfl) ?_
  go_simp
  refine wpT_do fun K hK => ?_
  have f11 := HF.out.k.frozen 11
  have f12 := HF.out.k.frozen 12
  have f13 := HF.out.k.frozen 13
  have f14 := HF.out.k.frozen 14
  have f15 := HF.out.k.frozen 15
  have y11 := HF.out.k.cell 11
  have y12 := HF.out.k.cell 12
  have y13 := HF.out.k.cell 13
  have y14 := HF.out.k.cell 14
  have y15 := HF.out.k.cell 15
  simp at y11 y12 y13 y14 y15
  have HF2 := Lib.hid (((((HF.out.put 11 (.int .u16 x1)).put 12 (.int .u8 x2)).put 13 (.int .u8 x3)).put 14 (.int .u32 x4)).put 15 (.slice none 0 0))
  have HK2 := Lib.hid (((((HK.out.setCell (p := ⟨gp, 11, none⟩) (fun _ => .inr rfl) (.int .u16 x1)).setCell (p := ⟨gp, 12, none⟩) (fun _ => .inr rfl) (.int .u8 x2)).setCell (p := ⟨gp, 13, none⟩) (fun _ => .inr rfl) (.int .u8 x3)).setCell (p := ⟨gp, 14, none⟩) (fun _ => .inr rfl) (.int .u32 x4)).setCell (p := ⟨gp, 15, none⟩) (fun _ => .inr rfl) (.slice none 0 0))
  have HS2 : Hid (SiBlk (((((v4.setCell ⟨gp, 11, none⟩ (.int .u16 x1)).setCell ⟨gp, 12, none⟩ (.int .u8 x2)).setCell ⟨gp, 13, none⟩ (.int .u8 x3)).setCell ⟨gp, 14, none⟩ (.int .u32 x4)).setCell ⟨gp, 15, none⟩ (.slice none 0 0)) gs g) := Lib.hid (show Blk _ _ _ _ from (Blk.far (p := ⟨gp, 15, none⟩) (Blk.far (p := ⟨gp, 14, none⟩) (Blk.far (p := ⟨gp, 13, none⟩) (Blk.far (p := ⟨gp, 12, none⟩) (Blk.far (p := ⟨gp, 11, none⟩) HS.out HGp.out (.int .u16 x1)) HGp.out (.int .u8 x2)) HGp.out (.int .u8 x3)) HGp.out (.int .u32 x4)) HGp.out (.slice none 0 0)))
  go_wp2_with fail
  clear f11 y11 f12 y12 f13 y13 f14 y14 f15 y15
  replace HF := HF2
  replace HK := HK2
  replace HS : Hid (SiBlk (((((v4.setCell ⟨gp, 11, none⟩ (.int .u16 x1)).setCell ⟨gp, 12, none⟩ (.int .u8 x2)).setCell ⟨gp, 13, none⟩ (.int .u8 x3)).setCell ⟨gp, 14, none⟩ (.int .u32 x4)).setCell ⟨gp, 15, none⟩ (.slice none 0 0)) gs g) := HS2
  clear HF2 HK2 HS2
  generalize ((((v4.setCell ⟨gp, 11, none⟩ (.int .u16 x1)).setCell ⟨gp, 12, none⟩ (.int .u8 x2)).setCell ⟨gp, 13, none⟩ (.int .u8 x3)).setCell ⟨gp, 14, none⟩ (.int .u32 x4)).setCell ⟨gp, 15, none⟩ (.slice none 0 0) = v5 at *
  refine hK.out _ _ HS.out ?_
  clear hK K
  refine wpT_nil ?_
  go_simp
  have s6 : v5.cell? ⟨gs, 0, none⟩ = some (.pointer (some ⟨g, 0, none⟩)) := by have := HS.out.cell 0; simpa using this
  go_wp2_with fail
  clear s6
  refine (whole_s w0 v5 g q r4 HF.out.r true).mono ?_
  rintro e w6 ⟨hor, hb6⟩
  have HL := Lib.hid (desc_nums (HS0.out ▸ HN1.out) HN2.out HN3.out HN4.out)
  rcases hor with ⟨hok, rfl⟩ | ⟨hno, rfl⟩
  · obtain ⟨hlen, hr4, v1, v2, v3, v4⟩ := HL.out.1 hok.2
    have HV := Lib.hid (And.intro hlen (And.intro v1 (And.intro v2 (And.intro v3 v4))))
    subst hr4
    have HF6 := Lib.hid (HF.out.later hb6)
    have HK6 := Lib.hid (HK.out.trans (Kept.of_new hb6 (fun i => i = g ∨ i = gp)) (fun _ _ e => e))
    have HS6 : Hid (SiBlk w6 gs g) := Lib.hid (Blk.later HS.out hb6)
    have s6 : w6.cell? ⟨gs, 0, none⟩ = some (.pointer (some ⟨g, 0, none⟩)) := by have := HS6.out.cell 0; simpa using this
    clear v1 v2 v3 v4 hok hb6 HF HK HS
    go_wp2_with fail
    clear s6
    refine (heads_any w0 w6 g q xs (pos + 8) HF6.out.r hlen hn).mono ?_
    rintro e w7 (⟨hm, A, c, rfl, ho, hr, hk⟩ | ⟨hm, rfl, hb, hk⟩)
    · have HF2 := Lib.hid (HF6.out.step hk hr)
      have HO := Lib.hid (own_mono ho HK6.out.size)
      have HK2 := Lib.hid (HK6.out.trans (hk.mono (T := fun i => i = g ∨ i = gp) fun i _ e => .inl e) (fun _ _ e => e))
      have HM := Lib.hid hm
      clear ho hr hk HF6 HK6 HS6 hm
      obtain ⟨n, hn2⟩ : ∃ n, (xs.length - (pos + 8)) / 20 = n := ⟨_, rfl⟩
      rw [hn2] at HO ⊢
      have HN := Lib.hid hn2
      have f15 := HF2.out.k.frozen 15
      have y15 := HF2.out.k.cell 15
      simp at y15
      clear hn2
      have HF3 := Lib.hid (HF2.out.put 15 (.slice A n c))
      have HK3 := Lib.hid (HK2.out.setCell (p := ⟨gp, 15, none⟩) (fun _ => .inr rfl) (.slice A n c))
      have HO3 := Lib.hid (own_kept HO.out (kept_setC w7 gp 15 (.slice A n c)) (fun i hi e => own_blk_ne HO.out HF2.out.k (by decide) (by rw [hi]; exact congrArg some e)))
      clear HF2 HK2 HO
      go_wp2_with fail
      go_end0
      refine .inl ⟨⟨HV.out.1, HM.out⟩, { p0 t r a with mtu := x1, dopts := x2, flags := x3, seq := x4, DA := A, dn := n, dc := c, dh := hdsAt xs (pos + 8) n }, rfl, ⟨HF3.out, HK3.out, World.ownsRow_nil _ _ _ _, HO3.out, own_nil _ _ _ _, own_nil _ _ _ _⟩, ?_⟩
      rw [HN.out, ← HV.out.2.1, ← HV.out.2.2.1, ← HV.out.2.2.2.1, ← HV.out.2.2.2.2]
    · have HB := Lib.hid (HF6.out.fl3 HK6.out rfl hb hk)
      have HM := Lib.hid hm
      clear hb hm hk
      go_wp2_with fail
      exact ⟨rfl, .inr ⟨fun h => HM.out h.2, rfl, HB.out⟩⟩
  · have HB := Lib.hid (HF.out.fl2 HK.out rfl hb6)
    have hbad : Hid (¬ pos + 8 ≤ xs.length) := Lib.hid (HL.out.2 (fun h => hno ⟨rfl, h⟩))
    clear hb6 hno
    go_wp2_with fail
    exact ⟨rfl, .inr ⟨fun h => hbad.out h.1, rfl, HB.out⟩⟩
end Go.Proofs.Ytbkejlalbjomkaa
