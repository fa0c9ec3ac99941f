/-
  Packets' parts, read: hello. Printed by gen_pk12.py.
-/
import Derived.Test.YtbkejlalbjomkaaPk11
namespace Go.Proofs.Ytbkejlalbjomkaa
set_option linter.unusedVariables false
open Go.RowKit

/-- The numbers at a Hello's beginning. -/
structure HlN (xs : List Int) (pos : Nat) (x1 x2 x3 x4 x5 x6 x7 : Int) (r : Rd) : Prop where
  yes : r.e = 0 → pos + 20 ≤ xs.length ∧ r = ⟨xs, pos + 20, 0⟩ ∧ x1 = be ((xs.drop pos).take 4) ∧ x2 = be ((xs.drop (pos + 4)).take 2) ∧ x3 = be ((xs.drop (pos + 6)).take 1) ∧ x4 = be ((xs.drop (pos + 7)).take 1) ∧ x5 = be ((xs.drop (pos + 8)).take 4) ∧ x6 = be ((xs.drop (pos + 12)).take 4) ∧ x7 = be ((xs.drop (pos + 16)).take 4)
  no : r.e ≠ 0 → ¬ pos + 20 ≤ xs.length
  eq : r.xs = xs
theorem hl_nums {xs : List Int} {pos : Nat} {x1 x2 x3 x4 x5 x6 x7 : Int} {r1 r2 r3 r4 r5 r6 r7 : Rd} (n1 : NumR ⟨xs, pos, 0⟩ 4 x1 r1) (n2 : NumR r1 2 x2 r2) (n3 : NumR r2 1 x3 r3) (n4 : NumR r3 1 x4 r4) (n5 : NumR r4 4 x5 r5) (n6 : NumR r5 4 x6 r6) (n7 : NumR r6 4 x7 r7) : HlN xs pos x1 x2 x3 x4 x5 x6 x7 r7 := by
  refine ⟨fun h => ?_, fun h hl => ?_, by rw [n7.xs, n6.xs, n5.xs, n4.xs, n3.xs, n2.xs, n1.xs]⟩
  · obtain ⟨h6, l7, v7, e7⟩ := n7.yes h
    obtain ⟨h5, l6, v6, e6⟩ := n6.yes h6
    obtain ⟨h4, l5, v5, e5⟩ := n5.yes h5
    obtain ⟨h3, l4, v4, e4⟩ := n4.yes h4
    obtain ⟨h2, l3, v3, e3⟩ := n3.yes h3
    obtain ⟨h1, l2, v2, e2⟩ := n2.yes h2
    obtain ⟨_, l1, v1, e1⟩ := n1.yes h1
    subst e1
    subst e2
    subst e3
    subst e4
    subst e5
    subst e6
    subst e7
    exact ⟨by simp only at l7; omega, rfl, v1, v2, v3, v4, v5, v6, v7⟩
  · obtain ⟨_, e1⟩ := n1.fit rfl (by simp only; omega)
    subst e1
    obtain ⟨_, e2⟩ := n2.fit rfl (by simp only; omega)
    subst e2
    obtain ⟨_, e3⟩ := n3.fit rfl (by simp only; omega)
    subst e3
    obtain ⟨_, e4⟩ := n4.fit rfl (by simp only; omega)
    subst e4
    obtain ⟨_, e5⟩ := n5.fit rfl (by simp only; omega)
    subst e5
    obtain ⟨_, e6⟩ := n6.fit rfl (by simp only; omega)
    subst e6
    obtain ⟨_, e7⟩ := n7.fit rfl (by simp only; omega)
    subst e7
    exact h rfl
def wordsAt (xs : List Int) (pos n : Nat) : List Int := (List.range n).map fun i => be ((xs.drop (pos + 4 * i)).take 4)
def helloOk (xs : List Int) (pos : Nat) : Prop := pos + 20 ≤ xs.length ∧ (xs.length - (pos + 20)) % 4 = 0
/-- What hello leaves: it throws nothing, and the reader tells whether all was there. -/
def HelP (w0 w w' : World) (g gp : Nat) (q : Rq) (xs : List Int) (pos : Nat) (t r a : Int) (e : Ending) : Prop :=
  ∃ (p : PA) (s : Rd), e = .returned (.tuple #[]) ∧ PtY w0 w w' g gp q s p ∧ (s.e = 0 ↔ helloOk xs pos) ∧
    (s.e = 0 → s = ⟨xs, xs.length, 0⟩ ∧ p = { p0 t r a with mask := be ((xs.drop pos).take 4), ivl := be ((xs.drop (pos + 4)).take 2), hopts := be ((xs.drop (pos + 6)).take 1), pri := be ((xs.drop (pos + 7)).take 1), dead := be ((xs.drop (pos + 8)).take 4), dr := be ((xs.drop (pos + 12)).take 4), bdr := be ((xs.drop (pos + 16)).take 4), NA := p.NA, nn := (xs.length - (pos + 20)) / 4, nc := p.nc, nb := wordsAt xs (pos + 20) ((xs.length - (pos + 20)) / 4) }) ∧ p.SA = none ∧ p.sn = 0 ∧ p.sc = 0 ∧ p.ss = []
theorem own_gp {base n : Nat} {W : World} {v : Value} {xs : List Value} {gp i : Nat} {C : Array Value} (h : W.ownsRow base 22 1 v n xs) (k : Blk W gp 33 C) (hi : v.ownBlock = some i) (e : i = gp) : False := own_blk_ne h k (by decide) (by rw [hi, e])
/-- How far the neighbours are read. -/
structure HnI (xs : List Int) (pos : Nat) (s : Rd) (L : List Int) : Prop where
  eq : s.xs = xs
  rng : ∀ x ∈ L, 0 ≤ x ∧ x ≤ 4294967295
  is : (s.e = 0 ∧ s.pos = pos + 20 + 4 * L.length ∧ s.pos ≤ xs.length ∧ L = wordsAt xs (pos + 20) L.length) ∨ (s.e ≠ 0 ∧ ¬ helloOk xs pos ∧ 4 * L.length ≤ xs.length + 4)
theorem HnI.start {xs : List Int} {pos : Nat} {x1 x2 x3 x4 x5 x6 x7 : Int} {r : Rd} (h : HlN xs pos x1 x2 x3 x4 x5 x6 x7 r) : HnI xs pos r [] := by
  refine ⟨h.eq, by simp, ?_⟩
  rcases Decidable.em (r.e = 0) with he | he
  · obtain ⟨h1, h2, _⟩ := h.yes he
    subst h2
    exact .inl ⟨rfl, rfl, h1, rfl⟩
  · exact .inr ⟨he, fun k => h.no he k.1, by simp⟩
theorem HnI.push {xs : List Int} {pos : Nat} {s s2 : Rd} {L : List Int} {x : Int} (p : HnI xs pos s L) (he : s.e = 0) (hl : 0 < s.left) (h : NumR s 4 x s2) : HnI xs pos s2 (L ++ [x]) := by
  have hhi := h.hi
  have hlo := h.lo
  refine ⟨h.xs.trans p.eq, fun y hy => ?_, ?_⟩
  · rcases List.mem_append.mp hy with hy | hy
    · exact p.rng y hy
    · simp only [List.mem_singleton] at hy
      subst hy
      omega
  · have hx := p.eq
    rcases p.is with ⟨_, h2, h3, h4⟩ | ⟨h1, _⟩
    · have hlf : s.left = (s.xs.length : Int) - s.pos := by unfold Rd.left; rw [if_pos he]
      rw [hx] at hlf
      rcases h.cases with ⟨_, hl2, hv, h5⟩ | ⟨h5, _, h6⟩
      · rw [hx] at hl2 hv h5
        subst h5
        refine .inl ⟨rfl, by simp only [List.length_append, List.length_singleton]; omega, by simp only; omega, ?_⟩
        unfold wordsAt
        rw [List.length_append, List.length_singleton, List.range_succ, List.map_append, List.map_singleton, hv, h2]
        congr 1
      · refine .inr ⟨h6, ?_, by simp only [List.length_append, List.length_singleton]; omega⟩
        rcases h5 with h5 | h5
        · exact absurd he h5
        · rw [hx] at h5
          unfold helloOk
          omega
    · exact absurd he h1
structure HeI (w0 w : World) (g gp gs gh : Nat) (q : Rq) (xs : List Int) (pos : Nat) (t r a x1 x2 x3 x4 x5 x6 x7 : Int) (W : World) : Prop where
  ex : ∃ s A n c L, Hid (PkF w0 W g gp q s (p0 t r a).C) ∧ Hid (SiBlk W gs g) ∧ Hid (Blk W gh 26 #[.int .u32 x1, .int .u16 x2, .int .u8 x3, .int .u8 x4, .int .u32 x5, .int .u32 x6, .int .u32 x7, .slice A n c]) ∧ Hid (W.ownsRow w.heap.size 22 1 (.slice A n c) n (u32s L)) ∧ Hid (Kept (fun i => i = g ∨ i = gp) w W) ∧ Hid (HnI xs pos s L)
def HeQ (w0 w : World) (g gp gs : Nat) (q : Rq) (xs : List Int) (pos : Nat) (t r a : Int) (e : Exit) (act : Act) (W : World) : Prop :=
  e = .normal ∧ ∃ (gh : Nat) (x1 x2 x3 x4 x5 x6 x7 : Int) (r7 : Rd) (u5 u6 u7 u8 u9 u10 u11 u12 u13 u14 u15 u16 u17 u18 u19 u20 u21 u22 u23 u24 u25 u26 u27 u28 u29 : Value), act = { tmps := List.toArray (.agg #[.pointer (some ⟨g, 0, none⟩)] :: .pointer (some ⟨gp, 0, none⟩) :: .pointer (some ⟨gs, 0, none⟩) :: undef :: .pointer (some ⟨gh, 0, none⟩) :: u5 :: u6 :: u7 :: u8 :: u9 :: u10 :: u11 :: u12 :: u13 :: u14 :: u15 :: u16 :: u17 :: u18 :: u19 :: u20 :: u21 :: u22 :: u23 :: u24 :: u25 :: u26 :: u27 :: u28 :: u29 :: undef :: undef :: undef :: undef :: undef :: undef :: undef :: undef :: undef :: undef :: undef :: undef :: undef :: undef :: undef :: undef :: []), defers := [] } ∧
    Hid (PkF w0 W g gp q r7 (p0 t r a).C) ∧ Hid (Kept (fun i => i = g ∨ i = gp) w W) ∧ Hid (SiBlk W gs g) ∧ Hid (Blk W gh 26 #[.int .u32 x1, .int .u16 x2, .int .u8 x3, .int .u8 x4, .int .u32 x5, .int .u32 x6, .int .u32 x7, .slice none 0 0]) ∧ Hid (w.heap.size ≤ gh) ∧ Hid (HlN xs pos x1 x2 x3 x4 x5 x6 x7 r7)
set_option maxRecDepth 100000 in
set_option maxHeartbeats 16000000 in
theorem hello_any (w0 w : World) (g gp : Nat) (q : Rq) (xs : List Int) (pos : Nat) (t r a : Int) (h : PkF w0 w g gp q ⟨xs, pos, 0⟩ (p0 t r a).C) (hp : pos ≤ xs.length) (hn : xs.length ≤ 1073741824) :
    Calls Try.prog 53 #[.agg #[.pointer (some ⟨g, 0, none⟩)], .pointer (some ⟨gp, 0, none⟩)] w fun e w' => HelP w0 w w' g gp q xs pos t r a e := by
  have hb0 : Below w.heap.size w (w.alloc (.cells #[.pointer (some ⟨g, 0, none⟩)] 101)) := (Below.refl _ _).alloc (Nat.le_refl _) _
  have HA := Lib.hid (And.intro h.r.b.size h.qa)
  have HAq := Lib.hid h.r.rs.addr
  have HF : Hid (PkF w0 (w.alloc (.cells #[.pointer (some ⟨g, 0, none⟩)] 101)).drew g gp q ⟨xs, pos, 0⟩ (p0 t r a).C) := Lib.hid ((h.later hb0).later (Below.refl _ _).drew)
  have HK : Hid (Kept (fun i => i = g ∨ i = gp) w (w.alloc (.cells #[.pointer (some ⟨g, 0, none⟩)] 101)).drew) := Lib.hid (Kept.of_new hb0 (fun i => i = g ∨ i = gp)).drew
  have HS : Hid (SiBlk (w.alloc (.cells #[.pointer (some ⟨g, 0, none⟩)] 101)).drew w.heap.size g) := Lib.hid ((Blk.new w 101 _).drewN 1)
  have HGs : Hid (w.heap.size ≠ g) := Lib.hid (by have := h.r.rs.blk.lt; omega)
  have HGp : Hid (w.heap.size ≠ gp) := Lib.hid (by have := h.k.lt; omega)
  have HGl : Hid (g < w.heap.size ∧ gp < w.heap.size) := Lib.hid ⟨h.r.rs.blk.lt, h.k.lt⟩
  obtain ⟨s0, hs0⟩ : ∃ s0 : Rd, s0 = ⟨xs, pos, 0⟩ := ⟨_, rfl⟩
  rw [← hs0] at HF
  have HS0 := Lib.hid hs0
  clear h hb0 hs0
  go_enter Try.func53, Try.ntmps53
  go_wp2_with fail
  generalize hgs : w.heap.size = gs at HS HGs HGp ⊢
  have HGS := Lib.hid hgs
  clear hgs
  refine Code.wp_mono (Q := HeQ w0 w g gp gs q xs pos t r a) ?_ ?_
  · rintro e act w5 ⟨rfl, gh, x1, x2, x3, x4, x5, x6, x7, h⟩
    obtain ⟨r7, h⟩ := h
    obtain ⟨u5, u6, u7, u8, u9, u10, u11, u12, h⟩ := h
    obtain ⟨u13, u14, u15, u16, u17, u18, u19, u20, h⟩ := h
    obtain ⟨u21, u22, u23, u24, u25, u26, u27, u28, h⟩ := h
    obtain ⟨u29, h⟩ := h
    obtain ⟨hact, hall⟩ := h
    subst hact
    obtain ⟨HF, HK, HS, HH, HGh, HNs⟩ := hall
    have hghg : Hid (gh ≠ g ∧ gh ≠ gp) := Lib.hid (by have := HGh.out; have := HGl.out; omega)
    have hghs : Hid (gh ≠ gs) := Lib.hid (blk_ne HH.out HS.out (by decide))
    go_simp
    go_wp2_with fail
    go_loopw [] (HeI w0 w g gp gs gh q xs pos t r a x1 x2 x3 x4 x5 x6 x7) (fun W => rdLeft xs.length W g)
    case atStart => exact ⟨r7, none, 0, 0, [], HF, HS, HH, Lib.hid (by simp [World.ownsRow, u32s]), HK, Lib.hid (HnI.start HNs.out)⟩
    case round =>
      obtain ⟨s2, A, n, c, L, hF, hS, hH, hO, hK2, HP⟩ := hrel
      clear HF HK HS HH
      have s0c : wr.cell? ⟨gs, 0, none⟩ = some (.pointer (some ⟨g, 0, none⟩)) := by have := hS.out.cell 0; simpa using this
      go_wp2_with fail
      have HMs : Hid (rdLeft xs.length wr g = if s2.e = 0 then 1 + (xs.length - s2.pos) else 0) := Lib.hid (rdLeft_eq hF.out.r _)
      refine (rr_left w0 wr g q s2 hF.out.r).mono ?_
      rintro e w3 ⟨rfl, k, rfl⟩
      have HF := Lib.hid (hF.out.later (below_of_drewN _ wr k))
      have HK := Lib.hid (hK2.out.drewN k)
      have HS : Hid (SiBlk (wr.drewN k) gs g) := Lib.hid (hS.out.drewN k)
      have HH := Lib.hid (hH.out.drewN k)
      have HO := Lib.hid (own_kept hO.out ((Kept.refl (fun _ => False) wr).drewN k) (fun _ _ h => h))
      clear hF hS hH hO hK2 s0c
      generalize wr.drewN k = w3 at *
      obtain ⟨lf, hlf⟩ : ∃ lf, s2.left = lf := ⟨_, rfl⟩
      rw [hlf]
      have HLf := Lib.hid hlf
      clear hlf
      by_cases hl : 0 < lf
      · have he : s2.e = 0 := by
          rcases Decidable.em (s2.e = 0) with h | h
          · exact h
          · have h2 := HLf.out
            unfold Rd.left at h2
            rw [if_neg h] at h2
            omega
        have hd : decide (0 < lf) = true := decide_eq_true hl
        have HE := Lib.hid he
        clear he
        go_wp2_with fail
        have HSS : Hid ((fun W : World => SiBlk W gs g ∧ W.cell? ⟨gh, 7, none⟩ = some (.slice A n c)) w3.drew) := Lib.hid ⟨HS.out.drewN 1, HH.out.cell 7⟩
        refine wp_region_g (fun W : World => SiBlk W gs g ∧ W.cell? ⟨gh, 7, none⟩ = some (.slice A n c)) [.take 0, .take 2, .take 1, .take 3, .one 4, .one 5, .one 6, .take 7, .one 8] (by kernel_rfl) (fun _ d _ _ _ h => by cases d <;> exact h) ?_
        simp only [List.map_cons, List.map_nil, RStep.node, nthOp_zero, nthOp_succ]
        replace HF := Lib.hid (HF.out.later (Below.refl _ _).drew)
        replace HK : Hid (Kept (fun i => i = g ∨ i = gp) w w3.drew) := Lib.hid (HK.out.drewN 1)
        replace HH : Hid (Blk w3.drew gh 26 #[.int .u32 x1, .int .u16 x2, .int .u8 x3, .int .u8 x4, .int .u32 x5, .int .u32 x6, .int .u32 x7, .slice A n c]) := Lib.hid (HH.out.drewN 1)
        replace HO : Hid (w3.drew.ownsRow w.heap.size 22 1 (.slice A n c) n (u32s L)) := Lib.hid (own_kept HO.out ((Kept.refl (fun _ => False) w3).drewN 1) (fun _ _ h => h))
        clear HS
        generalize w3.drew = q0 at *
        refine wpG_take HSS (by rfl) (by intro W hW; clear hW; go_simp; try with_reducible rfl) ?_
        refine wpG_take HSS (by rfl) (by intro W hW; clear hW; go_simp; try with_reducible rfl) ?_
        refine wpG_take HSS (by rfl) (by intro W hW; obtain ⟨hs, c7⟩ := hW; clear hs; go_simp; try with_reducible rfl) ?_
        refine wpG_take HSS (by rfl) (by intro W hW; obtain ⟨hs, c7⟩ := hW; unfold SiBlk at hs; have a0 := hs.cell 0; clear hs c7; simp at a0; go_simp; try with_reducible rfl) ?_
        go_simp
        refine wpG_do fun K hK => ?_
        go_wp2_with fail
        refine (rr_numx w0 q0 g q s2 HF.out.r 4 (by decide) (by decide)).mono ?_
        rintro e q1 ⟨x, s4, rfl, hN4, hr4, hk4⟩
        have HN4 := Lib.hid hN4
        replace HF := Lib.hid (HF.out.step hk4 hr4)
        replace HK := Lib.hid (HK.out.trans (hk4.mono (T := fun i => i = g ∨ i = gp) fun i _ e => .inl e) (fun _ _ e => e))
        replace HH := Lib.hid (HH.out.kept hk4 hghg.out.1)
        replace HO := Lib.hid (own_kept HO.out hk4 (fun j hj e => by have h1 := (own_ge HO.out hj).1; have h2 := HGl.out.1; have h4 : j = g := e; omega))
        replace HSS : Hid ((fun W : World => SiBlk W gs g ∧ W.cell? ⟨gh, 7, none⟩ = some (.slice A n c)) q1) := Lib.hid ⟨SiBlk.keep HSS.out.1 hk4 HGs.out, HH.out.cell 7⟩
        clear hN4 hr4 hk4
        go_wp2_with fail
        refine hK.out _ _ HSS.out ?_
        clear hK K
        refine wpG_do fun K hK => ?_
        go_wp2_with fail
        have hb5 : Below q1.heap.size q1 (q1.alloc (.cells #[.int .u32 x] 22)) := (Below.refl _ _).alloc (Nat.le_refl _) _
        have HRd : Hid (Reads (q1.alloc (.cells #[.int .u32 x] 22)) (q1.heap.size + 1) 1 (some ⟨q1.heap.size, 0, none⟩) 1 [.int .u32 x]) := Lib.hid (Reads.one_new _ _ _)
        replace HF := Lib.hid (HF.out.later hb5)
        replace HK := Lib.hid (HK.out.trans (Kept.of_new hb5 (fun i => i = g ∨ i = gp)) (fun _ _ e => e))
        replace HH := Lib.hid (HH.out.later hb5)
        replace HO := Lib.hid (own_kept HO.out (Kept.of_new hb5 (fun _ => False)) (fun _ _ h => h))
        replace HSS : Hid ((fun W : World => SiBlk W gs g ∧ W.cell? ⟨gh, 7, none⟩ = some (.slice A n c)) (q1.alloc (.cells #[.int .u32 x] 22))) := Lib.hid ⟨Blk.later HSS.out.1 hb5, HH.out.cell 7⟩
        have hbase : w.heap.size ≤ (q1.alloc (.cells #[.int .u32 x] 22)).heap.size := HK.out.size
        refine hK.out _ _ HSS.out ?_
        clear hK K hb5
        generalize q1.alloc (.cells #[.int .u32 x] 22) = q2 at *
        generalize q1.heap.size = gx at *
        refine wpG_do fun K hK => ?_
        have hnl : L.length = n := by have h1 := HO.out.1; rw [u32s_len] at h1; omega
        have hnb : 4 * n ≤ xs.length + 4 := by have h1 := HP.out.is; rw [hnl] at h1; have h2 := HE.out; omega
        refine wpList_app el_u32 rfl (.tmp 35) (.tmp 39) rfl HO.out rfl HRd.out rfl (by simp [Value.oneCell']) (by simp only [maxLen]; omega) (by omega) hbase ?_
        intro v5 q3 ho9 hb9 hg9 hn9
        rw [← u32s_snoc] at ho9
        obtain ⟨A5, c5, hv5, -, -, -⟩ := own_shape ho9
        subst hv5
        have k9 := Kept.of_grown hg9
        have hog : ∀ j, (Value.slice A n c).ownBlock = some j → w.heap.size ≤ j := fun j hj => (own_ge HO.out hj).1
        have HF4 : Hid (PkF w0 q3 g gp q s4 (p0 t r a).C) := Lib.hid ⟨HF.out.r.kept k9 (fun e => by have h1 := hog g e; have h2 := HGl.out.1; omega) (fun hn ad e e' => by have h1 := hog _ e'; have h2 := HAq.out hn ad e; omega) (fun j e => by have h1 := hog j e; have h2 := HA.out.1; omega), HF.out.k.kept k9 (fun e => own_blk_ne HO.out HF.out.k (by decide) e), HF.out.ne, HF.out.base, HF.out.qa⟩
        have HK4 := Lib.hid (HK.out.trans (k9.mono (T := fun j => w.heap.size ≤ j) fun j _ e => hog j e) (fun j hj e => absurd hj (by omega)))
        have HH4 := Lib.hid (HH.out.kept k9 (fun e => own_blk_ne HO.out HH.out (by decide) e))
        have HS4 : Hid ((fun W : World => SiBlk W gs g ∧ W.cell? ⟨gh, 7, none⟩ = some (.slice A n c)) q3) := Lib.hid ⟨Blk.kept HSS.out.1 k9 (fun e => own_blk_ne HO.out HSS.out.1 (by decide) e), HH4.out.cell 7⟩
        have HO4 := Lib.hid ho9
        clear ho9 hb9 hg9 hn9 k9 hog HF HK HO HSS HRd hbase HH
        refine hK.out _ _ HS4.out ?_
        clear hK K
        refine wpG_take HS4 (by rfl) (by intro W hW; clear hW; go_simp; try with_reducible rfl) ?_
        go_simp
        refine wpG_last fun K hK => ?_
        have f7 := HH4.out.frozen 7
        have y7 := HH4.out.cell 7
        simp at y7
        go_wp2_with fail
        have HF5 : Hid (PkF w0 (q3.setCell ⟨gh, 7, none⟩ (.slice A5 (n + 1) c5)) g gp q s4 (p0 t r a).C) := Lib.hid ⟨HF4.out.r.kept (kept_set q3 gh 7 _) (fun e => hghg.out.1 e.symm) (fun hn ad e e' => by have h2 := HAq.out hn ad e; have h3 := HGh.out; have h4 : ad.block = gh := e'; omega) (fun j e => by have h2 := HA.out.1; have h3 := HGh.out; have h4 : j = gh := e; omega), Blk.far (p := ⟨gh, 7, none⟩) HF4.out.k hghg.out.2.symm _, HF4.out.ne, HF4.out.base, HF4.out.qa⟩
        have HK5 := Lib.hid (HK4.out.setCell (p := ⟨gh, 7, none⟩) (fun hlt => absurd hlt (by have := HGh.out; simp only; omega)) (.slice A5 (n + 1) c5))
        have HH5 : Hid (Blk (q3.setCell ⟨gh, 7, none⟩ (.slice A5 (n + 1) c5)) gh 26 #[.int .u32 x1, .int .u16 x2, .int .u8 x3, .int .u8 x4, .int .u32 x5, .int .u32 x6, .int .u32 x7, .slice A5 (n + 1) c5]) := Lib.hid (HH4.out.set_ 7 _)
        have HO5 := Lib.hid (own_kept HO4.out (kept_setC q3 gh 7 (.slice A5 (n + 1) c5)) (fun j hj e => own_blk_ne HO4.out HH4.out (by decide) (by rw [hj]; exact congrArg some e)))
        have HS5 : Hid (SiBlk (q3.setCell ⟨gh, 7, none⟩ (.slice A5 (n + 1) c5)) gs g) := Lib.hid (Blk.far (p := ⟨gh, 7, none⟩) HS4.out.1 hghs.out.symm (.slice A5 (n + 1) c5))
        clear f7 y7
        refine hK.out _ _ ?_
        clear hK K
        generalize q3.setCell ⟨gh, 7, none⟩ (.slice A5 (n + 1) c5) = q5 at *
        go_wp2
        try go_simp
        go_roundw
        case rel => exact ⟨s4, A5, n + 1, c5, L ++ [x], HF5, HS5, HH5, HO5, HK5, Lib.hid (HP.out.push HE.out (by rw [HLf.out]; exact hl) HN4.out)⟩
        case measure =>
          rw [HMs.out, rdLeft_eq HF5.out.r, if_pos HE.out]
          have hx := HP.out.eq
          rcases HN4.out.cases with ⟨_, h2, _, h4⟩ | ⟨_, _, h4⟩
          · rw [hx] at h2
            rw [h4]
            simp only [if_true]
            omega
          · rw [if_neg h4]
            omega
      · have hd : decide (0 < lf) = false := decide_eq_false hl
        have hnl : L.length = n := by have h1 := HO.out.1; rw [u32s_len] at h1; omega
        have b0 := HH.out.cell 0
        have b1 := HH.out.cell 1
        have b2 := HH.out.cell 2
        have b3 := HH.out.cell 3
        have b4 := HH.out.cell 4
        have b5 := HH.out.cell 5
        have b6 := HH.out.cell 6
        have b7 := HH.out.cell 7
        simp at b0 b1 b2 b3 b4 b5 b6 b7
        have f3 := HF.out.k.frozen 3
        have f4 := HF.out.k.frozen 4
        have f5 := HF.out.k.frozen 5
        have f6 := HF.out.k.frozen 6
        have f7 := HF.out.k.frozen 7
        have f8 := HF.out.k.frozen 8
        have f9 := HF.out.k.frozen 9
        have f10 := HF.out.k.frozen 10
        have y3 := HF.out.k.cell 3
        have y4 := HF.out.k.cell 4
        have y5 := HF.out.k.cell 5
        have y6 := HF.out.k.cell 6
        have y7 := HF.out.k.cell 7
        have y8 := HF.out.k.cell 8
        have y9 := HF.out.k.cell 9
        have y10 := HF.out.k.cell 10
        simp at y3 y4 y5 y6 y7 y8 y9 y10
        have HF9 := Lib.hid ((((((((HF.out.put 3 (.int .u32 x1)).put 4 (.int .u16 x2)).put 5 (.int .u8 x3)).put 6 (.int .u8 x4)).put 7 (.int .u32 x5)).put 8 (.int .u32 x6)).put 9 (.int .u32 x7)).put 10 (.slice A n c))
        have HK9 := Lib.hid ((((((((HK.out.setCell (p := ⟨gp, 3, none⟩) (fun _ => .inr rfl) (.int .u32 x1)).setCell (p := ⟨gp, 4, none⟩) (fun _ => .inr rfl) (.int .u16 x2)).setCell (p := ⟨gp, 5, none⟩) (fun _ => .inr rfl) (.int .u8 x3)).setCell (p := ⟨gp, 6, none⟩) (fun _ => .inr rfl) (.int .u8 x4)).setCell (p := ⟨gp, 7, none⟩) (fun _ => .inr rfl) (.int .u32 x5)).setCell (p := ⟨gp, 8, none⟩) (fun _ => .inr rfl) (.int .u32 x6)).setCell (p := ⟨gp, 9, none⟩) (fun _ => .inr rfl) (.int .u32 x7)).setCell (p := ⟨gp, 10, none⟩) (fun _ => .inr rfl) (.slice A n c))
        have HO9 := Lib.hid (own_kept (own_kept (own_kept (own_kept (own_kept (own_kept (own_kept (own_kept HO.out (kept_setC w3 gp 3 (.int .u32 x1)) (fun i hi e => own_gp HO.out HF.out.k hi e)) (kept_setC (w3.setCell ⟨gp, 3, none⟩ (.int .u32 x1)) gp 4 (.int .u16 x2)) (fun i hi e => own_gp HO.out HF.out.k hi e)) (kept_setC ((w3.setCell ⟨gp, 3, none⟩ (.int .u32 x1)).setCell ⟨gp, 4, none⟩ (.int .u16 x2)) gp 5 (.int .u8 x3)) (fun i hi e => own_gp HO.out HF.out.k hi e)) (kept_setC (((w3.setCell ⟨gp, 3, none⟩ (.int .u32 x1)).setCell ⟨gp, 4, none⟩ (.int .u16 x2)).setCell ⟨gp, 5, none⟩ (.int .u8 x3)) gp 6 (.int .u8 x4)) (fun i hi e => own_gp HO.out HF.out.k hi e)) (kept_setC ((((w3.setCell ⟨gp, 3, none⟩ (.int .u32 x1)).setCell ⟨gp, 4, none⟩ (.int .u16 x2)).setCell ⟨gp, 5, none⟩ (.int .u8 x3)).setCell ⟨gp, 6, none⟩ (.int .u8 x4)) gp 7 (.int .u32 x5)) (fun i hi e => own_gp HO.out HF.out.k hi e)) (kept_setC (((((w3.setCell ⟨gp, 3, none⟩ (.int .u32 x1)).setCell ⟨gp, 4, none⟩ (.int .u16 x2)).setCell ⟨gp, 5, none⟩ (.int .u8 x3)).setCell ⟨gp, 6, none⟩ (.int .u8 x4)).setCell ⟨gp, 7, none⟩ (.int .u32 x5)) gp 8 (.int .u32 x6)) (fun i hi e => own_gp HO.out HF.out.k hi e)) (kept_setC ((((((w3.setCell ⟨gp, 3, none⟩ (.int .u32 x1)).setCell ⟨gp, 4, none⟩ (.int .u16 x2)).setCell ⟨gp, 5, none⟩ (.int .u8 x3)).setCell ⟨gp, 6, none⟩ (.int .u8 x4)).setCell ⟨gp, 7, none⟩ (.int .u32 x5)).setCell ⟨gp, 8, none⟩ (.int .u32 x6)) gp 9 (.int .u32 x7)) (fun i hi e => own_gp HO.out HF.out.k hi e)) (kept_setC (((((((w3.setCell ⟨gp, 3, none⟩ (.int .u32 x1)).setCell ⟨gp, 4, none⟩ (.int .u16 x2)).setCell ⟨gp, 5, none⟩ (.int .u8 x3)).setCell ⟨gp, 6, none⟩ (.int .u8 x4)).setCell ⟨gp, 7, none⟩ (.int .u32 x5)).setCell ⟨gp, 8, none⟩ (.int .u32 x6)).setCell ⟨gp, 9, none⟩ (.int .u32 x7)) gp 10 (.slice A n c)) (fun i hi e => own_gp HO.out HF.out.k hi e))
        go_wp2_with fail
        go_end0
        have hleft : s2.e = 0 → s2.pos = xs.length ∧ s2.pos = pos + 20 + 4 * n ∧ L = wordsAt xs (pos + 20) n := fun he => by
          rcases HP.out.is with ⟨_, h2, h3, h4⟩ | ⟨h2, _⟩
          · have hlf : s2.left = (s2.xs.length : Int) - s2.pos := by unfold Rd.left; rw [if_pos he]
            rw [HP.out.eq, HLf.out] at hlf
            rw [hnl] at h2 h4
            exact ⟨by omega, h2, h4⟩
          · exact absurd he h2
        have hC : (((((((((p0 t r a).C.setIfInBounds 3 (.int .u32 x1)).setIfInBounds 4 (.int .u16 x2)).setIfInBounds 5 (.int .u8 x3)).setIfInBounds 6 (.int .u8 x4)).setIfInBounds 7 (.int .u32 x5)).setIfInBounds 8 (.int .u32 x6)).setIfInBounds 9 (.int .u32 x7)).setIfInBounds 10 (.slice A n c)) = ({ p0 t r a with mask := x1, ivl := x2, hopts := x3, pri := x4, dead := x5, dr := x6, bdr := x7, NA := A, nn := n, nc := c, nb := L } : PA).C := by kernel_rfl
        rw [hC] at HF9
        refine ⟨{ p0 t r a with mask := x1, ivl := x2, hopts := x3, pri := x4, dead := x5, dr := x6, bdr := x7, NA := A, nn := n, nc := c, nb := L }, s2, rfl, ⟨HF9.out, HK9.out, HO9.out, own_nil _ _ _ _, own_nil _ _ _ _, own_nil _ _ _ _⟩, ⟨fun he => ?_, fun ho => ?_⟩, fun he => ?_, rfl, rfl, rfl, rfl⟩
        · obtain ⟨h1, h2, _⟩ := hleft he
          unfold helloOk
          omega
        · rcases HP.out.is with ⟨h1, _⟩ | ⟨_, h2, _⟩
          · exact h1
          · exact absurd ho h2
        · obtain ⟨h1, h2, h3⟩ := hleft he
          have h7 : r7.e = 0 := by
            rcases Decidable.em (r7.e = 0) with h | h
            · exact h
            · exact absurd (by omega) (HNs.out.no h)
          obtain ⟨_, _, v1, v2, v3, v4, v5, v6, v7⟩ := HNs.out.yes h7
          have hnn : (xs.length - (pos + 20)) / 4 = n := by omega
          refine ⟨?_, ?_⟩
          · obtain ⟨sx, sp, se⟩ := s2
            have hx := HP.out.eq
            simp only at hx he h1
            rw [hx, he, h1]
          · rw [hnn, ← v1, ← v2, ← v3, ← v4, ← v5, ← v6, ← v7, ← h3]
  · skip
    refine wp_region_t (fun W : World => SiBlk W gs g) (.take 0 (.take 3 (.take 7 (.take 11 (.take 15 (.take 18 (.take 21 (.take 1 (.take 4 (.take 8 (.take 12 (.take 16 (.take 19 (.take 22 (.fork 2 25 (.fork 5 25 (.take 6 (.fork 9 25 (.take 10 (.fork 13 25 (.take 14 (.fork 17 25 (.fork 20 25 (.fork 23 25 (.take 24 (.one 25 (.one 26 .nil))) (.one 23 (.take 24 (.one 26 .nil)))) (.one 20 (.one 23 (.take 24 (.one 26 .nil))))) (.one 17 (.one 20 (.one 23 (.take 24 (.one 26 .nil))))))) (.one 13 (.take 14 (.one 17 (.one 20 (.one 23 (.take 24 (.one 26 .nil))))))))) (.one 9 (.take 10 (.one 13 (.take 14 (.one 17 (.one 20 (.one 23 (.take 24 (.one 26 .nil))))))))))) (.one 5 (.take 6 (.one 9 (.take 10 (.one 13 (.take 14 (.one 17 (.one 20 (.one 23 (.take 24 (.one 26 .nil)))))))))))) (.one 2 (.one 5 (.take 6 (.one 9 (.take 10 (.one 13 (.take 14 (.one 17 (.one 20 (.one 23 (.take 24 (.one 26 .nil))))))))))))))))))))))))))) (by kernel_rfl) (fun _ d _ _ _ h => absurd h.1 (by intro e; cases e)) ?_
    simp only [TStep.node, nthOp_zero, nthOp_succ]
    generalize (w.alloc (.cells #[.pointer (some ⟨g, 0, none⟩)] 101)).drew = v0 at *
    refine wpT_take HS (by rfl) (by intro W hW; clear hW; go_simp; try with_reducible rfl) ?_
    refine wpT_take HS (by rfl) (by intro W hW; clear hW; go_simp; try with_reducible rfl) ?_
    refine wpT_take HS (by rfl) (by intro W hW; clear hW; go_simp; try with_reducible rfl) ?_
    refine wpT_take HS (by rfl) (by intro W hW; clear hW; go_simp; try with_reducible rfl) ?_
    refine wpT_take HS (by rfl) (by intro W hW; clear hW; go_simp; try with_reducible rfl) ?_
    refine wpT_take HS (by rfl) (by intro W hW; clear hW; go_simp; try with_reducible rfl) ?_
    go_simp
    refine wpT_take HS (by rfl) (by intro W hW; clear hW; go_simp; try with_reducible rfl) ?_
    refine wpT_take HS (by rfl) (by intro W hW; unfold SiBlk at hW; have a0 := hW.cell 0; clear hW; simp at a0; go_simp; try with_reducible rfl) ?_
    refine wpT_take HS (by rfl) (by intro W hW; unfold SiBlk at hW; have a0 := hW.cell 0; clear hW; simp at a0; go_simp; try with_reducible rfl) ?_
    refine wpT_take HS (by rfl) (by intro W hW; unfold SiBlk at hW; have a0 := hW.cell 0; clear hW; simp at a0; go_simp; try with_reducible rfl) ?_
    refine wpT_take HS (by rfl) (by intro W hW; unfold SiBlk at hW; have a0 := hW.cell 0; clear hW; simp at a0; go_simp; try with_reducible rfl) ?_
    refine wpT_take HS (by rfl) (by intro W hW; unfold SiBlk at hW; have a0 := hW.cell 0; clear hW; simp at a0; go_simp; try with_reducible rfl) ?_
    go_simp
    refine wpT_take HS (by rfl) (by intro W hW; unfold SiBlk at hW; have a0 := hW.cell 0; clear hW; simp at a0; go_simp; try with_reducible rfl) ?_
    refine wpT_take HS (by rfl) (by intro W hW; unfold SiBlk at hW; have a0 := hW.cell 0; clear hW; simp at a0; go_simp; try with_reducible rfl) ?_
    go_simp
    refine wpT_fork (fun K hK => ?_) (fun K hK => ?_)
    · go_wp2_with fail
      refine (rr_numx w0 v0 g q _ HF.out.r 4 (by decide) (by decide)).mono ?_
      rintro e v1 ⟨x1, r1, rfl, hN, hr, hk⟩
      have HN1 := Lib.hid hN
      have hx1 : 0 ≤ x1 ∧ x1 < 4294967296 := ⟨hN.lo, by have := hN.hi; omega⟩
      replace HF := Lib.hid (HF.out.step hk hr)
      replace HK := Lib.hid (HK.out.trans (hk.mono (T := fun i => i = g ∨ i = gp) fun i _ e => .inl e) (fun _ _ e => e))
      replace HS : Hid (SiBlk v1 gs g) := Lib.hid (SiBlk.keep HS.out hk HGs.out)
      clear hN hr hk
      go_wp2_with fail
      refine hK.out _ _ HS.out ?_
      clear hK K
      go_simp
      refine wpT_fork (fun K hK => ?_) (fun K hK => ?_)
      · go_wp2_with fail
        refine (rr_numx w0 v1 g q _ HF.out.r 2 (by decide) (by decide)).mono ?_
        rintro e v2 ⟨x2, r2, rfl, hN, hr, hk⟩
        have HN2 := Lib.hid hN
        have hx2 : 0 ≤ x2 ∧ x2 < 65536 := ⟨hN.lo, by have := hN.hi; omega⟩
        replace HF := Lib.hid (HF.out.step hk hr)
        replace HK := Lib.hid (HK.out.trans (hk.mono (T := fun i => i = g ∨ i = gp) fun i _ e => .inl e) (fun _ _ e => e))
        replace HS : Hid (SiBlk v2 gs g) := Lib.hid (SiBlk.keep HS.out hk HGs.out)
        clear hN hr hk
        have wx2 : IntKind.u16.wrap x2 = x2 := by simp [IntKind.wrap, IntKind.bits, IntKind.signed]; omega
        go_wp2_with fail
        refine hK.out _ _ HS.out ?_
        clear hK K
        refine wpT_take HS (by rfl) (by intro W hW; clear hW; go_simp; try with_reducible rfl) ?_
        go_simp
        refine wpT_fork (fun K hK => ?_) (fun K hK => ?_)
        · go_wp2_with fail
          refine (rr_numx w0 v2 g q _ HF.out.r 1 (by decide) (by decide)).mono ?_
          rintro e v3 ⟨x3, r3, rfl, hN, hr, hk⟩
          have HN3 := Lib.hid hN
          have hx3 : 0 ≤ x3 ∧ x3 < 256 := ⟨hN.lo, by have := hN.hi; omega⟩
          replace HF := Lib.hid (HF.out.step hk hr)
          replace HK := Lib.hid (HK.out.trans (hk.mono (T := fun i => i = g ∨ i = gp) fun i _ e => .inl e) (fun _ _ e => e))
          replace HS : Hid (SiBlk v3 gs g) := Lib.hid (SiBlk.keep HS.out hk HGs.out)
          clear hN hr hk
          have wx3 : IntKind.u8.wrap x3 = x3 := by simp [IntKind.wrap, IntKind.bits, IntKind.signed]; omega
          go_wp2_with fail
          refine hK.out _ _ HS.out ?_
          clear hK K
          refine wpT_take HS (by rfl) (by intro W hW; clear hW; go_simp; try with_reducible rfl) ?_
          go_simp
          refine wpT_fork (fun K hK => ?_) (fun K hK => ?_)
          · go_wp2_with fail
            refine (rr_numx w0 v3 g q _ HF.out.r 1 (by decide) (by decide)).mono ?_
            rintro e v4 ⟨x4, r4, rfl, hN, hr, hk⟩
            have HN4 := Lib.hid hN
            have hx4 : 0 ≤ x4 ∧ x4 < 256 := ⟨hN.lo, by have := hN.hi; omega⟩
            replace HF := Lib.hid (HF.out.step hk hr)
            replace HK := Lib.hid (HK.out.trans (hk.mono (T := fun i => i = g ∨ i = gp) fun i _ e => .inl e) (fun _ _ e => e))
            replace HS : Hid (SiBlk v4 gs g) := Lib.hid (SiBlk.keep HS.out hk HGs.out)
            clear hN hr hk
            have wx4 : IntKind.u8.wrap x4 = x4 := by simp [IntKind.wrap, IntKind.bits, IntKind.signed]; omega
            go_wp2_with fail
            refine hK.out _ _ HS.out ?_
            clear hK K
            refine wpT_take HS (by rfl) (by intro W hW; clear hW; go_simp; try with_reducible rfl) ?_
            go_simp
            refine wpT_fork (fun K hK => ?_) (fun K hK => ?_)
            · go_wp2_with fail
              refine (rr_numx w0 v4 g q _ HF.out.r 4 (by decide) (by decide)).mono ?_
              rintro e v5 ⟨x5, r5, rfl, hN, hr, hk⟩
              have HN5 := Lib.hid hN
              have hx5 : 0 ≤ x5 ∧ x5 < 4294967296 := ⟨hN.lo, by have := hN.hi; omega⟩
              replace HF := Lib.hid (HF.out.step hk hr)
              replace HK := Lib.hid (HK.out.trans (hk.mono (T := fun i => i = g ∨ i = gp) fun i _ e => .inl e) (fun _ _ e => e))
              replace HS : Hid (SiBlk v5 gs g) := Lib.hid (SiBlk.keep HS.out hk HGs.out)
              clear hN hr hk
              go_wp2_with fail
              refine hK.out _ _ HS.out ?_
              clear hK K
              go_simp
              refine wpT_fork (fun K hK => ?_) (fun K hK => ?_)
              · go_wp2_with fail
                refine (rr_numx w0 v5 g q _ HF.out.r 4 (by decide) (by decide)).mono ?_
                rintro e v6 ⟨x6, r6, rfl, hN, hr, hk⟩
                have HN6 := Lib.hid hN
                have hx6 : 0 ≤ x6 ∧ x6 < 4294967296 := ⟨hN.lo, by have := hN.hi; omega⟩
                replace HF := Lib.hid (HF.out.step hk hr)
                replace HK := Lib.hid (HK.out.trans (hk.mono (T := fun i => i = g ∨ i = gp) fun i _ e => .inl e) (fun _ _ e => e))
                replace HS : Hid (SiBlk v6 gs g) := Lib.hid (SiBlk.keep HS.out hk HGs.out)
                clear hN hr hk
                go_wp2_with fail
                refine hK.out _ _ HS.out ?_
                clear hK K
                go_simp
                refine wpT_fork (fun K hK => ?_) (fun K hK => ?_)
                · go_wp2_with fail
                  refine (rr_numx w0 v6 g q _ HF.out.r 4 (by decide) (by decide)).mono ?_
                  rintro e v7 ⟨x7, r7, rfl, hN, hr, hk⟩
                  have HN7 := Lib.hid hN
                  have hx7 : 0 ≤ x7 ∧ x7 < 4294967296 := ⟨hN.lo, by have := hN.hi; omega⟩
                  replace HF := Lib.hid (HF.out.step hk hr)
                  replace HK := Lib.hid (HK.out.trans (hk.mono (T := fun i => i = g ∨ i = gp) fun i _ e => .inl e) (fun _ _ e => e))
                  replace HS : Hid (SiBlk v7 gs g) := Lib.hid (SiBlk.keep HS.out hk HGs.out)
                  clear hN hr hk
                  go_wp2_with fail
                  refine hK.out _ _ HS.out ?_
                  clear hK K
                  refine wpT_take HS (by rfl) (by intro W hW; clear hW; go_simp; try with_reducible rfl) ?_
                  go_simp
                  refine wpT_do fun K hK => ?_
                  go_wp2_with fail
                  have hb2 : Below v7.heap.size v7 (v7.alloc (.cells #[.int .u32 0, .int .u16 0, .int .u8 0, .int .u8 0, .int .u32 0, .int .u32 0, .int .u32 0, .slice none 0 0] 26)) := (Below.refl _ _).alloc (Nat.le_refl _) _
                  have HGh : Hid (w.heap.size ≤ v7.heap.size) := Lib.hid HK.out.size
                  have HH := Lib.hid (Blk.new v7 26 #[.int .u32 0, .int .u16 0, .int .u8 0, .int .u8 0, .int .u32 0, .int .u32 0, .int .u32 0, .slice none 0 0])
                  replace HF := Lib.hid (HF.out.later hb2)
                  replace HK := Lib.hid (HK.out.trans (Kept.of_new hb2 (fun i => i = g ∨ i = gp)) (fun _ _ e => e))
                  replace HS : Hid (SiBlk (v7.alloc (.cells #[.int .u32 0, .int .u16 0, .int .u8 0, .int .u8 0, .int .u32 0, .int .u32 0, .int .u32 0, .slice none 0 0] 26)) gs g) := Lib.hid (Blk.later HS.out hb2)
                  clear hb2
                  generalize v7.heap.size = gh at *
                  generalize v7.alloc (.cells #[.int .u32 0, .int .u16 0, .int .u8 0, .int .u8 0, .int .u32 0, .int .u32 0, .int .u32 0, .slice none 0 0] 26) = v8 at *
                  refine hK.out _ _ HS.out ?_
                  clear hK K
                  go_simp
                  refine wpT_do fun K hK => ?_
                  go_wp2_with (refine wpList_store_row rfl 26 _ _ rfl gh #[.int .u32 x1, .int .u16 x2, .int .u8 x3, .int .u8 x4, .int .u32 x5, .int .u32 x6, .int .u32 x7, .slice none 0 0] rfl rfl 26 _ HH.out info_hello rfl (by simp [Value.oneCell']) ?_)
                  replace HF := Lib.hid (⟨HF.out.r.kept ((Kept.of_grown (only_setRow v8 gh #[.int .u32 x1, .int .u16 x2, .int .u8 x3, .int .u8 x4, .int .u32 x5, .int .u32 x6, .int .u32 x7, .slice none 0 0])).mono (T := fun i => i = gh) fun i _ e => by simpa using e.symm) (fun e => by have := HGh.out; have := HGl.out; omega) (fun hn ad e e' => by have := HAq.out hn ad e; have := HGh.out; omega) (fun i e => by have := HA.out.1; have := HGh.out; omega), HF.out.k.setRow_far (blk_ne HF.out.k HH.out (by decide)) _, HF.out.ne, HF.out.base, HF.out.qa⟩ : PkF w0 (v8.setRow gh #[.int .u32 x1, .int .u16 x2, .int .u8 x3, .int .u8 x4, .int .u32 x5, .int .u32 x6, .int .u32 x7, .slice none 0 0]) g gp q _ _)
                  have hkx : ∀ i, some gh = some i → w.heap.size ≤ i := fun i e => by injection e with e; rw [← e]; exact HGh.out
                  replace HK := Lib.hid (HK.out.trans ((Kept.of_grown (only_setRow v8 gh #[.int .u32 x1, .int .u16 x2, .int .u8 x3, .int .u8 x4, .int .u32 x5, .int .u32 x6, .int .u32 x7, .slice none 0 0])).mono (T := fun i => w.heap.size ≤ i) fun i _ e => hkx i e) (fun i hi e => absurd hi (by omega)))
                  replace HS : Hid (SiBlk (v8.setRow gh #[.int .u32 x1, .int .u16 x2, .int .u8 x3, .int .u8 x4, .int .u32 x5, .int .u32 x6, .int .u32 x7, .slice none 0 0]) gs g) := Lib.hid (Blk.setRow_far HS.out (blk_ne HS.out HH.out (by decide)) _)
                  replace HH := Lib.hid (HH.out.setRow #[.int .u32 x1, .int .u16 x2, .int .u8 x3, .int .u8 x4, .int .u32 x5, .int .u32 x6, .int .u32 x7, .slice none 0 0])
                  generalize v8.setRow gh #[.int .u32 x1, .int .u16 x2, .int .u8 x3, .int .u8 x4, .int .u32 x5, .int .u32 x6, .int .u32 x7, .slice none 0 0] = v9 at *
                  refine hK.out _ _ HS.out ?_
                  clear hK K
                  refine wpT_nil ?_
                  go_simp
                  refine ⟨rfl, gh, x1, x2, x3, x4, x5, x6, x7, r7, ?_⟩
                  exact ⟨_, _, _, _, _, _, _, _, _, _, _, _, _, _, _, _, _, _, _, _, _, _, _, _, _, rfl, HF, HK, HS, HH, HGh, Lib.hid (hl_nums (HS0.out ▸ HN1.out) HN2.out HN3.out HN4.out HN5.out HN6.out HN7.out)⟩
                · go_wp2_with fail
                  have hb2 : Below v6.heap.size v6 (v6.alloc (.cells #[.int .u32 0, .int .u16 0, .int .u8 0, .int .u8 0, .int .u32 0, .int .u32 0, .int .u32 0, .slice none 0 0] 26)) := (Below.refl _ _).alloc (Nat.le_refl _) _
                  have HGh : Hid (w.heap.size ≤ v6.heap.size) := Lib.hid HK.out.size
                  have HH := Lib.hid (Blk.new v6 26 #[.int .u32 0, .int .u16 0, .int .u8 0, .int .u8 0, .int .u32 0, .int .u32 0, .int .u32 0, .slice none 0 0])
                  replace HF := Lib.hid (HF.out.later hb2)
                  replace HK := Lib.hid (HK.out.trans (Kept.of_new hb2 (fun i => i = g ∨ i = gp)) (fun _ _ e => e))
                  replace HS : Hid (SiBlk (v6.alloc (.cells #[.int .u32 0, .int .u16 0, .int .u8 0, .int .u8 0, .int .u32 0, .int .u32 0, .int .u32 0, .slice none 0 0] 26)) gs g) := Lib.hid (Blk.later HS.out hb2)
                  clear hb2
                  generalize v6.heap.size = gh at *
                  generalize v6.alloc (.cells #[.int .u32 0, .int .u16 0, .int .u8 0, .int .u8 0, .int .u32 0, .int .u32 0, .int .u32 0, .slice none 0 0] 26) = v10 at *
                  refine hK.out _ _ HS.out ?_
                  clear hK K
                  go_simp
                  refine wpT_do fun K hK => ?_
                  go_wp2_with fail
                  refine (rr_numx w0 v10 g q _ HF.out.r 4 (by decide) (by decide)).mono ?_
                  rintro e v11 ⟨x7, r7, rfl, hN, hr, hk⟩
                  have HN7 := Lib.hid hN
                  have hx7 : 0 ≤ x7 ∧ x7 < 4294967296 := ⟨hN.lo, by have := hN.hi; omega⟩
                  replace HF := Lib.hid (HF.out.step hk hr)
                  replace HK := Lib.hid (HK.out.trans (hk.mono (T := fun i => i = g ∨ i = gp) fun i _ e => .inl e) (fun _ _ e => e))
                  replace HS : Hid (SiBlk v11 gs g) := Lib.hid (SiBlk.keep HS.out hk HGs.out)
                  replace HH := Lib.hid (HH.out.kept hk (fun e => by have := HGh.out; have := HGl.out; omega))
                  clear hN hr hk
                  go_wp2_with fail
                  refine hK.out _ _ HS.out ?_
                  clear hK K
                  refine wpT_take HS (by rfl) (by intro W hW; clear hW; go_simp; try with_reducible rfl) ?_
                  go_simp
                  refine wpT_do fun K hK => ?_
                  go_wp2_with (refine wpList_store_row rfl 26 _ _ rfl gh #[.int .u32 x1, .int .u16 x2, .int .u8 x3, .int .u8 x4, .int .u32 x5, .int .u32 x6, .int .u32 x7, .slice none 0 0] rfl rfl 26 _ HH.out info_hello rfl (by simp [Value.oneCell']) ?_)
                  replace HF := Lib.hid (⟨HF.out.r.kept ((Kept.of_grown (only_setRow v11 gh #[.int .u32 x1, .int .u16 x2, .int .u8 x3, .int .u8 x4, .int .u32 x5, .int .u32 x6, .int .u32 x7, .slice none 0 0])).mono (T := fun i => i = gh) fun i _ e => by simpa using e.symm) (fun e => by have := HGh.out; have := HGl.out; omega) (fun hn ad e e' => by have := HAq.out hn ad e; have := HGh.out; omega) (fun i e => by have := HA.out.1; have := HGh.out; omega), HF.out.k.setRow_far (blk_ne HF.out.k HH.out (by decide)) _, HF.out.ne, HF.out.base, HF.out.qa⟩ : PkF w0 (v11.setRow gh #[.int .u32 x1, .int .u16 x2, .int .u8 x3, .int .u8 x4, .int .u32 x5, .int .u32 x6, .int .u32 x7, .slice none 0 0]) g gp q _ _)
                  have hkx : ∀ i, some gh = some i → w.heap.size ≤ i := fun i e => by injection e with e; rw [← e]; exact HGh.out
                  replace HK := Lib.hid (HK.out.trans ((Kept.of_grown (only_setRow v11 gh #[.int .u32 x1, .int .u16 x2, .int .u8 x3, .int .u8 x4, .int .u32 x5, .int .u32 x6, .int .u32 x7, .slice none 0 0])).mono (T := fun i => w.heap.size ≤ i) fun i _ e => hkx i e) (fun i hi e => absurd hi (by omega)))
                  replace HS : Hid (SiBlk (v11.setRow gh #[.int .u32 x1, .int .u16 x2, .int .u8 x3, .int .u8 x4, .int .u32 x5, .int .u32 x6, .int .u32 x7, .slice none 0 0]) gs g) := Lib.hid (Blk.setRow_far HS.out (blk_ne HS.out HH.out (by decide)) _)
                  replace HH := Lib.hid (HH.out.setRow #[.int .u32 x1, .int .u16 x2, .int .u8 x3, .int .u8 x4, .int .u32 x5, .int .u32 x6, .int .u32 x7, .slice none 0 0])
                  generalize v11.setRow gh #[.int .u32 x1, .int .u16 x2, .int .u8 x3, .int .u8 x4, .int .u32 x5, .int .u32 x6, .int .u32 x7, .slice none 0 0] = v12 at *
                  refine hK.out _ _ HS.out ?_
                  clear hK K
                  refine wpT_nil ?_
                  go_simp
                  refine ⟨rfl, gh, x1, x2, x3, x4, x5, x6, x7, r7, ?_⟩
                  exact ⟨_, _, _, _, _, _, _, _, _, _, _, _, _, _, _, _, _, _, _, _, _, _, _, _, _, rfl, HF, HK, HS, HH, HGh, Lib.hid (hl_nums (HS0.out ▸ HN1.out) HN2.out HN3.out HN4.out HN5.out HN6.out HN7.out)⟩
              · go_wp2_with fail
                have hb2 : Below v5.heap.size v5 (v5.alloc (.cells #[.int .u32 0, .int .u16 0, .int .u8 0, .int .u8 0, .int .u32 0, .int .u32 0, .int .u32 0, .slice none 0 0] 26)) := (Below.refl _ _).alloc (Nat.le_refl _) _
                have HGh : Hid (w.heap.size ≤ v5.heap.size) := Lib.hid HK.out.size
                have HH := Lib.hid (Blk.new v5 26 #[.int .u32 0, .int .u16 0, .int .u8 0, .int .u8 0, .int .u32 0, .int .u32 0, .int .u32 0, .slice none 0 0])
                replace HF := Lib.hid (HF.out.later hb2)
                replace HK := Lib.hid (HK.out.trans (Kept.of_new hb2 (fun i => i = g ∨ i = gp)) (fun _ _ e => e))
                replace HS : Hid (SiBlk (v5.alloc (.cells #[.int .u32 0, .int .u16 0, .int .u8 0, .int .u8 0, .int .u32 0, .int .u32 0, .int .u32 0, .slice none 0 0] 26)) gs g) := Lib.hid (Blk.later HS.out hb2)
                clear hb2
                generalize v5.heap.size = gh at *
                generalize v5.alloc (.cells #[.int .u32 0, .int .u16 0, .int .u8 0, .int .u8 0, .int .u32 0, .int .u32 0, .int .u32 0, .slice none 0 0] 26) = v13 at *
                refine hK.out _ _ HS.out ?_
                clear hK K
                go_simp
                refine wpT_do fun K hK => ?_
                go_wp2_with fail
                refine (rr_numx w0 v13 g q _ HF.out.r 4 (by decide) (by decide)).mono ?_
                rintro e v14 ⟨x6, r6, rfl, hN, hr, hk⟩
                have HN6 := Lib.hid hN
                have hx6 : 0 ≤ x6 ∧ x6 < 4294967296 := ⟨hN.lo, by have := hN.hi; omega⟩
                replace HF := Lib.hid (HF.out.step hk hr)
                replace HK := Lib.hid (HK.out.trans (hk.mono (T := fun i => i = g ∨ i = gp) fun i _ e => .inl e) (fun _ _ e => e))
                replace HS : Hid (SiBlk v14 gs g) := Lib.hid (SiBlk.keep HS.out hk HGs.out)
                replace HH := Lib.hid (HH.out.kept hk (fun e => by have := HGh.out; have := HGl.out; omega))
                clear hN hr hk
                go_wp2_with fail
                refine hK.out _ _ HS.out ?_
                clear hK K
                go_simp
                refine wpT_do fun K hK => ?_
                go_wp2_with fail
                refine (rr_numx w0 v14 g q _ HF.out.r 4 (by decide) (by decide)).mono ?_
                rintro e v15 ⟨x7, r7, rfl, hN, hr, hk⟩
                have HN7 := Lib.hid hN
                have hx7 : 0 ≤ x7 ∧ x7 < 4294967296 := ⟨hN.lo, by have := hN.hi; omega⟩
                replace HF := Lib.hid (HF.out.step hk hr)
                replace HK := Lib.hid (HK.out.trans (hk.mono (T := fun i => i = g ∨ i = gp) fun i _ e => .inl e) (fun _ _ e => e))
                replace HS : Hid (SiBlk v15 gs g) := Lib.hid (SiBlk.keep HS.out hk HGs.out)
                replace HH := Lib.hid (HH.out.kept hk (fun e => by have := HGh.out; have := HGl.out; omega))
                clear hN hr hk
                go_wp2_with fail
                refine hK.out _ _ HS.out ?_
                clear hK K
                refine wpT_take HS (by rfl) (by intro W hW; clear hW; go_simp; try with_reducible rfl) ?_
                go_simp
                refine wpT_do fun K hK => ?_
                go_wp2_with (refine wpList_store_row rfl 26 _ _ rfl gh #[.int .u32 x1, .int .u16 x2, .int .u8 x3, .int .u8 x4, .int .u32 x5, .int .u32 x6, .int .u32 x7, .slice none 0 0] rfl rfl 26 _ HH.out info_hello rfl (by simp [Value.oneCell']) ?_)
                replace HF := Lib.hid (⟨HF.out.r.kept ((Kept.of_grown (only_setRow v15 gh #[.int .u32 x1, .int .u16 x2, .int .u8 x3, .int .u8 x4, .int .u32 x5, .int .u32 x6, .int .u32 x7, .slice none 0 0])).mono (T := fun i => i = gh) fun i _ e => by simpa using e.symm) (fun e => by have := HGh.out; have := HGl.out; omega) (fun hn ad e e' => by have := HAq.out hn ad e; have := HGh.out; omega) (fun i e => by have := HA.out.1; have := HGh.out; omega), HF.out.k.setRow_far (blk_ne HF.out.k HH.out (by decide)) _, HF.out.ne, HF.out.base, HF.out.qa⟩ : PkF w0 (v15.setRow gh #[.int .u32 x1, .int .u16 x2, .int .u8 x3, .int .u8 x4, .int .u32 x5, .int .u32 x6, .int .u32 x7, .slice none 0 0]) g gp q _ _)
                have hkx : ∀ i, some gh = some i → w.heap.size ≤ i := fun i e => by injection e with e; rw [← e]; exact HGh.out
                replace HK := Lib.hid (HK.out.trans ((Kept.of_grown (only_setRow v15 gh #[.int .u32 x1, .int .u16 x2, .int .u8 x3, .int .u8 x4, .int .u32 x5, .int .u32 x6, .int .u32 x7, .slice none 0 0])).mono (T := fun i => w.heap.size ≤ i) fun i _ e => hkx i e) (fun i hi e => absurd hi (by omega)))
                replace HS : Hid (SiBlk (v15.setRow gh #[.int .u32 x1, .int .u16 x2, .int .u8 x3, .int .u8 x4, .int .u32 x5, .int .u32 x6, .int .u32 x7, .slice none 0 0]) gs g) := Lib.hid (Blk.setRow_far HS.out (blk_ne HS.out HH.out (by decide)) _)
                replace HH := Lib.hid (HH.out.setRow #[.int .u32 x1, .int .u16 x2, .int .u8 x3, .int .u8 x4, .int .u32 x5, .int .u32 x6, .int .u32 x7, .slice none 0 0])
                generalize v15.setRow gh #[.int .u32 x1, .int .u16 x2, .int .u8 x3, .int .u8 x4, .int .u32 x5, .int .u32 x6, .int .u32 x7, .slice none 0 0] = v16 at *
                refine hK.out _ _ HS.out ?_
                clear hK K
                refine wpT_nil ?_
                go_simp
                refine ⟨rfl, gh, x1, x2, x3, x4, x5, x6, x7, r7, ?_⟩
                exact ⟨_, _, _, _, _, _, _, _, _, _, _, _, _, _, _, _, _, _, _, _, _, _, _, _, _, rfl, HF, HK, HS, HH, HGh, Lib.hid (hl_nums (HS0.out ▸ HN1.out) HN2.out HN3.out HN4.out HN5.out HN6.out HN7.out)⟩
            · go_wp2_with fail
              have hb2 : Below v4.heap.size v4 (v4.alloc (.cells #[.int .u32 0, .int .u16 0, .int .u8 0, .int .u8 0, .int .u32 0, .int .u32 0, .int .u32 0, .slice none 0 0] 26)) := (Below.refl _ _).alloc (Nat.le_refl _) _
              have HGh : Hid (w.heap.size ≤ v4.heap.size) := Lib.hid HK.out.size
              have HH := Lib.hid (Blk.new v4 26 #[.int .u32 0, .int .u16 0, .int .u8 0, .int .u8 0, .int .u32 0, .int .u32 0, .int .u32 0, .slice none 0 0])
              replace HF := Lib.hid (HF.out.later hb2)
              replace HK := Lib.hid (HK.out.trans (Kept.of_new hb2 (fun i => i = g ∨ i = gp)) (fun _ _ e => e))
              replace HS : Hid (SiBlk (v4.alloc (.cells #[.int .u32 0, .int .u16 0, .int .u8 0, .int .u8 0, .int .u32 0, .int .u32 0, .int .u32 0, .slice none 0 0] 26)) gs g) := Lib.hid (Blk.later HS.out hb2)
              clear hb2
              generalize v4.heap.size = gh at *
              generalize v4.alloc (.cells #[.int .u32 0, .int .u16 0, .int .u8 0, .int .u8 0, .int .u32 0, .int .u32 0, .int .u32 0, .slice none 0 0] 26) = v17 at *
              refine hK.out _ _ HS.out ?_
              clear hK K
              go_simp
              refine wpT_do fun K hK => ?_
              go_wp2_with fail
              refine (rr_numx w0 v17 g q _ HF.out.r 4 (by decide) (by decide)).mono ?_
              rintro e v18 ⟨x5, r5, rfl, hN, hr, hk⟩
              have HN5 := Lib.hid hN
              have hx5 : 0 ≤ x5 ∧ x5 < 4294967296 := ⟨hN.lo, by have := hN.hi; omega⟩
              replace HF := Lib.hid (HF.out.step hk hr)
              replace HK := Lib.hid (HK.out.trans (hk.mono (T := fun i => i = g ∨ i = gp) fun i _ e => .inl e) (fun _ _ e => e))
              replace HS : Hid (SiBlk v18 gs g) := Lib.hid (SiBlk.keep HS.out hk HGs.out)
              replace HH := Lib.hid (HH.out.kept hk (fun e => by have := HGh.out; have := HGl.out; omega))
              clear hN hr hk
              go_wp2_with fail
              refine hK.out _ _ HS.out ?_
              clear hK K
              go_simp
              refine wpT_do fun K hK => ?_
              go_wp2_with fail
              refine (rr_numx w0 v18 g q _ HF.out.r 4 (by decide) (by decide)).mono ?_
              rintro e v19 ⟨x6, r6, rfl, hN, hr, hk⟩
              have HN6 := Lib.hid hN
              have hx6 : 0 ≤ x6 ∧ x6 < 4294967296 := ⟨hN.lo, by have := hN.hi; omega⟩
              replace HF := Lib.hid (HF.out.step hk hr)
              replace HK := Lib.hid (HK.out.trans (hk.mono (T := fun i => i = g ∨ i = gp) fun i _ e => .inl e) (fun _ _ e => e))
              replace HS : Hid (SiBlk v19 gs g) := Lib.hid (SiBlk.keep HS.out hk HGs.out)
              replace HH := Lib.hid (HH.out.kept hk (fun e => by have := HGh.out; have := HGl.out; omega))
              clear hN hr hk
              go_wp2_with fail
              refine hK.out _ _ HS.out ?_
              clear hK K
              go_simp
              refine wpT_do fun K hK => ?_
              go_wp2_with fail
              refine (rr_numx w0 v19 g q _ HF.out.r 4 (by decide) (by decide)).mono ?_
              rintro e v20 ⟨x7, r7, rfl, hN, hr, hk⟩
              have HN7 := Lib.hid hN
              have hx7 : 0 ≤ x7 ∧ x7 < 4294967296 := ⟨hN.lo, by have := hN.hi; omega⟩
              replace HF := Lib.hid (HF.out.step hk hr)
              replace HK := Lib.hid (HK.out.trans (hk.mono (T := fun i => i = g ∨ i = gp) fun i _ e => .inl e) (fun _ _ e => e))
              replace HS : Hid (SiBlk v20 gs g) := Lib.hid (SiBlk.keep HS.out hk HGs.out)
              replace HH := Lib.hid (HH.out.kept hk (fun e => by have := HGh.out; have := HGl.out; omega))
              clear hN hr hk
              go_wp2_with fail
              refine hK.out _ _ HS.out ?_
              clear hK K
              refine wpT_take HS (by rfl) (by intro W hW; clear hW; go_simp; try with_reducible rfl) ?_
              go_simp
              refine wpT_do fun K hK => ?_
              go_wp2_with (refine wpList_store_row rfl 26 _ _ rfl gh #[.int .u32 x1, .int .u16 x2, .int .u8 x3, .int .u8 x4, .int .u32 x5, .int .u32 x6, .int .u32 x7, .slice none 0 0] rfl rfl 26 _ HH.out info_hello rfl (by simp [Value.oneCell']) ?_)
              replace HF := Lib.hid (⟨HF.out.r.kept ((Kept.of_grown (only_setRow v20 gh #[.int .u32 x1, .int .u16 x2, .int .u8 x3, .int .u8 x4, .int .u32 x5, .int .u32 x6, .int .u32 x7, .slice none 0 0])).mono (T := fun i => i = gh) fun i _ e => by simpa using e.symm) (fun e => by have := HGh.out; have := HGl.out; omega) (fun hn ad e e' => by have := HAq.out hn ad e; have := HGh.out; omega) (fun i e => by have := HA.out.1; have := HGh.out; omega), HF.out.k.setRow_far (blk_ne HF.out.k HH.out (by decide)) _, HF.out.ne, HF.out.base, HF.out.qa⟩ : PkF w0 (v20.setRow gh #[.int .u32 x1, .int .u16 x2, .int .u8 x3, .int .u8 x4, .int .u32 x5, .int .u32 x6, .int .u32 x7, .slice none 0 0]) g gp q _ _)
              have hkx : ∀ i, some gh = some i → w.heap.size ≤ i := fun i e => by injection e with e; rw [← e]; exact HGh.out
              replace HK := Lib.hid (HK.out.trans ((Kept.of_grown (only_setRow v20 gh #[.int .u32 x1, .int .u16 x2, .int .u8 x3, .int .u8 x4, .int .u32 x5, .int .u32 x6, .int .u32 x7, .slice none 0 0])).mono (T := fun i => w.heap.size ≤ i) fun i _ e => hkx i e) (fun i hi e => absurd hi (by omega)))
              replace HS : Hid (SiBlk (v20.setRow gh #[.int .u32 x1, .int .u16 x2, .int .u8 x3, .int .u8 x4, .int .u32 x5, .int .u32 x6, .int .u32 x7, .slice none 0 0]) gs g) := Lib.hid (Blk.setRow_far HS.out (blk_ne HS.out HH.out (by decide)) _)
              replace HH := Lib.hid (HH.out.setRow #[.int .u32 x1, .int .u16 x2, .int .u8 x3, .int .u8 x4, .int .u32 x5, .int .u32 x6, .int .u32 x7, .slice none 0 0])
              generalize v20.setRow gh #[.int .u32 x1, .int .u16 x2, .int .u8 x3, .int .u8 x4, .int .u32 x5, .int .u32 x6, .int .u32 x7, .slice none 0 0] = v21 at *
              refine hK.out _ _ HS.out ?_
              clear hK K
              refine wpT_nil ?_
              go_simp
              refine ⟨rfl, gh, x1, x2, x3, x4, x5, x6, x7, r7, ?_⟩
              exact ⟨_, _, _, _, _, _, _, _, _, _, _, _, _, _, _, _, _, _, _, _, _, _, _, _, _, rfl, HF, HK, HS, HH, HGh, Lib.hid (hl_nums (HS0.out ▸ HN1.out) HN2.out HN3.out HN4.out HN5.out HN6.out HN7.out)⟩
          · go_wp2_with fail
            have hb2 : Below v3.heap.size v3 (v3.alloc (.cells #[.int .u32 0, .int .u16 0, .int .u8 0, .int .u8 0, .int .u32 0, .int .u32 0, .int .u32 0, .slice none 0 0] 26)) := (Below.refl _ _).alloc (Nat.le_refl _) _
            have HGh : Hid (w.heap.size ≤ v3.heap.size) := Lib.hid HK.out.size
            have HH := Lib.hid (Blk.new v3 26 #[.int .u32 0, .int .u16 0, .int .u8 0, .int .u8 0, .int .u32 0, .int .u32 0, .int .u32 0, .slice none 0 0])
            replace HF := Lib.hid (HF.out.later hb2)
            replace HK := Lib.hid (HK.out.trans (Kept.of_new hb2 (fun i => i = g ∨ i = gp)) (fun _ _ e => e))
            replace HS : Hid (SiBlk (v3.alloc (.cells #[.int .u32 0, .int .u16 0, .int .u8 0, .int .u8 0, .int .u32 0, .int .u32 0, .int .u32 0, .slice none 0 0] 26)) gs g) := Lib.hid (Blk.later HS.out hb2)
            clear hb2
            generalize v3.heap.size = gh at *
            generalize v3.alloc (.cells #[.int .u32 0, .int .u16 0, .int .u8 0, .int .u8 0, .int .u32 0, .int .u32 0, .int .u32 0, .slice none 0 0] 26) = v22 at *
            refine hK.out _ _ HS.out ?_
            clear hK K
            go_simp
            refine wpT_do fun K hK => ?_
            go_wp2_with fail
            refine (rr_numx w0 v22 g q _ HF.out.r 1 (by decide) (by decide)).mono ?_
            rintro e v23 ⟨x4, r4, rfl, hN, hr, hk⟩
            have HN4 := Lib.hid hN
            have hx4 : 0 ≤ x4 ∧ x4 < 256 := ⟨hN.lo, by have := hN.hi; omega⟩
            replace HF := Lib.hid (HF.out.step hk hr)
            replace HK := Lib.hid (HK.out.trans (hk.mono (T := fun i => i = g ∨ i = gp) fun i _ e => .inl e) (fun _ _ e => e))
            replace HS : Hid (SiBlk v23 gs g) := Lib.hid (SiBlk.keep HS.out hk HGs.out)
            replace HH := Lib.hid (HH.out.kept hk (fun e => by have := HGh.out; have := HGl.out; omega))
            clear hN hr hk
            have wx4 : IntKind.u8.wrap x4 = x4 := by simp [IntKind.wrap, IntKind.bits, IntKind.signed]; omega
            go_wp2_with fail
            refine hK.out _ _ HS.out ?_
            clear hK K
            refine wpT_take HS (by rfl) (by intro W hW; clear hW; go_simp; try with_reducible rfl) ?_
            go_simp
            refine wpT_do fun K hK => ?_
            go_wp2_with fail
            refine (rr_numx w0 v23 g q _ HF.out.r 4 (by decide) (by decide)).mono ?_
            rintro e v24 ⟨x5, r5, rfl, hN, hr, hk⟩
            have HN5 := Lib.hid hN
            have hx5 : 0 ≤ x5 ∧ x5 < 4294967296 := ⟨hN.lo, by have := hN.hi; omega⟩
            replace HF := Lib.hid (HF.out.step hk hr)
            replace HK := Lib.hid (HK.out.trans (hk.mono (T := fun i => i = g ∨ i = gp) fun i _ e => .inl e) (fun _ _ e => e))
            replace HS : Hid (SiBlk v24 gs g) := Lib.hid (SiBlk.keep HS.out hk HGs.out)
            replace HH := Lib.hid (HH.out.kept hk (fun e => by have := HGh.out; have := HGl.out; omega))
            clear hN hr hk
            go_wp2_with fail
            refine hK.out _ _ HS.out ?_
            clear hK K
            go_simp
            refine wpT_do fun K hK => ?_
            go_wp2_with fail
            refine (rr_numx w0 v24 g q _ HF.out.r 4 (by decide) (by decide)).mono ?_
            rintro e v25 ⟨x6, r6, rfl, hN, hr, hk⟩
            have HN6 := Lib.hid hN
            have hx6 : 0 ≤ x6 ∧ x6 < 4294967296 := ⟨hN.lo, by have := hN.hi; omega⟩
            replace HF := Lib.hid (HF.out.step hk hr)
            replace HK := Lib.hid (HK.out.trans (hk.mono (T := fun i => i = g ∨ i = gp) fun i _ e => .inl e) (fun _ _ e => e))
            replace HS : Hid (SiBlk v25 gs g) := Lib.hid (SiBlk.keep HS.out hk HGs.out)
            replace HH := Lib.hid (HH.out.kept hk (fun e => by have := HGh.out; have := HGl.out; omega))
            clear hN hr hk
            go_wp2_with fail
            refine hK.out _ _ HS.out ?_
            clear hK K
            go_simp
            refine wpT_do fun K hK => ?_
            go_wp2_with fail
            refine (rr_numx w0 v25 g q _ HF.out.r 4 (by decide) (by decide)).mono ?_
            rintro e v26 ⟨x7, r7, rfl, hN, hr, hk⟩
            have HN7 := Lib.hid hN
            have hx7 : 0 ≤ x7 ∧ x7 < 4294967296 := ⟨hN.lo, by have := hN.hi; omega⟩
            replace HF := Lib.hid (HF.out.step hk hr)
            replace HK := Lib.hid (HK.out.trans (hk.mono (T := fun i => i = g ∨ i = gp) fun i _ e => .inl e) (fun _ _ e => e))
            replace HS : Hid (SiBlk v26 gs g) := Lib.hid (SiBlk.keep HS.out hk HGs.out)
            replace HH := Lib.hid (HH.out.kept hk (fun e => by have := HGh.out; have := HGl.out; omega))
            clear hN hr hk
            go_wp2_with fail
            refine hK.out _ _ HS.out ?_
            clear hK K
            refine wpT_take HS (by rfl) (by intro W hW; clear hW; go_simp; try with_reducible rfl) ?_
            go_simp
            refine wpT_do fun K hK => ?_
            go_wp2_with (refine wpList_store_row rfl 26 _ _ rfl gh #[.int .u32 x1, .int .u16 x2, .int .u8 x3, .int .u8 x4, .int .u32 x5, .int .u32 x6, .int .u32 x7, .slice none 0 0] rfl rfl 26 _ HH.out info_hello rfl (by simp [Value.oneCell']) ?_)
            replace HF := Lib.hid (⟨HF.out.r.kept ((Kept.of_grown (only_setRow v26 gh #[.int .u32 x1, .int .u16 x2, .int .u8 x3, .int .u8 x4, .int .u32 x5, .int .u32 x6, .int .u32 x7, .slice none 0 0])).mono (T := fun i => i = gh) fun i _ e => by simpa using e.symm) (fun e => by have := HGh.out; have := HGl.out; omega) (fun hn ad e e' => by have := HAq.out hn ad e; have := HGh.out; omega) (fun i e => by have := HA.out.1; have := HGh.out; omega), HF.out.k.setRow_far (blk_ne HF.out.k HH.out (by decide)) _, HF.out.ne, HF.out.base, HF.out.qa⟩ : PkF w0 (v26.setRow gh #[.int .u32 x1, .int .u16 x2, .int .u8 x3, .int .u8 x4, .int .u32 x5, .int .u32 x6, .int .u32 x7, .slice none 0 0]) g gp q _ _)
            have hkx : ∀ i, some gh = some i → w.heap.size ≤ i := fun i e => by injection e with e; rw [← e]; exact HGh.out
            replace HK := Lib.hid (HK.out.trans ((Kept.of_grown (only_setRow v26 gh #[.int .u32 x1, .int .u16 x2, .int .u8 x3, .int .u8 x4, .int .u32 x5, .int .u32 x6, .int .u32 x7, .slice none 0 0])).mono (T := fun i => w.heap.size ≤ i) fun i _ e => hkx i e) (fun i hi e => absurd hi (by omega)))
            replace HS : Hid (SiBlk (v26.setRow gh #[.int .u32 x1, .int .u16 x2, .int .u8 x3, .int .u8 x4, .int .u32 x5, .int .u32 x6, .int .u32 x7, .slice none 0 0]) gs g) := Lib.hid (Blk.setRow_far HS.out (blk_ne HS.out HH.out (by decide)) _)
            replace HH := Lib.hid (HH.out.setRow #[.int .u32 x1, .int .u16 x2, .int .u8 x3, .int .u8 x4, .int .u32 x5, .int .u32 x6, .int .u32 x7, .slice none 0 0])
            generalize v26.setRow gh #[.int .u32 x1, .int .u16 x2, .int .u8 x3, .int .u8 x4, .int .u32 x5, .int .u32 x6, .int .u32 x7, .slice none 0 0] = v27 at *
            refine hK.out _ _ HS.out ?_
            clear hK K
            refine wpT_nil ?_
            go_simp
            refine ⟨rfl, gh, x1, x2, x3, x4, x5, x6, x7, r7, ?_⟩
            exact ⟨_, _, _, _, _, _, _, _, _, _, _, _, _, _, _, _, _, _, _, _, _, _, _, _, _, rfl, HF, HK, HS, HH, HGh, Lib.hid (hl_nums (HS0.out ▸ HN1.out) HN2.out HN3.out HN4.out HN5.out HN6.out HN7.out)⟩
        · go_wp2_with fail
          have hb2 : Below v2.heap.size v2 (v2.alloc (.cells #[.int .u32 0, .int .u16 0, .int .u8 0, .int .u8 0, .int .u32 0, .int .u32 0, .int .u32 0, .slice none 0 0] 26)) := (Below.refl _ _).alloc (Nat.le_refl _) _
          have HGh : Hid (w.heap.size ≤ v2.heap.size) := Lib.hid HK.out.size
          have HH := Lib.hid (Blk.new v2 26 #[.int .u32 0, .int .u16 0, .int .u8 0, .int .u8 0, .int .u32 0, .int .u32 0, .int .u32 0, .slice none 0 0])
          replace HF := Lib.hid (HF.out.later hb2)
          replace HK := Lib.hid (HK.out.trans (Kept.of_new hb2 (fun i => i = g ∨ i = gp)) (fun _ _ e => e))
          replace HS : Hid (SiBlk (v2.alloc (.cells #[.int .u32 0, .int .u16 0, .int .u8 0, .int .u8 0, .int .u32 0, .int .u32 0, .int .u32 0, .slice none 0 0] 26)) gs g) := Lib.hid (Blk.later HS.out hb2)
          clear hb2
          generalize v2.heap.size = gh at *
          generalize v2.alloc (.cells #[.int .u32 0, .int .u16 0, .int .u8 0, .int .u8 0, .int .u32 0, .int .u32 0, .int .u32 0, .slice none 0 0] 26) = v28 at *
          refine hK.out _ _ HS.out ?_
          clear hK K
          go_simp
          refine wpT_do fun K hK => ?_
          go_wp2_with fail
          refine (rr_numx w0 v28 g q _ HF.out.r 1 (by decide) (by decide)).mono ?_
          rintro e v29 ⟨x3, r3, rfl, hN, hr, hk⟩
          have HN3 := Lib.hid hN
          have hx3 : 0 ≤ x3 ∧ x3 < 256 := ⟨hN.lo, by have := hN.hi; omega⟩
          replace HF := Lib.hid (HF.out.step hk hr)
          replace HK := Lib.hid (HK.out.trans (hk.mono (T := fun i => i = g ∨ i = gp) fun i _ e => .inl e) (fun _ _ e => e))
          replace HS : Hid (SiBlk v29 gs g) := Lib.hid (SiBlk.keep HS.out hk HGs.out)
          replace HH := Lib.hid (HH.out.kept hk (fun e => by have := HGh.out; have := HGl.out; omega))
          clear hN hr hk
          have wx3 : IntKind.u8.wrap x3 = x3 := by simp [IntKind.wrap, IntKind.bits, IntKind.signed]; omega
          go_wp2_with fail
          refine hK.out _ _ HS.out ?_
          clear hK K
          refine wpT_take HS (by rfl) (by intro W hW; clear hW; go_simp; try with_reducible rfl) ?_
          go_simp
          refine wpT_do fun K hK => ?_
          go_wp2_with fail
          refine (rr_numx w0 v29 g q _ HF.out.r 1 (by decide) (by decide)).mono ?_
          rintro e v30 ⟨x4, r4, rfl, hN, hr, hk⟩
          have HN4 := Lib.hid hN
          have hx4 : 0 ≤ x4 ∧ x4 < 256 := ⟨hN.lo, by have := hN.hi; omega⟩
          replace HF := Lib.hid (HF.out.step hk hr)
          replace HK := Lib.hid (HK.out.trans (hk.mono (T := fun i => i = g ∨ i = gp) fun i _ e => .inl e) (fun _ _ e => e))
          replace HS : Hid (SiBlk v30 gs g) := Lib.hid (SiBlk.keep HS.out hk HGs.out)
          replace HH := Lib.hid (HH.out.kept hk (fun e => by have := HGh.out; have := HGl.out; omega))
          clear hN hr hk
          have wx4 : IntKind.u8.wrap x4 = x4 := by simp [IntKind.wrap, IntKind.bits, IntKind.signed]; omega
          go_wp2_with fail
          refine hK.out _ _ HS.out ?_
          clear hK K
          refine wpT_take HS (by rfl) (by intro W hW; clear hW; go_simp; try with_reducible rfl) ?_
          go_simp
          refine wpT_do fun K hK => ?_
          go_wp2_with fail
          refine (rr_numx w0 v30 g q _ HF.out.r 4 (by decide) (by decide)).mono ?_
          rintro e v31 ⟨x5, r5, rfl, hN, hr, hk⟩
          have HN5 := Lib.hid hN
          have hx5 : 0 ≤ x5 ∧ x5 < 4294967296 := ⟨hN.lo, by have := hN.hi; omega⟩
          replace HF := Lib.hid (HF.out.step hk hr)
          replace HK := Lib.hid (HK.out.trans (hk.mono (T := fun i => i = g ∨ i = gp) fun i _ e => .inl e) (fun _ _ e => e))
          replace HS : Hid (SiBlk v31 gs g) := Lib.hid (SiBlk.keep HS.out hk HGs.out)
          replace HH := Lib.hid (HH.out.kept hk (fun e => by have := HGh.out; have := HGl.out; omega))
          clear hN hr hk
          go_wp2_with fail
          refine hK.out _ _ HS.out ?_
          clear hK K
          go_simp
          refine wpT_do fun K hK => ?_
          go_wp2_with fail
          refine (rr_numx w0 v31 g q _ HF.out.r 4 (by decide) (by decide)).mono ?_
          rintro e v32 ⟨x6, r6, rfl, hN, hr, hk⟩
          have HN6 := Lib.hid hN
          have hx6 : 0 ≤ x6 ∧ x6 < 4294967296 := ⟨hN.lo, by have := hN.hi; omega⟩
          replace HF := Lib.hid (HF.out.step hk hr)
          replace HK := Lib.hid (HK.out.trans (hk.mono (T := fun i => i = g ∨ i = gp) fun i _ e => .inl e) (fun _ _ e => e))
          replace HS : Hid (SiBlk v32 gs g) := Lib.hid (SiBlk.keep HS.out hk HGs.out)
          replace HH := Lib.hid (HH.out.kept hk (fun e => by have := HGh.out; have := HGl.out; omega))
          clear hN hr hk
          go_wp2_with fail
          refine hK.out _ _ HS.out ?_
          clear hK K
          go_simp
          refine wpT_do fun K hK => ?_
          go_wp2_with fail
          refine (rr_numx w0 v32 g q _ HF.out.r 4 (by decide) (by decide)).mono ?_
          rintro e v33 ⟨x7, r7, rfl, hN, hr, hk⟩
          have HN7 := Lib.hid hN
          have hx7 : 0 ≤ x7 ∧ x7 < 4294967296 := ⟨hN.lo, by have := hN.hi; omega⟩
          replace HF := Lib.hid (HF.out.step hk hr)
          replace HK := Lib.hid (HK.out.trans (hk.mono (T := fun i => i = g ∨ i = gp) fun i _ e => .inl e) (fun _ _ e => e))
          replace HS : Hid (SiBlk v33 gs g) := Lib.hid (SiBlk.keep HS.out hk HGs.out)
          replace HH := Lib.hid (HH.out.kept hk (fun e => by have := HGh.out; have := HGl.out; omega))
          clear hN hr hk
          go_wp2_with fail
          refine hK.out _ _ HS.out ?_
          clear hK K
          refine wpT_take HS (by rfl) (by intro W hW; clear hW; go_simp; try with_reducible rfl) ?_
          go_simp
          refine wpT_do fun K hK => ?_
          go_wp2_with (refine wpList_store_row rfl 26 _ _ rfl gh #[.int .u32 x1, .int .u16 x2, .int .u8 x3, .int .u8 x4, .int .u32 x5, .int .u32 x6, .int .u32 x7, .slice none 0 0] rfl rfl 26 _ HH.out info_hello rfl (by simp [Value.oneCell']) ?_)
          replace HF := Lib.hid (⟨HF.out.r.kept ((Kept.of_grown (only_setRow v33 gh #[.int .u32 x1, .int .u16 x2, .int .u8 x3, .int .u8 x4, .int .u32 x5, .int .u32 x6, .int .u32 x7, .slice none 0 0])).mono (T := fun i => i = gh) fun i _ e => by simpa using e.symm) (fun e => by have := HGh.out; have := HGl.out; omega) (fun hn ad e e' => by have := HAq.out hn ad e; have := HGh.out; omega) (fun i e => by have := HA.out.1; have := HGh.out; omega), HF.out.k.setRow_far (blk_ne HF.out.k HH.out (by decide)) _, HF.out.ne, HF.out.base, HF.out.qa⟩ : PkF w0 (v33.setRow gh #[.int .u32 x1, .int .u16 x2, .int .u8 x3, .int .u8 x4, .int .u32 x5, .int .u32 x6, .int .u32 x7, .slice none 0 0]) g gp q _ _)
          have hkx : ∀ i, some gh = some i → w.heap.size ≤ i := fun i e => by injection e with e; rw [← e]; exact HGh.out
          replace HK := Lib.hid (HK.out.trans ((Kept.of_grown (only_setRow v33 gh #[.int .u32 x1, .int .u16 x2, .int .u8 x3, .int .u8 x4, .int .u32 x5, .int .u32 x6, .int .u32 x7, .slice none 0 0])).mono (T := fun i => w.heap.size ≤ i) fun i _ e => hkx i e) (fun i hi e => absurd hi (by omega)))
          replace HS : Hid (SiBlk (v33.setRow gh #[.int .u32 x1, .int .u16 x2, .int .u8 x3, .int .u8 x4, .int .u32 x5, .int .u32 x6, .int .u32 x7, .slice none 0 0]) gs g) := Lib.hid (Blk.setRow_far HS.out (blk_ne HS.out HH.out (by decide)) _)
          replace HH := Lib.hid (HH.out.setRow #[.int .u32 x1, .int .u16 x2, .int .u8 x3, .int .u8 x4, .int .u32 x5, .int .u32 x6, .int .u32 x7, .slice none 0 0])
          generalize v33.setRow gh #[.int .u32 x1, .int .u16 x2, .int .u8 x3, .int .u8 x4, .int .u32 x5, .int .u32 x6, .int .u32 x7, .slice none 0 0] = v34 at *
          refine hK.out _ _ HS.out ?_
          clear hK K
          refine wpT_nil ?_
          go_simp
          refine ⟨rfl, gh, x1, x2, x3, x4, x5, x6, x7, r7, ?_⟩
          exact ⟨_, _, _, _, _, _, _, _, _, _, _, _, _, _, _, _, _, _, _, _, _, _, _, _, _, rfl, HF, HK, HS, HH, HGh, Lib.hid (hl_nums (HS0.out ▸ HN1.out) HN2.out HN3.out HN4.out HN5.out HN6.out HN7.out)⟩
      · go_wp2_with fail
        have hb2 : Below v1.heap.size v1 (v1.alloc (.cells #[.int .u32 0, .int .u16 0, .int .u8 0, .int .u8 0, .int .u32 0, .int .u32 0, .int .u32 0, .slice none 0 0] 26)) := (Below.refl _ _).alloc (Nat.le_refl _) _
        have HGh : Hid (w.heap.size ≤ v1.heap.size) := Lib.hid HK.out.size
        have HH := Lib.hid (Blk.new v1 26 #[.int .u32 0, .int .u16 0, .int .u8 0, .int .u8 0, .int .u32 0, .int .u32 0, .int .u32 0, .slice none 0 0])
        replace HF := Lib.hid (HF.out.later hb2)
        replace HK := Lib.hid (HK.out.trans (Kept.of_new hb2 (fun i => i = g ∨ i = gp)) (fun _ _ e => e))
        replace HS : Hid (SiBlk (v1.alloc (.cells #[.int .u32 0, .int .u16 0, .int .u8 0, .int .u8 0, .int .u32 0, .int .u32 0, .int .u32 0, .slice none 0 0] 26)) gs g) := Lib.hid (Blk.later HS.out hb2)
        clear hb2
        generalize v1.heap.size = gh at *
        generalize v1.alloc (.cells #[.int .u32 0, .int .u16 0, .int .u8 0, .int .u8 0, .int .u32 0, .int .u32 0, .int .u32 0, .slice none 0 0] 26) = v35 at *
        refine hK.out _ _ HS.out ?_
        clear hK K
        go_simp
        refine wpT_do fun K hK => ?_
        go_wp2_with fail
        refine (rr_numx w0 v35 g q _ HF.out.r 2 (by decide) (by decide)).mono ?_
        rintro e v36 ⟨x2, r2, rfl, hN, hr, hk⟩
        have HN2 := Lib.hid hN
        have hx2 : 0 ≤ x2 ∧ x2 < 65536 := ⟨hN.lo, by have := hN.hi; omega⟩
        replace HF := Lib.hid (HF.out.step hk hr)
        replace HK := Lib.hid (HK.out.trans (hk.mono (T := fun i => i = g ∨ i = gp) fun i _ e => .inl e) (fun _ _ e => e))
        replace HS : Hid (SiBlk v36 gs g) := Lib.hid (SiBlk.keep HS.out hk HGs.out)
        replace HH := Lib.hid (HH.out.kept hk (fun e => by have := HGh.out; have := HGl.out; omega))
        clear hN hr hk
        have wx2 : IntKind.u16.wrap x2 = x2 := by simp [IntKind.wrap, IntKind.bits, IntKind.signed]; omega
        go_wp2_with fail
        refine hK.out _ _ HS.out ?_
        clear hK K
        refine wpT_take HS (by rfl) (by intro W hW; clear hW; go_simp; try with_reducible rfl) ?_
        go_simp
        refine wpT_do fun K hK => ?_
        go_wp2_with fail
        refine (rr_numx w0 v36 g q _ HF.out.r 1 (by decide) (by decide)).mono ?_
        rintro e v37 ⟨x3, r3, rfl, hN, hr, hk⟩
        have HN3 := Lib.hid hN
        have hx3 : 0 ≤ x3 ∧ x3 < 256 := ⟨hN.lo, by have := hN.hi; omega⟩
        replace HF := Lib.hid (HF.out.step hk hr)
        replace HK := Lib.hid (HK.out.trans (hk.mono (T := fun i => i = g ∨ i = gp) fun i _ e => .inl e) (fun _ _ e => e))
        replace HS : Hid (SiBlk v37 gs g) := Lib.hid (SiBlk.keep HS.out hk HGs.out)
        replace HH := Lib.hid (HH.out.kept hk (fun e => by have := HGh.out; have := HGl.out; omega))
        clear hN hr hk
        have wx3 : IntKind.u8.wrap x3 = x3 := by simp [IntKind.wrap, IntKind.bits, IntKind.signed]; omega
        go_wp2_with fail
        refine hK.out _ _ HS.out ?_
        clear hK K
        refine wpT_take HS (by rfl) (by intro W hW; clear hW; go_simp; try with_reducible rfl) ?_
        go_simp
        refine wpT_do fun K hK => ?_
        go_wp2_with fail
        refine (rr_numx w0 v37 g q _ HF.out.r 1 (by decide) (by decide)).mono ?_
        rintro e v38 ⟨x4, r4, rfl, hN, hr, hk⟩
        have HN4 := Lib.hid hN
        have hx4 : 0 ≤ x4 ∧ x4 < 256 := ⟨hN.lo, by have := hN.hi; omega⟩
        replace HF := Lib.hid (HF.out.step hk hr)
        replace HK := Lib.hid (HK.out.trans (hk.mono (T := fun i => i = g ∨ i = gp) fun i _ e => .inl e) (fun _ _ e => e))
        replace HS : Hid (SiBlk v38 gs g) := Lib.hid (SiBlk.keep HS.out hk HGs.out)
        replace HH := Lib.hid (HH.out.kept hk (fun e => by have := HGh.out; have := HGl.out; omega))
        clear hN hr hk
        have wx4 : IntKind.u8.wrap x4 = x4 := by simp [IntKind.wrap, IntKind.bits, IntKind.signed]; omega
        go_wp2_with fail
        refine hK.out _ _ HS.out ?_
        clear hK K
        refine wpT_take HS (by rfl) (by intro W hW; clear hW; go_simp; try with_reducible rfl) ?_
        go_simp
        refine wpT_do fun K hK => ?_
        go_wp2_with fail
        refine (rr_numx w0 v38 g q _ HF.out.r 4 (by decide) (by decide)).mono ?_
        rintro e v39 ⟨x5, r5, rfl, hN, hr, hk⟩
        have HN5 := Lib.hid hN
        have hx5 : 0 ≤ x5 ∧ x5 < 4294967296 := ⟨hN.lo, by have := hN.hi; omega⟩
        replace HF := Lib.hid (HF.out.step hk hr)
        replace HK := Lib.hid (HK.out.trans (hk.mono (T := fun i => i = g ∨ i = gp) fun i _ e => .inl e) (fun _ _ e => e))
        replace HS : Hid (SiBlk v39 gs g) := Lib.hid (SiBlk.keep HS.out hk HGs.out)
        replace HH := Lib.hid (HH.out.kept hk (fun e => by have := HGh.out; have := HGl.out; omega))
        clear hN hr hk
        go_wp2_with fail
        refine hK.out _ _ HS.out ?_
        clear hK K
        go_simp
        refine wpT_do fun K hK => ?_
        go_wp2_with fail
        refine (rr_numx w0 v39 g q _ HF.out.r 4 (by decide) (by decide)).mono ?_
        rintro e v40 ⟨x6, r6, rfl, hN, hr, hk⟩
        have HN6 := Lib.hid hN
        have hx6 : 0 ≤ x6 ∧ x6 < 4294967296 := ⟨hN.lo, by have := hN.hi; omega⟩
        replace HF := Lib.hid (HF.out.step hk hr)
        replace HK := Lib.hid (HK.out.trans (hk.mono (T := fun i => i = g ∨ i = gp) fun i _ e => .inl e) (fun _ _ e => e))
        replace HS : Hid (SiBlk v40 gs g) := Lib.hid (SiBlk.keep HS.out hk HGs.out)
        replace HH := Lib.hid (HH.out.kept hk (fun e => by have := HGh.out; have := HGl.out; omega))
        clear hN hr hk
        go_wp2_with fail
        refine hK.out _ _ HS.out ?_
        clear hK K
        go_simp
        refine wpT_do fun K hK => ?_
        go_wp2_with fail
        refine (rr_numx w0 v40 g q _ HF.out.r 4 (by decide) (by decide)).mono ?_
        rintro e v41 ⟨x7, r7, rfl, hN, hr, hk⟩
        have HN7 := Lib.hid hN
        have hx7 : 0 ≤ x7 ∧ x7 < 4294967296 := ⟨hN.lo, by have := hN.hi; omega⟩
        replace HF := Lib.hid (HF.out.step hk hr)
        replace HK := Lib.hid (HK.out.trans (hk.mono (T := fun i => i = g ∨ i = gp) fun i _ e => .inl e) (fun _ _ e => e))
        replace HS : Hid (SiBlk v41 gs g) := Lib.hid (SiBlk.keep HS.out hk HGs.out)
        replace HH := Lib.hid (HH.out.kept hk (fun e => by have := HGh.out; have := HGl.out; omega))
        clear hN hr hk
        go_wp2_with fail
        refine hK.out _ _ HS.out ?_
        clear hK K
        refine wpT_take HS (by rfl) (by intro W hW; clear hW; go_simp; try with_reducible rfl) ?_
        go_simp
        refine wpT_do fun K hK => ?_
        go_wp2_with (refine wpList_store_row rfl 26 _ _ rfl gh #[.int .u32 x1, .int .u16 x2, .int .u8 x3, .int .u8 x4, .int .u32 x5, .int .u32 x6, .int .u32 x7, .slice none 0 0] rfl rfl 26 _ HH.out info_hello rfl (by simp [Value.oneCell']) ?_)
        replace HF := Lib.hid (⟨HF.out.r.kept ((Kept.of_grown (only_setRow v41 gh #[.int .u32 x1, .int .u16 x2, .int .u8 x3, .int .u8 x4, .int .u32 x5, .int .u32 x6, .int .u32 x7, .slice none 0 0])).mono (T := fun i => i = gh) fun i _ e => by simpa using e.symm) (fun e => by have := HGh.out; have := HGl.out; omega) (fun hn ad e e' => by have := HAq.out hn ad e; have := HGh.out; omega) (fun i e => by have := HA.out.1; have := HGh.out; omega), HF.out.k.setRow_far (blk_ne HF.out.k HH.out (by decide)) _, HF.out.ne, HF.out.base, HF.out.qa⟩ : PkF w0 (v41.setRow gh #[.int .u32 x1, .int .u16 x2, .int .u8 x3, .int .u8 x4, .int .u32 x5, .int .u32 x6, .int .u32 x7, .slice none 0 0]) g gp q _ _)
        have hkx : ∀ i, some gh = some i → w.heap.size ≤ i := fun i e => by injection e with e; rw [← e]; exact HGh.out
        replace HK := Lib.hid (HK.out.trans ((Kept.of_grown (only_setRow v41 gh #[.int .u32 x1, .int .u16 x2, .int .u8 x3, .int .u8 x4, .int .u32 x5, .int .u32 x6, .int .u32 x7, .slice none 0 0])).mono (T := fun i => w.heap.size ≤ i) fun i _ e => hkx i e) (fun i hi e => absurd hi (by omega)))
        replace HS : Hid (SiBlk (v41.setRow gh #[.int .u32 x1, .int .u16 x2, .int .u8 x3, .int .u8 x4, .int .u32 x5, .int .u32 x6, .int .u32 x7, .slice none 0 0]) gs g) := Lib.hid (Blk.setRow_far HS.out (blk_ne HS.out HH.out (by decide)) _)
        replace HH := Lib.hid (HH.out.setRow #[.int .u32 x1, .int .u16 x2, .int .u8 x3, .int .u8 x4, .int .u32 x5, .int .u32 x6, .int .u32 x7, .slice none 0 0])
        generalize v41.setRow gh #[.int .u32 x1, .int .u16 x2, .int .u8 x3, .int .u8 x4, .int .u32 x5, .int .u32 x6, .int .u32 x7, .slice none 0 0] = v42 at *
        refine hK.out _ _ HS.out ?_
        clear hK K
        refine wpT_nil ?_
        go_simp
        refine ⟨rfl, gh, x1, x2, x3, x4, x5, x6, x7, r7, ?_⟩
        exact ⟨_, _, _, _, _, _, _, _, _, _, _, _, _, _, _, _, _, _, _, _, _, _, _, _, _, rfl, HF, HK, HS, HH, HGh, Lib.hid (hl_nums (HS0.out ▸ HN1.out) HN2.out HN3.out HN4.out HN5.out HN6.out HN7.out)⟩
    · go_wp2_with fail
      have hb2 : Below v0.heap.size v0 (v0.alloc (.cells #[.int .u32 0, .int .u16 0, .int .u8 0, .int .u8 0, .int .u32 0, .int .u32 0, .int .u32 0, .slice none 0 0] 26)) := (Below.refl _ _).alloc (Nat.le_refl _) _
      have HGh : Hid (w.heap.size ≤ v0.heap.size) := Lib.hid HK.out.size
      have HH := Lib.hid (Blk.new v0 26 #[.int .u32 0, .int .u16 0, .int .u8 0, .int .u8 0, .int .u32 0, .int .u32 0, .int .u32 0, .slice none 0 0])
      replace HF := Lib.hid (HF.out.later hb2)
      replace HK := Lib.hid (HK.out.trans (Kept.of_new hb2 (fun i => i = g ∨ i = gp)) (fun _ _ e => e))
      replace HS : Hid (SiBlk (v0.alloc (.cells #[.int .u32 0, .int .u16 0, .int .u8 0, .int .u8 0, .int .u32 0, .int .u32 0, .int .u32 0, .slice none 0 0] 26)) gs g) := Lib.hid (Blk.later HS.out hb2)
      clear hb2
      generalize v0.heap.size = gh at *
      generalize v0.alloc (.cells #[.int .u32 0, .int .u16 0, .int .u8 0, .int .u8 0, .int .u32 0, .int .u32 0, .int .u32 0, .slice none 0 0] 26) = v43 at *
      refine hK.out _ _ HS.out ?_
      clear hK K
      go_simp
      refine wpT_do fun K hK => ?_
      go_wp2_with fail
      refine (rr_numx w0 v43 g q _ HF.out.r 4 (by decide) (by decide)).mono ?_
      rintro e v44 ⟨x1, r1, rfl, hN, hr, hk⟩
      have HN1 := Lib.hid hN
      have hx1 : 0 ≤ x1 ∧ x1 < 4294967296 := ⟨hN.lo, by have := hN.hi; omega⟩
      replace HF := Lib.hid (HF.out.step hk hr)
      replace HK := Lib.hid (HK.out.trans (hk.mono (T := fun i => i = g ∨ i = gp) fun i _ e => .inl e) (fun _ _ e => e))
      replace HS : Hid (SiBlk v44 gs g) := Lib.hid (SiBlk.keep HS.out hk HGs.out)
      replace HH := Lib.hid (HH.out.kept hk (fun e => by have := HGh.out; have := HGl.out; omega))
      clear hN hr hk
      go_wp2_with fail
      refine hK.out _ _ HS.out ?_
      clear hK K
      go_simp
      refine wpT_do fun K hK => ?_
      go_wp2_with fail
      refine (rr_numx w0 v44 g q _ HF.out.r 2 (by decide) (by decide)).mono ?_
      rintro e v45 ⟨x2, r2, rfl, hN, hr, hk⟩
      have HN2 := Lib.hid hN
      have hx2 : 0 ≤ x2 ∧ x2 < 65536 := ⟨hN.lo, by have := hN.hi; omega⟩
      replace HF := Lib.hid (HF.out.step hk hr)
      replace HK := Lib.hid (HK.out.trans (hk.mono (T := fun i => i = g ∨ i = gp) fun i _ e => .inl e) (fun _ _ e => e))
      replace HS : Hid (SiBlk v45 gs g) := Lib.hid (SiBlk.keep HS.out hk HGs.out)
      replace HH := Lib.hid (HH.out.kept hk (fun e => by have := HGh.out; have := HGl.out; omega))
      clear hN hr hk
      have wx2 : IntKind.u16.wrap x2 = x2 := by simp [IntKind.wrap, IntKind.bits, IntKind.signed]; omega
      go_wp2_with fail
      refine hK.out _ _ HS.out ?_
      clear hK K
      refine wpT_take HS (by rfl) (by intro W hW; clear hW; go_simp; try with_reducible rfl) ?_
      go_simp
      refine wpT_do fun K hK => ?_
      go_wp2_with fail
      refine (rr_numx w0 v45 g q _ HF.out.r 1 (by decide) (by decide)).mono ?_
      rintro e v46 ⟨x3, r3, rfl, hN, hr, hk⟩
      have HN3 := Lib.hid hN
      have hx3 : 0 ≤ x3 ∧ x3 < 256 := ⟨hN.lo, by have := hN.hi; omega⟩
      replace HF := Lib.hid (HF.out.step hk hr)
      replace HK := Lib.hid (HK.out.trans (hk.mono (T := fun i => i = g ∨ i = gp) fun i _ e => .inl e) (fun _ _ e => e))
      replace HS : Hid (SiBlk v46 gs g) := Lib.hid (SiBlk.keep HS.out hk HGs.out)
      replace HH := Lib.hid (HH.out.kept hk (fun e => by have := HGh.out; have := HGl.out; omega))
      clear hN hr hk
      have wx3 : IntKind.u8.wrap x3 = x3 := by simp [IntKind.wrap, IntKind.bits, IntKind.signed]; omega
      go_wp2_with fail
      refine hK.out _ _ HS.out ?_
      clear hK K
      refine wpT_take HS (by rfl) (by intro W hW; clear hW; go_simp; try with_reducible rfl) ?_
      go_simp
      refine wpT_do fun K hK => ?_
      go_wp2_with fail
      refine (rr_numx w0 v46 g q _ HF.out.r 1 (by decide) (by decide)).mono ?_
      rintro e v47 ⟨x4, r4, rfl, hN, hr, hk⟩
      have HN4 := Lib.hid hN
      have hx4 : 0 ≤ x4 ∧ x4 < 256 := ⟨hN.lo, by have := hN.hi; omega⟩
      replace HF := Lib.hid (HF.out.step hk hr)
      replace HK := Lib.hid (HK.out.trans (hk.mono (T := fun i => i = g ∨ i = gp) fun i _ e => .inl e) (fun _ _ e => e))
      replace HS : Hid (SiBlk v47 gs g) := Lib.hid (SiBlk.keep HS.out hk HGs.out)
      replace HH := Lib.hid (HH.out.kept hk (fun e => by have := HGh.out; have := HGl.out; omega))
      clear hN hr hk
      have wx4 : IntKind.u8.wrap x4 = x4 := by simp [IntKind.wrap, IntKind.bits, IntKind.signed]; omega
      go_wp2_with fail
      refine hK.out _ _ HS.out ?_
      clear hK K
      refine wpT_take HS (by rfl) (by intro W hW; clear hW; go_simp; try with_reducible rfl) ?_
      go_simp
      refine wpT_do fun K hK => ?_
      go_wp2_with fail
      refine (rr_numx w0 v47 g q _ HF.out.r 4 (by decide) (by decide)).mono ?_
      rintro e v48 ⟨x5, r5, rfl, hN, hr, hk⟩
      have HN5 := Lib.hid hN
      have hx5 : 0 ≤ x5 ∧ x5 < 4294967296 := ⟨hN.lo, by have := hN.hi; omega⟩
      replace HF := Lib.hid (HF.out.step hk hr)
      replace HK := Lib.hid (HK.out.trans (hk.mono (T := fun i => i = g ∨ i = gp) fun i _ e => .inl e) (fun _ _ e => e))
      replace HS : Hid (SiBlk v48 gs g) := Lib.hid (SiBlk.keep HS.out hk HGs.out)
      replace HH := Lib.hid (HH.out.kept hk (fun e => by have := HGh.out; have := HGl.out; omega))
      clear hN hr hk
      go_wp2_with fail
      refine hK.out _ _ HS.out ?_
      clear hK K
      go_simp
      refine wpT_do fun K hK => ?_
      go_wp2_with fail
      refine (rr_numx w0 v48 g q _ HF.out.r 4 (by decide) (by decide)).mono ?_
      rintro e v49 ⟨x6, r6, rfl, hN, hr, hk⟩
      have HN6 := Lib.hid hN
      have hx6 : 0 ≤ x6 ∧ x6 < 4294967296 := ⟨hN.lo, by have := hN.hi; omega⟩
      replace HF := Lib.hid (HF.out.step hk hr)
      replace HK := Lib.hid (HK.out.trans (hk.mono (T := fun i => i = g ∨ i = gp) fun i _ e => .inl e) (fun _ _ e => e))
      replace HS : Hid (SiBlk v49 gs g) := Lib.hid (SiBlk.keep HS.out hk HGs.out)
      replace HH := Lib.hid (HH.out.kept hk (fun e => by have := HGh.out; have := HGl.out; omega))
      clear hN hr hk
      go_wp2_with fail
      refine hK.out _ _ HS.out ?_
      clear hK K
      go_simp
      refine wpT_do fun K hK => ?_
      go_wp2_with fail
      refine (rr_numx w0 v49 g q _ HF.out.r 4 (by decide) (by decide)).mono ?_
      rintro e v50 ⟨x7, r7, rfl, hN, hr, hk⟩
      have HN7 := Lib.hid hN
      have hx7 : 0 ≤ x7 ∧ x7 < 4294967296 := ⟨hN.lo, by have := hN.hi; omega⟩
      replace HF := Lib.hid (HF.out.step hk hr)
      replace HK := Lib.hid (HK.out.trans (hk.mono (T := fun i => i = g ∨ i = gp) fun i _ e => .inl e) (fun _ _ e => e))
      replace HS : Hid (SiBlk v50 gs g) := Lib.hid (SiBlk.keep HS.out hk HGs.out)
      replace HH := Lib.hid (HH.out.kept hk (fun e => by have := HGh.out; have := HGl.out; omega))
      clear hN hr hk
      go_wp2_with fail
      refine hK.out _ _ HS.out ?_
      clear hK K
      refine wpT_take HS (by rfl) (by intro W hW; clear hW; go_simp; try with_reducible rfl) ?_
      go_simp
      refine wpT_do fun K hK => ?_
      go_wp2_with (refine wpList_store_row rfl 26 _ _ rfl gh #[.int .u32 x1, .int .u16 x2, .int .u8 x3, .int .u8 x4, .int .u32 x5, .int .u32 x6, .int .u32 x7, .slice none 0 0] rfl rfl 26 _ HH.out info_hello rfl (by simp [Value.oneCell']) ?_)
      replace HF := Lib.hid (⟨HF.out.r.kept ((Kept.of_grown (only_setRow v50 gh #[.int .u32 x1, .int .u16 x2, .int .u8 x3, .int .u8 x4, .int .u32 x5, .int .u32 x6, .int .u32 x7, .slice none 0 0])).mono (T := fun i => i = gh) fun i _ e => by simpa using e.symm) (fun e => by have := HGh.out; have := HGl.out; omega) (fun hn ad e e' => by have := HAq.out hn ad e; have := HGh.out; omega) (fun i e => by have := HA.out.1; have := HGh.out; omega), HF.out.k.setRow_far (blk_ne HF.out.k HH.out (by decide)) _, HF.out.ne, HF.out.base, HF.out.qa⟩ : PkF w0 (v50.setRow gh #[.int .u32 x1, .int .u16 x2, .int .u8 x3, .int .u8 x4, .int .u32 x5, .int .u32 x6, .int .u32 x7, .slice none 0 0]) g gp q _ _)
      have hkx : ∀ i, some gh = some i → w.heap.size ≤ i := fun i e => by injection e with e; rw [← e]; exact HGh.out
      replace HK := Lib.hid (HK.out.trans ((Kept.of_grown (only_setRow v50 gh #[.int .u32 x1, .int .u16 x2, .int .u8 x3, .int .u8 x4, .int .u32 x5, .int .u32 x6, .int .u32 x7, .slice none 0 0])).mono (T := fun i => w.heap.size ≤ i) fun i _ e => hkx i e) (fun i hi e => absurd hi (by omega)))
      replace HS : Hid (SiBlk (v50.setRow gh #[.int .u32 x1, .int .u16 x2, .int .u8 x3, .int .u8 x4, .int .u32 x5, .int .u32 x6, .int .u32 x7, .slice none 0 0]) gs g) := Lib.hid (Blk.setRow_far HS.out (blk_ne HS.out HH.out (by decide)) _)
      replace HH := Lib.hid (HH.out.setRow #[.int .u32 x1, .int .u16 x2, .int .u8 x3, .int .u8 x4, .int .u32 x5, .int .u32 x6, .int .u32 x7, .slice none 0 0])
      generalize v50.setRow gh #[.int .u32 x1, .int .u16 x2, .int .u8 x3, .int .u8 x4, .int .u32 x5, .int .u32 x6, .int .u32 x7, .slice none 0 0] = v51 at *
      refine hK.out _ _ HS.out ?_
      clear hK K
      refine wpT_nil ?_
      go_simp
      refine ⟨rfl, gh, x1, x2, x3, x4, x5, x6, x7, r7, ?_⟩
      exact ⟨_, _, _, _, _, _, _, _, _, _, _, _, _, _, _, _, _, _, _, _, _, _, _, _, _, rfl, HF, HK, HS, HH, HGh, Lib.hid (hl_nums (HS0.out ▸ HN1.out) HN2.out HN3.out HN4.out HN5.out HN6.out HN7.out)⟩
end Go.Proofs.Ytbkejlalbjomkaa
