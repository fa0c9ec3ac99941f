/-
  Bodies written: a network's, a router's; and by every form.
-/
import Derived.Test.YtljedcfpbdompaaDoorSta7
namespace Go.Proofs.YtljedcfpbdompaaDoor
set_option linter.unusedVariables false
open Go.RowKit Go.ChangeShapes Go.WideShapes

/-- A writer, and a block that is not its own. -/
structure WX (w0 w : World) (g : Nat) (M : Int) (ys : List Int) (gx : Nat) (o : Obj) : Prop where
  ws : ∃ v s, WS w0.heap.size w g v s ∧ WI s M ys ∧ gx ≠ g ∧ v.ownBlock ≠ some gx
  b : Below w0.heap.size w0 w
  m : 0 ≤ M ∧ M ≤ 1099511627776
  o : w.heap[gx]? = some o
theorem WX.wr {w0 w : World} {g gx : Nat} {M : Int} {ys : List Int} {o : Obj} (h : WX w0 w g M ys gx o) : WR w0 w g M ys := by
  obtain ⟨v, s, h1, h2, _⟩ := h.ws
  exact ⟨⟨v, s, h1, h2⟩, h.b, h.m⟩
theorem WX.lt {w0 w : World} {g gx : Nat} {M : Int} {ys : List Int} {o : Obj} (h : WX w0 w g M ys gx o) : gx < w.heap.size := by
  have h1 := h.o
  rcases Nat.lt_or_ge gx w.heap.size with h2 | h2
  · exact h2
  · rw [Array.getElem?_eq_none h2] at h1; cases h1
theorem WX.new {w0 w : World} {g : Nat} {M : Int} {ys : List Int} (h : WR w0 w g M ys) (o : Obj) : WX w0 (w.alloc o) g M ys w.heap.size o := by
  have hA := h.alloc o
  obtain ⟨v, s, h1, h2⟩ := h.ws
  refine ⟨⟨v, s, h1.alloc o, h2, fun e => ?_, fun e => ?_⟩, hA.b, h.m, heap_alloc_new w o⟩
  · have := h1.2.1.lt; omega
  · have := (own_ge h1.2.2 e).2; omega
theorem wx_num (w0 w : World) (g gx : Nat) (M : Int) (ys : List Int) (o : Obj) (h : WX w0 w g M ys gx o) (x : Int) (n : Nat) (h0 : 0 ≤ x) (h1x : x ≤ 4294967295) (hn : n ≤ 4) (hf : fitsB x n = true) :
    Calls Tryd.prog 78 #[.pointer (some ⟨g, 0, none⟩), .int .u32 x, .int .i64 n] w fun e w' => e = .returned (.pointer (some ⟨g, 0, none⟩)) ∧ WX w0 w' g M (ys ++ numB x n) gx o ∧ KeepT w w' := by
  have hlt := h.lt
  obtain ⟨v, s, h1, h2, h3, h4⟩ := h.ws
  have hm := h.m
  have hl := h2.le
  have hmo := h2.most
  refine (num_any _ g v s x n w h1 h0 h1x (by omega) (by omega) (by omega) (by omega) (by omega)).mono ?_
  rintro e w' ⟨rfl, p⟩
  have hb := WPost.below h1 p
  have hk := WPost.keep h1 p
  obtain ⟨v', h5, k, hv⟩ := p
  refine ⟨rfl, ⟨⟨v', _, h5, h2.num hn hf, h3, ?_⟩, h.b.trans hb, hm, ?_⟩, hk⟩
  · rcases hv with hv | ⟨i, hi, hv⟩
    · rw [hv]; exact h4
    · rw [hv]
      intro e
      injection e with e
      omega
  · rw [k.block gx hlt (fun hq => hq.elim h3 h4)]
    exact h.o
structure NwI (w0 w : World) (g : Nat) (M : Int) (ys : List Int) (gp : Nat) (R : List Int) (i : Value) (wr : World) : Prop where
  ex : ∃ k : Nat, i = .int .i64 k ∧ k ≤ R.length ∧ Hid (WR w0 wr g M (ys ++ (R.take k).flatMap fun x => numB x 4))
  keep : Hid (KeepT w wr)
  pen : Hid (PenBlk wr gp g)
theorem u32s_at {w : World} {B n k : Nat} {A : Option Addr} {xs : List Int} (h : Reads w B 1 A n (u32s xs)) (hl : xs.length = n) (hk : k < n) : ∃ ad x, A = some ad ∧ xs[k]? = some x ∧ w.cell? (ad.add k) = some (.int .u32 x) := by
  obtain ⟨ad, x, e, hb, hx, h0, _⟩ := rowG_at (cs := fun x => [Value.int .u32 x]) (k := 1) (fun _ => rfl) h hl hk
  exact ⟨ad, x, e, hx, by have := h0 _ rfl; rwa [Nat.mul_one] at this⟩
theorem flat_snoc {α : Type} (f : α → List Int) {xs : List α} {k : Nat} {x : α} (hx : xs[k]? = some x) : (xs.take (k + 1)).flatMap f = (xs.take k).flatMap f ++ f x := by
  have h1 : xs.take (k + 1) = xs.take k ++ [x] := by rw [List.take_add_one, hx]; rfl
  rw [h1, List.flatMap_append]
  simp
set_option maxRecDepth 100000 in
set_option maxHeartbeats 8000000 in
theorem wNetwork (w0 w : World) (g : Nat) (M : Int) (ys : List Int) (h : WR w0 w g M ys) (b : BA) (hb0 : b.rd w0) :
    Calls Tryd.prog 67 #[.agg #[.pointer (some ⟨g, 0, none⟩)], b.v] w fun e w' => WrP w0 w w' g M (ys ++ bdB 2 b) e := by
  have hb := hb0.later h.b
  have HO0 := Lib.hid hb0
  clear hb0
  have HW : Hid (WR w0 ((w.alloc (.cells #[.pointer (some ⟨g, 0, none⟩)] 87)).alloc (.cells #[.int .u8 b.flags, .slice b.LA b.ln b.lc, .int .u32 b.mask, .slice b.RA b.rn b.rc, .int .u32 b.metric, .bool b.t2, .int .u32 b.fwd, .int .u32 b.tag, .slice b.DA b.dn b.dc] 67)) g M ys) := Lib.hid (((h.alloc _).alloc _))
  have HK : Hid (KeepT w ((w.alloc (.cells #[.pointer (some ⟨g, 0, none⟩)] 87)).alloc (.cells #[.int .u8 b.flags, .slice b.LA b.ln b.lc, .int .u32 b.mask, .slice b.RA b.rn b.rc, .int .u32 b.metric, .bool b.t2, .int .u32 b.fwd, .int .u32 b.tag, .slice b.DA b.dn b.dc] 67))) := Lib.hid (KeepT.of_below (below_two _ _ _))
  have HS : Hid ((fun W : World => WbS W w.heap.size g (w.heap.size + 1) b) ((w.alloc (.cells #[.pointer (some ⟨g, 0, none⟩)] 87)).alloc (.cells #[.int .u8 b.flags, .slice b.LA b.ln b.lc, .int .u32 b.mask, .slice b.RA b.rn b.rc, .int .u32 b.metric, .bool b.t2, .int .u32 b.fwd, .int .u32 b.tag, .slice b.DA b.dn b.dc] 67))) := Lib.hid (wrS w g b)
  have HO := Lib.hid hb
  clear h hb
  obtain ⟨p0, c0, c1, c2, c3, c4, c5, c6, c7, c8⟩ := HS.out.cells
  go_enter Tryd.func67, Tryd.ntmps67
  go_wp2_with fail
  generalize w.heap.size = gp at *
  generalize gp + 1 = gb at *
  generalize ((w.alloc (.cells #[.pointer (some ⟨g, 0, none⟩)] 87)).alloc (.cells #[.int .u8 b.flags, .slice b.LA b.ln b.lc, .int .u32 b.mask, .slice b.RA b.rn b.rc, .int .u32 b.metric, .bool b.t2, .int .u32 b.fwd, .int .u32 b.tag, .slice b.DA b.dn b.dc] 67)) = v0 at *
  clear p0 c0 c1 c2 c3 c4 c5 c6 c7 c8
  refine (wr_num w0 v0 g M _ HW.out b.mask 4 (by have := HO.out.mask; omega) (by have := HO.out.mask; omega) (by omega) (fits_of (by omega) (by omega) (.inl rfl))).mono ?_
  rintro e v1 ⟨rfl, hw, hk⟩
  replace HW := Lib.hid hw
  replace HK := Lib.hid (HK.out.trans hk)
  replace HS : Hid ((fun W : World => WbS W gp g gb b) v1) := Lib.hid (HS.out.keep hk)
  clear hw hk
  obtain ⟨p0, c0, c1, c2, c3, c4, c5, c6, c7, c8⟩ := HS.out.cells
  have HP : Hid (PenBlk v1 gp g) := Lib.hid HS.out.1
  have HRL := Lib.hid (And.intro HO.out.rlen (And.intro HO.out.rok HO0.out.rrow))
  have hfew := HO.out.few
  have HB2 : Hid (bdB 2 b = numB b.mask 4 ++ b.routers.flatMap (fun x => numB x 4)) := Lib.hid (by unfold bdB; rw [if_neg (by decide), if_pos rfl])
  go_wp2_with fail
  clear p0 c0 c1 c2 c3 c4 c5 c6 c7 c8 HS
  obtain ⟨n, hn⟩ : ∃ n, b.rn = n := ⟨_, rfl⟩
  rw [hn] at HRL hfew
  rw [hn]
  clear hn
  generalize b.routers = R at *
  generalize b.RA = RA at *
  go_loopw [14] (NwI w0 w g M (ys ++ numB b.mask 4) gp R) (fun t _ => n - (intOf t).toNat)
  case atStart => exact ⟨⟨0, rfl, Nat.zero_le _, Lib.hid (by simpa using HW.out)⟩, HK, HP⟩
  case round =>
    clear HW HK HP
    obtain ⟨⟨k, rfl, hk, HW⟩, HK, HP⟩ := hrel
    rw [HRL.out.1] at hk
    by_cases hlt : k < n
    · have hltI : (k : Int) < n := by omega
      obtain ⟨ad, x, hA, hx, hc⟩ := u32s_at (HRL.out.2.2.later HW.out.b) HRL.out.1 hlt
      subst hA
      have HX := Lib.hid hx
      have hxb := Lib.hid (HRL.out.2.1 x (List.mem_of_getElem? hx))
      have hp := HP.out
      unfold PenBlk at hp
      have p0 := hp.cell 0
      simp at p0
      clear hx hp
      go_wp2_with fail
      refine (wr_num w0 wr g M _ HW.out x 4 (by have := hxb.out; omega) (by have := hxb.out; omega) (by omega) (fits_of (by omega) (by omega) (.inl rfl))).mono ?_
      rintro e v2 ⟨rfl, hw, hk2⟩
      have HW2 : Hid (WR w0 v2 g M (ys ++ numB b.mask 4 ++ (R.take (k + 1)).flatMap fun x => numB x 4)) := Lib.hid (by rw [flat_snoc _ HX.out]; simpa only [List.append_assoc] using hw)
      have HK2 := Lib.hid (HK.out.trans hk2)
      have HP2 : Hid (PenBlk v2 gp g) := Lib.hid (hk2.2 _ _ _ HP.out (by decide) (by decide))
      clear hw hk2 p0 hc
      go_wp2_with fail
      go_roundw
      case rel => exact ⟨⟨k + 1, by go_num, by rw [HRL.out.1]; omega, HW2⟩, HK2, HP2⟩
      case measure => simp [intOf]; omega
    · obtain rfl : k = n := by omega
      clear hlt
      go_wp2_with fail
      go_end0
      refine ⟨rfl, ?_, HK.out⟩
      rw [HB2.out]
      have := HW.out
      rw [List.take_of_length_le (by rw [HRL.out.1]; omega)] at this
      simpa only [List.append_assoc] using this
def LkBlk (W : World) (gl : Nat) (x : Lk) : Prop := Blk W gl 111 #[.int .u32 x.id, .int .u32 x.data, .int .u8 x.typ, .int .u16 x.cost]
def PlS (W : World) (gp g gl : Nat) (x : Lk) : Prop := PenBlk W gp g ∧ LkBlk W gl x
theorem PlS.keep {W W' : World} {gp g gl : Nat} {x : Lk} (k : KeepT W W') (p : PlS W gp g gl x) : PlS W' gp g gl x := ⟨k.2 _ _ _ p.1 (by decide) (by decide), k.2 _ _ _ p.2 (by decide) (by decide)⟩
theorem PlS.cells {W : World} {gp g gl : Nat} {x : Lk} (h : PlS W gp g gl x) : W.cell? ⟨gp, 0, none⟩ = some (.pointer (some ⟨g, 0, none⟩)) ∧ W.cell? ⟨gl, 0, none⟩ = some (.int .u32 x.id) ∧ W.cell? ⟨gl, 1, none⟩ = some (.int .u32 x.data) ∧ W.cell? ⟨gl, 2, none⟩ = some (.int .u8 x.typ) ∧ W.cell? ⟨gl, 3, none⟩ = some (.int .u16 x.cost) := by
  obtain ⟨h1, h2⟩ := h
  unfold PenBlk at h1
  unfold LkBlk at h2
  exact ⟨h1.cell 0, h2.cell 0, h2.cell 1, h2.cell 2, h2.cell 3⟩
structure RtI (w0 w : World) (g : Nat) (M : Int) (ys : List Int) (gp : Nat) (R : List Lk) (i : Value) (wr : World) : Prop where
  ex : ∃ k : Nat, i = .int .i64 k ∧ k ≤ R.length ∧ Hid (WR w0 wr g M (ys ++ (R.take k).flatMap lkB))
  keep : Hid (KeepT w wr)
  pen : Hid (PenBlk wr gp g)
set_option maxRecDepth 100000 in
set_option maxHeartbeats 8000000 in
theorem wRouter (w0 w : World) (g : Nat) (M : Int) (ys : List Int) (h : WR w0 w g M ys) (b : BA) (hb0 : b.rd w0) (hl : b.ln ≤ 65535) :
    Calls Tryd.prog 65 #[.agg #[.pointer (some ⟨g, 0, none⟩)], b.v] w fun e w' => WrP w0 w w' g M (ys ++ bdB 1 b) e := by
  have hb := hb0.later h.b
  have HO0 := Lib.hid hb0
  clear hb0
  have HW : Hid (WR w0 ((w.alloc (.cells #[.pointer (some ⟨g, 0, none⟩)] 87)).alloc (.cells #[.int .u8 b.flags, .slice b.LA b.ln b.lc, .int .u32 b.mask, .slice b.RA b.rn b.rc, .int .u32 b.metric, .bool b.t2, .int .u32 b.fwd, .int .u32 b.tag, .slice b.DA b.dn b.dc] 67)).drew g M ys) := Lib.hid (((h.alloc _).alloc _).drew)
  have HK : Hid (KeepT w ((w.alloc (.cells #[.pointer (some ⟨g, 0, none⟩)] 87)).alloc (.cells #[.int .u8 b.flags, .slice b.LA b.ln b.lc, .int .u32 b.mask, .slice b.RA b.rn b.rc, .int .u32 b.metric, .bool b.t2, .int .u32 b.fwd, .int .u32 b.tag, .slice b.DA b.dn b.dc] 67)).drew) := Lib.hid (KeepT.of_below (below_two _ _ _).drew)
  have HS : Hid ((fun W : World => WbS W w.heap.size g (w.heap.size + 1) b) ((w.alloc (.cells #[.pointer (some ⟨g, 0, none⟩)] 87)).alloc (.cells #[.int .u8 b.flags, .slice b.LA b.ln b.lc, .int .u32 b.mask, .slice b.RA b.rn b.rc, .int .u32 b.metric, .bool b.t2, .int .u32 b.fwd, .int .u32 b.tag, .slice b.DA b.dn b.dc] 67)).drew) := Lib.hid (wrS w g b)
  have HO := Lib.hid hb
  clear h hb
  have hwl : IntKind.u32.wrap (b.ln : Int) = b.ln := by simp [IntKind.wrap, IntKind.bits, IntKind.signed]; omega
  go_enter Tryd.func65, Tryd.ntmps65
  go_wp2_with fail
  generalize w.heap.size = gp at *
  generalize gp + 1 = gb at *
  refine wp_region_r (fun W : World => WbS W gp g gb b) [.take 0, .take 2, .take 6, .take 1, .take 3, .take 7, .take 8, .take 9, .one 4, .one 5, .one 10] (by kernel_rfl) (fun _ d _ _ _ h => by cases d <;> exact h) ?_
  simp only [List.map_cons, List.map_nil, RStep.node, nthOp_zero, nthOp_succ]
  generalize ((w.alloc (.cells #[.pointer (some ⟨g, 0, none⟩)] 87)).alloc (.cells #[.int .u8 b.flags, .slice b.LA b.ln b.lc, .int .u32 b.mask, .slice b.RA b.rn b.rc, .int .u32 b.metric, .bool b.t2, .int .u32 b.fwd, .int .u32 b.tag, .slice b.DA b.dn b.dc] 67)).drew = v0 at *
  refine wpR_take HS (by rfl) (by intro W hW; clear hW; go_simp; try with_reducible rfl) ?_
  refine wpR_take HS (by rfl) (by intro W hW; clear hW; go_simp; try with_reducible rfl) ?_
  refine wpR_take HS (by rfl) (by intro W hW; clear hW; go_simp; try with_reducible rfl) ?_
  refine wpR_take HS (by rfl) (by intro W hW; obtain ⟨p0, c0, c1, c2, c3, c4, c5, c6, c7, c8⟩ := hW.cells; go_simp; try with_reducible rfl) ?_
  refine wpR_take HS (by rfl) (by intro W hW; obtain ⟨p0, c0, c1, c2, c3, c4, c5, c6, c7, c8⟩ := hW.cells; go_simp; try with_reducible rfl) ?_
  refine wpR_take HS (by rfl) (by intro W hW; obtain ⟨p0, c0, c1, c2, c3, c4, c5, c6, c7, c8⟩ := hW.cells; go_simp; try with_reducible rfl) ?_
  go_simp
  refine wpR_take HS (by rfl) (by intro W hW; clear hW; go_simp; try with_reducible rfl) ?_
  refine wpR_take HS (by rfl) (by intro W hW; clear hW; go_simp; try with_reducible rfl) ?_
  go_simp
  refine wpR_do fun K hK => ?_
  go_wp2_with fail
  have hb2 : Below v0.heap.size v0 (v0.alloc (.cells #[.int .u8 b.flags, .int .u8 0] 5)) := (Below.refl _ _).alloc (Nat.le_refl _) _
  have HX := Lib.hid (WX.new HW.out (.cells #[.int .u8 b.flags, .int .u8 0] 5))
  replace HK := Lib.hid (HK.out.trans (KeepT.of_below hb2))
  replace HS : Hid ((fun W : World => WbS W gp g gb b) (v0.alloc (.cells #[.int .u8 b.flags, .int .u8 0] 5))) := Lib.hid (HS.out.keep (KeepT.of_below hb2))
  clear hb2 HW
  refine hK.out _ _ HS.out ?_
  generalize v0.heap.size = gx at *
  generalize v0.alloc (.cells #[.int .u8 b.flags, .int .u8 0] 5) = v1 at *
  clear hK K
  go_simp
  refine wpR_do fun K hK => ?_
  go_wp2_with fail
  have HR := Lib.hid (two_reads (W := v1) (g := gx) (a := b.flags) (b := 0) HX.out.o)
  have HW := Lib.hid HX.out.wr
  clear HX
  refine (wr_put w0 v1 g M _ _ HW.out _ 2 2 HR.out (by omega)).mono ?_
  rintro e v2 ⟨rfl, hw, hk⟩
  replace HW := Lib.hid hw
  replace HK := Lib.hid (HK.out.trans hk)
  replace HS : Hid ((fun W : World => WbS W gp g gb b) v2) := Lib.hid (HS.out.keep hk)
  clear hw hk
  clear HR
  go_wp2_with fail
  refine hK.out _ _ HS.out ?_
  clear hK K
  go_simp
  refine wpR_do fun K hK => ?_
  go_wp2_with fail
  refine (wr_num w0 v2 g M _ HW.out (b.ln : Int) 2 (by omega) (by omega) (by omega) (fits_of (by omega) (by omega) (.inr (by omega)))).mono ?_
  rintro e v3 ⟨rfl, hw, hk⟩
  replace HW := Lib.hid hw
  replace HK := Lib.hid (HK.out.trans hk)
  replace HS : Hid ((fun W : World => WbS W gp g gb b) v3) := Lib.hid (HS.out.keep hk)
  clear hw hk
  go_wp2_with fail
  refine hK.out _ _ HS.out ?_
  clear hK K
  go_simp
  refine wpR_nil ?_
  go_simp
  obtain ⟨p0, c0, c1, c2, c3, c4, c5, c6, c7, c8⟩ := HS.out.cells
  have HP : Hid (PenBlk v3 gp g) := Lib.hid HS.out.1
  have HRL := Lib.hid (And.intro HO.out.llen (And.intro HO.out.lok HO0.out.lrow))
  have HB2 : Hid (bdB 1 b = [b.flags, 0] ++ numB b.links.length 2 ++ b.links.flatMap lkB) := Lib.hid (by unfold bdB; rw [if_pos rfl])
  rw [HO.out.llen] at HB2
  go_wp2_with fail
  clear p0 c0 c1 c2 c3 c4 c5 c6 c7 c8 HS
  obtain ⟨n, hn⟩ : ∃ n, b.ln = n := ⟨_, rfl⟩
  rw [hn] at HRL hl HW HB2
  rw [hn]
  clear hn hwl
  generalize b.links = R at *
  generalize b.LA = LA at *
  generalize hYS : ys ++ [b.flags, 0] ++ numB (n : Int) 2 = YS at *
  have HYS := Lib.hid hYS
  clear hYS
  go_loopw [20] (RtI w0 w g M YS gp R) (fun t _ => n - (intOf t).toNat)
  case atStart => exact ⟨⟨0, rfl, Nat.zero_le _, Lib.hid (by simpa using HW.out)⟩, HK, HP⟩
  case round =>
    clear HW HK HP
    obtain ⟨⟨k, rfl, hk, HW⟩, HK, HP⟩ := hrel
    rw [HRL.out.1] at hk
    by_cases hlt : k < n
    · have hltI : (k : Int) < n := by omega
      obtain ⟨ad, x, hA, -, hx, h0, hj⟩ := rowG_at lk_len (HRL.out.2.2.later HW.out.b) HRL.out.1 hlt
      subst hA
      have l0 := h0 _ rfl
      have l1 := hj 1 _ (by decide) rfl
      have l2 := hj 2 _ (by decide) rfl
      have l3 := hj 3 _ (by decide) rfl
      have HXx := Lib.hid hx
      have HO2 := Lib.hid (HRL.out.2.1 x (List.mem_of_getElem? hx))
      have hb2 : Below wr.heap.size wr (wr.alloc (.cells #[.int .u32 x.id, .int .u32 x.data, .int .u8 x.typ, .int .u16 x.cost] 111)) := (Below.refl _ _).alloc (Nat.le_refl _) _
      replace HW := Lib.hid ((HW.out.later hb2).drew)
      replace HK : Hid (KeepT w (wr.alloc (.cells #[.int .u32 x.id, .int .u32 x.data, .int .u8 x.typ, .int .u16 x.cost] 111)).drew) := Lib.hid (HK.out.trans (KeepT.of_below hb2.drew))
      have HS : Hid ((fun W : World => PlS W gp g wr.heap.size x) (wr.alloc (.cells #[.int .u32 x.id, .int .u32 x.data, .int .u8 x.typ, .int .u16 x.cost] 111)).drew) := Lib.hid ⟨show PenBlk _ _ _ from Blk.later HP.out hb2.drew, show LkBlk _ _ _ from Blk.new _ _ _⟩
      have hwc : IntKind.u32.wrap x.cost = x.cost := by have := HO2.out.cost; simp [IntKind.wrap, IntKind.bits, IntKind.signed]; omega
      clear h0 hj hx hb2 HP
      go_wp2_with fail
      generalize wr.heap.size = gl at *
      refine wp_region_t (fun W : World => PlS W gp g gl x) (.take 0 (.take 2 (.take 5 (.take 8 (.take 12 (.take 1 (.take 3 (.take 6 (.take 9 (.take 13 (.take 14 (.fork 4 10 (.fork 7 10 (.one 10 (.one 11 (.one 15 .nil))) (.one 7 (.one 11 (.one 15 .nil)))) (.one 4 (.one 7 (.one 11 (.one 15 .nil)))))))))))))))) (by kernel_rfl) (fun _ d _ _ _ h => by cases d <;> exact h) ?_
      simp only [TStep.node, nthOp_zero, nthOp_succ]
      generalize (wr.alloc (.cells #[.int .u32 x.id, .int .u32 x.data, .int .u8 x.typ, .int .u16 x.cost] 111)).drew = v0 at *
      clear l0 l1 l2 l3
      refine wpT_take HS (by rfl) (by intro W hW; clear hW; go_simp; try with_reducible rfl) ?_
      refine wpT_take HS (by rfl) (by intro W hW; clear hW; go_simp; try with_reducible rfl) ?_
      refine wpT_take HS (by rfl) (by intro W hW; clear hW; go_simp; try with_reducible rfl) ?_
      refine wpT_take HS (by rfl) (by intro W hW; clear hW; go_simp; try with_reducible rfl) ?_
      refine wpT_take HS (by rfl) (by intro W hW; clear hW; go_simp; try with_reducible rfl) ?_
      refine wpT_take HS (by rfl) (by intro W hW; obtain ⟨p0, c0, c1, c2, c3⟩ := hW.cells; go_simp; try with_reducible rfl) ?_
      go_simp
      refine wpT_take HS (by rfl) (by intro W hW; obtain ⟨p0, c0, c1, c2, c3⟩ := hW.cells; go_simp; try with_reducible rfl) ?_
      refine wpT_take HS (by rfl) (by intro W hW; obtain ⟨p0, c0, c1, c2, c3⟩ := hW.cells; go_simp; try with_reducible rfl) ?_
      refine wpT_take HS (by rfl) (by intro W hW; obtain ⟨p0, c0, c1, c2, c3⟩ := hW.cells; go_simp; try with_reducible rfl) ?_
      refine wpT_take HS (by rfl) (by intro W hW; obtain ⟨p0, c0, c1, c2, c3⟩ := hW.cells; go_simp; try with_reducible rfl) ?_
      refine wpT_take HS (by rfl) (by intro W hW; clear hW; go_simp; try with_reducible rfl) ?_
      go_simp
      refine wpT_fork (fun K hK => ?_) (fun K hK => ?_)
      · go_wp2_with fail
        refine (wr_num w0 v0 g M _ HW.out x.id 4 (by have := HO2.out.id; omega) (by have := HO2.out.id; omega) (by omega) (fits_of (by omega) (by omega) (.inl rfl))).mono ?_
        rintro e v1 ⟨rfl, hw, hk⟩
        replace HW := Lib.hid hw
        replace HK := Lib.hid (HK.out.trans hk)
        replace HS : Hid ((fun W : World => PlS W gp g gl x) v1) := Lib.hid (HS.out.keep hk)
        clear hw hk
        go_wp2_with fail
        refine hK.out _ _ HS.out ?_
        clear hK K
        go_simp
        refine wpT_fork (fun K hK => ?_) (fun K hK => ?_)
        · go_wp2_with fail
          refine (wr_num w0 v1 g M _ HW.out x.data 4 (by have := HO2.out.data; omega) (by have := HO2.out.data; omega) (by omega) (fits_of (by omega) (by omega) (.inl rfl))).mono ?_
          rintro e v2 ⟨rfl, hw, hk⟩
          replace HW := Lib.hid hw
          replace HK := Lib.hid (HK.out.trans hk)
          replace HS : Hid ((fun W : World => PlS W gp g gl x) v2) := Lib.hid (HS.out.keep hk)
          clear hw hk
          go_wp2_with fail
          refine hK.out _ _ HS.out ?_
          clear hK K
          go_simp
          refine wpT_do fun K hK => ?_
          go_wp2_with fail
          have hb2 : Below v2.heap.size v2 (v2.alloc (.cells #[.int .u8 x.typ, .int .u8 0] 5)) := (Below.refl _ _).alloc (Nat.le_refl _) _
          have HX := Lib.hid (WX.new HW.out (.cells #[.int .u8 x.typ, .int .u8 0] 5))
          replace HK := Lib.hid (HK.out.trans (KeepT.of_below hb2))
          replace HS : Hid ((fun W : World => PlS W gp g gl x) (v2.alloc (.cells #[.int .u8 x.typ, .int .u8 0] 5))) := Lib.hid (HS.out.keep (KeepT.of_below hb2))
          clear hb2 HW
          refine hK.out _ _ HS.out ?_
          generalize v2.heap.size = gx at *
          generalize v2.alloc (.cells #[.int .u8 x.typ, .int .u8 0] 5) = v3 at *
          clear hK K
          go_simp
          refine wpT_do fun K hK => ?_
          go_wp2_with fail
          have HR := Lib.hid (two_reads (W := v3) (g := gx) (a := x.typ) (b := 0) HX.out.o)
          have HW := Lib.hid HX.out.wr
          clear HX
          refine (wr_put w0 v3 g M _ _ HW.out _ 2 2 HR.out (by omega)).mono ?_
          rintro e v4 ⟨rfl, hw, hk⟩
          replace HW := Lib.hid hw
          replace HK := Lib.hid (HK.out.trans hk)
          replace HS : Hid ((fun W : World => PlS W gp g gl x) v4) := Lib.hid (HS.out.keep hk)
          clear hw hk
          clear HR
          go_wp2_with fail
          refine hK.out _ _ HS.out ?_
          clear hK K
          go_simp
          refine wpT_do fun K hK => ?_
          go_wp2_with fail
          refine (wr_num w0 v4 g M _ HW.out x.cost 2 (by have := HO2.out.cost; omega) (by have := HO2.out.cost; omega) (by omega) (fits_of (by omega) (by omega) (.inr (by have := HO2.out.cost; omega)))).mono ?_
          rintro e v5 ⟨rfl, hw, hk⟩
          replace HW := Lib.hid hw
          replace HK := Lib.hid (HK.out.trans hk)
          replace HS : Hid ((fun W : World => PlS W gp g gl x) v5) := Lib.hid (HS.out.keep hk)
          clear hw hk
          go_wp2_with fail
          refine hK.out _ _ HS.out ?_
          clear hK K
          go_simp
          refine wpT_nil ?_
          go_simp
          have HW2 : Hid (WR w0 v5 g M (YS ++ (R.take (k + 1)).flatMap lkB)) := Lib.hid (by
            have e : lkB x = numB x.id 4 ++ numB x.data 4 ++ [x.typ, 0] ++ numB x.cost 2 := rfl
            rw [flat_snoc _ HXx.out, e]
            simpa only [List.append_assoc] using HW.out)
          have HP2 : Hid (PenBlk v5 gp g) := Lib.hid HS.out.1
          clear HW HS
          go_wp2_with fail
          go_roundw
          case rel => exact ⟨⟨k + 1, by go_num, by rw [HRL.out.1]; omega, HW2⟩, HK, HP2⟩
          case measure => simp [intOf]; omega
        · go_wp2_with fail
          have hb2 : Below v1.heap.size v1 (v1.alloc (.cells #[.int .u8 x.typ, .int .u8 0] 5)) := (Below.refl _ _).alloc (Nat.le_refl _) _
          have HX := Lib.hid (WX.new HW.out (.cells #[.int .u8 x.typ, .int .u8 0] 5))
          replace HK := Lib.hid (HK.out.trans (KeepT.of_below hb2))
          replace HS : Hid ((fun W : World => PlS W gp g gl x) (v1.alloc (.cells #[.int .u8 x.typ, .int .u8 0] 5))) := Lib.hid (HS.out.keep (KeepT.of_below hb2))
          clear hb2 HW
          refine hK.out _ _ HS.out ?_
          generalize v1.heap.size = gx at *
          generalize v1.alloc (.cells #[.int .u8 x.typ, .int .u8 0] 5) = v2 at *
          clear hK K
          go_simp
          refine wpT_do fun K hK => ?_
          go_wp2_with fail
          refine (wx_num w0 v2 g gx M _ _ HX.out x.data 4 (by have := HO2.out.data; omega) (by have := HO2.out.data; omega) (by omega) (fits_of (by omega) (by omega) (.inl rfl))).mono ?_
          rintro e v3 ⟨rfl, hw, hk⟩
          replace HX := Lib.hid hw
          replace HK := Lib.hid (HK.out.trans hk)
          replace HS : Hid ((fun W : World => PlS W gp g gl x) v3) := Lib.hid (HS.out.keep hk)
          clear hw hk
          go_wp2_with fail
          refine hK.out _ _ HS.out ?_
          clear hK K
          go_simp
          refine wpT_do fun K hK => ?_
          go_wp2_with fail
          have HR := Lib.hid (two_reads (W := v3) (g := gx) (a := x.typ) (b := 0) HX.out.o)
          have HW := Lib.hid HX.out.wr
          clear HX
          refine (wr_put w0 v3 g M _ _ HW.out _ 2 2 HR.out (by omega)).mono ?_
          rintro e v4 ⟨rfl, hw, hk⟩
          replace HW := Lib.hid hw
          replace HK := Lib.hid (HK.out.trans hk)
          replace HS : Hid ((fun W : World => PlS W gp g gl x) v4) := Lib.hid (HS.out.keep hk)
          clear hw hk
          clear HR
          go_wp2_with fail
          refine hK.out _ _ HS.out ?_
          clear hK K
          go_simp
          refine wpT_do fun K hK => ?_
          go_wp2_with fail
          refine (wr_num w0 v4 g M _ HW.out x.cost 2 (by have := HO2.out.cost; omega) (by have := HO2.out.cost; omega) (by omega) (fits_of (by omega) (by omega) (.inr (by have := HO2.out.cost; omega)))).mono ?_
          rintro e v5 ⟨rfl, hw, hk⟩
          replace HW := Lib.hid hw
          replace HK := Lib.hid (HK.out.trans hk)
          replace HS : Hid ((fun W : World => PlS W gp g gl x) v5) := Lib.hid (HS.out.keep hk)
          clear hw hk
          go_wp2_with fail
          refine hK.out _ _ HS.out ?_
          clear hK K
          go_simp
          refine wpT_nil ?_
          go_simp
          have HW2 : Hid (WR w0 v5 g M (YS ++ (R.take (k + 1)).flatMap lkB)) := Lib.hid (by
            have e : lkB x = numB x.id 4 ++ numB x.data 4 ++ [x.typ, 0] ++ numB x.cost 2 := rfl
            rw [flat_snoc _ HXx.out, e]
            simpa only [List.append_assoc] using HW.out)
          have HP2 : Hid (PenBlk v5 gp g) := Lib.hid HS.out.1
          clear HW HS
          go_wp2_with fail
          go_roundw
          case rel => exact ⟨⟨k + 1, by go_num, by rw [HRL.out.1]; omega, HW2⟩, HK, HP2⟩
          case measure => simp [intOf]; omega
      · go_wp2_with fail
        have hb2 : Below v0.heap.size v0 (v0.alloc (.cells #[.int .u8 x.typ, .int .u8 0] 5)) := (Below.refl _ _).alloc (Nat.le_refl _) _
        have HX := Lib.hid (WX.new HW.out (.cells #[.int .u8 x.typ, .int .u8 0] 5))
        replace HK := Lib.hid (HK.out.trans (KeepT.of_below hb2))
        replace HS : Hid ((fun W : World => PlS W gp g gl x) (v0.alloc (.cells #[.int .u8 x.typ, .int .u8 0] 5))) := Lib.hid (HS.out.keep (KeepT.of_below hb2))
        clear hb2 HW
        refine hK.out _ _ HS.out ?_
        generalize v0.heap.size = gx at *
        generalize v0.alloc (.cells #[.int .u8 x.typ, .int .u8 0] 5) = v1 at *
        clear hK K
        go_simp
        refine wpT_do fun K hK => ?_
        go_wp2_with fail
        refine (wx_num w0 v1 g gx M _ _ HX.out x.id 4 (by have := HO2.out.id; omega) (by have := HO2.out.id; omega) (by omega) (fits_of (by omega) (by omega) (.inl rfl))).mono ?_
        rintro e v2 ⟨rfl, hw, hk⟩
        replace HX := Lib.hid hw
        replace HK := Lib.hid (HK.out.trans hk)
        replace HS : Hid ((fun W : World => PlS W gp g gl x) v2) := Lib.hid (HS.out.keep hk)
        clear hw hk
        go_wp2_with fail
        refine hK.out _ _ HS.out ?_
        clear hK K
        go_simp
        refine wpT_do fun K hK => ?_
        go_wp2_with fail
        refine (wx_num w0 v2 g gx M _ _ HX.out x.data 4 (by have := HO2.out.data; omega) (by have := HO2.out.data; omega) (by omega) (fits_of (by omega) (by omega) (.inl rfl))).mono ?_
        rintro e v3 ⟨rfl, hw, hk⟩
        replace HX := Lib.hid hw
        replace HK := Lib.hid (HK.out.trans hk)
        replace HS : Hid ((fun W : World => PlS W gp g gl x) v3) := Lib.hid (HS.out.keep hk)
        clear hw hk
        go_wp2_with fail
        refine hK.out _ _ HS.out ?_
        clear hK K
        go_simp
        refine wpT_do fun K hK => ?_
        go_wp2_with fail
        have HR := Lib.hid (two_reads (W := v3) (g := gx) (a := x.typ) (b := 0) HX.out.o)
        have HW := Lib.hid HX.out.wr
        clear HX
        refine (wr_put w0 v3 g M _ _ HW.out _ 2 2 HR.out (by omega)).mono ?_
        rintro e v4 ⟨rfl, hw, hk⟩
        replace HW := Lib.hid hw
        replace HK := Lib.hid (HK.out.trans hk)
        replace HS : Hid ((fun W : World => PlS W gp g gl x) v4) := Lib.hid (HS.out.keep hk)
        clear hw hk
        clear HR
        go_wp2_with fail
        refine hK.out _ _ HS.out ?_
        clear hK K
        go_simp
        refine wpT_do fun K hK => ?_
        go_wp2_with fail
        refine (wr_num w0 v4 g M _ HW.out x.cost 2 (by have := HO2.out.cost; omega) (by have := HO2.out.cost; omega) (by omega) (fits_of (by omega) (by omega) (.inr (by have := HO2.out.cost; omega)))).mono ?_
        rintro e v5 ⟨rfl, hw, hk⟩
        replace HW := Lib.hid hw
        replace HK := Lib.hid (HK.out.trans hk)
        replace HS : Hid ((fun W : World => PlS W gp g gl x) v5) := Lib.hid (HS.out.keep hk)
        clear hw hk
        go_wp2_with fail
        refine hK.out _ _ HS.out ?_
        clear hK K
        go_simp
        refine wpT_nil ?_
        go_simp
        have HW2 : Hid (WR w0 v5 g M (YS ++ (R.take (k + 1)).flatMap lkB)) := Lib.hid (by
          have e : lkB x = numB x.id 4 ++ numB x.data 4 ++ [x.typ, 0] ++ numB x.cost 2 := rfl
          rw [flat_snoc _ HXx.out, e]
          simpa only [List.append_assoc] using HW.out)
        have HP2 : Hid (PenBlk v5 gp g) := Lib.hid HS.out.1
        clear HW HS
        go_wp2_with fail
        go_roundw
        case rel => exact ⟨⟨k + 1, by go_num, by rw [HRL.out.1]; omega, HW2⟩, HK, HP2⟩
        case measure => simp [intOf]; omega
    · obtain rfl : k = n := by omega
      clear hlt
      go_wp2_with fail
      go_end0
      refine ⟨rfl, ?_, HK.out⟩
      rw [HB2.out]
      have := HW.out
      rw [List.take_of_length_le (by rw [HRL.out.1]; omega), ← HYS.out] at this
      simpa only [List.append_assoc] using this
end Go.Proofs.YtljedcfpbdompaaDoor
