/-
  Packets copied: heads, keys, a Hello, a Description.
  States copied.
  CopyPacket. Printed by gen_pk15.py.
-/
import Derived.Test.YtbkejlalbjomkaaPk11
namespace Go.Proofs.Ytbkejlalbjomkaa
set_option linter.unusedVariables false
open Go.RowKit

theorem hds_one {L : List Hd} : ∀ u ∈ L.flatMap Hd.cells, u.oneCell' = true := flatG_one hd_one L
theorem kys_one {L : List Ky} : ∀ u ∈ L.flatMap Ky.cells, u.oneCell' = true := flatG_one ky_one L
theorem copyHeads_any (A : Option Addr) (n c : Nat) (L : List Hd) (w : World) (hx : Reads w w.heap.size 8 A n (L.flatMap Hd.cells)) (hn : n ≤ 1073741824) :
    Calls Try.prog 48 #[.slice A n c] w fun e w' => ∃ v, e = .returned v ∧ w'.ownsRow w.heap.size 74 8 v n (L.flatMap Hd.cells) ∧ Below w.heap.size w w' := by
  go_enter Try.func48, Try.ntmps48
  go_wp2_with (at_builtin; refine wpList_app el_head rfl _ _ rfl (World.ownsRow_nil _ w.heap.size _ _) rfl hx rfl hds_one (by simp only [maxLen]; omega) (by omega) (Nat.le_refl _) ?_; intro v w1 hown hbel _ _)
  go_ret
  exact ⟨v, rfl, by simpa using hown, hbel⟩
theorem copyKeys_any (A : Option Addr) (n c : Nat) (L : List Ky) (w : World) (hx : Reads w w.heap.size 3 A n (L.flatMap Ky.cells)) (hn : n ≤ 1073741824) :
    Calls Try.prog 46 #[.slice A n c] w fun e w' => ∃ v, e = .returned v ∧ w'.ownsRow w.heap.size 129 3 v n (L.flatMap Ky.cells) ∧ Below w.heap.size w w' := by
  go_enter Try.func46, Try.ntmps46
  go_wp2_with (at_builtin; refine wpList_app el_key rfl _ _ rfl (World.ownsRow_nil _ w.heap.size _ _) rfl hx rfl kys_one (by simp only [maxLen]; omega) (by omega) (Nat.le_refl _) ?_; intro v w1 hown hbel _ _)
  go_ret
  exact ⟨v, rfl, by simpa using hown, hbel⟩
set_option maxRecDepth 100000 in
set_option maxHeartbeats 2000000 in
theorem copyHello_any (p : PA) (w : World) (hx0 : Reads w w.heap.size 1 p.NA p.nn (u32s p.nb)) (hn : p.nn ≤ 1073741824) (hc : p.nn ≤ p.nc ∧ p.nc ≤ 9223372036854775807) :
    Calls Try.prog 44 #[.agg #[.int .u32 p.mask, .int .u16 p.ivl, .int .u8 p.hopts, .int .u8 p.pri, .int .u32 p.dead, .int .u32 p.dr, .int .u32 p.bdr, .slice p.NA p.nn p.nc]] w fun e w' => ∃ A c, e = .returned (.agg #[.int .u32 p.mask, .int .u16 p.ivl, .int .u8 p.hopts, .int .u8 p.pri, .int .u32 p.dead, .int .u32 p.dr, .int .u32 p.bdr, .slice A p.nn c]) ∧ w'.ownsRow w.heap.size 22 1 (.slice A p.nn c) p.nn (u32s p.nb) ∧ Below w.heap.size w w' := by
  have hz : Hid (Blk ((w.alloc (.cells #[.int .u32 p.mask, .int .u16 p.ivl, .int .u8 p.hopts, .int .u8 p.pri, .int .u32 p.dead, .int .u32 p.dr, .int .u32 p.bdr, .slice p.NA p.nn p.nc] 26)).alloc (.cells #[.int .u32 0, .int .u16 0, .int .u8 0, .int .u8 0, .int .u32 0, .int .u32 0, .int .u32 0, .slice none 0 0] 26)) (w.heap.size + 1) 26 #[.int .u32 0, .int .u16 0, .int .u8 0, .int .u8 0, .int .u32 0, .int .u32 0, .int .u32 0, .slice none 0 0]) := new_at _ _ _
  have hx : Hid (Blk ((w.alloc (.cells #[.int .u32 p.mask, .int .u16 p.ivl, .int .u8 p.hopts, .int .u8 p.pri, .int .u32 p.dead, .int .u32 p.dr, .int .u32 p.bdr, .slice p.NA p.nn p.nc] 26)).alloc (.cells #[.int .u32 0, .int .u16 0, .int .u8 0, .int .u8 0, .int .u32 0, .int .u32 0, .int .u32 0, .slice none 0 0] 26)) w.heap.size 26 #[.int .u32 p.mask, .int .u16 p.ivl, .int .u8 p.hopts, .int .u8 p.pri, .int .u32 p.dead, .int .u32 p.dr, .int .u32 p.bdr, .slice p.NA p.nn p.nc]) := Lib.hid ((Blk.new _ _ _).alloc _)
  have hb : Hid (Below w.heap.size w ((w.alloc (.cells #[.int .u32 p.mask, .int .u16 p.ivl, .int .u8 p.hopts, .int .u8 p.pri, .int .u32 p.dead, .int .u32 p.dr, .int .u32 p.bdr, .slice p.NA p.nn p.nc] 26)).alloc (.cells #[.int .u32 0, .int .u16 0, .int .u8 0, .int .u8 0, .int .u32 0, .int .u32 0, .int .u32 0, .slice none 0 0] 26))) := below_two _ _ _
  have hR := Lib.hid (hx0.later hb.out)
  clear hx0
  go_enter Try.func44, Try.ntmps44
  go_wp2_with fail
  generalize (w.alloc (.cells #[.int .u32 p.mask, .int .u16 p.ivl, .int .u8 p.hopts, .int .u8 p.pri, .int .u32 p.dead, .int .u32 p.dr, .int .u32 p.bdr, .slice p.NA p.nn p.nc] 26)).alloc (.cells #[.int .u32 0, .int .u16 0, .int .u8 0, .int .u8 0, .int .u32 0, .int .u32 0, .int .u32 0, .slice none 0 0] 26) = w1 at *
  refine (copyWords_any p.NA p.nn p.nc p.nb w1 hR.out (by omega)).mono ?_
  rintro e w2 ⟨v, rfl, hown, hb2⟩
  have H2 := Lib.hid (And.intro hown hb2)
  obtain ⟨A7, c7, hv, -⟩ := own_shape_n hown
  subst hv
  have x2 := hx.out.later hb2
  have z2 := hz.out.later hb2
  have HX := Lib.hid (And.intro x2 z2)
  have b0 := x2.cell 0
  have b1 := x2.cell 1
  have b2 := x2.cell 2
  have b3 := x2.cell 3
  have b4 := x2.cell 4
  have b5 := x2.cell 5
  have b6 := x2.cell 6
  have b7 := x2.cell 7
  simp at b0 b1 b2 b3 b4 b5 b6 b7
  have f7 := x2.frozen 7
  have hne : w.heap.size ≠ w.heap.size + 1 := by omega
  clear hown hb2 x2 z2
  go_wp2_with (refine wpList_store_row rfl 26 _ _ rfl (w.heap.size + 1) #[.int .u32 p.mask, .int .u16 p.ivl, .int .u8 p.hopts, .int .u8 p.pri, .int .u32 p.dead, .int .u32 p.dr, .int .u32 p.bdr, .slice A7 p.nn c7] rfl rfl 26 _ (HX.out.2.far (by simp) _) info_hello rfl (by simp [Value.oneCell']) ?_)
  refine bodyPost_ret (results_cell_row rfl _ _ (w.heap.size + 1) 26 #[.int .u32 p.mask, .int .u16 p.ivl, .int .u8 p.hopts, .int .u8 p.pri, .int .u32 p.dead, .int .u32 p.dr, .int .u32 p.bdr, .slice A7 p.nn c7] (0, 0) _ rfl ((HX.out.2.far (by simp) _).setRow _) Try.underlying26 rfl info_hello) rfl ?_
  have hb3 : Below w.heap.size w w2 := below_then hb.out H2.out.2
  refine ⟨A7, c7, rfl, ?_, below_setRow (hb3.setCell (by simp) _) (Nat.le_succ _) _⟩
  have k1 := (kept_setC w2 w.heap.size 7 (.slice A7 p.nn c7)).mono (T := fun j => j = w.heap.size ∨ j = w.heap.size + 1) fun i _ e => .inl e
  have hs2 : w.heap.size + 1 < w1.heap.size := hz.out.lt
  refine own_mono (own_kept H2.out.1 (k1.trans (Kept.of_grown (only_setRow _ (w.heap.size + 1) _)) (fun i _ e => .inr (by simpa using e.symm))) ?_) hb.out.size
  intro i hi e
  have := (own_ge H2.out.1 hi).1
  omega
set_option maxRecDepth 100000 in
set_option maxHeartbeats 2000000 in
theorem copyDD_any (p : PA) (w : World) (hx0 : Reads w w.heap.size 8 p.DA p.dn (p.dh.flatMap Hd.cells)) (hn : p.dn ≤ 1073741824) (hc : p.dn ≤ p.dc ∧ p.dc ≤ 9223372036854775807) :
    Calls Try.prog 45 #[.agg #[.int .u16 p.mtu, .int .u8 p.dopts, .int .u8 p.flags, .int .u32 p.seq, .slice p.DA p.dn p.dc]] w fun e w' => ∃ A c, e = .returned (.agg #[.int .u16 p.mtu, .int .u8 p.dopts, .int .u8 p.flags, .int .u32 p.seq, .slice A p.dn c]) ∧ w'.ownsRow w.heap.size 74 8 (.slice A p.dn c) p.dn (p.dh.flatMap Hd.cells) ∧ Below w.heap.size w w' := by
  have hz : Hid (Blk ((w.alloc (.cells #[.int .u16 p.mtu, .int .u8 p.dopts, .int .u8 p.flags, .int .u32 p.seq, .slice p.DA p.dn p.dc] 29)).alloc (.cells #[.int .u16 0, .int .u8 0, .int .u8 0, .int .u32 0, .slice none 0 0] 29)) (w.heap.size + 1) 29 #[.int .u16 0, .int .u8 0, .int .u8 0, .int .u32 0, .slice none 0 0]) := new_at _ _ _
  have hx : Hid (Blk ((w.alloc (.cells #[.int .u16 p.mtu, .int .u8 p.dopts, .int .u8 p.flags, .int .u32 p.seq, .slice p.DA p.dn p.dc] 29)).alloc (.cells #[.int .u16 0, .int .u8 0, .int .u8 0, .int .u32 0, .slice none 0 0] 29)) w.heap.size 29 #[.int .u16 p.mtu, .int .u8 p.dopts, .int .u8 p.flags, .int .u32 p.seq, .slice p.DA p.dn p.dc]) := Lib.hid ((Blk.new _ _ _).alloc _)
  have hb : Hid (Below w.heap.size w ((w.alloc (.cells #[.int .u16 p.mtu, .int .u8 p.dopts, .int .u8 p.flags, .int .u32 p.seq, .slice p.DA p.dn p.dc] 29)).alloc (.cells #[.int .u16 0, .int .u8 0, .int .u8 0, .int .u32 0, .slice none 0 0] 29))) := below_two _ _ _
  have hR := Lib.hid (hx0.later hb.out)
  clear hx0
  go_enter Try.func45, Try.ntmps45
  go_wp2_with fail
  generalize (w.alloc (.cells #[.int .u16 p.mtu, .int .u8 p.dopts, .int .u8 p.flags, .int .u32 p.seq, .slice p.DA p.dn p.dc] 29)).alloc (.cells #[.int .u16 0, .int .u8 0, .int .u8 0, .int .u32 0, .slice none 0 0] 29) = w1 at *
  refine (copyHeads_any p.DA p.dn p.dc p.dh w1 hR.out (by omega)).mono ?_
  rintro e w2 ⟨v, rfl, hown, hb2⟩
  have H2 := Lib.hid (And.intro hown hb2)
  obtain ⟨A7, c7, hv, -⟩ := own_shape_n hown
  subst hv
  have x2 := hx.out.later hb2
  have z2 := hz.out.later hb2
  have HX := Lib.hid (And.intro x2 z2)
  have b0 := x2.cell 0
  have b1 := x2.cell 1
  have b2 := x2.cell 2
  have b3 := x2.cell 3
  have b4 := x2.cell 4
  simp at b0 b1 b2 b3 b4
  have f4 := x2.frozen 4
  have hne : w.heap.size ≠ w.heap.size + 1 := by omega
  clear hown hb2 x2 z2
  go_wp2_with (refine wpList_store_row rfl 29 _ _ rfl (w.heap.size + 1) #[.int .u16 p.mtu, .int .u8 p.dopts, .int .u8 p.flags, .int .u32 p.seq, .slice A7 p.dn c7] rfl rfl 29 _ (HX.out.2.far (by simp) _) info_dd rfl (by simp [Value.oneCell']) ?_)
  refine bodyPost_ret (results_cell_row rfl _ _ (w.heap.size + 1) 29 #[.int .u16 p.mtu, .int .u8 p.dopts, .int .u8 p.flags, .int .u32 p.seq, .slice A7 p.dn c7] (0, 0) _ rfl ((HX.out.2.far (by simp) _).setRow _) Try.underlying29 rfl info_dd) rfl ?_
  have hb3 : Below w.heap.size w w2 := below_then hb.out H2.out.2
  refine ⟨A7, c7, rfl, ?_, below_setRow (hb3.setCell (by simp) _) (Nat.le_succ _) _⟩
  have k1 := (kept_setC w2 w.heap.size 4 (.slice A7 p.dn c7)).mono (T := fun j => j = w.heap.size ∨ j = w.heap.size + 1) fun i _ e => .inl e
  have hs2 : w.heap.size + 1 < w1.heap.size := hz.out.lt
  refine own_mono (own_kept H2.out.1 (k1.trans (Kept.of_grown (only_setRow _ (w.heap.size + 1) _)) (fun i _ e => .inr (by simpa using e.symm))) ?_) hb.out.size
  intro i hi e
  have := (own_ge H2.out.1 hi).1
  omega
end Go.Proofs.Ytbkejlalbjomkaa
namespace Go.Proofs.Ytbkejlalbjomkaa
set_option linter.unusedVariables false
open Go.RowKit

/-- Rows of unlike elements have unlike blocks. -/
theorem own_ne {W : World} {b b' sz sz' n n' : Nat} {e e' : TypeId} {v v' : Value} {xs xs' : List Value} (h : W.ownsRow b e sz v n xs) (h' : W.ownsRow b' e' sz' v' n' xs') (hne : e ≠ e') : ∀ i, v.ownBlock = some i → v'.ownBlock ≠ some i := by
  intro i hi
  rcases h.2 with ⟨h0, _⟩ | ⟨g, cap, cur, hv, _, hg, _⟩
  · rw [h0] at hi; simp [Value.ownBlock] at hi
  · have : g = i := by rw [hv] at hi; simpa [Value.ownBlock] using hi
    subst this
    exact own_blk_ne h' (show Blk W g e cur from hg) hne.symm
theorem el_state : El Try.prog 31 76 9 48 := El.mk' Try.underlying31 (z := .agg #[.int .u16 0, .int .u8 0, .int .u8 0, .int .u32 0, .int .u32 0, .int .i32 0, .int .u16 0, .int .u16 0, .slice none 0 0]) (by kernel_rfl) rfl (by decide)
theorem se_one (x : SE) : ∀ u ∈ x.cells, u.oneCell' = true := by
  intro u hu
  simp only [SE.cells, List.mem_cons, List.not_mem_nil, or_false] at hu
  rcases hu with rfl | rfl | rfl | rfl | rfl | rfl | rfl | rfl | rfl <;> rfl
theorem ses_cells (L : List SE) (x : SE) : (L ++ [x]).flatMap SE.cells = L.flatMap SE.cells ++ x.cells := by simp [List.flatMap_append]
/-- What a state says, wherever its body stands. -/
def SE.con (s : SE) : Hd × Nat × List Int := (s.h, s.n, s.B)
/-- States in memory of their own. -/
structure StsY (w w' : World) (A : Option Addr) (n c : Nat) (L : List SE) : Prop where
  row : w'.ownsRow w.heap.size 76 9 (.slice A n c) n (L.flatMap SE.cells)
  ok : ∀ s ∈ L, s.ok w.heap.size w'
theorem StsY.later {w W W' : World} {A : Option Addr} {n c : Nat} {L : List SE} (h : StsY w W A n c L) (hb : Below W.heap.size W W') : StsY w W' A n c L := ⟨own_kept h.row (Kept.of_new hb (fun _ => False)) (fun _ _ h => h), fun s hs => (h.ok s hs).later hb⟩
/-- A state more. -/
theorem StsY.push {w W W' : World} {A A' : Option Addr} {n c c' : Nat} {L : List SE} {x : SE} (h : StsY w W A n c L) (hx : x.ok w.heap.size W) (hg : W.grownBy W' (Value.slice A n c).ownBlock) (ho : W'.ownsRow w.heap.size 76 9 (.slice A' (n + 1) c') (n + 1) (L.flatMap SE.cells ++ x.cells)) : StsY w W' A' (n + 1) c' (L ++ [x]) := by
  have k := Kept.of_grown hg
  have far : ∀ s : SE, s.ok w.heap.size W → s.ok w.heap.size W' := fun s hs => ⟨hs.head, own_kept hs.body k (fun i hi e => own_ne hs.body h.row (by decide) i hi e), hs.oct, hs.len⟩
  refine ⟨by rw [ses_cells]; exact ho, fun s hs => ?_⟩
  rcases List.mem_append.mp hs with hs | hs
  · exact far s (h.ok s hs)
  · rw [List.mem_singleton] at hs
    subst hs
    exact far s hx
def CpsP (w w' : World) (L : List SE) (n : Nat) (e : Ending) : Prop := ∃ A c L', e = .returned (.slice A n c) ∧ StsY w w' A n c L' ∧ L'.map SE.con = L.map SE.con ∧ Below w.heap.size w w'
def CsR (w : World) (L : List SE) (n : Nat) (cv iv : Value) (W : World) : Prop :=
  ∃ (i : Nat) (A : Option Addr) (c : Nat) (L' : List SE), cv = .slice A i c ∧ iv = .int .i64 i ∧ i ≤ n ∧ Hid (StsY w W A i c L') ∧ Hid (L'.map SE.con = (L.take i).map SE.con) ∧ Hid (Below w.heap.size w W)
set_option maxRecDepth 100000 in
set_option maxHeartbeats 4000000 in
theorem copyStates_any (A : Option Addr) (n c : Nat) (L : List SE) (w : World) (hL : Stl w A n L) (hf : ∀ s ∈ L, s.n ≤ 1099511627776) (hn : n ≤ 1073741824) (hc : n ≤ c ∧ c ≤ 9223372036854775807) :
    Calls Try.prog 47 #[.slice A n c] w fun e w' => CpsP w w' L n e := by
  have HL := Lib.hid hL
  have HF := Lib.hid hf
  clear hL hf
  go_enter Try.func47, Try.ntmps47
  go_wp2_with fail
  go_loopw [3, 4] (CsR w L n) (fun _ iv _ => n - (intOf iv).toNat)
  case atStart => exact ⟨0, none, 0, [], rfl, rfl, by omega, Lib.hid ⟨own_nil _ _ _ _, fun s hs => by simp at hs⟩, Lib.hid rfl, Lib.hid (Below.refl _ _)⟩
  case round =>
    obtain ⟨i, A2, c2, L', rfl, rfl, hi, hY, hS, hB⟩ := hrel
    by_cases hlt : i < n
    · obtain ⟨ad, x, rfl, _, hx, hok, a0, a1, a2, a3, a4, a5, a6, a7, a8⟩ := (HL.out.later hB.out).at_ hlt
      have HXo := Lib.hid (hok.rd (HF.out x (List.mem_of_getElem? hx)))
      have HT := Lib.hid (take_snocL hx)
      clear hx hok
      obtain ⟨h, xA, xn, xc, xB⟩ := x
      simp only at a0 a1 a2 a3 a4 a5 a6 a7 a8
      go_wp2_with fail
      clear a0 a1 a2 a3 a4 a5 a6 a7 a8
      refine (copyState_any ⟨h, xA, xn, xc, xB⟩ wr HXo.out).mono ?_
      rintro e w2 ⟨s', rfl, hcp, hb2⟩
      have HCp : Hid (s'.con = (⟨h, xA, xn, xc, xB⟩ : SE).con) := Lib.hid (by unfold SE.con; rw [hcp.h, hcp.n, hcp.B])
      have HOk := Lib.hid (hcp.ok.mono hB.out.size)
      have HY2 := Lib.hid (hY.out.later hb2)
      have HB2 := Lib.hid (below_then hB.out hb2)
      clear hcp hb2 hY hB HXo
      obtain ⟨h', sA, sn, sc, sB⟩ := s'
      have hb3 : Below w2.heap.size w2 (w2.alloc (.cells #[.int .u16 h'.age, .int .u8 h'.opts, .int .u8 h'.typ, .int .u32 h'.id, .int .u32 h'.adv, .int .i32 h'.seq, .int .u16 h'.sum, .int .u16 h'.len, .slice sA sn sc] 76)) := (Below.refl _ _).alloc (Nat.le_refl _) _
      have HBl := Blk.new w2 76 #[.int .u16 h'.age, .int .u8 h'.opts, .int .u8 h'.typ, .int .u32 h'.id, .int .u32 h'.adv, .int .i32 h'.seq, .int .u16 h'.sum, .int .u16 h'.len, .slice sA sn sc]
      have HRd : Hid (Reads (w2.alloc (.cells #[.int .u16 h'.age, .int .u8 h'.opts, .int .u8 h'.typ, .int .u32 h'.id, .int .u32 h'.adv, .int .i32 h'.seq, .int .u16 h'.sum, .int .u16 h'.len, .slice sA sn sc] 76)) (w2.alloc (.cells #[.int .u16 h'.age, .int .u8 h'.opts, .int .u8 h'.typ, .int .u32 h'.id, .int .u32 h'.adv, .int .i32 h'.seq, .int .u16 h'.sum, .int .u16 h'.len, .slice sA sn sc] 76)).heap.size 9 (some ⟨w2.heap.size, 0, none⟩) 1 (SE.cells ⟨h', sA, sn, sc, sB⟩)) := Lib.hid ⟨rfl, fun _ => ⟨_, rfl, HBl.lt, fun j u hu => by rw [add_none, Nat.zero_add, HBl.cell]; simpa [SE.cells] using hu⟩⟩
      have HY3 := Lib.hid (HY2.out.later hb3)
      have HOk3 := Lib.hid (HOk.out.later hb3)
      have HB3 := Lib.hid (below_then HB2.out hb3)
      have hbase : w.heap.size ≤ (w2.alloc (.cells #[.int .u16 h'.age, .int .u8 h'.opts, .int .u8 h'.typ, .int .u32 h'.id, .int .u32 h'.adv, .int .i32 h'.seq, .int .u16 h'.sum, .int .u16 h'.len, .slice sA sn sc] 76)).heap.size := HB3.out.size
      clear hb3 HBl HY2 HOk HB2
      go_wp2_with (at_builtin; generalize w2.heap.size = gy at *; generalize w2.alloc (.cells #[.int .u16 h'.age, .int .u8 h'.opts, .int .u8 h'.typ, .int .u32 h'.id, .int .u32 h'.adv, .int .i32 h'.seq, .int .u16 h'.sum, .int .u16 h'.len, .slice sA sn sc] 76) = w3 at *; go_must (refine wpList_app el_state rfl (.tmp 11) (.tmp 17) rfl HY3.out.row rfl HRd.out rfl (se_one _) (by simp only [maxLen]; omega) (by omega) hbase ?_); intro v5 w4 ho4 hb4 hg4 hn4; obtain ⟨A5, c5, hv5, -⟩ := own_shape_n ho4; subst hv5; have H4 := Lib.hid (And.intro ho4 (And.intro hg4 hb4)); clear ho4 hb4 hg4 hn4)
      have HY4 := Lib.hid (HY3.out.push HOk3.out H4.out.2.1 H4.out.1)
      have HB4 := Lib.hid (HB3.out.trans H4.out.2.2)
      go_roundw
      case rel => exact ⟨i + 1, A5, c5, _, rfl, by go_num, by omega, HY4, Lib.hid (by rw [HT.out, List.map_append, List.map_append, hS.out, List.map_singleton, List.map_singleton, HCp.out]), HB4⟩
      case measure => simp [intOf]; omega
    · obtain rfl : i = n := by omega
      go_wp2_with fail
      go_ret
      refine ⟨A2, c2, L', rfl, hY.out, ?_, hB.out⟩
      have := hS.out
      rwa [List.take_of_length_le (by rw [HL.out.len]; exact Nat.le_refl _)] at this
end Go.Proofs.Ytbkejlalbjomkaa
namespace Go.Proofs.Ytbkejlalbjomkaa
set_option linter.unusedVariables false
open Go.RowKit

structure CpF (w W : World) (gx gz : Nat) (C : Array Value) : Prop where
  x : Blk W gx 33 C
  z : Blk W gz 33 #[.int .u8 0, .int .u32 0, .int .u32 0, .int .u32 0, .int .u16 0, .int .u8 0, .int .u8 0, .int .u32 0, .int .u32 0, .int .u32 0, .slice none 0 0, .int .u16 0, .int .u8 0, .int .u8 0, .int .u32 0, .slice none 0 0, .slice none 0 0, .slice none 0 0, .slice none 0 0]
  b : Below w.heap.size w W
  bx : w.heap.size ≤ gx
  bz : w.heap.size ≤ gz
  ne : gx ≠ gz
theorem CpF.later {w W W' : World} {gx gz : Nat} {C : Array Value} (h : CpF w W gx gz C) (k : Below W.heap.size W W') : CpF w W' gx gz C := ⟨h.x.later k, h.z.later k, below_then h.b k, h.bx, h.bz, h.ne⟩
theorem CpF.put {w W : World} {gx gz : Nat} {C : Array Value} (h : CpF w W gx gz C) (i : Nat) (u : Value) : CpF w (W.setCell ⟨gx, i, none⟩ u) gx gz (C.setIfInBounds i u) :=
  ⟨h.x.set_ i u, Blk.far (p := ⟨gx, i, none⟩) h.z h.ne.symm u, h.b.setCell (p := ⟨gx, i, none⟩) h.bx u, h.bx, h.bz, h.ne⟩
theorem row_put {W : World} {base sz n gx : Nat} {e : TypeId} {v : Value} {xs : List Value} {C : Array Value} (h : W.ownsRow base e sz v n xs) (k : Blk W gx 33 C) (hne : e ≠ 33) (i : Nat) (u : Value) : (W.setCell ⟨gx, i, none⟩ u).ownsRow base e sz v n xs :=
  own_kept h (kept_setC W gx i u) (fun j hj e => own_blk_ne h k hne (by rw [hj]; exact congrArg some e))
theorem StsY.put {w W : World} {A : Option Addr} {n c gx : Nat} {L : List SE} {C : Array Value} (h : StsY w W A n c L) (k : Blk W gx 33 C) (i : Nat) (u : Value) : StsY w (W.setCell ⟨gx, i, none⟩ u) A n c L :=
  ⟨row_put h.row k (by decide) i u, fun s hs => ⟨(h.ok s hs).head, row_put (h.ok s hs).body k (by decide) i u, (h.ok s hs).oct, (h.ok s hs).len⟩⟩
theorem StsY.mono {w w0 W : World} {A : Option Addr} {n c : Nat} {L : List SE} (h : StsY w W A n c L) (hb : w0.heap.size ≤ w.heap.size) : StsY w0 W A n c L := ⟨own_mono h.row hb, fun s hs => (h.ok s hs).mono hb⟩
/-- A packet whose lists stand in memory of their own. -/
structure PkY (w w' : World) (p : PA) : Prop where
  n : w'.ownsRow w.heap.size 22 1 (.slice p.NA p.nn p.nc) p.nn (u32s p.nb)
  d : w'.ownsRow w.heap.size 74 8 (.slice p.DA p.dn p.dc) p.dn (p.dh.flatMap Hd.cells)
  k : w'.ownsRow w.heap.size 129 3 (.slice p.KA p.kn p.kc) p.kn (p.ks.flatMap Ky.cells)
  s : StsY w w' p.SA p.sn p.sc p.ss
  h : w'.ownsRow w.heap.size 74 8 (.slice p.HA p.hn p.hc) p.hn (p.hs.flatMap Hd.cells)
/-- The same packet, somewhere else. -/
structure SameP (p q : PA) : Prop where
  eq : q = { p with NA := q.NA, nc := q.nc, DA := q.DA, dc := q.dc, KA := q.KA, kc := q.kc, SA := q.SA, sc := q.sc, ss := q.ss, HA := q.HA, hc := q.hc }
  st : q.ss.map SE.con = p.ss.map SE.con
def CpP (w w' : World) (p : PA) (e : Ending) : Prop := ∃ q : PA, e = .returned q.v ∧ SameP p q ∧ PkY w w' q ∧ Below w.heap.size w w'
set_option maxRecDepth 100000 in
set_option maxHeartbeats 8000000 in
theorem copyPacket_any (p : PA) (w : World) (hp : p.rd w) (hf : p.few) : Calls Try.prog 11 #[p.v] w fun e w' => CpP w w' p e := by
  have HP := Lib.hid hp
  have HFw := Lib.hid hf
  have HC : Hid (CpF w ((w.alloc (.cells #[.int .u8 p.typ, .int .u32 p.router, .int .u32 p.area, .int .u32 p.mask, .int .u16 p.ivl, .int .u8 p.hopts, .int .u8 p.pri, .int .u32 p.dead, .int .u32 p.dr, .int .u32 p.bdr, .slice p.NA p.nn p.nc, .int .u16 p.mtu, .int .u8 p.dopts, .int .u8 p.flags, .int .u32 p.seq, .slice p.DA p.dn p.dc, .slice p.KA p.kn p.kc, .slice p.SA p.sn p.sc, .slice p.HA p.hn p.hc] 33)).alloc (.cells #[.int .u8 0, .int .u32 0, .int .u32 0, .int .u32 0, .int .u16 0, .int .u8 0, .int .u8 0, .int .u32 0, .int .u32 0, .int .u32 0, .slice none 0 0, .int .u16 0, .int .u8 0, .int .u8 0, .int .u32 0, .slice none 0 0, .slice none 0 0, .slice none 0 0, .slice none 0 0] 33)) w.heap.size (w.heap.size + 1) #[.int .u8 p.typ, .int .u32 p.router, .int .u32 p.area, .int .u32 p.mask, .int .u16 p.ivl, .int .u8 p.hopts, .int .u8 p.pri, .int .u32 p.dead, .int .u32 p.dr, .int .u32 p.bdr, .slice p.NA p.nn p.nc, .int .u16 p.mtu, .int .u8 p.dopts, .int .u8 p.flags, .int .u32 p.seq, .slice p.DA p.dn p.dc, .slice p.KA p.kn p.kc, .slice p.SA p.sn p.sc, .slice p.HA p.hn p.hc]) := Lib.hid ⟨(Blk.new _ _ _).alloc _, new_at _ _ _, below_two _ _ _, Nat.le_refl _, Nat.le_succ _, by omega⟩
  clear hp hf
  show Calls Try.prog 11 #[.agg #[.int .u8 p.typ, .int .u32 p.router, .int .u32 p.area, .int .u32 p.mask, .int .u16 p.ivl, .int .u8 p.hopts, .int .u8 p.pri, .int .u32 p.dead, .int .u32 p.dr, .int .u32 p.bdr, .slice p.NA p.nn p.nc, .int .u16 p.mtu, .int .u8 p.dopts, .int .u8 p.flags, .int .u32 p.seq, .slice p.DA p.dn p.dc, .slice p.KA p.kn p.kc, .slice p.SA p.sn p.sc, .slice p.HA p.hn p.hc]] w _
  go_enter Try.func11, Try.ntmps11
  go_wp2_with fail
  generalize hgx : w.heap.size = gx at HC ⊢
  generalize hgz : gx + 1 = gz at *
  have HG := Lib.hid (And.intro hgx hgz)
  clear hgx hgz
  generalize (w.alloc (.cells #[.int .u8 p.typ, .int .u32 p.router, .int .u32 p.area, .int .u32 p.mask, .int .u16 p.ivl, .int .u8 p.hopts, .int .u8 p.pri, .int .u32 p.dead, .int .u32 p.dr, .int .u32 p.bdr, .slice p.NA p.nn p.nc, .int .u16 p.mtu, .int .u8 p.dopts, .int .u8 p.flags, .int .u32 p.seq, .slice p.DA p.dn p.dc, .slice p.KA p.kn p.kc, .slice p.SA p.sn p.sc, .slice p.HA p.hn p.hc] 33)).alloc (.cells #[.int .u8 0, .int .u32 0, .int .u32 0, .int .u32 0, .int .u16 0, .int .u8 0, .int .u8 0, .int .u32 0, .int .u32 0, .int .u32 0, .slice none 0 0, .int .u16 0, .int .u8 0, .int .u8 0, .int .u32 0, .slice none 0 0, .slice none 0 0, .slice none 0 0, .slice none 0 0] 33) = w1 at *
  have b3 := HC.out.x.cell 3
  have b4 := HC.out.x.cell 4
  have b5 := HC.out.x.cell 5
  have b6 := HC.out.x.cell 6
  have b7 := HC.out.x.cell 7
  have b8 := HC.out.x.cell 8
  have b9 := HC.out.x.cell 9
  have b10 := HC.out.x.cell 10
  simp at b3 b4 b5 b6 b7 b8 b9 b10
  go_wp2_with fail
  clear b3 b4 b5 b6 b7 b8 b9 b10
  refine (copyHello_any p w1 (HP.out.nr.later HC.out.b) (Nat.le_trans HFw.out.n (by decide)) HP.out.ok.nc).mono ?_
  rintro e v1 ⟨An, cn, rfl, ho, hb⟩
  have H_n := Lib.hid (own_mono ho HC.out.b.size)
  replace HC := Lib.hid (HC.out.later hb)
  clear ho hb
  have f3 := HC.out.x.frozen 3
  have y3 := HC.out.x.cell 3
  have f4 := HC.out.x.frozen 4
  have y4 := HC.out.x.cell 4
  have f5 := HC.out.x.frozen 5
  have y5 := HC.out.x.cell 5
  have f6 := HC.out.x.frozen 6
  have y6 := HC.out.x.cell 6
  have f7 := HC.out.x.frozen 7
  have y7 := HC.out.x.cell 7
  have f8 := HC.out.x.frozen 8
  have y8 := HC.out.x.cell 8
  have f9 := HC.out.x.frozen 9
  have y9 := HC.out.x.cell 9
  have f10 := HC.out.x.frozen 10
  have y10 := HC.out.x.cell 10
  have y11 := HC.out.x.cell 11
  have y12 := HC.out.x.cell 12
  have y13 := HC.out.x.cell 13
  have y14 := HC.out.x.cell 14
  have y15 := HC.out.x.cell 15
  simp at y3 y4 y5 y6 y7 y8 y9 y10 y11 y12 y13 y14 y15
  have HC2 := Lib.hid ((((((((HC.out.put 3 (.int .u32 p.mask)).put 4 (.int .u16 p.ivl)).put 5 (.int .u8 p.hopts)).put 6 (.int .u8 p.pri)).put 7 (.int .u32 p.dead)).put 8 (.int .u32 p.dr)).put 9 (.int .u32 p.bdr)).put 10 (.slice An p.nn cn))
  have H2_n := Lib.hid (row_put (row_put (row_put (row_put (row_put (row_put (row_put (row_put H_n.out HC.out.x (by decide) 3 (.int .u32 p.mask)) (HC.out.put 3 (.int .u32 p.mask)).x (by decide) 4 (.int .u16 p.ivl)) ((HC.out.put 3 (.int .u32 p.mask)).put 4 (.int .u16 p.ivl)).x (by decide) 5 (.int .u8 p.hopts)) (((HC.out.put 3 (.int .u32 p.mask)).put 4 (.int .u16 p.ivl)).put 5 (.int .u8 p.hopts)).x (by decide) 6 (.int .u8 p.pri)) ((((HC.out.put 3 (.int .u32 p.mask)).put 4 (.int .u16 p.ivl)).put 5 (.int .u8 p.hopts)).put 6 (.int .u8 p.pri)).x (by decide) 7 (.int .u32 p.dead)) (((((HC.out.put 3 (.int .u32 p.mask)).put 4 (.int .u16 p.ivl)).put 5 (.int .u8 p.hopts)).put 6 (.int .u8 p.pri)).put 7 (.int .u32 p.dead)).x (by decide) 8 (.int .u32 p.dr)) ((((((HC.out.put 3 (.int .u32 p.mask)).put 4 (.int .u16 p.ivl)).put 5 (.int .u8 p.hopts)).put 6 (.int .u8 p.pri)).put 7 (.int .u32 p.dead)).put 8 (.int .u32 p.dr)).x (by decide) 9 (.int .u32 p.bdr)) (((((((HC.out.put 3 (.int .u32 p.mask)).put 4 (.int .u16 p.ivl)).put 5 (.int .u8 p.hopts)).put 6 (.int .u8 p.pri)).put 7 (.int .u32 p.dead)).put 8 (.int .u32 p.dr)).put 9 (.int .u32 p.bdr)).x (by decide) 10 (.slice An p.nn cn))
  rw [show (((((((((#[.int .u8 p.typ, .int .u32 p.router, .int .u32 p.area, .int .u32 p.mask, .int .u16 p.ivl, .int .u8 p.hopts, .int .u8 p.pri, .int .u32 p.dead, .int .u32 p.dr, .int .u32 p.bdr, .slice p.NA p.nn p.nc, .int .u16 p.mtu, .int .u8 p.dopts, .int .u8 p.flags, .int .u32 p.seq, .slice p.DA p.dn p.dc, .slice p.KA p.kn p.kc, .slice p.SA p.sn p.sc, .slice p.HA p.hn p.hc] : Array Value).setIfInBounds 3 (.int .u32 p.mask)).setIfInBounds 4 (.int .u16 p.ivl)).setIfInBounds 5 (.int .u8 p.hopts)).setIfInBounds 6 (.int .u8 p.pri)).setIfInBounds 7 (.int .u32 p.dead)).setIfInBounds 8 (.int .u32 p.dr)).setIfInBounds 9 (.int .u32 p.bdr)).setIfInBounds 10 (.slice An p.nn cn)) = (#[.int .u8 p.typ, .int .u32 p.router, .int .u32 p.area, .int .u32 p.mask, .int .u16 p.ivl, .int .u8 p.hopts, .int .u8 p.pri, .int .u32 p.dead, .int .u32 p.dr, .int .u32 p.bdr, .slice An p.nn cn, .int .u16 p.mtu, .int .u8 p.dopts, .int .u8 p.flags, .int .u32 p.seq, .slice p.DA p.dn p.dc, .slice p.KA p.kn p.kc, .slice p.SA p.sn p.sc, .slice p.HA p.hn p.hc] : Array Value) from (by kernel_rfl)] at HC2
  go_wp2_with fail
  clear f3 y3 f4 y4 f5 y5 f6 y6 f7 y7 f8 y8 f9 y9 f10 y10 y11 y12 y13 y14 y15 HC H_n
  generalize (((((((v1.setCell ⟨gx, 3, none⟩ (.int .u32 p.mask)).setCell ⟨gx, 4, none⟩ (.int .u16 p.ivl)).setCell ⟨gx, 5, none⟩ (.int .u8 p.hopts)).setCell ⟨gx, 6, none⟩ (.int .u8 p.pri)).setCell ⟨gx, 7, none⟩ (.int .u32 p.dead)).setCell ⟨gx, 8, none⟩ (.int .u32 p.dr)).setCell ⟨gx, 9, none⟩ (.int .u32 p.bdr)).setCell ⟨gx, 10, none⟩ (.slice An p.nn cn) = w2 at *
  have HC := HC2
  have H_n := H2_n
  clear HC2 H2_n
  refine (copyDD_any p w2 (HP.out.dr.later HC.out.b) (Nat.le_trans HFw.out.d (by decide)) HP.out.ok.dc).mono ?_
  rintro e v2 ⟨Ad, cd, rfl, ho, hb⟩
  have H_d := Lib.hid (own_mono ho HC.out.b.size)
  replace HC := Lib.hid (HC.out.later hb)
  replace H_n := Lib.hid (own_kept H_n.out (Kept.of_new hb (fun _ => False)) (fun _ _ h => h))
  clear ho hb
  have f11 := HC.out.x.frozen 11
  have y11 := HC.out.x.cell 11
  have f12 := HC.out.x.frozen 12
  have y12 := HC.out.x.cell 12
  have f13 := HC.out.x.frozen 13
  have y13 := HC.out.x.cell 13
  have f14 := HC.out.x.frozen 14
  have y14 := HC.out.x.cell 14
  have f15 := HC.out.x.frozen 15
  have y15 := HC.out.x.cell 15
  have y16 := HC.out.x.cell 16
  simp at y11 y12 y13 y14 y15 y16
  have HC2 := Lib.hid (((((HC.out.put 11 (.int .u16 p.mtu)).put 12 (.int .u8 p.dopts)).put 13 (.int .u8 p.flags)).put 14 (.int .u32 p.seq)).put 15 (.slice Ad p.dn cd))
  have H2_n := Lib.hid (row_put (row_put (row_put (row_put (row_put H_n.out HC.out.x (by decide) 11 (.int .u16 p.mtu)) (HC.out.put 11 (.int .u16 p.mtu)).x (by decide) 12 (.int .u8 p.dopts)) ((HC.out.put 11 (.int .u16 p.mtu)).put 12 (.int .u8 p.dopts)).x (by decide) 13 (.int .u8 p.flags)) (((HC.out.put 11 (.int .u16 p.mtu)).put 12 (.int .u8 p.dopts)).put 13 (.int .u8 p.flags)).x (by decide) 14 (.int .u32 p.seq)) ((((HC.out.put 11 (.int .u16 p.mtu)).put 12 (.int .u8 p.dopts)).put 13 (.int .u8 p.flags)).put 14 (.int .u32 p.seq)).x (by decide) 15 (.slice Ad p.dn cd))
  have H2_d := Lib.hid (row_put (row_put (row_put (row_put (row_put H_d.out HC.out.x (by decide) 11 (.int .u16 p.mtu)) (HC.out.put 11 (.int .u16 p.mtu)).x (by decide) 12 (.int .u8 p.dopts)) ((HC.out.put 11 (.int .u16 p.mtu)).put 12 (.int .u8 p.dopts)).x (by decide) 13 (.int .u8 p.flags)) (((HC.out.put 11 (.int .u16 p.mtu)).put 12 (.int .u8 p.dopts)).put 13 (.int .u8 p.flags)).x (by decide) 14 (.int .u32 p.seq)) ((((HC.out.put 11 (.int .u16 p.mtu)).put 12 (.int .u8 p.dopts)).put 13 (.int .u8 p.flags)).put 14 (.int .u32 p.seq)).x (by decide) 15 (.slice Ad p.dn cd))
  rw [show ((((((#[.int .u8 p.typ, .int .u32 p.router, .int .u32 p.area, .int .u32 p.mask, .int .u16 p.ivl, .int .u8 p.hopts, .int .u8 p.pri, .int .u32 p.dead, .int .u32 p.dr, .int .u32 p.bdr, .slice An p.nn cn, .int .u16 p.mtu, .int .u8 p.dopts, .int .u8 p.flags, .int .u32 p.seq, .slice p.DA p.dn p.dc, .slice p.KA p.kn p.kc, .slice p.SA p.sn p.sc, .slice p.HA p.hn p.hc] : Array Value).setIfInBounds 11 (.int .u16 p.mtu)).setIfInBounds 12 (.int .u8 p.dopts)).setIfInBounds 13 (.int .u8 p.flags)).setIfInBounds 14 (.int .u32 p.seq)).setIfInBounds 15 (.slice Ad p.dn cd)) = (#[.int .u8 p.typ, .int .u32 p.router, .int .u32 p.area, .int .u32 p.mask, .int .u16 p.ivl, .int .u8 p.hopts, .int .u8 p.pri, .int .u32 p.dead, .int .u32 p.dr, .int .u32 p.bdr, .slice An p.nn cn, .int .u16 p.mtu, .int .u8 p.dopts, .int .u8 p.flags, .int .u32 p.seq, .slice Ad p.dn cd, .slice p.KA p.kn p.kc, .slice p.SA p.sn p.sc, .slice p.HA p.hn p.hc] : Array Value) from (by kernel_rfl)] at HC2
  go_wp2_with fail
  clear f11 y11 f12 y12 f13 y13 f14 y14 f15 y15 y16 HC H_n H_d
  generalize ((((v2.setCell ⟨gx, 11, none⟩ (.int .u16 p.mtu)).setCell ⟨gx, 12, none⟩ (.int .u8 p.dopts)).setCell ⟨gx, 13, none⟩ (.int .u8 p.flags)).setCell ⟨gx, 14, none⟩ (.int .u32 p.seq)).setCell ⟨gx, 15, none⟩ (.slice Ad p.dn cd) = w3 at *
  have HC := HC2
  have H_n := H2_n
  have H_d := H2_d
  clear HC2 H2_n H2_d
  refine (copyKeys_any p.KA p.kn p.kc p.ks w3 (HP.out.kr.later HC.out.b) (Nat.le_trans HFw.out.k (by decide))).mono ?_
  rintro e v3 ⟨v, rfl, ho, hb⟩
  obtain ⟨Ak, ck, hv, -⟩ := own_shape_n ho
  subst hv
  have H_k := Lib.hid (own_mono ho HC.out.b.size)
  replace HC := Lib.hid (HC.out.later hb)
  replace H_n := Lib.hid (own_kept H_n.out (Kept.of_new hb (fun _ => False)) (fun _ _ h => h))
  replace H_d := Lib.hid (own_kept H_d.out (Kept.of_new hb (fun _ => False)) (fun _ _ h => h))
  clear ho hb
  have f16 := HC.out.x.frozen 16
  have y16 := HC.out.x.cell 16
  have y17 := HC.out.x.cell 17
  simp at y16 y17
  have HC2 := Lib.hid (HC.out.put 16 (.slice Ak p.kn ck))
  have H2_n := Lib.hid (row_put H_n.out HC.out.x (by decide) 16 (.slice Ak p.kn ck))
  have H2_d := Lib.hid (row_put H_d.out HC.out.x (by decide) 16 (.slice Ak p.kn ck))
  have H2_k := Lib.hid (row_put H_k.out HC.out.x (by decide) 16 (.slice Ak p.kn ck))
  rw [show ((#[.int .u8 p.typ, .int .u32 p.router, .int .u32 p.area, .int .u32 p.mask, .int .u16 p.ivl, .int .u8 p.hopts, .int .u8 p.pri, .int .u32 p.dead, .int .u32 p.dr, .int .u32 p.bdr, .slice An p.nn cn, .int .u16 p.mtu, .int .u8 p.dopts, .int .u8 p.flags, .int .u32 p.seq, .slice Ad p.dn cd, .slice p.KA p.kn p.kc, .slice p.SA p.sn p.sc, .slice p.HA p.hn p.hc] : Array Value).setIfInBounds 16 (.slice Ak p.kn ck)) = (#[.int .u8 p.typ, .int .u32 p.router, .int .u32 p.area, .int .u32 p.mask, .int .u16 p.ivl, .int .u8 p.hopts, .int .u8 p.pri, .int .u32 p.dead, .int .u32 p.dr, .int .u32 p.bdr, .slice An p.nn cn, .int .u16 p.mtu, .int .u8 p.dopts, .int .u8 p.flags, .int .u32 p.seq, .slice Ad p.dn cd, .slice Ak p.kn ck, .slice p.SA p.sn p.sc, .slice p.HA p.hn p.hc] : Array Value) from (by kernel_rfl)] at HC2
  go_wp2_with fail
  clear f16 y16 y17 HC H_n H_d H_k
  generalize v3.setCell ⟨gx, 16, none⟩ (.slice Ak p.kn ck) = w4 at *
  have HC := HC2
  have H_n := H2_n
  have H_d := H2_d
  have H_k := H2_k
  clear HC2 H2_n H2_d H2_k
  refine (copyStates_any p.SA p.sn p.sc p.ss w4 ((⟨HP.out.sr, HP.out.ok.sl, HP.out.sa⟩ : Stl w p.SA p.sn p.ss).later HC.out.b) (fun s hs => Nat.le_trans (HFw.out.b s hs) (by decide)) (Nat.le_trans HFw.out.s (by decide)) HP.out.ok.sc).mono ?_
  rintro e v4 ⟨As, cs, Ls, rfl, ho, hcon, hb⟩
  have H_s := Lib.hid (ho.mono HC.out.b.size)
  have HCon := Lib.hid hcon
  clear hcon
  replace HC := Lib.hid (HC.out.later hb)
  replace H_n := Lib.hid (own_kept H_n.out (Kept.of_new hb (fun _ => False)) (fun _ _ h => h))
  replace H_d := Lib.hid (own_kept H_d.out (Kept.of_new hb (fun _ => False)) (fun _ _ h => h))
  replace H_k := Lib.hid (own_kept H_k.out (Kept.of_new hb (fun _ => False)) (fun _ _ h => h))
  clear ho hb
  have f17 := HC.out.x.frozen 17
  have y17 := HC.out.x.cell 17
  have y18 := HC.out.x.cell 18
  simp at y17 y18
  have HC2 := Lib.hid (HC.out.put 17 (.slice As p.sn cs))
  have H2_n := Lib.hid (row_put H_n.out HC.out.x (by decide) 17 (.slice As p.sn cs))
  have H2_d := Lib.hid (row_put H_d.out HC.out.x (by decide) 17 (.slice As p.sn cs))
  have H2_k := Lib.hid (row_put H_k.out HC.out.x (by decide) 17 (.slice As p.sn cs))
  have H2_s := Lib.hid (H_s.out.put HC.out.x 17 (.slice As p.sn cs))
  rw [show ((#[.int .u8 p.typ, .int .u32 p.router, .int .u32 p.area, .int .u32 p.mask, .int .u16 p.ivl, .int .u8 p.hopts, .int .u8 p.pri, .int .u32 p.dead, .int .u32 p.dr, .int .u32 p.bdr, .slice An p.nn cn, .int .u16 p.mtu, .int .u8 p.dopts, .int .u8 p.flags, .int .u32 p.seq, .slice Ad p.dn cd, .slice Ak p.kn ck, .slice p.SA p.sn p.sc, .slice p.HA p.hn p.hc] : Array Value).setIfInBounds 17 (.slice As p.sn cs)) = (#[.int .u8 p.typ, .int .u32 p.router, .int .u32 p.area, .int .u32 p.mask, .int .u16 p.ivl, .int .u8 p.hopts, .int .u8 p.pri, .int .u32 p.dead, .int .u32 p.dr, .int .u32 p.bdr, .slice An p.nn cn, .int .u16 p.mtu, .int .u8 p.dopts, .int .u8 p.flags, .int .u32 p.seq, .slice Ad p.dn cd, .slice Ak p.kn ck, .slice As p.sn cs, .slice p.HA p.hn p.hc] : Array Value) from (by kernel_rfl)] at HC2
  go_wp2_with fail
  clear f17 y17 y18 HC H_n H_d H_k H_s
  generalize v4.setCell ⟨gx, 17, none⟩ (.slice As p.sn cs) = w5 at *
  have HC := HC2
  have H_n := H2_n
  have H_d := H2_d
  have H_k := H2_k
  have H_s := H2_s
  clear HC2 H2_n H2_d H2_k H2_s
  refine (copyHeads_any p.HA p.hn p.hc p.hs w5 (HP.out.hr.later HC.out.b) (Nat.le_trans HFw.out.h (by decide))).mono ?_
  rintro e v5 ⟨v, rfl, ho, hb⟩
  obtain ⟨Ah, ch, hv, -⟩ := own_shape_n ho
  subst hv
  have H_h := Lib.hid (own_mono ho HC.out.b.size)
  replace HC := Lib.hid (HC.out.later hb)
  replace H_n := Lib.hid (own_kept H_n.out (Kept.of_new hb (fun _ => False)) (fun _ _ h => h))
  replace H_d := Lib.hid (own_kept H_d.out (Kept.of_new hb (fun _ => False)) (fun _ _ h => h))
  replace H_k := Lib.hid (own_kept H_k.out (Kept.of_new hb (fun _ => False)) (fun _ _ h => h))
  replace H_s := Lib.hid (H_s.out.later hb)
  clear ho hb
  have f18 := HC.out.x.frozen 18
  have y18 := HC.out.x.cell 18
  simp at y18
  have HC2 := Lib.hid (HC.out.put 18 (.slice Ah p.hn ch))
  have H2_n := Lib.hid (row_put H_n.out HC.out.x (by decide) 18 (.slice Ah p.hn ch))
  have H2_d := Lib.hid (row_put H_d.out HC.out.x (by decide) 18 (.slice Ah p.hn ch))
  have H2_k := Lib.hid (row_put H_k.out HC.out.x (by decide) 18 (.slice Ah p.hn ch))
  have H2_s := Lib.hid (H_s.out.put HC.out.x 18 (.slice Ah p.hn ch))
  have H2_h := Lib.hid (row_put H_h.out HC.out.x (by decide) 18 (.slice Ah p.hn ch))
  rw [show ((#[.int .u8 p.typ, .int .u32 p.router, .int .u32 p.area, .int .u32 p.mask, .int .u16 p.ivl, .int .u8 p.hopts, .int .u8 p.pri, .int .u32 p.dead, .int .u32 p.dr, .int .u32 p.bdr, .slice An p.nn cn, .int .u16 p.mtu, .int .u8 p.dopts, .int .u8 p.flags, .int .u32 p.seq, .slice Ad p.dn cd, .slice Ak p.kn ck, .slice As p.sn cs, .slice p.HA p.hn p.hc] : Array Value).setIfInBounds 18 (.slice Ah p.hn ch)) = (#[.int .u8 p.typ, .int .u32 p.router, .int .u32 p.area, .int .u32 p.mask, .int .u16 p.ivl, .int .u8 p.hopts, .int .u8 p.pri, .int .u32 p.dead, .int .u32 p.dr, .int .u32 p.bdr, .slice An p.nn cn, .int .u16 p.mtu, .int .u8 p.dopts, .int .u8 p.flags, .int .u32 p.seq, .slice Ad p.dn cd, .slice Ak p.kn ck, .slice As p.sn cs, .slice Ah p.hn ch] : Array Value) from (by kernel_rfl)] at HC2
  go_wp2_with (first | (refine wpList_load_row rfl 33 _ rfl gx rfl 33 #[.int .u8 p.typ, .int .u32 p.router, .int .u32 p.area, .int .u32 p.mask, .int .u16 p.ivl, .int .u8 p.hopts, .int .u8 p.pri, .int .u32 p.dead, .int .u32 p.dr, .int .u32 p.bdr, .slice An p.nn cn, .int .u16 p.mtu, .int .u8 p.dopts, .int .u8 p.flags, .int .u32 p.seq, .slice Ad p.dn cd, .slice Ak p.kn ck, .slice As p.sn cs, .slice Ah p.hn ch] (0, 0) _ HC2.out.x Try.underlying33 rfl info_packet ?_) | (refine wpList_store_row rfl 33 _ _ rfl gz #[.int .u8 p.typ, .int .u32 p.router, .int .u32 p.area, .int .u32 p.mask, .int .u16 p.ivl, .int .u8 p.hopts, .int .u8 p.pri, .int .u32 p.dead, .int .u32 p.dr, .int .u32 p.bdr, .slice An p.nn cn, .int .u16 p.mtu, .int .u8 p.dopts, .int .u8 p.flags, .int .u32 p.seq, .slice Ad p.dn cd, .slice Ak p.kn ck, .slice As p.sn cs, .slice Ah p.hn ch] rfl rfl 33 _ HC2.out.z info_packet rfl (by simp [Value.oneCell']) ?_))
  clear f18 y18  HC H_n H_d H_k H_s H_h
  generalize v5.setCell ⟨gx, 18, none⟩ (.slice Ah p.hn ch) = w6 at *
  have HC := HC2
  have H_n := H2_n
  have H_d := H2_d
  have H_k := H2_k
  have H_s := H2_s
  have H_h := H2_h
  clear HC2 H2_n H2_d H2_k H2_s H2_h
  refine bodyPost_ret (results_cell_row rfl _ _ gz 33 #[.int .u8 p.typ, .int .u32 p.router, .int .u32 p.area, .int .u32 p.mask, .int .u16 p.ivl, .int .u8 p.hopts, .int .u8 p.pri, .int .u32 p.dead, .int .u32 p.dr, .int .u32 p.bdr, .slice An p.nn cn, .int .u16 p.mtu, .int .u8 p.dopts, .int .u8 p.flags, .int .u32 p.seq, .slice Ad p.dn cd, .slice Ak p.kn ck, .slice As p.sn cs, .slice Ah p.hn ch] (0, 0) _ rfl (HC.out.z.setRow _) Try.underlying33 rfl info_packet) rfl ?_
  have kz : Kept (fun i => i = gz) w6 (w6.setRow gz #[.int .u8 p.typ, .int .u32 p.router, .int .u32 p.area, .int .u32 p.mask, .int .u16 p.ivl, .int .u8 p.hopts, .int .u8 p.pri, .int .u32 p.dead, .int .u32 p.dr, .int .u32 p.bdr, .slice An p.nn cn, .int .u16 p.mtu, .int .u8 p.dopts, .int .u8 p.flags, .int .u32 p.seq, .slice Ad p.dn cd, .slice Ak p.kn ck, .slice As p.sn cs, .slice Ah p.hn ch]) := (Kept.of_grown (only_setRow w6 gz #[.int .u8 p.typ, .int .u32 p.router, .int .u32 p.area, .int .u32 p.mask, .int .u16 p.ivl, .int .u8 p.hopts, .int .u8 p.pri, .int .u32 p.dead, .int .u32 p.dr, .int .u32 p.bdr, .slice An p.nn cn, .int .u16 p.mtu, .int .u8 p.dopts, .int .u8 p.flags, .int .u32 p.seq, .slice Ad p.dn cd, .slice Ak p.kn ck, .slice As p.sn cs, .slice Ah p.hn ch])).mono (T := fun i => i = gz) fun i _ e => by simpa using e.symm
  have far : ∀ {base sz n : Nat} {e : TypeId} {v : Value} {xs : List Value}, w6.ownsRow base e sz v n xs → e ≠ 33 → (w6.setRow gz #[.int .u8 p.typ, .int .u32 p.router, .int .u32 p.area, .int .u32 p.mask, .int .u16 p.ivl, .int .u8 p.hopts, .int .u8 p.pri, .int .u32 p.dead, .int .u32 p.dr, .int .u32 p.bdr, .slice An p.nn cn, .int .u16 p.mtu, .int .u8 p.dopts, .int .u8 p.flags, .int .u32 p.seq, .slice Ad p.dn cd, .slice Ak p.kn ck, .slice As p.sn cs, .slice Ah p.hn ch]).ownsRow base e sz v n xs := fun h hne => own_kept h kz (fun j hj e => own_blk_ne h HC.out.z hne (by rw [hj]; exact congrArg some e))
  exact ⟨{ p with NA := An, nc := cn, DA := Ad, dc := cd, KA := Ak, kc := ck, SA := As, sc := cs, ss := Ls, HA := Ah, hc := ch }, rfl, ⟨rfl, HCon.out⟩, ⟨far H_n.out (by decide), far H_d.out (by decide), far H_k.out (by decide), ⟨far H_s.out.row (by decide), fun s hs => ⟨(H_s.out.ok s hs).head, far (H_s.out.ok s hs).body (by decide), (H_s.out.ok s hs).oct, (H_s.out.ok s hs).len⟩⟩, far H_h.out (by decide)⟩, below_setRow HC.out.b HC.out.bz _⟩
end Go.Proofs.Ytbkejlalbjomkaa
