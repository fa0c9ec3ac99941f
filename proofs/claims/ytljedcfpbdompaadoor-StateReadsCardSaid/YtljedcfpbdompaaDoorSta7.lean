/-
  Bodies: what they are, their bytes; how they are written.
-/
import Derived.Test.YtljedcfpbdompaaDoorSta6
namespace Go.Proofs.YtljedcfpbdompaaDoor
set_option linter.unusedVariables false
open Go.RowKit Go.ChangeShapes Go.WideShapes

/-- A link. -/
structure Lk where
  id : Int
  data : Int
  typ : Int
  cost : Int
structure Lk.ok (x : Lk) : Prop where
  id : 0 ≤ x.id ∧ x.id ≤ 4294967295
  data : 0 ≤ x.data ∧ x.data ≤ 4294967295
  typ : 0 ≤ x.typ ∧ x.typ ≤ 255
  cost : 0 ≤ x.cost ∧ x.cost ≤ 65535
def Lk.cells (x : Lk) : List Value := [.int .u32 x.id, .int .u32 x.data, .int .u8 x.typ, .int .u16 x.cost]
theorem lk_len (x : Lk) : x.cells.length = 4 := rfl
theorem lk_one (x : Lk) : ∀ u ∈ x.cells, u.oneCell' = true := by
  intro u hu
  simp only [Lk.cells, List.mem_cons, List.not_mem_nil, or_false] at hu
  rcases hu with rfl | rfl | rfl | rfl <;> rfl
/-- A link's bytes. -/
def lkB (x : Lk) : List Int := numB x.id 4 ++ numB x.data 4 ++ [x.typ, 0] ++ numB x.cost 2
def u32s (l : List Int) : List Value := l.flatMap fun x => [Value.int .u32 x]
/-- A body: what it says, and where its rows stand. -/
structure BA where
  flags : Int
  LA : Option Addr
  ln : Nat
  lc : Nat
  links : List Lk
  mask : Int
  RA : Option Addr
  rn : Nat
  rc : Nat
  routers : List Int
  metric : Int
  t2 : Bool
  fwd : Int
  tag : Int
  DA : Option Addr
  dn : Nat
  dc : Nat
  data : List Int
@[reducible] def BA.v (b : BA) : Value := .agg #[.int .u8 b.flags, .slice b.LA b.ln b.lc, .int .u32 b.mask, .slice b.RA b.rn b.rc, .int .u32 b.metric, .bool b.t2, .int .u32 b.fwd, .int .u32 b.tag, .slice b.DA b.dn b.dc]
@[reducible] def BA.C (b : BA) : Array Value := #[.int .u8 b.flags, .slice b.LA b.ln b.lc, .int .u32 b.mask, .slice b.RA b.rn b.rc, .int .u32 b.metric, .bool b.t2, .int .u32 b.fwd, .int .u32 b.tag, .slice b.DA b.dn b.dc]
/-- A body that can be read. -/
structure BA.rd (w : World) (b : BA) : Prop where
  flags : 0 ≤ b.flags ∧ b.flags ≤ 255
  lrow : Reads w w.heap.size 4 b.LA b.ln (b.links.flatMap Lk.cells)
  llen : b.links.length = b.ln
  lok : ∀ x ∈ b.links, x.ok
  mask : 0 ≤ b.mask ∧ b.mask ≤ 4294967295
  rrow : Reads w w.heap.size 1 b.RA b.rn (u32s b.routers)
  rlen : b.routers.length = b.rn
  rok : ∀ x ∈ b.routers, 0 ≤ x ∧ x ≤ 4294967295
  metric : 0 ≤ b.metric ∧ b.metric ≤ 4294967295
  fwd : 0 ≤ b.fwd ∧ b.fwd ≤ 4294967295
  tag : 0 ≤ b.tag ∧ b.tag ≤ 4294967295
  drow : Reads w w.heap.size 1 b.DA b.dn (u8s b.data)
  doct : Oct b.data
  cap : b.ln ≤ b.lc ∧ b.lc ≤ 9223372036854775807 ∧ b.rn ≤ b.rc ∧ b.rc ≤ 9223372036854775807 ∧ b.dn ≤ b.dc ∧ b.dc ≤ 9223372036854775807
  few : b.ln ≤ 1073741824 ∧ b.rn ≤ 1073741824 ∧ b.dn ≤ 1073741824
theorem BA.rd.later {w w' : World} {b : BA} (h : b.rd w) (hb : Below w.heap.size w w') : b.rd w' :=
  ⟨h.flags, h.lrow.later hb, h.llen, h.lok, h.mask, h.rrow.later hb, h.rlen, h.rok, h.metric, h.fwd, h.tag, h.drow.later hb, h.doct, h.cap, h.few⟩
/-- A body's bytes, by its type. -/
def bdB (t : Int) (b : BA) : List Int :=
  if t = 1 then [b.flags, 0] ++ numB b.links.length 2 ++ b.links.flatMap lkB
  else if t = 2 then numB b.mask 4 ++ b.routers.flatMap (fun x => numB x 4)
  else if t = 3 ∨ t = 4 then numB b.mask 4 ++ numB b.metric 4
  else if t = 5 ∨ t = 7 then numB b.mask 4 ++ [if b.t2 then 128 else 0] ++ numB b.metric 3 ++ numB b.fwd 4 ++ numB b.tag 4
  else b.data
def BBlk (W : World) (gb : Nat) (b : BA) : Prop := Blk W gb 67 b.C
def WbS (W : World) (gp g gb : Nat) (b : BA) : Prop := PenBlk W gp g ∧ BBlk W gb b
theorem WbS.keep {W W' : World} {gp g gb : Nat} {b : BA} (k : KeepT W W') (p : WbS W gp g gb b) : WbS W' gp g gb b := ⟨k.2 _ _ _ p.1 (by decide) (by decide), k.2 _ _ _ p.2 (by decide) (by decide)⟩
def WbC (W : World) (gp g gb : Nat) (b : BA) : Prop := W.cell? ⟨gp, 0, none⟩ = some (.pointer (some ⟨g, 0, none⟩)) ∧ W.cell? ⟨gb, 0, none⟩ = some (.int .u8 b.flags) ∧ W.cell? ⟨gb, 1, none⟩ = some (.slice b.LA b.ln b.lc) ∧ W.cell? ⟨gb, 2, none⟩ = some (.int .u32 b.mask) ∧ W.cell? ⟨gb, 3, none⟩ = some (.slice b.RA b.rn b.rc) ∧
    W.cell? ⟨gb, 4, none⟩ = some (.int .u32 b.metric) ∧ W.cell? ⟨gb, 5, none⟩ = some (.bool b.t2) ∧ W.cell? ⟨gb, 6, none⟩ = some (.int .u32 b.fwd) ∧ W.cell? ⟨gb, 7, none⟩ = some (.int .u32 b.tag) ∧ W.cell? ⟨gb, 8, none⟩ = some (.slice b.DA b.dn b.dc)
theorem WbS.cells {W : World} {gp g gb : Nat} {b : BA} (h : WbS W gp g gb b) : WbC W gp g gb b := by
  obtain ⟨h1, h2⟩ := h
  unfold PenBlk at h1
  unfold BBlk at h2
  exact ⟨h1.cell 0, h2.cell 0, h2.cell 1, h2.cell 2, h2.cell 3, h2.cell 4, h2.cell 5, h2.cell 6, h2.cell 7, h2.cell 8⟩
theorem one_reads {W : World} {g : Nat} {a : Int} (hb : Blk W g 5 #[.int .u8 a]) : Reads W W.heap.size 1 (some ⟨g, 0, none⟩) 1 (u8s [a]) :=
  ⟨rfl, fun _ => ⟨_, rfl, hb.lt, fun j u hu => by rw [add_none, Nat.zero_add, hb.cell]; simpa [u8s] using hu⟩⟩
/-- What a form's writer leaves. -/
def WrP (w0 w w' : World) (g : Nat) (M : Int) (ys : List Int) (e : Ending) : Prop := e = .returned (.tuple #[]) ∧ WR w0 w' g M ys ∧ KeepT w w'
theorem wrS (w : World) (g : Nat) (b : BA) : WbS ((w.alloc (.cells #[.pointer (some ⟨g, 0, none⟩)] 87)).alloc (.cells b.C 67)) w.heap.size g (w.heap.size + 1) b := ⟨(Blk.new _ _ _).alloc _, show BBlk _ _ _ from new_at _ _ _⟩
set_option maxRecDepth 100000 in
set_option maxHeartbeats 8000000 in
theorem wSummary (w0 w : World) (g : Nat) (M : Int) (ys : List Int) (h : WR w0 w g M ys) (b : BA) (hb : b.rd w) :
    Calls Tryd.prog 69 #[.agg #[.pointer (some ⟨g, 0, none⟩)], b.v] w fun e w' => WrP w0 w w' g M (ys ++ bdB 3 b) e := by
  have HW : Hid (WR w0 ((w.alloc (.cells #[.pointer (some ⟨g, 0, none⟩)] 87)).alloc (.cells #[.int .u8 b.flags, .slice b.LA b.ln b.lc, .int .u32 b.mask, .slice b.RA b.rn b.rc, .int .u32 b.metric, .bool b.t2, .int .u32 b.fwd, .int .u32 b.tag, .slice b.DA b.dn b.dc] 67)).drew g M ys) := Lib.hid (((h.alloc _).alloc _).drew)
  have HK : Hid (KeepT w ((w.alloc (.cells #[.pointer (some ⟨g, 0, none⟩)] 87)).alloc (.cells #[.int .u8 b.flags, .slice b.LA b.ln b.lc, .int .u32 b.mask, .slice b.RA b.rn b.rc, .int .u32 b.metric, .bool b.t2, .int .u32 b.fwd, .int .u32 b.tag, .slice b.DA b.dn b.dc] 67)).drew) := Lib.hid (KeepT.of_below (below_two _ _ _).drew)
  have HS : Hid ((fun W : World => WbS W w.heap.size g (w.heap.size + 1) b) ((w.alloc (.cells #[.pointer (some ⟨g, 0, none⟩)] 87)).alloc (.cells #[.int .u8 b.flags, .slice b.LA b.ln b.lc, .int .u32 b.mask, .slice b.RA b.rn b.rc, .int .u32 b.metric, .bool b.t2, .int .u32 b.fwd, .int .u32 b.tag, .slice b.DA b.dn b.dc] 67)).drew) := Lib.hid (wrS w g b)
  have HO := Lib.hid hb
  clear h hb
  go_enter Tryd.func69, Tryd.ntmps69
  go_wp2_with fail
  generalize w.heap.size = gp at *
  generalize gp + 1 = gb at *
  refine wp_region_r (fun W : World => WbS W gp g gb b) [.take 0, .take 2, .take 5, .take 1, .take 3, .take 6, .one 4, .one 7] (by kernel_rfl) (fun _ d _ _ _ h => by cases d <;> exact h) ?_
  simp only [List.map_cons, List.map_nil, RStep.node, nthOp_zero, nthOp_succ]
  generalize ((w.alloc (.cells #[.pointer (some ⟨g, 0, none⟩)] 87)).alloc (.cells #[.int .u8 b.flags, .slice b.LA b.ln b.lc, .int .u32 b.mask, .slice b.RA b.rn b.rc, .int .u32 b.metric, .bool b.t2, .int .u32 b.fwd, .int .u32 b.tag, .slice b.DA b.dn b.dc] 67)).drew = v0 at *
  refine wpR_take HS (by rfl) (by intro W hW; clear hW; go_simp; try with_reducible rfl) ?_
  refine wpR_take HS (by rfl) (by intro W hW; clear hW; go_simp; try with_reducible rfl) ?_
  refine wpR_take HS (by rfl) (by intro W hW; clear hW; go_simp; try with_reducible rfl) ?_
  refine wpR_take HS (by rfl) (by intro W hW; obtain ⟨p0, c0, c1, c2, c3, c4, c5, c6, c7, c8⟩ := hW.cells; go_simp; try with_reducible rfl) ?_
  refine wpR_take HS (by rfl) (by intro W hW; obtain ⟨p0, c0, c1, c2, c3, c4, c5, c6, c7, c8⟩ := hW.cells; go_simp; try with_reducible rfl) ?_
  refine wpR_take HS (by rfl) (by intro W hW; obtain ⟨p0, c0, c1, c2, c3, c4, c5, c6, c7, c8⟩ := hW.cells; go_simp; try with_reducible rfl) ?_
  go_simp
  refine wpR_do fun K hK => ?_
  go_wp2_with fail
  refine (wr_num w0 v0 g M _ HW.out b.mask 4 (by have := HO.out.mask; omega) (by have := HO.out.mask; omega) (by omega) (fits_of (by omega) (by omega) (.inl rfl))).mono ?_
  rintro e v1 ⟨rfl, hw, hk⟩
  replace HW := Lib.hid hw
  replace HK := Lib.hid (HK.out.trans hk)
  replace HS : Hid ((fun W : World => WbS W gp g gb b) v1) := Lib.hid (HS.out.keep hk)
  clear hw hk
  go_wp2_with fail
  refine hK.out _ _ HS.out ?_
  clear hK K
  go_simp
  refine wpR_do fun K hK => ?_
  go_wp2_with fail
  refine (wr_num w0 v1 g M _ HW.out b.metric 4 (by have := HO.out.metric; omega) (by have := HO.out.metric; omega) (by omega) (fits_of (by omega) (by omega) (.inl rfl))).mono ?_
  rintro e v2 ⟨rfl, hw, hk⟩
  replace HW := Lib.hid hw
  replace HK := Lib.hid (HK.out.trans hk)
  replace HS : Hid ((fun W : World => WbS W gp g gb b) v2) := Lib.hid (HS.out.keep hk)
  clear hw hk
  go_wp2_with fail
  refine hK.out _ _ HS.out ?_
  clear hK K
  go_simp
  refine wpR_nil ?_
  go_simp
  go_wp2_with fail
  go_end0
  refine ⟨rfl, ?_, HK.out⟩
  have := HW.out
  unfold bdB
  rw [if_neg (by decide), if_neg (by decide), if_pos (by decide)]
  simpa only [List.append_assoc] using this
set_option maxRecDepth 100000 in
set_option maxHeartbeats 8000000 in
theorem wOpaque (w0 w : World) (g : Nat) (M : Int) (ys : List Int) (h : WR w0 w g M ys) (b : BA) (hb : b.rd w) :
    Calls Tryd.prog 73 #[.agg #[.pointer (some ⟨g, 0, none⟩)], b.v] w fun e w' => WrP w0 w w' g M (ys ++ bdB 9 b) e := by
  have HW : Hid (WR w0 ((w.alloc (.cells #[.pointer (some ⟨g, 0, none⟩)] 87)).alloc (.cells #[.int .u8 b.flags, .slice b.LA b.ln b.lc, .int .u32 b.mask, .slice b.RA b.rn b.rc, .int .u32 b.metric, .bool b.t2, .int .u32 b.fwd, .int .u32 b.tag, .slice b.DA b.dn b.dc] 67)) g M ys) := Lib.hid (((h.alloc _).alloc _))
  have HK : Hid (KeepT w ((w.alloc (.cells #[.pointer (some ⟨g, 0, none⟩)] 87)).alloc (.cells #[.int .u8 b.flags, .slice b.LA b.ln b.lc, .int .u32 b.mask, .slice b.RA b.rn b.rc, .int .u32 b.metric, .bool b.t2, .int .u32 b.fwd, .int .u32 b.tag, .slice b.DA b.dn b.dc] 67))) := Lib.hid (KeepT.of_below (below_two _ _ _))
  have HS : Hid ((fun W : World => WbS W w.heap.size g (w.heap.size + 1) b) ((w.alloc (.cells #[.pointer (some ⟨g, 0, none⟩)] 87)).alloc (.cells #[.int .u8 b.flags, .slice b.LA b.ln b.lc, .int .u32 b.mask, .slice b.RA b.rn b.rc, .int .u32 b.metric, .bool b.t2, .int .u32 b.fwd, .int .u32 b.tag, .slice b.DA b.dn b.dc] 67))) := Lib.hid (wrS w g b)
  have HO := Lib.hid hb
  clear h hb
  go_enter Tryd.func73, Tryd.ntmps73
  have HR : Hid (Reads ((w.alloc (.cells #[.pointer (some ⟨g, 0, none⟩)] 87)).alloc (.cells #[.int .u8 b.flags, .slice b.LA b.ln b.lc, .int .u32 b.mask, .slice b.RA b.rn b.rc, .int .u32 b.metric, .bool b.t2, .int .u32 b.fwd, .int .u32 b.tag, .slice b.DA b.dn b.dc] 67)) ((w.alloc (.cells #[.pointer (some ⟨g, 0, none⟩)] 87)).alloc (.cells #[.int .u8 b.flags, .slice b.LA b.ln b.lc, .int .u32 b.mask, .slice b.RA b.rn b.rc, .int .u32 b.metric, .bool b.t2, .int .u32 b.fwd, .int .u32 b.tag, .slice b.DA b.dn b.dc] 67)).heap.size 1 b.DA b.dn (u8s b.data)) := Lib.hid (HO.out.drow.later (below_two _ _ _))
  obtain ⟨p0, c0, c1, c2, c3, c4, c5, c6, c7, c8⟩ := HS.out.cells
  go_wp2_with fail
  generalize w.heap.size = gp at *
  generalize gp + 1 = gb at *
  generalize ((w.alloc (.cells #[.pointer (some ⟨g, 0, none⟩)] 87)).alloc (.cells #[.int .u8 b.flags, .slice b.LA b.ln b.lc, .int .u32 b.mask, .slice b.RA b.rn b.rc, .int .u32 b.metric, .bool b.t2, .int .u32 b.fwd, .int .u32 b.tag, .slice b.DA b.dn b.dc] 67)) = v0 at *
  clear p0 c0 c1 c2 c3 c4 c5 c6 c7 c8
  refine (wr_put w0 v0 g M _ _ HW.out _ b.dn b.dc HR.out (by have := HO.out.few; omega)).mono ?_
  rintro e v1 ⟨rfl, hw, hk⟩
  replace HW := Lib.hid hw
  replace HK := Lib.hid (HK.out.trans hk)
  clear hw hk
  go_wp2_with fail
  go_end0
  exact ⟨rfl, HW.out, HK.out⟩
set_option maxRecDepth 100000 in
set_option maxHeartbeats 8000000 in
theorem wOuter (w0 w : World) (g : Nat) (M : Int) (ys : List Int) (h : WR w0 w g M ys) (b : BA) (hb : b.rd w) (hm : b.metric ≤ 16777215) :
    Calls Tryd.prog 71 #[.agg #[.pointer (some ⟨g, 0, none⟩)], b.v] w fun e w' => WrP w0 w w' g M (ys ++ bdB 5 b) e := by
  have HW : Hid (WR w0 ((w.alloc (.cells #[.pointer (some ⟨g, 0, none⟩)] 87)).alloc (.cells #[.int .u8 b.flags, .slice b.LA b.ln b.lc, .int .u32 b.mask, .slice b.RA b.rn b.rc, .int .u32 b.metric, .bool b.t2, .int .u32 b.fwd, .int .u32 b.tag, .slice b.DA b.dn b.dc] 67)).drew g M ys) := Lib.hid (((h.alloc _).alloc _).drew)
  have HK : Hid (KeepT w ((w.alloc (.cells #[.pointer (some ⟨g, 0, none⟩)] 87)).alloc (.cells #[.int .u8 b.flags, .slice b.LA b.ln b.lc, .int .u32 b.mask, .slice b.RA b.rn b.rc, .int .u32 b.metric, .bool b.t2, .int .u32 b.fwd, .int .u32 b.tag, .slice b.DA b.dn b.dc] 67)).drew) := Lib.hid (KeepT.of_below (below_two _ _ _).drew)
  have HS : Hid ((fun W : World => WbS W w.heap.size g (w.heap.size + 1) b) ((w.alloc (.cells #[.pointer (some ⟨g, 0, none⟩)] 87)).alloc (.cells #[.int .u8 b.flags, .slice b.LA b.ln b.lc, .int .u32 b.mask, .slice b.RA b.rn b.rc, .int .u32 b.metric, .bool b.t2, .int .u32 b.fwd, .int .u32 b.tag, .slice b.DA b.dn b.dc] 67)).drew) := Lib.hid (wrS w g b)
  have HO := Lib.hid hb
  clear h hb
  show Calls Tryd.prog 71 #[.agg #[.pointer (some ⟨g, 0, none⟩)], .agg #[.int .u8 b.flags, .slice b.LA b.ln b.lc, .int .u32 b.mask, .slice b.RA b.rn b.rc, .int .u32 b.metric, .bool b.t2, .int .u32 b.fwd, .int .u32 b.tag, .slice b.DA b.dn b.dc]] w _
  generalize ht : b.t2 = t2 at *
  cases t2
  · have HT : Hid ((if b.t2 = true then (128 : Int) else 0) = 0) := Lib.hid (by rw [ht]; rfl)
    clear ht
    go_enter Tryd.func71, Tryd.ntmps71
    go_wp2_with fail
    generalize w.heap.size = gp at *
    generalize gp + 1 = gb at *
    refine wp_region_r (fun W : World => WbS W gp g gb b) [.take 0, .take 2, .take 5, .take 8, .take 11, .take 14, .take 1, .take 3, .take 9, .take 12, .take 15, .two 4 6, .one 7, .one 10, .one 13, .one 16] (by kernel_rfl) (fun _ d _ _ _ h => by cases d <;> exact h) ?_
    simp only [List.map_cons, List.map_nil, RStep.node, nthOp_zero, nthOp_succ]
    generalize ((w.alloc (.cells #[.pointer (some ⟨g, 0, none⟩)] 87)).alloc (.cells #[.int .u8 b.flags, .slice b.LA b.ln b.lc, .int .u32 b.mask, .slice b.RA b.rn b.rc, .int .u32 b.metric, .bool false, .int .u32 b.fwd, .int .u32 b.tag, .slice b.DA b.dn b.dc] 67)).drew = v0 at *
    refine wpR_take HS (by rfl) (by intro W hW; clear hW; go_simp; try with_reducible rfl) ?_
    refine wpR_take HS (by rfl) (by intro W hW; clear hW; go_simp; try with_reducible rfl) ?_
    refine wpR_take HS (by rfl) (by intro W hW; clear hW; go_simp; try with_reducible rfl) ?_
    refine wpR_take HS (by rfl) (by intro W hW; clear hW; go_simp; try with_reducible rfl) ?_
    refine wpR_take HS (by rfl) (by intro W hW; clear hW; go_simp; try with_reducible rfl) ?_
    refine wpR_take HS (by rfl) (by intro W hW; clear hW; go_simp; try with_reducible rfl) ?_
    go_simp
    refine wpR_take HS (by rfl) (by intro W hW; obtain ⟨p0, c0, c1, c2, c3, c4, c5, c6, c7, c8⟩ := hW.cells; go_simp; try with_reducible rfl) ?_
    refine wpR_take HS (by rfl) (by intro W hW; obtain ⟨p0, c0, c1, c2, c3, c4, c5, c6, c7, c8⟩ := hW.cells; go_simp; try with_reducible rfl) ?_
    refine wpR_take HS (by rfl) (by intro W hW; obtain ⟨p0, c0, c1, c2, c3, c4, c5, c6, c7, c8⟩ := hW.cells; go_simp; try with_reducible rfl) ?_
    refine wpR_take HS (by rfl) (by intro W hW; obtain ⟨p0, c0, c1, c2, c3, c4, c5, c6, c7, c8⟩ := hW.cells; go_simp; try with_reducible rfl) ?_
    refine wpR_take HS (by rfl) (by intro W hW; obtain ⟨p0, c0, c1, c2, c3, c4, c5, c6, c7, c8⟩ := hW.cells; go_simp; try with_reducible rfl) ?_
    go_simp
    refine wpR_two (fun K K1 hK hK1 => ?_) (fun K K1 hK hK1 => ?_)
    · go_wp2_with fail
      refine (wr_num w0 v0 g M _ HW.out b.mask 4 (by have := HO.out.mask; omega) (by have := HO.out.mask; omega) (by omega) (fits_of (by omega) (by omega) (.inl rfl))).mono ?_
      rintro e v1 ⟨rfl, hw, hk⟩
      replace HW := Lib.hid hw
      replace HK := Lib.hid (HK.out.trans hk)
      replace HS : Hid ((fun W : World => WbS W gp g gb b) v1) := Lib.hid (HS.out.keep hk)
      clear hw hk
      go_wp2_with fail
      refine hK1.out _ _ HS.out ?_
      go_wp2_with fail
      have hb2 : Below v1.heap.size v1 (v1.alloc (.cells #[.int .u8 0] 5)) := (Below.refl _ _).alloc (Nat.le_refl _) _
      have HX := Lib.hid (Blk.new v1 5 #[.int .u8 0])
      replace HW := Lib.hid (HW.out.later hb2)
      replace HK := Lib.hid (HK.out.trans (KeepT.of_below hb2))
      replace HS : Hid ((fun W : World => WbS W gp g gb b) (v1.alloc (.cells #[.int .u8 0] 5))) := Lib.hid (HS.out.keep (KeepT.of_below hb2))
      clear hb2
      refine hK.out _ _ HS.out ?_
      have HR := Lib.hid (one_reads HX.out)
      generalize v1.heap.size = gx at *
      generalize v1.alloc (.cells #[.int .u8 0] 5) = v2 at *
      clear HX
      clear hK hK1 K K1
      go_simp
      refine wpR_do fun K hK => ?_
      go_wp2_with fail
      refine (wr_put w0 v2 g M _ _ HW.out _ 1 1 HR.out (by omega)).mono ?_
      rintro e v3 ⟨rfl, hw, hk⟩
      replace HW := Lib.hid hw
      replace HK := Lib.hid (HK.out.trans hk)
      replace HS : Hid ((fun W : World => WbS W gp g gb b) v3) := Lib.hid (HS.out.keep hk)
      clear hw hk
      clear HR
      go_wp2_with fail
      refine hK.out _ _ HS.out ?_
      clear hK K
      go_simp
      refine wpR_do fun K hK => ?_
      go_wp2_with fail
      refine (wr_num w0 v3 g M _ HW.out b.metric 3 (by have := HO.out.metric; omega) (by have := HO.out.metric; omega) (by omega) (fits_of (by omega) (by omega) (.inr (by have := HO.out.metric; omega)))).mono ?_
      rintro e v4 ⟨rfl, hw, hk⟩
      replace HW := Lib.hid hw
      replace HK := Lib.hid (HK.out.trans hk)
      replace HS : Hid ((fun W : World => WbS W gp g gb b) v4) := Lib.hid (HS.out.keep hk)
      clear hw hk
      go_wp2_with fail
      refine hK.out _ _ HS.out ?_
      clear hK K
      go_simp
      refine wpR_do fun K hK => ?_
      go_wp2_with fail
      refine (wr_num w0 v4 g M _ HW.out b.fwd 4 (by have := HO.out.fwd; omega) (by have := HO.out.fwd; omega) (by omega) (fits_of (by omega) (by omega) (.inl rfl))).mono ?_
      rintro e v5 ⟨rfl, hw, hk⟩
      replace HW := Lib.hid hw
      replace HK := Lib.hid (HK.out.trans hk)
      replace HS : Hid ((fun W : World => WbS W gp g gb b) v5) := Lib.hid (HS.out.keep hk)
      clear hw hk
      go_wp2_with fail
      refine hK.out _ _ HS.out ?_
      clear hK K
      go_simp
      refine wpR_do fun K hK => ?_
      go_wp2_with fail
      refine (wr_num w0 v5 g M _ HW.out b.tag 4 (by have := HO.out.tag; omega) (by have := HO.out.tag; omega) (by omega) (fits_of (by omega) (by omega) (.inl rfl))).mono ?_
      rintro e v6 ⟨rfl, hw, hk⟩
      replace HW := Lib.hid hw
      replace HK := Lib.hid (HK.out.trans hk)
      replace HS : Hid ((fun W : World => WbS W gp g gb b) v6) := Lib.hid (HS.out.keep hk)
      clear hw hk
      go_wp2_with fail
      refine hK.out _ _ HS.out ?_
      clear hK K
      go_simp
      refine wpR_nil ?_
      go_simp
      go_wp2_with fail
      go_end0
      refine ⟨rfl, ?_, HK.out⟩
      have := HW.out
      unfold bdB
      rw [if_neg (by decide), if_neg (by decide), if_neg (by decide), if_pos (by decide), HT.out]
      simpa only [List.append_assoc] using this
    · go_wp2_with fail
      have HW0 := HW
      have hb2 : Below v0.heap.size v0 (v0.alloc (.cells #[.int .u8 0] 5)) := (Below.refl _ _).alloc (Nat.le_refl _) _
      have HX := Lib.hid (Blk.new v0 5 #[.int .u8 0])
      replace HW := Lib.hid (HW.out.later hb2)
      replace HK := Lib.hid (HK.out.trans (KeepT.of_below hb2))
      replace HS : Hid ((fun W : World => WbS W gp g gb b) (v0.alloc (.cells #[.int .u8 0] 5))) := Lib.hid (HS.out.keep (KeepT.of_below hb2))
      clear hb2
      refine hK1.out _ _ HS.out ?_
      go_wp2_with fail
      refine (wr_num_x w0 v0 g M _ HW0.out _ b.mask 4 (by have := HO.out.mask; omega) (by have := HO.out.mask; omega) (by omega) (fits_of (by omega) (by omega) (.inl rfl))).mono ?_
      rintro e v1 ⟨rfl, hw, hk, hx⟩
      have HR := Lib.hid (one_reads (W := v1) (g := v0.heap.size) (a := 0) hx)
      clear hx HW0 HX
      replace HW := Lib.hid hw
      replace HK := Lib.hid (HK.out.trans hk)
      replace HS : Hid ((fun W : World => WbS W gp g gb b) v1) := Lib.hid (HS.out.keep hk)
      clear hw hk
      go_wp2_with fail
      refine hK.out _ _ HS.out ?_
      clear hK hK1 K K1
      go_simp
      refine wpR_do fun K hK => ?_
      go_wp2_with fail
      refine (wr_put w0 v1 g M _ _ HW.out _ 1 1 HR.out (by omega)).mono ?_
      rintro e v2 ⟨rfl, hw, hk⟩
      replace HW := Lib.hid hw
      replace HK := Lib.hid (HK.out.trans hk)
      replace HS : Hid ((fun W : World => WbS W gp g gb b) v2) := Lib.hid (HS.out.keep hk)
      clear hw hk
      clear HR
      go_wp2_with fail
      refine hK.out _ _ HS.out ?_
      clear hK K
      go_simp
      refine wpR_do fun K hK => ?_
      go_wp2_with fail
      refine (wr_num w0 v2 g M _ HW.out b.metric 3 (by have := HO.out.metric; omega) (by have := HO.out.metric; omega) (by omega) (fits_of (by omega) (by omega) (.inr (by have := HO.out.metric; omega)))).mono ?_
      rintro e v3 ⟨rfl, hw, hk⟩
      replace HW := Lib.hid hw
      replace HK := Lib.hid (HK.out.trans hk)
      replace HS : Hid ((fun W : World => WbS W gp g gb b) v3) := Lib.hid (HS.out.keep hk)
      clear hw hk
      go_wp2_with fail
      refine hK.out _ _ HS.out ?_
      clear hK K
      go_simp
      refine wpR_do fun K hK => ?_
      go_wp2_with fail
      refine (wr_num w0 v3 g M _ HW.out b.fwd 4 (by have := HO.out.fwd; omega) (by have := HO.out.fwd; omega) (by omega) (fits_of (by omega) (by omega) (.inl rfl))).mono ?_
      rintro e v4 ⟨rfl, hw, hk⟩
      replace HW := Lib.hid hw
      replace HK := Lib.hid (HK.out.trans hk)
      replace HS : Hid ((fun W : World => WbS W gp g gb b) v4) := Lib.hid (HS.out.keep hk)
      clear hw hk
      go_wp2_with fail
      refine hK.out _ _ HS.out ?_
      clear hK K
      go_simp
      refine wpR_do fun K hK => ?_
      go_wp2_with fail
      refine (wr_num w0 v4 g M _ HW.out b.tag 4 (by have := HO.out.tag; omega) (by have := HO.out.tag; omega) (by omega) (fits_of (by omega) (by omega) (.inl rfl))).mono ?_
      rintro e v5 ⟨rfl, hw, hk⟩
      replace HW := Lib.hid hw
      replace HK := Lib.hid (HK.out.trans hk)
      replace HS : Hid ((fun W : World => WbS W gp g gb b) v5) := Lib.hid (HS.out.keep hk)
      clear hw hk
      go_wp2_with fail
      refine hK.out _ _ HS.out ?_
      clear hK K
      go_simp
      refine wpR_nil ?_
      go_simp
      go_wp2_with fail
      go_end0
      refine ⟨rfl, ?_, HK.out⟩
      have := HW.out
      unfold bdB
      rw [if_neg (by decide), if_neg (by decide), if_neg (by decide), if_pos (by decide), HT.out]
      simpa only [List.append_assoc] using this
  · have HT : Hid ((if b.t2 = true then (128 : Int) else 0) = 128) := Lib.hid (by rw [ht]; rfl)
    clear ht
    go_enter Tryd.func71, Tryd.ntmps71
    go_wp2_with fail
    generalize w.heap.size = gp at *
    generalize gp + 1 = gb at *
    refine wp_region_r (fun W : World => WbS W gp g gb b) [.take 0, .take 2, .take 5, .take 8, .take 11, .take 14, .take 1, .take 3, .take 9, .take 12, .take 15, .two 4 6, .one 7, .one 10, .one 13, .one 16] (by kernel_rfl) (fun _ d _ _ _ h => by cases d <;> exact h) ?_
    simp only [List.map_cons, List.map_nil, RStep.node, nthOp_zero, nthOp_succ]
    generalize ((w.alloc (.cells #[.pointer (some ⟨g, 0, none⟩)] 87)).alloc (.cells #[.int .u8 b.flags, .slice b.LA b.ln b.lc, .int .u32 b.mask, .slice b.RA b.rn b.rc, .int .u32 b.metric, .bool true, .int .u32 b.fwd, .int .u32 b.tag, .slice b.DA b.dn b.dc] 67)).drew = v0 at *
    refine wpR_take HS (by rfl) (by intro W hW; clear hW; go_simp; try with_reducible rfl) ?_
    refine wpR_take HS (by rfl) (by intro W hW; clear hW; go_simp; try with_reducible rfl) ?_
    refine wpR_take HS (by rfl) (by intro W hW; clear hW; go_simp; try with_reducible rfl) ?_
    refine wpR_take HS (by rfl) (by intro W hW; clear hW; go_simp; try with_reducible rfl) ?_
    refine wpR_take HS (by rfl) (by intro W hW; clear hW; go_simp; try with_reducible rfl) ?_
    refine wpR_take HS (by rfl) (by intro W hW; clear hW; go_simp; try with_reducible rfl) ?_
    go_simp
    refine wpR_take HS (by rfl) (by intro W hW; obtain ⟨p0, c0, c1, c2, c3, c4, c5, c6, c7, c8⟩ := hW.cells; go_simp; try with_reducible rfl) ?_
    refine wpR_take HS (by rfl) (by intro W hW; obtain ⟨p0, c0, c1, c2, c3, c4, c5, c6, c7, c8⟩ := hW.cells; go_simp; try with_reducible rfl) ?_
    refine wpR_take HS (by rfl) (by intro W hW; obtain ⟨p0, c0, c1, c2, c3, c4, c5, c6, c7, c8⟩ := hW.cells; go_simp; try with_reducible rfl) ?_
    refine wpR_take HS (by rfl) (by intro W hW; obtain ⟨p0, c0, c1, c2, c3, c4, c5, c6, c7, c8⟩ := hW.cells; go_simp; try with_reducible rfl) ?_
    refine wpR_take HS (by rfl) (by intro W hW; obtain ⟨p0, c0, c1, c2, c3, c4, c5, c6, c7, c8⟩ := hW.cells; go_simp; try with_reducible rfl) ?_
    go_simp
    refine wpR_two (fun K K1 hK hK1 => ?_) (fun K K1 hK hK1 => ?_)
    · go_wp2_with fail
      refine (wr_num w0 v0 g M _ HW.out b.mask 4 (by have := HO.out.mask; omega) (by have := HO.out.mask; omega) (by omega) (fits_of (by omega) (by omega) (.inl rfl))).mono ?_
      rintro e v1 ⟨rfl, hw, hk⟩
      replace HW := Lib.hid hw
      replace HK := Lib.hid (HK.out.trans hk)
      replace HS : Hid ((fun W : World => WbS W gp g gb b) v1) := Lib.hid (HS.out.keep hk)
      clear hw hk
      go_wp2_with fail
      refine hK1.out _ _ HS.out ?_
      go_wp2_with fail
      have hb2 : Below v1.heap.size v1 (v1.alloc (.cells #[.int .u8 128] 5)) := (Below.refl _ _).alloc (Nat.le_refl _) _
      have HX := Lib.hid (Blk.new v1 5 #[.int .u8 128])
      replace HW := Lib.hid (HW.out.later hb2)
      replace HK := Lib.hid (HK.out.trans (KeepT.of_below hb2))
      replace HS : Hid ((fun W : World => WbS W gp g gb b) (v1.alloc (.cells #[.int .u8 128] 5))) := Lib.hid (HS.out.keep (KeepT.of_below hb2))
      clear hb2
      refine hK.out _ _ HS.out ?_
      have HR := Lib.hid (one_reads HX.out)
      generalize v1.heap.size = gx at *
      generalize v1.alloc (.cells #[.int .u8 128] 5) = v2 at *
      clear HX
      clear hK hK1 K K1
      go_simp
      refine wpR_do fun K hK => ?_
      go_wp2_with fail
      refine (wr_put w0 v2 g M _ _ HW.out _ 1 1 HR.out (by omega)).mono ?_
      rintro e v3 ⟨rfl, hw, hk⟩
      replace HW := Lib.hid hw
      replace HK := Lib.hid (HK.out.trans hk)
      replace HS : Hid ((fun W : World => WbS W gp g gb b) v3) := Lib.hid (HS.out.keep hk)
      clear hw hk
      clear HR
      go_wp2_with fail
      refine hK.out _ _ HS.out ?_
      clear hK K
      go_simp
      refine wpR_do fun K hK => ?_
      go_wp2_with fail
      refine (wr_num w0 v3 g M _ HW.out b.metric 3 (by have := HO.out.metric; omega) (by have := HO.out.metric; omega) (by omega) (fits_of (by omega) (by omega) (.inr (by have := HO.out.metric; omega)))).mono ?_
      rintro e v4 ⟨rfl, hw, hk⟩
      replace HW := Lib.hid hw
      replace HK := Lib.hid (HK.out.trans hk)
      replace HS : Hid ((fun W : World => WbS W gp g gb b) v4) := Lib.hid (HS.out.keep hk)
      clear hw hk
      go_wp2_with fail
      refine hK.out _ _ HS.out ?_
      clear hK K
      go_simp
      refine wpR_do fun K hK => ?_
      go_wp2_with fail
      refine (wr_num w0 v4 g M _ HW.out b.fwd 4 (by have := HO.out.fwd; omega) (by have := HO.out.fwd; omega) (by omega) (fits_of (by omega) (by omega) (.inl rfl))).mono ?_
      rintro e v5 ⟨rfl, hw, hk⟩
      replace HW := Lib.hid hw
      replace HK := Lib.hid (HK.out.trans hk)
      replace HS : Hid ((fun W : World => WbS W gp g gb b) v5) := Lib.hid (HS.out.keep hk)
      clear hw hk
      go_wp2_with fail
      refine hK.out _ _ HS.out ?_
      clear hK K
      go_simp
      refine wpR_do fun K hK => ?_
      go_wp2_with fail
      refine (wr_num w0 v5 g M _ HW.out b.tag 4 (by have := HO.out.tag; omega) (by have := HO.out.tag; omega) (by omega) (fits_of (by omega) (by omega) (.inl rfl))).mono ?_
      rintro e v6 ⟨rfl, hw, hk⟩
      replace HW := Lib.hid hw
      replace HK := Lib.hid (HK.out.trans hk)
      replace HS : Hid ((fun W : World => WbS W gp g gb b) v6) := Lib.hid (HS.out.keep hk)
      clear hw hk
      go_wp2_with fail
      refine hK.out _ _ HS.out ?_
      clear hK K
      go_simp
      refine wpR_nil ?_
      go_simp
      go_wp2_with fail
      go_end0
      refine ⟨rfl, ?_, HK.out⟩
      have := HW.out
      unfold bdB
      rw [if_neg (by decide), if_neg (by decide), if_neg (by decide), if_pos (by decide), HT.out]
      simpa only [List.append_assoc] using this
    · go_wp2_with fail
      have HW0 := HW
      have hb2 : Below v0.heap.size v0 (v0.alloc (.cells #[.int .u8 128] 5)) := (Below.refl _ _).alloc (Nat.le_refl _) _
      have HX := Lib.hid (Blk.new v0 5 #[.int .u8 128])
      replace HW := Lib.hid (HW.out.later hb2)
      replace HK := Lib.hid (HK.out.trans (KeepT.of_below hb2))
      replace HS : Hid ((fun W : World => WbS W gp g gb b) (v0.alloc (.cells #[.int .u8 128] 5))) := Lib.hid (HS.out.keep (KeepT.of_below hb2))
      clear hb2
      refine hK1.out _ _ HS.out ?_
      go_wp2_with fail
      refine (wr_num_x w0 v0 g M _ HW0.out _ b.mask 4 (by have := HO.out.mask; omega) (by have := HO.out.mask; omega) (by omega) (fits_of (by omega) (by omega) (.inl rfl))).mono ?_
      rintro e v1 ⟨rfl, hw, hk, hx⟩
      have HR := Lib.hid (one_reads (W := v1) (g := v0.heap.size) (a := 128) hx)
      clear hx HW0 HX
      replace HW := Lib.hid hw
      replace HK := Lib.hid (HK.out.trans hk)
      replace HS : Hid ((fun W : World => WbS W gp g gb b) v1) := Lib.hid (HS.out.keep hk)
      clear hw hk
      go_wp2_with fail
      refine hK.out _ _ HS.out ?_
      clear hK hK1 K K1
      go_simp
      refine wpR_do fun K hK => ?_
      go_wp2_with fail
      refine (wr_put w0 v1 g M _ _ HW.out _ 1 1 HR.out (by omega)).mono ?_
      rintro e v2 ⟨rfl, hw, hk⟩
      replace HW := Lib.hid hw
      replace HK := Lib.hid (HK.out.trans hk)
      replace HS : Hid ((fun W : World => WbS W gp g gb b) v2) := Lib.hid (HS.out.keep hk)
      clear hw hk
      clear HR
      go_wp2_with fail
      refine hK.out _ _ HS.out ?_
      clear hK K
      go_simp
      refine wpR_do fun K hK => ?_
      go_wp2_with fail
      refine (wr_num w0 v2 g M _ HW.out b.metric 3 (by have := HO.out.metric; omega) (by have := HO.out.metric; omega) (by omega) (fits_of (by omega) (by omega) (.inr (by have := HO.out.metric; omega)))).mono ?_
      rintro e v3 ⟨rfl, hw, hk⟩
      replace HW := Lib.hid hw
      replace HK := Lib.hid (HK.out.trans hk)
      replace HS : Hid ((fun W : World => WbS W gp g gb b) v3) := Lib.hid (HS.out.keep hk)
      clear hw hk
      go_wp2_with fail
      refine hK.out _ _ HS.out ?_
      clear hK K
      go_simp
      refine wpR_do fun K hK => ?_
      go_wp2_with fail
      refine (wr_num w0 v3 g M _ HW.out b.fwd 4 (by have := HO.out.fwd; omega) (by have := HO.out.fwd; omega) (by omega) (fits_of (by omega) (by omega) (.inl rfl))).mono ?_
      rintro e v4 ⟨rfl, hw, hk⟩
      replace HW := Lib.hid hw
      replace HK := Lib.hid (HK.out.trans hk)
      replace HS : Hid ((fun W : World => WbS W gp g gb b) v4) := Lib.hid (HS.out.keep hk)
      clear hw hk
      go_wp2_with fail
      refine hK.out _ _ HS.out ?_
      clear hK K
      go_simp
      refine wpR_do fun K hK => ?_
      go_wp2_with fail
      refine (wr_num w0 v4 g M _ HW.out b.tag 4 (by have := HO.out.tag; omega) (by have := HO.out.tag; omega) (by omega) (fits_of (by omega) (by omega) (.inl rfl))).mono ?_
      rintro e v5 ⟨rfl, hw, hk⟩
      replace HW := Lib.hid hw
      replace HK := Lib.hid (HK.out.trans hk)
      replace HS : Hid ((fun W : World => WbS W gp g gb b) v5) := Lib.hid (HS.out.keep hk)
      clear hw hk
      go_wp2_with fail
      refine hK.out _ _ HS.out ?_
      clear hK K
      go_simp
      refine wpR_nil ?_
      go_simp
      go_wp2_with fail
      go_end0
      refine ⟨rfl, ?_, HK.out⟩
      have := HW.out
      unfold bdB
      rw [if_neg (by decide), if_neg (by decide), if_neg (by decide), if_pos (by decide), HT.out]
      simpa only [List.append_assoc] using this
end Go.Proofs.YtljedcfpbdompaaDoor
