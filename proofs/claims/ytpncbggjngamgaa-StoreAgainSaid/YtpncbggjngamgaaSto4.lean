/-
  The store: Put. Printed by gen_sto4.py.
-/
import Derived.Test.YtpncbggjngamgaaSto3
namespace Go.Proofs.Ytpncbggjngamgaa
set_option linter.unusedVariables false
open Go.RowKit

def updK (f : Ky3 → Option OneE) (k : Ky3) (v : OneE) : Ky3 → Option OneE := fun k' => if k' = k then some v else f k'
theorem updK_map (f : Ky3 → Option OneE) (k : Ky3) (v : OneE) : updF (fun k => (f k).map OneE.v) k (some v.v) = fun k' => (updK f k v k').map OneE.v := by
  funext k'
  unfold updF updK
  split <;> rfl
theorem rd_ne_map {w : World} {x : SE} {bm n : Nat} {F : Ky3 → Option Value} (h : x.rd w) (hm : MapF keyV w bm F n) : 0 < x.n → ∀ ad, x.A = some ad → ad.block ≠ bm := by
  intro h0 ad hA e
  obtain ⟨ad', hA', _, hc⟩ := h.body.2 h0
  rw [hA] at hA'
  injection hA' with hA'
  subst hA'
  obtain ⟨es, clock, L, hm⟩ := hm
  have hl := h.bl
  have h1 := hc 0 ((u8s x.B)[0]'(by rw [u8s_length]; omega)) (List.getElem?_eq_getElem _)
  unfold World.cell? at h1
  rw [show (ad.add 0).block = bm from e, hm.heap] at h1
  cases h1
theorem SE.rd.kept2 {R : Nat → Prop} {w w' : World} {s : SE} (h : s.rd w) (k : Kept R w w') (hn : 0 < s.n → ∀ ad, s.A = some ad → ¬ R ad.block) : s.rd w' := ⟨h.head, h.body.keptUp k hn, h.oct, h.cap, h.len⟩
def PutAt (w w' : World) (g bm : Nat) (most : Int) (f : Ky3 → Option OneE) (n : Nat) (x : SE) (now : Int) (e : Ending) : Prop :=
  ∃ x' : SE, e = .returned (.int .i64 0) ∧ x'.h = x.h ∧ x'.B = x.B ∧ x'.n = x.n ∧ StF w' g bm most (updK f x.key ⟨x', now⟩) (if (f x.key).isSome then n else n + 1) ∧ Kept (fun i => i = bm) w w'
set_option maxRecDepth 100000 in
set_option maxHeartbeats 8000000 in
theorem stput_any (w : World) (g bm : Nat) (most : Int) (f : Ky3 → Option OneE) (n : Nat) (q : StF w g bm most f n) (x : SE) (hx : x.rd w) (now : Int) (hn : 0 ≤ now ∧ now ≤ 9223372036854775807) (hroom : (f x.key).isSome = true ∨ (n : Int) < most) :
    Calls Try.prog 19 #[.pointer (some ⟨g, 0, none⟩), .int .i64 now, x.v] w fun e w' => PutAt w w' g bm most f n x now e := by
  obtain ⟨⟨xage, xopts, k1, k2, k3, xseq, xsum, xlen⟩, xA, xn, xc, xB⟩ := x
  have hb0 : Below w.heap.size w (w.alloc (.cells #[.int .u16 xage, .int .u8 xopts, .int .u8 k1, .int .u32 k2, .int .u32 k3, .int .i32 xseq, .int .u16 xsum, .int .u16 xlen, .slice xA xn xc] 31)) := (Below.refl _ _).alloc (Nat.le_refl _) _
  have HQ := Lib.hid q
  have HX := Lib.hid hx
  have HBx : Hid (Blk (w.alloc (.cells #[.int .u16 xage, .int .u8 xopts, .int .u8 k1, .int .u32 k2, .int .u32 k3, .int .i32 xseq, .int .u16 xsum, .int .u16 xlen, .slice xA xn xc] 31)) w.heap.size 31 #[.int .u16 xage, .int .u8 xopts, .int .u8 k1, .int .u32 k2, .int .u32 k3, .int .i32 xseq, .int .u16 xsum, .int .u16 xlen, .slice xA xn xc]) := Lib.hid (Blk.new _ _ _)
  have HB0 := Lib.hid hb0
  have HRm := Lib.hid (show (f (k1, k2, k3)).isSome = true ∨ (n : Int) < most from hroom)
  have HN := Lib.hid (stnone_any _ g bm (show (w.alloc (.cells #[.int .u16 xage, .int .u8 xopts, .int .u8 k1, .int .u32 k2, .int .u32 k3, .int .i32 xseq, .int .u16 xsum, .int .u16 xlen, .slice xA xn xc] 31)).cell? ⟨g, 0, none⟩ = some (.map (some bm)) from (q.later hb0).blk.cell 0))
  obtain ⟨y, b, hy, hyb⟩ := lookS f (k1, k2, k3)
  obtain ⟨⟨⟨yage, yopts, ytyp, yid, yadv, yseq, ysum, ylen⟩, yA, yn, yc, yB⟩, yat⟩ := y
  have HLK := Lib.hid hy
  have HYB := Lib.hid (show (f (k1, k2, k3)).isSome = b by rcases hyb with ⟨h, rfl⟩ | ⟨h, rfl, _⟩ <;> rw [h] <;> rfl)
  have dn : decide (now < 0) = false := decide_eq_false (by omega)
  clear q hb0 hx hy hyb hroom
  go_enter Try.func19, Try.ntmps19
  go_wp2_with (go_at_call 33; refine HN.out.mono ?_; rintro e w' ⟨rfl, rfl⟩)
  clear HN dn
  generalize hw1 : w.alloc (.cells #[.int .u16 xage, .int .u8 xopts, .int .u8 k1, .int .u32 k2, .int .u32 k3, .int .i32 xseq, .int .u16 xsum, .int .u16 xlen, .slice xA xn xc] 31) = w1 at *
  clear hw1
  refine (skey_any (⟨xage, xopts, k1, k2, k3, xseq, xsum, xlen⟩ : Hd) w1).mono ?_
  rintro e w2 ⟨rfl, hb2⟩
  have hlt := HBx.out.lt
  have hb3 := below_then hb2 ((Below.refl w2.heap.size w2).alloc (Nat.le_refl _) (.cells #[.int .u8 k1, .int .u32 k2, .int .u32 k3] 45))
  have HB3 : Hid (Below w.heap.size w (w2.alloc (.cells #[.int .u8 k1, .int .u32 k2, .int .u32 k3] 45))) := Lib.hid (below_then HB0.out hb3)
  replace HBx := Lib.hid (HBx.out.later hb3)
  have HK0 : Hid (Blk (w2.alloc (.cells #[.int .u8 k1, .int .u32 k2, .int .u32 k3] 45)) w2.heap.size 45 #[.int .u8 k1, .int .u32 k2, .int .u32 k3]) := Lib.hid (Blk.new _ _ _)
  have HGK : Hid (w.heap.size < w2.heap.size) := Lib.hid (Nat.lt_of_lt_of_le hlt hb2.size)
  clear hb2 hb3 HB0 hlt
  go_wp2_with fail
  generalize w2.alloc (.cells #[.int .u8 k1, .int .u32 k2, .int .u32 k3] 45) = w3 at *
  generalize w2.heap.size = gk at *
  refine wp_region_s (fun W : World => Blk W g 91 #[.map (some bm), .int .i64 most] ∧ Blk W gk 45 #[.int .u8 k1, .int .u32 k2, .int .u32 k3] ∧ MapF keyV W bm (fun k => (f k).map OneE.v) n) [(0, true), (1, true), (2, true), (3, true), (4, true), (5, true), (6, true), (7, true), (8, true), (9, false), (10, false), (11, true)] (by kernel_rfl) (fun _ d _ _ _ h => by cases d <;> exact h) ?_
  simp only [List.map_cons, List.map_nil, nthOp_zero, nthOp_succ]
  have HS : Hid ((fun W : World => Blk W g 91 #[.map (some bm), .int .i64 most] ∧ Blk W gk 45 #[.int .u8 k1, .int .u32 k2, .int .u32 k3] ∧ MapF keyV W bm (fun k => (f k).map OneE.v) n) w3.drew) := Lib.hid ⟨(HQ.out.later (below_then HB3.out (Below.refl _ _).drew)).blk, HK0.out.later (Below.refl _ _).drew, (HQ.out.later (below_then HB3.out (Below.refl _ _).drew)).map⟩
  have hbd : Below w3.heap.size w3 w3.drew := (Below.refl _ _).drew
  have HBD := Lib.hid hbd
  clear hbd
  generalize hwd : w3.drew = w4 at *
  clear hwd
  refine wpS_take HS (by kernel_rfl) (by intro W hW; have j0 := hW.1.cell 0; have j1 := hW.1.cell 1; simp only [List.getElem?_toArray, List.getElem?_cons_zero, List.getElem?_cons_succ] at j0 j1; clear hW; go_simp; try with_reducible rfl) ?_
  refine wpS_take HS (by kernel_rfl) (by intro W hW; have j0 := hW.1.cell 0; have j1 := hW.1.cell 1; simp only [List.getElem?_toArray, List.getElem?_cons_zero, List.getElem?_cons_succ] at j0 j1; clear hW; go_simp; try with_reducible rfl) ?_
  refine wpS_take HS (by kernel_rfl) (by intro W hW; have j0 := hW.1.cell 0; have j1 := hW.1.cell 1; simp only [List.getElem?_toArray, List.getElem?_cons_zero, List.getElem?_cons_succ] at j0 j1; clear hW; go_simp; try with_reducible rfl) ?_
  refine wpS_take HS (by kernel_rfl) (by intro W hW; have j0 := hW.1.cell 0; have j1 := hW.1.cell 1; simp only [List.getElem?_toArray, List.getElem?_cons_zero, List.getElem?_cons_succ] at j0 j1; clear hW; go_simp; try with_reducible rfl) ?_
  refine wpS_take HS (by kernel_rfl) (fun W hW => exec_load_row rfl rfl hW.2.1 Try.underlying45 rfl info_key3) ?_
  refine wpS_take HS (by kernel_rfl) (fun W hW => exec_lookupF (a := (k1, k2, k3)) keyT Try.underlying89 zeroOne rfl hW.2.2 rfl rfl) ?_
  simp only [HLK.out]
  refine wpS_take HS (by kernel_rfl) (by intro W hW; have j0 := hW.1.cell 0; have j1 := hW.1.cell 1; simp only [List.getElem?_toArray, List.getElem?_cons_zero, List.getElem?_cons_succ] at j0 j1; clear hW; go_simp; try with_reducible rfl) ?_
  refine wpS_take HS (by kernel_rfl) (by intro W hW; have j0 := hW.1.cell 0; have j1 := hW.1.cell 1; simp only [List.getElem?_toArray, List.getElem?_cons_zero, List.getElem?_cons_succ] at j0 j1; clear hW; go_simp; try with_reducible rfl) ?_
  refine wpS_take HS (by kernel_rfl) (by intro W hW; have j0 := hW.1.cell 0; have j1 := hW.1.cell 1; simp only [List.getElem?_toArray, List.getElem?_cons_zero, List.getElem?_cons_succ] at j0 j1; clear hW; go_simp; try with_reducible rfl) ?_
  refine wpS_do fun K hK => ?_
  go_wp2
  have hba : Below w4.heap.size w4 (w4.alloc (.cells #[.int .u16 0, .int .u8 0, .int .u8 0, .int .u32 0, .int .u32 0, .int .i32 0, .int .u16 0, .int .u16 0, .slice none 0 0, .int .i64 0] 103)) := (Below.refl _ _).alloc (Nat.le_refl _) _
  refine hK.out _ _ ⟨HS.out.1.later hba, HS.out.2.1.later hba, HS.out.2.2.later hba⟩ ?_
  clear hK K hba
  refine wpS_do fun K hK => ?_
  go_wp2_with (go_must (refine wpList_store_row rfl 103 _ _ rfl w4.heap.size #[.int .u16 yage, .int .u8 yopts, .int .u8 ytyp, .int .u32 yid, .int .u32 yadv, .int .i32 yseq, .int .u16 ysum, .int .u16 ylen, .slice yA yn yc, .int .i64 yat] rfl rfl 103 _ (heap_alloc_new w4 _) info_one rfl (by simp [Value.oneCell']) ?_; rw [World.setRow_alloc_new]))
  have hb1 : Below w4.heap.size w4 (w4.alloc (.cells #[.int .u16 yage, .int .u8 yopts, .int .u8 ytyp, .int .u32 yid, .int .u32 yadv, .int .i32 yseq, .int .u16 ysum, .int .u16 ylen, .slice yA yn yc, .int .i64 yat] 103)) := (Below.refl _ _).alloc (Nat.le_refl _) _
  have HX0 : Hid (Blk (w4.alloc (.cells #[.int .u16 yage, .int .u8 yopts, .int .u8 ytyp, .int .u32 yid, .int .u32 yadv, .int .i32 yseq, .int .u16 ysum, .int .u16 ylen, .slice yA yn yc, .int .i64 yat] 103)) w4.heap.size 103 #[.int .u16 yage, .int .u8 yopts, .int .u8 ytyp, .int .u32 yid, .int .u32 yadv, .int .i32 yseq, .int .u16 ysum, .int .u16 ylen, .slice yA yn yc, .int .i64 yat]) := Lib.hid (Blk.new _ _ _)
  replace HS : Hid ((fun W : World => Blk W g 91 #[.map (some bm), .int .i64 most] ∧ Blk W gk 45 #[.int .u8 k1, .int .u32 k2, .int .u32 k3] ∧ MapF keyV W bm (fun k => (f k).map OneE.v) n) (w4.alloc (.cells #[.int .u16 yage, .int .u8 yopts, .int .u8 ytyp, .int .u32 yid, .int .u32 yadv, .int .i32 yseq, .int .u16 ysum, .int .u16 ylen, .slice yA yn yc, .int .i64 yat] 103))) := Lib.hid ⟨HS.out.1.later hb1, HS.out.2.1.later hb1, HS.out.2.2.later hb1⟩
  have HB1 := Lib.hid hb1
  clear hb1
  refine hK.out _ _ HS.out ?_
  clear hK K
  generalize hg1 : w4.alloc (.cells #[.int .u16 yage, .int .u8 yopts, .int .u8 ytyp, .int .u32 yid, .int .u32 yadv, .int .i32 yseq, .int .u16 ysum, .int .u16 ylen, .slice yA yn yc, .int .i64 yat] 103) = w5 at *
  clear hg1
  generalize hgx : w4.heap.size = gx at *
  refine wpS_take HS (by kernel_rfl) (by intro W hW; have j0 := hW.1.cell 0; have j1 := hW.1.cell 1; simp only [List.getElem?_toArray, List.getElem?_cons_zero, List.getElem?_cons_succ] at j0 j1; clear hW; go_simp; try with_reducible rfl) ?_
  refine wpS_nil ?_
  go_simp
  replace HBx := Lib.hid (((HBx.out.later HBD.out)).later (hgx ▸ HB1.out))
  have HB5 : Hid (Below w.heap.size w w5) := Lib.hid (below_then (below_then HB3.out HBD.out) (hgx ▸ HB1.out))
  have hgx5 : w.heap.size ≤ gx := by rw [← hgx]; exact (below_then HB3.out HBD.out).size
  clear HB3 HBD HB1 HX0 HLK HK0 hgx5
  clear hgx
  go_wp2_with fail
  refine wp_region_s (fun W : World => Blk W g 91 #[.map (some bm), .int .i64 most] ∧ Blk W gk 45 #[.int .u8 k1, .int .u32 k2, .int .u32 k3] ∧ MapF keyV W bm (fun k => (f k).map OneE.v) n) [(0, true), (1, true), (2, true), (3, true), (4, true), (5, true), (8, true), (9, true), (10, true), (6, true), (7, true), (11, true), (12, true), (13, true)] (by kernel_rfl) (fun _ d _ _ _ h => by cases d <;> exact h) ?_
  simp only [List.map_cons, List.map_nil, nthOp_zero, nthOp_succ]
  have hb6 : Below w5.heap.size w5 w5.drew := (Below.refl _ _).drew
  replace HS : Hid ((fun W : World => Blk W g 91 #[.map (some bm), .int .i64 most] ∧ Blk W gk 45 #[.int .u8 k1, .int .u32 k2, .int .u32 k3] ∧ MapF keyV W bm (fun k => (f k).map OneE.v) n) w5.drew) := Lib.hid ⟨HS.out.1.later hb6, HS.out.2.1.later hb6, HS.out.2.2.later hb6⟩
  replace HBx := Lib.hid (HBx.out.later hb6)
  have HB6 := Lib.hid (below_then HB5.out hb6)
  clear hb6 HB5
  generalize hwd : w5.drew = w6 at *
  clear hwd
  have dm : Hid (b = false → decide (most ≤ (n : Int)) = false) := Lib.hid fun hb => decide_eq_false (by have := HRm.out; rw [HYB.out, hb] at this; simp at this; omega)
  have key : ∀ tt : Bool, tt = false → True := fun _ _ => trivial
  cases b with
  | true =>
    refine wpS_take HS (by kernel_rfl) (by intro W hW; have j0 := hW.1.cell 0; have j1 := hW.1.cell 1; simp only [List.getElem?_toArray, List.getElem?_cons_zero, List.getElem?_cons_succ] at j0 j1; clear hW; go_simp; try with_reducible rfl) ?_
    refine wpS_take HS (by kernel_rfl) (by intro W hW; have j0 := hW.1.cell 0; have j1 := hW.1.cell 1; simp only [List.getElem?_toArray, List.getElem?_cons_zero, List.getElem?_cons_succ] at j0 j1; clear hW; go_simp; try with_reducible rfl) ?_
    refine wpS_take HS (by kernel_rfl) (by intro W hW; have j0 := hW.1.cell 0; have j1 := hW.1.cell 1; simp only [List.getElem?_toArray, List.getElem?_cons_zero, List.getElem?_cons_succ] at j0 j1; clear hW; go_simp; try with_reducible rfl) ?_
    refine wpS_skip HS (by kernel_rfl) ?_
    refine wpS_skip HS (by kernel_rfl) ?_
    refine wpS_skip HS (by kernel_rfl) ?_
    refine wpS_skip HS (by kernel_rfl) ?_
    refine wpS_skip HS (by kernel_rfl) ?_
    refine wpS_skip HS (by kernel_rfl) ?_
    refine wpS_skip HS (by kernel_rfl) ?_
    refine wpS_skip HS (by kernel_rfl) ?_
    refine wpS_skip HS (by kernel_rfl) ?_
    refine wpS_skip HS (by kernel_rfl) ?_
    refine wpS_take HS (by kernel_rfl) (by intro W hW; have j0 := hW.1.cell 0; have j1 := hW.1.cell 1; simp only [List.getElem?_toArray, List.getElem?_cons_zero, List.getElem?_cons_succ] at j0 j1; clear hW; go_simp; try with_reducible rfl) ?_
    refine wpS_nil ?_
    go_simp
    have c8 := HBx.out.cell 8; have f8 := HBx.out.frozen 8
    simp only [List.getElem?_toArray, List.getElem?_cons_zero, List.getElem?_cons_succ] at c8
    go_wp2_with fail
    clear c8 f8
    have hbl : xB.length = xn := HX.out.bl
    refine (clone_any xA xn xc xB w6 (HX.out.later HB6.out).body (by have := HX.out.len; simp only at this; omega)).mono ?_
    rintro e w7 ⟨v, rfl, hown, hb7⟩
    rw [hbl] at hown
    obtain ⟨vA, vc, rfl, hvc, hvm, hvr⟩ := own_shape_n hown
    have HW := Lib.hid (own_mono hown HB6.out.size)
    replace HBx := Lib.hid (HBx.out.later hb7)
    replace HS : Hid ((fun W : World => Blk W g 91 #[.map (some bm), .int .i64 most] ∧ Blk W gk 45 #[.int .u8 k1, .int .u32 k2, .int .u32 k3] ∧ MapF keyV W bm (fun k => (f k).map OneE.v) n) w7) := Lib.hid ⟨HS.out.1.later hb7, HS.out.2.1.later hb7, HS.out.2.2.later hb7⟩
    have HB7 := Lib.hid (below_then HB6.out hb7)
    clear hown hb7 HB6
    have c8 := HBx.out.cell 8; have f8 := HBx.out.frozen 8
    simp only [List.getElem?_toArray, List.getElem?_cons_zero, List.getElem?_cons_succ] at c8
    have hgs : g ≠ w.heap.size := Nat.ne_of_lt HQ.out.blk.lt
    have hgk : gk ≠ w.heap.size := Nat.ne_of_gt HGK.out
    have HB8 : Hid (Below w.heap.size w (w7.setCell ⟨w.heap.size, 8, none⟩ (.slice vA xn vc))) := Lib.hid (HB7.out.setCell (p := ⟨w.heap.size, 8, none⟩) (Nat.le_refl _) _)
    have HW8 := Lib.hid (own_cells HW.out HBx.out (by decide) 8 (.slice vA xn vc))
    have HP : Hid ((fun W : World => Blk W g 91 #[.map (some bm), .int .i64 most] ∧ Blk W gk 45 #[.int .u8 k1, .int .u32 k2, .int .u32 k3] ∧ Blk W w.heap.size 31 #[.int .u16 xage, .int .u8 xopts, .int .u8 k1, .int .u32 k2, .int .u32 k3, .int .i32 xseq, .int .u16 xsum, .int .u16 xlen, .slice vA xn vc]) (w7.setCell ⟨w.heap.size, 8, none⟩ (.slice vA xn vc))) := Lib.hid ⟨HS.out.1.far (p := ⟨w.heap.size, 8, none⟩) hgs _, HS.out.2.1.far (p := ⟨w.heap.size, 8, none⟩) hgk _, HBx.out.set_ 8 _⟩
    go_wp2_with fail
    clear c8 f8 HW HB7 HS HBx
    generalize w7.setCell ⟨w.heap.size, 8, none⟩ (.slice vA xn vc) = w8 at *
    refine wp_region_s (fun W : World => Blk W g 91 #[.map (some bm), .int .i64 most] ∧ Blk W gk 45 #[.int .u8 k1, .int .u32 k2, .int .u32 k3] ∧ Blk W w.heap.size 31 #[.int .u16 xage, .int .u8 xopts, .int .u8 k1, .int .u32 k2, .int .u32 k3, .int .i32 xseq, .int .u16 xsum, .int .u16 xlen, .slice vA xn vc]) [(0, true), (1, true), (2, true), (6, true), (3, true), (4, true), (5, true), (7, true), (8, false)] (by kernel_rfl) (fun _ d _ _ _ h => by cases d <;> exact h) ?_
    simp only [List.map_cons, List.map_nil, nthOp_zero, nthOp_succ]
    have hb9 : Below w8.heap.size w8 w8.drew := (Below.refl _ _).drew
    replace HP : Hid ((fun W : World => Blk W g 91 #[.map (some bm), .int .i64 most] ∧ Blk W gk 45 #[.int .u8 k1, .int .u32 k2, .int .u32 k3] ∧ Blk W w.heap.size 31 #[.int .u16 xage, .int .u8 xopts, .int .u8 k1, .int .u32 k2, .int .u32 k3, .int .i32 xseq, .int .u16 xsum, .int .u16 xlen, .slice vA xn vc]) w8.drew) := Lib.hid ⟨HP.out.1.later hb9, HP.out.2.1.later hb9, HP.out.2.2.later hb9⟩
    replace HW8 := Lib.hid (own_kept HW8.out (Kept.of_new hb9 (fun _ => False)) (fun _ _ h => h))
    have HB9 := Lib.hid (below_then HB8.out hb9)
    clear hb9 HB8
    generalize hwd : w8.drew = w9 at *
    clear hwd
    refine wpS_take HP (by kernel_rfl) (by intro W hW; have j0 := hW.1.cell 0; have j1 := hW.1.cell 1; simp only [List.getElem?_toArray, List.getElem?_cons_zero, List.getElem?_cons_succ] at j0 j1; clear hW; go_simp; try with_reducible rfl) ?_
    refine wpS_take HP (by kernel_rfl) (by intro W hW; have j0 := hW.1.cell 0; have j1 := hW.1.cell 1; simp only [List.getElem?_toArray, List.getElem?_cons_zero, List.getElem?_cons_succ] at j0 j1; clear hW; go_simp; try with_reducible rfl) ?_
    refine wpS_take HP (by kernel_rfl) (by intro W hW; have j0 := hW.1.cell 0; have j1 := hW.1.cell 1; simp only [List.getElem?_toArray, List.getElem?_cons_zero, List.getElem?_cons_succ] at j0 j1; clear hW; go_simp; try with_reducible rfl) ?_
    go_simp
    refine wpS_take HP (by kernel_rfl) (by intro W hW; have j0 := hW.1.cell 0; have j1 := hW.1.cell 1; simp only [List.getElem?_toArray, List.getElem?_cons_zero, List.getElem?_cons_succ] at j0 j1; clear hW; go_simp; try with_reducible rfl) ?_
    refine wpS_take HP (by kernel_rfl) (by intro W hW; have j0 := hW.1.cell 0; have j1 := hW.1.cell 1; simp only [List.getElem?_toArray, List.getElem?_cons_zero, List.getElem?_cons_succ] at j0 j1; clear hW; go_simp; try with_reducible rfl) ?_
    go_simp
    refine wpS_take HP (by kernel_rfl) (fun W hW => exec_load_row rfl rfl hW.2.1 Try.underlying45 rfl info_key3) ?_
    refine wpS_take HP (by kernel_rfl) (fun W hW => exec_load_row rfl rfl hW.2.2 Try.underlying31 rfl info_state) ?_
    refine wpS_take HP (by kernel_rfl) (by intro W hW; have j0 := hW.1.cell 0; have j1 := hW.1.cell 1; simp only [List.getElem?_toArray, List.getElem?_cons_zero, List.getElem?_cons_succ] at j0 j1; clear hW; go_simp; try with_reducible rfl) ?_
    refine wpS_do fun K hK => ?_
    have HM9 := Lib.hid (HQ.out.later HB9.out).map
    go_simp
    go_wp2_with (go_must (refine wpList_storeF keyT Try.underlying89 rfl (.tmp 49) (.tmp 50) (.tmp 53) rfl HM9.out rfl (k1, k2, k3) rfl (OneE.v ⟨⟨⟨xage, xopts, k1, k2, k3, xseq, xsum, xlen⟩, vA, xn, vc, xB⟩, now⟩) rfl ?_); intro w10 hm10 hk10)
    have HM10 := Lib.hid hm10
    have HK10 := Lib.hid hk10
    clear hm10 hk10
    have hne : ∀ {gg : Nat} {t : TypeId} {cs : Array Value}, Blk w9 gg t cs → ¬ (gg = bm) := fun hg e => HM9.out.ne_blk hg e.symm
    have HP10 : Hid ((fun W : World => Blk W g 91 #[.map (some bm), .int .i64 most] ∧ Blk W gk 45 #[.int .u8 k1, .int .u32 k2, .int .u32 k3] ∧ Blk W w.heap.size 31 #[.int .u16 xage, .int .u8 xopts, .int .u8 k1, .int .u32 k2, .int .u32 k3, .int .i32 xseq, .int .u16 xsum, .int .u16 xlen, .slice vA xn vc]) w10) := Lib.hid ⟨HP.out.1.kept HK10.out (hne HP.out.1), HP.out.2.1.kept HK10.out (hne HP.out.2.1), HP.out.2.2.kept HK10.out (hne HP.out.2.2)⟩
    refine hK.out _ _ HP10.out ?_
    clear hK K
    refine wpS_nil ?_
    go_simp
    go_wp2
    go_ret
    rw [updK_map] at HM10
    refine ⟨⟨⟨xage, xopts, k1, k2, k3, xseq, xsum, xlen⟩, vA, xn, vc, xB⟩, rfl, rfl, rfl, rfl, ⟨HP10.out.1, ?_, ?_⟩, ((Kept.of_new HB9.out (fun i => i = bm)).trans HK10.out (fun _ _ h => h))⟩
    · have h := HM10.out
      rw [show (((f (k1, k2, k3)).map OneE.v).isSome) = (f (k1, k2, k3)).isSome by cases f (k1, k2, k3) <;> rfl] at h
      exact h
    · intro k' x' hk'
      unfold updK at hk'
      split at hk'
      · rename_i he
        injection hk' with hk'
        subst hk'
        refine ⟨he.symm, ?_, hn⟩
        obtain ⟨A2, c2, hv2, h1, h2, h3⟩ := own_shape_n HW8.out
        injection hv2 with hA hN hC
        subst hA
        have hrd : (⟨⟨xage, xopts, k1, k2, k3, xseq, xsum, xlen⟩, vA, xn, vc, xB⟩ : SE).rd w9 := ⟨HX.out.head, h3, HX.out.oct, ⟨hvc, hvm⟩, HX.out.len⟩
        exact hrd.kept2 HK10.out (rd_ne_map hrd HM9.out)
      · have hg := HQ.out.good k' x' hk'
        have h9 := hg.2.1.later HB9.out
        exact ⟨hg.1, h9.kept2 HK10.out (rd_ne_map h9 HM9.out), hg.2.2⟩
  | false =>
    have dmo := dm.out rfl
    refine wpS_take HS (by kernel_rfl) (by intro W hW; have j0 := hW.1.cell 0; have j1 := hW.1.cell 1; simp only [List.getElem?_toArray, List.getElem?_cons_zero, List.getElem?_cons_succ] at j0 j1; clear hW; go_simp; try with_reducible rfl) ?_
    refine wpS_take HS (by kernel_rfl) (by intro W hW; have j0 := hW.1.cell 0; have j1 := hW.1.cell 1; simp only [List.getElem?_toArray, List.getElem?_cons_zero, List.getElem?_cons_succ] at j0 j1; clear hW; go_simp; try with_reducible rfl) ?_
    refine wpS_take HS (by kernel_rfl) (by intro W hW; have j0 := hW.1.cell 0; have j1 := hW.1.cell 1; simp only [List.getElem?_toArray, List.getElem?_cons_zero, List.getElem?_cons_succ] at j0 j1; clear hW; go_simp; try with_reducible rfl) ?_
    refine wpS_take HS (by kernel_rfl) (by intro W hW; have j0 := hW.1.cell 0; have j1 := hW.1.cell 1; simp only [List.getElem?_toArray, List.getElem?_cons_zero, List.getElem?_cons_succ] at j0 j1; have hl := maplen (T := 89) Try.underlying89 hW.2.2; clear hW; go_simp; try with_reducible rfl) ?_
    refine wpS_take HS (by kernel_rfl) (by intro W hW; have j0 := hW.1.cell 0; have j1 := hW.1.cell 1; simp only [List.getElem?_toArray, List.getElem?_cons_zero, List.getElem?_cons_succ] at j0 j1; have hl := maplen (T := 89) Try.underlying89 hW.2.2; clear hW; go_simp; try with_reducible rfl) ?_
    refine wpS_take HS (by kernel_rfl) (by intro W hW; have j0 := hW.1.cell 0; have j1 := hW.1.cell 1; simp only [List.getElem?_toArray, List.getElem?_cons_zero, List.getElem?_cons_succ] at j0 j1; have hl := maplen (T := 89) Try.underlying89 hW.2.2; clear hW; go_simp; try with_reducible rfl) ?_
    refine wpS_take HS (by kernel_rfl) (by intro W hW; have j0 := hW.1.cell 0; have j1 := hW.1.cell 1; simp only [List.getElem?_toArray, List.getElem?_cons_zero, List.getElem?_cons_succ] at j0 j1; have hl := maplen (T := 89) Try.underlying89 hW.2.2; clear hW; go_simp; try with_reducible rfl) ?_
    refine wpS_take HS (by kernel_rfl) (by intro W hW; have j0 := hW.1.cell 0; have j1 := hW.1.cell 1; simp only [List.getElem?_toArray, List.getElem?_cons_zero, List.getElem?_cons_succ] at j0 j1; have hl := maplen (T := 89) Try.underlying89 hW.2.2; clear hW; go_simp; try with_reducible rfl) ?_
    refine wpS_take HS (by kernel_rfl) (by intro W hW; have j0 := hW.1.cell 0; have j1 := hW.1.cell 1; simp only [List.getElem?_toArray, List.getElem?_cons_zero, List.getElem?_cons_succ] at j0 j1; have hl := maplen (T := 89) Try.underlying89 hW.2.2; clear hW; go_simp; try with_reducible rfl) ?_
    refine wpS_take HS (by kernel_rfl) (by intro W hW; have j0 := hW.1.cell 0; have j1 := hW.1.cell 1; simp only [List.getElem?_toArray, List.getElem?_cons_zero, List.getElem?_cons_succ] at j0 j1; have hl := maplen (T := 89) Try.underlying89 hW.2.2; clear hW; go_simp; try with_reducible rfl) ?_
    refine wpS_take HS (by kernel_rfl) (by intro W hW; have j0 := hW.1.cell 0; have j1 := hW.1.cell 1; simp only [List.getElem?_toArray, List.getElem?_cons_zero, List.getElem?_cons_succ] at j0 j1; have hl := maplen (T := 89) Try.underlying89 hW.2.2; clear hW; go_simp; try with_reducible rfl) ?_
    refine wpS_take HS (by kernel_rfl) (by intro W hW; have j0 := hW.1.cell 0; have j1 := hW.1.cell 1; simp only [List.getElem?_toArray, List.getElem?_cons_zero, List.getElem?_cons_succ] at j0 j1; have hl := maplen (T := 89) Try.underlying89 hW.2.2; clear hW; go_simp; try with_reducible rfl) ?_
    refine wpS_take HS (by kernel_rfl) (by intro W hW; have j0 := hW.1.cell 0; have j1 := hW.1.cell 1; simp only [List.getElem?_toArray, List.getElem?_cons_zero, List.getElem?_cons_succ] at j0 j1; have hl := maplen (T := 89) Try.underlying89 hW.2.2; clear hW; go_simp; try with_reducible rfl) ?_
    refine wpS_take HS (by kernel_rfl) (by intro W hW; have j0 := hW.1.cell 0; have j1 := hW.1.cell 1; simp only [List.getElem?_toArray, List.getElem?_cons_zero, List.getElem?_cons_succ] at j0 j1; clear hW; go_simp; try with_reducible rfl) ?_
    refine wpS_nil ?_
    go_simp
    have c8 := HBx.out.cell 8; have f8 := HBx.out.frozen 8
    simp only [List.getElem?_toArray, List.getElem?_cons_zero, List.getElem?_cons_succ] at c8
    go_wp2_with fail
    clear c8 f8
    have hbl : xB.length = xn := HX.out.bl
    refine (clone_any xA xn xc xB w6 (HX.out.later HB6.out).body (by have := HX.out.len; simp only at this; omega)).mono ?_
    rintro e w7 ⟨v, rfl, hown, hb7⟩
    rw [hbl] at hown
    obtain ⟨vA, vc, rfl, hvc, hvm, hvr⟩ := own_shape_n hown
    have HW := Lib.hid (own_mono hown HB6.out.size)
    replace HBx := Lib.hid (HBx.out.later hb7)
    replace HS : Hid ((fun W : World => Blk W g 91 #[.map (some bm), .int .i64 most] ∧ Blk W gk 45 #[.int .u8 k1, .int .u32 k2, .int .u32 k3] ∧ MapF keyV W bm (fun k => (f k).map OneE.v) n) w7) := Lib.hid ⟨HS.out.1.later hb7, HS.out.2.1.later hb7, HS.out.2.2.later hb7⟩
    have HB7 := Lib.hid (below_then HB6.out hb7)
    clear hown hb7 HB6
    have c8 := HBx.out.cell 8; have f8 := HBx.out.frozen 8
    simp only [List.getElem?_toArray, List.getElem?_cons_zero, List.getElem?_cons_succ] at c8
    have hgs : g ≠ w.heap.size := Nat.ne_of_lt HQ.out.blk.lt
    have hgk : gk ≠ w.heap.size := Nat.ne_of_gt HGK.out
    have HB8 : Hid (Below w.heap.size w (w7.setCell ⟨w.heap.size, 8, none⟩ (.slice vA xn vc))) := Lib.hid (HB7.out.setCell (p := ⟨w.heap.size, 8, none⟩) (Nat.le_refl _) _)
    have HW8 := Lib.hid (own_cells HW.out HBx.out (by decide) 8 (.slice vA xn vc))
    have HP : Hid ((fun W : World => Blk W g 91 #[.map (some bm), .int .i64 most] ∧ Blk W gk 45 #[.int .u8 k1, .int .u32 k2, .int .u32 k3] ∧ Blk W w.heap.size 31 #[.int .u16 xage, .int .u8 xopts, .int .u8 k1, .int .u32 k2, .int .u32 k3, .int .i32 xseq, .int .u16 xsum, .int .u16 xlen, .slice vA xn vc]) (w7.setCell ⟨w.heap.size, 8, none⟩ (.slice vA xn vc))) := Lib.hid ⟨HS.out.1.far (p := ⟨w.heap.size, 8, none⟩) hgs _, HS.out.2.1.far (p := ⟨w.heap.size, 8, none⟩) hgk _, HBx.out.set_ 8 _⟩
    go_wp2_with fail
    clear c8 f8 HW HB7 HS HBx
    generalize w7.setCell ⟨w.heap.size, 8, none⟩ (.slice vA xn vc) = w8 at *
    refine wp_region_s (fun W : World => Blk W g 91 #[.map (some bm), .int .i64 most] ∧ Blk W gk 45 #[.int .u8 k1, .int .u32 k2, .int .u32 k3] ∧ Blk W w.heap.size 31 #[.int .u16 xage, .int .u8 xopts, .int .u8 k1, .int .u32 k2, .int .u32 k3, .int .i32 xseq, .int .u16 xsum, .int .u16 xlen, .slice vA xn vc]) [(0, true), (1, true), (2, true), (6, true), (3, true), (4, true), (5, true), (7, true), (8, false)] (by kernel_rfl) (fun _ d _ _ _ h => by cases d <;> exact h) ?_
    simp only [List.map_cons, List.map_nil, nthOp_zero, nthOp_succ]
    have hb9 : Below w8.heap.size w8 w8.drew := (Below.refl _ _).drew
    replace HP : Hid ((fun W : World => Blk W g 91 #[.map (some bm), .int .i64 most] ∧ Blk W gk 45 #[.int .u8 k1, .int .u32 k2, .int .u32 k3] ∧ Blk W w.heap.size 31 #[.int .u16 xage, .int .u8 xopts, .int .u8 k1, .int .u32 k2, .int .u32 k3, .int .i32 xseq, .int .u16 xsum, .int .u16 xlen, .slice vA xn vc]) w8.drew) := Lib.hid ⟨HP.out.1.later hb9, HP.out.2.1.later hb9, HP.out.2.2.later hb9⟩
    replace HW8 := Lib.hid (own_kept HW8.out (Kept.of_new hb9 (fun _ => False)) (fun _ _ h => h))
    have HB9 := Lib.hid (below_then HB8.out hb9)
    clear hb9 HB8
    generalize hwd : w8.drew = w9 at *
    clear hwd
    refine wpS_take HP (by kernel_rfl) (by intro W hW; have j0 := hW.1.cell 0; have j1 := hW.1.cell 1; simp only [List.getElem?_toArray, List.getElem?_cons_zero, List.getElem?_cons_succ] at j0 j1; clear hW; go_simp; try with_reducible rfl) ?_
    refine wpS_take HP (by kernel_rfl) (by intro W hW; have j0 := hW.1.cell 0; have j1 := hW.1.cell 1; simp only [List.getElem?_toArray, List.getElem?_cons_zero, List.getElem?_cons_succ] at j0 j1; clear hW; go_simp; try with_reducible rfl) ?_
    refine wpS_take HP (by kernel_rfl) (by intro W hW; have j0 := hW.1.cell 0; have j1 := hW.1.cell 1; simp only [List.getElem?_toArray, List.getElem?_cons_zero, List.getElem?_cons_succ] at j0 j1; clear hW; go_simp; try with_reducible rfl) ?_
    go_simp
    refine wpS_take HP (by kernel_rfl) (by intro W hW; have j0 := hW.1.cell 0; have j1 := hW.1.cell 1; simp only [List.getElem?_toArray, List.getElem?_cons_zero, List.getElem?_cons_succ] at j0 j1; clear hW; go_simp; try with_reducible rfl) ?_
    refine wpS_take HP (by kernel_rfl) (by intro W hW; have j0 := hW.1.cell 0; have j1 := hW.1.cell 1; simp only [List.getElem?_toArray, List.getElem?_cons_zero, List.getElem?_cons_succ] at j0 j1; clear hW; go_simp; try with_reducible rfl) ?_
    go_simp
    refine wpS_take HP (by kernel_rfl) (fun W hW => exec_load_row rfl rfl hW.2.1 Try.underlying45 rfl info_key3) ?_
    refine wpS_take HP (by kernel_rfl) (fun W hW => exec_load_row rfl rfl hW.2.2 Try.underlying31 rfl info_state) ?_
    refine wpS_take HP (by kernel_rfl) (by intro W hW; have j0 := hW.1.cell 0; have j1 := hW.1.cell 1; simp only [List.getElem?_toArray, List.getElem?_cons_zero, List.getElem?_cons_succ] at j0 j1; clear hW; go_simp; try with_reducible rfl) ?_
    refine wpS_do fun K hK => ?_
    have HM9 := Lib.hid (HQ.out.later HB9.out).map
    go_simp
    go_wp2_with (go_must (refine wpList_storeF keyT Try.underlying89 rfl (.tmp 49) (.tmp 50) (.tmp 53) rfl HM9.out rfl (k1, k2, k3) rfl (OneE.v ⟨⟨⟨xage, xopts, k1, k2, k3, xseq, xsum, xlen⟩, vA, xn, vc, xB⟩, now⟩) rfl ?_); intro w10 hm10 hk10)
    have HM10 := Lib.hid hm10
    have HK10 := Lib.hid hk10
    clear hm10 hk10
    have hne : ∀ {gg : Nat} {t : TypeId} {cs : Array Value}, Blk w9 gg t cs → ¬ (gg = bm) := fun hg e => HM9.out.ne_blk hg e.symm
    have HP10 : Hid ((fun W : World => Blk W g 91 #[.map (some bm), .int .i64 most] ∧ Blk W gk 45 #[.int .u8 k1, .int .u32 k2, .int .u32 k3] ∧ Blk W w.heap.size 31 #[.int .u16 xage, .int .u8 xopts, .int .u8 k1, .int .u32 k2, .int .u32 k3, .int .i32 xseq, .int .u16 xsum, .int .u16 xlen, .slice vA xn vc]) w10) := Lib.hid ⟨HP.out.1.kept HK10.out (hne HP.out.1), HP.out.2.1.kept HK10.out (hne HP.out.2.1), HP.out.2.2.kept HK10.out (hne HP.out.2.2)⟩
    refine hK.out _ _ HP10.out ?_
    clear hK K
    refine wpS_nil ?_
    go_simp
    go_wp2
    go_ret
    rw [updK_map] at HM10
    refine ⟨⟨⟨xage, xopts, k1, k2, k3, xseq, xsum, xlen⟩, vA, xn, vc, xB⟩, rfl, rfl, rfl, rfl, ⟨HP10.out.1, ?_, ?_⟩, ((Kept.of_new HB9.out (fun i => i = bm)).trans HK10.out (fun _ _ h => h))⟩
    · have h := HM10.out
      rw [show (((f (k1, k2, k3)).map OneE.v).isSome) = (f (k1, k2, k3)).isSome by cases f (k1, k2, k3) <;> rfl] at h
      exact h
    · intro k' x' hk'
      unfold updK at hk'
      split at hk'
      · rename_i he
        injection hk' with hk'
        subst hk'
        refine ⟨he.symm, ?_, hn⟩
        obtain ⟨A2, c2, hv2, h1, h2, h3⟩ := own_shape_n HW8.out
        injection hv2 with hA hN hC
        subst hA
        have hrd : (⟨⟨xage, xopts, k1, k2, k3, xseq, xsum, xlen⟩, vA, xn, vc, xB⟩ : SE).rd w9 := ⟨HX.out.head, h3, HX.out.oct, ⟨hvc, hvm⟩, HX.out.len⟩
        exact hrd.kept2 HK10.out (rd_ne_map hrd HM9.out)
      · have hg := HQ.out.good k' x' hk'
        have h9 := hg.2.1.later HB9.out
        exact ⟨hg.1, h9.kept2 HK10.out (rd_ne_map h9 HM9.out), hg.2.2⟩
end Go.Proofs.Ytpncbggjngamgaa
