/-
  Get; Put of a store that is full; what no store answers. Printed by gen_sto9.py.
-/
import Derived.Test.YtpncbggjngamgaaSto8
namespace Go.Proofs.Ytpncbggjngamgaa
set_option linter.unusedVariables false
open Go.RowKit

theorem results_cell_row_tmp {P : Program} {fn : Func} {p u : Tmp} {ty : TypeId} (h : fn.results = #[.cell p ty, .tmp u]) (tmps : Array Value) (w : World) (g : Nat) (t : TypeId) (cs : Array Value) (fr : Nat × Nat) (d : TypeDesc)
    (hp : tmps.getD p undef = .pointer (some ⟨g, 0, none⟩)) (hg : w.heap[g]? = some (.cells cs t fr))
    (hu : P.underlying ty = some d) (hd : (match d with | .struct _ | .array _ _ => true | _ => false) = true) (hi : (P.info? ty).map (·.size) = some cs.size) :
    (results fn tmps).run P w = .ok (.tuple #[.agg cs, tmps.getD u undef]) w := by
  have hp' : tmps[p]?.getD undef = .pointer (some ⟨g, 0, none⟩) := by simpa using hp
  simp [results, h, hp', asAddr, run_loadVar_row w g t ty cs fr d hg hu hd hi]
set_option maxRecDepth 100000 in
set_option maxHeartbeats 8000000 in
theorem stputfull_any (w : World) (g bm : Nat) (most : Int) (f : Ky3 → Option OneE) (n : Nat) (q : StF w g bm most f n) (x : SE) (hx : x.rd w) (now : Int) (hn : 0 ≤ now ∧ now ≤ 9223372036854775807) (hroom : f x.key = none ∧ most ≤ (n : Int)) :
    Calls Try.prog 19 #[.pointer (some ⟨g, 0, none⟩), .int .i64 now, x.v] w fun e w' => e = .returned (.int .i64 47) ∧ Below w.heap.size w w' := by
  obtain ⟨⟨xage, xopts, k1, k2, k3, xseq, xsum, xlen⟩, xA, xn, xc, xB⟩ := x
  have hb0 : Below w.heap.size w (w.alloc (.cells #[.int .u16 xage, .int .u8 xopts, .int .u8 k1, .int .u32 k2, .int .u32 k3, .int .i32 xseq, .int .u16 xsum, .int .u16 xlen, .slice xA xn xc] 31)) := (Below.refl _ _).alloc (Nat.le_refl _) _
  have HQ := Lib.hid q
  have HX := Lib.hid hx
  have HBx : Hid (Blk (w.alloc (.cells #[.int .u16 xage, .int .u8 xopts, .int .u8 k1, .int .u32 k2, .int .u32 k3, .int .i32 xseq, .int .u16 xsum, .int .u16 xlen, .slice xA xn xc] 31)) w.heap.size 31 #[.int .u16 xage, .int .u8 xopts, .int .u8 k1, .int .u32 k2, .int .u32 k3, .int .i32 xseq, .int .u16 xsum, .int .u16 xlen, .slice xA xn xc]) := Lib.hid (Blk.new _ _ _)
  have HB0 := Lib.hid hb0
  have HRm := Lib.hid (show f (k1, k2, k3) = none ∧ most ≤ (n : Int) from hroom)
  have HN := Lib.hid (stnone_any _ g bm (show (w.alloc (.cells #[.int .u16 xage, .int .u8 xopts, .int .u8 k1, .int .u32 k2, .int .u32 k3, .int .i32 xseq, .int .u16 xsum, .int .u16 xlen, .slice xA xn xc] 31)).cell? ⟨g, 0, none⟩ = some (.map (some bm)) from (q.later hb0).blk.cell 0))
  obtain ⟨y, b, hy, hyb⟩ := lookS f (k1, k2, k3)
  obtain ⟨⟨⟨yage, yopts, ytyp, yid, yadv, yseq, ysum, ylen⟩, yA, yn, yc, yB⟩, yat⟩ := y
  have HLK := Lib.hid hy
  have HYB := Lib.hid (show (f (k1, k2, k3)).isSome = b by rcases hyb with ⟨h, rfl⟩ | ⟨h, rfl, _⟩ <;> rw [h] <;> rfl)
  have dn : decide (now < 0) = false := decide_eq_false (by omega)
  clear q hb0 hx hy hyb hroom
  go_enter Try.func19, Try.ntmps19
  go_wp2_with (go_at_call 33; refine HN.out.mono ?_; rintro e w' ⟨rfl, rfl⟩)
  clear HN dn
  generalize hw1 : w.alloc (.cells #[.int .u16 xage, .int .u8 xopts, .int .u8 k1, .int .u32 k2, .int .u32 k3, .int .i32 xseq, .int .u16 xsum, .int .u16 xlen, .slice xA xn xc] 31) = w1 at *
  clear hw1
  refine (skey_any (⟨xage, xopts, k1, k2, k3, xseq, xsum, xlen⟩ : Hd) w1).mono ?_
  rintro e w2 ⟨rfl, hb2⟩
  have hlt := HBx.out.lt
  have hb3 := below_then hb2 ((Below.refl w2.heap.size w2).alloc (Nat.le_refl _) (.cells #[.int .u8 k1, .int .u32 k2, .int .u32 k3] 45))
  have HB3 : Hid (Below w.heap.size w (w2.alloc (.cells #[.int .u8 k1, .int .u32 k2, .int .u32 k3] 45))) := Lib.hid (below_then HB0.out hb3)
  replace HBx := Lib.hid (HBx.out.later hb3)
  have HK0 : Hid (Blk (w2.alloc (.cells #[.int .u8 k1, .int .u32 k2, .int .u32 k3] 45)) w2.heap.size 45 #[.int .u8 k1, .int .u32 k2, .int .u32 k3]) := Lib.hid (Blk.new _ _ _)
  have HGK : Hid (w.heap.size < w2.heap.size) := Lib.hid (Nat.lt_of_lt_of_le hlt hb2.size)
  clear hb2 hb3 HB0 hlt
  go_wp2_with fail
  generalize w2.alloc (.cells #[.int .u8 k1, .int .u32 k2, .int .u32 k3] 45) = w3 at *
  generalize w2.heap.size = gk at *
  refine wp_region_s (fun W : World => Blk W g 91 #[.map (some bm), .int .i64 most] ∧ Blk W gk 45 #[.int .u8 k1, .int .u32 k2, .int .u32 k3] ∧ MapF keyV W bm (fun k => (f k).map OneE.v) n) [(0, true), (1, true), (2, true), (3, true), (4, true), (5, true), (6, true), (7, true), (8, true), (9, false), (10, false), (11, true)] (by kernel_rfl) (fun _ d _ _ _ h => by cases d <;> exact h) ?_
  simp only [List.map_cons, List.map_nil, nthOp_zero, nthOp_succ]
  have HS : Hid ((fun W : World => Blk W g 91 #[.map (some bm), .int .i64 most] ∧ Blk W gk 45 #[.int .u8 k1, .int .u32 k2, .int .u32 k3] ∧ MapF keyV W bm (fun k => (f k).map OneE.v) n) w3.drew) := Lib.hid ⟨(HQ.out.later (below_then HB3.out (Below.refl _ _).drew)).blk, HK0.out.later (Below.refl _ _).drew, (HQ.out.later (below_then HB3.out (Below.refl _ _).drew)).map⟩
  have hbd : Below w3.heap.size w3 w3.drew := (Below.refl _ _).drew
  have HBD := Lib.hid hbd
  clear hbd
  generalize hwd : w3.drew = w4 at *
  clear hwd
  refine wpS_take HS (by kernel_rfl) (by intro W hW; have j0 := hW.1.cell 0; have j1 := hW.1.cell 1; simp only [List.getElem?_toArray, List.getElem?_cons_zero, List.getElem?_cons_succ] at j0 j1; clear hW; go_simp; try with_reducible rfl) ?_
  refine wpS_take HS (by kernel_rfl) (by intro W hW; have j0 := hW.1.cell 0; have j1 := hW.1.cell 1; simp only [List.getElem?_toArray, List.getElem?_cons_zero, List.getElem?_cons_succ] at j0 j1; clear hW; go_simp; try with_reducible rfl) ?_
  refine wpS_take HS (by kernel_rfl) (by intro W hW; have j0 := hW.1.cell 0; have j1 := hW.1.cell 1; simp only [List.getElem?_toArray, List.getElem?_cons_zero, List.getElem?_cons_succ] at j0 j1; clear hW; go_simp; try with_reducible rfl) ?_
  refine wpS_take HS (by kernel_rfl) (by intro W hW; have j0 := hW.1.cell 0; have j1 := hW.1.cell 1; simp only [List.getElem?_toArray, List.getElem?_cons_zero, List.getElem?_cons_succ] at j0 j1; clear hW; go_simp; try with_reducible rfl) ?_
  refine wpS_take HS (by kernel_rfl) (fun W hW => exec_load_row rfl rfl hW.2.1 Try.underlying45 rfl info_key3) ?_
  refine wpS_take HS (by kernel_rfl) (fun W hW => exec_lookupF (a := (k1, k2, k3)) keyT Try.underlying89 zeroOne rfl hW.2.2 rfl rfl) ?_
  simp only [HLK.out]
  refine wpS_take HS (by kernel_rfl) (by intro W hW; have j0 := hW.1.cell 0; have j1 := hW.1.cell 1; simp only [List.getElem?_toArray, List.getElem?_cons_zero, List.getElem?_cons_succ] at j0 j1; clear hW; go_simp; try with_reducible rfl) ?_
  refine wpS_take HS (by kernel_rfl) (by intro W hW; have j0 := hW.1.cell 0; have j1 := hW.1.cell 1; simp only [List.getElem?_toArray, List.getElem?_cons_zero, List.getElem?_cons_succ] at j0 j1; clear hW; go_simp; try with_reducible rfl) ?_
  refine wpS_take HS (by kernel_rfl) (by intro W hW; have j0 := hW.1.cell 0; have j1 := hW.1.cell 1; simp only [List.getElem?_toArray, List.getElem?_cons_zero, List.getElem?_cons_succ] at j0 j1; clear hW; go_simp; try with_reducible rfl) ?_
  refine wpS_do fun K hK => ?_
  go_wp2
  have hba : Below w4.heap.size w4 (w4.alloc (.cells #[.int .u16 0, .int .u8 0, .int .u8 0, .int .u32 0, .int .u32 0, .int .i32 0, .int .u16 0, .int .u16 0, .slice none 0 0, .int .i64 0] 103)) := (Below.refl _ _).alloc (Nat.le_refl _) _
  refine hK.out _ _ ⟨HS.out.1.later hba, HS.out.2.1.later hba, HS.out.2.2.later hba⟩ ?_
  clear hK K hba
  refine wpS_do fun K hK => ?_
  go_wp2_with (go_must (refine wpList_store_row rfl 103 _ _ rfl w4.heap.size #[.int .u16 yage, .int .u8 yopts, .int .u8 ytyp, .int .u32 yid, .int .u32 yadv, .int .i32 yseq, .int .u16 ysum, .int .u16 ylen, .slice yA yn yc, .int .i64 yat] rfl rfl 103 _ (heap_alloc_new w4 _) info_one rfl (by simp [Value.oneCell']) ?_; rw [World.setRow_alloc_new]))
  have hb1 : Below w4.heap.size w4 (w4.alloc (.cells #[.int .u16 yage, .int .u8 yopts, .int .u8 ytyp, .int .u32 yid, .int .u32 yadv, .int .i32 yseq, .int .u16 ysum, .int .u16 ylen, .slice yA yn yc, .int .i64 yat] 103)) := (Below.refl _ _).alloc (Nat.le_refl _) _
  have HX0 : Hid (Blk (w4.alloc (.cells #[.int .u16 yage, .int .u8 yopts, .int .u8 ytyp, .int .u32 yid, .int .u32 yadv, .int .i32 yseq, .int .u16 ysum, .int .u16 ylen, .slice yA yn yc, .int .i64 yat] 103)) w4.heap.size 103 #[.int .u16 yage, .int .u8 yopts, .int .u8 ytyp, .int .u32 yid, .int .u32 yadv, .int .i32 yseq, .int .u16 ysum, .int .u16 ylen, .slice yA yn yc, .int .i64 yat]) := Lib.hid (Blk.new _ _ _)
  replace HS : Hid ((fun W : World => Blk W g 91 #[.map (some bm), .int .i64 most] ∧ Blk W gk 45 #[.int .u8 k1, .int .u32 k2, .int .u32 k3] ∧ MapF keyV W bm (fun k => (f k).map OneE.v) n) (w4.alloc (.cells #[.int .u16 yage, .int .u8 yopts, .int .u8 ytyp, .int .u32 yid, .int .u32 yadv, .int .i32 yseq, .int .u16 ysum, .int .u16 ylen, .slice yA yn yc, .int .i64 yat] 103))) := Lib.hid ⟨HS.out.1.later hb1, HS.out.2.1.later hb1, HS.out.2.2.later hb1⟩
  have HB1 := Lib.hid hb1
  clear hb1
  refine hK.out _ _ HS.out ?_
  clear hK K
  generalize hg1 : w4.alloc (.cells #[.int .u16 yage, .int .u8 yopts, .int .u8 ytyp, .int .u32 yid, .int .u32 yadv, .int .i32 yseq, .int .u16 ysum, .int .u16 ylen, .slice yA yn yc, .int .i64 yat] 103) = w5 at *
  clear hg1
  generalize hgx : w4.heap.size = gx at *
  refine wpS_take HS (by kernel_rfl) (by intro W hW; have j0 := hW.1.cell 0; have j1 := hW.1.cell 1; simp only [List.getElem?_toArray, List.getElem?_cons_zero, List.getElem?_cons_succ] at j0 j1; clear hW; go_simp; try with_reducible rfl) ?_
  refine wpS_nil ?_
  go_simp
  replace HBx := Lib.hid (((HBx.out.later HBD.out)).later (hgx ▸ HB1.out))
  have HB5 : Hid (Below w.heap.size w w5) := Lib.hid (below_then (below_then HB3.out HBD.out) (hgx ▸ HB1.out))
  have hgx5 : w.heap.size ≤ gx := by rw [← hgx]; exact (below_then HB3.out HBD.out).size
  clear HB3 HBD HB1 HX0 HLK HK0 hgx5
  clear hgx
  go_wp2_with fail
  refine wp_region_s (fun W : World => Blk W g 91 #[.map (some bm), .int .i64 most] ∧ Blk W gk 45 #[.int .u8 k1, .int .u32 k2, .int .u32 k3] ∧ MapF keyV W bm (fun k => (f k).map OneE.v) n) [(0, true), (1, true), (2, true), (3, true), (4, true), (5, true), (8, true), (9, true), (10, true), (6, true), (7, true), (11, true), (12, true), (13, true)] (by kernel_rfl) (fun _ d _ _ _ h => by cases d <;> exact h) ?_
  simp only [List.map_cons, List.map_nil, nthOp_zero, nthOp_succ]
  have hb6 : Below w5.heap.size w5 w5.drew := (Below.refl _ _).drew
  replace HS : Hid ((fun W : World => Blk W g 91 #[.map (some bm), .int .i64 most] ∧ Blk W gk 45 #[.int .u8 k1, .int .u32 k2, .int .u32 k3] ∧ MapF keyV W bm (fun k => (f k).map OneE.v) n) w5.drew) := Lib.hid ⟨HS.out.1.later hb6, HS.out.2.1.later hb6, HS.out.2.2.later hb6⟩
  replace HBx := Lib.hid (HBx.out.later hb6)
  have HB6 := Lib.hid (below_then HB5.out hb6)
  clear hb6 HB5
  generalize hwd : w5.drew = w6 at *
  clear hwd
  have hbf : b = false := by have h := HYB.out; rw [HRm.out.1] at h; exact h.symm
  subst hbf
  have dmo : decide (most ≤ (n : Int)) = true := decide_eq_true HRm.out.2
  refine wpS_take HS (by kernel_rfl) (by intro W hW; have j0 := hW.1.cell 0; have j1 := hW.1.cell 1; simp only [List.getElem?_toArray, List.getElem?_cons_zero, List.getElem?_cons_succ] at j0 j1; clear hW; go_simp; try with_reducible rfl) ?_
  refine wpS_take HS (by kernel_rfl) (by intro W hW; have j0 := hW.1.cell 0; have j1 := hW.1.cell 1; simp only [List.getElem?_toArray, List.getElem?_cons_zero, List.getElem?_cons_succ] at j0 j1; clear hW; go_simp; try with_reducible rfl) ?_
  refine wpS_take HS (by kernel_rfl) (by intro W hW; have j0 := hW.1.cell 0; have j1 := hW.1.cell 1; simp only [List.getElem?_toArray, List.getElem?_cons_zero, List.getElem?_cons_succ] at j0 j1; clear hW; go_simp; try with_reducible rfl) ?_
  refine wpS_take HS (by kernel_rfl) (by intro W hW; have j0 := hW.1.cell 0; have j1 := hW.1.cell 1; simp only [List.getElem?_toArray, List.getElem?_cons_zero, List.getElem?_cons_succ] at j0 j1; have hl := maplen (T := 89) Try.underlying89 hW.2.2; clear hW; go_simp; try with_reducible rfl) ?_
  refine wpS_take HS (by kernel_rfl) (by intro W hW; have j0 := hW.1.cell 0; have j1 := hW.1.cell 1; simp only [List.getElem?_toArray, List.getElem?_cons_zero, List.getElem?_cons_succ] at j0 j1; have hl := maplen (T := 89) Try.underlying89 hW.2.2; clear hW; go_simp; try with_reducible rfl) ?_
  refine wpS_take HS (by kernel_rfl) (by intro W hW; have j0 := hW.1.cell 0; have j1 := hW.1.cell 1; simp only [List.getElem?_toArray, List.getElem?_cons_zero, List.getElem?_cons_succ] at j0 j1; have hl := maplen (T := 89) Try.underlying89 hW.2.2; clear hW; go_simp; try with_reducible rfl) ?_
  refine wpS_take HS (by kernel_rfl) (by intro W hW; have j0 := hW.1.cell 0; have j1 := hW.1.cell 1; simp only [List.getElem?_toArray, List.getElem?_cons_zero, List.getElem?_cons_succ] at j0 j1; have hl := maplen (T := 89) Try.underlying89 hW.2.2; clear hW; go_simp; try with_reducible rfl) ?_
  refine wpS_take HS (by kernel_rfl) (by intro W hW; have j0 := hW.1.cell 0; have j1 := hW.1.cell 1; simp only [List.getElem?_toArray, List.getElem?_cons_zero, List.getElem?_cons_succ] at j0 j1; have hl := maplen (T := 89) Try.underlying89 hW.2.2; clear hW; go_simp; try with_reducible rfl) ?_
  refine wpS_take HS (by kernel_rfl) (by intro W hW; have j0 := hW.1.cell 0; have j1 := hW.1.cell 1; simp only [List.getElem?_toArray, List.getElem?_cons_zero, List.getElem?_cons_succ] at j0 j1; have hl := maplen (T := 89) Try.underlying89 hW.2.2; clear hW; go_simp; try with_reducible rfl) ?_
  refine wpS_take HS (by kernel_rfl) (by intro W hW; have j0 := hW.1.cell 0; have j1 := hW.1.cell 1; simp only [List.getElem?_toArray, List.getElem?_cons_zero, List.getElem?_cons_succ] at j0 j1; have hl := maplen (T := 89) Try.underlying89 hW.2.2; clear hW; go_simp; try with_reducible rfl) ?_
  refine wpS_take HS (by kernel_rfl) (by intro W hW; have j0 := hW.1.cell 0; have j1 := hW.1.cell 1; simp only [List.getElem?_toArray, List.getElem?_cons_zero, List.getElem?_cons_succ] at j0 j1; have hl := maplen (T := 89) Try.underlying89 hW.2.2; clear hW; go_simp; try with_reducible rfl) ?_
  refine wpS_take HS (by kernel_rfl) (by intro W hW; have j0 := hW.1.cell 0; have j1 := hW.1.cell 1; simp only [List.getElem?_toArray, List.getElem?_cons_zero, List.getElem?_cons_succ] at j0 j1; have hl := maplen (T := 89) Try.underlying89 hW.2.2; clear hW; go_simp; try with_reducible rfl) ?_
  refine wpS_take HS (by kernel_rfl) (by intro W hW; have j0 := hW.1.cell 0; have j1 := hW.1.cell 1; simp only [List.getElem?_toArray, List.getElem?_cons_zero, List.getElem?_cons_succ] at j0 j1; have hl := maplen (T := 89) Try.underlying89 hW.2.2; clear hW; go_simp; try with_reducible rfl) ?_
  refine wpS_take HS (by kernel_rfl) (by intro W hW; have j0 := hW.1.cell 0; have j1 := hW.1.cell 1; simp only [List.getElem?_toArray, List.getElem?_cons_zero, List.getElem?_cons_succ] at j0 j1; clear hW; go_simp; try with_reducible rfl) ?_
  refine wpS_nil ?_
  go_simp
  go_wp2
  go_ret
  exact ⟨rfl, HB6.out⟩
/-- What Get answers of a key that is there. -/
def GetAt (w w' : World) (x : OneE) (now : Int) (e : Ending) : Prop := ∃ s' : SE, e = .returned (.tuple #[s'.v, .bool true]) ∧ s'.h = x.headAt now ∧ s'.ok w.heap.size w' ∧ s'.B = x.s.B ∧ s'.n = x.s.n ∧ Below w.heap.size w w'
set_option maxRecDepth 100000 in
set_option maxHeartbeats 8000000 in
theorem stget_any (w : World) (g bm : Nat) (most : Int) (f : Ky3 → Option OneE) (n : Nat) (q : StF w g bm most f n) (k : Ky3) (now : Int) (hn : 0 ≤ now ∧ now ≤ 9223372036854775807) :
    Calls Try.prog 27 #[.pointer (some ⟨g, 0, none⟩), .int .i64 now, keyV k] w fun e w' =>
      (∀ x, f k = some x → GetAt w w' x now e) ∧ (f k = none → e = .returned (.tuple #[zeroSt, .bool false]) ∧ Below w.heap.size w w') := by
  obtain ⟨k1, k2, k3⟩ := k
  have hb0 : Below w.heap.size w ((w.alloc (.cells #[.int .u8 k1, .int .u32 k2, .int .u32 k3] 45)).alloc (.cells #[.int .u16 0, .int .u8 0, .int .u8 0, .int .u32 0, .int .u32 0, .int .i32 0, .int .u16 0, .int .u16 0, .slice none 0 0] 31)) := below_two _ _ _
  have HQ0 := Lib.hid q
  have HQ := Lib.hid (q.later hb0)
  have HK0 : Hid (Blk ((w.alloc (.cells #[.int .u8 k1, .int .u32 k2, .int .u32 k3] 45)).alloc (.cells #[.int .u16 0, .int .u8 0, .int .u8 0, .int .u32 0, .int .u32 0, .int .i32 0, .int .u16 0, .int .u16 0, .slice none 0 0] 31)) w.heap.size 45 #[.int .u8 k1, .int .u32 k2, .int .u32 k3]) := Lib.hid ((Blk.new _ _ _).alloc _)
  have HR0 : Hid (Blk ((w.alloc (.cells #[.int .u8 k1, .int .u32 k2, .int .u32 k3] 45)).alloc (.cells #[.int .u16 0, .int .u8 0, .int .u8 0, .int .u32 0, .int .u32 0, .int .i32 0, .int .u16 0, .int .u16 0, .slice none 0 0] 31)) (w.heap.size + 1) 31 #[.int .u16 0, .int .u8 0, .int .u8 0, .int .u32 0, .int .u32 0, .int .i32 0, .int .u16 0, .int .u16 0, .slice none 0 0]) := Lib.hid (new_at _ _ _)
  have HB0 := Lib.hid hb0
  have HN := Lib.hid (stnone_any _ g bm (show ((w.alloc (.cells #[.int .u8 k1, .int .u32 k2, .int .u32 k3] 45)).alloc (.cells #[.int .u16 0, .int .u8 0, .int .u8 0, .int .u32 0, .int .u32 0, .int .i32 0, .int .u16 0, .int .u16 0, .slice none 0 0] 31)).cell? ⟨g, 0, none⟩ = some (.map (some bm)) from HQ.out.blk.cell 0))
  obtain ⟨x, b, hx, hxb⟩ := lookS f (k1, k2, k3)
  obtain ⟨⟨⟨yage, yopts, ytyp, yid, yadv, yseq, ysum, ylen⟩, yA, yn, yc, yB⟩, yat⟩ := x
  have HLK := Lib.hid hx
  have HXB := Lib.hid hxb
  have dn : decide (now < 0) = false := decide_eq_false (by omega)
  clear q hb0 hx hxb
  go_enter Try.func27, Try.ntmps27
  go_wp2_with (go_at_call 33; refine HN.out.mono ?_; rintro e w' ⟨rfl, rfl⟩)
  clear HN dn
  generalize (w.alloc (.cells #[.int .u8 k1, .int .u32 k2, .int .u32 k3] 45)).alloc (.cells #[.int .u16 0, .int .u8 0, .int .u8 0, .int .u32 0, .int .u32 0, .int .i32 0, .int .u16 0, .int .u16 0, .slice none 0 0] 31) = w1 at *
  generalize hgk : w.heap.size = gk at *
  refine wp_region_s (fun W : World => Blk W g 91 #[.map (some bm), .int .i64 most] ∧ Blk W gk 45 #[.int .u8 k1, .int .u32 k2, .int .u32 k3] ∧ MapF keyV W bm (fun k => (f k).map OneE.v) n) [(0, true), (1, true), (2, true), (3, true), (4, true), (5, true), (6, true), (7, true), (8, true), (9, false), (10, false), (11, true)] (by kernel_rfl) (fun _ d _ _ _ h => by cases d <;> exact h) ?_
  simp only [List.map_cons, List.map_nil, nthOp_zero, nthOp_succ]
  have HS : Hid ((fun W : World => Blk W g 91 #[.map (some bm), .int .i64 most] ∧ Blk W gk 45 #[.int .u8 k1, .int .u32 k2, .int .u32 k3] ∧ MapF keyV W bm (fun k => (f k).map OneE.v) n) w1.drew) := Lib.hid ⟨(HQ.out.later (Below.refl _ _).drew).blk, HK0.out.later (Below.refl _ _).drew, (HQ.out.later (Below.refl _ _).drew).map⟩
  have hbd : Below w1.heap.size w1 w1.drew := (Below.refl _ _).drew
  have HBD := Lib.hid hbd
  clear hbd
  generalize hwd : w1.drew = w2 at *
  clear hwd
  refine wpS_take HS (by kernel_rfl) (by intro W hW; have j0 := hW.1.cell 0; have j1 := hW.1.cell 1; simp only [List.getElem?_toArray, List.getElem?_cons_zero, List.getElem?_cons_succ] at j0 j1; clear hW; go_simp; try with_reducible rfl) ?_
  refine wpS_take HS (by kernel_rfl) (by intro W hW; have j0 := hW.1.cell 0; have j1 := hW.1.cell 1; simp only [List.getElem?_toArray, List.getElem?_cons_zero, List.getElem?_cons_succ] at j0 j1; clear hW; go_simp; try with_reducible rfl) ?_
  refine wpS_take HS (by kernel_rfl) (by intro W hW; have j0 := hW.1.cell 0; have j1 := hW.1.cell 1; simp only [List.getElem?_toArray, List.getElem?_cons_zero, List.getElem?_cons_succ] at j0 j1; clear hW; go_simp; try with_reducible rfl) ?_
  refine wpS_take HS (by kernel_rfl) (by intro W hW; have j0 := hW.1.cell 0; have j1 := hW.1.cell 1; simp only [List.getElem?_toArray, List.getElem?_cons_zero, List.getElem?_cons_succ] at j0 j1; clear hW; go_simp; try with_reducible rfl) ?_
  refine wpS_take HS (by kernel_rfl) (fun W hW => exec_load_row rfl rfl hW.2.1 Try.underlying45 rfl info_key3) ?_
  refine wpS_take HS (by kernel_rfl) (fun W hW => exec_lookupF (a := (k1, k2, k3)) keyT Try.underlying89 zeroOne rfl hW.2.2 rfl rfl) ?_
  simp only [HLK.out]
  refine wpS_take HS (by kernel_rfl) (by intro W hW; have j0 := hW.1.cell 0; have j1 := hW.1.cell 1; simp only [List.getElem?_toArray, List.getElem?_cons_zero, List.getElem?_cons_succ] at j0 j1; clear hW; go_simp; try with_reducible rfl) ?_
  refine wpS_take HS (by kernel_rfl) (by intro W hW; have j0 := hW.1.cell 0; have j1 := hW.1.cell 1; simp only [List.getElem?_toArray, List.getElem?_cons_zero, List.getElem?_cons_succ] at j0 j1; clear hW; go_simp; try with_reducible rfl) ?_
  refine wpS_take HS (by kernel_rfl) (by intro W hW; have j0 := hW.1.cell 0; have j1 := hW.1.cell 1; simp only [List.getElem?_toArray, List.getElem?_cons_zero, List.getElem?_cons_succ] at j0 j1; clear hW; go_simp; try with_reducible rfl) ?_
  refine wpS_do fun K hK => ?_
  go_wp2
  have hba : Below w2.heap.size w2 (w2.alloc (.cells #[.int .u16 0, .int .u8 0, .int .u8 0, .int .u32 0, .int .u32 0, .int .i32 0, .int .u16 0, .int .u16 0, .slice none 0 0, .int .i64 0] 103)) := (Below.refl _ _).alloc (Nat.le_refl _) _
  refine hK.out _ _ ⟨HS.out.1.later hba, HS.out.2.1.later hba, HS.out.2.2.later hba⟩ ?_
  clear hK K hba
  refine wpS_do fun K hK => ?_
  go_wp2_with (go_must (refine wpList_store_row rfl 103 _ _ rfl w2.heap.size #[.int .u16 yage, .int .u8 yopts, .int .u8 ytyp, .int .u32 yid, .int .u32 yadv, .int .i32 yseq, .int .u16 ysum, .int .u16 ylen, .slice yA yn yc, .int .i64 yat] rfl rfl 103 _ (heap_alloc_new w2 _) info_one rfl (by simp [Value.oneCell']) ?_; rw [World.setRow_alloc_new]))
  have hb1 : Below w2.heap.size w2 (w2.alloc (.cells #[.int .u16 yage, .int .u8 yopts, .int .u8 ytyp, .int .u32 yid, .int .u32 yadv, .int .i32 yseq, .int .u16 ysum, .int .u16 ylen, .slice yA yn yc, .int .i64 yat] 103)) := (Below.refl _ _).alloc (Nat.le_refl _) _
  have HX : Hid (Blk (w2.alloc (.cells #[.int .u16 yage, .int .u8 yopts, .int .u8 ytyp, .int .u32 yid, .int .u32 yadv, .int .i32 yseq, .int .u16 ysum, .int .u16 ylen, .slice yA yn yc, .int .i64 yat] 103)) w2.heap.size 103 #[.int .u16 yage, .int .u8 yopts, .int .u8 ytyp, .int .u32 yid, .int .u32 yadv, .int .i32 yseq, .int .u16 ysum, .int .u16 ylen, .slice yA yn yc, .int .i64 yat]) := Lib.hid (Blk.new _ _ _)
  replace HS : Hid ((fun W : World => Blk W g 91 #[.map (some bm), .int .i64 most] ∧ Blk W gk 45 #[.int .u8 k1, .int .u32 k2, .int .u32 k3] ∧ MapF keyV W bm (fun k => (f k).map OneE.v) n) (w2.alloc (.cells #[.int .u16 yage, .int .u8 yopts, .int .u8 ytyp, .int .u32 yid, .int .u32 yadv, .int .i32 yseq, .int .u16 ysum, .int .u16 ylen, .slice yA yn yc, .int .i64 yat] 103))) := Lib.hid ⟨HS.out.1.later hb1, HS.out.2.1.later hb1, HS.out.2.2.later hb1⟩
  have HB1 := Lib.hid hb1
  clear hb1
  refine hK.out _ _ HS.out ?_
  clear hK K
  generalize hg1 : w2.alloc (.cells #[.int .u16 yage, .int .u8 yopts, .int .u8 ytyp, .int .u32 yid, .int .u32 yadv, .int .i32 yseq, .int .u16 ysum, .int .u16 ylen, .slice yA yn yc, .int .i64 yat] 103) = w3 at *
  clear hg1
  generalize hgx : w2.heap.size = gx at *
  refine wpS_take HS (by kernel_rfl) (by intro W hW; have j0 := hW.1.cell 0; have j1 := hW.1.cell 1; simp only [List.getElem?_toArray, List.getElem?_cons_zero, List.getElem?_cons_succ] at j0 j1; clear hW; go_simp; try with_reducible rfl) ?_
  refine wpS_nil ?_
  go_simp
  rw [← hgk] at HB0 HK0 HR0
  replace HR0 := Lib.hid ((HR0.out.later HBD.out).later (hgx ▸ HB1.out))
  have HB3 : Hid (Below w.heap.size w w3) := Lib.hid (below_then (below_then HB0.out HBD.out) (hgx ▸ HB1.out))
  have hgx3 : gx ≠ w.heap.size + 1 := fun e => by have h1 : some (Obj.cells #[.int .u16 yage, .int .u8 yopts, .int .u8 ytyp, .int .u32 yid, .int .u32 yadv, .int .i32 yseq, .int .u16 ysum, .int .u16 ylen, .slice yA yn yc, .int .i64 yat] 103) = some (Obj.cells #[.int .u16 0, .int .u8 0, .int .u8 0, .int .u32 0, .int .u32 0, .int .i32 0, .int .u16 0, .int .u16 0, .slice none 0 0] 31) := HX.out.symm.trans (by rw [e]; exact HR0.out); injection h1 with h1; injection h1 with h1 h2; exact absurd h2 (by decide)
  clear HBD HB1 HB0 HLK hgx
  rw [← hgk]
  clear hgk
  cases b with
  | false =>
    go_wp2_with (refine wpList_store_row rfl 31 _ _ rfl (w.heap.size + 1) #[.int .u16 0, .int .u8 0, .int .u8 0, .int .u32 0, .int .u32 0, .int .i32 0, .int .u16 0, .int .u16 0, .slice none 0 0] rfl rfl 31 _ HR0.out info_state rfl (by simp [Value.oneCell']) ?_)
    refine bodyPost_ret (results_cell_row_tmp rfl _ _ (w.heap.size + 1) 31 #[.int .u16 0, .int .u8 0, .int .u8 0, .int .u32 0, .int .u32 0, .int .i32 0, .int .u16 0, .int .u16 0, .slice none 0 0] (0, 0) _ rfl (HR0.out.setRow _) Try.underlying31 rfl info_state) rfl ?_
    rcases HXB.out with ⟨h, hb⟩ | ⟨h, _, h2⟩
    · cases hb
    · exact ⟨fun x hx => (by rw [h] at hx; cases hx), fun _ => ⟨rfl, below_setRow HB3.out (by omega) _⟩⟩
  | true =>
    have hfk : f (k1, k2, k3) = some (⟨⟨⟨yage, yopts, ytyp, yid, yadv, yseq, ysum, ylen⟩, yA, yn, yc, yB⟩, yat⟩ : OneE) := by
      rcases HXB.out with ⟨h, _⟩ | ⟨h, hb, _⟩
      · exact h
      · cases hb
    have hg := (HQ0.out.later HB3.out).good _ _ hfk
    have HG := Lib.hid hg
    have HF := Lib.hid hfk
    clear hg hfk HXB HQ HQ0 HS HK0
    have hcall := then_any (⟨⟨⟨yage, yopts, ytyp, yid, yadv, yseq, ysum, ylen⟩, yA, yn, yc, yB⟩, yat⟩ : OneE) now w3 HG.out.2.1 HG.out.2.2 hn
    have HC := Lib.hid hcall
    clear hcall
    go_wp2_with (first
      | (go_at_call 61; refine HC.out.mono ?_; rintro e w4 ⟨s', rfl, h1, h2, h3, h4, h5⟩; obtain ⟨⟨sage, sopts, styp, sid, sadv, sseq, ssum, slen⟩, sA, sn, sc, sB⟩ := s'; have HT := Lib.hid (And.intro h1 (And.intro h2 (And.intro h3 (And.intro h4 h5)))); have HR4 := Lib.hid (HR0.out.later h5); clear h1 h2 h3 h4 h5)
      | (refine wpList_load_row rfl 103 _ rfl gx rfl 103 #[.int .u16 yage, .int .u8 yopts, .int .u8 ytyp, .int .u32 yid, .int .u32 yadv, .int .i32 yseq, .int .u16 ysum, .int .u16 ylen, .slice yA yn yc, .int .i64 yat] (0, 0) _ HX.out Try.underlying103 rfl info_one ?_)
      | (refine wpList_store_row rfl 31 _ _ rfl (w.heap.size + 1) #[.int .u16 sage, .int .u8 sopts, .int .u8 styp, .int .u32 sid, .int .u32 sadv, .int .i32 sseq, .int .u16 ssum, .int .u16 slen, .slice sA sn sc] rfl rfl 31 _ HR4.out info_state rfl (by simp [Value.oneCell']) ?_))
    refine bodyPost_ret (results_cell_row_tmp rfl _ _ (w.heap.size + 1) 31 #[.int .u16 sage, .int .u8 sopts, .int .u8 styp, .int .u32 sid, .int .u32 sadv, .int .i32 sseq, .int .u16 ssum, .int .u16 slen, .slice sA sn sc] (0, 0) _ rfl (HR4.out.setRow _) Try.underlying31 rfl info_state) rfl ?_
    refine ⟨fun x hx => ?_, fun hx => (by rw [HF.out] at hx; cases hx)⟩
    have hxe : x = (⟨⟨⟨yage, yopts, ytyp, yid, yadv, yseq, ysum, ylen⟩, yA, yn, yc, yB⟩, yat⟩ : OneE) := by have := hx.symm.trans HF.out; injection this
    subst hxe
    have hsz := HB3.out.size
    refine ⟨⟨⟨sage, sopts, styp, sid, sadv, sseq, ssum, slen⟩, sA, sn, sc, sB⟩, rfl, HT.out.1, ?_, HT.out.2.2.1, HT.out.2.2.2.1, below_setRow (below_then HB3.out HT.out.2.2.2.2) (by omega) _⟩
    have h := HT.out.2.1.mono hsz
    exact ⟨h.head, own_row h.body HR4.out (by decide) _, h.oct, h.len⟩
/-- No store: the pointer that none says true of. -/
def NoSt (sp : Option Addr) (w : World) : Prop := ∀ W : World, Below w.heap.size w W → Calls Try.prog 33 #[.pointer sp] W fun e w' => e = .returned (.bool true) ∧ W = w'
theorem NoSt.later {sp : Option Addr} {w w' : World} (h : NoSt sp w) (hb : Below w.heap.size w w') : NoSt sp w' := fun W hW => h W (below_then hb hW)
theorem noSt_nil (w : World) : NoSt none w := by
  intro W _
  go_enter Try.func33, Try.ntmps33
  go_wp2
  go_ret
  exact ⟨rfl, rfl⟩
theorem noSt_zero (w : World) (g : Nat) (hc : w.cell? ⟨g, 0, none⟩ = some (.map none)) : NoSt (some ⟨g, 0, none⟩) w := by
  intro W hW
  have h0 : W.cell? ⟨g, 0, none⟩ = some (.map none) := (hW.cell (p := ⟨g, 0, none⟩) (cell_lt hc)).trans hc
  have hE := fun V : World => run_eql_map_nil (P := Try.prog) V 89 45 103 none Try.underlying89
  simp only [Option.isNone_none] at hE
  go_enter Try.func33, Try.ntmps33
  go_wp2
  go_ret
  exact ⟨rfl, rfl⟩
theorem eachAt_no {sp : Option Addr} {now : Int} {w : World} (h : NoSt sp w) : EachAt (.pointer sp) now (fun _ => none) 0 w := eachAt_none h
theorem stlen_no (sp : Option Addr) (w : World) (h : NoSt sp w) : Calls Try.prog 13 #[.pointer sp] w fun e w' => e = .returned (.int .i64 0) ∧ w = w' := by
  have HN := Lib.hid (h w (Below.refl _ _))
  clear h
  go_enter Try.func13, Try.ntmps13
  go_wp2_with (go_at_call 33; refine HN.out.mono ?_; rintro e w' ⟨rfl, rfl⟩)
  go_ret
  exact ⟨rfl, rfl⟩
theorem stcopy_no (sp : Option Addr) (w : World) (h : NoSt sp w) : Calls Try.prog 24 #[.pointer sp] w fun e w' => e = .returned (.pointer none) ∧ w = w' := by
  have HN := Lib.hid (h w (Below.refl _ _))
  clear h
  go_enter Try.func24, Try.ntmps24
  go_wp2_with (go_at_call 33; refine HN.out.mono ?_; rintro e w' ⟨rfl, rfl⟩)
  go_ret
  exact ⟨rfl, rfl⟩
theorem stdrop_no (sp : Option Addr) (w : World) (h : NoSt sp w) (k : Ky3) : Calls Try.prog 29 #[.pointer sp, keyV k] w fun e w' => e = .returned (.bool false) ∧ Below w.heap.size w w' := by
  obtain ⟨k1, k2, k3⟩ := k
  have hb : Below w.heap.size w (w.alloc (.cells #[.int .u8 k1, .int .u32 k2, .int .u32 k3] 45)) := (Below.refl _ _).alloc (Nat.le_refl _) _
  have HN := Lib.hid (h _ hb)
  have HB := Lib.hid hb
  clear h hb
  go_enter Try.func29, Try.ntmps29
  go_wp2_with (go_at_call 33; refine HN.out.mono ?_; rintro e w' ⟨rfl, rfl⟩)
  go_ret
  exact ⟨rfl, HB.out⟩
theorem stwhen_no (sp : Option Addr) (w : World) (h : NoSt sp w) (k : Ky3) : Calls Try.prog 28 #[.pointer sp, keyV k] w fun e w' => e = .returned (.tuple #[.int .i64 0, .bool false]) ∧ Below w.heap.size w w' := by
  obtain ⟨k1, k2, k3⟩ := k
  have hb : Below w.heap.size w (w.alloc (.cells #[.int .u8 k1, .int .u32 k2, .int .u32 k3] 45)) := (Below.refl _ _).alloc (Nat.le_refl _) _
  have HN := Lib.hid (h _ hb)
  have HB := Lib.hid hb
  clear h hb
  go_enter Try.func28, Try.ntmps28
  go_wp2_with (go_at_call 33; refine HN.out.mono ?_; rintro e w' ⟨rfl, rfl⟩)
  go_ret2
  exact ⟨rfl, HB.out⟩
theorem stget_no (sp : Option Addr) (w : World) (h : NoSt sp w) (k : Ky3) (now : Int) : Calls Try.prog 27 #[.pointer sp, .int .i64 now, keyV k] w fun e w' => e = .returned (.tuple #[zeroSt, .bool false]) ∧ Below w.heap.size w w' := by
  obtain ⟨k1, k2, k3⟩ := k
  have hb : Below w.heap.size w ((w.alloc (.cells #[.int .u8 k1, .int .u32 k2, .int .u32 k3] 45)).alloc (.cells #[.int .u16 0, .int .u8 0, .int .u8 0, .int .u32 0, .int .u32 0, .int .i32 0, .int .u16 0, .int .u16 0, .slice none 0 0] 31)) := below_two _ _ _
  have HR0 : Hid (Blk ((w.alloc (.cells #[.int .u8 k1, .int .u32 k2, .int .u32 k3] 45)).alloc (.cells #[.int .u16 0, .int .u8 0, .int .u8 0, .int .u32 0, .int .u32 0, .int .i32 0, .int .u16 0, .int .u16 0, .slice none 0 0] 31)) (w.heap.size + 1) 31 #[.int .u16 0, .int .u8 0, .int .u8 0, .int .u32 0, .int .u32 0, .int .i32 0, .int .u16 0, .int .u16 0, .slice none 0 0]) := Lib.hid (new_at _ _ _)
  have HN := Lib.hid (h _ hb)
  have HB := Lib.hid hb
  clear h hb
  go_enter Try.func27, Try.ntmps27
  go_wp2_with (first
    | (go_at_call 33; refine HN.out.mono ?_; rintro e w' ⟨rfl, rfl⟩)
    | (refine wpList_store_row rfl 31 _ _ rfl (w.heap.size + 1) #[.int .u16 0, .int .u8 0, .int .u8 0, .int .u32 0, .int .u32 0, .int .i32 0, .int .u16 0, .int .u16 0, .slice none 0 0] rfl rfl 31 _ HR0.out info_state rfl (by simp [Value.oneCell']) ?_))
  refine bodyPost_ret (results_cell_row_tmp rfl _ _ (w.heap.size + 1) 31 #[.int .u16 0, .int .u8 0, .int .u8 0, .int .u32 0, .int .u32 0, .int .i32 0, .int .u16 0, .int .u16 0, .slice none 0 0] (0, 0) _ rfl (HR0.out.setRow _) Try.underlying31 rfl info_state) rfl ?_
  exact ⟨rfl, below_setRow HB.out (by omega) _⟩
theorem stput_no (sp : Option Addr) (w : World) (h : NoSt sp w) (x : SE) (now : Int) : Calls Try.prog 19 #[.pointer sp, .int .i64 now, x.v] w fun e w' => e = .returned (.int .i64 1) ∧ Below w.heap.size w w' := by
  obtain ⟨⟨xage, xopts, k1, k2, k3, xseq, xsum, xlen⟩, xA, xn, xc, xB⟩ := x
  have hb : Below w.heap.size w (w.alloc (.cells #[.int .u16 xage, .int .u8 xopts, .int .u8 k1, .int .u32 k2, .int .u32 k3, .int .i32 xseq, .int .u16 xsum, .int .u16 xlen, .slice xA xn xc] 31)) := (Below.refl _ _).alloc (Nat.le_refl _) _
  have HN := Lib.hid (h _ hb)
  have HB := Lib.hid hb
  clear h hb
  go_enter Try.func19, Try.ntmps19
  go_wp2_with (go_at_call 33; refine HN.out.mono ?_; rintro e w' ⟨rfl, rfl⟩)
  go_ret
  exact ⟨rfl, HB.out⟩
end Go.Proofs.Ytpncbggjngamgaa
