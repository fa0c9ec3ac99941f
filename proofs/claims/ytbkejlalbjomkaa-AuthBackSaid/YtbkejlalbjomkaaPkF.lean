/-
  How much a packet is; authentications turned and compared. Printed by gen_pk26.py.
  Authentications turned and compared; lives.
-/
import Derived.Test.YtbkejlalbjomkaaPkD
import Derived.Test.YtbkejlalbjomkaaPk25
import Derived.Test.YtbkejlalbjomkaaArrEq
namespace Go.Proofs.Ytbkejlalbjomkaa
set_option linter.unusedVariables false
open Go.RowKit

/-- What a slice's reach bounds. -/
structure PA.fit (p : PA) : Prop where
  n : p.nn ≤ 140737488355328
  d : p.dn ≤ 140737488355328
  k : p.kn ≤ 140737488355328
  s : p.sn ≤ 140737488355328
  h : p.hn ≤ 140737488355328
  b : ∀ s ∈ p.ss, s.n ≤ 140737488355328
def SzP (w w' : World) (n : Nat) (L : List SE) (e : Ending) : Prop := ∃ N : Nat, e = .returned (.int .i64 N) ∧ 20 * n ≤ N ∧ N ≤ 3000000000000000 ∧ (N ≤ 2147483647 → ∀ s ∈ L, s.n ≤ N) ∧ ∃ k, w' = w.drewN k
def SzR (w : World) (n : Nat) (L : List SE) (Nv iv : Value) (W : World) : Prop :=
  ∃ (i N : Nat), Nv = .int .i64 N ∧ iv = .int .i64 i ∧ i ≤ n ∧ 20 * n ≤ N ∧ N ≤ 3000000000000000 ∧ Hid (∀ s ∈ L.take i, s.n ≤ N) ∧ Hid (∃ k, W = w.drewN k)
set_option maxRecDepth 100000 in
set_option maxHeartbeats 4000000 in
theorem sizeStates_any (A : Option Addr) (n c : Nat) (L : List SE) (w : World) (hL : Stl w A n L) (hn : n ≤ 140737488355328) (hb : ∀ s ∈ L, s.n ≤ 140737488355328) :
    Calls Try.prog 65 #[.slice A n c] w fun e w' => SzP w w' n L e := by
  have HL := Lib.hid hL
  have HBd := Lib.hid hb
  have w20 : IntKind.i64.wrap (20 * (n : Int)) = ((20 * n : Nat) : Int) := by rw [IntKind.wrap_i64]; omega
  clear hL hb
  go_enter Try.func65, Try.ntmps65
  go_wp2_with fail
  go_loopw [3, 4] (SzR w n L) (fun _ iv _ => n - (intOf iv).toNat)
  case atStart => exact ⟨0, 20 * n, by simp, rfl, by omega, by omega, by omega, Lib.hid (by simp), Lib.hid ⟨0, rfl⟩⟩
  case round =>
    obtain ⟨i, N, rfl, rfl, hi, h20, hN, hA, hW⟩ := hrel
    by_cases hlt : i < n
    · by_cases hbig : N ≤ 2147483647
      · have HW2 := hW.out
        have hb2 : Below w.heap.size w wr := by obtain ⟨k, rfl⟩ := HW2; exact below_of_drewN _ w k
        obtain ⟨ad, x, rfl, _, hx, hok, a0, a1, a2, a3, a4, a5, a6, a7, a8⟩ := (HL.out.later hb2).at_ hlt
        have hxn := HBd.out x (List.mem_of_getElem? hx)
        have HT := Lib.hid (take_snocL hx)
        clear hx hok HW2 hb2
        obtain ⟨h, xA, xn, xc, xB⟩ := x
        simp only at a0 a1 a2 a3 a4 a5 a6 a7 a8 hxn
        have wN : IntKind.i64.wrap ((N : Int) + (xn : Int)) = ((N + xn : Nat) : Int) := by rw [IntKind.wrap_i64]; omega
        go_wp2_with fail
        clear a0 a1 a2 a3 a4 a5 a6 a7 a8
        go_roundw
        case rel => exact ⟨i + 1, N + xn, by go_num, by go_num, by omega, by omega, by omega, Lib.hid (fun s hs => by
          rw [HT.out, List.mem_append] at hs
          rcases hs with hs | hs
          · exact Nat.le_trans (hA.out s hs) (Nat.le_add_right _ _)
          · rw [List.mem_singleton] at hs; subst hs; exact Nat.le_add_left _ _), hW⟩
        case measure => simp [intOf]; omega
      · go_wp2_with fail
        go_ret
        obtain ⟨k, hk⟩ := hW.out
        exact ⟨N, rfl, h20, hN, fun h => absurd h hbig, k, hk⟩
    · obtain rfl : i = n := by omega
      go_wp2_with fail
      go_ret
      obtain ⟨k, hk⟩ := hW.out
      exact ⟨N, rfl, h20, hN, fun _ s hs => hA.out s (by rwa [List.take_of_length_le (by rw [HL.out.len]; exact Nat.le_refl _)]), k, hk⟩

def SzC (g : Nat) (p : PA) (W : World) : Prop := W.cell? ⟨g, 10, none⟩ = some (.slice p.NA p.nn p.nc) ∧ W.cell? ⟨g, 15, none⟩ = some (.slice p.DA p.dn p.dc) ∧ W.cell? ⟨g, 16, none⟩ = some (.slice p.KA p.kn p.kc) ∧ W.cell? ⟨g, 17, none⟩ = some (.slice p.SA p.sn p.sc) ∧ W.cell? ⟨g, 18, none⟩ = some (.slice p.HA p.hn p.hc)
theorem szC_of {W : World} {g : Nat} {p : PA} (h : Blk W g 33 p.C) : SzC g p W := ⟨h.cell 10, h.cell 15, h.cell 16, h.cell 17, h.cell 18⟩
def SzkP (w w' : World) (p : PA) (e : Ending) : Prop := ∃ N : Nat, e = .returned (.int .i64 N) ∧ (N ≤ 262144 → p.few) ∧ Below w.heap.size w w'
set_option maxRecDepth 100000 in
set_option maxHeartbeats 8000000 in
theorem sizePacket_any (p : PA) (w : World) (hp : p.rd w) (hf : p.fit) : Calls Try.prog 22 #[p.v] w fun e w' => SzkP w w' p e := by
  show Calls Try.prog 22 #[.agg #[.int .u8 p.typ, .int .u32 p.router, .int .u32 p.area, .int .u32 p.mask, .int .u16 p.ivl, .int .u8 p.hopts, .int .u8 p.pri, .int .u32 p.dead, .int .u32 p.dr, .int .u32 p.bdr, .slice p.NA p.nn p.nc, .int .u16 p.mtu, .int .u8 p.dopts, .int .u8 p.flags, .int .u32 p.seq, .slice p.DA p.dn p.dc, .slice p.KA p.kn p.kc, .slice p.SA p.sn p.sc, .slice p.HA p.hn p.hc]] w _
  have hb0 : Below w.heap.size w (w.alloc (.cells #[.int .u8 p.typ, .int .u32 p.router, .int .u32 p.area, .int .u32 p.mask, .int .u16 p.ivl, .int .u8 p.hopts, .int .u8 p.pri, .int .u32 p.dead, .int .u32 p.dr, .int .u32 p.bdr, .slice p.NA p.nn p.nc, .int .u16 p.mtu, .int .u8 p.dopts, .int .u8 p.flags, .int .u32 p.seq, .slice p.DA p.dn p.dc, .slice p.KA p.kn p.kc, .slice p.SA p.sn p.sc, .slice p.HA p.hn p.hc] 33)) := (Below.refl _ _).alloc (Nat.le_refl _) _
  have HB := Lib.hid hb0
  have HR := Lib.hid (hp.later hb0)
  have HF := Lib.hid hf
  have HS : Hid (SzC w.heap.size p (w.alloc (.cells #[.int .u8 p.typ, .int .u32 p.router, .int .u32 p.area, .int .u32 p.mask, .int .u16 p.ivl, .int .u8 p.hopts, .int .u8 p.pri, .int .u32 p.dead, .int .u32 p.dr, .int .u32 p.bdr, .slice p.NA p.nn p.nc, .int .u16 p.mtu, .int .u8 p.dopts, .int .u8 p.flags, .int .u32 p.seq, .slice p.DA p.dn p.dc, .slice p.KA p.kn p.kc, .slice p.SA p.sn p.sc, .slice p.HA p.hn p.hc] 33)).drew) := Lib.hid (szC_of ((Blk.new w 33 p.C).drewN 1))
  have f1 := hf.n; have f2 := hf.d; have f3 := hf.k; have f4 := hf.s; have f5 := hf.h
  have m1 : IntKind.i64.wrap (4 * (p.nn : Int)) = ((4 * p.nn : Nat) : Int) := by rw [IntKind.wrap_i64]; omega
  have m2 : IntKind.i64.wrap (20 * (p.dn : Int)) = ((20 * p.dn : Nat) : Int) := by rw [IntKind.wrap_i64]; omega
  have m3 : IntKind.i64.wrap (12 * (p.kn : Int)) = ((12 * p.kn : Nat) : Int) := by rw [IntKind.wrap_i64]; omega
  have m4 : IntKind.i64.wrap (20 * (p.hn : Int)) = ((20 * p.hn : Nat) : Int) := by rw [IntKind.wrap_i64]; omega
  have a1 : IntKind.i64.wrap (((4 * p.nn : Nat) : Int) + ((20 * p.dn : Nat) : Int)) = ((4 * p.nn + 20 * p.dn : Nat) : Int) := by rw [IntKind.wrap_i64]; omega
  have a2 : IntKind.i64.wrap (((4 * p.nn + 20 * p.dn : Nat) : Int) + ((12 * p.kn : Nat) : Int)) = ((4 * p.nn + 20 * p.dn + 12 * p.kn : Nat) : Int) := by rw [IntKind.wrap_i64]; omega
  clear hp hf hb0
  go_enter Try.func22, Try.ntmps22
  go_wp2_with fail
  refine wp_region_s (SzC w.heap.size p) [(0, true), (1, true), (5, true), (6, true), (11, true), (16, true), (20, true), (2, true), (3, true), (4, true), (7, true), (8, true), (9, true), (10, true), (12, true), (13, true), (14, true), (15, true), (17, true), (21, true), (22, true), (23, true), (18, false), (19, true), (24, true), (25, true)] (by kernel_rfl) (fun _ d _ _ _ h => by cases d <;> exact h) ?_
  simp only [List.map_cons, List.map_nil, nthOp_zero, nthOp_succ]
  generalize w.heap.size = gx at HS ⊢
  have HB2 : Hid (Below w.heap.size w (w.alloc (.cells #[.int .u8 p.typ, .int .u32 p.router, .int .u32 p.area, .int .u32 p.mask, .int .u16 p.ivl, .int .u8 p.hopts, .int .u8 p.pri, .int .u32 p.dead, .int .u32 p.dr, .int .u32 p.bdr, .slice p.NA p.nn p.nc, .int .u16 p.mtu, .int .u8 p.dopts, .int .u8 p.flags, .int .u32 p.seq, .slice p.DA p.dn p.dc, .slice p.KA p.kn p.kc, .slice p.SA p.sn p.sc, .slice p.HA p.hn p.hc] 33)).drew) := Lib.hid HB.out.drew
  replace HR := Lib.hid (HR.out.later (Below.refl _ _).drew)
  clear HB
  generalize (w.alloc (.cells #[.int .u8 p.typ, .int .u32 p.router, .int .u32 p.area, .int .u32 p.mask, .int .u16 p.ivl, .int .u8 p.hopts, .int .u8 p.pri, .int .u32 p.dead, .int .u32 p.dr, .int .u32 p.bdr, .slice p.NA p.nn p.nc, .int .u16 p.mtu, .int .u8 p.dopts, .int .u8 p.flags, .int .u32 p.seq, .slice p.DA p.dn p.dc, .slice p.KA p.kn p.kc, .slice p.SA p.sn p.sc, .slice p.HA p.hn p.hc] 33)).drew = w1 at *
  refine wpS_take HS (by rfl) (by intro W hW; clear hW; go_simp; try with_reducible rfl) ?_
  refine wpS_take HS (by rfl) (by intro W hW; clear hW; go_simp; try with_reducible rfl) ?_
  refine wpS_take HS (by rfl) (by intro W hW; clear hW; go_simp; try with_reducible rfl) ?_
  refine wpS_take HS (by rfl) (by intro W hW; clear hW; go_simp; try with_reducible rfl) ?_
  go_simp
  refine wpS_take HS (by rfl) (by intro W hW; clear hW; go_simp; try with_reducible rfl) ?_
  refine wpS_take HS (by rfl) (by intro W hW; clear hW; go_simp; try with_reducible rfl) ?_
  refine wpS_take HS (by rfl) (by intro W hW; clear hW; go_simp; try with_reducible rfl) ?_
  refine wpS_take HS (by rfl) (by intro W hW; obtain ⟨c10, c15, c16, c17, c18⟩ := hW; go_simp; try with_reducible rfl) ?_
  go_simp
  refine wpS_take HS (by rfl) (by intro W hW; clear hW; go_simp; try with_reducible rfl) ?_
  refine wpS_take HS (by rfl) (by intro W hW; clear hW; go_simp; try with_reducible rfl) ?_
  refine wpS_take HS (by rfl) (by intro W hW; obtain ⟨c10, c15, c16, c17, c18⟩ := hW; go_simp; try with_reducible rfl) ?_
  refine wpS_take HS (by rfl) (by intro W hW; clear hW; go_simp; try with_reducible rfl) ?_
  go_simp
  refine wpS_take HS (by rfl) (by intro W hW; clear hW; go_simp; try with_reducible rfl) ?_
  refine wpS_take HS (by rfl) (by intro W hW; clear hW; go_simp; try with_reducible rfl) ?_
  refine wpS_take HS (by rfl) (by intro W hW; obtain ⟨c10, c15, c16, c17, c18⟩ := hW; go_simp; try with_reducible rfl) ?_
  refine wpS_take HS (by rfl) (by intro W hW; clear hW; go_simp; try with_reducible rfl) ?_
  go_simp
  refine wpS_take HS (by rfl) (by intro W hW; clear hW; go_simp; try with_reducible rfl) ?_
  refine wpS_take HS (by rfl) (by intro W hW; clear hW; go_simp; try with_reducible rfl) ?_
  refine wpS_take HS (by rfl) (by intro W hW; obtain ⟨c10, c15, c16, c17, c18⟩ := hW; go_simp; try with_reducible rfl) ?_
  refine wpS_take HS (by rfl) (by intro W hW; obtain ⟨c10, c15, c16, c17, c18⟩ := hW; go_simp; try with_reducible rfl) ?_
  go_simp
  refine wpS_take HS (by rfl) (by intro W hW; clear hW; go_simp; try with_reducible rfl) ?_
  refine wpS_take HS (by rfl) (by intro W hW; clear hW; go_simp; try with_reducible rfl) ?_
  go_simp
  refine wpS_do fun K hK => ?_
  go_wp2_with fail
  refine (sizeStates_any p.SA p.sn p.sc p.ss w1 ⟨HR.out.sr, HR.out.ok.sl, HR.out.sa⟩ HF.out.s HF.out.b).mono ?_
  rintro e w2 ⟨N, rfl, hN1, hN2, hN3, kd, rfl⟩
  have HN := Lib.hid hN3
  have a3 : IntKind.i64.wrap (((4 * p.nn + 20 * p.dn + 12 * p.kn : Nat) : Int) + (N : Int)) = ((4 * p.nn + 20 * p.dn + 12 * p.kn + N : Nat) : Int) := by rw [IntKind.wrap_i64]; omega
  have a4 : IntKind.i64.wrap (((4 * p.nn + 20 * p.dn + 12 * p.kn + N : Nat) : Int) + ((20 * p.hn : Nat) : Int)) = ((4 * p.nn + 20 * p.dn + 12 * p.kn + N + 20 * p.hn : Nat) : Int) := by rw [IntKind.wrap_i64]; omega
  replace HS : Hid (SzC gx p (w1.drewN kd)) := HS
  replace HB2 := Lib.hid (HB2.out.trans (below_of_drewN _ w1 kd))
  generalize w1.drewN kd = w2 at *
  clear hN3
  go_wp2_with fail
  refine hK.out _ _ HS.out ?_
  clear hK K
  refine wpS_take HS (by rfl) (by intro W hW; clear hW; go_simp; try with_reducible rfl) ?_
  refine wpS_take HS (by rfl) (by intro W hW; clear hW; go_simp; try with_reducible rfl) ?_
  go_simp
  refine wpS_take HS (by rfl) (by intro W hW; clear hW; go_simp; try with_reducible rfl) ?_
  refine wpS_nil ?_
  go_simp
  go_wp2_with fail
  have b1 : IntKind.i64.wrap (4 * (p.nn : Int) + 20 * (p.dn : Int)) = ((4 * p.nn + 20 * p.dn : Nat) : Int) := by rw [IntKind.wrap_i64]; omega
  have b2 : IntKind.i64.wrap (((4 * p.nn + 20 * p.dn : Nat) : Int) + 12 * (p.kn : Int)) = ((4 * p.nn + 20 * p.dn + 12 * p.kn : Nat) : Int) := by rw [IntKind.wrap_i64]; omega
  have b3 : IntKind.i64.wrap (((4 * p.nn + 20 * p.dn + 12 * p.kn : Nat) : Int) + (N : Int)) = ((4 * p.nn + 20 * p.dn + 12 * p.kn + N : Nat) : Int) := by rw [IntKind.wrap_i64]; omega
  have b4 : IntKind.i64.wrap (((4 * p.nn + 20 * p.dn + 12 * p.kn + N : Nat) : Int) + 20 * (p.hn : Int)) = ((4 * p.nn + 20 * p.dn + 12 * p.kn + N + 20 * p.hn : Nat) : Int) := by rw [IntKind.wrap_i64]; omega
  rw [b1, b2, b3, b4]
  go_ret
  refine ⟨4 * p.nn + 20 * p.dn + 12 * p.kn + N + 20 * p.hn, rfl, fun h => ⟨by omega, by omega, by omega, by omega, by omega, fun s hs => ?_⟩, HB2.out⟩
  have := HN.out (by omega) s hs
  omega
theorem long_any (N : Nat) (w : World) : Calls Try.prog 29 #[.int .i64 N] w fun e w' => e = .returned (.bool (decide (2147483647 < N))) ∧ w' = w := by
  by_cases h : 2147483647 < N
  · have d1 : decide ((2147483647 : Int) < (N : Int)) = true := decide_eq_true (by omega)
    go_enter Try.func29, Try.ntmps29
    go_wp2_with fail
    go_ret
    exact ⟨by rw [decide_eq_true h]; rfl, rfl⟩
  · have d1 : decide ((2147483647 : Int) < (N : Int)) = false := decide_eq_false (by omega)
    go_enter Try.func29, Try.ntmps29
    go_wp2_with fail
    go_ret
    exact ⟨by rw [decide_eq_false h]; rfl, rfl⟩
/-- Is a packet more than a law looks at? -/
def HvP (w w' : World) (p : PA) (e : Ending) : Prop := ∃ b, e = .returned (.bool b) ∧ (b = false → p.few) ∧ Below w.heap.size w w'
set_option maxRecDepth 100000 in
set_option maxHeartbeats 8000000 in
theorem heavy_any (p : PA) (w : World) (hp : p.rd w) (hf : p.fit) : Calls Try.prog 8 #[p.v] w fun e w' => HvP w w' p e := by
  show Calls Try.prog 8 #[.agg #[.int .u8 p.typ, .int .u32 p.router, .int .u32 p.area, .int .u32 p.mask, .int .u16 p.ivl, .int .u8 p.hopts, .int .u8 p.pri, .int .u32 p.dead, .int .u32 p.dr, .int .u32 p.bdr, .slice p.NA p.nn p.nc, .int .u16 p.mtu, .int .u8 p.dopts, .int .u8 p.flags, .int .u32 p.seq, .slice p.DA p.dn p.dc, .slice p.KA p.kn p.kc, .slice p.SA p.sn p.sc, .slice p.HA p.hn p.hc]] w _
  have hb0 : Below w.heap.size w (w.alloc (.cells #[.int .u8 p.typ, .int .u32 p.router, .int .u32 p.area, .int .u32 p.mask, .int .u16 p.ivl, .int .u8 p.hopts, .int .u8 p.pri, .int .u32 p.dead, .int .u32 p.dr, .int .u32 p.bdr, .slice p.NA p.nn p.nc, .int .u16 p.mtu, .int .u8 p.dopts, .int .u8 p.flags, .int .u32 p.seq, .slice p.DA p.dn p.dc, .slice p.KA p.kn p.kc, .slice p.SA p.sn p.sc, .slice p.HA p.hn p.hc] 33)) := (Below.refl _ _).alloc (Nat.le_refl _) _
  have HB := Lib.hid hb0
  have HR := Lib.hid (hp.later hb0)
  have HF := Lib.hid hf
  have HX : Hid (Blk (w.alloc (.cells #[.int .u8 p.typ, .int .u32 p.router, .int .u32 p.area, .int .u32 p.mask, .int .u16 p.ivl, .int .u8 p.hopts, .int .u8 p.pri, .int .u32 p.dead, .int .u32 p.dr, .int .u32 p.bdr, .slice p.NA p.nn p.nc, .int .u16 p.mtu, .int .u8 p.dopts, .int .u8 p.flags, .int .u32 p.seq, .slice p.DA p.dn p.dc, .slice p.KA p.kn p.kc, .slice p.SA p.sn p.sc, .slice p.HA p.hn p.hc] 33)) w.heap.size 33 p.C) := Lib.hid (Blk.new w 33 p.C)
  clear hp hf hb0
  go_enter Try.func8, Try.ntmps8
  go_wp2_with (refine wpList_load_row rfl 33 _ rfl w.heap.size rfl 33 p.C (0, 0) _ HX.out Try.underlying33 rfl info_pk ?_)
  refine (sizePacket_any p _ HR.out HF.out).mono ?_
  rintro e w2 ⟨N, rfl, hfew, hb2⟩
  have HFw := Lib.hid hfew
  have HB2 := Lib.hid (below_then HB.out hb2)
  clear hfew hb2 HB HX HR
  go_wp2_with fail
  refine (long_any N w2).mono ?_
  rintro e w3 ⟨rfl, rfl⟩
  by_cases h1 : 2147483647 < N
  · rw [decide_eq_true h1]
    go_wp2_with fail
    go_ret
    exact ⟨true, rfl, (fun h => by cases h), HB2.out⟩
  · rw [decide_eq_false h1]
    by_cases h2 : 262144 < N
    · have d1 : decide ((262144 : Int) < (N : Int)) = true := decide_eq_true (by omega)
      go_wp2_with fail
      go_ret
      exact ⟨true, rfl, (fun h => by cases h), HB2.out⟩
    · have d1 : decide ((262144 : Int) < (N : Int)) = false := decide_eq_false (by omega)
      go_wp2_with fail
      go_ret
      exact ⟨false, rfl, fun _ => HFw.out (by omega), HB2.out⟩
end Go.Proofs.Ytbkejlalbjomkaa
namespace Go.Proofs.Ytbkejlalbjomkaa
set_option linter.unusedVariables false
open Go.RowKit

theorem arr8_eq (d : Nat) (xs ys : List Int) (hx : xs.length = 8) (hy : ys.length = 8) (w : World) : (Op.equalIn (d + 2) 34 (.agg (xs.map (Value.int .u8)).toArray) (.agg (ys.map (Value.int .u8)).toArray)).run Try.prog w = .ok (xs == ys) w :=
  run_equalIn_ints w d 34 5 8 .u8 Try.underlying34 Try.underlying5 (fun w => by kernel_rfl) xs ys hx hy
theorem Au.ext_iff (a b : Au) : a = b ↔ a.k = b.k ∧ a.data = b.data := by
  obtain ⟨k, a0, a1, a2, a3, a4, a5, a6, a7⟩ := a
  obtain ⟨l, b0, b1, b2, b3, b4, b5, b6, b7⟩ := b
  simp [Au.data]
theorem au_fields : (Try.prog.fieldsOf 44).toList = [{ name := "Kind", type := 23, offset := 0, embedded := false, tag := "", pkgPath := "", byteOffset := 0 }, { name := "Data", type := 34, offset := 1, embedded := false, tag := "", pkgPath := "", byteOffset := 2 }] := by kernel_rfl
set_option maxRecDepth 100000 in
set_option maxHeartbeats 4000000 in
theorem auth_any (a : Au) (w : World) : Calls Try.prog 12 #[a.v] w fun e w' => e = .returned a.v ∧ Below w.heap.size w w' := by
  show Calls Try.prog 12 #[.agg #[.int .u16 a.k, .int .u8 a.d0, .int .u8 a.d1, .int .u8 a.d2, .int .u8 a.d3, .int .u8 a.d4, .int .u8 a.d5, .int .u8 a.d6, .int .u8 a.d7]] w _
  go_enter Try.func12, Try.ntmps12
  go_wp2_with fail
  exact bodyPost_ret (results_cell_row rfl _ _ (w.heap.size + 1) 44 a.C (0, 0) _ rfl (new_at _ _ _) Try.underlying44 rfl info_au) rfl ⟨rfl, below_two _ _ _⟩
theorem eqA8 (a b : Au) (w : World) : (Op.equalIn 10000 34 (.agg #[.int .u8 a.d0, .int .u8 a.d1, .int .u8 a.d2, .int .u8 a.d3, .int .u8 a.d4, .int .u8 a.d5, .int .u8 a.d6, .int .u8 a.d7]) (.agg #[.int .u8 b.d0, .int .u8 b.d1, .int .u8 b.d2, .int .u8 b.d3, .int .u8 b.d4, .int .u8 b.d5, .int .u8 b.d6, .int .u8 b.d7])).run Try.prog w = .ok (a.data == b.data) w := arr8_eq 9998 a.data b.data rfl rfl w
theorem eqA8' (a b : Au) (w : World) : (Op.equalIn 9999 34 (.agg #[.int .u8 a.d0, .int .u8 a.d1, .int .u8 a.d2, .int .u8 a.d3, .int .u8 a.d4, .int .u8 a.d5, .int .u8 a.d6, .int .u8 a.d7]) (.agg #[.int .u8 b.d0, .int .u8 b.d1, .int .u8 b.d2, .int .u8 b.d3, .int .u8 b.d4, .int .u8 b.d5, .int .u8 b.d6, .int .u8 b.d7])).run Try.prog w = .ok (a.data == b.data) w := arr8_eq 9997 a.data b.data rfl rfl w
theorem au_eq (a b : Au) (w : World) : (Op.equalIn 10000 44 (.agg #[.int .u16 a.k, .int .u8 a.d0, .int .u8 a.d1, .int .u8 a.d2, .int .u8 a.d3, .int .u8 a.d4, .int .u8 a.d5, .int .u8 a.d6, .int .u8 a.d7]) (.agg #[.int .u16 b.k, .int .u8 b.d0, .int .u8 b.d1, .int .u8 b.d2, .int .u8 b.d3, .int .u8 b.d4, .int .u8 b.d5, .int .u8 b.d6, .int .u8 b.d7])).run Try.prog w = .ok (decide (a.k = b.k) && decide (a.data = b.data)) w := by
  have h8 := eqA8' a b
  rw [show (10000 : Nat) = 9999 + 1 from rfl, run_equalIn_agg w 9999 44 _ _ (by kernel_rfl) (by kernel_rfl), au_fields]
  go_simp
  by_cases h1 : a.k = b.k <;> by_cases h2 : a.data = b.data <;> simp [h1, h2]
set_option maxRecDepth 100000 in
set_option maxHeartbeats 4000000 in
theorem authEq_any (a b : Au) (w : World) : Calls Try.prog 16 #[a.v, b.v] w fun e w' => EqB (a = b) w e w' := by
  show Calls Try.prog 16 #[.agg #[.int .u16 a.k, .int .u8 a.d0, .int .u8 a.d1, .int .u8 a.d2, .int .u8 a.d3, .int .u8 a.d4, .int .u8 a.d5, .int .u8 a.d6, .int .u8 a.d7], .agg #[.int .u16 b.k, .int .u8 b.d0, .int .u8 b.d1, .int .u8 b.d2, .int .u8 b.d3, .int .u8 b.d4, .int .u8 b.d5, .int .u8 b.d6, .int .u8 b.d7]] w _
  have HW : Hid (Below w.heap.size w ((w.alloc (.cells #[.int .u16 a.k, .int .u8 a.d0, .int .u8 a.d1, .int .u8 a.d2, .int .u8 a.d3, .int .u8 a.d4, .int .u8 a.d5, .int .u8 a.d6, .int .u8 a.d7] 44)).alloc (.cells #[.int .u16 b.k, .int .u8 b.d0, .int .u8 b.d1, .int .u8 b.d2, .int .u8 b.d3, .int .u8 b.d4, .int .u8 b.d5, .int .u8 b.d6, .int .u8 b.d7] 36))) := below_two _ _ _
  have h8 := eqA8 a b
  have HE := Lib.hid (Au.ext_iff a b)
  by_cases hk : a.k = b.k
  · go_enter Try.func16, Try.ntmps16
    go_wp2_with fail
    go_ret
    exact ⟨_, rfl, by rw [HE.out]; simp [hk], (by have := HW.out; simp only [hk] at this; exact this)⟩
  · go_enter Try.func16, Try.ntmps16
    go_wp2_with fail
    go_ret
    exact ⟨false, rfl, ⟨(fun h => by cases h), fun h => absurd (HE.out.1 h).1 hk⟩, HW.out⟩
theorem zeroAu_ok : (auL 0 []).ok := ⟨by decide, Oct.of_mem fun x hx => by simp [auL, Au.data] at hx; omega⟩
theorem p0_rd (t r a : Int) (w : World) (h1 : 0 ≤ t ∧ t ≤ 255) (h2 : 0 ≤ r ∧ r ≤ 4294967295) (h3 : 0 ≤ a ∧ a ≤ 4294967295) : (p0 t r a).rd w :=
  ⟨⟨h1, h2, h3, (by simp [p0]), (by simp [p0]), (by simp [p0]), (by simp [p0]), (by simp [p0]), (by simp [p0]), (by simp [p0]), (by simp [p0]), (by simp [p0]), (by simp [p0]), (by simp [p0]), fun x hx => by simp [p0] at hx, fun x hx => by simp [p0] at hx, fun x hx => by simp [p0] at hx, fun x hx => by simp [p0] at hx, rfl, rfl, rfl, rfl, rfl, (by simp [p0]), (by simp [p0]), (by simp [p0]), (by simp [p0]), (by simp [p0])⟩, Reads.none_, Reads.none_, Reads.none_, Reads.none_, fun s hs => by simp [p0] at hs, Reads.none_⟩
theorem p0_few (t r a : Int) : (p0 t r a).few := ⟨(by simp [p0]), (by simp [p0]), (by simp [p0]), (by simp [p0]), (by simp [p0]), fun s hs => by simp [p0] at hs⟩
def ackB : List Int := [2, 5, 0, 24, 0, 0, 0, 1, 0, 0, 0, 0, 253, 225, 0, 0, 0, 0, 0, 0, 0, 0, 0, 0]
theorem ack_enc : encB (p0 5 1 0) (auL 0 []) = ackB := by decide
theorem p0_alone (t r a : Int) : (p0 t r a).alone := ⟨fun h => (h ⟨rfl, rfl, rfl, rfl, rfl, rfl, rfl, rfl⟩).elim, fun h => (h ⟨rfl, rfl, rfl, rfl, rfl⟩).elim, fun h => absurd h (Nat.lt_irrefl 0), fun h => absurd h (Nat.lt_irrefl 0), fun h => absurd h (Nat.lt_irrefl 0)⟩
theorem ack_ok : EncOk (p0 5 1 0) (auL 0 []) := ⟨by decide, p0_alone 5 1 0, fun s hs => by simp [p0] at hs, by decide, by decide⟩
theorem ack_dec : DecOk ackB := ⟨by decide, by decide, fun _ => by decide, fun _ => by decide, ⟨fun h => absurd h (by decide), fun h => absurd h (by decide), fun h => absurd h (by decide), fun h => absurd h (by decide), by decide⟩⟩
theorem ack_oct : Oct ackB := Oct.of_mem fun x hx => by simp [ackB] at hx; omega
theorem ack_right : pkRight ackB = true := by decide
theorem ack_au : auAt ackB = auL 0 [] := (Au.ext_iff _ _).2 ⟨by decide, by decide⟩
theorem zA_eq (w : World) : (Op.equalIn 10000 44 (.agg #[.int .u16 0, .int .u8 0, .int .u8 0, .int .u8 0, .int .u8 0, .int .u8 0, .int .u8 0, .int .u8 0, .int .u8 0]) (.agg #[.int .u16 0, .int .u8 0, .int .u8 0, .int .u8 0, .int .u8 0, .int .u8 0, .int .u8 0, .int .u8 0, .int .u8 0])).run Try.prog w = .ok true w := au_eq (auL 0 []) (auL 0 []) w
theorem ack_p {p : PA} (h : PIs (pkB ackB) (tyAt ackB) (be ((ackB.drop 4).take 4)) (be ((ackB.drop 8).take 4)) p) : p.router = 1 := by
  rcases h with ⟨h, _⟩ | ⟨h, _⟩ | ⟨h, _⟩ | ⟨h, _⟩ | ⟨h, e⟩
  · exact absurd h (by decide)
  · exact absurd h (by decide)
  · exact absurd h (by decide)
  · exact absurd h (by decide)
  · rw [e]
    show be ((ackB.drop 4).take 4) = 1
    decide
set_option maxRecDepth 100000 in
set_option maxHeartbeats 8000000 in
theorem lives_any (w : World) : Calls Try.prog 9 #[] w fun e w' => e = .returned (.bool true) ∧ Below w.heap.size w w' := by
  have HE1 := Lib.hid (fun w => encode_any w (p0 5 1 0) (auL 0 []) (p0_rd 5 1 0 w (by decide) (by decide) (by decide)) (p0_few 5 1 0) zeroAu_ok)
  have HE2 := Lib.hid (fun w => encode_any w (p0 6 0 0) (auL 0 []) (p0_rd 6 0 0 w (by decide) (by decide) (by decide)) (p0_few 6 0 0) zeroAu_ok)
  have hza := zA_eq
  go_enter Try.func9, Try.ntmps9
  go_wp2_with fail
  refine Calls.mono (HE1.out w) ?_
  rintro e w1 (⟨_, u, rfl, ho, hb1⟩ | ⟨hno, _⟩)
  rotate_left
  · exact absurd ack_ok hno
  rw [ack_enc, show encL (p0 5 1 0) (auL 0 []) = 24 by decide] at ho
  obtain ⟨A, c, rfl, hc, hcm, hr⟩ := own_shape_n ho
  have HR := Lib.hid hr
  have HB := Lib.hid hb1
  clear ho hb1 hr HE1
  go_wp2_with fail
  refine (pdecode_any A 24 c ackB w1 HR.out ack_oct hc hcm (by decide)).mono ?_
  rintro e w2 (⟨hno, _⟩ | ⟨_, p, rfl, hy, hp, hb2⟩)
  · exact absurd ack_dec hno
  have HP := Lib.hid (ack_p hp)
  rw [ack_au]
  replace HR := Lib.hid (HR.out.later hb2)
  replace HB := Lib.hid (below_then HB.out hb2)
  have hb4 : Below w2.heap.size w2 ((w2.alloc (.cells #[.int .u8 0, .int .u32 0, .int .u32 0, .int .u32 0, .int .u16 0, .int .u8 0, .int .u8 0, .int .u32 0, .int .u32 0, .int .u32 0, .slice none 0 0, .int .u16 0, .int .u8 0, .int .u8 0, .int .u32 0, .slice none 0 0, .slice none 0 0, .slice none 0 0, .slice none 0 0] 33)).alloc (.cells #[.int .u16 0, .int .u8 0, .int .u8 0, .int .u8 0, .int .u8 0, .int .u8 0, .int .u8 0, .int .u8 0, .int .u8 0] 44)) := below_two _ _ _
  have HX3 : Hid (Blk ((w2.alloc (.cells #[.int .u8 0, .int .u32 0, .int .u32 0, .int .u32 0, .int .u16 0, .int .u8 0, .int .u8 0, .int .u32 0, .int .u32 0, .int .u32 0, .slice none 0 0, .int .u16 0, .int .u8 0, .int .u8 0, .int .u32 0, .slice none 0 0, .slice none 0 0, .slice none 0 0, .slice none 0 0] 33)).alloc (.cells #[.int .u16 0, .int .u8 0, .int .u8 0, .int .u8 0, .int .u8 0, .int .u8 0, .int .u8 0, .int .u8 0, .int .u8 0] 44)) w2.heap.size 33 #[.int .u8 0, .int .u32 0, .int .u32 0, .int .u32 0, .int .u16 0, .int .u8 0, .int .u8 0, .int .u32 0, .int .u32 0, .int .u32 0, .slice none 0 0, .int .u16 0, .int .u8 0, .int .u8 0, .int .u32 0, .slice none 0 0, .slice none 0 0, .slice none 0 0, .slice none 0 0]) := Lib.hid ((Blk.new _ _ _).alloc _)
  have HX4 : Hid (Blk ((w2.alloc (.cells #[.int .u8 0, .int .u32 0, .int .u32 0, .int .u32 0, .int .u16 0, .int .u8 0, .int .u8 0, .int .u32 0, .int .u32 0, .int .u32 0, .slice none 0 0, .int .u16 0, .int .u8 0, .int .u8 0, .int .u32 0, .slice none 0 0, .slice none 0 0, .slice none 0 0, .slice none 0 0] 33)).alloc (.cells #[.int .u16 0, .int .u8 0, .int .u8 0, .int .u8 0, .int .u8 0, .int .u8 0, .int .u8 0, .int .u8 0, .int .u8 0] 44)) (w2.heap.size + 1) 44 #[.int .u16 0, .int .u8 0, .int .u8 0, .int .u8 0, .int .u8 0, .int .u8 0, .int .u8 0, .int .u8 0, .int .u8 0]) := Lib.hid (new_at _ _ _)
  have HX5 := Lib.hid ((HX4.out).setRow_far (cs' := p.C) (by omega : w2.heap.size + 1 ≠ w2.heap.size))
  have HX6 : Hid (Blk ((((w2.alloc (.cells #[.int .u8 0, .int .u32 0, .int .u32 0, .int .u32 0, .int .u16 0, .int .u8 0, .int .u8 0, .int .u32 0, .int .u32 0, .int .u32 0, .slice none 0 0, .int .u16 0, .int .u8 0, .int .u8 0, .int .u32 0, .slice none 0 0, .slice none 0 0, .slice none 0 0, .slice none 0 0] 33)).alloc (.cells #[.int .u16 0, .int .u8 0, .int .u8 0, .int .u8 0, .int .u8 0, .int .u8 0, .int .u8 0, .int .u8 0, .int .u8 0] 44)).setRow w2.heap.size p.C).setRow (w2.heap.size + 1) #[.int .u16 0, .int .u8 0, .int .u8 0, .int .u8 0, .int .u8 0, .int .u8 0, .int .u8 0, .int .u8 0, .int .u8 0]) w2.heap.size 33 p.C) := Lib.hid ((Blk.setRow HX3.out p.C).setRow_far (by omega) _)
  have HX7 : Hid (Blk ((((w2.alloc (.cells #[.int .u8 0, .int .u32 0, .int .u32 0, .int .u32 0, .int .u16 0, .int .u8 0, .int .u8 0, .int .u32 0, .int .u32 0, .int .u32 0, .slice none 0 0, .int .u16 0, .int .u8 0, .int .u8 0, .int .u32 0, .slice none 0 0, .slice none 0 0, .slice none 0 0, .slice none 0 0] 33)).alloc (.cells #[.int .u16 0, .int .u8 0, .int .u8 0, .int .u8 0, .int .u8 0, .int .u8 0, .int .u8 0, .int .u8 0, .int .u8 0] 44)).setRow w2.heap.size p.C).setRow (w2.heap.size + 1) #[.int .u16 0, .int .u8 0, .int .u8 0, .int .u8 0, .int .u8 0, .int .u8 0, .int .u8 0, .int .u8 0, .int .u8 0]) (w2.heap.size + 1) 44 #[.int .u16 0, .int .u8 0, .int .u8 0, .int .u8 0, .int .u8 0, .int .u8 0, .int .u8 0, .int .u8 0, .int .u8 0]) := Lib.hid (Blk.setRow HX5.out _)
  have HB7 : Hid (Below w2.heap.size w2 ((((w2.alloc (.cells #[.int .u8 0, .int .u32 0, .int .u32 0, .int .u32 0, .int .u16 0, .int .u8 0, .int .u8 0, .int .u32 0, .int .u32 0, .int .u32 0, .slice none 0 0, .int .u16 0, .int .u8 0, .int .u8 0, .int .u32 0, .slice none 0 0, .slice none 0 0, .slice none 0 0, .slice none 0 0] 33)).alloc (.cells #[.int .u16 0, .int .u8 0, .int .u8 0, .int .u8 0, .int .u8 0, .int .u8 0, .int .u8 0, .int .u8 0, .int .u8 0] 44)).setRow w2.heap.size p.C).setRow (w2.heap.size + 1) #[.int .u16 0, .int .u8 0, .int .u8 0, .int .u8 0, .int .u8 0, .int .u8 0, .int .u8 0, .int .u8 0, .int .u8 0])) := Lib.hid (below_setRow (below_setRow hb4 (Nat.le_refl _) _) (by omega) _)
  clear hy hp hb4 hb2
  go_wp2_with (first | (refine wpList_store_row rfl 33 _ _ rfl w2.heap.size p.C rfl rfl 33 _ HX3.out info_pk rfl (one_PA p) ?_) | (refine wpList_store_row rfl 44 _ _ rfl (w2.heap.size + 1) #[.int .u16 0, .int .u8 0, .int .u8 0, .int .u8 0, .int .u8 0, .int .u8 0, .int .u8 0, .int .u8 0, .int .u8 0] rfl rfl 44 _ HX5.out info_au rfl (by simp [Value.oneCell']) ?_))
  clear HX3 HX4 HX5
  generalize (((w2.alloc (.cells #[.int .u8 0, .int .u32 0, .int .u32 0, .int .u32 0, .int .u16 0, .int .u8 0, .int .u8 0, .int .u32 0, .int .u32 0, .int .u32 0, .slice none 0 0, .int .u16 0, .int .u8 0, .int .u8 0, .int .u32 0, .slice none 0 0, .slice none 0 0, .slice none 0 0, .slice none 0 0] 33)).alloc (.cells #[.int .u16 0, .int .u8 0, .int .u8 0, .int .u8 0, .int .u8 0, .int .u8 0, .int .u8 0, .int .u8 0, .int .u8 0] 44)).setRow w2.heap.size p.C).setRow (w2.heap.size + 1) #[.int .u16 0, .int .u8 0, .int .u8 0, .int .u8 0, .int .u8 0, .int .u8 0, .int .u8 0, .int .u8 0, .int .u8 0] = w3 at *
  generalize w2.heap.size + 1 = g4 at *
  obtain ⟨g3, hg3⟩ : ∃ g3, g3 = w2.heap.size := ⟨_, rfl⟩
  rw [← hg3] at HX6 ⊢
  clear hg3
  replace HR := Lib.hid (HR.out.later HB7.out)
  replace HB := Lib.hid (below_then HB.out HB7.out)
  clear HB7
  refine Calls.mono (HE2.out w3) ?_
  rintro e w4 (⟨hno, _⟩ | ⟨_, k, _, hk, rfl, hb4⟩)
  · exact absurd hno.typ (by decide)
  obtain rfl : k = 21 := hk (.inr (by decide))
  replace HR := Lib.hid (HR.out.later hb4)
  replace HB := Lib.hid (below_then HB.out hb4)
  replace HX6 := Lib.hid (HX6.out.later hb4)
  replace HX7 := Lib.hid (HX7.out.later hb4)
  have HRt := Lib.hid (pright_any A 24 c ackB w4 HR.out ack_oct hc hcm (by decide))
  rw [ack_right] at HRt
  clear hb4 hk HE2
  obtain ⟨ad, x, rfl, _, hx0, h12⟩ := HR.out.u8atc (k := 12) (by omega) (by omega)
  obtain ⟨ad2, y, e1, _, hy0, h13⟩ := HR.out.u8atc (k := 13) (by omega) (by omega)
  obtain rfl : ad = ad2 := by injection e1
  obtain rfl : x = 253 := by have := hx0.out; simpa [ackB] using this.symm
  obtain rfl : y = 225 := by have := hy0.out; simpa [ackB] using this.symm
  have c1 : w4.cell? ⟨g3, 1, none⟩ = some (.int .u32 1) := by have := HX6.out.cell 1; rw [← HP.out]; exact this
  clear e1 hx0 hy0
  have e0 := HX7.out.cell 0
  have e1 := HX7.out.cell 1
  have e2 := HX7.out.cell 2
  have e3 := HX7.out.cell 3
  have e4 := HX7.out.cell 4
  have e5 := HX7.out.cell 5
  have e6 := HX7.out.cell 6
  have e7 := HX7.out.cell 7
  have e8 := HX7.out.cell 8
  simp at e0 e1 e2 e3 e4 e5 e6 e7 e8
  go_wp2_with fail
  refine HRt.out.mono ?_
  rintro e w5 ⟨rfl, hb5⟩
  replace HB := Lib.hid (below_then HB.out hb5)
  clear e0 e1 e2 e3 e4 e5 e6 e7 e8 h12 h13 c1 hb5
  go_wp2_with fail
  go_ret
  exact ⟨rfl, HB.out⟩
end Go.Proofs.Ytbkejlalbjomkaa
