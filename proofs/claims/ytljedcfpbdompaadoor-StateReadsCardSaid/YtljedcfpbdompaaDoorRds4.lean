/-
  StateReads: the walk. Printed by gen_rds4.py.
-/
import Derived.Test.YtljedcfpbdompaaDoorStaM4
import Derived.Test.YtljedcfpbdompaaDoorSta27
import Derived.Test.YtljedcfpbdompaaDoorBag4
import Derived.Test.YtljedcfpbdompaaDoorRfSM
namespace Go.Proofs.YtljedcfpbdompaaDoor
set_option linter.unusedVariables false
open Go.RowKit Go.ChangeShapes Go.WideShapes

def rdM (xs : List Int) : Int := if rdE xs = 0 then (hdAt xs 0).len else 0
/-- What Read answers of bytes. -/
structure RdU (base : Nat) (W : World) (xs : List Int) (s : SE) : Prop where
  h : s.h = if rdE xs = 0 then hdAt xs 0 else ⟨0, 0, 0, 0, 0, 0, 0, 0⟩
  B : s.B = if rdE xs = 0 then (xs.take (hdAt xs 0).len.toNat).drop 20 else []
  ok : s.ok base W
def z0S : SE := ⟨⟨0, 0, 0, 0, 0, 0, 0, 0⟩, none, 0, 0, []⟩
theorem z0S_ok (base : Nat) (W : World) : z0S.ok base W := ⟨⟨by simp [z0S], by simp [z0S], by simp [z0S], by simp [z0S], by simp [z0S], by simp [z0S], by simp [z0S], by simp [z0S]⟩, by simp [z0S, World.ownsRow, u8s], fun i x hx => by simp [z0S] at hx, by simp [z0S]⟩
theorem read_u (A : Option Addr) (n c : Nat) (xs : List Int) (w : World) (hx : Reads w w.heap.size 1 A n (u8s xs)) (ho : Oct xs) (hc : n ≤ c) (hcm : c ≤ 9223372036854775807) (hn : n ≤ 140737488355328) :
    Calls Tryd.prog 8 #[.slice A n c] w fun e w' => ∃ s : SE, e = .returned (.tuple #[s.v, .int .i64 (rdM xs), .int .i64 (rdE xs)]) ∧ RdU w.heap.size w' xs s ∧ Below w.heap.size w w' := by
  by_cases he : rdE xs = 0
  · refine (read_yes A n c xs w hx ho hc hcm hn he).mono ?_
    rintro e w' ⟨s, rfl, h, hb⟩
    exact ⟨s, by unfold rdM; rw [if_pos he, he], ⟨by rw [if_pos he]; exact h.h, by rw [if_pos he]; exact h.B, h.ok⟩, hb⟩
  · refine (read_no A n c xs w hx ho hc hcm hn he).mono ?_
    rintro e w' ⟨rfl, hb⟩
    exact ⟨z0S, by unfold rdM; rw [if_neg he]; rfl, ⟨by rw [if_neg he]; rfl, by rw [if_neg he]; rfl, z0S_ok _ _⟩, hb⟩
theorem refRead_u (A : Option Addr) (n c : Nat) (xs : List Int) (w : World) (hx : Reads w w.heap.size 1 A n (u8s xs)) (ho : Oct xs) (hc : n ≤ c) (hcm : c ≤ 9223372036854775807) (hn : n ≤ 140737488355328) :
    Calls Tryd.prog 9 #[.slice A n c] w fun e w' => ∃ s : SE, e = .returned (.tuple #[s.v, .int .i64 (rdM xs), .int .i64 (rdE xs)]) ∧ RdU w.heap.size w' xs s ∧ Below w.heap.size w w' := by
  by_cases he : rdE xs = 0
  · refine (refRead_yes A n c xs w hx ho hc hcm hn he).mono ?_
    rintro e w' ⟨s, rfl, h, hb⟩
    exact ⟨s, by unfold rdM; rw [if_pos he, he], ⟨by rw [if_pos he]; exact h.h, by rw [if_pos he]; exact h.B, h.ok⟩, hb⟩
  · refine (refRead_no A n c xs w hx ho hc hcm hn he).mono ?_
    rintro e w' ⟨rfl, hb⟩
    exact ⟨z0S, by unfold rdM; rw [if_neg he]; rfl, ⟨by rw [if_neg he]; rfl, by rw [if_neg he]; rfl, z0S_ok _ _⟩, hb⟩
theorem RdU.same {b b' : Nat} {W W' : World} {xs : List Int} {s t : SE} (h : RdU b W xs s) (k : RdU b' W' xs t) : eqS s t = true := by
  unfold eqS
  rw [h.h, k.h, h.B, k.B, (eqHd_iff _ _).2 rfl]
  simp
set_option maxRecDepth 100000 in
set_option maxHeartbeats 4000000 in
theorem addState_any (W : World) (base g : Nat) (G : Sl) (L : List Sl) (s : SE) (hB : BagB W base g (bagC G) G L) (hn : G.n < 300) (hb : base ≤ W.heap.size) :
    Calls Tryd.prog 13 #[.pointer (some ⟨g, 0, none⟩), s.v] W fun e w' => e = .returned (.tuple #[]) ∧ ∃ G' : Sl, BagB w' base g (bagC G') G' (L ++ [⟨s.A, s.n, s.c⟩]) ∧ G'.n = G.n + 1 ∧ Kept (fun i => i = g ∨ G.v.ownBlock = some i) W w' := by
  obtain ⟨h, A, n, c, B⟩ := s
  have hb0 : Below W.heap.size W (W.alloc (.cells #[.int .u16 h.age, .int .u8 h.opts, .int .u8 h.typ, .int .u32 h.id, .int .u32 h.adv, .int .i32 h.seq, .int .u16 h.sum, .int .u16 h.len, .slice A n c] 33)) := (Below.refl _ _).alloc (Nat.le_refl _) _
  have HX := Lib.hid (Blk.new W 33 (stC h A n c))
  have HB := Lib.hid (bag_kept hB (Kept.of_new hb0 (fun _ => False)) (fun h => h) (fun _ _ h => h))
  have HK := Lib.hid (Kept.of_new hb0 (fun i => i = g ∨ G.v.ownBlock = some i))
  have HBs := Lib.hid (Nat.le_trans hb hb0.size)
  obtain ⟨y0, y1, y2, y3, y4, y5, y6, y7, y8⟩ := stC_facts HX.out
  clear hB hb hb0
  show Calls Tryd.prog 13 #[.pointer (some ⟨g, 0, none⟩), stV h A n c] W _
  go_enter Tryd.func13, Tryd.ntmps13
  go_wp2_with fail
  refine (addBytes_any _ base g G L ⟨A, n, c⟩ HB.out hn HBs.out).mono ?_
  rintro e w2 ⟨rfl, G', hG, hn', hk⟩
  have H2 := Lib.hid (And.intro hG (And.intro hn' hk))
  clear hG hn' hk
  go_wp2_with fail
  go_end0
  exact ⟨rfl, G', H2.out.1, H2.out.2.1, HK.out.trans H2.out.2.2 (fun _ _ h => h)⟩
set_option maxRecDepth 100000 in
set_option maxHeartbeats 16000000 in
theorem stateReads_walk (A : Option Addr) (n c : Nat) (xs : List Int) (w : World) (hx : Reads w w.heap.size 1 A n (u8s xs)) (ho : Oct xs) (hc : n ≤ c) (hcm : c ≤ 9223372036854775807) : Calls Tryd.prog 3 #[.slice A n c] w fun e w' => e = .returned (.bool true) ∧ Below w.heap.size w w' := by
  have HX := Lib.hid hx
  have HO := Lib.hid ho
  have HLn := Lib.hid hx.u8len
  clear hx ho
  by_cases hb : 131072 < n
  · have hd : decide ((131072 : Int) < n) = true := decide_eq_true (by omega)
    have hd2 : decide (131072 < n) = true := decide_eq_true hb
    go_enter Tryd.func3, Tryd.ntmps3
    go_wp2_with fail
    refine (lives_any _).mono ?_
    rintro e wl ⟨rfl, hbl⟩
    go_wp2_with fail
    go_ret
    exact ⟨rfl, hbl⟩
  · have hd : decide ((131072 : Int) < n) = false := decide_eq_false (by omega)
    have hd2 : decide (131072 < n) = false := decide_eq_false hb
    obtain ⟨H, hH⟩ : ∃ H, rhH xs = H := ⟨_, rfl⟩
    have hq : ∀ W : World, (Op.equalIn 10000 28 (.agg #[.int .u16 H.age, .int .u8 H.opts, .int .u8 H.typ, .int .u32 H.id, .int .u32 H.adv, .int .i32 H.seq, .int .u16 H.sum, .int .u16 H.len]) (.agg #[.int .u16 H.age, .int .u8 H.opts, .int .u8 H.typ, .int .u32 H.id, .int .u32 H.adv, .int .i32 H.seq, .int .u16 H.sum, .int .u16 H.len])).run Tryd.prog W = .ok true W := fun W => by rw [hd_eq, (eqHd_iff _ _).2 rfl]
    have HH := Lib.hid hH
    clear hH
    go_enter Tryd.func3, Tryd.ntmps3
    go_wp2_with fail
    refine (wideBytes_any A n c xs w HX.out (by omega)).mono ?_
    rintro e w1 ⟨g, rfl, hg, hbk, hb1⟩
    rw [HLn.out]
    have HBk := Lib.hid hbk
    have HB := Lib.hid hb1
    replace HX := Lib.hid (HX.out.later hb1)
    have HIn : Hid (∀ W : World, Blk W g 5 (u8s (wide xs)).toArray → Reads W W.heap.size 1 (some ⟨g, 0, none⟩) n (u8s xs)) := Lib.hid (fun W hW => by
      have h1 := Blk.reads (n := n) hW (by rw [u8s_length, wide_length, HLn.out]; omega)
      rw [u8s_take, show (wide xs).take n = xs by rw [← HLn.out]; exact wide_take xs] at h1
      exact h1.more hW.lt)
    clear hbk hb1 hg
    go_wp2_with fail
    refine (readHead_any (some ⟨g, 0, none⟩) n (n + 64) xs w1 (HIn.out w1 HBk.out) HO.out (by omega) (by omega) (by omega)).mono ?_
    rintro e w2 ⟨rfl, hb⟩
    rw [HH.out]
    replace HX := Lib.hid (HX.out.later hb)
    replace HBk := Lib.hid (HBk.out.later hb)
    replace HB := Lib.hid (below_then HB.out hb)
    clear hb
    have hb : Below w2.heap.size w2 (w2.alloc (.cells #[.int .u16 H.age, .int .u8 H.opts, .int .u8 H.typ, .int .u32 H.id, .int .u32 H.adv, .int .i32 H.seq, .int .u16 H.sum, .int .u16 H.len] 28)) := (Below.refl _ _).alloc (Nat.le_refl _) _
    replace HX := Lib.hid (HX.out.later hb)
    replace HBk := Lib.hid (HBk.out.later hb)
    replace HB := Lib.hid (below_then HB.out hb)
    have HT4 : Hid (Blk (w2.alloc (.cells #[.int .u16 H.age, .int .u8 H.opts, .int .u8 H.typ, .int .u32 H.id, .int .u32 H.adv, .int .i32 H.seq, .int .u16 H.sum, .int .u16 H.len] 28)) w2.heap.size 28 #[.int .u16 H.age, .int .u8 H.opts, .int .u8 H.typ, .int .u32 H.id, .int .u32 H.adv, .int .i32 H.seq, .int .u16 H.sum, .int .u16 H.len]) := Lib.hid (Blk.new _ _ _)
    clear hb
    go_wp2_with fail
    generalize w2.heap.size = g4 at *
    generalize w2.alloc (.cells #[.int .u16 H.age, .int .u8 H.opts, .int .u8 H.typ, .int .u32 H.id, .int .u32 H.adv, .int .i32 H.seq, .int .u16 H.sum, .int .u16 H.len] 28) = w3 at *
    refine (refReadHead_any A n c xs w3 HX.out HO.out hc hcm (by omega)).mono ?_
    rintro e w4 ⟨rfl, hb⟩
    rw [HH.out]
    replace HX := Lib.hid (HX.out.later hb)
    replace HBk := Lib.hid (HBk.out.later hb)
    replace HB := Lib.hid (below_then HB.out hb)
    replace HT4 := Lib.hid (HT4.out.later hb)
    clear hb
    have hb : Below w4.heap.size w4 (w4.alloc (.cells #[.int .u16 H.age, .int .u8 H.opts, .int .u8 H.typ, .int .u32 H.id, .int .u32 H.adv, .int .i32 H.seq, .int .u16 H.sum, .int .u16 H.len] 28)) := (Below.refl _ _).alloc (Nat.le_refl _) _
    replace HX := Lib.hid (HX.out.later hb)
    replace HBk := Lib.hid (HBk.out.later hb)
    replace HB := Lib.hid (below_then HB.out hb)
    replace HT4 := Lib.hid (HT4.out.later hb)
    have HT6 : Hid (Blk (w4.alloc (.cells #[.int .u16 H.age, .int .u8 H.opts, .int .u8 H.typ, .int .u32 H.id, .int .u32 H.adv, .int .i32 H.seq, .int .u16 H.sum, .int .u16 H.len] 28)) w4.heap.size 28 #[.int .u16 H.age, .int .u8 H.opts, .int .u8 H.typ, .int .u32 H.id, .int .u32 H.adv, .int .i32 H.seq, .int .u16 H.sum, .int .u16 H.len]) := Lib.hid (Blk.new _ _ _)
    clear hb
    go_wp2_with fail
    generalize w4.heap.size = g6 at *
    generalize w4.alloc (.cells #[.int .u16 H.age, .int .u8 H.opts, .int .u8 H.typ, .int .u32 H.id, .int .u32 H.adv, .int .i32 H.seq, .int .u16 H.sum, .int .u16 H.len] 28) = w5 at *
    have HBs1 : Hid (w.heap.size ≤ w5.heap.size) := Lib.hid HB.out.size
    refine (read_u (some ⟨g, 0, none⟩) n (n + 64) xs w5 (HIn.out w5 HBk.out) HO.out (by omega) (by omega) (by omega)).mono ?_
    rintro e w6 ⟨⟨h1, A1, n1, c1, B1⟩, rfl, hu, hb⟩
    have HU1 := Lib.hid hu
    have HU1b := Lib.hid hb.size
    clear hu
    replace HX := Lib.hid (HX.out.later hb)
    replace HBk := Lib.hid (HBk.out.later hb)
    replace HB := Lib.hid (below_then HB.out hb)
    replace HT4 := Lib.hid (HT4.out.later hb)
    replace HT6 := Lib.hid (HT6.out.later hb)
    clear hb
    have hb : Below w6.heap.size w6 (w6.alloc (.cells #[.int .u16 h1.age, .int .u8 h1.opts, .int .u8 h1.typ, .int .u32 h1.id, .int .u32 h1.adv, .int .i32 h1.seq, .int .u16 h1.sum, .int .u16 h1.len, .slice A1 n1 c1] 33)) := (Below.refl _ _).alloc (Nat.le_refl _) _
    replace HX := Lib.hid (HX.out.later hb)
    replace HBk := Lib.hid (HBk.out.later hb)
    replace HB := Lib.hid (below_then HB.out hb)
    replace HT4 := Lib.hid (HT4.out.later hb)
    replace HT6 := Lib.hid (HT6.out.later hb)
    replace HU1 := Lib.hid (⟨HU1.out.h, HU1.out.B, HU1.out.ok.later hb⟩ : RdU _ _ xs _)
    have HT8 : Hid (Blk (w6.alloc (.cells #[.int .u16 h1.age, .int .u8 h1.opts, .int .u8 h1.typ, .int .u32 h1.id, .int .u32 h1.adv, .int .i32 h1.seq, .int .u16 h1.sum, .int .u16 h1.len, .slice A1 n1 c1] 33)) w6.heap.size 33 (stC h1 A1 n1 c1)) := Lib.hid (Blk.new _ _ _)
    clear hb
    go_wp2_with fail
    generalize w6.heap.size = g8 at *
    generalize w6.alloc (.cells #[.int .u16 h1.age, .int .u8 h1.opts, .int .u8 h1.typ, .int .u32 h1.id, .int .u32 h1.adv, .int .i32 h1.seq, .int .u16 h1.sum, .int .u16 h1.len, .slice A1 n1 c1] 33) = w7 at *
    have HS7 := Lib.hid (Nat.le_refl w7.heap.size)
    have HBs2 : Hid (w.heap.size ≤ w7.heap.size) := Lib.hid HB.out.size
    have HA1 : Hid (∀ i, (.slice A1 n1 c1 : Value).ownBlock = some i → i < w7.heap.size) := Lib.hid (fun i hi => (own_ge HU1.out.ok.body hi).2)
    refine (read_u (some ⟨g, 0, none⟩) n (n + 64) xs w7 (HIn.out w7 HBk.out) HO.out (by omega) (by omega) (by omega)).mono ?_
    rintro e w8 ⟨⟨h2, A2, n2, c2, B2⟩, rfl, hu, hb⟩
    have HU2 := Lib.hid hu
    have HU2b := Lib.hid hb.size
    clear hu
    have HA2 : Hid (∀ i, (.slice A2 n2 c2 : Value).ownBlock = some i → w7.heap.size ≤ i) := Lib.hid (fun i hi => (own_ge HU2.out.ok.body hi).1)
    replace HX := Lib.hid (HX.out.later hb)
    replace HBk := Lib.hid (HBk.out.later hb)
    replace HB := Lib.hid (below_then HB.out hb)
    replace HT4 := Lib.hid (HT4.out.later hb)
    replace HT6 := Lib.hid (HT6.out.later hb)
    replace HT8 := Lib.hid (HT8.out.later hb)
    replace HU1 := Lib.hid (⟨HU1.out.h, HU1.out.B, HU1.out.ok.later hb⟩ : RdU _ _ xs _)
    clear hb
    have hb : Below w8.heap.size w8 (w8.alloc (.cells #[.int .u16 h2.age, .int .u8 h2.opts, .int .u8 h2.typ, .int .u32 h2.id, .int .u32 h2.adv, .int .i32 h2.seq, .int .u16 h2.sum, .int .u16 h2.len, .slice A2 n2 c2] 33)) := (Below.refl _ _).alloc (Nat.le_refl _) _
    replace HX := Lib.hid (HX.out.later hb)
    replace HBk := Lib.hid (HBk.out.later hb)
    replace HB := Lib.hid (below_then HB.out hb)
    replace HT4 := Lib.hid (HT4.out.later hb)
    replace HT6 := Lib.hid (HT6.out.later hb)
    replace HT8 := Lib.hid (HT8.out.later hb)
    replace HU1 := Lib.hid (⟨HU1.out.h, HU1.out.B, HU1.out.ok.later hb⟩ : RdU _ _ xs _)
    replace HU2 := Lib.hid (⟨HU2.out.h, HU2.out.B, HU2.out.ok.later hb⟩ : RdU _ _ xs _)
    have HT11 : Hid (Blk (w8.alloc (.cells #[.int .u16 h2.age, .int .u8 h2.opts, .int .u8 h2.typ, .int .u32 h2.id, .int .u32 h2.adv, .int .i32 h2.seq, .int .u16 h2.sum, .int .u16 h2.len, .slice A2 n2 c2] 33)) w8.heap.size 33 (stC h2 A2 n2 c2)) := Lib.hid (Blk.new _ _ _)
    clear hb
    go_wp2_with fail
    generalize w8.heap.size = g11 at *
    generalize w8.alloc (.cells #[.int .u16 h2.age, .int .u8 h2.opts, .int .u8 h2.typ, .int .u32 h2.id, .int .u32 h2.adv, .int .i32 h2.seq, .int .u16 h2.sum, .int .u16 h2.len, .slice A2 n2 c2] 33) = w9 at *
    refine (refRead_u A n c xs w9 HX.out HO.out hc hcm (by omega)).mono ?_
    rintro e wa ⟨⟨h3, A3, n3, c3, B3⟩, rfl, hu, hb⟩
    have HU3 := Lib.hid hu
    have HU3b := Lib.hid hb.size
    clear hu
    replace HX := Lib.hid (HX.out.later hb)
    replace HBk := Lib.hid (HBk.out.later hb)
    replace HB := Lib.hid (below_then HB.out hb)
    replace HT4 := Lib.hid (HT4.out.later hb)
    replace HT6 := Lib.hid (HT6.out.later hb)
    replace HT8 := Lib.hid (HT8.out.later hb)
    replace HT11 := Lib.hid (HT11.out.later hb)
    replace HU1 := Lib.hid (⟨HU1.out.h, HU1.out.B, HU1.out.ok.later hb⟩ : RdU _ _ xs _)
    replace HU2 := Lib.hid (⟨HU2.out.h, HU2.out.B, HU2.out.ok.later hb⟩ : RdU _ _ xs _)
    clear hb
    have hb : Below wa.heap.size wa (wa.alloc (.cells #[.int .u16 h3.age, .int .u8 h3.opts, .int .u8 h3.typ, .int .u32 h3.id, .int .u32 h3.adv, .int .i32 h3.seq, .int .u16 h3.sum, .int .u16 h3.len, .slice A3 n3 c3] 33)) := (Below.refl _ _).alloc (Nat.le_refl _) _
    replace HX := Lib.hid (HX.out.later hb)
    replace HBk := Lib.hid (HBk.out.later hb)
    replace HB := Lib.hid (below_then HB.out hb)
    replace HT4 := Lib.hid (HT4.out.later hb)
    replace HT6 := Lib.hid (HT6.out.later hb)
    replace HT8 := Lib.hid (HT8.out.later hb)
    replace HT11 := Lib.hid (HT11.out.later hb)
    replace HU1 := Lib.hid (⟨HU1.out.h, HU1.out.B, HU1.out.ok.later hb⟩ : RdU _ _ xs _)
    replace HU2 := Lib.hid (⟨HU2.out.h, HU2.out.B, HU2.out.ok.later hb⟩ : RdU _ _ xs _)
    replace HU3 := Lib.hid (⟨HU3.out.h, HU3.out.B, HU3.out.ok.later hb⟩ : RdU _ _ xs _)
    have HT14 : Hid (Blk (wa.alloc (.cells #[.int .u16 h3.age, .int .u8 h3.opts, .int .u8 h3.typ, .int .u32 h3.id, .int .u32 h3.adv, .int .i32 h3.seq, .int .u16 h3.sum, .int .u16 h3.len, .slice A3 n3 c3] 33)) wa.heap.size 33 (stC h3 A3 n3 c3)) := Lib.hid (Blk.new _ _ _)
    clear hb
    obtain ⟨a0, a1, a2, a3, a4, a5, a6, a7⟩ := HdBlk.cells HT4.out
    obtain ⟨b0, b1, b2, b3, b4, b5, b6, b7⟩ := HdBlk.cells HT6.out
    obtain ⟨y0, y1, y2, y3, y4, y5, y6, y7, y8⟩ := stC_facts HT8.out
    obtain ⟨z0, z1, z2, z3, z4, z5, z6, z7, z8⟩ := stC_facts HT14.out
    go_wp2_with fail
    clear a0 a1 a2 a3 a4 a5 a6 a7 b0 b1 b2 b3 b4 b5 b6 b7 y0 y1 y2 y3 y4 y5 y6 y7 y8 z0 z1 z2 z3 z4 z5 z6 z7 z8
    generalize wa.heap.size = g14 at *
    generalize wa.alloc (.cells #[.int .u16 h3.age, .int .u8 h3.opts, .int .u8 h3.typ, .int .u32 h3.id, .int .u32 h3.adv, .int .i32 h3.seq, .int .u16 h3.sum, .int .u16 h3.len, .slice A3 n3 c3] 33) = wb at *
    refine (eqState_any ⟨h1, A1, n1, c1, B1⟩ ⟨h3, A3, n3, c3, B3⟩ wb HU1.out.ok.rd HU3.out.ok.rd).mono ?_
    rintro e wc ⟨rfl, hb⟩
    rw [HU1.out.same HU3.out]
    replace HX := Lib.hid (HX.out.later hb)
    replace HBk := Lib.hid (HBk.out.later hb)
    replace HB := Lib.hid (below_then HB.out hb)
    replace HT4 := Lib.hid (HT4.out.later hb)
    replace HT6 := Lib.hid (HT6.out.later hb)
    replace HT8 := Lib.hid (HT8.out.later hb)
    replace HT11 := Lib.hid (HT11.out.later hb)
    replace HT14 := Lib.hid (HT14.out.later hb)
    replace HU1 := Lib.hid (⟨HU1.out.h, HU1.out.B, HU1.out.ok.later hb⟩ : RdU _ _ xs _)
    replace HU2 := Lib.hid (⟨HU2.out.h, HU2.out.B, HU2.out.ok.later hb⟩ : RdU _ _ xs _)
    replace HU3 := Lib.hid (⟨HU3.out.h, HU3.out.B, HU3.out.ok.later hb⟩ : RdU _ _ xs _)
    clear hb
    obtain ⟨y0, y1, y2, y3, y4, y5, y6, y7, y8⟩ := stC_facts HT11.out
    obtain ⟨z0, z1, z2, z3, z4, z5, z6, z7, z8⟩ := stC_facts HT14.out
    go_wp2_with fail
    clear y0 y1 y2 y3 y4 y5 y6 y7 y8 z0 z1 z2 z3 z4 z5 z6 z7 z8
    refine (eqState_any ⟨h2, A2, n2, c2, B2⟩ ⟨h3, A3, n3, c3, B3⟩ wc HU2.out.ok.rd HU3.out.ok.rd).mono ?_
    rintro e wd ⟨rfl, hb⟩
    rw [HU2.out.same HU3.out]
    replace HX := Lib.hid (HX.out.later hb)
    replace HBk := Lib.hid (HBk.out.later hb)
    replace HB := Lib.hid (below_then HB.out hb)
    replace HT4 := Lib.hid (HT4.out.later hb)
    replace HT6 := Lib.hid (HT6.out.later hb)
    replace HT8 := Lib.hid (HT8.out.later hb)
    replace HT11 := Lib.hid (HT11.out.later hb)
    replace HT14 := Lib.hid (HT14.out.later hb)
    replace HU1 := Lib.hid (⟨HU1.out.h, HU1.out.B, HU1.out.ok.later hb⟩ : RdU _ _ xs _)
    replace HU2 := Lib.hid (⟨HU2.out.h, HU2.out.B, HU2.out.ok.later hb⟩ : RdU _ _ xs _)
    replace HU3 := Lib.hid (⟨HU3.out.h, HU3.out.B, HU3.out.ok.later hb⟩ : RdU _ _ xs _)
    clear hb
    go_wp2_with fail
    refine (eqBytes_any (some ⟨g, 0, none⟩) A n (n + 64) n c xs xs wd _ _ (HIn.out wd HBk.out) HX.out (by omega) (by omega)).mono ?_
    rintro e we ⟨rfl, k1, rfl⟩
    rw [decide_eq_true (rfl : xs = xs)]
    have hb : Below wd.heap.size wd (wd.drewN k1) := below_of_drewN _ wd k1
    replace HX := Lib.hid (HX.out.later hb)
    replace HBk := Lib.hid (HBk.out.later hb)
    replace HB := Lib.hid (below_then HB.out hb)
    replace HT4 := Lib.hid (HT4.out.later hb)
    replace HT6 := Lib.hid (HT6.out.later hb)
    replace HT8 := Lib.hid (HT8.out.later hb)
    replace HT11 := Lib.hid (HT11.out.later hb)
    replace HT14 := Lib.hid (HT14.out.later hb)
    replace HU1 := Lib.hid (⟨HU1.out.h, HU1.out.B, HU1.out.ok.later hb⟩ : RdU _ _ xs _)
    replace HU2 := Lib.hid (⟨HU2.out.h, HU2.out.B, HU2.out.ok.later hb⟩ : RdU _ _ xs _)
    replace HU3 := Lib.hid (⟨HU3.out.h, HU3.out.B, HU3.out.ok.later hb⟩ : RdU _ _ xs _)
    clear hb
    generalize wd.drewN k1 = we at *
    go_wp2_with fail
    have HWd : Hid (Reads we we.heap.size 1 (some ⟨g, 0, none⟩) (n + 64) (u8s (wide xs))) := Lib.hid (by
      have h1 := Blk.reads (n := n + 64) HBk.out (by rw [u8s_length, wide_length, HLn.out]; exact Nat.le_refl _)
      rw [List.take_of_length_le (by rw [u8s_length, wide_length, HLn.out]; exact Nat.le_refl _)] at h1
      exact h1.more HBk.out.lt)
    refine (spareBytes_yes (some ⟨g, 0, none⟩) n (n + 64) xs we _ HWd.out HLn.out (Nat.le_refl _) (by omega)).mono ?_
    rintro e wf ⟨rfl, k2, rfl⟩
    have hb : Below we.heap.size we (we.drewN k2) := below_of_drewN _ we k2
    replace HX := Lib.hid (HX.out.later hb)
    replace HBk := Lib.hid (HBk.out.later hb)
    replace HB := Lib.hid (below_then HB.out hb)
    replace HT4 := Lib.hid (HT4.out.later hb)
    replace HT6 := Lib.hid (HT6.out.later hb)
    replace HT8 := Lib.hid (HT8.out.later hb)
    replace HT11 := Lib.hid (HT11.out.later hb)
    replace HT14 := Lib.hid (HT14.out.later hb)
    replace HU1 := Lib.hid (⟨HU1.out.h, HU1.out.B, HU1.out.ok.later hb⟩ : RdU _ _ xs _)
    replace HU2 := Lib.hid (⟨HU2.out.h, HU2.out.B, HU2.out.ok.later hb⟩ : RdU _ _ xs _)
    replace HU3 := Lib.hid (⟨HU3.out.h, HU3.out.B, HU3.out.ok.later hb⟩ : RdU _ _ xs _)
    clear hb
    generalize we.drewN k2 = wf at *
    clear HWd
    have hb : Below wf.heap.size wf (wf.alloc (.cells #[.slice none 0 0, .slice none 0 0, .slice none 0 0, .slice none 0 0, .slice none 0 0, .slice none 0 0, .slice none 0 0, .slice none 0 0, .slice none 0 0, .slice none 0 0, .slice none 0 0, .slice none 0 0, .slice none 0 0, .slice none 0 0, .slice none 0 0, .slice none 0 0, .slice none 0 0, .slice none 0 0, .slice none 0 0] 60)) := (Below.refl _ _).alloc (Nat.le_refl _) _
    have HBg : Hid (BagB (wf.alloc (.cells #[.slice none 0 0, .slice none 0 0, .slice none 0 0, .slice none 0 0, .slice none 0 0, .slice none 0 0, .slice none 0 0, .slice none 0 0, .slice none 0 0, .slice none 0 0, .slice none 0 0, .slice none 0 0, .slice none 0 0, .slice none 0 0, .slice none 0 0, .slice none 0 0, .slice none 0 0, .slice none 0 0, .slice none 0 0] 60)) w.heap.size wf.heap.size (bagC ⟨none, 0, 0⟩) ⟨none, 0, 0⟩ []) := Lib.hid ⟨Blk.new _ _ _, rfl, World.ownsRow_nil _ _ _ _, rfl, Nat.zero_le _⟩
    have HG0 : Hid (w.heap.size ≤ wf.heap.size) := Lib.hid HB.out.size
    replace HX := Lib.hid (HX.out.later hb)
    replace HBk := Lib.hid (HBk.out.later hb)
    replace HB := Lib.hid (below_then HB.out hb)
    replace HT4 := Lib.hid (HT4.out.later hb)
    replace HT6 := Lib.hid (HT6.out.later hb)
    replace HT8 := Lib.hid (HT8.out.later hb)
    replace HT11 := Lib.hid (HT11.out.later hb)
    replace HT14 := Lib.hid (HT14.out.later hb)
    replace HU1 := Lib.hid (⟨HU1.out.h, HU1.out.B, HU1.out.ok.later hb⟩ : RdU _ _ xs _)
    replace HU2 := Lib.hid (⟨HU2.out.h, HU2.out.B, HU2.out.ok.later hb⟩ : RdU _ _ xs _)
    replace HU3 := Lib.hid (⟨HU3.out.h, HU3.out.B, HU3.out.ok.later hb⟩ : RdU _ _ xs _)
    clear hb
    obtain ⟨y0, y1, y2, y3, y4, y5, y6, y7, y8⟩ := stC_facts HT8.out
    go_wp2_with fail
    clear y0 y1 y2 y3 y4 y5 y6 y7 y8
    generalize wf.heap.size = gb at *
    generalize wf.alloc (.cells #[.slice none 0 0, .slice none 0 0, .slice none 0 0, .slice none 0 0, .slice none 0 0, .slice none 0 0, .slice none 0 0, .slice none 0 0, .slice none 0 0, .slice none 0 0, .slice none 0 0, .slice none 0 0, .slice none 0 0, .slice none 0 0, .slice none 0 0, .slice none 0 0, .slice none 0 0, .slice none 0 0, .slice none 0 0] 60) = wg at *
    have R1 : Hid (Has wg w.heap.size ⟨A1, n1, c1⟩ B1) := Lib.hid (own_mono HU1.out.ok.body HBs1.out)
    have R2 : Hid (Has wg w.heap.size ⟨A2, n2, c2⟩ B2) := Lib.hid (own_mono HU2.out.ok.body HBs2.out)
    have HFew : Hid (n1 ≤ 1099511627776 ∧ n2 ≤ 1099511627776) := Lib.hid ⟨HU1.out.ok.len, HU2.out.ok.len⟩
    clear HU1 HU2 HU3 HT4 HT6 HT8 HT14 HX HIn HBk HU1b HU2b HU3b HS7 hq HH HO HLn
    refine (addState_any wg w.heap.size gb ⟨none, 0, 0⟩ [] ⟨h1, A1, n1, c1, B1⟩ HBg.out (by decide) HB.out.size).mono ?_
    rintro e wh ⟨rfl, G1, hG, hn1, hk⟩
    have rowk : ∀ (W W' : World) (G : Sl) (L : List Sl) (s : Sl) (ys : List Int), BagB W w.heap.size gb (bagC G) G L → Kept (fun i => i = gb ∨ G.v.ownBlock = some i) W W' → Has W w.heap.size s ys → Has W' w.heap.size s ys := fun W W' G L s ys hB hk hs => hs.kept hk fun i hi hR => by
      rcases hR with rfl | hR
      · exact own_blk_ne (show W.ownsRow w.heap.size 5 1 s.v s.n _ from hs) hB.blk (by decide) hi
      · exact own_ne (show W.ownsRow w.heap.size 5 1 s.v s.n _ from hs) hB.row (by decide) i hi hR
    have belk : ∀ (W W' : World) (G : Sl) (L : List Sl), BagB W w.heap.size gb (bagC G) G L → Kept (fun i => i = gb ∨ G.v.ownBlock = some i) W W' → Below w.heap.size w W → Below w.heap.size w W' := fun W W' G L hB hk hb => hb.trans (hk.below (fun i hR => by
      rcases hR with rfl | hR
      · exact HG0.out
      · exact (own_ge hB.row hR).1) hb.size)
    have HRk := Lib.hid rowk
    have HBl := Lib.hid belk
    replace R1 := Lib.hid (rowk _ _ _ _ _ _ HBg.out hk R1.out)
    replace R2 := Lib.hid (rowk _ _ _ _ _ _ HBg.out hk R2.out)
    replace HB := Lib.hid (belk _ _ _ _ HBg.out hk HB.out)
    replace HT11 := Lib.hid (HT11.out.kept hk (fun hR => by
      rcases hR with hR | hR
      · exact blk_ne HT11.out HBg.out.blk (by decide) hR
      · simp [Value.ownBlock] at hR))
    have HG1 := Lib.hid (And.intro hG hn1)
    clear hG hn1 hk rowk belk HBg
    obtain ⟨z0, z1, z2, z3, z4, z5, z6, z7, z8⟩ := stC_facts HT11.out
    go_wp2_with fail
    clear z0 z1 z2 z3 z4 z5 z6 z7 z8
    refine (addState_any wh w.heap.size gb G1 _ ⟨h2, A2, n2, c2, B2⟩ HG1.out.1 (by have h9 : G1.n = 0 + 1 := HG1.out.2; omega) HB.out.size).mono ?_
    rintro e wi ⟨rfl, G2, hG, hn2, hk⟩
    replace R1 := Lib.hid (HRk.out _ _ _ _ _ _ HG1.out.1 hk R1.out)
    replace R2 := Lib.hid (HRk.out _ _ _ _ _ _ HG1.out.1 hk R2.out)
    replace HB := Lib.hid (HBl.out _ _ _ _ HG1.out.1 hk HB.out)
    have HG2 := Lib.hid hG
    clear hG hn2 hk HG1 HT11
    go_wp2_with fail
    have hRows : Rows8 wi w.heap.size ([] ++ [⟨A1, n1, c1⟩] ++ [⟨A2, n2, c2⟩]) (fun k => if k = 0 then B1 else B2) := by
      have two : ∀ (k : Nat) (s : Sl), ([] ++ [(⟨A1, n1, c1⟩ : Sl)] ++ [⟨A2, n2, c2⟩])[k]? = some s → (k = 0 ∧ s = ⟨A1, n1, c1⟩) ∨ (k = 1 ∧ s = ⟨A2, n2, c2⟩) := fun k s h => by
        rcases k with _ | _ | k
        · left; exact ⟨rfl, by simpa using h.symm⟩
        · right; exact ⟨rfl, by simpa using h.symm⟩
        · simp at h
      have sep : ∀ i, (⟨A1, n1, c1⟩ : Sl).v.ownBlock = some i → (⟨A2, n2, c2⟩ : Sl).v.ownBlock ≠ some i := fun i h1 h2 => by
        have q1 := HA1.out i h1
        have q2 := HA2.out i h2
        omega
      refine ⟨fun k s h => ?_, fun j k s t i hj hk hne hs ht => ?_, fun k s h => ?_⟩
      · rcases two k s h with ⟨rfl, rfl⟩ | ⟨rfl, rfl⟩
        · exact R1.out
        · exact R2.out
      · rcases two j s hj with ⟨rfl, rfl⟩ | ⟨rfl, rfl⟩ <;> rcases two k t hk with ⟨rfl, rfl⟩ | ⟨rfl, rfl⟩
        · exact hne rfl
        · exact sep i hs ht
        · exact sep i ht hs
        · exact hne rfl
      · rcases two k s h with ⟨rfl, rfl⟩ | ⟨rfl, rfl⟩
        · exact HFew.out.1
        · exact HFew.out.2
    refine (apart_any wi w.heap.size gb G2 _ _ HG2.out hRows HB.out.size).mono ?_
    clear hRows
    rintro e wj ⟨rfl, hbj⟩
    have HBj := Lib.hid (HB.out.trans hbj)
    clear hbj
    go_wp2_with fail
    refine (lives_any _).mono ?_
    rintro e wl ⟨rfl, hbl⟩
    go_wp2_with fail
    go_ret
    exact ⟨rfl, below_then HBj.out hbl⟩
end Go.Proofs.YtljedcfpbdompaaDoor
