/-
  Chains of keys: the law's given, walked.
-/
import Derived.Test.YtkgdeneonobibaaAut7
import Derived.Test.YtkgdeneonobibaaRef0
namespace Go.Proofs.Ytkgdeneonobibaa
set_option linter.unusedVariables false
open Go.RowKit

theorem info_akey : (Try.prog.info? 70).map (fun i => (i.zero, i.size, i.bytes)) = some (some (.agg #[.int .u8 0, .int .u16 0, .slice none 0 0, .int .i64 0, .int .i64 0, .int .i64 0, .int .i64 0]), 7, 64) := by kernel_rfl
theorem el_akey : El Try.prog 22 70 7 64 := El.mk' Try.underlying22 info_akey rfl (by omega)
/-- The same key, its secret a list of the program's own with marks behind. -/
structure Wd (W : World) (base : Nat) (k k' : AK) : Prop where
  id : k'.id = k.id
  kind : k'.kind = k.kind
  n : k'.n = k.n
  sf : k'.sf = k.sf
  su : k'.su = k.su
  tf : k'.tf = k.tf
  tu : k'.tu = k.tu
  bs : k'.bs = k.bs
  own : ∃ g, k'.A = some ⟨g, 0, none⟩ ∧ k'.c = k.n + 64 ∧ base ≤ g ∧ Blk W g 5 (u8s (wide k.bs)).toArray
theorem Wd.later {W W' : World} {base : Nat} {k k' : AK} (h : Wd W base k k') (hb : Below W.heap.size W W') : Wd W' base k k' :=
  ⟨h.id, h.kind, h.n, h.sf, h.su, h.tf, h.tu, h.bs, by obtain ⟨g, h1, h2, h3, h4⟩ := h.own; exact ⟨g, h1, h2, h3, h4.later hb⟩⟩
theorem Wd.grown {W W' : World} {base b : Nat} {k k' : AK} {v : Value} {n : Nat} {xs : List Value} (h : Wd W base k k') (ho : W.ownsRow b 70 7 v n xs) (hg : W.grownBy W' v.ownBlock) : Wd W' base k k' :=
  ⟨h.id, h.kind, h.n, h.sf, h.su, h.tf, h.tu, h.bs, by obtain ⟨g, h1, h2, h3, h4⟩ := h.own; exact ⟨g, h1, h2, h3, h4.grown hg (fun e => own_blk_ne ho h4 (by decide) e.symm)⟩⟩
/-- Two chains, key by key. -/
def WdAll (W : World) (base : Nat) (L L' : List AK) : Prop := ∀ (q : Nat) (k k' : AK), L[q]? = some k → L'[q]? = some k' → Wd W base k k'
def GvRel (w : World) (L : List AK) (n : Nat) (i v : Value) (wr : World) : Prop :=
  ∃ (j : Nat) (L' : List AK), i = .int .i64 j ∧ j ≤ n ∧ L'.length = j ∧ wr.ownsRow w.heap.size 70 7 v j (L'.flatMap AK.cells) ∧ WdAll wr w.heap.size L L' ∧ Below w.heap.size w wr
def GvAt (w w' : World) (L : List AK) (n : Nat) (e : Ending) : Prop :=
  ∃ (v : Value) (L' : List AK), e = .returned v ∧ L'.length = n ∧ w'.ownsRow w.heap.size 70 7 v n (L'.flatMap AK.cells) ∧ WdAll w' w.heap.size L L' ∧ Below w.heap.size w w'
theorem own_later {b n : Nat} {w w' : World} {v : Value} {xs : List Value} (h : w.ownsRow b 70 7 v n xs) (hb : Below w.heap.size w w') : w'.ownsRow b 70 7 v n xs := own_kept h (Kept.of_new hb (fun _ => False)) (fun _ _ h => h)
theorem key_one {k : AK} : ∀ u ∈ k.cells, u.oneCell' = true := by
  intro u hu
  simp [AK.cells] at hu
  rcases hu with rfl | rfl | rfl | rfl | rfl | rfl | rfl <;> rfl
theorem key_row (w : World) (k : AK) : Reads (w.alloc (.cells k.cells.toArray 70)) (w.alloc (.cells k.cells.toArray 70)).heap.size 7 (some ⟨w.heap.size, 0, none⟩) 1 k.cells :=
  ⟨rfl, fun _ => ⟨_, rfl, by rw [World.size_alloc]; exact Nat.lt_succ_self _, fun j u hu => by rw [add_none, Nat.zero_add, (Blk.new w 70 k.cells.toArray).cell j, List.getElem?_toArray]; exact hu⟩⟩
theorem own_nil {w : World} {b : Nat} : w.ownsRow b 70 7 (.slice none 0 0) 0 [] := World.ownsRow_nil _ _ _ _
set_option maxRecDepth 100000 in
set_option maxHeartbeats 4000000 in
theorem given_any (A : Option Addr) (n c : Nat) (L : List AK) (w : World) (hL : Keys w A n L) (hn : n ≤ 131072) (hs : ∀ k ∈ L, k.n ≤ 131072) :
    Calls Try.prog 11 #[.slice A n c] w fun e w' => GvAt w w' L n e := by
  have HL := Lib.hid hL
  have HN := Lib.hid hs
  clear hL hs
  go_enter Try.func11, Try.ntmps11
  go_wp2
  go_loopw [4, 3] (GvRel w L n) (fun i _ _ => n - (intOf i).toNat)
  case atStart => exact ⟨0, [], rfl, by omega, rfl, own_nil, fun q k k' _ h => by simp at h, Below.refl _ _⟩
  case round =>
    obtain ⟨i, L', rfl, hi, hl', hown, hwd, hb⟩ := hrel
    have HB := Lib.hid hb
    have HO := Lib.hid hown
    have HW := Lib.hid hwd
    clear hb hown hwd
    by_cases hlt : i < n
    · obtain ⟨ad, k, rfl, hbl, hk, hok, c0, c1, c2, c3, c4, c5, c6⟩ := (HL.out.later HB.out).at_ hlt
      have hkn := HN.out k (List.mem_of_getElem? hk.out)
      obtain ⟨id, kind, S, sn, sc, sf, su, tf, tu, bs⟩ := k
      simp only at c0 c1 c2 c3 c4 c5 c6 hkn
      have hbl2 : bs.length = sn := hok.out.sec.u8len
      have HX : Hid (Reads wr wr.heap.size 1 S sn (u8s bs)) := hok.out.sec
      clear hok
      go_wp2
      have hb1 : Hid (Below wr.heap.size wr (wr.alloc (.cells #[.int .u8 id, .int .u16 kind, .slice S sn sc, .int .i64 sf, .int .i64 su, .int .i64 tf, .int .i64 tu] 70)).drew) := ((Below.refl _ _).alloc (Nat.le_refl _) _).drew
      have HS : Hid ((fun W : World => Blk W wr.heap.size 70 #[.int .u8 id, .int .u16 kind, .slice S sn sc, .int .i64 sf, .int .i64 su, .int .i64 tf, .int .i64 tu]) (wr.alloc (.cells #[.int .u8 id, .int .u16 kind, .slice S sn sc, .int .i64 sf, .int .i64 su, .int .i64 tf, .int .i64 tu] 70)).drew) := Blk.new _ _ _
      refine wp_region_s (fun W : World => Blk W wr.heap.size 70 #[.int .u8 id, .int .u16 kind, .slice S sn sc, .int .i64 sf, .int .i64 su, .int .i64 tf, .int .i64 tu]) [(0, true), (1, true), (3, true), (5, true), (8, true), (10, true), (12, true), (14, true), (2, true), (4, true), (6, true), (9, true), (11, true), (13, true), (15, true), (7, false), (16, true), (17, false), (18, false), (19, true)] (by kernel_rfl) (fun _ d _ _ _ h => by cases d <;> exact h) ?_
      simp only [List.map_cons, List.map_nil, nthOp_zero, nthOp_succ]
      have HB1 := Lib.hid (below_then HB.out hb1.out)
      have HO1 := Lib.hid (own_later HO.out hb1.out)
      have HW1 : Hid (WdAll (wr.alloc (.cells #[.int .u8 id, .int .u16 kind, .slice S sn sc, .int .i64 sf, .int .i64 su, .int .i64 tf, .int .i64 tu] 70)).drew w.heap.size L L') := fun q k k' h1 h2 => (HW.out q k k' h1 h2).later hb1.out
      have HX1 := Lib.hid (HX.out.later hb1.out)
      have HNE := Lib.hid (fun (b : Nat) (hb : _ = some b) => (own_ge HO.out hb).2)
      clear HB HO HW HX hb1 c0 c1 c2 c3 c4 c5 c6
      generalize (wr.alloc (.cells #[.int .u8 id, .int .u16 kind, .slice S sn sc, .int .i64 sf, .int .i64 su, .int .i64 tf, .int .i64 tu] 70)).drew = w1 at *
      generalize wr.heap.size = g0 at *
      refine wpS_take HS (by kernel_rfl) (by intro W hW; have q0 := hW.cell 0; have q1 := hW.cell 1; have q2 := hW.cell 2; have q3 := hW.cell 3; have q4 := hW.cell 4; have q5 := hW.cell 5; have q6 := hW.cell 6; clear hW; simp only [List.getElem?_toArray, List.getElem?_cons_zero, List.getElem?_cons_succ] at q0 q1 q2 q3 q4 q5 q6; go_simp; try with_reducible rfl) ?_
      refine wpS_take HS (by kernel_rfl) (by intro W hW; have q0 := hW.cell 0; have q1 := hW.cell 1; have q2 := hW.cell 2; have q3 := hW.cell 3; have q4 := hW.cell 4; have q5 := hW.cell 5; have q6 := hW.cell 6; clear hW; simp only [List.getElem?_toArray, List.getElem?_cons_zero, List.getElem?_cons_succ] at q0 q1 q2 q3 q4 q5 q6; go_simp; try with_reducible rfl) ?_
      refine wpS_take HS (by kernel_rfl) (by intro W hW; have q0 := hW.cell 0; have q1 := hW.cell 1; have q2 := hW.cell 2; have q3 := hW.cell 3; have q4 := hW.cell 4; have q5 := hW.cell 5; have q6 := hW.cell 6; clear hW; simp only [List.getElem?_toArray, List.getElem?_cons_zero, List.getElem?_cons_succ] at q0 q1 q2 q3 q4 q5 q6; go_simp; try with_reducible rfl) ?_
      refine wpS_take HS (by kernel_rfl) (by intro W hW; have q0 := hW.cell 0; have q1 := hW.cell 1; have q2 := hW.cell 2; have q3 := hW.cell 3; have q4 := hW.cell 4; have q5 := hW.cell 5; have q6 := hW.cell 6; clear hW; simp only [List.getElem?_toArray, List.getElem?_cons_zero, List.getElem?_cons_succ] at q0 q1 q2 q3 q4 q5 q6; go_simp; try with_reducible rfl) ?_
      refine wpS_take HS (by kernel_rfl) (by intro W hW; have q0 := hW.cell 0; have q1 := hW.cell 1; have q2 := hW.cell 2; have q3 := hW.cell 3; have q4 := hW.cell 4; have q5 := hW.cell 5; have q6 := hW.cell 6; clear hW; simp only [List.getElem?_toArray, List.getElem?_cons_zero, List.getElem?_cons_succ] at q0 q1 q2 q3 q4 q5 q6; go_simp; try with_reducible rfl) ?_
      refine wpS_take HS (by kernel_rfl) (by intro W hW; have q0 := hW.cell 0; have q1 := hW.cell 1; have q2 := hW.cell 2; have q3 := hW.cell 3; have q4 := hW.cell 4; have q5 := hW.cell 5; have q6 := hW.cell 6; clear hW; simp only [List.getElem?_toArray, List.getElem?_cons_zero, List.getElem?_cons_succ] at q0 q1 q2 q3 q4 q5 q6; go_simp; try with_reducible rfl) ?_
      refine wpS_take HS (by kernel_rfl) (by intro W hW; have q0 := hW.cell 0; have q1 := hW.cell 1; have q2 := hW.cell 2; have q3 := hW.cell 3; have q4 := hW.cell 4; have q5 := hW.cell 5; have q6 := hW.cell 6; clear hW; simp only [List.getElem?_toArray, List.getElem?_cons_zero, List.getElem?_cons_succ] at q0 q1 q2 q3 q4 q5 q6; go_simp; try with_reducible rfl) ?_
      refine wpS_take HS (by kernel_rfl) (by intro W hW; have q0 := hW.cell 0; have q1 := hW.cell 1; have q2 := hW.cell 2; have q3 := hW.cell 3; have q4 := hW.cell 4; have q5 := hW.cell 5; have q6 := hW.cell 6; clear hW; simp only [List.getElem?_toArray, List.getElem?_cons_zero, List.getElem?_cons_succ] at q0 q1 q2 q3 q4 q5 q6; go_simp; try with_reducible rfl) ?_
      refine wpS_take HS (by kernel_rfl) (by intro W hW; have q0 := hW.cell 0; have q1 := hW.cell 1; have q2 := hW.cell 2; have q3 := hW.cell 3; have q4 := hW.cell 4; have q5 := hW.cell 5; have q6 := hW.cell 6; clear hW; simp only [List.getElem?_toArray, List.getElem?_cons_zero, List.getElem?_cons_succ] at q0 q1 q2 q3 q4 q5 q6; go_simp; try with_reducible rfl) ?_
      refine wpS_take HS (by kernel_rfl) (by intro W hW; have q0 := hW.cell 0; have q1 := hW.cell 1; have q2 := hW.cell 2; have q3 := hW.cell 3; have q4 := hW.cell 4; have q5 := hW.cell 5; have q6 := hW.cell 6; clear hW; simp only [List.getElem?_toArray, List.getElem?_cons_zero, List.getElem?_cons_succ] at q0 q1 q2 q3 q4 q5 q6; go_simp; try with_reducible rfl) ?_
      refine wpS_take HS (by kernel_rfl) (by intro W hW; have q0 := hW.cell 0; have q1 := hW.cell 1; have q2 := hW.cell 2; have q3 := hW.cell 3; have q4 := hW.cell 4; have q5 := hW.cell 5; have q6 := hW.cell 6; clear hW; simp only [List.getElem?_toArray, List.getElem?_cons_zero, List.getElem?_cons_succ] at q0 q1 q2 q3 q4 q5 q6; go_simp; try with_reducible rfl) ?_
      refine wpS_take HS (by kernel_rfl) (by intro W hW; have q0 := hW.cell 0; have q1 := hW.cell 1; have q2 := hW.cell 2; have q3 := hW.cell 3; have q4 := hW.cell 4; have q5 := hW.cell 5; have q6 := hW.cell 6; clear hW; simp only [List.getElem?_toArray, List.getElem?_cons_zero, List.getElem?_cons_succ] at q0 q1 q2 q3 q4 q5 q6; go_simp; try with_reducible rfl) ?_
      refine wpS_take HS (by kernel_rfl) (by intro W hW; have q0 := hW.cell 0; have q1 := hW.cell 1; have q2 := hW.cell 2; have q3 := hW.cell 3; have q4 := hW.cell 4; have q5 := hW.cell 5; have q6 := hW.cell 6; clear hW; simp only [List.getElem?_toArray, List.getElem?_cons_zero, List.getElem?_cons_succ] at q0 q1 q2 q3 q4 q5 q6; go_simp; try with_reducible rfl) ?_
      refine wpS_take HS (by kernel_rfl) (by intro W hW; have q0 := hW.cell 0; have q1 := hW.cell 1; have q2 := hW.cell 2; have q3 := hW.cell 3; have q4 := hW.cell 4; have q5 := hW.cell 5; have q6 := hW.cell 6; clear hW; simp only [List.getElem?_toArray, List.getElem?_cons_zero, List.getElem?_cons_succ] at q0 q1 q2 q3 q4 q5 q6; go_simp; try with_reducible rfl) ?_
      refine wpS_take HS (by kernel_rfl) (by intro W hW; have q0 := hW.cell 0; have q1 := hW.cell 1; have q2 := hW.cell 2; have q3 := hW.cell 3; have q4 := hW.cell 4; have q5 := hW.cell 5; have q6 := hW.cell 6; clear hW; simp only [List.getElem?_toArray, List.getElem?_cons_zero, List.getElem?_cons_succ] at q0 q1 q2 q3 q4 q5 q6; go_simp; try with_reducible rfl) ?_
      refine wpS_do fun K1 hK1 => ?_
      go_wp2_with fail
      refine (wideBytes_any S sn sc bs w1 HX1.out (by omega)).mono ?_
      rintro e w2 ⟨gw, rfl, hgw, hbw, hb⟩
      have HS2 : Hid (Blk w2 g0 70 #[.int .u8 id, .int .u16 kind, .slice S sn sc, .int .i64 sf, .int .i64 su, .int .i64 tf, .int .i64 tu]) := HS.out.later hb
      have HBw : Hid (Blk w2 gw 5 (u8s (wide bs)).toArray ∧ w.heap.size ≤ gw) := ⟨hbw, Nat.le_trans HB1.out.size hgw⟩
      have HB2 := Lib.hid (below_then HB1.out hb)
      have HO2 := Lib.hid (own_later HO1.out hb)
      have HW2 : Hid (WdAll w2 w.heap.size L L') := fun q k k' h1 h2 => (HW1.out q k k' h1 h2).later hb
      clear hb hbw hgw HB1 HO1 HW1 HX1 HS
      go_wp2
      refine hK1.out _ _ HS2.out ?_
      clear hK1 K1
      refine wpS_take HS2 (by kernel_rfl) (by intro W hW; have q0 := hW.cell 0; have q1 := hW.cell 1; have q2 := hW.cell 2; have q3 := hW.cell 3; have q4 := hW.cell 4; have q5 := hW.cell 5; have q6 := hW.cell 6; clear hW; simp only [List.getElem?_toArray, List.getElem?_cons_zero, List.getElem?_cons_succ] at q0 q1 q2 q3 q4 q5 q6; go_simp; try with_reducible rfl) ?_
      refine wpS_do fun K1 hK1 => ?_
      have hb3 : Hid (Below w2.heap.size w2 (w2.alloc (.cells #[.int .u8 id, .int .u16 kind, .slice (some ⟨gw, 0, none⟩) sn (sn + 64), .int .i64 sf, .int .i64 su, .int .i64 tf, .int .i64 tu] 70))) := (Below.refl _ _).alloc (Nat.le_refl _) _
      have HR3 : Hid (Reads (w2.alloc (.cells #[.int .u8 id, .int .u16 kind, .slice (some ⟨gw, 0, none⟩) sn (sn + 64), .int .i64 sf, .int .i64 su, .int .i64 tf, .int .i64 tu] 70)) (w2.alloc (.cells #[.int .u8 id, .int .u16 kind, .slice (some ⟨gw, 0, none⟩) sn (sn + 64), .int .i64 sf, .int .i64 su, .int .i64 tf, .int .i64 tu] 70)).heap.size 7 (some ⟨w2.heap.size, 0, none⟩) 1 (AK.cells ⟨id, kind, some ⟨gw, 0, none⟩, sn, sn + 64, sf, su, tf, tu, bs⟩)) := key_row w2 ⟨id, kind, some ⟨gw, 0, none⟩, sn, sn + 64, sf, su, tf, tu, bs⟩
      go_wp2
      refine hK1.out _ _ (HS2.out.later hb3.out) ?_
      clear hK1 K1
      have HB3 := Lib.hid (below_then HB2.out hb3.out)
      have HO3 := Lib.hid (own_later HO2.out hb3.out)
      have HW3 : Hid (WdAll (w2.alloc (.cells #[.int .u8 id, .int .u16 kind, .slice (some ⟨gw, 0, none⟩) sn (sn + 64), .int .i64 sf, .int .i64 su, .int .i64 tf, .int .i64 tu] 70)) w.heap.size L L') := fun q k k' h1 h2 => (HW2.out q k k' h1 h2).later hb3.out
      have HBw3 : Hid (Blk (w2.alloc (.cells #[.int .u8 id, .int .u16 kind, .slice (some ⟨gw, 0, none⟩) sn (sn + 64), .int .i64 sf, .int .i64 su, .int .i64 tf, .int .i64 tu] 70)) gw 5 (u8s (wide bs)).toArray ∧ w.heap.size ≤ gw) := ⟨HBw.out.1.later hb3.out, HBw.out.2⟩
      have HS3 : Hid (Blk (w2.alloc (.cells #[.int .u8 id, .int .u16 kind, .slice (some ⟨gw, 0, none⟩) sn (sn + 64), .int .i64 sf, .int .i64 su, .int .i64 tf, .int .i64 tu] 70)) g0 70 #[.int .u8 id, .int .u16 kind, .slice S sn sc, .int .i64 sf, .int .i64 su, .int .i64 tf, .int .i64 tu]) := HS2.out.later hb3.out
      clear HB2 HO2 HW2 HBw HS2 hb3
      generalize w2.alloc (.cells #[.int .u8 id, .int .u16 kind, .slice (some ⟨gw, 0, none⟩) sn (sn + 64), .int .i64 sf, .int .i64 su, .int .i64 tf, .int .i64 tu] 70) = w3 at *
      generalize w2.heap.size = gn at *
      refine wpS_do fun K1 hK1 => ?_
      go_wp2_with (at_builtin; refine wpList_app el_akey rfl (.tmp 16) (.tmp 33) rfl HO3.out rfl HR3.out rfl key_one (by simp only [maxLen]; omega) (by omega) HB3.out.size ?_; intro v5 w5 ho5 hb5 hg5 _; have HO5 := Lib.hid ho5; have HB5 : Hid (Below w.heap.size w w5) := HB3.out.trans hb5; have HG5 := Lib.hid hg5; clear ho5 hb5 hg5)
      have HS5 : Hid (Blk w5 g0 70 #[.int .u8 id, .int .u16 kind, .slice S sn sc, .int .i64 sf, .int .i64 su, .int .i64 tf, .int .i64 tu]) := HS3.out.grown HG5.out (fun e => by have := HNE.out g0 e.symm; omega)
      have HW5 : Hid (WdAll w5 w.heap.size L (L' ++ [⟨id, kind, some ⟨gw, 0, none⟩, sn, sn + 64, sf, su, tf, tu, bs⟩])) := by
        intro q k k' h1 h2
        rcases Nat.lt_or_ge q i with hq | hq
        · rw [List.getElem?_append_left (by omega)] at h2
          exact (HW3.out q k k' h1 h2).grown HO3.out HG5.out
        · rw [List.getElem?_append_right (by omega), hl'] at h2
          have hz : q - i = 0 := by
            have := (List.getElem?_eq_some_iff.1 h2).1
            simp at this; omega
          rw [hz] at h2
          obtain rfl : q = i := by omega
          simp at h2
          subst h2
          have : some k = some _ := h1.symm.trans hk.out
          injection this with this
          subst this
          exact ⟨rfl, rfl, rfl, rfl, rfl, rfl, rfl, rfl, gw, rfl, rfl, HBw3.out.2, HBw3.out.1.grown HG5.out (fun e => own_blk_ne HO3.out HBw3.out.1 (by decide) e.symm)⟩
      refine hK1.out _ _ HS5.out ?_
      clear hK1 K1
      refine wpS_take HS5 (by kernel_rfl) (by intro W hW; clear hW; go_simp; try with_reducible rfl) ?_
      refine wpS_nil ?_
      go_simp
      have HO6 : Hid (w5.ownsRow w.heap.size 70 7 v5 (i + 1) ((L' ++ [(⟨id, kind, some ⟨gw, 0, none⟩, sn, sn + 64, sf, su, tf, tu, bs⟩ : AK)]).flatMap AK.cells)) := by
        have h := HO5.out
        show World.ownsRow _ _ _ _ _ _ _
        rw [List.flatMap_append]
        simpa using h
      clear HO5 HO3 HW3 HBw3 HS3 HR3
      go_wp2
      go_roundw
      case rel => exact ⟨i + 1, _, by simp, by omega, by simp [hl'], HO6.out, HW5.out, HB5.out⟩
      case measure => simp [intOf]; omega
    · obtain rfl : i = n := by omega
      go_wp2
      go_ret
      exact ⟨_, L', rfl, hl', HO.out, HW.out, HB.out⟩
end Go.Proofs.Ytkgdeneonobibaa
