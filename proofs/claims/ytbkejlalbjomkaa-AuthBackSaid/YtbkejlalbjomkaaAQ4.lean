/-
  Chains of keys: the law's given, walked.
  Chains of keys: what Check and Choose say of a chain and of the law's own copy of it is the same.
  Chains of keys: the law's heavy, walked.
  What a chain of keys is, as an argument, and how long its secrets are.
-/
import Derived.Test.YtbkejlalbjomkaaAQ1
import Derived.Test.YtbkejlalbjomkaaRefW
import Derived.ChangeArms
import Derived.WideShapes
import Derived.OpenShut
import Derived.RowKit
import Derived.SizedLaws
namespace Go.Proofs.Ytbkejlalbjomkaa
set_option linter.unusedVariables false
open Go.RowKit

theorem info_akey : (Try.prog.info? 59).map (fun i => (i.zero, i.size, i.bytes)) = some (some (.agg #[.int .u8 0, .int .u16 0, .slice none 0 0, .int .i64 0, .int .i64 0, .int .i64 0, .int .i64 0]), 7, 64) := by kernel_rfl
theorem el_akey : El Try.prog 61 59 7 64 := El.mk' Try.underlying61 info_akey rfl (by omega)
/-- The same key, its secret a list of the program's own with marks behind. -/
structure Wd (W : World) (base : Nat) (k k' : AK) : Prop where
  id : k'.id = k.id
  kind : k'.kind = k.kind
  n : k'.n = k.n
  sf : k'.sf = k.sf
  su : k'.su = k.su
  tf : k'.tf = k.tf
  tu : k'.tu = k.tu
  bs : k'.bs = k.bs
  own : ∃ g, k'.A = some ⟨g, 0, none⟩ ∧ k'.c = k.n + 64 ∧ base ≤ g ∧ Blk W g 5 (u8s (wide k.bs)).toArray
theorem Wd.later {W W' : World} {base : Nat} {k k' : AK} (h : Wd W base k k') (hb : Below W.heap.size W W') : Wd W' base k k' :=
  ⟨h.id, h.kind, h.n, h.sf, h.su, h.tf, h.tu, h.bs, by obtain ⟨g, h1, h2, h3, h4⟩ := h.own; exact ⟨g, h1, h2, h3, h4.later hb⟩⟩
theorem Wd.grown {W W' : World} {base b : Nat} {k k' : AK} {v : Value} {n : Nat} {xs : List Value} (h : Wd W base k k') (ho : W.ownsRow b 59 7 v n xs) (hg : W.grownBy W' v.ownBlock) : Wd W' base k k' :=
  ⟨h.id, h.kind, h.n, h.sf, h.su, h.tf, h.tu, h.bs, by obtain ⟨g, h1, h2, h3, h4⟩ := h.own; exact ⟨g, h1, h2, h3, h4.grown hg (fun e => own_blk_ne ho h4 (by decide) e.symm)⟩⟩
/-- Two chains, key by key. -/
def WdAll (W : World) (base : Nat) (L L' : List AK) : Prop := ∀ (q : Nat) (k k' : AK), L[q]? = some k → L'[q]? = some k' → Wd W base k k'
def GvRel (w : World) (L : List AK) (n : Nat) (i v : Value) (wr : World) : Prop :=
  ∃ (j : Nat) (L' : List AK), i = .int .i64 j ∧ j ≤ n ∧ L'.length = j ∧ wr.ownsRow w.heap.size 59 7 v j (L'.flatMap AK.cells) ∧ WdAll wr w.heap.size L L' ∧ Below w.heap.size w wr
def GvAt (w w' : World) (L : List AK) (n : Nat) (e : Ending) : Prop :=
  ∃ (v : Value) (L' : List AK), e = .returned v ∧ L'.length = n ∧ w'.ownsRow w.heap.size 59 7 v n (L'.flatMap AK.cells) ∧ WdAll w' w.heap.size L L' ∧ Below w.heap.size w w'
theorem own_later {b n : Nat} {w w' : World} {v : Value} {xs : List Value} (h : w.ownsRow b 59 7 v n xs) (hb : Below w.heap.size w w') : w'.ownsRow b 59 7 v n xs := own_kept h (Kept.of_new hb (fun _ => False)) (fun _ _ h => h)
theorem key_one {k : AK} : ∀ u ∈ k.cells, u.oneCell' = true := by
  intro u hu
  simp [AK.cells] at hu
  rcases hu with rfl | rfl | rfl | rfl | rfl | rfl | rfl <;> rfl
theorem key_row (w : World) (k : AK) : Reads (w.alloc (.cells k.cells.toArray 59)) (w.alloc (.cells k.cells.toArray 59)).heap.size 7 (some ⟨w.heap.size, 0, none⟩) 1 k.cells :=
  ⟨rfl, fun _ => ⟨_, rfl, by rw [World.size_alloc]; exact Nat.lt_succ_self _, fun j u hu => by rw [add_none, Nat.zero_add, (Blk.new w 59 k.cells.toArray).cell j, List.getElem?_toArray]; exact hu⟩⟩
theorem own_nilK {w : World} {b : Nat} : w.ownsRow b 59 7 (.slice none 0 0) 0 [] := World.ownsRow_nil _ _ _ _
set_option maxRecDepth 100000 in
set_option maxHeartbeats 4000000 in
theorem given_any (A : Option Addr) (n c : Nat) (L : List AK) (w : World) (hL : Keys w A n L) (hn : n ≤ 131072) (hs : ∀ k ∈ L, k.n ≤ 131072) :
    Calls Try.prog 24 #[.slice A n c] w fun e w' => GvAt w w' L n e := by
  have HL := Lib.hid hL
  have HN := Lib.hid hs
  clear hL hs
  go_enter Try.func24, Try.ntmps24
  go_wp2
  go_loopw [4, 3] (GvRel w L n) (fun i _ _ => n - (intOf i).toNat)
  case atStart => exact ⟨0, [], rfl, by omega, rfl, own_nilK, fun q k k' _ h => by simp at h, Below.refl _ _⟩
  case round =>
    obtain ⟨i, L', rfl, hi, hl', hown, hwd, hb⟩ := hrel
    have HB := Lib.hid hb
    have HO := Lib.hid hown
    have HW := Lib.hid hwd
    clear hb hown hwd
    by_cases hlt : i < n
    · obtain ⟨ad, k, rfl, hbl, hk, hok, c0, c1, c2, c3, c4, c5, c6⟩ := (HL.out.later HB.out).at_ hlt
      have hkn := HN.out k (List.mem_of_getElem? hk.out)
      obtain ⟨id, kind, S, sn, sc, sf, su, tf, tu, bs⟩ := k
      simp only at c0 c1 c2 c3 c4 c5 c6 hkn
      have hbl2 : bs.length = sn := hok.out.sec.u8len
      have HX : Hid (Reads wr wr.heap.size 1 S sn (u8s bs)) := hok.out.sec
      clear hok
      go_wp2
      have hb1 : Hid (Below wr.heap.size wr (wr.alloc (.cells #[.int .u8 id, .int .u16 kind, .slice S sn sc, .int .i64 sf, .int .i64 su, .int .i64 tf, .int .i64 tu] 59)).drew) := ((Below.refl _ _).alloc (Nat.le_refl _) _).drew
      have HS : Hid ((fun W : World => Blk W wr.heap.size 59 #[.int .u8 id, .int .u16 kind, .slice S sn sc, .int .i64 sf, .int .i64 su, .int .i64 tf, .int .i64 tu]) (wr.alloc (.cells #[.int .u8 id, .int .u16 kind, .slice S sn sc, .int .i64 sf, .int .i64 su, .int .i64 tf, .int .i64 tu] 59)).drew) := Blk.new _ _ _
      refine wp_region_s (fun W : World => Blk W wr.heap.size 59 #[.int .u8 id, .int .u16 kind, .slice S sn sc, .int .i64 sf, .int .i64 su, .int .i64 tf, .int .i64 tu]) [(0, true), (1, true), (3, true), (5, true), (8, true), (10, true), (12, true), (14, true), (2, true), (4, true), (6, true), (9, true), (11, true), (13, true), (15, true), (7, false), (16, true), (17, false), (18, false), (19, true)] (by kernel_rfl) (fun _ d _ _ _ h => by cases d <;> exact h) ?_
      simp only [List.map_cons, List.map_nil, nthOp_zero, nthOp_succ]
      have HB1 := Lib.hid (below_then HB.out hb1.out)
      have HO1 := Lib.hid (own_later HO.out hb1.out)
      have HW1 : Hid (WdAll (wr.alloc (.cells #[.int .u8 id, .int .u16 kind, .slice S sn sc, .int .i64 sf, .int .i64 su, .int .i64 tf, .int .i64 tu] 59)).drew w.heap.size L L') := fun q k k' h1 h2 => (HW.out q k k' h1 h2).later hb1.out
      have HX1 := Lib.hid (HX.out.later hb1.out)
      have HNE := Lib.hid (fun (b : Nat) (hb : _ = some b) => (own_ge HO.out hb).2)
      clear HB HO HW HX hb1 c0 c1 c2 c3 c4 c5 c6
      generalize (wr.alloc (.cells #[.int .u8 id, .int .u16 kind, .slice S sn sc, .int .i64 sf, .int .i64 su, .int .i64 tf, .int .i64 tu] 59)).drew = w1 at *
      generalize wr.heap.size = g0 at *
      refine wpS_take HS (by kernel_rfl) (by intro W hW; have q0 := hW.cell 0; have q1 := hW.cell 1; have q2 := hW.cell 2; have q3 := hW.cell 3; have q4 := hW.cell 4; have q5 := hW.cell 5; have q6 := hW.cell 6; clear hW; simp only [List.getElem?_toArray, List.getElem?_cons_zero, List.getElem?_cons_succ] at q0 q1 q2 q3 q4 q5 q6; go_simp; try with_reducible rfl) ?_
      refine wpS_take HS (by kernel_rfl) (by intro W hW; have q0 := hW.cell 0; have q1 := hW.cell 1; have q2 := hW.cell 2; have q3 := hW.cell 3; have q4 := hW.cell 4; have q5 := hW.cell 5; have q6 := hW.cell 6; clear hW; simp only [List.getElem?_toArray, List.getElem?_cons_zero, List.getElem?_cons_succ] at q0 q1 q2 q3 q4 q5 q6; go_simp; try with_reducible rfl) ?_
      refine wpS_take HS (by kernel_rfl) (by intro W hW; have q0 := hW.cell 0; have q1 := hW.cell 1; have q2 := hW.cell 2; have q3 := hW.cell 3; have q4 := hW.cell 4; have q5 := hW.cell 5; have q6 := hW.cell 6; clear hW; simp only [List.getElem?_toArray, List.getElem?_cons_zero, List.getElem?_cons_succ] at q0 q1 q2 q3 q4 q5 q6; go_simp; try with_reducible rfl) ?_
      refine wpS_take HS (by kernel_rfl) (by intro W hW; have q0 := hW.cell 0; have q1 := hW.cell 1; have q2 := hW.cell 2; have q3 := hW.cell 3; have q4 := hW.cell 4; have q5 := hW.cell 5; have q6 := hW.cell 6; clear hW; simp only [List.getElem?_toArray, List.getElem?_cons_zero, List.getElem?_cons_succ] at q0 q1 q2 q3 q4 q5 q6; go_simp; try with_reducible rfl) ?_
      refine wpS_take HS (by kernel_rfl) (by intro W hW; have q0 := hW.cell 0; have q1 := hW.cell 1; have q2 := hW.cell 2; have q3 := hW.cell 3; have q4 := hW.cell 4; have q5 := hW.cell 5; have q6 := hW.cell 6; clear hW; simp only [List.getElem?_toArray, List.getElem?_cons_zero, List.getElem?_cons_succ] at q0 q1 q2 q3 q4 q5 q6; go_simp; try with_reducible rfl) ?_
      refine wpS_take HS (by kernel_rfl) (by intro W hW; have q0 := hW.cell 0; have q1 := hW.cell 1; have q2 := hW.cell 2; have q3 := hW.cell 3; have q4 := hW.cell 4; have q5 := hW.cell 5; have q6 := hW.cell 6; clear hW; simp only [List.getElem?_toArray, List.getElem?_cons_zero, List.getElem?_cons_succ] at q0 q1 q2 q3 q4 q5 q6; go_simp; try with_reducible rfl) ?_
      refine wpS_take HS (by kernel_rfl) (by intro W hW; have q0 := hW.cell 0; have q1 := hW.cell 1; have q2 := hW.cell 2; have q3 := hW.cell 3; have q4 := hW.cell 4; have q5 := hW.cell 5; have q6 := hW.cell 6; clear hW; simp only [List.getElem?_toArray, List.getElem?_cons_zero, List.getElem?_cons_succ] at q0 q1 q2 q3 q4 q5 q6; go_simp; try with_reducible rfl) ?_
      refine wpS_take HS (by kernel_rfl) (by intro W hW; have q0 := hW.cell 0; have q1 := hW.cell 1; have q2 := hW.cell 2; have q3 := hW.cell 3; have q4 := hW.cell 4; have q5 := hW.cell 5; have q6 := hW.cell 6; clear hW; simp only [List.getElem?_toArray, List.getElem?_cons_zero, List.getElem?_cons_succ] at q0 q1 q2 q3 q4 q5 q6; go_simp; try with_reducible rfl) ?_
      refine wpS_take HS (by kernel_rfl) (by intro W hW; have q0 := hW.cell 0; have q1 := hW.cell 1; have q2 := hW.cell 2; have q3 := hW.cell 3; have q4 := hW.cell 4; have q5 := hW.cell 5; have q6 := hW.cell 6; clear hW; simp only [List.getElem?_toArray, List.getElem?_cons_zero, List.getElem?_cons_succ] at q0 q1 q2 q3 q4 q5 q6; go_simp; try with_reducible rfl) ?_
      refine wpS_take HS (by kernel_rfl) (by intro W hW; have q0 := hW.cell 0; have q1 := hW.cell 1; have q2 := hW.cell 2; have q3 := hW.cell 3; have q4 := hW.cell 4; have q5 := hW.cell 5; have q6 := hW.cell 6; clear hW; simp only [List.getElem?_toArray, List.getElem?_cons_zero, List.getElem?_cons_succ] at q0 q1 q2 q3 q4 q5 q6; go_simp; try with_reducible rfl) ?_
      refine wpS_take HS (by kernel_rfl) (by intro W hW; have q0 := hW.cell 0; have q1 := hW.cell 1; have q2 := hW.cell 2; have q3 := hW.cell 3; have q4 := hW.cell 4; have q5 := hW.cell 5; have q6 := hW.cell 6; clear hW; simp only [List.getElem?_toArray, List.getElem?_cons_zero, List.getElem?_cons_succ] at q0 q1 q2 q3 q4 q5 q6; go_simp; try with_reducible rfl) ?_
      refine wpS_take HS (by kernel_rfl) (by intro W hW; have q0 := hW.cell 0; have q1 := hW.cell 1; have q2 := hW.cell 2; have q3 := hW.cell 3; have q4 := hW.cell 4; have q5 := hW.cell 5; have q6 := hW.cell 6; clear hW; simp only [List.getElem?_toArray, List.getElem?_cons_zero, List.getElem?_cons_succ] at q0 q1 q2 q3 q4 q5 q6; go_simp; try with_reducible rfl) ?_
      refine wpS_take HS (by kernel_rfl) (by intro W hW; have q0 := hW.cell 0; have q1 := hW.cell 1; have q2 := hW.cell 2; have q3 := hW.cell 3; have q4 := hW.cell 4; have q5 := hW.cell 5; have q6 := hW.cell 6; clear hW; simp only [List.getElem?_toArray, List.getElem?_cons_zero, List.getElem?_cons_succ] at q0 q1 q2 q3 q4 q5 q6; go_simp; try with_reducible rfl) ?_
      refine wpS_take HS (by kernel_rfl) (by intro W hW; have q0 := hW.cell 0; have q1 := hW.cell 1; have q2 := hW.cell 2; have q3 := hW.cell 3; have q4 := hW.cell 4; have q5 := hW.cell 5; have q6 := hW.cell 6; clear hW; simp only [List.getElem?_toArray, List.getElem?_cons_zero, List.getElem?_cons_succ] at q0 q1 q2 q3 q4 q5 q6; go_simp; try with_reducible rfl) ?_
      refine wpS_take HS (by kernel_rfl) (by intro W hW; have q0 := hW.cell 0; have q1 := hW.cell 1; have q2 := hW.cell 2; have q3 := hW.cell 3; have q4 := hW.cell 4; have q5 := hW.cell 5; have q6 := hW.cell 6; clear hW; simp only [List.getElem?_toArray, List.getElem?_cons_zero, List.getElem?_cons_succ] at q0 q1 q2 q3 q4 q5 q6; go_simp; try with_reducible rfl) ?_
      refine wpS_do fun K1 hK1 => ?_
      go_wp2_with fail
      refine (wideBytes_any S sn sc bs w1 HX1.out (by omega)).mono ?_
      rintro e w2 ⟨gw, rfl, hgw, hbw, hb⟩
      have HS2 : Hid (Blk w2 g0 59 #[.int .u8 id, .int .u16 kind, .slice S sn sc, .int .i64 sf, .int .i64 su, .int .i64 tf, .int .i64 tu]) := HS.out.later hb
      have HBw : Hid (Blk w2 gw 5 (u8s (wide bs)).toArray ∧ w.heap.size ≤ gw) := ⟨hbw, Nat.le_trans HB1.out.size hgw⟩
      have HB2 := Lib.hid (below_then HB1.out hb)
      have HO2 := Lib.hid (own_later HO1.out hb)
      have HW2 : Hid (WdAll w2 w.heap.size L L') := fun q k k' h1 h2 => (HW1.out q k k' h1 h2).later hb
      clear hb hbw hgw HB1 HO1 HW1 HX1 HS
      go_wp2
      refine hK1.out _ _ HS2.out ?_
      clear hK1 K1
      refine wpS_take HS2 (by kernel_rfl) (by intro W hW; have q0 := hW.cell 0; have q1 := hW.cell 1; have q2 := hW.cell 2; have q3 := hW.cell 3; have q4 := hW.cell 4; have q5 := hW.cell 5; have q6 := hW.cell 6; clear hW; simp only [List.getElem?_toArray, List.getElem?_cons_zero, List.getElem?_cons_succ] at q0 q1 q2 q3 q4 q5 q6; go_simp; try with_reducible rfl) ?_
      refine wpS_do fun K1 hK1 => ?_
      have hb3 : Hid (Below w2.heap.size w2 (w2.alloc (.cells #[.int .u8 id, .int .u16 kind, .slice (some ⟨gw, 0, none⟩) sn (sn + 64), .int .i64 sf, .int .i64 su, .int .i64 tf, .int .i64 tu] 59))) := (Below.refl _ _).alloc (Nat.le_refl _) _
      have HR3 : Hid (Reads (w2.alloc (.cells #[.int .u8 id, .int .u16 kind, .slice (some ⟨gw, 0, none⟩) sn (sn + 64), .int .i64 sf, .int .i64 su, .int .i64 tf, .int .i64 tu] 59)) (w2.alloc (.cells #[.int .u8 id, .int .u16 kind, .slice (some ⟨gw, 0, none⟩) sn (sn + 64), .int .i64 sf, .int .i64 su, .int .i64 tf, .int .i64 tu] 59)).heap.size 7 (some ⟨w2.heap.size, 0, none⟩) 1 (AK.cells ⟨id, kind, some ⟨gw, 0, none⟩, sn, sn + 64, sf, su, tf, tu, bs⟩)) := key_row w2 ⟨id, kind, some ⟨gw, 0, none⟩, sn, sn + 64, sf, su, tf, tu, bs⟩
      go_wp2
      refine hK1.out _ _ (HS2.out.later hb3.out) ?_
      clear hK1 K1
      have HB3 := Lib.hid (below_then HB2.out hb3.out)
      have HO3 := Lib.hid (own_later HO2.out hb3.out)
      have HW3 : Hid (WdAll (w2.alloc (.cells #[.int .u8 id, .int .u16 kind, .slice (some ⟨gw, 0, none⟩) sn (sn + 64), .int .i64 sf, .int .i64 su, .int .i64 tf, .int .i64 tu] 59)) w.heap.size L L') := fun q k k' h1 h2 => (HW2.out q k k' h1 h2).later hb3.out
      have HBw3 : Hid (Blk (w2.alloc (.cells #[.int .u8 id, .int .u16 kind, .slice (some ⟨gw, 0, none⟩) sn (sn + 64), .int .i64 sf, .int .i64 su, .int .i64 tf, .int .i64 tu] 59)) gw 5 (u8s (wide bs)).toArray ∧ w.heap.size ≤ gw) := ⟨HBw.out.1.later hb3.out, HBw.out.2⟩
      have HS3 : Hid (Blk (w2.alloc (.cells #[.int .u8 id, .int .u16 kind, .slice (some ⟨gw, 0, none⟩) sn (sn + 64), .int .i64 sf, .int .i64 su, .int .i64 tf, .int .i64 tu] 59)) g0 59 #[.int .u8 id, .int .u16 kind, .slice S sn sc, .int .i64 sf, .int .i64 su, .int .i64 tf, .int .i64 tu]) := HS2.out.later hb3.out
      clear HB2 HO2 HW2 HBw HS2 hb3
      generalize w2.alloc (.cells #[.int .u8 id, .int .u16 kind, .slice (some ⟨gw, 0, none⟩) sn (sn + 64), .int .i64 sf, .int .i64 su, .int .i64 tf, .int .i64 tu] 59) = w3 at *
      generalize w2.heap.size = gn at *
      refine wpS_do fun K1 hK1 => ?_
      go_wp2_with (at_builtin; refine wpList_app el_akey rfl (.tmp 16) (.tmp 33) rfl HO3.out rfl HR3.out rfl key_one (by simp only [maxLen]; omega) (by omega) HB3.out.size ?_; intro v5 w5 ho5 hb5 hg5 _; have HO5 := Lib.hid ho5; have HB5 : Hid (Below w.heap.size w w5) := HB3.out.trans hb5; have HG5 := Lib.hid hg5; clear ho5 hb5 hg5)
      have HS5 : Hid (Blk w5 g0 59 #[.int .u8 id, .int .u16 kind, .slice S sn sc, .int .i64 sf, .int .i64 su, .int .i64 tf, .int .i64 tu]) := HS3.out.grown HG5.out (fun e => by have := HNE.out g0 e.symm; omega)
      have HW5 : Hid (WdAll w5 w.heap.size L (L' ++ [⟨id, kind, some ⟨gw, 0, none⟩, sn, sn + 64, sf, su, tf, tu, bs⟩])) := by
        intro q k k' h1 h2
        rcases Nat.lt_or_ge q i with hq | hq
        · rw [List.getElem?_append_left (by omega)] at h2
          exact (HW3.out q k k' h1 h2).grown HO3.out HG5.out
        · rw [List.getElem?_append_right (by omega), hl'] at h2
          have hz : q - i = 0 := by
            have := (List.getElem?_eq_some_iff.1 h2).1
            simp at this; omega
          rw [hz] at h2
          obtain rfl : q = i := by omega
          simp at h2
          subst h2
          have : some k = some _ := h1.symm.trans hk.out
          injection this with this
          subst this
          exact ⟨rfl, rfl, rfl, rfl, rfl, rfl, rfl, rfl, gw, rfl, rfl, HBw3.out.2, HBw3.out.1.grown HG5.out (fun e => own_blk_ne HO3.out HBw3.out.1 (by decide) e.symm)⟩
      refine hK1.out _ _ HS5.out ?_
      clear hK1 K1
      refine wpS_take HS5 (by kernel_rfl) (by intro W hW; clear hW; go_simp; try with_reducible rfl) ?_
      refine wpS_nil ?_
      go_simp
      have HO6 : Hid (w5.ownsRow w.heap.size 59 7 v5 (i + 1) ((L' ++ [(⟨id, kind, some ⟨gw, 0, none⟩, sn, sn + 64, sf, su, tf, tu, bs⟩ : AK)]).flatMap AK.cells)) := by
        have h := HO5.out
        show World.ownsRow _ _ _ _ _ _ _
        rw [List.flatMap_append]
        simpa using h
      clear HO5 HO3 HW3 HBw3 HS3 HR3
      go_wp2
      go_roundw
      case rel => exact ⟨i + 1, _, by simp, by omega, by simp [hl'], HO6.out, HW5.out, HB5.out⟩
      case measure => simp [intOf]; omega
    · obtain rfl : i = n := by omega
      go_wp2
      go_ret
      exact ⟨_, L', rfl, hl', HO.out, HW.out, HB.out⟩
end Go.Proofs.Ytbkejlalbjomkaa
namespace Go.Proofs.Ytbkejlalbjomkaa
set_option linter.unusedVariables false
open Go.RowKit

/-- What counts of a key. -/
def AK.core (k : AK) : Int × Int × Nat × Int × Int × Int × Int := (k.id, k.kind, k.n, k.sf, k.su, k.tf, k.tu)
theorem core_may {k k' : AK} (h : k'.core = k.core) : mayB k' = mayB k := by
  unfold AK.core at h
  simp only [Prod.mk.injEq] at h
  obtain ⟨h1, h2, h3, h4, h5, h6, h7⟩ := h
  unfold mayB
  rw [h2, h3, h4, h5, h6, h7]
theorem core_kind {k k' : AK} (h : k'.core = k.core) : k'.kind = k.kind := by
  unfold AK.core at h
  simp only [Prod.mk.injEq] at h
  exact h.2.1
theorem core_id {k k' : AK} (h : k'.core = k.core) : k'.id = k.id := by
  unfold AK.core at h
  simp only [Prod.mk.injEq] at h
  exact h.1
theorem core_get {L L' : List AK} (h : L'.map AK.core = L.map AK.core) (i : Nat) : (L'[i]? = none ∧ L[i]? = none) ∨ ∃ k' k, L'[i]? = some k' ∧ L[i]? = some k ∧ k'.core = k.core := by
  have e : (L'.map AK.core)[i]? = (L.map AK.core)[i]? := by rw [h]
  rw [List.getElem?_map, List.getElem?_map] at e
  cases h1 : L'[i]? <;> cases h2 : L[i]? <;> rw [h1, h2] at e
  · exact .inl ⟨rfl, rfl⟩
  · simp at e
  · simp at e
  · simp at e
    exact .inr ⟨_, _, rfl, rfl, e⟩
theorem core_kind0 {L L' : List AK} (h : L'.map AK.core = L.map AK.core) : kind0 L' = kind0 L := by
  cases L <;> cases L' <;> simp at h
  · rfl
  · exact core_kind h.1
theorem core_any {L L' : List AK} (h : L'.map AK.core = L.map AK.core) (i : Nat) (x : Int) : (L'.take i).any (fun o => o.id == x) = (L.take i).any (fun o => o.id == x) := by
  have e : ∀ M : List AK, M.any (fun o => o.id == x) = (M.map AK.core).any (fun c => c.1 == x) := fun M => by
    rw [List.any_map]; rfl
  rw [e, e, List.map_take, List.map_take, h]
theorem core_check {L L' : List AK} (h : L'.map AK.core = L.map AK.core) : checkOf L' = checkOf L := by
  have hl : L'.length = L.length := by have := congrArg List.length h; simpa using this
  have hf : ∀ f i, checkFrom L' f i = checkFrom L f i := by
    intro f
    induction f with
    | zero => intro i; rfl
    | succ f ih =>
      intro i
      unfold checkFrom
      rcases core_get h i with ⟨h1, h2⟩ | ⟨k', k, h1, h2, hc⟩
      · rw [h1, h2]
      · rw [h1, h2]
        simp only
        have hb : badB L' k' = badB L k := by unfold badB; rw [core_may hc, core_kind hc, core_kind0 h]
        rw [hb, core_id hc, core_any h, ih]
  unfold checkOf
  rw [hl, hf]
theorem core_choose {L L' : List AK} (now : Int) (h : L'.map AK.core = L.map AK.core) : chooseOf L' now = chooseOf L now := by
  have hl : L'.length = L.length := by have := congrArg List.length h; simpa using this
  have hb : ∀ b k' k, k'.core = k.core → better L' b k' = better L b k := by
    intro b k' k hc
    unfold better
    unfold AK.core at hc
    simp only [Prod.mk.injEq] at hc
    obtain ⟨a1, a2, a3, a4, a5, a6, a7⟩ := hc
    rcases core_get h b.toNat with ⟨h1, h2⟩ | ⟨o', o, h1, h2, ho⟩
    · rw [h1, h2]
    · unfold AK.core at ho
      simp only [Prod.mk.injEq] at ho
      obtain ⟨b1, b2, b3, b4, b5, b6, b7⟩ := ho
      rw [h1, h2]
      simp only
      rw [a1, a4, b1, b4]
  have hf : ∀ i, chooseTo L' now i = chooseTo L now i := by
    intro i
    induction i with
    | zero => rfl
    | succ i ih =>
      unfold chooseTo
      rcases core_get h i with ⟨h1, h2⟩ | ⟨k', k, h1, h2, hc⟩
      · rw [h1, h2]; exact ih
      · rw [h1, h2, ih]
        simp only
        rw [hb _ _ _ hc]
        unfold AK.core at hc
        simp only [Prod.mk.injEq] at hc
        rw [hc.2.2.2.1, hc.2.2.2.2.1]
  unfold chooseOf
  rw [hl, hf]
theorem core_of {W : World} {b : Nat} {L L' : List AK} (h : WdAll W b L L') (hl : L'.length = L.length) : L'.map AK.core = L.map AK.core := by
  refine List.ext_getElem? fun i => ?_
  rw [List.getElem?_map, List.getElem?_map]
  cases h1 : L'[i]? with
  | none =>
    have : L[i]? = none := by rw [List.getElem?_eq_none_iff] at h1 ⊢; omega
    rw [this]
  | some k' =>
    have hi := (List.getElem?_eq_some_iff.1 h1).1
    have h2 : L[i]? = some L[i] := List.getElem?_eq_getElem (by omega)
    have hw := h i _ _ h2 h1
    rw [h2]
    simp only [Option.map_some]
    unfold AK.core
    rw [hw.id, hw.kind, hw.n, hw.sf, hw.su, hw.tf, hw.tu]
theorem keys_of_given {W : World} {b n : Nat} {v : Value} {A : Option Addr} {L L' : List AK} (hL : Keys W A n L) (hs : ∀ k ∈ L, k.n ≤ 131072) (hl : L'.length = n) (ho : W.ownsRow b 59 7 v n (L'.flatMap AK.cells)) (hw : WdAll W b L L') :
    ∃ A' c', v = .slice A' n c' ∧ Keys W A' n L' ∧ n ≤ c' ∧ c' ≤ 9223372036854775807 := by
  have hok : ∀ k' ∈ L', KOk W k' := by
    intro k' hk'
    obtain ⟨i, hi⟩ := List.getElem?_of_mem hk'
    have hlt := (List.getElem?_eq_some_iff.1 hi).1
    obtain ⟨k, hk⟩ : ∃ k, L[i]? = some k := ⟨_, List.getElem?_eq_getElem (by rw [hL.len]; omega)⟩
    have w := hw i _ _ hk hi
    have hm := List.mem_of_getElem? hk
    have ok := hL.ok k hm
    have hn := hs k hm
    obtain ⟨g, hA, hc, _, hB⟩ := w.own
    have hbl : k.bs.length = k.n := ok.sec.u8len
    refine ⟨by rw [w.id]; exact ok.id, by rw [w.kind]; exact ok.kind, ?_, by rw [w.bs]; exact ok.oct, by rw [w.n, hc]; omega, by rw [hc]; omega⟩
    rw [hA, w.n, w.bs]
    have h1 := (Blk.reads (xs := u8s (wide k.bs)) hB (n := k.n) (by rw [u8s_length, wide_length]; omega)).more (B' := W.heap.size) hB.lt
    rwa [u8s_take, ← hbl, wide_take, hbl] at h1
  rcases ho.2 with ⟨hv, h0⟩ | ⟨g, cap, cur, hv, _, hc, h1, h2, h3, h4⟩
  · subst h0
    exact ⟨none, 0, hv, ⟨⟨by rw [ho.1], fun h => absurd h (by omega)⟩, hl, hok⟩, Nat.le_refl _, by omega⟩
  · refine ⟨_, cap, hv, ⟨⟨ho.1, fun h => ⟨_, rfl, (Blk.lt (show Blk W g 59 cur from hc)), fun j u hu => ?_⟩⟩, hl, hok⟩, h1, h2⟩
    rw [add_none, Nat.zero_add, Blk.cell (show Blk W g 59 cur from hc) j]
    rw [← h4, List.getElem?_take] at hu
    split at hu
    · simpa using hu
    · cases hu
end Go.Proofs.Ytbkejlalbjomkaa
namespace Go.Proofs.Ytbkejlalbjomkaa
set_option linter.unusedVariables false
open Go.RowKit

def HvRel (w : World) (L : List AK) (bn n : Nat) (a i : Value) (wr : World) : Prop :=
  ∃ j acc : Nat, i = .int .i64 j ∧ a = .int .i64 acc ∧ j ≤ n ∧ bn + j ≤ acc ∧ acc ≤ 140737488500000 ∧ Hid (∀ k ∈ L.take j, k.n ≤ acc) ∧ wr = w
def HvAt (w w' : World) (L : List AK) (bn n : Nat) (e : Ending) : Prop := ∃ h : Bool, e = .returned (.bool h) ∧ w = w' ∧ (h = false → bn ≤ 131072 ∧ n ≤ 131072 ∧ ∀ k ∈ L, k.n ≤ 131072)
set_option maxHeartbeats 2000000 in
theorem heavy8_any (B A : Option Addr) (bn bc n c : Nat) (L : List AK) (w : World) (hL : Keys w A n L) (hbn : bn ≤ 140737488351232) (hs : ∀ k ∈ L, k.n ≤ 140737488351232) (hn : n ≤ 9223372036854775807) :
    Calls Try.prog 21 #[.slice B bn bc, .slice A n c] w fun e w' => HvAt w w' L bn n e := by
  have HL := Lib.hid hL
  have HN := Lib.hid hs
  clear hL hs
  go_enter Try.func21, Try.ntmps21
  go_wp2
  go_loopw [5, 6] (HvRel w L bn n) (fun _ i _ => n - (intOf i).toNat)
  case atStart => exact ⟨0, bn, rfl, rfl, by omega, by omega, by omega, by simp [Hid], rfl⟩
  case round =>
    obtain ⟨j, acc, rfl, rfl, hj, ha, hb, hk, rfl⟩ := hrel
    by_cases hlt : j < n
    · by_cases hle : (acc : Int) ≤ 131072
      · obtain ⟨ad, k, rfl, _, hkj, hok, c0, c1, c2, c3, c4, c5, c6⟩ := HL.out.at_ hlt
        have hkn := HN.out k (List.mem_of_getElem? hkj.out)
        obtain ⟨id, kind, S, sn, sc, sf, su, tf, tu, bs⟩ := k
        simp only at c0 c1 c2 c3 c4 c5 c6 hkn
        have w1 : IntKind.i64.wrap ((acc : Int) + 1) = (acc : Int) + 1 := IntWalk.i64_in _ (by omega)
        have w2 : IntKind.i64.wrap ((acc : Int) + 1 + (sn : Int)) = (acc : Int) + 1 + (sn : Int) := IntWalk.i64_in _ (by omega)
        clear hok
        go_wp2
        go_roundw
        case rel =>
          refine ⟨j + 1, acc + 1 + sn, by simp, by simp, by omega, by omega, by omega, ?_, rfl⟩
          intro k hk2
          rw [List.take_add_one, List.mem_append] at hk2
          rcases hk2 with h | h
          · have := hk.out k h; omega
          · rw [hkj.out] at h
            simp at h
            subst h
            show sn ≤ _
            omega
        case measure => simp [intOf]; omega
      · have d1 : decide ((acc : Int) ≤ 131072) = false := decide_eq_false hle
        have d2 : decide (131072 < (acc : Int)) = true := decide_eq_true (by omega)
        go_wp2
        go_ret
        exact ⟨true, rfl, rfl, fun h => by cases h⟩
    · obtain rfl : j = n := by omega
      have hall : Hid (∀ k ∈ L, k.n ≤ acc) := by
        have h := hk.out
        rwa [List.take_of_length_le (by rw [HL.out.len]; exact Nat.le_refl _)] at h
      by_cases hle : (acc : Int) ≤ 131072
      · have d2 : decide (131072 < (acc : Int)) = false := decide_eq_false (by omega)
        go_wp2
        go_ret
        exact ⟨false, rfl, rfl, fun _ => ⟨by omega, by omega, fun k hk => by have := hall.out k hk; omega⟩⟩
      · have d2 : decide (131072 < (acc : Int)) = true := decide_eq_true (by omega)
        go_wp2
        go_ret
        exact ⟨true, rfl, rfl, fun h => by cases h⟩
end Go.Proofs.Ytbkejlalbjomkaa
namespace Go.Proofs.Ytbkejlalbjomkaa
set_option linter.unusedVariables false
open Go.ChangeShapes Go.WideShapes Go.RowKit

theorem choose_listA {α : Type} {P : Nat → α → Prop} : ∀ n, (∀ i, i < n → ∃ a, P i a) → ∃ L : List α, L.length = n ∧ ∀ i a, L[i]? = some a → P i a := by
  intro n
  induction n with
  | zero => exact fun _ => ⟨[], rfl, by simp⟩
  | succ n ih =>
    intro h
    obtain ⟨L, hl, hL⟩ := ih fun i hi => h i (by omega)
    obtain ⟨a, ha⟩ := h n (by omega)
    refine ⟨L ++ [a], by simp [hl], fun i b hb => ?_⟩
    rcases Nat.lt_or_ge i n with hi | hi
    · rw [List.getElem?_append_left (by omega)] at hb
      exact hL i b hb
    · rw [List.getElem?_append_right (by omega), hl] at hb
      have : i - n = 0 := by
        have := (List.getElem?_eq_some_iff.1 hb).1
        simp at this; omega
      rw [this] at hb
      simp at hb
      obtain rfl : i = n := by omega
      subst hb
      exact ha
theorem flat_invA (L : List AK) : ∀ (j : Nat) (u : Value), (L.flatMap AK.cells)[j]? = some u → ∃ i r k, j = i * 7 + r ∧ r < 7 ∧ L[i]? = some k ∧ k.cells[r]? = some u := by
  induction L with
  | nil => intro j u h; simp at h
  | cons a L ih =>
    intro j u h
    rw [List.flatMap_cons] at h
    have h7 : a.cells.length = 7 := rfl
    rcases Nat.lt_or_ge j 7 with hj | hj
    · rw [List.getElem?_append_left (by omega)] at h
      exact ⟨0, j, a, by omega, hj, rfl, h⟩
    · rw [List.getElem?_append_right (by omega), h7] at h
      obtain ⟨i, r, k, e, hr, hk, hu⟩ := ih _ u h
      exact ⟨i + 1, r, k, by omega, hr, by simpa using hk, hu⟩
theorem flat_lenA (L : List AK) : (L.flatMap AK.cells).length = L.length * 7 := by
  induction L with
  | nil => rfl
  | cons a L ih => rw [List.flatMap_cons, List.length_append, ih, List.length_cons, show a.cells.length = 7 from rfl]; omega
theorem weightsAll_memA {H : Type} {P : Program} {e : TypeId} : ∀ {l : List (DataW H)} {d : DataW H}, d ∈ l → ∀ n ∈ d.weights P e, n ∈ DataW.weightsAll P e l
  | d' :: r, d, hd, n, hn => by
    simp only [DataW.weightsAll, List.mem_append]
    rcases List.mem_cons.1 hd with rfl | h
    · exact Or.inl hn
    · exact Or.inr (weightsAll_memA h n hn)
theorem bytes_ofA {H : Type} {enc : TypeId × Value → H} {w : World} {held : Bool} {fuel : Nat} {v : Value} {x : DataW H × List MemPlace} (h : DataW.trod enc Try.prog w 0 (fun _ => true) held fuel 39 [v] = some x) :
    ∃ (A : Option Addr) (n c : Nat) (zs : List Int), v = .slice A n c ∧ IsRow .u8 w A n c zs ∧ ((∀ N ∈ x.1.weights Try.prog 39, N ≤ reachBytes) → c ≤ reachBytes) := by
  rcases open_ints Try.underlying39 Try.underlying5 (by kernel_rfl) h with ⟨hcs, _⟩ | ⟨ax, l, c, zs, hcs, _, hl, hm, hz, hx, hcell, hwz⟩
  · injection hcs with hcs _; subst hcs
    exact ⟨none, 0, 0, [], rfl, .inl ⟨rfl, rfl, rfl, rfl⟩, fun _ => Nat.zero_le _⟩
  · injection hcs with hcs _; subst hcs
    have hzc : zs.length = c := by simpa using hz
    refine ⟨_, _, _, zs, rfl, .inr ⟨_, rfl, hl, hm, hzc, hcell, hwz⟩, fun hw => ?_⟩
    have hb1 : Try.prog.bytesOf 5 = 1 := by kernel_rfl
    rw [hx] at hw
    have h1 := hw c (by
      simp only [DataW.weights, Try.underlying39, List.mem_cons]
      left
      rw [hb1]
      simp [lits]
      omega)
    exact h1
set_option maxRecDepth 100000 in
theorem akey_of {H : Type} {enc : TypeId × Value → H} {w : World} {held : Bool} {fuel : Nat} {cs : List Value} {x : DataW H × List MemPlace} (h : DataW.trod enc Try.prog w 0 (fun _ => true) held fuel 59 cs = some x) :
    ∃ k : AK, cs = k.cells ∧ KOk w k ∧ ((∀ N ∈ x.1.weights Try.prog 59, N ≤ reachBytes) → k.n ≤ reachBytes) ∧ k.tf ≤ 9223372036854775807 := by
  obtain ⟨xs, n, _, hx, hl, hxl, hf⟩ := DataW.trod_struct Try.underlying59 h
  have hC : Try.prog.cellsOf 59 = 7 := by kernel_rfl
  rw [hC] at hl
  match cs, hl, xs, hxl with
  | [c0, c1, c2, c3, c4, c5, c6], _, [y0, y1, y2, y3, y4, y5, y6], _ =>
    have one8 : Try.prog.cellsOf 5 = 1 := by kernel_rfl
    have one16 : Try.prog.cellsOf 23 = 1 := by kernel_rfl
    have oneS : Try.prog.cellsOf 39 = 1 := by kernel_rfl
    have oneI : Try.prog.cellsOf 3 = 1 := by kernel_rfl
    have g0 : DataW.trod enc Try.prog w 0 (fun _ => true) held n 5 (([c0, c1, c2, c3, c4, c5, c6].drop 0).take (Try.prog.cellsOf 5)) = some y0 := hf 0 _ rfl
    have g1 : DataW.trod enc Try.prog w 0 (fun _ => true) held n 23 (([c0, c1, c2, c3, c4, c5, c6].drop 1).take (Try.prog.cellsOf 23)) = some y1 := hf 1 _ rfl
    have g2 : DataW.trod enc Try.prog w 0 (fun _ => true) held n 39 (([c0, c1, c2, c3, c4, c5, c6].drop 2).take (Try.prog.cellsOf 39)) = some y2 := hf 2 _ rfl
    have g3 : DataW.trod enc Try.prog w 0 (fun _ => true) held n 3 (([c0, c1, c2, c3, c4, c5, c6].drop 3).take (Try.prog.cellsOf 3)) = some y3 := hf 3 _ rfl
    have g4 : DataW.trod enc Try.prog w 0 (fun _ => true) held n 3 (([c0, c1, c2, c3, c4, c5, c6].drop 4).take (Try.prog.cellsOf 3)) = some y4 := hf 4 _ rfl
    have g5 : DataW.trod enc Try.prog w 0 (fun _ => true) held n 3 (([c0, c1, c2, c3, c4, c5, c6].drop 5).take (Try.prog.cellsOf 3)) = some y5 := hf 5 _ rfl
    have g6 : DataW.trod enc Try.prog w 0 (fun _ => true) held n 3 (([c0, c1, c2, c3, c4, c5, c6].drop 6).take (Try.prog.cellsOf 3)) = some y6 := hf 6 _ rfl
    rw [one8] at g0; rw [one16] at g1; rw [oneS] at g2; rw [oneI] at g3 g4 g5 g6
    replace g0 : DataW.trod enc Try.prog w 0 (fun _ => true) held n 5 [c0] = some y0 := g0
    replace g1 : DataW.trod enc Try.prog w 0 (fun _ => true) held n 23 [c1] = some y1 := g1
    replace g2 : DataW.trod enc Try.prog w 0 (fun _ => true) held n 39 [c2] = some y2 := g2
    replace g3 : DataW.trod enc Try.prog w 0 (fun _ => true) held n 3 [c3] = some y3 := g3
    replace g4 : DataW.trod enc Try.prog w 0 (fun _ => true) held n 3 [c4] = some y4 := g4
    replace g5 : DataW.trod enc Try.prog w 0 (fun _ => true) held n 3 [c5] = some y5 := g5
    replace g6 : DataW.trod enc Try.prog w 0 (fun _ => true) held n 3 [c6] = some y6 := g6
    obtain ⟨a0, e0, _, w0⟩ := DataW.trod_int Try.underlying5 g0
    injection e0 with e0 _; subst e0
    obtain ⟨a1, e1, _, w1⟩ := DataW.trod_int Try.underlying23 g1
    injection e1 with e1 _; subst e1
    obtain ⟨A, m, c, zs, rfl, hrow, hwt⟩ := bytes_ofA g2
    obtain ⟨a3, e3, _, w3⟩ := DataW.trod_int Try.underlying3 g3
    injection e3 with e3 _; subst e3
    obtain ⟨a4, e4, _, w4⟩ := DataW.trod_int Try.underlying3 g4
    injection e4 with e4 _; subst e4
    obtain ⟨a5, e5, _, w5⟩ := DataW.trod_int Try.underlying3 g5
    injection e5 with e5 _; subst e5
    obtain ⟨a6, e6, _, w6⟩ := DataW.trod_int Try.underlying3 g6
    injection e6 with e6 _; subst e6
    obtain ⟨hr, ho, hc, hm⟩ := isRow_u8 hrow
    refine ⟨⟨a0, a1, A, m, c, a3, a4, a5, a6, _⟩, rfl, ⟨bounds_u8 w0, bounds_u16 w1, hr, ho, hc, hm⟩, fun hw => ?_, (bounds_i64 w5).2⟩
    rw [hx] at hw
    refine Nat.le_trans hc (hwt fun N hN => hw N ?_)
    simp only [DataW.weights, Try.underlying59]
    exact DataW.weights_mem_each (j := 2) (t := 39) (d := y2.1) rfl rfl N hN
set_option maxRecDepth 100000 in
theorem keys_arg {H : Type} {enc : TypeId × Value → H} {w : World} {r : Reach} {b : Nat} {held : Bool} {v : Value} {d : DataW H} {p : List MemPlace}
    (hv : Value.okWide Try.prog w r b 61 v) (h : DataW.Trod enc Try.prog w 0 (fun _ => true) held 61 v d p) :
    ∃ (A : Option Addr) (n c : Nat) (L : List AK), v = .slice A n c ∧ Keys w A n L ∧ n ≤ c ∧ c ≤ 9223372036854775807 ∧ ((∀ N ∈ d.weights Try.prog 61, N ≤ reachBytes) → ∀ k ∈ L, k.n ≤ reachBytes) := by
  obtain ⟨A, n, c, rfl⟩ := okWide_slice Try.underlying61 hv
  obtain ⟨fuel, hf⟩ := h
  have hC : Try.prog.cellsOf 59 = 7 := by kernel_rfl
  rcases DataW.trod_slice Try.underlying61 hf with ⟨e1, _⟩ | ⟨a, len, cap, elems, rest, fu, _, e1, hxx, _, hlc, hm, hlen, hel, _⟩
  · simp [Value.cells] at e1
    obtain ⟨rfl, rfl, rfl⟩ := e1
    exact ⟨none, 0, 0, [], rfl, ⟨⟨rfl, fun h => absurd h (by omega)⟩, rfl, by simp⟩, Nat.le_refl _, by omega, fun _ => by simp⟩
  · simp [Value.cells] at e1
    obtain ⟨rfl, rfl, rfl⟩ := e1
    rw [hC] at hel
    have hk : ∀ i, i < n → ∃ k : AK, (∀ j, j < 7 → w.cell? (a.add (i * 7 + j)) = k.cells[j]?) ∧ KOk w k ∧ ((∀ N ∈ DataW.weightsAll Try.prog 59 (elems.map (·.1)), N ≤ reachBytes) → k.n ≤ reachBytes) := by
      intro i hi
      have h1 := hel i hi
      rw [List.getElem?_eq_getElem (by omega)] at h1
      cases hcs : w.cells? 0 (a.add (i * 7)) 7 with
      | none => rw [hcs] at h1; cases h1
      | some cs =>
        rw [hcs] at h1
        obtain ⟨k, rfl, hok, hkw⟩ := akey_of h1
        refine ⟨k, fun j hj => ?_, hok, fun hw => hkw.1 fun N hN => hw N (weightsAll_memA (List.mem_map.2 ⟨_, List.getElem_mem _, rfl⟩) N hN)⟩
        have := (World.cells?_some hcs).2.2 j hj
        rwa [add_of_add] at this
    obtain ⟨L, hL, hLk⟩ := choose_listA n hk
    refine ⟨some a, n, c, L, rfl, ⟨⟨by rw [flat_lenA, hL], fun h0 => ⟨a, rfl, ?_, ?_⟩⟩, hL, ?_⟩, hlc, hm, ?_⟩
    · obtain ⟨k, hk0, _⟩ := hk 0 h0
      have := hk0 0 (by decide)
      rw [Nat.zero_mul, Nat.zero_add] at this
      have := cell_lt this
      rwa [block_of_add] at this
    · intro j u hu
      obtain ⟨i, r, k, rfl, hr, hki, hku⟩ := flat_invA L j u hu
      rw [(hLk i k hki).1 r hr]
      exact hku
    · intro k hk
      obtain ⟨i, hi⟩ := List.getElem?_of_mem hk
      exact (hLk i k hi).2.1
    · intro hw k hk
      obtain ⟨i, hi⟩ := List.getElem?_of_mem hk
      refine (hLk i k hi).2.2 fun N hN => hw N ?_
      simp only [Prod.mk.injEq] at hxx
      rw [hxx.1]
      simp only [DataW.weights, Try.underlying61, List.mem_cons, List.mem_append]
      exact .inr (.inl hN)
set_option maxRecDepth 100000 in
theorem int_argA {w : World} {r : Reach} {b : Nat} {v : Value} (h : Value.okWide Try.prog w r b 3 v) : ∃ n, v = .int .i64 n := Go.WideShapes.okWide_int Try.underlying3 h
set_option maxRecDepth 100000 in
theorem akey_arg {H : Type} {enc : TypeId × Value → H} {w : World} {r : Reach} {b : Nat} {held : Bool} {v : Value} {d : DataW H} {p : List MemPlace}
    (hv : Value.okWide Try.prog w r b 59 v) (h : DataW.Trod enc Try.prog w 0 (fun _ => true) held 59 v d p) : ∃ k : AK, v = k.v ∧ KOk w k ∧ ((∀ N ∈ d.weights Try.prog 59, N ≤ reachBytes) → k.n ≤ reachBytes) ∧ k.tf ≤ 9223372036854775807 := by
  obtain ⟨cs, rfl, _⟩ := okWide_struct Try.underlying59 hv
  obtain ⟨fuel, hf⟩ := h
  obtain ⟨x, e, hx, hw⟩ := akey_of hf
  refine ⟨x, ?_, hx, hw⟩
  obtain ⟨l⟩ := cs
  simp only [Value.cells] at e
  subst e
  rfl
end Go.Proofs.Ytbkejlalbjomkaa
