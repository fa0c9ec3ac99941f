/-
  The reference's digested, walked.
-/
import Derived.Test.YtkgdeneonobibaaAutR2
import Derived.Test.YtkgdeneonobibaaAut10
import Derived.Test.YtkgdeneonobibaaDig9
namespace Go.Proofs.Ytkgdeneonobibaa
set_option linter.unusedVariables false
open Go.RowKit

/-- Does a key open the packet, by its digest? -/
def dgB (xs : List Int) (N : Nat) (now : Int) (k : AK) : Bool := (k.id == xs.getD 18 0) && (tkB now k && decide (md (xs.take N ++ key16 k.bs) = xs.drop N))
def seqOf (xs : List Int) : Int := bits .or .u32 (bits .or .u32 (bits .or .u32 (xs.getD 20 0 * 16777216) (xs.getD 21 0 * 65536)) (xs.getD 22 0 * 256)) (xs.getD 23 0)
def digOf (xs : List Int) (N : Nat) (L : List AK) (now : Int) : Int × Int × Int :=
  if xs.getD 16 0 ≠ 0 ∨ xs.getD 17 0 ≠ 0 ∨ xs.getD 19 0 ≠ 16 then (0, 0, 24)
  else if xs.length ≠ N + 16 then (0, 0, 22)
  else if L.any (dgB xs N now) then (seqOf xs, N, 0) else (0, 0, 26)
def DgAt (w w' : World) (p : Int × Int × Int) (e : Ending) : Prop := e = .returned (.tuple #[.int .u32 p.1, .int .i64 p.2.1, .int .i64 p.2.2]) ∧ Below w.heap.size w w'
theorem dgAt {w w' : World} {p q : Int × Int × Int} {e : Ending} (h : DgAt w w' p e) (hq : q = p) : DgAt w w' q e := hq ▸ h
def RdRel (w : World) (xs : List Int) (N : Nat) (L : List AK) (now : Int) (m : Nat) (i : Value) (wr : World) : Prop :=
  ∃ j : Nat, i = .int .i64 j ∧ j ≤ m ∧ Hid (∀ k ∈ L.take j, dgB xs N now k = false) ∧ Below w.heap.size w wr
theorem rdRel_next {w w' : World} {xs : List Int} {N : Nat} {L : List AK} {now : Int} {m j : Nat} {k : AK} (hj : j < m) (h : Hid (∀ k ∈ L.take j, dgB xs N now k = false)) (hk : L[j]? = some k) (hd : dgB xs N now k = false) (hb : Below w.heap.size w w') :
    RdRel w xs N L now m (.int .i64 ((j : Int) + 1)) w' :=
  ⟨j + 1, by simp, by omega, fun q hq => by
    rw [List.take_add_one, List.mem_append, hk] at hq
    rcases hq with h1 | h1
    · exact h.out q h1
    · simp at h1; subst h1; exact hd, hb⟩
theorem any_no {xs : List Int} {N : Nat} {L : List AK} {now : Int} (h : ∀ k ∈ L.take L.length, dgB xs N now k = false) : L.any (dgB xs N now) = false := by
  rw [List.take_length] at h
  rw [List.any_eq_false]
  exact fun k hk => by simp [h k hk]
theorem any_yes {xs : List Int} {N : Nat} {L : List AK} {now : Int} {j : Nat} {k : AK} (hk : L[j]? = some k) (hd : dgB xs N now k = true) : L.any (dgB xs N now) = true :=
  List.any_eq_true.2 ⟨k, List.mem_of_getElem? hk, hd⟩
set_option maxRecDepth 100000 in
set_option maxHeartbeats 4000000 in
theorem refDigested_any (A KA : Option Addr) (n c m kc N : Nat) (xs : List Int) (L : List AK) (now : Int) (w : World) (hx : Reads w w.heap.size 1 A n (u8s xs)) (ho : Oct xs) (hc : n ≤ c) (hm : c ≤ 9223372036854775807) (hn : n ≤ 1099511627000)
    (hL : Keys w KA m L) (hkm : m ≤ 9223372036854775807) (h24 : 24 ≤ N) (hNn : N ≤ n) :
    Calls Try.prog 49 #[.slice A n c, .int .i64 N, .slice KA m kc, .int .i64 now] w fun e w' => DgAt w w' (digOf xs N L now) e := by
  have hl := hx.u8len
  obtain ⟨a, x0, rfl, hab, hx0, h0⟩ := hx.u8atc (k := 16) (by omega) (by omega)
  obtain ⟨a1, x1, e1, _, hx1, h1⟩ := hx.u8atc (k := 17) (by omega) (by omega)
  obtain rfl : a = a1 := by injection e1
  obtain ⟨a3, x3, e3, _, hx3, h3⟩ := hx.u8atc (k := 19) (by omega) (by omega)
  obtain rfl : a = a3 := by injection e3
  have l1 : 16 < n := by omega
  have l2 : 17 < n := by omega
  have l3 : 19 < n := by omega
  have hp : Hid (digOf xs N L now = (if x0 ≠ 0 ∨ x1 ≠ 0 ∨ x3 ≠ 16 then ((0, 0, 24) : Int × Int × Int) else if n ≠ N + 16 then (0, 0, 22) else if L.any (dgB xs N now) then (seqOf xs, (N : Int), 0) else (0, 0, 26))) := by
    show _ = _
    unfold digOf
    rw [getD_of hx0.out, getD_of hx1.out, getD_of hx3.out, hl]
  clear hx0 hx1 hx3 e1 e3
  by_cases g0 : x0 = 0
  · subst g0
    by_cases g1 : x1 = 0
    · subst g1
      by_cases g3 : x3 = 16
      · subst g3
        by_cases gn : n = N + 16
        · subst gn
          have HX := Lib.hid hx
          have HO := Lib.hid ho
          have HL := Lib.hid hL
          have w16 : IntKind.i64.wrap ((N : Int) + 16) = (N : Int) + 16 := IntWalk.i64_in _ (by omega)
          clear hx ho hL
          go_enter Try.func49, Try.ntmps49
          go_wp2
          go_loopw [11] (RdRel w xs N L now m) (fun i _ => m - (intOf i).toNat)
          case atStart => exact ⟨0, rfl, by omega, by simp [Hid], Below.refl _ _⟩
          case round =>
            obtain ⟨j, rfl, hj, hno, hb⟩ := hrel
            have HB := Lib.hid hb
            clear hb
            by_cases hlt : j < m
            · obtain ⟨kad, k, rfl, hbl, hk, hok, c0, c1, c2, c3, c4, c5, c6⟩ := (HL.out.later HB.out).at_ hlt
              obtain ⟨a2, y, e2, _, hy0, hy⟩ := (HX.out.below HB.out).u8atc (k := 18) (by omega) (by omega)
              obtain rfl : a = a2 := by injection e2
              have l18 : (18 : Int) < (N : Int) + 16 := by omega
              obtain ⟨id, kind, S, sn, sc, sf, su, tf, tu, bs⟩ := k
              simp only at c0 c1 c2 c3 c4 c5 c6
              have HG : Hid (xs.getD 18 0 = y) := getD_of hy0.out
              obtain ⟨g, hg⟩ : ∃ g, g = wr.heap.size := ⟨_, rfl⟩
              have HC : Hid (Blk (wr.alloc (.cells #[.int .u8 id, .int .u16 kind, .slice S sn sc, .int .i64 sf, .int .i64 su, .int .i64 tf, .int .i64 tu] 70)) wr.heap.size 70 #[.int .u8 id, .int .u16 kind, .slice S sn sc, .int .i64 sf, .int .i64 su, .int .i64 tf, .int .i64 tu] ∧
                (wr.alloc (.cells #[.int .u8 id, .int .u16 kind, .slice S sn sc, .int .i64 sf, .int .i64 su, .int .i64 tf, .int .i64 tu] 70)).cell? ⟨a.block, a.off + 18, none⟩ = some (.int .u8 y) ∧ Below w.heap.size w (wr.alloc (.cells #[.int .u8 id, .int .u16 kind, .slice S sn sc, .int .i64 sf, .int .i64 su, .int .i64 tf, .int .i64 tu] 70))) :=
                ⟨Blk.new _ _ _, by rw [World.cell?_alloc_lt wr _ ⟨a.block, a.off + 18, none⟩ (cell_lt hy)]; exact hy, HB.out.alloc HB.out.size _⟩
              by_cases q1 : id = y
              · subst q1
                by_cases q2 : tf ≤ now
                · by_cases q3 : now ≤ tu
                  · have d2 : decide (tf ≤ now) = true := decide_eq_true q2
                    have d3 : decide (now ≤ tu) = true := decide_eq_true q3
                    obtain ⟨bb, hb0⟩ : ∃ bb, bb = decide (md (xs.take N ++ key16 bs) = xs.drop N) := ⟨_, rfl⟩
                    have hbb := Lib.hid hb0
                    have hd : Hid (dgB xs N now ⟨id, kind, S, sn, sc, sf, su, tf, tu, bs⟩ = bb) := by show _ = _; unfold dgB; simp only [HG.out, tkB]; simp [q2, q3, hb0]
                    clear hb0
                    have HR : Hid (Reads (wr.alloc (.cells #[.int .u8 id, .int .u16 kind, .slice S sn sc, .int .i64 sf, .int .i64 su, .int .i64 tf, .int .i64 tu] 70)).drew (wr.alloc (.cells #[.int .u8 id, .int .u16 kind, .slice S sn sc, .int .i64 sf, .int .i64 su, .int .i64 tf, .int .i64 tu] 70)).drew.heap.size 1 S sn (u8s bs) ∧ Reads (wr.alloc (.cells #[.int .u8 id, .int .u16 kind, .slice S sn sc, .int .i64 sf, .int .i64 su, .int .i64 tf, .int .i64 tu] 70)).drew (wr.alloc (.cells #[.int .u8 id, .int .u16 kind, .slice S sn sc, .int .i64 sf, .int .i64 su, .int .i64 tf, .int .i64 tu] 70)).drew.heap.size 1 (some a) N (u8s (xs.take N)) ∧ Reads (wr.alloc (.cells #[.int .u8 id, .int .u16 kind, .slice S sn sc, .int .i64 sf, .int .i64 su, .int .i64 tf, .int .i64 tu] 70)).drew (wr.alloc (.cells #[.int .u8 id, .int .u16 kind, .slice S sn sc, .int .i64 sf, .int .i64 su, .int .i64 tf, .int .i64 tu] 70)).drew.heap.size 1 (some (a.add N)) 16 (u8s (xs.drop N)) ∧ Below w.heap.size w (wr.alloc (.cells #[.int .u8 id, .int .u16 kind, .slice S sn sc, .int .i64 sf, .int .i64 su, .int .i64 tf, .int .i64 tu] 70)).drew ∧ Blk (wr.alloc (.cells #[.int .u8 id, .int .u16 kind, .slice S sn sc, .int .i64 sf, .int .i64 su, .int .i64 tf, .int .i64 tu] 70)).drew wr.heap.size 70 #[.int .u8 id, .int .u16 kind, .slice S sn sc, .int .i64 sf, .int .i64 su, .int .i64 tf, .int .i64 tu] ∧ (wr.alloc (.cells #[.int .u8 id, .int .u16 kind, .slice S sn sc, .int .i64 sf, .int .i64 su, .int .i64 tf, .int .i64 tu] 70)).drew.cell? ⟨a.block, a.off + 18, none⟩ = some (.int .u8 id)) := by
                      have hB0 : Below wr.heap.size wr (wr.alloc (.cells #[.int .u8 id, .int .u16 kind, .slice S sn sc, .int .i64 sf, .int .i64 su, .int .i64 tf, .int .i64 tu] 70)).drew := ((Below.refl _ _).alloc (Nat.le_refl _) _).drew
                      have hX := HX.out.later (below_then HB.out hB0)
                      have hY := hX.u8cut (k := N) (cap := c) (by omega) (by omega)
                      rw [if_neg (by omega)] at hY
                      rw [show N + 16 - N = 16 by omega] at hY
                      exact ⟨hok.out.sec.later hB0, hX.u8pre (by omega), hY, below_then HB.out hB0, HC.out.1, HC.out.2.1⟩
                    have hko : Hid (Oct bs) := hok.out.oct
                    have hsn : Hid (sn ≤ 9223372036854775807) := by have h1 := hok.out.cap.1; have h2 := hok.out.cap.2; show sn ≤ _; simp only at h1 h2; omega
                    have hcN : ¬ c = N := by omega
                    have hNc : (N : Int) ≤ (c : Int) := by omega
                    have hN16 : (N : Int) ≤ (N : Int) + 16 := by omega
                    clear HC hok HG
                    go_wp2
                    clear hy hy0 c0 c1 c2 c3 c4 c5 c6 h0 h1 h3
                    have HS : Hid ((fun W : World => Blk W wr.heap.size 70 #[.int .u8 id, .int .u16 kind, .slice S sn sc, .int .i64 sf, .int .i64 su, .int .i64 tf, .int .i64 tu] ∧ W.cell? ⟨a.block, a.off + 18, none⟩ = some (.int .u8 id)) (wr.alloc (.cells #[.int .u8 id, .int .u16 kind, .slice S sn sc, .int .i64 sf, .int .i64 su, .int .i64 tf, .int .i64 tu] 70)).drew) := ⟨HR.out.2.2.2.2.1, HR.out.2.2.2.2.2⟩
                    refine wp_region_s (fun W : World => Blk W wr.heap.size 70 #[.int .u8 id, .int .u16 kind, .slice S sn sc, .int .i64 sf, .int .i64 su, .int .i64 tf, .int .i64 tu] ∧ W.cell? ⟨a.block, a.off + 18, none⟩ = some (.int .u8 id)) [(0, true), (2, true), (3, true), (1, true), (4, true), (5, true), (6, true), (7, true), (8, true), (9, true), (10, true), (11, true), (12, true), (13, true), (14, true), (15, true), (16, true), (17, true), (18, true), (19, true), (21, true), (22, true), (23, true), (25, true), (26, true), (27, true), (20, true), (24, false), (28, false), (29, true)] (by kernel_rfl) (fun _ d _ _ _ h => by cases d <;> exact h) ?_
                    simp only [List.map_cons, List.map_nil, nthOp_zero, nthOp_succ]
                    generalize (wr.alloc (.cells #[.int .u8 id, .int .u16 kind, .slice S sn sc, .int .i64 sf, .int .i64 su, .int .i64 tf, .int .i64 tu] 70)).drew = w1 at *
                    refine wpS_take HS (by kernel_rfl) (by intro W hW; have j0 := hW.1.cell 0; have j2 := hW.1.cell 2; have j5 := hW.1.cell 5; have j6 := hW.1.cell 6; have jy := hW.2; clear hW; simp only [List.getElem?_toArray, List.getElem?_cons_zero, List.getElem?_cons_succ] at j0 j2 j5 j6; go_simp; try with_reducible rfl) ?_
                    refine wpS_take HS (by kernel_rfl) (by intro W hW; have j0 := hW.1.cell 0; have j2 := hW.1.cell 2; have j5 := hW.1.cell 5; have j6 := hW.1.cell 6; have jy := hW.2; clear hW; simp only [List.getElem?_toArray, List.getElem?_cons_zero, List.getElem?_cons_succ] at j0 j2 j5 j6; go_simp; try with_reducible rfl) ?_
                    refine wpS_take HS (by kernel_rfl) (by intro W hW; have j0 := hW.1.cell 0; have j2 := hW.1.cell 2; have j5 := hW.1.cell 5; have j6 := hW.1.cell 6; have jy := hW.2; clear hW; simp only [List.getElem?_toArray, List.getElem?_cons_zero, List.getElem?_cons_succ] at j0 j2 j5 j6; go_simp; try with_reducible rfl) ?_
                    refine wpS_take HS (by kernel_rfl) (by intro W hW; have j0 := hW.1.cell 0; have j2 := hW.1.cell 2; have j5 := hW.1.cell 5; have j6 := hW.1.cell 6; have jy := hW.2; clear hW; simp only [List.getElem?_toArray, List.getElem?_cons_zero, List.getElem?_cons_succ] at j0 j2 j5 j6; go_simp; try with_reducible rfl) ?_
                    refine wpS_take HS (by kernel_rfl) (by intro W hW; have j0 := hW.1.cell 0; have j2 := hW.1.cell 2; have j5 := hW.1.cell 5; have j6 := hW.1.cell 6; have jy := hW.2; clear hW; simp only [List.getElem?_toArray, List.getElem?_cons_zero, List.getElem?_cons_succ] at j0 j2 j5 j6; go_simp; try with_reducible rfl) ?_
                    refine wpS_take HS (by kernel_rfl) (by intro W hW; have j0 := hW.1.cell 0; have j2 := hW.1.cell 2; have j5 := hW.1.cell 5; have j6 := hW.1.cell 6; have jy := hW.2; clear hW; simp only [List.getElem?_toArray, List.getElem?_cons_zero, List.getElem?_cons_succ] at j0 j2 j5 j6; go_simp; try with_reducible rfl) ?_
                    refine wpS_take HS (by kernel_rfl) (by intro W hW; have j0 := hW.1.cell 0; have j2 := hW.1.cell 2; have j5 := hW.1.cell 5; have j6 := hW.1.cell 6; have jy := hW.2; clear hW; simp only [List.getElem?_toArray, List.getElem?_cons_zero, List.getElem?_cons_succ] at j0 j2 j5 j6; go_simp; try with_reducible rfl) ?_
                    refine wpS_take HS (by kernel_rfl) (by intro W hW; have j0 := hW.1.cell 0; have j2 := hW.1.cell 2; have j5 := hW.1.cell 5; have j6 := hW.1.cell 6; have jy := hW.2; clear hW; simp only [List.getElem?_toArray, List.getElem?_cons_zero, List.getElem?_cons_succ] at j0 j2 j5 j6; go_simp; try with_reducible rfl) ?_
                    refine wpS_take HS (by kernel_rfl) (by intro W hW; have j0 := hW.1.cell 0; have j2 := hW.1.cell 2; have j5 := hW.1.cell 5; have j6 := hW.1.cell 6; have jy := hW.2; clear hW; simp only [List.getElem?_toArray, List.getElem?_cons_zero, List.getElem?_cons_succ] at j0 j2 j5 j6; go_simp; try with_reducible rfl) ?_
                    refine wpS_take HS (by kernel_rfl) (by intro W hW; have j0 := hW.1.cell 0; have j2 := hW.1.cell 2; have j5 := hW.1.cell 5; have j6 := hW.1.cell 6; have jy := hW.2; clear hW; simp only [List.getElem?_toArray, List.getElem?_cons_zero, List.getElem?_cons_succ] at j0 j2 j5 j6; go_simp; try with_reducible rfl) ?_
                    refine wpS_take HS (by kernel_rfl) (by intro W hW; have j0 := hW.1.cell 0; have j2 := hW.1.cell 2; have j5 := hW.1.cell 5; have j6 := hW.1.cell 6; have jy := hW.2; clear hW; simp only [List.getElem?_toArray, List.getElem?_cons_zero, List.getElem?_cons_succ] at j0 j2 j5 j6; go_simp; try with_reducible rfl) ?_
                    refine wpS_take HS (by kernel_rfl) (by intro W hW; have j0 := hW.1.cell 0; have j2 := hW.1.cell 2; have j5 := hW.1.cell 5; have j6 := hW.1.cell 6; have jy := hW.2; clear hW; simp only [List.getElem?_toArray, List.getElem?_cons_zero, List.getElem?_cons_succ] at j0 j2 j5 j6; go_simp; try with_reducible rfl) ?_
                    refine wpS_take HS (by kernel_rfl) (by intro W hW; have j0 := hW.1.cell 0; have j2 := hW.1.cell 2; have j5 := hW.1.cell 5; have j6 := hW.1.cell 6; have jy := hW.2; clear hW; simp only [List.getElem?_toArray, List.getElem?_cons_zero, List.getElem?_cons_succ] at j0 j2 j5 j6; go_simp; try with_reducible rfl) ?_
                    refine wpS_take HS (by kernel_rfl) (by intro W hW; have j0 := hW.1.cell 0; have j2 := hW.1.cell 2; have j5 := hW.1.cell 5; have j6 := hW.1.cell 6; have jy := hW.2; clear hW; simp only [List.getElem?_toArray, List.getElem?_cons_zero, List.getElem?_cons_succ] at j0 j2 j5 j6; go_simp; try with_reducible rfl) ?_
                    refine wpS_take HS (by kernel_rfl) (by intro W hW; have j0 := hW.1.cell 0; have j2 := hW.1.cell 2; have j5 := hW.1.cell 5; have j6 := hW.1.cell 6; have jy := hW.2; clear hW; simp only [List.getElem?_toArray, List.getElem?_cons_zero, List.getElem?_cons_succ] at j0 j2 j5 j6; go_simp; try with_reducible rfl) ?_
                    refine wpS_take HS (by kernel_rfl) (by intro W hW; have j0 := hW.1.cell 0; have j2 := hW.1.cell 2; have j5 := hW.1.cell 5; have j6 := hW.1.cell 6; have jy := hW.2; clear hW; simp only [List.getElem?_toArray, List.getElem?_cons_zero, List.getElem?_cons_succ] at j0 j2 j5 j6; go_simp; try with_reducible rfl) ?_
                    refine wpS_take HS (by kernel_rfl) (by intro W hW; have j0 := hW.1.cell 0; have j2 := hW.1.cell 2; have j5 := hW.1.cell 5; have j6 := hW.1.cell 6; have jy := hW.2; clear hW; simp only [List.getElem?_toArray, List.getElem?_cons_zero, List.getElem?_cons_succ] at j0 j2 j5 j6; go_simp; try with_reducible rfl) ?_
                    refine wpS_take HS (by kernel_rfl) (by intro W hW; have j0 := hW.1.cell 0; have j2 := hW.1.cell 2; have j5 := hW.1.cell 5; have j6 := hW.1.cell 6; have jy := hW.2; clear hW; simp only [List.getElem?_toArray, List.getElem?_cons_zero, List.getElem?_cons_succ] at j0 j2 j5 j6; go_simp; try with_reducible rfl) ?_
                    refine wpS_take HS (by kernel_rfl) (by intro W hW; have j0 := hW.1.cell 0; have j2 := hW.1.cell 2; have j5 := hW.1.cell 5; have j6 := hW.1.cell 6; have jy := hW.2; clear hW; simp only [List.getElem?_toArray, List.getElem?_cons_zero, List.getElem?_cons_succ] at j0 j2 j5 j6; go_simp; try with_reducible rfl) ?_
                    refine wpS_take HS (by kernel_rfl) (by intro W hW; have j0 := hW.1.cell 0; have j2 := hW.1.cell 2; have j5 := hW.1.cell 5; have j6 := hW.1.cell 6; have jy := hW.2; clear hW; simp only [List.getElem?_toArray, List.getElem?_cons_zero, List.getElem?_cons_succ] at j0 j2 j5 j6; go_simp; try with_reducible rfl) ?_
                    refine wpS_take HS (by kernel_rfl) (by intro W hW; have j0 := hW.1.cell 0; have j2 := hW.1.cell 2; have j5 := hW.1.cell 5; have j6 := hW.1.cell 6; have jy := hW.2; clear hW; simp only [List.getElem?_toArray, List.getElem?_cons_zero, List.getElem?_cons_succ] at j0 j2 j5 j6; go_simp; try with_reducible rfl) ?_
                    refine wpS_take HS (by kernel_rfl) (by intro W hW; have j0 := hW.1.cell 0; have j2 := hW.1.cell 2; have j5 := hW.1.cell 5; have j6 := hW.1.cell 6; have jy := hW.2; clear hW; simp only [List.getElem?_toArray, List.getElem?_cons_zero, List.getElem?_cons_succ] at j0 j2 j5 j6; go_simp; try with_reducible rfl) ?_
                    refine wpS_take HS (by kernel_rfl) (by intro W hW; have j0 := hW.1.cell 0; have j2 := hW.1.cell 2; have j5 := hW.1.cell 5; have j6 := hW.1.cell 6; have jy := hW.2; clear hW; simp only [List.getElem?_toArray, List.getElem?_cons_zero, List.getElem?_cons_succ] at j0 j2 j5 j6; go_simp; try with_reducible rfl) ?_
                    refine wpS_take HS (by kernel_rfl) (by intro W hW; have j0 := hW.1.cell 0; have j2 := hW.1.cell 2; have j5 := hW.1.cell 5; have j6 := hW.1.cell 6; have jy := hW.2; clear hW; simp only [List.getElem?_toArray, List.getElem?_cons_zero, List.getElem?_cons_succ] at j0 j2 j5 j6; go_simp; try with_reducible rfl) ?_
                    refine wpS_take HS (by kernel_rfl) (by intro W hW; have j0 := hW.1.cell 0; have j2 := hW.1.cell 2; have j5 := hW.1.cell 5; have j6 := hW.1.cell 6; have jy := hW.2; clear hW; simp only [List.getElem?_toArray, List.getElem?_cons_zero, List.getElem?_cons_succ] at j0 j2 j5 j6; go_simp; try with_reducible rfl) ?_
                    refine wpS_take HS (by kernel_rfl) (by intro W hW; have j0 := hW.1.cell 0; have j2 := hW.1.cell 2; have j5 := hW.1.cell 5; have j6 := hW.1.cell 6; have jy := hW.2; clear hW; simp only [List.getElem?_toArray, List.getElem?_cons_zero, List.getElem?_cons_succ] at j0 j2 j5 j6; go_simp; try with_reducible rfl) ?_
                    refine wpS_take HS (by kernel_rfl) (by intro W hW; have j0 := hW.1.cell 0; have j2 := hW.1.cell 2; have j5 := hW.1.cell 5; have j6 := hW.1.cell 6; have jy := hW.2; clear hW; simp only [List.getElem?_toArray, List.getElem?_cons_zero, List.getElem?_cons_succ] at j0 j2 j5 j6; go_simp; try with_reducible rfl) ?_
                    go_simp
                    refine wpS_do fun K1 hK1 => ?_
                    go_wp2_with (go_at_call 95; refine (refKeyed_any S (some a) sn sc N c bs (xs.take N) _ HR.out.1 HR.out.2.1 hko.out (HO.out.take N) (by omega) hsn.out).mono ?_; rintro e w5 ⟨v5, rfl, h5⟩; have H5 := Lib.hid h5; clear h5)
                    obtain ⟨A5, c5, hv⟩ := H5.out.shape
                    rw [md_len] at hv
                    subst hv
                    have HS5 := HR.out.2.2.2.2.1.later H5.out.2
                    have HS5' : w5.cell? ⟨a.block, a.off + 18, none⟩ = some (.int .u8 id) := by rw [H5.out.2.cell (p := ⟨a.block, a.off + 18, none⟩) (cell_lt HR.out.2.2.2.2.2)]; exact HR.out.2.2.2.2.2
                    refine hK1.out _ _ ⟨HS5, HS5'⟩ ?_
                    clear hK1 K1
                    have HSm := Lib.hid (toBelow (refSame_any A5 (some (a.add N)) 16 c5 16 (c - N) (md (xs.take N ++ key16 bs)) (xs.drop N) w5 w5.heap.size w5.heap.size (H5.out.reads (md_len _)) (HR.out.2.2.1.later H5.out.2) (by omega) (by omega)))
                    have HB5 := Lib.hid (below_then HR.out.2.2.2.1 H5.out.2)
                    rw [← hbb.out] at HSm
                    clear HR H5
                    refine wpS_do fun K1 hK1 => ?_
                    go_wp2_with (go_at_call 51; refine HSm.out.mono ?_; rintro e w6 ⟨rfl, hb6⟩; have H6 := Lib.hid hb6; clear hb6)
                    have HB6 := Lib.hid (below_then HB5.out H6.out)
                    have HS6 : Hid ((fun W : World => Blk W wr.heap.size 70 #[.int .u8 id, .int .u16 kind, .slice S sn sc, .int .i64 sf, .int .i64 su, .int .i64 tf, .int .i64 tu] ∧ W.cell? ⟨a.block, a.off + 18, none⟩ = some (.int .u8 id)) w6) := ⟨HS5.later H6.out, by rw [H6.out.cell (p := ⟨a.block, a.off + 18, none⟩) (cell_lt HS5')]; exact HS5'⟩
                    refine hK1.out _ _ HS6.out ?_
                    clear hK1 K1 HSm HS5 HS5' HS HB5 H6
                    refine wpS_take HS6 (by kernel_rfl) (by intro W hW; have j0 := hW.1.cell 0; have j2 := hW.1.cell 2; have j5 := hW.1.cell 5; have j6 := hW.1.cell 6; have jy := hW.2; clear hW; simp only [List.getElem?_toArray, List.getElem?_cons_zero, List.getElem?_cons_succ] at j0 j2 j5 j6; go_simp; try with_reducible rfl) ?_
                    refine wpS_nil ?_
                    go_simp
                    clear HS6
                    cases bb
                    · have hnx := Lib.hid (fun W' => rdRel_next (w := w) (w' := W') hlt hno hk.out hd.out)
                      clear hd hno hk hp
                      go_wp2
                      go_roundw
                      case rel => exact hnx.out _ HB6.out
                      case measure => simp [intOf]; omega
                    · have hr : Hid (digOf xs N L now = (seqOf xs, (N : Int), 0)) := by show _ = _; rw [hp.out, if_neg (by omega), if_neg (by omega), if_pos (any_yes hk.out hd.out)]
                      clear hd hno hk hp
                      have hX6 := HX.out.later HB6.out
                      obtain ⟨b0, y0, f0, _, hy0, jy0⟩ := hX6.u8atc (k := 20) (by omega) (by omega)
                      obtain rfl : a = b0 := by injection f0
                      obtain ⟨b1, y1, f1, _, hy1, jy1⟩ := hX6.u8atc (k := 21) (by omega) (by omega)
                      obtain rfl : a = b1 := by injection f1
                      obtain ⟨b2, y2, f2, _, hy2, jy2⟩ := hX6.u8atc (k := 22) (by omega) (by omega)
                      obtain rfl : a = b2 := by injection f2
                      obtain ⟨b3, y3, f3, _, hy3, jy3⟩ := hX6.u8atc (k := 23) (by omega) (by omega)
                      obtain rfl : a = b3 := by injection f3
                      obtain ⟨o0, p0⟩ := HO.out _ _ hy0.out
                      obtain ⟨o1, p1⟩ := HO.out _ _ hy1.out
                      obtain ⟨o2, p2⟩ := HO.out _ _ hy2.out
                      obtain ⟨o3, p3⟩ := HO.out _ _ hy3.out
                      have HQ : Hid (seqOf xs = bits .or .u32 (bits .or .u32 (bits .or .u32 (y0 * 16777216) (y1 * 65536)) (y2 * 256)) y3) := by show _ = _; unfold seqOf; rw [getD_of hy0.out, getD_of hy1.out, getD_of hy2.out, getD_of hy3.out]
                      have l20 : (20 : Int) < (N : Int) + 16 := by omega
                      have l21 : (21 : Int) < (N : Int) + 16 := by omega
                      have l22 : (22 : Int) < (N : Int) + 16 := by omega
                      have l23 : (23 : Int) < (N : Int) + 16 := by omega
                      have z0 : IntKind.u32.wrap y0 = y0 := IntWalk.u32_in _ (by omega)
                      have z1 : IntKind.u32.wrap y1 = y1 := IntWalk.u32_in _ (by omega)
                      have z2 : IntKind.u32.wrap y2 = y2 := IntWalk.u32_in _ (by omega)
                      have z3 : IntKind.u32.wrap y3 = y3 := IntWalk.u32_in _ (by omega)
                      have z4 : IntKind.u32.wrap (y0 * 16777216) = y0 * 16777216 := IntWalk.u32_in _ (by omega)
                      have z5 : IntKind.u32.wrap (y1 * 65536) = y1 * 65536 := IntWalk.u32_in _ (by omega)
                      have z6 : IntKind.u32.wrap (y2 * 256) = y2 * 256 := IntWalk.u32_in _ (by omega)
                      clear hX6 hy0 hy1 hy2 hy3 f0 f1 f2 f3
                      go_wp2
                      go_quiet (fail)
                      go_wp2
                      go_ret3
                      exact dgAt ⟨by rw [HQ.out]; rfl, below_drewN HB6.out _⟩ hr.out
                  · have d3 : decide (now ≤ tu) = false := decide_eq_false q3
                    have d2 : decide (tf ≤ now) = true := decide_eq_true q2
                    have hd : dgB xs N now ⟨id, kind, S, sn, sc, sf, su, tf, tu, bs⟩ = false := by unfold dgB; simp only [HG.out, tkB]; simp [q3]
                    have hnx := Lib.hid (fun W' => rdRel_next (w := w) (w' := W') hlt hno hk.out hd)
                    clear hd hno hk HG hp
                    go_wp2
                    generalize wr.alloc (.cells #[.int .u8 id, .int .u16 kind, .slice S sn sc, .int .i64 sf, .int .i64 su, .int .i64 tf, .int .i64 tu] 70) = w1 at *
                    generalize wr.heap.size = g0 at *
                    have j0 := HC.out.1.cell 0; have j5 := HC.out.1.cell 5; have j6 := HC.out.1.cell 6; have jy := HC.out.2.1
                    simp only [List.getElem?_toArray, List.getElem?_cons_zero, List.getElem?_cons_succ] at j0 j5 j6
                    clear c0 c1 c2 c3 c4 c5 c6 hok hy hy0
                    go_quiet (fail)
                    go_wp2
                    go_roundw
                    case rel => exact hnx.out _ (below_drewN HC.out.2.2 _)
                    case measure => simp [intOf]; omega
                · have d2 : decide (tf ≤ now) = false := decide_eq_false q2
                  have hd : dgB xs N now ⟨id, kind, S, sn, sc, sf, su, tf, tu, bs⟩ = false := by unfold dgB; simp only [HG.out, tkB]; simp [q2]
                  have hnx := Lib.hid (fun W' => rdRel_next (w := w) (w' := W') hlt hno hk.out hd)
                  clear hd hno hk HG hp
                  go_wp2
                  generalize wr.alloc (.cells #[.int .u8 id, .int .u16 kind, .slice S sn sc, .int .i64 sf, .int .i64 su, .int .i64 tf, .int .i64 tu] 70) = w1 at *
                  generalize wr.heap.size = g0 at *
                  have j0 := HC.out.1.cell 0; have j5 := HC.out.1.cell 5; have j6 := HC.out.1.cell 6; have jy := HC.out.2.1
                  simp only [List.getElem?_toArray, List.getElem?_cons_zero, List.getElem?_cons_succ] at j0 j5 j6
                  clear c0 c1 c2 c3 c4 c5 c6 hok hy hy0
                  go_quiet (fail)
                  go_wp2
                  go_roundw
                  case rel => exact hnx.out _ (below_drewN HC.out.2.2 _)
                  case measure => simp [intOf]; omega
              · have q1' : (id == y) = false := by simpa using q1
                have hd : dgB xs N now ⟨id, kind, S, sn, sc, sf, su, tf, tu, bs⟩ = false := by unfold dgB; simp only [HG.out, tkB]; simp [q1']
                have hnx := Lib.hid (fun W' => rdRel_next (w := w) (w' := W') hlt hno hk.out hd)
                clear hd hno hk HG hp
                go_wp2
                generalize wr.alloc (.cells #[.int .u8 id, .int .u16 kind, .slice S sn sc, .int .i64 sf, .int .i64 su, .int .i64 tf, .int .i64 tu] 70) = w1 at *
                generalize wr.heap.size = g0 at *
                have j0 := HC.out.1.cell 0; have j5 := HC.out.1.cell 5; have j6 := HC.out.1.cell 6; have jy := HC.out.2.1
                simp only [List.getElem?_toArray, List.getElem?_cons_zero, List.getElem?_cons_succ] at j0 j5 j6
                clear c0 c1 c2 c3 c4 c5 c6 hok hy hy0
                go_quiet (fail)
                go_wp2
                go_roundw
                case rel => exact hnx.out _ (below_drewN HC.out.2.2 _)
                case measure => simp [intOf]; omega
            · obtain rfl : j = m := by omega
              have hr : Hid (digOf xs N L now = (0, 0, 26)) := by show _ = _; rw [hp.out, if_neg (by omega), if_neg (by omega), if_neg]; have h := any_no (by rw [HL.out.len]; exact hno.out); simp [h]
              clear hp hno
              go_wp2
              go_ret3
              exact dgAt ⟨rfl, HB.out⟩ hr.out
        · have gn' : ((n : Int) == (N : Int) + 16) = false := by simp; omega
          have hr : Hid (digOf xs N L now = (0, 0, 22)) := by show _ = _; rw [hp.out, if_neg (by omega), if_pos gn]
          have w16 : IntKind.i64.wrap ((N : Int) + 16) = (N : Int) + 16 := IntWalk.i64_in _ (by omega)
          clear hp hx ho hL gn hl
          go_enter Try.func49, Try.ntmps49
          go_wp2
          go_ret3
          exact dgAt ⟨rfl, Below.refl _ _⟩ hr.out
      · have g3' : (x3 == 16) = false := by simpa using g3
        have g3'' : (x3 != 16) = true := by simpa using g3
        have hr : Hid (digOf xs N L now = (0, 0, 24)) := by show _ = _; rw [hp.out, if_pos (.inr (.inr g3))]
        clear hp hx ho hL g3
        go_enter Try.func49, Try.ntmps49
        go_wp2
        go_ret3
        exact dgAt ⟨rfl, Below.refl _ _⟩ hr.out
    · have g1' : (x1 == 0) = false := by simpa using g1
      have g1'' : (x1 != 0) = true := by simpa using g1
      have hr : Hid (digOf xs N L now = (0, 0, 24)) := by show _ = _; rw [hp.out, if_pos (.inr (.inl g1))]
      clear hp hx ho hL g1
      go_enter Try.func49, Try.ntmps49
      go_wp2
      go_ret3
      exact dgAt ⟨rfl, Below.refl _ _⟩ hr.out
  · have g0' : (x0 == 0) = false := by simpa using g0
    have g0'' : (x0 != 0) = true := by simpa using g0
    have hr : Hid (digOf xs N L now = (0, 0, 24)) := by show _ = _; rw [hp.out, if_pos (.inl g0)]
    clear hp hx ho hL g0
    go_enter Try.func49, Try.ntmps49
    go_wp2
    go_ret3
    exact dgAt ⟨rfl, Below.refl _ _⟩ hr.out
end Go.Proofs.Ytkgdeneonobibaa
