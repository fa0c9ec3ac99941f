/-
  auth.taken: the iterator, inside a fence.
-/
import Derived.RangeFuncNested
import Derived.RangeFuncBound
import Derived.RangeFuncCalls
import Derived.RangeFuncLeaves
import Derived.Shelf.Abstract
import Derived.Shelf.RegionOpen
import Derived.WalkKit
import Derived.OwnWalkIn
import Derived.TacticsInMore
import Derived.LoopNIn
import Derived.LoopIn
import Derived.Test.YtkgdeneonobibaaAut9
namespace Go.Proofs.Ytkgdeneonobibaa
set_option linter.unusedVariables false
open Go.RowKit Go.Shelf
attribute [local go_sem] Oper.semAt_some

def tkB (now : Int) (k : AK) : Bool := decide (k.tf ≤ now) && decide (now ≤ k.tu)
/-- The taken ones of the first j keys. -/
def takenTo (L : List AK) (now : Int) (j : Nat) : List {k : AK // k ∈ L} := (L.attach.take j).filter fun k => tkB now k.1
theorem attach_get {L : List AK} {j : Nat} {k : AK} (h : L[j]? = some k) : L.attach[j]? = some ⟨k, List.mem_of_getElem? h⟩ := by
  have hj := (List.getElem?_eq_some_iff.1 h).1
  have he := (List.getElem?_eq_some_iff.1 h).2
  rw [List.getElem?_eq_getElem (by simpa using hj)]
  simp [he]
theorem takenTo_yes {L : List AK} {now : Int} {j : Nat} {k : AK} (h : L[j]? = some k) (ht : tkB now k = true) : takenTo L now (j + 1) = takenTo L now j ++ [⟨k, List.mem_of_getElem? h⟩] := by
  unfold takenTo
  rw [List.take_add_one, attach_get h, List.filter_append]
  simp [ht]
theorem takenTo_no {L : List AK} {now : Int} {j : Nat} {k : AK} (h : L[j]? = some k) (ht : tkB now k = false) : takenTo L now (j + 1) = takenTo L now j := by
  unfold takenTo
  rw [List.take_add_one, attach_get h, List.filter_append]
  simp [ht]
theorem takenTo_len (L : List AK) (now : Int) (j : Nat) : (takenTo L now j).length ≤ j := by
  unfold takenTo
  refine Nat.le_trans (List.length_filter_le _ _) ?_
  rw [List.length_take]
  exact Nat.min_le_left _ _
theorem takenTo_pre (L : List AK) (now : Int) {j : Nat} (h : j ≤ L.length) : takenTo L now j <+: takenTo L now L.length := by
  unfold takenTo
  rw [List.take_of_length_le (l := L.attach) (i := L.length) (by simp)]
  exact (List.take_prefix j L.attach).filter _
theorem row_at {w : World} {B n i : Nat} {ad : Addr} {L : List AK} (h : Reads w B 7 (some ad) n (L.flatMap AK.cells)) {k : AK} (hi : i < n) (hk : L[i]? = some k) :
    ad.block < B ∧ (w.cell? (ad.add (i * 7)) = some (.int .u8 k.id) ∧ w.cell? ⟨(ad.add (i * 7)).block, (ad.add (i * 7)).off + 1, none⟩ = some (.int .u16 k.kind) ∧ w.cell? ⟨(ad.add (i * 7)).block, (ad.add (i * 7)).off + 2, none⟩ = some (.slice k.A k.n k.c) ∧
     w.cell? ⟨(ad.add (i * 7)).block, (ad.add (i * 7)).off + 3, none⟩ = some (.int .i64 k.sf) ∧ w.cell? ⟨(ad.add (i * 7)).block, (ad.add (i * 7)).off + 4, none⟩ = some (.int .i64 k.su) ∧ w.cell? ⟨(ad.add (i * 7)).block, (ad.add (i * 7)).off + 5, none⟩ = some (.int .i64 k.tf) ∧ w.cell? ⟨(ad.add (i * 7)).block, (ad.add (i * 7)).off + 6, none⟩ = some (.int .i64 k.tu)) := by
  obtain ⟨ad', e, hb, hc⟩ := h.2 (by omega)
  injection e with e; subst e
  have H : ∀ j u, j < 7 → k.cells[j]? = some u → w.cell? (ad.add (i * 7 + j)) = some u := fun j u hj hu => hc _ _ (flat_get L i j k u hk hu hj)
  exact ⟨hb, H 0 _ (by decide) rfl, add_lit ad _ 1 (by decide) ▸ H 1 _ (by decide) rfl, add_lit ad _ 2 (by decide) ▸ H 2 _ (by decide) rfl, add_lit ad _ 3 (by decide) ▸ H 3 _ (by decide) rfl,
    add_lit ad _ 4 (by decide) ▸ H 4 _ (by decide) rfl, add_lit ad _ 5 (by decide) ▸ H 5 _ (by decide) rfl, add_lit ad _ 6 (by decide) ▸ H 6 _ (by decide) rfl⟩
set_option maxRecDepth 100000 in
set_option maxHeartbeats 2000000 in
theorem taken1_in (F : Fence) (n : Nat) (hf : F.fn 93) (hro : F.round = none) (hn : 1 ≤ n) (l B1 B2 n₀ : Nat) (A : Option Addr) (m c : Nat) (L : List AK) (now : Int) (hm : m ≤ 9223372036854775807) (hLl : L.length = m)
    (J Jx : List {k : AK // k ∈ L} → World → Prop) (W : World) (hJ : AbidesFrom W.heap.size J)
    (hY : ∀ pre x W1, J pre W1 → pre.length < L.length → YieldAt F (n - 1) Try.prog l #[x.1.v] W1 fun e W' =>
      (e = .returned (.bool true) ∧ J (pre ++ [x]) W' ∧ Below n₀ W1 W') ∨ (e = .returned (.bool false) ∧ Jx (pre ++ [x]) W'))
    (hn₀ : n₀ ≤ W.heap.size) (hb1 : B1 < n₀) (hb2 : B2 < n₀) (hB1 : W.cell? ⟨B1, 0, none⟩ = some (.slice A m c)) (hB2 : W.cell? ⟨B2, 0, none⟩ = some (.int .i64 now)) (hL : Reads W n₀ 7 A m (L.flatMap AK.cells)) (h0 : J [] W) :
    CallsIn F n Try.prog 93 #[.func (.yield l) #[] #[], .pointer (some ⟨B1, 0, none⟩), .pointer (some ⟨B2, 0, none⟩)] W fun e W' => (∃ v, e = .returned v) ∧
      ((∃ ys, ys = takenTo L now L.length ∧ J ys W') ∨ (∃ pre, pre <+: takenTo L now L.length ∧ Jx pre W')) := by
  have HL := Lib.hid hL
  have HJ0 := Lib.hid h0
  clear hL h0
  refine callsIn_of_wp Try.func93 rfl hf ?_ hro
  simp only [Try.ntmps93, List.size_toArray, List.length_cons, List.length_nil, Nat.reduceAdd, Nat.reduceSub, Array.replicate_succ, Array.replicate_zero, List.push_toArray, List.append_toArray, List.nil_append, List.cons_append]
  gi_wp2
  gi_loopw [8] (fun i wr => ∃ j : Nat, i = .int .i64 j ∧ j ≤ m ∧ J (takenTo L now j) wr ∧ Below n₀ W wr)
    (fun i _ => m - (intOf i).toNat)
  case atStart => exact ⟨0, rfl, by omega, HJ0.out, Below.refl _ _⟩
  case round =>
    obtain ⟨j, rfl, hj, hJs, hb⟩ := hrel
    have HB := Lib.hid hb
    have d2 : wr.cell? ⟨B2, 0, none⟩ = some (.int .i64 now) := (hb.cell (p := ⟨B2, 0, none⟩) hb2).trans hB2
    clear hb
    by_cases hlt : j < m
    · obtain ⟨k, hk⟩ : ∃ k, L[j]? = some k := ⟨_, List.getElem?_eq_getElem (by omega)⟩
      have hk := Lib.hid hk
      obtain ⟨ad, rfl⟩ : ∃ ad, A = some ad := by obtain ⟨ad, e, _⟩ := HL.out.2 (by omega); exact ⟨ad, e⟩
      obtain ⟨_, c0, c1, c2, c3, c4, c5, c6⟩ := row_at (HL.out.below HB.out) hlt hk.out
      have hlen := takenTo_len L now j
      obtain ⟨id, kind, S, sn, sc, sf, su, tf, tu, bs⟩ := k
      simp only at c0 c1 c2 c3 c4 c5 c6
      have hB1' : Below n₀ W (wr.alloc (.cells #[.int .u8 id, .int .u16 kind, .slice S sn sc, .int .i64 sf, .int .i64 su, .int .i64 tf, .int .i64 tu] 70)) := HB.out.alloc (Nat.le_trans hn₀ HB.out.size) _
      have HB1' := Lib.hid hB1'
      clear hB1'
      have d3 : (wr.alloc (.cells #[.int .u8 id, .int .u16 kind, .slice S sn sc, .int .i64 sf, .int .i64 su, .int .i64 tf, .int .i64 tu] 70)).cell? ⟨B2, 0, none⟩ = some (.int .i64 now) := by rw [World.cell?_alloc_lt wr _ ⟨B2, 0, none⟩ (cell_lt d2)]; exact d2
      by_cases g1 : tf ≤ now
      · by_cases g2 : now ≤ tu
        · have hJ1 : J (takenTo L now j) (wr.alloc (.cells #[.int .u8 id, .int .u16 kind, .slice S sn sc, .int .i64 sf, .int .i64 su, .int .i64 tf, .int .i64 tu] 70)) := hJ _ wr _ none hJs (World.grownBy_alloc wr _ none) (fun r e => by cases e)
          obtain ⟨fn, tmps, assign, body, hy, hR⟩ := hY _ ⟨_, List.mem_of_getElem? hk.out⟩ _ hJ1 (by omega)
          have HST := Lib.hid (takenTo_yes (now := now) hk.out (by simp [tkB, g1, g2]))
          have HP := Lib.hid (takenTo_pre L now (j := j + 1) (by omega))
          dsimp only at hy
          gi_wp2
          refine hR.mono ?_
          rintro e W3 (⟨rfl, hJ3, hk3⟩ | ⟨rfl, hJx3⟩)
          · rw [← HST.out] at hJ3
            gi_wp2
            go_roundw
            case rel => exact ⟨j + 1, by simp, by omega, hJ3, HB1'.out.trans hk3⟩
            case measure => simp [intOf]; omega
          · rw [← HST.out] at hJx3
            gi_wp2
            refine bodyPost_ret (results_none rfl _ _ _) rfl ?_
            exact ⟨⟨_, rfl⟩, .inr ⟨_, HP.out, hJx3⟩⟩
        · have g2' : decide (now ≤ tu) = false := decide_eq_false g2
          have HST := Lib.hid (takenTo_no (now := now) hk.out (by simp [tkB, g2]))
          have hJ1 : J (takenTo L now j) (wr.alloc (.cells #[.int .u8 id, .int .u16 kind, .slice S sn sc, .int .i64 sf, .int .i64 su, .int .i64 tf, .int .i64 tu] 70)) := hJ _ wr _ none hJs (World.grownBy_alloc wr _ none) (fun r e => by cases e)
          rw [← HST.out] at hJ1
          gi_wp2
          refine ⟨fun _ h => (by cases h), ?_⟩
          gi_wp2
          go_roundw
          case rel => exact ⟨j + 1, by simp, by omega, hJ1, HB1'.out⟩
          case measure => simp [intOf]; omega
      · have g1' : decide (tf ≤ now) = false := decide_eq_false g1
        have HST := Lib.hid (takenTo_no (now := now) hk.out (by simp [tkB, g1]))
        have hJ1 : J (takenTo L now j) (wr.alloc (.cells #[.int .u8 id, .int .u16 kind, .slice S sn sc, .int .i64 sf, .int .i64 su, .int .i64 tf, .int .i64 tu] 70)) := hJ _ wr _ none hJs (World.grownBy_alloc wr _ none) (fun r e => by cases e)
        rw [← HST.out] at hJ1
        gi_wp2
        refine ⟨fun _ h => (by cases h), ?_⟩
        gi_wp2
        go_roundw
        case rel => exact ⟨j + 1, by simp, by omega, hJ1, HB1'.out⟩
        case measure => simp [intOf]; omega
    · obtain rfl : j = m := by omega
      gi_wp2
      go_end0
      exact ⟨⟨_, rfl⟩, .inl ⟨_, by rw [← hLl], hJs⟩⟩
end Go.Proofs.Ytkgdeneonobibaa
