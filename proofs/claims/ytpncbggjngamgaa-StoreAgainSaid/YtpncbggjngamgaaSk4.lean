/-
  slices.SortFunc at keys, by order.Keys; SortedFunc over a map's keys. Printed by gen_sk2.py.
-/
import Derived.Test.YtpncbggjngamgaaSk3
import Derived.Test.YtpncbggjngamgaaSk1
import Derived.Test.YtpncbggjngamgaaSort
namespace Go.Proofs.Ytpncbggjngamgaa
set_option linter.unusedVariables false
open Go.RowKit Go.Shelf Go.Sort

theorem flatK_eq (L : List Ky3) : flatK keyC 3 L.toArray = (L.flatMap keyC).toArray := by
  have hl : (L.flatMap keyC).length = L.length * 3 := flatG_len keyC_len L
  apply ext_get!
  · rw [size_flatK, List.size_toArray, List.size_toArray, hl]
  · intro t ht
    rw [size_flatK, List.size_toArray] at ht
    rw [get_flatK _ _ _ _ (by simpa using ht)]
    have hq : t / 3 < L.length := by omega
    have he : L[t / 3]? = some L[t / 3] := List.getElem?_eq_getElem hq
    have hr : t % 3 < (keyC (L[t / 3])).length := by rw [keyC_len]; omega
    have h := flatG_get keyC_len L (t / 3) (t % 3) _ _ he (List.getElem?_eq_getElem hr)
    rw [show t / 3 * 3 + t % 3 = t by omega] at h
    have h1 : L.toArray[t / 3]! = L[t / 3] := by rw [getElem!_pos _ _ (by simpa using hq)]; simp
    have h2 : (L.flatMap keyC).toArray[t]! = (L.flatMap keyC)[t]'(by omega) := by rw [getElem!_pos _ _ (by simpa [hl] using ht)]; simp
    rw [h1, h2, getElem!_pos (keyC (L[t / 3])) (t % 3) hr]
    rw [List.getElem?_eq_getElem (by omega)] at h
    injection h with h
    exact h.symm
/-- What the sort leaves. -/
structure Sorted_ (L L' : List Ky3) : Prop where
  perm : L'.Perm L
  asc : ∀ (i j : Nat) (a b : Ky3), i < j → L'[i]? = some a → L'[j]? = some b → ltK b a = false
theorem sorted_of {L : List Ky3} {d' : Array Ky3} (hp : PermIn 0 L.toArray.size L.toArray d') (hs : SortedIn (ltOf cmpK) 0 L.toArray.size d') : Sorted_ L d'.toList := by
  obtain ⟨h1, _, h2⟩ := hp
  refine ⟨?_, fun i j a b hij ha hb => ?_⟩
  · have e1 : d'.extract 0 L.toArray.size = d' := by rw [← h1]; simp
    rw [e1] at h2
    simpa using h2
  · have hj := (List.getElem?_eq_some_iff.1 hb).1
    have hi := (List.getElem?_eq_some_iff.1 ha).1
    have h := hs i j (Nat.zero_le _) hij (by rw [← h1]; simpa using hj)
    rw [ltOf_cmpK] at h
    have e1 : d'[i]! = a := by rw [getElem!_pos _ _ (by simpa using hi)]; have := (List.getElem?_eq_some_iff.1 ha).2; simpa using this
    have e2 : d'[j]! = b := by rw [getElem!_pos _ _ (by simpa using hj)]; have := (List.getElem?_eq_some_iff.1 hb).2; simpa using this
    rw [e1, e2] at h
    exact h
theorem blk_sorted {w : World} {blk : Nat} {t : TypeId} {cur : Array Value} (hB : Blk w blk t cur) (n : Nat) (d : Array Ky3) (os : Array Obj) :
    Blk (sortWorldK keyC 3 w blk 0 n d os) blk t (putCells id 0 (flatK keyC 3 d) cur) := by
  have hlt := (Array.getElem?_eq_some_iff.1 hB).1
  have hB' : w.heap[blk]? = some (.cells cur t) := hB
  show ((w.heap.modify blk (onCells (putCells id 0 (flatK keyC 3 d)))) ++ os)[blk]? = _
  rw [Array.getElem?_append_left (by rw [Array.size_modify]; exact hlt), Array.getElem?_modify, if_pos rfl, hB']
  rfl
theorem below_sorted (w : World) (blk n : Nat) (d : Array Ky3) (os : Array Obj) (hlt : blk < w.heap.size) : RowKit.Below blk w (sortWorldK keyC 3 w blk 0 n d os) := by
  refine ⟨rfl, rfl, rfl, ?_, fun k hk => ?_⟩
  · show _ ≤ ((w.heap.modify blk (onCells (putCells id 0 (flatK keyC 3 d)))) ++ os).size
    rw [Array.size_append, Array.size_modify]; omega
  · show ((w.heap.modify blk (onCells (putCells id 0 (flatK keyC 3 d)))) ++ os)[k]? = _
    rw [Array.getElem?_append_left (by rw [Array.size_modify]; omega), Array.getElem?_modify, if_neg (by omega)]
theorem take_put (F cur : Array Value) (h : F.size ≤ cur.size) : (putCells id 0 F cur).toList.take F.size = F.toList := by
  apply List.ext_getElem?
  intro i
  rw [List.getElem?_take]
  by_cases hi : i < F.size
  · rw [if_pos hi]
    simp only [Array.getElem?_toList, putCells, Array.getElem?_mapIdx]
    rw [Array.getElem?_eq_getElem (by omega), Array.getElem?_eq_getElem hi]
    simp [hi]
  · rw [if_neg hi, Array.getElem?_toList, Array.getElem?_eq_none (by omega)]
theorem size_put (F cur : Array Value) : (putCells id 0 F cur).size = cur.size := by simp [putCells]
theorem sort_any (blk cap : Nat) (L : List Ky3) (cur : Array Value) (w : World) (hB : Blk w blk 45 cur) (hcs : L.length * 3 ≤ cur.size) (ht : cur.toList.take (L.length * 3) = L.flatMap keyC) (hm : L.length ≤ 1048576) :
    Calls Try.prog 81 #[.slice (some ⟨blk, 0, none⟩) L.length cap, .func (.func 15) #[] #[]] w fun e w' => e = .returned (.tuple #[]) ∧ ∃ L' cur', Sorted_ L L' ∧ Blk w' blk 45 cur' ∧ cur'.size = cur.size ∧
      cur'.toList.take (L.length * 3) = L'.flatMap keyC ∧ RowKit.Below blk w w' := by
  have eg : ∀ args w, (callFunc 15 args).run Try.prog w = .ok (.enter 15 args) w := enters_of Try.func15 (by kernel_rfl) rfl
  have hlt := (Array.getElem?_eq_some_iff.1 hB).1
  have hH : HoldsK keyC 3 w blk 0 L.toArray := by
    intro j hj
    rw [flatK_eq] at hj ⊢
    have hl : (L.flatMap keyC).length = L.length * 3 := flatG_len keyC_len L
    rw [List.size_toArray, hl] at hj
    rw [Nat.zero_add, hB.cell]
    refine ⟨?_, hB.frozen _⟩
    rw [getElem!_pos _ _ (by simpa [hl] using hj)]
    have h1 : (cur.toList.take (L.length * 3))[j]? = cur[j]? := by rw [List.getElem?_take, if_pos hj, Array.getElem?_toList]
    rw [← h1, ht, List.getElem?_eq_getElem (by omega)]
    simp
  have H := AnyQ.slices_SortFunc Try.sortKy 3 Try.isAgg45 Try.sizeOf45 keyC keyC_len keyC_one cmpK swo_cmpK 15 #[] blk 0 cap L.toArray w eg (cmpLays_key blk 0 _ w) hH hlt (by rw [List.size_toArray]; omega)
  change Calls Try.prog 81 _ _ _ at H
  rw [List.size_toArray] at H
  refine H.mono ?_
  rintro e w' ⟨rfl, d', n, os, hp, hs, rfl⟩
  have hsz : d'.size = L.length := by have := hp.1; simpa using this
  have hF : (flatK keyC 3 d').size = L.length * 3 := by rw [size_flatK, hsz]
  refine ⟨rfl, d'.toList, _, sorted_of (by simpa using hp) (by simpa using hs), blk_sorted hB n d' os, size_put _ _, ?_, below_sorted w blk n d' os hlt⟩
  rw [← hF, take_put _ _ (by omega)]
  have := flatK_eq d'.toList
  rw [Array.toArray_toList] at this
  rw [this]
set_option maxHeartbeats 2000000 in
theorem ins_none (fv : Value) (w : World) : Calls Try.prog 88 #[.slice none 0 0, .int .i64 0, .int .i64 0, fv] w fun e w' => e = .returned (.tuple #[]) ∧ w' = w := by
  go_enter Try.func88, Try.ntmps88
  go_wp2
  refine wp_loop_rounds 1 ?_
  rw [rounds_succ]
  go_wp2
  go_end0
  exact ⟨rfl, rfl⟩
set_option maxHeartbeats 2000000 in
theorem pdq_none (lim : Int) (fv : Value) (w : World) : Calls Try.prog 86 #[.slice none 0 0, .int .i64 0, .int .i64 0, .int .i64 lim, fv] w fun e w' => e = .returned (.tuple #[]) ∧ w' = w := by
  go_enter Try.func86, Try.ntmps86
  go_wp2
  refine wp_loop_rounds 1 ?_
  rw [rounds_succ]
  go_wp2_with (go_at_call 88; refine (ins_none fv _).mono ?_; rintro e w' ⟨rfl, rfl⟩)
  (try simp only [Exit.inBlock, Exit.then]); refine bodyPost_ret (results_none rfl _ _ _) rfl ?_
  exact ⟨rfl, rfl⟩
theorem len_zero (w : World) : Calls Try.prog 87 #[.int .u64 0] w fun e w' => e = .returned (.int .i64 (Lib.bitLen 0 : Nat)) ∧ w' = w := by
  have h := Any.bits_Len (SlLaysF0.n15.bits (P := Try.prog) (ρ := Try.sortKy_ren) { Try.sortKy with }) 0 w (by omega) (by omega)
  exact h
set_option maxHeartbeats 2000000 in
theorem sort_none (fv : Value) (w : World) : Calls Try.prog 81 #[.slice none 0 0, fv] w fun e w' => e = .returned (.tuple #[]) ∧ w' = w := by
  go_enter Try.func81, Try.ntmps81
  go_wp2_with (first | (go_at_call 87; refine (len_zero _).mono ?_; rintro e w' ⟨rfl, rfl⟩) | (go_at_call 86; refine (pdq_none _ fv _).mono ?_; rintro e w' ⟨rfl, rfl⟩))
  go_end0
  exact ⟨rfl, rfl⟩
/-- A map's keys, in order, in a row of the call's own. -/
structure AllK (w w' : World) (L : List (Ky3 × Value)) (N : Nat) (v : Value) : Prop where
  ex : ∃ L', Sorted_ (L.map (·.1)) L' ∧ OwnW w' 45 3 v N (L'.flatMap keyC)
  base : ∀ i, v.ownBlock = some i → w.heap.size ≤ i
  bel : RowKit.Below w.heap.size w w'
theorem sortedFunc_any (B1 bm N : Nat) (f : Ky3 → Option Value) (es : Array MapEntry) (clock : Nat) (L : List (Ky3 × Value)) (w : World) (hB1 : w.cell? ⟨B1, 0, none⟩ = some (.map (some bm))) (hL : MapFs keyV w bm f N es clock L) (hm : N ≤ 1048576) :
    Calls Try.prog 64 #[.func (.func 82) #[] #[.pointer (some ⟨B1, 0, none⟩)], .func (.func 15) #[] #[]] w fun e w' =>
      ∃ v, e = .returned v ∧ AllK w w' L N v := by
  have H := Lib.hid (collect_any B1 bm N f es clock L w hB1 hL hm)
  have HLn := Lib.hid hL.len
  clear hB1 hL
  go_enter Try.func64, Try.ntmps64
  go_wp2_with fail
  refine H.out.mono ?_
  rintro e w1 ⟨v, ys, rfl, hp, h1, h2⟩
  have hyl : ys.length = N := by have := hp.length_eq; rw [List.length_map, HLn.out] at this; exact this
  clear HLn
  subst hyl
  have HP := Lib.hid hp
  clear hp
  have hb2 := Lib.hid h2
  clear h2 H
  rcases h1.2 with ⟨rfl, h0⟩ | ⟨g, cap, cur, rfl, hbase, hk, hnc, hcm, hcs, ht⟩
  · have hnil : ys = [] := List.eq_nil_of_length_eq_zero h0
    subst hnil
    clear h1 h0
    go_wp2_with (go_at_call 81; refine (sort_none _ _).mono ?_; rintro e w' ⟨rfl, rfl⟩)
    go_ret
    exact ⟨_, rfl, ⟨[], ⟨HP.out, fun i j a b _ h => by simp at h⟩, OwnW.nil _ _ _⟩, (fun i h => by cases h), hb2.out⟩
  · have hS := Lib.hid (sort_any g cap ys cur w1 hk (by rw [hcs]; exact Nat.mul_le_mul_right 3 hnc) ht hm)
    have HK := Lib.hid (And.intro hnc (And.intro hcm (And.intro hcs hbase)))
    clear h1 hk hnc hcm hcs hbase ht
    go_wp2_with fail
    refine hS.out.mono ?_
    rintro e w2 ⟨rfl, L', cur', hs, hB, hsz, ht, hb⟩
    have HS := Lib.hid (And.intro hs (And.intro hB (And.intro hsz (And.intro ht hb))))
    clear hs hB hsz ht hb hS
    go_wp2
    go_ret
    obtain ⟨hs, hB, hsz, ht, hb⟩ := HS.out
    obtain ⟨hnc, hcm, hcs, hbase⟩ := HK.out
    have hl := hs.perm.length_eq
    have hbb : ∀ i, Value.ownBlock (.slice (some ⟨g, 0, none⟩) ys.length cap) = some i → w.heap.size ≤ i := by
      intro i h
      have : g = i := by simpa [Value.ownBlock] using h
      omega
    have hO : OwnW w2 45 3 (.slice (some ⟨g, 0, none⟩) ys.length cap) ys.length (L'.flatMap keyC) := ⟨by rw [flatG_len keyC_len, hl], .inr ⟨g, cap, cur', rfl, hB, hnc, by unfold maxLen at hcm; exact hcm, by rw [hsz, hcs]; exact Nat.le_refl _, ht⟩⟩
    exact ⟨_, rfl, ⟨⟨L', ⟨hs.perm.trans HP.out, hs.asc⟩, hO⟩, hbb, hb2.out.trans (hb.mono hbase)⟩⟩
end Go.Proofs.Ytpncbggjngamgaa
