/-
  slices.SortFunc at the queue's entries, All.
-/
import Derived.Test.YtgpgcjdbppehjaaQue22
import Derived.Test.YtgpgcjdbppehjaaSort
namespace Go.Proofs.Ytgpgcjdbppehjaa
set_option linter.unusedVariables false
open Go.RowKit Go.Shelf Go.Sort

theorem swo_cmpE : SWO (ltOf cmpE) := ⟨fun x => by rw [ltOf_cmpE]; exact lessE_irrefl x, fun x y z h k => by rw [ltOf_cmpE] at *; exact lessE_trans h k, fun x y z h k => by rw [ltOf_cmpE] at *; exact geE_trans h k⟩
theorem flatK_eq (L : List Ent) : flatK Ent.cells 3 L.toArray = (L.flatMap Ent.cells).toArray := by
  have hl : (L.flatMap Ent.cells).length = L.length * 3 := flatG_len ent_len L
  apply ext_get!
  · rw [size_flatK, List.size_toArray, List.size_toArray, hl]
  · intro t ht
    rw [size_flatK, List.size_toArray] at ht
    rw [get_flatK _ _ _ _ (by simpa using ht)]
    have hq : t / 3 < L.length := by omega
    have he : L[t / 3]? = some L[t / 3] := List.getElem?_eq_getElem hq
    have hr : t % 3 < (L[t / 3]).cells.length := by rw [ent_len]; omega
    have h := flatG_get ent_len L (t / 3) (t % 3) _ _ he (List.getElem?_eq_getElem hr)
    rw [show t / 3 * 3 + t % 3 = t by omega] at h
    have h1 : L.toArray[t / 3]! = L[t / 3] := by rw [getElem!_pos _ _ (by simpa using hq)]; simp
    have h2 : (L.flatMap Ent.cells).toArray[t]! = (L.flatMap Ent.cells)[t]'(by omega) := by rw [getElem!_pos _ _ (by simpa [hl] using ht)]; simp
    rw [h1, h2, getElem!_pos (L[t / 3]).cells (t % 3) hr]
    rw [List.getElem?_eq_getElem (by omega)] at h
    injection h with h
    exact h.symm
/-- What the sort leaves. -/
structure Sorted_ (L L' : List Ent) : Prop where
  perm : L'.Perm L
  asc : ∀ (i j : Nat) (a b : Ent), i < j → L'[i]? = some a → L'[j]? = some b → lessE b a = false
theorem sorted_of {L : List Ent} {d' : Array Ent} (hp : PermIn 0 L.toArray.size L.toArray d') (hs : SortedIn (ltOf cmpE) 0 L.toArray.size d') : Sorted_ L d'.toList := by
  obtain ⟨h1, _, h2⟩ := hp
  refine ⟨?_, fun i j a b hij ha hb => ?_⟩
  · have e1 : d'.extract 0 L.toArray.size = d' := by rw [← h1]; simp
    rw [e1] at h2
    simpa using h2
  · have hj := (List.getElem?_eq_some_iff.1 hb).1
    have hi := (List.getElem?_eq_some_iff.1 ha).1
    have h := hs i j (Nat.zero_le _) hij (by rw [← h1]; simpa using hj)
    rw [ltOf_cmpE] at h
    have e1 : d'[i]! = a := by rw [getElem!_pos _ _ (by simpa using hi)]; have := (List.getElem?_eq_some_iff.1 ha).2; simpa using this
    have e2 : d'[j]! = b := by rw [getElem!_pos _ _ (by simpa using hj)]; have := (List.getElem?_eq_some_iff.1 hb).2; simpa using this
    rw [e1, e2] at h
    exact h
theorem blk_sorted {w : World} {blk : Nat} {t : TypeId} {cur : Array Value} (hB : Blk w blk t cur) (n : Nat) (d : Array Ent) (os : Array Obj) :
    Blk (sortWorldK Ent.cells 3 w blk 0 n d os) blk t (putCells id 0 (flatK Ent.cells 3 d) cur) := by
  have hlt := (Array.getElem?_eq_some_iff.1 hB).1
  have hB' : w.heap[blk]? = some (.cells cur t) := hB
  show ((w.heap.modify blk (onCells (putCells id 0 (flatK Ent.cells 3 d)))) ++ os)[blk]? = _
  rw [Array.getElem?_append_left (by rw [Array.size_modify]; exact hlt), Array.getElem?_modify, if_pos rfl, hB']
  rfl
theorem below_sorted (w : World) (blk n : Nat) (d : Array Ent) (os : Array Obj) (hlt : blk < w.heap.size) : RowKit.Below blk w (sortWorldK Ent.cells 3 w blk 0 n d os) := by
  refine ⟨rfl, rfl, rfl, ?_, fun k hk => ?_⟩
  · show _ ≤ ((w.heap.modify blk (onCells (putCells id 0 (flatK Ent.cells 3 d)))) ++ os).size
    rw [Array.size_append, Array.size_modify]; omega
  · show ((w.heap.modify blk (onCells (putCells id 0 (flatK Ent.cells 3 d)))) ++ os)[k]? = _
    rw [Array.getElem?_append_left (by rw [Array.size_modify]; omega), Array.getElem?_modify, if_neg (by omega)]
theorem take_put (F cur : Array Value) (h : F.size ≤ cur.size) : (putCells id 0 F cur).toList.take F.size = F.toList := by
  apply List.ext_getElem?
  intro i
  rw [List.getElem?_take]
  by_cases hi : i < F.size
  · rw [if_pos hi]
    simp only [Array.getElem?_toList, putCells, Array.getElem?_mapIdx]
    rw [Array.getElem?_eq_getElem (by omega), Array.getElem?_eq_getElem hi]
    simp [hi]
  · rw [if_neg hi, Array.getElem?_toList, Array.getElem?_eq_none (by omega)]
theorem size_put (F cur : Array Value) : (putCells id 0 F cur).size = cur.size := by simp [putCells]
theorem sort_any (blk cap : Nat) (L : List Ent) (cur : Array Value) (w : World) (hB : Blk w blk 32 cur) (hcs : L.length * 3 ≤ cur.size) (ht : cur.toList.take (L.length * 3) = L.flatMap Ent.cells) (hm : L.length ≤ 1048576) :
    Calls Try.prog 42 #[.slice (some ⟨blk, 0, none⟩) L.length cap, .func (.func 29) #[] #[]] w fun e w' => e = .returned (.tuple #[]) ∧ ∃ L' cur', Sorted_ L L' ∧ Blk w' blk 32 cur' ∧ cur'.size = cur.size ∧
      cur'.toList.take (L.length * 3) = L'.flatMap Ent.cells ∧ RowKit.Below blk w w' := by
  have eg : ∀ args w, (callFunc 29 args).run Try.prog w = .ok (.enter 29 args) w := enters_of Try.func29 (by kernel_rfl) rfl
  have hlt := (Array.getElem?_eq_some_iff.1 hB).1
  have hH : HoldsK Ent.cells 3 w blk 0 L.toArray := by
    intro j hj
    rw [flatK_eq] at hj ⊢
    have hl : (L.flatMap Ent.cells).length = L.length * 3 := flatG_len ent_len L
    rw [List.size_toArray, hl] at hj
    rw [Nat.zero_add, hB.cell]
    refine ⟨?_, hB.frozen _⟩
    rw [getElem!_pos _ _ (by simpa [hl] using hj)]
    have h1 : (cur.toList.take (L.length * 3))[j]? = cur[j]? := by rw [List.getElem?_take, if_pos hj, Array.getElem?_toList]
    rw [← h1, ht, List.getElem?_eq_getElem (by omega)]
    simp
  have H := AnyQ.slices_SortFunc Try.sortEnt 3 Try.isAgg32 Try.sizeOf32 Ent.cells ent_len ent_one cmpE swo_cmpE 29 #[] blk 0 cap L.toArray w eg (cmpLays_ent blk 0 _ w) hH hlt (by rw [List.size_toArray]; omega)
  change Calls Try.prog 42 _ _ _ at H
  rw [List.size_toArray] at H
  refine H.mono ?_
  rintro e w' ⟨rfl, d', n, os, hp, hs, rfl⟩
  have hsz : d'.size = L.length := by have := hp.1; simpa using this
  have hF : (flatK Ent.cells 3 d').size = L.length * 3 := by rw [size_flatK, hsz]
  refine ⟨rfl, d'.toList, _, sorted_of (by simpa using hp) (by simpa using hs), blk_sorted hB n d' os, size_put _ _, ?_, below_sorted w blk n d' os hlt⟩
  rw [← hF, take_put _ _ (by omega)]
  have := flatK_eq d'.toList
  rw [Array.toArray_toList] at this
  rw [this]
end Go.Proofs.Ytgpgcjdbppehjaa
