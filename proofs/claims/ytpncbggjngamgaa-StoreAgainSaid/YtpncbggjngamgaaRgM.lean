/-
  A range over a map whose keys are plain data: what is still to come, the step, the keys that came.
-/
import Derived.Test.YtpncbggjngamgaaMapF
import Derived.Maps.RangeWalk
import Derived.Sort.MapsRangeIn
import Derived.RangeFuncSeq
namespace Go.Proofs.Ytpncbggjngamgaa
set_option linter.unusedVariables false
set_option linter.unusedSectionVars false
open Go.RowKit
open Go.ChangeMaps (setBlock)
open Go.MapKept (heap_set)

section
variable {P : Program} {κ : Type} [DecidableEq κ] {enc : κ → Value} {dec : Value → κ}

theorem filter_born {l : List MapEntry} {e : MapEntry} (hn : (l.map (·.born)).Nodup) (he : e ∈ l) : (e :: l.filter (fun x => x.born != e.born)).Perm l := by
  induction l with
  | nil => cases he
  | cons a r ih =>
    simp only [List.map_cons, List.nodup_cons] at hn
    rcases List.mem_cons.1 he with rfl | h
    · have h1 : r.filter (fun x => x.born != e.born) = r := List.filter_eq_self.2 fun x hx => by
        simp only [bne_iff_ne, ne_eq]
        intro e1
        exact hn.1 (e1 ▸ List.mem_map_of_mem hx)
      rw [List.filter_cons_of_neg (by simp), h1]
    · have h1 : a.born ≠ e.born := fun e1 => hn.1 (e1 ▸ List.mem_map_of_mem h)
      rw [List.filter_cons_of_pos (by simpa using h1)]
      exact (List.Perm.swap _ _ _).trans ((ih hn.2 h).cons a)
/-- A range under way: the keys that came are pre. -/
structure RgF (enc : κ → Value) (w : World) (b r : Nat) (f : κ → Option Value) (n : Nat) (es : Array MapEntry) (clock : Nat) (L : List (κ × Value)) (since : Nat) (seen : Array Nat) (c0 : Nat) (pre : List κ) : Prop where
  m : MapFs enc w b f n es clock L
  it : w.heap[r]? = some (.mapIter (some b) since seen c0)
  old : ∀ x ∈ es.toList, x.born < since
  sc : since ≤ c0
  sk : since ≤ clock
  perm : (pre.map enc ++ (leftOf es seen).toList.map (·.key)).Perm (es.toList.map (·.key))
theorem MapFs.keyList {w : World} {b n : Nat} {f : κ → Option Value} {es : Array MapEntry} {clock : Nat} {L : List (κ × Value)} (h : MapFs enc w b f n es clock L) : es.toList.map (·.key) = (L.map (·.1)).map enc := by
  have := congrArg (List.map Prod.fst) h.ents
  rw [List.map_map, List.map_map] at this
  rw [List.map_map]
  exact this
theorem leftOf_push (es : Array MapEntry) (seen : Array Nat) (x : Nat) : (leftOf es (seen.push x)).toList = (leftOf es seen).toList.filter (fun e => e.born != x) := by
  unfold leftOf
  rw [Array.toList_filter, Array.toList_filter, List.filter_filter]
  apply List.filter_congr
  intro e _
  simp only [Array.contains_push, Bool.not_or]
  rw [Bool.and_comm]
  congr 1
theorem RgF.start {w : World} {b n : Nat} {f : κ → Option Value} {es : Array MapEntry} {clock : Nat} {L : List (κ × Value)} (h : MapFs enc w b f n es clock L) : RgF enc (w.alloc (.mapIter (some b) clock #[] clock)) b w.heap.size f n es clock L clock #[] clock [] := by
  have hl : b < w.heap.size := (Array.getElem?_eq_some_iff.1 h.heap).1
  refine ⟨⟨(Below.heap_alloc _ _ _ hl).trans h.heap, h.ents, h.keys, h.at_, h.len, h.born, h.past⟩, heap_alloc_new w _, h.past, Nat.le_refl _, Nat.le_refl _, ?_⟩
  have e1 : (leftOf es #[]).toList = es.toList := by
    unfold leftOf
    rw [Array.toList_filter]
    exact List.filter_eq_self.2 (by simp)
  rw [e1]
  simp
theorem RgF.ne {w : World} {b r n : Nat} {f : κ → Option Value} {es : Array MapEntry} {clock : Nat} {L : List (κ × Value)} {since c0 : Nat} {seen : Array Nat} {pre : List κ} (h : RgF enc w b r f n es clock L since seen c0 pre) : r ≠ b := fun e => by
  have h1 := h.it
  rw [e, h.m.heap] at h1
  cases h1
theorem RgF.lt {w : World} {b r n : Nat} {f : κ → Option Value} {es : Array MapEntry} {clock : Nat} {L : List (κ × Value)} {since c0 : Nat} {seen : Array Nat} {pre : List κ} (h : RgF enc w b r f n es clock L since seen c0 pre) : r < w.heap.size := (Array.getElem?_eq_some_iff.1 h.it).1
theorem RgF.left {w : World} {b r n : Nat} {f : κ → Option Value} {es : Array MapEntry} {clock : Nat} {L : List (κ × Value)} {since c0 : Nat} {seen : Array Nat} {pre : List κ} (h : RgF enc w b r f n es clock L since seen c0 pre) : w.rangeLeft b r = (leftOf es seen).size := by
  simp only [World.rangeLeft, h.m.heap, h.it]
/-- Maps and what ranges over them stay where they are. -/
theorem RgF.walks {w w' : World} {b r n : Nat} {f : κ → Option Value} {es : Array MapEntry} {clock : Nat} {L : List (κ × Value)} {since c0 : Nat} {seen : Array Nat} {pre : List κ} (h : RgF enc w b r f n es clock L since seen c0 pre) (k : KeepsWalks w w') : RgF enc w' b r f n es clock L since seen c0 pre :=
  ⟨⟨k.same _ _ h.m.heap rfl, h.m.ents, h.m.keys, h.m.at_, h.m.len, h.m.born, h.m.past⟩, k.same _ _ h.it rfl, h.old, h.sc, h.sk, h.perm⟩
theorem RgF.len {w : World} {b r n : Nat} {f : κ → Option Value} {es : Array MapEntry} {clock : Nat} {L : List (κ × Value)} {since c0 : Nat} {seen : Array Nat} {pre : List κ} (h : RgF enc w b r f n es clock L since seen c0 pre) : pre.length + (leftOf es seen).size = n := by
  have h1 := h.perm.length_eq
  have h2 := congrArg List.length h.m.keyList
  simp only [List.length_map] at h2
  simp only [List.length_append, List.length_map, Array.length_toList] at h1 h2
  rw [h1, h2, h.m.len]
theorem RgF.done {w : World} {b r n : Nat} {f : κ → Option Value} {es : Array MapEntry} {clock : Nat} {L : List (κ × Value)} {since c0 : Nat} {seen : Array Nat} {pre : List κ} (h : RgF enc w b r f n es clock L since seen c0 pre) (hd : ∀ x, dec (enc x) = x) (h0 : (leftOf es seen).size = 0) : pre.Perm (L.map (·.1)) := by
  have h1 := h.perm
  have h2 : (leftOf es seen).toList = [] := List.eq_nil_of_length_eq_zero (by rw [Array.length_toList]; exact h0)
  rw [h2, h.m.keyList] at h1
  simp only [List.map_nil, List.append_nil] at h1
  have h3 := h1.map dec
  rw [List.map_map, List.map_map] at h3
  have e : dec ∘ enc = id := funext hd
  rw [e] at h3
  simpa using h3
/-- The step: another entry comes. -/
theorem RgF.step {w w1 : World} {b r n : Nat} {f : κ → Option Value} {es : Array MapEntry} {clock : Nat} {L : List (κ × Value)} {since c0 : Nat} {seen : Array Nat} {pre : List κ} (h : RgF enc w b r f n es clock L since seen c0 pre) {e : MapEntry} (he : e ∈ (leftOf es seen).toList) (hw : w1 = w ∨ w1 = w.drew) :
    ∃ (x : κ) (v : Value), e.key = enc x ∧ e.val = v ∧ (x, v) ∈ L ∧ RgF enc (setBlock w1 r (.mapIter (some b) since (seen.push e.born) clock)) b r f n es clock L since (seen.push e.born) clock (pre ++ [x]) ∧
      (leftOf es (seen.push e.born)).size < (leftOf es seen).size ∧ e ∈ es.toList := by
  have hm : e ∈ es.toList := by
    unfold leftOf at he
    rw [Array.toList_filter] at he
    exact (List.mem_filter.1 he).1
  have hx : (e.key, e.val) ∈ L.map (fun p => (enc p.1, p.2)) := by
    rw [← h.m.ents]
    exact List.mem_map_of_mem (f := fun e => (e.key, e.val)) hm
  obtain ⟨⟨x, v⟩, hp, hq⟩ := List.mem_map.1 hx
  simp only [Prod.mk.injEq] at hq
  have hw1 : w1.heap = w.heap := by rcases hw with rfl | rfl <;> rfl
  have hn : ((leftOf es seen).toList.map (·.born)).Nodup := by
    unfold leftOf
    rw [Array.toList_filter]
    exact h.m.born.sublist (List.filter_sublist.map _)
  have hpf := filter_born hn he
  have hne := h.ne
  have hlt := h.lt
  have hr1 : w1.heap[r]? = some (.mapIter (some b) since seen c0) := by rw [hw1]; exact h.it
  have hset := heap_set (o' := .mapIter (some b) since (seen.push e.born) clock) hr1
  refine ⟨x, v, hq.1.symm, hq.2.symm, hp, ⟨⟨?_, h.m.ents, h.m.keys, h.m.at_, h.m.len, h.m.born, h.m.past⟩, ?_, h.old, h.sk, h.sk, ?_⟩, ?_, hm⟩
  · exact (hset.2 b (fun e1 => hne e1.symm)).trans (by rw [hw1]; exact h.m.heap)
  · exact hset.1
  · rw [leftOf_push, List.map_append, List.append_assoc]
    refine ((List.Perm.append_left _ ?_).trans h.perm)
    have := hpf.map (·.key)
    rw [List.map_cons, ← hq.1] at this
    exact this
  · have h1 := congrArg List.length (leftOf_push es seen e.born)
    have h2 := hpf.length_eq
    rw [List.length_cons] at h2
    simp only [Array.length_toList] at h1 h2
    omega
theorem grown_set {w w1 : World} {r : Nat} {o o' : Obj} (hr : w.heap[r]? = some o) (hw : w1 = w ∨ w1 = w.drew) : w.grownBy (setBlock w1 r o') (some r) := by
  have hr1 : w1.heap[r]? = some o := by rcases hw with rfl | rfl <;> exact hr
  have hset := heap_set (o' := o') hr1
  rcases hw with rfl | rfl <;> exact ⟨rfl, rfl, rfl, by simp [setBlock], fun i _ hi => hset.2 i (fun e1 => hi (by rw [e1]))⟩
variable {F : Fence} {n N : Nat} {w : World} {ops : Array Oper} {rest : List Oper} {o : Oper} {a : Act} {Q : Exit → Act → World → Prop}
theorem wpListIn_rangeF (hg : o.guard = none) (m : Operand) (t : TypeId) (hop : o.op = Op.range t m) (k e : TypeId) (ht : P.underlying t = some (.map k e)) (b : Nat) {f : κ → Option Value} {es : Array MapEntry} {clock : Nat} {L : List (κ × Value)}
    (hm : a.eval m = .map (some b)) (h : MapFs enc w b f N es clock L)
    (hK : ∀ w', RgF enc w' b w.heap.size f N es clock L clock #[] clock [] → w.grownBy w' none → w'.heap.size = w.heap.size + 1 → wpListIn F n P ops Q rest (a.put o.dst (.pointer (some ⟨w.heap.size, 0, none⟩))) w') :
    wpListIn F n P ops Q (o :: rest) a w := by
  refine wpListIn_plain hg fun K' hK' => ?_
  have hrun := run_range_map w t k e b es clock ht h.heap
  unfold Oper.wpIn
  refine ⟨?_, ?_⟩
  · simp [Oper.about, hop]
  · rw [Oper.semAt_plain F _ _ (by rw [hop]; intro c hc'; cases hc')]
    simp [execOp, hop, hm, hrun, Result.andThen]
    exact hK' _ _ (hK _ (RgF.start h) (World.grownBy_alloc w _ none) (by simp))
theorem wpListIn_nextF (hg : o.guard = none) (it : Operand) (hop : o.op = Op.next it false) (b r : Nat) {f : κ → Option Value} {es : Array MapEntry} {clock : Nat} {L : List (κ × Value)} {since c0 : Nat} {seen : Array Nat} {pre : List κ}
    (hit : a.eval it = .pointer (some ⟨r, 0, none⟩)) (h : RgF enc w b r f N es clock L since seen c0 pre)
    (hDone : (leftOf es seen).size = 0 → wpListIn F n P ops Q rest (a.put o.dst (.tuple #[.bool false])) w)
    (hMore : ∀ (x : κ) (v : Value) (w' : World) (seen' : Array Nat), (x, v) ∈ L → RgF enc w' b r f N es clock L since seen' clock (pre ++ [x]) → (leftOf es seen').size < (leftOf es seen).size → w.grownBy w' (some r) → w'.heap.size = w.heap.size →
      (Instr.entry (.pointer (some ⟨r, 0, none⟩))).run P w' = .ok (.tuple #[enc x, v]) w' → wpListIn F n P ops Q rest (a.put o.dst (.tuple #[.bool true, enc x, v])) w') :
    wpListIn F n P ops Q (o :: rest) a w := by
  refine wpListIn_plain hg fun K' hK' => ?_
  unfold Oper.wpIn
  refine ⟨by simp [Oper.about, hop], ?_⟩
  rw [Oper.semAt_plain F _ _ (by rw [hop]; intro c hc'; cases hc')]
  rcases run_next_at (P := P) w o.type r b since c0 seen es clock h.it h.m.heap h.old h.sc with ⟨h0, hrun⟩ | ⟨e, he, w1, hal, hrun⟩
  · simp [execOp, hop, hit, hrun, Result.andThen]
    exact hK' _ _ (hDone h0)
  · obtain ⟨x, v, h1, h2, h3, h4, h5, h6⟩ := h.step he hal
    have hg2 := grown_set (o' := .mapIter (some b) since (seen.push e.born) clock) h.it hal
    have hen := run_entry_at (P := P) _ r b since seen es clock e h4.it h4.m.heap h6 h4.m.born
    have hsz : (setBlock w1 r (.mapIter (some b) since (seen.push e.born) clock)).heap.size = w.heap.size := by rcases hal with rfl | rfl <;> simp [setBlock]
    rw [h1, h2] at hen
    simp [execOp, hop, hit, hrun, Result.andThen]
    rw [h1, h2]
    exact hK' _ _ (hMore x v _ _ h3 h4 h5 hg2 hsz hen)
end
end Go.Proofs.Ytpncbggjngamgaa
