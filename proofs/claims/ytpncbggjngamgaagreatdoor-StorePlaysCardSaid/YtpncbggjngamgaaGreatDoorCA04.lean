/-
  The reference's order of ages and keys: lodestarref05. Printed by gen_r05.py.
  A range over a map whose keys are plain data: what is still to come, the step, the keys that came.
  maps.Keys of the store's map: the keys, handed on one by one in some order, inside a fence. Printed by gen_sk2.py.
  slices.AppendSeq, slices.Collect over a map's keys. Printed by gen_sk2.py.
  DERIVED: THE SHELF's CONTRACTS AT THIS DUMP, IN PLAIN WORDS (tools/lay-plain.mjs out of 'YtpncbggjngamgaaGreatDoorSortLay.lean', which tools/lay-shelf.mjs wrote): THE SAME DECLARATIONS UNDER THE SAME NAMES: 'import', 'namespace', 'open', 'def', 'theorem' AND NOTHING ELSE: no command of the shelf's: FOR A HAND-IN. Each laying: the table of numbers ('.._ren') and one theorem, a field a fact of the dump's own or the kernel's comparison; each contract: ONE APPLICATION.
  slices.SortFunc at keys, by order.Keys; SortedFunc over a map's keys. Printed by gen_sk2.py.
  A region that draws its order, inside a fence: walked in an order of ours beside what holds of the world all along; a call of yield may be among its operations.
-/
import Derived.Test.YtpncbggjngamgaaGreatDoorCA03
import Derived.Maps.RangeWalk
import Derived.Sort.MapsRangeIn
import Derived.RangeFuncSeq
import Derived.RangeFuncNested
import Derived.RangeFuncBound
import Derived.RangeFuncCalls
import Derived.RangeFuncLeaves
import Derived.Shelf.Abstract
import Derived.Shelf.RegionOpen
import Derived.WalkKit
import Derived.OwnWalkIn
import Derived.TacticsInMore
import Derived.LoopNIn
import Derived.LoopIn
import Derived.Test.YtpncbggjngamgaaGreatDoorCA01
import Derived.Laws.Cover3
import Derived.Test.YtpncbggjngamgaaGreatDoorCA02
import Derived.Shelf.SlGeneric
import Derived.Shelf.SlSortCmp.WholeK
import Derived.Ground.SlsfProg
import Derived.Test.YtpncbggjngamgaaGreatDoorProg
import Derived.OrdersIn
import Derived.TacticsIn
namespace Go.Proofs.YtpncbggjngamgaaGreatDoor
set_option linter.unusedVariables false
open Go.RowKit

theorem years05 (age : Int) (w : World) (h0 : 0 ≤ age) (h1 : age ≤ 65535) :
    Calls Tryz.prog 75 #[.int .u16 age] w fun e w' => e = .returned (.int .i64 (yearsOf age)) ∧ w = w' := by
  have hb : Int.tmod age 32768 = age % 32768 := Int.tmod_eq_emod_of_nonneg h0
  have hy : Hid (yearsOf age = min (age % 32768) 3600) := rfl
  have hr0 : 0 ≤ age % 32768 := by omega
  have hr1 : age % 32768 ≤ 32767 := by omega
  have hw : IntKind.u16.wrap (age % 32768) = age % 32768 := by rw [IntKind.wrap_u16]; omega
  generalize age % 32768 = r at *
  by_cases hle : r ≤ 3600
  · have hm : Hid (min r 3600 = r) := by show _ = _; omega
    go_enter Tryz.func75, Tryz.ntmps75
    go_wp2
    go_ret
    exact ⟨by rw [hy.out, hm.out]; rfl, rfl⟩
  · have hm : Hid (min r 3600 = 3600) := by show _ = _; omega
    go_enter Tryz.func75, Tryz.ntmps75
    go_wp2
    go_ret
    exact ⟨by rw [hy.out, hm.out]; rfl, rfl⟩
theorem old05 (age : Int) (w : World) (h0 : 0 ≤ age) (h1 : age ≤ 65535) :
    Calls Tryz.prog 73 #[.int .u16 age] w fun e w' => e = .returned (.bool (yearsOf age == 3600)) ∧ w = w' := by
  go_enter Tryz.func73, Tryz.ntmps73
  go_wp2_with (go_at_call 75; refine (years05 _ _ h0 h1).mono ?_; rintro e w' ⟨rfl, rfl⟩)
  go_ret
  exact ⟨rfl, rfl⟩
theorem still05 (age : Int) (w : World) :
    Calls Tryz.prog 74 #[.int .u16 age] w fun e w' => e = .returned (.bool (decide (32768 ≤ age))) ∧ w = w' := by
  go_enter Tryz.func74, Tryz.ntmps74
  go_wp2
  go_ret
  exact ⟨rfl, rfl⟩
set_option maxHeartbeats 2000000 in
theorem age05 (a p : Int) (w : World) (h0 : 0 ≤ a) (h1 : a ≤ 65535) :
    Calls Tryz.prog 85 #[.int .u16 a, .int .i64 p] w fun e w' => e = .returned (.int .u16 (laterA a p)) ∧ w = w' := by
  by_cases ha : 32768 ≤ a
  · have ds : decide (32768 ≤ a) = true := decide_eq_true ha
    have HSt := Lib.hid (fun W : World => still05 a W)
    have hl : Hid (laterA a p = a) := laterA_same (.inl ha)
    go_enter Tryz.func85, Tryz.ntmps85
    go_wp2_with (go_at_call 74; refine (HSt.out _).mono ?_; rintro e w' ⟨rfl, rfl⟩)
    go_ret
    exact ⟨by rw [hl.out]; rfl, rfl⟩
  · have ds : decide (32768 ≤ a) = false := decide_eq_false ha
    have HSt := Lib.hid (fun W : World => still05 a W)
    by_cases hp : p < 1
    · have hl : Hid (laterA a p = a) := laterA_same (.inr hp)
      have d1 : decide (p < 1) = true := decide_eq_true hp
      go_enter Tryz.func85, Tryz.ntmps85
      go_wp2_with (go_at_call 74; refine (HSt.out _).mono ?_; rintro e w' ⟨rfl, rfl⟩)
      go_ret
      exact ⟨by rw [hl.out]; rfl, rfl⟩
    · have hl : Hid (laterA a p = min (yearsOf a + min p 3600) 3600) := laterA_more ha hp
      have d1 : decide (p < 1) = false := decide_eq_false hp
      have HY : Hid (∀ W : World, Calls Tryz.prog 75 #[.int .u16 a] W fun e w' => e = .returned (.int .i64 (yearsOf a)) ∧ W = w') := fun W => years05 _ _ h0 h1
      have yb := years_bound a h0
      obtain ⟨y, hy⟩ : ∃ y, yearsOf a = y := ⟨_, rfl⟩
      rw [hy] at HY hl yb
      clear hy
      by_cases h2 : p ≤ 3600
      · have hm : Hid (min p 3600 = p) := by show _ = _; omega
        by_cases h3 : y + p ≤ 3600
        · have hn : Hid (min (y + p) 3600 = y + p) := by show _ = _; omega
          go_enter Tryz.func85, Tryz.ntmps85
          go_wp2_with (first
          | (go_at_call 74; refine (HSt.out _).mono ?_; rintro e w' ⟨rfl, rfl⟩)
          | (go_at_call 75; refine (HY.out _).mono ?_; rintro e w' ⟨rfl, rfl⟩))
          go_ret
          exact ⟨by rw [hl.out, hm.out, hn.out]; rfl, rfl⟩
        · have hn : Hid (min (y + p) 3600 = 3600) := by show _ = _; omega
          go_enter Tryz.func85, Tryz.ntmps85
          go_wp2_with (first
          | (go_at_call 74; refine (HSt.out _).mono ?_; rintro e w' ⟨rfl, rfl⟩)
          | (go_at_call 75; refine (HY.out _).mono ?_; rintro e w' ⟨rfl, rfl⟩))
          go_ret
          exact ⟨by rw [hl.out, hm.out, hn.out]; rfl, rfl⟩
      · have hm : Hid (min p 3600 = 3600) := by show _ = _; omega
        have hn : Hid (min (y + 3600) 3600 = 3600) := by show _ = _; omega
        by_cases h3 : y + 3600 ≤ 3600
        · obtain rfl : y = 0 := by omega
          go_enter Tryz.func85, Tryz.ntmps85
          go_wp2_with (first
          | (go_at_call 74; refine (HSt.out _).mono ?_; rintro e w' ⟨rfl, rfl⟩)
          | (go_at_call 75; refine (HY.out _).mono ?_; rintro e w' ⟨rfl, rfl⟩))
          go_ret
          exact ⟨by rw [hl.out, hm.out, hn.out]; rfl, rfl⟩
        · go_enter Tryz.func85, Tryz.ntmps85
          go_wp2_with (first
          | (go_at_call 74; refine (HSt.out _).mono ?_; rintro e w' ⟨rfl, rfl⟩)
          | (go_at_call 75; refine (HY.out _).mono ?_; rintro e w' ⟨rfl, rfl⟩))
          go_ret
          exact ⟨by rw [hl.out, hm.out, hn.out]; rfl, rfl⟩
theorem cmp05 (a b : Int) (w : World) : Calls Tryz.prog 84 #[.int .i64 a, .int .i64 b] w fun e w' => e = .returned (.int .i64 (cmpI a b)) ∧ w = w' := by
  by_cases h1 : a < b
  · have hc : Hid (cmpI a b = -1) := by show _ = _; unfold cmpI; rw [if_pos h1]
    go_enter Tryz.func84, Tryz.ntmps84
    go_wp2
    go_ret
    exact ⟨by rw [hc.out]; rfl, rfl⟩
  · have d1 : decide (a < b) = false := decide_eq_false h1
    by_cases h2 : b < a
    · have d2 : decide (b < a) = true := decide_eq_true h2
      have hc : Hid (cmpI a b = 1) := by show _ = _; unfold cmpI; rw [if_neg h1, if_pos h2]
      go_enter Tryz.func84, Tryz.ntmps84
      go_wp2
      go_ret
      exact ⟨by rw [hc.out]; rfl, rfl⟩
    · have d2 : decide (b < a) = false := decide_eq_false h2
      have hc : Hid (cmpI a b = 0) := by show _ = _; unfold cmpI; rw [if_neg h1, if_neg h2]
      go_enter Tryz.func84, Tryz.ntmps84
      go_wp2
      go_ret
      exact ⟨by rw [hc.out]; rfl, rfl⟩
/-- Keys whose numbers are numbers. -/
structure K3ok (k : Ky3) : Prop where
  a : 0 ≤ k.1 ∧ k.1 ≤ 255
  b : 0 ≤ k.2.1 ∧ k.2.1 ≤ 4294967295
  c : 0 ≤ k.2.2 ∧ k.2.2 ≤ 4294967295
set_option maxHeartbeats 2000000 in
theorem keys05 (a b : Ky3) (w : World) (ha : K3ok a) (hb : K3ok b) : Calls Tryz.prog 68 #[keyV a, keyV b] w fun e w' => e = .returned (.int .i64 (cmpK a b)) ∧ Below w.heap.size w w' := by
  obtain ⟨a1, a2, a3⟩ := a
  obtain ⟨b1, b2, b3⟩ := b
  have ha1 := ha.a; have ha2 := ha.b; have ha3 := ha.c; have hb1 := hb.a; have hb2 := hb.b; have hb3 := hb.c
  simp only at ha1 ha2 ha3 hb1 hb2 hb3
  have X1 : Hid (Blk ((w.alloc (.cells #[.int .u8 a1, .int .u32 a2, .int .u32 a3] 68)).alloc (.cells #[.int .u8 b1, .int .u32 b2, .int .u32 b3] 68)) w.heap.size 68 #[.int .u8 a1, .int .u32 a2, .int .u32 a3]) := Lib.hid ((Blk.new _ _ _).alloc _)
  have X2 : Hid (Blk ((w.alloc (.cells #[.int .u8 a1, .int .u32 a2, .int .u32 a3] 68)).alloc (.cells #[.int .u8 b1, .int .u32 b2, .int .u32 b3] 68)) (w.heap.size + 1) 68 #[.int .u8 b1, .int .u32 b2, .int .u32 b3]) := new_at _ _ _
  have x0 := X1.out.cell 0; have x1 := X1.out.cell 1; have x2 := X1.out.cell 2
  have y0 := X2.out.cell 0; have y1 := X2.out.cell 1; have y2 := X2.out.cell 2
  simp only [List.getElem?_toArray, List.getElem?_cons_zero, List.getElem?_cons_succ] at x0 x1 x2 y0 y1 y2
  have wa1 : IntKind.i64.wrap a1 = a1 := by rw [IntKind.wrap_i64]; omega
  have wa2 : IntKind.i64.wrap a2 = a2 := by rw [IntKind.wrap_i64]; omega
  have wa3 : IntKind.i64.wrap a3 = a3 := by rw [IntKind.wrap_i64]; omega
  have wb1 : IntKind.i64.wrap b1 = b1 := by rw [IntKind.wrap_i64]; omega
  have wb2 : IntKind.i64.wrap b2 = b2 := by rw [IntKind.wrap_i64]; omega
  have wb3 : IntKind.i64.wrap b3 = b3 := by rw [IntKind.wrap_i64]; omega
  have hk : cmpK (a1, a2, a3) (b1, b2, b3) = if cmpI a1 b1 = 0 then (if cmpI a2 b2 = 0 then cmpI a3 b3 else cmpI a2 b2) else cmpI a1 b1 := by
    unfold cmpK
    simp only [firstNZ]
    split
    · split
      · split
        · rename_i h; exact h.symm
        · rfl
      · rfl
    · rfl
  clear ha hb X1 X2
  by_cases h1 : a1 = b1
  · have n1 : (a1 != b1) = false := by simp [h1]
    by_cases h2 : a2 = b2
    · have n2 : (a2 != b2) = false := by simp [h2]
      have hc : Hid (cmpK (a1, a2, a3) (b1, b2, b3) = cmpI a3 b3) := Lib.hid (by rw [hk, if_pos (cmpI_zero.2 h1), if_pos (cmpI_zero.2 h2)])
      clear hk h1 h2
      go_enter Tryz.func68, Tryz.ntmps68
      go_wp2_with fail
      refine (cmp05 a3 b3 _).mono ?_
      rintro e w' ⟨rfl, rfl⟩
      go_wp2_with fail
      go_ret
      exact ⟨by rw [hc.out]; rfl, below_two _ _ _⟩
    · have n2 : (a2 != b2) = true := by simp [h2]
      have hc : Hid (cmpK (a1, a2, a3) (b1, b2, b3) = cmpI a2 b2) := Lib.hid (by rw [hk, if_pos (cmpI_zero.2 h1), if_neg (fun h => h2 (cmpI_zero.1 h))])
      clear hk h1 h2
      go_enter Tryz.func68, Tryz.ntmps68
      go_wp2_with fail
      refine (cmp05 a2 b2 _).mono ?_
      rintro e w' ⟨rfl, rfl⟩
      go_wp2_with fail
      go_ret
      exact ⟨by rw [hc.out]; rfl, below_two _ _ _⟩
  · have n1 : (a1 != b1) = true := by simp [h1]
    have hc : Hid (cmpK (a1, a2, a3) (b1, b2, b3) = cmpI a1 b1) := Lib.hid (by rw [hk, if_neg (fun h => h1 (cmpI_zero.1 h))])
    clear hk h1
    go_enter Tryz.func68, Tryz.ntmps68
    go_wp2_with fail
    refine (cmp05 a1 b1 _).mono ?_
    rintro e w' ⟨rfl, rfl⟩
    go_wp2_with fail
    go_ret
    exact ⟨by rw [hc.out]; rfl, below_two _ _ _⟩
end Go.Proofs.YtpncbggjngamgaaGreatDoor
namespace Go.Proofs.YtpncbggjngamgaaGreatDoor
set_option linter.unusedVariables false
set_option linter.unusedSectionVars false
open Go.RowKit
open Go.ChangeMaps (setBlock)
open Go.MapKept (heap_set)

section
variable {P : Program} {κ : Type} [DecidableEq κ] {enc : κ → Value} {dec : Value → κ}

theorem filter_born {l : List MapEntry} {e : MapEntry} (hn : (l.map (·.born)).Nodup) (he : e ∈ l) : (e :: l.filter (fun x => x.born != e.born)).Perm l := by
  induction l with
  | nil => cases he
  | cons a r ih =>
    simp only [List.map_cons, List.nodup_cons] at hn
    rcases List.mem_cons.1 he with rfl | h
    · have h1 : r.filter (fun x => x.born != e.born) = r := List.filter_eq_self.2 fun x hx => by
        simp only [bne_iff_ne, ne_eq]
        intro e1
        exact hn.1 (e1 ▸ List.mem_map_of_mem hx)
      rw [List.filter_cons_of_neg (by simp), h1]
    · have h1 : a.born ≠ e.born := fun e1 => hn.1 (e1 ▸ List.mem_map_of_mem h)
      rw [List.filter_cons_of_pos (by simpa using h1)]
      exact (List.Perm.swap _ _ _).trans ((ih hn.2 h).cons a)
/-- A range under way: the keys that came are pre. -/
structure RgF (enc : κ → Value) (w : World) (b r : Nat) (f : κ → Option Value) (n : Nat) (es : Array MapEntry) (clock : Nat) (L : List (κ × Value)) (since : Nat) (seen : Array Nat) (c0 : Nat) (pre : List κ) : Prop where
  m : MapFs enc w b f n es clock L
  it : w.heap[r]? = some (.mapIter (some b) since seen c0)
  old : ∀ x ∈ es.toList, x.born < since
  sc : since ≤ c0
  sk : since ≤ clock
  perm : (pre.map enc ++ (leftOf es seen).toList.map (·.key)).Perm (es.toList.map (·.key))
theorem MapFs.keyList {w : World} {b n : Nat} {f : κ → Option Value} {es : Array MapEntry} {clock : Nat} {L : List (κ × Value)} (h : MapFs enc w b f n es clock L) : es.toList.map (·.key) = (L.map (·.1)).map enc := by
  have := congrArg (List.map Prod.fst) h.ents
  rw [List.map_map, List.map_map] at this
  rw [List.map_map]
  exact this
theorem leftOf_push (es : Array MapEntry) (seen : Array Nat) (x : Nat) : (leftOf es (seen.push x)).toList = (leftOf es seen).toList.filter (fun e => e.born != x) := by
  unfold leftOf
  rw [Array.toList_filter, Array.toList_filter, List.filter_filter]
  apply List.filter_congr
  intro e _
  simp only [Array.contains_push, Bool.not_or]
  rw [Bool.and_comm]
  congr 1
theorem RgF.start {w : World} {b n : Nat} {f : κ → Option Value} {es : Array MapEntry} {clock : Nat} {L : List (κ × Value)} (h : MapFs enc w b f n es clock L) : RgF enc (w.alloc (.mapIter (some b) clock #[] clock)) b w.heap.size f n es clock L clock #[] clock [] := by
  have hl : b < w.heap.size := (Array.getElem?_eq_some_iff.1 h.heap).1
  refine ⟨⟨(Below.heap_alloc _ _ _ hl).trans h.heap, h.ents, h.keys, h.at_, h.len, h.born, h.past⟩, heap_alloc_new w _, h.past, Nat.le_refl _, Nat.le_refl _, ?_⟩
  have e1 : (leftOf es #[]).toList = es.toList := by
    unfold leftOf
    rw [Array.toList_filter]
    exact List.filter_eq_self.2 (by simp)
  rw [e1]
  simp
theorem RgF.ne {w : World} {b r n : Nat} {f : κ → Option Value} {es : Array MapEntry} {clock : Nat} {L : List (κ × Value)} {since c0 : Nat} {seen : Array Nat} {pre : List κ} (h : RgF enc w b r f n es clock L since seen c0 pre) : r ≠ b := fun e => by
  have h1 := h.it
  rw [e, h.m.heap] at h1
  cases h1
theorem RgF.lt {w : World} {b r n : Nat} {f : κ → Option Value} {es : Array MapEntry} {clock : Nat} {L : List (κ × Value)} {since c0 : Nat} {seen : Array Nat} {pre : List κ} (h : RgF enc w b r f n es clock L since seen c0 pre) : r < w.heap.size := (Array.getElem?_eq_some_iff.1 h.it).1
theorem RgF.left {w : World} {b r n : Nat} {f : κ → Option Value} {es : Array MapEntry} {clock : Nat} {L : List (κ × Value)} {since c0 : Nat} {seen : Array Nat} {pre : List κ} (h : RgF enc w b r f n es clock L since seen c0 pre) : w.rangeLeft b r = (leftOf es seen).size := by
  simp only [World.rangeLeft, h.m.heap, h.it]
/-- Maps and what ranges over them stay where they are. -/
theorem RgF.walks {w w' : World} {b r n : Nat} {f : κ → Option Value} {es : Array MapEntry} {clock : Nat} {L : List (κ × Value)} {since c0 : Nat} {seen : Array Nat} {pre : List κ} (h : RgF enc w b r f n es clock L since seen c0 pre) (k : KeepsWalks w w') : RgF enc w' b r f n es clock L since seen c0 pre :=
  ⟨⟨k.same _ _ h.m.heap rfl, h.m.ents, h.m.keys, h.m.at_, h.m.len, h.m.born, h.m.past⟩, k.same _ _ h.it rfl, h.old, h.sc, h.sk, h.perm⟩
theorem RgF.len {w : World} {b r n : Nat} {f : κ → Option Value} {es : Array MapEntry} {clock : Nat} {L : List (κ × Value)} {since c0 : Nat} {seen : Array Nat} {pre : List κ} (h : RgF enc w b r f n es clock L since seen c0 pre) : pre.length + (leftOf es seen).size = n := by
  have h1 := h.perm.length_eq
  have h2 := congrArg List.length h.m.keyList
  simp only [List.length_map] at h2
  simp only [List.length_append, List.length_map, Array.length_toList] at h1 h2
  rw [h1, h2, h.m.len]
theorem RgF.done {w : World} {b r n : Nat} {f : κ → Option Value} {es : Array MapEntry} {clock : Nat} {L : List (κ × Value)} {since c0 : Nat} {seen : Array Nat} {pre : List κ} (h : RgF enc w b r f n es clock L since seen c0 pre) (hd : ∀ x, dec (enc x) = x) (h0 : (leftOf es seen).size = 0) : pre.Perm (L.map (·.1)) := by
  have h1 := h.perm
  have h2 : (leftOf es seen).toList = [] := List.eq_nil_of_length_eq_zero (by rw [Array.length_toList]; exact h0)
  rw [h2, h.m.keyList] at h1
  simp only [List.map_nil, List.append_nil] at h1
  have h3 := h1.map dec
  rw [List.map_map, List.map_map] at h3
  have e : dec ∘ enc = id := funext hd
  rw [e] at h3
  simpa using h3
/-- The step: another entry comes. -/
theorem RgF.step {w w1 : World} {b r n : Nat} {f : κ → Option Value} {es : Array MapEntry} {clock : Nat} {L : List (κ × Value)} {since c0 : Nat} {seen : Array Nat} {pre : List κ} (h : RgF enc w b r f n es clock L since seen c0 pre) {e : MapEntry} (he : e ∈ (leftOf es seen).toList) (hw : w1 = w ∨ w1 = w.drew) :
    ∃ (x : κ) (v : Value), e.key = enc x ∧ e.val = v ∧ (x, v) ∈ L ∧ RgF enc (setBlock w1 r (.mapIter (some b) since (seen.push e.born) clock)) b r f n es clock L since (seen.push e.born) clock (pre ++ [x]) ∧
      (leftOf es (seen.push e.born)).size < (leftOf es seen).size ∧ e ∈ es.toList := by
  have hm : e ∈ es.toList := by
    unfold leftOf at he
    rw [Array.toList_filter] at he
    exact (List.mem_filter.1 he).1
  have hx : (e.key, e.val) ∈ L.map (fun p => (enc p.1, p.2)) := by
    rw [← h.m.ents]
    exact List.mem_map_of_mem (f := fun e => (e.key, e.val)) hm
  obtain ⟨⟨x, v⟩, hp, hq⟩ := List.mem_map.1 hx
  simp only [Prod.mk.injEq] at hq
  have hw1 : w1.heap = w.heap := by rcases hw with rfl | rfl <;> rfl
  have hn : ((leftOf es seen).toList.map (·.born)).Nodup := by
    unfold leftOf
    rw [Array.toList_filter]
    exact h.m.born.sublist (List.filter_sublist.map _)
  have hpf := filter_born hn he
  have hne := h.ne
  have hlt := h.lt
  have hr1 : w1.heap[r]? = some (.mapIter (some b) since seen c0) := by rw [hw1]; exact h.it
  have hset := heap_set (o' := .mapIter (some b) since (seen.push e.born) clock) hr1
  refine ⟨x, v, hq.1.symm, hq.2.symm, hp, ⟨⟨?_, h.m.ents, h.m.keys, h.m.at_, h.m.len, h.m.born, h.m.past⟩, ?_, h.old, h.sk, h.sk, ?_⟩, ?_, hm⟩
  · exact (hset.2 b (fun e1 => hne e1.symm)).trans (by rw [hw1]; exact h.m.heap)
  · exact hset.1
  · rw [leftOf_push, List.map_append, List.append_assoc]
    refine ((List.Perm.append_left _ ?_).trans h.perm)
    have := hpf.map (·.key)
    rw [List.map_cons, ← hq.1] at this
    exact this
  · have h1 := congrArg List.length (leftOf_push es seen e.born)
    have h2 := hpf.length_eq
    rw [List.length_cons] at h2
    simp only [Array.length_toList] at h1 h2
    omega
theorem grown_set {w w1 : World} {r : Nat} {o o' : Obj} (hr : w.heap[r]? = some o) (hw : w1 = w ∨ w1 = w.drew) : w.grownBy (setBlock w1 r o') (some r) := by
  have hr1 : w1.heap[r]? = some o := by rcases hw with rfl | rfl <;> exact hr
  have hset := heap_set (o' := o') hr1
  rcases hw with rfl | rfl <;> exact ⟨rfl, rfl, rfl, by simp [setBlock], fun i _ hi => hset.2 i (fun e1 => hi (by rw [e1]))⟩
variable {F : Fence} {n N : Nat} {w : World} {ops : Array Oper} {rest : List Oper} {o : Oper} {a : Act} {Q : Exit → Act → World → Prop}
theorem wpListIn_rangeF (hg : o.guard = none) (m : Operand) (t : TypeId) (hop : o.op = Op.range t m) (k e : TypeId) (ht : P.underlying t = some (.map k e)) (b : Nat) {f : κ → Option Value} {es : Array MapEntry} {clock : Nat} {L : List (κ × Value)}
    (hm : a.eval m = .map (some b)) (h : MapFs enc w b f N es clock L)
    (hK : ∀ w', RgF enc w' b w.heap.size f N es clock L clock #[] clock [] → w.grownBy w' none → w'.heap.size = w.heap.size + 1 → wpListIn F n P ops Q rest (a.put o.dst (.pointer (some ⟨w.heap.size, 0, none⟩))) w') :
    wpListIn F n P ops Q (o :: rest) a w := by
  refine wpListIn_plain hg fun K' hK' => ?_
  have hrun := run_range_map w t k e b es clock ht h.heap
  unfold Oper.wpIn
  refine ⟨?_, ?_⟩
  · simp [Oper.about, hop]
  · rw [Oper.semAt_plain F _ _ (by rw [hop]; intro c hc'; cases hc')]
    simp [execOp, hop, hm, hrun, Result.andThen]
    exact hK' _ _ (hK _ (RgF.start h) (World.grownBy_alloc w _ none) (by simp))
theorem wpListIn_nextF (hg : o.guard = none) (it : Operand) (hop : o.op = Op.next it false) (b r : Nat) {f : κ → Option Value} {es : Array MapEntry} {clock : Nat} {L : List (κ × Value)} {since c0 : Nat} {seen : Array Nat} {pre : List κ}
    (hit : a.eval it = .pointer (some ⟨r, 0, none⟩)) (h : RgF enc w b r f N es clock L since seen c0 pre)
    (hDone : (leftOf es seen).size = 0 → wpListIn F n P ops Q rest (a.put o.dst (.tuple #[.bool false])) w)
    (hMore : ∀ (x : κ) (v : Value) (w' : World) (seen' : Array Nat), (x, v) ∈ L → RgF enc w' b r f N es clock L since seen' clock (pre ++ [x]) → (leftOf es seen').size < (leftOf es seen).size → w.grownBy w' (some r) → w'.heap.size = w.heap.size →
      (Instr.entry (.pointer (some ⟨r, 0, none⟩))).run P w' = .ok (.tuple #[enc x, v]) w' → wpListIn F n P ops Q rest (a.put o.dst (.tuple #[.bool true, enc x, v])) w') :
    wpListIn F n P ops Q (o :: rest) a w := by
  refine wpListIn_plain hg fun K' hK' => ?_
  unfold Oper.wpIn
  refine ⟨by simp [Oper.about, hop], ?_⟩
  rw [Oper.semAt_plain F _ _ (by rw [hop]; intro c hc'; cases hc')]
  rcases run_next_at (P := P) w o.type r b since c0 seen es clock h.it h.m.heap h.old h.sc with ⟨h0, hrun⟩ | ⟨e, he, w1, hal, hrun⟩
  · simp [execOp, hop, hit, hrun, Result.andThen]
    exact hK' _ _ (hDone h0)
  · obtain ⟨x, v, h1, h2, h3, h4, h5, h6⟩ := h.step he hal
    have hg2 := grown_set (o' := .mapIter (some b) since (seen.push e.born) clock) h.it hal
    have hen := run_entry_at (P := P) _ r b since seen es clock e h4.it h4.m.heap h6 h4.m.born
    have hsz : (setBlock w1 r (.mapIter (some b) since (seen.push e.born) clock)).heap.size = w.heap.size := by rcases hal with rfl | rfl <;> simp [setBlock]
    rw [h1, h2] at hen
    simp [execOp, hop, hit, hrun, Result.andThen]
    rw [h1, h2]
    exact hK' _ _ (hMore x v _ _ h3 h4 h5 hg2 hsz hen)
end
end Go.Proofs.YtpncbggjngamgaaGreatDoor
namespace Go.Proofs.YtpncbggjngamgaaGreatDoor
set_option linter.unusedVariables false
open Go.RowKit Go.Shelf
attribute [local go_sem] Oper.semAt_some

def keyD : Value → Ky3
  | .agg ⟨[.int .u8 a, .int .u32 b, .int .u32 c]⟩ => (a, b, c)
  | _ => (0, 0, 0)
theorem kw_alloc (w : World) (o : Obj) : KeepsWalks w (w.alloc o) := ⟨by simp, fun k x h _ => (Below.heap_alloc w o k (Array.getElem?_eq_some_iff.1 h).1).trans h⟩
theorem keyD_V (k : Ky3) : keyD (keyV k) = k := rfl
set_option maxRecDepth 100000 in
set_option maxHeartbeats 2000000 in
theorem keys_in (F : Fence) (n : Nat) (hf : F.fn 89) (hro : F.round = none) (hn : 1 ≤ n) (l B1 n₀ bm N : Nat) (f : Ky3 → Option Value) (es : Array MapEntry) (clock : Nat) (L : List (Ky3 × Value))
    (J Jx : List Ky3 → World → Prop) (W : World) (hJ : AbidesFrom W.heap.size J)
    (hY : ∀ pre x W1, J pre W1 → pre.length < N → YieldAt F (n - 1) Tryz.prog l #[keyV x] W1 fun e W' =>
      (e = .returned (.bool true) ∧ J (pre ++ [x]) W' ∧ (Below n₀ W1 W' ∧ KeepsWalks W1 W')) ∨ (e = .returned (.bool false) ∧ Jx (pre ++ [x]) W'))
    (hn₀ : n₀ ≤ W.heap.size) (hB1 : W.cell? ⟨B1, 0, none⟩ = some (.map (some bm))) (hm : MapFs keyV W bm f N es clock L) (h0 : J [] W) :
    CallsIn F n Tryz.prog 89 #[.func (.yield l) #[] #[], .pointer (some ⟨B1, 0, none⟩)] W fun e W' => (∃ v, e = .returned v) ∧
      ((∃ ys, ys.Perm (L.map (·.1)) ∧ J ys W') ∨ (∃ pre, True ∧ Jx pre W')) := by
  refine callsIn_of_wp Tryz.func89 rfl hf ?_ hro
  simp only [Tryz.ntmps89, List.size_toArray, List.length_cons, List.length_nil, Nat.reduceAdd, Nat.reduceSub, Array.replicate_succ, Array.replicate_zero, List.push_toArray, List.append_toArray, List.nil_append, List.cons_append]
  gi_wp2_with (gi_at_range; refine wpListIn_rangeF rfl _ _ rfl _ _ Tryz.underlying77 bm rfl hm ?_; intro w0 hrg0 hg0 hs0)
  go_frame
  gi_loopw [3] (fun _ wr => ∃ (since c0 : Nat) (seen : Array Nat) (pre : List Ky3), RgF keyV wr bm W.heap.size f N es clock L since seen c0 pre ∧ J pre wr) (fun _ wr => wr.rangeLeft bm W.heap.size)
  case atStart => exact ⟨_, _, _, [], hrg0, hJ [] W w0 none h0 hg0 (fun r e => by cases e)⟩
  case round =>
    obtain ⟨since, c0, seen, pre, hrg, hJs⟩ := hrel
    gi_wp2_with (gi_at_next; refine wpListIn_nextF rfl _ rfl bm W.heap.size rfl hrg ?_ ?_)
    · intro hc0
      gi_wp2
      go_end0
      exact ⟨⟨_, rfl⟩, .inl ⟨pre, hrg.done keyD_V (by first | exact hc0 | (rw [hc0]; rfl)), hJs⟩⟩
    · intro k1 k2 k3 v w2 seen' hx hrg2 hlt hg2 hs2 hen
      have hJ2 : J pre w2 := hJ pre wr w2 (some W.heap.size) hJs hg2 (fun r e => by cases e; exact ⟨Nat.le_refl _, _, hrg.it, rfl⟩)
      have hJ3 : J pre (w2.alloc (.cells #[.int .u8 k1, .int .u32 k2, .int .u32 k3] 68)) := hJ pre w2 _ none hJ2 (World.grownBy_alloc w2 _ none) (fun r e => by cases e)
      have hrg4 := hrg2.walks (kw_alloc w2 (.cells #[.int .u8 k1, .int .u32 k2, .int .u32 k3] 68))
      obtain ⟨fn, tmps, assign, body, hy, hR⟩ := hY pre (k1, k2, k3) _ hJ3 (by have := hrg.len; omega)
      try dsimp only at hy
      have hen' : (Instr.entry (.pointer (some ⟨W.heap.size, 0, none⟩))).run Tryz.prog w2 = .ok (.tuple #[.agg #[.int .u8 k1, .int .u32 k2, .int .u32 k3], v]) w2 := hen
      clear hs2 hen
      gi_wp2
      refine hR.mono ?_
      rintro e W3 (⟨rfl, hJ4, hk3⟩ | ⟨rfl, hJx3⟩)
      · gi_wp2
        have hrg3 := hrg4.walks hk3.2
        go_roundw
        case rel => exact ⟨_, _, _, pre ++ [(k1, k2, k3)], hrg3, hJ4⟩
        case measure => rw [hrg3.left, hrg.left]; exact hlt
      · gi_wp2
        refine bodyPost_ret (results_none rfl _ _ _) rfl ?_
        exact ⟨⟨_, rfl⟩, .inr ⟨_, trivial, hJx3⟩⟩
theorem keysF_any (bm : Nat) (w : World) : Calls Tryz.prog 81 #[.map (some bm)] w fun e w' =>
    e = .returned (.func (.func 89) #[] #[.pointer (some ⟨w.heap.size, 0, none⟩)]) ∧ w' = w.alloc (.cells #[.map (some bm)] 77) := by
  go_enter Tryz.func81, Tryz.ntmps81
  go_wp2
  go_ret
  exact ⟨rfl, rfl⟩
end Go.Proofs.YtpncbggjngamgaaGreatDoor
namespace Go.Proofs.YtpncbggjngamgaaGreatDoor
set_option linter.unusedVariables false
open Go.RowKit Go.Shelf
attribute [local go_sem] Oper.semAt_some

theorem wpListIn_app {F : Fence} {N : Nat} {P : Program} {ops : Array Oper} {rest : List Oper} {o : Oper} {a : Act} {Q : Exit → Act → World → Prop} {w : World} {t e : TypeId} {size bytes : Nat} (E : El P t e size bytes)
    (hgd : o.guard = none) (s x : Operand) (ho : o.op = .call { callee := .builtin .append, args := #[s, x], argTypes := #[t, t] })
    {base : Nat} {v : Value} {n : Nat} {xs : List Value} (hown : w.ownsRow base e size v n xs) (hs : a.eval s = v)
    {B : Nat} {A : Option Addr} {m c : Nat} {news : List Value} (hr : Reads w B size A m news) (hx : a.eval x = .slice A m c) (h1 : ∀ u ∈ news, u.oneCell' = true)
    (h63 : n + m ≤ maxLen) (hbytes : (n + m) * bytes ≤ 140737488355328) (hbase : base ≤ w.heap.size)
    (h : ∀ v' w', w'.ownsRow base e size v' (n + m) (xs ++ news) → Below base w w' → w.grownBy w' v.ownBlock → wpListIn F N P ops Q rest (a.put o.dst v') w') :
    wpListIn F N P ops Q (o :: rest) a w := by
  refine wpListIn_plain hgd fun K hK' => ?_
  obtain ⟨v', w', hrun, h2, h3, h4⟩ := run_app E o.type hown c hr h1 h63 hbytes hbase
  unfold Oper.wpIn
  refine ⟨?_, ?_⟩
  · simp [Oper.about, ho, resolve, Target.leads, Sem.run_pure]
  · rw [Oper.semAt_plain F _ _ (by rw [ho]; intro c hc'; cases hc')]
    simp [execOp, ho, resolve, invoke, builtin, hs, hx, hrun, Result.andThen]
    exact hK' _ _ (h v' w' h2 (below_of_own hown h3 hbase) h3)
theorem blk_ownF {B g : Nat} {t : TypeId} {cs : Array Value} {β : Type} : OwnFrom B (fun (_ : β) W => Blk W g t cs) := by
  intro s W W' row h hg hr
  refine h.grown hg (fun e => ?_)
  obtain ⟨_, o, ho, hc⟩ := hr g e.symm
  have : some o = some (Obj.cells cs t) := ho.symm.trans h
  injection this with this
  subst this
  cases hc
theorem row_ownF {B base size n : Nat} {e : TypeId} {v : Value} {xs : List Value} {β : Type} : OwnFrom B (fun (_ : β) W => W.ownsRow base e size v n xs) := by
  intro s W W' row h hg hr
  refine h.kept hg ?_
  rcases h.2 with ⟨rfl, _⟩ | ⟨g, cap, cur, rfl, _, hgb, _⟩
  · exact .inl rfl
  · refine .inr fun e' => ?_
    obtain ⟨_, o, ho, hw⟩ := hr g (by simpa [Value.ownBlock] using e'.symm)
    rw [hgb] at ho; cases ho; cases hw
/-- What AppendSeq has gathered so far, in the box g. -/
def Gath (w : World) (g : Nat) (pre : List Ky3) (W : World) : Prop :=
  ∃ v, Blk W g 75 #[v] ∧ W.ownsRow g 68 3 v pre.length (pre.flatMap keyC) ∧ Below g w W
theorem Gath.own {w : World} {g B : Nat} (hB : g ≤ B) : OwnFrom B (Gath w g) := by
  intro s W W' row h hg hr
  obtain ⟨v, h1, h2, h3⟩ := h
  have h4 := (Array.getElem?_eq_some_iff.1 h1).1
  exact ⟨v, blk_ownF (β := Unit) () W W' row h1 hg hr, row_ownF (β := Unit) () W W' row h2 hg hr, h3.grown hg (Nat.le_of_lt h4) (fun k e => by have := (hr k e).1; omega)⟩
theorem Gath.lt {w W : World} {g : Nat} {pre : List Ky3} (h : Gath w g pre W) : g < W.heap.size := by
  obtain ⟨v, h1, _⟩ := h
  exact (Array.getElem?_eq_some_iff.1 h1).1
theorem Gath.later {w W W' : World} {g : Nat} {pre : List Ky3} (h : Gath w g pre W) (hb : Below W.heap.size W W') : Gath w g pre W' := by
  have hl := h.lt
  obtain ⟨v, h1, h2, h3⟩ := h
  refine ⟨v, h1.later hb, ⟨h2.1, ?_⟩, h3.trans (hb.mono (Nat.le_of_lt hl))⟩
  rcases h2.2 with h | ⟨g2, cap, cur, hv, hg2, hk, r⟩
  · exact .inl h
  · exact .inr ⟨g2, cap, cur, hv, hg2, (hb.block g2 (Array.getElem?_eq_some_iff.1 hk).1).trans hk, r⟩
theorem keepsF_below {B : Nat} {W W' : World} (h : Below W.heap.size W W') : KeepsFrom B W W' := ⟨h.size, fun k o _ hk _ => (h.block k (Array.getElem?_eq_some_iff.1 hk).1).trans hk⟩
theorem keeps_row {B base size n : Nat} {e : TypeId} {v : Value} {xs : List Value} {W W' : World} (h : W.ownsRow base e size v n xs) (hg : W.grownBy W' v.ownBlock) : KeepsFrom B W W' := ⟨hg.size, fun k o _ hk ho => by
  have hne : some k ≠ v.ownBlock := by
    intro e'
    rcases h.2 with ⟨rfl, _⟩ | ⟨g, cap, cur, rfl, _, hgb, _⟩
    · cases e'
    · have : k = g := by simpa [Value.ownBlock] using e'
      subst this; rw [hgb] at hk; cases hk; cases ho
  exact (hg.block k (Array.getElem?_eq_some_iff.1 hk).1 hne).trans hk⟩
theorem row_ne_box {base size n g : Nat} {e t : TypeId} {v : Value} {xs : List Value} {cs : Array Value} {W : World} (h : W.ownsRow base e size v n xs) (hB : Blk W g t cs) (hne : t ≠ e) : some g ≠ v.ownBlock := by
  intro e'
  rcases h.2 with ⟨rfl, _⟩ | ⟨g2, cap, cur, rfl, _, hgb, _⟩
  · cases e'
  · have : g = g2 := by simpa [Value.ownBlock] using e'
    subst this
    have : some (Obj.cells cs t) = some (Obj.cells cur e) := hB.symm.trans hgb
    injection this with this
    injection this with _ h2
    exact hne h2
theorem keepsW_of {B : Nat} {W W' : World} (h : Below B W W') (k : KeepsFrom B W W') : KeepsWalks W W' := ⟨h.size, fun i o hi ho => by
  rcases Nat.lt_or_ge i B with hb | hb
  · exact (h.block i hb).trans hi
  · exact k.2 i o hb hi (Obj.not_cells_of_walk ho)⟩
def KpW (g : Nat) (A B : World) : Prop := Below g A B ∧ KeepsWalks A B
theorem KpW.t {g : Nat} {A B C : World} (h : KpW g A B) (k : KpW g B C) : KpW g A C := ⟨h.1.trans k.1, h.2.trans k.2⟩
theorem KpW.b {g : Nat} {w : World} (hB : g ≤ w.heap.size) (W : World) (l : Nat) (o o' : Obj) (hl : w.heap.size ≤ l) (h : W.heap[l]? = some o) (hc : o.isCells = false) (hw : o.isWalk = false) : KpW g W (W.putObj l o') :=
  ⟨belowK_b hB W l o o' hl h hc hw, by simp [World.putObj], fun k x hk hx => by
    have hne : k ≠ l := fun e => by subst e; rw [h] at hk; injection hk with hk; subst hk; rw [hw] at hx; cases hx
    show (W.heap.setIfInBounds l o')[k]? = _
    rw [Array.getElem?_setIfInBounds_ne (Ne.symm hne)]
    exact hk⟩
theorem el_keyC : El Tryz.prog 75 68 3 12 := El.mk' Tryz.underlying75 (show (Tryz.prog.info? 68).map (fun i => (i.zero, i.size, i.bytes)) = some (some (.agg #[.int .u8 0, .int .u32 0, .int .u32 0]), 3, 12) by kernel_rfl) rfl (by omega)
def asT (fn : Value) (g Bx : Nat) (x : Ky3) : Array Value := #[.slice none 0 0, fn, .pointer (some ⟨g, 0, none⟩), undef, .slice none 0 0, .pointer (some ⟨Bx, 0, none⟩), fn, keyV x, undef, undef, undef, undef, undef]
/-- What Collect gathers of a map's keys. -/
def GaK (w w' : World) (L : List (Ky3 × Value)) (N : Nat) (e : Ending) : Prop := ∃ (v : Value) (ys : List Ky3), e = .returned v ∧ ys.Perm (List.map (fun x : Ky3 × Value => x.1) L) ∧ w'.ownsRow w.heap.size 68 3 v N (ys.flatMap keyC) ∧ Below w.heap.size w w'
theorem _root_.Go.Proofs.YtpncbggjngamgaaGreatDoor.MapFs.laterB {κ : Type} [DecidableEq κ] {enc : κ → Value} {w w' : World} {b n B : Nat} {f : κ → Option Value} {es : Array MapEntry} {clock : Nat} {L : List (κ × Value)} (h : MapFs enc w b f n es clock L) (hb : Below B w w') (hl : b < B) : MapFs enc w' b f n es clock L :=
  ⟨(hb.block b hl).trans h.heap, h.ents, h.keys, h.at_, h.len, h.born, h.past⟩
set_option maxRecDepth 100000 in
set_option maxHeartbeats 2000000 in
theorem appendSeq_any (B1 bm N : Nat) (f : Ky3 → Option Value) (es : Array MapEntry) (clock : Nat) (L : List (Ky3 × Value)) (w : World) (hB1 : w.cell? ⟨B1, 0, none⟩ = some (.map (some bm))) (hL : MapFs keyV w bm f N es clock L) (hm : N ≤ 1048576) :
    Calls Tryz.prog 97 #[.slice none 0 0, .func (.func 89) #[] #[.pointer (some ⟨B1, 0, none⟩)]] w fun e w' =>
      GaK w w' L N e := by
  have HL := Lib.hid hL
  have hlt1 : B1 < w.heap.size := cell_lt hB1
  have hltm : bm < w.heap.size := (Array.getElem?_eq_some_iff.1 hL.heap).1
  have HG : Hid (Gath w w.heap.size [] (w.alloc (.cells #[.slice none 0 0] 75)) ∧ w.heap.size ≤ (w.alloc (.cells #[.slice none 0 0] 75)).heap.size ∧ Below w.heap.size w (w.alloc (.cells #[.slice none 0 0] 75))) :=
    Lib.hid ⟨⟨_, Blk.new _ _ _, World.ownsRow_nil _ _ _ _, (Below.refl _ _).alloc (Nat.le_refl _) _⟩, by rw [World.size_alloc]; omega, (Below.refl _ _).alloc (Nat.le_refl _) _⟩
  clear hL
  refine (callsIn_wide (n := 6)).1 (callsIn_of_wp_marks Tryz.func97 rfl trivial ?_ rfl)
  simp only [Tryz.ntmps97, List.size_toArray, List.length_cons, List.length_nil, Nat.reduceAdd, Nat.reduceSub, Array.replicate_succ, Array.replicate_zero, List.push_toArray, List.append_toArray, List.nil_append, List.cons_append]
  refine wpIn_wide.2 ?_
  go_wp2_with fail
  generalize w.alloc (.cells #[.slice none 0 0] 75) = w0 at *
  generalize hs0 : w.heap.size = g at *
  refine (wpIn_wide (n := 6)).1 ?_
  refine wpIn_rangeFunc_ownH (α := Ky3) rfl (by decide) (gf := 89) (lb := #[.pointer (some ⟨B1, 0, none⟩)]) rfl trivial (enters_of Tryz.func89 (by kernel_rfl) rfl)
    (encs := fun x => #[keyV x]) (Kp := KpW g) (S := fun ys : List Ky3 => ys.Perm (List.map (fun x : Ky3 × Value => x.1) L)) (Sp := fun _ => True) (N := N) (w0 := w0)
    (fun l J Jx W hW hJ _ hY h0 => keys_in Fence.wide 5 trivial rfl (by decide) l B1 g bm N f es clock L J Jx W hJ hY (Nat.le_trans HG.out.2.1 hW.size)
      (((HG.out.2.2.trans (hW.mono HG.out.2.1)).cell (p := ⟨B1, 0, none⟩) hlt1).trans hB1)
      (HL.out.laterB (HG.out.2.2.trans (hW.mono HG.out.2.1)) hltm) h0)
    KpW.t (KpW.b HG.out.2.1) (Below.refl _ _) (fun _ => rfl)
    (Gath w g) (fun _ _ _ => False)
    (Gath.own HG.out.2.1) (fun _ _ _ _ _ h _ _ => h.elim)
    HG.out.1
    (fun x a' W => ∃ Bx, g < Bx ∧ Blk W Bx 68 (keyC x).toArray ∧ a' = { tmps := asT (.func (.func 89) #[] #[.pointer (some ⟨B1, 0, none⟩)]) g Bx x, defers := [] })
    (fun x a' s W W' row h hg hr => by
      obtain ⟨Bx, h1, h2, h3⟩ := h
      exact ⟨Bx, h1, blk_ownF (β := Unit) () W W' row h2 hg hr, h3⟩)
    ?assign ?body ?done ?stop
  case assign =>
    intro l pre x W K hI hK
    obtain ⟨k1, k2, k3⟩ := x
    have hB : Below W.heap.size W (W.alloc (.cells #[.int .u8 k1, .int .u32 k2, .int .u32 k3] 68)) := (Below.refl _ _).alloc (Nat.le_refl _) _
    have hlt := hI.lt
    gi_wp2
    exact hK _ _ (keepsF_below hB) ⟨hB.mono (Nat.le_of_lt hlt), keepsW_of (hB.mono (Nat.le_of_lt hlt)) (keepsF_below hB)⟩ (hI.later hB) ⟨W.heap.size, hlt, Blk.new _ _ _, rfl⟩
  case body =>
    rintro l pre x a' W hlw ⟨r, hr⟩ ⟨v, hB, hrow, hbel⟩ ⟨Bx, hBx, bX, rfl⟩ hlt
    have hgW : g < W.heap.size := (Array.getElem?_eq_some_iff.1 hB).1
    obtain ⟨k1, k2, k3⟩ := x
    have k0 := hB.cell 0
    have j0 := bX.cell 0; have j1 := bX.cell 1; have j2 := bX.cell 2
    simp only [keyC, List.getElem?_toArray, List.getElem?_cons_zero, List.getElem?_cons_succ] at j0 j1 j2 k0
    have HB := Lib.hid hB
    have HR := Lib.hid (hrow.alloc (.cells #[.int .u8 k1, .int .u32 k2, .int .u32 k3] 68))
    have HB2 := Lib.hid (hB.alloc (.cells #[.int .u8 k1, .int .u32 k2, .int .u32 k3] 68))
    have HBl := Lib.hid hbel
    have HBW : Hid (Below W.heap.size W (W.alloc (.cells #[.int .u8 k1, .int .u32 k2, .int .u32 k3] 68))) := Lib.hid ((Below.refl _ _).alloc (Nat.le_refl _) _)
    have HX : Hid (Reads (W.alloc (.cells #[.int .u8 k1, .int .u32 k2, .int .u32 k3] 68)) (W.heap.size + 1) 3 (some ⟨W.heap.size, 0, none⟩) 1 (keyC (k1, k2, k3))) :=
      Lib.hid ⟨rfl, fun _ => ⟨_, rfl, Nat.lt_succ_self _, fun j u hu => by rw [add_none, Nat.zero_add, (Blk.new W 68 #[.int .u8 k1, .int .u32 k2, .int .u32 k3]).cell]; simpa [keyC] using hu⟩⟩
    clear hB hrow hbel bX hr
    unfold asT
    gi_wp2_with (gi_at_builtin; refine wpListIn_app el_keyC rfl (.tmp 8) (.tmp 10) rfl HR.out rfl HX.out rfl (keyC_one _) (by simp only [maxLen]; omega) (by omega) (by rw [World.size_alloc]; omega) ?_; intro v3 w3 ho3 hb3 hg3; obtain ⟨A3, c3, rfl, -⟩ := (OwnW.of_own ho3).shape; have HB3 := Lib.hid (HB2.out.grown hg3 (row_ne_box HR.out HB2.out (by decide))); have H3 := Lib.hid (And.intro ho3 (And.intro hb3 hg3)); have f0 := HB3.out.frozen 0; have k3 := HB3.out.cell 0; simp only [List.getElem?_toArray, List.getElem?_cons_zero] at k3; clear ho3 hb3 hg3)
    have HBX := H3.out.2.1
    have hgw3 : g < w3.heap.size := (Array.getElem?_eq_some_iff.1 HB3.out).1
    have hkf := ((keepsF_below (B := g) HBW.out).trans (keeps_row HR.out H3.out.2.2)).trans ((KeepsOthers.setCell w3 ⟨g, 0, none⟩ (.slice A3 (pre.length + 1) c3)).from g)
    have hbf := ((HBW.out.mono (Nat.le_of_lt hgW)).trans H3.out.2.1).setCell (p := ⟨g, 0, none⟩) (Nat.le_refl _) (.slice A3 (pre.length + 1) c3)
    refine ⟨⟨hkf.1, fun k o hk h0 ho => hkf.2 k o (Nat.le_trans HG.out.2.1 hk) h0 ho⟩, ⟨hbf, keepsW_of hbf hkf⟩, _, HB3.out.set_ 0 _, ?_, ?_⟩
    · have h := H3.out.1.kept (grownBy_setCell' w3 g (.slice A3 (pre.length + 1) c3)) (.inr (Ne.symm (row_ne_box H3.out.1 HB3.out (by decide))))
      rw [List.length_append, List.flatMap_append]
      simpa using h
    · exact (HBl.out.trans ((HBW.out.mono (Nat.le_of_lt hgW)).trans H3.out.2.1)).setCell (p := ⟨g, 0, none⟩) (Nat.le_refl _) _
  case done =>
    rintro D ys W hD hp ⟨v, hB, hrow, hbel⟩ hK
    have k0 := hB.cell 0
    simp only [List.getElem?_toArray, List.getElem?_cons_zero] at k0
    have HR := Lib.hid (row_ownF (β := Unit) (B := w0.heap.size) |>.putObj (s := ()) (.deferred none) hrow hD hK rfl)
    have HBl := Lib.hid (hbel.grown (grownBy_putObj' W D (.deferred none)) (Nat.le_of_lt (Array.getElem?_eq_some_iff.1 hB).1) (fun k e => by cases e; have := HG.out.2.1; omega))
    clear hB hrow hbel
    go_wp2
    refine ⟨by simp, .inl ⟨_, _, rfl, run_takeDeferred hK, ?_⟩⟩
    have hyl : ys.length = N := by have := hp.length_eq; rw [List.length_map, HL.out.len] at this; exact this
    exact ⟨_, results_tmp rfl _ _ _, v, ys, rfl, hp, by rw [← hyl, hs0]; exact HR.out, by rw [hs0]; exact HBl.out⟩
  case stop =>
    rintro D cd pre W hD hpre h hK
    exact h.elim
theorem collect_any (B1 bm N : Nat) (f : Ky3 → Option Value) (es : Array MapEntry) (clock : Nat) (L : List (Ky3 × Value)) (w : World) (hB1 : w.cell? ⟨B1, 0, none⟩ = some (.map (some bm))) (hL : MapFs keyV w bm f N es clock L) (hm : N ≤ 1048576) :
    Calls Tryz.prog 87 #[.func (.func 89) #[] #[.pointer (some ⟨B1, 0, none⟩)]] w fun e w' =>
      GaK w w' L N e := by
  have H := Lib.hid (appendSeq_any B1 bm N f es clock L w hB1 hL hm)
  clear hB1 hL
  go_enter Tryz.func87, Tryz.ntmps87
  go_wp2_with fail
  refine H.out.mono ?_
  rintro e w1 ⟨v, ys, rfl, hp, h1, h2⟩
  obtain ⟨A3, c3, rfl, -⟩ := (OwnW.of_own h1).shape
  have HP := Lib.hid hp
  have H1 := Lib.hid h1
  have H2 := Lib.hid h2
  clear h1 h2 H hp
  go_wp2
  go_ret
  exact ⟨_, ys, rfl, HP.out, H1.out, H2.out⟩
end Go.Proofs.YtpncbggjngamgaaGreatDoor
namespace Go.Proofs
open Go.Shelf
def Tryz.sortKy_ren : Go.Shelf.Ren := ⟨fun | 6 => 88 | 15 => 99 | 14 => 98 | 28 => 111 | 29 => 112 | 20 => 103 | 21 => 104 | 22 => 105 | 23 => 106 | 24 => 107 | 25 => 108 | 26 => 109 | 27 => 110 | 46 => 117 | 47 => 118 | 48 => 119 | 49 => 120 | 50 => 121 | 57 => 126 | n => n, fun | 22 => 75 | 24 => 68 | 25 => 109 | 3 => 3 | 39 => 169 | 0 => 0 | 53 => 56 | 55 => 183 | 4 => 4 | 46 => 176 | 45 => 175 | 50 => 73 | 5 => 5 | 9 => 9 | 66 => 188 | 70 => 192 | 76 => 198 | 77 => 199 | n => n, fun | n => n⟩
theorem Tryz.sortKy : Go.Proofs.SlLaysF0.n6 Tryz.prog Tryz.sortKy_ren := {
  mixed := by kernel_rfl
  f6 := ⟨Tryz.f88.name, by decide, Tryz.func88.trans (congrArg some (by kernel_rfl))⟩
  f14 := ⟨Tryz.f98.name, by decide, Tryz.func98.trans (congrArg some (by kernel_rfl))⟩
  f15 := Tryz.func99.trans (congrArg some (by kernel_rfl))
  f20 := ⟨Tryz.f103.name, by decide, Tryz.func103.trans (congrArg some (by kernel_rfl))⟩
  f21 := ⟨Tryz.f104.name, by decide, Tryz.func104.trans (congrArg some (by kernel_rfl))⟩
  f22 := ⟨Tryz.f105.name, by decide, Tryz.func105.trans (congrArg some (by kernel_rfl))⟩
  f23 := ⟨Tryz.f106.name, by decide, Tryz.func106.trans (congrArg some (by kernel_rfl))⟩
  f24 := ⟨Tryz.f107.name, by decide, Tryz.func107.trans (congrArg some (by kernel_rfl))⟩
  f25 := ⟨Tryz.f108.name, by decide, Tryz.func108.trans (congrArg some (by kernel_rfl))⟩
  f26 := ⟨Tryz.f109.name, by decide, Tryz.func109.trans (congrArg some (by kernel_rfl))⟩
  f27 := ⟨Tryz.f110.name, by decide, Tryz.func110.trans (congrArg some (by kernel_rfl))⟩
  f28 := Tryz.func111.trans (congrArg some (by kernel_rfl))
  f29 := Tryz.func112.trans (congrArg some (by kernel_rfl))
  f46 := ⟨Tryz.f117.name, by decide, Tryz.func117.trans (congrArg some (by kernel_rfl))⟩
  f47 := Tryz.func118.trans (congrArg some (by kernel_rfl))
  f48 := Tryz.func119.trans (congrArg some (by kernel_rfl))
  f49 := ⟨Tryz.f120.name, by decide, Tryz.func120.trans (congrArg some (by kernel_rfl))⟩
  f50 := ⟨Tryz.f121.name, by decide, Tryz.func121.trans (congrArg some (by kernel_rfl))⟩
  f57 := ⟨Tryz.f126.name, by decide, Tryz.func126.trans (congrArg some (by kernel_rfl))⟩
  t0 := Tryz.underlying0
  a0 := Tryz.isAgg0
  z0 := Tryz.sizeOf0
  v0 := Tryz.zeroValue0
  t3 := Tryz.underlying3
  a3 := Tryz.isAgg3
  z3 := Tryz.sizeOf3
  v3 := Tryz.zeroValue3
  t4 := Tryz.underlying4
  a4 := Tryz.isAgg4
  z4 := Tryz.sizeOf4
  v4 := Tryz.zeroValue4
  t5 := Tryz.underlying5
  a5 := Tryz.isAgg5
  z5 := Tryz.sizeOf5
  v5 := Tryz.zeroValue5
  t9 := Tryz.underlying9
  a9 := Tryz.isAgg9
  z9 := Tryz.sizeOf9
  v9 := Tryz.zeroValue9
  t22 := Tryz.underlying75
  a22 := Tryz.isAgg75
  z22 := Tryz.sizeOf75
  v22 := Tryz.zeroValue75
  t25 := Tryz.underlying109
  a25 := Tryz.isAgg109
  z25 := Tryz.sizeOf109
  v25 := Tryz.zeroValue109
  t39 := Tryz.underlying169
  a39 := Tryz.isAgg169
  z39 := Tryz.sizeOf169
  v39 := Tryz.zeroValue169
  t45 := Tryz.underlying175
  a45 := Tryz.isAgg175
  z45 := Tryz.sizeOf175
  v45 := Tryz.zeroValue175
  t46 := Tryz.underlying176
  a46 := Tryz.isAgg176
  z46 := Tryz.sizeOf176
  v46 := Tryz.zeroValue176
  t50 := Tryz.underlying73
  a50 := Tryz.isAgg73
  z50 := Tryz.sizeOf73
  v50 := Tryz.zeroValue73
  t53 := Tryz.underlying56
  a53 := Tryz.isAgg56
  z53 := Tryz.sizeOf56
  v53 := Tryz.zeroValue56
  t55 := Tryz.underlying183
  a55 := Tryz.isAgg183
  z55 := Tryz.sizeOf183
  v55 := Tryz.zeroValue183
  t66 := Tryz.underlying188
  a66 := Tryz.isAgg188
  z66 := Tryz.sizeOf188
  v66 := Tryz.zeroValue188
  t70 := Tryz.underlying192
  a70 := Tryz.isAgg192
  z70 := Tryz.sizeOf192
  v70 := Tryz.zeroValue192
  t76 := Tryz.underlying198
  a76 := Tryz.isAgg198
  z76 := Tryz.sizeOf198
  v76 := Tryz.zeroValue198
  t77 := Tryz.underlying199
  a77 := Tryz.isAgg199
  z77 := Tryz.sizeOf199
  v77 := Tryz.zeroValue199 }
end Go.Proofs
namespace Go.Proofs.YtpncbggjngamgaaGreatDoor
set_option linter.unusedVariables false
open Go.RowKit Go.Shelf Go.Sort

theorem flatK_eq (L : List Ky3) : flatK keyC 3 L.toArray = (L.flatMap keyC).toArray := by
  have hl : (L.flatMap keyC).length = L.length * 3 := flatG_len keyC_len L
  apply ext_get!
  · rw [size_flatK, List.size_toArray, List.size_toArray, hl]
  · intro t ht
    rw [size_flatK, List.size_toArray] at ht
    rw [get_flatK _ _ _ _ (by simpa using ht)]
    have hq : t / 3 < L.length := by omega
    have he : L[t / 3]? = some L[t / 3] := List.getElem?_eq_getElem hq
    have hr : t % 3 < (keyC (L[t / 3])).length := by rw [keyC_len]; omega
    have h := flatG_get keyC_len L (t / 3) (t % 3) _ _ he (List.getElem?_eq_getElem hr)
    rw [show t / 3 * 3 + t % 3 = t by omega] at h
    have h1 : L.toArray[t / 3]! = L[t / 3] := by rw [getElem!_pos _ _ (by simpa using hq)]; simp
    have h2 : (L.flatMap keyC).toArray[t]! = (L.flatMap keyC)[t]'(by omega) := by rw [getElem!_pos _ _ (by simpa [hl] using ht)]; simp
    rw [h1, h2, getElem!_pos (keyC (L[t / 3])) (t % 3) hr]
    rw [List.getElem?_eq_getElem (by omega)] at h
    injection h with h
    exact h.symm
/-- What the sort leaves. -/
structure Sorted_ (L L' : List Ky3) : Prop where
  perm : L'.Perm L
  asc : ∀ (i j : Nat) (a b : Ky3), i < j → L'[i]? = some a → L'[j]? = some b → ltK b a = false
theorem sorted_of {L : List Ky3} {d' : Array Ky3} (hp : PermIn 0 L.toArray.size L.toArray d') (hs : SortedIn (ltOf cmpK) 0 L.toArray.size d') : Sorted_ L d'.toList := by
  obtain ⟨h1, _, h2⟩ := hp
  refine ⟨?_, fun i j a b hij ha hb => ?_⟩
  · have e1 : d'.extract 0 L.toArray.size = d' := by rw [← h1]; simp
    rw [e1] at h2
    simpa using h2
  · have hj := (List.getElem?_eq_some_iff.1 hb).1
    have hi := (List.getElem?_eq_some_iff.1 ha).1
    have h := hs i j (Nat.zero_le _) hij (by rw [← h1]; simpa using hj)
    rw [ltOf_cmpK] at h
    have e1 : d'[i]! = a := by rw [getElem!_pos _ _ (by simpa using hi)]; have := (List.getElem?_eq_some_iff.1 ha).2; simpa using this
    have e2 : d'[j]! = b := by rw [getElem!_pos _ _ (by simpa using hj)]; have := (List.getElem?_eq_some_iff.1 hb).2; simpa using this
    rw [e1, e2] at h
    exact h
theorem blk_sorted {w : World} {blk : Nat} {t : TypeId} {cur : Array Value} (hB : Blk w blk t cur) (n : Nat) (d : Array Ky3) (os : Array Obj) :
    Blk (sortWorldK keyC 3 w blk 0 n d os) blk t (putCells id 0 (flatK keyC 3 d) cur) := by
  have hlt := (Array.getElem?_eq_some_iff.1 hB).1
  have hB' : w.heap[blk]? = some (.cells cur t) := hB
  show ((w.heap.modify blk (onCells (putCells id 0 (flatK keyC 3 d)))) ++ os)[blk]? = _
  rw [Array.getElem?_append_left (by rw [Array.size_modify]; exact hlt), Array.getElem?_modify, if_pos rfl, hB']
  rfl
theorem below_sorted (w : World) (blk n : Nat) (d : Array Ky3) (os : Array Obj) (hlt : blk < w.heap.size) : RowKit.Below blk w (sortWorldK keyC 3 w blk 0 n d os) := by
  refine ⟨rfl, rfl, rfl, ?_, fun k hk => ?_⟩
  · show _ ≤ ((w.heap.modify blk (onCells (putCells id 0 (flatK keyC 3 d)))) ++ os).size
    rw [Array.size_append, Array.size_modify]; omega
  · show ((w.heap.modify blk (onCells (putCells id 0 (flatK keyC 3 d)))) ++ os)[k]? = _
    rw [Array.getElem?_append_left (by rw [Array.size_modify]; omega), Array.getElem?_modify, if_neg (by omega)]
theorem take_put (F cur : Array Value) (h : F.size ≤ cur.size) : (putCells id 0 F cur).toList.take F.size = F.toList := by
  apply List.ext_getElem?
  intro i
  rw [List.getElem?_take]
  by_cases hi : i < F.size
  · rw [if_pos hi]
    simp only [Array.getElem?_toList, putCells, Array.getElem?_mapIdx]
    rw [Array.getElem?_eq_getElem (by omega), Array.getElem?_eq_getElem hi]
    simp [hi]
  · rw [if_neg hi, Array.getElem?_toList, Array.getElem?_eq_none (by omega)]
theorem size_put (F cur : Array Value) : (putCells id 0 F cur).size = cur.size := by simp [putCells]
theorem sort_any (blk cap : Nat) (L : List Ky3) (cur : Array Value) (w : World) (hB : Blk w blk 68 cur) (hcs : L.length * 3 ≤ cur.size) (ht : cur.toList.take (L.length * 3) = L.flatMap keyC) (hm : L.length ≤ 1048576) :
    Calls Tryz.prog 88 #[.slice (some ⟨blk, 0, none⟩) L.length cap, .func (.func 82) #[] #[]] w fun e w' => e = .returned (.tuple #[]) ∧ ∃ L' cur', Sorted_ L L' ∧ Blk w' blk 68 cur' ∧ cur'.size = cur.size ∧
      cur'.toList.take (L.length * 3) = L'.flatMap keyC ∧ RowKit.Below blk w w' := by
  have eg : ∀ args w, (callFunc 82 args).run Tryz.prog w = .ok (.enter 82 args) w := enters_of Tryz.func82 (by kernel_rfl) rfl
  have hlt := (Array.getElem?_eq_some_iff.1 hB).1
  have hH : HoldsK keyC 3 w blk 0 L.toArray := by
    intro j hj
    rw [flatK_eq] at hj ⊢
    have hl : (L.flatMap keyC).length = L.length * 3 := flatG_len keyC_len L
    rw [List.size_toArray, hl] at hj
    rw [Nat.zero_add, hB.cell]
    refine ⟨?_, hB.frozen _⟩
    rw [getElem!_pos _ _ (by simpa [hl] using hj)]
    have h1 : (cur.toList.take (L.length * 3))[j]? = cur[j]? := by rw [List.getElem?_take, if_pos hj, Array.getElem?_toList]
    rw [← h1, ht, List.getElem?_eq_getElem (by omega)]
    simp
  have H := AnyQ.slices_SortFunc Tryz.sortKy 3 Tryz.isAgg68 Tryz.sizeOf68 keyC keyC_len keyC_one cmpK swo_cmpK 82 #[] blk 0 cap L.toArray w eg (cmpLays_key blk 0 _ w) hH hlt (by rw [List.size_toArray]; omega)
  change Calls Tryz.prog 88 _ _ _ at H
  rw [List.size_toArray] at H
  refine H.mono ?_
  rintro e w' ⟨rfl, d', n, os, hp, hs, rfl⟩
  have hsz : d'.size = L.length := by have := hp.1; simpa using this
  have hF : (flatK keyC 3 d').size = L.length * 3 := by rw [size_flatK, hsz]
  refine ⟨rfl, d'.toList, _, sorted_of (by simpa using hp) (by simpa using hs), blk_sorted hB n d' os, size_put _ _, ?_, below_sorted w blk n d' os hlt⟩
  rw [← hF, take_put _ _ (by omega)]
  have := flatK_eq d'.toList
  rw [Array.toArray_toList] at this
  rw [this]
set_option maxHeartbeats 2000000 in
theorem ins_none (fv : Value) (w : World) : Calls Tryz.prog 103 #[.slice none 0 0, .int .i64 0, .int .i64 0, fv] w fun e w' => e = .returned (.tuple #[]) ∧ w' = w := by
  go_enter Tryz.func103, Tryz.ntmps103
  go_wp2
  refine wp_loop_rounds 1 ?_
  rw [rounds_succ]
  go_wp2
  go_end0
  exact ⟨rfl, rfl⟩
set_option maxHeartbeats 2000000 in
theorem pdq_none (lim : Int) (fv : Value) (w : World) : Calls Tryz.prog 98 #[.slice none 0 0, .int .i64 0, .int .i64 0, .int .i64 lim, fv] w fun e w' => e = .returned (.tuple #[]) ∧ w' = w := by
  go_enter Tryz.func98, Tryz.ntmps98
  go_wp2
  refine wp_loop_rounds 1 ?_
  rw [rounds_succ]
  go_wp2_with (go_at_call 103; refine (ins_none fv _).mono ?_; rintro e w' ⟨rfl, rfl⟩)
  (try simp only [Exit.inBlock, Exit.then]); refine bodyPost_ret (results_none rfl _ _ _) rfl ?_
  exact ⟨rfl, rfl⟩
theorem len_zero (w : World) : Calls Tryz.prog 99 #[.int .u64 0] w fun e w' => e = .returned (.int .i64 (Lib.bitLen 0 : Nat)) ∧ w' = w := by
  have h := Any.bits_Len (SlLaysF0.n15.bits (P := Tryz.prog) (ρ := Tryz.sortKy_ren) { Tryz.sortKy with }) 0 w (by omega) (by omega)
  exact h
set_option maxHeartbeats 2000000 in
theorem sort_none (fv : Value) (w : World) : Calls Tryz.prog 88 #[.slice none 0 0, fv] w fun e w' => e = .returned (.tuple #[]) ∧ w' = w := by
  go_enter Tryz.func88, Tryz.ntmps88
  go_wp2_with (first | (go_at_call 99; refine (len_zero _).mono ?_; rintro e w' ⟨rfl, rfl⟩) | (go_at_call 98; refine (pdq_none _ fv _).mono ?_; rintro e w' ⟨rfl, rfl⟩))
  go_end0
  exact ⟨rfl, rfl⟩
/-- A map's keys, in order, in a row of the call's own. -/
structure AllK (w w' : World) (L : List (Ky3 × Value)) (N : Nat) (v : Value) : Prop where
  ex : ∃ L', Sorted_ (L.map (·.1)) L' ∧ OwnW w' 68 3 v N (L'.flatMap keyC)
  base : ∀ i, v.ownBlock = some i → w.heap.size ≤ i
  bel : RowKit.Below w.heap.size w w'
theorem sortedFunc_any (B1 bm N : Nat) (f : Ky3 → Option Value) (es : Array MapEntry) (clock : Nat) (L : List (Ky3 × Value)) (w : World) (hB1 : w.cell? ⟨B1, 0, none⟩ = some (.map (some bm))) (hL : MapFs keyV w bm f N es clock L) (hm : N ≤ 1048576) :
    Calls Tryz.prog 80 #[.func (.func 89) #[] #[.pointer (some ⟨B1, 0, none⟩)], .func (.func 82) #[] #[]] w fun e w' =>
      ∃ v, e = .returned v ∧ AllK w w' L N v := by
  have H := Lib.hid (collect_any B1 bm N f es clock L w hB1 hL hm)
  have HLn := Lib.hid hL.len
  clear hB1 hL
  go_enter Tryz.func80, Tryz.ntmps80
  go_wp2_with fail
  refine H.out.mono ?_
  rintro e w1 ⟨v, ys, rfl, hp, h1, h2⟩
  have hyl : ys.length = N := by have := hp.length_eq; rw [List.length_map, HLn.out] at this; exact this
  clear HLn
  subst hyl
  have HP := Lib.hid hp
  clear hp
  have hb2 := Lib.hid h2
  clear h2 H
  rcases h1.2 with ⟨rfl, h0⟩ | ⟨g, cap, cur, rfl, hbase, hk, hnc, hcm, hcs, ht⟩
  · have hnil : ys = [] := List.eq_nil_of_length_eq_zero h0
    subst hnil
    clear h1 h0
    go_wp2_with (go_at_call 88; refine (sort_none _ _).mono ?_; rintro e w' ⟨rfl, rfl⟩)
    go_ret
    exact ⟨_, rfl, ⟨[], ⟨HP.out, fun i j a b _ h => by simp at h⟩, OwnW.nil _ _ _⟩, (fun i h => by cases h), hb2.out⟩
  · have hS := Lib.hid (sort_any g cap ys cur w1 hk (by rw [hcs]; exact Nat.mul_le_mul_right 3 hnc) ht hm)
    have HK := Lib.hid (And.intro hnc (And.intro hcm (And.intro hcs hbase)))
    clear h1 hk hnc hcm hcs hbase ht
    go_wp2_with fail
    refine hS.out.mono ?_
    rintro e w2 ⟨rfl, L', cur', hs, hB, hsz, ht, hb⟩
    have HS := Lib.hid (And.intro hs (And.intro hB (And.intro hsz (And.intro ht hb))))
    clear hs hB hsz ht hb hS
    go_wp2
    go_ret
    obtain ⟨hs, hB, hsz, ht, hb⟩ := HS.out
    obtain ⟨hnc, hcm, hcs, hbase⟩ := HK.out
    have hl := hs.perm.length_eq
    have hbb : ∀ i, Value.ownBlock (.slice (some ⟨g, 0, none⟩) ys.length cap) = some i → w.heap.size ≤ i := by
      intro i h
      have : g = i := by simpa [Value.ownBlock] using h
      omega
    have hO : OwnW w2 68 3 (.slice (some ⟨g, 0, none⟩) ys.length cap) ys.length (L'.flatMap keyC) := ⟨by rw [flatG_len keyC_len, hl], .inr ⟨g, cap, cur', rfl, hB, hnc, by unfold maxLen at hcm; exact hcm, by rw [hsz, hcs]; exact Nat.le_refl _, ht⟩⟩
    exact ⟨_, rfl, ⟨⟨L', ⟨hs.perm.trans HP.out, hs.asc⟩, hO⟩, hbb, hb2.out.trans (hb.mono hbase)⟩⟩
end Go.Proofs.YtpncbggjngamgaaGreatDoor
namespace Go.Proofs.YtpncbggjngamgaaGreatDoor
set_option linter.unusedVariables false
open Go.RowKit

def YieldsU (P : Program) (ops : Array Oper) (S : World → Prop) (o : Oper) (v : Value) (a : Act) : Prop := YieldsIf P ops S o v a ∧ ∀ w, S w → o.about P w a.eval = none
section
variable {F : Fence} {n : Nat} {P : Program} {ops : Array Oper} {S : World → Prop} {Q : Exit → Act → World → Prop}
theorem YieldsU.wpOpIn {i : Nat} {o : Oper} {v : Value} {a : Act} (hro : F.round = none) (hi : ops[i]? = some o) (hy : YieldsU P ops S o v a) {K : Act → World → Prop} {w : World} (hS : S w) (h : K (a.put o.dst v) w) : wpOpIn F n P ops Q i K a w := by
  have hab : ∀ f, o.about P w a.eval = some f → F.fn f := fun f hf => by rw [hy.2 w hS] at hf; cases hf
  unfold Go.wpOpIn
  rw [hi]
  rcases hy.1 with ⟨hw, hv⟩ | ⟨hw, rfl⟩
  · simp only [hw, if_true, Oper.wpIn, hro, Oper.semAt_none, hv w hS, Oper.uponIn]
    exact ⟨hab, h⟩
  · simp only [hw, Bool.false_eq_true, if_false]
    exact ⟨hab, h⟩
/-- An operation apart from another: that one's value laid in ahead makes no odds to it. -/
theorem wpOpIn_ahead {j : Nat} {oi oj : Oper} {v : Value} (hro : F.round = none) (hj : ops[j]? = some oj) (hap : oi.apart ops oj = true) (hsj : ∀ cs b, oj.op ≠ .select cs b)
    (hQ : ∀ c a w, Q (.panic c) (a.put oi.dst v) w → Q (.panic c) a w) {K : Act → World → Prop} {a : Act} {w : World} (h : wpOpIn F n P ops Q j K (a.put oi.dst v) w) :
    wpOpIn F n P ops Q j (fun a' w' => (∃ ds u, a' = ({ a with defers := ds } : Act).put oj.dst u) ∧ K (a'.put oi.dst v) w') a w := by
  obtain ⟨h1, h2, _⟩ := Oper.apart_spec hap
  have hk : ∀ u w', K ((a.put oi.dst v).put oj.dst u) w' → (∃ ds u', a.put oj.dst u = ({ a with defers := ds } : Act).put oj.dst u') ∧ K ((a.put oj.dst u).put oi.dst v) w' :=
    fun u w' hK => ⟨⟨a.defers, u, rfl⟩, by rw [← Act.put_comm a v u h2]; exact hK⟩
  unfold wpOpIn at *
  rw [hj] at *
  simp only at h ⊢
  rw [wanted_put oj a oi.dst v h1, about_put oj w a oi.dst v h1] at h
  by_cases hw : Region.wanted oj (yielded ops a.tmps) = true
  · rw [if_pos hw] at h ⊢
    unfold Oper.wpIn at *
    rw [about_put oj w a oi.dst v h1, hro, Oper.semAt_none, execOp_put oj hsj a oi.dst v h1] at h
    rw [hro, Oper.semAt_none]
    refine ⟨h.1, ?_⟩
    have hh := h.2
    clear h
    generalize (execOp a.eval oj).run P w = r at *
    cases r with
    | ok x w' =>
      cases x <;> simp only [Oper.uponIn] at hh ⊢
      case value u => exact hk u w' hh
      case skip => exact hk _ w' hh
      case defer d =>
        refine ⟨⟨d :: a.defers, undef, rfl⟩, ?_⟩
        rw [← Act.put_comm _ v undef h2, ← Act.put_defers]
        exact hh
      case enter f args => exact ⟨hh.1, CallsIn.mono hh.2 fun e w'' he => by cases e <;> first | exact hk _ _ he | exact hQ _ _ _ he | exact he⟩
      case row row args => exact ⟨hh.1, RowsIn.mono hh.2 fun u w'' he => hk u _ he⟩
      case round l f tmps assign body => exact ⟨hh.1, RoundIn.mono hh.2 fun e w'' he => by cases e <;> first | exact hk _ _ he | exact hQ _ _ _ he | exact he⟩
    | halt x w' => cases x <;> simp only [Oper.uponIn] at hh ⊢ <;> exact hQ _ _ _ hh
  · rw [if_neg hw] at h ⊢
    exact ⟨h.1, hk _ w h.2⟩
/-- c comes ahead of d. -/
def aheadB (ops : Array Oper) (c d : Nat) : Bool := match ops[d]? with
  | some o => o.after.any fun x => x.on == c && Region.binds .any x
  | none => false
def pathB (ops : Array Oper) : List Nat → Bool
  | c :: d :: r => aheadB ops c d && pathB ops (d :: r)
  | _ => true
/-- What has come up has all that it waits for behind it. -/
def DC (ops : Array Oper) (listed : Array Bool) : Prop := ∀ (d : Nat) (od : Oper), ops[d]? = some od → listed.getD d false = true → ∀ x ∈ od.after, Region.binds .any x = true → listed.getD x.on false = true
theorem anc_listed {listed : Array Bool} (hd : DC ops listed) {z : Nat} (hz : listed.getD z false = true ∨ z ∈ Region.ready .any ops listed) : ∀ (p : List Nat) (c : Nat), pathB ops (c :: p ++ [z]) = true → listed.getD c false = true := by
  have one : ∀ c d, aheadB ops c d = true → (listed.getD d false = true ∨ d ∈ Region.ready .any ops listed) → listed.getD c false = true := fun c d h hl => by
    unfold aheadB at h
    cases ho : ops[d]? with
    | none => rw [ho] at h; cases h
    | some o =>
      rw [ho] at h
      simp only [Array.any_eq_true'] at h
      obtain ⟨x, hx, hb⟩ := h
      simp only [Bool.and_eq_true, beq_iff_eq] at hb
      rw [← hb.1]
      rcases hl with hl | hl
      · exact hd d o ho hl x hx hb.2
      · obtain ⟨_, oj, hoj, hall⟩ := mem_ready.1 hl
        rw [ho] at hoj
        injection hoj with hoj
        subst hoj
        simpa using hall x hx hb.2
  intro p
  induction p with
  | nil =>
    intro c h
    simp only [List.nil_append, List.cons_append, pathB, Bool.and_eq_true] at h
    exact one c z h.1 hz
  | cons d p ih =>
    intro c h
    simp only [List.cons_append, pathB, Bool.and_eq_true] at h
    exact one c d h.1 (.inl (ih d h.2))
/-- As 'wpAnyIn', S shown anew behind each operation until z has come up. -/
def wpAnyU (F : Fence) (n : Nat) (P : Program) (ops : Array Oper) (Q : Exit → Act → World → Prop) (S : World → Prop) (z : Nat) : Nat → Array Bool → Act → World → Prop
  | 0, listed, a, w => Region.ready .any ops listed = [] ∧ Q .normal a w
  | fuel + 1, listed, a, w => (Region.ready .any ops listed = [] → Q .normal a w) ∧
    ∀ i ∈ Region.ready .any ops listed, wpOpIn F n P ops Q i (fun a' w' => ((listed.setIfInBounds i true).getD z false = false → S w') ∧ wpAnyU F n P ops Q S z fuel (listed.setIfInBounds i true) a' w') a w
theorem wpAnyIn_ofU {z : Nat} : ∀ (fuel : Nat) (listed : Array Bool) (a : Act) (w : World), wpAnyU F n P ops Q S z fuel listed a w → wpAnyIn F n P .any ops Q fuel listed a w
  | 0, _, _, _, h => h
  | fuel + 1, _, _, _, h => ⟨h.1, fun i hi => wpOpIn_mono (fun a' w' h' => wpAnyIn_ofU fuel _ a' w' h'.2) (h.2 i hi)⟩
theorem DC.set {listed : Array Bool} (hd : DC ops listed) {j : Nat} (hj : j ∈ Region.ready .any ops listed) : DC ops (listed.setIfInBounds j true) := by
  intro d od ho hl x hx hb
  obtain ⟨_, oj, hoj, hall⟩ := mem_ready.1 hj
  rcases Decidable.em (j = d) with e | e
  · subst e
    rw [hoj] at ho
    injection ho with ho
    subst ho
    exact getD_set_true (by simpa using hall x hx hb)
  · rw [getD_set_ne false e] at hl
    exact getD_set_true (hd d od ho hl x hx hb)
theorem wpAnyU_first {z i : Nat} {oi : Oper} {v : Value} {p : List Nat} (hp : pathB ops (i :: p ++ [z]) = true) (hro : F.round = none) (hi : ops[i]? = some oi) (hsel : ∀ (j : Nat) (o : Oper) cs b, ops[j]? = some o → o.op ≠ .select cs b)
    (hQ : ∀ c a w, Q (.panic c) (a.put oi.dst v) w → Q (.panic c) a w) :
    ∀ (fuel : Nat) (listed : Array Bool) (a : Act) (w : World), DC ops listed → Region.free .any ops listed i = true → i ∈ Region.ready .any ops listed → YieldsU P ops S oi v a → S w →
      wpAnyU F n P ops Q S z fuel (listed.setIfInBounds i true) (a.put oi.dst v) w → wpAnyU F n P ops Q S z (fuel + 1) listed a w := by
  intro fuel
  induction fuel with
  | zero =>
    intro listed a w hd hf hr hy hS H
    refine ⟨fun h => (by rw [h] at hr; cases hr), fun j hj => ?_⟩
    rcases Decidable.em (j = i) with e | e
    · rw [e]; exact hy.wpOpIn hro hi hS ⟨fun _ => hS, H⟩
    · have := ready_mono hj e
      rw [H.1] at this
      cases this
  | succ fuel ih =>
    intro listed a w hd hf hr hy hS H
    refine ⟨fun h => (by rw [h] at hr; cases hr), fun j hj => ?_⟩
    rcases Decidable.em (j = i) with e | e
    · rw [e]; exact hy.wpOpIn hro hi hS ⟨fun _ => hS, H⟩
    obtain ⟨hjun, oj, hoj, hall⟩ := mem_ready.1 hj
    have hiun := (mem_ready.1 hr).1
    have hiun2 : listed.getD i false = false := by
      rcases Nat.lt_or_ge i listed.size with h' | h'
      · simp [h'] at hiun ⊢; exact hiun
      · simp [Array.getElem?_eq_none h']
    have hzun : listed.getD z false = false := by
      cases hz : listed.getD z false with
      | false => rfl
      | true => have := anc_listed hd (.inl hz) p i hp; rw [hiun2] at this; cases this
    have hjz : j ≠ z := fun e2 => by
      subst e2
      have := anc_listed hd (.inr hj) p i hp
      rw [hiun2] at this
      cases this
    have hzi : i ≠ z := fun e2 => by
      subst e2
      have := anc_listed hd (.inr hr) p i hp
      rw [hiun2] at this
      cases this
    have hno : ∀ x ∈ oj.after, Region.binds .any x = true → x.on ≠ i := fun x hx hb he => by
      have h1 := hall x hx hb
      rw [he] at h1
      rcases Nat.lt_or_ge i listed.size with h' | h'
      · simp [h'] at hiun h1
        rw [hiun] at h1
        cases h1
      · simp [Array.getElem?_eq_none h'] at h1
    have hap := Region.free_spec hi hf j oj hoj e hjun hno
    have h2 := wpOpIn_ahead hro hoj hap (fun cs b => hsel j oj cs b hoj) hQ (H.2 j (ready_mono hj e))
    refine wpOpIn_mono (fun a' w' h3 => ?_) h2
    obtain ⟨⟨ds, u, rfl⟩, hS', h3⟩ := h3
    have hSw : S w' := hS' (by rw [getD_set_ne false hjz, getD_set_ne false hzi]; exact hzun)
    refine ⟨fun _ => hSw, ih (listed.setIfInBounds j true) _ w' (hd.set hj) ?_ (ready_mono hr (Ne.symm e)) ?_ hSw ?_⟩
    · unfold Region.free at hf ⊢
      rw [hi] at hf ⊢
      simp only [List.all_eq_true, List.mem_range] at hf ⊢
      intro k hk
      have := hf k hk
      simp only [Bool.or_eq_true] at this ⊢
      rcases this with (h | h) | h
      · exact .inl (.inl h)
      · refine .inl (.inr ?_)
        by_cases hjk : j = k
        · subst hjk
          rw [hjun] at h
          cases h
        · rw [getD_set_ne true hjk]; exact h
      · exact .inr h
    · have h3' := (Oper.apart_spec hap).2.2
      have he : execOp (({ a with defers := ds } : Act).put oj.dst u).eval oi = execOp a.eval oi := by rw [execOp_put oi (fun cs b => hsel i oi cs b hi) _ oj.dst u h3', act_defers]
      have hw : Region.wanted oi (yielded ops (({ a with defers := ds } : Act).put oj.dst u).tmps) = Region.wanted oi (yielded ops a.tmps) := by rw [wanted_put oi _ oj.dst u h3']
      refine ⟨?_, fun w hS => by rw [about_put oi w _ oj.dst u h3']; exact hy.2 w hS⟩
      unfold YieldsIf
      rw [he, hw]
      exact hy.1
    · rw [Array.setIfInBounds_comm _ _ e]
      exact h3
theorem wpInU_exit {o : Oper} {a : Act} {w : World} {K : Act → World → Prop} (h : o.wpIn F n P a w K (Exit.then K Q)) : o.wpIn F n P a w K Q := by
  unfold Oper.wpIn at *
  refine ⟨h.1, ?_⟩
  have hh := h.2
  clear h
  generalize (o.semAt F.round a.eval).run P w = r at *
  cases r with
  | ok x w' =>
    cases x <;> simp only [Oper.uponIn] at hh ⊢ <;>
      first
        | exact hh
        | exact ⟨hh.1, CallsIn.mono hh.2 fun e w'' he => by cases e <;> exact he⟩
        | exact ⟨hh.1, RoundIn.mono hh.2 fun e w'' he => by cases e <;> exact he⟩
  | halt x w' => cases x <;> simp only [Oper.uponIn] at hh ⊢ <;> exact hh
/-- An operation's part: 0: it leaves a value, 1: it is walked, S shown anew behind it, 2: it is walked, and S asked no more. -/
def wpU (F : Fence) (n : Nat) (P : Program) (ops : Array Oper) (Q : Exit → Act → World → Prop) (S : World → Prop) : List (Oper × Nat) → Act → World → Prop
  | [], a, w => Q .normal a w
  | (o, 0) :: r, a, w => ∃ v, YieldsU P ops S o v a ∧ S w ∧ wpU F n P ops Q S r (a.put o.dst v) w
  | (o, 1) :: r, a, w => ∀ K : Act → World → Prop, (∀ a w, S w → wpU F n P ops Q S r a w → K a w) → wpListIn F n P ops (Exit.then K Q) [o] a w
  | (o, _) :: r, a, w => ∀ K : Act → World → Prop, (∀ a w, wpU F n P ops Q S r a w → K a w) → wpListIn F n P ops (Exit.then K Q) [o] a w
def okU (ops : Array Oper) (z : Nat) : Array Bool → List (Nat × Nat × List Nat) → Bool
  | listed, [] => (Region.ready .any ops listed).isEmpty
  | listed, (i, 0, p) :: r => Region.free .any ops listed i && (Region.ready .any ops listed).contains i && pathB ops (i :: p ++ [z]) && okU ops z (listed.setIfInBounds i true) r
  | listed, (i, 1, _) :: r => (Region.ready .any ops listed == [i]) && okU ops z (listed.setIfInBounds i true) r
  | listed, (i, _, _) :: r => (Region.ready .any ops listed == [i]) && (listed.setIfInBounds i true).getD z false && okU ops z (listed.setIfInBounds i true) r
theorem wpOpIn_oneU {i : Nat} {o : Oper} {a : Act} {w : World} {K : Act → World → Prop} (hi : ops[i]? = some o) (h' : wpListIn F n P ops (Exit.then K Q) [o] a w) : wpOpIn F n P ops Q i K a w := by
  unfold wpOpIn
  rw [hi]
  simp only [wpListIn] at h'
  show if _ then _ else _
  split
  · rename_i hw
    rw [if_pos hw] at h'
    exact wpInU_exit h'
  · rename_i hw
    rw [if_neg hw] at h'
    exact h'
theorem wpAny_u {z : Nat} (hro : F.round = none) (hs : Region.noSelect ops = true) (hQ : ∀ c d v a w, Q (.panic c) (Act.put a d v) w → Q (.panic c) a w) : ∀ (π : List (Nat × Nat × List Nat)) (listed : Array Bool) (a : Act) (w : World),
    DC ops listed → okU ops z listed π = true → wpU F n P ops Q S (π.map fun x => (nthOp ops.toList x.1, x.2.1)) a w → wpAnyU F n P ops Q S z π.length listed a w := by
  have get : ∀ i, i < ops.size → ops[i]? = some (nthOp ops.toList i) := fun i hlt => by
    have := nthOp_get ops.toList i (by simpa using hlt)
    simpa using this
  intro π
  induction π with
  | nil =>
    intro listed a w _ ho h
    simp only [okU, List.isEmpty_iff] at ho
    exact ⟨ho, h⟩
  | cons x r ih =>
    obtain ⟨i, k, p⟩ := x
    intro listed a w hd ho h
    match k, ho, h with
    | 0, ho, h =>
      simp only [okU, Bool.and_eq_true] at ho
      obtain ⟨⟨⟨hf, hr⟩, hp⟩, ho⟩ := ho
      obtain ⟨v, hy, hS, hrest⟩ := h
      have hr' : i ∈ Region.ready .any ops listed := by simpa using hr
      exact wpAnyU_first hp hro (get i (ready_lt hr')) (Region.noSelect_spec hs) (fun c a w h => hQ c _ _ a w h) _ listed a w hd hf hr' hy hS (ih _ _ _ (hd.set hr') ho hrest)
    | 1, ho, h =>
      simp only [okU, Bool.and_eq_true, beq_iff_eq] at ho
      obtain ⟨hr, ho⟩ := ho
      have hm : i ∈ Region.ready .any ops listed := by rw [hr]; exact List.mem_singleton.2 rfl
      refine ⟨fun h0 => (by rw [hr] at h0; cases h0), fun j hj => ?_⟩
      rw [hr, List.mem_singleton] at hj
      subst hj
      exact wpOpIn_oneU (get j (ready_lt hm)) (h _ (fun a w hS hh => ⟨fun _ => hS, ih _ _ _ (hd.set hm) ho hh⟩))
    | k + 2, ho, h =>
      simp only [okU, Bool.and_eq_true, beq_iff_eq] at ho
      obtain ⟨⟨hr, hz⟩, ho⟩ := ho
      have hm : i ∈ Region.ready .any ops listed := by rw [hr]; exact List.mem_singleton.2 rfl
      refine ⟨fun h0 => (by rw [hr] at h0; cases h0), fun j hj => ?_⟩
      rw [hr, List.mem_singleton] at hj
      subst hj
      exact wpOpIn_oneU (get j (ready_lt hm)) (h _ (fun a w hh => ⟨fun h0 => (by rw [hz] at h0; cases h0), ih _ _ _ (hd.set hm) ho hh⟩))
/-- A region that draws its order, in a fence, in an order of ours, beside S until z has come up. -/
theorem wpIn_region_u {id : Nat} {a : Act} {w : World} (hro : F.round = none) (S : World → Prop) (z : Nat) (π : List (Nat × Nat × List Nat))
    (hm : (P.follows .mixedOrders && Region.noSelect ops && (π.length == ops.size) && okU ops z (Array.replicate ops.size false) π) = true)
    (hQ : ∀ c d v a w, Q (.panic c) (Act.put a d v) w → Q (.panic c) a w)
    (h : wpU F n P ops Q S (π.map fun x => (nthOp ops.toList x.1, x.2.1)) a w.drew) : (Code.region id ops true).wpIn F n P Q a w := by
  simp only [Bool.and_eq_true, beq_iff_eq] at hm
  obtain ⟨⟨⟨h1, h2⟩, h3⟩, h4⟩ := hm
  refine wpIn_region_any h1 (wpAnyIn_ofU (S := S) (z := z) _ _ _ _ ?_)
  rw [← h3]
  refine wpAny_u hro h2 hQ π _ a _ (fun d od _ hl => ?_) (by rw [h3]; exact h4) h
  exfalso
  simp [Array.getElem?_replicate] at hl
  split at hl <;> simp at hl
variable {r : List (Oper × Nat)} {o : Oper} {a : Act} {w : World} {v : Value}
theorem wpU_nil (h : Q .normal a w) : wpU F n P ops Q S [] a w := h
theorem wpU_take (hS : Hid (S w)) (hw : Region.wanted o (yielded ops a.tmps) = true) (hb : ∀ w, S w → o.about P w a.eval = none) (hv : ∀ w, S w → (execOp a.eval o).run P w = .ok (.value v) w) (h : wpU F n P ops Q S r (a.put o.dst v) w) : wpU F n P ops Q S ((o, 0) :: r) a w := ⟨v, ⟨.inl ⟨hw, hv⟩, hb⟩, hS, h⟩
theorem wpU_do (h : ∀ K : Act → World → Prop, Hid (∀ a w, S w → wpU F n P ops Q S r a w → K a w) → wpListIn F n P ops (Exit.then K Q) [o] a w) : wpU F n P ops Q S ((o, 1) :: r) a w := fun K hK => h K hK
theorem wpU_end (h : ∀ K : Act → World → Prop, Hid (∀ a w, wpU F n P ops Q S r a w → K a w) → wpListIn F n P ops (Exit.then K Q) [o] a w) : wpU F n P ops Q S ((o, 2) :: r) a w := fun K hK => h K hK
end
end Go.Proofs.YtpncbggjngamgaaGreatDoor
