/-
  ListNone, walked.
-/
import Derived.Test.YtjkmehpokdaonaaSpr7
import Derived.Test.YtjkmehpokdaonaaSpr10
namespace Go.Proofs.Ytjkmehpokdaonaa
set_option linter.unusedVariables false
open Go.RowKit

theorem Two.none {g : Nat} {t t' : TypeId} {cs : Array Value} {W : World} (h : Two g (g + 1) t t' cs #[.int .u32 0, .int .u32 0, .slice none 0 0, .map none] W) : IsNone (.pointer (some ⟨g + 1, 0, none⟩)) W := isNone_zero W (g + 1) (h.2.cell 3)
set_option maxRecDepth 100000 in
set_option maxHeartbeats 2000000 in
theorem listNone_walk (h : Hd) (A : Option Addr) (n c : Nat) (w : World) : Calls Try.prog 6 #[stV h A n c] w fun e w' => e = .returned (.bool true) ∧ Below w.heap.size w w' := by
  go_enter Try.func6, Try.ntmps6
  go_wp2_with fail
  have F0 : Hid (Two w.heap.size (w.heap.size + 1) 44 55 #[.int .u16 h.age, .int .u8 h.opts, .int .u8 h.typ, .int .u32 h.id, .int .u32 h.adv, .int .i32 h.seq, .int .u16 h.sum, .int .u16 h.len, .slice A n c] #[.int .u32 0, .int .u32 0, .slice none 0 0, .map none] ((w.alloc (.cells #[.int .u16 h.age, .int .u8 h.opts, .int .u8 h.typ, .int .u32 h.id, .int .u32 h.adv, .int .i32 h.seq, .int .u16 h.sum, .int .u16 h.len, .slice A n c] 44)).alloc (.cells #[.int .u32 0, .int .u32 0, .slice none 0 0, .map none] 55)) ∧ Below w.heap.size w ((w.alloc (.cells #[.int .u16 h.age, .int .u8 h.opts, .int .u8 h.typ, .int .u32 h.id, .int .u32 h.adv, .int .i32 h.seq, .int .u16 h.sum, .int .u16 h.len, .slice A n c] 44)).alloc (.cells #[.int .u32 0, .int .u32 0, .slice none 0 0, .map none] 55))) :=
    ⟨⟨(Blk.new _ _ _).alloc _, new_at _ _ _⟩, below_two _ _ _⟩
  generalize (w.alloc (.cells #[.int .u16 h.age, .int .u8 h.opts, .int .u8 h.typ, .int .u32 h.id, .int .u32 h.adv, .int .i32 h.seq, .int .u16 h.sum, .int .u16 h.len, .slice A n c] 44)).alloc (.cells #[.int .u32 0, .int .u32 0, .slice none 0 0, .map none] 55) = w0 at *
  generalize hs0 : w.heap.size = g0 at *
  refine (addNo_any _ h A n c w0 (isNone_nil w0)).mono ?_
  rintro e w1 ⟨rfl, hb⟩
  have F1 : Hid (Two g0 (g0 + 1) 44 55 #[.int .u16 h.age, .int .u8 h.opts, .int .u8 h.typ, .int .u32 h.id, .int .u32 h.adv, .int .i32 h.seq, .int .u16 h.sum, .int .u16 h.len, .slice A n c] #[.int .u32 0, .int .u32 0, .slice none 0 0, .map none] w1 ∧ Below g0 w w1) := ⟨F0.out.1.later hb, F0.out.1.below F0.out.2 hb⟩
  clear hb F0
  have j0 := F1.out.1.1.cell 0
  have j1 := F1.out.1.1.cell 1
  have j2 := F1.out.1.1.cell 2
  have j3 := F1.out.1.1.cell 3
  have j4 := F1.out.1.1.cell 4
  have j5 := F1.out.1.1.cell 5
  have j6 := F1.out.1.1.cell 6
  have j7 := F1.out.1.1.cell 7
  have j8 := F1.out.1.1.cell 8
  simp only [List.getElem?_toArray, List.getElem?_cons_zero, List.getElem?_cons_succ] at j0 j1 j2 j3 j4 j5 j6 j7 j8
  go_wp2_with fail
  refine (addNo_any _ h A n c w1 F1.out.1.none).mono ?_
  rintro e w2 ⟨rfl, hb⟩
  have F2 : Hid (Two g0 (g0 + 1) 44 55 #[.int .u16 h.age, .int .u8 h.opts, .int .u8 h.typ, .int .u32 h.id, .int .u32 h.adv, .int .i32 h.seq, .int .u16 h.sum, .int .u16 h.len, .slice A n c] #[.int .u32 0, .int .u32 0, .slice none 0 0, .map none] w2 ∧ Below g0 w w2) := ⟨F1.out.1.later hb, F1.out.1.below F1.out.2 hb⟩
  clear hb F1
  clear j0 j1 j2 j3 j4 j5 j6 j7 j8
  have j0 := F2.out.1.1.cell 0
  have j1 := F2.out.1.1.cell 1
  have j2 := F2.out.1.1.cell 2
  have j3 := F2.out.1.1.cell 3
  have j4 := F2.out.1.1.cell 4
  have j5 := F2.out.1.1.cell 5
  have j6 := F2.out.1.1.cell 6
  have j7 := F2.out.1.1.cell 7
  have j8 := F2.out.1.1.cell 8
  simp only [List.getElem?_toArray, List.getElem?_cons_zero, List.getElem?_cons_succ] at j0 j1 j2 j3 j4 j5 j6 j7 j8
  go_wp2_with (go_at_call 19; refine (clearNo_any _ _ (isNone_nil _)).mono ?_; rintro e w' ⟨rfl, rfl⟩)
  refine (ref14Key_any h w2).mono ?_
  rintro e w3 ⟨rfl, hb⟩
  have F3 : Hid (Two g0 (g0 + 1) 44 55 #[.int .u16 h.age, .int .u8 h.opts, .int .u8 h.typ, .int .u32 h.id, .int .u32 h.adv, .int .i32 h.seq, .int .u16 h.sum, .int .u16 h.len, .slice A n c] #[.int .u32 0, .int .u32 0, .slice none 0 0, .map none] w3 ∧ Below g0 w w3) := ⟨F2.out.1.later hb, F2.out.1.below F2.out.2 hb⟩
  clear hb F2
  clear j0 j1 j2 j3 j4 j5 j6 j7 j8
  have F4 : Hid (Two g0 (g0 + 1) 44 55 #[.int .u16 h.age, .int .u8 h.opts, .int .u8 h.typ, .int .u32 h.id, .int .u32 h.adv, .int .i32 h.seq, .int .u16 h.sum, .int .u16 h.len, .slice A n c] #[.int .u32 0, .int .u32 0, .slice none 0 0, .map none] (w3.alloc (.cells #[.int .u8 h.typ, .int .u32 h.id, .int .u32 h.adv] 46)) ∧ Below g0 w (w3.alloc (.cells #[.int .u8 h.typ, .int .u32 h.id, .int .u32 h.adv] 46)) ∧ Blk (w3.alloc (.cells #[.int .u8 h.typ, .int .u32 h.id, .int .u32 h.adv] 46)) w3.heap.size 46 #[.int .u8 h.typ, .int .u32 h.id, .int .u32 h.adv]) := ⟨⟨F3.out.1.1.alloc _, F3.out.1.2.alloc _⟩, F3.out.2.alloc (Nat.le_of_lt F3.out.1.1.lt) _, Blk.new _ _ _⟩
  clear F3
  have j0 := F4.out.1.1.cell 0
  have j1 := F4.out.1.1.cell 1
  have j2 := F4.out.1.1.cell 2
  have j3 := F4.out.1.1.cell 3
  have j4 := F4.out.1.1.cell 4
  have j5 := F4.out.1.1.cell 5
  have j6 := F4.out.1.1.cell 6
  have j7 := F4.out.1.1.cell 7
  have j8 := F4.out.1.1.cell 8
  simp only [List.getElem?_toArray, List.getElem?_cons_zero, List.getElem?_cons_succ] at j0 j1 j2 j3 j4 j5 j6 j7 j8
  go_wp2_with fail
  generalize w3.alloc (.cells #[.int .u8 h.typ, .int .u32 h.id, .int .u32 h.adv] 46) = w4 at *
  generalize w3.heap.size = g2 at *
  refine (confirmNo_any _ h w4 (isNone_nil w4)).mono ?_
  rintro e w5 ⟨rfl, hb⟩
  have F5 : Hid (Two g0 (g0 + 1) 44 55 #[.int .u16 h.age, .int .u8 h.opts, .int .u8 h.typ, .int .u32 h.id, .int .u32 h.adv, .int .i32 h.seq, .int .u16 h.sum, .int .u16 h.len, .slice A n c] #[.int .u32 0, .int .u32 0, .slice none 0 0, .map none] w5 ∧ Below g0 w w5 ∧ Blk w5 g2 46 #[.int .u8 h.typ, .int .u32 h.id, .int .u32 h.adv]) := ⟨F4.out.1.later hb, F4.out.1.below F4.out.2.1 hb, F4.out.2.2.later hb⟩
  clear hb F4
  clear j0 j1 j2 j3 j4 j5 j6 j7 j8
  have j0 := F5.out.1.1.cell 0
  have j1 := F5.out.1.1.cell 1
  have j2 := F5.out.1.1.cell 2
  have j3 := F5.out.1.1.cell 3
  have j4 := F5.out.1.1.cell 4
  have j5 := F5.out.1.1.cell 5
  have j6 := F5.out.1.1.cell 6
  have j7 := F5.out.1.1.cell 7
  have j8 := F5.out.1.1.cell 8
  simp only [List.getElem?_toArray, List.getElem?_cons_zero, List.getElem?_cons_succ] at j0 j1 j2 j3 j4 j5 j6 j7 j8
  go_wp2_with fail
  refine (confirmNo_any _ h w5 F5.out.1.none).mono ?_
  rintro e w6 ⟨rfl, hb⟩
  have F6 : Hid (Two g0 (g0 + 1) 44 55 #[.int .u16 h.age, .int .u8 h.opts, .int .u8 h.typ, .int .u32 h.id, .int .u32 h.adv, .int .i32 h.seq, .int .u16 h.sum, .int .u16 h.len, .slice A n c] #[.int .u32 0, .int .u32 0, .slice none 0 0, .map none] w6 ∧ Below g0 w w6 ∧ Blk w6 g2 46 #[.int .u8 h.typ, .int .u32 h.id, .int .u32 h.adv]) := ⟨F5.out.1.later hb, F5.out.1.below F5.out.2.1 hb, F5.out.2.2.later hb⟩
  clear hb F5
  clear j0 j1 j2 j3 j4 j5 j6 j7 j8
  have k0 := F6.out.2.2.cell 0
  have k1 := F6.out.2.2.cell 1
  have k2 := F6.out.2.2.cell 2
  simp only [List.getElem?_toArray, List.getElem?_cons_zero, List.getElem?_cons_succ] at k0 k1 k2
  go_wp2_with fail
  refine (dropNo_any _ h.key w6 (isNone_nil w6)).mono ?_
  rintro e w7 ⟨rfl, hb⟩
  have F7 : Hid (Two g0 (g0 + 1) 44 55 #[.int .u16 h.age, .int .u8 h.opts, .int .u8 h.typ, .int .u32 h.id, .int .u32 h.adv, .int .i32 h.seq, .int .u16 h.sum, .int .u16 h.len, .slice A n c] #[.int .u32 0, .int .u32 0, .slice none 0 0, .map none] w7 ∧ Below g0 w w7 ∧ Blk w7 g2 46 #[.int .u8 h.typ, .int .u32 h.id, .int .u32 h.adv]) := ⟨F6.out.1.later hb, F6.out.1.below F6.out.2.1 hb, F6.out.2.2.later hb⟩
  clear hb F6
  clear k0 k1 k2
  have k0 := F7.out.2.2.cell 0
  have k1 := F7.out.2.2.cell 1
  have k2 := F7.out.2.2.cell 2
  simp only [List.getElem?_toArray, List.getElem?_cons_zero, List.getElem?_cons_succ] at k0 k1 k2
  go_wp2_with fail
  refine (dropNo_any _ h.key w7 F7.out.1.none).mono ?_
  rintro e w8 ⟨rfl, hb⟩
  have F8 : Hid (Two g0 (g0 + 1) 44 55 #[.int .u16 h.age, .int .u8 h.opts, .int .u8 h.typ, .int .u32 h.id, .int .u32 h.adv, .int .i32 h.seq, .int .u16 h.sum, .int .u16 h.len, .slice A n c] #[.int .u32 0, .int .u32 0, .slice none 0 0, .map none] w8 ∧ Below g0 w w8 ∧ Blk w8 g2 46 #[.int .u8 h.typ, .int .u32 h.id, .int .u32 h.adv]) := ⟨F7.out.1.later hb, F7.out.1.below F7.out.2.1 hb, F7.out.2.2.later hb⟩
  clear hb F7
  clear k0 k1 k2
  have HN := Lib.hid F8.out.1.none
  have HN0 := Lib.hid (isNone_nil w8)
  go_wp2_with fail
  refine (tickNo_any (.pointer none) w8 HN0.out).mono ?_
  rintro e w' ⟨rfl, rfl⟩
  go_wp2_with fail
  refine (tickNo_any (.pointer (some ⟨g0 + 1, 0, none⟩)) w8 HN.out).mono ?_
  rintro e w' ⟨rfl, rfl⟩
  go_wp2_with fail
  refine (allNo_any (.pointer none) w8 HN0.out).mono ?_
  rintro e w' ⟨rfl, rfl⟩
  go_wp2_with fail
  refine (allNo_any (.pointer (some ⟨g0 + 1, 0, none⟩)) w8 HN.out).mono ?_
  rintro e w' ⟨rfl, rfl⟩
  go_wp2_with fail
  refine (lenNo_any (.pointer none) w8 HN0.out).mono ?_
  rintro e w' ⟨rfl, rfl⟩
  go_wp2_with fail
  refine (lenNo_any (.pointer (some ⟨g0 + 1, 0, none⟩)) w8 HN.out).mono ?_
  rintro e w' ⟨rfl, rfl⟩
  go_wp2_with fail
  refine (works_any w8).mono ?_
  rintro e w9 ⟨rfl, hb⟩
  have hE := Lib.hid (F8.out.1.below F8.out.2.1 hb)
  clear hb
  go_wp2
  go_ret
  subst hs0
  exact ⟨rfl, hE.out⟩
end Go.Proofs.Ytjkmehpokdaonaa
