/-
  The reference's Judge, walked.
-/
import Derived.Test.YtjkmehpokdaonaaSpr1
namespace Go.Proofs.Ytjkmehpokdaonaa
set_option linter.unusedVariables false
open Go.RowKit

theorem ref15Old_any (h : Hd) (w : World) (h0 : 0 ≤ h.age) (h1 : h.age ≤ 65535) :
    Calls Try.prog 12 #[h.v] w fun e w' => e = .returned (.bool (oldB h)) ∧ Below w.heap.size w w' := by
  have hb := u16_andNot15 h.age h0 h1
  have hy : Hid (oldB h = decide (3600 ≤ h.age % 32768)) := by
    show _ = _
    unfold oldB yearsOf
    by_cases hc : 3600 ≤ h.age % 32768
    · rw [decide_eq_true hc, beq_iff_eq]; omega
    · rw [decide_eq_false hc, beq_eq_false_iff_ne]; omega
  go_enter Try.func12, Try.ntmps12
  go_wp2
  go_ret
  exact ⟨by rw [hy.out]; rfl, (Below.refl _ _).alloc (Nat.le_refl _) _⟩

set_option maxRecDepth 100000 in
set_option maxHeartbeats 4000000 in
theorem refJudge_new (c : Cm) (w : World) (hc : c.ok) (hh : c.has = false) :
    Calls Try.prog 9 #[c.v] w fun e w' => e = .returned (.int .u8 (judgeOf c)) ∧ Below w.heap.size w w' := by
  obtain ⟨got, has, own, since, sent, busy, asked, mine⟩ := c
  have hh2 : has = false := hh
  clear hh
  have HO1 : Hid (∀ W : World, Calls Try.prog 12 #[got.v] W fun e w' => e = .returned (.bool (oldB got)) ∧ Below W.heap.size W w') := fun W => ref15Old_any _ _ hc.got.age.1 hc.got.age.2
  have HO2 : Hid (∀ W : World, Calls Try.prog 12 #[own.v] W fun e w' => e = .returned (.bool (oldB own)) ∧ Below W.heap.size W w') := fun W => ref15Old_any _ _ hc.own.age.1 hc.own.age.2
  have HN : Hid (∀ W : World, Calls Try.prog 11 #[got.v, own.v] W fun e w' => e = .returned (.int .i64 (newerOf got own)) ∧ Below W.heap.size W w') := fun W => refNewer_any got own W hc.got hc.own
  have HJ : Hid (judgeOf ⟨got, has, own, since, sent, busy, asked, mine⟩ =
      if oldB got && !has && !busy then 1
      else if !has || decide (0 < newerOf got own) then (if has && !mine && decide (since < 1) then 0 else 2)
      else if asked then 3
      else if newerOf got own == 0 then 4
      else if (oldB own && own.seq == 2147483647) || decide (sent < 1) then 0
      else 5) := rfl
  have hs := hc.since
  have ht := hc.sent
  clear hc
  generalize newerOf got own = N at *
  generalize oldB got = o1 at *
  generalize oldB own = o2 at *
  have CS : Hid (∀ W : World, Below (w.alloc (.cells #[.int .u16 got.age, .int .u8 got.opts, .int .u8 got.typ, .int .u32 got.id, .int .u32 got.adv, .int .i32 got.seq, .int .u16 got.sum, .int .u16 got.len, .bool has,
      .int .u16 own.age, .int .u8 own.opts, .int .u8 own.typ, .int .u32 own.id, .int .u32 own.adv, .int .i32 own.seq, .int .u16 own.sum, .int .u16 own.len, .int .u32 since, .int .u32 sent, .bool busy, .bool asked, .bool mine] 27)).heap.size (w.alloc (.cells #[.int .u16 got.age, .int .u8 got.opts, .int .u8 got.typ, .int .u32 got.id, .int .u32 got.adv, .int .i32 got.seq, .int .u16 got.sum, .int .u16 got.len, .bool has,
      .int .u16 own.age, .int .u8 own.opts, .int .u8 own.typ, .int .u32 own.id, .int .u32 own.adv, .int .i32 own.seq, .int .u16 own.sum, .int .u16 own.len, .int .u32 since, .int .u32 sent, .bool busy, .bool asked, .bool mine] 27)) W →
      ∀ i, W.cell? ⟨w.heap.size, i, none⟩ = (#[.int .u16 got.age, .int .u8 got.opts, .int .u8 got.typ, .int .u32 got.id, .int .u32 got.adv, .int .i32 got.seq, .int .u16 got.sum, .int .u16 got.len, .bool has,
      .int .u16 own.age, .int .u8 own.opts, .int .u8 own.typ, .int .u32 own.id, .int .u32 own.adv, .int .i32 own.seq, .int .u16 own.sum, .int .u16 own.len, .int .u32 since, .int .u32 sent, .bool busy, .bool asked, .bool mine] : Array Value)[i]?) :=
    fun W hb i => (((Blk.new w 27 _).later hb).cell i)
  have HB := Lib.hid (Below.refl (w.alloc (.cells #[.int .u16 got.age, .int .u8 got.opts, .int .u8 got.typ, .int .u32 got.id, .int .u32 got.adv, .int .i32 got.seq, .int .u16 got.sum, .int .u16 got.len, .bool has,
      .int .u16 own.age, .int .u8 own.opts, .int .u8 own.typ, .int .u32 own.id, .int .u32 own.adv, .int .i32 own.seq, .int .u16 own.sum, .int .u16 own.len, .int .u32 since, .int .u32 sent, .bool busy, .bool asked, .bool mine] 27)).heap.size (w.alloc (.cells #[.int .u16 got.age, .int .u8 got.opts, .int .u8 got.typ, .int .u32 got.id, .int .u32 got.adv, .int .i32 got.seq, .int .u16 got.sum, .int .u16 got.len, .bool has,
      .int .u16 own.age, .int .u8 own.opts, .int .u8 own.typ, .int .u32 own.id, .int .u32 own.adv, .int .i32 own.seq, .int .u16 own.sum, .int .u16 own.len, .int .u32 since, .int .u32 sent, .bool busy, .bool asked, .bool mine] 27)))
  subst hh2
  cases o1 <;> cases busy
  all_goals
    go_enter Try.func9, Try.ntmps9
    go_wp2_with (first
      | (go_at_call 11; refine (HN.out _).mono ?_; rintro e w1 ⟨rfl, hb⟩; have HB := Lib.hid (below_then HB.out hb); clear hb; have hcell := CS.out _ HB.out)
      | (go_at_call 12; refine (HO1.out _).mono ?_; rintro e w1 ⟨rfl, hb⟩; have HB := Lib.hid (below_then HB.out hb); clear hb; have hcell := CS.out _ HB.out)
      | (go_at_call 12; refine (HO2.out _).mono ?_; rintro e w1 ⟨rfl, hb⟩; have HB := Lib.hid (below_then HB.out hb); clear hb; have hcell := CS.out _ HB.out))
    go_ret
    refine ⟨?_, below_lit (Below.refl _ w) _ HB.out⟩
    rw [HJ.out]
    simp []

set_option maxRecDepth 100000 in
set_option maxHeartbeats 4000000 in
theorem refJudge_gt (c : Cm) (w : World) (hc : c.ok) (hh : c.has = true) (h0' : 0 < newerOf c.got c.own) :
    Calls Try.prog 9 #[c.v] w fun e w' => e = .returned (.int .u8 (judgeOf c)) ∧ Below w.heap.size w w' := by
  obtain ⟨got, has, own, since, sent, busy, asked, mine⟩ := c
  have hh2 : has = true := hh
  have h0 : 0 < newerOf got own := h0'
  clear hh h0'
  have HO1 : Hid (∀ W : World, Calls Try.prog 12 #[got.v] W fun e w' => e = .returned (.bool (oldB got)) ∧ Below W.heap.size W w') := fun W => ref15Old_any _ _ hc.got.age.1 hc.got.age.2
  have HO2 : Hid (∀ W : World, Calls Try.prog 12 #[own.v] W fun e w' => e = .returned (.bool (oldB own)) ∧ Below W.heap.size W w') := fun W => ref15Old_any _ _ hc.own.age.1 hc.own.age.2
  have HN : Hid (∀ W : World, Calls Try.prog 11 #[got.v, own.v] W fun e w' => e = .returned (.int .i64 (newerOf got own)) ∧ Below W.heap.size W w') := fun W => refNewer_any got own W hc.got hc.own
  have HJ : Hid (judgeOf ⟨got, has, own, since, sent, busy, asked, mine⟩ =
      if oldB got && !has && !busy then 1
      else if !has || decide (0 < newerOf got own) then (if has && !mine && decide (since < 1) then 0 else 2)
      else if asked then 3
      else if newerOf got own == 0 then 4
      else if (oldB own && own.seq == 2147483647) || decide (sent < 1) then 0
      else 5) := rfl
  have hs := hc.since
  have ht := hc.sent
  clear hc
  generalize newerOf got own = N at *
  generalize oldB got = o1 at *
  generalize oldB own = o2 at *
  have CS : Hid (∀ W : World, Below (w.alloc (.cells #[.int .u16 got.age, .int .u8 got.opts, .int .u8 got.typ, .int .u32 got.id, .int .u32 got.adv, .int .i32 got.seq, .int .u16 got.sum, .int .u16 got.len, .bool has,
      .int .u16 own.age, .int .u8 own.opts, .int .u8 own.typ, .int .u32 own.id, .int .u32 own.adv, .int .i32 own.seq, .int .u16 own.sum, .int .u16 own.len, .int .u32 since, .int .u32 sent, .bool busy, .bool asked, .bool mine] 27)).heap.size (w.alloc (.cells #[.int .u16 got.age, .int .u8 got.opts, .int .u8 got.typ, .int .u32 got.id, .int .u32 got.adv, .int .i32 got.seq, .int .u16 got.sum, .int .u16 got.len, .bool has,
      .int .u16 own.age, .int .u8 own.opts, .int .u8 own.typ, .int .u32 own.id, .int .u32 own.adv, .int .i32 own.seq, .int .u16 own.sum, .int .u16 own.len, .int .u32 since, .int .u32 sent, .bool busy, .bool asked, .bool mine] 27)) W →
      ∀ i, W.cell? ⟨w.heap.size, i, none⟩ = (#[.int .u16 got.age, .int .u8 got.opts, .int .u8 got.typ, .int .u32 got.id, .int .u32 got.adv, .int .i32 got.seq, .int .u16 got.sum, .int .u16 got.len, .bool has,
      .int .u16 own.age, .int .u8 own.opts, .int .u8 own.typ, .int .u32 own.id, .int .u32 own.adv, .int .i32 own.seq, .int .u16 own.sum, .int .u16 own.len, .int .u32 since, .int .u32 sent, .bool busy, .bool asked, .bool mine] : Array Value)[i]?) :=
    fun W hb i => (((Blk.new w 27 _).later hb).cell i)
  have HB := Lib.hid (Below.refl (w.alloc (.cells #[.int .u16 got.age, .int .u8 got.opts, .int .u8 got.typ, .int .u32 got.id, .int .u32 got.adv, .int .i32 got.seq, .int .u16 got.sum, .int .u16 got.len, .bool has,
      .int .u16 own.age, .int .u8 own.opts, .int .u8 own.typ, .int .u32 own.id, .int .u32 own.adv, .int .i32 own.seq, .int .u16 own.sum, .int .u16 own.len, .int .u32 since, .int .u32 sent, .bool busy, .bool asked, .bool mine] 27)).heap.size (w.alloc (.cells #[.int .u16 got.age, .int .u8 got.opts, .int .u8 got.typ, .int .u32 got.id, .int .u32 got.adv, .int .i32 got.seq, .int .u16 got.sum, .int .u16 got.len, .bool has,
      .int .u16 own.age, .int .u8 own.opts, .int .u8 own.typ, .int .u32 own.id, .int .u32 own.adv, .int .i32 own.seq, .int .u16 own.sum, .int .u16 own.len, .int .u32 since, .int .u32 sent, .bool busy, .bool asked, .bool mine] 27)))
  subst hh2
  have d0 : Hid (decide (0 < N) = true) := by show _ = _; simpa using h0
  by_cases hs1 : since < 1
  all_goals
    cases o1 <;> cases mine
    all_goals
      go_enter Try.func9, Try.ntmps9
      go_wp2_with (first
        | (go_at_call 11; refine (HN.out _).mono ?_; rintro e w1 ⟨rfl, hb⟩; have HB := Lib.hid (below_then HB.out hb); clear hb; have hcell := CS.out _ HB.out)
        | (go_at_call 12; refine (HO1.out _).mono ?_; rintro e w1 ⟨rfl, hb⟩; have HB := Lib.hid (below_then HB.out hb); clear hb; have hcell := CS.out _ HB.out)
        | (go_at_call 12; refine (HO2.out _).mono ?_; rintro e w1 ⟨rfl, hb⟩; have HB := Lib.hid (below_then HB.out hb); clear hb; have hcell := CS.out _ HB.out))
      go_ret
      refine ⟨?_, below_lit (Below.refl _ w) _ HB.out⟩
      rw [HJ.out]
      simp [hs1, d0.out]

set_option maxRecDepth 100000 in
set_option maxHeartbeats 4000000 in
theorem refJudge_le (c : Cm) (w : World) (hc : c.ok) (hh : c.has = true) (h0' : ¬ 0 < newerOf c.got c.own) :
    Calls Try.prog 9 #[c.v] w fun e w' => e = .returned (.int .u8 (judgeOf c)) ∧ Below w.heap.size w w' := by
  obtain ⟨got, has, own, since, sent, busy, asked, mine⟩ := c
  have hh2 : has = true := hh
  have h0 : ¬ 0 < newerOf got own := h0'
  clear hh h0'
  have HO1 : Hid (∀ W : World, Calls Try.prog 12 #[got.v] W fun e w' => e = .returned (.bool (oldB got)) ∧ Below W.heap.size W w') := fun W => ref15Old_any _ _ hc.got.age.1 hc.got.age.2
  have HO2 : Hid (∀ W : World, Calls Try.prog 12 #[own.v] W fun e w' => e = .returned (.bool (oldB own)) ∧ Below W.heap.size W w') := fun W => ref15Old_any _ _ hc.own.age.1 hc.own.age.2
  have HN : Hid (∀ W : World, Calls Try.prog 11 #[got.v, own.v] W fun e w' => e = .returned (.int .i64 (newerOf got own)) ∧ Below W.heap.size W w') := fun W => refNewer_any got own W hc.got hc.own
  have HJ : Hid (judgeOf ⟨got, has, own, since, sent, busy, asked, mine⟩ =
      if oldB got && !has && !busy then 1
      else if !has || decide (0 < newerOf got own) then (if has && !mine && decide (since < 1) then 0 else 2)
      else if asked then 3
      else if newerOf got own == 0 then 4
      else if (oldB own && own.seq == 2147483647) || decide (sent < 1) then 0
      else 5) := rfl
  have hs := hc.since
  have ht := hc.sent
  clear hc
  generalize newerOf got own = N at *
  generalize oldB got = o1 at *
  generalize oldB own = o2 at *
  have CS : Hid (∀ W : World, Below (w.alloc (.cells #[.int .u16 got.age, .int .u8 got.opts, .int .u8 got.typ, .int .u32 got.id, .int .u32 got.adv, .int .i32 got.seq, .int .u16 got.sum, .int .u16 got.len, .bool has,
      .int .u16 own.age, .int .u8 own.opts, .int .u8 own.typ, .int .u32 own.id, .int .u32 own.adv, .int .i32 own.seq, .int .u16 own.sum, .int .u16 own.len, .int .u32 since, .int .u32 sent, .bool busy, .bool asked, .bool mine] 27)).heap.size (w.alloc (.cells #[.int .u16 got.age, .int .u8 got.opts, .int .u8 got.typ, .int .u32 got.id, .int .u32 got.adv, .int .i32 got.seq, .int .u16 got.sum, .int .u16 got.len, .bool has,
      .int .u16 own.age, .int .u8 own.opts, .int .u8 own.typ, .int .u32 own.id, .int .u32 own.adv, .int .i32 own.seq, .int .u16 own.sum, .int .u16 own.len, .int .u32 since, .int .u32 sent, .bool busy, .bool asked, .bool mine] 27)) W →
      ∀ i, W.cell? ⟨w.heap.size, i, none⟩ = (#[.int .u16 got.age, .int .u8 got.opts, .int .u8 got.typ, .int .u32 got.id, .int .u32 got.adv, .int .i32 got.seq, .int .u16 got.sum, .int .u16 got.len, .bool has,
      .int .u16 own.age, .int .u8 own.opts, .int .u8 own.typ, .int .u32 own.id, .int .u32 own.adv, .int .i32 own.seq, .int .u16 own.sum, .int .u16 own.len, .int .u32 since, .int .u32 sent, .bool busy, .bool asked, .bool mine] : Array Value)[i]?) :=
    fun W hb i => (((Blk.new w 27 _).later hb).cell i)
  have HB := Lib.hid (Below.refl (w.alloc (.cells #[.int .u16 got.age, .int .u8 got.opts, .int .u8 got.typ, .int .u32 got.id, .int .u32 got.adv, .int .i32 got.seq, .int .u16 got.sum, .int .u16 got.len, .bool has,
      .int .u16 own.age, .int .u8 own.opts, .int .u8 own.typ, .int .u32 own.id, .int .u32 own.adv, .int .i32 own.seq, .int .u16 own.sum, .int .u16 own.len, .int .u32 since, .int .u32 sent, .bool busy, .bool asked, .bool mine] 27)).heap.size (w.alloc (.cells #[.int .u16 got.age, .int .u8 got.opts, .int .u8 got.typ, .int .u32 got.id, .int .u32 got.adv, .int .i32 got.seq, .int .u16 got.sum, .int .u16 got.len, .bool has,
      .int .u16 own.age, .int .u8 own.opts, .int .u8 own.typ, .int .u32 own.id, .int .u32 own.adv, .int .i32 own.seq, .int .u16 own.sum, .int .u16 own.len, .int .u32 since, .int .u32 sent, .bool busy, .bool asked, .bool mine] 27)))
  subst hh2
  have d0 : Hid (decide (0 < N) = false) := by show _ = _; simpa using h0
  cases asked
  · by_cases hz : N = 0
    · have d1 : (N == 0) = true := by simp [hz]
      clear hz
      cases o1
      all_goals
        go_enter Try.func9, Try.ntmps9
        go_wp2_with (first
          | (go_at_call 11; refine (HN.out _).mono ?_; rintro e w1 ⟨rfl, hb⟩; have HB := Lib.hid (below_then HB.out hb); clear hb; have hcell := CS.out _ HB.out)
          | (go_at_call 12; refine (HO1.out _).mono ?_; rintro e w1 ⟨rfl, hb⟩; have HB := Lib.hid (below_then HB.out hb); clear hb; have hcell := CS.out _ HB.out)
          | (go_at_call 12; refine (HO2.out _).mono ?_; rintro e w1 ⟨rfl, hb⟩; have HB := Lib.hid (below_then HB.out hb); clear hb; have hcell := CS.out _ HB.out))
        go_ret
        refine ⟨?_, below_lit (Below.refl _ w) _ HB.out⟩
        rw [HJ.out]
        simp [d0.out, d1]
    · have d1 : (N == 0) = false := by simp [hz]
      clear hz
      cases hsq : (own.seq == 2147483647) <;> cases o2 <;> cases o1 <;> by_cases hs1 : sent < 1
      all_goals
        go_enter Try.func9, Try.ntmps9
        go_wp2_with (first
          | (go_at_call 11; refine (HN.out _).mono ?_; rintro e w1 ⟨rfl, hb⟩; have HB := Lib.hid (below_then HB.out hb); clear hb; have hcell := CS.out _ HB.out)
          | (go_at_call 12; refine (HO1.out _).mono ?_; rintro e w1 ⟨rfl, hb⟩; have HB := Lib.hid (below_then HB.out hb); clear hb; have hcell := CS.out _ HB.out)
          | (go_at_call 12; refine (HO2.out _).mono ?_; rintro e w1 ⟨rfl, hb⟩; have HB := Lib.hid (below_then HB.out hb); clear hb; have hcell := CS.out _ HB.out))
        go_ret
        refine ⟨?_, below_lit (Below.refl _ w) _ HB.out⟩
        rw [HJ.out]
        simp [d0.out, d1, hsq, hs1]
  · cases o1
    all_goals
      go_enter Try.func9, Try.ntmps9
      go_wp2_with (first
        | (go_at_call 11; refine (HN.out _).mono ?_; rintro e w1 ⟨rfl, hb⟩; have HB := Lib.hid (below_then HB.out hb); clear hb; have hcell := CS.out _ HB.out)
        | (go_at_call 12; refine (HO1.out _).mono ?_; rintro e w1 ⟨rfl, hb⟩; have HB := Lib.hid (below_then HB.out hb); clear hb; have hcell := CS.out _ HB.out)
        | (go_at_call 12; refine (HO2.out _).mono ?_; rintro e w1 ⟨rfl, hb⟩; have HB := Lib.hid (below_then HB.out hb); clear hb; have hcell := CS.out _ HB.out))
      go_ret
      refine ⟨?_, below_lit (Below.refl _ w) _ HB.out⟩
      rw [HJ.out]
      simp [d0.out]

theorem refJudge_any (c : Cm) (w : World) (hc : c.ok) :
    Calls Try.prog 9 #[c.v] w fun e w' => e = .returned (.int .u8 (judgeOf c)) ∧ Below w.heap.size w w' := by
  cases hh : c.has
  · exact refJudge_new c w hc hh
  · by_cases h0 : 0 < newerOf c.got c.own
    · exact refJudge_gt c w hc hh h0
    · exact refJudge_le c w hc hh h0
end Go.Proofs.Ytjkmehpokdaonaa
