/-
  prefix.Has, Covers, Overlap, Compare, walked.
-/
import Derived.Test.YtljmmpjcagchmaaDoorPfx1
namespace Go.Proofs.YtljmmpjcagchmaaDoor
set_option linter.unusedVariables false
open Go.RowKit

theorem hasP_mask {a n b : Nat} (hb : b < 4294967296) : hasP a n b = (isP a n && (b &&& maskN n == a)) := by
  cases h : isP a n
  · unfold hasP; rw [h]; rfl
  have hn : n ≤ 32 := by unfold isP at h; simp only [Bool.and_eq_true, decide_eq_true_eq] at h; exact h.1
  unfold hasP
  rw [h, and_mask hb hn]
  simp [Bool.beq_eq_decide_eq, beq_iff_eq]
abbrev S2 (g : Nat) (x y : Value) : World → Prop := fun W => Blk W g 31 #[x, y]

set_option maxRecDepth 100000 in
set_option maxHeartbeats 2000000 in
theorem has_any (p : Pf) (b : Nat) (w : World) (hp : p.ok) (hb : b < 4294967296) :
    Calls Tryd.prog 23 #[p.v, .int .u32 b] w fun e w' => e = .returned (.bool (hasP p.a p.n b)) ∧ Below w.heap.size w w' := by
  obtain ⟨a, n⟩ := p
  have HC := Lib.hid (fun W => check_any ⟨a, n⟩ W hp)
  have HM := Lib.hid (fun W => mask_any n W hp.n)
  have hlt : maskN n < 4294967296 := maskN_lt n
  have hr : Hid (hasP a n b = (isP a n && (b &&& maskN n == a))) := hasP_mask hb
  have hand := u32_and_nat b (maskN n) hb hlt
  clear hp hb
  show Calls Tryd.prog 23 #[.agg #[.int .u32 a, .int .u8 n], .int .u32 b] w fun e w' => e = .returned (.bool (hasP a n b)) ∧ Below w.heap.size w w'
  generalize hasP a n b = r at *
  simp only at HC
  generalize maskN n = M at *
  generalize b &&& M = X at *
  have hq := Lib.hid (nat_beq X a)
  generalize isP a n = z at *
  cases z
  all_goals
    first
      | rw [show errP false = 12 from rfl] at HC
      | rw [show errP true = 0 from rfl] at HC
    go_enter Tryd.func23, Tryd.ntmps23
    go_wp2
    have HS0 : Hid (S2 w.heap.size (.int .u32 a) (.int .u8 n) (w.alloc (.cells #[.int .u32 a, .int .u8 n] 31)).drew) := Blk.new _ _ _
    have HB0 : Hid (Below w.heap.size w (w.alloc (.cells #[.int .u32 a, .int .u8 n] 31)).drew) := ((Below.refl _ _).alloc (Nat.le_refl _) _).drew
    refine wp_region_s (S2 w.heap.size (.int .u32 a) (.int .u8 n)) [(0, true), (1, false), (2, true), (3, true), (4, true), (5, true), (9, true), (6, true), (10, true), (7, false), (8, true), (11, true), (12, true), (13, true)] (by kernel_rfl) (fun _ d _ _ _ h => by cases d <;> exact h) ?_
    simp only [List.map_cons, List.map_nil, nthOp_zero, nthOp_succ]
    generalize (w.alloc (.cells #[.int .u32 a, .int .u8 n] 31)).drew = w0 at *
    refine wpS_take HS0 (by kernel_rfl) (by intro W hW; have q0 := hW.cell 0; have q1 := hW.cell 1; clear hW; simp only [List.getElem?_toArray, List.getElem?_cons_zero, List.getElem?_cons_succ] at q0 q1; go_simp; try with_reducible rfl) ?_
    refine wpS_do fun K1 hK1 => ?_
    go_wp2_with fail
    refine (HC.out _).mono ?_
    rintro e w1 ⟨rfl, hb1⟩
    have HS1 : Hid (S2 w.heap.size (.int .u32 a) (.int .u8 n) w1) := HS0.out.later hb1
    have HB1 := Lib.hid (below_then HB0.out hb1)
    clear hb1 HS0 HB0
    go_wp2_with fail
    refine hK1.out _ _ HS1.out ?_
    clear hK1 K1
    refine wpS_take HS1 (by kernel_rfl) (by intro W hW; clear hW; go_simp; try with_reducible rfl) ?_
    refine wpS_take HS1 (by kernel_rfl) (by intro W hW; clear hW; go_simp; try with_reducible rfl) ?_
  · refine wpS_skip HS1 (by kernel_rfl) ?_
    refine wpS_skip HS1 (by kernel_rfl) ?_
    refine wpS_skip HS1 (by kernel_rfl) ?_
    refine wpS_skip HS1 (by kernel_rfl) ?_
    refine wpS_skip HS1 (by kernel_rfl) ?_
    refine wpS_do fun K1 hK1 => ?_
    go_wp2_with fail
    refine hK1.out _ _ HS1.out ?_
    clear hK1 K1
    refine wpS_skip HS1 (by kernel_rfl) ?_
    refine wpS_skip HS1 (by kernel_rfl) ?_
    refine wpS_take HS1 (by kernel_rfl) (by intro W hW; clear hW; go_simp; try with_reducible rfl) ?_
    refine wpS_take HS1 (by kernel_rfl) (by intro W hW; clear hW; go_simp; try with_reducible rfl) ?_
    refine wpS_nil ?_
    go_wp2
    go_ret
    exact ⟨by rw [hr.out]; rfl, HB1.out⟩
  · refine wpS_take HS1 (by kernel_rfl) (by intro W hW; have q0 := hW.cell 0; have q1 := hW.cell 1; clear hW; simp only [List.getElem?_toArray, List.getElem?_cons_zero, List.getElem?_cons_succ] at q0 q1; go_simp; try with_reducible rfl) ?_
    refine wpS_take HS1 (by kernel_rfl) (by intro W hW; have q0 := hW.cell 0; have q1 := hW.cell 1; clear hW; simp only [List.getElem?_toArray, List.getElem?_cons_zero, List.getElem?_cons_succ] at q0 q1; go_simp; try with_reducible rfl) ?_
    refine wpS_take HS1 (by kernel_rfl) (by intro W hW; have q0 := hW.cell 0; have q1 := hW.cell 1; clear hW; simp only [List.getElem?_toArray, List.getElem?_cons_zero, List.getElem?_cons_succ] at q0 q1; go_simp; try with_reducible rfl) ?_
    refine wpS_take HS1 (by kernel_rfl) (by intro W hW; have q0 := hW.cell 0; have q1 := hW.cell 1; clear hW; simp only [List.getElem?_toArray, List.getElem?_cons_zero, List.getElem?_cons_succ] at q0 q1; go_simp; try with_reducible rfl) ?_
    refine wpS_take HS1 (by kernel_rfl) (by intro W hW; have q0 := hW.cell 0; have q1 := hW.cell 1; clear hW; simp only [List.getElem?_toArray, List.getElem?_cons_zero, List.getElem?_cons_succ] at q0 q1; go_simp; try with_reducible rfl) ?_
    refine wpS_do fun K1 hK1 => ?_
    go_wp2_with fail
    refine (HM.out _).mono ?_
    rintro e w2 ⟨rfl, rfl⟩
    go_wp2_with fail
    refine hK1.out _ _ HS1.out ?_
    clear hK1 K1
    refine wpS_take HS1 (by kernel_rfl) (by intro W hW; clear hW; go_simp; try with_reducible rfl) ?_
    refine wpS_take HS1 (by kernel_rfl) (by intro W hW; clear hW; go_simp; try with_reducible rfl) ?_
    refine wpS_take HS1 (by kernel_rfl) (by intro W hW; clear hW; go_simp; try with_reducible rfl) ?_
    refine wpS_take HS1 (by kernel_rfl) (by intro W hW; clear hW; go_simp; try with_reducible rfl) ?_
    refine wpS_nil ?_
    go_wp2
    go_ret
    exact ⟨by rw [hr.out, ← hq.out]; rfl, HB1.out⟩
/-- Two structs of two that a walk has boxed, behind a call. -/
theorem kept22 {w w1 : World} {x y x' y' : Value} {t t' : TypeId} (hb : Below ((w.alloc (.cells #[x, y] t)).alloc (.cells #[x', y'] t')).heap.size ((w.alloc (.cells #[x, y] t)).alloc (.cells #[x', y'] t')) w1) :
    w1.cell? ⟨w.heap.size, 0, none⟩ = some x ∧ w1.cell? ⟨w.heap.size, 1, none⟩ = some y ∧ w1.cell? ⟨w.heap.size + 1, 0, none⟩ = some x' ∧ w1.cell? ⟨w.heap.size + 1, 1, none⟩ = some y' ∧ Below w.heap.size w w1 := by
  have hl : w.heap.size + 1 < ((w.alloc (.cells #[x, y] t)).alloc (.cells #[x', y'] t')).heap.size := by rw [World.size_alloc, World.size_alloc]; omega
  have h0 : Blk ((w.alloc (.cells #[x, y] t)).alloc (.cells #[x', y'] t')) w.heap.size t #[x, y] := (Blk.new _ _ _).alloc _
  have h1 : Blk ((w.alloc (.cells #[x, y] t)).alloc (.cells #[x', y'] t')) (w.heap.size + 1) t' #[x', y'] := by
    have := Blk.new (w.alloc (.cells #[x, y] t)) t' #[x', y']
    rwa [World.size_alloc] at this
  have k0 := h0.below hb (by omega)
  have k1 := h1.below hb hl
  exact ⟨k0.cell 0, k0.cell 1, k1.cell 0, k1.cell 1, (((Below.refl _ _).alloc (Nat.le_refl _) _).alloc (by rw [World.size_alloc]; omega) _).trans (hb.mono (by rw [World.size_alloc, World.size_alloc]; omega))⟩

set_option maxRecDepth 100000 in
set_option maxHeartbeats 2000000 in
theorem covers_any (p q : Pf) (w : World) (hp : p.ok) (hq : q.ok) :
    Calls Tryd.prog 24 #[p.v, q.v] w fun e w' => e = .returned (.bool (covP p.a p.n q.a q.n)) ∧ Below w.heap.size w w' := by
  obtain ⟨a, n⟩ := p
  obtain ⟨b, m⟩ := q
  have HC := Lib.hid (fun W => check_any ⟨b, m⟩ W hq)
  have HH := Lib.hid (fun W => has_any ⟨a, n⟩ b W hp hq.a)
  have hr : Hid (covP a n b m = (isP b m && (decide (n ≤ m) && hasP a n b))) := rfl
  clear hp hq
  show Calls Tryd.prog 24 #[.agg #[.int .u32 a, .int .u8 n], .agg #[.int .u32 b, .int .u8 m]] w fun e w' => e = .returned (.bool (covP a n b m)) ∧ Below w.heap.size w w'
  generalize covP a n b m = r at *
  simp only at HC HH
  generalize hasP a n b = h at *
  generalize isP b m = z at *
  cases z
  · rw [show errP false = 12 from rfl] at HC
    go_enter Tryd.func24, Tryd.ntmps24
    go_wp2_with (go_at_call 31; refine (HC.out _).mono ?_; rintro e w1 ⟨rfl, hb⟩; have hq := kept22 hb; obtain ⟨_, _, _, _, hB⟩ := hq; have HB := Lib.hid hB; clear hb hB)
    go_ret
    exact ⟨by rw [hr.out]; rfl, HB.out⟩
  · rw [show errP true = 0 from rfl] at HC
    by_cases hnm : n ≤ m
    · have hnm' : (n : Int) ≤ (m : Int) := by omega
      have hr1 : Hid (r = h) := by show _ = _; rw [hr.out, decide_eq_true hnm]; rfl
      go_enter Tryd.func24, Tryd.ntmps24
      go_wp2_with (first
        | (go_at_call 31; refine (HC.out _).mono ?_; rintro e w1 ⟨rfl, hb⟩; have hq := kept22 hb; obtain ⟨_, _, _, _, hB⟩ := hq; have HB := Lib.hid hB; clear hb hB)
        | (go_at_call 23; refine (HH.out _).mono ?_; rintro e w2 ⟨rfl, hb⟩; have HB2 := Lib.hid hb; clear hb))
      go_ret
      exact ⟨by rw [hr1.out]; rfl, below_then HB.out HB2.out⟩
    · have hnm' : decide ((n : Int) ≤ (m : Int)) = false := decide_eq_false (by omega)
      have hr1 : Hid (r = false) := by show _ = _; rw [hr.out, decide_eq_false hnm]; rfl
      go_enter Tryd.func24, Tryd.ntmps24
      go_wp2_with (go_at_call 31; refine (HC.out _).mono ?_; rintro e w1 ⟨rfl, hb⟩; have hq := kept22 hb; obtain ⟨_, _, _, _, hB⟩ := hq; have HB := Lib.hid hB; clear hb hB)
      go_ret
      exact ⟨by rw [hr1.out]; rfl, HB.out⟩

set_option maxRecDepth 100000 in
set_option maxHeartbeats 2000000 in
theorem overlap_any (p q : Pf) (w : World) (hp : p.ok) (hq : q.ok) :
    Calls Tryd.prog 25 #[p.v, q.v] w fun e w' => e = .returned (.bool (overP p.a p.n q.a q.n)) ∧ Below w.heap.size w w' := by
  obtain ⟨a, n⟩ := p
  obtain ⟨b, m⟩ := q
  have HC : Hid (∀ W : World, Calls Tryd.prog 24 #[.agg #[.int .u32 a, .int .u8 n], .agg #[.int .u32 b, .int .u8 m]] W fun e w' => e = .returned (.bool (covP a n b m)) ∧ Below W.heap.size W w') := (fun W => covers_any ⟨a, n⟩ ⟨b, m⟩ W hp hq)
  have HD : Hid (∀ W : World, Calls Tryd.prog 24 #[.agg #[.int .u32 b, .int .u8 m], .agg #[.int .u32 a, .int .u8 n]] W fun e w' => e = .returned (.bool (covP b m a n)) ∧ Below W.heap.size W w') := (fun W => covers_any ⟨b, m⟩ ⟨a, n⟩ W hq hp)
  have hr : Hid (overP a n b m = (covP a n b m || covP b m a n)) := rfl
  clear hp hq
  show Calls Tryd.prog 25 #[.agg #[.int .u32 a, .int .u8 n], .agg #[.int .u32 b, .int .u8 m]] w fun e w' => e = .returned (.bool (overP a n b m)) ∧ Below w.heap.size w w'
  generalize overP a n b m = r at *
  generalize covP a n b m = x at *
  generalize covP b m a n = y at *
  cases x
  · go_enter Tryd.func25, Tryd.ntmps25
    go_wp2_with fail
    refine (HC.out _).mono ?_
    rintro e w1 ⟨rfl, hb⟩
    obtain ⟨_, _, _, _, hB⟩ := kept22 hb
    have HB := Lib.hid hB
    clear hb hB
    go_wp2_with fail
    refine (HD.out _).mono ?_
    rintro e w2 ⟨rfl, hb2⟩
    have HB2 := Lib.hid hb2
    clear hb2
    go_wp2_with fail
    go_ret
    exact ⟨by rw [hr.out]; rfl, below_then HB.out HB2.out⟩
  · go_enter Tryd.func25, Tryd.ntmps25
    go_wp2_with fail
    refine (HC.out _).mono ?_
    rintro e w1 ⟨rfl, hb⟩
    obtain ⟨_, _, _, _, hB⟩ := kept22 hb
    have HB := Lib.hid hB
    clear hb hB
    go_wp2_with fail
    go_ret
    exact ⟨by rw [hr.out]; rfl, HB.out⟩

/-- What Compare answers. -/
def cmpP (a n b m : Nat) : Int := if a = b ∧ n = m then 0 else if a < b ∨ a = b ∧ n < m then -1 else 1
set_option maxRecDepth 100000 in
set_option maxHeartbeats 2000000 in
theorem compare_any (p q : Pf) (w : World) :
    Calls Tryd.prog 36 #[p.v, q.v] w fun e w' => e = .returned (.int .i64 (cmpP p.a p.n q.a q.n)) ∧ Below w.heap.size w w' := by
  obtain ⟨a, n⟩ := p
  obtain ⟨b, m⟩ := q
  have hr : Hid (cmpP a n b m = if a = b ∧ n = m then 0 else if a < b ∨ a = b ∧ n < m then -1 else 1) := rfl
  show Calls Tryd.prog 36 #[.agg #[.int .u32 a, .int .u8 n], .agg #[.int .u32 b, .int .u8 m]] w fun e w' => e = .returned (.int .i64 (cmpP a n b m)) ∧ Below w.heap.size w w'
  generalize cmpP a n b m = r at *
  go_enter Tryd.func36, Tryd.ntmps36
  go_wp2
  all_goals
    go_ret
    refine ⟨?_, ((Below.refl _ _).alloc (Nat.le_refl _) _).alloc (by rw [World.size_alloc]; omega) _⟩
    first
      | (rw [show r = 0 from by rw [hr.out, if_pos (by omega)]]; rfl)
      | (rw [show r = -1 from by rw [hr.out, if_neg (by omega), if_pos (by omega)]]; rfl)
      | (rw [show r = 1 from by rw [hr.out, if_neg (by omega), if_neg (by omega)]]; rfl)
end Go.Proofs.YtljmmpjcagchmaaDoor
