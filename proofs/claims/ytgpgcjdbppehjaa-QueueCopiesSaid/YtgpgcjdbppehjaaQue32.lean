/-
  The reference's queue: All.
-/
import Derived.Test.YtgpgcjdbppehjaaQue29
namespace Go.Proofs.Ytgpgcjdbppehjaa
set_option linter.unusedVariables false
open Go.RowKit

theorem take_perm {D D' : List Ent} {z : Ent} (hd : Dist D) (hd' : Dist D') (hz : z ∈ D) (hm : ∀ e, e ∈ D' ↔ e ∈ D ∧ e.what ≠ z.what) : D.Perm (z :: D') := by
  refine (List.perm_ext_iff_of_nodup (dist_nodup hd) (List.nodup_cons.2 ⟨fun h => ((hm z).1 h).2 rfl, dist_nodup hd'⟩)).2 fun e => ?_
  rw [List.mem_cons, hm]
  constructor
  · intro he
    by_cases h : e.what = z.what
    · refine .inl ?_
      obtain ⟨i, hi⟩ := List.getElem?_of_mem he
      obtain ⟨j, hj⟩ := List.getElem?_of_mem hz
      obtain rfl := hd i j e z hi hj h
      rw [hi] at hj
      injection hj
    · exact .inr ⟨he, h⟩
  · rintro (rfl | h)
    · exact hz
    · exact h.1
def Asc (L : List Ent) : Prop := ∀ (i j : Nat) (a b : Ent), i < j → L[i]? = some a → L[j]? = some b → lessE b a = false
theorem Asc.snoc {L : List Ent} (h : Asc L) {z : Ent} (hz : ∀ a ∈ L, lessE z a = false) : Asc (L ++ [z]) := by
  intro i j a b hij ha hb
  rcases Nat.lt_or_ge j L.length with hj | hj
  · rw [List.getElem?_append_left (by omega)] at ha hb
    exact h i j a b hij ha hb
  · rw [List.getElem?_append_right hj] at hb
    have hb1 := List.mem_of_getElem? hb
    have hj1 := (List.getElem?_eq_some_iff.1 hb).1
    simp at hb1 hj1
    subst hb1
    rw [List.getElem?_append_left (by omega)] at ha
    exact hz a (List.mem_of_getElem? ha)
/-- The row so far, and what is left. -/
structure AllM (D L R : List Ent) : Prop where
  perm : (L ++ R).Perm D
  asc : Asc L
  cross : ∀ a ∈ L, ∀ d ∈ R, lessE d a = false
theorem AllM.start (D : List Ent) : AllM D [] D := ⟨List.Perm.refl _, fun i j a b _ h => by simp at h, by simp⟩
theorem AllM.step {D L R R' : List Ent} {z : Ent} (h : AllM D L R) (hd : Dist R) (hd' : Dist R') (hz : z ∈ R) (hl : ∀ y ∈ R, lessE y z = false) (hm : ∀ e, e ∈ R' ↔ e ∈ R ∧ e.what ≠ z.what) : AllM D (L ++ [z]) R' := by
  refine ⟨?_, h.asc.snoc fun a ha => h.cross a ha z hz, fun a ha d hdm => ?_⟩
  · rw [List.append_assoc]
    exact ((List.Perm.append_left L (take_perm hd hd' hz hm)).symm).trans h.perm
  · rcases List.mem_append.1 ha with ha | ha
    · exact h.cross a ha d ((hm d).1 hdm).1
    · simp at ha
      subst ha
      exact hl d ((hm d).1 hdm).1
theorem AllM.done {D L : List Ent} (h : AllM D L []) : Sorted_ D L := ⟨by have := h.perm; rwa [List.append_nil] at this, h.asc⟩
theorem AllM.len {D L R : List Ent} (h : AllM D L R) : L.length + R.length = D.length := by have := h.perm.length_eq; rwa [List.length_append] at this
structure AllI (w : World) (D : List Ent) (gx : Nat) (most : Int) (v : Value) (wr : World) : Prop where
  ex : ∃ (FX : Nat → Prop) (R L : List Ent), Hid (RQ wr FX gx most R ∧ Dist R ∧ ∀ i, FX i → w.heap.size ≤ i) ∧ Hid (OwnW wr 73 3 v L.length (L.flatMap Ent.cells)) ∧ Hid (∀ i, v.ownBlock = some i → w.heap.size ≤ i ∧ ¬ FX i) ∧ Hid (AllM D L R)
  below : Hid (Below w.heap.size w wr)
/-- How many are left. -/
def leftOf (wr : World) (gx : Nat) : Nat := match wr.cell? ⟨gx, 0, none⟩ with
  | some (.slice _ n _) => n
  | _ => 0
theorem leftOf_eq {wr : World} {FX : Nat → Prop} {gx : Nat} {most : Int} {R : List Ent} (q : RQ wr FX gx most R) : leftOf wr gx = R.length := by
  obtain ⟨kv, hB, hO, _⟩ := q.ex
  obtain ⟨A, c, rfl, -⟩ := hO.shape
  unfold leftOf
  rw [hB.cell]
  rfl
/-- A sorted row of the call's own. -/
structure AllR (w w' : World) (l : List Ent) (v : Value) : Prop where
  ex : ∃ L', Sorted_ l L' ∧ OwnW w' 73 3 v l.length (L'.flatMap Ent.cells)
  base : ∀ i, v.ownBlock = some i → w.heap.size ≤ i
  bel : RowKit.Below w.heap.size w w'
def SA (W : World) (g gx : Nat) (A : Option Addr) (N c : Nat) : Prop := W.cell? ⟨gx, 0, none⟩ = some (.slice none 0 0) ∧ W.cell? ⟨g, 0, none⟩ = some (.slice A N c)
set_option maxRecDepth 100000 in
set_option maxHeartbeats 8000000 in
theorem rall_any (w : World) (F : Nat → Prop) (g : Nat) (most : Int) (D : List Ent) (q : RQ w F g most D) (hd : Dist D) :
    Calls Try.prog 19 #[.pointer (some ⟨g, 0, none⟩)] w fun e w' => ∃ v, e = .returned v ∧ AllR w w' D v := by
  have hfew := q.few
  obtain ⟨kv, hB, hO, hF⟩ := q.ex
  obtain ⟨A, c, rfl, -, -, hR, -⟩ := hO.shape
  have hb1 : Below w.heap.size w (w.alloc (.cells #[.slice none 0 0, .int .i64 most] 48)).drew := ((Below.refl _ _).alloc (Nat.le_refl _) _).drew
  have hX : Blk (w.alloc (.cells #[.slice none 0 0, .int .i64 most] 48)).drew w.heap.size 48 #[.slice none 0 0, .int .i64 most] := (Blk.new _ _ _).drewN 1
  obtain ⟨N, hN⟩ : ∃ N, D.length = N := ⟨_, rfl⟩
  rw [hN] at hB hR hfew
  have HN := Lib.hid hN
  have HD := Lib.hid hd
  have HR := Lib.hid (hR.later hb1)
  have HX := Lib.hid hX
  have HB1 := Lib.hid hb1
  have HS : Hid ((fun W : World => SA W g w.heap.size A N c) (w.alloc (.cells #[.slice none 0 0, .int .i64 most] 48)).drew) := Lib.hid ⟨hX.cell 0, (hB.later hb1).cell 0⟩
  have d1 : w.cell? ⟨g, 1, none⟩ = some (.int .i64 most) := hB.cell 1
  clear q hB hO hF hR hb1 hX hN hd
  go_enter Try.func19, Try.ntmps19
  go_wp2_with fail
  generalize hgx : w.heap.size = gx at *
  have HGX := Lib.hid hgx
  clear hgx
  refine wp_region_g (fun W : World => SA W g gx A N c) [.take 0, .take 1, .take 2, .take 3, .take 5, .take 6, .take 7, .take 4, .take 8, .one 9, .take 10, .take 11, .one 12] (by kernel_rfl) (fun _ d _ _ _ h => by cases d <;> exact h) ?_
  simp only [List.map_cons, List.map_nil, RStep.node, nthOp_zero, nthOp_succ]
  generalize (w.alloc (.cells #[.slice none 0 0, .int .i64 most] 48)).drew = w1 at *
  clear d1
  refine wpG_take HS (by rfl) (by intro W hW; obtain ⟨c0, c1⟩ := hW; go_simp; try with_reducible rfl) ?_
  refine wpG_take HS (by rfl) (by intro W hW; obtain ⟨c0, c1⟩ := hW; go_simp; try with_reducible rfl) ?_
  refine wpG_take HS (by rfl) (by intro W hW; obtain ⟨c0, c1⟩ := hW; go_simp; try with_reducible rfl) ?_
  refine wpG_take HS (by rfl) (by intro W hW; obtain ⟨c0, c1⟩ := hW; go_simp; try with_reducible rfl) ?_
  refine wpG_take HS (by rfl) (by intro W hW; obtain ⟨c0, c1⟩ := hW; go_simp; try with_reducible rfl) ?_
  refine wpG_take HS (by rfl) (by intro W hW; obtain ⟨c0, c1⟩ := hW; go_simp; try with_reducible rfl) ?_
  refine wpG_take HS (by rfl) (by intro W hW; obtain ⟨c0, c1⟩ := hW; go_simp; try with_reducible rfl) ?_
  refine wpG_take HS (by rfl) (by intro W hW; obtain ⟨c0, c1⟩ := hW; go_simp; try with_reducible rfl) ?_
  refine wpG_take HS (by rfl) (by intro W hW; obtain ⟨c0, c1⟩ := hW; go_simp; try with_reducible rfl) ?_
  go_simp
  have HNil : Hid (OwnW w1 73 3 (.slice none 0 0) 0 []) := Lib.hid (OwnW.nil _ _ _)
  refine wpG_do fun K hK => ?_
  go_wp2_with (go_must (refine wpList_appW el_refent rfl (.tmp 17) (.tmp 21) rfl HNil.out rfl HR.out rfl (ents_one D) (by simp only [maxLen]; omega) (by omega) ?_); intro v5 w5 ho5 hk5 hn5; rw [Nat.zero_add] at ho5; have H5 := Lib.hid (And.intro ho5 (And.intro hk5 hn5)); clear ho5 hk5 hn5)
  obtain ⟨A5, c5, hv, hnc5, hcm5, -⟩ := H5.out.1.shape
  subst hv
  have hX5 : Blk w5 gx 48 #[.slice none 0 0, .int .i64 most] := HX.out.kept H5.out.2.1 (fun e => by simp [Value.ownBlock] at e)
  have hg5 : w5.cell? ⟨g, 0, none⟩ = some (.slice A N c) := (H5.out.2.1.cell (cell_lt HS.out.2) (fun e => by simp [Value.ownBlock] at e)).trans HS.out.2
  have HS5 : Hid ((fun W : World => SA W g gx A N c) w5) := Lib.hid ⟨hX5.cell 0, hg5⟩
  have HX5 := Lib.hid hX5
  clear hX5 hg5 HNil
  refine hK.out _ _ HS5.out ?_
  clear hK K
  refine wpG_take HS5 (by rfl) (by intro W hW; obtain ⟨c0, c1⟩ := hW; go_simp; try with_reducible rfl) ?_
  refine wpG_take HS5 (by rfl) (by intro W hW; obtain ⟨c0, c1⟩ := hW; go_simp; try with_reducible rfl) ?_
  go_simp
  refine wpG_last fun K hK => ?_
  have f0 := HX5.out.frozen 0
  have e0 := HX5.out.cell 0
  simp at e0
  go_wp2_with fail
  refine hK.out _ _ ?_
  clear hK K
  have k6 := kept_setC w5 gx 0 (.slice A5 N c5)
  have hown6 : OwnW (w5.setCell ⟨gx, 0, none⟩ (.slice A5 N c5)) 73 3 (.slice A5 N c5) N (D.flatMap Ent.cells) := by
    have := H5.out.1.kept k6 (fun i hi e => H5.out.1.ne_blk HX5.out (by decide) (e ▸ hi))
    simpa using this
  have hb6 : Below w.heap.size w (w5.setCell ⟨gx, 0, none⟩ (.slice A5 N c5)) := by
    have hb := HB1.out
    rw [← HGX.out] at hb
    have h1 : Below w.heap.size w w5 := hb.trans (H5.out.2.1.below (fun i hi => by simp [Value.ownBlock] at hi) hb.size)
    exact h1.trans (k6.below (fun i hi => by have := HGX.out; omega) h1.size)
  have HQ6 : Hid (RQ (w5.setCell ⟨gx, 0, none⟩ (.slice A5 N c5)) (fun i => i = gx ∨ (Value.slice A5 N c5).ownBlock = some i) gx most D ∧ Dist D ∧ ∀ i, (i = gx ∨ (Value.slice A5 N c5).ownBlock = some i) → w.heap.size ≤ i) := by
    refine Lib.hid ⟨⟨⟨.slice A5 D.length c5, by rw [HN.out]; exact HX5.out.set_ 0 _, by rw [HN.out]; exact hown6, fun i hi => .inr (by rw [HN.out] at hi; exact hi)⟩, .inl rfl, by rw [HN.out]; exact hfew, fun i hi => ?_⟩, HD.out, fun i hi => ?_⟩
    · rcases hi with rfl | hi
      · exact (HX5.out.set_ 0 (.slice A5 N c5)).lt
      · exact hown6.lt hi
    · rcases hi with rfl | hi
      · have := HGX.out; omega
      · rcases H5.out.2.2 with h | ⟨j, h, hj⟩
        · rw [h] at hi; simp [Value.ownBlock] at hi
        · rw [h] at hi
          injection hi with hi
          have := HB1.out.size
          have := HGX.out
          omega
  have HB6 := Lib.hid hb6
  generalize w5.setCell ⟨gx, 0, none⟩ (.slice A5 N c5) = w6 at *
  clear k6 hown6 hb6 HX5 H5 HS5 HX HS HR HB1 HD f0 e0
  go_wp2_with fail
  go_loopw [4] (AllI w D gx most) (fun _ W => leftOf W gx)
  case atStart => exact ⟨⟨_, D, [], HQ6, Lib.hid (OwnW.nil _ _ _), Lib.hid fun i h => (by simp [Value.ownBlock] at h), Lib.hid (AllM.start D)⟩, HB6⟩
  case round =>
    clear HQ6 HB6
    obtain ⟨⟨FX, R, L, HQ, HV, HW, HM⟩, HB⟩ := hrel
    have hq := HQ.out.1
    obtain ⟨kv, hB, hO, hF⟩ := hq.ex
    obtain ⟨A7, c7, rfl, -⟩ := hO.shape
    have c0 : wr.cell? ⟨gx, 0, none⟩ = some (.slice A7 R.length c7) := hB.cell 0
    have HLe := Lib.hid (leftOf_eq hq)
    obtain ⟨Av, cv, hv, -⟩ := HV.out.shape
    subst hv
    clear hB hO hF hq
    by_cases hR : R = []
    · subst hR
      have hLl := HM.out.len
      have HD2 := Lib.hid HM.out.done
      have hLl2 : L.length = N := by have := HN.out; simp at hLl; omega
      go_wp2_with fail
      go_ret
      exact ⟨_, rfl, ⟨L, HD2.out, by rw [HN.out, ← hLl2]; exact HV.out⟩, fun i hi => (HW.out i hi).1, HB.out⟩
    · have hRp : 0 < R.length := List.length_pos_iff.2 hR
      clear hR
      obtain ⟨M, hMl⟩ : ∃ M, R.length = M := ⟨_, rfl⟩
      rw [hMl] at hRp c0
      have HMl := Lib.hid hMl
      clear hMl
      have hRI : (0 : Int) < M := by omega
      go_wp2_with fail
      refine (rnext_any wr FX gx most R HQ.out.1).mono ?_
      rintro e w7 ⟨z, b, rfl, hm, hb⟩
      have hbt : b = true := by
        cases b
        · have h1 := (hm.no rfl).1
          have h2 := HMl.out
          rw [h1] at h2; simp at h2; omega
        · rfl
      subst hbt
      have HZ := Lib.hid (hm.yes rfl)
      have hq7 := HQ.out.1.later hb
      have hb8 : Below w7.heap.size w7 (w7.alloc (.cells #[.int .i64 z.at_, .int .i64 z.rank, .int .u64 z.what] 73)) := (Below.refl _ _).alloc (Nat.le_refl _) _
      have HQ8 := Lib.hid (And.intro (hq7.later hb8) (And.intro HQ.out.2.1 HQ.out.2.2))
      have HV8 := Lib.hid ((HV.out.later hb).later hb8)
      have HB8 := Lib.hid (below_then (below_then HB.out hb) hb8)
      have hx8 : Blk (w7.alloc (.cells #[.int .i64 z.at_, .int .i64 z.rank, .int .u64 z.what] 73)) w7.heap.size 73 #[.int .i64 z.at_, .int .i64 z.rank, .int .u64 z.what] := Blk.new _ _ _
      have HX8 := Lib.hid hx8
      have HNF : Hid (¬ FX w7.heap.size) := Lib.hid fun h => by have := hq7.lim _ h; omega
      have HW8 : Hid (∀ i, (Value.slice Av L.length cv).ownBlock = some i → w.heap.size ≤ i ∧ ¬ FX i ∧ i < w7.heap.size) := Lib.hid fun i hi => ⟨(HW.out i hi).1, (HW.out i hi).2, Nat.lt_of_lt_of_le (HV.out.lt hi) hb.size⟩
      have e2 := hx8.cell 2
      simp at e2
      clear hm hb hq7 hb8 hx8 HQ HV HB HW c0
      go_wp2_with fail
      generalize hgy : w7.heap.size = gy at *
      generalize w7.alloc (.cells #[.int .i64 z.at_, .int .i64 z.rank, .int .u64 z.what] 73) = w8 at *
      clear hgy e2
      refine (rdrop_any w8 FX gx most R HQ8.out.1 HQ8.out.2.1 z.what).mono ?_
      rintro e w9 ⟨F9, R9, b9, rfl, h9, d9, l9⟩
      have hb9 : b9 = true := d9.iff.2 ⟨z, HZ.out.1, rfl⟩
      subst hb9
      have HM9 : Hid (AllM D (L ++ [z]) R9) := Lib.hid (HM.out.step HQ8.out.2.1 h9.d HZ.out.1 HZ.out.2 d9.mem)
      have HL9 := Lib.hid (l9 rfl)
      have hx9 := HX8.out.kept h9.k HNF.out
      have HV9 := Lib.hid (HV8.out.kept h9.k (fun i hi h => (HW8.out i hi).2.1 h))
      have HW9 : Hid (∀ i, (Value.slice Av L.length cv).ownBlock = some i → w.heap.size ≤ i ∧ ¬ F9 i) := Lib.hid fun i hi => ⟨(HW8.out i hi).1, fun h => (h9.g.2 i h).elim (HW8.out i hi).2.1 (fun h => by have := (HW8.out i hi).2.2; have := HX8.out.lt; omega)⟩
      have HB9 := Lib.hid (below_kept HB8.out h9.k HQ8.out.2.2)
      have HQ9 : Hid (RQ w9 F9 gx most R9 ∧ Dist R9 ∧ ∀ i, F9 i → w.heap.size ≤ i) := Lib.hid ⟨h9.q, h9.d, grew_ge HQ8.out.2.2 HB8.out.size h9.g⟩
      have e0 := hx9.cell 0
      have e1 := hx9.cell 1
      have e2 := hx9.cell 2
      simp at e0 e1 e2
      clear h9 d9 l9 hx9 HV8 HW8 HB8 HQ8 HM HX8 HNF
      have hb10 : Hid (Below w9.heap.size w9 (w9.alloc (.cells #[.int .i64 z.at_, .int .i64 z.rank, .int .u64 z.what] 73)) ∧ Blk (w9.alloc (.cells #[.int .i64 z.at_, .int .i64 z.rank, .int .u64 z.what] 73)) w9.heap.size 73 #[.int .i64 z.at_, .int .i64 z.rank, .int .u64 z.what]) := Lib.hid ⟨(Below.refl _ _).alloc (Nat.le_refl _) _, Blk.new _ _ _⟩
      have HO10 := Lib.hid (HV9.out.later hb10.out.1)
      have HR10 : Hid (Reads (w9.alloc (.cells #[.int .i64 z.at_, .int .i64 z.rank, .int .u64 z.what] 73)) (w9.alloc (.cells #[.int .i64 z.at_, .int .i64 z.rank, .int .u64 z.what] 73)).heap.size 3 (some ⟨w9.heap.size, 0, none⟩) 1 (Ent.cells z)) := Lib.hid ⟨rfl, fun _ => ⟨_, rfl, hb10.out.2.lt, fun j u hu => by rw [add_none, Nat.zero_add, hb10.out.2.cell]; simpa [Ent.cells] using hu⟩⟩
      have HLl : Hid (L.length ≤ 1048576) := Lib.hid (by have h1 := HM9.out.len; rw [List.length_append] at h1; have h2 := HN.out; omega)
      go_wp2_with (at_builtin; go_must (refine wpList_appW el_refent rfl (.tmp 40) (.tmp 42) rfl HO10.out rfl HR10.out rfl (ent_one z) (by have := HLl.out; simp only [maxLen]; omega) (by have := HLl.out; omega) ?_); intro v5 w5 ho5 hk5 hn5; have H5 := Lib.hid (And.intro ho5 (And.intro hk5 hn5)); clear ho5 hk5 hn5)
      go_roundw
      case rel =>
        obtain ⟨ho5, hk5, hn5⟩ := H5.out
        refine ⟨⟨F9, R9, L ++ [z], Lib.hid ⟨(HQ9.out.1.later hb10.out.1).kept hk5 (fun i hi h => (HW9.out i h).2 hi), HQ9.out.2⟩, Lib.hid ?_, Lib.hid fun i hi => ?_, HM9⟩, Lib.hid ?_⟩
        · rw [List.length_append, List.flatMap_append]
          simpa using ho5
        · rcases hn5 with h | ⟨j, h, hj⟩
          · rw [h] at hi; exact HW9.out i hi
          · rw [h] at hi
            injection hi with hi
            subst hi
            have h1 := HB9.out.size
            have h2 := hb10.out.1.size
            exact ⟨by omega, fun h => by have := HQ9.out.1.lim j h; omega⟩
        · exact (below_then HB9.out hb10.out.1).trans (hk5.below (fun i hi => (HW9.out i hi).1) (Nat.le_trans HB9.out.size hb10.out.1.size))
      case measure =>
        rw [HLe.out]
        have hq5 := (HQ9.out.1.later hb10.out.1).kept H5.out.2.1 (fun i hi h => (HW9.out i h).2 hi)
        rw [leftOf_eq hq5]
        have := HL9.out
        omega
end Go.Proofs.Ytgpgcjdbppehjaa
