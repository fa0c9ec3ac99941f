/-
  Encode: what is too long, and what is right.
-/
import Derived.Test.YtljedcfpbdompaaDoorSta11
namespace Go.Proofs.YtljedcfpbdompaaDoor
set_option linter.unusedVariables false
open Go.RowKit Go.ChangeShapes Go.WideShapes

theorem enter_w (t : Int) (h : Kn t) (args : Array Value) (W : World) : (callFunc (wF t) args).run Tryd.prog W = .ok (.enter (wF t) args) W := by
  rcases h with rfl | rfl | rfl | rfl | rfl | rfl | rfl | rfl | rfl <;> kernel_rfl
theorem enter_r (t : Int) (h : Kn t) (args : Array Value) (W : World) : (callFunc (rF t) args).run Tryd.prog W = .ok (.enter (rF t) args) W := by
  rcases h with rfl | rfl | rfl | rfl | rfl | rfl | rfl | rfl | rfl <;> kernel_rfl
theorem oct_one {a : Int} (ha : 0 ≤ a ∧ a ≤ 255) : Oct [a] := by
  intro i x hx
  rcases i with _ | i
  · simp at hx; omega
  · simp at hx
theorem oct_two {a b : Int} (ha : 0 ≤ a ∧ a ≤ 255) (hb : 0 ≤ b ∧ b ≤ 255) : Oct [a, b] := Oct.append (oct_one ha) (oct_one hb)
theorem oct_flat {α : Type} (l : List α) (f : α → List Int) (h : ∀ x ∈ l, Oct (f x)) : Oct (l.flatMap f) := by
  induction l with
  | nil => intro i x hx; simp at hx
  | cons y l ih =>
    rw [List.flatMap_cons]
    exact Oct.append (h y (by simp)) (ih fun x hx => h x (by simp [hx]))
theorem bdB_oct {w : World} {b : BA} (h : b.rd w) {t : Int} : Oct (bdB t b) := by
  have n4 : ∀ x : Int, 0 ≤ x ∧ x ≤ 4294967295 → ∀ n, Oct (numB x n) := fun x hx n => numB_oct hx.1 hx.2 n
  have hl := h.llen
  have hf := h.few
  unfold bdB
  split
  · refine Oct.append (Oct.append (oct_two h.flags (by omega)) (n4 _ (by omega) _)) (oct_flat _ _ fun x hx => ?_)
    have k := h.lok x hx
    exact Oct.append (Oct.append (Oct.append (n4 _ k.id _) (n4 _ k.data _)) (oct_two k.typ (by omega))) (n4 _ (by have := k.cost; omega) _)
  · split
    · exact Oct.append (n4 _ h.mask _) (oct_flat _ _ fun x hx => n4 _ (h.rok x hx) _)
    · split
      · exact Oct.append (n4 _ h.mask _) (n4 _ h.metric _)
      · split
        · refine Oct.append (Oct.append (Oct.append (Oct.append (n4 _ h.mask _) ?_) (n4 _ h.metric _)) (n4 _ h.fwd _)) (n4 _ h.tag _)
          split
          · exact oct_one (by omega)
          · exact oct_one (by omega)
        · exact h.doct
set_option maxRecDepth 100000 in
set_option maxHeartbeats 8000000 in
theorem enc_long (w : World) (h : Hd) (hok : h.ok) (b : BA) (hb : b.rd w) (hk : Kn h.typ) (hm : mayB h.typ b = true) (hmm : b.metric ≤ 16777215) (hl : b.ln ≤ 65535) (hlen : 65515 < (bdB h.typ b).length) : Calls Tryd.prog 15 #[h.v, b.v] w fun e w' => e = .returned (.tuple #[zeroSt, .int .i64 11]) ∧ Below w.heap.size w w' := by
  have HN := Lib.hid (enF_new w h b)
  have HO := Lib.hid hb
  have HF := Lib.hid (fun W => formOf_yes h.typ hk W)
  have HY := Lib.hid (fun (W : World) (hb : b.rd W) => may_any h.typ hk W b hb)
  have HW := Lib.hid (fun (w0 W : World) (g : Nat) (M : Int) (ys : List Int) (hw : WR w0 W g M ys) (hb : b.rd w0) => formW_any h.typ hk w0 W g M ys hw b hb hl hmm)
  have HM := Lib.hid hm
  have hcf := fun args W => enter_w h.typ hk args W
  have HL := Lib.hid hlen
  have hd : decide ((65535 : Int) < b.ln) = false := decide_eq_false (by omega)
  have hd2 : decide ((b.ln : Int) ≤ 65535) = true := decide_eq_true (by omega)
  clear hm hb hlen
  go_enter_defers Tryd.func15, Tryd.ntmps15
  go_wp2_with fail
  refine (HF.out _).mono ?_
  rintro e w2 ⟨rfl, hb⟩
  have HN2 := Lib.hid (And.intro (HN.out.1.later hb) (below_then HN.out.2 hb))
  clear hb HN
  have HN3 := Lib.hid (And.intro (HN2.out.1.later (W' := w2.alloc (.cells #[.func (.func (wF h.typ)) #[] #[], .func (.func (rF h.typ)) #[] #[]] 81)) ((Below.refl _ _).alloc (Nat.le_refl _) _)) (HN2.out.2.alloc HN2.out.2.size (.cells #[.func (.func (wF h.typ)) #[] #[], .func (.func (rF h.typ)) #[] #[]] 81)))
  have HFM : Hid (Blk (w2.alloc (.cells #[.func (.func (wF h.typ)) #[] #[], .func (.func (rF h.typ)) #[] #[]] 81)) w2.heap.size 81 #[.func (.func (wF h.typ)) #[] #[], .func (.func (rF h.typ)) #[] #[]]) := Blk.new _ _ _
  obtain ⟨⟨a0, a1, a2, a3, a4, a5, a6, a7⟩, ⟨c0, c1, c2, c3, c4, c5, c6, c7, c8⟩, e0, f0⟩ := HN3.out.1.cells
  go_wp2_with (refine wpList_store_row rfl 81 _ _ rfl w2.heap.size #[.func (.func (wF h.typ)) #[] #[], .func (.func (rF h.typ)) #[] #[]] rfl rfl 81 _ (heap_alloc_new w2 _) info_form rfl (by simp [Value.oneCell']) ?_; rw [World.setRow_alloc_new])
  go_wp2_with fail
  clear a0 a1 a2 a3 a4 a5 a6 a7 c0 c1 c2 c3 c4 c5 c6 c7 c8 e0 f0
  generalize w2.heap.size = gf at *
  generalize w2.alloc (.cells #[.func (.func (wF h.typ)) #[] #[], .func (.func (rF h.typ)) #[] #[]] 81) = w3 at *
  have hmy := HY.out w3 (HO.out.later HN3.out.2)
  rw [HM.out] at hmy
  refine hmy.mono ?_
  clear hmy
  rintro e w4 ⟨he, hb4⟩
  rw [if_pos rfl] at he
  subst he
  have HN4 := Lib.hid (And.intro (HN3.out.1.later hb4) (And.intro (below_then HN3.out.2 hb4) (Blk.later HFM.out hb4)))
  clear hb4 HN3 HFM HN2
  go_wp2_with fail
  refine (wr_new 65515 w4 (by omega) (by omega)).mono ?_
  rintro e w5 ⟨g, rfl, hw5, hg5, hg5'⟩
  have HN5 := Lib.hid (And.intro (HN4.out.1.later hw5.b) (And.intro (below_then HN4.out.2.1 hw5.b) (Blk.later HN4.out.2.2 hw5.b)))
  have HB4 := Lib.hid HN4.out.2.1
  clear HN4
  have HN6 := Lib.hid (And.intro (HN5.out.1.later (W' := w5.alloc (.cells #[.pointer (some ⟨g, 0, none⟩)] 87)) ((Below.refl _ _).alloc (Nat.le_refl _) _)) (And.intro (HN5.out.2.1.alloc HN5.out.2.1.size (.cells #[.pointer (some ⟨g, 0, none⟩)] 87)) (And.intro (Blk.alloc HN5.out.2.2 (.cells #[.pointer (some ⟨g, 0, none⟩)] 87)) (show Blk (w5.alloc (.cells #[.pointer (some ⟨g, 0, none⟩)] 87)) w5.heap.size 87 #[.pointer (some ⟨g, 0, none⟩)] from Blk.new _ _ _))))
  have hw6 := hw5.alloc (.cells #[.pointer (some ⟨g, 0, none⟩)] 87)
  obtain ⟨⟨a0, a1, a2, a3, a4, a5, a6, a7⟩, ⟨c0, c1, c2, c3, c4, c5, c6, c7, c8⟩, e0, f0⟩ := HN6.out.1.cells
  have m0 := HN6.out.2.2.1.cell 0
  have p0 := HN6.out.2.2.2.cell 0
  go_wp2_with fail
  clear a0 a1 a2 a3 a4 a5 a6 a7 c0 c1 c2 c3 c4 c5 c6 c7 c8 e0 f0 m0 p0
  generalize w5.heap.size = gp at *
  generalize w5.alloc (.cells #[.pointer (some ⟨g, 0, none⟩)] 87) = w6 at *
  refine (HW.out w4 w6 g 65515 [] hw6 (HO.out.later HB4.out)).mono ?_
  rintro e w7 ⟨rfl, hw7, hk7⟩
  have HN7 := Lib.hid (And.intro (HN6.out.1.keep hk7) (And.intro (below_then HB4.out hw7.b) (show Blk w7 gp 87 #[.pointer (some ⟨g, 0, none⟩)] from hk7.2 _ _ _ HN6.out.2.2.2 (by decide) (by decide))))
  have p0 := HN7.out.2.2.cell 0
  clear HN6 HN5 hw5 hw6
  go_wp2_with fail
  clear p0
  refine (wr_done_no w4 w7 g 65515 _ hw7 (by have := HL.out; simp; omega)).mono ?_
  rintro e w8 ⟨rfl, hb8⟩
  have HN8 := Lib.hid (And.intro (HN7.out.1.later hb8) (below_then HN7.out.2.1 hb8))
  clear HN7 hw7 hk7
  have e0 := HN8.out.1.e.cell 0
  have f0 := HN8.out.1.e.frozen 0
  have S9 := Lib.hid (HN8.out.1.s.far (p := ⟨w.heap.size + 1 + 1 + 1, 0, none⟩) (by simp) (.int .i64 11))
  have E9 := Lib.hid (HN8.out.1.e.set_ 0 (.int .i64 11))
  have B9 := Lib.hid (HN8.out.2.setCell (p := ⟨w.heap.size + 1 + 1 + 1, 0, none⟩) (by simp; omega) (.int .i64 11))
  have e1 := E9.out.cell 0
  have f1 := E9.out.frozen 0
  go_wp2_with (clear e0 f0; generalize w8.setCell ⟨w.heap.size + 1 + 1 + 1, 0, none⟩ (.int .i64 11) = w9 at *; refine wpList_store_row rfl 33 _ _ rfl (w.heap.size + 1 + 1) #[.int .u16 0, .int .u8 0, .int .u8 0, .int .u32 0, .int .u32 0, .int .i32 0, .int .u16 0, .int .u16 0, .slice none 0 0] rfl rfl 33 _ S9.out info_state rfl (by simp [Value.oneCell']) ?_; have S10 := Lib.hid (S9.out.setRow #[.int .u16 0, .int .u8 0, .int .u8 0, .int .u32 0, .int .u32 0, .int .i32 0, .int .u16 0, .int .u16 0, .slice none 0 0]); have E10 := Lib.hid (E9.out.setRow_far (g' := w.heap.size + 1 + 1) (by omega) #[.int .u16 0, .int .u8 0, .int .u8 0, .int .u32 0, .int .u32 0, .int .i32 0, .int .u16 0, .int .u16 0, .slice none 0 0]); have B10 := Lib.hid (below_setRow B9.out (g := w.heap.size + 1 + 1) (by omega) #[.int .u16 0, .int .u8 0, .int .u8 0, .int .u32 0, .int .u32 0, .int .i32 0, .int .u16 0, .int .u16 0, .slice none 0 0]); clear e1 f1; have e1 := E10.out.cell 0; have f1 := E10.out.frozen 0; generalize w9.setRow (w.heap.size + 1 + 1) #[.int .u16 0, .int .u8 0, .int .u8 0, .int .u32 0, .int .u32 0, .int .i32 0, .int .u16 0, .int .u16 0, .slice none 0 0] = w10 at *)
  have S11 := S10.out.far (p := ⟨w.heap.size + 1 + 1 + 1, 0, none⟩) (by simp) (.int .i64 11)
  have E11 := (E10.out.set_ 0 (.int .i64 11)).cell 0
  have B11 := B10.out.setCell (p := ⟨w.heap.size + 1 + 1 + 1, 0, none⟩) (by simp; omega) (.int .i64 11)
  generalize w10.setCell ⟨w.heap.size + 1 + 1 + 1, 0, none⟩ (.int .i64 11) = w11 at *
  refine leaves_cons (f := 42) (args := #[.pointer (some ⟨w.heap.size + 1 + 1 + 1, 0, none⟩)]) (by simp) (by simp [go_sem]) ?_
  refine (caught_idle ⟨w.heap.size + 1 + 1 + 1, 0, none⟩ w11).mono ?_
  rintro e u' w'' ⟨rfl, rfl, rfl⟩
  simp [Leaves, settle, go_sem]
  exact ⟨_, results_two rfl _ _ (w.heap.size + 1 + 1) (w.heap.size + 1 + 1 + 1) 33 zC (0, 0) _ (.int .i64 11) rfl S11 Tryd.underlying33 rfl info_state rfl (load_errno _ _ _ E11), rfl, B11⟩
set_option maxRecDepth 100000 in
set_option maxHeartbeats 8000000 in
theorem enc_links (w : World) (h : Hd) (hok : h.ok) (b : BA) (hb : b.rd w) (hk : Kn h.typ) (hm : mayB h.typ b = true) (hl : 65535 < b.ln) : Calls Tryd.prog 15 #[h.v, b.v] w fun e w' => e = .returned (.tuple #[zeroSt, .int .i64 11]) ∧ Below w.heap.size w w' := by
  have HN := Lib.hid (enF_new w h b)
  have HO := Lib.hid hb
  have HF := Lib.hid (fun W => formOf_yes h.typ hk W)
  have HY := Lib.hid (fun (W : World) (hb : b.rd W) => may_any h.typ hk W b hb)
  have HM := Lib.hid hm
  have hcf := fun args W => enter_w h.typ hk args W
  have hd : decide ((65535 : Int) < b.ln) = true := decide_eq_true (by omega)
  have hd2 : decide ((b.ln : Int) ≤ 65535) = false := decide_eq_false (by omega)
  clear hm hb
  go_enter_defers Tryd.func15, Tryd.ntmps15
  go_wp2_with fail
  refine (HF.out _).mono ?_
  rintro e w2 ⟨rfl, hb⟩
  have HN2 := Lib.hid (And.intro (HN.out.1.later hb) (below_then HN.out.2 hb))
  clear hb HN
  have HN3 := Lib.hid (And.intro (HN2.out.1.later (W' := w2.alloc (.cells #[.func (.func (wF h.typ)) #[] #[], .func (.func (rF h.typ)) #[] #[]] 81)) ((Below.refl _ _).alloc (Nat.le_refl _) _)) (HN2.out.2.alloc HN2.out.2.size (.cells #[.func (.func (wF h.typ)) #[] #[], .func (.func (rF h.typ)) #[] #[]] 81)))
  have HFM : Hid (Blk (w2.alloc (.cells #[.func (.func (wF h.typ)) #[] #[], .func (.func (rF h.typ)) #[] #[]] 81)) w2.heap.size 81 #[.func (.func (wF h.typ)) #[] #[], .func (.func (rF h.typ)) #[] #[]]) := Blk.new _ _ _
  obtain ⟨⟨a0, a1, a2, a3, a4, a5, a6, a7⟩, ⟨c0, c1, c2, c3, c4, c5, c6, c7, c8⟩, e0, f0⟩ := HN3.out.1.cells
  go_wp2_with (refine wpList_store_row rfl 81 _ _ rfl w2.heap.size #[.func (.func (wF h.typ)) #[] #[], .func (.func (rF h.typ)) #[] #[]] rfl rfl 81 _ (heap_alloc_new w2 _) info_form rfl (by simp [Value.oneCell']) ?_; rw [World.setRow_alloc_new])
  go_wp2_with fail
  clear a0 a1 a2 a3 a4 a5 a6 a7 c0 c1 c2 c3 c4 c5 c6 c7 c8 e0 f0
  generalize w2.heap.size = gf at *
  generalize w2.alloc (.cells #[.func (.func (wF h.typ)) #[] #[], .func (.func (rF h.typ)) #[] #[]] 81) = w3 at *
  have hmy := HY.out w3 (HO.out.later HN3.out.2)
  rw [HM.out] at hmy
  refine hmy.mono ?_
  clear hmy
  rintro e w4 ⟨he, hb4⟩
  rw [if_pos rfl] at he
  subst he
  have HN4 := Lib.hid (And.intro (HN3.out.1.later hb4) (And.intro (below_then HN3.out.2 hb4) (Blk.later HFM.out hb4)))
  clear hb4 HN3 HFM HN2
  go_wp2_with fail
  refine (wr_new 65515 w4 (by omega) (by omega)).mono ?_
  rintro e w5 ⟨g, rfl, hw5, hg5, hg5'⟩
  have HN5 := Lib.hid (And.intro (HN4.out.1.later hw5.b) (And.intro (below_then HN4.out.2.1 hw5.b) (Blk.later HN4.out.2.2 hw5.b)))
  have HB4 := Lib.hid HN4.out.2.1
  clear HN4
  have HN6 := Lib.hid (And.intro (HN5.out.1.later (W' := w5.alloc (.cells #[.pointer (some ⟨g, 0, none⟩)] 87)) ((Below.refl _ _).alloc (Nat.le_refl _) _)) (And.intro (HN5.out.2.1.alloc HN5.out.2.1.size (.cells #[.pointer (some ⟨g, 0, none⟩)] 87)) (And.intro (Blk.alloc HN5.out.2.2 (.cells #[.pointer (some ⟨g, 0, none⟩)] 87)) (show Blk (w5.alloc (.cells #[.pointer (some ⟨g, 0, none⟩)] 87)) w5.heap.size 87 #[.pointer (some ⟨g, 0, none⟩)] from Blk.new _ _ _))))
  have hw6 := hw5.alloc (.cells #[.pointer (some ⟨g, 0, none⟩)] 87)
  obtain ⟨⟨a0, a1, a2, a3, a4, a5, a6, a7⟩, ⟨c0, c1, c2, c3, c4, c5, c6, c7, c8⟩, e0, f0⟩ := HN6.out.1.cells
  have m0 := HN6.out.2.2.1.cell 0
  have p0 := HN6.out.2.2.2.cell 0
  go_wp2_with fail
  clear a0 a1 a2 a3 a4 a5 a6 a7 c0 c1 c2 c3 c4 c5 c6 c7 c8 e0 f0 m0 p0
  generalize w5.heap.size = gp at *
  generalize w5.alloc (.cells #[.pointer (some ⟨g, 0, none⟩)] 87) = w6 at *
  refine (wr_done_yes w4 w6 g 65515 _ hw6 (by simp)).mono ?_
  rintro e w8 ⟨u, rfl, -, hb8⟩
  have HN8 := Lib.hid (And.intro (HN6.out.1.later hb8) (below_then HN6.out.2.1 hb8))
  clear HN6 hw6
  have c1 := HN8.out.1.cells.2.1.2.1
  have e0 := HN8.out.1.e.cell 0
  have f0 := HN8.out.1.e.frozen 0
  have S9 := Lib.hid (HN8.out.1.s.far (p := ⟨w.heap.size + 1 + 1 + 1, 0, none⟩) (by simp) (.int .i64 0))
  have E9 := Lib.hid (HN8.out.1.e.set_ 0 (.int .i64 0))
  have B9 := Lib.hid (HN8.out.2.setCell (p := ⟨w.heap.size + 1 + 1 + 1, 0, none⟩) (by simp; omega) (.int .i64 0))
  have e1 := E9.out.cell 0
  have f1 := E9.out.frozen 0
  go_wp2_with (clear e0 f0 c1; generalize w8.setCell ⟨w.heap.size + 1 + 1 + 1, 0, none⟩ (.int .i64 0) = w9 at *; refine wpList_store_row rfl 33 _ _ rfl (w.heap.size + 1 + 1) #[.int .u16 0, .int .u8 0, .int .u8 0, .int .u32 0, .int .u32 0, .int .i32 0, .int .u16 0, .int .u16 0, .slice none 0 0] rfl rfl 33 _ S9.out info_state rfl (by simp [Value.oneCell']) ?_; have S10 := Lib.hid (S9.out.setRow #[.int .u16 0, .int .u8 0, .int .u8 0, .int .u32 0, .int .u32 0, .int .i32 0, .int .u16 0, .int .u16 0, .slice none 0 0]); have E10 := Lib.hid (E9.out.setRow_far (g' := w.heap.size + 1 + 1) (by omega) #[.int .u16 0, .int .u8 0, .int .u8 0, .int .u32 0, .int .u32 0, .int .i32 0, .int .u16 0, .int .u16 0, .slice none 0 0]); have B10 := Lib.hid (below_setRow B9.out (g := w.heap.size + 1 + 1) (by omega) #[.int .u16 0, .int .u8 0, .int .u8 0, .int .u32 0, .int .u32 0, .int .i32 0, .int .u16 0, .int .u16 0, .slice none 0 0]); clear e1 f1; have e1 := E10.out.cell 0; have f1 := E10.out.frozen 0; generalize w9.setRow (w.heap.size + 1 + 1) #[.int .u16 0, .int .u8 0, .int .u8 0, .int .u32 0, .int .u32 0, .int .i32 0, .int .u16 0, .int .u16 0, .slice none 0 0] = w10 at *)
  have S11 := S10.out.far (p := ⟨w.heap.size + 1 + 1 + 1, 0, none⟩) (by simp) (.int .i64 11)
  have E11 := (E10.out.set_ 0 (.int .i64 11)).cell 0
  have B11 := B10.out.setCell (p := ⟨w.heap.size + 1 + 1 + 1, 0, none⟩) (by simp; omega) (.int .i64 11)
  generalize w10.setCell ⟨w.heap.size + 1 + 1 + 1, 0, none⟩ (.int .i64 11) = w11 at *
  refine leaves_cons (f := 42) (args := #[.pointer (some ⟨w.heap.size + 1 + 1 + 1, 0, none⟩)]) (by simp) (by simp [go_sem]) ?_
  refine (caught_idle ⟨w.heap.size + 1 + 1 + 1, 0, none⟩ w11).mono ?_
  rintro e u' w'' ⟨rfl, rfl, rfl⟩
  simp [Leaves, settle, go_sem]
  exact ⟨_, results_two rfl _ _ (w.heap.size + 1 + 1) (w.heap.size + 1 + 1 + 1) 33 zC (0, 0) _ (.int .i64 11) rfl S11 Tryd.underlying33 rfl info_state rfl (load_errno _ _ _ E11), rfl, B11⟩
set_option maxRecDepth 100000 in
set_option maxHeartbeats 8000000 in
theorem enc_ok (w : World) (h : Hd) (hok : h.ok) (b : BA) (hb : b.rd w) (hk : Kn h.typ) (hm : mayB h.typ b = true) (hmm : b.metric ≤ 16777215) (hl : b.ln ≤ 65535) (hlen : (bdB h.typ b).length ≤ 65515) : Calls Tryd.prog 15 #[h.v, b.v] w fun e w' => ∃ s' : SE, e = .returned (.tuple #[s'.v, .int .i64 0]) ∧ (s'.h = sealH h (20 + s'.n) (bdB h.typ b) ∧ s'.B = bdB h.typ b ∧ s'.n = (bdB h.typ b).length ∧ s'.ok w.heap.size w') ∧ Below w.heap.size w w' := by
  have HN := Lib.hid (enF_new w h b)
  have HO := Lib.hid hb
  have HF := Lib.hid (fun W => formOf_yes h.typ hk W)
  have HY := Lib.hid (fun (W : World) (hb : b.rd W) => may_any h.typ hk W b hb)
  have HW := Lib.hid (fun (w0 W : World) (g : Nat) (M : Int) (ys : List Int) (hw : WR w0 W g M ys) (hb : b.rd w0) => formW_any h.typ hk w0 W g M ys hw b hb hl hmm)
  have HM := Lib.hid hm
  have hcf := fun args W => enter_w h.typ hk args W
  have HL := Lib.hid hlen
  have hd : decide ((65535 : Int) < b.ln) = false := decide_eq_false (by omega)
  have hd2 : decide ((b.ln : Int) ≤ 65535) = true := decide_eq_true (by omega)
  clear hm hb
  go_enter_defers Tryd.func15, Tryd.ntmps15
  go_wp2_with fail
  refine (HF.out _).mono ?_
  rintro e w2 ⟨rfl, hb⟩
  have HN2 := Lib.hid (And.intro (HN.out.1.later hb) (below_then HN.out.2 hb))
  clear hb HN
  have HN3 := Lib.hid (And.intro (HN2.out.1.later (W' := w2.alloc (.cells #[.func (.func (wF h.typ)) #[] #[], .func (.func (rF h.typ)) #[] #[]] 81)) ((Below.refl _ _).alloc (Nat.le_refl _) _)) (HN2.out.2.alloc HN2.out.2.size (.cells #[.func (.func (wF h.typ)) #[] #[], .func (.func (rF h.typ)) #[] #[]] 81)))
  have HFM : Hid (Blk (w2.alloc (.cells #[.func (.func (wF h.typ)) #[] #[], .func (.func (rF h.typ)) #[] #[]] 81)) w2.heap.size 81 #[.func (.func (wF h.typ)) #[] #[], .func (.func (rF h.typ)) #[] #[]]) := Blk.new _ _ _
  obtain ⟨⟨a0, a1, a2, a3, a4, a5, a6, a7⟩, ⟨c0, c1, c2, c3, c4, c5, c6, c7, c8⟩, e0, f0⟩ := HN3.out.1.cells
  go_wp2_with (refine wpList_store_row rfl 81 _ _ rfl w2.heap.size #[.func (.func (wF h.typ)) #[] #[], .func (.func (rF h.typ)) #[] #[]] rfl rfl 81 _ (heap_alloc_new w2 _) info_form rfl (by simp [Value.oneCell']) ?_; rw [World.setRow_alloc_new])
  go_wp2_with fail
  clear a0 a1 a2 a3 a4 a5 a6 a7 c0 c1 c2 c3 c4 c5 c6 c7 c8 e0 f0
  generalize w2.heap.size = gf at *
  generalize w2.alloc (.cells #[.func (.func (wF h.typ)) #[] #[], .func (.func (rF h.typ)) #[] #[]] 81) = w3 at *
  have hmy := HY.out w3 (HO.out.later HN3.out.2)
  rw [HM.out] at hmy
  refine hmy.mono ?_
  clear hmy
  rintro e w4 ⟨he, hb4⟩
  rw [if_pos rfl] at he
  subst he
  have HN4 := Lib.hid (And.intro (HN3.out.1.later hb4) (And.intro (below_then HN3.out.2 hb4) (Blk.later HFM.out hb4)))
  clear hb4 HN3 HFM HN2
  go_wp2_with fail
  refine (wr_new 65515 w4 (by omega) (by omega)).mono ?_
  rintro e w5 ⟨g, rfl, hw5, hg5, hg5'⟩
  have HN5 := Lib.hid (And.intro (HN4.out.1.later hw5.b) (And.intro (below_then HN4.out.2.1 hw5.b) (Blk.later HN4.out.2.2 hw5.b)))
  have HB4 := Lib.hid HN4.out.2.1
  clear HN4
  have HN6 := Lib.hid (And.intro (HN5.out.1.later (W' := w5.alloc (.cells #[.pointer (some ⟨g, 0, none⟩)] 87)) ((Below.refl _ _).alloc (Nat.le_refl _) _)) (And.intro (HN5.out.2.1.alloc HN5.out.2.1.size (.cells #[.pointer (some ⟨g, 0, none⟩)] 87)) (And.intro (Blk.alloc HN5.out.2.2 (.cells #[.pointer (some ⟨g, 0, none⟩)] 87)) (show Blk (w5.alloc (.cells #[.pointer (some ⟨g, 0, none⟩)] 87)) w5.heap.size 87 #[.pointer (some ⟨g, 0, none⟩)] from Blk.new _ _ _))))
  have hw6 := hw5.alloc (.cells #[.pointer (some ⟨g, 0, none⟩)] 87)
  obtain ⟨⟨a0, a1, a2, a3, a4, a5, a6, a7⟩, ⟨c0, c1, c2, c3, c4, c5, c6, c7, c8⟩, e0, f0⟩ := HN6.out.1.cells
  have m0 := HN6.out.2.2.1.cell 0
  have p0 := HN6.out.2.2.2.cell 0
  go_wp2_with fail
  clear a0 a1 a2 a3 a4 a5 a6 a7 c0 c1 c2 c3 c4 c5 c6 c7 c8 e0 f0 m0 p0
  generalize w5.heap.size = gp at *
  generalize w5.alloc (.cells #[.pointer (some ⟨g, 0, none⟩)] 87) = w6 at *
  refine (HW.out w4 w6 g 65515 [] hw6 (HO.out.later HB4.out)).mono ?_
  rintro e w7 ⟨rfl, hw7, hk7⟩
  have HN7 := Lib.hid (And.intro (HN6.out.1.keep hk7) (And.intro (below_then HB4.out hw7.b) (show Blk w7 gp 87 #[.pointer (some ⟨g, 0, none⟩)] from hk7.2 _ _ _ HN6.out.2.2.2 (by decide) (by decide))))
  have p0 := HN7.out.2.2.cell 0
  clear HN6 HN5 hw5 hw6
  go_wp2_with fail
  clear p0
  refine (wr_done_yes w4 w7 g 65515 _ hw7 (by have := HL.out; simp; omega)).mono ?_
  rintro e w8 ⟨u, rfl, hu, hb8⟩
  have HN8 := Lib.hid (And.intro (HN7.out.1.later hb8) (below_then HN7.out.2.1 hb8))
  have HG7 := Lib.hid (HN7.out.1.e.lt)
  obtain ⟨A, c, hv, hc, hmx, hr⟩ := own_shape hu
  subst hv
  rw [List.nil_append] at *
  clear HN7 hw7 hk7
  have HU := Lib.hid hu
  have HC := Lib.hid (And.intro hc hmx)
  clear hc hmx hr hu hb8
  have e0 := HN8.out.1.e.cell 0
  have f0 := HN8.out.1.e.frozen 0
  have c1 := HN8.out.1.cells.2.1.2.1
  obtain ⟨a0, a1, a2, a3, a4, a5, a6, a7⟩ := HN8.out.1.cells.1
  have S9 := Lib.hid (HN8.out.1.s.far (p := ⟨w.heap.size + 1 + 1 + 1, 0, none⟩) (by simp) (.int .i64 0))
  have E9 := Lib.hid (HN8.out.1.e.set_ 0 (.int .i64 0))
  have B9 := Lib.hid (HN8.out.2.setCell (p := ⟨w.heap.size + 1 + 1 + 1, 0, none⟩) (by simp; omega) (.int .i64 0))
  have hu1 := own_kept HU.out ((Kept.refl (fun i => i = w.heap.size + 1 + 1 + 1) w8).setCell (p := ⟨w.heap.size + 1 + 1 + 1, 0, none⟩) (fun _ => rfl) (.int .i64 0)) (fun i hi e => by have h1 := (own_ge HU.out hi).1; have h2 := HG7.out; have h3 : i = w.heap.size + 1 + 1 + 1 := e; omega)
  have HR1 : Hid (SE.rd (w8.setCell ⟨w.heap.size + 1 + 1 + 1, 0, none⟩ (.int .i64 0)) ⟨h, A, (bdB h.typ b).length, c, bdB h.typ b⟩) := Lib.hid ⟨hok, Reads.of_own hu1, bdB_oct HO.out, HC.out, by have := HL.out; show (bdB h.typ b).length ≤ _; omega⟩
  clear hu1
  have HG8 := Lib.hid S9.out.lt
  have HG9 := Lib.hid E9.out.lt
  go_wp2_with fail
  clear e0 f0 c1 a0 a1 a2 a3 a4 a5 a6 a7 HU HC
  generalize w8.setCell ⟨w.heap.size + 1 + 1 + 1, 0, none⟩ (.int .i64 0) = w9 at *
  refine (seal_yes _ w9 HR1.out (by have := HL.out; exact this)).mono ?_
  rintro e w10 ⟨⟨h', A', n', c', B'⟩, rfl, ⟨hh, hB, hn, hok'⟩, hb10⟩
  have S10 := Lib.hid (S9.out.later hb10)
  have E10 := Lib.hid (E9.out.later hb10)
  have B10 := Lib.hid (below_then B9.out hb10)
  have hb11 := hok'.body
  have k1 : Kept (fun i => i = w.heap.size + 1 + 1) w10 (w10.setRow (w.heap.size + 1 + 1) (stC h' A' n' c')) := (Kept.of_grown (only_setRow w10 (w.heap.size + 1 + 1) (stC h' A' n' c'))).mono fun i _ e => (by injection e with e; exact e.symm)
  have ho11 := own_kept hb11 k1 (fun i hi e => by have h1 := (own_ge hb11 hi).1; have h2 := HG8.out; have h3 : i = w.heap.size + 1 + 1 := e; omega)
  have ho12 := own_kept ho11 (kept_setC (w10.setRow (w.heap.size + 1 + 1) (stC h' A' n' c')) (w.heap.size + 1 + 1 + 1) 0 (.int .i64 0)) (fun i hi e => by have h1 := (own_ge hb11 hi).1; have h2 := HG9.out; have h3 : i = w.heap.size + 1 + 1 + 1 := e; omega)
  have HO12 : Hid (SE.ok w.heap.size ((w10.setRow (w.heap.size + 1 + 1) (stC h' A' n' c')).setCell ⟨w.heap.size + 1 + 1 + 1, 0, none⟩ (.int .i64 0)) ⟨h', A', n', c', B'⟩) := Lib.hid ⟨hok'.head, own_mono ho12 B9.out.size, hok'.oct, hok'.len⟩
  have HX := Lib.hid (And.intro hh (And.intro hB hn))
  clear hh hB hn hok' hb11 k1 ho11 ho12 hb10
  have e1 := E10.out.cell 0
  have f1 := E10.out.frozen 0
  go_wp2_with (refine wpList_store_row rfl 33 _ _ rfl (w.heap.size + 1 + 1) (stC h' A' n' c') rfl rfl 33 _ S10.out info_state rfl (by simp [Value.oneCell']) ?_; have S11 := Lib.hid (S10.out.setRow (stC h' A' n' c')); have E11 := Lib.hid (E10.out.setRow_far (g' := w.heap.size + 1 + 1) (by omega) (stC h' A' n' c')); have B11 := Lib.hid (below_setRow B10.out (g := w.heap.size + 1 + 1) (by omega) (stC h' A' n' c')); clear e1 f1; have e1 := E11.out.cell 0; have f1 := E11.out.frozen 0; generalize w10.setRow (w.heap.size + 1 + 1) (stC h' A' n' c') = w11 at *)
  have S12 := S11.out.far (p := ⟨w.heap.size + 1 + 1 + 1, 0, none⟩) (by simp) (.int .i64 0)
  have E12 := (E11.out.set_ 0 (.int .i64 0)).cell 0
  have B12 := B11.out.setCell (p := ⟨w.heap.size + 1 + 1 + 1, 0, none⟩) (by simp; omega) (.int .i64 0)
  generalize w11.setCell ⟨w.heap.size + 1 + 1 + 1, 0, none⟩ (.int .i64 0) = w12 at *
  refine leaves_cons (f := 42) (args := #[.pointer (some ⟨w.heap.size + 1 + 1 + 1, 0, none⟩)]) (by simp) (by simp [go_sem]) ?_
  refine (caught_idle ⟨w.heap.size + 1 + 1 + 1, 0, none⟩ w12).mono ?_
  rintro e u' w'' ⟨rfl, rfl, rfl⟩
  simp [Leaves, settle, go_sem]
  exact ⟨_, results_two rfl _ _ (w.heap.size + 1 + 1) (w.heap.size + 1 + 1 + 1) 33 (stC h' A' n' c') (0, 0) _ (.int .i64 0) rfl S12 Tryd.underlying33 rfl info_state rfl (load_errno _ _ _ E12), ⟨⟨h', A', n', c', B'⟩, rfl, ⟨by rw [HX.out.2.2]; exact HX.out.1, HX.out.2.1, HX.out.2.2, HO12.out⟩, B12⟩⟩
end Go.Proofs.YtljedcfpbdompaaDoor
