/-
  Encode.
-/
import Derived.Test.YtljedcfpbdompaaDoorSta9a
import Derived.Test.YtljedcfpbdompaaDoorSta9b
import Derived.Test.YtljedcfpbdompaaDoorSta9c
import Derived.Test.YtljedcfpbdompaaDoorSta9d
import Derived.Test.YtljedcfpbdompaaDoorSta5
import Derived.Test.YtljedcfpbdompaaDoorSta10
namespace Go.Proofs.YtljedcfpbdompaaDoor
set_option linter.unusedVariables false
open Go.RowKit Go.ChangeShapes Go.WideShapes

theorem may_any (t : Int) (h : Kn t) (w : World) (b : BA) (hb : b.rd w) : Calls Tryd.prog 44 #[.int .u8 t, b.v] w fun e w' => MayP w (mayB t b) e w' := by
  rcases h with rfl | rfl | rfl | rfl | rfl | rfl | rfl | rfl | rfl
  · exact may_1 w b hb
  · exact may_2 w b hb
  · exact may_3 w b hb
  · exact may_4 w b hb
  · exact may_5 w b hb
  · exact may_7 w b hb
  · exact may_9 w b hb
  · exact may_10 w b hb
  · exact may_11 w b hb
/-- What stands when a form writes. -/
theorem formW_any (t : Int) (h : Kn t) (w0 w : World) (g : Nat) (M : Int) (ys : List Int) (hw : WR w0 w g M ys) (b : BA) (hb : b.rd w0) (hl : b.ln ≤ 65535) (hm : b.metric ≤ 16777215) :
    Calls Tryd.prog (wF t) #[.agg #[.pointer (some ⟨g, 0, none⟩)], b.v] w fun e w' => WrP w0 w w' g M (ys ++ bdB t b) e := by
  have hb2 := hb.later hw.b
  have e9 : ∀ k : Int, k = 9 ∨ k = 10 ∨ k = 11 → bdB k b = bdB 9 b := by rintro k (rfl | rfl | rfl) <;> rfl
  rcases h with rfl | rfl | rfl | rfl | rfl | rfl | rfl | rfl | rfl
  · exact wRouter w0 w g M ys hw b hb hl
  · exact wNetwork w0 w g M ys hw b hb
  · exact wSummary w0 w g M ys hw b hb2
  · exact wSummary w0 w g M ys hw b hb2
  · exact wOuter w0 w g M ys hw b hb2 hm
  · exact wOuter w0 w g M ys hw b hb2 hm
  · exact wOpaque w0 w g M ys hw b hb2
  · exact wOpaque w0 w g M ys hw b hb2
  · exact wOpaque w0 w g M ys hw b hb2
theorem results_two {P : Program} {fn : Func} {p q : Tmp} {ty ty2 : TypeId} (h : fn.results = #[.cell p ty, .cell q ty2]) (tmps : Array Value) (w : World) (g g2 : Nat) (t : TypeId) (cs : Array Value) (fr : Nat × Nat) (d : TypeDesc) (u : Value)
    (hp : tmps.getD p undef = .pointer (some ⟨g, 0, none⟩)) (hg : w.heap[g]? = some (.cells cs t fr))
    (hu : P.underlying ty = some d) (hd : (match d with | .struct _ | .array _ _ => true | _ => false) = true) (hi : (P.info? ty).map (·.size) = some cs.size)
    (hq : tmps.getD q undef = .pointer (some ⟨g2, 0, none⟩)) (hl : (loadVar ty2 ⟨g2, 0, none⟩).run P w = .ok u w) :
    (results fn tmps).run P w = .ok (.tuple #[.agg cs, u]) w := by
  have hp' : tmps[p]?.getD undef = .pointer (some ⟨g, 0, none⟩) := by simpa using hp
  have hq' : tmps[q]?.getD undef = .pointer (some ⟨g2, 0, none⟩) := by simpa using hq
  simp [results, h, hp', hq', asAddr, run_loadVar_row w g t ty cs fr d hg hu hd hi, hl]
theorem load_errno (w : World) (g : Nat) (k : Int) (hc : w.cell? ⟨g, 0, none⟩ = some (.int .i64 k)) : (loadVar 29 ⟨g, 0, none⟩).run Tryd.prog w = .ok (.int .i64 k) w := by
  simp [go_sem, hc]
theorem four_new (w : World) (a b c d : Obj) : let W := (((w.alloc a).alloc b).alloc c).alloc d
    W.heap[w.heap.size]? = some a ∧ W.heap[w.heap.size + 1]? = some b ∧ W.heap[w.heap.size + 2]? = some c ∧ W.heap[w.heap.size + 3]? = some d ∧ Below w.heap.size w W := by
  intro W
  have e1 : (w.alloc a).heap.size = w.heap.size + 1 := World.size_alloc _ _
  have e2 : ((w.alloc a).alloc b).heap.size = w.heap.size + 2 := by rw [World.size_alloc, e1]
  have e3 : (((w.alloc a).alloc b).alloc c).heap.size = w.heap.size + 3 := by rw [World.size_alloc, e2]
  have keep : ∀ (v : World) (o : Obj) (i : Nat) (x : Obj), v.heap[i]? = some x → (v.alloc o).heap[i]? = some x := fun v o i x h => by
    have hi : i < v.heap.size := by
      rcases Nat.lt_or_ge i v.heap.size with h2 | h2
      · exact h2
      · rw [Array.getElem?_eq_none h2] at h; cases h
    exact (Below.heap_alloc v o i hi).trans h
  refine ⟨keep _ _ _ _ (keep _ _ _ _ (keep _ _ _ _ (heap_alloc_new w a))), ?_, ?_, ?_, ?_⟩
  · exact keep _ _ _ _ (keep _ _ _ _ (by have := heap_alloc_new (w.alloc a) b; rwa [e1] at this))
  · exact keep _ _ _ _ (by have := heap_alloc_new ((w.alloc a).alloc b) c; rwa [e2] at this)
  · have := heap_alloc_new (((w.alloc a).alloc b).alloc c) d; rwa [e3] at this
  · exact ((((Below.refl _ _).alloc (Nat.le_refl _) _).alloc (by rw [World.size_alloc]; omega) _).alloc (by rw [e2]; omega) _).alloc (by rw [e3]; omega) _
set_option maxRecDepth 100000 in
set_option maxHeartbeats 8000000 in
theorem enc_type (w : World) (h : Hd) (hok : h.ok) (b : BA) (hk : ¬ Kn h.typ) : Calls Tryd.prog 15 #[h.v, b.v] w fun e w' => e = .returned (.tuple #[zeroSt, .int .i64 21]) ∧ Below w.heap.size w w' := by
  have HN := Lib.hid (four_new w (.cells #[.int .u16 h.age, .int .u8 h.opts, .int .u8 h.typ, .int .u32 h.id, .int .u32 h.adv, .int .i32 h.seq, .int .u16 h.sum, .int .u16 h.len] 28) (.cells b.C 67) (.cells zC 33) (.cells #[.int .i64 0] 29))
  have HF := Lib.hid (fun W => formOf_no h.typ hok.typ.1 hok.typ.2 hk W)
  go_enter_defers Tryd.func15, Tryd.ntmps15
  go_wp2_with fail
  refine (HF.out _).mono ?_
  rintro e w2 ⟨rfl, hb⟩
  go_wp2_with fail
  have HN2 := HN.out
  obtain ⟨n0, n1, n2, n3, nb⟩ := HN2
  rw [show w.heap.size + 2 = w.heap.size + 1 + 1 from rfl] at n2
  rw [show w.heap.size + 3 = w.heap.size + 1 + 1 + 1 from rfl] at n3
  have s2 : Blk w2 (w.heap.size + 1 + 1) 33 zC := Blk.later n2 hb
  have e2 : Blk w2 (w.heap.size + 1 + 1 + 1) 29 #[.int .i64 0] := Blk.later n3 hb
  refine leaves_cons (f := 42) (args := #[.pointer (some ⟨w.heap.size + 1 + 1 + 1, 0, none⟩)]) (by simp) (by simp [go_sem]) ?_
  refine (caught_panicking ⟨w.heap.size + 1 + 1 + 1, 0, none⟩ 0 21 [] w2 (e2.cell 0) (e2.frozen 0)).mono ?_
  rintro e u' w'' ⟨rfl, rfl, rfl⟩
  have s3 := s2.far (p := ⟨w.heap.size + 1 + 1 + 1, 0, none⟩) (by simp) (.int .i64 21)
  have e3 := (e2.set_ 0 (.int .i64 21)).cell 0
  have b3 := (below_then nb hb).setCell (p := ⟨w.heap.size + 1 + 1 + 1, 0, none⟩) (by simp; omega) (.int .i64 21)
  generalize w2.setCell ⟨w.heap.size + 1 + 1 + 1, 0, none⟩ (.int .i64 21) = w3 at *
  simp [Leaves, settle, go_sem]
  exact ⟨_, results_two rfl _ _ (w.heap.size + 1 + 1) (w.heap.size + 1 + 1 + 1) 33 zC (0, 0) _ (.int .i64 21) rfl s3 Tryd.underlying33 rfl info_state rfl (load_errno _ _ _ e3), rfl, b3⟩
/-- The blocks that Encode made first. -/
structure EnF (W : World) (gh gb gs ge : Nat) (h : Hd) (b : BA) (k : Int) : Prop where
  h : HdBlk W gh h
  b : BBlk W gb b
  s : Blk W gs 33 zC
  e : Blk W ge 29 #[.int .i64 k]
theorem EnF.keep {W W' : World} {gh gb gs ge : Nat} {h : Hd} {b : BA} {k : Int} (f : EnF W gh gb gs ge h b k) (kt : KeepT W W') : EnF W' gh gb gs ge h b k :=
  ⟨kt.2 _ _ _ f.h (by decide) (by decide), kt.2 _ _ _ f.b (by decide) (by decide), kt.2 _ _ _ f.s (by decide) (by decide), kt.2 _ _ _ f.e (by decide) (by decide)⟩
theorem EnF.later {W W' : World} {gh gb gs ge : Nat} {h : Hd} {b : BA} {k : Int} (f : EnF W gh gb gs ge h b k) (hb : Below W.heap.size W W') : EnF W' gh gb gs ge h b k := f.keep (KeepT.of_below hb)
def EnC (W : World) (gh gb ge : Nat) (h : Hd) (b : BA) (k : Int) : Prop := HdBl W gh h ∧ (W.cell? ⟨gb, 0, none⟩ = some (.int .u8 b.flags) ∧ W.cell? ⟨gb, 1, none⟩ = some (.slice b.LA b.ln b.lc) ∧ W.cell? ⟨gb, 2, none⟩ = some (.int .u32 b.mask) ∧ W.cell? ⟨gb, 3, none⟩ = some (.slice b.RA b.rn b.rc) ∧
    W.cell? ⟨gb, 4, none⟩ = some (.int .u32 b.metric) ∧ W.cell? ⟨gb, 5, none⟩ = some (.bool b.t2) ∧ W.cell? ⟨gb, 6, none⟩ = some (.int .u32 b.fwd) ∧ W.cell? ⟨gb, 7, none⟩ = some (.int .u32 b.tag) ∧ W.cell? ⟨gb, 8, none⟩ = some (.slice b.DA b.dn b.dc)) ∧ W.cell? ⟨ge, 0, none⟩ = some (.int .i64 k) ∧ W.frozen? ⟨ge, 0, none⟩ = false
theorem EnF.cells {W : World} {gh gb gs ge : Nat} {h : Hd} {b : BA} {k : Int} (f : EnF W gh gb gs ge h b k) : EnC W gh gb ge h b k := by
  have h2 := f.b
  unfold BBlk at h2
  exact ⟨f.h.cells, ⟨h2.cell 0, h2.cell 1, h2.cell 2, h2.cell 3, h2.cell 4, h2.cell 5, h2.cell 6, h2.cell 7, h2.cell 8⟩, f.e.cell 0, f.e.frozen 0⟩
theorem enF_new (w : World) (h : Hd) (b : BA) : EnF ((((w.alloc (.cells #[.int .u16 h.age, .int .u8 h.opts, .int .u8 h.typ, .int .u32 h.id, .int .u32 h.adv, .int .i32 h.seq, .int .u16 h.sum, .int .u16 h.len] 28)).alloc (.cells b.C 67)).alloc (.cells zC 33)).alloc (.cells #[.int .i64 0] 29)) w.heap.size (w.heap.size + 1) (w.heap.size + 1 + 1) (w.heap.size + 1 + 1 + 1) h b 0 ∧
    Below w.heap.size w ((((w.alloc (.cells #[.int .u16 h.age, .int .u8 h.opts, .int .u8 h.typ, .int .u32 h.id, .int .u32 h.adv, .int .i32 h.seq, .int .u16 h.sum, .int .u16 h.len] 28)).alloc (.cells b.C 67)).alloc (.cells zC 33)).alloc (.cells #[.int .i64 0] 29)) := by
  obtain ⟨n0, n1, n2, n3, nb⟩ := four_new w (.cells #[.int .u16 h.age, .int .u8 h.opts, .int .u8 h.typ, .int .u32 h.id, .int .u32 h.adv, .int .i32 h.seq, .int .u16 h.sum, .int .u16 h.len] 28) (.cells b.C 67) (.cells zC 33) (.cells #[.int .i64 0] 29)
  exact ⟨⟨n0, n1, n2, n3⟩, nb⟩
theorem frm_new (w : World) (a b : Value) : Blk (w.alloc (.cells #[a, b] 81)) w.heap.size 81 #[a, b] := Blk.new _ _ _
set_option maxRecDepth 100000 in
set_option maxHeartbeats 8000000 in
theorem enc_body (w : World) (h : Hd) (hok : h.ok) (b : BA) (hb : b.rd w) (hk : Kn h.typ) (hm : mayB h.typ b = false) : Calls Tryd.prog 15 #[h.v, b.v] w fun e w' => e = .returned (.tuple #[zeroSt, .int .i64 28]) ∧ Below w.heap.size w w' := by
  have HN := Lib.hid (enF_new w h b)
  have HO := Lib.hid hb
  have HF := Lib.hid (fun W => formOf_yes h.typ hk W)
  have HY := Lib.hid (fun (W : World) (hb : b.rd W) => may_any h.typ hk W b hb)
  have HM := Lib.hid hm
  clear hm hb
  go_enter_defers Tryd.func15, Tryd.ntmps15
  go_wp2_with fail
  refine (HF.out _).mono ?_
  rintro e w2 ⟨rfl, hb⟩
  have HN2 := Lib.hid (And.intro (HN.out.1.later hb) (below_then HN.out.2 hb))
  clear hb HN
  have HN3 := Lib.hid (And.intro (HN2.out.1.later (W' := w2.alloc (.cells #[.func (.func (wF h.typ)) #[] #[], .func (.func (rF h.typ)) #[] #[]] 81)) ((Below.refl _ _).alloc (Nat.le_refl _) _)) (HN2.out.2.alloc HN2.out.2.size (.cells #[.func (.func (wF h.typ)) #[] #[], .func (.func (rF h.typ)) #[] #[]] 81)))
  obtain ⟨⟨a0, a1, a2, a3, a4, a5, a6, a7⟩, ⟨c0, c1, c2, c3, c4, c5, c6, c7, c8⟩, e0, f0⟩ := HN3.out.1.cells
  go_wp2_with (refine wpList_store_row rfl 81 _ _ rfl w2.heap.size #[.func (.func (wF h.typ)) #[] #[], .func (.func (rF h.typ)) #[] #[]] rfl rfl 81 _ (heap_alloc_new w2 _) info_form rfl (by simp [Value.oneCell']) ?_; rw [World.setRow_alloc_new])
  go_wp2_with fail
  clear a0 a1 a2 a3 a4 a5 a6 a7 c0 c1 c2 c3 c4 c5 c6 c7 c8 e0 f0
  generalize w2.alloc (.cells #[.func (.func (wF h.typ)) #[] #[], .func (.func (rF h.typ)) #[] #[]] 81) = w3 at *
  have hmy := HY.out w3 (HO.out.later HN3.out.2)
  rw [HM.out] at hmy
  refine hmy.mono ?_
  clear hmy
  rintro e w4 ⟨he, hb4⟩
  rw [if_neg (by decide)] at he
  subst he
  have HN4 := Lib.hid (And.intro (HN3.out.1.later hb4) (below_then HN3.out.2 hb4))
  clear hb4
  go_wp2_with fail
  refine leaves_cons (f := 42) (args := #[.pointer (some ⟨w.heap.size + 1 + 1 + 1, 0, none⟩)]) (by simp) (by simp [go_sem]) ?_
  refine (caught_panicking ⟨w.heap.size + 1 + 1 + 1, 0, none⟩ 0 28 [] w4 (HN4.out.1.e.cell 0) (HN4.out.1.e.frozen 0)).mono ?_
  rintro e u' w'' ⟨rfl, rfl, rfl⟩
  have s3 := HN4.out.1.s.far (p := ⟨w.heap.size + 1 + 1 + 1, 0, none⟩) (by simp) (.int .i64 28)
  have e3 := (HN4.out.1.e.set_ 0 (.int .i64 28)).cell 0
  have b3 := HN4.out.2.setCell (p := ⟨w.heap.size + 1 + 1 + 1, 0, none⟩) (by simp; omega) (.int .i64 28)
  generalize w4.setCell ⟨w.heap.size + 1 + 1 + 1, 0, none⟩ (.int .i64 28) = w5 at *
  simp [Leaves, settle, go_sem]
  exact ⟨_, results_two rfl _ _ (w.heap.size + 1 + 1) (w.heap.size + 1 + 1 + 1) 33 zC (0, 0) _ (.int .i64 28) rfl s3 Tryd.underlying33 rfl info_state rfl (load_errno _ _ _ e3), rfl, b3⟩
end Go.Proofs.YtljedcfpbdompaaDoor
