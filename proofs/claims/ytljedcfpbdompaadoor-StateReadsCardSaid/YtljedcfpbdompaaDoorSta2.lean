/-
  States in memory; CopyState, EqState; Bytes.
-/
import Derived.Test.YtljedcfpbdompaaDoorSta1
import Derived.Test.YtljedcfpbdompaaDoorSumB3
namespace Go.Proofs.YtljedcfpbdompaaDoor
set_option linter.unusedVariables false
open Go.RowKit Go.ChangeShapes Go.WideShapes

@[reducible] def stV (h : Hd) (A : Option Addr) (n c : Nat) : Value := .agg #[.int .u16 h.age, .int .u8 h.opts, .int .u8 h.typ, .int .u32 h.id, .int .u32 h.adv, .int .i32 h.seq, .int .u16 h.sum, .int .u16 h.len, .slice A n c]
@[reducible] def stC (h : Hd) (A : Option Addr) (n c : Nat) : Array Value := #[.int .u16 h.age, .int .u8 h.opts, .int .u8 h.typ, .int .u32 h.id, .int .u32 h.adv, .int .i32 h.seq, .int .u16 h.sum, .int .u16 h.len, .slice A n c]
@[reducible] def zC : Array Value := #[.int .u16 0, .int .u8 0, .int .u8 0, .int .u32 0, .int .u32 0, .int .i32 0, .int .u16 0, .int .u16 0, .slice none 0 0]
@[reducible] def zeroSt : Value := .agg #[.int .u16 0, .int .u8 0, .int .u8 0, .int .u32 0, .int .u32 0, .int .i32 0, .int .u16 0, .int .u16 0, .slice none 0 0]
theorem stC_facts {W : World} {g : Nat} {h : Hd} {A : Option Addr} {n c : Nat} (b : Blk W g 33 (stC h A n c)) :
    W.cell? ⟨g, 0, none⟩ = some (.int .u16 h.age) ∧ W.cell? ⟨g, 1, none⟩ = some (.int .u8 h.opts) ∧ W.cell? ⟨g, 2, none⟩ = some (.int .u8 h.typ) ∧ W.cell? ⟨g, 3, none⟩ = some (.int .u32 h.id) ∧ W.cell? ⟨g, 4, none⟩ = some (.int .u32 h.adv) ∧
    W.cell? ⟨g, 5, none⟩ = some (.int .i32 h.seq) ∧ W.cell? ⟨g, 6, none⟩ = some (.int .u16 h.sum) ∧ W.cell? ⟨g, 7, none⟩ = some (.int .u16 h.len) ∧ W.cell? ⟨g, 8, none⟩ = some (.slice A n c) :=
  ⟨b.cell 0, b.cell 1, b.cell 2, b.cell 3, b.cell 4, b.cell 5, b.cell 6, b.cell 7, b.cell 8⟩
theorem info_state : (Tryd.prog.info? 33).map (·.size) = some 9 := by kernel_rfl
theorem info_head : (Tryd.prog.info? 28).map (·.size) = some 8 := by kernel_rfl
theorem results_cell_row_tmp {P : Program} {fn : Func} {p u : Tmp} {ty : TypeId} (h : fn.results = #[.cell p ty, .tmp u]) (tmps : Array Value) (w : World) (g : Nat) (t : TypeId) (cs : Array Value) (fr : Nat × Nat) (d : TypeDesc)
    (hp : tmps.getD p undef = .pointer (some ⟨g, 0, none⟩)) (hg : w.heap[g]? = some (.cells cs t fr))
    (hu : P.underlying ty = some d) (hd : (match d with | .struct _ | .array _ _ => true | _ => false) = true) (hi : (P.info? ty).map (·.size) = some cs.size) :
    (results fn tmps).run P w = .ok (.tuple #[.agg cs, tmps.getD u undef]) w := by
  have hp' : tmps[p]?.getD undef = .pointer (some ⟨g, 0, none⟩) := by simpa using hp
  simp [results, h, hp', asAddr, run_loadVar_row w g t ty cs fr d hg hu hd hi]
theorem results_cell_row_tmp2 {P : Program} {fn : Func} {p u u' : Tmp} {ty : TypeId} (h : fn.results = #[.cell p ty, .tmp u, .tmp u']) (tmps : Array Value) (w : World) (g : Nat) (t : TypeId) (cs : Array Value) (fr : Nat × Nat) (d : TypeDesc)
    (hp : tmps.getD p undef = .pointer (some ⟨g, 0, none⟩)) (hg : w.heap[g]? = some (.cells cs t fr))
    (hu : P.underlying ty = some d) (hd : (match d with | .struct _ | .array _ _ => true | _ => false) = true) (hi : (P.info? ty).map (·.size) = some cs.size) :
    (results fn tmps).run P w = .ok (.tuple #[.agg cs, tmps.getD u undef, tmps.getD u' undef]) w := by
  have hp' : tmps[p]?.getD undef = .pointer (some ⟨g, 0, none⟩) := by simpa using hp
  simp [results, h, hp', asAddr, run_loadVar_row w g t ty cs fr d hg hu hd hi]
/-- One state: its head, where its body stands, and the body's bytes. -/
structure SE where
  h : Hd
  A : Option Addr
  n : Nat
  c : Nat
  B : List Int
@[reducible] def SE.v (s : SE) : Value := stV s.h s.A s.n s.c
/-- A state that can be read. -/
structure SE.rd (w : World) (s : SE) : Prop where
  head : s.h.ok
  body : Reads w w.heap.size 1 s.A s.n (u8s s.B)
  oct : Oct s.B
  cap : s.n ≤ s.c ∧ s.c ≤ 9223372036854775807
  len : s.n ≤ 1099511627776
theorem SE.rd.bl {w : World} {s : SE} (h : s.rd w) : s.B.length = s.n := h.body.u8len
theorem SE.rd.kept {R : Nat → Prop} {w w' : World} {s : SE} (h : s.rd w) (k : Kept R w w') (hn : ∀ ad, s.A = some ad → ¬ R ad.block) : s.rd w' := ⟨h.head, h.body.keptUp k (fun _ ad e => hn ad e), h.oct, h.cap, h.len⟩
theorem SE.rd.later {w w' : World} {s : SE} (h : s.rd w) (hb : Below w.heap.size w w') : s.rd w' := h.kept (Kept.of_new hb (fun _ => False)) (fun _ _ h => h)
@[reducible] def SE.b (s : SE) : Value := .slice s.A s.n s.c
/-- A state whose body is a row of its own, new since base. -/
structure SE.ok (base : Nat) (w : World) (s : SE) : Prop where
  head : s.h.ok
  body : w.ownsRow base 5 1 s.b s.n (u8s s.B)
  oct : Oct s.B
  len : s.n ≤ 1099511627776
theorem SE.ok.later {base : Nat} {w w' : World} {s : SE} (h : s.ok base w) (hb : Below w.heap.size w w') : s.ok base w' := ⟨h.head, own_kept h.body (Kept.of_new hb (fun _ => False)) (fun _ _ h => h), h.oct, h.len⟩
theorem SE.ok.rd {base : Nat} {w : World} {s : SE} (h : s.ok base w) : s.rd w := by
  obtain ⟨A, c, e, h1, h2, h3⟩ := own_shape h.body
  injection e with e1 _ e3
  exact ⟨h.head, by rw [e1]; exact h3, h.oct, by rw [e3]; exact ⟨h1, h2⟩, h.len⟩
theorem SE.ok.mono {base b' : Nat} {w : World} {s : SE} (h : s.ok base w) (hb : b' ≤ base) : s.ok b' w := ⟨h.head, own_mono h.body hb, h.oct, h.len⟩
/-- What counts of a state. -/
structure CopyOf (w w' : World) (s s' : SE) : Prop where
  h : s'.h = s.h
  B : s'.B = s.B
  n : s'.n = s.n
  ok : s'.ok w.heap.size w'
/-- A state's bytes. -/
def stB (s : SE) : List Int := hdB s.h ++ s.B
set_option maxRecDepth 100000 in
set_option maxHeartbeats 4000000 in
theorem bytes_any (s : SE) (w : World) (hs : s.rd w) (hn : s.n ≤ 1073741824) : Calls Tryd.prog 52 #[s.v] w fun e w' => ∃ u, e = .returned u ∧ w'.ownsRow w.heap.size 5 1 u (20 + s.n) (u8s (stB s)) ∧ Below w.heap.size w w' := by
  obtain ⟨h, A, n, c, B⟩ := s
  have HOK := Lib.hid hs
  have hn' : n ≤ 1073741824 := hn
  have hw : IntKind.i64.wrap (20 + (n : Int)) = 20 + n := by rw [IntKind.wrap_i64]; omega
  have hb1 : Below w.heap.size w (w.alloc (.cells #[.int .u16 h.age, .int .u8 h.opts, .int .u8 h.typ, .int .u32 h.id, .int .u32 h.adv, .int .i32 h.seq, .int .u16 h.sum, .int .u16 h.len, .slice A n c] 33)) := (Below.refl _ _).alloc (Nat.le_refl _) _
  have HB1 := Lib.hid hb1
  have HX1 := Lib.hid (Blk.new w 33 (stC h A n c))
  clear hs hn hb1
  show Calls Tryd.prog 52 #[stV h A n c] w _
  go_enter Tryd.func52, Tryd.ntmps52
  go_wp2_with fail
  unfold stC at *
  generalize hgs : w.heap.size = gs at *
  generalize w.alloc (.cells #[.int .u16 h.age, .int .u8 h.opts, .int .u8 h.typ, .int .u32 h.id, .int .u32 h.adv, .int .i32 h.seq, .int .u16 h.sum, .int .u16 h.len, .slice A n c] 33) = w1 at *
  have HGS := Lib.hid hgs
  clear hgs
  refine (wr_new (20 + n) w1 (by omega) (by omega)).mono ?_
  rintro e w2 ⟨g, rfl, hw2, hg1, hg2⟩
  have HW2 := Lib.hid hw2
  have hb3 : Below w2.heap.size w2 (w2.alloc (.cells #[.pointer (some ⟨g, 0, none⟩)] 87)) := (Below.refl _ _).alloc (Nat.le_refl _) _
  have HP3 : Hid (PenBlk (w2.alloc (.cells #[.pointer (some ⟨g, 0, none⟩)] 87)) w2.heap.size g) := Lib.hid (Blk.new _ _ _)
  have HX3 := Lib.hid ((HX1.out.later hw2.b).later hb3)
  have HW3 := Lib.hid (hw2.later hb3)
  obtain ⟨x0, x1, x2, x3, x4, x5, x6, x7, x8⟩ := stC_facts HX3.out
  have hp0 := HP3.out
  unfold PenBlk at hp0
  have p0 := hp0.cell 0
  simp at p0
  clear hw2 HW2 hb3 hg1 hg2 hp0
  go_wp2_with fail
  generalize w2.heap.size = gp at *
  generalize w2.alloc (.cells #[.pointer (some ⟨g, 0, none⟩)] 87) = w3 at *
  clear x0 x1 x2 x3 x4 x5 x6 x7 x8 p0
  refine (penHead_any w1 w3 g _ [] HW3.out h HOK.out.head).mono ?_
  rintro e w4 ⟨rfl, hw4, hk4⟩
  have HW4 := Lib.hid hw4
  have HX4 := hk4.2 _ _ _ HX3.out (by decide) (by decide)
  have HP4 := hk4.2 _ _ _ HP3.out (by decide) (by decide)
  have x8 := HX4.cell 8
  have p0 := HP4.cell 0
  simp at x8 p0
  have hbw : Below w.heap.size w w4 := below_then (by rw [HGS.out]; exact HB1.out) hw4.b
  have HR4 := Lib.hid (HOK.out.body.later hbw)
  have HBW := Lib.hid hbw
  clear hw4 hk4 HX4 HP4 HX3 HP3 HW3 hbw
  go_wp2_with fail
  refine (wr_put w1 w4 g _ _ B HW4.out A n c HR4.out (by omega)).mono ?_
  rintro e w5 ⟨rfl, hw5, hk5⟩
  have HW5 := Lib.hid hw5
  clear hw5 hk5 x8 p0 HW4
  have hBl : Hid (([] ++ hdB h ++ B).length = 20 + n) := Lib.hid (by rw [List.length_append, List.nil_append, hdB_len, HOK.out.bl])
  go_wp2_with fail
  refine (wr_done_yes w1 w5 g _ _ HW5.out (by rw [hBl.out]; omega)).mono ?_
  rintro e w6 ⟨u, rfl, ho, hb6⟩
  rw [hBl.out] at ho
  have HD := Lib.hid (And.intro ho hb6)
  obtain ⟨A6, c6, hu, -⟩ := own_shape ho
  subst hu
  clear ho hb6
  go_wp2_with fail
  go_ret
  obtain ⟨ho, hb6⟩ := HD.out
  have hb5 : Below w.heap.size w w5 := below_then (by rw [HGS.out]; exact HB1.out) HW5.out.b
  refine ⟨_, rfl, ?_, ?_⟩
  · exact own_mono ho hb5.size
  · exact below_then hb5 hb6
end Go.Proofs.YtljedcfpbdompaaDoor
