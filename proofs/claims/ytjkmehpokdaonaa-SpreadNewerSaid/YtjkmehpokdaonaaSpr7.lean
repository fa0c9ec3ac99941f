/-
  SpreadNewer and SpreadJudges, walked.
-/
import Derived.Deep.WholeRow
import Derived.Test.YtjkmehpokdaonaaSpr2
import Derived.Test.YtjkmehpokdaonaaSpr6
namespace Go.Proofs.Ytjkmehpokdaonaa
set_option linter.unusedVariables false
open Go.RowKit

theorem exec_load_row {P : Program} {o : Oper} {a : Act} {w : World} {ty : TypeId} {x : Operand} (ho : o.op = .load ty x)
    {g : Nat} (hx : a.eval x = .pointer (some ⟨g, 0, none⟩)) {t : TypeId} {cs : Array Value} {d : TypeDesc} (hg : Blk w g t cs)
    (hu : P.underlying ty = some d) (hd : (match d with | .struct _ | .array _ _ => true | _ => false) = true) (hi : (P.info? ty).map (·.size) = some cs.size) :
    (execOp a.eval o).run P w = .ok (.value (.agg cs)) w := by
  unfold execOp
  simp only [ho, hx, Instr.loadAt, Instr.sureAddr, Sem.run_bind, Sem.run_pure, Result.andThen_ok, run_loadVar_row w g t ty cs (0, 0) d hg hu hd hi]
/-- Two blocks that stand. -/
def Two (g g' : Nat) (t t' : TypeId) (cs cs' : Array Value) (W : World) : Prop := Blk W g t cs ∧ Blk W g' t' cs'
theorem Two.later {g g' : Nat} {t t' : TypeId} {cs cs' : Array Value} {w w' : World} (h : Two g g' t t' cs cs' w) (hb : Below w.heap.size w w') : Two g g' t t' cs cs' w' := ⟨h.1.later hb, h.2.later hb⟩
theorem Two.below {g g' : Nat} {t t' : TypeId} {cs cs' : Array Value} {a w w' : World} (h : Two g g' t t' cs cs' w) (HB : Below g a w) (hb : Below w.heap.size w w') : Below g a w' := HB.trans (hb.mono (Nat.le_of_lt h.1.lt))
/-- A whole row stored into the block that was made last. -/
theorem wpList_store_new {P : Program} {ops : Array Oper} {rest : List Oper} {a : Act} {w : World} {Q : Exit → Act → World → Prop} {ty T : TypeId} {x y : Operand} {p af}
    (cs old : Array Value) (t : TypeId) (hx : a.eval x = .pointer (some ⟨w.heap.size, 0, none⟩)) (hy : a.eval y = .agg cs) (hi : (P.info? ty).map (·.size) = some cs.size)
    (hold : old.size = cs.size) (h1 : cs.all (·.oneCell') = true) (h : wpList P ops Q rest a (w.alloc (.cells cs t))) :
    wpList P ops Q (⟨none, .store ty x y, T, p, af, none⟩ :: rest) a (w.alloc (.cells old t)) := by
  refine wpList_store_row rfl ty x y rfl w.heap.size cs hx hy t old (heap_alloc_new w _) hi hold h1 ?_
  rw [World.setRow_alloc_new]
  exact h
theorem info_came : (Try.prog.info? 28).map (·.size) = some 22 := by kernel_rfl
theorem info_rcame : (Try.prog.info? 27).map (·.size) = some 22 := by kernel_rfl
set_option maxRecDepth 100000 in
set_option maxHeartbeats 2000000 in
theorem spreadJudges_walk (c : Cm) (hc : c.ok) (w : World) : Calls Try.prog 3 #[c.v] w fun e w' => e = .returned (.bool true) ∧ Below w.heap.size w w' := by
  have Hc := Lib.hid hc
  clear hc
  have HB : Hid (Blk (w.alloc (.cells #[.int .u16 c.got.age, .int .u8 c.got.opts, .int .u8 c.got.typ, .int .u32 c.got.id, .int .u32 c.got.adv, .int .i32 c.got.seq, .int .u16 c.got.sum, .int .u16 c.got.len, .bool c.has, .int .u16 c.own.age, .int .u8 c.own.opts, .int .u8 c.own.typ, .int .u32 c.own.id, .int .u32 c.own.adv, .int .i32 c.own.seq, .int .u16 c.own.sum, .int .u16 c.own.len, .int .u32 c.since, .int .u32 c.sent, .bool c.busy, .bool c.asked, .bool c.mine] 27)) w.heap.size 27 #[.int .u16 c.got.age, .int .u8 c.got.opts, .int .u8 c.got.typ, .int .u32 c.got.id, .int .u32 c.got.adv, .int .i32 c.got.seq, .int .u16 c.got.sum, .int .u16 c.got.len, .bool c.has, .int .u16 c.own.age, .int .u8 c.own.opts, .int .u8 c.own.typ, .int .u32 c.own.id, .int .u32 c.own.adv, .int .i32 c.own.seq, .int .u16 c.own.sum, .int .u16 c.own.len, .int .u32 c.since, .int .u32 c.sent, .bool c.busy, .bool c.asked, .bool c.mine] ∧ Below w.heap.size w (w.alloc (.cells #[.int .u16 c.got.age, .int .u8 c.got.opts, .int .u8 c.got.typ, .int .u32 c.got.id, .int .u32 c.got.adv, .int .i32 c.got.seq, .int .u16 c.got.sum, .int .u16 c.got.len, .bool c.has, .int .u16 c.own.age, .int .u8 c.own.opts, .int .u8 c.own.typ, .int .u32 c.own.id, .int .u32 c.own.adv, .int .i32 c.own.seq, .int .u16 c.own.sum, .int .u16 c.own.len, .int .u32 c.since, .int .u32 c.sent, .bool c.busy, .bool c.asked, .bool c.mine] 27))) := ⟨Blk.new _ _ _, (Below.refl _ _).alloc (Nat.le_refl _) _⟩
  go_enter Try.func3, Try.ntmps3
  refine wp_seq_k fun K hK0 => ?_
  have hK := Lib.hid hK0
  clear hK0
  go_wp2
  refine hK.out _ _ ?_
  clear hK K
  have j0 := HB.out.1.cell 0; have j1 := HB.out.1.cell 1; have j2 := HB.out.1.cell 2; have j3 := HB.out.1.cell 3; have j4 := HB.out.1.cell 4; have j5 := HB.out.1.cell 5; have j6 := HB.out.1.cell 6; have j7 := HB.out.1.cell 7; have j8 := HB.out.1.cell 8; have j9 := HB.out.1.cell 9; have j10 := HB.out.1.cell 10; have j11 := HB.out.1.cell 11; have j12 := HB.out.1.cell 12; have j13 := HB.out.1.cell 13; have j14 := HB.out.1.cell 14; have j15 := HB.out.1.cell 15; have j16 := HB.out.1.cell 16; have j17 := HB.out.1.cell 17; have j18 := HB.out.1.cell 18; have j19 := HB.out.1.cell 19; have j20 := HB.out.1.cell 20; have j21 := HB.out.1.cell 21
  simp only [List.getElem?_toArray, List.getElem?_cons_zero, List.getElem?_cons_succ] at j0 j1 j2 j3 j4 j5 j6 j7 j8 j9 j10 j11 j12 j13 j14 j15 j16 j17 j18 j19 j20 j21
  generalize w.alloc (.cells #[.int .u16 c.got.age, .int .u8 c.got.opts, .int .u8 c.got.typ, .int .u32 c.got.id, .int .u32 c.got.adv, .int .i32 c.got.seq, .int .u16 c.got.sum, .int .u16 c.got.len, .bool c.has, .int .u16 c.own.age, .int .u8 c.own.opts, .int .u8 c.own.typ, .int .u32 c.own.id, .int .u32 c.own.adv, .int .i32 c.own.seq, .int .u16 c.own.sum, .int .u16 c.own.len, .int .u32 c.since, .int .u32 c.sent, .bool c.busy, .bool c.asked, .bool c.mine] 27) = w1 at *
  generalize w.heap.size = b0 at *
  refine wp_seq_k fun K hK0 => ?_
  have hK := Lib.hid hK0
  clear hK0
  go_wp2_with (refine wpList_store_new #[.int .u16 c.got.age, .int .u8 c.got.opts, .int .u8 c.got.typ, .int .u32 c.got.id, .int .u32 c.got.adv, .int .i32 c.got.seq, .int .u16 c.got.sum, .int .u16 c.got.len, .bool c.has, .int .u16 c.own.age, .int .u8 c.own.opts, .int .u8 c.own.typ, .int .u32 c.own.id, .int .u32 c.own.adv, .int .i32 c.own.seq, .int .u16 c.own.sum, .int .u16 c.own.len, .int .u32 c.since, .int .u32 c.sent, .bool c.busy, .bool c.asked, .bool c.mine] _ 28 rfl rfl info_came rfl (by simp [Value.oneCell']) ?_)
  refine hK.out _ _ ?_
  clear hK K
  have HS : Hid (Two b0 w1.heap.size 27 28 #[.int .u16 c.got.age, .int .u8 c.got.opts, .int .u8 c.got.typ, .int .u32 c.got.id, .int .u32 c.got.adv, .int .i32 c.got.seq, .int .u16 c.got.sum, .int .u16 c.got.len, .bool c.has, .int .u16 c.own.age, .int .u8 c.own.opts, .int .u8 c.own.typ, .int .u32 c.own.id, .int .u32 c.own.adv, .int .i32 c.own.seq, .int .u16 c.own.sum, .int .u16 c.own.len, .int .u32 c.since, .int .u32 c.sent, .bool c.busy, .bool c.asked, .bool c.mine] #[.int .u16 c.got.age, .int .u8 c.got.opts, .int .u8 c.got.typ, .int .u32 c.got.id, .int .u32 c.got.adv, .int .i32 c.got.seq, .int .u16 c.got.sum, .int .u16 c.got.len, .bool c.has, .int .u16 c.own.age, .int .u8 c.own.opts, .int .u8 c.own.typ, .int .u32 c.own.id, .int .u32 c.own.adv, .int .i32 c.own.seq, .int .u16 c.own.sum, .int .u16 c.own.len, .int .u32 c.since, .int .u32 c.sent, .bool c.busy, .bool c.asked, .bool c.mine] (w1.alloc (.cells #[.int .u16 c.got.age, .int .u8 c.got.opts, .int .u8 c.got.typ, .int .u32 c.got.id, .int .u32 c.got.adv, .int .i32 c.got.seq, .int .u16 c.got.sum, .int .u16 c.got.len, .bool c.has, .int .u16 c.own.age, .int .u8 c.own.opts, .int .u8 c.own.typ, .int .u32 c.own.id, .int .u32 c.own.adv, .int .i32 c.own.seq, .int .u16 c.own.sum, .int .u16 c.own.len, .int .u32 c.since, .int .u32 c.sent, .bool c.busy, .bool c.asked, .bool c.mine] 28)).drew) := ⟨HB.out.1.alloc _, Blk.new _ _ _⟩
  have HB2 : Hid (Below b0 w (w1.alloc (.cells #[.int .u16 c.got.age, .int .u8 c.got.opts, .int .u8 c.got.typ, .int .u32 c.got.id, .int .u32 c.got.adv, .int .i32 c.got.seq, .int .u16 c.got.sum, .int .u16 c.got.len, .bool c.has, .int .u16 c.own.age, .int .u8 c.own.opts, .int .u8 c.own.typ, .int .u32 c.own.id, .int .u32 c.own.adv, .int .i32 c.own.seq, .int .u16 c.own.sum, .int .u16 c.own.len, .int .u32 c.since, .int .u32 c.sent, .bool c.busy, .bool c.asked, .bool c.mine] 28)).drew) := (HB.out.2.alloc (Nat.le_of_lt HB.out.1.lt) _).drew
  clear j0 j1 j2 j3 j4 j5 j6 j7 j8 j9 j10 j11 j12 j13 j14 j15 j16 j17 j18 j19 j20 j21 HB
  generalize w1.heap.size = b1 at *
  go_wp2
  refine wp_region_s (Two b0 b1 27 28 #[.int .u16 c.got.age, .int .u8 c.got.opts, .int .u8 c.got.typ, .int .u32 c.got.id, .int .u32 c.got.adv, .int .i32 c.got.seq, .int .u16 c.got.sum, .int .u16 c.got.len, .bool c.has, .int .u16 c.own.age, .int .u8 c.own.opts, .int .u8 c.own.typ, .int .u32 c.own.id, .int .u32 c.own.adv, .int .i32 c.own.seq, .int .u16 c.own.sum, .int .u16 c.own.len, .int .u32 c.since, .int .u32 c.sent, .bool c.busy, .bool c.asked, .bool c.mine] #[.int .u16 c.got.age, .int .u8 c.got.opts, .int .u8 c.got.typ, .int .u32 c.got.id, .int .u32 c.got.adv, .int .i32 c.got.seq, .int .u16 c.got.sum, .int .u16 c.got.len, .bool c.has, .int .u16 c.own.age, .int .u8 c.own.opts, .int .u8 c.own.typ, .int .u32 c.own.id, .int .u32 c.own.adv, .int .i32 c.own.seq, .int .u16 c.own.sum, .int .u16 c.own.len, .int .u32 c.since, .int .u32 c.sent, .bool c.busy, .bool c.asked, .bool c.mine]) [(0, true), (2, true), (1, false), (3, false), (4, true), (5, true), (6, false), (7, true), (8, true)] (by kernel_rfl) (fun _ d _ _ _ h => by cases d <;> exact h) ?_
  simp only [List.map_cons, List.map_nil, nthOp_zero, nthOp_succ]
  generalize (w1.alloc (.cells #[.int .u16 c.got.age, .int .u8 c.got.opts, .int .u8 c.got.typ, .int .u32 c.got.id, .int .u32 c.got.adv, .int .i32 c.got.seq, .int .u16 c.got.sum, .int .u16 c.got.len, .bool c.has, .int .u16 c.own.age, .int .u8 c.own.opts, .int .u8 c.own.typ, .int .u32 c.own.id, .int .u32 c.own.adv, .int .i32 c.own.seq, .int .u16 c.own.sum, .int .u16 c.own.len, .int .u32 c.since, .int .u32 c.sent, .bool c.busy, .bool c.asked, .bool c.mine] 28)).drew = w2 at *
  refine wpS_take HS (by rfl) (fun W hW => exec_load_row rfl rfl hW.2 Try.underlying28 rfl info_came) ?_
  refine wpS_take HS (by rfl) (fun W hW => exec_load_row rfl rfl hW.1 Try.underlying27 rfl info_rcame) ?_
  refine wpS_do fun K hK => ?_
  go_wp2_with (go_at_call 8; refine (judge_any c w2 Hc.out).mono ?_; rintro e w3 ⟨rfl, hb⟩; have HS3 := Lib.hid (HS.out.later hb); have HB3 := Lib.hid (HS.out.below HB2.out hb); clear hb)
  clear HS HB2
  refine hK.out _ _ HS3.out ?_
  clear hK K
  refine wpS_do fun K hK => ?_
  go_wp2_with (go_at_call 9; refine (refJudge_any c w3 Hc.out).mono ?_; rintro e w4 ⟨rfl, hb⟩; have HS4 := Lib.hid (HS3.out.later hb); have HB4 := Lib.hid (HS3.out.below HB3.out hb); clear hb)
  clear HS3 HB3
  refine hK.out _ _ HS4.out ?_
  clear hK K
  refine wpS_take HS4 (by rfl) (by intro W hW; go_simp; try with_reducible rfl) ?_
  refine wpS_take HS4 (by rfl) (by intro W hW; go_simp; try with_reducible rfl) ?_
  refine wpS_do fun K hK => ?_
  go_wp2_with (go_at_call 10; refine (works_any w4).mono ?_; rintro e w5 ⟨rfl, hb⟩; have HS5 := Lib.hid (HS4.out.later hb); have HB5 := Lib.hid (HS4.out.below HB4.out hb); clear hb)
  clear HS4 HB4
  refine hK.out _ _ HS5.out ?_
  clear hK K
  refine wpS_take HS5 (by rfl) (by intro W hW; go_simp; try with_reducible rfl) ?_
  refine wpS_take HS5 (by rfl) (by intro W hW; go_simp; try with_reducible rfl) ?_
  refine wpS_nil ?_
  go_wp2
  go_ret
  exact ⟨rfl, HB5.out⟩
end Go.Proofs.Ytjkmehpokdaonaa
