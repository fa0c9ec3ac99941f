/-
  The table of forms; formOf.
-/
import Derived.Test.YtljedcfpbdompaaDoorSta4
import Derived.Defers
import Derived.Recover
namespace Go.Proofs.YtljedcfpbdompaaDoor
set_option linter.unusedVariables false
open Go.RowKit Go.ChangeShapes Go.WideShapes

theorem info_forms : (Tryd.prog.info? 140).map (·.size) = some 24 := by kernel_rfl
theorem info_form : (Tryd.prog.info? 81).map (·.size) = some 2 := by kernel_rfl
/-- The table. -/
@[reducible] def fmC : Array Value := #[.nilFunc, .nilFunc, .func (.func 65) #[] #[], .func (.func 66) #[] #[], .func (.func 67) #[] #[], .func (.func 68) #[] #[], .func (.func 69) #[] #[], .func (.func 70) #[] #[], .func (.func 69) #[] #[], .func (.func 70) #[] #[], .func (.func 71) #[] #[], .func (.func 72) #[] #[], .nilFunc, .nilFunc, .func (.func 71) #[] #[], .func (.func 72) #[] #[], .nilFunc, .nilFunc, .func (.func 73) #[] #[], .func (.func 74) #[] #[], .func (.func 73) #[] #[], .func (.func 74) #[] #[], .func (.func 73) #[] #[], .func (.func 74) #[] #[]]
set_option maxRecDepth 100000 in
set_option maxHeartbeats 2000000 in
theorem forms_any (w : World) : Calls Tryd.prog 56 #[] w fun e w' => e = .returned (.agg fmC) ∧ Below w.heap.size w w' := by
  go_enter Tryd.func56, Tryd.ntmps56
  go_wp2_with (refine wpList_store_row rfl 140 _ _ rfl w.heap.size #[.nilFunc, .nilFunc, .func (.func 65) #[] #[], .func (.func 66) #[] #[], .func (.func 67) #[] #[], .func (.func 68) #[] #[], .func (.func 69) #[] #[], .func (.func 70) #[] #[], .func (.func 69) #[] #[], .func (.func 70) #[] #[], .func (.func 71) #[] #[], .func (.func 72) #[] #[], .nilFunc, .nilFunc, .func (.func 71) #[] #[], .func (.func 72) #[] #[], .nilFunc, .nilFunc, .func (.func 73) #[] #[], .func (.func 74) #[] #[], .func (.func 73) #[] #[], .func (.func 74) #[] #[], .func (.func 73) #[] #[], .func (.func 74) #[] #[]] rfl rfl 140 _ (heap_alloc_new w _) info_forms rfl (by simp [Value.oneCell']) ?_; rw [World.setRow_alloc_new])
  exact bodyPost_ret (results_cell_row rfl _ _ w.heap.size 140 #[.nilFunc, .nilFunc, .func (.func 65) #[] #[], .func (.func 66) #[] #[], .func (.func 67) #[] #[], .func (.func 68) #[] #[], .func (.func 69) #[] #[], .func (.func 70) #[] #[], .func (.func 69) #[] #[], .func (.func 70) #[] #[], .func (.func 71) #[] #[], .func (.func 72) #[] #[], .nilFunc, .nilFunc, .func (.func 71) #[] #[], .func (.func 72) #[] #[], .nilFunc, .nilFunc, .func (.func 73) #[] #[], .func (.func 74) #[] #[], .func (.func 73) #[] #[], .func (.func 74) #[] #[], .func (.func 73) #[] #[], .func (.func 74) #[] #[]] (0, 0) _ rfl (Blk.new _ _ _) Tryd.underlying140 rfl info_forms) rfl ⟨rfl, (Below.refl _ _).alloc (Nat.le_refl _) _⟩
theorem fn_nil (n : FuncId) (w : World) : (binOp .eql 78 (.func (.func n) #[] #[]) .nilFunc).run Tryd.prog w = .ok (.bool false) w := by kernel_rfl
theorem nil_nil (w : World) : (binOp .eql 78 .nilFunc .nilFunc).run Tryd.prog w = .ok (.bool true) w := by kernel_rfl
/-- A known type. -/
def Kn (t : Int) : Prop := t = 1 ∨ t = 2 ∨ t = 3 ∨ t = 4 ∨ t = 5 ∨ t = 7 ∨ t = 9 ∨ t = 10 ∨ t = 11
def wF (t : Int) : FuncId := if t = 1 then 65 else if t = 2 then 67 else if t = 3 ∨ t = 4 then 69 else if t = 5 ∨ t = 7 then 71 else 73
def rF (t : Int) : FuncId := if t = 1 then 66 else if t = 2 then 68 else if t = 3 ∨ t = 4 then 70 else if t = 5 ∨ t = 7 then 72 else 74
@[reducible] def thrown (k : Int) : Ending := .panicked [{ v := .iface 29 (.int .i64 k), recovered := false }]
set_option maxRecDepth 100000 in
set_option maxHeartbeats 2000000 in
theorem formOf_yes (t : Int) (h : Kn t) (w : World) : Calls Tryd.prog 43 #[.int .u8 t] w fun e w' => e = .returned (.agg #[.func (.func (wF t)) #[] #[], .func (.func (rF t)) #[] #[]]) ∧ Below w.heap.size w w' := by
  have hb0 : Below w.heap.size w (w.alloc (.cells #[.nilFunc, .nilFunc] 81)) := (Below.refl _ _).alloc (Nat.le_refl _) _
  have HZ := Lib.hid (Blk.new w 81 #[.nilFunc, .nilFunc])
  have HB := Lib.hid hb0
  clear hb0
  rcases h with rfl | rfl | rfl | rfl | rfl | rfl | rfl | rfl | rfl
  all_goals
    go_enter Tryd.func43, Tryd.ntmps43
    go_wp2_with fail
    refine (forms_any _).mono ?_
    rintro e w1 ⟨rfl, hb⟩
    have HZ2 := Lib.hid (HZ.out.later hb)
    have HB2 := Lib.hid (below_then HB.out hb)
    have HF2 := Blk.new w1 140 #[.nilFunc, .nilFunc, .func (.func 65) #[] #[], .func (.func 66) #[] #[], .func (.func 67) #[] #[], .func (.func 68) #[] #[], .func (.func 69) #[] #[], .func (.func 70) #[] #[], .func (.func 69) #[] #[], .func (.func 70) #[] #[], .func (.func 71) #[] #[], .func (.func 72) #[] #[], .nilFunc, .nilFunc, .func (.func 71) #[] #[], .func (.func 72) #[] #[], .nilFunc, .nilFunc, .func (.func 73) #[] #[], .func (.func 74) #[] #[], .func (.func 73) #[] #[], .func (.func 74) #[] #[], .func (.func 73) #[] #[], .func (.func 74) #[] #[]]
    have hb3 : Below w1.heap.size w1 (w1.alloc (.cells #[.nilFunc, .nilFunc, .func (.func 65) #[] #[], .func (.func 66) #[] #[], .func (.func 67) #[] #[], .func (.func 68) #[] #[], .func (.func 69) #[] #[], .func (.func 70) #[] #[], .func (.func 69) #[] #[], .func (.func 70) #[] #[], .func (.func 71) #[] #[], .func (.func 72) #[] #[], .nilFunc, .nilFunc, .func (.func 71) #[] #[], .func (.func 72) #[] #[], .nilFunc, .nilFunc, .func (.func 73) #[] #[], .func (.func 74) #[] #[], .func (.func 73) #[] #[], .func (.func 74) #[] #[], .func (.func 73) #[] #[], .func (.func 74) #[] #[]] 140)) := (Below.refl _ _).alloc (Nat.le_refl _) _
    have HZ3 := Lib.hid (HZ2.out.later hb3)
    have HB3 := Lib.hid (below_then HB2.out hb3)
    have hcl := HF2.cell
    clear hb HZ HB HZ2 HB2 hb3
    unfold fmC at *
    have hfn := fn_nil
    go_wp2_with (first
      | (refine wpList_store_row rfl 140 _ _ rfl w1.heap.size #[.nilFunc, .nilFunc, .func (.func 65) #[] #[], .func (.func 66) #[] #[], .func (.func 67) #[] #[], .func (.func 68) #[] #[], .func (.func 69) #[] #[], .func (.func 70) #[] #[], .func (.func 69) #[] #[], .func (.func 70) #[] #[], .func (.func 71) #[] #[], .func (.func 72) #[] #[], .nilFunc, .nilFunc, .func (.func 71) #[] #[], .func (.func 72) #[] #[], .nilFunc, .nilFunc, .func (.func 73) #[] #[], .func (.func 74) #[] #[], .func (.func 73) #[] #[], .func (.func 74) #[] #[], .func (.func 73) #[] #[], .func (.func 74) #[] #[]] rfl rfl 140 _ (heap_alloc_new w1 _) info_forms rfl (by simp [Value.oneCell']) ?_; rw [World.setRow_alloc_new])
      | (refine wpList_store_row rfl 81 _ _ rfl w.heap.size _ rfl rfl 81 _ HZ3.out info_form rfl (by simp [Value.oneCell']) ?_))
    exact bodyPost_ret (results_cell_row rfl _ _ w.heap.size 81 _ (0, 0) _ rfl (HZ3.out.setRow _) Tryd.underlying81 rfl info_form) rfl ⟨rfl, below_setRow HB3.out (Nat.le_refl _) _⟩
set_option maxRecDepth 100000 in
set_option maxHeartbeats 2000000 in
theorem formOf_no (t : Int) (h0 : 0 ≤ t) (h1 : t ≤ 255) (h : ¬ Kn t) (w : World) : Calls Tryd.prog 43 #[.int .u8 t] w fun e w' => e = thrown 21 ∧ Below w.heap.size w w' := by
  have hb0 : Below w.heap.size w (w.alloc (.cells #[.nilFunc, .nilFunc] 81)) := (Below.refl _ _).alloc (Nat.le_refl _) _
  have HB := Lib.hid hb0
  clear hb0
  have hmi : ∀ W : World, (Instr.makeInterface 29 (.int .i64 21)).run Tryd.prog W = .ok (.iface 29 (.int .i64 21)) W := fun W => by kernel_rfl
  have hk : (12 ≤ t) ∨ t = 0 ∨ t = 6 ∨ t = 8 := by unfold Kn at h; omega
  clear h
  rcases hk with hk | rfl | rfl | rfl
  · have hd : decide (12 ≤ t) = true := decide_eq_true hk
    go_enter Tryd.func43, Tryd.ntmps43
    go_wp2_with fail
    refine (forms_any _).mono ?_
    rintro e w1 ⟨rfl, hb⟩
    have hb3 : Below w1.heap.size w1 (w1.alloc (.cells #[.nilFunc, .nilFunc, .func (.func 65) #[] #[], .func (.func 66) #[] #[], .func (.func 67) #[] #[], .func (.func 68) #[] #[], .func (.func 69) #[] #[], .func (.func 70) #[] #[], .func (.func 69) #[] #[], .func (.func 70) #[] #[], .func (.func 71) #[] #[], .func (.func 72) #[] #[], .nilFunc, .nilFunc, .func (.func 71) #[] #[], .func (.func 72) #[] #[], .nilFunc, .nilFunc, .func (.func 73) #[] #[], .func (.func 74) #[] #[], .func (.func 73) #[] #[], .func (.func 74) #[] #[], .func (.func 73) #[] #[], .func (.func 74) #[] #[]] 140)) := (Below.refl _ _).alloc (Nat.le_refl _) _
    have HB3 := Lib.hid (below_then (below_then HB.out hb) hb3)
    clear hb HB hb3
    unfold fmC at *
    go_wp2_with (refine wpList_store_row rfl 140 _ _ rfl w1.heap.size #[.nilFunc, .nilFunc, .func (.func 65) #[] #[], .func (.func 66) #[] #[], .func (.func 67) #[] #[], .func (.func 68) #[] #[], .func (.func 69) #[] #[], .func (.func 70) #[] #[], .func (.func 69) #[] #[], .func (.func 70) #[] #[], .func (.func 71) #[] #[], .func (.func 72) #[] #[], .nilFunc, .nilFunc, .func (.func 71) #[] #[], .func (.func 72) #[] #[], .nilFunc, .nilFunc, .func (.func 73) #[] #[], .func (.func 74) #[] #[], .func (.func 73) #[] #[], .func (.func 74) #[] #[], .func (.func 73) #[] #[], .func (.func 74) #[] #[]] rfl rfl 140 _ (heap_alloc_new w1 _) info_forms rfl (by simp [Value.oneCell']) ?_; rw [World.setRow_alloc_new])
    exact ⟨rfl, rfl, HB3.out⟩
  all_goals
    go_enter Tryd.func43, Tryd.ntmps43
    go_wp2_with fail
    refine (forms_any _).mono ?_
    rintro e w1 ⟨rfl, hb⟩
    have HF2 := Blk.new w1 140 #[.nilFunc, .nilFunc, .func (.func 65) #[] #[], .func (.func 66) #[] #[], .func (.func 67) #[] #[], .func (.func 68) #[] #[], .func (.func 69) #[] #[], .func (.func 70) #[] #[], .func (.func 69) #[] #[], .func (.func 70) #[] #[], .func (.func 71) #[] #[], .func (.func 72) #[] #[], .nilFunc, .nilFunc, .func (.func 71) #[] #[], .func (.func 72) #[] #[], .nilFunc, .nilFunc, .func (.func 73) #[] #[], .func (.func 74) #[] #[], .func (.func 73) #[] #[], .func (.func 74) #[] #[], .func (.func 73) #[] #[], .func (.func 74) #[] #[]]
    have hb3 : Below w1.heap.size w1 (w1.alloc (.cells #[.nilFunc, .nilFunc, .func (.func 65) #[] #[], .func (.func 66) #[] #[], .func (.func 67) #[] #[], .func (.func 68) #[] #[], .func (.func 69) #[] #[], .func (.func 70) #[] #[], .func (.func 69) #[] #[], .func (.func 70) #[] #[], .func (.func 71) #[] #[], .func (.func 72) #[] #[], .nilFunc, .nilFunc, .func (.func 71) #[] #[], .func (.func 72) #[] #[], .nilFunc, .nilFunc, .func (.func 73) #[] #[], .func (.func 74) #[] #[], .func (.func 73) #[] #[], .func (.func 74) #[] #[], .func (.func 73) #[] #[], .func (.func 74) #[] #[]] 140)) := (Below.refl _ _).alloc (Nat.le_refl _) _
    have HB3 := Lib.hid (below_then (below_then HB.out hb) hb3)
    have hcl := HF2.cell
    clear hb HB hb3
    unfold fmC at *
    have hfn := nil_nil
    go_wp2_with (refine wpList_store_row rfl 140 _ _ rfl w1.heap.size #[.nilFunc, .nilFunc, .func (.func 65) #[] #[], .func (.func 66) #[] #[], .func (.func 67) #[] #[], .func (.func 68) #[] #[], .func (.func 69) #[] #[], .func (.func 70) #[] #[], .func (.func 69) #[] #[], .func (.func 70) #[] #[], .func (.func 71) #[] #[], .func (.func 72) #[] #[], .nilFunc, .nilFunc, .func (.func 71) #[] #[], .func (.func 72) #[] #[], .nilFunc, .nilFunc, .func (.func 73) #[] #[], .func (.func 74) #[] #[], .func (.func 73) #[] #[], .func (.func 74) #[] #[], .func (.func 73) #[] #[], .func (.func 74) #[] #[]] rfl rfl 140 _ (heap_alloc_new w1 _) info_forms rfl (by simp [Value.oneCell']) ?_; rw [World.setRow_alloc_new])
    exact ⟨rfl, rfl, HB3.out⟩
end Go.Proofs.YtljedcfpbdompaaDoor
