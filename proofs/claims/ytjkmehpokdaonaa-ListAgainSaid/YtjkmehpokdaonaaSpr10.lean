/-
  spread.List: what no list answers.
-/
import Derived.Test.YtjkmehpokdaonaaSpr6
namespace Go.Proofs.Ytjkmehpokdaonaa
set_option linter.unusedVariables false
open Go.RowKit

/-- A pointer to no list, for all worlds to come. -/
def IsNone (p : Value) (w : World) : Prop := ∀ W, Below w.heap.size w W → Calls Try.prog 36 #[p] W fun e w' => e = .returned (.bool true) ∧ W = w'
theorem IsNone.later {p : Value} {w w' : World} (h : IsNone p w) (hb : Below w.heap.size w w') : IsNone p w' := fun W hW => h W (hb.trans (hW.mono hb.size))
theorem isNone_nil (w : World) : IsNone (.pointer none) w := by
  intro W _
  go_enter Try.func36, Try.ntmps36
  go_wp2
  go_ret
  exact ⟨rfl, rfl⟩
theorem isNone_zero (w : World) (g : Nat) (h : w.cell? ⟨g, 3, none⟩ = some (.map none)) : IsNone (.pointer (some ⟨g, 0, none⟩)) w := by
  intro W hb
  have h' : W.cell? ⟨g, 3, none⟩ = some (.map none) := (hb.cell (p := ⟨g, 3, none⟩) (cell_lt h)).trans h
  have hE := fun W : World => run_eql_map_nil (P := Try.prog) W 53 46 44 none Try.underlying53
  simp only [Option.isNone_none] at hE
  clear h hb
  go_enter Try.func36, Try.ntmps36
  go_wp2
  go_ret
  exact ⟨rfl, rfl⟩
theorem addNo_any (p : Value) (h : Hd) (A : Option Addr) (n c : Nat) (w : World) (hp : IsNone p w) :
    Calls Try.prog 15 #[p, stV h A n c] w fun e w' => e = .returned (.tuple #[]) ∧ Below w.heap.size w w' := by
  have HB : Hid (Below w.heap.size w (w.alloc (.cells #[.int .u16 h.age, .int .u8 h.opts, .int .u8 h.typ, .int .u32 h.id, .int .u32 h.adv, .int .i32 h.seq, .int .u16 h.sum, .int .u16 h.len, .slice A n c] 44))) := (Below.refl _ _).alloc (Nat.le_refl _) _
  have HP := Lib.hid hp
  clear hp
  go_enter Try.func15, Try.ntmps15
  go_wp2_with (go_at_call 36; refine (HP.out _ HB.out).mono ?_; rintro e w' ⟨rfl, rfl⟩)
  refine bodyPost_ret (v := .tuple #[]) (by kernel_rfl) rfl ?_
  exact ⟨rfl, HB.out⟩
theorem clearNo_any (p : Value) (w : World) (hp : IsNone p w) :
    Calls Try.prog 19 #[p] w fun e w' => e = .returned (.tuple #[]) ∧ w = w' := by
  have HP := Lib.hid hp
  clear hp
  go_enter Try.func19, Try.ntmps19
  go_wp2_with (go_at_call 36; refine (HP.out _ (Below.refl _ _)).mono ?_; rintro e w' ⟨rfl, rfl⟩)
  go_end0
  exact ⟨rfl, rfl⟩
theorem confirmNo_any (p : Value) (h : Hd) (w : World) (hp : IsNone p w) :
    Calls Try.prog 17 #[p, h.v] w fun e w' => e = .returned (.bool false) ∧ Below w.heap.size w w' := by
  have HB : Hid (Below w.heap.size w (w.alloc (.cells #[.int .u16 h.age, .int .u8 h.opts, .int .u8 h.typ, .int .u32 h.id, .int .u32 h.adv, .int .i32 h.seq, .int .u16 h.sum, .int .u16 h.len] 25))) := (Below.refl _ _).alloc (Nat.le_refl _) _
  have HP := Lib.hid hp
  clear hp
  go_enter Try.func17, Try.ntmps17
  go_wp2_with (go_at_call 36; refine (HP.out _ HB.out).mono ?_; rintro e w' ⟨rfl, rfl⟩)
  go_ret
  exact ⟨rfl, HB.out⟩
theorem dropNo_any (p : Value) (k : Int × Int × Int) (w : World) (hp : IsNone p w) :
    Calls Try.prog 20 #[p, keyV k] w fun e w' => e = .returned (.bool false) ∧ Below w.heap.size w w' := by
  have HB : Hid (Below w.heap.size w (w.alloc (.cells #[.int .u8 k.1, .int .u32 k.2.1, .int .u32 k.2.2] 46))) := (Below.refl _ _).alloc (Nat.le_refl _) _
  have HP := Lib.hid hp
  clear hp
  go_enter Try.func20, Try.ntmps20
  go_wp2_with (go_at_call 36; refine (HP.out _ HB.out).mono ?_; rintro e w' ⟨rfl, rfl⟩)
  go_ret
  exact ⟨rfl, HB.out⟩
theorem tickNo_any (p : Value) (w : World) (hp : IsNone p w) :
    Calls Try.prog 18 #[p] w fun e w' => e = .returned (.slice none 0 0) ∧ w = w' := by
  have HP := Lib.hid hp
  clear hp
  go_enter Try.func18, Try.ntmps18
  go_wp2_with (go_at_call 36; refine (HP.out _ (Below.refl _ _)).mono ?_; rintro e w' ⟨rfl, rfl⟩)
  go_ret
  exact ⟨rfl, rfl⟩
theorem allNo_any (p : Value) (w : World) (hp : IsNone p w) :
    Calls Try.prog 21 #[p] w fun e w' => e = .returned (.slice none 0 0) ∧ w = w' := by
  have HP := Lib.hid hp
  clear hp
  go_enter Try.func21, Try.ntmps21
  go_wp2_with (go_at_call 36; refine (HP.out _ (Below.refl _ _)).mono ?_; rintro e w' ⟨rfl, rfl⟩)
  go_ret
  exact ⟨rfl, rfl⟩
theorem lenNo_any (p : Value) (w : World) (hp : IsNone p w) :
    Calls Try.prog 22 #[p] w fun e w' => e = .returned (.int .i64 0) ∧ w = w' := by
  have HP := Lib.hid hp
  clear hp
  go_enter Try.func22, Try.ntmps22
  go_wp2_with (go_at_call 36; refine (HP.out _ (Below.refl _ _)).mono ?_; rintro e w' ⟨rfl, rfl⟩)
  go_ret
  exact ⟨rfl, rfl⟩
theorem ref14Key_any (h : Hd) (w : World) : Calls Try.prog 14 #[h.v] w fun e w' => e = .returned (keyV h.key) ∧ Below w.heap.size w w' := by
  go_enter Try.func14, Try.ntmps14
  go_wp2
  exact bodyPost_ret (results_cell_row rfl _ _ (w.heap.size + 1) 46 #[.int .u8 h.typ, .int .u32 h.id, .int .u32 h.adv] (0, 0) _ rfl (new_at _ _ _) Try.underlying46 rfl info_key) rfl ⟨rfl, below_two _ _ _⟩
end Go.Proofs.Ytjkmehpokdaonaa
