/-
  may: which bodies may be.
-/
import Derived.Test.YtljedcfpbdompaaDoorSta8
import Derived.Test.YtljedcfpbdompaaDoorPfxB
namespace Go.Proofs.YtljedcfpbdompaaDoor
set_option linter.unusedVariables false
open Go.RowKit Go.ChangeShapes Go.WideShapes

theorem info_body : (Tryd.prog.info? 67).map (·.size) = some 9 := by kernel_rfl
theorem info_link : (Tryd.prog.info? 111).map (·.size) = some 4 := by kernel_rfl
theorem bits_int (x : Int) (w : World) (h0 : 0 ≤ x) (h1 : x ≤ 4294967295) : Calls Tryd.prog 57 #[.int .u32 x] w fun e w' => e = .returned (.tuple #[.int .u8 (bitsN x.toNat).1, .bool (bitsN x.toNat).2]) ∧ w = w' := by
  have := bits_any x.toNat w (by omega)
  rwa [show ((x.toNat : Nat) : Int) = x by omega] at this
/-- The fields that another type has are nought. -/
def aloneB (t : Int) (b : BA) : Bool :=
  (t == 1 || b.flags == 0) && (((if t = 1 then (0 : Int) else (b.ln : Int)) + (if t = 2 then (0 : Int) else (b.rn : Int)) + (if 9 ≤ t then (0 : Int) else (b.dn : Int))) == 0) && (t == 2 || t == 3 || t == 5 || t == 7 || b.mask == 0) && (t == 3 || t == 4 || t == 5 || t == 7 || b.metric == 0) && (t == 5 || t == 7 || !b.t2) && (t == 5 || t == 7 || b.fwd == 0) && (t == 5 || t == 7 || b.tag == 0)
def restB (t : Int) (b : BA) : Bool := (bitsN b.mask.toNat).2 && decide (b.metric ≤ 16777215) && ((b.dn : Int) % 4 == 0) && !(t == 2 && (b.rn : Int) == 0)
def lksB (b : BA) : Bool := b.links.all fun x => decide (1 ≤ x.typ) && decide (x.typ ≤ 4)
def mayB (t : Int) (b : BA) : Bool := aloneB t b && restB t b && lksB b
def MayP (w : World) (q : Bool) (e : Ending) (w' : World) : Prop := e = (if q then .returned (.tuple #[]) else thrown 28) ∧ Below w.heap.size w w'
theorem may_q {t : Int} {b : BA} (h : mayB t b = true) : (bitsN b.mask.toNat).2 = true := by
  unfold mayB restB at h
  simp only [Bool.and_eq_true] at h
  exact h.1.2.1.1.1
/-- The loop over the links. -/
structure MyI (w : World) (R : List Lk) (i : Value) (wr : World) : Prop where
  ex : ∃ k : Nat, i = .int .i64 k ∧ k ≤ R.length ∧ Hid (∀ x ∈ R.take k, 1 ≤ x.typ ∧ x.typ ≤ 4)
  below : Hid (Below w.heap.size w wr)
theorem lks_yes {b : BA} (h : ∀ x ∈ b.links.take b.ln, 1 ≤ x.typ ∧ x.typ ≤ 4) (hl : b.links.length = b.ln) : lksB b = true := by
  unfold lksB
  rw [List.take_of_length_le (by omega)] at h
  rw [List.all_eq_true]
  intro x hx
  have := h x hx
  simp [this]
theorem lks_no {b : BA} {k : Nat} {x : Lk} (hx : b.links[k]? = some x) (h : ¬ (1 ≤ x.typ ∧ x.typ ≤ 4)) : lksB b = false := by
  unfold lksB
  rw [Bool.eq_false_iff]
  intro hh
  rw [List.all_eq_true] at hh
  have := hh x (List.mem_of_getElem? hx)
  simp at this
  exact h this
end Go.Proofs.YtljedcfpbdompaaDoor
