/-
  More plain words on rows of bytes.
-/
import Derived.Test.YtpncbggjngamgaaBase
namespace Go.Proofs.Ytpncbggjngamgaa
set_option linter.unusedVariables false
open Go.RowKit

theorem u8s_set (l : List Int) (i : Nat) (v : Int) : (u8s l).set i (.int .u8 v) = u8s (l.set i v) := by
  simp [u8s, List.map_set]
/-- A store of a byte into a row of bytes. -/
theorem Row.u8set {w : World} {g cap : Nat} {t : TypeId} {l : List Int} (h : Row w g t cap (u8s l)) (i : Nat) (v : Int) : Row (w.setCell ⟨g, i, none⟩ (.int .u8 v)) g t cap (u8s (l.set i v)) := by
  have := h.set_ i (.int .u8 v)
  rwa [u8s_set] at this
theorem Row.u8cell {w : World} {g cap : Nat} {t : TypeId} {l : List Int} (h : Row w g t cap (u8s l)) {i : Nat} (hi : i < l.length) : ∃ x, Hid (l[i]? = some x) ∧ w.cell? ⟨g, i, none⟩ = some (.int .u8 x) :=
  ⟨l[i], List.getElem?_eq_getElem hi, h.cell (u8s_get_of (List.getElem?_eq_getElem hi))⟩
theorem Row.u8reads {w : World} {g cap n : Nat} {t : TypeId} {l : List Int} (h : Row w g t cap (u8s l)) (hl : l.length = n) : Reads w w.heap.size 1 (some ⟨g, 0, none⟩) n (u8s l) :=
  h.reads (by rw [u8s_length]; exact hl)
theorem below_drew_left {w w' : World} (h : Below w.drew.heap.size w.drew w') : Below w.heap.size w w' := ⟨h.os, h.tape, h.output, h.size, h.block⟩
/-- A quiet call behind a quiet region (the world is 'w.drewN a' there). -/
theorem quiet_add {P : Program} {f : FuncId} {args : Array Value} {w : World} {a n : Nat} {v : Value}
    (h : Calls P f args (w.drewN (a + n)) fun e w' => e = .returned v ∧ ∃ m, w' = (w.drewN (a + n)).drewN m) :
    Calls P f args (w.drewN (a + n)) fun e w'' => e = .returned v ∧ ∃ m, w'' = w.drewN (a + m) :=
  h.mono fun _ _ ⟨he, m, hm⟩ => ⟨he, n + m, by rw [hm, World.drewN_drewN, Nat.add_assoc]⟩
theorem quiet_add_same {P : Program} {f : FuncId} {args : Array Value} {w : World} {a n : Nat} {v : Value}
    (h : Calls P f args (w.drewN (a + n)) fun e w' => e = .returned v ∧ w' = w.drewN (a + n)) :
    Calls P f args (w.drewN (a + n)) fun e w'' => e = .returned v ∧ ∃ m, w'' = w.drewN (a + m) :=
  h.mono fun _ _ ⟨he, hm⟩ => ⟨he, n, hm⟩
theorem Blk.setRow {w : World} {g : Nat} {t : TypeId} {cs : Array Value} (h : Blk w g t cs) (cs' : Array Value) : Blk (w.setRow g cs') g t cs' := by
  unfold Blk at h ⊢
  simp [World.setRow, Array.getElem?_modify, h]
theorem below_setRow {B : Nat} {a w : World} (h : Below B a w) {g : Nat} (hg : B ≤ g) (cs : Array Value) : Below B a (w.setRow g cs) :=
  h.trans ⟨rfl, rfl, rfl, by simp [World.setRow], fun k hk => by
    simp only [World.setRow, Array.getElem?_modify]
    rw [if_neg (by omega)]⟩
theorem run_makeN {P : Program} {t e : TypeId} {z : Value} {bytes : Nat} (ht : P.underlying t = some (.slice e)) (hi : (P.info? e).map (fun i => (i.zero, i.size, i.bytes)) = some (some z, 1, bytes)) (hz : z.cells = #[z])
    (kl kc : IntKind) (n c : Nat) (hnc : n ≤ c) (hbytes : bytes * c ≤ 281474976710656) (h63 : c ≤ 9223372036854775807) (w : World) :
    (Instr.makeSlice t (.int kl (n : Int)) (.int kc (c : Int))).run P w = .ok (.slice (some ⟨w.heap.size, 0, none⟩) n c) (w.alloc (.cells (madeCells #[z] c) e)) := by
  obtain ⟨i, hi, hzz⟩ := Option.map_eq_some_iff.1 hi
  simp only [Prod.mk.injEq] at hzz
  obtain ⟨hz1, hs, hb⟩ := hzz
  have hb' : (i.bytes : Int) * (c : Int) ≤ 281474976710656 := by
    have h : ((i.bytes * c : Nat) : Int) ≤ 281474976710656 := by rw [hb]; omega
    rwa [Int.natCast_mul] at h
  have hr := run_make (P := P) w t e i z ht hi hz1 kl kc n c (by omega) (by omega) hb' (by omega)
  simp only [Int.toNat_natCast, hs, Nat.mul_one, hz] at hr
  exact hr
theorem madeCells_size (z : Value) (c : Nat) : (madeCells #[z] c).size = c := by simp [madeCells]
theorem only_setRow (w : World) (g : Nat) (cs : Array Value) : w.grownBy (w.setRow g cs) (some g) :=
  ⟨rfl, rfl, rfl, by simp [World.setRow], fun i _ hne => by
    simp only [World.setRow, Array.getElem?_modify]
    rw [if_neg (fun e => hne (by rw [e]))]⟩
theorem Blk.setRow_far {w : World} {g g' : Nat} {t : TypeId} {cs : Array Value} (h : Blk w g t cs) (hne : g ≠ g') (cs' : Array Value) : Blk (w.setRow g' cs') g t cs := by
  unfold Blk at h ⊢
  simp only [World.setRow, Array.getElem?_modify]
  rw [if_neg (by omega)]
  exact h
theorem Row.setRow_far {w : World} {g g' cap : Nat} {t : TypeId} {xs : List Value} (h : Row w g t cap xs) (hne : g ≠ g') (cs' : Array Value) : Row (w.setRow g' cs') g t cap xs := by
  obtain ⟨hl, cur, hk, r⟩ := h
  exact ⟨hl, cur, hk.setRow_far hne cs', r⟩
theorem row_of_own {w : World} {base n g cap : Nat} {t : TypeId} {xs : List Value} (h : w.ownsRow base t 1 (.slice (some ⟨g, 0, none⟩) n cap) n xs) : Row w g t cap xs ∧ base ≤ g ∧ n ≤ cap ∧ cap ≤ 9223372036854775807 := by
  obtain ⟨hl, h⟩ := h
  rcases h with ⟨hv, _⟩ | ⟨g', cap', cur, hv, hg, hb, hnc, hm, hs, ht⟩
  · cases hv
  · injection hv with h1 _ h3
    injection h1 with h1
    injection h1 with h1
    subst h1 h3
    unfold maxLen at hm
    exact ⟨⟨by omega, cur, hb, by omega, by rw [hl]; exact ht⟩, hg, hnc, hm⟩
/-- A slice's length in a slot: for a loop's measure (a 'match' in place is split by the walk). -/
def lenOf : Value → Nat | .slice _ n _ => n | _ => 0
end Go.Proofs.Ytpncbggjngamgaa
