/-
  prefix.Mask, Make, Check, Has, walked.
-/
import Derived.Test.YtljmmpjcagchmaaDoorBase2
import Derived.Test.YtljmmpjcagchmaaDoorRgn
import Derived.Test.YtljmmpjcagchmaaDoorRgn2
import Derived.Test.YtljmmpjcagchmaaDoorKept
import Derived.Test.YtljmmpjcagchmaaDoorPfxMath
namespace Go.Proofs.YtljmmpjcagchmaaDoor
set_option linter.unusedVariables false
open Go.RowKit

/-- A prefix, as plain data. -/
structure Pf where
  a : Nat
  n : Nat
deriving DecidableEq
@[reducible] def Pf.v (p : Pf) : Value := .agg #[.int .u32 p.a, .int .u8 p.n]
structure Pf.ok (p : Pf) : Prop where
  a : p.a < 4294967296
  n : p.n < 256

theorem maskN_int {n : Nat} (h : n ≤ 32) : (4294967295 * 2 ^ (32 - n) % 4294967296 : Int) = maskN n := by
  rw [maskN_of h]
  have hp : 0 < 2 ^ (32 - n) := Nat.two_pow_pos _
  have hl := pow_le32 (k := 32 - n) (by omega)
  have : ((2 ^ (32 - n) : Nat) : Int) = 2 ^ (32 - n) := by norm_cast
  rw [← this]
  generalize 2 ^ (32 - n) = D at *
  omega
/-- A struct and a plain value come back. -/
theorem results_cell_row_tmp {P : Program} {fn : Func} {p u : Tmp} {ty : TypeId} (h : fn.results = #[.cell p ty, .tmp u]) (tmps : Array Value) (w : World) (g : Nat) (t : TypeId) (cs : Array Value) (fr : Nat × Nat) (d : TypeDesc)
    (hp : tmps.getD p undef = .pointer (some ⟨g, 0, none⟩)) (hg : w.heap[g]? = some (.cells cs t fr))
    (hu : P.underlying ty = some d) (hd : (match d with | .struct _ | .array _ _ => true | _ => false) = true) (hi : (P.info? ty).map (·.size) = some cs.size) :
    (results fn tmps).run P w = .ok (.tuple #[.agg cs, tmps.getD u undef]) w := by
  have hp' : tmps[p]?.getD undef = .pointer (some ⟨g, 0, none⟩) := by simpa using hp
  simp [results, h, hp', asAddr, run_loadVar_row w g t ty cs fr d hg hu hd hi]
theorem infoP : (Tryd.prog.info? 31).map (·.size) = some 2 := by kernel_rfl
theorem u32_and_nat (a b : Nat) (ha : a < 4294967296) (hb : b < 4294967296) : bits .and .u32 (a : Int) (b : Int) = ((a &&& b : Nat) : Int) := by
  rw [u32_and _ _ (by omega) (by omega) (by omega) (by omega), Int.toNat_natCast, Int.toNat_natCast]
/-- What Make answers. -/
def mk (a n : Nat) : Pf × Int := if 32 < n then (⟨0, 0⟩, 12) else (⟨a &&& maskN n, n⟩, 0)

set_option maxHeartbeats 1000000 in
theorem mask_any (n : Nat) (w : World) (hn : n < 256) : Calls Tryd.prog 26 #[.int .u8 n] w fun e w' => e = .returned (.int .u32 (maskN n)) ∧ w = w' := by
  by_cases h : 32 < n
  · have hm : Hid (maskN n = 0) := by show _ = _; unfold maskN; rw [if_pos h]
    go_enter Tryd.func26, Tryd.ntmps26
    go_wp2
    go_ret
    exact ⟨by rw [hm.out]; rfl, rfl⟩
  · go_enter Tryd.func26, Tryd.ntmps26
    go_wp2
    go_ret
    exact ⟨by rw [← maskN_int (by omega)]; rfl, rfl⟩

set_option maxRecDepth 100000 in
set_option maxHeartbeats 1000000 in
theorem make_any (a n : Nat) (w : World) (ha : a < 4294967296) (hn : n < 256) :
    Calls Tryd.prog 22 #[.int .u32 a, .int .u8 n] w fun e w' => e = .returned (.tuple #[(mk a n).1.v, .int .i64 (mk a n).2]) ∧ Below w.heap.size w w' := by
  have HM := Lib.hid (fun W => mask_any n W hn)
  have hlt : (maskN n) < 4294967296 := maskN_lt n
  by_cases h : 32 < n
  · have hm : Hid (mk a n = (⟨0, 0⟩, 12)) := by show _ = _; unfold mk; rw [if_pos h]
    clear hlt HM
    go_enter Tryd.func22, Tryd.ntmps22
    go_wp2
    refine bodyPost_ret (results_cell_row_tmp rfl _ _ w.heap.size 31 #[.int .u32 0, .int .u8 0] (0, 0) _ rfl (heap_alloc_new w (.cells #[.int .u32 0, .int .u8 0] 31)) Tryd.underlying31 rfl infoP) rfl ⟨by rw [hm.out]; rfl, (Below.refl _ _).alloc (Nat.le_refl _) _⟩
  · have hm : Hid (mk a n = (⟨a &&& maskN n, n⟩, 0)) := by show _ = _; unfold mk; rw [if_neg h]
    generalize maskN n = M at *
    have hb := u32_and_nat a M ha hlt
    go_enter Tryd.func22, Tryd.ntmps22
    go_wp2_with (go_at_call 26; refine (HM.out _).mono ?_; rintro e w' ⟨rfl, rfl⟩)
    refine bodyPost_ret (results_cell_row_tmp rfl _ _ w.heap.size 31 #[.int .u32 (a &&& M : Nat), .int .u8 n] (0, 0) _ rfl (heap_alloc_new w (.cells #[.int .u32 (a &&& M : Nat), .int .u8 n] 31)) Tryd.underlying31 rfl infoP) rfl ⟨by rw [hm.out]; rfl, (Below.refl _ _).alloc (Nat.le_refl _) _⟩
/-- A struct of two that a walk has boxed, behind a call. -/
theorem kept2 {w w1 : World} {x y : Value} {t : TypeId} (hb : Below (w.alloc (.cells #[x, y] t)).heap.size (w.alloc (.cells #[x, y] t)) w1) :
    w1.cell? ⟨w.heap.size, 0, none⟩ = some x ∧ w1.cell? ⟨w.heap.size, 1, none⟩ = some y ∧ (∀ o, (w1.alloc o).cell? ⟨w.heap.size, 0, none⟩ = some x) ∧ (∀ o, (w1.alloc o).cell? ⟨w.heap.size, 1, none⟩ = some y) := by
  have hl : w.heap.size < (w.alloc (.cells #[x, y] t)).heap.size := by rw [World.size_alloc]; omega
  have h0 : Blk (w.alloc (.cells #[x, y] t)) w.heap.size t #[x, y] := Blk.new _ _ _
  have h1 := h0.below hb hl
  have hs := hb.size
  exact ⟨h1.cell 0, h1.cell 1, fun o => (h1.alloc o).cell 0, fun o => (h1.alloc o).cell 1⟩
theorem nat_beq (x y : Nat) : ((x : Int) == (y : Int)) = (x == y) := by rw [Bool.eq_iff_iff, beq_iff_eq, beq_iff_eq]; omega
theorem mk_err (a n : Nat) : (mk a n).2 = 0 ∨ (mk a n).2 = 12 := by unfold mk; split <;> simp
theorem mk_ok {a n : Nat} (ha : a < 4294967296) (hn : n < 256) : (mk a n).1.ok := by
  unfold mk
  split
  · exact ⟨by decide, by decide⟩
  · exact ⟨Nat.lt_of_le_of_lt Nat.and_le_left ha, hn⟩
theorem isP_mk {a n : Nat} (ha : a < 4294967296) : isP a n = ((mk a n).2 == 0 && ((mk a n).1.a == a && (mk a n).1.n == n)) := by
  unfold mk
  by_cases h : 32 < n
  · rw [if_pos h]
    unfold isP
    rw [decide_eq_false (by omega : ¬ n ≤ 32)]; rfl
  · rw [if_neg h]
    have hn : n ≤ 32 := by omega
    have e : (a &&& maskN n == a) = isP a n := by
      rw [Bool.eq_iff_iff, beq_iff_eq, and_mask ha hn]
      constructor
      · intro h1
        unfold isP
        simp only [hn, decide_true, Bool.true_and, decide_eq_true_eq]
        have := Nat.div_add_mod a (2 ^ (32 - n))
        have h2 : 2 ^ (32 - n) * (a / 2 ^ (32 - n)) = a := by rw [Nat.mul_comm]; exact h1
        omega
      · exact isP_mul
    simp [e]

/-- What Check answers. -/
def errP (z : Bool) : Int := if z then 0 else 12
set_option maxRecDepth 100000 in
set_option maxHeartbeats 1000000 in
theorem check_any (p : Pf) (w : World) (hp : p.ok) :
    Calls Tryd.prog 31 #[p.v] w fun e w' => e = .returned (.int .i64 (errP (isP p.a p.n))) ∧ Below w.heap.size w w' := by
  obtain ⟨a, n⟩ := p
  have HM := Lib.hid (fun W => make_any a n W hp.a hp.n)
  have hi : Hid (isP a n = ((mk a n).2 == 0 && ((mk a n).1.a == a && (mk a n).1.n == n))) := isP_mk hp.a
  have he := mk_err a n
  generalize mk a n = m at *
  obtain ⟨⟨b, k⟩, e⟩ := m
  simp only at *
  clear hp
  generalize isP a n = z at *
  show Calls Tryd.prog 31 #[.agg #[.int .u32 a, .int .u8 n]] w fun e w' => e = .returned (.int .i64 (errP z)) ∧ Below w.heap.size w w'
  rcases he with rfl | rfl
  · go_enter Tryd.func31, Tryd.ntmps31
    go_wp2_with (go_at_call 22; refine (HM.out _).mono ?_; rintro e w1 ⟨rfl, hb⟩; have hq := kept2 hb; obtain ⟨_, _, _, _⟩ := hq; have HB := Lib.hid hb; clear hb)
    all_goals
      go_ret
      refine ⟨?_, (below_lit (Below.refl _ _) _ HB.out).alloc (below_lit (Below.refl _ _) _ HB.out).size _⟩
      first
        | (rw [show z = true from by rw [hi.out]; simp; omega]; rfl)
        | (rw [show z = false from by rw [hi.out]; simp; omega]; rfl)
  · have hz : z = false := hi.out
    subst hz
    go_enter Tryd.func31, Tryd.ntmps31
    go_wp2_with (go_at_call 22; refine (HM.out _).mono ?_; rintro e w1 ⟨rfl, hb⟩; have hq := kept2 hb; obtain ⟨_, _, _, _⟩ := hq; have HB := Lib.hid hb; clear hb)
    go_ret
    exact ⟨rfl, (below_lit (Below.refl _ _) _ HB.out).alloc (below_lit (Below.refl _ _) _ HB.out).size _⟩
end Go.Proofs.YtljmmpjcagchmaaDoor
