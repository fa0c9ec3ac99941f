/-
  lodestarref01.Four, walked: the bytes of a number, the greatest first.
-/
import Derived.Test.YtlnkjmjddecjdaaDoorRefA
import Derived.Test.YtlnkjmjddecjdaaDoorKept
import Derived.Test.YtlnkjmjddecjdaaDoorRgn
import Derived.Test.YtlnkjmjddecjdaaDoorBits
namespace Go.Proofs.YtlnkjmjddecjdaaDoor
set_option linter.unusedVariables false
open Go.RowKit

/-- The bytes of a number of N bytes. -/
def pb (v : Int) (N : Nat) : List Int := (List.range N).map fun j => v / 2 ^ (8 * (N - 1 - j)) % 256
theorem pb_length (v : Int) (N : Nat) : (pb v N).length = N := by simp [pb]
theorem pb_at (v : Int) {N j : Nat} (h : j < N) : (pb v N)[j]? = some (v / 2 ^ (8 * (N - 1 - j)) % 256) := by simp [pb, h]
theorem pb_oct (v : Int) (N : Nat) : Oct (pb v N) := Oct.of_mem fun x hx => by
  simp only [pb, List.mem_map] at hx
  obtain ⟨j, _, rfl⟩ := hx
  omega
theorem pb_take (v : Int) {N j : Nat} (h : j < N) : (pb v N).take (j + 1) = (pb v N).take j ++ [v / 2 ^ (8 * (N - 1 - j)) % 256] := by
  rw [List.take_add_one, pb_at v h]; rfl
theorem one_b8 (b : Int) : ∀ u ∈ [Value.int .u8 b], u.oneCell' = true := by intro u hu; simp at hu; subst hu; rfl

/-- What a call leaves that hands a row of bytes of its own. -/
def OwnB8 (w w' : World) (xs : List Int) (e : Ending) : Prop := ∃ u, e = .returned u ∧ w'.ownsRow w.heap.size 5 1 u xs.length (u8s xs) ∧ Below w.heap.size w w'
def F4 (w : World) (v : Int) (N : Nat) (lv iv : Value) (wr : World) : Prop :=
  ∃ (j : Nat) (A : Option Addr) (c : Nat), j ≤ N ∧ lv = .slice A j c ∧ iv = .int .i64 ((N : Int) - 1 - (j : Int)) ∧ Hid (wr.ownsRow w.heap.size 5 1 (.slice A j c) j (u8s ((pb v N).take j))) ∧ Hid (Below w.heap.size w wr)
set_option maxRecDepth 100000 in
set_option maxHeartbeats 4000000 in
theorem fourN_any (v : Int) (N : Nat) (w : World) (h0 : 0 ≤ v) (h1 : v ≤ 4294967295) (hN : N ≤ 4) :
    Calls Tryd.prog 27 #[.int .u32 v, .int .i64 N] w fun e w' => OwnB8 w w' (pb v N) e := by
  have wa : IntKind.i64.wrap ((N : Int) - 1) = (N : Int) - 1 := IntWalk.i64_in _ (by omega)
  go_enter Tryd.func27, Tryd.ntmps27
  go_wp2_with fail
  go_loopw [5, 6] (F4 w v N) (fun _ i _ => (intOf i + 1).toNat)
  case atStart => exact ⟨0, none, 0, by omega, rfl, by simp, Lib.hid (World.ownsRow_nil _ _ _ _), Lib.hid (Below.refl _ _)⟩
  case round =>
    obtain ⟨j, A, c, hj, rfl, rfl, hO, hB⟩ := hrel
    by_cases hlt : j < N
    · obtain ⟨wo, rfl⟩ : ∃ wo : World, wo = wr := ⟨_, rfl⟩
      obtain ⟨q, hq⟩ : ∃ q, q = 8 * (N - 1 - j) := ⟨_, rfl⟩
      have ht := pb_take v hlt
      rw [← hq] at ht
      have HT := Lib.hid ht
      clear ht
      obtain ⟨r, hr⟩ : ∃ r : Int, r = (N : Int) - 1 - j := ⟨_, rfl⟩
      have hq32 : (q : Int) ≤ 32 := by omega
      have hq0 : 0 ≤ (q : Int) := by omega
      have hr0 : 0 ≤ r := by omega
      have hwC : IntKind.i64.wrap (8 * r) = (q : Int) := by rw [IntWalk.i64_in _ (by omega)]; omega
      have hwD : IntKind.i64.wrap (r - 1) = r - 1 := IntWalk.i64_in _ (by omega)
      have HE : Hid ((N : Int) - 1 - ((j + 1 : Nat) : Int) = r - 1) := by show _ = _; omega
      have HM : Hid (0 ≤ r) := hr0
      have hr' := hr.symm
      rw [hr']
      clear hq hr hr' wa
      have HOa := Lib.hid (hO.out.alloc (.cells #[.int .u8 (v / 2 ^ q % 256)] 5))
      have HBa : Hid (w.heap.size ≤ (wo.alloc (.cells #[.int .u8 (v / 2 ^ q % 256)] 5)).heap.size) := by show _ ≤ _; rw [World.size_alloc]; have := hB.out.size; omega
      go_wp2_with (at_builtin; refine wpList_app el_u8 rfl (.tmp 13) (.tmp 19) rfl HOa.out rfl (Reads.one_new wo (.int .u8 (v / 2 ^ q % 256)) 5) rfl (one_b8 _) (by simp only [maxLen]; omega) (by omega) HBa.out ?_; intro v1 w1 ho1 hb1 hg1 hat1; have hsh := own_shape ho1; obtain ⟨A1, k1, hv1, _, _, _⟩ := hsh; subst hv1; have HO1 := Lib.hid ho1; have HB1 := Lib.hid ((hB.out.alloc hB.out.size (.cells #[.int .u8 (v / 2 ^ q % 256)] 5)).trans hb1); clear ho1 hb1 hg1 hat1)
      go_roundw
      case rel =>
        refine ⟨j + 1, A1, k1, by omega, rfl, by rw [HE.out], Lib.hid ?_, HB1⟩
        rw [HT.out, u8s_append]
        exact HO1.out
      case measure => have := HM.out; simp [intOf]; omega
    · obtain rfl : j = N := by omega
      have hlt' : ¬ (0 : Int) ≤ (j : Int) - 1 - j := by omega
      go_wp2_with fail
      go_ret
      refine ⟨_, rfl, ?_, hB.out⟩
      have := hO.out
      rw [List.take_of_length_le (by rw [pb_length]; exact Nat.le_refl _)] at this
      rw [pb_length]
      exact this
end Go.Proofs.YtlnkjmjddecjdaaDoor
