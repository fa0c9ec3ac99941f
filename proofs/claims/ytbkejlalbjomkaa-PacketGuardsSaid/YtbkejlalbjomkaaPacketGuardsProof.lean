/-
  PacketGuards: for every input the law returns true, and each argument reads afterwards as before. No condition beside.
-/
import Derived.Test.YtbkejlalbjomkaaRows
import Derived.Test.YtbkejlalbjomkaaPk30
import Derived.WalkKit
import Derived.ProofKit
import Derived.OpenShut
import Derived.ShutString
import Derived.ChangeOld
import Derived.Below
import Derived.SizedLaws
namespace Go.Proofs.Ytbkejlalbjomkaa.packetGuards
open Go.ChangeShapes Go.WideShapes Go.ChangeAt Go.RowKit
set_option linter.unusedVariables false

theorem own : ownKnob Try.prog.godebug = none := by kernel_rfl
theorem laidOut : laidOutB Try.prog = true := by kernel_rfl

set_option maxRecDepth 100000 in
theorem walk {H : Type} {enc : TypeId × Value → H} (v0 v1 v2 v3 v4 v5 : Value) {d0 d1 d2 d3 d4 d5 : DataW H} {p0 p1 p2 p3 p4 p5 : List MemPlace} (w : World)
    (h0 : Value.okWide Try.prog w .any 0 33 v0) (k0 : DataW.Trod enc Try.prog w 0 (fun _ => true) true 33 v0 d0 p0)
    (h1 : Value.okWide Try.prog w .any 0 36 v1) (k1 : DataW.Trod enc Try.prog w 0 (fun _ => true) true 36 v1 d1 p1)
    (h2 : Value.okWide Try.prog w .any 0 3 v2) (k2 : DataW.Trod enc Try.prog w 0 (fun _ => true) true 3 v2 d2 p2)
    (h3 : Value.okWide Try.prog w .any 0 5 v3) (k3 : DataW.Trod enc Try.prog w 0 (fun _ => true) true 5 v3 d3 p3)
    (h4 : Value.okWide Try.prog w .any 0 5 v4) (k4 : DataW.Trod enc Try.prog w 0 (fun _ => true) true 5 v4 d4 p4)
    (h5 : Value.okWide Try.prog w .any 0 34 v5) (k5 : DataW.Trod enc Try.prog w 0 (fun _ => true) true 34 v5 d5 p5)
    (z0 : ∀ N ∈ d0.weights Try.prog 33, N ≤ reachBytes)
    (z1 : ∀ N ∈ d1.weights Try.prog 36, N ≤ reachBytes)
    (z2 : ∀ N ∈ d2.weights Try.prog 3, N ≤ reachBytes)
    (z3 : ∀ N ∈ d3.weights Try.prog 5, N ≤ reachBytes)
    (z4 : ∀ N ∈ d4.weights Try.prog 5, N ≤ reachBytes)
    (z5 : ∀ N ∈ d5.weights Try.prog 34, N ≤ reachBytes)
    : Calls Try.prog 5 #[v0, v1, v2, v3, v4, v5] w fun e w' => e = .returned (.bool true) ∧ Below w.heap.size w w' := by
  obtain ⟨p, rfl, hp, hf⟩ := packet_arg h0 k0
  obtain ⟨a, rfl, ha⟩ := auth_arg h1 k1
  obtain ⟨i, rfl, i0, i1⟩ := i64_arg h2 k2
  obtain ⟨x, rfl, x0, x1⟩ := u8_arg h3 k3
  obtain ⟨y, rfl, y0, y1⟩ := u8_arg h4 k4
  obtain ⟨l, rfl, hl, hD⟩ := arr8_arg h5 k5
  obtain ⟨q0, q1, q2, q3, q4, q5, q6, q7, rfl⟩ := take8_of hl
  exact guards_walk p a i x y q0 q1 q2 q3 q4 q5 q6 q7 w hp (hf z0) ha ⟨x0, x1⟩ ⟨y0, y1⟩ ⟨i0, i1⟩ hD

set_option maxRecDepth 100000 in
theorem lifted (os : Os) (started : os.Started) (H : Type) (enc : TypeId × Value → H) :
    ReturnsInHanded {} Try.checked os 5 .any (Rows.packetGuardsSpec.pre6 enc Try.prog Try.f5 Rows.packetGuardsRow.domain false) (Rows.packetGuardsSpec.post enc Try.prog Try.f5 false true false false) := by
  refine returnsInHanded_of_change_sized (C := Try.checked) own started (by kernel_rfl) Try.func5
    (ChangeSpec.witness6 (enc := enc) (C := Try.checked) false ⟨#[], #[.agg #[.int .u8 0, .int .u32 0, .int .u32 0, .int .u32 0, .int .u16 0, .int .u8 0, .int .u8 0, .int .u32 0, .int .u32 0, .int .u32 0, .slice none 0 0, .int .u16 0, .int .u8 0, .int .u8 0, .int .u32 0, .slice none 0 0, .slice none 0 0, .slice none 0 0, .slice none 0 0], .agg #[.int .u16 0, .int .u8 0, .int .u8 0, .int .u8 0, .int .u8 0, .int .u8 0, .int .u8 0, .int .u8 0, .int .u8 0], .int .i64 0, .int .u8 0, .int .u8 0, .agg #[.int .u8 0, .int .u8 0, .int .u8 0, .int .u8 0, .int .u8 0, .int .u8 0, .int .u8 0, .int .u8 0]], []⟩ 8 (by kernel_rfl) (by kernel_rfl) (by kernel_rfl) (by kernel_rfl)) ?_
  intro W base args ds gs before hval0 hW hcnd hsz _
  have hval : ∀ (j : Nat) t v, Try.f5.params[j]? = some t → args[j]? = some v → Value.okWide Try.prog W .any base t v := hval0
  have hW' := hW
  obtain ⟨p, q, hA0, hV, rfl, hfz, hnd⟩ := hW
  have hA : DataW.TrodAll enc Try.prog W 0 (fun _ => true) true Try.f5.params.toList args.toList ds p := hA0
  rw [Try.params5] at hA hval
  obtain ⟨v0, vs0, d0, ds0, p0, q0, hargs, rfl, rfl, h0, r0⟩ := trodAll_cons hA
  obtain ⟨v1, vs1, d1, ds1, p1, q1, rfl, rfl, rfl, h1, r1⟩ := trodAll_cons r0
  obtain ⟨v2, vs2, d2, ds2, p2, q2, rfl, rfl, rfl, h2, r2⟩ := trodAll_cons r1
  obtain ⟨v3, vs3, d3, ds3, p3, q3, rfl, rfl, rfl, h3, r3⟩ := trodAll_cons r2
  obtain ⟨v4, vs4, d4, ds4, p4, q4, rfl, rfl, rfl, h4, r4⟩ := trodAll_cons r3
  obtain ⟨v5, vs5, d5, ds5, p5, q5, rfl, rfl, rfl, h5, r5⟩ := trodAll_cons r4
  obtain ⟨rfl, rfl, rfl⟩ := trodAll_nil r5
  obtain rfl : args = #[v0, v1, v2, v3, v4, v5] := by cases args; simp_all
  obtain ⟨rfl, rfl⟩ := trodVars_none hV
  have lt0 : ∀ x ∈ p0, x.block < W.heap.size := by obtain ⟨m, hm⟩ := h0; exact DataW.trod_lt m _ _ _ hm
  have lt1 : ∀ x ∈ p1, x.block < W.heap.size := by obtain ⟨m, hm⟩ := h1; exact DataW.trod_lt m _ _ _ hm
  have lt2 : ∀ x ∈ p2, x.block < W.heap.size := by obtain ⟨m, hm⟩ := h2; exact DataW.trod_lt m _ _ _ hm
  have lt3 : ∀ x ∈ p3, x.block < W.heap.size := by obtain ⟨m, hm⟩ := h3; exact DataW.trod_lt m _ _ _ hm
  have lt4 : ∀ x ∈ p4, x.block < W.heap.size := by obtain ⟨m, hm⟩ := h4; exact DataW.trod_lt m _ _ _ hm
  have lt5 : ∀ x ∈ p5, x.block < W.heap.size := by obtain ⟨m, hm⟩ := h5; exact DataW.trod_lt m _ _ _ hm
  clear hA0 hval0
  have hz := List.all_eq_true.1 hsz
  have z0 : ∀ N ∈ d0.weights Try.prog 33, N ≤ reachBytes := fun N hN => by simpa using hz N (DataW.weights_mem_each (j := 0) (t := 33) (d := d0) rfl rfl N hN)
  have z1 : ∀ N ∈ d1.weights Try.prog 36, N ≤ reachBytes := fun N hN => by simpa using hz N (DataW.weights_mem_each (j := 1) (t := 36) (d := d1) rfl rfl N hN)
  have z2 : ∀ N ∈ d2.weights Try.prog 3, N ≤ reachBytes := fun N hN => by simpa using hz N (DataW.weights_mem_each (j := 2) (t := 3) (d := d2) rfl rfl N hN)
  have z3 : ∀ N ∈ d3.weights Try.prog 5, N ≤ reachBytes := fun N hN => by simpa using hz N (DataW.weights_mem_each (j := 3) (t := 5) (d := d3) rfl rfl N hN)
  have z4 : ∀ N ∈ d4.weights Try.prog 5, N ≤ reachBytes := fun N hN => by simpa using hz N (DataW.weights_mem_each (j := 4) (t := 5) (d := d4) rfl rfl N hN)
  have z5 : ∀ N ∈ d5.weights Try.prog 34, N ≤ reachBytes := fun N hN => by simpa using hz N (DataW.weights_mem_each (j := 5) (t := 34) (d := d5) rfl rfl N hN)
  refine (walk v0 v1 v2 v3 v4 v5 W (hval 0 33 v0 rfl rfl) h0 (hval 1 36 v1 rfl rfl) h1 (hval 2 3 v2 rfl rfl) h2 (hval 3 5 v3 rfl rfl) h3 (hval 4 5 v4 rfl rfl) h4 (hval 5 34 v5 rfl rfl) h5 z0 z1 z2 z3 z4 z5).mono fun e W' ⟨he, bel⟩ => ?_
  subst he
  exact ⟨_, rfl, _, _, _, [], _, [], hW', trodAll_mk1 (shut_bool Try.underlying4 _), (trodAll_cons_mk (Below.trod laidOut (by kernel_rfl) (of_decide_eq_true (by kernel_rfl)) h0 bel lt0) (trodAll_cons_mk (Below.trod laidOut (by kernel_rfl) (of_decide_eq_true (by kernel_rfl)) h1 bel lt1) (trodAll_cons_mk (Below.trod laidOut (by kernel_rfl) (of_decide_eq_true (by kernel_rfl)) h2 bel lt2) (trodAll_cons_mk (Below.trod laidOut (by kernel_rfl) (of_decide_eq_true (by kernel_rfl)) h3 bel lt3) (trodAll_cons_mk (Below.trod laidOut (by kernel_rfl) (of_decide_eq_true (by kernel_rfl)) h4 bel lt4) (trodAll_cons_mk (Below.trod laidOut (by kernel_rfl) (of_decide_eq_true (by kernel_rfl)) h5 bel lt5) trodAll_mk0)))))), rfl, bel.frame _, fun h => by cases h⟩

theorem over : Rows.packetGuardsRow.holds Try.pinned (OpenSpec.ofChange Rows.packetGuardsSpec) :=
  OpenClaim.holds_of_wide 5 Try.f5 rfl rfl rfl rfl rfl rfl rfl ⟨rfl, rfl, rfl, rfl, rfl⟩ rfl rfl rfl rfl rfl (by kernel_rfl) Try.func5 (by kernel_rfl)
    (of_decide_eq_true (by kernel_rfl)) (by unfold Func.isWrapper; first | (rw [if_pos (by decide +kernel)]; kernel_rfl) | (rw [if_neg (by decide +kernel)]; exact ⟨rfl, rfl⟩))
    (fun os started H enc _ => lifted os started H enc)

theorem proved : Rows.PacketGuardsSaid := over
end Go.Proofs.Ytbkejlalbjomkaa.packetGuards
