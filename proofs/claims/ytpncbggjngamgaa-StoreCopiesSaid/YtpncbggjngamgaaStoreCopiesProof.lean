/-
  StoreCopies: for every input the law returns true, and each argument reads afterwards as before. No condition beside.
-/
import Derived.Test.YtpncbggjngamgaaRows
import Derived.Test.YtpncbggjngamgaaCA07
import Derived.Test.YtpncbggjngamgaaCA14
import Derived.WalkKit
import Derived.ProofKit
import Derived.OpenShut
import Derived.ShutString
import Derived.ChangeOld
import Derived.Below
import Derived.SizedLaws
namespace Go.Proofs.Ytpncbggjngamgaa.storeCopies
open Go.ChangeShapes Go.WideShapes Go.ChangeAt Go.RowKit
set_option linter.unusedVariables false

theorem own : ownKnob Try.prog.godebug = none := by kernel_rfl
theorem laidOut : laidOutB Try.prog = true := by kernel_rfl

set_option maxRecDepth 100000 in
theorem walk {H : Type} {enc : TypeId × Value → H} (v0 v1 v2 v3 : Value) {d0 d1 d2 d3 : DataW H} {p0 p1 p2 p3 : List MemPlace} (w : World)
    (h0 : Value.okWide Try.prog w .any 0 3 v0) (k0 : DataW.Trod enc Try.prog w 0 (fun _ => true) true 3 v0 d0 p0)
    (h1 : Value.okWide Try.prog w .any 0 22 v1) (k1 : DataW.Trod enc Try.prog w 0 (fun _ => true) true 22 v1 d1 p1)
    (h2 : Value.okWide Try.prog w .any 0 22 v2) (k2 : DataW.Trod enc Try.prog w 0 (fun _ => true) true 22 v2 d2 p2)
    (h3 : Value.okWide Try.prog w .any 0 3 v3) (k3 : DataW.Trod enc Try.prog w 0 (fun _ => true) true 3 v3 d3 p3)
    (z0 : ∀ N ∈ d0.weights Try.prog 3, N ≤ reachBytes)
    (z1 : ∀ N ∈ d1.weights Try.prog 22, N ≤ reachBytes)
    (z2 : ∀ N ∈ d2.weights Try.prog 22, N ≤ reachBytes)
    (z3 : ∀ N ∈ d3.weights Try.prog 3, N ≤ reachBytes)
    : Calls Try.prog 5 #[v0, v1, v2, v3] w fun e w' => e = .returned (.bool true) ∧ Below w.heap.size w w' := by
  obtain ⟨m, rfl, hm⟩ := i64_arg h0 k0
  obtain ⟨A, n, c, L, rfl, hL, hc1, hc2, hw⟩ := ops_arg h1 k1
  obtain ⟨A2, n2, c2, M, rfl, hM, hd1, hd2, hw2⟩ := ops_arg h2 k2
  obtain ⟨t, rfl, ht⟩ := i64_arg h3 k3
  exact copies_walk m A n c L A2 n2 c2 M t w hL (hw z1) ⟨hc1, hc2⟩ hM (hw2 z2) ⟨hd1, hd2⟩ ht.2

set_option maxRecDepth 100000 in
theorem lifted (os : Os) (started : os.Started) (H : Type) (enc : TypeId × Value → H) :
    ReturnsInHanded {} Try.checked os 5 .any (Rows.storeCopiesSpec.pre6 enc Try.prog Try.f5 Rows.storeCopiesRow.domain false) (Rows.storeCopiesSpec.post enc Try.prog Try.f5 false true false false) := by
  refine returnsInHanded_of_change_sized (C := Try.checked) own started (by kernel_rfl) Try.func5
    (ChangeSpec.witness6 (enc := enc) (C := Try.checked) false ⟨#[], #[.int .i64 0, .slice none 0 0, .slice none 0 0, .int .i64 0], []⟩ 8 (by kernel_rfl) (by kernel_rfl) (by kernel_rfl) (by kernel_rfl)) ?_
  intro W base args ds gs before hval0 hW hcnd hsz _
  have hval : ∀ (j : Nat) t v, Try.f5.params[j]? = some t → args[j]? = some v → Value.okWide Try.prog W .any base t v := hval0
  have hW' := hW
  obtain ⟨p, q, hA0, hV, rfl, hfz, hnd⟩ := hW
  have hA : DataW.TrodAll enc Try.prog W 0 (fun _ => true) true Try.f5.params.toList args.toList ds p := hA0
  rw [Try.params5] at hA hval
  obtain ⟨v0, vs0, d0, ds0, p0, q0, hargs, rfl, rfl, h0, r0⟩ := trodAll_cons hA
  obtain ⟨v1, vs1, d1, ds1, p1, q1, rfl, rfl, rfl, h1, r1⟩ := trodAll_cons r0
  obtain ⟨v2, vs2, d2, ds2, p2, q2, rfl, rfl, rfl, h2, r2⟩ := trodAll_cons r1
  obtain ⟨v3, vs3, d3, ds3, p3, q3, rfl, rfl, rfl, h3, r3⟩ := trodAll_cons r2
  obtain ⟨rfl, rfl, rfl⟩ := trodAll_nil r3
  obtain rfl : args = #[v0, v1, v2, v3] := by cases args; simp_all
  obtain ⟨rfl, rfl⟩ := trodVars_none hV
  have lt0 : ∀ x ∈ p0, x.block < W.heap.size := by obtain ⟨m, hm⟩ := h0; exact DataW.trod_lt m _ _ _ hm
  have lt1 : ∀ x ∈ p1, x.block < W.heap.size := by obtain ⟨m, hm⟩ := h1; exact DataW.trod_lt m _ _ _ hm
  have lt2 : ∀ x ∈ p2, x.block < W.heap.size := by obtain ⟨m, hm⟩ := h2; exact DataW.trod_lt m _ _ _ hm
  have lt3 : ∀ x ∈ p3, x.block < W.heap.size := by obtain ⟨m, hm⟩ := h3; exact DataW.trod_lt m _ _ _ hm
  clear hA0 hval0
  have hz := List.all_eq_true.1 hsz
  have z0 : ∀ N ∈ d0.weights Try.prog 3, N ≤ reachBytes := fun N hN => by simpa using hz N (DataW.weights_mem_each (j := 0) (t := 3) (d := d0) rfl rfl N hN)
  have z1 : ∀ N ∈ d1.weights Try.prog 22, N ≤ reachBytes := fun N hN => by simpa using hz N (DataW.weights_mem_each (j := 1) (t := 22) (d := d1) rfl rfl N hN)
  have z2 : ∀ N ∈ d2.weights Try.prog 22, N ≤ reachBytes := fun N hN => by simpa using hz N (DataW.weights_mem_each (j := 2) (t := 22) (d := d2) rfl rfl N hN)
  have z3 : ∀ N ∈ d3.weights Try.prog 3, N ≤ reachBytes := fun N hN => by simpa using hz N (DataW.weights_mem_each (j := 3) (t := 3) (d := d3) rfl rfl N hN)
  refine (walk v0 v1 v2 v3 W (hval 0 3 v0 rfl rfl) h0 (hval 1 22 v1 rfl rfl) h1 (hval 2 22 v2 rfl rfl) h2 (hval 3 3 v3 rfl rfl) h3 z0 z1 z2 z3).mono fun e W' ⟨he, bel⟩ => ?_
  subst he
  exact ⟨_, rfl, _, _, _, [], _, [], hW', trodAll_mk1 (shut_bool Try.underlying4 _), (trodAll_cons_mk (Below.trod laidOut (by kernel_rfl) (of_decide_eq_true (by kernel_rfl)) h0 bel lt0) (trodAll_cons_mk (Below.trod laidOut (by kernel_rfl) (of_decide_eq_true (by kernel_rfl)) h1 bel lt1) (trodAll_cons_mk (Below.trod laidOut (by kernel_rfl) (of_decide_eq_true (by kernel_rfl)) h2 bel lt2) (trodAll_cons_mk (Below.trod laidOut (by kernel_rfl) (of_decide_eq_true (by kernel_rfl)) h3 bel lt3) trodAll_mk0)))), rfl, bel.frame _, fun h => by cases h⟩

theorem over : Rows.storeCopiesRow.holds Try.pinned (OpenSpec.ofChange Rows.storeCopiesSpec) :=
  OpenClaim.holds_of_wide 5 Try.f5 rfl rfl rfl rfl rfl rfl rfl ⟨rfl, rfl, rfl, rfl, rfl⟩ rfl rfl rfl rfl rfl (by kernel_rfl) Try.func5 (by kernel_rfl)
    (of_decide_eq_true (by kernel_rfl)) (by unfold Func.isWrapper; first | (rw [if_pos (by decide +kernel)]; kernel_rfl) | (rw [if_neg (by decide +kernel)]; exact ⟨rfl, rfl⟩))
    (fun os started H enc _ => lifted os started H enc)

theorem proved : Rows.StoreCopiesSaid := over
end Go.Proofs.Ytpncbggjngamgaa.storeCopies
