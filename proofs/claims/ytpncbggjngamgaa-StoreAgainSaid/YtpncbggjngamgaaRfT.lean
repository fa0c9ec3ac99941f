/-
  A range over a function whose rounds all go on, where the iterator tells of the memory in which it ends.
-/
import Derived.RangeFuncNested
namespace Go.Proofs.Ytpncbggjngamgaa
set_option linter.unusedVariables false
open Go.RowKit
section
variable {F : Fence} {n : Nat} {P : Program}
/-- The two blocks that a range over a function keeps for itself. -/
def Bks (B : Nat) (R : LoopState → Obj) (st : LoopState) (W : World) : Prop := W.heap[B]? = some (.deferred (some [])) ∧ W.heap[B + 1]? = some (R st)
theorem Bks.kept {B : Nat} {R : LoopState → Obj} {st : LoopState} {W W' : World} (hR : ∀ s, (R s).isCells = false) (h : Bks B R st W) (hk : KeepsFrom B W W') : Bks B R st W' :=
  ⟨hk.same _ _ (Nat.le_refl _) h.1 rfl, hk.same _ _ (Nat.le_succ _) h.2 (hR st)⟩
theorem Bks.turn {B : Nat} {R : LoopState → Obj} {st : LoopState} {W : World} (h : Bks B R st W) (st' : LoopState) : Bks B R st' (W.putObj (B + 1) (R st')) :=
  ⟨(World.putObj_heap_other (by omega)).trans h.1, World.putObj_heap_same (Array.getElem?_eq_some_iff.1 h.2).1⟩
theorem Bks.abides {B C : Nat} {R : LoopState → Obj} {st : LoopState} (hR : ∀ s, (R s).isWalk = false) {β : Type} : AbidesFrom C (fun (_ : β) W => Bks B R st W) := fun _ _ _ _ h hg hr =>
  ⟨(grownBy_keeps hg (fun r e => (hr r e).2) h.1 rfl).trans h.1, (grownBy_keeps hg (fun r e => (hr r e).2) h.2 (hR st)).trans h.2⟩
theorem wpIn_rangeFunc_tells {α : Type} {g : Operand} {ps : Array Tmp} {assign body : Code} {Q : Exit → Act → World → Prop} {a : Act} {w : World}
    (hro : F.round = none) (h1 : 1 ≤ n) {gf : Nat} {lb : Array Value} (hg : a.eval g = .func (.func gf) #[] lb) (hFg : F.fn gf) (eg : ∀ args w, (callFunc gf args).run P w = .ok (.enter gf args) w)
    {encs : α → Array Value} {Kp : World → World → Prop} {S : List α → World → Prop} {N : Nat} {w0 : World}
    (hseq : ∀ (l : Nat) (J : List α → World → Prop) (W : World), Below w0.heap.size w0 W → AbidesFrom W.heap.size J →
      (∀ pre x W1, J pre W1 → pre.length < N → YieldAt F (n - 1 - 1) P l (encs x) W1 fun e W' => e = .returned (.bool true) ∧ J (pre ++ [x]) W' ∧ Kp W1 W') → J [] W →
      CallsIn F (n - 1) P gf (#[.func (.yield l) #[] #[]] ++ lb) W fun e W' => (∃ v, e = .returned v) ∧ ∃ xs, S xs W' ∧ J xs W')
    (hKt : ∀ {A B C : World}, Kp A B → Kp B C → Kp A C) (hKb : ∀ (W : World) (l : Nat) (o o' : Obj), w.heap.size ≤ l → W.heap[l]? = some o → o.isCells = false → o.isWalk = false → Kp W (W.putObj l o'))
    (hb0 : Below w0.heap.size w0 w) (hps : ∀ x, (encs x).size = ps.size)
    (I : List α → World → Prop) (hI : OwnFrom w.heap.size I) (hS : OwnFrom w.heap.size S) (h0 : I [] w) (Ax : α → Act → World → Prop) (hAx : ∀ x a', OwnFrom w.heap.size (fun (_ : Unit) W => Ax x a' W))
    (hassign : ∀ (l : Nat) (pre : List α) (x : α) (W : World) (K : Act → World → Prop), I pre W → (∀ a' W', KeepsFrom w.heap.size W W' → Kp W W' → I pre W' → Ax x a' W' → K a' W') →
      assign.wpIn (F.inRound l) (n - 1 - 1) P (Exit.then K (fun _ _ _ => False)) { tmps := (ps.zip (encs x)).foldl (fun t (p, v) => t.setIfInBounds p v) a.tmps, defers := [] } W)
    (hbody : ∀ (l : Nat) (pre : List α) (x : α) (a' : Act) (W : World), I pre W → Ax x a' W → pre.length < N →
      body.wpIn (F.inRound l) (n - 1 - 1) P (Exit.then (fun _ W' => KeepsFrom w.heap.size W W' ∧ Kp W W' ∧ I (pre ++ [x]) W') (fun _ _ _ => False)) a' W)
    (hdone : ∀ (D : Nat) (xs : List α) (W : World), w.heap.size ≤ D → S xs W → I xs W → W.heap[D]? = some (.deferred (some [])) → Q .normal { a with defers := { target := .collected D, args := #[] } :: a.defers } W) :
    (Code.rangeFunc g ps assign body).wpIn F n P Q a w := by
  refine wpIn_rangeFunc fun fn hfn => ?_
  rw [hro]
  obtain ⟨rec, hrec⟩ : ∃ rec : LoopState → Loop, rec = fun st => { state := st, pending := none, fn, tmps := a.tmps, params := ps, assign, body, defers := w.heap.size } := ⟨_, rfl⟩
  have hin := run_enterLoop_outer (P := P) (w := w) fn a.tmps ps assign body
  obtain ⟨V, hV⟩ : ∃ V, (w.alloc (.deferred (some []))).alloc (.loop (rec .ready)) = V := ⟨_, rfl⟩
  have hbk : Bks w.heap.size (fun st => .loop (rec st)) .ready V := by
    subst hV
    refine ⟨(Below.heap_alloc _ _ _ (by simp)).trans (World.alloc_heap_new w _), ?_⟩
    have := World.alloc_heap_new (w.alloc (.deferred (some []))) (.loop (rec .ready))
    rwa [World.size_alloc] at this
  have hbV : Below w0.heap.size w0 V := by
    subst hV
    exact hb0.trans ((((Below.refl _ w).alloc (Nat.le_refl _) _).alloc (by simp) _).mono hb0.size)
  have hIV : I [] V := by subst hV; exact hI.alloc _ (hI.alloc _ h0)
  have hszV : V.heap.size = w.heap.size + 2 := by subst hV; simp
  have hnc : ∀ s, (Obj.loop (rec s)).isCells = false := fun s => rfl
  have hnw : ∀ s, (Obj.loop (rec s)).isWalk = false := fun s => rfl
  refine ⟨w.heap.size + 1, [{ target := .collected w.heap.size, args := #[] }], V, { target := .fn (.func gf) lb, args := #[.func (.yield (w.heap.size + 1)) #[] #[]] }, V, gf,
    #[.func (.yield (w.heap.size + 1)) #[] #[]] ++ lb, V, ?_, ?_, ?_, ?_, fun _ => h1, ?_⟩
  · rw [hin, ← hV, hrec]
  · simp only [resolve, hg]
    simp [go_sem]
  · intro f hf
    simp [Target.leads] at hf
    subst hf
    exact hFg
  · simp [invoke, go_sem, eg]
  have hcalls := hseq (w.heap.size + 1) (fun pre W => I pre W ∧ Bks w.heap.size (fun st => .loop (rec st)) .ready W) V hbV
    (fun s A B row h hg' hr => ⟨hI s A B row h.1 hg' fun r e => ⟨by have := (hr r e).1; omega, (hr r e).2.imp fun o h => ⟨h.1, Obj.not_cells_of_walk h.2⟩⟩, Bks.abides (β := Unit) hnw () A B row h.2 hg' hr⟩) ?round ⟨hIV, hbk⟩
  case round =>
    rintro pre x W ⟨hi, hk⟩ hlen
    have hy := run_yield (P := P) (args := encs x) hk.2 (by rw [hrec]; exact hps x)
    rw [hrec] at hy
    refine ⟨fn, _, assign, body, hy, roundIn_of_wpIn hfn (hassign _ pre x W _ hi fun a' Wa hka hpa hia hax => ?_)⟩
    have hkA := hk.kept hnc hka
    have hbr := run_beginRound (P := P) hkA.2 (by rw [hrec])
    have hbusy : ({ rec .ready with state := .busy } : Loop) = rec .busy := by rw [hrec]
    rw [hbusy] at hbr
    refine ⟨_, hbr, ?_⟩
    have hk2 := hkA.turn .busy
    have hp2 : Kp Wa (Wa.putObj (w.heap.size + 1) (.loop (rec .busy))) := hKb _ _ _ _ (Nat.le_succ _) hkA.2 rfl rfl
    refine wpIn_mono (hbody _ pre x a' _ (hI.putObj _ hia (Nat.le_succ _) hkA.2 rfl) ((hAx x a').putObj (s := ()) _ hax (Nat.le_succ _) hkA.2 rfl) hlen) ?_
    rintro e a3 W3 hp
    cases e with
    | normal =>
      obtain ⟨hk3, hp3, hi3⟩ := hp
      have hkB := hk2.kept hnc hk3
      have her := run_endRound (P := P) none hkB.2
      have hready : ({ rec .busy with state := if (none : Option Code).isNone then .ready else .done, pending := none } : Loop) = rec .ready := by rw [hrec]; rfl
      rw [hready] at her
      exact ⟨_, _, her, rfl, ⟨hI.putObj _ hi3 (Nat.le_succ _) hkB.2 rfl, hkB.turn .ready⟩, hKt hpa (hKt hp2 (hKt hp3 (hKb _ _ _ _ (Nat.le_succ _) hkB.2 rfl rfl)))⟩
    | ret => exact hp.elim
    | exit id => exact hp.elim
    | goto t => exact hp.elim
    | panic ch => exact hp.elim
    | outgrown => exact hp.elim
  refine hcalls.mono ?_
  rintro e W2 ⟨⟨v, rfl⟩, xs, hs, hi, hk⟩
  have hen := run_endLoop (P := P) hk.2 (by rw [hrec]; simp)
  rw [hrec] at hen
  exact ⟨none, _, hen, hdone _ xs _ (Nat.le_refl _) (hS.putObj _ hs (Nat.le_succ _) hk.2 rfl) (hI.putObj _ hi (Nat.le_succ _) hk.2 rfl) ((World.putObj_heap_other (by omega)).trans hk.1)⟩
end
end Go.Proofs.Ytpncbggjngamgaa
