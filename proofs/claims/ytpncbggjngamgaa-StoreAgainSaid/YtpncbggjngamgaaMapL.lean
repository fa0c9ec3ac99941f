/-
  A map whose keys are plain data, as the list of its entries in the order in which they came: look-up, store, delete, len.
-/
import Derived.Test.YtpncbggjngamgaaKept
import Derived.Laws.StructEq
namespace Go.Proofs.Ytpncbggjngamgaa
set_option linter.unusedVariables false
set_option linter.unusedSectionVars false
open Go.RowKit

/-- Keys of type K are the values 'enc a'. -/
structure KeyT (P : Program) (K : TypeId) {κ : Type} [DecidableEq κ] (enc : κ → Value) : Prop where
  eq : ∀ (a b : κ) (w : World), (Op.equal K (enc a) (enc b)).run P w = .ok (decide (a = b)) w
  check : ∀ (e : Bool) (a : κ) (w : World), (Instr.checkKey e 10000 K (enc a)).run P w = .ok () w
  now : ∃ d, P.underlying K = some d ∧ ((∀ a b : κ, Instr.sameNow d (enc a) (enc b) = none) ∨ ∀ a b : κ, Instr.sameNow d (enc a) (enc b) = some (decide (a = b)))
  bits : ∀ a : κ, Instr.sameBits 10000 (enc a) (enc a) = true

section
variable {P : Program} {K : TypeId} {κ : Type} [DecidableEq κ] {enc : κ → Value}

/-- The first entry at a key: its place and its element. -/
def findL : List (κ × Value) → κ → Nat → Option (Nat × Value)
  | [], _, _ => none
  | p :: r, a, i => if a = p.1 then some (i, p.2) else findL r a (i + 1)
theorem findL_none {L : List (κ × Value)} {a : κ} : ∀ i, findL L a i = none ↔ ∀ p ∈ L, p.1 ≠ a := by
  induction L with
  | nil => intro i; simp [findL]
  | cons p r ih =>
    intro i
    unfold findL
    by_cases h : a = p.1
    · rw [if_pos h]; simp [h]
    · rw [if_neg h, ih]
      constructor
      · intro h1 q hq
        rcases List.mem_cons.1 hq with rfl | hq
        · exact fun e => h e.symm
        · exact h1 q hq
      · exact fun h1 q hq => h1 q (List.mem_cons_of_mem _ hq)
theorem findL_some {L : List (κ × Value)} {a : κ} {j : Nat} {v : Value} : ∀ i, findL L a i = some (j, v) → ∃ k, j = i + k ∧ L[k]? = some (a, v) := by
  induction L with
  | nil => intro i h; simp [findL] at h
  | cons p r ih =>
    intro i h
    unfold findL at h
    split at h
    · rename_i e
      injection h with h
      injection h with h1 h2
      exact ⟨0, by omega, by rw [e, ← h2]; rfl⟩
    · obtain ⟨k, h1, h2⟩ := ih _ h
      exact ⟨k + 1, by omega, by simpa using h2⟩

def entriesOf (enc : κ → Value) (es : List MapEntry) (L : List (κ × Value)) : Prop := es.map (fun e => (e.key, e.val)) = L.map fun p => (enc p.1, p.2)
theorem entriesOf.cons {e : MapEntry} {es : List MapEntry} {p : κ × Value} {L : List (κ × Value)} (h : entriesOf enc (e :: es) (p :: L)) : e.key = enc p.1 ∧ e.val = p.2 ∧ entriesOf enc es L := by
  unfold entriesOf at h
  simp only [List.map_cons, List.cons.injEq, Prod.mk.injEq] at h
  exact ⟨h.1.1, h.1.2, h.2⟩

theorem run_findAsking (T : KeyT P K enc) (a : κ) (w : World) : ∀ (L : List (κ × Value)) (es : List MapEntry) (i : Nat), entriesOf enc es L → (Instr.findAsking K (enc a) es i).run P w = .ok (findL L a i) w := by
  intro L
  induction L with
  | nil =>
    intro es i h
    have : es = [] := by simpa [entriesOf] using h
    subst this
    rfl
  | cons p r ih =>
    intro es i h
    cases es with
    | nil => simp [entriesOf] at h
    | cons e es =>
      obtain ⟨h1, h2, h3⟩ := h.cons
      unfold Instr.findAsking findL
      simp only [Sem.run_bind, h1, T.eq, Result.andThen_ok]
      by_cases hp : a = p.1
      · simp only [hp, decide_true, if_true, h2]
        rfl
      · simp only [hp, decide_false, Bool.false_eq_true, if_false]
        exact ih es (i + 1) h3
theorem findNow_all {d : TypeDesc} (hd : ∀ a b : κ, Instr.sameNow d (enc a) (enc b) = some (decide (a = b))) (a : κ) : ∀ (L : List (κ × Value)) (es : List MapEntry) (i : Nat), entriesOf enc es L → Instr.findNow d (enc a) es i = some (findL L a i) := by
  intro L
  induction L with
  | nil =>
    intro es i h
    have : es = [] := by simpa [entriesOf] using h
    subst this
    rfl
  | cons p r ih =>
    intro es i h
    cases es with
    | nil => simp [entriesOf] at h
    | cons e es =>
      obtain ⟨h1, h2, h3⟩ := h.cons
      unfold Instr.findNow findL
      rw [h1, hd]
      by_cases hp : a = p.1
      · simp [hp, h2]
      · simp only [hp, decide_false, if_false]
        exact ih es (i + 1) h3
theorem run_findKeyL (T : KeyT P K enc) (a : κ) (w : World) (L : List (κ × Value)) (es : List MapEntry) (h : entriesOf enc es L) : (Instr.findKey K (enc a) es).run P w = .ok (findL L a 0) w := by
  obtain ⟨d, hd, hn⟩ := T.now
  unfold Instr.findKey
  simp only [Sem.run_bind, run_underlying hd, Result.andThen_ok]
  rcases hn with hn | hn
  · cases es with
    | nil =>
      cases L with
      | nil => rfl
      | cons p r => simp [entriesOf] at h
    | cons e es =>
      cases L with
      | nil => simp [entriesOf] at h
      | cons p r =>
        have : Instr.findNow d (enc a) (e :: es) 0 = none := by
          unfold Instr.findNow
          rw [h.cons.1, hn]
        rw [this]
        exact run_findAsking T a w (p :: r) (e :: es) 0 h
  · rw [findNow_all hn a L es 0 h]
    rfl

/-- Block b is a map with the entries L, in this order. -/
def MapL (enc : κ → Value) (w : World) (b : Nat) (L : List (κ × Value)) : Prop := ∃ es clock, w.heap[b]? = some (.map es clock) ∧ entriesOf enc es.toList L
theorem MapL.lt {w : World} {b : Nat} {L : List (κ × Value)} (h : MapL enc w b L) : b < w.heap.size := by
  obtain ⟨es, c, h, _⟩ := h
  rcases Nat.lt_or_ge b w.heap.size with h' | h'
  · exact h'
  · rw [Array.getElem?_eq_none h'] at h; cases h
theorem MapL.kept {S : Nat → Prop} {w w' : World} {b : Nat} {L : List (κ × Value)} (h : MapL enc w b L) (k : Kept S w w') (hn : ¬ S b) : MapL enc w' b L := by
  have hlt := h.lt
  obtain ⟨es, c, h1, h2⟩ := h
  exact ⟨es, c, (k.block b hlt hn).trans h1, h2⟩
theorem MapL.later {w w' : World} {b : Nat} {L : List (κ × Value)} (h : MapL enc w b L) (hb : Below w.heap.size w w') : MapL enc w' b L :=
  h.kept (Kept.of_new hb (fun _ => False)) (fun h => h)
theorem MapL.drewN {w : World} {b : Nat} {L : List (κ × Value)} (h : MapL enc w b L) (n : Nat) : MapL enc (w.drewN n) b L := h
theorem MapL.new (enc : κ → Value) (w : World) : MapL enc (w.alloc (.map #[] 0)) w.heap.size [] := ⟨#[], 0, heap_alloc_new w _, rfl⟩
theorem MapL.ne_blk {w : World} {b g : Nat} {t : TypeId} {cs : Array Value} {L : List (κ × Value)} (h : MapL enc w b L) (hg : Blk w g t cs) : b ≠ g := by
  rintro rfl
  obtain ⟨es, c, h1, _⟩ := h
  unfold Blk at hg
  rw [hg] at h1
  cases h1
theorem own_ne_map {w : World} {b base size n : Nat} {e : TypeId} {v : Value} {xs : List Value} {L : List (κ × Value)} (h : MapL enc w b L) (ho : w.ownsRow base e size v n xs) : v.ownBlock ≠ some b := by
  rcases ho.2 with ⟨rfl, _⟩ | ⟨g', cap, cur, rfl, _, hh, _⟩
  · simp [Value.ownBlock]
  · intro he
    have : g' = b := by simpa [Value.ownBlock] using he
    subst this
    exact h.ne_blk (t := e) hh rfl

/-- The world with another object in block b. -/
def _root_.Go.World.putMap (w : World) (b : Nat) (o : Obj) : World := { w with heap := w.heap.setIfInBounds b o }
theorem kept_putMap (w : World) (b : Nat) (o : Obj) : Kept (fun i => i = b) w (w.putMap b o) :=
  ⟨rfl, rfl, rfl, by simp [World.putMap], fun i hi hn => by simp [World.putMap, Ne.symm hn]⟩
theorem heap_putMap {w : World} {b : Nat} (h : b < w.heap.size) (o : Obj) : (w.putMap b o).heap[b]? = some o := by simp [World.putMap, h]

theorem run_getMap {w : World} {b : Nat} {es : Array MapEntry} {c : Nat} (h : w.heap[b]? = some (.map es c)) : (getObj b).run P w = .ok (.map es c) w := by
  simp [getObj, Sem.run, h]
theorem run_setMap {w : World} {b : Nat} {es : Array MapEntry} {c : Nat} (h : w.heap[b]? = some (.map es c)) (o : Obj) : (setObj b o).run P w = .ok () (w.putMap b o) := by
  simp [setObj, Sem.run, h, World.putMap]

variable {T E : TypeId} {w : World} {b : Nat} {L : List (κ × Value)} {a : κ}
def lookedUp (L : List (κ × Value)) (a : κ) (z : Value) (ok : Bool) : Value :=
  match findL L a 0 with
  | some (_, v) => if ok then .tuple #[v, .bool true] else v
  | none => if ok then .tuple #[z, .bool false] else z
theorem run_lookupL (Q : KeyT P K enc) (hT : P.underlying T = some (.map K E)) {z : Value} (hz : (zeroValue E).run P w = .ok z w) (h : MapL enc w b L) (a : κ) (ok : Bool) :
    (Instr.lookup T (.map (some b)) (enc a) ok).run P w = .ok (lookedUp L a z ok) w := by
  obtain ⟨es, c, h1, h2⟩ := h
  unfold Instr.lookup lookedUp
  simp only [Sem.run_bind, run_underlying hT, Result.andThen_ok, run_getMap h1, Sem.run_pure, Q.check, run_findKeyL Q a w L es.toList h2]
  rcases hf : findL L a 0 with _ | ⟨i, v⟩
  · simp only [Sem.run_bind, hz, Result.andThen_ok, Sem.run_pure]
  · simp only [Sem.run_bind, Result.andThen_ok, Sem.run_pure]
theorem entriesOf.get {es : List MapEntry} {L : List (κ × Value)} (h : entriesOf enc es L) {i : Nat} {p : κ × Value} (hp : L[i]? = some p) : ∃ e, es[i]? = some e ∧ e.key = enc p.1 ∧ e.val = p.2 := by
  have := congrArg (fun l => l[i]?) h
  simp only [List.getElem?_map, hp, Option.map_some] at this
  rcases he : es[i]? with _ | e
  · simp [he] at this
  · simp only [he, Option.map_some, Option.some.injEq, Prod.mk.injEq] at this
    exact ⟨e, rfl, this.1, this.2⟩
theorem map_eraseIdx {α β : Type} (f : α → β) : ∀ (l : List α) (i : Nat), (l.eraseIdx i).map f = (l.map f).eraseIdx i
  | [], _ => rfl
  | _ :: _, 0 => rfl
  | x :: l, i + 1 => by simp [map_eraseIdx f l i]
/-- A store at a key that is not there: a new entry behind the others. -/
theorem run_storeL_new (Q : KeyT P K enc) (hT : P.underlying T = some (.map K E)) (h : MapL enc w b L) (hf : findL L a 0 = none) (v : Value) :
    ∃ w', (Instr.mapUpdate T (.map (some b)) (enc a) v).run P w = .ok () w' ∧ MapL enc w' b (L ++ [(a, v)]) ∧ Kept (fun i => i = b) w w' := by
  have hlt := h.lt
  obtain ⟨es, c, h1, h2⟩ := h
  refine ⟨w.putMap b (.map (es.push { key := enc a, val := v, born := c }) (c + 1)), ?_, ⟨_, _, heap_putMap hlt _, ?_⟩, kept_putMap _ _ _⟩
  · unfold Instr.mapUpdate
    simp only [Sem.run_bind, run_underlying hT, Result.andThen_ok, run_getMap h1, Q.check, run_findKeyL Q a w L es.toList h2, hf]
    exact run_setMap h1 _
  · unfold entriesOf at h2 ⊢
    simp [h2]
/-- A store at a key that is there: its entry has the new element. -/
theorem run_storeL_old (Q : KeyT P K enc) (hT : P.underlying T = some (.map K E)) (h : MapL enc w b L) {j : Nat} {v0 : Value} (hf : findL L a 0 = some (j, v0)) (v : Value) :
    ∃ w', (Instr.mapUpdate T (.map (some b)) (enc a) v).run P w = .ok () w' ∧ MapL enc w' b (L.set j (a, v)) ∧ Kept (fun i => i = b) w w' := by
  have hlt := h.lt
  obtain ⟨es, c, h1, h2⟩ := h
  obtain ⟨k, hk, hLk⟩ := findL_some 0 hf
  rw [Nat.zero_add] at hk
  subst hk
  obtain ⟨e, he, hk1, hk2⟩ := h2.get hLk
  have hes : es[j]? = some e := by rw [← Array.getElem?_toList]; exact he
  refine ⟨w.putMap b (.map (es.modify j fun e => { e with key := enc a, val := v }) c), ?_, ⟨_, _, heap_putMap hlt _, ?_⟩, kept_putMap _ _ _⟩
  · unfold Instr.mapUpdate
    simp only [Sem.run_bind, run_underlying hT, Result.andThen_ok, run_getMap h1, Q.check, run_findKeyL Q a w L es.toList h2, hf, hes, Option.map_some, Option.getD_some, hk1]
    have hb := Q.bits a
    simp only [Instr.keyThatStays, hb, if_true, Sem.run_pure, Result.andThen_ok]
    exact run_setMap h1 _
  · unfold entriesOf at h2 ⊢
    rw [Array.toList_modify, List.map_set, ← h2]
    apply List.ext_getElem?
    intro i
    simp only [List.getElem?_map, List.getElem?_modify, List.getElem?_set]
    by_cases hij : j = i
    · subst hij
      have hl : j < es.toList.length := (List.getElem?_eq_some_iff.1 he).1
      have hl' : j < es.size := by simpa using hl
      simp [hl']
    · simp [hij]
theorem run_deleteL (Q : KeyT P K enc) (hT : P.underlying T = some (.map K E)) (h : MapL enc w b L) (ty : TypeId) (t2 : TypeId) :
    ∃ w', (Builtin.delete_ #[T, t2] ty #[.map (some b), enc a]).run P w = .ok (.tuple #[]) w' ∧ MapL enc w' b (match findL L a 0 with | some (i, _) => L.eraseIdx i | none => L) ∧ Kept (fun i => i = b) w w' := by
  have hlt := h.lt
  obtain ⟨es, c, h1, h2⟩ := h
  rcases hf : findL L a 0 with _ | ⟨i, v⟩
  · refine ⟨w.putMap b (.map es c), ?_, ⟨_, _, heap_putMap hlt _, h2⟩, kept_putMap _ _ _⟩
    unfold Builtin.delete_
    simp [Sem.run_bind, run_underlying hT, Result.andThen_ok, run_getMap h1, Q.check, run_findKeyL Q a w L es.toList h2, hf, run_setMap h1]
  · refine ⟨w.putMap b (.map (es.eraseIdxIfInBounds i) c), ?_, ⟨_, _, heap_putMap hlt _, ?_⟩, kept_putMap _ _ _⟩
    · unfold Builtin.delete_
      simp [Sem.run_bind, run_underlying hT, Result.andThen_ok, run_getMap h1, Q.check, run_findKeyL Q a w L es.toList h2, hf, run_setMap h1]
    · unfold entriesOf at h2 ⊢
      have : (es.eraseIdxIfInBounds i).toList = es.toList.eraseIdx i := by
        unfold Array.eraseIdxIfInBounds
        split
        · simp
        · rename_i hge
          rw [List.eraseIdx_of_length_le (by simpa using hge)]
      rw [this, map_eraseIdx, h2, map_eraseIdx]

/-! The arms of a walk. -/
section arms
variable {ops : Array Oper} {rest : List Oper} {o : Oper} {st : Act} {Q0 : Exit → Act → World → Prop}
theorem exec_lookupL (Q : KeyT P K enc) (hT : P.underlying T = some (.map K E)) {z : Value} (hz : ∀ w, (zeroValue E).run P w = .ok z w) {x ix : Operand} {ok : Bool} (ho : o.op = .lookup T x ix ok)
    (h : MapL enc w b L) (hx : st.eval x = .map (some b)) {a : κ} (hi : st.eval ix = enc a) : (execOp st.eval o).run P w = .ok (.value (lookedUp L a z ok)) w := by
  unfold execOp
  simp only [ho, hx, hi, Sem.run_bind, Sem.run_pure, Result.andThen_ok, run_lookupL Q hT (hz w) h a ok]
theorem wpList_lookupL (Q : KeyT P K enc) (hT : P.underlying T = some (.map K E)) {z : Value} (hz : ∀ w, (zeroValue E).run P w = .ok z w) (hgd : o.guard = none) (x ix : Operand) (ok : Bool) (ho : o.op = .lookup T x ix ok)
    (h : MapL enc w b L) (hx : st.eval x = .map (some b)) (a : κ) (hi : st.eval ix = enc a) (k : wpList P ops Q0 rest (st.put o.dst (lookedUp L a z ok)) w) : wpList P ops Q0 (o :: rest) st w :=
  wpList_plain hgd fun K0 hK => by
    unfold Oper.wp execOp
    simp only [ho, hx, hi, Sem.run_bind, Sem.run_pure, Result.andThen_ok, run_lookupL Q hT (hz w) h a ok]
    exact hK _ _ k
theorem wpList_storeL_new (Q : KeyT P K enc) (hT : P.underlying T = some (.map K E)) (hgd : o.guard = none) (m ix x : Operand) (ho : o.op = .mapUpdate T m ix x)
    (h : MapL enc w b L) (hm : st.eval m = .map (some b)) (a : κ) (hi : st.eval ix = enc a) (v : Value) (hv : st.eval x = v) (hf : findL L a 0 = none)
    (k : ∀ w', MapL enc w' b (L ++ [(a, v)]) → Kept (fun i => i = b) w w' → wpList P ops Q0 rest (st.put o.dst undef) w') : wpList P ops Q0 (o :: rest) st w :=
  wpList_plain hgd fun K0 hK => by
    obtain ⟨w', h1, h2, h3⟩ := run_storeL_new Q hT h hf v
    unfold Oper.wp execOp
    simp only [ho, hm, hi, hv, Sem.run_bind, Sem.run_pure, Result.andThen_ok, h1]
    exact hK _ _ (k w' h2 h3)
theorem wpList_storeL_old (Q : KeyT P K enc) (hT : P.underlying T = some (.map K E)) (hgd : o.guard = none) (m ix x : Operand) (ho : o.op = .mapUpdate T m ix x)
    (h : MapL enc w b L) (hm : st.eval m = .map (some b)) (a : κ) (hi : st.eval ix = enc a) (v : Value) (hv : st.eval x = v) {j : Nat} {v0 : Value} (hf : findL L a 0 = some (j, v0))
    (k : ∀ w', MapL enc w' b (L.set j (a, v)) → Kept (fun i => i = b) w w' → wpList P ops Q0 rest (st.put o.dst undef) w') : wpList P ops Q0 (o :: rest) st w :=
  wpList_plain hgd fun K0 hK => by
    obtain ⟨w', h1, h2, h3⟩ := run_storeL_old Q hT h hf v
    unfold Oper.wp execOp
    simp only [ho, hm, hi, hv, Sem.run_bind, Sem.run_pure, Result.andThen_ok, h1]
    exact hK _ _ (k w' h2 h3)
theorem wpList_deleteL (Q : KeyT P K enc) (hT : P.underlying T = some (.map K E)) (hgd : o.guard = none) (m ix : Operand) (t2 : TypeId) (ho : o.op = .call { callee := .builtin .delete, args := #[m, ix], argTypes := #[T, t2] })
    (h : MapL enc w b L) (hm : st.eval m = .map (some b)) (a : κ) (hi : st.eval ix = enc a)
    (k : ∀ w', MapL enc w' b (match findL L a 0 with | some (i, _) => L.eraseIdx i | none => L) → Kept (fun i => i = b) w w' → wpList P ops Q0 rest (st.put o.dst (.tuple #[])) w') : wpList P ops Q0 (o :: rest) st w :=
  wpList_plain hgd fun K0 hK => by
    obtain ⟨w', h1, h2, h3⟩ := run_deleteL (a := a) Q hT h o.type t2
    unfold Oper.wp execOp
    simp only [ho, resolve, invoke, builtin, Sem.run_bind, Sem.run_pure, Result.andThen_ok, List.map_toArray, List.map_cons, List.map_nil, hm, hi, h1]
    exact hK _ _ (k w' h2 h3)
end arms
end
end Go.Proofs.Ytpncbggjngamgaa
