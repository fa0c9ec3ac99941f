/-
  A map whose keys are plain data, as what is found at each key: look-up, store, delete, and the two steps of a store in a row of assignments.
  The store in memory; none, New, Len, Put, Get, When, Drop. Printed by gen_sto2.py.
  A state of the store as old as a time says. Printed by gen_sto3.py.
  The store: Put. Printed by gen_sto4.py.
  order.Keys as a comparison that a sort may take. Printed by gen_sk1.py.
-/
import Derived.Test.YtpncbggjngamgaaGreatDoorCA01
import Derived.Test.YtpncbggjngamgaaGreatDoorCA02
import Derived.Shelf.SlSortCmp.WholeK
namespace Go.Proofs.YtpncbggjngamgaaGreatDoor
set_option linter.unusedVariables false
set_option linter.unusedSectionVars false
open Go.RowKit

section
variable {P : Program} {K : TypeId} {κ : Type} [DecidableEq κ] {enc : κ → Value}

def KN (L : List (κ × Value)) : Prop := (L.map Prod.fst).Nodup
def atL (L : List (κ × Value)) (a : κ) : Option Value := (findL L a 0).map (·.2)
theorem KN.at_ {L : List (κ × Value)} (h : KN L) {i j : Nat} {a : κ} {v v' : Value} (hi : L[i]? = some (a, v)) (hj : L[j]? = some (a, v')) : i = j := by
  have hi' : i < L.length := (List.getElem?_eq_some_iff.1 hi).1
  have h1 : (L.map Prod.fst)[i]? = some a := by rw [List.getElem?_map, hi]; rfl
  have h2 : (L.map Prod.fst)[j]? = some a := by rw [List.getElem?_map, hj]; rfl
  exact (List.getElem?_inj (by rw [List.length_map]; exact hi') h).1 (h1.trans h2.symm)
theorem atL_some {L : List (κ × Value)} (h : KN L) {a : κ} {v : Value} : atL L a = some v ↔ (a, v) ∈ L := by
  unfold atL
  constructor
  · intro e
    obtain ⟨⟨i, v'⟩, e1, rfl⟩ := Option.map_eq_some_iff.1 e
    obtain ⟨k, _, e2⟩ := findL_some 0 e1
    exact List.mem_of_getElem? e2
  · intro hm
    cases hf : findL L a 0 with
    | none => exact absurd rfl ((findL_none 0).1 hf (a, v) hm)
    | some p =>
      obtain ⟨i, v'⟩ := p
      obtain ⟨k, _, e2⟩ := findL_some 0 hf
      obtain ⟨j, hj⟩ := List.getElem?_of_mem hm
      have := h.at_ e2 hj
      subst this
      rw [e2] at hj
      injection hj with hj
      injection hj with _ hj
      simp [hj]
def updF (f : κ → Option Value) (a : κ) (v : Option Value) : κ → Option Value := fun k => if k = a then v else f k
theorem fn_ext {f g : κ → Option Value} (h : ∀ k v, f k = some v ↔ g k = some v) : f = g := by
  funext k
  cases hf : f k with
  | none =>
    cases hg : g k with
    | none => rfl
    | some v => rw [← h] at hg; rw [hf] at hg; cases hg
  | some v => rw [(h k v).1 hf]
theorem KN.push {L : List (κ × Value)} (h : KN L) {a : κ} (ha : findL L a 0 = none) (v : Value) : KN (L ++ [(a, v)]) := by
  unfold KN
  rw [List.map_append, List.nodup_append]
  refine ⟨h, by simp, ?_⟩
  intro x hx y hy
  simp only [List.map_cons, List.map_nil, List.mem_cons, List.not_mem_nil, or_false] at hy
  subst hy
  obtain ⟨p, hp, rfl⟩ := List.mem_map.1 hx
  exact (findL_none 0).1 ha p hp
theorem atL_push {L : List (κ × Value)} (h : KN L) {a : κ} (ha : findL L a 0 = none) (v : Value) : atL (L ++ [(a, v)]) = updF (atL L) a (some v) := by
  refine fn_ext fun k u => ?_
  rw [atL_some (h.push ha v), List.mem_append]
  unfold updF
  by_cases hk : k = a
  · subst hk
    rw [if_pos rfl]
    simp only [List.mem_cons, List.not_mem_nil, or_false, Prod.mk.injEq, true_and, Option.some.injEq]
    constructor
    · rintro (h1 | h1)
      · exact absurd rfl ((findL_none 0).1 ha _ h1)
      · exact h1.symm
    · exact fun h1 => .inr h1.symm
  · rw [if_neg hk, atL_some h]
    simp [hk]
theorem set_keys {L : List (κ × Value)} {j : Nat} {a : κ} {v0 : Value} (hj : L[j]? = some (a, v0)) (v : Value) : (L.set j (a, v)).map Prod.fst = L.map Prod.fst := by
  rw [List.map_set]
  refine List.ext_getElem? fun i => ?_
  rw [List.getElem?_set]
  split
  · rename_i e
    subst e
    have hl : j < L.length := (List.getElem?_eq_some_iff.1 hj).1
    rw [List.length_map, if_pos hl, List.getElem?_map, hj]; rfl
  · rfl
theorem KN.set {L : List (κ × Value)} (h : KN L) {j : Nat} {a : κ} {v0 : Value} (hj : L[j]? = some (a, v0)) (v : Value) : KN (L.set j (a, v)) := by unfold KN; rw [set_keys hj]; exact h
theorem atL_set {L : List (κ × Value)} (h : KN L) {j : Nat} {a : κ} {v0 : Value} (hj : L[j]? = some (a, v0)) (v : Value) : atL (L.set j (a, v)) = updF (atL L) a (some v) := by
  have hl : j < L.length := (List.getElem?_eq_some_iff.1 hj).1
  refine fn_ext fun k u => ?_
  rw [atL_some (h.set hj v)]
  unfold updF
  by_cases hk : k = a
  · subst hk
    rw [if_pos rfl]
    constructor
    · intro hm
      obtain ⟨i, hi⟩ := List.getElem?_of_mem hm
      have h2 : (L.set j (k, v))[j]? = some (k, v) := by rw [List.getElem?_set_self hl]
      have := (h.set hj v).at_ hi h2
      subst this
      rw [hi] at h2
      injection h2 with h2
      injection h2 with _ h2
      rw [h2]
    · intro e
      injection e with e
      subst e
      exact List.mem_of_getElem? (i := j) (List.getElem?_set_self hl)
  · rw [if_neg hk, atL_some h]
    constructor
    · intro hm
      obtain ⟨i, hi⟩ := List.getElem?_of_mem hm
      rw [List.getElem?_set] at hi
      split at hi
      · injection hi with hi
        injection hi with hi _
        exact absurd hi.symm hk
      · exact List.mem_of_getElem? hi
    · intro hm
      obtain ⟨i, hi⟩ := List.getElem?_of_mem hm
      refine List.mem_of_getElem? (i := i) ?_
      rw [List.getElem?_set, if_neg]
      · exact hi
      · rintro rfl
        rw [hj] at hi
        injection hi with hi
        injection hi with hi _
        exact hk hi.symm
theorem KN.erase {L : List (κ × Value)} (h : KN L) (j : Nat) : KN (L.eraseIdx j) := by
  unfold KN
  rw [map_eraseIdx]
  exact h.sublist (List.eraseIdx_sublist _ _)
theorem atL_erase {L : List (κ × Value)} (h : KN L) {j : Nat} {a : κ} {v0 : Value} (hj : L[j]? = some (a, v0)) : atL (L.eraseIdx j) = updF (atL L) a none := by
  refine fn_ext fun k u => ?_
  rw [atL_some (h.erase j)]
  unfold updF
  by_cases hk : k = a
  · subst hk
    rw [if_pos rfl]
    constructor
    · intro hm
      obtain ⟨i, hi, e⟩ := List.mem_eraseIdx_iff_getElem?.1 hm
      have := h.at_ e hj
      omega
    · intro e; cases e
  · rw [if_neg hk, atL_some h]
    constructor
    · exact fun hm => List.mem_of_mem_eraseIdx hm
    · intro hm
      obtain ⟨i, hi⟩ := List.getElem?_of_mem hm
      refine List.mem_eraseIdx_iff_getElem?.2 ⟨i, ?_, hi⟩
      rintro rfl
      rw [hj] at hi
      injection hi with hi
      injection hi with hi _
      exact hk hi.symm

/-- The map in block b: at key a it has f a. -/
structure MapFs (enc : κ → Value) (w : World) (b : Nat) (f : κ → Option Value) (n : Nat) (es : Array MapEntry) (clock : Nat) (L : List (κ × Value)) : Prop where
  heap : w.heap[b]? = some (.map es clock)
  ents : entriesOf enc es.toList L
  keys : KN L
  at_ : atL L = f
  len : L.length = n
  born : (es.toList.map (·.born)).Nodup
  past : ∀ e ∈ es.toList, e.born < clock
def MapF (enc : κ → Value) (w : World) (b : Nat) (f : κ → Option Value) (n : Nat) : Prop := ∃ es clock L, MapFs enc w b f n es clock L
variable {w w' : World} {b n : Nat} {f : κ → Option Value} {a : κ} {T E : TypeId}
theorem MapF.lt (h : MapF enc w b f n) : b < w.heap.size := by
  obtain ⟨es, c, L, h⟩ := h
  exact (show MapL enc w b L from ⟨es, c, h.heap, h.ents⟩).lt
theorem MapF.kept {S : Nat → Prop} (h : MapF enc w b f n) (k : Kept S w w') (hn : ¬ S b) : MapF enc w' b f n := by
  have hl := h.lt
  obtain ⟨es, c, L, h⟩ := h
  exact ⟨es, c, L, (k.block b hl hn).trans h.heap, h.ents, h.keys, h.at_, h.len, h.born, h.past⟩
theorem MapF.later (h : MapF enc w b f n) (hb : Below w.heap.size w w') : MapF enc w' b f n := h.kept (Kept.of_new hb (fun _ => False)) (fun h => h)
theorem MapF.drewN (h : MapF enc w b f n) (k : Nat) : MapF enc (w.drewN k) b f n := h.kept ((Kept.refl (fun _ => False) w).drewN k) (fun h => h)
theorem MapF.new (enc : κ → Value) (w : World) : MapF enc (w.alloc (.map #[] 0)) w.heap.size (fun _ => none) 0 := ⟨#[], 0, [], heap_alloc_new w _, rfl, by simp [KN], rfl, rfl, by simp, by simp⟩
theorem MapF.ne_blk {g : Nat} {t : TypeId} {cs : Array Value} (h : MapF enc w b f n) (hg : Blk w g t cs) : b ≠ g := by
  obtain ⟨es, c, L, h⟩ := h
  exact (show MapL enc w b L from ⟨es, c, h.heap, h.ents⟩).ne_blk hg
theorem MapF.find {es : Array MapEntry} {c : Nat} {L : List (κ × Value)} (h : MapFs enc w b f n es c L) (a : κ) : (f a = none → findL L a 0 = none) ∧ ∀ v, f a = some v → ∃ j, findL L a 0 = some (j, v) ∧ L[j]? = some (a, v) := by
  have e : atL L a = f a := by rw [h.at_]
  unfold atL at e
  refine ⟨fun h0 => ?_, fun v hv => ?_⟩
  · rw [h0] at e; simpa using e
  · rw [hv] at e
    obtain ⟨⟨j, v'⟩, e1, e2⟩ := Option.map_eq_some_iff.1 e
    simp only at e2; subst e2
    obtain ⟨k, e3, e4⟩ := findL_some 0 e1
    rw [Nat.zero_add] at e3; subst e3
    exact ⟨j, e1, e4⟩
def lookF (f : κ → Option Value) (a : κ) (z : Value) (ok : Bool) : Value := match f a with
  | some v => if ok then .tuple #[v, .bool true] else v
  | none => if ok then .tuple #[z, .bool false] else z
theorem run_lookupF (Q : KeyT P K enc) (hT : P.underlying T = some (.map K E)) {z : Value} (hz : (zeroValue E).run P w = .ok z w) (h : MapF enc w b f n) (a : κ) (ok : Bool) :
    (Instr.lookup T (.map (some b)) (enc a) ok).run P w = .ok (lookF f a z ok) w := by
  obtain ⟨es, c, L, h⟩ := h
  rw [run_lookupL Q hT hz ⟨es, c, h.heap, h.ents⟩ a ok]
  congr 1
  unfold lookedUp lookF
  have hf := MapF.find h a
  cases hfa : f a with
  | none => rw [hf.1 hfa]
  | some v => obtain ⟨j, e, _⟩ := hf.2 v hfa; rw [e]
theorem MapFs.put_new {es : Array MapEntry} {c : Nat} {L : List (κ × Value)} (h : MapFs enc w b f n es c L) (hf : f a = none) (v : Value) :
    MapF enc (w.putMap b (.map (es.push { key := enc a, val := v, born := c }) (c + 1))) b (updF f a (some v)) (n + 1) := by
  have hlt := MapF.lt ⟨es, c, L, h⟩
  have hfd := (MapF.find h a).1 hf
  refine ⟨_, _, L ++ [(a, v)], heap_putMap hlt _, ?_, h.keys.push hfd v, by rw [atL_push h.keys hfd, h.at_], by simp [h.len], ?_, ?_⟩
  · have := h.ents
    unfold entriesOf at this ⊢
    simp [this]
  · rw [Array.toList_push, List.map_append, List.nodup_append]
    refine ⟨h.born, by simp, ?_⟩
    intro x hx y hy
    simp only [List.map_cons, List.map_nil, List.mem_cons, List.not_mem_nil, or_false] at hy
    subst hy
    obtain ⟨e, he, rfl⟩ := List.mem_map.1 hx
    have := h.past e he
    omega
  · intro e he
    rw [Array.toList_push, List.mem_append] at he
    rcases he with he | he
    · have := h.past e he; omega
    · simp only [List.mem_cons, List.not_mem_nil, or_false] at he
      subst he; simp
theorem toList_modify_born (es : Array MapEntry) (j : Nat) (g : MapEntry → MapEntry) (hg : ∀ e, (g e).born = e.born) : (es.modify j g).toList.map (·.born) = es.toList.map (·.born) := by
  rw [Array.toList_modify]
  refine List.ext_getElem? fun i => ?_
  simp only [List.getElem?_map, List.getElem?_modify]
  split
  · cases es.toList[i]? <;> simp [hg]
  · simp
theorem ents_modify {es : Array MapEntry} {L : List (κ × Value)} (h : entriesOf enc es.toList L) {j : Nat} {a : κ} {v0 : Value} (hj : L[j]? = some (a, v0)) (v : Value) (g : MapEntry → MapEntry) (hg : ∀ e : MapEntry, e.key = enc a → e.val = v0 → (g e).key = enc a ∧ (g e).val = v) :
    entriesOf enc (es.modify j g).toList (L.set j (a, v)) := by
  obtain ⟨e, he, hk1, hk2⟩ := h.get hj
  unfold entriesOf at h ⊢
  rw [Array.toList_modify, List.map_set, ← h]
  apply List.ext_getElem?
  intro i
  simp only [List.getElem?_map, List.getElem?_modify, List.getElem?_set]
  by_cases hij : j = i
  · subst hij
    have hl : j < es.toList.length := (List.getElem?_eq_some_iff.1 he).1
    have hl' : j < es.size := by simpa using hl
    have := hg e hk1 hk2
    have hee : es[j]'hl' = e := by rw [Array.getElem?_toList] at he; exact (Array.getElem?_eq_some_iff.1 he).2
    simp [hl', hee, this.1, this.2]
  · simp [hij]
theorem MapFs.put_old {es : Array MapEntry} {c : Nat} {L : List (κ × Value)} (h : MapFs enc w b f n es c L) {j : Nat} {v0 : Value} (hj : L[j]? = some (a, v0)) (v : Value) (g : MapEntry → MapEntry) (hg : ∀ e : MapEntry, e.key = enc a → e.val = v0 → (g e).key = enc a ∧ (g e).val = v) (hgb : ∀ e, (g e).born = e.born) :
    MapFs enc (w.putMap b (.map (es.modify j g) c)) b (updF f a (some v)) n (es.modify j g) c (L.set j (a, v)) := by
  have hlt := MapF.lt ⟨es, c, L, h⟩
  refine ⟨heap_putMap hlt _, ents_modify h.ents hj v g hg, h.keys.set hj v, by rw [atL_set h.keys hj, h.at_], by rw [List.length_set, h.len], ?_, ?_⟩
  · rw [toList_modify_born _ _ _ hgb]; exact h.born
  · intro e he
    have h1 : e.born ∈ (es.modify j g).toList.map (·.born) := List.mem_map.2 ⟨e, he, rfl⟩
    rw [toList_modify_born _ _ _ hgb] at h1
    obtain ⟨e', he', h2⟩ := List.mem_map.1 h1
    rw [← h2]; exact h.past e' he'
theorem updF_same {f : κ → Option Value} {a : κ} {v : Value} (h : f a = some v) : updF f a (some v) = f := by
  funext k; unfold updF; split
  · rename_i e; rw [e, h]
  · rfl
theorem run_storeF (Q : KeyT P K enc) (hT : P.underlying T = some (.map K E)) (h : MapF enc w b f n) (a : κ) (v : Value) :
    ∃ w', (Instr.mapUpdate T (.map (some b)) (enc a) v).run P w = .ok () w' ∧ MapF enc w' b (updF f a (some v)) (if (f a).isSome then n else n + 1) ∧ Kept (fun i => i = b) w w' := by
  obtain ⟨es, c, L, h⟩ := h
  have hf := MapF.find h a
  cases hfa : f a with
  | none =>
    refine ⟨w.putMap b (.map (es.push { key := enc a, val := v, born := c }) (c + 1)), ?_, h.put_new hfa v, kept_putMap _ _ _⟩
    unfold Instr.mapUpdate
    simp only [Sem.run_bind, run_underlying hT, Result.andThen_ok, run_getMap h.heap, Q.check, run_findKeyL Q a w L es.toList h.ents, hf.1 hfa]
    exact run_setMap h.heap _
  | some v0 =>
    obtain ⟨j, hfj, hj⟩ := hf.2 v0 hfa
    obtain ⟨e, he, hk1, hk2⟩ := h.ents.get hj
    have hes : es[j]? = some e := by rw [← Array.getElem?_toList]; exact he
    refine ⟨w.putMap b (.map (es.modify j fun e => { e with key := enc a, val := v }) c), ?_, ⟨_, _, _, h.put_old hj v _ (fun _ _ _ => ⟨rfl, rfl⟩) (fun _ => rfl)⟩, kept_putMap _ _ _⟩
    unfold Instr.mapUpdate
    simp only [Sem.run_bind, run_underlying hT, Result.andThen_ok, run_getMap h.heap, Q.check, run_findKeyL Q a w L es.toList h.ents, hfj, hes, Option.map_some, Option.getD_some, hk1]
    have hb := Q.bits a
    simp only [Instr.keyThatStays, hb, if_true, Sem.run_pure, Result.andThen_ok]
    exact run_setMap h.heap _
theorem run_deleteF (Q : KeyT P K enc) (hT : P.underlying T = some (.map K E)) (h : MapF enc w b f n) (a : κ) (ty t2 : TypeId) :
    ∃ w', (Builtin.delete_ #[T, t2] ty #[.map (some b), enc a]).run P w = .ok (.tuple #[]) w' ∧ MapF enc w' b (updF f a none) (if (f a).isSome then n - 1 else n) ∧ Kept (fun i => i = b) w w' := by
  have hlt := h.lt
  obtain ⟨es, c, L, h⟩ := h
  have hf := MapF.find h a
  cases hfa : f a with
  | none =>
    have hfd := hf.1 hfa
    refine ⟨w.putMap b (.map es c), ?_, ⟨es, c, L, heap_putMap hlt _, h.ents, h.keys, ?_, h.len, h.born, h.past⟩, kept_putMap _ _ _⟩
    · unfold Builtin.delete_
      simp [Sem.run_bind, run_underlying hT, Result.andThen_ok, run_getMap h.heap, Q.check, run_findKeyL Q a w L es.toList h.ents, hfd, run_setMap h.heap]
    · rw [h.at_]
      funext k; unfold updF; split
      · rename_i e; rw [e, hfa]
      · rfl
  | some v0 =>
    obtain ⟨j, hfj, hj⟩ := hf.2 v0 hfa
    have hte : (es.eraseIdxIfInBounds j).toList = es.toList.eraseIdx j := by
      unfold Array.eraseIdxIfInBounds
      split
      · simp
      · rename_i hge
        rw [List.eraseIdx_of_length_le (by simpa using hge)]
    refine ⟨w.putMap b (.map (es.eraseIdxIfInBounds j) c), ?_, ⟨_, _, L.eraseIdx j, heap_putMap hlt _, ?_, h.keys.erase j, by rw [atL_erase h.keys hj, h.at_], ?_, ?_, ?_⟩, kept_putMap _ _ _⟩
    · unfold Builtin.delete_
      simp [Sem.run_bind, run_underlying hT, Result.andThen_ok, run_getMap h.heap, Q.check, run_findKeyL Q a w L es.toList h.ents, hfj, run_setMap h.heap]
    · have h2 := h.ents
      unfold entriesOf at h2 ⊢
      rw [hte, map_eraseIdx, h2, map_eraseIdx]
    · rw [List.length_eraseIdx_of_lt (List.getElem?_eq_some_iff.1 hj).1, h.len]; simp
    · rw [hte, map_eraseIdx]
      exact h.born.sublist (List.eraseIdx_sublist _ _)
    · intro e he
      rw [hte] at he
      exact h.past e (List.mem_of_mem_eraseIdx he)
/-- The entry at a key bears this stamp. -/
def Stamp (enc : κ → Value) (w : World) (b : Nat) (a : κ) (t : Nat) : Prop := ∃ (es : Array MapEntry) (clock i : Nat) (e : MapEntry), w.heap[b]? = some (.map es clock) ∧ es[i]? = some e ∧ e.key = enc a ∧ e.born = t
/-- The first step of a store: the entry is there, and its stamp is known. -/
theorem run_entryF (Q : KeyT P K enc) (hT : P.underlying T = some (.map K E)) (h : MapF enc w b f n) {v : Value} (hfa : f a = some v) :
    ∃ (w' : World) (t : Nat), (Instr.mapEntry T (.map (some b)) (enc a)).run P w = .ok (.tuple #[v, goInt t]) w' ∧ MapF enc w' b f n ∧ Stamp enc w' b a t ∧ Kept (fun i => i = b) w w' := by
  have hlt := h.lt
  obtain ⟨es, c, L, h⟩ := h
  obtain ⟨j, hfj, hj⟩ := (MapF.find h a).2 v hfa
  obtain ⟨e, he, hk1, hk2⟩ := h.ents.get hj
  have hes : es[j]? = some e := by rw [← Array.getElem?_toList]; exact he
  have hsz : j < es.size := (Array.getElem?_eq_some_iff.1 hes).1
  have hM := h.put_old hj v (fun e => { e with key := enc a }) (fun e' _ hv => ⟨rfl, hv⟩) (fun _ => rfl)
  rw [updF_same hfa] at hM
  refine ⟨w.putMap b (.map (es.modify j fun e => { e with key := enc a }) c), e.born, ?_, ⟨_, _, _, hM⟩, ⟨_, _, j, { e with key := enc a }, heap_putMap hlt _, ?_, rfl, rfl⟩, kept_putMap _ _ _⟩
  · unfold Instr.mapEntry
    simp only [Sem.run_bind, run_underlying hT, Result.andThen_ok, run_getMap h.heap, Q.check, run_findKeyL Q a w L es.toList h.ents, hfj, hes, Option.map_some, Option.getD_some, hk1]
    have hb := Q.bits a
    simp only [Instr.keyThatStays, hb, if_true, Sem.run_pure, Result.andThen_ok, run_setMap h.heap]
  · simp [Array.getElem?_modify, hes]
/-- Its second step. -/
theorem run_entryStoreF (h : MapF enc w b f n) {v0 : Value} (hfa : f a = some v0) {t : Nat} (hs : Stamp enc w b a t) (hinj : ∀ x y : κ, enc x = enc y → x = y) (v : Value) (T : TypeId) :
    ∃ w', (Instr.entryStore T (.map (some b)) (goInt t) v).run P w = .ok () w' ∧ MapF enc w' b (updF f a (some v)) n ∧ Kept (fun i => i = b) w w' := by
  have hlt := h.lt
  obtain ⟨es, c, L, h⟩ := h
  obtain ⟨es', c', i, e, e1, e2, e3, e4⟩ := hs
  rw [h.heap] at e1
  simp only [Option.some.injEq, Obj.map.injEq] at e1
  obtain ⟨rfl, rfl⟩ := e1
  have hi : i < es.size := (Array.getElem?_eq_some_iff.1 e2).1
  have hLl : L.length = es.size := by have := congrArg List.length h.ents; simpa using this.symm
  obtain ⟨⟨a', v'⟩, hL⟩ : ∃ p, L[i]? = some p := ⟨_, List.getElem?_eq_getElem (by omega)⟩
  obtain ⟨e', he', hk1, hk2⟩ := h.ents.get hL
  rw [Array.getElem?_toList, e2] at he'
  injection he' with he'
  subst he'
  have ha : a' = a := hinj _ _ (by rw [← hk1, e3])
  subst ha
  have hfi : es.findIdx? (fun e => (e.born : Int) == (t : Int)) = some i := by
    rw [Array.findIdx?_eq_some_iff_getElem]
    have hei : es[i] = e := (Array.getElem?_eq_some_iff.1 e2).2
    refine ⟨hi, by rw [hei, e4]; simp, fun j hj => ?_⟩
    have hjs : j < es.size := by omega
    intro hb
    have hb : (es[j]).born = t := Int.ofNat_inj.1 (by simpa using hb)
    have h1 : (es.toList.map (·.born))[j]? = some t := by rw [List.getElem?_map, Array.getElem?_toList, Array.getElem?_eq_getElem hjs, Option.map_some, hb]
    have h2 : (es.toList.map (·.born))[i]? = some t := by rw [List.getElem?_map, Array.getElem?_toList, e2, Option.map_some, e4]
    have := (List.getElem?_inj (by rw [List.length_map, Array.length_toList]; exact hjs) h.born).1 (h1.trans h2.symm)
    omega
  refine ⟨w.putMap b (.map (es.modify i fun e => { e with val := v }) c), ?_, ⟨_, _, _, h.put_old hL v _ (fun _ hk _ => ⟨hk, rfl⟩) (fun _ => rfl)⟩, kept_putMap _ _ _⟩
  unfold Instr.entryStore
  have hai : (asIntOf (goInt t)).run P w = .ok (.i64, (t : Int)) w := by rfl
  simp [Sem.run_bind, run_getMap h.heap, asInt, hai, hfi, run_setMap h.heap]

/-! The arms of a walk. -/
section arms
variable {ops : Array Oper} {rest : List Oper} {o : Oper} {st : Act} {Q0 : Exit → Act → World → Prop}
theorem exec_lookupF (Q : KeyT P K enc) (hT : P.underlying T = some (.map K E)) {z : Value} (hz : ∀ w, (zeroValue E).run P w = .ok z w) {x ix : Operand} {ok : Bool} (ho : o.op = .lookup T x ix ok)
    (h : MapF enc w b f n) (hx : st.eval x = .map (some b)) {a : κ} (hi : st.eval ix = enc a) : (execOp st.eval o).run P w = .ok (.value (lookF f a z ok)) w := by
  unfold execOp
  simp only [ho, hx, hi, Sem.run_bind, Sem.run_pure, Result.andThen_ok, run_lookupF Q hT (hz w) h a ok]
theorem wpList_lookupF (Q : KeyT P K enc) (hT : P.underlying T = some (.map K E)) {z : Value} (hz : ∀ w, (zeroValue E).run P w = .ok z w) (hgd : o.guard = none) (x ix : Operand) (ok : Bool) (ho : o.op = .lookup T x ix ok)
    (h : MapF enc w b f n) (hx : st.eval x = .map (some b)) (a : κ) (hi : st.eval ix = enc a) (k : wpList P ops Q0 rest (st.put o.dst (lookF f a z ok)) w) : wpList P ops Q0 (o :: rest) st w :=
  wpList_plain hgd fun K0 hK => by
    unfold Oper.wp execOp
    simp only [ho, hx, hi, Sem.run_bind, Sem.run_pure, Result.andThen_ok, run_lookupF Q hT (hz w) h a ok]
    exact hK _ _ k
theorem wpList_storeF (Q : KeyT P K enc) (hT : P.underlying T = some (.map K E)) (hgd : o.guard = none) (m ix x : Operand) (ho : o.op = .mapUpdate T m ix x)
    (h : MapF enc w b f n) (hm : st.eval m = .map (some b)) (a : κ) (hi : st.eval ix = enc a) (v : Value) (hv : st.eval x = v)
    (k : ∀ w', MapF enc w' b (updF f a (some v)) (if (f a).isSome then n else n + 1) → Kept (fun i => i = b) w w' → wpList P ops Q0 rest (st.put o.dst undef) w') : wpList P ops Q0 (o :: rest) st w :=
  wpList_plain hgd fun K0 hK => by
    obtain ⟨w', h1, h2, h3⟩ := run_storeF Q hT h a v
    unfold Oper.wp execOp
    simp only [ho, hm, hi, hv, Sem.run_bind, Sem.run_pure, Result.andThen_ok, h1]
    exact hK _ _ (k w' h2 h3)
theorem wpList_deleteF (Q : KeyT P K enc) (hT : P.underlying T = some (.map K E)) (hgd : o.guard = none) (m ix : Operand) (t2 : TypeId) (ho : o.op = .call { callee := .builtin .delete, args := #[m, ix], argTypes := #[T, t2] })
    (h : MapF enc w b f n) (hm : st.eval m = .map (some b)) (a : κ) (hi : st.eval ix = enc a)
    (k : ∀ w', MapF enc w' b (updF f a none) (if (f a).isSome then n - 1 else n) → Kept (fun i => i = b) w w' → wpList P ops Q0 rest (st.put o.dst (.tuple #[])) w') : wpList P ops Q0 (o :: rest) st w :=
  wpList_plain hgd fun K0 hK => by
    obtain ⟨w', h1, h2, h3⟩ := run_deleteF Q hT h a o.type t2
    unfold Oper.wp execOp
    simp only [ho, resolve, invoke, builtin, Sem.run_bind, Sem.run_pure, Result.andThen_ok, List.map_toArray, List.map_cons, List.map_nil, hm, hi, h1]
    exact hK _ _ (k w' h2 h3)
theorem wpList_entryF (Q : KeyT P K enc) (hT : P.underlying T = some (.map K E)) (hgd : o.guard = none) (m ix : Operand) (ho : o.op = .mapEntry T m ix)
    (h : MapF enc w b f n) (hm : st.eval m = .map (some b)) (a : κ) (hi : st.eval ix = enc a) {v : Value} (hfa : f a = some v)
    (k : ∀ w' (t : Nat), MapF enc w' b f n → Stamp enc w' b a t → Kept (fun i => i = b) w w' → wpList P ops Q0 rest (st.put o.dst (.tuple #[v, goInt t])) w') : wpList P ops Q0 (o :: rest) st w :=
  wpList_plain hgd fun K0 hK => by
    obtain ⟨w', t, h1, h2, h3, h4⟩ := run_entryF Q hT h hfa
    unfold Oper.wp execOp
    simp only [ho, hm, hi, Sem.run_bind, Sem.run_pure, Result.andThen_ok, h1]
    exact hK _ _ (k w' t h2 h3 h4)
theorem wpList_entryStoreF (hgd : o.guard = none) (m s x : Operand) (ho : o.op = .entryStore T m s x)
    (h : MapF enc w b f n) (hm : st.eval m = .map (some b)) {v0 : Value} (hfa : f a = some v0) {t : Nat} (hst : Stamp enc w b a t) (hs : st.eval s = goInt t) (hinj : ∀ x y : κ, enc x = enc y → x = y) (v : Value) (hv : st.eval x = v)
    (k : ∀ w', MapF enc w' b (updF f a (some v)) n → Kept (fun i => i = b) w w' → wpList P ops Q0 rest (st.put o.dst undef) w') : wpList P ops Q0 (o :: rest) st w :=
  wpList_plain hgd fun K0 hK => by
    obtain ⟨w', h1, h2, h3⟩ := run_entryStoreF (P := P) h hfa hst hinj v T
    unfold Oper.wp execOp
    simp only [ho, hm, hs, hv, Sem.run_bind, Sem.run_pure, Result.andThen_ok, h1]
    exact hK _ _ (k w' h2 h3)
end arms
end
end Go.Proofs.YtpncbggjngamgaaGreatDoor
namespace Go.Proofs.YtpncbggjngamgaaGreatDoor
set_option linter.unusedVariables false
open Go.RowKit

@[reducible] def OneE.v (x : OneE) : Value := .agg #[.int .u16 x.s.h.age, .int .u8 x.s.h.opts, .int .u8 x.s.h.typ, .int .u32 x.s.h.id, .int .u32 x.s.h.adv, .int .i32 x.s.h.seq, .int .u16 x.s.h.sum, .int .u16 x.s.h.len, .slice x.s.A x.s.n x.s.c, .int .i64 x.at_]
def zOne : OneE := ⟨⟨⟨0, 0, 0, 0, 0, 0, 0, 0⟩, none, 0, 0, []⟩, 0⟩
/-- A store: what is found at each key. -/
structure StF (w : World) (g bm : Nat) (most : Int) (f : Ky3 → Option OneE) (n : Nat) : Prop where
  blk : Blk w g 79 #[.map (some bm), .int .i64 most]
  map : MapF keyV w bm (fun k => (f k).map OneE.v) n
  good : ∀ k x, f k = some x → x.s.key = k ∧ x.s.rd w ∧ (0 ≤ x.at_ ∧ x.at_ ≤ 9223372036854775807)
theorem StF.later {w w' : World} {g bm : Nat} {most : Int} {f : Ky3 → Option OneE} {n : Nat} (h : StF w g bm most f n) (hb : Below w.heap.size w w') : StF w' g bm most f n :=
  ⟨h.blk.later hb, h.map.later hb, fun k x hk => ⟨(h.good k x hk).1, (h.good k x hk).2.1.later hb, (h.good k x hk).2.2⟩⟩
theorem exec_load_row {P : Program} {o : Oper} {a : Act} {w : World} {ty : TypeId} {x : Operand} (ho : o.op = .load ty x)
    {g : Nat} (hx : a.eval x = .pointer (some ⟨g, 0, none⟩)) {t : TypeId} {cs : Array Value} {d : TypeDesc} (hg : Blk w g t cs)
    (hu : P.underlying ty = some d) (hd : (match d with | .struct _ | .array _ _ => true | _ => false) = true) (hi : (P.info? ty).map (·.size) = some cs.size) :
    (execOp a.eval o).run P w = .ok (.value (.agg cs)) w := by
  unfold execOp
  simp only [ho, hx, Instr.loadAt, Instr.sureAddr, Sem.run_bind, Sem.run_pure, Result.andThen_ok, run_loadVar_row w g t ty cs (0, 0) d hg hu hd hi]
theorem info_one : (Tryz.prog.info? 98).map (·.size) = some 10 := by kernel_rfl
theorem zeroOne (w : World) : (zeroValue 98).run Tryz.prog w = .ok zOne.v w := by kernel_rfl
theorem maplen {T K E : TypeId} {enc : Ky3 → Value} {w : World} {b n : Nat} {f : Ky3 → Option Value} (hT : Tryz.prog.underlying T = some (.map K E)) (h : MapF enc w b f n) (ty : TypeId) : (Builtin.len_ #[T] ty #[.map (some b)]).run Tryz.prog w = .ok (.int .i64 (n : Int)) w := by
  obtain ⟨es, clock, L, h⟩ := h
  have hs : es.size = n := by
    have := congrArg List.length h.ents
    simp only [List.length_map, Array.length_toList] at this
    rw [this, h.len]
  simp [Builtin.len_, run_underlying hT, run_getMap h.heap, hs, goInt]
theorem stnone_any (w : World) (g bm : Nat) (hc : w.cell? ⟨g, 0, none⟩ = some (.map (some bm))) :
    Calls Tryz.prog 28 #[.pointer (some ⟨g, 0, none⟩)] w fun e w' => e = .returned (.bool false) ∧ w = w' := by
  have hE := fun W : World => run_eql_map_nil (P := Tryz.prog) W 77 68 98 (some bm) Tryz.underlying77
  simp only [Option.isNone_some] at hE
  go_enter Tryz.func28, Tryz.ntmps28
  go_wp2
  go_ret
  exact ⟨rfl, rfl⟩
theorem stnew_any (m : Int) (w : World) (h0 : 1 ≤ m) (h1 : m ≤ 4096) : Calls Tryz.prog 6 #[.int .i64 m] w fun e w' => ∃ g bm, e = .returned (.pointer (some ⟨g, 0, none⟩)) ∧ StF w' g bm m (fun _ => none) 0 ∧ w.heap.size ≤ g ∧ w.heap.size ≤ bm ∧ Below w.heap.size w w' := by
  have hmm := @run_makeMap Tryz.prog
  have d1 : decide (m < 1) = false := decide_eq_false (by omega)
  have d2 : decide (4096 < m) = false := decide_eq_false (by omega)
  go_enter Tryz.func6, Tryz.ntmps6
  go_wp2
  go_ret
  refine ⟨_, w.heap.size, rfl, ⟨new_at _ _ _, (MapF.new keyV w).later ((Below.refl _ _).alloc (Nat.le_refl _) _), fun k x h => by cases h⟩, Nat.le_succ _, Nat.le_refl _, below_two _ _ _⟩
theorem stlen_any (w : World) (g bm : Nat) (most : Int) (f : Ky3 → Option OneE) (n : Nat) (q : StF w g bm most f n) :
    Calls Tryz.prog 9 #[.pointer (some ⟨g, 0, none⟩)] w fun e w' => e = .returned (.int .i64 (n : Int)) ∧ w = w' := by
  have h0 : w.cell? ⟨g, 0, none⟩ = some (.map (some bm)) := q.blk.cell 0
  have HN := Lib.hid (stnone_any w g bm h0)
  have hl := maplen (T := 77) Tryz.underlying77 q.map
  clear q
  go_enter Tryz.func9, Tryz.ntmps9
  go_wp2_with (go_at_call 28; refine HN.out.mono ?_; rintro e w' ⟨rfl, rfl⟩)
  go_ret
  exact ⟨rfl, rfl⟩
theorem lookS (f : Ky3 → Option OneE) (k : Ky3) : ∃ x b, lookF (fun k => (f k).map OneE.v) k zOne.v true = .tuple #[OneE.v x, .bool b] ∧ ((f k = some x ∧ b = true) ∨ (f k = none ∧ b = false ∧ x = zOne)) := by
  unfold lookF
  cases h : f k with
  | none => exact ⟨zOne, false, by simp [h], .inr ⟨rfl, rfl, rfl⟩⟩
  | some x => exact ⟨x, true, by simp [h], .inl ⟨rfl, rfl⟩⟩
set_option maxRecDepth 100000 in
set_option maxHeartbeats 4000000 in
theorem stwhen_any (w : World) (g bm : Nat) (most : Int) (f : Ky3 → Option OneE) (n : Nat) (q : StF w g bm most f n) (k : Ky3) :
    Calls Tryz.prog 26 #[.pointer (some ⟨g, 0, none⟩), keyV k] w fun e w' => e = .returned (.tuple #[.int .i64 ((f k).getD zOne).at_, .bool (f k).isSome]) ∧ Below w.heap.size w w' := by
  obtain ⟨k1, k2, k3⟩ := k
  have hb0 : Below w.heap.size w (w.alloc (.cells #[.int .u8 k1, .int .u32 k2, .int .u32 k3] 68)) := (Below.refl _ _).alloc (Nat.le_refl _) _
  have HQ := Lib.hid (q.later hb0)
  have HK0 : Hid (Blk (w.alloc (.cells #[.int .u8 k1, .int .u32 k2, .int .u32 k3] 68)) w.heap.size 68 #[.int .u8 k1, .int .u32 k2, .int .u32 k3]) := Lib.hid (Blk.new _ _ _)
  have HB0 := Lib.hid hb0
  have HN := Lib.hid (stnone_any _ g bm (show (w.alloc (.cells #[.int .u8 k1, .int .u32 k2, .int .u32 k3] 68)).cell? ⟨g, 0, none⟩ = some (.map (some bm)) from HQ.out.blk.cell 0))
  obtain ⟨x, b, hx, hxb⟩ := lookS f (k1, k2, k3)
  obtain ⟨⟨⟨yage, yopts, ytyp, yid, yadv, yseq, ysum, ylen⟩, yA, yn, yc, yB⟩, yat⟩ := x
  have HLK := Lib.hid hx
  have HXB := Lib.hid hxb
  clear q hb0 hx hxb
  go_enter Tryz.func26, Tryz.ntmps26
  go_wp2_with (go_at_call 28; refine HN.out.mono ?_; rintro e w' ⟨rfl, rfl⟩)
  generalize w.alloc (.cells #[.int .u8 k1, .int .u32 k2, .int .u32 k3] 68) = w1 at *
  generalize hgk : w.heap.size = gk at *
  refine wp_region_s (fun W : World => Blk W g 79 #[.map (some bm), .int .i64 most] ∧ Blk W gk 68 #[.int .u8 k1, .int .u32 k2, .int .u32 k3] ∧ MapF keyV W bm (fun k => (f k).map OneE.v) n) [(0, true), (1, true), (2, true), (3, true), (4, true), (5, true), (6, true), (7, true), (8, true), (9, false), (10, false), (11, true)] (by kernel_rfl) (fun _ d _ _ _ h => by cases d <;> exact h) ?_
  simp only [List.map_cons, List.map_nil, nthOp_zero, nthOp_succ]
  have HS : Hid ((fun W : World => Blk W g 79 #[.map (some bm), .int .i64 most] ∧ Blk W gk 68 #[.int .u8 k1, .int .u32 k2, .int .u32 k3] ∧ MapF keyV W bm (fun k => (f k).map OneE.v) n) w1.drew) := Lib.hid ⟨(HQ.out.later (Below.refl _ _).drew).blk, HK0.out.later (Below.refl _ _).drew, (HQ.out.later (Below.refl _ _).drew).map⟩
  have hbd : Below w1.heap.size w1 w1.drew := (Below.refl _ _).drew
  have HBD := Lib.hid hbd
  clear hbd
  generalize hwd : w1.drew = w2 at *
  clear hwd
  refine wpS_take HS (by kernel_rfl) (by intro W hW; have j0 := hW.1.cell 0; have j1 := hW.1.cell 1; simp only [List.getElem?_toArray, List.getElem?_cons_zero, List.getElem?_cons_succ] at j0 j1; clear hW; go_simp; try with_reducible rfl) ?_
  refine wpS_take HS (by kernel_rfl) (by intro W hW; have j0 := hW.1.cell 0; have j1 := hW.1.cell 1; simp only [List.getElem?_toArray, List.getElem?_cons_zero, List.getElem?_cons_succ] at j0 j1; clear hW; go_simp; try with_reducible rfl) ?_
  refine wpS_take HS (by kernel_rfl) (by intro W hW; have j0 := hW.1.cell 0; have j1 := hW.1.cell 1; simp only [List.getElem?_toArray, List.getElem?_cons_zero, List.getElem?_cons_succ] at j0 j1; clear hW; go_simp; try with_reducible rfl) ?_
  refine wpS_take HS (by kernel_rfl) (by intro W hW; have j0 := hW.1.cell 0; have j1 := hW.1.cell 1; simp only [List.getElem?_toArray, List.getElem?_cons_zero, List.getElem?_cons_succ] at j0 j1; clear hW; go_simp; try with_reducible rfl) ?_
  refine wpS_take HS (by kernel_rfl) (fun W hW => exec_load_row rfl rfl hW.2.1 Tryz.underlying68 rfl info_key3) ?_
  refine wpS_take HS (by kernel_rfl) (fun W hW => exec_lookupF (a := (k1, k2, k3)) keyT Tryz.underlying77 zeroOne rfl hW.2.2 rfl rfl) ?_
  simp only [HLK.out]
  refine wpS_take HS (by kernel_rfl) (by intro W hW; have j0 := hW.1.cell 0; have j1 := hW.1.cell 1; simp only [List.getElem?_toArray, List.getElem?_cons_zero, List.getElem?_cons_succ] at j0 j1; clear hW; go_simp; try with_reducible rfl) ?_
  refine wpS_take HS (by kernel_rfl) (by intro W hW; have j0 := hW.1.cell 0; have j1 := hW.1.cell 1; simp only [List.getElem?_toArray, List.getElem?_cons_zero, List.getElem?_cons_succ] at j0 j1; clear hW; go_simp; try with_reducible rfl) ?_
  refine wpS_take HS (by kernel_rfl) (by intro W hW; have j0 := hW.1.cell 0; have j1 := hW.1.cell 1; simp only [List.getElem?_toArray, List.getElem?_cons_zero, List.getElem?_cons_succ] at j0 j1; clear hW; go_simp; try with_reducible rfl) ?_
  refine wpS_do fun K hK => ?_
  go_wp2
  have hba : Below w2.heap.size w2 (w2.alloc (.cells #[.int .u16 0, .int .u8 0, .int .u8 0, .int .u32 0, .int .u32 0, .int .i32 0, .int .u16 0, .int .u16 0, .slice none 0 0, .int .i64 0] 98)) := (Below.refl _ _).alloc (Nat.le_refl _) _
  refine hK.out _ _ ⟨HS.out.1.later hba, HS.out.2.1.later hba, HS.out.2.2.later hba⟩ ?_
  clear hK K hba
  refine wpS_do fun K hK => ?_
  go_wp2_with (go_must (refine wpList_store_row rfl 98 _ _ rfl w2.heap.size #[.int .u16 yage, .int .u8 yopts, .int .u8 ytyp, .int .u32 yid, .int .u32 yadv, .int .i32 yseq, .int .u16 ysum, .int .u16 ylen, .slice yA yn yc, .int .i64 yat] rfl rfl 98 _ (heap_alloc_new w2 _) info_one rfl (by simp [Value.oneCell']) ?_; rw [World.setRow_alloc_new]))
  have hb1 : Below w2.heap.size w2 (w2.alloc (.cells #[.int .u16 yage, .int .u8 yopts, .int .u8 ytyp, .int .u32 yid, .int .u32 yadv, .int .i32 yseq, .int .u16 ysum, .int .u16 ylen, .slice yA yn yc, .int .i64 yat] 98)) := (Below.refl _ _).alloc (Nat.le_refl _) _
  have HX : Hid (Blk (w2.alloc (.cells #[.int .u16 yage, .int .u8 yopts, .int .u8 ytyp, .int .u32 yid, .int .u32 yadv, .int .i32 yseq, .int .u16 ysum, .int .u16 ylen, .slice yA yn yc, .int .i64 yat] 98)) w2.heap.size 98 #[.int .u16 yage, .int .u8 yopts, .int .u8 ytyp, .int .u32 yid, .int .u32 yadv, .int .i32 yseq, .int .u16 ysum, .int .u16 ylen, .slice yA yn yc, .int .i64 yat]) := Lib.hid (Blk.new _ _ _)
  replace HS : Hid ((fun W : World => Blk W g 79 #[.map (some bm), .int .i64 most] ∧ Blk W gk 68 #[.int .u8 k1, .int .u32 k2, .int .u32 k3] ∧ MapF keyV W bm (fun k => (f k).map OneE.v) n) (w2.alloc (.cells #[.int .u16 yage, .int .u8 yopts, .int .u8 ytyp, .int .u32 yid, .int .u32 yadv, .int .i32 yseq, .int .u16 ysum, .int .u16 ylen, .slice yA yn yc, .int .i64 yat] 98))) := Lib.hid ⟨HS.out.1.later hb1, HS.out.2.1.later hb1, HS.out.2.2.later hb1⟩
  have HB1 := Lib.hid hb1
  clear hb1
  refine hK.out _ _ HS.out ?_
  clear hK K
  generalize hg1 : w2.alloc (.cells #[.int .u16 yage, .int .u8 yopts, .int .u8 ytyp, .int .u32 yid, .int .u32 yadv, .int .i32 yseq, .int .u16 ysum, .int .u16 ylen, .slice yA yn yc, .int .i64 yat] 98) = w3 at *
  clear hg1
  generalize hgx : w2.heap.size = gx at *
  refine wpS_take HS (by kernel_rfl) (by intro W hW; have j0 := hW.1.cell 0; have j1 := hW.1.cell 1; simp only [List.getElem?_toArray, List.getElem?_cons_zero, List.getElem?_cons_succ] at j0 j1; clear hW; go_simp; try with_reducible rfl) ?_
  refine wpS_nil ?_
  go_simp
  have j9 : w3.cell? ⟨gx, 9, none⟩ = some (.int .i64 yat) := HX.out.cell 9
  go_wp2
  go_ret2
  subst hgk
  subst hgx
  refine ⟨?_, below_then (below_then HB0.out HBD.out) HB1.out⟩
  rcases HXB.out with ⟨h, rfl⟩ | ⟨h, rfl, h2⟩
  · rw [h]; rfl
  · have e : yat = 0 := congrArg OneE.at_ h2
    rw [h, e]; rfl
end Go.Proofs.YtpncbggjngamgaaGreatDoor
namespace Go.Proofs.YtpncbggjngamgaaGreatDoor
set_option linter.unusedVariables false
open Go.RowKit

def OneE.headAt (x : OneE) (t : Int) : Hd := ⟨x.age t, x.s.h.opts, x.s.h.typ, x.s.h.id, x.s.h.adv, x.s.h.seq, x.s.h.sum, x.s.h.len⟩
theorem own_cells {w : World} {base size n g : Nat} {e t : TypeId} {v : Value} {xs : List Value} {cs : Array Value} (h : w.ownsRow base e size v n xs) (hg : Blk w g t cs) (hne : e ≠ t) (i : Nat) (u : Value) : (w.setCell ⟨g, i, none⟩ u).ownsRow base e size v n xs :=
  ownsRow_setCell_other h (a := ⟨g, i, none⟩) ((OwnW.of_own h).ne_blk hg hne) u
theorem own_row {w : World} {base size n g : Nat} {e t : TypeId} {v : Value} {xs : List Value} {cs : Array Value} (h : w.ownsRow base e size v n xs) (hg : Blk w g t cs) (hne : e ≠ t) (cs' : Array Value) : (w.setRow g cs').ownsRow base e size v n xs := by
  have hn := (OwnW.of_own h).ne_blk hg hne
  refine ⟨h.1, ?_⟩
  rcases h.2 with h | ⟨g2, cap, cur, hv, hb, hk, r⟩
  · exact .inl h
  · refine .inr ⟨g2, cap, cur, hv, hb, ?_, r⟩
    have hne2 : g2 ≠ g := fun e1 => hn (by rw [hv, e1]; rfl)
    exact (Blk.setRow_far (show Blk w g2 e cur from hk) hne2 cs')
def ThenAt (w w' : World) (x : OneE) (now : Int) (e : Ending) : Prop :=
  ∃ s' : SE, e = .returned s'.v ∧ s'.h = x.headAt now ∧ s'.ok w.heap.size w' ∧ s'.B = x.s.B ∧ s'.n = x.s.n ∧ Below w.heap.size w w'
theorem own_shape_n {w : World} {base size n : Nat} {e : TypeId} {v : Value} {xs : List Value} (h : w.ownsRow base e size v n xs) : ∃ A c, v = .slice A n c ∧ n ≤ c ∧ c ≤ 9223372036854775807 ∧ Reads w w.heap.size size A n xs := by
  have hh := h
  rcases h.2 with ⟨rfl, rfl⟩ | ⟨g', cap, cur, rfl, _, hk, hc, hm, _⟩
  · exact ⟨none, 0, rfl, Nat.le_refl _, by omega, Reads.of_own hh⟩
  · exact ⟨some ⟨g', 0, none⟩, cap, rfl, hc, by unfold maxLen at hm; exact hm, Reads.of_own hh⟩
set_option maxRecDepth 100000 in
set_option maxHeartbeats 8000000 in
theorem then_any (x : OneE) (now : Int) (w : World) (hx : x.s.rd w) (ha : 0 ≤ x.at_ ∧ x.at_ ≤ 9223372036854775807) (hn : 0 ≤ now ∧ now ≤ 9223372036854775807) :
    Calls Tryz.prog 62 #[x.v, .int .i64 now] w fun e w' => ThenAt w w' x now e := by
  obtain ⟨⟨⟨yage, yopts, ytyp, yid, yadv, yseq, ysum, ylen⟩, yA, yn, yc, yB⟩, yat⟩ := x
  simp only at ha
  have HX := Lib.hid hx
  have H2 : Hid (Blk ((w.alloc (.cells #[.int .u16 yage, .int .u8 yopts, .int .u8 ytyp, .int .u32 yid, .int .u32 yadv, .int .i32 yseq, .int .u16 ysum, .int .u16 ylen, .slice yA yn yc, .int .i64 yat] 98)).alloc (.cells #[.int .u16 0, .int .u8 0, .int .u8 0, .int .u32 0, .int .u32 0, .int .i32 0, .int .u16 0, .int .u16 0, .slice none 0 0] 61)) w.heap.size 98 #[.int .u16 yage, .int .u8 yopts, .int .u8 ytyp, .int .u32 yid, .int .u32 yadv, .int .i32 yseq, .int .u16 ysum, .int .u16 ylen, .slice yA yn yc, .int .i64 yat] ∧ Blk ((w.alloc (.cells #[.int .u16 yage, .int .u8 yopts, .int .u8 ytyp, .int .u32 yid, .int .u32 yadv, .int .i32 yseq, .int .u16 ysum, .int .u16 ylen, .slice yA yn yc, .int .i64 yat] 98)).alloc (.cells #[.int .u16 0, .int .u8 0, .int .u8 0, .int .u32 0, .int .u32 0, .int .i32 0, .int .u16 0, .int .u16 0, .slice none 0 0] 61)) (w.heap.size + 1) 61 #[.int .u16 0, .int .u8 0, .int .u8 0, .int .u32 0, .int .u32 0, .int .i32 0, .int .u16 0, .int .u16 0, .slice none 0 0] ∧ Below w.heap.size w ((w.alloc (.cells #[.int .u16 yage, .int .u8 yopts, .int .u8 ytyp, .int .u32 yid, .int .u32 yadv, .int .i32 yseq, .int .u16 ysum, .int .u16 ylen, .slice yA yn yc, .int .i64 yat] 98)).alloc (.cells #[.int .u16 0, .int .u8 0, .int .u8 0, .int .u32 0, .int .u32 0, .int .i32 0, .int .u16 0, .int .u16 0, .slice none 0 0] 61))) := Lib.hid ⟨(Blk.new w 98 #[.int .u16 yage, .int .u8 yopts, .int .u8 ytyp, .int .u32 yid, .int .u32 yadv, .int .i32 yseq, .int .u16 ysum, .int .u16 ylen, .slice yA yn yc, .int .i64 yat]).alloc _, new_at w _ _, below_two w _ _⟩
  have HA := Lib.hid (show 0 ≤ yage ∧ yage ≤ 65535 from hx.head.age)
  clear hx
  go_enter Tryz.func62, Tryz.ntmps62
  go_wp2_with fail
  have hs2 : ((w.alloc (.cells #[.int .u16 yage, .int .u8 yopts, .int .u8 ytyp, .int .u32 yid, .int .u32 yadv, .int .i32 yseq, .int .u16 ysum, .int .u16 ylen, .slice yA yn yc, .int .i64 yat] 98)).alloc (.cells #[.int .u16 0, .int .u8 0, .int .u8 0, .int .u32 0, .int .u32 0, .int .i32 0, .int .u16 0, .int .u16 0, .slice none 0 0] 61)).heap.size = w.heap.size + 1 + 1 := by simp
  generalize (w.alloc (.cells #[.int .u16 yage, .int .u8 yopts, .int .u8 ytyp, .int .u32 yid, .int .u32 yadv, .int .i32 yseq, .int .u16 ysum, .int .u16 ylen, .slice yA yn yc, .int .i64 yat] 98)).alloc (.cells #[.int .u16 0, .int .u8 0, .int .u8 0, .int .u32 0, .int .u32 0, .int .i32 0, .int .u16 0, .int .u16 0, .slice none 0 0] 61) = w1 at *
  have hb2 := (Below.refl w1.heap.size w1).alloc (Nat.le_refl _) (.cells #[.int .u16 yage, .int .u8 yopts, .int .u8 ytyp, .int .u32 yid, .int .u32 yadv, .int .i32 yseq, .int .u16 ysum, .int .u16 ylen, .slice yA yn yc] 61)
  have HO := Lib.hid (H2.out.1.later hb2)
  have HR := Lib.hid (H2.out.2.1.later hb2)
  have hst := Blk.new w1 61 #[.int .u16 yage, .int .u8 yopts, .int .u8 ytyp, .int .u32 yid, .int .u32 yadv, .int .i32 yseq, .int .u16 ysum, .int .u16 ylen, .slice yA yn yc]
  rw [hs2] at hst
  have HSt := Lib.hid hst
  have HB2 := Lib.hid (below_then H2.out.2.2 hb2)
  have HX2 := Lib.hid (HX.out.later HB2.out)
  clear hb2 hst hs2 H2
  generalize w1.alloc (.cells #[.int .u16 yage, .int .u8 yopts, .int .u8 ytyp, .int .u32 yid, .int .u32 yadv, .int .i32 yseq, .int .u16 ysum, .int .u16 ylen, .slice yA yn yc] 61) = w2 at *
  obtain ⟨gx, hgx⟩ : ∃ gx, w.heap.size = gx := ⟨_, rfl⟩
  rw [hgx] at HO HR HSt HB2 ⊢
  refine (clone_any yA yn yc yB w2 HX2.out.body (by have := HX2.out.len; simp only at this; omega)).mono ?_
  rintro e w3 ⟨v, rfl, hown, hb3⟩
  have hbl : yB.length = yn := HX.out.bl
  rw [hbl] at hown
  obtain ⟨vA, vc, rfl, hvc, hvm, hvr⟩ := own_shape_n hown
  have HW := Lib.hid (own_mono hown (by have := HB2.out.size; omega : w.heap.size ≤ w2.heap.size))
  replace HO := Lib.hid (HO.out.later hb3)
  replace HR := Lib.hid (HR.out.later hb3)
  replace HSt := Lib.hid (HSt.out.later hb3)
  have HB3 : Hid (Below gx w w3) := Lib.hid (HB2.out.trans (hb3.mono (by have := HB2.out.size; omega)))
  have hvs := hvr
  clear hown hb3 HB2 HX2 hvr
  have c8 := HSt.out.cell 8; have f8 := HSt.out.frozen 8
  simp only [List.getElem?_toArray, List.getElem?_cons_zero, List.getElem?_cons_succ] at c8
  have HSx : Hid (Blk (w3.setCell ⟨gx + 1 + 1, 8, none⟩ (.slice vA yn vc)) (gx + 1 + 1) 61 #[.int .u16 yage, .int .u8 yopts, .int .u8 ytyp, .int .u32 yid, .int .u32 yadv, .int .i32 yseq, .int .u16 ysum, .int .u16 ylen, .slice vA yn vc]) := Lib.hid (HSt.out.set_ 8 (.slice vA yn vc))
  have HO4 : Hid (Blk (w3.setCell ⟨gx + 1 + 1, 8, none⟩ (.slice vA yn vc)) gx 98 #[.int .u16 yage, .int .u8 yopts, .int .u8 ytyp, .int .u32 yid, .int .u32 yadv, .int .i32 yseq, .int .u16 ysum, .int .u16 ylen, .slice yA yn yc, .int .i64 yat]) := Lib.hid (HO.out.far (p := ⟨gx + 1 + 1, 8, none⟩) (by simp; omega) _)
  have HR5 : Hid (Blk (w3.setCell ⟨gx + 1 + 1, 8, none⟩ (.slice vA yn vc)) (gx + 1) 61 #[.int .u16 0, .int .u8 0, .int .u8 0, .int .u32 0, .int .u32 0, .int .i32 0, .int .u16 0, .int .u16 0, .slice none 0 0]) := Lib.hid (HR.out.far (p := ⟨gx + 1 + 1, 8, none⟩) (by simp) _)
  have HB5 : Hid (Below gx w (w3.setCell ⟨gx + 1 + 1, 8, none⟩ (.slice vA yn vc))) := Lib.hid (HB3.out.setCell (p := ⟨gx + 1 + 1, 8, none⟩) (by simp; omega) _)
  have o9 : (w3.setCell ⟨gx + 1 + 1, 8, none⟩ (.slice vA yn vc)).cell? ⟨gx, 9, none⟩ = some (.int .i64 yat) := HO4.out.cell 9
  by_cases hlt : yat < now
  · have dlt : decide (yat < now) = true := decide_eq_true hlt
    have s0 : (w3.setCell ⟨gx + 1 + 1, 8, none⟩ (.slice vA yn vc)).cell? ⟨gx + 1 + 1, 0, none⟩ = some (.int .u16 yage) := HSx.out.cell 0
    have f0 := HSx.out.frozen 0
    have hwr : IntKind.i64.wrap (now - yat) = now - yat := by rw [IntKind.wrap_i64]; omega
    have HS6 : Hid (Blk ((w3.setCell ⟨gx + 1 + 1, 8, none⟩ (.slice vA yn vc)).setCell ⟨gx + 1 + 1, 0, none⟩ (.int .u16 (laterA yage (now - yat)))) (gx + 1 + 1) 61 #[.int .u16 (laterA yage (now - yat)), .int .u8 yopts, .int .u8 ytyp, .int .u32 yid, .int .u32 yadv, .int .i32 yseq, .int .u16 ysum, .int .u16 ylen, .slice vA yn vc]) := Lib.hid (HSx.out.set_ 0 _)
    have HR6 : Hid (Blk ((w3.setCell ⟨gx + 1 + 1, 8, none⟩ (.slice vA yn vc)).setCell ⟨gx + 1 + 1, 0, none⟩ (.int .u16 (laterA yage (now - yat)))) (gx + 1) 61 #[.int .u16 0, .int .u8 0, .int .u8 0, .int .u32 0, .int .u32 0, .int .i32 0, .int .u16 0, .int .u16 0, .slice none 0 0]) := Lib.hid (HR5.out.far (p := ⟨gx + 1 + 1, 0, none⟩) (by simp) _)
    have HB6 : Hid (Below gx w ((w3.setCell ⟨gx + 1 + 1, 8, none⟩ (.slice vA yn vc)).setCell ⟨gx + 1 + 1, 0, none⟩ (.int .u16 (laterA yage (now - yat))))) := Lib.hid (HB5.out.setCell (p := ⟨gx + 1 + 1, 0, none⟩) (by simp; omega) _)
    have HOW := Lib.hid (own_cells (own_cells HW.out HSt.out (by decide) 8 (.slice vA yn vc)) HSx.out (by decide) 0 (.int .u16 (laterA yage (now - yat))))
    go_wp2_with (first
      | (go_at_call 78; refine (age_any yage (now - yat) _ HA.out.1 HA.out.2).mono ?_; rintro e w' ⟨rfl, rfl⟩)
      | (refine wpList_load_row rfl 61 _ rfl (gx + 1 + 1) rfl 61 #[.int .u16 (laterA yage (now - yat)), .int .u8 yopts, .int .u8 ytyp, .int .u32 yid, .int .u32 yadv, .int .i32 yseq, .int .u16 ysum, .int .u16 ylen, .slice vA yn vc] (0, 0) _ HS6.out Tryz.underlying61 rfl info_state ?_)
      | (refine wpList_store_row rfl 61 _ _ rfl (gx + 1) #[.int .u16 (laterA yage (now - yat)), .int .u8 yopts, .int .u8 ytyp, .int .u32 yid, .int .u32 yadv, .int .i32 yseq, .int .u16 ysum, .int .u16 ylen, .slice vA yn vc] rfl rfl 61 _ HR6.out info_state rfl (by simp [Value.oneCell']) ?_))
    refine bodyPost_ret (results_cell_row rfl _ _ (gx + 1) 61 #[.int .u16 (laterA yage (now - yat)), .int .u8 yopts, .int .u8 ytyp, .int .u32 yid, .int .u32 yadv, .int .i32 yseq, .int .u16 ysum, .int .u16 ylen, .slice vA yn vc] (0, 0) _ rfl (HR6.out.setRow _) Tryz.underlying61 rfl info_state) rfl ?_
    refine ⟨⟨⟨laterA yage (now - yat), yopts, ytyp, yid, yadv, yseq, ysum, ylen⟩, vA, yn, vc, yB⟩, rfl, rfl, ?_, rfl, rfl, by rw [hgx]; exact below_setRow HB6.out (by omega) _⟩
    have hh := HX.out.head
    exact ⟨⟨laterA_rng HA.out.1 HA.out.2, hh.opts, hh.typ, hh.id, hh.adv, hh.seq, hh.sum, hh.len⟩, own_row HOW.out HR6.out (by decide) _, HX.out.oct, HX.out.len⟩
  · have dlt : decide (yat < now) = false := decide_eq_false hlt
    have HOW := Lib.hid (own_cells HW.out HSt.out (by decide) 8 (.slice vA yn vc))
    go_wp2_with (first
      | (refine wpList_load_row rfl 61 _ rfl (gx + 1 + 1) rfl 61 #[.int .u16 yage, .int .u8 yopts, .int .u8 ytyp, .int .u32 yid, .int .u32 yadv, .int .i32 yseq, .int .u16 ysum, .int .u16 ylen, .slice vA yn vc] (0, 0) _ HSx.out Tryz.underlying61 rfl info_state ?_)
      | (refine wpList_store_row rfl 61 _ _ rfl (gx + 1) #[.int .u16 yage, .int .u8 yopts, .int .u8 ytyp, .int .u32 yid, .int .u32 yadv, .int .i32 yseq, .int .u16 ysum, .int .u16 ylen, .slice vA yn vc] rfl rfl 61 _ HR5.out info_state rfl (by simp [Value.oneCell']) ?_))
    refine bodyPost_ret (results_cell_row rfl _ _ (gx + 1) 61 #[.int .u16 yage, .int .u8 yopts, .int .u8 ytyp, .int .u32 yid, .int .u32 yadv, .int .i32 yseq, .int .u16 ysum, .int .u16 ylen, .slice vA yn vc] (0, 0) _ rfl (HR5.out.setRow _) Tryz.underlying61 rfl info_state) rfl ?_
    have hage : laterA yage (now - yat) = yage := laterA_same (.inr (by omega))
    refine ⟨⟨⟨yage, yopts, ytyp, yid, yadv, yseq, ysum, ylen⟩, vA, yn, vc, yB⟩, rfl, ?_, ?_, rfl, rfl, by rw [hgx]; exact below_setRow HB5.out (by omega) _⟩
    · show _ = (⟨laterA yage (now - yat), yopts, ytyp, yid, yadv, yseq, ysum, ylen⟩ : Hd)
      rw [hage]
    · have hh := HX.out.head
      exact ⟨hh, own_row HOW.out HR5.out (by decide) _, HX.out.oct, HX.out.len⟩
end Go.Proofs.YtpncbggjngamgaaGreatDoor
namespace Go.Proofs.YtpncbggjngamgaaGreatDoor
set_option linter.unusedVariables false
open Go.RowKit

def updK (f : Ky3 → Option OneE) (k : Ky3) (v : OneE) : Ky3 → Option OneE := fun k' => if k' = k then some v else f k'
theorem updK_map (f : Ky3 → Option OneE) (k : Ky3) (v : OneE) : updF (fun k => (f k).map OneE.v) k (some v.v) = fun k' => (updK f k v k').map OneE.v := by
  funext k'
  unfold updF updK
  split <;> rfl
theorem rd_ne_map {w : World} {x : SE} {bm n : Nat} {F : Ky3 → Option Value} (h : x.rd w) (hm : MapF keyV w bm F n) : 0 < x.n → ∀ ad, x.A = some ad → ad.block ≠ bm := by
  intro h0 ad hA e
  obtain ⟨ad', hA', _, hc⟩ := h.body.2 h0
  rw [hA] at hA'
  injection hA' with hA'
  subst hA'
  obtain ⟨es, clock, L, hm⟩ := hm
  have hl := h.bl
  have h1 := hc 0 ((u8s x.B)[0]'(by rw [u8s_length]; omega)) (List.getElem?_eq_getElem _)
  unfold World.cell? at h1
  rw [show (ad.add 0).block = bm from e, hm.heap] at h1
  cases h1
theorem SE.rd.kept2 {R : Nat → Prop} {w w' : World} {s : SE} (h : s.rd w) (k : Kept R w w') (hn : 0 < s.n → ∀ ad, s.A = some ad → ¬ R ad.block) : s.rd w' := ⟨h.head, h.body.keptUp k hn, h.oct, h.cap, h.len⟩
theorem own_ne_mapF {w : World} {base sz n : Nat} {te : TypeId} {v : Value} {xs : List Value} {bm m : Nat} {F : Ky3 → Option Value} (h : w.ownsRow base te sz v n xs) (hm : MapF keyV w bm F m) : ∀ i, v.ownBlock = some i → ¬ (i = bm) := by
  intro i hi
  rcases h.2 with ⟨rfl, _⟩ | ⟨g', cap, cur, rfl, _, hh, _⟩
  · simp [Value.ownBlock] at hi
  · have : g' = i := by simpa [Value.ownBlock] using hi
    subst this
    exact fun e => hm.ne_blk (show Blk w g' te cur from hh) e.symm
def PutAtO (w w' : World) (g bm : Nat) (most : Int) (f : Ky3 → Option OneE) (n : Nat) (x : SE) (now : Int) (e : Ending) : Prop :=
  ∃ x' : SE, e = .returned (.int .i64 0) ∧ x'.h = x.h ∧ x'.B = x.B ∧ x'.n = x.n ∧ StF w' g bm most (updK f x.key ⟨x', now⟩) (if (f x.key).isSome then n else n + 1) ∧ Kept (fun i => i = bm) w w' ∧ x'.ok w.heap.size w'
set_option maxRecDepth 100000 in
set_option maxHeartbeats 8000000 in
theorem stputo_any (w : World) (g bm : Nat) (most : Int) (f : Ky3 → Option OneE) (n : Nat) (q : StF w g bm most f n) (x : SE) (hx : x.rd w) (now : Int) (hn : 0 ≤ now ∧ now ≤ 9223372036854775807) (hroom : (f x.key).isSome = true ∨ (n : Int) < most) :
    Calls Tryz.prog 13 #[.pointer (some ⟨g, 0, none⟩), .int .i64 now, x.v] w fun e w' => PutAtO w w' g bm most f n x now e := by
  obtain ⟨⟨xage, xopts, k1, k2, k3, xseq, xsum, xlen⟩, xA, xn, xc, xB⟩ := x
  have hb0 : Below w.heap.size w (w.alloc (.cells #[.int .u16 xage, .int .u8 xopts, .int .u8 k1, .int .u32 k2, .int .u32 k3, .int .i32 xseq, .int .u16 xsum, .int .u16 xlen, .slice xA xn xc] 61)) := (Below.refl _ _).alloc (Nat.le_refl _) _
  have HQ := Lib.hid q
  have HX := Lib.hid hx
  have HBx : Hid (Blk (w.alloc (.cells #[.int .u16 xage, .int .u8 xopts, .int .u8 k1, .int .u32 k2, .int .u32 k3, .int .i32 xseq, .int .u16 xsum, .int .u16 xlen, .slice xA xn xc] 61)) w.heap.size 61 #[.int .u16 xage, .int .u8 xopts, .int .u8 k1, .int .u32 k2, .int .u32 k3, .int .i32 xseq, .int .u16 xsum, .int .u16 xlen, .slice xA xn xc]) := Lib.hid (Blk.new _ _ _)
  have HB0 := Lib.hid hb0
  have HRm := Lib.hid (show (f (k1, k2, k3)).isSome = true ∨ (n : Int) < most from hroom)
  have HN := Lib.hid (stnone_any _ g bm (show (w.alloc (.cells #[.int .u16 xage, .int .u8 xopts, .int .u8 k1, .int .u32 k2, .int .u32 k3, .int .i32 xseq, .int .u16 xsum, .int .u16 xlen, .slice xA xn xc] 61)).cell? ⟨g, 0, none⟩ = some (.map (some bm)) from (q.later hb0).blk.cell 0))
  obtain ⟨y, b, hy, hyb⟩ := lookS f (k1, k2, k3)
  obtain ⟨⟨⟨yage, yopts, ytyp, yid, yadv, yseq, ysum, ylen⟩, yA, yn, yc, yB⟩, yat⟩ := y
  have HLK := Lib.hid hy
  have HYB := Lib.hid (show (f (k1, k2, k3)).isSome = b by rcases hyb with ⟨h, rfl⟩ | ⟨h, rfl, _⟩ <;> rw [h] <;> rfl)
  have dn : decide (now < 0) = false := decide_eq_false (by omega)
  clear q hb0 hx hy hyb hroom
  go_enter Tryz.func13, Tryz.ntmps13
  go_wp2_with (go_at_call 28; refine HN.out.mono ?_; rintro e w' ⟨rfl, rfl⟩)
  clear HN dn
  generalize hw1 : w.alloc (.cells #[.int .u16 xage, .int .u8 xopts, .int .u8 k1, .int .u32 k2, .int .u32 k3, .int .i32 xseq, .int .u16 xsum, .int .u16 xlen, .slice xA xn xc] 61) = w1 at *
  clear hw1
  refine (skey_any (⟨xage, xopts, k1, k2, k3, xseq, xsum, xlen⟩ : Hd) w1).mono ?_
  rintro e w2 ⟨rfl, hb2⟩
  have hlt := HBx.out.lt
  have hb3 := below_then hb2 ((Below.refl w2.heap.size w2).alloc (Nat.le_refl _) (.cells #[.int .u8 k1, .int .u32 k2, .int .u32 k3] 68))
  have HB3 : Hid (Below w.heap.size w (w2.alloc (.cells #[.int .u8 k1, .int .u32 k2, .int .u32 k3] 68))) := Lib.hid (below_then HB0.out hb3)
  replace HBx := Lib.hid (HBx.out.later hb3)
  have HK0 : Hid (Blk (w2.alloc (.cells #[.int .u8 k1, .int .u32 k2, .int .u32 k3] 68)) w2.heap.size 68 #[.int .u8 k1, .int .u32 k2, .int .u32 k3]) := Lib.hid (Blk.new _ _ _)
  have HGK : Hid (w.heap.size < w2.heap.size) := Lib.hid (Nat.lt_of_lt_of_le hlt hb2.size)
  clear hb2 hb3 HB0 hlt
  go_wp2_with fail
  generalize w2.alloc (.cells #[.int .u8 k1, .int .u32 k2, .int .u32 k3] 68) = w3 at *
  generalize w2.heap.size = gk at *
  refine wp_region_s (fun W : World => Blk W g 79 #[.map (some bm), .int .i64 most] ∧ Blk W gk 68 #[.int .u8 k1, .int .u32 k2, .int .u32 k3] ∧ MapF keyV W bm (fun k => (f k).map OneE.v) n) [(0, true), (1, true), (2, true), (3, true), (4, true), (5, true), (6, true), (7, true), (8, true), (9, false), (10, false), (11, true)] (by kernel_rfl) (fun _ d _ _ _ h => by cases d <;> exact h) ?_
  simp only [List.map_cons, List.map_nil, nthOp_zero, nthOp_succ]
  have HS : Hid ((fun W : World => Blk W g 79 #[.map (some bm), .int .i64 most] ∧ Blk W gk 68 #[.int .u8 k1, .int .u32 k2, .int .u32 k3] ∧ MapF keyV W bm (fun k => (f k).map OneE.v) n) w3.drew) := Lib.hid ⟨(HQ.out.later (below_then HB3.out (Below.refl _ _).drew)).blk, HK0.out.later (Below.refl _ _).drew, (HQ.out.later (below_then HB3.out (Below.refl _ _).drew)).map⟩
  have hbd : Below w3.heap.size w3 w3.drew := (Below.refl _ _).drew
  have HBD := Lib.hid hbd
  clear hbd
  generalize hwd : w3.drew = w4 at *
  clear hwd
  refine wpS_take HS (by kernel_rfl) (by intro W hW; have j0 := hW.1.cell 0; have j1 := hW.1.cell 1; simp only [List.getElem?_toArray, List.getElem?_cons_zero, List.getElem?_cons_succ] at j0 j1; clear hW; go_simp; try with_reducible rfl) ?_
  refine wpS_take HS (by kernel_rfl) (by intro W hW; have j0 := hW.1.cell 0; have j1 := hW.1.cell 1; simp only [List.getElem?_toArray, List.getElem?_cons_zero, List.getElem?_cons_succ] at j0 j1; clear hW; go_simp; try with_reducible rfl) ?_
  refine wpS_take HS (by kernel_rfl) (by intro W hW; have j0 := hW.1.cell 0; have j1 := hW.1.cell 1; simp only [List.getElem?_toArray, List.getElem?_cons_zero, List.getElem?_cons_succ] at j0 j1; clear hW; go_simp; try with_reducible rfl) ?_
  refine wpS_take HS (by kernel_rfl) (by intro W hW; have j0 := hW.1.cell 0; have j1 := hW.1.cell 1; simp only [List.getElem?_toArray, List.getElem?_cons_zero, List.getElem?_cons_succ] at j0 j1; clear hW; go_simp; try with_reducible rfl) ?_
  refine wpS_take HS (by kernel_rfl) (fun W hW => exec_load_row rfl rfl hW.2.1 Tryz.underlying68 rfl info_key3) ?_
  refine wpS_take HS (by kernel_rfl) (fun W hW => exec_lookupF (a := (k1, k2, k3)) keyT Tryz.underlying77 zeroOne rfl hW.2.2 rfl rfl) ?_
  simp only [HLK.out]
  refine wpS_take HS (by kernel_rfl) (by intro W hW; have j0 := hW.1.cell 0; have j1 := hW.1.cell 1; simp only [List.getElem?_toArray, List.getElem?_cons_zero, List.getElem?_cons_succ] at j0 j1; clear hW; go_simp; try with_reducible rfl) ?_
  refine wpS_take HS (by kernel_rfl) (by intro W hW; have j0 := hW.1.cell 0; have j1 := hW.1.cell 1; simp only [List.getElem?_toArray, List.getElem?_cons_zero, List.getElem?_cons_succ] at j0 j1; clear hW; go_simp; try with_reducible rfl) ?_
  refine wpS_take HS (by kernel_rfl) (by intro W hW; have j0 := hW.1.cell 0; have j1 := hW.1.cell 1; simp only [List.getElem?_toArray, List.getElem?_cons_zero, List.getElem?_cons_succ] at j0 j1; clear hW; go_simp; try with_reducible rfl) ?_
  refine wpS_do fun K hK => ?_
  go_wp2
  have hba : Below w4.heap.size w4 (w4.alloc (.cells #[.int .u16 0, .int .u8 0, .int .u8 0, .int .u32 0, .int .u32 0, .int .i32 0, .int .u16 0, .int .u16 0, .slice none 0 0, .int .i64 0] 98)) := (Below.refl _ _).alloc (Nat.le_refl _) _
  refine hK.out _ _ ⟨HS.out.1.later hba, HS.out.2.1.later hba, HS.out.2.2.later hba⟩ ?_
  clear hK K hba
  refine wpS_do fun K hK => ?_
  go_wp2_with (go_must (refine wpList_store_row rfl 98 _ _ rfl w4.heap.size #[.int .u16 yage, .int .u8 yopts, .int .u8 ytyp, .int .u32 yid, .int .u32 yadv, .int .i32 yseq, .int .u16 ysum, .int .u16 ylen, .slice yA yn yc, .int .i64 yat] rfl rfl 98 _ (heap_alloc_new w4 _) info_one rfl (by simp [Value.oneCell']) ?_; rw [World.setRow_alloc_new]))
  have hb1 : Below w4.heap.size w4 (w4.alloc (.cells #[.int .u16 yage, .int .u8 yopts, .int .u8 ytyp, .int .u32 yid, .int .u32 yadv, .int .i32 yseq, .int .u16 ysum, .int .u16 ylen, .slice yA yn yc, .int .i64 yat] 98)) := (Below.refl _ _).alloc (Nat.le_refl _) _
  have HX0 : Hid (Blk (w4.alloc (.cells #[.int .u16 yage, .int .u8 yopts, .int .u8 ytyp, .int .u32 yid, .int .u32 yadv, .int .i32 yseq, .int .u16 ysum, .int .u16 ylen, .slice yA yn yc, .int .i64 yat] 98)) w4.heap.size 98 #[.int .u16 yage, .int .u8 yopts, .int .u8 ytyp, .int .u32 yid, .int .u32 yadv, .int .i32 yseq, .int .u16 ysum, .int .u16 ylen, .slice yA yn yc, .int .i64 yat]) := Lib.hid (Blk.new _ _ _)
  replace HS : Hid ((fun W : World => Blk W g 79 #[.map (some bm), .int .i64 most] ∧ Blk W gk 68 #[.int .u8 k1, .int .u32 k2, .int .u32 k3] ∧ MapF keyV W bm (fun k => (f k).map OneE.v) n) (w4.alloc (.cells #[.int .u16 yage, .int .u8 yopts, .int .u8 ytyp, .int .u32 yid, .int .u32 yadv, .int .i32 yseq, .int .u16 ysum, .int .u16 ylen, .slice yA yn yc, .int .i64 yat] 98))) := Lib.hid ⟨HS.out.1.later hb1, HS.out.2.1.later hb1, HS.out.2.2.later hb1⟩
  have HB1 := Lib.hid hb1
  clear hb1
  refine hK.out _ _ HS.out ?_
  clear hK K
  generalize hg1 : w4.alloc (.cells #[.int .u16 yage, .int .u8 yopts, .int .u8 ytyp, .int .u32 yid, .int .u32 yadv, .int .i32 yseq, .int .u16 ysum, .int .u16 ylen, .slice yA yn yc, .int .i64 yat] 98) = w5 at *
  clear hg1
  generalize hgx : w4.heap.size = gx at *
  refine wpS_take HS (by kernel_rfl) (by intro W hW; have j0 := hW.1.cell 0; have j1 := hW.1.cell 1; simp only [List.getElem?_toArray, List.getElem?_cons_zero, List.getElem?_cons_succ] at j0 j1; clear hW; go_simp; try with_reducible rfl) ?_
  refine wpS_nil ?_
  go_simp
  replace HBx := Lib.hid (((HBx.out.later HBD.out)).later (hgx ▸ HB1.out))
  have HB5 : Hid (Below w.heap.size w w5) := Lib.hid (below_then (below_then HB3.out HBD.out) (hgx ▸ HB1.out))
  have hgx5 : w.heap.size ≤ gx := by rw [← hgx]; exact (below_then HB3.out HBD.out).size
  clear HB3 HBD HB1 HX0 HLK HK0 hgx5
  clear hgx
  go_wp2_with fail
  refine wp_region_s (fun W : World => Blk W g 79 #[.map (some bm), .int .i64 most] ∧ Blk W gk 68 #[.int .u8 k1, .int .u32 k2, .int .u32 k3] ∧ MapF keyV W bm (fun k => (f k).map OneE.v) n) [(0, true), (1, true), (2, true), (3, true), (4, true), (5, true), (8, true), (9, true), (10, true), (6, true), (7, true), (11, true), (12, true), (13, true)] (by kernel_rfl) (fun _ d _ _ _ h => by cases d <;> exact h) ?_
  simp only [List.map_cons, List.map_nil, nthOp_zero, nthOp_succ]
  have hb6 : Below w5.heap.size w5 w5.drew := (Below.refl _ _).drew
  replace HS : Hid ((fun W : World => Blk W g 79 #[.map (some bm), .int .i64 most] ∧ Blk W gk 68 #[.int .u8 k1, .int .u32 k2, .int .u32 k3] ∧ MapF keyV W bm (fun k => (f k).map OneE.v) n) w5.drew) := Lib.hid ⟨HS.out.1.later hb6, HS.out.2.1.later hb6, HS.out.2.2.later hb6⟩
  replace HBx := Lib.hid (HBx.out.later hb6)
  have HB6 := Lib.hid (below_then HB5.out hb6)
  clear hb6 HB5
  generalize hwd : w5.drew = w6 at *
  clear hwd
  have dm : Hid (b = false → decide (most ≤ (n : Int)) = false) := Lib.hid fun hb => decide_eq_false (by have := HRm.out; rw [HYB.out, hb] at this; simp at this; omega)
  have key : ∀ tt : Bool, tt = false → True := fun _ _ => trivial
  cases b with
  | true =>
    refine wpS_take HS (by kernel_rfl) (by intro W hW; have j0 := hW.1.cell 0; have j1 := hW.1.cell 1; simp only [List.getElem?_toArray, List.getElem?_cons_zero, List.getElem?_cons_succ] at j0 j1; clear hW; go_simp; try with_reducible rfl) ?_
    refine wpS_take HS (by kernel_rfl) (by intro W hW; have j0 := hW.1.cell 0; have j1 := hW.1.cell 1; simp only [List.getElem?_toArray, List.getElem?_cons_zero, List.getElem?_cons_succ] at j0 j1; clear hW; go_simp; try with_reducible rfl) ?_
    refine wpS_take HS (by kernel_rfl) (by intro W hW; have j0 := hW.1.cell 0; have j1 := hW.1.cell 1; simp only [List.getElem?_toArray, List.getElem?_cons_zero, List.getElem?_cons_succ] at j0 j1; clear hW; go_simp; try with_reducible rfl) ?_
    refine wpS_skip HS (by kernel_rfl) ?_
    refine wpS_skip HS (by kernel_rfl) ?_
    refine wpS_skip HS (by kernel_rfl) ?_
    refine wpS_skip HS (by kernel_rfl) ?_
    refine wpS_skip HS (by kernel_rfl) ?_
    refine wpS_skip HS (by kernel_rfl) ?_
    refine wpS_skip HS (by kernel_rfl) ?_
    refine wpS_skip HS (by kernel_rfl) ?_
    refine wpS_skip HS (by kernel_rfl) ?_
    refine wpS_skip HS (by kernel_rfl) ?_
    refine wpS_take HS (by kernel_rfl) (by intro W hW; have j0 := hW.1.cell 0; have j1 := hW.1.cell 1; simp only [List.getElem?_toArray, List.getElem?_cons_zero, List.getElem?_cons_succ] at j0 j1; clear hW; go_simp; try with_reducible rfl) ?_
    refine wpS_nil ?_
    go_simp
    have c8 := HBx.out.cell 8; have f8 := HBx.out.frozen 8
    simp only [List.getElem?_toArray, List.getElem?_cons_zero, List.getElem?_cons_succ] at c8
    go_wp2_with fail
    clear c8 f8
    have hbl : xB.length = xn := HX.out.bl
    refine (clone_any xA xn xc xB w6 (HX.out.later HB6.out).body (by have := HX.out.len; simp only at this; omega)).mono ?_
    rintro e w7 ⟨v, rfl, hown, hb7⟩
    rw [hbl] at hown
    obtain ⟨vA, vc, rfl, hvc, hvm, hvr⟩ := own_shape_n hown
    have HW := Lib.hid (own_mono hown HB6.out.size)
    replace HBx := Lib.hid (HBx.out.later hb7)
    replace HS : Hid ((fun W : World => Blk W g 79 #[.map (some bm), .int .i64 most] ∧ Blk W gk 68 #[.int .u8 k1, .int .u32 k2, .int .u32 k3] ∧ MapF keyV W bm (fun k => (f k).map OneE.v) n) w7) := Lib.hid ⟨HS.out.1.later hb7, HS.out.2.1.later hb7, HS.out.2.2.later hb7⟩
    have HB7 := Lib.hid (below_then HB6.out hb7)
    clear hown hb7 HB6
    have c8 := HBx.out.cell 8; have f8 := HBx.out.frozen 8
    simp only [List.getElem?_toArray, List.getElem?_cons_zero, List.getElem?_cons_succ] at c8
    have hgs : g ≠ w.heap.size := Nat.ne_of_lt HQ.out.blk.lt
    have hgk : gk ≠ w.heap.size := Nat.ne_of_gt HGK.out
    have HB8 : Hid (Below w.heap.size w (w7.setCell ⟨w.heap.size, 8, none⟩ (.slice vA xn vc))) := Lib.hid (HB7.out.setCell (p := ⟨w.heap.size, 8, none⟩) (Nat.le_refl _) _)
    have HW8 := Lib.hid (own_cells HW.out HBx.out (by decide) 8 (.slice vA xn vc))
    have HP : Hid ((fun W : World => Blk W g 79 #[.map (some bm), .int .i64 most] ∧ Blk W gk 68 #[.int .u8 k1, .int .u32 k2, .int .u32 k3] ∧ Blk W w.heap.size 61 #[.int .u16 xage, .int .u8 xopts, .int .u8 k1, .int .u32 k2, .int .u32 k3, .int .i32 xseq, .int .u16 xsum, .int .u16 xlen, .slice vA xn vc]) (w7.setCell ⟨w.heap.size, 8, none⟩ (.slice vA xn vc))) := Lib.hid ⟨HS.out.1.far (p := ⟨w.heap.size, 8, none⟩) hgs _, HS.out.2.1.far (p := ⟨w.heap.size, 8, none⟩) hgk _, HBx.out.set_ 8 _⟩
    go_wp2_with fail
    clear c8 f8 HW HB7 HS HBx
    generalize w7.setCell ⟨w.heap.size, 8, none⟩ (.slice vA xn vc) = w8 at *
    refine wp_region_s (fun W : World => Blk W g 79 #[.map (some bm), .int .i64 most] ∧ Blk W gk 68 #[.int .u8 k1, .int .u32 k2, .int .u32 k3] ∧ Blk W w.heap.size 61 #[.int .u16 xage, .int .u8 xopts, .int .u8 k1, .int .u32 k2, .int .u32 k3, .int .i32 xseq, .int .u16 xsum, .int .u16 xlen, .slice vA xn vc]) [(0, true), (1, true), (2, true), (6, true), (3, true), (4, true), (5, true), (7, true), (8, false)] (by kernel_rfl) (fun _ d _ _ _ h => by cases d <;> exact h) ?_
    simp only [List.map_cons, List.map_nil, nthOp_zero, nthOp_succ]
    have hb9 : Below w8.heap.size w8 w8.drew := (Below.refl _ _).drew
    replace HP : Hid ((fun W : World => Blk W g 79 #[.map (some bm), .int .i64 most] ∧ Blk W gk 68 #[.int .u8 k1, .int .u32 k2, .int .u32 k3] ∧ Blk W w.heap.size 61 #[.int .u16 xage, .int .u8 xopts, .int .u8 k1, .int .u32 k2, .int .u32 k3, .int .i32 xseq, .int .u16 xsum, .int .u16 xlen, .slice vA xn vc]) w8.drew) := Lib.hid ⟨HP.out.1.later hb9, HP.out.2.1.later hb9, HP.out.2.2.later hb9⟩
    replace HW8 := Lib.hid (own_kept HW8.out (Kept.of_new hb9 (fun _ => False)) (fun _ _ h => h))
    have HB9 := Lib.hid (below_then HB8.out hb9)
    clear hb9 HB8
    generalize hwd : w8.drew = w9 at *
    clear hwd
    refine wpS_take HP (by kernel_rfl) (by intro W hW; have j0 := hW.1.cell 0; have j1 := hW.1.cell 1; simp only [List.getElem?_toArray, List.getElem?_cons_zero, List.getElem?_cons_succ] at j0 j1; clear hW; go_simp; try with_reducible rfl) ?_
    refine wpS_take HP (by kernel_rfl) (by intro W hW; have j0 := hW.1.cell 0; have j1 := hW.1.cell 1; simp only [List.getElem?_toArray, List.getElem?_cons_zero, List.getElem?_cons_succ] at j0 j1; clear hW; go_simp; try with_reducible rfl) ?_
    refine wpS_take HP (by kernel_rfl) (by intro W hW; have j0 := hW.1.cell 0; have j1 := hW.1.cell 1; simp only [List.getElem?_toArray, List.getElem?_cons_zero, List.getElem?_cons_succ] at j0 j1; clear hW; go_simp; try with_reducible rfl) ?_
    go_simp
    refine wpS_take HP (by kernel_rfl) (by intro W hW; have j0 := hW.1.cell 0; have j1 := hW.1.cell 1; simp only [List.getElem?_toArray, List.getElem?_cons_zero, List.getElem?_cons_succ] at j0 j1; clear hW; go_simp; try with_reducible rfl) ?_
    refine wpS_take HP (by kernel_rfl) (by intro W hW; have j0 := hW.1.cell 0; have j1 := hW.1.cell 1; simp only [List.getElem?_toArray, List.getElem?_cons_zero, List.getElem?_cons_succ] at j0 j1; clear hW; go_simp; try with_reducible rfl) ?_
    go_simp
    refine wpS_take HP (by kernel_rfl) (fun W hW => exec_load_row rfl rfl hW.2.1 Tryz.underlying68 rfl info_key3) ?_
    refine wpS_take HP (by kernel_rfl) (fun W hW => exec_load_row rfl rfl hW.2.2 Tryz.underlying61 rfl info_state) ?_
    refine wpS_take HP (by kernel_rfl) (by intro W hW; have j0 := hW.1.cell 0; have j1 := hW.1.cell 1; simp only [List.getElem?_toArray, List.getElem?_cons_zero, List.getElem?_cons_succ] at j0 j1; clear hW; go_simp; try with_reducible rfl) ?_
    refine wpS_do fun K hK => ?_
    have HM9 := Lib.hid (HQ.out.later HB9.out).map
    go_simp
    go_wp2_with (go_must (refine wpList_storeF keyT Tryz.underlying77 rfl (.tmp 49) (.tmp 50) (.tmp 53) rfl HM9.out rfl (k1, k2, k3) rfl (OneE.v ⟨⟨⟨xage, xopts, k1, k2, k3, xseq, xsum, xlen⟩, vA, xn, vc, xB⟩, now⟩) rfl ?_); intro w10 hm10 hk10)
    have HM10 := Lib.hid hm10
    have HK10 := Lib.hid hk10
    clear hm10 hk10
    have hne : ∀ {gg : Nat} {t : TypeId} {cs : Array Value}, Blk w9 gg t cs → ¬ (gg = bm) := fun hg e => HM9.out.ne_blk hg e.symm
    have HP10 : Hid ((fun W : World => Blk W g 79 #[.map (some bm), .int .i64 most] ∧ Blk W gk 68 #[.int .u8 k1, .int .u32 k2, .int .u32 k3] ∧ Blk W w.heap.size 61 #[.int .u16 xage, .int .u8 xopts, .int .u8 k1, .int .u32 k2, .int .u32 k3, .int .i32 xseq, .int .u16 xsum, .int .u16 xlen, .slice vA xn vc]) w10) := Lib.hid ⟨HP.out.1.kept HK10.out (hne HP.out.1), HP.out.2.1.kept HK10.out (hne HP.out.2.1), HP.out.2.2.kept HK10.out (hne HP.out.2.2)⟩
    refine hK.out _ _ HP10.out ?_
    clear hK K
    refine wpS_nil ?_
    go_simp
    go_wp2
    go_ret
    rw [updK_map] at HM10
    refine ⟨⟨⟨xage, xopts, k1, k2, k3, xseq, xsum, xlen⟩, vA, xn, vc, xB⟩, rfl, rfl, rfl, rfl, ⟨HP10.out.1, ?_, ?_⟩, ((Kept.of_new HB9.out (fun i => i = bm)).trans HK10.out (fun _ _ h => h)), ⟨HX.out.head, own_kept HW8.out HK10.out (fun i hi => own_ne_mapF HW8.out HM9.out i hi), HX.out.oct, HX.out.len⟩⟩
    · have h := HM10.out
      rw [show (((f (k1, k2, k3)).map OneE.v).isSome) = (f (k1, k2, k3)).isSome by cases f (k1, k2, k3) <;> rfl] at h
      exact h
    · intro k' x' hk'
      unfold updK at hk'
      split at hk'
      · rename_i he
        injection hk' with hk'
        subst hk'
        refine ⟨he.symm, ?_, hn⟩
        obtain ⟨A2, c2, hv2, h1, h2, h3⟩ := own_shape_n HW8.out
        injection hv2 with hA hN hC
        subst hA
        have hrd : (⟨⟨xage, xopts, k1, k2, k3, xseq, xsum, xlen⟩, vA, xn, vc, xB⟩ : SE).rd w9 := ⟨HX.out.head, h3, HX.out.oct, ⟨hvc, hvm⟩, HX.out.len⟩
        exact hrd.kept2 HK10.out (rd_ne_map hrd HM9.out)
      · have hg := HQ.out.good k' x' hk'
        have h9 := hg.2.1.later HB9.out
        exact ⟨hg.1, h9.kept2 HK10.out (rd_ne_map h9 HM9.out), hg.2.2⟩
  | false =>
    have dmo := dm.out rfl
    refine wpS_take HS (by kernel_rfl) (by intro W hW; have j0 := hW.1.cell 0; have j1 := hW.1.cell 1; simp only [List.getElem?_toArray, List.getElem?_cons_zero, List.getElem?_cons_succ] at j0 j1; clear hW; go_simp; try with_reducible rfl) ?_
    refine wpS_take HS (by kernel_rfl) (by intro W hW; have j0 := hW.1.cell 0; have j1 := hW.1.cell 1; simp only [List.getElem?_toArray, List.getElem?_cons_zero, List.getElem?_cons_succ] at j0 j1; clear hW; go_simp; try with_reducible rfl) ?_
    refine wpS_take HS (by kernel_rfl) (by intro W hW; have j0 := hW.1.cell 0; have j1 := hW.1.cell 1; simp only [List.getElem?_toArray, List.getElem?_cons_zero, List.getElem?_cons_succ] at j0 j1; clear hW; go_simp; try with_reducible rfl) ?_
    refine wpS_take HS (by kernel_rfl) (by intro W hW; have j0 := hW.1.cell 0; have j1 := hW.1.cell 1; simp only [List.getElem?_toArray, List.getElem?_cons_zero, List.getElem?_cons_succ] at j0 j1; have hl := maplen (T := 77) Tryz.underlying77 hW.2.2; clear hW; go_simp; try with_reducible rfl) ?_
    refine wpS_take HS (by kernel_rfl) (by intro W hW; have j0 := hW.1.cell 0; have j1 := hW.1.cell 1; simp only [List.getElem?_toArray, List.getElem?_cons_zero, List.getElem?_cons_succ] at j0 j1; have hl := maplen (T := 77) Tryz.underlying77 hW.2.2; clear hW; go_simp; try with_reducible rfl) ?_
    refine wpS_take HS (by kernel_rfl) (by intro W hW; have j0 := hW.1.cell 0; have j1 := hW.1.cell 1; simp only [List.getElem?_toArray, List.getElem?_cons_zero, List.getElem?_cons_succ] at j0 j1; have hl := maplen (T := 77) Tryz.underlying77 hW.2.2; clear hW; go_simp; try with_reducible rfl) ?_
    refine wpS_take HS (by kernel_rfl) (by intro W hW; have j0 := hW.1.cell 0; have j1 := hW.1.cell 1; simp only [List.getElem?_toArray, List.getElem?_cons_zero, List.getElem?_cons_succ] at j0 j1; have hl := maplen (T := 77) Tryz.underlying77 hW.2.2; clear hW; go_simp; try with_reducible rfl) ?_
    refine wpS_take HS (by kernel_rfl) (by intro W hW; have j0 := hW.1.cell 0; have j1 := hW.1.cell 1; simp only [List.getElem?_toArray, List.getElem?_cons_zero, List.getElem?_cons_succ] at j0 j1; have hl := maplen (T := 77) Tryz.underlying77 hW.2.2; clear hW; go_simp; try with_reducible rfl) ?_
    refine wpS_take HS (by kernel_rfl) (by intro W hW; have j0 := hW.1.cell 0; have j1 := hW.1.cell 1; simp only [List.getElem?_toArray, List.getElem?_cons_zero, List.getElem?_cons_succ] at j0 j1; have hl := maplen (T := 77) Tryz.underlying77 hW.2.2; clear hW; go_simp; try with_reducible rfl) ?_
    refine wpS_take HS (by kernel_rfl) (by intro W hW; have j0 := hW.1.cell 0; have j1 := hW.1.cell 1; simp only [List.getElem?_toArray, List.getElem?_cons_zero, List.getElem?_cons_succ] at j0 j1; have hl := maplen (T := 77) Tryz.underlying77 hW.2.2; clear hW; go_simp; try with_reducible rfl) ?_
    refine wpS_take HS (by kernel_rfl) (by intro W hW; have j0 := hW.1.cell 0; have j1 := hW.1.cell 1; simp only [List.getElem?_toArray, List.getElem?_cons_zero, List.getElem?_cons_succ] at j0 j1; have hl := maplen (T := 77) Tryz.underlying77 hW.2.2; clear hW; go_simp; try with_reducible rfl) ?_
    refine wpS_take HS (by kernel_rfl) (by intro W hW; have j0 := hW.1.cell 0; have j1 := hW.1.cell 1; simp only [List.getElem?_toArray, List.getElem?_cons_zero, List.getElem?_cons_succ] at j0 j1; have hl := maplen (T := 77) Tryz.underlying77 hW.2.2; clear hW; go_simp; try with_reducible rfl) ?_
    refine wpS_take HS (by kernel_rfl) (by intro W hW; have j0 := hW.1.cell 0; have j1 := hW.1.cell 1; simp only [List.getElem?_toArray, List.getElem?_cons_zero, List.getElem?_cons_succ] at j0 j1; have hl := maplen (T := 77) Tryz.underlying77 hW.2.2; clear hW; go_simp; try with_reducible rfl) ?_
    refine wpS_take HS (by kernel_rfl) (by intro W hW; have j0 := hW.1.cell 0; have j1 := hW.1.cell 1; simp only [List.getElem?_toArray, List.getElem?_cons_zero, List.getElem?_cons_succ] at j0 j1; clear hW; go_simp; try with_reducible rfl) ?_
    refine wpS_nil ?_
    go_simp
    have c8 := HBx.out.cell 8; have f8 := HBx.out.frozen 8
    simp only [List.getElem?_toArray, List.getElem?_cons_zero, List.getElem?_cons_succ] at c8
    go_wp2_with fail
    clear c8 f8
    have hbl : xB.length = xn := HX.out.bl
    refine (clone_any xA xn xc xB w6 (HX.out.later HB6.out).body (by have := HX.out.len; simp only at this; omega)).mono ?_
    rintro e w7 ⟨v, rfl, hown, hb7⟩
    rw [hbl] at hown
    obtain ⟨vA, vc, rfl, hvc, hvm, hvr⟩ := own_shape_n hown
    have HW := Lib.hid (own_mono hown HB6.out.size)
    replace HBx := Lib.hid (HBx.out.later hb7)
    replace HS : Hid ((fun W : World => Blk W g 79 #[.map (some bm), .int .i64 most] ∧ Blk W gk 68 #[.int .u8 k1, .int .u32 k2, .int .u32 k3] ∧ MapF keyV W bm (fun k => (f k).map OneE.v) n) w7) := Lib.hid ⟨HS.out.1.later hb7, HS.out.2.1.later hb7, HS.out.2.2.later hb7⟩
    have HB7 := Lib.hid (below_then HB6.out hb7)
    clear hown hb7 HB6
    have c8 := HBx.out.cell 8; have f8 := HBx.out.frozen 8
    simp only [List.getElem?_toArray, List.getElem?_cons_zero, List.getElem?_cons_succ] at c8
    have hgs : g ≠ w.heap.size := Nat.ne_of_lt HQ.out.blk.lt
    have hgk : gk ≠ w.heap.size := Nat.ne_of_gt HGK.out
    have HB8 : Hid (Below w.heap.size w (w7.setCell ⟨w.heap.size, 8, none⟩ (.slice vA xn vc))) := Lib.hid (HB7.out.setCell (p := ⟨w.heap.size, 8, none⟩) (Nat.le_refl _) _)
    have HW8 := Lib.hid (own_cells HW.out HBx.out (by decide) 8 (.slice vA xn vc))
    have HP : Hid ((fun W : World => Blk W g 79 #[.map (some bm), .int .i64 most] ∧ Blk W gk 68 #[.int .u8 k1, .int .u32 k2, .int .u32 k3] ∧ Blk W w.heap.size 61 #[.int .u16 xage, .int .u8 xopts, .int .u8 k1, .int .u32 k2, .int .u32 k3, .int .i32 xseq, .int .u16 xsum, .int .u16 xlen, .slice vA xn vc]) (w7.setCell ⟨w.heap.size, 8, none⟩ (.slice vA xn vc))) := Lib.hid ⟨HS.out.1.far (p := ⟨w.heap.size, 8, none⟩) hgs _, HS.out.2.1.far (p := ⟨w.heap.size, 8, none⟩) hgk _, HBx.out.set_ 8 _⟩
    go_wp2_with fail
    clear c8 f8 HW HB7 HS HBx
    generalize w7.setCell ⟨w.heap.size, 8, none⟩ (.slice vA xn vc) = w8 at *
    refine wp_region_s (fun W : World => Blk W g 79 #[.map (some bm), .int .i64 most] ∧ Blk W gk 68 #[.int .u8 k1, .int .u32 k2, .int .u32 k3] ∧ Blk W w.heap.size 61 #[.int .u16 xage, .int .u8 xopts, .int .u8 k1, .int .u32 k2, .int .u32 k3, .int .i32 xseq, .int .u16 xsum, .int .u16 xlen, .slice vA xn vc]) [(0, true), (1, true), (2, true), (6, true), (3, true), (4, true), (5, true), (7, true), (8, false)] (by kernel_rfl) (fun _ d _ _ _ h => by cases d <;> exact h) ?_
    simp only [List.map_cons, List.map_nil, nthOp_zero, nthOp_succ]
    have hb9 : Below w8.heap.size w8 w8.drew := (Below.refl _ _).drew
    replace HP : Hid ((fun W : World => Blk W g 79 #[.map (some bm), .int .i64 most] ∧ Blk W gk 68 #[.int .u8 k1, .int .u32 k2, .int .u32 k3] ∧ Blk W w.heap.size 61 #[.int .u16 xage, .int .u8 xopts, .int .u8 k1, .int .u32 k2, .int .u32 k3, .int .i32 xseq, .int .u16 xsum, .int .u16 xlen, .slice vA xn vc]) w8.drew) := Lib.hid ⟨HP.out.1.later hb9, HP.out.2.1.later hb9, HP.out.2.2.later hb9⟩
    replace HW8 := Lib.hid (own_kept HW8.out (Kept.of_new hb9 (fun _ => False)) (fun _ _ h => h))
    have HB9 := Lib.hid (below_then HB8.out hb9)
    clear hb9 HB8
    generalize hwd : w8.drew = w9 at *
    clear hwd
    refine wpS_take HP (by kernel_rfl) (by intro W hW; have j0 := hW.1.cell 0; have j1 := hW.1.cell 1; simp only [List.getElem?_toArray, List.getElem?_cons_zero, List.getElem?_cons_succ] at j0 j1; clear hW; go_simp; try with_reducible rfl) ?_
    refine wpS_take HP (by kernel_rfl) (by intro W hW; have j0 := hW.1.cell 0; have j1 := hW.1.cell 1; simp only [List.getElem?_toArray, List.getElem?_cons_zero, List.getElem?_cons_succ] at j0 j1; clear hW; go_simp; try with_reducible rfl) ?_
    refine wpS_take HP (by kernel_rfl) (by intro W hW; have j0 := hW.1.cell 0; have j1 := hW.1.cell 1; simp only [List.getElem?_toArray, List.getElem?_cons_zero, List.getElem?_cons_succ] at j0 j1; clear hW; go_simp; try with_reducible rfl) ?_
    go_simp
    refine wpS_take HP (by kernel_rfl) (by intro W hW; have j0 := hW.1.cell 0; have j1 := hW.1.cell 1; simp only [List.getElem?_toArray, List.getElem?_cons_zero, List.getElem?_cons_succ] at j0 j1; clear hW; go_simp; try with_reducible rfl) ?_
    refine wpS_take HP (by kernel_rfl) (by intro W hW; have j0 := hW.1.cell 0; have j1 := hW.1.cell 1; simp only [List.getElem?_toArray, List.getElem?_cons_zero, List.getElem?_cons_succ] at j0 j1; clear hW; go_simp; try with_reducible rfl) ?_
    go_simp
    refine wpS_take HP (by kernel_rfl) (fun W hW => exec_load_row rfl rfl hW.2.1 Tryz.underlying68 rfl info_key3) ?_
    refine wpS_take HP (by kernel_rfl) (fun W hW => exec_load_row rfl rfl hW.2.2 Tryz.underlying61 rfl info_state) ?_
    refine wpS_take HP (by kernel_rfl) (by intro W hW; have j0 := hW.1.cell 0; have j1 := hW.1.cell 1; simp only [List.getElem?_toArray, List.getElem?_cons_zero, List.getElem?_cons_succ] at j0 j1; clear hW; go_simp; try with_reducible rfl) ?_
    refine wpS_do fun K hK => ?_
    have HM9 := Lib.hid (HQ.out.later HB9.out).map
    go_simp
    go_wp2_with (go_must (refine wpList_storeF keyT Tryz.underlying77 rfl (.tmp 49) (.tmp 50) (.tmp 53) rfl HM9.out rfl (k1, k2, k3) rfl (OneE.v ⟨⟨⟨xage, xopts, k1, k2, k3, xseq, xsum, xlen⟩, vA, xn, vc, xB⟩, now⟩) rfl ?_); intro w10 hm10 hk10)
    have HM10 := Lib.hid hm10
    have HK10 := Lib.hid hk10
    clear hm10 hk10
    have hne : ∀ {gg : Nat} {t : TypeId} {cs : Array Value}, Blk w9 gg t cs → ¬ (gg = bm) := fun hg e => HM9.out.ne_blk hg e.symm
    have HP10 : Hid ((fun W : World => Blk W g 79 #[.map (some bm), .int .i64 most] ∧ Blk W gk 68 #[.int .u8 k1, .int .u32 k2, .int .u32 k3] ∧ Blk W w.heap.size 61 #[.int .u16 xage, .int .u8 xopts, .int .u8 k1, .int .u32 k2, .int .u32 k3, .int .i32 xseq, .int .u16 xsum, .int .u16 xlen, .slice vA xn vc]) w10) := Lib.hid ⟨HP.out.1.kept HK10.out (hne HP.out.1), HP.out.2.1.kept HK10.out (hne HP.out.2.1), HP.out.2.2.kept HK10.out (hne HP.out.2.2)⟩
    refine hK.out _ _ HP10.out ?_
    clear hK K
    refine wpS_nil ?_
    go_simp
    go_wp2
    go_ret
    rw [updK_map] at HM10
    refine ⟨⟨⟨xage, xopts, k1, k2, k3, xseq, xsum, xlen⟩, vA, xn, vc, xB⟩, rfl, rfl, rfl, rfl, ⟨HP10.out.1, ?_, ?_⟩, ((Kept.of_new HB9.out (fun i => i = bm)).trans HK10.out (fun _ _ h => h)), ⟨HX.out.head, own_kept HW8.out HK10.out (fun i hi => own_ne_mapF HW8.out HM9.out i hi), HX.out.oct, HX.out.len⟩⟩
    · have h := HM10.out
      rw [show (((f (k1, k2, k3)).map OneE.v).isSome) = (f (k1, k2, k3)).isSome by cases f (k1, k2, k3) <;> rfl] at h
      exact h
    · intro k' x' hk'
      unfold updK at hk'
      split at hk'
      · rename_i he
        injection hk' with hk'
        subst hk'
        refine ⟨he.symm, ?_, hn⟩
        obtain ⟨A2, c2, hv2, h1, h2, h3⟩ := own_shape_n HW8.out
        injection hv2 with hA hN hC
        subst hA
        have hrd : (⟨⟨xage, xopts, k1, k2, k3, xseq, xsum, xlen⟩, vA, xn, vc, xB⟩ : SE).rd w9 := ⟨HX.out.head, h3, HX.out.oct, ⟨hvc, hvm⟩, HX.out.len⟩
        exact hrd.kept2 HK10.out (rd_ne_map hrd HM9.out)
      · have hg := HQ.out.good k' x' hk'
        have h9 := hg.2.1.later HB9.out
        exact ⟨hg.1, h9.kept2 HK10.out (rd_ne_map h9 HM9.out), hg.2.2⟩
def PutAt (w w' : World) (g bm : Nat) (most : Int) (f : Ky3 → Option OneE) (n : Nat) (x : SE) (now : Int) (e : Ending) : Prop :=
  ∃ x' : SE, e = .returned (.int .i64 0) ∧ x'.h = x.h ∧ x'.B = x.B ∧ x'.n = x.n ∧ StF w' g bm most (updK f x.key ⟨x', now⟩) (if (f x.key).isSome then n else n + 1) ∧ Kept (fun i => i = bm) w w'
theorem stput_any (w : World) (g bm : Nat) (most : Int) (f : Ky3 → Option OneE) (n : Nat) (q : StF w g bm most f n) (x : SE) (hx : x.rd w) (now : Int) (hn : 0 ≤ now ∧ now ≤ 9223372036854775807) (hroom : (f x.key).isSome = true ∨ (n : Int) < most) :
    Calls Tryz.prog 13 #[.pointer (some ⟨g, 0, none⟩), .int .i64 now, x.v] w fun e w' => PutAt w w' g bm most f n x now e :=
  (stputo_any w g bm most f n q x hx now hn hroom).mono fun e w' h => by
  obtain ⟨x', h1, h2, h3, h4, h5, h6, _⟩ := h
  exact ⟨x', h1, h2, h3, h4, h5, h6⟩
end Go.Proofs.YtpncbggjngamgaaGreatDoor
namespace Go.Proofs.YtpncbggjngamgaaGreatDoor
set_option linter.unusedVariables false
open Go.RowKit Go.Sort

theorem three_blks (w : World) (a b c : Obj) : let W := ((w.alloc a).alloc b).alloc c
    W.heap[w.heap.size]? = some a ∧ W.heap[w.heap.size + 1]? = some b ∧ W.heap[w.heap.size + 1 + 1]? = some c ∧ Below w.heap.size w W := by
  intro W
  have e1 : (w.alloc a).heap.size = w.heap.size + 1 := World.size_alloc _ _
  have e2 : ((w.alloc a).alloc b).heap.size = w.heap.size + 2 := by rw [World.size_alloc, e1]
  have keep : ∀ (v : World) (o : Obj) (i : Nat) (x : Obj), v.heap[i]? = some x → (v.alloc o).heap[i]? = some x := fun v o i x h => by
    have hi : i < v.heap.size := by
      rcases Nat.lt_or_ge i v.heap.size with h2 | h2
      · exact h2
      · rw [Array.getElem?_eq_none h2] at h; cases h
    exact (Below.heap_alloc v o i hi).trans h
  refine ⟨keep _ _ _ _ (keep _ _ _ _ (heap_alloc_new w a)), ?_, ?_, ?_⟩
  · exact keep _ _ _ _ (by have := heap_alloc_new (w.alloc a) b; rwa [e1] at this)
  · have := heap_alloc_new ((w.alloc a).alloc b) c; rwa [e2] at this
  · exact (((Below.refl _ _).alloc (Nat.le_refl _) _).alloc (by rw [World.size_alloc]; omega) _).alloc (by rw [e2]; omega) _
set_option maxRecDepth 100000 in
set_option maxHeartbeats 2000000 in
theorem keys_grow (a b : Ky3) (w : World) : Calls Tryz.prog 82 #[keyV a, keyV b] w fun e w' => e = .returned (.int .i64 (cmpK a b)) ∧ ∃ q os, w' = grow (w.drewN q) os := by
  by_cases hab : a = b
  · subst hab
    obtain ⟨a1, a2, a3⟩ := a
    have he : ∀ w, (Op.equalIn 10000 68 (.agg #[.int .u8 a1, .int .u32 a2, .int .u32 a3]) (.agg #[.int .u8 a1, .int .u32 a2, .int .u32 a3])).run Tryz.prog w = .ok true w := fun w => by
      have h := key_eq (a1, a2, a3) (a1, a2, a3) w
      rw [decide_eq_true rfl] at h
      exact h
    have HC : Hid (cmpK (a1, a2, a3) (a1, a2, a3) = 0) := cmpK_self _
    go_enter Tryz.func82, Tryz.ntmps82
    go_wp2
    go_ret
    exact ⟨by rw [HC.out]; rfl, 0, _, by rw [alloc_eq_grow, alloc_eq_grow, grow_grow]; rfl⟩
  · obtain ⟨a1, a2, a3⟩ := a
    obtain ⟨b1, b2, b3⟩ := b
    have he : ∀ w, (Op.equalIn 10000 68 (.agg #[.int .u8 a1, .int .u32 a2, .int .u32 a3]) (.agg #[.int .u8 b1, .int .u32 b2, .int .u32 b3])).run Tryz.prog w = .ok false w := fun w => by
      have h := key_eq (a1, a2, a3) (b1, b2, b3) w
      rw [decide_eq_false hab] at h
      exact h
    have H5 := three_blks w (.cells (keyC (a1, a2, a3)).toArray 68) (.cells (keyC (b1, b2, b3)).toArray 68) (.cells #[.func (.func 91) #[] #[.pointer (some ⟨w.heap.size, 0, none⟩), .pointer (some ⟨w.heap.size + 1, 0, none⟩)], .func (.func 93) #[] #[.pointer (some ⟨w.heap.size, 0, none⟩), .pointer (some ⟨w.heap.size + 1, 0, none⟩)], .func (.func 95) #[] #[.pointer (some ⟨w.heap.size, 0, none⟩), .pointer (some ⟨w.heap.size + 1, 0, none⟩)]] 64)
    have HF := Lib.hid (firstK_any _ (w.heap.size + 1 + 1) w.heap.size (w.heap.size + 1) (a1, a2, a3) (b1, b2, b3) H5.2.2.1 H5.1 H5.2.1)
    clear H5 hab
    go_enter Tryz.func82, Tryz.ntmps82
    go_wp2_with (go_at_call 90; refine HF.out.mono ?_; rintro e w' ⟨rfl, rfl⟩)
    go_ret
    exact ⟨rfl, 0, _, by rw [alloc_eq_grow, alloc_eq_grow, alloc_eq_grow, grow_grow, grow_grow]; rfl⟩
theorem cmpLays_key (blk off size : Nat) (w : World) : CmpLays Tryz.prog 82 #[] keyC 3 cmpK blk off size w := fun _ _ _ _ x y => keys_grow x y _
theorem ltOf_cmpK (a b : Ky3) : ltOf cmpK a b = ltK a b := by
  unfold ltOf
  exact cmpK_lt a b
theorem swo_cmpK : SWO (ltOf cmpK) := ⟨fun x => by rw [ltOf_cmpK]; exact ltK_irrefl x, fun x y z h k => by rw [ltOf_cmpK] at *; exact ltK_trans h k, fun x y z h k => by rw [ltOf_cmpK] at *; exact geK_trans h k⟩
end Go.Proofs.YtpncbggjngamgaaGreatDoor
