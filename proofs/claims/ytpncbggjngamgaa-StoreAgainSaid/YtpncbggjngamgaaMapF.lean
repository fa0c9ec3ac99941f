/-
  A map whose keys are plain data, as what is found at each key: look-up, store, delete, and the two steps of a store in a row of assignments.
-/
import Derived.Test.YtpncbggjngamgaaMapL
namespace Go.Proofs.Ytpncbggjngamgaa
set_option linter.unusedVariables false
set_option linter.unusedSectionVars false
open Go.RowKit

section
variable {P : Program} {K : TypeId} {κ : Type} [DecidableEq κ] {enc : κ → Value}

def KN (L : List (κ × Value)) : Prop := (L.map Prod.fst).Nodup
def atL (L : List (κ × Value)) (a : κ) : Option Value := (findL L a 0).map (·.2)
theorem KN.at_ {L : List (κ × Value)} (h : KN L) {i j : Nat} {a : κ} {v v' : Value} (hi : L[i]? = some (a, v)) (hj : L[j]? = some (a, v')) : i = j := by
  have hi' : i < L.length := (List.getElem?_eq_some_iff.1 hi).1
  have h1 : (L.map Prod.fst)[i]? = some a := by rw [List.getElem?_map, hi]; rfl
  have h2 : (L.map Prod.fst)[j]? = some a := by rw [List.getElem?_map, hj]; rfl
  exact (List.getElem?_inj (by rw [List.length_map]; exact hi') h).1 (h1.trans h2.symm)
theorem atL_some {L : List (κ × Value)} (h : KN L) {a : κ} {v : Value} : atL L a = some v ↔ (a, v) ∈ L := by
  unfold atL
  constructor
  · intro e
    obtain ⟨⟨i, v'⟩, e1, rfl⟩ := Option.map_eq_some_iff.1 e
    obtain ⟨k, _, e2⟩ := findL_some 0 e1
    exact List.mem_of_getElem? e2
  · intro hm
    cases hf : findL L a 0 with
    | none => exact absurd rfl ((findL_none 0).1 hf (a, v) hm)
    | some p =>
      obtain ⟨i, v'⟩ := p
      obtain ⟨k, _, e2⟩ := findL_some 0 hf
      obtain ⟨j, hj⟩ := List.getElem?_of_mem hm
      have := h.at_ e2 hj
      subst this
      rw [e2] at hj
      injection hj with hj
      injection hj with _ hj
      simp [hj]
def updF (f : κ → Option Value) (a : κ) (v : Option Value) : κ → Option Value := fun k => if k = a then v else f k
theorem fn_ext {f g : κ → Option Value} (h : ∀ k v, f k = some v ↔ g k = some v) : f = g := by
  funext k
  cases hf : f k with
  | none =>
    cases hg : g k with
    | none => rfl
    | some v => rw [← h] at hg; rw [hf] at hg; cases hg
  | some v => rw [(h k v).1 hf]
theorem KN.push {L : List (κ × Value)} (h : KN L) {a : κ} (ha : findL L a 0 = none) (v : Value) : KN (L ++ [(a, v)]) := by
  unfold KN
  rw [List.map_append, List.nodup_append]
  refine ⟨h, by simp, ?_⟩
  intro x hx y hy
  simp only [List.map_cons, List.map_nil, List.mem_cons, List.not_mem_nil, or_false] at hy
  subst hy
  obtain ⟨p, hp, rfl⟩ := List.mem_map.1 hx
  exact (findL_none 0).1 ha p hp
theorem atL_push {L : List (κ × Value)} (h : KN L) {a : κ} (ha : findL L a 0 = none) (v : Value) : atL (L ++ [(a, v)]) = updF (atL L) a (some v) := by
  refine fn_ext fun k u => ?_
  rw [atL_some (h.push ha v), List.mem_append]
  unfold updF
  by_cases hk : k = a
  · subst hk
    rw [if_pos rfl]
    simp only [List.mem_cons, List.not_mem_nil, or_false, Prod.mk.injEq, true_and, Option.some.injEq]
    constructor
    · rintro (h1 | h1)
      · exact absurd rfl ((findL_none 0).1 ha _ h1)
      · exact h1.symm
    · exact fun h1 => .inr h1.symm
  · rw [if_neg hk, atL_some h]
    simp [hk]
theorem set_keys {L : List (κ × Value)} {j : Nat} {a : κ} {v0 : Value} (hj : L[j]? = some (a, v0)) (v : Value) : (L.set j (a, v)).map Prod.fst = L.map Prod.fst := by
  rw [List.map_set]
  refine List.ext_getElem? fun i => ?_
  rw [List.getElem?_set]
  split
  · rename_i e
    subst e
    have hl : j < L.length := (List.getElem?_eq_some_iff.1 hj).1
    rw [List.length_map, if_pos hl, List.getElem?_map, hj]; rfl
  · rfl
theorem KN.set {L : List (κ × Value)} (h : KN L) {j : Nat} {a : κ} {v0 : Value} (hj : L[j]? = some (a, v0)) (v : Value) : KN (L.set j (a, v)) := by unfold KN; rw [set_keys hj]; exact h
theorem atL_set {L : List (κ × Value)} (h : KN L) {j : Nat} {a : κ} {v0 : Value} (hj : L[j]? = some (a, v0)) (v : Value) : atL (L.set j (a, v)) = updF (atL L) a (some v) := by
  have hl : j < L.length := (List.getElem?_eq_some_iff.1 hj).1
  refine fn_ext fun k u => ?_
  rw [atL_some (h.set hj v)]
  unfold updF
  by_cases hk : k = a
  · subst hk
    rw [if_pos rfl]
    constructor
    · intro hm
      obtain ⟨i, hi⟩ := List.getElem?_of_mem hm
      have h2 : (L.set j (k, v))[j]? = some (k, v) := by rw [List.getElem?_set_self hl]
      have := (h.set hj v).at_ hi h2
      subst this
      rw [hi] at h2
      injection h2 with h2
      injection h2 with _ h2
      rw [h2]
    · intro e
      injection e with e
      subst e
      exact List.mem_of_getElem? (i := j) (List.getElem?_set_self hl)
  · rw [if_neg hk, atL_some h]
    constructor
    · intro hm
      obtain ⟨i, hi⟩ := List.getElem?_of_mem hm
      rw [List.getElem?_set] at hi
      split at hi
      · injection hi with hi
        injection hi with hi _
        exact absurd hi.symm hk
      · exact List.mem_of_getElem? hi
    · intro hm
      obtain ⟨i, hi⟩ := List.getElem?_of_mem hm
      refine List.mem_of_getElem? (i := i) ?_
      rw [List.getElem?_set, if_neg]
      · exact hi
      · rintro rfl
        rw [hj] at hi
        injection hi with hi
        injection hi with hi _
        exact hk hi.symm
theorem KN.erase {L : List (κ × Value)} (h : KN L) (j : Nat) : KN (L.eraseIdx j) := by
  unfold KN
  rw [map_eraseIdx]
  exact h.sublist (List.eraseIdx_sublist _ _)
theorem atL_erase {L : List (κ × Value)} (h : KN L) {j : Nat} {a : κ} {v0 : Value} (hj : L[j]? = some (a, v0)) : atL (L.eraseIdx j) = updF (atL L) a none := by
  refine fn_ext fun k u => ?_
  rw [atL_some (h.erase j)]
  unfold updF
  by_cases hk : k = a
  · subst hk
    rw [if_pos rfl]
    constructor
    · intro hm
      obtain ⟨i, hi, e⟩ := List.mem_eraseIdx_iff_getElem?.1 hm
      have := h.at_ e hj
      omega
    · intro e; cases e
  · rw [if_neg hk, atL_some h]
    constructor
    · exact fun hm => List.mem_of_mem_eraseIdx hm
    · intro hm
      obtain ⟨i, hi⟩ := List.getElem?_of_mem hm
      refine List.mem_eraseIdx_iff_getElem?.2 ⟨i, ?_, hi⟩
      rintro rfl
      rw [hj] at hi
      injection hi with hi
      injection hi with hi _
      exact hk hi.symm

/-- The map in block b: at key a it has f a. -/
structure MapFs (enc : κ → Value) (w : World) (b : Nat) (f : κ → Option Value) (n : Nat) (es : Array MapEntry) (clock : Nat) (L : List (κ × Value)) : Prop where
  heap : w.heap[b]? = some (.map es clock)
  ents : entriesOf enc es.toList L
  keys : KN L
  at_ : atL L = f
  len : L.length = n
  born : (es.toList.map (·.born)).Nodup
  past : ∀ e ∈ es.toList, e.born < clock
def MapF (enc : κ → Value) (w : World) (b : Nat) (f : κ → Option Value) (n : Nat) : Prop := ∃ es clock L, MapFs enc w b f n es clock L
variable {w w' : World} {b n : Nat} {f : κ → Option Value} {a : κ} {T E : TypeId}
theorem MapF.lt (h : MapF enc w b f n) : b < w.heap.size := by
  obtain ⟨es, c, L, h⟩ := h
  exact (show MapL enc w b L from ⟨es, c, h.heap, h.ents⟩).lt
theorem MapF.kept {S : Nat → Prop} (h : MapF enc w b f n) (k : Kept S w w') (hn : ¬ S b) : MapF enc w' b f n := by
  have hl := h.lt
  obtain ⟨es, c, L, h⟩ := h
  exact ⟨es, c, L, (k.block b hl hn).trans h.heap, h.ents, h.keys, h.at_, h.len, h.born, h.past⟩
theorem MapF.later (h : MapF enc w b f n) (hb : Below w.heap.size w w') : MapF enc w' b f n := h.kept (Kept.of_new hb (fun _ => False)) (fun h => h)
theorem MapF.drewN (h : MapF enc w b f n) (k : Nat) : MapF enc (w.drewN k) b f n := h.kept ((Kept.refl (fun _ => False) w).drewN k) (fun h => h)
theorem MapF.new (enc : κ → Value) (w : World) : MapF enc (w.alloc (.map #[] 0)) w.heap.size (fun _ => none) 0 := ⟨#[], 0, [], heap_alloc_new w _, rfl, by simp [KN], rfl, rfl, by simp, by simp⟩
theorem MapF.ne_blk {g : Nat} {t : TypeId} {cs : Array Value} (h : MapF enc w b f n) (hg : Blk w g t cs) : b ≠ g := by
  obtain ⟨es, c, L, h⟩ := h
  exact (show MapL enc w b L from ⟨es, c, h.heap, h.ents⟩).ne_blk hg
theorem MapF.find {es : Array MapEntry} {c : Nat} {L : List (κ × Value)} (h : MapFs enc w b f n es c L) (a : κ) : (f a = none → findL L a 0 = none) ∧ ∀ v, f a = some v → ∃ j, findL L a 0 = some (j, v) ∧ L[j]? = some (a, v) := by
  have e : atL L a = f a := by rw [h.at_]
  unfold atL at e
  refine ⟨fun h0 => ?_, fun v hv => ?_⟩
  · rw [h0] at e; simpa using e
  · rw [hv] at e
    obtain ⟨⟨j, v'⟩, e1, e2⟩ := Option.map_eq_some_iff.1 e
    simp only at e2; subst e2
    obtain ⟨k, e3, e4⟩ := findL_some 0 e1
    rw [Nat.zero_add] at e3; subst e3
    exact ⟨j, e1, e4⟩
def lookF (f : κ → Option Value) (a : κ) (z : Value) (ok : Bool) : Value := match f a with
  | some v => if ok then .tuple #[v, .bool true] else v
  | none => if ok then .tuple #[z, .bool false] else z
theorem run_lookupF (Q : KeyT P K enc) (hT : P.underlying T = some (.map K E)) {z : Value} (hz : (zeroValue E).run P w = .ok z w) (h : MapF enc w b f n) (a : κ) (ok : Bool) :
    (Instr.lookup T (.map (some b)) (enc a) ok).run P w = .ok (lookF f a z ok) w := by
  obtain ⟨es, c, L, h⟩ := h
  rw [run_lookupL Q hT hz ⟨es, c, h.heap, h.ents⟩ a ok]
  congr 1
  unfold lookedUp lookF
  have hf := MapF.find h a
  cases hfa : f a with
  | none => rw [hf.1 hfa]
  | some v => obtain ⟨j, e, _⟩ := hf.2 v hfa; rw [e]
theorem MapFs.put_new {es : Array MapEntry} {c : Nat} {L : List (κ × Value)} (h : MapFs enc w b f n es c L) (hf : f a = none) (v : Value) :
    MapF enc (w.putMap b (.map (es.push { key := enc a, val := v, born := c }) (c + 1))) b (updF f a (some v)) (n + 1) := by
  have hlt := MapF.lt ⟨es, c, L, h⟩
  have hfd := (MapF.find h a).1 hf
  refine ⟨_, _, L ++ [(a, v)], heap_putMap hlt _, ?_, h.keys.push hfd v, by rw [atL_push h.keys hfd, h.at_], by simp [h.len], ?_, ?_⟩
  · have := h.ents
    unfold entriesOf at this ⊢
    simp [this]
  · rw [Array.toList_push, List.map_append, List.nodup_append]
    refine ⟨h.born, by simp, ?_⟩
    intro x hx y hy
    simp only [List.map_cons, List.map_nil, List.mem_cons, List.not_mem_nil, or_false] at hy
    subst hy
    obtain ⟨e, he, rfl⟩ := List.mem_map.1 hx
    have := h.past e he
    omega
  · intro e he
    rw [Array.toList_push, List.mem_append] at he
    rcases he with he | he
    · have := h.past e he; omega
    · simp only [List.mem_cons, List.not_mem_nil, or_false] at he
      subst he; simp
theorem toList_modify_born (es : Array MapEntry) (j : Nat) (g : MapEntry → MapEntry) (hg : ∀ e, (g e).born = e.born) : (es.modify j g).toList.map (·.born) = es.toList.map (·.born) := by
  rw [Array.toList_modify]
  refine List.ext_getElem? fun i => ?_
  simp only [List.getElem?_map, List.getElem?_modify]
  split
  · cases es.toList[i]? <;> simp [hg]
  · simp
theorem ents_modify {es : Array MapEntry} {L : List (κ × Value)} (h : entriesOf enc es.toList L) {j : Nat} {a : κ} {v0 : Value} (hj : L[j]? = some (a, v0)) (v : Value) (g : MapEntry → MapEntry) (hg : ∀ e : MapEntry, e.key = enc a → e.val = v0 → (g e).key = enc a ∧ (g e).val = v) :
    entriesOf enc (es.modify j g).toList (L.set j (a, v)) := by
  obtain ⟨e, he, hk1, hk2⟩ := h.get hj
  unfold entriesOf at h ⊢
  rw [Array.toList_modify, List.map_set, ← h]
  apply List.ext_getElem?
  intro i
  simp only [List.getElem?_map, List.getElem?_modify, List.getElem?_set]
  by_cases hij : j = i
  · subst hij
    have hl : j < es.toList.length := (List.getElem?_eq_some_iff.1 he).1
    have hl' : j < es.size := by simpa using hl
    have := hg e hk1 hk2
    have hee : es[j]'hl' = e := by rw [Array.getElem?_toList] at he; exact (Array.getElem?_eq_some_iff.1 he).2
    simp [hl', hee, this.1, this.2]
  · simp [hij]
theorem MapFs.put_old {es : Array MapEntry} {c : Nat} {L : List (κ × Value)} (h : MapFs enc w b f n es c L) {j : Nat} {v0 : Value} (hj : L[j]? = some (a, v0)) (v : Value) (g : MapEntry → MapEntry) (hg : ∀ e : MapEntry, e.key = enc a → e.val = v0 → (g e).key = enc a ∧ (g e).val = v) (hgb : ∀ e, (g e).born = e.born) :
    MapFs enc (w.putMap b (.map (es.modify j g) c)) b (updF f a (some v)) n (es.modify j g) c (L.set j (a, v)) := by
  have hlt := MapF.lt ⟨es, c, L, h⟩
  refine ⟨heap_putMap hlt _, ents_modify h.ents hj v g hg, h.keys.set hj v, by rw [atL_set h.keys hj, h.at_], by rw [List.length_set, h.len], ?_, ?_⟩
  · rw [toList_modify_born _ _ _ hgb]; exact h.born
  · intro e he
    have h1 : e.born ∈ (es.modify j g).toList.map (·.born) := List.mem_map.2 ⟨e, he, rfl⟩
    rw [toList_modify_born _ _ _ hgb] at h1
    obtain ⟨e', he', h2⟩ := List.mem_map.1 h1
    rw [← h2]; exact h.past e' he'
theorem updF_same {f : κ → Option Value} {a : κ} {v : Value} (h : f a = some v) : updF f a (some v) = f := by
  funext k; unfold updF; split
  · rename_i e; rw [e, h]
  · rfl
theorem run_storeF (Q : KeyT P K enc) (hT : P.underlying T = some (.map K E)) (h : MapF enc w b f n) (a : κ) (v : Value) :
    ∃ w', (Instr.mapUpdate T (.map (some b)) (enc a) v).run P w = .ok () w' ∧ MapF enc w' b (updF f a (some v)) (if (f a).isSome then n else n + 1) ∧ Kept (fun i => i = b) w w' := by
  obtain ⟨es, c, L, h⟩ := h
  have hf := MapF.find h a
  cases hfa : f a with
  | none =>
    refine ⟨w.putMap b (.map (es.push { key := enc a, val := v, born := c }) (c + 1)), ?_, h.put_new hfa v, kept_putMap _ _ _⟩
    unfold Instr.mapUpdate
    simp only [Sem.run_bind, run_underlying hT, Result.andThen_ok, run_getMap h.heap, Q.check, run_findKeyL Q a w L es.toList h.ents, hf.1 hfa]
    exact run_setMap h.heap _
  | some v0 =>
    obtain ⟨j, hfj, hj⟩ := hf.2 v0 hfa
    obtain ⟨e, he, hk1, hk2⟩ := h.ents.get hj
    have hes : es[j]? = some e := by rw [← Array.getElem?_toList]; exact he
    refine ⟨w.putMap b (.map (es.modify j fun e => { e with key := enc a, val := v }) c), ?_, ⟨_, _, _, h.put_old hj v _ (fun _ _ _ => ⟨rfl, rfl⟩) (fun _ => rfl)⟩, kept_putMap _ _ _⟩
    unfold Instr.mapUpdate
    simp only [Sem.run_bind, run_underlying hT, Result.andThen_ok, run_getMap h.heap, Q.check, run_findKeyL Q a w L es.toList h.ents, hfj, hes, Option.map_some, Option.getD_some, hk1]
    have hb := Q.bits a
    simp only [Instr.keyThatStays, hb, if_true, Sem.run_pure, Result.andThen_ok]
    exact run_setMap h.heap _
theorem run_deleteF (Q : KeyT P K enc) (hT : P.underlying T = some (.map K E)) (h : MapF enc w b f n) (a : κ) (ty t2 : TypeId) :
    ∃ w', (Builtin.delete_ #[T, t2] ty #[.map (some b), enc a]).run P w = .ok (.tuple #[]) w' ∧ MapF enc w' b (updF f a none) (if (f a).isSome then n - 1 else n) ∧ Kept (fun i => i = b) w w' := by
  have hlt := h.lt
  obtain ⟨es, c, L, h⟩ := h
  have hf := MapF.find h a
  cases hfa : f a with
  | none =>
    have hfd := hf.1 hfa
    refine ⟨w.putMap b (.map es c), ?_, ⟨es, c, L, heap_putMap hlt _, h.ents, h.keys, ?_, h.len, h.born, h.past⟩, kept_putMap _ _ _⟩
    · unfold Builtin.delete_
      simp [Sem.run_bind, run_underlying hT, Result.andThen_ok, run_getMap h.heap, Q.check, run_findKeyL Q a w L es.toList h.ents, hfd, run_setMap h.heap]
    · rw [h.at_]
      funext k; unfold updF; split
      · rename_i e; rw [e, hfa]
      · rfl
  | some v0 =>
    obtain ⟨j, hfj, hj⟩ := hf.2 v0 hfa
    have hte : (es.eraseIdxIfInBounds j).toList = es.toList.eraseIdx j := by
      unfold Array.eraseIdxIfInBounds
      split
      · simp
      · rename_i hge
        rw [List.eraseIdx_of_length_le (by simpa using hge)]
    refine ⟨w.putMap b (.map (es.eraseIdxIfInBounds j) c), ?_, ⟨_, _, L.eraseIdx j, heap_putMap hlt _, ?_, h.keys.erase j, by rw [atL_erase h.keys hj, h.at_], ?_, ?_, ?_⟩, kept_putMap _ _ _⟩
    · unfold Builtin.delete_
      simp [Sem.run_bind, run_underlying hT, Result.andThen_ok, run_getMap h.heap, Q.check, run_findKeyL Q a w L es.toList h.ents, hfj, run_setMap h.heap]
    · have h2 := h.ents
      unfold entriesOf at h2 ⊢
      rw [hte, map_eraseIdx, h2, map_eraseIdx]
    · rw [List.length_eraseIdx_of_lt (List.getElem?_eq_some_iff.1 hj).1, h.len]; simp
    · rw [hte, map_eraseIdx]
      exact h.born.sublist (List.eraseIdx_sublist _ _)
    · intro e he
      rw [hte] at he
      exact h.past e (List.mem_of_mem_eraseIdx he)
/-- The entry at a key bears this stamp. -/
def Stamp (enc : κ → Value) (w : World) (b : Nat) (a : κ) (t : Nat) : Prop := ∃ (es : Array MapEntry) (clock i : Nat) (e : MapEntry), w.heap[b]? = some (.map es clock) ∧ es[i]? = some e ∧ e.key = enc a ∧ e.born = t
/-- The first step of a store: the entry is there, and its stamp is known. -/
theorem run_entryF (Q : KeyT P K enc) (hT : P.underlying T = some (.map K E)) (h : MapF enc w b f n) {v : Value} (hfa : f a = some v) :
    ∃ (w' : World) (t : Nat), (Instr.mapEntry T (.map (some b)) (enc a)).run P w = .ok (.tuple #[v, goInt t]) w' ∧ MapF enc w' b f n ∧ Stamp enc w' b a t ∧ Kept (fun i => i = b) w w' := by
  have hlt := h.lt
  obtain ⟨es, c, L, h⟩ := h
  obtain ⟨j, hfj, hj⟩ := (MapF.find h a).2 v hfa
  obtain ⟨e, he, hk1, hk2⟩ := h.ents.get hj
  have hes : es[j]? = some e := by rw [← Array.getElem?_toList]; exact he
  have hsz : j < es.size := (Array.getElem?_eq_some_iff.1 hes).1
  have hM := h.put_old hj v (fun e => { e with key := enc a }) (fun e' _ hv => ⟨rfl, hv⟩) (fun _ => rfl)
  rw [updF_same hfa] at hM
  refine ⟨w.putMap b (.map (es.modify j fun e => { e with key := enc a }) c), e.born, ?_, ⟨_, _, _, hM⟩, ⟨_, _, j, { e with key := enc a }, heap_putMap hlt _, ?_, rfl, rfl⟩, kept_putMap _ _ _⟩
  · unfold Instr.mapEntry
    simp only [Sem.run_bind, run_underlying hT, Result.andThen_ok, run_getMap h.heap, Q.check, run_findKeyL Q a w L es.toList h.ents, hfj, hes, Option.map_some, Option.getD_some, hk1]
    have hb := Q.bits a
    simp only [Instr.keyThatStays, hb, if_true, Sem.run_pure, Result.andThen_ok, run_setMap h.heap]
  · simp [Array.getElem?_modify, hes]
/-- Its second step. -/
theorem run_entryStoreF (h : MapF enc w b f n) {v0 : Value} (hfa : f a = some v0) {t : Nat} (hs : Stamp enc w b a t) (hinj : ∀ x y : κ, enc x = enc y → x = y) (v : Value) (T : TypeId) :
    ∃ w', (Instr.entryStore T (.map (some b)) (goInt t) v).run P w = .ok () w' ∧ MapF enc w' b (updF f a (some v)) n ∧ Kept (fun i => i = b) w w' := by
  have hlt := h.lt
  obtain ⟨es, c, L, h⟩ := h
  obtain ⟨es', c', i, e, e1, e2, e3, e4⟩ := hs
  rw [h.heap] at e1
  simp only [Option.some.injEq, Obj.map.injEq] at e1
  obtain ⟨rfl, rfl⟩ := e1
  have hi : i < es.size := (Array.getElem?_eq_some_iff.1 e2).1
  have hLl : L.length = es.size := by have := congrArg List.length h.ents; simpa using this.symm
  obtain ⟨⟨a', v'⟩, hL⟩ : ∃ p, L[i]? = some p := ⟨_, List.getElem?_eq_getElem (by omega)⟩
  obtain ⟨e', he', hk1, hk2⟩ := h.ents.get hL
  rw [Array.getElem?_toList, e2] at he'
  injection he' with he'
  subst he'
  have ha : a' = a := hinj _ _ (by rw [← hk1, e3])
  subst ha
  have hfi : es.findIdx? (fun e => (e.born : Int) == (t : Int)) = some i := by
    rw [Array.findIdx?_eq_some_iff_getElem]
    have hei : es[i] = e := (Array.getElem?_eq_some_iff.1 e2).2
    refine ⟨hi, by rw [hei, e4]; simp, fun j hj => ?_⟩
    have hjs : j < es.size := by omega
    intro hb
    have hb : (es[j]).born = t := Int.ofNat_inj.1 (by simpa using hb)
    have h1 : (es.toList.map (·.born))[j]? = some t := by rw [List.getElem?_map, Array.getElem?_toList, Array.getElem?_eq_getElem hjs, Option.map_some, hb]
    have h2 : (es.toList.map (·.born))[i]? = some t := by rw [List.getElem?_map, Array.getElem?_toList, e2, Option.map_some, e4]
    have := (List.getElem?_inj (by rw [List.length_map, Array.length_toList]; exact hjs) h.born).1 (h1.trans h2.symm)
    omega
  refine ⟨w.putMap b (.map (es.modify i fun e => { e with val := v }) c), ?_, ⟨_, _, _, h.put_old hL v _ (fun _ hk _ => ⟨hk, rfl⟩) (fun _ => rfl)⟩, kept_putMap _ _ _⟩
  unfold Instr.entryStore
  have hai : (asIntOf (goInt t)).run P w = .ok (.i64, (t : Int)) w := by rfl
  simp [Sem.run_bind, run_getMap h.heap, asInt, hai, hfi, run_setMap h.heap]

/-! The arms of a walk. -/
section arms
variable {ops : Array Oper} {rest : List Oper} {o : Oper} {st : Act} {Q0 : Exit → Act → World → Prop}
theorem exec_lookupF (Q : KeyT P K enc) (hT : P.underlying T = some (.map K E)) {z : Value} (hz : ∀ w, (zeroValue E).run P w = .ok z w) {x ix : Operand} {ok : Bool} (ho : o.op = .lookup T x ix ok)
    (h : MapF enc w b f n) (hx : st.eval x = .map (some b)) {a : κ} (hi : st.eval ix = enc a) : (execOp st.eval o).run P w = .ok (.value (lookF f a z ok)) w := by
  unfold execOp
  simp only [ho, hx, hi, Sem.run_bind, Sem.run_pure, Result.andThen_ok, run_lookupF Q hT (hz w) h a ok]
theorem wpList_lookupF (Q : KeyT P K enc) (hT : P.underlying T = some (.map K E)) {z : Value} (hz : ∀ w, (zeroValue E).run P w = .ok z w) (hgd : o.guard = none) (x ix : Operand) (ok : Bool) (ho : o.op = .lookup T x ix ok)
    (h : MapF enc w b f n) (hx : st.eval x = .map (some b)) (a : κ) (hi : st.eval ix = enc a) (k : wpList P ops Q0 rest (st.put o.dst (lookF f a z ok)) w) : wpList P ops Q0 (o :: rest) st w :=
  wpList_plain hgd fun K0 hK => by
    unfold Oper.wp execOp
    simp only [ho, hx, hi, Sem.run_bind, Sem.run_pure, Result.andThen_ok, run_lookupF Q hT (hz w) h a ok]
    exact hK _ _ k
theorem wpList_storeF (Q : KeyT P K enc) (hT : P.underlying T = some (.map K E)) (hgd : o.guard = none) (m ix x : Operand) (ho : o.op = .mapUpdate T m ix x)
    (h : MapF enc w b f n) (hm : st.eval m = .map (some b)) (a : κ) (hi : st.eval ix = enc a) (v : Value) (hv : st.eval x = v)
    (k : ∀ w', MapF enc w' b (updF f a (some v)) (if (f a).isSome then n else n + 1) → Kept (fun i => i = b) w w' → wpList P ops Q0 rest (st.put o.dst undef) w') : wpList P ops Q0 (o :: rest) st w :=
  wpList_plain hgd fun K0 hK => by
    obtain ⟨w', h1, h2, h3⟩ := run_storeF Q hT h a v
    unfold Oper.wp execOp
    simp only [ho, hm, hi, hv, Sem.run_bind, Sem.run_pure, Result.andThen_ok, h1]
    exact hK _ _ (k w' h2 h3)
theorem wpList_deleteF (Q : KeyT P K enc) (hT : P.underlying T = some (.map K E)) (hgd : o.guard = none) (m ix : Operand) (t2 : TypeId) (ho : o.op = .call { callee := .builtin .delete, args := #[m, ix], argTypes := #[T, t2] })
    (h : MapF enc w b f n) (hm : st.eval m = .map (some b)) (a : κ) (hi : st.eval ix = enc a)
    (k : ∀ w', MapF enc w' b (updF f a none) (if (f a).isSome then n - 1 else n) → Kept (fun i => i = b) w w' → wpList P ops Q0 rest (st.put o.dst (.tuple #[])) w') : wpList P ops Q0 (o :: rest) st w :=
  wpList_plain hgd fun K0 hK => by
    obtain ⟨w', h1, h2, h3⟩ := run_deleteF Q hT h a o.type t2
    unfold Oper.wp execOp
    simp only [ho, resolve, invoke, builtin, Sem.run_bind, Sem.run_pure, Result.andThen_ok, List.map_toArray, List.map_cons, List.map_nil, hm, hi, h1]
    exact hK _ _ (k w' h2 h3)
theorem wpList_entryF (Q : KeyT P K enc) (hT : P.underlying T = some (.map K E)) (hgd : o.guard = none) (m ix : Operand) (ho : o.op = .mapEntry T m ix)
    (h : MapF enc w b f n) (hm : st.eval m = .map (some b)) (a : κ) (hi : st.eval ix = enc a) {v : Value} (hfa : f a = some v)
    (k : ∀ w' (t : Nat), MapF enc w' b f n → Stamp enc w' b a t → Kept (fun i => i = b) w w' → wpList P ops Q0 rest (st.put o.dst (.tuple #[v, goInt t])) w') : wpList P ops Q0 (o :: rest) st w :=
  wpList_plain hgd fun K0 hK => by
    obtain ⟨w', t, h1, h2, h3, h4⟩ := run_entryF Q hT h hfa
    unfold Oper.wp execOp
    simp only [ho, hm, hi, Sem.run_bind, Sem.run_pure, Result.andThen_ok, h1]
    exact hK _ _ (k w' t h2 h3 h4)
theorem wpList_entryStoreF (hgd : o.guard = none) (m s x : Operand) (ho : o.op = .entryStore T m s x)
    (h : MapF enc w b f n) (hm : st.eval m = .map (some b)) {v0 : Value} (hfa : f a = some v0) {t : Nat} (hst : Stamp enc w b a t) (hs : st.eval s = goInt t) (hinj : ∀ x y : κ, enc x = enc y → x = y) (v : Value) (hv : st.eval x = v)
    (k : ∀ w', MapF enc w' b (updF f a (some v)) n → Kept (fun i => i = b) w w' → wpList P ops Q0 rest (st.put o.dst undef) w') : wpList P ops Q0 (o :: rest) st w :=
  wpList_plain hgd fun K0 hK => by
    obtain ⟨w', h1, h2, h3⟩ := run_entryStoreF (P := P) h hfa hst hinj v T
    unfold Oper.wp execOp
    simp only [ho, hm, hs, hv, Sem.run_bind, Sem.run_pure, Result.andThen_ok, h1]
    exact hK _ _ (k w' h2 h3)
end arms
end
end Go.Proofs.Ytpncbggjngamgaa
