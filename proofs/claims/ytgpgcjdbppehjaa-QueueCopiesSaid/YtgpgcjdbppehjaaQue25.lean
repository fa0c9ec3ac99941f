/-
  Put, Drop, When in terms of members; sorted rows of the same members are one.
-/
import Derived.Test.YtgpgcjdbppehjaaQue24
import Derived.Test.YtgpgcjdbppehjaaQue15
namespace Go.Proofs.Ytgpgcjdbppehjaa
set_option linter.unusedVariables false
open Go.RowKit

/-- What a Put does to the members. -/
structure PutM (most : Int) (l : List Ent) (a r x : Int) (l' : List Ent) (b : Bool) : Prop where
  yes : b = true → ∀ e, e ∈ l' ↔ e = ⟨a, r, x⟩ ∨ (e ∈ l ∧ e.what ≠ x)
  no : b = false → l' = l
  iff : b = true ↔ (∃ e ∈ l, e.what = x) ∨ (l.length : Int) < most
  len : l'.length ≤ l.length + 1
theorem put_all (w : World) (F : Nat → Prop) (g bm : Nat) (most : Int) (l : List Ent) (q : QF w F g bm most l) (hq : QI l) (hm : 1 ≤ most) (hm2 : most ≤ 1048576) (a r x : Int) (hok : Ent.ok ⟨a, r, x⟩) :
    Calls Try.prog 10 #[.pointer (some ⟨g, 0, none⟩), .int .i64 a, .int .i64 r, .int .u64 x] w fun e w' =>
      ∃ F' l' b, e = .returned (.bool b) ∧ QF w' F' g bm most l' ∧ QI l' ∧ Grew w F F' ∧ Kept F w w' ∧ PutM most l a r x l' b := by
  rcases hp : posL l x with _ | i
  · by_cases hf : (l.length : Int) < most
    · refine (put_new w F g bm most l q hm a r x hok hp ⟨hf, hm2⟩).mono ?_
      rintro e w' ⟨rfl, F', h1, h2, h3⟩
      obtain ⟨f1, f2, f3⟩ := push_facts hq (e := ⟨a, r, x⟩) hp
      have hn := posL_none.1 hp
      refine ⟨F', _, true, rfl, h1, f1, h2, h3, ⟨fun _ e => ?_, (fun h => by cases h), iff_of_true rfl (.inr hf), by omega⟩⟩
      rw [f2]
      exact ⟨fun h => h.elim (fun h => .inr ⟨h, hn e h⟩) .inl, fun h => h.elim .inr fun h => .inl h.1⟩
    · refine (put_full w F g bm most l q hm a r x hok hp (by omega)).mono ?_
      rintro e w' ⟨rfl, h1, h2⟩
      refine ⟨F, l, false, rfl, h1, hq, Grew.refl _ _, h2, ⟨(fun h => by cases h), fun _ => rfl, ⟨(fun h => by cases h), ?_⟩, by omega⟩⟩
      rintro (⟨e, he, hx⟩ | h)
      · exact absurd hx (posL_none.1 hp e he)
      · exact absurd h hf
  · refine (put_old w F g bm most l q hm a r x hok i hp).mono ?_
    rintro e w' ⟨rfl, h1, h2⟩
    obtain ⟨z, hz, rfl⟩ := (posL_some hq.dist).1 hp
    obtain ⟨f1, f2, f3⟩ := fix_facts hq hz a r
    exact ⟨F, _, true, rfl, h1, f1, Grew.refl _ _, h2, ⟨fun _ e => f2 e, (fun h => by cases h), iff_of_true rfl (.inl ⟨z, List.mem_of_getElem? hz, rfl⟩), by omega⟩⟩
/-- What a Drop does to the members. -/
structure DropM (l : List Ent) (x : Int) (l' : List Ent) (b : Bool) : Prop where
  mem : ∀ e, e ∈ l' ↔ e ∈ l ∧ e.what ≠ x
  iff : b = true ↔ ∃ e ∈ l, e.what = x
theorem drop_all (w : World) (F : Nat → Prop) (g bm : Nat) (most : Int) (l : List Ent) (q : QF w F g bm most l) (hq : QI l) (hm : 1 ≤ most) (x : Int) :
    Calls Try.prog 14 #[.pointer (some ⟨g, 0, none⟩), .int .u64 x] w fun e w' =>
      ∃ l' b, e = .returned (.bool b) ∧ QF w' F g bm most l' ∧ QI l' ∧ Kept F w w' ∧ DropM l x l' b := by
  rcases hp : posL l x with _ | i
  · refine (drop_no w F g bm most l q hm x hp).mono ?_
    rintro e w' ⟨rfl, rfl⟩
    have hn := posL_none.1 hp
    refine ⟨l, false, rfl, q, hq, Kept.refl _ _, ⟨fun e => ⟨fun h => ⟨h, hn e h⟩, fun h => h.1⟩, ⟨(fun h => by cases h), ?_⟩⟩⟩
    rintro ⟨e, he, hx⟩
    exact absurd hx (hn e he)
  · have hil := posL_lt hp
    obtain ⟨n, hl⟩ : ∃ n, l.length = n + 1 := ⟨l.length - 1, by omega⟩
    refine (drop_yes w F g bm most l q hm x i n hl hp).mono ?_
    rintro e w' ⟨rfl, h1, h2⟩
    obtain ⟨z, hz, rfl⟩ := (posL_some hq.dist).1 hp
    obtain ⟨f1, f2, f3⟩ := remove_facts hq hl hz
    refine ⟨_, true, rfl, h1, f1, h2, ⟨fun e => ?_, iff_of_true rfl ⟨z, List.mem_of_getElem? hz, rfl⟩⟩⟩
    rw [f2]
    refine and_congr_right fun he => not_congr ⟨fun h => by rw [h], fun h => ?_⟩
    obtain ⟨j, hj, rfl⟩ := List.getElem_of_mem he
    have hji := hq.dist j i _ _ (List.getElem?_eq_getElem hj) hz h
    subst hji
    rw [List.getElem?_eq_getElem hj] at hz
    injection hz
/-- A sorted row is told by its members. -/
theorem sorted_eq {l l2 s s2 : List Ent} (h : Sorted_ l s) (h2 : Sorted_ l2 s2) (d : Dist l) (d2 : Dist l2) (hm : ∀ e, e ∈ l ↔ e ∈ l2) : s = s2 := by
  have hn := (h.perm.nodup_iff).2 (dist_nodup d)
  have hn2 := (h2.perm.nodup_iff).2 (dist_nodup d2)
  have hmm : ∀ e, e ∈ s ↔ e ∈ s2 := fun e => by rw [h.perm.mem_iff, h2.perm.mem_iff]; exact hm e
  have key : ∀ (s s2 : List Ent), s.Nodup → s2.Nodup → (∀ (i j : Nat) (a b : Ent), i < j → s[i]? = some a → s[j]? = some b → lessE b a = false) → (∀ (i j : Nat) (a b : Ent), i < j → s2[i]? = some a → s2[j]? = some b → lessE b a = false) → (∀ e, e ∈ s ↔ e ∈ s2) → s = s2 := by
    intro s
    induction s with
    | nil =>
      intro s2 _ _ _ _ hm
      cases s2 with
      | nil => rfl
      | cons a t => exact absurd ((hm a).2 List.mem_cons_self) (by simp)
    | cons a t ih =>
      intro s2 hn hn2 ha ha2 hm
      cases s2 with
      | nil => exact absurd ((hm a).1 List.mem_cons_self) (by simp)
      | cons b t2 =>
        have hab : a = b := by
          by_cases e : a = b
          · exact e
          · have h1 : a ∈ t2 := by rcases List.mem_cons.1 ((hm a).1 List.mem_cons_self) with h | h; exact absurd h e; exact h
            have h2 : b ∈ t := by rcases List.mem_cons.1 ((hm b).2 List.mem_cons_self) with h | h; exact absurd h.symm e; exact h
            obtain ⟨i, hi, hi'⟩ := List.getElem_of_mem h1
            obtain ⟨j, hj, hj'⟩ := List.getElem_of_mem h2
            exact lessE_total (ha2 0 (i + 1) b a (by omega) rfl (by rw [List.getElem?_cons_succ, List.getElem?_eq_getElem hi, hi'])) (ha 0 (j + 1) a b (by omega) rfl (by rw [List.getElem?_cons_succ, List.getElem?_eq_getElem hj, hj']))
        subst hab
        rw [List.nodup_cons] at hn hn2
        rw [ih t2 hn.2 hn2.2 (fun i j a b hij hi hj => ha (i + 1) (j + 1) a b (by omega) hi hj) (fun i j a b hij hi hj => ha2 (i + 1) (j + 1) a b (by omega) hi hj) (fun e => ?_)]
        have := hm e
        rw [List.mem_cons, List.mem_cons] at this
        constructor
        · intro he
          rcases this.1 (.inr he) with h | h
          · subst h; exact absurd he hn.1
          · exact h
        · intro he
          rcases this.2 (.inr he) with h | h
          · subst h; exact absurd he hn2.1
          · exact h
  exact key s s2 hn hn2 h.asc h2.asc hmm
/-- QueueGone's two queues: the one has what the other has, and odd ones that are still to go. -/
structure GoneI (lg : List OpA) (lo hi : Nat) (lq lr : List Ent) : Prop where
  ev : ∀ e ∈ lr, e.what % 2 = 0
  mem : ∀ e, e.what % 2 = 0 → (e ∈ lq ↔ e ∈ lr)
  odd : ∀ e ∈ lq, e.what % 2 ≠ 0 → ∃ k o, lo ≤ k ∧ k < hi ∧ lg[k]? = some o ∧ e.what = 2 * (o.x / 2) + 1
theorem GoneI.nil (lg : List OpA) : GoneI lg 0 0 [] [] := ⟨by simp, by simp, by simp⟩
theorem GoneI.even {lg : List OpA} {hi : Nat} {lq lr lq' lr' : List Ent} (h : GoneI lg 0 hi lq lr) {most most2 a r x : Int} (hx : x % 2 = 0) {b b2 : Bool} (p : PutM most lq a r x lq' b) (p2 : PutM most2 lr a r x lr' b2) (hb : b = true) (hb2 : b2 = true) : GoneI lg 0 hi lq' lr' := by
  have m := p.yes hb
  have m2 := p2.yes hb2
  refine ⟨fun e he => ?_, fun e he => ?_, fun e he ho => ?_⟩
  · rcases (m2 e).1 he with rfl | h1
    · exact hx
    · exact h.ev e h1.1
  · rw [m, m2, h.mem e he]
  · rcases (m e).1 he with rfl | h1
    · exact absurd hx ho
    · exact h.odd e h1.1 ho
theorem GoneI.put {lg : List OpA} {hi : Nat} {lq lr lq' : List Ent} (h : GoneI lg 0 hi lq lr) {most a r : Int} {o : OpA} (ho : lg[hi]? = some o) {b : Bool} (p : PutM most lq a r (2 * (o.x / 2) + 1) lq' b) (hb : b = true) : GoneI lg 0 (hi + 1) lq' lr := by
  have m := p.yes hb
  refine ⟨h.ev, fun e he => ?_, fun e he hodd => ?_⟩
  · rw [m, ← h.mem e he]
    constructor
    · rintro (rfl | h1)
      · simp only at he; omega
      · exact h1.1
    · intro h1
      exact .inr ⟨h1, by omega⟩
  · rcases (m e).1 he with rfl | h1
    · exact ⟨hi, o, Nat.zero_le _, by omega, ho, rfl⟩
    · obtain ⟨k, o', h2, h3, h4, h5⟩ := h.odd e h1.1 hodd
      exact ⟨k, o', h2, by omega, h4, h5⟩
theorem GoneI.skip {lg : List OpA} {lo hi : Nat} {lq lr : List Ent} (h : GoneI lg lo hi lq lr) : GoneI lg lo (hi + 1) lq lr :=
  ⟨h.ev, h.mem, fun e he ho => by obtain ⟨k, o', h2, h3, h4, h5⟩ := h.odd e he ho; exact ⟨k, o', h2, by omega, h4, h5⟩⟩
theorem GoneI.drop {lg : List OpA} {lo hi : Nat} {lq lr lq' : List Ent} (h : GoneI lg lo hi lq lr) {o : OpA} (ho : lg[lo]? = some o) {b : Bool} (p : DropM lq (2 * (o.x / 2) + 1) lq' b) : GoneI lg (lo + 1) hi lq' lr := by
  refine ⟨h.ev, fun e he => ?_, fun e he hodd => ?_⟩
  · rw [p.mem, ← h.mem e he]
    exact ⟨fun h => h.1, fun h => ⟨h, by omega⟩⟩
  · obtain ⟨h1, h2⟩ := (p.mem e).1 he
    obtain ⟨k, o', h3, h4, h5, h6⟩ := h.odd e h1 hodd
    refine ⟨k, o', ?_, h4, h5, h6⟩
    rcases Nat.lt_or_ge lo k with h | h
    · exact h
    · have hk : k = lo := by omega
      subst hk
      rw [ho] at h5
      injection h5 with h5
      subst h5
      exact absurd h6 h2
theorem GoneI.gone {lg : List OpA} {hi : Nat} {lq lr : List Ent} (h : GoneI lg lg.length hi lq lr) : ∀ e, e ∈ lq ↔ e ∈ lr := by
  intro e
  by_cases he : e.what % 2 = 0
  · exact h.mem e he
  · refine ⟨fun hq => ?_, fun hr => absurd (h.ev e hr) he⟩
    obtain ⟨k, o, h1, _, h3, _⟩ := h.odd e hq he
    have := (List.getElem?_eq_some_iff.1 h3).1
    omega
/-- What is dropped twice is not there the second time. -/
theorem drop_twice {l l' l2 : List Ent} {x : Int} {b b2 : Bool} (p : DropM l x l' b) (p2 : DropM l' x l2 b2) : b2 = false ∧ ∀ e, e ∈ l2 ↔ e ∈ l' := by
  constructor
  · cases hb : b2
    · rfl
    · obtain ⟨e, he, hx⟩ := p2.iff.1 hb
      exact absurd hx ((p.mem e).1 he).2
  · intro e
    rw [p2.mem]
    exact ⟨fun h => h.1, fun h => ⟨h, ((p.mem e).1 h).2⟩⟩
end Go.Proofs.Ytgpgcjdbppehjaa
