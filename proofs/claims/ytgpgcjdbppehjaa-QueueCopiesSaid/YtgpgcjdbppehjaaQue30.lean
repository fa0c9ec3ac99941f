/-
  The queue and the list that is searched, side by side: what both answer is the same.
-/
import Derived.Test.YtgpgcjdbppehjaaQue29
namespace Go.Proofs.Ytgpgcjdbppehjaa
set_option linter.unusedVariables false
open Go.RowKit

theorem what_inj {l : List Ent} (h : Dist l) {a b : Ent} (ha : a ∈ l) (hb : b ∈ l) (he : a.what = b.what) : a = b := by
  obtain ⟨i, hi⟩ := List.getElem?_of_mem ha
  obtain ⟨j, hj⟩ := List.getElem?_of_mem hb
  obtain rfl := h i j a b hi hj he
  rw [hi] at hj
  injection hj
section
variable {l D l' D' : List Ent} {most a r x n n' t : Int} {b b' : Bool} {z z' : Ent}
theorem putM_agree (hl : Dist l) (hD : Dist D) (hm : ∀ e, e ∈ l ↔ e ∈ D) (p : PutM most l a r x l' b) (p' : PutM most D a r x D' b') : b = b' ∧ ∀ e, e ∈ l' ↔ e ∈ D' := by
  have hlen := same_len hl hD hm
  have hb : b = true ↔ b' = true := by
    rw [p.iff, p'.iff, hlen]
    exact or_congr ⟨fun ⟨e, h1, h2⟩ => ⟨e, (hm e).1 h1, h2⟩, fun ⟨e, h1, h2⟩ => ⟨e, (hm e).2 h1, h2⟩⟩ Iff.rfl
  have hbb : b = b' := by cases b <;> cases b' <;> simp_all
  subst hbb
  refine ⟨rfl, fun e => ?_⟩
  cases b
  · rw [p.no rfl, p'.no rfl]; exact hm e
  · rw [p.yes rfl e, p'.yes rfl e, hm e]
theorem dropM_agree (hm : ∀ e, e ∈ l ↔ e ∈ D) (p : DropM l x l' b) (p' : DropM D x D' b') : b = b' ∧ ∀ e, e ∈ l' ↔ e ∈ D' := by
  have hb : b = true ↔ b' = true := by
    rw [p.iff, p'.iff]
    exact ⟨fun ⟨e, h1, h2⟩ => ⟨e, (hm e).1 h1, h2⟩, fun ⟨e, h1, h2⟩ => ⟨e, (hm e).2 h1, h2⟩⟩
  have hbb : b = b' := by cases b <;> cases b' <;> simp_all
  exact ⟨hbb, fun e => by rw [p.mem, p'.mem, hm]⟩
theorem nextM_agree (hm : ∀ e, e ∈ l ↔ e ∈ D) (p : NextM l z b) (p' : NextM D z' b') : b = b' ∧ z = z' := by
  cases b <;> cases b'
  · exact ⟨rfl, by rw [(p.no rfl).2, (p'.no rfl).2]⟩
  · have h1 := (p.no rfl).1
    have h2 := (hm z').2 (p'.yes rfl).1
    rw [h1] at h2; cases h2
  · have h1 := (p'.no rfl).1
    have h2 := (hm z).1 (p.yes rfl).1
    rw [h1] at h2; cases h2
  · obtain ⟨h1, h2⟩ := p.yes rfl
    obtain ⟨k1, k2⟩ := p'.yes rfl
    exact ⟨rfl, lessE_total (k2 z ((hm z).1 h1)) (h2 z' ((hm z').2 k1))⟩
theorem takeM_agree (hm : ∀ e, e ∈ l ↔ e ∈ D) (p : TakeM l t z b l') (p' : TakeM D t z' b' D') : b = b' ∧ z = z' ∧ ∀ e, e ∈ l' ↔ e ∈ D' := by
  cases b <;> cases b'
  · obtain ⟨h1, h2, _⟩ := p.no rfl
    obtain ⟨k1, k2, _⟩ := p'.no rfl
    exact ⟨rfl, by rw [h1, k1], by rw [h2, k2]; exact hm⟩
  · have h1 := (p.no rfl).2.2 z' ((hm z').2 (p'.yes rfl).1)
    have h2 := (p'.yes rfl).2.2.1
    omega
  · have h1 := (p'.no rfl).2.2 z ((hm z).1 (p.yes rfl).1)
    have h2 := (p.yes rfl).2.2.1
    omega
  · obtain ⟨h1, h2, _, h4⟩ := p.yes rfl
    obtain ⟨k1, k2, _, k4⟩ := p'.yes rfl
    obtain rfl : z = z' := lessE_total (k2 z ((hm z).1 h1)) (h2 z' ((hm z').2 k1))
    exact ⟨rfl, rfl, fun e => by rw [h4, k4, hm]⟩
theorem whenM_agree (hD : Dist D) (hm : ∀ e, e ∈ l ↔ e ∈ D) (p : WhenM l x n b) (p' : WhenM D x n' b') : b = b' ∧ n = n' := by
  cases b <;> cases b'
  · exact ⟨rfl, by rw [(p.no rfl).1, (p'.no rfl).1]⟩
  · obtain ⟨z, h1, h2, _⟩ := p'.yes rfl
    exact absurd h2 ((p.no rfl).2 z ((hm z).2 h1))
  · obtain ⟨z, h1, h2, _⟩ := p.yes rfl
    exact absurd h2 ((p'.no rfl).2 z ((hm z).1 h1))
  · obtain ⟨z, h1, h2, h3⟩ := p.yes rfl
    obtain ⟨y, k1, k2, k3⟩ := p'.yes rfl
    have := what_inj hD ((hm z).1 h1) k1 (by rw [h2, k2])
    subst this
    exact ⟨rfl, by rw [h3, k3]⟩
end
/-! The queue's own calls, by what they say. -/
theorem qnext_m (w : World) (F : Nat → Prop) (g bm : Nat) (most : Int) (l : List Ent) (q : QF w F g bm most l) (hq : QI l) (hm : 1 ≤ most) :
    Calls Try.prog 12 #[.pointer (some ⟨g, 0, none⟩)] w fun e w' => ∃ z b, e = .returned (.tuple #[z.v, .bool b]) ∧ NextM l z b ∧ Below w.heap.size w w' := by
  by_cases h0 : l = []
  · subst h0
    refine (next_none w F g bm most q hm).mono ?_
    rintro e w' ⟨rfl, hb⟩
    exact ⟨zE, false, rfl, ⟨(fun h => by cases h), fun _ => ⟨rfl, rfl⟩⟩, hb⟩
  · have hlp : 0 < l.length := List.length_pos_iff.2 h0
    obtain ⟨z, hz⟩ : ∃ z, l[0]? = some z := ⟨_, List.getElem?_eq_getElem hlp⟩
    refine (next_some w F g bm most l q hm z hz).mono ?_
    rintro e w' ⟨rfl, hb⟩
    exact ⟨z, true, rfl, ⟨fun _ => ⟨List.mem_of_getElem? hz, (pop_facts hq (n := l.length - 1) (by omega) hz).2.2.2⟩, (fun h => by cases h)⟩, hb⟩
theorem qtake_m (w : World) (F : Nat → Prop) (g bm : Nat) (most t : Int) (l : List Ent) (q : QF w F g bm most l) (hq : QI l) (hm : 1 ≤ most) :
    Calls Try.prog 11 #[.pointer (some ⟨g, 0, none⟩), .int .i64 t] w fun e w' => ∃ l' z b, e = .returned (.tuple #[z.v, .bool b]) ∧ QF w' F g bm most l' ∧ QI l' ∧ Kept F w w' ∧ TakeM l t z b l' := by
  by_cases h0 : l = []
  · subst h0
    refine (take_none w F g bm most t q hm).mono ?_
    rintro e w' ⟨rfl, hb⟩
    exact ⟨[], zE, false, rfl, q.later hb, hq, Kept.of_new hb F, ⟨(fun h => by cases h), fun _ => ⟨rfl, rfl, fun y hy => by cases hy⟩⟩⟩
  · have hlp : 0 < l.length := List.length_pos_iff.2 h0
    obtain ⟨z, hz⟩ : ∃ z, l[0]? = some z := ⟨_, List.getElem?_eq_getElem hlp⟩
    obtain ⟨f1, f2, f3, f4⟩ := pop_facts hq (n := l.length - 1) (by omega) hz
    by_cases ht : t < z.at_
    · refine (take_early w F g bm most t l q hm z hz ht).mono ?_
      rintro e w' ⟨rfl, hb⟩
      exact ⟨l, zE, false, rfl, q.later hb, hq, Kept.of_new hb F, ⟨(fun h => by cases h), fun _ => ⟨rfl, rfl, fun y hy => by have := least_at f4 y hy; omega⟩⟩⟩
    · refine (take_due w F g bm most t l q hm (l.length - 1) (by omega) z hz (by omega)).mono ?_
      rintro e w' ⟨rfl, q', hk⟩
      have hzl := List.mem_of_getElem? hz
      refine ⟨_, z, true, rfl, q', f1, hk, ⟨fun _ => ⟨hzl, f4, by omega, fun e => ?_⟩, (fun h => by cases h)⟩⟩
      rw [f2]
      exact and_congr_right fun he => not_congr ⟨fun h => by rw [h], fun h => what_inj hq.dist he hzl h⟩
theorem qwhen_m (w : World) (F : Nat → Prop) (g bm : Nat) (most : Int) (l : List Ent) (q : QF w F g bm most l) (hq : QI l) (hm : 1 ≤ most) (x : Int) :
    Calls Try.prog 21 #[.pointer (some ⟨g, 0, none⟩), .int .u64 x] w fun e w' => ∃ n b, e = .returned (.tuple #[.int .i64 n, .bool b]) ∧ WhenM l x n b ∧ w = w' := by
  rcases hp : posL l x with _ | i
  · refine (when_no w F g bm most l q hm x hp).mono ?_
    rintro e w' ⟨rfl, rfl⟩
    exact ⟨0, false, rfl, ⟨(fun h => by cases h), fun _ => ⟨rfl, posL_none.1 hp⟩⟩, rfl⟩
  · obtain ⟨z, hz, hx⟩ := (posL_some hq.dist).1 hp
    refine (when_yes w F g bm most l q hm x i z hz hp).mono ?_
    rintro e w' ⟨rfl, rfl⟩
    exact ⟨z.at_, true, rfl, ⟨fun _ => ⟨z, List.mem_of_getElem? hz, hx, rfl⟩, (fun h => by cases h)⟩, rfl⟩
/-- Both, side by side. -/
structure PairH (w wr : World) (F F2 : Nat → Prop) (g bm g2 : Nat) (most : Int) (l D : List Ent) : Prop where
  q : QF wr F g bm most l
  qi : QI l
  r : RQ wr F2 g2 most D
  d : Dist D
  dis : ∀ i, F i → ¬ F2 i
  hF : ∀ i, F i → w.heap.size ≤ i
  hF2 : ∀ i, F2 i → w.heap.size ≤ i
  below : Below w.heap.size w wr
section
variable {w wr wr' : World} {F F2 F' : Nat → Prop} {g bm g2 : Nat} {most : Int} {l D l' : List Ent}
theorem PairH.later (t : PairH w wr F F2 g bm g2 most l D) (hb : Below wr.heap.size wr wr') : PairH w wr' F F2 g bm g2 most l D :=
  ⟨t.q.later hb, t.qi, t.r.later hb, t.d, t.dis, t.hF, t.hF2, below_then t.below hb⟩
theorem PairH.stepq (t : PairH w wr F F2 g bm g2 most l D) (hq : QF wr' F' g bm most l') (hi : QI l') (hg : Grew wr F F') (hk : Kept F wr wr') : PairH w wr' F' F2 g bm g2 most l' D :=
  ⟨hq, hi, t.r.kept hk (fun i h2 h1 => t.dis i h1 h2), t.d, fun i hi h2 => (hg.2 i hi).elim (fun h => t.dis i h h2) (fun h => by have := t.r.lim i h2; omega), grew_ge t.hF t.below.size hg, t.hF2, below_kept t.below hk t.hF⟩
theorem PairH.stepr (t : PairH w wr F F2 g bm g2 most l D) (s : RStep_ wr wr' F2 F' g2 most l') : PairH w wr' F F' g bm g2 most l l' :=
  ⟨t.q.kept s.k (fun i h1 h2 => t.dis i h1 h2), t.qi, s.q, s.d, fun i h1 hi => (s.g.2 i hi).elim (fun h => t.dis i h1 h) (fun h => by have := t.q.lim i h1; omega), t.hF, grew_ge t.hF2 t.below.size s.g, below_kept t.below s.k t.hF2⟩
end
/-- What both are behind a call of both: what each has grown by, and what else was kept. -/
structure PStep (w wr wr' : World) (F F2 F' F2' : Nat → Prop) (g bm g2 : Nat) (most : Int) (l D : List Ent) : Prop where
  h : PairH w wr' F' F2' g bm g2 most l D
  m : ∀ e, e ∈ l ↔ e ∈ D
  gq : Grew wr F F'
  gr : Grew wr F2 F2'
  k : Kept (fun i => F i ∨ F2 i) wr wr'
end Go.Proofs.Ytgpgcjdbppehjaa
