/-
  The law QueueOrder: what it is told of its arguments; two queues side by side.
-/
import Derived.Test.YtgpgcjdbppehjaaQue12
namespace Go.Proofs.Ytgpgcjdbppehjaa
set_option linter.unusedVariables false
open Go.RowKit Go.ChangeShapes Go.WideShapes

/-- One call. -/
structure OpA where
  d : Int
  a : Int
  r : Int
  x : Int
def OpA.cells (o : OpA) : List Value := [.int .u8 o.d, .int .i64 o.a, .int .i64 o.r, .int .u64 o.x]
theorem op_len (o : OpA) : o.cells.length = 4 := rfl
structure OpA.ok (o : OpA) : Prop where
  d : 0 ≤ o.d ∧ o.d ≤ 255
  a : -9223372036854775808 ≤ o.a ∧ o.a ≤ 9223372036854775807
  r : -9223372036854775808 ≤ o.r ∧ o.r ≤ 9223372036854775807
  x : 0 ≤ o.x ∧ o.x ≤ 18446744073709551615
@[reducible] def OpA.e (o : OpA) : Ent := ⟨o.a, o.r, o.x⟩
@[reducible] def OpA.half (o : OpA) : Ent := ⟨o.a.tdiv 2, o.r, o.x⟩
theorem OpA.ok.e {o : OpA} (h : o.ok) : o.e.ok := ⟨h.a, h.r, h.x⟩
theorem tdiv_half {a : Int} (h : -9223372036854775808 ≤ a ∧ a ≤ 9223372036854775807) : -9223372036854775808 ≤ a.tdiv 2 ∧ a.tdiv 2 ≤ 9223372036854775807 := by
  rcases Int.le_total 0 a with h0 | h0
  · rw [Int.tdiv_eq_ediv_of_nonneg h0]; omega
  · have e : a = -(-a) := by omega
    rw [e, Int.neg_tdiv, Int.tdiv_eq_ediv_of_nonneg (by omega)]; omega
theorem OpA.ok.half {o : OpA} (h : o.ok) : o.half.ok := ⟨tdiv_half h.a, h.r, h.x⟩
structure OpRow (w : World) (A : Option Addr) (n : Nat) (L : List OpA) : Prop where
  row : Reads w w.heap.size 4 A n (L.flatMap OpA.cells)
  len : L.length = n
  ok : ∀ o ∈ L, o.ok
theorem OpRow.later {w w' : World} {A : Option Addr} {n : Nat} {L : List OpA} (h : OpRow w A n L) (hb : Below w.heap.size w w') : OpRow w' A n L := ⟨h.row.later hb, h.len, h.ok⟩
def OpAt (w : World) (ad : Addr) (o : OpA) : Prop := w.cell? ⟨ad.block, ad.off + 1, none⟩ = some (.int .i64 o.a) ∧ w.cell? ⟨ad.block, ad.off + 2, none⟩ = some (.int .i64 o.r) ∧ w.cell? ⟨ad.block, ad.off + 3, none⟩ = some (.int .u64 o.x)
theorem OpRow.at_ {w : World} {A : Option Addr} {n i : Nat} {L : List OpA} (h : OpRow w A n L) (hi : i < n) : ∃ ad o, A = some ad ∧ L[i]? = some o ∧ o.ok ∧ OpAt w (ad.add (i * 4)) o := by
  obtain ⟨ad, o, e, hb, ho, h0, hj⟩ := rowG_at op_len h.row h.len hi
  exact ⟨ad, o, e, ho, h.ok o (List.mem_of_getElem? ho), hj 1 _ (by decide) rfl, hj 2 _ (by decide) rfl, hj 3 _ (by decide) rfl⟩
theorem OpAt.later {w w' : World} {ad : Addr} {o : OpA} (h : OpAt w ad o) (hb : Below w.heap.size w w') : OpAt w' ad o :=
  ⟨(hb.cell (cell_lt h.1)).trans h.1, (hb.cell (cell_lt h.2.1)).trans h.2.1, (hb.cell (cell_lt h.2.2)).trans h.2.2⟩
set_option maxRecDepth 100000 in
theorem op_of {H : Type} {enc : TypeId × Value → H} {w : World} {held : Bool} (fuel : Nat) (cs : List Value) (x : DataW H × List MemPlace) (h : DataW.trod enc Try.prog w 0 (fun _ => true) held fuel 29 cs = some x) :
    ∃ o : OpA, cs = o.cells ∧ o.ok ∧ ((∀ N ∈ x.1.weights Try.prog 29, N ≤ reachBytes) → True) := by
  obtain ⟨xs, n, _, _, hl, hxl, hf⟩ := DataW.trod_struct Try.underlying29 h
  have hC : Try.prog.cellsOf 29 = 4 := by kernel_rfl
  rw [hC] at hl
  match cs, hl, xs, hxl with
  | [c0, c1, c2, c3], _, [y0, y1, y2, y3], _ =>
    have g0 : DataW.trod enc Try.prog w 0 (fun _ => true) held n 5 (([c0, c1, c2, c3].drop 0).take (Try.prog.cellsOf 5)) = some y0 := hf 0 _ rfl
    have g1 : DataW.trod enc Try.prog w 0 (fun _ => true) held n 3 (([c0, c1, c2, c3].drop 1).take (Try.prog.cellsOf 3)) = some y1 := hf 1 _ rfl
    have g2 : DataW.trod enc Try.prog w 0 (fun _ => true) held n 3 (([c0, c1, c2, c3].drop 2).take (Try.prog.cellsOf 3)) = some y2 := hf 2 _ rfl
    have g3 : DataW.trod enc Try.prog w 0 (fun _ => true) held n 27 (([c0, c1, c2, c3].drop 3).take (Try.prog.cellsOf 27)) = some y3 := hf 3 _ rfl
    rw [show Try.prog.cellsOf 5 = 1 from by kernel_rfl] at g0
    rw [show Try.prog.cellsOf 3 = 1 from by kernel_rfl] at g1 g2
    rw [show Try.prog.cellsOf 27 = 1 from by kernel_rfl] at g3
    obtain ⟨a0, e0, _, w0⟩ := DataW.trod_int Try.underlying5 g0
    obtain ⟨a1, e1, _, w1⟩ := DataW.trod_int Try.underlying3 g1
    obtain ⟨a2, e2, _, w2⟩ := DataW.trod_int Try.underlying3 g2
    obtain ⟨a3, e3, _, w3⟩ := DataW.trod_int Try.underlying27 g3
    simp at e0 e1 e2 e3
    subst e0 e1 e2 e3
    exact ⟨⟨a0, a1, a2, a3⟩, rfl, ⟨bounds_u8 w0, bounds_i64 w1, bounds_i64 w2, bounds_u64 w3⟩, fun _ => trivial⟩
set_option maxRecDepth 100000 in
theorem ops_arg {H : Type} {enc : TypeId × Value → H} {w : World} {r : Reach} {b : Nat} {held : Bool} {v : Value} {d : DataW H} {p : List MemPlace}
    (hv : Value.okWide Try.prog w r b 22 v) (h : DataW.Trod enc Try.prog w 0 (fun _ => true) held 22 v d p) :
    ∃ (A : Option Addr) (n c : Nat) (L : List OpA), v = .slice A n c ∧ OpRow w A n L ∧ n ≤ c ∧ c ≤ 9223372036854775807 := by
  obtain ⟨A, n, c, L, e, h1, h2, h3, h4, h5, _⟩ := slice_arg (cs := OpA.cells) op_len (by decide) Try.underlying22 (by kernel_rfl) op_of hv h
  exact ⟨A, n, c, L, e, ⟨h1, h2, h3⟩, h4, h5⟩
set_option maxRecDepth 100000 in
theorem steps_arg {H : Type} {enc : TypeId × Value → H} {w : World} {r : Reach} {b : Nat} {held : Bool} {v : Value} {d : DataW H} {p : List MemPlace}
    (hv : Value.okWide Try.prog w r b 23 v) (h : DataW.Trod enc Try.prog w 0 (fun _ => true) held 23 v d p) :
    ∃ (A : Option Addr) (n c : Nat) (L : List Int), v = .slice A n c ∧ Reads w w.heap.size 1 A n (L.flatMap fun b => [Value.int .u16 b]) ∧ L.length = n ∧ (∀ s ∈ L, 0 ≤ s ∧ s ≤ 65535) ∧ n ≤ c ∧ c ≤ 9223372036854775807 := by
  obtain ⟨A, n, c, L, e, h1, h2, h3, h4, h5, _⟩ := slice_arg (cs := fun b => [Value.int .u16 b]) (Ok := fun b => 0 ≤ b ∧ b ≤ 65535) (Wt := fun _ => True) (fun _ => rfl) (by decide) Try.underlying23 (by kernel_rfl) (fun fuel l x hx => by
    obtain ⟨b, e, _, hw⟩ := DataW.trod_int Try.underlying33 hx
    exact ⟨b, e, bounds_u16 hw, fun _ => trivial⟩) hv h
  exact ⟨A, n, c, L, e, h1, h2, h3, h4, h5⟩
/-- Two queues, that know nothing of each other. -/
structure Two (w wr : World) (F F2 : Nat → Prop) (g bm g2 bm2 : Nat) (l l2 : List Ent) : Prop where
  q : QF wr F g bm 1048576 l
  r : QF wr F2 g2 bm2 1048576 l2
  qi : QI l
  ri : QI l2
  dis : ∀ i, F i → ¬ F2 i
  hF : ∀ i, F i → w.heap.size ≤ i
  hF2 : ∀ i, F2 i → w.heap.size ≤ i
  below : Below w.heap.size w wr
section
variable {w wr wr' : World} {F F2 F' : Nat → Prop} {g bm g2 bm2 : Nat} {l l2 l' : List Ent}
theorem Two.later (t : Two w wr F F2 g bm g2 bm2 l l2) (hb : Below wr.heap.size wr wr') : Two w wr' F F2 g bm g2 bm2 l l2 :=
  ⟨t.q.later hb, t.r.later hb, t.qi, t.ri, t.dis, t.hF, t.hF2, below_then t.below hb⟩
theorem Two.stepq (t : Two w wr F F2 g bm g2 bm2 l l2) (hq : QF wr' F' g bm 1048576 l') (hi : QI l') (hg : Grew wr F F') (hk : Kept F wr wr') : Two w wr' F' F2 g bm g2 bm2 l' l2 :=
  ⟨hq, t.r.kept hk (fun i h2 h1 => t.dis i h1 h2), hi, t.ri, fun i hi h2 => (hg.2 i hi).elim (fun h => t.dis i h h2) (fun h => by have := t.r.lim i h2; omega), grew_ge t.hF t.below.size hg, t.hF2, below_kept t.below hk t.hF⟩
theorem Two.stepr (t : Two w wr F F2 g bm g2 bm2 l l2) (hq : QF wr' F' g2 bm2 1048576 l') (hi : QI l') (hg : Grew wr F2 F') (hk : Kept F2 wr wr') : Two w wr' F F' g bm g2 bm2 l l' :=
  ⟨t.q.kept hk (fun i h2 h1 => t.dis i h2 h1), hq, t.qi, hi, fun i h1 hi => (hg.2 i hi).elim (fun h => t.dis i h1 h) (fun h => by have := t.q.lim i h1; omega), t.hF, grew_ge t.hF2 t.below.size hg, below_kept t.below hk t.hF2⟩
theorem Two.keptAt {gl : Nat} (t : Two w wr F F2 g bm g2 bm2 l l2) (k : Kept (fun i => i = gl) wr wr') (h1 : ¬ F gl) (h2 : ¬ F2 gl) (h3 : w.heap.size ≤ gl) : Two w wr' F F2 g bm g2 bm2 l l2 :=
  ⟨t.q.kept k (fun i hi e => h1 (e ▸ hi)), t.r.kept k (fun i hi e => h2 (e ▸ hi)), t.qi, t.ri, t.dis, t.hF, t.hF2, below_kept t.below k (fun i e => e ▸ h3)⟩
end
/-- No What twice among the first j. -/
def Dj (L : List OpA) (j : Nat) : Prop := ∀ (p q : Nat) (o o' : OpA), p < j → q < j → L[p]? = some o → L[q]? = some o' → o.x = o'.x → p = q
def M1 (L : List OpA) (j : Nat) (l : List Ent) : Prop := ∀ x, x ∈ l ↔ ∃ (p : Nat) (o : OpA), p < j ∧ L[p]? = some o ∧ x = o.e
def M2 (L : List OpA) (m : Nat) (l : List Ent) : Prop := ∀ x, x ∈ l ↔ ∃ (p : Nat) (o : OpA), m ≤ p ∧ L[p]? = some o ∧ x = o.half
def M3 (L : List OpA) (m : Nat) (l : List Ent) : Prop := ∀ x, x ∈ l ↔ ∃ (p : Nat) (o : OpA), L[p]? = some o ∧ ((m ≤ p ∧ x = o.e) ∨ (p < m ∧ x = o.half))
structure Q1 (w : World) (L : List OpA) (g bm g2 bm2 : Nat) (i : Value) (wr : World) : Prop where
  ex : ∃ (j : Nat) (F F2 : Nat → Prop) (l : List Ent), i = .int .i64 j ∧ j ≤ L.length ∧ Hid (Two w wr F F2 g bm g2 bm2 l []) ∧ Hid (M1 L j l) ∧ Hid (l.length = j) ∧ Hid (Dj L j)
structure Q1i (wj : World) (L : List OpA) (j : Nat) (x : Int) (met k : Value) (wr : World) : Prop where
  ex : ∃ (p : Nat) (b : Bool), met = .bool b ∧ k = .int .i64 p ∧ p ≤ j ∧ Hid (b = false → ∀ (q : Nat) (o : OpA), q < p → L[q]? = some o → o.x ≠ x)
  below : Hid (Below wj.heap.size wj wr)
structure Q2 (w : World) (L : List OpA) (F : Nat → Prop) (l : List Ent) (g bm g2 bm2 : Nat) (i : Value) (wr : World) : Prop where
  ex : ∃ (m : Nat) (z : Int) (F2 : Nat → Prop) (l2 : List Ent), i = .int .i64 z ∧ z = m - 1 ∧ m ≤ L.length ∧ Hid (Two w wr F F2 g bm g2 bm2 l l2) ∧ Hid (M2 L m l2) ∧ Hid (l2.length + m = L.length)
structure Q3 (w : World) (L : List OpA) (F F2 : Nat → Prop) (l : List Ent) (g bm g2 bm2 : Nat) (i : Value) (wr : World) : Prop where
  ex : ∃ (m : Nat) (z : Int) (l2 : List Ent), i = .int .i64 z ∧ z = m - 1 ∧ m ≤ L.length ∧ Hid (Two w wr F F2 g bm g2 bm2 l l2) ∧ Hid (M3 L m l2)
structure Q4 (w : World) (F F2 : Nat → Prop) (g bm g2 bm2 gl n ns : Nat) (now count i : Value) (wr : World) : Prop where
  ex : ∃ (s c : Nat) (t : Int) (l l2 : List Ent) (z : Ent), now = .int .i64 t ∧ count = .int .i64 c ∧ i = .int .i64 s ∧ s ≤ ns ∧ 0 ≤ t ∧ t ≤ 65535 * s ∧ c ≤ s ∧ Hid (Two w wr F F2 g bm g2 bm2 l l2) ∧ Hid (∀ x, x ∈ l ↔ x ∈ l2) ∧ l.length + c = n ∧ Hid (Blk wr gl 32 #[.int .i64 z.at_, .int .i64 z.rank, .int .u64 z.what]) ∧
    Hid (0 < c → ∀ x ∈ l, lessE x z = false)
/-- What a Take finds. -/
structure TkRes (l l' : List Ent) (t : Int) (x : Ent) (b : Bool) : Prop where
  no : b = false → x = zE ∧ l' = l ∧ ∀ z, l[0]? = some z → t < z.at_
  yes : b = true → l[0]? = some x ∧ x.at_ ≤ t ∧ l' = popL l (l.length - 1)
theorem take_all (w : World) (F : Nat → Prop) (g bm : Nat) (t : Int) (l : List Ent) (q : QF w F g bm 1048576 l) :
    Calls Try.prog 11 #[.pointer (some ⟨g, 0, none⟩), .int .i64 t] w fun e w' => ∃ x b l', e = .returned (.tuple #[x.v, .bool b]) ∧ QF w' F g bm 1048576 l' ∧ TkRes l l' t x b ∧ Kept F w w' := by
  by_cases h0 : l = []
  · subst h0
    refine (take_none w F g bm 1048576 t q (by omega)).mono ?_
    rintro e w' ⟨rfl, hb⟩
    exact ⟨zE, false, [], rfl, q.later hb, ⟨fun _ => ⟨rfl, rfl, fun z h => by simp at h⟩, (fun h => by cases h)⟩, Kept.of_new hb F⟩
  · have hlp : 0 < l.length := List.length_pos_iff.2 h0
    obtain ⟨z, hz⟩ : ∃ z, l[0]? = some z := ⟨_, List.getElem?_eq_getElem hlp⟩
    by_cases ht : t < z.at_
    · refine (take_early w F g bm 1048576 t l q (by omega) z hz ht).mono ?_
      rintro e w' ⟨rfl, hb⟩
      exact ⟨zE, false, l, rfl, q.later hb, ⟨fun _ => ⟨rfl, rfl, fun z' h => by rw [hz] at h; injection h with h; rw [← h]; exact ht⟩, (fun h => by cases h)⟩, Kept.of_new hb F⟩
    · refine (take_due w F g bm 1048576 t l q (by omega) (l.length - 1) (by omega) z hz (by omega)).mono ?_
      rintro e w' ⟨rfl, q', hk⟩
      exact ⟨z, true, _, rfl, q', ⟨(fun h => by cases h), fun _ => ⟨hz, by omega, rfl⟩⟩, hk⟩
theorem next_all (w : World) (F : Nat → Prop) (g bm : Nat) (l : List Ent) (q : QF w F g bm 1048576 l) :
    Calls Try.prog 12 #[.pointer (some ⟨g, 0, none⟩)] w fun e w' => ∃ x b, e = .returned (.tuple #[x.v, .bool b]) ∧ (b = true → l[0]? = some x) ∧ Below w.heap.size w w' := by
  by_cases h0 : l = []
  · subst h0
    refine (next_none w F g bm 1048576 q (by omega)).mono ?_
    rintro e w' ⟨rfl, hb⟩
    exact ⟨zE, false, rfl, fun h => (by cases h), hb⟩
  · have hlp : 0 < l.length := List.length_pos_iff.2 h0
    obtain ⟨z, hz⟩ : ∃ z, l[0]? = some z := ⟨_, List.getElem?_eq_getElem hlp⟩
    refine (next_some w F g bm 1048576 l q (by omega) z hz).mono ?_
    rintro e w' ⟨rfl, hb⟩
    exact ⟨z, true, rfl, fun _ => hz, hb⟩
theorem TkRes.qi {l l' : List Ent} {t : Int} {x : Ent} {b : Bool} (h : TkRes l l' t x b) (q : QI l) : QI l' := by
  cases b
  · rw [(h.no rfl).2.1]; exact q
  · obtain ⟨h1, _, h3⟩ := h.yes rfl
    have hl := (List.getElem?_eq_some_iff.1 h1).1
    rw [h3]
    exact (pop_facts q (n := l.length - 1) (by omega) h1).1
/-- Two takes of heaps with the same members. -/
theorem tk_same {l l' l2 l2' : List Ent} {t : Int} {x y : Ent} {b d : Bool} (h : TkRes l l' t x b) (k : TkRes l2 l2' t y d) (q : QI l) (q2 : QI l2) (hm : ∀ x, x ∈ l ↔ x ∈ l2) : b = d ∧ x = y ∧ ∀ x, x ∈ l' ↔ x ∈ l2' := by
  have hlen := same_len q.dist q2.dist hm
  cases b <;> cases d
  · obtain ⟨h1, h2, _⟩ := h.no rfl
    obtain ⟨k1, k2, _⟩ := k.no rfl
    exact ⟨rfl, by rw [h1, k1], by rw [h2, k2]; exact hm⟩
  · obtain ⟨_, _, h3⟩ := h.no rfl
    obtain ⟨k1, k2, _⟩ := k.yes rfl
    have hl := (List.getElem?_eq_some_iff.1 k1).1
    have hz : l[0]? = some l[0] := List.getElem?_eq_getElem (by omega)
    have e := same_first q q2 hm hz k1
    have := h3 _ hz
    rw [e] at this
    omega
  · obtain ⟨_, _, h3⟩ := k.no rfl
    obtain ⟨k1, k2, _⟩ := h.yes rfl
    have hl := (List.getElem?_eq_some_iff.1 k1).1
    have hz : l2[0]? = some l2[0] := List.getElem?_eq_getElem (by omega)
    have e := same_first q q2 hm k1 hz
    have := h3 _ hz
    rw [← e] at this
    omega
  · obtain ⟨h1, _, h3⟩ := h.yes rfl
    obtain ⟨k1, _, k3⟩ := k.yes rfl
    have e := same_first q q2 hm h1 k1
    subst e
    have hl := (List.getElem?_eq_some_iff.1 h1).1
    refine ⟨rfl, rfl, fun x => ?_⟩
    rw [h3, k3, (pop_facts q (n := l.length - 1) (by omega) h1).2.1, (pop_facts q2 (n := l2.length - 1) (by omega) k1).2.1, hm]
/-- What is taken is not ahead of what was taken last. -/
theorem tk_ord {l l' : List Ent} {t : Int} {x : Ent} (h : TkRes l l' t x true) (q : QI l) : (∀ y ∈ l', lessE y x = false) ∧ l'.length + 1 = l.length ∧ x ∈ l ∧ x.at_ ≤ t := by
  obtain ⟨h1, h2, h3⟩ := h.yes rfl
  have hl := (List.getElem?_eq_some_iff.1 h1).1
  obtain ⟨_, p2, p3, p4⟩ := pop_facts q (n := l.length - 1) (by omega) h1
  rw [h3]
  exact ⟨fun y hy => p4 y ((p2 y).1 hy).1, by omega, List.mem_of_getElem? h1, h2⟩
end Go.Proofs.Ytgpgcjdbppehjaa
